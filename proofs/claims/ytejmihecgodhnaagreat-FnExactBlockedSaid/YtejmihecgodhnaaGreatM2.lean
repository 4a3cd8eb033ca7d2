/- The framework, part OP: a call that is handed one struct in the memory (or a variable of the caller's) to write into, beside values that stay. -/
import Derived.Test.YtejmihecgodhnaaGreatM1
set_option linter.unusedVariables false
namespace Go.Proofs.YtejmihecgodhnaaGreat.Fw
open Go
def uF:AV→Bool
 | .aJ _ full fr=> !full&& !fr
 | a=>iP a
theorem abA {a:AV} (h:uF a=true):iP a=true∧h9 a=a:=by
 cases a with
 | aJ rows full fr=>
  refine⟨rfl,?_⟩
  cases full<;>cases fr<;>first | rfl | cases h
 | _=>first | exact⟨h,rfl⟩
def tw (P:Program) (f:FuncId) (g:Nat) (args:List AV) (aj bL:List AV) (t:AV):Prop:=
 dg P f args [⟨g,aj.length,[aj]⟩] fun r eI=> ∃B,eI=⟨g,aj.length,[bL]⟩::B∧j0 (⟨g+1,aj.length,[bL]⟩::B) r t
def tt (p q a a0:AV):Prop:=(a=p∧a0=q)∨ew [] [] a a0
theorem S2 {E:Env} (ab: ∀c,E.PF c→E.PA c) {a b:AV} (h:fA [] [] a b): ∀{v:Value},bQ E a v→aL E.w E.PA (fun _=>False) b v:=by
 induction h with
 | undef a=>intro v _;exact .undef v
 | int k n=>intro v hv;have hv:aL E.w E.PA E.PF (.int k n) v:=hv;cases hv;exact .int _ _
 | bool k=>intro v hv;have hv:aL E.w E.PA E.PF (.bool k) v:=hv;cases hv;exact .bool _
 | str k=>intro v hv;have hv:aL E.w E.PA E.PF (.str k) v:=hv;cases hv;exact .str _
 | fD=>intro v hv;have hv:aL E.w E.PA E.PF .fD v:=hv;cases hv;exact .fD
 | fT=>intro v hv;have hv:aL E.w E.PA E.PF .fT v:=hv;cases hv;exact .fT
 | aJ rows full fr c8 hw=>
  intro v hv
  have hv:aL E.w E.PA E.PF (.aJ rows full fr) v:=hv
  cases hv with
  | aJ eR eZ fB b3 dL hrel=>
   exact .aJ (fun c hc=>by
    have:=eR c hc
    simp only[Bool.false_eq_true,if_false]
    split at this
    ·exact ab c this
    ·exact this) eZ (fun h=>fB (hw h)) b3 dL hrel
 | c3 cells c=>
  intro v hv
  have hv:aL E.w E.PA E.PF (.c3 cells c) v:=hv
  cases hv with
  | c3 hc dL hrel=>exact .c3 hc dL hrel
 | e4 aB=>cases aB
 | ptr hb=>cases hb
 | ref _ hb=>cases hb
 | @fn f caps yX ao ai bn=>
  intro v hv
  obtain⟨vs,rfl,U⟩:=(show ∃vs:List Value,v= .func (.func f) #[] vs.toArray∧az (ey E) caps vs from hv)
  exact .fn (ao▸U.1) fun i b u hb hu=>by
   have aN:i<caps.length:=by have:=(List.getElem?_eq_some_iff.1 hb).1;omega
   exact bn i _ b (List.getElem?_eq_getElem aN) hb (ET (U.2 i _ u (List.getElem?_eq_getElem aN) hu))
theorem ags {E E1:Env} (ab: ∀c,E.PF c→E.PA c) (hw:E1.w=E.w) (wA:E1.PA=E.PA) {a b:AV} (h:ew [] [] a b) {v:Value} (hv:V2 E a v):V2 E1 b v:=by
 have up: ∀{b:AV} {v:Value},aL E.w E.PA (fun _=>False) b v→bQ E1 b v:=fun h=>aL.v1 (E:=E1) (h.mono (fun _ _=>by rw[hw]) (fun _ h=>h.elim) (fun c hc=>by rw[wA];exact hc) (fun _ h=>h.elim))
 rcases h with⟨l,eN,rfl,rfl,U⟩ | h
 ·obtain⟨vs,rfl,ai⟩:=hv
  refine⟨vs,rfl,U.1▸ai.1,fun i x u hx hu=> ?_⟩
  have aN:i<l.length:=by have:=(List.getElem?_eq_some_iff.1 hx).1;have:=U.1;omega
  have ao:=List.getElem?_eq_getElem aN
  exact up (S2 ab (U.2 i _ x ao hx) (ai.2 i _ u ao hu))
 ·by_cases hf: ∃l,a= .agg l
  ·obtain⟨l,rfl⟩:=hf
   cases h with
   | undef=>exact aL.undef v
  ·rw[n6 fun l e=>hf ⟨l,e⟩] at hv
   exact jD (up (S2 ab h hv))
def Env.one (E:Env) (bl g sz cp:Nat):Env:=
 {w:=E.w,PA:=E.PA,PF:=fun _=>False,m:=fun j=>if j=0 then some (some bl) else none,a6:=fun j=>if j=0 then g else 0
  sz:=fun j=>if j=0 then sz else 0,cp:=fun j=>if j=0 then cp else 0,mL:=fun _=>none}
theorem uW {E:Env} {bl g sz cp j c:Nat} (h:(E.one bl g sz cp).m j=some (some c)):j=0∧c=bl:=by
 have h:(if j=0 then some (some bl) else none)=some (some c):=h
 split at h
 ·rename_i e;cases h;exact⟨e,rfl⟩
 ·cases h
theorem aeg {E:Env} {H:List Blk} (an:SimH E H) {bl g cp:Nat} {aj:List AV} {cells:Array Value} {ty:TypeId} (gx:bl<E.w.heap.size) (wA: ¬E.PA bl) (hw:E.w.heap[bl]?=some (.cells cells ty (0,0))) (b3:cells.size=cp*aj.length) (h1:1≤cp)
  (hk:aj.all uF=true) (ai: ∀(j:Nat) (a:AV),aj[j]?=some a→ ∃u,cells[j]?=some u∧bQ E a u):SimH (E.one bl g aj.length cp) [⟨g,aj.length,[aj]⟩] where
 heap:=fun b c hb=>by
  obtain⟨rfl,rfl⟩:=uW hb
  have eK: ∀{i:Nat} {row:List AV},([aj]:List (List AV))[i]?=some row→i=0∧row=aj:=fun{i row} h=>by
   cases i with
   | zero=>cases h;exact⟨rfl,rfl⟩
   | succ i=>cases h
  refine⟨⟨g,aj.length,[aj]⟩,cells,ty,rfl,rfl,hw,b3,h1,fun i row h=> ?_,fun i j row a h af=> ?_⟩
  ·rw[(eK h).2];rfl
  ·obtain⟨rfl,rfl⟩:=eK h
   obtain⟨u,hu,hv⟩:=ai j a af
   refine⟨u,by rw[Nat.zero_mul,Nat.zero_add];exact hu,?_⟩
   have G0:=abA (List.all_eq_true.1 hk a (List.mem_of_getElem? af))
   have:=Le G0.1 (BF G0.1 hv) (fun c hc=>hc) an.dm
   rw[G0.2] at this
   exact aL.v1 (E:=(E.one c g row.length cp).bO) this
 eG:=fun b blk hb=>by
  cases b with
  | zero=>cases hb;rfl
  | succ b=>cases hb
 gO:=fun b hb=>by
  have hb:(if b=0 then some (some bl) else none)=some none:=hb
  split at hb<;>cases hb
 fresh:=fun b hb=>by
  have hb:1≤b:=hb
  exact⟨if_neg (by omega),if_neg (by omega)⟩
 gD:=fun b bH c h1 h2=>by rw[(uW h1).1,(uW h2).1]
 iZ:=fun t hr c h=>by cases h
 gl:=fun b t c _ h=>by cases h
 hl:=fun c hc ⟨b,hb⟩=>by rw[(uW hb).2] at hc;exact wA hc
 hR:=fun c _ ⟨t,a_⟩=>by cases a_
 dm:=fun c hc=>hc.elim
 fg:=fun c hc=>hc.elim
 du:=an.du
 fm:=fun c ⟨b,hb⟩=>by rw[(uW hb).2];exact gx
 gb:=fun c ⟨t,a_⟩=>by cases a_
structure ts (E:Env) (bl k n:Nat) (bL:List AV) (t:AV) (v:Value) (E':Env):Prop where
 m:E'.m=E.m
 mL:E'.mL=E.mL
 a6:E'.a6=E.a6
 sz:E'.sz=E.sz
 cp:E'.cp=E.cp
 fp: ∀c,E.PA c→E'.PA c
 e6: ∀c,E.PF c→E'.PF c
 dm: ∀c,E'.PF c→E'.PA c
 fg: ∀c,E'.PF c→Plain E'.w c
 Du: ∀c,E'.PA c→E.PA c∨(E.w.heap.size≤c∧c<E'.w.heap.size)
 aeA: ∀c,E'.PF c→E.PF c∨E.w.heap.size≤c
 os:E'.w.os=E.w.os
 tape:E'.w.tape=E.w.tape
 output:E'.w.output=E.w.output
 size:E.w.heap.size≤E'.w.heap.size
 cM: ∀c,c<E.w.heap.size→c≠bl→E'.w.heap[c]?=E.w.heap[c]?
 new: ∃cells ty,E'.w.heap[bl]?=some (.cells cells ty (0,0))∧cells.size=k∧bL.length=n∧ ∀(j:Nat) (a:AV),bL[j]?=some a→ ∃u,cells[j]?=some u∧aL E'.w E'.PA E'.PF a u
 v3:V3 E' t v
theorem J0 {E1 E':Env} {H:List Blk} (hs:SimH E1 H) (hw:E'.w=E1.w) (hu: ∀c,E1.PF c∨E1.fl c→E'.PA c∧E'.PF c) {a b:AV} {u:Value} (h:j0 H a b) (hv:V3 E1 a u):V3 E' b u:=by
 have cN: ∀{a b:AV} {u:Value},fi H a b→bQ E1 a u→bQ E' b u:=fun ap mT=>aL.v1 (E:=E') ((S3 hs ap mT).mono (fun _ _=>by rw[hw]) (fun _ _=>by rw[hw]) (fun c hc=>(hu c hc).1) (fun c hc=>(hu c hc).2))
 have c5: ∀{a b:AV} {u:Value},sg H a b→V2 E1 a u→V2 E' b u:=by
  rintro a b u (⟨l,eN,rfl,rfl,ab⟩ | h) hu
  ·obtain⟨et,rfl,U⟩:=hu
   refine⟨et,rfl,ab.1▸U.1,fun i x y hx aS=> ?_⟩
   have aN:i<l.length:=by have:=(List.getElem?_eq_some_iff.1 hx).1;have:=ab.1;omega
   have ao:=List.getElem?_eq_getElem aN
   exact cN (ab.2 i _ x ao hx) (U.2 i _ y ao aS)
  ·have:bQ E1 a u:=by cases h<;>exact hu
   exact jD (cN h this)
 rcases h with⟨l,eN,rfl,rfl,ab⟩ | h
 ·obtain⟨et,rfl,U⟩:=hv
  refine⟨et,rfl,ab.1▸U.1,fun i x y hx aS=> ?_⟩
  have aN:i<l.length:=by have:=(List.getElem?_eq_some_iff.1 hx).1;have:=ab.1;omega
  have ao:=List.getElem?_eq_getElem aN
  exact c5 (ab.2 i _ x ao hx) (U.2 i _ y ao aS)
 ·have:V2 E1 a u:=by
   rcases h with⟨l,eN,rfl,rfl,ab⟩ | h
   ·exact hv
   ·cases h<;>exact hv
  exact pR (c5 h this)
theorem Ma {P:Program} {f:FuncId} {vs:List Value} {E:Env} {H:List Blk} {args dB aj bL:List AV} {p t:AV} {bl g cp:Nat} {cells:Array Value} {ty:TypeId} (an:SimH E H) (gx:bl<E.w.heap.size) (wA: ¬E.PA bl)
  (hw:E.w.heap[bl]?=some (.cells cells ty (0,0))) (b3:cells.size=cp*aj.length) (h1:1≤cp) (hk:aj.all uF=true) (ai: ∀(j:Nat) (a:AV),aj[j]?=some a→ ∃u,cells[j]?=some u∧bQ E a u)
  (ap:az (V2 E) args vs) (ab: ∀v,V2 E p v→v= .pointer (some ⟨bl,0,none⟩)) (hs:az (tt p (.ptr 0 g 0 0)) args dB) (jq:bL.all iP=true) (h:tw P f g dB aj bL t):
  Calls P f vs.toArray E.w fun e w'=> ∃v E',e= .returned v∧E'.w=w'∧ts E bl (cp*aj.length) aj.length bL t v E':=by
 have tU:az (V2 (E.one bl g aj.length cp)) dB vs:=⟨hs.1▸ap.1,fun i x u hx hu=>by
  have aN:i<args.length:=by have:=(List.getElem?_eq_some_iff.1 hx).1;have:=hs.1;omega
  have ao:=List.getElem?_eq_getElem aN
  rcases hs.2 i _ x ao hx with⟨ax,rfl⟩ | h
  ·have hv:=ap.2 i _ u ao hu
   rw[ax] at hv
   rw[ab u hv]
   exact .inr ⟨rfl,bl,rfl,by rw[Nat.zero_mul]⟩
  ·exact ags (E1:=E.one bl g aj.length cp) an.dm rfl rfl h (ap.2 i _ u ao hu)⟩
 refine(h.2 (E.one bl g aj.length cp) vs (fun _=>rfl) (aeg an gx wA hw b3 h1 hk ai) tU).mono ?_
 rintro e w' ⟨r,v,eI,E1,rfl,⟨B,rfl,G_⟩,rfl,ad,ez,hv,aQ⟩
 have aB:E1.a6 0=g:=ez.eG 0 _ rfl
 obtain⟨hm,av,hc⟩:=aQ.le.m 0 (some bl) rfl aB
 have av:E1.sz 0=aj.length:=av
 have hc:E1.cp 0=cp:=hc
 obtain⟨blk,we,ty2,q1,bU,q2,q3,q4,cP,cF⟩:=ez.heap 0 bl hm
 cases q1
 have wO: ∀c,E1.PF c∨(∃j,j≠0∧E1.m j=some (some c))→E.w.heap.size≤c∧c<E1.w.heap.size:=by
  rintro c (hc | ⟨j,af,Cs⟩)
  ·exact⟨(aQ.e6 c hc).elim (fun h=>h.elim) id,ez.du c (ez.dm c hc)⟩
  ·refine⟨(aQ.oj c ⟨j,Cs⟩).elim (fun⟨b,hb⟩=> ?_) id,ez.fm c ⟨j,Cs⟩⟩
   rw[(uW hb).2] at Cs
   exact absurd (ez.gD j 0 bl Cs hm) af
 have me: ∀c,c<E.w.heap.size→c≠bl→E1.w.heap[c]?=E.w.heap[c]?:=fun c hc bN=>aQ.cM c hc (fun⟨b,hb⟩=>bN (uW hb).2) (fun⟨t,a_⟩=>by cases a_)
 have ZB: ∀c,E1.PA c→E.PA c∨(E.w.heap.size≤c∧c<E1.w.heap.size):=fun c hc=>(aQ.fp c hc).elim .inl fun h=> .inr ⟨h,ez.du c hc⟩
 let E':Env:={E with w:=E1.w,PA:=fun c=>E.PA c∨E1.PA c∨(E1.PF c∨ ∃j,j≠0∧E1.m j=some (some c)),PF:=fun c=>E.PF c∨(E1.PF c∨ ∃j,j≠0∧E1.m j=some (some c))}
 let A_:Env:={E1 with m:=fun j=>if j=0 then none else E1.m j,a6:=fun j=>if j=0 then g+1 else E1.a6 j}
 have aO: ∀{j:Nat} {x:Option Nat},A_.m j=some x→j≠0∧E1.m j=some x:=fun{j x} h=>by
  have h:(if j=0 then none else E1.m j)=some x:=h
  split at h
  ·cases h
  ·rename_i e;exact⟨e,h⟩
 have zp: ∀{j:Nat},j≠0→A_.a6 j=E1.a6 j:=fun{j} h=>if_neg h
 have hle:E1.gh A_:=⟨fun _ h=>h,fun _ h=>h,fun _ _=>rfl,fun _ _=>rfl,fun b=>by
   by_cases e:b=0
   ·subst e;show E1.a6 0≤(if 0=0 then g+1 else E1.a6 0);rw[if_pos rfl,aB];omega
   ·rw[zp e];exact Nat.le_refl _,fun b x hx p8=>by
   by_cases e:b=0
   ·subst e
    have p8:(if 0=0 then g+1 else E1.a6 0)=E1.a6 0:=p8
    rw[if_pos rfl,aB] at p8;omega
   ·exact⟨by show(if b=0 then none else E1.m b)=_;rw[if_neg e];exact hx,rfl,rfl⟩,fun _ _ h=>h⟩
 have o8: ∀{j:Nat} (x y:Blk),j≠0→(x::B)[j]?=(y::B)[j]?:=fun{j} x y af=>by
  cases j with
  | zero=>exact absurd rfl af
  | succ j=>rfl
 have ZM:SimH A_ (⟨g+1,aj.length,[bL]⟩::B):=
  {heap:=fun b c hb=>by
    obtain⟨GH,hb⟩:=aO hb
    obtain⟨blk,wa,ty,cN,eA,c5,fs,nT,ae8,ae9⟩:=ez.heap b c hb
    refine⟨blk,wa,ty,by rw[o8 _ ⟨g,aj.length,[bL]⟩ GH];exact cN,eA,c5,fs,nT,ae8,fun i j row a h1 h2=> ?_⟩
    obtain⟨u,hu,gy⟩:=ae9 i j row a h1 h2
    exact⟨u,hu,gy.le hle.bO⟩
   eG:=fun b blk hb=>by
    by_cases e:b=0
    ·subst e;cases hb;rfl
    ·rw[zp e];rw[o8 _ ⟨g,aj.length,[bL]⟩ e] at hb;exact ez.eG b blk hb
   gO:=fun b hb=>by
    obtain⟨GH,hb⟩:=aO hb
    obtain⟨blk,cN,c5⟩:=ez.gO b hb
    exact⟨blk,by rw[o8 _ ⟨g,aj.length,[bL]⟩ GH];exact cN,c5⟩
   fresh:=fun b hb=>by
    have hb:B.length+1≤b:=hb
    have:=ez.fresh b hb
    exact⟨by show(if b=0 then none else E1.m b)=none;rw[if_neg (by omega)];exact this.1,by rw[zp (by omega)];exact this.2⟩
   gD:=fun b bH c h1 h2=>ez.gD b bH c (aO h1).2 (aO h2).2
   iZ:=ez.iZ
   gl:=fun b t c h1 h2=>ez.gl b t c (aO h1).2 h2
   hl:=fun c hc ⟨b,hb⟩=>ez.hl c hc ⟨b,(aO hb).2⟩
   hR:=ez.hR
   dm:=ez.dm
   fg:=ez.fg
   du:=ez.du
   fm:=fun c ⟨b,hb⟩=>ez.fm c ⟨b,(aO hb).2⟩
   gb:=ez.gb}
 refine⟨v,E',rfl,rfl,rfl,rfl,rfl,rfl,rfl,fun c hc=> .inl hc,fun c hc=> .inl hc,fun c hc=>hc.elim (fun h=> .inl (an.dm c h)) (fun h=> .inr (.inr h)),fun c hc=>hc.elim (fun h=>(an.fg c h).same (me c (an.du c (an.dm c h)) (fun e=>by subst e;exact wA (an.dm _ h)))) (fun h=>h.elim (ez.fg c) fun⟨j,_,af⟩=>by obtain⟨_,aj,ty,_,_,q,_⟩:=ez.heap j c af;exact⟨aj,ty,q⟩),fun c hc=> ?_,fun c hc=>hc.elim .inl (fun h=> .inr (wO c h).1),
  aQ.os,aQ.tape,aQ.output,aQ.size,me,⟨we,ty2,q2,by rw[q3,av,hc],?_,fun j a af=> ?_⟩,?_⟩
 ·rcases hc with h | h | h
  ·exact .inl h
  ·exact ZB c h
  ·exact .inr (wO c h)
 ·have:=cP 0 bL rfl
  rw[av] at this;exact this
 ·obtain⟨u,hu,gy⟩:=cF 0 j bL a rfl af
  refine⟨u,by rw[Nat.zero_mul,Nat.zero_add] at hu;exact hu,?_⟩
  have hb:=List.all_eq_true.1 jq a (List.mem_of_getElem? af)
  exact(BF hb gy).mono (fun _ _=>rfl) (fun _ _=>rfl) (fun c hc=> .inr (.inl hc)) (fun c hc=> .inr (.inl hc))
 ·refine J0 (E':=E') ZM rfl (fun c hc=> ?_) G_ (hv.le hle)
  have:E1.PF c∨ ∃j,j≠0∧E1.m j=some (some c):=hc.elim .inl fun⟨j,af⟩=> .inr ⟨j,aO af⟩
  exact⟨.inr (.inr this),.inr this⟩
section
variable {E E':Env} {H:List Blk} {L:List (Nat×List AV)} {bl k n:Nat} {bL:List AV} {t:AV} {v:Value}
theorem ts.step (A:ts E bl k n bL t v E') (an:SimH E H) (gx:E.fl bl∨E.kc bl):Step E E':=
 {le:=⟨A.fp,A.e6,fun c hc=>A.cM c (an.du c hc) (fun e=>by subst e;exact gx.elim (an.hl c hc) (an.hR c hc)),fun c hc=>A.cM c (an.du c (an.dm c hc)) (fun e=>by subst e;exact gx.elim (an.hl c (an.dm c hc)) (an.hR c (an.dm c hc))),
   fun b=>by rw[A.a6];exact Nat.le_refl _,fun b x hx _=>by rw[A.m,A.sz,A.cp];exact⟨hx,rfl,rfl⟩,fun t c h=>by rw[A.mL];exact h⟩
  os:=A.os,tape:=A.tape,output:=A.output,size:=A.size
  cM:=fun c hc h1 h2=>A.cM c hc (fun e=>by subst e;exact gx.elim h1 h2)
  iB:=fun b c hb=> .inl (by rw[←A.m];exact hb)
  iY:=fun c ⟨t,a_⟩=> .inl ⟨t,by rw[←A.mL];exact a_⟩
  fp:=fun c hc=>(A.Du c hc).elim .inl fun h=> .inr h.1
  e6:=A.aeA}
theorem ts.simH (A:ts E bl k n bL t v E') (an:SimH E H) (gx:E.fl bl∨E.kc bl) {H':List Blk} (hlen:H'.length=H.length) (aB: ∀(b:Nat) (x:Blk),H'[b]?=some x→ ∃y,H[b]?=some y∧x.a6=y.a6) (hs: ∀(b:Nat) (y:Blk),H[b]?=some y→ ∃x,H'[b]?=some x∧x.sz=y.sz)
  (hb: ∀b c,E.m b=some (some c)→(c≠bl∧H'[b]?=H[b]?)∨ ∃blk aj ty,H'[b]?=some blk∧E.sz b=blk.sz∧E'.w.heap[c]?=some (.cells aj ty (0,0))∧aj.size=E.cp b*E.sz b∧blk.rows.length≤E.cp b∧vN E' (E.sz b) blk.rows aj):SimH E' H':=by
 have aQ:=A.step an gx
 have pj: ∀c,E'.fl c→E.fl c:=fun c ⟨b,hb⟩=>⟨b,by rw[←A.m];exact hb⟩
 have HA: ∀c,E'.kc c→E.kc c:=fun c ⟨b,hb⟩=>⟨b,by rw[←A.mL];exact hb⟩
 have jK:=an.fm
 have jL:=an.gb
 exact{
  heap:=fun b c h=>by
   rw[A.m] at h
   rw[A.sz,A.cp]
   rcases hb b c h with⟨bN,he⟩ | h
   ·obtain⟨blk,aj,ty,q1,bU,q2,q3,q4,cP,cF⟩:=an.heap b c h
    refine⟨blk,aj,ty,by rw[he];exact q1,bU,by rw[A.cM c (jK c ⟨b,h⟩) bN];exact q2,q3,q4,cP,fun i j row a h1 h2=> ?_⟩
    obtain⟨u,hu,gy⟩:=cF i j row a h1 h2
    exact⟨u,hu,gy.le aQ.le.bO⟩
   ·exact h
  eG:=fun b blk h=>by
   rw[A.a6]
   obtain⟨y,h1,h2⟩:=aB b blk h
   rw[h2];exact an.eG b y h1
  gO:=fun b h=>by
   rw[A.m] at h
   obtain⟨y,h1,h2⟩:=an.gO b h
   obtain⟨x,ay,bg⟩:=hs b y h1
   exact⟨x,ay,by rw[A.sz,bg];exact h2⟩
  fresh:=fun b h=>by rw[A.m,A.a6];exact an.fresh b (by rw[←hlen];exact h)
  gD:=fun b bH c h1 h2=>by rw[A.m] at h1 h2;exact an.gD b bH c h1 h2
  iZ:=fun t hr c h1 h2=>by rw[A.mL] at h1 h2;exact an.iZ t hr c h1 h2
  gl:=fun b t c h1 h2=>by rw[A.m] at h1;rw[A.mL] at h2;exact an.gl b t c h1 h2
  hl:=fun c hc hi=>(A.Du c hc).elim (fun h=>an.hl c h (pj c hi)) (fun h=>absurd (jK c (pj c hi)) (by omega))
  hR:=fun c hc hi=>(A.Du c hc).elim (fun h=>an.hR c h (HA c hi)) (fun h=>absurd (jL c (HA c hi)) (by omega))
  dm:=A.dm
  fg:=A.fg
  du:=fun c hc=>(A.Du c hc).elim (fun h=>Nat.lt_of_lt_of_le (an.du c h) A.size) (fun h=>h.2)
  fm:=fun c hc=>Nat.lt_of_lt_of_le (jK c (pj c hc)) A.size
  gb:=fun c hc=>Nat.lt_of_lt_of_le (jL c (HA c hc)) A.size}
theorem ts.row (A:ts E bl k n bL t v E') (hk:bL.all iP=true) {cells:Array Value} {ty:TypeId} (hw:E'.w.heap[bl]?=some (.cells cells ty (0,0))):bL.length=n∧cells.size=k∧ ∀(j:Nat) (a:AV),bL[j]?=some a→ ∃u,cells[j]?=some u∧bQ E'.bO a u:=by
 obtain⟨a8,ty2,q1,q2,q3,q4⟩:=A.new
 rw[hw] at q1
 cases q1
 refine⟨q3,q2,fun j a af=> ?_⟩
 obtain⟨u,hu,ai⟩:=q4 j a af
 exact⟨u,hu,aL.v1 (E:=E'.bO) ai⟩
end
theorem V9 {P:Program} {f:FuncId} {vs:List Value} {E:Env} {H:List Blk} {L:List (Nat×List AV)} {args dB aj bL:List AV} {t:AV} {b g:Nat} (an:SimH E H) (bB:SimL E L) (hb:H[b]?=some ⟨g,aj.length,[aj]⟩) (hk:aj.all uF=true) (jq:bL.all iP=true)
  (ap:az (V2 E) args vs) (hm:AV.ptr b g 0 0∈args) (hs:az (tt (.ptr b g 0 0) (.ptr 0 g 0 0)) args dB) (h:tw P f g dB aj bL t):
  Calls P f vs.toArray E.w fun e w'=> ∃v E',e= .returned v∧E'.w=w'∧Step E E'∧SimH E' (H.set b ⟨g,aj.length,[bL]⟩)∧SimL E' L∧V3 E' t v∧E'.mL=E.mL:=by
 have jI:=an.eG b _ hb
 have lF: ∀v,V2 E (.ptr b g 0 0) v→ ∃bl,E.m b=some (some bl)∧v= .pointer (some ⟨bl,0,none⟩):=fun v hv=>by
  obtain⟨bl,hm,rfl⟩:=V3.Dz (E:=E) (v:=v) (show V3 E (.ptr b g 0 0) v from hv) jI
  exact⟨bl,hm,by rw[Nat.zero_mul]⟩
 obtain⟨i,hi,he⟩:=List.mem_iff_getElem.1 hm
 have f_:i<vs.length:=ap.1▸hi
 have h3:=ap.2 i _ _ (List.getElem?_eq_getElem hi) (List.getElem?_eq_getElem f_)
 rw[he] at h3
 obtain⟨bl,j7,_⟩:=lF _ h3
 obtain⟨blk,cells,ty,q1,bU,q2,q3,q4,cP⟩:=an.heap b bl j7
 rw[hb] at q1
 cases q1
 have bU:E.sz b=aj.length:=bU
 have gx:bl<E.w.heap.size:=an.fm bl ⟨b,j7⟩
 refine(Ma (bl:=bl) (cp:=E.cp b) an gx (fun h=>an.hl bl h ⟨b,j7⟩) q2 (by rw[q3,bU]) q4 hk (fun j a af=> ?_) ap (fun v hv=> ?_) hs jq h).mono ?_
 ·obtain⟨u,hu,gy⟩:=cP.2 0 j aj a rfl af
  exact⟨u,by rw[Nat.zero_mul,Nat.zero_add] at hu;exact hu,gy.up⟩
 ·obtain⟨VI,h1,rfl⟩:=lF v hv
  rw[j7] at h1;cases h1;rfl
 rintro e w' ⟨v,E',rfl,rfl,A⟩
 have re:E.fl bl∨E.kc bl:= .inl ⟨b,j7⟩
 have aQ:=A.step an re
 refine⟨v,E',rfl,rfl,aQ,A.simH an re (by rw[List.length_set]) (fun j x hx=> ?_) (fun j y aS=> ?_) (fun j c af=> ?_),fun u c hu=> ?_,A.v3,A.mL⟩
 ·rw[List.getElem?_set] at hx
  split at hx
  ·rename_i e;subst e
   split at hx
   ·cases hx;exact⟨_,hb,rfl⟩
   ·cases hx
  ·exact⟨x,hx,rfl⟩
 ·rw[List.getElem?_set]
  split
  ·rename_i e;subst e
   rw[hb] at aS;cases aS
   rw[if_pos (List.getElem?_eq_some_iff.1 hb).1];exact⟨_,rfl,rfl⟩
  ·exact⟨y,aS,rfl⟩
 ·by_cases e:j=b
  ·subst e
   rw[j7] at af
   cases af
   obtain⟨a8,ty2,cN,c5,fs,nT⟩:=A.new
   obtain⟨s1,s2,lk⟩:=A.row jq cN
   refine .inr ⟨⟨g,aj.length,[bL]⟩,a8,ty2,by rw[List.getElem?_set,if_pos rfl,if_pos (List.getElem?_eq_some_iff.1 hb).1],bU,cN,by rw[c5,bU],q4,fun i row ai=> ?_,fun i j row a ai af=> ?_⟩
   ·cases i with
    | zero=>cases ai;rw[bU];exact s1
    | succ i=>cases ai
   ·cases i with
    | zero=>
     cases ai
     obtain⟨u,hu,gy⟩:=lk j a af
     exact⟨u,by rw[Nat.zero_mul,Nat.zero_add];exact hu,gy⟩
    | succ i=>cases ai
  ·refine .inl ⟨fun h=>e ?_,by rw[List.getElem?_set,if_neg (fun h=>e h.symm)]⟩
   subst h;exact an.gD j b c af j7
 ·rw[A.mL] at hu
  obtain⟨wa,a8,ty2,cN,c5,fs⟩:=bB u c hu
  exact⟨wa,a8,ty2,cN,by rw[A.cM c (an.gb c ⟨u,hu⟩) (fun e=>by subst e;exact an.gl b u c j7 hu)];exact c5,fs.mono fun _ _ k=>k.le aQ.le.bO⟩
theorem V_ {P:Program} {f:FuncId} {vs:List Value} {E:Env} {H:List Blk} {L:List (Nat×List AV)} {args dB aj bL:List AV} {t:AV} {x:Nat} (an:SimH E H) (bB:SimL E L) (hx:dT L x=some aj) (hk:aj.all uF=true) (jq:bL.all iP=true)
  (ap:az (V2 E) args vs) (hm:AV.e4 x 0∈args) (hs:az (tt (.e4 x 0) (.ptr 0 0 0 0)) args dB) (h:tw P f 0 dB aj bL t):
  Calls P f vs.toArray E.w fun e w'=> ∃v E',e= .returned v∧E'.w=w'∧Step E E'∧SimH E' H∧SimL E' (kA L x bL)∧V3 E' t v∧E'.mL=E.mL:=by
 have lF: ∀v,V2 E (.e4 x 0) v→ ∃bl,E.mL x=some bl∧v= .pointer (some ⟨bl,0,none⟩):=fun v hv=>hv
 obtain⟨i,hi,he⟩:=List.mem_iff_getElem.1 hm
 have f_:i<vs.length:=ap.1▸hi
 have h3:=ap.2 i _ _ (List.getElem?_eq_getElem hi) (List.getElem?_eq_getElem f_)
 rw[he] at h3
 obtain⟨bl,j7,_⟩:=lF _ h3
 obtain⟨wa,cells,ty,q1,q2,q3⟩:=bB x bl j7
 rw[hx] at q1
 cases q1
 have gx:bl<E.w.heap.size:=an.gb bl ⟨x,j7⟩
 have b3:cells.size=1*aj.length:=by rw[Nat.one_mul];exact q3.1.symm
 refine(Ma (bl:=bl) (cp:=1) an gx (fun h=>an.hR bl h ⟨x,j7⟩) q2 b3 (Nat.le_refl _) hk (fun j a af=> ?_) ap (fun v hv=> ?_) hs jq h).mono ?_
 ·obtain⟨u,hu,gy⟩:=q3.get af
  exact⟨u,by rw[Array.getElem?_toList] at hu;exact hu,gy.up⟩
 ·obtain⟨VI,h1,rfl⟩:=lF v hv
  rw[j7] at h1;cases h1;rfl
 rintro e w' ⟨v,E',rfl,rfl,A⟩
 have re:E.fl bl∨E.kc bl:= .inr ⟨x,j7⟩
 have aQ:=A.step an re
 refine⟨v,E',rfl,rfl,aQ,A.simH an re rfl (fun j y aS=>⟨y,aS,rfl⟩) (fun j y aS=>⟨y,aS,rfl⟩) (fun j c af=> .inl ⟨fun e=>by subst e;exact an.gl j x c af j7,rfl⟩),fun u c hu=> ?_,A.v3,A.mL⟩
 rw[A.mL] at hu
 rw[y_]
 by_cases e:u=x
 ·subst e
  rw[j7] at hu
  cases hu
  obtain⟨a8,ty2,cN,c5,fs,nT⟩:=A.new
  obtain⟨s1,s2,lk⟩:=A.row jq cN
  rw[if_pos rfl,hx]
  refine⟨bL,a8,ty2,rfl,cN,by show bL.length=a8.size;rw[s1,s2,Nat.one_mul],fun j a v af hv=> ?_⟩
  obtain⟨ai1,mT,gy⟩:=lk j a af
  rw[Array.getElem?_toList,mT] at hv
  cases hv;exact gy
 ·rw[if_neg e]
  obtain⟨bc,a8,ty2,cN,c5,fs⟩:=bB u c hu
  exact⟨bc,a8,ty2,cN,by rw[A.cM c (an.gb c ⟨u,hu⟩) (fun h=>by subst h;exact e (an.iZ u x c hu j7))];exact c5,fs.mono fun _ _ k=>k.le aQ.le.bO⟩
def L_ (P:Program) (f:FuncId) (args:List AV) (L:List (Nat×List AV)) (H:List Blk) (K:nZ Prop):Prop:=
 ∃dB aj bL t,aj.all uF=true∧bL.all iP=true∧
  ((∃b g,H[b]?=some ⟨g,aj.length,[aj]⟩∧AV.ptr b g 0 0∈args∧az (tt (.ptr b g 0 0) (.ptr 0 g 0 0)) args dB∧tw P f g dB aj bL t∧K t L (H.set b ⟨g,aj.length,[bL]⟩))∨
   ∃x,dT L x=some aj∧AV.e4 x 0∈args∧az (tt (.e4 x 0) (.ptr 0 0 0 0)) args dB∧tw P f 0 dB aj bL t∧K t (kA L x bL) H)
theorem V8 {P:Program} {f:FuncId} {args:List AV} {L:List (Nat×List AV)} {H:List Blk} {E:Env} {vs:List Value} {K:AV→List (Nat×List AV)→List Blk→Prop} (an:SimH E H) (bB:SimL E L) (ap:az (V2 E) args vs) (h:L_ P f args L H K):
  s3 P f=true∧Calls P f vs.toArray E.w fun e w'=> ∃v u L' H' E',e= .returned u∧K v L' H'∧E'.w=w'∧Step E E'∧SimH E' H'∧SimL E' L'∧V3 E' v u∧E'.mL=E.mL:=by
 obtain⟨dB,aj,bL,t,hk,jq,⟨b,g,hb,hm,hs,hf,hK⟩ | ⟨x,hx,hm,hs,hf,hK⟩⟩:=h
 ·refine⟨hf.1,(V9 an bB hb hk jq ap hm hs hf).mono ?_⟩
  rintro e w' ⟨v,E',rfl,rfl,h1,h2,ay,bg,cW⟩
  exact⟨t,v,L,_,E',rfl,hK,rfl,h1,h2,ay,bg,cW⟩
 ·refine⟨hf.1,(V_ an bB hx hk jq ap hm hs hf).mono ?_⟩
  rintro e w' ⟨v,E',rfl,rfl,h1,h2,ay,bg,cW⟩
  exact⟨t,v,_,H,E',rfl,hK,rfl,h1,h2,ay,bg,cW⟩
def V5 (P:Program) (f:FuncId) (args:List AV) (L:List (Nat×List AV)) (H:List Blk) (K:nZ Prop):Prop:=
 args.all en=true∧ ∃dB,az (ew L H) args dB∧dg P f dB [] fun r eI=>xp r=true∧s5 eI=true∧K (pG H.length r) L (H++eI.map (kB H.length))
def V1 (P:Program) (f:FuncId) (args:List AV) (L:List (Nat×List AV)) (H:List Blk) (K:nZ Prop):Prop:=
 args.all en=true∧args.all jR=true∧dg P f args H fun r H'=>xi r=true∧K r L H'
def kK (P:Program) (f:FuncId) (args:List AV) (L:List (Nat×List AV)) (H:List Blk) (K:nZ Prop):Prop:=
 oa P f args L H (fun r=>K r L H)∨V5 P f args L H K∨V1 P f args L H K∨(args.all en=true∧L_ P f args L H K)
def MI (P:Program) (c:Call) (bo:Operand→AV) (L:List (Nat×List AV)) (H:List Blk) (K:nZ Prop):Prop:=match c.callee with
 | .builtin .len=>F4 P c bo L H fun r=>K r L H
 | .builtin .append=>(match c.args.toList,c.argTypes.toList with
  | [s,x],[t,t2]=>en (bo s)=true∧en (bo x)=true∧tF P t t2 (bo s) (bo x) L H K
  | _,_=>False)
 | .value f=>k7 (bo f) fun g caps=>kK P g (c.args.toList.map bo++caps) L H K
 | _=>False
def jE (P:Program) (esc:List Nat) (o:Oper) (bo:Operand→AV) (L:List (Nat×List AV)) (H:List Blk) (K:nZ Prop):Prop:=match o.op with
 | .store t a v=>eo (en (bo v)) (ln P t (bo a) (bo v) L H fun L' H'=>K (.tup []) L' H')
 | .alloc e=>cD (mD P e) fun z=>uS esc o.dst z L H K
 | .box e x=>eo (en (bo x)) (uS esc o.dst (eM (bo x)) L H K)
 | .makeSlice t l c=>xf P t (bo l) (bo c) L H K
 | .buildSlice t n ps=>eo (ps.toList.all fun p=>en (bo p.2)) (tK P (tP esc o.dst) (vd esc) t n (ps.toList.map fun p=>(p.1,bo p.2)) L H K)
 | .call c=>MI P c bo L H K
 | _=>so P o bo L H fun r=>K r L H
theorem Bo {E:Env} {a:AV} {v:Value} (h:en a=true) (hv:V3 E a v):V2 E a v:=by
 rwa [n7 (xj h)] at hv
theorem V6 {P:Program} {f:FuncId} {args:List AV} {L:List (Nat×List AV)} {H:List Blk} {E:Env} {vs:List Value} {K:AV→List (Nat×List AV)→List Blk→Prop} (an:SimH E H) (bB:SimL E L)
  (ap:az (V2 E) args vs) (h:kK P f args L H K):
  s3 P f=true∧Calls P f vs.toArray E.w fun e w'=> ∃v u L' H' E',e= .returned u∧K v L' H'∧E'.w=w'∧Step E E'∧SimH E' H'∧SimL E' L'∧V3 E' v u∧E'.mL=E.mL:=by
 rcases h with⟨ad,dB,t,hs,pc,hK⟩ | ⟨ad,dB,hs,pc⟩ | ⟨ad,ao,pc⟩ | ⟨ad,ab⟩
 ·refine⟨pc.1,(Mb (Sub.refl L H) an bB ap hs pc).mono ?_⟩
  rintro e w' ⟨v,E',rfl,rfl,U,hv⟩
  exact⟨t,v,L,H,E',rfl,hK,rfl,U.step,U.simH an,U.simL an bB,hv,U.mL⟩
 ·refine⟨pc.1,(V7 (Q:=fun r eI=>K (pG H.length r) L (H++eI.map (kB H.length))) an bB ap hs pc).mono ?_⟩
  rintro e w' ⟨r,v,eI,E',rfl,hK,rfl,aQ,h1,h2,hv,hml⟩
  exact⟨_,v,L,_,E',rfl,hK,rfl,aQ,h1,h2,hv,hml⟩
 ·refine⟨pc.1,(V4 (Q:=fun r H'=>K r L H') an bB ap ao pc).mono ?_⟩
  rintro e w' ⟨r,v,H',E',rfl,hK,rfl,aQ,h1,h2,hv,hml⟩
  exact⟨_,v,L,_,E',rfl,hK,rfl,aQ,h1,h2,hv,hml⟩
 ·exact V8 an bB ap ab
theorem V0 {P:Program} {f:FuncId} {args:List AV} {L:List (Nat×List AV)} {H:List Blk} {K:AV→List (Nat×List AV)→List Blk→Prop} (h:kK P f args L H K):args.all en=true:=by
 rcases h with⟨ad,_⟩ | ⟨ad,_⟩ | ⟨ad,_⟩ | ⟨ad,_⟩<;>exact ad
set_option maxHeartbeats 1000000 in
theorem evOp_sound {P:Program} {esc:List Nat} {o:Oper} {a:Act} {T:List AV} {E:Env} {L:List (Nat×List AV)} {H:List Blk} {K:AV→List (Nat×List AV)→List Blk→Prop} {Q:Exit→Act→World→Prop}
  (bZ: ∀t,V3 E (T.getD t .undef) (a.tmps.getD t undef)) (an:SimH E H) (bB:SimL E L) (h:jE P esc o (bY T) L H K):o.wp P a E.w (EE E o a K) Q:=by
 have fin: ∀{s:Sem Value},(execOp a.eval o=(do pure (Next.value (←s))))→(∃v L' H' E' u,K v L' H'∧s.run P E.w= .ok u E'.w∧Step E E'∧SimH E' H'∧SimL E' L'∧V3 E' v u∧ ∀t,o.dst≠some t→E'.mL t=E.mL t)→o.wp P a E.w (EE E o a K) Q:=by
  rintro s hs ⟨v,L',H',E',u,hK,ai,h1,h2,ay,bg,cW⟩
  unfold Oper.wp
  rw[hs]
  exact Lg ai ⟨v,u,L',H',E',hK,rfl,h1,h2,ay,bg,rfl,cW⟩
 have R_:so P o (bY T) L H (fun r=>K r L H)→o.wp P a E.w (EE E o a K) Q:=fun h=>
  Oper.wp_mono (fun gi w' ⟨v,u,E',hK,hw,U,hv,ap⟩=>⟨v,u,L,H,E',hK,hw,U.step,U.simH an,U.simL an bB,hv,ap,fun t _=>by rw[U.mL]⟩) (MP bZ (Sub.refl L H) an bB h)
 obtain⟨dst,op,ty,pos,after,guard⟩:=o
 cases op with
 | store t x v=>
  obtain⟨ad,h⟩:=pu (show eo (en (bY T v)) (ln P t (bY T x) (bY T v) L H fun L' H'=>K (.tup []) L' H') from h)
  obtain⟨L',H',E',hK,ai,h1,h2,ay,hml⟩:=ahB an bB (opv_rel bZ x) (Bo ad (opv_rel bZ v)) h
  unfold Oper.wp
  have:(execOp a.eval ⟨dst,.store t x v,ty,pos,after,guard⟩).run P E.w= .ok .skip E'.w:=by
   simp only[execOp,Sem.run_bind,ai,Sem.run_pure,Result.andThen_ok]
  rw[this]
  exact⟨.tup [],_,L',H',E',hK,rfl,h1,h2,ay,⟨[],rfl,az.nil⟩,rfl,fun t _=>by rw[hml]⟩
 | alloc e=>
  obtain⟨z,av,h⟩:=e5 (show cD (mD P e) fun z=>uS esc dst z L H K from h)
  obtain⟨i,v,q1,q2,q3,q4⟩:=vC (E:=E) av
  obtain⟨r,L',H',E',hK,hw,h1,h2,ay,bg,hml⟩:=Rc (ty:=e) an bB q4 h
  refine fin (s:=Instr.alloc e true (.tuple #[])) rfl ⟨r,L',H',E',_,hK,?_,h1,h2,ay,bg,hml⟩
  rw[hw]
  simp[Instr.alloc,zeroValue,typeInfo,q1,q2,newVar,newRow]
 | box e x=>
  obtain⟨ad,h⟩:=pu (show eo (en (bY T x)) (uS esc dst (eM (bY T x)) L H K) from h)
  have hs:(eM (bY T x)).all jg=true:=by
   unfold uS at h;split at h
   ·rename_i q;exact q
   ·exact h.elim
  obtain⟨r,L',H',E',hK,hw,h1,h2,ay,bg,hml⟩:=Rc (ty:=e) an bB (Fm (Bo ad (opv_rel bZ x)) hs) h
  refine fin (s:=Instr.box e (a.eval x)) rfl ⟨r,L',H',E',_,hK,?_,h1,h2,ay,bg,hml⟩
  rw[hw]
  simp[Instr.box,newVar,newRow]
 | makeSlice t l c=>
  obtain⟨v,L',H',E',u,hK,ai,h1,h2,ay,bg,hml⟩:=adR an bB (opv_rel bZ l) (opv_rel bZ c) (show xf P t (bY T l) (bY T c) L H K from h)
  exact fin (s:=Instr.makeSlice t (a.eval l) (a.eval c)) rfl ⟨v,L',H',E',u,hK,ai,h1,h2,ay,bg,fun t _=>by rw[hml]⟩
 | buildSlice t n ps=>
  obtain⟨ad,h⟩:=pu (show eo (ps.toList.all fun p=>en (bY T p.2)) (tK P (tP esc dst) (vd esc) t n (ps.toList.map fun p=>(p.1,bY T p.2)) L H K) from h)
  obtain⟨v,u,L',H',E',hK,ai,h1,h2,ay,bg,hml⟩:=VN an bB (I8 bZ ps.toList fun p ab=>xj (List.all_eq_true.1 ad p ab)) h
  exact fin (s:=Instr.buildSlice t n (ps.toList.map fun p=>(p.1,a.eval p.2)).toArray) (by rw[parts_eq];rfl) ⟨v,L',H',E',u,hK,ai,h1,h2,ay,bg,fun t _=>by rw[hml]⟩
 | call c=>
  have h:MI P c (bY T) L H K:=h
  obtain⟨callee,args,argTypes⟩:=c
  cases callee with
  | builtin b=>
   cases b with
   | len=>exact R_ h
   | append=>
    have h:(match args.toList,argTypes.toList with
     | [s,x],[t,t2]=>en (bY T s)=true∧en (bY T x)=true∧tF P t t2 (bY T s) (bY T x) L H K
     | _,_=>False):=h
    split at h
    ·rename_i s x t t2 h1 h2
     obtain rfl:args= #[s,x]:=by rw[←Array.toArray_toList (xs:=args),h1]
     obtain rfl:argTypes= #[t,t2]:=by rw[←Array.toArray_toList (xs:=argTypes),h2]
     obtain⟨cb,n2,h⟩:=h
     obtain⟨r,u,H',E',hK,ai,q1,q2,q3,q4,hml⟩:=Vt (ty:=ty) an bB (Bo cb (opv_rel bZ s)) (Bo n2 (opv_rel bZ x)) h
     unfold Oper.wp
     have:(execOp a.eval ⟨dst,.call ⟨.builtin .append,#[s,x],#[t,t2]⟩,ty,pos,after,guard⟩).run P E.w= .ok (.value u) E'.w:=by
      simp only[execOp,resolve,Sem.run_bind,Sem.run_pure,Result.andThen_ok,invoke,builtin]
      have e:Array.map a.eval #[s,x]= #[a.eval s,a.eval x]:=by simp
      rw[e,ai];rfl
     rw[this]
     exact⟨r,u,L,H',E',hK,rfl,q1,q2,q3,q4,rfl,fun t _=>by rw[hml]⟩
    ·exact h.elim
   | _=>exact h.elim
  | value f=>
   have h:k7 (bY T f) fun g caps=>kK P g (args.toList.map (bY T)++caps) L H K:=h
   cases hf:bY T f with
   | fn g caps=>
    rw[hf] at h
    have h:kK P g (args.toList.map (bY T)++caps) L H K:=h
    have ad:=V0 h
    obtain⟨vs,he,q7⟩:=Mc bZ hf
    have GF:az (V2 E) (args.toList.map (bY T)++caps) (args.toList.map a.eval++vs):=
     az.append (LR bZ args.toList fun x hx=>xj (List.all_eq_true.1 ad _ (by simp;exact .inl ⟨x,by simpa using hx,rfl⟩))) q7
    obtain⟨fj,hc⟩:=V6 an bB GF h
    unfold Oper.wp
    rw[show execOp a.eval ⟨dst,.call ⟨.value f,args,argTypes⟩,ty,pos,after,guard⟩=(do let d ←resolve a.eval ⟨.value f,args,argTypes⟩ ty;invoke d.target d.args) from rfl]
    rw[Sr (P:=P) (ty:=ty) (w:=E.w) (c:=⟨.value f,args,argTypes⟩) rfl he fj]
    refine hc.mono ?_
    rintro e w' ⟨v,u,L',H',E',rfl,hK,rfl,q1,q2,q3,q4,hml⟩
    exact⟨v,u,L',H',E',hK,rfl,q1,q2,q3,q4,rfl,fun t _=>by rw[hml]⟩
   | _=>rw[hf] at h;exact h.elim
  | _=>exact h.elim
 | _=>exact R_ h
def oW (lit:Bool) (b:Bool) (x y:Prop):Prop:=match lit with
 | true=>(match b with
  | true=>x
  | false=>y)
 | false=>yR b x y
theorem BE {lit b:Bool} {x y:Prop} (h:oW lit b x y):(b=true→x)∧(b=false→y):=by
 cases lit with
 | false=>exact h
 | true=>cases b<;>exact⟨fun e=>by cases e<;>exact h,fun e=>by cases e<;>exact h⟩
def putA (T:List AV) (dst:Option Nat) (v:AV):List AV:=match dst with
 | some d=>T.set d v
 | none=>T
def nw (ops:Array Oper) (lit:Bool) (o:Oper) (T:List AV) (x y:List AV→Prop):Prop:=match o.guard with
 | none=>x T
 | some (j,cJ)=>match(ops[j]?).bind (·.dst) with
  | none=>False
  | some t=>match T.getD t .undef with
   | .bool b=>oW lit b (if cJ=true then x (T.set t (.bool true)) else y (T.set t (.bool true))) (if cJ=true then y (T.set t (.bool false)) else x (T.set t (.bool false)))
   | .tup []=>y T
   | _=>False
def u3 (lit:Bool) (o:Oper) (T:List AV) (K:AV→Prop) (BW:Prop):Prop:=match o.op with
 | .pick c x y=>n_ (bY T c) fun z=>oW lit z (K (bY T x)) (K (bY T y))
 | _=>BW
def evOps (P:Program) (esc:List Nat) (ops:Array Oper):List (Oper×Bool)→List AV→List (Nat×List AV)→List Blk→(List AV→List (Nat×List AV)→List Blk→Prop)→Prop
 | [],T,L,H,K=>K T L H
 | (o,lit)::rest,T,L,H,K=>nw ops lit o T
   (fun T=>u3 lit o T (fun v=>evOps P esc ops rest (putA T o.dst v) L H K) (jE P esc o (bY T) L H fun v L' H'=>evOps P esc ops rest (putA T o.dst v) L' H' K))
   (fun T=>evOps P esc ops rest (putA T o.dst (.tup [])) L H K)
theorem qX {T:List AV} {d t:Nat} {v:AV}:(T.set d v).getD t .undef=if d=t∧d<T.length then v else T.getD t .undef:=by
 rw[List.getD_eq_getElem?_getD,List.getD_eq_getElem?_getD,List.getElem?_set]
 by_cases h:d=t
 ·subst h
  by_cases ao:d<T.length
  ·simp[ao]
  ·simp[ao]
 ·simp[h]
theorem SX {E:Env} {T:List AV} {a:Act} (bZ: ∀t,V3 E (T.getD t .undef) (a.tmps.getD t undef)) (hs:T.length=a.tmps.size) {dst:Option Nat} {v:AV} {u:Value} (hv:V3 E v u):
  (∀t,V3 E ((putA T dst v).getD t .undef) ((a.put dst u).tmps.getD t undef))∧(putA T dst v).length=(a.put dst u).tmps.size:=by
 cases dst with
 | none=>exact⟨bZ,hs⟩
 | some d=>
  refine⟨fun t=> ?_,by simp[putA,Act.put,hs]⟩
  show V3 E ((T.set d v).getD t .undef) ((a.tmps.setIfInBounds d u).getD t undef)
  rw[qX,Array.getD_eq_getD_getElem?,Array.getElem?_setIfInBounds]
  by_cases h:d=t
  ·subst h
   by_cases ao:d<T.length
   ·have Cw:d<a.tmps.size:=hs▸ao
    simp[ao,Cw];exact hv
   ·have Cw: ¬d<a.tmps.size:=hs▸ao
    have:=bZ d
    rw[Array.getD_eq_getD_getElem?] at this
    simp[ao,Cw] at this ⊢
    exact this
  ·have:=bZ t
   rw[Array.getD_eq_getD_getElem?] at this
   simp[h];exact this
theorem agp {E:Env} {T:List AV} {a:Act} (bZ: ∀t,V3 E (T.getD t .undef) (a.tmps.getD t undef)) {t:Nat} {b:Bool} (h:T.getD t .undef= .bool b):
  ∀s,V3 E ((T.set t (.bool b)).getD s .undef) (a.tmps.getD s undef):=fun s=>by
 rw[qX]
 by_cases hs:t=s∧t<T.length
 ·rw[if_pos hs,←h,hs.1];exact bZ s
 ·rw[if_neg hs];exact bZ s
theorem aii {ops:Array Oper} {a:Act} {T:List AV} {E:Env} (bZ: ∀t,V3 E (T.getD t .undef) (a.tmps.getD t undef)) {j t:Nat} {b:Bool} (af:(ops[j]?).bind (·.dst)=some t) (h:T.getD t .undef= .bool b) (hs:T.length=a.tmps.size):
  yielded ops a.tmps j=some b:=by
 have hv:=bZ t
 rw[h] at hv
 have he:a.tmps.getD t undef= .bool b:=V3.nn hv
 unfold yielded
 rw[af]
 rw[Array.getD_eq_getD_getElem?] at he
 cases U:a.tmps[t]? with
 | none=>rw[U] at he;cases he
 | some x=>rw[U] at he;have:x= .bool b:=he;subst this;simp[U]
theorem aij {ops:Array Oper} {a:Act} {T:List AV} {E:Env} (bZ: ∀t,V3 E (T.getD t .undef) (a.tmps.getD t undef)) {j t:Nat} (af:(ops[j]?).bind (·.dst)=some t) (h:T.getD t .undef= .tup []):
  yielded ops a.tmps j=none:=by
 have hv:=bZ t
 rw[h] at hv
 obtain⟨vs,he,ab⟩:=(show ∃vs:List Value,a.tmps.getD t undef= .tuple vs.toArray∧az (V2 E) [] vs from hv)
 obtain rfl:=ab.mj
 unfold yielded
 rw[af]
 rw[Array.getD_eq_getD_getElem?] at he
 cases U:a.tmps[t]? with
 | none=>simp[U]
 | some x=>rw[U] at he;have:x= .tuple #[]:=he;subst this;simp[U]
theorem X9 {P:Program} {ops:Array Oper} {lit:Bool} {o:Oper} {a:Act} {T:List AV} {E:Env} {w:World} {x y:List AV→Prop} {R:Prop}
  (bZ: ∀t,V3 E (T.getD t .undef) (a.tmps.getD t undef)) (hs:T.length=a.tmps.size) (h:nw ops lit o T x y)
  (qH: ∀T',Region.wanted o (yielded ops a.tmps)=true→(∀t,V3 E (T'.getD t .undef) (a.tmps.getD t undef))→T'.length=a.tmps.size→x T'→R)
  (no: ∀T',Region.wanted o (yielded ops a.tmps)=false→(∀t,V3 E (T'.getD t .undef) (a.tmps.getD t undef))→T'.length=a.tmps.size→y T'→R):R:=by
 unfold nw at h
 cases aB:o.guard with
 | none=>rw[aB] at h;exact qH T (by simp[Region.wanted,aB]) bZ hs h
 | some g=>
  obtain⟨j,cJ⟩:=g
  rw[aB] at h
  simp only at h
  cases af:(ops[j]?).bind (·.dst) with
  | none=>rw[af] at h;exact h.elim
  | some t=>
   rw[af] at h
   simp only at h
   split at h
   ·rename_i b hb
    have aS:=aii (ops:=ops) bZ af hb hs
    have hk:=agp bZ hb
    obtain⟨h1,h2⟩:=BE h
    cases b with
    | true=>
     have h:=h1 rfl
     cases cJ with
     | true=>exact qH _ (by simp[Region.wanted,aB,aS]) hk (by simpa using hs) h
     | false=>exact no _ (by simp[Region.wanted,aB,aS]) hk (by simpa using hs) h
    | false=>
     have h:=h2 rfl
     cases cJ with
     | true=>exact no _ (by simp[Region.wanted,aB,aS]) hk (by simpa using hs) h
     | false=>exact qH _ (by simp[Region.wanted,aB,aS]) hk (by simpa using hs) h
   ·rename_i hb
    have aS:=aij (ops:=ops) bZ af hb
    exact no T (by simp[Region.wanted,aB,aS]) bZ hs h
   ·exact h.elim
theorem B1 [cl] {P:Program} {esc:List Nat} {ops:Array Oper} {Q:Exit→St→Prop} {b7:Env}: ∀(l:List (Oper×Bool)) (T:List AV) (L:List (Nat×List AV)) (H:List Blk) (E:Env) (a:Act),
  Good b7 E→tD E ⟨T,L,H⟩ a.tmps→a.defers=[]→evOps P esc ops l T L H (fun T L H=>Q .normal ⟨T,L,H⟩)→wpList P ops (mK b7 Q) (l.map (·.1)) a E.w
 | [],T,L,H,E,a,aB,hs,aO,h=>⟨rfl,⟨T,L,H⟩,E,h,rfl,aB,hs,aO⟩
 | (o,lit)::rest,T,L,H,E,a,aB,hs,aO,h=>by
  have bZ: ∀t,V3 E (T.getD t .undef) (a.tmps.getD t undef):=hs.hT
  show if Region.wanted o (yielded ops a.tmps) then o.wp P a E.w (wpList P ops (mK b7 Q) (rest.map (·.1))) (mK b7 Q)∨_ else wpList P ops (mK b7 Q) (rest.map (·.1)) (a.put o.dst undef) E.w
  refine X9 (P:=P) (w:=E.w) bZ hs.size h (fun T' hw hT' nE h'=> ?_) (fun T' hw hT' nE h'=> ?_)
  ·rw[if_pos hw]
   refine .inl ?_
   have next: ∀(v:AV) (u:Value) (L':List (Nat×List AV)) (H':List Blk) (E':Env),Step E E'→SimH E' H'→SimL E' L'→V3 E' v u→evOps P esc ops rest (putA T' o.dst v) L' H' (fun T L H=>Q .normal ⟨T,L,H⟩)→
     wpList P ops (mK b7 Q) (rest.map (·.1)) (a.put o.dst u) E'.w:=fun v u L' H' E' q1 q2 q3 q4 hK=>by
    obtain⟨cN,c5⟩:=SX (fun t=>(hT' t).le q1.le) nE (dst:=o.dst) q4
    refine B1 rest _ _ _ E' (a.put o.dst u) (aB.step q1) ⟨q2,q3,cN,c5⟩ ?_ hK
    cases o.dst<;>exact aO
   have a6:(jE P esc o (bY T') L H fun v L' H'=>evOps P esc ops rest (putA T' o.dst v) L' H' (fun T L H=>Q .normal ⟨T,L,H⟩))→o.wp P a E.w (wpList P ops (mK b7 Q) (rest.map (·.1))) (mK b7 Q):=fun h'=>
    Oper.wp_mono (fun gi w' ⟨v,u,L',H',E',hK,ga,q1,q2,q3,q4,ap,_⟩=>by
     subst ap;subst ga
     exact next v u L' H' E' q1 q2 q3 q4 hK) (evOp_sound hT' hs.h hs.l h')
   unfold u3 at h'
   split at h'
   ·rename_i c x y ft
    obtain⟨b,hb,bm⟩:=Bv h'
    obtain⟨h1,h2⟩:=BE bm
    have hv:=opv_rel hT' c
    rw[hb] at hv
    have he:a.eval c= .bool b:=V3.nn hv
    unfold Oper.wp
    have hx: ∀z,(z=if b=true then a.eval x else a.eval y)→(execOp a.eval o).run P E.w= .ok (.value z) E.w:=fun z av=>by
     subst av
     simp only[execOp,ft,he,asBool,Sem.run_bind,Sem.run_pure,Result.andThen_ok]
    cases b with
    | true=>rw[hx (a.eval x) rfl];exact next _ _ L H E (Step.refl E) hs.h hs.l (opv_rel hT' x) (h1 rfl)
    | false=>rw[hx (a.eval y) rfl];exact next _ _ L H E (Step.refl E) hs.h hs.l (opv_rel hT' y) (h2 rfl)
   ·exact a6 h'
  ·rw[hw]
   show wpList P ops (mK b7 Q) (rest.map (·.1)) (a.put o.dst undef) E.w
   obtain⟨cN,c5⟩:=SX (a:=a) hT' nE (dst:=o.dst) (v:= .tup []) (u:=undef) ⟨[],rfl,az.nil⟩
   refine B1 rest (putA T' o.dst (.tup [])) L H E (a.put o.dst undef) aB ⟨hs.h,hs.l,cN,c5⟩ ?_ h'
   cases o.dst<;>exact aO
def lits (ops:Array Oper) (rI:List Nat):List (Oper×Bool):=ops.toList.zipIdx.map fun p=>(p.1,rI.contains p.2)
theorem adr (ops:Array Oper) (rI:List Nat):(lits ops rI).map (·.1)=ops.toList:=by
 unfold lits
 rw[List.map_map]
 apply List.ext_getElem?
 intro i
 simp only[List.getElem?_map,List.getElem?_zipIdx]
 cases ops.toList[i]?<;>rfl
theorem WpS.region [cl] {P:Program} {esc:List Nat} {rI:List Nat} {id:Nat} {ops:Array Oper} {Q:Exit→St→Prop} {al:St} (h:evOps P esc ops (lits ops rI) al.T al.L al.H (fun T L H=>Q .normal ⟨T,L,H⟩)):WpS P (.region id ops false) Q al:=fun b7 E a g s d=>by
 refine wp_region_list ?_
 have:=B1 (lits ops rI) al.T al.L al.H E a g s d h
 rwa [adr] at this
def uP (cz:List Nat):AV→Bool
 | .e4 t _=> !cz.contains t
 | _=>true
def sQ (cz:List Nat):AV→Bool
 | .fn _ caps=>caps.all (uP cz)
 | a=>uP cz a
def sR (cz:List Nat):AV→Bool
 | .agg l=>l.all (sQ cz)
 | a=>sQ cz a
def ou (cz:List Nat):AV→Bool
 | .tup l=>l.all (sR cz)
 | a=>sR cz a
def Env.drop (E:Env) (cz:List Nat):Env:={E with mL:=fun t=>if cz.contains t=true then none else E.mL t}
section
variable {E:Env} {cz:List Nat}
theorem ey.drop {a:AV} {v:Value} (h:uP cz a=true) (hv:ey E a v):ey (E.drop cz) a v:=by
 cases a with
 | e4 t c=>
  obtain⟨bl,hm,e⟩:=hv
  have:cz.contains t=false:=by simpa[uP] using h
  exact⟨bl,by show(if cz.contains t=true then none else E.mL t)=_;rw[if_neg (by rw[this];simp)];exact hm,e⟩
 | _=>exact hv
theorem bQ.drop {a:AV} {v:Value} (h:sQ cz a=true) (hv:bQ E a v):bQ (E.drop cz) a v:=by
 by_cases hf: ∃f caps,a= .fn f caps
 ·obtain⟨f,caps,rfl⟩:=hf
  obtain⟨vs,e,ab⟩:=hv
  exact⟨vs,e,ab.1,fun i x y hx aS=>(ab.2 i x y hx aS).drop (List.all_eq_true.1 (show caps.all (uP cz)=true from h) x (List.mem_of_getElem? hx))⟩
 ·have au:sQ cz a=uP cz a:=by cases a<;>first | rfl | exact absurd ⟨_,_,rfl⟩ hf
  rw[pQ fun f c e=>hf ⟨f,c,e⟩] at hv ⊢
  exact hv.drop (au▸h)
theorem V2.drop {a:AV} {v:Value} (h:sR cz a=true) (hv:V2 E a v):V2 (E.drop cz) a v:=by
 by_cases hf: ∃l,a= .agg l
 ·obtain⟨l,rfl⟩:=hf
  obtain⟨vs,e,ab⟩:=hv
  exact⟨vs,e,ab.1,fun i x y hx aS=>(ab.2 i x y hx aS).drop (List.all_eq_true.1 (show l.all (sQ cz)=true from h) x (List.mem_of_getElem? hx))⟩
 ·have au:sR cz a=sQ cz a:=by cases a<;>first | rfl | exact absurd ⟨_,rfl⟩ hf
  rw[n6 fun l e=>hf ⟨l,e⟩] at hv ⊢
  exact hv.drop (au▸h)
theorem V3.drop {a:AV} {v:Value} (h:ou cz a=true) (hv:V3 E a v):V3 (E.drop cz) a v:=by
 by_cases hf: ∃l,a= .tup l
 ·obtain⟨l,rfl⟩:=hf
  obtain⟨vs,e,ab⟩:=hv
  exact⟨vs,e,ab.1,fun i x y hx aS=>(ab.2 i x y hx aS).drop (List.all_eq_true.1 (show l.all (sR cz)=true from h) x (List.mem_of_getElem? hx))⟩
 ·have au:ou cz a=sR cz a:=by cases a<;>first | rfl | exact absurd ⟨_,rfl⟩ hf
  rw[n7 fun l e=>hf ⟨l,e⟩] at hv ⊢
  exact hv.drop (au▸h)
end
def ns (cz:List Nat) (L:List (Nat×List AV)):List (Nat×List AV):=match L with
 | []=>[]
 | (k,c)::L=>match cz.contains k with
  | true=>ns cz L
  | false=>(k,c)::ns cz L
theorem BR {cz:List Nat}: ∀(L:List (Nat×List AV)) (t:Nat),cz.contains t=false→dT (ns cz L) t=dT L t
 | [],t,h=>rfl
 | (k,c)::L,t,h=>by
  unfold ns
  split
  ·rename_i hk
   have:t≠k:=fun e=>by subst e;rw[h] at hk;cases hk
   rw[BR L t h];simp[dT,this]
  ·simp only[dT];rw[BR L t h]
theorem Weak.ns [cl] (cz:List Nat) {T:List AV} {L:List (Nat×List AV)} {H:List Blk} (h:T.all (ou cz)=true):Weak ⟨T,L,H⟩ ⟨T,ns cz L,H⟩:=fun b7 E tmps g s=>by
 have hm: ∀t c,(E.drop cz).mL t=some c→cz.contains t=false∧E.mL t=some c:=by
  intro t c hc
  have hc:(if cz.contains t=true then none else E.mL t)=some c:=hc
  split at hc
  ·cases hc
  ·rename_i q;exact⟨by simpa using q,hc⟩
 have hi: ∀c,(E.drop cz).kc c→E.kc c:=fun c ⟨t,a_⟩=>⟨t,(hm t c a_).2⟩
 have gQ:SimH E H:=s.h
 refine⟨E.drop cz,rfl,?_,?_,?_,fun t=> ?_,s.size⟩
 ·exact{g with
   le:={g.le with mL:=fun t c hc=>by rw[g.bO t] at hc;cases hc}
   iY:=fun c hc=>g.iY c (hi c hc)}
 ·exact{gQ with
   heap:=gQ.heap
   iZ:=fun t hr c h1 h2=>gQ.iZ t hr c (hm t c h1).2 (hm hr c h2).2
   gl:=fun b t c h1 h2=>gQ.gl b t c h1 (hm t c h2).2
   hR:=fun c hc hx=>gQ.hR c hc (hi c hx)
   gb:=fun c hx=>gQ.gb c (hi c hx)}
 ·intro t c hc
  obtain⟨h1,h2⟩:=hm t c hc
  obtain⟨cells,aj,ty,q1,q2,q3⟩:=s.l t c h2
  exact⟨cells,aj,ty,by show dT (Fw.ns cz L) t=_;rw[BR L t h1];exact q1,q2,q3⟩
 ·show V3 (E.drop cz) (T.getD t .undef) _
  refine(s.hT t).drop ?_
  show ou cz (T.getD t .undef)=true
  rw[List.getD_eq_getElem?_getD]
  cases U:T[t]? with
  | none=>rfl
  | some a=>exact List.all_eq_true.1 h a (List.mem_of_getElem? U)
def rC:AV→Bool
 | .aJ [] true _=>true
 | _=>false
theorem WY {E:Env} {a:AV} {v:Value} (h:rC a=true) (hv:ey E a v): ∃A,v= .slice A 0 0:=by
 have key: ∀rows full fr,a= .aJ rows full fr→rows=[]→full=true→ ∃A,v= .slice A 0 0:=by
  intro rows full fr e ai hf
  subst e
  have hv:aL E.w E.PA E.PF (.aJ rows full fr) v:=hv
  cases hv with
  | @aJ _ _ PB _ _ _ A cap sz vs eR eZ fB b3 dL hrel=>
   refine⟨A,?_⟩
   rw[fB hf,ai];rfl
 unfold rC at h
 split at h
 ·exact key _ _ _ rfl rfl rfl
 ·cases h
theorem FW {E E':Env} {a:AV} {v:Value} {b:Nat} (h:rC a=true) (hv:bQ E a v) (aB:E'.a6 b=0) (hm:E'.m b=some none):bQ E' (.ref b 0 0 0 false) v:=by
 have h3:ey E a v:=by
  rwa [pQ] at hv
  rintro f c rfl;cases h
 obtain⟨A,rfl⟩:=WY h h3
 exact .inr ⟨aB.symm,.inl ⟨hm,rfl,rfl,A,rfl⟩⟩
theorem Weak.Vl [cl] (i sz:Nat) {T:List AV} {L:List (Nat×List AV)} {H:List Blk} (h:rC (T.getD i .undef)=true):Weak ⟨T,L,H⟩ ⟨T.set i (.ref H.length 0 0 0 false),L,H++[⟨0,sz,[]⟩]⟩:=fun b7 E tmps g s=>by
 obtain⟨E',hw,aQ,h1,h2,ay,bg,_⟩:=Dg (blk:=⟨0,sz,[]⟩) s.h s.l rfl rfl
 refine⟨E',hw,g.step aQ,h1,h2,fun t=> ?_,by simpa using s.size⟩
 show V3 E' ((T.set i _).getD t .undef) _
 rw[qX]
 split
 ·rename_i U
  obtain⟨rfl,_⟩:=U
  have hv:=s.hT i
  have kq:bQ E (T.getD i .undef) (tmps.getD i undef):=by
   have hv:V3 E (T.getD i .undef) (tmps.getD i undef):=hv
   rw[n7,n6] at hv
   ·exact hv
   ·intro l e;rw[e] at h;cases h
   ·intro l e;rw[e] at h;cases h
  exact pR (jD (FW h kq ay bg))
 ·exact(s.hT t).le aQ.le
theorem Weak.EV [cl] (t i sz:Nat) {T:List AV} {L:List (Nat×List AV)} {H:List Blk} {cells:List AV} (hc:dT L t=some cells) (h:rC (cells.getD i .undef)=true):
  Weak ⟨T,L,H⟩ ⟨T,kA L t (cells.set i (.ref H.length 0 0 0 false)),H++[⟨0,sz,[]⟩]⟩:=fun b7 E tmps g s=>by
 obtain⟨E',hw,aQ,h1,h2,ay,bg,cW,e1⟩:=Dg (blk:=⟨0,sz,[]⟩) s.h s.l rfl rfl
 refine⟨E',hw,g.step aQ,h1,?_,fun t=>(s.hT t).le aQ.le,s.size⟩
 intro u c hm
 obtain⟨gu,aj,ty,q1,q2,q3⟩:=h2 u c hm
 show ∃Fj aj ty,dT (kA L t _) u=some Fj∧_
 rw[y_]
 by_cases hu:u=t
 ·subst hu
  rw[if_pos rfl]
  have Aq:dT L u=some gu:=q1
  rw[hc] at Aq
  cases Aq
  refine⟨_,aj,ty,by rw[hc];rfl,q2,by simpa using q3.1,fun j x v hx hv=> ?_⟩
  rw[List.getElem?_set] at hx
  split at hx
  ·rename_i lB
   subst lB
   split at hx
   ·rename_i aN
    cases hx
    have aB:=List.getElem?_eq_getElem aN
    have:cells.getD i .undef=cells[i]:=by rw[List.getD_eq_getElem?_getD,aB];rfl
    have kq:=q3.2 i _ v aB hv
    rw[this] at h
    exact FW (E:=E'.bO) h kq ay bg
   ·cases hx
  ·exact q3.2 j x v hx hv
 ·rw[if_neg hu]
  exact⟨gu,aj,ty,q1,q2,q3⟩
structure cR where
 bd:Int
 bG:Int
 deriving Inhabited,DecidableEq
structure Way where
 ah:List Int
 bp:List cR
 cv:List cR
 cK:List Int
 eS:List Int
 deriving Inhabited,DecidableEq
structure aV where
 ah:Int
 bf:List Int
 O:List Way
 bk:List (List Bool)
 cY:Int
 deriving Inhabited,DecidableEq
structure Event where
 op:Int
 Uj:Int
 bG:Int
 deriving Inhabited,DecidableEq
structure dy where
 cJ:Int
 bp:Int
 deriving Inhabited,DecidableEq
structure aC where
 aK:Int
 a1:Int
 ak:List Bool
 cn:Bool
 cx:Int
 deriving Inhabited,DecidableEq
structure Frame where
 ok:Bool
 aG:List Bool
 aq:List dy
 O:List aC
 deriving Inhabited,DecidableEq
structure tv where
 code:Int
 frame:Frame
 deriving Inhabited,DecidableEq
structure oR where
 code:Int
 pos:Int
 deriving Inhabited,DecidableEq
structure gB where
 O:List Int
 ah:List Int
 aq:List Int
 deriving Inhabited,DecidableEq
structure jC where
 code:List UInt8
 pos:Int
 AE:Int
 deriving Inhabited
def cs (n:Int):List AV:=[.int .i64 n]
def BU (n:UInt8):List AV:=[.int .u8 n.toNat]
def aX (b:Bool):List AV:=[.bool b]
def FU (s:ByteArray):List AV:=[.str s]
def fM {α:Type} (e:α→List AV) (fr:Bool) (xs:List α):List AV:=[.aJ (xs.map e) false fr]
def dE (x:cR):List AV:=[.int .i64 x.bd,.int .i64 x.bG]
def ej (fr:Bool) (x:Way):List AV:=[.aJ (x.ah.map cs) false fr,.aJ (x.bp.map dE) false fr,.aJ (x.cv.map dE) false fr,.aJ (x.cK.map cs) false fr,.aJ (x.eS.map cs) false fr]
def bV (fr:Bool) (x:aV):List AV:=[.int .i64 x.ah,.aJ (x.bf.map cs) false fr,.aJ (x.O.map (ej false)) false fr,.aJ (x.bk.map (fM aX false)) false fr,.int .i64 x.cY]
def FQ (x:Event):List AV:=[.int .i64 x.op,.int .i64 x.Uj,.int .i64 x.bG]
def bE (x:dy):List AV:=[.int .i64 x.cJ,.int .i64 x.bp]
def ec (fr:Bool) (x:aC):List AV:=[.int .i64 x.aK,.int .i64 x.a1,.aJ (x.ak.map aX) false fr,.bool x.cn,.int .i64 x.cx]
def cg (fr:Bool) (x:Frame):List AV:=[.bool x.ok,.aJ (x.aG.map aX) false fr,.aJ (x.aq.map bE) false fr,.aJ (x.O.map (ec false)) false fr]
def FP (fr:Bool) (x:tv):List AV:=[.int .i64 x.code,.bool x.frame.ok,.aJ (x.frame.aG.map aX) false fr,.aJ (x.frame.aq.map bE) false fr,.aJ (x.frame.O.map (ec false)) false fr]
def FR (x:oR):List AV:=[.int .i64 x.code,.int .i64 x.pos]
def WX (fr:Bool) (x:jC):List AV:=[.aJ (x.code.map BU) false fr,.int .i64 x.pos,.int .u64 x.AE]
def gk (fr:Bool) (x:gB):List AV:=[.aJ (x.O.map cs) false fr,.aJ (x.ah.map cs) false fr,.aJ (x.aq.map cs) false fr]
def nth {α:Type} [Inhabited α] (xs:List α) (i:Int):α:=xs.getD i.toNat default
theorem gX {α:Type} [Inhabited α] {xs:List α} {i:Int} (h:i.toNat<xs.length):xs[i.toNat]?=some (nth xs i):=by
 unfold nth
 rw[List.getD_eq_getElem?_getD,List.getElem?_eq_getElem h];rfl
def sY:Code→List Nat→Code
 | c,[]=>c
 | .seq x y,n::p=>match n with
  | 0=>sY x p
  | _=>sY y p
 | .cond _ x y,n::p=>match n with
  | 0=>sY x p
  | _=>sY y p
 | .block _ x,_::p=>sY x p
 | .loop x,_::p=>sY x p
 | .scope x,_::p=>sY x p
 | c,_=>c
def j2 (f:Func):Code:=f.body.getD .skip
theorem WpS.seq' [cl] {P:Program} {c x y:Code} {Q:Exit→St→Prop} {al:St} (e:c= .seq x y) (h:WpS P x (eE P y Q) al):WpS P c Q al:=e▸WpS.seq h
theorem WpS.Wt [cl] {P:Program} {c x y:Code} {o:Operand} {Q:Exit→St→Prop} {al:St} {b:Bool} (e:c= .cond o x y) (hb:bY al.T o= .bool b) (h1:b=true→WpS P x Q al) (h2:b=false→WpS P y Q al):WpS P c Q al:=
 e▸WpS.cond (by rw[hb];exact⟨h1,h2⟩)
theorem WpS.VK [cl] {P:Program} {c x:Code} {id:Nat} {Q:Exit→St→Prop} {al:St} (e:c= .block id x) (h:WpS P x (eh id Q) al):WpS P c Q al:=e▸WpS.block h
theorem WpS.afS [cl] {P:Program} {c:Code} {Q:Exit→St→Prop} {al:St} (e:c= .skip) (h:Q .normal al):WpS P c Q al:=e▸WpS.skip h
theorem WpS.afn [cl] {P:Program} {c:Code} {Q:Exit→St→Prop} {al:St} (e:c= .ret) (h:Q .ret al):WpS P c Q al:=e▸WpS.ret h
theorem WpS.W_ [cl] {P:Program} {c:Code} {id:Nat} {Q:Exit→St→Prop} {al:St} (e:c= .exit id) (h:Q (.exit id) al):WpS P c Q al:=e▸WpS.exit h
theorem WpS.ady [cl] {P:Program} {c x:Code} {Q:Exit→St→Prop} {al:St} {V:Type} (S:V→St) (I:V→Prop) (m:V→Nat) (e:c= .loop x) (v0:V) (hs:Weak al (S v0)) (au:I v0)
  (round: ∀v,I v→WpS P x (fun ex s=>match ex with
   | .normal=> ∃d_,I d_∧m d_<m v∧Weak s (S d_)
   | ex=>Q ex s) (S v)):WpS P c Q al:=by
 subst e
 refine WpS.r9 (WpS.loop (fun n s=> ∃v,I v∧s=S v∧n=m v) (m v0) ⟨v0,au,rfl,rfl⟩ ?_) hs
 rintro n s ⟨v,hv,rfl,rfl⟩
 refine WpS.mono (round v hv) fun ex s U=> ?_
 cases ex with
 | normal=>
  obtain⟨d_,h1,h2,ay⟩:=U
  exact⟨m d_,S d_,h2,ay,d_,h1,rfl,rfl⟩
 | _=>exact U
theorem eE.normal [cl] {P:Program} {y:Code} {Q:Exit→St→Prop} {s:St} (h:WpS P y Q s):eE P y Q .normal s:=h
theorem eE.ret [cl] {P:Program} {y:Code} {Q:Exit→St→Prop} {s:St} (h:Q .ret s):eE P y Q .ret s:=h
theorem eE.exit [cl] {P:Program} {y:Code} {Q:Exit→St→Prop} {s:St} {id:Nat} (h:Q (.exit id) s):eE P y Q (.exit id) s:=h
theorem eh.normal {id:Nat} {Q:Exit→St→Prop} {s:St} (h:Q .normal s):eh id Q .normal s:=h
theorem eh.ret {id:Nat} {Q:Exit→St→Prop} {s:St} (h:Q .ret s):eh id Q .ret s:=h
theorem eh.here {id:Nat} {Q:Exit→St→Prop} {s:St} (h:Q .normal s):eh id Q (.exit id) s:=by
 show(if id=id then _ else _);rw[if_pos rfl];exact h
theorem eh.there {id fk:Nat} {Q:Exit→St→Prop} {s:St} (bN:fk≠id) (h:Q (.exit fk) s):eh id Q (.exit fk) s:=by
 show(if fk=id then _ else _);rw[if_neg bN];exact h
theorem ew.jS {L:List (Nat×List AV)} {H:List Blk} {a b:AV} (h:fA L H a b):ew L H a b:= .inr h
theorem ew.agg {L:List (Nat×List AV)} {H:List Blk} {l eN:List AV} (h:az (fA L H) l eN):ew L H (.agg l) (.agg eN):= .inl ⟨l,eN,rfl,rfl,h⟩
theorem j0.jS {H:List Blk} {a b:AV} (h:fi H a b):j0 H a b:= .inr (.inr h)
theorem j0.agg {H:List Blk} {l eN:List AV} (h:az (fi H) l eN):j0 H (.agg l) (.agg eN):= .inr (.inl ⟨l,eN,rfl,rfl,h⟩)
theorem WpS.start [cl] {P:Program} {c:Code} {Q:Exit→St→Prop} {al kE:St} (e:al=kE) (h:WpS P c Q kE):WpS P c Q al:=e▸h
def dc [cl] (S:St) (ψ:Prop) (Q:Exit→St→Prop) (ex:Exit) (s:St):Prop:=match ex with
 | .normal=>ψ∧Weak s S
 | ex=>Q ex s
theorem WpS.xK [cl] {P:Program} {c x y:Code} {Q:Exit→St→Prop} {al:St} (S:St) {ψ:Prop} (e:c= .seq x y) (h:WpS P x (dc S ψ Q) al) (U:ψ→WpS P y Q S):WpS P c Q al:=by
 subst e
 refine WpS.seq (WpS.mono h fun ex s hs=> ?_)
 cases ex with
 | normal=>exact WpS.r9 (U hs.1) hs.2
 | _=>exact hs
theorem dc.normal [cl] {S s:St} {ψ:Prop} {Q:Exit→St→Prop} (ab:ψ) (h:Weak s S):dc S ψ Q .normal s:=⟨ab,h⟩
theorem dc.ret [cl] {S s:St} {ψ:Prop} {Q:Exit→St→Prop} (h:Q .ret s):dc S ψ Q .ret s:=h
theorem dc.exit [cl] {S s:St} {ψ:Prop} {Q:Exit→St→Prop} {id:Nat} (h:Q (.exit id) s):dc S ψ Q (.exit id) s:=h
def fh [cl] {V:Type} (S:V→St) (I:V→Prop) (m:V→Nat) (v:V) (Q:Exit→St→Prop) (ex:Exit) (s:St):Prop:=match ex with
 | .normal=> ∃d_,I d_∧m d_<m v∧Weak s (S d_)
 | ex=>Q ex s
theorem WpS.QU [cl] {P:Program} {c x:Code} {Q:Exit→St→Prop} {al:St} {V:Type} (S:V→St) (I:V→Prop) (m:V→Nat) (e:c= .loop x) (v0:V) (hs:Weak al (S v0)) (au:I v0)
  (round: ∀v,I v→WpS P x (fh S I m v Q) (S v)):WpS P c Q al:=
 WpS.ady S I m e v0 hs au fun v hv=>WpS.mono (round v hv) fun ex s h=>by
  cases ex<;>exact h
theorem fh.again [cl] {V:Type} {S:V→St} {I:V→Prop} {m:V→Nat} {v:V} {Q:Exit→St→Prop} {s:St} (d_:V) (h:I d_∧m d_<m v) (hw:Weak s (S d_)):fh S I m v Q .normal s:=⟨d_,h.1,h.2,hw⟩
theorem fh.ret [cl] {V:Type} {S:V→St} {I:V→Prop} {m:V→Nat} {v:V} {Q:Exit→St→Prop} {s:St} (h:Q .ret s):fh S I m v Q .ret s:=h
theorem fh.exit [cl] {V:Type} {S:V→St} {I:V→Prop} {m:V→Nat} {v:V} {Q:Exit→St→Prop} {s:St} {id:Nat} (h:Q (.exit id) s):fh S I m v Q (.exit id) s:=h
@[irreducible] def bJ (c:Code) (n:Nat):Code:=sY c ((List.range (Nat.log2 n)).map fun i=>(n>>>i)%2).reverse
def kh (c:Code) (n:Nat):Array Oper:=match bJ c n with
 | .region _ ops _=>ops
 | _=> #[]
theorem pM [cl] {s s' s'':St} (h:Weak s s') (e:s'=s''):Weak s s'':=e▸h
def kk (H:List Blk) (c d:List AV):Prop:=c.length=d.length∧ ∀(j:Nat) (a b:AV),c[j]?=some a→d[j]?=some b→fi H a a∧b=h9 a
theorem agq {H:List Blk} {α:Type} {eT eF:α→List AV} {b:Nat} {g sz:Nat} {full:Bool} {xs:List α} (hb:H[b]?=some ⟨g,sz,List.map eT xs⟩) (ad:xs.length≤4611686018427387904) (hc: ∀x,kk H (eT x) (eF x)):
  fi H (.ref b g 0 xs.length full) (.aJ (List.map eF xs) false true):=by
 refine fi.ref (fun h=>by cases h) (fun i j=>((xs[i]?).bind fun x=>(eT x)[j]?).getD .undef) hb rfl (by rw[List.length_map]) ad (by simp) (fun i row row' h1 h2=> ?_) (fun i j row a hi h1 h2=> ?_) (fun i j row' c h1 h2=> ?_)
 ·have h1:(List.map eT xs)[0+i]?=some row:=h1
  rw[Nat.zero_add,List.getElem?_map] at h1
  rw[List.getElem?_map] at h2
  cases hx:xs[i]? with
  | none=>rw[hx] at h1;cases h1
  | some x=>rw[hx] at h1 h2;cases h1;cases h2;exact(hc x).1
 ·have h1:(List.map eT xs)[0+i]?=some row:=h1
  rw[Nat.zero_add,List.getElem?_map] at h1
  cases hx:xs[i]? with
  | none=>rw[hx] at h1;cases h1
  | some x=>
   rw[hx] at h1;cases h1
   show fi H a (((some x).bind fun x=>(eT x)[j]?).getD .undef)
   have af:(eT x)[j]?=some a:=h2
   have he:((some x).bind fun x=>(eT x)[j]?).getD .undef=a:=by
    show((eT x)[j]?).getD .undef=a
    rw[af];rfl
   rw[he]
   have aN:j<(eF x).length:=by rw[←(hc x).1];exact(List.getElem?_eq_some_iff.1 af).1
   exact((hc x).2 j a _ af (List.getElem?_eq_getElem aN)).1
 ·rw[List.getElem?_map] at h1
  cases hx:xs[i]? with
  | none=>rw[hx] at h1;cases h1
  | some x=>
   rw[hx] at h1;cases h1
   show c=h9 (((some x).bind fun x=>(eT x)[j]?).getD .undef)
   have aN:j<(eT x).length:=by rw[(hc x).1];exact(List.getElem?_eq_some_iff.1 h2).1
   have af:=List.getElem?_eq_getElem aN
   have he:((some x).bind fun x=>(eT x)[j]?).getD .undef=(eT x)[j]:=by
    show((eT x)[j]?).getD .undef=_
    rw[af];rfl
   rw[he]
   exact((hc x).2 j _ c af h2).2
theorem kk.nil {H:List Blk}:kk H [] []:=⟨rfl,fun j a b h=>by simp at h⟩
theorem kk.cons {H:List Blk} {a b:AV} {c d:List AV} (h1:fi H a a) (h2:b=h9 a) (h:kk H c d):kk H (a::c) (b::d):=
 ⟨by simp[h.1],fun j x y hx aS=>by
  cases j with
  | zero=>simp at hx aS;subst hx;subst aS;exact⟨h1,h2⟩
  | succ j=>exact h.2 j x y (by simpa using hx) (by simpa using aS)⟩
theorem VW {H:List Blk} (n:Int):kk H (cs n) (cs n):= .cons (.int _ _) rfl .nil
theorem VY {H:List Blk} (n:UInt8):kk H (BU n) (BU n):= .cons (.int _ _) rfl .nil
theorem Fa {H:List Blk} (b:Bool):kk H (aX b) (aX b):= .cons (.bool _) rfl .nil
theorem VX {H:List Blk} (b:ByteArray):kk H (FU b) (FU b):= .cons (.str _) rfl .nil
theorem j4 {H:List Blk} (rows:List (List AV)):fi H (.aJ rows false true) (.aJ rows false true):= .aJ _ _ _ id
theorem L8 {H:List Blk} (x:cR):kk H (dE x) (dE x):= .cons (.int _ _) rfl (.cons (.int _ _) rfl .nil)
theorem VU {H:List Blk} (x:Event):kk H (FQ x) (FQ x):= .cons (.int _ _) rfl (.cons (.int _ _) rfl (.cons (.int _ _) rfl .nil))
theorem L9 {H:List Blk} (x:dy):kk H (bE x) (bE x):= .cons (.int _ _) rfl (.cons (.int _ _) rfl .nil)
theorem VZ {H:List Blk} (x:Way):kk H (ej true x) (ej false x):= .cons (j4 _) rfl (.cons (j4 _) rfl (.cons (j4 _) rfl (.cons (j4 _) rfl (.cons (j4 _) rfl .nil))))
theorem VV {H:List Blk} (x:aC):kk H (ec true x) (ec false x):= .cons (.int _ _) rfl (.cons (.int _ _) rfl (.cons (j4 _) rfl (.cons (.bool _) rfl (.cons (.int _ _) rfl .nil))))
theorem VT {H:List Blk} (x:tv):kk H (FP true x) (FP false x):= .cons (.int _ _) rfl (.cons (.bool _) rfl (.cons (j4 _) rfl (.cons (j4 _) rfl (.cons (j4 _) rfl .nil))))
theorem T9 {H:List Blk} {α:Type} {eT eF:α→List AV} {b g sz:Nat} {full:Bool} {xs ys:List α} (hb:H[b]?=some ⟨g,sz,List.map eT xs⟩) (hc: ∀x,kk H (eT x) (eF x)) (h:xs.length≤4611686018427387904∧xs=ys):
  fi H (.ref b g 0 xs.length full) (.aJ (List.map eF ys) false true):=h.2▸agq hb h.1 hc
theorem ahy {H:List Blk} {α:Type} {e:α→List AV} {ys:List α} {full fr:Bool} (h:[]=ys):fi H (.aJ [] full fr) (.aJ (List.map e ys) false true):=h▸ .IS _ _ _ (fun h=>by cases h)
theorem ahx {H:List Blk} {α:Type} {e:α→List AV} {xs ys:List α} {full:Bool} (h:xs=ys):fi H (.aJ (List.map e xs) full true) (.aJ (List.map e ys) false true):=h▸ .aJ _ _ _ (fun h=>by cases h)
theorem KT {H:List Blk} {k:IntKind} {a b:Int} (h:a=b):fi H (.int k a) (.int k b):=h▸ .int k a
theorem vp {H:List Blk} {a b:Bool} (h:a=b):fi H (.bool a) (.bool b):=h▸ .bool a
theorem ahz {H:List Blk} {a b:ByteArray} (h:a=b):fi H (.str a) (.str b):=h▸ .str a
theorem gm {L:List (Nat×List AV)} {H:List Blk} {rows:List (List AV)} {full fr:Bool}:fA L H (.aJ rows full fr) (.aJ rows false false):= .aJ _ _ _ _ (fun h=>by cases h)
def n3 (L:List (Nat×List AV)) (H:List Blk) (c d:List AV):Prop:=c.length=d.length∧ ∀(j:Nat) (a b:AV),c[j]?=some a→d[j]?=some b→fA L H a b
theorem SB {L:List (Nat×List AV)} {H:List Blk} {α:Type} {eT eF:α→List AV} {b g sz:Nat} {full:Bool} {xs:List α} (hb:H[b]?=some ⟨g,sz,List.map eT xs⟩) (hc: ∀x,n3 L H (eT x) (eF x)) (ad:xs.length≤4611686018427387904):
  fA L H (.ref b g 0 xs.length full) (.aJ (List.map eF xs) false false):=by
 refine fA.ref (fun h=>by cases h) hb rfl (by rw[List.length_map]) ad (by simp) (fun i row row' h1 h2=> ?_) (fun i j row row' a c h1 h2 ay bg=> ?_)
 ·have h1:(List.map eT xs)[0+i]?=some row:=h1
  rw[Nat.zero_add,List.getElem?_map] at h1
  rw[List.getElem?_map] at h2
  cases hx:xs[i]? with
  | none=>rw[hx] at h1;cases h1
  | some x=>rw[hx] at h1 h2;cases h1;cases h2;exact(hc x).1
 ·have h1:(List.map eT xs)[0+i]?=some row:=h1
  rw[Nat.zero_add,List.getElem?_map] at h1
  rw[List.getElem?_map] at h2
  cases hx:xs[i]? with
  | none=>rw[hx] at h1;cases h1
  | some x=>rw[hx] at h1 h2;cases h1;cases h2;exact(hc x).2 j a c ay bg
theorem n3.nil {L:List (Nat×List AV)} {H:List Blk}:n3 L H [] []:=⟨rfl,fun j a b h=>by simp at h⟩
theorem n3.cons {L:List (Nat×List AV)} {H:List Blk} {a b:AV} {c d:List AV} (h1:fA L H a b) (h:n3 L H c d):n3 L H (a::c) (b::d):=
 ⟨by simp[h.1],fun j x y hx aS=>by
  cases j with
  | zero=>simp at hx aS;subst hx;subst aS;exact h1
  | succ j=>exact h.2 j x y (by simpa using hx) (by simpa using aS)⟩
section
variable {L:List (Nat×List AV)} {H:List Blk}
theorem CM (b:Bool):n3 L H (aX b) (aX b):= .cons (.bool _) .nil
theorem Hv (x:dy):n3 L H (bE x) (bE x):= .cons (.int _ _) (.cons (.int _ _) .nil)
end
def dN {α:Type} (F:(α→Prop)→Prop):Prop:= ∀K,F K→ ∃r,K r∧F (fun x=>x=r)
theorem dN.ret {α:Type} (r:α):dN fun K=>K r:=fun K h=>⟨r,h,rfl⟩
theorem dN.no {α:Type}:dN (α:=α) fun _=>False:=fun K h=>h.elim
theorem dN.and {α:Type} {φ:Prop} {F:(α→Prop)→Prop} (h:dN F):dN fun K=>φ∧F K:=fun K ⟨ab,hf⟩=>by
 obtain⟨r,h1,h2⟩:=h K hf
 exact⟨r,h1,ab,h2⟩
theorem dN.Vp {α:Type} {φ:Prop} {F:(α→Prop)→Prop} (h:φ→dN F):dN fun K=>φ∧F K:=fun K ⟨ab,hf⟩=>by
 obtain⟨r,h1,h2⟩:=h ab K hf
 exact⟨r,h1,ab,h2⟩
theorem dN.bind {α β:Type} {o:Option β} {F:β→(α→Prop)→Prop} (h: ∀b,dN (F b)):dN fun K=>cD o fun b=>F b K:=fun K hf=>by
 cases o with
 | none=>exact hf.elim
 | some b=>exact h b K hf
theorem dN.ite {α:Type} {c:Prop} [Decidable c] {F G:(α→Prop)→Prop} (h:dN F) (k:dN G):dN fun K=>if c then F K else G K:=by
 intro K hf
 by_cases hc:c
 ·rw[if_pos hc] at hf
  obtain⟨r,h1,h2⟩:=h K hf
  exact⟨r,h1,by show if c then _ else _;rw[if_pos hc];exact h2⟩
 ·rw[if_neg hc] at hf
  obtain⟨r,h1,h2⟩:=k K hf
  exact⟨r,h1,by show if c then _ else _;rw[if_neg hc];exact h2⟩
theorem dN.eo {α:Type} {b:Bool} {F:(α→Prop)→Prop} (h:dN F):dN fun K=>eo b (F K):=by
 cases b with
 | true=>exact h
 | false=>exact dN.no
theorem K7 {P:Program} {t:TypeId} {cells:List AV} {c:Nat}:dN (iJ P t cells c):=by
 unfold iJ
 exact .ite (.ite (.ite (.ret _) .no) (.bind fun _=> .ret _)) .no
theorem ac6 {P:Program} {t:TypeId} {x:AV} {L:List (Nat×List AV)} {H:List Blk}:dN (oo P t x L H):=by
 cases x with
 | e4 s c=>exact .bind fun _=>K7
 | ptr b g r c=>exact .bind fun _=> .and (.bind fun _=>K7)
 | c3 cells c=>exact K7
 | _=>exact .no
theorem ad2 {x:AV}:dN (I2 x):=by
 cases x<;>first | exact .no | exact .ret _
theorem VD {op:BinOp} {k:IntKind} {a b:Int}:dN (Bz op k a b):=by
 cases op<;>first | exact .no | exact .ret _ | exact .and (.ret _)
theorem VC {op:BinOp} {k i_:IntKind} {a b:Int}:dN (BA op k a i_ b):=by
 cases op<;>first | exact .and (.ret _) | exact .ite VD .no
def yT (x:AV):Bool:=match x with
 | .aJ _ _ _=>false
 | _=>true
theorem VE {P:Program} {op:BinOp} {t:TypeId} {x y:AV} {r_:Bool} (hx:yT x=true):dN (si P op t x y r_):=by
 cases x with
 | int k a=>cases y<;>first | exact .no | exact VC
 | bool a=>
  cases y with
  | bool b=>exact .ite (by cases op<;>first | exact .no | exact .ret _) .no
  | _=>exact .no
 | str a=>
  cases y with
  | str b=>
   show dN (E6 op a b)
   cases op<;>first | exact .no | exact .ret _ | exact .and (.ret _)
  | _=>exact .no
 | agg l=>
  cases y with
  | agg m=>exact .ite (.bind fun p=> .bind fun q=>by
    show dN (E7 op p.1 p.2 q.1 q.2)
    cases op<;>first | exact .no | exact .ret _) .no
  | _=>exact .no
 | aJ rows c8 fr=>cases hx
 | _=>exact .no
theorem ahU {op:UnOp} {x:AV}:dN (Et op x):=by
 cases op<;>cases x<;>first | exact .no | exact .ret _
theorem WK {P:Program} {s d:TypeId} {x:AV}:dN (FJ P s d x):=by
 cases x with
 | int k n=>exact .bind fun _=> .bind fun _=> .ret _
 | _=>exact .no
theorem Xf {P:Program} {t:TypeId} {x:AV} {f:Nat}:dN (F_ P t x f):=by
 refine .bind fun fd=> .ite ?_ .no
 cases x<;>first | exact .no | exact .ret _
theorem Z_ {P:Program} {t:TypeId} {x i:AV} {H:List Blk}:dN (wY P t x i H):=by
 refine .bind fun e=> .ite ?_ .no
 cases i with
 | int k n=>
  cases x with
  | aJ rows c8 fr=>exact .and (.bind fun _=> .and (.ret _))
  | ref b g off m c8=>exact .bind fun _=> .and (.and (.and (.and (.ret _))))
  | _=>exact .no
 | _=>exact .no
theorem aaj {P:Program} {t:TypeId} {x i:AV}:dN (Hw P t x i):=by
 cases x with
 | str s=>
  cases i with
  | int k n=>
   show dN fun K:AV→Prop=>(match P.underlying t with
   | some .string=>0≤n∧n<s.size∧K (.int .u8 (s.data.getD n.toNat 0).toNat)
   | _=>False)
   split
   ·exact .and (.and (.ret _))
   ·exact .no
  | _=>exact .no
 | _=>exact .no
theorem vY {α:Type} {x:Option AV} {d:Nat} {F:Nat→(α→Prop)→Prop} (h: ∀n,dN (F n)):dN fun K=>ly x d fun n=>F n K:=by
 cases x with
 | none=>exact h d
 | some a=>
  cases a with
  | int k n=>exact .and (h _)
  | _=>exact .no
theorem afU {P:Program} {t:TypeId} {x:AV} {lo hi:Option AV} {H:List Blk}:dN (vj P t x lo hi H):=by
 cases x with
 | str s=>
  show dN fun K:AV→Prop=>(match P.underlying t with
   | some .string=>ly lo 0 fun l=>ly hi s.size fun h=>l≤h∧h≤s.size∧K (.str (s.extract l h))
   | _=>False)
  split
  ·exact vY fun l=>vY fun h=> .and (.and (.ret _))
  ·exact .no
 | aJ rows c8 fr=>exact .bind fun e=> .ite (vY fun l=>vY fun h=> .and (.and (.and (.ret _)))) .no
 | ref b g off n c8=>
  refine .bind fun e=> .ite (.bind fun blk=> .and (.and (vY fun l=>vY fun h=> .Vp fun hle=> .and ?_))) .no
  intro K ⟨h1,h2⟩
  rcases Nat.lt_trichotomy l h with aN | Y6 | oh
  ·exact⟨_,h1 aN,fun _=>rfl,fun e=>absurd e (by omega)⟩
  ·exact⟨_,h2 Y6,fun e=>absurd e (by omega),fun _=>rfl⟩
  ·omega
 | _=>exact .no
theorem Xa {x:AV} {i:Nat}:dN (F6 x i):=by
 cases x with
 | tup l=>exact .bind fun _=> .ret _
 | _=>exact .no
theorem adJ {fn:Fn} {first:Array Operand} {caps:List AV}:dN (z8 fn first caps):=by
 cases fn with
 | func f=>exact .ite (.ret _) .no
 | _=>exact .no
theorem VR {P:Program} {t:TypeId} {parts:List (Nat×AV)}:dN (E_ P t parts):= .bind fun _=> .bind fun _=> .bind fun _=> .ret _
theorem VP {P:Program} {t:TypeId} {n:Nat} {parts:List (Nat×AV)}:dN (v8 P t n parts):= .bind fun _=> .bind fun _=> .ite (.bind fun _=> .ite (.ret _) .no) .no
def rG (x:AV) (K:AV→Prop):Prop:=match x with
 | .aJ rows _ _=>K (.int .i64 rows.length)
 | .str s=>K (.int .i64 s.size)
 | .ref _ _ _ n _=>K (.int .i64 n)
 | _=>False
theorem adb {x:AV}:dN (rG x):=by
 cases x<;>first | exact .no | exact .ret _
theorem ade {x:AV} {K:AV→Prop} (h:rG x K):rF x K:=by
 cases x<;>first | exact h | exact fun _=>h
theorem Wb {P:Program} {f:FuncId} {args:List AV} {L:List (Nat×List AV)} {H:List Blk}:dN (oa P f args L H):=fun K ⟨ad,dB,t,h1,h2,ay⟩=>⟨t,ay,ad,dB,t,h1,h2,rfl⟩
def W6 (P:Program) (c:Call) (bo:Operand→AV) (L:List (Nat×List AV)) (H:List Blk) (K:AV→Prop):Prop:=match c.callee with
 | .builtin .len=>(match c.args.toList,c.argTypes.toList with
  | [x],[t]=>eo (js P t (bo x)) (rG (bo x) K)
  | _,_=>False)
 | .value f=>k7 (bo f) fun g caps=>oa P g (c.args.toList.map bo++caps) L H K
 | _=>False
def jp (P:Program) (o:Oper) (bo:Operand→AV) (L:List (Nat×List AV)) (H:List Blk) (K:AV→Prop):Prop:=match o.op with
 | .call c=>W6 P c bo L H K
 | .pick c x y=>n_ (bo c) fun z=>oW true z (K (bo x)) (K (bo y))
 | .binOp op t x y _=>eo (yT (bo x)) (si P op t (bo x) (bo y) (qk y) K)
 | _=>so P o bo L H K
theorem B2 {P:Program} {o:Oper} {bo:Operand→AV} {L:List (Nat×List AV)} {H:List Blk} {K:AV→Prop} (h:jp P o bo L H K):so P o bo L H K:=by
 obtain⟨dst,op,ty,pos,after,guard⟩:=o
 cases op with
 | call c=>
  obtain⟨callee,args,argTypes⟩:=c
  cases callee with
  | builtin b=>
   cases b with
   | len=>
    have h:(match args.toList,argTypes.toList with
     | [x],[t]=>eo (js P t (bo x)) (rG (bo x) K)
     | _,_=>False):=h
    show(match args.toList,argTypes.toList with
     | [x],[t]=>eo (js P t (bo x)) (rF (bo x) K)
     | _,_=>False)
    split at h
    ·obtain⟨h1,h2⟩:=pu h
     simp only[h1];exact ade h2
    ·exact h.elim
   | _=>exact h.elim
  | value f=>exact h
  | _=>exact h.elim
 | binOp op t x y ty2=>exact(pu (show eo (yT (bo x)) (si P op t (bo x) (bo y) (qk y) K) from h)).2
 | pick c x y=>
  obtain⟨b,hb,hw⟩:=Bv (show n_ (bo c) fun z=>oW true z (K (bo x)) (K (bo y)) from h)
  show n_ (bo c) fun z=>yR z (K (bo x)) (K (bo y))
  rw[hb];exact BE hw
 | _=>exact h
theorem VB {α:Type} {z:Bool} {x y:α}:dN fun K=>oW true z (K x) (K y):=by
 cases z with
 | true=>exact .ret x
 | false=>exact .ret y
theorem Vv {α:Type} {v:AV} {F:Bool→(α→Prop)→Prop} (h: ∀b,dN (F b)):dN fun K=>n_ v fun b=>F b K:=by
 cases v with
 | bool b=>exact h b
 | _=>exact .no
theorem W9 {P:Program} {o:Oper} {bo:Operand→AV} {L:List (Nat×List AV)} {H:List Blk}:dN (jp P o bo L H):=by
 obtain⟨dst,op,ty,pos,after,guard⟩:=o
 cases op with
 | move x=>exact .ret _
 | assign x=>exact .ret _
 | pick c x y=>exact Vv fun z=>VB
 | build t ps=>exact .eo VR
 | buildSlice t n ps=>exact .eo VP
 | load t a=>exact ac6
 | nilCheck x=>exact ad2
 | binOp op t x y ty2=>
  show dN fun K=>eo (yT (bo x)) (si P op t (bo x) (bo y) (qk y) K)
  cases hb:yT (bo x) with
  | true=>exact VE hb
  | false=>exact .no
 | unOp op t x=>exact ahU
 | convert s d x=>exact WK
 | makeFunc fn first caps=>exact adJ
 | fieldAddr t x f=>exact Xf
 | indexAddr t x i=>exact Z_
 | index t x i=>exact aaj
 | slice t x lo hi mx=>
  cases mx with
  | none=>exact afU
  | some m=>exact .no
 | extract x i=>exact Xa
 | call c=>
  obtain⟨callee,args,argTypes⟩:=c
  cases callee with
  | builtin b=>
   cases b with
   | len=>
    show dN fun K=>(match args.toList,argTypes.toList with
     | [x],[t]=>eo (js P t (bo x)) (rG (bo x) K)
     | _,_=>False)
    split
    ·exact .eo adb
    ·exact .no
   | _=>exact .no
  | value f=>
   show dN fun K=>k7 (bo f) fun g caps=>oa P g (args.toList.map bo++caps) L H K
   cases bo f with
   | fn g caps=>exact Wb
   | _=>exact .no
  | _=>exact .no
 | _=>exact .no
structure Item where
 i:Nat
 lit:Bool
 q:Bool
 iT:List Nat
def Lo:AV→AV→Bool
 | .int k n,.int i_ jb=>decide (k=i_)&&decide (n=jb)
 | .bool b,.bool bH=>b==bH
 | .aJ [] f g,.aJ [] B5 c0=>f==B5&&g==c0
 | .fD,.fD=>true
 | _,_=>false
def Ez:List AV→List AV→Bool
 | [],[]=>true
 | a::l,b::m=>Lo a b&&Ez l m
 | _,_=>false
theorem ais {a b:AV} (h:Lo a b=true):a=b:=by
 unfold Lo at h
 split at h
 ·simp only[Bool.and_eq_true,decide_eq_true_eq] at h;rw[h.1,h.2]
 ·rw[eq_of_beq h]
 ·simp only[Bool.and_eq_true] at h;rw[eq_of_beq h.1,eq_of_beq h.2]
 ·rfl
 ·cases h
theorem UP: ∀{l m:List AV},Ez l m=true→l=m
 | [],[],_=>rfl
 | [],_::_,h=>by cases h
 | _::_,[],h=>by cases h
 | a::l,b::m,h=>by
  simp only[Ez,Bool.and_eq_true] at h
  rw[ais h.1,UP h.2]
def po (o:Oper):Bool:=match o.op with
 | .alloc _=>true
 | _=>false
def LH (P:Program) (e:TypeId) (dst:Option Nat) (L:List (Nat×List AV)) (K:AV→Prop):Prop:=cD (mD P e) fun z=>cD dst fun t=>cD (dT L t) fun c=>eo (z.all jg) (eo (Ez c z) (K (.e4 t 0)))
def kL (P:Program) (o:Oper) (bo:Operand→AV) (L:List (Nat×List AV)) (H:List Blk) (K:AV→Prop):Prop:=match o.op with
 | .alloc e=>LH P e o.dst L K
 | _=>jp P o bo L H K
theorem wl {P:Program} {o:Oper} {bo:Operand→AV} {L:List (Nat×List AV)} {H:List Blk} {K:AV→Prop} (h:po o=false):kL P o bo L H K=jp P o bo L H K:=by
 obtain⟨dst,op,ty,pos,after,guard⟩:=o
 cases op<;>first | rfl | cases h
theorem W8 {P:Program} {o:Oper} {bo:Operand→AV} {L:List (Nat×List AV)} {H:List Blk}:dN (kL P o bo L H):=by
 cases h:po o with
 | false=>intro K hk;rw[wl h] at hk;obtain⟨r,h1,h2⟩:=W9 K hk;exact⟨r,h1,by rw[wl h];exact h2⟩
 | true=>
  obtain⟨dst,op,ty,pos,after,guard⟩:=o
  cases op
  case alloc e=>exact dN.bind fun _=> .bind fun _=> .bind fun _=> .eo (.eo (.ret _))
  all_goals cases h
def opI (ops:Array Oper) (i:Nat):Oper:=ops.getD i default
def sm (o:Oper) (T:List AV):AV:=match o.dst with
 | some d=>T.getD d .undef
 | none=> .undef
def qV (P:Program) (ops:Array Oper):List Nat→List AV→List (Nat×List AV)→List Blk→Prop
 | [],_,_,_=>True
 | i::r,T,L,H=>((opI ops i).guard.isNone=true∧(opI ops i).dst.isSome=true∧kL P (opI ops i) (bY T) L H (fun v=>v=sm (opI ops i) T))∧qV P ops r T L H
theorem M3 {P:Program} {ops:Array Oper} {T:List AV} {L:List (Nat×List AV)} {H:List Blk}: ∀{iT:List Nat},qV P ops iT T L H→ ∀i∈iT,(opI ops i).guard.isNone=true∧(opI ops i).dst.isSome=true∧kL P (opI ops i) (bY T) L H (fun v=>v=sm (opI ops i) T)
 | [],_,i,hi=>by cases hi
 | j::r,h,i,hi=>by
  rcases List.mem_cons.1 hi with rfl | hi
  ·exact h.1
  ·exact M3 h.2 i hi
def jF (P:Program) (esc:List Nat) (ops:Array Oper):List Item→List AV→List (Nat×List AV)→List Blk→(List AV→List (Nat×List AV)→List Blk→Prop)→Prop
 | [],T,L,H,K=>K T L H
 | x::rest,T,L,H,K=>nw ops x.lit (opI ops x.i) T
   (fun T=>match x.q with
    | true=>kL P (opI ops x.i) (bY T) L H fun v=>jF P esc ops rest (putA T (opI ops x.i).dst v) L H K
    | false=>jE P esc (opI ops x.i) (bY T) L H fun v L' H'=>qV P ops x.iT T L' H'∧jF P esc ops rest (putA T (opI ops x.i).dst v) L' H' K)
   (fun T=>jF P esc ops rest (putA T (opI ops x.i).dst (.tup [])) L H K)
theorem MO {P:Program} {o:Oper} {bo fw:Operand→AV} {L:List (Nat×List AV)} {H:List Blk} {K:AV→Prop} (h: ∀x∈o.op.operands,bo x=fw x):so P o bo L H K=so P o fw L H K:=by
 obtain⟨dst,op,ty,pos,after,guard⟩:=o
 have RB: ∀ps:Array (Nat×Operand),(∀x∈ps.map (·.2),bo x=fw x)→(ps.toList.map fun p=>(p.1,bo p.2))=(ps.toList.map fun p=>(p.1,fw p.2)):=fun ps ab=>
  List.map_congr_left fun p hm=>by rw[ab p.2 (Array.mem_map.2 ⟨p,by simpa using hm,rfl⟩)]
 have LL: ∀ps:Array (Nat×Operand),(∀x∈ps.map (·.2),bo x=fw x)→(ps.toList.all fun p=>en (bo p.2))=(ps.toList.all fun p=>en (fw p.2)):=fun ps ab=>by
  rw[Bool.eq_iff_iff,List.all_eq_true,List.all_eq_true]
  constructor<;>intro q p hm
  ·rw[←ab p.2 (Array.mem_map.2 ⟨p,by simpa using hm,rfl⟩)];exact q p hm
  ·rw[ab p.2 (Array.mem_map.2 ⟨p,by simpa using hm,rfl⟩)];exact q p hm
 have aJ: ∀xs:Array Operand,(∀x∈xs,bo x=fw x)→xs.toList.map bo=xs.toList.map fw:=fun xs hx=>List.map_congr_left fun p hm=>hx p (by simpa using hm)
 cases op<;>simp only[Op.operands] at h
 case build t ps=>
  show eo _ _=eo _ _
  rw[RB ps fun x hx=>h x (by simpa using hx),LL ps fun x hx=>h x (by simpa using hx)]
 case buildSlice t n ps=>
  show eo _ _=eo _ _
  rw[RB ps fun x hx=>h x (by simpa using hx),LL ps fun x hx=>h x (by simpa using hx)]
 case makeFunc fn first caps=>
  show z8 fn first (caps.toList.map bo) K=z8 fn first (caps.toList.map fw) K
  rw[aJ caps fun x hx=>h x (by simp[hx])]
 case slice t x lo hi mx=>
  cases mx with
  | some m=>rfl
  | none=>
   show vj P t (bo x) (lo.map bo) (hi.map bo) H K=vj P t (fw x) (lo.map fw) (hi.map fw) H K
   cases lo<;>cases hi<;>simp_all
 case call c=>
  obtain⟨callee,args,argTypes⟩:=c
  have ap: ∀x∈args,bo x=fw x:=fun x hx=>h x (by simp[Call.operands,hx])
  cases callee with
  | builtin b=>
   cases b with
   | len=>
    show(match args.toList,argTypes.toList with
     | [x],[t]=>eo (js P t (bo x)) (rF (bo x) K)
     | _,_=>False)=(match args.toList,argTypes.toList with
     | [x],[t]=>eo (js P t (fw x)) (rF (fw x) K)
     | _,_=>False)
    split
    ·rename_i x t h1 h2
     rw[ap x (by rw[←Array.mem_toList_iff,h1];simp)]
    ·rfl
   | _=>rfl
  | value f=>
   have hf:bo f=fw f:=h f (by simp[Call.operands])
   show k7 (bo f) _=k7 (fw f) _
   rw[hf,aJ args ap]
  | invoke r m=>rfl
 all_goals (first | rfl | (simp only[so];simp_all;done))
theorem MN {P:Program} {o:Oper} {bo fw:Operand→AV} {L:List (Nat×List AV)} {H:List Blk} {K:AV→Prop} (h: ∀x∈o.op.operands,bo x=fw x):jp P o bo L H K=jp P o fw L H K:=by
 have hv:=fun K=>MO (P:=P) (L:=L) (H:=H) (K:=K) h
 obtain⟨dst,op,ty,pos,after,guard⟩:=o
 cases op
 case call c=>
  simp only[Op.operands] at h
  obtain⟨callee,args,argTypes⟩:=c
  have ap: ∀x∈args,bo x=fw x:=fun x hx=>h x (by simp[Call.operands,hx])
  cases callee with
  | builtin b=>
   cases b with
   | len=>
    show(match args.toList,argTypes.toList with
     | [x],[t]=>eo (js P t (bo x)) (rG (bo x) K)
     | _,_=>False)=(match args.toList,argTypes.toList with
     | [x],[t]=>eo (js P t (fw x)) (rG (fw x) K)
     | _,_=>False)
    split
    ·rename_i x t h1 h2
     rw[ap x (by rw[←Array.mem_toList_iff,h1];simp)]
    ·rfl
   | _=>rfl
  | value f=>exact hv K
  | invoke r m=>rfl
 case pick c x y=>simp only[Op.operands] at h;simp only[jp];simp_all
 case binOp op t x y ty2=>simp only[Op.operands] at h;simp only[jp];simp_all
 all_goals exact hv K
theorem MJ {P:Program} {o:Oper} {bo fw:Operand→AV} {L:List (Nat×List AV)} {H:List Blk} {K:AV→Prop} (h: ∀x∈o.op.operands,bo x=fw x):kL P o bo L H K=kL P o fw L H K:=by
 cases ap:po o with
 | false=>rw[wl ap,wl ap];exact MN h
 | true=>
  obtain⟨dst,op,ty,pos,after,guard⟩:=o
  cases op
  case alloc e=>rfl
  all_goals cases ap
theorem W7 {P:Program} {esc:List Nat} {o:Oper} {bo fw:Operand→AV} {L:List (Nat×List AV)} {H:List Blk} {K:AV→List (Nat×List AV)→List Blk→Prop} (h: ∀x∈o.op.operands,bo x=fw x):jE P esc o bo L H K=jE P esc o fw L H K:=by
 have hv:=fun K=>MO (P:=P) (L:=L) (H:=H) (K:=K) h
 obtain⟨dst,op,ty,pos,after,guard⟩:=o
 cases op
 case call c=>
  obtain⟨callee,args,argTypes⟩:=c
  have h':=h
  simp only[Op.operands] at h
  have ap: ∀x∈args,bo x=fw x:=fun x hx=>h x (by simp[Call.operands,hx])
  cases callee with
  | builtin b=>
   cases b with
   | len=>exact hv fun r=>K r L H
   | append=>
    show(match args.toList,argTypes.toList with
     | [s,x],[t,t2]=>en (bo s)=true∧en (bo x)=true∧tF P t t2 (bo s) (bo x) L H K
     | _,_=>False)=(match args.toList,argTypes.toList with
     | [s,x],[t,t2]=>en (fw s)=true∧en (fw x)=true∧tF P t t2 (fw s) (fw x) L H K
     | _,_=>False)
    split
    ·rename_i s x t t2 h1 h2
     rw[ap x (by rw[←Array.mem_toList_iff,h1];simp),ap s (by rw[←Array.mem_toList_iff,h1];simp)]
    ·rfl
   | _=>rfl
  | value f=>
   have hf:bo f=fw f:=h f (by simp[Call.operands])
   show k7 (bo f) _=k7 (fw f) _
   rw[hf,List.map_congr_left fun p hm=>ap p (by simpa using hm)]
  | invoke r m=>rfl
 case alloc e=>rfl
 case buildSlice t n ps=>
  simp only[Op.operands] at h
  have h: ∀x∈ps.map (·.2),bo x=fw x:=fun x hx=>h x (by simpa using hx)
  have ax:(ps.toList.map fun p=>(p.1,bo p.2))=(ps.toList.map fun p=>(p.1,fw p.2)):=
   List.map_congr_left fun p hm=>by rw[h p.2 (Array.mem_map.2 ⟨p,by simpa using hm,rfl⟩)]
  have e2:(ps.toList.all fun p=>en (bo p.2))=(ps.toList.all fun p=>en (fw p.2)):=by
   rw[Bool.eq_iff_iff,List.all_eq_true,List.all_eq_true]
   constructor<;>intro q p hm
   ·rw[←h p.2 (Array.mem_map.2 ⟨p,by simpa using hm,rfl⟩)];exact q p hm
   ·rw[h p.2 (Array.mem_map.2 ⟨p,by simpa using hm,rfl⟩)];exact q p hm
  show eo _ (tK P (tP esc dst) (vd esc) t n _ L H K)=eo _ (tK P (tP esc dst) (vd esc) t n _ L H K)
  rw[ax,e2]
 case store t x y=>simp only[Op.operands] at h;simp only[jE];simp_all
 case box e x=>simp only[Op.operands] at h;simp only[jE];simp_all
 case makeSlice t l c=>simp only[Op.operands] at h;simp only[jE];simp_all
 all_goals exact hv fun r=>K r L H
structure vE (P:Program) (ops:Array Oper) (L:List (Nat×List AV)) (H:List Blk) (T:List AV) (o:Oper) (v:AV) (run:Bool):Prop where
 cJ: ∀(E:Env) (a:Act),(∀t∈o.looksAt ops,V3 E (T.getD t .undef) (a.tmps.getD t undef))→T.length=a.tmps.size→Region.wanted o (yielded ops a.tmps)=run
 qH:run=true→kL P o (bY T) L H (fun r=>r=v)
 no:run=false→v= .tup []
 put: ∀d,o.dst=some d→d<T.length→T.getD d .undef=v
theorem adx {ops:Array Oper} {o:Oper} {t:Nat} (h: .tmp t∈o.op.operands):t∈o.looksAt ops:=
 List.mem_append_left _ (List.mem_filterMap.2 ⟨.tmp t,by simpa using h,rfl⟩)
theorem adw {ops:Array Oper} {o:Oper} {j t:Nat} {b:Bool} (aB:o.guard=some (j,b)) (a_:(ops[j]?).bind (·.dst)=some t):t∈o.looksAt ops:=by
 refine List.mem_append_right _ ?_
 rw[aB];simp[a_]
theorem Dr {ops:Array Oper} {o:Oper} {T T':List AV} (h: ∀t∈o.looksAt ops,T.getD t .undef=T'.getD t .undef): ∀x∈o.op.operands,bY T x=bY T' x:=fun x hx=>by
 cases x with
 | tmp t=>exact h t (adx hx)
 | _=>rfl
theorem vE.mono {P:Program} {ops:Array Oper} {L:List (Nat×List AV)} {H:List Blk} {T T':List AV} {o:Oper} {v:AV} {run:Bool} (h:vE P ops L H T o v run) (ao:T'.length=T.length)
  (ap: ∀t∈o.looksAt ops,T'.getD t .undef=T.getD t .undef) (aO: ∀d,o.dst=some d→T'.getD d .undef=T.getD d .undef):vE P ops L H T' o v run where
 cJ:=fun E a hs av=>h.cJ E a (fun t a_=>by rw[←ap t a_];exact hs t a_) (by rw[←ao];exact av)
 qH:=fun ai=>by
  rw[MJ (Dr ap)]
  exact h.qH ai
 no:=h.no
 put:=fun d pa aN=>by rw[aO d pa];exact h.put d pa (by rw[←ao];exact aN)
theorem Ng {P:Program} {ops:Array Oper} {lit:Bool} {o:Oper} {T:List AV} {x y:List AV→Prop} (h:nw ops lit o T x y):
  ∃T' run,T'.length=T.length∧(∀t,T'.getD t .undef=T.getD t .undef)∧(∀(E:Env) (a:Act),(∀t∈o.looksAt ops,V3 E (T.getD t .undef) (a.tmps.getD t undef))→T.length=a.tmps.size→Region.wanted o (yielded ops a.tmps)=run)∧(if run=true then x T' else y T'):=by
 unfold nw at h
 cases aB:o.guard with
 | none=>rw[aB] at h;exact⟨T,true,rfl,fun _=>rfl,fun E a _ _=>by simp[Region.wanted,aB],h⟩
 | some g=>
  obtain⟨j,cJ⟩:=g
  rw[aB] at h
  simp only at h
  cases af:(ops[j]?).bind (·.dst) with
  | none=>rw[af] at h;exact h.elim
  | some t=>
   rw[af] at h
   simp only at h
   have Cz:t∈o.looksAt ops:=adw aB af
   have rj: ∀b,T.getD t .undef= .bool b→ ∀s,(T.set t (.bool b)).getD s .undef=T.getD s .undef:=fun b hb s=>by
    rw[qX]
    by_cases hs:t=s∧t<T.length
    ·rw[if_pos hs,←hs.1,hb]
    ·rw[if_neg hs]
   split at h
   ·rename_i b hb
    obtain⟨h1,h2⟩:=BE h
    have hw: ∀(E:Env) (a:Act),(∀t∈o.looksAt ops,V3 E (T.getD t .undef) (a.tmps.getD t undef))→T.length=a.tmps.size→Region.wanted o (yielded ops a.tmps)=(b==cJ):=fun E a hs av=>by
     have hv:=hs t Cz
     rw[hb] at hv
     have he:a.tmps.getD t undef= .bool b:=V3.nn hv
     have aS:yielded ops a.tmps j=some b:=by
      unfold yielded
      rw[af]
      rw[Array.getD_eq_getD_getElem?] at he
      cases U:a.tmps[t]? with
      | none=>rw[U] at he;cases he
      | some x=>rw[U] at he;have:x= .bool b:=he;subst this;simp[U]
     simp[Region.wanted,aB,aS]
    cases b with
    | true=>refine⟨_,_,by simp,rj true hb,hw,?_⟩;have:=h1 rfl;cases cJ<;>exact this
    | false=>refine⟨_,_,by simp,rj false hb,hw,?_⟩;have:=h2 rfl;cases cJ<;>exact this
   ·rename_i hb
    refine⟨T,false,rfl,fun _=>rfl,fun E a hs av=> ?_,h⟩
    have hv:=hs t Cz
    rw[hb] at hv
    obtain⟨vs,he,ab⟩:=(show ∃vs:List Value,a.tmps.getD t undef= .tuple vs.toArray∧az (V2 E) [] vs from hv)
    obtain rfl:=ab.mj
    have aS:yielded ops a.tmps j=none:=by
     unfold yielded
     rw[af]
     rw[Array.getD_eq_getD_getElem?] at he
     cases U:a.tmps[t]? with
     | none=>simp[U]
     | some x=>rw[U] at he;have:x= .tuple #[]:=he;subst this;simp[U]
    simp[Region.wanted,aB,aS]
   ·exact h.elim
theorem xx (T:List AV) (d:Option Nat) (v:AV):(putA T d v).length=T.length:=by
 cases d<;>simp[putA]
theorem DA {T:List AV} {d:Option Nat} {v:AV} {t:Nat} (h:d≠some t):(putA T d v).getD t .undef=T.getD t .undef:=by
 cases d with
 | none=>rfl
 | some s=>
  show(T.set s v).getD t .undef=_
  rw[qX,if_neg]
  rintro⟨rfl,_⟩;exact h rfl
theorem RR {T:List AV} {d:Nat} {v:AV} (h:d<T.length):(putA T (some d) v).getD d .undef=v:=by
 show(T.set d v).getD d .undef=v
 rw[qX,if_pos ⟨rfl,h⟩]
def kX (ops:Array Oper):List Item→Prop
 | []=>True
 | x::r=>(∀t∈(opI ops x.i).looksAt ops,∀y∈x::r,(opI ops y.i).dst≠some t)∧(∀d,(opI ops x.i).dst=some d→ ∀y∈r,(opI ops y.i).dst≠some d)∧kX ops r
theorem JJ {P:Program} {esc:List Nat} {ops:Array Oper} {L:List (Nat×List AV)} {H:List Blk} {K:List AV→List (Nat×List AV)→List Blk→Prop}: ∀(l:List Item) (T:List AV),kX ops l→jF P esc ops l T L H K→
  ∃pre post n5,l=pre++post∧(∀x∈pre,x.q=true)∧(∀x r,post=x::r→x.q=false)∧jF P esc ops post n5 L H K∧n5.length=T.length∧
   (∀t,(∀x∈pre,(opI ops x.i).dst≠some t)→n5.getD t .undef=T.getD t .undef)∧ ∀x∈pre,∃v run,vE P ops L H n5 (opI ops x.i) v run
 | [],T,_,h=>⟨[],[],T,rfl,fun x hx=>(by cases hx),fun x r e=>(by cases e),h,rfl,fun _ _=>rfl,fun x hx=>(by cases hx)⟩
 | x::r,T,bz,h=>by
  cases U:x.q with
  | false=>exact⟨[],x::r,T,rfl,fun x hx=>(by cases hx),fun y DK e=>(by cases e;exact U),h,rfl,fun _ _=>rfl,fun x hx=>(by cases hx)⟩
  | true=>
   obtain⟨lx,run,pe,ld,hw,fu⟩:=Ng (P:=P) h
   obtain⟨LN,Vq,Vr⟩:=bz
   have key: ∃v,jF P esc ops r (putA lx (opI ops x.i).dst v) L H K∧(run=true→kL P (opI ops x.i) (bY lx) L H (fun r=>r=v))∧(run=false→v= .tup []):=by
    cases run with
    | true=>
     have fu:(match x.q with
      | true=>kL P (opI ops x.i) (bY lx) L H fun v=>jF P esc ops r (putA lx (opI ops x.i).dst v) L H K
      | false=>_):=fu
     rw[U] at fu
     obtain⟨v,h1,h2⟩:=W8 _ fu
     exact⟨v,h1,fun _=>h2,fun e=>by cases e⟩
    | false=>exact⟨.tup [],fu,fun e=>(by cases e),fun _=>rfl⟩
   obtain⟨v,hv,Z5,sA⟩:=key
   obtain⟨pre,post,n5,rfl,zC,rf,q9,hlen,gC,zn⟩:=JJ r _ Vr hv
   have sy: ∀y∈pre,y∈pre++post:=fun y aS=>List.mem_append_left _ aS
   have zv: ∀t∈(opI ops x.i).looksAt ops,n5.getD t .undef=lx.getD t .undef:=fun t a_=>by
    rw[gC t fun y aS=>LN t a_ y (List.mem_cons_of_mem _ (sy y aS)),DA (LN t a_ x (List.mem_cons_self ..))]
   refine⟨x::pre,post,n5,rfl,fun y aS=> ?_,rf,q9,by rw[hlen,xx,pe],fun t a_=> ?_,fun y aS=> ?_⟩
   ·rcases List.mem_cons.1 aS with rfl | aS
    ·exact U
    ·exact zC y aS
   ·rw[gC t fun y aS=>a_ y (List.mem_cons_of_mem _ aS),DA (a_ x (List.mem_cons_self ..)),ld]
   ·rcases List.mem_cons.1 aS with rfl | aS
    ·refine⟨v,run,⟨fun E a hs av=>hw E a (fun t a_=> ?_) ?_,fun ai=> ?_,sA,fun d aO aN=> ?_⟩⟩
     ·rw[←ld t,←zv t a_];exact hs t a_
     ·rw[←av,hlen,xx,pe]
     ·rw[MJ (Dr zv)];exact Z5 ai
     ·rw[gC d fun y aS=>Vq d aO y (sy y aS),aO]
      exact RR (by rw[hlen,xx] at aN;exact aN)
    ·exact zn y aS
def tu (A:Nat→List Nat):List Item→List Item→Prop
 | _,[]=>True
 | p,h::r=>(h.q=false→(∀y∈r,h.i∈A y.i)∧ ∀x∈p,x.i∈A h.i∨x.i∈h.iT)∧tu A (p++[h]) r
theorem tu.at {A:Nat→List Nat}: ∀{pre p:List Item} {h:Item} {r:List Item},tu A p (pre++h::r)→h.q=false→(∀y∈r,h.i∈A y.i)∧ ∀x∈p++pre,x.i∈A h.i∨x.i∈h.iT
 | [],p,h,r,hb,U=>by
  rw[List.append_nil];exact hb.1 U
 | x::pre,p,h,r,hb,U=>by
  have:=tu.at (pre:=pre) (p:=p++[x]) hb.2 U
  simpa using this
structure A9 (ops:Array Oper) (ord:List Item) (A:Nat→List Nat):Prop where
 back: ∀i o,ops[i]?=some o→ ∀e∈o.after,Region.binds .any e=true→e.on<i
 Vn: ∀i o,ops[i]?=some o→ ∀a∈A i,∃e∈o.after,Region.binds .any e=true∧(a=e.on∨a∈A e.on)
 all: ∀i,i<ops.size→ ∃x∈ord,x.i=i
 lt: ∀x∈ord,x.i<ops.size
 nodup:(ord.map (·.i)).Nodup
 ahZ: ∀x∈ord,∀t∈(opI ops x.i).looksAt ops,∀y∈ord,(opI ops y.i).dst=some t→y.i∈A x.i
 apart:kX ops ord
 l4:tu A [] ord
theorem kX.tail {ops:Array Oper}: ∀{p r:List Item},kX ops (p++r)→kX ops r
 | [],_,h=>h
 | _::p,_,h=>kX.tail (p:=p) h.2.2
theorem kX.PI {ops:Array Oper}: ∀{p r:List Item},kX ops (p++r)→ ∀x∈p,(∀t∈(opI ops x.i).looksAt ops,∀y∈r,(opI ops y.i).dst≠some t)∧ ∀d,(opI ops x.i).dst=some d→ ∀y∈r,(opI ops y.i).dst≠some d
 | [],_,_,x,hx=>by cases hx
 | z::p,r,h,x,hx=>by
  rcases List.mem_cons.1 hx with rfl | hx
  ·exact⟨fun t a_ y aS=>h.1 t a_ y (List.mem_cons_of_mem _ (List.mem_append_right _ aS)),fun d aO y aS=>h.2.1 d aO y (List.mem_append_right _ aS)⟩
  ·exact kX.PI (p:=p) h.2.2 x hx
theorem kX.inj {ops:Array Oper}: ∀{l:List Item},kX ops l→ ∀x∈l,∀y∈l,x.i≠y.i→ ∀d,(opI ops x.i).dst=some d→(opI ops y.i).dst≠some d
 | [],_,x,hx,_,_,_,_,_=>by cases hx
 | z::r,h,x,hx,y,aS,bN,d,aO=>by
  rcases List.mem_cons.1 hx with ex | PG
  ·rcases List.mem_cons.1 aS with F7 | Iz
   ·exact absurd (by rw[ex,F7]) bN
   ·exact h.2.1 d (by rw[←ex];exact aO) y Iz
  ·rcases List.mem_cons.1 aS with F7 | Iz
   ·exact fun e=>h.2.1 d (by rw[←F7];exact e) x PG aO
   ·exact kX.inj h.2.2 x PG y Iz bN d aO
theorem rK {ops:Array Oper} {i:Nat} (h:i<ops.size):ops[i]?=some (opI ops i):=by
 unfold opI
 rw[Array.getElem?_eq_getElem h,Array.getD_eq_getD_getElem?,Array.getElem?_eq_getElem h];rfl
def ED (ops:Array Oper) (S:Array Bool):Prop:= ∀i o,ops[i]?=some o→S.getD i false=true→ ∀e∈o.after,Region.binds .any e=true→S.getD e.on false=true
theorem Vo {ops:Array Oper} {ord:List Item} {A:Nat→List Nat} (D:A9 ops ord A) {S:Array Bool} (hs:S.size=ops.size) (hc:ED ops S): ∀(i:Nat) o,ops[i]?=some o→(∀e∈o.after,Region.binds .any e=true→S.getD e.on false=true)→ ∀a∈A i,S.getD a false=true:=by
 intro i
 induction i using Nat.strongRecOn with
 | _ i bn=>
  intro o ar ai a ap
  obtain⟨e,he,hb,re⟩:=D.Vn i o ar a ap
  have sB:=ai e he hb
  rcases re with rfl | re
  ·exact sB
  ·have aN:=D.back i o ar e he hb
   have b3:e.on<ops.size:=by
    rcases Nat.lt_or_ge e.on ops.size with h | h
    ·exact h
    ·rw[Array.getD_eq_getD_getElem?,Array.getElem?_eq_none (by omega)] at sB;cases sB
   exact bn e.on aN _ (rK b3) (fun bT Y4 dV=>hc e.on _ (rK b3) sB bT Y4 dV) a re
theorem Sg {ops:Array Oper} {S:Array Bool} (hs:S.size=ops.size) {i:Nat} (h:i∈Region.ready .any ops S):i<ops.size∧S.getD i false=false∧ ∀e∈(opI ops i).after,Region.binds .any e=true→S.getD e.on false=true:=by
 unfold Region.ready at h
 rw[List.mem_filter,List.mem_range] at h
 obtain⟨aN,h⟩:=h
 rw[rK aN] at h
 simp only[Option.map_some,Option.getD_some,Bool.and_eq_true,Bool.not_eq_true',Array.all_eq_true_iff_forall_mem] at h
 obtain⟨h1,h2⟩:=h
 refine⟨aN,?_,fun e he hb=> ?_⟩
 ·rw[Array.getD_eq_getD_getElem?,Array.getElem?_eq_getElem (by omega)] at h1 ⊢;exact h1
 ·have:=h2 e he
  rw[hb] at this;simpa using this
theorem afe {ops:Array Oper} {ord:List Item} {A:Nat→List Nat} (D:A9 ops ord A) {S:Array Bool} (hs:S.size=ops.size) (h:Region.ready .any ops S=[]): ∀i,i<ops.size→S.getD i false=true:=by
 intro i
 induction i using Nat.strongRecOn with
 | _ i bn=>
  intro aN
  cases U:S.getD i false with
  | true=>rfl
  | false=>
   exfalso
   have:i∈Region.ready .any ops S:=by
    unfold Region.ready
    rw[List.mem_filter,List.mem_range]
    refine⟨aN,?_⟩
    rw[rK aN]
    simp only[Option.map_some,Option.getD_some,Bool.and_eq_true,Bool.not_eq_true',Array.all_eq_true_iff_forall_mem]
    refine⟨?_,fun e he=> ?_⟩
    ·rw[Array.getD_eq_getD_getElem?,Array.getElem?_eq_getElem (by omega)] at U ⊢;exact U
    ·cases hb:Region.binds .any e with
     | false=>rfl
     | true=>
      have ao:=D.back i _ (rK aN) e he hb
      simpa using bn e.on ao (by omega)
   rw[h] at this;cases this
theorem Mo {α:Type} (p xq:α→Bool) (j:α) (ab:p j=true) (CG:xq j=false) (hk: ∀k,k≠j→p k=xq k): ∀l:List α,l.Nodup→j∈l→l.countP p=l.countP xq+1
 | [],_,h=>by cases h
 | k::l,ad,h=>by
  rw[List.nodup_cons] at ad
  by_cases G1:k=j
  ·subst G1
   rw[List.countP_cons_of_pos ab,List.countP_cons_of_neg (by simp[CG])]
   congr 1
   refine List.countP_congr fun x hx=> ?_
   rw[hk x (fun e=>ad.1 (e▸hx))]
  ·have af:j∈l:=(List.mem_cons.1 h).resolve_left fun e=>G1 e.symm
   have bn:=Mo p xq j ab CG hk l ad.2 af
   rw[List.countP_cons,List.countP_cons,hk k G1,bn];omega
def left (n:Nat) (S:Array Bool):Nat:=(List.range n).countP fun j=> !S.getD j false
theorem y9 {S:Array Bool} {i j:Nat}:(S.setIfInBounds i true).getD j false=if i=j∧i<S.size then true else S.getD j false:=by
 rw[Array.getD_eq_getD_getElem?,Array.getD_eq_getD_getElem?,Array.getElem?_setIfInBounds]
 by_cases h:i=j
 ·subst h
  by_cases ao:i<S.size
  ·simp[ao]
  ·simp[ao]
 ·simp[h]
theorem ac_ {n:Nat} {S:Array Bool} {i:Nat} (hs:S.size=n) (hi:i<n) (h:S.getD i false=false):left n S=left n (S.setIfInBounds i true)+1:=by
 refine Mo _ _ i (by simp[h]) ?_ (fun k hk=> ?_) _ List.nodup_range (List.mem_range.2 hi)
 ·rw[y9,if_pos ⟨rfl,by omega⟩];rfl
 ·rw[y9,if_neg (fun e=>hk e.1.symm)]
theorem ada {n:Nat} {S:Array Bool} (h:left n S=0): ∀i,i<n→S.getD i false=true:=fun i hi=>by
 have:=(List.countP_eq_zero.1 h) i (List.mem_range.2 hi)
 simpa using this
def uf:List Nat→List AV→List AV
 | [],T=>T
 | d::iv,T=>uf iv (T.set d .undef)
theorem Cp: ∀(iv:List Nat) (T:List AV) (t:Nat),(t∈iv→(uf iv T).getD t .undef= .undef)∧(t ∉ iv→(uf iv T).getD t .undef=T.getD t .undef)
 | [],T,t=>⟨fun h=>(by cases h),fun _=>rfl⟩
 | d::iv,T,t=>by
  obtain⟨h1,h2⟩:=Cp iv (T.set d .undef) t
  refine⟨fun h=> ?_,fun h=> ?_⟩
  ·by_cases aO:t∈iv
   ·exact h1 aO
   ·have e:t=d:=(List.mem_cons.1 h).resolve_right aO
    show(uf iv (T.set d .undef)).getD t .undef= .undef
    rw[h2 aO,qX]
    by_cases ao:d=t∧d<T.length
    ·rw[if_pos ao]
    ·rw[if_neg ao,List.getD_eq_getElem?_getD,List.getElem?_eq_none (by rcases Nat.lt_or_ge d T.length with q | q;exact absurd ⟨e.symm,q⟩ ao;omega)];rfl
  ·show(uf iv (T.set d .undef)).getD t .undef=_
   rw[h2 fun hm=>h (List.mem_cons_of_mem _ hm),qX,if_neg fun hm=>h (by rw[hm.1];exact List.mem_cons_self ..)]
section
variable {P:Program} {esc:List Nat} {ops:Array Oper} {ord:List Item} {A:Nat→List Nat} {Q:Exit→St→Prop} {b7:Env}
structure Lq [cl] (P:Program) (esc:List Nat) (ops:Array Oper) (ord:List Item) (Q:Exit→St→Prop) (b7:Env) (S:Array Bool) (a:Act) (w:World) (pre post:List Item) (E:Env) (T:List AV) (L:List (Nat×List AV)) (H:List Blk):Prop where
 pt:ord=pre++post
 A3: ∀x∈post,S.getD x.i false=false
 head: ∀x r,post=x::r→x.q=false
 F3:jF P esc ops post T L H (fun T L H=>Q .normal ⟨T,L,H⟩)
 facts: ∀x∈pre,S.getD x.i false=false→x.q=true∧ ∃v run,vE P ops L H T (opI ops x.i) v run
 hT: ∀t,(∃x∈pre,S.getD x.i false=false∧(opI ops x.i).dst=some t)∨V3 E (T.getD t .undef) (a.tmps.getD t undef)
 size:T.length=a.tmps.size
 h:SimH E H
 l:SimL E L
 nx:Good b7 E
 bC: ∀x∈ord,S.getD x.i false=false→po (opI ops x.i)=true→x.q=true→ ∀d,(opI ops x.i).dst=some d→E.mL d=none
 FK:a.defers=[]
 w:E.w=w
theorem RV {a:Act} {d:Option Nat} {u:Value} {t:Nat} (h:d≠some t):(a.put d u).tmps.getD t undef=a.tmps.getD t undef:=by
 cases d with
 | none=>rfl
 | some s=>
  show(a.tmps.setIfInBounds s u).getD t undef=_
  rw[Array.getD_eq_getD_getElem?,Array.getD_eq_getD_getElem?,Array.getElem?_setIfInBounds_ne (fun e=>h (by rw[e]))]
theorem RX {a:Act} {d:Nat} {u:Value} (h:d<a.tmps.size):(a.put (some d) u).tmps.getD d undef=u:=by
 show(a.tmps.setIfInBounds d u).getD d undef=_
 rw[Array.getD_eq_getD_getElem?,Array.getElem?_setIfInBounds_self];simp[h]
theorem RY (a:Act) (d:Option Nat) (u:Value):(a.put d u).tmps.size=a.tmps.size:=by
 cases d<;>simp[Act.put]
theorem RU {a:Act} (d:Option Nat) (u:Value) (h:a.defers=[]):(a.put d u).defers=[]:=by
 cases d<;>exact h
theorem Vm {o:Oper} {a:Act} {T:List AV} {L:List (Nat×List AV)} {H:List Blk} {v:AV} {E:Env} (an:SimH E H) (bB:SimL E L) (ap:po o=true) (ad: ∀d,o.dst=some d→E.mL d=none) (h:kL P o (bY T) L H (fun r=>r=v)):
  ∃t u E',V3 E' v u∧o.dst=some t∧Step E E'∧SimH E' H∧SimL E' L∧(∀s,s≠t→E'.mL s=E.mL s)∧True∧ ∀(next:Act→World→Prop) Q,next (a.put o.dst u) E'.w→o.wp P a E.w next Q:=by
 obtain⟨dst,op,ty,pos,after,guard⟩:=o
 cases op
 all_goals try (cases ap;done)
 rename_i e
 obtain⟨z,av,h⟩:=e5 (show LH P e dst L (fun r=>r=v) from h)
 obtain⟨t,a_,h⟩:=e5 h
 obtain⟨c,hc,h⟩:=e5 h
 obtain⟨hs,h⟩:=pu h
 obtain⟨U,cW⟩:=pu h
 have cW:AV.e4 t 0=v:=cW
 clear h
 subst cW
 have U:=UP U
 subst U
 obtain⟨i,vD,q1,q2,q3,q4⟩:=vC (E:=E) av
 obtain⟨E',ax,e2,dl,hL,hM,_,l7⟩:=Rb (ty:=e) an bB (mI.alloc E.w (.cells vD.cells e (0,0))) hc (ad t a_) (KX hs q4)
 refine⟨t,_,E',hM,a_,e2,dl,hL,l7,trivial,fun next Q hk=> ?_⟩
 unfold Oper.wp
 rw[show execOp a.eval ⟨dst,.alloc e,ty,pos,after,guard⟩=(do pure (Next.value (←Instr.alloc e true (.tuple #[])))) from rfl]
 refine Lg (w':=E'.w) ?_ hk
 rw[ax]
 simp[Instr.alloc,zeroValue,typeInfo,q1,q2,newVar,newRow]
theorem WO [cl] (D:A9 ops ord A): ∀(iU:Nat) (S:Array Bool) (a:Act) (w:World) (pre post:List Item) (E:Env) (T:List AV) (L:List (Nat×List AV)) (H:List Blk),
  S.size=ops.size→left ops.size S=iU→ED ops S→Lq P esc ops ord Q b7 S a w pre post E T L H→wpAny P .any ops (mK b7 Q) iU S a w:=by
 have fin: ∀(S:Array Bool) (a:Act) (w:World) (pre post:List Item) (E:Env) (T:List AV) (L:List (Nat×List AV)) (H:List Blk),(∀i,i<ops.size→S.getD i false=true)→Lq P esc ops ord Q b7 S a w pre post E T L H→mK b7 Q .normal a w:=by
  intro S a w pre post E T L H dU I
  have ab:post=[]:=by
   cases post with
   | nil=>rfl
   | cons x r=>
    have h1:=I.A3 x (List.mem_cons_self ..)
    rw[dU x.i (D.lt x (by rw[I.pt];simp))] at h1;cases h1
  subst ab
  refine⟨rfl,⟨T,L,H⟩,E,I.F3,I.w,I.nx,⟨I.h,I.l,fun t=> ?_,I.size⟩,I.FK⟩
  rcases I.hT t with⟨x,hx,hu,_⟩ | h
  ·rw[dU x.i (D.lt x (by rw[I.pt];simp[hx]))] at hu;cases hu
  ·exact h
 intro iU
 induction iU with
 | zero=>
  intro S a w pre post E T L H hs hf hc I
  have dU:=ada hf
  refine⟨?_,fin S a w pre post E T L H dU I⟩
  cases ai:Region.ready .any ops S with
  | nil=>rfl
  | cons i l=>
   have:=Sg hs (i:=i) (by rw[ai];exact List.mem_cons_self ..)
   rw[dU i this.1] at this;cases this.2.1
 | succ iU bn=>
  intro S a w pre post E T L H hs hf hc I
  refine⟨fun ai=>fin S a w pre post E T L H (afe D hs ai) I,fun i hi=> ?_⟩
  obtain⟨aN,qd,sB⟩:=Sg hs hi
  have GC:=Vo D hs hc i _ (rK aN) sB
  have Nx:(S.setIfInBounds i true).size=ops.size:=by simpa using hs
  have Cm:left ops.size (S.setIfInBounds i true)=iU:=by have:=ac_ hs aN qd;omega
  have kp:ED ops (S.setIfInBounds i true):=by
   intro j o ar af e he hb
   rw[y9] at af ⊢
   by_cases lB:i=j
   ·subst lB
    have:o=opI ops i:=by rw[rK aN] at ar;exact(Option.some.inj ar).symm
    subst this
    split
    ·rfl
    ·exact sB e he hb
   ·rw[if_neg fun q=>lB q.1] at af
    split
    ·rfl
    ·exact hc j o ar af e he hb
  have JN: ∀j,(S.setIfInBounds i true).getD j false=false→S.getD j false=false∧j≠i:=fun j af=>by
   rw[y9] at af
   split at af
   ·cases af
   ·rename_i q;exact⟨af,fun e=>q ⟨e.symm,by omega⟩⟩
  have AJ: ∀j,j≠i→S.getD j false=false→(S.setIfInBounds i true).getD j false=false:=fun j af h=>by
   rw[y9,if_neg fun q=>af q.1.symm];exact h
  obtain⟨y,aS,lG⟩:=D.all i aN
  subst lG
  have lG:y.i=y.i:=rfl
  let iv:List Nat:=(pre.filter fun x=> !S.getD x.i false).filterMap fun x=>(opI ops x.i).dst
  have GU: ∀t,t∈iv↔ ∃x∈pre,S.getD x.i false=false∧(opI ops x.i).dst=some t:=fun t=>by
   simp only[iv,List.mem_filterMap,List.mem_filter,Bool.not_eq_true']
   constructor
   ·rintro⟨x,⟨h1,h2⟩,ay⟩;exact⟨x,h1,h2,ay⟩
   ·rintro⟨x,h1,h2,ay⟩;exact⟨x,⟨h1,h2⟩,ay⟩
  have bZ: ∀t,V3 E ((uf iv T).getD t .undef) (a.tmps.getD t undef):=fun t=>by
   by_cases h:t∈iv
   ·rw[(Cp iv T t).1 h];exact V3.undef _ _
   ·rw[(Cp iv T t).2 h]
    exact(I.hT t).resolve_left fun q=>h ((GU t).2 q)
  have zv: ∀t∈(opI ops y.i).looksAt ops,t ∉ iv:=fun t a_ hm=>by
   obtain⟨x,hx,hu,aO⟩:=(GU t).1 hm
   have:=GC x.i (by rw[←lG];rw[←lG] at a_;exact D.ahZ y aS t a_ x (by rw[I.pt];simp[hx]) aO)
   rw[this] at hu;cases hu
  have N9: ∀t∈(opI ops y.i).looksAt ops,V3 E (T.getD t .undef) (a.tmps.getD t undef):=fun t a_=>(I.hT t).resolve_left fun q=>zv t a_ ((GU t).2 q)
  have ND: ∀t∈(opI ops y.i).looksAt ops,(uf iv T).getD t .undef=T.getD t .undef:=fun t a_=>(Cp iv T t).2 (zv t a_)
  have LG: ∀E':Env,(∀t,(opI ops y.i).dst≠some t→E'.mL t=E.mL t)→ ∀x∈ord,(S.setIfInBounds y.i true).getD x.i false=false→po (opI ops x.i)=true→x.q=true→ ∀d,(opI ops x.i).dst=some d→E'.mL d=none:=fun E' hml x hx hu ap Z3 d aO=>by
   obtain⟨qc,sE⟩:=JN _ hu
   rw[hml d (D.apart.inj x hx y aS sE d aO)]
   exact I.bC x hx qc ap Z3 d aO
  unfold wpOp
  rw[rK aN]
  simp only
  have sy:y∈pre∨y∈post:=by rw[I.pt] at aS;exact List.mem_append.1 aS
  rcases sy with ur | ur
  ·
   obtain⟨U,v,run,F⟩:=I.facts y ur (by rw[lG];exact qd)
   rw[lG] at F
   have hw:=F.cJ E a N9 I.size
   have next: ∀(u:Value) (E':Env),Step E E'→SimH E' H→SimL E' L→(∀t,(opI ops y.i).dst≠some t→E'.mL t=E.mL t)→V3 E' v u→wpAny P .any ops (mK b7 Q) iU (S.setIfInBounds y.i true) (a.put (opI ops y.i).dst u) E'.w:=fun u E' aQ rh ri hml hv=>by
    refine bn _ _ _ pre post E' T L H Nx Cm kp ⟨I.pt,fun x hx=>AJ _ (fun e=> ?_) (I.A3 x hx),I.head,I.F3,fun x hx hu=>I.facts x hx (JN _ hu).1,fun t=> ?_,by rw[RY];exact I.size,rh,ri,I.nx.step aQ,LG E' hml,RU _ _ I.FK,rfl⟩
    ·have h0:=D.nodup
     rw[I.pt,List.map_append,List.nodup_append] at h0
     exact h0.2.2 y.i (List.mem_map_of_mem ur) x.i (List.mem_map_of_mem hx) (by rw[lG,e])
    ·by_cases aO:(opI ops y.i).dst=some t
     ·right
      rw[aO]
      by_cases ao:t<T.length
      ·rw[F.put t aO ao,RX (by rw[←I.size];exact ao)];exact hv
      ·rw[List.getD_eq_getElem?_getD,List.getElem?_eq_none (Nat.not_lt.1 ao)];exact V3.undef _ _
     ·rcases I.hT t with⟨x,hx,hu,zI⟩ | h
      ·exact .inl ⟨x,hx,AJ _ (fun e=>aO (by rw[←e];exact zI)) hu,zI⟩
      ·right;rw[RV aO];exact h.le aQ.le
   cases run with
   | true=>
    rw[if_pos hw]
    refine .inl ?_
    have q9:=F.qH rfl
    cases wB:po (opI ops y.i) with
    | true=>
     obtain⟨t,u,E',hv,Y2,q1,q2,q3,q4,_,cF⟩:=Vm (P:=P) (a:=a) I.h I.l wB (fun t a_=>I.bC y aS (by rw[lG];exact qd) wB U t a_) q9
     rw[←I.w]
     exact cF _ _ (next u E' q1 q2 q3 (fun s hs=>q4 s fun e=>hs (by rw[Y2,e])) hv)
    | false=>
    rw[wl wB,←MN (Dr ND)] at q9
    rw[←I.w]
    refine Oper.wp_mono (fun gi w' ⟨d_,u,E',he,ga,hqt,hv,ap⟩=> ?_) (MP bZ (Sub.refl L H) I.h I.l (B2 q9))
    subst he;subst ga;subst ap
    exact next u E' hqt.step (hqt.simH I.h) (hqt.simL I.h I.l) (fun t _=>by rw[hqt.mL]) hv
   | false=>
    rw[if_neg (by rw[hw];simp)]
    have hv:=F.no rfl
    subst hv
    rw[←I.w]
    exact next undef E (Step.refl E) I.h I.l (fun _ _=>rfl) ⟨[],rfl,az.nil⟩
  ·
   have rf: ∃r,post=y::r:=by
    cases ab:post with
    | nil=>rw[ab] at ur;cases ur
    | cons x r=>
     rw[ab] at ur
     rcases List.mem_cons.1 ur with rfl | Z6
     ·exact⟨r,rfl⟩
     ·have hb:=D.l4
      rw[I.pt,ab] at hb
      have:=(hb.at (I.head x r ab)).1 y Z6
      rw[lG] at this
      have h1:=GC x.i this
      rw[I.A3 x (by rw[ab];exact List.mem_cons_self ..)] at h1;cases h1
   obtain⟨r,ZF⟩:=rf
   subst ZF
   have U:=I.head y r rfl
   have q9:=I.F3
   obtain⟨lx,run,pe,ld,hw,fu⟩:=Ng (P:=P) q9
   have hw:=hw E a N9 I.size
   have GD:=D.apart
   rw[I.pt] at GD
   have NV:=kX.PI GD
   have YO:=(show tu A [] (pre++y::r) from I.pt▸D.l4).at U
   have h0:=D.nodup
   rw[I.pt,List.map_append,List.map_cons,List.nodup_append,List.nodup_cons] at h0
   have ZC: ∀x∈pre,S.getD x.i false=false→x.i∈y.iT:=fun x hx hu=>by
    rcases YO.2 x (by simpa using hx) with h | h
    ·rw[lG] at h
     have:=GC x.i h
     rw[hu] at this;cases this
    ·exact h

   have next: ∀(v:AV) (u:Value) (L':List (Nat×List AV)) (H':List Blk) (E':Env),Step E E'→SimH E' H'→SimL E' L'→(∀t,(opI ops y.i).dst≠some t→E'.mL t=E.mL t)→V3 E' v u→jF P esc ops r (putA lx (opI ops y.i).dst v) L' H' (fun T L H=>Q .normal ⟨T,L,H⟩)→
     (∀x∈pre,S.getD x.i false=false→ ∃v run,vE P ops L' H' lx (opI ops x.i) v run)→
     wpAny P .any ops (mK b7 Q) iU (S.setIfInBounds y.i true) (a.put (opI ops y.i).dst u) E'.w:=by
    intro v u L' H' E' aQ an bB hml hv hK Za
    obtain⟨Jc,aeI,n5,Ha,ZA,ZE,Y7,hlen,gC,zn⟩:=JJ r _ (kX.tail (p:=[y]) (kX.tail GD)) hK
    have Hb: ∀z∈Jc,z∈r:=fun z av=>by rw[Ha];exact List.mem_append_left _ av
    have Ny: ∀t,(∀z∈y::r,(opI ops z.i).dst≠some t)→n5.getD t .undef=lx.getD t .undef:=fun t a_=>by
     rw[gC t fun z av=>a_ z (List.mem_cons_of_mem _ (Hb z av)),DA (a_ y (List.mem_cons_self ..))]
    refine bn _ _ _ (pre++y::Jc) aeI E' n5 L' H' Nx Cm kp ⟨by rw[I.pt,Ha];simp,fun x hx=> ?_,ZE,Y7,fun x hx hu=> ?_,fun t=> ?_,by rw[RY,hlen,xx,pe];exact I.size,an,bB,I.nx.step aQ,LG E' hml,RU _ _ I.FK,rfl⟩
    ·have CJ:x∈r:=by rw[Ha];exact List.mem_append_right _ hx
     exact AJ _ (fun e=>h0.2.1.1 (by rw[lG,←e];exact List.mem_map_of_mem CJ)) (I.A3 x (List.mem_cons_of_mem _ CJ))
    ·obtain⟨qc,sE⟩:=JN _ hu
     rcases List.mem_append.1 hx with hx | hx
     ·refine⟨(I.facts x hx qc).1,?_⟩
      obtain⟨d_,run',F⟩:=Za x hx qc
      refine⟨d_,run',F.mono (by rw[hlen,xx]) (fun t a_=>Ny t fun z av=>(NV x hx).1 t a_ z av) fun d aO=>Ny d fun z av=>(NV x hx).2 d aO z av⟩
     ·rcases List.mem_cons.1 hx with rfl | hx
      ·exact absurd lG sE
      ·exact⟨ZA x hx,zn x hx⟩
    ·by_cases q8: ∃z∈Jc,(opI ops z.i).dst=some t
     ·obtain⟨z,av,pi⟩:=q8
      refine .inl ⟨z,by simp[av],AJ _ (fun e=>h0.2.1.1 (by rw[lG,←e];exact List.mem_map_of_mem (Hb z av))) (I.A3 z (List.mem_cons_of_mem _ (Hb z av))),pi⟩
     ·have ax:=gC t fun z av q=>q8 ⟨z,av,q⟩
      by_cases aO:(opI ops y.i).dst=some t
      ·right
       rw[lG] at aO ax
       rw[ax,aO]
       by_cases ao:t<lx.length
       ·rw[RR ao,RX (by rw[←I.size,←pe];exact ao)];exact hv
       ·rw[List.getD_eq_getElem?_getD,List.getElem?_eq_none (by rw[xx];exact Nat.not_lt.1 ao)];exact V3.undef _ _
      ·rw[DA aO,ld] at ax
       rcases I.hT t with⟨x,hx,hu,zI⟩ | h
       ·refine .inl ⟨x,by simp[hx],AJ _ (fun e=>aO (by rw[lG,←e];exact zI)) hu,zI⟩
       ·right;rw[ax,RV (by rw[←lG];exact aO)];exact h.le aQ.le
   cases run with
   | true=>
    rw[if_pos hw]
    refine .inl ?_
    have fu:(match y.q with
     | true=>_
     | false=>jE P esc (opI ops y.i) (bY lx) L H fun v L' H'=>qV P ops y.iT lx L' H'∧jF P esc ops r (putA lx (opI ops y.i).dst v) L' H' (fun T L H=>Q .normal ⟨T,L,H⟩)):=fu
    rw[U] at fu
    have fu:jE P esc (opI ops y.i) (bY lx) L H fun v L' H'=>qV P ops y.iT lx L' H'∧jF P esc ops r (putA lx (opI ops y.i).dst v) L' H' (fun T L H=>Q .normal ⟨T,L,H⟩):=fu
    rw[←W7 (Dr fun t a_=>(ND t a_).trans (ld t).symm)] at fu
    rw[←I.w]
    refine Oper.wp_mono (fun gi w' ⟨v,u,L',H',E',⟨pb,hK⟩,ga,q1,q2,q3,q4,ap,hml⟩=> ?_) (evOp_sound bZ I.h I.l fu)
    subst ga;subst ap
    refine next v u L' H' E' q1 q2 q3 hml q4 hK fun x hx hu=> ?_
    obtain⟨f1,f2,f3⟩:=M3 pb x.i (ZC x hx hu)
    refine⟨_,true,⟨fun E a hs av=> ?_,fun _=>f3,fun e=>(by cases e),fun d aO aN=> ?_⟩⟩
    ·unfold Region.wanted
     cases zp:(opI ops x.i).guard with
     | none=>rfl
     | some g=>rw[zp] at f1;cases f1
    ·unfold sm;rw[aO]
   | false=>
    rw[if_neg (by rw[hw];simp)]
    rw[←I.w]
    refine next (.tup []) undef L H E (Step.refl E) I.h I.l (fun _ _=>rfl) ⟨[],rfl,az.nil⟩ fu fun x hx hu=> ?_
    obtain⟨_,d_,run',F⟩:=I.facts x hx hu
    exact⟨d_,run',F.mono pe (fun t _=>ld t) fun d _=>ld d⟩
end
def Bu (ops:Array Oper):List Item→Bool
 | []=>true
 | x::r=>((opI ops x.i).looksAt ops).all (fun t=>(x::r).all fun y=>(opI ops y.i).dst !=some t)&&(match(opI ops x.i).dst with
  | some d=>r.all fun y=>(opI ops y.i).dst !=some d
  | none=>true)&&Bu ops r
theorem LP {ops:Array Oper}: ∀{l:List Item},Bu ops l=true→kX ops l
 | [],_=>trivial
 | x::r,h=>by
  simp only[Bu,Bool.and_eq_true] at h
  obtain⟨⟨h1,h2⟩,ay⟩:=h
  refine⟨fun t a_ y aS=> ?_,fun d aO y aS=> ?_,LP ay⟩
  ·have:=List.all_eq_true.1 (List.all_eq_true.1 h1 t a_) y aS
   simpa using this
  ·rw[aO] at h2
   have:=List.all_eq_true.1 h2 y aS
   simpa using this
def Bx (A:Nat→List Nat):List Item→List Item→Bool
 | _,[]=>true
 | p,h::r=>(h.q || (r.all (fun y=>(A y.i).contains h.i)&&p.all fun x=>(A h.i).contains x.i || h.iT.contains x.i))&&Bx A (p++[h]) r
theorem LV {A:Nat→List Nat}: ∀{l p:List Item},Bx A p l=true→tu A p l
 | [],_,_=>trivial
 | h::r,p,hb=>by
  simp only[Bx,Bool.and_eq_true] at hb
  refine⟨fun U=> ?_,LV hb.2⟩
  have h1:=hb.1
  rw[U,Bool.false_or,Bool.and_eq_true] at h1
  refine⟨fun y aS=>by simpa using List.all_eq_true.1 h1.1 y aS,fun x hx=> ?_⟩
  have:=List.all_eq_true.1 h1.2 x hx
  simpa using this
def Dk:List Nat→Bool
 | []=>true
 | x::r=> !r.contains x&&Dk r
theorem Rh: ∀{l:List Nat},Dk l=true→l.Nodup
 | [],_=>List.nodup_nil
 | x::r,h=>by
  simp only[Dk,Bool.and_eq_true] at h
  rw[List.nodup_cons]
  exact⟨by simpa using h.1,Rh h.2⟩
def wg (ops:Array Oper) (ord:List Item) (A:Nat→List Nat):Bool:=
 (List.range ops.size).all (fun i=>(opI ops i).after.toList.all (fun e=> !Region.binds .any e || decide (e.on<i))&&(A i).all fun a=>(opI ops i).after.toList.any fun e=>Region.binds .any e&&(a==e.on || (A e.on).contains a))&&
 (List.range ops.size).all (fun i=>ord.any fun x=>x.i==i)&&ord.all (fun x=>decide (x.i<ops.size))&&Dk (ord.map (·.i))&&
 ord.all (fun x=>((opI ops x.i).looksAt ops).all fun t=>ord.all fun y=>(opI ops y.i).dst !=some t || (A x.i).contains y.i)&&Bu ops ord&&Bx A [] ord
theorem WQ {ops:Array Oper} {ord:List Item} {A:Nat→List Nat} (cE: ∀i,ops.size≤i→A i=[]) (h:wg ops ord A=true):A9 ops ord A:=by
 simp only[wg,Bool.and_eq_true] at h
 obtain⟨⟨⟨⟨⟨⟨h1,h2⟩,ay⟩,bg⟩,cW⟩,e1⟩,l9⟩:=h
 have get: ∀i o,ops[i]?=some o→i<ops.size∧o=opI ops i:=fun i o ar=>by
  have aN:i<ops.size:=by
   rcases Nat.lt_or_ge i ops.size with h | h
   ·exact h
   ·rw[Array.getElem?_eq_none h] at ar;cases ar
  rw[rK aN] at ar
  exact⟨aN,(Option.some.inj ar).symm⟩
 refine⟨fun i o ar e he hb=> ?_,fun i o ar a ap=> ?_,fun i hi=> ?_,fun x hx=> ?_,Rh bg,fun x hx t a_ y aS aO=> ?_,LP e1,LV l9⟩
 ·obtain⟨aN,rfl⟩:=get i o ar
  have:=List.all_eq_true.1 h1 i (List.mem_range.2 aN)
  rw[Bool.and_eq_true] at this
  have:=List.all_eq_true.1 this.1 e (by simpa using he)
  rw[hb] at this;simpa using this
 ·obtain⟨aN,rfl⟩:=get i o ar
  have:=List.all_eq_true.1 h1 i (List.mem_range.2 aN)
  rw[Bool.and_eq_true] at this
  have:=List.all_eq_true.1 this.2 a ap
  obtain⟨e,he,hc⟩:=List.any_eq_true.1 this
  rw[Bool.and_eq_true] at hc
  exact⟨e,by simpa using he,hc.1,by simpa using hc.2⟩
 ·obtain⟨x,hx,hc⟩:=List.any_eq_true.1 (List.all_eq_true.1 h2 i (List.mem_range.2 hi))
  exact⟨x,hx,by simpa using hc⟩
 ·simpa using List.all_eq_true.1 ay x hx
 ·have:=List.all_eq_true.1 (List.all_eq_true.1 (List.all_eq_true.1 cW x hx) t a_) y aS
  rw[Bool.or_eq_true] at this
  rcases this with h | h
  ·rw[aO] at h;simp at h
  ·simpa using h
def yP (jB:List (List Nat)) (i:Nat):List Nat:=jB.getD i []
theorem Env.Mw (E:Env):Step E {E with w:=E.w.drew}:=
 ⟨⟨fun _ h=>h,fun _ h=>h,fun _ _=>rfl,fun _ _=>rfl,fun _=>Nat.le_refl _,fun _ _ h _=>⟨h,rfl,rfl⟩,fun _ _ h=>h⟩,rfl,rfl,rfl,Nat.le_refl _,fun _ _ _ _=>rfl,fun _ _ h=> .inl h,fun _ h=> .inl h,fun _ h=> .inl h,fun _ h=> .inl h⟩
theorem WT {E:Env} {H:List Blk} (h:SimH E H):SimH {E with w:=E.w.drew} H:=
 {h with
  heap:=fun b c hb=>by
   obtain⟨blk,aj,ty,q1,bU,q2,q3,q4,cP,cF⟩:=h.heap b c hb
   exact⟨blk,aj,ty,q1,bU,q2,q3,q4,cP,fun i j row a ai af=>by obtain⟨u,hu,hv⟩:=cF i j row a ai af;exact⟨u,hu,hv.le (Env.Mw E).le.bO⟩⟩}
theorem ac9 (n:Nat):left n (Array.replicate n false)=n:=by
 unfold left
 have:(List.range n).countP (fun j=> !(Array.replicate n false).getD j false)=(List.range n).countP (fun _=>true):=by
  refine List.countP_congr fun x hx=> ?_
  rw[Array.getD_eq_getD_getElem?,Array.getElem?_replicate]
  split<;>simp
 rw[this,List.countP_true,List.length_range]
def tO:List (Nat×List AV)→List (Nat×List AV)→Bool
 | [],_=>true
 | (t,_)::r,L=>(dT L t).isNone&&tO r L
def tE (ops:Array Oper) (L:List (Nat×List AV)):List Item→Bool
 | []=>true
 | x::r=>(match x.q&&po (opI ops x.i) with
  | false=>true
  | true=>match(opI ops x.i).dst with
   | none=>true
   | some d=>(dT L d).isNone)&&tE ops L r
theorem M8 {E:Env} {L:List (Nat×List AV)} (bB:SimL E L): ∀{hX:List (Nat×List AV)},tO hX L=true→SimL E (hX++L)
 | [],_=>bB
 | (t,c)::r,h=>by
  simp only[tO,Bool.and_eq_true,Option.isNone_iff_eq_none] at h
  exact(M8 bB h.2).cons (bB.none h.1)
theorem LI {ops:Array Oper} {E:Env} {L:List (Nat×List AV)} (bB:SimL E L): ∀{l:List Item},tE ops L l=true→ ∀x∈l,po (opI ops x.i)=true→x.q=true→ ∀d,(opI ops x.i).dst=some d→E.mL d=none
 | [],_,x,hx,_,_,_,_=>by cases hx
 | y::r,h,x,hx,ap,U,d,aO=>by
  simp only[tE,Bool.and_eq_true] at h
  rcases List.mem_cons.1 hx with rfl | hx
  ·have h1:=h.1
   rw[U,ap] at h1
   simp only[Bool.and_self] at h1
   rw[aO] at h1
   exact bB.none (by simpa using h1)
  ·exact LI bB h.2 x hx ap U d aO
theorem WpS.Sj [cl] {P:Program} {esc:List Nat} {c:Code} {id:Nat} {ops:Array Oper} {Q:Exit→St→Prop} {T:List AV} {L:List (Nat×List AV)} {H:List Blk} (ord:List Item) (jB:List (List Nat)) (hm:P.follows .mixedOrders=true)
  (ao:jB.length=ops.size) (aO:wg ops ord (yP jB)=true) (e:c= .region id ops true) (hX:List (Nat×List AV)) (hf:tO hX L=true) (av:tE ops L ord=true) (h:jF P esc ops ord T (hX++L) H (fun T L H=>Q .normal ⟨T,L,H⟩)):WpS P c Q ⟨T,L,H⟩:=by
 subst e
 intro b7 E a g s d
 have D:=WQ (fun i hi=>by unfold yP;rw[List.getD_eq_getElem?_getD,List.getElem?_eq_none (by omega)];rfl) aO
 refine wp_region_any hm ?_
 obtain⟨pre,post,n5,ai,ab,ZD,q9,hlen,gC,zn⟩:=JJ ord T D.apart h
 have qd: ∀j,(Array.replicate ops.size false).getD j false=false:=fun j=>by
  rw[Array.getD_eq_getD_getElem?,Array.getElem?_replicate];split<;>rfl
 have aQ:=Env.Mw E
 have hw:(show World from{E.w with drawn:=E.w.drawn+1})=({E with w:=E.w.drew}:Env).w:=rfl
 refine WO D ops.size _ a _ pre post {E with w:=E.w.drew} n5 (hX++L) H (by simp) (ac9 _) (fun i o ar af=> ?_) ⟨ai,fun x hx=>qd _,ZD,q9,fun x hx _=>⟨ab x hx,zn x hx⟩,fun t=> ?_,by rw[hlen];exact s.size,WT s.h,M8 ?_ hf,g.step aQ,fun x hx _ ap U d aO=>LI s.l av x hx ap U d aO,d,rfl⟩
 ·rw[qd] at af;cases af
 ·by_cases q8: ∃z∈pre,(opI ops z.i).dst=some t
  ·obtain⟨z,av,pi⟩:=q8
   exact .inl ⟨z,av,qd _,pi⟩
  ·right
   rw[gC t fun z av q=>q8 ⟨z,av,q⟩]
   exact(s.hT t).le aQ.le
 ·intro t c hm
  obtain⟨cells,aj,ty,q1,q2,q3⟩:=s.l t c hm
  exact⟨cells,aj,ty,q1,q2,q3.mono fun _ _ k=>k.le aQ.le.bO⟩
theorem I5 {φ ψ:Prop} (e:φ=ψ) (h:ψ):φ:=e▸h
def zW (ops:Array Oper):List (Oper×Bool):=ops.toList.map fun o=>(o,true)
theorem WpS.Sk [cl] {P:Program} {esc:List Nat} {c:Code} {id:Nat} {ops:Array Oper} {Q:Exit→St→Prop} {T:List AV} {L:List (Nat×List AV)} {H:List Blk} (e:c= .region id ops false)
  (h:evOps P esc ops (zW ops) T L H (fun T L H=>Q .normal ⟨T,L,H⟩)):WpS P c Q ⟨T,L,H⟩:=by
 subst e
 intro b7 E a g s d
 refine wp_region_list ?_
 have:=B1 (zW ops) T L H E a g s d h
 have e2:(zW ops).map (·.1)=ops.toList:=by
  unfold zW;rw[List.map_map];exact List.map_id' _
 rwa [e2] at this
def fP:List (Nat×AV)→Nat→AV
 | [],_=> .undef
 | (k,v)::r,t=>match Nat.beq k t with
  | true=>v
  | false=>fP r t
def k9:List (Nat×AV)→Nat→List (Nat×AV)
 | [],_=>[]
 | (k,v)::r,t=>match Nat.beq k t with
  | true=>k9 r t
  | false=>(k,v)::k9 r t
def ee (n:Nat):List (Nat×AV)→Bool
 | []=>true
 | (k,_)::r=>match Nat.blt k n with
  | true=>ee n r
  | false=>false
@[irreducible] def bu (n:Nat) (A:List (Nat×AV)):List AV:=(List.range n).map (fP A)
def nO (n:Nat) (A:List (Nat×AV)) (dst:Option Nat) (v:AV):List (Nat×AV):=match dst with
 | none=>A
 | some d=>match Nat.blt d n with
  | true=>(d,v)::k9 A d
  | false=>A
def pv (A:List (Nat×AV)):Operand→AV
 | .tmp t=>fP A t
 | .const v=>ob v
 | .func f=> .fn f []
 | .global _=> .undef
theorem adu (A:List (Nat×AV)) (d t:Nat):fP (k9 A d) t=if d=t then .undef else fP A t:=by
 induction A with
 | nil=>simp[k9,fP]
 | cons p r bn=>
  obtain⟨k,v⟩:=p
  have Cz:fP ((k,v)::r) t=match Nat.beq k t with
   | true=>v
   | false=>fP r t:=rfl
  rw[Cz]
  cases h1:Nat.beq k d with
  | true=>
   have ax:=Nat.eq_of_beq_eq_true h1
   rw[show k9 ((k,v)::r) d=k9 r d by simp[k9,h1],bn]
   subst ax
   cases h2:Nat.beq k t with
   | true=>have e2:=Nat.eq_of_beq_eq_true h2;simp[e2]
   | false=>rfl
  | false=>
   rw[show k9 ((k,v)::r) d=(k,v)::k9 r d by simp[k9,h1],show fP ((k,v)::k9 r d) t=match Nat.beq k t with
    | true=>v
    | false=>fP (k9 r d) t from rfl]
   cases h2:Nat.beq k t with
   | true=>
    have e2:=Nat.eq_of_beq_eq_true h2
    have: ¬d=t:=fun e=>by subst e;subst e2;rw[Nat.beq_refl] at h1;cases h1
    simp[this]
   | false=>simp only;rw[bn]
theorem QT {n:Nat}: ∀{A:List (Nat×AV)} {t:Nat},ee n A=true→n≤t→fP A t= .undef
 | [],t,_,_=>rfl
 | (k,v)::r,t,h,a_=>by
  unfold ee at h
  split at h
  ·rename_i hk
   have hk:k<n:=by rw[←Nat.blt_eq];exact hk
   unfold fP
   cases h2:Nat.beq k t with
   | true=>have:=Nat.eq_of_beq_eq_true h2;omega
   | false=>exact QT h a_
  ·cases h
theorem IT {n d:Nat}: ∀{A:List (Nat×AV)},ee n A=true→ee n (k9 A d)=true
 | [],h=>rfl
 | (k,v)::r,h=>by
  unfold ee at h
  split at h
  ·rename_i hk
   unfold k9
   split
   ·exact IT h
   ·unfold ee;rw[hk];exact IT h
  ·cases h
theorem IU {n:Nat} {A:List (Nat×AV)} (h:ee n A=true) (dst:Option Nat) (v:AV):ee n (nO n A dst v)=true:=by
 unfold nO
 split
 ·exact h
 ·split
  ·rename_i aO;unfold ee;rw[aO];exact IT h
  ·exact h
theorem sS (n:Nat) (A:List (Nat×AV)):(bu n A).length=n:=by unfold bu;simp
theorem qp {n:Nat} {A:List (Nat×AV)} (h:ee n A=true) (t:Nat):(bu n A).getD t .undef=fP A t:=by
 unfold bu
 rw[List.getD_eq_getElem?_getD,List.getElem?_map]
 rcases Nat.lt_or_ge t n with aN | fO
 ·rw[List.getElem?_range aN];rfl
 ·rw[List.getElem?_eq_none (by simpa using fO),QT h fO];rfl
theorem IV {n:Nat} {A:List (Nat×AV)} (dst:Option Nat) (v:AV):putA (bu n A) dst v=bu n (nO n A dst v):=by
 cases dst with
 | none=>rfl
 | some d=>
  show(bu n A).set d v=bu n (match Nat.blt d n with
   | true=>(d,v)::k9 A d
   | false=>A)
  cases aO:Nat.blt d n with
  | true=>
   apply List.ext_getElem?
   intro t
   unfold bu
   rw[List.getElem?_set]
   simp only[List.length_map,List.length_range,List.getElem?_map]
   rcases Nat.lt_or_ge t n with aN | fO
   ·rw[List.getElem?_range aN]
    by_cases he:d=t
    ·subst he;simp[aN,fP]
    ·have hb:Nat.beq d t=false:=by
      cases U:Nat.beq d t with
      | true=>exact absurd (Nat.eq_of_beq_eq_true U) he
      | false=>rfl
     simp[he,fP,hb,adu]
   ·rw[List.getElem?_eq_none (l:=List.range n) (by simpa using fO)]
    by_cases he:d=t
    ·subst he;simp[Nat.not_lt.2 fO]
    ·simp[he]
  | false=>
   have: ¬d<n:=fun h=>by rw[←Nat.blt_eq,aO] at h;cases h
   exact List.set_eq_of_length_le (by rw[sS];omega)
theorem Da {n:Nat} {A:List (Nat×AV)} (h:ee n A=true):bY (bu n A)=pv A:=by
 funext o
 cases o with
 | tmp t=>exact qp h t
 | _=>rfl
theorem Q2 {n:Nat} {A:List (Nat×AV)} (h:ee n A=true) {t:Nat} {b:Bool} (hb:fP A t= .bool b):(bu n A).set t (.bool b)=bu n A:=by
 apply List.ext_getElem?
 intro s
 rw[List.getElem?_set]
 by_cases he:t=s
 ·subst he
  rw[if_pos rfl]
  rcases Nat.lt_or_ge t n with aN | fO
  ·rw[if_pos (by rw[sS];exact aN)]
   unfold bu
   rw[List.getElem?_map,List.getElem?_range aN]
   show _=some (fP A t)
   rw[hb]
  ·rw[if_neg (by rw[sS];omega),List.getElem?_eq_none (by rw[sS];omega)]
 ·rw[if_neg he]
def sq (ops:Array Oper) (o:Oper) (A:List (Nat×AV)) (x y:Prop):Prop:=match o.guard with
 | none=>x
 | some (j,cJ)=>match(ops[j]?).bind (·.dst) with
  | none=>False
  | some t=>match fP A t with
   | .bool b=>(match b with
    | true=>(match cJ with
     | true=>x
     | false=>y)
    | false=>(match cJ with
     | true=>y
     | false=>x))
   | .tup []=>y
   | _=>False
theorem Nd {ops:Array Oper} {o:Oper} {n:Nat} {A:List (Nat×AV)} (h:ee n A=true) {x y:List AV→Prop}:nw ops true o (bu n A) x y=sq ops o A (x (bu n A)) (y (bu n A)):=by
 unfold nw sq
 cases o.guard with
 | none=>rfl
 | some g=>
  obtain⟨j,cJ⟩:=g
  simp only
  cases(ops[j]?).bind (·.dst) with
  | none=>rfl
  | some t=>
   simp only
   rw[qp h t]
   cases hb:fP A t with
   | bool b=>
    cases b with
    | true=>simp only[oW];rw[Q2 h hb];cases cJ<;>rfl
    | false=>simp only[oW];rw[Q2 h hb];cases cJ<;>rfl
   | tup l=>cases l<;>rfl
   | _=>rfl
def evS (P:Program) (esc:List Nat) (ops:Array Oper) (n:Nat):List Oper→List (Nat×AV)→List (Nat×List AV)→List Blk→(List (Nat×AV)→List (Nat×List AV)→List Blk→Prop)→Prop
 | [],A,L,H,K=>K A L H
 | o::rest,A,L,H,K=>sq ops o A
   (match o.op with
    | .pick c x y=>n_ (pv A c) fun z=>(match z with
     | true=>evS P esc ops n rest (nO n A o.dst (pv A x)) L H K
     | false=>evS P esc ops n rest (nO n A o.dst (pv A y)) L H K)
    | _=>jE P esc o (pv A) L H fun v L' H'=>evS P esc ops n rest (nO n A o.dst v) L' H' K)
   (evS P esc ops n rest (nO n A o.dst (.tup [])) L H K)
theorem F5 {P:Program} {esc:List Nat} {ops:Array Oper} {n:Nat} {K:List AV→List (Nat×List AV)→List Blk→Prop}: ∀(l:List Oper) (A:List (Nat×AV)) (L:List (Nat×List AV)) (H:List Blk),ee n A=true→
  evOps P esc ops (l.map fun o=>(o,true)) (bu n A) L H K=evS P esc ops n l A L H fun A L H=>K (bu n A) L H
 | [],A,L,H,h=>rfl
 | o::rest,A,L,H,h=>by
  show nw ops true o (bu n A) _ _=_
  rw[Nd h]
  show sq ops o A _ _=sq ops o A _ _
  have e2:evOps P esc ops (rest.map fun o=>(o,true)) (putA (bu n A) o.dst (.tup [])) L H K=evS P esc ops n rest (nO n A o.dst (.tup [])) L H fun A L H=>K (bu n A) L H:=by
   rw[IV,F5 rest _ _ _ (IU h _ _)]
  have FY: ∀v L H,evOps P esc ops (rest.map fun o=>(o,true)) (putA (bu n A) o.dst v) L H K=evS P esc ops n rest (nO n A o.dst v) L H fun A L H=>K (bu n A) L H:=fun v L H=>by
   rw[IV,F5 rest _ _ _ (IU h _ _)]
  rw[e2]
  congr 1
  unfold u3
  rw[Da h]
  cases ft:o.op<;>simp only[FY]
  case pick c x y=>
   unfold n_
   cases pv A c<;>first | rfl | (rename_i z;cases z<;>rfl)
theorem WpS.DN [cl] {P:Program} {esc:List Nat} {c:Code} {id n:Nat} {ops:Array Oper} {Q:Exit→St→Prop} {A:List (Nat×AV)} {L:List (Nat×List AV)} {H:List Blk} (e:c= .region id ops false) (ad:ee n A=true)
  (h:evS P esc ops n (ops.toList.drop 0) A L H (fun A L H=>Q .normal ⟨bu n A,L,H⟩)):WpS P c Q ⟨bu n A,L,H⟩:=
 WpS.Sk (esc:=esc) e (by unfold zW;rw[F5 _ _ _ _ ad];exact h)
def FO (o:Oper) (A:List (Nat×AV)):AV:=match o.dst with
 | some d=>fP A d
 | none=> .undef
def wu (P:Program) (ops:Array Oper):List Nat→List (Nat×AV)→List (Nat×List AV)→List Blk→Prop
 | [],_,_,_=>True
 | i::r,A,L,H=>((opI ops i).guard.isNone=true∧(opI ops i).dst.isSome=true∧kL P (opI ops i) (pv A) L H (fun v=>v=FO (opI ops i) A))∧wu P ops r A L H
def evSD (P:Program) (esc:List Nat) (ops:Array Oper) (n:Nat):List Item→List (Nat×AV)→List (Nat×List AV)→List Blk→(List (Nat×AV)→List (Nat×List AV)→List Blk→Prop)→Prop
 | [],A,L,H,K=>K A L H
 | x::rest,A,L,H,K=>sq ops (opI ops x.i) A
   (match x.q with
    | true=>kL P (opI ops x.i) (pv A) L H fun v=>evSD P esc ops n rest (nO n A (opI ops x.i).dst v) L H K
    | false=>jE P esc (opI ops x.i) (pv A) L H fun v L' H'=>wu P ops x.iT A L' H'∧evSD P esc ops n rest (nO n A (opI ops x.i).dst v) L' H' K)
   (evSD P esc ops n rest (nO n A (opI ops x.i).dst (.tup [])) L H K)
theorem M4 {P:Program} {ops:Array Oper} {n:Nat} {A:List (Nat×AV)} {L:List (Nat×List AV)} {H:List Blk} (h:ee n A=true): ∀l:List Nat,qV P ops l (bu n A) L H=wu P ops l A L H
 | []=>rfl
 | i::r=>by
  show(_∧_)=(_∧_)
  rw[M4 h r,Da h]
  have:sm (opI ops i) (bu n A)=FO (opI ops i) A:=by
   unfold sm FO
   cases(opI ops i).dst with
   | none=>rfl
   | some d=>exact qp h d
  rw[this]
theorem ML {P:Program} {esc:List Nat} {ops:Array Oper} {n:Nat} {K:List AV→List (Nat×List AV)→List Blk→Prop}: ∀(l:List Item) (A:List (Nat×AV)) (L:List (Nat×List AV)) (H:List Blk),l.all (·.lit)=true→ee n A=true→
  jF P esc ops l (bu n A) L H K=evSD P esc ops n l A L H fun A L H=>K (bu n A) L H
 | [],A,L,H,ao,h=>rfl
 | x::rest,A,L,H,ao,h=>by
  simp only[List.all_cons,Bool.and_eq_true] at ao
  show nw ops x.lit (opI ops x.i) (bu n A) _ _=_
  rw[ao.1,Nd h]
  show sq ops (opI ops x.i) A _ _=sq ops (opI ops x.i) A _ _
  have FY: ∀v L H,jF P esc ops rest (putA (bu n A) (opI ops x.i).dst v) L H K=evSD P esc ops n rest (nO n A (opI ops x.i).dst v) L H fun A L H=>K (bu n A) L H:=fun v L H=>by
   rw[IV,ML rest _ _ _ ao.2 (IU h _ _)]
  simp only[FY,Da h,M4 h]
  first
  | done
  | (cases x.q<;>rfl)
theorem WpS.afl [cl] {P:Program} {esc:List Nat} {c:Code} {id n:Nat} {ops:Array Oper} {Q:Exit→St→Prop} {A:List (Nat×AV)} {L:List (Nat×List AV)} {H:List Blk} (ord:List Item) (jB:List (List Nat)) (hm:P.follows .mixedOrders=true)
  (ao:jB.length=ops.size) (aO:wg ops ord (yP jB)=true) (G3:ord.all (·.lit)=true) (e:c= .region id ops true) (ad:ee n A=true) (hX:List (Nat×List AV)) (hf:tO hX L=true) (av:tE ops L ord=true) (h:evSD P esc ops n (ord.drop 0) A (hX++L) H (fun A L H=>Q .normal ⟨bu n A,L,H⟩)):WpS P c Q ⟨bu n A,L,H⟩:=
 WpS.Sj (esc:=esc) ord jB hm ao aO e hX hf av (by rw[ML _ _ _ _ G3 ad];exact h)
theorem Weak.hT [cl] {T T':List AV} {L:List (Nat×List AV)} {H:List Blk} (ao:T'.length=T.length) (h: ∀t,T'.getD t .undef=T.getD t .undef∨T'.getD t .undef= .undef):Weak ⟨T,L,H⟩ ⟨T',L,H⟩:=fun b7 E tmps g s=>
 ⟨E,rfl,g,s.h,s.l,fun t=>by
  show V3 E (T'.getD t .undef) _
  rcases h t with e | e<;>rw[e]
  ·exact s.hT t
  ·exact V3.undef _ _,by show T'.length=_;rw[ao];exact s.size⟩
def m2 (A:List (Nat×AV)):List (Nat×AV)→List (Nat×AV)
 | []=>[]
 | (k,_)::r=>(k,fP A k)::m2 A r
theorem IQ {A:List (Nat×AV)}: ∀(B:List (Nat×AV)) (t:Nat),fP (m2 A B) t=fP A t∨fP (m2 A B) t= .undef
 | [],t=> .inr rfl
 | (k,v)::r,t=>by
  show(match Nat.beq k t with
   | true=>fP A k
   | false=>fP (m2 A r) t)=fP A t∨_
  cases h:Nat.beq k t with
  | true=>have:=Nat.eq_of_beq_eq_true h;subst this;exact .inl rfl
  | false=>
   rcases IQ r t with e | e
   ·exact .inl e
   ·right;show(match Nat.beq k t with
     | true=>fP A k
     | false=>fP (m2 A r) t)=_
    rw[h];exact e
def zX (cz:List Nat):List (Nat×AV)→Bool
 | []=>true
 | (_,v)::r=>ou cz v&&zX cz r
theorem QV {cz:List Nat}: ∀{A:List (Nat×AV)},zX cz A=true→ ∀t,ou cz (fP A t)=true
 | [],h,t=>rfl
 | (k,v)::r,h,t=>by
  simp only[zX,Bool.and_eq_true] at h
  unfold fP
  cases Nat.beq k t with
  | true=>exact h.1
  | false=>exact QV h.2 t
theorem aic [cl] {n:Nat} {A A':List (Nat×AV)} {L L':List (Nat×List AV)} {H:List Blk} (cz:List Nat) (cE:ee n A=true) (l_:ee n A'=true) (ab:zX cz A'=true) (k_:m2 A A'=A') (fM:ns cz L=L'):Weak ⟨bu n A,L,H⟩ ⟨bu n A',L',H⟩:=by
 subst fM
 refine(Weak.hT (T':=bu n A') (by rw[sS,sS]) fun t=> ?_).trans (Weak.ns cz ?_)
 ·rw[qp cE,qp l_,←k_];exact IQ A' t
 ·rw[List.all_eq_true]
  intro a ap
  obtain⟨t,a_⟩:=List.mem_iff_getElem?.1 ap
  have e:(bu n A').getD t .undef=a:=by rw[List.getD_eq_getElem?_getD,a_];rfl
  rw[qp l_] at e
  rw[←e]
  exact QV ab t
theorem yp [cl] {n:Nat} {A A':List (Nat×AV)} {L:List (Nat×List AV)} {H:List Blk} (cE:ee n A=true) (l_:ee n A'=true) (k_:m2 A A'=A'):Weak ⟨bu n A,L,H⟩ ⟨bu n A',L,H⟩:=
 Weak.hT (T':=bu n A') (by rw[sS,sS]) fun t=>by rw[qp cE,qp l_,←k_];exact IQ A' t
theorem Wu {n:Nat} {A:List (Nat×AV)} {o:Operand} {b:Bool} {L:List (Nat×List AV)} {H:List Blk} (ad:ee n A=true) (h:pv A o= .bool b):bY (St.mk (bu n A) L H).T o= .bool b:=by
 show bY (bu n A) o=_
 rw[Da ad,h]
def rV (P:Program) (A:List (Nat×AV)) (L:List (Nat×List AV)) (H:List Blk):List ResultVar→(List AV→Prop)→Prop
 | [],K=>K []
 | .tmp t::rs,K=>rV P A L H rs fun l=>K (fP A t::l)
 | .cell a t::rs,K=>oo P t (fP A a) L H fun x=>rV P A L H rs fun l=>K (x::l)
theorem Ju {P:Program} {n:Nat} {A:List (Nat×AV)} {L:List (Nat×List AV)} {H:List Blk} (ad:ee n A=true): ∀(rs:List ResultVar) (K:List AV→Prop),rU P ⟨bu n A,L,H⟩ rs K=rV P A L H rs K
 | [],K=>rfl
 | .tmp t::rs,K=>by
  show rU P ⟨bu n A,L,H⟩ rs (fun l=>K ((bu n A).getD t .undef::l))=rV P A L H rs fun l=>K (fP A t::l)
  rw[qp ad];exact Ju ad rs _
 | .cell a t::rs,K=>by
  show oo P t ((bu n A).getD a .undef) L H _=oo P t (fP A a) L H _
  rw[qp ad]
  congr 1
  funext x
  exact Ju ad rs _
theorem Jx {P:Program} {fn:Func} {n:Nat} {A:List (Nat×AV)} {L:List (Nat×List AV)} {H:List Blk} {r:AV} {Q:AV→List Blk→Prop} (ad:ee n A=true) (l:List AV) (e: ∀K,rV P A L H fn.results.toList K=K l) (ai:l.all jR=true) (hw:qG l=r) (h:Q r H):tC P fn Q .ret ⟨bu n A,L,H⟩:=by
 show s_ P fn ⟨bu n A,L,H⟩ Q
 unfold s_
 rw[Ju ad,e]
 exact⟨ai,by rw[hw];exact h⟩
theorem W4 {P:Program} {fn:Func} {n:Nat} {A:List (Nat×AV)} {L:List (Nat×List AV)} {H:List Blk} {r:AV} {Q:AV→List Blk→Prop} (ad:ee n A=true) (l:List AV) (e: ∀K,rV P A L H fn.results.toList K=K l) (ai:l.all jR=true) (hw:qG l=r) (h:Q r H):tC P fn Q .normal ⟨bu n A,L,H⟩:=
 Jx (fn:=fn) ad l e ai hw h
theorem MM {P:Program} {esc:List Nat} {ops:Array Oper} {n:Nat} {K:List (Nat×AV)→List (Nat×List AV)→List Blk→Prop}: ∀(kd hB:List Oper) (A:List (Nat×AV)) (L:List (Nat×List AV)) (H:List Blk),
  evS P esc ops n (kd++hB) A L H K=evS P esc ops n kd A L H fun A L H=>evS P esc ops n hB A L H K
 | [],hB,A,L,H=>rfl
 | o::r,hB,A,L,H=>by
  show evS P esc ops n (o::(r++hB)) A L H K=_
  simp only[evS,MM r hB]
theorem jG {P:Program} {esc:List Nat} {ops:Array Oper} {n:Nat} {K:List (Nat×AV)→List (Nat×List AV)→List Blk→Prop} {A:List (Nat×AV)} {L:List (Nat×List AV)} {H:List Blk} (X:List Oper) (i k:Nat):
  evS P esc ops n (X.drop i) A L H K=evS P esc ops n ((X.drop i).take k) A L H fun A L H=>evS P esc ops n (X.drop (i+k)) A L H K:=by
 rw[←MM,←List.drop_drop,List.take_append_drop]
theorem MK {P:Program} {esc:List Nat} {ops:Array Oper} {n:Nat} {K:List (Nat×AV)→List (Nat×List AV)→List Blk→Prop}: ∀(kd hB:List Item) (A:List (Nat×AV)) (L:List (Nat×List AV)) (H:List Blk),
  evSD P esc ops n (kd++hB) A L H K=evSD P esc ops n kd A L H fun A L H=>evSD P esc ops n hB A L H K
 | [],hB,A,L,H=>rfl
 | o::r,hB,A,L,H=>by
  show evSD P esc ops n (o::(r++hB)) A L H K=_
  simp only[evSD,MK r hB]
theorem mP {P:Program} {esc:List Nat} {ops:Array Oper} {n:Nat} {K:List (Nat×AV)→List (Nat×List AV)→List Blk→Prop} {A:List (Nat×AV)} {L:List (Nat×List AV)} {H:List Blk} (X:List Item) (i k:Nat):
  evSD P esc ops n (X.drop i) A L H K=evSD P esc ops n ((X.drop i).take k) A L H fun A L H=>evSD P esc ops n (X.drop (i+k)) A L H K:=by
 rw[←MK,←List.drop_drop,List.take_append_drop]
theorem map_set {α β:Type} (f:α→β) (xs:List α) (i:Nat) (x:α):(List.map f xs).set i (f x)=List.map f (xs.set i x):=by
 rw[List.map_set]
theorem Ef {H:List Blk} {α:Type} {eT eF:α→List AV} {b g sz n:Nat} {full:Bool} {xs ys:List α} (ad:n=xs.length) (hb:H[b]?=some ⟨g,sz,List.map eT xs⟩) (hc: ∀x,kk H (eT x) (eF x)) (h:xs.length≤4611686018427387904∧xs=ys):
  fi H (.ref b g 0 n full) (.aJ (List.map eF ys) false true):=ad▸T9 hb hc h
theorem vb {L:List (Nat×List AV)} {H:List Blk} {α:Type} {eT eF:α→List AV} {b g sz n:Nat} {full:Bool} {xs:List α} (au:n=xs.length) (hb:H[b]?=some ⟨g,sz,List.map eT xs⟩) (hc: ∀x,n3 L H (eT x) (eF x)) (ad:xs.length≤4611686018427387904):
  fA L H (.ref b g 0 n full) (.aJ (List.map eF xs) false false):=au▸SB hb hc ad
theorem JA {α:Type} {enc:α→List AV} {k:Nat} (h: ∀x,(enc x).length=k∧(enc x).all jg=true) (ys:List α):tc k (List.map enc ys):=fun row ai=>by
 obtain⟨x,_,rfl⟩:=List.mem_map.1 ai
 exact⟨(h x).1,fun a ap=>List.all_eq_true.1 (h x).2 a ap⟩
theorem C5 {α:Type} {c:Bool} {x y:List α} {n:Nat} (hx:x.length=n) (aS:y.length=n):(bif c then x else y).length=n:=by cases c<;>assumption
def n9:List (Nat×AV)→List (Nat×AV)→List (Nat×AV)
 | [],R=>R
 | p::N,R=>p::n9 N R
def Mv:List (Nat×AV)→List (Nat×AV)→List (Nat×AV)
 | [],A=>A
 | p::N,A=>k9 (Mv N A) p.1
def gd (N A:List (Nat×AV)):List (Nat×AV):=n9 N (Mv N A)
def dn (d:Option Nat) (v:AV) (N A:List (Nat×AV)):List (Nat×AV):=match d with
 | some d=>gd ((d,v)::N) A
 | none=>gd N A
def ve:List (Nat×AV)→Nat→AV→List (Nat×AV)
 | [],_,_=>[]
 | (k,u)::r,t,v=>match Nat.beq k t with
  | true=>(k,v)::r
  | false=>(k,u)::ve r t v
abbrev aE (n:Int):AV:= .int .i64 n
abbrev aF (b:Bool):AV:= .bool b
abbrev bC {α:Type} (e:α→List AV) (x:List α):AV:= .aJ (List.map e x) false false
abbrev ds:AV:= .aJ [] true true
abbrev oT {α:Type} (e:α→List AV) (x:List α):AV:= .aJ (List.map e x) false true
abbrev aU (b g n:Nat):AV:= .ref b g 0 n false
abbrev bz (t c:Nat):AV:= .e4 t c
abbrev t0:AV:= .tup []
def gH (l:List Nat):List (Nat×AV):=l.map fun i=>(i,.tup [])
def Rj:Bool→List Nat→Bool×List Nat
 | b,0::m=>Rj (!b) m
 | b,m=>(b,m)
def kz {α:Type} (b:Bool) (m:List Nat):List α→List α
 | []=>[]
 | x::l=>match Rj b m with
  | (true,(n+1)::m)=>x::kz true (n::m) l
  | (false,(n+1)::m)=>kz false (n::m) l
  | _=>[]
theorem AH {α:Type} {n:Nat} {m:List Nat} {x:α} {l:List α}:kz true ((n+1)::m) (x::l)=x::kz true (n::m) l:=rfl
theorem AG {α:Type} {n:Nat} {m:List Nat} {x:α} {l:List α}:kz false ((n+1)::m) (x::l)=kz false (n::m) l:=rfl
theorem AI {α:Type} {m:List Nat} {l:List α}:kz true (0::m) l=kz false m l:=by cases l<;>rfl
theorem self {α:Type} {m:List Nat} {l:List α}:kz false (0::m) l=kz true m l:=by cases l<;>rfl
theorem AF {α:Type} {b:Bool} {l:List α}:kz b [] l=[]:=by cases b<;>cases l<;>rfl
def ik (j:Nat) (r:List (List AV)):List Blk→List Blk
 | []=>[]
 | b::H=>match j with
  | 0=>⟨b.a6,b.sz,r⟩::H
  | j+1=>b::ik j r H
def iw (i j:Nat) (a:AV):List (Nat×List AV)→List (Nat×List AV)
 | []=>[]
 | x::L=>match i with
  | 0=>(x.1,x.2.set j a)::L
  | i+1=>x::iw i j a L
def er (i:Nat) (a:List AV):List (Nat×List AV)→List (Nat×List AV)
 | []=>[]
 | x::L=>match i with
  | 0=>(x.1,a)::L
  | i+1=>x::er i a L
def eJ (i:Nat) (b:Blk):List Blk→List Blk
 | []=>[]
 | x::H=>match i with
  | 0=>b::H
  | i+1=>x::eJ i b H
section
variable {i j k:Nat} {a:AV} {c l:List AV} {L:List (Nat×List AV)} {x:Nat×List AV} {b y:Blk} {H:List Blk}
theorem My:iw 0 j a ((k,c)::L)=(k,c.set j a)::L:=rfl
theorem Mz:iw (i+1) j a (x::L)=x::iw i j a L:=rfl
theorem MG:er 0 l ((k,c)::L)=(k,l)::L:=rfl
theorem MH:er (i+1) l (x::L)=x::er i l L:=rfl
theorem LZ:eJ 0 b (y::H)=b::H:=rfl
theorem L0:eJ (i+1) b (y::H)=y::eJ i b H:=rfl
end
abbrev dd (i:Nat):Item:=⟨i,true,true,[]⟩
abbrev rg (a b:Nat):List Nat:=List.range' a (b - a)
def vM [cl] {V:Type} (S:V→St) (sb:V→Prop) (Q:Exit→St→Prop) (ex:Exit) (s:St):Prop:=match ex with
 | .normal=> ∃v,sb v∧Weak s (S v)
 | ex=>Q ex s
theorem vM.normal [cl] {V:Type} {S:V→St} {sb:V→Prop} {Q:Exit→St→Prop} {s:St} (v:V) (h:sb v) (hw:Weak s (S v)):vM S sb Q .normal s:=⟨v,h,hw⟩
theorem vM.ret [cl] {V:Type} {S:V→St} {sb:V→Prop} {Q:Exit→St→Prop} {s:St} (h:Q .ret s):vM S sb Q .ret s:=h
theorem vM.exit [cl] {V:Type} {S:V→St} {sb:V→Prop} {Q:Exit→St→Prop} {s:St} {id:Nat} (h:Q (.exit id) s):vM S sb Q (.exit id) s:=h
section
variable {P:Program} {b:Code} {k n:Nat} {Q:Exit→St→Prop} {al:St} {A A':List (Nat×AV)} {L L':List (Nat×List AV)} {H H':List Blk}
theorem lz [cl] (S:St) (ψ:Prop) (h:WpS P (bJ b (2*k)) (dc S ψ Q) al) (U:ψ→WpS P (bJ b (2*k+1)) Q S) (e:bJ b k= .seq (bJ b (2*k)) (bJ b (2*k+1)):=by kernel_rfl):WpS P (bJ b k) Q al:=WpS.xK S e h U
theorem ei [cl] (N:List (Nat×AV)) (m:List Nat) (ψ:Prop) (h:WpS P (bJ b (2*k)) (dc ⟨bu n A',L,H⟩ ψ Q) ⟨bu n A,L,H⟩) (U:ψ→WpS P (bJ b (2*k+1)) Q ⟨bu n A',L,H⟩) (cE:n9 N (kz true m A)=A':=by simp only[n9,AH,AG,AI,self,AF];rfl) (e:bJ b k= .seq (bJ b (2*k)) (bJ b (2*k+1)):=by kernel_rfl):WpS P (bJ b k) Q ⟨bu n A,L,H⟩:=WpS.xK _ e h U
theorem ih [cl] (N:List (Nat×AV)) (m:List Nat) (F9:List (Nat×List AV)→List (Nat×List AV)) (F8:List Blk→List Blk) (ψ:Prop) (h:WpS P (bJ b (2*k)) (dc ⟨bu n A',L',H'⟩ ψ Q) ⟨bu n A,L,H⟩) (U:ψ→WpS P (bJ b (2*k+1)) Q ⟨bu n A',L',H'⟩) (bB:F9 L=L':=by first | (simp only[id,My,Mz,MG,MH,List.set_cons_zero,List.set_cons_succ];rfl) | (dsimp only;rfl) | rfl) (an:F8 H=H':=by first | (simp only[id,LZ,L0,List.cons_append,List.nil_append];rfl) | (dsimp only;rfl) | rfl) (cE:n9 N (kz true m A)=A':=by simp only[n9,AH,AG,AI,self,AF];rfl) (e:bJ b k= .seq (bJ b (2*k)) (bJ b (2*k+1)):=by kernel_rfl):WpS P (bJ b k) Q ⟨bu n A,L,H⟩:=WpS.xK _ e h U
theorem ko [cl] (h:WpS P (bJ b (2*k)) (eE P (bJ b (2*k+1)) Q) al) (e:bJ b k= .seq (bJ b (2*k)) (bJ b (2*k+1)):=by kernel_rfl):WpS P (bJ b k) Q al:=WpS.seq' e h
theorem sl [cl] (o:Operand) (z:Bool) (h1:z=true→WpS P (bJ b (2*k)) Q ⟨bu n A,L,H⟩) (h2:z=false→WpS P (bJ b (2*k+1)) Q ⟨bu n A,L,H⟩) (e:bJ b k= .cond o (bJ b (2*k)) (bJ b (2*k+1)):=by kernel_rfl)
  (ad:ee n A=true:=by kernel_rfl) (ar:pv A o= .bool z:=by kernel_rfl):WpS P (bJ b k) Q ⟨bu n A,L,H⟩:=WpS.Wt e (Wu ad ar) h1 h2
theorem jn [cl] (id:Nat) (h:WpS P (bJ b (2*k)) (eh id Q) al) (e:bJ b k= .block id (bJ b (2*k)):=by kernel_rfl):WpS P (bJ b k) Q al:=WpS.VK e h
theorem gj [cl] (h:Q .normal al) (e:bJ b k= .skip:=by kernel_rfl):WpS P (bJ b k) Q al:=WpS.afS e h
theorem j3 [cl] (h:Q .ret al) (e:bJ b k= .ret:=by kernel_rfl):WpS P (bJ b k) Q al:=WpS.afn e h
theorem mM [cl] (id:Nat) (h:Q (.exit id) al) (e:bJ b k= .exit id:=by kernel_rfl):WpS P (bJ b k) Q al:=WpS.W_ e h
theorem oX [cl] {V:Type} (S:V→St) (I:V→Prop) (m:V→Nat) (v0:V) (hs:Weak al (S v0)) (au:I v0) (round: ∀v,I v→WpS P (bJ b (2*k)) (fh S I m v Q) (S v)) (e:bJ b k= .loop (bJ b (2*k)):=by kernel_rfl):WpS P (bJ b k) Q al:=
 WpS.QU S I m e v0 hs au round
theorem cr [cl] (esc:List Nat) (id:Nat) (h:evS P esc (kh b k) n ((kh b k).toList.drop 0) A L H (fun A L H=>Q .normal ⟨bu n A,L,H⟩)) (e:bJ b k= .region id (kh b k) false:=by kernel_rfl) (ad:ee n A=true:=by kernel_rfl):WpS P (bJ b k) Q ⟨bu n A,L,H⟩:=
 WpS.DN (esc:=esc) e ad h
theorem ta [cl] (esc:List Nat) (id:Nat) (ord:List Item) (jB:List (List Nat)) (hX:List (Nat×List AV)) (h:evSD P esc (kh b k) n (ord.drop 0) A (hX++L) H (fun A L H=>Q .normal ⟨bu n A,L,H⟩)) (hm:P.follows .mixedOrders=true:=by kernel_rfl) (ao:jB.length=(kh b k).size:=by kernel_rfl)
  (aO:wg (kh b k) ord (yP jB)=true:=by kernel_rfl) (G3:ord.all (·.lit)=true:=by kernel_rfl) (e:bJ b k= .region id (kh b k) true:=by kernel_rfl) (ad:ee n A=true:=by kernel_rfl) (hf:tO hX L=true:=by kernel_rfl) (av:tE (kh b k) L ord=true:=by kernel_rfl):WpS P (bJ b k) Q ⟨bu n A,L,H⟩:=
 WpS.afl (esc:=esc) ord jB hm ao aO G3 e ad hX hf av h
theorem jo [cl] (esc:List Nat) (id:Nat) (mJ:List (Nat×AV)) (zZ m:List Nat) (U:WpS P (bJ b (2*k+1)) Q ⟨bu n A',L,H⟩) (cE:n9 (kz true zZ mJ) (kz true m A)=A':=by simp only[n9,AH,AG,AI,self,AF];rfl) (e:bJ b k= .seq (bJ b (2*k)) (bJ b (2*k+1)):=by kernel_rfl)
  (e2:bJ b (2*k)= .region id (kh b (2*k)) false:=by kernel_rfl) (ad:ee n A=true:=by kernel_rfl) (dl: ∀K,evS P esc (kh b (2*k)) n ((kh b (2*k)).toList.drop 0) A L H K=K (gd mJ A) L H:=by intro K;kernel_rfl) (k_:m2 (gd mJ A) A'=A':=by kernel_rfl)
  (h1:ee n (gd mJ A)=true:=by kernel_rfl) (h2:ee n A'=true:=by kernel_rfl):WpS P (bJ b k) Q ⟨bu n A,L,H⟩:=
 WpS.xK ⟨bu n A',L,H⟩ (ψ:=True) e (WpS.DN (esc:=esc) e2 ad (by rw[dl];exact⟨trivial,yp h1 h2 k_⟩)) fun _=>U
theorem v_ [cl] (esc:List Nat) (id:Nat) (mJ:List (Nat×AV)) (zZ m:List Nat) (L':List (Nat×List AV)) (H':List Blk) (U:WpS P (bJ b (2*k+1)) Q ⟨bu n A',L',H'⟩) (cE:n9 (kz true zZ mJ) (kz true m A)=A':=by simp only[n9,AH,AG,AI,self,AF];rfl) (e:bJ b k= .seq (bJ b (2*k)) (bJ b (2*k+1)):=by kernel_rfl)
  (e2:bJ b (2*k)= .region id (kh b (2*k)) false:=by kernel_rfl) (ad:ee n A=true:=by kernel_rfl) (dl: ∀K,evS P esc (kh b (2*k)) n ((kh b (2*k)).toList.drop 0) A L H K=K (gd mJ A) L' H':=by intro K;kernel_rfl) (k_:m2 (gd mJ A) A'=A':=by kernel_rfl)
  (h1:ee n (gd mJ A)=true:=by kernel_rfl) (h2:ee n A'=true:=by kernel_rfl):WpS P (bJ b k) Q ⟨bu n A,L,H⟩:=
 WpS.xK ⟨bu n A',L',H'⟩ (ψ:=True) e (WpS.DN (esc:=esc) e2 ad (by rw[dl];exact⟨trivial,yp h1 h2 k_⟩)) fun _=>U
theorem BG [cl] (esc:List Nat) (id:Nat) (mJ:List (Nat×AV)) (zZ m:List Nat) (F9:List (Nat×List AV)→List (Nat×List AV)) (F8:List Blk→List Blk) (U:WpS P (bJ b (2*k+1)) Q ⟨bu n A',L',H'⟩) (bB:F9 L=L':=by first | (simp only[id,My,Mz,MG,MH,List.set_cons_zero,List.set_cons_succ];rfl) | (dsimp only;rfl) | rfl) (an:F8 H=H':=by first | (simp only[id,LZ,L0,List.cons_append,List.nil_append];rfl) | (dsimp only;rfl) | rfl) (cE:n9 (kz true zZ mJ) (kz true m A)=A':=by simp only[n9,AH,AG,AI,self,AF];rfl) (e:bJ b k= .seq (bJ b (2*k)) (bJ b (2*k+1)):=by kernel_rfl)
  (e2:bJ b (2*k)= .region id (kh b (2*k)) false:=by kernel_rfl) (ad:ee n A=true:=by kernel_rfl) (dl: ∀K,evS P esc (kh b (2*k)) n ((kh b (2*k)).toList.drop 0) A L H K=K (gd mJ A) L' H':=by intro K;kernel_rfl) (k_:m2 (gd mJ A) A'=A':=by kernel_rfl)
  (h1:ee n (gd mJ A)=true:=by kernel_rfl) (h2:ee n A'=true:=by kernel_rfl):WpS P (bJ b k) Q ⟨bu n A,L,H⟩:=
 WpS.xK ⟨bu n A',L',H'⟩ (ψ:=True) e (WpS.DN (esc:=esc) e2 ad (by rw[dl];exact⟨trivial,yp h1 h2 k_⟩)) fun _=>U
theorem hI [cl] {t:Nat} {z:Bool} (h1:z=true→WpS P (bJ b (2*k)) Q ⟨bu n ((t,.bool z)::A),L,H⟩) (h2:z=false→WpS P (bJ b (2*k+1)) Q ⟨bu n ((t,.bool z)::A),L,H⟩) (e:bJ b k= .cond (.tmp t) (bJ b (2*k)) (bJ b (2*k+1)):=by kernel_rfl)
  (ad:ee n ((t,.bool z)::A)=true:=by kernel_rfl):WpS P (bJ b k) Q ⟨bu n ((t,.bool z)::A),L,H⟩:=sl (.tmp t) z h1 h2 e ad (by show fP ((t,.bool z)::A) t=_;unfold fP;rw[show Nat.beq t t=true from Nat.beq_refl t])
theorem dg.go {f:FuncId} {fn:Func} {args:List AV} {H:List Blk} {R:AV→List Blk→Prop} (A:List (Nat×AV)) (hf:P.funcs[f]?=some fn) (h: ∀ie:cl,ie.n=H.length→WpS P (bJ (j2 fn) 1) (tC P fn R) ⟨bu fn.ntmps A,[],H⟩) (hb:fn.body=some (bJ (j2 fn) 1):=by kernel_rfl) (ad:(fn.name== "runtime.NumGoroutine")=false:=by kernel_rfl)
  (hi:CY fn args H=⟨bu fn.ntmps A,[],H⟩:=by kernel_rfl):dg P f args H R:=dg.I4 hf hb ad fun ie fN=>hi▸h ie fN
theorem xG {fn:Func} {R:AV→List Blk→Prop} (r:AV) (h:R r H) (ad:ee n A=true:=by kernel_rfl) (e: ∀K,rV P A L H fn.results.toList K=K [r]:=by intro K;kernel_rfl) (ai:[r].all jR=true:=by kernel_rfl):tC P fn R .ret ⟨bu n A,L,H⟩:=Jx ad [r] e ai rfl h
theorem gg [cl] (k_:m2 A A'=A':=by kernel_rfl) (cE:ee n A=true:=by kernel_rfl) (l_:ee n A'=true:=by kernel_rfl):Weak ⟨bu n A,L,H⟩ ⟨bu n A',L,H⟩:=yp cE l_ k_
theorem hW [cl] (cz:List Nat) (cE:ee n A=true:=by kernel_rfl) (l_:ee n A'=true:=by kernel_rfl) (ab:zX cz A'=true:=by kernel_rfl) (k_:m2 A A'=A':=by kernel_rfl) (fM:ns cz L=L':=by kernel_rfl):Weak ⟨bu n A,L,H⟩ ⟨bu n A',L',H⟩:=aic cz cE l_ ab k_ fM
theorem m6 {fn:Func} {R:AV→List Blk→Prop} (r:AV) (l:List AV) (h:R r H) (ad:ee n A=true:=by kernel_rfl) (e: ∀K,rV P A L H fn.results.toList K=K l:=by intro K;kernel_rfl) (ai:l.all jR=true:=by kernel_rfl) (hw:qG l=r:=by kernel_rfl):tC P fn R .ret ⟨bu n A,L,H⟩:=Jx ad l e ai hw h
theorem FX {fn:Func} {R:AV→List Blk→Prop} (r:AV) (l:List AV) (h:R r H) (ad:ee n A=true:=by kernel_rfl) (e: ∀K,rV P A L H fn.results.toList K=K l:=by intro K;kernel_rfl) (ai:l.all jR=true:=by kernel_rfl) (hw:qG l=r:=by kernel_rfl):tC P fn R .normal ⟨bu n A,L,H⟩:=W4 ad l e ai hw h
end
section
variable {P:Program} {esc:List Nat} {ops:Array Oper} {n:Nat} {X:List Oper} {i0:Nat} {A:List (Nat×AV)} {L:List (Nat×List AV)} {H:List Blk} {K:List (Nat×AV)→List (Nat×List AV)→List Blk→Prop}
theorem c_ [cl] {A':List (Nat×AV)} {L':List (Nat×List AV)} {H':List Blk} {ψ:Prop} {Q:Exit→St→Prop} (N:List (Nat×AV)) (ab:ψ) (k_:m2 (gd N A) A'=A':=by kernel_rfl) (e: ∀K,evS P esc ops n (X.drop i0) A L H K=K (gd N A) L' H':=by intro K;kernel_rfl)
  (cE:ee n (gd N A)=true:=by kernel_rfl) (l_:ee n A'=true:=by kernel_rfl):evS P esc ops n (X.drop i0) A L H (fun A L H=>dc ⟨bu n A',L',H'⟩ ψ Q .normal ⟨bu n A,L,H⟩):=by
 rw[e];exact⟨ab,yp cE l_ k_⟩
theorem qx (aY t:Nat) (b:Bool) (N:List (Nat×AV)) (h1:b=true→evS P esc ops n (X.drop (i0+aY)) (ve (gd ((t,.bool b)::N) A) t (.bool true)) L H K) (h2:b=false→evS P esc ops n (X.drop (i0+aY)) (ve (gd ((t,.bool b)::N) A) t (.bool false)) L H K)
  (e: ∀K,evS P esc ops n ((X.drop i0).take aY) A L H K=K (ve (gd ((t,.bool b)::N) A) t (.bool b)) L H:=by intro K;kernel_rfl):evS P esc ops n (X.drop i0) A L H K:=by
 rw[jG X i0 aY,e]
 cases b with
 | true=>exact h1 rfl
 | false=>exact h2 rfl
theorem gG (N:List (Nat×AV)) (h:K (gd N A) L H) (e: ∀K,evS P esc ops n (X.drop i0) A L H K=K (gd N A) L H:=by intro K;kernel_rfl):evS P esc ops n (X.drop i0) A L H K:=by
 rw[e];exact h
theorem SA (N:List (Nat×AV)) (L':List (Nat×List AV)) (H':List Blk) (h:K (gd N A) L' H') (e: ∀K,evS P esc ops n (X.drop i0) A L H K=K (gd N A) L' H':=by intro K;kernel_rfl):evS P esc ops n (X.drop i0) A L H K:=by
 rw[e];exact h
theorem JG (aY:Nat) (N:List (Nat×AV)) (L':List (Nat×List AV)) (H':List Blk) (h:evS P esc ops n (X.drop (i0+aY)) (gd N A) L' H' K) (e: ∀K,evS P esc ops n ((X.drop i0).take aY) A L H K=K (gd N A) L' H':=by intro K;kernel_rfl):evS P esc ops n (X.drop i0) A L H K:=by
 rw[jG X i0 aY,e];exact h
theorem DV (aY:Nat) (d:Option Nat) (v:AV) (N:List (Nat×AV)) {φ:Prop} (h1:φ) (h:evS P esc ops n (X.drop (i0+aY)) (dn d v N A) L H K) (e: ∀K,evS P esc ops n ((X.drop i0).take aY) A L H K=(φ∧K (dn d v N A) L H):=by intro K;kernel_rfl):evS P esc ops n (X.drop i0) A L H K:=by
 rw[jG X i0 aY,e];exact⟨h1,h⟩
theorem pF (aY:Nat) (d:Option Nat) (N:List (Nat×AV)) {α:Type} [Inhabited α] (enc:α→List AV) (xs:List α) {i:Int} (m:Nat)
  (au:0≤i∧i.toNat<xs.length) (h:evS P esc ops n (X.drop (i0+aY)) (dn d (.c3 (enc (nth xs i)) 0) N A) L H K) (ad: ∀x,(enc x).length=m:=by exact fun _=>rfl)
  (e: ∀K,evS P esc ops n ((X.drop i0).take aY) A L H K=(0≤i∧cD (List.map enc xs)[i.toNat]? fun row=>row.length=m∧K (dn d (.c3 row 0) N A) L H):=by intro K;kernel_rfl):evS P esc ops n (X.drop i0) A L H K:=by
 rw[jG X i0 aY,e]
 refine⟨au.1,dF (a:=enc (nth xs i)) ?_ ⟨ad _,h⟩⟩
 rw[List.getElem?_map,gX au.2];rfl
theorem JE (aY:Nat) (d:Option Nat) (N:List (Nat×AV)) (b g z:Nat) {i:Int} {m:Nat} (au:0≤i∧i.toNat<m) (h:evS P esc ops n (X.drop (i0+aY)) (dn d (.ptr b g (0+i.toNat) 0) N A) L H K)
  (e: ∀K,evS P esc ops n ((X.drop i0).take aY) A L H K=(g=g∧z=z∧0≤i∧i<m∧K (dn d (.ptr b g (0+i.toNat) 0) N A) L H):=by intro K;kernel_rfl):evS P esc ops n (X.drop i0) A L H K:=by
 rw[jG X i0 aY,e];exact⟨rfl,rfl,au.1,by have:=au.2;omega,h⟩
theorem afA (aY:Nat) (d:Option Nat) (N:List (Nat×AV)) {α:Type} [Inhabited α] (enc:α→List AV) (xs:List α) (i:Int) (t:TypeId) (c g:Nat) (v:AV) (ai:i.toNat<xs.length) (h:evS P esc ops n (X.drop (i0+aY)) (dn d v N A) L H K)
  (e2: ∀K,iJ P t (enc (nth xs i)) c K=K v:=by intro K;kernel_rfl)
  (e: ∀K,evS P esc ops n ((X.drop i0).take aY) A L H K=(g=g∧cD (List.map enc xs)[0+i.toNat]? fun row=>iJ P t row c fun v=>K (dn d v N A) L H):=by intro K;kernel_rfl):evS P esc ops n (X.drop i0) A L H K:=by
 rw[jG X i0 aY,e]
 refine⟨rfl,dF (a:=enc (nth xs i)) ?_ (by rw[e2];exact h)⟩
 rw[Nat.zero_add,List.getElem?_map,gX ai];rfl
theorem xH (aY:Nat) (d:Option Nat) (N:List (Nat×AV)) {g:FuncId} (args:List AV) {dB:List AV} {t:AV}
  (hf:aZ P g dB t) (hs:az (ew L H) args dB) (h:evS P esc ops n (X.drop (i0+aY)) (dn d t N A) L H K) (ad:args.all en=true:=by kernel_rfl) (e: ∀K,evS P esc ops n ((X.drop i0).take aY) A L H K=kK P g args L H (fun v L' H'=>K (dn d v N A) L' H'):=by intro K;kernel_rfl):evS P esc ops n (X.drop i0) A L H K:=by
 rw[jG X i0 aY,e];exact .inl ⟨ad,dB,t,hs,hf,h⟩
theorem afB (aY:Nat) (d:Option Nat) (N:List (Nat×AV)) {α:Type} (enc:α→List AV) {i:Int} (B:Int) (z:List AV) (b:Nat) (H':List (List AV)→List Blk) (aA:α) (au:0≤i∧B*i≤140737488355328∧i≤4611686018427387904)
  (h:evS P esc ops n (X.drop (i0+aY)) (dn d (.ref b 0 0 (List.replicate i.toNat aA).length false) N A) L (H' (List.map enc (List.replicate i.toNat aA))) K) (av:z=enc aA:=by rfl)
  (e: ∀K,evS P esc ops n ((X.drop i0).take aY) A L H K=(0≤i∧i≤i∧B*i≤140737488355328∧i≤4611686018427387904∧K (dn d (.ref b 0 0 i.toNat false) N A) L (H' (List.replicate i.toNat z))):=by intro K;kernel_rfl):evS P esc ops n (X.drop i0) A L H K:=by
 rw[jG X i0 aY,e]
 refine⟨au.1,Int.le_refl _,au.2.1,au.2.2,?_⟩
 ·rw[av,←List.map_replicate];rw[List.length_replicate] at h;exact h
theorem td (aY:Nat) (d:Option Nat) (N:List (Nat×AV)) {α:Type} (enc:α→List AV) (ys:List α) (b6:List (List AV)) (b s B:Nat) (H':List (List AV)→List Blk) (hx:b6=List.map enc ys) (au:ys.length*B≤140737488355328∧ys.length≤4611686018427387904)
  (h:evS P esc ops n (X.drop (i0+aY)) (dn d (.ref b 0 0 ys.length false) N A) L (H' (List.map enc ys)) K) (hk: ∀x,(enc x).length=s∧(enc x).all jg=true:=by exact fun _=>⟨rfl,rfl⟩)
  (e: ∀K,evS P esc ops n ((X.drop i0).take aY) A L H K=(true=true∧true=true∧tc s b6∧true=true∧(∀row∈([]:List (List AV)),row.length=s)∧(List.length (α:=List AV) []+b6.length)*B≤140737488355328∧List.length (α:=List AV) []+b6.length≤4611686018427387904∧(([]:List (List AV))≠[]→b6≠[])∧
   K (dn d (.ref b 0 0 (List.length (α:=List AV) []+b6.length) false) N A) L (H' ([]++b6))):=by intro K;kernel_rfl):evS P esc ops n (X.drop i0) A L H K:=by
 rw[jG X i0 aY,e]
 subst hx
 refine⟨rfl,rfl,JA hk ys,rfl,(fun row h=>by cases h),by simpa using au.1,by simpa using au.2,(fun h=>absurd rfl h),?_⟩
 ·simpa using h
theorem DW (aY:Nat) (d:Option Nat) (N:List (Nat×AV)) {g:FuncId} (args:List AV) {dB:List AV} {eA:AV} {cw:List Blk} (r:AV) (l0:List Blk)
  (hf:dg P g dB [] fun r H'=>r=eA∧H'=cw) (hs:az (ew L H) args dB) (zy:s5 cw=true) (FS:H++cw.map (kB H.length)=l0)
  (h:evS P esc ops n (X.drop (i0+aY)) (dn d r N A) L l0 K) (ad:args.all en=true:=by kernel_rfl) (ar:xp eA=true:=by kernel_rfl) (er:pG H.length eA=r:=by kernel_rfl) (e: ∀K,evS P esc ops n ((X.drop i0).take aY) A L H K=kK P g args L H (fun v L' H'=>K (dn d v N A) L' H'):=by intro K;kernel_rfl):evS P esc ops n (X.drop i0) A L H K:=by
 rw[jG X i0 aY,e]
 subst er;subst FS
 exact .inr (.inl ⟨ad,dB,hs,hf.mono fun cN H1 ⟨h1,h2⟩=>by subst h1;subst h2;exact⟨ar,zy,h⟩⟩)
theorem sLen (aY:Nat) (d:Option Nat) (N:List (Nat×AV)) {α:Type} (enc:α→List AV) (xs:List α) (h:xs.length≤4611686018427387904→evS P esc ops n (X.drop (i0+aY)) (dn d (.int .i64 (xs.length:Nat)) N A) L H K)
  (e: ∀K,evS P esc ops n ((X.drop i0).take aY) A L H K=((List.map enc xs).length≤4611686018427387904→K (dn d (.int .i64 ((List.map enc xs).length:Nat)) N A) L H):=by intro K;kernel_rfl):evS P esc ops n (X.drop i0) A L H K:=by
 rw[jG X i0 aY,e,List.length_map];exact h
theorem JH (aY:Nat) (d:Option Nat) (N:List (Nat×AV)) {α:Type} (enc:α→List AV) (xs:List α) (h1:xs≠[]→evS P esc ops n (X.drop (i0+aY)) (dn d (.bool false) N A) L H K) (h2:xs=[]→ ∀b,evS P esc ops n (X.drop (i0+aY)) (dn d (.bool b) N A) L H K)
  (e: ∀K,evS P esc ops n ((X.drop i0).take aY) A L H K=((List.map enc xs≠[]→K (dn d (.bool false) N A) L H)∧(List.map enc xs=[]→ ∀b,K (dn d (.bool b) N A) L H)):=by intro K;kernel_rfl):evS P esc ops n (X.drop i0) A L H K:=by
 rw[jG X i0 aY,e]
 exact⟨fun h=>h1 fun e=>h (by rw[e];rfl),fun h=>h2 (by simpa using h)⟩
end
section
variable {P:Program} {esc:List Nat} {ops:Array Oper} {n:Nat} {X:List Item} {i0:Nat} {A:List (Nat×AV)} {L:List (Nat×List AV)} {H:List Blk} {K:List (Nat×AV)→List (Nat×List AV)→List Blk→Prop}
theorem lR [cl] {A':List (Nat×AV)} {L':List (Nat×List AV)} {H':List Blk} {ψ:Prop} {Q:Exit→St→Prop} (N:List (Nat×AV)) (ab:ψ) (k_:m2 (gd N A) A'=A':=by kernel_rfl) (e: ∀K,evSD P esc ops n (X.drop i0) A L H K=K (gd N A) L' H':=by intro K;kernel_rfl)
  (cE:ee n (gd N A)=true:=by kernel_rfl) (l_:ee n A'=true:=by kernel_rfl):evSD P esc ops n (X.drop i0) A L H (fun A L H=>dc ⟨bu n A',L',H'⟩ ψ Q .normal ⟨bu n A,L,H⟩):=by
 rw[e];exact⟨ab,yp cE l_ k_⟩
theorem qE (aY t:Nat) (b:Bool) (N:List (Nat×AV)) (h1:b=true→evSD P esc ops n (X.drop (i0+aY)) (ve (gd ((t,.bool b)::N) A) t (.bool true)) L H K) (h2:b=false→evSD P esc ops n (X.drop (i0+aY)) (ve (gd ((t,.bool b)::N) A) t (.bool false)) L H K)
  (e: ∀K,evSD P esc ops n ((X.drop i0).take aY) A L H K=K (ve (gd ((t,.bool b)::N) A) t (.bool b)) L H:=by intro K;kernel_rfl):evSD P esc ops n (X.drop i0) A L H K:=by
 rw[mP X i0 aY,e]
 cases b with
 | true=>exact h1 rfl
 | false=>exact h2 rfl
theorem Ug (N:List (Nat×AV)) (h:K (gd N A) L H) (e: ∀K,evSD P esc ops n (X.drop i0) A L H K=K (gd N A) L H:=by intro K;kernel_rfl):evSD P esc ops n (X.drop i0) A L H K:=by
 rw[e];exact h
theorem K5 (aY:Nat) (d:Option Nat) (v:AV) (N:List (Nat×AV)) {φ:Prop} (h1:φ) (h:evSD P esc ops n (X.drop (i0+aY)) (dn d v N A) L H K) (e: ∀K,evSD P esc ops n ((X.drop i0).take aY) A L H K=(φ∧K (dn d v N A) L H):=by intro K;kernel_rfl):evSD P esc ops n (X.drop i0) A L H K:=by
 rw[mP X i0 aY,e];exact⟨h1,h⟩
theorem ahO (aY:Nat) (N:List (Nat×AV)) (L':List (Nat×List AV)) (H':List Blk) {φ:Prop} (h1:φ) (h:evSD P esc ops n (X.drop (i0+aY)) (gd N A) L' H' K) (e: ∀K,evSD P esc ops n ((X.drop i0).take aY) A L H K=(φ∧K (gd N A) L' H'):=by intro K;kernel_rfl):evSD P esc ops n (X.drop i0) A L H K:=by
 rw[mP X i0 aY,e];exact⟨h1,h⟩
theorem AY (aY:Nat) (d:Option Nat) (N:List (Nat×AV)) {α:Type} [Inhabited α] (enc:α→List AV) (xs:List α) {i:Int} (m:Nat)
  (au:0≤i∧i.toNat<xs.length) (h:evSD P esc ops n (X.drop (i0+aY)) (dn d (.c3 (enc (nth xs i)) 0) N A) L H K) (ad: ∀x,(enc x).length=m:=by exact fun _=>rfl)
  (e: ∀K,evSD P esc ops n ((X.drop i0).take aY) A L H K=(0≤i∧cD (List.map enc xs)[i.toNat]? fun row=>row.length=m∧K (dn d (.c3 row 0) N A) L H):=by intro K;kernel_rfl):evSD P esc ops n (X.drop i0) A L H K:=by
 rw[mP X i0 aY,e]
 refine⟨au.1,dF (a:=enc (nth xs i)) ?_ ⟨ad _,h⟩⟩
 rw[List.getElem?_map,gX au.2];rfl
theorem AX (aY:Nat) (d:Option Nat) (N:List (Nat×AV)) (b g z:Nat) {i:Int} {m:Nat} (au:0≤i∧i.toNat<m) (h:evSD P esc ops n (X.drop (i0+aY)) (dn d (.ptr b g (0+i.toNat) 0) N A) L H K)
  (e: ∀K,evSD P esc ops n ((X.drop i0).take aY) A L H K=(g=g∧z=z∧0≤i∧i<m∧K (dn d (.ptr b g (0+i.toNat) 0) N A) L H):=by intro K;kernel_rfl):evSD P esc ops n (X.drop i0) A L H K:=by
 rw[mP X i0 aY,e];exact⟨rfl,rfl,au.1,by have:=au.2;omega,h⟩
theorem AZ (aY:Nat) (d:Option Nat) (N:List (Nat×AV)) {α:Type} [Inhabited α] (enc:α→List AV) (xs:List α) (i:Int) (t:TypeId) (c g:Nat) (v:AV) (ai:i.toNat<xs.length) (h:evSD P esc ops n (X.drop (i0+aY)) (dn d v N A) L H K)
  (e2: ∀K,iJ P t (enc (nth xs i)) c K=K v:=by intro K;kernel_rfl)
  (e: ∀K,evSD P esc ops n ((X.drop i0).take aY) A L H K=(g=g∧cD (List.map enc xs)[0+i.toNat]? fun row=>iJ P t row c fun v=>K (dn d v N A) L H):=by intro K;kernel_rfl):evSD P esc ops n (X.drop i0) A L H K:=by
 rw[mP X i0 aY,e]
 refine⟨rfl,dF (a:=enc (nth xs i)) ?_ (by rw[e2];exact h)⟩
 rw[Nat.zero_add,List.getElem?_map,gX ai];rfl
theorem ahN (aY:Nat) (d:Option Nat) (N:List (Nat×AV)) {g:FuncId} (args:List AV) {dB:List AV} {t:AV}
  (hf:aZ P g dB t) (hs:az (ew L H) args dB) (h:evSD P esc ops n (X.drop (i0+aY)) (dn d t N A) L H K) (ad:args.all en=true:=by kernel_rfl) (e: ∀K,evSD P esc ops n ((X.drop i0).take aY) A L H K=oa P g args L H (fun v=>K (dn d v N A) L H):=by intro K;kernel_rfl):evSD P esc ops n (X.drop i0) A L H K:=by
 rw[mP X i0 aY,e];exact⟨ad,dB,t,hs,hf,h⟩
theorem ahM (aY:Nat) (d:Option Nat) (N:List (Nat×AV)) {α:Type} (enc:α→List AV) (xs ys:List α) (b6:List (List AV)) (b g s B:Nat) (F:List (List AV)→Prop) (H':List (List AV)→List Blk) (hx:b6=List.map enc ys) (au:(xs.length+ys.length)*B≤140737488355328∧xs.length+ys.length≤4611686018427387904)
  (dK:F ((List.map enc (xs++ys)))) (h:evSD P esc ops n (X.drop (i0+aY)) (dn d (.ref b (g+1) 0 (xs++ys).length false) N A) L (H' (List.map enc (xs++ys))) K) (hk: ∀x,(enc x).length=s∧(enc x).all jg=true:=by exact fun _=>⟨rfl,rfl⟩)
  (e: ∀K,evSD P esc ops n ((X.drop i0).take aY) A L H K=(true=true∧true=true∧tc s b6∧0=0∧g=g∧s=s∧(List.map enc xs).length=xs.length∧(xs.length+b6.length)*B≤140737488355328∧xs.length+b6.length≤4611686018427387904∧F ((List.map enc xs++b6))∧K (dn d (.ref b (g+1) 0 (xs.length+b6.length) false) N A) L (H' (List.map enc xs++b6))):=by intro K;kernel_rfl):evSD P esc ops n (X.drop i0) A L H K:=by
 rw[mP X i0 aY,e]
 subst hx
 refine⟨rfl,rfl,JA hk ys,rfl,rfl,rfl,List.length_map ..,by rw[List.length_map];exact au.1,by rw[List.length_map];exact au.2,?_,?_⟩
 ·rw[←List.map_append];exact dK
 ·rw[List.length_append] at h;rw[List.length_map,←List.map_append];exact h
theorem K6 (aY:Nat) (d:Option Nat) (N:List (Nat×AV)) {g:FuncId} (args:List AV) {dB:List AV} {eA:AV} {cw:List Blk} (F:List (Nat×List AV)→List Blk→Prop) (r:AV) (l0:List Blk)
  (hf:dg P g dB [] fun r H'=>r=eA∧H'=cw) (hs:az (ew L H) args dB) (zy:s5 cw=true) (FS:H++cw.map (kB H.length)=l0) (dK:F L l0)
  (h:evSD P esc ops n (X.drop (i0+aY)) (dn d r N A) L l0 K) (ad:args.all en=true:=by kernel_rfl) (ar:xp eA=true:=by kernel_rfl) (er:pG H.length eA=r:=by kernel_rfl) (e: ∀K,evSD P esc ops n ((X.drop i0).take aY) A L H K=kK P g args L H (fun v L' H'=>F L' H'∧K (dn d v N A) L' H'):=by intro K;kernel_rfl):evSD P esc ops n (X.drop i0) A L H K:=by
 rw[mP X i0 aY,e]
 subst er;subst FS
 exact .inr (.inl ⟨ad,dB,hs,hf.mono fun cN H1 ⟨h1,h2⟩=>by subst h1;subst h2;exact⟨ar,zy,dK,h⟩⟩)
theorem Uh (aY:Nat) (d:Option Nat) (N:List (Nat×AV)) {α:Type} (enc:α→List AV) (xs:List α) (h:evSD P esc ops n (X.drop (i0+aY)) (dn d (.int .i64 (xs.length:Nat)) N A) L H K)
  (e: ∀K,evSD P esc ops n ((X.drop i0).take aY) A L H K=K (dn d (.int .i64 ((List.map enc xs).length:Nat)) N A) L H:=by intro K;kernel_rfl):evSD P esc ops n (X.drop i0) A L H K:=by
 rw[mP X i0 aY,e,List.length_map];exact h
end
inductive hY (H:List Blk) (bM:Nat) (cL:Nat→Option Nat):AV→AV→Prop where
 | int (k:IntKind) (n:Int):hY H bM cL (.int k n) (.int k n)
 | bool (b:Bool):hY H bM cL (.bool b) (.bool b)
 | str (s:ByteArray):hY H bM cL (.str s) (.str s)
 | fD:hY H bM cL .fD .fD
 | fT:hY H bM cL .fT .fT
 | aJ (rows:List (List AV)) (full c8 fr:Bool) (hw:c8=true→full=true):hY H bM cL (.aJ rows full fr) (.aJ rows c8 fr)
 | ref {b g n j:Nat} {full:Bool} {blk:Blk} (af:j<bM) (hs:cL j=some b) (hb:H[b]?=some blk) (aB:blk.a6=g):hY H bM cL (.ref b g 0 n full) (.ref j 0 0 n false)
 | nil {a:AV} {j:Nat} (af:j<bM) (hs:cL j=none) (h:rC a=true):hY H bM cL a (.ref j 0 0 0 false)
def EO (H:List Blk) (bM:Nat) (cL:Nat→Option Nat) (a b:AV):Prop:=(∃l eN,a= .agg l∧b= .agg eN∧az (hY H bM cL) l eN)∨hY H bM cL a b
structure sf (H cw:List Blk) (cL:Nat→Option Nat):Prop where
 inj: ∀i j b,i<cw.length→j<cw.length→cL i=some b→cL j=some b→i=j
 a6: ∀(j:Nat) (k:Blk),cw[j]?=some k→k.a6=0
 blk: ∀(j b:Nat) (k:Blk),cw[j]?=some k→cL j=some b→ ∃q,H[b]?=some q∧q.sz=k.sz∧az (az (hY H cw.length cL)) q.rows k.rows
def Env.own (E:Env) (cw:List Blk) (cL:Nat→Option Nat):Env:=
 {w:=E.w,PA:=E.PA,PF:=E.PF,mL:=fun _=>none,a6:=fun _=>0
  m:=fun j=>if j<cw.length then(match cL j with
   | some b=>E.m b
   | none=>some none) else none
  sz:=fun j=>(cw[j]?.map Blk.sz).getD 0
  cp:=fun j=>match cL j with
   | some b=>E.cp b
   | none=>0}
section
variable {E:Env} {H cw:List Blk} {cL:Nat→Option Nat}
theorem Rz {j b:Nat} (af:j<cw.length) (hs:cL j=some b):(E.own cw cL).m j=E.m b:=by
 show(if j<cw.length then _ else _)=_
 rw[if_pos af,hs]
theorem aes {j:Nat} (af:j<cw.length) (hs:cL j=none):(E.own cw cL).m j=some none:=by
 show(if j<cw.length then _ else _)=_
 rw[if_pos af,hs]
theorem xn {j:Nat} {x:Option Nat} (h:(E.own cw cL).m j=some x):j<cw.length∧((cL j=none∧x=none)∨ ∃b,cL j=some b∧E.m b=some x):=by
 have h:(if j<cw.length then(match cL j with
   | some b=>E.m b
   | none=>some none) else none)=some x:=h
 split at h
 ·rename_i af
  refine⟨af,?_⟩
  cases hs:cL j with
  | none=>rw[hs] at h;cases h;exact .inl ⟨rfl,rfl⟩
  | some b=>rw[hs] at h;exact .inr ⟨b,rfl,h⟩
 ·cases h
theorem hY.v1 (an:SimH E H) (cX:sf H cw cL) {a b:AV} (h:hY H cw.length cL a b) {v:Value} (hv:bQ E a v):bQ (E.own cw cL) b v:=by
 cases h with
 | int k n=>exact hv
 | bool b=>exact hv
 | str s=>exact hv
 | fD=>exact hv
 | fT=>exact hv
 | aJ rows full c8 fr hw=>
  have hv:aL E.w E.PA E.PF (.aJ rows full fr) v:=hv
  cases hv with
  | aJ eR eZ fB b3 dL hrel=>exact aL.aJ eR eZ (fun h=>fB (hw h)) b3 dL hrel
 | @ref b g n j full blk af hs hb aB=>
  have jI:=an.eG b blk hb
  have hk:cw[j]?=some cw[j]:=List.getElem?_eq_getElem af
  obtain⟨q,U,b3,_⟩:=cX.blk j b _ hk hs
  rw[hb] at U
  obtain rfl:=Option.some.inj U
  rcases(show ey E (.ref b g 0 n full) v from hv) with⟨aN,_⟩ | ⟨fO,bm⟩
  ·omega
  ·refine .inr ⟨rfl,?_⟩
   rcases bm with⟨hm,_,ad,A,cE⟩ | ⟨c,cap,hm,e,h1,h2,ay⟩
   ·exact .inl ⟨by rw[Rz af hs];exact hm,rfl,ad,A,cE⟩
   ·refine .inr ⟨c,cap,by rw[Rz af hs];exact hm,by rw[e,Nat.zero_mul,Nat.zero_mul],h1,(fun h=>by cases h),?_⟩
    show 0+cap≤(match cL j with
     | some b=>E.cp b
     | none=>0)
    rw[hs];exact ay
 | nil af hs h=>exact FW (E:=E) h hv rfl (aes af hs)
theorem aet (an:SimH E H) (bB: ∀t,E.mL t=none) (cX:sf H cw cL):SimH (E.own cw cL) cw:=by
 have hO:E.bO=E:=by
  have:E.mL=fun _=>none:=funext bB
  cases E;simp only[Env.bO] at*;subst this;rfl
 have pj: ∀c,(E.own cw cL).fl c→E.fl c:=fun c ⟨j,af⟩=>by
  obtain⟨_,h | ⟨b,_,h⟩⟩:=xn af
  ·cases h.2
  ·exact⟨b,h⟩
 exact{
  heap:=fun j c hm=>by
   obtain⟨af,h | ⟨b,hs,hb⟩⟩:=xn hm
   ·cases h.2
   ·have hk:cw[j]?=some cw[j]:=List.getElem?_eq_getElem af
    obtain⟨q,U,b3,ai⟩:=cX.blk j b _ hk hs
    obtain⟨blk,aj,ty,q1,bU,q2,q3,q4,cP,cF⟩:=an.heap b c hb
    rw[U] at q1
    obtain rfl:=Option.some.inj q1
    have ax:(E.own cw cL).sz j=E.sz b:=by
     show(cw[j]?.map Blk.sz).getD 0=_
     rw[hk,bU,b3];rfl
    have e2:(E.own cw cL).cp j=E.cp b:=by
     show(match cL j with
      | some b=>E.cp b
      | none=>0)=_
     rw[hs]
    refine⟨_,aj,ty,hk,by rw[ax,bU,b3],q2,by rw[ax,e2];exact q3,by rw[e2,←ai.1];exact q4,fun i row eK=> ?_,fun i l row a eK ap=> ?_⟩
    ·have aN:=(List.getElem?_eq_some_iff.1 eK).1
     have h1:q.rows[i]?=some (q.rows[i]'(by rw[ai.1];exact aN)):=List.getElem?_eq_getElem _
     rw[ax,←(ai.2 i _ row h1 eK).1];exact cP i _ h1
    ·have aN:=(List.getElem?_eq_some_iff.1 eK).1
     have h1:q.rows[i]?=some (q.rows[i]'(by rw[ai.1];exact aN)):=List.getElem?_eq_getElem _
     have ab:=ai.2 i _ row h1 eK
     have Zk:=(List.getElem?_eq_some_iff.1 ap).1
     have h2:=List.getElem?_eq_getElem (l:=q.rows[i]'(by rw[ai.1];exact aN)) (i:=l) (by rw[ab.1];exact Zk)
     obtain⟨u,hu,hv⟩:=cF i l _ _ h1 h2
     rw[hO] at hv
     exact⟨u,by rw[ax];exact hu,(ab.2 l _ a h2 ap).v1 an cX hv⟩
  eG:=fun j k hk=>(cX.a6 j k hk).symm
  gO:=fun j hm=>by
   obtain⟨af,_⟩:=xn hm
   have hk:cw[j]?=some cw[j]:=List.getElem?_eq_getElem af
   exact⟨_,hk,by show(cw[j]?.map Blk.sz).getD 0=_;rw[hk];rfl⟩
  fresh:=fun j af=>⟨by show(if j<cw.length then _ else _)=_;rw[if_neg (by omega)],rfl⟩
  gD:=fun i j c h1 h2=>by
   obtain⟨hi,h | ⟨b,hs,hb⟩⟩:=xn h1
   ·cases h.2
   ·obtain⟨af,h | ⟨bH,nE,dV⟩⟩:=xn h2
    ·cases h.2
    ·have:=an.gD b bH c hb dV
     subst this
     exact cX.inj i j b hi af hs nE
  iZ:=fun t hr c h=>by cases h
  gl:=fun b t c _ h=>by cases h
  hl:=fun c hc h=>an.hl c hc (pj c h)
  hR:=fun c hc ⟨t,h⟩=>by cases h
  dm:=an.dm
  fg:=an.fg
  du:=an.du
  fm:=fun c h=>an.fm c (pj c h)
  gb:=fun c ⟨t,h⟩=>by cases h}
end
theorem dg.toOwn {P:Program} {f:FuncId} {args:List AV} {eA:AV} {cw:List Blk} (h:dg P f args [] fun r H=> ∃cL,sf H cw cL∧EO H cw.length cL r eA):dg P f args [] fun r H=>r=eA∧H=cw:=by
 refine⟨h.1,fun E vs ad hs ap=>(h.2 E vs ad hs ap).mono ?_⟩
 rintro e w' ⟨r,v,H',E',rfl,⟨cL,cX,ze⟩,rfl,Zl,nE,hv,aQ⟩
 refine⟨eA,v,cw,E'.own cw cL,rfl,⟨rfl,rfl⟩,rfl,fun _=>rfl,aet nE Zl cX,?_,?_⟩
 ·rcases ze with⟨l,eN,rfl,rfl,ab⟩ | ze
  ·obtain⟨et,rfl,U⟩:=(show ∃et:List Value,v= .agg et.toArray∧az (bQ E') l et from hv)
   refine⟨et,rfl,ab.1▸U.1,fun i a u ap hu=> ?_⟩
   have aN:i<l.length:=by rw[ab.1];exact(List.getElem?_eq_some_iff.1 ap).1
   have h1:=List.getElem?_eq_getElem aN
   exact(ab.2 i _ a h1 ap).v1 nE cX (U.2 i _ u h1 hu)
  ·have kq:bQ E' r v:=by
    rw[n7,n6] at hv
    ·exact hv
    ·rintro l rfl;cases ze with
     | nil af hs hx=>exact absurd hx Bool.false_ne_true
    ·rintro l rfl;cases ze with
     | nil af hs hx=>exact absurd hx Bool.false_ne_true
   exact pR (jD (ze.v1 nE cX kq))
 ·have pj: ∀c,(E'.own cw cL).fl c→E'.fl c:=fun c ⟨j,af⟩=>by
   obtain⟨_,h | ⟨b,_,h⟩⟩:=xn af
   ·cases h.2
   ·exact⟨b,h⟩
  exact{
   le:=⟨aQ.le.fp,aQ.le.e6,aQ.le.tr,aQ.le.wf,fun b=>by rw[(hs.fresh b (Nat.zero_le _)).2];exact Nat.zero_le _,(fun b x hm _=>by rw[(hs.fresh b (Nat.zero_le _)).1] at hm;cases hm),(fun t c hm=>by rw[ad t] at hm;cases hm)⟩
   os:=aQ.os,tape:=aQ.tape,output:=aQ.output,size:=aQ.size,cM:=aQ.cM
   iB:=fun b c hb=>(aQ.oj c (pj c ⟨b,hb⟩)).elim (fun⟨j,af⟩=>by rw[(hs.fresh j (Nat.zero_le _)).1] at af;cases af) .inr
   iY:=fun c ⟨t,h⟩=>by cases h
   fp:=aQ.fp,e6:=aQ.e6}
theorem sf.nil {H:List Blk} {cL:Nat→Option Nat}:sf H [] cL:=⟨fun i j b h=>by simp at h,fun j k h=>by simp at h,fun j b k h=>by simp at h⟩
def oD (l:List (Option Nat)) (j:Nat):Option Nat:=(l[j]?).getD none
def ER (H:List Blk) (bM:Nat) (cL:Nat→Option Nat) (k:Blk):Option Nat→Prop
 | none=>True
 | some b=> ∃q,H[b]?=some q∧q.sz=k.sz∧az (az (hY H bM cL)) q.rows k.rows
def yt (H:List Blk) (bM:Nat) (cL:Nat→Option Nat):List (Option Nat)→List Blk→Prop
 | [],[]=>True
 | o::l,k::cw=>k.a6=0∧ER H bM cL k o∧yt H bM cL l cw
 | _,_=>False
theorem yt.get {H:List Blk} {bM:Nat} {cL:Nat→Option Nat}: ∀{l:List (Option Nat)} {cw:List Blk},yt H bM cL l cw→ ∀(j:Nat) (k:Blk),cw[j]?=some k→ ∃o,l[j]?=some o∧k.a6=0∧ER H bM cL k o
 | [],[],_,j,k,h=>by simp at h
 | o::l,q::cw,ap,0,k,h=>by simp at h;subst h;exact⟨o,rfl,ap.1,ap.2.1⟩
 | o::l,q::cw,ap,j+1,k,h=>by
  obtain⟨x,hx,h2⟩:=yt.get ap.2.2 j k (by simpa using h)
  exact⟨x,by simpa using hx,h2⟩
theorem qq {H cw:List Blk} (l:List (Option Nat)) (ao:l.length=cw.length) (aO:(l.filterMap id).Nodup) (h:yt H cw.length (oD l) l cw):sf H cw (oD l) where
 inj:=fun i j b hi af h1 h2=>by
  have f_:i<l.length:=by omega
  have iy:j<l.length:=by omega
  have ax:l[i]=some b:=by have:(l[i]?).getD none=some b:=h1;rwa [List.getElem?_eq_getElem f_] at this
  have e2:l[j]=some b:=by have:(l[j]?).getD none=some b:=h2;rwa [List.getElem?_eq_getElem iy] at this
  rcases Nat.lt_trichotomy i j with aN | rfl | oh
  ·exfalso
   have ab:=List.pairwise_filterMap.1 aO
   exact(List.pairwise_iff_getElem.1 ab i j f_ iy aN) b (by simpa using ax) b (by simpa using e2) rfl
  ·rfl
  ·exfalso
   have ab:=List.pairwise_filterMap.1 aO
   exact(List.pairwise_iff_getElem.1 ab j i iy f_ oh) b (by simpa using e2) b (by simpa using ax) rfl
 a6:=fun j k hk=>by obtain⟨o,_,h1,_⟩:=h.get j k hk;exact h1
 blk:=fun j b k hk hs=>by
  obtain⟨o,ar,_,h2⟩:=h.get j k hk
  have:o=some b:=by have hs:(l[j]?).getD none=some b:=hs;rw[ar] at hs;exact hs
  subst this
  exact h2
theorem nU {H:List Blk} {bM:Nat} {cL:Nat→Option Nat} {α:Type} {enc:α→List AV} {b g sz:Nat} {xs ys:List α} (hb:H[b]?=some ⟨g,sz,List.map enc xs⟩) (hc: ∀x,az (hY H bM cL) (enc x) (enc x)) (e:xs=ys):
  ER H bM cL ⟨0,sz,List.map enc ys⟩ (some b):=by
 subst e
 refine⟨_,hb,rfl,rfl,fun i r DK h1 h2=> ?_⟩
 rw[List.getElem?_map] at h1 h2
 cases hx:xs[i]? with
 | none=>rw[hx] at h1;cases h1
 | some x=>rw[hx] at h1 h2;cases h1;cases h2;exact hc x
section
variable {H:List Blk} {bM:Nat} {cL:Nat→Option Nat}
theorem uV (b:Bool):az (hY H bM cL) (aX b) (aX b):= .cons (.bool _) .nil
theorem Rn (x:cR):az (hY H bM cL) (dE x) (dE x):= .cons (.int _ _) (.cons (.int _ _) .nil)
theorem Dm (x:dy):az (hY H bM cL) (bE x) (bE x):= .cons (.int _ _) (.cons (.int _ _) .nil)
theorem I6 {k:IntKind} {a b:Int} (h:a=b):hY H bM cL (.int k a) (.int k b):=h▸ .int k a
theorem aem {a b:Bool} (h:a=b):hY H bM cL (.bool a) (.bool b):=h▸ .bool a
theorem uX {b g n m j sz:Nat} {full:Bool} {rows:List (List AV)} (af:j<bM) (hs:cL j=some b) (hb:H[b]?=some ⟨g,sz,rows⟩) (ad:n=m):hY H bM cL (.ref b g 0 n full) (.ref j 0 0 m false):=ad▸ .ref af hs hb rfl
theorem I7 {a:AV} {j m:Nat} (af:j<bM) (hs:cL j=none) (h:rC a=true) (hm:0=m):hY H bM cL a (.ref j 0 0 m false):=hm▸ .nil af hs h
end
theorem uY {α:Type} {enc:α→List AV} {g sz:Nat} {xs:List α} {H:List Blk} (h1: ∀x,(enc x).all pw=true) (h2:s5 H=true):s5 (⟨g,sz,List.map enc xs⟩::H)=true:=by
 show(((List.map enc xs).all fun row=>row.all pw)&&H.all fun b=>b.rows.all fun row=>row.all pw)=true
 rw[Bool.and_eq_true]
 refine⟨?_,h2⟩
 rw[List.all_eq_true]
 intro row ai
 obtain⟨x,_,rfl⟩:=List.mem_map.1 ai
 exact h1 x
theorem vi {α:Type} {enc:α→List AV} {k g sz:Nat} {xs:List α} {H H':List Blk} (h1: ∀x,(enc x).map (jV k)=enc x) (h2:H.map (kB k)=H'):(Blk.mk g sz (List.map enc xs)::H).map (kB k)=⟨g,sz,List.map enc xs⟩::H':=by
 subst h2
 show(⟨g,sz,(List.map enc xs).map fun row=>row.map (jV k)⟩:Blk)::_=_
 rw[List.map_map]
 congr 2
 exact List.map_congr_left fun x _=>h1 x
theorem xO {k:Nat} {H cw H1 l0:List Blk} (h:cw.map (kB k)=H1) (e:H++H1=l0):H++cw.map (kB k)=l0:=by rw[h,e]
def Env.at (W:World):Env:={w:=W,PA:=fun c=>c<W.heap.size,PF:=fun _=>False,m:=fun _=>none,a6:=fun _=>0,sz:=fun _=>0,cp:=fun _=>0,mL:=fun _=>none}
theorem EY (W:World):SimH (Env.at W) [] where
 heap:=fun b c hb=>by cases hb
 eG:=fun b blk hb=>by simp at hb
 gO:=fun b hb=>by cases hb
 fresh:=fun b _=>⟨rfl,rfl⟩
 gD:=fun b bH c hb=>by cases hb
 iZ:=fun t hr c hb=>by cases hb
 gl:=fun b t c hb=>by cases hb
 hl:=fun c _ ⟨b,hb⟩=>by cases hb
 hR:=fun c _ ⟨b,hb⟩=>by cases hb
 dm:=fun c hc=>hc.elim
 fg:=fun c hc=>hc.elim
 du:=fun c hc=>hc
 fm:=fun c ⟨b,hb⟩=>by cases hb
 gb:=fun c ⟨b,hb⟩=>by cases hb
theorem abF {P:Program} {f:FuncId} {cu:List AV} {W:World} {vs:List Value} (h:aZ P f cu (.bool true)) (ap:az (V2 (Env.at W)) cu vs):
  Calls P f vs.toArray W fun e LF=>e= .returned (.bool true)∧RowKit.Below W.heap.size W LF:=by
 refine(h.2 (Env.at W) vs (fun _=>rfl) (EY W) ap).mono ?_
 rintro e w' ⟨r,v,H',E',rfl,ai,rfl,ad,hs,hv,aQ⟩
 have hb:r= .bool true:=by
  rcases ai with⟨l,eN,_,e,_⟩ | ⟨l,eN,_,e,_⟩ | ai
  ·cases e
  ·cases e
  ·cases ai;rfl
 subst hb
 refine⟨by rw[V3.nn hv],aQ.os,aQ.tape,aQ.output,aQ.size,fun k hk=>aQ.cM k hk (fun⟨b,hb⟩=>by cases hb) (fun⟨b,hb⟩=>by cases hb)⟩
def EP (W:World):AV→Value→Prop:=aL W (fun c=>c<W.heap.size) (fun _=>False)
def fY (P:Program) (W:World) (t:TypeId) {α:Type} (enc:α→List AV):Prop:=
 ∀{H:Type} (j5:TypeId×Value→H) (iU:Nat) (aj:List Value) (x:DataW H×List MemPlace),DataW.trod j5 P W 0 (fun _=>true) true iU t aj=some x→(∀n∈x.1.weights P t,n≤reachBytes)→ ∃y:α,az (EP W) (enc y) aj
section
variable {P:Program} {W:World}
theorem mm {t:TypeId} {k:IntKind} (hu:P.underlying t=some (.int k)):fY P W t (fun n:Int=>[.int k n]):=fun j5 iU aj x h _=>by
 obtain⟨n,rfl,_⟩:=DataW.trod_int hu h
 exact⟨n,.cons (.int _ _) .nil⟩
theorem Ag {t:TypeId} (hu:P.underlying t=some .bool):fY P W t aX:=fun j5 iU aj x h _=>by
 obtain⟨n,rfl,_⟩:=DataW.trod_bool hu h
 exact⟨n,.cons (.bool _) .nil⟩
theorem adp {α:Type} (n:Nat) (φ:Nat→α→Prop) (h: ∀i,i<n→ ∃y,φ i y): ∃ys:List α,ys.length=n∧ ∀(i:Nat) (y:α),ys[i]?=some y→φ i y:=by
 induction n with
 | zero=>exact⟨[],rfl,fun i y h=>by simp at h⟩
 | succ n bn=>
  obtain⟨ys,ao,aS⟩:=bn fun i hi=>h i (by omega)
  obtain⟨z,av⟩:=h n (by omega)
  refine⟨ys++[z],by simp[ao],fun i y hi=> ?_⟩
  rcases Nat.lt_or_ge i n with aN | fO
  ·rw[List.getElem?_append_left (by omega)] at hi
   exact aS i y hi
  ·rw[List.getElem?_append_right (by omega)] at hi
   rcases Nat.eq_or_lt_of_le fO with rfl | oh
   ·rw[ao,Nat.sub_self] at hi
    cases hi;exact av
   ·rw[List.getElem?_eq_none (by simp;omega)] at hi
    cases hi
theorem QW {α β:Type} {f:α→Option β}: ∀{l:List α} {r:List β},l.mapM f=some r→r.length=l.length∧ ∀(i:Nat) (a:α),l[i]?=some a→f a=r[i]?
 | [],r,h=>by simp at h;subst h;exact⟨rfl,fun i a h=>by simp at h⟩
 | x::l,r,h=>by
  rw[List.mapM_cons] at h
  simp only[bind,Option.bind_eq_some_iff,pure,Option.some.injEq] at h
  obtain⟨b,hb,DK,ai,rfl⟩:=h
  obtain⟨h1,h2⟩:=QW ai
  refine⟨by simp[h1],fun i a ap=> ?_⟩
  cases i with
  | zero=>simp at ap;subst ap;simpa using hb
  | succ i=>exact h2 i a (by simpa using ap)
theorem Wi {a:Addr} {n:Nat} {l:List Value} (h:W.cells? 0 a n=some l):l.length=n∧ ∀j,j<n→W.cell? (a.add j)=l[j]?:=by
 unfold World.cells? at h
 rw[if_pos (Nat.zero_le _)] at h
 obtain⟨ao,aB⟩:=QW h
 rw[List.length_range] at ao
 exact⟨ao,fun j af=>aB j j (List.getElem?_range af)⟩
theorem ahv {a:Addr} {v:Value} (h:W.cell? a=some v):a.spot=none∧a.block<W.heap.size:=by
 unfold World.cell? at h
 split at h
 ·rename_i c _ _ hb
  split at h
  ·cases h
  ·rename_i hs
   refine⟨by cases U:a.spot<;>simp_all,?_⟩
   rcases Nat.lt_or_ge a.block W.heap.size with h1 | h1
   ·exact h1
   ·rw[Array.getElem?_eq_none h1] at hb;cases hb
 ·cases h
theorem add_add (c o x y:Nat):((⟨c,o,none⟩:Addr).add x).add y=⟨c,o+(x+y),none⟩:=by
 rw[nl,nl,Nat.add_assoc]
theorem nM {t e:TypeId} {α:Type} {enc:α→List AV} (hu:P.underlying t=some (.slice e)) (hb:1≤P.bytesOf e) (av:1≤P.cellsOf e) (hc: ∀x,(enc x).length=P.cellsOf e) (h:fY P W e enc):fY P W t (fM enc false):=by
 intro H j5 iU aj x a_ hw
 rcases DataW.trod_slice hu a_ with⟨rfl,rfl⟩ | ⟨a,len,cap,wi,rest,n,_,rfl,rfl,_,ao,_,hlen,t_,_,_⟩
 ·refine⟨[],.cons ?_ .nil⟩
  exact aL.aJ (rows:=[]) (PB:=fun _=>False) (sz:=0) (vs:=fun _ _=>undef) (fun _ h=>h.elim) ⟨Nat.le_refl _,Nat.zero_le _⟩ (fun h=>by cases h) (fun i row h=>by simp at h) (fun h=>by simp at h) (fun i j row a h=>by simp at h)
 ·have wW:(wi.length+rest.length)*P.bytesOf e≤reachBytes:=by
   have:=hw ((wi.length+rest.length)*P.bytesOf e) (by simp[DataW.weights,hu])
   simpa using this
  have ij:len≤4611686018427387904:=by
   have h1:wi.length+rest.length≤(wi.length+rest.length)*P.bytesOf e:=Nat.le_mul_of_pos_right _ hb
   have h2:=reachBytes_lt
   have ay:(2:Nat) ^ 47=140737488355328:=rfl
   omega
  have dU: ∀(l:List (DataW H)) (d:DataW H),d∈l→ ∀m∈d.weights P e,m∈DataW.weightsAll P e l:=by
   intro l
   induction l with
   | nil=>intro d aO;cases aO
   | cons q l bn=>
    intro d aO m hm
    simp only[DataW.weightsAll,List.mem_append]
    rcases List.mem_cons.1 aO with rfl | aO
    ·exact .inl hm
    ·exact .inr (bn d aO m hm)
  obtain⟨ys,CL,aS⟩:=adp len (fun i y=> ∃l,W.cells? 0 (a.add (i*P.cellsOf e)) (P.cellsOf e)=some l∧az (EP W) (enc y) l) fun i hi=>by
   have h1:=t_ i hi
   have h2:wi[i]?=some (wi[i]'(by omega)):=List.getElem?_eq_getElem _
   rw[h2,Option.bind_eq_some_iff] at h1
   obtain⟨l,o_,ZT⟩:=h1
   obtain⟨y,aS⟩:=h j5 n l _ ZT fun m hm=>hw m (by
    simp only[DataW.weights,hu,List.mem_cons,List.mem_append]
    exact .inr (.inl (dU _ _ (List.mem_map.2 ⟨_,List.getElem_mem (by omega),rfl⟩) m hm)))
   exact⟨y,l,o_,aS⟩
  have gC: ∀i j,i<len→j<P.cellsOf e→ ∃l v,W.cells? 0 (a.add (i*P.cellsOf e)) (P.cellsOf e)=some l∧l[j]?=some v∧W.cell? ((a.add (i*P.cellsOf e)).add j)=some v:=fun i j hi af=>by
   obtain⟨l,pe,_⟩:=aS i _ (List.getElem?_eq_getElem (by omega))
   obtain⟨q1,q2⟩:=Wi pe
   exact⟨l,l[j]'(by omega),pe,List.getElem?_eq_getElem _,by rw[q2 j af];exact List.getElem?_eq_getElem _⟩
  let vs:Nat→Nat→Value:=fun i j=>(((W.cells? 0 (a.add (i*P.cellsOf e)) (P.cellsOf e)).getD [])[j]?).getD undef
  refine⟨ys,.cons ?_ .nil⟩
  have key:=aL.aJ (w:=W) (PA:=fun c=>c<W.heap.size) (PF:=fun _=>False) (PB:=fun c=>c<W.heap.size) (rows:=List.map enc ys) (full:=false) (fresh:=false) (A:=some a) (cap:=cap) (sz:=P.cellsOf e) (vs:=vs)
   (fun c hc=>by simpa using hc) (by rw[List.length_map,CL];exact⟨ao,ij⟩) (fun h=>by cases h)
   (fun i row ai=>by
    rw[List.getElem?_map] at ai
    cases U:ys[i]? with
    | none=>rw[U] at ai;cases ai
    | some y=>rw[U] at ai;cases ai;exact hc y)
   (fun kQ=>by
    rw[List.length_map,CL] at kQ
    obtain⟨l,v,_,_,hv⟩:=gC 0 0 kQ av
    rw[Nat.zero_mul] at hv
    have au:(a.add 0).add 0=a:=by simp[Addr.add]
    rw[au] at hv
    obtain⟨hs,aN⟩:=ahv hv
    obtain⟨c,o,s⟩:=a
    have hs:s=none:=hs
    subst hs
    refine⟨c,o,rfl,aN,fun i j hi af=> ?_⟩
    rw[List.length_map,CL] at hi
    obtain⟨l,v,q1,q2,q3⟩:=gC i j hi af
    rw[add_add] at q3
    rw[q3]
    show some v=some ((((W.cells? 0 _ _).getD [])[j]?).getD undef)
    rw[q1]
    show some v=some ((l[j]?).getD undef)
    rw[q2];rfl)
   (fun i j row b ai af=>by
    rw[List.getElem?_map] at ai
    cases U:ys[i]? with
    | none=>rw[U] at ai;cases ai
    | some y=>
     rw[U] at ai;cases ai
     obtain⟨l,pe,ab⟩:=aS i y U
     obtain⟨v,hv,mf⟩:=ab.get af
     show aL W _ _ b ((((W.cells? 0 _ _).getD [])[j]?).getD undef)
     rw[pe]
     show aL W _ _ b ((l[j]?).getD undef)
     rw[hv];exact mf)
  rw[List.length_map,CL] at key
  exact key
def tl (P:Program) (t:TypeId) (cz:List TypeId):Bool:=match P.underlying t with
 | some (.struct dS)=>(dS.toList.zipIdx.all fun p=>p.1.offset==p.2&&P.cellsOf p.1.type==1)&&dS.toList.map (·.type)==cz&&P.cellsOf t==cz.length
 | _=>false
theorem x5 {t:TypeId} {cz:List TypeId} (hs:tl P t cz=true) {H:Type} {j5:TypeId×Value→H} {iU:Nat} {aj:List Value} {x:DataW H×List MemPlace} (h:DataW.trod j5 P W 0 (fun _=>true) true iU t aj=some x)
  (hw: ∀n∈x.1.weights P t,n≤reachBytes):aj.length=cz.length∧ ∀(i:Nat) (u:TypeId) (v:Value),cz[i]?=some u→aj[i]?=some v→ ∃(n:Nat) (z:DataW H×List MemPlace),DataW.trod j5 P W 0 (fun _=>true) true n u [v]=some z∧ ∀m∈z.1.weights P u,m≤reachBytes:=by
 unfold tl at hs
 split at hs
 ·rename_i dS hu
  simp only[Bool.and_eq_true,beq_iff_eq] at hs
  obtain⟨⟨h1,h2⟩,ay⟩:=hs
  obtain⟨xs,n,_,rfl,ao,ph,hf⟩:=DataW.trod_struct hu h
  refine⟨by rw[ao,ay],fun i u v a_ hv=> ?_⟩
  have hi:i<dS.size:=by
   have:=(List.getElem?_eq_some_iff.1 a_).1
   rw[←h2] at this;simpa using this
  have GW:dS[i]?=some dS[i]:=Array.getElem?_eq_getElem hi
  have ZV:dS[i].type=u:=by
   have:(dS.toList.map (·.type))[i]?=some u:=by rw[h2];exact a_
   rw[List.getElem?_map,Array.getElem?_toList,GW] at this
   exact Option.some.inj this
  have CF:=List.all_eq_true.1 h1 (dS[i],i) (by rw[List.mem_zipIdx_iff_getElem?];rw[Array.getElem?_toList];exact GW)
  simp only[Bool.and_eq_true,beq_iff_eq] at CF
  have:=hf i dS[i] GW
  rw[CF.1,CF.2,ZV] at this
  have Zv:(aj.drop i).take 1=[v]:=by
   have aN:=(List.getElem?_eq_some_iff.1 hv).1
   rw[List.drop_eq_getElem_cons aN,List.take_succ_cons,List.take_zero]
   have:=(List.getElem?_eq_some_iff.1 hv).2
   rw[this]
  rw[Zv] at this
  have Og:xs[i]?=some (xs[i]'(by omega)):=List.getElem?_eq_getElem _
  rw[Og] at this
  refine⟨n,_,this,fun m hm=>hw m ?_⟩
  simp only[DataW.weights,hu]
  exact DataW.weights_mem_each (j:=i) (by rw[h2];exact a_) (by rw[List.getElem?_map,Og];rfl) m hm
 ·cases hs
theorem wb {aj:List Value} (h:aj.length=2): ∃a b,aj=[a,b]:=by
 match aj,h with
 | [a,b],_=>exact⟨a,b,rfl⟩
theorem Wf {aj:List Value} (h:aj.length=4): ∃a b c d,aj=[a,b,c,d]:=by
 match aj,h with
 | [a,b,c,d],_=>exact⟨a,b,c,d,rfl⟩
theorem Fk {aj:List Value} (h:aj.length=5): ∃a b c d e,aj=[a,b,c,d,e]:=by
 match aj,h with
 | [a,b,c,d,e],_=>exact⟨a,b,c,d,e,rfl⟩
theorem jc {α:Type} {u:TypeId} {enc:α→List AV} {f:α→AV} (he: ∀y,enc y=[f y]) (h:fY P W u enc) {H:Type} {j5:TypeId×Value→H} {n:Nat} {v:Value} {z:DataW H×List MemPlace} (a_:DataW.trod j5 P W 0 (fun _=>true) true n u [v]=some z)
  (hw: ∀m∈z.1.weights P u,m≤reachBytes): ∃y,EP W (f y) v:=by
 obtain⟨y,aS⟩:=h j5 n [v] z a_ hw
 rw[he] at aS
 exact⟨y,aS.head⟩
theorem Rs {t a b:TypeId} (hs:tl P t [a,b]=true) (ap:fY P W a cs) (hb:fY P W b cs):fY P W t dE:=fun j5 iU aj x h hw=>by
 obtain⟨ao,hc⟩:=x5 hs h hw
 obtain⟨bj,bc,rfl⟩:=wb ao
 obtain⟨bM,z0,bU,aD⟩:=hc 0 a bj rfl rfl
 obtain⟨cb,kj,q1,bi⟩:=hc 1 b bc rfl rfl
 obtain⟨dQ,eA⟩:=jc (fun _=>rfl) ap bU aD
 obtain⟨dI,cN⟩:=jc (fun _=>rfl) hb q1 bi
 exact⟨⟨dQ,dI⟩,.cons eA (.cons cN .nil)⟩
theorem aek {t a b:TypeId} (hs:tl P t [a,b]=true) (ap:fY P W a cs) (hb:fY P W b cs):fY P W t bE:=fun j5 iU aj x h hw=>by
 obtain⟨ao,hc⟩:=x5 hs h hw
 obtain⟨bj,bc,rfl⟩:=wb ao
 obtain⟨bM,z0,bU,aD⟩:=hc 0 a bj rfl rfl
 obtain⟨cb,kj,q1,bi⟩:=hc 1 b bc rfl rfl
 obtain⟨dQ,eA⟩:=jc (fun _=>rfl) ap bU aD
 obtain⟨dI,cN⟩:=jc (fun _=>rfl) hb q1 bi
 exact⟨⟨dQ,dI⟩,.cons eA (.cons cN .nil)⟩
theorem ael {t a b c d e:TypeId} (hs:tl P t [a,b,c,d,e]=true) (ap:fY P W a (fM cs false)) (hb:fY P W b (fM dE false)) (tZ:fY P W c (fM dE false)) (aO:fY P W d (fM cs false)) (he:fY P W e (fM cs false)):fY P W t (ej false):=fun j5 iU aj x h hw=>by
 obtain⟨ao,hc⟩:=x5 hs h hw
 obtain⟨bj,bc,a8,hZ,kJ,rfl⟩:=Fk ao
 obtain⟨bM,z0,bU,aD⟩:=hc 0 a bj rfl rfl
 obtain⟨cb,kj,q1,bi⟩:=hc 1 b bc rfl rfl
 obtain⟨n2,z2,q2,bA⟩:=hc 2 c a8 rfl rfl
 obtain⟨li,z3,q3,cO⟩:=hc 3 d hZ rfl rfl
 obtain⟨Dd,z4,q4,jh⟩:=hc 4 e kJ rfl rfl
 obtain⟨dQ,eA⟩:=jc (fun _=>rfl) ap bU aD
 obtain⟨dI,cN⟩:=jc (fun _=>rfl) hb q1 bi
 obtain⟨eC,c5⟩:=jc (fun _=>rfl) tZ q2 bA
 obtain⟨vB,fs⟩:=jc (fun _=>rfl) aO q3 cO
 obtain⟨A6,nT⟩:=jc (fun _=>rfl) he q4 jh
 exact⟨⟨dQ,dI,eC,vB,A6⟩,.cons eA (.cons cN (.cons c5 (.cons fs (.cons nT .nil))))⟩
theorem aej {t a b c d e:TypeId} (hs:tl P t [a,b,c,d,e]=true) (ap:fY P W a cs) (hb:fY P W b (fM cs false)) (tZ:fY P W c (fM (ej false) false)) (aO:fY P W d (fM (fM aX false) false)) (he:fY P W e cs):fY P W t (bV false):=fun j5 iU aj x h hw=>by
 obtain⟨ao,hc⟩:=x5 hs h hw
 obtain⟨bj,bc,a8,hZ,kJ,rfl⟩:=Fk ao
 obtain⟨bM,z0,bU,aD⟩:=hc 0 a bj rfl rfl
 obtain⟨cb,kj,q1,bi⟩:=hc 1 b bc rfl rfl
 obtain⟨n2,z2,q2,bA⟩:=hc 2 c a8 rfl rfl
 obtain⟨li,z3,q3,cO⟩:=hc 3 d hZ rfl rfl
 obtain⟨Dd,z4,q4,jh⟩:=hc 4 e kJ rfl rfl
 obtain⟨dQ,eA⟩:=jc (fun _=>rfl) ap bU aD
 obtain⟨dI,cN⟩:=jc (fun _=>rfl) hb q1 bi
 obtain⟨eC,c5⟩:=jc (fun _=>rfl) tZ q2 bA
 obtain⟨vB,fs⟩:=jc (fun _=>rfl) aO q3 cO
 obtain⟨A6,nT⟩:=jc (fun _=>rfl) he q4 jh
 exact⟨⟨dQ,dI,eC,vB,A6⟩,.cons eA (.cons cN (.cons c5 (.cons fs (.cons nT .nil))))⟩
theorem aei {t a b c d e:TypeId} (hs:tl P t [a,b,c,d,e]=true) (ap:fY P W a cs) (hb:fY P W b cs) (tZ:fY P W c (fM aX false)) (aO:fY P W d aX) (he:fY P W e cs):fY P W t (ec false):=fun j5 iU aj x h hw=>by
 obtain⟨ao,hc⟩:=x5 hs h hw
 obtain⟨bj,bc,a8,hZ,kJ,rfl⟩:=Fk ao
 obtain⟨bM,z0,bU,aD⟩:=hc 0 a bj rfl rfl
 obtain⟨cb,kj,q1,bi⟩:=hc 1 b bc rfl rfl
 obtain⟨n2,z2,q2,bA⟩:=hc 2 c a8 rfl rfl
 obtain⟨li,z3,q3,cO⟩:=hc 3 d hZ rfl rfl
 obtain⟨Dd,z4,q4,jh⟩:=hc 4 e kJ rfl rfl
 obtain⟨dQ,eA⟩:=jc (fun _=>rfl) ap bU aD
 obtain⟨dI,cN⟩:=jc (fun _=>rfl) hb q1 bi
 obtain⟨eC,c5⟩:=jc (fun _=>rfl) tZ q2 bA
 obtain⟨vB,fs⟩:=jc (fun _=>rfl) aO q3 cO
 obtain⟨A6,nT⟩:=jc (fun _=>rfl) he q4 jh
 exact⟨⟨dQ,dI,eC,vB,A6⟩,.cons eA (.cons cN (.cons c5 (.cons fs (.cons nT .nil))))⟩
theorem aeh {t a b c d:TypeId} (hs:tl P t [a,b,c,d]=true) (ap:fY P W a aX) (hb:fY P W b (fM aX false)) (tZ:fY P W c (fM bE false)) (aO:fY P W d (fM (ec false) false)):fY P W t (cg false):=fun j5 iU aj x h hw=>by
 obtain⟨ao,hc⟩:=x5 hs h hw
 obtain⟨bj,bc,a8,hZ,rfl⟩:=Wf ao
 obtain⟨bM,z0,bU,aD⟩:=hc 0 a bj rfl rfl
 obtain⟨cb,kj,q1,bi⟩:=hc 1 b bc rfl rfl
 obtain⟨n2,z2,q2,bA⟩:=hc 2 c a8 rfl rfl
 obtain⟨li,z3,q3,cO⟩:=hc 3 d hZ rfl rfl
 obtain⟨dQ,eA⟩:=jc (fun _=>rfl) ap bU aD
 obtain⟨dI,cN⟩:=jc (fun _=>rfl) hb q1 bi
 obtain⟨eC,c5⟩:=jc (fun _=>rfl) tZ q2 bA
 obtain⟨vB,fs⟩:=jc (fun _=>rfl) aO q3 cO
 exact⟨⟨dQ,dI,eC,vB⟩,.cons eA (.cons cN (.cons c5 (.cons fs .nil)))⟩
theorem LQ {t:TypeId} {α:Type} {enc:α→List AV} {k:Nat} (h:fY P W t enc) (hk:2≤k) (hc: ∀y,(enc y).length=k) {H:Type} {j5:TypeId×Value→H} {v:Value} {d:DataW H} {ps:List MemPlace} (a_:DataW.Trod j5 P W 0 (fun _=>true) true t v d ps)
  (hw: ∀n∈d.weights P t,n≤reachBytes): ∃y,V2 (Env.at W) (.agg (enc y)) v:=by
 obtain⟨iU,hf⟩:=a_
 obtain⟨y,ab⟩:=h j5 iU _ _ hf hw
 have ao:=ab.1
 rw[hc] at ao
 have hv:v= .agg v.cells:=by
  cases v<;>first | rfl | (simp[Value.cells] at ao;omega)
 refine⟨y,v.cells.toList,by rw[Array.toArray_toList];exact hv,ab.mono fun a u ai=>aL.v1 (E:=Env.at W) ai⟩
end
def Pz (P:Program) (fn:Func) (c:OpenClaim):Bool:=c.kinds==(if c.domain.isEmpty then[] else fn.params.toList.map fun t=>match P.underlying t with | some (.int k)=>some k | _=>none)
theorem abw {P:Program} {f:FuncId} {fn:Func} {s:ChangeSpec} {c:OpenClaim} (au:(c.wf (OpenSpec.ofChange s))=true) (h1:laidOutB P=true) (h2:mapsRowed P=true) (ay:fn.params.all (P.readableRec ·)=true) (bg:namedTie P c.named s.vars=true) (cW:(c.stops==[])=true) (e1:(P.stops==[])=true) (l9:(c.knobs==[])=true) (qZ:(P.stopKnobs==[])=true) (tQ:(c.inPlace==P.inPlace f)=true) (zb:(c.unfollowed==P.unfollowed f)=true) (Yd:(c.recurses==P.recurses f)=true) (Ye:(c.named==P.varsNamed f)=true) (Yf:(c.maps==(fn.params.toList++s.plain.varTypes P).any (P.mapsRec ·))=true) (Yg:(c.ifaces==(fn.params.toList++s.plain.varTypes P).any (P.ifacesRec ·))=true) (Yh:(c.mapsOut==P.mapsAmong fn.resultTypes.toList)=true) (Yi:(c.loops==(fn.params.toList++s.plain.varTypes P).any (P.loopsFrom ·))=true) (Yj:(c.wideKeys==(fn.params.toList++s.plain.varTypes P++fn.resultTypes.toList).any (P.wideKeysFrom ·))=true) (Yk:s.vars.all (P.varReadable ·)=true) (Yl:fn.resultTypes.all (fun t=>P.readableRec t&&decide (t<P.types.size))=true) (Ym:(c.ifacesOut==fn.resultTypes.toList.any (P.ifacesRec ·))=true) (Yn:(c.loopsOut==fn.resultTypes.toList.any (P.loopsFrom ·))=true) (Yo:(c.plainKeys==P.plainKeys)=true) (Yp:c.shortTexts.isNone=true) (Yq:P.stopsHeard=true) (Yr:P.mayEnter=true) (Ys:(c.lifted==P.liftsFinal)=true) (Yt:(P.make==some c.make)=true) (Yu:Pz P fn c=true) (Yv:(c.pinned==c.pinnedBy)=true) (og:(c.veiled==(fn.params.toList++s.plain.varTypes P++fn.resultTypes.toList).any (P.veiledRec ·))=true) (Yw:c.veiledFits P fn.params.toList (fn.params.toList++s.plain.varTypes P++fn.resultTypes.toList)=true):joinedFacts P f fn s c=true:=by
 unfold joinedFacts
 simp only[Bool.and_eq_true]
 exact⟨⟨⟨⟨⟨⟨⟨⟨⟨⟨⟨⟨⟨⟨⟨⟨⟨⟨⟨⟨⟨⟨⟨⟨⟨⟨⟨⟨⟨⟨⟨au,h1⟩,h2⟩,ay⟩,bg⟩,cW⟩,e1⟩,l9⟩,qZ⟩,tQ⟩,zb⟩,Yd⟩,Ye⟩,Yf⟩,Yg⟩,Yh⟩,Yi⟩,Yj⟩,Yk⟩,Yl⟩,Ym⟩,Yn⟩,Yo⟩,Yp⟩,Yq⟩,Yr⟩,Ys⟩,Yt⟩,Yu⟩,Yv⟩,og⟩,Yw⟩
theorem ad5 {α:Type} [Inhabited α] {xs:List α} {i:Int} (h:i.toNat<xs.length):nth xs i=xs[i.toNat]:=by
 have:=gX h
 rw[List.getElem?_eq_getElem h] at this
 exact(Option.some.inj this).symm
def bK (b:List Bool):Blk:=⟨0,1,List.map aX b⟩
def lb (s:Nat) (h:aC) (id:Nat):List AV:=[.int .i64 h.aK,.int .i64 h.a1,.ref (id+s) 0 0 h.ak.length false,.bool h.cn,.int .i64 h.cx]
def bh (s:Nat) (ws:List aC) (ids:List Nat):List (List AV):=List.zipWith (lb s) ws ids
def view (ws:List aC) (ids:List Nat) (bs:List (List Bool)):List aC:=List.zipWith (fun h id=>{h with ak:=bs.getD id []}) ws ids
structure n4 (ws:List aC) (ids:List Nat) (bs:List (List Bool)):Prop where
 len:ws.length=ids.length
 lt: ∀(i id:Nat),ids[i]?=some id→id<bs.length
 ak: ∀(i id:Nat) (h:aC),ws[i]?=some h→ids[i]?=some id→h.ak.length=(bs.getD id []).length
theorem eY {s:Nat} {ws:List aC} {ids:List Nat} {i:Int} (ao:ws.length=ids.length) (hi:i.toNat<ws.length):(bh s ws ids)[i.toNat]?=some (lb s (nth ws i) (nth ids i)):=by
 unfold bh
 rw[List.getElem?_zipWith,gX hi,gX (by omega)]
theorem tS {s:Nat} {ws:List aC} {ids:List Nat} (ao:ws.length=ids.length):(bh s ws ids).length=ws.length:=by
 unfold bh;rw[List.length_zipWith];omega
theorem Cj {s:Nat} {ws:List aC} {ids:List Nat} {i:Nat} {h:aC} {id:Nat} (ao:ws.length=ids.length):(bh s ws ids).set i (lb s h id)=bh s (ws.set i h) (ids.set i id):=by
 apply List.ext_getElem?
 intro j
 unfold bh
 rw[List.getElem?_set,List.getElem?_zipWith,List.getElem?_zipWith,List.getElem?_set,List.getElem?_set]
 by_cases lB:i=j
 ·subst lB
  simp only[if_true,List.length_zipWith]
  by_cases hi:i<ws.length
  ·rw[if_pos (by omega),if_pos hi,if_pos (by omega)]
  ·rw[if_neg (by omega),if_neg hi]
 ·simp only[if_neg lB]
theorem nA {s:Nat} {ws:List aC} {ids:List Nat} {i:Int} {h:aC} (ao:ws.length=ids.length) (hi:i.toNat<ws.length):(bh s ws ids).set i.toNat (lb s h (nth ids i))=bh s (ws.set i.toNat h) ids:=by
 rw[Cj ao]
 congr 1
 rw[ad5 (by omega)]
 exact List.set_getElem_self _
theorem YH {s:Nat} {ws:List aC} {ids:List Nat} {h:aC} {id:Nat} (ao:ws.length=ids.length):bh s ws ids++[lb s h id]=bh s (ws++[h]) (ids++[id]):=by
 unfold bh
 rw[List.zipWith_append ao];rfl
theorem p1 {bs:List (List Bool)} {id:Nat} (h:id<bs.length):(List.map bK bs)[id]?=some (bK (bs.getD id [])):=by
 rw[List.getElem?_map,List.getElem?_eq_getElem h,List.getD_eq_getElem?_getD,List.getElem?_eq_getElem h];rfl
theorem Gc {bs:List (List Bool)} {id:Nat} {b:List Bool}:(List.map bK bs).set id (bK b)=List.map bK (bs.set id b):=by rw[List.map_set]
theorem yW {b:List Bool} {i:Int} (h:i.toNat<b.length):(List.map aX b)[i.toNat]?=some (aX (nth b i)):=by rw[List.getElem?_map,gX h];rfl
theorem E9 {b:List Bool} {i:Nat} {x:Bool}:(List.map aX b).set i (aX x)=List.map aX (b.set i x):=by rw[List.map_set]
theorem jz {ws:List aC} {ids:List Nat} {bs:List (List Bool)} (h:n4 ws ids bs):(view ws ids bs).length=ws.length:=by
 unfold view;rw[List.length_zipWith];have:=h.len;omega
theorem vw {ws:List aC} {ids:List Nat} {bs:List (List Bool)} {i:Nat} {h:aC} {id:Nat} (h1:ws[i]?=some h) (h2:ids[i]?=some id):(view ws ids bs)[i]?=some {h with ak:=bs.getD id []}:=by
 unfold view;rw[List.getElem?_zipWith,h1,h2]
theorem rX {s:Nat} {ws:List aC} {ids:List Nat} {i:Nat} {row:List AV} (h:(bh s ws ids)[i]?=some row): ∃x id,ws[i]?=some x∧ids[i]?=some id∧row=lb s x id:=by
 unfold bh at h
 rw[List.getElem?_zipWith] at h
 cases hx:ws[i]? with
 | none=>rw[hx] at h;cases h
 | some x=>
  cases aO:ids[i]? with
  | none=>rw[hx,aO] at h;cases h
  | some id=>rw[hx,aO] at h;cases h;exact⟨x,id,rfl,rfl,rfl⟩
theorem DX {L:List (Nat×List AV)} {H:List Blk} {b s n:Nat} {full:Bool} {ws:List aC} {ids:List Nat} {bs:List (List Bool)} (ad:n=ws.length) (hb:H[b]?=some ⟨0,5,bh s ws ids⟩)
  (hf: ∀(id:Nat) (k:Blk),(List.map bK bs)[id]?=some k→H[id+s]?=some k) (ok:n4 ws ids bs) (ij:ws.length≤4611686018427387904) (Cg: ∀x∈bs,x.length≤4611686018427387904):
  fA L H (.ref b 0 0 n full) (.aJ (List.map (ec false) (view ws ids bs)) false false):=by
 subst ad
 refine fA.ref (fun h=>by cases h) hb rfl (by rw[List.length_map,jz ok]) ij (by rw[Nat.zero_add,tS ok.len];exact Nat.le_refl _) (fun i row row' h1 h2=> ?_) (fun i j row row' a c h1 h2 ay bg=> ?_)
 ·rw[Nat.zero_add] at h1
  obtain⟨x,id,hx,aO,rfl⟩:=rX h1
  rw[List.getElem?_map,vw hx aO] at h2
  cases h2;rfl
 ·rw[Nat.zero_add] at h1
  obtain⟨x,id,hx,aO,rfl⟩:=rX h1
  rw[List.getElem?_map,vw hx aO] at h2
  cases h2
  have aN:=ok.lt i id aO
  have key:n3 L H (lb s x id) (ec false {x with ak:=bs.getD id []}):=by
   refine .cons (.int _ _) (.cons (.int _ _) (.cons ?_ (.cons (.bool _) (.cons (.int _ _) .nil))))
   have hm:bs.getD id []∈bs:=by rw[List.getD_eq_getElem?_getD,List.getElem?_eq_getElem aN];exact List.getElem_mem aN
   exact vb (eT:=aX) (eF:=aX) (sz:=1) (ok.ak i id x hx aO) (hf id _ (p1 aN)) CM (Cg _ hm)
  exact key.2 j a c ay bg
theorem ahw {H:List Blk} {b g s n:Nat} {full:Bool} {ws ys:List aC} {ids:List Nat} {bs:List (List Bool)} (ad:n=ws.length) (hb:H[b]?=some ⟨g,5,bh s ws ids⟩)
  (hf: ∀(id:Nat) (k:Blk),(List.map bK bs)[id]?=some k→H[id+s]?=some k) (h:n4 ws ids bs∧ws.length≤4611686018427387904∧(∀x∈bs,x.length≤4611686018427387904)∧view ws ids bs=ys):
  fi H (.ref b g 0 n full) (.aJ (List.map (ec false) ys) false true):=by
 obtain⟨ok,ij,Cg,rfl⟩:=h
 subst ad
 refine fi.ref (fun h=>by cases h) (fun i j=>(((view ws ids bs)[i]?).bind fun x=>(ec true x)[j]?).getD .undef) hb rfl (by rw[List.length_map,jz ok]) ij (by rw[Nat.zero_add,tS ok.len];exact Nat.le_refl _) (fun i row row' h1 h2=> ?_) (fun i j row a hi h1 h2=> ?_) (fun i j row' c h1 h2=> ?_)
 ·rw[Nat.zero_add] at h1
  obtain⟨x,id,hx,aO,rfl⟩:=rX h1
  rw[List.getElem?_map,vw hx aO] at h2
  cases h2;rfl
 ·rw[Nat.zero_add] at h1
  obtain⟨x,id,hx,aO,rfl⟩:=rX h1
  rw[vw hx aO]
  have aN:=ok.lt i id aO
  have hm:bs.getD id []∈bs:=by rw[List.getD_eq_getElem?_getD,List.getElem?_eq_getElem aN];exact List.getElem_mem aN
  show fi H a (((some ({x with ak:=bs.getD id []}:aC)).bind fun x=>(ec true x)[j]?).getD .undef)
  match j,h2 with
  | 0,h2=>cases h2;exact .int _ _
  | 1,h2=>cases h2;exact .int _ _
  | 2,h2=>
   cases h2
   exact Ef (eT:=aX) (eF:=aX) (sz:=1) (ok.ak i id x hx aO) (hf id _ (p1 aN)) Fa ⟨Cg _ hm,rfl⟩
  | 3,h2=>cases h2;exact .bool _
  | 4,h2=>cases h2;exact .int _ _
  | j+5,h2=>simp[lb] at h2
 ·rw[List.getElem?_map] at h1
  cases hv:(view ws ids bs)[i]? with
  | none=>rw[hv] at h1;cases h1
  | some x=>
   rw[hv] at h1;cases h1
   show c=h9 (((some x).bind fun x=>(ec true x)[j]?).getD .undef)
   match j,h2 with
   | 0,h2=>cases h2;rfl
   | 1,h2=>cases h2;rfl
   | 2,h2=>cases h2;rfl
   | 3,h2=>cases h2;rfl
   | 4,h2=>cases h2;rfl
   | j+5,h2=>simp[ec] at h2
theorem Weak.I1 [cl] (sz:Nat) {T:List AV} {L:List (Nat×List AV)} {H:List Blk}:Weak ⟨T,L,H⟩ ⟨T,L,H++[⟨0,sz,[]⟩]⟩:=fun b7 E tmps g s=>by
 obtain⟨E',hw,aQ,h1,h2,_⟩:=Dg (blk:=⟨0,sz,[]⟩) s.h s.l rfl rfl
 exact⟨E',hw,g.step aQ,h1,h2,fun t=>(s.hT t).le aQ.le,s.size⟩
theorem Weak.clear [cl] (j:Nat) {g sz:Nat} {rows:List (List AV)} {T:List AV} {L:List (Nat×List AV)} {H:List Blk} (af:H[j]?=some ⟨g,sz,rows⟩):Weak ⟨T,L,H⟩ ⟨T,L,H.set j ⟨g,sz,[]⟩⟩:=fun b7 E tmps X8 s=>by
 have j_:=(List.getElem?_eq_some_iff.1 af).1
 have get: ∀(b:Nat) (blk:Blk),(H.set j ⟨g,sz,[]⟩)[b]?=some blk→(b=j∧blk=⟨g,sz,[]⟩)∨(b≠j∧H[b]?=some blk):=fun b blk h=>by
  rw[List.getElem?_set] at h
  split at h
  ·rename_i e;subst e;exact .inl ⟨rfl,(Option.some.inj h).symm⟩
  ·rename_i e;exact .inr ⟨fun h=>e h.symm,h⟩
 have gQ:SimH E H:=s.h
 refine⟨E,rfl,X8,{gQ with
  heap:=fun b c hb=> ?_,eG:=fun b blk hb=> ?_,gO:=fun b hb=> ?_,fresh:=fun b hb=>gQ.fresh b (by simpa using hb)},s.l,s.hT,s.size⟩
 ·obtain⟨blk,aj,ty,q1,bU,q2,q3,q4,cP⟩:=gQ.heap b c hb
  by_cases e:b=j
  ·subst e
   rw[af] at q1
   obtain rfl:=Option.some.inj q1
   exact⟨⟨g,sz,[]⟩,aj,ty,by rw[List.getElem?_set];simp[j_],bU,q2,q3,Nat.zero_le _,fun i row h=>by simp at h,fun i j row a h=>by simp at h⟩
  ·exact⟨blk,aj,ty,by rw[List.getElem?_set,if_neg (fun h=>e h.symm)];exact q1,bU,q2,q3,q4,cP⟩
 ·rcases get b blk hb with⟨rfl,rfl⟩ | ⟨_,hb⟩
  ·exact(gQ.eG b _ af:)
  ·exact gQ.eG b blk hb
 ·obtain⟨blk,q1,bU⟩:=gQ.gO b hb
  by_cases e:b=j
  ·subst e
   rw[af] at q1
   obtain rfl:=Option.some.inj q1
   exact⟨⟨g,sz,[]⟩,by rw[List.getElem?_set];simp[j_],bU⟩
  ·exact⟨blk,by rw[List.getElem?_set,if_neg (fun h=>e h.symm)];exact q1,bU⟩
theorem afO (H:List Blk):H.map (kB 0)=H:=by
 have au: ∀a:AV,jV 0 a=a:=fun a=>by cases a<;>simp[jV]
 have:kB 0=id:=by
  funext b
  obtain⟨g,s,rows⟩:=b
  show(⟨g,s,rows.map fun row=>row.map (jV 0)⟩:Blk)=⟨g,s,rows⟩
  congr 1
  have:(fun row:List AV=>row.map (jV 0))=id:=by funext row;rw[show jV 0=id from funext au];simp
  rw[this];simp
 rw[this];simp
theorem Rx {g0 g1 g2 s:Nat} {aG:List Bool} {m3:List dy} {ws:List aC} {ids:List Nat} {bs:List (List Bool)}:s5 (⟨g0,1,List.map aX aG⟩::⟨g1,2,List.map bE m3⟩::⟨g2,5,bh s ws ids⟩::List.map bK bs)=true:=by
 refine uY (fun _=>rfl) (uY (fun _=>rfl) ?_)
 unfold s5
 rw[List.all_eq_true]
 intro b hb
 rw[List.all_eq_true]
 intro row ai
 rcases List.mem_cons.1 hb with rfl | hb
 ·obtain⟨i,hi⟩:=List.mem_iff_getElem?.1 ai
  obtain⟨x,id,_,_,rfl⟩:=rX hi
  rfl
 ·obtain⟨b,_,rfl⟩:=List.mem_map.1 hb
  obtain⟨x,_,rfl⟩:=List.mem_map.1 ai
  rfl
def vh (j:Nat):Option Nat:=if j<3 then some j else some (j+1)
theorem Ry {r:AV} {g0 g1 g2 g3 bM cb n2:Nat} {f0 f1 f2:Bool} {R:Frame} {ok:Bool} {aG:List Bool} {m3:List dy} {ws:List aC} {ids:List Nat} {bs:List (List Bool)} {rows:List (List AV)}
  (h:ok=R.ok∧aG=R.aG∧m3=R.aq∧ws=R.O∧ids=List.range ws.length∧bs=ws.map aC.ak) (au:bM=aG.length) (h1:cb=m3.length) (h2:n2=ws.length) (ai:r= .agg [.bool ok,.ref 0 g0 0 bM f0,.ref 1 g1 0 cb f1,.ref 2 g2 0 n2 f2]):
  ∃cL,sf (⟨g0,1,List.map aX aG⟩::⟨g1,2,List.map bE m3⟩::⟨g2,5,bh 4 ws ids⟩::⟨g3,5,rows⟩::List.map bK bs)
   (⟨0,1,List.map aX R.aG⟩::⟨0,2,List.map bE R.aq⟩::⟨0,5,bh 3 R.O (List.range R.O.length)⟩::List.map bK (List.map aC.ak R.O)) cL∧
   EO (⟨g0,1,List.map aX aG⟩::⟨g1,2,List.map bE m3⟩::⟨g2,5,bh 4 ws ids⟩::⟨g3,5,rows⟩::List.map bK bs)
    (⟨0,1,List.map aX R.aG⟩::⟨0,2,List.map bE R.aq⟩::⟨0,5,bh 3 R.O (List.range R.O.length)⟩::List.map bK (List.map aC.ak R.O)).length cL r
    (.agg [.bool R.ok,.ref 0 0 0 R.aG.length false,.ref 1 0 0 R.aq.length false,.ref 2 0 0 R.O.length false]):=by
 obtain⟨rfl,rfl,rfl,rfl,rfl,rfl⟩:=h
 subst au;subst h1;subst h2;subst ai
 have hlen:(⟨0,1,List.map aX R.aG⟩::⟨0,2,List.map bE R.aq⟩::⟨0,5,bh 3 R.O (List.range R.O.length)⟩::List.map bK (List.map aC.ak R.O):List Blk).length=R.O.length+3:=by simp
 refine⟨vh,⟨fun i j b hi af h1 h2=> ?_,fun j k hk=> ?_,fun j b k hk hs=> ?_⟩,.inl ⟨_,_,rfl,rfl,?_⟩⟩
 ·unfold vh at h1 h2
  split at h1<;>split at h2<;>simp at h1 h2<;>omega
 ·match j,hk with
  | 0,hk=>simp at hk;subst hk;rfl
  | 1,hk=>simp at hk;subst hk;rfl
  | 2,hk=>simp at hk;subst hk;rfl
  | j+3,hk=>simp at hk;obtain⟨x,_,rfl⟩:=hk;rfl
 ·rw[hlen]
  match j,hk,hs with
  | 0,hk,hs=>
   simp at hk;subst hk
   obtain rfl:0=b:=by simpa[vh] using hs
   exact nU (b:=0) rfl uV rfl
  | 1,hk,hs=>
   simp at hk;subst hk
   obtain rfl:1=b:=by simpa[vh] using hs
   exact nU (b:=1) rfl Dm rfl
  | 2,hk,hs=>
   simp at hk;subst hk
   obtain rfl:2=b:=by simpa[vh] using hs
   refine⟨_,rfl,rfl,⟨by rw[tS (by simp),tS (by simp)],fun i ae_ dv ap hb=> ?_⟩⟩
   obtain⟨x,id,hx,aO,rfl⟩:=rX ap
   obtain⟨kW,fk,h4,pa,rfl⟩:=rX hb
   rw[hx] at h4;cases h4
   rw[aO] at pa;cases pa
   have wH:i<R.O.length:=(List.getElem?_eq_some_iff.1 hx).1
   obtain rfl:i=id:=by rw[List.getElem?_range wH] at aO;exact Option.some.inj aO
   refine .cons (.int _ _) (.cons (.int _ _) (.cons ?_ (.cons (.bool _) (.cons (.int _ _) .nil))))
   refine hY.ref (blk:=bK x.ak) (by omega) (by simp[vh]) ?_ rfl
   show(List.map bK (List.map aC.ak R.O))[i]?=_
   rw[List.getElem?_map,List.getElem?_map,hx];rfl
  | j+3,hk,hs=>
   obtain rfl:j+4=b:=by
    unfold vh at hs
    rw[if_neg (by omega)] at hs;exact Option.some.inj hs
   have hk:(List.map bK (List.map aC.ak R.O))[j]?=some k:=by simpa using hk
   have: ∃x,k=bK x:=by
    rw[List.getElem?_map] at hk
    cases U:(List.map aC.ak R.O)[j]? with
    | none=>rw[U] at hk;cases hk
    | some x=>rw[U] at hk;cases hk;exact⟨x,rfl⟩
   obtain⟨x,rfl⟩:=this
   have hb:(⟨g0,1,List.map aX R.aG⟩::⟨g1,2,List.map bE R.aq⟩::⟨g2,5,bh 4 R.O (List.range R.O.length)⟩::⟨g3,5,rows⟩::List.map bK (List.map aC.ak R.O):List Blk)[j+4]?=some ⟨0,1,List.map aX x⟩:=hk
   exact nU (b:=j+4) hb uV rfl
 ·rw[hlen]
  exact .cons (.bool _) (.cons (.ref (by omega) rfl rfl rfl) (.cons (.ref (by omega) rfl rfl rfl) (.cons (.ref (by omega) rfl rfl rfl) .nil)))
theorem afR {k s:Nat} {ws:List aC} {ids:List Nat}:(bh s ws ids).map (fun row=>row.map (jV k))=bh (s+k) ws ids:=by
 apply List.ext_getElem?
 intro i
 unfold bh
 rw[List.getElem?_map,List.getElem?_zipWith,List.getElem?_zipWith]
 cases ws[i]? with
 | none=>rfl
 | some h=>
  cases ids[i]? with
  | none=>rfl
  | some id=>
   show some [_,_,AV.ref (k+(id+s)) 0 0 h.ak.length false,_,_]=some [_,_,AV.ref (id+(s+k)) 0 0 h.ak.length false,_,_]
   rw[show k+(id+s)=id+(s+k) by omega];rfl
theorem afP {k:Nat} {bs:List (List Bool)}:(List.map bK bs).map (kB k)=List.map bK bs:=by
 rw[List.map_map]
 refine List.map_congr_left fun b _=> ?_
 show(⟨0,1,(List.map aX b).map fun row=>row.map (jV k)⟩:Blk)=⟨0,1,_⟩
 rw[List.map_map]
 congr 1
theorem afQ {k g0 g1 g2 s:Nat} {aG:List Bool} {m3:List dy} {ws:List aC} {ids:List Nat} {bs:List (List Bool)}:
  (⟨g0,1,List.map aX aG⟩::⟨g1,2,List.map bE m3⟩::⟨g2,5,bh s ws ids⟩::List.map bK bs:List Blk).map (kB k)=⟨g0,1,List.map aX aG⟩::⟨g1,2,List.map bE m3⟩::⟨g2,5,bh (s+k) ws ids⟩::List.map bK bs:=by
 refine vi (fun _=>rfl) (vi (fun _=>rfl) ?_)
 show(⟨g2,5,(bh s ws ids).map fun row=>row.map (jV k)⟩:Blk)::(List.map bK bs).map (kB k)=_
 rw[afR,afP]
structure jj (ws:List aC) (ids:List Nat) (bs:List (List Bool)):Prop where
 ok:n4 ws ids bs
 kt: ∀i j k:Nat,ids[i]?=some k→ids[j]?=some k→i=j
 len: ∀b∈bs,b.length≤1048576
theorem y3 {bs:List (List Bool)} {b:List Bool}:List.map bK bs++[⟨0,1,List.map aX b⟩]=List.map bK (bs++[b]):=by rw[List.map_append];rfl
section
variable {P:Program} {esc:List Nat} {ops:Array Oper} {n:Nat} {X:List Oper} {i0:Nat} {A:List (Nat×AV)} {L:List (Nat×List AV)} {H:List Blk} {K:List (Nat×AV)→List (Nat×List AV)→List Blk→Prop}
theorem mu (aY:Nat) (d:Option Nat) (N:List (Nat×AV)) (rows:List (List AV)) {row:List AV} (i:Int) (t:TypeId) (c g:Nat) (v:AV) (eK:rows[i.toNat]?=some row) (h:evS P esc ops n (X.drop (i0+aY)) (dn d v N A) L H K)
  (e2: ∀K,iJ P t row c K=K v:=by intro K;kernel_rfl)
  (e: ∀K,evS P esc ops n ((X.drop i0).take aY) A L H K=(g=g∧cD rows[0+i.toNat]? fun row=>iJ P t row c fun v=>K (dn d v N A) L H):=by intro K;kernel_rfl):evS P esc ops n (X.drop i0) A L H K:=by
 rw[jG X i0 aY,e]
 exact⟨rfl,dF (a:=row) (by rw[Nat.zero_add];exact eK) (by rw[e2];exact h)⟩
theorem afF (aY:Nat) (d:Option Nat) (N:List (Nat×AV)) (rows:List (List AV)) {row row':List AV} (i:Int) (c k g:Nat) (cells:List AV) (H':List (List AV)→List Blk) (jx:List (List AV)) (eK:rows[i.toNat]?=some row) (sD:rows.set i.toNat row'=jx)
  (h:evS P esc ops n (X.drop (i0+aY)) (dn d (.tup []) N A) L (H' jx) K) (hc:Nat.ble (c+k) row.length=true:=by kernel_rfl) (hs:gf row c cells=row':=by kernel_rfl)
  (e: ∀K,evS P esc ops n ((X.drop i0).take aY) A L H K=(g=g∧cD rows[0+i.toNat]? fun row=>c+k≤row.length∧K (dn d (.tup []) N A) L (H' (rows.set (0+i.toNat) (gf row c cells)))):=by intro K;kernel_rfl):evS P esc ops n (X.drop i0) A L H K:=by
 rw[jG X i0 aY,e]
 refine⟨rfl,dF (a:=row) (by rw[Nat.zero_add];exact eK) ⟨Nat.le_of_ble_eq_true hc,?_⟩⟩
 ·rw[hs,Nat.zero_add,sD];exact h
theorem m7 (aY:Nat) (d:Option Nat) (N:List (Nat×AV)) (rows:List (List AV)) {row row':List AV} (i:Int) (c k g:Nat) (cells:List AV) (j:Nat) (jx:List (List AV)) (eK:rows[i.toNat]?=some row) (sD:rows.set i.toNat row'=jx)
  (h:evS P esc ops n (X.drop (i0+aY)) (dn d (.tup []) N A) L (ik j jx H) K) (hc:Nat.ble (c+k) row.length=true:=by kernel_rfl) (hs:gf row c cells=row':=by kernel_rfl)
  (e: ∀K,evS P esc ops n ((X.drop i0).take aY) A L H K=(g=g∧cD rows[0+i.toNat]? fun row=>c+k≤row.length∧K (dn d (.tup []) N A) L (ik j (rows.set (0+i.toNat) (gf row c cells)) H)):=by intro K;kernel_rfl):evS P esc ops n (X.drop i0) A L H K:=afF aY d N rows i c k g cells (fun r=>ik j r H) jx eK sD h hc hs e
theorem afy (aY:Nat) (d:Option Nat) (N:List (Nat×AV)) (bs:List (List Bool)) (id s:Nat) {i:Int} {m:Nat} (hid:id<bs.length) (au:0≤i∧i.toNat<m) (h:evS P esc ops n (X.drop (i0+aY)) (dn d (.ptr (id+s) 0 (0+i.toNat) 0) N A) L H K)
  (e: ∀K,evS P esc ops n ((X.drop i0).take aY) A L H K=(cD (List.map bK bs)[id]? fun blk=>blk.a6=0∧blk.sz=1∧0≤i∧i<m∧K (dn d (.ptr (id+s) 0 (0+i.toNat) 0) N A) L H):=by intro K;kernel_rfl):evS P esc ops n (X.drop i0) A L H K:=by
 rw[jG X i0 aY,e]
 exact dF (p1 hid) ⟨rfl,rfl,au.1,by have:=au.2;omega,h⟩
theorem afE (aY:Nat) (d:Option Nat) (N:List (Nat×AV)) (bs:List (List Bool)) (id:Nat) (i:Int) (x:Bool) (H':List Blk→List Blk) (hid:id<bs.length) (hi:i.toNat<(bs.getD id []).length)
  (h:evS P esc ops n (X.drop (i0+aY)) (dn d (.tup []) N A) L (H' (List.map bK (bs.set id ((bs.getD id []).set i.toNat x)))) K)
  (e: ∀K,evS P esc ops n ((X.drop i0).take aY) A L H K=(cD (List.map bK bs)[id]? fun blk=>blk.a6=0∧cD blk.rows[0+i.toNat]? fun row=>0+1≤row.length∧K (dn d (.tup []) N A) L (H' ((List.map bK bs).set id {blk with rows:=blk.rows.set (0+i.toNat) (gf row 0 [.bool x])}))):=by intro K;kernel_rfl):evS P esc ops n (X.drop i0) A L H K:=by
 rw[jG X i0 aY,e]
 have key:(List.map bK bs).set id {bK (bs.getD id []) with rows:=(bK (bs.getD id [])).rows.set (0+i.toNat) (gf (aX (nth (bs.getD id []) i)) 0 [.bool x])}=List.map bK (bs.set id ((bs.getD id []).set i.toNat x)):=by
  rw[←Gc]
  congr 1
  show(⟨0,1,(List.map aX (bs.getD id [])).set (0+i.toNat) (aX x)⟩:Blk)=⟨0,1,_⟩
  rw[Nat.zero_add,E9]
 refine dF (p1 hid) ⟨rfl,dF (a:=aX (nth (bs.getD id []) i)) (by rw[Nat.zero_add];exact yW hi) ⟨Nat.le_refl _,?_⟩⟩
 ·rw[key];exact h
theorem afG (aY:Nat) (N:List (Nat×AV)) (H':List Blk) {φ ψ:Prop} (h1:φ) (h2:ψ) (h:evS P esc ops n (X.drop (i0+aY)) (gd N A) L H' K) (e: ∀K,evS P esc ops n ((X.drop i0).take aY) A L H K=(φ∧ψ∧K (gd N A) L H'):=by intro K;kernel_rfl):evS P esc ops n (X.drop i0) A L H K:=by
 rw[jG X i0 aY,e];exact⟨h1,h2,h⟩
theorem afD (H':List Blk) (an:H=H') (h:evS P esc ops n (X.drop i0) A L H' K):evS P esc ops n (X.drop i0) A L H K:=by
 subst an;exact h
theorem JF (aY:Nat) (d:Option Nat) (N:List (Nat×AV)) {g:FuncId} (args:List AV) (Q:AV→List Blk→Prop) (hf:dg P g args H Q) (ai: ∀r H',Q r H'→xi r=true) (h: ∀r H',Q r H'→evS P esc ops n (X.drop (i0+aY)) (dn d r N A) L H' K)
  (ad:args.all en=true:=by kernel_rfl) (ao:args.all jR=true:=by kernel_rfl) (e: ∀K,evS P esc ops n ((X.drop i0).take aY) A L H K=(kK P g args L H (fun v L' H'=>K (dn d v N A) L' H')):=by intro K;kernel_rfl):evS P esc ops n (X.drop i0) A L H K:=by
 rw[jG X i0 aY,e]
 exact .inr (.inr (.inl ⟨ad,ao,hf.mono fun r H' U=>⟨ai r H' U,h r H' U⟩⟩))
theorem afC (aY:Nat) (d:Option Nat) (N:List (Nat×AV)) {i:Int} (B:Int) (z:List AV) (m:Nat) (l0:List Blk) (au:0≤i∧B*i≤140737488355328∧i≤4611686018427387904) (ao:H.length=m) (hx:H++[⟨0,1,List.map aX (List.replicate i.toNat false)⟩]=l0)
  (h:evS P esc ops n (X.drop (i0+aY)) (dn d (.ref m 0 0 (List.replicate i.toNat false).length false) N A) L l0 K) (av:z=aX false:=by rfl)
  (e: ∀K,evS P esc ops n ((X.drop i0).take aY) A L H K=(0≤i∧i≤i∧B*i≤140737488355328∧i≤4611686018427387904∧K (dn d (.ref H.length 0 0 i.toNat false) N A) L (H++[⟨0,1,List.replicate i.toNat z⟩])):=by intro K;kernel_rfl):evS P esc ops n (X.drop i0) A L H K:=by
 rw[jG X i0 aY,e]
 subst ao;subst hx;subst av
 rw[List.length_replicate,List.map_replicate] at h
 exact⟨au.1,Int.le_refl _,au.2.1,au.2.2,h⟩
theorem afz (aY:Nat) (d:Option Nat) (N:List (Nat×AV)) (ys:List Bool) (B:Nat) (m:Nat) (l0:List Blk) (au:ys.length*B≤140737488355328∧ys.length≤4611686018427387904) (ao:H.length=m) (hx:H++[⟨0,1,List.map aX ys⟩]=l0)
  (h:evS P esc ops n (X.drop (i0+aY)) (dn d (.ref m 0 0 ys.length false) N A) L l0 K)
  (e: ∀K,evS P esc ops n ((X.drop i0).take aY) A L H K=(true=true∧true=true∧tc 1 (List.map aX ys)∧true=true∧(∀row∈([]:List (List AV)),row.length=1)∧(List.length (α:=List AV) []+(List.map aX ys).length)*B≤140737488355328∧List.length (α:=List AV) []+(List.map aX ys).length≤4611686018427387904∧(([]:List (List AV))≠[]→(List.map aX ys)≠[])∧
   K (dn d (.ref H.length 0 0 (List.length (α:=List AV) []+(List.map aX ys).length) false) N A) L (H++[⟨0,1,[]++(List.map aX ys)⟩])):=by intro K;kernel_rfl):evS P esc ops n (X.drop i0) A L H K:=by
 rw[jG X i0 aY,e]
 subst ao;subst hx
 refine⟨rfl,rfl,JA (enc:=aX) (fun _=>⟨rfl,rfl⟩) ys,rfl,(fun row h=>by cases h),by simpa using au.1,by simpa using au.2,(fun h=>absurd rfl h),?_⟩
 simpa using h
theorem Sz (aY:Nat) (d:Option Nat) (N:List (Nat×AV)) (s b g q B:Nat) (ws:List aC) (ids:List Nat) (x:aC) (id:Nat) (H':List (List AV)→List Blk) (ao:ws.length=ids.length)
  (au:(ws.length+1)*B≤140737488355328∧ws.length+1≤4611686018427387904) (h:evS P esc ops n (X.drop (i0+aY)) (dn d (.ref b (g+1) 0 (ws++[x]).length false) N A) L (H' (bh s (ws++[x]) (ids++[id]))) K)
  (e: ∀K,evS P esc ops n ((X.drop i0).take aY) A L H K=(true=true∧true=true∧(q=q∧0+1≤1∧(tc 5 [lb s x id]∧0=0∧g=g∧5=5∧(bh s ws ids).length=ws.length∧(ws.length+1)*B≤140737488355328∧ws.length+1≤4611686018427387904∧
   K (dn d (.ref b (g+1) 0 (ws.length+1) false) N A) L (H' (bh s ws ids++[lb s x id]))))):=by intro K;kernel_rfl):evS P esc ops n (X.drop i0) A L H K:=by
 rw[jG X i0 aY,e]
 refine⟨rfl,rfl,rfl,Nat.le_refl _,?_,rfl,rfl,rfl,tS ao,au.1,au.2,?_⟩
 ·intro row ai
  rw[List.mem_singleton.1 ai]
  exact⟨rfl,fun a ap=>List.all_eq_true.1 (show(lb s x id).all jg=true from rfl) a ap⟩
 ·rw[YH ao];rw[List.length_append] at h;exact h
end
section
variable {P:Program} {esc:List Nat} {ops:Array Oper} {n:Nat} {X:List Item} {i0:Nat} {A:List (Nat×AV)} {L:List (Nat×List AV)} {H:List Blk} {K:List (Nat×AV)→List (Nat×List AV)→List Blk→Prop}
theorem nY (aY:Nat) (d:Option Nat) (N:List (Nat×AV)) (rows:List (List AV)) {row:List AV} (i:Int) (t:TypeId) (c g:Nat) (v:AV) (eK:rows[i.toNat]?=some row) (h:evSD P esc ops n (X.drop (i0+aY)) (dn d v N A) L H K)
  (e2: ∀K,iJ P t row c K=K v:=by intro K;kernel_rfl)
  (e: ∀K,evSD P esc ops n ((X.drop i0).take aY) A L H K=(g=g∧cD rows[0+i.toNat]? fun row=>iJ P t row c fun v=>K (dn d v N A) L H):=by intro K;kernel_rfl):evSD P esc ops n (X.drop i0) A L H K:=by
 rw[mP X i0 aY,e]
 exact⟨rfl,dF (a:=row) (by rw[Nat.zero_add];exact eK) (by rw[e2];exact h)⟩
theorem vu (aY:Nat) (d:Option Nat) (N:List (Nat×AV)) (bs:List (List Bool)) (id s:Nat) {i:Int} {m:Nat} (hid:id<bs.length) (au:0≤i∧i.toNat<m) (h:evSD P esc ops n (X.drop (i0+aY)) (dn d (.ptr (id+s) 0 (0+i.toNat) 0) N A) L H K)
  (e: ∀K,evSD P esc ops n ((X.drop i0).take aY) A L H K=(cD (List.map bK bs)[id]? fun blk=>blk.a6=0∧blk.sz=1∧0≤i∧i<m∧K (dn d (.ptr (id+s) 0 (0+i.toNat) 0) N A) L H):=by intro K;kernel_rfl):evSD P esc ops n (X.drop i0) A L H K:=by
 rw[mP X i0 aY,e]
 exact dF (p1 hid) ⟨rfl,rfl,au.1,by have:=au.2;omega,h⟩
theorem A0 (aY:Nat) (d:Option Nat) (N:List (Nat×AV)) (bs:List (List Bool)) (id:Nat) (i:Int) (t:TypeId) (hid:id<bs.length) (hi:i.toNat<(bs.getD id []).length) (h:evSD P esc ops n (X.drop (i0+aY)) (dn d (.bool (nth (bs.getD id []) i)) N A) L H K)
  (e2: ∀x K,iJ P t (aX x) 0 K=K (.bool x):=by intro x K;kernel_rfl)
  (e: ∀K,evSD P esc ops n ((X.drop i0).take aY) A L H K=(cD (List.map bK bs)[id]? fun blk=>blk.a6=0∧cD blk.rows[0+i.toNat]? fun row=>iJ P t row 0 fun v=>K (dn d v N A) L H):=by intro K;kernel_rfl):evSD P esc ops n (X.drop i0) A L H K:=by
 rw[mP X i0 aY,e]
 refine dF (p1 hid) ⟨rfl,dF (a:=aX (nth (bs.getD id []) i)) (by rw[Nat.zero_add];exact yW hi) (by rw[e2];exact h)⟩
theorem Ui (aY:Nat) (d:Option Nat) (N:List (Nat×AV)) (bs:List (List Bool)) (id:Nat) (i:Int) (x:Bool) (F:List Blk→Prop) (H':List Blk→List Blk) (hid:id<bs.length) (hi:i.toNat<(bs.getD id []).length)
  (dK:F ((List.map bK (bs.set id ((bs.getD id []).set i.toNat x))))) (h:evSD P esc ops n (X.drop (i0+aY)) (dn d (.tup []) N A) L (H' (List.map bK (bs.set id ((bs.getD id []).set i.toNat x)))) K)
  (e: ∀K,evSD P esc ops n ((X.drop i0).take aY) A L H K=(cD (List.map bK bs)[id]? fun blk=>blk.a6=0∧cD blk.rows[0+i.toNat]? fun row=>0+1≤row.length∧F (((List.map bK bs).set id {blk with rows:=blk.rows.set (0+i.toNat) (gf row 0 [.bool x])}))∧K (dn d (.tup []) N A) L (H' ((List.map bK bs).set id {blk with rows:=blk.rows.set (0+i.toNat) (gf row 0 [.bool x])}))):=by intro K;kernel_rfl):evSD P esc ops n (X.drop i0) A L H K:=by
 rw[mP X i0 aY,e]
 have key:(List.map bK bs).set id {bK (bs.getD id []) with rows:=(bK (bs.getD id [])).rows.set (0+i.toNat) (gf (aX (nth (bs.getD id []) i)) 0 [.bool x])}=List.map bK (bs.set id ((bs.getD id []).set i.toNat x)):=by
  rw[←Gc]
  congr 1
  show(⟨0,1,(List.map aX (bs.getD id [])).set (0+i.toNat) (aX x)⟩:Blk)=⟨0,1,_⟩
  rw[Nat.zero_add,E9]
 refine dF (p1 hid) ⟨rfl,dF (a:=aX (nth (bs.getD id []) i)) (by rw[Nat.zero_add];exact yW hi) ⟨Nat.le_refl _,?_,?_⟩⟩
 ·rw[key];exact dK
 ·rw[key];exact h
end
theorem afM {H:List Blk} {b j:Nat} {x y:Blk} (h:(H.set b x)[j]?=some y):(j=b∧y=x)∨(j≠b∧H[j]?=some y):=by
 rw[List.getElem?_set] at h
 split at h
 ·rename_i e;subst e
  split at h
  ·cases h;exact .inl ⟨rfl,rfl⟩
  ·cases h
 ·rename_i e;exact .inr ⟨fun h=>e h.symm,h⟩
theorem M_ [ie:cl] {b7 E:Env} {H:List Blk} {L:List (Nat×List AV)} (g:Good b7 E) (an:SimH E H) (bB:SimL E L) {b l8 sz:Nat} {rows:List (List AV)} (hb:H[b]?=some ⟨l8,sz,rows⟩) (fN:ie.n≤b)
  (hk: ∀row∈rows,∀a∈row,iP a=true∧nv a=true) (ij:rows.length≤4611686018427387904):
  ∃E',E'.w=E.w∧Good b7 E'∧SimH E' (H.set b ⟨l8+1,sz,[]⟩)∧SimL E' L∧E.gh E'∧E'.mL=E.mL∧ ∀v full,ey E (.ref b l8 0 rows.length full) v→aL E'.w E'.PA E'.PF (.aJ (rows.map fun row=>row.map h9) false true) v:=by
 have jI:E.a6 b=l8:=an.eG b _ hb
 have p6:=(List.getElem?_eq_some_iff.1 hb).1
 let E':Env:={E with PA:=fun c=>E.PA c∨E.m b=some (some c),PF:=fun c=>E.PF c∨E.m b=some (some c),m:=fun j=>if j=b then none else E.m j,a6:=fun j=>if j=b then l8+1 else E.a6 j}
 have hm: ∀{j:Nat} {x:Option Nat},E'.m j=some x→j≠b∧E.m j=some x:=fun{j x} h=>by
  have h:(if j=b then none else E.m j)=some x:=h
  split at h
  ·cases h
  ·rename_i e;exact⟨e,h⟩
 have aB: ∀{j:Nat},j≠b→E'.a6 j=E.a6 j:=fun{j} h=>if_neg h
 have hle:E.gh E':=⟨fun _ h=> .inl h,fun _ h=> .inl h,fun _ _=>rfl,fun _ _=>rfl,fun j=>by
   show E.a6 j≤(if j=b then l8+1 else E.a6 j)
   split
   ·rename_i e;subst e;omega
   ·exact Nat.le_refl _,fun j x hx p8=>by
   have p8:(if j=b then l8+1 else E.a6 j)=E.a6 j:=p8
   have bN:j≠b:=fun e=>by subst e;rw[if_pos rfl] at p8;omega
   exact⟨by show(if j=b then none else E.m j)=_;rw[if_neg bN];exact hx,rfl,rfl⟩,fun _ _ h=>h⟩
 have cY: ∀c,E.m b=some (some c)→b7.w.heap.size≤c:=fun c hc=>(g.iB b c hc).elim (fun h=>by rw[(g.Aa b fN).1] at h;cases h) id
 have jK:=an.fm
 refine⟨E',rfl,?_,?_,?_,hle,rfl,?_⟩
 ·exact{g with
   le:=g.le.trans hle
   iB:=fun j c h=>g.iB j c (hm h).2
   iY:=g.iY
   fp:=fun c hc=>hc.elim (g.fp c) fun h=> .inr (cY c h)
   e6:=fun c hc=>hc.elim (g.e6 c) fun h=> .inr (cY c h)}
 ·exact{an with
   heap:=fun j c h=>by
    obtain⟨bN,h⟩:=hm h
    obtain⟨blk,aj,ty,q1,bU,q2,q3,q4,cP,cF⟩:=an.heap j c h
    refine⟨blk,aj,ty,by rw[List.getElem?_set,if_neg (fun e=>bN e.symm)];exact q1,bU,q2,q3,q4,cP,fun i k row a h1 h2=> ?_⟩
    obtain⟨u,hu,ai⟩:=cF i k row a h1 h2
    exact⟨u,hu,ai.le hle.bO⟩
   eG:=fun j blk h=>by
    rcases afM h with⟨rfl,rfl⟩ | ⟨bN,h⟩
    ·exact if_pos rfl
    ·rw[aB bN];exact an.eG j blk h
   gO:=fun j h=>by
    obtain⟨bN,h⟩:=hm h
    obtain⟨blk,q1,q2⟩:=an.gO j h
    exact⟨blk,by rw[List.getElem?_set,if_neg (fun e=>bN e.symm)];exact q1,q2⟩
   fresh:=fun j h=>by
    rw[List.length_set] at h
    have:=an.fresh j h
    have bN:j≠b:=by omega
    exact⟨by show(if j=b then none else E.m j)=none;rw[if_neg bN];exact this.1,by rw[aB bN];exact this.2⟩
   gD:=fun j k c h1 h2=>an.gD j k c (hm h1).2 (hm h2).2
   gl:=fun j t c h1 h2=>an.gl j t c (hm h1).2 h2
   hl:=fun c hc ⟨j,af⟩=>by
    obtain⟨bN,af⟩:=hm af
    rcases hc with hc | hc
    ·exact an.hl c hc ⟨j,af⟩
    ·exact bN (an.gD j b c af hc)
   hR:=fun c hc ⟨t,a_⟩=>by
    rcases hc with hc | hc
    ·exact an.hR c hc ⟨t,a_⟩
    ·exact an.gl b t c hc a_
   dm:=fun c hc=>hc.elim (fun h=> .inl (an.dm c h)) .inr
   fg:=fun c hc=>hc.elim (an.fg c) fun h=>by
    obtain⟨_,aj,ty,_,_,q,_⟩:=an.heap b c h
    exact⟨aj,ty,q⟩
   du:=fun c hc=>hc.elim (an.du c) fun h=>jK c ⟨b,h⟩
   fm:=fun c ⟨j,af⟩=>jK c ⟨j,(hm af).2⟩}
 ·intro t c a_
  obtain⟨cells,aj,ty,q1,q2,q3⟩:=bB t c a_
  exact⟨cells,aj,ty,q1,q2,q3.mono fun _ _ k=>k.le hle.bO⟩
 ·intro v full hv
  rcases hv with⟨bm,_⟩ | ⟨fO,bm⟩
  ·omega
  ·rcases bm with⟨_,_,lD,A,rfl⟩ | ⟨c,cap,j7,rfl,oi,pb,p7⟩
   ·obtain rfl:rows=[]:=List.eq_nil_of_length_eq_zero lD
    exact aL.aJ (rows:=[]) (PB:=fun _=>False) (sz:=0) (vs:=fun _ _=>undef) (fun _ h=>h.elim) ⟨Nat.le_refl _,Nat.zero_le _⟩ (fun _=>rfl) (fun i row h=>by simp at h) (fun h=>by simp at h) (fun i j row a h=>by simp at h)
   ·obtain⟨blk,aj,ty,q1,bU,q2,q3,q4,cP,cF⟩:=an.heap b c j7
    rw[hb] at q1
    cases q1
    have key:=aL.aJ (w:=E.w) (PA:=E'.PA) (PF:=E'.PF) (PB:=E'.PF) (rows:=rows.map fun row=>row.map h9) (full:=false) (fresh:=true) (A:=some ⟨c,0,none⟩) (cap:=cap) (sz:=E.sz b) (vs:=fun i j=>(aj[i*E.sz b+j]?).getD undef)
     (fun c hc=>by simpa using hc) (by rw[List.length_map];exact⟨oi,ij⟩) (fun h=>by cases h) (fun i row' ai=> ?_) (fun kQ=>⟨c,0,rfl,.inr j7,fun i j hi af=> ?_⟩) (fun i j row' gi ai af=> ?_)
    ·rw[List.length_map] at key
     show aL E.w E'.PA E'.PF _ (.slice (some ⟨c,0*E.sz b,none⟩) rows.length cap)
     rw[Nat.zero_mul];exact key
    ·rw[List.getElem?_map] at ai
     cases U:rows[i]? with
     | none=>simp[U] at ai
     | some row=>simp[U] at ai;subst ai;rw[List.length_map];exact cP i row U
    ·rw[List.length_map] at hi
     have ai:=List.getElem?_eq_getElem hi
     have ao:=cP i _ ai
     obtain⟨u,hu,_⟩:=cF i j _ _ ai (List.getElem?_eq_getElem (by rw[ao];exact af))
     rw[Nat.zero_add,cell_of q2 hu,hu];rfl
    ·rw[List.getElem?_map] at ai
     cases U:rows[i]? with
     | none=>simp[U] at ai
     | some row=>
      simp[U] at ai;subst ai
      rw[List.getElem?_map] at af
      cases jN:row[j]? with
      | none=>simp[jN] at af
      | some a=>
       simp[jN] at af;subst af
       obtain⟨u,hu,gy⟩:=cF i j row a U jN
       obtain⟨dr,gE⟩:=hk row (List.mem_of_getElem? U) a (List.mem_of_getElem? jN)
       rw[hu]
       exact(Ur dr gE (BF dr gy)).mono (fun _ _=>rfl) (fun _ h=>h.elim) (fun c hc=> .inl hc) (fun _ h=>h)
theorem Weak.X4 [ie:cl] (i:Nat) {T:List AV} {L:List (Nat×List AV)} {H:List Blk} {b l8 sz n:Nat} {full:Bool} {rows:List (List AV)} (bZ:T.getD i .undef= .ref b l8 0 n full) (ad:n=rows.length) (hb:H[b]?=some ⟨l8,sz,rows⟩) (fN:ie.n≤b)
  (hk: ∀row∈rows,∀a∈row,iP a=true∧nv a=true) (ij:rows.length≤4611686018427387904):Weak ⟨T,L,H⟩ ⟨T.set i (.aJ (rows.map fun row=>row.map h9) false true),L,H.set b ⟨l8+1,sz,[]⟩⟩:=fun b7 E tmps g s=>by
 subst ad
 obtain⟨E',hw,aB,h1,h2,hle,N1,hv⟩:=M_ g s.h s.l hb fN hk ij
 refine⟨E',hw,aB,h1,h2,fun t=> ?_,by simpa using s.size⟩
 show V3 E' ((T.set i _).getD t .undef) _
 rw[qX]
 split
 ·rename_i U
  obtain⟨rfl,_⟩:=U
  have au:V3 E (T.getD i .undef) (tmps.getD i undef):=s.hT i
  rw[bZ] at au
  exact hv _ full au
 ·exact(s.hT t).le hle
theorem Weak.X3 [ie:cl] (t i:Nat) {T:List AV} {L:List (Nat×List AV)} {H:List Blk} {cells:List AV} {b l8 sz n:Nat} {full:Bool} {rows:List (List AV)} (hc:dT L t=some cells) (bZ:cells.getD i .undef= .ref b l8 0 n full) (ad:n=rows.length) (hb:H[b]?=some ⟨l8,sz,rows⟩) (fN:ie.n≤b)
  (hk: ∀row∈rows,∀a∈row,iP a=true∧nv a=true) (ij:rows.length≤4611686018427387904):Weak ⟨T,L,H⟩ ⟨T,kA L t (cells.set i (.aJ (rows.map fun row=>row.map h9) false true)),H.set b ⟨l8+1,sz,[]⟩⟩:=fun b7 E tmps g s=>by
 subst ad
 obtain⟨E',hw,aB,h1,h2,hle,N1,hv⟩:=M_ g s.h s.l hb fN hk ij
 refine⟨E',hw,aB,h1,fun u c hm=> ?_,fun t=>(s.hT t).le hle,s.size⟩
 rw[N1] at hm
 obtain⟨gu,aj,ty,q1,q2,q3⟩:=s.l u c hm
 show ∃Fj aj ty,dT (kA L t _) u=some Fj∧_
 rw[y_]
 by_cases hu:u=t
 ·subst hu
  rw[if_pos rfl]
  have Aq:dT L u=some gu:=q1
  rw[hc] at Aq
  cases Aq
  refine⟨_,aj,ty,by rw[hc];rfl,by rw[hw];exact q2,by simpa using q3.1,fun j x v hx rq=> ?_⟩
  rw[List.getElem?_set] at hx
  split at hx
  ·rename_i lB
   subst lB
   split at hx
   ·rename_i aN
    cases hx
    have NO:=List.getElem?_eq_getElem aN
    have he:cells.getD i .undef=cells[i]:=by rw[List.getD_eq_getElem?_getD,NO];rfl
    have kq:=q3.2 i _ v NO rq
    rw[←he,bZ] at kq
    exact aL.v1 (E:=E'.bO) (hv v full kq)
   ·cases hx
  ·exact(q3.2 j x v hx rq).le hle.bO
 ·rw[if_neg hu]
  exact⟨gu,aj,ty,q1,by rw[hw];exact q2,q3.mono fun _ _ k=>k.le hle.bO⟩
def AC (n:Nat):AV→Bool
 | .ref b _ _ _ _=>Nat.blt b n
 | .ptr b _ _ _=>Nat.blt b n
 | _=>true
def pE (n:Nat):AV→Bool
 | .fn _ caps=>caps.all (AC n)
 | a=>AC n a
def xD (n:Nat):AV→Bool
 | .agg l=>l.all (pE n)
 | a=>pE n a
def xE (n:Nat):AV→Bool
 | .tup l=>l.all (xD n)
 | a=>xD n a
def Env.cut (E:Env) (n:Nat):Env:={E with m:=fun j=>if j<n then E.m j else none,a6:=fun j=>if j<n then E.a6 j else 0}
section
variable {E:Env} {n:Nat}
theorem yZ {j:Nat} (h:j<n):(E.cut n).m j=E.m j∧(E.cut n).a6 j=E.a6 j:=⟨if_pos h,if_pos h⟩
theorem ey.cut {a:AV} {v:Value} (h:AC n a=true) (hv:ey E a v):ey (E.cut n) a v:=by
 cases a with
 | ref b g o m f=>
  have hb:b<n:=by rw[←Nat.blt_eq];exact h
  obtain⟨ax,e2⟩:=yZ (E:=E) hb
  have hv:(g<E.a6 b∧_)∨(g=E.a6 b∧_):=hv
  show(g<(E.cut n).a6 b∧_)∨(g=(E.cut n).a6 b∧_)
  rw[ax,e2];exact hv
 | ptr b g r c=>
  have hb:b<n:=by rw[←Nat.blt_eq];exact h
  obtain⟨ax,e2⟩:=yZ (E:=E) hb
  have hv:(g<E.a6 b∧_)∨(g=E.a6 b∧_):=hv
  show(g<(E.cut n).a6 b∧_)∨(g=(E.cut n).a6 b∧_)
  rw[ax,e2];exact hv
 | _=>exact hv
theorem bQ.cut {a:AV} {v:Value} (h:pE n a=true) (hv:bQ E a v):bQ (E.cut n) a v:=by
 by_cases hf: ∃f caps,a= .fn f caps
 ·obtain⟨f,caps,rfl⟩:=hf
  obtain⟨vs,e,ab⟩:=hv
  exact⟨vs,e,ab.1,fun i x y hx aS=>(ab.2 i x y hx aS).cut (List.all_eq_true.1 (show caps.all (AC n)=true from h) x (List.mem_of_getElem? hx))⟩
 ·have au:pE n a=AC n a:=by cases a<;>first | rfl | exact absurd ⟨_,_,rfl⟩ hf
  rw[pQ fun f c e=>hf ⟨f,c,e⟩] at hv ⊢
  exact hv.cut (au▸h)
theorem V2.cut {a:AV} {v:Value} (h:xD n a=true) (hv:V2 E a v):V2 (E.cut n) a v:=by
 by_cases hf: ∃l,a= .agg l
 ·obtain⟨l,rfl⟩:=hf
  obtain⟨vs,e,ab⟩:=hv
  exact⟨vs,e,ab.1,fun i x y hx aS=>(ab.2 i x y hx aS).cut (List.all_eq_true.1 (show l.all (pE n)=true from h) x (List.mem_of_getElem? hx))⟩
 ·have au:xD n a=pE n a:=by cases a<;>first | rfl | exact absurd ⟨_,rfl⟩ hf
  rw[n6 fun l e=>hf ⟨l,e⟩] at hv ⊢
  exact hv.cut (au▸h)
theorem V3.cut {a:AV} {v:Value} (h:xE n a=true) (hv:V3 E a v):V3 (E.cut n) a v:=by
 by_cases hf: ∃l,a= .tup l
 ·obtain⟨l,rfl⟩:=hf
  obtain⟨vs,e,ab⟩:=hv
  exact⟨vs,e,ab.1,fun i x y hx aS=>(ab.2 i x y hx aS).cut (List.all_eq_true.1 (show l.all (xD n)=true from h) x (List.mem_of_getElem? hx))⟩
 ·have au:xE n a=xD n a:=by cases a<;>first | rfl | exact absurd ⟨_,rfl⟩ hf
  rw[n7 fun l e=>hf ⟨l,e⟩] at hv ⊢
  exact hv.cut (au▸h)
end
theorem Weak.cut [ie:cl] (n:Nat) {T:List AV} {L:List (Nat×List AV)} {H:List Blk} (fN:ie.n≤n) (bZ: ∀t,xE n (T.getD t .undef)=true) (bB: ∀t cells,dT L t=some cells→cells.all (pE n)=true) (an: ∀(b:Nat) (blk:Blk),b<n→H[b]?=some blk→ ∀row∈blk.rows,row.all (pE n)=true):
  Weak ⟨T,L,H⟩ ⟨T,L,H.take n⟩:=fun b7 E tmps g s=>by
 have gQ:SimH E H:=s.h
 have hm: ∀{j:Nat} {x:Option Nat},(E.cut n).m j=some x→j<n∧E.m j=some x:=fun{j x} h=>by
  have h:(if j<n then E.m j else none)=some x:=h
  split at h
  ·rename_i e;exact⟨e,h⟩
  ·cases h
 have get: ∀{j:Nat},j<n→(H.take n)[j]?=H[j]?:=fun{j} h=>by rw[List.getElem?_take,if_pos h]
 refine⟨E.cut n,rfl,?_,?_,?_,fun t=>(s.hT t).cut (bZ t),s.size⟩
 ·exact{g with
   le:=⟨g.le.fp,g.le.e6,g.le.tr,g.le.wf,fun b=>by
     show b7.a6 b≤(if b<n then E.a6 b else 0)
     split
     ·exact g.le.a6 b
     ·rw[(g.Aa b (by omega)).2];exact Nat.le_refl _,fun b x hx p8=>by
     have hb:b<n:=by
      rcases Nat.lt_or_ge b n with h | h
      ·exact h
      ·rw[(g.Aa b (by omega)).1] at hx;cases hx
     obtain⟨ax,e2⟩:=yZ (E:=E) hb
     rw[e2] at p8
     rw[ax]
     exact g.le.m b x hx p8,g.le.mL⟩
   iB:=fun b c h=>g.iB b c (hm h).2
   iY:=g.iY}
 ·exact{gQ with
   heap:=fun j c h=>by
    obtain⟨af,h⟩:=hm h
    obtain⟨blk,aj,ty,q1,bU,q2,q3,q4,cP,cF⟩:=gQ.heap j c h
    refine⟨blk,aj,ty,by rw[get af];exact q1,bU,q2,q3,q4,cP,fun i k row a h1 h2=> ?_⟩
    obtain⟨u,hu,ai⟩:=cF i k row a h1 h2
    exact⟨u,hu,ai.cut (List.all_eq_true.1 (an j blk af q1 row (List.mem_of_getElem? h1)) a (List.mem_of_getElem? h2))⟩
   eG:=fun j blk h=>by
    have af:j<n:=by
     rcases Nat.lt_or_ge j n with q | q
     ·exact q
     ·rw[List.getElem?_take,if_neg (by omega)] at h;cases h
    rw[(yZ (E:=E) af).2]
    rw[get af] at h;exact gQ.eG j blk h
   gO:=fun j h=>by
    obtain⟨af,h⟩:=hm h
    obtain⟨blk,q1,q2⟩:=gQ.gO j h
    exact⟨blk,by rw[get af];exact q1,q2⟩
   fresh:=fun j h=>by
    rw[List.length_take] at h
    rcases Nat.lt_or_ge j n with q | q
    ·obtain⟨ax,e2⟩:=yZ (E:=E) q
     rw[ax,e2];exact gQ.fresh j (by omega)
    ·exact⟨if_neg (by omega),if_neg (by omega)⟩
   gD:=fun j k c h1 h2=>gQ.gD j k c (hm h1).2 (hm h2).2
   gl:=fun j t c h1 h2=>gQ.gl j t c (hm h1).2 h2
   hl:=fun c hc ⟨j,af⟩=>gQ.hl c hc ⟨j,(hm af).2⟩
   fm:=fun c ⟨j,af⟩=>gQ.fm c ⟨j,(hm af).2⟩}
 ·intro t c a_
  obtain⟨cells,aj,ty,q1,q2,q3⟩:=s.l t c a_
  exact⟨cells,aj,ty,q1,q2,q3.1,fun i a u hx hu=>(q3.2 i a u hx hu).cut (List.all_eq_true.1 (bB t cells q1) a (List.mem_of_getElem? hx))⟩
end Go.Proofs.YtejmihecgodhnaaGreat.Fw
