/- The framework, part OP: a call that is handed one struct in the memory (or a variable of the caller's) to write into, beside values that stay. -/
import Derived.Test.YtejmihecgodhnaaGreatM1
set_option linter.unusedVariables false
namespace Go.Proofs.YtejmihecgodhnaaGreat.Fw
open Go
def yc:AV→Bool
 | .aZ _ full fr=> !full&& !fr
 | a=>ky a
theorem aia {a:AV} (h:yc a=true):ky a=true∧j4 a=a:=by
 cases a with
 | aZ rows full fr=>
  refine⟨rfl,?_⟩
  cases full<;>cases fr<;>first | rfl | cases h
 | _=>first | exact⟨h,rfl⟩
def w0 (P:Program) (f:FuncId) (g:Nat) (args:List AV) (al b3:List AV) (t:AV):Prop:=
 de P f args [⟨g,al.length,[al]⟩] fun r fs=> ∃B,fs=⟨g,al.length,[b3]⟩::B∧j7 (⟨g+1,al.length,[b3]⟩::B) r t
def wY (p q a a0:AV):Prop:=(a=p∧a0=q)∨df [] [] a a0
theorem Y1 {E:Env} (ab: ∀c,E.PF c→E.PA c) {a b:AV} (h:gN [] [] a b): ∀{v:Value},b4 E a v→aP E.w E.PA (fun _=>False) b v:=by
 induction h with
 | undef a=>intro v _;exact .undef v
 | int k n=>intro v hv;have hv:aP E.w E.PA E.PF (.int k n) v:=hv;cases hv;exact .int _ _
 | bool k=>intro v hv;have hv:aP E.w E.PA E.PF (.bool k) v:=hv;cases hv;exact .bool _
 | str k=>intro v hv;have hv:aP E.w E.PA E.PF (.str k) v:=hv;cases hv;exact .str _
 | gR=>intro v hv;have hv:aP E.w E.PA E.PF .gR v:=hv;cases hv;exact .gR
 | ht=>intro v hv;have hv:aP E.w E.PA E.PF .ht v:=hv;cases hv;exact .ht
 | aZ rows full fr dP hw=>
  intro v hv
  have hv:aP E.w E.PA E.PF (.aZ rows full fr) v:=hv
  cases hv with
  | aZ fH fw gP cm eH hrel=>
   exact .aZ (fun c hc=>by
    have:=fH c hc
    simp only[Bool.false_eq_true,if_false]
    split at this
    ·exact ab c this
    ·exact this) fw (fun h=>gP (hw h)) cm eH hrel
 | dz cells c=>
  intro v hv
  have hv:aP E.w E.PA E.PF (.dz cells c) v:=hv
  cases hv with
  | dz hc eH hrel=>exact .dz hc eH hrel
 | fS aE=>cases aE
 | ptr hb=>cases hb
 | ref _ hb=>cases hb
 | @fn f caps CM aw aj bz=>
  intro v hv
  obtain⟨vs,rfl,U⟩:=(show ∃vs:List Value,v= .func (.func f) #[] vs.toArray∧ak (fu E) caps vs from hv)
  exact .fn (aw▸U.1) fun i b u hb hu=>by
   have aM:i<caps.length:=by have:=(List.getElem?_eq_some_iff.1 hb).1;omega
   exact bz i _ b (List.getElem?_eq_getElem aM) hb (I_ (U.2 i _ u (List.getElem?_eq_getElem aM) hu))
theorem amI {E E1:Env} (ab: ∀c,E.PF c→E.PA c) (hw:E1.w=E.w) (zX:E1.PA=E.PA) {a b:AV} (h:df [] [] a b) {v:Value} (hv:V2 E a v):V2 E1 b v:=by
 have up: ∀{b:AV} {v:Value},aP E.w E.PA (fun _=>False) b v→b4 E1 b v:=fun h=>aP.v1 (E:=E1) (h.mono (fun _ _=>by rw[hw]) (fun _ h=>h.elim) (fun c hc=>by rw[zX];exact hc) (fun _ h=>h.elim))
 rcases h with⟨l,fQ,rfl,rfl,U⟩ | h
 ·obtain⟨vs,rfl,aj⟩:=hv
  refine⟨vs,rfl,U.1▸aj.1,fun i x u hx hu=> ?_⟩
  have aM:i<l.length:=by have:=(List.getElem?_eq_some_iff.1 hx).1;have:=U.1;omega
  have aw:=List.getElem?_eq_getElem aM
  exact up (Y1 ab (U.2 i _ x aw hx) (aj.2 i _ u aw hu))
 ·by_cases hf: ∃l,a= .agg l
  ·obtain⟨l,rfl⟩:=hf
   cases h with
   | undef=>exact aP.undef v
  ·rw[qG fun l e=>hf ⟨l,e⟩] at hv
   exact lP (up (Y1 ab h hv))
def Env.one (E:Env) (bl g sz cp:Nat):Env:=
 {w:=E.w,PA:=E.PA,PF:=fun _=>False,m:=fun j=>if j=0 then some (some bl) else none,bm:=fun j=>if j=0 then g else 0
  sz:=fun j=>if j=0 then sz else 0,cp:=fun j=>if j=0 then cp else 0,mL:=fun _=>none}
theorem yx {E:Env} {bl g sz cp j c:Nat} (h:(E.one bl g sz cp).m j=some (some c)):j=0∧c=bl:=by
 have h:(if j=0 then some (some bl) else none)=some (some c):=h
 split at h
 ·rename_i e;cases h;exact⟨e,rfl⟩
 ·cases h
theorem akM {E:Env} {H:List Blk} (ax:SimH E H) {bl g cp:Nat} {al:List AV} {cells:Array Value} {ty:TypeId} (iu:bl<E.w.heap.size) (zX: ¬E.PA bl) (hw:E.w.heap[bl]?=some (.cells cells ty (0,0))) (cm:cells.size=cp*al.length) (h1:1≤cp)
  (hk:al.all yc=true) (aj: ∀(j:Nat) (a:AV),al[j]?=some a→ ∃u,cells[j]?=some u∧b4 E a u):SimH (E.one bl g al.length cp) [⟨g,al.length,[al]⟩] where
 heap:=fun b c hb=>by
  obtain⟨rfl,rfl⟩:=yx hb
  have ew: ∀{i:Nat} {row:List AV},([al]:List (List AV))[i]?=some row→i=0∧row=al:=fun{i row} h=>by
   cases i with
   | zero=>cases h;exact⟨rfl,rfl⟩
   | succ i=>cases h
  refine⟨⟨g,al.length,[al]⟩,cells,ty,rfl,rfl,hw,cm,h1,fun i row h=> ?_,fun i j row a h ah=> ?_⟩
  ·rw[(ew h).2];rfl
  ·obtain⟨rfl,rfl⟩:=ew h
   obtain⟨u,hu,hv⟩:=aj j a ah
   refine⟨u,by rw[Nat.zero_mul,Nat.zero_add];exact hu,?_⟩
   have K_:=aia (List.all_eq_true.1 hk a (List.mem_of_getElem? ah))
   have:=Qn K_.1 (Fy K_.1 hv) (fun c hc=>hc) ax.dU
   rw[K_.2] at this
   exact aP.v1 (E:=(E.one c g row.length cp).bQ) this
 fc:=fun b blk hb=>by
  cases b with
  | zero=>cases hb;rfl
  | succ b=>cases hb
 ii:=fun b hb=>by
  have hb:(if b=0 then some (some bl) else none)=some none:=hb
  split at hb<;>cases hb
 fresh:=fun b hb=>by
  have hb:1≤b:=hb
  exact⟨if_neg (by omega),if_neg (by omega)⟩
 hr:=fun b bU c h1 h2=>by rw[(yx h1).1,(yx h2).1]
 kG:=fun t iU c h=>by cases h
 hN:=fun b t c _ h=>by cases h
 iM:=fun c hc ⟨b,hb⟩=>by rw[(yx hb).2] at hc;exact zX hc
 jr:=fun c _ ⟨t,aY⟩=>by cases aY
 dU:=fun c hc=>hc.elim
 ga:=fun c hc=>hc.elim
 ea:=ax.ea
 gD:=fun c ⟨b,hb⟩=>by rw[(yx hb).2];exact iu
 hG:=fun c ⟨t,aY⟩=>by cases aY
structure wX (E:Env) (bl k n:Nat) (b3:List AV) (t:AV) (v:Value) (E':Env):Prop where
 m:E'.m=E.m
 mL:E'.mL=E.mL
 bm:E'.bm=E.bm
 sz:E'.sz=E.sz
 cp:E'.cp=E.cp
 gF: ∀c,E.PA c→E'.PA c
 fU: ∀c,E.PF c→E'.PF c
 dU: ∀c,E'.PF c→E'.PA c
 ga: ∀c,E'.PF c→Plain E'.w c
 HB: ∀c,E'.PA c→E.PA c∨(E.w.heap.size≤c∧c<E'.w.heap.size)
 ak6: ∀c,E'.PF c→E.PF c∨E.w.heap.size≤c
 os:E'.w.os=E.w.os
 tape:E'.w.tape=E.w.tape
 output:E'.w.output=E.w.output
 size:E.w.heap.size≤E'.w.heap.size
 cZ: ∀c,c<E.w.heap.size→c≠bl→E'.w.heap[c]?=E.w.heap[c]?
 new: ∃cells ty,E'.w.heap[bl]?=some (.cells cells ty (0,0))∧cells.size=k∧b3.length=n∧ ∀(j:Nat) (a:AV),b3[j]?=some a→ ∃u,cells[j]?=some u∧aP E'.w E'.PA E'.PF a u
 v3:V3 E' t v
theorem OG {E1 E':Env} {H:List Blk} (hs:SimH E1 H) (hw:E'.w=E1.w) (hu: ∀c,E1.PF c∨E1.fZ c→E'.PA c∧E'.PF c) {a b:AV} {u:Value} (h:j7 H a b) (hv:V3 E1 a u):V3 E' b u:=by
 have cP: ∀{a b:AV} {u:Value},ho H a b→b4 E1 a u→b4 E' b u:=fun ar pq=>aP.v1 (E:=E') ((Y2 hs ar pq).mono (fun _ _=>by rw[hw]) (fun _ _=>by rw[hw]) (fun c hc=>(hu c hc).1) (fun c hc=>(hu c hc).2))
 have dd: ∀{a b:AV} {u:Value},w7 H a b→V2 E1 a u→V2 E' b u:=by
  rintro a b u (⟨l,fQ,rfl,rfl,ab⟩ | h) hu
  ·obtain⟨eZ,rfl,U⟩:=hu
   refine⟨eZ,rfl,ab.1▸U.1,fun i x y hx aX=> ?_⟩
   have aM:i<l.length:=by have:=(List.getElem?_eq_some_iff.1 hx).1;have:=ab.1;omega
   have aw:=List.getElem?_eq_getElem aM
   exact cP (ab.2 i _ x aw hx) (U.2 i _ y aw aX)
  ·have:b4 E1 a u:=by cases h<;>exact hu
   exact lP (cP h this)
 rcases h with⟨l,fQ,rfl,rfl,ab⟩ | h
 ·obtain⟨eZ,rfl,U⟩:=hv
  refine⟨eZ,rfl,ab.1▸U.1,fun i x y hx aX=> ?_⟩
  have aM:i<l.length:=by have:=(List.getElem?_eq_some_iff.1 hx).1;have:=ab.1;omega
  have aw:=List.getElem?_eq_getElem aM
  exact dd (ab.2 i _ x aw hx) (U.2 i _ y aw aX)
 ·have:V2 E1 a u:=by
   rcases h with⟨l,fQ,rfl,rfl,ab⟩ | h
   ·exact hv
   ·cases h<;>exact hv
  exact sw (dd h this)
theorem Ro {P:Program} {f:FuncId} {vs:List Value} {E:Env} {H:List Blk} {args eu al b3:List AV} {p t:AV} {bl g cp:Nat} {cells:Array Value} {ty:TypeId} (ax:SimH E H) (iu:bl<E.w.heap.size) (zX: ¬E.PA bl)
  (hw:E.w.heap[bl]?=some (.cells cells ty (0,0))) (cm:cells.size=cp*al.length) (h1:1≤cp) (hk:al.all yc=true) (aj: ∀(j:Nat) (a:AV),al[j]?=some a→ ∃u,cells[j]?=some u∧b4 E a u)
  (ar:ak (V2 E) args vs) (ab: ∀v,V2 E p v→v= .pointer (some ⟨bl,0,none⟩)) (hs:ak (wY p (.ptr 0 g 0 0)) args eu) (kC:b3.all ky=true) (h:w0 P f g eu al b3 t):
  Calls P f vs.toArray E.w fun e w'=> ∃v E',e= .returned v∧E'.w=w'∧wX E bl (cp*al.length) al.length b3 t v E':=by
 have xp:ak (V2 (E.one bl g al.length cp)) eu vs:=⟨hs.1▸ar.1,fun i x u hx hu=>by
  have aM:i<args.length:=by have:=(List.getElem?_eq_some_iff.1 hx).1;have:=hs.1;omega
  have aw:=List.getElem?_eq_getElem aM
  rcases hs.2 i _ x aw hx with⟨aG,rfl⟩ | h
  ·have hv:=ar.2 i _ u aw hu
   rw[aG] at hv
   rw[ab u hv]
   exact .inr ⟨rfl,bl,rfl,by rw[Nat.zero_mul]⟩
  ·exact amI (E1:=E.one bl g al.length cp) ax.dU rfl rfl h (ar.2 i _ u aw hu)⟩
 refine(h.2 (E.one bl g al.length cp) vs (fun _=>rfl) (akM ax iu zX hw cm h1 hk aj) xp).mono ?_
 rintro e w' ⟨r,v,fs,E1,rfl,⟨B,rfl,Lo⟩,rfl,af,fe,hv,a7⟩
 have aE:E1.bm 0=g:=fe.fc 0 _ rfl
 obtain⟨hm,az,hc⟩:=a7.le.m 0 (some bl) rfl aE
 have az:E1.sz 0=al.length:=az
 have hc:E1.cp 0=cp:=hc
 obtain⟨blk,zG,ty2,q1,b6,q2,q3,q4,cN,c2⟩:=fe.heap 0 bl hm
 cases q1
 have Ai: ∀c,E1.PF c∨(∃j,j≠0∧E1.m j=some (some c))→E.w.heap.size≤c∧c<E1.w.heap.size:=by
  rintro c (hc | ⟨j,ah,Gp⟩)
  ·exact⟨(a7.fU c hc).elim (fun h=>h.elim) id,fe.ea c (fe.dU c hc)⟩
  ·refine⟨(a7.qU c ⟨j,Gp⟩).elim (fun⟨b,hb⟩=> ?_) id,fe.gD c ⟨j,Gp⟩⟩
   rw[(yx hb).2] at Gp
   exact absurd (fe.hr j 0 bl Gp hm) ah
 have oC: ∀c,c<E.w.heap.size→c≠bl→E1.w.heap[c]?=E.w.heap[c]?:=fun c hc bq=>a7.cZ c hc (fun⟨b,hb⟩=>bq (yx hb).2) (fun⟨t,aY⟩=>by cases aY)
 have af1: ∀c,E1.PA c→E.PA c∨(E.w.heap.size≤c∧c<E1.w.heap.size):=fun c hc=>(a7.gF c hc).elim .inl fun h=> .inr ⟨h,fe.ea c hc⟩
 let E':Env:={E with w:=E1.w,PA:=fun c=>E.PA c∨E1.PA c∨(E1.PF c∨ ∃j,j≠0∧E1.m j=some (some c)),PF:=fun c=>E.PF c∨(E1.PF c∨ ∃j,j≠0∧E1.m j=some (some c))}
 let EX:Env:={E1 with m:=fun j=>if j=0 then none else E1.m j,bm:=fun j=>if j=0 then g+1 else E1.bm j}
 have aW: ∀{j:Nat} {x:Option Nat},EX.m j=some x→j≠0∧E1.m j=some x:=fun{j x} h=>by
  have h:(if j=0 then none else E1.m j)=some x:=h
  split at h
  ·cases h
  ·rename_i e;exact⟨e,h⟩
 have Df: ∀{j:Nat},j≠0→EX.bm j=E1.bm j:=fun{j} h=>if_neg h
 have hle:E1.hJ EX:=⟨fun _ h=>h,fun _ h=>h,fun _ _=>rfl,fun _ _=>rfl,fun b=>by
   by_cases e:b=0
   ·subst e;show E1.bm 0≤(if 0=0 then g+1 else E1.bm 0);rw[if_pos rfl,aE];omega
   ·rw[Df e];exact Nat.le_refl _,fun b x hx sR=>by
   by_cases e:b=0
   ·subst e
    have sR:(if 0=0 then g+1 else E1.bm 0)=E1.bm 0:=sR
    rw[if_pos rfl,aE] at sR;omega
   ·exact⟨by show(if b=0 then none else E1.m b)=_;rw[if_neg e];exact hx,rfl,rfl⟩,fun _ _ h=>h⟩
 have rL: ∀{j:Nat} (x y:Blk),j≠0→(x::B)[j]?=(y::B)[j]?:=fun{j} x y ah=>by
  cases j with
  | zero=>exact absurd rfl ah
  | succ j=>rfl
 have agb:SimH EX (⟨g+1,al.length,[b3]⟩::B):=
  {heap:=fun b c hb=>by
    obtain⟨xt,hb⟩:=aW hb
    obtain⟨blk,zE,ty,cP,ep,dd,dV,j3,alr,als⟩:=fe.heap b c hb
    refine⟨blk,zE,ty,by rw[rL _ ⟨g,al.length,[b3]⟩ xt];exact cP,ep,dd,dV,j3,alr,fun i j row a h1 h2=> ?_⟩
    obtain⟨u,hu,hX⟩:=als i j row a h1 h2
    exact⟨u,hu,hX.le hle.bQ⟩
   fc:=fun b blk hb=>by
    by_cases e:b=0
    ·subst e;cases hb;rfl
    ·rw[Df e];rw[rL _ ⟨g,al.length,[b3]⟩ e] at hb;exact fe.fc b blk hb
   ii:=fun b hb=>by
    obtain⟨xt,hb⟩:=aW hb
    obtain⟨blk,cP,dd⟩:=fe.ii b hb
    exact⟨blk,by rw[rL _ ⟨g,al.length,[b3]⟩ xt];exact cP,dd⟩
   fresh:=fun b hb=>by
    have hb:B.length+1≤b:=hb
    have:=fe.fresh b hb
    exact⟨by show(if b=0 then none else E1.m b)=none;rw[if_neg (by omega)];exact this.1,by rw[Df (by omega)];exact this.2⟩
   hr:=fun b bU c h1 h2=>fe.hr b bU c (aW h1).2 (aW h2).2
   kG:=fe.kG
   hN:=fun b t c h1 h2=>fe.hN b t c (aW h1).2 h2
   iM:=fun c hc ⟨b,hb⟩=>fe.iM c hc ⟨b,(aW hb).2⟩
   jr:=fe.jr
   dU:=fe.dU
   ga:=fe.ga
   ea:=fe.ea
   gD:=fun c ⟨b,hb⟩=>fe.gD c ⟨b,(aW hb).2⟩
   hG:=fe.hG}
 refine⟨v,E',rfl,rfl,rfl,rfl,rfl,rfl,rfl,fun c hc=> .inl hc,fun c hc=> .inl hc,fun c hc=>hc.elim (fun h=> .inl (ax.dU c h)) (fun h=> .inr (.inr h)),fun c hc=>hc.elim (fun h=>(ax.ga c h).same (oC c (ax.ea c (ax.dU c h)) (fun e=>by subst e;exact zX (ax.dU _ h)))) (fun h=>h.elim (fe.ga c) fun⟨j,_,ah⟩=>by obtain⟨_,al,ty,_,_,q,_⟩:=fe.heap j c ah;exact⟨al,ty,q⟩),fun c hc=> ?_,fun c hc=>hc.elim .inl (fun h=> .inr (Ai c h).1),
  a7.os,a7.tape,a7.output,a7.size,oC,⟨zG,ty2,q2,by rw[q3,az,hc],?_,fun j a ah=> ?_⟩,?_⟩
 ·rcases hc with h | h | h
  ·exact .inl h
  ·exact af1 c h
  ·exact .inr (Ai c h)
 ·have:=cN 0 b3 rfl
  rw[az] at this;exact this
 ·obtain⟨u,hu,hX⟩:=c2 0 j b3 a rfl ah
  refine⟨u,by rw[Nat.zero_mul,Nat.zero_add] at hu;exact hu,?_⟩
  have hb:=List.all_eq_true.1 kC a (List.mem_of_getElem? ah)
  exact(Fy hb hX).mono (fun _ _=>rfl) (fun _ _=>rfl) (fun c hc=> .inr (.inl hc)) (fun c hc=> .inr (.inl hc))
 ·refine OG (E':=E') agb rfl (fun c hc=> ?_) Lo (hv.le hle)
  have:E1.PF c∨ ∃j,j≠0∧E1.m j=some (some c):=hc.elim .inl fun⟨j,ah⟩=> .inr ⟨j,aW ah⟩
  exact⟨.inr (.inr this),.inr this⟩
section
variable {E E':Env} {H:List Blk} {L:List (Nat×List AV)} {bl k n:Nat} {b3:List AV} {t:AV} {v:Value}
theorem wX.step (A:wX E bl k n b3 t v E') (ax:SimH E H) (iu:E.fZ bl∨E.l1 bl):Step E E':=
 {le:=⟨A.gF,A.fU,fun c hc=>A.cZ c (ax.ea c hc) (fun e=>by subst e;exact iu.elim (ax.iM c hc) (ax.jr c hc)),fun c hc=>A.cZ c (ax.ea c (ax.dU c hc)) (fun e=>by subst e;exact iu.elim (ax.iM c (ax.dU c hc)) (ax.jr c (ax.dU c hc))),
   fun b=>by rw[A.bm];exact Nat.le_refl _,fun b x hx _=>by rw[A.m,A.sz,A.cp];exact⟨hx,rfl,rfl⟩,fun t c h=>by rw[A.mL];exact h⟩
  os:=A.os,tape:=A.tape,output:=A.output,size:=A.size
  cZ:=fun c hc h1 h2=>A.cZ c hc (fun e=>by subst e;exact iu.elim h1 h2)
  kd:=fun b c hb=> .inl (by rw[←A.m];exact hb)
  kF:=fun c ⟨t,aY⟩=> .inl ⟨t,by rw[←A.mL];exact aY⟩
  gF:=fun c hc=>(A.HB c hc).elim .inl fun h=> .inr h.1
  fU:=A.ak6}
theorem wX.simH (A:wX E bl k n b3 t v E') (ax:SimH E H) (iu:E.fZ bl∨E.l1 bl) {H':List Blk} (hlen:H'.length=H.length) (aE: ∀(b:Nat) (x:Blk),H'[b]?=some x→ ∃y,H[b]?=some y∧x.bm=y.bm) (hs: ∀(b:Nat) (y:Blk),H[b]?=some y→ ∃x,H'[b]?=some x∧x.sz=y.sz)
  (hb: ∀b c,E.m b=some (some c)→(c≠bl∧H'[b]?=H[b]?)∨ ∃blk al ty,H'[b]?=some blk∧E.sz b=blk.sz∧E'.w.heap[c]?=some (.cells al ty (0,0))∧al.size=E.cp b*E.sz b∧blk.rows.length≤E.cp b∧zn E' (E.sz b) blk.rows al):SimH E' H':=by
 have a7:=A.step ax iu
 have rX: ∀c,E'.fZ c→E.fZ c:=fun c ⟨b,hb⟩=>⟨b,by rw[←A.m];exact hb⟩
 have LO: ∀c,E'.l1 c→E.l1 c:=fun c ⟨b,hb⟩=>⟨b,by rw[←A.mL];exact hb⟩
 have ls:=ax.gD
 have lu:=ax.hG
 exact{
  heap:=fun b c h=>by
   rw[A.m] at h
   rw[A.sz,A.cp]
   rcases hb b c h with⟨bq,he⟩ | h
   ·obtain⟨blk,al,ty,q1,b6,q2,q3,q4,cN,c2⟩:=ax.heap b c h
    refine⟨blk,al,ty,by rw[he];exact q1,b6,by rw[A.cZ c (ls c ⟨b,h⟩) bq];exact q2,q3,q4,cN,fun i j row a h1 h2=> ?_⟩
    obtain⟨u,hu,hX⟩:=c2 i j row a h1 h2
    exact⟨u,hu,hX.le a7.le.bQ⟩
   ·exact h
  fc:=fun b blk h=>by
   rw[A.bm]
   obtain⟨y,h1,h2⟩:=aE b blk h
   rw[h2];exact ax.fc b y h1
  ii:=fun b h=>by
   rw[A.m] at h
   obtain⟨y,h1,h2⟩:=ax.ii b h
   obtain⟨x,aD,bj⟩:=hs b y h1
   exact⟨x,aD,by rw[A.sz,bj];exact h2⟩
  fresh:=fun b h=>by rw[A.m,A.bm];exact ax.fresh b (by rw[←hlen];exact h)
  hr:=fun b bU c h1 h2=>by rw[A.m] at h1 h2;exact ax.hr b bU c h1 h2
  kG:=fun t iU c h1 h2=>by rw[A.mL] at h1 h2;exact ax.kG t iU c h1 h2
  hN:=fun b t c h1 h2=>by rw[A.m] at h1;rw[A.mL] at h2;exact ax.hN b t c h1 h2
  iM:=fun c hc hi=>(A.HB c hc).elim (fun h=>ax.iM c h (rX c hi)) (fun h=>absurd (ls c (rX c hi)) (by omega))
  jr:=fun c hc hi=>(A.HB c hc).elim (fun h=>ax.jr c h (LO c hi)) (fun h=>absurd (lu c (LO c hi)) (by omega))
  dU:=A.dU
  ga:=A.ga
  ea:=fun c hc=>(A.HB c hc).elim (fun h=>Nat.lt_of_lt_of_le (ax.ea c h) A.size) (fun h=>h.2)
  gD:=fun c hc=>Nat.lt_of_lt_of_le (ls c (rX c hc)) A.size
  hG:=fun c hc=>Nat.lt_of_lt_of_le (lu c (LO c hc)) A.size}
theorem wX.row (A:wX E bl k n b3 t v E') (hk:b3.all ky=true) {cells:Array Value} {ty:TypeId} (hw:E'.w.heap[bl]?=some (.cells cells ty (0,0))):b3.length=n∧cells.size=k∧ ∀(j:Nat) (a:AV),b3[j]?=some a→ ∃u,cells[j]?=some u∧b4 E'.bQ a u:=by
 obtain⟨bg,ty2,q1,q2,q3,q4⟩:=A.new
 rw[hw] at q1
 cases q1
 refine⟨q3,q2,fun j a ah=> ?_⟩
 obtain⟨u,hu,aj⟩:=q4 j a ah
 exact⟨u,hu,aP.v1 (E:=E'.bQ) aj⟩
end
theorem acj {P:Program} {f:FuncId} {vs:List Value} {E:Env} {H:List Blk} {L:List (Nat×List AV)} {args eu al b3:List AV} {t:AV} {b g:Nat} (ax:SimH E H) (bJ:SimL E L) (hb:H[b]?=some ⟨g,al.length,[al]⟩) (hk:al.all yc=true) (kC:b3.all ky=true)
  (ar:ak (V2 E) args vs) (hm:AV.ptr b g 0 0∈args) (hs:ak (wY (.ptr b g 0 0) (.ptr 0 g 0 0)) args eu) (h:w0 P f g eu al b3 t):
  Calls P f vs.toArray E.w fun e w'=> ∃v E',e= .returned v∧E'.w=w'∧Step E E'∧SimH E' (H.set b ⟨g,al.length,[b3]⟩)∧SimL E' L∧V3 E' t v∧E'.mL=E.mL:=by
 have lq:=ax.fc b _ hb
 have mh: ∀v,V2 E (.ptr b g 0 0) v→ ∃bl,E.m b=some (some bl)∧v= .pointer (some ⟨bl,0,none⟩):=fun v hv=>by
  obtain⟨bl,hm,rfl⟩:=V3.HF (E:=E) (v:=v) (show V3 E (.ptr b g 0 0) v from hv) lq
  exact⟨bl,hm,by rw[Nat.zero_mul]⟩
 obtain⟨i,hi,he⟩:=List.mem_iff_getElem.1 hm
 have fx:i<vs.length:=ar.1▸hi
 have jo:=ar.2 i _ _ (List.getElem?_eq_getElem hi) (List.getElem?_eq_getElem fx)
 rw[he] at jo
 obtain⟨bl,lW,_⟩:=mh _ jo
 obtain⟨blk,cells,ty,q1,b6,q2,q3,q4,cN⟩:=ax.heap b bl lW
 rw[hb] at q1
 cases q1
 have b6:E.sz b=al.length:=b6
 have iu:bl<E.w.heap.size:=ax.gD bl ⟨b,lW⟩
 refine(Ro (bl:=bl) (cp:=E.cp b) ax iu (fun h=>ax.iM bl h ⟨b,lW⟩) q2 (by rw[q3,b6]) q4 hk (fun j a ah=> ?_) ar (fun v hv=> ?_) hs kC h).mono ?_
 ·obtain⟨u,hu,hX⟩:=cN.2 0 j al a rfl ah
  exact⟨u,by rw[Nat.zero_mul,Nat.zero_add] at hu;exact hu,hX.up⟩
 ·obtain⟨abX,h1,rfl⟩:=mh v hv
  rw[lW] at h1;cases h1;rfl
 rintro e w' ⟨v,E',rfl,rfl,A⟩
 have uh:E.fZ bl∨E.l1 bl:= .inl ⟨b,lW⟩
 have a7:=A.step ax uh
 refine⟨v,E',rfl,rfl,a7,A.simH ax uh (by rw[List.length_set]) (fun j x hx=> ?_) (fun j y aX=> ?_) (fun j c ah=> ?_),fun u c hu=> ?_,A.v3,A.mL⟩
 ·rw[List.getElem?_set] at hx
  split at hx
  ·rename_i e;subst e
   split at hx
   ·cases hx;exact⟨_,hb,rfl⟩
   ·cases hx
  ·exact⟨x,hx,rfl⟩
 ·rw[List.getElem?_set]
  split
  ·rename_i e;subst e
   rw[hb] at aX;cases aX
   rw[if_pos (List.getElem?_eq_some_iff.1 hb).1];exact⟨_,rfl,rfl⟩
  ·exact⟨y,aX,rfl⟩
 ·by_cases e:j=b
  ·subst e
   rw[lW] at ah
   cases ah
   obtain⟨bg,ty2,cP,dd,dV,j3⟩:=A.new
   obtain⟨s1,s2,nC⟩:=A.row kC cP
   refine .inr ⟨⟨g,al.length,[b3]⟩,bg,ty2,by rw[List.getElem?_set,if_pos rfl,if_pos (List.getElem?_eq_some_iff.1 hb).1],b6,cP,by rw[dd,b6],q4,fun i row aj=> ?_,fun i j row a aj ah=> ?_⟩
   ·cases i with
    | zero=>cases aj;rw[b6];exact s1
    | succ i=>cases aj
   ·cases i with
    | zero=>
     cases aj
     obtain⟨u,hu,hX⟩:=nC j a ah
     exact⟨u,by rw[Nat.zero_mul,Nat.zero_add];exact hu,hX⟩
    | succ i=>cases aj
  ·refine .inl ⟨fun h=>e ?_,by rw[List.getElem?_set,if_neg (fun h=>e h.symm)]⟩
   subst h;exact ax.hr j b c ah lW
 ·rw[A.mL] at hu
  obtain⟨zE,bg,ty2,cP,dd,dV⟩:=bJ u c hu
  exact⟨zE,bg,ty2,cP,by rw[A.cZ c (ax.hG c ⟨u,hu⟩) (fun e=>by subst e;exact ax.hN b u c lW hu)];exact dd,dV.mono fun _ _ k=>k.le a7.le.bQ⟩
theorem ack {P:Program} {f:FuncId} {vs:List Value} {E:Env} {H:List Blk} {L:List (Nat×List AV)} {args eu al b3:List AV} {t:AV} {x:Nat} (ax:SimH E H) (bJ:SimL E L) (hx:eR L x=some al) (hk:al.all yc=true) (kC:b3.all ky=true)
  (ar:ak (V2 E) args vs) (hm:AV.fS x 0∈args) (hs:ak (wY (.fS x 0) (.ptr 0 0 0 0)) args eu) (h:w0 P f 0 eu al b3 t):
  Calls P f vs.toArray E.w fun e w'=> ∃v E',e= .returned v∧E'.w=w'∧Step E E'∧SimH E' H∧SimL E' (mw L x b3)∧V3 E' t v∧E'.mL=E.mL:=by
 have mh: ∀v,V2 E (.fS x 0) v→ ∃bl,E.mL x=some bl∧v= .pointer (some ⟨bl,0,none⟩):=fun v hv=>hv
 obtain⟨i,hi,he⟩:=List.mem_iff_getElem.1 hm
 have fx:i<vs.length:=ar.1▸hi
 have jo:=ar.2 i _ _ (List.getElem?_eq_getElem hi) (List.getElem?_eq_getElem fx)
 rw[he] at jo
 obtain⟨bl,lW,_⟩:=mh _ jo
 obtain⟨zE,cells,ty,q1,q2,q3⟩:=bJ x bl lW
 rw[hx] at q1
 cases q1
 have iu:bl<E.w.heap.size:=ax.hG bl ⟨x,lW⟩
 have cm:cells.size=1*al.length:=by rw[Nat.one_mul];exact q3.1.symm
 refine(Ro (bl:=bl) (cp:=1) ax iu (fun h=>ax.jr bl h ⟨x,lW⟩) q2 cm (Nat.le_refl _) hk (fun j a ah=> ?_) ar (fun v hv=> ?_) hs kC h).mono ?_
 ·obtain⟨u,hu,hX⟩:=q3.get ah
  exact⟨u,by rw[Array.getElem?_toList] at hu;exact hu,hX.up⟩
 ·obtain⟨abX,h1,rfl⟩:=mh v hv
  rw[lW] at h1;cases h1;rfl
 rintro e w' ⟨v,E',rfl,rfl,A⟩
 have uh:E.fZ bl∨E.l1 bl:= .inr ⟨x,lW⟩
 have a7:=A.step ax uh
 refine⟨v,E',rfl,rfl,a7,A.simH ax uh rfl (fun j y aX=>⟨y,aX,rfl⟩) (fun j y aX=>⟨y,aX,rfl⟩) (fun j c ah=> .inl ⟨fun e=>by subst e;exact ax.hN j x c ah lW,rfl⟩),fun u c hu=> ?_,A.v3,A.mL⟩
 rw[A.mL] at hu
 rw[C0]
 by_cases e:u=x
 ·subst e
  rw[lW] at hu
  cases hu
  obtain⟨bg,ty2,cP,dd,dV,j3⟩:=A.new
  obtain⟨s1,s2,nC⟩:=A.row kC cP
  rw[if_pos rfl,hx]
  refine⟨b3,bg,ty2,rfl,cP,by show b3.length=bg.size;rw[s1,s2,Nat.one_mul],fun j a v ah hv=> ?_⟩
  obtain⟨apR,pq,hX⟩:=nC j a ah
  rw[Array.getElem?_toList,pq] at hv
  cases hv;exact hX
 ·rw[if_neg e]
  obtain⟨bk,bg,ty2,cP,dd,dV⟩:=bJ u c hu
  exact⟨bk,bg,ty2,cP,by rw[A.cZ c (ax.hG c ⟨u,hu⟩) (fun h=>by subst h;exact e (ax.kG u x c hu lW))];exact dd,dV.mono fun _ _ k=>k.le a7.le.bQ⟩
def Rn (P:Program) (f:FuncId) (args:List AV) (L:List (Nat×List AV)) (H:List Blk) (K:qA Prop):Prop:=
 ∃eu al b3 t,al.all yc=true∧b3.all ky=true∧
  ((∃b g,H[b]?=some ⟨g,al.length,[al]⟩∧AV.ptr b g 0 0∈args∧ak (wY (.ptr b g 0 0) (.ptr 0 g 0 0)) args eu∧w0 P f g eu al b3 t∧K t L (H.set b ⟨g,al.length,[b3]⟩))∨
   ∃x,eR L x=some al∧AV.fS x 0∈args∧ak (wY (.fS x 0) (.ptr 0 0 0 0)) args eu∧w0 P f 0 eu al b3 t∧K t (mw L x b3) H)
theorem aci {P:Program} {f:FuncId} {args:List AV} {L:List (Nat×List AV)} {H:List Blk} {E:Env} {vs:List Value} {K:AV→List (Nat×List AV)→List Blk→Prop} (ax:SimH E H) (bJ:SimL E L) (ar:ak (V2 E) args vs) (h:Rn P f args L H K):
  wa P f=true∧Calls P f vs.toArray E.w fun e w'=> ∃v u L' H' E',e= .returned u∧K v L' H'∧E'.w=w'∧Step E E'∧SimH E' H'∧SimL E' L'∧V3 E' v u∧E'.mL=E.mL:=by
 obtain⟨eu,al,b3,t,hk,kC,⟨b,g,hb,hm,hs,hf,hK⟩ | ⟨x,hx,hm,hs,hf,hK⟩⟩:=h
 ·refine⟨hf.1,(acj ax bJ hb hk kC ar hm hs hf).mono ?_⟩
  rintro e w' ⟨v,E',rfl,rfl,h1,h2,aD,bj,cl⟩
  exact⟨t,v,L,_,E',rfl,hK,rfl,h1,h2,aD,bj,cl⟩
 ·refine⟨hf.1,(ack ax bJ hx hk kC ar hm hs hf).mono ?_⟩
  rintro e w' ⟨v,E',rfl,rfl,h1,h2,aD,bj,cl⟩
  exact⟨t,v,_,H,E',rfl,hK,rfl,h1,h2,aD,bj,cl⟩
def acf (P:Program) (f:FuncId) (args:List AV) (L:List (Nat×List AV)) (H:List Blk) (K:qA Prop):Prop:=
 args.all e9=true∧ ∃eu,ak (df L H) args eu∧de P f eu [] fun r fs=>A5 r=true∧we fs=true∧K (oX H.length r) L (H++fs.map (iD H.length))
def acd (P:Program) (f:FuncId) (args:List AV) (L:List (Nat×List AV)) (H:List Blk) (K:qA Prop):Prop:=
 args.all e9=true∧args.all lE=true∧de P f args H fun r H'=>AW r=true∧K r L H'
def mJ (P:Program) (f:FuncId) (args:List AV) (L:List (Nat×List AV)) (H:List Blk) (K:qA Prop):Prop:=
 qK P f args L H (fun r=>K r L H)∨acf P f args L H K∨acd P f args L H K∨(args.all e9=true∧Rn P f args L H K)
def RY (P:Program) (c:Call) (bD:Operand→AV) (L:List (Nat×List AV)) (H:List Blk) (K:qA Prop):Prop:=match c.callee with
 | .builtin .len=>Kg P c bD L H fun r=>K r L H
 | .builtin .append=>(match c.args.toList,c.argTypes.toList with
  | [s,x],[t,t2]=>e9 (bD s)=true∧e9 (bD x)=true∧w9 P t t2 (bD s) (bD x) L H K
  | _,_=>False)
 | .value f=>nh (bD f) fun g caps=>mJ P g (c.args.toList.map bD++caps) L H K
 | _=>False
def lj (P:Program) (esc:List Nat) (o:Oper) (bD:Operand→AV) (L:List (Nat×List AV)) (H:List Blk) (K:qA Prop):Prop:=match o.op with
 | .store t a v=>e_ (e9 (bD v)) (nG P t (bD a) (bD v) L H fun L' H'=>K (.tup []) L' H')
 | .alloc e=>cV (o6 P e) fun z=>yq esc o.dst z L H K
 | .box e x=>e_ (e9 (bD x)) (yq esc o.dst (fC (bD x)) L H K)
 | .makeSlice t l c=>AS P t (bD l) (bD c) L H K
 | .buildSlice t n ps=>e_ (ps.toList.all fun p=>e9 (bD p.2)) (xc P (xk esc o.dst) (yK esc) t n (ps.toList.map fun p=>(p.1,bD p.2)) L H K)
 | .call c=>RY P c bD L H K
 | _=>vo P o bD L H fun r=>K r L H
theorem Fb {E:Env} {a:AV} {v:Value} (h:e9 a=true) (hv:V3 E a v):V2 E a v:=by
 rwa [qH (AX h)] at hv
theorem acg {P:Program} {f:FuncId} {args:List AV} {L:List (Nat×List AV)} {H:List Blk} {E:Env} {vs:List Value} {K:AV→List (Nat×List AV)→List Blk→Prop} (ax:SimH E H) (bJ:SimL E L)
  (ar:ak (V2 E) args vs) (h:mJ P f args L H K):
  wa P f=true∧Calls P f vs.toArray E.w fun e w'=> ∃v u L' H' E',e= .returned u∧K v L' H'∧E'.w=w'∧Step E E'∧SimH E' H'∧SimL E' L'∧V3 E' v u∧E'.mL=E.mL:=by
 rcases h with⟨af,eu,t,hs,rR,hK⟩ | ⟨af,eu,hs,rR⟩ | ⟨af,aw,rR⟩ | ⟨af,ab⟩
 ·refine⟨rR.1,(Rp (Sub.refl L H) ax bJ ar hs rR).mono ?_⟩
  rintro e w' ⟨v,E',rfl,rfl,U,hv⟩
  exact⟨t,v,L,H,E',rfl,hK,rfl,U.step,U.simH ax,U.simL ax bJ,hv,U.mL⟩
 ·refine⟨rR.1,(ach (Q:=fun r fs=>K (oX H.length r) L (H++fs.map (iD H.length))) ax bJ ar hs rR).mono ?_⟩
  rintro e w' ⟨r,v,fs,E',rfl,hK,rfl,a7,h1,h2,hv,hml⟩
  exact⟨_,v,L,_,E',rfl,hK,rfl,a7,h1,h2,hv,hml⟩
 ·refine⟨rR.1,(ace (Q:=fun r H'=>K r L H') ax bJ ar aw rR).mono ?_⟩
  rintro e w' ⟨r,v,H',E',rfl,hK,rfl,a7,h1,h2,hv,hml⟩
  exact⟨_,v,L,_,E',rfl,hK,rfl,a7,h1,h2,hv,hml⟩
 ·exact aci ax bJ ar ab
theorem acb {P:Program} {f:FuncId} {args:List AV} {L:List (Nat×List AV)} {H:List Blk} {K:AV→List (Nat×List AV)→List Blk→Prop} (h:mJ P f args L H K):args.all e9=true:=by
 rcases h with⟨af,_⟩ | ⟨af,_⟩ | ⟨af,_⟩ | ⟨af,_⟩<;>exact af
set_option maxHeartbeats 1000000 in
theorem evOp_sound {P:Program} {esc:List Nat} {o:Oper} {a:Act} {T:List AV} {E:Env} {L:List (Nat×List AV)} {H:List Blk} {K:AV→List (Nat×List AV)→List Blk→Prop} {Q:Exit→Act→World→Prop}
  (ci: ∀t,V3 E (T.getD t .undef) (a.tmps.getD t undef)) (ax:SimH E H) (bJ:SimL E L) (h:lj P esc o (ch T) L H K):o.wp P a E.w (IP E o a K) Q:=by
 have fin: ∀{s:Sem Value},(execOp a.eval o=(do pure (Next.value (←s))))→(∃v L' H' E' u,K v L' H'∧s.run P E.w= .ok u E'.w∧Step E E'∧SimH E' H'∧SimL E' L'∧V3 E' v u∧ ∀t,o.dst≠some t→E'.mL t=E.mL t)→o.wp P a E.w (IP E o a K) Q:=by
  rintro s hs ⟨v,L',H',E',u,hK,aj,h1,h2,aD,bj,cl⟩
  unfold Oper.wp
  rw[hs]
  exact Qp aj ⟨v,u,L',H',E',hK,rfl,h1,h2,aD,bj,rfl,cl⟩
 have X1:vo P o (ch T) L H (fun r=>K r L H)→o.wp P a E.w (IP E o a K) Q:=fun h=>
  Oper.wp_mono (fun hL w' ⟨v,u,E',hK,hw,U,hv,ar⟩=>⟨v,u,L,H,E',hK,hw,U.step,U.simH ax,U.simL ax bJ,hv,ar,fun t _=>by rw[U.mL]⟩) (R6 ci (Sub.refl L H) ax bJ h)
 obtain⟨dst,op,ty,pos,after,guard⟩:=o
 cases op with
 | store t x v=>
  obtain⟨af,h⟩:=r4 (show e_ (e9 (ch T v)) (nG P t (ch T x) (ch T v) L H fun L' H'=>K (.tup []) L' H') from h)
  obtain⟨L',H',E',hK,aj,h1,h2,aD,hml⟩:=an0 ax bJ (opv_rel ci x) (Fb af (opv_rel ci v)) h
  unfold Oper.wp
  have:(execOp a.eval ⟨dst,.store t x v,ty,pos,after,guard⟩).run P E.w= .ok .skip E'.w:=by
   simp only[execOp,Sem.run_bind,aj,Sem.run_pure,Result.andThen_ok]
  rw[this]
  exact⟨.tup [],_,L',H',E',hK,rfl,h1,h2,aD,⟨[],rfl,ak.nil⟩,rfl,fun t _=>by rw[hml]⟩
 | alloc e=>
  obtain⟨z,az,h⟩:=fT (show cV (o6 P e) fun z=>yq esc dst z L H K from h)
  obtain⟨i,v,q1,q2,q3,q4⟩:=zb (E:=E) az
  obtain⟨r,L',H',E',hK,hw,h1,h2,aD,bj,hml⟩:=W2 (ty:=e) ax bJ q4 h
  refine fin (s:=Instr.alloc e true (.tuple #[])) rfl ⟨r,L',H',E',_,hK,?_,h1,h2,aD,bj,hml⟩
  rw[hw]
  simp[Instr.alloc,zeroValue,typeInfo,q1,q2,newVar,newRow]
 | box e x=>
  obtain⟨af,h⟩:=r4 (show e_ (e9 (ch T x)) (yq esc dst (fC (ch T x)) L H K) from h)
  have hs:(fC (ch T x)).all kR=true:=by
   unfold yq at h;split at h
   ·rename_i q;exact q
   ·exact h.elim
  obtain⟨r,L',H',E',hK,hw,h1,h2,aD,bj,hml⟩:=W2 (ty:=e) ax bJ (JC (Fb af (opv_rel ci x)) hs) h
  refine fin (s:=Instr.box e (a.eval x)) rfl ⟨r,L',H',E',_,hK,?_,h1,h2,aD,bj,hml⟩
  rw[hw]
  simp[Instr.box,newVar,newRow]
 | makeSlice t l c=>
  obtain⟨v,L',H',E',u,hK,aj,h1,h2,aD,bj,hml⟩:=aks ax bJ (opv_rel ci l) (opv_rel ci c) (show AS P t (ch T l) (ch T c) L H K from h)
  exact fin (s:=Instr.makeSlice t (a.eval l) (a.eval c)) rfl ⟨v,L',H',E',u,hK,aj,h1,h2,aD,bj,fun t _=>by rw[hml]⟩
 | buildSlice t n ps=>
  obtain⟨af,h⟩:=r4 (show e_ (ps.toList.all fun p=>e9 (ch T p.2)) (xc P (xk esc dst) (yK esc) t n (ps.toList.map fun p=>(p.1,ch T p.2)) L H K) from h)
  obtain⟨v,u,L',H',E',hK,aj,h1,h2,aD,bj,hml⟩:=abZ ax bJ (NJ ci ps.toList fun p ab=>AX (List.all_eq_true.1 af p ab)) h
  exact fin (s:=Instr.buildSlice t n (ps.toList.map fun p=>(p.1,a.eval p.2)).toArray) (by rw[parts_eq];rfl) ⟨v,L',H',E',u,hK,aj,h1,h2,aD,bj,fun t _=>by rw[hml]⟩
 | call c=>
  have h:RY P c (ch T) L H K:=h
  obtain⟨callee,args,argTypes⟩:=c
  cases callee with
  | builtin b=>
   cases b with
   | len=>exact X1 h
   | append=>
    have h:(match args.toList,argTypes.toList with
     | [s,x],[t,t2]=>e9 (ch T s)=true∧e9 (ch T x)=true∧w9 P t t2 (ch T s) (ch T x) L H K
     | _,_=>False):=h
    split at h
    ·rename_i s x t t2 h1 h2
     obtain rfl:args= #[s,x]:=by rw[←Array.toArray_toList (xs:=args),h1]
     obtain rfl:argTypes= #[t,t2]:=by rw[←Array.toArray_toList (xs:=argTypes),h2]
     obtain⟨b5,n2,h⟩:=h
     obtain⟨r,u,H',E',hK,aj,q1,q2,q3,q4,hml⟩:=abI (ty:=ty) ax bJ (Fb b5 (opv_rel ci s)) (Fb n2 (opv_rel ci x)) h
     unfold Oper.wp
     have:(execOp a.eval ⟨dst,.call ⟨.builtin .append,#[s,x],#[t,t2]⟩,ty,pos,after,guard⟩).run P E.w= .ok (.value u) E'.w:=by
      simp only[execOp,resolve,Sem.run_bind,Sem.run_pure,Result.andThen_ok,invoke,builtin]
      have e:Array.map a.eval #[s,x]= #[a.eval s,a.eval x]:=by simp
      rw[e,aj];rfl
     rw[this]
     exact⟨r,u,L,H',E',hK,rfl,q1,q2,q3,q4,rfl,fun t _=>by rw[hml]⟩
    ·exact h.elim
   | _=>exact h.elim
  | value f=>
   have h:nh (ch T f) fun g caps=>mJ P g (args.toList.map (ch T)++caps) L H K:=h
   cases hf:ch T f with
   | fn g caps=>
    rw[hf] at h
    have h:mJ P g (args.toList.map (ch T)++caps) L H K:=h
    have af:=acb h
    obtain⟨vs,he,xy⟩:=Rq ci hf
    have KQ:ak (V2 E) (args.toList.map (ch T)++caps) (args.toList.map a.eval++vs):=
     ak.append (Q3 ci args.toList fun x hx=>AX (List.all_eq_true.1 af _ (by simp;exact .inl ⟨x,by simpa using hx,rfl⟩))) xy
    obtain⟨gB,hc⟩:=acg ax bJ KQ h
    unfold Oper.wp
    rw[show execOp a.eval ⟨dst,.call ⟨.value f,args,argTypes⟩,ty,pos,after,guard⟩=(do let d ←resolve a.eval ⟨.value f,args,argTypes⟩ ty;invoke d.target d.args) from rfl]
    rw[Yn (P:=P) (ty:=ty) (w:=E.w) (c:=⟨.value f,args,argTypes⟩) rfl he gB]
    refine hc.mono ?_
    rintro e w' ⟨v,u,L',H',E',rfl,hK,rfl,q1,q2,q3,q4,hml⟩
    exact⟨v,u,L',H',E',hK,rfl,q1,q2,q3,q4,rfl,fun t _=>by rw[hml]⟩
   | _=>rw[hf] at h;exact h.elim
  | _=>exact h.elim
 | _=>exact X1 h
def rB (lit:Bool) (b:Bool) (x y:Prop):Prop:=match lit with
 | true=>(match b with
  | true=>x
  | false=>y)
 | false=>CG b x y
theorem Fv {lit b:Bool} {x y:Prop} (h:rB lit b x y):(b=true→x)∧(b=false→y):=by
 cases lit with
 | false=>exact h
 | true=>cases b<;>exact⟨fun e=>by cases e<;>exact h,fun e=>by cases e<;>exact h⟩
def putA (T:List AV) (dst:Option Nat) (v:AV):List AV:=match dst with
 | some d=>T.set d v
 | none=>T
def qa (ops:Array Oper) (lit:Bool) (o:Oper) (T:List AV) (x y:List AV→Prop):Prop:=match o.guard with
 | none=>x T
 | some (j,c6)=>match(ops[j]?).bind (·.dst) with
  | none=>False
  | some t=>match T.getD t .undef with
   | .bool b=>rB lit b (if c6=true then x (T.set t (.bool true)) else y (T.set t (.bool true))) (if c6=true then y (T.set t (.bool false)) else x (T.set t (.bool false)))
   | .tup []=>y T
   | _=>False
def yD (lit:Bool) (o:Oper) (T:List AV) (K:AV→Prop) (FR:Prop):Prop:=match o.op with
 | .pick c x y=>qJ (ch T c) fun z=>rB lit z (K (ch T x)) (K (ch T y))
 | _=>FR
def evOps (P:Program) (esc:List Nat) (ops:Array Oper):List (Oper×Bool)→List AV→List (Nat×List AV)→List Blk→(List AV→List (Nat×List AV)→List Blk→Prop)→Prop
 | [],T,L,H,K=>K T L H
 | (o,lit)::rest,T,L,H,K=>qa ops lit o T
   (fun T=>yD lit o T (fun v=>evOps P esc ops rest (putA T o.dst v) L H K) (lj P esc o (ch T) L H fun v L' H'=>evOps P esc ops rest (putA T o.dst v) L' H' K))
   (fun T=>evOps P esc ops rest (putA T o.dst (.tup [])) L H K)
theorem tX {T:List AV} {d t:Nat} {v:AV}:(T.set d v).getD t .undef=if d=t∧d<T.length then v else T.getD t .undef:=by
 rw[List.getD_eq_getElem?_getD,List.getD_eq_getElem?_getD,List.getElem?_set]
 by_cases h:d=t
 ·subst h
  by_cases aw:d<T.length
  ·simp[aw]
  ·simp[aw]
 ·simp[h]
theorem YV {E:Env} {T:List AV} {a:Act} (ci: ∀t,V3 E (T.getD t .undef) (a.tmps.getD t undef)) (hs:T.length=a.tmps.size) {dst:Option Nat} {v:AV} {u:Value} (hv:V3 E v u):
  (∀t,V3 E ((putA T dst v).getD t .undef) ((a.put dst u).tmps.getD t undef))∧(putA T dst v).length=(a.put dst u).tmps.size:=by
 cases dst with
 | none=>exact⟨ci,hs⟩
 | some d=>
  refine⟨fun t=> ?_,by simp[putA,Act.put,hs]⟩
  show V3 E ((T.set d v).getD t .undef) ((a.tmps.setIfInBounds d u).getD t undef)
  rw[tX,Array.getD_eq_getD_getElem?,Array.getElem?_setIfInBounds]
  by_cases h:d=t
  ·subst h
   by_cases aw:d<T.length
   ·have Gt:d<a.tmps.size:=hs▸aw
    simp[aw,Gt];exact hv
   ·have Gt: ¬d<a.tmps.size:=hs▸aw
    have:=ci d
    rw[Array.getD_eq_getD_getElem?] at this
    simp[aw,Gt] at this ⊢
    exact this
  ·have:=ci t
   rw[Array.getD_eq_getD_getElem?] at this
   simp[h];exact this
theorem amE {E:Env} {T:List AV} {a:Act} (ci: ∀t,V3 E (T.getD t .undef) (a.tmps.getD t undef)) {t:Nat} {b:Bool} (h:T.getD t .undef= .bool b):
  ∀s,V3 E ((T.set t (.bool b)).getD s .undef) (a.tmps.getD s undef):=fun s=>by
 rw[tX]
 by_cases hs:t=s∧t<T.length
 ·rw[if_pos hs,←h,hs.1];exact ci s
 ·rw[if_neg hs];exact ci s
theorem aoV {ops:Array Oper} {a:Act} {T:List AV} {E:Env} (ci: ∀t,V3 E (T.getD t .undef) (a.tmps.getD t undef)) {j t:Nat} {b:Bool} (ah:(ops[j]?).bind (·.dst)=some t) (h:T.getD t .undef= .bool b) (hs:T.length=a.tmps.size):
  yielded ops a.tmps j=some b:=by
 have hv:=ci t
 rw[h] at hv
 have he:a.tmps.getD t undef= .bool b:=V3.p2 hv
 unfold yielded
 rw[ah]
 rw[Array.getD_eq_getD_getElem?] at he
 cases U:a.tmps[t]? with
 | none=>rw[U] at he;cases he
 | some x=>rw[U] at he;have:x= .bool b:=he;subst this;simp[U]
theorem aoW {ops:Array Oper} {a:Act} {T:List AV} {E:Env} (ci: ∀t,V3 E (T.getD t .undef) (a.tmps.getD t undef)) {j t:Nat} (ah:(ops[j]?).bind (·.dst)=some t) (h:T.getD t .undef= .tup []):
  yielded ops a.tmps j=none:=by
 have hv:=ci t
 rw[h] at hv
 obtain⟨vs,he,ab⟩:=(show ∃vs:List Value,a.tmps.getD t undef= .tuple vs.toArray∧ak (V2 E) [] vs from hv)
 obtain rfl:=ab.n8
 unfold yielded
 rw[ah]
 rw[Array.getD_eq_getD_getElem?] at he
 cases U:a.tmps[t]? with
 | none=>simp[U]
 | some x=>rw[U] at he;have:x= .tuple #[]:=he;subst this;simp[U]
theorem aet {P:Program} {ops:Array Oper} {lit:Bool} {o:Oper} {a:Act} {T:List AV} {E:Env} {w:World} {x y:List AV→Prop} {R:Prop}
  (ci: ∀t,V3 E (T.getD t .undef) (a.tmps.getD t undef)) (hs:T.length=a.tmps.size) (h:qa ops lit o T x y)
  (tC: ∀T',Region.wanted o (yielded ops a.tmps)=true→(∀t,V3 E (T'.getD t .undef) (a.tmps.getD t undef))→T'.length=a.tmps.size→x T'→R)
  (no: ∀T',Region.wanted o (yielded ops a.tmps)=false→(∀t,V3 E (T'.getD t .undef) (a.tmps.getD t undef))→T'.length=a.tmps.size→y T'→R):R:=by
 unfold qa at h
 cases aE:o.guard with
 | none=>rw[aE] at h;exact tC T (by simp[Region.wanted,aE]) ci hs h
 | some g=>
  obtain⟨j,c6⟩:=g
  rw[aE] at h
  simp only at h
  cases ah:(ops[j]?).bind (·.dst) with
  | none=>rw[ah] at h;exact h.elim
  | some t=>
   rw[ah] at h
   simp only at h
   split at h
   ·rename_i b hb
    have aX:=aoV (ops:=ops) ci ah hb hs
    have hk:=amE ci hb
    obtain⟨h1,h2⟩:=Fv h
    cases b with
    | true=>
     have h:=h1 rfl
     cases c6 with
     | true=>exact tC _ (by simp[Region.wanted,aE,aX]) hk (by simpa using hs) h
     | false=>exact no _ (by simp[Region.wanted,aE,aX]) hk (by simpa using hs) h
    | false=>
     have h:=h2 rfl
     cases c6 with
     | true=>exact no _ (by simp[Region.wanted,aE,aX]) hk (by simpa using hs) h
     | false=>exact tC _ (by simp[Region.wanted,aE,aX]) hk (by simpa using hs) h
   ·rename_i hb
    have aX:=aoW (ops:=ops) ci ah hb
    exact no T (by simp[Region.wanted,aE,aX]) ci hs h
   ·exact h.elim
theorem FX [cH] {P:Program} {esc:List Nat} {ops:Array Oper} {Q:Exit→St→Prop} {cr:Env}: ∀(l:List (Oper×Bool)) (T:List AV) (L:List (Nat×List AV)) (H:List Blk) (E:Env) (a:Act),
  Good cr E→w6 E ⟨T,L,H⟩ a.tmps→a.defers=[]→evOps P esc ops l T L H (fun T L H=>Q .normal ⟨T,L,H⟩)→wpList P ops (pd cr Q) (l.map (·.1)) a E.w
 | [],T,L,H,E,a,aE,hs,aW,h=>⟨rfl,⟨T,L,H⟩,E,h,rfl,aE,hs,aW⟩
 | (o,lit)::rest,T,L,H,E,a,aE,hs,aW,h=>by
  have ci: ∀t,V3 E (T.getD t .undef) (a.tmps.getD t undef):=hs.jt
  show if Region.wanted o (yielded ops a.tmps) then o.wp P a E.w (wpList P ops (pd cr Q) (rest.map (·.1))) (pd cr Q)∨_ else wpList P ops (pd cr Q) (rest.map (·.1)) (a.put o.dst undef) E.w
  refine aet (P:=P) (w:=E.w) ci hs.size h (fun T' hw hT' nr h'=> ?_) (fun T' hw hT' nr h'=> ?_)
  ·rw[if_pos hw]
   refine .inl ?_
   have next: ∀(v:AV) (u:Value) (L':List (Nat×List AV)) (H':List Blk) (E':Env),Step E E'→SimH E' H'→SimL E' L'→V3 E' v u→evOps P esc ops rest (putA T' o.dst v) L' H' (fun T L H=>Q .normal ⟨T,L,H⟩)→
     wpList P ops (pd cr Q) (rest.map (·.1)) (a.put o.dst u) E'.w:=fun v u L' H' E' q1 q2 q3 q4 hK=>by
    obtain⟨cP,dd⟩:=YV (fun t=>(hT' t).le q1.le) nr (dst:=o.dst) q4
    refine FX rest _ _ _ E' (a.put o.dst u) (aE.step q1) ⟨q2,q3,cP,dd⟩ ?_ hK
    cases o.dst<;>exact aW
   have bm:(lj P esc o (ch T') L H fun v L' H'=>evOps P esc ops rest (putA T' o.dst v) L' H' (fun T L H=>Q .normal ⟨T,L,H⟩))→o.wp P a E.w (wpList P ops (pd cr Q) (rest.map (·.1))) (pd cr Q):=fun h'=>
    Oper.wp_mono (fun hL w' ⟨v,u,L',H',E',hK,e4,q1,q2,q3,q4,ar,_⟩=>by
     subst ar;subst e4
     exact next v u L' H' E' q1 q2 q3 q4 hK) (evOp_sound hT' hs.h hs.l h')
   unfold yD at h'
   split at h'
   ·rename_i c x y gH
    obtain⟨b,hb,bw⟩:=Fj h'
    obtain⟨h1,h2⟩:=Fv bw
    have hv:=opv_rel hT' c
    rw[hb] at hv
    have he:a.eval c= .bool b:=V3.p2 hv
    unfold Oper.wp
    have hx: ∀z,(z=if b=true then a.eval x else a.eval y)→(execOp a.eval o).run P E.w= .ok (.value z) E.w:=fun z az=>by
     subst az
     simp only[execOp,gH,he,asBool,Sem.run_bind,Sem.run_pure,Result.andThen_ok]
    cases b with
    | true=>rw[hx (a.eval x) rfl];exact next _ _ L H E (Step.refl E) hs.h hs.l (opv_rel hT' x) (h1 rfl)
    | false=>rw[hx (a.eval y) rfl];exact next _ _ L H E (Step.refl E) hs.h hs.l (opv_rel hT' y) (h2 rfl)
   ·exact bm h'
  ·rw[hw]
   show wpList P ops (pd cr Q) (rest.map (·.1)) (a.put o.dst undef) E.w
   obtain⟨cP,dd⟩:=YV (a:=a) hT' nr (dst:=o.dst) (v:= .tup []) (u:=undef) ⟨[],rfl,ak.nil⟩
   refine FX rest (putA T' o.dst (.tup [])) L H E (a.put o.dst undef) aE ⟨hs.h,hs.l,cP,dd⟩ ?_ h'
   cases o.dst<;>exact aW
def lits (ops:Array Oper) (uI:List Nat):List (Oper×Bool):=ops.toList.zipIdx.map fun p=>(p.1,uI.contains p.2)
theorem aj0 (ops:Array Oper) (uI:List Nat):(lits ops uI).map (·.1)=ops.toList:=by
 unfold lits
 rw[List.map_map]
 apply List.ext_getElem?
 intro i
 simp only[List.getElem?_map,List.getElem?_zipIdx]
 cases ops.toList[i]?<;>rfl
theorem WpS.region [cH] {P:Program} {esc:List Nat} {uI:List Nat} {id:Nat} {ops:Array Oper} {Q:Exit→St→Prop} {ap:St} (h:evOps P esc ops (lits ops uI) ap.T ap.L ap.H (fun T L H=>Q .normal ⟨T,L,H⟩)):WpS P (.region id ops false) Q ap:=fun cr E a g s d=>by
 refine wp_region_list ?_
 have:=FX (lits ops uI) ap.T ap.L ap.H E a g s d h
 rwa [aj0] at this
def yn (c3:List Nat):AV→Bool
 | .fS t _=> !c3.contains t
 | _=>true
def vT (c3:List Nat):AV→Bool
 | .fn _ caps=>caps.all (yn c3)
 | a=>yn c3 a
def vU (c3:List Nat):AV→Bool
 | .agg l=>l.all (vT c3)
 | a=>vT c3 a
def q0 (c3:List Nat):AV→Bool
 | .tup l=>l.all (vU c3)
 | a=>vU c3 a
def Env.drop (E:Env) (c3:List Nat):Env:={E with mL:=fun t=>if c3.contains t=true then none else E.mL t}
section
variable {E:Env} {c3:List Nat}
theorem fu.drop {a:AV} {v:Value} (h:yn c3 a=true) (hv:fu E a v):fu (E.drop c3) a v:=by
 cases a with
 | fS t c=>
  obtain⟨bl,hm,e⟩:=hv
  have:c3.contains t=false:=by simpa[yn] using h
  exact⟨bl,by show(if c3.contains t=true then none else E.mL t)=_;rw[if_neg (by rw[this];simp)];exact hm,e⟩
 | _=>exact hv
theorem b4.drop {a:AV} {v:Value} (h:vT c3 a=true) (hv:b4 E a v):b4 (E.drop c3) a v:=by
 by_cases hf: ∃f caps,a= .fn f caps
 ·obtain⟨f,caps,rfl⟩:=hf
  obtain⟨vs,e,ab⟩:=hv
  exact⟨vs,e,ab.1,fun i x y hx aX=>(ab.2 i x y hx aX).drop (List.all_eq_true.1 (show caps.all (yn c3)=true from h) x (List.mem_of_getElem? hx))⟩
 ·have aA:vT c3 a=yn c3 a:=by cases a<;>first | rfl | exact absurd ⟨_,_,rfl⟩ hf
  rw[sv fun f c e=>hf ⟨f,c,e⟩] at hv ⊢
  exact hv.drop (aA▸h)
theorem V2.drop {a:AV} {v:Value} (h:vU c3 a=true) (hv:V2 E a v):V2 (E.drop c3) a v:=by
 by_cases hf: ∃l,a= .agg l
 ·obtain⟨l,rfl⟩:=hf
  obtain⟨vs,e,ab⟩:=hv
  exact⟨vs,e,ab.1,fun i x y hx aX=>(ab.2 i x y hx aX).drop (List.all_eq_true.1 (show l.all (vT c3)=true from h) x (List.mem_of_getElem? hx))⟩
 ·have aA:vU c3 a=vT c3 a:=by cases a<;>first | rfl | exact absurd ⟨_,rfl⟩ hf
  rw[qG fun l e=>hf ⟨l,e⟩] at hv ⊢
  exact hv.drop (aA▸h)
theorem V3.drop {a:AV} {v:Value} (h:q0 c3 a=true) (hv:V3 E a v):V3 (E.drop c3) a v:=by
 by_cases hf: ∃l,a= .tup l
 ·obtain⟨l,rfl⟩:=hf
  obtain⟨vs,e,ab⟩:=hv
  exact⟨vs,e,ab.1,fun i x y hx aX=>(ab.2 i x y hx aX).drop (List.all_eq_true.1 (show l.all (vU c3)=true from h) x (List.mem_of_getElem? hx))⟩
 ·have aA:q0 c3 a=vU c3 a:=by cases a<;>first | rfl | exact absurd ⟨_,rfl⟩ hf
  rw[qH fun l e=>hf ⟨l,e⟩] at hv ⊢
  exact hv.drop (aA▸h)
end
def p6 (c3:List Nat) (L:List (Nat×List AV)):List (Nat×List AV):=match L with
 | []=>[]
 | (k,c)::L=>match c3.contains k with
  | true=>p6 c3 L
  | false=>(k,c)::p6 c3 L
theorem FL {c3:List Nat}: ∀(L:List (Nat×List AV)) (t:Nat),c3.contains t=false→eR (p6 c3 L) t=eR L t
 | [],t,h=>rfl
 | (k,c)::L,t,h=>by
  unfold p6
  split
  ·rename_i hk
   have:t≠k:=fun e=>by subst e;rw[h] at hk;cases hk
   rw[FL L t h];simp[eR,this]
  ·simp only[eR];rw[FL L t h]
theorem Weak.p6 [cH] (c3:List Nat) {T:List AV} {L:List (Nat×List AV)} {H:List Blk} (h:T.all (q0 c3)=true):Weak ⟨T,L,H⟩ ⟨T,p6 c3 L,H⟩:=fun cr E tmps g s=>by
 have hm: ∀t c,(E.drop c3).mL t=some c→c3.contains t=false∧E.mL t=some c:=by
  intro t c hc
  have hc:(if c3.contains t=true then none else E.mL t)=some c:=hc
  split at hc
  ·cases hc
  ·rename_i q;exact⟨by simpa using q,hc⟩
 have hi: ∀c,(E.drop c3).l1 c→E.l1 c:=fun c ⟨t,aY⟩=>⟨t,(hm t c aY).2⟩
 have ik:SimH E H:=s.h
 refine⟨E.drop c3,rfl,?_,?_,?_,fun t=> ?_,s.size⟩
 ·exact{g with
   le:={g.le with mL:=fun t c hc=>by rw[g.bQ t] at hc;cases hc}
   kF:=fun c hc=>g.kF c (hi c hc)}
 ·exact{ik with
   heap:=ik.heap
   kG:=fun t iU c h1 h2=>ik.kG t iU c (hm t c h1).2 (hm iU c h2).2
   hN:=fun b t c h1 h2=>ik.hN b t c h1 (hm t c h2).2
   jr:=fun c hc hx=>ik.jr c hc (hi c hx)
   hG:=fun c hx=>ik.hG c (hi c hx)}
 ·intro t c hc
  obtain⟨h1,h2⟩:=hm t c hc
  obtain⟨cells,al,ty,q1,q2,q3⟩:=s.l t c h2
  exact⟨cells,al,ty,by show eR (Fw.p6 c3 L) t=_;rw[FL L t h1];exact q1,q2,q3⟩
 ·show V3 (E.drop c3) (T.getD t .undef) _
  refine(s.jt t).drop ?_
  show q0 c3 (T.getD t .undef)=true
  rw[List.getD_eq_getElem?_getD]
  cases U:T[t]? with
  | none=>rfl
  | some a=>exact List.all_eq_true.1 h a (List.mem_of_getElem? U)
def uD:AV→Bool
 | .aZ [] true _=>true
 | _=>false
theorem adi {E:Env} {a:AV} {v:Value} (h:uD a=true) (hv:fu E a v): ∃A,v= .slice A 0 0:=by
 have key: ∀rows full fr,a= .aZ rows full fr→rows=[]→full=true→ ∃A,v= .slice A 0 0:=by
  intro rows full fr e aj hf
  subst e
  have hv:aP E.w E.PA E.PF (.aZ rows full fr) v:=hv
  cases hv with
  | @aZ _ _ PB _ _ _ A cap sz vs fH fw gP cm eH hrel=>
   refine⟨A,?_⟩
   rw[gP hf,aj];rfl
 unfold uD at h
 split at h
 ·exact key _ _ _ rfl rfl rfl
 ·cases h
theorem J8 {E E':Env} {a:AV} {v:Value} {b:Nat} (h:uD a=true) (hv:b4 E a v) (aE:E'.bm b=0) (hm:E'.m b=some none):b4 E' (.ref b 0 0 0 false) v:=by
 have jo:fu E a v:=by
  rwa [sv] at hv
  rintro f c rfl;cases h
 obtain⟨A,rfl⟩:=adi h jo
 exact .inr ⟨aE.symm,.inl ⟨hm,rfl,rfl,A,rfl⟩⟩
theorem Weak.abA [cH] (i sz:Nat) {T:List AV} {L:List (Nat×List AV)} {H:List Blk} (h:uD (T.getD i .undef)=true):Weak ⟨T,L,H⟩ ⟨T.set i (.ref H.length 0 0 0 false),L,H++[⟨0,sz,[]⟩]⟩:=fun cr E tmps g s=>by
 obtain⟨E',hw,a7,h1,h2,aD,bj,_⟩:=Hn (blk:=⟨0,sz,[]⟩) s.h s.l rfl rfl
 refine⟨E',hw,g.step a7,h1,h2,fun t=> ?_,by simpa using s.size⟩
 show V3 E' ((T.set i _).getD t .undef) _
 rw[tX]
 split
 ·rename_i U
  obtain⟨rfl,_⟩:=U
  have hv:=s.jt i
  have mi:b4 E (T.getD i .undef) (tmps.getD i undef):=by
   have hv:V3 E (T.getD i .undef) (tmps.getD i undef):=hv
   rw[qH,qG] at hv
   ·exact hv
   ·intro l e;rw[e] at h;cases h
   ·intro l e;rw[e] at h;cases h
  exact sw (lP (J8 h mi aD bj))
 ·exact(s.jt t).le a7.le
theorem Weak.Jc [cH] (t i sz:Nat) {T:List AV} {L:List (Nat×List AV)} {H:List Blk} {cells:List AV} (hc:eR L t=some cells) (h:uD (cells.getD i .undef)=true):
  Weak ⟨T,L,H⟩ ⟨T,mw L t (cells.set i (.ref H.length 0 0 0 false)),H++[⟨0,sz,[]⟩]⟩:=fun cr E tmps g s=>by
 obtain⟨E',hw,a7,h1,h2,aD,bj,cl,cC⟩:=Hn (blk:=⟨0,sz,[]⟩) s.h s.l rfl rfl
 refine⟨E',hw,g.step a7,h1,?_,fun t=>(s.jt t).le a7.le,s.size⟩
 intro u c hm
 obtain⟨hU,al,ty,q1,q2,q3⟩:=h2 u c hm
 show ∃Jz al ty,eR (mw L t _) u=some Jz∧_
 rw[C0]
 by_cases hu:u=t
 ·subst hu
  rw[if_pos rfl]
  have Ed:eR L u=some hU:=q1
  rw[hc] at Ed
  cases Ed
  refine⟨_,al,ty,by rw[hc];rfl,q2,by simpa using q3.1,fun j x v hx hv=> ?_⟩
  rw[List.getElem?_set] at hx
  split at hx
  ·rename_i nU
   subst nU
   split at hx
   ·rename_i aM
    cases hx
    have aE:=List.getElem?_eq_getElem aM
    have:cells.getD i .undef=cells[i]:=by rw[List.getD_eq_getElem?_getD,aE];rfl
    have mi:=q3.2 i _ v aE hv
    rw[this] at h
    exact J8 (E:=E'.bQ) h mi aD bj
   ·cases hx
  ·exact q3.2 j x v hx hv
 ·rw[if_neg hu]
  exact⟨hU,al,ty,q1,q2,q3⟩
structure c8 where
 bi:Int
 a1:Int
 deriving Inhabited,DecidableEq
structure Way where
 ao:List Int
 bA:List c8
 cO:List c8
 dk:List Int
 eb:List Int
 deriving Inhabited,DecidableEq
structure aQ where
 ao:Int
 a_:List Int
 O:List Way
 bu:List (List Bool)
 cv:Int
 deriving Inhabited,DecidableEq
structure Event where
 op:Int
 aC:Int
 a1:Int
 deriving Inhabited,DecidableEq
structure bP where
 c6:Int
 bA:Int
 deriving Inhabited,DecidableEq
structure av where
 aJ:Int
 ba:Int
 ae:List Bool
 bS:Bool
 bR:Int
 deriving Inhabited,DecidableEq
structure Frame where
 ok:Bool
 aB:List Bool
 au:List bP
 O:List av
 deriving Inhabited,DecidableEq
structure jO where
 code:Int
 frame:Frame
 deriving Inhabited,DecidableEq
structure rv where
 code:Int
 pos:Int
 deriving Inhabited,DecidableEq
structure su where
 O:List Int
 ao:List Int
 au:List Int
 deriving Inhabited,DecidableEq
structure lc where
 code:List UInt8
 pos:Int
 En:Int
 deriving Inhabited
def cB (n:Int):List AV:=[.int .i64 n]
def FP (n:UInt8):List AV:=[.int .u8 n.toNat]
def aT (b:Bool):List AV:=[.bool b]
def J6 (s:ByteArray):List AV:=[.str s]
def gO {α:Type} (e:α→List AV) (fr:Bool) (xs:List α):List AV:=[.aZ (xs.map e) false fr]
def c9 (x:c8):List AV:=[.int .i64 x.bi,.int .i64 x.a1]
def dS (fr:Bool) (x:Way):List AV:=[.aZ (x.ao.map cB) false fr,.aZ (x.bA.map c9) false fr,.aZ (x.cO.map c9) false fr,.aZ (x.dk.map cB) false fr,.aZ (x.eb.map cB) false fr]
def bH (fr:Bool) (x:aQ):List AV:=[.int .i64 x.ao,.aZ (x.a_.map cB) false fr,.aZ (x.O.map (dS false)) false fr,.aZ (x.bu.map (gO aT false)) false fr,.int .i64 x.cv]
def ie (x:Event):List AV:=[.int .i64 x.op,.int .i64 x.aC,.int .i64 x.a1]
def bh (x:bP):List AV:=[.int .i64 x.c6,.int .i64 x.bA]
def e3 (fr:Bool) (x:av):List AV:=[.int .i64 x.aJ,.int .i64 x.ba,.aZ (x.ae.map aT) false fr,.bool x.bS,.int .i64 x.bR]
def b9 (fr:Bool) (x:Frame):List AV:=[.bool x.ok,.aZ (x.aB.map aT) false fr,.aZ (x.au.map bh) false fr,.aZ (x.O.map (e3 false)) false fr]
def ir (fr:Bool) (x:jO):List AV:=[.int .i64 x.code,.bool x.frame.ok,.aZ (x.frame.aB.map aT) false fr,.aZ (x.frame.au.map bh) false fr,.aZ (x.frame.O.map (e3 false)) false fr]
def J4 (x:rv):List AV:=[.int .i64 x.code,.int .i64 x.pos]
def ade (fr:Bool) (x:lc):List AV:=[.aZ (x.code.map FP) false fr,.int .i64 x.pos,.int .u64 x.En]
def FO (fr:Bool) (x:su):List AV:=[.aZ (x.O.map cB) false fr,.aZ (x.ao.map cB) false fr,.aZ (x.au.map cB) false fr]
def nth {α:Type} [Inhabited α] (xs:List α) (i:Int):α:=xs.getD i.toNat default
theorem h7 {α:Type} [Inhabited α] {xs:List α} {i:Int} (h:i.toNat<xs.length):xs[i.toNat]?=some (nth xs i):=by
 unfold nth
 rw[List.getD_eq_getElem?_getD,List.getElem?_eq_getElem h];rfl
def v7:Code→List Nat→Code
 | c,[]=>c
 | .seq x y,n::p=>match n with
  | 0=>v7 x p
  | _=>v7 y p
 | .cond _ x y,n::p=>match n with
  | 0=>v7 x p
  | _=>v7 y p
 | .block _ x,_::p=>v7 x p
 | .loop x,_::p=>v7 x p
 | .scope x,_::p=>v7 x p
 | c,_=>c
def j8 (f:Func):Code:=f.body.getD .skip
theorem WpS.seq' [cH] {P:Program} {c x y:Code} {Q:Exit→St→Prop} {ap:St} (e:c= .seq x y) (h:WpS P x (ej P y Q) ap):WpS P c Q ap:=e▸WpS.seq h
theorem WpS.acJ [cH] {P:Program} {c x y:Code} {o:Operand} {Q:Exit→St→Prop} {ap:St} {b:Bool} (e:c= .cond o x y) (hb:ch ap.T o= .bool b) (h1:b=true→WpS P x Q ap) (h2:b=false→WpS P y Q ap):WpS P c Q ap:=
 e▸WpS.cond (by rw[hb];exact⟨h1,h2⟩)
theorem WpS.Rd [cH] {P:Program} {c x:Code} {id:Nat} {Q:Exit→St→Prop} {ap:St} (e:c= .block id x) (h:WpS P x (cs id Q) ap):WpS P c Q ap:=e▸WpS.block h
theorem WpS.al8 [cH] {P:Program} {c:Code} {Q:Exit→St→Prop} {ap:St} (e:c= .skip) (h:Q .normal ap):WpS P c Q ap:=e▸WpS.skip h
theorem WpS.alF [cH] {P:Program} {c:Code} {Q:Exit→St→Prop} {ap:St} (e:c= .ret) (h:Q .ret ap):WpS P c Q ap:=e▸WpS.ret h
theorem WpS.adu [cH] {P:Program} {c:Code} {id:Nat} {Q:Exit→St→Prop} {ap:St} (e:c= .exit id) (h:Q (.exit id) ap):WpS P c Q ap:=e▸WpS.exit h
theorem WpS.aj7 [cH] {P:Program} {c x:Code} {Q:Exit→St→Prop} {ap:St} {V:Type} (S:V→St) (I:V→Prop) (m:V→Nat) (e:c= .loop x) (v0:V) (hs:Weak ap (S v0)) (aA:I v0)
  (round: ∀v,I v→WpS P x (fun ex s=>match ex with
   | .normal=> ∃eM,I eM∧m eM<m v∧Weak s (S eM)
   | ex=>Q ex s) (S v)):WpS P c Q ap:=by
 subst e
 refine WpS.so (WpS.loop (fun n s=> ∃v,I v∧s=S v∧n=m v) (m v0) ⟨v0,aA,rfl,rfl⟩ ?_) hs
 rintro n s ⟨v,hv,rfl,rfl⟩
 refine WpS.mono (round v hv) fun ex s U=> ?_
 cases ex with
 | normal=>
  obtain⟨eM,h1,h2,aD⟩:=U
  exact⟨m eM,S eM,h2,aD,eM,h1,rfl,rfl⟩
 | _=>exact U
theorem ej.normal [cH] {P:Program} {y:Code} {Q:Exit→St→Prop} {s:St} (h:WpS P y Q s):ej P y Q .normal s:=h
theorem ej.ret [cH] {P:Program} {y:Code} {Q:Exit→St→Prop} {s:St} (h:Q .ret s):ej P y Q .ret s:=h
theorem ej.exit [cH] {P:Program} {y:Code} {Q:Exit→St→Prop} {s:St} {id:Nat} (h:Q (.exit id) s):ej P y Q (.exit id) s:=h
theorem cs.normal {id:Nat} {Q:Exit→St→Prop} {s:St} (h:Q .normal s):cs id Q .normal s:=h
theorem cs.ret {id:Nat} {Q:Exit→St→Prop} {s:St} (h:Q .ret s):cs id Q .ret s:=h
theorem cs.here {id:Nat} {Q:Exit→St→Prop} {s:St} (h:Q .normal s):cs id Q (.exit id) s:=by
 show(if id=id then _ else _);rw[if_pos rfl];exact h
theorem cs.there {id gC:Nat} {Q:Exit→St→Prop} {s:St} (bq:gC≠id) (h:Q (.exit gC) s):cs id Q (.exit gC) s:=by
 show(if gC=id then _ else _);rw[if_neg bq];exact h
theorem df.jc {L:List (Nat×List AV)} {H:List Blk} {a b:AV} (h:gN L H a b):df L H a b:= .inr h
theorem df.agg {L:List (Nat×List AV)} {H:List Blk} {l fQ:List AV} (h:ak (gN L H) l fQ):df L H (.agg l) (.agg fQ):= .inl ⟨l,fQ,rfl,rfl,h⟩
theorem j7.jc {H:List Blk} {a b:AV} (h:ho H a b):j7 H a b:= .inr (.inr h)
theorem j7.agg {H:List Blk} {l fQ:List AV} (h:ak (ho H) l fQ):j7 H (.agg l) (.agg fQ):= .inr (.inl ⟨l,fQ,rfl,rfl,h⟩)
theorem WpS.start [cH] {P:Program} {c:Code} {Q:Exit→St→Prop} {ap mC:St} (e:ap=mC) (h:WpS P c Q mC):WpS P c Q ap:=e▸h
def cE [cH] (S:St) (ψ:Prop) (Q:Exit→St→Prop) (ex:Exit) (s:St):Prop:=match ex with
 | .normal=>ψ∧Weak s S
 | ex=>Q ex s
theorem WpS.Br [cH] {P:Program} {c x y:Code} {Q:Exit→St→Prop} {ap:St} (S:St) {ψ:Prop} (e:c= .seq x y) (h:WpS P x (cE S ψ Q) ap) (U:ψ→WpS P y Q S):WpS P c Q ap:=by
 subst e
 refine WpS.seq (WpS.mono h fun ex s hs=> ?_)
 cases ex with
 | normal=>exact WpS.so (U hs.1) hs.2
 | _=>exact hs
theorem cE.normal [cH] {S s:St} {ψ:Prop} {Q:Exit→St→Prop} (ab:ψ) (h:Weak s S):cE S ψ Q .normal s:=⟨ab,h⟩
theorem cE.ret [cH] {S s:St} {ψ:Prop} {Q:Exit→St→Prop} (h:Q .ret s):cE S ψ Q .ret s:=h
theorem cE.exit [cH] {S s:St} {ψ:Prop} {Q:Exit→St→Prop} {id:Nat} (h:Q (.exit id) s):cE S ψ Q (.exit id) s:=h
def eC [cH] {V:Type} (S:V→St) (I:V→Prop) (m:V→Nat) (v:V) (Q:Exit→St→Prop) (ex:Exit) (s:St):Prop:=match ex with
 | .normal=> ∃eM,I eM∧m eM<m v∧Weak s (S eM)
 | ex=>Q ex s
theorem WpS.WC [cH] {P:Program} {c x:Code} {Q:Exit→St→Prop} {ap:St} {V:Type} (S:V→St) (I:V→Prop) (m:V→Nat) (e:c= .loop x) (v0:V) (hs:Weak ap (S v0)) (aA:I v0)
  (round: ∀v,I v→WpS P x (eC S I m v Q) (S v)):WpS P c Q ap:=
 WpS.aj7 S I m e v0 hs aA fun v hv=>WpS.mono (round v hv) fun ex s h=>by
  cases ex<;>exact h
theorem eC.again [cH] {V:Type} {S:V→St} {I:V→Prop} {m:V→Nat} {v:V} {Q:Exit→St→Prop} {s:St} (eM:V) (h:I eM∧m eM<m v) (hw:Weak s (S eM)):eC S I m v Q .normal s:=⟨eM,h.1,h.2,hw⟩
theorem eC.ret [cH] {V:Type} {S:V→St} {I:V→Prop} {m:V→Nat} {v:V} {Q:Exit→St→Prop} {s:St} (h:Q .ret s):eC S I m v Q .ret s:=h
theorem eC.exit [cH] {V:Type} {S:V→St} {I:V→Prop} {m:V→Nat} {v:V} {Q:Exit→St→Prop} {s:St} {id:Nat} (h:Q (.exit id) s):eC S I m v Q (.exit id) s:=h
@[irreducible] def bO (c:Code) (n:Nat):Code:=v7 c ((List.range (Nat.log2 n)).map fun i=>(n>>>i)%2).reverse
def lH (c:Code) (n:Nat):Array Oper:=match bO c n with
 | .region _ ops _=>ops
 | _=> #[]
theorem jM [cH] {s s' s'':St} (h:Weak s s') (e:s'=s''):Weak s s'':=e▸h
def mc (H:List Blk) (c d:List AV):Prop:=c.length=d.length∧ ∀(j:Nat) (a b:AV),c[j]?=some a→d[j]?=some b→ho H a a∧b=j4 a
theorem amG {H:List Blk} {α:Type} {eT eF:α→List AV} {b:Nat} {g sz:Nat} {full:Bool} {xs:List α} (hb:H[b]?=some ⟨g,sz,List.map eT xs⟩) (af:xs.length≤4611686018427387904) (hc: ∀x,mc H (eT x) (eF x)):
  ho H (.ref b g 0 xs.length full) (.aZ (List.map eF xs) false true):=by
 refine ho.ref (fun h=>by cases h) (fun i j=>((xs[i]?).bind fun x=>(eT x)[j]?).getD .undef) hb rfl (by rw[List.length_map]) af (by simp) (fun i row row' h1 h2=> ?_) (fun i j row a hi h1 h2=> ?_) (fun i j row' c h1 h2=> ?_)
 ·have h1:(List.map eT xs)[0+i]?=some row:=h1
  rw[Nat.zero_add,List.getElem?_map] at h1
  rw[List.getElem?_map] at h2
  cases hx:xs[i]? with
  | none=>rw[hx] at h1;cases h1
  | some x=>rw[hx] at h1 h2;cases h1;cases h2;exact(hc x).1
 ·have h1:(List.map eT xs)[0+i]?=some row:=h1
  rw[Nat.zero_add,List.getElem?_map] at h1
  cases hx:xs[i]? with
  | none=>rw[hx] at h1;cases h1
  | some x=>
   rw[hx] at h1;cases h1
   show ho H a (((some x).bind fun x=>(eT x)[j]?).getD .undef)
   have ah:(eT x)[j]?=some a:=h2
   have he:((some x).bind fun x=>(eT x)[j]?).getD .undef=a:=by
    show((eT x)[j]?).getD .undef=a
    rw[ah];rfl
   rw[he]
   have aM:j<(eF x).length:=by rw[←(hc x).1];exact(List.getElem?_eq_some_iff.1 ah).1
   exact((hc x).2 j a _ ah (List.getElem?_eq_getElem aM)).1
 ·rw[List.getElem?_map] at h1
  cases hx:xs[i]? with
  | none=>rw[hx] at h1;cases h1
  | some x=>
   rw[hx] at h1;cases h1
   show c=j4 (((some x).bind fun x=>(eT x)[j]?).getD .undef)
   have aM:j<(eT x).length:=by rw[(hc x).1];exact(List.getElem?_eq_some_iff.1 h2).1
   have ah:=List.getElem?_eq_getElem aM
   have he:((some x).bind fun x=>(eT x)[j]?).getD .undef=(eT x)[j]:=by
    show((eT x)[j]?).getD .undef=_
    rw[ah];rfl
   rw[he]
   exact((hc x).2 j _ c ah h2).2
theorem mc.nil {H:List Blk}:mc H [] []:=⟨rfl,fun j a b h=>by simp at h⟩
theorem mc.cons {H:List Blk} {a b:AV} {c d:List AV} (h1:ho H a a) (h2:b=j4 a) (h:mc H c d):mc H (a::c) (b::d):=
 ⟨by simp[h.1],fun j x y hx aX=>by
  cases j with
  | zero=>simp at hx aX;subst hx;subst aX;exact⟨h1,h2⟩
  | succ j=>exact h.2 j x y (by simpa using hx) (by simpa using aX)⟩
theorem ab8 {H:List Blk} (n:Int):mc H (cB n) (cB n):= .cons (.int _ _) rfl .nil
theorem ab_ {H:List Blk} (n:UInt8):mc H (FP n) (FP n):= .cons (.int _ _) rfl .nil
theorem CL {H:List Blk} (b:Bool):mc H (aT b) (aT b):= .cons (.bool _) rfl .nil
theorem ab9 {H:List Blk} (b:ByteArray):mc H (J6 b) (J6 b):= .cons (.str _) rfl .nil
theorem lS {H:List Blk} (rows:List (List AV)):ho H (.aZ rows false true) (.aZ rows false true):= .aZ _ _ _ id
theorem Rm {H:List Blk} (x:c8):mc H (c9 x) (c9 x):= .cons (.int _ _) rfl (.cons (.int _ _) rfl .nil)
theorem ab6 {H:List Blk} (x:Event):mc H (ie x) (ie x):= .cons (.int _ _) rfl (.cons (.int _ _) rfl (.cons (.int _ _) rfl .nil))
theorem Fz {H:List Blk} (x:bP):mc H (bh x) (bh x):= .cons (.int _ _) rfl (.cons (.int _ _) rfl .nil)
theorem aca {H:List Blk} (x:Way):mc H (dS true x) (dS false x):= .cons (lS _) rfl (.cons (lS _) rfl (.cons (lS _) rfl (.cons (lS _) rfl (.cons (lS _) rfl .nil))))
theorem ab7 {H:List Blk} (x:av):mc H (e3 true x) (e3 false x):= .cons (.int _ _) rfl (.cons (.int _ _) rfl (.cons (lS _) rfl (.cons (.bool _) rfl (.cons (.int _ _) rfl .nil))))
theorem ab5 {H:List Blk} (x:jO):mc H (ir true x) (ir false x):= .cons (.int _ _) rfl (.cons (.bool _) rfl (.cons (lS _) rfl (.cons (lS _) rfl (.cons (lS _) rfl .nil))))
theorem aae {H:List Blk} {α:Type} {eT eF:α→List AV} {b g sz:Nat} {full:Bool} {xs ys:List α} (hb:H[b]?=some ⟨g,sz,List.map eT xs⟩) (hc: ∀x,mc H (eT x) (eF x)) (h:xs.length≤4611686018427387904∧xs=ys):
  ho H (.ref b g 0 xs.length full) (.aZ (List.map eF ys) false true):=h.2▸amG hb h.1 hc
theorem Il {H:List Blk} {α:Type} {e:α→List AV} {ys:List α} {full fr:Bool} (h:[]=ys):ho H (.aZ [] full fr) (.aZ (List.map e ys) false true):=h▸ .WE _ _ _ (fun h=>by cases h)
theorem anX {H:List Blk} {α:Type} {e:α→List AV} {xs ys:List α} {full:Bool} (h:xs=ys):ho H (.aZ (List.map e xs) full true) (.aZ (List.map e ys) false true):=h▸ .aZ _ _ _ (fun h=>by cases h)
theorem BS {H:List Blk} {k:IntKind} {a b:Int} (h:a=b):ho H (.int k a) (.int k b):=h▸ .int k a
theorem tv {H:List Blk} {a b:Bool} (h:a=b):ho H (.bool a) (.bool b):=h▸ .bool a
theorem anY {H:List Blk} {a b:ByteArray} (h:a=b):ho H (.str a) (.str b):=h▸ .str a
theorem cW {L:List (Nat×List AV)} {H:List Blk} {rows:List (List AV)} {full fr:Bool}:gN L H (.aZ rows full fr) (.aZ rows false false):= .aZ _ _ _ _ (fun h=>by cases h)
def qC (L:List (Nat×List AV)) (H:List Blk) (c d:List AV):Prop:=c.length=d.length∧ ∀(j:Nat) (a b:AV),c[j]?=some a→d[j]?=some b→gN L H a b
theorem Yz {L:List (Nat×List AV)} {H:List Blk} {α:Type} {eT eF:α→List AV} {b g sz:Nat} {full:Bool} {xs:List α} (hb:H[b]?=some ⟨g,sz,List.map eT xs⟩) (hc: ∀x,qC L H (eT x) (eF x)) (af:xs.length≤4611686018427387904):
  gN L H (.ref b g 0 xs.length full) (.aZ (List.map eF xs) false false):=by
 refine gN.ref (fun h=>by cases h) hb rfl (by rw[List.length_map]) af (by simp) (fun i row row' h1 h2=> ?_) (fun i j row row' a c h1 h2 aD bj=> ?_)
 ·have h1:(List.map eT xs)[0+i]?=some row:=h1
  rw[Nat.zero_add,List.getElem?_map] at h1
  rw[List.getElem?_map] at h2
  cases hx:xs[i]? with
  | none=>rw[hx] at h1;cases h1
  | some x=>rw[hx] at h1 h2;cases h1;cases h2;exact(hc x).1
 ·have h1:(List.map eT xs)[0+i]?=some row:=h1
  rw[Nat.zero_add,List.getElem?_map] at h1
  rw[List.getElem?_map] at h2
  cases hx:xs[i]? with
  | none=>rw[hx] at h1;cases h1
  | some x=>rw[hx] at h1 h2;cases h1;cases h2;exact(hc x).2 j a c aD bj
theorem qC.nil {L:List (Nat×List AV)} {H:List Blk}:qC L H [] []:=⟨rfl,fun j a b h=>by simp at h⟩
theorem qC.cons {L:List (Nat×List AV)} {H:List Blk} {a b:AV} {c d:List AV} (h1:gN L H a b) (h:qC L H c d):qC L H (a::c) (b::d):=
 ⟨by simp[h.1],fun j x y hx aX=>by
  cases j with
  | zero=>simp at hx aX;subst hx;subst aX;exact h1
  | succ j=>exact h.2 j x y (by simpa using hx) (by simpa using aX)⟩
section
variable {L:List (Nat×List AV)} {H:List Blk}
theorem vG (b:Bool):qC L H (aT b) (aT b):= .cons (.bool _) .nil
theorem xV (x:bP):qC L H (bh x) (bh x):= .cons (.int _ _) (.cons (.int _ _) .nil)
end
def eK {α:Type} (F:(α→Prop)→Prop):Prop:= ∀K,F K→ ∃r,K r∧F (fun x=>x=r)
theorem eK.ret {α:Type} (r:α):eK fun K=>K r:=fun K h=>⟨r,h,rfl⟩
theorem eK.no {α:Type}:eK (α:=α) fun _=>False:=fun K h=>h.elim
theorem eK.and {α:Type} {φ:Prop} {F:(α→Prop)→Prop} (h:eK F):eK fun K=>φ∧F K:=fun K ⟨ab,hf⟩=>by
 obtain⟨r,h1,h2⟩:=h K hf
 exact⟨r,h1,ab,h2⟩
theorem eK.abE {α:Type} {φ:Prop} {F:(α→Prop)→Prop} (h:φ→eK F):eK fun K=>φ∧F K:=fun K ⟨ab,hf⟩=>by
 obtain⟨r,h1,h2⟩:=h ab K hf
 exact⟨r,h1,ab,h2⟩
theorem eK.bind {α β:Type} {o:Option β} {F:β→(α→Prop)→Prop} (h: ∀b,eK (F b)):eK fun K=>cV o fun b=>F b K:=fun K hf=>by
 cases o with
 | none=>exact hf.elim
 | some b=>exact h b K hf
theorem eK.ite {α:Type} {c:Prop} [Decidable c] {F G:(α→Prop)→Prop} (h:eK F) (k:eK G):eK fun K=>if c then F K else G K:=by
 intro K hf
 by_cases hc:c
 ·rw[if_pos hc] at hf
  obtain⟨r,h1,h2⟩:=h K hf
  exact⟨r,h1,by show if c then _ else _;rw[if_pos hc];exact h2⟩
 ·rw[if_neg hc] at hf
  obtain⟨r,h1,h2⟩:=k K hf
  exact⟨r,h1,by show if c then _ else _;rw[if_neg hc];exact h2⟩
theorem eK.e_ {α:Type} {b:Bool} {F:(α→Prop)→Prop} (h:eK F):eK fun K=>e_ b (F K):=by
 cases b with
 | true=>exact h
 | false=>exact eK.no
theorem Qc {P:Program} {t:TypeId} {cells:List AV} {c:Nat}:eK (ko P t cells c):=by
 unfold ko
 exact .ite (.ite (.ite (.ret _) .no) (.bind fun _=> .ret _)) .no
theorem ajG {P:Program} {t:TypeId} {x:AV} {L:List (Nat×List AV)} {H:List Blk}:eK (qY P t x L H):=by
 cases x with
 | fS s c=>exact .bind fun _=>Qc
 | ptr b g r c=>exact .bind fun _=> .and (.bind fun _=>Qc)
 | dz cells c=>exact Qc
 | _=>exact .no
theorem akz {x:AV}:eK (NC x):=by
 cases x<;>first | exact .no | exact .ret _
theorem abS {op:BinOp} {k:IntKind} {a b:Int}:eK (Fq op k a b):=by
 cases op<;>first | exact .no | exact .ret _ | exact .and (.ret _)
theorem abR {op:BinOp} {k kH:IntKind} {a b:Int}:eK (Fs op k a kH b):=by
 cases op<;>first | exact .and (.ret _) | exact .ite abS .no
def CH (x:AV):Bool:=match x with
 | .aZ _ _ _=>false
 | _=>true
theorem abT {P:Program} {op:BinOp} {t:TypeId} {x y:AV} {va:Bool} (hx:CH x=true):eK (vh P op t x y va):=by
 cases x with
 | int k a=>cases y<;>first | exact .no | exact abR
 | bool a=>
  cases y with
  | bool b=>exact .ite (by cases op<;>first | exact .no | exact .ret _) .no
  | _=>exact .no
 | str a=>
  cases y with
  | str b=>
   show eK (Jm op a b)
   cases op<;>first | exact .no | exact .ret _ | exact .and (.ret _)
  | _=>exact .no
 | agg l=>
  cases y with
  | agg m=>exact .ite (.bind fun p=> .bind fun q=>by
    show eK (Jn op p.1 p.2 q.1 q.2)
    cases op<;>first | exact .no | exact .ret _) .no
  | _=>exact .no
 | aZ rows dP fr=>cases hx
 | _=>exact .no
theorem aoz {op:UnOp} {x:AV}:eK (IB op x):=by
 cases op<;>cases x<;>first | exact .no | exact .ret _
theorem acZ {P:Program} {s d:TypeId} {x:AV}:eK (JX P s d x):=by
 cases x with
 | int k n=>exact .bind fun _=> .bind fun _=> .ret _
 | _=>exact .no
theorem adA {P:Program} {t:TypeId} {x:AV} {f:Nat}:eK (Kn P t x f):=by
 refine .bind fun fd=> .ite ?_ .no
 cases x<;>first | exact .no | exact .ret _
theorem agF {P:Program} {t:TypeId} {x i:AV} {H:List Blk}:eK (At P t x i H):=by
 refine .bind fun e=> .ite ?_ .no
 cases i with
 | int k n=>
  cases x with
  | aZ rows dP fr=>exact .and (.bind fun _=> .and (.ret _))
  | ref b g off m dP=>exact .bind fun _=> .and (.and (.and (.and (.ret _))))
  | _=>exact .no
 | _=>exact .no
theorem agP {P:Program} {t:TypeId} {x i:AV}:eK (LK P t x i):=by
 cases x with
 | str s=>
  cases i with
  | int k n=>
   show eK fun K:AV→Prop=>(match P.underlying t with
   | some .string=>0≤n∧n<s.size∧K (.int .u8 (s.data.getD n.toNat 0).toNat)
   | _=>False)
   split
   ·exact .and (.and (.ret _))
   ·exact .no
  | _=>exact .no
 | _=>exact .no
theorem zA {α:Type} {x:Option AV} {d:Nat} {F:Nat→(α→Prop)→Prop} (h: ∀n,eK (F n)):eK fun K=>nP x d fun n=>F n K:=by
 cases x with
 | none=>exact h d
 | some a=>
  cases a with
  | int k n=>exact .and (h _)
  | _=>exact .no
theorem al_ {P:Program} {t:TypeId} {x:AV} {lo hi:Option AV} {H:List Blk}:eK (yP P t x lo hi H):=by
 cases x with
 | str s=>
  show eK fun K:AV→Prop=>(match P.underlying t with
   | some .string=>nP lo 0 fun l=>nP hi s.size fun h=>l≤h∧h≤s.size∧K (.str (s.extract l h))
   | _=>False)
  split
  ·exact zA fun l=>zA fun h=> .and (.and (.ret _))
  ·exact .no
 | aZ rows dP fr=>exact .bind fun e=> .ite (zA fun l=>zA fun h=> .and (.and (.and (.ret _)))) .no
 | ref b g off n dP=>
  refine .bind fun e=> .ite (.bind fun blk=> .and (.and (zA fun l=>zA fun h=> .abE fun hle=> .and ?_))) .no
  intro K ⟨h1,h2⟩
  rcases Nat.lt_trichotomy l h with aM | aft | qR
  ·exact⟨_,h1 aM,fun _=>rfl,fun e=>absurd e (by omega)⟩
  ·exact⟨_,h2 aft,fun e=>absurd e (by omega),fun _=>rfl⟩
  ·omega
 | _=>exact .no
theorem adv {x:AV} {i:Nat}:eK (Kj x i):=by
 cases x with
 | tup l=>exact .bind fun _=> .ret _
 | _=>exact .no
theorem akk {fn:Fn} {first:Array Operand} {caps:List AV}:eK (DZ fn first caps):=by
 cases fn with
 | func f=>exact .ite (.ret _) .no
 | _=>exact .no
theorem ab3 {P:Program} {t:TypeId} {parts:List (Nat×AV)}:eK (Jq P t parts):= .bind fun _=> .bind fun _=> .bind fun _=> .ret _
theorem ab1 {P:Program} {t:TypeId} {n:Nat} {parts:List (Nat×AV)}:eK (zD P t n parts):= .bind fun _=> .bind fun _=> .ite (.bind fun _=> .ite (.ret _) .no) .no
def uG (x:AV) (K:AV→Prop):Prop:=match x with
 | .aZ rows _ _=>K (.int .i64 rows.length)
 | .str s=>K (.int .i64 s.size)
 | .ref _ _ _ n _=>K (.int .i64 n)
 | _=>False
theorem ajM {x:AV}:eK (uG x):=by
 cases x<;>first | exact .no | exact .ret _
theorem ajN {x:AV} {K:AV→Prop} (h:uG x K):uF x K:=by
 cases x<;>first | exact h | exact fun _=>h
theorem acn {P:Program} {f:FuncId} {args:List AV} {L:List (Nat×List AV)} {H:List Blk}:eK (qK P f args L H):=fun K ⟨af,eu,t,h1,h2,aD⟩=>⟨t,aD,af,eu,t,h1,h2,rfl⟩
def adq (P:Program) (c:Call) (bD:Operand→AV) (L:List (Nat×List AV)) (H:List Blk) (K:AV→Prop):Prop:=match c.callee with
 | .builtin .len=>(match c.args.toList,c.argTypes.toList with
  | [x],[t]=>e_ (k1 P t (bD x)) (uG (bD x) K)
  | _,_=>False)
 | .value f=>nh (bD f) fun g caps=>qK P g (c.args.toList.map bD++caps) L H K
 | _=>False
def kU (P:Program) (o:Oper) (bD:Operand→AV) (L:List (Nat×List AV)) (H:List Blk) (K:AV→Prop):Prop:=match o.op with
 | .call c=>adq P c bD L H K
 | .pick c x y=>qJ (bD c) fun z=>rB true z (K (bD x)) (K (bD y))
 | .binOp op t x y _=>e_ (CH (bD x)) (vh P op t (bD x) (bD y) (tc y) K)
 | _=>vo P o bD L H K
theorem FY {P:Program} {o:Oper} {bD:Operand→AV} {L:List (Nat×List AV)} {H:List Blk} {K:AV→Prop} (h:kU P o bD L H K):vo P o bD L H K:=by
 obtain⟨dst,op,ty,pos,after,guard⟩:=o
 cases op with
 | call c=>
  obtain⟨callee,args,argTypes⟩:=c
  cases callee with
  | builtin b=>
   cases b with
   | len=>
    have h:(match args.toList,argTypes.toList with
     | [x],[t]=>e_ (k1 P t (bD x)) (uG (bD x) K)
     | _,_=>False):=h
    show(match args.toList,argTypes.toList with
     | [x],[t]=>e_ (k1 P t (bD x)) (uF (bD x) K)
     | _,_=>False)
    split at h
    ·obtain⟨h1,h2⟩:=r4 h
     simp only[h1];exact ajN h2
    ·exact h.elim
   | _=>exact h.elim
  | value f=>exact h
  | _=>exact h.elim
 | binOp op t x y ty2=>exact(r4 (show e_ (CH (bD x)) (vh P op t (bD x) (bD y) (tc y) K) from h)).2
 | pick c x y=>
  obtain⟨b,hb,hw⟩:=Fj (show qJ (bD c) fun z=>rB true z (K (bD x)) (K (bD y)) from h)
  show qJ (bD c) fun z=>CG z (K (bD x)) (K (bD y))
  rw[hb];exact Fv hw
 | _=>exact h
theorem abQ {α:Type} {z:Bool} {x y:α}:eK fun K=>rB true z (K x) (K y):=by
 cases z with
 | true=>exact .ret x
 | false=>exact .ret y
theorem abK {α:Type} {v:AV} {F:Bool→(α→Prop)→Prop} (h: ∀b,eK (F b)):eK fun K=>qJ v fun b=>F b K:=by
 cases v with
 | bool b=>exact h b
 | _=>exact .no
theorem adt {P:Program} {o:Oper} {bD:Operand→AV} {L:List (Nat×List AV)} {H:List Blk}:eK (kU P o bD L H):=by
 obtain⟨dst,op,ty,pos,after,guard⟩:=o
 cases op with
 | move x=>exact .ret _
 | assign x=>exact .ret _
 | pick c x y=>exact abK fun z=>abQ
 | build t ps=>exact .e_ ab3
 | buildSlice t n ps=>exact .e_ ab1
 | load t a=>exact ajG
 | nilCheck x=>exact akz
 | binOp op t x y ty2=>
  show eK fun K=>e_ (CH (bD x)) (vh P op t (bD x) (bD y) (tc y) K)
  cases hb:CH (bD x) with
  | true=>exact abT hb
  | false=>exact .no
 | unOp op t x=>exact aoz
 | convert s d x=>exact acZ
 | makeFunc fn first caps=>exact akk
 | fieldAddr t x f=>exact adA
 | indexAddr t x i=>exact agF
 | index t x i=>exact agP
 | slice t x lo hi mx=>
  cases mx with
  | none=>exact al_
  | some m=>exact .no
 | extract x i=>exact adv
 | call c=>
  obtain⟨callee,args,argTypes⟩:=c
  cases callee with
  | builtin b=>
   cases b with
   | len=>
    show eK fun K=>(match args.toList,argTypes.toList with
     | [x],[t]=>e_ (k1 P t (bD x)) (uG (bD x) K)
     | _,_=>False)
    split
    ·exact .e_ ajM
    ·exact .no
   | _=>exact .no
  | value f=>
   show eK fun K=>nh (bD f) fun g caps=>qK P g (args.toList.map bD++caps) L H K
   cases bD f with
   | fn g caps=>exact acn
   | _=>exact .no
  | _=>exact .no
 | _=>exact .no
structure Item where
 i:Nat
 lit:Bool
 q:Bool
 kB:List Nat
def Qw:AV→AV→Bool
 | .int k n,.int kH kJ=>decide (k=kH)&&decide (n=kJ)
 | .bool b,.bool bU=>b==bU
 | .aZ [] f g,.aZ [] F3 dD=>f==F3&&g==dD
 | .gR,.gR=>true
 | _,_=>false
def II:List AV→List AV→Bool
 | [],[]=>true
 | a::l,b::m=>Qw a b&&II l m
 | _,_=>false
theorem apa {a b:AV} (h:Qw a b=true):a=b:=by
 unfold Qw at h
 split at h
 ·simp only[Bool.and_eq_true,decide_eq_true_eq] at h;rw[h.1,h.2]
 ·rw[eq_of_beq h]
 ·simp only[Bool.and_eq_true] at h;rw[eq_of_beq h.1,eq_of_beq h.2]
 ·rfl
 ·cases h
theorem aa6: ∀{l m:List AV},II l m=true→l=m
 | [],[],_=>rfl
 | [],_::_,h=>by cases h
 | _::_,[],h=>by cases h
 | a::l,b::m,h=>by
  simp only[II,Bool.and_eq_true] at h
  rw[apa h.1,aa6 h.2]
def r0 (o:Oper):Bool:=match o.op with
 | .alloc _=>true
 | _=>false
def QU (P:Program) (e:TypeId) (dst:Option Nat) (L:List (Nat×List AV)) (K:AV→Prop):Prop:=cV (o6 P e) fun z=>cV dst fun t=>cV (eR L t) fun c=>e_ (z.all kR) (e_ (II c z) (K (.fS t 0)))
def mK (P:Program) (o:Oper) (bD:Operand→AV) (L:List (Nat×List AV)) (H:List Blk) (K:AV→Prop):Prop:=match o.op with
 | .alloc e=>QU P e o.dst L K
 | _=>kU P o bD L H K
theorem zN {P:Program} {o:Oper} {bD:Operand→AV} {L:List (Nat×List AV)} {H:List Blk} {K:AV→Prop} (h:r0 o=false):mK P o bD L H K=kU P o bD L H K:=by
 obtain⟨dst,op,ty,pos,after,guard⟩:=o
 cases op<;>first | rfl | cases h
theorem ads {P:Program} {o:Oper} {bD:Operand→AV} {L:List (Nat×List AV)} {H:List Blk}:eK (mK P o bD L H):=by
 cases h:r0 o with
 | false=>intro K hk;rw[zN h] at hk;obtain⟨r,h1,h2⟩:=adt K hk;exact⟨r,h1,by rw[zN h];exact h2⟩
 | true=>
  obtain⟨dst,op,ty,pos,after,guard⟩:=o
  cases op
  case alloc e=>exact eK.bind fun _=> .bind fun _=> .bind fun _=> .e_ (.e_ (.ret _))
  all_goals cases h
def opI (ops:Array Oper) (i:Nat):Oper:=ops.getD i default
def vm (o:Oper) (T:List AV):AV:=match o.dst with
 | some d=>T.getD d .undef
 | none=> .undef
def tU (P:Program) (ops:Array Oper):List Nat→List AV→List (Nat×List AV)→List Blk→Prop
 | [],_,_,_=>True
 | i::r,T,L,H=>((opI ops i).guard.isNone=true∧(opI ops i).dst.isSome=true∧mK P (opI ops i) (ch T) L H (fun v=>v=vm (opI ops i) T))∧tU P ops r T L H
theorem Sl {P:Program} {ops:Array Oper} {T:List AV} {L:List (Nat×List AV)} {H:List Blk}: ∀{kB:List Nat},tU P ops kB T L H→ ∀i∈kB,(opI ops i).guard.isNone=true∧(opI ops i).dst.isSome=true∧mK P (opI ops i) (ch T) L H (fun v=>v=vm (opI ops i) T)
 | [],_,i,hi=>by cases hi
 | j::r,h,i,hi=>by
  rcases List.mem_cons.1 hi with rfl | hi
  ·exact h.1
  ·exact Sl h.2 i hi
def lk (P:Program) (esc:List Nat) (ops:Array Oper):List Item→List AV→List (Nat×List AV)→List Blk→(List AV→List (Nat×List AV)→List Blk→Prop)→Prop
 | [],T,L,H,K=>K T L H
 | x::rest,T,L,H,K=>qa ops x.lit (opI ops x.i) T
   (fun T=>match x.q with
    | true=>mK P (opI ops x.i) (ch T) L H fun v=>lk P esc ops rest (putA T (opI ops x.i).dst v) L H K
    | false=>lj P esc (opI ops x.i) (ch T) L H fun v L' H'=>tU P ops x.kB T L' H'∧lk P esc ops rest (putA T (opI ops x.i).dst v) L' H' K)
   (fun T=>lk P esc ops rest (putA T (opI ops x.i).dst (.tup [])) L H K)
theorem R5 {P:Program} {o:Oper} {bD gJ:Operand→AV} {L:List (Nat×List AV)} {H:List Blk} {K:AV→Prop} (h: ∀x∈o.op.operands,bD x=gJ x):vo P o bD L H K=vo P o gJ L H K:=by
 obtain⟨dst,op,ty,pos,after,guard⟩:=o
 have Xv: ∀ps:Array (Nat×Operand),(∀x∈ps.map (·.2),bD x=gJ x)→(ps.toList.map fun p=>(p.1,bD p.2))=(ps.toList.map fun p=>(p.1,gJ p.2)):=fun ps ab=>
  List.map_congr_left fun p hm=>by rw[ab p.2 (Array.mem_map.2 ⟨p,by simpa using hm,rfl⟩)]
 have QY: ∀ps:Array (Nat×Operand),(∀x∈ps.map (·.2),bD x=gJ x)→(ps.toList.all fun p=>e9 (bD p.2))=(ps.toList.all fun p=>e9 (gJ p.2)):=fun ps ab=>by
  rw[Bool.eq_iff_iff,List.all_eq_true,List.all_eq_true]
  constructor<;>intro q p hm
  ·rw[←ab p.2 (Array.mem_map.2 ⟨p,by simpa using hm,rfl⟩)];exact q p hm
  ·rw[ab p.2 (Array.mem_map.2 ⟨p,by simpa using hm,rfl⟩)];exact q p hm
 have aZ: ∀xs:Array Operand,(∀x∈xs,bD x=gJ x)→xs.toList.map bD=xs.toList.map gJ:=fun xs hx=>List.map_congr_left fun p hm=>hx p (by simpa using hm)
 cases op<;>simp only[Op.operands] at h
 case build t ps=>
  show e_ _ _=e_ _ _
  rw[Xv ps fun x hx=>h x (by simpa using hx),QY ps fun x hx=>h x (by simpa using hx)]
 case buildSlice t n ps=>
  show e_ _ _=e_ _ _
  rw[Xv ps fun x hx=>h x (by simpa using hx),QY ps fun x hx=>h x (by simpa using hx)]
 case makeFunc fn first caps=>
  show DZ fn first (caps.toList.map bD) K=DZ fn first (caps.toList.map gJ) K
  rw[aZ caps fun x hx=>h x (by simp[hx])]
 case slice t x lo hi mx=>
  cases mx with
  | some m=>rfl
  | none=>
   show yP P t (bD x) (lo.map bD) (hi.map bD) H K=yP P t (gJ x) (lo.map gJ) (hi.map gJ) H K
   cases lo<;>cases hi<;>simp_all
 case call c=>
  obtain⟨callee,args,argTypes⟩:=c
  have ar: ∀x∈args,bD x=gJ x:=fun x hx=>h x (by simp[Call.operands,hx])
  cases callee with
  | builtin b=>
   cases b with
   | len=>
    show(match args.toList,argTypes.toList with
     | [x],[t]=>e_ (k1 P t (bD x)) (uF (bD x) K)
     | _,_=>False)=(match args.toList,argTypes.toList with
     | [x],[t]=>e_ (k1 P t (gJ x)) (uF (gJ x) K)
     | _,_=>False)
    split
    ·rename_i x t h1 h2
     rw[ar x (by rw[←Array.mem_toList_iff,h1];simp)]
    ·rfl
   | _=>rfl
  | value f=>
   have hf:bD f=gJ f:=h f (by simp[Call.operands])
   show nh (bD f) _=nh (gJ f) _
   rw[hf,aZ args ar]
  | invoke r m=>rfl
 all_goals (first | rfl | (simp only[vo];simp_all;done))
theorem R4 {P:Program} {o:Oper} {bD gJ:Operand→AV} {L:List (Nat×List AV)} {H:List Blk} {K:AV→Prop} (h: ∀x∈o.op.operands,bD x=gJ x):kU P o bD L H K=kU P o gJ L H K:=by
 have hv:=fun K=>R5 (P:=P) (L:=L) (H:=H) (K:=K) h
 obtain⟨dst,op,ty,pos,after,guard⟩:=o
 cases op
 case call c=>
  simp only[Op.operands] at h
  obtain⟨callee,args,argTypes⟩:=c
  have ar: ∀x∈args,bD x=gJ x:=fun x hx=>h x (by simp[Call.operands,hx])
  cases callee with
  | builtin b=>
   cases b with
   | len=>
    show(match args.toList,argTypes.toList with
     | [x],[t]=>e_ (k1 P t (bD x)) (uG (bD x) K)
     | _,_=>False)=(match args.toList,argTypes.toList with
     | [x],[t]=>e_ (k1 P t (gJ x)) (uG (gJ x) K)
     | _,_=>False)
    split
    ·rename_i x t h1 h2
     rw[ar x (by rw[←Array.mem_toList_iff,h1];simp)]
    ·rfl
   | _=>rfl
  | value f=>exact hv K
  | invoke r m=>rfl
 case pick c x y=>simp only[Op.operands] at h;simp only[kU];simp_all
 case binOp op t x y ty2=>simp only[Op.operands] at h;simp only[kU];simp_all
 all_goals exact hv K
theorem R0 {P:Program} {o:Oper} {bD gJ:Operand→AV} {L:List (Nat×List AV)} {H:List Blk} {K:AV→Prop} (h: ∀x∈o.op.operands,bD x=gJ x):mK P o bD L H K=mK P o gJ L H K:=by
 cases ar:r0 o with
 | false=>rw[zN ar,zN ar];exact R4 h
 | true=>
  obtain⟨dst,op,ty,pos,after,guard⟩:=o
  cases op
  case alloc e=>rfl
  all_goals cases ar
theorem adr {P:Program} {esc:List Nat} {o:Oper} {bD gJ:Operand→AV} {L:List (Nat×List AV)} {H:List Blk} {K:AV→List (Nat×List AV)→List Blk→Prop} (h: ∀x∈o.op.operands,bD x=gJ x):lj P esc o bD L H K=lj P esc o gJ L H K:=by
 have hv:=fun K=>R5 (P:=P) (L:=L) (H:=H) (K:=K) h
 obtain⟨dst,op,ty,pos,after,guard⟩:=o
 cases op
 case call c=>
  obtain⟨callee,args,argTypes⟩:=c
  have h':=h
  simp only[Op.operands] at h
  have ar: ∀x∈args,bD x=gJ x:=fun x hx=>h x (by simp[Call.operands,hx])
  cases callee with
  | builtin b=>
   cases b with
   | len=>exact hv fun r=>K r L H
   | append=>
    show(match args.toList,argTypes.toList with
     | [s,x],[t,t2]=>e9 (bD s)=true∧e9 (bD x)=true∧w9 P t t2 (bD s) (bD x) L H K
     | _,_=>False)=(match args.toList,argTypes.toList with
     | [s,x],[t,t2]=>e9 (gJ s)=true∧e9 (gJ x)=true∧w9 P t t2 (gJ s) (gJ x) L H K
     | _,_=>False)
    split
    ·rename_i s x t t2 h1 h2
     rw[ar x (by rw[←Array.mem_toList_iff,h1];simp),ar s (by rw[←Array.mem_toList_iff,h1];simp)]
    ·rfl
   | _=>rfl
  | value f=>
   have hf:bD f=gJ f:=h f (by simp[Call.operands])
   show nh (bD f) _=nh (gJ f) _
   rw[hf,List.map_congr_left fun p hm=>ar p (by simpa using hm)]
  | invoke r m=>rfl
 case alloc e=>rfl
 case buildSlice t n ps=>
  simp only[Op.operands] at h
  have h: ∀x∈ps.map (·.2),bD x=gJ x:=fun x hx=>h x (by simpa using hx)
  have aG:(ps.toList.map fun p=>(p.1,bD p.2))=(ps.toList.map fun p=>(p.1,gJ p.2)):=
   List.map_congr_left fun p hm=>by rw[h p.2 (Array.mem_map.2 ⟨p,by simpa using hm,rfl⟩)]
  have e2:(ps.toList.all fun p=>e9 (bD p.2))=(ps.toList.all fun p=>e9 (gJ p.2)):=by
   rw[Bool.eq_iff_iff,List.all_eq_true,List.all_eq_true]
   constructor<;>intro q p hm
   ·rw[←h p.2 (Array.mem_map.2 ⟨p,by simpa using hm,rfl⟩)];exact q p hm
   ·rw[h p.2 (Array.mem_map.2 ⟨p,by simpa using hm,rfl⟩)];exact q p hm
  show e_ _ (xc P (xk esc dst) (yK esc) t n _ L H K)=e_ _ (xc P (xk esc dst) (yK esc) t n _ L H K)
  rw[aG,e2]
 case store t x y=>simp only[Op.operands] at h;simp only[lj];simp_all
 case box e x=>simp only[Op.operands] at h;simp only[lj];simp_all
 case makeSlice t l c=>simp only[Op.operands] at h;simp only[lj];simp_all
 all_goals exact hv fun r=>K r L H
structure ze (P:Program) (ops:Array Oper) (L:List (Nat×List AV)) (H:List Blk) (T:List AV) (o:Oper) (v:AV) (run:Bool):Prop where
 c6: ∀(E:Env) (a:Act),(∀t∈o.looksAt ops,V3 E (T.getD t .undef) (a.tmps.getD t undef))→T.length=a.tmps.size→Region.wanted o (yielded ops a.tmps)=run
 tC:run=true→mK P o (ch T) L H (fun r=>r=v)
 no:run=false→v= .tup []
 put: ∀d,o.dst=some d→d<T.length→T.getD d .undef=v
theorem aj6 {ops:Array Oper} {o:Oper} {t:Nat} (h: .tmp t∈o.op.operands):t∈o.looksAt ops:=
 List.mem_append_left _ (List.mem_filterMap.2 ⟨.tmp t,by simpa using h,rfl⟩)
theorem aj5 {ops:Array Oper} {o:Oper} {j t:Nat} {b:Bool} (aE:o.guard=some (j,b)) (aY:(ops[j]?).bind (·.dst)=some t):t∈o.looksAt ops:=by
 refine List.mem_append_right _ ?_
 rw[aE];simp[aY]
theorem Hz {ops:Array Oper} {o:Oper} {T T':List AV} (h: ∀t∈o.looksAt ops,T.getD t .undef=T'.getD t .undef): ∀x∈o.op.operands,ch T x=ch T' x:=fun x hx=>by
 cases x with
 | tmp t=>exact h t (aj6 hx)
 | _=>rfl
theorem ze.mono {P:Program} {ops:Array Oper} {L:List (Nat×List AV)} {H:List Blk} {T T':List AV} {o:Oper} {v:AV} {run:Bool} (h:ze P ops L H T o v run) (aw:T'.length=T.length)
  (ar: ∀t∈o.looksAt ops,T'.getD t .undef=T.getD t .undef) (aW: ∀d,o.dst=some d→T'.getD d .undef=T.getD d .undef):ze P ops L H T' o v run where
 c6:=fun E a hs az=>h.c6 E a (fun t aY=>by rw[←ar t aY];exact hs t aY) (by rw[←aw];exact az)
 tC:=fun aj=>by
  rw[R0 (Hz ar)]
  exact h.tC aj
 no:=h.no
 put:=fun d pk aM=>by rw[aW d pk];exact h.put d pk (by rw[←aw];exact aM)
theorem Sz {P:Program} {ops:Array Oper} {lit:Bool} {o:Oper} {T:List AV} {x y:List AV→Prop} (h:qa ops lit o T x y):
  ∃T' run,T'.length=T.length∧(∀t,T'.getD t .undef=T.getD t .undef)∧(∀(E:Env) (a:Act),(∀t∈o.looksAt ops,V3 E (T.getD t .undef) (a.tmps.getD t undef))→T.length=a.tmps.size→Region.wanted o (yielded ops a.tmps)=run)∧(if run=true then x T' else y T'):=by
 unfold qa at h
 cases aE:o.guard with
 | none=>rw[aE] at h;exact⟨T,true,rfl,fun _=>rfl,fun E a _ _=>by simp[Region.wanted,aE],h⟩
 | some g=>
  obtain⟨j,c6⟩:=g
  rw[aE] at h
  simp only at h
  cases ah:(ops[j]?).bind (·.dst) with
  | none=>rw[ah] at h;exact h.elim
  | some t=>
   rw[ah] at h
   simp only at h
   have Gw:t∈o.looksAt ops:=aj5 aE ah
   have uk: ∀b,T.getD t .undef= .bool b→ ∀s,(T.set t (.bool b)).getD s .undef=T.getD s .undef:=fun b hb s=>by
    rw[tX]
    by_cases hs:t=s∧t<T.length
    ·rw[if_pos hs,←hs.1,hb]
    ·rw[if_neg hs]
   split at h
   ·rename_i b hb
    obtain⟨h1,h2⟩:=Fv h
    have hw: ∀(E:Env) (a:Act),(∀t∈o.looksAt ops,V3 E (T.getD t .undef) (a.tmps.getD t undef))→T.length=a.tmps.size→Region.wanted o (yielded ops a.tmps)=(b==c6):=fun E a hs az=>by
     have hv:=hs t Gw
     rw[hb] at hv
     have he:a.tmps.getD t undef= .bool b:=V3.p2 hv
     have aX:yielded ops a.tmps j=some b:=by
      unfold yielded
      rw[ah]
      rw[Array.getD_eq_getD_getElem?] at he
      cases U:a.tmps[t]? with
      | none=>rw[U] at he;cases he
      | some x=>rw[U] at he;have:x= .bool b:=he;subst this;simp[U]
     simp[Region.wanted,aE,aX]
    cases b with
    | true=>refine⟨_,_,by simp,uk true hb,hw,?_⟩;have:=h1 rfl;cases c6<;>exact this
    | false=>refine⟨_,_,by simp,uk false hb,hw,?_⟩;have:=h2 rfl;cases c6<;>exact this
   ·rename_i hb
    refine⟨T,false,rfl,fun _=>rfl,fun E a hs az=> ?_,h⟩
    have hv:=hs t Gw
    rw[hb] at hv
    obtain⟨vs,he,ab⟩:=(show ∃vs:List Value,a.tmps.getD t undef= .tuple vs.toArray∧ak (V2 E) [] vs from hv)
    obtain rfl:=ab.n8
    have aX:yielded ops a.tmps j=none:=by
     unfold yielded
     rw[ah]
     rw[Array.getD_eq_getD_getElem?] at he
     cases U:a.tmps[t]? with
     | none=>simp[U]
     | some x=>rw[U] at he;have:x= .tuple #[]:=he;subst this;simp[U]
    simp[Region.wanted,aE,aX]
   ·exact h.elim
theorem Bb (T:List AV) (d:Option Nat) (v:AV):(putA T d v).length=T.length:=by
 cases d<;>simp[putA]
theorem HG {T:List AV} {d:Option Nat} {v:AV} {t:Nat} (h:d≠some t):(putA T d v).getD t .undef=T.getD t .undef:=by
 cases d with
 | none=>rfl
 | some s=>
  show(T.set s v).getD t .undef=_
  rw[tX,if_neg]
  rintro⟨rfl,_⟩;exact h rfl
theorem XM {T:List AV} {d:Nat} {v:AV} (h:d<T.length):(putA T (some d) v).getD d .undef=v:=by
 show(T.set d v).getD d .undef=v
 rw[tX,if_pos ⟨rfl,h⟩]
def m8 (ops:Array Oper):List Item→Prop
 | []=>True
 | x::r=>(∀t∈(opI ops x.i).looksAt ops,∀y∈x::r,(opI ops y.i).dst≠some t)∧(∀d,(opI ops x.i).dst=some d→ ∀y∈r,(opI ops y.i).dst≠some d)∧m8 ops r
theorem On {P:Program} {esc:List Nat} {ops:Array Oper} {L:List (Nat×List AV)} {H:List Blk} {K:List AV→List (Nat×List AV)→List Blk→Prop}: ∀(l:List Item) (T:List AV),m8 ops l→lk P esc ops l T L H K→
  ∃pre post qF,l=pre++post∧(∀x∈pre,x.q=true)∧(∀x r,post=x::r→x.q=false)∧lk P esc ops post qF L H K∧qF.length=T.length∧
   (∀t,(∀x∈pre,(opI ops x.i).dst≠some t)→qF.getD t .undef=T.getD t .undef)∧ ∀x∈pre,∃v run,ze P ops L H qF (opI ops x.i) v run
 | [],T,_,h=>⟨[],[],T,rfl,fun x hx=>(by cases hx),fun x r e=>(by cases e),h,rfl,fun _ _=>rfl,fun x hx=>(by cases hx)⟩
 | x::r,T,aS,h=>by
  cases U:x.q with
  | false=>exact⟨[],x::r,T,rfl,fun x hx=>(by cases hx),fun y HO e=>(by cases e;exact U),h,rfl,fun _ _=>rfl,fun x hx=>(by cases hx)⟩
  | true=>
   obtain⟨nO,run,rT,nm,hw,gI⟩:=Sz (P:=P) h
   obtain⟨Q0,abF,abG⟩:=aS
   have key: ∃v,lk P esc ops r (putA nO (opI ops x.i).dst v) L H K∧(run=true→mK P (opI ops x.i) (ch nO) L H (fun r=>r=v))∧(run=false→v= .tup []):=by
    cases run with
    | true=>
     have gI:(match x.q with
      | true=>mK P (opI ops x.i) (ch nO) L H fun v=>lk P esc ops r (putA nO (opI ops x.i).dst v) L H K
      | false=>_):=gI
     rw[U] at gI
     obtain⟨v,h1,h2⟩:=ads _ gI
     exact⟨v,h1,fun _=>h2,fun e=>by cases e⟩
    | false=>exact⟨.tup [],gI,fun e=>(by cases e),fun _=>rfl⟩
   obtain⟨v,hv,agz,kW⟩:=key
   obtain⟨pre,post,qF,rfl,xN,lv,ud,hlen,h5,Dd⟩:=On r _ abG hv
   have vA: ∀y∈pre,y∈pre++post:=fun y aX=>List.mem_append_left _ aX
   have Dl: ∀t∈(opI ops x.i).looksAt ops,qF.getD t .undef=nO.getD t .undef:=fun t aY=>by
    rw[h5 t fun y aX=>Q0 t aY y (List.mem_cons_of_mem _ (vA y aX)),HG (Q0 t aY x (List.mem_cons_self ..))]
   refine⟨x::pre,post,qF,rfl,fun y aX=> ?_,lv,ud,by rw[hlen,Bb,rT],fun t aY=> ?_,fun y aX=> ?_⟩
   ·rcases List.mem_cons.1 aX with rfl | aX
    ·exact U
    ·exact xN y aX
   ·rw[h5 t fun y aX=>aY y (List.mem_cons_of_mem _ aX),HG (aY x (List.mem_cons_self ..)),nm]
   ·rcases List.mem_cons.1 aX with rfl | aX
    ·refine⟨v,run,⟨fun E a hs az=>hw E a (fun t aY=> ?_) ?_,fun aj=> ?_,kW,fun d aW aM=> ?_⟩⟩
     ·rw[←nm t,←Dl t aY];exact hs t aY
     ·rw[←az,hlen,Bb,rT]
     ·rw[R0 (Hz Dl)];exact agz aj
     ·rw[h5 d fun y aX=>abF d aW y (vA y aX),aW]
      exact XM (by rw[hlen,Bb] at aM;exact aM)
    ·exact Dd y aX
def wZ (A:Nat→List Nat):List Item→List Item→Prop
 | _,[]=>True
 | p,h::r=>(h.q=false→(∀y∈r,h.i∈A y.i)∧ ∀x∈p,x.i∈A h.i∨x.i∈h.kB)∧wZ A (p++[h]) r
theorem wZ.at {A:Nat→List Nat}: ∀{pre p:List Item} {h:Item} {r:List Item},wZ A p (pre++h::r)→h.q=false→(∀y∈r,h.i∈A y.i)∧ ∀x∈p++pre,x.i∈A h.i∨x.i∈h.kB
 | [],p,h,r,hb,U=>by
  rw[List.append_nil];exact hb.1 U
 | x::pre,p,h,r,hb,U=>by
  have:=wZ.at (pre:=pre) (p:=p++[x]) hb.2 U
  simpa using this
structure EW (ops:Array Oper) (ord:List Item) (A:Nat→List Nat):Prop where
 back: ∀i o,ops[i]?=some o→ ∀e∈o.after,Region.binds .any e=true→e.on<i
 abC: ∀i o,ops[i]?=some o→ ∀a∈A i,∃e∈o.after,Region.binds .any e=true∧(a=e.on∨a∈A e.on)
 all: ∀i,i<ops.size→ ∃x∈ord,x.i=i
 lt: ∀x∈ord,x.i<ops.size
 nodup:(ord.map (·.i)).Nodup
 aoD: ∀x∈ord,∀t∈(opI ops x.i).looksAt ops,∀y∈ord,(opI ops y.i).dst=some t→y.i∈A x.i
 apart:m8 ops ord
 ow:wZ A [] ord
theorem m8.tail {ops:Array Oper}: ∀{p r:List Item},m8 ops (p++r)→m8 ops r
 | [],_,h=>h
 | _::p,_,h=>m8.tail (p:=p) h.2.2
theorem m8.Vm {ops:Array Oper}: ∀{p r:List Item},m8 ops (p++r)→ ∀x∈p,(∀t∈(opI ops x.i).looksAt ops,∀y∈r,(opI ops y.i).dst≠some t)∧ ∀d,(opI ops x.i).dst=some d→ ∀y∈r,(opI ops y.i).dst≠some d
 | [],_,_,x,hx=>by cases hx
 | z::p,r,h,x,hx=>by
  rcases List.mem_cons.1 hx with rfl | hx
  ·exact⟨fun t aY y aX=>h.1 t aY y (List.mem_cons_of_mem _ (List.mem_append_right _ aX)),fun d aW y aX=>h.2.1 d aW y (List.mem_append_right _ aX)⟩
  ·exact m8.Vm (p:=p) h.2.2 x hx
theorem m8.inj {ops:Array Oper}: ∀{l:List Item},m8 ops l→ ∀x∈l,∀y∈l,x.i≠y.i→ ∀d,(opI ops x.i).dst=some d→(opI ops y.i).dst≠some d
 | [],_,x,hx,_,_,_,_,_=>by cases hx
 | z::r,h,x,hx,y,aX,bq,d,aW=>by
  rcases List.mem_cons.1 hx with ex | Vj
  ·rcases List.mem_cons.1 aX with Kk | M8
   ·exact absurd (by rw[ex,Kk]) bq
   ·exact h.2.1 d (by rw[←ex];exact aW) y M8
  ·rcases List.mem_cons.1 aX with Kk | M8
   ·exact fun e=>h.2.1 d (by rw[←Kk];exact e) x Vj aW
   ·exact m8.inj h.2.2 x Vj y M8 bq d aW
theorem uK {ops:Array Oper} {i:Nat} (h:i<ops.size):ops[i]?=some (opI ops i):=by
 unfold opI
 rw[Array.getElem?_eq_getElem h,Array.getD_eq_getD_getElem?,Array.getElem?_eq_getElem h];rfl
def IM (ops:Array Oper) (S:Array Bool):Prop:= ∀i o,ops[i]?=some o→S.getD i false=true→ ∀e∈o.after,Region.binds .any e=true→S.getD e.on false=true
theorem abD {ops:Array Oper} {ord:List Item} {A:Nat→List Nat} (D:EW ops ord A) {S:Array Bool} (hs:S.size=ops.size) (hc:IM ops S): ∀(i:Nat) o,ops[i]?=some o→(∀e∈o.after,Region.binds .any e=true→S.getD e.on false=true)→ ∀a∈A i,S.getD a false=true:=by
 intro i
 induction i using Nat.strongRecOn with
 | _ i bz=>
  intro o an aj a ar
  obtain⟨e,he,hb,uh⟩:=D.abC i o an a ar
  have vB:=aj e he hb
  rcases uh with rfl | uh
  ·exact vB
  ·have aM:=D.back i o an e he hb
   have cm:e.on<ops.size:=by
    rcases Nat.lt_or_ge e.on ops.size with h | h
    ·exact h
    ·rw[Array.getD_eq_getD_getElem?,Array.getElem?_eq_none (by omega)] at vB;cases vB
   exact bz e.on aM _ (uK cm) (fun bZ afp dT=>hc e.on _ (uK cm) vB bZ afp dT) a uh
theorem X9 {ops:Array Oper} {S:Array Bool} (hs:S.size=ops.size) {i:Nat} (h:i∈Region.ready .any ops S):i<ops.size∧S.getD i false=false∧ ∀e∈(opI ops i).after,Region.binds .any e=true→S.getD e.on false=true:=by
 unfold Region.ready at h
 rw[List.mem_filter,List.mem_range] at h
 obtain⟨aM,h⟩:=h
 rw[uK aM] at h
 simp only[Option.map_some,Option.getD_some,Bool.and_eq_true,Bool.not_eq_true',Array.all_eq_true_iff_forall_mem] at h
 obtain⟨h1,h2⟩:=h
 refine⟨aM,?_,fun e he hb=> ?_⟩
 ·rw[Array.getD_eq_getD_getElem?,Array.getElem?_eq_getElem (by omega)] at h1 ⊢;exact h1
 ·have:=h2 e he
  rw[hb] at this;simpa using this
theorem alw {ops:Array Oper} {ord:List Item} {A:Nat→List Nat} (D:EW ops ord A) {S:Array Bool} (hs:S.size=ops.size) (h:Region.ready .any ops S=[]): ∀i,i<ops.size→S.getD i false=true:=by
 intro i
 induction i using Nat.strongRecOn with
 | _ i bz=>
  intro aM
  cases U:S.getD i false with
  | true=>rfl
  | false=>
   exfalso
   have:i∈Region.ready .any ops S:=by
    unfold Region.ready
    rw[List.mem_filter,List.mem_range]
    refine⟨aM,?_⟩
    rw[uK aM]
    simp only[Option.map_some,Option.getD_some,Bool.and_eq_true,Bool.not_eq_true',Array.all_eq_true_iff_forall_mem]
    refine⟨?_,fun e he=> ?_⟩
    ·rw[Array.getD_eq_getD_getElem?,Array.getElem?_eq_getElem (by omega)] at U ⊢;exact U
    ·cases hb:Region.binds .any e with
     | false=>rfl
     | true=>
      have aw:=D.back i _ (uK aM) e he hb
      simpa using bz e.on aw (by omega)
   rw[h] at this;cases this
theorem RB {α:Type} (p A6:α→Bool) (j:α) (ab:p j=true) (vC:A6 j=false) (hk: ∀k,k≠j→p k=A6 k): ∀l:List α,l.Nodup→j∈l→l.countP p=l.countP A6+1
 | [],_,h=>by cases h
 | k::l,af,h=>by
  rw[List.nodup_cons] at af
  by_cases La:k=j
  ·subst La
   rw[List.countP_cons_of_pos ab,List.countP_cons_of_neg (by simp[vC])]
   congr 1
   refine List.countP_congr fun x hx=> ?_
   rw[hk x (fun e=>af.1 (e▸hx))]
  ·have ah:j∈l:=(List.mem_cons.1 h).resolve_left fun e=>La e.symm
   have bz:=RB p A6 j ab vC hk l af.2 ah
   rw[List.countP_cons,List.countP_cons,hk k La,bz];omega
def left (n:Nat) (S:Array Bool):Nat:=(List.range n).countP fun j=> !S.getD j false
theorem CZ {S:Array Bool} {i j:Nat}:(S.setIfInBounds i true).getD j false=if i=j∧i<S.size then true else S.getD j false:=by
 rw[Array.getD_eq_getD_getElem?,Array.getD_eq_getD_getElem?,Array.getElem?_setIfInBounds]
 by_cases h:i=j
 ·subst h
  by_cases aw:i<S.size
  ·simp[aw]
  ·simp[aw]
 ·simp[h]
theorem ajK {n:Nat} {S:Array Bool} {i:Nat} (hs:S.size=n) (hi:i<n) (h:S.getD i false=false):left n S=left n (S.setIfInBounds i true)+1:=by
 refine RB _ _ i (by simp[h]) ?_ (fun k hk=> ?_) _ List.nodup_range (List.mem_range.2 hi)
 ·rw[CZ,if_pos ⟨rfl,by omega⟩];rfl
 ·rw[CZ,if_neg (fun e=>hk e.1.symm)]
theorem ajL {n:Nat} {S:Array Bool} (h:left n S=0): ∀i,i<n→S.getD i false=true:=fun i hi=>by
 have:=(List.countP_eq_zero.1 h) i (List.mem_range.2 hi)
 simpa using this
def xI:List Nat→List AV→List AV
 | [],T=>T
 | d::j9,T=>xI j9 (T.set d .undef)
theorem Gl: ∀(j9:List Nat) (T:List AV) (t:Nat),(t∈j9→(xI j9 T).getD t .undef= .undef)∧(t ∉ j9→(xI j9 T).getD t .undef=T.getD t .undef)
 | [],T,t=>⟨fun h=>(by cases h),fun _=>rfl⟩
 | d::j9,T,t=>by
  obtain⟨h1,h2⟩:=Gl j9 (T.set d .undef) t
  refine⟨fun h=> ?_,fun h=> ?_⟩
  ·by_cases aW:t∈j9
   ·exact h1 aW
   ·have e:t=d:=(List.mem_cons.1 h).resolve_right aW
    show(xI j9 (T.set d .undef)).getD t .undef= .undef
    rw[h2 aW,tX]
    by_cases aw:d=t∧d<T.length
    ·rw[if_pos aw]
    ·rw[if_neg aw,List.getD_eq_getElem?_getD,List.getElem?_eq_none (by rcases Nat.lt_or_ge d T.length with q | q;exact absurd ⟨e.symm,q⟩ aw;omega)];rfl
  ·show(xI j9 (T.set d .undef)).getD t .undef=_
   rw[h2 fun hm=>h (List.mem_cons_of_mem _ hm),tX,if_neg fun hm=>h (by rw[hm.1];exact List.mem_cons_self ..)]
section
variable {P:Program} {esc:List Nat} {ops:Array Oper} {ord:List Item} {A:Nat→List Nat} {Q:Exit→St→Prop} {cr:Env}
structure Qy [cH] (P:Program) (esc:List Nat) (ops:Array Oper) (ord:List Item) (Q:Exit→St→Prop) (cr:Env) (S:Array Bool) (a:Act) (w:World) (pre post:List Item) (E:Env) (T:List AV) (L:List (Nat×List AV)) (H:List Blk):Prop where
 r3:ord=pre++post
 ER: ∀x∈post,S.getD x.i false=false
 head: ∀x r,post=x::r→x.q=false
 ev:lk P esc ops post T L H (fun T L H=>Q .normal ⟨T,L,H⟩)
 facts: ∀x∈pre,S.getD x.i false=false→x.q=true∧ ∃v run,ze P ops L H T (opI ops x.i) v run
 jt: ∀t,(∃x∈pre,S.getD x.i false=false∧(opI ops x.i).dst=some t)∨V3 E (T.getD t .undef) (a.tmps.getD t undef)
 size:T.length=a.tmps.size
 h:SimH E H
 l:SimL E L
 qb:Good cr E
 bB: ∀x∈ord,S.getD x.i false=false→r0 (opI ops x.i)=true→x.q=true→ ∀d,(opI ops x.i).dst=some d→E.mL d=none
 JY:a.defers=[]
 w:E.w=w
theorem XQ {a:Act} {d:Option Nat} {u:Value} {t:Nat} (h:d≠some t):(a.put d u).tmps.getD t undef=a.tmps.getD t undef:=by
 cases d with
 | none=>rfl
 | some s=>
  show(a.tmps.setIfInBounds s u).getD t undef=_
  rw[Array.getD_eq_getD_getElem?,Array.getD_eq_getD_getElem?,Array.getElem?_setIfInBounds_ne (fun e=>h (by rw[e]))]
theorem XS {a:Act} {d:Nat} {u:Value} (h:d<a.tmps.size):(a.put (some d) u).tmps.getD d undef=u:=by
 show(a.tmps.setIfInBounds d u).getD d undef=_
 rw[Array.getD_eq_getD_getElem?,Array.getElem?_setIfInBounds_self];simp[h]
theorem XT (a:Act) (d:Option Nat) (u:Value):(a.put d u).tmps.size=a.tmps.size:=by
 cases d<;>simp[Act.put]
theorem XP {a:Act} (d:Option Nat) (u:Value) (h:a.defers=[]):(a.put d u).defers=[]:=by
 cases d<;>exact h
theorem abB {o:Oper} {a:Act} {T:List AV} {L:List (Nat×List AV)} {H:List Blk} {v:AV} {E:Env} (ax:SimH E H) (bJ:SimL E L) (ar:r0 o=true) (af: ∀d,o.dst=some d→E.mL d=none) (h:mK P o (ch T) L H (fun r=>r=v)):
  ∃t u E',V3 E' v u∧o.dst=some t∧Step E E'∧SimH E' H∧SimL E' L∧(∀s,s≠t→E'.mL s=E.mL s)∧True∧ ∀(next:Act→World→Prop) Q,next (a.put o.dst u) E'.w→o.wp P a E.w next Q:=by
 obtain⟨dst,op,ty,pos,after,guard⟩:=o
 cases op
 all_goals try (cases ar;done)
 rename_i e
 obtain⟨z,az,h⟩:=fT (show QU P e dst L (fun r=>r=v) from h)
 obtain⟨t,aY,h⟩:=fT h
 obtain⟨c,hc,h⟩:=fT h
 obtain⟨hs,h⟩:=r4 h
 obtain⟨U,cl⟩:=r4 h
 have cl:AV.fS t 0=v:=cl
 clear h
 subst cl
 have U:=aa6 U
 subst U
 obtain⟨i,zc,q1,q2,q3,q4⟩:=zb (E:=E) az
 obtain⟨E',aG,e2,dg,hD,jk,_,oy⟩:=W1 (ty:=e) ax bJ (pb.alloc E.w (.cells zc.cells e (0,0))) hc (af t aY) (P8 hs q4)
 refine⟨t,_,E',jk,aY,e2,dg,hD,oy,trivial,fun next Q hk=> ?_⟩
 unfold Oper.wp
 rw[show execOp a.eval ⟨dst,.alloc e,ty,pos,after,guard⟩=(do pure (Next.value (←Instr.alloc e true (.tuple #[])))) from rfl]
 refine Qp (w':=E'.w) ?_ hk
 rw[aG]
 simp[Instr.alloc,zeroValue,typeInfo,q1,q2,newVar,newRow]
theorem ac4 [cH] (D:EW ops ord A): ∀(ka:Nat) (S:Array Bool) (a:Act) (w:World) (pre post:List Item) (E:Env) (T:List AV) (L:List (Nat×List AV)) (H:List Blk),
  S.size=ops.size→left ops.size S=ka→IM ops S→Qy P esc ops ord Q cr S a w pre post E T L H→wpAny P .any ops (pd cr Q) ka S a w:=by
 have fin: ∀(S:Array Bool) (a:Act) (w:World) (pre post:List Item) (E:Env) (T:List AV) (L:List (Nat×List AV)) (H:List Blk),(∀i,i<ops.size→S.getD i false=true)→Qy P esc ops ord Q cr S a w pre post E T L H→pd cr Q .normal a w:=by
  intro S a w pre post E T L H eG I
  have ab:post=[]:=by
   cases post with
   | nil=>rfl
   | cons x r=>
    have h1:=I.ER x (List.mem_cons_self ..)
    rw[eG x.i (D.lt x (by rw[I.r3];simp))] at h1;cases h1
  subst ab
  refine⟨rfl,⟨T,L,H⟩,E,I.ev,I.w,I.qb,⟨I.h,I.l,fun t=> ?_,I.size⟩,I.JY⟩
  rcases I.jt t with⟨x,hx,hu,_⟩ | h
  ·rw[eG x.i (D.lt x (by rw[I.r3];simp[hx]))] at hu;cases hu
  ·exact h
 intro ka
 induction ka with
 | zero=>
  intro S a w pre post E T L H hs hf hc I
  have eG:=ajL hf
  refine⟨?_,fin S a w pre post E T L H eG I⟩
  cases aj:Region.ready .any ops S with
  | nil=>rfl
  | cons i l=>
   have:=X9 hs (i:=i) (by rw[aj];exact List.mem_cons_self ..)
   rw[eG i this.1] at this;cases this.2.1
 | succ ka bz=>
  intro S a w pre post E T L H hs hf hc I
  refine⟨fun aj=>fin S a w pre post E T L H (alw D hs aj) I,fun i hi=> ?_⟩
  obtain⟨aM,sX,vB⟩:=X9 hs hi
  have KO:=abD D hs hc i _ (uK aM) vB
  have SN:(S.setIfInBounds i true).size=ops.size:=by simpa using hs
  have Gi:left ops.size (S.setIfInBounds i true)=ka:=by have:=ajK hs aM sX;omega
  have mf:IM ops (S.setIfInBounds i true):=by
   intro j o an ah e he hb
   rw[CZ] at ah ⊢
   by_cases nU:i=j
   ·subst nU
    have:o=opI ops i:=by rw[uK aM] at an;exact(Option.some.inj an).symm
    subst this
    split
    ·rfl
    ·exact vB e he hb
   ·rw[if_neg fun q=>nU q.1] at ah
    split
    ·rfl
    ·exact hc j o an ah e he hb
  have Ov: ∀j,(S.setIfInBounds i true).getD j false=false→S.getD j false=false∧j≠i:=fun j ah=>by
   rw[CZ] at ah
   split at ah
   ·cases ah
   ·rename_i q;exact⟨ah,fun e=>q ⟨e.symm,by omega⟩⟩
  have Et: ∀j,j≠i→S.getD j false=false→(S.setIfInBounds i true).getD j false=false:=fun j ah h=>by
   rw[CZ,if_neg fun q=>ah q.1.symm];exact h
  obtain⟨y,aX,nY⟩:=D.all i aM
  subst nY
  have nY:y.i=y.i:=rfl
  let j9:List Nat:=(pre.filter fun x=> !S.getD x.i false).filterMap fun x=>(opI ops x.i).dst
  have K2: ∀t,t∈j9↔ ∃x∈pre,S.getD x.i false=false∧(opI ops x.i).dst=some t:=fun t=>by
   simp only[j9,List.mem_filterMap,List.mem_filter,Bool.not_eq_true']
   constructor
   ·rintro⟨x,⟨h1,h2⟩,aD⟩;exact⟨x,h1,h2,aD⟩
   ·rintro⟨x,h1,h2,aD⟩;exact⟨x,⟨h1,h2⟩,aD⟩
  have ci: ∀t,V3 E ((xI j9 T).getD t .undef) (a.tmps.getD t undef):=fun t=>by
   by_cases h:t∈j9
   ·rw[(Gl j9 T t).1 h];exact V3.undef _ _
   ·rw[(Gl j9 T t).2 h]
    exact(I.jt t).resolve_left fun q=>h ((K2 t).2 q)
  have Dl: ∀t∈(opI ops y.i).looksAt ops,t ∉ j9:=fun t aY hm=>by
   obtain⟨x,hx,hu,aW⟩:=(K2 t).1 hm
   have:=KO x.i (by rw[←nY];rw[←nY] at aY;exact D.aoD y aX t aY x (by rw[I.r3];simp[hx]) aW)
   rw[this] at hu;cases hu
  have Tw: ∀t∈(opI ops y.i).looksAt ops,V3 E (T.getD t .undef) (a.tmps.getD t undef):=fun t aY=>(I.jt t).resolve_left fun q=>Dl t aY ((K2 t).2 q)
  have SS: ∀t∈(opI ops y.i).looksAt ops,(xI j9 T).getD t .undef=T.getD t .undef:=fun t aY=>(Gl j9 T t).2 (Dl t aY)
  have QT: ∀E':Env,(∀t,(opI ops y.i).dst≠some t→E'.mL t=E.mL t)→ ∀x∈ord,(S.setIfInBounds y.i true).getD x.i false=false→r0 (opI ops x.i)=true→x.q=true→ ∀d,(opI ops x.i).dst=some d→E'.mL d=none:=fun E' hml x hx hu ar agx d aW=>by
   obtain⟨pr,sW⟩:=Ov _ hu
   rw[hml d (D.apart.inj x hx y aX sW d aW)]
   exact I.bB x hx pr ar agx d aW
  unfold wpOp
  rw[uK aM]
  simp only
  have vA:y∈pre∨y∈post:=by rw[I.r3] at aX;exact List.mem_append.1 aX
  rcases vA with xT | xT
  ·
   obtain⟨U,v,run,F⟩:=I.facts y xT (by rw[nY];exact sX)
   rw[nY] at F
   have hw:=F.c6 E a Tw I.size
   have next: ∀(u:Value) (E':Env),Step E E'→SimH E' H→SimL E' L→(∀t,(opI ops y.i).dst≠some t→E'.mL t=E.mL t)→V3 E' v u→wpAny P .any ops (pd cr Q) ka (S.setIfInBounds y.i true) (a.put (opI ops y.i).dst u) E'.w:=fun u E' a7 ui uj hml hv=>by
    refine bz _ _ _ pre post E' T L H SN Gi mf ⟨I.r3,fun x hx=>Et _ (fun e=> ?_) (I.ER x hx),I.head,I.ev,fun x hx hu=>I.facts x hx (Ov _ hu).1,fun t=> ?_,by rw[XT];exact I.size,ui,uj,I.qb.step a7,QT E' hml,XP _ _ I.JY,rfl⟩
    ·have iY:=D.nodup
     rw[I.r3,List.map_append,List.nodup_append] at iY
     exact iY.2.2 y.i (List.mem_map_of_mem xT) x.i (List.mem_map_of_mem hx) (by rw[nY,e])
    ·by_cases aW:(opI ops y.i).dst=some t
     ·right
      rw[aW]
      by_cases aw:t<T.length
      ·rw[F.put t aW aw,XS (by rw[←I.size];exact aw)];exact hv
      ·rw[List.getD_eq_getElem?_getD,List.getElem?_eq_none (Nat.not_lt.1 aw)];exact V3.undef _ _
     ·rcases I.jt t with⟨x,hx,hu,Dz⟩ | h
      ·exact .inl ⟨x,hx,Et _ (fun e=>aW (by rw[←e];exact Dz)) hu,Dz⟩
      ·right;rw[XQ aW];exact h.le a7.le
   cases run with
   | true=>
    rw[if_pos hw]
    refine .inl ?_
    have ud:=F.tC rfl
    cases zZ:r0 (opI ops y.i) with
    | true=>
     obtain⟨t,u,E',hv,afo,q1,q2,q3,q4,_,c2⟩:=abB (P:=P) (a:=a) I.h I.l zZ (fun t aY=>I.bB y aX (by rw[nY];exact sX) zZ U t aY) ud
     rw[←I.w]
     exact c2 _ _ (next u E' q1 q2 q3 (fun s hs=>q4 s fun e=>hs (by rw[afo,e])) hv)
    | false=>
    rw[zN zZ,←R4 (Hz SS)] at ud
    rw[←I.w]
    refine Oper.wp_mono (fun hL w' ⟨eM,u,E',he,e4,hqt,hv,ar⟩=> ?_) (R6 ci (Sub.refl L H) I.h I.l (FY ud))
    subst he;subst e4;subst ar
    exact next u E' hqt.step (hqt.simH I.h) (hqt.simL I.h I.l) (fun t _=>by rw[hqt.mL]) hv
   | false=>
    rw[if_neg (by rw[hw];simp)]
    have hv:=F.no rfl
    subst hv
    rw[←I.w]
    exact next undef E (Step.refl E) I.h I.l (fun _ _=>rfl) ⟨[],rfl,ak.nil⟩
  ·
   have lv: ∃r,post=y::r:=by
    cases ab:post with
    | nil=>rw[ab] at xT;cases xT
    | cons x r=>
     rw[ab] at xT
     rcases List.mem_cons.1 xT with rfl | agB
     ·exact⟨r,rfl⟩
     ·have hb:=D.ow
      rw[I.r3,ab] at hb
      have:=(hb.at (I.head x r ab)).1 y agB
      rw[nY] at this
      have h1:=KO x.i this
      rw[I.ER x (by rw[ab];exact List.mem_cons_self ..)] at h1;cases h1
   obtain⟨r,af5⟩:=lv
   subst af5
   have U:=I.head y r rfl
   have ud:=I.ev
   obtain⟨nO,run,rT,nm,hw,gI⟩:=Sz (P:=P) ud
   have hw:=hw E a Tw I.size
   have KP:=D.apart
   rw[I.r3] at KP
   have Tc:=m8.Vm KP
   have ae_:=(show wZ A [] (pre++y::r) from I.r3▸D.ow).at U
   have iY:=D.nodup
   rw[I.r3,List.map_append,List.map_cons,List.nodup_append,List.nodup_cons] at iY
   have af2: ∀x∈pre,S.getD x.i false=false→x.i∈y.kB:=fun x hx hu=>by
    rcases ae_.2 x (by simpa using hx) with h | h
    ·rw[nY] at h
     have:=KO x.i h
     rw[hu] at this;cases this
    ·exact h

   have next: ∀(v:AV) (u:Value) (L':List (Nat×List AV)) (H':List Blk) (E':Env),Step E E'→SimH E' H'→SimL E' L'→(∀t,(opI ops y.i).dst≠some t→E'.mL t=E.mL t)→V3 E' v u→lk P esc ops r (putA nO (opI ops y.i).dst v) L' H' (fun T L H=>Q .normal ⟨T,L,H⟩)→
     (∀x∈pre,S.getD x.i false=false→ ∃v run,ze P ops L' H' nO (opI ops x.i) v run)→
     wpAny P .any ops (pd cr Q) ka (S.setIfInBounds y.i true) (a.put (opI ops y.i).dst u) E'.w:=by
    intro v u L' H' E' a7 ax bJ hml hv hK afz
    obtain⟨NP,ald,qF,Lp,af0,af4,afu,hlen,h5,Dd⟩:=On r _ (m8.tail (p:=[y]) (m8.tail KP)) hK
    have Lq: ∀z∈NP,z∈r:=fun z az=>by rw[Lp];exact List.mem_append_left _ az
    have SO: ∀t,(∀z∈y::r,(opI ops z.i).dst≠some t)→qF.getD t .undef=nO.getD t .undef:=fun t aY=>by
     rw[h5 t fun z az=>aY z (List.mem_cons_of_mem _ (Lq z az)),HG (aY y (List.mem_cons_self ..))]
    refine bz _ _ _ (pre++y::NP) ald E' qF L' H' SN Gi mf ⟨by rw[I.r3,Lp];simp,fun x hx=> ?_,af4,afu,fun x hx hu=> ?_,fun t=> ?_,by rw[XT,hlen,Bb,rT];exact I.size,ax,bJ,I.qb.step a7,QT E' hml,XP _ _ I.JY,rfl⟩
    ·have GH:x∈r:=by rw[Lp];exact List.mem_append_right _ hx
     exact Et _ (fun e=>iY.2.1.1 (by rw[nY,←e];exact List.mem_map_of_mem GH)) (I.ER x (List.mem_cons_of_mem _ GH))
    ·obtain⟨pr,sW⟩:=Ov _ hu
     rcases List.mem_append.1 hx with hx | hx
     ·refine⟨(I.facts x hx pr).1,?_⟩
      obtain⟨eM,run',F⟩:=afz x hx pr
      refine⟨eM,run',F.mono (by rw[hlen,Bb]) (fun t aY=>SO t fun z az=>(Tc x hx).1 t aY z az) fun d aW=>SO d fun z az=>(Tc x hx).2 d aW z az⟩
     ·rcases List.mem_cons.1 hx with rfl | hx
      ·exact absurd nY sW
      ·exact⟨af0 x hx,Dd x hx⟩
    ·by_cases xz: ∃z∈NP,(opI ops z.i).dst=some t
     ·obtain⟨z,az,rW⟩:=xz
      refine .inl ⟨z,by simp[az],Et _ (fun e=>iY.2.1.1 (by rw[nY,←e];exact List.mem_map_of_mem (Lq z az))) (I.ER z (List.mem_cons_of_mem _ (Lq z az))),rW⟩
     ·have aG:=h5 t fun z az q=>xz ⟨z,az,q⟩
      by_cases aW:(opI ops y.i).dst=some t
      ·right
       rw[nY] at aW aG
       rw[aG,aW]
       by_cases aw:t<nO.length
       ·rw[XM aw,XS (by rw[←I.size,←rT];exact aw)];exact hv
       ·rw[List.getD_eq_getElem?_getD,List.getElem?_eq_none (by rw[Bb];exact Nat.not_lt.1 aw)];exact V3.undef _ _
      ·rw[HG aW,nm] at aG
       rcases I.jt t with⟨x,hx,hu,Dz⟩ | h
       ·refine .inl ⟨x,by simp[hx],Et _ (fun e=>aW (by rw[nY,←e];exact Dz)) hu,Dz⟩
       ·right;rw[aG,XQ (by rw[←nY];exact aW)];exact h.le a7.le
   cases run with
   | true=>
    rw[if_pos hw]
    refine .inl ?_
    have gI:(match y.q with
     | true=>_
     | false=>lj P esc (opI ops y.i) (ch nO) L H fun v L' H'=>tU P ops y.kB nO L' H'∧lk P esc ops r (putA nO (opI ops y.i).dst v) L' H' (fun T L H=>Q .normal ⟨T,L,H⟩)):=gI
    rw[U] at gI
    have gI:lj P esc (opI ops y.i) (ch nO) L H fun v L' H'=>tU P ops y.kB nO L' H'∧lk P esc ops r (putA nO (opI ops y.i).dst v) L' H' (fun T L H=>Q .normal ⟨T,L,H⟩):=gI
    rw[←adr (Hz fun t aY=>(SS t aY).trans (nm t).symm)] at gI
    rw[←I.w]
    refine Oper.wp_mono (fun hL w' ⟨v,u,L',H',E',⟨rQ,hK⟩,e4,q1,q2,q3,q4,ar,hml⟩=> ?_) (evOp_sound ci I.h I.l gI)
    subst e4;subst ar
    refine next v u L' H' E' q1 q2 q3 hml q4 hK fun x hx hu=> ?_
    obtain⟨f1,f2,f3⟩:=Sl rQ x.i (af2 x hx hu)
    refine⟨_,true,⟨fun E a hs az=> ?_,fun _=>f3,fun e=>(by cases e),fun d aW aM=> ?_⟩⟩
    ·unfold Region.wanted
     cases Df:(opI ops x.i).guard with
     | none=>rfl
     | some g=>rw[Df] at f1;cases f1
    ·unfold vm;rw[aW]
   | false=>
    rw[if_neg (by rw[hw];simp)]
    rw[←I.w]
    refine next (.tup []) undef L H E (Step.refl E) I.h I.l (fun _ _=>rfl) ⟨[],rfl,ak.nil⟩ gI fun x hx hu=> ?_
    obtain⟨_,eM,run',F⟩:=I.facts x hx hu
    exact⟨eM,run',F.mono rT (fun t _=>nm t) fun d _=>nm d⟩
end
def Fi (ops:Array Oper):List Item→Bool
 | []=>true
 | x::r=>((opI ops x.i).looksAt ops).all (fun t=>(x::r).all fun y=>(opI ops y.i).dst !=some t)&&(match(opI ops x.i).dst with
  | some d=>r.all fun y=>(opI ops y.i).dst !=some d
  | none=>true)&&Fi ops r
theorem Q2 {ops:Array Oper}: ∀{l:List Item},Fi ops l=true→m8 ops l
 | [],_=>trivial
 | x::r,h=>by
  simp only[Fi,Bool.and_eq_true] at h
  obtain⟨⟨h1,h2⟩,aD⟩:=h
  refine⟨fun t aY y aX=> ?_,fun d aW y aX=> ?_,Q2 aD⟩
  ·have:=List.all_eq_true.1 (List.all_eq_true.1 h1 t aY) y aX
   simpa using this
  ·rw[aW] at h2
   have:=List.all_eq_true.1 h2 y aX
   simpa using this
def Fm (A:Nat→List Nat):List Item→List Item→Bool
 | _,[]=>true
 | p,h::r=>(h.q || (r.all (fun y=>(A y.i).contains h.i)&&p.all fun x=>(A h.i).contains x.i || h.kB.contains x.i))&&Fm A (p++[h]) r
theorem Q6 {A:Nat→List Nat}: ∀{l p:List Item},Fm A p l=true→wZ A p l
 | [],_,_=>trivial
 | h::r,p,hb=>by
  simp only[Fm,Bool.and_eq_true] at hb
  refine⟨fun U=> ?_,Q6 hb.2⟩
  have h1:=hb.1
  rw[U,Bool.false_or,Bool.and_eq_true] at h1
  refine⟨fun y aX=>by simpa using List.all_eq_true.1 h1.1 y aX,fun x hx=> ?_⟩
  have:=List.all_eq_true.1 h1.2 x hx
  simpa using this
def Hr:List Nat→Bool
 | []=>true
 | x::r=> !r.contains x&&Hr r
theorem Xa: ∀{l:List Nat},Hr l=true→l.Nodup
 | [],_=>List.nodup_nil
 | x::r,h=>by
  simp only[Hr,Bool.and_eq_true] at h
  rw[List.nodup_cons]
  exact⟨by simpa using h.1,Xa h.2⟩
def zH (ops:Array Oper) (ord:List Item) (A:Nat→List Nat):Bool:=
 (List.range ops.size).all (fun i=>(opI ops i).after.toList.all (fun e=> !Region.binds .any e || decide (e.on<i))&&(A i).all fun a=>(opI ops i).after.toList.any fun e=>Region.binds .any e&&(a==e.on || (A e.on).contains a))&&
 (List.range ops.size).all (fun i=>ord.any fun x=>x.i==i)&&ord.all (fun x=>decide (x.i<ops.size))&&Hr (ord.map (·.i))&&
 ord.all (fun x=>((opI ops x.i).looksAt ops).all fun t=>ord.all fun y=>(opI ops y.i).dst !=some t || (A x.i).contains y.i)&&Fi ops ord&&Fm A [] ord
theorem ac5 {ops:Array Oper} {ord:List Item} {A:Nat→List Nat} (cu: ∀i,ops.size≤i→A i=[]) (h:zH ops ord A=true):EW ops ord A:=by
 simp only[zH,Bool.and_eq_true] at h
 obtain⟨⟨⟨⟨⟨⟨h1,h2⟩,aD⟩,bj⟩,cl⟩,cC⟩,hM⟩:=h
 have get: ∀i o,ops[i]?=some o→i<ops.size∧o=opI ops i:=fun i o an=>by
  have aM:i<ops.size:=by
   rcases Nat.lt_or_ge i ops.size with h | h
   ·exact h
   ·rw[Array.getElem?_eq_none h] at an;cases an
  rw[uK aM] at an
  exact⟨aM,(Option.some.inj an).symm⟩
 refine⟨fun i o an e he hb=> ?_,fun i o an a ar=> ?_,fun i hi=> ?_,fun x hx=> ?_,Xa bj,fun x hx t aY y aX aW=> ?_,Q2 cC,Q6 hM⟩
 ·obtain⟨aM,rfl⟩:=get i o an
  have:=List.all_eq_true.1 h1 i (List.mem_range.2 aM)
  rw[Bool.and_eq_true] at this
  have:=List.all_eq_true.1 this.1 e (by simpa using he)
  rw[hb] at this;simpa using this
 ·obtain⟨aM,rfl⟩:=get i o an
  have:=List.all_eq_true.1 h1 i (List.mem_range.2 aM)
  rw[Bool.and_eq_true] at this
  have:=List.all_eq_true.1 this.2 a ar
  obtain⟨e,he,hc⟩:=List.any_eq_true.1 this
  rw[Bool.and_eq_true] at hc
  exact⟨e,by simpa using he,hc.1,by simpa using hc.2⟩
 ·obtain⟨x,hx,hc⟩:=List.any_eq_true.1 (List.all_eq_true.1 h2 i (List.mem_range.2 hi))
  exact⟨x,hx,by simpa using hc⟩
 ·simpa using List.all_eq_true.1 aD x hx
 ·have:=List.all_eq_true.1 (List.all_eq_true.1 (List.all_eq_true.1 cl x hx) t aY) y aX
  rw[Bool.or_eq_true] at this
  rcases this with h | h
  ·rw[aW] at h;simp at h
  ·simpa using h
def CF (lb:List (List Nat)) (i:Nat):List Nat:=lb.getD i []
theorem Env.RK (E:Env):Step E {E with w:=E.w.drew}:=
 ⟨⟨fun _ h=>h,fun _ h=>h,fun _ _=>rfl,fun _ _=>rfl,fun _=>Nat.le_refl _,fun _ _ h _=>⟨h,rfl,rfl⟩,fun _ _ h=>h⟩,rfl,rfl,rfl,Nat.le_refl _,fun _ _ _ _=>rfl,fun _ _ h=> .inl h,fun _ h=> .inl h,fun _ h=> .inl h,fun _ h=> .inl h⟩
theorem ac8 {E:Env} {H:List Blk} (h:SimH E H):SimH {E with w:=E.w.drew} H:=
 {h with
  heap:=fun b c hb=>by
   obtain⟨blk,al,ty,q1,b6,q2,q3,q4,cN,c2⟩:=h.heap b c hb
   exact⟨blk,al,ty,q1,b6,q2,q3,q4,cN,fun i j row a aj ah=>by obtain⟨u,hu,hv⟩:=c2 i j row a aj ah;exact⟨u,hu,hv.le (Env.RK E).le.bQ⟩⟩}
theorem ajJ (n:Nat):left n (Array.replicate n false)=n:=by
 unfold left
 have:(List.range n).countP (fun j=> !(Array.replicate n false).getD j false)=(List.range n).countP (fun _=>true):=by
  refine List.countP_congr fun x hx=> ?_
  rw[Array.getD_eq_getD_getElem?,Array.getElem?_replicate]
  split<;>simp
 rw[this,List.countP_true,List.length_range]
def xj:List (Nat×List AV)→List (Nat×List AV)→Bool
 | [],_=>true
 | (t,_)::r,L=>(eR L t).isNone&&xj r L
def w8 (ops:Array Oper) (L:List (Nat×List AV)):List Item→Bool
 | []=>true
 | x::r=>(match x.q&&r0 (opI ops x.i) with
  | false=>true
  | true=>match(opI ops x.i).dst with
   | none=>true
   | some d=>(eR L d).isNone)&&w8 ops L r
theorem Sq {E:Env} {L:List (Nat×List AV)} (bJ:SimL E L): ∀{jw:List (Nat×List AV)},xj jw L=true→SimL E (jw++L)
 | [],_=>bJ
 | (t,c)::r,h=>by
  simp only[xj,Bool.and_eq_true,Option.isNone_iff_eq_none] at h
  exact(Sq bJ h.2).cons (bJ.none h.1)
theorem QV {ops:Array Oper} {E:Env} {L:List (Nat×List AV)} (bJ:SimL E L): ∀{l:List Item},w8 ops L l=true→ ∀x∈l,r0 (opI ops x.i)=true→x.q=true→ ∀d,(opI ops x.i).dst=some d→E.mL d=none
 | [],_,x,hx,_,_,_,_=>by cases hx
 | y::r,h,x,hx,ar,U,d,aW=>by
  simp only[w8,Bool.and_eq_true] at h
  rcases List.mem_cons.1 hx with rfl | hx
  ·have h1:=h.1
   rw[U,ar] at h1
   simp only[Bool.and_self] at h1
   rw[aW] at h1
   exact bJ.none (by simpa using h1)
  ·exact QV bJ h.2 x hx ar U d aW
theorem WpS.Yf [cH] {P:Program} {esc:List Nat} {c:Code} {id:Nat} {ops:Array Oper} {Q:Exit→St→Prop} {T:List AV} {L:List (Nat×List AV)} {H:List Blk} (ord:List Item) (lb:List (List Nat)) (hm:P.follows .mixedOrders=true)
  (aw:lb.length=ops.size) (aW:zH ops ord (CF lb)=true) (e:c= .region id ops true) (jw:List (Nat×List AV)) (hf:xj jw L=true) (az:w8 ops L ord=true) (h:lk P esc ops ord T (jw++L) H (fun T L H=>Q .normal ⟨T,L,H⟩)):WpS P c Q ⟨T,L,H⟩:=by
 subst e
 intro cr E a g s d
 have D:=ac5 (fun i hi=>by unfold CF;rw[List.getD_eq_getElem?_getD,List.getElem?_eq_none (by omega)];rfl) aW
 refine wp_region_any hm ?_
 obtain⟨pre,post,qF,aj,ab,af3,ud,hlen,h5,Dd⟩:=On ord T D.apart h
 have sX: ∀j,(Array.replicate ops.size false).getD j false=false:=fun j=>by
  rw[Array.getD_eq_getD_getElem?,Array.getElem?_replicate];split<;>rfl
 have a7:=Env.RK E
 have hw:(show World from{E.w with drawn:=E.w.drawn+1})=({E with w:=E.w.drew}:Env).w:=rfl
 refine ac4 D ops.size _ a _ pre post {E with w:=E.w.drew} qF (jw++L) H (by simp) (ajJ _) (fun i o an ah=> ?_) ⟨aj,fun x hx=>sX _,af3,ud,fun x hx _=>⟨ab x hx,Dd x hx⟩,fun t=> ?_,by rw[hlen];exact s.size,ac8 s.h,Sq ?_ hf,g.step a7,fun x hx _ ar U d aW=>QV s.l az x hx ar U d aW,d,rfl⟩
 ·rw[sX] at ah;cases ah
 ·by_cases xz: ∃z∈pre,(opI ops z.i).dst=some t
  ·obtain⟨z,az,rW⟩:=xz
   exact .inl ⟨z,az,sX _,rW⟩
  ·right
   rw[h5 t fun z az q=>xz ⟨z,az,q⟩]
   exact(s.jt t).le a7.le
 ·intro t c hm
  obtain⟨cells,al,ty,q1,q2,q3⟩:=s.l t c hm
  exact⟨cells,al,ty,q1,q2,q3.mono fun _ _ k=>k.le a7.le.bQ⟩
theorem Hv {φ ψ:Prop} (e:φ=ψ) (h:ψ):φ:=e▸h
def DT (ops:Array Oper):List (Oper×Bool):=ops.toList.map fun o=>(o,true)
theorem WpS.Yg [cH] {P:Program} {esc:List Nat} {c:Code} {id:Nat} {ops:Array Oper} {Q:Exit→St→Prop} {T:List AV} {L:List (Nat×List AV)} {H:List Blk} (e:c= .region id ops false)
  (h:evOps P esc ops (DT ops) T L H (fun T L H=>Q .normal ⟨T,L,H⟩)):WpS P c Q ⟨T,L,H⟩:=by
 subst e
 intro cr E a g s d
 refine wp_region_list ?_
 have:=FX (DT ops) T L H E a g s d h
 have e2:(DT ops).map (·.1)=ops.toList:=by
  unfold DT;rw[List.map_map];exact List.map_id' _
 rwa [e2] at this
def ha:List (Nat×AV)→Nat→AV
 | [],_=> .undef
 | (k,v)::r,t=>match Nat.beq k t with
  | true=>v
  | false=>ha r t
def nj:List (Nat×AV)→Nat→List (Nat×AV)
 | [],_=>[]
 | (k,v)::r,t=>match Nat.beq k t with
  | true=>nj r t
  | false=>(k,v)::nj r t
def e5 (n:Nat):List (Nat×AV)→Bool
 | []=>true
 | (k,_)::r=>match Nat.blt k n with
  | true=>e5 n r
  | false=>false
@[irreducible] def bt (n:Nat) (A:List (Nat×AV)):List AV:=(List.range n).map (ha A)
def qm (n:Nat) (A:List (Nat×AV)) (dst:Option Nat) (v:AV):List (Nat×AV):=match dst with
 | none=>A
 | some d=>match Nat.blt d n with
  | true=>(d,v)::nj A d
  | false=>A
def r5 (A:List (Nat×AV)):Operand→AV
 | .tmp t=>ha A t
 | .const v=>qL v
 | .func f=> .fn f []
 | .global _=> .undef
theorem aj3 (A:List (Nat×AV)) (d t:Nat):ha (nj A d) t=if d=t then .undef else ha A t:=by
 induction A with
 | nil=>simp[nj,ha]
 | cons p r bz=>
  obtain⟨k,v⟩:=p
  have Gw:ha ((k,v)::r) t=match Nat.beq k t with
   | true=>v
   | false=>ha r t:=rfl
  rw[Gw]
  cases h1:Nat.beq k d with
  | true=>
   have aG:=Nat.eq_of_beq_eq_true h1
   rw[show nj ((k,v)::r) d=nj r d by simp[nj,h1],bz]
   subst aG
   cases h2:Nat.beq k t with
   | true=>have e2:=Nat.eq_of_beq_eq_true h2;simp[e2]
   | false=>rfl
  | false=>
   rw[show nj ((k,v)::r) d=(k,v)::nj r d by simp[nj,h1],show ha ((k,v)::nj r d) t=match Nat.beq k t with
    | true=>v
    | false=>ha (nj r d) t from rfl]
   cases h2:Nat.beq k t with
   | true=>
    have e2:=Nat.eq_of_beq_eq_true h2
    have: ¬d=t:=fun e=>by subst e;subst e2;rw[Nat.beq_refl] at h1;cases h1
    simp[this]
   | false=>simp only;rw[bz]
theorem WB {n:Nat}: ∀{A:List (Nat×AV)} {t:Nat},e5 n A=true→n≤t→ha A t= .undef
 | [],t,_,_=>rfl
 | (k,v)::r,t,h,aY=>by
  unfold e5 at h
  split at h
  ·rename_i hk
   have hk:k<n:=by rw[←Nat.blt_eq];exact hk
   unfold ha
   cases h2:Nat.beq k t with
   | true=>have:=Nat.eq_of_beq_eq_true h2;omega
   | false=>exact WB h aY
  ·cases h
theorem Nt {n d:Nat}: ∀{A:List (Nat×AV)},e5 n A=true→e5 n (nj A d)=true
 | [],h=>rfl
 | (k,v)::r,h=>by
  unfold e5 at h
  split at h
  ·rename_i hk
   unfold nj
   split
   ·exact Nt h
   ·unfold e5;rw[hk];exact Nt h
  ·cases h
theorem Nu {n:Nat} {A:List (Nat×AV)} (h:e5 n A=true) (dst:Option Nat) (v:AV):e5 n (qm n A dst v)=true:=by
 unfold qm
 split
 ·exact h
 ·split
  ·rename_i aW;unfold e5;rw[aW];exact Nt h
  ·exact h
theorem vW (n:Nat) (A:List (Nat×AV)):(bt n A).length=n:=by unfold bt;simp
theorem th {n:Nat} {A:List (Nat×AV)} (h:e5 n A=true) (t:Nat):(bt n A).getD t .undef=ha A t:=by
 unfold bt
 rw[List.getD_eq_getElem?_getD,List.getElem?_map]
 rcases Nat.lt_or_ge t n with aM | gY
 ·rw[List.getElem?_range aM];rfl
 ·rw[List.getElem?_eq_none (by simpa using gY),WB h gY];rfl
theorem Nv {n:Nat} {A:List (Nat×AV)} (dst:Option Nat) (v:AV):putA (bt n A) dst v=bt n (qm n A dst v):=by
 cases dst with
 | none=>rfl
 | some d=>
  show(bt n A).set d v=bt n (match Nat.blt d n with
   | true=>(d,v)::nj A d
   | false=>A)
  cases aW:Nat.blt d n with
  | true=>
   apply List.ext_getElem?
   intro t
   unfold bt
   rw[List.getElem?_set]
   simp only[List.length_map,List.length_range,List.getElem?_map]
   rcases Nat.lt_or_ge t n with aM | gY
   ·rw[List.getElem?_range aM]
    by_cases he:d=t
    ·subst he;simp[aM,ha]
    ·have hb:Nat.beq d t=false:=by
      cases U:Nat.beq d t with
      | true=>exact absurd (Nat.eq_of_beq_eq_true U) he
      | false=>rfl
     simp[he,ha,hb,aj3]
   ·rw[List.getElem?_eq_none (l:=List.range n) (by simpa using gY)]
    by_cases he:d=t
    ·subst he;simp[Nat.not_lt.2 gY]
    ·simp[he]
  | false=>
   have: ¬d<n:=fun h=>by rw[←Nat.blt_eq,aW] at h;cases h
   exact List.set_eq_of_length_le (by rw[vW];omega)
theorem Hh {n:Nat} {A:List (Nat×AV)} (h:e5 n A=true):ch (bt n A)=r5 A:=by
 funext o
 cases o with
 | tmp t=>exact th h t
 | _=>rfl
theorem WL {n:Nat} {A:List (Nat×AV)} (h:e5 n A=true) {t:Nat} {b:Bool} (hb:ha A t= .bool b):(bt n A).set t (.bool b)=bt n A:=by
 apply List.ext_getElem?
 intro s
 rw[List.getElem?_set]
 by_cases he:t=s
 ·subst he
  rw[if_pos rfl]
  rcases Nat.lt_or_ge t n with aM | gY
  ·rw[if_pos (by rw[vW];exact aM)]
   unfold bt
   rw[List.getElem?_map,List.getElem?_range aM]
   show _=some (ha A t)
   rw[hb]
  ·rw[if_neg (by rw[vW];omega),List.getElem?_eq_none (by rw[vW];omega)]
 ·rw[if_neg he]
def vq (ops:Array Oper) (o:Oper) (A:List (Nat×AV)) (x y:Prop):Prop:=match o.guard with
 | none=>x
 | some (j,c6)=>match(ops[j]?).bind (·.dst) with
  | none=>False
  | some t=>match ha A t with
   | .bool b=>(match b with
    | true=>(match c6 with
     | true=>x
     | false=>y)
    | false=>(match c6 with
     | true=>y
     | false=>x))
   | .tup []=>y
   | _=>False
theorem Sx {ops:Array Oper} {o:Oper} {n:Nat} {A:List (Nat×AV)} (h:e5 n A=true) {x y:List AV→Prop}:qa ops true o (bt n A) x y=vq ops o A (x (bt n A)) (y (bt n A)):=by
 unfold qa vq
 cases o.guard with
 | none=>rfl
 | some g=>
  obtain⟨j,c6⟩:=g
  simp only
  cases(ops[j]?).bind (·.dst) with
  | none=>rfl
  | some t=>
   simp only
   rw[th h t]
   cases hb:ha A t with
   | bool b=>
    cases b with
    | true=>simp only[rB];rw[WL h hb];cases c6<;>rfl
    | false=>simp only[rB];rw[WL h hb];cases c6<;>rfl
   | tup l=>cases l<;>rfl
   | _=>rfl
def evS (P:Program) (esc:List Nat) (ops:Array Oper) (n:Nat):List Oper→List (Nat×AV)→List (Nat×List AV)→List Blk→(List (Nat×AV)→List (Nat×List AV)→List Blk→Prop)→Prop
 | [],A,L,H,K=>K A L H
 | o::rest,A,L,H,K=>vq ops o A
   (match o.op with
    | .pick c x y=>qJ (r5 A c) fun z=>(match z with
     | true=>evS P esc ops n rest (qm n A o.dst (r5 A x)) L H K
     | false=>evS P esc ops n rest (qm n A o.dst (r5 A y)) L H K)
    | _=>lj P esc o (r5 A) L H fun v L' H'=>evS P esc ops n rest (qm n A o.dst v) L' H' K)
   (evS P esc ops n rest (qm n A o.dst (.tup [])) L H K)
theorem Kh {P:Program} {esc:List Nat} {ops:Array Oper} {n:Nat} {K:List AV→List (Nat×List AV)→List Blk→Prop}: ∀(l:List Oper) (A:List (Nat×AV)) (L:List (Nat×List AV)) (H:List Blk),e5 n A=true→
  evOps P esc ops (l.map fun o=>(o,true)) (bt n A) L H K=evS P esc ops n l A L H fun A L H=>K (bt n A) L H
 | [],A,L,H,h=>rfl
 | o::rest,A,L,H,h=>by
  show qa ops true o (bt n A) _ _=_
  rw[Sx h]
  show vq ops o A _ _=vq ops o A _ _
  have e2:evOps P esc ops (rest.map fun o=>(o,true)) (putA (bt n A) o.dst (.tup [])) L H K=evS P esc ops n rest (qm n A o.dst (.tup [])) L H fun A L H=>K (bt n A) L H:=by
   rw[Nv,Kh rest _ _ _ (Nu h _ _)]
  have J9: ∀v L H,evOps P esc ops (rest.map fun o=>(o,true)) (putA (bt n A) o.dst v) L H K=evS P esc ops n rest (qm n A o.dst v) L H fun A L H=>K (bt n A) L H:=fun v L H=>by
   rw[Nv,Kh rest _ _ _ (Nu h _ _)]
  rw[e2]
  congr 1
  unfold yD
  rw[Hh h]
  cases gH:o.op<;>simp only[J9]
  case pick c x y=>
   unfold qJ
   cases r5 A c<;>first | rfl | (rename_i z;cases z<;>rfl)
theorem WpS.HR [cH] {P:Program} {esc:List Nat} {c:Code} {id n:Nat} {ops:Array Oper} {Q:Exit→St→Prop} {A:List (Nat×AV)} {L:List (Nat×List AV)} {H:List Blk} (e:c= .region id ops false) (af:e5 n A=true)
  (h:evS P esc ops n (ops.toList.drop 0) A L H (fun A L H=>Q .normal ⟨bt n A,L,H⟩)):WpS P c Q ⟨bt n A,L,H⟩:=
 WpS.Yg (esc:=esc) e (by unfold DT;rw[Kh _ _ _ _ af];exact h)
def J3 (o:Oper) (A:List (Nat×AV)):AV:=match o.dst with
 | some d=>ha A d
 | none=> .undef
def xi (P:Program) (ops:Array Oper):List Nat→List (Nat×AV)→List (Nat×List AV)→List Blk→Prop
 | [],_,_,_=>True
 | i::r,A,L,H=>((opI ops i).guard.isNone=true∧(opI ops i).dst.isSome=true∧mK P (opI ops i) (r5 A) L H (fun v=>v=J3 (opI ops i) A))∧xi P ops r A L H
def evSD (P:Program) (esc:List Nat) (ops:Array Oper) (n:Nat):List Item→List (Nat×AV)→List (Nat×List AV)→List Blk→(List (Nat×AV)→List (Nat×List AV)→List Blk→Prop)→Prop
 | [],A,L,H,K=>K A L H
 | x::rest,A,L,H,K=>vq ops (opI ops x.i) A
   (match x.q with
    | true=>mK P (opI ops x.i) (r5 A) L H fun v=>evSD P esc ops n rest (qm n A (opI ops x.i).dst v) L H K
    | false=>lj P esc (opI ops x.i) (r5 A) L H fun v L' H'=>xi P ops x.kB A L' H'∧evSD P esc ops n rest (qm n A (opI ops x.i).dst v) L' H' K)
   (evSD P esc ops n rest (qm n A (opI ops x.i).dst (.tup [])) L H K)
theorem Sm {P:Program} {ops:Array Oper} {n:Nat} {A:List (Nat×AV)} {L:List (Nat×List AV)} {H:List Blk} (h:e5 n A=true): ∀l:List Nat,tU P ops l (bt n A) L H=xi P ops l A L H
 | []=>rfl
 | i::r=>by
  show(_∧_)=(_∧_)
  rw[Sm h r,Hh h]
  have:vm (opI ops i) (bt n A)=J3 (opI ops i) A:=by
   unfold vm J3
   cases(opI ops i).dst with
   | none=>rfl
   | some d=>exact th h d
  rw[this]
theorem R2 {P:Program} {esc:List Nat} {ops:Array Oper} {n:Nat} {K:List AV→List (Nat×List AV)→List Blk→Prop}: ∀(l:List Item) (A:List (Nat×AV)) (L:List (Nat×List AV)) (H:List Blk),l.all (·.lit)=true→e5 n A=true→
  lk P esc ops l (bt n A) L H K=evSD P esc ops n l A L H fun A L H=>K (bt n A) L H
 | [],A,L,H,aw,h=>rfl
 | x::rest,A,L,H,aw,h=>by
  simp only[List.all_cons,Bool.and_eq_true] at aw
  show qa ops x.lit (opI ops x.i) (bt n A) _ _=_
  rw[aw.1,Sx h]
  show vq ops (opI ops x.i) A _ _=vq ops (opI ops x.i) A _ _
  have J9: ∀v L H,lk P esc ops rest (putA (bt n A) (opI ops x.i).dst v) L H K=evSD P esc ops n rest (qm n A (opI ops x.i).dst v) L H fun A L H=>K (bt n A) L H:=fun v L H=>by
   rw[Nv,R2 rest _ _ _ aw.2 (Nu h _ _)]
  simp only[J9,Hh h,Sm h]
  first
  | done
  | (cases x.q<;>rfl)
theorem WpS.alD [cH] {P:Program} {esc:List Nat} {c:Code} {id n:Nat} {ops:Array Oper} {Q:Exit→St→Prop} {A:List (Nat×AV)} {L:List (Nat×List AV)} {H:List Blk} (ord:List Item) (lb:List (List Nat)) (hm:P.follows .mixedOrders=true)
  (aw:lb.length=ops.size) (aW:zH ops ord (CF lb)=true) (Lc:ord.all (·.lit)=true) (e:c= .region id ops true) (af:e5 n A=true) (jw:List (Nat×List AV)) (hf:xj jw L=true) (az:w8 ops L ord=true) (h:evSD P esc ops n (ord.drop 0) A (jw++L) H (fun A L H=>Q .normal ⟨bt n A,L,H⟩)):WpS P c Q ⟨bt n A,L,H⟩:=
 WpS.Yf (esc:=esc) ord lb hm aw aW e jw hf az (by rw[R2 _ _ _ _ Lc af];exact h)
theorem Weak.jt [cH] {T T':List AV} {L:List (Nat×List AV)} {H:List Blk} (aw:T'.length=T.length) (h: ∀t,T'.getD t .undef=T.getD t .undef∨T'.getD t .undef= .undef):Weak ⟨T,L,H⟩ ⟨T',L,H⟩:=fun cr E tmps g s=>
 ⟨E,rfl,g,s.h,s.l,fun t=>by
  show V3 E (T'.getD t .undef) _
  rcases h t with e | e<;>rw[e]
  ·exact s.jt t
  ·exact V3.undef _ _,by show T'.length=_;rw[aw];exact s.size⟩
def pE (A:List (Nat×AV)):List (Nat×AV)→List (Nat×AV)
 | []=>[]
 | (k,_)::r=>(k,ha A k)::pE A r
theorem Nq {A:List (Nat×AV)}: ∀(B:List (Nat×AV)) (t:Nat),ha (pE A B) t=ha A t∨ha (pE A B) t= .undef
 | [],t=> .inr rfl
 | (k,v)::r,t=>by
  show(match Nat.beq k t with
   | true=>ha A k
   | false=>ha (pE A r) t)=ha A t∨_
  cases h:Nat.beq k t with
  | true=>have:=Nat.eq_of_beq_eq_true h;subst this;exact .inl rfl
  | false=>
   rcases Nq r t with e | e
   ·exact .inl e
   ·right;show(match Nat.beq k t with
     | true=>ha A k
     | false=>ha (pE A r) t)=_
    rw[h];exact e
def DU (c3:List Nat):List (Nat×AV)→Bool
 | []=>true
 | (_,v)::r=>q0 c3 v&&DU c3 r
theorem WD {c3:List Nat}: ∀{A:List (Nat×AV)},DU c3 A=true→ ∀t,q0 c3 (ha A t)=true
 | [],h,t=>rfl
 | (k,v)::r,h,t=>by
  simp only[DU,Bool.and_eq_true] at h
  unfold ha
  cases Nat.beq k t with
  | true=>exact h.1
  | false=>exact WD h.2 t
theorem aoQ [cH] {n:Nat} {A A':List (Nat×AV)} {L L':List (Nat×List AV)} {H:List Blk} (c3:List Nat) (cu:e5 n A=true) (oA:e5 n A'=true) (ab:DU c3 A'=true) (nk:pE A A'=A') (gO:p6 c3 L=L'):Weak ⟨bt n A,L,H⟩ ⟨bt n A',L',H⟩:=by
 subst gO
 refine(Weak.jt (T':=bt n A') (by rw[vW,vW]) fun t=> ?_).trans (Weak.p6 c3 ?_)
 ·rw[th cu,th oA,←nk];exact Nq A' t
 ·rw[List.all_eq_true]
  intro a ar
  obtain⟨t,aY⟩:=List.mem_iff_getElem?.1 ar
  have e:(bt n A').getD t .undef=a:=by rw[List.getD_eq_getElem?_getD,aY];rfl
  rw[th oA] at e
  rw[←e]
  exact WD ab t
theorem Cj [cH] {n:Nat} {A A':List (Nat×AV)} {L:List (Nat×List AV)} {H:List Blk} (cu:e5 n A=true) (oA:e5 n A'=true) (nk:pE A A'=A'):Weak ⟨bt n A,L,H⟩ ⟨bt n A',L,H⟩:=
 Weak.jt (T':=bt n A') (by rw[vW,vW]) fun t=>by rw[th cu,th oA,←nk];exact Nq A' t
theorem acK {n:Nat} {A:List (Nat×AV)} {o:Operand} {b:Bool} {L:List (Nat×List AV)} {H:List Blk} (af:e5 n A=true) (h:r5 A o= .bool b):ch (St.mk (bt n A) L H).T o= .bool b:=by
 show ch (bt n A) o=_
 rw[Hh af,h]
def uS (P:Program) (A:List (Nat×AV)) (L:List (Nat×List AV)) (H:List Blk):List ResultVar→(List AV→Prop)→Prop
 | [],K=>K []
 | .tmp t::rs,K=>uS P A L H rs fun l=>K (ha A t::l)
 | .cell a t::rs,K=>qY P t (ha A a) L H fun x=>uS P A L H rs fun l=>K (x::l)
theorem Oa {P:Program} {n:Nat} {A:List (Nat×AV)} {L:List (Nat×List AV)} {H:List Blk} (af:e5 n A=true): ∀(rs:List ResultVar) (K:List AV→Prop),uR P ⟨bt n A,L,H⟩ rs K=uS P A L H rs K
 | [],K=>rfl
 | .tmp t::rs,K=>by
  show uR P ⟨bt n A,L,H⟩ rs (fun l=>K ((bt n A).getD t .undef::l))=uS P A L H rs fun l=>K (ha A t::l)
  rw[th af];exact Oa af rs _
 | .cell a t::rs,K=>by
  show qY P t ((bt n A).getD a .undef) L H _=qY P t (ha A a) L H _
  rw[th af]
  congr 1
  funext x
  exact Oa af rs _
theorem Od {P:Program} {fn:Func} {n:Nat} {A:List (Nat×AV)} {L:List (Nat×List AV)} {H:List Blk} {r:AV} {Q:AV→List Blk→Prop} (af:e5 n A=true) (l:List AV) (e: ∀K,uS P A L H fn.results.toList K=K l) (aj:l.all lE=true) (hw:tB l=r) (h:Q r H):w5 P fn Q .ret ⟨bt n A,L,H⟩:=by
 show wv P fn ⟨bt n A,L,H⟩ Q
 unfold wv
 rw[Oa af,e]
 exact⟨aj,by rw[hw];exact h⟩
theorem ado {P:Program} {fn:Func} {n:Nat} {A:List (Nat×AV)} {L:List (Nat×List AV)} {H:List Blk} {r:AV} {Q:AV→List Blk→Prop} (af:e5 n A=true) (l:List AV) (e: ∀K,uS P A L H fn.results.toList K=K l) (aj:l.all lE=true) (hw:tB l=r) (h:Q r H):w5 P fn Q .normal ⟨bt n A,L,H⟩:=
 Od (fn:=fn) af l e aj hw h
theorem R3 {P:Program} {esc:List Nat} {ops:Array Oper} {n:Nat} {K:List (Nat×AV)→List (Nat×List AV)→List Blk→Prop}: ∀(vR n6:List Oper) (A:List (Nat×AV)) (L:List (Nat×List AV)) (H:List Blk),
  evS P esc ops n (vR++n6) A L H K=evS P esc ops n vR A L H fun A L H=>evS P esc ops n n6 A L H K
 | [],n6,A,L,H=>rfl
 | o::r,n6,A,L,H=>by
  show evS P esc ops n (o::(r++n6)) A L H K=_
  simp only[evS,R3 r n6]
theorem kT {P:Program} {esc:List Nat} {ops:Array Oper} {n:Nat} {K:List (Nat×AV)→List (Nat×List AV)→List Blk→Prop} {A:List (Nat×AV)} {L:List (Nat×List AV)} {H:List Blk} (X:List Oper) (i k:Nat):
  evS P esc ops n (X.drop i) A L H K=evS P esc ops n ((X.drop i).take k) A L H fun A L H=>evS P esc ops n (X.drop (i+k)) A L H K:=by
 rw[←R3,←List.drop_drop,List.take_append_drop]
theorem R1 {P:Program} {esc:List Nat} {ops:Array Oper} {n:Nat} {K:List (Nat×AV)→List (Nat×List AV)→List Blk→Prop}: ∀(vR n6:List Item) (A:List (Nat×AV)) (L:List (Nat×List AV)) (H:List Blk),
  evSD P esc ops n (vR++n6) A L H K=evSD P esc ops n vR A L H fun A L H=>evSD P esc ops n n6 A L H K
 | [],n6,A,L,H=>rfl
 | o::r,n6,A,L,H=>by
  show evSD P esc ops n (o::(r++n6)) A L H K=_
  simp only[evSD,R1 r n6]
theorem nR {P:Program} {esc:List Nat} {ops:Array Oper} {n:Nat} {K:List (Nat×AV)→List (Nat×List AV)→List Blk→Prop} {A:List (Nat×AV)} {L:List (Nat×List AV)} {H:List Blk} (X:List Item) (i k:Nat):
  evSD P esc ops n (X.drop i) A L H K=evSD P esc ops n ((X.drop i).take k) A L H fun A L H=>evSD P esc ops n (X.drop (i+k)) A L H K:=by
 rw[←R1,←List.drop_drop,List.take_append_drop]
theorem map_set {α β:Type} (f:α→β) (xs:List α) (i:Nat) (x:α):(List.map f xs).set i (f x)=List.map f (xs.set i x):=by
 rw[List.map_set]
theorem wN {H:List Blk} {α:Type} {eT eF:α→List AV} {b g sz n:Nat} {full:Bool} {xs ys:List α} (af:n=xs.length) (hb:H[b]?=some ⟨g,sz,List.map eT xs⟩) (hc: ∀x,mc H (eT x) (eF x)) (h:xs.length≤4611686018427387904∧xs=ys):
  ho H (.ref b g 0 n full) (.aZ (List.map eF ys) false true):=af▸aae hb hc h
theorem oW {L:List (Nat×List AV)} {H:List Blk} {α:Type} {eT eF:α→List AV} {b g sz n:Nat} {full:Bool} {xs:List α} (aA:n=xs.length) (hb:H[b]?=some ⟨g,sz,List.map eT xs⟩) (hc: ∀x,qC L H (eT x) (eF x)) (af:xs.length≤4611686018427387904):
  gN L H (.ref b g 0 n full) (.aZ (List.map eF xs) false false):=aA▸Yz hb hc af
theorem Og {α:Type} {enc:α→List AV} {k:Nat} (h: ∀x,(enc x).length=k∧(enc x).all kR=true) (ys:List α):wx k (List.map enc ys):=fun row aj=>by
 obtain⟨x,_,rfl⟩:=List.mem_map.1 aj
 exact⟨(h x).1,fun a ar=>List.all_eq_true.1 (h x).2 a ar⟩
theorem DQ {α:Type} {c:Bool} {x y:List α} {n:Nat} (hx:x.length=n) (aX:y.length=n):(bif c then x else y).length=n:=by cases c<;>assumption
def qI:List (Nat×AV)→List (Nat×AV)→List (Nat×AV)
 | [],R=>R
 | p::N,R=>p::qI N R
def RI:List (Nat×AV)→List (Nat×AV)→List (Nat×AV)
 | [],A=>A
 | p::N,A=>nj (RI N A) p.1
def hH (N A:List (Nat×AV)):List (Nat×AV):=qI N (RI N A)
def dy (d:Option Nat) (v:AV) (N A:List (Nat×AV)):List (Nat×AV):=match d with
 | some d=>hH ((d,v)::N) A
 | none=>hH N A
def yL:List (Nat×AV)→Nat→AV→List (Nat×AV)
 | [],_,_=>[]
 | (k,u)::r,t,v=>match Nat.beq k t with
  | true=>(k,v)::r
  | false=>(k,u)::yL r t v
abbrev ai (n:Int):AV:= .int .i64 n
abbrev aq (b:Bool):AV:= .bool b
abbrev bB {α:Type} (e:α→List AV) (x:List α):AV:= .aZ (List.map e x) false false
abbrev c7:AV:= .aZ [] true true
abbrev pe {α:Type} (e:α→List AV) (x:List α):AV:= .aZ (List.map e x) false true
abbrev ay (b g n:Nat):AV:= .ref b g 0 n false
abbrev aS (t c:Nat):AV:= .fS t c
abbrev t0:AV:= .tup []
def hg (l:List Nat):List (Nat×AV):=l.map fun i=>(i,.tup [])
def Xc:Bool→List Nat→Bool×List Nat
 | b,0::m=>Xc (!b) m
 | b,m=>(b,m)
def mv {α:Type} (b:Bool) (m:List Nat):List α→List α
 | []=>[]
 | x::l=>match Xc b m with
  | (true,(n+1)::m)=>x::mv true (n::m) l
  | (false,(n+1)::m)=>mv false (n::m) l
  | _=>[]
theorem Er {α:Type} {n:Nat} {m:List Nat} {x:α} {l:List α}:mv true ((n+1)::m) (x::l)=x::mv true (n::m) l:=rfl
theorem Ep {α:Type} {n:Nat} {m:List Nat} {x:α} {l:List α}:mv false ((n+1)::m) (x::l)=mv false (n::m) l:=rfl
theorem Es {α:Type} {m:List Nat} {l:List α}:mv true (0::m) l=mv false m l:=by cases l<;>rfl
theorem self {α:Type} {m:List Nat} {l:List α}:mv false (0::m) l=mv true m l:=by cases l<;>rfl
theorem Eo {α:Type} {b:Bool} {l:List α}:mv b [] l=[]:=by cases b<;>cases l<;>rfl
def iZ (j:Nat) (r:List (List AV)):List Blk→List Blk
 | []=>[]
 | b::H=>match j with
  | 0=>⟨b.bm,b.sz,r⟩::H
  | j+1=>b::iZ j r H
def jU (i j:Nat) (a:AV):List (Nat×List AV)→List (Nat×List AV)
 | []=>[]
 | x::L=>match i with
  | 0=>(x.1,x.2.set j a)::L
  | i+1=>x::jU i j a L
def er (i:Nat) (a:List AV):List (Nat×List AV)→List (Nat×List AV)
 | []=>[]
 | x::L=>match i with
  | 0=>(x.1,a)::L
  | i+1=>x::er i a L
def eE (i:Nat) (b:Blk):List Blk→List Blk
 | []=>[]
 | x::H=>match i with
  | 0=>b::H
  | i+1=>x::eE i b H
section
variable {i j k:Nat} {a:AV} {c l:List AV} {L:List (Nat×List AV)} {x:Nat×List AV} {b y:Blk} {H:List Blk}
theorem RN:jU 0 j a ((k,c)::L)=(k,c.set j a)::L:=rfl
theorem RO:jU (i+1) j a (x::L)=x::jU i j a L:=rfl
theorem RV:er 0 l ((k,c)::L)=(k,l)::L:=rfl
theorem RW:er (i+1) l (x::L)=x::er i l L:=rfl
theorem Q_:eE 0 b (y::H)=b::H:=rfl
theorem Ra:eE (i+1) b (y::H)=y::eE i b H:=rfl
end
abbrev cS (i:Nat):Item:=⟨i,true,true,[]⟩
abbrev rg (a b:Nat):List Nat:=List.range' a (b - a)
def hS [cH] {V:Type} (S:V→St) (pa:V→Prop) (Q:Exit→St→Prop) (ex:Exit) (s:St):Prop:=match ex with
 | .normal=> ∃v,pa v∧Weak s (S v)
 | ex=>Q ex s
theorem hS.normal [cH] {V:Type} {S:V→St} {pa:V→Prop} {Q:Exit→St→Prop} {s:St} (v:V) (h:pa v) (hw:Weak s (S v)):hS S pa Q .normal s:=⟨v,h,hw⟩
theorem hS.ret [cH] {V:Type} {S:V→St} {pa:V→Prop} {Q:Exit→St→Prop} {s:St} (h:Q .ret s):hS S pa Q .ret s:=h
theorem hS.exit [cH] {V:Type} {S:V→St} {pa:V→Prop} {Q:Exit→St→Prop} {s:St} {id:Nat} (h:Q (.exit id) s):hS S pa Q (.exit id) s:=h
section
variable {P:Program} {b:Code} {k n:Nat} {Q:Exit→St→Prop} {ap:St} {A A':List (Nat×AV)} {L L':List (Nat×List AV)} {H H':List Blk}
theorem mI [cH] (S:St) (ψ:Prop) (h:WpS P (bO b (2*k)) (cE S ψ Q) ap) (U:ψ→WpS P (bO b (2*k+1)) Q S) (e:bO b k= .seq (bO b (2*k)) (bO b (2*k+1)):=by kernel_rfl):WpS P (bO b k) Q ap:=WpS.Br S e h U
theorem cR [cH] (N:List (Nat×AV)) (m:List Nat) (ψ:Prop) (h:WpS P (bO b (2*k)) (cE ⟨bt n A',L,H⟩ ψ Q) ⟨bt n A,L,H⟩) (U:ψ→WpS P (bO b (2*k+1)) Q ⟨bt n A',L,H⟩) (cu:qI N (mv true m A)=A':=by simp only[qI,Er,Ep,Es,self,Eo];rfl) (e:bO b k= .seq (bO b (2*k)) (bO b (2*k+1)):=by kernel_rfl):WpS P (bO b k) Q ⟨bt n A,L,H⟩:=WpS.Br _ e h U
theorem fX [cH] (N:List (Nat×AV)) (m:List Nat) (Km:List (Nat×List AV)→List (Nat×List AV)) (Kl:List Blk→List Blk) (ψ:Prop) (h:WpS P (bO b (2*k)) (cE ⟨bt n A',L',H'⟩ ψ Q) ⟨bt n A,L,H⟩) (U:ψ→WpS P (bO b (2*k+1)) Q ⟨bt n A',L',H'⟩) (bJ:Km L=L':=by first | (simp only[id,RN,RO,RV,RW,List.set_cons_zero,List.set_cons_succ];rfl) | (dsimp only;rfl) | rfl) (ax:Kl H=H':=by first | (simp only[id,Q_,Ra,List.cons_append,List.nil_append];rfl) | (dsimp only;rfl) | rfl) (cu:qI N (mv true m A)=A':=by simp only[qI,Er,Ep,Es,self,Eo];rfl) (e:bO b k= .seq (bO b (2*k)) (bO b (2*k+1)):=by kernel_rfl):WpS P (bO b k) Q ⟨bt n A,L,H⟩:=WpS.Br _ e h U
theorem Rl [cH] {V:Type} {y:Code} (id:Nat) (S:V→St) (pa:V→Prop) (h:WpS P (bO b (2*k)) (cs id (hS S pa Q)) ap) (U: ∀v,pa v→WpS P y Q (S v)) (e:bO b k= .block id (bO b (2*k)):=by kernel_rfl):WpS P (bO b k) (ej P y Q) ap:=
 WpS.Rd e (h.mono fun ex s hs=>by
  have key: ∀ex s,hS S pa Q ex s→ej P y Q ex s:=fun ex s hs=>by
   cases ex with
   | normal=>obtain⟨v,ah,hw⟩:=hs;exact(U v ah).so hw
   | _=>exact hs
  cases ex with
  | exit q=>
   show if q=id then _ else _
   replace hs:if q=id then hS S pa Q .normal s else hS S pa Q (.exit q) s:=hs
   split at hs
   ·rename_i U;rw[if_pos U];exact key _ _ hs
   ·rename_i U;rw[if_neg U];exact key _ _ hs
  | normal=>exact key .normal s hs
  | goto l=>exact key (.goto l) s hs
  | ret=>exact key .ret s hs
  | panic c=>exact key (.panic c) s hs
  | outgrown=>exact key .outgrown s hs)
theorem jx [cH] (h:WpS P (bO b (2*k)) (ej P (bO b (2*k+1)) Q) ap) (e:bO b k= .seq (bO b (2*k)) (bO b (2*k+1)):=by kernel_rfl):WpS P (bO b k) Q ap:=WpS.seq' e h
theorem vj [cH] (o:Operand) (z:Bool) (h1:z=true→WpS P (bO b (2*k)) Q ⟨bt n A,L,H⟩) (h2:z=false→WpS P (bO b (2*k+1)) Q ⟨bt n A,L,H⟩) (e:bO b k= .cond o (bO b (2*k)) (bO b (2*k+1)):=by kernel_rfl)
  (af:e5 n A=true:=by kernel_rfl) (an:r5 A o= .bool z:=by kernel_rfl):WpS P (bO b k) Q ⟨bt n A,L,H⟩:=WpS.acJ e (acK af an) h1 h2
theorem hp [cH] (id:Nat) (h:WpS P (bO b (2*k)) (cs id Q) ap) (e:bO b k= .block id (bO b (2*k)):=by kernel_rfl):WpS P (bO b k) Q ap:=WpS.Rd e h
theorem eP [cH] (h:Q .normal ap) (e:bO b k= .skip:=by kernel_rfl):WpS P (bO b k) Q ap:=WpS.al8 e h
theorem ji [cH] (h:Q .ret ap) (e:bO b k= .ret:=by kernel_rfl):WpS P (bO b k) Q ap:=WpS.alF e h
theorem lh [cH] (id:Nat) (h:Q (.exit id) ap) (e:bO b k= .exit id:=by kernel_rfl):WpS P (bO b k) Q ap:=WpS.adu e h
theorem ng [cH] {V:Type} (S:V→St) (I:V→Prop) (m:V→Nat) (v0:V) (hs:Weak ap (S v0)) (aA:I v0) (round: ∀v,I v→WpS P (bO b (2*k)) (eC S I m v Q) (S v)) (e:bO b k= .loop (bO b (2*k)):=by kernel_rfl):WpS P (bO b k) Q ap:=
 WpS.WC S I m e v0 hs aA round
theorem bE [cH] (esc:List Nat) (id:Nat) (h:evS P esc (lH b k) n ((lH b k).toList.drop 0) A L H (fun A L H=>Q .normal ⟨bt n A,L,H⟩)) (e:bO b k= .region id (lH b k) false:=by kernel_rfl) (af:e5 n A=true:=by kernel_rfl):WpS P (bO b k) Q ⟨bt n A,L,H⟩:=
 WpS.HR (esc:=esc) e af h
theorem qq [cH] (esc:List Nat) (id:Nat) (ord:List Item) (lb:List (List Nat)) (jw:List (Nat×List AV)) (h:evSD P esc (lH b k) n (ord.drop 0) A (jw++L) H (fun A L H=>Q .normal ⟨bt n A,L,H⟩)) (hm:P.follows .mixedOrders=true:=by kernel_rfl) (aw:lb.length=(lH b k).size:=by kernel_rfl)
  (aW:zH (lH b k) ord (CF lb)=true:=by kernel_rfl) (Lc:ord.all (·.lit)=true:=by kernel_rfl) (e:bO b k= .region id (lH b k) true:=by kernel_rfl) (af:e5 n A=true:=by kernel_rfl) (hf:xj jw L=true:=by kernel_rfl) (az:w8 (lH b k) L ord=true:=by kernel_rfl):WpS P (bO b k) Q ⟨bt n A,L,H⟩:=
 WpS.alD (esc:=esc) ord lb hm aw aW Lc e af jw hf az h
theorem eO [cH] (esc:List Nat) (id:Nat) (pc:List (Nat×AV)) (DW m:List Nat) (U:WpS P (bO b (2*k+1)) Q ⟨bt n A',L,H⟩) (cu:qI (mv true DW pc) (mv true m A)=A':=by simp only[qI,Er,Ep,Es,self,Eo];rfl) (e:bO b k= .seq (bO b (2*k)) (bO b (2*k+1)):=by kernel_rfl)
  (e2:bO b (2*k)= .region id (lH b (2*k)) false:=by kernel_rfl) (af:e5 n A=true:=by kernel_rfl) (dg: ∀K,evS P esc (lH b (2*k)) n ((lH b (2*k)).toList.drop 0) A L H K=K (hH pc A) L H:=by intro K;kernel_rfl) (nk:pE (hH pc A) A'=A':=by kernel_rfl)
  (h1:e5 n (hH pc A)=true:=by kernel_rfl) (h2:e5 n A'=true:=by kernel_rfl):WpS P (bO b k) Q ⟨bt n A,L,H⟩:=
 WpS.Br ⟨bt n A',L,H⟩ (ψ:=True) e (WpS.HR (esc:=esc) e2 af (by rw[dg];exact⟨trivial,Cj h1 h2 nk⟩)) fun _=>U
theorem vl [cH] (esc:List Nat) (id:Nat) (pc:List (Nat×AV)) (DW m:List Nat) (L':List (Nat×List AV)) (H':List Blk) (U:WpS P (bO b (2*k+1)) Q ⟨bt n A',L',H'⟩) (cu:qI (mv true DW pc) (mv true m A)=A':=by simp only[qI,Er,Ep,Es,self,Eo];rfl) (e:bO b k= .seq (bO b (2*k)) (bO b (2*k+1)):=by kernel_rfl)
  (e2:bO b (2*k)= .region id (lH b (2*k)) false:=by kernel_rfl) (af:e5 n A=true:=by kernel_rfl) (dg: ∀K,evS P esc (lH b (2*k)) n ((lH b (2*k)).toList.drop 0) A L H K=K (hH pc A) L' H':=by intro K;kernel_rfl) (nk:pE (hH pc A) A'=A':=by kernel_rfl)
  (h1:e5 n (hH pc A)=true:=by kernel_rfl) (h2:e5 n A'=true:=by kernel_rfl):WpS P (bO b k) Q ⟨bt n A,L,H⟩:=
 WpS.Br ⟨bt n A',L',H'⟩ (ψ:=True) e (WpS.HR (esc:=esc) e2 af (by rw[dg];exact⟨trivial,Cj h1 h2 nk⟩)) fun _=>U
theorem vk [cH] (esc:List Nat) (id:Nat) (pc:List (Nat×AV)) (DW m:List Nat) (Km:List (Nat×List AV)→List (Nat×List AV)) (Kl:List Blk→List Blk) (U:WpS P (bO b (2*k+1)) Q ⟨bt n A',L',H'⟩) (bJ:Km L=L':=by first | (simp only[id,RN,RO,RV,RW,List.set_cons_zero,List.set_cons_succ];rfl) | (dsimp only;rfl) | rfl) (ax:Kl H=H':=by first | (simp only[id,Q_,Ra,List.cons_append,List.nil_append];rfl) | (dsimp only;rfl) | rfl) (cu:qI (mv true DW pc) (mv true m A)=A':=by simp only[qI,Er,Ep,Es,self,Eo];rfl) (e:bO b k= .seq (bO b (2*k)) (bO b (2*k+1)):=by kernel_rfl)
  (e2:bO b (2*k)= .region id (lH b (2*k)) false:=by kernel_rfl) (af:e5 n A=true:=by kernel_rfl) (dg: ∀K,evS P esc (lH b (2*k)) n ((lH b (2*k)).toList.drop 0) A L H K=K (hH pc A) L' H':=by intro K;kernel_rfl) (nk:pE (hH pc A) A'=A':=by kernel_rfl)
  (h1:e5 n (hH pc A)=true:=by kernel_rfl) (h2:e5 n A'=true:=by kernel_rfl):WpS P (bO b k) Q ⟨bt n A,L,H⟩:=
 WpS.Br ⟨bt n A',L',H'⟩ (ψ:=True) e (WpS.HR (esc:=esc) e2 af (by rw[dg];exact⟨trivial,Cj h1 h2 nk⟩)) fun _=>U
theorem dZ [cH] {t:Nat} {z:Bool} (h1:z=true→WpS P (bO b (2*k)) Q ⟨bt n ((t,.bool z)::A),L,H⟩) (h2:z=false→WpS P (bO b (2*k+1)) Q ⟨bt n ((t,.bool z)::A),L,H⟩) (e:bO b k= .cond (.tmp t) (bO b (2*k)) (bO b (2*k+1)):=by kernel_rfl)
  (af:e5 n ((t,.bool z)::A)=true:=by kernel_rfl):WpS P (bO b k) Q ⟨bt n ((t,.bool z)::A),L,H⟩:=vj (.tmp t) z h1 h2 e af (by show ha ((t,.bool z)::A) t=_;unfold ha;rw[show Nat.beq t t=true from Nat.beq_refl t])
theorem de.go {f:FuncId} {fn:Func} {args:List AV} {H:List Blk} {R:AV→List Blk→Prop} (A:List (Nat×AV)) (hf:P.funcs[f]?=some fn) (h: ∀jR:cH,jR.n=H.length→WpS P (bO (j8 fn) 1) (w5 P fn R) ⟨bt fn.ntmps A,[],H⟩) (hb:fn.body=some (bO (j8 fn) 1):=by kernel_rfl) (af:(fn.name== "runtime.NumGoroutine")=false:=by kernel_rfl)
  (hi:G5 fn args H=⟨bt fn.ntmps A,[],H⟩:=by kernel_rfl):de P f args H R:=de.NE hf hb af fun jR gX=>hi▸h jR gX
theorem wy {fn:Func} {R:AV→List Blk→Prop} (r:AV) (h:R r H) (af:e5 n A=true:=by kernel_rfl) (e: ∀K,uS P A L H fn.results.toList K=K [r]:=by intro K;kernel_rfl) (aj:[r].all lE=true:=by kernel_rfl):w5 P fn R .ret ⟨bt n A,L,H⟩:=Od af [r] e aj rfl h
theorem e1 [cH] (nk:pE A A'=A':=by kernel_rfl) (cu:e5 n A=true:=by kernel_rfl) (oA:e5 n A'=true:=by kernel_rfl):Weak ⟨bt n A,L,H⟩ ⟨bt n A',L,H⟩:=Cj cu oA nk
theorem dX [cH] (c3:List Nat) (cu:e5 n A=true:=by kernel_rfl) (oA:e5 n A'=true:=by kernel_rfl) (ab:DU c3 A'=true:=by kernel_rfl) (nk:pE A A'=A':=by kernel_rfl) (gO:p6 c3 L=L':=by kernel_rfl):Weak ⟨bt n A,L,H⟩ ⟨bt n A',L',H⟩:=aoQ c3 cu oA ab nk gO
theorem mu {fn:Func} {R:AV→List Blk→Prop} (r:AV) (l:List AV) (h:R r H) (af:e5 n A=true:=by kernel_rfl) (e: ∀K,uS P A L H fn.results.toList K=K l:=by intro K;kernel_rfl) (aj:l.all lE=true:=by kernel_rfl) (hw:tB l=r:=by kernel_rfl):w5 P fn R .ret ⟨bt n A,L,H⟩:=Od af l e aj hw h
theorem FS {fn:Func} {R:AV→List Blk→Prop} (r:AV) (l:List AV) (h:R r H) (af:e5 n A=true:=by kernel_rfl) (e: ∀K,uS P A L H fn.results.toList K=K l:=by intro K;kernel_rfl) (aj:l.all lE=true:=by kernel_rfl) (hw:tB l=r:=by kernel_rfl):w5 P fn R .normal ⟨bt n A,L,H⟩:=ado af l e aj hw h
end
section
variable {P:Program} {esc:List Nat} {ops:Array Oper} {n:Nat} {X:List Oper} {i0:Nat} {A:List (Nat×AV)} {L:List (Nat×List AV)} {H:List Blk} {K:List (Nat×AV)→List (Nat×List AV)→List Blk→Prop}
theorem ca [cH] {A':List (Nat×AV)} {L':List (Nat×List AV)} {H':List Blk} {ψ:Prop} {Q:Exit→St→Prop} (N:List (Nat×AV)) (ab:ψ) (nk:pE (hH N A) A'=A':=by kernel_rfl) (e: ∀K,evS P esc ops n (X.drop i0) A L H K=K (hH N A) L' H':=by intro K;kernel_rfl)
  (cu:e5 n (hH N A)=true:=by kernel_rfl) (oA:e5 n A'=true:=by kernel_rfl):evS P esc ops n (X.drop i0) A L H (fun A L H=>cE ⟨bt n A',L',H'⟩ ψ Q .normal ⟨bt n A,L,H⟩):=by
 rw[e];exact⟨ab,Cj cu oA nk⟩
theorem pJ (bc t:Nat) (b:Bool) (N:List (Nat×AV)) (h1:b=true→evS P esc ops n (X.drop (i0+bc)) (yL (hH ((t,.bool b)::N) A) t (.bool true)) L H K) (h2:b=false→evS P esc ops n (X.drop (i0+bc)) (yL (hH ((t,.bool b)::N) A) t (.bool false)) L H K)
  (e: ∀K,evS P esc ops n ((X.drop i0).take bc) A L H K=K (yL (hH ((t,.bool b)::N) A) t (.bool b)) L H:=by intro K;kernel_rfl):evS P esc ops n (X.drop i0) A L H K:=by
 rw[kT X i0 bc,e]
 cases b with
 | true=>exact h1 rfl
 | false=>exact h2 rfl
theorem ef (N:List (Nat×AV)) (h:K (hH N A) L H) (e: ∀K,evS P esc ops n (X.drop i0) A L H K=K (hH N A) L H:=by intro K;kernel_rfl):evS P esc ops n (X.drop i0) A L H K:=by
 rw[e];exact h
theorem Yv (N:List (Nat×AV)) (L':List (Nat×List AV)) (H':List Blk) (h:K (hH N A) L' H') (e: ∀K,evS P esc ops n (X.drop i0) A L H K=K (hH N A) L' H':=by intro K;kernel_rfl):evS P esc ops n (X.drop i0) A L H K:=by
 rw[e];exact h
theorem HX (bc:Nat) (N:List (Nat×AV)) (L':List (Nat×List AV)) (H':List Blk) (h:evS P esc ops n (X.drop (i0+bc)) (hH N A) L' H' K) (e: ∀K,evS P esc ops n ((X.drop i0).take bc) A L H K=K (hH N A) L' H':=by intro K;kernel_rfl):evS P esc ops n (X.drop i0) A L H K:=by
 rw[kT X i0 bc,e];exact h
theorem pI (bc:Nat) (d:Option Nat) (v:AV) (N:List (Nat×AV)) {φ:Prop} (h1:φ) (h:evS P esc ops n (X.drop (i0+bc)) (dy d v N A) L H K) (e: ∀K,evS P esc ops n ((X.drop i0).take bc) A L H K=(φ∧K (dy d v N A) L H):=by intro K;kernel_rfl):evS P esc ops n (X.drop i0) A L H K:=by
 rw[kT X i0 bc,e];exact⟨h1,h⟩
theorem m5 (bc:Nat) (d:Option Nat) (N:List (Nat×AV)) {α:Type} [Inhabited α] (enc:α→List AV) (xs:List α) {i:Int} (m:Nat)
  (aA:0≤i∧i.toNat<xs.length) (h:evS P esc ops n (X.drop (i0+bc)) (dy d (.dz (enc (nth xs i)) 0) N A) L H K) (af: ∀x,(enc x).length=m:=by exact fun _=>rfl)
  (e: ∀K,evS P esc ops n ((X.drop i0).take bc) A L H K=(0≤i∧cV (List.map enc xs)[i.toNat]? fun row=>row.length=m∧K (dy d (.dz row 0) N A) L H):=by intro K;kernel_rfl):evS P esc ops n (X.drop i0) A L H K:=by
 rw[kT X i0 bc,e]
 refine⟨aA.1,ei (a:=enc (nth xs i)) ?_ ⟨af _,h⟩⟩
 rw[List.getElem?_map,h7 aA.2];rfl
theorem m4 (bc:Nat) (d:Option Nat) (N:List (Nat×AV)) (b g z:Nat) {i:Int} {m:Nat} (aA:0≤i∧i.toNat<m) (h:evS P esc ops n (X.drop (i0+bc)) (dy d (.ptr b g (0+i.toNat) 0) N A) L H K)
  (e: ∀K,evS P esc ops n ((X.drop i0).take bc) A L H K=(g=g∧z=z∧0≤i∧i<m∧K (dy d (.ptr b g (0+i.toNat) 0) N A) L H):=by intro K;kernel_rfl):evS P esc ops n (X.drop i0) A L H K:=by
 rw[kT X i0 bc,e];exact⟨rfl,rfl,aA.1,by have:=aA.2;omega,h⟩
theorem Yw (bc:Nat) (d:Option Nat) (N:List (Nat×AV)) {α:Type} [Inhabited α] (enc:α→List AV) (xs:List α) (i:Int) (t:TypeId) (c g:Nat) (v:AV) (aj:i.toNat<xs.length) (h:evS P esc ops n (X.drop (i0+bc)) (dy d v N A) L H K)
  (e2: ∀K,ko P t (enc (nth xs i)) c K=K v:=by intro K;kernel_rfl)
  (e: ∀K,evS P esc ops n ((X.drop i0).take bc) A L H K=(g=g∧cV (List.map enc xs)[0+i.toNat]? fun row=>ko P t row c fun v=>K (dy d v N A) L H):=by intro K;kernel_rfl):evS P esc ops n (X.drop i0) A L H K:=by
 rw[kT X i0 bc,e]
 refine⟨rfl,ei (a:=enc (nth xs i)) ?_ (by rw[e2];exact h)⟩
 rw[Nat.zero_add,List.getElem?_map,h7 aj];rfl
theorem qt (bc:Nat) (d:Option Nat) (N:List (Nat×AV)) {g:FuncId} (args:List AV) {eu:List AV} {t:AV}
  (hf:bf P g eu t) (hs:ak (df L H) args eu) (h:evS P esc ops n (X.drop (i0+bc)) (dy d t N A) L H K) (af:args.all e9=true:=by kernel_rfl) (e: ∀K,evS P esc ops n ((X.drop i0).take bc) A L H K=mJ P g args L H (fun v L' H'=>K (dy d v N A) L' H'):=by intro K;kernel_rfl):evS P esc ops n (X.drop i0) A L H K:=by
 rw[kT X i0 bc,e];exact .inl ⟨af,eu,t,hs,hf,h⟩
theorem alV (bc:Nat) (d:Option Nat) (N:List (Nat×AV)) {α:Type} [Inhabited α] (enc:α→List AV) (xs:List α) (i:Int) (c k g:Nat) (cells:List AV) (H':List (List AV)→List Blk) (iX:α) (aj:i.toNat<xs.length)
  (h:evS P esc ops n (X.drop (i0+bc)) (dy d (.tup []) N A) L (H' (List.map enc (xs.set i.toNat iX))) K) (hc:Nat.ble (c+k) (enc (nth xs i)).length=true:=by kernel_rfl) (hs:fI (enc (nth xs i)) c cells=enc iX:=by kernel_rfl)
  (e: ∀K,evS P esc ops n ((X.drop i0).take bc) A L H K=(g=g∧cV (List.map enc xs)[0+i.toNat]? fun row=>c+k≤row.length∧K (dy d (.tup []) N A) L (H' ((List.map enc xs).set (0+i.toNat) (fI row c cells)))):=by intro K;kernel_rfl):evS P esc ops n (X.drop i0) A L H K:=by
 rw[kT X i0 bc,e]
 refine⟨rfl,ei (a:=enc (nth xs i)) ?_ ⟨Nat.le_of_ble_eq_true hc,?_⟩⟩
 ·rw[Nat.zero_add,List.getElem?_map,h7 aj];rfl
 ·rw[hs,Nat.zero_add,map_set];exact h
theorem wB (bc:Nat) (d:Option Nat) (N:List (Nat×AV)) {α:Type} [Inhabited α] (enc:α→List AV) (xs:List α) (i:Int) (c k g:Nat) (cells:List AV) (j:Nat) (iX:α) (aj:i.toNat<xs.length)
  (h:evS P esc ops n (X.drop (i0+bc)) (dy d (.tup []) N A) L (iZ j (List.map enc (xs.set i.toNat iX)) H) K) (hc:Nat.ble (c+k) (enc (nth xs i)).length=true:=by kernel_rfl) (hs:fI (enc (nth xs i)) c cells=enc iX:=by kernel_rfl)
  (e: ∀K,evS P esc ops n ((X.drop i0).take bc) A L H K=(g=g∧cV (List.map enc xs)[0+i.toNat]? fun row=>c+k≤row.length∧K (dy d (.tup []) N A) L (iZ j ((List.map enc xs).set (0+i.toNat) (fI row c cells)) H)):=by intro K;kernel_rfl):evS P esc ops n (X.drop i0) A L H K:=alV bc d N enc xs i c k g cells (fun r=>iZ j r H) iX aj h hc hs e
theorem alT (bc:Nat) (d:Option Nat) (N:List (Nat×AV)) {α:Type} (enc:α→List AV) {i:Int} (B:Int) (z:List AV) (b:Nat) (H':List (List AV)→List Blk) (aF:α) (aA:0≤i∧B*i≤140737488355328∧i≤4611686018427387904)
  (h:evS P esc ops n (X.drop (i0+bc)) (dy d (.ref b 0 0 (List.replicate i.toNat aF).length false) N A) L (H' (List.map enc (List.replicate i.toNat aF))) K) (az:z=enc aF:=by rfl)
  (e: ∀K,evS P esc ops n ((X.drop i0).take bc) A L H K=(0≤i∧i≤i∧B*i≤140737488355328∧i≤4611686018427387904∧K (dy d (.ref b 0 0 i.toNat false) N A) L (H' (List.replicate i.toNat z))):=by intro K;kernel_rfl):evS P esc ops n (X.drop i0) A L H K:=by
 rw[kT X i0 bc,e]
 refine⟨aA.1,Int.le_refl _,aA.2.1,aA.2.2,?_⟩
 ·rw[az,←List.map_replicate];rw[List.length_replicate] at h;exact h
theorem wz (bc:Nat) (d:Option Nat) (N:List (Nat×AV)) {α:Type} (enc:α→List AV) (ys:List α) (cn:List (List AV)) (b s B:Nat) (H':List (List AV)→List Blk) (hx:cn=List.map enc ys) (aA:ys.length*B≤140737488355328∧ys.length≤4611686018427387904)
  (h:evS P esc ops n (X.drop (i0+bc)) (dy d (.ref b 0 0 ys.length false) N A) L (H' (List.map enc ys)) K) (hk: ∀x,(enc x).length=s∧(enc x).all kR=true:=by exact fun _=>⟨rfl,rfl⟩)
  (e: ∀K,evS P esc ops n ((X.drop i0).take bc) A L H K=(true=true∧true=true∧wx s cn∧true=true∧(∀row∈([]:List (List AV)),row.length=s)∧(List.length (α:=List AV) []+cn.length)*B≤140737488355328∧List.length (α:=List AV) []+cn.length≤4611686018427387904∧(([]:List (List AV))≠[]→cn≠[])∧
   K (dy d (.ref b 0 0 (List.length (α:=List AV) []+cn.length) false) N A) L (H' ([]++cn))):=by intro K;kernel_rfl):evS P esc ops n (X.drop i0) A L H K:=by
 rw[kT X i0 bc,e]
 subst hx
 refine⟨rfl,rfl,Og hk ys,rfl,(fun row h=>by cases h),by simpa using aA.1,by simpa using aA.2,(fun h=>absurd rfl h),?_⟩
 ·simpa using h
theorem tp (bc:Nat) (d:Option Nat) (N:List (Nat×AV)) {g:FuncId} (args:List AV) {eu:List AV} {ep:AV} {cJ:List Blk} (r:AV) (ov:List Blk)
  (hf:de P g eu [] fun r H'=>r=ep∧H'=cJ) (hs:ak (df L H) args eu) (Dp:we cJ=true) (zJ:H++cJ.map (iD H.length)=ov)
  (h:evS P esc ops n (X.drop (i0+bc)) (dy d r N A) L ov K) (af:args.all e9=true:=by kernel_rfl) (an:A5 ep=true:=by kernel_rfl) (er:oX H.length ep=r:=by kernel_rfl) (e: ∀K,evS P esc ops n ((X.drop i0).take bc) A L H K=mJ P g args L H (fun v L' H'=>K (dy d v N A) L' H'):=by intro K;kernel_rfl):evS P esc ops n (X.drop i0) A L H K:=by
 rw[kT X i0 bc,e]
 subst er;subst zJ
 exact .inr (.inl ⟨af,eu,hs,hf.mono fun cP H1 ⟨h1,h2⟩=>by subst h1;subst h2;exact⟨an,Dp,h⟩⟩)
theorem sLen (bc:Nat) (d:Option Nat) (N:List (Nat×AV)) {α:Type} (enc:α→List AV) (xs:List α) (h:xs.length≤4611686018427387904→evS P esc ops n (X.drop (i0+bc)) (dy d (.int .i64 (xs.length:Nat)) N A) L H K)
  (e: ∀K,evS P esc ops n ((X.drop i0).take bc) A L H K=((List.map enc xs).length≤4611686018427387904→K (dy d (.int .i64 ((List.map enc xs).length:Nat)) N A) L H):=by intro K;kernel_rfl):evS P esc ops n (X.drop i0) A L H K:=by
 rw[kT X i0 bc,e,List.length_map];exact h
theorem Ol (bc:Nat) (d:Option Nat) (N:List (Nat×AV)) {α:Type} (enc:α→List AV) (xs:List α) (h1:xs≠[]→evS P esc ops n (X.drop (i0+bc)) (dy d (.bool false) N A) L H K) (h2:xs=[]→ ∀b,evS P esc ops n (X.drop (i0+bc)) (dy d (.bool b) N A) L H K)
  (e: ∀K,evS P esc ops n ((X.drop i0).take bc) A L H K=((List.map enc xs≠[]→K (dy d (.bool false) N A) L H)∧(List.map enc xs=[]→ ∀b,K (dy d (.bool b) N A) L H)):=by intro K;kernel_rfl):evS P esc ops n (X.drop i0) A L H K:=by
 rw[kT X i0 bc,e]
 exact⟨fun h=>h1 fun e=>h (by rw[e];rfl),fun h=>h2 (by simpa using h)⟩
end
section
variable {P:Program} {esc:List Nat} {ops:Array Oper} {n:Nat} {X:List Item} {i0:Nat} {A:List (Nat×AV)} {L:List (Nat×List AV)} {H:List Blk} {K:List (Nat×AV)→List (Nat×List AV)→List Blk→Prop}
theorem ma [cH] {A':List (Nat×AV)} {L':List (Nat×List AV)} {H':List Blk} {ψ:Prop} {Q:Exit→St→Prop} (N:List (Nat×AV)) (ab:ψ) (nk:pE (hH N A) A'=A':=by kernel_rfl) (e: ∀K,evSD P esc ops n (X.drop i0) A L H K=K (hH N A) L' H':=by intro K;kernel_rfl)
  (cu:e5 n (hH N A)=true:=by kernel_rfl) (oA:e5 n A'=true:=by kernel_rfl):evSD P esc ops n (X.drop i0) A L H (fun A L H=>cE ⟨bt n A',L',H'⟩ ψ Q .normal ⟨bt n A,L,H⟩):=by
 rw[e];exact⟨ab,Cj cu oA nk⟩
theorem sh (bc t:Nat) (b:Bool) (N:List (Nat×AV)) (h1:b=true→evSD P esc ops n (X.drop (i0+bc)) (yL (hH ((t,.bool b)::N) A) t (.bool true)) L H K) (h2:b=false→evSD P esc ops n (X.drop (i0+bc)) (yL (hH ((t,.bool b)::N) A) t (.bool false)) L H K)
  (e: ∀K,evSD P esc ops n ((X.drop i0).take bc) A L H K=K (yL (hH ((t,.bool b)::N) A) t (.bool b)) L H:=by intro K;kernel_rfl):evSD P esc ops n (X.drop i0) A L H K:=by
 rw[nR X i0 bc,e]
 cases b with
 | true=>exact h1 rfl
 | false=>exact h2 rfl
theorem Iu (N:List (Nat×AV)) (h:K (hH N A) L H) (e: ∀K,evSD P esc ops n (X.drop i0) A L H K=K (hH N A) L H:=by intro K;kernel_rfl):evSD P esc ops n (X.drop i0) A L H K:=by
 rw[e];exact h
theorem It (bc:Nat) (d:Option Nat) (v:AV) (N:List (Nat×AV)) {φ:Prop} (h1:φ) (h:evSD P esc ops n (X.drop (i0+bc)) (dy d v N A) L H K) (e: ∀K,evSD P esc ops n ((X.drop i0).take bc) A L H K=(φ∧K (dy d v N A) L H):=by intro K;kernel_rfl):evSD P esc ops n (X.drop i0) A L H K:=by
 rw[nR X i0 bc,e];exact⟨h1,h⟩
theorem aon (bc:Nat) (N:List (Nat×AV)) (L':List (Nat×List AV)) (H':List Blk) {φ:Prop} (h1:φ) (h:evSD P esc ops n (X.drop (i0+bc)) (hH N A) L' H' K) (e: ∀K,evSD P esc ops n ((X.drop i0).take bc) A L H K=(φ∧K (hH N A) L' H'):=by intro K;kernel_rfl):evSD P esc ops n (X.drop i0) A L H K:=by
 rw[nR X i0 bc,e];exact⟨h1,h⟩
theorem u6 (bc:Nat) (d:Option Nat) (N:List (Nat×AV)) {α:Type} [Inhabited α] (enc:α→List AV) (xs:List α) {i:Int} (m:Nat)
  (aA:0≤i∧i.toNat<xs.length) (h:evSD P esc ops n (X.drop (i0+bc)) (dy d (.dz (enc (nth xs i)) 0) N A) L H K) (af: ∀x,(enc x).length=m:=by exact fun _=>rfl)
  (e: ∀K,evSD P esc ops n ((X.drop i0).take bc) A L H K=(0≤i∧cV (List.map enc xs)[i.toNat]? fun row=>row.length=m∧K (dy d (.dz row 0) N A) L H):=by intro K;kernel_rfl):evSD P esc ops n (X.drop i0) A L H K:=by
 rw[nR X i0 bc,e]
 refine⟨aA.1,ei (a:=enc (nth xs i)) ?_ ⟨af _,h⟩⟩
 rw[List.getElem?_map,h7 aA.2];rfl
theorem y2 (bc:Nat) (d:Option Nat) (N:List (Nat×AV)) (b g z:Nat) {i:Int} {m:Nat} (aA:0≤i∧i.toNat<m) (h:evSD P esc ops n (X.drop (i0+bc)) (dy d (.ptr b g (0+i.toNat) 0) N A) L H K)
  (e: ∀K,evSD P esc ops n ((X.drop i0).take bc) A L H K=(g=g∧z=z∧0≤i∧i<m∧K (dy d (.ptr b g (0+i.toNat) 0) N A) L H):=by intro K;kernel_rfl):evSD P esc ops n (X.drop i0) A L H K:=by
 rw[nR X i0 bc,e];exact⟨rfl,rfl,aA.1,by have:=aA.2;omega,h⟩
theorem BY (bc:Nat) (d:Option Nat) (N:List (Nat×AV)) {α:Type} [Inhabited α] (enc:α→List AV) (xs:List α) (i:Int) (t:TypeId) (c g:Nat) (v:AV) (aj:i.toNat<xs.length) (h:evSD P esc ops n (X.drop (i0+bc)) (dy d v N A) L H K)
  (e2: ∀K,ko P t (enc (nth xs i)) c K=K v:=by intro K;kernel_rfl)
  (e: ∀K,evSD P esc ops n ((X.drop i0).take bc) A L H K=(g=g∧cV (List.map enc xs)[0+i.toNat]? fun row=>ko P t row c fun v=>K (dy d v N A) L H):=by intro K;kernel_rfl):evSD P esc ops n (X.drop i0) A L H K:=by
 rw[nR X i0 bc,e]
 refine⟨rfl,ei (a:=enc (nth xs i)) ?_ (by rw[e2];exact h)⟩
 rw[Nat.zero_add,List.getElem?_map,h7 aj];rfl
theorem aao (bc:Nat) (d:Option Nat) (N:List (Nat×AV)) {g:FuncId} (args:List AV) {eu:List AV} {t:AV}
  (hf:bf P g eu t) (hs:ak (df L H) args eu) (h:evSD P esc ops n (X.drop (i0+bc)) (dy d t N A) L H K) (af:args.all e9=true:=by kernel_rfl) (e: ∀K,evSD P esc ops n ((X.drop i0).take bc) A L H K=qK P g args L H (fun v=>K (dy d v N A) L H):=by intro K;kernel_rfl):evSD P esc ops n (X.drop i0) A L H K:=by
 rw[nR X i0 bc,e];exact⟨af,eu,t,hs,hf,h⟩
theorem aoo (bc:Nat) (d:Option Nat) (N:List (Nat×AV)) {α:Type} [Inhabited α] (enc:α→List AV) (xs:List α) (i:Int) (c k g:Nat) (cells:List AV) (F:List (List AV)→Prop) (H':List (List AV)→List Blk) (iX:α) (aj:i.toNat<xs.length)
  (dj:F ((List.map enc (xs.set i.toNat iX)))) (h:evSD P esc ops n (X.drop (i0+bc)) (dy d (.tup []) N A) L (H' (List.map enc (xs.set i.toNat iX))) K) (hc:Nat.ble (c+k) (enc (nth xs i)).length=true:=by kernel_rfl) (hs:fI (enc (nth xs i)) c cells=enc iX:=by kernel_rfl)
  (e: ∀K,evSD P esc ops n ((X.drop i0).take bc) A L H K=(g=g∧cV (List.map enc xs)[0+i.toNat]? fun row=>c+k≤row.length∧F (((List.map enc xs).set (0+i.toNat) (fI row c cells)))∧K (dy d (.tup []) N A) L (H' ((List.map enc xs).set (0+i.toNat) (fI row c cells)))):=by intro K;kernel_rfl):evSD P esc ops n (X.drop i0) A L H K:=by
 rw[nR X i0 bc,e]
 refine⟨rfl,ei (a:=enc (nth xs i)) ?_ ⟨Nat.le_of_ble_eq_true hc,?_,?_⟩⟩
 ·rw[Nat.zero_add,List.getElem?_map,h7 aj];rfl
 ·rw[hs,Nat.zero_add,map_set];exact dj
 ·rw[hs,Nat.zero_add,map_set];exact h
theorem aom (bc:Nat) (d:Option Nat) (N:List (Nat×AV)) {α:Type} (enc:α→List AV) (xs ys:List α) (cn:List (List AV)) (b g s B:Nat) (F:List (List AV)→Prop) (H':List (List AV)→List Blk) (hx:cn=List.map enc ys) (aA:(xs.length+ys.length)*B≤140737488355328∧xs.length+ys.length≤4611686018427387904)
  (dj:F ((List.map enc (xs++ys)))) (h:evSD P esc ops n (X.drop (i0+bc)) (dy d (.ref b (g+1) 0 (xs++ys).length false) N A) L (H' (List.map enc (xs++ys))) K) (hk: ∀x,(enc x).length=s∧(enc x).all kR=true:=by exact fun _=>⟨rfl,rfl⟩)
  (e: ∀K,evSD P esc ops n ((X.drop i0).take bc) A L H K=(true=true∧true=true∧wx s cn∧0=0∧g=g∧s=s∧(List.map enc xs).length=xs.length∧(xs.length+cn.length)*B≤140737488355328∧xs.length+cn.length≤4611686018427387904∧F ((List.map enc xs++cn))∧K (dy d (.ref b (g+1) 0 (xs.length+cn.length) false) N A) L (H' (List.map enc xs++cn))):=by intro K;kernel_rfl):evSD P esc ops n (X.drop i0) A L H K:=by
 rw[nR X i0 bc,e]
 subst hx
 refine⟨rfl,rfl,Og hk ys,rfl,rfl,rfl,List.length_map ..,by rw[List.length_map];exact aA.1,by rw[List.length_map];exact aA.2,?_,?_⟩
 ·rw[←List.map_append];exact dj
 ·rw[List.length_append] at h;rw[List.length_map,←List.map_append];exact h
theorem Qb (bc:Nat) (d:Option Nat) (N:List (Nat×AV)) {g:FuncId} (args:List AV) {eu:List AV} {ep:AV} {cJ:List Blk} (F:List (Nat×List AV)→List Blk→Prop) (r:AV) (ov:List Blk)
  (hf:de P g eu [] fun r H'=>r=ep∧H'=cJ) (hs:ak (df L H) args eu) (Dp:we cJ=true) (zJ:H++cJ.map (iD H.length)=ov) (dj:F L ov)
  (h:evSD P esc ops n (X.drop (i0+bc)) (dy d r N A) L ov K) (af:args.all e9=true:=by kernel_rfl) (an:A5 ep=true:=by kernel_rfl) (er:oX H.length ep=r:=by kernel_rfl) (e: ∀K,evSD P esc ops n ((X.drop i0).take bc) A L H K=mJ P g args L H (fun v L' H'=>F L' H'∧K (dy d v N A) L' H'):=by intro K;kernel_rfl):evSD P esc ops n (X.drop i0) A L H K:=by
 rw[nR X i0 bc,e]
 subst er;subst zJ
 exact .inr (.inl ⟨af,eu,hs,hf.mono fun cP H1 ⟨h1,h2⟩=>by subst h1;subst h2;exact⟨an,Dp,dj,h⟩⟩)
theorem aap (bc:Nat) (d:Option Nat) (N:List (Nat×AV)) {α:Type} (enc:α→List AV) (xs:List α) (h:evSD P esc ops n (X.drop (i0+bc)) (dy d (.int .i64 (xs.length:Nat)) N A) L H K)
  (e: ∀K,evSD P esc ops n ((X.drop i0).take bc) A L H K=K (dy d (.int .i64 ((List.map enc xs).length:Nat)) N A) L H:=by intro K;kernel_rfl):evSD P esc ops n (X.drop i0) A L H K:=by
 rw[nR X i0 bc,e,List.length_map];exact h
end
inductive iH (H:List Blk) (bM:Nat) (db:Nat→Option Nat):AV→AV→Prop where
 | int (k:IntKind) (n:Int):iH H bM db (.int k n) (.int k n)
 | bool (b:Bool):iH H bM db (.bool b) (.bool b)
 | str (s:ByteArray):iH H bM db (.str s) (.str s)
 | gR:iH H bM db .gR .gR
 | ht:iH H bM db .ht .ht
 | aZ (rows:List (List AV)) (full dP fr:Bool) (hw:dP=true→full=true):iH H bM db (.aZ rows full fr) (.aZ rows dP fr)
 | ref {b g n j:Nat} {full:Bool} {blk:Blk} (ah:j<bM) (hs:db j=some b) (hb:H[b]?=some blk) (aE:blk.bm=g):iH H bM db (.ref b g 0 n full) (.ref j 0 0 n false)
 | nil {a:AV} {j:Nat} (ah:j<bM) (hs:db j=none) (h:uD a=true):iH H bM db a (.ref j 0 0 0 false)
def E9 (H:List Blk) (bM:Nat) (db:Nat→Option Nat) (a b:AV):Prop:=(∃l fQ,a= .agg l∧b= .agg fQ∧ak (iH H bM db) l fQ)∨iH H bM db a b
structure tK (H cJ:List Blk) (db:Nat→Option Nat):Prop where
 inj: ∀i j b,i<cJ.length→j<cJ.length→db i=some b→db j=some b→i=j
 bm: ∀(j:Nat) (k:Blk),cJ[j]?=some k→k.bm=0
 blk: ∀(j b:Nat) (k:Blk),cJ[j]?=some k→db j=some b→ ∃q,H[b]?=some q∧q.sz=k.sz∧ak (ak (iH H cJ.length db)) q.rows k.rows
def Env.own (E:Env) (cJ:List Blk) (db:Nat→Option Nat):Env:=
 {w:=E.w,PA:=E.PA,PF:=E.PF,mL:=fun _=>none,bm:=fun _=>0
  m:=fun j=>if j<cJ.length then(match db j with
   | some b=>E.m b
   | none=>some none) else none
  sz:=fun j=>(cJ[j]?.map Blk.sz).getD 0
  cp:=fun j=>match db j with
   | some b=>E.cp b
   | none=>0}
section
variable {E:Env} {H cJ:List Blk} {db:Nat→Option Nat}
theorem Xs {j b:Nat} (ah:j<cJ.length) (hs:db j=some b):(E.own cJ db).m j=E.m b:=by
 show(if j<cJ.length then _ else _)=_
 rw[if_pos ah,hs]
theorem akY {j:Nat} (ah:j<cJ.length) (hs:db j=none):(E.own cJ db).m j=some none:=by
 show(if j<cJ.length then _ else _)=_
 rw[if_pos ah,hs]
theorem A3 {j:Nat} {x:Option Nat} (h:(E.own cJ db).m j=some x):j<cJ.length∧((db j=none∧x=none)∨ ∃b,db j=some b∧E.m b=some x):=by
 have h:(if j<cJ.length then(match db j with
   | some b=>E.m b
   | none=>some none) else none)=some x:=h
 split at h
 ·rename_i ah
  refine⟨ah,?_⟩
  cases hs:db j with
  | none=>rw[hs] at h;cases h;exact .inl ⟨rfl,rfl⟩
  | some b=>rw[hs] at h;exact .inr ⟨b,rfl,h⟩
 ·cases h
theorem iH.v1 (ax:SimH E H) (dq:tK H cJ db) {a b:AV} (h:iH H cJ.length db a b) {v:Value} (hv:b4 E a v):b4 (E.own cJ db) b v:=by
 cases h with
 | int k n=>exact hv
 | bool b=>exact hv
 | str s=>exact hv
 | gR=>exact hv
 | ht=>exact hv
 | aZ rows full dP fr hw=>
  have hv:aP E.w E.PA E.PF (.aZ rows full fr) v:=hv
  cases hv with
  | aZ fH fw gP cm eH hrel=>exact aP.aZ fH fw (fun h=>gP (hw h)) cm eH hrel
 | @ref b g n j full blk ah hs hb aE=>
  have lq:=ax.fc b blk hb
  have hk:cJ[j]?=some cJ[j]:=List.getElem?_eq_getElem ah
  obtain⟨q,U,cm,_⟩:=dq.blk j b _ hk hs
  rw[hb] at U
  obtain rfl:=Option.some.inj U
  rcases(show fu E (.ref b g 0 n full) v from hv) with⟨aM,_⟩ | ⟨gY,bw⟩
  ·omega
  ·refine .inr ⟨rfl,?_⟩
   rcases bw with⟨hm,_,af,A,cu⟩ | ⟨c,cap,hm,e,h1,h2,aD⟩
   ·exact .inl ⟨by rw[Xs ah hs];exact hm,rfl,af,A,cu⟩
   ·refine .inr ⟨c,cap,by rw[Xs ah hs];exact hm,by rw[e,Nat.zero_mul,Nat.zero_mul],h1,(fun h=>by cases h),?_⟩
    show 0+cap≤(match db j with
     | some b=>E.cp b
     | none=>0)
    rw[hs];exact aD
 | nil ah hs h=>exact J8 (E:=E) h hv rfl (akY ah hs)
theorem akZ (ax:SimH E H) (bJ: ∀t,E.mL t=none) (dq:tK H cJ db):SimH (E.own cJ db) cJ:=by
 have jm:E.bQ=E:=by
  have:E.mL=fun _=>none:=funext bJ
  cases E;simp only[Env.bQ] at*;subst this;rfl
 have rX: ∀c,(E.own cJ db).fZ c→E.fZ c:=fun c ⟨j,ah⟩=>by
  obtain⟨_,h | ⟨b,_,h⟩⟩:=A3 ah
  ·cases h.2
  ·exact⟨b,h⟩
 exact{
  heap:=fun j c hm=>by
   obtain⟨ah,h | ⟨b,hs,hb⟩⟩:=A3 hm
   ·cases h.2
   ·have hk:cJ[j]?=some cJ[j]:=List.getElem?_eq_getElem ah
    obtain⟨q,U,cm,aj⟩:=dq.blk j b _ hk hs
    obtain⟨blk,al,ty,q1,b6,q2,q3,q4,cN,c2⟩:=ax.heap b c hb
    rw[U] at q1
    obtain rfl:=Option.some.inj q1
    have aG:(E.own cJ db).sz j=E.sz b:=by
     show(cJ[j]?.map Blk.sz).getD 0=_
     rw[hk,b6,cm];rfl
    have e2:(E.own cJ db).cp j=E.cp b:=by
     show(match db j with
      | some b=>E.cp b
      | none=>0)=_
     rw[hs]
    refine⟨_,al,ty,hk,by rw[aG,b6,cm],q2,by rw[aG,e2];exact q3,by rw[e2,←aj.1];exact q4,fun i row ew=> ?_,fun i l row a ew ar=> ?_⟩
    ·have aM:=(List.getElem?_eq_some_iff.1 ew).1
     have h1:q.rows[i]?=some (q.rows[i]'(by rw[aj.1];exact aM)):=List.getElem?_eq_getElem _
     rw[aG,←(aj.2 i _ row h1 ew).1];exact cN i _ h1
    ·have aM:=(List.getElem?_eq_some_iff.1 ew).1
     have h1:q.rows[i]?=some (q.rows[i]'(by rw[aj.1];exact aM)):=List.getElem?_eq_getElem _
     have ab:=aj.2 i _ row h1 ew
     have afJ:=(List.getElem?_eq_some_iff.1 ar).1
     have h2:=List.getElem?_eq_getElem (l:=q.rows[i]'(by rw[aj.1];exact aM)) (i:=l) (by rw[ab.1];exact afJ)
     obtain⟨u,hu,hv⟩:=c2 i l _ _ h1 h2
     rw[jm] at hv
     exact⟨u,by rw[aG];exact hu,(ab.2 l _ a h2 ar).v1 ax dq hv⟩
  fc:=fun j k hk=>(dq.bm j k hk).symm
  ii:=fun j hm=>by
   obtain⟨ah,_⟩:=A3 hm
   have hk:cJ[j]?=some cJ[j]:=List.getElem?_eq_getElem ah
   exact⟨_,hk,by show(cJ[j]?.map Blk.sz).getD 0=_;rw[hk];rfl⟩
  fresh:=fun j ah=>⟨by show(if j<cJ.length then _ else _)=_;rw[if_neg (by omega)],rfl⟩
  hr:=fun i j c h1 h2=>by
   obtain⟨hi,h | ⟨b,hs,hb⟩⟩:=A3 h1
   ·cases h.2
   ·obtain⟨ah,h | ⟨bU,nr,dT⟩⟩:=A3 h2
    ·cases h.2
    ·have:=ax.hr b bU c hb dT
     subst this
     exact dq.inj i j b hi ah hs nr
  kG:=fun t iU c h=>by cases h
  hN:=fun b t c _ h=>by cases h
  iM:=fun c hc h=>ax.iM c hc (rX c h)
  jr:=fun c hc ⟨t,h⟩=>by cases h
  dU:=ax.dU
  ga:=ax.ga
  ea:=ax.ea
  gD:=fun c h=>ax.gD c (rX c h)
  hG:=fun c ⟨t,h⟩=>by cases h}
end
theorem de.toOwn {P:Program} {f:FuncId} {args:List AV} {ep:AV} {cJ:List Blk} (h:de P f args [] fun r H=> ∃db,tK H cJ db∧E9 H cJ.length db r ep):de P f args [] fun r H=>r=ep∧H=cJ:=by
 refine⟨h.1,fun E vs af hs ar=>(h.2 E vs af hs ar).mono ?_⟩
 rintro e w' ⟨r,v,H',E',rfl,⟨db,dq,C5⟩,rfl,afL,nr,hv,a7⟩
 refine⟨ep,v,cJ,E'.own cJ db,rfl,⟨rfl,rfl⟩,rfl,fun _=>rfl,akZ nr afL dq,?_,?_⟩
 ·rcases C5 with⟨l,fQ,rfl,rfl,ab⟩ | C5
  ·obtain⟨eZ,rfl,U⟩:=(show ∃eZ:List Value,v= .agg eZ.toArray∧ak (b4 E') l eZ from hv)
   refine⟨eZ,rfl,ab.1▸U.1,fun i a u ar hu=> ?_⟩
   have aM:i<l.length:=by rw[ab.1];exact(List.getElem?_eq_some_iff.1 ar).1
   have h1:=List.getElem?_eq_getElem aM
   exact(ab.2 i _ a h1 ar).v1 nr dq (U.2 i _ u h1 hu)
  ·have mi:b4 E' r v:=by
    rw[qH,qG] at hv
    ·exact hv
    ·rintro l rfl;cases C5 with
     | nil ah hs hx=>exact absurd hx Bool.false_ne_true
    ·rintro l rfl;cases C5 with
     | nil ah hs hx=>exact absurd hx Bool.false_ne_true
   exact sw (lP (C5.v1 nr dq mi))
 ·have rX: ∀c,(E'.own cJ db).fZ c→E'.fZ c:=fun c ⟨j,ah⟩=>by
   obtain⟨_,h | ⟨b,_,h⟩⟩:=A3 ah
   ·cases h.2
   ·exact⟨b,h⟩
  exact{
   le:=⟨a7.le.gF,a7.le.fU,a7.le.wV,a7.le.wf,fun b=>by rw[(hs.fresh b (Nat.zero_le _)).2];exact Nat.zero_le _,(fun b x hm _=>by rw[(hs.fresh b (Nat.zero_le _)).1] at hm;cases hm),(fun t c hm=>by rw[af t] at hm;cases hm)⟩
   os:=a7.os,tape:=a7.tape,output:=a7.output,size:=a7.size,cZ:=a7.cZ
   kd:=fun b c hb=>(a7.qU c (rX c ⟨b,hb⟩)).elim (fun⟨j,ah⟩=>by rw[(hs.fresh j (Nat.zero_le _)).1] at ah;cases ah) .inr
   kF:=fun c ⟨t,h⟩=>by cases h
   gF:=a7.gF,fU:=a7.fU}
theorem tK.nil {H:List Blk} {db:Nat→Option Nat}:tK H [] db:=⟨fun i j b h=>by simp at h,fun j k h=>by simp at h,fun j b k h=>by simp at h⟩
def rb (l:List (Option Nat)) (j:Nat):Option Nat:=(l[j]?).getD none
def I7 (H:List Blk) (bM:Nat) (db:Nat→Option Nat) (k:Blk):Option Nat→Prop
 | none=>True
 | some b=> ∃q,H[b]?=some q∧q.sz=k.sz∧ak (ak (iH H bM db)) q.rows k.rows
def Cl (H:List Blk) (bM:Nat) (db:Nat→Option Nat):List (Option Nat)→List Blk→Prop
 | [],[]=>True
 | o::l,k::cJ=>k.bm=0∧I7 H bM db k o∧Cl H bM db l cJ
 | _,_=>False
theorem Cl.get {H:List Blk} {bM:Nat} {db:Nat→Option Nat}: ∀{l:List (Option Nat)} {cJ:List Blk},Cl H bM db l cJ→ ∀(j:Nat) (k:Blk),cJ[j]?=some k→ ∃o,l[j]?=some o∧k.bm=0∧I7 H bM db k o
 | [],[],_,j,k,h=>by simp at h
 | o::l,q::cJ,ar,0,k,h=>by simp at h;subst h;exact⟨o,rfl,ar.1,ar.2.1⟩
 | o::l,q::cJ,ar,j+1,k,h=>by
  obtain⟨x,hx,h2⟩:=Cl.get ar.2.2 j k (by simpa using h)
  exact⟨x,by simpa using hx,h2⟩
theorem tj {H cJ:List Blk} (l:List (Option Nat)) (aw:l.length=cJ.length) (aW:(l.filterMap id).Nodup) (h:Cl H cJ.length (rb l) l cJ):tK H cJ (rb l) where
 inj:=fun i j b hi ah h1 h2=>by
  have fx:i<l.length:=by omega
  have jn:j<l.length:=by omega
  have aG:l[i]=some b:=by have:(l[i]?).getD none=some b:=h1;rwa [List.getElem?_eq_getElem fx] at this
  have e2:l[j]=some b:=by have:(l[j]?).getD none=some b:=h2;rwa [List.getElem?_eq_getElem jn] at this
  rcases Nat.lt_trichotomy i j with aM | rfl | qR
  ·exfalso
   have ab:=List.pairwise_filterMap.1 aW
   exact(List.pairwise_iff_getElem.1 ab i j fx jn aM) b (by simpa using aG) b (by simpa using e2) rfl
  ·rfl
  ·exfalso
   have ab:=List.pairwise_filterMap.1 aW
   exact(List.pairwise_iff_getElem.1 ab j i jn fx qR) b (by simpa using e2) b (by simpa using aG) rfl
 bm:=fun j k hk=>by obtain⟨o,_,h1,_⟩:=h.get j k hk;exact h1
 blk:=fun j b k hk hs=>by
  obtain⟨o,an,_,h2⟩:=h.get j k hk
  have:o=some b:=by have hs:(l[j]?).getD none=some b:=hs;rw[an] at hs;exact hs
  subst this
  exact h2
theorem qs {H:List Blk} {bM:Nat} {db:Nat→Option Nat} {α:Type} {enc:α→List AV} {b g sz:Nat} {xs ys:List α} (hb:H[b]?=some ⟨g,sz,List.map enc xs⟩) (hc: ∀x,ak (iH H bM db) (enc x) (enc x)) (e:xs=ys):
  I7 H bM db ⟨0,sz,List.map enc ys⟩ (some b):=by
 subst e
 refine⟨_,hb,rfl,rfl,fun i r HO h1 h2=> ?_⟩
 rw[List.getElem?_map] at h1 h2
 cases hx:xs[i]? with
 | none=>rw[hx] at h1;cases h1
 | some x=>rw[hx] at h1 h2;cases h1;cases h2;exact hc x
section
variable {H:List Blk} {bM:Nat} {db:Nat→Option Nat}
theorem yw (b:Bool):ak (iH H bM db) (aT b) (aT b):= .cons (.bool _) .nil
theorem Xg (x:c8):ak (iH H bM db) (c9 x) (c9 x):= .cons (.int _ _) (.cons (.int _ _) .nil)
theorem Ht (x:bP):ak (iH H bM db) (bh x) (bh x):= .cons (.int _ _) (.cons (.int _ _) .nil)
theorem NF {k:IntKind} {a b:Int} (h:a=b):iH H bM db (.int k a) (.int k b):=h▸ .int k a
theorem akT {a b:Bool} (h:a=b):iH H bM db (.bool a) (.bool b):=h▸ .bool a
theorem yy {b g n m j sz:Nat} {full:Bool} {rows:List (List AV)} (ah:j<bM) (hs:db j=some b) (hb:H[b]?=some ⟨g,sz,rows⟩) (af:n=m):iH H bM db (.ref b g 0 n full) (.ref j 0 0 m false):=af▸ .ref ah hs hb rfl
theorem NG {a:AV} {j m:Nat} (ah:j<bM) (hs:db j=none) (h:uD a=true) (hm:0=m):iH H bM db a (.ref j 0 0 m false):=hm▸ .nil ah hs h
end
theorem uL {α:Type} {enc:α→List AV} {g sz:Nat} {xs:List α} {H:List Blk} (h1: ∀x,(enc x).all r6=true) (h2:we H=true):we (⟨g,sz,List.map enc xs⟩::H)=true:=by
 show(((List.map enc xs).all fun row=>row.all r6)&&H.all fun b=>b.rows.all fun row=>row.all r6)=true
 rw[Bool.and_eq_true]
 refine⟨?_,h2⟩
 rw[List.all_eq_true]
 intro row aj
 obtain⟨x,_,rfl⟩:=List.mem_map.1 aj
 exact h1 x
theorem uU {α:Type} {enc:α→List AV} {k g sz:Nat} {xs:List α} {H H':List Blk} (h1: ∀x,(enc x).map (js k)=enc x) (h2:H.map (iD k)=H'):(Blk.mk g sz (List.map enc xs)::H).map (iD k)=⟨g,sz,List.map enc xs⟩::H':=by
 subst h2
 show(⟨g,sz,(List.map enc xs).map fun row=>row.map (js k)⟩:Blk)::_=_
 rw[List.map_map]
 congr 2
 exact List.map_congr_left fun x _=>h1 x
theorem uV {k:Nat} {H cJ H1 ov:List Blk} (h:cJ.map (iD k)=H1) (e:H++H1=ov):H++cJ.map (iD k)=ov:=by rw[h,e]
def Env.at (W:World):Env:={w:=W,PA:=fun c=>c<W.heap.size,PF:=fun _=>False,m:=fun _=>none,bm:=fun _=>0,sz:=fun _=>0,cp:=fun _=>0,mL:=fun _=>none}
theorem Jg (W:World):SimH (Env.at W) [] where
 heap:=fun b c hb=>by cases hb
 fc:=fun b blk hb=>by simp at hb
 ii:=fun b hb=>by cases hb
 fresh:=fun b _=>⟨rfl,rfl⟩
 hr:=fun b bU c hb=>by cases hb
 kG:=fun t iU c hb=>by cases hb
 hN:=fun b t c hb=>by cases hb
 iM:=fun c _ ⟨b,hb⟩=>by cases hb
 jr:=fun c _ ⟨b,hb⟩=>by cases hb
 dU:=fun c hc=>hc.elim
 ga:=fun c hc=>hc.elim
 ea:=fun c hc=>hc
 gD:=fun c ⟨b,hb⟩=>by cases hb
 hG:=fun c ⟨b,hb⟩=>by cases hb
theorem aif {P:Program} {f:FuncId} {cU:List AV} {W:World} {vs:List Value} (h:bf P f cU (.bool true)) (ar:ak (V2 (Env.at W)) cU vs):
  Calls P f vs.toArray W fun e QS=>e= .returned (.bool true)∧RowKit.Below W.heap.size W QS:=by
 refine(h.2 (Env.at W) vs (fun _=>rfl) (Jg W) ar).mono ?_
 rintro e w' ⟨r,v,H',E',rfl,aj,rfl,af,hs,hv,a7⟩
 have hb:r= .bool true:=by
  rcases aj with⟨l,fQ,_,e,_⟩ | ⟨l,fQ,_,e,_⟩ | aj
  ·cases e
  ·cases e
  ·cases aj;rfl
 subst hb
 refine⟨by rw[V3.p2 hv],a7.os,a7.tape,a7.output,a7.size,fun k hk=>a7.cZ k hk (fun⟨b,hb⟩=>by cases hb) (fun⟨b,hb⟩=>by cases hb)⟩
def I5 (W:World):AV→Value→Prop:=aP W (fun c=>c<W.heap.size) (fun _=>False)
def gG (P:Program) (W:World) (t:TypeId) {α:Type} (enc:α→List AV):Prop:=
 ∀{H:Type} (li:TypeId×Value→H) (ka:Nat) (al:List Value) (x:DataW H×List MemPlace),DataW.trod li P W 0 (fun _=>true) true ka t al=some x→(∀n∈x.1.weights P t,n≤reachBytes)→ ∃y:α,ak (I5 W) (enc y) al
section
variable {P:Program} {W:World}
theorem mZ {t:TypeId} {k:IntKind} (hu:P.underlying t=some (.int k)):gG P W t (fun n:Int=>[.int k n]):=fun li ka al x h _=>by
 obtain⟨n,rfl,_⟩:=DataW.trod_int hu h
 exact⟨n,.cons (.int _ _) .nil⟩
theorem D5 {t:TypeId} (hu:P.underlying t=some .bool):gG P W t aT:=fun li ka al x h _=>by
 obtain⟨n,rfl,_⟩:=DataW.trod_bool hu h
 exact⟨n,.cons (.bool _) .nil⟩
theorem ajY {α:Type} (n:Nat) (φ:Nat→α→Prop) (h: ∀i,i<n→ ∃y,φ i y): ∃ys:List α,ys.length=n∧ ∀(i:Nat) (y:α),ys[i]?=some y→φ i y:=by
 induction n with
 | zero=>exact⟨[],rfl,fun i y h=>by simp at h⟩
 | succ n bz=>
  obtain⟨ys,aw,aX⟩:=bz fun i hi=>h i (by omega)
  obtain⟨z,az⟩:=h n (by omega)
  refine⟨ys++[z],by simp[aw],fun i y hi=> ?_⟩
  rcases Nat.lt_or_ge i n with aM | gY
  ·rw[List.getElem?_append_left (by omega)] at hi
   exact aX i y hi
  ·rw[List.getElem?_append_right (by omega)] at hi
   rcases Nat.eq_or_lt_of_le gY with rfl | qR
   ·rw[aw,Nat.sub_self] at hi
    cases hi;exact az
   ·rw[List.getElem?_eq_none (by simp;omega)] at hi
    cases hi
theorem WG {α β:Type} {f:α→Option β}: ∀{l:List α} {r:List β},l.mapM f=some r→r.length=l.length∧ ∀(i:Nat) (a:α),l[i]?=some a→f a=r[i]?
 | [],r,h=>by simp at h;subst h;exact⟨rfl,fun i a h=>by simp at h⟩
 | x::l,r,h=>by
  rw[List.mapM_cons] at h
  simp only[bind,Option.bind_eq_some_iff,pure,Option.some.injEq] at h
  obtain⟨b,hb,HO,aj,rfl⟩:=h
  obtain⟨h1,h2⟩:=WG aj
  refine⟨by simp[h1],fun i a ar=> ?_⟩
  cases i with
  | zero=>simp at ar;subst ar;simpa using hb
  | succ i=>exact h2 i a (by simpa using ar)
theorem acv {a:Addr} {n:Nat} {l:List Value} (h:W.cells? 0 a n=some l):l.length=n∧ ∀j,j<n→W.cell? (a.add j)=l[j]?:=by
 unfold World.cells? at h
 rw[if_pos (Nat.zero_le _)] at h
 obtain⟨aw,aE⟩:=WG h
 rw[List.length_range] at aw
 exact⟨aw,fun j ah=>aE j j (List.getElem?_range ah)⟩
theorem anW {a:Addr} {v:Value} (h:W.cell? a=some v):a.spot=none∧a.block<W.heap.size:=by
 unfold World.cell? at h
 split at h
 ·rename_i c _ _ hb
  split at h
  ·cases h
  ·rename_i hs
   refine⟨by cases U:a.spot<;>simp_all,?_⟩
   rcases Nat.lt_or_ge a.block W.heap.size with h1 | h1
   ·exact h1
   ·rw[Array.getElem?_eq_none h1] at hb;cases hb
 ·cases h
theorem add_add (c o x y:Nat):((⟨c,o,none⟩:Addr).add x).add y=⟨c,o+(x+y),none⟩:=by
 rw[pZ,pZ,Nat.add_assoc]
theorem ql {t e:TypeId} {α:Type} {enc:α→List AV} (hu:P.underlying t=some (.slice e)) (hb:1≤P.bytesOf e) (az:1≤P.cellsOf e) (hc: ∀x,(enc x).length=P.cellsOf e) (h:gG P W e enc):gG P W t (gO enc false):=by
 intro H li ka al x aY hw
 rcases DataW.trod_slice hu aY with⟨rfl,rfl⟩ | ⟨a,len,cap,zK,rest,n,_,rfl,rfl,_,aw,_,hlen,xA,_,_⟩
 ·refine⟨[],.cons ?_ .nil⟩
  exact aP.aZ (rows:=[]) (PB:=fun _=>False) (sz:=0) (vs:=fun _ _=>undef) (fun _ h=>h.elim) ⟨Nat.le_refl _,Nat.zero_le _⟩ (fun h=>by cases h) (fun i row h=>by simp at h) (fun h=>by simp at h) (fun i j row a h=>by simp at h)
 ·have sZ:(zK.length+rest.length)*P.bytesOf e≤reachBytes:=by
   have:=hw ((zK.length+rest.length)*P.bytesOf e) (by simp[DataW.weights,hu])
   simpa using this
  have fo:len≤4611686018427387904:=by
   have h1:zK.length+rest.length≤(zK.length+rest.length)*P.bytesOf e:=Nat.le_mul_of_pos_right _ hb
   have h2:=reachBytes_lt
   have aD:(2:Nat) ^ 47=140737488355328:=rfl
   omega
  have eG: ∀(l:List (DataW H)) (d:DataW H),d∈l→ ∀m∈d.weights P e,m∈DataW.weightsAll P e l:=by
   intro l
   induction l with
   | nil=>intro d aW;cases aW
   | cons q l bz=>
    intro d aW m hm
    simp only[DataW.weightsAll,List.mem_append]
    rcases List.mem_cons.1 aW with rfl | aW
    ·exact .inl hm
    ·exact .inr (bz d aW m hm)
  obtain⟨ys,GJ,aX⟩:=ajY len (fun i y=> ∃l,W.cells? 0 (a.add (i*P.cellsOf e)) (P.cellsOf e)=some l∧ak (I5 W) (enc y) l) fun i hi=>by
   have h1:=xA i hi
   have h2:zK[i]?=some (zK[i]'(by omega)):=List.getElem?_eq_getElem _
   rw[h2,Option.bind_eq_some_iff] at h1
   obtain⟨l,rP,agj⟩:=h1
   obtain⟨y,aX⟩:=h li n l _ agj fun m hm=>hw m (by
    simp only[DataW.weights,hu,List.mem_cons,List.mem_append]
    exact .inr (.inl (eG _ _ (List.mem_map.2 ⟨_,List.getElem_mem (by omega),rfl⟩) m hm)))
   exact⟨y,l,rP,aX⟩
  have h5: ∀i j,i<len→j<P.cellsOf e→ ∃l v,W.cells? 0 (a.add (i*P.cellsOf e)) (P.cellsOf e)=some l∧l[j]?=some v∧W.cell? ((a.add (i*P.cellsOf e)).add j)=some v:=fun i j hi ah=>by
   obtain⟨l,rT,_⟩:=aX i _ (List.getElem?_eq_getElem (by omega))
   obtain⟨q1,q2⟩:=acv rT
   exact⟨l,l[j]'(by omega),rT,List.getElem?_eq_getElem _,by rw[q2 j ah];exact List.getElem?_eq_getElem _⟩
  let vs:Nat→Nat→Value:=fun i j=>(((W.cells? 0 (a.add (i*P.cellsOf e)) (P.cellsOf e)).getD [])[j]?).getD undef
  refine⟨ys,.cons ?_ .nil⟩
  have key:=aP.aZ (w:=W) (PA:=fun c=>c<W.heap.size) (PF:=fun _=>False) (PB:=fun c=>c<W.heap.size) (rows:=List.map enc ys) (full:=false) (fresh:=false) (A:=some a) (cap:=cap) (sz:=P.cellsOf e) (vs:=vs)
   (fun c hc=>by simpa using hc) (by rw[List.length_map,GJ];exact⟨aw,fo⟩) (fun h=>by cases h)
   (fun i row aj=>by
    rw[List.getElem?_map] at aj
    cases U:ys[i]? with
    | none=>rw[U] at aj;cases aj
    | some y=>rw[U] at aj;cases aj;exact hc y)
   (fun mV=>by
    rw[List.length_map,GJ] at mV
    obtain⟨l,v,_,_,hv⟩:=h5 0 0 mV az
    rw[Nat.zero_mul] at hv
    have aA:(a.add 0).add 0=a:=by simp[Addr.add]
    rw[aA] at hv
    obtain⟨hs,aM⟩:=anW hv
    obtain⟨c,o,s⟩:=a
    have hs:s=none:=hs
    subst hs
    refine⟨c,o,rfl,aM,fun i j hi ah=> ?_⟩
    rw[List.length_map,GJ] at hi
    obtain⟨l,v,q1,q2,q3⟩:=h5 i j hi ah
    rw[add_add] at q3
    rw[q3]
    show some v=some ((((W.cells? 0 _ _).getD [])[j]?).getD undef)
    rw[q1]
    show some v=some ((l[j]?).getD undef)
    rw[q2];rfl)
   (fun i j row b aj ah=>by
    rw[List.getElem?_map] at aj
    cases U:ys[i]? with
    | none=>rw[U] at aj;cases aj
    | some y=>
     rw[U] at aj;cases aj
     obtain⟨l,rT,ab⟩:=aX i y U
     obtain⟨v,hv,oD⟩:=ab.get ah
     show aP W _ _ b ((((W.cells? 0 _ _).getD [])[j]?).getD undef)
     rw[rT]
     show aP W _ _ b ((l[j]?).getD undef)
     rw[hv];exact oD)
  rw[List.length_map,GJ] at key
  exact key
def u4 (P:Program) (t:TypeId) (c3:List TypeId):Bool:=match P.underlying t with
 | some (.struct eQ)=>(eQ.toList.zipIdx.all fun p=>p.1.offset==p.2&&P.cellsOf p.1.type==1)&&eQ.toList.map (·.type)==c3&&P.cellsOf t==c3.length
 | _=>false
theorem y1 {t:TypeId} {c3:List TypeId} (hs:u4 P t c3=true) {H:Type} {li:TypeId×Value→H} {ka:Nat} {al:List Value} {x:DataW H×List MemPlace} (h:DataW.trod li P W 0 (fun _=>true) true ka t al=some x)
  (hw: ∀n∈x.1.weights P t,n≤reachBytes):al.length=c3.length∧ ∀(i:Nat) (u:TypeId) (v:Value),c3[i]?=some u→al[i]?=some v→ ∃(n:Nat) (z:DataW H×List MemPlace),DataW.trod li P W 0 (fun _=>true) true n u [v]=some z∧ ∀m∈z.1.weights P u,m≤reachBytes:=by
 unfold u4 at hs
 split at hs
 ·rename_i eQ hu
  simp only[Bool.and_eq_true,beq_iff_eq] at hs
  obtain⟨⟨h1,h2⟩,aD⟩:=hs
  obtain⟨xs,n,_,rfl,aw,rV,hf⟩:=DataW.trod_struct hu h
  refine⟨by rw[aw,aD],fun i u v aY hv=> ?_⟩
  have hi:i<eQ.size:=by
   have:=(List.getElem?_eq_some_iff.1 aY).1
   rw[←h2] at this;simpa using this
  have K5:eQ[i]?=some eQ[i]:=Array.getElem?_eq_getElem hi
  have ago:eQ[i].type=u:=by
   have:(eQ.toList.map (·.type))[i]?=some u:=by rw[h2];exact aY
   rw[List.getElem?_map,Array.getElem?_toList,K5] at this
   exact Option.some.inj this
  have Lk:=List.all_eq_true.1 h1 (eQ[i],i) (by rw[List.mem_zipIdx_iff_getElem?];rw[Array.getElem?_toList];exact K5)
  simp only[Bool.and_eq_true,beq_iff_eq] at Lk
  have:=hf i eQ[i] K5
  rw[Lk.1,Lk.2,ago] at this
  have afW:(al.drop i).take 1=[v]:=by
   have aM:=(List.getElem?_eq_some_iff.1 hv).1
   rw[List.drop_eq_getElem_cons aM,List.take_succ_cons,List.take_zero]
   have:=(List.getElem?_eq_some_iff.1 hv).2
   rw[this]
  rw[afW] at this
  have TC:xs[i]?=some (xs[i]'(by omega)):=List.getElem?_eq_getElem _
  rw[TC] at this
  refine⟨n,_,this,fun m hm=>hw m ?_⟩
  simp only[DataW.weights,hu]
  exact DataW.weights_mem_each (j:=i) (by rw[h2];exact aY) (by rw[List.getElem?_map,TC];rfl) m hm
 ·cases hs
theorem zF {al:List Value} (h:al.length=2): ∃a b,al=[a,b]:=by
 match al,h with
 | [a,b],_=>exact⟨a,b,rfl⟩
theorem acq {al:List Value} (h:al.length=3): ∃a b c,al=[a,b,c]:=by
 match al,h with
 | [a,b,c],_=>exact⟨a,b,c,rfl⟩
theorem acr {al:List Value} (h:al.length=4): ∃a b c d,al=[a,b,c,d]:=by
 match al,h with
 | [a,b,c,d],_=>exact⟨a,b,c,d,rfl⟩
theorem JA {al:List Value} (h:al.length=5): ∃a b c d e,al=[a,b,c,d,e]:=by
 match al,h with
 | [a,b,c,d,e],_=>exact⟨a,b,c,d,e,rfl⟩
theorem jD {α:Type} {u:TypeId} {enc:α→List AV} {f:α→AV} (he: ∀y,enc y=[f y]) (h:gG P W u enc) {H:Type} {li:TypeId×Value→H} {n:Nat} {v:Value} {z:DataW H×List MemPlace} (aY:DataW.trod li P W 0 (fun _=>true) true n u [v]=some z)
  (hw: ∀m∈z.1.weights P u,m≤reachBytes): ∃y,I5 W (f y) v:=by
 obtain⟨y,aX⟩:=h li n [v] z aY hw
 rw[he] at aX
 exact⟨y,aX.head⟩
theorem Xk {t a b:TypeId} (hs:u4 P t [a,b]=true) (ar:gG P W a cB) (hb:gG P W b cB):gG P W t c9:=fun li ka al x h hw=>by
 obtain⟨aw,hc⟩:=y1 hs h hw
 obtain⟨bo,bk,rfl⟩:=zF aw
 obtain⟨bM,z0,b6,aL⟩:=hc 0 a bo rfl rfl
 obtain⟨b5,lM,q1,bn⟩:=hc 1 b bk rfl rfl
 obtain⟨eg,ep⟩:=jD (fun _=>rfl) ar b6 aL
 obtain⟨d_,cP⟩:=jD (fun _=>rfl) hb q1 bn
 exact⟨⟨eg,d_⟩,.cons ep (.cons cP .nil)⟩
theorem akR {t a b:TypeId} (hs:u4 P t [a,b]=true) (ar:gG P W a cB) (hb:gG P W b cB):gG P W t bh:=fun li ka al x h hw=>by
 obtain⟨aw,hc⟩:=y1 hs h hw
 obtain⟨bo,bk,rfl⟩:=zF aw
 obtain⟨bM,z0,b6,aL⟩:=hc 0 a bo rfl rfl
 obtain⟨b5,lM,q1,bn⟩:=hc 1 b bk rfl rfl
 obtain⟨eg,ep⟩:=jD (fun _=>rfl) ar b6 aL
 obtain⟨d_,cP⟩:=jD (fun _=>rfl) hb q1 bn
 exact⟨⟨eg,d_⟩,.cons ep (.cons cP .nil)⟩
theorem akN {t a b c:TypeId} (hs:u4 P t [a,b,c]=true) (ar:gG P W a cB) (hb:gG P W b cB) (aW:gG P W c cB):gG P W t ie:=fun li ka al x h hw=>by
 obtain⟨aw,hc⟩:=y1 hs h hw
 obtain⟨bo,bk,bg,rfl⟩:=acq aw
 obtain⟨bM,z0,b6,aL⟩:=hc 0 a bo rfl rfl
 obtain⟨b5,lM,q1,bn⟩:=hc 1 b bk rfl rfl
 obtain⟨n2,z2,q2,bK⟩:=hc 2 c bg rfl rfl
 obtain⟨eg,ep⟩:=jD (fun _=>rfl) ar b6 aL
 obtain⟨d_,cP⟩:=jD (fun _=>rfl) hb q1 bn
 obtain⟨eW,dd⟩:=jD (fun _=>rfl) aW q2 bK
 exact⟨⟨eg,d_,eW⟩,.cons ep (.cons cP (.cons dd .nil))⟩
theorem akS {t a b c d e:TypeId} (hs:u4 P t [a,b,c,d,e]=true) (ar:gG P W a (gO cB false)) (hb:gG P W b (gO c9 false)) (xx:gG P W c (gO c9 false)) (aW:gG P W d (gO cB false)) (he:gG P W e (gO cB false)):gG P W t (dS false):=fun li ka al x h hw=>by
 obtain⟨aw,hc⟩:=y1 hs h hw
 obtain⟨bo,bk,bg,ic,lR,rfl⟩:=JA aw
 obtain⟨bM,z0,b6,aL⟩:=hc 0 a bo rfl rfl
 obtain⟨b5,lM,q1,bn⟩:=hc 1 b bk rfl rfl
 obtain⟨n2,z2,q2,bK⟩:=hc 2 c bg rfl rfl
 obtain⟨nu,z3,q3,da⟩:=hc 3 d ic rfl rfl
 obtain⟨Hk,z4,q4,jh⟩:=hc 4 e lR rfl rfl
 obtain⟨eg,ep⟩:=jD (fun _=>rfl) ar b6 aL
 obtain⟨d_,cP⟩:=jD (fun _=>rfl) hb q1 bn
 obtain⟨eW,dd⟩:=jD (fun _=>rfl) xx q2 bK
 obtain⟨za,dV⟩:=jD (fun _=>rfl) aW q3 da
 obtain⟨ET,j3⟩:=jD (fun _=>rfl) he q4 jh
 exact⟨⟨eg,d_,eW,za,ET⟩,.cons ep (.cons cP (.cons dd (.cons dV (.cons j3 .nil))))⟩
theorem akQ {t a b c d e:TypeId} (hs:u4 P t [a,b,c,d,e]=true) (ar:gG P W a cB) (hb:gG P W b (gO cB false)) (xx:gG P W c (gO (dS false) false)) (aW:gG P W d (gO (gO aT false) false)) (he:gG P W e cB):gG P W t (bH false):=fun li ka al x h hw=>by
 obtain⟨aw,hc⟩:=y1 hs h hw
 obtain⟨bo,bk,bg,ic,lR,rfl⟩:=JA aw
 obtain⟨bM,z0,b6,aL⟩:=hc 0 a bo rfl rfl
 obtain⟨b5,lM,q1,bn⟩:=hc 1 b bk rfl rfl
 obtain⟨n2,z2,q2,bK⟩:=hc 2 c bg rfl rfl
 obtain⟨nu,z3,q3,da⟩:=hc 3 d ic rfl rfl
 obtain⟨Hk,z4,q4,jh⟩:=hc 4 e lR rfl rfl
 obtain⟨eg,ep⟩:=jD (fun _=>rfl) ar b6 aL
 obtain⟨d_,cP⟩:=jD (fun _=>rfl) hb q1 bn
 obtain⟨eW,dd⟩:=jD (fun _=>rfl) xx q2 bK
 obtain⟨za,dV⟩:=jD (fun _=>rfl) aW q3 da
 obtain⟨ET,j3⟩:=jD (fun _=>rfl) he q4 jh
 exact⟨⟨eg,d_,eW,za,ET⟩,.cons ep (.cons cP (.cons dd (.cons dV (.cons j3 .nil))))⟩
theorem akP {t a b c d e:TypeId} (hs:u4 P t [a,b,c,d,e]=true) (ar:gG P W a cB) (hb:gG P W b cB) (xx:gG P W c (gO aT false)) (aW:gG P W d aT) (he:gG P W e cB):gG P W t (e3 false):=fun li ka al x h hw=>by
 obtain⟨aw,hc⟩:=y1 hs h hw
 obtain⟨bo,bk,bg,ic,lR,rfl⟩:=JA aw
 obtain⟨bM,z0,b6,aL⟩:=hc 0 a bo rfl rfl
 obtain⟨b5,lM,q1,bn⟩:=hc 1 b bk rfl rfl
 obtain⟨n2,z2,q2,bK⟩:=hc 2 c bg rfl rfl
 obtain⟨nu,z3,q3,da⟩:=hc 3 d ic rfl rfl
 obtain⟨Hk,z4,q4,jh⟩:=hc 4 e lR rfl rfl
 obtain⟨eg,ep⟩:=jD (fun _=>rfl) ar b6 aL
 obtain⟨d_,cP⟩:=jD (fun _=>rfl) hb q1 bn
 obtain⟨eW,dd⟩:=jD (fun _=>rfl) xx q2 bK
 obtain⟨za,dV⟩:=jD (fun _=>rfl) aW q3 da
 obtain⟨ET,j3⟩:=jD (fun _=>rfl) he q4 jh
 exact⟨⟨eg,d_,eW,za,ET⟩,.cons ep (.cons cP (.cons dd (.cons dV (.cons j3 .nil))))⟩
theorem akO {t a b c d:TypeId} (hs:u4 P t [a,b,c,d]=true) (ar:gG P W a aT) (hb:gG P W b (gO aT false)) (xx:gG P W c (gO bh false)) (aW:gG P W d (gO (e3 false) false)):gG P W t (b9 false):=fun li ka al x h hw=>by
 obtain⟨aw,hc⟩:=y1 hs h hw
 obtain⟨bo,bk,bg,ic,rfl⟩:=acr aw
 obtain⟨bM,z0,b6,aL⟩:=hc 0 a bo rfl rfl
 obtain⟨b5,lM,q1,bn⟩:=hc 1 b bk rfl rfl
 obtain⟨n2,z2,q2,bK⟩:=hc 2 c bg rfl rfl
 obtain⟨nu,z3,q3,da⟩:=hc 3 d ic rfl rfl
 obtain⟨eg,ep⟩:=jD (fun _=>rfl) ar b6 aL
 obtain⟨d_,cP⟩:=jD (fun _=>rfl) hb q1 bn
 obtain⟨eW,dd⟩:=jD (fun _=>rfl) xx q2 bK
 obtain⟨za,dV⟩:=jD (fun _=>rfl) aW q3 da
 exact⟨⟨eg,d_,eW,za⟩,.cons ep (.cons cP (.cons dd (.cons dV .nil)))⟩
theorem Jf {t:TypeId} {α:Type} {enc:α→List AV} {k:Nat} (h:gG P W t enc) (hk:2≤k) (hc: ∀y,(enc y).length=k) {H:Type} {li:TypeId×Value→H} {v:Value} {d:DataW H} {ps:List MemPlace} (aY:DataW.Trod li P W 0 (fun _=>true) true t v d ps)
  (hw: ∀n∈d.weights P t,n≤reachBytes): ∃y,V2 (Env.at W) (.agg (enc y)) v:=by
 obtain⟨ka,hf⟩:=aY
 obtain⟨y,ab⟩:=h li ka _ _ hf hw
 have aw:=ab.1
 rw[hc] at aw
 have hv:v= .agg v.cells:=by
  cases v<;>first | rfl | (simp[Value.cells] at aw;omega)
 refine⟨y,v.cells.toList,by rw[Array.toArray_toList];exact hv,ab.mono fun a u aj=>aP.v1 (E:=Env.at W) aj⟩
end
def Vf (P:Program) (fn:Func) (c:OpenClaim):Bool:=c.kinds==(if c.domain.isEmpty then[] else fn.params.toList.map fun t=>match P.underlying t with | some (.int k)=>some k | _=>none)
theorem ah7 {P:Program} {f:FuncId} {fn:Func} {s:ChangeSpec} {c:OpenClaim} (aA:(c.wf (OpenSpec.ofChange s))=true) (h1:laidOutB P=true) (h2:mapsRowed P=true) (aD:fn.params.all (P.readableRec ·)=true) (bj:namedTie P c.named s.vars=true) (cl:(c.stops==[])=true) (cC:(P.stops==[])=true) (hM:(c.knobs==[])=true) (tZ:(P.stopKnobs==[])=true) (xl:(c.inPlace==P.inPlace f)=true) (C2:(c.unfollowed==P.unfollowed f)=true) (aey:(c.recurses==P.recurses f)=true) (aez:(c.named==P.varsNamed f)=true) (aeA:(c.maps==(fn.params.toList++s.plain.varTypes P).any (P.mapsRec ·))=true) (aeB:(c.ifaces==(fn.params.toList++s.plain.varTypes P).any (P.ifacesRec ·))=true) (aeC:(c.mapsOut==P.mapsAmong fn.resultTypes.toList)=true) (aeD:(c.loops==(fn.params.toList++s.plain.varTypes P).any (P.loopsFrom ·))=true) (aeE:(c.wideKeys==(fn.params.toList++s.plain.varTypes P++fn.resultTypes.toList).any (P.wideKeysFrom ·))=true) (aeF:s.vars.all (P.varReadable ·)=true) (aeG:fn.resultTypes.all (fun t=>P.readableRec t&&decide (t<P.types.size))=true) (aeH:(c.ifacesOut==fn.resultTypes.toList.any (P.ifacesRec ·))=true) (aeI:(c.loopsOut==fn.resultTypes.toList.any (P.loopsFrom ·))=true) (aeJ:(c.plainKeys==P.plainKeys)=true) (aeK:c.shortTexts.isNone=true) (aeL:P.stopsHeard=true) (aeM:P.mayEnter=true) (aeN:(c.lifted==P.liftsFinal)=true) (aeO:(P.make==some c.make)=true) (aeP:Vf P fn c=true) (aeQ:(c.pinned==c.pinnedBy)=true) (qN:(c.veiled==(fn.params.toList++s.plain.varTypes P++fn.resultTypes.toList).any (P.veiledRec ·))=true) (aeR:c.veiledFits P fn.params.toList (fn.params.toList++s.plain.varTypes P++fn.resultTypes.toList)=true):joinedFacts P f fn s c=true:=by
 unfold joinedFacts
 simp only[Bool.and_eq_true]
 exact⟨⟨⟨⟨⟨⟨⟨⟨⟨⟨⟨⟨⟨⟨⟨⟨⟨⟨⟨⟨⟨⟨⟨⟨⟨⟨⟨⟨⟨⟨⟨aA,h1⟩,h2⟩,aD⟩,bj⟩,cl⟩,cC⟩,hM⟩,tZ⟩,xl⟩,C2⟩,aey⟩,aez⟩,aeA⟩,aeB⟩,aeC⟩,aeD⟩,aeE⟩,aeF⟩,aeG⟩,aeH⟩,aeI⟩,aeJ⟩,aeK⟩,aeL⟩,aeM⟩,aeN⟩,aeO⟩,aeP⟩,aeQ⟩,qN⟩,aeR⟩
theorem akC {α:Type} [Inhabited α] {xs:List α} {i:Int} (h:i.toNat<xs.length):nth xs i=xs[i.toNat]:=by
 have:=h7 h
 rw[List.getElem?_eq_getElem h] at this
 exact(Option.some.inj this).symm
def br (b:List Bool):Blk:=⟨0,1,List.map aT b⟩
def mQ (s:Nat) (h:av) (id:Nat):List AV:=[.int .i64 h.aJ,.int .i64 h.ba,.ref (id+s) 0 0 h.ae.length false,.bool h.bS,.int .i64 h.bR]
def aU (s:Nat) (ws:List av) (ids:List Nat):List (List AV):=List.zipWith (mQ s) ws ids
def view (ws:List av) (ids:List Nat) (bs:List (List Bool)):List av:=List.zipWith (fun h id=>{h with ae:=bs.getD id []}) ws ids
structure me (ws:List av) (ids:List Nat) (bs:List (List Bool)):Prop where
 len:ws.length=ids.length
 lt: ∀(i id:Nat),ids[i]?=some id→id<bs.length
 ae: ∀(i id:Nat) (h:av),ws[i]?=some h→ids[i]?=some id→h.ae.length=(bs.getD id []).length
theorem dK {s:Nat} {ws:List av} {ids:List Nat} {i:Int} (aw:ws.length=ids.length) (hi:i.toNat<ws.length):(aU s ws ids)[i.toNat]?=some (mQ s (nth ws i) (nth ids i)):=by
 unfold aU
 rw[List.getElem?_zipWith,h7 hi,h7 (by omega)]
theorem xo {s:Nat} {ws:List av} {ids:List Nat} (aw:ws.length=ids.length):(aU s ws ids).length=ws.length:=by
 unfold aU;rw[List.length_zipWith];omega
theorem zY {s:Nat} {ws:List av} {ids:List Nat} {i:Nat} {h:av} {id:Nat} (aw:ws.length=ids.length):(aU s ws ids).set i (mQ s h id)=aU s (ws.set i h) (ids.set i id):=by
 apply List.ext_getElem?
 intro j
 unfold aU
 rw[List.getElem?_set,List.getElem?_zipWith,List.getElem?_zipWith,List.getElem?_set,List.getElem?_set]
 by_cases nU:i=j
 ·subst nU
  simp only[if_true,List.length_zipWith]
  by_cases hi:i<ws.length
  ·rw[if_pos (by omega),if_pos hi,if_pos (by omega)]
  ·rw[if_neg (by omega),if_neg hi]
 ·simp only[if_neg nU]
theorem ln {s:Nat} {ws:List av} {ids:List Nat} {i:Int} {h:av} (aw:ws.length=ids.length) (hi:i.toNat<ws.length):(aU s ws ids).set i.toNat (mQ s h (nth ids i))=aU s (ws.set i.toNat h) ids:=by
 rw[zY aw]
 congr 1
 rw[akC (by omega)]
 exact List.set_getElem_self _
theorem ae1 {s:Nat} {ws:List av} {ids:List Nat} {h:av} {id:Nat} (aw:ws.length=ids.length):aU s ws ids++[mQ s h id]=aU s (ws++[h]) (ids++[id]):=by
 unfold aU
 rw[List.zipWith_append aw];rfl
theorem sJ {bs:List (List Bool)} {id:Nat} (h:id<bs.length):(List.map br bs)[id]?=some (br (bs.getD id [])):=by
 rw[List.getElem?_map,List.getElem?_eq_getElem h,List.getD_eq_getElem?_getD,List.getElem?_eq_getElem h];rfl
theorem Kq {bs:List (List Bool)} {id:Nat} {b:List Bool}:(List.map br bs).set id (br b)=List.map br (bs.set id b):=by rw[List.map_set]
theorem CK {b:List Bool} {i:Int} (h:i.toNat<b.length):(List.map aT b)[i.toNat]?=some (aT (nth b i)):=by rw[List.getElem?_map,h7 h];rfl
theorem Jp {b:List Bool} {i:Nat} {x:Bool}:(List.map aT b).set i (aT x)=List.map aT (b.set i x):=by rw[List.map_set]
theorem jJ {ws:List av} {ids:List Nat} {bs:List (List Bool)} (h:me ws ids bs):(view ws ids bs).length=ws.length:=by
 unfold view;rw[List.length_zipWith];have:=h.len;omega
theorem wS {ws:List av} {ids:List Nat} {bs:List (List Bool)} {i:Nat} {h:av} {id:Nat} (h1:ws[i]?=some h) (h2:ids[i]?=some id):(view ws ids bs)[i]?=some {h with ae:=bs.getD id []}:=by
 unfold view;rw[List.getElem?_zipWith,h1,h2]
theorem tn {s:Nat} {ws:List av} {ids:List Nat} {i:Nat} {row:List AV} (h:(aU s ws ids)[i]?=some row): ∃x id,ws[i]?=some x∧ids[i]?=some id∧row=mQ s x id:=by
 unfold aU at h
 rw[List.getElem?_zipWith] at h
 cases hx:ws[i]? with
 | none=>rw[hx] at h;cases h
 | some x=>
  cases aW:ids[i]? with
  | none=>rw[hx,aW] at h;cases h
  | some id=>rw[hx,aW] at h;cases h;exact⟨x,id,rfl,rfl,rfl⟩
theorem wC {L:List (Nat×List AV)} {H:List Blk} {b s n:Nat} {full:Bool} {ws:List av} {ids:List Nat} {bs:List (List Bool)} (af:n=ws.length) (hb:H[b]?=some ⟨0,5,aU s ws ids⟩)
  (hf: ∀(id:Nat) (k:Blk),(List.map br bs)[id]?=some k→H[id+s]?=some k) (ok:me ws ids bs) (fo:ws.length≤4611686018427387904) (zV: ∀x∈bs,x.length≤4611686018427387904):
  gN L H (.ref b 0 0 n full) (.aZ (List.map (e3 false) (view ws ids bs)) false false):=by
 subst af
 refine gN.ref (fun h=>by cases h) hb rfl (by rw[List.length_map,jJ ok]) fo (by rw[Nat.zero_add,xo ok.len];exact Nat.le_refl _) (fun i row row' h1 h2=> ?_) (fun i j row row' a c h1 h2 aD bj=> ?_)
 ·rw[Nat.zero_add] at h1
  obtain⟨x,id,hx,aW,rfl⟩:=tn h1
  rw[List.getElem?_map,wS hx aW] at h2
  cases h2;rfl
 ·rw[Nat.zero_add] at h1
  obtain⟨x,id,hx,aW,rfl⟩:=tn h1
  rw[List.getElem?_map,wS hx aW] at h2
  cases h2
  have aM:=ok.lt i id aW
  have key:qC L H (mQ s x id) (e3 false {x with ae:=bs.getD id []}):=by
   refine .cons (.int _ _) (.cons (.int _ _) (.cons ?_ (.cons (.bool _) (.cons (.int _ _) .nil))))
   have hm:bs.getD id []∈bs:=by rw[List.getD_eq_getElem?_getD,List.getElem?_eq_getElem aM];exact List.getElem_mem aM
   exact oW (eT:=aT) (eF:=aT) (sz:=1) (ok.ae i id x hx aW) (hf id _ (sJ aM)) vG (zV _ hm)
  exact key.2 j a c aD bj
theorem P4 {H:List Blk} {b g s n:Nat} {full:Bool} {ws ys:List av} {ids:List Nat} {bs:List (List Bool)} (af:n=ws.length) (hb:H[b]?=some ⟨g,5,aU s ws ids⟩)
  (hf: ∀(id:Nat) (k:Blk),(List.map br bs)[id]?=some k→H[id+s]?=some k) (h:me ws ids bs∧ws.length≤4611686018427387904∧(∀x∈bs,x.length≤4611686018427387904)∧view ws ids bs=ys):
  ho H (.ref b g 0 n full) (.aZ (List.map (e3 false) ys) false true):=by
 obtain⟨ok,fo,zV,rfl⟩:=h
 subst af
 refine ho.ref (fun h=>by cases h) (fun i j=>(((view ws ids bs)[i]?).bind fun x=>(e3 true x)[j]?).getD .undef) hb rfl (by rw[List.length_map,jJ ok]) fo (by rw[Nat.zero_add,xo ok.len];exact Nat.le_refl _) (fun i row row' h1 h2=> ?_) (fun i j row a hi h1 h2=> ?_) (fun i j row' c h1 h2=> ?_)
 ·rw[Nat.zero_add] at h1
  obtain⟨x,id,hx,aW,rfl⟩:=tn h1
  rw[List.getElem?_map,wS hx aW] at h2
  cases h2;rfl
 ·rw[Nat.zero_add] at h1
  obtain⟨x,id,hx,aW,rfl⟩:=tn h1
  rw[wS hx aW]
  have aM:=ok.lt i id aW
  have hm:bs.getD id []∈bs:=by rw[List.getD_eq_getElem?_getD,List.getElem?_eq_getElem aM];exact List.getElem_mem aM
  show ho H a (((some ({x with ae:=bs.getD id []}:av)).bind fun x=>(e3 true x)[j]?).getD .undef)
  match j,h2 with
  | 0,h2=>cases h2;exact .int _ _
  | 1,h2=>cases h2;exact .int _ _
  | 2,h2=>
   cases h2
   exact wN (eT:=aT) (eF:=aT) (sz:=1) (ok.ae i id x hx aW) (hf id _ (sJ aM)) CL ⟨zV _ hm,rfl⟩
  | 3,h2=>cases h2;exact .bool _
  | 4,h2=>cases h2;exact .int _ _
  | j+5,h2=>simp[mQ] at h2
 ·rw[List.getElem?_map] at h1
  cases hv:(view ws ids bs)[i]? with
  | none=>rw[hv] at h1;cases h1
  | some x=>
   rw[hv] at h1;cases h1
   show c=j4 (((some x).bind fun x=>(e3 true x)[j]?).getD .undef)
   match j,h2 with
   | 0,h2=>cases h2;rfl
   | 1,h2=>cases h2;rfl
   | 2,h2=>cases h2;rfl
   | 3,h2=>cases h2;rfl
   | 4,h2=>cases h2;rfl
   | j+5,h2=>simp[e3] at h2
theorem Weak.Hm [cH] (sz:Nat) {T:List AV} {L:List (Nat×List AV)} {H:List Blk}:Weak ⟨T,L,H⟩ ⟨T,L,H++[⟨0,sz,[]⟩]⟩:=fun cr E tmps g s=>by
 obtain⟨E',hw,a7,h1,h2,_⟩:=Hn (blk:=⟨0,sz,[]⟩) s.h s.l rfl rfl
 exact⟨E',hw,g.step a7,h1,h2,fun t=>(s.jt t).le a7.le,s.size⟩
theorem Weak.clear [cH] (j:Nat) {g sz:Nat} {rows:List (List AV)} {T:List AV} {L:List (Nat×List AV)} {H:List Blk} (ah:H[j]?=some ⟨g,sz,rows⟩):Weak ⟨T,L,H⟩ ⟨T,L,H.set j ⟨g,sz,[]⟩⟩:=fun cr E tmps aes s=>by
 have lX:=(List.getElem?_eq_some_iff.1 ah).1
 have get: ∀(b:Nat) (blk:Blk),(H.set j ⟨g,sz,[]⟩)[b]?=some blk→(b=j∧blk=⟨g,sz,[]⟩)∨(b≠j∧H[b]?=some blk):=fun b blk h=>by
  rw[List.getElem?_set] at h
  split at h
  ·rename_i e;subst e;exact .inl ⟨rfl,(Option.some.inj h).symm⟩
  ·rename_i e;exact .inr ⟨fun h=>e h.symm,h⟩
 have ik:SimH E H:=s.h
 refine⟨E,rfl,aes,{ik with
  heap:=fun b c hb=> ?_,fc:=fun b blk hb=> ?_,ii:=fun b hb=> ?_,fresh:=fun b hb=>ik.fresh b (by simpa using hb)},s.l,s.jt,s.size⟩
 ·obtain⟨blk,al,ty,q1,b6,q2,q3,q4,cN⟩:=ik.heap b c hb
  by_cases e:b=j
  ·subst e
   rw[ah] at q1
   obtain rfl:=Option.some.inj q1
   exact⟨⟨g,sz,[]⟩,al,ty,by rw[List.getElem?_set];simp[lX],b6,q2,q3,Nat.zero_le _,fun i row h=>by simp at h,fun i j row a h=>by simp at h⟩
  ·exact⟨blk,al,ty,by rw[List.getElem?_set,if_neg (fun h=>e h.symm)];exact q1,b6,q2,q3,q4,cN⟩
 ·rcases get b blk hb with⟨rfl,rfl⟩ | ⟨_,hb⟩
  ·exact(ik.fc b _ ah:)
  ·exact ik.fc b blk hb
 ·obtain⟨blk,q1,b6⟩:=ik.ii b hb
  by_cases e:b=j
  ·subst e
   rw[ah] at q1
   obtain rfl:=Option.some.inj q1
   exact⟨⟨g,sz,[]⟩,by rw[List.getElem?_set];simp[lX],b6⟩
  ·exact⟨blk,by rw[List.getElem?_set,if_neg (fun h=>e h.symm)];exact q1,b6⟩
theorem YF (H:List Blk):H.map (iD 0)=H:=by
 have aA: ∀a:AV,js 0 a=a:=fun a=>by cases a<;>simp[js]
 have:iD 0=id:=by
  funext b
  obtain⟨g,s,rows⟩:=b
  show(⟨g,s,rows.map fun row=>row.map (js 0)⟩:Blk)=⟨g,s,rows⟩
  congr 1
  have:(fun row:List AV=>row.map (js 0))=id:=by funext row;rw[show js 0=id from funext aA];simp
  rw[this];simp
 rw[this];simp
theorem A2 {g0 g1 g2 s:Nat} {aB:List Bool} {mq:List bP} {ws:List av} {ids:List Nat} {bs:List (List Bool)}:we (⟨g0,1,List.map aT aB⟩::⟨g1,2,List.map bh mq⟩::⟨g2,5,aU s ws ids⟩::List.map br bs)=true:=by
 refine uL (fun _=>rfl) (uL (fun _=>rfl) ?_)
 unfold we
 rw[List.all_eq_true]
 intro b hb
 rw[List.all_eq_true]
 intro row aj
 rcases List.mem_cons.1 hb with rfl | hb
 ·obtain⟨i,hi⟩:=List.mem_iff_getElem?.1 aj
  obtain⟨x,id,_,_,rfl⟩:=tn hi
  rfl
 ·obtain⟨b,_,rfl⟩:=List.mem_map.1 hb
  obtain⟨x,_,rfl⟩:=List.mem_map.1 aj
  rfl
def yO (j:Nat):Option Nat:=if j<3 then some j else some (j+1)
theorem Xr {r:AV} {g0 g1 g2 g3 bM b5 n2:Nat} {f0 f1 f2:Bool} {R:Frame} {ok:Bool} {aB:List Bool} {mq:List bP} {ws:List av} {ids:List Nat} {bs:List (List Bool)} {rows:List (List AV)}
  (h:ok=R.ok∧aB=R.aB∧mq=R.au∧ws=R.O∧ids=List.range ws.length∧bs=ws.map av.ae) (aA:bM=aB.length) (h1:b5=mq.length) (h2:n2=ws.length) (aj:r= .agg [.bool ok,.ref 0 g0 0 bM f0,.ref 1 g1 0 b5 f1,.ref 2 g2 0 n2 f2]):
  ∃db,tK (⟨g0,1,List.map aT aB⟩::⟨g1,2,List.map bh mq⟩::⟨g2,5,aU 4 ws ids⟩::⟨g3,5,rows⟩::List.map br bs)
   (⟨0,1,List.map aT R.aB⟩::⟨0,2,List.map bh R.au⟩::⟨0,5,aU 3 R.O (List.range R.O.length)⟩::List.map br (List.map av.ae R.O)) db∧
   E9 (⟨g0,1,List.map aT aB⟩::⟨g1,2,List.map bh mq⟩::⟨g2,5,aU 4 ws ids⟩::⟨g3,5,rows⟩::List.map br bs)
    (⟨0,1,List.map aT R.aB⟩::⟨0,2,List.map bh R.au⟩::⟨0,5,aU 3 R.O (List.range R.O.length)⟩::List.map br (List.map av.ae R.O)).length db r
    (.agg [.bool R.ok,.ref 0 0 0 R.aB.length false,.ref 1 0 0 R.au.length false,.ref 2 0 0 R.O.length false]):=by
 obtain⟨rfl,rfl,rfl,rfl,rfl,rfl⟩:=h
 subst aA;subst h1;subst h2;subst aj
 have hlen:(⟨0,1,List.map aT R.aB⟩::⟨0,2,List.map bh R.au⟩::⟨0,5,aU 3 R.O (List.range R.O.length)⟩::List.map br (List.map av.ae R.O):List Blk).length=R.O.length+3:=by simp
 refine⟨yO,⟨fun i j b hi ah h1 h2=> ?_,fun j k hk=> ?_,fun j b k hk hs=> ?_⟩,.inl ⟨_,_,rfl,rfl,?_⟩⟩
 ·unfold yO at h1 h2
  split at h1<;>split at h2<;>simp at h1 h2<;>omega
 ·match j,hk with
  | 0,hk=>simp at hk;subst hk;rfl
  | 1,hk=>simp at hk;subst hk;rfl
  | 2,hk=>simp at hk;subst hk;rfl
  | j+3,hk=>simp at hk;obtain⟨x,_,rfl⟩:=hk;rfl
 ·rw[hlen]
  match j,hk,hs with
  | 0,hk,hs=>
   simp at hk;subst hk
   obtain rfl:0=b:=by simpa[yO] using hs
   exact qs (b:=0) rfl yw rfl
  | 1,hk,hs=>
   simp at hk;subst hk
   obtain rfl:1=b:=by simpa[yO] using hs
   exact qs (b:=1) rfl Ht rfl
  | 2,hk,hs=>
   simp at hk;subst hk
   obtain rfl:2=b:=by simpa[yO] using hs
   refine⟨_,rfl,rfl,⟨by rw[xo (by simp),xo (by simp)],fun i N6 dr ar hb=> ?_⟩⟩
   obtain⟨x,id,hx,aW,rfl⟩:=tn ar
   obtain⟨iX,gC,jz,pk,rfl⟩:=tn hb
   rw[hx] at jz;cases jz
   rw[aW] at pk;cases pk
   have sS:i<R.O.length:=(List.getElem?_eq_some_iff.1 hx).1
   obtain rfl:i=id:=by rw[List.getElem?_range sS] at aW;exact Option.some.inj aW
   refine .cons (.int _ _) (.cons (.int _ _) (.cons ?_ (.cons (.bool _) (.cons (.int _ _) .nil))))
   refine iH.ref (blk:=br x.ae) (by omega) (by simp[yO]) ?_ rfl
   show(List.map br (List.map av.ae R.O))[i]?=_
   rw[List.getElem?_map,List.getElem?_map,hx];rfl
  | j+3,hk,hs=>
   obtain rfl:j+4=b:=by
    unfold yO at hs
    rw[if_neg (by omega)] at hs;exact Option.some.inj hs
   have hk:(List.map br (List.map av.ae R.O))[j]?=some k:=by simpa using hk
   have: ∃x,k=br x:=by
    rw[List.getElem?_map] at hk
    cases U:(List.map av.ae R.O)[j]? with
    | none=>rw[U] at hk;cases hk
    | some x=>rw[U] at hk;cases hk;exact⟨x,rfl⟩
   obtain⟨x,rfl⟩:=this
   have hb:(⟨g0,1,List.map aT R.aB⟩::⟨g1,2,List.map bh R.au⟩::⟨g2,5,aU 4 R.O (List.range R.O.length)⟩::⟨g3,5,rows⟩::List.map br (List.map av.ae R.O):List Blk)[j+4]?=some ⟨0,1,List.map aT x⟩:=hk
   exact qs (b:=j+4) hb yw rfl
 ·rw[hlen]
  exact .cons (.bool _) (.cons (.ref (by omega) rfl rfl rfl) (.cons (.ref (by omega) rfl rfl rfl) (.cons (.ref (by omega) rfl rfl rfl) .nil)))
theorem al7 {k s:Nat} {ws:List av} {ids:List Nat}:(aU s ws ids).map (fun row=>row.map (js k))=aU (s+k) ws ids:=by
 apply List.ext_getElem?
 intro i
 unfold aU
 rw[List.getElem?_map,List.getElem?_zipWith,List.getElem?_zipWith]
 cases ws[i]? with
 | none=>rfl
 | some h=>
  cases ids[i]? with
  | none=>rfl
  | some id=>
   show some [_,_,AV.ref (k+(id+s)) 0 0 h.ae.length false,_,_]=some [_,_,AV.ref (id+(s+k)) 0 0 h.ae.length false,_,_]
   rw[show k+(id+s)=id+(s+k) by omega];rfl
theorem al6 {k:Nat} {bs:List (List Bool)}:(List.map br bs).map (iD k)=List.map br bs:=by
 rw[List.map_map]
 refine List.map_congr_left fun b _=> ?_
 show(⟨0,1,(List.map aT b).map fun row=>row.map (js k)⟩:Blk)=⟨0,1,_⟩
 rw[List.map_map]
 congr 1
theorem YG {k g0 g1 g2 s:Nat} {aB:List Bool} {mq:List bP} {ws:List av} {ids:List Nat} {bs:List (List Bool)}:
  (⟨g0,1,List.map aT aB⟩::⟨g1,2,List.map bh mq⟩::⟨g2,5,aU s ws ids⟩::List.map br bs:List Blk).map (iD k)=⟨g0,1,List.map aT aB⟩::⟨g1,2,List.map bh mq⟩::⟨g2,5,aU (s+k) ws ids⟩::List.map br bs:=by
 refine uU (fun _=>rfl) (uU (fun _=>rfl) ?_)
 show(⟨g2,5,(aU s ws ids).map fun row=>row.map (js k)⟩:Blk)::(List.map br bs).map (iD k)=_
 rw[al7,al6]
structure gL (ws:List av) (ids:List Nat) (bs:List (List Bool)):Prop where
 ok:me ws ids bs
 lD: ∀i j k:Nat,ids[i]?=some k→ids[j]?=some k→i=j
 len: ∀b∈bs,b.length≤1048576
theorem xh {bs:List (List Bool)} {b:List Bool}:List.map br bs++[⟨0,1,List.map aT b⟩]=List.map br (bs++[b]):=by rw[List.map_append];rfl
section
variable {P:Program} {esc:List Nat} {ops:Array Oper} {n:Nat} {X:List Oper} {i0:Nat} {A:List (Nat×AV)} {L:List (Nat×List AV)} {H:List Blk} {K:List (Nat×AV)→List (Nat×List AV)→List Blk→Prop}
theorem jH (bc:Nat) (d:Option Nat) (N:List (Nat×AV)) (rows:List (List AV)) {row:List AV} (i:Int) (t:TypeId) (c g:Nat) (v:AV) (ew:rows[i.toNat]?=some row) (h:evS P esc ops n (X.drop (i0+bc)) (dy d v N A) L H K)
  (e2: ∀K,ko P t row c K=K v:=by intro K;kernel_rfl)
  (e: ∀K,evS P esc ops n ((X.drop i0).take bc) A L H K=(g=g∧cV rows[0+i.toNat]? fun row=>ko P t row c fun v=>K (dy d v N A) L H):=by intro K;kernel_rfl):evS P esc ops n (X.drop i0) A L H K:=by
 rw[kT X i0 bc,e]
 exact⟨rfl,ei (a:=row) (by rw[Nat.zero_add];exact ew) (by rw[e2];exact h)⟩
theorem alX (bc:Nat) (d:Option Nat) (N:List (Nat×AV)) (rows:List (List AV)) {row row':List AV} (i:Int) (c k g:Nat) (cells:List AV) (H':List (List AV)→List Blk) (jG:List (List AV)) (ew:rows[i.toNat]?=some row) (oE:rows.set i.toNat row'=jG)
  (h:evS P esc ops n (X.drop (i0+bc)) (dy d (.tup []) N A) L (H' jG) K) (hc:Nat.ble (c+k) row.length=true:=by kernel_rfl) (hs:fI row c cells=row':=by kernel_rfl)
  (e: ∀K,evS P esc ops n ((X.drop i0).take bc) A L H K=(g=g∧cV rows[0+i.toNat]? fun row=>c+k≤row.length∧K (dy d (.tup []) N A) L (H' (rows.set (0+i.toNat) (fI row c cells)))):=by intro K;kernel_rfl):evS P esc ops n (X.drop i0) A L H K:=by
 rw[kT X i0 bc,e]
 refine⟨rfl,ei (a:=row) (by rw[Nat.zero_add];exact ew) ⟨Nat.le_of_ble_eq_true hc,?_⟩⟩
 ·rw[hs,Nat.zero_add,oE];exact h
theorem k8 (bc:Nat) (d:Option Nat) (N:List (Nat×AV)) (rows:List (List AV)) {row row':List AV} (i:Int) (c k g:Nat) (cells:List AV) (j:Nat) (jG:List (List AV)) (ew:rows[i.toNat]?=some row) (oE:rows.set i.toNat row'=jG)
  (h:evS P esc ops n (X.drop (i0+bc)) (dy d (.tup []) N A) L (iZ j jG H) K) (hc:Nat.ble (c+k) row.length=true:=by kernel_rfl) (hs:fI row c cells=row':=by kernel_rfl)
  (e: ∀K,evS P esc ops n ((X.drop i0).take bc) A L H K=(g=g∧cV rows[0+i.toNat]? fun row=>c+k≤row.length∧K (dy d (.tup []) N A) L (iZ j (rows.set (0+i.toNat) (fI row c cells)) H)):=by intro K;kernel_rfl):evS P esc ops n (X.drop i0) A L H K:=alX bc d N rows i c k g cells (fun r=>iZ j r H) jG ew oE h hc hs e
theorem alR (bc:Nat) (d:Option Nat) (N:List (Nat×AV)) (bs:List (List Bool)) (id s:Nat) {i:Int} {m:Nat} (hid:id<bs.length) (aA:0≤i∧i.toNat<m) (h:evS P esc ops n (X.drop (i0+bc)) (dy d (.ptr (id+s) 0 (0+i.toNat) 0) N A) L H K)
  (e: ∀K,evS P esc ops n ((X.drop i0).take bc) A L H K=(cV (List.map br bs)[id]? fun blk=>blk.bm=0∧blk.sz=1∧0≤i∧i<m∧K (dy d (.ptr (id+s) 0 (0+i.toNat) 0) N A) L H):=by intro K;kernel_rfl):evS P esc ops n (X.drop i0) A L H K:=by
 rw[kT X i0 bc,e]
 exact ei (sJ hid) ⟨rfl,rfl,aA.1,by have:=aA.2;omega,h⟩
theorem alW (bc:Nat) (d:Option Nat) (N:List (Nat×AV)) (bs:List (List Bool)) (id:Nat) (i:Int) (x:Bool) (H':List Blk→List Blk) (hid:id<bs.length) (hi:i.toNat<(bs.getD id []).length)
  (h:evS P esc ops n (X.drop (i0+bc)) (dy d (.tup []) N A) L (H' (List.map br (bs.set id ((bs.getD id []).set i.toNat x)))) K)
  (e: ∀K,evS P esc ops n ((X.drop i0).take bc) A L H K=(cV (List.map br bs)[id]? fun blk=>blk.bm=0∧cV blk.rows[0+i.toNat]? fun row=>0+1≤row.length∧K (dy d (.tup []) N A) L (H' ((List.map br bs).set id {blk with rows:=blk.rows.set (0+i.toNat) (fI row 0 [.bool x])}))):=by intro K;kernel_rfl):evS P esc ops n (X.drop i0) A L H K:=by
 rw[kT X i0 bc,e]
 have key:(List.map br bs).set id {br (bs.getD id []) with rows:=(br (bs.getD id [])).rows.set (0+i.toNat) (fI (aT (nth (bs.getD id []) i)) 0 [.bool x])}=List.map br (bs.set id ((bs.getD id []).set i.toNat x)):=by
  rw[←Kq]
  congr 1
  show(⟨0,1,(List.map aT (bs.getD id [])).set (0+i.toNat) (aT x)⟩:Blk)=⟨0,1,_⟩
  rw[Nat.zero_add,Jp]
 refine ei (sJ hid) ⟨rfl,ei (a:=aT (nth (bs.getD id []) i)) (by rw[Nat.zero_add];exact CK hi) ⟨Nat.le_refl _,?_⟩⟩
 ·rw[key];exact h
theorem Yy (bc:Nat) (N:List (Nat×AV)) (H':List Blk) {φ ψ:Prop} (h1:φ) (h2:ψ) (h:evS P esc ops n (X.drop (i0+bc)) (hH N A) L H' K) (e: ∀K,evS P esc ops n ((X.drop i0).take bc) A L H K=(φ∧ψ∧K (hH N A) L H'):=by intro K;kernel_rfl):evS P esc ops n (X.drop i0) A L H K:=by
 rw[kT X i0 bc,e];exact⟨h1,h2,h⟩
theorem Yx (H':List Blk) (ax:H=H') (h:evS P esc ops n (X.drop i0) A L H' K):evS P esc ops n (X.drop i0) A L H K:=by
 subst ax;exact h
theorem wA (bc:Nat) (d:Option Nat) (N:List (Nat×AV)) {g:FuncId} (args:List AV) (Q:AV→List Blk→Prop) (hf:de P g args H Q) (aj: ∀r H',Q r H'→AW r=true) (h: ∀r H',Q r H'→evS P esc ops n (X.drop (i0+bc)) (dy d r N A) L H' K)
  (af:args.all e9=true:=by kernel_rfl) (aw:args.all lE=true:=by kernel_rfl) (e: ∀K,evS P esc ops n ((X.drop i0).take bc) A L H K=(mJ P g args L H (fun v L' H'=>K (dy d v N A) L' H')):=by intro K;kernel_rfl):evS P esc ops n (X.drop i0) A L H K:=by
 rw[kT X i0 bc,e]
 exact .inr (.inr (.inl ⟨af,aw,hf.mono fun r H' U=>⟨aj r H' U,h r H' U⟩⟩))
theorem alU (bc:Nat) (d:Option Nat) (N:List (Nat×AV)) {i:Int} (B:Int) (z:List AV) (m:Nat) (ov:List Blk) (aA:0≤i∧B*i≤140737488355328∧i≤4611686018427387904) (aw:H.length=m) (hx:H++[⟨0,1,List.map aT (List.replicate i.toNat false)⟩]=ov)
  (h:evS P esc ops n (X.drop (i0+bc)) (dy d (.ref m 0 0 (List.replicate i.toNat false).length false) N A) L ov K) (az:z=aT false:=by rfl)
  (e: ∀K,evS P esc ops n ((X.drop i0).take bc) A L H K=(0≤i∧i≤i∧B*i≤140737488355328∧i≤4611686018427387904∧K (dy d (.ref H.length 0 0 i.toNat false) N A) L (H++[⟨0,1,List.replicate i.toNat z⟩])):=by intro K;kernel_rfl):evS P esc ops n (X.drop i0) A L H K:=by
 rw[kT X i0 bc,e]
 subst aw;subst hx;subst az
 rw[List.length_replicate,List.map_replicate] at h
 exact⟨aA.1,Int.le_refl _,aA.2.1,aA.2.2,h⟩
theorem alS (bc:Nat) (d:Option Nat) (N:List (Nat×AV)) (ys:List Bool) (B:Nat) (m:Nat) (ov:List Blk) (aA:ys.length*B≤140737488355328∧ys.length≤4611686018427387904) (aw:H.length=m) (hx:H++[⟨0,1,List.map aT ys⟩]=ov)
  (h:evS P esc ops n (X.drop (i0+bc)) (dy d (.ref m 0 0 ys.length false) N A) L ov K)
  (e: ∀K,evS P esc ops n ((X.drop i0).take bc) A L H K=(true=true∧true=true∧wx 1 (List.map aT ys)∧true=true∧(∀row∈([]:List (List AV)),row.length=1)∧(List.length (α:=List AV) []+(List.map aT ys).length)*B≤140737488355328∧List.length (α:=List AV) []+(List.map aT ys).length≤4611686018427387904∧(([]:List (List AV))≠[]→(List.map aT ys)≠[])∧
   K (dy d (.ref H.length 0 0 (List.length (α:=List AV) []+(List.map aT ys).length) false) N A) L (H++[⟨0,1,[]++(List.map aT ys)⟩])):=by intro K;kernel_rfl):evS P esc ops n (X.drop i0) A L H K:=by
 rw[kT X i0 bc,e]
 subst aw;subst hx
 refine⟨rfl,rfl,Og (enc:=aT) (fun _=>⟨rfl,rfl⟩) ys,rfl,(fun row h=>by cases h),by simpa using aA.1,by simpa using aA.2,(fun h=>absurd rfl h),?_⟩
 simpa using h
theorem Yu (bc:Nat) (d:Option Nat) (N:List (Nat×AV)) (s b g q B:Nat) (ws:List av) (ids:List Nat) (x:av) (id:Nat) (H':List (List AV)→List Blk) (aw:ws.length=ids.length)
  (aA:(ws.length+1)*B≤140737488355328∧ws.length+1≤4611686018427387904) (h:evS P esc ops n (X.drop (i0+bc)) (dy d (.ref b (g+1) 0 (ws++[x]).length false) N A) L (H' (aU s (ws++[x]) (ids++[id]))) K)
  (e: ∀K,evS P esc ops n ((X.drop i0).take bc) A L H K=(true=true∧true=true∧(q=q∧0+1≤1∧(wx 5 [mQ s x id]∧0=0∧g=g∧5=5∧(aU s ws ids).length=ws.length∧(ws.length+1)*B≤140737488355328∧ws.length+1≤4611686018427387904∧
   K (dy d (.ref b (g+1) 0 (ws.length+1) false) N A) L (H' (aU s ws ids++[mQ s x id]))))):=by intro K;kernel_rfl):evS P esc ops n (X.drop i0) A L H K:=by
 rw[kT X i0 bc,e]
 refine⟨rfl,rfl,rfl,Nat.le_refl _,?_,rfl,rfl,rfl,xo aw,aA.1,aA.2,?_⟩
 ·intro row aj
  rw[List.mem_singleton.1 aj]
  exact⟨rfl,fun a ar=>List.all_eq_true.1 (show(mQ s x id).all kR=true from rfl) a ar⟩
 ·rw[ae1 aw];rw[List.length_append] at h;exact h
end
section
variable {P:Program} {esc:List Nat} {ops:Array Oper} {n:Nat} {X:List Item} {i0:Nat} {A:List (Nat×AV)} {L:List (Nat×List AV)} {H:List Blk} {K:List (Nat×AV)→List (Nat×List AV)→List Blk→Prop}
theorem pR (bc:Nat) (d:Option Nat) (N:List (Nat×AV)) (rows:List (List AV)) {row:List AV} (i:Int) (t:TypeId) (c g:Nat) (v:AV) (ew:rows[i.toNat]?=some row) (h:evSD P esc ops n (X.drop (i0+bc)) (dy d v N A) L H K)
  (e2: ∀K,ko P t row c K=K v:=by intro K;kernel_rfl)
  (e: ∀K,evSD P esc ops n ((X.drop i0).take bc) A L H K=(g=g∧cV rows[0+i.toNat]? fun row=>ko P t row c fun v=>K (dy d v N A) L H):=by intro K;kernel_rfl):evSD P esc ops n (X.drop i0) A L H K:=by
 rw[nR X i0 bc,e]
 exact⟨rfl,ei (a:=row) (by rw[Nat.zero_add];exact ew) (by rw[e2];exact h)⟩
theorem aar (bc:Nat) (d:Option Nat) (N:List (Nat×AV)) (rows:List (List AV)) {row row':List AV} (i:Int) (c k g:Nat) (cells:List AV) (F:List (List AV)→Prop) (H':List (List AV)→List Blk) (jG:List (List AV)) (ew:rows[i.toNat]?=some row) (oE:rows.set i.toNat row'=jG)
  (dj:F (jG)) (h:evSD P esc ops n (X.drop (i0+bc)) (dy d (.tup []) N A) L (H' jG) K) (hc:Nat.ble (c+k) row.length=true:=by kernel_rfl) (hs:fI row c cells=row':=by kernel_rfl)
  (e: ∀K,evSD P esc ops n ((X.drop i0).take bc) A L H K=(g=g∧cV rows[0+i.toNat]? fun row=>c+k≤row.length∧F ((rows.set (0+i.toNat) (fI row c cells)))∧K (dy d (.tup []) N A) L (H' (rows.set (0+i.toNat) (fI row c cells)))):=by intro K;kernel_rfl):evSD P esc ops n (X.drop i0) A L H K:=by
 rw[nR X i0 bc,e]
 refine⟨rfl,ei (a:=row) (by rw[Nat.zero_add];exact ew) ⟨Nat.le_of_ble_eq_true hc,?_,?_⟩⟩
 ·rw[hs,Nat.zero_add,oE];exact dj
 ·rw[hs,Nat.zero_add,oE];exact h
theorem y3 (bc:Nat) (d:Option Nat) (N:List (Nat×AV)) (bs:List (List Bool)) (id s:Nat) {i:Int} {m:Nat} (hid:id<bs.length) (aA:0≤i∧i.toNat<m) (h:evSD P esc ops n (X.drop (i0+bc)) (dy d (.ptr (id+s) 0 (0+i.toNat) 0) N A) L H K)
  (e: ∀K,evSD P esc ops n ((X.drop i0).take bc) A L H K=(cV (List.map br bs)[id]? fun blk=>blk.bm=0∧blk.sz=1∧0≤i∧i<m∧K (dy d (.ptr (id+s) 0 (0+i.toNat) 0) N A) L H):=by intro K;kernel_rfl):evSD P esc ops n (X.drop i0) A L H K:=by
 rw[nR X i0 bc,e]
 exact ei (sJ hid) ⟨rfl,rfl,aA.1,by have:=aA.2;omega,h⟩
theorem EN (bc:Nat) (d:Option Nat) (N:List (Nat×AV)) (bs:List (List Bool)) (id:Nat) (i:Int) (t:TypeId) (hid:id<bs.length) (hi:i.toNat<(bs.getD id []).length) (h:evSD P esc ops n (X.drop (i0+bc)) (dy d (.bool (nth (bs.getD id []) i)) N A) L H K)
  (e2: ∀x K,ko P t (aT x) 0 K=K (.bool x):=by intro x K;kernel_rfl)
  (e: ∀K,evSD P esc ops n ((X.drop i0).take bc) A L H K=(cV (List.map br bs)[id]? fun blk=>blk.bm=0∧cV blk.rows[0+i.toNat]? fun row=>ko P t row 0 fun v=>K (dy d v N A) L H):=by intro K;kernel_rfl):evSD P esc ops n (X.drop i0) A L H K:=by
 rw[nR X i0 bc,e]
 refine ei (sJ hid) ⟨rfl,ei (a:=aT (nth (bs.getD id []) i)) (by rw[Nat.zero_add];exact CK hi) (by rw[e2];exact h)⟩
theorem aaq (bc:Nat) (d:Option Nat) (N:List (Nat×AV)) (bs:List (List Bool)) (id:Nat) (i:Int) (x:Bool) (F:List Blk→Prop) (H':List Blk→List Blk) (hid:id<bs.length) (hi:i.toNat<(bs.getD id []).length)
  (dj:F ((List.map br (bs.set id ((bs.getD id []).set i.toNat x))))) (h:evSD P esc ops n (X.drop (i0+bc)) (dy d (.tup []) N A) L (H' (List.map br (bs.set id ((bs.getD id []).set i.toNat x)))) K)
  (e: ∀K,evSD P esc ops n ((X.drop i0).take bc) A L H K=(cV (List.map br bs)[id]? fun blk=>blk.bm=0∧cV blk.rows[0+i.toNat]? fun row=>0+1≤row.length∧F (((List.map br bs).set id {blk with rows:=blk.rows.set (0+i.toNat) (fI row 0 [.bool x])}))∧K (dy d (.tup []) N A) L (H' ((List.map br bs).set id {blk with rows:=blk.rows.set (0+i.toNat) (fI row 0 [.bool x])}))):=by intro K;kernel_rfl):evSD P esc ops n (X.drop i0) A L H K:=by
 rw[nR X i0 bc,e]
 have key:(List.map br bs).set id {br (bs.getD id []) with rows:=(br (bs.getD id [])).rows.set (0+i.toNat) (fI (aT (nth (bs.getD id []) i)) 0 [.bool x])}=List.map br (bs.set id ((bs.getD id []).set i.toNat x)):=by
  rw[←Kq]
  congr 1
  show(⟨0,1,(List.map aT (bs.getD id [])).set (0+i.toNat) (aT x)⟩:Blk)=⟨0,1,_⟩
  rw[Nat.zero_add,Jp]
 refine ei (sJ hid) ⟨rfl,ei (a:=aT (nth (bs.getD id []) i)) (by rw[Nat.zero_add];exact CK hi) ⟨Nat.le_refl _,?_,?_⟩⟩
 ·rw[key];exact dj
 ·rw[key];exact h
end
end Go.Proofs.YtejmihecgodhnaaGreat.Fw
