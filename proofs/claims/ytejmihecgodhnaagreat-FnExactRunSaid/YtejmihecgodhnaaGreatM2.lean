/- The framework, part OP: a call that is handed one struct in the memory (or a variable of the caller's) to write into, beside values that stay. -/
import Derived.Test.YtejmihecgodhnaaGreatM1
set_option linter.unusedVariables false
namespace Go.Proofs.YtejmihecgodhnaaGreat.Fw
open Go
def yS:AV→Bool
 | .aP _ full fr=> !full&& !fr
 | a=>kK a
theorem aj7 {a:AV} (h:yS a=true):kK a=true∧kd a=a:=by
 cases a with
 | aP rows full fr=>
  refine⟨rfl,?_⟩
  cases full<;>cases fr<;>first | rfl | cases h
 | _=>first | exact⟨h,rfl⟩
def xG (P:Program) (f:FuncId) (g:Nat) (args:List AV) (an b5:List AV) (t:AV):Prop:=
 c8 P f args [⟨g,an.length,[an]⟩] fun r fs=> ∃B,fs=⟨g,an.length,[b5]⟩::B∧ie (⟨g+1,an.length,[b5]⟩::B) r t
def xE (p q a a0:AV):Prop:=(a=p∧a0=q)∨c6 [] [] a a0
theorem aaJ {E:Env} (ab: ∀c,E.PF c→E.PA c) {a b:AV} (h:gD [] [] a b): ∀{v:Value},b6 E a v→a1 E.w E.PA (fun _=>False) b v:=by
 induction h with
 | undef a=>intro v _;exact .undef v
 | int k n=>intro v hv;have hv:a1 E.w E.PA E.PF (.int k n) v:=hv;cases hv;exact .int _ _
 | bool k=>intro v hv;have hv:a1 E.w E.PA E.PF (.bool k) v:=hv;cases hv;exact .bool _
 | str k=>intro v hv;have hv:a1 E.w E.PA E.PF (.str k) v:=hv;cases hv;exact .str _
 | gH=>intro v hv;have hv:a1 E.w E.PA E.PF .gH v:=hv;cases hv;exact .gH
 | gW=>intro v hv;have hv:a1 E.w E.PA E.PF .gW v:=hv;cases hv;exact .gW
 | aP rows full fr ee hw=>
  intro v hv
  have hv:a1 E.w E.PA E.PF (.aP rows full fr) v:=hv
  cases hv with
  | aP fx fl gw cn dz hrel=>
   exact .aP (fun c hc=>by
    have:=fx c hc
    simp only[Bool.false_eq_true,if_false]
    split at this
    ·exact ab c this
    ·exact this) fl (fun h=>gw (hw h)) cn dz hrel
 | dv cells c=>
  intro v hv
  have hv:a1 E.w E.PA E.PF (.dv cells c) v:=hv
  cases hv with
  | dv hc dz hrel=>exact .dv hc dz hrel
 | fZ az=>cases az
 | ptr hb=>cases hb
 | ref _ hb=>cases hb
 | @fn f caps Dq au ak bp=>
  intro v hv
  obtain⟨vs,rfl,U⟩:=(show ∃vs:List Value,v= .func (.func f) #[] vs.toArray∧ah (ft E) caps vs from hv)
  exact .fn (au▸U.1) fun i b u hb hu=>by
   have aQ:i<caps.length:=by have:=(List.getElem?_eq_some_iff.1 hb).1;omega
   exact bp i _ b (List.getElem?_eq_getElem aQ) hb (KE (U.2 i _ u (List.getElem?_eq_getElem aQ) hu))
theorem aoi {E E1:Env} (ab: ∀c,E.PF c→E.PA c) (hw:E1.w=E.w) (AC:E1.PA=E.PA) {a b:AV} (h:c6 [] [] a b) {v:Value} (hv:V2 E a v):V2 E1 b v:=by
 have up: ∀{b:AV} {v:Value},a1 E.w E.PA (fun _=>False) b v→b6 E1 b v:=fun h=>a1.v1 (E:=E1) (h.mono (fun _ _=>by rw[hw]) (fun _ h=>h.elim) (fun c hc=>by rw[AC];exact hc) (fun _ h=>h.elim))
 rcases h with⟨l,fH,rfl,rfl,U⟩ | h
 ·obtain⟨vs,rfl,ak⟩:=hv
  refine⟨vs,rfl,U.1▸ak.1,fun i x u hx hu=> ?_⟩
  have aQ:i<l.length:=by have:=(List.getElem?_eq_some_iff.1 hx).1;have:=U.1;omega
  have au:=List.getElem?_eq_getElem aQ
  exact up (aaJ ab (U.2 i _ x au hx) (ak.2 i _ u au hu))
 ·by_cases hf: ∃l,a= .agg l
  ·obtain⟨l,rfl⟩:=hf
   cases h with
   | undef=>exact a1.undef v
  ·rw[rb fun l e=>hf ⟨l,e⟩] at hv
   exact mS (up (aaJ ab h hv))
def Env.one (E:Env) (bl g sz cp:Nat):Env:=
 {w:=E.w,PA:=E.PA,PF:=fun _=>False,m:=fun j=>if j=0 then some (some bl) else none,bk:=fun j=>if j=0 then g else 0
  sz:=fun j=>if j=0 then sz else 0,cp:=fun j=>if j=0 then cp else 0,mL:=fun _=>none}
theorem y8 {E:Env} {bl g sz cp j c:Nat} (h:(E.one bl g sz cp).m j=some (some c)):j=0∧c=bl:=by
 have h:(if j=0 then some (some bl) else none)=some (some c):=h
 split at h
 ·rename_i e;cases h;exact⟨e,rfl⟩
 ·cases h
theorem amA {E:Env} {H:List Blk} (aB:SimH E H) {bl g cp:Nat} {an:List AV} {cells:Array Value} {ty:TypeId} (iA:bl<E.w.heap.size) (AC: ¬E.PA bl) (hw:E.w.heap[bl]?=some (.cells cells ty (0,0))) (cn:cells.size=cp*an.length) (h1:1≤cp)
  (hk:an.all yS=true) (ak: ∀(j:Nat) (a:AV),an[j]?=some a→ ∃u,cells[j]?=some u∧b6 E a u):SimH (E.one bl g an.length cp) [⟨g,an.length,[an]⟩] where
 heap:=fun b c hb=>by
  obtain⟨rfl,rfl⟩:=y8 hb
  have eM: ∀{i:Nat} {row:List AV},([an]:List (List AV))[i]?=some row→i=0∧row=an:=fun{i row} h=>by
   cases i with
   | zero=>cases h;exact⟨rfl,rfl⟩
   | succ i=>cases h
  refine⟨⟨g,an.length,[an]⟩,cells,ty,rfl,rfl,hw,cn,h1,fun i row h=> ?_,fun i j row a h ac=> ?_⟩
  ·rw[(eM h).2];rfl
  ·obtain⟨rfl,rfl⟩:=eM h
   obtain⟨u,hu,hv⟩:=ak j a ac
   refine⟨u,by rw[Nat.zero_mul,Nat.zero_add];exact hu,?_⟩
   have ME:=aj7 (List.all_eq_true.1 hk a (List.mem_of_getElem? ac))
   have:=R2 ME.1 (Gz ME.1 hv) (fun c hc=>hc) aB.dU
   rw[ME.2] at this
   exact a1.v1 (E:=(E.one c g row.length cp).bS) this
 ff:=fun b blk hb=>by
  cases b with
  | zero=>cases hb;rfl
  | succ b=>cases hb
 h6:=fun b hb=>by
  have hb:(if b=0 then some (some bl) else none)=some none:=hb
  split at hb<;>cases hb
 fresh:=fun b hb=>by
  have hb:1≤b:=hb
  exact⟨if_neg (by omega),if_neg (by omega)⟩
 gV:=fun b b4 c h1 h2=>by rw[(y8 h1).1,(y8 h2).1]
 kT:=fun t kc c h=>by cases h
 ht:=fun b t c _ h=>by cases h
 iG:=fun c hc ⟨b,hb⟩=>by rw[(y8 hb).2] at hc;exact AC hc
 jv:=fun c _ ⟨t,aO⟩=>by cases aO
 dU:=fun c hc=>hc.elim
 ga:=fun c hc=>hc.elim
 eh:=aB.eh
 gi:=fun c ⟨b,hb⟩=>by rw[(y8 hb).2];exact iA
 hl:=fun c ⟨t,aO⟩=>by cases aO
structure xD (E:Env) (bl k n:Nat) (b5:List AV) (t:AV) (v:Value) (E':Env):Prop where
 m:E'.m=E.m
 mL:E'.mL=E.mL
 bk:E'.bk=E.bk
 sz:E'.sz=E.sz
 cp:E'.cp=E.cp
 gn: ∀c,E.PA c→E'.PA c
 fS: ∀c,E.PF c→E'.PF c
 dU: ∀c,E'.PF c→E'.PA c
 ga: ∀c,E'.PF c→Plain E'.w c
 IZ: ∀c,E'.PA c→E.PA c∨(E.w.heap.size≤c∧c<E'.w.heap.size)
 amR: ∀c,E'.PF c→E.PF c∨E.w.heap.size≤c
 os:E'.w.os=E.w.os
 tape:E'.w.tape=E.w.tape
 output:E'.w.output=E.w.output
 size:E.w.heap.size≤E'.w.heap.size
 cT: ∀c,c<E.w.heap.size→c≠bl→E'.w.heap[c]?=E.w.heap[c]?
 new: ∃cells ty,E'.w.heap[bl]?=some (.cells cells ty (0,0))∧cells.size=k∧b5.length=n∧ ∀(j:Nat) (a:AV),b5[j]?=some a→ ∃u,cells[j]?=some u∧a1 E'.w E'.PA E'.PF a u
 v3:V3 E' t v
theorem P7 {E1 E':Env} {H:List Blk} (hs:SimH E1 H) (hw:E'.w=E1.w) (hu: ∀c,E1.PF c∨E1.fW c→E'.PA c∧E'.PF c) {a b:AV} {u:Value} (h:ie H a b) (hv:V3 E1 a u):V3 E' b u:=by
 have c5: ∀{a b:AV} {u:Value},gT H a b→b6 E1 a u→b6 E' b u:=fun aw pH=>a1.v1 (E:=E') ((aaK hs aw pH).mono (fun _ _=>by rw[hw]) (fun _ _=>by rw[hw]) (fun c hc=>(hu c hc).1) (fun c hc=>(hu c hc).2))
 have dP: ∀{a b:AV} {u:Value},xQ H a b→V2 E1 a u→V2 E' b u:=by
  rintro a b u (⟨l,fH,rfl,rfl,ab⟩ | h) hu
  ·obtain⟨eX,rfl,U⟩:=hu
   refine⟨eX,rfl,ab.1▸U.1,fun i x y hx aU=> ?_⟩
   have aQ:i<l.length:=by have:=(List.getElem?_eq_some_iff.1 hx).1;have:=ab.1;omega
   have au:=List.getElem?_eq_getElem aQ
   exact c5 (ab.2 i _ x au hx) (U.2 i _ y au aU)
  ·have:b6 E1 a u:=by cases h<;>exact hu
   exact mS (c5 h this)
 rcases h with⟨l,fH,rfl,rfl,ab⟩ | h
 ·obtain⟨eX,rfl,U⟩:=hv
  refine⟨eX,rfl,ab.1▸U.1,fun i x y hx aU=> ?_⟩
  have aQ:i<l.length:=by have:=(List.getElem?_eq_some_iff.1 hx).1;have:=ab.1;omega
  have au:=List.getElem?_eq_getElem aQ
  exact dP (ab.2 i _ x au hx) (U.2 i _ y au aU)
 ·have:V2 E1 a u:=by
   rcases h with⟨l,fH,rfl,rfl,ab⟩ | h
   ·exact hv
   ·cases h<;>exact hv
  exact sT (dP h this)
theorem Tg {P:Program} {f:FuncId} {vs:List Value} {E:Env} {H:List Blk} {args eE an b5:List AV} {p t:AV} {bl g cp:Nat} {cells:Array Value} {ty:TypeId} (aB:SimH E H) (iA:bl<E.w.heap.size) (AC: ¬E.PA bl)
  (hw:E.w.heap[bl]?=some (.cells cells ty (0,0))) (cn:cells.size=cp*an.length) (h1:1≤cp) (hk:an.all yS=true) (ak: ∀(j:Nat) (a:AV),an[j]?=some a→ ∃u,cells[j]?=some u∧b6 E a u)
  (aw:ah (V2 E) args vs) (ab: ∀v,V2 E p v→v= .pointer (some ⟨bl,0,none⟩)) (hs:ah (xE p (.ptr 0 g 0 0)) args eE) (lx:b5.all kK=true) (h:xG P f g eE an b5 t):
  Calls P f vs.toArray E.w fun e w'=> ∃v E',e= .returned v∧E'.w=w'∧xD E bl (cp*an.length) an.length b5 t v E':=by
 have yc:ah (V2 (E.one bl g an.length cp)) eE vs:=⟨hs.1▸aw.1,fun i x u hx hu=>by
  have aQ:i<args.length:=by have:=(List.getElem?_eq_some_iff.1 hx).1;have:=hs.1;omega
  have au:=List.getElem?_eq_getElem aQ
  rcases hs.2 i _ x au hx with⟨aN,rfl⟩ | h
  ·have hv:=aw.2 i _ u au hu
   rw[aN] at hv
   rw[ab u hv]
   exact .inr ⟨rfl,bl,rfl,by rw[Nat.zero_mul]⟩
  ·exact aoi (E1:=E.one bl g an.length cp) aB.dU rfl rfl h (aw.2 i _ u au hu)⟩
 refine(h.2 (E.one bl g an.length cp) vs (fun _=>rfl) (amA aB iA AC hw cn h1 hk ak) yc).mono ?_
 rintro e w' ⟨r,v,fs,E1,rfl,⟨B,rfl,MP⟩,rfl,ag,fE,hv,a6⟩
 have az:E1.bk 0=g:=fE.ff 0 _ rfl
 obtain⟨hm,aH,hc⟩:=a6.le.m 0 (some bl) rfl az
 have aH:E1.sz 0=an.length:=aH
 have hc:E1.cp 0=cp:=hc
 obtain⟨blk,Aj,ty2,q1,cG,q2,q3,q4,cQ,c0⟩:=fE.heap 0 bl hm
 cases q1
 have AR: ∀c,E1.PF c∨(∃j,j≠0∧E1.m j=some (some c))→E.w.heap.size≤c∧c<E1.w.heap.size:=by
  rintro c (hc | ⟨j,ac,Hz⟩)
  ·exact⟨(a6.fS c hc).elim (fun h=>h.elim) id,fE.eh c (fE.dU c hc)⟩
  ·refine⟨(a6.qH c ⟨j,Hz⟩).elim (fun⟨b,hb⟩=> ?_) id,fE.gi c ⟨j,Hz⟩⟩
   rw[(y8 hb).2] at Hz
   exact absurd (fE.gV j 0 bl Hz hm) ac
 have oJ: ∀c,c<E.w.heap.size→c≠bl→E1.w.heap[c]?=E.w.heap[c]?:=fun c hc b7=>a6.cT c hc (fun⟨b,hb⟩=>b7 (y8 hb).2) (fun⟨t,aO⟩=>by cases aO)
 have ah_: ∀c,E1.PA c→E.PA c∨(E.w.heap.size≤c∧c<E1.w.heap.size):=fun c hc=>(a6.gn c hc).elim .inl fun h=> .inr ⟨h,fE.eh c hc⟩
 let E':Env:={E with w:=E1.w,PA:=fun c=>E.PA c∨E1.PA c∨(E1.PF c∨ ∃j,j≠0∧E1.m j=some (some c)),PF:=fun c=>E.PF c∨(E1.PF c∨ ∃j,j≠0∧E1.m j=some (some c))}
 let FP:Env:={E1 with m:=fun j=>if j=0 then none else E1.m j,bk:=fun j=>if j=0 then g+1 else E1.bk j}
 have aY: ∀{j:Nat} {x:Option Nat},FP.m j=some x→j≠0∧E1.m j=some x:=fun{j x} h=>by
  have h:(if j=0 then none else E1.m j)=some x:=h
  split at h
  ·cases h
  ·rename_i e;exact⟨e,h⟩
 have DT: ∀{j:Nat},j≠0→FP.bk j=E1.bk j:=fun{j} h=>if_neg h
 have hle:E1.hp FP:=⟨fun _ h=>h,fun _ h=>h,fun _ _=>rfl,fun _ _=>rfl,fun b=>by
   by_cases e:b=0
   ·subst e;show E1.bk 0≤(if 0=0 then g+1 else E1.bk 0);rw[if_pos rfl,az];omega
   ·rw[DT e];exact Nat.le_refl _,fun b x hx tg=>by
   by_cases e:b=0
   ·subst e
    have tg:(if 0=0 then g+1 else E1.bk 0)=E1.bk 0:=tg
    rw[if_pos rfl,az] at tg;omega
   ·exact⟨by show(if b=0 then none else E1.m b)=_;rw[if_neg e];exact hx,rfl,rfl⟩,fun _ _ h=>h⟩
 have mh: ∀{j:Nat} (x y:Blk),j≠0→(x::B)[j]?=(y::B)[j]?:=fun{j} x y ac=>by
  cases j with
  | zero=>exact absurd rfl ac
  | succ j=>rfl
 have HQ:SimH FP (⟨g+1,an.length,[b5]⟩::B):=
  {heap:=fun b c hb=>by
    obtain⟨si,hb⟩:=aY hb
    obtain⟨blk,Ai,ty,c5,fA,dP,eJ,m8,anb,anc⟩:=fE.heap b c hb
    refine⟨blk,Ai,ty,by rw[mh _ ⟨g,an.length,[b5]⟩ si];exact c5,fA,dP,eJ,m8,anb,fun i j row a h1 h2=> ?_⟩
    obtain⟨u,hu,hG⟩:=anc i j row a h1 h2
    exact⟨u,hu,hG.le hle.bS⟩
   ff:=fun b blk hb=>by
    by_cases e:b=0
    ·subst e;cases hb;rfl
    ·rw[DT e];rw[mh _ ⟨g,an.length,[b5]⟩ e] at hb;exact fE.ff b blk hb
   h6:=fun b hb=>by
    obtain⟨si,hb⟩:=aY hb
    obtain⟨blk,c5,dP⟩:=fE.h6 b hb
    exact⟨blk,by rw[mh _ ⟨g,an.length,[b5]⟩ si];exact c5,dP⟩
   fresh:=fun b hb=>by
    have hb:B.length+1≤b:=hb
    have:=fE.fresh b hb
    exact⟨by show(if b=0 then none else E1.m b)=none;rw[if_neg (by omega)];exact this.1,by rw[DT (by omega)];exact this.2⟩
   gV:=fun b b4 c h1 h2=>fE.gV b b4 c (aY h1).2 (aY h2).2
   kT:=fE.kT
   ht:=fun b t c h1 h2=>fE.ht b t c (aY h1).2 h2
   iG:=fun c hc ⟨b,hb⟩=>fE.iG c hc ⟨b,(aY hb).2⟩
   jv:=fE.jv
   dU:=fE.dU
   ga:=fE.ga
   eh:=fE.eh
   gi:=fun c ⟨b,hb⟩=>fE.gi c ⟨b,(aY hb).2⟩
   hl:=fE.hl}
 refine⟨v,E',rfl,rfl,rfl,rfl,rfl,rfl,rfl,fun c hc=> .inl hc,fun c hc=> .inl hc,fun c hc=>hc.elim (fun h=> .inl (aB.dU c h)) (fun h=> .inr (.inr h)),fun c hc=>hc.elim (fun h=>(aB.ga c h).same (oJ c (aB.eh c (aB.dU c h)) (fun e=>by subst e;exact AC (aB.dU _ h)))) (fun h=>h.elim (fE.ga c) fun⟨j,_,ac⟩=>by obtain⟨_,an,ty,_,_,q,_⟩:=fE.heap j c ac;exact⟨an,ty,q⟩),fun c hc=> ?_,fun c hc=>hc.elim .inl (fun h=> .inr (AR c h).1),
  a6.os,a6.tape,a6.output,a6.size,oJ,⟨Aj,ty2,q2,by rw[q3,aH,hc],?_,fun j a ac=> ?_⟩,?_⟩
 ·rcases hc with h | h | h
  ·exact .inl h
  ·exact ah_ c h
  ·exact .inr (AR c h)
 ·have:=cQ 0 b5 rfl
  rw[aH] at this;exact this
 ·obtain⟨u,hu,hG⟩:=c0 0 j b5 a rfl ac
  refine⟨u,by rw[Nat.zero_mul,Nat.zero_add] at hu;exact hu,?_⟩
  have hb:=List.all_eq_true.1 lx a (List.mem_of_getElem? ac)
  exact(Gz hb hG).mono (fun _ _=>rfl) (fun _ _=>rfl) (fun c hc=> .inr (.inl hc)) (fun c hc=> .inr (.inl hc))
 ·refine P7 (E':=E') HQ rfl (fun c hc=> ?_) MP (hv.le hle)
  have:E1.PF c∨ ∃j,j≠0∧E1.m j=some (some c):=hc.elim .inl fun⟨j,ac⟩=> .inr ⟨j,aY ac⟩
  exact⟨.inr (.inr this),.inr this⟩
section
variable {E E':Env} {H:List Blk} {L:List (Nat×List AV)} {bl k n:Nat} {b5:List AV} {t:AV} {v:Value}
theorem xD.step (A:xD E bl k n b5 t v E') (aB:SimH E H) (iA:E.fW bl∨E.l1 bl):Step E E':=
 {le:=⟨A.gn,A.fS,fun c hc=>A.cT c (aB.eh c hc) (fun e=>by subst e;exact iA.elim (aB.iG c hc) (aB.jv c hc)),fun c hc=>A.cT c (aB.eh c (aB.dU c hc)) (fun e=>by subst e;exact iA.elim (aB.iG c (aB.dU c hc)) (aB.jv c (aB.dU c hc))),
   fun b=>by rw[A.bk];exact Nat.le_refl _,fun b x hx _=>by rw[A.m,A.sz,A.cp];exact⟨hx,rfl,rfl⟩,fun t c h=>by rw[A.mL];exact h⟩
  os:=A.os,tape:=A.tape,output:=A.output,size:=A.size
  cT:=fun c hc h1 h2=>A.cT c hc (fun e=>by subst e;exact iA.elim h1 h2)
  kl:=fun b c hb=> .inl (by rw[←A.m];exact hb)
  kR:=fun c ⟨t,aO⟩=> .inl ⟨t,by rw[←A.mL];exact aO⟩
  gn:=fun c hc=>(A.IZ c hc).elim .inl fun h=> .inr h.1
  fS:=A.amR}
theorem xD.simH (A:xD E bl k n b5 t v E') (aB:SimH E H) (iA:E.fW bl∨E.l1 bl) {H':List Blk} (hlen:H'.length=H.length) (az: ∀(b:Nat) (x:Blk),H'[b]?=some x→ ∃y,H[b]?=some y∧x.bk=y.bk) (hs: ∀(b:Nat) (y:Blk),H[b]?=some y→ ∃x,H'[b]?=some x∧x.sz=y.sz)
  (hb: ∀b c,E.m b=some (some c)→(c≠bl∧H'[b]?=H[b]?)∨ ∃blk an ty,H'[b]?=some blk∧E.sz b=blk.sz∧E'.w.heap[c]?=some (.cells an ty (0,0))∧an.size=E.cp b*E.sz b∧blk.rows.length≤E.cp b∧zX E' (E.sz b) blk.rows an):SimH E' H':=by
 have a6:=A.step aB iA
 have sq: ∀c,E'.fW c→E.fW c:=fun c ⟨b,hb⟩=>⟨b,by rw[←A.m];exact hb⟩
 have Nc: ∀c,E'.l1 c→E.l1 c:=fun c ⟨b,hb⟩=>⟨b,by rw[←A.mL];exact hb⟩
 have lz:=aB.gi
 have lA:=aB.hl
 exact{
  heap:=fun b c h=>by
   rw[A.m] at h
   rw[A.sz,A.cp]
   rcases hb b c h with⟨b7,he⟩ | h
   ·obtain⟨blk,an,ty,q1,cG,q2,q3,q4,cQ,c0⟩:=aB.heap b c h
    refine⟨blk,an,ty,by rw[he];exact q1,cG,by rw[A.cT c (lz c ⟨b,h⟩) b7];exact q2,q3,q4,cQ,fun i j row a h1 h2=> ?_⟩
    obtain⟨u,hu,hG⟩:=c0 i j row a h1 h2
    exact⟨u,hu,hG.le a6.le.bS⟩
   ·exact h
  ff:=fun b blk h=>by
   rw[A.bk]
   obtain⟨y,h1,h2⟩:=az b blk h
   rw[h2];exact aB.ff b y h1
  h6:=fun b h=>by
   rw[A.m] at h
   obtain⟨y,h1,h2⟩:=aB.h6 b h
   obtain⟨x,aC,bg⟩:=hs b y h1
   exact⟨x,aC,by rw[A.sz,bg];exact h2⟩
  fresh:=fun b h=>by rw[A.m,A.bk];exact aB.fresh b (by rw[←hlen];exact h)
  gV:=fun b b4 c h1 h2=>by rw[A.m] at h1 h2;exact aB.gV b b4 c h1 h2
  kT:=fun t kc c h1 h2=>by rw[A.mL] at h1 h2;exact aB.kT t kc c h1 h2
  ht:=fun b t c h1 h2=>by rw[A.m] at h1;rw[A.mL] at h2;exact aB.ht b t c h1 h2
  iG:=fun c hc hi=>(A.IZ c hc).elim (fun h=>aB.iG c h (sq c hi)) (fun h=>absurd (lz c (sq c hi)) (by omega))
  jv:=fun c hc hi=>(A.IZ c hc).elim (fun h=>aB.jv c h (Nc c hi)) (fun h=>absurd (lA c (Nc c hi)) (by omega))
  dU:=A.dU
  ga:=A.ga
  eh:=fun c hc=>(A.IZ c hc).elim (fun h=>Nat.lt_of_lt_of_le (aB.eh c h) A.size) (fun h=>h.2)
  gi:=fun c hc=>Nat.lt_of_lt_of_le (lz c (sq c hc)) A.size
  hl:=fun c hc=>Nat.lt_of_lt_of_le (lA c (Nc c hc)) A.size}
theorem xD.row (A:xD E bl k n b5 t v E') (hk:b5.all kK=true) {cells:Array Value} {ty:TypeId} (hw:E'.w.heap[bl]?=some (.cells cells ty (0,0))):b5.length=n∧cells.size=k∧ ∀(j:Nat) (a:AV),b5[j]?=some a→ ∃u,cells[j]?=some u∧b6 E'.bS a u:=by
 obtain⟨bu,ty2,q1,q2,q3,q4⟩:=A.new
 rw[hw] at q1
 cases q1
 refine⟨q3,q2,fun j a ac=> ?_⟩
 obtain⟨u,hu,ak⟩:=q4 j a ac
 exact⟨u,hu,a1.v1 (E:=E'.bS) ak⟩
end
theorem aer {P:Program} {f:FuncId} {vs:List Value} {E:Env} {H:List Blk} {L:List (Nat×List AV)} {args eE an b5:List AV} {t:AV} {b g:Nat} (aB:SimH E H) (bB:SimL E L) (hb:H[b]?=some ⟨g,an.length,[an]⟩) (hk:an.all yS=true) (lx:b5.all kK=true)
  (aw:ah (V2 E) args vs) (hm:AV.ptr b g 0 0∈args) (hs:ah (xE (.ptr b g 0 0) (.ptr 0 g 0 0)) args eE) (h:xG P f g eE an b5 t):
  Calls P f vs.toArray E.w fun e w'=> ∃v E',e= .returned v∧E'.w=w'∧Step E E'∧SimH E' (H.set b ⟨g,an.length,[b5]⟩)∧SimL E' L∧V3 E' t v∧E'.mL=E.mL:=by
 have lv:=aB.ff b _ hb
 have oL: ∀v,V2 E (.ptr b g 0 0) v→ ∃bl,E.m b=some (some bl)∧v= .pointer (some ⟨bl,0,none⟩):=fun v hv=>by
  obtain⟨bl,hm,rfl⟩:=V3.I4 (E:=E) (v:=v) (show V3 E (.ptr b g 0 0) v from hv) lv
  exact⟨bl,hm,by rw[Nat.zero_mul]⟩
 obtain⟨i,hi,he⟩:=List.mem_iff_getElem.1 hm
 have eI:i<vs.length:=aw.1▸hi
 have iB:=aw.2 i _ _ (List.getElem?_eq_getElem hi) (List.getElem?_eq_getElem eI)
 rw[he] at iB
 obtain⟨bl,lX,_⟩:=oL _ iB
 obtain⟨blk,cells,ty,q1,cG,q2,q3,q4,cQ⟩:=aB.heap b bl lX
 rw[hb] at q1
 cases q1
 have cG:E.sz b=an.length:=cG
 have iA:bl<E.w.heap.size:=aB.gi bl ⟨b,lX⟩
 refine(Tg (bl:=bl) (cp:=E.cp b) aB iA (fun h=>aB.iG bl h ⟨b,lX⟩) q2 (by rw[q3,cG]) q4 hk (fun j a ac=> ?_) aw (fun v hv=> ?_) hs lx h).mono ?_
 ·obtain⟨u,hu,hG⟩:=cQ.2 0 j an a rfl ac
  exact⟨u,by rw[Nat.zero_mul,Nat.zero_add] at hu;exact hu,hG.up⟩
 ·obtain⟨ad6,h1,rfl⟩:=oL v hv
  rw[lX] at h1;cases h1;rfl
 rintro e w' ⟨v,E',rfl,rfl,A⟩
 have uS:E.fW bl∨E.l1 bl:= .inl ⟨b,lX⟩
 have a6:=A.step aB uS
 refine⟨v,E',rfl,rfl,a6,A.simH aB uS (by rw[List.length_set]) (fun j x hx=> ?_) (fun j y aU=> ?_) (fun j c ac=> ?_),fun u c hu=> ?_,A.v3,A.mL⟩
 ·rw[List.getElem?_set] at hx
  split at hx
  ·rename_i e;subst e
   split at hx
   ·cases hx;exact⟨_,hb,rfl⟩
   ·cases hx
  ·exact⟨x,hx,rfl⟩
 ·rw[List.getElem?_set]
  split
  ·rename_i e;subst e
   rw[hb] at aU;cases aU
   rw[if_pos (List.getElem?_eq_some_iff.1 hb).1];exact⟨_,rfl,rfl⟩
  ·exact⟨y,aU,rfl⟩
 ·by_cases e:j=b
  ·subst e
   rw[lX] at ac
   cases ac
   obtain⟨bu,ty2,c5,dP,eJ,m8⟩:=A.new
   obtain⟨s1,s2,o6⟩:=A.row lx c5
   refine .inr ⟨⟨g,an.length,[b5]⟩,bu,ty2,by rw[List.getElem?_set,if_pos rfl,if_pos (List.getElem?_eq_some_iff.1 hb).1],cG,c5,by rw[dP,cG],q4,fun i row ak=> ?_,fun i j row a ak ac=> ?_⟩
   ·cases i with
    | zero=>cases ak;rw[cG];exact s1
    | succ i=>cases ak
   ·cases i with
    | zero=>
     cases ak
     obtain⟨u,hu,hG⟩:=o6 j a ac
     exact⟨u,by rw[Nat.zero_mul,Nat.zero_add];exact hu,hG⟩
    | succ i=>cases ak
  ·refine .inl ⟨fun h=>e ?_,by rw[List.getElem?_set,if_neg (fun h=>e h.symm)]⟩
   subst h;exact aB.gV j b c ac lX
 ·rw[A.mL] at hu
  obtain⟨Ai,bu,ty2,c5,dP,eJ⟩:=bB u c hu
  exact⟨Ai,bu,ty2,c5,by rw[A.cT c (aB.hl c ⟨u,hu⟩) (fun e=>by subst e;exact aB.ht b u c lX hu)];exact dP,eJ.mono fun _ _ k=>k.le a6.le.bS⟩
theorem aes {P:Program} {f:FuncId} {vs:List Value} {E:Env} {H:List Blk} {L:List (Nat×List AV)} {args eE an b5:List AV} {t:AV} {x:Nat} (aB:SimH E H) (bB:SimL E L) (hx:eV L x=some an) (hk:an.all yS=true) (lx:b5.all kK=true)
  (aw:ah (V2 E) args vs) (hm:AV.fZ x 0∈args) (hs:ah (xE (.fZ x 0) (.ptr 0 0 0 0)) args eE) (h:xG P f 0 eE an b5 t):
  Calls P f vs.toArray E.w fun e w'=> ∃v E',e= .returned v∧E'.w=w'∧Step E E'∧SimH E' H∧SimL E' (mH L x b5)∧V3 E' t v∧E'.mL=E.mL:=by
 have oL: ∀v,V2 E (.fZ x 0) v→ ∃bl,E.mL x=some bl∧v= .pointer (some ⟨bl,0,none⟩):=fun v hv=>hv
 obtain⟨i,hi,he⟩:=List.mem_iff_getElem.1 hm
 have eI:i<vs.length:=aw.1▸hi
 have iB:=aw.2 i _ _ (List.getElem?_eq_getElem hi) (List.getElem?_eq_getElem eI)
 rw[he] at iB
 obtain⟨bl,lX,_⟩:=oL _ iB
 obtain⟨Ai,cells,ty,q1,q2,q3⟩:=bB x bl lX
 rw[hx] at q1
 cases q1
 have iA:bl<E.w.heap.size:=aB.hl bl ⟨x,lX⟩
 have cn:cells.size=1*an.length:=by rw[Nat.one_mul];exact q3.1.symm
 refine(Tg (bl:=bl) (cp:=1) aB iA (fun h=>aB.jv bl h ⟨x,lX⟩) q2 cn (Nat.le_refl _) hk (fun j a ac=> ?_) aw (fun v hv=> ?_) hs lx h).mono ?_
 ·obtain⟨u,hu,hG⟩:=q3.get ac
  exact⟨u,by rw[Array.getElem?_toList] at hu;exact hu,hG.up⟩
 ·obtain⟨ad6,h1,rfl⟩:=oL v hv
  rw[lX] at h1;cases h1;rfl
 rintro e w' ⟨v,E',rfl,rfl,A⟩
 have uS:E.fW bl∨E.l1 bl:= .inr ⟨x,lX⟩
 have a6:=A.step aB uS
 refine⟨v,E',rfl,rfl,a6,A.simH aB uS rfl (fun j y aU=>⟨y,aU,rfl⟩) (fun j y aU=>⟨y,aU,rfl⟩) (fun j c ac=> .inl ⟨fun e=>by subst e;exact aB.ht j x c ac lX,rfl⟩),fun u c hu=> ?_,A.v3,A.mL⟩
 rw[A.mL] at hu
 rw[DD]
 by_cases e:u=x
 ·subst e
  rw[lX] at hu
  cases hu
  obtain⟨bu,ty2,c5,dP,eJ,m8⟩:=A.new
  obtain⟨s1,s2,o6⟩:=A.row lx c5
  rw[if_pos rfl,hx]
  refine⟨b5,bu,ty2,rfl,c5,by show b5.length=bu.size;rw[s1,s2,Nat.one_mul],fun j a v ac hv=> ?_⟩
  obtain⟨aru,pH,hG⟩:=o6 j a ac
  rw[Array.getElem?_toList,pH] at hv
  cases hv;exact hG
 ·rw[if_neg e]
  obtain⟨bz,bu,ty2,c5,dP,eJ⟩:=bB u c hu
  exact⟨bz,bu,ty2,c5,by rw[A.cT c (aB.hl c ⟨u,hu⟩) (fun h=>by subst h;exact e (aB.kT u x c hu lX))];exact dP,eJ.mono fun _ _ k=>k.le a6.le.bS⟩
def Tf (P:Program) (f:FuncId) (args:List AV) (L:List (Nat×List AV)) (H:List Blk) (K:qY Prop):Prop:=
 ∃eE an b5 t,an.all yS=true∧b5.all kK=true∧
  ((∃b g,H[b]?=some ⟨g,an.length,[an]⟩∧AV.ptr b g 0 0∈args∧ah (xE (.ptr b g 0 0) (.ptr 0 g 0 0)) args eE∧xG P f g eE an b5 t∧K t L (H.set b ⟨g,an.length,[b5]⟩))∨
   ∃x,eV L x=some an∧AV.fZ x 0∈args∧ah (xE (.fZ x 0) (.ptr 0 0 0 0)) args eE∧xG P f 0 eE an b5 t∧K t (mH L x b5) H)
theorem aeq {P:Program} {f:FuncId} {args:List AV} {L:List (Nat×List AV)} {H:List Blk} {E:Env} {vs:List Value} {K:AV→List (Nat×List AV)→List Blk→Prop} (aB:SimH E H) (bB:SimL E L) (aw:ah (V2 E) args vs) (h:Tf P f args L H K):
  wY P f=true∧Calls P f vs.toArray E.w fun e w'=> ∃v u L' H' E',e= .returned u∧K v L' H'∧E'.w=w'∧Step E E'∧SimH E' H'∧SimL E' L'∧V3 E' v u∧E'.mL=E.mL:=by
 obtain⟨eE,an,b5,t,hk,lx,⟨b,g,hb,hm,hs,hf,hK⟩ | ⟨x,hx,hm,hs,hf,hK⟩⟩:=h
 ·refine⟨hf.1,(aer aB bB hb hk lx aw hm hs hf).mono ?_⟩
  rintro e w' ⟨v,E',rfl,rfl,h1,h2,aC,bg,ch⟩
  exact⟨t,v,L,_,E',rfl,hK,rfl,h1,h2,aC,bg,ch⟩
 ·refine⟨hf.1,(aes aB bB hx hk lx aw hm hs hf).mono ?_⟩
  rintro e w' ⟨v,E',rfl,rfl,h1,h2,aC,bg,ch⟩
  exact⟨t,v,_,H,E',rfl,hK,rfl,h1,h2,aC,bg,ch⟩
def aen (P:Program) (f:FuncId) (args:List AV) (L:List (Nat×List AV)) (H:List Blk) (K:qY Prop):Prop:=
 args.all e_=true∧ ∃eE,ah (c6 L H) args eE∧c8 P f eE [] fun r fs=>BI r=true∧w0 fs=true∧K (oh H.length r) L (H++fs.map (ir H.length))
def ael (P:Program) (f:FuncId) (args:List AV) (L:List (Nat×List AV)) (H:List Blk) (K:qY Prop):Prop:=
 args.all e_=true∧args.all lF=true∧c8 P f args H fun r H'=>Bz r=true∧K r L H'
def mU (P:Program) (f:FuncId) (args:List AV) (L:List (Nat×List AV)) (H:List Blk) (K:qY Prop):Prop:=
 rh P f args L H (fun r=>K r L H)∨aen P f args L H K∨ael P f args L H K∨(args.all e_=true∧Tf P f args L H K)
def TQ (P:Program) (c:Call) (bF:Operand→AV) (L:List (Nat×List AV)) (H:List Blk) (K:qY Prop):Prop:=match c.callee with
 | .builtin .len=>LI P c bF L H fun r=>K r L H
 | .builtin .append=>(match c.args.toList,c.argTypes.toList with
  | [s,x],[t,t2]=>e_ (bF s)=true∧e_ (bF x)=true∧xW P t t2 (bF s) (bF x) L H K
  | _,_=>False)
 | .value f=>nr (bF f) fun g caps=>mU P g (c.args.toList.map bF++caps) L H K
 | _=>False
def lr (P:Program) (esc:List Nat) (o:Oper) (bF:Operand→AV) (L:List (Nat×List AV)) (H:List Blk) (K:qY Prop):Prop:=match o.op with
 | .store t a v=>fa (e_ (bF v)) (nM P t (bF a) (bF v) L H fun L' H'=>K (.tup []) L' H')
 | .alloc e=>cZ (pi P e) fun z=>y4 esc o.dst z L H K
 | .box e x=>fa (e_ (bF x)) (y4 esc o.dst (fC (bF x)) L H K)
 | .makeSlice t l c=>Bv P t (bF l) (bF c) L H K
 | .buildSlice t n ps=>fa (ps.toList.all fun p=>e_ (bF p.2)) (xZ P (x8 esc o.dst) (zj esc) t n (ps.toList.map fun p=>(p.1,bF p.2)) L H K)
 | .call c=>TQ P c bF L H K
 | _=>vZ P o bF L H fun r=>K r L H
theorem Gd {E:Env} {a:AV} {v:Value} (h:e_ a=true) (hv:V3 E a v):V2 E a v:=by
 rwa [rc (BA h)] at hv
theorem aeo {P:Program} {f:FuncId} {args:List AV} {L:List (Nat×List AV)} {H:List Blk} {E:Env} {vs:List Value} {K:AV→List (Nat×List AV)→List Blk→Prop} (aB:SimH E H) (bB:SimL E L)
  (aw:ah (V2 E) args vs) (h:mU P f args L H K):
  wY P f=true∧Calls P f vs.toArray E.w fun e w'=> ∃v u L' H' E',e= .returned u∧K v L' H'∧E'.w=w'∧Step E E'∧SimH E' H'∧SimL E' L'∧V3 E' v u∧E'.mL=E.mL:=by
 rcases h with⟨ag,eE,t,hs,sk,hK⟩ | ⟨ag,eE,hs,sk⟩ | ⟨ag,au,sk⟩ | ⟨ag,ab⟩
 ·refine⟨sk.1,(Th (Sub.refl L H) aB bB aw hs sk).mono ?_⟩
  rintro e w' ⟨v,E',rfl,rfl,U,hv⟩
  exact⟨t,v,L,H,E',rfl,hK,rfl,U.step,U.simH aB,U.simL aB bB,hv,U.mL⟩
 ·refine⟨sk.1,(aep (Q:=fun r fs=>K (oh H.length r) L (H++fs.map (ir H.length))) aB bB aw hs sk).mono ?_⟩
  rintro e w' ⟨r,v,fs,E',rfl,hK,rfl,a6,h1,h2,hv,hml⟩
  exact⟨_,v,L,_,E',rfl,hK,rfl,a6,h1,h2,hv,hml⟩
 ·refine⟨sk.1,(aem (Q:=fun r H'=>K r L H') aB bB aw au sk).mono ?_⟩
  rintro e w' ⟨r,v,H',E',rfl,hK,rfl,a6,h1,h2,hv,hml⟩
  exact⟨_,v,L,_,E',rfl,hK,rfl,a6,h1,h2,hv,hml⟩
 ·exact aeq aB bB aw ab
theorem aek {P:Program} {f:FuncId} {args:List AV} {L:List (Nat×List AV)} {H:List Blk} {K:AV→List (Nat×List AV)→List Blk→Prop} (h:mU P f args L H K):args.all e_=true:=by
 rcases h with⟨ag,_⟩ | ⟨ag,_⟩ | ⟨ag,_⟩ | ⟨ag,_⟩<;>exact ag
set_option maxHeartbeats 1000000 in
theorem evOp_sound {P:Program} {esc:List Nat} {o:Oper} {a:Act} {T:List AV} {E:Env} {L:List (Nat×List AV)} {H:List Blk} {K:AV→List (Nat×List AV)→List Blk→Prop} {Q:Exit→Act→World→Prop}
  (cd: ∀t,V3 E (T.getD t .undef) (a.tmps.getD t undef)) (aB:SimH E H) (bB:SimL E L) (h:lr P esc o (ci T) L H K):o.wp P a E.w (Ka E o a K) Q:=by
 have fin: ∀{s:Sem Value},(execOp a.eval o=(do pure (Next.value (←s))))→(∃v L' H' E' u,K v L' H'∧s.run P E.w= .ok u E'.w∧Step E E'∧SimH E' H'∧SimL E' L'∧V3 E' v u∧ ∀t,o.dst≠some t→E'.mL t=E.mL t)→o.wp P a E.w (Ka E o a K) Q:=by
  rintro s hs ⟨v,L',H',E',u,hK,ak,h1,h2,aC,bg,ch⟩
  unfold Oper.wp
  rw[hs]
  exact R4 ak ⟨v,u,L',H',E',hK,rfl,h1,h2,aC,bg,rfl,ch⟩
 have ZP:vZ P o (ci T) L H (fun r=>K r L H)→o.wp P a E.w (Ka E o a K) Q:=fun h=>
  Oper.wp_mono (fun hB w' ⟨v,u,E',hK,hw,U,hv,aw⟩=>⟨v,u,L,H,E',hK,hw,U.step,U.simH aB,U.simL aB bB,hv,aw,fun t _=>by rw[U.mL]⟩) (T0 cd (Sub.refl L H) aB bB h)
 obtain⟨dst,op,ty,pos,after,guard⟩:=o
 cases op with
 | store t x v=>
  obtain⟨ag,h⟩:=sv (show fa (e_ (ci T v)) (nM P t (ci T x) (ci T v) L H fun L' H'=>K (.tup []) L' H') from h)
  obtain⟨L',H',E',hK,ak,h1,h2,aC,hml⟩:=apJ aB bB (opv_rel cd x) (Gd ag (opv_rel cd v)) h
  unfold Oper.wp
  have:(execOp a.eval ⟨dst,.store t x v,ty,pos,after,guard⟩).run P E.w= .ok .skip E'.w:=by
   simp only[execOp,Sem.run_bind,ak,Sem.run_pure,Result.andThen_ok]
  rw[this]
  exact⟨.tup [],_,L',H',E',hK,rfl,h1,h2,aC,⟨[],rfl,ah.nil⟩,rfl,fun t _=>by rw[hml]⟩
 | alloc e=>
  obtain⟨z,aH,h⟩:=f_ (show cZ (pi P e) fun z=>y4 esc dst z L H K from h)
  obtain⟨i,v,q1,q2,q3,q4⟩:=zL (E:=E) aH
  obtain⟨r,L',H',E',hK,hw,h1,h2,aC,bg,hml⟩:=YO (ty:=e) aB bB q4 h
  refine fin (s:=Instr.alloc e true (.tuple #[])) rfl ⟨r,L',H',E',_,hK,?_,h1,h2,aC,bg,hml⟩
  rw[hw]
  simp[Instr.alloc,zeroValue,typeInfo,q1,q2,newVar,newRow]
 | box e x=>
  obtain⟨ag,h⟩:=sv (show fa (e_ (ci T x)) (y4 esc dst (fC (ci T x)) L H K) from h)
  have hs:(fC (ci T x)).all kb=true:=by
   unfold y4 at h;split at h
   ·rename_i q;exact q
   ·exact h.elim
  obtain⟨r,L',H',E',hK,hw,h1,h2,aC,bg,hml⟩:=YO (ty:=e) aB bB (K6 (Gd ag (opv_rel cd x)) hs) h
  refine fin (s:=Instr.box e (a.eval x)) rfl ⟨r,L',H',E',_,hK,?_,h1,h2,aC,bg,hml⟩
  rw[hw]
  simp[Instr.box,newVar,newRow]
 | makeSlice t l c=>
  obtain⟨v,L',H',E',u,hK,ak,h1,h2,aC,bg,hml⟩:=ami aB bB (opv_rel cd l) (opv_rel cd c) (show Bv P t (ci T l) (ci T c) L H K from h)
  exact fin (s:=Instr.makeSlice t (a.eval l) (a.eval c)) rfl ⟨v,L',H',E',u,hK,ak,h1,h2,aC,bg,fun t _=>by rw[hml]⟩
 | buildSlice t n ps=>
  obtain⟨ag,h⟩:=sv (show fa (ps.toList.all fun p=>e_ (ci T p.2)) (xZ P (x8 esc dst) (zj esc) t n (ps.toList.map fun p=>(p.1,ci T p.2)) L H K) from h)
  obtain⟨v,u,L',H',E',hK,ak,h1,h2,aC,bg,hml⟩:=ad8 aB bB (O6 cd ps.toList fun p ab=>BA (List.all_eq_true.1 ag p ab)) h
  exact fin (s:=Instr.buildSlice t n (ps.toList.map fun p=>(p.1,a.eval p.2)).toArray) (by rw[parts_eq];rfl) ⟨v,L',H',E',u,hK,ak,h1,h2,aC,bg,fun t _=>by rw[hml]⟩
 | call c=>
  have h:TQ P c (ci T) L H K:=h
  obtain⟨callee,args,argTypes⟩:=c
  cases callee with
  | builtin b=>
   cases b with
   | len=>exact ZP h
   | append=>
    have h:(match args.toList,argTypes.toList with
     | [s,x],[t,t2]=>e_ (ci T s)=true∧e_ (ci T x)=true∧xW P t t2 (ci T s) (ci T x) L H K
     | _,_=>False):=h
    split at h
    ·rename_i s x t t2 h1 h2
     obtain rfl:args= #[s,x]:=by rw[←Array.toArray_toList (xs:=args),h1]
     obtain rfl:argTypes= #[t,t2]:=by rw[←Array.toArray_toList (xs:=argTypes),h2]
     obtain⟨dG,n2,h⟩:=h
     obtain⟨r,u,H',E',hK,ak,q1,q2,q3,q4,hml⟩:=adP (ty:=ty) aB bB (Gd dG (opv_rel cd s)) (Gd n2 (opv_rel cd x)) h
     unfold Oper.wp
     have:(execOp a.eval ⟨dst,.call ⟨.builtin .append,#[s,x],#[t,t2]⟩,ty,pos,after,guard⟩).run P E.w= .ok (.value u) E'.w:=by
      simp only[execOp,resolve,Sem.run_bind,Sem.run_pure,Result.andThen_ok,invoke,builtin]
      have e:Array.map a.eval #[s,x]= #[a.eval s,a.eval x]:=by simp
      rw[e,ak];rfl
     rw[this]
     exact⟨r,u,L,H',E',hK,rfl,q1,q2,q3,q4,rfl,fun t _=>by rw[hml]⟩
    ·exact h.elim
   | _=>exact h.elim
  | value f=>
   have h:nr (ci T f) fun g caps=>mU P g (args.toList.map (ci T)++caps) L H K:=h
   cases hf:ci T f with
   | fn g caps=>
    rw[hf] at h
    have h:mU P g (args.toList.map (ci T)++caps) L H K:=h
    have ag:=aek h
    obtain⟨vs,he,yi⟩:=Ti cd hf
    have Mj:ah (V2 E) (args.toList.map (ci T)++caps) (args.toList.map a.eval++vs):=
     ah.append (SV cd args.toList fun x hx=>BA (List.all_eq_true.1 ag _ (by simp;exact .inl ⟨x,by simpa using hx,rfl⟩))) yi
    obtain⟨gk,hc⟩:=aeo aB bB Mj h
    unfold Oper.wp
    rw[show execOp a.eval ⟨dst,.call ⟨.value f,args,argTypes⟩,ty,pos,after,guard⟩=(do let d ←resolve a.eval ⟨.value f,args,argTypes⟩ ty;invoke d.target d.args) from rfl]
    rw[aac (P:=P) (ty:=ty) (w:=E.w) (c:=⟨.value f,args,argTypes⟩) rfl he gk]
    refine hc.mono ?_
    rintro e w' ⟨v,u,L',H',E',rfl,hK,rfl,q1,q2,q3,q4,hml⟩
    exact⟨v,u,L',H',E',hK,rfl,q1,q2,q3,q4,rfl,fun t _=>by rw[hml]⟩
   | _=>rw[hf] at h;exact h.elim
  | _=>exact h.elim
 | _=>exact ZP h
def r7 (lit:Bool) (b:Bool) (x y:Prop):Prop:=match lit with
 | true=>(match b with
  | true=>x
  | false=>y)
 | false=>Dk b x y
theorem Gy {lit b:Bool} {x y:Prop} (h:r7 lit b x y):(b=true→x)∧(b=false→y):=by
 cases lit with
 | false=>exact h
 | true=>cases b<;>exact⟨fun e=>by cases e<;>exact h,fun e=>by cases e<;>exact h⟩
def putA (T:List AV) (dst:Option Nat) (v:AV):List AV:=match dst with
 | some d=>T.set d v
 | none=>T
def qu (ops:Array Oper) (lit:Bool) (o:Oper) (T:List AV) (x y:List AV→Prop):Prop:=match o.guard with
 | none=>x T
 | some (j,dR)=>match(ops[j]?).bind (·.dst) with
  | none=>False
  | some t=>match T.getD t .undef with
   | .bool b=>r7 lit b (if dR=true then x (T.set t (.bool true)) else y (T.set t (.bool true))) (if dR=true then y (T.set t (.bool false)) else x (T.set t (.bool false)))
   | .tup []=>y T
   | _=>False
def ze (lit:Bool) (o:Oper) (T:List AV) (K:AV→Prop) (GX:Prop):Prop:=match o.op with
 | .pick c x y=>rf (ci T c) fun z=>r7 lit z (K (ci T x)) (K (ci T y))
 | _=>GX
def evOps (P:Program) (esc:List Nat) (ops:Array Oper):List (Oper×Bool)→List AV→List (Nat×List AV)→List Blk→(List AV→List (Nat×List AV)→List Blk→Prop)→Prop
 | [],T,L,H,K=>K T L H
 | (o,lit)::rest,T,L,H,K=>qu ops lit o T
   (fun T=>ze lit o T (fun v=>evOps P esc ops rest (putA T o.dst v) L H K) (lr P esc o (ci T) L H fun v L' H'=>evOps P esc ops rest (putA T o.dst v) L' H' K))
   (fun T=>evOps P esc ops rest (putA T o.dst (.tup [])) L H K)
theorem uJ {T:List AV} {d t:Nat} {v:AV}:(T.set d v).getD t .undef=if d=t∧d<T.length then v else T.getD t .undef:=by
 rw[List.getD_eq_getElem?_getD,List.getD_eq_getElem?_getD,List.getElem?_set]
 by_cases h:d=t
 ·subst h
  by_cases au:d<T.length
  ·simp[au]
  ·simp[au]
 ·simp[h]
theorem aaE {E:Env} {T:List AV} {a:Act} (cd: ∀t,V3 E (T.getD t .undef) (a.tmps.getD t undef)) (hs:T.length=a.tmps.size) {dst:Option Nat} {v:AV} {u:Value} (hv:V3 E v u):
  (∀t,V3 E ((putA T dst v).getD t .undef) ((a.put dst u).tmps.getD t undef))∧(putA T dst v).length=(a.put dst u).tmps.size:=by
 cases dst with
 | none=>exact⟨cd,hs⟩
 | some d=>
  refine⟨fun t=> ?_,by simp[putA,Act.put,hs]⟩
  show V3 E ((T.set d v).getD t .undef) ((a.tmps.setIfInBounds d u).getD t undef)
  rw[uJ,Array.getD_eq_getD_getElem?,Array.getElem?_setIfInBounds]
  by_cases h:d=t
  ·subst h
   by_cases au:d<T.length
   ·have HD:d<a.tmps.size:=hs▸au
    simp[au,HD];exact hv
   ·have HD: ¬d<a.tmps.size:=hs▸au
    have:=cd d
    rw[Array.getD_eq_getD_getElem?] at this
    simp[au,HD] at this ⊢
    exact this
  ·have:=cd t
   rw[Array.getD_eq_getD_getElem?] at this
   simp[h];exact this
theorem aof {E:Env} {T:List AV} {a:Act} (cd: ∀t,V3 E (T.getD t .undef) (a.tmps.getD t undef)) {t:Nat} {b:Bool} (h:T.getD t .undef= .bool b):
  ∀s,V3 E ((T.set t (.bool b)).getD s .undef) (a.tmps.getD s undef):=fun s=>by
 rw[uJ]
 by_cases hs:t=s∧t<T.length
 ·rw[if_pos hs,←h,hs.1];exact cd s
 ·rw[if_neg hs];exact cd s
theorem aqB {ops:Array Oper} {a:Act} {T:List AV} {E:Env} (cd: ∀t,V3 E (T.getD t .undef) (a.tmps.getD t undef)) {j t:Nat} {b:Bool} (ac:(ops[j]?).bind (·.dst)=some t) (h:T.getD t .undef= .bool b) (hs:T.length=a.tmps.size):
  yielded ops a.tmps j=some b:=by
 have hv:=cd t
 rw[h] at hv
 have he:a.tmps.getD t undef= .bool b:=V3.qm hv
 unfold yielded
 rw[ac]
 rw[Array.getD_eq_getD_getElem?] at he
 cases U:a.tmps[t]? with
 | none=>rw[U] at he;cases he
 | some x=>rw[U] at he;have:x= .bool b:=he;subst this;simp[U]
theorem aqC {ops:Array Oper} {a:Act} {T:List AV} {E:Env} (cd: ∀t,V3 E (T.getD t .undef) (a.tmps.getD t undef)) {j t:Nat} (ac:(ops[j]?).bind (·.dst)=some t) (h:T.getD t .undef= .tup []):
  yielded ops a.tmps j=none:=by
 have hv:=cd t
 rw[h] at hv
 obtain⟨vs,he,ab⟩:=(show ∃vs:List Value,a.tmps.getD t undef= .tuple vs.toArray∧ah (V2 E) [] vs from hv)
 obtain rfl:=ab.pT
 unfold yielded
 rw[ac]
 rw[Array.getD_eq_getD_getElem?] at he
 cases U:a.tmps[t]? with
 | none=>simp[U]
 | some x=>rw[U] at he;have:x= .tuple #[]:=he;subst this;simp[U]
theorem agD {P:Program} {ops:Array Oper} {lit:Bool} {o:Oper} {a:Act} {T:List AV} {E:Env} {w:World} {x y:List AV→Prop} {R:Prop}
  (cd: ∀t,V3 E (T.getD t .undef) (a.tmps.getD t undef)) (hs:T.length=a.tmps.size) (h:qu ops lit o T x y)
  (uh: ∀T',Region.wanted o (yielded ops a.tmps)=true→(∀t,V3 E (T'.getD t .undef) (a.tmps.getD t undef))→T'.length=a.tmps.size→x T'→R)
  (no: ∀T',Region.wanted o (yielded ops a.tmps)=false→(∀t,V3 E (T'.getD t .undef) (a.tmps.getD t undef))→T'.length=a.tmps.size→y T'→R):R:=by
 unfold qu at h
 cases az:o.guard with
 | none=>rw[az] at h;exact uh T (by simp[Region.wanted,az]) cd hs h
 | some g=>
  obtain⟨j,dR⟩:=g
  rw[az] at h
  simp only at h
  cases ac:(ops[j]?).bind (·.dst) with
  | none=>rw[ac] at h;exact h.elim
  | some t=>
   rw[ac] at h
   simp only at h
   split at h
   ·rename_i b hb
    have aU:=aqB (ops:=ops) cd ac hb hs
    have hk:=aof cd hb
    obtain⟨h1,h2⟩:=Gy h
    cases b with
    | true=>
     have h:=h1 rfl
     cases dR with
     | true=>exact uh _ (by simp[Region.wanted,az,aU]) hk (by simpa using hs) h
     | false=>exact no _ (by simp[Region.wanted,az,aU]) hk (by simpa using hs) h
    | false=>
     have h:=h2 rfl
     cases dR with
     | true=>exact no _ (by simp[Region.wanted,az,aU]) hk (by simpa using hs) h
     | false=>exact uh _ (by simp[Region.wanted,az,aU]) hk (by simpa using hs) h
   ·rename_i hb
    have aU:=aqC (ops:=ops) cd ac hb
    exact no T (by simp[Region.wanted,az,aU]) cd hs h
   ·exact h.elim
theorem G5 [cL] {P:Program} {esc:List Nat} {ops:Array Oper} {Q:Exit→St→Prop} {cj:Env}: ∀(l:List (Oper×Bool)) (T:List AV) (L:List (Nat×List AV)) (H:List Blk) (E:Env) (a:Act),
  Good cj E→xP E ⟨T,L,H⟩ a.tmps→a.defers=[]→evOps P esc ops l T L H (fun T L H=>Q .normal ⟨T,L,H⟩)→wpList P ops (pr cj Q) (l.map (·.1)) a E.w
 | [],T,L,H,E,a,az,hs,aY,h=>⟨rfl,⟨T,L,H⟩,E,h,rfl,az,hs,aY⟩
 | (o,lit)::rest,T,L,H,E,a,az,hs,aY,h=>by
  have cd: ∀t,V3 E (T.getD t .undef) (a.tmps.getD t undef):=hs.jD
  show if Region.wanted o (yielded ops a.tmps) then o.wp P a E.w (wpList P ops (pr cj Q) (rest.map (·.1))) (pr cj Q)∨_ else wpList P ops (pr cj Q) (rest.map (·.1)) (a.put o.dst undef) E.w
  refine agD (P:=P) (w:=E.w) cd hs.size h (fun T' hw hT' ny h'=> ?_) (fun T' hw hT' ny h'=> ?_)
  ·rw[if_pos hw]
   refine .inl ?_
   have next: ∀(v:AV) (u:Value) (L':List (Nat×List AV)) (H':List Blk) (E':Env),Step E E'→SimH E' H'→SimL E' L'→V3 E' v u→evOps P esc ops rest (putA T' o.dst v) L' H' (fun T L H=>Q .normal ⟨T,L,H⟩)→
     wpList P ops (pr cj Q) (rest.map (·.1)) (a.put o.dst u) E'.w:=fun v u L' H' E' q1 q2 q3 q4 hK=>by
    obtain⟨c5,dP⟩:=aaE (fun t=>(hT' t).le q1.le) ny (dst:=o.dst) q4
    refine G5 rest _ _ _ E' (a.put o.dst u) (az.step q1) ⟨q2,q3,c5,dP⟩ ?_ hK
    cases o.dst<;>exact aY
   have bk:(lr P esc o (ci T') L H fun v L' H'=>evOps P esc ops rest (putA T' o.dst v) L' H' (fun T L H=>Q .normal ⟨T,L,H⟩))→o.wp P a E.w (wpList P ops (pr cj Q) (rest.map (·.1))) (pr cj Q):=fun h'=>
    Oper.wp_mono (fun hB w' ⟨v,u,L',H',E',hK,e3,q1,q2,q3,q4,aw,_⟩=>by
     subst aw;subst e3
     exact next v u L' H' E' q1 q2 q3 q4 hK) (evOp_sound hT' hs.h hs.l h')
   unfold ze at h'
   split at h'
   ·rename_i c x y gx
    obtain⟨b,hb,bt⟩:=Gm h'
    obtain⟨h1,h2⟩:=Gy bt
    have hv:=opv_rel hT' c
    rw[hb] at hv
    have he:a.eval c= .bool b:=V3.qm hv
    unfold Oper.wp
    have hx: ∀z,(z=if b=true then a.eval x else a.eval y)→(execOp a.eval o).run P E.w= .ok (.value z) E.w:=fun z aH=>by
     subst aH
     simp only[execOp,gx,he,asBool,Sem.run_bind,Sem.run_pure,Result.andThen_ok]
    cases b with
    | true=>rw[hx (a.eval x) rfl];exact next _ _ L H E (Step.refl E) hs.h hs.l (opv_rel hT' x) (h1 rfl)
    | false=>rw[hx (a.eval y) rfl];exact next _ _ L H E (Step.refl E) hs.h hs.l (opv_rel hT' y) (h2 rfl)
   ·exact bk h'
  ·rw[hw]
   show wpList P ops (pr cj Q) (rest.map (·.1)) (a.put o.dst undef) E.w
   obtain⟨c5,dP⟩:=aaE (a:=a) hT' ny (dst:=o.dst) (v:= .tup []) (u:=undef) ⟨[],rfl,ah.nil⟩
   refine G5 rest (putA T' o.dst (.tup [])) L H E (a.put o.dst undef) az ⟨hs.h,hs.l,c5,dP⟩ ?_ h'
   cases o.dst<;>exact aY
def lits (ops:Array Oper) (ko:List Nat):List (Oper×Bool):=ops.toList.zipIdx.map fun p=>(p.1,ko.contains p.2)
theorem alT (ops:Array Oper) (ko:List Nat):(lits ops ko).map (·.1)=ops.toList:=by
 unfold lits
 rw[List.map_map]
 apply List.ext_getElem?
 intro i
 simp only[List.getElem?_map,List.getElem?_zipIdx]
 cases ops.toList[i]?<;>rfl
theorem WpS.region [cL] {P:Program} {esc:List Nat} {ko:List Nat} {id:Nat} {ops:Array Oper} {Q:Exit→St→Prop} {ar:St} (h:evOps P esc ops (lits ops ko) ar.T ar.L ar.H (fun T L H=>Q .normal ⟨T,L,H⟩)):WpS P (.region id ops false) Q ar:=fun cj E a g s d=>by
 refine wp_region_list ?_
 have:=G5 (lits ops ko) ar.T ar.L ar.H E a g s d h
 rwa [alT] at this
def y2 (c3:List Nat):AV→Bool
 | .fZ t _=> !c3.contains t
 | _=>true
def wN (c3:List Nat):AV→Bool
 | .fn _ caps=>caps.all (y2 c3)
 | a=>y2 c3 a
def wO (c3:List Nat):AV→Bool
 | .agg l=>l.all (wN c3)
 | a=>wN c3 a
def rB (c3:List Nat):AV→Bool
 | .tup l=>l.all (wO c3)
 | a=>wO c3 a
def Env.drop (E:Env) (c3:List Nat):Env:={E with mL:=fun t=>if c3.contains t=true then none else E.mL t}
section
variable {E:Env} {c3:List Nat}
theorem ft.drop {a:AV} {v:Value} (h:y2 c3 a=true) (hv:ft E a v):ft (E.drop c3) a v:=by
 cases a with
 | fZ t c=>
  obtain⟨bl,hm,e⟩:=hv
  have:c3.contains t=false:=by simpa[y2] using h
  exact⟨bl,by show(if c3.contains t=true then none else E.mL t)=_;rw[if_neg (by rw[this];simp)];exact hm,e⟩
 | _=>exact hv
theorem b6.drop {a:AV} {v:Value} (h:wN c3 a=true) (hv:b6 E a v):b6 (E.drop c3) a v:=by
 by_cases hf: ∃f caps,a= .fn f caps
 ·obtain⟨f,caps,rfl⟩:=hf
  obtain⟨vs,e,ab⟩:=hv
  exact⟨vs,e,ab.1,fun i x y hx aU=>(ab.2 i x y hx aU).drop (List.all_eq_true.1 (show caps.all (y2 c3)=true from h) x (List.mem_of_getElem? hx))⟩
 ·have aA:wN c3 a=y2 c3 a:=by cases a<;>first | rfl | exact absurd ⟨_,_,rfl⟩ hf
  rw[sS fun f c e=>hf ⟨f,c,e⟩] at hv ⊢
  exact hv.drop (aA▸h)
theorem V2.drop {a:AV} {v:Value} (h:wO c3 a=true) (hv:V2 E a v):V2 (E.drop c3) a v:=by
 by_cases hf: ∃l,a= .agg l
 ·obtain⟨l,rfl⟩:=hf
  obtain⟨vs,e,ab⟩:=hv
  exact⟨vs,e,ab.1,fun i x y hx aU=>(ab.2 i x y hx aU).drop (List.all_eq_true.1 (show l.all (wN c3)=true from h) x (List.mem_of_getElem? hx))⟩
 ·have aA:wO c3 a=wN c3 a:=by cases a<;>first | rfl | exact absurd ⟨_,rfl⟩ hf
  rw[rb fun l e=>hf ⟨l,e⟩] at hv ⊢
  exact hv.drop (aA▸h)
theorem V3.drop {a:AV} {v:Value} (h:rB c3 a=true) (hv:V3 E a v):V3 (E.drop c3) a v:=by
 by_cases hf: ∃l,a= .tup l
 ·obtain⟨l,rfl⟩:=hf
  obtain⟨vs,e,ab⟩:=hv
  exact⟨vs,e,ab.1,fun i x y hx aU=>(ab.2 i x y hx aU).drop (List.all_eq_true.1 (show l.all (wO c3)=true from h) x (List.mem_of_getElem? hx))⟩
 ·have aA:rB c3 a=wO c3 a:=by cases a<;>first | rfl | exact absurd ⟨_,rfl⟩ hf
  rw[rc fun l e=>hf ⟨l,e⟩] at hv ⊢
  exact hv.drop (aA▸h)
end
def qq (c3:List Nat) (L:List (Nat×List AV)):List (Nat×List AV):=match L with
 | []=>[]
 | (k,c)::L=>match c3.contains k with
  | true=>qq c3 L
  | false=>(k,c)::qq c3 L
theorem GP {c3:List Nat}: ∀(L:List (Nat×List AV)) (t:Nat),c3.contains t=false→eV (qq c3 L) t=eV L t
 | [],t,h=>rfl
 | (k,c)::L,t,h=>by
  unfold qq
  split
  ·rename_i hk
   have:t≠k:=fun e=>by subst e;rw[h] at hk;cases hk
   rw[GP L t h];simp[eV,this]
  ·simp only[eV];rw[GP L t h]
theorem Weak.qq [cL] (c3:List Nat) {T:List AV} {L:List (Nat×List AV)} {H:List Blk} (h:T.all (rB c3)=true):Weak ⟨T,L,H⟩ ⟨T,qq c3 L,H⟩:=fun cj E tmps g s=>by
 have hm: ∀t c,(E.drop c3).mL t=some c→c3.contains t=false∧E.mL t=some c:=by
  intro t c hc
  have hc:(if c3.contains t=true then none else E.mL t)=some c:=hc
  split at hc
  ·cases hc
  ·rename_i q;exact⟨by simpa using q,hc⟩
 have hi: ∀c,(E.drop c3).l1 c→E.l1 c:=fun c ⟨t,aO⟩=>⟨t,(hm t c aO).2⟩
 have h9:SimH E H:=s.h
 refine⟨E.drop c3,rfl,?_,?_,?_,fun t=> ?_,s.size⟩
 ·exact{g with
   le:={g.le with mL:=fun t c hc=>by rw[g.bS t] at hc;cases hc}
   kR:=fun c hc=>g.kR c (hi c hc)}
 ·exact{h9 with
   heap:=h9.heap
   kT:=fun t kc c h1 h2=>h9.kT t kc c (hm t c h1).2 (hm kc c h2).2
   ht:=fun b t c h1 h2=>h9.ht b t c h1 (hm t c h2).2
   jv:=fun c hc hx=>h9.jv c hc (hi c hx)
   hl:=fun c hx=>h9.hl c (hi c hx)}
 ·intro t c hc
  obtain⟨h1,h2⟩:=hm t c hc
  obtain⟨cells,an,ty,q1,q2,q3⟩:=s.l t c h2
  exact⟨cells,an,ty,by show eV (Fw.qq c3 L) t=_;rw[GP L t h1];exact q1,q2,q3⟩
 ·show V3 (E.drop c3) (T.getD t .undef) _
  refine(s.jD t).drop ?_
  show rB c3 (T.getD t .undef)=true
  rw[List.getD_eq_getElem?_getD]
  cases U:T[t]? with
  | none=>rfl
  | some a=>exact List.all_eq_true.1 h a (List.mem_of_getElem? U)
def vb:AV→Bool
 | .aP [] true _=>true
 | _=>false
theorem afo {E:Env} {a:AV} {v:Value} (h:vb a=true) (hv:ft E a v): ∃A,v= .slice A 0 0:=by
 have key: ∀rows full fr,a= .aP rows full fr→rows=[]→full=true→ ∃A,v= .slice A 0 0:=by
  intro rows full fr e ak hf
  subst e
  have hv:a1 E.w E.PA E.PF (.aP rows full fr) v:=hv
  cases hv with
  | @aP _ _ PB _ _ _ A cap sz vs fx fl gw cn dz hrel=>
   refine⟨A,?_⟩
   rw[gw hf,ak];rfl
 unfold vb at h
 split at h
 ·exact key _ _ _ rfl rfl rfl
 ·cases h
theorem LA {E E':Env} {a:AV} {v:Value} {b:Nat} (h:vb a=true) (hv:b6 E a v) (az:E'.bk b=0) (hm:E'.m b=some none):b6 E' (.ref b 0 0 0 false) v:=by
 have iB:ft E a v:=by
  rwa [sS] at hv
  rintro f c rfl;cases h
 obtain⟨A,rfl⟩:=afo h iB
 exact .inr ⟨az.symm,.inl ⟨hm,rfl,rfl,A,rfl⟩⟩
theorem Weak.adH [cL] (i sz:Nat) {T:List AV} {L:List (Nat×List AV)} {H:List Blk} (h:vb (T.getD i .undef)=true):Weak ⟨T,L,H⟩ ⟨T.set i (.ref H.length 0 0 0 false),L,H++[⟨0,sz,[]⟩]⟩:=fun cj E tmps g s=>by
 obtain⟨E',hw,a6,h1,h2,aC,bg,_⟩:=IN (blk:=⟨0,sz,[]⟩) s.h s.l rfl rfl
 refine⟨E',hw,g.step a6,h1,h2,fun t=> ?_,by simpa using s.size⟩
 show V3 E' ((T.set i _).getD t .undef) _
 rw[uJ]
 split
 ·rename_i U
  obtain⟨rfl,_⟩:=U
  have hv:=s.jD i
  have mq:b6 E (T.getD i .undef) (tmps.getD i undef):=by
   have hv:V3 E (T.getD i .undef) (tmps.getD i undef):=hv
   rw[rc,rb] at hv
   ·exact hv
   ·intro l e;rw[e] at h;cases h
   ·intro l e;rw[e] at h;cases h
  exact sT (mS (LA h mq aC bg))
 ·exact(s.jD t).le a6.le
theorem Weak.xU [cL] (t i sz:Nat) {T:List AV} {L:List (Nat×List AV)} {H:List Blk} {cells:List AV} (hc:eV L t=some cells) (h:vb (cells.getD i .undef)=true):
  Weak ⟨T,L,H⟩ ⟨T,mH L t (cells.set i (.ref H.length 0 0 0 false)),H++[⟨0,sz,[]⟩]⟩:=fun cj E tmps g s=>by
 obtain⟨E',hw,a6,h1,h2,aC,bg,ch,cy⟩:=IN (blk:=⟨0,sz,[]⟩) s.h s.l rfl rfl
 refine⟨E',hw,g.step a6,h1,?_,fun t=>(s.jD t).le a6.le,s.size⟩
 intro u c hm
 obtain⟨hD,an,ty,q1,q2,q3⟩:=h2 u c hm
 show ∃K4 an ty,eV (mH L t _) u=some K4∧_
 rw[DD]
 by_cases hu:u=t
 ·subst hu
  rw[if_pos rfl]
  have EV:eV L u=some hD:=q1
  rw[hc] at EV
  cases EV
  refine⟨_,an,ty,by rw[hc];rfl,q2,by simpa using q3.1,fun j x v hx hv=> ?_⟩
  rw[List.getElem?_set] at hx
  split at hx
  ·rename_i nY
   subst nY
   split at hx
   ·rename_i aQ
    cases hx
    have az:=List.getElem?_eq_getElem aQ
    have:cells.getD i .undef=cells[i]:=by rw[List.getD_eq_getElem?_getD,az];rfl
    have mq:=q3.2 i _ v az hv
    rw[this] at h
    exact LA (E:=E'.bS) h mq aC bg
   ·cases hx
  ·exact q3.2 j x v hx hv
 ·rw[if_neg hu]
  exact⟨hD,an,ty,q1,q2,q3⟩
structure c9 where
 bh:Int
 bi:Int
 deriving Inhabited,DecidableEq
structure Way where
 ao:List Int
 bI:List c9
 cR:List c9
 di:List Int
 ek:List Int
 deriving Inhabited,DecidableEq
structure aL where
 ao:Int
 a7:List Int
 O:List Way
 bG:List (List Bool)
 cB:Int
 deriving Inhabited,DecidableEq
structure Event where
 op:Int
 aG:Int
 bi:Int
 deriving Inhabited,DecidableEq
structure bL where
 dR:Int
 bI:Int
 deriving Inhabited,DecidableEq
structure av where
 aF:Int
 bc:Int
 ae:List Bool
 bW:Bool
 bU:Int
 deriving Inhabited,DecidableEq
structure Frame where
 ok:Bool
 aE:List Bool
 ay:List bL
 O:List av
 deriving Inhabited,DecidableEq
structure fj where
 code:Int
 frame:Frame
 deriving Inhabited,DecidableEq
structure rZ where
 code:Int
 pos:Int
 deriving Inhabited,DecidableEq
structure sR where
 O:List Int
 ao:List Int
 ay:List Int
 deriving Inhabited,DecidableEq
structure lj where
 code:List UInt8
 pos:Int
 E6:Int
 deriving Inhabited
def cx (n:Int):List AV:=[.int .i64 n]
def GU (n:UInt8):List AV:=[.int .u8 n.toNat]
def aR (b:Bool):List AV:=[.bool b]
def Lz (s:ByteArray):List AV:=[.str s]
def hq {α:Type} (e:α→List AV) (fr:Bool) (xs:List α):List AV:=[.aP (xs.map e) false fr]
def dd (x:c9):List AV:=[.int .i64 x.bh,.int .i64 x.bi]
def dj (fr:Bool) (x:Way):List AV:=[.aP (x.ao.map cx) false fr,.aP (x.bI.map dd) false fr,.aP (x.cR.map dd) false fr,.aP (x.di.map cx) false fr,.aP (x.ek.map cx) false fr]
def bD (fr:Bool) (x:aL):List AV:=[.int .i64 x.ao,.aP (x.a7.map cx) false fr,.aP (x.O.map (dj false)) false fr,.aP (x.bG.map (hq aR false)) false fr,.int .i64 x.cB]
def dL (x:Event):List AV:=[.int .i64 x.op,.int .i64 x.aG,.int .i64 x.bi]
def ba (x:bL):List AV:=[.int .i64 x.dR,.int .i64 x.bI]
def gE (fr:Bool) (x:av):List AV:=[.int .i64 x.aF,.int .i64 x.bc,.aP (x.ae.map aR) false fr,.bool x.bW,.int .i64 x.bU]
def cq (fr:Bool) (x:Frame):List AV:=[.bool x.ok,.aP (x.aE.map aR) false fr,.aP (x.ay.map ba) false fr,.aP (x.O.map (gE false)) false fr]
def iy (fr:Bool) (x:fj):List AV:=[.int .i64 x.code,.bool x.frame.ok,.aP (x.frame.aE.map aR) false fr,.aP (x.frame.ay.map ba) false fr,.aP (x.frame.O.map (gE false)) false fr]
def Lx (x:rZ):List AV:=[.int .i64 x.code,.int .i64 x.pos]
def afk (fr:Bool) (x:lj):List AV:=[.aP (x.code.map GU) false fr,.int .i64 x.pos,.int .u64 x.E6]
def GS (fr:Bool) (x:sR):List AV:=[.aP (x.O.map cx) false fr,.aP (x.ao.map cx) false fr,.aP (x.ay.map cx) false fr]
def nth {α:Type} [Inhabited α] (xs:List α) (i:Int):α:=xs.getD i.toNat default
theorem hT {α:Type} [Inhabited α] {xs:List α} {i:Int} (h:i.toNat<xs.length):xs[i.toNat]?=some (nth xs i):=by
 unfold nth
 rw[List.getD_eq_getElem?_getD,List.getElem?_eq_getElem h];rfl
def wT:Code→List Nat→Code
 | c,[]=>c
 | .seq x y,n::p=>match n with
  | 0=>wT x p
  | _=>wT y p
 | .cond _ x y,n::p=>match n with
  | 0=>wT x p
  | _=>wT y p
 | .block _ x,_::p=>wT x p
 | .loop x,_::p=>wT x p
 | .scope x,_::p=>wT x p
 | c,_=>c
def jK (f:Func):Code:=f.body.getD .skip
theorem WpS.seq' [cL] {P:Program} {c x y:Code} {Q:Exit→St→Prop} {ar:St} (e:c= .seq x y) (h:WpS P x (ef P y Q) ar):WpS P c Q ar:=e▸WpS.seq h
theorem WpS.aeS [cL] {P:Program} {c x y:Code} {o:Operand} {Q:Exit→St→Prop} {ar:St} {b:Bool} (e:c= .cond o x y) (hb:ci ar.T o= .bool b) (h1:b=true→WpS P x Q ar) (h2:b=false→WpS P y Q ar):WpS P c Q ar:=
 e▸WpS.cond (by rw[hb];exact⟨h1,h2⟩)
theorem WpS.S7 [cL] {P:Program} {c x:Code} {id:Nat} {Q:Exit→St→Prop} {ar:St} (e:c= .block id x) (h:WpS P x (cc id Q) ar):WpS P c Q ar:=e▸WpS.block h
theorem WpS.anW [cL] {P:Program} {c:Code} {Q:Exit→St→Prop} {ar:St} (e:c= .skip) (h:Q .normal ar):WpS P c Q ar:=e▸WpS.skip h
theorem WpS.anq [cL] {P:Program} {c:Code} {Q:Exit→St→Prop} {ar:St} (e:c= .ret) (h:Q .ret ar):WpS P c Q ar:=e▸WpS.ret h
theorem WpS.afB [cL] {P:Program} {c:Code} {id:Nat} {Q:Exit→St→Prop} {ar:St} (e:c= .exit id) (h:Q (.exit id) ar):WpS P c Q ar:=e▸WpS.exit h
theorem WpS.al0 [cL] {P:Program} {c x:Code} {Q:Exit→St→Prop} {ar:St} {V:Type} (S:V→St) (I:V→Prop) (m:V→Nat) (e:c= .loop x) (v0:V) (hs:Weak ar (S v0)) (aA:I v0)
  (round: ∀v,I v→WpS P x (fun ex s=>match ex with
   | .normal=> ∃ea,I ea∧m ea<m v∧Weak s (S ea)
   | ex=>Q ex s) (S v)):WpS P c Q ar:=by
 subst e
 refine WpS.nQ (WpS.loop (fun n s=> ∃v,I v∧s=S v∧n=m v) (m v0) ⟨v0,aA,rfl,rfl⟩ ?_) hs
 rintro n s ⟨v,hv,rfl,rfl⟩
 refine WpS.mono (round v hv) fun ex s U=> ?_
 cases ex with
 | normal=>
  obtain⟨ea,h1,h2,aC⟩:=U
  exact⟨m ea,S ea,h2,aC,ea,h1,rfl,rfl⟩
 | _=>exact U
theorem ef.normal [cL] {P:Program} {y:Code} {Q:Exit→St→Prop} {s:St} (h:WpS P y Q s):ef P y Q .normal s:=h
theorem ef.ret [cL] {P:Program} {y:Code} {Q:Exit→St→Prop} {s:St} (h:Q .ret s):ef P y Q .ret s:=h
theorem ef.exit [cL] {P:Program} {y:Code} {Q:Exit→St→Prop} {s:St} {id:Nat} (h:Q (.exit id) s):ef P y Q (.exit id) s:=h
theorem cc.normal {id:Nat} {Q:Exit→St→Prop} {s:St} (h:Q .normal s):cc id Q .normal s:=h
theorem cc.ret {id:Nat} {Q:Exit→St→Prop} {s:St} (h:Q .ret s):cc id Q .ret s:=h
theorem cc.here {id:Nat} {Q:Exit→St→Prop} {s:St} (h:Q .normal s):cc id Q (.exit id) s:=by
 show(if id=id then _ else _);rw[if_pos rfl];exact h
theorem cc.there {id gm:Nat} {Q:Exit→St→Prop} {s:St} (b7:gm≠id) (h:Q (.exit gm) s):cc id Q (.exit gm) s:=by
 show(if gm=id then _ else _);rw[if_neg b7];exact h
theorem c6.iH {L:List (Nat×List AV)} {H:List Blk} {a b:AV} (h:gD L H a b):c6 L H a b:= .inr h
theorem c6.agg {L:List (Nat×List AV)} {H:List Blk} {l fH:List AV} (h:ah (gD L H) l fH):c6 L H (.agg l) (.agg fH):= .inl ⟨l,fH,rfl,rfl,h⟩
theorem ie.iH {H:List Blk} {a b:AV} (h:gT H a b):ie H a b:= .inr (.inr h)
theorem ie.agg {H:List Blk} {l fH:List AV} (h:ah (gT H) l fH):ie H (.agg l) (.agg fH):= .inr (.inl ⟨l,fH,rfl,rfl,h⟩)
theorem WpS.start [cL] {P:Program} {c:Code} {Q:Exit→St→Prop} {ar mM:St} (e:ar=mM) (h:WpS P c Q mM):WpS P c Q ar:=e▸h
def b_ [cL] (S:St) (ψ:Prop) (Q:Exit→St→Prop) (ex:Exit) (s:St):Prop:=match ex with
 | .normal=>ψ∧Weak s S
 | ex=>Q ex s
theorem WpS.B2 [cL] {P:Program} {c x y:Code} {Q:Exit→St→Prop} {ar:St} (S:St) {ψ:Prop} (e:c= .seq x y) (h:WpS P x (b_ S ψ Q) ar) (U:ψ→WpS P y Q S):WpS P c Q ar:=by
 subst e
 refine WpS.seq (WpS.mono h fun ex s hs=> ?_)
 cases ex with
 | normal=>exact WpS.nQ (U hs.1) hs.2
 | _=>exact hs
theorem b_.normal [cL] {S s:St} {ψ:Prop} {Q:Exit→St→Prop} (ab:ψ) (h:Weak s S):b_ S ψ Q .normal s:=⟨ab,h⟩
theorem b_.ret [cL] {S s:St} {ψ:Prop} {Q:Exit→St→Prop} (h:Q .ret s):b_ S ψ Q .ret s:=h
theorem b_.exit [cL] {S s:St} {ψ:Prop} {Q:Exit→St→Prop} {id:Nat} (h:Q (.exit id) s):b_ S ψ Q (.exit id) s:=h
def ed [cL] {V:Type} (S:V→St) (I:V→Prop) (m:V→Nat) (v:V) (Q:Exit→St→Prop) (ex:Exit) (s:St):Prop:=match ex with
 | .normal=> ∃ea,I ea∧m ea<m v∧Weak s (S ea)
 | ex=>Q ex s
theorem WpS.Yt [cL] {P:Program} {c x:Code} {Q:Exit→St→Prop} {ar:St} {V:Type} (S:V→St) (I:V→Prop) (m:V→Nat) (e:c= .loop x) (v0:V) (hs:Weak ar (S v0)) (aA:I v0)
  (round: ∀v,I v→WpS P x (ed S I m v Q) (S v)):WpS P c Q ar:=
 WpS.al0 S I m e v0 hs aA fun v hv=>WpS.mono (round v hv) fun ex s h=>by
  cases ex<;>exact h
theorem ed.again [cL] {V:Type} {S:V→St} {I:V→Prop} {m:V→Nat} {v:V} {Q:Exit→St→Prop} {s:St} (ea:V) (h:I ea∧m ea<m v) (hw:Weak s (S ea)):ed S I m v Q .normal s:=⟨ea,h.1,h.2,hw⟩
theorem ed.ret [cL] {V:Type} {S:V→St} {I:V→Prop} {m:V→Nat} {v:V} {Q:Exit→St→Prop} {s:St} (h:Q .ret s):ed S I m v Q .ret s:=h
theorem ed.exit [cL] {V:Type} {S:V→St} {I:V→Prop} {m:V→Nat} {v:V} {Q:Exit→St→Prop} {s:St} {id:Nat} (h:Q (.exit id) s):ed S I m v Q (.exit id) s:=h
@[irreducible] def bQ (c:Code) (n:Nat):Code:=wT c ((List.range (Nat.log2 n)).map fun i=>(n>>>i)%2).reverse
def j_ (c:Code) (n:Nat):Array Oper:=match bQ c n with
 | .region _ ops _=>ops
 | _=> #[]
theorem hX [cL] {s s' s'':St} (h:Weak s s') (e:s'=s''):Weak s s'':=e▸h
def l_ (H:List Blk) (c d:List AV):Prop:=c.length=d.length∧ ∀(j:Nat) (a b:AV),c[j]?=some a→d[j]?=some b→gT H a a∧b=kd a
theorem aog {H:List Blk} {α:Type} {eT eF:α→List AV} {b:Nat} {g sz:Nat} {full:Bool} {xs:List α} (hb:H[b]?=some ⟨g,sz,List.map eT xs⟩) (ag:xs.length≤4611686018427387904) (hc: ∀x,l_ H (eT x) (eF x)):
  gT H (.ref b g 0 xs.length full) (.aP (List.map eF xs) false true):=by
 refine gT.ref (fun h=>by cases h) (fun i j=>((xs[i]?).bind fun x=>(eT x)[j]?).getD .undef) hb rfl (by rw[List.length_map]) ag (by simp) (fun i row row' h1 h2=> ?_) (fun i j row a hi h1 h2=> ?_) (fun i j row' c h1 h2=> ?_)
 ·have h1:(List.map eT xs)[0+i]?=some row:=h1
  rw[Nat.zero_add,List.getElem?_map] at h1
  rw[List.getElem?_map] at h2
  cases hx:xs[i]? with
  | none=>rw[hx] at h1;cases h1
  | some x=>rw[hx] at h1 h2;cases h1;cases h2;exact(hc x).1
 ·have h1:(List.map eT xs)[0+i]?=some row:=h1
  rw[Nat.zero_add,List.getElem?_map] at h1
  cases hx:xs[i]? with
  | none=>rw[hx] at h1;cases h1
  | some x=>
   rw[hx] at h1;cases h1
   show gT H a (((some x).bind fun x=>(eT x)[j]?).getD .undef)
   have ac:(eT x)[j]?=some a:=h2
   have he:((some x).bind fun x=>(eT x)[j]?).getD .undef=a:=by
    show((eT x)[j]?).getD .undef=a
    rw[ac];rfl
   rw[he]
   have aQ:j<(eF x).length:=by rw[←(hc x).1];exact(List.getElem?_eq_some_iff.1 ac).1
   exact((hc x).2 j a _ ac (List.getElem?_eq_getElem aQ)).1
 ·rw[List.getElem?_map] at h1
  cases hx:xs[i]? with
  | none=>rw[hx] at h1;cases h1
  | some x=>
   rw[hx] at h1;cases h1
   show c=kd (((some x).bind fun x=>(eT x)[j]?).getD .undef)
   have aQ:j<(eT x).length:=by rw[(hc x).1];exact(List.getElem?_eq_some_iff.1 h2).1
   have ac:=List.getElem?_eq_getElem aQ
   have he:((some x).bind fun x=>(eT x)[j]?).getD .undef=(eT x)[j]:=by
    show((eT x)[j]?).getD .undef=_
    rw[ac];rfl
   rw[he]
   exact((hc x).2 j _ c ac h2).2
theorem l_.nil {H:List Blk}:l_ H [] []:=⟨rfl,fun j a b h=>by simp at h⟩
theorem l_.cons {H:List Blk} {a b:AV} {c d:List AV} (h1:gT H a a) (h2:b=kd a) (h:l_ H c d):l_ H (a::c) (b::d):=
 ⟨by simp[h.1],fun j x y hx aU=>by
  cases j with
  | zero=>simp at hx aU;subst hx;subst aU;exact⟨h1,h2⟩
  | succ j=>exact h.2 j x y (by simpa using hx) (by simpa using aU)⟩
theorem aeg {H:List Blk} (n:Int):l_ H (cx n) (cx n):= .cons (.int _ _) rfl .nil
theorem aei {H:List Blk} (n:UInt8):l_ H (GU n) (GU n):= .cons (.int _ _) rfl .nil
theorem vU {H:List Blk} (b:Bool):l_ H (aR b) (aR b):= .cons (.bool _) rfl .nil
theorem aeh {H:List Blk} (b:ByteArray):l_ H (Lz b) (Lz b):= .cons (.str _) rfl .nil
theorem lV {H:List Blk} (rows:List (List AV)):gT H (.aP rows false true) (.aP rows false true):= .aP _ _ _ id
theorem Te {H:List Blk} (x:c9):l_ H (dd x) (dd x):= .cons (.int _ _) rfl (.cons (.int _ _) rfl .nil)
theorem aee {H:List Blk} (x:Event):l_ H (dL x) (dL x):= .cons (.int _ _) rfl (.cons (.int _ _) rfl (.cons (.int _ _) rfl .nil))
theorem x0 {H:List Blk} (x:bL):l_ H (ba x) (ba x):= .cons (.int _ _) rfl (.cons (.int _ _) rfl .nil)
theorem aej {H:List Blk} (x:Way):l_ H (dj true x) (dj false x):= .cons (lV _) rfl (.cons (lV _) rfl (.cons (lV _) rfl (.cons (lV _) rfl (.cons (lV _) rfl .nil))))
theorem aef {H:List Blk} (x:av):l_ H (gE true x) (gE false x):= .cons (.int _ _) rfl (.cons (.int _ _) rfl (.cons (lV _) rfl (.cons (.bool _) rfl (.cons (.int _ _) rfl .nil))))
theorem aed {H:List Blk} (x:fj):l_ H (iy true x) (iy false x):= .cons (.int _ _) rfl (.cons (.bool _) rfl (.cons (lV _) rfl (.cons (lV _) rfl (.cons (lV _) rfl .nil))))
theorem ab9 {H:List Blk} {α:Type} {eT eF:α→List AV} {b g sz:Nat} {full:Bool} {xs ys:List α} (hb:H[b]?=some ⟨g,sz,List.map eT xs⟩) (hc: ∀x,l_ H (eT x) (eF x)) (h:xs.length≤4611686018427387904∧xs=ys):
  gT H (.ref b g 0 xs.length full) (.aP (List.map eF ys) false true):=h.2▸aog hb h.1 hc
theorem ub {H:List Blk} {α:Type} {e:α→List AV} {ys:List α} {full fr:Bool} (h:[]=ys):gT H (.aP [] full fr) (.aP (List.map e ys) false true):=h▸ .Yv _ _ _ (fun h=>by cases h)
theorem apG {H:List Blk} {α:Type} {e:α→List AV} {xs ys:List α} {full:Bool} (h:xs=ys):gT H (.aP (List.map e xs) full true) (.aP (List.map e ys) false true):=h▸ .aP _ _ _ (fun h=>by cases h)
theorem Ct {H:List Blk} {k:IntKind} {a b:Int} (h:a=b):gT H (.int k a) (.int k b):=h▸ .int k a
theorem pe {H:List Blk} {a b:Bool} (h:a=b):gT H (.bool a) (.bool b):=h▸ .bool a
theorem apH {H:List Blk} {a b:ByteArray} (h:a=b):gT H (.str a) (.str b):=h▸ .str a
theorem cJ {L:List (Nat×List AV)} {H:List Blk} {rows:List (List AV)} {full fr:Bool}:gD L H (.aP rows full fr) (.aP rows false false):= .aP _ _ _ _ (fun h=>by cases h)
def q0 (L:List (Nat×List AV)) (H:List Blk) (c d:List AV):Prop:=c.length=d.length∧ ∀(j:Nat) (a b:AV),c[j]?=some a→d[j]?=some b→gD L H a b
theorem aan {L:List (Nat×List AV)} {H:List Blk} {α:Type} {eT eF:α→List AV} {b g sz:Nat} {full:Bool} {xs:List α} (hb:H[b]?=some ⟨g,sz,List.map eT xs⟩) (hc: ∀x,q0 L H (eT x) (eF x)) (ag:xs.length≤4611686018427387904):
  gD L H (.ref b g 0 xs.length full) (.aP (List.map eF xs) false false):=by
 refine gD.ref (fun h=>by cases h) hb rfl (by rw[List.length_map]) ag (by simp) (fun i row row' h1 h2=> ?_) (fun i j row row' a c h1 h2 aC bg=> ?_)
 ·have h1:(List.map eT xs)[0+i]?=some row:=h1
  rw[Nat.zero_add,List.getElem?_map] at h1
  rw[List.getElem?_map] at h2
  cases hx:xs[i]? with
  | none=>rw[hx] at h1;cases h1
  | some x=>rw[hx] at h1 h2;cases h1;cases h2;exact(hc x).1
 ·have h1:(List.map eT xs)[0+i]?=some row:=h1
  rw[Nat.zero_add,List.getElem?_map] at h1
  rw[List.getElem?_map] at h2
  cases hx:xs[i]? with
  | none=>rw[hx] at h1;cases h1
  | some x=>rw[hx] at h1 h2;cases h1;cases h2;exact(hc x).2 j a c aC bg
theorem q0.nil {L:List (Nat×List AV)} {H:List Blk}:q0 L H [] []:=⟨rfl,fun j a b h=>by simp at h⟩
theorem q0.cons {L:List (Nat×List AV)} {H:List Blk} {a b:AV} {c d:List AV} (h1:gD L H a b) (h:q0 L H c d):q0 L H (a::c) (b::d):=
 ⟨by simp[h.1],fun j x y hx aU=>by
  cases j with
  | zero=>simp at hx aU;subst hx;subst aU;exact h1
  | succ j=>exact h.2 j x y (by simpa using hx) (by simpa using aU)⟩
section
variable {L:List (Nat×List AV)} {H:List Blk}
theorem wx (b:Bool):q0 L H (aR b) (aR b):= .cons (.bool _) .nil
theorem yA (x:bL):q0 L H (ba x) (ba x):= .cons (.int _ _) (.cons (.int _ _) .nil)
end
def eP {α:Type} (F:(α→Prop)→Prop):Prop:= ∀K,F K→ ∃r,K r∧F (fun x=>x=r)
theorem eP.ret {α:Type} (r:α):eP fun K=>K r:=fun K h=>⟨r,h,rfl⟩
theorem eP.no {α:Type}:eP (α:=α) fun _=>False:=fun K h=>h.elim
theorem eP.and {α:Type} {φ:Prop} {F:(α→Prop)→Prop} (h:eP F):eP fun K=>φ∧F K:=fun K ⟨ab,hf⟩=>by
 obtain⟨r,h1,h2⟩:=h K hf
 exact⟨r,h1,ab,h2⟩
theorem eP.adL {α:Type} {φ:Prop} {F:(α→Prop)→Prop} (h:φ→eP F):eP fun K=>φ∧F K:=fun K ⟨ab,hf⟩=>by
 obtain⟨r,h1,h2⟩:=h ab K hf
 exact⟨r,h1,ab,h2⟩
theorem eP.bind {α β:Type} {o:Option β} {F:β→(α→Prop)→Prop} (h: ∀b,eP (F b)):eP fun K=>cZ o fun b=>F b K:=fun K hf=>by
 cases o with
 | none=>exact hf.elim
 | some b=>exact h b K hf
theorem eP.ite {α:Type} {c:Prop} [Decidable c] {F G:(α→Prop)→Prop} (h:eP F) (k:eP G):eP fun K=>if c then F K else G K:=by
 intro K hf
 by_cases hc:c
 ·rw[if_pos hc] at hf
  obtain⟨r,h1,h2⟩:=h K hf
  exact⟨r,h1,by show if c then _ else _;rw[if_pos hc];exact h2⟩
 ·rw[if_neg hc] at hf
  obtain⟨r,h1,h2⟩:=k K hf
  exact⟨r,h1,by show if c then _ else _;rw[if_neg hc];exact h2⟩
theorem eP.fa {α:Type} {b:Bool} {F:(α→Prop)→Prop} (h:eP F):eP fun K=>fa b (F K):=by
 cases b with
 | true=>exact h
 | false=>exact eP.no
theorem RR {P:Program} {t:TypeId} {cells:List AV} {c:Nat}:eP (kB P t cells c):=by
 unfold kB
 exact .ite (.ite (.ite (.ret _) .no) (.bind fun _=> .ret _)) .no
theorem alz {P:Program} {t:TypeId} {x:AV} {L:List (Nat×List AV)} {H:List Blk}:eP (rz P t x L H):=by
 cases x with
 | fZ s c=>exact .bind fun _=>RR
 | ptr b g r c=>exact .bind fun _=> .and (.bind fun _=>RR)
 | dv cells c=>exact RR
 | _=>exact .no
theorem amn {x:AV}:eP (OY x):=by
 cases x<;>first | exact .no | exact .ret _
theorem ad1 {op:BinOp} {k:IntKind} {a b:Int}:eP (Gu op k a b):=by
 cases op<;>first | exact .no | exact .ret _ | exact .and (.ret _)
theorem ad0 {op:BinOp} {k kU:IntKind} {a b:Int}:eP (Gv op k a kU b):=by
 cases op<;>first | exact .and (.ret _) | exact .ite ad1 .no
def Dl (x:AV):Bool:=match x with
 | .aP _ _ _=>false
 | _=>true
theorem ad2 {P:Program} {op:BinOp} {t:TypeId} {x y:AV} {vF:Bool} (hx:Dl x=true):eP (vT P op t x y vF):=by
 cases x with
 | int k a=>cases y<;>first | exact .no | exact ad0
 | bool a=>
  cases y with
  | bool b=>exact .ite (by cases op<;>first | exact .no | exact .ret _) .no
  | _=>exact .no
 | str a=>
  cases y with
  | str b=>
   show eP (KT op a b)
   cases op<;>first | exact .no | exact .ret _ | exact .and (.ret _)
  | _=>exact .no
 | agg l=>
  cases y with
  | agg m=>exact .ite (.bind fun p=> .bind fun q=>by
    show eP (KU op p.1 p.2 q.1 q.2)
    cases op<;>first | exact .no | exact .ret _) .no
  | _=>exact .no
 | aP rows ee fr=>cases hx
 | _=>exact .no
theorem aqa {op:UnOp} {x:AV}:eP (JY op x):=by
 cases op<;>cases x<;>first | exact .no | exact .ret _
theorem ae8 {P:Program} {s d:TypeId} {x:AV}:eP (Lq P s d x):=by
 cases x with
 | int k n=>exact .bind fun _=> .bind fun _=> .ret _
 | _=>exact .no
theorem afH {P:Program} {t:TypeId} {x:AV} {f:Nat}:eP (LP P t x f):=by
 refine .bind fun fd=> .ite ?_ .no
 cases x<;>first | exact .no | exact .ret _
theorem aiH {P:Program} {t:TypeId} {x i:AV} {H:List Blk}:eP (A2 P t x i H):=by
 refine .bind fun e=> .ite ?_ .no
 cases i with
 | int k n=>
  cases x with
  | aP rows ee fr=>exact .and (.bind fun _=> .and (.ret _))
  | ref b g off m ee=>exact .bind fun _=> .and (.and (.and (.and (.ret _))))
  | _=>exact .no
 | _=>exact .no
theorem aiQ {P:Program} {t:TypeId} {x i:AV}:eP (M8 P t x i):=by
 cases x with
 | str s=>
  cases i with
  | int k n=>
   show eP fun K:AV→Prop=>(match P.underlying t with
   | some .string=>0≤n∧n<s.size∧K (.int .u8 (s.data.getD n.toNat 0).toNat)
   | _=>False)
   split
   ·exact .and (.and (.ret _))
   ·exact .no
  | _=>exact .no
 | _=>exact .no
theorem Ae {α:Type} {x:Option AV} {d:Nat} {F:Nat→(α→Prop)→Prop} (h: ∀n,eP (F n)):eP fun K=>nS x d fun n=>F n K:=by
 cases x with
 | none=>exact h d
 | some a=>
  cases a with
  | int k n=>exact .and (h _)
  | _=>exact .no
theorem anY {P:Program} {t:TypeId} {x:AV} {lo hi:Option AV} {H:List Blk}:eP (zo P t x lo hi H):=by
 cases x with
 | str s=>
  show eP fun K:AV→Prop=>(match P.underlying t with
   | some .string=>nS lo 0 fun l=>nS hi s.size fun h=>l≤h∧h≤s.size∧K (.str (s.extract l h))
   | _=>False)
  split
  ·exact Ae fun l=>Ae fun h=> .and (.and (.ret _))
  ·exact .no
 | aP rows ee fr=>exact .bind fun e=> .ite (Ae fun l=>Ae fun h=> .and (.and (.and (.ret _)))) .no
 | ref b g off n ee=>
  refine .bind fun e=> .ite (.bind fun blk=> .and (.and (Ae fun l=>Ae fun h=> .adL fun hle=> .and ?_))) .no
  intro K ⟨h1,h2⟩
  rcases Nat.lt_trichotomy l h with aQ | ahH | pE
  ·exact⟨_,h1 aQ,fun _=>rfl,fun e=>absurd e (by omega)⟩
  ·exact⟨_,h2 ahH,fun e=>absurd e (by omega),fun _=>rfl⟩
  ·omega
 | _=>exact .no
theorem afC {x:AV} {i:Nat}:eP (LL x i):=by
 cases x with
 | tup l=>exact .bind fun _=> .ret _
 | _=>exact .no
theorem amb {fn:Fn} {first:Array Operand} {caps:List AV}:eP (EG fn first caps):=by
 cases fn with
 | func f=>exact .ite (.ret _) .no
 | _=>exact .no
theorem aeb {P:Program} {t:TypeId} {parts:List (Nat×AV)}:eP (KX P t parts):= .bind fun _=> .bind fun _=> .bind fun _=> .ret _
theorem ad_ {P:Program} {t:TypeId} {n:Nat} {parts:List (Nat×AV)}:eP (Ah P t n parts):= .bind fun _=> .bind fun _=> .ite (.bind fun _=> .ite (.ret _) .no) .no
def ve (x:AV) (K:AV→Prop):Prop:=match x with
 | .aP rows _ _=>K (.int .i64 rows.length)
 | .str s=>K (.int .i64 s.size)
 | .ref _ _ _ n _=>K (.int .i64 n)
 | _=>False
theorem alF {x:AV}:eP (ve x):=by
 cases x<;>first | exact .no | exact .ret _
theorem alG {x:AV} {K:AV→Prop} (h:ve x K):vd x K:=by
 cases x<;>first | exact h | exact fun _=>h
theorem aeu {P:Program} {f:FuncId} {args:List AV} {L:List (Nat×List AV)} {H:List Blk}:eP (rh P f args L H):=fun K ⟨ag,eE,t,h1,h2,aC⟩=>⟨t,aC,ag,eE,t,h1,h2,rfl⟩
def afw (P:Program) (c:Call) (bF:Operand→AV) (L:List (Nat×List AV)) (H:List Blk) (K:AV→Prop):Prop:=match c.callee with
 | .builtin .len=>(match c.args.toList,c.argTypes.toList with
  | [x],[t]=>fa (lb P t (bF x)) (ve (bF x) K)
  | _,_=>False)
 | .value f=>nr (bF f) fun g caps=>rh P g (c.args.toList.map bF++caps) L H K
 | _=>False
def k5 (P:Program) (o:Oper) (bF:Operand→AV) (L:List (Nat×List AV)) (H:List Blk) (K:AV→Prop):Prop:=match o.op with
 | .call c=>afw P c bF L H K
 | .pick c x y=>rf (bF c) fun z=>r7 true z (K (bF x)) (K (bF y))
 | .binOp op t x y _=>fa (Dl (bF x)) (vT P op t (bF x) (bF y) (tD y) K)
 | _=>vZ P o bF L H K
theorem G6 {P:Program} {o:Oper} {bF:Operand→AV} {L:List (Nat×List AV)} {H:List Blk} {K:AV→Prop} (h:k5 P o bF L H K):vZ P o bF L H K:=by
 obtain⟨dst,op,ty,pos,after,guard⟩:=o
 cases op with
 | call c=>
  obtain⟨callee,args,argTypes⟩:=c
  cases callee with
  | builtin b=>
   cases b with
   | len=>
    have h:(match args.toList,argTypes.toList with
     | [x],[t]=>fa (lb P t (bF x)) (ve (bF x) K)
     | _,_=>False):=h
    show(match args.toList,argTypes.toList with
     | [x],[t]=>fa (lb P t (bF x)) (vd (bF x) K)
     | _,_=>False)
    split at h
    ·obtain⟨h1,h2⟩:=sv h
     simp only[h1];exact alG h2
    ·exact h.elim
   | _=>exact h.elim
  | value f=>exact h
  | _=>exact h.elim
 | binOp op t x y ty2=>exact(sv (show fa (Dl (bF x)) (vT P op t (bF x) (bF y) (tD y) K) from h)).2
 | pick c x y=>
  obtain⟨b,hb,hw⟩:=Gm (show rf (bF c) fun z=>r7 true z (K (bF x)) (K (bF y)) from h)
  show rf (bF c) fun z=>Dk z (K (bF x)) (K (bF y))
  rw[hb];exact Gy hw
 | _=>exact h
theorem adX {α:Type} {z:Bool} {x y:α}:eP fun K=>r7 true z (K x) (K y):=by
 cases z with
 | true=>exact .ret x
 | false=>exact .ret y
theorem adT {α:Type} {v:AV} {F:Bool→(α→Prop)→Prop} (h: ∀b,eP (F b)):eP fun K=>rf v fun b=>F b K:=by
 cases v with
 | bool b=>exact h b
 | _=>exact .no
theorem afz {P:Program} {o:Oper} {bF:Operand→AV} {L:List (Nat×List AV)} {H:List Blk}:eP (k5 P o bF L H):=by
 obtain⟨dst,op,ty,pos,after,guard⟩:=o
 cases op with
 | move x=>exact .ret _
 | assign x=>exact .ret _
 | pick c x y=>exact adT fun z=>adX
 | build t ps=>exact .fa aeb
 | buildSlice t n ps=>exact .fa ad_
 | load t a=>exact alz
 | nilCheck x=>exact amn
 | binOp op t x y ty2=>
  show eP fun K=>fa (Dl (bF x)) (vT P op t (bF x) (bF y) (tD y) K)
  cases hb:Dl (bF x) with
  | true=>exact ad2 hb
  | false=>exact .no
 | unOp op t x=>exact aqa
 | convert s d x=>exact ae8
 | makeFunc fn first caps=>exact amb
 | fieldAddr t x f=>exact afH
 | indexAddr t x i=>exact aiH
 | index t x i=>exact aiQ
 | slice t x lo hi mx=>
  cases mx with
  | none=>exact anY
  | some m=>exact .no
 | extract x i=>exact afC
 | call c=>
  obtain⟨callee,args,argTypes⟩:=c
  cases callee with
  | builtin b=>
   cases b with
   | len=>
    show eP fun K=>(match args.toList,argTypes.toList with
     | [x],[t]=>fa (lb P t (bF x)) (ve (bF x) K)
     | _,_=>False)
    split
    ·exact .fa alF
    ·exact .no
   | _=>exact .no
  | value f=>
   show eP fun K=>nr (bF f) fun g caps=>rh P g (args.toList.map bF++caps) L H K
   cases bF f with
   | fn g caps=>exact aeu
   | _=>exact .no
  | _=>exact .no
 | _=>exact .no
structure Item where
 i:Nat
 lit:Bool
 q:Bool
 kO:List Nat
def Sg:AV→AV→Bool
 | .int k n,.int kU kY=>decide (k=kU)&&decide (n=kY)
 | .bool b,.bool b4=>b==b4
 | .aP [] f g,.aP [] G9 dC=>f==G9&&g==dC
 | .gH,.gH=>true
 | _,_=>false
def J4:List AV→List AV→Bool
 | [],[]=>true
 | a::l,b::m=>Sg a b&&J4 l m
 | _,_=>false
theorem aqR {a b:AV} (h:Sg a b=true):a=b:=by
 unfold Sg at h
 split at h
 ·simp only[Bool.and_eq_true,decide_eq_true_eq] at h;rw[h.1,h.2]
 ·rw[eq_of_beq h]
 ·simp only[Bool.and_eq_true] at h;rw[eq_of_beq h.1,eq_of_beq h.2]
 ·rfl
 ·cases h
theorem ac5: ∀{l m:List AV},J4 l m=true→l=m
 | [],[],_=>rfl
 | [],_::_,h=>by cases h
 | _::_,[],h=>by cases h
 | a::l,b::m,h=>by
  simp only[J4,Bool.and_eq_true] at h
  rw[aqR h.1,ac5 h.2]
def st (o:Oper):Bool:=match o.op with
 | .alloc _=>true
 | _=>false
def SL (P:Program) (e:TypeId) (dst:Option Nat) (L:List (Nat×List AV)) (K:AV→Prop):Prop:=cZ (pi P e) fun z=>cZ dst fun t=>cZ (eV L t) fun c=>fa (z.all kb) (fa (J4 c z) (K (.fZ t 0)))
def mV (P:Program) (o:Oper) (bF:Operand→AV) (L:List (Nat×List AV)) (H:List Blk) (K:AV→Prop):Prop:=match o.op with
 | .alloc e=>SL P e o.dst L K
 | _=>k5 P o bF L H K
theorem Ar {P:Program} {o:Oper} {bF:Operand→AV} {L:List (Nat×List AV)} {H:List Blk} {K:AV→Prop} (h:st o=false):mV P o bF L H K=k5 P o bF L H K:=by
 obtain⟨dst,op,ty,pos,after,guard⟩:=o
 cases op<;>first | rfl | cases h
theorem afy {P:Program} {o:Oper} {bF:Operand→AV} {L:List (Nat×List AV)} {H:List Blk}:eP (mV P o bF L H):=by
 cases h:st o with
 | false=>intro K hk;rw[Ar h] at hk;obtain⟨r,h1,h2⟩:=afz K hk;exact⟨r,h1,by rw[Ar h];exact h2⟩
 | true=>
  obtain⟨dst,op,ty,pos,after,guard⟩:=o
  cases op
  case alloc e=>exact eP.bind fun _=> .bind fun _=> .bind fun _=> .fa (.fa (.ret _))
  all_goals cases h
def opI (ops:Array Oper) (i:Nat):Oper:=ops.getD i default
def vX (o:Oper) (T:List AV):AV:=match o.dst with
 | some d=>T.getD d .undef
 | none=> .undef
def uI (P:Program) (ops:Array Oper):List Nat→List AV→List (Nat×List AV)→List Blk→Prop
 | [],_,_,_=>True
 | i::r,T,L,H=>((opI ops i).guard.isNone=true∧(opI ops i).dst.isSome=true∧mV P (opI ops i) (ci T) L H (fun v=>v=vX (opI ops i) T))∧uI P ops r T L H
theorem Uf {P:Program} {ops:Array Oper} {T:List AV} {L:List (Nat×List AV)} {H:List Blk}: ∀{kO:List Nat},uI P ops kO T L H→ ∀i∈kO,(opI ops i).guard.isNone=true∧(opI ops i).dst.isSome=true∧mV P (opI ops i) (ci T) L H (fun v=>v=vX (opI ops i) T)
 | [],_,i,hi=>by cases hi
 | j::r,h,i,hi=>by
  rcases List.mem_cons.1 hi with rfl | hi
  ·exact h.1
  ·exact Uf h.2 i hi
def ls (P:Program) (esc:List Nat) (ops:Array Oper):List Item→List AV→List (Nat×List AV)→List Blk→(List AV→List (Nat×List AV)→List Blk→Prop)→Prop
 | [],T,L,H,K=>K T L H
 | x::rest,T,L,H,K=>qu ops x.lit (opI ops x.i) T
   (fun T=>match x.q with
    | true=>mV P (opI ops x.i) (ci T) L H fun v=>ls P esc ops rest (putA T (opI ops x.i).dst v) L H K
    | false=>lr P esc (opI ops x.i) (ci T) L H fun v L' H'=>uI P ops x.kO T L' H'∧ls P esc ops rest (putA T (opI ops x.i).dst v) L' H' K)
   (fun T=>ls P esc ops rest (putA T (opI ops x.i).dst (.tup [])) L H K)
theorem TZ {P:Program} {o:Oper} {bF gz:Operand→AV} {L:List (Nat×List AV)} {H:List Blk} {K:AV→Prop} (h: ∀x∈o.op.operands,bF x=gz x):vZ P o bF L H K=vZ P o gz L H K:=by
 obtain⟨dst,op,ty,pos,after,guard⟩:=o
 have Zg: ∀ps:Array (Nat×Operand),(∀x∈ps.map (·.2),bF x=gz x)→(ps.toList.map fun p=>(p.1,bF p.2))=(ps.toList.map fun p=>(p.1,gz p.2)):=fun ps ab=>
  List.map_congr_left fun p hm=>by rw[ab p.2 (Array.mem_map.2 ⟨p,by simpa using hm,rfl⟩)]
 have SP: ∀ps:Array (Nat×Operand),(∀x∈ps.map (·.2),bF x=gz x)→(ps.toList.all fun p=>e_ (bF p.2))=(ps.toList.all fun p=>e_ (gz p.2)):=fun ps ab=>by
  rw[Bool.eq_iff_iff,List.all_eq_true,List.all_eq_true]
  constructor<;>intro q p hm
  ·rw[←ab p.2 (Array.mem_map.2 ⟨p,by simpa using hm,rfl⟩)];exact q p hm
  ·rw[ab p.2 (Array.mem_map.2 ⟨p,by simpa using hm,rfl⟩)];exact q p hm
 have aP: ∀xs:Array Operand,(∀x∈xs,bF x=gz x)→xs.toList.map bF=xs.toList.map gz:=fun xs hx=>List.map_congr_left fun p hm=>hx p (by simpa using hm)
 cases op<;>simp only[Op.operands] at h
 case build t ps=>
  show fa _ _=fa _ _
  rw[Zg ps fun x hx=>h x (by simpa using hx),SP ps fun x hx=>h x (by simpa using hx)]
 case buildSlice t n ps=>
  show fa _ _=fa _ _
  rw[Zg ps fun x hx=>h x (by simpa using hx),SP ps fun x hx=>h x (by simpa using hx)]
 case makeFunc fn first caps=>
  show EG fn first (caps.toList.map bF) K=EG fn first (caps.toList.map gz) K
  rw[aP caps fun x hx=>h x (by simp[hx])]
 case slice t x lo hi mx=>
  cases mx with
  | some m=>rfl
  | none=>
   show zo P t (bF x) (lo.map bF) (hi.map bF) H K=zo P t (gz x) (lo.map gz) (hi.map gz) H K
   cases lo<;>cases hi<;>simp_all
 case call c=>
  obtain⟨callee,args,argTypes⟩:=c
  have aw: ∀x∈args,bF x=gz x:=fun x hx=>h x (by simp[Call.operands,hx])
  cases callee with
  | builtin b=>
   cases b with
   | len=>
    show(match args.toList,argTypes.toList with
     | [x],[t]=>fa (lb P t (bF x)) (vd (bF x) K)
     | _,_=>False)=(match args.toList,argTypes.toList with
     | [x],[t]=>fa (lb P t (gz x)) (vd (gz x) K)
     | _,_=>False)
    split
    ·rename_i x t h1 h2
     rw[aw x (by rw[←Array.mem_toList_iff,h1];simp)]
    ·rfl
   | _=>rfl
  | value f=>
   have hf:bF f=gz f:=h f (by simp[Call.operands])
   show nr (bF f) _=nr (gz f) _
   rw[hf,aP args aw]
  | invoke r m=>rfl
 all_goals (first | rfl | (simp only[vZ];simp_all;done))
theorem TY {P:Program} {o:Oper} {bF gz:Operand→AV} {L:List (Nat×List AV)} {H:List Blk} {K:AV→Prop} (h: ∀x∈o.op.operands,bF x=gz x):k5 P o bF L H K=k5 P o gz L H K:=by
 have hv:=fun K=>TZ (P:=P) (L:=L) (H:=H) (K:=K) h
 obtain⟨dst,op,ty,pos,after,guard⟩:=o
 cases op
 case call c=>
  simp only[Op.operands] at h
  obtain⟨callee,args,argTypes⟩:=c
  have aw: ∀x∈args,bF x=gz x:=fun x hx=>h x (by simp[Call.operands,hx])
  cases callee with
  | builtin b=>
   cases b with
   | len=>
    show(match args.toList,argTypes.toList with
     | [x],[t]=>fa (lb P t (bF x)) (ve (bF x) K)
     | _,_=>False)=(match args.toList,argTypes.toList with
     | [x],[t]=>fa (lb P t (gz x)) (ve (gz x) K)
     | _,_=>False)
    split
    ·rename_i x t h1 h2
     rw[aw x (by rw[←Array.mem_toList_iff,h1];simp)]
    ·rfl
   | _=>rfl
  | value f=>exact hv K
  | invoke r m=>rfl
 case pick c x y=>simp only[Op.operands] at h;simp only[k5];simp_all
 case binOp op t x y ty2=>simp only[Op.operands] at h;simp only[k5];simp_all
 all_goals exact hv K
theorem TT {P:Program} {o:Oper} {bF gz:Operand→AV} {L:List (Nat×List AV)} {H:List Blk} {K:AV→Prop} (h: ∀x∈o.op.operands,bF x=gz x):mV P o bF L H K=mV P o gz L H K:=by
 cases aw:st o with
 | false=>rw[Ar aw,Ar aw];exact TY h
 | true=>
  obtain⟨dst,op,ty,pos,after,guard⟩:=o
  cases op
  case alloc e=>rfl
  all_goals cases aw
theorem afx {P:Program} {esc:List Nat} {o:Oper} {bF gz:Operand→AV} {L:List (Nat×List AV)} {H:List Blk} {K:AV→List (Nat×List AV)→List Blk→Prop} (h: ∀x∈o.op.operands,bF x=gz x):lr P esc o bF L H K=lr P esc o gz L H K:=by
 have hv:=fun K=>TZ (P:=P) (L:=L) (H:=H) (K:=K) h
 obtain⟨dst,op,ty,pos,after,guard⟩:=o
 cases op
 case call c=>
  obtain⟨callee,args,argTypes⟩:=c
  have h':=h
  simp only[Op.operands] at h
  have aw: ∀x∈args,bF x=gz x:=fun x hx=>h x (by simp[Call.operands,hx])
  cases callee with
  | builtin b=>
   cases b with
   | len=>exact hv fun r=>K r L H
   | append=>
    show(match args.toList,argTypes.toList with
     | [s,x],[t,t2]=>e_ (bF s)=true∧e_ (bF x)=true∧xW P t t2 (bF s) (bF x) L H K
     | _,_=>False)=(match args.toList,argTypes.toList with
     | [s,x],[t,t2]=>e_ (gz s)=true∧e_ (gz x)=true∧xW P t t2 (gz s) (gz x) L H K
     | _,_=>False)
    split
    ·rename_i s x t t2 h1 h2
     rw[aw x (by rw[←Array.mem_toList_iff,h1];simp),aw s (by rw[←Array.mem_toList_iff,h1];simp)]
    ·rfl
   | _=>rfl
  | value f=>
   have hf:bF f=gz f:=h f (by simp[Call.operands])
   show nr (bF f) _=nr (gz f) _
   rw[hf,List.map_congr_left fun p hm=>aw p (by simpa using hm)]
  | invoke r m=>rfl
 case alloc e=>rfl
 case buildSlice t n ps=>
  simp only[Op.operands] at h
  have h: ∀x∈ps.map (·.2),bF x=gz x:=fun x hx=>h x (by simpa using hx)
  have aN:(ps.toList.map fun p=>(p.1,bF p.2))=(ps.toList.map fun p=>(p.1,gz p.2)):=
   List.map_congr_left fun p hm=>by rw[h p.2 (Array.mem_map.2 ⟨p,by simpa using hm,rfl⟩)]
  have e2:(ps.toList.all fun p=>e_ (bF p.2))=(ps.toList.all fun p=>e_ (gz p.2)):=by
   rw[Bool.eq_iff_iff,List.all_eq_true,List.all_eq_true]
   constructor<;>intro q p hm
   ·rw[←h p.2 (Array.mem_map.2 ⟨p,by simpa using hm,rfl⟩)];exact q p hm
   ·rw[h p.2 (Array.mem_map.2 ⟨p,by simpa using hm,rfl⟩)];exact q p hm
  show fa _ (xZ P (x8 esc dst) (zj esc) t n _ L H K)=fa _ (xZ P (x8 esc dst) (zj esc) t n _ L H K)
  rw[aN,e2]
 case store t x y=>simp only[Op.operands] at h;simp only[lr];simp_all
 case box e x=>simp only[Op.operands] at h;simp only[lr];simp_all
 case makeSlice t l c=>simp only[Op.operands] at h;simp only[lr];simp_all
 all_goals exact hv fun r=>K r L H
structure zN (P:Program) (ops:Array Oper) (L:List (Nat×List AV)) (H:List Blk) (T:List AV) (o:Oper) (v:AV) (run:Bool):Prop where
 dR: ∀(E:Env) (a:Act),(∀t∈o.looksAt ops,V3 E (T.getD t .undef) (a.tmps.getD t undef))→T.length=a.tmps.size→Region.wanted o (yielded ops a.tmps)=run
 uh:run=true→mV P o (ci T) L H (fun r=>r=v)
 no:run=false→v= .tup []
 put: ∀d,o.dst=some d→d<T.length→T.getD d .undef=v
theorem alZ {ops:Array Oper} {o:Oper} {t:Nat} (h: .tmp t∈o.op.operands):t∈o.looksAt ops:=
 List.mem_append_left _ (List.mem_filterMap.2 ⟨.tmp t,by simpa using h,rfl⟩)
theorem alY {ops:Array Oper} {o:Oper} {j t:Nat} {b:Bool} (az:o.guard=some (j,b)) (aO:(ops[j]?).bind (·.dst)=some t):t∈o.looksAt ops:=by
 refine List.mem_append_right _ ?_
 rw[az];simp[aO]
theorem IX {ops:Array Oper} {o:Oper} {T T':List AV} (h: ∀t∈o.looksAt ops,T.getD t .undef=T'.getD t .undef): ∀x∈o.op.operands,ci T x=ci T' x:=fun x hx=>by
 cases x with
 | tmp t=>exact h t (alZ hx)
 | _=>rfl
theorem zN.mono {P:Program} {ops:Array Oper} {L:List (Nat×List AV)} {H:List Blk} {T T':List AV} {o:Oper} {v:AV} {run:Bool} (h:zN P ops L H T o v run) (au:T'.length=T.length)
  (aw: ∀t∈o.looksAt ops,T'.getD t .undef=T.getD t .undef) (aY: ∀d,o.dst=some d→T'.getD d .undef=T.getD d .undef):zN P ops L H T' o v run where
 dR:=fun E a hs aH=>h.dR E a (fun t aO=>by rw[←aw t aO];exact hs t aO) (by rw[←au];exact aH)
 uh:=fun ak=>by
  rw[TT (IX aw)]
  exact h.uh ak
 no:=h.no
 put:=fun d pD aQ=>by rw[aY d pD];exact h.put d pD (by rw[←au];exact aQ)
theorem Uu {P:Program} {ops:Array Oper} {lit:Bool} {o:Oper} {T:List AV} {x y:List AV→Prop} (h:qu ops lit o T x y):
  ∃T' run,T'.length=T.length∧(∀t,T'.getD t .undef=T.getD t .undef)∧(∀(E:Env) (a:Act),(∀t∈o.looksAt ops,V3 E (T.getD t .undef) (a.tmps.getD t undef))→T.length=a.tmps.size→Region.wanted o (yielded ops a.tmps)=run)∧(if run=true then x T' else y T'):=by
 unfold qu at h
 cases az:o.guard with
 | none=>rw[az] at h;exact⟨T,true,rfl,fun _=>rfl,fun E a _ _=>by simp[Region.wanted,az],h⟩
 | some g=>
  obtain⟨j,dR⟩:=g
  rw[az] at h
  simp only at h
  cases ac:(ops[j]?).bind (·.dst) with
  | none=>rw[ac] at h;exact h.elim
  | some t=>
   rw[ac] at h
   simp only at h
   have HI:t∈o.looksAt ops:=alY az ac
   have uV: ∀b,T.getD t .undef= .bool b→ ∀s,(T.set t (.bool b)).getD s .undef=T.getD s .undef:=fun b hb s=>by
    rw[uJ]
    by_cases hs:t=s∧t<T.length
    ·rw[if_pos hs,←hs.1,hb]
    ·rw[if_neg hs]
   split at h
   ·rename_i b hb
    obtain⟨h1,h2⟩:=Gy h
    have hw: ∀(E:Env) (a:Act),(∀t∈o.looksAt ops,V3 E (T.getD t .undef) (a.tmps.getD t undef))→T.length=a.tmps.size→Region.wanted o (yielded ops a.tmps)=(b==dR):=fun E a hs aH=>by
     have hv:=hs t HI
     rw[hb] at hv
     have he:a.tmps.getD t undef= .bool b:=V3.qm hv
     have aU:yielded ops a.tmps j=some b:=by
      unfold yielded
      rw[ac]
      rw[Array.getD_eq_getD_getElem?] at he
      cases U:a.tmps[t]? with
      | none=>rw[U] at he;cases he
      | some x=>rw[U] at he;have:x= .bool b:=he;subst this;simp[U]
     simp[Region.wanted,az,aU]
    cases b with
    | true=>refine⟨_,_,by simp,uV true hb,hw,?_⟩;have:=h1 rfl;cases dR<;>exact this
    | false=>refine⟨_,_,by simp,uV false hb,hw,?_⟩;have:=h2 rfl;cases dR<;>exact this
   ·rename_i hb
    refine⟨T,false,rfl,fun _=>rfl,fun E a hs aH=> ?_,h⟩
    have hv:=hs t HI
    rw[hb] at hv
    obtain⟨vs,he,ab⟩:=(show ∃vs:List Value,a.tmps.getD t undef= .tuple vs.toArray∧ah (V2 E) [] vs from hv)
    obtain rfl:=ab.pT
    have aU:yielded ops a.tmps j=none:=by
     unfold yielded
     rw[ac]
     rw[Array.getD_eq_getD_getElem?] at he
     cases U:a.tmps[t]? with
     | none=>simp[U]
     | some x=>rw[U] at he;have:x= .tuple #[]:=he;subst this;simp[U]
    simp[Region.wanted,az,aU]
   ·exact h.elim
theorem BP (T:List AV) (d:Option Nat) (v:AV):(putA T d v).length=T.length:=by
 cases d<;>simp[putA]
theorem I5 {T:List AV} {d:Option Nat} {v:AV} {t:Nat} (h:d≠some t):(putA T d v).getD t .undef=T.getD t .undef:=by
 cases d with
 | none=>rfl
 | some s=>
  show(T.set s v).getD t .undef=_
  rw[uJ,if_neg]
  rintro⟨rfl,_⟩;exact h rfl
theorem ZA {T:List AV} {d:Nat} {v:AV} (h:d<T.length):(putA T (some d) v).getD d .undef=v:=by
 show(T.set d v).getD d .undef=v
 rw[uJ,if_pos ⟨rfl,h⟩]
def ni (ops:Array Oper):List Item→Prop
 | []=>True
 | x::r=>(∀t∈(opI ops x.i).looksAt ops,∀y∈x::r,(opI ops y.i).dst≠some t)∧(∀d,(opI ops x.i).dst=some d→ ∀y∈r,(opI ops y.i).dst≠some d)∧ni ops r
theorem PR {P:Program} {esc:List Nat} {ops:Array Oper} {L:List (Nat×List AV)} {H:List Blk} {K:List AV→List (Nat×List AV)→List Blk→Prop}: ∀(l:List Item) (T:List AV),ni ops l→ls P esc ops l T L H K→
  ∃pre post ra,l=pre++post∧(∀x∈pre,x.q=true)∧(∀x r,post=x::r→x.q=false)∧ls P esc ops post ra L H K∧ra.length=T.length∧
   (∀t,(∀x∈pre,(opI ops x.i).dst≠some t)→ra.getD t .undef=T.getD t .undef)∧ ∀x∈pre,∃v run,zN P ops L H ra (opI ops x.i) v run
 | [],T,_,h=>⟨[],[],T,rfl,fun x hx=>(by cases hx),fun x r e=>(by cases e),h,rfl,fun _ _=>rfl,fun x hx=>(by cases hx)⟩
 | x::r,T,aJ,h=>by
  cases U:x.q with
  | false=>exact⟨[],x::r,T,rfl,fun x hx=>(by cases hx),fun y Jc e=>(by cases e;exact U),h,rfl,fun _ _=>rfl,fun x hx=>(by cases hx)⟩
  | true=>
   obtain⟨lT,run,sm,nw,hw,gy⟩:=Uu (P:=P) h
   obtain⟨SR,adM,adN⟩:=aJ
   have key: ∃v,ls P esc ops r (putA lT (opI ops x.i).dst v) L H K∧(run=true→mV P (opI ops x.i) (ci lT) L H (fun r=>r=v))∧(run=false→v= .tup []):=by
    cases run with
    | true=>
     have gy:(match x.q with
      | true=>mV P (opI ops x.i) (ci lT) L H fun v=>ls P esc ops r (putA lT (opI ops x.i).dst v) L H K
      | false=>_):=gy
     rw[U] at gy
     obtain⟨v,h1,h2⟩:=afy _ gy
     exact⟨v,h1,fun _=>h2,fun e=>by cases e⟩
    | false=>exact⟨.tup [],gy,fun e=>(by cases e),fun _=>rfl⟩
   obtain⟨v,hv,aiA,j6⟩:=key
   obtain⟨pre,post,ra,rfl,yq,lB,rp,hlen,hQ,DR⟩:=PR r _ adN hv
   have wq: ∀y∈pre,y∈pre++post:=fun y aU=>List.mem_append_left _ aU
   have DY: ∀t∈(opI ops x.i).looksAt ops,ra.getD t .undef=lT.getD t .undef:=fun t aO=>by
    rw[hQ t fun y aU=>SR t aO y (List.mem_cons_of_mem _ (wq y aU)),I5 (SR t aO x (List.mem_cons_self ..))]
   refine⟨x::pre,post,ra,rfl,fun y aU=> ?_,lB,rp,by rw[hlen,BP,sm],fun t aO=> ?_,fun y aU=> ?_⟩
   ·rcases List.mem_cons.1 aU with rfl | aU
    ·exact U
    ·exact yq y aU
   ·rw[hQ t fun y aU=>aO y (List.mem_cons_of_mem _ aU),I5 (aO x (List.mem_cons_self ..)),nw]
   ·rcases List.mem_cons.1 aU with rfl | aU
    ·refine⟨v,run,⟨fun E a hs aH=>hw E a (fun t aO=> ?_) ?_,fun ak=> ?_,j6,fun d aY aQ=> ?_⟩⟩
     ·rw[←nw t,←DY t aO];exact hs t aO
     ·rw[←aH,hlen,BP,sm]
     ·rw[TT (IX DY)];exact aiA ak
     ·rw[hQ d fun y aU=>adM d aY y (wq y aU),aY]
      exact ZA (by rw[hlen,BP] at aQ;exact aQ)
    ·exact DR y aU
def xF (A:Nat→List Nat):List Item→List Item→Prop
 | _,[]=>True
 | p,h::r=>(h.q=false→(∀y∈r,h.i∈A y.i)∧ ∀x∈p,x.i∈A h.i∨x.i∈h.kO)∧xF A (p++[h]) r
theorem xF.at {A:Nat→List Nat}: ∀{pre p:List Item} {h:Item} {r:List Item},xF A p (pre++h::r)→h.q=false→(∀y∈r,h.i∈A y.i)∧ ∀x∈p++pre,x.i∈A h.i∨x.i∈h.kO
 | [],p,h,r,hb,U=>by
  rw[List.append_nil];exact hb.1 U
 | x::pre,p,h,r,hb,U=>by
  have:=xF.at (pre:=pre) (p:=p++[x]) hb.2 U
  simpa using this
structure FO (ops:Array Oper) (ord:List Item) (A:Nat→List Nat):Prop where
 back: ∀i o,ops[i]?=some o→ ∀e∈o.after,Region.binds .any e=true→e.on<i
 adJ: ∀i o,ops[i]?=some o→ ∀a∈A i,∃e∈o.after,Region.binds .any e=true∧(a=e.on∨a∈A e.on)
 all: ∀i,i<ops.size→ ∃x∈ord,x.i=i
 lt: ∀x∈ord,x.i<ops.size
 nodup:(ord.map (·.i)).Nodup
 aqe: ∀x∈ord,∀t∈(opI ops x.i).looksAt ops,∀y∈ord,(opI ops y.i).dst=some t→y.i∈A x.i
 apart:ni ops ord
 mT:xF A [] ord
theorem ni.tail {ops:Array Oper}: ∀{p r:List Item},ni ops (p++r)→ni ops r
 | [],_,h=>h
 | _::p,_,h=>ni.tail (p:=p) h.2.2
theorem ni.Xk {ops:Array Oper}: ∀{p r:List Item},ni ops (p++r)→ ∀x∈p,(∀t∈(opI ops x.i).looksAt ops,∀y∈r,(opI ops y.i).dst≠some t)∧ ∀d,(opI ops x.i).dst=some d→ ∀y∈r,(opI ops y.i).dst≠some d
 | [],_,_,x,hx=>by cases hx
 | z::p,r,h,x,hx=>by
  rcases List.mem_cons.1 hx with rfl | hx
  ·exact⟨fun t aO y aU=>h.1 t aO y (List.mem_cons_of_mem _ (List.mem_append_right _ aU)),fun d aY y aU=>h.2.1 d aY y (List.mem_append_right _ aU)⟩
  ·exact ni.Xk (p:=p) h.2.2 x hx
theorem ni.inj {ops:Array Oper}: ∀{l:List Item},ni ops l→ ∀x∈l,∀y∈l,x.i≠y.i→ ∀d,(opI ops x.i).dst=some d→(opI ops y.i).dst≠some d
 | [],_,x,hx,_,_,_,_,_=>by cases hx
 | z::r,h,x,hx,y,aU,b7,d,aY=>by
  rcases List.mem_cons.1 hx with ex | Xg
  ·rcases List.mem_cons.1 aU with LM | Oy
   ·exact absurd (by rw[ex,LM]) b7
   ·exact h.2.1 d (by rw[←ex];exact aY) y Oy
  ·rcases List.mem_cons.1 aU with LM | Oy
   ·exact fun e=>h.2.1 d (by rw[←LM];exact e) x Xg aY
   ·exact ni.inj h.2.2 x Xg y Oy b7 d aY
theorem vg {ops:Array Oper} {i:Nat} (h:i<ops.size):ops[i]?=some (opI ops i):=by
 unfold opI
 rw[Array.getElem?_eq_getElem h,Array.getD_eq_getD_getElem?,Array.getElem?_eq_getElem h];rfl
def J_ (ops:Array Oper) (S:Array Bool):Prop:= ∀i o,ops[i]?=some o→S.getD i false=true→ ∀e∈o.after,Region.binds .any e=true→S.getD e.on false=true
theorem adK {ops:Array Oper} {ord:List Item} {A:Nat→List Nat} (D:FO ops ord A) {S:Array Bool} (hs:S.size=ops.size) (hc:J_ ops S): ∀(i:Nat) o,ops[i]?=some o→(∀e∈o.after,Region.binds .any e=true→S.getD e.on false=true)→ ∀a∈A i,S.getD a false=true:=by
 intro i
 induction i using Nat.strongRecOn with
 | _ i bp=>
  intro o aj ak a aw
  obtain⟨e,he,hb,uS⟩:=D.adJ i o aj a aw
  have wu:=ak e he hb
  rcases uS with rfl | uS
  ·exact wu
  ·have aQ:=D.back i o aj e he hb
   have cn:e.on<ops.size:=by
    rcases Nat.lt_or_ge e.on ops.size with h | h
    ·exact h
    ·rw[Array.getD_eq_getD_getElem?,Array.getElem?_eq_none (by omega)] at wu;cases wu
   exact bp e.on aQ _ (vg cn) (fun bX ahD ev=>hc e.on _ (vg cn) wu bX ahD ev) a uS
theorem ZW {ops:Array Oper} {S:Array Bool} (hs:S.size=ops.size) {i:Nat} (h:i∈Region.ready .any ops S):i<ops.size∧S.getD i false=false∧ ∀e∈(opI ops i).after,Region.binds .any e=true→S.getD e.on false=true:=by
 unfold Region.ready at h
 rw[List.mem_filter,List.mem_range] at h
 obtain⟨aQ,h⟩:=h
 rw[vg aQ] at h
 simp only[Option.map_some,Option.getD_some,Bool.and_eq_true,Bool.not_eq_true',Array.all_eq_true_iff_forall_mem] at h
 obtain⟨h1,h2⟩:=h
 refine⟨aQ,?_,fun e he hb=> ?_⟩
 ·rw[Array.getD_eq_getD_getElem?,Array.getElem?_eq_getElem (by omega)] at h1 ⊢;exact h1
 ·have:=h2 e he
  rw[hb] at this;simpa using this
theorem anh {ops:Array Oper} {ord:List Item} {A:Nat→List Nat} (D:FO ops ord A) {S:Array Bool} (hs:S.size=ops.size) (h:Region.ready .any ops S=[]): ∀i,i<ops.size→S.getD i false=true:=by
 intro i
 induction i using Nat.strongRecOn with
 | _ i bp=>
  intro aQ
  cases U:S.getD i false with
  | true=>rfl
  | false=>
   exfalso
   have:i∈Region.ready .any ops S:=by
    unfold Region.ready
    rw[List.mem_filter,List.mem_range]
    refine⟨aQ,?_⟩
    rw[vg aQ]
    simp only[Option.map_some,Option.getD_some,Bool.and_eq_true,Bool.not_eq_true',Array.all_eq_true_iff_forall_mem]
    refine⟨?_,fun e he=> ?_⟩
    ·rw[Array.getD_eq_getD_getElem?,Array.getElem?_eq_getElem (by omega)] at U ⊢;exact U
    ·cases hb:Region.binds .any e with
     | false=>rfl
     | true=>
      have au:=D.back i _ (vg aQ) e he hb
      simpa using bp e.on au (by omega)
   rw[h] at this;cases this
theorem Tt {α:Type} (p y_:α→Bool) (j:α) (ab:p j=true) (wv:y_ j=false) (hk: ∀k,k≠j→p k=y_ k): ∀l:List α,l.Nodup→j∈l→l.countP p=l.countP y_+1
 | [],_,h=>by cases h
 | k::l,ag,h=>by
  rw[List.nodup_cons] at ag
  by_cases MF:k=j
  ·subst MF
   rw[List.countP_cons_of_pos ab,List.countP_cons_of_neg (by simp[wv])]
   congr 1
   refine List.countP_congr fun x hx=> ?_
   rw[hk x (fun e=>ag.1 (e▸hx))]
  ·have ac:j∈l:=(List.mem_cons.1 h).resolve_left fun e=>MF e.symm
   have bp:=Tt p y_ j ab wv hk l ag.2 ac
   rw[List.countP_cons,List.countP_cons,hk k MF,bp];omega
def left (n:Nat) (S:Array Bool):Nat:=(List.range n).countP fun j=> !S.getD j false
theorem DC {S:Array Bool} {i j:Nat}:(S.setIfInBounds i true).getD j false=if i=j∧i<S.size then true else S.getD j false:=by
 rw[Array.getD_eq_getD_getElem?,Array.getD_eq_getD_getElem?,Array.getElem?_setIfInBounds]
 by_cases h:i=j
 ·subst h
  by_cases au:i<S.size
  ·simp[au]
  ·simp[au]
 ·simp[h]
theorem alD {n:Nat} {S:Array Bool} {i:Nat} (hs:S.size=n) (hi:i<n) (h:S.getD i false=false):left n S=left n (S.setIfInBounds i true)+1:=by
 refine Tt _ _ i (by simp[h]) ?_ (fun k hk=> ?_) _ List.nodup_range (List.mem_range.2 hi)
 ·rw[DC,if_pos ⟨rfl,by omega⟩];rfl
 ·rw[DC,if_neg (fun e=>hk e.1.symm)]
theorem alE {n:Nat} {S:Array Bool} (h:left n S=0): ∀i,i<n→S.getD i false=true:=fun i hi=>by
 have:=(List.countP_eq_zero.1 h) i (List.mem_range.2 hi)
 simpa using this
def yl:List Nat→List AV→List AV
 | [],T=>T
 | d::de,T=>yl de (T.set d .undef)
theorem Hw: ∀(de:List Nat) (T:List AV) (t:Nat),(t∈de→(yl de T).getD t .undef= .undef)∧(t ∉ de→(yl de T).getD t .undef=T.getD t .undef)
 | [],T,t=>⟨fun h=>(by cases h),fun _=>rfl⟩
 | d::de,T,t=>by
  obtain⟨h1,h2⟩:=Hw de (T.set d .undef) t
  refine⟨fun h=> ?_,fun h=> ?_⟩
  ·by_cases aY:t∈de
   ·exact h1 aY
   ·have e:t=d:=(List.mem_cons.1 h).resolve_right aY
    show(yl de (T.set d .undef)).getD t .undef= .undef
    rw[h2 aY,uJ]
    by_cases au:d=t∧d<T.length
    ·rw[if_pos au]
    ·rw[if_neg au,List.getD_eq_getElem?_getD,List.getElem?_eq_none (by rcases Nat.lt_or_ge d T.length with q | q;exact absurd ⟨e.symm,q⟩ au;omega)];rfl
  ·show(yl de (T.set d .undef)).getD t .undef=_
   rw[h2 fun hm=>h (List.mem_cons_of_mem _ hm),uJ,if_neg fun hm=>h (by rw[hm.1];exact List.mem_cons_self ..)]
section
variable {P:Program} {esc:List Nat} {ops:Array Oper} {ord:List Item} {A:Nat→List Nat} {Q:Exit→St→Prop} {cj:Env}
structure Si [cL] (P:Program) (esc:List Nat) (ops:Array Oper) (ord:List Item) (Q:Exit→St→Prop) (cj:Env) (S:Array Bool) (a:Act) (w:World) (pre post:List Item) (E:Env) (T:List AV) (L:List (Nat×List AV)) (H:List Blk):Prop where
 lI:ord=pre++post
 FI: ∀x∈post,S.getD x.i false=false
 head: ∀x r,post=x::r→x.q=false
 gF:ls P esc ops post T L H (fun T L H=>Q .normal ⟨T,L,H⟩)
 facts: ∀x∈pre,S.getD x.i false=false→x.q=true∧ ∃v run,zN P ops L H T (opI ops x.i) v run
 jD: ∀t,(∃x∈pre,S.getD x.i false=false∧(opI ops x.i).dst=some t)∨V3 E (T.getD t .undef) (a.tmps.getD t undef)
 size:T.length=a.tmps.size
 h:SimH E H
 l:SimL E L
 oF:Good cj E
 bA: ∀x∈ord,S.getD x.i false=false→st (opI ops x.i)=true→x.q=true→ ∀d,(opI ops x.i).dst=some d→E.mL d=none
 Lr:a.defers=[]
 w:E.w=w
theorem ZE {a:Act} {d:Option Nat} {u:Value} {t:Nat} (h:d≠some t):(a.put d u).tmps.getD t undef=a.tmps.getD t undef:=by
 cases d with
 | none=>rfl
 | some s=>
  show(a.tmps.setIfInBounds s u).getD t undef=_
  rw[Array.getD_eq_getD_getElem?,Array.getD_eq_getD_getElem?,Array.getElem?_setIfInBounds_ne (fun e=>h (by rw[e]))]
theorem ZG {a:Act} {d:Nat} {u:Value} (h:d<a.tmps.size):(a.put (some d) u).tmps.getD d undef=u:=by
 show(a.tmps.setIfInBounds d u).getD d undef=_
 rw[Array.getD_eq_getD_getElem?,Array.getElem?_setIfInBounds_self];simp[h]
theorem ZH (a:Act) (d:Option Nat) (u:Value):(a.put d u).tmps.size=a.tmps.size:=by
 cases d<;>simp[Act.put]
theorem ZD {a:Act} (d:Option Nat) (u:Value) (h:a.defers=[]):(a.put d u).defers=[]:=by
 cases d<;>exact h
theorem adI {o:Oper} {a:Act} {T:List AV} {L:List (Nat×List AV)} {H:List Blk} {v:AV} {E:Env} (aB:SimH E H) (bB:SimL E L) (aw:st o=true) (ag: ∀d,o.dst=some d→E.mL d=none) (h:mV P o (ci T) L H (fun r=>r=v)):
  ∃t u E',V3 E' v u∧o.dst=some t∧Step E E'∧SimH E' H∧SimL E' L∧(∀s,s≠t→E'.mL s=E.mL s)∧True∧ ∀(next:Act→World→Prop) Q,next (a.put o.dst u) E'.w→o.wp P a E.w next Q:=by
 obtain⟨dst,op,ty,pos,after,guard⟩:=o
 cases op
 all_goals try (cases aw;done)
 rename_i e
 obtain⟨z,aH,h⟩:=f_ (show SL P e dst L (fun r=>r=v) from h)
 obtain⟨t,aO,h⟩:=f_ h
 obtain⟨c,hc,h⟩:=f_ h
 obtain⟨hs,h⟩:=sv h
 obtain⟨U,ch⟩:=sv h
 have ch:AV.fZ t 0=v:=ch
 clear h
 subst ch
 have U:=ac5 U
 subst U
 obtain⟨i,zM,q1,q2,q3,q4⟩:=zL (E:=E) aH
 obtain⟨E',aN,e2,dc,hE,jr,_,oD⟩:=YN (ty:=e) aB bB (pn.alloc E.w (.cells zM.cells e (0,0))) hc (ag t aO) (RH hs q4)
 refine⟨t,_,E',jr,aO,e2,dc,hE,oD,trivial,fun next Q hk=> ?_⟩
 unfold Oper.wp
 rw[show execOp a.eval ⟨dst,.alloc e,ty,pos,after,guard⟩=(do pure (Next.value (←Instr.alloc e true (.tuple #[])))) from rfl]
 refine R4 (w':=E'.w) ?_ hk
 rw[aN]
 simp[Instr.alloc,zeroValue,typeInfo,q1,q2,newVar,newRow]
theorem afc [cL] (D:FO ops ord A): ∀(kP:Nat) (S:Array Bool) (a:Act) (w:World) (pre post:List Item) (E:Env) (T:List AV) (L:List (Nat×List AV)) (H:List Blk),
  S.size=ops.size→left ops.size S=kP→J_ ops S→Si P esc ops ord Q cj S a w pre post E T L H→wpAny P .any ops (pr cj Q) kP S a w:=by
 have fin: ∀(S:Array Bool) (a:Act) (w:World) (pre post:List Item) (E:Env) (T:List AV) (L:List (Nat×List AV)) (H:List Blk),(∀i,i<ops.size→S.getD i false=true)→Si P esc ops ord Q cj S a w pre post E T L H→pr cj Q .normal a w:=by
  intro S a w pre post E T L H eR I
  have ab:post=[]:=by
   cases post with
   | nil=>rfl
   | cons x r=>
    have h1:=I.FI x (List.mem_cons_self ..)
    rw[eR x.i (D.lt x (by rw[I.lI];simp))] at h1;cases h1
  subst ab
  refine⟨rfl,⟨T,L,H⟩,E,I.gF,I.w,I.oF,⟨I.h,I.l,fun t=> ?_,I.size⟩,I.Lr⟩
  rcases I.jD t with⟨x,hx,hu,_⟩ | h
  ·rw[eR x.i (D.lt x (by rw[I.lI];simp[hx]))] at hu;cases hu
  ·exact h
 intro kP
 induction kP with
 | zero=>
  intro S a w pre post E T L H hs hf hc I
  have eR:=alE hf
  refine⟨?_,fin S a w pre post E T L H eR I⟩
  cases ak:Region.ready .any ops S with
  | nil=>rfl
  | cons i l=>
   have:=ZW hs (i:=i) (by rw[ak];exact List.mem_cons_self ..)
   rw[eR i this.1] at this;cases this.2.1
 | succ kP bp=>
  intro S a w pre post E T L H hs hf hc I
  refine⟨fun ak=>fin S a w pre post E T L H (anh D hs ak) I,fun i hi=> ?_⟩
  obtain⟨aQ,tn,wu⟩:=ZW hs hi
  have Mh:=adK D hs hc i _ (vg aQ) wu
  have UL:(S.setIfInBounds i true).size=ops.size:=by simpa using hs
  have Hr:left ops.size (S.setIfInBounds i true)=kP:=by have:=alD hs aQ tn;omega
  have mi:J_ ops (S.setIfInBounds i true):=by
   intro j o aj ac e he hb
   rw[DC] at ac ⊢
   by_cases nY:i=j
   ·subst nY
    have:o=opI ops i:=by rw[vg aQ] at aj;exact(Option.some.inj aj).symm
    subst this
    split
    ·rfl
    ·exact wu e he hb
   ·rw[if_neg fun q=>nY q.1] at ac
    split
    ·rfl
    ·exact hc j o aj ac e he hb
  have PW: ∀j,(S.setIfInBounds i true).getD j false=false→S.getD j false=false∧j≠i:=fun j ac=>by
   rw[DC] at ac
   split at ac
   ·cases ac
   ·rename_i q;exact⟨ac,fun e=>q ⟨e.symm,by omega⟩⟩
  have Fa: ∀j,j≠i→S.getD j false=false→(S.setIfInBounds i true).getD j false=false:=fun j ac h=>by
   rw[DC,if_neg fun q=>ac q.1.symm];exact h
  obtain⟨y,aU,n1⟩:=D.all i aQ
  subst n1
  have n1:y.i=y.i:=rfl
  let de:List Nat:=(pre.filter fun x=> !S.getD x.i false).filterMap fun x=>(opI ops x.i).dst
  have rm: ∀t,t∈de↔ ∃x∈pre,S.getD x.i false=false∧(opI ops x.i).dst=some t:=fun t=>by
   simp only[de,List.mem_filterMap,List.mem_filter,Bool.not_eq_true']
   constructor
   ·rintro⟨x,⟨h1,h2⟩,aC⟩;exact⟨x,h1,h2,aC⟩
   ·rintro⟨x,h1,h2,aC⟩;exact⟨x,⟨h1,h2⟩,aC⟩
  have cd: ∀t,V3 E ((yl de T).getD t .undef) (a.tmps.getD t undef):=fun t=>by
   by_cases h:t∈de
   ·rw[(Hw de T t).1 h];exact V3.undef _ _
   ·rw[(Hw de T t).2 h]
    exact(I.jD t).resolve_left fun q=>h ((rm t).2 q)
  have DY: ∀t∈(opI ops y.i).looksAt ops,t ∉ de:=fun t aO hm=>by
   obtain⟨x,hx,hu,aY⟩:=(rm t).1 hm
   have:=Mh x.i (by rw[←n1];rw[←n1] at aO;exact D.aqe y aU t aO x (by rw[I.lI];simp[hx]) aY)
   rw[this] at hu;cases hu
  have Vy: ∀t∈(opI ops y.i).looksAt ops,V3 E (T.getD t .undef) (a.tmps.getD t undef):=fun t aO=>(I.jD t).resolve_left fun q=>DY t aO ((rm t).2 q)
  have UP: ∀t∈(opI ops y.i).looksAt ops,(yl de T).getD t .undef=T.getD t .undef:=fun t aO=>(Hw de T t).2 (DY t aO)
  have SK: ∀E':Env,(∀t,(opI ops y.i).dst≠some t→E'.mL t=E.mL t)→ ∀x∈ord,(S.setIfInBounds y.i true).getD x.i false=false→st (opI ops x.i)=true→x.q=true→ ∀d,(opI ops x.i).dst=some d→E'.mL d=none:=fun E' hml x hx hu aw aiy d aY=>by
   obtain⟨nz,sn⟩:=PW _ hu
   rw[hml d (D.apart.inj x hx y aU sn d aY)]
   exact I.bA x hx nz aw aiy d aY
  unfold wpOp
  rw[vg aQ]
  simp only
  have wq:y∈pre∨y∈post:=by rw[I.lI] at aU;exact List.mem_append.1 aU
  rcases wq with yy | yy
  ·
   obtain⟨U,v,run,F⟩:=I.facts y yy (by rw[n1];exact tn)
   rw[n1] at F
   have hw:=F.dR E a Vy I.size
   have next: ∀(u:Value) (E':Env),Step E E'→SimH E' H→SimL E' L→(∀t,(opI ops y.i).dst≠some t→E'.mL t=E.mL t)→V3 E' v u→wpAny P .any ops (pr cj Q) kP (S.setIfInBounds y.i true) (a.put (opI ops y.i).dst u) E'.w:=fun u E' a6 uT uU hml hv=>by
    refine bp _ _ _ pre post E' T L H UL Hr mi ⟨I.lI,fun x hx=>Fa _ (fun e=> ?_) (I.FI x hx),I.head,I.gF,fun x hx hu=>I.facts x hx (PW _ hu).1,fun t=> ?_,by rw[ZH];exact I.size,uT,uU,I.oF.step a6,SK E' hml,ZD _ _ I.Lr,rfl⟩
    ·have ja:=D.nodup
     rw[I.lI,List.map_append,List.nodup_append] at ja
     exact ja.2.2 y.i (List.mem_map_of_mem yy) x.i (List.mem_map_of_mem hx) (by rw[n1,e])
    ·by_cases aY:(opI ops y.i).dst=some t
     ·right
      rw[aY]
      by_cases au:t<T.length
      ·rw[F.put t aY au,ZG (by rw[←I.size];exact au)];exact hv
      ·rw[List.getD_eq_getElem?_getD,List.getElem?_eq_none (Nat.not_lt.1 au)];exact V3.undef _ _
     ·rcases I.jD t with⟨x,hx,hu,Ef⟩ | h
      ·exact .inl ⟨x,hx,Fa _ (fun e=>aY (by rw[←e];exact Ef)) hu,Ef⟩
      ·right;rw[ZE aY];exact h.le a6.le
   cases run with
   | true=>
    rw[if_pos hw]
    refine .inl ?_
    have rp:=F.uh rfl
    cases AE:st (opI ops y.i) with
    | true=>
     obtain⟨t,u,E',hv,ahB,q1,q2,q3,q4,_,c0⟩:=adI (P:=P) (a:=a) I.h I.l AE (fun t aO=>I.bA y aU (by rw[n1];exact tn) AE U t aO) rp
     rw[←I.w]
     exact c0 _ _ (next u E' q1 q2 q3 (fun s hs=>q4 s fun e=>hs (by rw[ahB,e])) hv)
    | false=>
    rw[Ar AE,←TY (IX UP)] at rp
    rw[←I.w]
    refine Oper.wp_mono (fun hB w' ⟨ea,u,E',he,e3,hqt,hv,aw⟩=> ?_) (T0 cd (Sub.refl L H) I.h I.l (G6 rp))
    subst he;subst e3;subst aw
    exact next u E' hqt.step (hqt.simH I.h) (hqt.simL I.h I.l) (fun t _=>by rw[hqt.mL]) hv
   | false=>
    rw[if_neg (by rw[hw];simp)]
    have hv:=F.no rfl
    subst hv
    rw[←I.w]
    exact next undef E (Step.refl E) I.h I.l (fun _ _=>rfl) ⟨[],rfl,ah.nil⟩
  ·
   have lB: ∃r,post=y::r:=by
    cases ab:post with
    | nil=>rw[ab] at yy;cases yy
    | cons x r=>
     rw[ab] at yy
     rcases List.mem_cons.1 yy with rfl | aiC
     ·exact⟨r,rfl⟩
     ·have hb:=D.mT
      rw[I.lI,ab] at hb
      have:=(hb.at (I.head x r ab)).1 y aiC
      rw[n1] at this
      have h1:=Mh x.i this
      rw[I.FI x (by rw[ab];exact List.mem_cons_self ..)] at h1;cases h1
   obtain⟨r,aid⟩:=lB
   subst aid
   have U:=I.head y r rfl
   have rp:=I.gF
   obtain⟨lT,run,sm,nw,hw,gy⟩:=Uu (P:=P) rp
   have hw:=hw E a Vy I.size
   have Mi:=D.apart
   rw[I.lI] at Mi
   have Vi:=ni.Xk Mi
   have ahj:=(show xF A [] (pre++y::r) from I.lI▸D.mT).at U
   have ja:=D.nodup
   rw[I.lI,List.map_append,List.map_cons,List.nodup_append,List.nodup_cons] at ja
   have aia: ∀x∈pre,S.getD x.i false=false→x.i∈y.kO:=fun x hx hu=>by
    rcases ahj.2 x (by simpa using hx) with h | h
    ·rw[n1] at h
     have:=Mh x.i h
     rw[hu] at this;cases this
    ·exact h

   have next: ∀(v:AV) (u:Value) (L':List (Nat×List AV)) (H':List Blk) (E':Env),Step E E'→SimH E' H'→SimL E' L'→(∀t,(opI ops y.i).dst≠some t→E'.mL t=E.mL t)→V3 E' v u→ls P esc ops r (putA lT (opI ops y.i).dst v) L' H' (fun T L H=>Q .normal ⟨T,L,H⟩)→
     (∀x∈pre,S.getD x.i false=false→ ∃v run,zN P ops L' H' lT (opI ops x.i) v run)→
     wpAny P .any ops (pr cj Q) kP (S.setIfInBounds y.i true) (a.put (opI ops y.i).dst u) E'.w:=by
    intro v u L' H' E' a6 aB bB hml hv hK My
    obtain⟨Pa,amZ,ra,MQ,ah9,aic,ahI,hlen,hQ,DR⟩:=PR r _ (ni.tail (p:=[y]) (ni.tail Mi)) hK
    have MR: ∀z∈Pa,z∈r:=fun z aH=>by rw[MQ];exact List.mem_append_left _ aH
    have UM: ∀t,(∀z∈y::r,(opI ops z.i).dst≠some t)→ra.getD t .undef=lT.getD t .undef:=fun t aO=>by
     rw[hQ t fun z aH=>aO z (List.mem_cons_of_mem _ (MR z aH)),I5 (aO y (List.mem_cons_self ..))]
    refine bp _ _ _ (pre++y::Pa) amZ E' ra L' H' UL Hr mi ⟨by rw[I.lI,MQ];simp,fun x hx=> ?_,aic,ahI,fun x hx hu=> ?_,fun t=> ?_,by rw[ZH,hlen,BP,sm];exact I.size,aB,bB,I.oF.step a6,SK E' hml,ZD _ _ I.Lr,rfl⟩
    ·have HY:x∈r:=by rw[MQ];exact List.mem_append_right _ hx
     exact Fa _ (fun e=>ja.2.1.1 (by rw[n1,←e];exact List.mem_map_of_mem HY)) (I.FI x (List.mem_cons_of_mem _ HY))
    ·obtain⟨nz,sn⟩:=PW _ hu
     rcases List.mem_append.1 hx with hx | hx
     ·refine⟨(I.facts x hx nz).1,?_⟩
      obtain⟨ea,run',F⟩:=My x hx nz
      refine⟨ea,run',F.mono (by rw[hlen,BP]) (fun t aO=>UM t fun z aH=>(Vi x hx).1 t aO z aH) fun d aY=>UM d fun z aH=>(Vi x hx).2 d aY z aH⟩
     ·rcases List.mem_cons.1 hx with rfl | hx
      ·exact absurd n1 sn
      ·exact⟨ah9 x hx,DR x hx⟩
    ·by_cases yj: ∃z∈Pa,(opI ops z.i).dst=some t
     ·obtain⟨z,aH,sp⟩:=yj
      refine .inl ⟨z,by simp[aH],Fa _ (fun e=>ja.2.1.1 (by rw[n1,←e];exact List.mem_map_of_mem (MR z aH))) (I.FI z (List.mem_cons_of_mem _ (MR z aH))),sp⟩
     ·have aN:=hQ t fun z aH q=>yj ⟨z,aH,q⟩
      by_cases aY:(opI ops y.i).dst=some t
      ·right
       rw[n1] at aY aN
       rw[aN,aY]
       by_cases au:t<lT.length
       ·rw[ZA au,ZG (by rw[←I.size,←sm];exact au)];exact hv
       ·rw[List.getD_eq_getElem?_getD,List.getElem?_eq_none (by rw[BP];exact Nat.not_lt.1 au)];exact V3.undef _ _
      ·rw[I5 aY,nw] at aN
       rcases I.jD t with⟨x,hx,hu,Ef⟩ | h
       ·refine .inl ⟨x,by simp[hx],Fa _ (fun e=>aY (by rw[n1,←e];exact Ef)) hu,Ef⟩
       ·right;rw[aN,ZE (by rw[←n1];exact aY)];exact h.le a6.le
   cases run with
   | true=>
    rw[if_pos hw]
    refine .inl ?_
    have gy:(match y.q with
     | true=>_
     | false=>lr P esc (opI ops y.i) (ci lT) L H fun v L' H'=>uI P ops y.kO lT L' H'∧ls P esc ops r (putA lT (opI ops y.i).dst v) L' H' (fun T L H=>Q .normal ⟨T,L,H⟩)):=gy
    rw[U] at gy
    have gy:lr P esc (opI ops y.i) (ci lT) L H fun v L' H'=>uI P ops y.kO lT L' H'∧ls P esc ops r (putA lT (opI ops y.i).dst v) L' H' (fun T L H=>Q .normal ⟨T,L,H⟩):=gy
    rw[←afx (IX fun t aO=>(UP t aO).trans (nw t).symm)] at gy
    rw[←I.w]
    refine Oper.wp_mono (fun hB w' ⟨v,u,L',H',E',⟨qA,hK⟩,e3,q1,q2,q3,q4,aw,hml⟩=> ?_) (evOp_sound cd I.h I.l gy)
    subst e3;subst aw
    refine next v u L' H' E' q1 q2 q3 hml q4 hK fun x hx hu=> ?_
    obtain⟨f1,f2,f3⟩:=Uf qA x.i (aia x hx hu)
    refine⟨_,true,⟨fun E a hs aH=> ?_,fun _=>f3,fun e=>(by cases e),fun d aY aQ=> ?_⟩⟩
    ·unfold Region.wanted
     cases DT:(opI ops x.i).guard with
     | none=>rfl
     | some g=>rw[DT] at f1;cases f1
    ·unfold vX;rw[aY]
   | false=>
    rw[if_neg (by rw[hw];simp)]
    rw[←I.w]
    refine next (.tup []) undef L H E (Step.refl E) I.h I.l (fun _ _=>rfl) ⟨[],rfl,ah.nil⟩ gy fun x hx hu=> ?_
    obtain⟨_,ea,run',F⟩:=I.facts x hx hu
    exact⟨ea,run',F.mono sm (fun t _=>nw t) fun d _=>nw d⟩
end
def Gl (ops:Array Oper):List Item→Bool
 | []=>true
 | x::r=>((opI ops x.i).looksAt ops).all (fun t=>(x::r).all fun y=>(opI ops y.i).dst !=some t)&&(match(opI ops x.i).dst with
  | some d=>r.all fun y=>(opI ops y.i).dst !=some d
  | none=>true)&&Gl ops r
theorem SU {ops:Array Oper}: ∀{l:List Item},Gl ops l=true→ni ops l
 | [],_=>trivial
 | x::r,h=>by
  simp only[Gl,Bool.and_eq_true] at h
  obtain⟨⟨h1,h2⟩,aC⟩:=h
  refine⟨fun t aO y aU=> ?_,fun d aY y aU=> ?_,SU aC⟩
  ·have:=List.all_eq_true.1 (List.all_eq_true.1 h1 t aO) y aU
   simpa using this
  ·rw[aY] at h2
   have:=List.all_eq_true.1 h2 y aU
   simpa using this
def Gr (A:Nat→List Nat):List Item→List Item→Bool
 | _,[]=>true
 | p,h::r=>(h.q || (r.all (fun y=>(A y.i).contains h.i)&&p.all fun x=>(A h.i).contains x.i || h.kO.contains x.i))&&Gr A (p++[h]) r
theorem SY {A:Nat→List Nat}: ∀{l p:List Item},Gr A p l=true→xF A p l
 | [],_,_=>trivial
 | h::r,p,hb=>by
  simp only[Gr,Bool.and_eq_true] at hb
  refine⟨fun U=> ?_,SY hb.2⟩
  have h1:=hb.1
  rw[U,Bool.false_or,Bool.and_eq_true] at h1
  refine⟨fun y aU=>by simpa using List.all_eq_true.1 h1.1 y aU,fun x hx=> ?_⟩
  have:=List.all_eq_true.1 h1.2 x hx
  simpa using this
def IR:List Nat→Bool
 | []=>true
 | x::r=> !r.contains x&&IR r
theorem YV: ∀{l:List Nat},IR l=true→l.Nodup
 | [],_=>List.nodup_nil
 | x::r,h=>by
  simp only[IR,Bool.and_eq_true] at h
  rw[List.nodup_cons]
  exact⟨by simpa using h.1,YV h.2⟩
def Al (ops:Array Oper) (ord:List Item) (A:Nat→List Nat):Bool:=
 (List.range ops.size).all (fun i=>(opI ops i).after.toList.all (fun e=> !Region.binds .any e || decide (e.on<i))&&(A i).all fun a=>(opI ops i).after.toList.any fun e=>Region.binds .any e&&(a==e.on || (A e.on).contains a))&&
 (List.range ops.size).all (fun i=>ord.any fun x=>x.i==i)&&ord.all (fun x=>decide (x.i<ops.size))&&IR (ord.map (·.i))&&
 ord.all (fun x=>((opI ops x.i).looksAt ops).all fun t=>ord.all fun y=>(opI ops y.i).dst !=some t || (A x.i).contains y.i)&&Gl ops ord&&Gr A [] ord
theorem afd {ops:Array Oper} {ord:List Item} {A:Nat→List Nat} (cm: ∀i,ops.size≤i→A i=[]) (h:Al ops ord A=true):FO ops ord A:=by
 simp only[Al,Bool.and_eq_true] at h
 obtain⟨⟨⟨⟨⟨⟨h1,h2⟩,aC⟩,bg⟩,ch⟩,cy⟩,hr⟩:=h
 have get: ∀i o,ops[i]?=some o→i<ops.size∧o=opI ops i:=fun i o aj=>by
  have aQ:i<ops.size:=by
   rcases Nat.lt_or_ge i ops.size with h | h
   ·exact h
   ·rw[Array.getElem?_eq_none h] at aj;cases aj
  rw[vg aQ] at aj
  exact⟨aQ,(Option.some.inj aj).symm⟩
 refine⟨fun i o aj e he hb=> ?_,fun i o aj a aw=> ?_,fun i hi=> ?_,fun x hx=> ?_,YV bg,fun x hx t aO y aU aY=> ?_,SU cy,SY hr⟩
 ·obtain⟨aQ,rfl⟩:=get i o aj
  have:=List.all_eq_true.1 h1 i (List.mem_range.2 aQ)
  rw[Bool.and_eq_true] at this
  have:=List.all_eq_true.1 this.1 e (by simpa using he)
  rw[hb] at this;simpa using this
 ·obtain⟨aQ,rfl⟩:=get i o aj
  have:=List.all_eq_true.1 h1 i (List.mem_range.2 aQ)
  rw[Bool.and_eq_true] at this
  have:=List.all_eq_true.1 this.2 a aw
  obtain⟨e,he,hc⟩:=List.any_eq_true.1 this
  rw[Bool.and_eq_true] at hc
  exact⟨e,by simpa using he,hc.1,by simpa using hc.2⟩
 ·obtain⟨x,hx,hc⟩:=List.any_eq_true.1 (List.all_eq_true.1 h2 i (List.mem_range.2 hi))
  exact⟨x,hx,by simpa using hc⟩
 ·simpa using List.all_eq_true.1 aC x hx
 ·have:=List.all_eq_true.1 (List.all_eq_true.1 (List.all_eq_true.1 ch x hx) t aO) y aU
  rw[Bool.or_eq_true] at this
  rcases this with h | h
  ·rw[aY] at h;simp at h
  ·simpa using h
def Di (li:List (List Nat)) (i:Nat):List Nat:=li.getD i []
theorem Env.TC (E:Env):Step E {E with w:=E.w.drew}:=
 ⟨⟨fun _ h=>h,fun _ h=>h,fun _ _=>rfl,fun _ _=>rfl,fun _=>Nat.le_refl _,fun _ _ h _=>⟨h,rfl,rfl⟩,fun _ _ h=>h⟩,rfl,rfl,rfl,Nat.le_refl _,fun _ _ _ _=>rfl,fun _ _ h=> .inl h,fun _ h=> .inl h,fun _ h=> .inl h,fun _ h=> .inl h⟩
theorem afg {E:Env} {H:List Blk} (h:SimH E H):SimH {E with w:=E.w.drew} H:=
 {h with
  heap:=fun b c hb=>by
   obtain⟨blk,an,ty,q1,cG,q2,q3,q4,cQ,c0⟩:=h.heap b c hb
   exact⟨blk,an,ty,q1,cG,q2,q3,q4,cQ,fun i j row a ak ac=>by obtain⟨u,hu,hv⟩:=c0 i j row a ak ac;exact⟨u,hu,hv.le (Env.TC E).le.bS⟩⟩}
theorem alC (n:Nat):left n (Array.replicate n false)=n:=by
 unfold left
 have:(List.range n).countP (fun j=> !(Array.replicate n false).getD j false)=(List.range n).countP (fun _=>true):=by
  refine List.countP_congr fun x hx=> ?_
  rw[Array.getD_eq_getD_getElem?,Array.getElem?_replicate]
  split<;>simp
 rw[this,List.countP_true,List.length_range]
def x6:List (Nat×List AV)→List (Nat×List AV)→Bool
 | [],_=>true
 | (t,_)::r,L=>(eV L t).isNone&&x6 r L
def xV (ops:Array Oper) (L:List (Nat×List AV)):List Item→Bool
 | []=>true
 | x::r=>(match x.q&&st (opI ops x.i) with
  | false=>true
  | true=>match(opI ops x.i).dst with
   | none=>true
   | some d=>(eV L d).isNone)&&xV ops L r
theorem Uk {E:Env} {L:List (Nat×List AV)} (bB:SimL E L): ∀{jI:List (Nat×List AV)},x6 jI L=true→SimL E (jI++L)
 | [],_=>bB
 | (t,c)::r,h=>by
  simp only[x6,Bool.and_eq_true,Option.isNone_iff_eq_none] at h
  exact(Uk bB h.2).cons (bB.none h.1)
theorem SM {ops:Array Oper} {E:Env} {L:List (Nat×List AV)} (bB:SimL E L): ∀{l:List Item},xV ops L l=true→ ∀x∈l,st (opI ops x.i)=true→x.q=true→ ∀d,(opI ops x.i).dst=some d→E.mL d=none
 | [],_,x,hx,_,_,_,_=>by cases hx
 | y::r,h,x,hx,aw,U,d,aY=>by
  simp only[xV,Bool.and_eq_true] at h
  rcases List.mem_cons.1 hx with rfl | hx
  ·have h1:=h.1
   rw[U,aw] at h1
   simp only[Bool.and_self] at h1
   rw[aY] at h1
   exact bB.none (by simpa using h1)
  ·exact SM bB h.2 x hx aw U d aY
theorem WpS.Z4 [cL] {P:Program} {esc:List Nat} {c:Code} {id:Nat} {ops:Array Oper} {Q:Exit→St→Prop} {T:List AV} {L:List (Nat×List AV)} {H:List Blk} (ord:List Item) (li:List (List Nat)) (hm:P.follows .mixedOrders=true)
  (au:li.length=ops.size) (aY:Al ops ord (Di li)=true) (e:c= .region id ops true) (jI:List (Nat×List AV)) (hf:x6 jI L=true) (aH:xV ops L ord=true) (h:ls P esc ops ord T (jI++L) H (fun T L H=>Q .normal ⟨T,L,H⟩)):WpS P c Q ⟨T,L,H⟩:=by
 subst e
 intro cj E a g s d
 have D:=afd (fun i hi=>by unfold Di;rw[List.getD_eq_getElem?_getD,List.getElem?_eq_none (by omega)];rfl) aY
 refine wp_region_any hm ?_
 obtain⟨pre,post,ra,ak,ab,aib,rp,hlen,hQ,DR⟩:=PR ord T D.apart h
 have tn: ∀j,(Array.replicate ops.size false).getD j false=false:=fun j=>by
  rw[Array.getD_eq_getD_getElem?,Array.getElem?_replicate];split<;>rfl
 have a6:=Env.TC E
 have hw:(show World from{E.w with drawn:=E.w.drawn+1})=({E with w:=E.w.drew}:Env).w:=rfl
 refine afc D ops.size _ a _ pre post {E with w:=E.w.drew} ra (jI++L) H (by simp) (alC _) (fun i o aj ac=> ?_) ⟨ak,fun x hx=>tn _,aib,rp,fun x hx _=>⟨ab x hx,DR x hx⟩,fun t=> ?_,by rw[hlen];exact s.size,afg s.h,Uk ?_ hf,g.step a6,fun x hx _ aw U d aY=>SM s.l aH x hx aw U d aY,d,rfl⟩
 ·rw[tn] at ac;cases ac
 ·by_cases yj: ∃z∈pre,(opI ops z.i).dst=some t
  ·obtain⟨z,aH,sp⟩:=yj
   exact .inl ⟨z,aH,tn _,sp⟩
  ·right
   rw[hQ t fun z aH q=>yj ⟨z,aH,q⟩]
   exact(s.jD t).le a6.le
 ·intro t c hm
  obtain⟨cells,an,ty,q1,q2,q3⟩:=s.l t c hm
  exact⟨cells,an,ty,q1,q2,q3.mono fun _ _ k=>k.le a6.le.bS⟩
theorem wW {φ ψ:Prop} (e:φ=ψ) (h:ψ):φ:=e▸h
def EC (ops:Array Oper):List (Oper×Bool):=ops.toList.map fun o=>(o,true)
theorem WpS.Z5 [cL] {P:Program} {esc:List Nat} {c:Code} {id:Nat} {ops:Array Oper} {Q:Exit→St→Prop} {T:List AV} {L:List (Nat×List AV)} {H:List Blk} (e:c= .region id ops false)
  (h:evOps P esc ops (EC ops) T L H (fun T L H=>Q .normal ⟨T,L,H⟩)):WpS P c Q ⟨T,L,H⟩:=by
 subst e
 intro cj E a g s d
 refine wp_region_list ?_
 have:=G5 (EC ops) T L H E a g s d h
 have e2:(EC ops).map (·.1)=ops.toList:=by
  unfold EC;rw[List.map_map];exact List.map_id' _
 rwa [e2] at this
def gP:List (Nat×AV)→Nat→AV
 | [],_=> .undef
 | (k,v)::r,t=>match Nat.beq k t with
  | true=>v
  | false=>gP r t
def nt:List (Nat×AV)→Nat→List (Nat×AV)
 | [],_=>[]
 | (k,v)::r,t=>match Nat.beq k t with
  | true=>nt r t
  | false=>(k,v)::nt r t
def e5 (n:Nat):List (Nat×AV)→Bool
 | []=>true
 | (k,_)::r=>match Nat.blt k n with
  | true=>e5 n r
  | false=>false
@[irreducible] def bm (n:Nat) (A:List (Nat×AV)):List AV:=(List.range n).map (gP A)
def qN (n:Nat) (A:List (Nat×AV)) (dst:Option Nat) (v:AV):List (Nat×AV):=match dst with
 | none=>A
 | some d=>match Nat.blt d n with
  | true=>(d,v)::nt A d
  | false=>A
def sw (A:List (Nat×AV)):Operand→AV
 | .tmp t=>gP A t
 | .const v=>ri v
 | .func f=> .fn f []
 | .global _=> .undef
theorem alW (A:List (Nat×AV)) (d t:Nat):gP (nt A d) t=if d=t then .undef else gP A t:=by
 induction A with
 | nil=>simp[nt,gP]
 | cons p r bp=>
  obtain⟨k,v⟩:=p
  have HI:gP ((k,v)::r) t=match Nat.beq k t with
   | true=>v
   | false=>gP r t:=rfl
  rw[HI]
  cases h1:Nat.beq k d with
  | true=>
   have aN:=Nat.eq_of_beq_eq_true h1
   rw[show nt ((k,v)::r) d=nt r d by simp[nt,h1],bp]
   subst aN
   cases h2:Nat.beq k t with
   | true=>have e2:=Nat.eq_of_beq_eq_true h2;simp[e2]
   | false=>rfl
  | false=>
   rw[show nt ((k,v)::r) d=(k,v)::nt r d by simp[nt,h1],show gP ((k,v)::nt r d) t=match Nat.beq k t with
    | true=>v
    | false=>gP (nt r d) t from rfl]
   cases h2:Nat.beq k t with
   | true=>
    have e2:=Nat.eq_of_beq_eq_true h2
    have: ¬d=t:=fun e=>by subst e;subst e2;rw[Nat.beq_refl] at h1;cases h1
    simp[this]
   | false=>simp only;rw[bp]
theorem Ys {n:Nat}: ∀{A:List (Nat×AV)} {t:Nat},e5 n A=true→n≤t→gP A t= .undef
 | [],t,_,_=>rfl
 | (k,v)::r,t,h,aO=>by
  unfold e5 at h
  split at h
  ·rename_i hk
   have hk:k<n:=by rw[←Nat.blt_eq];exact hk
   unfold gP
   cases h2:Nat.beq k t with
   | true=>have:=Nat.eq_of_beq_eq_true h2;omega
   | false=>exact Ys h aO
  ·cases h
theorem OP {n d:Nat}: ∀{A:List (Nat×AV)},e5 n A=true→e5 n (nt A d)=true
 | [],h=>rfl
 | (k,v)::r,h=>by
  unfold e5 at h
  split at h
  ·rename_i hk
   unfold nt
   split
   ·exact OP h
   ·unfold e5;rw[hk];exact OP h
  ·cases h
theorem OQ {n:Nat} {A:List (Nat×AV)} (h:e5 n A=true) (dst:Option Nat) (v:AV):e5 n (qN n A dst v)=true:=by
 unfold qN
 split
 ·exact h
 ·split
  ·rename_i aY;unfold e5;rw[aY];exact OP h
  ·exact h
theorem wQ (n:Nat) (A:List (Nat×AV)):(bm n A).length=n:=by unfold bm;simp
theorem tI {n:Nat} {A:List (Nat×AV)} (h:e5 n A=true) (t:Nat):(bm n A).getD t .undef=gP A t:=by
 unfold bm
 rw[List.getD_eq_getElem?_getD,List.getElem?_map]
 rcases Nat.lt_or_ge t n with aQ | gO
 ·rw[List.getElem?_range aQ];rfl
 ·rw[List.getElem?_eq_none (by simpa using gO),Ys h gO];rfl
theorem OS {n:Nat} {A:List (Nat×AV)} (dst:Option Nat) (v:AV):putA (bm n A) dst v=bm n (qN n A dst v):=by
 cases dst with
 | none=>rfl
 | some d=>
  show(bm n A).set d v=bm n (match Nat.blt d n with
   | true=>(d,v)::nt A d
   | false=>A)
  cases aY:Nat.blt d n with
  | true=>
   apply List.ext_getElem?
   intro t
   unfold bm
   rw[List.getElem?_set]
   simp only[List.length_map,List.length_range,List.getElem?_map]
   rcases Nat.lt_or_ge t n with aQ | gO
   ·rw[List.getElem?_range aQ]
    by_cases he:d=t
    ·subst he;simp[aQ,gP]
    ·have hb:Nat.beq d t=false:=by
      cases U:Nat.beq d t with
      | true=>exact absurd (Nat.eq_of_beq_eq_true U) he
      | false=>rfl
     simp[he,gP,hb,alW]
   ·rw[List.getElem?_eq_none (l:=List.range n) (by simpa using gO)]
    by_cases he:d=t
    ·subst he;simp[Nat.not_lt.2 gO]
    ·simp[he]
  | false=>
   have: ¬d<n:=fun h=>by rw[←Nat.blt_eq,aY] at h;cases h
   exact List.set_eq_of_length_le (by rw[wQ];omega)
theorem IJ {n:Nat} {A:List (Nat×AV)} (h:e5 n A=true):ci (bm n A)=sw A:=by
 funext o
 cases o with
 | tmp t=>exact tI h t
 | _=>rfl
theorem YD {n:Nat} {A:List (Nat×AV)} (h:e5 n A=true) {t:Nat} {b:Bool} (hb:gP A t= .bool b):(bm n A).set t (.bool b)=bm n A:=by
 apply List.ext_getElem?
 intro s
 rw[List.getElem?_set]
 by_cases he:t=s
 ·subst he
  rw[if_pos rfl]
  rcases Nat.lt_or_ge t n with aQ | gO
  ·rw[if_pos (by rw[wQ];exact aQ)]
   unfold bm
   rw[List.getElem?_map,List.getElem?_range aQ]
   show _=some (gP A t)
   rw[hb]
  ·rw[if_neg (by rw[wQ];omega),List.getElem?_eq_none (by rw[wQ];omega)]
 ·rw[if_neg he]
def v8 (ops:Array Oper) (o:Oper) (A:List (Nat×AV)) (x y:Prop):Prop:=match o.guard with
 | none=>x
 | some (j,dR)=>match(ops[j]?).bind (·.dst) with
  | none=>False
  | some t=>match gP A t with
   | .bool b=>(match b with
    | true=>(match dR with
     | true=>x
     | false=>y)
    | false=>(match dR with
     | true=>y
     | false=>x))
   | .tup []=>y
   | _=>False
theorem Us {ops:Array Oper} {o:Oper} {n:Nat} {A:List (Nat×AV)} (h:e5 n A=true) {x y:List AV→Prop}:qu ops true o (bm n A) x y=v8 ops o A (x (bm n A)) (y (bm n A)):=by
 unfold qu v8
 cases o.guard with
 | none=>rfl
 | some g=>
  obtain⟨j,dR⟩:=g
  simp only
  cases(ops[j]?).bind (·.dst) with
  | none=>rfl
  | some t=>
   simp only
   rw[tI h t]
   cases hb:gP A t with
   | bool b=>
    cases b with
    | true=>simp only[r7];rw[YD h hb];cases dR<;>rfl
    | false=>simp only[r7];rw[YD h hb];cases dR<;>rfl
   | tup l=>cases l<;>rfl
   | _=>rfl
def evS (P:Program) (esc:List Nat) (ops:Array Oper) (n:Nat):List Oper→List (Nat×AV)→List (Nat×List AV)→List Blk→(List (Nat×AV)→List (Nat×List AV)→List Blk→Prop)→Prop
 | [],A,L,H,K=>K A L H
 | o::rest,A,L,H,K=>v8 ops o A
   (match o.op with
    | .pick c x y=>rf (sw A c) fun z=>(match z with
     | true=>evS P esc ops n rest (qN n A o.dst (sw A x)) L H K
     | false=>evS P esc ops n rest (qN n A o.dst (sw A y)) L H K)
    | _=>lr P esc o (sw A) L H fun v L' H'=>evS P esc ops n rest (qN n A o.dst v) L' H' K)
   (evS P esc ops n rest (qN n A o.dst (.tup [])) L H K)
theorem LJ {P:Program} {esc:List Nat} {ops:Array Oper} {n:Nat} {K:List AV→List (Nat×List AV)→List Blk→Prop}: ∀(l:List Oper) (A:List (Nat×AV)) (L:List (Nat×List AV)) (H:List Blk),e5 n A=true→
  evOps P esc ops (l.map fun o=>(o,true)) (bm n A) L H K=evS P esc ops n l A L H fun A L H=>K (bm n A) L H
 | [],A,L,H,h=>rfl
 | o::rest,A,L,H,h=>by
  show qu ops true o (bm n A) _ _=_
  rw[Us h]
  show v8 ops o A _ _=v8 ops o A _ _
  have e2:evOps P esc ops (rest.map fun o=>(o,true)) (putA (bm n A) o.dst (.tup [])) L H K=evS P esc ops n rest (qN n A o.dst (.tup [])) L H fun A L H=>K (bm n A) L H:=by
   rw[OS,LJ rest _ _ _ (OQ h _ _)]
  have LB: ∀v L H,evOps P esc ops (rest.map fun o=>(o,true)) (putA (bm n A) o.dst v) L H K=evS P esc ops n rest (qN n A o.dst v) L H fun A L H=>K (bm n A) L H:=fun v L H=>by
   rw[OS,LJ rest _ _ _ (OQ h _ _)]
  rw[e2]
  congr 1
  unfold ze
  rw[IJ h]
  cases gx:o.op<;>simp only[LB]
  case pick c x y=>
   unfold rf
   cases sw A c<;>first | rfl | (rename_i z;cases z<;>rfl)
theorem WpS.Jf [cL] {P:Program} {esc:List Nat} {c:Code} {id n:Nat} {ops:Array Oper} {Q:Exit→St→Prop} {A:List (Nat×AV)} {L:List (Nat×List AV)} {H:List Blk} (e:c= .region id ops false) (ag:e5 n A=true)
  (h:evS P esc ops n (ops.toList.drop 0) A L H (fun A L H=>Q .normal ⟨bm n A,L,H⟩)):WpS P c Q ⟨bm n A,L,H⟩:=
 WpS.Z5 (esc:=esc) e (by unfold EC;rw[LJ _ _ _ _ ag];exact h)
def Lw (o:Oper) (A:List (Nat×AV)):AV:=match o.dst with
 | some d=>gP A d
 | none=> .undef
def sb (P:Program) (ops:Array Oper):List Nat→List (Nat×AV)→List (Nat×List AV)→List Blk→Prop
 | [],_,_,_=>True
 | i::r,A,L,H=>((opI ops i).guard.isNone=true∧(opI ops i).dst.isSome=true∧mV P (opI ops i) (sw A) L H (fun v=>v=Lw (opI ops i) A))∧sb P ops r A L H
def evSD (P:Program) (esc:List Nat) (ops:Array Oper) (n:Nat):List Item→List (Nat×AV)→List (Nat×List AV)→List Blk→(List (Nat×AV)→List (Nat×List AV)→List Blk→Prop)→Prop
 | [],A,L,H,K=>K A L H
 | x::rest,A,L,H,K=>v8 ops (opI ops x.i) A
   (match x.q with
    | true=>mV P (opI ops x.i) (sw A) L H fun v=>evSD P esc ops n rest (qN n A (opI ops x.i).dst v) L H K
    | false=>lr P esc (opI ops x.i) (sw A) L H fun v L' H'=>sb P ops x.kO A L' H'∧evSD P esc ops n rest (qN n A (opI ops x.i).dst v) L' H' K)
   (evSD P esc ops n rest (qN n A (opI ops x.i).dst (.tup [])) L H K)
theorem Ug {P:Program} {ops:Array Oper} {n:Nat} {A:List (Nat×AV)} {L:List (Nat×List AV)} {H:List Blk} (h:e5 n A=true): ∀l:List Nat,uI P ops l (bm n A) L H=sb P ops l A L H
 | []=>rfl
 | i::r=>by
  show(_∧_)=(_∧_)
  rw[Ug h r,IJ h]
  have:vX (opI ops i) (bm n A)=Lw (opI ops i) A:=by
   unfold vX Lw
   cases(opI ops i).dst with
   | none=>rfl
   | some d=>exact tI h d
  rw[this]
theorem TW {P:Program} {esc:List Nat} {ops:Array Oper} {n:Nat} {K:List AV→List (Nat×List AV)→List Blk→Prop}: ∀(l:List Item) (A:List (Nat×AV)) (L:List (Nat×List AV)) (H:List Blk),l.all (·.lit)=true→e5 n A=true→
  ls P esc ops l (bm n A) L H K=evSD P esc ops n l A L H fun A L H=>K (bm n A) L H
 | [],A,L,H,au,h=>rfl
 | x::rest,A,L,H,au,h=>by
  simp only[List.all_cons,Bool.and_eq_true] at au
  show qu ops x.lit (opI ops x.i) (bm n A) _ _=_
  rw[au.1,Us h]
  show v8 ops (opI ops x.i) A _ _=v8 ops (opI ops x.i) A _ _
  have LB: ∀v L H,ls P esc ops rest (putA (bm n A) (opI ops x.i).dst v) L H K=evSD P esc ops n rest (qN n A (opI ops x.i).dst v) L H fun A L H=>K (bm n A) L H:=fun v L H=>by
   rw[OS,TW rest _ _ _ au.2 (OQ h _ _)]
  simp only[LB,IJ h,Ug h]
  first
  | done
  | (cases x.q<;>rfl)
theorem WpS.ano [cL] {P:Program} {esc:List Nat} {c:Code} {id n:Nat} {ops:Array Oper} {Q:Exit→St→Prop} {A:List (Nat×AV)} {L:List (Nat×List AV)} {H:List Blk} (ord:List Item) (li:List (List Nat)) (hm:P.follows .mixedOrders=true)
  (au:li.length=ops.size) (aY:Al ops ord (Di li)=true) (MH:ord.all (·.lit)=true) (e:c= .region id ops true) (ag:e5 n A=true) (jI:List (Nat×List AV)) (hf:x6 jI L=true) (aH:xV ops L ord=true) (h:evSD P esc ops n (ord.drop 0) A (jI++L) H (fun A L H=>Q .normal ⟨bm n A,L,H⟩)):WpS P c Q ⟨bm n A,L,H⟩:=
 WpS.Z4 (esc:=esc) ord li hm au aY e jI hf aH (by rw[TW _ _ _ _ MH ag];exact h)
theorem Weak.jD [cL] {T T':List AV} {L:List (Nat×List AV)} {H:List Blk} (au:T'.length=T.length) (h: ∀t,T'.getD t .undef=T.getD t .undef∨T'.getD t .undef= .undef):Weak ⟨T,L,H⟩ ⟨T',L,H⟩:=fun cj E tmps g s=>
 ⟨E,rfl,g,s.h,s.l,fun t=>by
  show V3 E (T'.getD t .undef) _
  rcases h t with e | e<;>rw[e]
  ·exact s.jD t
  ·exact V3.undef _ _,by show T'.length=_;rw[au];exact s.size⟩
def pV (A:List (Nat×AV)):List (Nat×AV)→List (Nat×AV)
 | []=>[]
 | (k,_)::r=>(k,gP A k)::pV A r
theorem OM {A:List (Nat×AV)}: ∀(B:List (Nat×AV)) (t:Nat),gP (pV A B) t=gP A t∨gP (pV A B) t= .undef
 | [],t=> .inr rfl
 | (k,v)::r,t=>by
  show(match Nat.beq k t with
   | true=>gP A k
   | false=>gP (pV A r) t)=gP A t∨_
  cases h:Nat.beq k t with
  | true=>have:=Nat.eq_of_beq_eq_true h;subst this;exact .inl rfl
  | false=>
   rcases OM r t with e | e
   ·exact .inl e
   ·right;show(match Nat.beq k t with
     | true=>gP A k
     | false=>gP (pV A r) t)=_
    rw[h];exact e
def ED (c3:List Nat):List (Nat×AV)→Bool
 | []=>true
 | (_,v)::r=>rB c3 v&&ED c3 r
theorem Yu {c3:List Nat}: ∀{A:List (Nat×AV)},ED c3 A=true→ ∀t,rB c3 (gP A t)=true
 | [],h,t=>rfl
 | (k,v)::r,h,t=>by
  simp only[ED,Bool.and_eq_true] at h
  unfold gP
  cases Nat.beq k t with
  | true=>exact h.1
  | false=>exact Yu h.2 t
theorem aqv [cL] {n:Nat} {A A':List (Nat×AV)} {L L':List (Nat×List AV)} {H:List Blk} (c3:List Nat) (cm:e5 n A=true) (oG:e5 n A'=true) (ab:ED c3 A'=true) (nu:pV A A'=A') (hq:qq c3 L=L'):Weak ⟨bm n A,L,H⟩ ⟨bm n A',L',H⟩:=by
 subst hq
 refine(Weak.jD (T':=bm n A') (by rw[wQ,wQ]) fun t=> ?_).trans (Weak.qq c3 ?_)
 ·rw[tI cm,tI oG,←nu];exact OM A' t
 ·rw[List.all_eq_true]
  intro a aw
  obtain⟨t,aO⟩:=List.mem_iff_getElem?.1 aw
  have e:(bm n A').getD t .undef=a:=by rw[List.getD_eq_getElem?_getD,aO];rfl
  rw[tI oG] at e
  rw[←e]
  exact Yu ab t
theorem CV [cL] {n:Nat} {A A':List (Nat×AV)} {L:List (Nat×List AV)} {H:List Blk} (cm:e5 n A=true) (oG:e5 n A'=true) (nu:pV A A'=A'):Weak ⟨bm n A,L,H⟩ ⟨bm n A',L,H⟩:=
 Weak.jD (T':=bm n A') (by rw[wQ,wQ]) fun t=>by rw[tI cm,tI oG,←nu];exact OM A' t
theorem aeT {n:Nat} {A:List (Nat×AV)} {o:Operand} {b:Bool} {L:List (Nat×List AV)} {H:List Blk} (ag:e5 n A=true) (h:sw A o= .bool b):ci (St.mk (bm n A) L H).T o= .bool b:=by
 show ci (bm n A) o=_
 rw[IJ ag,h]
def vo (P:Program) (A:List (Nat×AV)) (L:List (Nat×List AV)) (H:List Blk):List ResultVar→(List AV→Prop)→Prop
 | [],K=>K []
 | .tmp t::rs,K=>vo P A L H rs fun l=>K (gP A t::l)
 | .cell a t::rs,K=>rz P t (gP A a) L H fun x=>vo P A L H rs fun l=>K (x::l)
theorem Pz {P:Program} {n:Nat} {A:List (Nat×AV)} {L:List (Nat×List AV)} {H:List Blk} (ag:e5 n A=true): ∀(rs:List ResultVar) (K:List AV→Prop),vn P ⟨bm n A,L,H⟩ rs K=vo P A L H rs K
 | [],K=>rfl
 | .tmp t::rs,K=>by
  show vn P ⟨bm n A,L,H⟩ rs (fun l=>K ((bm n A).getD t .undef::l))=vo P A L H rs fun l=>K (gP A t::l)
  rw[tI ag];exact Pz ag rs _
 | .cell a t::rs,K=>by
  show rz P t ((bm n A).getD a .undef) L H _=rz P t (gP A a) L H _
  rw[tI ag]
  congr 1
  funext x
  exact Pz ag rs _
theorem PE {P:Program} {fn:Func} {n:Nat} {A:List (Nat×AV)} {L:List (Nat×List AV)} {H:List Blk} {r:AV} {Q:AV→List Blk→Prop} (ag:e5 n A=true) (l:List AV) (e: ∀K,vo P A L H fn.results.toList K=K l) (ak:l.all lF=true) (hw:ug l=r) (h:Q r H):xO P fn Q .ret ⟨bm n A,L,H⟩:=by
 show xb P fn ⟨bm n A,L,H⟩ Q
 unfold xb
 rw[Pz ag,e]
 exact⟨ak,by rw[hw];exact h⟩
theorem afu {P:Program} {fn:Func} {n:Nat} {A:List (Nat×AV)} {L:List (Nat×List AV)} {H:List Blk} {r:AV} {Q:AV→List Blk→Prop} (ag:e5 n A=true) (l:List AV) (e: ∀K,vo P A L H fn.results.toList K=K l) (ak:l.all lF=true) (hw:ug l=r) (h:Q r H):xO P fn Q .normal ⟨bm n A,L,H⟩:=
 PE (fn:=fn) ag l e ak hw h
theorem TX {P:Program} {esc:List Nat} {ops:Array Oper} {n:Nat} {K:List (Nat×AV)→List (Nat×List AV)→List Blk→Prop}: ∀(wL kV:List Oper) (A:List (Nat×AV)) (L:List (Nat×List AV)) (H:List Blk),
  evS P esc ops n (wL++kV) A L H K=evS P esc ops n wL A L H fun A L H=>evS P esc ops n kV A L H K
 | [],kV,A,L,H=>rfl
 | o::r,kV,A,L,H=>by
  show evS P esc ops n (o::(r++kV)) A L H K=_
  simp only[evS,TX r kV]
theorem kN {P:Program} {esc:List Nat} {ops:Array Oper} {n:Nat} {K:List (Nat×AV)→List (Nat×List AV)→List Blk→Prop} {A:List (Nat×AV)} {L:List (Nat×List AV)} {H:List Blk} (X:List Oper) (i k:Nat):
  evS P esc ops n (X.drop i) A L H K=evS P esc ops n ((X.drop i).take k) A L H fun A L H=>evS P esc ops n (X.drop (i+k)) A L H K:=by
 rw[←TX,←List.drop_drop,List.take_append_drop]
theorem TU {P:Program} {esc:List Nat} {ops:Array Oper} {n:Nat} {K:List (Nat×AV)→List (Nat×List AV)→List Blk→Prop}: ∀(wL kV:List Item) (A:List (Nat×AV)) (L:List (Nat×List AV)) (H:List Blk),
  evSD P esc ops n (wL++kV) A L H K=evSD P esc ops n wL A L H fun A L H=>evSD P esc ops n kV A L H K
 | [],kV,A,L,H=>rfl
 | o::r,kV,A,L,H=>by
  show evSD P esc ops n (o::(r++kV)) A L H K=_
  simp only[evSD,TU r kV]
theorem mW {P:Program} {esc:List Nat} {ops:Array Oper} {n:Nat} {K:List (Nat×AV)→List (Nat×List AV)→List Blk→Prop} {A:List (Nat×AV)} {L:List (Nat×List AV)} {H:List Blk} (X:List Item) (i k:Nat):
  evSD P esc ops n (X.drop i) A L H K=evSD P esc ops n ((X.drop i).take k) A L H fun A L H=>evSD P esc ops n (X.drop (i+k)) A L H K:=by
 rw[←TU,←List.drop_drop,List.take_append_drop]
theorem map_set {α β:Type} (f:α→β) (xs:List α) (i:Nat) (x:α):(List.map f xs).set i (f x)=List.map f (xs.set i x):=by
 rw[List.map_set]
theorem p_ {H:List Blk} {α:Type} {eT eF:α→List AV} {b g sz n:Nat} {full:Bool} {xs ys:List α} (ag:n=xs.length) (hb:H[b]?=some ⟨g,sz,List.map eT xs⟩) (hc: ∀x,l_ H (eT x) (eF x)) (h:xs.length≤4611686018427387904∧xs=ys):
  gT H (.ref b g 0 n full) (.aP (List.map eF ys) false true):=ag▸ab9 hb hc h
theorem o8 {L:List (Nat×List AV)} {H:List Blk} {α:Type} {eT eF:α→List AV} {b g sz n:Nat} {full:Bool} {xs:List α} (aA:n=xs.length) (hb:H[b]?=some ⟨g,sz,List.map eT xs⟩) (hc: ∀x,q0 L H (eT x) (eF x)) (ag:xs.length≤4611686018427387904):
  gD L H (.ref b g 0 n full) (.aP (List.map eF xs) false false):=aA▸aan hb hc ag
theorem Jl {α:Type} {enc:α→List AV} {k:Nat} (h: ∀x,(enc x).length=k∧(enc x).all kb=true) (ys:List α):tR k (List.map enc ys):=fun row ak=>by
 obtain⟨x,_,rfl⟩:=List.mem_map.1 ak
 exact⟨(h x).1,fun a aw=>List.all_eq_true.1 (h x).2 a aw⟩
theorem Ez {α:Type} {c:Bool} {x y:List α} {n:Nat} (hx:x.length=n) (aU:y.length=n):(bif c then x else y).length=n:=by cases c<;>assumption
def re:List (Nat×AV)→List (Nat×AV)→List (Nat×AV)
 | [],R=>R
 | p::N,R=>p::re N R
def TB:List (Nat×AV)→List (Nat×AV)→List (Nat×AV)
 | [],A=>A
 | p::N,A=>nt (TB N A) p.1
def ho (N A:List (Nat×AV)):List (Nat×AV):=re N (TB N A)
def dg (d:Option Nat) (v:AV) (N A:List (Nat×AV)):List (Nat×AV):=match d with
 | some d=>ho ((d,v)::N) A
 | none=>ho N A
def zk:List (Nat×AV)→Nat→AV→List (Nat×AV)
 | [],_,_=>[]
 | (k,u)::r,t,v=>match Nat.beq k t with
  | true=>(k,v)::r
  | false=>(k,u)::zk r t v
abbrev ad (n:Int):AV:= .int .i64 n
abbrev aq (b:Bool):AV:= .bool b
abbrev bA {α:Type} (e:α→List AV) (x:List α):AV:= .aP (List.map e x) false false
abbrev cu:AV:= .aP [] true true
abbrev pt {α:Type} (e:α→List AV) (x:List α):AV:= .aP (List.map e x) false true
abbrev ap (b g n:Nat):AV:= .ref b g 0 n false
abbrev aJ (t c:Nat):AV:= .fZ t c
abbrev t0:AV:= .tup []
def gQ (l:List Nat):List (Nat×AV):=l.map fun i=>(i,.tup [])
def YX:Bool→List Nat→Bool×List Nat
 | b,0::m=>YX (!b) m
 | b,m=>(b,m)
def mG {α:Type} (b:Bool) (m:List Nat):List α→List α
 | []=>[]
 | x::l=>match YX b m with
  | (true,(n+1)::m)=>x::mG true (n::m) l
  | (false,(n+1)::m)=>mG false (n::m) l
  | _=>[]
theorem E9 {α:Type} {n:Nat} {m:List Nat} {x:α} {l:List α}:mG true ((n+1)::m) (x::l)=x::mG true (n::m) l:=rfl
theorem E8 {α:Type} {n:Nat} {m:List Nat} {x:α} {l:List α}:mG false ((n+1)::m) (x::l)=mG false (n::m) l:=rfl
theorem E_ {α:Type} {m:List Nat} {l:List α}:mG true (0::m) l=mG false m l:=by cases l<;>rfl
theorem self {α:Type} {m:List Nat} {l:List α}:mG false (0::m) l=mG true m l:=by cases l<;>rfl
theorem E7 {α:Type} {b:Bool} {l:List α}:mG b [] l=[]:=by cases b<;>cases l<;>rfl
def jb (j:Nat) (r:List (List AV)):List Blk→List Blk
 | []=>[]
 | b::H=>match j with
  | 0=>⟨b.bk,b.sz,r⟩::H
  | j+1=>b::jb j r H
def iz (i j:Nat) (a:AV):List (Nat×List AV)→List (Nat×List AV)
 | []=>[]
 | x::L=>match i with
  | 0=>(x.1,x.2.set j a)::L
  | i+1=>x::iz i j a L
def er (i:Nat) (a:List AV):List (Nat×List AV)→List (Nat×List AV)
 | []=>[]
 | x::L=>match i with
  | 0=>(x.1,a)::L
  | i+1=>x::er i a L
def eG (i:Nat) (b:Blk):List Blk→List Blk
 | []=>[]
 | x::H=>match i with
  | 0=>b::H
  | i+1=>x::eG i b H
section
variable {i j k:Nat} {a:AV} {c l:List AV} {L:List (Nat×List AV)} {x:Nat×List AV} {b y:Blk} {H:List Blk}
theorem TF:iz 0 j a ((k,c)::L)=(k,c.set j a)::L:=rfl
theorem TG:iz (i+1) j a (x::L)=x::iz i j a L:=rfl
theorem TN:er 0 l ((k,c)::L)=(k,l)::L:=rfl
theorem TO:er (i+1) l (x::L)=x::er i l L:=rfl
theorem S3:eG 0 b (y::H)=b::H:=rfl
theorem S4:eG (i+1) b (y::H)=y::eG i b H:=rfl
end
abbrev cz (i:Nat):Item:=⟨i,true,true,[]⟩
abbrev rg (a b:Nat):List Nat:=List.range' a (b - a)
def hA [cL] {V:Type} (S:V→St) (pk:V→Prop) (Q:Exit→St→Prop) (ex:Exit) (s:St):Prop:=match ex with
 | .normal=> ∃v,pk v∧Weak s (S v)
 | ex=>Q ex s
theorem hA.normal [cL] {V:Type} {S:V→St} {pk:V→Prop} {Q:Exit→St→Prop} {s:St} (v:V) (h:pk v) (hw:Weak s (S v)):hA S pk Q .normal s:=⟨v,h,hw⟩
theorem hA.ret [cL] {V:Type} {S:V→St} {pk:V→Prop} {Q:Exit→St→Prop} {s:St} (h:Q .ret s):hA S pk Q .ret s:=h
theorem hA.exit [cL] {V:Type} {S:V→St} {pk:V→Prop} {Q:Exit→St→Prop} {s:St} {id:Nat} (h:Q (.exit id) s):hA S pk Q (.exit id) s:=h
section
variable {P:Program} {b:Code} {k n:Nat} {Q:Exit→St→Prop} {ar:St} {A A':List (Nat×AV)} {L L':List (Nat×List AV)} {H H':List Blk}
theorem k4 [cL] (S:St) (ψ:Prop) (h:WpS P (bQ b (2*k)) (b_ S ψ Q) ar) (U:ψ→WpS P (bQ b (2*k+1)) Q S) (e:bQ b k= .seq (bQ b (2*k)) (bQ b (2*k+1)):=by kernel_rfl):WpS P (bQ b k) Q ar:=WpS.B2 S e h U
theorem cw [cL] (N:List (Nat×AV)) (m:List Nat) (ψ:Prop) (h:WpS P (bQ b (2*k)) (b_ ⟨bm n A',L,H⟩ ψ Q) ⟨bm n A,L,H⟩) (U:ψ→WpS P (bQ b (2*k+1)) Q ⟨bm n A',L,H⟩) (cm:re N (mG true m A)=A':=by simp only[re,E9,E8,E_,self,E7];rfl) (e:bQ b k= .seq (bQ b (2*k)) (bQ b (2*k+1)):=by kernel_rfl):WpS P (bQ b k) Q ⟨bm n A,L,H⟩:=WpS.B2 _ e h U
theorem fk [cL] (N:List (Nat×AV)) (m:List Nat) (LO:List (Nat×List AV)→List (Nat×List AV)) (LN:List Blk→List Blk) (ψ:Prop) (h:WpS P (bQ b (2*k)) (b_ ⟨bm n A',L',H'⟩ ψ Q) ⟨bm n A,L,H⟩) (U:ψ→WpS P (bQ b (2*k+1)) Q ⟨bm n A',L',H'⟩) (bB:LO L=L':=by first | (simp only[id,TF,TG,TN,TO,List.set_cons_zero,List.set_cons_succ];rfl) | (dsimp only;rfl) | rfl) (aB:LN H=H':=by first | (simp only[id,S3,S4,List.cons_append,List.nil_append];rfl) | (dsimp only;rfl) | rfl) (cm:re N (mG true m A)=A':=by simp only[re,E9,E8,E_,self,E7];rfl) (e:bQ b k= .seq (bQ b (2*k)) (bQ b (2*k+1)):=by kernel_rfl):WpS P (bQ b k) Q ⟨bm n A,L,H⟩:=WpS.B2 _ e h U
theorem Td [cL] {V:Type} {y:Code} (id:Nat) (S:V→St) (pk:V→Prop) (h:WpS P (bQ b (2*k)) (cc id (hA S pk Q)) ar) (U: ∀v,pk v→WpS P y Q (S v)) (e:bQ b k= .block id (bQ b (2*k)):=by kernel_rfl):WpS P (bQ b k) (ef P y Q) ar:=
 WpS.S7 e (h.mono fun ex s hs=>by
  have key: ∀ex s,hA S pk Q ex s→ef P y Q ex s:=fun ex s hs=>by
   cases ex with
   | normal=>obtain⟨v,ac,hw⟩:=hs;exact(U v ac).nQ hw
   | _=>exact hs
  cases ex with
  | exit q=>
   show if q=id then _ else _
   replace hs:if q=id then hA S pk Q .normal s else hA S pk Q (.exit q) s:=hs
   split at hs
   ·rename_i U;rw[if_pos U];exact key _ _ hs
   ·rename_i U;rw[if_neg U];exact key _ _ hs
  | normal=>exact key .normal s hs
  | goto l=>exact key (.goto l) s hs
  | ret=>exact key .ret s hs
  | panic c=>exact key (.panic c) s hs
  | outgrown=>exact key .outgrown s hs)
theorem ig [cL] (h:WpS P (bQ b (2*k)) (ef P (bQ b (2*k+1)) Q) ar) (e:bQ b k= .seq (bQ b (2*k)) (bQ b (2*k+1)):=by kernel_rfl):WpS P (bQ b k) Q ar:=WpS.seq' e h
theorem vV [cL] (o:Operand) (z:Bool) (h1:z=true→WpS P (bQ b (2*k)) Q ⟨bm n A,L,H⟩) (h2:z=false→WpS P (bQ b (2*k+1)) Q ⟨bm n A,L,H⟩) (e:bQ b k= .cond o (bQ b (2*k)) (bQ b (2*k+1)):=by kernel_rfl)
  (ag:e5 n A=true:=by kernel_rfl) (aj:sw A o= .bool z:=by kernel_rfl):WpS P (bQ b k) Q ⟨bm n A,L,H⟩:=WpS.aeS e (aeT ag aj) h1 h2
theorem fJ [cL] (id:Nat) (h:WpS P (bQ b (2*k)) (cc id Q) ar) (e:bQ b k= .block id (bQ b (2*k)):=by kernel_rfl):WpS P (bQ b k) Q ar:=WpS.S7 e h
theorem ew [cL] (h:Q .normal ar) (e:bQ b k= .skip:=by kernel_rfl):WpS P (bQ b k) Q ar:=WpS.anW e h
theorem hZ [cL] (h:Q .ret ar) (e:bQ b k= .ret:=by kernel_rfl):WpS P (bQ b k) Q ar:=WpS.anq e h
theorem j3 [cL] (id:Nat) (h:Q (.exit id) ar) (e:bQ b k= .exit id:=by kernel_rfl):WpS P (bQ b k) Q ar:=WpS.afB e h
theorem ln [cL] {V:Type} (S:V→St) (I:V→Prop) (m:V→Nat) (v0:V) (hs:Weak ar (S v0)) (aA:I v0) (round: ∀v,I v→WpS P (bQ b (2*k)) (ed S I m v Q) (S v)) (e:bQ b k= .loop (bQ b (2*k)):=by kernel_rfl):WpS P (bQ b k) Q ar:=
 WpS.Yt S I m e v0 hs aA round
theorem bx [cL] (esc:List Nat) (id:Nat) (h:evS P esc (j_ b k) n ((j_ b k).toList.drop 0) A L H (fun A L H=>Q .normal ⟨bm n A,L,H⟩)) (e:bQ b k= .region id (j_ b k) false:=by kernel_rfl) (ag:e5 n A=true:=by kernel_rfl):WpS P (bQ b k) Q ⟨bm n A,L,H⟩:=
 WpS.Jf (esc:=esc) e ag h
theorem o5 [cL] (esc:List Nat) (id:Nat) (ord:List Item) (li:List (List Nat)) (jI:List (Nat×List AV)) (h:evSD P esc (j_ b k) n (ord.drop 0) A (jI++L) H (fun A L H=>Q .normal ⟨bm n A,L,H⟩)) (hm:P.follows .mixedOrders=true:=by kernel_rfl) (au:li.length=(j_ b k).size:=by kernel_rfl)
  (aY:Al (j_ b k) ord (Di li)=true:=by kernel_rfl) (MH:ord.all (·.lit)=true:=by kernel_rfl) (e:bQ b k= .region id (j_ b k) true:=by kernel_rfl) (ag:e5 n A=true:=by kernel_rfl) (hf:x6 jI L=true:=by kernel_rfl) (aH:xV (j_ b k) L ord=true:=by kernel_rfl):WpS P (bQ b k) Q ⟨bm n A,L,H⟩:=
 WpS.ano (esc:=esc) ord li hm au aY MH e ag jI hf aH h
theorem et [cL] (esc:List Nat) (id:Nat) (po:List (Nat×AV)) (EF m:List Nat) (U:WpS P (bQ b (2*k+1)) Q ⟨bm n A',L,H⟩) (cm:re (mG true EF po) (mG true m A)=A':=by simp only[re,E9,E8,E_,self,E7];rfl) (e:bQ b k= .seq (bQ b (2*k)) (bQ b (2*k+1)):=by kernel_rfl)
  (e2:bQ b (2*k)= .region id (j_ b (2*k)) false:=by kernel_rfl) (ag:e5 n A=true:=by kernel_rfl) (dc: ∀K,evS P esc (j_ b (2*k)) n ((j_ b (2*k)).toList.drop 0) A L H K=K (ho po A) L H:=by intro K;kernel_rfl) (nu:pV (ho po A) A'=A':=by kernel_rfl)
  (h1:e5 n (ho po A)=true:=by kernel_rfl) (h2:e5 n A'=true:=by kernel_rfl):WpS P (bQ b k) Q ⟨bm n A,L,H⟩:=
 WpS.B2 ⟨bm n A',L,H⟩ (ψ:=True) e (WpS.Jf (esc:=esc) e2 ag (by rw[dc];exact⟨trivial,CV h1 h2 nu⟩)) fun _=>U
theorem sZ [cL] (esc:List Nat) (id:Nat) (po:List (Nat×AV)) (EF m:List Nat) (L':List (Nat×List AV)) (H':List Blk) (U:WpS P (bQ b (2*k+1)) Q ⟨bm n A',L',H'⟩) (cm:re (mG true EF po) (mG true m A)=A':=by simp only[re,E9,E8,E_,self,E7];rfl) (e:bQ b k= .seq (bQ b (2*k)) (bQ b (2*k+1)):=by kernel_rfl)
  (e2:bQ b (2*k)= .region id (j_ b (2*k)) false:=by kernel_rfl) (ag:e5 n A=true:=by kernel_rfl) (dc: ∀K,evS P esc (j_ b (2*k)) n ((j_ b (2*k)).toList.drop 0) A L H K=K (ho po A) L' H':=by intro K;kernel_rfl) (nu:pV (ho po A) A'=A':=by kernel_rfl)
  (h1:e5 n (ho po A)=true:=by kernel_rfl) (h2:e5 n A'=true:=by kernel_rfl):WpS P (bQ b k) Q ⟨bm n A,L,H⟩:=
 WpS.B2 ⟨bm n A',L',H'⟩ (ψ:=True) e (WpS.Jf (esc:=esc) e2 ag (by rw[dc];exact⟨trivial,CV h1 h2 nu⟩)) fun _=>U
theorem vW [cL] (esc:List Nat) (id:Nat) (po:List (Nat×AV)) (EF m:List Nat) (LO:List (Nat×List AV)→List (Nat×List AV)) (LN:List Blk→List Blk) (U:WpS P (bQ b (2*k+1)) Q ⟨bm n A',L',H'⟩) (bB:LO L=L':=by first | (simp only[id,TF,TG,TN,TO,List.set_cons_zero,List.set_cons_succ];rfl) | (dsimp only;rfl) | rfl) (aB:LN H=H':=by first | (simp only[id,S3,S4,List.cons_append,List.nil_append];rfl) | (dsimp only;rfl) | rfl) (cm:re (mG true EF po) (mG true m A)=A':=by simp only[re,E9,E8,E_,self,E7];rfl) (e:bQ b k= .seq (bQ b (2*k)) (bQ b (2*k+1)):=by kernel_rfl)
  (e2:bQ b (2*k)= .region id (j_ b (2*k)) false:=by kernel_rfl) (ag:e5 n A=true:=by kernel_rfl) (dc: ∀K,evS P esc (j_ b (2*k)) n ((j_ b (2*k)).toList.drop 0) A L H K=K (ho po A) L' H':=by intro K;kernel_rfl) (nu:pV (ho po A) A'=A':=by kernel_rfl)
  (h1:e5 n (ho po A)=true:=by kernel_rfl) (h2:e5 n A'=true:=by kernel_rfl):WpS P (bQ b k) Q ⟨bm n A,L,H⟩:=
 WpS.B2 ⟨bm n A',L',H'⟩ (ψ:=True) e (WpS.Jf (esc:=esc) e2 ag (by rw[dc];exact⟨trivial,CV h1 h2 nu⟩)) fun _=>U
theorem dB [cL] {t:Nat} {z:Bool} (h1:z=true→WpS P (bQ b (2*k)) Q ⟨bm n ((t,.bool z)::A),L,H⟩) (h2:z=false→WpS P (bQ b (2*k+1)) Q ⟨bm n ((t,.bool z)::A),L,H⟩) (e:bQ b k= .cond (.tmp t) (bQ b (2*k)) (bQ b (2*k+1)):=by kernel_rfl)
  (ag:e5 n ((t,.bool z)::A)=true:=by kernel_rfl):WpS P (bQ b k) Q ⟨bm n ((t,.bool z)::A),L,H⟩:=vV (.tmp t) z h1 h2 e ag (by show gP ((t,.bool z)::A) t=_;unfold gP;rw[show Nat.beq t t=true from Nat.beq_refl t])
theorem c8.go {f:FuncId} {fn:Func} {args:List AV} {H:List Blk} {R:AV→List Blk→Prop} (A:List (Nat×AV)) (hf:P.funcs[f]?=some fn) (h: ∀j0:cL,j0.n=H.length→WpS P (bQ (jK fn) 1) (xO P fn R) ⟨bm fn.ntmps A,[],H⟩) (hb:fn.body=some (bQ (jK fn) 1):=by kernel_rfl) (ag:(fn.name== "runtime.NumGoroutine")=false:=by kernel_rfl)
  (hi:Iu fn args H=⟨bm fn.ntmps A,[],H⟩:=by kernel_rfl):c8 P f args H R:=c8.O0 hf hb ag fun j0 gN=>hi▸h j0 gN
theorem rI {fn:Func} {R:AV→List Blk→Prop} (r:AV) (h:R r H) (ag:e5 n A=true:=by kernel_rfl) (e: ∀K,vo P A L H fn.results.toList K=K [r]:=by intro K;kernel_rfl) (ak:[r].all lF=true:=by kernel_rfl):xO P fn R .ret ⟨bm n A,L,H⟩:=PE ag [r] e ak rfl h
theorem ei [cL] (nu:pV A A'=A':=by kernel_rfl) (cm:e5 n A=true:=by kernel_rfl) (oG:e5 n A'=true:=by kernel_rfl):Weak ⟨bm n A,L,H⟩ ⟨bm n A',L,H⟩:=CV cm oG nu
theorem dw [cL] (c3:List Nat) (cm:e5 n A=true:=by kernel_rfl) (oG:e5 n A'=true:=by kernel_rfl) (ab:ED c3 A'=true:=by kernel_rfl) (nu:pV A A'=A':=by kernel_rfl) (hq:qq c3 L=L':=by kernel_rfl):Weak ⟨bm n A,L,H⟩ ⟨bm n A',L',H⟩:=aqv c3 cm oG ab nu hq
theorem mE {fn:Func} {R:AV→List Blk→Prop} (r:AV) (l:List AV) (h:R r H) (ag:e5 n A=true:=by kernel_rfl) (e: ∀K,vo P A L H fn.results.toList K=K l:=by intro K;kernel_rfl) (ak:l.all lF=true:=by kernel_rfl) (hw:ug l=r:=by kernel_rfl):xO P fn R .ret ⟨bm n A,L,H⟩:=PE ag l e ak hw h
theorem GY {fn:Func} {R:AV→List Blk→Prop} (r:AV) (l:List AV) (h:R r H) (ag:e5 n A=true:=by kernel_rfl) (e: ∀K,vo P A L H fn.results.toList K=K l:=by intro K;kernel_rfl) (ak:l.all lF=true:=by kernel_rfl) (hw:ug l=r:=by kernel_rfl):xO P fn R .normal ⟨bm n A,L,H⟩:=afu ag l e ak hw h
end
section
variable {P:Program} {esc:List Nat} {ops:Array Oper} {n:Nat} {X:List Oper} {i0:Nat} {A:List (Nat×AV)} {L:List (Nat×List AV)} {H:List Blk} {K:List (Nat×AV)→List (Nat×List AV)→List Blk→Prop}
theorem b3 [cL] {A':List (Nat×AV)} {L':List (Nat×List AV)} {H':List Blk} {ψ:Prop} {Q:Exit→St→Prop} (N:List (Nat×AV)) (ab:ψ) (nu:pV (ho N A) A'=A':=by kernel_rfl) (e: ∀K,evS P esc ops n (X.drop i0) A L H K=K (ho N A) L' H':=by intro K;kernel_rfl)
  (cm:e5 n (ho N A)=true:=by kernel_rfl) (oG:e5 n A'=true:=by kernel_rfl):evS P esc ops n (X.drop i0) A L H (fun A L H=>b_ ⟨bm n A',L',H'⟩ ψ Q .normal ⟨bm n A,L,H⟩):=by
 rw[e];exact⟨ab,CV cm oG nu⟩
theorem p0 (a8 t:Nat) (b:Bool) (N:List (Nat×AV)) (h1:b=true→evS P esc ops n (X.drop (i0+a8)) (zk (ho ((t,.bool b)::N) A) t (.bool true)) L H K) (h2:b=false→evS P esc ops n (X.drop (i0+a8)) (zk (ho ((t,.bool b)::N) A) t (.bool false)) L H K)
  (e: ∀K,evS P esc ops n ((X.drop i0).take a8) A L H K=K (zk (ho ((t,.bool b)::N) A) t (.bool b)) L H:=by intro K;kernel_rfl):evS P esc ops n (X.drop i0) A L H K:=by
 rw[kN X i0 a8,e]
 cases b with
 | true=>exact h1 rfl
 | false=>exact h2 rfl
theorem d_ (N:List (Nat×AV)) (h:K (ho N A) L H) (e: ∀K,evS P esc ops n (X.drop i0) A L H K=K (ho N A) L H:=by intro K;kernel_rfl):evS P esc ops n (X.drop i0) A L H K:=by
 rw[e];exact h
theorem Jm (N:List (Nat×AV)) (L':List (Nat×List AV)) (H':List Blk) (h:K (ho N A) L' H') (e: ∀K,evS P esc ops n (X.drop i0) A L H K=K (ho N A) L' H':=by intro K;kernel_rfl):evS P esc ops n (X.drop i0) A L H K:=by
 rw[e];exact h
theorem Jn (a8:Nat) (N:List (Nat×AV)) (L':List (Nat×List AV)) (H':List Blk) (h:evS P esc ops n (X.drop (i0+a8)) (ho N A) L' H' K) (e: ∀K,evS P esc ops n ((X.drop i0).take a8) A L H K=K (ho N A) L' H':=by intro K;kernel_rfl):evS P esc ops n (X.drop i0) A L H K:=by
 rw[kN X i0 a8,e];exact h
theorem pZ (a8:Nat) (d:Option Nat) (v:AV) (N:List (Nat×AV)) {φ:Prop} (h1:φ) (h:evS P esc ops n (X.drop (i0+a8)) (dg d v N A) L H K) (e: ∀K,evS P esc ops n ((X.drop i0).take a8) A L H K=(φ∧K (dg d v N A) L H):=by intro K;kernel_rfl):evS P esc ops n (X.drop i0) A L H K:=by
 rw[kN X i0 a8,e];exact⟨h1,h⟩
theorem mF (a8:Nat) (d:Option Nat) (N:List (Nat×AV)) {α:Type} [Inhabited α] (enc:α→List AV) (xs:List α) {i:Int} (m:Nat)
  (aA:0≤i∧i.toNat<xs.length) (h:evS P esc ops n (X.drop (i0+a8)) (dg d (.dv (enc (nth xs i)) 0) N A) L H K) (ag: ∀x,(enc x).length=m:=by exact fun _=>rfl)
  (e: ∀K,evS P esc ops n ((X.drop i0).take a8) A L H K=(0≤i∧cZ (List.map enc xs)[i.toNat]? fun row=>row.length=m∧K (dg d (.dv row 0) N A) L H):=by intro K;kernel_rfl):evS P esc ops n (X.drop i0) A L H K:=by
 rw[kN X i0 a8,e]
 refine⟨aA.1,ez (a:=enc (nth xs i)) ?_ ⟨ag _,h⟩⟩
 rw[List.getElem?_map,hT aA.2];rfl
theorem m_ (a8:Nat) (d:Option Nat) (N:List (Nat×AV)) (b g z:Nat) {i:Int} {m:Nat} (aA:0≤i∧i.toNat<m) (h:evS P esc ops n (X.drop (i0+a8)) (dg d (.ptr b g (0+i.toNat) 0) N A) L H K)
  (e: ∀K,evS P esc ops n ((X.drop i0).take a8) A L H K=(g=g∧z=z∧0≤i∧i<m∧K (dg d (.ptr b g (0+i.toNat) 0) N A) L H):=by intro K;kernel_rfl):evS P esc ops n (X.drop i0) A L H K:=by
 rw[kN X i0 a8,e];exact⟨rfl,rfl,aA.1,by have:=aA.2;omega,h⟩
theorem aak (a8:Nat) (d:Option Nat) (N:List (Nat×AV)) {α:Type} [Inhabited α] (enc:α→List AV) (xs:List α) (i:Int) (t:TypeId) (c g:Nat) (v:AV) (ak:i.toNat<xs.length) (h:evS P esc ops n (X.drop (i0+a8)) (dg d v N A) L H K)
  (e2: ∀K,kB P t (enc (nth xs i)) c K=K v:=by intro K;kernel_rfl)
  (e: ∀K,evS P esc ops n ((X.drop i0).take a8) A L H K=(g=g∧cZ (List.map enc xs)[0+i.toNat]? fun row=>kB P t row c fun v=>K (dg d v N A) L H):=by intro K;kernel_rfl):evS P esc ops n (X.drop i0) A L H K:=by
 rw[kN X i0 a8,e]
 refine⟨rfl,ez (a:=enc (nth xs i)) ?_ (by rw[e2];exact h)⟩
 rw[Nat.zero_add,List.getElem?_map,hT ak];rfl
theorem o7 (a8:Nat) (d:Option Nat) (N:List (Nat×AV)) {g:FuncId} (args:List AV) {eE:List AV} {t:AV}
  (hf:bn P g eE t) (hs:ah (c6 L H) args eE) (h:evS P esc ops n (X.drop (i0+a8)) (dg d t N A) L H K) (ag:args.all e_=true:=by kernel_rfl) (e: ∀K,evS P esc ops n ((X.drop i0).take a8) A L H K=mU P g args L H (fun v L' H'=>K (dg d v N A) L' H'):=by intro K;kernel_rfl):evS P esc ops n (X.drop i0) A L H K:=by
 rw[kN X i0 a8,e];exact .inl ⟨ag,eE,t,hs,hf,h⟩
theorem anH (a8:Nat) (d:Option Nat) (N:List (Nat×AV)) {α:Type} [Inhabited α] (enc:α→List AV) (xs:List α) (i:Int) (c k g:Nat) (cells:List AV) (H':List (List AV)→List Blk) (mO:α) (ak:i.toNat<xs.length)
  (h:evS P esc ops n (X.drop (i0+a8)) (dg d (.tup []) N A) L (H' (List.map enc (xs.set i.toNat mO))) K) (hc:Nat.ble (c+k) (enc (nth xs i)).length=true:=by kernel_rfl) (hs:fI (enc (nth xs i)) c cells=enc mO:=by kernel_rfl)
  (e: ∀K,evS P esc ops n ((X.drop i0).take a8) A L H K=(g=g∧cZ (List.map enc xs)[0+i.toNat]? fun row=>c+k≤row.length∧K (dg d (.tup []) N A) L (H' ((List.map enc xs).set (0+i.toNat) (fI row c cells)))):=by intro K;kernel_rfl):evS P esc ops n (X.drop i0) A L H K:=by
 rw[kN X i0 a8,e]
 refine⟨rfl,ez (a:=enc (nth xs i)) ?_ ⟨Nat.le_of_ble_eq_true hc,?_⟩⟩
 ·rw[Nat.zero_add,List.getElem?_map,hT ak];rfl
 ·rw[hs,Nat.zero_add,map_set];exact h
theorem xh (a8:Nat) (d:Option Nat) (N:List (Nat×AV)) {α:Type} [Inhabited α] (enc:α→List AV) (xs:List α) (i:Int) (c k g:Nat) (cells:List AV) (j:Nat) (mO:α) (ak:i.toNat<xs.length)
  (h:evS P esc ops n (X.drop (i0+a8)) (dg d (.tup []) N A) L (jb j (List.map enc (xs.set i.toNat mO)) H) K) (hc:Nat.ble (c+k) (enc (nth xs i)).length=true:=by kernel_rfl) (hs:fI (enc (nth xs i)) c cells=enc mO:=by kernel_rfl)
  (e: ∀K,evS P esc ops n ((X.drop i0).take a8) A L H K=(g=g∧cZ (List.map enc xs)[0+i.toNat]? fun row=>c+k≤row.length∧K (dg d (.tup []) N A) L (jb j ((List.map enc xs).set (0+i.toNat) (fI row c cells)) H)):=by intro K;kernel_rfl):evS P esc ops n (X.drop i0) A L H K:=anH a8 d N enc xs i c k g cells (fun r=>jb j r H) mO ak h hc hs e
theorem PO (a8:Nat) (d:Option Nat) (N:List (Nat×AV)) {α:Type} (enc:α→List AV) {i:Int} (B:Int) (z:List AV) (b:Nat) (H':List (List AV)→List Blk) (aI:α) (aA:0≤i∧B*i≤140737488355328∧i≤4611686018427387904)
  (h:evS P esc ops n (X.drop (i0+a8)) (dg d (.ref b 0 0 (List.replicate i.toNat aI).length false) N A) L (H' (List.map enc (List.replicate i.toNat aI))) K) (aH:z=enc aI:=by rfl)
  (e: ∀K,evS P esc ops n ((X.drop i0).take a8) A L H K=(0≤i∧i≤i∧B*i≤140737488355328∧i≤4611686018427387904∧K (dg d (.ref b 0 0 i.toNat false) N A) L (H' (List.replicate i.toNat z))):=by intro K;kernel_rfl):evS P esc ops n (X.drop i0) A L H K:=by
 rw[kN X i0 a8,e]
 refine⟨aA.1,Int.le_refl _,aA.2.1,aA.2.2,?_⟩
 ·rw[aH,←List.map_replicate];rw[List.length_replicate] at h;exact h
theorem aai (a8:Nat) (d:Option Nat) (N:List (Nat×AV)) {α:Type} (enc:α→List AV) (xs ys:List α) (cb:List (List AV)) (b g s B:Nat) (H':List (List AV)→List Blk) (hx:cb=List.map enc ys) (aA:(xs.length+ys.length)*B≤140737488355328∧xs.length+ys.length≤4611686018427387904)
  (h:evS P esc ops n (X.drop (i0+a8)) (dg d (.ref b (g+1) 0 (xs++ys).length false) N A) L (H' (List.map enc (xs++ys))) K) (hk: ∀x,(enc x).length=s∧(enc x).all kb=true:=by exact fun _=>⟨rfl,rfl⟩)
  (e: ∀K,evS P esc ops n ((X.drop i0).take a8) A L H K=(true=true∧true=true∧tR s cb∧0=0∧g=g∧s=s∧(List.map enc xs).length=xs.length∧(xs.length+cb.length)*B≤140737488355328∧xs.length+cb.length≤4611686018427387904∧K (dg d (.ref b (g+1) 0 (xs.length+cb.length) false) N A) L (H' (List.map enc xs++cb))):=by intro K;kernel_rfl):evS P esc ops n (X.drop i0) A L H K:=by
 rw[kN X i0 a8,e]
 subst hx
 refine⟨rfl,rfl,Jl hk ys,rfl,rfl,rfl,List.length_map ..,by rw[List.length_map];exact aA.1,by rw[List.length_map];exact aA.2,?_⟩
 ·rw[List.length_append] at h;rw[List.length_map,←List.map_append];exact h
theorem xf (a8:Nat) (d:Option Nat) (N:List (Nat×AV)) {α:Type} (enc:α→List AV) (ys:List α) (cb:List (List AV)) (b s B:Nat) (H':List (List AV)→List Blk) (hx:cb=List.map enc ys) (aA:ys.length*B≤140737488355328∧ys.length≤4611686018427387904)
  (h:evS P esc ops n (X.drop (i0+a8)) (dg d (.ref b 0 0 ys.length false) N A) L (H' (List.map enc ys)) K) (hk: ∀x,(enc x).length=s∧(enc x).all kb=true:=by exact fun _=>⟨rfl,rfl⟩)
  (e: ∀K,evS P esc ops n ((X.drop i0).take a8) A L H K=(true=true∧true=true∧tR s cb∧true=true∧(∀row∈([]:List (List AV)),row.length=s)∧(List.length (α:=List AV) []+cb.length)*B≤140737488355328∧List.length (α:=List AV) []+cb.length≤4611686018427387904∧(([]:List (List AV))≠[]→cb≠[])∧
   K (dg d (.ref b 0 0 (List.length (α:=List AV) []+cb.length) false) N A) L (H' ([]++cb))):=by intro K;kernel_rfl):evS P esc ops n (X.drop i0) A L H K:=by
 rw[kN X i0 a8,e]
 subst hx
 refine⟨rfl,rfl,Jl hk ys,rfl,(fun row h=>by cases h),by simpa using aA.1,by simpa using aA.2,(fun h=>absurd rfl h),?_⟩
 ·simpa using h
theorem tS (a8:Nat) (d:Option Nat) (N:List (Nat×AV)) {g:FuncId} (args:List AV) {eE:List AV} {fA:AV} {dx:List Blk} (r:AV) (me:List Blk)
  (hf:c8 P g eE [] fun r H'=>r=fA∧H'=dx) (hs:ah (c6 L H) args eE) (D3:w0 dx=true) (An:H++dx.map (ir H.length)=me)
  (h:evS P esc ops n (X.drop (i0+a8)) (dg d r N A) L me K) (ag:args.all e_=true:=by kernel_rfl) (aj:BI fA=true:=by kernel_rfl) (er:oh H.length fA=r:=by kernel_rfl) (e: ∀K,evS P esc ops n ((X.drop i0).take a8) A L H K=mU P g args L H (fun v L' H'=>K (dg d v N A) L' H'):=by intro K;kernel_rfl):evS P esc ops n (X.drop i0) A L H K:=by
 rw[kN X i0 a8,e]
 subst er;subst An
 exact .inr (.inl ⟨ag,eE,hs,hf.mono fun c5 H1 ⟨h1,h2⟩=>by subst h1;subst h2;exact⟨aj,D3,h⟩⟩)
theorem sLen (a8:Nat) (d:Option Nat) (N:List (Nat×AV)) {α:Type} (enc:α→List AV) (xs:List α) (h:xs.length≤4611686018427387904→evS P esc ops n (X.drop (i0+a8)) (dg d (.int .i64 (xs.length:Nat)) N A) L H K)
  (e: ∀K,evS P esc ops n ((X.drop i0).take a8) A L H K=((List.map enc xs).length≤4611686018427387904→K (dg d (.int .i64 ((List.map enc xs).length:Nat)) N A) L H):=by intro K;kernel_rfl):evS P esc ops n (X.drop i0) A L H K:=by
 rw[kN X i0 a8,e,List.length_map];exact h
theorem PP (a8:Nat) (d:Option Nat) (N:List (Nat×AV)) {α:Type} (enc:α→List AV) (xs:List α) (h1:xs≠[]→evS P esc ops n (X.drop (i0+a8)) (dg d (.bool false) N A) L H K) (h2:xs=[]→ ∀b,evS P esc ops n (X.drop (i0+a8)) (dg d (.bool b) N A) L H K)
  (e: ∀K,evS P esc ops n ((X.drop i0).take a8) A L H K=((List.map enc xs≠[]→K (dg d (.bool false) N A) L H)∧(List.map enc xs=[]→ ∀b,K (dg d (.bool b) N A) L H)):=by intro K;kernel_rfl):evS P esc ops n (X.drop i0) A L H K:=by
 rw[kN X i0 a8,e]
 exact⟨fun h=>h1 fun e=>h (by rw[e];rfl),fun h=>h2 (by simpa using h)⟩
end
section
variable {P:Program} {esc:List Nat} {ops:Array Oper} {n:Nat} {X:List Item} {i0:Nat} {A:List (Nat×AV)} {L:List (Nat×List AV)} {H:List Blk} {K:List (Nat×AV)→List (Nat×List AV)→List Blk→Prop}
theorem l8 [cL] {A':List (Nat×AV)} {L':List (Nat×List AV)} {H':List Blk} {ψ:Prop} {Q:Exit→St→Prop} (N:List (Nat×AV)) (ab:ψ) (nu:pV (ho N A) A'=A':=by kernel_rfl) (e: ∀K,evSD P esc ops n (X.drop i0) A L H K=K (ho N A) L' H':=by intro K;kernel_rfl)
  (cm:e5 n (ho N A)=true:=by kernel_rfl) (oG:e5 n A'=true:=by kernel_rfl):evSD P esc ops n (X.drop i0) A L H (fun A L H=>b_ ⟨bm n A',L',H'⟩ ψ Q .normal ⟨bm n A,L,H⟩):=by
 rw[e];exact⟨ab,CV cm oG nu⟩
theorem sJ (a8 t:Nat) (b:Bool) (N:List (Nat×AV)) (h1:b=true→evSD P esc ops n (X.drop (i0+a8)) (zk (ho ((t,.bool b)::N) A) t (.bool true)) L H K) (h2:b=false→evSD P esc ops n (X.drop (i0+a8)) (zk (ho ((t,.bool b)::N) A) t (.bool false)) L H K)
  (e: ∀K,evSD P esc ops n ((X.drop i0).take a8) A L H K=K (zk (ho ((t,.bool b)::N) A) t (.bool b)) L H:=by intro K;kernel_rfl):evSD P esc ops n (X.drop i0) A L H K:=by
 rw[mW X i0 a8,e]
 cases b with
 | true=>exact h1 rfl
 | false=>exact h2 rfl
theorem Cy (N:List (Nat×AV)) (h:K (ho N A) L H) (e: ∀K,evSD P esc ops n (X.drop i0) A L H K=K (ho N A) L H:=by intro K;kernel_rfl):evSD P esc ops n (X.drop i0) A L H K:=by
 rw[e];exact h
theorem JR (a8:Nat) (d:Option Nat) (v:AV) (N:List (Nat×AV)) {φ:Prop} (h1:φ) (h:evSD P esc ops n (X.drop (i0+a8)) (dg d v N A) L H K) (e: ∀K,evSD P esc ops n ((X.drop i0).take a8) A L H K=(φ∧K (dg d v N A) L H):=by intro K;kernel_rfl):evSD P esc ops n (X.drop i0) A L H K:=by
 rw[mW X i0 a8,e];exact⟨h1,h⟩
theorem FE (a8:Nat) (N:List (Nat×AV)) (L':List (Nat×List AV)) (H':List Blk) {φ:Prop} (h1:φ) (h:evSD P esc ops n (X.drop (i0+a8)) (ho N A) L' H' K) (e: ∀K,evSD P esc ops n ((X.drop i0).take a8) A L H K=(φ∧K (ho N A) L' H'):=by intro K;kernel_rfl):evSD P esc ops n (X.drop i0) A L H K:=by
 rw[mW X i0 a8,e];exact⟨h1,h⟩
theorem vA (a8:Nat) (d:Option Nat) (N:List (Nat×AV)) {α:Type} [Inhabited α] (enc:α→List AV) (xs:List α) {i:Int} (m:Nat)
  (aA:0≤i∧i.toNat<xs.length) (h:evSD P esc ops n (X.drop (i0+a8)) (dg d (.dv (enc (nth xs i)) 0) N A) L H K) (ag: ∀x,(enc x).length=m:=by exact fun _=>rfl)
  (e: ∀K,evSD P esc ops n ((X.drop i0).take a8) A L H K=(0≤i∧cZ (List.map enc xs)[i.toNat]? fun row=>row.length=m∧K (dg d (.dv row 0) N A) L H):=by intro K;kernel_rfl):evSD P esc ops n (X.drop i0) A L H K:=by
 rw[mW X i0 a8,e]
 refine⟨aA.1,ez (a:=enc (nth xs i)) ?_ ⟨ag _,h⟩⟩
 rw[List.getElem?_map,hT aA.2];rfl
theorem zD (a8:Nat) (d:Option Nat) (N:List (Nat×AV)) (b g z:Nat) {i:Int} {m:Nat} (aA:0≤i∧i.toNat<m) (h:evSD P esc ops n (X.drop (i0+a8)) (dg d (.ptr b g (0+i.toNat) 0) N A) L H K)
  (e: ∀K,evSD P esc ops n ((X.drop i0).take a8) A L H K=(g=g∧z=z∧0≤i∧i<m∧K (dg d (.ptr b g (0+i.toNat) 0) N A) L H):=by intro K;kernel_rfl):evSD P esc ops n (X.drop i0) A L H K:=by
 rw[mW X i0 a8,e];exact⟨rfl,rfl,aA.1,by have:=aA.2;omega,h⟩
theorem Cz (a8:Nat) (d:Option Nat) (N:List (Nat×AV)) {α:Type} [Inhabited α] (enc:α→List AV) (xs:List α) (i:Int) (t:TypeId) (c g:Nat) (v:AV) (ak:i.toNat<xs.length) (h:evSD P esc ops n (X.drop (i0+a8)) (dg d v N A) L H K)
  (e2: ∀K,kB P t (enc (nth xs i)) c K=K v:=by intro K;kernel_rfl)
  (e: ∀K,evSD P esc ops n ((X.drop i0).take a8) A L H K=(g=g∧cZ (List.map enc xs)[0+i.toNat]? fun row=>kB P t row c fun v=>K (dg d v N A) L H):=by intro K;kernel_rfl):evSD P esc ops n (X.drop i0) A L H K:=by
 rw[mW X i0 a8,e]
 refine⟨rfl,ez (a:=enc (nth xs i)) ?_ (by rw[e2];exact h)⟩
 rw[Nat.zero_add,List.getElem?_map,hT ak];rfl
theorem acn (a8:Nat) (d:Option Nat) (N:List (Nat×AV)) {g:FuncId} (args:List AV) {eE:List AV} {t:AV}
  (hf:bn P g eE t) (hs:ah (c6 L H) args eE) (h:evSD P esc ops n (X.drop (i0+a8)) (dg d t N A) L H K) (ag:args.all e_=true:=by kernel_rfl) (e: ∀K,evSD P esc ops n ((X.drop i0).take a8) A L H K=rh P g args L H (fun v=>K (dg d v N A) L H):=by intro K;kernel_rfl):evSD P esc ops n (X.drop i0) A L H K:=by
 rw[mW X i0 a8,e];exact⟨ag,eE,t,hs,hf,h⟩
theorem ap2 (a8:Nat) (d:Option Nat) (N:List (Nat×AV)) {α:Type} [Inhabited α] (enc:α→List AV) (xs:List α) (i:Int) (c k g:Nat) (cells:List AV) (F:List (List AV)→Prop) (H':List (List AV)→List Blk) (mO:α) (ak:i.toNat<xs.length)
  (dn:F ((List.map enc (xs.set i.toNat mO)))) (h:evSD P esc ops n (X.drop (i0+a8)) (dg d (.tup []) N A) L (H' (List.map enc (xs.set i.toNat mO))) K) (hc:Nat.ble (c+k) (enc (nth xs i)).length=true:=by kernel_rfl) (hs:fI (enc (nth xs i)) c cells=enc mO:=by kernel_rfl)
  (e: ∀K,evSD P esc ops n ((X.drop i0).take a8) A L H K=(g=g∧cZ (List.map enc xs)[0+i.toNat]? fun row=>c+k≤row.length∧F (((List.map enc xs).set (0+i.toNat) (fI row c cells)))∧K (dg d (.tup []) N A) L (H' ((List.map enc xs).set (0+i.toNat) (fI row c cells)))):=by intro K;kernel_rfl):evSD P esc ops n (X.drop i0) A L H K:=by
 rw[mW X i0 a8,e]
 refine⟨rfl,ez (a:=enc (nth xs i)) ?_ ⟨Nat.le_of_ble_eq_true hc,?_,?_⟩⟩
 ·rw[Nat.zero_add,List.getElem?_map,hT ak];rfl
 ·rw[hs,Nat.zero_add,map_set];exact dn
 ·rw[hs,Nat.zero_add,map_set];exact h
theorem ap0 (a8:Nat) (d:Option Nat) (N:List (Nat×AV)) {α:Type} (enc:α→List AV) (xs ys:List α) (cb:List (List AV)) (b g s B:Nat) (F:List (List AV)→Prop) (H':List (List AV)→List Blk) (hx:cb=List.map enc ys) (aA:(xs.length+ys.length)*B≤140737488355328∧xs.length+ys.length≤4611686018427387904)
  (dn:F ((List.map enc (xs++ys)))) (h:evSD P esc ops n (X.drop (i0+a8)) (dg d (.ref b (g+1) 0 (xs++ys).length false) N A) L (H' (List.map enc (xs++ys))) K) (hk: ∀x,(enc x).length=s∧(enc x).all kb=true:=by exact fun _=>⟨rfl,rfl⟩)
  (e: ∀K,evSD P esc ops n ((X.drop i0).take a8) A L H K=(true=true∧true=true∧tR s cb∧0=0∧g=g∧s=s∧(List.map enc xs).length=xs.length∧(xs.length+cb.length)*B≤140737488355328∧xs.length+cb.length≤4611686018427387904∧F ((List.map enc xs++cb))∧K (dg d (.ref b (g+1) 0 (xs.length+cb.length) false) N A) L (H' (List.map enc xs++cb))):=by intro K;kernel_rfl):evSD P esc ops n (X.drop i0) A L H K:=by
 rw[mW X i0 a8,e]
 subst hx
 refine⟨rfl,rfl,Jl hk ys,rfl,rfl,rfl,List.length_map ..,by rw[List.length_map];exact aA.1,by rw[List.length_map];exact aA.2,?_,?_⟩
 ·rw[←List.map_append];exact dn
 ·rw[List.length_append] at h;rw[List.length_map,←List.map_append];exact h
theorem JS (a8:Nat) (d:Option Nat) (N:List (Nat×AV)) {g:FuncId} (args:List AV) {eE:List AV} {fA:AV} {dx:List Blk} (F:List (Nat×List AV)→List Blk→Prop) (r:AV) (me:List Blk)
  (hf:c8 P g eE [] fun r H'=>r=fA∧H'=dx) (hs:ah (c6 L H) args eE) (D3:w0 dx=true) (An:H++dx.map (ir H.length)=me) (dn:F L me)
  (h:evSD P esc ops n (X.drop (i0+a8)) (dg d r N A) L me K) (ag:args.all e_=true:=by kernel_rfl) (aj:BI fA=true:=by kernel_rfl) (er:oh H.length fA=r:=by kernel_rfl) (e: ∀K,evSD P esc ops n ((X.drop i0).take a8) A L H K=mU P g args L H (fun v L' H'=>F L' H'∧K (dg d v N A) L' H'):=by intro K;kernel_rfl):evSD P esc ops n (X.drop i0) A L H K:=by
 rw[mW X i0 a8,e]
 subst er;subst An
 exact .inr (.inl ⟨ag,eE,hs,hf.mono fun c5 H1 ⟨h1,h2⟩=>by subst h1;subst h2;exact⟨aj,D3,dn,h⟩⟩)
theorem RQ (a8:Nat) (d:Option Nat) (N:List (Nat×AV)) {α:Type} (enc:α→List AV) (xs:List α) (h:evSD P esc ops n (X.drop (i0+a8)) (dg d (.int .i64 (xs.length:Nat)) N A) L H K)
  (e: ∀K,evSD P esc ops n ((X.drop i0).take a8) A L H K=K (dg d (.int .i64 ((List.map enc xs).length:Nat)) N A) L H:=by intro K;kernel_rfl):evSD P esc ops n (X.drop i0) A L H K:=by
 rw[mW X i0 a8,e,List.length_map];exact h
end
inductive ic (H:List Blk) (ct:Nat) (db:Nat→Option Nat):AV→AV→Prop where
 | int (k:IntKind) (n:Int):ic H ct db (.int k n) (.int k n)
 | bool (b:Bool):ic H ct db (.bool b) (.bool b)
 | str (s:ByteArray):ic H ct db (.str s) (.str s)
 | gH:ic H ct db .gH .gH
 | gW:ic H ct db .gW .gW
 | aP (rows:List (List AV)) (full ee fr:Bool) (hw:ee=true→full=true):ic H ct db (.aP rows full fr) (.aP rows ee fr)
 | ref {b g n j:Nat} {full:Bool} {blk:Blk} (ac:j<ct) (hs:db j=some b) (hb:H[b]?=some blk) (az:blk.bk=g):ic H ct db (.ref b g 0 n full) (.ref j 0 0 n false)
 | nil {a:AV} {j:Nat} (ac:j<ct) (hs:db j=none) (h:vb a=true):ic H ct db a (.ref j 0 0 0 false)
def F9 (H:List Blk) (ct:Nat) (db:Nat→Option Nat) (a b:AV):Prop:=(∃l fH,a= .agg l∧b= .agg fH∧ah (ic H ct db) l fH)∨ic H ct db a b
structure ur (H dx:List Blk) (db:Nat→Option Nat):Prop where
 inj: ∀i j b,i<dx.length→j<dx.length→db i=some b→db j=some b→i=j
 bk: ∀(j:Nat) (k:Blk),dx[j]?=some k→k.bk=0
 blk: ∀(j b:Nat) (k:Blk),dx[j]?=some k→db j=some b→ ∃q,H[b]?=some q∧q.sz=k.sz∧ah (ah (ic H dx.length db)) q.rows k.rows
def Env.own (E:Env) (dx:List Blk) (db:Nat→Option Nat):Env:=
 {w:=E.w,PA:=E.PA,PF:=E.PF,mL:=fun _=>none,bk:=fun _=>0
  m:=fun j=>if j<dx.length then(match db j with
   | some b=>E.m b
   | none=>some none) else none
  sz:=fun j=>(dx[j]?.map Blk.sz).getD 0
  cp:=fun j=>match db j with
   | some b=>E.cp b
   | none=>0}
section
variable {E:Env} {H dx:List Blk} {db:Nat→Option Nat}
theorem Zd {j b:Nat} (ac:j<dx.length) (hs:db j=some b):(E.own dx db).m j=E.m b:=by
 show(if j<dx.length then _ else _)=_
 rw[if_pos ac,hs]
theorem amJ {j:Nat} (ac:j<dx.length) (hs:db j=none):(E.own dx db).m j=some none:=by
 show(if j<dx.length then _ else _)=_
 rw[if_pos ac,hs]
theorem BG {j:Nat} {x:Option Nat} (h:(E.own dx db).m j=some x):j<dx.length∧((db j=none∧x=none)∨ ∃b,db j=some b∧E.m b=some x):=by
 have h:(if j<dx.length then(match db j with
   | some b=>E.m b
   | none=>some none) else none)=some x:=h
 split at h
 ·rename_i ac
  refine⟨ac,?_⟩
  cases hs:db j with
  | none=>rw[hs] at h;cases h;exact .inl ⟨rfl,rfl⟩
  | some b=>rw[hs] at h;exact .inr ⟨b,rfl,h⟩
 ·cases h
theorem ic.v1 (aB:SimH E H) (dF:ur H dx db) {a b:AV} (h:ic H dx.length db a b) {v:Value} (hv:b6 E a v):b6 (E.own dx db) b v:=by
 cases h with
 | int k n=>exact hv
 | bool b=>exact hv
 | str s=>exact hv
 | gH=>exact hv
 | gW=>exact hv
 | aP rows full ee fr hw=>
  have hv:a1 E.w E.PA E.PF (.aP rows full fr) v:=hv
  cases hv with
  | aP fx fl gw cn dz hrel=>exact a1.aP fx fl (fun h=>gw (hw h)) cn dz hrel
 | @ref b g n j full blk ac hs hb az=>
  have lv:=aB.ff b blk hb
  have hk:dx[j]?=some dx[j]:=List.getElem?_eq_getElem ac
  obtain⟨q,U,cn,_⟩:=dF.blk j b _ hk hs
  rw[hb] at U
  obtain rfl:=Option.some.inj U
  rcases(show ft E (.ref b g 0 n full) v from hv) with⟨aQ,_⟩ | ⟨gO,bt⟩
  ·omega
  ·refine .inr ⟨rfl,?_⟩
   rcases bt with⟨hm,_,ag,A,cm⟩ | ⟨c,cap,hm,e,h1,h2,aC⟩
   ·exact .inl ⟨by rw[Zd ac hs];exact hm,rfl,ag,A,cm⟩
   ·refine .inr ⟨c,cap,by rw[Zd ac hs];exact hm,by rw[e,Nat.zero_mul,Nat.zero_mul],h1,(fun h=>by cases h),?_⟩
    show 0+cap≤(match db j with
     | some b=>E.cp b
     | none=>0)
    rw[hs];exact aC
 | nil ac hs h=>exact LA (E:=E) h hv rfl (amJ ac hs)
theorem amK (aB:SimH E H) (bB: ∀t,E.mL t=none) (dF:ur H dx db):SimH (E.own dx db) dx:=by
 have hP:E.bS=E:=by
  have:E.mL=fun _=>none:=funext bB
  cases E;simp only[Env.bS] at*;subst this;rfl
 have sq: ∀c,(E.own dx db).fW c→E.fW c:=fun c ⟨j,ac⟩=>by
  obtain⟨_,h | ⟨b,_,h⟩⟩:=BG ac
  ·cases h.2
  ·exact⟨b,h⟩
 exact{
  heap:=fun j c hm=>by
   obtain⟨ac,h | ⟨b,hs,hb⟩⟩:=BG hm
   ·cases h.2
   ·have hk:dx[j]?=some dx[j]:=List.getElem?_eq_getElem ac
    obtain⟨q,U,cn,ak⟩:=dF.blk j b _ hk hs
    obtain⟨blk,an,ty,q1,cG,q2,q3,q4,cQ,c0⟩:=aB.heap b c hb
    rw[U] at q1
    obtain rfl:=Option.some.inj q1
    have aN:(E.own dx db).sz j=E.sz b:=by
     show(dx[j]?.map Blk.sz).getD 0=_
     rw[hk,cG,cn];rfl
    have e2:(E.own dx db).cp j=E.cp b:=by
     show(match db j with
      | some b=>E.cp b
      | none=>0)=_
     rw[hs]
    refine⟨_,an,ty,hk,by rw[aN,cG,cn],q2,by rw[aN,e2];exact q3,by rw[e2,←ak.1];exact q4,fun i row eM=> ?_,fun i l row a eM aw=> ?_⟩
    ·have aQ:=(List.getElem?_eq_some_iff.1 eM).1
     have h1:q.rows[i]?=some (q.rows[i]'(by rw[ak.1];exact aQ)):=List.getElem?_eq_getElem _
     rw[aN,←(ak.2 i _ row h1 eM).1];exact cQ i _ h1
    ·have aQ:=(List.getElem?_eq_some_iff.1 eM).1
     have h1:q.rows[i]?=some (q.rows[i]'(by rw[ak.1];exact aQ)):=List.getElem?_eq_getElem _
     have ab:=ak.2 i _ row h1 eM
     have ahR:=(List.getElem?_eq_some_iff.1 aw).1
     have h2:=List.getElem?_eq_getElem (l:=q.rows[i]'(by rw[ak.1];exact aQ)) (i:=l) (by rw[ab.1];exact ahR)
     obtain⟨u,hu,hv⟩:=c0 i l _ _ h1 h2
     rw[hP] at hv
     exact⟨u,by rw[aN];exact hu,(ab.2 l _ a h2 aw).v1 aB dF hv⟩
  ff:=fun j k hk=>(dF.bk j k hk).symm
  h6:=fun j hm=>by
   obtain⟨ac,_⟩:=BG hm
   have hk:dx[j]?=some dx[j]:=List.getElem?_eq_getElem ac
   exact⟨_,hk,by show(dx[j]?.map Blk.sz).getD 0=_;rw[hk];rfl⟩
  fresh:=fun j ac=>⟨by show(if j<dx.length then _ else _)=_;rw[if_neg (by omega)],rfl⟩
  gV:=fun i j c h1 h2=>by
   obtain⟨hi,h | ⟨b,hs,hb⟩⟩:=BG h1
   ·cases h.2
   ·obtain⟨ac,h | ⟨b4,ny,ev⟩⟩:=BG h2
    ·cases h.2
    ·have:=aB.gV b b4 c hb ev
     subst this
     exact dF.inj i j b hi ac hs ny
  kT:=fun t kc c h=>by cases h
  ht:=fun b t c _ h=>by cases h
  iG:=fun c hc h=>aB.iG c hc (sq c h)
  jv:=fun c hc ⟨t,h⟩=>by cases h
  dU:=aB.dU
  ga:=aB.ga
  eh:=aB.eh
  gi:=fun c h=>aB.gi c (sq c h)
  hl:=fun c ⟨t,h⟩=>by cases h}
end
theorem c8.toOwn {P:Program} {f:FuncId} {args:List AV} {fA:AV} {dx:List Blk} (h:c8 P f args [] fun r H=> ∃db,ur H dx db∧F9 H dx.length db r fA):c8 P f args [] fun r H=>r=fA∧H=dx:=by
 refine⟨h.1,fun E vs ag hs aw=>(h.2 E vs ag hs aw).mono ?_⟩
 rintro e w' ⟨r,v,H',E',rfl,⟨db,dF,DI⟩,rfl,ahT,ny,hv,a6⟩
 refine⟨fA,v,dx,E'.own dx db,rfl,⟨rfl,rfl⟩,rfl,fun _=>rfl,amK ny ahT dF,?_,?_⟩
 ·rcases DI with⟨l,fH,rfl,rfl,ab⟩ | DI
  ·obtain⟨eX,rfl,U⟩:=(show ∃eX:List Value,v= .agg eX.toArray∧ah (b6 E') l eX from hv)
   refine⟨eX,rfl,ab.1▸U.1,fun i a u aw hu=> ?_⟩
   have aQ:i<l.length:=by rw[ab.1];exact(List.getElem?_eq_some_iff.1 aw).1
   have h1:=List.getElem?_eq_getElem aQ
   exact(ab.2 i _ a h1 aw).v1 ny dF (U.2 i _ u h1 hu)
  ·have mq:b6 E' r v:=by
    rw[rc,rb] at hv
    ·exact hv
    ·rintro l rfl;cases DI with
     | nil ac hs hx=>exact absurd hx Bool.false_ne_true
    ·rintro l rfl;cases DI with
     | nil ac hs hx=>exact absurd hx Bool.false_ne_true
   exact sT (mS (DI.v1 ny dF mq))
 ·have sq: ∀c,(E'.own dx db).fW c→E'.fW c:=fun c ⟨j,ac⟩=>by
   obtain⟨_,h | ⟨b,_,h⟩⟩:=BG ac
   ·cases h.2
   ·exact⟨b,h⟩
  exact{
   le:=⟨a6.le.gn,a6.le.fS,a6.le.xC,a6.le.wf,fun b=>by rw[(hs.fresh b (Nat.zero_le _)).2];exact Nat.zero_le _,(fun b x hm _=>by rw[(hs.fresh b (Nat.zero_le _)).1] at hm;cases hm),(fun t c hm=>by rw[ag t] at hm;cases hm)⟩
   os:=a6.os,tape:=a6.tape,output:=a6.output,size:=a6.size,cT:=a6.cT
   kl:=fun b c hb=>(a6.qH c (sq c ⟨b,hb⟩)).elim (fun⟨j,ac⟩=>by rw[(hs.fresh j (Nat.zero_le _)).1] at ac;cases ac) .inr
   kR:=fun c ⟨t,h⟩=>by cases h
   gn:=a6.gn,fS:=a6.fS}
theorem ur.nil {H:List Blk} {db:Nat→Option Nat}:ur H [] db:=⟨fun i j b h=>by simp at h,fun j k h=>by simp at h,fun j b k h=>by simp at h⟩
def rK (l:List (Option Nat)) (j:Nat):Option Nat:=(l[j]?).getD none
def Ky (H:List Blk) (ct:Nat) (db:Nat→Option Nat) (k:Blk):Option Nat→Prop
 | none=>True
 | some b=> ∃q,H[b]?=some q∧q.sz=k.sz∧ah (ah (ic H ct db)) q.rows k.rows
def CX (H:List Blk) (ct:Nat) (db:Nat→Option Nat):List (Option Nat)→List Blk→Prop
 | [],[]=>True
 | o::l,k::dx=>k.bk=0∧Ky H ct db k o∧CX H ct db l dx
 | _,_=>False
theorem CX.get {H:List Blk} {ct:Nat} {db:Nat→Option Nat}: ∀{l:List (Option Nat)} {dx:List Blk},CX H ct db l dx→ ∀(j:Nat) (k:Blk),dx[j]?=some k→ ∃o,l[j]?=some o∧k.bk=0∧Ky H ct db k o
 | [],[],_,j,k,h=>by simp at h
 | o::l,q::dx,aw,0,k,h=>by simp at h;subst h;exact⟨o,rfl,aw.1,aw.2.1⟩
 | o::l,q::dx,aw,j+1,k,h=>by
  obtain⟨x,hx,h2⟩:=CX.get aw.2.2 j k (by simpa using h)
  exact⟨x,by simpa using hx,h2⟩
theorem tL {H dx:List Blk} (l:List (Option Nat)) (au:l.length=dx.length) (aY:(l.filterMap id).Nodup) (h:CX H dx.length (rK l) l dx):ur H dx (rK l) where
 inj:=fun i j b hi ac h1 h2=>by
  have eI:i<l.length:=by omega
  have js:j<l.length:=by omega
  have aN:l[i]=some b:=by have:(l[i]?).getD none=some b:=h1;rwa [List.getElem?_eq_getElem eI] at this
  have e2:l[j]=some b:=by have:(l[j]?).getD none=some b:=h2;rwa [List.getElem?_eq_getElem js] at this
  rcases Nat.lt_trichotomy i j with aQ | rfl | pE
  ·exfalso
   have ab:=List.pairwise_filterMap.1 aY
   exact(List.pairwise_iff_getElem.1 ab i j eI js aQ) b (by simpa using aN) b (by simpa using e2) rfl
  ·rfl
  ·exfalso
   have ab:=List.pairwise_filterMap.1 aY
   exact(List.pairwise_iff_getElem.1 ab j i js eI pE) b (by simpa using e2) b (by simpa using aN) rfl
 bk:=fun j k hk=>by obtain⟨o,_,h1,_⟩:=h.get j k hk;exact h1
 blk:=fun j b k hk hs=>by
  obtain⟨o,aj,_,h2⟩:=h.get j k hk
  have:o=some b:=by have hs:(l[j]?).getD none=some b:=hs;rw[aj] at hs;exact hs
  subst this
  exact h2
theorem qR {H:List Blk} {ct:Nat} {db:Nat→Option Nat} {α:Type} {enc:α→List AV} {b g sz:Nat} {xs ys:List α} (hb:H[b]?=some ⟨g,sz,List.map enc xs⟩) (hc: ∀x,ah (ic H ct db) (enc x) (enc x)) (e:xs=ys):
  Ky H ct db ⟨0,sz,List.map enc ys⟩ (some b):=by
 subst e
 refine⟨_,hb,rfl,rfl,fun i r Jc h1 h2=> ?_⟩
 rw[List.getElem?_map] at h1 h2
 cases hx:xs[i]? with
 | none=>rw[hx] at h1;cases h1
 | some x=>rw[hx] at h1 h2;cases h1;cases h2;exact hc x
section
variable {H:List Blk} {ct:Nat} {db:Nat→Option Nat}
theorem y7 (b:Bool):ah (ic H ct db) (aR b) (aR b):= .cons (.bool _) .nil
theorem Y2 (rows:List (List AV)) (fr:Bool):ic H ct db (.aP rows false fr) (.aP rows false fr):= .aP _ _ _ _ id
theorem Y0 (x:c9):ah (ic H ct db) (dd x) (dd x):= .cons (.int _ _) (.cons (.int _ _) .nil)
theorem IT (x:bL):ah (ic H ct db) (ba x) (ba x):= .cons (.int _ _) (.cons (.int _ _) .nil)
theorem O2 {k:IntKind} {a b:Int} (h:a=b):ic H ct db (.int k a) (.int k b):=h▸ .int k a
theorem amF {a b:Bool} (h:a=b):ic H ct db (.bool a) (.bool b):=h▸ .bool a
theorem y9 {b g n m j sz:Nat} {full:Bool} {rows:List (List AV)} (ac:j<ct) (hs:db j=some b) (hb:H[b]?=some ⟨g,sz,rows⟩) (ag:n=m):ic H ct db (.ref b g 0 n full) (.ref j 0 0 m false):=ag▸ .ref ac hs hb rfl
theorem O3 {a:AV} {j m:Nat} (ac:j<ct) (hs:db j=none) (h:vb a=true) (hm:0=m):ic H ct db a (.ref j 0 0 m false):=hm▸ .nil ac hs h
end
theorem tK {α:Type} {enc:α→List AV} {g sz:Nat} {xs:List α} {H:List Blk} (h1: ∀x,(enc x).all sx=true) (h2:w0 H=true):w0 (⟨g,sz,List.map enc xs⟩::H)=true:=by
 show(((List.map enc xs).all fun row=>row.all sx)&&H.all fun b=>b.rows.all fun row=>row.all sx)=true
 rw[Bool.and_eq_true]
 refine⟨?_,h2⟩
 rw[List.all_eq_true]
 intro row ak
 obtain⟨x,_,rfl⟩:=List.mem_map.1 ak
 exact h1 x
theorem tV {α:Type} {enc:α→List AV} {k g sz:Nat} {xs:List α} {H H':List Blk} (h1: ∀x,(enc x).map (ji k)=enc x) (h2:H.map (ir k)=H'):(Blk.mk g sz (List.map enc xs)::H).map (ir k)=⟨g,sz,List.map enc xs⟩::H':=by
 subst h2
 show(⟨g,sz,(List.map enc xs).map fun row=>row.map (ji k)⟩:Blk)::_=_
 rw[List.map_map]
 congr 2
 exact List.map_congr_left fun x _=>h1 x
theorem tW {k:Nat} {H dx H1 me:List Blk} (h:dx.map (ir k)=H1) (e:H++H1=me):H++dx.map (ir k)=me:=by rw[h,e]
def Env.at (W:World):Env:={w:=W,PA:=fun c=>c<W.heap.size,PF:=fun _=>False,m:=fun _=>none,bk:=fun _=>0,sz:=fun _=>0,cp:=fun _=>0,mL:=fun _=>none}
theorem Gn (W:World):SimH (Env.at W) [] where
 heap:=fun b c hb=>by cases hb
 ff:=fun b blk hb=>by simp at hb
 h6:=fun b hb=>by cases hb
 fresh:=fun b _=>⟨rfl,rfl⟩
 gV:=fun b b4 c hb=>by cases hb
 kT:=fun t kc c hb=>by cases hb
 ht:=fun b t c hb=>by cases hb
 iG:=fun c _ ⟨b,hb⟩=>by cases hb
 jv:=fun c _ ⟨b,hb⟩=>by cases hb
 dU:=fun c hc=>hc.elim
 ga:=fun c hc=>hc.elim
 eh:=fun c hc=>hc
 gi:=fun c ⟨b,hb⟩=>by cases hb
 hl:=fun c ⟨b,hb⟩=>by cases hb
theorem akb {P:Program} {f:FuncId} {cW:List AV} {W:World} {vs:List Value} (h:bn P f cW (.bool true)) (aw:ah (V2 (Env.at W)) cW vs):
  Calls P f vs.toArray W fun e SE=>e= .returned (.bool true)∧RowKit.Below W.heap.size W SE:=by
 refine(h.2 (Env.at W) vs (fun _=>rfl) (Gn W) aw).mono ?_
 rintro e w' ⟨r,v,H',E',rfl,ak,rfl,ag,hs,hv,a6⟩
 have hb:r= .bool true:=by
  rcases ak with⟨l,fH,_,e,_⟩ | ⟨l,fH,_,e,_⟩ | ak
  ·cases e
  ·cases e
  ·cases ak;rfl
 subst hb
 refine⟨by rw[V3.qm hv],a6.os,a6.tape,a6.output,a6.size,fun k hk=>a6.cT k hk (fun⟨b,hb⟩=>by cases hb) (fun⟨b,hb⟩=>by cases hb)⟩
def F_ (W:World):AV→Value→Prop:=a1 W (fun c=>c<W.heap.size) (fun _=>False)
def jJ (P:Program) (W:World) (t:TypeId) {α:Type} (enc:α→List AV):Prop:=
 ∀{H:Type} (lq:TypeId×Value→H) (kP:Nat) (an:List Value) (x:DataW H×List MemPlace),DataW.trod lq P W 0 (fun _=>true) true kP t an=some x→(∀n∈x.1.weights P t,n≤reachBytes)→ ∃y:α,ah (F_ W) (enc y) an
section
variable {P:Program} {W:World}
theorem qM {t:TypeId} {k:IntKind} (hu:P.underlying t=some (.int k)):jJ P W t (fun n:Int=>[.int k n]):=fun lq kP an x h _=>by
 obtain⟨n,rfl,_⟩:=DataW.trod_int hu h
 exact⟨n,.cons (.int _ _) .nil⟩
theorem amE {t:TypeId} (hu:P.underlying t=some .bool):jJ P W t aR:=fun lq kP an x h _=>by
 obtain⟨n,rfl,_⟩:=DataW.trod_bool hu h
 exact⟨n,.cons (.bool _) .nil⟩
theorem alR {α:Type} (n:Nat) (φ:Nat→α→Prop) (h: ∀i,i<n→ ∃y,φ i y): ∃ys:List α,ys.length=n∧ ∀(i:Nat) (y:α),ys[i]?=some y→φ i y:=by
 induction n with
 | zero=>exact⟨[],rfl,fun i y h=>by simp at h⟩
 | succ n bp=>
  obtain⟨ys,au,aU⟩:=bp fun i hi=>h i (by omega)
  obtain⟨z,aH⟩:=h n (by omega)
  refine⟨ys++[z],by simp[au],fun i y hi=> ?_⟩
  rcases Nat.lt_or_ge i n with aQ | gO
  ·rw[List.getElem?_append_left (by omega)] at hi
   exact aU i y hi
  ·rw[List.getElem?_append_right (by omega)] at hi
   rcases Nat.eq_or_lt_of_le gO with rfl | pE
   ·rw[au,Nat.sub_self] at hi
    cases hi;exact aH
   ·rw[List.getElem?_eq_none (by simp;omega)] at hi
    cases hi
theorem Yw {α β:Type} {f:α→Option β}: ∀{l:List α} {r:List β},l.mapM f=some r→r.length=l.length∧ ∀(i:Nat) (a:α),l[i]?=some a→f a=r[i]?
 | [],r,h=>by simp at h;subst h;exact⟨rfl,fun i a h=>by simp at h⟩
 | x::l,r,h=>by
  rw[List.mapM_cons] at h
  simp only[bind,Option.bind_eq_some_iff,pure,Option.some.injEq] at h
  obtain⟨b,hb,Jc,ak,rfl⟩:=h
  obtain⟨h1,h2⟩:=Yw ak
  refine⟨by simp[h1],fun i a aw=> ?_⟩
  cases i with
  | zero=>simp at aw;subst aw;simpa using hb
  | succ i=>exact h2 i a (by simpa using aw)
theorem aeB {a:Addr} {n:Nat} {l:List Value} (h:W.cells? 0 a n=some l):l.length=n∧ ∀j,j<n→W.cell? (a.add j)=l[j]?:=by
 unfold World.cells? at h
 rw[if_pos (Nat.zero_le _)] at h
 obtain⟨au,az⟩:=Yw h
 rw[List.length_range] at au
 exact⟨au,fun j ac=>az j j (List.getElem?_range ac)⟩
theorem apF {a:Addr} {v:Value} (h:W.cell? a=some v):a.spot=none∧a.block<W.heap.size:=by
 unfold World.cell? at h
 split at h
 ·rename_i c _ _ hb
  split at h
  ·cases h
  ·rename_i hs
   refine⟨by cases U:a.spot<;>simp_all,?_⟩
   rcases Nat.lt_or_ge a.block W.heap.size with h1 | h1
   ·exact h1
   ·rw[Array.getElem?_eq_none h1] at hb;cases hb
 ·cases h
theorem add_add (c o x y:Nat):((⟨c,o,none⟩:Addr).add x).add y=⟨c,o+(x+y),none⟩:=by
 rw[qj,qj,Nat.add_assoc]
theorem tJ {t e:TypeId} {α:Type} {enc:α→List AV} (hu:P.underlying t=some (.slice e)) (hb:1≤P.bytesOf e) (aH:1≤P.cellsOf e) (hc: ∀x,(enc x).length=P.cellsOf e) (h:jJ P W e enc):jJ P W t (hq enc false):=by
 intro H lq kP an x aO hw
 rcases DataW.trod_slice hu aO with⟨rfl,rfl⟩ | ⟨a,len,cap,Ap,rest,n,_,rfl,rfl,_,au,_,hlen,yk,_,_⟩
 ·refine⟨[],.cons ?_ .nil⟩
  exact a1.aP (rows:=[]) (PB:=fun _=>False) (sz:=0) (vs:=fun _ _=>undef) (fun _ h=>h.elim) ⟨Nat.le_refl _,Nat.zero_le _⟩ (fun h=>by cases h) (fun i row h=>by simp at h) (fun h=>by simp at h) (fun i j row a h=>by simp at h)
 ·have tq:(Ap.length+rest.length)*P.bytesOf e≤reachBytes:=by
   have:=hw ((Ap.length+rest.length)*P.bytesOf e) (by simp[DataW.weights,hu])
   simpa using this
  have eH:len≤4611686018427387904:=by
   have h1:Ap.length+rest.length≤(Ap.length+rest.length)*P.bytesOf e:=Nat.le_mul_of_pos_right _ hb
   have h2:=reachBytes_lt
   have aC:(2:Nat) ^ 47=140737488355328:=rfl
   omega
  have eR: ∀(l:List (DataW H)) (d:DataW H),d∈l→ ∀m∈d.weights P e,m∈DataW.weightsAll P e l:=by
   intro l
   induction l with
   | nil=>intro d aY;cases aY
   | cons q l bp=>
    intro d aY m hm
    simp only[DataW.weightsAll,List.mem_append]
    rcases List.mem_cons.1 aY with rfl | aY
    ·exact .inl hm
    ·exact .inr (bp d aY m hm)
  obtain⟨ys,H2,aU⟩:=alR len (fun i y=> ∃l,W.cells? 0 (a.add (i*P.cellsOf e)) (P.cellsOf e)=some l∧ah (F_ W) (enc y) l) fun i hi=>by
   have h1:=yk i hi
   have h2:Ap[i]?=some (Ap[i]'(by omega)):=List.getElem?_eq_getElem _
   rw[h2,Option.bind_eq_some_iff] at h1
   obtain⟨l,DP,aip⟩:=h1
   obtain⟨y,aU⟩:=h lq n l _ aip fun m hm=>hw m (by
    simp only[DataW.weights,hu,List.mem_cons,List.mem_append]
    exact .inr (.inl (eR _ _ (List.mem_map.2 ⟨_,List.getElem_mem (by omega),rfl⟩) m hm)))
   exact⟨y,l,DP,aU⟩
  have hQ: ∀i j,i<len→j<P.cellsOf e→ ∃l v,W.cells? 0 (a.add (i*P.cellsOf e)) (P.cellsOf e)=some l∧l[j]?=some v∧W.cell? ((a.add (i*P.cellsOf e)).add j)=some v:=fun i j hi ac=>by
   obtain⟨l,sm,_⟩:=aU i _ (List.getElem?_eq_getElem (by omega))
   obtain⟨q1,q2⟩:=aeB sm
   exact⟨l,l[j]'(by omega),sm,List.getElem?_eq_getElem _,by rw[q2 j ac];exact List.getElem?_eq_getElem _⟩
  let vs:Nat→Nat→Value:=fun i j=>(((W.cells? 0 (a.add (i*P.cellsOf e)) (P.cellsOf e)).getD [])[j]?).getD undef
  refine⟨ys,.cons ?_ .nil⟩
  have key:=a1.aP (w:=W) (PA:=fun c=>c<W.heap.size) (PF:=fun _=>False) (PB:=fun c=>c<W.heap.size) (rows:=List.map enc ys) (full:=false) (fresh:=false) (A:=some a) (cap:=cap) (sz:=P.cellsOf e) (vs:=vs)
   (fun c hc=>by simpa using hc) (by rw[List.length_map,H2];exact⟨au,eH⟩) (fun h=>by cases h)
   (fun i row ak=>by
    rw[List.getElem?_map] at ak
    cases U:ys[i]? with
    | none=>rw[U] at ak;cases ak
    | some y=>rw[U] at ak;cases ak;exact hc y)
   (fun m0=>by
    rw[List.length_map,H2] at m0
    obtain⟨l,v,_,_,hv⟩:=hQ 0 0 m0 aH
    rw[Nat.zero_mul] at hv
    have aA:(a.add 0).add 0=a:=by simp[Addr.add]
    rw[aA] at hv
    obtain⟨hs,aQ⟩:=apF hv
    obtain⟨c,o,s⟩:=a
    have hs:s=none:=hs
    subst hs
    refine⟨c,o,rfl,aQ,fun i j hi ac=> ?_⟩
    rw[List.length_map,H2] at hi
    obtain⟨l,v,q1,q2,q3⟩:=hQ i j hi ac
    rw[add_add] at q3
    rw[q3]
    show some v=some ((((W.cells? 0 _ _).getD [])[j]?).getD undef)
    rw[q1]
    show some v=some ((l[j]?).getD undef)
    rw[q2];rfl)
   (fun i j row b ak ac=>by
    rw[List.getElem?_map] at ak
    cases U:ys[i]? with
    | none=>rw[U] at ak;cases ak
    | some y=>
     rw[U] at ak;cases ak
     obtain⟨l,sm,ab⟩:=aU i y U
     obtain⟨v,hv,oM⟩:=ab.get ac
     show a1 W _ _ b ((((W.cells? 0 _ _).getD [])[j]?).getD undef)
     rw[sm]
     show a1 W _ _ b ((l[j]?).getD undef)
     rw[hv];exact oM)
  rw[List.length_map,H2] at key
  exact key
def Cv (P:Program) (t:TypeId) (c3:List TypeId):Bool:=match P.underlying t with
 | some (.struct eU)=>(eU.toList.zipIdx.all fun p=>p.1.offset==p.2&&P.cellsOf p.1.type==1)&&eU.toList.map (·.type)==c3&&P.cellsOf t==c3.length
 | _=>false
theorem JO {t:TypeId} {c3:List TypeId} (hs:Cv P t c3=true) {H:Type} {lq:TypeId×Value→H} {kP:Nat} {an:List Value} {x:DataW H×List MemPlace} (h:DataW.trod lq P W 0 (fun _=>true) true kP t an=some x)
  (hw: ∀n∈x.1.weights P t,n≤reachBytes):an.length=c3.length∧ ∀(i:Nat) (u:TypeId) (v:Value),c3[i]?=some u→an[i]?=some v→ ∃(n:Nat) (z:DataW H×List MemPlace),DataW.trod lq P W 0 (fun _=>true) true n u [v]=some z∧ ∀m∈z.1.weights P u,m≤reachBytes:=by
 unfold Cv at hs
 split at hs
 ·rename_i eU hu
  simp only[Bool.and_eq_true,beq_iff_eq] at hs
  obtain⟨⟨h1,h2⟩,aC⟩:=hs
  obtain⟨xs,n,_,rfl,au,qC,hf⟩:=DataW.trod_struct hu h
  refine⟨by rw[au,aC],fun i u v aO hv=> ?_⟩
  have hi:i<eU.size:=by
   have:=(List.getElem?_eq_some_iff.1 aO).1
   rw[←h2] at this;simpa using this
  have Mx:eU[i]?=some eU[i]:=Array.getElem?_eq_getElem hi
  have ais:eU[i].type=u:=by
   have:(eU.toList.map (·.type))[i]?=some u:=by rw[h2];exact aO
   rw[List.getElem?_map,Array.getElem?_toList,Mx] at this
   exact Option.some.inj this
  have MM:=List.all_eq_true.1 h1 (eU[i],i) (by rw[List.mem_zipIdx_iff_getElem?];rw[Array.getElem?_toList];exact Mx)
  simp only[Bool.and_eq_true,beq_iff_eq] at MM
  have:=hf i eU[i] Mx
  rw[MM.1,MM.2,ais] at this
  have HP:(an.drop i).take 1=[v]:=by
   have aQ:=(List.getElem?_eq_some_iff.1 hv).1
   rw[List.drop_eq_getElem_cons aQ,List.take_succ_cons,List.take_zero]
   have:=(List.getElem?_eq_some_iff.1 hv).2
   rw[this]
  rw[HP] at this
  have VF:xs[i]?=some (xs[i]'(by omega)):=List.getElem?_eq_getElem _
  rw[VF] at this
  refine⟨n,_,this,fun m hm=>hw m ?_⟩
  simp only[DataW.weights,hu]
  exact DataW.weights_mem_each (j:=i) (by rw[h2];exact aO) (by rw[List.getElem?_map,VF];rfl) m hm
 ·cases hs
theorem Ds {an:List Value} (h:an.length=2): ∃a b,an=[a,b]:=by
 match an,h with
 | [a,b],_=>exact⟨a,b,rfl⟩
theorem aex {an:List Value} (h:an.length=3): ∃a b c,an=[a,b,c]:=by
 match an,h with
 | [a,b,c],_=>exact⟨a,b,c,rfl⟩
theorem Tl {an:List Value} (h:an.length=5): ∃a b c d e,an=[a,b,c,d,e]:=by
 match an,h with
 | [a,b,c,d,e],_=>exact⟨a,b,c,d,e,rfl⟩
theorem oZ {α:Type} {u:TypeId} {enc:α→List AV} {f:α→AV} (he: ∀y,enc y=[f y]) (h:jJ P W u enc) {H:Type} {lq:TypeId×Value→H} {n:Nat} {v:Value} {z:DataW H×List MemPlace} (aO:DataW.trod lq P W 0 (fun _=>true) true n u [v]=some z)
  (hw: ∀m∈z.1.weights P u,m≤reachBytes): ∃y,F_ W (f y) v:=by
 obtain⟨y,aU⟩:=h lq n [v] z aO hw
 rw[he] at aU
 exact⟨y,aU.head⟩
theorem Y5 {t a b:TypeId} (hs:Cv P t [a,b]=true) (aw:jJ P W a cx) (hb:jJ P W b cx):jJ P W t dd:=fun lq kP an x h hw=>by
 obtain⟨au,hc⟩:=JO hs h hw
 obtain⟨bE,bz,rfl⟩:=Ds au
 obtain⟨ct,z0,cG,aS⟩:=hc 0 a bE rfl rfl
 obtain⟨dG,kI,q1,bq⟩:=hc 1 b bz rfl rfl
 obtain⟨fq,fA⟩:=oZ (fun _=>rfl) aw cG aS
 obtain⟨gf,c5⟩:=oZ (fun _=>rfl) hb q1 bq
 exact⟨⟨fq,gf⟩,.cons fA (.cons c5 .nil)⟩
theorem amB {t a b c:TypeId} (hs:Cv P t [a,b,c]=true) (aw:jJ P W a cx) (hb:jJ P W b cx) (aY:jJ P W c cx):jJ P W t dL:=fun lq kP an x h hw=>by
 obtain⟨au,hc⟩:=JO hs h hw
 obtain⟨bE,bz,bu,rfl⟩:=aex au
 obtain⟨ct,z0,cG,aS⟩:=hc 0 a bE rfl rfl
 obtain⟨dG,kI,q1,bq⟩:=hc 1 b bz rfl rfl
 obtain⟨n2,z2,q2,bo⟩:=hc 2 c bu rfl rfl
 obtain⟨fq,fA⟩:=oZ (fun _=>rfl) aw cG aS
 obtain⟨gf,c5⟩:=oZ (fun _=>rfl) hb q1 bq
 obtain⟨hN,dP⟩:=oZ (fun _=>rfl) aY q2 bo
 exact⟨⟨fq,gf,hN⟩,.cons fA (.cons c5 (.cons dP .nil))⟩
theorem amD {t a b c d e:TypeId} (hs:Cv P t [a,b,c,d,e]=true) (aw:jJ P W a (hq cx false)) (hb:jJ P W b (hq dd false)) (Mr:jJ P W c (hq dd false)) (aY:jJ P W d (hq cx false)) (he:jJ P W e (hq cx false)):jJ P W t (dj false):=fun lq kP an x h hw=>by
 obtain⟨au,hc⟩:=JO hs h hw
 obtain⟨bE,bz,bu,ke,mg,rfl⟩:=Tl au
 obtain⟨ct,z0,cG,aS⟩:=hc 0 a bE rfl rfl
 obtain⟨dG,kI,q1,bq⟩:=hc 1 b bz rfl rfl
 obtain⟨n2,z2,q2,bo⟩:=hc 2 c bu rfl rfl
 obtain⟨nC,z3,q3,bK⟩:=hc 3 d ke rfl rfl
 obtain⟨EI,z4,q4,fF⟩:=hc 4 e mg rfl rfl
 obtain⟨fq,fA⟩:=oZ (fun _=>rfl) aw cG aS
 obtain⟨gf,c5⟩:=oZ (fun _=>rfl) hb q1 bq
 obtain⟨hN,dP⟩:=oZ (fun _=>rfl) Mr q2 bo
 obtain⟨FL,eJ⟩:=oZ (fun _=>rfl) aY q3 bK
 obtain⟨Se,m8⟩:=oZ (fun _=>rfl) he q4 fF
 exact⟨⟨fq,gf,hN,FL,Se⟩,.cons fA (.cons c5 (.cons dP (.cons eJ (.cons m8 .nil))))⟩
theorem amC {t a b c d e:TypeId} (hs:Cv P t [a,b,c,d,e]=true) (aw:jJ P W a cx) (hb:jJ P W b (hq cx false)) (Mr:jJ P W c (hq (dj false) false)) (aY:jJ P W d (hq (hq aR false) false)) (he:jJ P W e cx):jJ P W t (bD false):=fun lq kP an x h hw=>by
 obtain⟨au,hc⟩:=JO hs h hw
 obtain⟨bE,bz,bu,ke,mg,rfl⟩:=Tl au
 obtain⟨ct,z0,cG,aS⟩:=hc 0 a bE rfl rfl
 obtain⟨dG,kI,q1,bq⟩:=hc 1 b bz rfl rfl
 obtain⟨n2,z2,q2,bo⟩:=hc 2 c bu rfl rfl
 obtain⟨nC,z3,q3,bK⟩:=hc 3 d ke rfl rfl
 obtain⟨EI,z4,q4,fF⟩:=hc 4 e mg rfl rfl
 obtain⟨fq,fA⟩:=oZ (fun _=>rfl) aw cG aS
 obtain⟨gf,c5⟩:=oZ (fun _=>rfl) hb q1 bq
 obtain⟨hN,dP⟩:=oZ (fun _=>rfl) Mr q2 bo
 obtain⟨FL,eJ⟩:=oZ (fun _=>rfl) aY q3 bK
 obtain⟨Se,m8⟩:=oZ (fun _=>rfl) he q4 fF
 exact⟨⟨fq,gf,hN,FL,Se⟩,.cons fA (.cons c5 (.cons dP (.cons eJ (.cons m8 .nil))))⟩
theorem adR {t:TypeId} {α:Type} {enc:α→List AV} {k:Nat} (h:jJ P W t enc) (hk:2≤k) (hc: ∀y,(enc y).length=k) {H:Type} {lq:TypeId×Value→H} {v:Value} {d:DataW H} {ps:List MemPlace} (aO:DataW.Trod lq P W 0 (fun _=>true) true t v d ps)
  (hw: ∀n∈d.weights P t,n≤reachBytes): ∃y,V2 (Env.at W) (.agg (enc y)) v:=by
 obtain⟨kP,hf⟩:=aO
 obtain⟨y,ab⟩:=h lq kP _ _ hf hw
 have au:=ab.1
 rw[hc] at au
 have hv:v= .agg v.cells:=by
  cases v<;>first | rfl | (simp[Value.cells] at au;omega)
 refine⟨y,v.cells.toList,by rw[Array.toArray_toList];exact hv,ab.mono fun a u ak=>a1.v1 (E:=Env.at W) ak⟩
theorem adQ {t:TypeId} {α:Type} {enc:α→List AV} {f:α→AV} (h:jJ P W t enc) (he: ∀y,enc y=[f y]) {H:Type} {lq:TypeId×Value→H} {v:Value} {d:DataW H} {ps:List MemPlace} (aO:DataW.Trod lq P W 0 (fun _=>true) true t v d ps)
  (hw: ∀n∈d.weights P t,n≤reachBytes) (hv:v.cells= #[v]): ∃y,V2 (Env.at W) (f y) v:=by
 obtain⟨kP,hf⟩:=aO
 rw[hv] at hf
 obtain⟨y,ab⟩:=h lq kP _ _ hf hw
 rw[he] at ab
 have ak:F_ W (f y) v:=ab.head
 exact⟨y,mS (a1.v1 (E:=Env.at W) ak)⟩
end
def Xd (P:Program) (fn:Func) (c:OpenClaim):Bool:=c.kinds==(if c.domain.isEmpty then[] else fn.params.toList.map fun t=>match P.underlying t with | some (.int k)=>some k | _=>none)
theorem aj4 {P:Program} {f:FuncId} {fn:Func} {s:ChangeSpec} {c:OpenClaim} (aA:(c.wf (OpenSpec.ofChange s))=true) (h1:laidOutB P=true) (h2:mapsRowed P=true) (aC:fn.params.all (P.readableRec ·)=true) (bg:namedTie P c.named s.vars=true) (ch:(c.stops==[])=true) (cy:(P.stops==[])=true) (hr:(c.knobs==[])=true) (uM:(P.stopKnobs==[])=true) (x_:(c.inPlace==P.inPlace f)=true) (DF:(c.unfollowed==P.unfollowed f)=true) (agL:(c.recurses==P.recurses f)=true) (qv:(c.named==P.varsNamed f)=true) (agM:(c.maps==(fn.params.toList++s.plain.varTypes P).any (P.mapsRec ·))=true) (agN:(c.ifaces==(fn.params.toList++s.plain.varTypes P).any (P.ifacesRec ·))=true) (agO:(c.mapsOut==P.mapsAmong fn.resultTypes.toList)=true) (agP:(c.loops==(fn.params.toList++s.plain.varTypes P).any (P.loopsFrom ·))=true) (agQ:(c.wideKeys==(fn.params.toList++s.plain.varTypes P++fn.resultTypes.toList).any (P.wideKeysFrom ·))=true) (agR:s.vars.all (P.varReadable ·)=true) (agS:fn.resultTypes.all (fun t=>P.readableRec t&&decide (t<P.types.size))=true) (agT:(c.ifacesOut==fn.resultTypes.toList.any (P.ifacesRec ·))=true) (agU:(c.loopsOut==fn.resultTypes.toList.any (P.loopsFrom ·))=true) (agV:(c.plainKeys==P.plainKeys)=true) (agW:c.shortTexts.isNone=true) (agX:P.stopsHeard=true) (agY:P.mayEnter=true) (agZ:(c.lifted==P.liftsFinal)=true) (ag0:(P.make==some c.make)=true) (ag1:Xd P fn c=true) (ag2:(c.pinned==c.pinnedBy)=true) (rk:(c.veiled==(fn.params.toList++s.plain.varTypes P++fn.resultTypes.toList).any (P.veiledRec ·))=true) (ag3:c.veiledFits P fn.params.toList (fn.params.toList++s.plain.varTypes P++fn.resultTypes.toList)=true):joinedFacts P f fn s c=true:=by
 unfold joinedFacts
 simp only[Bool.and_eq_true]
 exact⟨⟨⟨⟨⟨⟨⟨⟨⟨⟨⟨⟨⟨⟨⟨⟨⟨⟨⟨⟨⟨⟨⟨⟨⟨⟨⟨⟨⟨⟨⟨aA,h1⟩,h2⟩,aC⟩,bg⟩,ch⟩,cy⟩,hr⟩,uM⟩,x_⟩,DF⟩,agL⟩,qv⟩,agM⟩,agN⟩,agO⟩,agP⟩,agQ⟩,agR⟩,agS⟩,agT⟩,agU⟩,agV⟩,agW⟩,agX⟩,agY⟩,agZ⟩,ag0⟩,ag1⟩,ag2⟩,rk⟩,ag3⟩
theorem amq {α:Type} [Inhabited α] {xs:List α} {i:Int} (h:i.toNat<xs.length):nth xs i=xs[i.toNat]:=by
 have:=hT h
 rw[List.getElem?_eq_getElem h] at this
 exact(Option.some.inj this).symm
def bj (b:List Bool):Blk:=⟨0,1,List.map aR b⟩
def k6 (s:Nat) (h:av) (id:Nat):List AV:=[.int .i64 h.aF,.int .i64 h.bc,.ref (id+s) 0 0 h.ae.length false,.bool h.bW,.int .i64 h.bU]
def aW (s:Nat) (ws:List av) (ids:List Nat):List (List AV):=List.zipWith (k6 s) ws ids
def view (ws:List av) (ids:List Nat) (bs:List (List Bool)):List av:=List.zipWith (fun h id=>{h with ae:=bs.getD id []}) ws ids
structure ll (ws:List av) (ids:List Nat) (bs:List (List Bool)):Prop where
 len:ws.length=ids.length
 lt: ∀(i id:Nat),ids[i]?=some id→id<bs.length
 ae: ∀(i id:Nat) (h:av),ws[i]?=some h→ids[i]?=some id→h.ae.length=(bs.getD id []).length
theorem dM {s:Nat} {ws:List av} {ids:List Nat} {i:Int} (au:ws.length=ids.length) (hi:i.toNat<ws.length):(aW s ws ids)[i.toNat]?=some (k6 s (nth ws i) (nth ids i)):=by
 unfold aW
 rw[List.getElem?_zipWith,hT hi,hT (by omega)]
theorem wa {s:Nat} {ws:List av} {ids:List Nat} (au:ws.length=ids.length):(aW s ws ids).length=ws.length:=by
 unfold aW;rw[List.length_zipWith];omega
theorem AD {s:Nat} {ws:List av} {ids:List Nat} {i:Nat} {h:av} {id:Nat} (au:ws.length=ids.length):(aW s ws ids).set i (k6 s h id)=aW s (ws.set i h) (ids.set i id):=by
 apply List.ext_getElem?
 intro j
 unfold aW
 rw[List.getElem?_set,List.getElem?_zipWith,List.getElem?_zipWith,List.getElem?_set,List.getElem?_set]
 by_cases nY:i=j
 ·subst nY
  simp only[if_true,List.length_zipWith]
  by_cases hi:i<ws.length
  ·rw[if_pos (by omega),if_pos hi,if_pos (by omega)]
  ·rw[if_neg (by omega),if_neg hi]
 ·simp only[if_neg nY]
theorem lu {s:Nat} {ws:List av} {ids:List Nat} {i:Int} {h:av} (au:ws.length=ids.length) (hi:i.toNat<ws.length):(aW s ws ids).set i.toNat (k6 s h (nth ids i))=aW s (ws.set i.toNat h) ids:=by
 rw[AD au]
 congr 1
 rw[amq (by omega)]
 exact List.set_getElem_self _
theorem Mg {s:Nat} {ws:List av} {ids:List Nat} {h:av} {id:Nat} (au:ws.length=ids.length):aW s ws ids++[k6 s h id]=aW s (ws++[h]) (ids++[id]):=by
 unfold aW
 rw[List.zipWith_append au];rfl
theorem s7 {bs:List (List Bool)} {id:Nat} (h:id<bs.length):(List.map bj bs)[id]?=some (bj (bs.getD id [])):=by
 rw[List.getElem?_map,List.getElem?_eq_getElem h,List.getD_eq_getElem?_getD,List.getElem?_eq_getElem h];rfl
theorem LR {bs:List (List Bool)} {id:Nat} {b:List Bool}:(List.map bj bs).set id (bj b)=List.map bj (bs.set id b):=by rw[List.map_set]
theorem Dp {b:List Bool} {i:Int} (h:i.toNat<b.length):(List.map aR b)[i.toNat]?=some (aR (nth b i)):=by rw[List.getElem?_map,hT h];rfl
theorem KW {b:List Bool} {i:Nat} {x:Bool}:(List.map aR b).set i (aR x)=List.map aR (b.set i x):=by rw[List.map_set]
theorem jT {ws:List av} {ids:List Nat} {bs:List (List Bool)} (h:ll ws ids bs):(view ws ids bs).length=ws.length:=by
 unfold view;rw[List.length_zipWith];have:=h.len;omega
theorem xA {ws:List av} {ids:List Nat} {bs:List (List Bool)} {i:Nat} {h:av} {id:Nat} (h1:ws[i]?=some h) (h2:ids[i]?=some id):(view ws ids bs)[i]?=some {h with ae:=bs.getD id []}:=by
 unfold view;rw[List.getElem?_zipWith,h1,h2]
theorem tQ {s:Nat} {ws:List av} {ids:List Nat} {i:Nat} {row:List AV} (h:(aW s ws ids)[i]?=some row): ∃x id,ws[i]?=some x∧ids[i]?=some id∧row=k6 s x id:=by
 unfold aW at h
 rw[List.getElem?_zipWith] at h
 cases hx:ws[i]? with
 | none=>rw[hx] at h;cases h
 | some x=>
  cases aY:ids[i]? with
  | none=>rw[hx,aY] at h;cases h
  | some id=>rw[hx,aY] at h;cases h;exact⟨x,id,rfl,rfl,rfl⟩
theorem xi {L:List (Nat×List AV)} {H:List Blk} {b s n:Nat} {full:Bool} {ws:List av} {ids:List Nat} {bs:List (List Bool)} (ag:n=ws.length) (hb:H[b]?=some ⟨0,5,aW s ws ids⟩)
  (hf: ∀(id:Nat) (k:Blk),(List.map bj bs)[id]?=some k→H[id+s]?=some k) (ok:ll ws ids bs) (eH:ws.length≤4611686018427387904) (AA: ∀x∈bs,x.length≤4611686018427387904):
  gD L H (.ref b 0 0 n full) (.aP (List.map (gE false) (view ws ids bs)) false false):=by
 subst ag
 refine gD.ref (fun h=>by cases h) hb rfl (by rw[List.length_map,jT ok]) eH (by rw[Nat.zero_add,wa ok.len];exact Nat.le_refl _) (fun i row row' h1 h2=> ?_) (fun i j row row' a c h1 h2 aC bg=> ?_)
 ·rw[Nat.zero_add] at h1
  obtain⟨x,id,hx,aY,rfl⟩:=tQ h1
  rw[List.getElem?_map,xA hx aY] at h2
  cases h2;rfl
 ·rw[Nat.zero_add] at h1
  obtain⟨x,id,hx,aY,rfl⟩:=tQ h1
  rw[List.getElem?_map,xA hx aY] at h2
  cases h2
  have aQ:=ok.lt i id aY
  have key:q0 L H (k6 s x id) (gE false {x with ae:=bs.getD id []}):=by
   refine .cons (.int _ _) (.cons (.int _ _) (.cons ?_ (.cons (.bool _) (.cons (.int _ _) .nil))))
   have hm:bs.getD id []∈bs:=by rw[List.getD_eq_getElem?_getD,List.getElem?_eq_getElem aQ];exact List.getElem_mem aQ
   exact o8 (eT:=aR) (eF:=aR) (sz:=1) (ok.ae i id x hx aY) (hf id _ (s7 aQ)) wx (AA _ hm)
  exact key.2 j a c aC bg
theorem Cs {H:List Blk} {b g s n:Nat} {full:Bool} {ws ys:List av} {ids:List Nat} {bs:List (List Bool)} (ag:n=ws.length) (hb:H[b]?=some ⟨g,5,aW s ws ids⟩)
  (hf: ∀(id:Nat) (k:Blk),(List.map bj bs)[id]?=some k→H[id+s]?=some k) (h:ll ws ids bs∧ws.length≤4611686018427387904∧(∀x∈bs,x.length≤4611686018427387904)∧view ws ids bs=ys):
  gT H (.ref b g 0 n full) (.aP (List.map (gE false) ys) false true):=by
 obtain⟨ok,eH,AA,rfl⟩:=h
 subst ag
 refine gT.ref (fun h=>by cases h) (fun i j=>(((view ws ids bs)[i]?).bind fun x=>(gE true x)[j]?).getD .undef) hb rfl (by rw[List.length_map,jT ok]) eH (by rw[Nat.zero_add,wa ok.len];exact Nat.le_refl _) (fun i row row' h1 h2=> ?_) (fun i j row a hi h1 h2=> ?_) (fun i j row' c h1 h2=> ?_)
 ·rw[Nat.zero_add] at h1
  obtain⟨x,id,hx,aY,rfl⟩:=tQ h1
  rw[List.getElem?_map,xA hx aY] at h2
  cases h2;rfl
 ·rw[Nat.zero_add] at h1
  obtain⟨x,id,hx,aY,rfl⟩:=tQ h1
  rw[xA hx aY]
  have aQ:=ok.lt i id aY
  have hm:bs.getD id []∈bs:=by rw[List.getD_eq_getElem?_getD,List.getElem?_eq_getElem aQ];exact List.getElem_mem aQ
  show gT H a (((some ({x with ae:=bs.getD id []}:av)).bind fun x=>(gE true x)[j]?).getD .undef)
  match j,h2 with
  | 0,h2=>cases h2;exact .int _ _
  | 1,h2=>cases h2;exact .int _ _
  | 2,h2=>
   cases h2
   exact p_ (eT:=aR) (eF:=aR) (sz:=1) (ok.ae i id x hx aY) (hf id _ (s7 aQ)) vU ⟨AA _ hm,rfl⟩
  | 3,h2=>cases h2;exact .bool _
  | 4,h2=>cases h2;exact .int _ _
  | j+5,h2=>simp[k6] at h2
 ·rw[List.getElem?_map] at h1
  cases hv:(view ws ids bs)[i]? with
  | none=>rw[hv] at h1;cases h1
  | some x=>
   rw[hv] at h1;cases h1
   show c=kd (((some x).bind fun x=>(gE true x)[j]?).getD .undef)
   match j,h2 with
   | 0,h2=>cases h2;rfl
   | 1,h2=>cases h2;rfl
   | 2,h2=>cases h2;rfl
   | 3,h2=>cases h2;rfl
   | 4,h2=>cases h2;rfl
   | j+5,h2=>simp[gE] at h2
theorem Weak.Bw [cL] (sz:Nat) {T:List AV} {L:List (Nat×List AV)} {H:List Blk}:Weak ⟨T,L,H⟩ ⟨T,L,H++[⟨0,sz,[]⟩]⟩:=fun cj E tmps g s=>by
 obtain⟨E',hw,a6,h1,h2,_⟩:=IN (blk:=⟨0,sz,[]⟩) s.h s.l rfl rfl
 exact⟨E',hw,g.step a6,h1,h2,fun t=>(s.jD t).le a6.le,s.size⟩
theorem Weak.clear [cL] (j:Nat) {g sz:Nat} {rows:List (List AV)} {T:List AV} {L:List (Nat×List AV)} {H:List Blk} (ac:H[j]?=some ⟨g,sz,rows⟩):Weak ⟨T,L,H⟩ ⟨T,L,H.set j ⟨g,sz,[]⟩⟩:=fun cj E tmps agC s=>by
 have ki:=(List.getElem?_eq_some_iff.1 ac).1
 have get: ∀(b:Nat) (blk:Blk),(H.set j ⟨g,sz,[]⟩)[b]?=some blk→(b=j∧blk=⟨g,sz,[]⟩)∨(b≠j∧H[b]?=some blk):=fun b blk h=>by
  rw[List.getElem?_set] at h
  split at h
  ·rename_i e;subst e;exact .inl ⟨rfl,(Option.some.inj h).symm⟩
  ·rename_i e;exact .inr ⟨fun h=>e h.symm,h⟩
 have h9:SimH E H:=s.h
 refine⟨E,rfl,agC,{h9 with
  heap:=fun b c hb=> ?_,ff:=fun b blk hb=> ?_,h6:=fun b hb=> ?_,fresh:=fun b hb=>h9.fresh b (by simpa using hb)},s.l,s.jD,s.size⟩
 ·obtain⟨blk,an,ty,q1,cG,q2,q3,q4,cQ⟩:=h9.heap b c hb
  by_cases e:b=j
  ·subst e
   rw[ac] at q1
   obtain rfl:=Option.some.inj q1
   exact⟨⟨g,sz,[]⟩,an,ty,by rw[List.getElem?_set];simp[ki],cG,q2,q3,Nat.zero_le _,fun i row h=>by simp at h,fun i j row a h=>by simp at h⟩
  ·exact⟨blk,an,ty,by rw[List.getElem?_set,if_neg (fun h=>e h.symm)];exact q1,cG,q2,q3,q4,cQ⟩
 ·rcases get b blk hb with⟨rfl,rfl⟩ | ⟨_,hb⟩
  ·exact(h9.ff b _ ac:)
  ·exact h9.ff b blk hb
 ·obtain⟨blk,q1,cG⟩:=h9.h6 b hb
  by_cases e:b=j
  ·subst e
   rw[ac] at q1
   obtain rfl:=Option.some.inj q1
   exact⟨⟨g,sz,[]⟩,by rw[List.getElem?_set];simp[ki],cG⟩
  ·exact⟨blk,by rw[List.getElem?_set,if_neg (fun h=>e h.symm)];exact q1,cG⟩
theorem aax (H:List Blk):H.map (ir 0)=H:=by
 have aA: ∀a:AV,ji 0 a=a:=fun a=>by cases a<;>simp[ji]
 have:ir 0=id:=by
  funext b
  obtain⟨g,s,rows⟩:=b
  show(⟨g,s,rows.map fun row=>row.map (ji 0)⟩:Blk)=⟨g,s,rows⟩
  congr 1
  have:(fun row:List AV=>row.map (ji 0))=id:=by funext row;rw[show ji 0=id from funext aA];simp
  rw[this];simp
 rw[this];simp
theorem BF {g0 g1 g2 s:Nat} {aE:List Bool} {jf:List bL} {ws:List av} {ids:List Nat} {bs:List (List Bool)}:w0 (⟨g0,1,List.map aR aE⟩::⟨g1,2,List.map ba jf⟩::⟨g2,5,aW s ws ids⟩::List.map bj bs)=true:=by
 refine tK (fun _=>rfl) (tK (fun _=>rfl) ?_)
 unfold w0
 rw[List.all_eq_true]
 intro b hb
 rw[List.all_eq_true]
 intro row ak
 rcases List.mem_cons.1 hb with rfl | hb
 ·obtain⟨i,hi⟩:=List.mem_iff_getElem?.1 ak
  obtain⟨x,id,_,_,rfl⟩:=tQ hi
  rfl
 ·obtain⟨b,_,rfl⟩:=List.mem_map.1 hb
  obtain⟨x,_,rfl⟩:=List.mem_map.1 ak
  rfl
def zn (j:Nat):Option Nat:=if j<3 then some j else some (j+1)
theorem Zb {r:AV} {g0 g1 g2 g3 ct dG n2:Nat} {f0 f1 f2:Bool} {R:Frame} {ok:Bool} {aE:List Bool} {jf:List bL} {ws:List av} {ids:List Nat} {bs:List (List Bool)} {rows:List (List AV)}
  (h:ok=R.ok∧aE=R.aE∧jf=R.ay∧ws=R.O∧ids=List.range ws.length∧bs=ws.map av.ae) (aA:ct=aE.length) (h1:dG=jf.length) (h2:n2=ws.length) (ak:r= .agg [.bool ok,.ref 0 g0 0 ct f0,.ref 1 g1 0 dG f1,.ref 2 g2 0 n2 f2]):
  ∃db,ur (⟨g0,1,List.map aR aE⟩::⟨g1,2,List.map ba jf⟩::⟨g2,5,aW 4 ws ids⟩::⟨g3,5,rows⟩::List.map bj bs)
   (⟨0,1,List.map aR R.aE⟩::⟨0,2,List.map ba R.ay⟩::⟨0,5,aW 3 R.O (List.range R.O.length)⟩::List.map bj (List.map av.ae R.O)) db∧
   F9 (⟨g0,1,List.map aR aE⟩::⟨g1,2,List.map ba jf⟩::⟨g2,5,aW 4 ws ids⟩::⟨g3,5,rows⟩::List.map bj bs)
    (⟨0,1,List.map aR R.aE⟩::⟨0,2,List.map ba R.ay⟩::⟨0,5,aW 3 R.O (List.range R.O.length)⟩::List.map bj (List.map av.ae R.O)).length db r
    (.agg [.bool R.ok,.ref 0 0 0 R.aE.length false,.ref 1 0 0 R.ay.length false,.ref 2 0 0 R.O.length false]):=by
 obtain⟨rfl,rfl,rfl,rfl,rfl,rfl⟩:=h
 subst aA;subst h1;subst h2;subst ak
 have hlen:(⟨0,1,List.map aR R.aE⟩::⟨0,2,List.map ba R.ay⟩::⟨0,5,aW 3 R.O (List.range R.O.length)⟩::List.map bj (List.map av.ae R.O):List Blk).length=R.O.length+3:=by simp
 refine⟨zn,⟨fun i j b hi ac h1 h2=> ?_,fun j k hk=> ?_,fun j b k hk hs=> ?_⟩,.inl ⟨_,_,rfl,rfl,?_⟩⟩
 ·unfold zn at h1 h2
  split at h1<;>split at h2<;>simp at h1 h2<;>omega
 ·match j,hk with
  | 0,hk=>simp at hk;subst hk;rfl
  | 1,hk=>simp at hk;subst hk;rfl
  | 2,hk=>simp at hk;subst hk;rfl
  | j+3,hk=>simp at hk;obtain⟨x,_,rfl⟩:=hk;rfl
 ·rw[hlen]
  match j,hk,hs with
  | 0,hk,hs=>
   simp at hk;subst hk
   obtain rfl:0=b:=by simpa[zn] using hs
   exact qR (b:=0) rfl y7 rfl
  | 1,hk,hs=>
   simp at hk;subst hk
   obtain rfl:1=b:=by simpa[zn] using hs
   exact qR (b:=1) rfl IT rfl
  | 2,hk,hs=>
   simp at hk;subst hk
   obtain rfl:2=b:=by simpa[zn] using hs
   refine⟨_,rfl,rfl,⟨by rw[wa (by simp),wa (by simp)],fun i Pt fo aw hb=> ?_⟩⟩
   obtain⟨x,id,hx,aY,rfl⟩:=tQ aw
   obtain⟨mO,gm,jL,pD,rfl⟩:=tQ hb
   rw[hx] at jL;cases jL
   rw[aY] at pD;cases pD
   have th:i<R.O.length:=(List.getElem?_eq_some_iff.1 hx).1
   obtain rfl:i=id:=by rw[List.getElem?_range th] at aY;exact Option.some.inj aY
   refine .cons (.int _ _) (.cons (.int _ _) (.cons ?_ (.cons (.bool _) (.cons (.int _ _) .nil))))
   refine ic.ref (blk:=bj x.ae) (by omega) (by simp[zn]) ?_ rfl
   show(List.map bj (List.map av.ae R.O))[i]?=_
   rw[List.getElem?_map,List.getElem?_map,hx];rfl
  | j+3,hk,hs=>
   obtain rfl:j+4=b:=by
    unfold zn at hs
    rw[if_neg (by omega)] at hs;exact Option.some.inj hs
   have hk:(List.map bj (List.map av.ae R.O))[j]?=some k:=by simpa using hk
   have: ∃x,k=bj x:=by
    rw[List.getElem?_map] at hk
    cases U:(List.map av.ae R.O)[j]? with
    | none=>rw[U] at hk;cases hk
    | some x=>rw[U] at hk;cases hk;exact⟨x,rfl⟩
   obtain⟨x,rfl⟩:=this
   have hb:(⟨g0,1,List.map aR R.aE⟩::⟨g1,2,List.map ba R.ay⟩::⟨g2,5,aW 4 R.O (List.range R.O.length)⟩::⟨g3,5,rows⟩::List.map bj (List.map av.ae R.O):List Blk)[j+4]?=some ⟨0,1,List.map aR x⟩:=hk
   exact qR (b:=j+4) hb y7 rfl
 ·rw[hlen]
  exact .cons (.bool _) (.cons (.ref (by omega) rfl rfl rfl) (.cons (.ref (by omega) rfl rfl rfl) (.cons (.ref (by omega) rfl rfl rfl) .nil)))
theorem anV {k s:Nat} {ws:List av} {ids:List Nat}:(aW s ws ids).map (fun row=>row.map (ji k))=aW (s+k) ws ids:=by
 apply List.ext_getElem?
 intro i
 unfold aW
 rw[List.getElem?_map,List.getElem?_zipWith,List.getElem?_zipWith]
 cases ws[i]? with
 | none=>rfl
 | some h=>
  cases ids[i]? with
  | none=>rfl
  | some id=>
   show some [_,_,AV.ref (k+(id+s)) 0 0 h.ae.length false,_,_]=some [_,_,AV.ref (id+(s+k)) 0 0 h.ae.length false,_,_]
   rw[show k+(id+s)=id+(s+k) by omega];rfl
theorem anU {k:Nat} {bs:List (List Bool)}:(List.map bj bs).map (ir k)=List.map bj bs:=by
 rw[List.map_map]
 refine List.map_congr_left fun b _=> ?_
 show(⟨0,1,(List.map aR b).map fun row=>row.map (ji k)⟩:Blk)=⟨0,1,_⟩
 rw[List.map_map]
 congr 1
theorem aay {k g0 g1 g2 s:Nat} {aE:List Bool} {jf:List bL} {ws:List av} {ids:List Nat} {bs:List (List Bool)}:
  (⟨g0,1,List.map aR aE⟩::⟨g1,2,List.map ba jf⟩::⟨g2,5,aW s ws ids⟩::List.map bj bs:List Blk).map (ir k)=⟨g0,1,List.map aR aE⟩::⟨g1,2,List.map ba jf⟩::⟨g2,5,aW (s+k) ws ids⟩::List.map bj bs:=by
 refine tV (fun _=>rfl) (tV (fun _=>rfl) ?_)
 show(⟨g2,5,(aW s ws ids).map fun row=>row.map (ji k)⟩:Blk)::(List.map bj bs).map (ir k)=_
 rw[anV,anU]
structure gB (ws:List av) (ids:List Nat) (bs:List (List Bool)):Prop where
 ok:ll ws ids bs
 lE: ∀i j k:Nat,ids[i]?=some k→ids[j]?=some k→i=j
 len: ∀b∈bs,b.length≤1048576
theorem uF {bs:List (List Bool)} {b:List Bool}:List.map bj bs++[⟨0,1,List.map aR b⟩]=List.map bj (bs++[b]):=by rw[List.map_append];rfl
section
variable {P:Program} {esc:List Nat} {ops:Array Oper} {n:Nat} {X:List Oper} {i0:Nat} {A:List (Nat×AV)} {L:List (Nat×List AV)} {H:List Blk} {K:List (Nat×AV)→List (Nat×List AV)→List Blk→Prop}
theorem jR (a8:Nat) (d:Option Nat) (N:List (Nat×AV)) (rows:List (List AV)) {row:List AV} (i:Int) (t:TypeId) (c g:Nat) (v:AV) (eM:rows[i.toNat]?=some row) (h:evS P esc ops n (X.drop (i0+a8)) (dg d v N A) L H K)
  (e2: ∀K,kB P t row c K=K v:=by intro K;kernel_rfl)
  (e: ∀K,evS P esc ops n ((X.drop i0).take a8) A L H K=(g=g∧cZ rows[0+i.toNat]? fun row=>kB P t row c fun v=>K (dg d v N A) L H):=by intro K;kernel_rfl):evS P esc ops n (X.drop i0) A L H K:=by
 rw[kN X i0 a8,e]
 exact⟨rfl,ez (a:=row) (by rw[Nat.zero_add];exact eM) (by rw[e2];exact h)⟩
theorem anJ (a8:Nat) (d:Option Nat) (N:List (Nat×AV)) (rows:List (List AV)) {row row':List AV} (i:Int) (c k g:Nat) (cells:List AV) (H':List (List AV)→List Blk) (jQ:List (List AV)) (eM:rows[i.toNat]?=some row) (mo:rows.set i.toNat row'=jQ)
  (h:evS P esc ops n (X.drop (i0+a8)) (dg d (.tup []) N A) L (H' jQ) K) (hc:Nat.ble (c+k) row.length=true:=by kernel_rfl) (hs:fI row c cells=row':=by kernel_rfl)
  (e: ∀K,evS P esc ops n ((X.drop i0).take a8) A L H K=(g=g∧cZ rows[0+i.toNat]? fun row=>c+k≤row.length∧K (dg d (.tup []) N A) L (H' (rows.set (0+i.toNat) (fI row c cells)))):=by intro K;kernel_rfl):evS P esc ops n (X.drop i0) A L H K:=by
 rw[kN X i0 a8,e]
 refine⟨rfl,ez (a:=row) (by rw[Nat.zero_add];exact eM) ⟨Nat.le_of_ble_eq_true hc,?_⟩⟩
 ·rw[hs,Nat.zero_add,mo];exact h
theorem lf (a8:Nat) (d:Option Nat) (N:List (Nat×AV)) (rows:List (List AV)) {row row':List AV} (i:Int) (c k g:Nat) (cells:List AV) (j:Nat) (jQ:List (List AV)) (eM:rows[i.toNat]?=some row) (mo:rows.set i.toNat row'=jQ)
  (h:evS P esc ops n (X.drop (i0+a8)) (dg d (.tup []) N A) L (jb j jQ H) K) (hc:Nat.ble (c+k) row.length=true:=by kernel_rfl) (hs:fI row c cells=row':=by kernel_rfl)
  (e: ∀K,evS P esc ops n ((X.drop i0).take a8) A L H K=(g=g∧cZ rows[0+i.toNat]? fun row=>c+k≤row.length∧K (dg d (.tup []) N A) L (jb j (rows.set (0+i.toNat) (fI row c cells)) H)):=by intro K;kernel_rfl):evS P esc ops n (X.drop i0) A L H K:=anJ a8 d N rows i c k g cells (fun r=>jb j r H) jQ eM mo h hc hs e
theorem anE (a8:Nat) (d:Option Nat) (N:List (Nat×AV)) (bs:List (List Bool)) (id s:Nat) {i:Int} {m:Nat} (hid:id<bs.length) (aA:0≤i∧i.toNat<m) (h:evS P esc ops n (X.drop (i0+a8)) (dg d (.ptr (id+s) 0 (0+i.toNat) 0) N A) L H K)
  (e: ∀K,evS P esc ops n ((X.drop i0).take a8) A L H K=(cZ (List.map bj bs)[id]? fun blk=>blk.bk=0∧blk.sz=1∧0≤i∧i<m∧K (dg d (.ptr (id+s) 0 (0+i.toNat) 0) N A) L H):=by intro K;kernel_rfl):evS P esc ops n (X.drop i0) A L H K:=by
 rw[kN X i0 a8,e]
 exact ez (s7 hid) ⟨rfl,rfl,aA.1,by have:=aA.2;omega,h⟩
theorem anI (a8:Nat) (d:Option Nat) (N:List (Nat×AV)) (bs:List (List Bool)) (id:Nat) (i:Int) (x:Bool) (H':List Blk→List Blk) (hid:id<bs.length) (hi:i.toNat<(bs.getD id []).length)
  (h:evS P esc ops n (X.drop (i0+a8)) (dg d (.tup []) N A) L (H' (List.map bj (bs.set id ((bs.getD id []).set i.toNat x)))) K)
  (e: ∀K,evS P esc ops n ((X.drop i0).take a8) A L H K=(cZ (List.map bj bs)[id]? fun blk=>blk.bk=0∧cZ blk.rows[0+i.toNat]? fun row=>0+1≤row.length∧K (dg d (.tup []) N A) L (H' ((List.map bj bs).set id {blk with rows:=blk.rows.set (0+i.toNat) (fI row 0 [.bool x])}))):=by intro K;kernel_rfl):evS P esc ops n (X.drop i0) A L H K:=by
 rw[kN X i0 a8,e]
 have key:(List.map bj bs).set id {bj (bs.getD id []) with rows:=(bj (bs.getD id [])).rows.set (0+i.toNat) (fI (aR (nth (bs.getD id []) i)) 0 [.bool x])}=List.map bj (bs.set id ((bs.getD id []).set i.toNat x)):=by
  rw[←LR]
  congr 1
  show(⟨0,1,(List.map aR (bs.getD id [])).set (0+i.toNat) (aR x)⟩:Blk)=⟨0,1,_⟩
  rw[Nat.zero_add,KW]
 refine ez (s7 hid) ⟨rfl,ez (a:=aR (nth (bs.getD id []) i)) (by rw[Nat.zero_add];exact Dp hi) ⟨Nat.le_refl _,?_⟩⟩
 ·rw[key];exact h
theorem aam (a8:Nat) (N:List (Nat×AV)) (H':List Blk) {φ ψ:Prop} (h1:φ) (h2:ψ) (h:evS P esc ops n (X.drop (i0+a8)) (ho N A) L H' K) (e: ∀K,evS P esc ops n ((X.drop i0).take a8) A L H K=(φ∧ψ∧K (ho N A) L H'):=by intro K;kernel_rfl):evS P esc ops n (X.drop i0) A L H K:=by
 rw[kN X i0 a8,e];exact⟨h1,h2,h⟩
theorem aal (H':List Blk) (aB:H=H') (h:evS P esc ops n (X.drop i0) A L H' K):evS P esc ops n (X.drop i0) A L H K:=by
 subst aB;exact h
theorem xg (a8:Nat) (d:Option Nat) (N:List (Nat×AV)) {g:FuncId} (args:List AV) (Q:AV→List Blk→Prop) (hf:c8 P g args H Q) (ak: ∀r H',Q r H'→Bz r=true) (h: ∀r H',Q r H'→evS P esc ops n (X.drop (i0+a8)) (dg d r N A) L H' K)
  (ag:args.all e_=true:=by kernel_rfl) (au:args.all lF=true:=by kernel_rfl) (e: ∀K,evS P esc ops n ((X.drop i0).take a8) A L H K=(mU P g args L H (fun v L' H'=>K (dg d v N A) L' H')):=by intro K;kernel_rfl):evS P esc ops n (X.drop i0) A L H K:=by
 rw[kN X i0 a8,e]
 exact .inr (.inr (.inl ⟨ag,au,hf.mono fun r H' U=>⟨ak r H' U,h r H' U⟩⟩))
theorem anG (a8:Nat) (d:Option Nat) (N:List (Nat×AV)) {i:Int} (B:Int) (z:List AV) (m:Nat) (me:List Blk) (aA:0≤i∧B*i≤140737488355328∧i≤4611686018427387904) (au:H.length=m) (hx:H++[⟨0,1,List.map aR (List.replicate i.toNat false)⟩]=me)
  (h:evS P esc ops n (X.drop (i0+a8)) (dg d (.ref m 0 0 (List.replicate i.toNat false).length false) N A) L me K) (aH:z=aR false:=by rfl)
  (e: ∀K,evS P esc ops n ((X.drop i0).take a8) A L H K=(0≤i∧i≤i∧B*i≤140737488355328∧i≤4611686018427387904∧K (dg d (.ref H.length 0 0 i.toNat false) N A) L (H++[⟨0,1,List.replicate i.toNat z⟩])):=by intro K;kernel_rfl):evS P esc ops n (X.drop i0) A L H K:=by
 rw[kN X i0 a8,e]
 subst au;subst hx;subst aH
 rw[List.length_replicate,List.map_replicate] at h
 exact⟨aA.1,Int.le_refl _,aA.2.1,aA.2.2,h⟩
theorem anF (a8:Nat) (d:Option Nat) (N:List (Nat×AV)) (ys:List Bool) (B:Nat) (m:Nat) (me:List Blk) (aA:ys.length*B≤140737488355328∧ys.length≤4611686018427387904) (au:H.length=m) (hx:H++[⟨0,1,List.map aR ys⟩]=me)
  (h:evS P esc ops n (X.drop (i0+a8)) (dg d (.ref m 0 0 ys.length false) N A) L me K)
  (e: ∀K,evS P esc ops n ((X.drop i0).take a8) A L H K=(true=true∧true=true∧tR 1 (List.map aR ys)∧true=true∧(∀row∈([]:List (List AV)),row.length=1)∧(List.length (α:=List AV) []+(List.map aR ys).length)*B≤140737488355328∧List.length (α:=List AV) []+(List.map aR ys).length≤4611686018427387904∧(([]:List (List AV))≠[]→(List.map aR ys)≠[])∧
   K (dg d (.ref H.length 0 0 (List.length (α:=List AV) []+(List.map aR ys).length) false) N A) L (H++[⟨0,1,[]++(List.map aR ys)⟩])):=by intro K;kernel_rfl):evS P esc ops n (X.drop i0) A L H K:=by
 rw[kN X i0 a8,e]
 subst au;subst hx
 refine⟨rfl,rfl,Jl (enc:=aR) (fun _=>⟨rfl,rfl⟩) ys,rfl,(fun row h=>by cases h),by simpa using aA.1,by simpa using aA.2,(fun h=>absurd rfl h),?_⟩
 simpa using h
theorem aaj (a8:Nat) (d:Option Nat) (N:List (Nat×AV)) (s b g q B:Nat) (ws:List av) (ids:List Nat) (x:av) (id:Nat) (H':List (List AV)→List Blk) (au:ws.length=ids.length)
  (aA:(ws.length+1)*B≤140737488355328∧ws.length+1≤4611686018427387904) (h:evS P esc ops n (X.drop (i0+a8)) (dg d (.ref b (g+1) 0 (ws++[x]).length false) N A) L (H' (aW s (ws++[x]) (ids++[id]))) K)
  (e: ∀K,evS P esc ops n ((X.drop i0).take a8) A L H K=(true=true∧true=true∧(q=q∧0+1≤1∧(tR 5 [k6 s x id]∧0=0∧g=g∧5=5∧(aW s ws ids).length=ws.length∧(ws.length+1)*B≤140737488355328∧ws.length+1≤4611686018427387904∧
   K (dg d (.ref b (g+1) 0 (ws.length+1) false) N A) L (H' (aW s ws ids++[k6 s x id]))))):=by intro K;kernel_rfl):evS P esc ops n (X.drop i0) A L H K:=by
 rw[kN X i0 a8,e]
 refine⟨rfl,rfl,rfl,Nat.le_refl _,?_,rfl,rfl,rfl,wa au,aA.1,aA.2,?_⟩
 ·intro row ak
  rw[List.mem_singleton.1 ak]
  exact⟨rfl,fun a aw=>List.all_eq_true.1 (show(k6 s x id).all kb=true from rfl) a aw⟩
 ·rw[Mg au];rw[List.length_append] at h;exact h
end
section
variable {P:Program} {esc:List Nat} {ops:Array Oper} {n:Nat} {X:List Item} {i0:Nat} {A:List (Nat×AV)} {L:List (Nat×List AV)} {H:List Blk} {K:List (Nat×AV)→List (Nat×List AV)→List Blk→Prop}
theorem qa (a8:Nat) (d:Option Nat) (N:List (Nat×AV)) (rows:List (List AV)) {row:List AV} (i:Int) (t:TypeId) (c g:Nat) (v:AV) (eM:rows[i.toNat]?=some row) (h:evSD P esc ops n (X.drop (i0+a8)) (dg d v N A) L H K)
  (e2: ∀K,kB P t row c K=K v:=by intro K;kernel_rfl)
  (e: ∀K,evSD P esc ops n ((X.drop i0).take a8) A L H K=(g=g∧cZ rows[0+i.toNat]? fun row=>kB P t row c fun v=>K (dg d v N A) L H):=by intro K;kernel_rfl):evSD P esc ops n (X.drop i0) A L H K:=by
 rw[mW X i0 a8,e]
 exact⟨rfl,ez (a:=row) (by rw[Nat.zero_add];exact eM) (by rw[e2];exact h)⟩
theorem acp (a8:Nat) (d:Option Nat) (N:List (Nat×AV)) (rows:List (List AV)) {row row':List AV} (i:Int) (c k g:Nat) (cells:List AV) (F:List (List AV)→Prop) (H':List (List AV)→List Blk) (jQ:List (List AV)) (eM:rows[i.toNat]?=some row) (mo:rows.set i.toNat row'=jQ)
  (dn:F (jQ)) (h:evSD P esc ops n (X.drop (i0+a8)) (dg d (.tup []) N A) L (H' jQ) K) (hc:Nat.ble (c+k) row.length=true:=by kernel_rfl) (hs:fI row c cells=row':=by kernel_rfl)
  (e: ∀K,evSD P esc ops n ((X.drop i0).take a8) A L H K=(g=g∧cZ rows[0+i.toNat]? fun row=>c+k≤row.length∧F ((rows.set (0+i.toNat) (fI row c cells)))∧K (dg d (.tup []) N A) L (H' (rows.set (0+i.toNat) (fI row c cells)))):=by intro K;kernel_rfl):evSD P esc ops n (X.drop i0) A L H K:=by
 rw[mW X i0 a8,e]
 refine⟨rfl,ez (a:=row) (by rw[Nat.zero_add];exact eM) ⟨Nat.le_of_ble_eq_true hc,?_,?_⟩⟩
 ·rw[hs,Nat.zero_add,mo];exact dn
 ·rw[hs,Nat.zero_add,mo];exact h
theorem zE (a8:Nat) (d:Option Nat) (N:List (Nat×AV)) (bs:List (List Bool)) (id s:Nat) {i:Int} {m:Nat} (hid:id<bs.length) (aA:0≤i∧i.toNat<m) (h:evSD P esc ops n (X.drop (i0+a8)) (dg d (.ptr (id+s) 0 (0+i.toNat) 0) N A) L H K)
  (e: ∀K,evSD P esc ops n ((X.drop i0).take a8) A L H K=(cZ (List.map bj bs)[id]? fun blk=>blk.bk=0∧blk.sz=1∧0≤i∧i<m∧K (dg d (.ptr (id+s) 0 (0+i.toNat) 0) N A) L H):=by intro K;kernel_rfl):evSD P esc ops n (X.drop i0) A L H K:=by
 rw[mW X i0 a8,e]
 exact ez (s7 hid) ⟨rfl,rfl,aA.1,by have:=aA.2;omega,h⟩
theorem FF (a8:Nat) (d:Option Nat) (N:List (Nat×AV)) (bs:List (List Bool)) (id:Nat) (i:Int) (t:TypeId) (hid:id<bs.length) (hi:i.toNat<(bs.getD id []).length) (h:evSD P esc ops n (X.drop (i0+a8)) (dg d (.bool (nth (bs.getD id []) i)) N A) L H K)
  (e2: ∀x K,kB P t (aR x) 0 K=K (.bool x):=by intro x K;kernel_rfl)
  (e: ∀K,evSD P esc ops n ((X.drop i0).take a8) A L H K=(cZ (List.map bj bs)[id]? fun blk=>blk.bk=0∧cZ blk.rows[0+i.toNat]? fun row=>kB P t row 0 fun v=>K (dg d v N A) L H):=by intro K;kernel_rfl):evSD P esc ops n (X.drop i0) A L H K:=by
 rw[mW X i0 a8,e]
 refine ez (s7 hid) ⟨rfl,ez (a:=aR (nth (bs.getD id []) i)) (by rw[Nat.zero_add];exact Dp hi) (by rw[e2];exact h)⟩
theorem aco (a8:Nat) (d:Option Nat) (N:List (Nat×AV)) (bs:List (List Bool)) (id:Nat) (i:Int) (x:Bool) (F:List Blk→Prop) (H':List Blk→List Blk) (hid:id<bs.length) (hi:i.toNat<(bs.getD id []).length)
  (dn:F ((List.map bj (bs.set id ((bs.getD id []).set i.toNat x))))) (h:evSD P esc ops n (X.drop (i0+a8)) (dg d (.tup []) N A) L (H' (List.map bj (bs.set id ((bs.getD id []).set i.toNat x)))) K)
  (e: ∀K,evSD P esc ops n ((X.drop i0).take a8) A L H K=(cZ (List.map bj bs)[id]? fun blk=>blk.bk=0∧cZ blk.rows[0+i.toNat]? fun row=>0+1≤row.length∧F (((List.map bj bs).set id {blk with rows:=blk.rows.set (0+i.toNat) (fI row 0 [.bool x])}))∧K (dg d (.tup []) N A) L (H' ((List.map bj bs).set id {blk with rows:=blk.rows.set (0+i.toNat) (fI row 0 [.bool x])}))):=by intro K;kernel_rfl):evSD P esc ops n (X.drop i0) A L H K:=by
 rw[mW X i0 a8,e]
 have key:(List.map bj bs).set id {bj (bs.getD id []) with rows:=(bj (bs.getD id [])).rows.set (0+i.toNat) (fI (aR (nth (bs.getD id []) i)) 0 [.bool x])}=List.map bj (bs.set id ((bs.getD id []).set i.toNat x)):=by
  rw[←LR]
  congr 1
  show(⟨0,1,(List.map aR (bs.getD id [])).set (0+i.toNat) (aR x)⟩:Blk)=⟨0,1,_⟩
  rw[Nat.zero_add,KW]
 refine ez (s7 hid) ⟨rfl,ez (a:=aR (nth (bs.getD id []) i)) (by rw[Nat.zero_add];exact Dp hi) ⟨Nat.le_refl _,?_,?_⟩⟩
 ·rw[key];exact dn
 ·rw[key];exact h
theorem acm (a8:Nat) (d:Option Nat) (N:List (Nat×AV)) (s b g q B:Nat) (ws:List av) (ids:List Nat) (x:av) (id:Nat) (F:List (List AV)→Prop) (H':List (List AV)→List Blk) (au:ws.length=ids.length)
  (aA:(ws.length+1)*B≤140737488355328∧ws.length+1≤4611686018427387904) (dn:F ((aW s (ws++[x]) (ids++[id])))) (h:evSD P esc ops n (X.drop (i0+a8)) (dg d (.ref b (g+1) 0 (ws++[x]).length false) N A) L (H' (aW s (ws++[x]) (ids++[id]))) K)
  (e: ∀K,evSD P esc ops n ((X.drop i0).take a8) A L H K=(true=true∧true=true∧(q=q∧0+1≤1∧(tR 5 [k6 s x id]∧0=0∧g=g∧5=5∧(aW s ws ids).length=ws.length∧(ws.length+1)*B≤140737488355328∧ws.length+1≤4611686018427387904∧
   F ((aW s ws ids++[k6 s x id]))∧K (dg d (.ref b (g+1) 0 (ws.length+1) false) N A) L (H' (aW s ws ids++[k6 s x id]))))):=by intro K;kernel_rfl):evSD P esc ops n (X.drop i0) A L H K:=by
 rw[mW X i0 a8,e]
 refine⟨rfl,rfl,rfl,Nat.le_refl _,?_,rfl,rfl,rfl,wa au,aA.1,aA.2,?_,?_⟩
 ·intro row ak
  rw[List.mem_singleton.1 ak]
  exact⟨rfl,fun a aw=>List.all_eq_true.1 (show(k6 s x id).all kb=true from rfl) a aw⟩
 ·rw[Mg au];exact dn
 ·rw[Mg au];rw[List.length_append] at h;exact h
end
end Go.Proofs.YtejmihecgodhnaaGreat.Fw
