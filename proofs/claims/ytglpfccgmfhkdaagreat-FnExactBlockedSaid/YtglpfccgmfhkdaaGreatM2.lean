/- The framework, part OP: a call that is handed one struct in the memory (or a variable of the caller's) to write into, beside values that stay. -/
import Derived.Test.YtglpfccgmfhkdaaGreatM1
set_option linter.unusedVariables false
namespace Go.Proofs.YtglpfccgmfhkdaaGreat.Fw
open Go
def te:AV→Bool
 | .aV _ full fr=> !full&& !fr
 | a=>iB a
theorem X1 {a:AV} (h:te a=true):iB a=true∧hX a=a:=by
 cases a with
 | aV rows full fr=>
  refine⟨rfl,?_⟩
  cases full<;>cases fr<;>first | rfl | cases h
 | _=>first | exact⟨h,rfl⟩
def sq (P:Program) (f:FuncId) (g:Nat) (args:List AV) (aw bX:List AV) (t:AV):Prop:=
 dw P f args [⟨g,aw.length,[aw]⟩] fun r eL=> ∃B,eL=⟨g,aw.length,[bX]⟩::B∧jQ (⟨g+1,aw.length,[bX]⟩::B) r t
def sn (p q a a0:AV):Prop:=(a=p∧a0=q)∨ey [] [] a a0
theorem Pv {E:Env} (ai: ∀c,E.PF c→E.PA c) {a b:AV} (h:fF [] [] a b): ∀{v:Value},b1 E a v→aW E.w E.PA (fun _=>False) b v:=by
 induction h with
 | undef a=>intro v _;exact .undef v
 | int k n=>intro v hv;have hv:aW E.w E.PA E.PF (.int k n) v:=hv;cases hv;exact .int _ _
 | bool k=>intro v hv;have hv:aW E.w E.PA E.PF (.bool k) v:=hv;cases hv;exact .bool _
 | str k=>intro v hv;have hv:aW E.w E.PA E.PF (.str k) v:=hv;cases hv;exact .str _
 | fI=>intro v hv;have hv:aW E.w E.PA E.PF .fI v:=hv;cases hv;exact .fI
 | fY=>intro v hv;have hv:aW E.w E.PA E.PF .fY v:=hv;cases hv;exact .fY
 | aV rows full fr de hw=>
  intro v hv
  have hv:aW E.w E.PA E.PF (.aV rows full fr) v:=hv
  cases hv with
  | aV eU e1 fG cd dQ hrel=>
   exact .aV (fun c hc=>by
    have:=eU c hc
    simp only[Bool.false_eq_true,if_false]
    split at this
    ·exact ai c this
    ·exact this) e1 (fun h=>fG (hw h)) cd dQ hrel
 | da cells c=>
  intro v hv
  have hv:aW E.w E.PA E.PF (.da cells c) v:=hv
  cases hv with
  | da hc dQ hrel=>exact .da hc dQ hrel
 | e7 aQ=>cases aQ
 | ptr hb=>cases hb
 | ref _ hb=>cases hb
 | @fn f caps w2 aE av bE=>
  intro v hv
  obtain⟨vs,rfl,af⟩:=(show ∃vs:List Value,v= .func (.func f) #[] vs.toArray∧aO (ez E) caps vs from hv)
  exact .fn (aE▸af.1) fun i b u hb hu=>by
   have aX:i<caps.length:=by have:=(List.getElem?_eq_some_iff.1 hb).1;omega
   exact bE i _ b (List.getElem?_eq_getElem aX) hb (Cz (af.2 i _ u (List.getElem?_eq_getElem aX) hu))
theorem acQ {E E1:Env} (ai: ∀c,E.PF c→E.PA c) (hw:E1.w=E.w) (uZ:E1.PA=E.PA) {a b:AV} (h:ey [] [] a b) {v:Value} (hv:V2 E a v):V2 E1 b v:=by
 have up: ∀{b:AV} {v:Value},aW E.w E.PA (fun _=>False) b v→b1 E1 b v:=fun h=>aW.v1 (E:=E1) (h.mono (fun _ _=>by rw[hw]) (fun _ h=>h.elim) (fun c hc=>by rw[uZ];exact hc) (fun _ h=>h.elim))
 rcases h with⟨l,eK,rfl,rfl,af⟩ | h
 ·obtain⟨vs,rfl,av⟩:=hv
  refine⟨vs,rfl,af.1▸av.1,fun i x u hx hu=> ?_⟩
  have aX:i<l.length:=by have:=(List.getElem?_eq_some_iff.1 hx).1;have:=af.1;omega
  have aE:=List.getElem?_eq_getElem aX
  exact up (Pv ai (af.2 i _ x aE hx) (av.2 i _ u aE hu))
 ·by_cases hf: ∃l,a= .agg l
  ·obtain⟨l,rfl⟩:=hf
   cases h with
   | undef=>exact aW.undef v
  ·rw[ny fun l e=>hf ⟨l,e⟩] at hv
   exact jp (up (Pv ai h hv))
def Env.one (E:Env) (bl g sz cp:Nat):Env:=
 {w:=E.w,PA:=E.PA,PF:=fun _=>False,m:=fun j=>if j=0 then some (some bl) else none,bi:=fun j=>if j=0 then g else 0
  sz:=fun j=>if j=0 then sz else 0,cp:=fun j=>if j=0 then cp else 0,mL:=fun _=>none}
theorem ts {E:Env} {bl g sz cp j c:Nat} (h:(E.one bl g sz cp).m j=some (some c)):j=0∧c=bl:=by
 have h:(if j=0 then some (some bl) else none)=some (some c):=h
 split at h
 ·rename_i e;cases h;exact⟨e,rfl⟩
 ·cases h
theorem aaC {E:Env} {H:List Blk} (aB:SimH E H) {bl g cp:Nat} {aw:List AV} {cells:Array Value} {ty:TypeId} (gz:bl<E.w.heap.size) (uZ: ¬E.PA bl) (hw:E.w.heap[bl]?=some (.cells cells ty (0,0))) (cd:cells.size=cp*aw.length) (h1:1≤cp)
  (hk:aw.all te=true) (av: ∀(j:Nat) (a:AV),aw[j]?=some a→ ∃u,cells[j]?=some u∧b1 E a u):SimH (E.one bl g aw.length cp) [⟨g,aw.length,[aw]⟩] where
 heap:=fun b c hb=>by
  obtain⟨rfl,rfl⟩:=ts hb
  have eO: ∀{i:Nat} {row:List AV},([aw]:List (List AV))[i]?=some row→i=0∧row=aw:=fun{i row} h=>by
   cases i with
   | zero=>cases h;exact⟨rfl,rfl⟩
   | succ i=>cases h
  refine⟨⟨g,aw.length,[aw]⟩,cells,ty,rfl,rfl,hw,cd,h1,fun i row h=> ?_,fun i j row a h ap=> ?_⟩
  ·rw[(eO h).2];rfl
  ·obtain⟨rfl,rfl⟩:=eO h
   obtain⟨u,hu,hv⟩:=av j a ap
   refine⟨u,by rw[Nat.zero_mul,Nat.zero_add];exact hu,?_⟩
   have Ey:=X1 (List.all_eq_true.1 hk a (List.mem_of_getElem? ap))
   have:=H0 Ey.1 (zy Ey.1 hv) (fun c hc=>hc) aB.dr
   rw[Ey.2] at this
   exact aW.v1 (E:=(E.one c g row.length cp).b0) this
 eI:=fun b blk hb=>by
  cases b with
  | zero=>cases hb;rfl
  | succ b=>cases hb
 gQ:=fun b hb=>by
  have hb:(if b=0 then some (some bl) else none)=some none:=hb
  split at hb<;>cases hb
 fresh:=fun b hb=>by
  have hb:1≤b:=hb
  exact⟨if_neg (by omega),if_neg (by omega)⟩
 gF:=fun b bT c h1 h2=>by rw[(ts h1).1,(ts h2).1]
 iL:=fun t hz c h=>by cases h
 gn:=fun b t c _ h=>by cases h
 hq:=fun c hc ⟨b,hb⟩=>by rw[(ts hb).2] at hc;exact uZ hc
 hN:=fun c _ ⟨t,bn⟩=>by cases bn
 dr:=fun c hc=>hc.elim
 fh:=fun c hc=>hc.elim
 dy:=aB.dy
 fl:=fun c ⟨b,hb⟩=>by rw[(ts hb).2];exact gz
 gf:=fun c ⟨t,bn⟩=>by cases bn
structure sm (E:Env) (bl k n:Nat) (bX:List AV) (t:AV) (v:Value) (E':Env):Prop where
 m:E'.m=E.m
 mL:E'.mL=E.mL
 bi:E'.bi=E.bi
 sz:E'.sz=E.sz
 cp:E'.cp=E.cp
 fo: ∀c,E.PA c→E'.PA c
 e9: ∀c,E.PF c→E'.PF c
 dr: ∀c,E'.PF c→E'.PA c
 fh: ∀c,E'.PF c→Plain E'.w c
 Bl: ∀c,E'.PA c→E.PA c∨(E.w.heap.size≤c∧c<E'.w.heap.size)
 aaW: ∀c,E'.PF c→E.PF c∨E.w.heap.size≤c
 os:E'.w.os=E.w.os
 tape:E'.w.tape=E.w.tape
 output:E'.w.output=E.w.output
 size:E.w.heap.size≤E'.w.heap.size
 cT: ∀c,c<E.w.heap.size→c≠bl→E'.w.heap[c]?=E.w.heap[c]?
 new: ∃cells ty,E'.w.heap[bl]?=some (.cells cells ty (0,0))∧cells.size=k∧bX.length=n∧ ∀(j:Nat) (a:AV),bX[j]?=some a→ ∃u,cells[j]?=some u∧aW E'.w E'.PA E'.PF a u
 v3:V3 E' t v
theorem Hb {E1 E':Env} {H:List Blk} (hs:SimH E1 H) (hw:E'.w=E1.w) (hu: ∀c,E1.PF c∨E1.fk c→E'.PA c∧E'.PF c) {a b:AV} {u:Value} (h:jQ H a b) (hv:V3 E1 a u):V3 E' b u:=by
 have cZ: ∀{a b:AV} {u:Value},ft H a b→b1 E1 a u→b1 E' b u:=fun aF ms=>aW.v1 (E:=E') ((Pw hs aF ms).mono (fun _ _=>by rw[hw]) (fun _ _=>by rw[hw]) (fun c hc=>(hu c hc).1) (fun c hc=>(hu c hc).2))
 have dg: ∀{a b:AV} {u:Value},rj H a b→V2 E1 a u→V2 E' b u:=by
  rintro a b u (⟨l,eK,rfl,rfl,ai⟩ | h) hu
  ·obtain⟨ew,rfl,af⟩:=hu
   refine⟨ew,rfl,ai.1▸af.1,fun i x y hx ba=> ?_⟩
   have aX:i<l.length:=by have:=(List.getElem?_eq_some_iff.1 hx).1;have:=ai.1;omega
   have aE:=List.getElem?_eq_getElem aX
   exact cZ (ai.2 i _ x aE hx) (af.2 i _ y aE ba)
  ·have:b1 E1 a u:=by cases h<;>exact hu
   exact jp (cZ h this)
 rcases h with⟨l,eK,rfl,rfl,ai⟩ | h
 ·obtain⟨ew,rfl,af⟩:=hv
  refine⟨ew,rfl,ai.1▸af.1,fun i x y hx ba=> ?_⟩
  have aX:i<l.length:=by have:=(List.getElem?_eq_some_iff.1 hx).1;have:=ai.1;omega
  have aE:=List.getElem?_eq_getElem aX
  exact dg (ai.2 i _ x aE hx) (af.2 i _ y aE ba)
 ·have:V2 E1 a u:=by
   rcases h with⟨l,eK,rfl,rfl,ai⟩ | h
   ·exact hv
   ·cases h<;>exact hv
  exact o6 (dg h this)
theorem IY {P:Program} {f:FuncId} {vs:List Value} {E:Env} {H:List Blk} {args dH aw bX:List AV} {p t:AV} {bl g cp:Nat} {cells:Array Value} {ty:TypeId} (aB:SimH E H) (gz:bl<E.w.heap.size) (uZ: ¬E.PA bl)
  (hw:E.w.heap[bl]?=some (.cells cells ty (0,0))) (cd:cells.size=cp*aw.length) (h1:1≤cp) (hk:aw.all te=true) (av: ∀(j:Nat) (a:AV),aw[j]?=some a→ ∃u,cells[j]?=some u∧b1 E a u)
  (aF:aO (V2 E) args vs) (ai: ∀v,V2 E p v→v= .pointer (some ⟨bl,0,none⟩)) (hs:aO (sn p (.ptr 0 g 0 0)) args dH) (jb:bX.all iB=true) (h:sq P f g dH aw bX t):
  Calls P f vs.toArray E.w fun e w'=> ∃v E',e= .returned v∧E'.w=w'∧sm E bl (cp*aw.length) aw.length bX t v E':=by
 have sN:aO (V2 (E.one bl g aw.length cp)) dH vs:=⟨hs.1▸aF.1,fun i x u hx hu=>by
  have aX:i<args.length:=by have:=(List.getElem?_eq_some_iff.1 hx).1;have:=hs.1;omega
  have aE:=List.getElem?_eq_getElem aX
  rcases hs.2 i _ x aE hx with⟨aR,rfl⟩ | h
  ·have hv:=aF.2 i _ u aE hu
   rw[aR] at hv
   rw[ai u hv]
   exact .inr ⟨rfl,bl,rfl,by rw[Nat.zero_mul]⟩
  ·exact acQ (E1:=E.one bl g aw.length cp) aB.dr rfl rfl h (aF.2 i _ u aE hu)⟩
 refine(h.2 (E.one bl g aw.length cp) vs (fun _=>rfl) (aaC aB gz uZ hw cd h1 hk av) sN).mono ?_
 rintro e w' ⟨r,v,eL,E1,rfl,⟨B,rfl,EI⟩,rfl,ao,eB,hv,a8⟩
 have aQ:E1.bi 0=g:=eB.eI 0 _ rfl
 obtain⟨hm,aH,hc⟩:=a8.le.m 0 (some bl) rfl aQ
 have aH:E1.sz 0=aw.length:=aH
 have hc:E1.cp 0=cp:=hc
 obtain⟨blk,uJ,ty2,q1,b5,q2,q3,q4,cW,cO⟩:=eB.heap 0 bl hm
 cases q1
 have vc: ∀c,E1.PF c∨(∃j,j≠0∧E1.m j=some (some c))→E.w.heap.size≤c∧c<E1.w.heap.size:=by
  rintro c (hc | ⟨j,ap,As⟩)
  ·exact⟨(a8.e9 c hc).elim (fun h=>h.elim) id,eB.dy c (eB.dr c hc)⟩
  ·refine⟨(a8.nL c ⟨j,As⟩).elim (fun⟨b,hb⟩=> ?_) id,eB.fl c ⟨j,As⟩⟩
   rw[(ts hb).2] at As
   exact absurd (eB.gF j 0 bl As hm) ap
 have lU: ∀c,c<E.w.heap.size→c≠bl→E1.w.heap[c]?=E.w.heap[c]?:=fun c hc bY=>a8.cT c hc (fun⟨b,hb⟩=>bY (ts hb).2) (fun⟨t,bn⟩=>by cases bn)
 have V4: ∀c,E1.PA c→E.PA c∨(E.w.heap.size≤c∧c<E1.w.heap.size):=fun c hc=>(a8.fo c hc).elim .inl fun h=> .inr ⟨h,eB.dy c hc⟩
 let E':Env:={E with w:=E1.w,PA:=fun c=>E.PA c∨E1.PA c∨(E1.PF c∨ ∃j,j≠0∧E1.m j=some (some c)),PF:=fun c=>E.PF c∨(E1.PF c∨ ∃j,j≠0∧E1.m j=some (some c))}
 let y3:Env:={E1 with m:=fun j=>if j=0 then none else E1.m j,bi:=fun j=>if j=0 then g+1 else E1.bi j}
 have aZ: ∀{j:Nat} {x:Option Nat},y3.m j=some x→j≠0∧E1.m j=some x:=fun{j x} h=>by
  have h:(if j=0 then none else E1.m j)=some x:=h
  split at h
  ·cases h
  ·rename_i e;exact⟨e,h⟩
 have xw: ∀{j:Nat},j≠0→y3.bi j=E1.bi j:=fun{j} h=>if_neg h
 have hle:E1.gj y3:=⟨fun _ h=>h,fun _ h=>h,fun _ _=>rfl,fun _ _=>rfl,fun b=>by
   by_cases e:b=0
   ·subst e;show E1.bi 0≤(if 0=0 then g+1 else E1.bi 0);rw[if_pos rfl,aQ];omega
   ·rw[xw e];exact Nat.le_refl _,fun b x hx pn=>by
   by_cases e:b=0
   ·subst e
    have pn:(if 0=0 then g+1 else E1.bi 0)=E1.bi 0:=pn
    rw[if_pos rfl,aQ] at pn;omega
   ·exact⟨by show(if b=0 then none else E1.m b)=_;rw[if_neg e];exact hx,rfl,rfl⟩,fun _ _ h=>h⟩
 have oq: ∀{j:Nat} (x y:Blk),j≠0→(x::B)[j]?=(y::B)[j]?:=fun{j} x y ap=>by
  cases j with
  | zero=>exact absurd rfl ap
  | succ j=>rfl
 have We:SimH y3 (⟨g+1,aw.length,[bX]⟩::B):=
  {heap:=fun b c hb=>by
    obtain⟨Ef,hb⟩:=aZ hb
    obtain⟨blk,uH,ty,cZ,eC,dg,fK,nn,abu,abv⟩:=eB.heap b c hb
    refine⟨blk,uH,ty,by rw[oq _ ⟨g,aw.length,[bX]⟩ Ef];exact cZ,eC,dg,fK,nn,abu,fun i j row a h1 h2=> ?_⟩
    obtain⟨u,hu,gA⟩:=abv i j row a h1 h2
    exact⟨u,hu,gA.le hle.b0⟩
   eI:=fun b blk hb=>by
    by_cases e:b=0
    ·subst e;cases hb;rfl
    ·rw[xw e];rw[oq _ ⟨g,aw.length,[bX]⟩ e] at hb;exact eB.eI b blk hb
   gQ:=fun b hb=>by
    obtain⟨Ef,hb⟩:=aZ hb
    obtain⟨blk,cZ,dg⟩:=eB.gQ b hb
    exact⟨blk,by rw[oq _ ⟨g,aw.length,[bX]⟩ Ef];exact cZ,dg⟩
   fresh:=fun b hb=>by
    have hb:B.length+1≤b:=hb
    have:=eB.fresh b hb
    exact⟨by show(if b=0 then none else E1.m b)=none;rw[if_neg (by omega)];exact this.1,by rw[xw (by omega)];exact this.2⟩
   gF:=fun b bT c h1 h2=>eB.gF b bT c (aZ h1).2 (aZ h2).2
   iL:=eB.iL
   gn:=fun b t c h1 h2=>eB.gn b t c (aZ h1).2 h2
   hq:=fun c hc ⟨b,hb⟩=>eB.hq c hc ⟨b,(aZ hb).2⟩
   hN:=eB.hN
   dr:=eB.dr
   fh:=eB.fh
   dy:=eB.dy
   fl:=fun c ⟨b,hb⟩=>eB.fl c ⟨b,(aZ hb).2⟩
   gf:=eB.gf}
 refine⟨v,E',rfl,rfl,rfl,rfl,rfl,rfl,rfl,fun c hc=> .inl hc,fun c hc=> .inl hc,fun c hc=>hc.elim (fun h=> .inl (aB.dr c h)) (fun h=> .inr (.inr h)),fun c hc=>hc.elim (fun h=>(aB.fh c h).same (lU c (aB.dy c (aB.dr c h)) (fun e=>by subst e;exact uZ (aB.dr _ h)))) (fun h=>h.elim (eB.fh c) fun⟨j,_,ap⟩=>by obtain⟨_,aw,ty,_,_,q,_⟩:=eB.heap j c ap;exact⟨aw,ty,q⟩),fun c hc=> ?_,fun c hc=>hc.elim .inl (fun h=> .inr (vc c h).1),
  a8.os,a8.tape,a8.output,a8.size,lU,⟨uJ,ty2,q2,by rw[q3,aH,hc],?_,fun j a ap=> ?_⟩,?_⟩
 ·rcases hc with h | h | h
  ·exact .inl h
  ·exact V4 c h
  ·exact .inr (vc c h)
 ·have:=cW 0 bX rfl
  rw[aH] at this;exact this
 ·obtain⟨u,hu,gA⟩:=cO 0 j bX a rfl ap
  refine⟨u,by rw[Nat.zero_mul,Nat.zero_add] at hu;exact hu,?_⟩
  have hb:=List.all_eq_true.1 jb a (List.mem_of_getElem? ap)
  exact(zy hb gA).mono (fun _ _=>rfl) (fun _ _=>rfl) (fun c hc=> .inr (.inl hc)) (fun c hc=> .inr (.inl hc))
 ·refine Hb (E':=E') We rfl (fun c hc=> ?_) EI (hv.le hle)
  have:E1.PF c∨ ∃j,j≠0∧E1.m j=some (some c):=hc.elim .inl fun⟨j,ap⟩=> .inr ⟨j,aZ ap⟩
  exact⟨.inr (.inr this),.inr this⟩
section
variable {E E':Env} {H:List Blk} {L:List (Nat×List AV)} {bl k n:Nat} {bX:List AV} {t:AV} {v:Value}
theorem sm.step (A:sm E bl k n bX t v E') (aB:SimH E H) (gz:E.fk bl∨E.j1 bl):Step E E':=
 {le:=⟨A.fo,A.e9,fun c hc=>A.cT c (aB.dy c hc) (fun e=>by subst e;exact gz.elim (aB.hq c hc) (aB.hN c hc)),fun c hc=>A.cT c (aB.dy c (aB.dr c hc)) (fun e=>by subst e;exact gz.elim (aB.hq c (aB.dr c hc)) (aB.hN c (aB.dr c hc))),
   fun b=>by rw[A.bi];exact Nat.le_refl _,fun b x hx _=>by rw[A.m,A.sz,A.cp];exact⟨hx,rfl,rfl⟩,fun t c h=>by rw[A.mL];exact h⟩
  os:=A.os,tape:=A.tape,output:=A.output,size:=A.size
  cT:=fun c hc h1 h2=>A.cT c hc (fun e=>by subst e;exact gz.elim h1 h2)
  iu:=fun b c hb=> .inl (by rw[←A.m];exact hb)
  iK:=fun c ⟨t,bn⟩=> .inl ⟨t,by rw[←A.mL];exact bn⟩
  fo:=fun c hc=>(A.Bl c hc).elim .inl fun h=> .inr h.1
  e9:=A.aaW}
theorem sm.simH (A:sm E bl k n bX t v E') (aB:SimH E H) (gz:E.fk bl∨E.j1 bl) {H':List Blk} (hlen:H'.length=H.length) (aQ: ∀(b:Nat) (x:Blk),H'[b]?=some x→ ∃y,H[b]?=some y∧x.bi=y.bi) (hs: ∀(b:Nat) (y:Blk),H[b]?=some y→ ∃x,H'[b]?=some x∧x.sz=y.sz)
  (hb: ∀b c,E.m b=some (some c)→(c≠bl∧H'[b]?=H[b]?)∨ ∃blk aw ty,H'[b]?=some blk∧E.sz b=blk.sz∧E'.w.heap[c]?=some (.cells aw ty (0,0))∧aw.size=E.cp b*E.sz b∧blk.rows.length≤E.cp b∧uq E' (E.sz b) blk.rows aw):SimH E' H':=by
 have a8:=A.step aB gz
 have oE: ∀c,E'.fk c→E.fk c:=fun c ⟨b,hb⟩=>⟨b,by rw[←A.m];exact hb⟩
 have E_: ∀c,E'.j1 c→E.j1 c:=fun c ⟨b,hb⟩=>⟨b,by rw[←A.mL];exact hb⟩
 have jw:=aB.fl
 have jx:=aB.gf
 exact{
  heap:=fun b c h=>by
   rw[A.m] at h
   rw[A.sz,A.cp]
   rcases hb b c h with⟨bY,he⟩ | h
   ·obtain⟨blk,aw,ty,q1,b5,q2,q3,q4,cW,cO⟩:=aB.heap b c h
    refine⟨blk,aw,ty,by rw[he];exact q1,b5,by rw[A.cT c (jw c ⟨b,h⟩) bY];exact q2,q3,q4,cW,fun i j row a h1 h2=> ?_⟩
    obtain⟨u,hu,gA⟩:=cO i j row a h1 h2
    exact⟨u,hu,gA.le a8.le.b0⟩
   ·exact h
  eI:=fun b blk h=>by
   rw[A.bi]
   obtain⟨y,h1,h2⟩:=aQ b blk h
   rw[h2];exact aB.eI b y h1
  gQ:=fun b h=>by
   rw[A.m] at h
   obtain⟨y,h1,h2⟩:=aB.gQ b h
   obtain⟨x,aM,bx⟩:=hs b y h1
   exact⟨x,aM,by rw[A.sz,bx];exact h2⟩
  fresh:=fun b h=>by rw[A.m,A.bi];exact aB.fresh b (by rw[←hlen];exact h)
  gF:=fun b bT c h1 h2=>by rw[A.m] at h1 h2;exact aB.gF b bT c h1 h2
  iL:=fun t hz c h1 h2=>by rw[A.mL] at h1 h2;exact aB.iL t hz c h1 h2
  gn:=fun b t c h1 h2=>by rw[A.m] at h1;rw[A.mL] at h2;exact aB.gn b t c h1 h2
  hq:=fun c hc hi=>(A.Bl c hc).elim (fun h=>aB.hq c h (oE c hi)) (fun h=>absurd (jw c (oE c hi)) (by omega))
  hN:=fun c hc hi=>(A.Bl c hc).elim (fun h=>aB.hN c h (E_ c hi)) (fun h=>absurd (jx c (E_ c hi)) (by omega))
  dr:=A.dr
  fh:=A.fh
  dy:=fun c hc=>(A.Bl c hc).elim (fun h=>Nat.lt_of_lt_of_le (aB.dy c h) A.size) (fun h=>h.2)
  fl:=fun c hc=>Nat.lt_of_lt_of_le (jw c (oE c hc)) A.size
  gf:=fun c hc=>Nat.lt_of_lt_of_le (jx c (E_ c hc)) A.size}
theorem sm.row (A:sm E bl k n bX t v E') (hk:bX.all iB=true) {cells:Array Value} {ty:TypeId} (hw:E'.w.heap[bl]?=some (.cells cells ty (0,0))):bX.length=n∧cells.size=k∧ ∀(j:Nat) (a:AV),bX[j]?=some a→ ∃u,cells[j]?=some u∧b1 E'.b0 a u:=by
 obtain⟨bm,ty2,q1,q2,q3,q4⟩:=A.new
 rw[hw] at q1
 cases q1
 refine⟨q3,q2,fun j a ap=> ?_⟩
 obtain⟨u,hu,av⟩:=q4 j a ap
 exact⟨u,hu,aW.v1 (E:=E'.b0) av⟩
end
theorem Sx {P:Program} {f:FuncId} {vs:List Value} {E:Env} {H:List Blk} {L:List (Nat×List AV)} {args dH aw bX:List AV} {t:AV} {b g:Nat} (aB:SimH E H) (bN:SimL E L) (hb:H[b]?=some ⟨g,aw.length,[aw]⟩) (hk:aw.all te=true) (jb:bX.all iB=true)
  (aF:aO (V2 E) args vs) (hm:AV.ptr b g 0 0∈args) (hs:aO (sn (.ptr b g 0 0) (.ptr 0 g 0 0)) args dH) (h:sq P f g dH aw bX t):
  Calls P f vs.toArray E.w fun e w'=> ∃v E',e= .returned v∧E'.w=w'∧Step E E'∧SimH E' (H.set b ⟨g,aw.length,[bX]⟩)∧SimL E' L∧V3 E' t v∧E'.mL=E.mL:=by
 have ju:=aB.eI b _ hb
 have lm: ∀v,V2 E (.ptr b g 0 0) v→ ∃bl,E.m b=some (some bl)∧v= .pointer (some ⟨bl,0,none⟩):=fun v hv=>by
  obtain⟨bl,hm,rfl⟩:=V3.Bq (E:=E) (v:=v) (show V3 E (.ptr b g 0 0) v from hv) ju
  exact⟨bl,hm,by rw[Nat.zero_mul]⟩
 obtain⟨i,hi,he⟩:=List.mem_iff_getElem.1 hm
 have gE:i<vs.length:=aF.1▸hi
 have hU:=aF.2 i _ _ (List.getElem?_eq_getElem hi) (List.getElem?_eq_getElem gE)
 rw[he] at hU
 obtain⟨bl,jW,_⟩:=lm _ hU
 obtain⟨blk,cells,ty,q1,b5,q2,q3,q4,cW⟩:=aB.heap b bl jW
 rw[hb] at q1
 cases q1
 have b5:E.sz b=aw.length:=b5
 have gz:bl<E.w.heap.size:=aB.fl bl ⟨b,jW⟩
 refine(IY (bl:=bl) (cp:=E.cp b) aB gz (fun h=>aB.hq bl h ⟨b,jW⟩) q2 (by rw[q3,b5]) q4 hk (fun j a ap=> ?_) aF (fun v hv=> ?_) hs jb h).mono ?_
 ·obtain⟨u,hu,gA⟩:=cW.2 0 j aw a rfl ap
  exact⟨u,by rw[Nat.zero_mul,Nat.zero_add] at hu;exact hu,gA.up⟩
 ·obtain⟨R8,h1,rfl⟩:=lm v hv
  rw[jW] at h1;cases h1;rfl
 rintro e w' ⟨v,E',rfl,rfl,A⟩
 have qt:E.fk bl∨E.j1 bl:= .inl ⟨b,jW⟩
 have a8:=A.step aB qt
 refine⟨v,E',rfl,rfl,a8,A.simH aB qt (by rw[List.length_set]) (fun j x hx=> ?_) (fun j y ba=> ?_) (fun j c ap=> ?_),fun u c hu=> ?_,A.v3,A.mL⟩
 ·rw[List.getElem?_set] at hx
  split at hx
  ·rename_i e;subst e
   split at hx
   ·cases hx;exact⟨_,hb,rfl⟩
   ·cases hx
  ·exact⟨x,hx,rfl⟩
 ·rw[List.getElem?_set]
  split
  ·rename_i e;subst e
   rw[hb] at ba;cases ba
   rw[if_pos (List.getElem?_eq_some_iff.1 hb).1];exact⟨_,rfl,rfl⟩
  ·exact⟨y,ba,rfl⟩
 ·by_cases e:j=b
  ·subst e
   rw[jW] at ap
   cases ap
   obtain⟨bm,ty2,cZ,dg,fK,nn⟩:=A.new
   obtain⟨s1,s2,k6⟩:=A.row jb cZ
   refine .inr ⟨⟨g,aw.length,[bX]⟩,bm,ty2,by rw[List.getElem?_set,if_pos rfl,if_pos (List.getElem?_eq_some_iff.1 hb).1],b5,cZ,by rw[dg,b5],q4,fun i row av=> ?_,fun i j row a av ap=> ?_⟩
   ·cases i with
    | zero=>cases av;rw[b5];exact s1
    | succ i=>cases av
   ·cases i with
    | zero=>
     cases av
     obtain⟨u,hu,gA⟩:=k6 j a ap
     exact⟨u,by rw[Nat.zero_mul,Nat.zero_add];exact hu,gA⟩
    | succ i=>cases av
  ·refine .inl ⟨fun h=>e ?_,by rw[List.getElem?_set,if_neg (fun h=>e h.symm)]⟩
   subst h;exact aB.gF j b c ap jW
 ·rw[A.mL] at hu
  obtain⟨uH,bm,ty2,cZ,dg,fK⟩:=bN u c hu
  exact⟨uH,bm,ty2,cZ,by rw[A.cT c (aB.gf c ⟨u,hu⟩) (fun e=>by subst e;exact aB.gn b u c jW hu)];exact dg,fK.mono fun _ _ k=>k.le a8.le.b0⟩
theorem Sy {P:Program} {f:FuncId} {vs:List Value} {E:Env} {H:List Blk} {L:List (Nat×List AV)} {args dH aw bX:List AV} {t:AV} {x:Nat} (aB:SimH E H) (bN:SimL E L) (hx:dZ L x=some aw) (hk:aw.all te=true) (jb:bX.all iB=true)
  (aF:aO (V2 E) args vs) (hm:AV.e7 x 0∈args) (hs:aO (sn (.e7 x 0) (.ptr 0 0 0 0)) args dH) (h:sq P f 0 dH aw bX t):
  Calls P f vs.toArray E.w fun e w'=> ∃v E',e= .returned v∧E'.w=w'∧Step E E'∧SimH E' H∧SimL E' (ko L x bX)∧V3 E' t v∧E'.mL=E.mL:=by
 have lm: ∀v,V2 E (.e7 x 0) v→ ∃bl,E.mL x=some bl∧v= .pointer (some ⟨bl,0,none⟩):=fun v hv=>hv
 obtain⟨i,hi,he⟩:=List.mem_iff_getElem.1 hm
 have gE:i<vs.length:=aF.1▸hi
 have hU:=aF.2 i _ _ (List.getElem?_eq_getElem hi) (List.getElem?_eq_getElem gE)
 rw[he] at hU
 obtain⟨bl,jW,_⟩:=lm _ hU
 obtain⟨uH,cells,ty,q1,q2,q3⟩:=bN x bl jW
 rw[hx] at q1
 cases q1
 have gz:bl<E.w.heap.size:=aB.gf bl ⟨x,jW⟩
 have cd:cells.size=1*aw.length:=by rw[Nat.one_mul];exact q3.1.symm
 refine(IY (bl:=bl) (cp:=1) aB gz (fun h=>aB.hN bl h ⟨x,jW⟩) q2 cd (Nat.le_refl _) hk (fun j a ap=> ?_) aF (fun v hv=> ?_) hs jb h).mono ?_
 ·obtain⟨u,hu,gA⟩:=q3.get ap
  exact⟨u,by rw[Array.getElem?_toList] at hu;exact hu,gA.up⟩
 ·obtain⟨R8,h1,rfl⟩:=lm v hv
  rw[jW] at h1;cases h1;rfl
 rintro e w' ⟨v,E',rfl,rfl,A⟩
 have qt:E.fk bl∨E.j1 bl:= .inr ⟨x,jW⟩
 have a8:=A.step aB qt
 refine⟨v,E',rfl,rfl,a8,A.simH aB qt rfl (fun j y ba=>⟨y,ba,rfl⟩) (fun j y ba=>⟨y,ba,rfl⟩) (fun j c ap=> .inl ⟨fun e=>by subst e;exact aB.gn j x c ap jW,rfl⟩),fun u c hu=> ?_,A.v3,A.mL⟩
 rw[A.mL] at hu
 rw[xe]
 by_cases e:u=x
 ·subst e
  rw[jW] at hu
  cases hu
  obtain⟨bm,ty2,cZ,dg,fK,nn⟩:=A.new
  obtain⟨s1,s2,k6⟩:=A.row jb cZ
  rw[if_pos rfl,hx]
  refine⟨bX,bm,ty2,rfl,cZ,by show bX.length=bm.size;rw[s1,s2,Nat.one_mul],fun j a v ap hv=> ?_⟩
  obtain⟨afq,ms,gA⟩:=k6 j a ap
  rw[Array.getElem?_toList,ms] at hv
  cases hv;exact gA
 ·rw[if_neg e]
  obtain⟨br,bm,ty2,cZ,dg,fK⟩:=bN u c hu
  exact⟨br,bm,ty2,cZ,by rw[A.cT c (aB.gf c ⟨u,hu⟩) (fun h=>by subst h;exact e (aB.iL u x c hu jW))];exact dg,fK.mono fun _ _ k=>k.le a8.le.b0⟩
def IX (P:Program) (f:FuncId) (args:List AV) (L:List (Nat×List AV)) (H:List Blk) (K:nt Prop):Prop:=
 ∃dH aw bX t,aw.all te=true∧bX.all iB=true∧
  ((∃b g,H[b]?=some ⟨g,aw.length,[aw]⟩∧AV.ptr b g 0 0∈args∧aO (sn (.ptr b g 0 0) (.ptr 0 g 0 0)) args dH∧sq P f g dH aw bX t∧K t L (H.set b ⟨g,aw.length,[bX]⟩))∨
   ∃x,dZ L x=some aw∧AV.e7 x 0∈args∧aO (sn (.e7 x 0) (.ptr 0 0 0 0)) args dH∧sq P f 0 dH aw bX t∧K t (ko L x bX) H)
theorem Sw {P:Program} {f:FuncId} {args:List AV} {L:List (Nat×List AV)} {H:List Blk} {E:Env} {vs:List Value} {K:AV→List (Nat×List AV)→List Blk→Prop} (aB:SimH E H) (bN:SimL E L) (aF:aO (V2 E) args vs) (h:IX P f args L H K):
  r5 P f=true∧Calls P f vs.toArray E.w fun e w'=> ∃v u L' H' E',e= .returned u∧K v L' H'∧E'.w=w'∧Step E E'∧SimH E' H'∧SimL E' L'∧V3 E' v u∧E'.mL=E.mL:=by
 obtain⟨dH,aw,bX,t,hk,jb,⟨b,g,hb,hm,hs,hf,hK⟩ | ⟨x,hx,hm,hs,hf,hK⟩⟩:=h
 ·refine⟨hf.1,(Sx aB bN hb hk jb aF hm hs hf).mono ?_⟩
  rintro e w' ⟨v,E',rfl,rfl,h1,h2,aM,bx,c9⟩
  exact⟨t,v,L,_,E',rfl,hK,rfl,h1,h2,aM,bx,c9⟩
 ·refine⟨hf.1,(Sy aB bN hx hk jb aF hm hs hf).mono ?_⟩
  rintro e w' ⟨v,E',rfl,rfl,h1,h2,aM,bx,c9⟩
  exact⟨t,v,_,H,E',rfl,hK,rfl,h1,h2,aM,bx,c9⟩
def Ss (P:Program) (f:FuncId) (args:List AV) (L:List (Nat×List AV)) (H:List Blk) (K:nt Prop):Prop:=
 args.all et=true∧ ∃dH,aO (ey L H) args dH∧dw P f dH [] fun r eL=>vH r=true∧r7 eL=true∧K (oV H.length r) L (H++eL.map (kp H.length))
def Sq (P:Program) (f:FuncId) (args:List AV) (L:List (Nat×List AV)) (H:List Blk) (K:nt Prop):Prop:=
 args.all et=true∧args.all jC=true∧dw P f args H fun r H'=>vA r=true∧K r L H'
def kw (P:Program) (f:FuncId) (args:List AV) (L:List (Nat×List AV)) (H:List Blk) (K:nt Prop):Prop:=
 nD P f args L H (fun r=>K r L H)∨Ss P f args L H K∨Sq P f args L H K∨(args.all et=true∧IX P f args L H K)
def Jv (P:Program) (c:Call) (bF:Operand→AV) (L:List (Nat×List AV)) (H:List Blk) (K:nt Prop):Prop:=match c.callee with
 | .builtin .len=>DF P c bF L H fun r=>K r L H
 | .builtin .append=>(match c.args.toList,c.argTypes.toList with
  | [s,x],[t,t2]=>et (bF s)=true∧et (bF x)=true∧sA P t t2 (bF s) (bF x) L H K
  | _,_=>False)
 | .value f=>kW (bF f) fun g caps=>kw P g (c.args.toList.map bF++caps) L H K
 | _=>False
def jq (P:Program) (esc:List Nat) (o:Oper) (bF:Operand→AV) (L:List (Nat×List AV)) (H:List Blk) (K:nt Prop):Prop:=match o.op with
 | .store t a v=>eu (et (bF v)) (k7 P t (bF a) (bF v) L H fun L' H'=>K (.tup []) L' H')
 | .alloc e=>cM (ma P e) fun z=>tp esc o.dst z L H K
 | .box e x=>eu (et (bF x)) (tp esc o.dst (eP (bF x)) L H K)
 | .makeSlice t l c=>vx P t (bF l) (bF c) L H K
 | .buildSlice t n ps=>eu (ps.toList.all fun p=>et (bF p.2)) (sF P (sK esc o.dst) (tL esc) t n (ps.toList.map fun p=>(p.1,bF p.2)) L H K)
 | .call c=>Jv P c bF L H K
 | _=>ru P o bF L H fun r=>K r L H
theorem zh {E:Env} {a:AV} {v:Value} (h:et a=true) (hv:V3 E a v):V2 E a v:=by
 rwa [nz (vB h)] at hv
theorem Su {P:Program} {f:FuncId} {args:List AV} {L:List (Nat×List AV)} {H:List Blk} {E:Env} {vs:List Value} {K:AV→List (Nat×List AV)→List Blk→Prop} (aB:SimH E H) (bN:SimL E L)
  (aF:aO (V2 E) args vs) (h:kw P f args L H K):
  r5 P f=true∧Calls P f vs.toArray E.w fun e w'=> ∃v u L' H' E',e= .returned u∧K v L' H'∧E'.w=w'∧Step E E'∧SimH E' H'∧SimL E' L'∧V3 E' v u∧E'.mL=E.mL:=by
 rcases h with⟨ao,dH,t,hs,ow,hK⟩ | ⟨ao,dH,hs,ow⟩ | ⟨ao,aE,ow⟩ | ⟨ao,ai⟩
 ·refine⟨ow.1,(IZ (Sub.refl L H) aB bN aF hs ow).mono ?_⟩
  rintro e w' ⟨v,E',rfl,rfl,af,hv⟩
  exact⟨t,v,L,H,E',rfl,hK,rfl,af.step,af.simH aB,af.simL aB bN,hv,af.mL⟩
 ·refine⟨ow.1,(Sv (Q:=fun r eL=>K (oV H.length r) L (H++eL.map (kp H.length))) aB bN aF hs ow).mono ?_⟩
  rintro e w' ⟨r,v,eL,E',rfl,hK,rfl,a8,h1,h2,hv,hml⟩
  exact⟨_,v,L,_,E',rfl,hK,rfl,a8,h1,h2,hv,hml⟩
 ·refine⟨ow.1,(Sr (Q:=fun r H'=>K r L H') aB bN aF aE ow).mono ?_⟩
  rintro e w' ⟨r,v,H',E',rfl,hK,rfl,a8,h1,h2,hv,hml⟩
  exact⟨_,v,L,_,E',rfl,hK,rfl,a8,h1,h2,hv,hml⟩
 ·exact Sw aB bN aF ai
theorem Sp {P:Program} {f:FuncId} {args:List AV} {L:List (Nat×List AV)} {H:List Blk} {K:AV→List (Nat×List AV)→List Blk→Prop} (h:kw P f args L H K):args.all et=true:=by
 rcases h with⟨ao,_⟩ | ⟨ao,_⟩ | ⟨ao,_⟩ | ⟨ao,_⟩<;>exact ao
set_option maxHeartbeats 1000000 in
theorem evOp_sound {P:Program} {esc:List Nat} {o:Oper} {a:Act} {T:List AV} {E:Env} {L:List (Nat×List AV)} {H:List Blk} {K:AV→List (Nat×List AV)→List Blk→Prop} {Q:Exit→Act→World→Prop}
  (cc: ∀t,V3 E (T.getD t .undef) (a.tmps.getD t undef)) (aB:SimH E H) (bN:SimL E L) (h:jq P esc o (cb T) L H K):o.wp P a E.w (Cl E o a K) Q:=by
 have fin: ∀{s:Sem Value},(execOp a.eval o=(do pure (Next.value (←s))))→(∃v L' H' E' u,K v L' H'∧s.run P E.w= .ok u E'.w∧Step E E'∧SimH E' H'∧SimL E' L'∧V3 E' v u∧ ∀t,o.dst≠some t→E'.mL t=E.mL t)→o.wp P a E.w (Cl E o a K) Q:=by
  rintro s hs ⟨v,L',H',E',u,hK,av,h1,h2,aM,bx,c9⟩
  unfold Oper.wp
  rw[hs]
  exact H3 av ⟨v,u,L',H',E',hK,rfl,h1,h2,aM,bx,rfl,c9⟩
 have OE:ru P o (cb T) L H (fun r=>K r L H)→o.wp P a E.w (Cl E o a K) Q:=fun h=>
  Oper.wp_mono (fun gk w' ⟨v,u,E',hK,hw,af,hv,aF⟩=>⟨v,u,L,H,E',hK,hw,af.step,af.simH aB,af.simL aB bN,hv,aF,fun t _=>by rw[af.mL]⟩) (JC cc (Sub.refl L H) aB bN h)
 obtain⟨dst,op,ty,pos,after,guard⟩:=o
 cases op with
 | store t x v=>
  obtain⟨ao,h⟩:=oI (show eu (et (cb T v)) (k7 P t (cb T x) (cb T v) L H fun L' H'=>K (.tup []) L' H') from h)
  obtain⟨L',H',E',hK,av,h1,h2,aM,hml⟩:=ad1 aB bN (opv_rel cc x) (zh ao (opv_rel cc v)) h
  unfold Oper.wp
  have:(execOp a.eval ⟨dst,.store t x v,ty,pos,after,guard⟩).run P E.w= .ok .skip E'.w:=by
   simp only[execOp,Sem.run_bind,av,Sem.run_pure,Result.andThen_ok]
  rw[this]
  exact⟨.tup [],_,L',H',E',hK,rfl,h1,h2,aM,⟨[],rfl,aO.nil⟩,rfl,fun t _=>by rw[hml]⟩
 | alloc e=>
  obtain⟨z,aH,h⟩:=e8 (show cM (ma P e) fun z=>tp esc dst z L H K from h)
  obtain⟨i,v,q1,q2,q3,q4⟩:=ud (E:=E) aH
  obtain⟨r,L',H',E',hK,hw,h1,h2,aM,bx,hml⟩:=NG (ty:=e) aB bN q4 h
  refine fin (s:=Instr.alloc e true (.tuple #[])) rfl ⟨r,L',H',E',_,hK,?_,h1,h2,aM,bx,hml⟩
  rw[hw]
  simp[Instr.alloc,zeroValue,typeInfo,q1,q2,newVar,newRow]
 | box e x=>
  obtain⟨ao,h⟩:=oI (show eu (et (cb T x)) (tp esc dst (eP (cb T x)) L H K) from h)
  have hs:(eP (cb T x)).all iS=true:=by
   unfold tp at h;split at h
   ·rename_i q;exact q
   ·exact h.elim
  obtain⟨r,L',H',E',hK,hw,h1,h2,aM,bx,hml⟩:=NG (ty:=e) aB bN (C1 (zh ao (opv_rel cc x)) hs) h
  refine fin (s:=Instr.box e (a.eval x)) rfl ⟨r,L',H',E',_,hK,?_,h1,h2,aM,bx,hml⟩
  rw[hw]
  simp[Instr.box,newVar,newRow]
 | makeSlice t l c=>
  obtain⟨v,L',H',E',u,hK,av,h1,h2,aM,bx,hml⟩:=aad aB bN (opv_rel cc l) (opv_rel cc c) (show vx P t (cb T l) (cb T c) L H K from h)
  exact fin (s:=Instr.makeSlice t (a.eval l) (a.eval c)) rfl ⟨v,L',H',E',u,hK,av,h1,h2,aM,bx,fun t _=>by rw[hml]⟩
 | buildSlice t n ps=>
  obtain⟨ao,h⟩:=oI (show eu (ps.toList.all fun p=>et (cb T p.2)) (sF P (sK esc dst) (tL esc) t n (ps.toList.map fun p=>(p.1,cb T p.2)) L H K) from h)
  obtain⟨v,u,L',H',E',hK,av,h1,h2,aM,bx,hml⟩:=Sc aB bN (Gl cc ps.toList fun p ai=>vB (List.all_eq_true.1 ao p ai)) h
  exact fin (s:=Instr.buildSlice t n (ps.toList.map fun p=>(p.1,a.eval p.2)).toArray) (by rw[parts_eq];rfl) ⟨v,L',H',E',u,hK,av,h1,h2,aM,bx,fun t _=>by rw[hml]⟩
 | call c=>
  have h:Jv P c (cb T) L H K:=h
  obtain⟨callee,args,argTypes⟩:=c
  cases callee with
  | builtin b=>
   cases b with
   | len=>exact OE h
   | append=>
    have h:(match args.toList,argTypes.toList with
     | [s,x],[t,t2]=>et (cb T s)=true∧et (cb T x)=true∧sA P t t2 (cb T s) (cb T x) L H K
     | _,_=>False):=h
    split at h
    ·rename_i s x t t2 h1 h2
     obtain rfl:args= #[s,x]:=by rw[←Array.toArray_toList (xs:=args),h1]
     obtain rfl:argTypes= #[t,t2]:=by rw[←Array.toArray_toList (xs:=argTypes),h2]
     obtain⟨cu,n2,h⟩:=h
     obtain⟨r,u,H',E',hK,av,q1,q2,q3,q4,hml⟩:=RT (ty:=ty) aB bN (zh cu (opv_rel cc s)) (zh n2 (opv_rel cc x)) h
     unfold Oper.wp
     have:(execOp a.eval ⟨dst,.call ⟨.builtin .append,#[s,x],#[t,t2]⟩,ty,pos,after,guard⟩).run P E.w= .ok (.value u) E'.w:=by
      simp only[execOp,resolve,Sem.run_bind,Sem.run_pure,Result.andThen_ok,invoke,builtin]
      have e:Array.map a.eval #[s,x]= #[a.eval s,a.eval x]:=by simp
      rw[e,av];rfl
     rw[this]
     exact⟨r,u,L,H',E',hK,rfl,q1,q2,q3,q4,rfl,fun t _=>by rw[hml]⟩
    ·exact h.elim
   | _=>exact h.elim
  | value f=>
   have h:kW (cb T f) fun g caps=>kw P g (args.toList.map (cb T)++caps) L H K:=h
   cases hf:cb T f with
   | fn g caps=>
    rw[hf] at h
    have h:kw P g (args.toList.map (cb T)++caps) L H K:=h
    have ao:=Sp h
    obtain⟨vs,he,ql⟩:=I0 cc hf
    have Ed:aO (V2 E) (args.toList.map (cb T)++caps) (args.toList.map a.eval++vs):=
     aO.append (IE cc args.toList fun x hx=>vB (List.all_eq_true.1 ao _ (by simp;exact .inl ⟨x,by simpa using hx,rfl⟩))) ql
    obtain⟨fj,hc⟩:=Su aB bN Ed h
    unfold Oper.wp
    rw[show execOp a.eval ⟨dst,.call ⟨.value f,args,argTypes⟩,ty,pos,after,guard⟩=(do let d ←resolve a.eval ⟨.value f,args,argTypes⟩ ty;invoke d.target d.args) from rfl]
    rw[OW (P:=P) (ty:=ty) (w:=E.w) (c:=⟨.value f,args,argTypes⟩) rfl he fj]
    refine hc.mono ?_
    rintro e w' ⟨v,u,L',H',E',rfl,hK,rfl,q1,q2,q3,q4,hml⟩
    exact⟨v,u,L',H',E',hK,rfl,q1,q2,q3,q4,rfl,fun t _=>by rw[hml]⟩
   | _=>rw[hf] at h;exact h.elim
  | _=>exact h.elim
 | _=>exact OE h
def oa (lit:Bool) (b:Bool) (x y:Prop):Prop:=match lit with
 | true=>(match b with
  | true=>x
  | false=>y)
 | false=>wW b x y
theorem zx {lit b:Bool} {x y:Prop} (h:oa lit b x y):(b=true→x)∧(b=false→y):=by
 cases lit with
 | false=>exact h
 | true=>cases b<;>exact⟨fun e=>by cases e<;>exact h,fun e=>by cases e<;>exact h⟩
def putA (T:List AV) (dst:Option Nat) (v:AV):List AV:=match dst with
 | some d=>T.set d v
 | none=>T
def m0 (ops:Array Oper) (lit:Bool) (o:Oper) (T:List AV) (x y:List AV→Prop):Prop:=match o.guard with
 | none=>x T
 | some (j,cz)=>match(ops[j]?).bind (·.dst) with
  | none=>False
  | some t=>match T.getD t .undef with
   | .bool b=>oa lit b (if cz=true then x (T.set t (.bool true)) else y (T.set t (.bool true))) (if cz=true then y (T.set t (.bool false)) else x (T.set t (.bool false)))
   | .tup []=>y T
   | _=>False
def tz (lit:Bool) (o:Oper) (T:List AV) (K:AV→Prop) (zP:Prop):Prop:=match o.op with
 | .pick c x y=>nC (cb T c) fun z=>oa lit z (K (cb T x)) (K (cb T y))
 | _=>zP
def evOps (P:Program) (esc:List Nat) (ops:Array Oper):List (Oper×Bool)→List AV→List (Nat×List AV)→List Blk→(List AV→List (Nat×List AV)→List Blk→Prop)→Prop
 | [],T,L,H,K=>K T L H
 | (o,lit)::rest,T,L,H,K=>m0 ops lit o T
   (fun T=>tz lit o T (fun v=>evOps P esc ops rest (putA T o.dst v) L H K) (jq P esc o (cb T) L H fun v L' H'=>evOps P esc ops rest (putA T o.dst v) L' H' K))
   (fun T=>evOps P esc ops rest (putA T o.dst (.tup [])) L H K)
theorem qf {T:List AV} {d t:Nat} {v:AV}:(T.set d v).getD t .undef=if d=t∧d<T.length then v else T.getD t .undef:=by
 rw[List.getD_eq_getElem?_getD,List.getD_eq_getElem?_getD,List.getElem?_set]
 by_cases h:d=t
 ·subst h
  by_cases aE:d<T.length
  ·simp[aE]
  ·simp[aE]
 ·simp[h]
theorem Pq {E:Env} {T:List AV} {a:Act} (cc: ∀t,V3 E (T.getD t .undef) (a.tmps.getD t undef)) (hs:T.length=a.tmps.size) {dst:Option Nat} {v:AV} {u:Value} (hv:V3 E v u):
  (∀t,V3 E ((putA T dst v).getD t .undef) ((a.put dst u).tmps.getD t undef))∧(putA T dst v).length=(a.put dst u).tmps.size:=by
 cases dst with
 | none=>exact⟨cc,hs⟩
 | some d=>
  refine⟨fun t=> ?_,by simp[putA,Act.put,hs]⟩
  show V3 E ((T.set d v).getD t .undef) ((a.tmps.setIfInBounds d u).getD t undef)
  rw[qf,Array.getD_eq_getD_getElem?,Array.getElem?_setIfInBounds]
  by_cases h:d=t
  ·subst h
   by_cases aE:d<T.length
   ·have Aw:d<a.tmps.size:=hs▸aE
    simp[aE,Aw];exact hv
   ·have Aw: ¬d<a.tmps.size:=hs▸aE
    have:=cc d
    rw[Array.getD_eq_getD_getElem?] at this
    simp[aE,Aw] at this ⊢
    exact this
  ·have:=cc t
   rw[Array.getD_eq_getD_getElem?] at this
   simp[h];exact this
theorem acN {E:Env} {T:List AV} {a:Act} (cc: ∀t,V3 E (T.getD t .undef) (a.tmps.getD t undef)) {t:Nat} {b:Bool} (h:T.getD t .undef= .bool b):
  ∀s,V3 E ((T.set t (.bool b)).getD s .undef) (a.tmps.getD s undef):=fun s=>by
 rw[qf]
 by_cases hs:t=s∧t<T.length
 ·rw[if_pos hs,←h,hs.1];exact cc s
 ·rw[if_neg hs];exact cc s
theorem aeH {ops:Array Oper} {a:Act} {T:List AV} {E:Env} (cc: ∀t,V3 E (T.getD t .undef) (a.tmps.getD t undef)) {j t:Nat} {b:Bool} (ap:(ops[j]?).bind (·.dst)=some t) (h:T.getD t .undef= .bool b) (hs:T.length=a.tmps.size):
  yielded ops a.tmps j=some b:=by
 have hv:=cc t
 rw[h] at hv
 have he:a.tmps.getD t undef= .bool b:=V3.mS hv
 unfold yielded
 rw[ap]
 rw[Array.getD_eq_getD_getElem?] at he
 cases af:a.tmps[t]? with
 | none=>rw[af] at he;cases he
 | some x=>rw[af] at he;have:x= .bool b:=he;subst this;simp[af]
theorem aeI {ops:Array Oper} {a:Act} {T:List AV} {E:Env} (cc: ∀t,V3 E (T.getD t .undef) (a.tmps.getD t undef)) {j t:Nat} (ap:(ops[j]?).bind (·.dst)=some t) (h:T.getD t .undef= .tup []):
  yielded ops a.tmps j=none:=by
 have hv:=cc t
 rw[h] at hv
 obtain⟨vs,he,ai⟩:=(show ∃vs:List Value,a.tmps.getD t undef= .tuple vs.toArray∧aO (V2 E) [] vs from hv)
 obtain rfl:=ai.lZ
 unfold yielded
 rw[ap]
 rw[Array.getD_eq_getD_getElem?] at he
 cases af:a.tmps[t]? with
 | none=>simp[af]
 | some x=>rw[af] at he;have:x= .tuple #[]:=he;subst this;simp[af]
theorem Uy {P:Program} {ops:Array Oper} {lit:Bool} {o:Oper} {a:Act} {T:List AV} {E:Env} {w:World} {x y:List AV→Prop} {R:Prop}
  (cc: ∀t,V3 E (T.getD t .undef) (a.tmps.getD t undef)) (hs:T.length=a.tmps.size) (h:m0 ops lit o T x y)
  (p0: ∀T',Region.wanted o (yielded ops a.tmps)=true→(∀t,V3 E (T'.getD t .undef) (a.tmps.getD t undef))→T'.length=a.tmps.size→x T'→R)
  (no: ∀T',Region.wanted o (yielded ops a.tmps)=false→(∀t,V3 E (T'.getD t .undef) (a.tmps.getD t undef))→T'.length=a.tmps.size→y T'→R):R:=by
 unfold m0 at h
 cases aQ:o.guard with
 | none=>rw[aQ] at h;exact p0 T (by simp[Region.wanted,aQ]) cc hs h
 | some g=>
  obtain⟨j,cz⟩:=g
  rw[aQ] at h
  simp only at h
  cases ap:(ops[j]?).bind (·.dst) with
  | none=>rw[ap] at h;exact h.elim
  | some t=>
   rw[ap] at h
   simp only at h
   split at h
   ·rename_i b hb
    have ba:=aeH (ops:=ops) cc ap hb hs
    have hk:=acN cc hb
    obtain⟨h1,h2⟩:=zx h
    cases b with
    | true=>
     have h:=h1 rfl
     cases cz with
     | true=>exact p0 _ (by simp[Region.wanted,aQ,ba]) hk (by simpa using hs) h
     | false=>exact no _ (by simp[Region.wanted,aQ,ba]) hk (by simpa using hs) h
    | false=>
     have h:=h2 rfl
     cases cz with
     | true=>exact no _ (by simp[Region.wanted,aQ,ba]) hk (by simpa using hs) h
     | false=>exact p0 _ (by simp[Region.wanted,aQ,ba]) hk (by simpa using hs) h
   ·rename_i hb
    have ba:=aeI (ops:=ops) cc ap hb
    exact no T (by simp[Region.wanted,aQ,ba]) cc hs h
   ·exact h.elim
theorem zU [cw] {P:Program} {esc:List Nat} {ops:Array Oper} {Q:Exit→St→Prop} {cj:Env}: ∀(l:List (Oper×Bool)) (T:List AV) (L:List (Nat×List AV)) (H:List Blk) (E:Env) (a:Act),
  Good cj E→sx E ⟨T,L,H⟩ a.tmps→a.defers=[]→evOps P esc ops l T L H (fun T L H=>Q .normal ⟨T,L,H⟩)→wpList P ops (mi cj Q) (l.map (·.1)) a E.w
 | [],T,L,H,E,a,aQ,hs,aZ,h=>⟨rfl,⟨T,L,H⟩,E,h,rfl,aQ,hs,aZ⟩
 | (o,lit)::rest,T,L,H,E,a,aQ,hs,aZ,h=>by
  have cc: ∀t,V3 E (T.getD t .undef) (a.tmps.getD t undef):=hs.hP
  show if Region.wanted o (yielded ops a.tmps) then o.wp P a E.w (wpList P ops (mi cj Q) (rest.map (·.1))) (mi cj Q)∨_ else wpList P ops (mi cj Q) (rest.map (·.1)) (a.put o.dst undef) E.w
  refine Uy (P:=P) (w:=E.w) cc hs.size h (fun T' hw hT' m8 h'=> ?_) (fun T' hw hT' m8 h'=> ?_)
  ·rw[if_pos hw]
   refine .inl ?_
   have next: ∀(v:AV) (u:Value) (L':List (Nat×List AV)) (H':List Blk) (E':Env),Step E E'→SimH E' H'→SimL E' L'→V3 E' v u→evOps P esc ops rest (putA T' o.dst v) L' H' (fun T L H=>Q .normal ⟨T,L,H⟩)→
     wpList P ops (mi cj Q) (rest.map (·.1)) (a.put o.dst u) E'.w:=fun v u L' H' E' q1 q2 q3 q4 hK=>by
    obtain⟨cZ,dg⟩:=Pq (fun t=>(hT' t).le q1.le) m8 (dst:=o.dst) q4
    refine zU rest _ _ _ E' (a.put o.dst u) (aQ.step q1) ⟨q2,q3,cZ,dg⟩ ?_ hK
    cases o.dst<;>exact aZ
   have bi:(jq P esc o (cb T') L H fun v L' H'=>evOps P esc ops rest (putA T' o.dst v) L' H' (fun T L H=>Q .normal ⟨T,L,H⟩))→o.wp P a E.w (wpList P ops (mi cj Q) (rest.map (·.1))) (mi cj Q):=fun h'=>
    Oper.wp_mono (fun gk w' ⟨v,u,L',H',E',hK,gd,q1,q2,q3,q4,aF,_⟩=>by
     subst aF;subst gd
     exact next v u L' H' E' q1 q2 q3 q4 hK) (evOp_sound hT' hs.h hs.l h')
   unfold tz at h'
   split at h'
   ·rename_i c x y fw
    obtain⟨b,hb,bD⟩:=zo h'
    obtain⟨h1,h2⟩:=zx bD
    have hv:=opv_rel hT' c
    rw[hb] at hv
    have he:a.eval c= .bool b:=V3.mS hv
    unfold Oper.wp
    have hx: ∀z,(z=if b=true then a.eval x else a.eval y)→(execOp a.eval o).run P E.w= .ok (.value z) E.w:=fun z aH=>by
     subst aH
     simp only[execOp,fw,he,asBool,Sem.run_bind,Sem.run_pure,Result.andThen_ok]
    cases b with
    | true=>rw[hx (a.eval x) rfl];exact next _ _ L H E (Step.refl E) hs.h hs.l (opv_rel hT' x) (h1 rfl)
    | false=>rw[hx (a.eval y) rfl];exact next _ _ L H E (Step.refl E) hs.h hs.l (opv_rel hT' y) (h2 rfl)
   ·exact bi h'
  ·rw[hw]
   show wpList P ops (mi cj Q) (rest.map (·.1)) (a.put o.dst undef) E.w
   obtain⟨cZ,dg⟩:=Pq (a:=a) hT' m8 (dst:=o.dst) (v:= .tup []) (u:=undef) ⟨[],rfl,aO.nil⟩
   refine zU rest (putA T' o.dst (.tup [])) L H E (a.put o.dst undef) aQ ⟨hs.h,hs.l,cZ,dg⟩ ?_ h'
   cases o.dst<;>exact aZ
def lits (ops:Array Oper) (qM:List Nat):List (Oper×Bool):=ops.toList.zipIdx.map fun p=>(p.1,qM.contains p.2)
theorem ZN (ops:Array Oper) (qM:List Nat):(lits ops qM).map (·.1)=ops.toList:=by
 unfold lits
 rw[List.map_map]
 apply List.ext_getElem?
 intro i
 simp only[List.getElem?_map,List.getElem?_zipIdx]
 cases ops.toList[i]?<;>rfl
theorem WpS.region [cw] {P:Program} {esc:List Nat} {qM:List Nat} {id:Nat} {ops:Array Oper} {Q:Exit→St→Prop} {ay:St} (h:evOps P esc ops (lits ops qM) ay.T ay.L ay.H (fun T L H=>Q .normal ⟨T,L,H⟩)):WpS P (.region id ops false) Q ay:=fun cj E a g s d=>by
 refine wp_region_list ?_
 have:=zU (lits ops qM) ay.T ay.L ay.H E a g s d h
 rwa [ZN] at this
def tl (cH:List Nat):AV→Bool
 | .e7 t _=> !cH.contains t
 | _=>true
def rU (cH:List Nat):AV→Bool
 | .fn _ caps=>caps.all (tl cH)
 | a=>tl cH a
def rV (cH:List Nat):AV→Bool
 | .agg l=>l.all (rU cH)
 | a=>rU cH a
def nQ (cH:List Nat):AV→Bool
 | .tup l=>l.all (rV cH)
 | a=>rV cH a
def Env.drop (E:Env) (cH:List Nat):Env:={E with mL:=fun t=>if cH.contains t=true then none else E.mL t}
section
variable {E:Env} {cH:List Nat}
theorem ez.drop {a:AV} {v:Value} (h:tl cH a=true) (hv:ez E a v):ez (E.drop cH) a v:=by
 cases a with
 | e7 t c=>
  obtain⟨bl,hm,e⟩:=hv
  have:cH.contains t=false:=by simpa[tl] using h
  exact⟨bl,by show(if cH.contains t=true then none else E.mL t)=_;rw[if_neg (by rw[this];simp)];exact hm,e⟩
 | _=>exact hv
theorem b1.drop {a:AV} {v:Value} (h:rU cH a=true) (hv:b1 E a v):b1 (E.drop cH) a v:=by
 by_cases hf: ∃f caps,a= .fn f caps
 ·obtain⟨f,caps,rfl⟩:=hf
  obtain⟨vs,e,ai⟩:=hv
  exact⟨vs,e,ai.1,fun i x y hx ba=>(ai.2 i x y hx ba).drop (List.all_eq_true.1 (show caps.all (tl cH)=true from h) x (List.mem_of_getElem? hx))⟩
 ·have aI:rU cH a=tl cH a:=by cases a<;>first | rfl | exact absurd ⟨_,_,rfl⟩ hf
  rw[o5 fun f c e=>hf ⟨f,c,e⟩] at hv ⊢
  exact hv.drop (aI▸h)
theorem V2.drop {a:AV} {v:Value} (h:rV cH a=true) (hv:V2 E a v):V2 (E.drop cH) a v:=by
 by_cases hf: ∃l,a= .agg l
 ·obtain⟨l,rfl⟩:=hf
  obtain⟨vs,e,ai⟩:=hv
  exact⟨vs,e,ai.1,fun i x y hx ba=>(ai.2 i x y hx ba).drop (List.all_eq_true.1 (show l.all (rU cH)=true from h) x (List.mem_of_getElem? hx))⟩
 ·have aI:rV cH a=rU cH a:=by cases a<;>first | rfl | exact absurd ⟨_,rfl⟩ hf
  rw[ny fun l e=>hf ⟨l,e⟩] at hv ⊢
  exact hv.drop (aI▸h)
theorem V3.drop {a:AV} {v:Value} (h:nQ cH a=true) (hv:V3 E a v):V3 (E.drop cH) a v:=by
 by_cases hf: ∃l,a= .tup l
 ·obtain⟨l,rfl⟩:=hf
  obtain⟨vs,e,ai⟩:=hv
  exact⟨vs,e,ai.1,fun i x y hx ba=>(ai.2 i x y hx ba).drop (List.all_eq_true.1 (show l.all (rV cH)=true from h) x (List.mem_of_getElem? hx))⟩
 ·have aI:nQ cH a=rV cH a:=by cases a<;>first | rfl | exact absurd ⟨_,rfl⟩ hf
  rw[nz fun l e=>hf ⟨l,e⟩] at hv ⊢
  exact hv.drop (aI▸h)
end
def mW (cH:List Nat) (L:List (Nat×List AV)):List (Nat×List AV):=match L with
 | []=>[]
 | (k,c)::L=>match cH.contains k with
  | true=>mW cH L
  | false=>(k,c)::mW cH L
theorem zK {cH:List Nat}: ∀(L:List (Nat×List AV)) (t:Nat),cH.contains t=false→dZ (mW cH L) t=dZ L t
 | [],t,h=>rfl
 | (k,c)::L,t,h=>by
  unfold mW
  split
  ·rename_i hk
   have:t≠k:=fun e=>by subst e;rw[h] at hk;cases hk
   rw[zK L t h];simp[dZ,this]
  ·simp only[dZ];rw[zK L t h]
theorem Weak.mW [cw] (cH:List Nat) {T:List AV} {L:List (Nat×List AV)} {H:List Blk} (h:T.all (nQ cH)=true):Weak ⟨T,L,H⟩ ⟨T,mW cH L,H⟩:=fun cj E tmps g s=>by
 have hm: ∀t c,(E.drop cH).mL t=some c→cH.contains t=false∧E.mL t=some c:=by
  intro t c hc
  have hc:(if cH.contains t=true then none else E.mL t)=some c:=hc
  split at hc
  ·cases hc
  ·rename_i q;exact⟨by simpa using q,hc⟩
 have hi: ∀c,(E.drop cH).j1 c→E.j1 c:=fun c ⟨t,bn⟩=>⟨t,(hm t c bn).2⟩
 have gS:SimH E H:=s.h
 refine⟨E.drop cH,rfl,?_,?_,?_,fun t=> ?_,s.size⟩
 ·exact{g with
   le:={g.le with mL:=fun t c hc=>by rw[g.b0 t] at hc;cases hc}
   iK:=fun c hc=>g.iK c (hi c hc)}
 ·exact{gS with
   heap:=gS.heap
   iL:=fun t hz c h1 h2=>gS.iL t hz c (hm t c h1).2 (hm hz c h2).2
   gn:=fun b t c h1 h2=>gS.gn b t c h1 (hm t c h2).2
   hN:=fun c hc hx=>gS.hN c hc (hi c hx)
   gf:=fun c hx=>gS.gf c (hi c hx)}
 ·intro t c hc
  obtain⟨h1,h2⟩:=hm t c hc
  obtain⟨cells,aw,ty,q1,q2,q3⟩:=s.l t c h2
  exact⟨cells,aw,ty,by show dZ (Fw.mW cH L) t=_;rw[zK L t h1];exact q1,q2,q3⟩
 ·show V3 (E.drop cH) (T.getD t .undef) _
  refine(s.hP t).drop ?_
  show nQ cH (T.getD t .undef)=true
  rw[List.getD_eq_getElem?_getD]
  cases af:T[t]? with
  | none=>rfl
  | some a=>exact List.all_eq_true.1 h a (List.mem_of_getElem? af)
def qG:AV→Bool
 | .aV [] true _=>true
 | _=>false
theorem Tl {E:Env} {a:AV} {v:Value} (h:qG a=true) (hv:ez E a v): ∃A,v= .slice A 0 0:=by
 have key: ∀rows full fr,a= .aV rows full fr→rows=[]→full=true→ ∃A,v= .slice A 0 0:=by
  intro rows full fr e av hf
  subst e
  have hv:aW E.w E.PA E.PF (.aV rows full fr) v:=hv
  cases hv with
  | @aV _ _ PB _ _ _ A cap sz vs eU e1 fG cd dQ hrel=>
   refine⟨A,?_⟩
   rw[fG hf,av];rfl
 unfold qG at h
 split at h
 ·exact key _ _ _ rfl rfl rfl
 ·cases h
theorem Dy {E E':Env} {a:AV} {v:Value} {b:Nat} (h:qG a=true) (hv:b1 E a v) (aQ:E'.bi b=0) (hm:E'.m b=some none):b1 E' (.ref b 0 0 0 false) v:=by
 have hU:ez E a v:=by
  rwa [o5] at hv
  rintro f c rfl;cases h
 obtain⟨A,rfl⟩:=Tl h hU
 exact .inr ⟨aQ.symm,.inl ⟨hm,rfl,rfl,A,rfl⟩⟩
theorem Weak.RL [cw] (i sz:Nat) {T:List AV} {L:List (Nat×List AV)} {H:List Blk} (h:qG (T.getD i .undef)=true):Weak ⟨T,L,H⟩ ⟨T.set i (.ref H.length 0 0 0 false),L,H++[⟨0,sz,[]⟩]⟩:=fun cj E tmps g s=>by
 obtain⟨E',hw,a8,h1,h2,aM,bx,_⟩:=A_ (blk:=⟨0,sz,[]⟩) s.h s.l rfl rfl
 refine⟨E',hw,g.step a8,h1,h2,fun t=> ?_,by simpa using s.size⟩
 show V3 E' ((T.set i _).getD t .undef) _
 rw[qf]
 split
 ·rename_i af
  obtain⟨rfl,_⟩:=af
  have hv:=s.hP i
  have kf:b1 E (T.getD i .undef) (tmps.getD i undef):=by
   have hv:V3 E (T.getD i .undef) (tmps.getD i undef):=hv
   rw[nz,ny] at hv
   ·exact hv
   ·intro l e;rw[e] at h;cases h
   ·intro l e;rw[e] at h;cases h
  exact o6 (jp (Dy h kf aM bx))
 ·exact(s.hP t).le a8.le
theorem Weak.CB [cw] (t i sz:Nat) {T:List AV} {L:List (Nat×List AV)} {H:List Blk} {cells:List AV} (hc:dZ L t=some cells) (h:qG (cells.getD i .undef)=true):
  Weak ⟨T,L,H⟩ ⟨T,ko L t (cells.set i (.ref H.length 0 0 0 false)),H++[⟨0,sz,[]⟩]⟩:=fun cj E tmps g s=>by
 obtain⟨E',hw,a8,h1,h2,aM,bx,c9,e6⟩:=A_ (blk:=⟨0,sz,[]⟩) s.h s.l rfl rfl
 refine⟨E',hw,g.step a8,h1,?_,fun t=>(s.hP t).le a8.le,s.size⟩
 intro u c hm
 obtain⟨gw,aw,ty,q1,q2,q3⟩:=h2 u c hm
 show ∃CY aw ty,dZ (ko L t _) u=some CY∧_
 rw[xe]
 by_cases hu:u=t
 ·subst hu
  rw[if_pos rfl]
  have ym:dZ L u=some gw:=q1
  rw[hc] at ym
  cases ym
  refine⟨_,aw,ty,by rw[hc];rfl,q2,by simpa using q3.1,fun j x v hx hv=> ?_⟩
  rw[List.getElem?_set] at hx
  split at hx
  ·rename_i li
   subst li
   split at hx
   ·rename_i aX
    cases hx
    have aQ:=List.getElem?_eq_getElem aX
    have:cells.getD i .undef=cells[i]:=by rw[List.getD_eq_getElem?_getD,aQ];rfl
    have kf:=q3.2 i _ v aQ hv
    rw[this] at h
    exact Dy (E:=E'.b0) h kf aM bx
   ·cases hx
  ·exact q3.2 j x v hx hv
 ·rw[if_neg hu]
  exact⟨gw,aw,ty,q1,q2,q3⟩
structure cr where
 be:Int
 bO:Int
 deriving Inhabited,DecidableEq
structure Way where
 ad:List Int
 a1:List cr
 bP:List cr
 b4:List Int
 dv:List Int
 deriving Inhabited,DecidableEq
structure aK where
 ad:Int
 bd:List Int
 O:List Way
 bt:List (List Bool)
 cS:Int
 deriving Inhabited,DecidableEq
structure Event where
 op:Int
 QK:Int
 bO:Int
 deriving Inhabited,DecidableEq
structure cJ where
 cz:Int
 a1:Int
 deriving Inhabited,DecidableEq
structure ac where
 az:Int
 ab:Int
 aa:List Bool
 ar:Bool
 au:Int
 deriving Inhabited,DecidableEq
structure Frame where
 ok:Bool
 aC:List Bool
 aq:List cJ
 O:List ac
 deriving Inhabited,DecidableEq
structure sp where
 code:Int
 frame:Frame
 deriving Inhabited,DecidableEq
structure ij where
 code:Int
 pos:Int
 deriving Inhabited,DecidableEq
structure fu where
 O:List Int
 ad:List Int
 aq:List Int
 deriving Inhabited,DecidableEq
structure jo where
 code:List UInt8
 pos:Int
 yB:Int
 deriving Inhabited
def ct (n:Int):List AV:=[.int .i64 n]
def zN (n:UInt8):List AV:=[.int .u8 n.toNat]
def a7 (b:Bool):List AV:=[.bool b]
def Dw (s:ByteArray):List AV:=[.str s]
def fR {α:Type} (e:α→List AV) (fr:Bool) (xs:List α):List AV:=[.aV (xs.map e) false fr]
def dL (x:cr):List AV:=[.int .i64 x.be,.int .i64 x.bO]
def en (fr:Bool) (x:Way):List AV:=[.aV (x.ad.map ct) false fr,.aV (x.a1.map dL) false fr,.aV (x.bP.map dL) false fr,.aV (x.b4.map ct) false fr,.aV (x.dv.map ct) false fr]
def bW (fr:Bool) (x:aK):List AV:=[.int .i64 x.ad,.aV (x.bd.map ct) false fr,.aV (x.O.map (en false)) false fr,.aV (x.bt.map (fR a7 false)) false fr,.int .i64 x.cS]
def Ds (x:Event):List AV:=[.int .i64 x.op,.int .i64 x.QK,.int .i64 x.bO]
def bH (x:cJ):List AV:=[.int .i64 x.cz,.int .i64 x.a1]
def cR (fr:Bool) (x:ac):List AV:=[.int .i64 x.az,.int .i64 x.ab,.aV (x.aa.map a7) false fr,.bool x.ar,.int .i64 x.au]
def b9 (fr:Bool) (x:Frame):List AV:=[.bool x.ok,.aV (x.aC.map a7) false fr,.aV (x.aq.map bH) false fr,.aV (x.O.map (cR false)) false fr]
def Dr (fr:Bool) (x:sp):List AV:=[.int .i64 x.code,.bool x.frame.ok,.aV (x.frame.aC.map a7) false fr,.aV (x.frame.aq.map bH) false fr,.aV (x.frame.O.map (cR false)) false fr]
def Dt (x:ij):List AV:=[.int .i64 x.code,.int .i64 x.pos]
def Tk (fr:Bool) (x:jo):List AV:=[.aV (x.code.map zN) false fr,.int .i64 x.pos,.int .u64 x.yB]
def gm (fr:Bool) (x:fu):List AV:=[.aV (x.O.map ct) false fr,.aV (x.ad.map ct) false fr,.aV (x.aq.map ct) false fr]
def nth {α:Type} [Inhabited α] (xs:List α) (i:Int):α:=xs.getD i.toNat default
theorem gZ {α:Type} [Inhabited α] {xs:List α} {i:Int} (h:i.toNat<xs.length):xs[i.toNat]?=some (nth xs i):=by
 unfold nth
 rw[List.getD_eq_getElem?_getD,List.getElem?_eq_getElem h];rfl
def r2:Code→List Nat→Code
 | c,[]=>c
 | .seq x y,n::p=>match n with
  | 0=>r2 x p
  | _=>r2 y p
 | .cond _ x y,n::p=>match n with
  | 0=>r2 x p
  | _=>r2 y p
 | .block _ x,_::p=>r2 x p
 | .loop x,_::p=>r2 x p
 | .scope x,_::p=>r2 x p
 | c,_=>c
def jS (f:Func):Code:=f.body.getD .skip
section
variable {P:Program} {esc:List Nat} {ops:Array Oper} {l eK:List (Oper×Bool)} {T T':List AV} {L L':List (Nat×List AV)} {H H':List Blk} {K:List AV→List (Nat×List AV)→List Blk→Prop}
end
theorem WpS.seq' [cw] {P:Program} {c x y:Code} {Q:Exit→St→Prop} {ay:St} (e:c= .seq x y) (h:WpS P x (eH P y Q) ay):WpS P c Q ay:=e▸WpS.seq h
theorem WpS.SS [cw] {P:Program} {c x y:Code} {o:Operand} {Q:Exit→St→Prop} {ay:St} {b:Bool} (e:c= .cond o x y) (hb:cb ay.T o= .bool b) (h1:b=true→WpS P x Q ay) (h2:b=false→WpS P y Q ay):WpS P c Q ay:=
 e▸WpS.cond (by rw[hb];exact⟨h1,h2⟩)
theorem WpS.R_ [cw] {P:Program} {c x:Code} {id:Nat} {Q:Exit→St→Prop} {ay:St} (e:c= .block id x) (h:WpS P x (ej id Q) ay):WpS P c Q ay:=e▸WpS.block h
theorem WpS.ace [cw] {P:Program} {c:Code} {Q:Exit→St→Prop} {ay:St} (e:c= .skip) (h:Q .normal ay):WpS P c Q ay:=e▸WpS.skip h
theorem WpS.abJ [cw] {P:Program} {c:Code} {Q:Exit→St→Prop} {ay:St} (e:c= .ret) (h:Q .ret ay):WpS P c Q ay:=e▸WpS.ret h
theorem WpS.Tx [cw] {P:Program} {c:Code} {id:Nat} {Q:Exit→St→Prop} {ay:St} (e:c= .exit id) (h:Q (.exit id) ay):WpS P c Q ay:=e▸WpS.exit h
theorem WpS.ZU [cw] {P:Program} {c x:Code} {Q:Exit→St→Prop} {ay:St} {V:Type} (S:V→St) (I:V→Prop) (m:V→Nat) (e:c= .loop x) (v0:V) (hs:Weak ay (S v0)) (aI:I v0)
  (round: ∀v,I v→WpS P x (fun ex s=>match ex with
   | .normal=> ∃ec,I ec∧m ec<m v∧Weak s (S ec)
   | ex=>Q ex s) (S v)):WpS P c Q ay:=by
 subst e
 refine WpS.ra (WpS.loop (fun n s=> ∃v,I v∧s=S v∧n=m v) (m v0) ⟨v0,aI,rfl,rfl⟩ ?_) hs
 rintro n s ⟨v,hv,rfl,rfl⟩
 refine WpS.mono (round v hv) fun ex s af=> ?_
 cases ex with
 | normal=>
  obtain⟨ec,h1,h2,aM⟩:=af
  exact⟨m ec,S ec,h2,aM,ec,h1,rfl,rfl⟩
 | _=>exact af
theorem eH.normal [cw] {P:Program} {y:Code} {Q:Exit→St→Prop} {s:St} (h:WpS P y Q s):eH P y Q .normal s:=h
theorem eH.ret [cw] {P:Program} {y:Code} {Q:Exit→St→Prop} {s:St} (h:Q .ret s):eH P y Q .ret s:=h
theorem eH.exit [cw] {P:Program} {y:Code} {Q:Exit→St→Prop} {s:St} {id:Nat} (h:Q (.exit id) s):eH P y Q (.exit id) s:=h
theorem ej.normal {id:Nat} {Q:Exit→St→Prop} {s:St} (h:Q .normal s):ej id Q .normal s:=h
theorem ej.ret {id:Nat} {Q:Exit→St→Prop} {s:St} (h:Q .ret s):ej id Q .ret s:=h
theorem ej.here {id:Nat} {Q:Exit→St→Prop} {s:St} (h:Q .normal s):ej id Q (.exit id) s:=by
 show(if id=id then _ else _);rw[if_pos rfl];exact h
theorem ej.there {id fX:Nat} {Q:Exit→St→Prop} {s:St} (bY:fX≠id) (h:Q (.exit fX) s):ej id Q (.exit fX) s:=by
 show(if fX=id then _ else _);rw[if_neg bY];exact h
theorem ey.jD {L:List (Nat×List AV)} {H:List Blk} {a b:AV} (h:fF L H a b):ey L H a b:= .inr h
theorem ey.agg {L:List (Nat×List AV)} {H:List Blk} {l eK:List AV} (h:aO (fF L H) l eK):ey L H (.agg l) (.agg eK):= .inl ⟨l,eK,rfl,rfl,h⟩
theorem jQ.jD {H:List Blk} {a b:AV} (h:ft H a b):jQ H a b:= .inr (.inr h)
theorem jQ.agg {H:List Blk} {l eK:List AV} (h:aO (ft H) l eK):jQ H (.agg l) (.agg eK):= .inr (.inl ⟨l,eK,rfl,rfl,h⟩)
theorem WpS.start [cw] {P:Program} {c:Code} {Q:Exit→St→Prop} {ay kr:St} (e:ay=kr) (h:WpS P c Q kr):WpS P c Q ay:=e▸h
def di [cw] (S:St) (ψ:Prop) (Q:Exit→St→Prop) (ex:Exit) (s:St):Prop:=match ex with
 | .normal=>ψ∧Weak s S
 | ex=>Q ex s
theorem WpS.v7 [cw] {P:Program} {c x y:Code} {Q:Exit→St→Prop} {ay:St} (S:St) {ψ:Prop} (e:c= .seq x y) (h:WpS P x (di S ψ Q) ay) (af:ψ→WpS P y Q S):WpS P c Q ay:=by
 subst e
 refine WpS.seq (WpS.mono h fun ex s hs=> ?_)
 cases ex with
 | normal=>exact WpS.ra (af hs.1) hs.2
 | _=>exact hs
theorem di.normal [cw] {S s:St} {ψ:Prop} {Q:Exit→St→Prop} (ai:ψ) (h:Weak s S):di S ψ Q .normal s:=⟨ai,h⟩
theorem di.ret [cw] {S s:St} {ψ:Prop} {Q:Exit→St→Prop} (h:Q .ret s):di S ψ Q .ret s:=h
theorem di.exit [cw] {S s:St} {ψ:Prop} {Q:Exit→St→Prop} {id:Nat} (h:Q (.exit id) s):di S ψ Q (.exit id) s:=h
def fi [cw] {V:Type} (S:V→St) (I:V→Prop) (m:V→Nat) (v:V) (Q:Exit→St→Prop) (ex:Exit) (s:St):Prop:=match ex with
 | .normal=> ∃ec,I ec∧m ec<m v∧Weak s (S ec)
 | ex=>Q ex s
theorem WpS.Nq [cw] {P:Program} {c x:Code} {Q:Exit→St→Prop} {ay:St} {V:Type} (S:V→St) (I:V→Prop) (m:V→Nat) (e:c= .loop x) (v0:V) (hs:Weak ay (S v0)) (aI:I v0)
  (round: ∀v,I v→WpS P x (fi S I m v Q) (S v)):WpS P c Q ay:=
 WpS.ZU S I m e v0 hs aI fun v hv=>WpS.mono (round v hv) fun ex s h=>by
  cases ex<;>exact h
theorem fi.again [cw] {V:Type} {S:V→St} {I:V→Prop} {m:V→Nat} {v:V} {Q:Exit→St→Prop} {s:St} (ec:V) (h:I ec∧m ec<m v) (hw:Weak s (S ec)):fi S I m v Q .normal s:=⟨ec,h.1,h.2,hw⟩
theorem fi.ret [cw] {V:Type} {S:V→St} {I:V→Prop} {m:V→Nat} {v:V} {Q:Exit→St→Prop} {s:St} (h:Q .ret s):fi S I m v Q .ret s:=h
theorem fi.exit [cw] {V:Type} {S:V→St} {I:V→Prop} {m:V→Nat} {v:V} {Q:Exit→St→Prop} {s:St} {id:Nat} (h:Q (.exit id) s):fi S I m v Q (.exit id) s:=h
@[irreducible] def bU (c:Code) (n:Nat):Code:=r2 c ((List.range (Nat.log2 n)).map fun i=>(n>>>i)%2).reverse
def j6 (c:Code) (n:Nat):Array Oper:=match bU c n with
 | .region _ ops _=>ops
 | _=> #[]
theorem o1 [cw] {s s' s'':St} (h:Weak s s') (e:s'=s''):Weak s s'':=e▸h
def j9 (H:List Blk) (c d:List AV):Prop:=c.length=d.length∧ ∀(j:Nat) (a b:AV),c[j]?=some a→d[j]?=some b→ft H a a∧b=hX a
theorem acO {H:List Blk} {α:Type} {eT eF:α→List AV} {b:Nat} {g sz:Nat} {full:Bool} {xs:List α} (hb:H[b]?=some ⟨g,sz,List.map eT xs⟩) (ao:xs.length≤4611686018427387904) (hc: ∀x,j9 H (eT x) (eF x)):
  ft H (.ref b g 0 xs.length full) (.aV (List.map eF xs) false true):=by
 refine ft.ref (fun h=>by cases h) (fun i j=>((xs[i]?).bind fun x=>(eT x)[j]?).getD .undef) hb rfl (by rw[List.length_map]) ao (by simp) (fun i row row' h1 h2=> ?_) (fun i j row a hi h1 h2=> ?_) (fun i j row' c h1 h2=> ?_)
 ·have h1:(List.map eT xs)[0+i]?=some row:=h1
  rw[Nat.zero_add,List.getElem?_map] at h1
  rw[List.getElem?_map] at h2
  cases hx:xs[i]? with
  | none=>rw[hx] at h1;cases h1
  | some x=>rw[hx] at h1 h2;cases h1;cases h2;exact(hc x).1
 ·have h1:(List.map eT xs)[0+i]?=some row:=h1
  rw[Nat.zero_add,List.getElem?_map] at h1
  cases hx:xs[i]? with
  | none=>rw[hx] at h1;cases h1
  | some x=>
   rw[hx] at h1;cases h1
   show ft H a (((some x).bind fun x=>(eT x)[j]?).getD .undef)
   have ap:(eT x)[j]?=some a:=h2
   have he:((some x).bind fun x=>(eT x)[j]?).getD .undef=a:=by
    show((eT x)[j]?).getD .undef=a
    rw[ap];rfl
   rw[he]
   have aX:j<(eF x).length:=by rw[←(hc x).1];exact(List.getElem?_eq_some_iff.1 ap).1
   exact((hc x).2 j a _ ap (List.getElem?_eq_getElem aX)).1
 ·rw[List.getElem?_map] at h1
  cases hx:xs[i]? with
  | none=>rw[hx] at h1;cases h1
  | some x=>
   rw[hx] at h1;cases h1
   show c=hX (((some x).bind fun x=>(eT x)[j]?).getD .undef)
   have aX:j<(eT x).length:=by rw[(hc x).1];exact(List.getElem?_eq_some_iff.1 h2).1
   have ap:=List.getElem?_eq_getElem aX
   have he:((some x).bind fun x=>(eT x)[j]?).getD .undef=(eT x)[j]:=by
    show((eT x)[j]?).getD .undef=_
    rw[ap];rfl
   rw[he]
   exact((hc x).2 j _ c ap h2).2
theorem j9.nil {H:List Blk}:j9 H [] []:=⟨rfl,fun j a b h=>by simp at h⟩
theorem j9.cons {H:List Blk} {a b:AV} {c d:List AV} (h1:ft H a a) (h2:b=hX a) (h:j9 H c d):j9 H (a::c) (b::d):=
 ⟨by simp[h.1],fun j x y hx ba=>by
  cases j with
  | zero=>simp at hx ba;subst hx;subst ba;exact⟨h1,h2⟩
  | succ j=>exact h.2 j x y (by simpa using hx) (by simpa using ba)⟩
theorem Sl {H:List Blk} (n:Int):j9 H (ct n) (ct n):= .cons (.int _ _) rfl .nil
theorem Sn {H:List Blk} (n:UInt8):j9 H (zN n) (zN n):= .cons (.int _ _) rfl .nil
theorem CQ {H:List Blk} (b:Bool):j9 H (a7 b) (a7 b):= .cons (.bool _) rfl .nil
theorem Sm {H:List Blk} (b:ByteArray):j9 H (Dw b) (Dw b):= .cons (.str _) rfl .nil
theorem jU {H:List Blk} (rows:List (List AV)):ft H (.aV rows false true) (.aV rows false true):= .aV _ _ _ id
theorem IV {H:List Blk} (x:cr):j9 H (dL x) (dL x):= .cons (.int _ _) rfl (.cons (.int _ _) rfl .nil)
theorem Sj {H:List Blk} (x:Event):j9 H (Ds x) (Ds x):= .cons (.int _ _) rfl (.cons (.int _ _) rfl (.cons (.int _ _) rfl .nil))
theorem IW {H:List Blk} (x:cJ):j9 H (bH x) (bH x):= .cons (.int _ _) rfl (.cons (.int _ _) rfl .nil)
theorem So {H:List Blk} (x:Way):j9 H (en true x) (en false x):= .cons (jU _) rfl (.cons (jU _) rfl (.cons (jU _) rfl (.cons (jU _) rfl (.cons (jU _) rfl .nil))))
theorem Sk {H:List Blk} (x:ac):j9 H (cR true x) (cR false x):= .cons (.int _ _) rfl (.cons (.int _ _) rfl (.cons (jU _) rfl (.cons (.bool _) rfl (.cons (.int _ _) rfl .nil))))
theorem Si {H:List Blk} (x:sp):j9 H (Dr true x) (Dr false x):= .cons (.int _ _) rfl (.cons (.bool _) rfl (.cons (jU _) rfl (.cons (jU _) rfl (.cons (jU _) rfl .nil))))
theorem Qy {H:List Blk} {α:Type} {eT eF:α→List AV} {b g sz:Nat} {full:Bool} {xs ys:List α} (hb:H[b]?=some ⟨g,sz,List.map eT xs⟩) (hc: ∀x,j9 H (eT x) (eF x)) (h:xs.length≤4611686018427387904∧xs=ys):
  ft H (.ref b g 0 xs.length full) (.aV (List.map eF ys) false true):=h.2▸acO hb h.1 hc
theorem adY {H:List Blk} {α:Type} {e:α→List AV} {ys:List α} {full fr:Bool} (h:[]=ys):ft H (.aV [] full fr) (.aV (List.map e ys) false true):=h▸ .F4 _ _ _ (fun h=>by cases h)
theorem adX {H:List Blk} {α:Type} {e:α→List AV} {xs ys:List α} {full:Bool} (h:xs=ys):ft H (.aV (List.map e xs) full true) (.aV (List.map e ys) false true):=h▸ .aV _ _ _ (fun h=>by cases h)
theorem Qz {H:List Blk} {k:IntKind} {a b:Int} (h:a=b):ft H (.int k a) (.int k b):=h▸ .int k a
theorem tS {H:List Blk} {a b:Bool} (h:a=b):ft H (.bool a) (.bool b):=h▸ .bool a
theorem adZ {H:List Blk} {a b:ByteArray} (h:a=b):ft H (.str a) (.str b):=h▸ .str a
theorem gq {L:List (Nat×List AV)} {H:List Blk} {rows:List (List AV)} {full fr:Bool}:fF L H (.aV rows full fr) (.aV rows false false):= .aV _ _ _ _ (fun h=>by cases h)
def nw (L:List (Nat×List AV)) (H:List Blk) (c d:List AV):Prop:=c.length=d.length∧ ∀(j:Nat) (a b:AV),c[j]?=some a→d[j]?=some b→fF L H a b
theorem O5 {L:List (Nat×List AV)} {H:List Blk} {α:Type} {eT eF:α→List AV} {b g sz:Nat} {full:Bool} {xs:List α} (hb:H[b]?=some ⟨g,sz,List.map eT xs⟩) (hc: ∀x,nw L H (eT x) (eF x)) (ao:xs.length≤4611686018427387904):
  fF L H (.ref b g 0 xs.length full) (.aV (List.map eF xs) false false):=by
 refine fF.ref (fun h=>by cases h) hb rfl (by rw[List.length_map]) ao (by simp) (fun i row row' h1 h2=> ?_) (fun i j row row' a c h1 h2 aM bx=> ?_)
 ·have h1:(List.map eT xs)[0+i]?=some row:=h1
  rw[Nat.zero_add,List.getElem?_map] at h1
  rw[List.getElem?_map] at h2
  cases hx:xs[i]? with
  | none=>rw[hx] at h1;cases h1
  | some x=>rw[hx] at h1 h2;cases h1;cases h2;exact(hc x).1
 ·have h1:(List.map eT xs)[0+i]?=some row:=h1
  rw[Nat.zero_add,List.getElem?_map] at h1
  rw[List.getElem?_map] at h2
  cases hx:xs[i]? with
  | none=>rw[hx] at h1;cases h1
  | some x=>rw[hx] at h1 h2;cases h1;cases h2;exact(hc x).2 j a c aM bx
theorem nw.nil {L:List (Nat×List AV)} {H:List Blk}:nw L H [] []:=⟨rfl,fun j a b h=>by simp at h⟩
theorem nw.cons {L:List (Nat×List AV)} {H:List Blk} {a b:AV} {c d:List AV} (h1:fF L H a b) (h:nw L H c d):nw L H (a::c) (b::d):=
 ⟨by simp[h.1],fun j x y hx ba=>by
  cases j with
  | zero=>simp at hx ba;subst hx;subst ba;exact h1
  | succ j=>exact h.2 j x y (by simpa using hx) (by simpa using ba)⟩
section
variable {L:List (Nat×List AV)} {H:List Blk}
theorem AM (b:Bool):nw L H (a7 b) (a7 b):= .cons (.bool _) .nil
theorem E5 (x:cJ):nw L H (bH x) (bH x):= .cons (.int _ _) (.cons (.int _ _) .nil)
end
def dS {α:Type} (F:(α→Prop)→Prop):Prop:= ∀K,F K→ ∃r,K r∧F (fun x=>x=r)
theorem dS.ret {α:Type} (r:α):dS fun K=>K r:=fun K h=>⟨r,h,rfl⟩
theorem dS.no {α:Type}:dS (α:=α) fun _=>False:=fun K h=>h.elim
theorem dS.and {α:Type} {φ:Prop} {F:(α→Prop)→Prop} (h:dS F):dS fun K=>φ∧F K:=fun K ⟨ai,hf⟩=>by
 obtain⟨r,h1,h2⟩:=h K hf
 exact⟨r,h1,ai,h2⟩
theorem dS.RP {α:Type} {φ:Prop} {F:(α→Prop)→Prop} (h:φ→dS F):dS fun K=>φ∧F K:=fun K ⟨ai,hf⟩=>by
 obtain⟨r,h1,h2⟩:=h ai K hf
 exact⟨r,h1,ai,h2⟩
theorem dS.bind {α β:Type} {o:Option β} {F:β→(α→Prop)→Prop} (h: ∀b,dS (F b)):dS fun K=>cM o fun b=>F b K:=fun K hf=>by
 cases o with
 | none=>exact hf.elim
 | some b=>exact h b K hf
theorem dS.ite {α:Type} {c:Prop} [Decidable c] {F G:(α→Prop)→Prop} (h:dS F) (k:dS G):dS fun K=>if c then F K else G K:=by
 intro K hf
 by_cases hc:c
 ·rw[if_pos hc] at hf
  obtain⟨r,h1,h2⟩:=h K hf
  exact⟨r,h1,by show if c then _ else _;rw[if_pos hc];exact h2⟩
 ·rw[if_neg hc] at hf
  obtain⟨r,h1,h2⟩:=k K hf
  exact⟨r,h1,by show if c then _ else _;rw[if_neg hc];exact h2⟩
theorem dS.eu {α:Type} {b:Bool} {F:(α→Prop)→Prop} (h:dS F):dS fun K=>eu b (F K):=by
 cases b with
 | true=>exact h
 | false=>exact dS.no
theorem HS {P:Program} {t:TypeId} {cells:List AV} {c:Nat}:dS (ix P t cells c):=by
 unfold ix
 exact .ite (.ite (.ite (.ret _) .no) (.bind fun _=> .ret _)) .no
theorem Zt {P:Program} {t:TypeId} {x:AV} {L:List (Nat×List AV)} {H:List Blk}:dS (nN P t x L H):=by
 cases x with
 | e7 s c=>exact .bind fun _=>HS
 | ptr b g r c=>exact .bind fun _=> .and (.bind fun _=>HS)
 | da cells c=>exact HS
 | _=>exact .no
theorem aao {x:AV}:dS (Gd x):=by
 cases x<;>first | exact .no | exact .ret _
theorem R3 {op:BinOp} {k:IntKind} {a b:Int}:dS (zs op k a b):=by
 cases op<;>first | exact .no | exact .ret _ | exact .and (.ret _)
theorem R2 {op:BinOp} {k iM:IntKind} {a b:Int}:dS (zt op k a iM b):=by
 cases op<;>first | exact .and (.ret _) | exact .ite R3 .no
def wY (x:AV):Bool:=match x with
 | .aV _ _ _=>false
 | _=>true
theorem R4 {P:Program} {op:BinOp} {t:TypeId} {x y:AV} {rb:Bool} (hx:wY x=true):dS (rl P op t x y rb):=by
 cases x with
 | int k a=>cases y<;>first | exact .no | exact R2
 | bool a=>
  cases y with
  | bool b=>exact .ite (by cases op<;>first | exact .no | exact .ret _) .no
  | _=>exact .no
 | str a=>
  cases y with
  | str b=>
   show dS (CL op a b)
   cases op<;>first | exact .no | exact .ret _ | exact .and (.ret _)
  | _=>exact .no
 | agg l=>
  cases y with
  | agg m=>exact .ite (.bind fun p=> .bind fun q=>by
    show dS (CM op p.1 p.2 q.1 q.2)
    cases op<;>first | exact .no | exact .ret _) .no
  | _=>exact .no
 | aV rows de fr=>cases hx
 | _=>exact .no
theorem aej {op:UnOp} {x:AV}:dS (Ca op x):=by
 cases op<;>cases x<;>first | exact .no | exact .ret _
theorem S9 {P:Program} {s d:TypeId} {x:AV}:dS (Dk P s d x):=by
 cases x with
 | int k n=>exact .bind fun _=> .bind fun _=> .ret _
 | _=>exact .no
theorem TD {P:Program} {t:TypeId} {x:AV} {f:Nat}:dS (DL P t x f):=by
 refine .bind fun fd=> .ite ?_ .no
 cases x<;>first | exact .no | exact .ret _
theorem WB {P:Program} {t:TypeId} {x i:AV} {H:List Blk}:dS (vm P t x i H):=by
 refine .bind fun e=> .ite ?_ .no
 cases i with
 | int k n=>
  cases x with
  | aV rows de fr=>exact .and (.bind fun _=> .and (.ret _))
  | ref b g off m de=>exact .bind fun _=> .and (.and (.and (.and (.ret _))))
  | _=>exact .no
 | _=>exact .no
theorem WL {P:Program} {t:TypeId} {x i:AV}:dS (E6 P t x i):=by
 cases x with
 | str s=>
  cases i with
  | int k n=>
   show dS fun K:AV→Prop=>(match P.underlying t with
   | some .string=>0≤n∧n<s.size∧K (.int .u8 (s.data.getD n.toNat 0).toNat)
   | _=>False)
   split
   ·exact .and (.and (.ret _))
   ·exact .no
  | _=>exact .no
 | _=>exact .no
theorem uC {α:Type} {x:Option AV} {d:Nat} {F:Nat→(α→Prop)→Prop} (h: ∀n,dS (F n)):dS fun K=>lf x d fun n=>F n K:=by
 cases x with
 | none=>exact h d
 | some a=>
  cases a with
  | int k n=>exact .and (h _)
  | _=>exact .no
theorem acg {P:Program} {t:TypeId} {x:AV} {lo hi:Option AV} {H:List Blk}:dS (tR P t x lo hi H):=by
 cases x with
 | str s=>
  show dS fun K:AV→Prop=>(match P.underlying t with
   | some .string=>lf lo 0 fun l=>lf hi s.size fun h=>l≤h∧h≤s.size∧K (.str (s.extract l h))
   | _=>False)
  split
  ·exact uC fun l=>uC fun h=> .and (.and (.ret _))
  ·exact .no
 | aV rows de fr=>exact .bind fun e=> .ite (uC fun l=>uC fun h=> .and (.and (.and (.ret _)))) .no
 | ref b g off n de=>
  refine .bind fun e=> .ite (.bind fun blk=> .and (.and (uC fun l=>uC fun h=> .RP fun hle=> .and ?_))) .no
  intro K ⟨h1,h2⟩
  rcases Nat.lt_trichotomy l h with aX | Vw | nJ
  ·exact⟨_,h1 aX,fun _=>rfl,fun e=>absurd e (by omega)⟩
  ·exact⟨_,h2 Vw,fun e=>absurd e (by omega),fun _=>rfl⟩
  ·omega
 | _=>exact .no
theorem Ty {x:AV} {i:Nat}:dS (DH x i):=by
 cases x with
 | tup l=>exact .bind fun _=> .ret _
 | _=>exact .no
theorem Z6 {fn:Fn} {first:Array Operand} {caps:List AV}:dS (x5 fn first caps):=by
 cases fn with
 | func f=>exact .ite (.ret _) .no
 | _=>exact .no
theorem Sg {P:Program} {t:TypeId} {parts:List (Nat×AV)}:dS (CP P t parts):= .bind fun _=> .bind fun _=> .bind fun _=> .ret _
theorem Se {P:Program} {t:TypeId} {n:Nat} {parts:List (Nat×AV)}:dS (uF P t n parts):= .bind fun _=> .bind fun _=> .ite (.bind fun _=> .ite (.ret _) .no) .no
def qK (x:AV) (K:AV→Prop):Prop:=match x with
 | .aV rows _ _=>K (.int .i64 rows.length)
 | .str s=>K (.int .i64 s.size)
 | .ref _ _ _ n _=>K (.int .i64 n)
 | _=>False
theorem Zz {x:AV}:dS (qK x):=by
 cases x<;>first | exact .no | exact .ret _
theorem ZA {x:AV} {K:AV→Prop} (h:qK x K):qJ x K:=by
 cases x<;>first | exact h | exact fun _=>h
theorem SA {P:Program} {f:FuncId} {args:List AV} {L:List (Nat×List AV)} {H:List Blk}:dS (nD P f args L H):=fun K ⟨ao,dH,t,h1,h2,aM⟩=>⟨t,aM,ao,dH,t,h1,h2,rfl⟩
def Tt (P:Program) (c:Call) (bF:Operand→AV) (L:List (Nat×List AV)) (H:List Blk) (K:AV→Prop):Prop:=match c.callee with
 | .builtin .len=>(match c.args.toList,c.argTypes.toList with
  | [x],[t]=>eu (jd P t (bF x)) (qK (bF x) K)
  | _,_=>False)
 | .value f=>kW (bF f) fun g caps=>nD P g (c.args.toList.map bF++caps) L H K
 | _=>False
def i_ (P:Program) (o:Oper) (bF:Operand→AV) (L:List (Nat×List AV)) (H:List Blk) (K:AV→Prop):Prop:=match o.op with
 | .call c=>Tt P c bF L H K
 | .pick c x y=>nC (bF c) fun z=>oa true z (K (bF x)) (K (bF y))
 | .binOp op t x y _=>eu (wY (bF x)) (rl P op t (bF x) (bF y) (pz y) K)
 | _=>ru P o bF L H K
theorem zV {P:Program} {o:Oper} {bF:Operand→AV} {L:List (Nat×List AV)} {H:List Blk} {K:AV→Prop} (h:i_ P o bF L H K):ru P o bF L H K:=by
 obtain⟨dst,op,ty,pos,after,guard⟩:=o
 cases op with
 | call c=>
  obtain⟨callee,args,argTypes⟩:=c
  cases callee with
  | builtin b=>
   cases b with
   | len=>
    have h:(match args.toList,argTypes.toList with
     | [x],[t]=>eu (jd P t (bF x)) (qK (bF x) K)
     | _,_=>False):=h
    show(match args.toList,argTypes.toList with
     | [x],[t]=>eu (jd P t (bF x)) (qJ (bF x) K)
     | _,_=>False)
    split at h
    ·obtain⟨h1,h2⟩:=oI h
     simp only[h1];exact ZA h2
    ·exact h.elim
   | _=>exact h.elim
  | value f=>exact h
  | _=>exact h.elim
 | binOp op t x y ty2=>exact(oI (show eu (wY (bF x)) (rl P op t (bF x) (bF y) (pz y) K) from h)).2
 | pick c x y=>
  obtain⟨b,hb,hw⟩:=zo (show nC (bF c) fun z=>oa true z (K (bF x)) (K (bF y)) from h)
  show nC (bF c) fun z=>wW z (K (bF x)) (K (bF y))
  rw[hb];exact zx hw
 | _=>exact h
theorem R1 {α:Type} {z:Bool} {x y:α}:dS fun K=>oa true z (K x) (K y):=by
 cases z with
 | true=>exact .ret x
 | false=>exact .ret y
theorem RV {α:Type} {v:AV} {F:Bool→(α→Prop)→Prop} (h: ∀b,dS (F b)):dS fun K=>nC v fun b=>F b K:=by
 cases v with
 | bool b=>exact h b
 | _=>exact .no
theorem Tw {P:Program} {o:Oper} {bF:Operand→AV} {L:List (Nat×List AV)} {H:List Blk}:dS (i_ P o bF L H):=by
 obtain⟨dst,op,ty,pos,after,guard⟩:=o
 cases op with
 | move x=>exact .ret _
 | assign x=>exact .ret _
 | pick c x y=>exact RV fun z=>R1
 | build t ps=>exact .eu Sg
 | buildSlice t n ps=>exact .eu Se
 | load t a=>exact Zt
 | nilCheck x=>exact aao
 | binOp op t x y ty2=>
  show dS fun K=>eu (wY (bF x)) (rl P op t (bF x) (bF y) (pz y) K)
  cases hb:wY (bF x) with
  | true=>exact R4 hb
  | false=>exact .no
 | unOp op t x=>exact aej
 | convert s d x=>exact S9
 | makeFunc fn first caps=>exact Z6
 | fieldAddr t x f=>exact TD
 | indexAddr t x i=>exact WB
 | index t x i=>exact WL
 | slice t x lo hi mx=>
  cases mx with
  | none=>exact acg
  | some m=>exact .no
 | extract x i=>exact Ty
 | call c=>
  obtain⟨callee,args,argTypes⟩:=c
  cases callee with
  | builtin b=>
   cases b with
   | len=>
    show dS fun K=>(match args.toList,argTypes.toList with
     | [x],[t]=>eu (jd P t (bF x)) (qK (bF x) K)
     | _,_=>False)
    split
    ·exact .eu Zz
    ·exact .no
   | _=>exact .no
  | value f=>
   show dS fun K=>kW (bF f) fun g caps=>nD P g (args.toList.map bF++caps) L H K
   cases bF f with
   | fn g caps=>exact SA
   | _=>exact .no
  | _=>exact .no
 | _=>exact .no
structure Item where
 i:Nat
 lit:Bool
 q:Bool
 iF:List Nat
def Ia:AV→AV→Bool
 | .int k n,.int iM iO=>decide (k=iM)&&decide (n=iO)
 | .bool b,.bool bT=>b==bT
 | .aV [] f g,.aV [] zY c8=>f==zY&&g==c8
 | .fI,.fI=>true
 | _,_=>false
def Cg:List AV→List AV→Bool
 | [],[]=>true
 | a::l,b::m=>Ia a b&&Cg l m
 | _,_=>false
theorem aeR {a b:AV} (h:Ia a b=true):a=b:=by
 unfold Ia at h
 split at h
 ·simp only[Bool.and_eq_true,decide_eq_true_eq] at h;rw[h.1,h.2]
 ·rw[eq_of_beq h]
 ·simp only[Bool.and_eq_true] at h;rw[eq_of_beq h.1,eq_of_beq h.2]
 ·rfl
 ·cases h
theorem Rf: ∀{l m:List AV},Cg l m=true→l=m
 | [],[],_=>rfl
 | [],_::_,h=>by cases h
 | _::_,[],h=>by cases h
 | a::l,b::m,h=>by
  simp only[Cg,Bool.and_eq_true] at h
  rw[aeR h.1,Rf h.2]
def oF (o:Oper):Bool:=match o.op with
 | .alloc _=>true
 | _=>false
def Iu (P:Program) (e:TypeId) (dst:Option Nat) (L:List (Nat×List AV)) (K:AV→Prop):Prop:=cM (ma P e) fun z=>cM dst fun t=>cM (dZ L t) fun c=>eu (z.all iS) (eu (Cg c z) (K (.e7 t 0)))
def kx (P:Program) (o:Oper) (bF:Operand→AV) (L:List (Nat×List AV)) (H:List Blk) (K:AV→Prop):Prop:=match o.op with
 | .alloc e=>Iu P e o.dst L K
 | _=>i_ P o bF L H K
theorem uP {P:Program} {o:Oper} {bF:Operand→AV} {L:List (Nat×List AV)} {H:List Blk} {K:AV→Prop} (h:oF o=false):kx P o bF L H K=i_ P o bF L H K:=by
 obtain⟨dst,op,ty,pos,after,guard⟩:=o
 cases op<;>first | rfl | cases h
theorem Tv {P:Program} {o:Oper} {bF:Operand→AV} {L:List (Nat×List AV)} {H:List Blk}:dS (kx P o bF L H):=by
 cases h:oF o with
 | false=>intro K hk;rw[uP h] at hk;obtain⟨r,h1,h2⟩:=Tw K hk;exact⟨r,h1,by rw[uP h];exact h2⟩
 | true=>
  obtain⟨dst,op,ty,pos,after,guard⟩:=o
  cases op
  case alloc e=>exact dS.bind fun _=> .bind fun _=> .bind fun _=> .eu (.eu (.ret _))
  all_goals cases h
def opI (ops:Array Oper) (i:Nat):Oper:=ops.getD i default
def rq (o:Oper) (T:List AV):AV:=match o.dst with
 | some d=>T.getD d .undef
 | none=> .undef
def qd (P:Program) (ops:Array Oper):List Nat→List AV→List (Nat×List AV)→List Blk→Prop
 | [],_,_,_=>True
 | i::r,T,L,H=>((opI ops i).guard.isNone=true∧(opI ops i).dst.isSome=true∧kx P (opI ops i) (cb T) L H (fun v=>v=rq (opI ops i) T))∧qd P ops r T L H
theorem JR {P:Program} {ops:Array Oper} {T:List AV} {L:List (Nat×List AV)} {H:List Blk}: ∀{iF:List Nat},qd P ops iF T L H→ ∀i∈iF,(opI ops i).guard.isNone=true∧(opI ops i).dst.isSome=true∧kx P (opI ops i) (cb T) L H (fun v=>v=rq (opI ops i) T)
 | [],_,i,hi=>by cases hi
 | j::r,h,i,hi=>by
  rcases List.mem_cons.1 hi with rfl | hi
  ·exact h.1
  ·exact JR h.2 i hi
def jr (P:Program) (esc:List Nat) (ops:Array Oper):List Item→List AV→List (Nat×List AV)→List Blk→(List AV→List (Nat×List AV)→List Blk→Prop)→Prop
 | [],T,L,H,K=>K T L H
 | x::rest,T,L,H,K=>m0 ops x.lit (opI ops x.i) T
   (fun T=>match x.q with
    | true=>kx P (opI ops x.i) (cb T) L H fun v=>jr P esc ops rest (putA T (opI ops x.i).dst v) L H K
    | false=>jq P esc (opI ops x.i) (cb T) L H fun v L' H'=>qd P ops x.iF T L' H'∧jr P esc ops rest (putA T (opI ops x.i).dst v) L' H' K)
   (fun T=>jr P esc ops rest (putA T (opI ops x.i).dst (.tup [])) L H K)
theorem JB {P:Program} {o:Oper} {bF fB:Operand→AV} {L:List (Nat×List AV)} {H:List Blk} {K:AV→Prop} (h: ∀x∈o.op.operands,bF x=fB x):ru P o bF L H K=ru P o fB L H K:=by
 obtain⟨dst,op,ty,pos,after,guard⟩:=o
 have N3: ∀ps:Array (Nat×Operand),(∀x∈ps.map (·.2),bF x=fB x)→(ps.toList.map fun p=>(p.1,bF p.2))=(ps.toList.map fun p=>(p.1,fB p.2)):=fun ps ai=>
  List.map_congr_left fun p hm=>by rw[ai p.2 (Array.mem_map.2 ⟨p,by simpa using hm,rfl⟩)]
 have Iy: ∀ps:Array (Nat×Operand),(∀x∈ps.map (·.2),bF x=fB x)→(ps.toList.all fun p=>et (bF p.2))=(ps.toList.all fun p=>et (fB p.2)):=fun ps ai=>by
  rw[Bool.eq_iff_iff,List.all_eq_true,List.all_eq_true]
  constructor<;>intro q p hm
  ·rw[←ai p.2 (Array.mem_map.2 ⟨p,by simpa using hm,rfl⟩)];exact q p hm
  ·rw[ai p.2 (Array.mem_map.2 ⟨p,by simpa using hm,rfl⟩)];exact q p hm
 have aV: ∀xs:Array Operand,(∀x∈xs,bF x=fB x)→xs.toList.map bF=xs.toList.map fB:=fun xs hx=>List.map_congr_left fun p hm=>hx p (by simpa using hm)
 cases op<;>simp only[Op.operands] at h
 case build t ps=>
  show eu _ _=eu _ _
  rw[N3 ps fun x hx=>h x (by simpa using hx),Iy ps fun x hx=>h x (by simpa using hx)]
 case buildSlice t n ps=>
  show eu _ _=eu _ _
  rw[N3 ps fun x hx=>h x (by simpa using hx),Iy ps fun x hx=>h x (by simpa using hx)]
 case makeFunc fn first caps=>
  show x5 fn first (caps.toList.map bF) K=x5 fn first (caps.toList.map fB) K
  rw[aV caps fun x hx=>h x (by simp[hx])]
 case slice t x lo hi mx=>
  cases mx with
  | some m=>rfl
  | none=>
   show tR P t (bF x) (lo.map bF) (hi.map bF) H K=tR P t (fB x) (lo.map fB) (hi.map fB) H K
   cases lo<;>cases hi<;>simp_all
 case call c=>
  obtain⟨callee,args,argTypes⟩:=c
  have aF: ∀x∈args,bF x=fB x:=fun x hx=>h x (by simp[Call.operands,hx])
  cases callee with
  | builtin b=>
   cases b with
   | len=>
    show(match args.toList,argTypes.toList with
     | [x],[t]=>eu (jd P t (bF x)) (qJ (bF x) K)
     | _,_=>False)=(match args.toList,argTypes.toList with
     | [x],[t]=>eu (jd P t (fB x)) (qJ (fB x) K)
     | _,_=>False)
    split
    ·rename_i x t h1 h2
     rw[aF x (by rw[←Array.mem_toList_iff,h1];simp)]
    ·rfl
   | _=>rfl
  | value f=>
   have hf:bF f=fB f:=h f (by simp[Call.operands])
   show kW (bF f) _=kW (fB f) _
   rw[hf,aV args aF]
  | invoke r m=>rfl
 all_goals (first | rfl | (simp only[ru];simp_all;done))
theorem JA {P:Program} {o:Oper} {bF fB:Operand→AV} {L:List (Nat×List AV)} {H:List Blk} {K:AV→Prop} (h: ∀x∈o.op.operands,bF x=fB x):i_ P o bF L H K=i_ P o fB L H K:=by
 have hv:=fun K=>JB (P:=P) (L:=L) (H:=H) (K:=K) h
 obtain⟨dst,op,ty,pos,after,guard⟩:=o
 cases op
 case call c=>
  simp only[Op.operands] at h
  obtain⟨callee,args,argTypes⟩:=c
  have aF: ∀x∈args,bF x=fB x:=fun x hx=>h x (by simp[Call.operands,hx])
  cases callee with
  | builtin b=>
   cases b with
   | len=>
    show(match args.toList,argTypes.toList with
     | [x],[t]=>eu (jd P t (bF x)) (qK (bF x) K)
     | _,_=>False)=(match args.toList,argTypes.toList with
     | [x],[t]=>eu (jd P t (fB x)) (qK (fB x) K)
     | _,_=>False)
    split
    ·rename_i x t h1 h2
     rw[aF x (by rw[←Array.mem_toList_iff,h1];simp)]
    ·rfl
   | _=>rfl
  | value f=>exact hv K
  | invoke r m=>rfl
 case pick c x y=>simp only[Op.operands] at h;simp only[i_];simp_all
 case binOp op t x y ty2=>simp only[Op.operands] at h;simp only[i_];simp_all
 all_goals exact hv K
theorem Jw {P:Program} {o:Oper} {bF fB:Operand→AV} {L:List (Nat×List AV)} {H:List Blk} {K:AV→Prop} (h: ∀x∈o.op.operands,bF x=fB x):kx P o bF L H K=kx P o fB L H K:=by
 cases aF:oF o with
 | false=>rw[uP aF,uP aF];exact JA h
 | true=>
  obtain⟨dst,op,ty,pos,after,guard⟩:=o
  cases op
  case alloc e=>rfl
  all_goals cases aF
theorem Tu {P:Program} {esc:List Nat} {o:Oper} {bF fB:Operand→AV} {L:List (Nat×List AV)} {H:List Blk} {K:AV→List (Nat×List AV)→List Blk→Prop} (h: ∀x∈o.op.operands,bF x=fB x):jq P esc o bF L H K=jq P esc o fB L H K:=by
 have hv:=fun K=>JB (P:=P) (L:=L) (H:=H) (K:=K) h
 obtain⟨dst,op,ty,pos,after,guard⟩:=o
 cases op
 case call c=>
  obtain⟨callee,args,argTypes⟩:=c
  have h':=h
  simp only[Op.operands] at h
  have aF: ∀x∈args,bF x=fB x:=fun x hx=>h x (by simp[Call.operands,hx])
  cases callee with
  | builtin b=>
   cases b with
   | len=>exact hv fun r=>K r L H
   | append=>
    show(match args.toList,argTypes.toList with
     | [s,x],[t,t2]=>et (bF s)=true∧et (bF x)=true∧sA P t t2 (bF s) (bF x) L H K
     | _,_=>False)=(match args.toList,argTypes.toList with
     | [s,x],[t,t2]=>et (fB s)=true∧et (fB x)=true∧sA P t t2 (fB s) (fB x) L H K
     | _,_=>False)
    split
    ·rename_i s x t t2 h1 h2
     rw[aF x (by rw[←Array.mem_toList_iff,h1];simp),aF s (by rw[←Array.mem_toList_iff,h1];simp)]
    ·rfl
   | _=>rfl
  | value f=>
   have hf:bF f=fB f:=h f (by simp[Call.operands])
   show kW (bF f) _=kW (fB f) _
   rw[hf,List.map_congr_left fun p hm=>aF p (by simpa using hm)]
  | invoke r m=>rfl
 case alloc e=>rfl
 case buildSlice t n ps=>
  simp only[Op.operands] at h
  have h: ∀x∈ps.map (·.2),bF x=fB x:=fun x hx=>h x (by simpa using hx)
  have aR:(ps.toList.map fun p=>(p.1,bF p.2))=(ps.toList.map fun p=>(p.1,fB p.2)):=
   List.map_congr_left fun p hm=>by rw[h p.2 (Array.mem_map.2 ⟨p,by simpa using hm,rfl⟩)]
  have e2:(ps.toList.all fun p=>et (bF p.2))=(ps.toList.all fun p=>et (fB p.2)):=by
   rw[Bool.eq_iff_iff,List.all_eq_true,List.all_eq_true]
   constructor<;>intro q p hm
   ·rw[←h p.2 (Array.mem_map.2 ⟨p,by simpa using hm,rfl⟩)];exact q p hm
   ·rw[h p.2 (Array.mem_map.2 ⟨p,by simpa using hm,rfl⟩)];exact q p hm
  show eu _ (sF P (sK esc dst) (tL esc) t n _ L H K)=eu _ (sF P (sK esc dst) (tL esc) t n _ L H K)
  rw[aR,e2]
 case store t x y=>simp only[Op.operands] at h;simp only[jq];simp_all
 case box e x=>simp only[Op.operands] at h;simp only[jq];simp_all
 case makeSlice t l c=>simp only[Op.operands] at h;simp only[jq];simp_all
 all_goals exact hv fun r=>K r L H
structure uf (P:Program) (ops:Array Oper) (L:List (Nat×List AV)) (H:List Blk) (T:List AV) (o:Oper) (v:AV) (run:Bool):Prop where
 cz: ∀(E:Env) (a:Act),(∀t∈o.looksAt ops,V3 E (T.getD t .undef) (a.tmps.getD t undef))→T.length=a.tmps.size→Region.wanted o (yielded ops a.tmps)=run
 p0:run=true→kx P o (cb T) L H (fun r=>r=v)
 no:run=false→v= .tup []
 put: ∀d,o.dst=some d→d<T.length→T.getD d .undef=v
theorem ZT {ops:Array Oper} {o:Oper} {t:Nat} (h: .tmp t∈o.op.operands):t∈o.looksAt ops:=
 List.mem_append_left _ (List.mem_filterMap.2 ⟨.tmp t,by simpa using h,rfl⟩)
theorem ZS {ops:Array Oper} {o:Oper} {j t:Nat} {b:Bool} (aQ:o.guard=some (j,b)) (bn:(ops[j]?).bind (·.dst)=some t):t∈o.looksAt ops:=by
 refine List.mem_append_right _ ?_
 rw[aQ];simp[bn]
theorem Bi {ops:Array Oper} {o:Oper} {T T':List AV} (h: ∀t∈o.looksAt ops,T.getD t .undef=T'.getD t .undef): ∀x∈o.op.operands,cb T x=cb T' x:=fun x hx=>by
 cases x with
 | tmp t=>exact h t (ZT hx)
 | _=>rfl
theorem uf.mono {P:Program} {ops:Array Oper} {L:List (Nat×List AV)} {H:List Blk} {T T':List AV} {o:Oper} {v:AV} {run:Bool} (h:uf P ops L H T o v run) (aE:T'.length=T.length)
  (aF: ∀t∈o.looksAt ops,T'.getD t .undef=T.getD t .undef) (aZ: ∀d,o.dst=some d→T'.getD d .undef=T.getD d .undef):uf P ops L H T' o v run where
 cz:=fun E a hs aH=>h.cz E a (fun t bn=>by rw[←aF t bn];exact hs t bn) (by rw[←aE];exact aH)
 p0:=fun av=>by
  rw[Jw (Bi aF)]
  exact h.p0 av
 no:=h.no
 put:=fun d rC aX=>by rw[aZ d rC];exact h.put d rC (by rw[←aE];exact aX)
theorem J4 {P:Program} {ops:Array Oper} {lit:Bool} {o:Oper} {T:List AV} {x y:List AV→Prop} (h:m0 ops lit o T x y):
  ∃T' run,T'.length=T.length∧(∀t,T'.getD t .undef=T.getD t .undef)∧(∀(E:Env) (a:Act),(∀t∈o.looksAt ops,V3 E (T.getD t .undef) (a.tmps.getD t undef))→T.length=a.tmps.size→Region.wanted o (yielded ops a.tmps)=run)∧(if run=true then x T' else y T'):=by
 unfold m0 at h
 cases aQ:o.guard with
 | none=>rw[aQ] at h;exact⟨T,true,rfl,fun _=>rfl,fun E a _ _=>by simp[Region.wanted,aQ],h⟩
 | some g=>
  obtain⟨j,cz⟩:=g
  rw[aQ] at h
  simp only at h
  cases ap:(ops[j]?).bind (·.dst) with
  | none=>rw[ap] at h;exact h.elim
  | some t=>
   rw[ap] at h
   simp only at h
   have Az:t∈o.looksAt ops:=ZS aQ ap
   have qx: ∀b,T.getD t .undef= .bool b→ ∀s,(T.set t (.bool b)).getD s .undef=T.getD s .undef:=fun b hb s=>by
    rw[qf]
    by_cases hs:t=s∧t<T.length
    ·rw[if_pos hs,←hs.1,hb]
    ·rw[if_neg hs]
   split at h
   ·rename_i b hb
    obtain⟨h1,h2⟩:=zx h
    have hw: ∀(E:Env) (a:Act),(∀t∈o.looksAt ops,V3 E (T.getD t .undef) (a.tmps.getD t undef))→T.length=a.tmps.size→Region.wanted o (yielded ops a.tmps)=(b==cz):=fun E a hs aH=>by
     have hv:=hs t Az
     rw[hb] at hv
     have he:a.tmps.getD t undef= .bool b:=V3.mS hv
     have ba:yielded ops a.tmps j=some b:=by
      unfold yielded
      rw[ap]
      rw[Array.getD_eq_getD_getElem?] at he
      cases af:a.tmps[t]? with
      | none=>rw[af] at he;cases he
      | some x=>rw[af] at he;have:x= .bool b:=he;subst this;simp[af]
     simp[Region.wanted,aQ,ba]
    cases b with
    | true=>refine⟨_,_,by simp,qx true hb,hw,?_⟩;have:=h1 rfl;cases cz<;>exact this
    | false=>refine⟨_,_,by simp,qx false hb,hw,?_⟩;have:=h2 rfl;cases cz<;>exact this
   ·rename_i hb
    refine⟨T,false,rfl,fun _=>rfl,fun E a hs aH=> ?_,h⟩
    have hv:=hs t Az
    rw[hb] at hv
    obtain⟨vs,he,ai⟩:=(show ∃vs:List Value,a.tmps.getD t undef= .tuple vs.toArray∧aO (V2 E) [] vs from hv)
    obtain rfl:=ai.lZ
    have ba:yielded ops a.tmps j=none:=by
     unfold yielded
     rw[ap]
     rw[Array.getD_eq_getD_getElem?] at he
     cases af:a.tmps[t]? with
     | none=>simp[af]
     | some x=>rw[af] at he;have:x= .tuple #[]:=he;subst this;simp[af]
    simp[Region.wanted,aQ,ba]
   ·exact h.elim
theorem vO (T:List AV) (d:Option Nat) (v:AV):(putA T d v).length=T.length:=by
 cases d<;>simp[putA]
theorem Br {T:List AV} {d:Option Nat} {v:AV} {t:Nat} (h:d≠some t):(putA T d v).getD t .undef=T.getD t .undef:=by
 cases d with
 | none=>rfl
 | some s=>
  show(T.set s v).getD t .undef=_
  rw[qf,if_neg]
  rintro⟨rfl,_⟩;exact h rfl
theorem Oi {T:List AV} {d:Nat} {v:AV} (h:d<T.length):(putA T (some d) v).getD d .undef=v:=by
 show(T.set d v).getD d .undef=v
 rw[qf,if_pos ⟨rfl,h⟩]
def kM (ops:Array Oper):List Item→Prop
 | []=>True
 | x::r=>(∀t∈(opI ops x.i).looksAt ops,∀y∈x::r,(opI ops y.i).dst≠some t)∧(∀d,(opI ops x.i).dst=some d→ ∀y∈r,(opI ops y.i).dst≠some d)∧kM ops r
theorem G0 {P:Program} {esc:List Nat} {ops:Array Oper} {L:List (Nat×List AV)} {H:List Blk} {K:List AV→List (Nat×List AV)→List Blk→Prop}: ∀(l:List Item) (T:List AV),kM ops l→jr P esc ops l T L H K→
  ∃pre post nx,l=pre++post∧(∀x∈pre,x.q=true)∧(∀x r,post=x::r→x.q=false)∧jr P esc ops post nx L H K∧nx.length=T.length∧
   (∀t,(∀x∈pre,(opI ops x.i).dst≠some t)→nx.getD t .undef=T.getD t .undef)∧ ∀x∈pre,∃v run,uf P ops L H nx (opI ops x.i) v run
 | [],T,_,h=>⟨[],[],T,rfl,fun x hx=>(by cases hx),fun x r e=>(by cases e),h,rfl,fun _ _=>rfl,fun x hx=>(by cases hx)⟩
 | x::r,T,bc,h=>by
  cases af:x.q with
  | false=>exact⟨[],x::r,T,rfl,fun x hx=>(by cases hx),fun y BB e=>(by cases e;exact af),h,rfl,fun _ _=>rfl,fun x hx=>(by cases hx)⟩
  | true=>
   obtain⟨ld,run,oy,k2,hw,fx⟩:=J4 (P:=P) h
   obtain⟨IA,RQ,RR⟩:=bc
   have key: ∃v,jr P esc ops r (putA ld (opI ops x.i).dst v) L H K∧(run=true→kx P (opI ops x.i) (cb ld) L H (fun r=>r=v))∧(run=false→v= .tup []):=by
    cases run with
    | true=>
     have fx:(match x.q with
      | true=>kx P (opI ops x.i) (cb ld) L H fun v=>jr P esc ops r (putA ld (opI ops x.i).dst v) L H K
      | false=>_):=fx
     rw[af] at fx
     obtain⟨v,h1,h2⟩:=Tv _ fx
     exact⟨v,h1,fun _=>h2,fun e=>by cases e⟩
    | false=>exact⟨.tup [],fx,fun e=>(by cases e),fun _=>rfl⟩
   obtain⟨v,hv,Ww,rJ⟩:=key
   obtain⟨pre,post,nx,rfl,xJ,qu,qn,hlen,gD,xu⟩:=G0 r _ RR hv
   have rI: ∀y∈pre,y∈pre++post:=fun y ba=>List.mem_append_left _ ba
   have xC: ∀t∈(opI ops x.i).looksAt ops,nx.getD t .undef=ld.getD t .undef:=fun t bn=>by
    rw[gD t fun y ba=>IA t bn y (List.mem_cons_of_mem _ (rI y ba)),Br (IA t bn x (List.mem_cons_self ..))]
   refine⟨x::pre,post,nx,rfl,fun y ba=> ?_,qu,qn,by rw[hlen,vO,oy],fun t bn=> ?_,fun y ba=> ?_⟩
   ·rcases List.mem_cons.1 ba with rfl | ba
    ·exact af
    ·exact xJ y ba
   ·rw[gD t fun y ba=>bn y (List.mem_cons_of_mem _ ba),Br (bn x (List.mem_cons_self ..)),k2]
   ·rcases List.mem_cons.1 ba with rfl | ba
    ·refine⟨v,run,⟨fun E a hs aH=>hw E a (fun t bn=> ?_) ?_,fun av=> ?_,rJ,fun d aZ aX=> ?_⟩⟩
     ·rw[←k2 t,←xC t bn];exact hs t bn
     ·rw[←aH,hlen,vO,oy]
     ·rw[Jw (Bi xC)];exact Ww av
     ·rw[gD d fun y ba=>RQ d aZ y (rI y ba),aZ]
      exact Oi (by rw[hlen,vO] at aX;exact aX)
    ·exact xu y ba
def so (A:Nat→List Nat):List Item→List Item→Prop
 | _,[]=>True
 | p,h::r=>(h.q=false→(∀y∈r,h.i∈A y.i)∧ ∀x∈p,x.i∈A h.i∨x.i∈h.iF)∧so A (p++[h]) r
theorem so.at {A:Nat→List Nat}: ∀{pre p:List Item} {h:Item} {r:List Item},so A p (pre++h::r)→h.q=false→(∀y∈r,h.i∈A y.i)∧ ∀x∈p++pre,x.i∈A h.i∨x.i∈h.iF
 | [],p,h,r,hb,af=>by
  rw[List.append_nil];exact hb.1 af
 | x::pre,p,h,r,hb,af=>by
  have:=so.at (pre:=pre) (p:=p++[x]) hb.2 af
  simpa using this
structure y2 (ops:Array Oper) (ord:List Item) (A:Nat→List Nat):Prop where
 back: ∀i o,ops[i]?=some o→ ∀e∈o.after,Region.binds .any e=true→e.on<i
 RN: ∀i o,ops[i]?=some o→ ∀a∈A i,∃e∈o.after,Region.binds .any e=true∧(a=e.on∨a∈A e.on)
 all: ∀i,i<ops.size→ ∃x∈ord,x.i=i
 lt: ∀x∈ord,x.i<ops.size
 nodup:(ord.map (·.i)).Nodup
 aeo: ∀x∈ord,∀t∈(opI ops x.i).looksAt ops,∀y∈ord,(opI ops y.i).dst=some t→y.i∈A x.i
 apart:kM ops ord
 lK:so A [] ord
theorem kM.tail {ops:Array Oper}: ∀{p r:List Item},kM ops (p++r)→kM ops r
 | [],_,h=>h
 | _::p,_,h=>kM.tail (p:=p) h.2.2
theorem kM.Mc {ops:Array Oper}: ∀{p r:List Item},kM ops (p++r)→ ∀x∈p,(∀t∈(opI ops x.i).looksAt ops,∀y∈r,(opI ops y.i).dst≠some t)∧ ∀d,(opI ops x.i).dst=some d→ ∀y∈r,(opI ops y.i).dst≠some d
 | [],_,_,x,hx=>by cases hx
 | z::p,r,h,x,hx=>by
  rcases List.mem_cons.1 hx with rfl | hx
  ·exact⟨fun t bn y ba=>h.1 t bn y (List.mem_cons_of_mem _ (List.mem_append_right _ ba)),fun d aZ y ba=>h.2.1 d aZ y (List.mem_append_right _ ba)⟩
  ·exact kM.Mc (p:=p) h.2.2 x hx
theorem kM.inj {ops:Array Oper}: ∀{l:List Item},kM ops l→ ∀x∈l,∀y∈l,x.i≠y.i→ ∀d,(opI ops x.i).dst=some d→(opI ops y.i).dst≠some d
 | [],_,x,hx,_,_,_,_,_=>by cases hx
 | z::r,h,x,hx,y,ba,bY,d,aZ=>by
  rcases List.mem_cons.1 hx with ex | Ma
  ·rcases List.mem_cons.1 ba with DI | FL
   ·exact absurd (by rw[ex,DI]) bY
   ·exact h.2.1 d (by rw[←ex];exact aZ) y FL
  ·rcases List.mem_cons.1 ba with DI | FL
   ·exact fun e=>h.2.1 d (by rw[←DI];exact e) x Ma aZ
   ·exact kM.inj h.2.2 x Ma y FL bY d aZ
theorem qO {ops:Array Oper} {i:Nat} (h:i<ops.size):ops[i]?=some (opI ops i):=by
 unfold opI
 rw[Array.getElem?_eq_getElem h,Array.getD_eq_getD_getElem?,Array.getElem?_eq_getElem h];rfl
def Ck (ops:Array Oper) (S:Array Bool):Prop:= ∀i o,ops[i]?=some o→S.getD i false=true→ ∀e∈o.after,Region.binds .any e=true→S.getD e.on false=true
theorem RO {ops:Array Oper} {ord:List Item} {A:Nat→List Nat} (D:y2 ops ord A) {S:Array Bool} (hs:S.size=ops.size) (hc:Ck ops S): ∀(i:Nat) o,ops[i]?=some o→(∀e∈o.after,Region.binds .any e=true→S.getD e.on false=true)→ ∀a∈A i,S.getD a false=true:=by
 intro i
 induction i using Nat.strongRecOn with
 | _ i bE=>
  intro o aG av a aF
  obtain⟨e,he,hb,qt⟩:=D.RN i o aG a aF
  have rK:=av e he hb
  rcases qt with rfl | qt
  ·exact rK
  ·have aX:=D.back i o aG e he hb
   have cd:e.on<ops.size:=by
    rcases Nat.lt_or_ge e.on ops.size with h | h
    ·exact h
    ·rw[Array.getD_eq_getD_getElem?,Array.getElem?_eq_none (by omega)] at rK;cases rK
   exact bE e.on aX _ (qO cd) (fun b3 Vu ea=>hc e.on _ (qO cd) rK b3 Vu ea) a qt
theorem OL {ops:Array Oper} {S:Array Bool} (hs:S.size=ops.size) {i:Nat} (h:i∈Region.ready .any ops S):i<ops.size∧S.getD i false=false∧ ∀e∈(opI ops i).after,Region.binds .any e=true→S.getD e.on false=true:=by
 unfold Region.ready at h
 rw[List.mem_filter,List.mem_range] at h
 obtain⟨aX,h⟩:=h
 rw[qO aX] at h
 simp only[Option.map_some,Option.getD_some,Bool.and_eq_true,Bool.not_eq_true',Array.all_eq_true_iff_forall_mem] at h
 obtain⟨h1,h2⟩:=h
 refine⟨aX,?_,fun e he hb=> ?_⟩
 ·rw[Array.getD_eq_getD_getElem?,Array.getElem?_eq_getElem (by omega)] at h1 ⊢;exact h1
 ·have:=h2 e he
  rw[hb] at this;simpa using this
theorem abA {ops:Array Oper} {ord:List Item} {A:Nat→List Nat} (D:y2 ops ord A) {S:Array Bool} (hs:S.size=ops.size) (h:Region.ready .any ops S=[]): ∀i,i<ops.size→S.getD i false=true:=by
 intro i
 induction i using Nat.strongRecOn with
 | _ i bE=>
  intro aX
  cases af:S.getD i false with
  | true=>rfl
  | false=>
   exfalso
   have:i∈Region.ready .any ops S:=by
    unfold Region.ready
    rw[List.mem_filter,List.mem_range]
    refine⟨aX,?_⟩
    rw[qO aX]
    simp only[Option.map_some,Option.getD_some,Bool.and_eq_true,Bool.not_eq_true',Array.all_eq_true_iff_forall_mem]
    refine⟨?_,fun e he=> ?_⟩
    ·rw[Array.getD_eq_getD_getElem?,Array.getElem?_eq_getElem (by omega)] at af ⊢;exact af
    ·cases hb:Region.binds .any e with
     | false=>rfl
     | true=>
      have aE:=D.back i _ (qO aX) e he hb
      simpa using bE e.on aE (by omega)
   rw[h] at this;cases this
theorem Jb {α:Type} (p vI:α→Bool) (j:α) (ai:p j=true) (AG:vI j=false) (hk: ∀k,k≠j→p k=vI k): ∀l:List α,l.Nodup→j∈l→l.countP p=l.countP vI+1
 | [],_,h=>by cases h
 | k::l,ao,h=>by
  rw[List.nodup_cons] at ao
  by_cases Ez:k=j
  ·subst Ez
   rw[List.countP_cons_of_pos ai,List.countP_cons_of_neg (by simp[AG])]
   congr 1
   refine List.countP_congr fun x hx=> ?_
   rw[hk x (fun e=>ao.1 (e▸hx))]
  ·have ap:j∈l:=(List.mem_cons.1 h).resolve_left fun e=>Ez e.symm
   have bE:=Jb p vI j ai AG hk l ao.2 ap
   rw[List.countP_cons,List.countP_cons,hk k Ez,bE];omega
def left (n:Nat) (S:Array Bool):Nat:=(List.range n).countP fun j=> !S.getD j false
theorem xd {S:Array Bool} {i j:Nat}:(S.setIfInBounds i true).getD j false=if i=j∧i<S.size then true else S.getD j false:=by
 rw[Array.getD_eq_getD_getElem?,Array.getD_eq_getD_getElem?,Array.getElem?_setIfInBounds]
 by_cases h:i=j
 ·subst h
  by_cases aE:i<S.size
  ·simp[aE]
  ·simp[aE]
 ·simp[h]
theorem Zx {n:Nat} {S:Array Bool} {i:Nat} (hs:S.size=n) (hi:i<n) (h:S.getD i false=false):left n S=left n (S.setIfInBounds i true)+1:=by
 refine Jb _ _ i (by simp[h]) ?_ (fun k hk=> ?_) _ List.nodup_range (List.mem_range.2 hi)
 ·rw[xd,if_pos ⟨rfl,by omega⟩];rfl
 ·rw[xd,if_neg (fun e=>hk e.1.symm)]
theorem Zy {n:Nat} {S:Array Bool} (h:left n S=0): ∀i,i<n→S.getD i false=true:=fun i hi=>by
 have:=(List.countP_eq_zero.1 h) i (List.mem_range.2 hi)
 simpa using this
def sZ:List Nat→List AV→List AV
 | [],T=>T
 | d::ik,T=>sZ ik (T.set d .undef)
theorem Ao: ∀(ik:List Nat) (T:List AV) (t:Nat),(t∈ik→(sZ ik T).getD t .undef= .undef)∧(t ∉ ik→(sZ ik T).getD t .undef=T.getD t .undef)
 | [],T,t=>⟨fun h=>(by cases h),fun _=>rfl⟩
 | d::ik,T,t=>by
  obtain⟨h1,h2⟩:=Ao ik (T.set d .undef) t
  refine⟨fun h=> ?_,fun h=> ?_⟩
  ·by_cases aZ:t∈ik
   ·exact h1 aZ
   ·have e:t=d:=(List.mem_cons.1 h).resolve_right aZ
    show(sZ ik (T.set d .undef)).getD t .undef= .undef
    rw[h2 aZ,qf]
    by_cases aE:d=t∧d<T.length
    ·rw[if_pos aE]
    ·rw[if_neg aE,List.getD_eq_getElem?_getD,List.getElem?_eq_none (by rcases Nat.lt_or_ge d T.length with q | q;exact absurd ⟨e.symm,q⟩ aE;omega)];rfl
  ·show(sZ ik (T.set d .undef)).getD t .undef=_
   rw[h2 fun hm=>h (List.mem_cons_of_mem _ hm),qf,if_neg fun hm=>h (by rw[hm.1];exact List.mem_cons_self ..)]
section
variable {P:Program} {esc:List Nat} {ops:Array Oper} {ord:List Item} {A:Nat→List Nat} {Q:Exit→St→Prop} {cj:Env}
structure Ic [cw] (P:Program) (esc:List Nat) (ops:Array Oper) (ord:List Item) (Q:Exit→St→Prop) (cj:Env) (S:Array Bool) (a:Act) (w:World) (pre post:List Item) (E:Env) (T:List AV) (L:List (Nat×List AV)) (H:List Blk):Prop where
 oH:ord=pre++post
 yW: ∀x∈post,S.getD x.i false=false
 head: ∀x r,post=x::r→x.q=false
 DE:jr P esc ops post T L H (fun T L H=>Q .normal ⟨T,L,H⟩)
 facts: ∀x∈pre,S.getD x.i false=false→x.q=true∧ ∃v run,uf P ops L H T (opI ops x.i) v run
 hP: ∀t,(∃x∈pre,S.getD x.i false=false∧(opI ops x.i).dst=some t)∨V3 E (T.getD t .undef) (a.tmps.getD t undef)
 size:T.length=a.tmps.size
 h:SimH E H
 l:SimL E L
 m1:Good cj E
 bG: ∀x∈ord,S.getD x.i false=false→oF (opI ops x.i)=true→x.q=true→ ∀d,(opI ops x.i).dst=some d→E.mL d=none
 Dl:a.defers=[]
 w:E.w=w
theorem Om {a:Act} {d:Option Nat} {u:Value} {t:Nat} (h:d≠some t):(a.put d u).tmps.getD t undef=a.tmps.getD t undef:=by
 cases d with
 | none=>rfl
 | some s=>
  show(a.tmps.setIfInBounds s u).getD t undef=_
  rw[Array.getD_eq_getD_getElem?,Array.getD_eq_getD_getElem?,Array.getElem?_setIfInBounds_ne (fun e=>h (by rw[e]))]
theorem Oo {a:Act} {d:Nat} {u:Value} (h:d<a.tmps.size):(a.put (some d) u).tmps.getD d undef=u:=by
 show(a.tmps.setIfInBounds d u).getD d undef=_
 rw[Array.getD_eq_getD_getElem?,Array.getElem?_setIfInBounds_self];simp[h]
theorem Oq (a:Act) (d:Option Nat) (u:Value):(a.put d u).tmps.size=a.tmps.size:=by
 cases d<;>simp[Act.put]
theorem Ol {a:Act} (d:Option Nat) (u:Value) (h:a.defers=[]):(a.put d u).defers=[]:=by
 cases d<;>exact h
theorem RM {o:Oper} {a:Act} {T:List AV} {L:List (Nat×List AV)} {H:List Blk} {v:AV} {E:Env} (aB:SimH E H) (bN:SimL E L) (aF:oF o=true) (ao: ∀d,o.dst=some d→E.mL d=none) (h:kx P o (cb T) L H (fun r=>r=v)):
  ∃t u E',V3 E' v u∧o.dst=some t∧Step E E'∧SimH E' H∧SimL E' L∧(∀s,s≠t→E'.mL s=E.mL s)∧True∧ ∀(next:Act→World→Prop) Q,next (a.put o.dst u) E'.w→o.wp P a E.w next Q:=by
 obtain⟨dst,op,ty,pos,after,guard⟩:=o
 cases op
 all_goals try (cases aF;done)
 rename_i e
 obtain⟨z,aH,h⟩:=e8 (show Iu P e dst L (fun r=>r=v) from h)
 obtain⟨t,bn,h⟩:=e8 h
 obtain⟨c,hc,h⟩:=e8 h
 obtain⟨hs,h⟩:=oI h
 obtain⟨af,c9⟩:=oI h
 have c9:AV.e7 t 0=v:=c9
 clear h
 subst c9
 have af:=Rf af
 subst af
 obtain⟨i,ue,q1,q2,q3,q4⟩:=ud (E:=E) aH
 obtain⟨E',aR,e2,dq,hH,hI,_,lN⟩:=NF (ty:=e) aB bN (mg.alloc E.w (.cells ue.cells e (0,0))) hc (ao t bn) (HI hs q4)
 refine⟨t,_,E',hI,bn,e2,dq,hH,lN,trivial,fun next Q hk=> ?_⟩
 unfold Oper.wp
 rw[show execOp a.eval ⟨dst,.alloc e,ty,pos,after,guard⟩=(do pure (Next.value (←Instr.alloc e true (.tuple #[])))) from rfl]
 refine H3 (w':=E'.w) ?_ hk
 rw[aR]
 simp[Instr.alloc,zeroValue,typeInfo,q1,q2,newVar,newRow]
theorem Tc [cw] (D:y2 ops ord A): ∀(iG:Nat) (S:Array Bool) (a:Act) (w:World) (pre post:List Item) (E:Env) (T:List AV) (L:List (Nat×List AV)) (H:List Blk),
  S.size=ops.size→left ops.size S=iG→Ck ops S→Ic P esc ops ord Q cj S a w pre post E T L H→wpAny P .any ops (mi cj Q) iG S a w:=by
 have fin: ∀(S:Array Bool) (a:Act) (w:World) (pre post:List Item) (E:Env) (T:List AV) (L:List (Nat×List AV)) (H:List Blk),(∀i,i<ops.size→S.getD i false=true)→Ic P esc ops ord Q cj S a w pre post E T L H→mi cj Q .normal a w:=by
  intro S a w pre post E T L H d_ I
  have ai:post=[]:=by
   cases post with
   | nil=>rfl
   | cons x r=>
    have h1:=I.yW x (List.mem_cons_self ..)
    rw[d_ x.i (D.lt x (by rw[I.oH];simp))] at h1;cases h1
  subst ai
  refine⟨rfl,⟨T,L,H⟩,E,I.DE,I.w,I.m1,⟨I.h,I.l,fun t=> ?_,I.size⟩,I.Dl⟩
  rcases I.hP t with⟨x,hx,hu,_⟩ | h
  ·rw[d_ x.i (D.lt x (by rw[I.oH];simp[hx]))] at hu;cases hu
  ·exact h
 intro iG
 induction iG with
 | zero=>
  intro S a w pre post E T L H hs hf hc I
  have d_:=Zy hf
  refine⟨?_,fin S a w pre post E T L H d_ I⟩
  cases av:Region.ready .any ops S with
  | nil=>rfl
  | cons i l=>
   have:=OL hs (i:=i) (by rw[av];exact List.mem_cons_self ..)
   rw[d_ i this.1] at this;cases this.2.1
 | succ iG bE=>
  intro S a w pre post E T L H hs hf hc I
  refine⟨fun av=>fin S a w pre post E T L H (abA D hs av) I,fun i hi=> ?_⟩
  obtain⟨aX,pv,rK⟩:=OL hs hi
  have Eb:=RO D hs hc i _ (qO aX) rK
  have Kj:(S.setIfInBounds i true).size=ops.size:=by simpa using hs
  have Al:left ops.size (S.setIfInBounds i true)=iG:=by have:=Zx hs aX pv;omega
  have ke:Ck ops (S.setIfInBounds i true):=by
   intro j o aG ap e he hb
   rw[xd] at ap ⊢
   by_cases li:i=j
   ·subst li
    have:o=opI ops i:=by rw[qO aX] at aG;exact(Option.some.inj aG).symm
    subst this
    split
    ·rfl
    ·exact rK e he hb
   ·rw[if_neg fun q=>li q.1] at ap
    split
    ·rfl
    ·exact hc j o aG ap e he hb
  have G4: ∀j,(S.setIfInBounds i true).getD j false=false→S.getD j false=false∧j≠i:=fun j ap=>by
   rw[xd] at ap
   split at ap
   ·cases ap
   ·rename_i q;exact⟨ap,fun e=>q ⟨e.symm,by omega⟩⟩
  have yG: ∀j,j≠i→S.getD j false=false→(S.setIfInBounds i true).getD j false=false:=fun j ap h=>by
   rw[xd,if_neg fun q=>ap q.1.symm];exact h
  obtain⟨y,ba,ln⟩:=D.all i aX
  subst ln
  have ln:y.i=y.i:=rfl
  let ik:List Nat:=(pre.filter fun x=> !S.getD x.i false).filterMap fun x=>(opI ops x.i).dst
  have Es: ∀t,t∈ik↔ ∃x∈pre,S.getD x.i false=false∧(opI ops x.i).dst=some t:=fun t=>by
   simp only[ik,List.mem_filterMap,List.mem_filter,Bool.not_eq_true']
   constructor
   ·rintro⟨x,⟨h1,h2⟩,aM⟩;exact⟨x,h1,h2,aM⟩
   ·rintro⟨x,h1,h2,aM⟩;exact⟨x,⟨h1,h2⟩,aM⟩
  have cc: ∀t,V3 E ((sZ ik T).getD t .undef) (a.tmps.getD t undef):=fun t=>by
   by_cases h:t∈ik
   ·rw[(Ao ik T t).1 h];exact V3.undef _ _
   ·rw[(Ao ik T t).2 h]
    exact(I.hP t).resolve_left fun q=>h ((Es t).2 q)
  have xC: ∀t∈(opI ops y.i).looksAt ops,t ∉ ik:=fun t bn hm=>by
   obtain⟨x,hx,hu,aZ⟩:=(Es t).1 hm
   have:=Eb x.i (by rw[←ln];rw[←ln] at bn;exact D.aeo y ba t bn x (by rw[I.oH];simp[hx]) aZ)
   rw[this] at hu;cases hu
  have KW: ∀t∈(opI ops y.i).looksAt ops,V3 E (T.getD t .undef) (a.tmps.getD t undef):=fun t bn=>(I.hP t).resolve_left fun q=>xC t bn ((Es t).2 q)
  have Kq: ∀t∈(opI ops y.i).looksAt ops,(sZ ik T).getD t .undef=T.getD t .undef:=fun t bn=>(Ao ik T t).2 (xC t bn)
  have It: ∀E':Env,(∀t,(opI ops y.i).dst≠some t→E'.mL t=E.mL t)→ ∀x∈ord,(S.setIfInBounds y.i true).getD x.i false=false→oF (opI ops x.i)=true→x.q=true→ ∀d,(opI ops x.i).dst=some d→E'.mL d=none:=fun E' hml x hx hu aF Wu d aZ=>by
   obtain⟨pu,rN⟩:=G4 _ hu
   rw[hml d (D.apart.inj x hx y ba rN d aZ)]
   exact I.bG x hx pu aF Wu d aZ
  unfold wpOp
  rw[qO aX]
  simp only
  have rI:y∈pre∨y∈post:=by rw[I.oH] at ba;exact List.mem_append.1 ba
  rcases rI with ta | ta
  ·
   obtain⟨af,v,run,F⟩:=I.facts y ta (by rw[ln];exact pv)
   rw[ln] at F
   have hw:=F.cz E a KW I.size
   have next: ∀(u:Value) (E':Env),Step E E'→SimH E' H→SimL E' L→(∀t,(opI ops y.i).dst≠some t→E'.mL t=E.mL t)→V3 E' v u→wpAny P .any ops (mi cj Q) iG (S.setIfInBounds y.i true) (a.put (opI ops y.i).dst u) E'.w:=fun u E' a8 qv qw hml hv=>by
    refine bE _ _ _ pre post E' T L H Kj Al ke ⟨I.oH,fun x hx=>yG _ (fun e=> ?_) (I.yW x hx),I.head,I.DE,fun x hx hu=>I.facts x hx (G4 _ hu).1,fun t=> ?_,by rw[Oq];exact I.size,qv,qw,I.m1.step a8,It E' hml,Ol _ _ I.Dl,rfl⟩
    ·have h_:=D.nodup
     rw[I.oH,List.map_append,List.nodup_append] at h_
     exact h_.2.2 y.i (List.mem_map_of_mem ta) x.i (List.mem_map_of_mem hx) (by rw[ln,e])
    ·by_cases aZ:(opI ops y.i).dst=some t
     ·right
      rw[aZ]
      by_cases aE:t<T.length
      ·rw[F.put t aZ aE,Oo (by rw[←I.size];exact aE)];exact hv
      ·rw[List.getD_eq_getElem?_getD,List.getElem?_eq_none (Nat.not_lt.1 aE)];exact V3.undef _ _
     ·rcases I.hP t with⟨x,hx,hu,xP⟩ | h
      ·exact .inl ⟨x,hx,yG _ (fun e=>aZ (by rw[←e];exact xP)) hu,xP⟩
      ·right;rw[Om aZ];exact h.le a8.le
   cases run with
   | true=>
    rw[if_pos hw]
    refine .inl ?_
    have qn:=F.p0 rfl
    cases u0:oF (opI ops y.i) with
    | true=>
     obtain⟨t,u,E',hv,Vs,q1,q2,q3,q4,_,cO⟩:=RM (P:=P) (a:=a) I.h I.l u0 (fun t bn=>I.bG y ba (by rw[ln];exact pv) u0 af t bn) qn
     rw[←I.w]
     exact cO _ _ (next u E' q1 q2 q3 (fun s hs=>q4 s fun e=>hs (by rw[Vs,e])) hv)
    | false=>
    rw[uP u0,←JA (Bi Kq)] at qn
    rw[←I.w]
    refine Oper.wp_mono (fun gk w' ⟨ec,u,E',he,gd,hqt,hv,aF⟩=> ?_) (JC cc (Sub.refl L H) I.h I.l (zV qn))
    subst he;subst gd;subst aF
    exact next u E' hqt.step (hqt.simH I.h) (hqt.simL I.h I.l) (fun t _=>by rw[hqt.mL]) hv
   | false=>
    rw[if_neg (by rw[hw];simp)]
    have hv:=F.no rfl
    subst hv
    rw[←I.w]
    exact next undef E (Step.refl E) I.h I.l (fun _ _=>rfl) ⟨[],rfl,aO.nil⟩
  ·
   have qu: ∃r,post=y::r:=by
    cases ai:post with
    | nil=>rw[ai] at ta;cases ta
    | cons x r=>
     rw[ai] at ta
     rcases List.mem_cons.1 ta with rfl | Wx
     ·exact⟨r,rfl⟩
     ·have hb:=D.lK
      rw[I.oH,ai] at hb
      have:=(hb.at (I.head x r ai)).1 y Wx
      rw[ln] at this
      have h1:=Eb x.i this
      rw[I.yW x (by rw[ai];exact List.mem_cons_self ..)] at h1;cases h1
   obtain⟨r,V8⟩:=qu
   subst V8
   have af:=I.head y r rfl
   have qn:=I.DE
   obtain⟨ld,run,oy,k2,hw,fx⟩:=J4 (P:=P) qn
   have hw:=hw E a KW I.size
   have Ec:=D.apart
   rw[I.oH] at Ec
   have KI:=kM.Mc Ec
   have Ve:=(show so A [] (pre++y::r) from I.oH▸D.lK).at af
   have h_:=D.nodup
   rw[I.oH,List.map_append,List.map_cons,List.nodup_append,List.nodup_cons] at h_
   have V5: ∀x∈pre,S.getD x.i false=false→x.i∈y.iF:=fun x hx hu=>by
    rcases Ve.2 x (by simpa using hx) with h | h
    ·rw[ln] at h
     have:=Eb x.i h
     rw[hu] at this;cases this
    ·exact h

   have next: ∀(v:AV) (u:Value) (L':List (Nat×List AV)) (H':List Blk) (E':Env),Step E E'→SimH E' H'→SimL E' L'→(∀t,(opI ops y.i).dst≠some t→E'.mL t=E.mL t)→V3 E' v u→jr P esc ops r (putA ld (opI ops y.i).dst v) L' H' (fun T L H=>Q .normal ⟨T,L,H⟩)→
     (∀x∈pre,S.getD x.i false=false→ ∃v run,uf P ops L' H' ld (opI ops x.i) v run)→
     wpAny P .any ops (mi cj Q) iG (S.setIfInBounds y.i true) (a.put (opI ops y.i).dst u) E'.w:=by
    intro v u L' H' E' a8 aB bN hml hv hK VB
    obtain⟨Gr,aa4,nx,EJ,V1,V7,Vx,hlen,gD,xu⟩:=G0 r _ (kM.tail (p:=[y]) (kM.tail Ec)) hK
    have EK: ∀z∈Gr,z∈r:=fun z aH=>by rw[EJ];exact List.mem_append_left _ aH
    have Kk: ∀t,(∀z∈y::r,(opI ops z.i).dst≠some t)→nx.getD t .undef=ld.getD t .undef:=fun t bn=>by
     rw[gD t fun z aH=>bn z (List.mem_cons_of_mem _ (EK z aH)),Br (bn y (List.mem_cons_self ..))]
    refine bE _ _ _ (pre++y::Gr) aa4 E' nx L' H' Kj Al ke ⟨by rw[I.oH,EJ];simp,fun x hx=> ?_,V7,Vx,fun x hx hu=> ?_,fun t=> ?_,by rw[Oq,hlen,vO,oy];exact I.size,aB,bN,I.m1.step a8,It E' hml,Ol _ _ I.Dl,rfl⟩
    ·have AJ:x∈r:=by rw[EJ];exact List.mem_append_right _ hx
     exact yG _ (fun e=>h_.2.1.1 (by rw[ln,←e];exact List.mem_map_of_mem AJ)) (I.yW x (List.mem_cons_of_mem _ AJ))
    ·obtain⟨pu,rN⟩:=G4 _ hu
     rcases List.mem_append.1 hx with hx | hx
     ·refine⟨(I.facts x hx pu).1,?_⟩
      obtain⟨ec,run',F⟩:=VB x hx pu
      refine⟨ec,run',F.mono (by rw[hlen,vO]) (fun t bn=>Kk t fun z aH=>(KI x hx).1 t bn z aH) fun d aZ=>Kk d fun z aH=>(KI x hx).2 d aZ z aH⟩
     ·rcases List.mem_cons.1 hx with rfl | hx
      ·exact absurd ln rN
      ·exact⟨V1 x hx,xu x hx⟩
    ·by_cases qm: ∃z∈Gr,(opI ops z.i).dst=some t
     ·obtain⟨z,aH,oD⟩:=qm
      refine .inl ⟨z,by simp[aH],yG _ (fun e=>h_.2.1.1 (by rw[ln,←e];exact List.mem_map_of_mem (EK z aH))) (I.yW z (List.mem_cons_of_mem _ (EK z aH))),oD⟩
     ·have aR:=gD t fun z aH q=>qm ⟨z,aH,q⟩
      by_cases aZ:(opI ops y.i).dst=some t
      ·right
       rw[ln] at aZ aR
       rw[aR,aZ]
       by_cases aE:t<ld.length
       ·rw[Oi aE,Oo (by rw[←I.size,←oy];exact aE)];exact hv
       ·rw[List.getD_eq_getElem?_getD,List.getElem?_eq_none (by rw[vO];exact Nat.not_lt.1 aE)];exact V3.undef _ _
      ·rw[Br aZ,k2] at aR
       rcases I.hP t with⟨x,hx,hu,xP⟩ | h
       ·refine .inl ⟨x,by simp[hx],yG _ (fun e=>aZ (by rw[ln,←e];exact xP)) hu,xP⟩
       ·right;rw[aR,Om (by rw[←ln];exact aZ)];exact h.le a8.le
   cases run with
   | true=>
    rw[if_pos hw]
    refine .inl ?_
    have fx:(match y.q with
     | true=>_
     | false=>jq P esc (opI ops y.i) (cb ld) L H fun v L' H'=>qd P ops y.iF ld L' H'∧jr P esc ops r (putA ld (opI ops y.i).dst v) L' H' (fun T L H=>Q .normal ⟨T,L,H⟩)):=fx
    rw[af] at fx
    have fx:jq P esc (opI ops y.i) (cb ld) L H fun v L' H'=>qd P ops y.iF ld L' H'∧jr P esc ops r (putA ld (opI ops y.i).dst v) L' H' (fun T L H=>Q .normal ⟨T,L,H⟩):=fx
    rw[←Tu (Bi fun t bn=>(Kq t bn).trans (k2 t).symm)] at fx
    rw[←I.w]
    refine Oper.wp_mono (fun gk w' ⟨v,u,L',H',E',⟨ov,hK⟩,gd,q1,q2,q3,q4,aF,hml⟩=> ?_) (evOp_sound cc I.h I.l fx)
    subst gd;subst aF
    refine next v u L' H' E' q1 q2 q3 hml q4 hK fun x hx hu=> ?_
    obtain⟨f1,f2,f3⟩:=JR ov x.i (V5 x hx hu)
    refine⟨_,true,⟨fun E a hs aH=> ?_,fun _=>f3,fun e=>(by cases e),fun d aZ aX=> ?_⟩⟩
    ·unfold Region.wanted
     cases xw:(opI ops x.i).guard with
     | none=>rfl
     | some g=>rw[xw] at f1;cases f1
    ·unfold rq;rw[aZ]
   | false=>
    rw[if_neg (by rw[hw];simp)]
    rw[←I.w]
    refine next (.tup []) undef L H E (Step.refl E) I.h I.l (fun _ _=>rfl) ⟨[],rfl,aO.nil⟩ fx fun x hx hu=> ?_
    obtain⟨_,ec,run',F⟩:=I.facts x hx hu
    exact⟨ec,run',F.mono oy (fun t _=>k2 t) fun d _=>k2 d⟩
end
def zn (ops:Array Oper):List Item→Bool
 | []=>true
 | x::r=>((opI ops x.i).looksAt ops).all (fun t=>(x::r).all fun y=>(opI ops y.i).dst !=some t)&&(match(opI ops x.i).dst with
  | some d=>r.all fun y=>(opI ops y.i).dst !=some d
  | none=>true)&&zn ops r
theorem IC {ops:Array Oper}: ∀{l:List Item},zn ops l=true→kM ops l
 | [],_=>trivial
 | x::r,h=>by
  simp only[zn,Bool.and_eq_true] at h
  obtain⟨⟨h1,h2⟩,aM⟩:=h
  refine⟨fun t bn y ba=> ?_,fun d aZ y ba=> ?_,IC aM⟩
  ·have:=List.all_eq_true.1 (List.all_eq_true.1 h1 t bn) y ba
   simpa using this
  ·rw[aZ] at h2
   have:=List.all_eq_true.1 h2 y ba
   simpa using this
def zq (A:Nat→List Nat):List Item→List Item→Bool
 | _,[]=>true
 | p,h::r=>(h.q || (r.all (fun y=>(A y.i).contains h.i)&&p.all fun x=>(A h.i).contains x.i || h.iF.contains x.i))&&zq A (p++[h]) r
theorem IH {A:Nat→List Nat}: ∀{l p:List Item},zq A p l=true→so A p l
 | [],_,_=>trivial
 | h::r,p,hb=>by
  simp only[zq,Bool.and_eq_true] at hb
  refine⟨fun af=> ?_,IH hb.2⟩
  have h1:=hb.1
  rw[af,Bool.false_or,Bool.and_eq_true] at h1
  refine⟨fun y ba=>by simpa using List.all_eq_true.1 h1.1 y ba,fun x hx=> ?_⟩
  have:=List.all_eq_true.1 h1.2 x hx
  simpa using this
def Bd:List Nat→Bool
 | []=>true
 | x::r=> !r.contains x&&Bd r
theorem NL: ∀{l:List Nat},Bd l=true→l.Nodup
 | [],_=>List.nodup_nil
 | x::r,h=>by
  simp only[Bd,Bool.and_eq_true] at h
  rw[List.nodup_cons]
  exact⟨by simpa using h.1,NL h.2⟩
def uK (ops:Array Oper) (ord:List Item) (A:Nat→List Nat):Bool:=
 (List.range ops.size).all (fun i=>(opI ops i).after.toList.all (fun e=> !Region.binds .any e || decide (e.on<i))&&(A i).all fun a=>(opI ops i).after.toList.any fun e=>Region.binds .any e&&(a==e.on || (A e.on).contains a))&&
 (List.range ops.size).all (fun i=>ord.any fun x=>x.i==i)&&ord.all (fun x=>decide (x.i<ops.size))&&Bd (ord.map (·.i))&&
 ord.all (fun x=>((opI ops x.i).looksAt ops).all fun t=>ord.all fun y=>(opI ops y.i).dst !=some t || (A x.i).contains y.i)&&zn ops ord&&zq A [] ord
theorem Td {ops:Array Oper} {ord:List Item} {A:Nat→List Nat} (cN: ∀i,ops.size≤i→A i=[]) (h:uK ops ord A=true):y2 ops ord A:=by
 simp only[uK,Bool.and_eq_true] at h
 obtain⟨⟨⟨⟨⟨⟨h1,h2⟩,aM⟩,bx⟩,c9⟩,e6⟩,lP⟩:=h
 have get: ∀i o,ops[i]?=some o→i<ops.size∧o=opI ops i:=fun i o aG=>by
  have aX:i<ops.size:=by
   rcases Nat.lt_or_ge i ops.size with h | h
   ·exact h
   ·rw[Array.getElem?_eq_none h] at aG;cases aG
  rw[qO aX] at aG
  exact⟨aX,(Option.some.inj aG).symm⟩
 refine⟨fun i o aG e he hb=> ?_,fun i o aG a aF=> ?_,fun i hi=> ?_,fun x hx=> ?_,NL bx,fun x hx t bn y ba aZ=> ?_,IC e6,IH lP⟩
 ·obtain⟨aX,rfl⟩:=get i o aG
  have:=List.all_eq_true.1 h1 i (List.mem_range.2 aX)
  rw[Bool.and_eq_true] at this
  have:=List.all_eq_true.1 this.1 e (by simpa using he)
  rw[hb] at this;simpa using this
 ·obtain⟨aX,rfl⟩:=get i o aG
  have:=List.all_eq_true.1 h1 i (List.mem_range.2 aX)
  rw[Bool.and_eq_true] at this
  have:=List.all_eq_true.1 this.2 a aF
  obtain⟨e,he,hc⟩:=List.any_eq_true.1 this
  rw[Bool.and_eq_true] at hc
  exact⟨e,by simpa using he,hc.1,by simpa using hc.2⟩
 ·obtain⟨x,hx,hc⟩:=List.any_eq_true.1 (List.all_eq_true.1 h2 i (List.mem_range.2 hi))
  exact⟨x,hx,by simpa using hc⟩
 ·simpa using List.all_eq_true.1 aM x hx
 ·have:=List.all_eq_true.1 (List.all_eq_true.1 (List.all_eq_true.1 c9 x hx) t bn) y ba
  rw[Bool.or_eq_true] at this
  rcases this with h | h
  ·rw[aZ] at h;simp at h
  ·simpa using h
def wU (jn:List (List Nat)) (i:Nat):List Nat:=jn.getD i []
theorem Env.Jj (E:Env):Step E {E with w:=E.w.drew}:=
 ⟨⟨fun _ h=>h,fun _ h=>h,fun _ _=>rfl,fun _ _=>rfl,fun _=>Nat.le_refl _,fun _ _ h _=>⟨h,rfl,rfl⟩,fun _ _ h=>h⟩,rfl,rfl,rfl,Nat.le_refl _,fun _ _ _ _=>rfl,fun _ _ h=> .inl h,fun _ h=> .inl h,fun _ h=> .inl h,fun _ h=> .inl h⟩
theorem Tg {E:Env} {H:List Blk} (h:SimH E H):SimH {E with w:=E.w.drew} H:=
 {h with
  heap:=fun b c hb=>by
   obtain⟨blk,aw,ty,q1,b5,q2,q3,q4,cW,cO⟩:=h.heap b c hb
   exact⟨blk,aw,ty,q1,b5,q2,q3,q4,cW,fun i j row a av ap=>by obtain⟨u,hu,hv⟩:=cO i j row a av ap;exact⟨u,hu,hv.le (Env.Jj E).le.b0⟩⟩}
theorem Zw (n:Nat):left n (Array.replicate n false)=n:=by
 unfold left
 have:(List.range n).countP (fun j=> !(Array.replicate n false).getD j false)=(List.range n).countP (fun _=>true):=by
  refine List.countP_congr fun x hx=> ?_
  rw[Array.getD_eq_getD_getElem?,Array.getElem?_replicate]
  split<;>simp
 rw[this,List.countP_true,List.length_range]
def sJ:List (Nat×List AV)→List (Nat×List AV)→Bool
 | [],_=>true
 | (t,_)::r,L=>(dZ L t).isNone&&sJ r L
def sy (ops:Array Oper) (L:List (Nat×List AV)):List Item→Bool
 | []=>true
 | x::r=>(match x.q&&oF (opI ops x.i) with
  | false=>true
  | true=>match(opI ops x.i).dst with
   | none=>true
   | some d=>(dZ L d).isNone)&&sy ops L r
theorem JW {E:Env} {L:List (Nat×List AV)} (bN:SimL E L): ∀{hS:List (Nat×List AV)},sJ hS L=true→SimL E (hS++L)
 | [],_=>bN
 | (t,c)::r,h=>by
  simp only[sJ,Bool.and_eq_true,Option.isNone_iff_eq_none] at h
  exact(JW bN h.2).cons (bN.none h.1)
theorem Iv {ops:Array Oper} {E:Env} {L:List (Nat×List AV)} (bN:SimL E L): ∀{l:List Item},sy ops L l=true→ ∀x∈l,oF (opI ops x.i)=true→x.q=true→ ∀d,(opI ops x.i).dst=some d→E.mL d=none
 | [],_,x,hx,_,_,_,_=>by cases hx
 | y::r,h,x,hx,aF,af,d,aZ=>by
  simp only[sy,Bool.and_eq_true] at h
  rcases List.mem_cons.1 hx with rfl | hx
  ·have h1:=h.1
   rw[af,aF] at h1
   simp only[Bool.and_self] at h1
   rw[aZ] at h1
   exact bN.none (by simpa using h1)
  ·exact Iv bN h.2 x hx aF af d aZ
theorem WpS.OO [cw] {P:Program} {esc:List Nat} {c:Code} {id:Nat} {ops:Array Oper} {Q:Exit→St→Prop} {T:List AV} {L:List (Nat×List AV)} {H:List Blk} (ord:List Item) (jn:List (List Nat)) (hm:P.follows .mixedOrders=true)
  (aE:jn.length=ops.size) (aZ:uK ops ord (wU jn)=true) (e:c= .region id ops true) (hS:List (Nat×List AV)) (hf:sJ hS L=true) (aH:sy ops L ord=true) (h:jr P esc ops ord T (hS++L) H (fun T L H=>Q .normal ⟨T,L,H⟩)):WpS P c Q ⟨T,L,H⟩:=by
 subst e
 intro cj E a g s d
 have D:=Td (fun i hi=>by unfold wU;rw[List.getD_eq_getElem?_getD,List.getElem?_eq_none (by omega)];rfl) aZ
 refine wp_region_any hm ?_
 obtain⟨pre,post,nx,av,ai,V6,qn,hlen,gD,xu⟩:=G0 ord T D.apart h
 have pv: ∀j,(Array.replicate ops.size false).getD j false=false:=fun j=>by
  rw[Array.getD_eq_getD_getElem?,Array.getElem?_replicate];split<;>rfl
 have a8:=Env.Jj E
 have hw:(show World from{E.w with drawn:=E.w.drawn+1})=({E with w:=E.w.drew}:Env).w:=rfl
 refine Tc D ops.size _ a _ pre post {E with w:=E.w.drew} nx (hS++L) H (by simp) (Zw _) (fun i o aG ap=> ?_) ⟨av,fun x hx=>pv _,V6,qn,fun x hx _=>⟨ai x hx,xu x hx⟩,fun t=> ?_,by rw[hlen];exact s.size,Tg s.h,JW ?_ hf,g.step a8,fun x hx _ aF af d aZ=>Iv s.l aH x hx aF af d aZ,d,rfl⟩
 ·rw[pv] at ap;cases ap
 ·by_cases qm: ∃z∈pre,(opI ops z.i).dst=some t
  ·obtain⟨z,aH,oD⟩:=qm
   exact .inl ⟨z,aH,pv _,oD⟩
  ·right
   rw[gD t fun z aH q=>qm ⟨z,aH,q⟩]
   exact(s.hP t).le a8.le
 ·intro t c hm
  obtain⟨cells,aw,ty,q1,q2,q3⟩:=s.l t c hm
  exact⟨cells,aw,ty,q1,q2,q3.mono fun _ _ k=>k.le a8.le.b0⟩
theorem Gh {φ ψ:Prop} (e:φ=ψ) (h:ψ):φ:=e▸h
def xY (ops:Array Oper):List (Oper×Bool):=ops.toList.map fun o=>(o,true)
theorem WpS.OP [cw] {P:Program} {esc:List Nat} {c:Code} {id:Nat} {ops:Array Oper} {Q:Exit→St→Prop} {T:List AV} {L:List (Nat×List AV)} {H:List Blk} (e:c= .region id ops false)
  (h:evOps P esc ops (xY ops) T L H (fun T L H=>Q .normal ⟨T,L,H⟩)):WpS P c Q ⟨T,L,H⟩:=by
 subst e
 intro cj E a g s d
 refine wp_region_list ?_
 have:=zU (xY ops) T L H E a g s d h
 have e2:(xY ops).map (·.1)=ops.toList:=by
  unfold xY;rw[List.map_map];exact List.map_id' _
 rwa [e2] at this
section
variable {P:Program} {esc:List Nat} {ops:Array Oper} {l eK:List Item} {T T':List AV} {L L':List (Nat×List AV)} {H H':List Blk} {K:List AV→List (Nat×List AV)→List Blk→Prop}
end
def fU:List (Nat×AV)→Nat→AV
 | [],_=> .undef
 | (k,v)::r,t=>match Nat.beq k t with
  | true=>v
  | false=>fU r t
def kY:List (Nat×AV)→Nat→List (Nat×AV)
 | [],_=>[]
 | (k,v)::r,t=>match Nat.beq k t with
  | true=>kY r t
  | false=>(k,v)::kY r t
def eg (n:Nat):List (Nat×AV)→Bool
 | []=>true
 | (k,_)::r=>match Nat.blt k n with
  | true=>eg n r
  | false=>false
@[irreducible] def bI (n:Nat) (A:List (Nat×AV)):List AV:=(List.range n).map (fU A)
def ni (n:Nat) (A:List (Nat×AV)) (dst:Option Nat) (v:AV):List (Nat×AV):=match dst with
 | none=>A
 | some d=>match Nat.blt d n with
  | true=>(d,v)::kY A d
  | false=>A
def oJ (A:List (Nat×AV)):Operand→AV
 | .tmp t=>fU A t
 | .const v=>nE v
 | .func f=> .fn f []
 | .global _=> .undef
theorem ZQ (A:List (Nat×AV)) (d t:Nat):fU (kY A d) t=if d=t then .undef else fU A t:=by
 induction A with
 | nil=>simp[kY,fU]
 | cons p r bE=>
  obtain⟨k,v⟩:=p
  have Az:fU ((k,v)::r) t=match Nat.beq k t with
   | true=>v
   | false=>fU r t:=rfl
  rw[Az]
  cases h1:Nat.beq k d with
  | true=>
   have aR:=Nat.eq_of_beq_eq_true h1
   rw[show kY ((k,v)::r) d=kY r d by simp[kY,h1],bE]
   subst aR
   cases h2:Nat.beq k t with
   | true=>have e2:=Nat.eq_of_beq_eq_true h2;simp[e2]
   | false=>rfl
  | false=>
   rw[show kY ((k,v)::r) d=(k,v)::kY r d by simp[kY,h1],show fU ((k,v)::kY r d) t=match Nat.beq k t with
    | true=>v
    | false=>fU (kY r d) t from rfl]
   cases h2:Nat.beq k t with
   | true=>
    have e2:=Nat.eq_of_beq_eq_true h2
    have: ¬d=t:=fun e=>by subst e;subst e2;rw[Nat.beq_refl] at h1;cases h1
    simp[this]
   | false=>simp only;rw[bE]
theorem Np {n:Nat}: ∀{A:List (Nat×AV)} {t:Nat},eg n A=true→n≤t→fU A t= .undef
 | [],t,_,_=>rfl
 | (k,v)::r,t,h,bn=>by
  unfold eg at h
  split at h
  ·rename_i hk
   have hk:k<n:=by rw[←Nat.blt_eq];exact hk
   unfold fU
   cases h2:Nat.beq k t with
   | true=>have:=Nat.eq_of_beq_eq_true h2;omega
   | false=>exact Np h bn
  ·cases h
theorem F5 {n d:Nat}: ∀{A:List (Nat×AV)},eg n A=true→eg n (kY A d)=true
 | [],h=>rfl
 | (k,v)::r,h=>by
  unfold eg at h
  split at h
  ·rename_i hk
   unfold kY
   split
   ·exact F5 h
   ·unfold eg;rw[hk];exact F5 h
  ·cases h
theorem F6 {n:Nat} {A:List (Nat×AV)} (h:eg n A=true) (dst:Option Nat) (v:AV):eg n (ni n A dst v)=true:=by
 unfold ni
 split
 ·exact h
 ·split
  ·rename_i aZ;unfold eg;rw[aZ];exact F5 h
  ·exact h
theorem rW (n:Nat) (A:List (Nat×AV)):(bI n A).length=n:=by unfold bI;simp
theorem pF {n:Nat} {A:List (Nat×AV)} (h:eg n A=true) (t:Nat):(bI n A).getD t .undef=fU A t:=by
 unfold bI
 rw[List.getD_eq_getElem?_getD,List.getElem?_map]
 rcases Nat.lt_or_ge t n with aX | fT
 ·rw[List.getElem?_range aX];rfl
 ·rw[List.getElem?_eq_none (by simpa using fT),Np h fT];rfl
theorem F7 {n:Nat} {A:List (Nat×AV)} (dst:Option Nat) (v:AV):putA (bI n A) dst v=bI n (ni n A dst v):=by
 cases dst with
 | none=>rfl
 | some d=>
  show(bI n A).set d v=bI n (match Nat.blt d n with
   | true=>(d,v)::kY A d
   | false=>A)
  cases aZ:Nat.blt d n with
  | true=>
   apply List.ext_getElem?
   intro t
   unfold bI
   rw[List.getElem?_set]
   simp only[List.length_map,List.length_range,List.getElem?_map]
   rcases Nat.lt_or_ge t n with aX | fT
   ·rw[List.getElem?_range aX]
    by_cases he:d=t
    ·subst he;simp[aX,fU]
    ·have hb:Nat.beq d t=false:=by
      cases af:Nat.beq d t with
      | true=>exact absurd (Nat.eq_of_beq_eq_true af) he
      | false=>rfl
     simp[he,fU,hb,ZQ]
   ·rw[List.getElem?_eq_none (l:=List.range n) (by simpa using fT)]
    by_cases he:d=t
    ·subst he;simp[Nat.not_lt.2 fT]
    ·simp[he]
  | false=>
   have: ¬d<n:=fun h=>by rw[←Nat.blt_eq,aZ] at h;cases h
   exact List.set_eq_of_length_le (by rw[rW];omega)
theorem A4 {n:Nat} {A:List (Nat×AV)} (h:eg n A=true):cb (bI n A)=oJ A:=by
 funext o
 cases o with
 | tmp t=>exact pF h t
 | _=>rfl
theorem Ny {n:Nat} {A:List (Nat×AV)} (h:eg n A=true) {t:Nat} {b:Bool} (hb:fU A t= .bool b):(bI n A).set t (.bool b)=bI n A:=by
 apply List.ext_getElem?
 intro s
 rw[List.getElem?_set]
 by_cases he:t=s
 ·subst he
  rw[if_pos rfl]
  rcases Nat.lt_or_ge t n with aX | fT
  ·rw[if_pos (by rw[rW];exact aX)]
   unfold bI
   rw[List.getElem?_map,List.getElem?_range aX]
   show _=some (fU A t)
   rw[hb]
  ·rw[if_neg (by rw[rW];omega),List.getElem?_eq_none (by rw[rW];omega)]
 ·rw[if_neg he]
def rz (ops:Array Oper) (o:Oper) (A:List (Nat×AV)) (x y:Prop):Prop:=match o.guard with
 | none=>x
 | some (j,cz)=>match(ops[j]?).bind (·.dst) with
  | none=>False
  | some t=>match fU A t with
   | .bool b=>(match b with
    | true=>(match cz with
     | true=>x
     | false=>y)
    | false=>(match cz with
     | true=>y
     | false=>x))
   | .tup []=>y
   | _=>False
theorem J2 {ops:Array Oper} {o:Oper} {n:Nat} {A:List (Nat×AV)} (h:eg n A=true) {x y:List AV→Prop}:m0 ops true o (bI n A) x y=rz ops o A (x (bI n A)) (y (bI n A)):=by
 unfold m0 rz
 cases o.guard with
 | none=>rfl
 | some g=>
  obtain⟨j,cz⟩:=g
  simp only
  cases(ops[j]?).bind (·.dst) with
  | none=>rfl
  | some t=>
   simp only
   rw[pF h t]
   cases hb:fU A t with
   | bool b=>
    cases b with
    | true=>simp only[oa];rw[Ny h hb];cases cz<;>rfl
    | false=>simp only[oa];rw[Ny h hb];cases cz<;>rfl
   | tup l=>cases l<;>rfl
   | _=>rfl
def evS (P:Program) (esc:List Nat) (ops:Array Oper) (n:Nat):List Oper→List (Nat×AV)→List (Nat×List AV)→List Blk→(List (Nat×AV)→List (Nat×List AV)→List Blk→Prop)→Prop
 | [],A,L,H,K=>K A L H
 | o::rest,A,L,H,K=>rz ops o A
   (match o.op with
    | .pick c x y=>nC (oJ A c) fun z=>(match z with
     | true=>evS P esc ops n rest (ni n A o.dst (oJ A x)) L H K
     | false=>evS P esc ops n rest (ni n A o.dst (oJ A y)) L H K)
    | _=>jq P esc o (oJ A) L H fun v L' H'=>evS P esc ops n rest (ni n A o.dst v) L' H' K)
   (evS P esc ops n rest (ni n A o.dst (.tup [])) L H K)
theorem DG {P:Program} {esc:List Nat} {ops:Array Oper} {n:Nat} {K:List AV→List (Nat×List AV)→List Blk→Prop}: ∀(l:List Oper) (A:List (Nat×AV)) (L:List (Nat×List AV)) (H:List Blk),eg n A=true→
  evOps P esc ops (l.map fun o=>(o,true)) (bI n A) L H K=evS P esc ops n l A L H fun A L H=>K (bI n A) L H
 | [],A,L,H,h=>rfl
 | o::rest,A,L,H,h=>by
  show m0 ops true o (bI n A) _ _=_
  rw[J2 h]
  show rz ops o A _ _=rz ops o A _ _
  have e2:evOps P esc ops (rest.map fun o=>(o,true)) (putA (bI n A) o.dst (.tup [])) L H K=evS P esc ops n rest (ni n A o.dst (.tup [])) L H fun A L H=>K (bI n A) L H:=by
   rw[F7,DG rest _ _ _ (F6 h _ _)]
  have DA: ∀v L H,evOps P esc ops (rest.map fun o=>(o,true)) (putA (bI n A) o.dst v) L H K=evS P esc ops n rest (ni n A o.dst v) L H fun A L H=>K (bI n A) L H:=fun v L H=>by
   rw[F7,DG rest _ _ _ (F6 h _ _)]
  rw[e2]
  congr 1
  unfold tz
  rw[A4 h]
  cases fw:o.op<;>simp only[DA]
  case pick c x y=>
   unfold nC
   cases oJ A c<;>first | rfl | (rename_i z;cases z<;>rfl)
theorem WpS.BE [cw] {P:Program} {esc:List Nat} {c:Code} {id n:Nat} {ops:Array Oper} {Q:Exit→St→Prop} {A:List (Nat×AV)} {L:List (Nat×List AV)} {H:List Blk} (e:c= .region id ops false) (ao:eg n A=true)
  (h:evS P esc ops n (ops.toList.drop 0) A L H (fun A L H=>Q .normal ⟨bI n A,L,H⟩)):WpS P c Q ⟨bI n A,L,H⟩:=
 WpS.OP (esc:=esc) e (by unfold xY;rw[DG _ _ _ _ ao];exact h)
def Dq (o:Oper) (A:List (Nat×AV)):AV:=match o.dst with
 | some d=>fU A d
 | none=> .undef
def uT (P:Program) (ops:Array Oper):List Nat→List (Nat×AV)→List (Nat×List AV)→List Blk→Prop
 | [],_,_,_=>True
 | i::r,A,L,H=>((opI ops i).guard.isNone=true∧(opI ops i).dst.isSome=true∧kx P (opI ops i) (oJ A) L H (fun v=>v=Dq (opI ops i) A))∧uT P ops r A L H
def evSD (P:Program) (esc:List Nat) (ops:Array Oper) (n:Nat):List Item→List (Nat×AV)→List (Nat×List AV)→List Blk→(List (Nat×AV)→List (Nat×List AV)→List Blk→Prop)→Prop
 | [],A,L,H,K=>K A L H
 | x::rest,A,L,H,K=>rz ops (opI ops x.i) A
   (match x.q with
    | true=>kx P (opI ops x.i) (oJ A) L H fun v=>evSD P esc ops n rest (ni n A (opI ops x.i).dst v) L H K
    | false=>jq P esc (opI ops x.i) (oJ A) L H fun v L' H'=>uT P ops x.iF A L' H'∧evSD P esc ops n rest (ni n A (opI ops x.i).dst v) L' H' K)
   (evSD P esc ops n rest (ni n A (opI ops x.i).dst (.tup [])) L H K)
theorem JS {P:Program} {ops:Array Oper} {n:Nat} {A:List (Nat×AV)} {L:List (Nat×List AV)} {H:List Blk} (h:eg n A=true): ∀l:List Nat,qd P ops l (bI n A) L H=uT P ops l A L H
 | []=>rfl
 | i::r=>by
  show(_∧_)=(_∧_)
  rw[JS h r,A4 h]
  have:rq (opI ops i) (bI n A)=Dq (opI ops i) A:=by
   unfold rq Dq
   cases(opI ops i).dst with
   | none=>rfl
   | some d=>exact pF h d
  rw[this]
theorem Jy {P:Program} {esc:List Nat} {ops:Array Oper} {n:Nat} {K:List AV→List (Nat×List AV)→List Blk→Prop}: ∀(l:List Item) (A:List (Nat×AV)) (L:List (Nat×List AV)) (H:List Blk),l.all (·.lit)=true→eg n A=true→
  jr P esc ops l (bI n A) L H K=evSD P esc ops n l A L H fun A L H=>K (bI n A) L H
 | [],A,L,H,aE,h=>rfl
 | x::rest,A,L,H,aE,h=>by
  simp only[List.all_cons,Bool.and_eq_true] at aE
  show m0 ops x.lit (opI ops x.i) (bI n A) _ _=_
  rw[aE.1,J2 h]
  show rz ops (opI ops x.i) A _ _=rz ops (opI ops x.i) A _ _
  have DA: ∀v L H,jr P esc ops rest (putA (bI n A) (opI ops x.i).dst v) L H K=evSD P esc ops n rest (ni n A (opI ops x.i).dst v) L H fun A L H=>K (bI n A) L H:=fun v L H=>by
   rw[F7,Jy rest _ _ _ aE.2 (F6 h _ _)]
  simp only[DA,A4 h,JS h]
  first
  | done
  | (cases x.q<;>rfl)
theorem WpS.abH [cw] {P:Program} {esc:List Nat} {c:Code} {id n:Nat} {ops:Array Oper} {Q:Exit→St→Prop} {A:List (Nat×AV)} {L:List (Nat×List AV)} {H:List Blk} (ord:List Item) (jn:List (List Nat)) (hm:P.follows .mixedOrders=true)
  (aE:jn.length=ops.size) (aZ:uK ops ord (wU jn)=true) (EB:ord.all (·.lit)=true) (e:c= .region id ops true) (ao:eg n A=true) (hS:List (Nat×List AV)) (hf:sJ hS L=true) (aH:sy ops L ord=true) (h:evSD P esc ops n (ord.drop 0) A (hS++L) H (fun A L H=>Q .normal ⟨bI n A,L,H⟩)):WpS P c Q ⟨bI n A,L,H⟩:=
 WpS.OO (esc:=esc) ord jn hm aE aZ e hS hf aH (by rw[Jy _ _ _ _ EB ao];exact h)
theorem Weak.hP [cw] {T T':List AV} {L:List (Nat×List AV)} {H:List Blk} (aE:T'.length=T.length) (h: ∀t,T'.getD t .undef=T.getD t .undef∨T'.getD t .undef= .undef):Weak ⟨T,L,H⟩ ⟨T',L,H⟩:=fun cj E tmps g s=>
 ⟨E,rfl,g,s.h,s.l,fun t=>by
  show V3 E (T'.getD t .undef) _
  rcases h t with e | e<;>rw[e]
  ·exact s.hP t
  ·exact V3.undef _ _,by show T'.length=_;rw[aE];exact s.size⟩
def mA (A:List (Nat×AV)):List (Nat×AV)→List (Nat×AV)
 | []=>[]
 | (k,_)::r=>(k,fU A k)::mA A r
theorem F2 {A:List (Nat×AV)}: ∀(B:List (Nat×AV)) (t:Nat),fU (mA A B) t=fU A t∨fU (mA A B) t= .undef
 | [],t=> .inr rfl
 | (k,v)::r,t=>by
  show(match Nat.beq k t with
   | true=>fU A k
   | false=>fU (mA A r) t)=fU A t∨_
  cases h:Nat.beq k t with
  | true=>have:=Nat.eq_of_beq_eq_true h;subst this;exact .inl rfl
  | false=>
   rcases F2 r t with e | e
   ·exact .inl e
   ·right;show(match Nat.beq k t with
     | true=>fU A k
     | false=>fU (mA A r) t)=_
    rw[h];exact e
def xZ (cH:List Nat):List (Nat×AV)→Bool
 | []=>true
 | (_,v)::r=>nQ cH v&&xZ cH r
theorem Nr {cH:List Nat}: ∀{A:List (Nat×AV)},xZ cH A=true→ ∀t,nQ cH (fU A t)=true
 | [],h,t=>rfl
 | (k,v)::r,h,t=>by
  simp only[xZ,Bool.and_eq_true] at h
  unfold fU
  cases Nat.beq k t with
  | true=>exact h.1
  | false=>exact Nr h.2 t
theorem aeC [cw] {n:Nat} {A A':List (Nat×AV)} {L L':List (Nat×List AV)} {H:List Blk} (cH:List Nat) (cN:eg n A=true) (lQ:eg n A'=true) (ai:xZ cH A'=true) (kZ:mA A A'=A') (fR:mW cH L=L'):Weak ⟨bI n A,L,H⟩ ⟨bI n A',L',H⟩:=by
 subst fR
 refine(Weak.hP (T':=bI n A') (by rw[rW,rW]) fun t=> ?_).trans (Weak.mW cH ?_)
 ·rw[pF cN,pF lQ,←kZ];exact F2 A' t
 ·rw[List.all_eq_true]
  intro a aF
  obtain⟨t,bn⟩:=List.mem_iff_getElem?.1 aF
  have e:(bI n A').getD t .undef=a:=by rw[List.getD_eq_getElem?_getD,bn];rfl
  rw[pF lQ] at e
  rw[←e]
  exact Nr ai t
theorem wv [cw] {n:Nat} {A A':List (Nat×AV)} {L:List (Nat×List AV)} {H:List Blk} (cN:eg n A=true) (lQ:eg n A'=true) (kZ:mA A A'=A'):Weak ⟨bI n A,L,H⟩ ⟨bI n A',L,H⟩:=
 Weak.hP (T':=bI n A') (by rw[rW,rW]) fun t=>by rw[pF cN,pF lQ,←kZ];exact F2 A' t
theorem SU {n:Nat} {A:List (Nat×AV)} {o:Operand} {b:Bool} {L:List (Nat×List AV)} {H:List Blk} (ao:eg n A=true) (h:oJ A o= .bool b):cb (St.mk (bI n A) L H).T o= .bool b:=by
 show cb (bI n A) o=_
 rw[A4 ao,h]
def qZ (P:Program) (A:List (Nat×AV)) (L:List (Nat×List AV)) (H:List Blk):List ResultVar→(List AV→Prop)→Prop
 | [],K=>K []
 | .tmp t::rs,K=>qZ P A L H rs fun l=>K (fU A t::l)
 | .cell a t::rs,K=>nN P t (fU A a) L H fun x=>qZ P A L H rs fun l=>K (x::l)
theorem GK {P:Program} {n:Nat} {A:List (Nat×AV)} {L:List (Nat×List AV)} {H:List Blk} (ao:eg n A=true): ∀(rs:List ResultVar) (K:List AV→Prop),qY P ⟨bI n A,L,H⟩ rs K=qZ P A L H rs K
 | [],K=>rfl
 | .tmp t::rs,K=>by
  show qY P ⟨bI n A,L,H⟩ rs (fun l=>K ((bI n A).getD t .undef::l))=qZ P A L H rs fun l=>K (fU A t::l)
  rw[pF ao];exact GK ao rs _
 | .cell a t::rs,K=>by
  show nN P t ((bI n A).getD a .undef) L H _=nN P t (fU A a) L H _
  rw[pF ao]
  congr 1
  funext x
  exact GK ao rs _
theorem GN {P:Program} {fn:Func} {n:Nat} {A:List (Nat×AV)} {L:List (Nat×List AV)} {H:List Blk} {r:AV} {Q:AV→List Blk→Prop} (ao:eg n A=true) (l:List AV) (e: ∀K,qZ P A L H fn.results.toList K=K l) (av:l.all jC=true) (hw:pZ l=r) (h:Q r H):sw P fn Q .ret ⟨bI n A,L,H⟩:=by
 show sb P fn ⟨bI n A,L,H⟩ Q
 unfold sb
 rw[GK ao,e]
 exact⟨av,by rw[hw];exact h⟩
theorem Tr {P:Program} {fn:Func} {n:Nat} {A:List (Nat×AV)} {L:List (Nat×List AV)} {H:List Blk} {r:AV} {Q:AV→List Blk→Prop} (ao:eg n A=true) (l:List AV) (e: ∀K,qZ P A L H fn.results.toList K=K l) (av:l.all jC=true) (hw:pZ l=r) (h:Q r H):sw P fn Q .normal ⟨bI n A,L,H⟩:=
 GN (fn:=fn) ao l e av hw h
theorem Jz {P:Program} {esc:List Nat} {ops:Array Oper} {n:Nat} {K:List (Nat×AV)→List (Nat×List AV)→List Blk→Prop}: ∀(kh hM:List Oper) (A:List (Nat×AV)) (L:List (Nat×List AV)) (H:List Blk),
  evS P esc ops n (kh++hM) A L H K=evS P esc ops n kh A L H fun A L H=>evS P esc ops n hM A L H K
 | [],hM,A,L,H=>rfl
 | o::r,hM,A,L,H=>by
  show evS P esc ops n (o::(r++hM)) A L H K=_
  simp only[evS,Jz r hM]
theorem js {P:Program} {esc:List Nat} {ops:Array Oper} {n:Nat} {K:List (Nat×AV)→List (Nat×List AV)→List Blk→Prop} {A:List (Nat×AV)} {L:List (Nat×List AV)} {H:List Blk} (X:List Oper) (i k:Nat):
  evS P esc ops n (X.drop i) A L H K=evS P esc ops n ((X.drop i).take k) A L H fun A L H=>evS P esc ops n (X.drop (i+k)) A L H K:=by
 rw[←Jz,←List.drop_drop,List.take_append_drop]
theorem Jx {P:Program} {esc:List Nat} {ops:Array Oper} {n:Nat} {K:List (Nat×AV)→List (Nat×List AV)→List Blk→Prop}: ∀(kh hM:List Item) (A:List (Nat×AV)) (L:List (Nat×List AV)) (H:List Blk),
  evSD P esc ops n (kh++hM) A L H K=evSD P esc ops n kh A L H fun A L H=>evSD P esc ops n hM A L H K
 | [],hM,A,L,H=>rfl
 | o::r,hM,A,L,H=>by
  show evSD P esc ops n (o::(r++hM)) A L H K=_
  simp only[evSD,Jx r hM]
theorem mn {P:Program} {esc:List Nat} {ops:Array Oper} {n:Nat} {K:List (Nat×AV)→List (Nat×List AV)→List Blk→Prop} {A:List (Nat×AV)} {L:List (Nat×List AV)} {H:List Blk} (X:List Item) (i k:Nat):
  evSD P esc ops n (X.drop i) A L H K=evSD P esc ops n ((X.drop i).take k) A L H fun A L H=>evSD P esc ops n (X.drop (i+k)) A L H K:=by
 rw[←Jx,←List.drop_drop,List.take_append_drop]
theorem map_set {α β:Type} (f:α→β) (xs:List α) (i:Nat) (x:α):(List.map f xs).set i (f x)=List.map f (xs.set i x):=by
 rw[List.map_set]
theorem BY {H:List Blk} {α:Type} {eT eF:α→List AV} {b g sz n:Nat} {full:Bool} {xs ys:List α} (ao:n=xs.length) (hb:H[b]?=some ⟨g,sz,List.map eT xs⟩) (hc: ∀x,j9 H (eT x) (eF x)) (h:xs.length≤4611686018427387904∧xs=ys):
  ft H (.ref b g 0 n full) (.aV (List.map eF ys) false true):=ao▸Qy hb hc h
theorem tJ {L:List (Nat×List AV)} {H:List Blk} {α:Type} {eT eF:α→List AV} {b g sz n:Nat} {full:Bool} {xs:List α} (aI:n=xs.length) (hb:H[b]?=some ⟨g,sz,List.map eT xs⟩) (hc: ∀x,nw L H (eT x) (eF x)) (ao:xs.length≤4611686018427387904):
  fF L H (.ref b g 0 n full) (.aV (List.map eF xs) false false):=aI▸O5 hb hc ao
theorem GQ {α:Type} {enc:α→List AV} {k:Nat} (h: ∀x,(enc x).length=k∧(enc x).all iS=true) (ys:List α):se k (List.map enc ys):=fun row av=>by
 obtain⟨x,_,rfl⟩:=List.mem_map.1 av
 exact⟨(h x).1,fun a aF=>List.all_eq_true.1 (h x).2 a aF⟩
theorem AY {α:Type} {c:Bool} {x y:List α} {n:Nat} (hx:x.length=n) (ba:y.length=n):(bif c then x else y).length=n:=by cases c<;>assumption
def nB:List (Nat×AV)→List (Nat×AV)→List (Nat×AV)
 | [],R=>R
 | p::N,R=>p::nB N R
def Ji:List (Nat×AV)→List (Nat×AV)→List (Nat×AV)
 | [],A=>A
 | p::N,A=>kY (Ji N A) p.1
def gg (N A:List (Nat×AV)):List (Nat×AV):=nB N (Ji N A)
def ds (d:Option Nat) (v:AV) (N A:List (Nat×AV)):List (Nat×AV):=match d with
 | some d=>gg ((d,v)::N) A
 | none=>gg N A
def tM:List (Nat×AV)→Nat→AV→List (Nat×AV)
 | [],_,_=>[]
 | (k,u)::r,t,v=>match Nat.beq k t with
  | true=>(k,v)::r
  | false=>(k,u)::tM r t v
abbrev ax (n:Int):AV:= .int .i64 n
abbrev aA (b:Bool):AV:= .bool b
abbrev bG {α:Type} (e:α→List AV) (x:List α):AV:= .aV (List.map e x) false false
abbrev bw:AV:= .aV [] true true
abbrev n8 {α:Type} (e:α→List AV) (x:List α):AV:= .aV (List.map e x) false true
abbrev aD (b g n:Nat):AV:= .ref b g 0 n false
abbrev bc (t c:Nat):AV:= .e7 t c
abbrev t0:AV:= .tup []
def gI (l:List Nat):List (Nat×AV):=l.map fun i=>(i,.tup [])
def NN:Bool→List Nat→Bool×List Nat
 | b,0::m=>NN (!b) m
 | b,m=>(b,m)
def kn {α:Type} (b:Bool) (m:List Nat):List α→List α
 | []=>[]
 | x::l=>match NN b m with
  | (true,(n+1)::m)=>x::kn true (n::m) l
  | (false,(n+1)::m)=>kn false (n::m) l
  | _=>[]
theorem yE {α:Type} {n:Nat} {m:List Nat} {x:α} {l:List α}:kn true ((n+1)::m) (x::l)=x::kn true (n::m) l:=rfl
theorem yD {α:Type} {n:Nat} {m:List Nat} {x:α} {l:List α}:kn false ((n+1)::m) (x::l)=kn false (n::m) l:=rfl
theorem yF {α:Type} {m:List Nat} {l:List α}:kn true (0::m) l=kn false m l:=by cases l<;>rfl
theorem self {α:Type} {m:List Nat} {l:List α}:kn false (0::m) l=kn true m l:=by cases l<;>rfl
theorem yC {α:Type} {b:Bool} {l:List α}:kn b [] l=[]:=by cases b<;>cases l<;>rfl
def ia (j:Nat) (r:List (List AV)):List Blk→List Blk
 | []=>[]
 | b::H=>match j with
  | 0=>⟨b.bi,b.sz,r⟩::H
  | j+1=>b::ia j r H
def il (i j:Nat) (a:AV):List (Nat×List AV)→List (Nat×List AV)
 | []=>[]
 | x::L=>match i with
  | 0=>(x.1,x.2.set j a)::L
  | i+1=>x::il i j a L
def er (i:Nat) (a:List AV):List (Nat×List AV)→List (Nat×List AV)
 | []=>[]
 | x::L=>match i with
  | 0=>(x.1,a)::L
  | i+1=>x::er i a L
def eM (i:Nat) (b:Blk):List Blk→List Blk
 | []=>[]
 | x::H=>match i with
  | 0=>b::H
  | i+1=>x::eM i b H
section
variable {i j k:Nat} {a:AV} {c l:List AV} {L:List (Nat×List AV)} {x:Nat×List AV} {b y:Blk} {H:List Blk}
theorem Jl:il 0 j a ((k,c)::L)=(k,c.set j a)::L:=rfl
theorem Jm:il (i+1) j a (x::L)=x::il i j a L:=rfl
theorem Jt:er 0 l ((k,c)::L)=(k,l)::L:=rfl
theorem Ju:er (i+1) l (x::L)=x::er i l L:=rfl
theorem IL:eM 0 b (y::H)=b::H:=rfl
theorem IM:eM (i+1) b (y::H)=y::eM i b H:=rfl
end
abbrev aj (i:Nat):Item:=⟨i,true,true,[]⟩
abbrev rg (a b:Nat):List Nat:=List.range' a (b - a)
def uo [cw] {V:Type} (S:V→St) (re:V→Prop) (Q:Exit→St→Prop) (ex:Exit) (s:St):Prop:=match ex with
 | .normal=> ∃v,re v∧Weak s (S v)
 | ex=>Q ex s
theorem uo.normal [cw] {V:Type} {S:V→St} {re:V→Prop} {Q:Exit→St→Prop} {s:St} (v:V) (h:re v) (hw:Weak s (S v)):uo S re Q .normal s:=⟨v,h,hw⟩
theorem uo.ret [cw] {V:Type} {S:V→St} {re:V→Prop} {Q:Exit→St→Prop} {s:St} (h:Q .ret s):uo S re Q .ret s:=h
theorem uo.exit [cw] {V:Type} {S:V→St} {re:V→Prop} {Q:Exit→St→Prop} {s:St} {id:Nat} (h:Q (.exit id) s):uo S re Q (.exit id) s:=h
section
variable {P:Program} {b:Code} {k n:Nat} {Q:Exit→St→Prop} {ay:St} {A A':List (Nat×AV)} {L L':List (Nat×List AV)} {H H':List Blk}
theorem lg [cw] (S:St) (ψ:Prop) (h:WpS P (bU b (2*k)) (di S ψ Q) ay) (af:ψ→WpS P (bU b (2*k+1)) Q S) (e:bU b k= .seq (bU b (2*k)) (bU b (2*k+1)):=by kernel_rfl):WpS P (bU b k) Q ay:=WpS.v7 S e h af
theorem ek [cw] (N:List (Nat×AV)) (m:List Nat) (ψ:Prop) (h:WpS P (bU b (2*k)) (di ⟨bI n A',L,H⟩ ψ Q) ⟨bI n A,L,H⟩) (af:ψ→WpS P (bU b (2*k+1)) Q ⟨bI n A',L,H⟩) (cN:nB N (kn true m A)=A':=by simp only[nB,yE,yD,yF,self,yC];rfl) (e:bU b k= .seq (bU b (2*k)) (bU b (2*k+1)):=by kernel_rfl):WpS P (bU b k) Q ⟨bI n A,L,H⟩:=WpS.v7 _ e h af
theorem h7 [cw] (N:List (Nat×AV)) (m:List Nat) (DK:List (Nat×List AV)→List (Nat×List AV)) (DJ:List Blk→List Blk) (ψ:Prop) (h:WpS P (bU b (2*k)) (di ⟨bI n A',L',H'⟩ ψ Q) ⟨bI n A,L,H⟩) (af:ψ→WpS P (bU b (2*k+1)) Q ⟨bI n A',L',H'⟩) (bN:DK L=L':=by first | (simp only[id,Jl,Jm,Jt,Ju,List.set_cons_zero,List.set_cons_succ];rfl) | (dsimp only;rfl) | rfl) (aB:DJ H=H':=by first | (simp only[id,IL,IM,List.cons_append,List.nil_append];rfl) | (dsimp only;rfl) | rfl) (cN:nB N (kn true m A)=A':=by simp only[nB,yE,yD,yF,self,yC];rfl) (e:bU b k= .seq (bU b (2*k)) (bU b (2*k+1)):=by kernel_rfl):WpS P (bU b k) Q ⟨bI n A,L,H⟩:=WpS.v7 _ e h af
theorem kc [cw] (h:WpS P (bU b (2*k)) (eH P (bU b (2*k+1)) Q) ay) (e:bU b k= .seq (bU b (2*k)) (bU b (2*k+1)):=by kernel_rfl):WpS P (bU b k) Q ay:=WpS.seq' e h
theorem rp [cw] (o:Operand) (z:Bool) (h1:z=true→WpS P (bU b (2*k)) Q ⟨bI n A,L,H⟩) (h2:z=false→WpS P (bU b (2*k+1)) Q ⟨bI n A,L,H⟩) (e:bU b k= .cond o (bU b (2*k)) (bU b (2*k+1)):=by kernel_rfl)
  (ao:eg n A=true:=by kernel_rfl) (aG:oJ A o= .bool z:=by kernel_rfl):WpS P (bU b k) Q ⟨bI n A,L,H⟩:=WpS.SS e (SU ao aG) h1 h2
theorem iY [cw] (id:Nat) (h:WpS P (bU b (2*k)) (ej id Q) ay) (e:bU b k= .block id (bU b (2*k)):=by kernel_rfl):WpS P (bU b k) Q ay:=WpS.R_ e h
theorem gl [cw] (h:Q .normal ay) (e:bU b k= .skip:=by kernel_rfl):WpS P (bU b k) Q ay:=WpS.ace e h
theorem jT [cw] (h:Q .ret ay) (e:bU b k= .ret:=by kernel_rfl):WpS P (bU b k) Q ay:=WpS.abJ e h
theorem mj [cw] (id:Nat) (h:Q (.exit id) ay) (e:bU b k= .exit id:=by kernel_rfl):WpS P (bU b k) Q ay:=WpS.Tx e h
theorem ob [cw] {V:Type} (S:V→St) (I:V→Prop) (m:V→Nat) (v0:V) (hs:Weak ay (S v0)) (aI:I v0) (round: ∀v,I v→WpS P (bU b (2*k)) (fi S I m v Q) (S v)) (e:bU b k= .loop (bU b (2*k)):=by kernel_rfl):WpS P (bU b k) Q ay:=
 WpS.Nq S I m e v0 hs aI round
theorem cy [cw] (esc:List Nat) (id:Nat) (h:evS P esc (j6 b k) n ((j6 b k).toList.drop 0) A L H (fun A L H=>Q .normal ⟨bI n A,L,H⟩)) (e:bU b k= .region id (j6 b k) false:=by kernel_rfl) (ao:eg n A=true:=by kernel_rfl):WpS P (bU b k) Q ⟨bI n A,L,H⟩:=
 WpS.BE (esc:=esc) e ao h
theorem sc [cw] (esc:List Nat) (id:Nat) (ord:List Item) (jn:List (List Nat)) (hS:List (Nat×List AV)) (h:evSD P esc (j6 b k) n (ord.drop 0) A (hS++L) H (fun A L H=>Q .normal ⟨bI n A,L,H⟩)) (hm:P.follows .mixedOrders=true:=by kernel_rfl) (aE:jn.length=(j6 b k).size:=by kernel_rfl)
  (aZ:uK (j6 b k) ord (wU jn)=true:=by kernel_rfl) (EB:ord.all (·.lit)=true:=by kernel_rfl) (e:bU b k= .region id (j6 b k) true:=by kernel_rfl) (ao:eg n A=true:=by kernel_rfl) (hf:sJ hS L=true:=by kernel_rfl) (aH:sy (j6 b k) L ord=true:=by kernel_rfl):WpS P (bU b k) Q ⟨bI n A,L,H⟩:=
 WpS.abH (esc:=esc) ord jn hm aE aZ EB e ao hS hf aH h
theorem iZ [cw] (esc:List Nat) (id:Nat) (mh:List (Nat×AV)) (x1 m:List Nat) (af:WpS P (bU b (2*k+1)) Q ⟨bI n A',L,H⟩) (cN:nB (kn true x1 mh) (kn true m A)=A':=by simp only[nB,yE,yD,yF,self,yC];rfl) (e:bU b k= .seq (bU b (2*k)) (bU b (2*k+1)):=by kernel_rfl)
  (e2:bU b (2*k)= .region id (j6 b (2*k)) false:=by kernel_rfl) (ao:eg n A=true:=by kernel_rfl) (dq: ∀K,evS P esc (j6 b (2*k)) n ((j6 b (2*k)).toList.drop 0) A L H K=K (gg mh A) L H:=by intro K;kernel_rfl) (kZ:mA (gg mh A) A'=A':=by kernel_rfl)
  (h1:eg n (gg mh A)=true:=by kernel_rfl) (h2:eg n A'=true:=by kernel_rfl):WpS P (bU b k) Q ⟨bI n A,L,H⟩:=
 WpS.v7 ⟨bI n A',L,H⟩ (ψ:=True) e (WpS.BE (esc:=esc) e2 ao (by rw[dq];exact⟨trivial,wv h1 h2 kZ⟩)) fun _=>af
theorem uG [cw] (esc:List Nat) (id:Nat) (mh:List (Nat×AV)) (x1 m:List Nat) (L':List (Nat×List AV)) (H':List Blk) (af:WpS P (bU b (2*k+1)) Q ⟨bI n A',L',H'⟩) (cN:nB (kn true x1 mh) (kn true m A)=A':=by simp only[nB,yE,yD,yF,self,yC];rfl) (e:bU b k= .seq (bU b (2*k)) (bU b (2*k+1)):=by kernel_rfl)
  (e2:bU b (2*k)= .region id (j6 b (2*k)) false:=by kernel_rfl) (ao:eg n A=true:=by kernel_rfl) (dq: ∀K,evS P esc (j6 b (2*k)) n ((j6 b (2*k)).toList.drop 0) A L H K=K (gg mh A) L' H':=by intro K;kernel_rfl) (kZ:mA (gg mh A) A'=A':=by kernel_rfl)
  (h1:eg n (gg mh A)=true:=by kernel_rfl) (h2:eg n A'=true:=by kernel_rfl):WpS P (bU b k) Q ⟨bI n A,L,H⟩:=
 WpS.v7 ⟨bI n A',L',H'⟩ (ψ:=True) e (WpS.BE (esc:=esc) e2 ao (by rw[dq];exact⟨trivial,wv h1 h2 kZ⟩)) fun _=>af
theorem zz [cw] (esc:List Nat) (id:Nat) (mh:List (Nat×AV)) (x1 m:List Nat) (DK:List (Nat×List AV)→List (Nat×List AV)) (DJ:List Blk→List Blk) (af:WpS P (bU b (2*k+1)) Q ⟨bI n A',L',H'⟩) (bN:DK L=L':=by first | (simp only[id,Jl,Jm,Jt,Ju,List.set_cons_zero,List.set_cons_succ];rfl) | (dsimp only;rfl) | rfl) (aB:DJ H=H':=by first | (simp only[id,IL,IM,List.cons_append,List.nil_append];rfl) | (dsimp only;rfl) | rfl) (cN:nB (kn true x1 mh) (kn true m A)=A':=by simp only[nB,yE,yD,yF,self,yC];rfl) (e:bU b k= .seq (bU b (2*k)) (bU b (2*k+1)):=by kernel_rfl)
  (e2:bU b (2*k)= .region id (j6 b (2*k)) false:=by kernel_rfl) (ao:eg n A=true:=by kernel_rfl) (dq: ∀K,evS P esc (j6 b (2*k)) n ((j6 b (2*k)).toList.drop 0) A L H K=K (gg mh A) L' H':=by intro K;kernel_rfl) (kZ:mA (gg mh A) A'=A':=by kernel_rfl)
  (h1:eg n (gg mh A)=true:=by kernel_rfl) (h2:eg n A'=true:=by kernel_rfl):WpS P (bU b k) Q ⟨bI n A,L,H⟩:=
 WpS.v7 ⟨bI n A',L',H'⟩ (ψ:=True) e (WpS.BE (esc:=esc) e2 ao (by rw[dq];exact⟨trivial,wv h1 h2 kZ⟩)) fun _=>af
theorem hF [cw] {t:Nat} {z:Bool} (h1:z=true→WpS P (bU b (2*k)) Q ⟨bI n ((t,.bool z)::A),L,H⟩) (h2:z=false→WpS P (bU b (2*k+1)) Q ⟨bI n ((t,.bool z)::A),L,H⟩) (e:bU b k= .cond (.tmp t) (bU b (2*k)) (bU b (2*k+1)):=by kernel_rfl)
  (ao:eg n ((t,.bool z)::A)=true:=by kernel_rfl):WpS P (bU b k) Q ⟨bI n ((t,.bool z)::A),L,H⟩:=rp (.tmp t) z h1 h2 e ao (by show fU ((t,.bool z)::A) t=_;unfold fU;rw[show Nat.beq t t=true from Nat.beq_refl t])
theorem dw.go {f:FuncId} {fn:Func} {args:List AV} {H:List Blk} {R:AV→List Blk→Prop} (A:List (Nat×AV)) (hf:P.funcs[f]?=some fn) (h: ∀h5:cw,h5.n=H.length→WpS P (bU (jS fn) 1) (sw P fn R) ⟨bI fn.ntmps A,[],H⟩) (hb:fn.body=some (bU (jS fn) 1):=by kernel_rfl) (ao:(fn.name== "runtime.NumGoroutine")=false:=by kernel_rfl)
  (hi:AQ fn args H=⟨bI fn.ntmps A,[],H⟩:=by kernel_rfl):dw P f args H R:=dw.Gg hf hb ao fun h5 fS=>hi▸h h5 fS
theorem tI {fn:Func} {R:AV→List Blk→Prop} (r:AV) (h:R r H) (ao:eg n A=true:=by kernel_rfl) (e: ∀K,qZ P A L H fn.results.toList K=K [r]:=by intro K;kernel_rfl) (av:[r].all jC=true:=by kernel_rfl):sw P fn R .ret ⟨bI n A,L,H⟩:=GN ao [r] e av rfl h
theorem gi [cw] (kZ:mA A A'=A':=by kernel_rfl) (cN:eg n A=true:=by kernel_rfl) (lQ:eg n A'=true:=by kernel_rfl):Weak ⟨bI n A,L,H⟩ ⟨bI n A',L,H⟩:=wv cN lQ kZ
theorem hR [cw] (cH:List Nat) (cN:eg n A=true:=by kernel_rfl) (lQ:eg n A'=true:=by kernel_rfl) (ai:xZ cH A'=true:=by kernel_rfl) (kZ:mA A A'=A':=by kernel_rfl) (fR:mW cH L=L':=by kernel_rfl):Weak ⟨bI n A,L,H⟩ ⟨bI n A',L',H⟩:=aeC cH cN lQ ai kZ fR
theorem np {fn:Func} {R:AV→List Blk→Prop} (r:AV) (l:List AV) (h:R r H) (ao:eg n A=true:=by kernel_rfl) (e: ∀K,qZ P A L H fn.results.toList K=K l:=by intro K;kernel_rfl) (av:l.all jC=true:=by kernel_rfl) (hw:pZ l=r:=by kernel_rfl):sw P fn R .ret ⟨bI n A,L,H⟩:=GN ao l e av hw h
theorem Dz {fn:Func} {R:AV→List Blk→Prop} (r:AV) (l:List AV) (h:R r H) (ao:eg n A=true:=by kernel_rfl) (e: ∀K,qZ P A L H fn.results.toList K=K l:=by intro K;kernel_rfl) (av:l.all jC=true:=by kernel_rfl) (hw:pZ l=r:=by kernel_rfl):sw P fn R .normal ⟨bI n A,L,H⟩:=Tr ao l e av hw h
end
section
variable {P:Program} {esc:List Nat} {ops:Array Oper} {n:Nat} {X:List Oper} {i0:Nat} {A:List (Nat×AV)} {L:List (Nat×List AV)} {H:List Blk} {K:List (Nat×AV)→List (Nat×List AV)→List Blk→Prop}
theorem dh [cw] {A':List (Nat×AV)} {L':List (Nat×List AV)} {H':List Blk} {ψ:Prop} {Q:Exit→St→Prop} (N:List (Nat×AV)) (ai:ψ) (kZ:mA (gg N A) A'=A':=by kernel_rfl) (e: ∀K,evS P esc ops n (X.drop i0) A L H K=K (gg N A) L' H':=by intro K;kernel_rfl)
  (cN:eg n (gg N A)=true:=by kernel_rfl) (lQ:eg n A'=true:=by kernel_rfl):evS P esc ops n (X.drop i0) A L H (fun A L H=>di ⟨bI n A',L',H'⟩ ψ Q .normal ⟨bI n A,L,H⟩):=by
 rw[e];exact⟨ai,wv cN lQ kZ⟩
theorem pO (bf t:Nat) (b:Bool) (N:List (Nat×AV)) (h1:b=true→evS P esc ops n (X.drop (i0+bf)) (tM (gg ((t,.bool b)::N) A) t (.bool true)) L H K) (h2:b=false→evS P esc ops n (X.drop (i0+bf)) (tM (gg ((t,.bool b)::N) A) t (.bool false)) L H K)
  (e: ∀K,evS P esc ops n ((X.drop i0).take bf) A L H K=K (tM (gg ((t,.bool b)::N) A) t (.bool b)) L H:=by intro K;kernel_rfl):evS P esc ops n (X.drop i0) A L H K:=by
 rw[js X i0 bf,e]
 cases b with
 | true=>exact h1 rfl
 | false=>exact h2 rfl
theorem gH (N:List (Nat×AV)) (h:K (gg N A) L H) (e: ∀K,evS P esc ops n (X.drop i0) A L H K=K (gg N A) L H:=by intro K;kernel_rfl):evS P esc ops n (X.drop i0) A L H K:=by
 rw[e];exact h
theorem O4 (N:List (Nat×AV)) (L':List (Nat×List AV)) (H':List Blk) (h:K (gg N A) L' H') (e: ∀K,evS P esc ops n (X.drop i0) A L H K=K (gg N A) L' H':=by intro K;kernel_rfl):evS P esc ops n (X.drop i0) A L H K:=by
 rw[e];exact h
theorem GX (bf:Nat) (N:List (Nat×AV)) (L':List (Nat×List AV)) (H':List Blk) (h:evS P esc ops n (X.drop (i0+bf)) (gg N A) L' H' K) (e: ∀K,evS P esc ops n ((X.drop i0).take bf) A L H K=K (gg N A) L' H':=by intro K;kernel_rfl):evS P esc ops n (X.drop i0) A L H K:=by
 rw[js X i0 bf,e];exact h
theorem BM (bf:Nat) (d:Option Nat) (v:AV) (N:List (Nat×AV)) {φ:Prop} (h1:φ) (h:evS P esc ops n (X.drop (i0+bf)) (ds d v N A) L H K) (e: ∀K,evS P esc ops n ((X.drop i0).take bf) A L H K=(φ∧K (ds d v N A) L H):=by intro K;kernel_rfl):evS P esc ops n (X.drop i0) A L H K:=by
 rw[js X i0 bf,e];exact⟨h1,h⟩
theorem oU (bf:Nat) (d:Option Nat) (N:List (Nat×AV)) {α:Type} [Inhabited α] (enc:α→List AV) (xs:List α) {i:Int} (m:Nat)
  (aI:0≤i∧i.toNat<xs.length) (h:evS P esc ops n (X.drop (i0+bf)) (ds d (.da (enc (nth xs i)) 0) N A) L H K) (ao: ∀x,(enc x).length=m:=by exact fun _=>rfl)
  (e: ∀K,evS P esc ops n ((X.drop i0).take bf) A L H K=(0≤i∧cM (List.map enc xs)[i.toNat]? fun row=>row.length=m∧K (ds d (.da row 0) N A) L H):=by intro K;kernel_rfl):evS P esc ops n (X.drop i0) A L H K:=by
 rw[js X i0 bf,e]
 refine⟨aI.1,dN (a:=enc (nth xs i)) ?_ ⟨ao _,h⟩⟩
 rw[List.getElem?_map,gZ aI.2];rfl
theorem GV (bf:Nat) (d:Option Nat) (N:List (Nat×AV)) (b g z:Nat) {i:Int} {m:Nat} (aI:0≤i∧i.toNat<m) (h:evS P esc ops n (X.drop (i0+bf)) (ds d (.ptr b g (0+i.toNat) 0) N A) L H K)
  (e: ∀K,evS P esc ops n ((X.drop i0).take bf) A L H K=(g=g∧z=z∧0≤i∧i<m∧K (ds d (.ptr b g (0+i.toNat) 0) N A) L H):=by intro K;kernel_rfl):evS P esc ops n (X.drop i0) A L H K:=by
 rw[js X i0 bf,e];exact⟨rfl,rfl,aI.1,by have:=aI.2;omega,h⟩
theorem abW (bf:Nat) (d:Option Nat) (N:List (Nat×AV)) {α:Type} [Inhabited α] (enc:α→List AV) (xs:List α) (i:Int) (t:TypeId) (c g:Nat) (v:AV) (av:i.toNat<xs.length) (h:evS P esc ops n (X.drop (i0+bf)) (ds d v N A) L H K)
  (e2: ∀K,ix P t (enc (nth xs i)) c K=K v:=by intro K;kernel_rfl)
  (e: ∀K,evS P esc ops n ((X.drop i0).take bf) A L H K=(g=g∧cM (List.map enc xs)[0+i.toNat]? fun row=>ix P t row c fun v=>K (ds d v N A) L H):=by intro K;kernel_rfl):evS P esc ops n (X.drop i0) A L H K:=by
 rw[js X i0 bf,e]
 refine⟨rfl,dN (a:=enc (nth xs i)) ?_ (by rw[e2];exact h)⟩
 rw[Nat.zero_add,List.getElem?_map,gZ av];rfl
theorem vX (bf:Nat) (d:Option Nat) (N:List (Nat×AV)) {g:FuncId} (args:List AV) {dH:List AV} {t:AV}
  (hf:bg P g dH t) (hs:aO (ey L H) args dH) (h:evS P esc ops n (X.drop (i0+bf)) (ds d t N A) L H K) (ao:args.all et=true:=by kernel_rfl) (e: ∀K,evS P esc ops n ((X.drop i0).take bf) A L H K=kw P g args L H (fun v L' H'=>K (ds d v N A) L' H'):=by intro K;kernel_rfl):evS P esc ops n (X.drop i0) A L H K:=by
 rw[js X i0 bf,e];exact .inl ⟨ao,dH,t,hs,hf,h⟩
theorem abX (bf:Nat) (d:Option Nat) (N:List (Nat×AV)) {α:Type} (enc:α→List AV) {i:Int} (B:Int) (z:List AV) (b:Nat) (H':List (List AV)→List Blk) (aL:α) (aI:0≤i∧B*i≤140737488355328∧i≤4611686018427387904)
  (h:evS P esc ops n (X.drop (i0+bf)) (ds d (.ref b 0 0 (List.replicate i.toNat aL).length false) N A) L (H' (List.map enc (List.replicate i.toNat aL))) K) (aH:z=enc aL:=by rfl)
  (e: ∀K,evS P esc ops n ((X.drop i0).take bf) A L H K=(0≤i∧i≤i∧B*i≤140737488355328∧i≤4611686018427387904∧K (ds d (.ref b 0 0 i.toNat false) N A) L (H' (List.replicate i.toNat z))):=by intro K;kernel_rfl):evS P esc ops n (X.drop i0) A L H K:=by
 rw[js X i0 bf,e]
 refine⟨aI.1,Int.le_refl _,aI.2.1,aI.2.2,?_⟩
 ·rw[aH,←List.map_replicate];rw[List.length_replicate] at h;exact h
theorem sf (bf:Nat) (d:Option Nat) (N:List (Nat×AV)) {α:Type} (enc:α→List AV) (ys:List α) (ch:List (List AV)) (b s B:Nat) (H':List (List AV)→List Blk) (hx:ch=List.map enc ys) (aI:ys.length*B≤140737488355328∧ys.length≤4611686018427387904)
  (h:evS P esc ops n (X.drop (i0+bf)) (ds d (.ref b 0 0 ys.length false) N A) L (H' (List.map enc ys)) K) (hk: ∀x,(enc x).length=s∧(enc x).all iS=true:=by exact fun _=>⟨rfl,rfl⟩)
  (e: ∀K,evS P esc ops n ((X.drop i0).take bf) A L H K=(true=true∧true=true∧se s ch∧true=true∧(∀row∈([]:List (List AV)),row.length=s)∧(List.length (α:=List AV) []+ch.length)*B≤140737488355328∧List.length (α:=List AV) []+ch.length≤4611686018427387904∧(([]:List (List AV))≠[]→ch≠[])∧
   K (ds d (.ref b 0 0 (List.length (α:=List AV) []+ch.length) false) N A) L (H' ([]++ch))):=by intro K;kernel_rfl):evS P esc ops n (X.drop i0) A L H K:=by
 rw[js X i0 bf,e]
 subst hx
 refine⟨rfl,rfl,GQ hk ys,rfl,(fun row h=>by cases h),by simpa using aI.1,by simpa using aI.2,(fun h=>absurd rfl h),?_⟩
 ·simpa using h
theorem BN (bf:Nat) (d:Option Nat) (N:List (Nat×AV)) {g:FuncId} (args:List AV) {dH:List AV} {eC:AV} {cE:List Blk} (r:AV) (lH:List Blk)
  (hf:dw P g dH [] fun r H'=>r=eC∧H'=cE) (hs:aO (ey L H) args dH) (xF:r7 cE=true) (Du:H++cE.map (kp H.length)=lH)
  (h:evS P esc ops n (X.drop (i0+bf)) (ds d r N A) L lH K) (ao:args.all et=true:=by kernel_rfl) (aG:vH eC=true:=by kernel_rfl) (er:oV H.length eC=r:=by kernel_rfl) (e: ∀K,evS P esc ops n ((X.drop i0).take bf) A L H K=kw P g args L H (fun v L' H'=>K (ds d v N A) L' H'):=by intro K;kernel_rfl):evS P esc ops n (X.drop i0) A L H K:=by
 rw[js X i0 bf,e]
 subst er;subst Du
 exact .inr (.inl ⟨ao,dH,hs,hf.mono fun cZ H1 ⟨h1,h2⟩=>by subst h1;subst h2;exact⟨aG,xF,h⟩⟩)
theorem sLen (bf:Nat) (d:Option Nat) (N:List (Nat×AV)) {α:Type} (enc:α→List AV) (xs:List α) (h:xs.length≤4611686018427387904→evS P esc ops n (X.drop (i0+bf)) (ds d (.int .i64 (xs.length:Nat)) N A) L H K)
  (e: ∀K,evS P esc ops n ((X.drop i0).take bf) A L H K=((List.map enc xs).length≤4611686018427387904→K (ds d (.int .i64 ((List.map enc xs).length:Nat)) N A) L H):=by intro K;kernel_rfl):evS P esc ops n (X.drop i0) A L H K:=by
 rw[js X i0 bf,e,List.length_map];exact h
theorem GY (bf:Nat) (d:Option Nat) (N:List (Nat×AV)) {α:Type} (enc:α→List AV) (xs:List α) (h1:xs≠[]→evS P esc ops n (X.drop (i0+bf)) (ds d (.bool false) N A) L H K) (h2:xs=[]→ ∀b,evS P esc ops n (X.drop (i0+bf)) (ds d (.bool b) N A) L H K)
  (e: ∀K,evS P esc ops n ((X.drop i0).take bf) A L H K=((List.map enc xs≠[]→K (ds d (.bool false) N A) L H)∧(List.map enc xs=[]→ ∀b,K (ds d (.bool b) N A) L H)):=by intro K;kernel_rfl):evS P esc ops n (X.drop i0) A L H K:=by
 rw[js X i0 bf,e]
 exact⟨fun h=>h1 fun e=>h (by rw[e];rfl),fun h=>h2 (by simpa using h)⟩
end
section
variable {P:Program} {esc:List Nat} {ops:Array Oper} {n:Nat} {X:List Item} {i0:Nat} {A:List (Nat×AV)} {L:List (Nat×List AV)} {H:List Blk} {K:List (Nat×AV)→List (Nat×List AV)→List Blk→Prop}
theorem lv [cw] {A':List (Nat×AV)} {L':List (Nat×List AV)} {H':List Blk} {ψ:Prop} {Q:Exit→St→Prop} (N:List (Nat×AV)) (ai:ψ) (kZ:mA (gg N A) A'=A':=by kernel_rfl) (e: ∀K,evSD P esc ops n (X.drop i0) A L H K=K (gg N A) L' H':=by intro K;kernel_rfl)
  (cN:eg n (gg N A)=true:=by kernel_rfl) (lQ:eg n A'=true:=by kernel_rfl):evSD P esc ops n (X.drop i0) A L H (fun A L H=>di ⟨bI n A',L',H'⟩ ψ Q .normal ⟨bI n A,L,H⟩):=by
 rw[e];exact⟨ai,wv cN lQ kZ⟩
theorem pS (bf t:Nat) (b:Bool) (N:List (Nat×AV)) (h1:b=true→evSD P esc ops n (X.drop (i0+bf)) (tM (gg ((t,.bool b)::N) A) t (.bool true)) L H K) (h2:b=false→evSD P esc ops n (X.drop (i0+bf)) (tM (gg ((t,.bool b)::N) A) t (.bool false)) L H K)
  (e: ∀K,evSD P esc ops n ((X.drop i0).take bf) A L H K=K (tM (gg ((t,.bool b)::N) A) t (.bool b)) L H:=by intro K;kernel_rfl):evSD P esc ops n (X.drop i0) A L H K:=by
 rw[mn X i0 bf,e]
 cases b with
 | true=>exact h1 rfl
 | false=>exact h2 rfl
theorem QH (N:List (Nat×AV)) (h:K (gg N A) L H) (e: ∀K,evSD P esc ops n (X.drop i0) A L H K=K (gg N A) L H:=by intro K;kernel_rfl):evSD P esc ops n (X.drop i0) A L H K:=by
 rw[e];exact h
theorem HQ (bf:Nat) (d:Option Nat) (v:AV) (N:List (Nat×AV)) {φ:Prop} (h1:φ) (h:evSD P esc ops n (X.drop (i0+bf)) (ds d v N A) L H K) (e: ∀K,evSD P esc ops n ((X.drop i0).take bf) A L H K=(φ∧K (ds d v N A) L H):=by intro K;kernel_rfl):evSD P esc ops n (X.drop i0) A L H K:=by
 rw[mn X i0 bf,e];exact⟨h1,h⟩
theorem aed (bf:Nat) (N:List (Nat×AV)) (L':List (Nat×List AV)) (H':List Blk) {φ:Prop} (h1:φ) (h:evSD P esc ops n (X.drop (i0+bf)) (gg N A) L' H' K) (e: ∀K,evSD P esc ops n ((X.drop i0).take bf) A L H K=(φ∧K (gg N A) L' H'):=by intro K;kernel_rfl):evSD P esc ops n (X.drop i0) A L H K:=by
 rw[mn X i0 bf,e];exact⟨h1,h⟩
theorem yR (bf:Nat) (d:Option Nat) (N:List (Nat×AV)) {α:Type} [Inhabited α] (enc:α→List AV) (xs:List α) {i:Int} (m:Nat)
  (aI:0≤i∧i.toNat<xs.length) (h:evSD P esc ops n (X.drop (i0+bf)) (ds d (.da (enc (nth xs i)) 0) N A) L H K) (ao: ∀x,(enc x).length=m:=by exact fun _=>rfl)
  (e: ∀K,evSD P esc ops n ((X.drop i0).take bf) A L H K=(0≤i∧cM (List.map enc xs)[i.toNat]? fun row=>row.length=m∧K (ds d (.da row 0) N A) L H):=by intro K;kernel_rfl):evSD P esc ops n (X.drop i0) A L H K:=by
 rw[mn X i0 bf,e]
 refine⟨aI.1,dN (a:=enc (nth xs i)) ?_ ⟨ao _,h⟩⟩
 rw[List.getElem?_map,gZ aI.2];rfl
theorem yQ (bf:Nat) (d:Option Nat) (N:List (Nat×AV)) (b g z:Nat) {i:Int} {m:Nat} (aI:0≤i∧i.toNat<m) (h:evSD P esc ops n (X.drop (i0+bf)) (ds d (.ptr b g (0+i.toNat) 0) N A) L H K)
  (e: ∀K,evSD P esc ops n ((X.drop i0).take bf) A L H K=(g=g∧z=z∧0≤i∧i<m∧K (ds d (.ptr b g (0+i.toNat) 0) N A) L H):=by intro K;kernel_rfl):evSD P esc ops n (X.drop i0) A L H K:=by
 rw[mn X i0 bf,e];exact⟨rfl,rfl,aI.1,by have:=aI.2;omega,h⟩
theorem yS (bf:Nat) (d:Option Nat) (N:List (Nat×AV)) {α:Type} [Inhabited α] (enc:α→List AV) (xs:List α) (i:Int) (t:TypeId) (c g:Nat) (v:AV) (av:i.toNat<xs.length) (h:evSD P esc ops n (X.drop (i0+bf)) (ds d v N A) L H K)
  (e2: ∀K,ix P t (enc (nth xs i)) c K=K v:=by intro K;kernel_rfl)
  (e: ∀K,evSD P esc ops n ((X.drop i0).take bf) A L H K=(g=g∧cM (List.map enc xs)[0+i.toNat]? fun row=>ix P t row c fun v=>K (ds d v N A) L H):=by intro K;kernel_rfl):evSD P esc ops n (X.drop i0) A L H K:=by
 rw[mn X i0 bf,e]
 refine⟨rfl,dN (a:=enc (nth xs i)) ?_ (by rw[e2];exact h)⟩
 rw[Nat.zero_add,List.getElem?_map,gZ av];rfl
theorem aec (bf:Nat) (d:Option Nat) (N:List (Nat×AV)) {g:FuncId} (args:List AV) {dH:List AV} {t:AV}
  (hf:bg P g dH t) (hs:aO (ey L H) args dH) (h:evSD P esc ops n (X.drop (i0+bf)) (ds d t N A) L H K) (ao:args.all et=true:=by kernel_rfl) (e: ∀K,evSD P esc ops n ((X.drop i0).take bf) A L H K=nD P g args L H (fun v=>K (ds d v N A) L H):=by intro K;kernel_rfl):evSD P esc ops n (X.drop i0) A L H K:=by
 rw[mn X i0 bf,e];exact⟨ao,dH,t,hs,hf,h⟩
theorem aeb (bf:Nat) (d:Option Nat) (N:List (Nat×AV)) {α:Type} (enc:α→List AV) (xs ys:List α) (ch:List (List AV)) (b g s B:Nat) (F:List (List AV)→Prop) (H':List (List AV)→List Blk) (hx:ch=List.map enc ys) (aI:(xs.length+ys.length)*B≤140737488355328∧xs.length+ys.length≤4611686018427387904)
  (eo:F ((List.map enc (xs++ys)))) (h:evSD P esc ops n (X.drop (i0+bf)) (ds d (.ref b (g+1) 0 (xs++ys).length false) N A) L (H' (List.map enc (xs++ys))) K) (hk: ∀x,(enc x).length=s∧(enc x).all iS=true:=by exact fun _=>⟨rfl,rfl⟩)
  (e: ∀K,evSD P esc ops n ((X.drop i0).take bf) A L H K=(true=true∧true=true∧se s ch∧0=0∧g=g∧s=s∧(List.map enc xs).length=xs.length∧(xs.length+ch.length)*B≤140737488355328∧xs.length+ch.length≤4611686018427387904∧F ((List.map enc xs++ch))∧K (ds d (.ref b (g+1) 0 (xs.length+ch.length) false) N A) L (H' (List.map enc xs++ch))):=by intro K;kernel_rfl):evSD P esc ops n (X.drop i0) A L H K:=by
 rw[mn X i0 bf,e]
 subst hx
 refine⟨rfl,rfl,GQ hk ys,rfl,rfl,rfl,List.length_map ..,by rw[List.length_map];exact aI.1,by rw[List.length_map];exact aI.2,?_,?_⟩
 ·rw[←List.map_append];exact eo
 ·rw[List.length_append] at h;rw[List.length_map,←List.map_append];exact h
theorem HR (bf:Nat) (d:Option Nat) (N:List (Nat×AV)) {g:FuncId} (args:List AV) {dH:List AV} {eC:AV} {cE:List Blk} (F:List (Nat×List AV)→List Blk→Prop) (r:AV) (lH:List Blk)
  (hf:dw P g dH [] fun r H'=>r=eC∧H'=cE) (hs:aO (ey L H) args dH) (xF:r7 cE=true) (Du:H++cE.map (kp H.length)=lH) (eo:F L lH)
  (h:evSD P esc ops n (X.drop (i0+bf)) (ds d r N A) L lH K) (ao:args.all et=true:=by kernel_rfl) (aG:vH eC=true:=by kernel_rfl) (er:oV H.length eC=r:=by kernel_rfl) (e: ∀K,evSD P esc ops n ((X.drop i0).take bf) A L H K=kw P g args L H (fun v L' H'=>F L' H'∧K (ds d v N A) L' H'):=by intro K;kernel_rfl):evSD P esc ops n (X.drop i0) A L H K:=by
 rw[mn X i0 bf,e]
 subst er;subst Du
 exact .inr (.inl ⟨ao,dH,hs,hf.mono fun cZ H1 ⟨h1,h2⟩=>by subst h1;subst h2;exact⟨aG,xF,eo,h⟩⟩)
theorem QI (bf:Nat) (d:Option Nat) (N:List (Nat×AV)) {α:Type} (enc:α→List AV) (xs:List α) (h:evSD P esc ops n (X.drop (i0+bf)) (ds d (.int .i64 (xs.length:Nat)) N A) L H K)
  (e: ∀K,evSD P esc ops n ((X.drop i0).take bf) A L H K=K (ds d (.int .i64 ((List.map enc xs).length:Nat)) N A) L H:=by intro K;kernel_rfl):evSD P esc ops n (X.drop i0) A L H K:=by
 rw[mn X i0 bf,e,List.length_map];exact h
end
inductive iA (H:List Blk) (bZ:Nat) (c0:Nat→Option Nat):AV→AV→Prop where
 | int (k:IntKind) (n:Int):iA H bZ c0 (.int k n) (.int k n)
 | bool (b:Bool):iA H bZ c0 (.bool b) (.bool b)
 | str (s:ByteArray):iA H bZ c0 (.str s) (.str s)
 | fI:iA H bZ c0 .fI .fI
 | fY:iA H bZ c0 .fY .fY
 | aV (rows:List (List AV)) (full de fr:Bool) (hw:de=true→full=true):iA H bZ c0 (.aV rows full fr) (.aV rows de fr)
 | ref {b g n j:Nat} {full:Bool} {blk:Blk} (ap:j<bZ) (hs:c0 j=some b) (hb:H[b]?=some blk) (aQ:blk.bi=g):iA H bZ c0 (.ref b g 0 n full) (.ref j 0 0 n false)
 | nil {a:AV} {j:Nat} (ap:j<bZ) (hs:c0 j=none) (h:qG a=true):iA H bZ c0 a (.ref j 0 0 0 false)
def Io (H:List Blk) (bZ:Nat) (c0:Nat→Option Nat) (a b:AV):Prop:=(∃l eK,a= .agg l∧b= .agg eK∧aO (iA H bZ c0) l eK)∨iA H bZ c0 a b
structure sv (H cE:List Blk) (c0:Nat→Option Nat):Prop where
 inj: ∀i j b,i<cE.length→j<cE.length→c0 i=some b→c0 j=some b→i=j
 bi: ∀(j:Nat) (k:Blk),cE[j]?=some k→k.bi=0
 blk: ∀(j b:Nat) (k:Blk),cE[j]?=some k→c0 j=some b→ ∃q,H[b]?=some q∧q.sz=k.sz∧aO (aO (iA H cE.length c0)) q.rows k.rows
def Env.own (E:Env) (cE:List Blk) (c0:Nat→Option Nat):Env:=
 {w:=E.w,PA:=E.PA,PF:=E.PF,mL:=fun _=>none,bi:=fun _=>0
  m:=fun j=>if j<cE.length then(match c0 j with
   | some b=>E.m b
   | none=>some none) else none
  sz:=fun j=>(cE[j]?.map Blk.sz).getD 0
  cp:=fun j=>match c0 j with
   | some b=>E.cp b
   | none=>0}
section
variable {E:Env} {H cE:List Blk} {c0:Nat→Option Nat}
theorem N2 {j b:Nat} (ap:j<cE.length) (hs:c0 j=some b):(E.own cE c0).m j=E.m b:=by
 show(if j<cE.length then _ else _)=_
 rw[if_pos ap,hs]
theorem aaN {j:Nat} (ap:j<cE.length) (hs:c0 j=none):(E.own cE c0).m j=some none:=by
 show(if j<cE.length then _ else _)=_
 rw[if_pos ap,hs]
theorem vF {j:Nat} {x:Option Nat} (h:(E.own cE c0).m j=some x):j<cE.length∧((c0 j=none∧x=none)∨ ∃b,c0 j=some b∧E.m b=some x):=by
 have h:(if j<cE.length then(match c0 j with
   | some b=>E.m b
   | none=>some none) else none)=some x:=h
 split at h
 ·rename_i ap
  refine⟨ap,?_⟩
  cases hs:c0 j with
  | none=>rw[hs] at h;cases h;exact .inl ⟨rfl,rfl⟩
  | some b=>rw[hs] at h;exact .inr ⟨b,rfl,h⟩
 ·cases h
theorem iA.v1 (aB:SimH E H) (c5:sv H cE c0) {a b:AV} (h:iA H cE.length c0 a b) {v:Value} (hv:b1 E a v):b1 (E.own cE c0) b v:=by
 cases h with
 | int k n=>exact hv
 | bool b=>exact hv
 | str s=>exact hv
 | fI=>exact hv
 | fY=>exact hv
 | aV rows full de fr hw=>
  have hv:aW E.w E.PA E.PF (.aV rows full fr) v:=hv
  cases hv with
  | aV eU e1 fG cd dQ hrel=>exact aW.aV eU e1 (fun h=>fG (hw h)) cd dQ hrel
 | @ref b g n j full blk ap hs hb aQ=>
  have ju:=aB.eI b blk hb
  have hk:cE[j]?=some cE[j]:=List.getElem?_eq_getElem ap
  obtain⟨q,af,cd,_⟩:=c5.blk j b _ hk hs
  rw[hb] at af
  obtain rfl:=Option.some.inj af
  rcases(show ez E (.ref b g 0 n full) v from hv) with⟨aX,_⟩ | ⟨fT,bD⟩
  ·omega
  ·refine .inr ⟨rfl,?_⟩
   rcases bD with⟨hm,_,ao,A,cN⟩ | ⟨c,cap,hm,e,h1,h2,aM⟩
   ·exact .inl ⟨by rw[N2 ap hs];exact hm,rfl,ao,A,cN⟩
   ·refine .inr ⟨c,cap,by rw[N2 ap hs];exact hm,by rw[e,Nat.zero_mul,Nat.zero_mul],h1,(fun h=>by cases h),?_⟩
    show 0+cap≤(match c0 j with
     | some b=>E.cp b
     | none=>0)
    rw[hs];exact aM
 | nil ap hs h=>exact Dy (E:=E) h hv rfl (aaN ap hs)
theorem aaO (aB:SimH E H) (bN: ∀t,E.mL t=none) (c5:sv H cE c0):SimH (E.own cE c0) cE:=by
 have hL:E.b0=E:=by
  have:E.mL=fun _=>none:=funext bN
  cases E;simp only[Env.b0] at*;subst this;rfl
 have oE: ∀c,(E.own cE c0).fk c→E.fk c:=fun c ⟨j,ap⟩=>by
  obtain⟨_,h | ⟨b,_,h⟩⟩:=vF ap
  ·cases h.2
  ·exact⟨b,h⟩
 exact{
  heap:=fun j c hm=>by
   obtain⟨ap,h | ⟨b,hs,hb⟩⟩:=vF hm
   ·cases h.2
   ·have hk:cE[j]?=some cE[j]:=List.getElem?_eq_getElem ap
    obtain⟨q,af,cd,av⟩:=c5.blk j b _ hk hs
    obtain⟨blk,aw,ty,q1,b5,q2,q3,q4,cW,cO⟩:=aB.heap b c hb
    rw[af] at q1
    obtain rfl:=Option.some.inj q1
    have aR:(E.own cE c0).sz j=E.sz b:=by
     show(cE[j]?.map Blk.sz).getD 0=_
     rw[hk,b5,cd];rfl
    have e2:(E.own cE c0).cp j=E.cp b:=by
     show(match c0 j with
      | some b=>E.cp b
      | none=>0)=_
     rw[hs]
    refine⟨_,aw,ty,hk,by rw[aR,b5,cd],q2,by rw[aR,e2];exact q3,by rw[e2,←av.1];exact q4,fun i row eO=> ?_,fun i l row a eO aF=> ?_⟩
    ·have aX:=(List.getElem?_eq_some_iff.1 eO).1
     have h1:q.rows[i]?=some (q.rows[i]'(by rw[av.1];exact aX)):=List.getElem?_eq_getElem _
     rw[aR,←(av.2 i _ row h1 eO).1];exact cW i _ h1
    ·have aX:=(List.getElem?_eq_some_iff.1 eO).1
     have h1:q.rows[i]?=some (q.rows[i]'(by rw[av.1];exact aX)):=List.getElem?_eq_getElem _
     have ai:=av.2 i _ row h1 eO
     have VL:=(List.getElem?_eq_some_iff.1 aF).1
     have h2:=List.getElem?_eq_getElem (l:=q.rows[i]'(by rw[av.1];exact aX)) (i:=l) (by rw[ai.1];exact VL)
     obtain⟨u,hu,hv⟩:=cO i l _ _ h1 h2
     rw[hL] at hv
     exact⟨u,by rw[aR];exact hu,(ai.2 l _ a h2 aF).v1 aB c5 hv⟩
  eI:=fun j k hk=>(c5.bi j k hk).symm
  gQ:=fun j hm=>by
   obtain⟨ap,_⟩:=vF hm
   have hk:cE[j]?=some cE[j]:=List.getElem?_eq_getElem ap
   exact⟨_,hk,by show(cE[j]?.map Blk.sz).getD 0=_;rw[hk];rfl⟩
  fresh:=fun j ap=>⟨by show(if j<cE.length then _ else _)=_;rw[if_neg (by omega)],rfl⟩
  gF:=fun i j c h1 h2=>by
   obtain⟨hi,h | ⟨b,hs,hb⟩⟩:=vF h1
   ·cases h.2
   ·obtain⟨ap,h | ⟨bT,m8,ea⟩⟩:=vF h2
    ·cases h.2
    ·have:=aB.gF b bT c hb ea
     subst this
     exact c5.inj i j b hi ap hs m8
  iL:=fun t hz c h=>by cases h
  gn:=fun b t c _ h=>by cases h
  hq:=fun c hc h=>aB.hq c hc (oE c h)
  hN:=fun c hc ⟨t,h⟩=>by cases h
  dr:=aB.dr
  fh:=aB.fh
  dy:=aB.dy
  fl:=fun c h=>aB.fl c (oE c h)
  gf:=fun c ⟨t,h⟩=>by cases h}
end
theorem dw.toOwn {P:Program} {f:FuncId} {args:List AV} {eC:AV} {cE:List Blk} (h:dw P f args [] fun r H=> ∃c0,sv H cE c0∧Io H cE.length c0 r eC):dw P f args [] fun r H=>r=eC∧H=cE:=by
 refine⟨h.1,fun E vs ao hs aF=>(h.2 E vs ao hs aF).mono ?_⟩
 rintro e w' ⟨r,v,H',E',rfl,⟨c0,c5,xj⟩,rfl,VM,m8,hv,a8⟩
 refine⟨eC,v,cE,E'.own cE c0,rfl,⟨rfl,rfl⟩,rfl,fun _=>rfl,aaO m8 VM c5,?_,?_⟩
 ·rcases xj with⟨l,eK,rfl,rfl,ai⟩ | xj
  ·obtain⟨ew,rfl,af⟩:=(show ∃ew:List Value,v= .agg ew.toArray∧aO (b1 E') l ew from hv)
   refine⟨ew,rfl,ai.1▸af.1,fun i a u aF hu=> ?_⟩
   have aX:i<l.length:=by rw[ai.1];exact(List.getElem?_eq_some_iff.1 aF).1
   have h1:=List.getElem?_eq_getElem aX
   exact(ai.2 i _ a h1 aF).v1 m8 c5 (af.2 i _ u h1 hu)
  ·have kf:b1 E' r v:=by
    rw[nz,ny] at hv
    ·exact hv
    ·rintro l rfl;cases xj with
     | nil ap hs hx=>exact absurd hx Bool.false_ne_true
    ·rintro l rfl;cases xj with
     | nil ap hs hx=>exact absurd hx Bool.false_ne_true
   exact o6 (jp (xj.v1 m8 c5 kf))
 ·have oE: ∀c,(E'.own cE c0).fk c→E'.fk c:=fun c ⟨j,ap⟩=>by
   obtain⟨_,h | ⟨b,_,h⟩⟩:=vF ap
   ·cases h.2
   ·exact⟨b,h⟩
  exact{
   le:=⟨a8.le.fo,a8.le.e9,a8.le.sl,a8.le.wf,fun b=>by rw[(hs.fresh b (Nat.zero_le _)).2];exact Nat.zero_le _,(fun b x hm _=>by rw[(hs.fresh b (Nat.zero_le _)).1] at hm;cases hm),(fun t c hm=>by rw[ao t] at hm;cases hm)⟩
   os:=a8.os,tape:=a8.tape,output:=a8.output,size:=a8.size,cT:=a8.cT
   iu:=fun b c hb=>(a8.nL c (oE c ⟨b,hb⟩)).elim (fun⟨j,ap⟩=>by rw[(hs.fresh j (Nat.zero_le _)).1] at ap;cases ap) .inr
   iK:=fun c ⟨t,h⟩=>by cases h
   fo:=a8.fo,e9:=a8.e9}
theorem sv.nil {H:List Blk} {c0:Nat→Option Nat}:sv H [] c0:=⟨fun i j b h=>by simp at h,fun j k h=>by simp at h,fun j b k h=>by simp at h⟩
def nZ (l:List (Option Nat)) (j:Nat):Option Nat:=(l[j]?).getD none
def Cx (H:List Blk) (bZ:Nat) (c0:Nat→Option Nat) (k:Blk):Option Nat→Prop
 | none=>True
 | some b=> ∃q,H[b]?=some q∧q.sz=k.sz∧aO (aO (iA H bZ c0)) q.rows k.rows
def wy (H:List Blk) (bZ:Nat) (c0:Nat→Option Nat):List (Option Nat)→List Blk→Prop
 | [],[]=>True
 | o::l,k::cE=>k.bi=0∧Cx H bZ c0 k o∧wy H bZ c0 l cE
 | _,_=>False
theorem wy.get {H:List Blk} {bZ:Nat} {c0:Nat→Option Nat}: ∀{l:List (Option Nat)} {cE:List Blk},wy H bZ c0 l cE→ ∀(j:Nat) (k:Blk),cE[j]?=some k→ ∃o,l[j]?=some o∧k.bi=0∧Cx H bZ c0 k o
 | [],[],_,j,k,h=>by simp at h
 | o::l,q::cE,aF,0,k,h=>by simp at h;subst h;exact⟨o,rfl,aF.1,aF.2.1⟩
 | o::l,q::cE,aF,j+1,k,h=>by
  obtain⟨x,hx,h2⟩:=wy.get aF.2.2 j k (by simpa using h)
  exact⟨x,by simpa using hx,h2⟩
theorem pG {H cE:List Blk} (l:List (Option Nat)) (aE:l.length=cE.length) (aZ:(l.filterMap id).Nodup) (h:wy H cE.length (nZ l) l cE):sv H cE (nZ l) where
 inj:=fun i j b hi ap h1 h2=>by
  have gE:i<l.length:=by omega
  have io:j<l.length:=by omega
  have aR:l[i]=some b:=by have:(l[i]?).getD none=some b:=h1;rwa [List.getElem?_eq_getElem gE] at this
  have e2:l[j]=some b:=by have:(l[j]?).getD none=some b:=h2;rwa [List.getElem?_eq_getElem io] at this
  rcases Nat.lt_trichotomy i j with aX | rfl | nJ
  ·exfalso
   have ai:=List.pairwise_filterMap.1 aZ
   exact(List.pairwise_iff_getElem.1 ai i j gE io aX) b (by simpa using aR) b (by simpa using e2) rfl
  ·rfl
  ·exfalso
   have ai:=List.pairwise_filterMap.1 aZ
   exact(List.pairwise_iff_getElem.1 ai j i io gE nJ) b (by simpa using e2) b (by simpa using aR) rfl
 bi:=fun j k hk=>by obtain⟨o,_,h1,_⟩:=h.get j k hk;exact h1
 blk:=fun j b k hk hs=>by
  obtain⟨o,aG,_,h2⟩:=h.get j k hk
  have:o=some b:=by have hs:(l[j]?).getD none=some b:=hs;rw[aG] at hs;exact hs
  subst this
  exact h2
theorem pN {H:List Blk} {bZ:Nat} {c0:Nat→Option Nat} {α:Type} {enc:α→List AV} {b g sz:Nat} {xs ys:List α} (hb:H[b]?=some ⟨g,sz,List.map enc xs⟩) (hc: ∀x,aO (iA H bZ c0) (enc x) (enc x)) (e:xs=ys):
  Cx H bZ c0 ⟨0,sz,List.map enc ys⟩ (some b):=by
 subst e
 refine⟨_,hb,rfl,rfl,fun i r BB h1 h2=> ?_⟩
 rw[List.getElem?_map] at h1 h2
 cases hx:xs[i]? with
 | none=>rw[hx] at h1;cases h1
 | some x=>rw[hx] at h1 h2;cases h1;cases h2;exact hc x
section
variable {H:List Blk} {bZ:Nat} {c0:Nat→Option Nat}
theorem yb (b:Bool):aO (iA H bZ c0) (a7 b) (a7 b):= .cons (.bool _) .nil
theorem NR (x:cr):aO (iA H bZ c0) (dL x) (dL x):= .cons (.int _ _) (.cons (.int _ _) .nil)
theorem Gf (x:cJ):aO (iA H bZ c0) (bH x) (bH x):= .cons (.int _ _) (.cons (.int _ _) .nil)
theorem Gi {k:IntKind} {a b:Int} (h:a=b):iA H bZ c0 (.int k a) (.int k b):=h▸ .int k a
theorem aaI {a b:Bool} (h:a=b):iA H bZ c0 (.bool a) (.bool b):=h▸ .bool a
theorem tt {b g n m j sz:Nat} {full:Bool} {rows:List (List AV)} (ap:j<bZ) (hs:c0 j=some b) (hb:H[b]?=some ⟨g,sz,rows⟩) (ao:n=m):iA H bZ c0 (.ref b g 0 n full) (.ref j 0 0 m false):=ao▸ .ref ap hs hb rfl
theorem Gj {a:AV} {j m:Nat} (ap:j<bZ) (hs:c0 j=none) (h:qG a=true) (hm:0=m):iA H bZ c0 a (.ref j 0 0 m false):=hm▸ .nil ap hs h
end
theorem tu {α:Type} {enc:α→List AV} {g sz:Nat} {xs:List α} {H:List Blk} (h1: ∀x,(enc x).all oK=true) (h2:r7 H=true):r7 (⟨g,sz,List.map enc xs⟩::H)=true:=by
 show(((List.map enc xs).all fun row=>row.all oK)&&H.all fun b=>b.rows.all fun row=>row.all oK)=true
 rw[Bool.and_eq_true]
 refine⟨?_,h2⟩
 rw[List.all_eq_true]
 intro row av
 obtain⟨x,_,rfl⟩:=List.mem_map.1 av
 exact h1 x
theorem tQ {α:Type} {enc:α→List AV} {k g sz:Nat} {xs:List α} {H H':List Blk} (h1: ∀x,(enc x).map (jH k)=enc x) (h2:H.map (kp k)=H'):(Blk.mk g sz (List.map enc xs)::H).map (kp k)=⟨g,sz,List.map enc xs⟩::H':=by
 subst h2
 show(⟨g,sz,(List.map enc xs).map fun row=>row.map (jH k)⟩:Blk)::_=_
 rw[List.map_map]
 congr 2
 exact List.map_congr_left fun x _=>h1 x
theorem wa {k:Nat} {H cE H1 lH:List Blk} (h:cE.map (kp k)=H1) (e:H++H1=lH):H++cE.map (kp k)=lH:=by rw[h,e]
def Env.at (W:World):Env:={w:=W,PA:=fun c=>c<W.heap.size,PF:=fun _=>False,m:=fun _=>none,bi:=fun _=>0,sz:=fun _=>0,cp:=fun _=>0,mL:=fun _=>none}
theorem CE (W:World):SimH (Env.at W) [] where
 heap:=fun b c hb=>by cases hb
 eI:=fun b blk hb=>by simp at hb
 gQ:=fun b hb=>by cases hb
 fresh:=fun b _=>⟨rfl,rfl⟩
 gF:=fun b bT c hb=>by cases hb
 iL:=fun t hz c hb=>by cases hb
 gn:=fun b t c hb=>by cases hb
 hq:=fun c _ ⟨b,hb⟩=>by cases hb
 hN:=fun c _ ⟨b,hb⟩=>by cases hb
 dr:=fun c hc=>hc.elim
 fh:=fun c hc=>hc.elim
 dy:=fun c hc=>hc
 fl:=fun c ⟨b,hb⟩=>by cases hb
 gf:=fun c ⟨b,hb⟩=>by cases hb
theorem X6 {P:Program} {f:FuncId} {cC:List AV} {W:World} {vs:List Value} (h:bg P f cC (.bool true)) (aF:aO (V2 (Env.at W)) cC vs):
  Calls P f vs.toArray W fun e Is=>e= .returned (.bool true)∧RowKit.Below W.heap.size W Is:=by
 refine(h.2 (Env.at W) vs (fun _=>rfl) (CE W) aF).mono ?_
 rintro e w' ⟨r,v,H',E',rfl,av,rfl,ao,hs,hv,a8⟩
 have hb:r= .bool true:=by
  rcases av with⟨l,eK,_,e,_⟩ | ⟨l,eK,_,e,_⟩ | av
  ·cases e
  ·cases e
  ·cases av;rfl
 subst hb
 refine⟨by rw[V3.mS hv],a8.os,a8.tape,a8.output,a8.size,fun k hk=>a8.cT k hk (fun⟨b,hb⟩=>by cases hb) (fun⟨b,hb⟩=>by cases hb)⟩
def Cv (W:World):AV→Value→Prop:=aW W (fun c=>c<W.heap.size) (fun _=>False)
def gb (P:Program) (W:World) (t:TypeId) {α:Type} (enc:α→List AV):Prop:=
 ∀{H:Type} (jV:TypeId×Value→H) (iG:Nat) (aw:List Value) (x:DataW H×List MemPlace),DataW.trod jV P W 0 (fun _=>true) true iG t aw=some x→(∀n∈x.1.weights P t,n≤reachBytes)→ ∃y:α,aO (Cv W) (enc y) aw
section
variable {P:Program} {W:World}
theorem l1 {t:TypeId} {k:IntKind} (hu:P.underlying t=some (.int k)):gb P W t (fun n:Int=>[.int k n]):=fun jV iG aw x h _=>by
 obtain⟨n,rfl,_⟩:=DataW.trod_int hu h
 exact⟨n,.cons (.int _ _) .nil⟩
theorem yd {t:TypeId} (hu:P.underlying t=some .bool):gb P W t a7:=fun jV iG aw x h _=>by
 obtain⟨n,rfl,_⟩:=DataW.trod_bool hu h
 exact⟨n,.cons (.bool _) .nil⟩
theorem ZL {α:Type} (n:Nat) (φ:Nat→α→Prop) (h: ∀i,i<n→ ∃y,φ i y): ∃ys:List α,ys.length=n∧ ∀(i:Nat) (y:α),ys[i]?=some y→φ i y:=by
 induction n with
 | zero=>exact⟨[],rfl,fun i y h=>by simp at h⟩
 | succ n bE=>
  obtain⟨ys,aE,ba⟩:=bE fun i hi=>h i (by omega)
  obtain⟨z,aH⟩:=h n (by omega)
  refine⟨ys++[z],by simp[aE],fun i y hi=> ?_⟩
  rcases Nat.lt_or_ge i n with aX | fT
  ·rw[List.getElem?_append_left (by omega)] at hi
   exact ba i y hi
  ·rw[List.getElem?_append_right (by omega)] at hi
   rcases Nat.eq_or_lt_of_le fT with rfl | nJ
   ·rw[aE,Nat.sub_self] at hi
    cases hi;exact aH
   ·rw[List.getElem?_eq_none (by simp;omega)] at hi
    cases hi
theorem Ns {α β:Type} {f:α→Option β}: ∀{l:List α} {r:List β},l.mapM f=some r→r.length=l.length∧ ∀(i:Nat) (a:α),l[i]?=some a→f a=r[i]?
 | [],r,h=>by simp at h;subst h;exact⟨rfl,fun i a h=>by simp at h⟩
 | x::l,r,h=>by
  rw[List.mapM_cons] at h
  simp only[bind,Option.bind_eq_some_iff,pure,Option.some.injEq] at h
  obtain⟨b,hb,BB,av,rfl⟩:=h
  obtain⟨h1,h2⟩:=Ns av
  refine⟨by simp[h1],fun i a aF=> ?_⟩
  cases i with
  | zero=>simp at aF;subst aF;simpa using hb
  | succ i=>exact h2 i a (by simpa using aF)
theorem SH {a:Addr} {n:Nat} {l:List Value} (h:W.cells? 0 a n=some l):l.length=n∧ ∀j,j<n→W.cell? (a.add j)=l[j]?:=by
 unfold World.cells? at h
 rw[if_pos (Nat.zero_le _)] at h
 obtain⟨aE,aQ⟩:=Ns h
 rw[List.length_range] at aE
 exact⟨aE,fun j ap=>aQ j j (List.getElem?_range ap)⟩
theorem adV {a:Addr} {v:Value} (h:W.cell? a=some v):a.spot=none∧a.block<W.heap.size:=by
 unfold World.cell? at h
 split at h
 ·rename_i c _ _ hb
  split at h
  ·cases h
  ·rename_i hs
   refine⟨by cases af:a.spot<;>simp_all,?_⟩
   rcases Nat.lt_or_ge a.block W.heap.size with h1 | h1
   ·exact h1
   ·rw[Array.getElem?_eq_none h1] at hb;cases hb
 ·cases h
theorem add_add (c o x y:Nat):((⟨c,o,none⟩:Addr).add x).add y=⟨c,o+(x+y),none⟩:=by
 rw[mP,mP,Nat.add_assoc]
theorem ng {t e:TypeId} {α:Type} {enc:α→List AV} (hu:P.underlying t=some (.slice e)) (hb:1≤P.bytesOf e) (aH:1≤P.cellsOf e) (hc: ∀x,(enc x).length=P.cellsOf e) (h:gb P W e enc):gb P W t (fR enc false):=by
 intro H jV iG aw x bn hw
 rcases DataW.trod_slice hu bn with⟨rfl,rfl⟩ | ⟨a,len,cap,uM,rest,n,_,rfl,rfl,_,aE,_,hlen,sT,_,_⟩
 ·refine⟨[],.cons ?_ .nil⟩
  exact aW.aV (rows:=[]) (PB:=fun _=>False) (sz:=0) (vs:=fun _ _=>undef) (fun _ h=>h.elim) ⟨Nat.le_refl _,Nat.zero_le _⟩ (fun h=>by cases h) (fun i row h=>by simp at h) (fun h=>by simp at h) (fun i j row a h=>by simp at h)
 ·have vk:(uM.length+rest.length)*P.bytesOf e≤reachBytes:=by
   have:=hw ((uM.length+rest.length)*P.bytesOf e) (by simp[DataW.weights,hu])
   simpa using this
  have h9:len≤4611686018427387904:=by
   have h1:uM.length+rest.length≤(uM.length+rest.length)*P.bytesOf e:=Nat.le_mul_of_pos_right _ hb
   have h2:=reachBytes_lt
   have aM:(2:Nat) ^ 47=140737488355328:=rfl
   omega
  have d_: ∀(l:List (DataW H)) (d:DataW H),d∈l→ ∀m∈d.weights P e,m∈DataW.weightsAll P e l:=by
   intro l
   induction l with
   | nil=>intro d aZ;cases aZ
   | cons q l bE=>
    intro d aZ m hm
    simp only[DataW.weightsAll,List.mem_append]
    rcases List.mem_cons.1 aZ with rfl | aZ
    ·exact .inl hm
    ·exact .inr (bE d aZ m hm)
  obtain⟨ys,AL,ba⟩:=ZL len (fun i y=> ∃l,W.cells? 0 (a.add (i*P.cellsOf e)) (P.cellsOf e)=some l∧aO (Cv W) (enc y) l) fun i hi=>by
   have h1:=sT i hi
   have h2:uM[i]?=some (uM[i]'(by omega)):=List.getElem?_eq_getElem _
   rw[h2,Option.bind_eq_some_iff] at h1
   obtain⟨l,ou,Wl⟩:=h1
   obtain⟨y,ba⟩:=h jV n l _ Wl fun m hm=>hw m (by
    simp only[DataW.weights,hu,List.mem_cons,List.mem_append]
    exact .inr (.inl (d_ _ _ (List.mem_map.2 ⟨_,List.getElem_mem (by omega),rfl⟩) m hm)))
   exact⟨y,l,ou,ba⟩
  have gD: ∀i j,i<len→j<P.cellsOf e→ ∃l v,W.cells? 0 (a.add (i*P.cellsOf e)) (P.cellsOf e)=some l∧l[j]?=some v∧W.cell? ((a.add (i*P.cellsOf e)).add j)=some v:=fun i j hi ap=>by
   obtain⟨l,oy,_⟩:=ba i _ (List.getElem?_eq_getElem (by omega))
   obtain⟨q1,q2⟩:=SH oy
   exact⟨l,l[j]'(by omega),oy,List.getElem?_eq_getElem _,by rw[q2 j ap];exact List.getElem?_eq_getElem _⟩
  let vs:Nat→Nat→Value:=fun i j=>(((W.cells? 0 (a.add (i*P.cellsOf e)) (P.cellsOf e)).getD [])[j]?).getD undef
  refine⟨ys,.cons ?_ .nil⟩
  have key:=aW.aV (w:=W) (PA:=fun c=>c<W.heap.size) (PF:=fun _=>False) (PB:=fun c=>c<W.heap.size) (rows:=List.map enc ys) (full:=false) (fresh:=false) (A:=some a) (cap:=cap) (sz:=P.cellsOf e) (vs:=vs)
   (fun c hc=>by simpa using hc) (by rw[List.length_map,AL];exact⟨aE,h9⟩) (fun h=>by cases h)
   (fun i row av=>by
    rw[List.getElem?_map] at av
    cases af:ys[i]? with
    | none=>rw[af] at av;cases av
    | some y=>rw[af] at av;cases av;exact hc y)
   (fun kD=>by
    rw[List.length_map,AL] at kD
    obtain⟨l,v,_,_,hv⟩:=gD 0 0 kD aH
    rw[Nat.zero_mul] at hv
    have aI:(a.add 0).add 0=a:=by simp[Addr.add]
    rw[aI] at hv
    obtain⟨hs,aX⟩:=adV hv
    obtain⟨c,o,s⟩:=a
    have hs:s=none:=hs
    subst hs
    refine⟨c,o,rfl,aX,fun i j hi ap=> ?_⟩
    rw[List.length_map,AL] at hi
    obtain⟨l,v,q1,q2,q3⟩:=gD i j hi ap
    rw[add_add] at q3
    rw[q3]
    show some v=some ((((W.cells? 0 _ _).getD [])[j]?).getD undef)
    rw[q1]
    show some v=some ((l[j]?).getD undef)
    rw[q2];rfl)
   (fun i j row b av ap=>by
    rw[List.getElem?_map] at av
    cases af:ys[i]? with
    | none=>rw[af] at av;cases av
    | some y=>
     rw[af] at av;cases av
     obtain⟨l,oy,ai⟩:=ba i y af
     obtain⟨v,hv,lV⟩:=ai.get ap
     show aW W _ _ b ((((W.cells? 0 _ _).getD [])[j]?).getD undef)
     rw[oy]
     show aW W _ _ b ((l[j]?).getD undef)
     rw[hv];exact lV)
  rw[List.length_map,AL] at key
  exact key
def sg (P:Program) (t:TypeId) (cH:List TypeId):Bool:=match P.underlying t with
 | some (.struct dY)=>(dY.toList.zipIdx.all fun p=>p.1.offset==p.2&&P.cellsOf p.1.type==1)&&dY.toList.map (·.type)==cH&&P.cellsOf t==cH.length
 | _=>false
theorem wh {t:TypeId} {cH:List TypeId} (hs:sg P t cH=true) {H:Type} {jV:TypeId×Value→H} {iG:Nat} {aw:List Value} {x:DataW H×List MemPlace} (h:DataW.trod jV P W 0 (fun _=>true) true iG t aw=some x)
  (hw: ∀n∈x.1.weights P t,n≤reachBytes):aw.length=cH.length∧ ∀(i:Nat) (u:TypeId) (v:Value),cH[i]?=some u→aw[i]?=some v→ ∃(n:Nat) (z:DataW H×List MemPlace),DataW.trod jV P W 0 (fun _=>true) true n u [v]=some z∧ ∀m∈z.1.weights P u,m≤reachBytes:=by
 unfold sg at hs
 split at hs
 ·rename_i dY hu
  simp only[Bool.and_eq_true,beq_iff_eq] at hs
  obtain⟨⟨h1,h2⟩,aM⟩:=hs
  obtain⟨xs,n,_,rfl,aE,oC,hf⟩:=DataW.trod_struct hu h
  refine⟨by rw[aE,aM],fun i u v bn hv=> ?_⟩
  have hi:i<dY.size:=by
   have:=(List.getElem?_eq_some_iff.1 bn).1
   rw[←h2] at this;simpa using this
  have Eu:dY[i]?=some dY[i]:=Array.getElem?_eq_getElem hi
  have Wn:dY[i].type=u:=by
   have:(dY.toList.map (·.type))[i]?=some u:=by rw[h2];exact bn
   rw[List.getElem?_map,Array.getElem?_toList,Eu] at this
   exact Option.some.inj this
  have AF:=List.all_eq_true.1 h1 (dY[i],i) (by rw[List.mem_zipIdx_iff_getElem?];rw[Array.getElem?_toList];exact Eu)
  simp only[Bool.and_eq_true,beq_iff_eq] at AF
  have:=hf i dY[i] Eu
  rw[AF.1,AF.2,Wn] at this
  have VW:(aw.drop i).take 1=[v]:=by
   have aX:=(List.getElem?_eq_some_iff.1 hv).1
   rw[List.drop_eq_getElem_cons aX,List.take_succ_cons,List.take_zero]
   have:=(List.getElem?_eq_some_iff.1 hv).2
   rw[this]
  rw[VW] at this
  have K3:xs[i]?=some (xs[i]'(by omega)):=List.getElem?_eq_getElem _
  rw[K3] at this
  refine⟨n,_,this,fun m hm=>hw m ?_⟩
  simp only[DataW.weights,hu]
  exact DataW.weights_mem_each (j:=i) (by rw[h2];exact bn) (by rw[List.getElem?_map,K3];rfl) m hm
 ·cases hs
theorem uI {aw:List Value} (h:aw.length=2): ∃a b,aw=[a,b]:=by
 match aw,h with
 | [a,b],_=>exact⟨a,b,rfl⟩
theorem SE {aw:List Value} (h:aw.length=4): ∃a b c d,aw=[a,b,c,d]:=by
 match aw,h with
 | [a,b,c,d],_=>exact⟨a,b,c,d,rfl⟩
theorem CZ {aw:List Value} (h:aw.length=5): ∃a b c d e,aw=[a,b,c,d,e]:=by
 match aw,h with
 | [a,b,c,d,e],_=>exact⟨a,b,c,d,e,rfl⟩
theorem iP {α:Type} {u:TypeId} {enc:α→List AV} {f:α→AV} (he: ∀y,enc y=[f y]) (h:gb P W u enc) {H:Type} {jV:TypeId×Value→H} {n:Nat} {v:Value} {z:DataW H×List MemPlace} (bn:DataW.trod jV P W 0 (fun _=>true) true n u [v]=some z)
  (hw: ∀m∈z.1.weights P u,m≤reachBytes): ∃y,Cv W (f y) v:=by
 obtain⟨y,ba⟩:=h jV n [v] z bn hw
 rw[he] at ba
 exact⟨y,ba.head⟩
theorem NW {t a b:TypeId} (hs:sg P t [a,b]=true) (aF:gb P W a ct) (hb:gb P W b ct):gb P W t dL:=fun jV iG aw x h hw=>by
 obtain⟨aE,hc⟩:=wh hs h hw
 obtain⟨bA,br,rfl⟩:=uI aE
 obtain⟨bZ,z0,b5,aP⟩:=hc 0 a bA rfl rfl
 obtain⟨cu,j8,q1,bz⟩:=hc 1 b br rfl rfl
 obtain⟨dW,eC⟩:=iP (fun _=>rfl) aF b5 aP
 obtain⟨dO,cZ⟩:=iP (fun _=>rfl) hb q1 bz
 exact⟨⟨dW,dO⟩,.cons eC (.cons cZ .nil)⟩
theorem aaG {t a b:TypeId} (hs:sg P t [a,b]=true) (aF:gb P W a ct) (hb:gb P W b ct):gb P W t bH:=fun jV iG aw x h hw=>by
 obtain⟨aE,hc⟩:=wh hs h hw
 obtain⟨bA,br,rfl⟩:=uI aE
 obtain⟨bZ,z0,b5,aP⟩:=hc 0 a bA rfl rfl
 obtain⟨cu,j8,q1,bz⟩:=hc 1 b br rfl rfl
 obtain⟨dW,eC⟩:=iP (fun _=>rfl) aF b5 aP
 obtain⟨dO,cZ⟩:=iP (fun _=>rfl) hb q1 bz
 exact⟨⟨dW,dO⟩,.cons eC (.cons cZ .nil)⟩
theorem aaH {t a b c d e:TypeId} (hs:sg P t [a,b,c,d,e]=true) (aF:gb P W a (fR ct false)) (hb:gb P W b (fR dL false)) (sS:gb P W c (fR dL false)) (aZ:gb P W d (fR ct false)) (he:gb P W e (fR ct false)):gb P W t (en false):=fun jV iG aw x h hw=>by
 obtain⟨aE,hc⟩:=wh hs h hw
 obtain⟨bA,br,bm,hT,kv,rfl⟩:=CZ aE
 obtain⟨bZ,z0,b5,aP⟩:=hc 0 a bA rfl rfl
 obtain⟨cu,j8,q1,bz⟩:=hc 1 b br rfl rfl
 obtain⟨n2,z2,q2,bM⟩:=hc 2 c bm rfl rfl
 obtain⟨k5,z3,q3,cU⟩:=hc 3 d hT rfl rfl
 obtain⟨A7,z4,q4,iT⟩:=hc 4 e kv rfl rfl
 obtain⟨dW,eC⟩:=iP (fun _=>rfl) aF b5 aP
 obtain⟨dO,cZ⟩:=iP (fun _=>rfl) hb q1 bz
 obtain⟨eE,dg⟩:=iP (fun _=>rfl) sS q2 bM
 obtain⟨uc,fK⟩:=iP (fun _=>rfl) aZ q3 cU
 obtain⟨yZ,nn⟩:=iP (fun _=>rfl) he q4 iT
 exact⟨⟨dW,dO,eE,uc,yZ⟩,.cons eC (.cons cZ (.cons dg (.cons fK (.cons nn .nil))))⟩
theorem aaF {t a b c d e:TypeId} (hs:sg P t [a,b,c,d,e]=true) (aF:gb P W a ct) (hb:gb P W b (fR ct false)) (sS:gb P W c (fR (en false) false)) (aZ:gb P W d (fR (fR a7 false) false)) (he:gb P W e ct):gb P W t (bW false):=fun jV iG aw x h hw=>by
 obtain⟨aE,hc⟩:=wh hs h hw
 obtain⟨bA,br,bm,hT,kv,rfl⟩:=CZ aE
 obtain⟨bZ,z0,b5,aP⟩:=hc 0 a bA rfl rfl
 obtain⟨cu,j8,q1,bz⟩:=hc 1 b br rfl rfl
 obtain⟨n2,z2,q2,bM⟩:=hc 2 c bm rfl rfl
 obtain⟨k5,z3,q3,cU⟩:=hc 3 d hT rfl rfl
 obtain⟨A7,z4,q4,iT⟩:=hc 4 e kv rfl rfl
 obtain⟨dW,eC⟩:=iP (fun _=>rfl) aF b5 aP
 obtain⟨dO,cZ⟩:=iP (fun _=>rfl) hb q1 bz
 obtain⟨eE,dg⟩:=iP (fun _=>rfl) sS q2 bM
 obtain⟨uc,fK⟩:=iP (fun _=>rfl) aZ q3 cU
 obtain⟨yZ,nn⟩:=iP (fun _=>rfl) he q4 iT
 exact⟨⟨dW,dO,eE,uc,yZ⟩,.cons eC (.cons cZ (.cons dg (.cons fK (.cons nn .nil))))⟩
theorem aaE {t a b c d e:TypeId} (hs:sg P t [a,b,c,d,e]=true) (aF:gb P W a ct) (hb:gb P W b ct) (sS:gb P W c (fR a7 false)) (aZ:gb P W d a7) (he:gb P W e ct):gb P W t (cR false):=fun jV iG aw x h hw=>by
 obtain⟨aE,hc⟩:=wh hs h hw
 obtain⟨bA,br,bm,hT,kv,rfl⟩:=CZ aE
 obtain⟨bZ,z0,b5,aP⟩:=hc 0 a bA rfl rfl
 obtain⟨cu,j8,q1,bz⟩:=hc 1 b br rfl rfl
 obtain⟨n2,z2,q2,bM⟩:=hc 2 c bm rfl rfl
 obtain⟨k5,z3,q3,cU⟩:=hc 3 d hT rfl rfl
 obtain⟨A7,z4,q4,iT⟩:=hc 4 e kv rfl rfl
 obtain⟨dW,eC⟩:=iP (fun _=>rfl) aF b5 aP
 obtain⟨dO,cZ⟩:=iP (fun _=>rfl) hb q1 bz
 obtain⟨eE,dg⟩:=iP (fun _=>rfl) sS q2 bM
 obtain⟨uc,fK⟩:=iP (fun _=>rfl) aZ q3 cU
 obtain⟨yZ,nn⟩:=iP (fun _=>rfl) he q4 iT
 exact⟨⟨dW,dO,eE,uc,yZ⟩,.cons eC (.cons cZ (.cons dg (.cons fK (.cons nn .nil))))⟩
theorem aaD {t a b c d:TypeId} (hs:sg P t [a,b,c,d]=true) (aF:gb P W a a7) (hb:gb P W b (fR a7 false)) (sS:gb P W c (fR bH false)) (aZ:gb P W d (fR (cR false) false)):gb P W t (b9 false):=fun jV iG aw x h hw=>by
 obtain⟨aE,hc⟩:=wh hs h hw
 obtain⟨bA,br,bm,hT,rfl⟩:=SE aE
 obtain⟨bZ,z0,b5,aP⟩:=hc 0 a bA rfl rfl
 obtain⟨cu,j8,q1,bz⟩:=hc 1 b br rfl rfl
 obtain⟨n2,z2,q2,bM⟩:=hc 2 c bm rfl rfl
 obtain⟨k5,z3,q3,cU⟩:=hc 3 d hT rfl rfl
 obtain⟨dW,eC⟩:=iP (fun _=>rfl) aF b5 aP
 obtain⟨dO,cZ⟩:=iP (fun _=>rfl) hb q1 bz
 obtain⟨eE,dg⟩:=iP (fun _=>rfl) sS q2 bM
 obtain⟨uc,fK⟩:=iP (fun _=>rfl) aZ q3 cU
 exact⟨⟨dW,dO,eE,uc⟩,.cons eC (.cons cZ (.cons dg (.cons fK .nil)))⟩
theorem ID {t:TypeId} {α:Type} {enc:α→List AV} {k:Nat} (h:gb P W t enc) (hk:2≤k) (hc: ∀y,(enc y).length=k) {H:Type} {jV:TypeId×Value→H} {v:Value} {d:DataW H} {ps:List MemPlace} (bn:DataW.Trod jV P W 0 (fun _=>true) true t v d ps)
  (hw: ∀n∈d.weights P t,n≤reachBytes): ∃y,V2 (Env.at W) (.agg (enc y)) v:=by
 obtain⟨iG,hf⟩:=bn
 obtain⟨y,ai⟩:=h jV iG _ _ hf hw
 have aE:=ai.1
 rw[hc] at aE
 have hv:v= .agg v.cells:=by
  cases v<;>first | rfl | (simp[Value.cells] at aE;omega)
 refine⟨y,v.cells.toList,by rw[Array.toArray_toList];exact hv,ai.mono fun a u av=>aW.v1 (E:=Env.at W) av⟩
end
def L7 (P:Program) (fn:Func) (c:OpenClaim):Bool:=c.kinds==(if c.domain.isEmpty then[] else fn.params.toList.map fun t=>match P.underlying t with | some (.int k)=>some k | _=>none)
theorem XX {P:Program} {f:FuncId} {fn:Func} {s:ChangeSpec} {c:OpenClaim} (aI:(c.wf (OpenSpec.ofChange s))=true) (h1:laidOutB P=true) (h2:mapsRowed P=true) (aM:fn.params.all (P.readableRec ·)=true) (bx:namedTie P c.named s.vars=true) (c9:(c.stops==[])=true) (e6:(P.stops==[])=true) (lP:(c.knobs==[])=true) (qh:(P.stopKnobs==[])=true) (sL:(c.inPlace==P.inPlace f)=true) (xg:(c.unfollowed==P.unfollowed f)=true) (UD:(c.recurses==P.recurses f)=true) (UE:(c.named==P.varsNamed f)=true) (UF:(c.maps==(fn.params.toList++s.plain.varTypes P).any (P.mapsRec ·))=true) (UG:(c.ifaces==(fn.params.toList++s.plain.varTypes P).any (P.ifacesRec ·))=true) (UH:(c.mapsOut==P.mapsAmong fn.resultTypes.toList)=true) (UI:(c.loops==(fn.params.toList++s.plain.varTypes P).any (P.loopsFrom ·))=true) (UJ:(c.wideKeys==(fn.params.toList++s.plain.varTypes P++fn.resultTypes.toList).any (P.wideKeysFrom ·))=true) (UK:s.vars.all (P.varReadable ·)=true) (UL:fn.resultTypes.all (fun t=>P.readableRec t&&decide (t<P.types.size))=true) (UM:(c.ifacesOut==fn.resultTypes.toList.any (P.ifacesRec ·))=true) (UN:(c.loopsOut==fn.resultTypes.toList.any (P.loopsFrom ·))=true) (UO:(c.plainKeys==P.plainKeys)=true) (UP:c.shortTexts.isNone=true) (UQ:P.stopsHeard=true) (UR:P.mayEnter=true) (US:(c.lifted==P.liftsFinal)=true) (UT:(P.make==some c.make)=true) (UU:L7 P fn c=true) (UW:(c.pinned==c.pinnedBy)=true) (nI:(c.veiled==(fn.params.toList++s.plain.varTypes P++fn.resultTypes.toList).any (P.veiledRec ·))=true) (UX:c.veiledFits P fn.params.toList (fn.params.toList++s.plain.varTypes P++fn.resultTypes.toList)=true):joinedFacts P f fn s c=true:=by
 unfold joinedFacts
 simp only[Bool.and_eq_true]
 exact⟨⟨⟨⟨⟨⟨⟨⟨⟨⟨⟨⟨⟨⟨⟨⟨⟨⟨⟨⟨⟨⟨⟨⟨⟨⟨⟨⟨⟨⟨⟨aI,h1⟩,h2⟩,aM⟩,bx⟩,c9⟩,e6⟩,lP⟩,qh⟩,sL⟩,xg⟩,UD⟩,UE⟩,UF⟩,UG⟩,UH⟩,UI⟩,UJ⟩,UK⟩,UL⟩,UM⟩,UN⟩,UO⟩,UP⟩,UQ⟩,UR⟩,US⟩,UT⟩,UU⟩,UW⟩,nI⟩,UX⟩
theorem aar {α:Type} [Inhabited α] {xs:List α} {i:Int} (h:i.toNat<xs.length):nth xs i=xs[i.toNat]:=by
 have:=gZ h
 rw[List.getElem?_eq_getElem h] at this
 exact(Option.some.inj this).symm
def bR (b:List Bool):Blk:=⟨0,1,List.map a7 b⟩
def k0 (s:Nat) (h:ac) (id:Nat):List AV:=[.int .i64 h.az,.int .i64 h.ab,.ref (id+s) 0 0 h.aa.length false,.bool h.ar,.int .i64 h.au]
def bp (s:Nat) (ws:List ac) (ids:List Nat):List (List AV):=List.zipWith (k0 s) ws ids
def view (ws:List ac) (ids:List Nat) (bs:List (List Bool)):List ac:=List.zipWith (fun h id=>{h with aa:=bs.getD id []}) ws ids
structure mK (ws:List ac) (ids:List Nat) (bs:List (List Bool)):Prop where
 len:ws.length=ids.length
 lt: ∀(i id:Nat),ids[i]?=some id→id<bs.length
 aa: ∀(i id:Nat) (h:ac),ws[i]?=some h→ids[i]?=some id→h.aa.length=(bs.getD id []).length
theorem e0 {s:Nat} {ws:List ac} {ids:List Nat} {i:Int} (aE:ws.length=ids.length) (hi:i.toNat<ws.length):(bp s ws ids)[i.toNat]?=some (k0 s (nth ws i) (nth ids i)):=by
 unfold bp
 rw[List.getElem?_zipWith,gZ hi,gZ (by omega)]
theorem xl {s:Nat} {ws:List ac} {ids:List Nat} (aE:ws.length=ids.length):(bp s ws ids).length=ws.length:=by
 unfold bp;rw[List.length_zipWith];omega
theorem Ai {s:Nat} {ws:List ac} {ids:List Nat} {i:Nat} {h:ac} {id:Nat} (aE:ws.length=ids.length):(bp s ws ids).set i (k0 s h id)=bp s (ws.set i h) (ids.set i id):=by
 apply List.ext_getElem?
 intro j
 unfold bp
 rw[List.getElem?_set,List.getElem?_zipWith,List.getElem?_zipWith,List.getElem?_set,List.getElem?_set]
 by_cases li:i=j
 ·subst li
  simp only[if_true,List.length_zipWith]
  by_cases hi:i<ws.length
  ·rw[if_pos (by omega),if_pos hi,if_pos (by omega)]
  ·rw[if_neg (by omega),if_neg hi]
 ·simp only[if_neg li]
theorem m4 {s:Nat} {ws:List ac} {ids:List Nat} {i:Int} {h:ac} (aE:ws.length=ids.length) (hi:i.toNat<ws.length):(bp s ws ids).set i.toNat (k0 s h (nth ids i))=bp s (ws.set i.toNat h) ids:=by
 rw[Ai aE]
 congr 1
 rw[aar (by omega)]
 exact List.set_getElem_self _
theorem U8 {s:Nat} {ws:List ac} {ids:List Nat} {h:ac} {id:Nat} (aE:ws.length=ids.length):bp s ws ids++[k0 s h id]=bp s (ws++[h]) (ids++[id]):=by
 unfold bp
 rw[List.zipWith_append aE];rfl
theorem rv {bs:List (List Bool)} {id:Nat} (h:id<bs.length):(List.map bR bs)[id]?=some (bR (bs.getD id [])):=by
 rw[List.getElem?_map,List.getElem?_eq_getElem h,List.getD_eq_getElem?_getD,List.getElem?_eq_getElem h];rfl
theorem DN {bs:List (List Bool)} {id:Nat} {b:List Bool}:(List.map bR bs).set id (bR b)=List.map bR (bs.set id b):=by rw[List.map_set]
theorem w1 {b:List Bool} {i:Int} (h:i.toNat<b.length):(List.map a7 b)[i.toNat]?=some (a7 (nth b i)):=by rw[List.getElem?_map,gZ h];rfl
theorem CO {b:List Bool} {i:Nat} {x:Bool}:(List.map a7 b).set i (a7 x)=List.map a7 (b.set i x):=by rw[List.map_set]
theorem jJ {ws:List ac} {ids:List Nat} {bs:List (List Bool)} (h:mK ws ids bs):(view ws ids bs).length=ws.length:=by
 unfold view;rw[List.length_zipWith];have:=h.len;omega
theorem wm {ws:List ac} {ids:List Nat} {bs:List (List Bool)} {i:Nat} {h:ac} {id:Nat} (h1:ws[i]?=some h) (h2:ids[i]?=some id):(view ws ids bs)[i]?=some {h with aa:=bs.getD id []}:=by
 unfold view;rw[List.getElem?_zipWith,h1,h2]
theorem tG {s:Nat} {ws:List ac} {ids:List Nat} {i:Nat} {row:List AV} (h:(bp s ws ids)[i]?=some row): ∃x id,ws[i]?=some x∧ids[i]?=some id∧row=k0 s x id:=by
 unfold bp at h
 rw[List.getElem?_zipWith] at h
 cases hx:ws[i]? with
 | none=>rw[hx] at h;cases h
 | some x=>
  cases aZ:ids[i]? with
  | none=>rw[hx,aZ] at h;cases h
  | some id=>rw[hx,aZ] at h;cases h;exact⟨x,id,rfl,rfl,rfl⟩
theorem BO {L:List (Nat×List AV)} {H:List Blk} {b s n:Nat} {full:Bool} {ws:List ac} {ids:List Nat} {bs:List (List Bool)} (ao:n=ws.length) (hb:H[b]?=some ⟨0,5,bp s ws ids⟩)
  (hf: ∀(id:Nat) (k:Blk),(List.map bR bs)[id]?=some k→H[id+s]?=some k) (ok:mK ws ids bs) (h9:ws.length≤4611686018427387904) (Af: ∀x∈bs,x.length≤4611686018427387904):
  fF L H (.ref b 0 0 n full) (.aV (List.map (cR false) (view ws ids bs)) false false):=by
 subst ao
 refine fF.ref (fun h=>by cases h) hb rfl (by rw[List.length_map,jJ ok]) h9 (by rw[Nat.zero_add,xl ok.len];exact Nat.le_refl _) (fun i row row' h1 h2=> ?_) (fun i j row row' a c h1 h2 aM bx=> ?_)
 ·rw[Nat.zero_add] at h1
  obtain⟨x,id,hx,aZ,rfl⟩:=tG h1
  rw[List.getElem?_map,wm hx aZ] at h2
  cases h2;rfl
 ·rw[Nat.zero_add] at h1
  obtain⟨x,id,hx,aZ,rfl⟩:=tG h1
  rw[List.getElem?_map,wm hx aZ] at h2
  cases h2
  have aX:=ok.lt i id aZ
  have key:nw L H (k0 s x id) (cR false {x with aa:=bs.getD id []}):=by
   refine .cons (.int _ _) (.cons (.int _ _) (.cons ?_ (.cons (.bool _) (.cons (.int _ _) .nil))))
   have hm:bs.getD id []∈bs:=by rw[List.getD_eq_getElem?_getD,List.getElem?_eq_getElem aX];exact List.getElem_mem aX
   exact tJ (eT:=a7) (eF:=a7) (sz:=1) (ok.aa i id x hx aZ) (hf id _ (rv aX)) AM (Af _ hm)
  exact key.2 j a c aM bx
theorem adW {H:List Blk} {b g s n:Nat} {full:Bool} {ws ys:List ac} {ids:List Nat} {bs:List (List Bool)} (ao:n=ws.length) (hb:H[b]?=some ⟨g,5,bp s ws ids⟩)
  (hf: ∀(id:Nat) (k:Blk),(List.map bR bs)[id]?=some k→H[id+s]?=some k) (h:mK ws ids bs∧ws.length≤4611686018427387904∧(∀x∈bs,x.length≤4611686018427387904)∧view ws ids bs=ys):
  ft H (.ref b g 0 n full) (.aV (List.map (cR false) ys) false true):=by
 obtain⟨ok,h9,Af,rfl⟩:=h
 subst ao
 refine ft.ref (fun h=>by cases h) (fun i j=>(((view ws ids bs)[i]?).bind fun x=>(cR true x)[j]?).getD .undef) hb rfl (by rw[List.length_map,jJ ok]) h9 (by rw[Nat.zero_add,xl ok.len];exact Nat.le_refl _) (fun i row row' h1 h2=> ?_) (fun i j row a hi h1 h2=> ?_) (fun i j row' c h1 h2=> ?_)
 ·rw[Nat.zero_add] at h1
  obtain⟨x,id,hx,aZ,rfl⟩:=tG h1
  rw[List.getElem?_map,wm hx aZ] at h2
  cases h2;rfl
 ·rw[Nat.zero_add] at h1
  obtain⟨x,id,hx,aZ,rfl⟩:=tG h1
  rw[wm hx aZ]
  have aX:=ok.lt i id aZ
  have hm:bs.getD id []∈bs:=by rw[List.getD_eq_getElem?_getD,List.getElem?_eq_getElem aX];exact List.getElem_mem aX
  show ft H a (((some ({x with aa:=bs.getD id []}:ac)).bind fun x=>(cR true x)[j]?).getD .undef)
  match j,h2 with
  | 0,h2=>cases h2;exact .int _ _
  | 1,h2=>cases h2;exact .int _ _
  | 2,h2=>
   cases h2
   exact BY (eT:=a7) (eF:=a7) (sz:=1) (ok.aa i id x hx aZ) (hf id _ (rv aX)) CQ ⟨Af _ hm,rfl⟩
  | 3,h2=>cases h2;exact .bool _
  | 4,h2=>cases h2;exact .int _ _
  | j+5,h2=>simp[k0] at h2
 ·rw[List.getElem?_map] at h1
  cases hv:(view ws ids bs)[i]? with
  | none=>rw[hv] at h1;cases h1
  | some x=>
   rw[hv] at h1;cases h1
   show c=hX (((some x).bind fun x=>(cR true x)[j]?).getD .undef)
   match j,h2 with
   | 0,h2=>cases h2;rfl
   | 1,h2=>cases h2;rfl
   | 2,h2=>cases h2;rfl
   | 3,h2=>cases h2;rfl
   | 4,h2=>cases h2;rfl
   | j+5,h2=>simp[cR] at h2
theorem Weak.Gc [cw] (sz:Nat) {T:List AV} {L:List (Nat×List AV)} {H:List Blk}:Weak ⟨T,L,H⟩ ⟨T,L,H++[⟨0,sz,[]⟩]⟩:=fun cj E tmps g s=>by
 obtain⟨E',hw,a8,h1,h2,_⟩:=A_ (blk:=⟨0,sz,[]⟩) s.h s.l rfl rfl
 exact⟨E',hw,g.step a8,h1,h2,fun t=>(s.hP t).le a8.le,s.size⟩
theorem Weak.clear [cw] (j:Nat) {g sz:Nat} {rows:List (List AV)} {T:List AV} {L:List (Nat×List AV)} {H:List Blk} (ap:H[j]?=some ⟨g,sz,rows⟩):Weak ⟨T,L,H⟩ ⟨T,L,H.set j ⟨g,sz,[]⟩⟩:=fun cj E tmps Ux s=>by
 have kA:=(List.getElem?_eq_some_iff.1 ap).1
 have get: ∀(b:Nat) (blk:Blk),(H.set j ⟨g,sz,[]⟩)[b]?=some blk→(b=j∧blk=⟨g,sz,[]⟩)∨(b≠j∧H[b]?=some blk):=fun b blk h=>by
  rw[List.getElem?_set] at h
  split at h
  ·rename_i e;subst e;exact .inl ⟨rfl,(Option.some.inj h).symm⟩
  ·rename_i e;exact .inr ⟨fun h=>e h.symm,h⟩
 have gS:SimH E H:=s.h
 refine⟨E,rfl,Ux,{gS with
  heap:=fun b c hb=> ?_,eI:=fun b blk hb=> ?_,gQ:=fun b hb=> ?_,fresh:=fun b hb=>gS.fresh b (by simpa using hb)},s.l,s.hP,s.size⟩
 ·obtain⟨blk,aw,ty,q1,b5,q2,q3,q4,cW⟩:=gS.heap b c hb
  by_cases e:b=j
  ·subst e
   rw[ap] at q1
   obtain rfl:=Option.some.inj q1
   exact⟨⟨g,sz,[]⟩,aw,ty,by rw[List.getElem?_set];simp[kA],b5,q2,q3,Nat.zero_le _,fun i row h=>by simp at h,fun i j row a h=>by simp at h⟩
  ·exact⟨blk,aw,ty,by rw[List.getElem?_set,if_neg (fun h=>e h.symm)];exact q1,b5,q2,q3,q4,cW⟩
 ·rcases get b blk hb with⟨rfl,rfl⟩ | ⟨_,hb⟩
  ·exact(gS.eI b _ ap:)
  ·exact gS.eI b blk hb
 ·obtain⟨blk,q1,b5⟩:=gS.gQ b hb
  by_cases e:b=j
  ·subst e
   rw[ap] at q1
   obtain rfl:=Option.some.inj q1
   exact⟨⟨g,sz,[]⟩,by rw[List.getElem?_set];simp[kA],b5⟩
  ·exact⟨blk,by rw[List.getElem?_set,if_neg (fun h=>e h.symm)];exact q1,b5⟩
theorem ab_ (H:List Blk):H.map (kp 0)=H:=by
 have aI: ∀a:AV,jH 0 a=a:=fun a=>by cases a<;>simp[jH]
 have:kp 0=id:=by
  funext b
  obtain⟨g,s,rows⟩:=b
  show(⟨g,s,rows.map fun row=>row.map (jH 0)⟩:Blk)=⟨g,s,rows⟩
  congr 1
  have:(fun row:List AV=>row.map (jH 0))=id:=by funext row;rw[show jH 0=id from funext aI];simp
  rw[this];simp
 rw[this];simp
theorem N0 {g0 g1 g2 s:Nat} {aC:List Bool} {pH:List cJ} {ws:List ac} {ids:List Nat} {bs:List (List Bool)}:r7 (⟨g0,1,List.map a7 aC⟩::⟨g1,2,List.map bH pH⟩::⟨g2,5,bp s ws ids⟩::List.map bR bs)=true:=by
 refine tu (fun _=>rfl) (tu (fun _=>rfl) ?_)
 unfold r7
 rw[List.all_eq_true]
 intro b hb
 rw[List.all_eq_true]
 intro row av
 rcases List.mem_cons.1 hb with rfl | hb
 ·obtain⟨i,hi⟩:=List.mem_iff_getElem?.1 av
  obtain⟨x,id,_,_,rfl⟩:=tG hi
  rfl
 ·obtain⟨b,_,rfl⟩:=List.mem_map.1 hb
  obtain⟨x,_,rfl⟩:=List.mem_map.1 av
  rfl
def tP (j:Nat):Option Nat:=if j<3 then some j else some (j+1)
theorem N1 {r:AV} {g0 g1 g2 g3 bZ cu n2:Nat} {f0 f1 f2:Bool} {R:Frame} {ok:Bool} {aC:List Bool} {pH:List cJ} {ws:List ac} {ids:List Nat} {bs:List (List Bool)} {rows:List (List AV)}
  (h:ok=R.ok∧aC=R.aC∧pH=R.aq∧ws=R.O∧ids=List.range ws.length∧bs=ws.map ac.aa) (aI:bZ=aC.length) (h1:cu=pH.length) (h2:n2=ws.length) (av:r= .agg [.bool ok,.ref 0 g0 0 bZ f0,.ref 1 g1 0 cu f1,.ref 2 g2 0 n2 f2]):
  ∃c0,sv (⟨g0,1,List.map a7 aC⟩::⟨g1,2,List.map bH pH⟩::⟨g2,5,bp 4 ws ids⟩::⟨g3,5,rows⟩::List.map bR bs)
   (⟨0,1,List.map a7 R.aC⟩::⟨0,2,List.map bH R.aq⟩::⟨0,5,bp 3 R.O (List.range R.O.length)⟩::List.map bR (List.map ac.aa R.O)) c0∧
   Io (⟨g0,1,List.map a7 aC⟩::⟨g1,2,List.map bH pH⟩::⟨g2,5,bp 4 ws ids⟩::⟨g3,5,rows⟩::List.map bR bs)
    (⟨0,1,List.map a7 R.aC⟩::⟨0,2,List.map bH R.aq⟩::⟨0,5,bp 3 R.O (List.range R.O.length)⟩::List.map bR (List.map ac.aa R.O)).length c0 r
    (.agg [.bool R.ok,.ref 0 0 0 R.aC.length false,.ref 1 0 0 R.aq.length false,.ref 2 0 0 R.O.length false]):=by
 obtain⟨rfl,rfl,rfl,rfl,rfl,rfl⟩:=h
 subst aI;subst h1;subst h2;subst av
 have hlen:(⟨0,1,List.map a7 R.aC⟩::⟨0,2,List.map bH R.aq⟩::⟨0,5,bp 3 R.O (List.range R.O.length)⟩::List.map bR (List.map ac.aa R.O):List Blk).length=R.O.length+3:=by simp
 refine⟨tP,⟨fun i j b hi ap h1 h2=> ?_,fun j k hk=> ?_,fun j b k hk hs=> ?_⟩,.inl ⟨_,_,rfl,rfl,?_⟩⟩
 ·unfold tP at h1 h2
  split at h1<;>split at h2<;>simp at h1 h2<;>omega
 ·match j,hk with
  | 0,hk=>simp at hk;subst hk;rfl
  | 1,hk=>simp at hk;subst hk;rfl
  | 2,hk=>simp at hk;subst hk;rfl
  | j+3,hk=>simp at hk;obtain⟨x,_,rfl⟩:=hk;rfl
 ·rw[hlen]
  match j,hk,hs with
  | 0,hk,hs=>
   simp at hk;subst hk
   obtain rfl:0=b:=by simpa[tP] using hs
   exact pN (b:=0) rfl yb rfl
  | 1,hk,hs=>
   simp at hk;subst hk
   obtain rfl:1=b:=by simpa[tP] using hs
   exact pN (b:=1) rfl Gf rfl
  | 2,hk,hs=>
   simp at hk;subst hk
   obtain rfl:2=b:=by simpa[tP] using hs
   refine⟨_,rfl,rfl,⟨by rw[xl (by simp),xl (by simp)],fun i afo dB aF hb=> ?_⟩⟩
   obtain⟨x,id,hx,aZ,rfl⟩:=tG aF
   obtain⟨k_,fX,iJ,rC,rfl⟩:=tG hb
   rw[hx] at iJ;cases iJ
   rw[aZ] at rC;cases rC
   have Ap:i<R.O.length:=(List.getElem?_eq_some_iff.1 hx).1
   obtain rfl:i=id:=by rw[List.getElem?_range Ap] at aZ;exact Option.some.inj aZ
   refine .cons (.int _ _) (.cons (.int _ _) (.cons ?_ (.cons (.bool _) (.cons (.int _ _) .nil))))
   refine iA.ref (blk:=bR x.aa) (by omega) (by simp[tP]) ?_ rfl
   show(List.map bR (List.map ac.aa R.O))[i]?=_
   rw[List.getElem?_map,List.getElem?_map,hx];rfl
  | j+3,hk,hs=>
   obtain rfl:j+4=b:=by
    unfold tP at hs
    rw[if_neg (by omega)] at hs;exact Option.some.inj hs
   have hk:(List.map bR (List.map ac.aa R.O))[j]?=some k:=by simpa using hk
   have: ∃x,k=bR x:=by
    rw[List.getElem?_map] at hk
    cases af:(List.map ac.aa R.O)[j]? with
    | none=>rw[af] at hk;cases hk
    | some x=>rw[af] at hk;cases hk;exact⟨x,rfl⟩
   obtain⟨x,rfl⟩:=this
   have hb:(⟨g0,1,List.map a7 R.aC⟩::⟨g1,2,List.map bH R.aq⟩::⟨g2,5,bp 4 R.O (List.range R.O.length)⟩::⟨g3,5,rows⟩::List.map bR (List.map ac.aa R.O):List Blk)[j+4]?=some ⟨0,1,List.map a7 x⟩:=hk
   exact pN (b:=j+4) hb yb rfl
 ·rw[hlen]
  exact .cons (.bool _) (.cons (.ref (by omega) rfl rfl rfl) (.cons (.ref (by omega) rfl rfl rfl) (.cons (.ref (by omega) rfl rfl rfl) .nil)))
theorem acd {k s:Nat} {ws:List ac} {ids:List Nat}:(bp s ws ids).map (fun row=>row.map (jH k))=bp (s+k) ws ids:=by
 apply List.ext_getElem?
 intro i
 unfold bp
 rw[List.getElem?_map,List.getElem?_zipWith,List.getElem?_zipWith]
 cases ws[i]? with
 | none=>rfl
 | some h=>
  cases ids[i]? with
  | none=>rfl
  | some id=>
   show some [_,_,AV.ref (k+(id+s)) 0 0 h.aa.length false,_,_]=some [_,_,AV.ref (id+(s+k)) 0 0 h.aa.length false,_,_]
   rw[show k+(id+s)=id+(s+k) by omega];rfl
theorem aca {k:Nat} {bs:List (List Bool)}:(List.map bR bs).map (kp k)=List.map bR bs:=by
 rw[List.map_map]
 refine List.map_congr_left fun b _=> ?_
 show(⟨0,1,(List.map a7 b).map fun row=>row.map (jH k)⟩:Blk)=⟨0,1,_⟩
 rw[List.map_map]
 congr 1
theorem acb {k g0 g1 g2 s:Nat} {aC:List Bool} {pH:List cJ} {ws:List ac} {ids:List Nat} {bs:List (List Bool)}:
  (⟨g0,1,List.map a7 aC⟩::⟨g1,2,List.map bH pH⟩::⟨g2,5,bp s ws ids⟩::List.map bR bs:List Blk).map (kp k)=⟨g0,1,List.map a7 aC⟩::⟨g1,2,List.map bH pH⟩::⟨g2,5,bp (s+k) ws ids⟩::List.map bR bs:=by
 refine tQ (fun _=>rfl) (tQ (fun _=>rfl) ?_)
 show(⟨g2,5,(bp s ws ids).map fun row=>row.map (jH k)⟩:Blk)::(List.map bR bs).map (kp k)=_
 rw[acd,aca]
structure jN (ws:List ac) (ids:List Nat) (bs:List (List Bool)):Prop where
 ok:mK ws ids bs
 kF: ∀i j k:Nat,ids[i]?=some k→ids[j]?=some k→i=j
 len: ∀b∈bs,b.length≤1048576
theorem w8 {bs:List (List Bool)} {b:List Bool}:List.map bR bs++[⟨0,1,List.map a7 b⟩]=List.map bR (bs++[b]):=by rw[List.map_append];rfl
section
variable {P:Program} {esc:List Nat} {ops:Array Oper} {n:Nat} {X:List Oper} {i0:Nat} {A:List (Nat×AV)} {L:List (Nat×List AV)} {H:List Blk} {K:List (Nat×AV)→List (Nat×List AV)→List Blk→Prop}
theorem l7 (bf:Nat) (d:Option Nat) (N:List (Nat×AV)) (rows:List (List AV)) {row:List AV} (i:Int) (t:TypeId) (c g:Nat) (v:AV) (eO:rows[i.toNat]?=some row) (h:evS P esc ops n (X.drop (i0+bf)) (ds d v N A) L H K)
  (e2: ∀K,ix P t row c K=K v:=by intro K;kernel_rfl)
  (e: ∀K,evS P esc ops n ((X.drop i0).take bf) A L H K=(g=g∧cM rows[0+i.toNat]? fun row=>ix P t row c fun v=>K (ds d v N A) L H):=by intro K;kernel_rfl):evS P esc ops n (X.drop i0) A L H K:=by
 rw[js X i0 bf,e]
 exact⟨rfl,dN (a:=row) (by rw[Nat.zero_add];exact eO) (by rw[e2];exact h)⟩
theorem ab1 (bf:Nat) (d:Option Nat) (N:List (Nat×AV)) (rows:List (List AV)) {row row':List AV} (i:Int) (c k g:Nat) (cells:List AV) (H':List (List AV)→List Blk) (jj:List (List AV)) (eO:rows[i.toNat]?=some row) (rM:rows.set i.toNat row'=jj)
  (h:evS P esc ops n (X.drop (i0+bf)) (ds d (.tup []) N A) L (H' jj) K) (hc:Nat.ble (c+k) row.length=true:=by kernel_rfl) (hs:gh row c cells=row':=by kernel_rfl)
  (e: ∀K,evS P esc ops n ((X.drop i0).take bf) A L H K=(g=g∧cM rows[0+i.toNat]? fun row=>c+k≤row.length∧K (ds d (.tup []) N A) L (H' (rows.set (0+i.toNat) (gh row c cells)))):=by intro K;kernel_rfl):evS P esc ops n (X.drop i0) A L H K:=by
 rw[js X i0 bf,e]
 refine⟨rfl,dN (a:=row) (by rw[Nat.zero_add];exact eO) ⟨Nat.le_of_ble_eq_true hc,?_⟩⟩
 ·rw[hs,Nat.zero_add,rM];exact h
theorem mD (bf:Nat) (d:Option Nat) (N:List (Nat×AV)) (rows:List (List AV)) {row row':List AV} (i:Int) (c k g:Nat) (cells:List AV) (j:Nat) (jj:List (List AV)) (eO:rows[i.toNat]?=some row) (rM:rows.set i.toNat row'=jj)
  (h:evS P esc ops n (X.drop (i0+bf)) (ds d (.tup []) N A) L (ia j jj H) K) (hc:Nat.ble (c+k) row.length=true:=by kernel_rfl) (hs:gh row c cells=row':=by kernel_rfl)
  (e: ∀K,evS P esc ops n ((X.drop i0).take bf) A L H K=(g=g∧cM rows[0+i.toNat]? fun row=>c+k≤row.length∧K (ds d (.tup []) N A) L (ia j (rows.set (0+i.toNat) (gh row c cells)) H)):=by intro K;kernel_rfl):evS P esc ops n (X.drop i0) A L H K:=ab1 bf d N rows i c k g cells (fun r=>ia j r H) jj eO rM h hc hs e
theorem abU (bf:Nat) (d:Option Nat) (N:List (Nat×AV)) (bs:List (List Bool)) (id s:Nat) {i:Int} {m:Nat} (hid:id<bs.length) (aI:0≤i∧i.toNat<m) (h:evS P esc ops n (X.drop (i0+bf)) (ds d (.ptr (id+s) 0 (0+i.toNat) 0) N A) L H K)
  (e: ∀K,evS P esc ops n ((X.drop i0).take bf) A L H K=(cM (List.map bR bs)[id]? fun blk=>blk.bi=0∧blk.sz=1∧0≤i∧i<m∧K (ds d (.ptr (id+s) 0 (0+i.toNat) 0) N A) L H):=by intro K;kernel_rfl):evS P esc ops n (X.drop i0) A L H K:=by
 rw[js X i0 bf,e]
 exact dN (rv hid) ⟨rfl,rfl,aI.1,by have:=aI.2;omega,h⟩
theorem ab0 (bf:Nat) (d:Option Nat) (N:List (Nat×AV)) (bs:List (List Bool)) (id:Nat) (i:Int) (x:Bool) (H':List Blk→List Blk) (hid:id<bs.length) (hi:i.toNat<(bs.getD id []).length)
  (h:evS P esc ops n (X.drop (i0+bf)) (ds d (.tup []) N A) L (H' (List.map bR (bs.set id ((bs.getD id []).set i.toNat x)))) K)
  (e: ∀K,evS P esc ops n ((X.drop i0).take bf) A L H K=(cM (List.map bR bs)[id]? fun blk=>blk.bi=0∧cM blk.rows[0+i.toNat]? fun row=>0+1≤row.length∧K (ds d (.tup []) N A) L (H' ((List.map bR bs).set id {blk with rows:=blk.rows.set (0+i.toNat) (gh row 0 [.bool x])}))):=by intro K;kernel_rfl):evS P esc ops n (X.drop i0) A L H K:=by
 rw[js X i0 bf,e]
 have key:(List.map bR bs).set id {bR (bs.getD id []) with rows:=(bR (bs.getD id [])).rows.set (0+i.toNat) (gh (a7 (nth (bs.getD id []) i)) 0 [.bool x])}=List.map bR (bs.set id ((bs.getD id []).set i.toNat x)):=by
  rw[←DN]
  congr 1
  show(⟨0,1,(List.map a7 (bs.getD id [])).set (0+i.toNat) (a7 x)⟩:Blk)=⟨0,1,_⟩
  rw[Nat.zero_add,CO]
 refine dN (rv hid) ⟨rfl,dN (a:=a7 (nth (bs.getD id []) i)) (by rw[Nat.zero_add];exact w1 hi) ⟨Nat.le_refl _,?_⟩⟩
 ·rw[key];exact h
theorem ab2 (bf:Nat) (N:List (Nat×AV)) (H':List Blk) {φ ψ:Prop} (h1:φ) (h2:ψ) (h:evS P esc ops n (X.drop (i0+bf)) (gg N A) L H' K) (e: ∀K,evS P esc ops n ((X.drop i0).take bf) A L H K=(φ∧ψ∧K (gg N A) L H'):=by intro K;kernel_rfl):evS P esc ops n (X.drop i0) A L H K:=by
 rw[js X i0 bf,e];exact⟨h1,h2,h⟩
theorem abZ (H':List Blk) (aB:H=H') (h:evS P esc ops n (X.drop i0) A L H' K):evS P esc ops n (X.drop i0) A L H K:=by
 subst aB;exact h
theorem GW (bf:Nat) (d:Option Nat) (N:List (Nat×AV)) {g:FuncId} (args:List AV) (Q:AV→List Blk→Prop) (hf:dw P g args H Q) (av: ∀r H',Q r H'→vA r=true) (h: ∀r H',Q r H'→evS P esc ops n (X.drop (i0+bf)) (ds d r N A) L H' K)
  (ao:args.all et=true:=by kernel_rfl) (aE:args.all jC=true:=by kernel_rfl) (e: ∀K,evS P esc ops n ((X.drop i0).take bf) A L H K=(kw P g args L H (fun v L' H'=>K (ds d v N A) L' H')):=by intro K;kernel_rfl):evS P esc ops n (X.drop i0) A L H K:=by
 rw[js X i0 bf,e]
 exact .inr (.inr (.inl ⟨ao,aE,hf.mono fun r H' af=>⟨av r H' af,h r H' af⟩⟩))
theorem abY (bf:Nat) (d:Option Nat) (N:List (Nat×AV)) {i:Int} (B:Int) (z:List AV) (m:Nat) (lH:List Blk) (aI:0≤i∧B*i≤140737488355328∧i≤4611686018427387904) (aE:H.length=m) (hx:H++[⟨0,1,List.map a7 (List.replicate i.toNat false)⟩]=lH)
  (h:evS P esc ops n (X.drop (i0+bf)) (ds d (.ref m 0 0 (List.replicate i.toNat false).length false) N A) L lH K) (aH:z=a7 false:=by rfl)
  (e: ∀K,evS P esc ops n ((X.drop i0).take bf) A L H K=(0≤i∧i≤i∧B*i≤140737488355328∧i≤4611686018427387904∧K (ds d (.ref H.length 0 0 i.toNat false) N A) L (H++[⟨0,1,List.replicate i.toNat z⟩])):=by intro K;kernel_rfl):evS P esc ops n (X.drop i0) A L H K:=by
 rw[js X i0 bf,e]
 subst aE;subst hx;subst aH
 rw[List.length_replicate,List.map_replicate] at h
 exact⟨aI.1,Int.le_refl _,aI.2.1,aI.2.2,h⟩
theorem abV (bf:Nat) (d:Option Nat) (N:List (Nat×AV)) (ys:List Bool) (B:Nat) (m:Nat) (lH:List Blk) (aI:ys.length*B≤140737488355328∧ys.length≤4611686018427387904) (aE:H.length=m) (hx:H++[⟨0,1,List.map a7 ys⟩]=lH)
  (h:evS P esc ops n (X.drop (i0+bf)) (ds d (.ref m 0 0 ys.length false) N A) L lH K)
  (e: ∀K,evS P esc ops n ((X.drop i0).take bf) A L H K=(true=true∧true=true∧se 1 (List.map a7 ys)∧true=true∧(∀row∈([]:List (List AV)),row.length=1)∧(List.length (α:=List AV) []+(List.map a7 ys).length)*B≤140737488355328∧List.length (α:=List AV) []+(List.map a7 ys).length≤4611686018427387904∧(([]:List (List AV))≠[]→(List.map a7 ys)≠[])∧
   K (ds d (.ref H.length 0 0 (List.length (α:=List AV) []+(List.map a7 ys).length) false) N A) L (H++[⟨0,1,[]++(List.map a7 ys)⟩])):=by intro K;kernel_rfl):evS P esc ops n (X.drop i0) A L H K:=by
 rw[js X i0 bf,e]
 subst aE;subst hx
 refine⟨rfl,rfl,GQ (enc:=a7) (fun _=>⟨rfl,rfl⟩) ys,rfl,(fun row h=>by cases h),by simpa using aI.1,by simpa using aI.2,(fun h=>absurd rfl h),?_⟩
 simpa using h
theorem O3 (bf:Nat) (d:Option Nat) (N:List (Nat×AV)) (s b g q B:Nat) (ws:List ac) (ids:List Nat) (x:ac) (id:Nat) (H':List (List AV)→List Blk) (aE:ws.length=ids.length)
  (aI:(ws.length+1)*B≤140737488355328∧ws.length+1≤4611686018427387904) (h:evS P esc ops n (X.drop (i0+bf)) (ds d (.ref b (g+1) 0 (ws++[x]).length false) N A) L (H' (bp s (ws++[x]) (ids++[id]))) K)
  (e: ∀K,evS P esc ops n ((X.drop i0).take bf) A L H K=(true=true∧true=true∧(q=q∧0+1≤1∧(se 5 [k0 s x id]∧0=0∧g=g∧5=5∧(bp s ws ids).length=ws.length∧(ws.length+1)*B≤140737488355328∧ws.length+1≤4611686018427387904∧
   K (ds d (.ref b (g+1) 0 (ws.length+1) false) N A) L (H' (bp s ws ids++[k0 s x id]))))):=by intro K;kernel_rfl):evS P esc ops n (X.drop i0) A L H K:=by
 rw[js X i0 bf,e]
 refine⟨rfl,rfl,rfl,Nat.le_refl _,?_,rfl,rfl,rfl,xl aE,aI.1,aI.2,?_⟩
 ·intro row av
  rw[List.mem_singleton.1 av]
  exact⟨rfl,fun a aF=>List.all_eq_true.1 (show(k0 s x id).all iS=true from rfl) a aF⟩
 ·rw[U8 aE];rw[List.length_append] at h;exact h
end
section
variable {P:Program} {esc:List Nat} {ops:Array Oper} {n:Nat} {X:List Item} {i0:Nat} {A:List (Nat×AV)} {L:List (Nat×List AV)} {H:List Blk} {K:List (Nat×AV)→List (Nat×List AV)→List Blk→Prop}
theorem ns (bf:Nat) (d:Option Nat) (N:List (Nat×AV)) (rows:List (List AV)) {row:List AV} (i:Int) (t:TypeId) (c g:Nat) (v:AV) (eO:rows[i.toNat]?=some row) (h:evSD P esc ops n (X.drop (i0+bf)) (ds d v N A) L H K)
  (e2: ∀K,ix P t row c K=K v:=by intro K;kernel_rfl)
  (e: ∀K,evSD P esc ops n ((X.drop i0).take bf) A L H K=(g=g∧cM rows[0+i.toNat]? fun row=>ix P t row c fun v=>K (ds d v N A) L H):=by intro K;kernel_rfl):evSD P esc ops n (X.drop i0) A L H K:=by
 rw[mn X i0 bf,e]
 exact⟨rfl,dN (a:=row) (by rw[Nat.zero_add];exact eO) (by rw[e2];exact h)⟩
theorem tX (bf:Nat) (d:Option Nat) (N:List (Nat×AV)) (bs:List (List Bool)) (id s:Nat) {i:Int} {m:Nat} (hid:id<bs.length) (aI:0≤i∧i.toNat<m) (h:evSD P esc ops n (X.drop (i0+bf)) (ds d (.ptr (id+s) 0 (0+i.toNat) 0) N A) L H K)
  (e: ∀K,evSD P esc ops n ((X.drop i0).take bf) A L H K=(cM (List.map bR bs)[id]? fun blk=>blk.bi=0∧blk.sz=1∧0≤i∧i<m∧K (ds d (.ptr (id+s) 0 (0+i.toNat) 0) N A) L H):=by intro K;kernel_rfl):evSD P esc ops n (X.drop i0) A L H K:=by
 rw[mn X i0 bf,e]
 exact dN (rv hid) ⟨rfl,rfl,aI.1,by have:=aI.2;omega,h⟩
theorem yT (bf:Nat) (d:Option Nat) (N:List (Nat×AV)) (bs:List (List Bool)) (id:Nat) (i:Int) (t:TypeId) (hid:id<bs.length) (hi:i.toNat<(bs.getD id []).length) (h:evSD P esc ops n (X.drop (i0+bf)) (ds d (.bool (nth (bs.getD id []) i)) N A) L H K)
  (e2: ∀x K,ix P t (a7 x) 0 K=K (.bool x):=by intro x K;kernel_rfl)
  (e: ∀K,evSD P esc ops n ((X.drop i0).take bf) A L H K=(cM (List.map bR bs)[id]? fun blk=>blk.bi=0∧cM blk.rows[0+i.toNat]? fun row=>ix P t row 0 fun v=>K (ds d v N A) L H):=by intro K;kernel_rfl):evSD P esc ops n (X.drop i0) A L H K:=by
 rw[mn X i0 bf,e]
 refine dN (rv hid) ⟨rfl,dN (a:=a7 (nth (bs.getD id []) i)) (by rw[Nat.zero_add];exact w1 hi) (by rw[e2];exact h)⟩
theorem QJ (bf:Nat) (d:Option Nat) (N:List (Nat×AV)) (bs:List (List Bool)) (id:Nat) (i:Int) (x:Bool) (F:List Blk→Prop) (H':List Blk→List Blk) (hid:id<bs.length) (hi:i.toNat<(bs.getD id []).length)
  (eo:F ((List.map bR (bs.set id ((bs.getD id []).set i.toNat x))))) (h:evSD P esc ops n (X.drop (i0+bf)) (ds d (.tup []) N A) L (H' (List.map bR (bs.set id ((bs.getD id []).set i.toNat x)))) K)
  (e: ∀K,evSD P esc ops n ((X.drop i0).take bf) A L H K=(cM (List.map bR bs)[id]? fun blk=>blk.bi=0∧cM blk.rows[0+i.toNat]? fun row=>0+1≤row.length∧F (((List.map bR bs).set id {blk with rows:=blk.rows.set (0+i.toNat) (gh row 0 [.bool x])}))∧K (ds d (.tup []) N A) L (H' ((List.map bR bs).set id {blk with rows:=blk.rows.set (0+i.toNat) (gh row 0 [.bool x])}))):=by intro K;kernel_rfl):evSD P esc ops n (X.drop i0) A L H K:=by
 rw[mn X i0 bf,e]
 have key:(List.map bR bs).set id {bR (bs.getD id []) with rows:=(bR (bs.getD id [])).rows.set (0+i.toNat) (gh (a7 (nth (bs.getD id []) i)) 0 [.bool x])}=List.map bR (bs.set id ((bs.getD id []).set i.toNat x)):=by
  rw[←DN]
  congr 1
  show(⟨0,1,(List.map a7 (bs.getD id [])).set (0+i.toNat) (a7 x)⟩:Blk)=⟨0,1,_⟩
  rw[Nat.zero_add,CO]
 refine dN (rv hid) ⟨rfl,dN (a:=a7 (nth (bs.getD id []) i)) (by rw[Nat.zero_add];exact w1 hi) ⟨Nat.le_refl _,?_,?_⟩⟩
 ·rw[key];exact eo
 ·rw[key];exact h
end
theorem ab8 {H:List Blk} {b j:Nat} {x y:Blk} (h:(H.set b x)[j]?=some y):(j=b∧y=x)∨(j≠b∧H[j]?=some y):=by
 rw[List.getElem?_set] at h
 split at h
 ·rename_i e;subst e
  split at h
  ·cases h;exact .inl ⟨rfl,rfl⟩
  ·cases h
 ·rename_i e;exact .inr ⟨fun h=>e h.symm,h⟩
theorem JY [h5:cw] {cj E:Env} {H:List Blk} {L:List (Nat×List AV)} (g:Good cj E) (aB:SimH E H) (bN:SimL E L) {b lO sz:Nat} {rows:List (List AV)} (hb:H[b]?=some ⟨lO,sz,rows⟩) (fS:h5.n≤b)
  (hk: ∀row∈rows,∀a∈row,iB a=true∧mZ a=true) (h9:rows.length≤4611686018427387904):
  ∃E',E'.w=E.w∧Good cj E'∧SimH E' (H.set b ⟨lO+1,sz,[]⟩)∧SimL E' L∧E.gj E'∧E'.mL=E.mL∧ ∀v full,ez E (.ref b lO 0 rows.length full) v→aW E'.w E'.PA E'.PF (.aV (rows.map fun row=>row.map hX) false true) v:=by
 have ju:E.bi b=lO:=aB.eI b _ hb
 have pj:=(List.getElem?_eq_some_iff.1 hb).1
 let E':Env:={E with PA:=fun c=>E.PA c∨E.m b=some (some c),PF:=fun c=>E.PF c∨E.m b=some (some c),m:=fun j=>if j=b then none else E.m j,bi:=fun j=>if j=b then lO+1 else E.bi j}
 have hm: ∀{j:Nat} {x:Option Nat},E'.m j=some x→j≠b∧E.m j=some x:=fun{j x} h=>by
  have h:(if j=b then none else E.m j)=some x:=h
  split at h
  ·cases h
  ·rename_i e;exact⟨e,h⟩
 have aQ: ∀{j:Nat},j≠b→E'.bi j=E.bi j:=fun{j} h=>if_neg h
 have hle:E.gj E':=⟨fun _ h=> .inl h,fun _ h=> .inl h,fun _ _=>rfl,fun _ _=>rfl,fun j=>by
   show E.bi j≤(if j=b then lO+1 else E.bi j)
   split
   ·rename_i e;subst e;omega
   ·exact Nat.le_refl _,fun j x hx pn=>by
   have pn:(if j=b then lO+1 else E.bi j)=E.bi j:=pn
   have bY:j≠b:=fun e=>by subst e;rw[if_pos rfl] at pn;omega
   exact⟨by show(if j=b then none else E.m j)=_;rw[if_neg bY];exact hx,rfl,rfl⟩,fun _ _ h=>h⟩
 have cS: ∀c,E.m b=some (some c)→cj.w.heap.size≤c:=fun c hc=>(g.iu b c hc).elim (fun h=>by rw[(g.x7 b fS).1] at h;cases h) id
 have jw:=aB.fl
 refine⟨E',rfl,?_,?_,?_,hle,rfl,?_⟩
 ·exact{g with
   le:=g.le.trans hle
   iu:=fun j c h=>g.iu j c (hm h).2
   iK:=g.iK
   fo:=fun c hc=>hc.elim (g.fo c) fun h=> .inr (cS c h)
   e9:=fun c hc=>hc.elim (g.e9 c) fun h=> .inr (cS c h)}
 ·exact{aB with
   heap:=fun j c h=>by
    obtain⟨bY,h⟩:=hm h
    obtain⟨blk,aw,ty,q1,b5,q2,q3,q4,cW,cO⟩:=aB.heap j c h
    refine⟨blk,aw,ty,by rw[List.getElem?_set,if_neg (fun e=>bY e.symm)];exact q1,b5,q2,q3,q4,cW,fun i k row a h1 h2=> ?_⟩
    obtain⟨u,hu,av⟩:=cO i k row a h1 h2
    exact⟨u,hu,av.le hle.b0⟩
   eI:=fun j blk h=>by
    rcases ab8 h with⟨rfl,rfl⟩ | ⟨bY,h⟩
    ·exact if_pos rfl
    ·rw[aQ bY];exact aB.eI j blk h
   gQ:=fun j h=>by
    obtain⟨bY,h⟩:=hm h
    obtain⟨blk,q1,q2⟩:=aB.gQ j h
    exact⟨blk,by rw[List.getElem?_set,if_neg (fun e=>bY e.symm)];exact q1,q2⟩
   fresh:=fun j h=>by
    rw[List.length_set] at h
    have:=aB.fresh j h
    have bY:j≠b:=by omega
    exact⟨by show(if j=b then none else E.m j)=none;rw[if_neg bY];exact this.1,by rw[aQ bY];exact this.2⟩
   gF:=fun j k c h1 h2=>aB.gF j k c (hm h1).2 (hm h2).2
   gn:=fun j t c h1 h2=>aB.gn j t c (hm h1).2 h2
   hq:=fun c hc ⟨j,ap⟩=>by
    obtain⟨bY,ap⟩:=hm ap
    rcases hc with hc | hc
    ·exact aB.hq c hc ⟨j,ap⟩
    ·exact bY (aB.gF j b c ap hc)
   hN:=fun c hc ⟨t,bn⟩=>by
    rcases hc with hc | hc
    ·exact aB.hN c hc ⟨t,bn⟩
    ·exact aB.gn b t c hc bn
   dr:=fun c hc=>hc.elim (fun h=> .inl (aB.dr c h)) .inr
   fh:=fun c hc=>hc.elim (aB.fh c) fun h=>by
    obtain⟨_,aw,ty,_,_,q,_⟩:=aB.heap b c h
    exact⟨aw,ty,q⟩
   dy:=fun c hc=>hc.elim (aB.dy c) fun h=>jw c ⟨b,h⟩
   fl:=fun c ⟨j,ap⟩=>jw c ⟨j,(hm ap).2⟩}
 ·intro t c bn
  obtain⟨cells,aw,ty,q1,q2,q3⟩:=bN t c bn
  exact⟨cells,aw,ty,q1,q2,q3.mono fun _ _ k=>k.le hle.b0⟩
 ·intro v full hv
  rcases hv with⟨bD,_⟩ | ⟨fT,bD⟩
  ·omega
  ·rcases bD with⟨_,_,lk,A,rfl⟩ | ⟨c,cap,jW,rfl,nK,ov,pk⟩
   ·obtain rfl:rows=[]:=List.eq_nil_of_length_eq_zero lk
    exact aW.aV (rows:=[]) (PB:=fun _=>False) (sz:=0) (vs:=fun _ _=>undef) (fun _ h=>h.elim) ⟨Nat.le_refl _,Nat.zero_le _⟩ (fun _=>rfl) (fun i row h=>by simp at h) (fun h=>by simp at h) (fun i j row a h=>by simp at h)
   ·obtain⟨blk,aw,ty,q1,b5,q2,q3,q4,cW,cO⟩:=aB.heap b c jW
    rw[hb] at q1
    cases q1
    have key:=aW.aV (w:=E.w) (PA:=E'.PA) (PF:=E'.PF) (PB:=E'.PF) (rows:=rows.map fun row=>row.map hX) (full:=false) (fresh:=true) (A:=some ⟨c,0,none⟩) (cap:=cap) (sz:=E.sz b) (vs:=fun i j=>(aw[i*E.sz b+j]?).getD undef)
     (fun c hc=>by simpa using hc) (by rw[List.length_map];exact⟨nK,h9⟩) (fun h=>by cases h) (fun i row' av=> ?_) (fun kD=>⟨c,0,rfl,.inr jW,fun i j hi ap=> ?_⟩) (fun i j row' gk av ap=> ?_)
    ·rw[List.length_map] at key
     show aW E.w E'.PA E'.PF _ (.slice (some ⟨c,0*E.sz b,none⟩) rows.length cap)
     rw[Nat.zero_mul];exact key
    ·rw[List.getElem?_map] at av
     cases af:rows[i]? with
     | none=>simp[af] at av
     | some row=>simp[af] at av;subst av;rw[List.length_map];exact cW i row af
    ·rw[List.length_map] at hi
     have av:=List.getElem?_eq_getElem hi
     have aE:=cW i _ av
     obtain⟨u,hu,_⟩:=cO i j _ _ av (List.getElem?_eq_getElem (by rw[aE];exact ap))
     rw[Nat.zero_add,cell_of q2 hu,hu];rfl
    ·rw[List.getElem?_map] at av
     cases af:rows[i]? with
     | none=>simp[af] at av
     | some row=>
      simp[af] at av;subst av
      rw[List.getElem?_map] at ap
      cases jz:row[j]? with
      | none=>simp[jz] at ap
      | some a=>
       simp[jz] at ap;subst ap
       obtain⟨u,hu,gA⟩:=cO i j row a af jz
       obtain⟨dA,hp⟩:=hk row (List.mem_of_getElem? af) a (List.mem_of_getElem? jz)
       rw[hu]
       exact(QS dA hp (zy dA gA)).mono (fun _ _=>rfl) (fun _ h=>h.elim) (fun c hc=> .inl hc) (fun _ h=>h)
theorem Weak.Ut [h5:cw] (i:Nat) {T:List AV} {L:List (Nat×List AV)} {H:List Blk} {b lO sz n:Nat} {full:Bool} {rows:List (List AV)} (cc:T.getD i .undef= .ref b lO 0 n full) (ao:n=rows.length) (hb:H[b]?=some ⟨lO,sz,rows⟩) (fS:h5.n≤b)
  (hk: ∀row∈rows,∀a∈row,iB a=true∧mZ a=true) (h9:rows.length≤4611686018427387904):Weak ⟨T,L,H⟩ ⟨T.set i (.aV (rows.map fun row=>row.map hX) false true),L,H.set b ⟨lO+1,sz,[]⟩⟩:=fun cj E tmps g s=>by
 subst ao
 obtain⟨E',hw,aQ,h1,h2,hle,KO,hv⟩:=JY g s.h s.l hb fS hk h9
 refine⟨E',hw,aQ,h1,h2,fun t=> ?_,by simpa using s.size⟩
 show V3 E' ((T.set i _).getD t .undef) _
 rw[qf]
 split
 ·rename_i af
  obtain⟨rfl,_⟩:=af
  have aI:V3 E (T.getD i .undef) (tmps.getD i undef):=s.hP i
  rw[cc] at aI
  exact hv _ full aI
 ·exact(s.hP t).le hle
theorem Weak.Us [h5:cw] (t i:Nat) {T:List AV} {L:List (Nat×List AV)} {H:List Blk} {cells:List AV} {b lO sz n:Nat} {full:Bool} {rows:List (List AV)} (hc:dZ L t=some cells) (cc:cells.getD i .undef= .ref b lO 0 n full) (ao:n=rows.length) (hb:H[b]?=some ⟨lO,sz,rows⟩) (fS:h5.n≤b)
  (hk: ∀row∈rows,∀a∈row,iB a=true∧mZ a=true) (h9:rows.length≤4611686018427387904):Weak ⟨T,L,H⟩ ⟨T,ko L t (cells.set i (.aV (rows.map fun row=>row.map hX) false true)),H.set b ⟨lO+1,sz,[]⟩⟩:=fun cj E tmps g s=>by
 subst ao
 obtain⟨E',hw,aQ,h1,h2,hle,KO,hv⟩:=JY g s.h s.l hb fS hk h9
 refine⟨E',hw,aQ,h1,fun u c hm=> ?_,fun t=>(s.hP t).le hle,s.size⟩
 rw[KO] at hm
 obtain⟨gw,aw,ty,q1,q2,q3⟩:=s.l u c hm
 show ∃CY aw ty,dZ (ko L t _) u=some CY∧_
 rw[xe]
 by_cases hu:u=t
 ·subst hu
  rw[if_pos rfl]
  have ym:dZ L u=some gw:=q1
  rw[hc] at ym
  cases ym
  refine⟨_,aw,ty,by rw[hc];rfl,by rw[hw];exact q2,by simpa using q3.1,fun j x v hx qC=> ?_⟩
  rw[List.getElem?_set] at hx
  split at hx
  ·rename_i li
   subst li
   split at hx
   ·rename_i aX
    cases hx
    have KB:=List.getElem?_eq_getElem aX
    have he:cells.getD i .undef=cells[i]:=by rw[List.getD_eq_getElem?_getD,KB];rfl
    have kf:=q3.2 i _ v KB qC
    rw[←he,cc] at kf
    exact aW.v1 (E:=E'.b0) (hv v full kf)
   ·cases hx
  ·exact(q3.2 j x v hx qC).le hle.b0
 ·rw[if_neg hu]
  exact⟨gw,aw,ty,q1,by rw[hw];exact q2,q3.mono fun _ _ k=>k.le hle.b0⟩
def yz (n:Nat):AV→Bool
 | .ref b _ _ _ _=>Nat.blt b n
 | .ptr b _ _ _=>Nat.blt b n
 | _=>true
def oT (n:Nat):AV→Bool
 | .fn _ caps=>caps.all (yz n)
 | a=>yz n a
def vU (n:Nat):AV→Bool
 | .agg l=>l.all (oT n)
 | a=>oT n a
def vV (n:Nat):AV→Bool
 | .tup l=>l.all (vU n)
 | a=>vU n a
def Env.cut (E:Env) (n:Nat):Env:={E with m:=fun j=>if j<n then E.m j else none,bi:=fun j=>if j<n then E.bi j else 0}
section
variable {E:Env} {n:Nat}
theorem w4 {j:Nat} (h:j<n):(E.cut n).m j=E.m j∧(E.cut n).bi j=E.bi j:=⟨if_pos h,if_pos h⟩
theorem ez.cut {a:AV} {v:Value} (h:yz n a=true) (hv:ez E a v):ez (E.cut n) a v:=by
 cases a with
 | ref b g o m f=>
  have hb:b<n:=by rw[←Nat.blt_eq];exact h
  obtain⟨aR,e2⟩:=w4 (E:=E) hb
  have hv:(g<E.bi b∧_)∨(g=E.bi b∧_):=hv
  show(g<(E.cut n).bi b∧_)∨(g=(E.cut n).bi b∧_)
  rw[aR,e2];exact hv
 | ptr b g r c=>
  have hb:b<n:=by rw[←Nat.blt_eq];exact h
  obtain⟨aR,e2⟩:=w4 (E:=E) hb
  have hv:(g<E.bi b∧_)∨(g=E.bi b∧_):=hv
  show(g<(E.cut n).bi b∧_)∨(g=(E.cut n).bi b∧_)
  rw[aR,e2];exact hv
 | _=>exact hv
theorem b1.cut {a:AV} {v:Value} (h:oT n a=true) (hv:b1 E a v):b1 (E.cut n) a v:=by
 by_cases hf: ∃f caps,a= .fn f caps
 ·obtain⟨f,caps,rfl⟩:=hf
  obtain⟨vs,e,ai⟩:=hv
  exact⟨vs,e,ai.1,fun i x y hx ba=>(ai.2 i x y hx ba).cut (List.all_eq_true.1 (show caps.all (yz n)=true from h) x (List.mem_of_getElem? hx))⟩
 ·have aI:oT n a=yz n a:=by cases a<;>first | rfl | exact absurd ⟨_,_,rfl⟩ hf
  rw[o5 fun f c e=>hf ⟨f,c,e⟩] at hv ⊢
  exact hv.cut (aI▸h)
theorem V2.cut {a:AV} {v:Value} (h:vU n a=true) (hv:V2 E a v):V2 (E.cut n) a v:=by
 by_cases hf: ∃l,a= .agg l
 ·obtain⟨l,rfl⟩:=hf
  obtain⟨vs,e,ai⟩:=hv
  exact⟨vs,e,ai.1,fun i x y hx ba=>(ai.2 i x y hx ba).cut (List.all_eq_true.1 (show l.all (oT n)=true from h) x (List.mem_of_getElem? hx))⟩
 ·have aI:vU n a=oT n a:=by cases a<;>first | rfl | exact absurd ⟨_,rfl⟩ hf
  rw[ny fun l e=>hf ⟨l,e⟩] at hv ⊢
  exact hv.cut (aI▸h)
theorem V3.cut {a:AV} {v:Value} (h:vV n a=true) (hv:V3 E a v):V3 (E.cut n) a v:=by
 by_cases hf: ∃l,a= .tup l
 ·obtain⟨l,rfl⟩:=hf
  obtain⟨vs,e,ai⟩:=hv
  exact⟨vs,e,ai.1,fun i x y hx ba=>(ai.2 i x y hx ba).cut (List.all_eq_true.1 (show l.all (vU n)=true from h) x (List.mem_of_getElem? hx))⟩
 ·have aI:vV n a=vU n a:=by cases a<;>first | rfl | exact absurd ⟨_,rfl⟩ hf
  rw[nz fun l e=>hf ⟨l,e⟩] at hv ⊢
  exact hv.cut (aI▸h)
end
theorem Weak.cut [h5:cw] (n:Nat) {T:List AV} {L:List (Nat×List AV)} {H:List Blk} (fS:h5.n≤n) (cc: ∀t,vV n (T.getD t .undef)=true) (bN: ∀t cells,dZ L t=some cells→cells.all (oT n)=true) (aB: ∀(b:Nat) (blk:Blk),b<n→H[b]?=some blk→ ∀row∈blk.rows,row.all (oT n)=true):
  Weak ⟨T,L,H⟩ ⟨T,L,H.take n⟩:=fun cj E tmps g s=>by
 have gS:SimH E H:=s.h
 have hm: ∀{j:Nat} {x:Option Nat},(E.cut n).m j=some x→j<n∧E.m j=some x:=fun{j x} h=>by
  have h:(if j<n then E.m j else none)=some x:=h
  split at h
  ·rename_i e;exact⟨e,h⟩
  ·cases h
 have get: ∀{j:Nat},j<n→(H.take n)[j]?=H[j]?:=fun{j} h=>by rw[List.getElem?_take,if_pos h]
 refine⟨E.cut n,rfl,?_,?_,?_,fun t=>(s.hP t).cut (cc t),s.size⟩
 ·exact{g with
   le:=⟨g.le.fo,g.le.e9,g.le.sl,g.le.wf,fun b=>by
     show cj.bi b≤(if b<n then E.bi b else 0)
     split
     ·exact g.le.bi b
     ·rw[(g.x7 b (by omega)).2];exact Nat.le_refl _,fun b x hx pn=>by
     have hb:b<n:=by
      rcases Nat.lt_or_ge b n with h | h
      ·exact h
      ·rw[(g.x7 b (by omega)).1] at hx;cases hx
     obtain⟨aR,e2⟩:=w4 (E:=E) hb
     rw[e2] at pn
     rw[aR]
     exact g.le.m b x hx pn,g.le.mL⟩
   iu:=fun b c h=>g.iu b c (hm h).2
   iK:=g.iK}
 ·exact{gS with
   heap:=fun j c h=>by
    obtain⟨ap,h⟩:=hm h
    obtain⟨blk,aw,ty,q1,b5,q2,q3,q4,cW,cO⟩:=gS.heap j c h
    refine⟨blk,aw,ty,by rw[get ap];exact q1,b5,q2,q3,q4,cW,fun i k row a h1 h2=> ?_⟩
    obtain⟨u,hu,av⟩:=cO i k row a h1 h2
    exact⟨u,hu,av.cut (List.all_eq_true.1 (aB j blk ap q1 row (List.mem_of_getElem? h1)) a (List.mem_of_getElem? h2))⟩
   eI:=fun j blk h=>by
    have ap:j<n:=by
     rcases Nat.lt_or_ge j n with q | q
     ·exact q
     ·rw[List.getElem?_take,if_neg (by omega)] at h;cases h
    rw[(w4 (E:=E) ap).2]
    rw[get ap] at h;exact gS.eI j blk h
   gQ:=fun j h=>by
    obtain⟨ap,h⟩:=hm h
    obtain⟨blk,q1,q2⟩:=gS.gQ j h
    exact⟨blk,by rw[get ap];exact q1,q2⟩
   fresh:=fun j h=>by
    rw[List.length_take] at h
    rcases Nat.lt_or_ge j n with q | q
    ·obtain⟨aR,e2⟩:=w4 (E:=E) q
     rw[aR,e2];exact gS.fresh j (by omega)
    ·exact⟨if_neg (by omega),if_neg (by omega)⟩
   gF:=fun j k c h1 h2=>gS.gF j k c (hm h1).2 (hm h2).2
   gn:=fun j t c h1 h2=>gS.gn j t c (hm h1).2 h2
   hq:=fun c hc ⟨j,ap⟩=>gS.hq c hc ⟨j,(hm ap).2⟩
   fl:=fun c ⟨j,ap⟩=>gS.fl c ⟨j,(hm ap).2⟩}
 ·intro t c bn
  obtain⟨cells,aw,ty,q1,q2,q3⟩:=s.l t c bn
  exact⟨cells,aw,ty,q1,q2,q3.1,fun i a u hx hu=>(q3.2 i a u hx hu).cut (List.all_eq_true.1 (bN t cells q1) a (List.mem_of_getElem? hx))⟩
end Go.Proofs.YtglpfccgmfhkdaaGreat.Fw
