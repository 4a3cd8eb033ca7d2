/- The framework, part OP: a call that is handed one struct in the memory (or a variable of the caller's) to write into, beside values that stay. -/
import Derived.Test.YtejmihecgodhnaaGreatDoorM1
set_option linter.unusedVariables false
namespace Go.Proofs.YtejmihecgodhnaaGreatDoor.Fw
open Go
def xz:AV→Bool
 | .aX _ full fr=> !full&& !fr
 | a=>jQ a
theorem ahE {a:AV} (h:xz a=true):jQ a=true∧jL a=a:=by
 cases a with
 | aX rows full fr=>
  refine⟨rfl,?_⟩
  cases full<;>cases fr<;>first | rfl | cases h
 | _=>first | exact⟨h,rfl⟩
def wv (P:Program) (f:FuncId) (g:Nat) (args:List AV) (ay b4:List AV) (t:AV):Prop:=
 c0 P f args [⟨g,ay.length,[ay]⟩] fun r e0=> ∃B,e0=⟨g,ay.length,[b4]⟩::B∧iw (⟨g+1,ay.length,[b4]⟩::B) r t
def wq (p q a a0:AV):Prop:=(a=p∧a0=q)∨cL [] [] a a0
theorem X8 {E:Env} (ae: ∀c,E.PF c→E.PA c) {a b:AV} (h:fQ [] [] a b): ∀{v:Value},bZ E a v→aY E.w E.PA (fun _=>False) b v:=by
 induction h with
 | undef a=>intro v _;exact .undef v
 | int k n=>intro v hv;have hv:aY E.w E.PA E.PF (.int k n) v:=hv;cases hv;exact .int _ _
 | bool k=>intro v hv;have hv:aY E.w E.PA E.PF (.bool k) v:=hv;cases hv;exact .bool _
 | str k=>intro v hv;have hv:aY E.w E.PA E.PF (.str k) v:=hv;cases hv;exact .str _
 | fT=>intro v hv;have hv:aY E.w E.PA E.PF .fT v:=hv;cases hv;exact .fT
 | gu=>intro v hv;have hv:aY E.w E.PA E.PF .gu v:=hv;cases hv;exact .gu
 | aX rows full fr dK hw=>
  intro v hv
  have hv:aY E.w E.PA E.PF (.aX rows full fr) v:=hv
  cases hv with
  | aX eW fl fK b9 dt hrel=>
   exact .aX (fun c hc=>by
    have:=eW c hc
    simp only[Bool.false_eq_true,if_false]
    split at this
    ·exact ae c this
    ·exact this) fl (fun h=>fK (hw h)) b9 dt hrel
 | dh cells c=>
  intro v hv
  have hv:aY E.w E.PA E.PF (.dh cells c) v:=hv
  cases hv with
  | dh hc dt hrel=>exact .dh hc dt hrel
 | fp ax=>cases ax
 | ptr hb=>cases hb
 | ref _ hb=>cases hb
 | @fn f caps BX aw ao br=>
  intro v hv
  obtain⟨vs,rfl,U⟩:=(show ∃vs:List Value,v= .func (.func f) #[] vs.toArray∧af (e6 E) caps vs from hv)
  exact .fn (aw▸U.1) fun i b u hb hu=>by
   have aQ:i<caps.length:=by have:=(List.getElem?_eq_some_iff.1 hb).1;omega
   exact br i _ b (List.getElem?_eq_getElem aQ) hb (Ie (U.2 i _ u (List.getElem?_eq_getElem aQ) hu))
theorem alD {E E1:Env} (ae: ∀c,E.PF c→E.PA c) (hw:E1.w=E.w) (zk:E1.PA=E.PA) {a b:AV} (h:cL [] [] a b) {v:Value} (hv:V2 E a v):V2 E1 b v:=by
 have up: ∀{b:AV} {v:Value},aY E.w E.PA (fun _=>False) b v→bZ E1 b v:=fun h=>aY.v1 (E:=E1) (h.mono (fun _ _=>by rw[hw]) (fun _ h=>h.elim) (fun c hc=>by rw[zk];exact hc) (fun _ h=>h.elim))
 rcases h with⟨l,l',rfl,rfl,U⟩ | h
 ·obtain⟨vs,rfl,ao⟩:=hv
  refine⟨vs,rfl,U.1▸ao.1,fun i x u hx hu=> ?_⟩
  have aQ:i<l.length:=by have:=(List.getElem?_eq_some_iff.1 hx).1;have:=U.1;omega
  have aw:=List.getElem?_eq_getElem aQ
  exact up (X8 ae (U.2 i _ x aw hx) (ao.2 i _ u aw hu))
 ·by_cases hf: ∃l,a= .agg l
  ·obtain⟨l,rfl⟩:=hf
   cases h with
   | undef=>exact aY.undef v
  ·rw[p1 fun l e=>hf ⟨l,e⟩] at hv
   exact lg (up (X8 ae h hv))
def Env.one (E:Env) (bl g sz cp:Nat):Env:=
 {w:=E.w,PA:=E.PA,PF:=fun _=>False,m:=fun j=>if j=0 then some (some bl) else none,bf:=fun j=>if j=0 then g else 0
  sz:=fun j=>if j=0 then sz else 0,cp:=fun j=>if j=0 then cp else 0,mL:=fun _=>none}
theorem xM {E:Env} {bl g sz cp j c:Nat} (h:(E.one bl g sz cp).m j=some (some c)):j=0∧c=bl:=by
 have h:(if j=0 then some (some bl) else none)=some (some c):=h
 split at h
 ·rename_i e;cases h;exact⟨e,rfl⟩
 ·cases h
theorem ajF {E:Env} {H:List Blk} (av:SimH E H) {bl g cp:Nat} {ay:List AV} {cells:Array Value} {ty:TypeId} (hQ:bl<E.w.heap.size) (zk: ¬E.PA bl) (hw:E.w.heap[bl]?=some (.cells cells ty (0,0))) (b9:cells.size=cp*ay.length) (h1:1≤cp)
  (hk:ay.all xz=true) (ao: ∀(j:Nat) (a:AV),ay[j]?=some a→ ∃u,cells[j]?=some u∧bZ E a u):SimH (E.one bl g ay.length cp) [⟨g,ay.length,[ay]⟩] where
 heap:=fun b c hb=>by
  obtain⟨rfl,rfl⟩:=xM hb
  have eH: ∀{i:Nat} {row:List AV},([ay]:List (List AV))[i]?=some row→i=0∧row=ay:=fun{i row} h=>by
   cases i with
   | zero=>cases h;exact⟨rfl,rfl⟩
   | succ i=>cases h
  refine⟨⟨g,ay.length,[ay]⟩,cells,ty,rfl,rfl,hw,b9,h1,fun i row h=> ?_,fun i j row a h al=> ?_⟩
  ·rw[(eH h).2];rfl
  ·obtain⟨rfl,rfl⟩:=eH h
   obtain⟨u,hu,hv⟩:=ao j a al
   refine⟨u,by rw[Nat.zero_mul,Nat.zero_add];exact hu,?_⟩
   have J3:=ahE (List.all_eq_true.1 hk a (List.mem_of_getElem? al))
   have:=Pq J3.1 (EK J3.1 hv) (fun c hc=>hc) av.dA
   rw[J3.2] at this
   exact aY.v1 (E:=(E.one c g row.length cp).bL) this
 eV:=fun b blk hb=>by
  cases b with
  | zero=>cases hb;rfl
  | succ b=>cases hb
 ha:=fun b hb=>by
  have hb:(if b=0 then some (some bl) else none)=some none:=hb
  split at hb<;>cases hb
 fresh:=fun b hb=>by
  have hb:1≤b:=hb
  exact⟨if_neg (by omega),if_neg (by omega)⟩
 hC:=fun b bS c h1 h2=>by rw[(xM h1).1,(xM h2).1]
 jt:=fun t jG c h=>by cases h
 gB:=fun b t c _ h=>by cases h
 hF:=fun c hc ⟨b,hb⟩=>by rw[(xM hb).2] at hc;exact zk hc
 ii:=fun c _ ⟨t,a6⟩=>by cases a6
 dA:=fun c hc=>hc.elim
 ft:=fun c hc=>hc.elim
 dP:=av.dP
 fq:=fun c ⟨b,hb⟩=>by rw[(xM hb).2];exact hQ
 gr:=fun c ⟨t,a6⟩=>by cases a6
structure wo (E:Env) (bl k n:Nat) (b4:List AV) (t:AV) (v:Value) (E':Env):Prop where
 m:E'.m=E.m
 mL:E'.mL=E.mL
 bf:E'.bf=E.bf
 sz:E'.sz=E.sz
 cp:E'.cp=E.cp
 fG: ∀c,E.PA c→E'.PA c
 fz: ∀c,E.PF c→E'.PF c
 dA: ∀c,E'.PF c→E'.PA c
 ft: ∀c,E'.PF c→Plain E'.w c
 GS: ∀c,E'.PA c→E.PA c∨(E.w.heap.size≤c∧c<E'.w.heap.size)
 ajU: ∀c,E'.PF c→E.PF c∨E.w.heap.size≤c
 os:E'.w.os=E.w.os
 tape:E'.w.tape=E.w.tape
 output:E'.w.output=E.w.output
 size:E.w.heap.size≤E'.w.heap.size
 dF: ∀c,c<E.w.heap.size→c≠bl→E'.w.heap[c]?=E.w.heap[c]?
 new: ∃cells ty,E'.w.heap[bl]?=some (.cells cells ty (0,0))∧cells.size=k∧b4.length=n∧ ∀(j:Nat) (a:AV),b4[j]?=some a→ ∃u,cells[j]?=some u∧aY E'.w E'.PA E'.PF a u
 v3:V3 E' t v
theorem Nv {E1 E':Env} {H:List Blk} (hs:SimH E1 H) (hw:E'.w=E1.w) (hu: ∀c,E1.PF c∨E1.gq c→E'.PA c∧E'.PF c) {a b:AV} {u:Value} (h:iw H a b) (hv:V3 E1 a u):V3 E' b u:=by
 have dG: ∀{a b:AV} {u:Value},gk H a b→bZ E1 a u→bZ E' b u:=fun aG m_=>aY.v1 (E:=E') ((X9 hs aG m_).mono (fun _ _=>by rw[hw]) (fun _ _=>by rw[hw]) (fun c hc=>(hu c hc).1) (fun c hc=>(hu c hc).2))
 have et: ∀{a b:AV} {u:Value},wC H a b→V2 E1 a u→V2 E' b u:=by
  rintro a b u (⟨l,l',rfl,rfl,ae⟩ | h) hu
  ·obtain⟨hp,rfl,U⟩:=hu
   refine⟨hp,rfl,ae.1▸U.1,fun i x y hx bi=> ?_⟩
   have aQ:i<l.length:=by have:=(List.getElem?_eq_some_iff.1 hx).1;have:=ae.1;omega
   have aw:=List.getElem?_eq_getElem aQ
   exact dG (ae.2 i _ x aw hx) (U.2 i _ y aw bi)
  ·have:bZ E1 a u:=by cases h<;>exact hu
   exact lg (dG h this)
 rcases h with⟨l,l',rfl,rfl,ae⟩ | h
 ·obtain⟨hp,rfl,U⟩:=hv
  refine⟨hp,rfl,ae.1▸U.1,fun i x y hx bi=> ?_⟩
  have aQ:i<l.length:=by have:=(List.getElem?_eq_some_iff.1 hx).1;have:=ae.1;omega
  have aw:=List.getElem?_eq_getElem aQ
  exact et (ae.2 i _ x aw hx) (U.2 i _ y aw bi)
 ·have:V2 E1 a u:=by
   rcases h with⟨l,l',rfl,rfl,ae⟩ | h
   ·exact hv
   ·cases h<;>exact hv
  exact me (et h this)
theorem Qu {P:Program} {f:FuncId} {vs:List Value} {E:Env} {H:List Blk} {args eg ay b4:List AV} {p t:AV} {bl g cp:Nat} {cells:Array Value} {ty:TypeId} (av:SimH E H) (hQ:bl<E.w.heap.size) (zk: ¬E.PA bl)
  (hw:E.w.heap[bl]?=some (.cells cells ty (0,0))) (b9:cells.size=cp*ay.length) (h1:1≤cp) (hk:ay.all xz=true) (ao: ∀(j:Nat) (a:AV),ay[j]?=some a→ ∃u,cells[j]?=some u∧bZ E a u)
  (aG:af (V2 E) args vs) (ae: ∀v,V2 E p v→v= .pointer (some ⟨bl,0,none⟩)) (hs:af (wq p (.ptr 0 g 0 0)) args eg) (kz:b4.all jQ=true) (h:wv P f g eg ay b4 t):
  Calls P f vs.toArray E.w fun e w'=> ∃v E',e= .returned v∧E'.w=w'∧wo E bl (cp*ay.length) ay.length b4 t v E':=by
 have wT:af (V2 (E.one bl g ay.length cp)) eg vs:=⟨hs.1▸aG.1,fun i x u hx hu=>by
  have aQ:i<args.length:=by have:=(List.getElem?_eq_some_iff.1 hx).1;have:=hs.1;omega
  have aw:=List.getElem?_eq_getElem aQ
  rcases hs.2 i _ x aw hx with⟨aW,rfl⟩ | h
  ·have hv:=aG.2 i _ u aw hu
   rw[aW] at hv
   rw[ae u hv]
   exact .inr ⟨rfl,bl,rfl,by rw[Nat.zero_mul]⟩
  ·exact alD (E1:=E.one bl g ay.length cp) av.dA rfl rfl h (aG.2 i _ u aw hu)⟩
 refine(h.2 (E.one bl g ay.length cp) vs (fun _=>rfl) (ajF av hQ zk hw b9 h1 hk ao) wT).mono ?_
 rintro e w' ⟨r,v,e0,E1,rfl,⟨B,rfl,Kb⟩,rfl,ag,eP,hv,aS⟩
 have ax:E1.bf 0=g:=eP.eV 0 _ rfl
 obtain⟨hm,aB,hc⟩:=aS.le.m 0 (some bl) rfl ax
 have aB:E1.sz 0=ay.length:=aB
 have hc:E1.cp 0=cp:=hc
 obtain⟨blk,B0,ty2,q1,cH,q2,q3,q4,cs,cD⟩:=eP.heap 0 bl hm
 cases q1
 have zw: ∀c,E1.PF c∨(∃j,j≠0∧E1.m j=some (some c))→E.w.heap.size≤c∧c<E1.w.heap.size:=by
  rintro c (hc | ⟨j,al,FG⟩)
  ·exact⟨(aS.fz c hc).elim (fun h=>h.elim) id,eP.dP c (eP.dA c hc)⟩
  ·refine⟨(aS.rf c ⟨j,FG⟩).elim (fun⟨b,hb⟩=> ?_) id,eP.fq c ⟨j,FG⟩⟩
   rw[(xM hb).2] at FG
   exact absurd (eP.hC j 0 bl FG hm) al
 have nR: ∀c,c<E.w.heap.size→c≠bl→E1.w.heap[c]?=E.w.heap[c]?:=fun c hc bU=>aS.dF c hc (fun⟨b,hb⟩=>bU (xM hb).2) (fun⟨t,a6⟩=>by cases a6)
 have afv: ∀c,E1.PA c→E.PA c∨(E.w.heap.size≤c∧c<E1.w.heap.size):=fun c hc=>(aS.fG c hc).elim .inl fun h=> .inr ⟨h,eP.dP c hc⟩
 let E':Env:={E with w:=E1.w,PA:=fun c=>E.PA c∨E1.PA c∨(E1.PF c∨ ∃j,j≠0∧E1.m j=some (some c)),PF:=fun c=>E.PF c∨(E1.PF c∨ ∃j,j≠0∧E1.m j=some (some c))}
 let El:Env:={E1 with m:=fun j=>if j=0 then none else E1.m j,bf:=fun j=>if j=0 then g+1 else E1.bf j}
 have aV: ∀{j:Nat} {x:Option Nat},El.m j=some x→j≠0∧E1.m j=some x:=fun{j x} h=>by
  have h:(if j=0 then none else E1.m j)=some x:=h
  split at h
  ·cases h
  ·rename_i e;exact⟨e,h⟩
 have Cm: ∀{j:Nat},j≠0→El.bf j=E1.bf j:=fun{j} h=>if_neg h
 have hle:E1.gy El:=⟨fun _ h=>h,fun _ h=>h,fun _ _=>rfl,fun _ _=>rfl,fun b=>by
   by_cases e:b=0
   ·subst e;show E1.bf 0≤(if 0=0 then g+1 else E1.bf 0);rw[if_pos rfl,ax];omega
   ·rw[Cm e];exact Nat.le_refl _,fun b x hx sc=>by
   by_cases e:b=0
   ·subst e
    have sc:(if 0=0 then g+1 else E1.bf 0)=E1.bf 0:=sc
    rw[if_pos rfl,ax] at sc;omega
   ·exact⟨by show(if b=0 then none else E1.m b)=_;rw[if_neg e];exact hx,rfl,rfl⟩,fun _ _ h=>h⟩
 have q5: ∀{j:Nat} (x y:Blk),j≠0→(x::B)[j]?=(y::B)[j]?:=fun{j} x y al=>by
  cases j with
  | zero=>exact absurd rfl al
  | succ j=>rfl
 have afG:SimH El (⟨g+1,ay.length,[b4]⟩::B):=
  {heap:=fun b c hb=>by
    obtain⟨wW,hb⟩:=aV hb
    obtain⟨blk,y2,ty,dG,hH,et,eN,rA,akd,ake⟩:=eP.heap b c hb
    refine⟨blk,y2,ty,by rw[q5 _ ⟨g,ay.length,[b4]⟩ wW];exact dG,hH,et,eN,rA,akd,fun i j row a h1 h2=> ?_⟩
    obtain⟨u,hu,gP⟩:=ake i j row a h1 h2
    exact⟨u,hu,gP.le hle.bL⟩
   eV:=fun b blk hb=>by
    by_cases e:b=0
    ·subst e;cases hb;rfl
    ·rw[Cm e];rw[q5 _ ⟨g,ay.length,[b4]⟩ e] at hb;exact eP.eV b blk hb
   ha:=fun b hb=>by
    obtain⟨wW,hb⟩:=aV hb
    obtain⟨blk,dG,et⟩:=eP.ha b hb
    exact⟨blk,by rw[q5 _ ⟨g,ay.length,[b4]⟩ wW];exact dG,et⟩
   fresh:=fun b hb=>by
    have hb:B.length+1≤b:=hb
    have:=eP.fresh b hb
    exact⟨by show(if b=0 then none else E1.m b)=none;rw[if_neg (by omega)];exact this.1,by rw[Cm (by omega)];exact this.2⟩
   hC:=fun b bS c h1 h2=>eP.hC b bS c (aV h1).2 (aV h2).2
   jt:=eP.jt
   gB:=fun b t c h1 h2=>eP.gB b t c (aV h1).2 h2
   hF:=fun c hc ⟨b,hb⟩=>eP.hF c hc ⟨b,(aV hb).2⟩
   ii:=eP.ii
   dA:=eP.dA
   ft:=eP.ft
   dP:=eP.dP
   fq:=fun c ⟨b,hb⟩=>eP.fq c ⟨b,(aV hb).2⟩
   gr:=eP.gr}
 refine⟨v,E',rfl,rfl,rfl,rfl,rfl,rfl,rfl,fun c hc=> .inl hc,fun c hc=> .inl hc,fun c hc=>hc.elim (fun h=> .inl (av.dA c h)) (fun h=> .inr (.inr h)),fun c hc=>hc.elim (fun h=>(av.ft c h).same (nR c (av.dP c (av.dA c h)) (fun e=>by subst e;exact zk (av.dA _ h)))) (fun h=>h.elim (eP.ft c) fun⟨j,_,al⟩=>by obtain⟨_,ay,ty,_,_,q,_⟩:=eP.heap j c al;exact⟨ay,ty,q⟩),fun c hc=> ?_,fun c hc=>hc.elim .inl (fun h=> .inr (zw c h).1),
  aS.os,aS.tape,aS.output,aS.size,nR,⟨B0,ty2,q2,by rw[q3,aB,hc],?_,fun j a al=> ?_⟩,?_⟩
 ·rcases hc with h | h | h
  ·exact .inl h
  ·exact afv c h
  ·exact .inr (zw c h)
 ·have:=cs 0 b4 rfl
  rw[aB] at this;exact this
 ·obtain⟨u,hu,gP⟩:=cD 0 j b4 a rfl al
  refine⟨u,by rw[Nat.zero_mul,Nat.zero_add] at hu;exact hu,?_⟩
  have hb:=List.all_eq_true.1 kz a (List.mem_of_getElem? al)
  exact(EK hb gP).mono (fun _ _=>rfl) (fun _ _=>rfl) (fun c hc=> .inr (.inl hc)) (fun c hc=> .inr (.inl hc))
 ·refine Nv (E':=E') afG rfl (fun c hc=> ?_) Kb (hv.le hle)
  have:E1.PF c∨ ∃j,j≠0∧E1.m j=some (some c):=hc.elim .inl fun⟨j,al⟩=> .inr ⟨j,aV al⟩
  exact⟨.inr (.inr this),.inr this⟩
section
variable {E E':Env} {H:List Blk} {L:List (Nat×List AV)} {bl k n:Nat} {b4:List AV} {t:AV} {v:Value}
theorem wo.step (A:wo E bl k n b4 t v E') (av:SimH E H) (hQ:E.gq bl∨E.k1 bl):Step E E':=
 {le:=⟨A.fG,A.fz,fun c hc=>A.dF c (av.dP c hc) (fun e=>by subst e;exact hQ.elim (av.hF c hc) (av.ii c hc)),fun c hc=>A.dF c (av.dP c (av.dA c hc)) (fun e=>by subst e;exact hQ.elim (av.hF c (av.dA c hc)) (av.ii c (av.dA c hc))),
   fun b=>by rw[A.bf];exact Nat.le_refl _,fun b x hx _=>by rw[A.m,A.sz,A.cp];exact⟨hx,rfl,rfl⟩,fun t c h=>by rw[A.mL];exact h⟩
  os:=A.os,tape:=A.tape,output:=A.output,size:=A.size
  dF:=fun c hc h1 h2=>A.dF c hc (fun e=>by subst e;exact hQ.elim h1 h2)
  jq:=fun b c hb=> .inl (by rw[←A.m];exact hb)
  jX:=fun c ⟨t,a6⟩=> .inl ⟨t,by rw[←A.mL];exact a6⟩
  fG:=fun c hc=>(A.GS c hc).elim .inl fun h=> .inr h.1
  fz:=A.ajU}
theorem wo.simH (A:wo E bl k n b4 t v E') (av:SimH E H) (hQ:E.gq bl∨E.k1 bl) {H':List Blk} (hlen:H'.length=H.length) (ax: ∀(b:Nat) (x:Blk),H'[b]?=some x→ ∃y,H[b]?=some y∧x.bf=y.bf) (hs: ∀(b:Nat) (y:Blk),H[b]?=some y→ ∃x,H'[b]?=some x∧x.sz=y.sz)
  (hb: ∀b c,E.m b=some (some c)→(c≠bl∧H'[b]?=H[b]?)∨ ∃blk ay ty,H'[b]?=some blk∧E.sz b=blk.sz∧E'.w.heap[c]?=some (.cells ay ty (0,0))∧ay.size=E.cp b*E.sz b∧blk.rows.length≤E.cp b∧yL E' (E.sz b) blk.rows ay):SimH E' H':=by
 have aS:=A.step av hQ
 have rh: ∀c,E'.gq c→E.gq c:=fun c ⟨b,hb⟩=>⟨b,by rw[←A.m];exact hb⟩
 have Kz: ∀c,E'.k1 c→E.k1 c:=fun c ⟨b,hb⟩=>⟨b,by rw[←A.mL];exact hb⟩
 have kB:=av.fq
 have kC:=av.gr
 exact{
  heap:=fun b c h=>by
   rw[A.m] at h
   rw[A.sz,A.cp]
   rcases hb b c h with⟨bU,he⟩ | h
   ·obtain⟨blk,ay,ty,q1,cH,q2,q3,q4,cs,cD⟩:=av.heap b c h
    refine⟨blk,ay,ty,by rw[he];exact q1,cH,by rw[A.dF c (kB c ⟨b,h⟩) bU];exact q2,q3,q4,cs,fun i j row a h1 h2=> ?_⟩
    obtain⟨u,hu,gP⟩:=cD i j row a h1 h2
    exact⟨u,hu,gP.le aS.le.bL⟩
   ·exact h
  eV:=fun b blk h=>by
   rw[A.bf]
   obtain⟨y,h1,h2⟩:=ax b blk h
   rw[h2];exact av.eV b y h1
  ha:=fun b h=>by
   rw[A.m] at h
   obtain⟨y,h1,h2⟩:=av.ha b h
   obtain⟨x,au,a8⟩:=hs b y h1
   exact⟨x,au,by rw[A.sz,a8];exact h2⟩
  fresh:=fun b h=>by rw[A.m,A.bf];exact av.fresh b (by rw[←hlen];exact h)
  hC:=fun b bS c h1 h2=>by rw[A.m] at h1 h2;exact av.hC b bS c h1 h2
  jt:=fun t jG c h1 h2=>by rw[A.mL] at h1 h2;exact av.jt t jG c h1 h2
  gB:=fun b t c h1 h2=>by rw[A.m] at h1;rw[A.mL] at h2;exact av.gB b t c h1 h2
  hF:=fun c hc hi=>(A.GS c hc).elim (fun h=>av.hF c h (rh c hi)) (fun h=>absurd (kB c (rh c hi)) (by omega))
  ii:=fun c hc hi=>(A.GS c hc).elim (fun h=>av.ii c h (Kz c hi)) (fun h=>absurd (kC c (Kz c hi)) (by omega))
  dA:=A.dA
  ft:=A.ft
  dP:=fun c hc=>(A.GS c hc).elim (fun h=>Nat.lt_of_lt_of_le (av.dP c h) A.size) (fun h=>h.2)
  fq:=fun c hc=>Nat.lt_of_lt_of_le (kB c (rh c hc)) A.size
  gr:=fun c hc=>Nat.lt_of_lt_of_le (kC c (Kz c hc)) A.size}
theorem wo.row (A:wo E bl k n b4 t v E') (hk:b4.all jQ=true) {cells:Array Value} {ty:TypeId} (hw:E'.w.heap[bl]?=some (.cells cells ty (0,0))):b4.length=n∧cells.size=k∧ ∀(j:Nat) (a:AV),b4[j]?=some a→ ∃u,cells[j]?=some u∧bZ E'.bL a u:=by
 obtain⟨c2,ty2,q1,q2,q3,q4⟩:=A.new
 rw[hw] at q1
 cases q1
 refine⟨q3,q2,fun j a al=> ?_⟩
 obtain⟨u,hu,ao⟩:=q4 j a al
 exact⟨u,hu,aY.v1 (E:=E'.bL) ao⟩
end
theorem abO {P:Program} {f:FuncId} {vs:List Value} {E:Env} {H:List Blk} {L:List (Nat×List AV)} {args eg ay b4:List AV} {t:AV} {b g:Nat} (av:SimH E H) (bC:SimL E L) (hb:H[b]?=some ⟨g,ay.length,[ay]⟩) (hk:ay.all xz=true) (kz:b4.all jQ=true)
  (aG:af (V2 E) args vs) (hm:AV.ptr b g 0 0∈args) (hs:af (wq (.ptr b g 0 0) (.ptr 0 g 0 0)) args eg) (h:wv P f g eg ay b4 t):
  Calls P f vs.toArray E.w fun e w'=> ∃v E',e= .returned v∧E'.w=w'∧Step E E'∧SimH E' (H.set b ⟨g,ay.length,[b4]⟩)∧SimL E' L∧V3 E' t v∧E'.mL=E.mL:=by
 have ky:=av.eV b _ hb
 have k0: ∀v,V2 E (.ptr b g 0 0) v→ ∃bl,E.m b=some (some bl)∧v= .pointer (some ⟨bl,0,none⟩):=fun v hv=>by
  obtain⟨bl,hm,rfl⟩:=V3.GY (E:=E) (v:=v) (show V3 E (.ptr b g 0 0) v from hv) ky
  exact⟨bl,hm,by rw[Nat.zero_mul]⟩
 obtain⟨i,hi,he⟩:=List.mem_iff_getElem.1 hm
 have fC:i<vs.length:=aG.1▸hi
 have gp:=aG.2 i _ _ (List.getElem?_eq_getElem hi) (List.getElem?_eq_getElem fC)
 rw[he] at gp
 obtain⟨bl,kX,_⟩:=k0 _ gp
 obtain⟨blk,cells,ty,q1,cH,q2,q3,q4,cs⟩:=av.heap b bl kX
 rw[hb] at q1
 cases q1
 have cH:E.sz b=ay.length:=cH
 have hQ:bl<E.w.heap.size:=av.fq bl ⟨b,kX⟩
 refine(Qu (bl:=bl) (cp:=E.cp b) av hQ (fun h=>av.hF bl h ⟨b,kX⟩) q2 (by rw[q3,cH]) q4 hk (fun j a al=> ?_) aG (fun v hv=> ?_) hs kz h).mono ?_
 ·obtain⟨u,hu,gP⟩:=cs.2 0 j ay a rfl al
  exact⟨u,by rw[Nat.zero_mul,Nat.zero_add] at hu;exact hu,gP.up⟩
 ·obtain⟨abn,h1,rfl⟩:=k0 v hv
  rw[kX] at h1;cases h1;rfl
 rintro e w' ⟨v,E',rfl,rfl,A⟩
 have tz:E.gq bl∨E.k1 bl:= .inl ⟨b,kX⟩
 have aS:=A.step av tz
 refine⟨v,E',rfl,rfl,aS,A.simH av tz (by rw[List.length_set]) (fun j x hx=> ?_) (fun j y bi=> ?_) (fun j c al=> ?_),fun u c hu=> ?_,A.v3,A.mL⟩
 ·rw[List.getElem?_set] at hx
  split at hx
  ·rename_i e;subst e
   split at hx
   ·cases hx;exact⟨_,hb,rfl⟩
   ·cases hx
  ·exact⟨x,hx,rfl⟩
 ·rw[List.getElem?_set]
  split
  ·rename_i e;subst e
   rw[hb] at bi;cases bi
   rw[if_pos (List.getElem?_eq_some_iff.1 hb).1];exact⟨_,rfl,rfl⟩
  ·exact⟨y,bi,rfl⟩
 ·by_cases e:j=b
  ·subst e
   rw[kX] at al
   cases al
   obtain⟨c2,ty2,dG,et,eN,rA⟩:=A.new
   obtain⟨s1,s2,eQ⟩:=A.row kz dG
   refine .inr ⟨⟨g,ay.length,[b4]⟩,c2,ty2,by rw[List.getElem?_set,if_pos rfl,if_pos (List.getElem?_eq_some_iff.1 hb).1],cH,dG,by rw[et,cH],q4,fun i row ao=> ?_,fun i j row a ao al=> ?_⟩
   ·cases i with
    | zero=>cases ao;rw[cH];exact s1
    | succ i=>cases ao
   ·cases i with
    | zero=>
     cases ao
     obtain⟨u,hu,gP⟩:=eQ j a al
     exact⟨u,by rw[Nat.zero_mul,Nat.zero_add];exact hu,gP⟩
    | succ i=>cases ao
  ·refine .inl ⟨fun h=>e ?_,by rw[List.getElem?_set,if_neg (fun h=>e h.symm)]⟩
   subst h;exact av.hC j b c al kX
 ·rw[A.mL] at hu
  obtain⟨y2,c2,ty2,dG,et,eN⟩:=bC u c hu
  exact⟨y2,c2,ty2,dG,by rw[A.dF c (av.gr c ⟨u,hu⟩) (fun e=>by subst e;exact av.gB b u c kX hu)];exact et,eN.mono fun _ _ k=>k.le aS.le.bL⟩
theorem abP {P:Program} {f:FuncId} {vs:List Value} {E:Env} {H:List Blk} {L:List (Nat×List AV)} {args eg ay b4:List AV} {t:AV} {x:Nat} (av:SimH E H) (bC:SimL E L) (hx:eB L x=some ay) (hk:ay.all xz=true) (kz:b4.all jQ=true)
  (aG:af (V2 E) args vs) (hm:AV.fp x 0∈args) (hs:af (wq (.fp x 0) (.ptr 0 0 0 0)) args eg) (h:wv P f 0 eg ay b4 t):
  Calls P f vs.toArray E.w fun e w'=> ∃v E',e= .returned v∧E'.w=w'∧Step E E'∧SimH E' H∧SimL E' (lE L x b4)∧V3 E' t v∧E'.mL=E.mL:=by
 have k0: ∀v,V2 E (.fp x 0) v→ ∃bl,E.mL x=some bl∧v= .pointer (some ⟨bl,0,none⟩):=fun v hv=>hv
 obtain⟨i,hi,he⟩:=List.mem_iff_getElem.1 hm
 have fC:i<vs.length:=aG.1▸hi
 have gp:=aG.2 i _ _ (List.getElem?_eq_getElem hi) (List.getElem?_eq_getElem fC)
 rw[he] at gp
 obtain⟨bl,kX,_⟩:=k0 _ gp
 obtain⟨y2,cells,ty,q1,q2,q3⟩:=bC x bl kX
 rw[hx] at q1
 cases q1
 have hQ:bl<E.w.heap.size:=av.gr bl ⟨x,kX⟩
 have b9:cells.size=1*ay.length:=by rw[Nat.one_mul];exact q3.1.symm
 refine(Qu (bl:=bl) (cp:=1) av hQ (fun h=>av.ii bl h ⟨x,kX⟩) q2 b9 (Nat.le_refl _) hk (fun j a al=> ?_) aG (fun v hv=> ?_) hs kz h).mono ?_
 ·obtain⟨u,hu,gP⟩:=q3.get al
  exact⟨u,by rw[Array.getElem?_toList] at hu;exact hu,gP.up⟩
 ·obtain⟨abn,h1,rfl⟩:=k0 v hv
  rw[kX] at h1;cases h1;rfl
 rintro e w' ⟨v,E',rfl,rfl,A⟩
 have tz:E.gq bl∨E.k1 bl:= .inr ⟨x,kX⟩
 have aS:=A.step av tz
 refine⟨v,E',rfl,rfl,aS,A.simH av tz rfl (fun j y bi=>⟨y,bi,rfl⟩) (fun j y bi=>⟨y,bi,rfl⟩) (fun j c al=> .inl ⟨fun e=>by subst e;exact av.gB j x c al kX,rfl⟩),fun u c hu=> ?_,A.v3,A.mL⟩
 rw[A.mL] at hu
 rw[B_]
 by_cases e:u=x
 ·subst e
  rw[kX] at hu
  cases hu
  obtain⟨c2,ty2,dG,et,eN,rA⟩:=A.new
  obtain⟨s1,s2,eQ⟩:=A.row kz dG
  rw[if_pos rfl,hx]
  refine⟨b4,c2,ty2,rfl,dG,by show b4.length=c2.size;rw[s1,s2,Nat.one_mul],fun j a v al hv=> ?_⟩
  obtain⟨anq,m_,gP⟩:=eQ j a al
  rw[Array.getElem?_toList,m_] at hv
  cases hv;exact gP
 ·rw[if_neg e]
  obtain⟨c1,c2,ty2,dG,et,eN⟩:=bC u c hu
  exact⟨c1,c2,ty2,dG,by rw[A.dF c (av.gr c ⟨u,hu⟩) (fun h=>by subst h;exact e (av.jt u x c hu kX))];exact et,eN.mono fun _ _ k=>k.le aS.le.bL⟩
def Qt (P:Program) (f:FuncId) (args:List AV) (L:List (Nat×List AV)) (H:List Blk) (K:pU Prop):Prop:=
 ∃eg ay b4 t,ay.all xz=true∧b4.all jQ=true∧
  ((∃b g,H[b]?=some ⟨g,ay.length,[ay]⟩∧AV.ptr b g 0 0∈args∧af (wq (.ptr b g 0 0) (.ptr 0 g 0 0)) args eg∧wv P f g eg ay b4 t∧K t L (H.set b ⟨g,ay.length,[b4]⟩))∨
   ∃x,eB L x=some ay∧AV.fp x 0∈args∧af (wq (.fp x 0) (.ptr 0 0 0 0)) args eg∧wv P f 0 eg ay b4 t∧K t (lE L x b4) H)
theorem abN {P:Program} {f:FuncId} {args:List AV} {L:List (Nat×List AV)} {H:List Blk} {E:Env} {vs:List Value} {K:AV→List (Nat×List AV)→List Blk→Prop} (av:SimH E H) (bC:SimL E L) (aG:af (V2 E) args vs) (h:Qt P f args L H K):
  vA P f=true∧Calls P f vs.toArray E.w fun e w'=> ∃v u L' H' E',e= .returned u∧K v L' H'∧E'.w=w'∧Step E E'∧SimH E' H'∧SimL E' L'∧V3 E' v u∧E'.mL=E.mL:=by
 obtain⟨eg,ay,b4,t,hk,kz,⟨b,g,hb,hm,hs,hf,hK⟩ | ⟨x,hx,hm,hs,hf,hK⟩⟩:=h
 ·refine⟨hf.1,(abO av bC hb hk kz aG hm hs hf).mono ?_⟩
  rintro e w' ⟨v,E',rfl,rfl,h1,h2,au,a8,bQ⟩
  exact⟨t,v,L,_,E',rfl,hK,rfl,h1,h2,au,a8,bQ⟩
 ·refine⟨hf.1,(abP av bC hx hk kz aG hm hs hf).mono ?_⟩
  rintro e w' ⟨v,E',rfl,rfl,h1,h2,au,a8,bQ⟩
  exact⟨t,v,_,H,E',rfl,hK,rfl,h1,h2,au,a8,bQ⟩
def abK (P:Program) (f:FuncId) (args:List AV) (L:List (Nat×List AV)) (H:List Blk) (K:pU Prop):Prop:=
 args.all eL=true∧ ∃eg,af (cL L H) args eg∧c0 P f eg [] fun r e0=>An r=true∧vB e0=true∧K (nt H.length r) L (H++e0.map (lF H.length))
def abI (P:Program) (f:FuncId) (args:List AV) (L:List (Nat×List AV)) (H:List Blk) (K:pU Prop):Prop:=
 args.all eL=true∧args.all kG=true∧c0 P f args H fun r H'=>Ag r=true∧K r L H'
def lQ (P:Program) (f:FuncId) (args:List AV) (L:List (Nat×List AV)) (H:List Blk) (K:pU Prop):Prop:=
 p5 P f args L H (fun r=>K r L H)∨abK P f args L H K∨abI P f args L H K∨(args.all eL=true∧Qt P f args L H K)
def Q1 (P:Program) (c:Call) (bt:Operand→AV) (L:List (Nat×List AV)) (H:List Blk) (K:pU Prop):Prop:=match c.callee with
 | .builtin .len=>I8 P c bt L H fun r=>K r L H
 | .builtin .append=>(match c.args.toList,c.argTypes.toList with
  | [s,x],[t,t2]=>eL (bt s)=true∧eL (bt x)=true∧wF P t t2 (bt s) (bt x) L H K
  | _,_=>False)
 | .value f=>mh (bt f) fun g caps=>lQ P g (c.args.toList.map bt++caps) L H K
 | _=>False
def kt (P:Program) (esc:List Nat) (o:Oper) (bt:Operand→AV) (L:List (Nat×List AV)) (H:List Blk) (K:pU Prop):Prop:=match o.op with
 | .store t a v=>eM (eL (bt v)) (mM P t (bt a) (bt v) L H fun L' H'=>K (.tup []) L' H')
 | .alloc e=>cC (oo P e) fun z=>xK esc o.dst z L H K
 | .box e x=>eM (eL (bt x)) (xK esc o.dst (e7 (bt x)) L H K)
 | .makeSlice t l c=>Ac P t (bt l) (bt c) L H K
 | .buildSlice t n ps=>eM (ps.toList.all fun p=>eL (bt p.2)) (wK P (wR esc o.dst) (xY esc) t n (ps.toList.map fun p=>(p.1,bt p.2)) L H K)
 | .call c=>Q1 P c bt L H K
 | _=>uU P o bt L H fun r=>K r L H
theorem Et {E:Env} {a:AV} {v:Value} (h:eL a=true) (hv:V3 E a v):V2 E a v:=by
 rwa [p2 (Ah h)] at hv
theorem abL {P:Program} {f:FuncId} {args:List AV} {L:List (Nat×List AV)} {H:List Blk} {E:Env} {vs:List Value} {K:AV→List (Nat×List AV)→List Blk→Prop} (av:SimH E H) (bC:SimL E L)
  (aG:af (V2 E) args vs) (h:lQ P f args L H K):
  vA P f=true∧Calls P f vs.toArray E.w fun e w'=> ∃v u L' H' E',e= .returned u∧K v L' H'∧E'.w=w'∧Step E E'∧SimH E' H'∧SimL E' L'∧V3 E' v u∧E'.mL=E.mL:=by
 rcases h with⟨ag,eg,t,hs,py,hK⟩ | ⟨ag,eg,hs,py⟩ | ⟨ag,aw,py⟩ | ⟨ag,ae⟩
 ·refine⟨py.1,(Qv (Sub.refl L H) av bC aG hs py).mono ?_⟩
  rintro e w' ⟨v,E',rfl,rfl,U,hv⟩
  exact⟨t,v,L,H,E',rfl,hK,rfl,U.step,U.simH av,U.simL av bC,hv,U.mL⟩
 ·refine⟨py.1,(abM (Q:=fun r e0=>K (nt H.length r) L (H++e0.map (lF H.length))) av bC aG hs py).mono ?_⟩
  rintro e w' ⟨r,v,e0,E',rfl,hK,rfl,aS,h1,h2,hv,hml⟩
  exact⟨_,v,L,_,E',rfl,hK,rfl,aS,h1,h2,hv,hml⟩
 ·refine⟨py.1,(abJ (Q:=fun r H'=>K r L H') av bC aG aw py).mono ?_⟩
  rintro e w' ⟨r,v,H',E',rfl,hK,rfl,aS,h1,h2,hv,hml⟩
  exact⟨_,v,L,_,E',rfl,hK,rfl,aS,h1,h2,hv,hml⟩
 ·exact abN av bC aG ae
theorem abH {P:Program} {f:FuncId} {args:List AV} {L:List (Nat×List AV)} {H:List Blk} {K:AV→List (Nat×List AV)→List Blk→Prop} (h:lQ P f args L H K):args.all eL=true:=by
 rcases h with⟨ag,_⟩ | ⟨ag,_⟩ | ⟨ag,_⟩ | ⟨ag,_⟩<;>exact ag
set_option maxHeartbeats 1000000 in
theorem evOp_sound {P:Program} {esc:List Nat} {o:Oper} {a:Act} {T:List AV} {E:Env} {L:List (Nat×List AV)} {H:List Blk} {K:AV→List (Nat×List AV)→List Blk→Prop} {Q:Exit→Act→World→Prop}
  (b7: ∀t,V3 E (T.getD t .undef) (a.tmps.getD t undef)) (av:SimH E H) (bC:SimL E L) (h:kt P esc o (b6 T) L H K):o.wp P a E.w (H3 E o a K) Q:=by
 have fin: ∀{s:Sem Value},(execOp a.eval o=(do pure (Next.value (←s))))→(∃v L' H' E' u,K v L' H'∧s.run P E.w= .ok u E'.w∧Step E E'∧SimH E' H'∧SimL E' L'∧V3 E' v u∧ ∀t,o.dst≠some t→E'.mL t=E.mL t)→o.wp P a E.w (H3 E o a K) Q:=by
  rintro s hs ⟨v,L',H',E',u,hK,ao,h1,h2,au,a8,bQ⟩
  unfold Oper.wp
  rw[hs]
  exact Pt ao ⟨v,u,L',H',E',hK,rfl,h1,h2,au,a8,rfl,bQ⟩
 have Xc:uU P o (b6 T) L H (fun r=>K r L H)→o.wp P a E.w (H3 E o a K) Q:=fun h=>
  Oper.wp_mono (fun ib w' ⟨v,u,E',hK,hw,U,hv,aG⟩=>⟨v,u,L,H,E',hK,hw,U.step,U.simH av,U.simL av bC,hv,aG,fun t _=>by rw[U.mL]⟩) (Q9 b7 (Sub.refl L H) av bC h)
 obtain⟨dst,op,ty,pos,after,guard⟩:=o
 cases op with
 | store t x v=>
  obtain⟨ag,h⟩:=rn (show eM (eL (b6 T v)) (mM P t (b6 T x) (b6 T v) L H fun L' H'=>K (.tup []) L' H') from h)
  obtain⟨L',H',E',hK,ao,h1,h2,au,hml⟩:=am5 av bC (opv_rel b7 x) (Et ag (opv_rel b7 v)) h
  unfold Oper.wp
  have:(execOp a.eval ⟨dst,.store t x v,ty,pos,after,guard⟩).run P E.w= .ok .skip E'.w:=by
   simp only[execOp,Sem.run_bind,ao,Sem.run_pure,Result.andThen_ok]
  rw[this]
  exact⟨.tup [],_,L',H',E',hK,rfl,h1,h2,au,⟨[],rfl,af.nil⟩,rfl,fun t _=>by rw[hml]⟩
 | alloc e=>
  obtain⟨z,aB,h⟩:=fs (show cC (oo P e) fun z=>xK esc dst z L H K from h)
  obtain⟨i,v,q1,q2,q3,q4⟩:=yy (E:=E) aB
  obtain⟨r,L',H',E',hK,hw,h1,h2,au,a8,hml⟩:=Wa (ty:=e) av bC q4 h
  refine fin (s:=Instr.alloc e true (.tuple #[])) rfl ⟨r,L',H',E',_,hK,?_,h1,h2,au,a8,hml⟩
  rw[hw]
  simp[Instr.alloc,zeroValue,typeInfo,q1,q2,newVar,newRow]
 | box e x=>
  obtain⟨ag,h⟩:=rn (show eM (eL (b6 T x)) (xK esc dst (e7 (b6 T x)) L H K) from h)
  have hs:(e7 (b6 T x)).all jo=true:=by
   unfold xK at h;split at h
   ·rename_i q;exact q
   ·exact h.elim
  obtain⟨r,L',H',E',hK,hw,h1,h2,au,a8,hml⟩:=Wa (ty:=e) av bC (Ix (Et ag (opv_rel b7 x)) hs) h
  refine fin (s:=Instr.box e (a.eval x)) rfl ⟨r,L',H',E',_,hK,?_,h1,h2,au,a8,hml⟩
  rw[hw]
  simp[Instr.box,newVar,newRow]
 | makeSlice t l c=>
  obtain⟨v,L',H',E',u,hK,ao,h1,h2,au,a8,hml⟩:=ajv av bC (opv_rel b7 l) (opv_rel b7 c) (show Ac P t (b6 T l) (b6 T c) L H K from h)
  exact fin (s:=Instr.makeSlice t (a.eval l) (a.eval c)) rfl ⟨v,L',H',E',u,hK,ao,h1,h2,au,a8,fun t _=>by rw[hml]⟩
 | buildSlice t n ps=>
  obtain⟨ag,h⟩:=rn (show eM (ps.toList.all fun p=>eL (b6 T p.2)) (wK P (wR esc dst) (xY esc) t n (ps.toList.map fun p=>(p.1,b6 T p.2)) L H K) from h)
  obtain⟨v,u,L',H',E',hK,ao,h1,h2,au,a8,hml⟩:=abt av bC (Mt b7 ps.toList fun p ae=>Ah (List.all_eq_true.1 ag p ae)) h
  exact fin (s:=Instr.buildSlice t n (ps.toList.map fun p=>(p.1,a.eval p.2)).toArray) (by rw[parts_eq];rfl) ⟨v,L',H',E',u,hK,ao,h1,h2,au,a8,fun t _=>by rw[hml]⟩
 | call c=>
  have h:Q1 P c (b6 T) L H K:=h
  obtain⟨callee,args,argTypes⟩:=c
  cases callee with
  | builtin b=>
   cases b with
   | len=>exact Xc h
   | append=>
    have h:(match args.toList,argTypes.toList with
     | [s,x],[t,t2]=>eL (b6 T s)=true∧eL (b6 T x)=true∧wF P t t2 (b6 T s) (b6 T x) L H K
     | _,_=>False):=h
    split at h
    ·rename_i s x t t2 h1 h2
     obtain rfl:args= #[s,x]:=by rw[←Array.toArray_toList (xs:=args),h1]
     obtain rfl:argTypes= #[t,t2]:=by rw[←Array.toArray_toList (xs:=argTypes),h2]
     obtain⟨gf,n2,h⟩:=h
     obtain⟨r,u,H',E',hK,ao,q1,q2,q3,q4,hml⟩:=aa8 (ty:=ty) av bC (Et gf (opv_rel b7 s)) (Et n2 (opv_rel b7 x)) h
     unfold Oper.wp
     have:(execOp a.eval ⟨dst,.call ⟨.builtin .append,#[s,x],#[t,t2]⟩,ty,pos,after,guard⟩).run P E.w= .ok (.value u) E'.w:=by
      simp only[execOp,resolve,Sem.run_bind,Sem.run_pure,Result.andThen_ok,invoke,builtin]
      have e:Array.map a.eval #[s,x]= #[a.eval s,a.eval x]:=by simp
      rw[e,ao];rfl
     rw[this]
     exact⟨r,u,L,H',E',hK,rfl,q1,q2,q3,q4,rfl,fun t _=>by rw[hml]⟩
    ·exact h.elim
   | _=>exact h.elim
  | value f=>
   have h:mh (b6 T f) fun g caps=>lQ P g (args.toList.map (b6 T)++caps) L H K:=h
   cases hf:b6 T f with
   | fn g caps=>
    rw[hf] at h
    have h:lQ P g (args.toList.map (b6 T)++caps) L H K:=h
    have ag:=abH h
    obtain⟨vs,he,tu⟩:=Qw b7 hf
    have JL:af (V2 E) (args.toList.map (b6 T)++caps) (args.toList.map a.eval++vs):=
     af.append (P7 b7 args.toList fun x hx=>Ah (List.all_eq_true.1 ag _ (by simp;exact .inl ⟨x,by simpa using hx,rfl⟩))) tu
    obtain⟨fD,hc⟩:=abL av bC JL h
    unfold Oper.wp
    rw[show execOp a.eval ⟨dst,.call ⟨.value f,args,argTypes⟩,ty,pos,after,guard⟩=(do let d ←resolve a.eval ⟨.value f,args,argTypes⟩ ty;invoke d.target d.args) from rfl]
    rw[Xy (P:=P) (ty:=ty) (w:=E.w) (c:=⟨.value f,args,argTypes⟩) rfl he fD]
    refine hc.mono ?_
    rintro e w' ⟨v,u,L',H',E',rfl,hK,rfl,q1,q2,q3,q4,hml⟩
    exact⟨v,u,L',H',E',hK,rfl,q1,q2,q3,q4,rfl,fun t _=>by rw[hml]⟩
   | _=>rw[hf] at h;exact h.elim
  | _=>exact h.elim
 | _=>exact Xc h
def qO (lit:Bool) (b:Bool) (x y:Prop):Prop:=match lit with
 | true=>(match b with
  | true=>x
  | false=>y)
 | false=>BR b x y
theorem EJ {lit b:Bool} {x y:Prop} (h:qO lit b x y):(b=true→x)∧(b=false→y):=by
 cases lit with
 | false=>exact h
 | true=>cases b<;>exact⟨fun e=>by cases e<;>exact h,fun e=>by cases e<;>exact h⟩
def putA (T:List AV) (dst:Option Nat) (v:AV):List AV:=match dst with
 | some d=>T.set d v
 | none=>T
def pu (ops:Array Oper) (lit:Bool) (o:Oper) (T:List AV) (x y:List AV→Prop):Prop:=match o.guard with
 | none=>x T
 | some (j,dc)=>match(ops[j]?).bind (·.dst) with
  | none=>False
  | some t=>match T.getD t .undef with
   | .bool b=>qO lit b (if dc=true then x (T.set t (.bool true)) else y (T.set t (.bool true))) (if dc=true then y (T.set t (.bool false)) else x (T.set t (.bool false)))
   | .tup []=>y T
   | _=>False
def xR (lit:Bool) (o:Oper) (T:List AV) (K:AV→Prop) (E2:Prop):Prop:=match o.op with
 | .pick c x y=>p4 (b6 T c) fun z=>qO lit z (K (b6 T x)) (K (b6 T y))
 | _=>E2
def evOps (P:Program) (esc:List Nat) (ops:Array Oper):List (Oper×Bool)→List AV→List (Nat×List AV)→List Blk→(List AV→List (Nat×List AV)→List Blk→Prop)→Prop
 | [],T,L,H,K=>K T L H
 | (o,lit)::rest,T,L,H,K=>pu ops lit o T
   (fun T=>xR lit o T (fun v=>evOps P esc ops rest (putA T o.dst v) L H K) (kt P esc o (b6 T) L H fun v L' H'=>evOps P esc ops rest (putA T o.dst v) L' H' K))
   (fun T=>evOps P esc ops rest (putA T o.dst (.tup [])) L H K)
theorem tm {T:List AV} {d t:Nat} {v:AV}:(T.set d v).getD t .undef=if d=t∧d<T.length then v else T.getD t .undef:=by
 rw[List.getD_eq_getElem?_getD,List.getD_eq_getElem?_getD,List.getElem?_set]
 by_cases h:d=t
 ·subst h
  by_cases aw:d<T.length
  ·simp[aw]
  ·simp[aw]
 ·simp[h]
theorem X4 {E:Env} {T:List AV} {a:Act} (b7: ∀t,V3 E (T.getD t .undef) (a.tmps.getD t undef)) (hs:T.length=a.tmps.size) {dst:Option Nat} {v:AV} {u:Value} (hv:V3 E v u):
  (∀t,V3 E ((putA T dst v).getD t .undef) ((a.put dst u).tmps.getD t undef))∧(putA T dst v).length=(a.put dst u).tmps.size:=by
 cases dst with
 | none=>exact⟨b7,hs⟩
 | some d=>
  refine⟨fun t=> ?_,by simp[putA,Act.put,hs]⟩
  show V3 E ((T.set d v).getD t .undef) ((a.tmps.setIfInBounds d u).getD t undef)
  rw[tm,Array.getD_eq_getD_getElem?,Array.getElem?_setIfInBounds]
  by_cases h:d=t
  ·subst h
   by_cases aw:d<T.length
   ·have FJ:d<a.tmps.size:=hs▸aw
    simp[aw,FJ];exact hv
   ·have FJ: ¬d<a.tmps.size:=hs▸aw
    have:=b7 d
    rw[Array.getD_eq_getD_getElem?] at this
    simp[aw,FJ] at this ⊢
    exact this
  ·have:=b7 t
   rw[Array.getD_eq_getD_getElem?] at this
   simp[h];exact this
theorem alz {E:Env} {T:List AV} {a:Act} (b7: ∀t,V3 E (T.getD t .undef) (a.tmps.getD t undef)) {t:Nat} {b:Bool} (h:T.getD t .undef= .bool b):
  ∀s,V3 E ((T.set t (.bool b)).getD s .undef) (a.tmps.getD s undef):=fun s=>by
 rw[tm]
 by_cases hs:t=s∧t<T.length
 ·rw[if_pos hs,←h,hs.1];exact b7 s
 ·rw[if_neg hs];exact b7 s
theorem anN {ops:Array Oper} {a:Act} {T:List AV} {E:Env} (b7: ∀t,V3 E (T.getD t .undef) (a.tmps.getD t undef)) {j t:Nat} {b:Bool} (al:(ops[j]?).bind (·.dst)=some t) (h:T.getD t .undef= .bool b) (hs:T.length=a.tmps.size):
  yielded ops a.tmps j=some b:=by
 have hv:=b7 t
 rw[h] at hv
 have he:a.tmps.getD t undef= .bool b:=V3.pj hv
 unfold yielded
 rw[al]
 rw[Array.getD_eq_getD_getElem?] at he
 cases U:a.tmps[t]? with
 | none=>rw[U] at he;cases he
 | some x=>rw[U] at he;have:x= .bool b:=he;subst this;simp[U]
theorem anO {ops:Array Oper} {a:Act} {T:List AV} {E:Env} (b7: ∀t,V3 E (T.getD t .undef) (a.tmps.getD t undef)) {j t:Nat} (al:(ops[j]?).bind (·.dst)=some t) (h:T.getD t .undef= .tup []):
  yielded ops a.tmps j=none:=by
 have hv:=b7 t
 rw[h] at hv
 obtain⟨vs,he,ae⟩:=(show ∃vs:List Value,a.tmps.getD t undef= .tuple vs.toArray∧af (V2 E) [] vs from hv)
 obtain rfl:=ae.oQ
 unfold yielded
 rw[al]
 rw[Array.getD_eq_getD_getElem?] at he
 cases U:a.tmps[t]? with
 | none=>simp[U]
 | some x=>rw[U] at he;have:x= .tuple #[]:=he;subst this;simp[U]
theorem ad6 {P:Program} {ops:Array Oper} {lit:Bool} {o:Oper} {a:Act} {T:List AV} {E:Env} {w:World} {x y:List AV→Prop} {R:Prop}
  (b7: ∀t,V3 E (T.getD t .undef) (a.tmps.getD t undef)) (hs:T.length=a.tmps.size) (h:pu ops lit o T x y)
  (s3: ∀T',Region.wanted o (yielded ops a.tmps)=true→(∀t,V3 E (T'.getD t .undef) (a.tmps.getD t undef))→T'.length=a.tmps.size→x T'→R)
  (no: ∀T',Region.wanted o (yielded ops a.tmps)=false→(∀t,V3 E (T'.getD t .undef) (a.tmps.getD t undef))→T'.length=a.tmps.size→y T'→R):R:=by
 unfold pu at h
 cases ax:o.guard with
 | none=>rw[ax] at h;exact s3 T (by simp[Region.wanted,ax]) b7 hs h
 | some g=>
  obtain⟨j,dc⟩:=g
  rw[ax] at h
  simp only at h
  cases al:(ops[j]?).bind (·.dst) with
  | none=>rw[al] at h;exact h.elim
  | some t=>
   rw[al] at h
   simp only at h
   split at h
   ·rename_i b hb
    have bi:=anN (ops:=ops) b7 al hb hs
    have hk:=alz b7 hb
    obtain⟨h1,h2⟩:=EJ h
    cases b with
    | true=>
     have h:=h1 rfl
     cases dc with
     | true=>exact s3 _ (by simp[Region.wanted,ax,bi]) hk (by simpa using hs) h
     | false=>exact no _ (by simp[Region.wanted,ax,bi]) hk (by simpa using hs) h
    | false=>
     have h:=h2 rfl
     cases dc with
     | true=>exact no _ (by simp[Region.wanted,ax,bi]) hk (by simpa using hs) h
     | false=>exact s3 _ (by simp[Region.wanted,ax,bi]) hk (by simpa using hs) h
   ·rename_i hb
    have bi:=anO (ops:=ops) b7 al hb
    exact no T (by simp[Region.wanted,ax,bi]) b7 hs h
   ·exact h.elim
theorem E9 [cl] {P:Program} {esc:List Nat} {ops:Array Oper} {Q:Exit→St→Prop} {b_:Env}: ∀(l:List (Oper×Bool)) (T:List AV) (L:List (Nat×List AV)) (H:List Blk) (E:Env) (a:Act),
  Good b_ E→wB E ⟨T,L,H⟩ a.tmps→a.defers=[]→evOps P esc ops l T L H (fun T L H=>Q .normal ⟨T,L,H⟩)→wpList P ops (ow b_ Q) (l.map (·.1)) a E.w
 | [],T,L,H,E,a,ax,hs,aV,h=>⟨rfl,⟨T,L,H⟩,E,h,rfl,ax,hs,aV⟩
 | (o,lit)::rest,T,L,H,E,a,ax,hs,aV,h=>by
  have b7: ∀t,V3 E (T.getD t .undef) (a.tmps.getD t undef):=hs.iI
  show if Region.wanted o (yielded ops a.tmps) then o.wp P a E.w (wpList P ops (ow b_ Q) (rest.map (·.1))) (ow b_ Q)∨_ else wpList P ops (ow b_ Q) (rest.map (·.1)) (a.put o.dst undef) E.w
  refine ad6 (P:=P) (w:=E.w) b7 hs.size h (fun T' hw hT' mu h'=> ?_) (fun T' hw hT' mu h'=> ?_)
  ·rw[if_pos hw]
   refine .inl ?_
   have next: ∀(v:AV) (u:Value) (L':List (Nat×List AV)) (H':List Blk) (E':Env),Step E E'→SimH E' H'→SimL E' L'→V3 E' v u→evOps P esc ops rest (putA T' o.dst v) L' H' (fun T L H=>Q .normal ⟨T,L,H⟩)→
     wpList P ops (ow b_ Q) (rest.map (·.1)) (a.put o.dst u) E'.w:=fun v u L' H' E' q1 q2 q3 q4 hK=>by
    obtain⟨dG,et⟩:=X4 (fun t=>(hT' t).le q1.le) mu (dst:=o.dst) q4
    refine E9 rest _ _ _ E' (a.put o.dst u) (ax.step q1) ⟨q2,q3,dG,et⟩ ?_ hK
    cases o.dst<;>exact aV
   have bf:(kt P esc o (b6 T') L H fun v L' H'=>evOps P esc ops rest (putA T' o.dst v) L' H' (fun T L H=>Q .normal ⟨T,L,H⟩))→o.wp P a E.w (wpList P ops (ow b_ Q) (rest.map (·.1))) (ow b_ Q):=fun h'=>
    Oper.wp_mono (fun ib w' ⟨v,u,L',H',E',hK,eI,q1,q2,q3,q4,aG,_⟩=>by
     subst aG;subst eI
     exact next v u L' H' E' q1 q2 q3 q4 hK) (evOp_sound hT' hs.h hs.l h')
   unfold xR at h'
   split at h'
   ·rename_i c x y fL
    obtain⟨b,hb,bz⟩:=EA h'
    obtain⟨h1,h2⟩:=EJ bz
    have hv:=opv_rel hT' c
    rw[hb] at hv
    have he:a.eval c= .bool b:=V3.pj hv
    unfold Oper.wp
    have hx: ∀z,(z=if b=true then a.eval x else a.eval y)→(execOp a.eval o).run P E.w= .ok (.value z) E.w:=fun z aB=>by
     subst aB
     simp only[execOp,fL,he,asBool,Sem.run_bind,Sem.run_pure,Result.andThen_ok]
    cases b with
    | true=>rw[hx (a.eval x) rfl];exact next _ _ L H E (Step.refl E) hs.h hs.l (opv_rel hT' x) (h1 rfl)
    | false=>rw[hx (a.eval y) rfl];exact next _ _ L H E (Step.refl E) hs.h hs.l (opv_rel hT' y) (h2 rfl)
   ·exact bf h'
  ·rw[hw]
   show wpList P ops (ow b_ Q) (rest.map (·.1)) (a.put o.dst undef) E.w
   obtain⟨dG,et⟩:=X4 (a:=a) hT' mu (dst:=o.dst) (v:= .tup []) (u:=undef) ⟨[],rfl,af.nil⟩
   refine E9 rest (putA T' o.dst (.tup [])) L H E (a.put o.dst undef) ax ⟨hs.h,hs.l,dG,et⟩ ?_ h'
   cases o.dst<;>exact aV
def lits (ops:Array Oper) (t_:List Nat):List (Oper×Bool):=ops.toList.zipIdx.map fun p=>(p.1,t_.contains p.2)
theorem aja (ops:Array Oper) (t_:List Nat):(lits ops t_).map (·.1)=ops.toList:=by
 unfold lits
 rw[List.map_map]
 apply List.ext_getElem?
 intro i
 simp only[List.getElem?_map,List.getElem?_zipIdx]
 cases ops.toList[i]?<;>rfl
theorem WpS.region [cl] {P:Program} {esc:List Nat} {t_:List Nat} {id:Nat} {ops:Array Oper} {Q:Exit→St→Prop} {aj:St} (h:evOps P esc ops (lits ops t_) aj.T aj.L aj.H (fun T L H=>Q .normal ⟨T,L,H⟩)):WpS P (.region id ops false) Q aj:=fun b_ E a g s d=>by
 refine wp_region_list ?_
 have:=E9 (lits ops t_) aj.T aj.L aj.H E a g s d h
 rwa [aja] at this
def xJ (cI:List Nat):AV→Bool
 | .fp t _=> !cI.contains t
 | _=>true
def vr (cI:List Nat):AV→Bool
 | .fn _ caps=>caps.all (xJ cI)
 | a=>xJ cI a
def vt (cI:List Nat):AV→Bool
 | .agg l=>l.all (vr cI)
 | a=>vr cI a
def qi (cI:List Nat):AV→Bool
 | .tup l=>l.all (vt cI)
 | a=>vt cI a
def Env.drop (E:Env) (cI:List Nat):Env:={E with mL:=fun t=>if cI.contains t=true then none else E.mL t}
section
variable {E:Env} {cI:List Nat}
theorem e6.drop {a:AV} {v:Value} (h:xJ cI a=true) (hv:e6 E a v):e6 (E.drop cI) a v:=by
 cases a with
 | fp t c=>
  obtain⟨bl,hm,e⟩:=hv
  have:cI.contains t=false:=by simpa[xJ] using h
  exact⟨bl,by show(if cI.contains t=true then none else E.mL t)=_;rw[if_neg (by rw[this];simp)];exact hm,e⟩
 | _=>exact hv
theorem bZ.drop {a:AV} {v:Value} (h:vr cI a=true) (hv:bZ E a v):bZ (E.drop cI) a v:=by
 by_cases hf: ∃f caps,a= .fn f caps
 ·obtain⟨f,caps,rfl⟩:=hf
  obtain⟨vs,e,ae⟩:=hv
  exact⟨vs,e,ae.1,fun i x y hx bi=>(ae.2 i x y hx bi).drop (List.all_eq_true.1 (show caps.all (xJ cI)=true from h) x (List.mem_of_getElem? hx))⟩
 ·have az:vr cI a=xJ cI a:=by cases a<;>first | rfl | exact absurd ⟨_,_,rfl⟩ hf
  rw[rQ fun f c e=>hf ⟨f,c,e⟩] at hv ⊢
  exact hv.drop (az▸h)
theorem V2.drop {a:AV} {v:Value} (h:vt cI a=true) (hv:V2 E a v):V2 (E.drop cI) a v:=by
 by_cases hf: ∃l,a= .agg l
 ·obtain⟨l,rfl⟩:=hf
  obtain⟨vs,e,ae⟩:=hv
  exact⟨vs,e,ae.1,fun i x y hx bi=>(ae.2 i x y hx bi).drop (List.all_eq_true.1 (show l.all (vr cI)=true from h) x (List.mem_of_getElem? hx))⟩
 ·have az:vt cI a=vr cI a:=by cases a<;>first | rfl | exact absurd ⟨_,rfl⟩ hf
  rw[p1 fun l e=>hf ⟨l,e⟩] at hv ⊢
  exact hv.drop (az▸h)
theorem V3.drop {a:AV} {v:Value} (h:qi cI a=true) (hv:V3 E a v):V3 (E.drop cI) a v:=by
 by_cases hf: ∃l,a= .tup l
 ·obtain⟨l,rfl⟩:=hf
  obtain⟨vs,e,ae⟩:=hv
  exact⟨vs,e,ae.1,fun i x y hx bi=>(ae.2 i x y hx bi).drop (List.all_eq_true.1 (show l.all (vt cI)=true from h) x (List.mem_of_getElem? hx))⟩
 ·have az:qi cI a=vt cI a:=by cases a<;>first | rfl | exact absurd ⟨_,rfl⟩ hf
  rw[p2 fun l e=>hf ⟨l,e⟩] at hv ⊢
  exact hv.drop (az▸h)
end
def pq (cI:List Nat) (L:List (Nat×List AV)):List (Nat×List AV):=match L with
 | []=>[]
 | (k,c)::L=>match cI.contains k with
  | true=>pq cI L
  | false=>(k,c)::pq cI L
theorem EU {cI:List Nat}: ∀(L:List (Nat×List AV)) (t:Nat),cI.contains t=false→eB (pq cI L) t=eB L t
 | [],t,h=>rfl
 | (k,c)::L,t,h=>by
  unfold pq
  split
  ·rename_i hk
   have:t≠k:=fun e=>by subst e;rw[h] at hk;cases hk
   rw[EU L t h];simp[eB,this]
  ·simp only[eB];rw[EU L t h]
theorem Weak.pq [cl] (cI:List Nat) {T:List AV} {L:List (Nat×List AV)} {H:List Blk} (h:T.all (qi cI)=true):Weak ⟨T,L,H⟩ ⟨T,pq cI L,H⟩:=fun b_ E tmps g s=>by
 have hm: ∀t c,(E.drop cI).mL t=some c→cI.contains t=false∧E.mL t=some c:=by
  intro t c hc
  have hc:(if cI.contains t=true then none else E.mL t)=some c:=hc
  split at hc
  ·cases hc
  ·rename_i q;exact⟨by simpa using q,hc⟩
 have hi: ∀c,(E.drop cI).k1 c→E.k1 c:=fun c ⟨t,a6⟩=>⟨t,(hm t c a6).2⟩
 have e5:SimH E H:=s.h
 refine⟨E.drop cI,rfl,?_,?_,?_,fun t=> ?_,s.size⟩
 ·exact{g with
   le:={g.le with mL:=fun t c hc=>by rw[g.bL t] at hc;cases hc}
   jX:=fun c hc=>g.jX c (hi c hc)}
 ·exact{e5 with
   heap:=e5.heap
   jt:=fun t jG c h1 h2=>e5.jt t jG c (hm t c h1).2 (hm jG c h2).2
   gB:=fun b t c h1 h2=>e5.gB b t c h1 (hm t c h2).2
   ii:=fun c hc hx=>e5.ii c hc (hi c hx)
   gr:=fun c hx=>e5.gr c (hi c hx)}
 ·intro t c hc
  obtain⟨h1,h2⟩:=hm t c hc
  obtain⟨cells,ay,ty,q1,q2,q3⟩:=s.l t c h2
  exact⟨cells,ay,ty,by show eB (Fw.pq cI L) t=_;rw[EU L t h1];exact q1,q2,q3⟩
 ·show V3 (E.drop cI) (T.getD t .undef) _
  refine(s.iI t).drop ?_
  show qi cI (T.getD t .undef)=true
  rw[List.getD_eq_getElem?_getD]
  cases U:T[t]? with
  | none=>rfl
  | some a=>exact List.all_eq_true.1 h a (List.mem_of_getElem? U)
def tW:AV→Bool
 | .aX [] true _=>true
 | _=>false
theorem acO {E:Env} {a:AV} {v:Value} (h:tW a=true) (hv:e6 E a v): ∃A,v= .slice A 0 0:=by
 have key: ∀rows full fr,a= .aX rows full fr→rows=[]→full=true→ ∃A,v= .slice A 0 0:=by
  intro rows full fr e ao hf
  subst e
  have hv:aY E.w E.PA E.PF (.aX rows full fr) v:=hv
  cases hv with
  | @aX _ _ PB _ _ _ A cap sz vs eW fl fK b9 dt hrel=>
   refine⟨A,?_⟩
   rw[fK hf,ao];rfl
 unfold tW at h
 split at h
 ·exact key _ _ _ rfl rfl rfl
 ·cases h
theorem I1 {E E':Env} {a:AV} {v:Value} {b:Nat} (h:tW a=true) (hv:bZ E a v) (ax:E'.bf b=0) (hm:E'.m b=some none):bZ E' (.ref b 0 0 0 false) v:=by
 have gp:e6 E a v:=by
  rwa [rQ] at hv
  rintro f c rfl;cases h
 obtain⟨A,rfl⟩:=acO h gp
 exact .inr ⟨ax.symm,.inl ⟨hm,rfl,rfl,A,rfl⟩⟩
theorem Weak.aaZ [cl] (i sz:Nat) {T:List AV} {L:List (Nat×List AV)} {H:List Blk} (h:tW (T.getD i .undef)=true):Weak ⟨T,L,H⟩ ⟨T.set i (.ref H.length 0 0 0 false),L,H++[⟨0,sz,[]⟩]⟩:=fun b_ E tmps g s=>by
 obtain⟨E',hw,aS,h1,h2,au,a8,_⟩:=GC (blk:=⟨0,sz,[]⟩) s.h s.l rfl rfl
 refine⟨E',hw,g.step aS,h1,h2,fun t=> ?_,by simpa using s.size⟩
 show V3 E' ((T.set i _).getD t .undef) _
 rw[tm]
 split
 ·rename_i U
  obtain⟨rfl,_⟩:=U
  have hv:=s.iI i
  have kb:bZ E (T.getD i .undef) (tmps.getD i undef):=by
   have hv:V3 E (T.getD i .undef) (tmps.getD i undef):=hv
   rw[p2,p1] at hv
   ·exact hv
   ·intro l e;rw[e] at h;cases h
   ·intro l e;rw[e] at h;cases h
  exact me (lg (I1 h kb au a8))
 ·exact(s.iI t).le aS.le
theorem Weak.wD [cl] (t i sz:Nat) {T:List AV} {L:List (Nat×List AV)} {H:List Blk} {cells:List AV} (hc:eB L t=some cells) (h:tW (cells.getD i .undef)=true):
  Weak ⟨T,L,H⟩ ⟨T,lE L t (cells.set i (.ref H.length 0 0 0 false)),H++[⟨0,sz,[]⟩]⟩:=fun b_ E tmps g s=>by
 obtain⟨E',hw,aS,h1,h2,au,a8,bQ,cv⟩:=GC (blk:=⟨0,sz,[]⟩) s.h s.l rfl rfl
 refine⟨E',hw,g.step aS,h1,?_,fun t=>(s.iI t).le aS.le,s.size⟩
 intro u c hm
 obtain⟨gL,ay,ty,q1,q2,q3⟩:=h2 u c hm
 show ∃Iv ay ty,eB (lE L t _) u=some Iv∧_
 rw[B_]
 by_cases hu:u=t
 ·subst hu
  rw[if_pos rfl]
  have Dp:eB L u=some gL:=q1
  rw[hc] at Dp
  cases Dp
  refine⟨_,ay,ty,by rw[hc];rfl,q2,by simpa using q3.1,fun j x v hx hv=> ?_⟩
  rw[List.getElem?_set] at hx
  split at hx
  ·rename_i mX
   subst mX
   split at hx
   ·rename_i aQ
    cases hx
    have ax:=List.getElem?_eq_getElem aQ
    have:cells.getD i .undef=cells[i]:=by rw[List.getD_eq_getElem?_getD,ax];rfl
    have kb:=q3.2 i _ v ax hv
    rw[this] at h
    exact I1 (E:=E'.bL) h kb au a8
   ·cases hx
  ·exact q3.2 j x v hx hv
 ·rw[if_neg hu]
  exact⟨gL,ay,ty,q1,q2,q3⟩
structure cU where
 be:Int
 bj:Int
 deriving Inhabited,DecidableEq
structure Way where
 ak:List Int
 bm:List cU
 cB:List cU
 over:List Int
 ei:List Int
 deriving Inhabited,DecidableEq
structure aC where
 ak:Int
 bb:List Int
 O:List Way
 bF:List (List Bool)
 ct:Int
 deriving Inhabited,DecidableEq
structure Event where
 op:Int
 aA:Int
 bj:Int
 deriving Inhabited,DecidableEq
structure bx where
 dc:Int
 bm:Int
 deriving Inhabited,DecidableEq
structure aq where
 ar:Int
 a7:Int
 ah:List Bool
 bI:Bool
 bG:Int
 deriving Inhabited,DecidableEq
structure Frame where
 ok:Bool
 aN:List Bool
 aH:List bx
 O:List aq
 deriving Inhabited,DecidableEq
structure fv where
 code:Int
 frame:Frame
 deriving Inhabited,DecidableEq
structure qJ where
 code:Int
 pos:Int
 deriving Inhabited,DecidableEq
structure rP where
 O:List Int
 ak:List Int
 aH:List Int
 deriving Inhabited,DecidableEq
structure Ej where
 code:List UInt8
 pos:Int
 XL:Int
 deriving Inhabited
def cd (n:Int):List AV:=[.int .i64 n]
def EY (n:UInt8):List AV:=[.int .u8 n.toNat]
def aP (b:Bool):List AV:=[.bool b]
def IZ (s:ByteArray):List AV:=[.str s]
def gW {α:Type} (e:α→List AV) (fr:Bool) (xs:List α):List AV:=[.aX (xs.map e) false fr]
def cQ (x:cU):List AV:=[.int .i64 x.be,.int .i64 x.bj]
def da (fr:Bool) (x:Way):List AV:=[.aX (x.ak.map cd) false fr,.aX (x.bm.map cQ) false fr,.aX (x.cB.map cQ) false fr,.aX (x.over.map cd) false fr,.aX (x.ei.map cd) false fr]
def bA (fr:Bool) (x:aC):List AV:=[.int .i64 x.ak,.aX (x.bb.map cd) false fr,.aX (x.O.map (da false)) false fr,.aX (x.bF.map (gW aP false)) false fr,.int .i64 x.ct]
def fJ (x:Event):List AV:=[.int .i64 x.op,.int .i64 x.aA,.int .i64 x.bj]
def a1 (x:bx):List AV:=[.int .i64 x.dc,.int .i64 x.bm]
def fR (fr:Bool) (x:aq):List AV:=[.int .i64 x.ar,.int .i64 x.a7,.aX (x.ah.map aP) false fr,.bool x.bI,.int .i64 x.bG]
def cG (fr:Bool) (x:Frame):List AV:=[.bool x.ok,.aX (x.aN.map aP) false fr,.aX (x.aH.map a1) false fr,.aX (x.O.map (fR false)) false fr]
def nJ (fr:Bool) (x:fv):List AV:=[.int .i64 x.code,.bool x.frame.ok,.aX (x.frame.aN.map aP) false fr,.aX (x.frame.aH.map a1) false fr,.aX (x.frame.O.map (fR false)) false fr]
def IX (x:qJ):List AV:=[.int .i64 x.code,.int .i64 x.pos]
def acK (fr:Bool) (x:Ej):List AV:=[.aX (x.code.map EY) false fr,.int .i64 x.pos,.int .u64 x.XL]
def EX (fr:Bool) (x:rP):List AV:=[.aX (x.O.map cd) false fr,.aX (x.ak.map cd) false fr,.aX (x.aH.map cd) false fr]
def nth {α:Type} [Inhabited α] (xs:List α) (i:Int):α:=xs.getD i.toNat default
theorem fM {α:Type} [Inhabited α] {xs:List α} {i:Int} (h:i.toNat<xs.length):xs[i.toNat]?=some (nth xs i):=by
 unfold nth
 rw[List.getD_eq_getElem?_getD,List.getElem?_eq_getElem h];rfl
def vv:Code→List Nat→Code
 | c,[]=>c
 | .seq x y,n::p=>match n with
  | 0=>vv x p
  | _=>vv y p
 | .cond _ x y,n::p=>match n with
  | 0=>vv x p
  | _=>vv y p
 | .block _ x,_::p=>vv x p
 | .loop x,_::p=>vv x p
 | .scope x,_::p=>vv x p
 | c,_=>c
def iP (f:Func):Code:=f.body.getD .skip
theorem WpS.seq' [cl] {P:Program} {c x y:Code} {Q:Exit→St→Prop} {aj:St} (e:c= .seq x y) (h:WpS P x (dR P y Q) aj):WpS P c Q aj:=e▸WpS.seq h
theorem WpS.ab3 [cl] {P:Program} {c x y:Code} {o:Operand} {Q:Exit→St→Prop} {aj:St} {b:Bool} (e:c= .cond o x y) (hb:b6 aj.T o= .bool b) (h1:b=true→WpS P x Q aj) (h2:b=false→WpS P y Q aj):WpS P c Q aj:=
 e▸WpS.cond (by rw[hb];exact⟨h1,h2⟩)
theorem WpS.Qo [cl] {P:Program} {c x:Code} {id:Nat} {Q:Exit→St→Prop} {aj:St} (e:c= .block id x) (h:WpS P x (bT id Q) aj):WpS P c Q aj:=e▸WpS.block h
theorem WpS.ak8 [cl] {P:Program} {c:Code} {Q:Exit→St→Prop} {aj:St} (e:c= .skip) (h:Q .normal aj):WpS P c Q aj:=e▸WpS.skip h
theorem WpS.aku [cl] {P:Program} {c:Code} {Q:Exit→St→Prop} {aj:St} (e:c= .ret) (h:Q .ret aj):WpS P c Q aj:=e▸WpS.ret h
theorem WpS.ac0 [cl] {P:Program} {c:Code} {id:Nat} {Q:Exit→St→Prop} {aj:St} (e:c= .exit id) (h:Q (.exit id) aj):WpS P c Q aj:=e▸WpS.exit h
theorem WpS.aji [cl] {P:Program} {c x:Code} {Q:Exit→St→Prop} {aj:St} {V:Type} (S:V→St) (I:V→Prop) (m:V→Nat) (e:c= .loop x) (v0:V) (hs:Weak aj (S v0)) (az:I v0)
  (round: ∀v,I v→WpS P x (fun ex s=>match ex with
   | .normal=> ∃eu,I eu∧m eu<m v∧Weak s (S eu)
   | ex=>Q ex s) (S v)):WpS P c Q aj:=by
 subst e
 refine WpS.mP (WpS.loop (fun n s=> ∃v,I v∧s=S v∧n=m v) (m v0) ⟨v0,az,rfl,rfl⟩ ?_) hs
 rintro n s ⟨v,hv,rfl,rfl⟩
 refine WpS.mono (round v hv) fun ex s U=> ?_
 cases ex with
 | normal=>
  obtain⟨eu,h1,h2,au⟩:=U
  exact⟨m eu,S eu,h2,au,eu,h1,rfl,rfl⟩
 | _=>exact U
theorem dR.normal [cl] {P:Program} {y:Code} {Q:Exit→St→Prop} {s:St} (h:WpS P y Q s):dR P y Q .normal s:=h
theorem dR.ret [cl] {P:Program} {y:Code} {Q:Exit→St→Prop} {s:St} (h:Q .ret s):dR P y Q .ret s:=h
theorem dR.exit [cl] {P:Program} {y:Code} {Q:Exit→St→Prop} {s:St} {id:Nat} (h:Q (.exit id) s):dR P y Q (.exit id) s:=h
theorem bT.normal {id:Nat} {Q:Exit→St→Prop} {s:St} (h:Q .normal s):bT id Q .normal s:=h
theorem bT.ret {id:Nat} {Q:Exit→St→Prop} {s:St} (h:Q .ret s):bT id Q .ret s:=h
theorem bT.here {id:Nat} {Q:Exit→St→Prop} {s:St} (h:Q .normal s):bT id Q (.exit id) s:=by
 show(if id=id then _ else _);rw[if_pos rfl];exact h
theorem bT.there {id fE:Nat} {Q:Exit→St→Prop} {s:St} (bU:fE≠id) (h:Q (.exit fE) s):bT id Q (.exit fE) s:=by
 show(if fE=id then _ else _);rw[if_neg bU];exact h
theorem cL.hW {L:List (Nat×List AV)} {H:List Blk} {a b:AV} (h:fQ L H a b):cL L H a b:= .inr h
theorem cL.agg {L:List (Nat×List AV)} {H:List Blk} {l l':List AV} (h:af (fQ L H) l l'):cL L H (.agg l) (.agg l'):= .inl ⟨l,l',rfl,rfl,h⟩
theorem iw.hW {H:List Blk} {a b:AV} (h:gk H a b):iw H a b:= .inr (.inr h)
theorem iw.agg {H:List Blk} {l l':List AV} (h:af (gk H) l l'):iw H (.agg l) (.agg l'):= .inr (.inl ⟨l,l',rfl,rfl,h⟩)
theorem WpS.start [cl] {P:Program} {c:Code} {Q:Exit→St→Prop} {aj lJ:St} (e:aj=lJ) (h:WpS P c Q lJ):WpS P c Q aj:=e▸h
def bP [cl] (S:St) (ψ:Prop) (Q:Exit→St→Prop) (ex:Exit) (s:St):Prop:=match ex with
 | .normal=>ψ∧Weak s S
 | ex=>Q ex s
theorem WpS.AI [cl] {P:Program} {c x y:Code} {Q:Exit→St→Prop} {aj:St} (S:St) {ψ:Prop} (e:c= .seq x y) (h:WpS P x (bP S ψ Q) aj) (U:ψ→WpS P y Q S):WpS P c Q aj:=by
 subst e
 refine WpS.seq (WpS.mono h fun ex s hs=> ?_)
 cases ex with
 | normal=>exact WpS.mP (U hs.1) hs.2
 | _=>exact hs
theorem bP.normal [cl] {S s:St} {ψ:Prop} {Q:Exit→St→Prop} (ae:ψ) (h:Weak s S):bP S ψ Q .normal s:=⟨ae,h⟩
theorem bP.ret [cl] {S s:St} {ψ:Prop} {Q:Exit→St→Prop} (h:Q .ret s):bP S ψ Q .ret s:=h
theorem bP.exit [cl] {S s:St} {ψ:Prop} {Q:Exit→St→Prop} {id:Nat} (h:Q (.exit id) s):bP S ψ Q (.exit id) s:=h
def dO [cl] {V:Type} (S:V→St) (I:V→Prop) (m:V→Nat) (v:V) (Q:Exit→St→Prop) (ex:Exit) (s:St):Prop:=match ex with
 | .normal=> ∃eu,I eu∧m eu<m v∧Weak s (S eu)
 | ex=>Q ex s
theorem WpS.VT [cl] {P:Program} {c x:Code} {Q:Exit→St→Prop} {aj:St} {V:Type} (S:V→St) (I:V→Prop) (m:V→Nat) (e:c= .loop x) (v0:V) (hs:Weak aj (S v0)) (az:I v0)
  (round: ∀v,I v→WpS P x (dO S I m v Q) (S v)):WpS P c Q aj:=
 WpS.aji S I m e v0 hs az fun v hv=>WpS.mono (round v hv) fun ex s h=>by
  cases ex<;>exact h
theorem dO.again [cl] {V:Type} {S:V→St} {I:V→Prop} {m:V→Nat} {v:V} {Q:Exit→St→Prop} {s:St} (eu:V) (h:I eu∧m eu<m v) (hw:Weak s (S eu)):dO S I m v Q .normal s:=⟨eu,h.1,h.2,hw⟩
theorem dO.ret [cl] {V:Type} {S:V→St} {I:V→Prop} {m:V→Nat} {v:V} {Q:Exit→St→Prop} {s:St} (h:Q .ret s):dO S I m v Q .ret s:=h
theorem dO.exit [cl] {V:Type} {S:V→St} {I:V→Prop} {m:V→Nat} {v:V} {Q:Exit→St→Prop} {s:St} {id:Nat} (h:Q (.exit id) s):dO S I m v Q (.exit id) s:=h
@[irreducible] def bB (c:Code) (n:Nat):Code:=vv c ((List.range (Nat.log2 n)).map fun i=>(n>>>i)%2).reverse
def jm (c:Code) (n:Nat):Array Oper:=match bB c n with
 | .region _ ops _=>ops
 | _=> #[]
theorem hg [cl] {s s' s'':St} (h:Weak s s') (e:s'=s''):Weak s s'':=e▸h
def ld (H:List Blk) (c d:List AV):Prop:=c.length=d.length∧ ∀(j:Nat) (a b:AV),c[j]?=some a→d[j]?=some b→gk H a a∧b=jL a
theorem alB {H:List Blk} {α:Type} {eT eF:α→List AV} {b:Nat} {g sz:Nat} {full:Bool} {xs:List α} (hb:H[b]?=some ⟨g,sz,List.map eT xs⟩) (ag:xs.length≤4611686018427387904) (hc: ∀x,ld H (eT x) (eF x)):
  gk H (.ref b g 0 xs.length full) (.aX (List.map eF xs) false true):=by
 refine gk.ref (fun h=>by cases h) (fun i j=>((xs[i]?).bind fun x=>(eT x)[j]?).getD .undef) hb rfl (by rw[List.length_map]) ag (by simp) (fun i row row' h1 h2=> ?_) (fun i j row a hi h1 h2=> ?_) (fun i j row' c h1 h2=> ?_)
 ·have h1:(List.map eT xs)[0+i]?=some row:=h1
  rw[Nat.zero_add,List.getElem?_map] at h1
  rw[List.getElem?_map] at h2
  cases hx:xs[i]? with
  | none=>rw[hx] at h1;cases h1
  | some x=>rw[hx] at h1 h2;cases h1;cases h2;exact(hc x).1
 ·have h1:(List.map eT xs)[0+i]?=some row:=h1
  rw[Nat.zero_add,List.getElem?_map] at h1
  cases hx:xs[i]? with
  | none=>rw[hx] at h1;cases h1
  | some x=>
   rw[hx] at h1;cases h1
   show gk H a (((some x).bind fun x=>(eT x)[j]?).getD .undef)
   have al:(eT x)[j]?=some a:=h2
   have he:((some x).bind fun x=>(eT x)[j]?).getD .undef=a:=by
    show((eT x)[j]?).getD .undef=a
    rw[al];rfl
   rw[he]
   have aQ:j<(eF x).length:=by rw[←(hc x).1];exact(List.getElem?_eq_some_iff.1 al).1
   exact((hc x).2 j a _ al (List.getElem?_eq_getElem aQ)).1
 ·rw[List.getElem?_map] at h1
  cases hx:xs[i]? with
  | none=>rw[hx] at h1;cases h1
  | some x=>
   rw[hx] at h1;cases h1
   show c=jL (((some x).bind fun x=>(eT x)[j]?).getD .undef)
   have aQ:j<(eT x).length:=by rw[(hc x).1];exact(List.getElem?_eq_some_iff.1 h2).1
   have al:=List.getElem?_eq_getElem aQ
   have he:((some x).bind fun x=>(eT x)[j]?).getD .undef=(eT x)[j]:=by
    show((eT x)[j]?).getD .undef=_
    rw[al];rfl
   rw[he]
   exact((hc x).2 j _ c al h2).2
theorem ld.nil {H:List Blk}:ld H [] []:=⟨rfl,fun j a b h=>by simp at h⟩
theorem ld.cons {H:List Blk} {a b:AV} {c d:List AV} (h1:gk H a a) (h2:b=jL a) (h:ld H c d):ld H (a::c) (b::d):=
 ⟨by simp[h.1],fun j x y hx bi=>by
  cases j with
  | zero=>simp at hx bi;subst hx;subst bi;exact⟨h1,h2⟩
  | succ j=>exact h.2 j x y (by simpa using hx) (by simpa using bi)⟩
theorem abD {H:List Blk} (n:Int):ld H (cd n) (cd n):= .cons (.int _ _) rfl .nil
theorem abF {H:List Blk} (n:UInt8):ld H (EY n) (EY n):= .cons (.int _ _) rfl .nil
theorem y1 {H:List Blk} (b:Bool):ld H (aP b) (aP b):= .cons (.bool _) rfl .nil
theorem abE {H:List Blk} (b:ByteArray):ld H (IZ b) (IZ b):= .cons (.str _) rfl .nil
theorem kU {H:List Blk} (rows:List (List AV)):gk H (.aX rows false true) (.aX rows false true):= .aX _ _ _ id
theorem Qs {H:List Blk} (x:cU):ld H (cQ x) (cQ x):= .cons (.int _ _) rfl (.cons (.int _ _) rfl .nil)
theorem abB {H:List Blk} (x:Event):ld H (fJ x) (fJ x):= .cons (.int _ _) rfl (.cons (.int _ _) rfl (.cons (.int _ _) rfl .nil))
theorem BW {H:List Blk} (x:bx):ld H (a1 x) (a1 x):= .cons (.int _ _) rfl (.cons (.int _ _) rfl .nil)
theorem abG {H:List Blk} (x:Way):ld H (da true x) (da false x):= .cons (kU _) rfl (.cons (kU _) rfl (.cons (kU _) rfl (.cons (kU _) rfl (.cons (kU _) rfl .nil))))
theorem abC {H:List Blk} (x:aq):ld H (fR true x) (fR false x):= .cons (.int _ _) rfl (.cons (.int _ _) rfl (.cons (kU _) rfl (.cons (.bool _) rfl (.cons (.int _ _) rfl .nil))))
theorem abA {H:List Blk} (x:fv):ld H (nJ true x) (nJ false x):= .cons (.int _ _) rfl (.cons (.bool _) rfl (.cons (kU _) rfl (.cons (kU _) rfl (.cons (kU _) rfl .nil))))
theorem ZH {H:List Blk} {α:Type} {eT eF:α→List AV} {b g sz:Nat} {full:Bool} {xs ys:List α} (hb:H[b]?=some ⟨g,sz,List.map eT xs⟩) (hc: ∀x,ld H (eT x) (eF x)) (h:xs.length≤4611686018427387904∧xs=ys):
  gk H (.ref b g 0 xs.length full) (.aX (List.map eF ys) false true):=h.2▸alB hb h.1 hc
theorem sV {H:List Blk} {α:Type} {e:α→List AV} {ys:List α} {full fr:Bool} (h:[]=ys):gk H (.aX [] full fr) (.aX (List.map e ys) false true):=h▸ .VV _ _ _ (fun h=>by cases h)
theorem yh {H:List Blk} {α:Type} {e:α→List AV} {xs ys:List α} {full:Bool} (h:xs=ys):gk H (.aX (List.map e xs) full true) (.aX (List.map e ys) false true):=h▸ .aX _ _ _ (fun h=>by cases h)
theorem yg {H:List Blk} {k:IntKind} {a b:Int} (h:a=b):gk H (.int k a) (.int k b):=h▸ .int k a
theorem oh {H:List Blk} {a b:Bool} (h:a=b):gk H (.bool a) (.bool b):=h▸ .bool a
theorem am2 {H:List Blk} {a b:ByteArray} (h:a=b):gk H (.str a) (.str b):=h▸ .str a
theorem cj {L:List (Nat×List AV)} {H:List Blk} {rows:List (List AV)} {full fr:Bool}:fQ L H (.aX rows full fr) (.aX rows false false):= .aX _ _ _ _ (fun h=>by cases h)
def pX (L:List (Nat×List AV)) (H:List Blk) (c d:List AV):Prop:=c.length=d.length∧ ∀(j:Nat) (a b:AV),c[j]?=some a→d[j]?=some b→fQ L H a b
theorem XJ {L:List (Nat×List AV)} {H:List Blk} {α:Type} {eT eF:α→List AV} {b g sz:Nat} {full:Bool} {xs:List α} (hb:H[b]?=some ⟨g,sz,List.map eT xs⟩) (hc: ∀x,pX L H (eT x) (eF x)) (ag:xs.length≤4611686018427387904):
  fQ L H (.ref b g 0 xs.length full) (.aX (List.map eF xs) false false):=by
 refine fQ.ref (fun h=>by cases h) hb rfl (by rw[List.length_map]) ag (by simp) (fun i row row' h1 h2=> ?_) (fun i j row row' a c h1 h2 au a8=> ?_)
 ·have h1:(List.map eT xs)[0+i]?=some row:=h1
  rw[Nat.zero_add,List.getElem?_map] at h1
  rw[List.getElem?_map] at h2
  cases hx:xs[i]? with
  | none=>rw[hx] at h1;cases h1
  | some x=>rw[hx] at h1 h2;cases h1;cases h2;exact(hc x).1
 ·have h1:(List.map eT xs)[0+i]?=some row:=h1
  rw[Nat.zero_add,List.getElem?_map] at h1
  rw[List.getElem?_map] at h2
  cases hx:xs[i]? with
  | none=>rw[hx] at h1;cases h1
  | some x=>rw[hx] at h1 h2;cases h1;cases h2;exact(hc x).2 j a c au a8
theorem pX.nil {L:List (Nat×List AV)} {H:List Blk}:pX L H [] []:=⟨rfl,fun j a b h=>by simp at h⟩
theorem pX.cons {L:List (Nat×List AV)} {H:List Blk} {a b:AV} {c d:List AV} (h1:fQ L H a b) (h:pX L H c d):pX L H (a::c) (b::d):=
 ⟨by simp[h.1],fun j x y hx bi=>by
  cases j with
  | zero=>simp at hx bi;subst hx;subst bi;exact h1
  | succ j=>exact h.2 j x y (by simpa using hx) (by simpa using bi)⟩
section
variable {L:List (Nat×List AV)} {H:List Blk}
theorem vc (b:Bool):pX L H (aP b) (aP b):= .cons (.bool _) .nil
theorem xg (x:bx):pX L H (a1 x) (a1 x):= .cons (.int _ _) (.cons (.int _ _) .nil)
end
def ev {α:Type} (F:(α→Prop)→Prop):Prop:= ∀K,F K→ ∃r,K r∧F (fun x=>x=r)
theorem ev.ret {α:Type} (r:α):ev fun K=>K r:=fun K h=>⟨r,h,rfl⟩
theorem ev.no {α:Type}:ev (α:=α) fun _=>False:=fun K h=>h.elim
theorem ev.and {α:Type} {φ:Prop} {F:(α→Prop)→Prop} (h:ev F):ev fun K=>φ∧F K:=fun K ⟨ae,hf⟩=>by
 obtain⟨r,h1,h2⟩:=h K hf
 exact⟨r,h1,ae,h2⟩
theorem ev.aa4 {α:Type} {φ:Prop} {F:(α→Prop)→Prop} (h:φ→ev F):ev fun K=>φ∧F K:=fun K ⟨ae,hf⟩=>by
 obtain⟨r,h1,h2⟩:=h ae K hf
 exact⟨r,h1,ae,h2⟩
theorem ev.bind {α β:Type} {o:Option β} {F:β→(α→Prop)→Prop} (h: ∀b,ev (F b)):ev fun K=>cC o fun b=>F b K:=fun K hf=>by
 cases o with
 | none=>exact hf.elim
 | some b=>exact h b K hf
theorem ev.ite {α:Type} {c:Prop} [Decidable c] {F G:(α→Prop)→Prop} (h:ev F) (k:ev G):ev fun K=>if c then F K else G K:=by
 intro K hf
 by_cases hc:c
 ·rw[if_pos hc] at hf
  obtain⟨r,h1,h2⟩:=h K hf
  exact⟨r,h1,by show if c then _ else _;rw[if_pos hc];exact h2⟩
 ·rw[if_neg hc] at hf
  obtain⟨r,h1,h2⟩:=k K hf
  exact⟨r,h1,by show if c then _ else _;rw[if_neg hc];exact h2⟩
theorem ev.eM {α:Type} {b:Bool} {F:(α→Prop)→Prop} (h:ev F):ev fun K=>eM b (F K):=by
 cases b with
 | true=>exact h
 | false=>exact ev.no
theorem Pg {P:Program} {t:TypeId} {cells:List AV} {c:Nat}:ev (jH P t cells c):=by
 unfold jH
 exact .ite (.ite (.ite (.ret _) .no) (.bind fun _=> .ret _)) .no
theorem aiQ {P:Program} {t:TypeId} {x:AV} {L:List (Nat×List AV)} {H:List Blk}:ev (qg P t x L H):=by
 cases x with
 | fp s c=>exact .bind fun _=>Pg
 | ptr b g r c=>exact .bind fun _=> .and (.bind fun _=>Pg)
 | dh cells c=>exact Pg
 | _=>exact .no
theorem ajy {x:AV}:ev (Mh x):=by
 cases x<;>first | exact .no | exact .ret _
theorem abi {op:BinOp} {k:IntKind} {a b:Int}:ev (EF op k a b):=by
 cases op<;>first | exact .no | exact .ret _ | exact .and (.ret _)
theorem abh {op:BinOp} {k k2:IntKind} {a b:Int}:ev (EG op k a k2 b):=by
 cases op<;>first | exact .and (.ret _) | exact .ite abi .no
def BS (x:AV):Bool:=match x with
 | .aX _ _ _=>false
 | _=>true
theorem abj {P:Program} {op:BinOp} {t:TypeId} {x y:AV} {uB:Bool} (hx:BS x=true):ev (uP P op t x y uB):=by
 cases x with
 | int k a=>cases y<;>first | exact .no | exact abh
 | bool a=>
  cases y with
  | bool b=>exact .ite (by cases op<;>first | exact .no | exact .ret _) .no
  | _=>exact .no
 | str a=>
  cases y with
  | str b=>
   show ev (Im op a b)
   cases op<;>first | exact .no | exact .ret _ | exact .and (.ret _)
  | _=>exact .no
 | agg l=>
  cases y with
  | agg m=>exact .ite (.bind fun p=> .bind fun q=>by
    show ev (Io op p.1 p.2 q.1 q.2)
    cases op<;>first | exact .no | exact .ret _) .no
  | _=>exact .no
 | aX rows dK fr=>cases hx
 | _=>exact .no
theorem anr {op:UnOp} {x:AV}:ev (HV op x):=by
 cases op<;>cases x<;>first | exact .no | exact .ret _
theorem ack {P:Program} {s d:TypeId} {x:AV}:ev (IP P s d x):=by
 cases x with
 | int k n=>exact .bind fun _=> .bind fun _=> .ret _
 | _=>exact .no
theorem ac6 {P:Program} {t:TypeId} {x:AV} {f:Nat}:ev (Je P t x f):=by
 refine .bind fun fd=> .ite ?_ .no
 cases x<;>first | exact .no | exact .ret _
theorem af1 {P:Program} {t:TypeId} {x i:AV} {H:List Blk}:ev (zF P t x i H):=by
 refine .bind fun e=> .ite ?_ .no
 cases i with
 | int k n=>
  cases x with
  | aX rows dK fr=>exact .and (.bind fun _=> .and (.ret _))
  | ref b g off m dK=>exact .bind fun _=> .and (.and (.and (.and (.ret _))))
  | _=>exact .no
 | _=>exact .no
theorem aga {P:Program} {t:TypeId} {x i:AV}:ev (Kv P t x i):=by
 cases x with
 | str s=>
  cases i with
  | int k n=>
   show ev fun K:AV→Prop=>(match P.underlying t with
   | some .string=>0≤n∧n<s.size∧K (.int .u8 (s.data.getD n.toNat 0).toNat)
   | _=>False)
   split
   ·exact .and (.and (.ret _))
   ·exact .no
  | _=>exact .no
 | _=>exact .no
theorem yY {α:Type} {x:Option AV} {d:Nat} {F:Nat→(α→Prop)→Prop} (h: ∀n,ev (F n)):ev fun K=>mT x d fun n=>F n K:=by
 cases x with
 | none=>exact h d
 | some a=>
  cases a with
  | int k n=>exact .and (h _)
  | _=>exact .no
theorem alc {P:Program} {t:TypeId} {x:AV} {lo hi:Option AV} {H:List Blk}:ev (x4 P t x lo hi H):=by
 cases x with
 | str s=>
  show ev fun K:AV→Prop=>(match P.underlying t with
   | some .string=>mT lo 0 fun l=>mT hi s.size fun h=>l≤h∧h≤s.size∧K (.str (s.extract l h))
   | _=>False)
  split
  ·exact yY fun l=>yY fun h=> .and (.and (.ret _))
  ·exact .no
 | aX rows dK fr=>exact .bind fun e=> .ite (yY fun l=>yY fun h=> .and (.and (.and (.ret _)))) .no
 | ref b g off n dK=>
  refine .bind fun e=> .ite (.bind fun blk=> .and (.and (yY fun l=>yY fun h=> .aa4 fun hle=> .and ?_))) .no
  intro K ⟨h1,h2⟩
  rcases Nat.lt_trichotomy l h with aQ | aeX | sb
  ·exact⟨_,h1 aQ,fun _=>rfl,fun e=>absurd e (by omega)⟩
  ·exact⟨_,h2 aeX,fun e=>absurd e (by omega),fun _=>rfl⟩
  ·omega
 | _=>exact .no
theorem ac1 {x:AV} {i:Nat}:ev (Ja x i):=by
 cases x with
 | tup l=>exact .bind fun _=> .ret _
 | _=>exact .no
theorem ajt {fn:Fn} {first:Array Operand} {caps:List AV}:ev (C9 fn first caps):=by
 cases fn with
 | func f=>exact .ite (.ret _) .no
 | _=>exact .no
theorem abx {P:Program} {t:TypeId} {parts:List (Nat×AV)}:ev (Is P t parts):= .bind fun _=> .bind fun _=> .bind fun _=> .ret _
theorem abv {P:Program} {t:TypeId} {n:Nat} {parts:List (Nat×AV)}:ev (y0 P t n parts):= .bind fun _=> .bind fun _=> .ite (.bind fun _=> .ite (.ret _) .no) .no
def tY (x:AV) (K:AV→Prop):Prop:=match x with
 | .aX rows _ _=>K (.int .i64 rows.length)
 | .str s=>K (.int .i64 s.size)
 | .ref _ _ _ n _=>K (.int .i64 n)
 | _=>False
theorem aiW {x:AV}:ev (tY x):=by
 cases x<;>first | exact .no | exact .ret _
theorem aiX {x:AV} {K:AV→Prop} (h:tY x K):tX x K:=by
 cases x<;>first | exact h | exact fun _=>h
theorem abR {P:Program} {f:FuncId} {args:List AV} {L:List (Nat×List AV)} {H:List Blk}:ev (p5 P f args L H):=fun K ⟨ag,eg,t,h1,h2,au⟩=>⟨t,au,ag,eg,t,h1,h2,rfl⟩
def acW (P:Program) (c:Call) (bt:Operand→AV) (L:List (Nat×List AV)) (H:List Blk) (K:AV→Prop):Prop:=match c.callee with
 | .builtin .len=>(match c.args.toList,c.argTypes.toList with
  | [x],[t]=>eM (kf P t (bt x)) (tY (bt x) K)
  | _,_=>False)
 | .value f=>mh (bt f) fun g caps=>p5 P g (c.args.toList.map bt++caps) L H K
 | _=>False
def j_ (P:Program) (o:Oper) (bt:Operand→AV) (L:List (Nat×List AV)) (H:List Blk) (K:AV→Prop):Prop:=match o.op with
 | .call c=>acW P c bt L H K
 | .pick c x y=>p4 (bt c) fun z=>qO true z (K (bt x)) (K (bt y))
 | .binOp op t x y _=>eM (BS (bt x)) (uP P op t (bt x) (bt y) (sw y) K)
 | _=>uU P o bt L H K
theorem E_ {P:Program} {o:Oper} {bt:Operand→AV} {L:List (Nat×List AV)} {H:List Blk} {K:AV→Prop} (h:j_ P o bt L H K):uU P o bt L H K:=by
 obtain⟨dst,op,ty,pos,after,guard⟩:=o
 cases op with
 | call c=>
  obtain⟨callee,args,argTypes⟩:=c
  cases callee with
  | builtin b=>
   cases b with
   | len=>
    have h:(match args.toList,argTypes.toList with
     | [x],[t]=>eM (kf P t (bt x)) (tY (bt x) K)
     | _,_=>False):=h
    show(match args.toList,argTypes.toList with
     | [x],[t]=>eM (kf P t (bt x)) (tX (bt x) K)
     | _,_=>False)
    split at h
    ·obtain⟨h1,h2⟩:=rn h
     simp only[h1];exact aiX h2
    ·exact h.elim
   | _=>exact h.elim
  | value f=>exact h
  | _=>exact h.elim
 | binOp op t x y ty2=>exact(rn (show eM (BS (bt x)) (uP P op t (bt x) (bt y) (sw y) K) from h)).2
 | pick c x y=>
  obtain⟨b,hb,hw⟩:=EA (show p4 (bt c) fun z=>qO true z (K (bt x)) (K (bt y)) from h)
  show p4 (bt c) fun z=>BR z (K (bt x)) (K (bt y))
  rw[hb];exact EJ hw
 | _=>exact h
theorem abe {α:Type} {z:Bool} {x y:α}:ev fun K=>qO true z (K x) (K y):=by
 cases z with
 | true=>exact .ret x
 | false=>exact .ret y
theorem abb {α:Type} {v:AV} {F:Bool→(α→Prop)→Prop} (h: ∀b,ev (F b)):ev fun K=>p4 v fun b=>F b K:=by
 cases v with
 | bool b=>exact h b
 | _=>exact .no
theorem acZ {P:Program} {o:Oper} {bt:Operand→AV} {L:List (Nat×List AV)} {H:List Blk}:ev (j_ P o bt L H):=by
 obtain⟨dst,op,ty,pos,after,guard⟩:=o
 cases op with
 | move x=>exact .ret _
 | assign x=>exact .ret _
 | pick c x y=>exact abb fun z=>abe
 | build t ps=>exact .eM abx
 | buildSlice t n ps=>exact .eM abv
 | load t a=>exact aiQ
 | nilCheck x=>exact ajy
 | binOp op t x y ty2=>
  show ev fun K=>eM (BS (bt x)) (uP P op t (bt x) (bt y) (sw y) K)
  cases hb:BS (bt x) with
  | true=>exact abj hb
  | false=>exact .no
 | unOp op t x=>exact anr
 | convert s d x=>exact ack
 | makeFunc fn first caps=>exact ajt
 | fieldAddr t x f=>exact ac6
 | indexAddr t x i=>exact af1
 | index t x i=>exact aga
 | slice t x lo hi mx=>
  cases mx with
  | none=>exact alc
  | some m=>exact .no
 | extract x i=>exact ac1
 | call c=>
  obtain⟨callee,args,argTypes⟩:=c
  cases callee with
  | builtin b=>
   cases b with
   | len=>
    show ev fun K=>(match args.toList,argTypes.toList with
     | [x],[t]=>eM (kf P t (bt x)) (tY (bt x) K)
     | _,_=>False)
    split
    ·exact .eM aiW
    ·exact .no
   | _=>exact .no
  | value f=>
   show ev fun K=>mh (bt f) fun g caps=>p5 P g (args.toList.map bt++caps) L H K
   cases bt f with
   | fn g caps=>exact abR
   | _=>exact .no
  | _=>exact .no
 | _=>exact .no
structure Item where
 i:Nat
 lit:Bool
 q:Bool
 jV:List Nat
def PI:AV→AV→Bool
 | .int k n,.int k2 iU=>decide (k=k2)&&decide (n=iU)
 | .bool b,.bool bS=>b==bS
 | .aX [] f g,.aX [] Fc dq=>f==Fc&&g==dq
 | .fT,.fT=>true
 | _,_=>false
def H0:List AV→List AV→Bool
 | [],[]=>true
 | a::l,b::m=>PI a b&&H0 l m
 | _,_=>false
theorem an3 {a b:AV} (h:PI a b=true):a=b:=by
 unfold PI at h
 split at h
 ·simp only[Bool.and_eq_true,decide_eq_true_eq] at h;rw[h.1,h.2]
 ·rw[eq_of_beq h]
 ·simp only[Bool.and_eq_true] at h;rw[eq_of_beq h.1,eq_of_beq h.2]
 ·rfl
 ·cases h
theorem aaB: ∀{l m:List AV},H0 l m=true→l=m
 | [],[],_=>rfl
 | [],_::_,h=>by cases h
 | _::_,[],h=>by cases h
 | a::l,b::m,h=>by
  simp only[H0,Bool.and_eq_true] at h
  rw[an3 h.1,aaB h.2]
def rk (o:Oper):Bool:=match o.op with
 | .alloc _=>true
 | _=>false
def PU (P:Program) (e:TypeId) (dst:Option Nat) (L:List (Nat×List AV)) (K:AV→Prop):Prop:=cC (oo P e) fun z=>cC dst fun t=>cC (eB L t) fun c=>eM (z.all jo) (eM (H0 c z) (K (.fp t 0)))
def lR (P:Program) (o:Oper) (bt:Operand→AV) (L:List (Nat×List AV)) (H:List Blk) (K:AV→Prop):Prop:=match o.op with
 | .alloc e=>PU P e o.dst L K
 | _=>j_ P o bt L H K
theorem y_ {P:Program} {o:Oper} {bt:Operand→AV} {L:List (Nat×List AV)} {H:List Blk} {K:AV→Prop} (h:rk o=false):lR P o bt L H K=j_ P o bt L H K:=by
 obtain⟨dst,op,ty,pos,after,guard⟩:=o
 cases op<;>first | rfl | cases h
theorem acY {P:Program} {o:Oper} {bt:Operand→AV} {L:List (Nat×List AV)} {H:List Blk}:ev (lR P o bt L H):=by
 cases h:rk o with
 | false=>intro K hk;rw[y_ h] at hk;obtain⟨r,h1,h2⟩:=acZ K hk;exact⟨r,h1,by rw[y_ h];exact h2⟩
 | true=>
  obtain⟨dst,op,ty,pos,after,guard⟩:=o
  cases op
  case alloc e=>exact ev.bind fun _=> .bind fun _=> .bind fun _=> .eM (.eM (.ret _))
  all_goals cases h
def opI (ops:Array Oper) (i:Nat):Oper:=ops.getD i default
def uS (o:Oper) (T:List AV):AV:=match o.dst with
 | some d=>T.getD d .undef
 | none=> .undef
def tl (P:Program) (ops:Array Oper):List Nat→List AV→List (Nat×List AV)→List Blk→Prop
 | [],_,_,_=>True
 | i::r,T,L,H=>((opI ops i).guard.isNone=true∧(opI ops i).dst.isSome=true∧lR P (opI ops i) (b6 T) L H (fun v=>v=uS (opI ops i) T))∧tl P ops r T L H
theorem Rl {P:Program} {ops:Array Oper} {T:List AV} {L:List (Nat×List AV)} {H:List Blk}: ∀{jV:List Nat},tl P ops jV T L H→ ∀i∈jV,(opI ops i).guard.isNone=true∧(opI ops i).dst.isSome=true∧lR P (opI ops i) (b6 T) L H (fun v=>v=uS (opI ops i) T)
 | [],_,i,hi=>by cases hi
 | j::r,h,i,hi=>by
  rcases List.mem_cons.1 hi with rfl | hi
  ·exact h.1
  ·exact Rl h.2 i hi
def ku (P:Program) (esc:List Nat) (ops:Array Oper):List Item→List AV→List (Nat×List AV)→List Blk→(List AV→List (Nat×List AV)→List Blk→Prop)→Prop
 | [],T,L,H,K=>K T L H
 | x::rest,T,L,H,K=>pu ops x.lit (opI ops x.i) T
   (fun T=>match x.q with
    | true=>lR P (opI ops x.i) (b6 T) L H fun v=>ku P esc ops rest (putA T (opI ops x.i).dst v) L H K
    | false=>kt P esc (opI ops x.i) (b6 T) L H fun v L' H'=>tl P ops x.jV T L' H'∧ku P esc ops rest (putA T (opI ops x.i).dst v) L' H' K)
   (fun T=>ku P esc ops rest (putA T (opI ops x.i).dst (.tup [])) L H K)
theorem Q8 {P:Program} {o:Oper} {bt fN:Operand→AV} {L:List (Nat×List AV)} {H:List Blk} {K:AV→Prop} (h: ∀x∈o.op.operands,bt x=fN x):uU P o bt L H K=uU P o fN L H K:=by
 obtain⟨dst,op,ty,pos,after,guard⟩:=o
 have Wz: ∀ps:Array (Nat×Operand),(∀x∈ps.map (·.2),bt x=fN x)→(ps.toList.map fun p=>(p.1,bt p.2))=(ps.toList.map fun p=>(p.1,fN p.2)):=fun ps ae=>
  List.map_congr_left fun p hm=>by rw[ae p.2 (Array.mem_map.2 ⟨p,by simpa using hm,rfl⟩)]
 have PY: ∀ps:Array (Nat×Operand),(∀x∈ps.map (·.2),bt x=fN x)→(ps.toList.all fun p=>eL (bt p.2))=(ps.toList.all fun p=>eL (fN p.2)):=fun ps ae=>by
  rw[Bool.eq_iff_iff,List.all_eq_true,List.all_eq_true]
  constructor<;>intro q p hm
  ·rw[←ae p.2 (Array.mem_map.2 ⟨p,by simpa using hm,rfl⟩)];exact q p hm
  ·rw[ae p.2 (Array.mem_map.2 ⟨p,by simpa using hm,rfl⟩)];exact q p hm
 have aX: ∀xs:Array Operand,(∀x∈xs,bt x=fN x)→xs.toList.map bt=xs.toList.map fN:=fun xs hx=>List.map_congr_left fun p hm=>hx p (by simpa using hm)
 cases op<;>simp only[Op.operands] at h
 case build t ps=>
  show eM _ _=eM _ _
  rw[Wz ps fun x hx=>h x (by simpa using hx),PY ps fun x hx=>h x (by simpa using hx)]
 case buildSlice t n ps=>
  show eM _ _=eM _ _
  rw[Wz ps fun x hx=>h x (by simpa using hx),PY ps fun x hx=>h x (by simpa using hx)]
 case makeFunc fn first caps=>
  show C9 fn first (caps.toList.map bt) K=C9 fn first (caps.toList.map fN) K
  rw[aX caps fun x hx=>h x (by simp[hx])]
 case slice t x lo hi mx=>
  cases mx with
  | some m=>rfl
  | none=>
   show x4 P t (bt x) (lo.map bt) (hi.map bt) H K=x4 P t (fN x) (lo.map fN) (hi.map fN) H K
   cases lo<;>cases hi<;>simp_all
 case call c=>
  obtain⟨callee,args,argTypes⟩:=c
  have aG: ∀x∈args,bt x=fN x:=fun x hx=>h x (by simp[Call.operands,hx])
  cases callee with
  | builtin b=>
   cases b with
   | len=>
    show(match args.toList,argTypes.toList with
     | [x],[t]=>eM (kf P t (bt x)) (tX (bt x) K)
     | _,_=>False)=(match args.toList,argTypes.toList with
     | [x],[t]=>eM (kf P t (fN x)) (tX (fN x) K)
     | _,_=>False)
    split
    ·rename_i x t h1 h2
     rw[aG x (by rw[←Array.mem_toList_iff,h1];simp)]
    ·rfl
   | _=>rfl
  | value f=>
   have hf:bt f=fN f:=h f (by simp[Call.operands])
   show mh (bt f) _=mh (fN f) _
   rw[hf,aX args aG]
  | invoke r m=>rfl
 all_goals (first | rfl | (simp only[uU];simp_all;done))
theorem Q7 {P:Program} {o:Oper} {bt fN:Operand→AV} {L:List (Nat×List AV)} {H:List Blk} {K:AV→Prop} (h: ∀x∈o.op.operands,bt x=fN x):j_ P o bt L H K=j_ P o fN L H K:=by
 have hv:=fun K=>Q8 (P:=P) (L:=L) (H:=H) (K:=K) h
 obtain⟨dst,op,ty,pos,after,guard⟩:=o
 cases op
 case call c=>
  simp only[Op.operands] at h
  obtain⟨callee,args,argTypes⟩:=c
  have aG: ∀x∈args,bt x=fN x:=fun x hx=>h x (by simp[Call.operands,hx])
  cases callee with
  | builtin b=>
   cases b with
   | len=>
    show(match args.toList,argTypes.toList with
     | [x],[t]=>eM (kf P t (bt x)) (tY (bt x) K)
     | _,_=>False)=(match args.toList,argTypes.toList with
     | [x],[t]=>eM (kf P t (fN x)) (tY (fN x) K)
     | _,_=>False)
    split
    ·rename_i x t h1 h2
     rw[aG x (by rw[←Array.mem_toList_iff,h1];simp)]
    ·rfl
   | _=>rfl
  | value f=>exact hv K
  | invoke r m=>rfl
 case pick c x y=>simp only[Op.operands] at h;simp only[j_];simp_all
 case binOp op t x y ty2=>simp only[Op.operands] at h;simp only[j_];simp_all
 all_goals exact hv K
theorem Q3 {P:Program} {o:Oper} {bt fN:Operand→AV} {L:List (Nat×List AV)} {H:List Blk} {K:AV→Prop} (h: ∀x∈o.op.operands,bt x=fN x):lR P o bt L H K=lR P o fN L H K:=by
 cases aG:rk o with
 | false=>rw[y_ aG,y_ aG];exact Q7 h
 | true=>
  obtain⟨dst,op,ty,pos,after,guard⟩:=o
  cases op
  case alloc e=>rfl
  all_goals cases aG
theorem acX {P:Program} {esc:List Nat} {o:Oper} {bt fN:Operand→AV} {L:List (Nat×List AV)} {H:List Blk} {K:AV→List (Nat×List AV)→List Blk→Prop} (h: ∀x∈o.op.operands,bt x=fN x):kt P esc o bt L H K=kt P esc o fN L H K:=by
 have hv:=fun K=>Q8 (P:=P) (L:=L) (H:=H) (K:=K) h
 obtain⟨dst,op,ty,pos,after,guard⟩:=o
 cases op
 case call c=>
  obtain⟨callee,args,argTypes⟩:=c
  have h':=h
  simp only[Op.operands] at h
  have aG: ∀x∈args,bt x=fN x:=fun x hx=>h x (by simp[Call.operands,hx])
  cases callee with
  | builtin b=>
   cases b with
   | len=>exact hv fun r=>K r L H
   | append=>
    show(match args.toList,argTypes.toList with
     | [s,x],[t,t2]=>eL (bt s)=true∧eL (bt x)=true∧wF P t t2 (bt s) (bt x) L H K
     | _,_=>False)=(match args.toList,argTypes.toList with
     | [s,x],[t,t2]=>eL (fN s)=true∧eL (fN x)=true∧wF P t t2 (fN s) (fN x) L H K
     | _,_=>False)
    split
    ·rename_i s x t t2 h1 h2
     rw[aG x (by rw[←Array.mem_toList_iff,h1];simp),aG s (by rw[←Array.mem_toList_iff,h1];simp)]
    ·rfl
   | _=>rfl
  | value f=>
   have hf:bt f=fN f:=h f (by simp[Call.operands])
   show mh (bt f) _=mh (fN f) _
   rw[hf,List.map_congr_left fun p hm=>aG p (by simpa using hm)]
  | invoke r m=>rfl
 case alloc e=>rfl
 case buildSlice t n ps=>
  simp only[Op.operands] at h
  have h: ∀x∈ps.map (·.2),bt x=fN x:=fun x hx=>h x (by simpa using hx)
  have aW:(ps.toList.map fun p=>(p.1,bt p.2))=(ps.toList.map fun p=>(p.1,fN p.2)):=
   List.map_congr_left fun p hm=>by rw[h p.2 (Array.mem_map.2 ⟨p,by simpa using hm,rfl⟩)]
  have e2:(ps.toList.all fun p=>eL (bt p.2))=(ps.toList.all fun p=>eL (fN p.2)):=by
   rw[Bool.eq_iff_iff,List.all_eq_true,List.all_eq_true]
   constructor<;>intro q p hm
   ·rw[←h p.2 (Array.mem_map.2 ⟨p,by simpa using hm,rfl⟩)];exact q p hm
   ·rw[h p.2 (Array.mem_map.2 ⟨p,by simpa using hm,rfl⟩)];exact q p hm
  show eM _ (wK P (wR esc dst) (xY esc) t n _ L H K)=eM _ (wK P (wR esc dst) (xY esc) t n _ L H K)
  rw[aW,e2]
 case store t x y=>simp only[Op.operands] at h;simp only[kt];simp_all
 case box e x=>simp only[Op.operands] at h;simp only[kt];simp_all
 case makeSlice t l c=>simp only[Op.operands] at h;simp only[kt];simp_all
 all_goals exact hv fun r=>K r L H
structure yE (P:Program) (ops:Array Oper) (L:List (Nat×List AV)) (H:List Blk) (T:List AV) (o:Oper) (v:AV) (run:Bool):Prop where
 dc: ∀(E:Env) (a:Act),(∀t∈o.looksAt ops,V3 E (T.getD t .undef) (a.tmps.getD t undef))→T.length=a.tmps.size→Region.wanted o (yielded ops a.tmps)=run
 s3:run=true→lR P o (b6 T) L H (fun r=>r=v)
 no:run=false→v= .tup []
 put: ∀d,o.dst=some d→d<T.length→T.getD d .undef=v
theorem ajh {ops:Array Oper} {o:Oper} {t:Nat} (h: .tmp t∈o.op.operands):t∈o.looksAt ops:=
 List.mem_append_left _ (List.mem_filterMap.2 ⟨.tmp t,by simpa using h,rfl⟩)
theorem ajg {ops:Array Oper} {o:Oper} {j t:Nat} {b:Bool} (ax:o.guard=some (j,b)) (a6:(ops[j]?).bind (·.dst)=some t):t∈o.looksAt ops:=by
 refine List.mem_append_right _ ?_
 rw[ax];simp[a6]
theorem GP {ops:Array Oper} {o:Oper} {T T':List AV} (h: ∀t∈o.looksAt ops,T.getD t .undef=T'.getD t .undef): ∀x∈o.op.operands,b6 T x=b6 T' x:=fun x hx=>by
 cases x with
 | tmp t=>exact h t (ajh hx)
 | _=>rfl
theorem yE.mono {P:Program} {ops:Array Oper} {L:List (Nat×List AV)} {H:List Blk} {T T':List AV} {o:Oper} {v:AV} {run:Bool} (h:yE P ops L H T o v run) (aw:T'.length=T.length)
  (aG: ∀t∈o.looksAt ops,T'.getD t .undef=T.getD t .undef) (aV: ∀d,o.dst=some d→T'.getD d .undef=T.getD d .undef):yE P ops L H T' o v run where
 dc:=fun E a hs aB=>h.dc E a (fun t a6=>by rw[←aG t a6];exact hs t a6) (by rw[←aw];exact aB)
 s3:=fun ao=>by
  rw[Q3 (GP aG)]
  exact h.s3 ao
 no:=h.no
 put:=fun d oB aQ=>by rw[aV d oB];exact h.put d oB (by rw[←aw];exact aQ)
theorem Rz {P:Program} {ops:Array Oper} {lit:Bool} {o:Oper} {T:List AV} {x y:List AV→Prop} (h:pu ops lit o T x y):
  ∃T' run,T'.length=T.length∧(∀t,T'.getD t .undef=T.getD t .undef)∧(∀(E:Env) (a:Act),(∀t∈o.looksAt ops,V3 E (T.getD t .undef) (a.tmps.getD t undef))→T.length=a.tmps.size→Region.wanted o (yielded ops a.tmps)=run)∧(if run=true then x T' else y T'):=by
 unfold pu at h
 cases ax:o.guard with
 | none=>rw[ax] at h;exact⟨T,true,rfl,fun _=>rfl,fun E a _ _=>by simp[Region.wanted,ax],h⟩
 | some g=>
  obtain⟨j,dc⟩:=g
  rw[ax] at h
  simp only at h
  cases al:(ops[j]?).bind (·.dst) with
  | none=>rw[al] at h;exact h.elim
  | some t=>
   rw[al] at h
   simp only at h
   have FM:t∈o.looksAt ops:=ajg ax al
   have tD: ∀b,T.getD t .undef= .bool b→ ∀s,(T.set t (.bool b)).getD s .undef=T.getD s .undef:=fun b hb s=>by
    rw[tm]
    by_cases hs:t=s∧t<T.length
    ·rw[if_pos hs,←hs.1,hb]
    ·rw[if_neg hs]
   split at h
   ·rename_i b hb
    obtain⟨h1,h2⟩:=EJ h
    have hw: ∀(E:Env) (a:Act),(∀t∈o.looksAt ops,V3 E (T.getD t .undef) (a.tmps.getD t undef))→T.length=a.tmps.size→Region.wanted o (yielded ops a.tmps)=(b==dc):=fun E a hs aB=>by
     have hv:=hs t FM
     rw[hb] at hv
     have he:a.tmps.getD t undef= .bool b:=V3.pj hv
     have bi:yielded ops a.tmps j=some b:=by
      unfold yielded
      rw[al]
      rw[Array.getD_eq_getD_getElem?] at he
      cases U:a.tmps[t]? with
      | none=>rw[U] at he;cases he
      | some x=>rw[U] at he;have:x= .bool b:=he;subst this;simp[U]
     simp[Region.wanted,ax,bi]
    cases b with
    | true=>refine⟨_,_,by simp,tD true hb,hw,?_⟩;have:=h1 rfl;cases dc<;>exact this
    | false=>refine⟨_,_,by simp,tD false hb,hw,?_⟩;have:=h2 rfl;cases dc<;>exact this
   ·rename_i hb
    refine⟨T,false,rfl,fun _=>rfl,fun E a hs aB=> ?_,h⟩
    have hv:=hs t FM
    rw[hb] at hv
    obtain⟨vs,he,ae⟩:=(show ∃vs:List Value,a.tmps.getD t undef= .tuple vs.toArray∧af (V2 E) [] vs from hv)
    obtain rfl:=ae.oQ
    have bi:yielded ops a.tmps j=none:=by
     unfold yielded
     rw[al]
     rw[Array.getD_eq_getD_getElem?] at he
     cases U:a.tmps[t]? with
     | none=>simp[U]
     | some x=>rw[U] at he;have:x= .tuple #[]:=he;subst this;simp[U]
    simp[Region.wanted,ax,bi]
   ·exact h.elim
theorem Av (T:List AV) (d:Option Nat) (v:AV):(putA T d v).length=T.length:=by
 cases d<;>simp[putA]
theorem GZ {T:List AV} {d:Option Nat} {v:AV} {t:Nat} (h:d≠some t):(putA T d v).getD t .undef=T.getD t .undef:=by
 cases d with
 | none=>rfl
 | some s=>
  show(T.set s v).getD t .undef=_
  rw[tm,if_neg]
  rintro⟨rfl,_⟩;exact h rfl
theorem WY {T:List AV} {d:Nat} {v:AV} (h:d<T.length):(putA T (some d) v).getD d .undef=v:=by
 show(T.set d v).getD d .undef=v
 rw[tm,if_pos ⟨rfl,h⟩]
def ma (ops:Array Oper):List Item→Prop
 | []=>True
 | x::r=>(∀t∈(opI ops x.i).looksAt ops,∀y∈x::r,(opI ops y.i).dst≠some t)∧(∀d,(opI ops x.i).dst=some d→ ∀y∈r,(opI ops y.i).dst≠some d)∧ma ops r
theorem M9 {P:Program} {esc:List Nat} {ops:Array Oper} {L:List (Nat×List AV)} {H:List Blk} {K:List AV→List (Nat×List AV)→List Blk→Prop}: ∀(l:List Item) (T:List AV),ma ops l→ku P esc ops l T L H K→
  ∃pre post p0,l=pre++post∧(∀x∈pre,x.q=true)∧(∀x r,post=x::r→x.q=false)∧ku P esc ops post p0 L H K∧p0.length=T.length∧
   (∀t,(∀x∈pre,(opI ops x.i).dst≠some t)→p0.getD t .undef=T.getD t .undef)∧ ∀x∈pre,∃v run,yE P ops L H p0 (opI ops x.i) v run
 | [],T,_,h=>⟨[],[],T,rfl,fun x hx=>(by cases hx),fun x r e=>(by cases e),h,rfl,fun _ _=>rfl,fun x hx=>(by cases hx)⟩
 | x::r,T,aF,h=>by
  cases U:x.q with
  | false=>exact⟨[],x::r,T,rfl,fun x hx=>(by cases hx),fun y G7 e=>(by cases e;exact U),h,rfl,fun _ _=>rfl,fun x hx=>(by cases hx)⟩
  | true=>
   obtain⟨hy,run,q_,mn,hw,fa⟩:=Rz (P:=P) h
   obtain⟨P4,aa5,aa6⟩:=aF
   have key: ∃v,ku P esc ops r (putA hy (opI ops x.i).dst v) L H K∧(run=true→lR P (opI ops x.i) (b6 hy) L H (fun r=>r=v))∧(run=false→v= .tup []):=by
    cases run with
    | true=>
     have fa:(match x.q with
      | true=>lR P (opI ops x.i) (b6 hy) L H fun v=>ku P esc ops r (putA hy (opI ops x.i).dst v) L H K
      | false=>_):=fa
     rw[U] at fa
     obtain⟨v,h1,h2⟩:=acY _ fa
     exact⟨v,h1,fun _=>h2,fun e=>by cases e⟩
    | false=>exact⟨.tup [],fa,fun e=>(by cases e),fun _=>rfl⟩
   obtain⟨v,hv,afX,ms⟩:=key
   obtain⟨pre,post,p0,rfl,w7,kD,tv,hlen,gY,Cl⟩:=M9 r _ aa6 hv
   have u6: ∀y∈pre,y∈pre++post:=fun y bi=>List.mem_append_left _ bi
   have Cq: ∀t∈(opI ops x.i).looksAt ops,p0.getD t .undef=hy.getD t .undef:=fun t a6=>by
    rw[gY t fun y bi=>P4 t a6 y (List.mem_cons_of_mem _ (u6 y bi)),GZ (P4 t a6 x (List.mem_cons_self ..))]
   refine⟨x::pre,post,p0,rfl,fun y bi=> ?_,kD,tv,by rw[hlen,Av,q_],fun t a6=> ?_,fun y bi=> ?_⟩
   ·rcases List.mem_cons.1 bi with rfl | bi
    ·exact U
    ·exact w7 y bi
   ·rw[gY t fun y bi=>a6 y (List.mem_cons_of_mem _ bi),GZ (a6 x (List.mem_cons_self ..)),mn]
   ·rcases List.mem_cons.1 bi with rfl | bi
    ·refine⟨v,run,⟨fun E a hs aB=>hw E a (fun t a6=> ?_) ?_,fun ao=> ?_,ms,fun d aV aQ=> ?_⟩⟩
     ·rw[←mn t,←Cq t a6];exact hs t a6
     ·rw[←aB,hlen,Av,q_]
     ·rw[Q3 (GP Cq)];exact afX ao
     ·rw[gY d fun y bi=>aa5 d aV y (u6 y bi),aV]
      exact WY (by rw[hlen,Av] at aQ;exact aQ)
    ·exact Cl y bi
def wu (A:Nat→List Nat):List Item→List Item→Prop
 | _,[]=>True
 | p,h::r=>(h.q=false→(∀y∈r,h.i∈A y.i)∧ ∀x∈p,x.i∈A h.i∨x.i∈h.jV)∧wu A (p++[h]) r
theorem wu.at {A:Nat→List Nat}: ∀{pre p:List Item} {h:Item} {r:List Item},wu A p (pre++h::r)→h.q=false→(∀y∈r,h.i∈A y.i)∧ ∀x∈p++pre,x.i∈A h.i∨x.i∈h.jV
 | [],p,h,r,hb,U=>by
  rw[List.append_nil];exact hb.1 U
 | x::pre,p,h,r,hb,U=>by
  have:=wu.at (pre:=pre) (p:=p++[x]) hb.2 U
  simpa using this
structure Ek (ops:Array Oper) (ord:List Item) (A:Nat→List Nat):Prop where
 back: ∀i o,ops[i]?=some o→ ∀e∈o.after,Region.binds .any e=true→e.on<i
 aa2: ∀i o,ops[i]?=some o→ ∀a∈A i,∃e∈o.after,Region.binds .any e=true∧(a=e.on∨a∈A e.on)
 all: ∀i,i<ops.size→ ∃x∈ord,x.i=i
 lt: ∀x∈ord,x.i<ops.size
 nodup:(ord.map (·.i)).Nodup
 anv: ∀x∈ord,∀t∈(opI ops x.i).looksAt ops,∀y∈ord,(opI ops y.i).dst=some t→y.i∈A x.i
 apart:ma ops ord
 lP:wu A [] ord
theorem ma.tail {ops:Array Oper}: ∀{p r:List Item},ma ops (p++r)→ma ops r
 | [],_,h=>h
 | _::p,_,h=>ma.tail (p:=p) h.2.2
theorem ma.later {ops:Array Oper}: ∀{p r:List Item},ma ops (p++r)→ ∀x∈p,(∀t∈(opI ops x.i).looksAt ops,∀y∈r,(opI ops y.i).dst≠some t)∧ ∀d,(opI ops x.i).dst=some d→ ∀y∈r,(opI ops y.i).dst≠some d
 | [],_,_,x,hx=>by cases hx
 | z::p,r,h,x,hx=>by
  rcases List.mem_cons.1 hx with rfl | hx
  ·exact⟨fun t a6 y bi=>h.1 t a6 y (List.mem_cons_of_mem _ (List.mem_append_right _ bi)),fun d aV y bi=>h.2.1 d aV y (List.mem_append_right _ bi)⟩
  ·exact ma.later (p:=p) h.2.2 x hx
theorem ma.inj {ops:Array Oper}: ∀{l:List Item},ma ops l→ ∀x∈l,∀y∈l,x.i≠y.i→ ∀d,(opI ops x.i).dst=some d→(opI ops y.i).dst≠some d
 | [],_,x,hx,_,_,_,_,_=>by cases hx
 | z::r,h,x,hx,y,bi,bU,d,aV=>by
  rcases List.mem_cons.1 hx with ex | UM
  ·rcases List.mem_cons.1 bi with Jb | LU
   ·exact absurd (by rw[ex,Jb]) bU
   ·exact h.2.1 d (by rw[←ex];exact aV) y LU
  ·rcases List.mem_cons.1 bi with Jb | LU
   ·exact fun e=>h.2.1 d (by rw[←Jb];exact e) x UM aV
   ·exact ma.inj h.2.2 x UM y LU bU d aV
theorem ub {ops:Array Oper} {i:Nat} (h:i<ops.size):ops[i]?=some (opI ops i):=by
 unfold opI
 rw[Array.getElem?_eq_getElem h,Array.getD_eq_getD_getElem?,Array.getElem?_eq_getElem h];rfl
def H2 (ops:Array Oper) (S:Array Bool):Prop:= ∀i o,ops[i]?=some o→S.getD i false=true→ ∀e∈o.after,Region.binds .any e=true→S.getD e.on false=true
theorem aa3 {ops:Array Oper} {ord:List Item} {A:Nat→List Nat} (D:Ek ops ord A) {S:Array Bool} (hs:S.size=ops.size) (hc:H2 ops S): ∀(i:Nat) o,ops[i]?=some o→(∀e∈o.after,Region.binds .any e=true→S.getD e.on false=true)→ ∀a∈A i,S.getD a false=true:=by
 intro i
 induction i using Nat.strongRecOn with
 | _ i br=>
  intro o ai ao a aG
  obtain⟨e,he,hb,tz⟩:=D.aa2 i o ai a aG
  have u9:=ao e he hb
  rcases tz with rfl | tz
  ·exact u9
  ·have aQ:=D.back i o ai e he hb
   have b9:e.on<ops.size:=by
    rcases Nat.lt_or_ge e.on ops.size with h | h
    ·exact h
    ·rw[Array.getD_eq_getD_getElem?,Array.getElem?_eq_none (by omega)] at u9;cases u9
   exact br e.on aQ _ (ub b9) (fun cA aeW dL=>hc e.on _ (ub b9) u9 cA aeW dL) a tz
theorem Xj {ops:Array Oper} {S:Array Bool} (hs:S.size=ops.size) {i:Nat} (h:i∈Region.ready .any ops S):i<ops.size∧S.getD i false=false∧ ∀e∈(opI ops i).after,Region.binds .any e=true→S.getD e.on false=true:=by
 unfold Region.ready at h
 rw[List.mem_filter,List.mem_range] at h
 obtain⟨aQ,h⟩:=h
 rw[ub aQ] at h
 simp only[Option.map_some,Option.getD_some,Bool.and_eq_true,Bool.not_eq_true',Array.all_eq_true_iff_forall_mem] at h
 obtain⟨h1,h2⟩:=h
 refine⟨aQ,?_,fun e he hb=> ?_⟩
 ·rw[Array.getD_eq_getD_getElem?,Array.getElem?_eq_getElem (by omega)] at h1 ⊢;exact h1
 ·have:=h2 e he
  rw[hb] at this;simpa using this
theorem akl {ops:Array Oper} {ord:List Item} {A:Nat→List Nat} (D:Ek ops ord A) {S:Array Bool} (hs:S.size=ops.size) (h:Region.ready .any ops S=[]): ∀i,i<ops.size→S.getD i false=true:=by
 intro i
 induction i using Nat.strongRecOn with
 | _ i br=>
  intro aQ
  cases U:S.getD i false with
  | true=>rfl
  | false=>
   exfalso
   have:i∈Region.ready .any ops S:=by
    unfold Region.ready
    rw[List.mem_filter,List.mem_range]
    refine⟨aQ,?_⟩
    rw[ub aQ]
    simp only[Option.map_some,Option.getD_some,Bool.and_eq_true,Bool.not_eq_true',Array.all_eq_true_iff_forall_mem]
    refine⟨?_,fun e he=> ?_⟩
    ·rw[Array.getD_eq_getD_getElem?,Array.getElem?_eq_getElem (by omega)] at U ⊢;exact U
    ·cases hb:Region.binds .any e with
     | false=>rfl
     | true=>
      have aw:=D.back i _ (ub aQ) e he hb
      simpa using br e.on aw (by omega)
   rw[h] at this;cases this
theorem QE {α:Type} (p Ao:α→Bool) (j:α) (ae:p j=true) (u_:Ao j=false) (hk: ∀k,k≠j→p k=Ao k): ∀l:List α,l.Nodup→j∈l→l.countP p=l.countP Ao+1
 | [],_,h=>by cases h
 | k::l,ag,h=>by
  rw[List.nodup_cons] at ag
  by_cases J4:k=j
  ·subst J4
   rw[List.countP_cons_of_pos ae,List.countP_cons_of_neg (by simp[u_])]
   congr 1
   refine List.countP_congr fun x hx=> ?_
   rw[hk x (fun e=>ag.1 (e▸hx))]
  ·have al:j∈l:=(List.mem_cons.1 h).resolve_left fun e=>J4 e.symm
   have br:=QE p Ao j ae u_ hk l ag.2 al
   rw[List.countP_cons,List.countP_cons,hk k J4,br];omega
def left (n:Nat) (S:Array Bool):Nat:=(List.range n).countP fun j=> !S.getD j false
theorem B9 {S:Array Bool} {i j:Nat}:(S.setIfInBounds i true).getD j false=if i=j∧i<S.size then true else S.getD j false:=by
 rw[Array.getD_eq_getD_getElem?,Array.getD_eq_getD_getElem?,Array.getElem?_setIfInBounds]
 by_cases h:i=j
 ·subst h
  by_cases aw:i<S.size
  ·simp[aw]
  ·simp[aw]
 ·simp[h]
theorem aiU {n:Nat} {S:Array Bool} {i:Nat} (hs:S.size=n) (hi:i<n) (h:S.getD i false=false):left n S=left n (S.setIfInBounds i true)+1:=by
 refine QE _ _ i (by simp[h]) ?_ (fun k hk=> ?_) _ List.nodup_range (List.mem_range.2 hi)
 ·rw[B9,if_pos ⟨rfl,by omega⟩];rfl
 ·rw[B9,if_neg (fun e=>hk e.1.symm)]
theorem aiV {n:Nat} {S:Array Bool} (h:left n S=0): ∀i,i<n→S.getD i false=true:=fun i hi=>by
 have:=(List.countP_eq_zero.1 h) i (List.mem_range.2 hi)
 simpa using this
def w4:List Nat→List AV→List AV
 | [],T=>T
 | d::ds,T=>w4 ds (T.set d .undef)
theorem FE: ∀(ds:List Nat) (T:List AV) (t:Nat),(t∈ds→(w4 ds T).getD t .undef= .undef)∧(t ∉ ds→(w4 ds T).getD t .undef=T.getD t .undef)
 | [],T,t=>⟨fun h=>(by cases h),fun _=>rfl⟩
 | d::ds,T,t=>by
  obtain⟨h1,h2⟩:=FE ds (T.set d .undef) t
  refine⟨fun h=> ?_,fun h=> ?_⟩
  ·by_cases aV:t∈ds
   ·exact h1 aV
   ·have e:t=d:=(List.mem_cons.1 h).resolve_right aV
    show(w4 ds (T.set d .undef)).getD t .undef= .undef
    rw[h2 aV,tm]
    by_cases aw:d=t∧d<T.length
    ·rw[if_pos aw]
    ·rw[if_neg aw,List.getD_eq_getElem?_getD,List.getElem?_eq_none (by rcases Nat.lt_or_ge d T.length with q | q;exact absurd ⟨e.symm,q⟩ aw;omega)];rfl
  ·show(w4 ds (T.set d .undef)).getD t .undef=_
   rw[h2 fun hm=>h (List.mem_cons_of_mem _ hm),tm,if_neg fun hm=>h (by rw[hm.1];exact List.mem_cons_self ..)]
section
variable {P:Program} {esc:List Nat} {ops:Array Oper} {ord:List Item} {A:Nat→List Nat} {Q:Exit→St→Prop} {b_:Env}
structure PK [cl] (P:Program) (esc:List Nat) (ops:Array Oper) (ord:List Item) (Q:Exit→St→Prop) (b_:Env) (S:Array Bool) (a:Act) (w:World) (pre post:List Item) (E:Env) (T:List AV) (L:List (Nat×List AV)) (H:List Blk):Prop where
 rm:ord=pre++post
 Eb: ∀x∈post,S.getD x.i false=false
 head: ∀x r,post=x::r→x.q=false
 tf:ku P esc ops post T L H (fun T L H=>Q .normal ⟨T,L,H⟩)
 facts: ∀x∈pre,S.getD x.i false=false→x.q=true∧ ∃v run,yE P ops L H T (opI ops x.i) v run
 iI: ∀t,(∃x∈pre,S.getD x.i false=false∧(opI ops x.i).dst=some t)∨V3 E (T.getD t .undef) (a.tmps.getD t undef)
 size:T.length=a.tmps.size
 h:SimH E H
 l:SimL E L
 nL:Good b_ E
 bq: ∀x∈ord,S.getD x.i false=false→rk (opI ops x.i)=true→x.q=true→ ∀d,(opI ops x.i).dst=some d→E.mL d=none
 IQ:a.defers=[]
 w:E.w=w
theorem W2 {a:Act} {d:Option Nat} {u:Value} {t:Nat} (h:d≠some t):(a.put d u).tmps.getD t undef=a.tmps.getD t undef:=by
 cases d with
 | none=>rfl
 | some s=>
  show(a.tmps.setIfInBounds s u).getD t undef=_
  rw[Array.getD_eq_getD_getElem?,Array.getD_eq_getD_getElem?,Array.getElem?_setIfInBounds_ne (fun e=>h (by rw[e]))]
theorem W4 {a:Act} {d:Nat} {u:Value} (h:d<a.tmps.size):(a.put (some d) u).tmps.getD d undef=u:=by
 show(a.tmps.setIfInBounds d u).getD d undef=_
 rw[Array.getD_eq_getD_getElem?,Array.getElem?_setIfInBounds_self];simp[h]
theorem W5 (a:Act) (d:Option Nat) (u:Value):(a.put d u).tmps.size=a.tmps.size:=by
 cases d<;>simp[Act.put]
theorem W1 {a:Act} (d:Option Nat) (u:Value) (h:a.defers=[]):(a.put d u).defers=[]:=by
 cases d<;>exact h
theorem aa0 {o:Oper} {a:Act} {T:List AV} {L:List (Nat×List AV)} {H:List Blk} {v:AV} {E:Env} (av:SimH E H) (bC:SimL E L) (aG:rk o=true) (ag: ∀d,o.dst=some d→E.mL d=none) (h:lR P o (b6 T) L H (fun r=>r=v)):
  ∃t u E',V3 E' v u∧o.dst=some t∧Step E E'∧SimH E' H∧SimL E' L∧(∀s,s≠t→E'.mL s=E.mL s)∧True∧ ∀(next:Act→World→Prop) Q,next (a.put o.dst u) E'.w→o.wp P a E.w next Q:=by
 obtain⟨dst,op,ty,pos,after,guard⟩:=o
 cases op
 all_goals try (cases aG;done)
 rename_i e
 obtain⟨z,aB,h⟩:=fs (show PU P e dst L (fun r=>r=v) from h)
 obtain⟨t,a6,h⟩:=fs h
 obtain⟨c,hc,h⟩:=fs h
 obtain⟨hs,h⟩:=rn h
 obtain⟨U,bQ⟩:=rn h
 have bQ:AV.fp t 0=v:=bQ
 clear h
 subst bQ
 have U:=aaB U
 subst U
 obtain⟨i,yz,q1,q2,q3,q4⟩:=yy (E:=E) aB
 obtain⟨E',aW,e2,cF,iA,hO,_,nI⟩:=V_ (ty:=e) av bC (ou.alloc E.w (.cells yz.cells e (0,0))) hc (ag t a6) (O9 hs q4)
 refine⟨t,_,E',hO,a6,e2,cF,iA,nI,trivial,fun next Q hk=> ?_⟩
 unfold Oper.wp
 rw[show execOp a.eval ⟨dst,.alloc e,ty,pos,after,guard⟩=(do pure (Next.value (←Instr.alloc e true (.tuple #[])))) from rfl]
 refine Pt (w':=E'.w) ?_ hk
 rw[aW]
 simp[Instr.alloc,zeroValue,typeInfo,q1,q2,newVar,newRow]
theorem acC [cl] (D:Ek ops ord A): ∀(fuel:Nat) (S:Array Bool) (a:Act) (w:World) (pre post:List Item) (E:Env) (T:List AV) (L:List (Nat×List AV)) (H:List Blk),
  S.size=ops.size→left ops.size S=fuel→H2 ops S→PK P esc ops ord Q b_ S a w pre post E T L H→wpAny P .any ops (ow b_ Q) fuel S a w:=by
 have fin: ∀(S:Array Bool) (a:Act) (w:World) (pre post:List Item) (E:Env) (T:List AV) (L:List (Nat×List AV)) (H:List Blk),(∀i,i<ops.size→S.getD i false=true)→PK P esc ops ord Q b_ S a w pre post E T L H→ow b_ Q .normal a w:=by
  intro S a w pre post E T L H dS I
  have ae:post=[]:=by
   cases post with
   | nil=>rfl
   | cons x r=>
    have h1:=I.Eb x (List.mem_cons_self ..)
    rw[dS x.i (D.lt x (by rw[I.rm];simp))] at h1;cases h1
  subst ae
  refine⟨rfl,⟨T,L,H⟩,E,I.tf,I.w,I.nL,⟨I.h,I.l,fun t=> ?_,I.size⟩,I.IQ⟩
  rcases I.iI t with⟨x,hx,hu,_⟩ | h
  ·rw[dS x.i (D.lt x (by rw[I.rm];simp[hx]))] at hu;cases hu
  ·exact h
 intro fuel
 induction fuel with
 | zero=>
  intro S a w pre post E T L H hs hf hc I
  have dS:=aiV hf
  refine⟨?_,fin S a w pre post E T L H dS I⟩
  cases ao:Region.ready .any ops S with
  | nil=>rfl
  | cons i l=>
   have:=Xj hs (i:=i) (by rw[ao];exact List.mem_cons_self ..)
   rw[dS i this.1] at this;cases this.2.1
 | succ fuel br=>
  intro S a w pre post E T L H hs hf hc I
  refine⟨fun ao=>fin S a w pre post E T L H (akl D hs ao) I,fun i hi=> ?_⟩
  obtain⟨aQ,sh,u9⟩:=Xj hs hi
  have JJ:=aa3 D hs hc i _ (ub aQ) u9
  have RV:(S.setIfInBounds i true).size=ops.size:=by simpa using hs
  have FA:left ops.size (S.setIfInBounds i true)=fuel:=by have:=aiU hs aQ sh;omega
  have li:H2 ops (S.setIfInBounds i true):=by
   intro j o ai al e he hb
   rw[B9] at al ⊢
   by_cases mX:i=j
   ·subst mX
    have:o=opI ops i:=by rw[ub aQ] at ai;exact(Option.some.inj ai).symm
    subst this
    split
    ·rfl
    ·exact u9 e he hb
   ·rw[if_neg fun q=>mX q.1] at al
    split
    ·rfl
    ·exact hc j o ai al e he hb
  have Nd: ∀j,(S.setIfInBounds i true).getD j false=false→S.getD j false=false∧j≠i:=fun j al=>by
   rw[B9] at al
   split at al
   ·cases al
   ·rename_i q;exact⟨al,fun e=>q ⟨e.symm,by omega⟩⟩
  have DE: ∀j,j≠i→S.getD j false=false→(S.setIfInBounds i true).getD j false=false:=fun j al h=>by
   rw[B9,if_neg fun q=>al q.1.symm];exact h
  obtain⟨y,bi,na⟩:=D.all i aQ
  subst na
  have na:y.i=y.i:=rfl
  let ds:List Nat:=(pre.filter fun x=> !S.getD x.i false).filterMap fun x=>(opI ops x.i).dst
  have JT: ∀t,t∈ds↔ ∃x∈pre,S.getD x.i false=false∧(opI ops x.i).dst=some t:=fun t=>by
   simp only[ds,List.mem_filterMap,List.mem_filter,Bool.not_eq_true']
   constructor
   ·rintro⟨x,⟨h1,h2⟩,au⟩;exact⟨x,h1,h2,au⟩
   ·rintro⟨x,h1,h2,au⟩;exact⟨x,⟨h1,h2⟩,au⟩
  have b7: ∀t,V3 E ((w4 ds T).getD t .undef) (a.tmps.getD t undef):=fun t=>by
   by_cases h:t∈ds
   ·rw[(FE ds T t).1 h];exact V3.undef _ _
   ·rw[(FE ds T t).2 h]
    exact(I.iI t).resolve_left fun q=>h ((JT t).2 q)
  have Cq: ∀t∈(opI ops y.i).looksAt ops,t ∉ ds:=fun t a6 hm=>by
   obtain⟨x,hx,hu,aV⟩:=(JT t).1 hm
   have:=JJ x.i (by rw[←na];rw[←na] at a6;exact D.anv y bi t a6 x (by rw[I.rm];simp[hx]) aV)
   rw[this] at hu;cases hu
  have SP: ∀t∈(opI ops y.i).looksAt ops,V3 E (T.getD t .undef) (a.tmps.getD t undef):=fun t a6=>(I.iI t).resolve_left fun q=>Cq t a6 ((JT t).2 q)
  have RZ: ∀t∈(opI ops y.i).looksAt ops,(w4 ds T).getD t .undef=T.getD t .undef:=fun t a6=>(FE ds T t).2 (Cq t a6)
  have PT: ∀E':Env,(∀t,(opI ops y.i).dst≠some t→E'.mL t=E.mL t)→ ∀x∈ord,(S.setIfInBounds y.i true).getD x.i false=false→rk (opI ops x.i)=true→x.q=true→ ∀d,(opI ops x.i).dst=some d→E'.mL d=none:=fun E' hml x hx hu aG afV d aV=>by
   obtain⟨vb,zC⟩:=Nd _ hu
   rw[hml d (D.apart.inj x hx y bi zC d aV)]
   exact I.bq x hx vb aG afV d aV
  unfold wpOp
  rw[ub aQ]
  simp only
  have u6:y∈pre∨y∈post:=by rw[I.rm] at bi;exact List.mem_append.1 bi
  rcases u6 with xe | xe
  ·
   obtain⟨U,v,run,F⟩:=I.facts y xe (by rw[na];exact sh)
   rw[na] at F
   have hw:=F.dc E a SP I.size
   have next: ∀(u:Value) (E':Env),Step E E'→SimH E' H→SimL E' L→(∀t,(opI ops y.i).dst≠some t→E'.mL t=E.mL t)→V3 E' v u→wpAny P .any ops (ow b_ Q) fuel (S.setIfInBounds y.i true) (a.put (opI ops y.i).dst u) E'.w:=fun u E' aS tB tC hml hv=>by
    refine br _ _ _ pre post E' T L H RV FA li ⟨I.rm,fun x hx=>DE _ (fun e=> ?_) (I.Eb x hx),I.head,I.tf,fun x hx hu=>I.facts x hx (Nd _ hu).1,fun t=> ?_,by rw[W5];exact I.size,tB,tC,I.nL.step aS,PT E' hml,W1 _ _ I.IQ,rfl⟩
    ·have mZ:=D.nodup
     rw[I.rm,List.map_append,List.nodup_append] at mZ
     exact mZ.2.2 y.i (List.mem_map_of_mem xe) x.i (List.mem_map_of_mem hx) (by rw[na,e])
    ·by_cases aV:(opI ops y.i).dst=some t
     ·right
      rw[aV]
      by_cases aw:t<T.length
      ·rw[F.put t aV aw,W4 (by rw[←I.size];exact aw)];exact hv
      ·rw[List.getD_eq_getElem?_getD,List.getElem?_eq_none (Nat.not_lt.1 aw)];exact V3.undef _ _
     ·rcases I.iI t with⟨x,hx,hu,CG⟩ | h
      ·exact .inl ⟨x,hx,DE _ (fun e=>aV (by rw[←e];exact CG)) hu,CG⟩
      ·right;rw[W2 aV];exact h.le aS.le
   cases run with
   | true=>
    rw[if_pos hw]
    refine .inl ?_
    have tv:=F.s3 rfl
    cases JI:rk (opI ops y.i) with
    | true=>
     obtain⟨t,u,E',hv,aeV,q1,q2,q3,q4,_,cD⟩:=aa0 (P:=P) (a:=a) I.h I.l JI (fun t a6=>I.bq y bi (by rw[na];exact sh) JI U t a6) tv
     rw[←I.w]
     exact cD _ _ (next u E' q1 q2 q3 (fun s hs=>q4 s fun e=>hs (by rw[aeV,e])) hv)
    | false=>
    rw[y_ JI,←Q7 (GP RZ)] at tv
    rw[←I.w]
    refine Oper.wp_mono (fun ib w' ⟨eu,u,E',he,eI,hqt,hv,aG⟩=> ?_) (Q9 b7 (Sub.refl L H) I.h I.l (E_ tv))
    subst he;subst eI;subst aG
    exact next u E' hqt.step (hqt.simH I.h) (hqt.simL I.h I.l) (fun t _=>by rw[hqt.mL]) hv
   | false=>
    rw[if_neg (by rw[hw];simp)]
    have hv:=F.no rfl
    subst hv
    rw[←I.w]
    exact next undef E (Step.refl E) I.h I.l (fun _ _=>rfl) ⟨[],rfl,af.nil⟩
  ·
   have kD: ∃r,post=y::r:=by
    cases ae:post with
    | nil=>rw[ae] at xe;cases xe
    | cons x r=>
     rw[ae] at xe
     rcases List.mem_cons.1 xe with rfl | afY
     ·exact⟨r,rfl⟩
     ·have hb:=D.lP
      rw[I.rm,ae] at hb
      have:=(hb.at (I.head x r ae)).1 y afY
      rw[na] at this
      have h1:=JJ x.i this
      rw[I.Eb x (by rw[ae];exact List.mem_cons_self ..)] at h1;cases h1
   obtain⟨r,afz⟩:=kD
   subst afz
   have U:=I.head y r rfl
   have tv:=I.tf
   obtain⟨hy,run,q_,mn,hw,fa⟩:=Rz (P:=P) tv
   have hw:=hw E a SP I.size
   have JK:=D.apart
   rw[I.rm] at JK
   have Sx:=ma.later JK
   have aeJ:=(show wu A [] (pre++y::r) from I.rm▸D.lP).at U
   have mZ:=D.nodup
   rw[I.rm,List.map_append,List.map_cons,List.nodup_append,List.nodup_cons] at mZ
   have afw: ∀x∈pre,S.getD x.i false=false→x.i∈y.jV:=fun x hx hu=>by
    rcases aeJ.2 x (by simpa using hx) with h | h
    ·rw[na] at h
     have:=JJ x.i h
     rw[hu] at this;cases this
    ·exact h

   have next: ∀(v:AV) (u:Value) (L':List (Nat×List AV)) (H':List Blk) (E':Env),Step E E'→SimH E' H'→SimL E' L'→(∀t,(opI ops y.i).dst≠some t→E'.mL t=E.mL t)→V3 E' v u→ku P esc ops r (putA hy (opI ops y.i).dst v) L' H' (fun T L H=>Q .normal ⟨T,L,H⟩)→
     (∀x∈pre,S.getD x.i false=false→ ∃v run,yE P ops L' H' hy (opI ops x.i) v run)→
     wpAny P .any ops (ow b_ Q) fuel (S.setIfInBounds y.i true) (a.put (opI ops y.i).dst u) E'.w:=by
    intro v u L' H' E' aS av bC hml hv hK ae2
    obtain⟨Mx,aj1,p0,Kc,afu,afy,aeY,hlen,gY,Cl⟩:=M9 r _ (ma.tail (p:=[y]) (ma.tail JK)) hK
    have Kd: ∀z∈Mx,z∈r:=fun z aB=>by rw[Kc];exact List.mem_append_left _ aB
    have RW: ∀t,(∀z∈y::r,(opI ops z.i).dst≠some t)→p0.getD t .undef=hy.getD t .undef:=fun t a6=>by
     rw[gY t fun z aB=>a6 z (List.mem_cons_of_mem _ (Kd z aB)),GZ (a6 y (List.mem_cons_self ..))]
    refine br _ _ _ (pre++y::Mx) aj1 E' p0 L' H' RV FA li ⟨by rw[I.rm,Kc];simp,fun x hx=> ?_,afy,aeY,fun x hx hu=> ?_,fun t=> ?_,by rw[W5,hlen,Av,q_];exact I.size,av,bC,I.nL.step aS,PT E' hml,W1 _ _ I.IQ,rfl⟩
    ·have F0:x∈r:=by rw[Kc];exact List.mem_append_right _ hx
     exact DE _ (fun e=>mZ.2.1.1 (by rw[na,←e];exact List.mem_map_of_mem F0)) (I.Eb x (List.mem_cons_of_mem _ F0))
    ·obtain⟨vb,zC⟩:=Nd _ hu
     rcases List.mem_append.1 hx with hx | hx
     ·refine⟨(I.facts x hx vb).1,?_⟩
      obtain⟨eu,run',F⟩:=ae2 x hx vb
      refine⟨eu,run',F.mono (by rw[hlen,Av]) (fun t a6=>RW t fun z aB=>(Sx x hx).1 t a6 z aB) fun d aV=>RW d fun z aB=>(Sx x hx).2 d aV z aB⟩
     ·rcases List.mem_cons.1 hx with rfl | hx
      ·exact absurd na zC
      ·exact⟨afu x hx,Cl x hx⟩
    ·by_cases w1: ∃z∈Mx,(opI ops z.i).dst=some t
     ·obtain⟨z,aB,re⟩:=w1
      refine .inl ⟨z,by simp[aB],DE _ (fun e=>mZ.2.1.1 (by rw[na,←e];exact List.mem_map_of_mem (Kd z aB))) (I.Eb z (List.mem_cons_of_mem _ (Kd z aB))),re⟩
     ·have aW:=gY t fun z aB q=>w1 ⟨z,aB,q⟩
      by_cases aV:(opI ops y.i).dst=some t
      ·right
       rw[na] at aV aW
       rw[aW,aV]
       by_cases aw:t<hy.length
       ·rw[WY aw,W4 (by rw[←I.size,←q_];exact aw)];exact hv
       ·rw[List.getD_eq_getElem?_getD,List.getElem?_eq_none (by rw[Av];exact Nat.not_lt.1 aw)];exact V3.undef _ _
      ·rw[GZ aV,mn] at aW
       rcases I.iI t with⟨x,hx,hu,CG⟩ | h
       ·refine .inl ⟨x,by simp[hx],DE _ (fun e=>aV (by rw[na,←e];exact CG)) hu,CG⟩
       ·right;rw[aW,W2 (by rw[←na];exact aV)];exact h.le aS.le
   cases run with
   | true=>
    rw[if_pos hw]
    refine .inl ?_
    have fa:(match y.q with
     | true=>_
     | false=>kt P esc (opI ops y.i) (b6 hy) L H fun v L' H'=>tl P ops y.jV hy L' H'∧ku P esc ops r (putA hy (opI ops y.i).dst v) L' H' (fun T L H=>Q .normal ⟨T,L,H⟩)):=fa
    rw[U] at fa
    have fa:kt P esc (opI ops y.i) (b6 hy) L H fun v L' H'=>tl P ops y.jV hy L' H'∧ku P esc ops r (putA hy (opI ops y.i).dst v) L' H' (fun T L H=>Q .normal ⟨T,L,H⟩):=fa
    rw[←acX (GP fun t a6=>(RZ t a6).trans (mn t).symm)] at fa
    rw[←I.w]
    refine Oper.wp_mono (fun ib w' ⟨v,u,L',H',E',⟨q6,hK⟩,eI,q1,q2,q3,q4,aG,hml⟩=> ?_) (evOp_sound b7 I.h I.l fa)
    subst eI;subst aG
    refine next v u L' H' E' q1 q2 q3 hml q4 hK fun x hx hu=> ?_
    obtain⟨f1,f2,f3⟩:=Rl q6 x.i (afw x hx hu)
    refine⟨_,true,⟨fun E a hs aB=> ?_,fun _=>f3,fun e=>(by cases e),fun d aV aQ=> ?_⟩⟩
    ·unfold Region.wanted
     cases Cm:(opI ops x.i).guard with
     | none=>rfl
     | some g=>rw[Cm] at f1;cases f1
    ·unfold uS;rw[aV]
   | false=>
    rw[if_neg (by rw[hw];simp)]
    rw[←I.w]
    refine next (.tup []) undef L H E (Step.refl E) I.h I.l (fun _ _=>rfl) ⟨[],rfl,af.nil⟩ fa fun x hx hu=> ?_
    obtain⟨_,eu,run',F⟩:=I.facts x hx hu
    exact⟨eu,run',F.mono q_ (fun t _=>mn t) fun d _=>mn d⟩
end
def Ez (ops:Array Oper):List Item→Bool
 | []=>true
 | x::r=>((opI ops x.i).looksAt ops).all (fun t=>(x::r).all fun y=>(opI ops y.i).dst !=some t)&&(match(opI ops x.i).dst with
  | some d=>r.all fun y=>(opI ops y.i).dst !=some d
  | none=>true)&&Ez ops r
theorem P6 {ops:Array Oper}: ∀{l:List Item},Ez ops l=true→ma ops l
 | [],_=>trivial
 | x::r,h=>by
  simp only[Ez,Bool.and_eq_true] at h
  obtain⟨⟨h1,h2⟩,au⟩:=h
  refine⟨fun t a6 y bi=> ?_,fun d aV y bi=> ?_,P6 au⟩
  ·have:=List.all_eq_true.1 (List.all_eq_true.1 h1 t a6) y bi
   simpa using this
  ·rw[aV] at h2
   have:=List.all_eq_true.1 h2 y bi
   simpa using this
def ED (A:Nat→List Nat):List Item→List Item→Bool
 | _,[]=>true
 | p,h::r=>(h.q || (r.all (fun y=>(A y.i).contains h.i)&&p.all fun x=>(A h.i).contains x.i || h.jV.contains x.i))&&ED A (p++[h]) r
theorem P_ {A:Nat→List Nat}: ∀{l p:List Item},ED A p l=true→wu A p l
 | [],_,_=>trivial
 | h::r,p,hb=>by
  simp only[ED,Bool.and_eq_true] at hb
  refine⟨fun U=> ?_,P_ hb.2⟩
  have h1:=hb.1
  rw[U,Bool.false_or,Bool.and_eq_true] at h1
  refine⟨fun y bi=>by simpa using List.all_eq_true.1 h1.1 y bi,fun x hx=> ?_⟩
  have:=List.all_eq_true.1 h1.2 x hx
  simpa using this
def GG:List Nat→Bool
 | []=>true
 | x::r=> !r.contains x&&GG r
theorem We: ∀{l:List Nat},GG l=true→l.Nodup
 | [],_=>List.nodup_nil
 | x::r,h=>by
  simp only[GG,Bool.and_eq_true] at h
  rw[List.nodup_cons]
  exact⟨by simpa using h.1,We h.2⟩
def y3 (ops:Array Oper) (ord:List Item) (A:Nat→List Nat):Bool:=
 (List.range ops.size).all (fun i=>(opI ops i).after.toList.all (fun e=> !Region.binds .any e || decide (e.on<i))&&(A i).all fun a=>(opI ops i).after.toList.any fun e=>Region.binds .any e&&(a==e.on || (A e.on).contains a))&&
 (List.range ops.size).all (fun i=>ord.any fun x=>x.i==i)&&ord.all (fun x=>decide (x.i<ops.size))&&GG (ord.map (·.i))&&
 ord.all (fun x=>((opI ops x.i).looksAt ops).all fun t=>ord.all fun y=>(opI ops y.i).dst !=some t || (A x.i).contains y.i)&&Ez ops ord&&ED A [] ord
theorem acD {ops:Array Oper} {ord:List Item} {A:Nat→List Nat} (fk: ∀i,ops.size≤i→A i=[]) (h:y3 ops ord A=true):Ek ops ord A:=by
 simp only[y3,Bool.and_eq_true] at h
 obtain⟨⟨⟨⟨⟨⟨h1,h2⟩,au⟩,a8⟩,bQ⟩,cv⟩,gO⟩:=h
 have get: ∀i o,ops[i]?=some o→i<ops.size∧o=opI ops i:=fun i o ai=>by
  have aQ:i<ops.size:=by
   rcases Nat.lt_or_ge i ops.size with h | h
   ·exact h
   ·rw[Array.getElem?_eq_none h] at ai;cases ai
  rw[ub aQ] at ai
  exact⟨aQ,(Option.some.inj ai).symm⟩
 refine⟨fun i o ai e he hb=> ?_,fun i o ai a aG=> ?_,fun i hi=> ?_,fun x hx=> ?_,We a8,fun x hx t a6 y bi aV=> ?_,P6 cv,P_ gO⟩
 ·obtain⟨aQ,rfl⟩:=get i o ai
  have:=List.all_eq_true.1 h1 i (List.mem_range.2 aQ)
  rw[Bool.and_eq_true] at this
  have:=List.all_eq_true.1 this.1 e (by simpa using he)
  rw[hb] at this;simpa using this
 ·obtain⟨aQ,rfl⟩:=get i o ai
  have:=List.all_eq_true.1 h1 i (List.mem_range.2 aQ)
  rw[Bool.and_eq_true] at this
  have:=List.all_eq_true.1 this.2 a aG
  obtain⟨e,he,hc⟩:=List.any_eq_true.1 this
  rw[Bool.and_eq_true] at hc
  exact⟨e,by simpa using he,hc.1,by simpa using hc.2⟩
 ·obtain⟨x,hx,hc⟩:=List.any_eq_true.1 (List.all_eq_true.1 h2 i (List.mem_range.2 hi))
  exact⟨x,hx,by simpa using hc⟩
 ·simpa using List.all_eq_true.1 au x hx
 ·have:=List.all_eq_true.1 (List.all_eq_true.1 (List.all_eq_true.1 bQ x hx) t a6) y bi
  rw[Bool.or_eq_true] at this
  rcases this with h | h
  ·rw[aV] at h;simp at h
  ·simpa using h
def BO (km:List (List Nat)) (i:Nat):List Nat:=km.getD i []
theorem Env.QO (E:Env):Step E {E with w:=E.w.drew}:=
 ⟨⟨fun _ h=>h,fun _ h=>h,fun _ _=>rfl,fun _ _=>rfl,fun _=>Nat.le_refl _,fun _ _ h _=>⟨h,rfl,rfl⟩,fun _ _ h=>h⟩,rfl,rfl,rfl,Nat.le_refl _,fun _ _ _ _=>rfl,fun _ _ h=> .inl h,fun _ h=> .inl h,fun _ h=> .inl h,fun _ h=> .inl h⟩
theorem acG {E:Env} {H:List Blk} (h:SimH E H):SimH {E with w:=E.w.drew} H:=
 {h with
  heap:=fun b c hb=>by
   obtain⟨blk,ay,ty,q1,cH,q2,q3,q4,cs,cD⟩:=h.heap b c hb
   exact⟨blk,ay,ty,q1,cH,q2,q3,q4,cs,fun i j row a ao al=>by obtain⟨u,hu,hv⟩:=cD i j row a ao al;exact⟨u,hu,hv.le (Env.QO E).le.bL⟩⟩}
theorem aiT (n:Nat):left n (Array.replicate n false)=n:=by
 unfold left
 have:(List.range n).countP (fun j=> !(Array.replicate n false).getD j false)=(List.range n).countP (fun _=>true):=by
  refine List.countP_congr fun x hx=> ?_
  rw[Array.getD_eq_getD_getElem?,Array.getElem?_replicate]
  split<;>simp
 rw[this,List.countP_true,List.length_range]
def wP:List (Nat×List AV)→List (Nat×List AV)→Bool
 | [],_=>true
 | (t,_)::r,L=>(eB L t).isNone&&wP r L
def wE (ops:Array Oper) (L:List (Nat×List AV)):List Item→Bool
 | []=>true
 | x::r=>(match x.q&&rk (opI ops x.i) with
  | false=>true
  | true=>match(opI ops x.i).dst with
   | none=>true
   | some d=>(eB L d).isNone)&&wE ops L r
theorem Rq {E:Env} {L:List (Nat×List AV)} (bC:SimL E L): ∀{iL:List (Nat×List AV)},wP iL L=true→SimL E (iL++L)
 | [],_=>bC
 | (t,c)::r,h=>by
  simp only[wP,Bool.and_eq_true,Option.isNone_iff_eq_none] at h
  exact(Rq bC h.2).cons (bC.none h.1)
theorem PV {ops:Array Oper} {E:Env} {L:List (Nat×List AV)} (bC:SimL E L): ∀{l:List Item},wE ops L l=true→ ∀x∈l,rk (opI ops x.i)=true→x.q=true→ ∀d,(opI ops x.i).dst=some d→E.mL d=none
 | [],_,x,hx,_,_,_,_=>by cases hx
 | y::r,h,x,hx,aG,U,d,aV=>by
  simp only[wE,Bool.and_eq_true] at h
  rcases List.mem_cons.1 hx with rfl | hx
  ·have h1:=h.1
   rw[U,aG] at h1
   simp only[Bool.and_self] at h1
   rw[aV] at h1
   exact bC.none (by simpa using h1)
  ·exact PV bC h.2 x hx aG U d aV
theorem WpS.Xp [cl] {P:Program} {esc:List Nat} {c:Code} {id:Nat} {ops:Array Oper} {Q:Exit→St→Prop} {T:List AV} {L:List (Nat×List AV)} {H:List Blk} (ord:List Item) (km:List (List Nat)) (hm:P.follows .mixedOrders=true)
  (aw:km.length=ops.size) (aV:y3 ops ord (BO km)=true) (e:c= .region id ops true) (iL:List (Nat×List AV)) (hf:wP iL L=true) (aB:wE ops L ord=true) (h:ku P esc ops ord T (iL++L) H (fun T L H=>Q .normal ⟨T,L,H⟩)):WpS P c Q ⟨T,L,H⟩:=by
 subst e
 intro b_ E a g s d
 have D:=acD (fun i hi=>by unfold BO;rw[List.getD_eq_getElem?_getD,List.getElem?_eq_none (by omega)];rfl) aV
 refine wp_region_any hm ?_
 obtain⟨pre,post,p0,ao,ae,afx,tv,hlen,gY,Cl⟩:=M9 ord T D.apart h
 have sh: ∀j,(Array.replicate ops.size false).getD j false=false:=fun j=>by
  rw[Array.getD_eq_getD_getElem?,Array.getElem?_replicate];split<;>rfl
 have aS:=Env.QO E
 have hw:(show World from{E.w with drawn:=E.w.drawn+1})=({E with w:=E.w.drew}:Env).w:=rfl
 refine acC D ops.size _ a _ pre post {E with w:=E.w.drew} p0 (iL++L) H (by simp) (aiT _) (fun i o ai al=> ?_) ⟨ao,fun x hx=>sh _,afx,tv,fun x hx _=>⟨ae x hx,Cl x hx⟩,fun t=> ?_,by rw[hlen];exact s.size,acG s.h,Rq ?_ hf,g.step aS,fun x hx _ aG U d aV=>PV s.l aB x hx aG U d aV,d,rfl⟩
 ·rw[sh] at al;cases al
 ·by_cases w1: ∃z∈pre,(opI ops z.i).dst=some t
  ·obtain⟨z,aB,re⟩:=w1
   exact .inl ⟨z,aB,sh _,re⟩
  ·right
   rw[gY t fun z aB q=>w1 ⟨z,aB,q⟩]
   exact(s.iI t).le aS.le
 ·intro t c hm
  obtain⟨cells,ay,ty,q1,q2,q3⟩:=s.l t c hm
  exact⟨cells,ay,ty,q1,q2,q3.mono fun _ _ k=>k.le aS.le.bL⟩
theorem vz {φ ψ:Prop} (e:φ=ψ) (h:ψ):φ:=e▸h
def C5 (ops:Array Oper):List (Oper×Bool):=ops.toList.map fun o=>(o,true)
theorem WpS.Xq [cl] {P:Program} {esc:List Nat} {c:Code} {id:Nat} {ops:Array Oper} {Q:Exit→St→Prop} {T:List AV} {L:List (Nat×List AV)} {H:List Blk} (e:c= .region id ops false)
  (h:evOps P esc ops (C5 ops) T L H (fun T L H=>Q .normal ⟨T,L,H⟩)):WpS P c Q ⟨T,L,H⟩:=by
 subst e
 intro b_ E a g s d
 refine wp_region_list ?_
 have:=E9 (C5 ops) T L H E a g s d h
 have e2:(C5 ops).map (·.1)=ops.toList:=by
  unfold C5;rw[List.map_map];exact List.map_id' _
 rwa [e2] at this
def gd:List (Nat×AV)→Nat→AV
 | [],_=> .undef
 | (k,v)::r,t=>match Nat.beq k t with
  | true=>v
  | false=>gd r t
def mj:List (Nat×AV)→Nat→List (Nat×AV)
 | [],_=>[]
 | (k,v)::r,t=>match Nat.beq k t with
  | true=>mj r t
  | false=>(k,v)::mj r t
def eJ (n:Nat):List (Nat×AV)→Bool
 | []=>true
 | (k,_)::r=>match Nat.blt k n with
  | true=>eJ n r
  | false=>false
@[irreducible] def bd (n:Nat) (A:List (Nat×AV)):List AV:=(List.range n).map (gd A)
def pI (n:Nat) (A:List (Nat×AV)) (dst:Option Nat) (v:AV):List (Nat×AV):=match dst with
 | none=>A
 | some d=>match Nat.blt d n with
  | true=>(d,v)::mj A d
  | false=>A
def rp (A:List (Nat×AV)):Operand→AV
 | .tmp t=>gd A t
 | .const v=>p6 v
 | .func f=> .fn f []
 | .global _=> .undef
theorem ajd (A:List (Nat×AV)) (d t:Nat):gd (mj A d) t=if d=t then .undef else gd A t:=by
 induction A with
 | nil=>simp[mj,gd]
 | cons p r br=>
  obtain⟨k,v⟩:=p
  have FM:gd ((k,v)::r) t=match Nat.beq k t with
   | true=>v
   | false=>gd r t:=rfl
  rw[FM]
  cases h1:Nat.beq k d with
  | true=>
   have aW:=Nat.eq_of_beq_eq_true h1
   rw[show mj ((k,v)::r) d=mj r d by simp[mj,h1],br]
   subst aW
   cases h2:Nat.beq k t with
   | true=>have e2:=Nat.eq_of_beq_eq_true h2;simp[e2]
   | false=>rfl
  | false=>
   rw[show mj ((k,v)::r) d=(k,v)::mj r d by simp[mj,h1],show gd ((k,v)::mj r d) t=match Nat.beq k t with
    | true=>v
    | false=>gd (mj r d) t from rfl]
   cases h2:Nat.beq k t with
   | true=>
    have e2:=Nat.eq_of_beq_eq_true h2
    have: ¬d=t:=fun e=>by subst e;subst e2;rw[Nat.beq_refl] at h1;cases h1
    simp[this]
   | false=>simp only;rw[br]
theorem VS {n:Nat}: ∀{A:List (Nat×AV)} {t:Nat},eJ n A=true→n≤t→gd A t= .undef
 | [],t,_,_=>rfl
 | (k,v)::r,t,h,a6=>by
  unfold eJ at h
  split at h
  ·rename_i hk
   have hk:k<n:=by rw[←Nat.blt_eq];exact hk
   unfold gd
   cases h2:Nat.beq k t with
   | true=>have:=Nat.eq_of_beq_eq_true h2;omega
   | false=>exact VS h a6
  ·cases h
theorem L_ {n d:Nat}: ∀{A:List (Nat×AV)},eJ n A=true→eJ n (mj A d)=true
 | [],h=>rfl
 | (k,v)::r,h=>by
  unfold eJ at h
  split at h
  ·rename_i hk
   unfold mj
   split
   ·exact L_ h
   ·unfold eJ;rw[hk];exact L_ h
  ·cases h
theorem Ma {n:Nat} {A:List (Nat×AV)} (h:eJ n A=true) (dst:Option Nat) (v:AV):eJ n (pI n A dst v)=true:=by
 unfold pI
 split
 ·exact h
 ·split
  ·rename_i aV;unfold eJ;rw[aV];exact L_ h
  ·exact h
theorem vu (n:Nat) (A:List (Nat×AV)):(bd n A).length=n:=by unfold bd;simp
theorem sB {n:Nat} {A:List (Nat×AV)} (h:eJ n A=true) (t:Nat):(bd n A).getD t .undef=gd A t:=by
 unfold bd
 rw[List.getD_eq_getElem?_getD,List.getElem?_map]
 rcases Nat.lt_or_ge t n with aQ | f_
 ·rw[List.getElem?_range aQ];rfl
 ·rw[List.getElem?_eq_none (by simpa using f_),VS h f_];rfl
theorem Mc {n:Nat} {A:List (Nat×AV)} (dst:Option Nat) (v:AV):putA (bd n A) dst v=bd n (pI n A dst v):=by
 cases dst with
 | none=>rfl
 | some d=>
  show(bd n A).set d v=bd n (match Nat.blt d n with
   | true=>(d,v)::mj A d
   | false=>A)
  cases aV:Nat.blt d n with
  | true=>
   apply List.ext_getElem?
   intro t
   unfold bd
   rw[List.getElem?_set]
   simp only[List.length_map,List.length_range,List.getElem?_map]
   rcases Nat.lt_or_ge t n with aQ | f_
   ·rw[List.getElem?_range aQ]
    by_cases he:d=t
    ·subst he;simp[aQ,gd]
    ·have hb:Nat.beq d t=false:=by
      cases U:Nat.beq d t with
      | true=>exact absurd (Nat.eq_of_beq_eq_true U) he
      | false=>rfl
     simp[he,gd,hb,ajd]
   ·rw[List.getElem?_eq_none (l:=List.range n) (by simpa using f_)]
    by_cases he:d=t
    ·subst he;simp[Nat.not_lt.2 f_]
    ·simp[he]
  | false=>
   have: ¬d<n:=fun h=>by rw[←Nat.blt_eq,aV] at h;cases h
   exact List.set_eq_of_length_le (by rw[vu];omega)
theorem GA {n:Nat} {A:List (Nat×AV)} (h:eJ n A=true):b6 (bd n A)=rp A:=by
 funext o
 cases o with
 | tmp t=>exact sB h t
 | _=>rfl
theorem V0 {n:Nat} {A:List (Nat×AV)} (h:eJ n A=true) {t:Nat} {b:Bool} (hb:gd A t= .bool b):(bd n A).set t (.bool b)=bd n A:=by
 apply List.ext_getElem?
 intro s
 rw[List.getElem?_set]
 by_cases he:t=s
 ·subst he
  rw[if_pos rfl]
  rcases Nat.lt_or_ge t n with aQ | f_
  ·rw[if_pos (by rw[vu];exact aQ)]
   unfold bd
   rw[List.getElem?_map,List.getElem?_range aQ]
   show _=some (gd A t)
   rw[hb]
  ·rw[if_neg (by rw[vu];omega),List.getElem?_eq_none (by rw[vu];omega)]
 ·rw[if_neg he]
def uX (ops:Array Oper) (o:Oper) (A:List (Nat×AV)) (x y:Prop):Prop:=match o.guard with
 | none=>x
 | some (j,dc)=>match(ops[j]?).bind (·.dst) with
  | none=>False
  | some t=>match gd A t with
   | .bool b=>(match b with
    | true=>(match dc with
     | true=>x
     | false=>y)
    | false=>(match dc with
     | true=>y
     | false=>x))
   | .tup []=>y
   | _=>False
theorem Rx {ops:Array Oper} {o:Oper} {n:Nat} {A:List (Nat×AV)} (h:eJ n A=true) {x y:List AV→Prop}:pu ops true o (bd n A) x y=uX ops o A (x (bd n A)) (y (bd n A)):=by
 unfold pu uX
 cases o.guard with
 | none=>rfl
 | some g=>
  obtain⟨j,dc⟩:=g
  simp only
  cases(ops[j]?).bind (·.dst) with
  | none=>rfl
  | some t=>
   simp only
   rw[sB h t]
   cases hb:gd A t with
   | bool b=>
    cases b with
    | true=>simp only[qO];rw[V0 h hb];cases dc<;>rfl
    | false=>simp only[qO];rw[V0 h hb];cases dc<;>rfl
   | tup l=>cases l<;>rfl
   | _=>rfl
def evS (P:Program) (esc:List Nat) (ops:Array Oper) (n:Nat):List Oper→List (Nat×AV)→List (Nat×List AV)→List Blk→(List (Nat×AV)→List (Nat×List AV)→List Blk→Prop)→Prop
 | [],A,L,H,K=>K A L H
 | o::rest,A,L,H,K=>uX ops o A
   (match o.op with
    | .pick c x y=>p4 (rp A c) fun z=>(match z with
     | true=>evS P esc ops n rest (pI n A o.dst (rp A x)) L H K
     | false=>evS P esc ops n rest (pI n A o.dst (rp A y)) L H K)
    | _=>kt P esc o (rp A) L H fun v L' H'=>evS P esc ops n rest (pI n A o.dst v) L' H' K)
   (evS P esc ops n rest (pI n A o.dst (.tup [])) L H K)
theorem I9 {P:Program} {esc:List Nat} {ops:Array Oper} {n:Nat} {K:List AV→List (Nat×List AV)→List Blk→Prop}: ∀(l:List Oper) (A:List (Nat×AV)) (L:List (Nat×List AV)) (H:List Blk),eJ n A=true→
  evOps P esc ops (l.map fun o=>(o,true)) (bd n A) L H K=evS P esc ops n l A L H fun A L H=>K (bd n A) L H
 | [],A,L,H,h=>rfl
 | o::rest,A,L,H,h=>by
  show pu ops true o (bd n A) _ _=_
  rw[Rx h]
  show uX ops o A _ _=uX ops o A _ _
  have e2:evOps P esc ops (rest.map fun o=>(o,true)) (putA (bd n A) o.dst (.tup [])) L H K=evS P esc ops n rest (pI n A o.dst (.tup [])) L H fun A L H=>K (bd n A) L H:=by
   rw[Mc,I9 rest _ _ _ (Ma h _ _)]
  have I2: ∀v L H,evOps P esc ops (rest.map fun o=>(o,true)) (putA (bd n A) o.dst v) L H K=evS P esc ops n rest (pI n A o.dst v) L H fun A L H=>K (bd n A) L H:=fun v L H=>by
   rw[Mc,I9 rest _ _ _ (Ma h _ _)]
  rw[e2]
  congr 1
  unfold xR
  rw[GA h]
  cases fL:o.op<;>simp only[I2]
  case pick c x y=>
   unfold p4
   cases rp A c<;>first | rfl | (rename_i z;cases z<;>rfl)
theorem WpS.G_ [cl] {P:Program} {esc:List Nat} {c:Code} {id n:Nat} {ops:Array Oper} {Q:Exit→St→Prop} {A:List (Nat×AV)} {L:List (Nat×List AV)} {H:List Blk} (e:c= .region id ops false) (ag:eJ n A=true)
  (h:evS P esc ops n (ops.toList.drop 0) A L H (fun A L H=>Q .normal ⟨bd n A,L,H⟩)):WpS P c Q ⟨bd n A,L,H⟩:=
 WpS.Xq (esc:=esc) e (by unfold C5;rw[I9 _ _ _ _ ag];exact h)
def IW (o:Oper) (A:List (Nat×AV)):AV:=match o.dst with
 | some d=>gd A d
 | none=> .undef
def qU (P:Program) (ops:Array Oper):List Nat→List (Nat×AV)→List (Nat×List AV)→List Blk→Prop
 | [],_,_,_=>True
 | i::r,A,L,H=>((opI ops i).guard.isNone=true∧(opI ops i).dst.isSome=true∧lR P (opI ops i) (rp A) L H (fun v=>v=IW (opI ops i) A))∧qU P ops r A L H
def evSD (P:Program) (esc:List Nat) (ops:Array Oper) (n:Nat):List Item→List (Nat×AV)→List (Nat×List AV)→List Blk→(List (Nat×AV)→List (Nat×List AV)→List Blk→Prop)→Prop
 | [],A,L,H,K=>K A L H
 | x::rest,A,L,H,K=>uX ops (opI ops x.i) A
   (match x.q with
    | true=>lR P (opI ops x.i) (rp A) L H fun v=>evSD P esc ops n rest (pI n A (opI ops x.i).dst v) L H K
    | false=>kt P esc (opI ops x.i) (rp A) L H fun v L' H'=>qU P ops x.jV A L' H'∧evSD P esc ops n rest (pI n A (opI ops x.i).dst v) L' H' K)
   (evSD P esc ops n rest (pI n A (opI ops x.i).dst (.tup [])) L H K)
theorem Rm {P:Program} {ops:Array Oper} {n:Nat} {A:List (Nat×AV)} {L:List (Nat×List AV)} {H:List Blk} (h:eJ n A=true): ∀l:List Nat,tl P ops l (bd n A) L H=qU P ops l A L H
 | []=>rfl
 | i::r=>by
  show(_∧_)=(_∧_)
  rw[Rm h r,GA h]
  have:uS (opI ops i) (bd n A)=IW (opI ops i) A:=by
   unfold uS IW
   cases(opI ops i).dst with
   | none=>rfl
   | some d=>exact sB h d
  rw[this]
theorem Q5 {P:Program} {esc:List Nat} {ops:Array Oper} {n:Nat} {K:List AV→List (Nat×List AV)→List Blk→Prop}: ∀(l:List Item) (A:List (Nat×AV)) (L:List (Nat×List AV)) (H:List Blk),l.all (·.lit)=true→eJ n A=true→
  ku P esc ops l (bd n A) L H K=evSD P esc ops n l A L H fun A L H=>K (bd n A) L H
 | [],A,L,H,aw,h=>rfl
 | x::rest,A,L,H,aw,h=>by
  simp only[List.all_cons,Bool.and_eq_true] at aw
  show pu ops x.lit (opI ops x.i) (bd n A) _ _=_
  rw[aw.1,Rx h]
  show uX ops (opI ops x.i) A _ _=uX ops (opI ops x.i) A _ _
  have I2: ∀v L H,ku P esc ops rest (putA (bd n A) (opI ops x.i).dst v) L H K=evSD P esc ops n rest (pI n A (opI ops x.i).dst v) L H fun A L H=>K (bd n A) L H:=fun v L H=>by
   rw[Mc,Q5 rest _ _ _ aw.2 (Ma h _ _)]
  simp only[I2,GA h,Rm h]
  first
  | done
  | (cases x.q<;>rfl)
theorem WpS.aks [cl] {P:Program} {esc:List Nat} {c:Code} {id n:Nat} {ops:Array Oper} {Q:Exit→St→Prop} {A:List (Nat×AV)} {L:List (Nat×List AV)} {H:List Blk} (ord:List Item) (km:List (List Nat)) (hm:P.follows .mixedOrders=true)
  (aw:km.length=ops.size) (aV:y3 ops ord (BO km)=true) (J5:ord.all (·.lit)=true) (e:c= .region id ops true) (ag:eJ n A=true) (iL:List (Nat×List AV)) (hf:wP iL L=true) (aB:wE ops L ord=true) (h:evSD P esc ops n (ord.drop 0) A (iL++L) H (fun A L H=>Q .normal ⟨bd n A,L,H⟩)):WpS P c Q ⟨bd n A,L,H⟩:=
 WpS.Xp (esc:=esc) ord km hm aw aV e iL hf aB (by rw[Q5 _ _ _ _ J5 ag];exact h)
theorem Weak.iI [cl] {T T':List AV} {L:List (Nat×List AV)} {H:List Blk} (aw:T'.length=T.length) (h: ∀t,T'.getD t .undef=T.getD t .undef∨T'.getD t .undef= .undef):Weak ⟨T,L,H⟩ ⟨T',L,H⟩:=fun b_ E tmps g s=>
 ⟨E,rfl,g,s.h,s.l,fun t=>by
  show V3 E (T'.getD t .undef) _
  rcases h t with e | e<;>rw[e]
  ·exact s.iI t
  ·exact V3.undef _ _,by show T'.length=_;rw[aw];exact s.size⟩
def oS (A:List (Nat×AV)):List (Nat×AV)→List (Nat×AV)
 | []=>[]
 | (k,_)::r=>(k,gd A k)::oS A r
theorem L8 {A:List (Nat×AV)}: ∀(B:List (Nat×AV)) (t:Nat),gd (oS A B) t=gd A t∨gd (oS A B) t= .undef
 | [],t=> .inr rfl
 | (k,v)::r,t=>by
  show(match Nat.beq k t with
   | true=>gd A k
   | false=>gd (oS A r) t)=gd A t∨_
  cases h:Nat.beq k t with
  | true=>have:=Nat.eq_of_beq_eq_true h;subst this;exact .inl rfl
  | false=>
   rcases L8 r t with e | e
   ·exact .inl e
   ·right;show(match Nat.beq k t with
     | true=>gd A k
     | false=>gd (oS A r) t)=_
    rw[h];exact e
def C6 (cI:List Nat):List (Nat×AV)→Bool
 | []=>true
 | (_,v)::r=>qi cI v&&C6 cI r
theorem VU {cI:List Nat}: ∀{A:List (Nat×AV)},C6 cI A=true→ ∀t,qi cI (gd A t)=true
 | [],h,t=>rfl
 | (k,v)::r,h,t=>by
  simp only[C6,Bool.and_eq_true] at h
  unfold gd
  cases Nat.beq k t with
  | true=>exact h.1
  | false=>exact VU h.2 t
theorem anG [cl] {n:Nat} {A A':List (Nat×AV)} {L L':List (Nat×List AV)} {H:List Blk} (cI:List Nat) (fk:eJ n A=true) (nN:eJ n A'=true) (ae:C6 cI A'=true) (ml:oS A A'=A') (gW:pq cI L=L'):Weak ⟨bd n A,L,H⟩ ⟨bd n A',L',H⟩:=by
 subst gW
 refine(Weak.iI (T':=bd n A') (by rw[vu,vu]) fun t=> ?_).trans (Weak.pq cI ?_)
 ·rw[sB fk,sB nN,←ml];exact L8 A' t
 ·rw[List.all_eq_true]
  intro a aG
  obtain⟨t,a6⟩:=List.mem_iff_getElem?.1 aG
  have e:(bd n A').getD t .undef=a:=by rw[List.getD_eq_getElem?_getD,a6];rfl
  rw[sB nN] at e
  rw[←e]
  exact VU ae t
theorem BB [cl] {n:Nat} {A A':List (Nat×AV)} {L:List (Nat×List AV)} {H:List Blk} (fk:eJ n A=true) (nN:eJ n A'=true) (ml:oS A A'=A'):Weak ⟨bd n A,L,H⟩ ⟨bd n A',L,H⟩:=
 Weak.iI (T':=bd n A') (by rw[vu,vu]) fun t=>by rw[sB fk,sB nN,←ml];exact L8 A' t
theorem ab4 {n:Nat} {A:List (Nat×AV)} {o:Operand} {b:Bool} {L:List (Nat×List AV)} {H:List Blk} (ag:eJ n A=true) (h:rp A o= .bool b):b6 (St.mk (bd n A) L H).T o= .bool b:=by
 show b6 (bd n A) o=_
 rw[GA ag,h]
def uj (P:Program) (A:List (Nat×AV)) (L:List (Nat×List AV)) (H:List Blk):List ResultVar→(List AV→Prop)→Prop
 | [],K=>K []
 | .tmp t::rs,K=>uj P A L H rs fun l=>K (gd A t::l)
 | .cell a t::rs,K=>qg P t (gd A a) L H fun x=>uj P A L H rs fun l=>K (x::l)
theorem MT {P:Program} {n:Nat} {A:List (Nat×AV)} {L:List (Nat×List AV)} {H:List Blk} (ag:eJ n A=true): ∀(rs:List ResultVar) (K:List AV→Prop),ui P ⟨bd n A,L,H⟩ rs K=uj P A L H rs K
 | [],K=>rfl
 | .tmp t::rs,K=>by
  show ui P ⟨bd n A,L,H⟩ rs (fun l=>K ((bd n A).getD t .undef::l))=uj P A L H rs fun l=>K (gd A t::l)
  rw[sB ag];exact MT ag rs _
 | .cell a t::rs,K=>by
  show qg P t ((bd n A).getD a .undef) L H _=qg P t (gd A a) L H _
  rw[sB ag]
  congr 1
  funext x
  exact MT ag rs _
theorem MW {P:Program} {fn:Func} {n:Nat} {A:List (Nat×AV)} {L:List (Nat×List AV)} {H:List Blk} {r:AV} {Q:AV→List Blk→Prop} (ag:eJ n A=true) (l:List AV) (e: ∀K,uj P A L H fn.results.toList K=K l) (ao:l.all kG=true) (hw:s0 l=r) (h:Q r H):wz P fn Q .ret ⟨bd n A,L,H⟩:=by
 show vL P fn ⟨bd n A,L,H⟩ Q
 unfold vL
 rw[MT ag,e]
 exact⟨ao,by rw[hw];exact h⟩
theorem acU {P:Program} {fn:Func} {n:Nat} {A:List (Nat×AV)} {L:List (Nat×List AV)} {H:List Blk} {r:AV} {Q:AV→List Blk→Prop} (ag:eJ n A=true) (l:List AV) (e: ∀K,uj P A L H fn.results.toList K=K l) (ao:l.all kG=true) (hw:s0 l=r) (h:Q r H):wz P fn Q .normal ⟨bd n A,L,H⟩:=
 MW (fn:=fn) ag l e ao hw h
theorem Q6 {P:Program} {esc:List Nat} {ops:Array Oper} {n:Nat} {K:List (Nat×AV)→List (Nat×List AV)→List Blk→Prop}: ∀(qf k3:List Oper) (A:List (Nat×AV)) (L:List (Nat×List AV)) (H:List Blk),
  evS P esc ops n (qf++k3) A L H K=evS P esc ops n qf A L H fun A L H=>evS P esc ops n k3 A L H K
 | [],k3,A,L,H=>rfl
 | o::r,k3,A,L,H=>by
  show evS P esc ops n (o::(r++k3)) A L H K=_
  simp only[evS,Q6 r k3]
theorem jU {P:Program} {esc:List Nat} {ops:Array Oper} {n:Nat} {K:List (Nat×AV)→List (Nat×List AV)→List Blk→Prop} {A:List (Nat×AV)} {L:List (Nat×List AV)} {H:List Blk} (X:List Oper) (i k:Nat):
  evS P esc ops n (X.drop i) A L H K=evS P esc ops n ((X.drop i).take k) A L H fun A L H=>evS P esc ops n (X.drop (i+k)) A L H K:=by
 rw[←Q6,←List.drop_drop,List.take_append_drop]
theorem Q4 {P:Program} {esc:List Nat} {ops:Array Oper} {n:Nat} {K:List (Nat×AV)→List (Nat×List AV)→List Blk→Prop}: ∀(qf k3:List Item) (A:List (Nat×AV)) (L:List (Nat×List AV)) (H:List Blk),
  evSD P esc ops n (qf++k3) A L H K=evSD P esc ops n qf A L H fun A L H=>evSD P esc ops n k3 A L H K
 | [],k3,A,L,H=>rfl
 | o::r,k3,A,L,H=>by
  show evSD P esc ops n (o::(r++k3)) A L H K=_
  simp only[evSD,Q4 r k3]
theorem lS {P:Program} {esc:List Nat} {ops:Array Oper} {n:Nat} {K:List (Nat×AV)→List (Nat×List AV)→List Blk→Prop} {A:List (Nat×AV)} {L:List (Nat×List AV)} {H:List Blk} (X:List Item) (i k:Nat):
  evSD P esc ops n (X.drop i) A L H K=evSD P esc ops n ((X.drop i).take k) A L H fun A L H=>evSD P esc ops n (X.drop (i+k)) A L H K:=by
 rw[←Q4,←List.drop_drop,List.take_append_drop]
theorem map_set {α β:Type} (f:α→β) (xs:List α) (i:Nat) (x:α):(List.map f xs).set i (f x)=List.map f (xs.set i x):=by
 rw[List.map_set]
theorem sU {H:List Blk} {α:Type} {eT eF:α→List AV} {b g sz n:Nat} {full:Bool} {xs ys:List α} (ag:n=xs.length) (hb:H[b]?=some ⟨g,sz,List.map eT xs⟩) (hc: ∀x,ld H (eT x) (eF x)) (h:xs.length≤4611686018427387904∧xs=ys):
  gk H (.ref b g 0 n full) (.aX (List.map eF ys) false true):=ag▸ZH hb hc h
theorem n_ {L:List (Nat×List AV)} {H:List Blk} {α:Type} {eT eF:α→List AV} {b g sz n:Nat} {full:Bool} {xs:List α} (az:n=xs.length) (hb:H[b]?=some ⟨g,sz,List.map eT xs⟩) (hc: ∀x,pX L H (eT x) (eF x)) (ag:xs.length≤4611686018427387904):
  fQ L H (.ref b g 0 n full) (.aX (List.map eF xs) false false):=az▸XJ hb hc ag
theorem Hf {α:Type} {enc:α→List AV} {k:Nat} (h: ∀x,(enc x).length=k∧(enc x).all jo=true) (ys:List α):sK k (List.map enc ys):=fun row ao=>by
 obtain⟨x,_,rfl⟩:=List.mem_map.1 ao
 exact⟨(h x).1,fun a aG=>List.all_eq_true.1 (h x).2 a aG⟩
theorem C1 {α:Type} {c:Bool} {x y:List α} {n:Nat} (hx:x.length=n) (bi:y.length=n):(bif c then x else y).length=n:=by cases c<;>assumption
def p3:List (Nat×AV)→List (Nat×AV)→List (Nat×AV)
 | [],R=>R
 | p::N,R=>p::p3 N R
def QM:List (Nat×AV)→List (Nat×AV)→List (Nat×AV)
 | [],A=>A
 | p::N,A=>mj (QM N A) p.1
def gE (N A:List (Nat×AV)):List (Nat×AV):=p3 N (QM N A)
def cS (d:Option Nat) (v:AV) (N A:List (Nat×AV)):List (Nat×AV):=match d with
 | some d=>gE ((d,v)::N) A
 | none=>gE N A
def x0:List (Nat×AV)→Nat→AV→List (Nat×AV)
 | [],_,_=>[]
 | (k,u)::r,t,v=>match Nat.beq k t with
  | true=>(k,v)::r
  | false=>(k,u)::x0 r t v
abbrev ab (n:Int):AV:= .int .i64 n
abbrev an (b:Bool):AV:= .bool b
abbrev bq {α:Type} (e:α→List AV) (x:List α):AV:= .aX (List.map e x) false false
abbrev ca:AV:= .aX [] true true
abbrev jP {α:Type} (e:α→List AV) (x:List α):AV:= .aX (List.map e x) false true
abbrev ap (b g n:Nat):AV:= .ref b g 0 n false
abbrev aF (t c:Nat):AV:= .fp t c
abbrev t0:AV:= .tup []
def gg (l:List Nat):List (Nat×AV):=l.map fun i=>(i,.tup [])
def Wg:Bool→List Nat→Bool×List Nat
 | b,0::m=>Wg (!b) m
 | b,m=>(b,m)
def lD {α:Type} (b:Bool) (m:List Nat):List α→List α
 | []=>[]
 | x::l=>match Wg b m with
  | (true,(n+1)::m)=>x::lD true (n::m) l
  | (false,(n+1)::m)=>lD false (n::m) l
  | _=>[]
theorem DC {α:Type} {n:Nat} {m:List Nat} {x:α} {l:List α}:lD true ((n+1)::m) (x::l)=x::lD true (n::m) l:=rfl
theorem DB {α:Type} {n:Nat} {m:List Nat} {x:α} {l:List α}:lD false ((n+1)::m) (x::l)=lD false (n::m) l:=rfl
theorem DD {α:Type} {m:List Nat} {l:List α}:lD true (0::m) l=lD false m l:=by cases l<;>rfl
theorem self {α:Type} {m:List Nat} {l:List α}:lD false (0::m) l=lD true m l:=by cases l<;>rfl
theorem DA {α:Type} {b:Bool} {l:List α}:lD b [] l=[]:=by cases b<;>cases l<;>rfl
def ie (j:Nat) (r:List (List AV)):List Blk→List Blk
 | []=>[]
 | b::H=>match j with
  | 0=>⟨b.bf,b.sz,r⟩::H
  | j+1=>b::ie j r H
def hP (i j:Nat) (a:AV):List (Nat×List AV)→List (Nat×List AV)
 | []=>[]
 | x::L=>match i with
  | 0=>(x.1,x.2.set j a)::L
  | i+1=>x::hP i j a L
def er (i:Nat) (a:List AV):List (Nat×List AV)→List (Nat×List AV)
 | []=>[]
 | x::L=>match i with
  | 0=>(x.1,a)::L
  | i+1=>x::er i a L
def eh (i:Nat) (b:Blk):List Blk→List Blk
 | []=>[]
 | x::H=>match i with
  | 0=>b::H
  | i+1=>x::eh i b H
section
variable {i j k:Nat} {a:AV} {c l:List AV} {L:List (Nat×List AV)} {x:Nat×List AV} {b y:Blk} {H:List Blk}
theorem QQ:hP 0 j a ((k,c)::L)=(k,c.set j a)::L:=rfl
theorem QR:hP (i+1) j a (x::L)=x::hP i j a L:=rfl
theorem QY:er 0 l ((k,c)::L)=(k,l)::L:=rfl
theorem QZ:er (i+1) l (x::L)=x::er i l L:=rfl
theorem Qf:eh 0 b (y::H)=b::H:=rfl
theorem Qg:eh (i+1) b (y::H)=y::eh i b H:=rfl
end
abbrev bV (i:Nat):Item:=⟨i,true,true,[]⟩
abbrev rg (a b:Nat):List Nat:=List.range' a (b - a)
def gI [cl] {V:Type} (S:V→St) (ot:V→Prop) (Q:Exit→St→Prop) (ex:Exit) (s:St):Prop:=match ex with
 | .normal=> ∃v,ot v∧Weak s (S v)
 | ex=>Q ex s
theorem gI.normal [cl] {V:Type} {S:V→St} {ot:V→Prop} {Q:Exit→St→Prop} {s:St} (v:V) (h:ot v) (hw:Weak s (S v)):gI S ot Q .normal s:=⟨v,h,hw⟩
theorem gI.ret [cl] {V:Type} {S:V→St} {ot:V→Prop} {Q:Exit→St→Prop} {s:St} (h:Q .ret s):gI S ot Q .ret s:=h
theorem gI.exit [cl] {V:Type} {S:V→St} {ot:V→Prop} {Q:Exit→St→Prop} {s:St} {id:Nat} (h:Q (.exit id) s):gI S ot Q (.exit id) s:=h
section
variable {P:Program} {b:Code} {k n:Nat} {Q:Exit→St→Prop} {aj:St} {A A':List (Nat×AV)} {L L':List (Nat×List AV)} {H H':List Blk}
theorem j9 [cl] (S:St) (ψ:Prop) (h:WpS P (bB b (2*k)) (bP S ψ Q) aj) (U:ψ→WpS P (bB b (2*k+1)) Q S) (e:bB b k= .seq (bB b (2*k)) (bB b (2*k+1)):=by kernel_rfl):WpS P (bB b k) Q aj:=WpS.AI S e h U
theorem cc [cl] (N:List (Nat×AV)) (m:List Nat) (ψ:Prop) (h:WpS P (bB b (2*k)) (bP ⟨bd n A',L,H⟩ ψ Q) ⟨bd n A,L,H⟩) (U:ψ→WpS P (bB b (2*k+1)) Q ⟨bd n A',L,H⟩) (fk:p3 N (lD true m A)=A':=by simp only[p3,DC,DB,DD,self,DA];rfl) (e:bB b k= .seq (bB b (2*k)) (bB b (2*k+1)):=by kernel_rfl):WpS P (bB b k) Q ⟨bd n A,L,H⟩:=WpS.AI _ e h U
theorem eU [cl] (N:List (Nat×AV)) (m:List Nat) (Jd:List (Nat×List AV)→List (Nat×List AV)) (Jc:List Blk→List Blk) (ψ:Prop) (h:WpS P (bB b (2*k)) (bP ⟨bd n A',L',H'⟩ ψ Q) ⟨bd n A,L,H⟩) (U:ψ→WpS P (bB b (2*k+1)) Q ⟨bd n A',L',H'⟩) (bC:Jd L=L':=by first | (simp only[id,QQ,QR,QY,QZ,List.set_cons_zero,List.set_cons_succ];rfl) | (dsimp only;rfl) | rfl) (av:Jc H=H':=by first | (simp only[id,Qf,Qg,List.cons_append,List.nil_append];rfl) | (dsimp only;rfl) | rfl) (fk:p3 N (lD true m A)=A':=by simp only[p3,DC,DB,DD,self,DA];rfl) (e:bB b k= .seq (bB b (2*k)) (bB b (2*k+1)):=by kernel_rfl):WpS P (bB b k) Q ⟨bd n A,L,H⟩:=WpS.AI _ e h U
theorem Qr [cl] {V:Type} {y:Code} (id:Nat) (S:V→St) (ot:V→Prop) (h:WpS P (bB b (2*k)) (bT id (gI S ot Q)) aj) (U: ∀v,ot v→WpS P y Q (S v)) (e:bB b k= .block id (bB b (2*k)):=by kernel_rfl):WpS P (bB b k) (dR P y Q) aj:=
 WpS.Qo e (h.mono fun ex s hs=>by
  have key: ∀ex s,gI S ot Q ex s→dR P y Q ex s:=fun ex s hs=>by
   cases ex with
   | normal=>obtain⟨v,al,hw⟩:=hs;exact(U v al).mP hw
   | _=>exact hs
  cases ex with
  | exit q=>
   show if q=id then _ else _
   replace hs:if q=id then gI S ot Q .normal s else gI S ot Q (.exit q) s:=hs
   split at hs
   ·rename_i U;rw[if_pos U];exact key _ _ hs
   ·rename_i U;rw[if_neg U];exact key _ _ hs
  | normal=>exact key .normal s hs
  | goto l=>exact key (.goto l) s hs
  | ret=>exact key .ret s hs
  | panic c=>exact key (.panic c) s hs
  | outgrown=>exact key .outgrown s hs)
theorem hz [cl] (h:WpS P (bB b (2*k)) (dR P (bB b (2*k+1)) Q) aj) (e:bB b k= .seq (bB b (2*k)) (bB b (2*k+1)):=by kernel_rfl):WpS P (bB b k) Q aj:=WpS.seq' e h
theorem uQ [cl] (o:Operand) (z:Bool) (h1:z=true→WpS P (bB b (2*k)) Q ⟨bd n A,L,H⟩) (h2:z=false→WpS P (bB b (2*k+1)) Q ⟨bd n A,L,H⟩) (e:bB b k= .cond o (bB b (2*k)) (bB b (2*k+1)):=by kernel_rfl)
  (ag:eJ n A=true:=by kernel_rfl) (ai:rp A o= .bool z:=by kernel_rfl):WpS P (bB b k) Q ⟨bd n A,L,H⟩:=WpS.ab3 e (ab4 ag ai) h1 h2
theorem fg [cl] (id:Nat) (h:WpS P (bB b (2*k)) (bT id Q) aj) (e:bB b k= .block id (bB b (2*k)):=by kernel_rfl):WpS P (bB b k) Q aj:=WpS.Qo e h
theorem d_ [cl] (h:Q .normal aj) (e:bB b k= .skip:=by kernel_rfl):WpS P (bB b k) Q aj:=WpS.ak8 e h
theorem hh [cl] (h:Q .ret aj) (e:bB b k= .ret:=by kernel_rfl):WpS P (bB b k) Q aj:=WpS.aku e h
theorem jf [cl] (id:Nat) (h:Q (.exit id) aj) (e:bB b k= .exit id:=by kernel_rfl):WpS P (bB b k) Q aj:=WpS.ac0 e h
theorem kq [cl] {V:Type} (S:V→St) (I:V→Prop) (m:V→Nat) (v0:V) (hs:Weak aj (S v0)) (az:I v0) (round: ∀v,I v→WpS P (bB b (2*k)) (dO S I m v Q) (S v)) (e:bB b k= .loop (bB b (2*k)):=by kernel_rfl):WpS P (bB b k) Q aj:=
 WpS.VT S I m e v0 hs az round
theorem bo [cl] (esc:List Nat) (id:Nat) (h:evS P esc (jm b k) n ((jm b k).toList.drop 0) A L H (fun A L H=>Q .normal ⟨bd n A,L,H⟩)) (e:bB b k= .region id (jm b k) false:=by kernel_rfl) (ag:eJ n A=true:=by kernel_rfl):WpS P (bB b k) Q ⟨bd n A,L,H⟩:=
 WpS.G_ (esc:=esc) e ag h
theorem n9 [cl] (esc:List Nat) (id:Nat) (ord:List Item) (km:List (List Nat)) (iL:List (Nat×List AV)) (h:evSD P esc (jm b k) n (ord.drop 0) A (iL++L) H (fun A L H=>Q .normal ⟨bd n A,L,H⟩)) (hm:P.follows .mixedOrders=true:=by kernel_rfl) (aw:km.length=(jm b k).size:=by kernel_rfl)
  (aV:y3 (jm b k) ord (BO km)=true:=by kernel_rfl) (J5:ord.all (·.lit)=true:=by kernel_rfl) (e:bB b k= .region id (jm b k) true:=by kernel_rfl) (ag:eJ n A=true:=by kernel_rfl) (hf:wP iL L=true:=by kernel_rfl) (aB:wE (jm b k) L ord=true:=by kernel_rfl):WpS P (bB b k) Q ⟨bd n A,L,H⟩:=
 WpS.aks (esc:=esc) ord km hm aw aV J5 e ag iL hf aB h
theorem dY [cl] (esc:List Nat) (id:Nat) (ov:List (Nat×AV)) (C8 m:List Nat) (U:WpS P (bB b (2*k+1)) Q ⟨bd n A',L,H⟩) (fk:p3 (lD true C8 ov) (lD true m A)=A':=by simp only[p3,DC,DB,DD,self,DA];rfl) (e:bB b k= .seq (bB b (2*k)) (bB b (2*k+1)):=by kernel_rfl)
  (e2:bB b (2*k)= .region id (jm b (2*k)) false:=by kernel_rfl) (ag:eJ n A=true:=by kernel_rfl) (cF: ∀K,evS P esc (jm b (2*k)) n ((jm b (2*k)).toList.drop 0) A L H K=K (gE ov A) L H:=by intro K;kernel_rfl) (ml:oS (gE ov A) A'=A':=by kernel_rfl)
  (h1:eJ n (gE ov A)=true:=by kernel_rfl) (h2:eJ n A'=true:=by kernel_rfl):WpS P (bB b k) Q ⟨bd n A,L,H⟩:=
 WpS.AI ⟨bd n A',L,H⟩ (ψ:=True) e (WpS.G_ (esc:=esc) e2 ag (by rw[cF];exact⟨trivial,BB h1 h2 ml⟩)) fun _=>U
theorem rX [cl] (esc:List Nat) (id:Nat) (ov:List (Nat×AV)) (C8 m:List Nat) (L':List (Nat×List AV)) (H':List Blk) (U:WpS P (bB b (2*k+1)) Q ⟨bd n A',L',H'⟩) (fk:p3 (lD true C8 ov) (lD true m A)=A':=by simp only[p3,DC,DB,DD,self,DA];rfl) (e:bB b k= .seq (bB b (2*k)) (bB b (2*k+1)):=by kernel_rfl)
  (e2:bB b (2*k)= .region id (jm b (2*k)) false:=by kernel_rfl) (ag:eJ n A=true:=by kernel_rfl) (cF: ∀K,evS P esc (jm b (2*k)) n ((jm b (2*k)).toList.drop 0) A L H K=K (gE ov A) L' H':=by intro K;kernel_rfl) (ml:oS (gE ov A) A'=A':=by kernel_rfl)
  (h1:eJ n (gE ov A)=true:=by kernel_rfl) (h2:eJ n A'=true:=by kernel_rfl):WpS P (bB b k) Q ⟨bd n A,L,H⟩:=
 WpS.AI ⟨bd n A',L',H'⟩ (ψ:=True) e (WpS.G_ (esc:=esc) e2 ag (by rw[cF];exact⟨trivial,BB h1 h2 ml⟩)) fun _=>U
theorem uR [cl] (esc:List Nat) (id:Nat) (ov:List (Nat×AV)) (C8 m:List Nat) (Jd:List (Nat×List AV)→List (Nat×List AV)) (Jc:List Blk→List Blk) (U:WpS P (bB b (2*k+1)) Q ⟨bd n A',L',H'⟩) (bC:Jd L=L':=by first | (simp only[id,QQ,QR,QY,QZ,List.set_cons_zero,List.set_cons_succ];rfl) | (dsimp only;rfl) | rfl) (av:Jc H=H':=by first | (simp only[id,Qf,Qg,List.cons_append,List.nil_append];rfl) | (dsimp only;rfl) | rfl) (fk:p3 (lD true C8 ov) (lD true m A)=A':=by simp only[p3,DC,DB,DD,self,DA];rfl) (e:bB b k= .seq (bB b (2*k)) (bB b (2*k+1)):=by kernel_rfl)
  (e2:bB b (2*k)= .region id (jm b (2*k)) false:=by kernel_rfl) (ag:eJ n A=true:=by kernel_rfl) (cF: ∀K,evS P esc (jm b (2*k)) n ((jm b (2*k)).toList.drop 0) A L H K=K (gE ov A) L' H':=by intro K;kernel_rfl) (ml:oS (gE ov A) A'=A':=by kernel_rfl)
  (h1:eJ n (gE ov A)=true:=by kernel_rfl) (h2:eJ n A'=true:=by kernel_rfl):WpS P (bB b k) Q ⟨bd n A,L,H⟩:=
 WpS.AI ⟨bd n A',L',H'⟩ (ψ:=True) e (WpS.G_ (esc:=esc) e2 ag (by rw[cF];exact⟨trivial,BB h1 h2 ml⟩)) fun _=>U
theorem dp [cl] {t:Nat} {z:Bool} (h1:z=true→WpS P (bB b (2*k)) Q ⟨bd n ((t,.bool z)::A),L,H⟩) (h2:z=false→WpS P (bB b (2*k+1)) Q ⟨bd n ((t,.bool z)::A),L,H⟩) (e:bB b k= .cond (.tmp t) (bB b (2*k)) (bB b (2*k+1)):=by kernel_rfl)
  (ag:eJ n ((t,.bool z)::A)=true:=by kernel_rfl):WpS P (bB b k) Q ⟨bd n ((t,.bool z)::A),L,H⟩:=uQ (.tmp t) z h1 h2 e ag (by show gd ((t,.bool z)::A) t=_;unfold gd;rw[show Nat.beq t t=true from Nat.beq_refl t])
theorem c0.go {f:FuncId} {fn:Func} {args:List AV} {H:List Blk} {R:AV→List Blk→Prop} (A:List (Nat×AV)) (hf:P.funcs[f]?=some fn) (h: ∀jc:cl,jc.n=H.length→WpS P (bB (iP fn) 1) (wz P fn R) ⟨bd fn.ntmps A,[],H⟩) (hb:fn.body=some (bB (iP fn) 1):=by kernel_rfl) (ag:(fn.name== "runtime.NumGoroutine")=false:=by kernel_rfl)
  (hi:Gl fn args H=⟨bd fn.ntmps A,[],H⟩:=by kernel_rfl):c0 P f args H R:=c0.Mk hf hb ag fun jc fZ=>hi▸h jc fZ
theorem oW {fn:Func} {R:AV→List Blk→Prop} (r:AV) (h:R r H) (ag:eJ n A=true:=by kernel_rfl) (e: ∀K,uj P A L H fn.results.toList K=K [r]:=by intro K;kernel_rfl) (ao:[r].all kG=true:=by kernel_rfl):wz P fn R .ret ⟨bd n A,L,H⟩:=MW ag [r] e ao rfl h
theorem dU [cl] (ml:oS A A'=A':=by kernel_rfl) (fk:eJ n A=true:=by kernel_rfl) (nN:eJ n A'=true:=by kernel_rfl):Weak ⟨bd n A,L,H⟩ ⟨bd n A',L,H⟩:=BB fk nN ml
theorem di [cl] (cI:List Nat) (fk:eJ n A=true:=by kernel_rfl) (nN:eJ n A'=true:=by kernel_rfl) (ae:C6 cI A'=true:=by kernel_rfl) (ml:oS A A'=A':=by kernel_rfl) (gW:pq cI L=L':=by kernel_rfl):Weak ⟨bd n A,L,H⟩ ⟨bd n A',L',H⟩:=anG cI fk nN ae ml gW
theorem mG {fn:Func} {R:AV→List Blk→Prop} (r:AV) (l:List AV) (h:R r H) (ag:eJ n A=true:=by kernel_rfl) (e: ∀K,uj P A L H fn.results.toList K=K l:=by intro K;kernel_rfl) (ao:l.all kG=true:=by kernel_rfl) (hw:s0 l=r:=by kernel_rfl):wz P fn R .ret ⟨bd n A,L,H⟩:=MW ag l e ao hw h
theorem E3 {fn:Func} {R:AV→List Blk→Prop} (r:AV) (l:List AV) (h:R r H) (ag:eJ n A=true:=by kernel_rfl) (e: ∀K,uj P A L H fn.results.toList K=K l:=by intro K;kernel_rfl) (ao:l.all kG=true:=by kernel_rfl) (hw:s0 l=r:=by kernel_rfl):wz P fn R .normal ⟨bd n A,L,H⟩:=acU ag l e ao hw h
end
section
variable {P:Program} {esc:List Nat} {ops:Array Oper} {n:Nat} {X:List Oper} {i0:Nat} {A:List (Nat×AV)} {L:List (Nat×List AV)} {H:List Blk} {K:List (Nat×AV)→List (Nat×List AV)→List Blk→Prop}
theorem bJ [cl] {A':List (Nat×AV)} {L':List (Nat×List AV)} {H':List Blk} {ψ:Prop} {Q:Exit→St→Prop} (N:List (Nat×AV)) (ae:ψ) (ml:oS (gE N A) A'=A':=by kernel_rfl) (e: ∀K,evS P esc ops n (X.drop i0) A L H K=K (gE N A) L' H':=by intro K;kernel_rfl)
  (fk:eJ n (gE N A)=true:=by kernel_rfl) (nN:eJ n A'=true:=by kernel_rfl):evS P esc ops n (X.drop i0) A L H (fun A L H=>bP ⟨bd n A',L',H'⟩ ψ Q .normal ⟨bd n A,L,H⟩):=by
 rw[e];exact⟨ae,BB fk nN ml⟩
theorem oY (aZ t:Nat) (b:Bool) (N:List (Nat×AV)) (h1:b=true→evS P esc ops n (X.drop (i0+aZ)) (x0 (gE ((t,.bool b)::N) A) t (.bool true)) L H K) (h2:b=false→evS P esc ops n (X.drop (i0+aZ)) (x0 (gE ((t,.bool b)::N) A) t (.bool false)) L H K)
  (e: ∀K,evS P esc ops n ((X.drop i0).take aZ) A L H K=K (x0 (gE ((t,.bool b)::N) A) t (.bool b)) L H:=by intro K;kernel_rfl):evS P esc ops n (X.drop i0) A L H K:=by
 rw[jU X i0 aZ,e]
 cases b with
 | true=>exact h1 rfl
 | false=>exact h2 rfl
theorem dM (N:List (Nat×AV)) (h:K (gE N A) L H) (e: ∀K,evS P esc ops n (X.drop i0) A L H K=K (gE N A) L H:=by intro K;kernel_rfl):evS P esc ops n (X.drop i0) A L H K:=by
 rw[e];exact h
theorem Hi (N:List (Nat×AV)) (L':List (Nat×List AV)) (H':List Blk) (h:K (gE N A) L' H') (e: ∀K,evS P esc ops n (X.drop i0) A L H K=K (gE N A) L' H':=by intro K;kernel_rfl):evS P esc ops n (X.drop i0) A L H K:=by
 rw[e];exact h
theorem Hj (aZ:Nat) (N:List (Nat×AV)) (L':List (Nat×List AV)) (H':List Blk) (h:evS P esc ops n (X.drop (i0+aZ)) (gE N A) L' H' K) (e: ∀K,evS P esc ops n ((X.drop i0).take aZ) A L H K=K (gE N A) L' H':=by intro K;kernel_rfl):evS P esc ops n (X.drop i0) A L H K:=by
 rw[jU X i0 aZ,e];exact h
theorem oX (aZ:Nat) (d:Option Nat) (v:AV) (N:List (Nat×AV)) {φ:Prop} (h1:φ) (h:evS P esc ops n (X.drop (i0+aZ)) (cS d v N A) L H K) (e: ∀K,evS P esc ops n ((X.drop i0).take aZ) A L H K=(φ∧K (cS d v N A) L H):=by intro K;kernel_rfl):evS P esc ops n (X.drop i0) A L H K:=by
 rw[jU X i0 aZ,e];exact⟨h1,h⟩
theorem lC (aZ:Nat) (d:Option Nat) (N:List (Nat×AV)) {α:Type} [Inhabited α] (enc:α→List AV) (xs:List α) {i:Int} (m:Nat)
  (az:0≤i∧i.toNat<xs.length) (h:evS P esc ops n (X.drop (i0+aZ)) (cS d (.dh (enc (nth xs i)) 0) N A) L H K) (ag: ∀x,(enc x).length=m:=by exact fun _=>rfl)
  (e: ∀K,evS P esc ops n ((X.drop i0).take aZ) A L H K=(0≤i∧cC (List.map enc xs)[i.toNat]? fun row=>row.length=m∧K (cS d (.dh row 0) N A) L H):=by intro K;kernel_rfl):evS P esc ops n (X.drop i0) A L H K:=by
 rw[jU X i0 aZ,e]
 refine⟨az.1,ec (a:=enc (nth xs i)) ?_ ⟨ag _,h⟩⟩
 rw[List.getElem?_map,fM az.2];rfl
theorem l3 (aZ:Nat) (d:Option Nat) (N:List (Nat×AV)) (b g z:Nat) {i:Int} {m:Nat} (az:0≤i∧i.toNat<m) (h:evS P esc ops n (X.drop (i0+aZ)) (cS d (.ptr b g (0+i.toNat) 0) N A) L H K)
  (e: ∀K,evS P esc ops n ((X.drop i0).take aZ) A L H K=(g=g∧z=z∧0≤i∧i<m∧K (cS d (.ptr b g (0+i.toNat) 0) N A) L H):=by intro K;kernel_rfl):evS P esc ops n (X.drop i0) A L H K:=by
 rw[jU X i0 aZ,e];exact⟨rfl,rfl,az.1,by have:=az.2;omega,h⟩
theorem XG (aZ:Nat) (d:Option Nat) (N:List (Nat×AV)) {α:Type} [Inhabited α] (enc:α→List AV) (xs:List α) (i:Int) (t:TypeId) (c g:Nat) (v:AV) (ao:i.toNat<xs.length) (h:evS P esc ops n (X.drop (i0+aZ)) (cS d v N A) L H K)
  (e2: ∀K,jH P t (enc (nth xs i)) c K=K v:=by intro K;kernel_rfl)
  (e: ∀K,evS P esc ops n ((X.drop i0).take aZ) A L H K=(g=g∧cC (List.map enc xs)[0+i.toNat]? fun row=>jH P t row c fun v=>K (cS d v N A) L H):=by intro K;kernel_rfl):evS P esc ops n (X.drop i0) A L H K:=by
 rw[jU X i0 aZ,e]
 refine⟨rfl,ec (a:=enc (nth xs i)) ?_ (by rw[e2];exact h)⟩
 rw[Nat.zero_add,List.getElem?_map,fM ao];rfl
theorem mH (aZ:Nat) (d:Option Nat) (N:List (Nat×AV)) {g:FuncId} (args:List AV) {eg:List AV} {t:AV}
  (hf:bc P g eg t) (hs:af (cL L H) args eg) (h:evS P esc ops n (X.drop (i0+aZ)) (cS d t N A) L H K) (ag:args.all eL=true:=by kernel_rfl) (e: ∀K,evS P esc ops n ((X.drop i0).take aZ) A L H K=lQ P g args L H (fun v L' H'=>K (cS d v N A) L' H'):=by intro K;kernel_rfl):evS P esc ops n (X.drop i0) A L H K:=by
 rw[jU X i0 aZ,e];exact .inl ⟨ag,eg,t,hs,hf,h⟩
theorem akK (aZ:Nat) (d:Option Nat) (N:List (Nat×AV)) {α:Type} [Inhabited α] (enc:α→List AV) (xs:List α) (i:Int) (c k g:Nat) (cells:List AV) (H':List (List AV)→List Blk) (lM:α) (ao:i.toNat<xs.length)
  (h:evS P esc ops n (X.drop (i0+aZ)) (cS d (.tup []) N A) L (H' (List.map enc (xs.set i.toNat lM))) K) (hc:Nat.ble (c+k) (enc (nth xs i)).length=true:=by kernel_rfl) (hs:fe (enc (nth xs i)) c cells=enc lM:=by kernel_rfl)
  (e: ∀K,evS P esc ops n ((X.drop i0).take aZ) A L H K=(g=g∧cC (List.map enc xs)[0+i.toNat]? fun row=>c+k≤row.length∧K (cS d (.tup []) N A) L (H' ((List.map enc xs).set (0+i.toNat) (fe row c cells)))):=by intro K;kernel_rfl):evS P esc ops n (X.drop i0) A L H K:=by
 rw[jU X i0 aZ,e]
 refine⟨rfl,ec (a:=enc (nth xs i)) ?_ ⟨Nat.le_of_ble_eq_true hc,?_⟩⟩
 ·rw[Nat.zero_add,List.getElem?_map,fM ao];rfl
 ·rw[hs,Nat.zero_add,map_set];exact h
theorem vQ (aZ:Nat) (d:Option Nat) (N:List (Nat×AV)) {α:Type} [Inhabited α] (enc:α→List AV) (xs:List α) (i:Int) (c k g:Nat) (cells:List AV) (j:Nat) (lM:α) (ao:i.toNat<xs.length)
  (h:evS P esc ops n (X.drop (i0+aZ)) (cS d (.tup []) N A) L (ie j (List.map enc (xs.set i.toNat lM)) H) K) (hc:Nat.ble (c+k) (enc (nth xs i)).length=true:=by kernel_rfl) (hs:fe (enc (nth xs i)) c cells=enc lM:=by kernel_rfl)
  (e: ∀K,evS P esc ops n ((X.drop i0).take aZ) A L H K=(g=g∧cC (List.map enc xs)[0+i.toNat]? fun row=>c+k≤row.length∧K (cS d (.tup []) N A) L (ie j ((List.map enc xs).set (0+i.toNat) (fe row c cells)) H)):=by intro K;kernel_rfl):evS P esc ops n (X.drop i0) A L H K:=akK aZ d N enc xs i c k g cells (fun r=>ie j r H) lM ao h hc hs e
theorem M6 (aZ:Nat) (d:Option Nat) (N:List (Nat×AV)) {α:Type} (enc:α→List AV) {i:Int} (B:Int) (z:List AV) (b:Nat) (H':List (List AV)→List Blk) (aM:α) (az:0≤i∧B*i≤140737488355328∧i≤4611686018427387904)
  (h:evS P esc ops n (X.drop (i0+aZ)) (cS d (.ref b 0 0 (List.replicate i.toNat aM).length false) N A) L (H' (List.map enc (List.replicate i.toNat aM))) K) (aB:z=enc aM:=by rfl)
  (e: ∀K,evS P esc ops n ((X.drop i0).take aZ) A L H K=(0≤i∧i≤i∧B*i≤140737488355328∧i≤4611686018427387904∧K (cS d (.ref b 0 0 i.toNat false) N A) L (H' (List.replicate i.toNat z))):=by intro K;kernel_rfl):evS P esc ops n (X.drop i0) A L H K:=by
 rw[jU X i0 aZ,e]
 refine⟨az.1,Int.le_refl _,az.2.1,az.2.2,?_⟩
 ·rw[aB,←List.map_replicate];rw[List.length_replicate] at h;exact h
theorem XE (aZ:Nat) (d:Option Nat) (N:List (Nat×AV)) {α:Type} (enc:α→List AV) (xs ys:List α) (bR:List (List AV)) (b g s B:Nat) (H':List (List AV)→List Blk) (hx:bR=List.map enc ys) (az:(xs.length+ys.length)*B≤140737488355328∧xs.length+ys.length≤4611686018427387904)
  (h:evS P esc ops n (X.drop (i0+aZ)) (cS d (.ref b (g+1) 0 (xs++ys).length false) N A) L (H' (List.map enc (xs++ys))) K) (hk: ∀x,(enc x).length=s∧(enc x).all jo=true:=by exact fun _=>⟨rfl,rfl⟩)
  (e: ∀K,evS P esc ops n ((X.drop i0).take aZ) A L H K=(true=true∧true=true∧sK s bR∧0=0∧g=g∧s=s∧(List.map enc xs).length=xs.length∧(xs.length+bR.length)*B≤140737488355328∧xs.length+bR.length≤4611686018427387904∧K (cS d (.ref b (g+1) 0 (xs.length+bR.length) false) N A) L (H' (List.map enc xs++bR))):=by intro K;kernel_rfl):evS P esc ops n (X.drop i0) A L H K:=by
 rw[jU X i0 aZ,e]
 subst hx
 refine⟨rfl,rfl,Hf hk ys,rfl,rfl,rfl,List.length_map ..,by rw[List.length_map];exact az.1,by rw[List.length_map];exact az.2,?_⟩
 ·rw[List.length_append] at h;rw[List.length_map,←List.map_append];exact h
theorem vN (aZ:Nat) (d:Option Nat) (N:List (Nat×AV)) {α:Type} (enc:α→List AV) (ys:List α) (bR:List (List AV)) (b s B:Nat) (H':List (List AV)→List Blk) (hx:bR=List.map enc ys) (az:ys.length*B≤140737488355328∧ys.length≤4611686018427387904)
  (h:evS P esc ops n (X.drop (i0+aZ)) (cS d (.ref b 0 0 ys.length false) N A) L (H' (List.map enc ys)) K) (hk: ∀x,(enc x).length=s∧(enc x).all jo=true:=by exact fun _=>⟨rfl,rfl⟩)
  (e: ∀K,evS P esc ops n ((X.drop i0).take aZ) A L H K=(true=true∧true=true∧sK s bR∧true=true∧(∀row∈([]:List (List AV)),row.length=s)∧(List.length (α:=List AV) []+bR.length)*B≤140737488355328∧List.length (α:=List AV) []+bR.length≤4611686018427387904∧(([]:List (List AV))≠[]→bR≠[])∧
   K (cS d (.ref b 0 0 (List.length (α:=List AV) []+bR.length) false) N A) L (H' ([]++bR))):=by intro K;kernel_rfl):evS P esc ops n (X.drop i0) A L H K:=by
 rw[jU X i0 aZ,e]
 subst hx
 refine⟨rfl,rfl,Hf hk ys,rfl,(fun row h=>by cases h),by simpa using az.1,by simpa using az.2,(fun h=>absurd rfl h),?_⟩
 ·simpa using h
theorem vP (aZ:Nat) (d:Option Nat) (N:List (Nat×AV)) {g:FuncId} (args:List AV) {eg:List AV} {hH:AV} {dw:List Blk} (r:AV) (lf:List Blk)
  (hf:c0 P g eg [] fun r H'=>r=hH∧H'=dw) (hs:af (cL L H) args eg) (Cw:vB dw=true) (y5:H++dw.map (lF H.length)=lf)
  (h:evS P esc ops n (X.drop (i0+aZ)) (cS d r N A) L lf K) (ag:args.all eL=true:=by kernel_rfl) (ai:An hH=true:=by kernel_rfl) (er:nt H.length hH=r:=by kernel_rfl) (e: ∀K,evS P esc ops n ((X.drop i0).take aZ) A L H K=lQ P g args L H (fun v L' H'=>K (cS d v N A) L' H'):=by intro K;kernel_rfl):evS P esc ops n (X.drop i0) A L H K:=by
 rw[jU X i0 aZ,e]
 subst er;subst y5
 exact .inr (.inl ⟨ag,eg,hs,hf.mono fun dG H1 ⟨h1,h2⟩=>by subst h1;subst h2;exact⟨ai,Cw,h⟩⟩)
theorem sLen (aZ:Nat) (d:Option Nat) (N:List (Nat×AV)) {α:Type} (enc:α→List AV) (xs:List α) (h:xs.length≤4611686018427387904→evS P esc ops n (X.drop (i0+aZ)) (cS d (.int .i64 (xs.length:Nat)) N A) L H K)
  (e: ∀K,evS P esc ops n ((X.drop i0).take aZ) A L H K=((List.map enc xs).length≤4611686018427387904→K (cS d (.int .i64 ((List.map enc xs).length:Nat)) N A) L H):=by intro K;kernel_rfl):evS P esc ops n (X.drop i0) A L H K:=by
 rw[jU X i0 aZ,e,List.length_map];exact h
theorem M7 (aZ:Nat) (d:Option Nat) (N:List (Nat×AV)) {α:Type} (enc:α→List AV) (xs:List α) (h1:xs≠[]→evS P esc ops n (X.drop (i0+aZ)) (cS d (.bool false) N A) L H K) (h2:xs=[]→ ∀b,evS P esc ops n (X.drop (i0+aZ)) (cS d (.bool b) N A) L H K)
  (e: ∀K,evS P esc ops n ((X.drop i0).take aZ) A L H K=((List.map enc xs≠[]→K (cS d (.bool false) N A) L H)∧(List.map enc xs=[]→ ∀b,K (cS d (.bool b) N A) L H)):=by intro K;kernel_rfl):evS P esc ops n (X.drop i0) A L H K:=by
 rw[jU X i0 aZ,e]
 exact⟨fun h=>h1 fun e=>h (by rw[e];rfl),fun h=>h2 (by simpa using h)⟩
end
section
variable {P:Program} {esc:List Nat} {ops:Array Oper} {n:Nat} {X:List Item} {i0:Nat} {A:List (Nat×AV)} {L:List (Nat×List AV)} {H:List Blk} {K:List (Nat×AV)→List (Nat×List AV)→List Blk→Prop}
theorem lb [cl] {A':List (Nat×AV)} {L':List (Nat×List AV)} {H':List Blk} {ψ:Prop} {Q:Exit→St→Prop} (N:List (Nat×AV)) (ae:ψ) (ml:oS (gE N A) A'=A':=by kernel_rfl) (e: ∀K,evSD P esc ops n (X.drop i0) A L H K=K (gE N A) L' H':=by intro K;kernel_rfl)
  (fk:eJ n (gE N A)=true:=by kernel_rfl) (nN:eJ n A'=true:=by kernel_rfl):evSD P esc ops n (X.drop i0) A L H (fun A L H=>bP ⟨bd n A',L',H'⟩ ψ Q .normal ⟨bd n A,L,H⟩):=by
 rw[e];exact⟨ae,BB fk nN ml⟩
theorem rG (aZ t:Nat) (b:Bool) (N:List (Nat×AV)) (h1:b=true→evSD P esc ops n (X.drop (i0+aZ)) (x0 (gE ((t,.bool b)::N) A) t (.bool true)) L H K) (h2:b=false→evSD P esc ops n (X.drop (i0+aZ)) (x0 (gE ((t,.bool b)::N) A) t (.bool false)) L H K)
  (e: ∀K,evSD P esc ops n ((X.drop i0).take aZ) A L H K=K (x0 (gE ((t,.bool b)::N) A) t (.bool b)) L H:=by intro K;kernel_rfl):evSD P esc ops n (X.drop i0) A L H K:=by
 rw[lS X i0 aZ,e]
 cases b with
 | true=>exact h1 rfl
 | false=>exact h2 rfl
theorem Bh (N:List (Nat×AV)) (h:K (gE N A) L H) (e: ∀K,evSD P esc ops n (X.drop i0) A L H K=K (gE N A) L H:=by intro K;kernel_rfl):evSD P esc ops n (X.drop i0) A L H K:=by
 rw[e];exact h
theorem HO (aZ:Nat) (d:Option Nat) (v:AV) (N:List (Nat×AV)) {φ:Prop} (h1:φ) (h:evSD P esc ops n (X.drop (i0+aZ)) (cS d v N A) L H K) (e: ∀K,evSD P esc ops n ((X.drop i0).take aZ) A L H K=(φ∧K (cS d v N A) L H):=by intro K;kernel_rfl):evSD P esc ops n (X.drop i0) A L H K:=by
 rw[lS X i0 aZ,e];exact⟨h1,h⟩
theorem D8 (aZ:Nat) (N:List (Nat×AV)) (L':List (Nat×List AV)) (H':List Blk) {φ:Prop} (h1:φ) (h:evSD P esc ops n (X.drop (i0+aZ)) (gE N A) L' H' K) (e: ∀K,evSD P esc ops n ((X.drop i0).take aZ) A L H K=(φ∧K (gE N A) L' H'):=by intro K;kernel_rfl):evSD P esc ops n (X.drop i0) A L H K:=by
 rw[lS X i0 aZ,e];exact⟨h1,h⟩
theorem ux (aZ:Nat) (d:Option Nat) (N:List (Nat×AV)) {α:Type} [Inhabited α] (enc:α→List AV) (xs:List α) {i:Int} (m:Nat)
  (az:0≤i∧i.toNat<xs.length) (h:evSD P esc ops n (X.drop (i0+aZ)) (cS d (.dh (enc (nth xs i)) 0) N A) L H K) (ag: ∀x,(enc x).length=m:=by exact fun _=>rfl)
  (e: ∀K,evSD P esc ops n ((X.drop i0).take aZ) A L H K=(0≤i∧cC (List.map enc xs)[i.toNat]? fun row=>row.length=m∧K (cS d (.dh row 0) N A) L H):=by intro K;kernel_rfl):evSD P esc ops n (X.drop i0) A L H K:=by
 rw[lS X i0 aZ,e]
 refine⟨az.1,ec (a:=enc (nth xs i)) ?_ ⟨ag _,h⟩⟩
 rw[List.getElem?_map,fM az.2];rfl
theorem yl (aZ:Nat) (d:Option Nat) (N:List (Nat×AV)) (b g z:Nat) {i:Int} {m:Nat} (az:0≤i∧i.toNat<m) (h:evSD P esc ops n (X.drop (i0+aZ)) (cS d (.ptr b g (0+i.toNat) 0) N A) L H K)
  (e: ∀K,evSD P esc ops n ((X.drop i0).take aZ) A L H K=(g=g∧z=z∧0≤i∧i<m∧K (cS d (.ptr b g (0+i.toNat) 0) N A) L H):=by intro K;kernel_rfl):evSD P esc ops n (X.drop i0) A L H K:=by
 rw[lS X i0 aZ,e];exact⟨rfl,rfl,az.1,by have:=az.2;omega,h⟩
theorem Bi (aZ:Nat) (d:Option Nat) (N:List (Nat×AV)) {α:Type} [Inhabited α] (enc:α→List AV) (xs:List α) (i:Int) (t:TypeId) (c g:Nat) (v:AV) (ao:i.toNat<xs.length) (h:evSD P esc ops n (X.drop (i0+aZ)) (cS d v N A) L H K)
  (e2: ∀K,jH P t (enc (nth xs i)) c K=K v:=by intro K;kernel_rfl)
  (e: ∀K,evSD P esc ops n ((X.drop i0).take aZ) A L H K=(g=g∧cC (List.map enc xs)[0+i.toNat]? fun row=>jH P t row c fun v=>K (cS d v N A) L H):=by intro K;kernel_rfl):evSD P esc ops n (X.drop i0) A L H K:=by
 rw[lS X i0 aZ,e]
 refine⟨rfl,ec (a:=enc (nth xs i)) ?_ (by rw[e2];exact h)⟩
 rw[Nat.zero_add,List.getElem?_map,fM ao];rfl
theorem ZU (aZ:Nat) (d:Option Nat) (N:List (Nat×AV)) {g:FuncId} (args:List AV) {eg:List AV} {t:AV}
  (hf:bc P g eg t) (hs:af (cL L H) args eg) (h:evSD P esc ops n (X.drop (i0+aZ)) (cS d t N A) L H K) (ag:args.all eL=true:=by kernel_rfl) (e: ∀K,evSD P esc ops n ((X.drop i0).take aZ) A L H K=p5 P g args L H (fun v=>K (cS d v N A) L H):=by intro K;kernel_rfl):evSD P esc ops n (X.drop i0) A L H K:=by
 rw[lS X i0 aZ,e];exact⟨ag,eg,t,hs,hf,h⟩
theorem anm (aZ:Nat) (d:Option Nat) (N:List (Nat×AV)) {α:Type} [Inhabited α] (enc:α→List AV) (xs:List α) (i:Int) (c k g:Nat) (cells:List AV) (F:List (List AV)→Prop) (H':List (List AV)→List Blk) (lM:α) (ao:i.toNat<xs.length)
  (cO:F ((List.map enc (xs.set i.toNat lM)))) (h:evSD P esc ops n (X.drop (i0+aZ)) (cS d (.tup []) N A) L (H' (List.map enc (xs.set i.toNat lM))) K) (hc:Nat.ble (c+k) (enc (nth xs i)).length=true:=by kernel_rfl) (hs:fe (enc (nth xs i)) c cells=enc lM:=by kernel_rfl)
  (e: ∀K,evSD P esc ops n ((X.drop i0).take aZ) A L H K=(g=g∧cC (List.map enc xs)[0+i.toNat]? fun row=>c+k≤row.length∧F (((List.map enc xs).set (0+i.toNat) (fe row c cells)))∧K (cS d (.tup []) N A) L (H' ((List.map enc xs).set (0+i.toNat) (fe row c cells)))):=by intro K;kernel_rfl):evSD P esc ops n (X.drop i0) A L H K:=by
 rw[lS X i0 aZ,e]
 refine⟨rfl,ec (a:=enc (nth xs i)) ?_ ⟨Nat.le_of_ble_eq_true hc,?_,?_⟩⟩
 ·rw[Nat.zero_add,List.getElem?_map,fM ao];rfl
 ·rw[hs,Nat.zero_add,map_set];exact cO
 ·rw[hs,Nat.zero_add,map_set];exact h
theorem ank (aZ:Nat) (d:Option Nat) (N:List (Nat×AV)) {α:Type} (enc:α→List AV) (xs ys:List α) (bR:List (List AV)) (b g s B:Nat) (F:List (List AV)→Prop) (H':List (List AV)→List Blk) (hx:bR=List.map enc ys) (az:(xs.length+ys.length)*B≤140737488355328∧xs.length+ys.length≤4611686018427387904)
  (cO:F ((List.map enc (xs++ys)))) (h:evSD P esc ops n (X.drop (i0+aZ)) (cS d (.ref b (g+1) 0 (xs++ys).length false) N A) L (H' (List.map enc (xs++ys))) K) (hk: ∀x,(enc x).length=s∧(enc x).all jo=true:=by exact fun _=>⟨rfl,rfl⟩)
  (e: ∀K,evSD P esc ops n ((X.drop i0).take aZ) A L H K=(true=true∧true=true∧sK s bR∧0=0∧g=g∧s=s∧(List.map enc xs).length=xs.length∧(xs.length+bR.length)*B≤140737488355328∧xs.length+bR.length≤4611686018427387904∧F ((List.map enc xs++bR))∧K (cS d (.ref b (g+1) 0 (xs.length+bR.length) false) N A) L (H' (List.map enc xs++bR))):=by intro K;kernel_rfl):evSD P esc ops n (X.drop i0) A L H K:=by
 rw[lS X i0 aZ,e]
 subst hx
 refine⟨rfl,rfl,Hf hk ys,rfl,rfl,rfl,List.length_map ..,by rw[List.length_map];exact az.1,by rw[List.length_map];exact az.2,?_,?_⟩
 ·rw[←List.map_append];exact cO
 ·rw[List.length_append] at h;rw[List.length_map,←List.map_append];exact h
theorem HP (aZ:Nat) (d:Option Nat) (N:List (Nat×AV)) {g:FuncId} (args:List AV) {eg:List AV} {hH:AV} {dw:List Blk} (F:List (Nat×List AV)→List Blk→Prop) (r:AV) (lf:List Blk)
  (hf:c0 P g eg [] fun r H'=>r=hH∧H'=dw) (hs:af (cL L H) args eg) (Cw:vB dw=true) (y5:H++dw.map (lF H.length)=lf) (cO:F L lf)
  (h:evSD P esc ops n (X.drop (i0+aZ)) (cS d r N A) L lf K) (ag:args.all eL=true:=by kernel_rfl) (ai:An hH=true:=by kernel_rfl) (er:nt H.length hH=r:=by kernel_rfl) (e: ∀K,evSD P esc ops n ((X.drop i0).take aZ) A L H K=lQ P g args L H (fun v L' H'=>F L' H'∧K (cS d v N A) L' H'):=by intro K;kernel_rfl):evSD P esc ops n (X.drop i0) A L H K:=by
 rw[lS X i0 aZ,e]
 subst er;subst y5
 exact .inr (.inl ⟨ag,eg,hs,hf.mono fun dG H1 ⟨h1,h2⟩=>by subst h1;subst h2;exact⟨ai,Cw,cO,h⟩⟩)
theorem Pf (aZ:Nat) (d:Option Nat) (N:List (Nat×AV)) {α:Type} (enc:α→List AV) (xs:List α) (h:evSD P esc ops n (X.drop (i0+aZ)) (cS d (.int .i64 (xs.length:Nat)) N A) L H K)
  (e: ∀K,evSD P esc ops n ((X.drop i0).take aZ) A L H K=K (cS d (.int .i64 ((List.map enc xs).length:Nat)) N A) L H:=by intro K;kernel_rfl):evSD P esc ops n (X.drop i0) A L H K:=by
 rw[lS X i0 aZ,e,List.length_map];exact h
end
inductive iv (H:List Blk) (dQ:Nat) (cW:Nat→Option Nat):AV→AV→Prop where
 | int (k:IntKind) (n:Int):iv H dQ cW (.int k n) (.int k n)
 | bool (b:Bool):iv H dQ cW (.bool b) (.bool b)
 | str (s:ByteArray):iv H dQ cW (.str s) (.str s)
 | fT:iv H dQ cW .fT .fT
 | gu:iv H dQ cW .gu .gu
 | aX (rows:List (List AV)) (full dK fr:Bool) (hw:dK=true→full=true):iv H dQ cW (.aX rows full fr) (.aX rows dK fr)
 | ref {b g n j:Nat} {full:Bool} {blk:Blk} (al:j<dQ) (hs:cW j=some b) (hb:H[b]?=some blk) (ax:blk.bf=g):iv H dQ cW (.ref b g 0 n full) (.ref j 0 0 n false)
 | nil {a:AV} {j:Nat} (al:j<dQ) (hs:cW j=none) (h:tW a=true):iv H dQ cW a (.ref j 0 0 0 false)
def H_ (H:List Blk) (dQ:Nat) (cW:Nat→Option Nat) (a b:AV):Prop:=(∃l l',a= .agg l∧b= .agg l'∧af (iv H dQ cW) l l')∨iv H dQ cW a b
structure uH (H dw:List Blk) (cW:Nat→Option Nat):Prop where
 inj: ∀i j b,i<dw.length→j<dw.length→cW i=some b→cW j=some b→i=j
 bf: ∀(j:Nat) (k:Blk),dw[j]?=some k→k.bf=0
 blk: ∀(j b:Nat) (k:Blk),dw[j]?=some k→cW j=some b→ ∃q,H[b]?=some q∧q.sz=k.sz∧af (af (iv H dw.length cW)) q.rows k.rows
def Env.own (E:Env) (dw:List Blk) (cW:Nat→Option Nat):Env:=
 {w:=E.w,PA:=E.PA,PF:=E.PF,mL:=fun _=>none,bf:=fun _=>0
  m:=fun j=>if j<dw.length then(match cW j with
   | some b=>E.m b
   | none=>some none) else none
  sz:=fun j=>(dw[j]?.map Blk.sz).getD 0
  cp:=fun j=>match cW j with
   | some b=>E.cp b
   | none=>0}
section
variable {E:Env} {H dw:List Blk} {cW:Nat→Option Nat}
theorem Wx {j b:Nat} (al:j<dw.length) (hs:cW j=some b):(E.own dw cW).m j=E.m b:=by
 show(if j<dw.length then _ else _)=_
 rw[if_pos al,hs]
theorem ajN {j:Nat} (al:j<dw.length) (hs:cW j=none):(E.own dw cW).m j=some none:=by
 show(if j<dw.length then _ else _)=_
 rw[if_pos al,hs]
theorem Al {j:Nat} {x:Option Nat} (h:(E.own dw cW).m j=some x):j<dw.length∧((cW j=none∧x=none)∨ ∃b,cW j=some b∧E.m b=some x):=by
 have h:(if j<dw.length then(match cW j with
   | some b=>E.m b
   | none=>some none) else none)=some x:=h
 split at h
 ·rename_i al
  refine⟨al,?_⟩
  cases hs:cW j with
  | none=>rw[hs] at h;cases h;exact .inl ⟨rfl,rfl⟩
  | some b=>rw[hs] at h;exact .inr ⟨b,rfl,h⟩
 ·cases h
theorem iv.v1 (av:SimH E H) (dD:uH H dw cW) {a b:AV} (h:iv H dw.length cW a b) {v:Value} (hv:bZ E a v):bZ (E.own dw cW) b v:=by
 cases h with
 | int k n=>exact hv
 | bool b=>exact hv
 | str s=>exact hv
 | fT=>exact hv
 | gu=>exact hv
 | aX rows full dK fr hw=>
  have hv:aY E.w E.PA E.PF (.aX rows full fr) v:=hv
  cases hv with
  | aX eW fl fK b9 dt hrel=>exact aY.aX eW fl (fun h=>fK (hw h)) b9 dt hrel
 | @ref b g n j full blk al hs hb ax=>
  have ky:=av.eV b blk hb
  have hk:dw[j]?=some dw[j]:=List.getElem?_eq_getElem al
  obtain⟨q,U,b9,_⟩:=dD.blk j b _ hk hs
  rw[hb] at U
  obtain rfl:=Option.some.inj U
  rcases(show e6 E (.ref b g 0 n full) v from hv) with⟨aQ,_⟩ | ⟨f_,bz⟩
  ·omega
  ·refine .inr ⟨rfl,?_⟩
   rcases bz with⟨hm,_,ag,A,fk⟩ | ⟨c,cap,hm,e,h1,h2,au⟩
   ·exact .inl ⟨by rw[Wx al hs];exact hm,rfl,ag,A,fk⟩
   ·refine .inr ⟨c,cap,by rw[Wx al hs];exact hm,by rw[e,Nat.zero_mul,Nat.zero_mul],h1,(fun h=>by cases h),?_⟩
    show 0+cap≤(match cW j with
     | some b=>E.cp b
     | none=>0)
    rw[hs];exact au
 | nil al hs h=>exact I1 (E:=E) h hv rfl (ajN al hs)
theorem ajO (av:SimH E H) (bC: ∀t,E.mL t=none) (dD:uH H dw cW):SimH (E.own dw cW) dw:=by
 have iB:E.bL=E:=by
  have:E.mL=fun _=>none:=funext bC
  cases E;simp only[Env.bL] at*;subst this;rfl
 have rh: ∀c,(E.own dw cW).gq c→E.gq c:=fun c ⟨j,al⟩=>by
  obtain⟨_,h | ⟨b,_,h⟩⟩:=Al al
  ·cases h.2
  ·exact⟨b,h⟩
 exact{
  heap:=fun j c hm=>by
   obtain⟨al,h | ⟨b,hs,hb⟩⟩:=Al hm
   ·cases h.2
   ·have hk:dw[j]?=some dw[j]:=List.getElem?_eq_getElem al
    obtain⟨q,U,b9,ao⟩:=dD.blk j b _ hk hs
    obtain⟨blk,ay,ty,q1,cH,q2,q3,q4,cs,cD⟩:=av.heap b c hb
    rw[U] at q1
    obtain rfl:=Option.some.inj q1
    have aW:(E.own dw cW).sz j=E.sz b:=by
     show(dw[j]?.map Blk.sz).getD 0=_
     rw[hk,cH,b9];rfl
    have e2:(E.own dw cW).cp j=E.cp b:=by
     show(match cW j with
      | some b=>E.cp b
      | none=>0)=_
     rw[hs]
    refine⟨_,ay,ty,hk,by rw[aW,cH,b9],q2,by rw[aW,e2];exact q3,by rw[e2,←ao.1];exact q4,fun i row eH=> ?_,fun i l row a eH aG=> ?_⟩
    ·have aQ:=(List.getElem?_eq_some_iff.1 eH).1
     have h1:q.rows[i]?=some (q.rows[i]'(by rw[ao.1];exact aQ)):=List.getElem?_eq_getElem _
     rw[aW,←(ao.2 i _ row h1 eH).1];exact cs i _ h1
    ·have aQ:=(List.getElem?_eq_some_iff.1 eH).1
     have h1:q.rows[i]?=some (q.rows[i]'(by rw[ao.1];exact aQ)):=List.getElem?_eq_getElem _
     have ae:=ao.2 i _ row h1 eH
     have Cr:=(List.getElem?_eq_some_iff.1 aG).1
     have h2:=List.getElem?_eq_getElem (l:=q.rows[i]'(by rw[ao.1];exact aQ)) (i:=l) (by rw[ae.1];exact Cr)
     obtain⟨u,hu,hv⟩:=cD i l _ _ h1 h2
     rw[iB] at hv
     exact⟨u,by rw[aW];exact hu,(ae.2 l _ a h2 aG).v1 av dD hv⟩
  eV:=fun j k hk=>(dD.bf j k hk).symm
  ha:=fun j hm=>by
   obtain⟨al,_⟩:=Al hm
   have hk:dw[j]?=some dw[j]:=List.getElem?_eq_getElem al
   exact⟨_,hk,by show(dw[j]?.map Blk.sz).getD 0=_;rw[hk];rfl⟩
  fresh:=fun j al=>⟨by show(if j<dw.length then _ else _)=_;rw[if_neg (by omega)],rfl⟩
  hC:=fun i j c h1 h2=>by
   obtain⟨hi,h | ⟨b,hs,hb⟩⟩:=Al h1
   ·cases h.2
   ·obtain⟨al,h | ⟨bS,mu,dL⟩⟩:=Al h2
    ·cases h.2
    ·have:=av.hC b bS c hb dL
     subst this
     exact dD.inj i j b hi al hs mu
  jt:=fun t jG c h=>by cases h
  gB:=fun b t c _ h=>by cases h
  hF:=fun c hc h=>av.hF c hc (rh c h)
  ii:=fun c hc ⟨t,h⟩=>by cases h
  dA:=av.dA
  ft:=av.ft
  dP:=av.dP
  fq:=fun c h=>av.fq c (rh c h)
  gr:=fun c ⟨t,h⟩=>by cases h}
end
theorem c0.toOwn {P:Program} {f:FuncId} {args:List AV} {hH:AV} {dw:List Blk} (h:c0 P f args [] fun r H=> ∃cW,uH H dw cW∧H_ H dw.length cW r hH):c0 P f args [] fun r H=>r=hH∧H=dw:=by
 refine⟨h.1,fun E vs ag hs aG=>(h.2 E vs ag hs aG).mono ?_⟩
 rintro e w' ⟨r,v,H',E',rfl,⟨cW,dD,Ce⟩,rfl,afe,mu,hv,aS⟩
 refine⟨hH,v,dw,E'.own dw cW,rfl,⟨rfl,rfl⟩,rfl,fun _=>rfl,ajO mu afe dD,?_,?_⟩
 ·rcases Ce with⟨l,l',rfl,rfl,ae⟩ | Ce
  ·obtain⟨hp,rfl,U⟩:=(show ∃hp:List Value,v= .agg hp.toArray∧af (bZ E') l hp from hv)
   refine⟨hp,rfl,ae.1▸U.1,fun i a u aG hu=> ?_⟩
   have aQ:i<l.length:=by rw[ae.1];exact(List.getElem?_eq_some_iff.1 aG).1
   have h1:=List.getElem?_eq_getElem aQ
   exact(ae.2 i _ a h1 aG).v1 mu dD (U.2 i _ u h1 hu)
  ·have kb:bZ E' r v:=by
    rw[p2,p1] at hv
    ·exact hv
    ·rintro l rfl;cases Ce with
     | nil al hs hx=>exact absurd hx Bool.false_ne_true
    ·rintro l rfl;cases Ce with
     | nil al hs hx=>exact absurd hx Bool.false_ne_true
   exact me (lg (Ce.v1 mu dD kb))
 ·have rh: ∀c,(E'.own dw cW).gq c→E'.gq c:=fun c ⟨j,al⟩=>by
   obtain⟨_,h | ⟨b,_,h⟩⟩:=Al al
   ·cases h.2
   ·exact⟨b,h⟩
  exact{
   le:=⟨aS.le.fG,aS.le.fz,aS.le.wl,aS.le.wf,fun b=>by rw[(hs.fresh b (Nat.zero_le _)).2];exact Nat.zero_le _,(fun b x hm _=>by rw[(hs.fresh b (Nat.zero_le _)).1] at hm;cases hm),(fun t c hm=>by rw[ag t] at hm;cases hm)⟩
   os:=aS.os,tape:=aS.tape,output:=aS.output,size:=aS.size,dF:=aS.dF
   jq:=fun b c hb=>(aS.rf c (rh c ⟨b,hb⟩)).elim (fun⟨j,al⟩=>by rw[(hs.fresh j (Nat.zero_le _)).1] at al;cases al) .inr
   jX:=fun c ⟨t,h⟩=>by cases h
   fG:=aS.fG,fz:=aS.fz}
theorem uH.nil {H:List Blk} {cW:Nat→Option Nat}:uH H [] cW:=⟨fun i j b h=>by simp at h,fun j k h=>by simp at h,fun j b k h=>by simp at h⟩
def qq (l:List (Option Nat)) (j:Nat):Option Nat:=(l[j]?).getD none
def Ib (H:List Blk) (dQ:Nat) (cW:Nat→Option Nat) (k:Blk):Option Nat→Prop
 | none=>True
 | some b=> ∃q,H[b]?=some q∧q.sz=k.sz∧af (af (iv H dQ cW)) q.rows k.rows
def BD (H:List Blk) (dQ:Nat) (cW:Nat→Option Nat):List (Option Nat)→List Blk→Prop
 | [],[]=>True
 | o::l,k::dw=>k.bf=0∧Ib H dQ cW k o∧BD H dQ cW l dw
 | _,_=>False
theorem BD.get {H:List Blk} {dQ:Nat} {cW:Nat→Option Nat}: ∀{l:List (Option Nat)} {dw:List Blk},BD H dQ cW l dw→ ∀(j:Nat) (k:Blk),dw[j]?=some k→ ∃o,l[j]?=some o∧k.bf=0∧Ib H dQ cW k o
 | [],[],_,j,k,h=>by simp at h
 | o::l,q::dw,aG,0,k,h=>by simp at h;subst h;exact⟨o,rfl,aG.1,aG.2.1⟩
 | o::l,q::dw,aG,j+1,k,h=>by
  obtain⟨x,hx,h2⟩:=BD.get aG.2.2 j k (by simpa using h)
  exact⟨x,by simpa using hx,h2⟩
theorem sE {H dw:List Blk} (l:List (Option Nat)) (aw:l.length=dw.length) (aV:(l.filterMap id).Nodup) (h:BD H dw.length (qq l) l dw):uH H dw (qq l) where
 inj:=fun i j b hi al h1 h2=>by
  have fC:i<l.length:=by omega
  have q8:j<l.length:=by omega
  have aW:l[i]=some b:=by have:(l[i]?).getD none=some b:=h1;rwa [List.getElem?_eq_getElem fC] at this
  have e2:l[j]=some b:=by have:(l[j]?).getD none=some b:=h2;rwa [List.getElem?_eq_getElem q8] at this
  rcases Nat.lt_trichotomy i j with aQ | rfl | sb
  ·exfalso
   have ae:=List.pairwise_filterMap.1 aV
   exact(List.pairwise_iff_getElem.1 ae i j fC q8 aQ) b (by simpa using aW) b (by simpa using e2) rfl
  ·rfl
  ·exfalso
   have ae:=List.pairwise_filterMap.1 aV
   exact(List.pairwise_iff_getElem.1 ae j i q8 fC sb) b (by simpa using e2) b (by simpa using aW) rfl
 bf:=fun j k hk=>by obtain⟨o,_,h1,_⟩:=h.get j k hk;exact h1
 blk:=fun j b k hk hs=>by
  obtain⟨o,ai,_,h2⟩:=h.get j k hk
  have:o=some b:=by have hs:(l[j]?).getD none=some b:=hs;rw[ai] at hs;exact hs
  subst this
  exact h2
theorem pM {H:List Blk} {dQ:Nat} {cW:Nat→Option Nat} {α:Type} {enc:α→List AV} {b g sz:Nat} {xs ys:List α} (hb:H[b]?=some ⟨g,sz,List.map enc xs⟩) (hc: ∀x,af (iv H dQ cW) (enc x) (enc x)) (e:xs=ys):
  Ib H dQ cW ⟨0,sz,List.map enc ys⟩ (some b):=by
 subst e
 refine⟨_,hb,rfl,rfl,fun i r G7 h1 h2=> ?_⟩
 rw[List.getElem?_map] at h1 h2
 cases hx:xs[i]? with
 | none=>rw[hx] at h1;cases h1
 | some x=>rw[hx] at h1 h2;cases h1;cases h2;exact hc x
section
variable {H:List Blk} {dQ:Nat} {cW:Nat→Option Nat}
theorem xL (b:Bool):af (iv H dQ cW) (aP b) (aP b):= .cons (.bool _) .nil
theorem Dd (rows:List (List AV)) (fr:Bool):iv H dQ cW (.aX rows false fr) (.aX rows false fr):= .aX _ _ _ _ id
theorem Wj (x:cU):af (iv H dQ cW) (cQ x) (cQ x):= .cons (.int _ _) (.cons (.int _ _) .nil)
theorem GM (x:bx):af (iv H dQ cW) (a1 x) (a1 x):= .cons (.int _ _) (.cons (.int _ _) .nil)
theorem Mo {k:IntKind} {a b:Int} (h:a=b):iv H dQ cW (.int k a) (.int k b):=h▸ .int k a
theorem ajK {a b:Bool} (h:a=b):iv H dQ cW (.bool a) (.bool b):=h▸ .bool a
theorem xN {b g n m j sz:Nat} {full:Bool} {rows:List (List AV)} (al:j<dQ) (hs:cW j=some b) (hb:H[b]?=some ⟨g,sz,rows⟩) (ag:n=m):iv H dQ cW (.ref b g 0 n full) (.ref j 0 0 m false):=ag▸ .ref al hs hb rfl
theorem Mp {a:AV} {j m:Nat} (al:j<dQ) (hs:cW j=none) (h:tW a=true) (hm:0=m):iv H dQ cW a (.ref j 0 0 m false):=hm▸ .nil al hs h
end
theorem sD {α:Type} {enc:α→List AV} {g sz:Nat} {xs:List α} {H:List Blk} (h1: ∀x,(enc x).all rq=true) (h2:vB H=true):vB (⟨g,sz,List.map enc xs⟩::H)=true:=by
 show(((List.map enc xs).all fun row=>row.all rq)&&H.all fun b=>b.rows.all fun row=>row.all rq)=true
 rw[Bool.and_eq_true]
 refine⟨?_,h2⟩
 rw[List.all_eq_true]
 intro row ao
 obtain⟨x,_,rfl⟩:=List.mem_map.1 ao
 exact h1 x
theorem sM {α:Type} {enc:α→List AV} {k g sz:Nat} {xs:List α} {H H':List Blk} (h1: ∀x,(enc x).map (iY k)=enc x) (h2:H.map (lF k)=H'):(Blk.mk g sz (List.map enc xs)::H).map (lF k)=⟨g,sz,List.map enc xs⟩::H':=by
 subst h2
 show(⟨g,sz,(List.map enc xs).map fun row=>row.map (iY k)⟩:Blk)::_=_
 rw[List.map_map]
 congr 2
 exact List.map_congr_left fun x _=>h1 x
theorem sN {k:Nat} {H dw H1 lf:List Blk} (h:dw.map (lF k)=H1) (e:H++H1=lf):H++dw.map (lF k)=lf:=by rw[h,e]
def Env.at (W:World):Env:={w:=W,PA:=fun c=>c<W.heap.size,PF:=fun _=>False,m:=fun _=>none,bf:=fun _=>0,sz:=fun _=>0,cp:=fun _=>0,mL:=fun _=>none}
theorem P8 (W:World):SimH (Env.at W) [] where
 heap:=fun b c hb=>by cases hb
 eV:=fun b blk hb=>by simp at hb
 ha:=fun b hb=>by cases hb
 fresh:=fun b _=>⟨rfl,rfl⟩
 hC:=fun b bS c hb=>by cases hb
 jt:=fun t jG c hb=>by cases hb
 gB:=fun b t c hb=>by cases hb
 hF:=fun c _ ⟨b,hb⟩=>by cases hb
 ii:=fun c _ ⟨b,hb⟩=>by cases hb
 dA:=fun c hc=>hc.elim
 ft:=fun c hc=>hc.elim
 dP:=fun c hc=>hc
 fq:=fun c ⟨b,hb⟩=>by cases hb
 gr:=fun c ⟨b,hb⟩=>by cases hb
theorem ahF {P:Program} {f:FuncId} {cz:List AV} {W:World} {vs:List Value} (h:bc P f cz (.bool true)) (aG:af (V2 (Env.at W)) cz vs):
  Calls P f vs.toArray W fun e PR=>e= .returned (.bool true)∧RowKit.Below W.heap.size W PR:=by
 refine(h.2 (Env.at W) vs (fun _=>rfl) (P8 W) aG).mono ?_
 rintro e w' ⟨r,v,H',E',rfl,ao,rfl,ag,hs,hv,aS⟩
 have hb:r= .bool true:=by
  rcases ao with⟨l,l',_,e,_⟩ | ⟨l,l',_,e,_⟩ | ao
  ·cases e
  ·cases e
  ·cases ao;rfl
 subst hb
 refine⟨by rw[V3.pj hv],aS.os,aS.tape,aS.output,aS.size,fun k hk=>aS.dF k hk (fun⟨b,hb⟩=>by cases hb) (fun⟨b,hb⟩=>by cases hb)⟩
def Es (W:World):AV→Value→Prop:=aY W (fun c=>c<W.heap.size) (fun _=>False)
def iO (P:Program) (W:World) (t:TypeId) {α:Type} (enc:α→List AV):Prop:=
 ∀{H:Type} (kr:TypeId×Value→H) (fuel:Nat) (ay:List Value) (x:DataW H×List MemPlace),DataW.trod kr P W 0 (fun _=>true) true fuel t ay=some x→(∀n∈x.1.weights P t,n≤reachBytes)→ ∃y:α,af (Es W) (enc y) ay
section
variable {P:Program} {W:World}
theorem pH {t:TypeId} {k:IntKind} (hu:P.underlying t=some (.int k)):iO P W t (fun n:Int=>[.int k n]):=fun kr fuel ay x h _=>by
 obtain⟨n,rfl,_⟩:=DataW.trod_int hu h
 exact⟨n,.cons (.int _ _) .nil⟩
theorem ajJ {t:TypeId} (hu:P.underlying t=some .bool):iO P W t aP:=fun kr fuel ay x h _=>by
 obtain⟨n,rfl,_⟩:=DataW.trod_bool hu h
 exact⟨n,.cons (.bool _) .nil⟩
theorem ai9 {α:Type} (n:Nat) (φ:Nat→α→Prop) (h: ∀i,i<n→ ∃y,φ i y): ∃ys:List α,ys.length=n∧ ∀(i:Nat) (y:α),ys[i]?=some y→φ i y:=by
 induction n with
 | zero=>exact⟨[],rfl,fun i y h=>by simp at h⟩
 | succ n br=>
  obtain⟨ys,aw,bi⟩:=br fun i hi=>h i (by omega)
  obtain⟨z,aB⟩:=h n (by omega)
  refine⟨ys++[z],by simp[aw],fun i y hi=> ?_⟩
  rcases Nat.lt_or_ge i n with aQ | f_
  ·rw[List.getElem?_append_left (by omega)] at hi
   exact bi i y hi
  ·rw[List.getElem?_append_right (by omega)] at hi
   rcases Nat.eq_or_lt_of_le f_ with rfl | sb
   ·rw[aw,Nat.sub_self] at hi
    cases hi;exact aB
   ·rw[List.getElem?_eq_none (by simp;omega)] at hi
    cases hi
theorem VW {α β:Type} {f:α→Option β}: ∀{l:List α} {r:List β},l.mapM f=some r→r.length=l.length∧ ∀(i:Nat) (a:α),l[i]?=some a→f a=r[i]?
 | [],r,h=>by simp at h;subst h;exact⟨rfl,fun i a h=>by simp at h⟩
 | x::l,r,h=>by
  rw[List.mapM_cons] at h
  simp only[bind,Option.bind_eq_some_iff,pure,Option.some.injEq] at h
  obtain⟨b,hb,G7,ao,rfl⟩:=h
  obtain⟨h1,h2⟩:=VW ao
  refine⟨by simp[h1],fun i a aG=> ?_⟩
  cases i with
  | zero=>simp at aG;subst aG;simpa using hb
  | succ i=>exact h2 i a (by simpa using aG)
theorem abX {a:Addr} {n:Nat} {l:List Value} (h:W.cells? 0 a n=some l):l.length=n∧ ∀j,j<n→W.cell? (a.add j)=l[j]?:=by
 unfold World.cells? at h
 rw[if_pos (Nat.zero_le _)] at h
 obtain⟨aw,ax⟩:=VW h
 rw[List.length_range] at aw
 exact⟨aw,fun j al=>ax j j (List.getElem?_range al)⟩
theorem am1 {a:Addr} {v:Value} (h:W.cell? a=some v):a.spot=none∧a.block<W.heap.size:=by
 unfold World.cell? at h
 split at h
 ·rename_i c _ _ hb
  split at h
  ·cases h
  ·rename_i hs
   refine⟨by cases U:a.spot<;>simp_all,?_⟩
   rcases Nat.lt_or_ge a.block W.heap.size with h1 | h1
   ·exact h1
   ·rw[Array.getElem?_eq_none h1] at hb;cases hb
 ·cases h
theorem add_add (c o x y:Nat):((⟨c,o,none⟩:Addr).add x).add y=⟨c,o+(x+y),none⟩:=by
 rw[ph,ph,Nat.add_assoc]
theorem sC {t e:TypeId} {α:Type} {enc:α→List AV} (hu:P.underlying t=some (.slice e)) (hb:1≤P.bytesOf e) (aB:1≤P.cellsOf e) (hc: ∀x,(enc x).length=P.cellsOf e) (h:iO P W e enc):iO P W t (gW enc false):=by
 intro H kr fuel ay x a6 hw
 rcases DataW.trod_slice hu a6 with⟨rfl,rfl⟩ | ⟨a,len,cap,y7,rest,n,_,rfl,rfl,_,aw,_,hlen,w2,_,_⟩
 ·refine⟨[],.cons ?_ .nil⟩
  exact aY.aX (rows:=[]) (PB:=fun _=>False) (sz:=0) (vs:=fun _ _=>undef) (fun _ h=>h.elim) ⟨Nat.le_refl _,Nat.zero_le _⟩ (fun h=>by cases h) (fun i row h=>by simp at h) (fun h=>by simp at h) (fun i j row a h=>by simp at h)
 ·have si:(y7.length+rest.length)*P.bytesOf e≤reachBytes:=by
   have:=hw ((y7.length+rest.length)*P.bytesOf e) (by simp[DataW.weights,hu])
   simpa using this
  have gN:len≤4611686018427387904:=by
   have h1:y7.length+rest.length≤(y7.length+rest.length)*P.bytesOf e:=Nat.le_mul_of_pos_right _ hb
   have h2:=reachBytes_lt
   have au:(2:Nat) ^ 47=140737488355328:=rfl
   omega
  have dS: ∀(l:List (DataW H)) (d:DataW H),d∈l→ ∀m∈d.weights P e,m∈DataW.weightsAll P e l:=by
   intro l
   induction l with
   | nil=>intro d aV;cases aV
   | cons q l br=>
    intro d aV m hm
    simp only[DataW.weightsAll,List.mem_append]
    rcases List.mem_cons.1 aV with rfl | aV
    ·exact .inl hm
    ·exact .inr (br d aV m hm)
  obtain⟨ys,F2,bi⟩:=ai9 len (fun i y=> ∃l,W.cells? 0 (a.add (i*P.cellsOf e)) (P.cellsOf e)=some l∧af (Es W) (enc y) l) fun i hi=>by
   have h1:=w2 i hi
   have h2:y7[i]?=some (y7[i]'(by omega)):=List.getElem?_eq_getElem _
   rw[h2,Option.bind_eq_some_iff] at h1
   obtain⟨l,wZ,afM⟩:=h1
   obtain⟨y,bi⟩:=h kr n l _ afM fun m hm=>hw m (by
    simp only[DataW.weights,hu,List.mem_cons,List.mem_append]
    exact .inr (.inl (dS _ _ (List.mem_map.2 ⟨_,List.getElem_mem (by omega),rfl⟩) m hm)))
   exact⟨y,l,wZ,bi⟩
  have gY: ∀i j,i<len→j<P.cellsOf e→ ∃l v,W.cells? 0 (a.add (i*P.cellsOf e)) (P.cellsOf e)=some l∧l[j]?=some v∧W.cell? ((a.add (i*P.cellsOf e)).add j)=some v:=fun i j hi al=>by
   obtain⟨l,q_,_⟩:=bi i _ (List.getElem?_eq_getElem (by omega))
   obtain⟨q1,q2⟩:=abX q_
   exact⟨l,l[j]'(by omega),q_,List.getElem?_eq_getElem _,by rw[q2 j al];exact List.getElem?_eq_getElem _⟩
  let vs:Nat→Nat→Value:=fun i j=>(((W.cells? 0 (a.add (i*P.cellsOf e)) (P.cellsOf e)).getD [])[j]?).getD undef
  refine⟨ys,.cons ?_ .nil⟩
  have key:=aY.aX (w:=W) (PA:=fun c=>c<W.heap.size) (PF:=fun _=>False) (PB:=fun c=>c<W.heap.size) (rows:=List.map enc ys) (full:=false) (fresh:=false) (A:=some a) (cap:=cap) (sz:=P.cellsOf e) (vs:=vs)
   (fun c hc=>by simpa using hc) (by rw[List.length_map,F2];exact⟨aw,gN⟩) (fun h=>by cases h)
   (fun i row ao=>by
    rw[List.getElem?_map] at ao
    cases U:ys[i]? with
    | none=>rw[U] at ao;cases ao
    | some y=>rw[U] at ao;cases ao;exact hc y)
   (fun lW=>by
    rw[List.length_map,F2] at lW
    obtain⟨l,v,_,_,hv⟩:=gY 0 0 lW aB
    rw[Nat.zero_mul] at hv
    have az:(a.add 0).add 0=a:=by simp[Addr.add]
    rw[az] at hv
    obtain⟨hs,aQ⟩:=am1 hv
    obtain⟨c,o,s⟩:=a
    have hs:s=none:=hs
    subst hs
    refine⟨c,o,rfl,aQ,fun i j hi al=> ?_⟩
    rw[List.length_map,F2] at hi
    obtain⟨l,v,q1,q2,q3⟩:=gY i j hi al
    rw[add_add] at q3
    rw[q3]
    show some v=some ((((W.cells? 0 _ _).getD [])[j]?).getD undef)
    rw[q1]
    show some v=some ((l[j]?).getD undef)
    rw[q2];rfl)
   (fun i j row b ao al=>by
    rw[List.getElem?_map] at ao
    cases U:ys[i]? with
    | none=>rw[U] at ao;cases ao
    | some y=>
     rw[U] at ao;cases ao
     obtain⟨l,q_,ae⟩:=bi i y U
     obtain⟨v,hv,nT⟩:=ae.get al
     show aY W _ _ b ((((W.cells? 0 _ _).getD [])[j]?).getD undef)
     rw[q_]
     show aY W _ _ b ((l[j]?).getD undef)
     rw[hv];exact nT)
  rw[List.length_map,F2] at key
  exact key
def Bd (P:Program) (t:TypeId) (cI:List TypeId):Bool:=match P.underlying t with
 | some (.struct eA)=>(eA.toList.zipIdx.all fun p=>p.1.offset==p.2&&P.cellsOf p.1.type==1)&&eA.toList.map (·.type)==cI&&P.cellsOf t==cI.length
 | _=>false
theorem HL {t:TypeId} {cI:List TypeId} (hs:Bd P t cI=true) {H:Type} {kr:TypeId×Value→H} {fuel:Nat} {ay:List Value} {x:DataW H×List MemPlace} (h:DataW.trod kr P W 0 (fun _=>true) true fuel t ay=some x)
  (hw: ∀n∈x.1.weights P t,n≤reachBytes):ay.length=cI.length∧ ∀(i:Nat) (u:TypeId) (v:Value),cI[i]?=some u→ay[i]?=some v→ ∃(n:Nat) (z:DataW H×List MemPlace),DataW.trod kr P W 0 (fun _=>true) true n u [v]=some z∧ ∀m∈z.1.weights P u,m≤reachBytes:=by
 unfold Bd at hs
 split at hs
 ·rename_i eA hu
  simp only[Bool.and_eq_true,beq_iff_eq] at hs
  obtain⟨⟨h1,h2⟩,au⟩:=hs
  obtain⟨xs,n,_,rfl,aw,rc,hf⟩:=DataW.trod_struct hu h
  refine⟨by rw[aw,au],fun i u v a6 hv=> ?_⟩
  have hi:i<eA.size:=by
   have:=(List.getElem?_eq_some_iff.1 a6).1
   rw[←h2] at this;simpa using this
  have JW:eA[i]?=some eA[i]:=Array.getElem?_eq_getElem hi
  have afO:eA[i].type=u:=by
   have:(eA.toList.map (·.type))[i]?=some u:=by rw[h2];exact a6
   rw[List.getElem?_map,Array.getElem?_toList,JW] at this
   exact Option.some.inj this
  have J9:=List.all_eq_true.1 h1 (eA[i],i) (by rw[List.mem_zipIdx_iff_getElem?];rw[Array.getElem?_toList];exact JW)
  simp only[Bool.and_eq_true,beq_iff_eq] at J9
  have:=hf i eA[i] JW
  rw[J9.1,J9.2,afO] at this
  have FT:(ay.drop i).take 1=[v]:=by
   have aQ:=(List.getElem?_eq_some_iff.1 hv).1
   rw[List.drop_eq_getElem_cons aQ,List.take_succ_cons,List.take_zero]
   have:=(List.getElem?_eq_some_iff.1 hv).2
   rw[this]
  rw[FT] at this
  have SY:xs[i]?=some (xs[i]'(by omega)):=List.getElem?_eq_getElem _
  rw[SY] at this
  refine⟨n,_,this,fun m hm=>hw m ?_⟩
  simp only[DataW.weights,hu]
  exact DataW.weights_mem_each (j:=i) (by rw[h2];exact a6) (by rw[List.getElem?_map,SY];rfl) m hm
 ·cases hs
theorem BY {ay:List Value} (h:ay.length=2): ∃a b,ay=[a,b]:=by
 match ay,h with
 | [a,b],_=>exact⟨a,b,rfl⟩
theorem abU {ay:List Value} (h:ay.length=3): ∃a b c,ay=[a,b,c]:=by
 match ay,h with
 | [a,b,c],_=>exact⟨a,b,c,rfl⟩
theorem Qy {ay:List Value} (h:ay.length=5): ∃a b c d e,ay=[a,b,c,d,e]:=by
 match ay,h with
 | [a,b,c,d,e],_=>exact⟨a,b,c,d,e,rfl⟩
theorem n3 {α:Type} {u:TypeId} {enc:α→List AV} {f:α→AV} (he: ∀y,enc y=[f y]) (h:iO P W u enc) {H:Type} {kr:TypeId×Value→H} {n:Nat} {v:Value} {z:DataW H×List MemPlace} (a6:DataW.trod kr P W 0 (fun _=>true) true n u [v]=some z)
  (hw: ∀m∈z.1.weights P u,m≤reachBytes): ∃y,Es W (f y) v:=by
 obtain⟨y,bi⟩:=h kr n [v] z a6 hw
 rw[he] at bi
 exact⟨y,bi.head⟩
theorem Wp {t a b:TypeId} (hs:Bd P t [a,b]=true) (aG:iO P W a cd) (hb:iO P W b cd):iO P W t cQ:=fun kr fuel ay x h hw=>by
 obtain⟨aw,hc⟩:=HL hs h hw
 obtain⟨gK,c1,rfl⟩:=BY aw
 obtain⟨dQ,z0,cH,aD⟩:=hc 0 a gK rfl rfl
 obtain⟨gf,pW,q1,bp⟩:=hc 1 b c1 rfl rfl
 obtain⟨qI,hH⟩:=n3 (fun _=>rfl) aG cH aD
 obtain⟨uA,dG⟩:=n3 (fun _=>rfl) hb q1 bp
 exact⟨⟨qI,uA⟩,.cons hH (.cons dG .nil)⟩
theorem ajG {t a b c:TypeId} (hs:Bd P t [a,b,c]=true) (aG:iO P W a cd) (hb:iO P W b cd) (aV:iO P W c cd):iO P W t fJ:=fun kr fuel ay x h hw=>by
 obtain⟨aw,hc⟩:=HL hs h hw
 obtain⟨gK,c1,c2,rfl⟩:=abU aw
 obtain⟨dQ,z0,cH,aD⟩:=hc 0 a gK rfl rfl
 obtain⟨gf,pW,q1,bp⟩:=hc 1 b c1 rfl rfl
 obtain⟨n2,z2,q2,bn⟩:=hc 2 c c2 rfl rfl
 obtain⟨qI,hH⟩:=n3 (fun _=>rfl) aG cH aD
 obtain⟨uA,dG⟩:=n3 (fun _=>rfl) hb q1 bp
 obtain⟨Eg,et⟩:=n3 (fun _=>rfl) aV q2 bn
 exact⟨⟨qI,uA,Eg⟩,.cons hH (.cons dG (.cons et .nil))⟩
theorem ajI {t a b c d e:TypeId} (hs:Bd P t [a,b,c,d,e]=true) (aG:iO P W a (gW cd false)) (hb:iO P W b (gW cQ false)) (JQ:iO P W c (gW cQ false)) (aV:iO P W d (gW cd false)) (he:iO P W e (gW cd false)):iO P W t (da false):=fun kr fuel ay x h hw=>by
 obtain⟨aw,hc⟩:=HL hs h hw
 obtain⟨gK,c1,c2,c3,c4,rfl⟩:=Qy aw
 obtain⟨dQ,z0,cH,aD⟩:=hc 0 a gK rfl rfl
 obtain⟨gf,pW,q1,bp⟩:=hc 1 b c1 rfl rfl
 obtain⟨n2,z2,q2,bn⟩:=hc 2 c c2 rfl rfl
 obtain⟨pF,z3,q3,en⟩:=hc 3 d c3 rfl rfl
 obtain⟨ajx,z4,q4,j5⟩:=hc 4 e c4 rfl rfl
 obtain⟨qI,hH⟩:=n3 (fun _=>rfl) aG cH aD
 obtain⟨uA,dG⟩:=n3 (fun _=>rfl) hb q1 bp
 obtain⟨Eg,et⟩:=n3 (fun _=>rfl) JQ q2 bn
 obtain⟨PD,eN⟩:=n3 (fun _=>rfl) aV q3 en
 obtain⟨PE,rA⟩:=n3 (fun _=>rfl) he q4 j5
 exact⟨⟨qI,uA,Eg,PD,PE⟩,.cons hH (.cons dG (.cons et (.cons eN (.cons rA .nil))))⟩
theorem ajH {t a b c d e:TypeId} (hs:Bd P t [a,b,c,d,e]=true) (aG:iO P W a cd) (hb:iO P W b (gW cd false)) (JQ:iO P W c (gW (da false) false)) (aV:iO P W d (gW (gW aP false) false)) (he:iO P W e cd):iO P W t (bA false):=fun kr fuel ay x h hw=>by
 obtain⟨aw,hc⟩:=HL hs h hw
 obtain⟨gK,c1,c2,c3,c4,rfl⟩:=Qy aw
 obtain⟨dQ,z0,cH,aD⟩:=hc 0 a gK rfl rfl
 obtain⟨gf,pW,q1,bp⟩:=hc 1 b c1 rfl rfl
 obtain⟨n2,z2,q2,bn⟩:=hc 2 c c2 rfl rfl
 obtain⟨pF,z3,q3,en⟩:=hc 3 d c3 rfl rfl
 obtain⟨ajx,z4,q4,j5⟩:=hc 4 e c4 rfl rfl
 obtain⟨qI,hH⟩:=n3 (fun _=>rfl) aG cH aD
 obtain⟨uA,dG⟩:=n3 (fun _=>rfl) hb q1 bp
 obtain⟨Eg,et⟩:=n3 (fun _=>rfl) JQ q2 bn
 obtain⟨PD,eN⟩:=n3 (fun _=>rfl) aV q3 en
 obtain⟨PE,rA⟩:=n3 (fun _=>rfl) he q4 j5
 exact⟨⟨qI,uA,Eg,PD,PE⟩,.cons hH (.cons dG (.cons et (.cons eN (.cons rA .nil))))⟩
theorem aa_ {t:TypeId} {α:Type} {enc:α→List AV} {k:Nat} (h:iO P W t enc) (hk:2≤k) (hc: ∀y,(enc y).length=k) {H:Type} {kr:TypeId×Value→H} {v:Value} {d:DataW H} {ps:List MemPlace} (a6:DataW.Trod kr P W 0 (fun _=>true) true t v d ps)
  (hw: ∀n∈d.weights P t,n≤reachBytes): ∃y,V2 (Env.at W) (.agg (enc y)) v:=by
 obtain⟨fuel,hf⟩:=a6
 obtain⟨y,ae⟩:=h kr fuel _ _ hf hw
 have aw:=ae.1
 rw[hc] at aw
 have hv:v= .agg v.cells:=by
  cases v<;>first | rfl | (simp[Value.cells] at aw;omega)
 refine⟨y,v.cells.toList,by rw[Array.toArray_toList];exact hv,ae.mono fun a u ao=>aY.v1 (E:=Env.at W) ao⟩
theorem aa9 {t:TypeId} {α:Type} {enc:α→List AV} {f:α→AV} (h:iO P W t enc) (he: ∀y,enc y=[f y]) {H:Type} {kr:TypeId×Value→H} {v:Value} {d:DataW H} {ps:List MemPlace} (a6:DataW.Trod kr P W 0 (fun _=>true) true t v d ps)
  (hw: ∀n∈d.weights P t,n≤reachBytes) (hv:v.cells= #[v]): ∃y,V2 (Env.at W) (f y) v:=by
 obtain⟨fuel,hf⟩:=a6
 rw[hv] at hf
 obtain⟨y,ae⟩:=h kr fuel _ _ hf hw
 rw[he] at ae
 have ao:Es W (f y) v:=ae.head
 exact⟨y,lg (aY.v1 (E:=Env.at W) ao)⟩
end
def UK (P:Program) (fn:Func) (c:OpenClaim):Bool:=c.kinds==(if c.domain.isEmpty then[] else fn.params.toList.map fun t=>match P.underlying t with | some (.int k)=>some k | _=>none)
theorem ahA {P:Program} {f:FuncId} {fn:Func} {s:ChangeSpec} {c:OpenClaim} (az:(c.wf (OpenSpec.ofChange s))=true) (h1:laidOutB P=true) (h2:mapsRowed P=true) (au:fn.params.all (P.readableRec ·)=true) (a8:namedTie P c.named s.vars=true) (bQ:(c.stops==[])=true) (cv:(P.stops==[])=true) (gO:(c.knobs==[])=true) (tp:(P.stopKnobs==[])=true) (wS:(c.inPlace==P.inPlace f)=true) (uZ:(c.unfollowed==P.unfollowed f)=true) (aeb:(c.recurses==P.recurses f)=true) (pv:(c.named==P.varsNamed f)=true) (aec:(c.maps==(fn.params.toList++s.plain.varTypes P).any (P.mapsRec ·))=true) (aed:(c.ifaces==(fn.params.toList++s.plain.varTypes P).any (P.ifacesRec ·))=true) (aee:(c.mapsOut==P.mapsAmong fn.resultTypes.toList)=true) (aef:(c.loops==(fn.params.toList++s.plain.varTypes P).any (P.loopsFrom ·))=true) (aeg:(c.wideKeys==(fn.params.toList++s.plain.varTypes P++fn.resultTypes.toList).any (P.wideKeysFrom ·))=true) (aeh:s.vars.all (P.varReadable ·)=true) (aei:fn.resultTypes.all (fun t=>P.readableRec t&&decide (t<P.types.size))=true) (Fp:(c.ifacesOut==fn.resultTypes.toList.any (P.ifacesRec ·))=true) (aej:(c.loopsOut==fn.resultTypes.toList.any (P.loopsFrom ·))=true) (aek:(c.plainKeys==P.plainKeys)=true) (ael:c.shortTexts.isNone=true) (aem:P.stopsHeard=true) (aen:P.mayEnter=true) (aeo:(c.lifted==P.liftsFinal)=true) (aep:(P.make==some c.make)=true) (aeq:UK P fn c=true) (aer:(c.pinned==c.pinnedBy)=true) (nM:(c.veiled==(fn.params.toList++s.plain.varTypes P++fn.resultTypes.toList).any (P.veiledRec ·))=true) (aes:c.veiledFits P fn.params.toList (fn.params.toList++s.plain.varTypes P++fn.resultTypes.toList)=true):joinedFacts P f fn s c=true:=by
 unfold joinedFacts
 simp only[Bool.and_eq_true]
 exact⟨⟨⟨⟨⟨⟨⟨⟨⟨⟨⟨⟨⟨⟨⟨⟨⟨⟨⟨⟨⟨⟨⟨⟨⟨⟨⟨⟨⟨⟨⟨az,h1⟩,h2⟩,au⟩,a8⟩,bQ⟩,cv⟩,gO⟩,tp⟩,wS⟩,uZ⟩,aeb⟩,pv⟩,aec⟩,aed⟩,aee⟩,aef⟩,aeg⟩,aeh⟩,aei⟩,Fp⟩,aej⟩,aek⟩,ael⟩,aem⟩,aen⟩,aeo⟩,aep⟩,aeq⟩,aer⟩,nM⟩,aes⟩
theorem ajA {α:Type} [Inhabited α] {xs:List α} {i:Int} (h:i.toNat<xs.length):nth xs i=xs[i.toNat]:=by
 have:=fM h
 rw[List.getElem?_eq_getElem h] at this
 exact(Option.some.inj this).symm
def bh (b:List Bool):Blk:=⟨0,1,List.map aP b⟩
def kv (s:Nat) (h:aq) (id:Nat):List AV:=[.int .i64 h.ar,.int .i64 h.a7,.ref (id+s) 0 0 h.ah.length false,.bool h.bI,.int .i64 h.bG]
def aR (s:Nat) (ws:List aq) (ids:List Nat):List (List AV):=List.zipWith (kv s) ws ids
def view (ws:List aq) (ids:List Nat) (bs:List (List Bool)):List aq:=List.zipWith (fun h id=>{h with ah:=bs.getD id []}) ws ids
structure kQ (ws:List aq) (ids:List Nat) (bs:List (List Bool)):Prop where
 len:ws.length=ids.length
 lt: ∀(i id:Nat),ids[i]?=some id→id<bs.length
 ah: ∀(i id:Nat) (h:aq),ws[i]?=some h→ids[i]?=some id→h.ah.length=(bs.getD id []).length
theorem dx {s:Nat} {ws:List aq} {ids:List Nat} {i:Int} (aw:ws.length=ids.length) (hi:i.toNat<ws.length):(aR s ws ids)[i.toNat]?=some (kv s (nth ws i) (nth ids i)):=by
 unfold aR
 rw[List.getElem?_zipWith,fM hi,fM (by omega)]
theorem u0 {s:Nat} {ws:List aq} {ids:List Nat} (aw:ws.length=ids.length):(aR s ws ids).length=ws.length:=by
 unfold aR;rw[List.length_zipWith];omega
theorem zl {s:Nat} {ws:List aq} {ids:List Nat} {i:Nat} {h:aq} {id:Nat} (aw:ws.length=ids.length):(aR s ws ids).set i (kv s h id)=aR s (ws.set i h) (ids.set i id):=by
 apply List.ext_getElem?
 intro j
 unfold aR
 rw[List.getElem?_set,List.getElem?_zipWith,List.getElem?_zipWith,List.getElem?_set,List.getElem?_set]
 by_cases mX:i=j
 ·subst mX
  simp only[if_true,List.length_zipWith]
  by_cases hi:i<ws.length
  ·rw[if_pos (by omega),if_pos hi,if_pos (by omega)]
  ·rw[if_neg (by omega),if_neg hi]
 ·simp only[if_neg mX]
theorem kw {s:Nat} {ws:List aq} {ids:List Nat} {i:Int} {h:aq} (aw:ws.length=ids.length) (hi:i.toNat<ws.length):(aR s ws ids).set i.toNat (kv s h (nth ids i))=aR s (ws.set i.toNat h) ids:=by
 rw[zl aw]
 congr 1
 rw[ajA (by omega)]
 exact List.set_getElem_self _
theorem JH {s:Nat} {ws:List aq} {ids:List Nat} {h:aq} {id:Nat} (aw:ws.length=ids.length):aR s ws ids++[kv s h id]=aR s (ws++[h]) (ids++[id]):=by
 unfold aR
 rw[List.zipWith_append aw];rfl
theorem r3 {bs:List (List Bool)} {id:Nat} (h:id<bs.length):(List.map bh bs)[id]?=some (bh (bs.getD id [])):=by
 rw[List.getElem?_map,List.getElem?_eq_getElem h,List.getD_eq_getElem?_getD,List.getElem?_eq_getElem h];rfl
theorem Jg {bs:List (List Bool)} {id:Nat} {b:List Bool}:(List.map bh bs).set id (bh b)=List.map bh (bs.set id b):=by rw[List.map_set]
theorem BV {b:List Bool} {i:Int} (h:i.toNat<b.length):(List.map aP b)[i.toNat]?=some (aP (nth b i)):=by rw[List.getElem?_map,fM h];rfl
theorem Ir {b:List Bool} {i:Nat} {x:Bool}:(List.map aP b).set i (aP x)=List.map aP (b.set i x):=by rw[List.map_set]
theorem i_ {ws:List aq} {ids:List Nat} {bs:List (List Bool)} (h:kQ ws ids bs):(view ws ids bs).length=ws.length:=by
 unfold view;rw[List.length_zipWith];have:=h.len;omega
theorem yq {ws:List aq} {ids:List Nat} {bs:List (List Bool)} {i:Nat} {h:aq} {id:Nat} (h1:ws[i]?=some h) (h2:ids[i]?=some id):(view ws ids bs)[i]?=some {h with ah:=bs.getD id []}:=by
 unfold view;rw[List.getElem?_zipWith,h1,h2]
theorem uk {s:Nat} {ws:List aq} {ids:List Nat} {i:Nat} {row:List AV} (h:(aR s ws ids)[i]?=some row): ∃x id,ws[i]?=some x∧ids[i]?=some id∧row=kv s x id:=by
 unfold aR at h
 rw[List.getElem?_zipWith] at h
 cases hx:ws[i]? with
 | none=>rw[hx] at h;cases h
 | some x=>
  cases aV:ids[i]? with
  | none=>rw[hx,aV] at h;cases h
  | some id=>rw[hx,aV] at h;cases h;exact⟨x,id,rfl,rfl,rfl⟩
theorem vR {L:List (Nat×List AV)} {H:List Blk} {b s n:Nat} {full:Bool} {ws:List aq} {ids:List Nat} {bs:List (List Bool)} (ag:n=ws.length) (hb:H[b]?=some ⟨0,5,aR s ws ids⟩)
  (hf: ∀(id:Nat) (k:Blk),(List.map bh bs)[id]?=some k→H[id+s]?=some k) (ok:kQ ws ids bs) (gN:ws.length≤4611686018427387904) (Fq: ∀x∈bs,x.length≤4611686018427387904):
  fQ L H (.ref b 0 0 n full) (.aX (List.map (fR false) (view ws ids bs)) false false):=by
 subst ag
 refine fQ.ref (fun h=>by cases h) hb rfl (by rw[List.length_map,i_ ok]) gN (by rw[Nat.zero_add,u0 ok.len];exact Nat.le_refl _) (fun i row row' h1 h2=> ?_) (fun i j row row' a c h1 h2 au a8=> ?_)
 ·rw[Nat.zero_add] at h1
  obtain⟨x,id,hx,aV,rfl⟩:=uk h1
  rw[List.getElem?_map,yq hx aV] at h2
  cases h2;rfl
 ·rw[Nat.zero_add] at h1
  obtain⟨x,id,hx,aV,rfl⟩:=uk h1
  rw[List.getElem?_map,yq hx aV] at h2
  cases h2
  have aQ:=ok.lt i id aV
  have key:pX L H (kv s x id) (fR false {x with ah:=bs.getD id []}):=by
   refine .cons (.int _ _) (.cons (.int _ _) (.cons ?_ (.cons (.bool _) (.cons (.int _ _) .nil))))
   have hm:bs.getD id []∈bs:=by rw[List.getD_eq_getElem?_getD,List.getElem?_eq_getElem aQ];exact List.getElem_mem aQ
   exact n_ (eT:=aP) (eF:=aP) (sz:=1) (ok.ah i id x hx aV) (hf id _ (r3 aQ)) vc (Fq _ hm)
  exact key.2 j a c au a8
theorem HG {H:List Blk} {b g s n:Nat} {full:Bool} {ws ys:List aq} {ids:List Nat} {bs:List (List Bool)} (ag:n=ws.length) (hb:H[b]?=some ⟨g,5,aR s ws ids⟩)
  (hf: ∀(id:Nat) (k:Blk),(List.map bh bs)[id]?=some k→H[id+s]?=some k) (h:kQ ws ids bs∧ws.length≤4611686018427387904∧(∀x∈bs,x.length≤4611686018427387904)∧view ws ids bs=ys):
  gk H (.ref b g 0 n full) (.aX (List.map (fR false) ys) false true):=by
 obtain⟨ok,gN,Fq,rfl⟩:=h
 subst ag
 refine gk.ref (fun h=>by cases h) (fun i j=>(((view ws ids bs)[i]?).bind fun x=>(fR true x)[j]?).getD .undef) hb rfl (by rw[List.length_map,i_ ok]) gN (by rw[Nat.zero_add,u0 ok.len];exact Nat.le_refl _) (fun i row row' h1 h2=> ?_) (fun i j row a hi h1 h2=> ?_) (fun i j row' c h1 h2=> ?_)
 ·rw[Nat.zero_add] at h1
  obtain⟨x,id,hx,aV,rfl⟩:=uk h1
  rw[List.getElem?_map,yq hx aV] at h2
  cases h2;rfl
 ·rw[Nat.zero_add] at h1
  obtain⟨x,id,hx,aV,rfl⟩:=uk h1
  rw[yq hx aV]
  have aQ:=ok.lt i id aV
  have hm:bs.getD id []∈bs:=by rw[List.getD_eq_getElem?_getD,List.getElem?_eq_getElem aQ];exact List.getElem_mem aQ
  show gk H a (((some ({x with ah:=bs.getD id []}:aq)).bind fun x=>(fR true x)[j]?).getD .undef)
  match j,h2 with
  | 0,h2=>cases h2;exact .int _ _
  | 1,h2=>cases h2;exact .int _ _
  | 2,h2=>
   cases h2
   exact sU (eT:=aP) (eF:=aP) (sz:=1) (ok.ah i id x hx aV) (hf id _ (r3 aQ)) y1 ⟨Fq _ hm,rfl⟩
  | 3,h2=>cases h2;exact .bool _
  | 4,h2=>cases h2;exact .int _ _
  | j+5,h2=>simp[kv] at h2
 ·rw[List.getElem?_map] at h1
  cases hv:(view ws ids bs)[i]? with
  | none=>rw[hv] at h1;cases h1
  | some x=>
   rw[hv] at h1;cases h1
   show c=jL (((some x).bind fun x=>(fR true x)[j]?).getD .undef)
   match j,h2 with
   | 0,h2=>cases h2;rfl
   | 1,h2=>cases h2;rfl
   | 2,h2=>cases h2;rfl
   | 3,h2=>cases h2;rfl
   | 4,h2=>cases h2;rfl
   | j+5,h2=>simp[fR] at h2
theorem Weak.Ad [cl] (sz:Nat) {T:List AV} {L:List (Nat×List AV)} {H:List Blk}:Weak ⟨T,L,H⟩ ⟨T,L,H++[⟨0,sz,[]⟩]⟩:=fun b_ E tmps g s=>by
 obtain⟨E',hw,aS,h1,h2,_⟩:=GC (blk:=⟨0,sz,[]⟩) s.h s.l rfl rfl
 exact⟨E',hw,g.step aS,h1,h2,fun t=>(s.iI t).le aS.le,s.size⟩
theorem Weak.clear [cl] (j:Nat) {g sz:Nat} {rows:List (List AV)} {T:List AV} {L:List (Nat×List AV)} {H:List Blk} (al:H[j]?=some ⟨g,sz,rows⟩):Weak ⟨T,L,H⟩ ⟨T,L,H.set j ⟨g,sz,[]⟩⟩:=fun b_ E tmps ad5 s=>by
 have mY:=(List.getElem?_eq_some_iff.1 al).1
 have get: ∀(b:Nat) (blk:Blk),(H.set j ⟨g,sz,[]⟩)[b]?=some blk→(b=j∧blk=⟨g,sz,[]⟩)∨(b≠j∧H[b]?=some blk):=fun b blk h=>by
  rw[List.getElem?_set] at h
  split at h
  ·rename_i e;subst e;exact .inl ⟨rfl,(Option.some.inj h).symm⟩
  ·rename_i e;exact .inr ⟨fun h=>e h.symm,h⟩
 have e5:SimH E H:=s.h
 refine⟨E,rfl,ad5,{e5 with
  heap:=fun b c hb=> ?_,eV:=fun b blk hb=> ?_,ha:=fun b hb=> ?_,fresh:=fun b hb=>e5.fresh b (by simpa using hb)},s.l,s.iI,s.size⟩
 ·obtain⟨blk,ay,ty,q1,cH,q2,q3,q4,cs⟩:=e5.heap b c hb
  by_cases e:b=j
  ·subst e
   rw[al] at q1
   obtain rfl:=Option.some.inj q1
   exact⟨⟨g,sz,[]⟩,ay,ty,by rw[List.getElem?_set];simp[mY],cH,q2,q3,Nat.zero_le _,fun i row h=>by simp at h,fun i j row a h=>by simp at h⟩
  ·exact⟨blk,ay,ty,by rw[List.getElem?_set,if_neg (fun h=>e h.symm)];exact q1,cH,q2,q3,q4,cs⟩
 ·rcases get b blk hb with⟨rfl,rfl⟩ | ⟨_,hb⟩
  ·exact(e5.eV b _ al:)
  ·exact e5.eV b blk hb
 ·obtain⟨blk,q1,cH⟩:=e5.ha b hb
  by_cases e:b=j
  ·subst e
   rw[al] at q1
   obtain rfl:=Option.some.inj q1
   exact⟨⟨g,sz,[]⟩,by rw[List.getElem?_set];simp[mY],cH⟩
  ·exact⟨blk,by rw[List.getElem?_set,if_neg (fun h=>e h.symm)];exact q1,cH⟩
theorem XU (H:List Blk):H.map (lF 0)=H:=by
 have az: ∀a:AV,iY 0 a=a:=fun a=>by cases a<;>simp[iY]
 have:lF 0=id:=by
  funext b
  obtain⟨g,s,rows⟩:=b
  show(⟨g,s,rows.map fun row=>row.map (iY 0)⟩:Blk)=⟨g,s,rows⟩
  congr 1
  have:(fun row:List AV=>row.map (iY 0))=id:=by funext row;rw[show iY 0=id from funext az];simp
  rw[this];simp
 rw[this];simp
theorem GR {g0 g1 g2 s:Nat} {aN:List Bool} {ik:List bx} {ws:List aq} {ids:List Nat} {bs:List (List Bool)}:vB (⟨g0,1,List.map aP aN⟩::⟨g1,2,List.map a1 ik⟩::⟨g2,5,aR s ws ids⟩::List.map bh bs)=true:=by
 refine sD (fun _=>rfl) (sD (fun _=>rfl) ?_)
 unfold vB
 rw[List.all_eq_true]
 intro b hb
 rw[List.all_eq_true]
 intro row ao
 rcases List.mem_cons.1 hb with rfl | hb
 ·obtain⟨i,hi⟩:=List.mem_iff_getElem?.1 ao
  obtain⟨x,id,_,_,rfl⟩:=uk hi
  rfl
 ·obtain⟨b,_,rfl⟩:=List.mem_map.1 hb
  obtain⟨x,_,rfl⟩:=List.mem_map.1 ao
  rfl
def x3 (j:Nat):Option Nat:=if j<3 then some j else some (j+1)
theorem Ww {r:AV} {g0 g1 g2 g3 dQ gf n2:Nat} {f0 f1 f2:Bool} {R:Frame} {ok:Bool} {aN:List Bool} {ik:List bx} {ws:List aq} {ids:List Nat} {bs:List (List Bool)} {rows:List (List AV)}
  (h:ok=R.ok∧aN=R.aN∧ik=R.aH∧ws=R.O∧ids=List.range ws.length∧bs=ws.map aq.ah) (az:dQ=aN.length) (h1:gf=ik.length) (h2:n2=ws.length) (ao:r= .agg [.bool ok,.ref 0 g0 0 dQ f0,.ref 1 g1 0 gf f1,.ref 2 g2 0 n2 f2]):
  ∃cW,uH (⟨g0,1,List.map aP aN⟩::⟨g1,2,List.map a1 ik⟩::⟨g2,5,aR 4 ws ids⟩::⟨g3,5,rows⟩::List.map bh bs)
   (⟨0,1,List.map aP R.aN⟩::⟨0,2,List.map a1 R.aH⟩::⟨0,5,aR 3 R.O (List.range R.O.length)⟩::List.map bh (List.map aq.ah R.O)) cW∧
   H_ (⟨g0,1,List.map aP aN⟩::⟨g1,2,List.map a1 ik⟩::⟨g2,5,aR 4 ws ids⟩::⟨g3,5,rows⟩::List.map bh bs)
    (⟨0,1,List.map aP R.aN⟩::⟨0,2,List.map a1 R.aH⟩::⟨0,5,aR 3 R.O (List.range R.O.length)⟩::List.map bh (List.map aq.ah R.O)).length cW r
    (.agg [.bool R.ok,.ref 0 0 0 R.aN.length false,.ref 1 0 0 R.aH.length false,.ref 2 0 0 R.O.length false]):=by
 obtain⟨rfl,rfl,rfl,rfl,rfl,rfl⟩:=h
 subst az;subst h1;subst h2;subst ao
 have hlen:(⟨0,1,List.map aP R.aN⟩::⟨0,2,List.map a1 R.aH⟩::⟨0,5,aR 3 R.O (List.range R.O.length)⟩::List.map bh (List.map aq.ah R.O):List Blk).length=R.O.length+3:=by simp
 refine⟨x3,⟨fun i j b hi al h1 h2=> ?_,fun j k hk=> ?_,fun j b k hk hs=> ?_⟩,.inl ⟨_,_,rfl,rfl,?_⟩⟩
 ·unfold x3 at h1 h2
  split at h1<;>split at h2<;>simp at h1 h2<;>omega
 ·match j,hk with
  | 0,hk=>simp at hk;subst hk;rfl
  | 1,hk=>simp at hk;subst hk;rfl
  | 2,hk=>simp at hk;subst hk;rfl
  | j+3,hk=>simp at hk;obtain⟨x,_,rfl⟩:=hk;rfl
 ·rw[hlen]
  match j,hk,hs with
  | 0,hk,hs=>
   simp at hk;subst hk
   obtain rfl:0=b:=by simpa[x3] using hs
   exact pM (b:=0) rfl xL rfl
  | 1,hk,hs=>
   simp at hk;subst hk
   obtain rfl:1=b:=by simpa[x3] using hs
   exact pM (b:=1) rfl GM rfl
  | 2,hk,hs=>
   simp at hk;subst hk
   obtain rfl:2=b:=by simpa[x3] using hs
   refine⟨_,rfl,rfl,⟨by rw[u0 (by simp),u0 (by simp)],fun i akf fc aG hb=> ?_⟩⟩
   obtain⟨x,id,hx,aV,rfl⟩:=uk aG
   obtain⟨lM,fE,iR,oB,rfl⟩:=uk hb
   rw[hx] at iR;cases iR
   rw[aV] at oB;cases oB
   have u3:i<R.O.length:=(List.getElem?_eq_some_iff.1 hx).1
   obtain rfl:i=id:=by rw[List.getElem?_range u3] at aV;exact Option.some.inj aV
   refine .cons (.int _ _) (.cons (.int _ _) (.cons ?_ (.cons (.bool _) (.cons (.int _ _) .nil))))
   refine iv.ref (blk:=bh x.ah) (by omega) (by simp[x3]) ?_ rfl
   show(List.map bh (List.map aq.ah R.O))[i]?=_
   rw[List.getElem?_map,List.getElem?_map,hx];rfl
  | j+3,hk,hs=>
   obtain rfl:j+4=b:=by
    unfold x3 at hs
    rw[if_neg (by omega)] at hs;exact Option.some.inj hs
   have hk:(List.map bh (List.map aq.ah R.O))[j]?=some k:=by simpa using hk
   have: ∃x,k=bh x:=by
    rw[List.getElem?_map] at hk
    cases U:(List.map aq.ah R.O)[j]? with
    | none=>rw[U] at hk;cases hk
    | some x=>rw[U] at hk;cases hk;exact⟨x,rfl⟩
   obtain⟨x,rfl⟩:=this
   have hb:(⟨g0,1,List.map aP R.aN⟩::⟨g1,2,List.map a1 R.aH⟩::⟨g2,5,aR 4 R.O (List.range R.O.length)⟩::⟨g3,5,rows⟩::List.map bh (List.map aq.ah R.O):List Blk)[j+4]?=some ⟨0,1,List.map aP x⟩:=hk
   exact pM (b:=j+4) hb xL rfl
 ·rw[hlen]
  exact .cons (.bool _) (.cons (.ref (by omega) rfl rfl rfl) (.cons (.ref (by omega) rfl rfl rfl) (.cons (.ref (by omega) rfl rfl rfl) .nil)))
theorem ak6 {k s:Nat} {ws:List aq} {ids:List Nat}:(aR s ws ids).map (fun row=>row.map (iY k))=aR (s+k) ws ids:=by
 apply List.ext_getElem?
 intro i
 unfold aR
 rw[List.getElem?_map,List.getElem?_zipWith,List.getElem?_zipWith]
 cases ws[i]? with
 | none=>rfl
 | some h=>
  cases ids[i]? with
  | none=>rfl
  | some id=>
   show some [_,_,AV.ref (k+(id+s)) 0 0 h.ah.length false,_,_]=some [_,_,AV.ref (id+(s+k)) 0 0 h.ah.length false,_,_]
   rw[show k+(id+s)=id+(s+k) by omega];rfl
theorem ak5 {k:Nat} {bs:List (List Bool)}:(List.map bh bs).map (lF k)=List.map bh bs:=by
 rw[List.map_map]
 refine List.map_congr_left fun b _=> ?_
 show(⟨0,1,(List.map aP b).map fun row=>row.map (iY k)⟩:Blk)=⟨0,1,_⟩
 rw[List.map_map]
 congr 1
theorem XV {k g0 g1 g2 s:Nat} {aN:List Bool} {ik:List bx} {ws:List aq} {ids:List Nat} {bs:List (List Bool)}:
  (⟨g0,1,List.map aP aN⟩::⟨g1,2,List.map a1 ik⟩::⟨g2,5,aR s ws ids⟩::List.map bh bs:List Blk).map (lF k)=⟨g0,1,List.map aP aN⟩::⟨g1,2,List.map a1 ik⟩::⟨g2,5,aR (s+k) ws ids⟩::List.map bh bs:=by
 refine sM (fun _=>rfl) (sM (fun _=>rfl) ?_)
 show(⟨g2,5,(aR s ws ids).map fun row=>row.map (iY k)⟩:Blk)::(List.map bh bs).map (lF k)=_
 rw[ak6,ak5]
structure fP (ws:List aq) (ids:List Nat) (bs:List (List Bool)):Prop where
 ok:kQ ws ids bs
 kF: ∀i j k:Nat,ids[i]?=some k→ids[j]?=some k→i=j
 len: ∀b∈bs,b.length≤1048576
theorem ti {bs:List (List Bool)} {b:List Bool}:List.map bh bs++[⟨0,1,List.map aP b⟩]=List.map bh (bs++[b]):=by rw[List.map_append];rfl
section
variable {P:Program} {esc:List Nat} {ops:Array Oper} {n:Nat} {X:List Oper} {i0:Nat} {A:List (Nat×AV)} {L:List (Nat×List AV)} {H:List Blk} {K:List (Nat×AV)→List (Nat×List AV)→List Blk→Prop}
theorem iX (aZ:Nat) (d:Option Nat) (N:List (Nat×AV)) (rows:List (List AV)) {row:List AV} (i:Int) (t:TypeId) (c g:Nat) (v:AV) (eH:rows[i.toNat]?=some row) (h:evS P esc ops n (X.drop (i0+aZ)) (cS d v N A) L H K)
  (e2: ∀K,jH P t row c K=K v:=by intro K;kernel_rfl)
  (e: ∀K,evS P esc ops n ((X.drop i0).take aZ) A L H K=(g=g∧cC rows[0+i.toNat]? fun row=>jH P t row c fun v=>K (cS d v N A) L H):=by intro K;kernel_rfl):evS P esc ops n (X.drop i0) A L H K:=by
 rw[jU X i0 aZ,e]
 exact⟨rfl,ec (a:=row) (by rw[Nat.zero_add];exact eH) (by rw[e2];exact h)⟩
theorem akM (aZ:Nat) (d:Option Nat) (N:List (Nat×AV)) (rows:List (List AV)) {row row':List AV} (i:Int) (c k g:Nat) (cells:List AV) (H':List (List AV)→List Blk) (iW:List (List AV)) (eH:rows[i.toNat]?=some row) (ln:rows.set i.toNat row'=iW)
  (h:evS P esc ops n (X.drop (i0+aZ)) (cS d (.tup []) N A) L (H' iW) K) (hc:Nat.ble (c+k) row.length=true:=by kernel_rfl) (hs:fe row c cells=row':=by kernel_rfl)
  (e: ∀K,evS P esc ops n ((X.drop i0).take aZ) A L H K=(g=g∧cC rows[0+i.toNat]? fun row=>c+k≤row.length∧K (cS d (.tup []) N A) L (H' (rows.set (0+i.toNat) (fe row c cells)))):=by intro K;kernel_rfl):evS P esc ops n (X.drop i0) A L H K:=by
 rw[jU X i0 aZ,e]
 refine⟨rfl,ec (a:=row) (by rw[Nat.zero_add];exact eH) ⟨Nat.le_of_ble_eq_true hc,?_⟩⟩
 ·rw[hs,Nat.zero_add,ln];exact h
theorem ki (aZ:Nat) (d:Option Nat) (N:List (Nat×AV)) (rows:List (List AV)) {row row':List AV} (i:Int) (c k g:Nat) (cells:List AV) (j:Nat) (iW:List (List AV)) (eH:rows[i.toNat]?=some row) (ln:rows.set i.toNat row'=iW)
  (h:evS P esc ops n (X.drop (i0+aZ)) (cS d (.tup []) N A) L (ie j iW H) K) (hc:Nat.ble (c+k) row.length=true:=by kernel_rfl) (hs:fe row c cells=row':=by kernel_rfl)
  (e: ∀K,evS P esc ops n ((X.drop i0).take aZ) A L H K=(g=g∧cC rows[0+i.toNat]? fun row=>c+k≤row.length∧K (cS d (.tup []) N A) L (ie j (rows.set (0+i.toNat) (fe row c cells)) H)):=by intro K;kernel_rfl):evS P esc ops n (X.drop i0) A L H K:=akM aZ d N rows i c k g cells (fun r=>ie j r H) iW eH ln h hc hs e
theorem akH (aZ:Nat) (d:Option Nat) (N:List (Nat×AV)) (bs:List (List Bool)) (id s:Nat) {i:Int} {m:Nat} (hid:id<bs.length) (az:0≤i∧i.toNat<m) (h:evS P esc ops n (X.drop (i0+aZ)) (cS d (.ptr (id+s) 0 (0+i.toNat) 0) N A) L H K)
  (e: ∀K,evS P esc ops n ((X.drop i0).take aZ) A L H K=(cC (List.map bh bs)[id]? fun blk=>blk.bf=0∧blk.sz=1∧0≤i∧i<m∧K (cS d (.ptr (id+s) 0 (0+i.toNat) 0) N A) L H):=by intro K;kernel_rfl):evS P esc ops n (X.drop i0) A L H K:=by
 rw[jU X i0 aZ,e]
 exact ec (r3 hid) ⟨rfl,rfl,az.1,by have:=az.2;omega,h⟩
theorem akL (aZ:Nat) (d:Option Nat) (N:List (Nat×AV)) (bs:List (List Bool)) (id:Nat) (i:Int) (x:Bool) (H':List Blk→List Blk) (hid:id<bs.length) (hi:i.toNat<(bs.getD id []).length)
  (h:evS P esc ops n (X.drop (i0+aZ)) (cS d (.tup []) N A) L (H' (List.map bh (bs.set id ((bs.getD id []).set i.toNat x)))) K)
  (e: ∀K,evS P esc ops n ((X.drop i0).take aZ) A L H K=(cC (List.map bh bs)[id]? fun blk=>blk.bf=0∧cC blk.rows[0+i.toNat]? fun row=>0+1≤row.length∧K (cS d (.tup []) N A) L (H' ((List.map bh bs).set id {blk with rows:=blk.rows.set (0+i.toNat) (fe row 0 [.bool x])}))):=by intro K;kernel_rfl):evS P esc ops n (X.drop i0) A L H K:=by
 rw[jU X i0 aZ,e]
 have key:(List.map bh bs).set id {bh (bs.getD id []) with rows:=(bh (bs.getD id [])).rows.set (0+i.toNat) (fe (aP (nth (bs.getD id []) i)) 0 [.bool x])}=List.map bh (bs.set id ((bs.getD id []).set i.toNat x)):=by
  rw[←Jg]
  congr 1
  show(⟨0,1,(List.map aP (bs.getD id [])).set (0+i.toNat) (aP x)⟩:Blk)=⟨0,1,_⟩
  rw[Nat.zero_add,Ir]
 refine ec (r3 hid) ⟨rfl,ec (a:=aP (nth (bs.getD id []) i)) (by rw[Nat.zero_add];exact BV hi) ⟨Nat.le_refl _,?_⟩⟩
 ·rw[key];exact h
theorem XI (aZ:Nat) (N:List (Nat×AV)) (H':List Blk) {φ ψ:Prop} (h1:φ) (h2:ψ) (h:evS P esc ops n (X.drop (i0+aZ)) (gE N A) L H' K) (e: ∀K,evS P esc ops n ((X.drop i0).take aZ) A L H K=(φ∧ψ∧K (gE N A) L H'):=by intro K;kernel_rfl):evS P esc ops n (X.drop i0) A L H K:=by
 rw[jU X i0 aZ,e];exact⟨h1,h2,h⟩
theorem XH (H':List Blk) (av:H=H') (h:evS P esc ops n (X.drop i0) A L H' K):evS P esc ops n (X.drop i0) A L H K:=by
 subst av;exact h
theorem vO (aZ:Nat) (d:Option Nat) (N:List (Nat×AV)) {g:FuncId} (args:List AV) (Q:AV→List Blk→Prop) (hf:c0 P g args H Q) (ao: ∀r H',Q r H'→Ag r=true) (h: ∀r H',Q r H'→evS P esc ops n (X.drop (i0+aZ)) (cS d r N A) L H' K)
  (ag:args.all eL=true:=by kernel_rfl) (aw:args.all kG=true:=by kernel_rfl) (e: ∀K,evS P esc ops n ((X.drop i0).take aZ) A L H K=(lQ P g args L H (fun v L' H'=>K (cS d v N A) L' H')):=by intro K;kernel_rfl):evS P esc ops n (X.drop i0) A L H K:=by
 rw[jU X i0 aZ,e]
 exact .inr (.inr (.inl ⟨ag,aw,hf.mono fun r H' U=>⟨ao r H' U,h r H' U⟩⟩))
theorem akJ (aZ:Nat) (d:Option Nat) (N:List (Nat×AV)) {i:Int} (B:Int) (z:List AV) (m:Nat) (lf:List Blk) (az:0≤i∧B*i≤140737488355328∧i≤4611686018427387904) (aw:H.length=m) (hx:H++[⟨0,1,List.map aP (List.replicate i.toNat false)⟩]=lf)
  (h:evS P esc ops n (X.drop (i0+aZ)) (cS d (.ref m 0 0 (List.replicate i.toNat false).length false) N A) L lf K) (aB:z=aP false:=by rfl)
  (e: ∀K,evS P esc ops n ((X.drop i0).take aZ) A L H K=(0≤i∧i≤i∧B*i≤140737488355328∧i≤4611686018427387904∧K (cS d (.ref H.length 0 0 i.toNat false) N A) L (H++[⟨0,1,List.replicate i.toNat z⟩])):=by intro K;kernel_rfl):evS P esc ops n (X.drop i0) A L H K:=by
 rw[jU X i0 aZ,e]
 subst aw;subst hx;subst aB
 rw[List.length_replicate,List.map_replicate] at h
 exact⟨az.1,Int.le_refl _,az.2.1,az.2.2,h⟩
theorem akI (aZ:Nat) (d:Option Nat) (N:List (Nat×AV)) (ys:List Bool) (B:Nat) (m:Nat) (lf:List Blk) (az:ys.length*B≤140737488355328∧ys.length≤4611686018427387904) (aw:H.length=m) (hx:H++[⟨0,1,List.map aP ys⟩]=lf)
  (h:evS P esc ops n (X.drop (i0+aZ)) (cS d (.ref m 0 0 ys.length false) N A) L lf K)
  (e: ∀K,evS P esc ops n ((X.drop i0).take aZ) A L H K=(true=true∧true=true∧sK 1 (List.map aP ys)∧true=true∧(∀row∈([]:List (List AV)),row.length=1)∧(List.length (α:=List AV) []+(List.map aP ys).length)*B≤140737488355328∧List.length (α:=List AV) []+(List.map aP ys).length≤4611686018427387904∧(([]:List (List AV))≠[]→(List.map aP ys)≠[])∧
   K (cS d (.ref H.length 0 0 (List.length (α:=List AV) []+(List.map aP ys).length) false) N A) L (H++[⟨0,1,[]++(List.map aP ys)⟩])):=by intro K;kernel_rfl):evS P esc ops n (X.drop i0) A L H K:=by
 rw[jU X i0 aZ,e]
 subst aw;subst hx
 refine⟨rfl,rfl,Hf (enc:=aP) (fun _=>⟨rfl,rfl⟩) ys,rfl,(fun row h=>by cases h),by simpa using az.1,by simpa using az.2,(fun h=>absurd rfl h),?_⟩
 simpa using h
theorem XF (aZ:Nat) (d:Option Nat) (N:List (Nat×AV)) (s b g q B:Nat) (ws:List aq) (ids:List Nat) (x:aq) (id:Nat) (H':List (List AV)→List Blk) (aw:ws.length=ids.length)
  (az:(ws.length+1)*B≤140737488355328∧ws.length+1≤4611686018427387904) (h:evS P esc ops n (X.drop (i0+aZ)) (cS d (.ref b (g+1) 0 (ws++[x]).length false) N A) L (H' (aR s (ws++[x]) (ids++[id]))) K)
  (e: ∀K,evS P esc ops n ((X.drop i0).take aZ) A L H K=(true=true∧true=true∧(q=q∧0+1≤1∧(sK 5 [kv s x id]∧0=0∧g=g∧5=5∧(aR s ws ids).length=ws.length∧(ws.length+1)*B≤140737488355328∧ws.length+1≤4611686018427387904∧
   K (cS d (.ref b (g+1) 0 (ws.length+1) false) N A) L (H' (aR s ws ids++[kv s x id]))))):=by intro K;kernel_rfl):evS P esc ops n (X.drop i0) A L H K:=by
 rw[jU X i0 aZ,e]
 refine⟨rfl,rfl,rfl,Nat.le_refl _,?_,rfl,rfl,rfl,u0 aw,az.1,az.2,?_⟩
 ·intro row ao
  rw[List.mem_singleton.1 ao]
  exact⟨rfl,fun a aG=>List.all_eq_true.1 (show(kv s x id).all jo=true from rfl) a aG⟩
 ·rw[JH aw];rw[List.length_append] at h;exact h
end
section
variable {P:Program} {esc:List Nat} {ops:Array Oper} {n:Nat} {X:List Item} {i0:Nat} {A:List (Nat×AV)} {L:List (Nat×List AV)} {H:List Blk} {K:List (Nat×AV)→List (Nat×List AV)→List Blk→Prop}
theorem o8 (aZ:Nat) (d:Option Nat) (N:List (Nat×AV)) (rows:List (List AV)) {row:List AV} (i:Int) (t:TypeId) (c g:Nat) (v:AV) (eH:rows[i.toNat]?=some row) (h:evSD P esc ops n (X.drop (i0+aZ)) (cS d v N A) L H K)
  (e2: ∀K,jH P t row c K=K v:=by intro K;kernel_rfl)
  (e: ∀K,evSD P esc ops n ((X.drop i0).take aZ) A L H K=(g=g∧cC rows[0+i.toNat]? fun row=>jH P t row c fun v=>K (cS d v N A) L H):=by intro K;kernel_rfl):evSD P esc ops n (X.drop i0) A L H K:=by
 rw[lS X i0 aZ,e]
 exact⟨rfl,ec (a:=row) (by rw[Nat.zero_add];exact eH) (by rw[e2];exact h)⟩
theorem ZW (aZ:Nat) (d:Option Nat) (N:List (Nat×AV)) (rows:List (List AV)) {row row':List AV} (i:Int) (c k g:Nat) (cells:List AV) (F:List (List AV)→Prop) (H':List (List AV)→List Blk) (iW:List (List AV)) (eH:rows[i.toNat]?=some row) (ln:rows.set i.toNat row'=iW)
  (cO:F (iW)) (h:evSD P esc ops n (X.drop (i0+aZ)) (cS d (.tup []) N A) L (H' iW) K) (hc:Nat.ble (c+k) row.length=true:=by kernel_rfl) (hs:fe row c cells=row':=by kernel_rfl)
  (e: ∀K,evSD P esc ops n ((X.drop i0).take aZ) A L H K=(g=g∧cC rows[0+i.toNat]? fun row=>c+k≤row.length∧F ((rows.set (0+i.toNat) (fe row c cells)))∧K (cS d (.tup []) N A) L (H' (rows.set (0+i.toNat) (fe row c cells)))):=by intro K;kernel_rfl):evSD P esc ops n (X.drop i0) A L H K:=by
 rw[lS X i0 aZ,e]
 refine⟨rfl,ec (a:=row) (by rw[Nat.zero_add];exact eH) ⟨Nat.le_of_ble_eq_true hc,?_,?_⟩⟩
 ·rw[hs,Nat.zero_add,ln];exact cO
 ·rw[hs,Nat.zero_add,ln];exact h
theorem ym (aZ:Nat) (d:Option Nat) (N:List (Nat×AV)) (bs:List (List Bool)) (id s:Nat) {i:Int} {m:Nat} (hid:id<bs.length) (az:0≤i∧i.toNat<m) (h:evSD P esc ops n (X.drop (i0+aZ)) (cS d (.ptr (id+s) 0 (0+i.toNat) 0) N A) L H K)
  (e: ∀K,evSD P esc ops n ((X.drop i0).take aZ) A L H K=(cC (List.map bh bs)[id]? fun blk=>blk.bf=0∧blk.sz=1∧0≤i∧i<m∧K (cS d (.ptr (id+s) 0 (0+i.toNat) 0) N A) L H):=by intro K;kernel_rfl):evSD P esc ops n (X.drop i0) A L H K:=by
 rw[lS X i0 aZ,e]
 exact ec (r3 hid) ⟨rfl,rfl,az.1,by have:=az.2;omega,h⟩
theorem D9 (aZ:Nat) (d:Option Nat) (N:List (Nat×AV)) (bs:List (List Bool)) (id:Nat) (i:Int) (t:TypeId) (hid:id<bs.length) (hi:i.toNat<(bs.getD id []).length) (h:evSD P esc ops n (X.drop (i0+aZ)) (cS d (.bool (nth (bs.getD id []) i)) N A) L H K)
  (e2: ∀x K,jH P t (aP x) 0 K=K (.bool x):=by intro x K;kernel_rfl)
  (e: ∀K,evSD P esc ops n ((X.drop i0).take aZ) A L H K=(cC (List.map bh bs)[id]? fun blk=>blk.bf=0∧cC blk.rows[0+i.toNat]? fun row=>jH P t row 0 fun v=>K (cS d v N A) L H):=by intro K;kernel_rfl):evSD P esc ops n (X.drop i0) A L H K:=by
 rw[lS X i0 aZ,e]
 refine ec (r3 hid) ⟨rfl,ec (a:=aP (nth (bs.getD id []) i)) (by rw[Nat.zero_add];exact BV hi) (by rw[e2];exact h)⟩
theorem ZV (aZ:Nat) (d:Option Nat) (N:List (Nat×AV)) (bs:List (List Bool)) (id:Nat) (i:Int) (x:Bool) (F:List Blk→Prop) (H':List Blk→List Blk) (hid:id<bs.length) (hi:i.toNat<(bs.getD id []).length)
  (cO:F ((List.map bh (bs.set id ((bs.getD id []).set i.toNat x))))) (h:evSD P esc ops n (X.drop (i0+aZ)) (cS d (.tup []) N A) L (H' (List.map bh (bs.set id ((bs.getD id []).set i.toNat x)))) K)
  (e: ∀K,evSD P esc ops n ((X.drop i0).take aZ) A L H K=(cC (List.map bh bs)[id]? fun blk=>blk.bf=0∧cC blk.rows[0+i.toNat]? fun row=>0+1≤row.length∧F (((List.map bh bs).set id {blk with rows:=blk.rows.set (0+i.toNat) (fe row 0 [.bool x])}))∧K (cS d (.tup []) N A) L (H' ((List.map bh bs).set id {blk with rows:=blk.rows.set (0+i.toNat) (fe row 0 [.bool x])}))):=by intro K;kernel_rfl):evSD P esc ops n (X.drop i0) A L H K:=by
 rw[lS X i0 aZ,e]
 have key:(List.map bh bs).set id {bh (bs.getD id []) with rows:=(bh (bs.getD id [])).rows.set (0+i.toNat) (fe (aP (nth (bs.getD id []) i)) 0 [.bool x])}=List.map bh (bs.set id ((bs.getD id []).set i.toNat x)):=by
  rw[←Jg]
  congr 1
  show(⟨0,1,(List.map aP (bs.getD id [])).set (0+i.toNat) (aP x)⟩:Blk)=⟨0,1,_⟩
  rw[Nat.zero_add,Ir]
 refine ec (r3 hid) ⟨rfl,ec (a:=aP (nth (bs.getD id []) i)) (by rw[Nat.zero_add];exact BV hi) ⟨Nat.le_refl _,?_,?_⟩⟩
 ·rw[key];exact cO
 ·rw[key];exact h
theorem ZT (aZ:Nat) (d:Option Nat) (N:List (Nat×AV)) (s b g q B:Nat) (ws:List aq) (ids:List Nat) (x:aq) (id:Nat) (F:List (List AV)→Prop) (H':List (List AV)→List Blk) (aw:ws.length=ids.length)
  (az:(ws.length+1)*B≤140737488355328∧ws.length+1≤4611686018427387904) (cO:F ((aR s (ws++[x]) (ids++[id])))) (h:evSD P esc ops n (X.drop (i0+aZ)) (cS d (.ref b (g+1) 0 (ws++[x]).length false) N A) L (H' (aR s (ws++[x]) (ids++[id]))) K)
  (e: ∀K,evSD P esc ops n ((X.drop i0).take aZ) A L H K=(true=true∧true=true∧(q=q∧0+1≤1∧(sK 5 [kv s x id]∧0=0∧g=g∧5=5∧(aR s ws ids).length=ws.length∧(ws.length+1)*B≤140737488355328∧ws.length+1≤4611686018427387904∧
   F ((aR s ws ids++[kv s x id]))∧K (cS d (.ref b (g+1) 0 (ws.length+1) false) N A) L (H' (aR s ws ids++[kv s x id]))))):=by intro K;kernel_rfl):evSD P esc ops n (X.drop i0) A L H K:=by
 rw[lS X i0 aZ,e]
 refine⟨rfl,rfl,rfl,Nat.le_refl _,?_,rfl,rfl,rfl,u0 aw,az.1,az.2,?_,?_⟩
 ·intro row ao
  rw[List.mem_singleton.1 ao]
  exact⟨rfl,fun a aG=>List.all_eq_true.1 (show(kv s x id).all jo=true from rfl) a aG⟩
 ·rw[JH aw];exact cO
 ·rw[JH aw];rw[List.length_append] at h;exact h
end
end Go.Proofs.YtejmihecgodhnaaGreatDoor.Fw
