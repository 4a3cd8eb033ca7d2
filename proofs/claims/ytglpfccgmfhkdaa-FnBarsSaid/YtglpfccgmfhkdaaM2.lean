/- The framework, part OP: a call that is handed one struct in the memory (or a variable of the caller's) to write into, beside values that stay. -/
import Derived.Test.YtglpfccgmfhkdaaM1
set_option linter.unusedVariables false
namespace Go.Proofs.Ytglpfccgmfhkdaa.Fw
open Go
def uP:AV→Bool
 | .bD _ full fr=> !full&& !fr
 | a=>jD a
theorem aa4 {a:AV} (h:uP a=true):jD a=true∧kw a=a:=by
 cases a with
 | bD rows full fr=>
  refine⟨rfl,?_⟩
  cases full<;>cases fr<;>first | rfl | cases h
 | _=>first | exact⟨h,rfl⟩
def iV (P:Program) (f:FuncId) (g:Nat) (args:List AV) (ba dF:List AV) (t:AV):Prop:=
 dI P f args [⟨g,ba.length,[ba]⟩] fun r fe=> ∃B,fe=⟨g,ba.length,[dF]⟩::B∧im (⟨g+1,ba.length,[dF]⟩::B) r t
def tM (p q a J:AV):Prop:=(a=p∧J=q)∨da [] [] a J
theorem QP {E:Env} (aI: ∀c,E.PF c→E.PA c) {a b:AV} (h:ga [] [] a b): ∀{v:Value},cN E a v→bH E.w E.PA (fun _=>False) b v:=by
 induction h with
 | undef a=>intro v _;exact .undef v
 | int k n=>intro v hv;have hv:bH E.w E.PA E.PF (.int k n) v:=hv;cases hv;exact .int _ _
 | bool k=>intro v hv;have hv:bH E.w E.PA E.PF (.bool k) v:=hv;cases hv;exact .bool _
 | str k=>intro v hv;have hv:bH E.w E.PA E.PF (.str k) v:=hv;cases hv;exact .str _
 | gf=>intro v hv;have hv:bH E.w E.PA E.PF .gf v:=hv;cases hv;exact .gf
 | gC=>intro v hv;have hv:bH E.w E.PA E.PF .gC v:=hv;cases hv;exact .gC
 | bD rows full fr eD hw=>
  intro v hv
  have hv:bH E.w E.PA E.PF (.bD rows full fr) v:=hv
  cases hv with
  | bD gl gQ hC cK fj ec=>
   exact .bD (fun c hc=>by
    have:=gl c hc
    simp only[Bool.false_eq_true,if_false]
    split at this
    ·exact aI c this
    ·exact this) gQ (fun h=>hC (hw h)) cK fj ec
 | dA cells c=>
  intro v hv
  have hv:bH E.w E.PA E.PF (.dA cells c) v:=hv
  cases hv with
  | dA hc fj ec=>exact .dA hc fj ec
 | fG hg=>cases hg
 | ptr hb=>cases hb
 | ref _ hb=>cases hb
 | @fn f caps yo aL aK bS=>
  intro v hv
  obtain⟨vs,rfl,aj⟩:=(show ∃vs:List Value,v= .func (.func f) #[] vs.toArray∧aD (fv E) caps vs from hv)
  exact .fn (aL▸aj.1) fun i b u hb hu=>by
   have bf:i<caps.length:=by have:=(List.getElem?_eq_some_iff.1 hb).1;omega
   exact bS i _ b (List.getElem?_eq_getElem bf) hb (Dx (aj.2 i _ u (List.getElem?_eq_getElem bf) hu))
theorem ad4 {E E1:Env} (aI: ∀c,E.PF c→E.PA c) (hw:E1.w=E.w) (yL:E1.PA=E.PA) {a b:AV} (h:da [] [] a b) {v:Value} (hv:V2 E a v):V2 E1 b v:=by
 have up: ∀{b:AV} {v:Value},bH E.w E.PA (fun _=>False) b v→cN E1 b v:=fun h=>bH.v1 (E:=E1) (h.mono (fun _ _=>by rw[hw]) (fun _ h=>h.elim) (fun c hc=>by rw[yL];exact hc) (fun _ h=>h.elim))
 rcases h with⟨l,fq,rfl,rfl,aj⟩ | h
 ·obtain⟨vs,rfl,aK⟩:=hv
  refine⟨vs,rfl,aj.1▸aK.1,fun i x u hx hu=> ?_⟩
  have bf:i<l.length:=by have:=(List.getElem?_eq_some_iff.1 hx).1;have:=aj.1;omega
  have aL:=List.getElem?_eq_getElem bf
  exact up (QP aI (aj.2 i _ x aL hx) (aK.2 i _ u aL hu))
 ·by_cases hf: ∃l,a= .agg l
  ·obtain⟨l,rfl⟩:=hf
   cases h with
   | undef=>exact bH.undef v
  ·rw[pu fun l e=>hf ⟨l,e⟩] at hv
   exact ql (up (QP aI h hv))
def Env.one (E:Env) (bl g sz cp:Nat):Env:=
 {w:=E.w,PA:=E.PA,PF:=fun _=>False,m:=fun j=>if j=0 then some (some bl) else none,bF:=fun j=>if j=0 then g else 0
  sz:=fun j=>if j=0 then sz else 0,cp:=fun j=>if j=0 then cp else 0,mL:=fun _=>none}
theorem u3 {E:Env} {bl g sz cp j c:Nat} (h:(E.one bl g sz cp).m j=some (some c)):j=0∧c=bl:=by
 have h:(if j=0 then some (some bl) else none)=some (some c):=h
 split at h
 ·rename_i e;cases h;exact⟨e,rfl⟩
 ·cases h
theorem ab4 {E:Env} {H:List Blk} (aV:SimH E H) {bl g cp:Nat} {ba:List AV} {cells:Array Value} {ty:TypeId} (hn:bl<E.w.heap.size) (yL: ¬E.PA bl) (hw:E.w.heap[bl]?=some (.cells cells ty (0,0))) (cK:cells.size=cp*ba.length) (h1:1≤cp)
  (hk:ba.all uP=true) (aK: ∀(j:Nat) (a:AV),ba[j]?=some a→ ∃u,cells[j]?=some u∧cN E a u):SimH (E.one bl g ba.length cp) [⟨g,ba.length,[ba]⟩] where
 heap:=fun b c hb=>by
  obtain⟨rfl,rfl⟩:=u3 hb
  have eX: ∀{i:Nat} {row:List AV},([ba]:List (List AV))[i]?=some row→i=0∧row=ba:=fun{i row} h=>by
   cases i with
   | zero=>cases h;exact⟨rfl,rfl⟩
   | succ i=>cases h
  refine⟨⟨g,ba.length,[ba]⟩,cells,ty,rfl,rfl,hw,cK,h1,fun i row h=> ?_,fun i j row a h aM=> ?_⟩
  ·rw[(eX h).2];rfl
  ·obtain⟨rfl,rfl⟩:=eX h
   obtain⟨u,hu,hv⟩:=aK j a aM
   refine⟨u,by rw[Nat.zero_mul,Nat.zero_add];exact hu,?_⟩
   have Ft:=aa4 (List.all_eq_true.1 hk a (List.mem_of_getElem? aM))
   have:=Jx Ft.1 (AN Ft.1 hv) (fun c hc=>hc) aV.e0
   rw[Ft.2] at this
   exact bH.v1 (E:=(E.one c g row.length cp).b_) this
 fg:=fun b blk hb=>by
  cases b with
  | zero=>cases hb;rfl
  | succ b=>cases hb
 hE:=fun b hb=>by
  have hb:(if b=0 then some (some bl) else none)=some none:=hb
  split at hb<;>cases hb
 fresh:=fun b hb=>by
  have hb:1≤b:=hb
  exact⟨if_neg (by omega),if_neg (by omega)⟩
 h6:=fun b ct c h1 h2=>by rw[(u3 h1).1,(u3 h2).1]
 jK:=fun t jR c h=>by cases h
 gT:=fun b t c _ h=>by cases h
 h7:=fun c hc ⟨b,hb⟩=>by rw[(u3 hb).2] at hc;exact yL hc
 iw:=fun c _ ⟨t,bu⟩=>by cases bu
 e0:=fun c hc=>hc.elim
 fc:=aV.fc
 gB:=fun c ⟨b,hb⟩=>by rw[(u3 hb).2];exact hn
 g_:=fun c ⟨t,bu⟩=>by cases bu
structure tL (E:Env) (bl k n:Nat) (dF:List AV) (t:AV) (v:Value) (E':Env):Prop where
 m:E'.m=E.m
 mL:E'.mL=E.mL
 bF:E'.bF=E.bF
 sz:E'.sz=E.sz
 cp:E'.cp=E.cp
 fL: ∀c,E.PA c→E'.PA c
 fM: ∀c,E.PF c→E'.PF c
 e0: ∀c,E'.PF c→E'.PA c
 Cx: ∀c,E'.PA c→E.PA c∨(E.w.heap.size≤c∧c<E'.w.heap.size)
 acf: ∀c,E'.PF c→E.PF c∨E.w.heap.size≤c
 os:E'.w.os=E.w.os
 tape:E'.w.tape=E.w.tape
 output:E'.w.output=E.w.output
 size:E.w.heap.size≤E'.w.heap.size
 fh: ∀c,c<E.w.heap.size→c≠bl→E'.w.heap[c]?=E.w.heap[c]?
 new: ∃cells ty,E'.w.heap[bl]?=some (.cells cells ty (0,0))∧cells.size=k∧dF.length=n∧ ∀(j:Nat) (a:AV),dF[j]?=some a→ ∃u,cells[j]?=some u∧bH E'.w E'.PA E'.PF a u
 np:V3 E' t v
theorem ad6 {E1 E':Env} {H:List Blk} (hs:SimH E1 H) (hw:E'.w=E1.w) (hu: ∀c,E1.PF c∨E1.gS c→E'.PA c∧E'.PF c) {a b:AV} {u:Value} (h:im H a b) (hv:V3 E1 a u):V3 E' b u:=by
 have fs: ∀{a b:AV} {u:Value},gH H a b→cN E1 a u→cN E' b u:=fun a4 nF=>bH.v1 (E:=E') ((QQ hs a4 nF).mono (fun _ _=>by rw[hw]) (fun _ _=>by rw[hw]) (fun c hc=>(hu c hc).1) (fun c hc=>(hu c hc).2))
 have fX: ∀{a b:AV} {u:Value},sD H a b→V2 E1 a u→V2 E' b u:=by
  rintro a b u (⟨l,fq,rfl,rfl,aI⟩ | h) hu
  ·obtain⟨kx,rfl,aj⟩:=hu
   refine⟨kx,rfl,aI.1▸aj.1,fun i x y hx hy=> ?_⟩
   have bf:i<l.length:=by have:=(List.getElem?_eq_some_iff.1 hx).1;have:=aI.1;omega
   have aL:=List.getElem?_eq_getElem bf
   exact fs (aI.2 i _ x aL hx) (aj.2 i _ y aL hy)
  ·have:cN E1 a u:=by cases h<;>exact hu
   exact ql (fs h this)
 rcases h with⟨l,fq,rfl,rfl,aI⟩ | h
 ·obtain⟨kx,rfl,aj⟩:=hv
  refine⟨kx,rfl,aI.1▸aj.1,fun i x y hx hy=> ?_⟩
  have bf:i<l.length:=by have:=(List.getElem?_eq_some_iff.1 hx).1;have:=aI.1;omega
  have aL:=List.getElem?_eq_getElem bf
  exact fX (aI.2 i _ x aL hx) (aj.2 i _ y aL hy)
 ·have:V2 E1 a u:=by
   rcases h with⟨l,fq,rfl,rfl,aI⟩ | h
   ·exact hv
   ·cases h<;>exact hv
  exact qm (fX h this)
theorem Kl {P:Program} {f:FuncId} {vs:List Value} {E:Env} {H:List Blk} {args ez ba dF:List AV} {p t:AV} {bl g cp:Nat} {cells:Array Value} {ty:TypeId} (aV:SimH E H) (hn:bl<E.w.heap.size) (yL: ¬E.PA bl)
  (hw:E.w.heap[bl]?=some (.cells cells ty (0,0))) (cK:cells.size=cp*ba.length) (h1:1≤cp) (hk:ba.all uP=true) (aK: ∀(j:Nat) (a:AV),ba[j]?=some a→ ∃u,cells[j]?=some u∧cN E a u)
  (a4:aD (V2 E) args vs) (aI: ∀v,V2 E p v→v= .pointer (some ⟨bl,0,none⟩)) (hs:aD (tM p (.ptr 0 g 0 0)) args ez) (jH:dF.all jD=true) (h:iV P f g ez ba dF t):
  Calls P f vs.toArray E.w fun e w'=> ∃v E',e= .returned v∧E'.w=w'∧tL E bl (cp*ba.length) ba.length dF t v E':=by
 have ui:aD (V2 (E.one bl g ba.length cp)) ez vs:=⟨hs.1▸a4.1,fun i x u hx hu=>by
  have bf:i<args.length:=by have:=(List.getElem?_eq_some_iff.1 hx).1;have:=hs.1;omega
  have aL:=List.getElem?_eq_getElem bf
  rcases hs.2 i _ x aL hx with⟨bA,rfl⟩ | h
  ·have hv:=a4.2 i _ u aL hu
   rw[bA] at hv
   rw[aI u hv]
   exact .inr ⟨rfl,bl,rfl,by rw[Nat.zero_mul]⟩
  ·exact ad4 (E1:=E.one bl g ba.length cp) aV.e0 rfl rfl h (a4.2 i _ u aL hu)⟩
 refine(h.2 (E.one bl g ba.length cp) vs (fun _=>rfl) (ab4 aV hn yL hw cK h1 hk aK) ui).mono ?_
 rintro e w' ⟨r,v,fe,E1,rfl,⟨B,rfl,BP⟩,rfl,aF,fK,hv,bi⟩
 have hg:E1.bF 0=g:=fK.fg 0 _ rfl
 obtain⟨hm,aO,hc⟩:=bi.le.m 0 (some bl) rfl hg
 have aO:E1.sz 0=ba.length:=aO
 have hc:E1.cp 0=cp:=hc
 obtain⟨blk,D1,ty2,q1,dS,q2,q3,q4,cR,c4⟩:=fK.heap 0 bl hm
 cases q1
 have rY: ∀c,E1.PF c∨(∃j,j≠0∧E1.m j=some (some c))→E.w.heap.size≤c∧c<E1.w.heap.size:=by
  rintro c (hc | ⟨j,aM,BC⟩)
  ·exact⟨(bi.fM c hc).elim (fun h=>h.elim) id,fK.fc c (fK.e0 c hc)⟩
  ·refine⟨(bi.qU c ⟨j,BC⟩).elim (fun⟨b,hb⟩=> ?_) id,fK.gB c ⟨j,BC⟩⟩
   rw[(u3 hb).2] at BC
   exact absurd (fK.h6 j 0 bl BC hm) aM
 have oZ: ∀c,c<E.w.heap.size→c≠bl→E1.w.heap[c]?=E.w.heap[c]?:=fun c hc cm=>bi.fh c hc (fun⟨b,hb⟩=>cm (u3 hb).2) (fun⟨t,bu⟩=>by cases bu)
 have YN: ∀c,E1.PA c→E.PA c∨(E.w.heap.size≤c∧c<E1.w.heap.size):=fun c hc=>(bi.fL c hc).elim .inl fun h=> .inr ⟨h,fK.fc c hc⟩
 let E':Env:={E with w:=E1.w,PA:=fun c=>E.PA c∨E1.PA c∨(E1.PF c∨ ∃j,j≠0∧E1.m j=some (some c)),PF:=fun c=>E.PF c∨(E1.PF c∨ ∃j,j≠0∧E1.m j=some (some c))}
 let Ar:Env:={E1 with m:=fun j=>if j=0 then none else E1.m j,bF:=fun j=>if j=0 then g+1 else E1.bF j}
 have bj: ∀{j:Nat} {x:Option Nat},Ar.m j=some x→j≠0∧E1.m j=some x:=fun{j x} h=>by
  have h:(if j=0 then none else E1.m j)=some x:=h
  split at h
  ·cases h
  ·rename_i e;exact⟨e,h⟩
 have yX: ∀{j:Nat},j≠0→Ar.bF j=E1.bF j:=fun{j} h=>if_neg h
 have hle:E1.gN Ar:=⟨fun _ h=>h,fun _ h=>h,fun _ _=>rfl,fun _ _=>rfl,fun b=>by
   by_cases e:b=0
   ·subst e;show E1.bF 0≤(if 0=0 then g+1 else E1.bF 0);rw[if_pos rfl,hg];omega
   ·rw[yX e];exact Nat.le_refl _,fun b x hx qJ=>by
   by_cases e:b=0
   ·subst e
    have qJ:(if 0=0 then g+1 else E1.bF 0)=E1.bF 0:=qJ
    rw[if_pos rfl,hg] at qJ;omega
   ·exact⟨by show(if b=0 then none else E1.m b)=_;rw[if_neg e];exact hx,rfl,rfl⟩,fun _ _ h=>h⟩
 have pI: ∀{j:Nat} (x y:Blk),j≠0→(x::B)[j]?=(y::B)[j]?:=fun{j} x y aM=>by
  cases j with
  | zero=>exact absurd rfl aM
  | succ j=>rfl
 have YY:SimH Ar (⟨g+1,ba.length,[dF]⟩::B):=
  {heap:=fun b c hb=>by
    obtain⟨rS,hb⟩:=bj hb
    obtain⟨blk,v3,ty,fs,mh,fX,fw,vg,acI,acJ⟩:=fK.heap b c hb
    refine⟨blk,v3,ty,by rw[pI _ ⟨g,ba.length,[dF]⟩ rS];exact fs,mh,fX,fw,vg,acI,fun i j row a h1 h2=> ?_⟩
    obtain⟨u,hu,g7⟩:=acJ i j row a h1 h2
    exact⟨u,hu,g7.le hle.b_⟩
   fg:=fun b blk hb=>by
    by_cases e:b=0
    ·subst e;cases hb;rfl
    ·rw[yX e];rw[pI _ ⟨g,ba.length,[dF]⟩ e] at hb;exact fK.fg b blk hb
   hE:=fun b hb=>by
    obtain⟨rS,hb⟩:=bj hb
    obtain⟨blk,fs,fX⟩:=fK.hE b hb
    exact⟨blk,by rw[pI _ ⟨g,ba.length,[dF]⟩ rS];exact fs,fX⟩
   fresh:=fun b hb=>by
    have hb:B.length+1≤b:=hb
    have:=fK.fresh b hb
    exact⟨by show(if b=0 then none else E1.m b)=none;rw[if_neg (by omega)];exact this.1,by rw[yX (by omega)];exact this.2⟩
   h6:=fun b ct c h1 h2=>fK.h6 b ct c (bj h1).2 (bj h2).2
   jK:=fK.jK
   gT:=fun b t c h1 h2=>fK.gT b t c (bj h1).2 h2
   h7:=fun c hc ⟨b,hb⟩=>fK.h7 c hc ⟨b,(bj hb).2⟩
   iw:=fK.iw
   e0:=fK.e0
   fc:=fK.fc
   gB:=fun c ⟨b,hb⟩=>fK.gB c ⟨b,(bj hb).2⟩
   g_:=fK.g_}
 refine⟨v,E',rfl,rfl,rfl,rfl,rfl,rfl,rfl,fun c hc=> .inl hc,fun c hc=> .inl hc,fun c hc=>hc.elim (fun h=> .inl (aV.e0 c h)) (fun h=> .inr (.inr h)),fun c hc=> ?_,fun c hc=>hc.elim .inl (fun h=> .inr (rY c h).1),
  bi.os,bi.tape,bi.output,bi.size,oZ,⟨D1,ty2,q2,by rw[q3,aO,hc],?_,fun j a aM=> ?_⟩,?_⟩
 ·rcases hc with h | h | h
  ·exact .inl h
  ·exact YN c h
  ·exact .inr (rY c h)
 ·have:=cR 0 dF rfl
  rw[aO] at this;exact this
 ·obtain⟨u,hu,g7⟩:=c4 0 j dF a rfl aM
  refine⟨u,by rw[Nat.zero_mul,Nat.zero_add] at hu;exact hu,?_⟩
  have hb:=List.all_eq_true.1 jH a (List.mem_of_getElem? aM)
  exact(AN hb g7).mono (fun _ _=>rfl) (fun _ _=>rfl) (fun c hc=> .inr (.inl hc)) (fun c hc=> .inr (.inl hc))
 ·refine ad6 (E':=E') YY rfl (fun c hc=> ?_) BP (hv.le hle)
  have:E1.PF c∨ ∃j,j≠0∧E1.m j=some (some c):=hc.elim .inl fun⟨j,aM⟩=> .inr ⟨j,bj aM⟩
  exact⟨.inr (.inr this),.inr this⟩
section
variable {E E':Env} {H:List Blk} {L:List (Nat×List AV)} {bl k n:Nat} {dF:List AV} {t:AV} {v:Value}
theorem tL.step (A:tL E bl k n dF t v E') (aV:SimH E H) (hn:E.gS bl∨E.kJ bl):Step E E':=
 {le:=⟨A.fL,A.fM,fun c hc=>A.fh c (aV.fc c hc) (fun e=>by subst e;exact hn.elim (aV.h7 c hc) (aV.iw c hc)),fun c hc=>A.fh c (aV.fc c (aV.e0 c hc)) (fun e=>by subst e;exact hn.elim (aV.h7 c (aV.e0 c hc)) (aV.iw c (aV.e0 c hc))),
   fun b=>by rw[A.bF];exact Nat.le_refl _,fun b x hx _=>by rw[A.m,A.sz,A.cp];exact⟨hx,rfl,rfl⟩,fun t c h=>by rw[A.mL];exact h⟩
  os:=A.os,tape:=A.tape,output:=A.output,size:=A.size
  fh:=fun c hc h1 h2=>A.fh c hc (fun e=>by subst e;exact hn.elim h1 h2)
  jq:=fun b c hb=> .inl (by rw[←A.m];exact hb)
  jJ:=fun c ⟨t,bu⟩=> .inl ⟨t,by rw[←A.mL];exact bu⟩
  fL:=fun c hc=>(A.Cx c hc).elim .inl fun h=> .inr h.1
  fM:=A.acf}
theorem tL.simH (A:tL E bl k n dF t v E') (aV:SimH E H) (hn:E.gS bl∨E.kJ bl) {H':List Blk} (hlen:H'.length=H.length) (hg: ∀(b:Nat) (x:Blk),H'[b]?=some x→ ∃y,H[b]?=some y∧x.bF=y.bF) (hs: ∀(b:Nat) (y:Blk),H[b]?=some y→ ∃x,H'[b]?=some x∧x.sz=y.sz)
  (hb: ∀b c,E.m b=some (some c)→(c≠bl∧H'[b]?=H[b]?)∨ ∃blk ba ty,H'[b]?=some blk∧E.sz b=blk.sz∧E'.w.heap[c]?=some (.cells ba ty (0,0))∧ba.size=E.cp b*E.sz b∧blk.rows.length≤E.cp b∧vO E' (E.sz b) blk.rows ba):SimH E' H':=by
 have bi:=A.step aV hn
 have pU: ∀c,E'.gS c→E.gS c:=fun c ⟨b,hb⟩=>⟨b,by rw[←A.m];exact hb⟩
 have FY: ∀c,E'.kJ c→E.kJ c:=fun c ⟨b,hb⟩=>⟨b,by rw[←A.mL];exact hb⟩
 have km:=aV.gB
 have kn:=aV.g_
 exact{
  heap:=fun b c h=>by
   rw[A.m] at h
   rw[A.sz,A.cp]
   rcases hb b c h with⟨cm,he⟩ | h
   ·obtain⟨blk,ba,ty,q1,dS,q2,q3,q4,cR,c4⟩:=aV.heap b c h
    refine⟨blk,ba,ty,by rw[he];exact q1,dS,by rw[A.fh c (km c ⟨b,h⟩) cm];exact q2,q3,q4,cR,fun i j row a h1 h2=> ?_⟩
    obtain⟨u,hu,g7⟩:=c4 i j row a h1 h2
    exact⟨u,hu,g7.le bi.le.b_⟩
   ·exact h
  fg:=fun b blk h=>by
   rw[A.bF]
   obtain⟨y,h1,h2⟩:=hg b blk h
   rw[h2];exact aV.fg b y h1
  hE:=fun b h=>by
   rw[A.m] at h
   obtain⟨y,h1,h2⟩:=aV.hE b h
   obtain⟨x,aP,a8⟩:=hs b y h1
   exact⟨x,aP,by rw[A.sz,a8];exact h2⟩
  fresh:=fun b h=>by rw[A.m,A.bF];exact aV.fresh b (by rw[←hlen];exact h)
  h6:=fun b ct c h1 h2=>by rw[A.m] at h1 h2;exact aV.h6 b ct c h1 h2
  jK:=fun t jR c h1 h2=>by rw[A.mL] at h1 h2;exact aV.jK t jR c h1 h2
  gT:=fun b t c h1 h2=>by rw[A.m] at h1;rw[A.mL] at h2;exact aV.gT b t c h1 h2
  h7:=fun c hc hi=>(A.Cx c hc).elim (fun h=>aV.h7 c h (pU c hi)) (fun h=>absurd (km c (pU c hi)) (by omega))
  iw:=fun c hc hi=>(A.Cx c hc).elim (fun h=>aV.iw c h (FY c hi)) (fun h=>absurd (kn c (FY c hi)) (by omega))
  e0:=A.e0
  fc:=fun c hc=>(A.Cx c hc).elim (fun h=>Nat.lt_of_lt_of_le (aV.fc c h) A.size) (fun h=>h.2)
  gB:=fun c hc=>Nat.lt_of_lt_of_le (km c (pU c hc)) A.size
  g_:=fun c hc=>Nat.lt_of_lt_of_le (kn c (FY c hc)) A.size}
theorem tL.row (A:tL E bl k n dF t v E') (hk:dF.all jD=true) {cells:Array Value} {ty:TypeId} (hw:E'.w.heap[bl]?=some (.cells cells ty (0,0))):dF.length=n∧cells.size=k∧ ∀(j:Nat) (a:AV),dF[j]?=some a→ ∃u,cells[j]?=some u∧cN E'.b_ a u:=by
 obtain⟨lZ,ty2,q1,q2,q3,q4⟩:=A.new
 rw[hw] at q1
 cases q1
 refine⟨q3,q2,fun j a aM=> ?_⟩
 obtain⟨u,hu,aK⟩:=q4 j a aM
 exact⟨u,hu,bH.v1 (E:=E'.b_) aK⟩
end
theorem Uv {P:Program} {f:FuncId} {vs:List Value} {E:Env} {H:List Blk} {L:List (Nat×List AV)} {args ez ba dF:List AV} {t:AV} {b g:Nat} (aV:SimH E H) (b3:SimL E L) (hb:H[b]?=some ⟨g,ba.length,[ba]⟩) (hk:ba.all uP=true) (jH:dF.all jD=true)
  (a4:aD (V2 E) args vs) (hm:AV.ptr b g 0 0∈args) (hs:aD (tM (.ptr b g 0 0) (.ptr 0 g 0 0)) args ez) (h:iV P f g ez ba dF t):
  Calls P f vs.toArray E.w fun e w'=> ∃v E',e= .returned v∧E'.w=w'∧Step E E'∧SimH E' (H.set b ⟨g,ba.length,[dF]⟩)∧SimL E' L∧V3 E' t v∧E'.mL=E.mL:=by
 have kk:=aV.fg b _ hb
 have k5: ∀v,V2 E (.ptr b g 0 0) v→ ∃bl,E.m b=some (some bl)∧v= .pointer (some ⟨bl,0,none⟩):=fun v hv=>by
  obtain⟨bl,hm,rfl⟩:=V3.CC (E:=E) (v:=v) (show V3 E (.ptr b g 0 0) v from hv) kk
  exact⟨bl,hm,by rw[Nat.zero_mul]⟩
 obtain⟨i,hi,he⟩:=List.mem_iff_getElem.1 hm
 have gb:i<vs.length:=a4.1▸hi
 have h3:=a4.2 i _ _ (List.getElem?_eq_getElem hi) (List.getElem?_eq_getElem gb)
 rw[he] at h3
 obtain⟨bl,kG,_⟩:=k5 _ h3
 obtain⟨blk,cells,ty,q1,dS,q2,q3,q4,cR⟩:=aV.heap b bl kG
 rw[hb] at q1
 cases q1
 have dS:E.sz b=ba.length:=dS
 have hn:bl<E.w.heap.size:=aV.gB bl ⟨b,kG⟩
 refine(Kl (bl:=bl) (cp:=E.cp b) aV hn (fun h=>aV.h7 bl h ⟨b,kG⟩) q2 (by rw[q3,dS]) q4 hk (fun j a aM=> ?_) a4 (fun v hv=> ?_) hs jH h).mono ?_
 ·obtain⟨u,hu,g7⟩:=cR.2 0 j ba a rfl aM
  exact⟨u,by rw[Nat.zero_mul,Nat.zero_add] at hu;exact hu,g7.up⟩
 ·obtain⟨T_,h1,rfl⟩:=k5 v hv
  rw[kG] at h1;cases h1;rfl
 rintro e w' ⟨v,E',rfl,rfl,A⟩
 have rZ:E.gS bl∨E.kJ bl:= .inl ⟨b,kG⟩
 have bi:=A.step aV rZ
 refine⟨v,E',rfl,rfl,bi,A.simH aV rZ (by rw[List.length_set]) (fun j x hx=> ?_) (fun j y hy=> ?_) (fun j c aM=> ?_),fun u c hu=> ?_,A.np,A.mL⟩
 ·rw[List.getElem?_set] at hx
  split at hx
  ·rename_i e;subst e
   split at hx
   ·cases hx;exact⟨_,hb,rfl⟩
   ·cases hx
  ·exact⟨x,hx,rfl⟩
 ·rw[List.getElem?_set]
  split
  ·rename_i e;subst e
   rw[hb] at hy;cases hy
   rw[if_pos (List.getElem?_eq_some_iff.1 hb).1];exact⟨_,rfl,rfl⟩
  ·exact⟨y,hy,rfl⟩
 ·by_cases e:j=b
  ·subst e
   rw[kG] at aM
   cases aM
   obtain⟨lZ,ty2,fs,fX,fw,vg⟩:=A.new
   obtain⟨s1,s2,mi⟩:=A.row jH fs
   refine .inr ⟨⟨g,ba.length,[dF]⟩,lZ,ty2,by rw[List.getElem?_set,if_pos rfl,if_pos (List.getElem?_eq_some_iff.1 hb).1],dS,fs,by rw[fX,dS],q4,fun i row aK=> ?_,fun i j row a aK aM=> ?_⟩
   ·cases i with
    | zero=>cases aK;rw[dS];exact s1
    | succ i=>cases aK
   ·cases i with
    | zero=>
     cases aK
     obtain⟨u,hu,g7⟩:=mi j a aM
     exact⟨u,by rw[Nat.zero_mul,Nat.zero_add];exact hu,g7⟩
    | succ i=>cases aK
  ·refine .inl ⟨fun h=>e ?_,by rw[List.getElem?_set,if_neg (fun h=>e h.symm)]⟩
   subst h;exact aV.h6 j b c aM kG
 ·rw[A.mL] at hu
  obtain⟨v3,lZ,ty2,fs,fX,fw⟩:=b3 u c hu
  exact⟨v3,lZ,ty2,fs,by rw[A.fh c (aV.g_ c ⟨u,hu⟩) (fun e=>by subst e;exact aV.gT b u c kG hu)];exact fX,fw.mono fun _ _ k=>k.le bi.le.b_⟩
theorem Uw {P:Program} {f:FuncId} {vs:List Value} {E:Env} {H:List Blk} {L:List (Nat×List AV)} {args ez ba dF:List AV} {t:AV} {x:Nat} (aV:SimH E H) (b3:SimL E L) (hx:eW L x=some ba) (hk:ba.all uP=true) (jH:dF.all jD=true)
  (a4:aD (V2 E) args vs) (hm:AV.fG x 0∈args) (hs:aD (tM (.fG x 0) (.ptr 0 0 0 0)) args ez) (h:iV P f 0 ez ba dF t):
  Calls P f vs.toArray E.w fun e w'=> ∃v E',e= .returned v∧E'.w=w'∧Step E E'∧SimH E' H∧SimL E' (lg L x dF)∧V3 E' t v∧E'.mL=E.mL:=by
 have k5: ∀v,V2 E (.fG x 0) v→ ∃bl,E.mL x=some bl∧v= .pointer (some ⟨bl,0,none⟩):=fun v hv=>hv
 obtain⟨i,hi,he⟩:=List.mem_iff_getElem.1 hm
 have gb:i<vs.length:=a4.1▸hi
 have h3:=a4.2 i _ _ (List.getElem?_eq_getElem hi) (List.getElem?_eq_getElem gb)
 rw[he] at h3
 obtain⟨bl,kG,_⟩:=k5 _ h3
 obtain⟨v3,cells,ty,q1,q2,q3⟩:=b3 x bl kG
 rw[hx] at q1
 cases q1
 have hn:bl<E.w.heap.size:=aV.g_ bl ⟨x,kG⟩
 have cK:cells.size=1*ba.length:=by rw[Nat.one_mul];exact q3.1.symm
 refine(Kl (bl:=bl) (cp:=1) aV hn (fun h=>aV.iw bl h ⟨x,kG⟩) q2 cK (Nat.le_refl _) hk (fun j a aM=> ?_) a4 (fun v hv=> ?_) hs jH h).mono ?_
 ·obtain⟨u,hu,g7⟩:=q3.get aM
  exact⟨u,by rw[Array.getElem?_toList] at hu;exact hu,g7.up⟩
 ·obtain⟨T_,h1,rfl⟩:=k5 v hv
  rw[kG] at h1;cases h1;rfl
 rintro e w' ⟨v,E',rfl,rfl,A⟩
 have rZ:E.gS bl∨E.kJ bl:= .inr ⟨x,kG⟩
 have bi:=A.step aV rZ
 refine⟨v,E',rfl,rfl,bi,A.simH aV rZ rfl (fun j y hy=>⟨y,hy,rfl⟩) (fun j y hy=>⟨y,hy,rfl⟩) (fun j c aM=> .inl ⟨fun e=>by subst e;exact aV.gT j x c aM kG,rfl⟩),fun u c hu=> ?_,A.np,A.mL⟩
 rw[A.mL] at hu
 rw[yD]
 by_cases e:u=x
 ·subst e
  rw[kG] at hu
  cases hu
  obtain⟨lZ,ty2,fs,fX,fw,vg⟩:=A.new
  obtain⟨s1,s2,mi⟩:=A.row jH fs
  rw[if_pos rfl,hx]
  refine⟨dF,lZ,ty2,rfl,fs,by show dF.length=lZ.size;rw[s1,s2,Nat.one_mul],fun j a v aM hv=> ?_⟩
  obtain⟨ahq,nF,g7⟩:=mi j a aM
  rw[Array.getElem?_toList,nF] at hv
  cases hv;exact g7
 ·rw[if_neg e]
  obtain⟨nx,lZ,ty2,fs,fX,fw⟩:=b3 u c hu
  exact⟨nx,lZ,ty2,fs,by rw[A.fh c (aV.g_ c ⟨u,hu⟩) (fun h=>by subst h;exact e (aV.jK u x c hu kG))];exact fX,fw.mono fun _ _ k=>k.le bi.le.b_⟩
def Kk (P:Program) (f:FuncId) (args:List AV) (L:List (Nat×List AV)) (H:List Blk) (K:oI Prop):Prop:=
 ∃ez ba dF t,ba.all uP=true∧dF.all jD=true∧
  ((∃b g,H[b]?=some ⟨g,ba.length,[ba]⟩∧AV.ptr b g 0 0∈args∧aD (tM (.ptr b g 0 0) (.ptr 0 g 0 0)) args ez∧iV P f g ez ba dF t∧K t L (H.set b ⟨g,ba.length,[dF]⟩))∨
   ∃x,eW L x=some ba∧AV.fG x 0∈args∧aD (tM (.fG x 0) (.ptr 0 0 0 0)) args ez∧iV P f 0 ez ba dF t∧K t (lg L x dF) H)
theorem Uu {P:Program} {f:FuncId} {args:List AV} {L:List (Nat×List AV)} {H:List Blk} {E:Env} {vs:List Value} {K:AV→List (Nat×List AV)→List Blk→Prop} (aV:SimH E H) (b3:SimL E L) (a4:aD (V2 E) args vs) (h:Kk P f args L H K):
  u2 P f=true∧Calls P f vs.toArray E.w fun e w'=> ∃v u L' H' E',e= .returned u∧K v L' H'∧E'.w=w'∧Step E E'∧SimH E' H'∧SimL E' L'∧V3 E' v u∧E'.mL=E.mL:=by
 obtain⟨ez,ba,dF,t,hk,jH,⟨b,g,hb,hm,hs,hf,hK⟩ | ⟨x,hx,hm,hs,hf,hK⟩⟩:=h
 ·refine⟨hf.1,(Uv aV b3 hb hk jH a4 hm hs hf).mono ?_⟩
  rintro e w' ⟨v,E',rfl,rfl,h1,h2,aP,a8,cs⟩
  exact⟨t,v,L,_,E',rfl,hK,rfl,h1,h2,aP,a8,cs⟩
 ·refine⟨hf.1,(Uw aV b3 hx hk jH a4 hm hs hf).mono ?_⟩
  rintro e w' ⟨v,E',rfl,rfl,h1,h2,aP,a8,cs⟩
  exact⟨t,v,_,H,E',rfl,hK,rfl,h1,h2,aP,a8,cs⟩
def Ur (P:Program) (f:FuncId) (args:List AV) (L:List (Nat×List AV)) (H:List Blk) (K:oI Prop):Prop:=
 args.all e6=true∧ ∃ez,aD (da L H) args ez∧dI P f ez [] fun r fe=>xm r=true∧ti fe=true∧K (mK H.length r) L (H++fe.map (lh H.length))
def Up (P:Program) (f:FuncId) (args:List AV) (L:List (Nat×List AV)) (H:List Blk) (K:oI Prop):Prop:=
 args.all e6=true∧args.all j5=true∧dI P f args H fun r H'=>xc r=true∧K r L H'
def lu (P:Program) (f:FuncId) (args:List AV) (L:List (Nat×List AV)) (H:List Blk) (K:oI Prop):Prop:=
 oS P f args L H (fun r=>K r L H)∨Ur P f args L H K∨Up P f args L H K∨(args.all e6=true∧Kk P f args L H K)
def KR (P:Program) (c:Call) (bR:Operand→AV) (L:List (Nat×List AV)) (H:List Blk) (K:oI Prop):Prop:=match c.callee with
 | .builtin .len=>Ew P c bR L H fun r=>K r L H
 | .builtin .append=>(match c.args.toList,c.argTypes.toList with
  | [s,x],[t,t2]=>e6 (bR s)=true∧e6 (bR x)=true∧tW P t t2 (bR s) (bR x) L H K
  | _,_=>False)
 | .value f=>l0 (bR f) fun g caps=>lu P g (c.args.toList.map bR++caps) L H K
 | _=>False
def kg (P:Program) (esc:List Nat) (o:Oper) (bR:Operand→AV) (L:List (Nat×List AV)) (H:List Blk) (K:oI Prop):Prop:=match o.op with
 | .store t a v=>e7 (e6 (bR v)) (ml P t (bR a) (bR v) L H fun L' H'=>K (.tup []) L' H')
 | .alloc e=>c3 (nq P e) fun z=>uY esc o.dst z L H K
 | .box e x=>e7 (e6 (bR x)) (uY esc o.dst (fi (bR x)) L H K)
 | .makeSlice t l c=>w8 P t (bR l) (bR c) L H K
 | .buildSlice t n ps=>e7 (ps.toList.all fun p=>e6 (bR p.2)) (t_ P (ue esc o.dst) (vk esc) t n (ps.toList.map fun p=>(p.1,bR p.2)) L H K)
 | .call c=>KR P c bR L H K
 | _=>sP P o bR L H fun r=>K r L H
theorem Av {E:Env} {a:AV} {v:Value} (h:e6 a=true) (hv:V3 E a v):V2 E a v:=by
 rwa [oO (xd h)] at hv
theorem Us {P:Program} {f:FuncId} {args:List AV} {L:List (Nat×List AV)} {H:List Blk} {E:Env} {vs:List Value} {K:AV→List (Nat×List AV)→List Blk→Prop} (aV:SimH E H) (b3:SimL E L)
  (a4:aD (V2 E) args vs) (h:lu P f args L H K):
  u2 P f=true∧Calls P f vs.toArray E.w fun e w'=> ∃v u L' H' E',e= .returned u∧K v L' H'∧E'.w=w'∧Step E E'∧SimH E' H'∧SimL E' L'∧V3 E' v u∧E'.mL=E.mL:=by
 rcases h with⟨aF,ez,t,hs,pM,hK⟩ | ⟨aF,ez,hs,pM⟩ | ⟨aF,aL,pM⟩ | ⟨aF,aI⟩
 ·refine⟨pM.1,(Km (Sub.refl L H) aV b3 a4 hs pM).mono ?_⟩
  rintro e w' ⟨v,E',rfl,rfl,aj,hv⟩
  exact⟨t,v,L,H,E',rfl,hK,rfl,aj.step,aj.simH aV,aj.simL aV b3,hv,aj.mL⟩
 ·refine⟨pM.1,(Ut (Q:=fun r fe=>K (mK H.length r) L (H++fe.map (lh H.length))) aV b3 a4 hs pM).mono ?_⟩
  rintro e w' ⟨r,v,fe,E',rfl,hK,rfl,bi,h1,h2,hv,hml⟩
  exact⟨_,v,L,_,E',rfl,hK,rfl,bi,h1,h2,hv,hml⟩
 ·refine⟨pM.1,(Uq (Q:=fun r H'=>K r L H') aV b3 a4 aL pM).mono ?_⟩
  rintro e w' ⟨r,v,H',E',rfl,hK,rfl,bi,h1,h2,hv,hml⟩
  exact⟨_,v,L,_,E',rfl,hK,rfl,bi,h1,h2,hv,hml⟩
 ·exact Uu aV b3 a4 aI
theorem Uo {P:Program} {f:FuncId} {args:List AV} {L:List (Nat×List AV)} {H:List Blk} {K:AV→List (Nat×List AV)→List Blk→Prop} (h:lu P f args L H K):args.all e6=true:=by
 rcases h with⟨aF,_⟩ | ⟨aF,_⟩ | ⟨aF,_⟩ | ⟨aF,_⟩<;>exact aF
set_option maxHeartbeats 1000000 in
theorem evOp_sound {P:Program} {esc:List Nat} {o:Oper} {a:Act} {T:List AV} {E:Env} {L:List (Nat×List AV)} {H:List Blk} {K:AV→List (Nat×List AV)→List Blk→Prop} {Q:Exit→Act→World→Prop}
  (cj: ∀t,V3 E (T.getD t .undef) (a.tmps.getD t undef)) (aV:SimH E H) (b3:SimL E L) (h:kg P esc o (cv T) L H K):o.wp P a E.w (Dt E o a K) Q:=by
 have fin: ∀{s:Sem Value},(execOp a.eval o=(do pure (Next.value (←s))))→(∃v L' H' E' u,K v L' H'∧s.run P E.w= .ok u E'.w∧Step E E'∧SimH E' H'∧SimL E' L'∧V3 E' v u∧ ∀t,o.dst≠some t→E'.mL t=E.mL t)→o.wp P a E.w (Dt E o a K) Q:=by
  rintro s hs ⟨v,L',H',E',u,hK,aK,h1,h2,aP,a8,cs⟩
  unfold Oper.wp
  rw[hs]
  exact Jz aK ⟨v,u,L',H',E',hK,rfl,h1,h2,aP,a8,rfl,cs⟩
 have PO:sP P o (cv T) L H (fun r=>K r L H)→o.wp P a E.w (Dt E o a K) Q:=fun h=>
  Oper.wp_mono (fun io w' ⟨v,u,E',hK,hw,aj,hv,a4⟩=>⟨v,u,L,H,E',hK,hw,aj.step,aj.simH aV,aj.simL aV b3,hv,a4,fun t _=>by rw[aj.mL]⟩) (KZ cj (Sub.refl L H) aV b3 h)
 obtain⟨dst,op,ty,pos,after,guard⟩:=o
 cases op with
 | store t x v=>
  obtain⟨aF,h⟩:=p4 (show e7 (e6 (cv T v)) (ml P t (cv T x) (cv T v) L H fun L' H'=>K (.tup []) L' H') from h)
  obtain⟨L',H',E',hK,aK,h1,h2,aP,hml⟩:=af6 aV b3 (opv_rel cj x) (Av aF (opv_rel cj v)) h
  unfold Oper.wp
  have:(execOp a.eval ⟨dst,.store t x v,ty,pos,after,guard⟩).run P E.w= .ok .skip E'.w:=by
   simp only[execOp,Sem.run_bind,aK,Sem.run_pure,Result.andThen_ok]
  rw[this]
  exact⟨.tup [],_,L',H',E',hK,rfl,h1,h2,aP,⟨[],rfl,aD.nil⟩,rfl,fun t _=>by rw[hml]⟩
 | alloc e=>
  obtain⟨z,aO,h⟩:=fC (show c3 (nq P e) fun z=>uY esc dst z L H K from h)
  obtain⟨i,v,q1,q2,q3,q4⟩:=vI (E:=E) aO
  obtain⟨r,L',H',E',hK,hw,h1,h2,aP,a8,hml⟩:=OO (ty:=e) aV b3 q4 h
  refine fin (s:=Instr.alloc e true (.tuple #[])) rfl ⟨r,L',H',E',_,hK,?_,h1,h2,aP,a8,hml⟩
  rw[hw]
  simp[Instr.alloc,zeroValue,typeInfo,q1,q2,newVar,newRow]
 | box e x=>
  obtain⟨aF,h⟩:=p4 (show e7 (e6 (cv T x)) (uY esc dst (fi (cv T x)) L H K) from h)
  have hs:(fi (cv T x)).all ji=true:=by
   unfold uY at h;split at h
   ·rename_i q;exact q
   ·exact h.elim
  obtain⟨r,L',H',E',hK,hw,h1,h2,aP,a8,hml⟩:=OO (ty:=e) aV b3 (DR (Av aF (opv_rel cj x)) hs) h
  refine fin (s:=Instr.box e (a.eval x)) rfl ⟨r,L',H',E',_,hK,?_,h1,h2,aP,a8,hml⟩
  rw[hw]
  simp[Instr.box,newVar,newRow]
 | makeSlice t l c=>
  obtain⟨v,L',H',E',u,hK,aK,h1,h2,aP,a8,hml⟩:=abS aV b3 (opv_rel cj l) (opv_rel cj c) (show w8 P t (cv T l) (cv T c) L H K from h)
  exact fin (s:=Instr.makeSlice t (a.eval l) (a.eval c)) rfl ⟨v,L',H',E',u,hK,aK,h1,h2,aP,a8,fun t _=>by rw[hml]⟩
 | buildSlice t n ps=>
  obtain⟨aF,h⟩:=p4 (show e7 (ps.toList.all fun p=>e6 (cv T p.2)) (t_ P (ue esc dst) (vk esc) t n (ps.toList.map fun p=>(p.1,cv T p.2)) L H K) from h)
  obtain⟨v,u,L',H',E',hK,aK,h1,h2,aP,a8,hml⟩:=Ub aV b3 (Hq cj ps.toList fun p aI=>xd (List.all_eq_true.1 aF p aI)) h
  exact fin (s:=Instr.buildSlice t n (ps.toList.map fun p=>(p.1,a.eval p.2)).toArray) (by rw[parts_eq];rfl) ⟨v,L',H',E',u,hK,aK,h1,h2,aP,a8,fun t _=>by rw[hml]⟩
 | call c=>
  have h:KR P c (cv T) L H K:=h
  obtain⟨callee,args,argTypes⟩:=c
  cases callee with
  | builtin b=>
   cases b with
   | len=>exact PO h
   | append=>
    have h:(match args.toList,argTypes.toList with
     | [s,x],[t,t2]=>e6 (cv T s)=true∧e6 (cv T x)=true∧tW P t t2 (cv T s) (cv T x) L H K
     | _,_=>False):=h
    split at h
    ·rename_i s x t t2 h1 h2
     obtain rfl:args= #[s,x]:=by rw[←Array.toArray_toList (xs:=args),h1]
     obtain rfl:argTypes= #[t,t2]:=by rw[←Array.toArray_toList (xs:=argTypes),h2]
     obtain⟨oC,n2,h⟩:=h
     obtain⟨r,u,H',E',hK,aK,q1,q2,q3,q4,hml⟩:=TW (ty:=ty) aV b3 (Av oC (opv_rel cj s)) (Av n2 (opv_rel cj x)) h
     unfold Oper.wp
     have:(execOp a.eval ⟨dst,.call ⟨.builtin .append,#[s,x],#[t,t2]⟩,ty,pos,after,guard⟩).run P E.w= .ok (.value u) E'.w:=by
      simp only[execOp,resolve,Sem.run_bind,Sem.run_pure,Result.andThen_ok,invoke,builtin]
      have e:Array.map a.eval #[s,x]= #[a.eval s,a.eval x]:=by simp
      rw[e,aK];rfl
     rw[this]
     exact⟨r,u,L,H',E',hK,rfl,q1,q2,q3,q4,rfl,fun t _=>by rw[hml]⟩
    ·exact h.elim
   | _=>exact h.elim
  | value f=>
   have h:l0 (cv T f) fun g caps=>lu P g (args.toList.map (cv T)++caps) L H K:=h
   cases hf:cv T f with
   | fn g caps=>
    rw[hf] at h
    have h:lu P g (args.toList.map (cv T)++caps) L H K:=h
    have aF:=Uo h
    obtain⟨vs,he,uo⟩:=Kn cj hf
    have E_:aD (V2 E) (args.toList.map (cv T)++caps) (args.toList.map a.eval++vs):=
     aD.append (J1 cj args.toList fun x hx=>xd (List.all_eq_true.1 aF _ (by simp;exact .inl ⟨x,by simpa using hx,rfl⟩))) uo
    obtain⟨e1,hc⟩:=Us aV b3 E_ h
    unfold Oper.wp
    rw[show execOp a.eval ⟨dst,.call ⟨.value f,args,argTypes⟩,ty,pos,after,guard⟩=(do let d ←resolve a.eval ⟨.value f,args,argTypes⟩ ty;invoke d.target d.args) from rfl]
    rw[P_ (P:=P) (ty:=ty) (w:=E.w) (c:=⟨.value f,args,argTypes⟩) rfl he e1]
    refine hc.mono ?_
    rintro e w' ⟨v,u,L',H',E',rfl,hK,rfl,q1,q2,q3,q4,hml⟩
    exact⟨v,u,L',H',E',hK,rfl,q1,q2,q3,q4,rfl,fun t _=>by rw[hml]⟩
   | _=>rw[hf] at h;exact h.elim
  | _=>exact h.elim
 | _=>exact PO h
def py (lit:Bool) (b:Bool) (x y:Prop):Prop:=match lit with
 | true=>(match b with
  | true=>x
  | false=>y)
 | false=>yh b x y
theorem AM {lit b:Bool} {x y:Prop} (h:py lit b x y):(b=true→x)∧(b=false→y):=by
 cases lit with
 | false=>exact h
 | true=>cases b<;>exact⟨fun e=>by cases e<;>exact h,fun e=>by cases e<;>exact h⟩
def putA (T:List AV) (dst:Option Nat) (v:AV):List AV:=match dst with
 | some d=>T.set d v
 | none=>T
def oe (ops:Array Oper) (lit:Bool) (o:Oper) (T:List AV) (x y:List AV→Prop):Prop:=match o.guard with
 | none=>x T
 | some (j,cH)=>match(ops[j]?).bind (·.dst) with
  | none=>False
  | some t=>match T.getD t .undef with
   | .bool b=>py lit b (if cH=true then x (T.set t (.bool true)) else y (T.set t (.bool true))) (if cH=true then y (T.set t (.bool false)) else x (T.set t (.bool false)))
   | .tup []=>y T
   | _=>False
def u_ (lit:Bool) (o:Oper) (T:List AV) (K:AV→Prop) (A2:Prop):Prop:=match o.op with
 | .pick c x y=>oQ (cv T c) fun z=>py lit z (K (cv T x)) (K (cv T y))
 | _=>A2
def evOps (P:Program) (esc:List Nat) (ops:Array Oper):List (Oper×Bool)→List AV→List (Nat×List AV)→List Blk→(List AV→List (Nat×List AV)→List Blk→Prop)→Prop
 | [],T,L,H,K=>K T L H
 | (o,lit)::rest,T,L,H,K=>oe ops lit o T
   (fun T=>u_ lit o T (fun v=>evOps P esc ops rest (putA T o.dst v) L H K) (kg P esc o (cv T) L H fun v L' H'=>evOps P esc ops rest (putA T o.dst v) L' H' K))
   (fun T=>evOps P esc ops rest (putA T o.dst (.tup [])) L H K)
theorem rP {T:List AV} {d t:Nat} {v:AV}:(T.set d v).getD t .undef=if d=t∧d<T.length then v else T.getD t .undef:=by
 rw[List.getD_eq_getElem?_getD,List.getD_eq_getElem?_getD,List.getElem?_set]
 by_cases h:d=t
 ·subst h
  by_cases aL:d<T.length
  ·simp[aL]
  ·simp[aL]
 ·simp[h]
theorem QL {E:Env} {T:List AV} {a:Act} (cj: ∀t,V3 E (T.getD t .undef) (a.tmps.getD t undef)) (hs:T.length=a.tmps.size) {dst:Option Nat} {v:AV} {u:Value} (hv:V3 E v u):
  (∀t,V3 E ((putA T dst v).getD t .undef) ((a.put dst u).tmps.getD t undef))∧(putA T dst v).length=(a.put dst u).tmps.size:=by
 cases dst with
 | none=>exact⟨cj,hs⟩
 | some d=>
  refine⟨fun t=> ?_,by simp[putA,Act.put,hs]⟩
  show V3 E ((T.set d v).getD t .undef) ((a.tmps.setIfInBounds d u).getD t undef)
  rw[rP,Array.getD_eq_getD_getElem?,Array.getElem?_setIfInBounds]
  by_cases h:d=t
  ·subst h
   by_cases aL:d<T.length
   ·have qM:d<a.tmps.size:=hs▸aL
    simp[aL,qM];exact hv
   ·have qM: ¬d<a.tmps.size:=hs▸aL
    have:=cj d
    rw[Array.getD_eq_getD_getElem?] at this
    simp[aL,qM] at this ⊢
    exact this
  ·have:=cj t
   rw[Array.getD_eq_getD_getElem?] at this
   simp[h];exact this
theorem ad1 {E:Env} {T:List AV} {a:Act} (cj: ∀t,V3 E (T.getD t .undef) (a.tmps.getD t undef)) {t:Nat} {b:Bool} (h:T.getD t .undef= .bool b):
  ∀s,V3 E ((T.set t (.bool b)).getD s .undef) (a.tmps.getD s undef):=fun s=>by
 rw[rP]
 by_cases hs:t=s∧t<T.length
 ·rw[if_pos hs,←h,hs.1];exact cj s
 ·rw[if_neg hs];exact cj s
theorem agN {ops:Array Oper} {a:Act} {T:List AV} {E:Env} (cj: ∀t,V3 E (T.getD t .undef) (a.tmps.getD t undef)) {j t:Nat} {b:Bool} (aM:(ops[j]?).bind (·.dst)=some t) (h:T.getD t .undef= .bool b) (hs:T.length=a.tmps.size):
  yielded ops a.tmps j=some b:=by
 have hv:=cj t
 rw[h] at hv
 have he:a.tmps.getD t undef= .bool b:=V3.rI hv
 unfold yielded
 rw[aM]
 rw[Array.getD_eq_getD_getElem?] at he
 cases aj:a.tmps[t]? with
 | none=>rw[aj] at he;cases he
 | some x=>rw[aj] at he;have:x= .bool b:=he;subst this;simp[aj]
theorem agO {ops:Array Oper} {a:Act} {T:List AV} {E:Env} (cj: ∀t,V3 E (T.getD t .undef) (a.tmps.getD t undef)) {j t:Nat} (aM:(ops[j]?).bind (·.dst)=some t) (h:T.getD t .undef= .tup []):
  yielded ops a.tmps j=none:=by
 have hv:=cj t
 rw[h] at hv
 obtain⟨vs,he,aI⟩:=(show ∃vs:List Value,a.tmps.getD t undef= .tuple vs.toArray∧aD (V2 E) [] vs from hv)
 obtain rfl:=aI.xa
 unfold yielded
 rw[aM]
 rw[Array.getD_eq_getD_getElem?] at he
 cases aj:a.tmps[t]? with
 | none=>simp[aj]
 | some x=>rw[aj] at he;have:x= .tuple #[]:=he;subst this;simp[aj]
theorem W8 {P:Program} {ops:Array Oper} {lit:Bool} {o:Oper} {a:Act} {T:List AV} {E:Env} {w:World} {x y:List AV→Prop} {R:Prop}
  (cj: ∀t,V3 E (T.getD t .undef) (a.tmps.getD t undef)) (hs:T.length=a.tmps.size) (h:oe ops lit o T x y)
  (rC: ∀T',Region.wanted o (yielded ops a.tmps)=true→(∀t,V3 E (T'.getD t .undef) (a.tmps.getD t undef))→T'.length=a.tmps.size→x T'→R)
  (no: ∀T',Region.wanted o (yielded ops a.tmps)=false→(∀t,V3 E (T'.getD t .undef) (a.tmps.getD t undef))→T'.length=a.tmps.size→y T'→R):R:=by
 unfold oe at h
 cases hg:o.guard with
 | none=>rw[hg] at h;exact rC T (by simp[Region.wanted,hg]) cj hs h
 | some g=>
  obtain⟨j,cH⟩:=g
  rw[hg] at h
  simp only at h
  cases aM:(ops[j]?).bind (·.dst) with
  | none=>rw[aM] at h;exact h.elim
  | some t=>
   rw[aM] at h
   simp only at h
   split at h
   ·rename_i b hb
    have hy:=agN (ops:=ops) cj aM hb hs
    have hk:=ad1 cj hb
    obtain⟨h1,h2⟩:=AM h
    cases b with
    | true=>
     have h:=h1 rfl
     cases cH with
     | true=>exact rC _ (by simp[Region.wanted,hg,hy]) hk (by simpa using hs) h
     | false=>exact no _ (by simp[Region.wanted,hg,hy]) hk (by simpa using hs) h
    | false=>
     have h:=h2 rfl
     cases cH with
     | true=>exact no _ (by simp[Region.wanted,hg,hy]) hk (by simpa using hs) h
     | false=>exact rC _ (by simp[Region.wanted,hg,hy]) hk (by simpa using hs) h
   ·rename_i hb
    have hy:=agO (ops:=ops) cj aM hb
    exact no T (by simp[Region.wanted,hg,hy]) cj hs h
   ·exact h.elim
theorem A9 [cM] {P:Program} {esc:List Nat} {ops:Array Oper} {Q:Exit→St→Prop} {cz:Env}: ∀(l:List (Oper×Bool)) (T:List AV) (L:List (Nat×List AV)) (H:List Blk) (E:Env) (a:Act),
  Good cz E→tS E ⟨T,L,H⟩ a.tmps→a.defers=[]→evOps P esc ops l T L H (fun T L H=>Q .normal ⟨T,L,H⟩)→wpList P ops (nv cz Q) (l.map (·.1)) a E.w
 | [],T,L,H,E,a,hg,hs,bj,h=>⟨rfl,⟨T,L,H⟩,E,h,rfl,hg,hs,bj⟩
 | (o,lit)::rest,T,L,H,E,a,hg,hs,bj,h=>by
  have cj: ∀t,V3 E (T.getD t .undef) (a.tmps.getD t undef):=hs.iA
  show if Region.wanted o (yielded ops a.tmps) then o.wp P a E.w (wpList P ops (nv cz Q) (rest.map (·.1))) (nv cz Q)∨_ else wpList P ops (nv cz Q) (rest.map (·.1)) (a.put o.dst undef) E.w
  refine W8 (P:=P) (w:=E.w) cj hs.size h (fun T' hw hT' l_ h'=> ?_) (fun T' hw hT' l_ h'=> ?_)
  ·rw[if_pos hw]
   refine .inl ?_
   have next: ∀(v:AV) (u:Value) (L':List (Nat×List AV)) (H':List Blk) (E':Env),Step E E'→SimH E' H'→SimL E' L'→V3 E' v u→evOps P esc ops rest (putA T' o.dst v) L' H' (fun T L H=>Q .normal ⟨T,L,H⟩)→
     wpList P ops (nv cz Q) (rest.map (·.1)) (a.put o.dst u) E'.w:=fun v u L' H' E' q1 q2 q3 q4 hK=>by
    obtain⟨fs,fX⟩:=QL (fun t=>(hT' t).le q1.le) l_ (dst:=o.dst) q4
    refine A9 rest _ _ _ E' (a.put o.dst u) (hg.step q1) ⟨q2,q3,fs,fX⟩ ?_ hK
    cases o.dst<;>exact bj
   have bF:(kg P esc o (cv T') L H fun v L' H'=>evOps P esc ops rest (putA T' o.dst v) L' H' (fun T L H=>Q .normal ⟨T,L,H⟩))→o.wp P a E.w (wpList P ops (nv cz Q) (rest.map (·.1))) (nv cz Q):=fun h'=>
    Oper.wp_mono (fun io w' ⟨v,u,L',H',E',hK,e3,q1,q2,q3,q4,a4,_⟩=>by
     subst a4;subst e3
     exact next v u L' H' E' q1 q2 q3 q4 hK) (evOp_sound hT' hs.h hs.l h')
   unfold u_ at h'
   split at h'
   ·rename_i c x y fU
    obtain⟨b,hb,bY⟩:=AC h'
    obtain⟨h1,h2⟩:=AM bY
    have hv:=opv_rel hT' c
    rw[hb] at hv
    have he:a.eval c= .bool b:=V3.rI hv
    unfold Oper.wp
    have hx: ∀z,(z=if b=true then a.eval x else a.eval y)→(execOp a.eval o).run P E.w= .ok (.value z) E.w:=fun z aO=>by
     subst aO
     simp only[execOp,fU,he,asBool,Sem.run_bind,Sem.run_pure,Result.andThen_ok]
    cases b with
    | true=>rw[hx (a.eval x) rfl];exact next _ _ L H E (Step.refl E) hs.h hs.l (opv_rel hT' x) (h1 rfl)
    | false=>rw[hx (a.eval y) rfl];exact next _ _ L H E (Step.refl E) hs.h hs.l (opv_rel hT' y) (h2 rfl)
   ·exact bF h'
  ·rw[hw]
   show wpList P ops (nv cz Q) (rest.map (·.1)) (a.put o.dst undef) E.w
   obtain⟨fs,fX⟩:=QL (a:=a) hT' l_ (dst:=o.dst) (v:= .tup []) (u:=undef) ⟨[],rfl,aD.nil⟩
   refine A9 rest (putA T' o.dst (.tup [])) L H E (a.put o.dst undef) hg ⟨hs.h,hs.l,fs,fX⟩ ?_ h'
   cases o.dst<;>exact bj
def lits (ops:Array Oper) (se:List Nat):List (Oper×Bool):=ops.toList.zipIdx.map fun p=>(p.1,se.contains p.2)
theorem aby (ops:Array Oper) (se:List Nat):(lits ops se).map (·.1)=ops.toList:=by
 unfold lits
 rw[List.map_map]
 apply List.ext_getElem?
 intro i
 simp only[List.getElem?_map,List.getElem?_zipIdx]
 cases ops.toList[i]?<;>rfl
theorem WpS.region [cM] {P:Program} {esc:List Nat} {se:List Nat} {id:Nat} {ops:Array Oper} {Q:Exit→St→Prop} {aJ:St} (h:evOps P esc ops (lits ops se) aJ.T aJ.L aJ.H (fun T L H=>Q .normal ⟨T,L,H⟩)):WpS P (.region id ops false) Q aJ:=fun cz E a g s d=>by
 refine wp_region_list ?_
 have:=A9 (lits ops se) aJ.T aJ.L aJ.H E a g s d h
 rwa [aby] at this
def uW (ds:List Nat):AV→Bool
 | .fG t _=> !ds.contains t
 | _=>true
def tc (ds:List Nat):AV→Bool
 | .fn _ caps=>caps.all (uW ds)
 | a=>uW ds a
def td (ds:List Nat):AV→Bool
 | .agg l=>l.all (tc ds)
 | a=>tc ds a
def o6 (ds:List Nat):AV→Bool
 | .tup l=>l.all (td ds)
 | a=>td ds a
def Env.drop (E:Env) (ds:List Nat):Env:={E with mL:=fun t=>if ds.contains t=true then none else E.mL t}
section
variable {E:Env} {ds:List Nat}
theorem fv.drop {a:AV} {v:Value} (h:uW ds a=true) (hv:fv E a v):fv (E.drop ds) a v:=by
 cases a with
 | fG t c=>
  obtain⟨bl,hm,e⟩:=hv
  have:ds.contains t=false:=by simpa[uW] using h
  exact⟨bl,by show(if ds.contains t=true then none else E.mL t)=_;rw[if_neg (by rw[this];simp)];exact hm,e⟩
 | _=>exact hv
theorem cN.drop {a:AV} {v:Value} (h:tc ds a=true) (hv:cN E a v):cN (E.drop ds) a v:=by
 by_cases hf: ∃f caps,a= .fn f caps
 ·obtain⟨f,caps,rfl⟩:=hf
  obtain⟨vs,e,aI⟩:=hv
  exact⟨vs,e,aI.1,fun i x y hx hy=>(aI.2 i x y hx hy).drop (List.all_eq_true.1 (show caps.all (uW ds)=true from h) x (List.mem_of_getElem? hx))⟩
 ·have aU:tc ds a=uW ds a:=by cases a<;>first | rfl | exact absurd ⟨_,_,rfl⟩ hf
  rw[rF fun f c e=>hf ⟨f,c,e⟩] at hv ⊢
  exact hv.drop (aU▸h)
theorem V2.drop {a:AV} {v:Value} (h:td ds a=true) (hv:V2 E a v):V2 (E.drop ds) a v:=by
 by_cases hf: ∃l,a= .agg l
 ·obtain⟨l,rfl⟩:=hf
  obtain⟨vs,e,aI⟩:=hv
  exact⟨vs,e,aI.1,fun i x y hx hy=>(aI.2 i x y hx hy).drop (List.all_eq_true.1 (show l.all (tc ds)=true from h) x (List.mem_of_getElem? hx))⟩
 ·have aU:td ds a=tc ds a:=by cases a<;>first | rfl | exact absurd ⟨_,rfl⟩ hf
  rw[pu fun l e=>hf ⟨l,e⟩] at hv ⊢
  exact hv.drop (aU▸h)
theorem V3.drop {a:AV} {v:Value} (h:o6 ds a=true) (hv:V3 E a v):V3 (E.drop ds) a v:=by
 by_cases hf: ∃l,a= .tup l
 ·obtain⟨l,rfl⟩:=hf
  obtain⟨vs,e,aI⟩:=hv
  exact⟨vs,e,aI.1,fun i x y hx hy=>(aI.2 i x y hx hy).drop (List.all_eq_true.1 (show l.all (td ds)=true from h) x (List.mem_of_getElem? hx))⟩
 ·have aU:o6 ds a=td ds a:=by cases a<;>first | rfl | exact absurd ⟨_,rfl⟩ hf
  rw[oO fun l e=>hf ⟨l,e⟩] at hv ⊢
  exact hv.drop (aU▸h)
end
def n9 (ds:List Nat) (L:List (Nat×List AV)):List (Nat×List AV):=match L with
 | []=>[]
 | (k,c)::L=>match ds.contains k with
  | true=>n9 ds L
  | false=>(k,c)::n9 ds L
theorem AX {ds:List Nat}: ∀(L:List (Nat×List AV)) (t:Nat),ds.contains t=false→eW (n9 ds L) t=eW L t
 | [],t,h=>rfl
 | (k,c)::L,t,h=>by
  unfold n9
  split
  ·rename_i hk
   have:t≠k:=fun e=>by subst e;rw[h] at hk;cases hk
   rw[AX L t h];simp[eW,this]
  ·simp only[eW];rw[AX L t h]
theorem Weak.n9 [cM] (ds:List Nat) {T:List AV} {L:List (Nat×List AV)} {H:List Blk} (h:T.all (o6 ds)=true):Weak ⟨T,L,H⟩ ⟨T,n9 ds L,H⟩:=fun cz E tmps g s=>by
 have hm: ∀t c,(E.drop ds).mL t=some c→ds.contains t=false∧E.mL t=some c:=by
  intro t c hc
  have hc:(if ds.contains t=true then none else E.mL t)=some c:=hc
  split at hc
  ·cases hc
  ·rename_i q;exact⟨by simpa using q,hc⟩
 have hi: ∀c,(E.drop ds).kJ c→E.kJ c:=fun c ⟨t,bu⟩=>⟨t,(hm t c bu).2⟩
 have hG:SimH E H:=s.h
 refine⟨E.drop ds,rfl,?_,?_,?_,fun t=> ?_,s.size⟩
 ·exact{g with
   le:={g.le with mL:=fun t c hc=>by rw[g.b_ t] at hc;cases hc}
   jJ:=fun c hc=>g.jJ c (hi c hc)}
 ·exact{hG with
   heap:=hG.heap
   jK:=fun t jR c h1 h2=>hG.jK t jR c (hm t c h1).2 (hm jR c h2).2
   gT:=fun b t c h1 h2=>hG.gT b t c h1 (hm t c h2).2
   iw:=fun c hc hx=>hG.iw c hc (hi c hx)
   g_:=fun c hx=>hG.g_ c (hi c hx)}
 ·intro t c hc
  obtain⟨h1,h2⟩:=hm t c hc
  obtain⟨cells,ba,ty,q1,q2,q3⟩:=s.l t c h2
  exact⟨cells,ba,ty,by show eW (Fw.n9 ds L) t=_;rw[AX L t h1];exact q1,q2,q3⟩
 ·show V3 (E.drop ds) (T.getD t .undef) _
  refine(s.iA t).drop ?_
  show o6 ds (T.getD t .undef)=true
  rw[List.getD_eq_getElem?_getD]
  cases aj:T[t]? with
  | none=>rfl
  | some a=>exact List.all_eq_true.1 h a (List.mem_of_getElem? aj)
def r9:AV→Bool
 | .bD [] true _=>true
 | _=>false
theorem Vi {E:Env} {a:AV} {v:Value} (h:r9 a=true) (hv:fv E a v): ∃A,v= .slice A 0 0:=by
 have key: ∀rows full fr,a= .bD rows full fr→rows=[]→full=true→ ∃A,v= .slice A 0 0:=by
  intro rows full fr e aK hf
  subst e
  have hv:bH E.w E.PA E.PF (.bD rows full fr) v:=hv
  cases hv with
  | @bD _ _ PB _ _ _ A cap sz vs gl gQ hC cK fj ec=>
   refine⟨A,?_⟩
   rw[hC hf,aK];rfl
 unfold r9 at h
 split at h
 ·exact key _ _ _ rfl rfl rfl
 ·cases h
theorem El {E E':Env} {a:AV} {v:Value} {b:Nat} (h:r9 a=true) (hv:cN E a v) (hg:E'.bF b=0) (hm:E'.m b=some none):cN E' (.ref b 0 0 0 false) v:=by
 have h3:fv E a v:=by
  rwa [rF] at hv
  rintro f c rfl;cases h
 obtain⟨A,rfl⟩:=Vi h h3
 exact .inr ⟨hg.symm,.inl ⟨hm,rfl,rfl,A,rfl⟩⟩
theorem Weak.TM [cM] (i sz:Nat) {T:List AV} {L:List (Nat×List AV)} {H:List Blk} (h:r9 (T.getD i .undef)=true):Weak ⟨T,L,H⟩ ⟨T.set i (.ref H.length 0 0 0 false),L,H++[⟨0,sz,[]⟩]⟩:=fun cz E tmps g s=>by
 obtain⟨E',hw,bi,h1,h2,aP,a8,_⟩:=Cj (blk:=⟨0,sz,[]⟩) s.h s.l rfl rfl
 refine⟨E',hw,g.step bi,h1,h2,fun t=> ?_,by simpa using s.size⟩
 show V3 E' ((T.set i _).getD t .undef) _
 rw[rP]
 split
 ·rename_i aj
  obtain⟨rfl,_⟩:=aj
  have hv:=s.iA i
  have k7:cN E (T.getD i .undef) (tmps.getD i undef):=by
   have hv:V3 E (T.getD i .undef) (tmps.getD i undef):=hv
   rw[oO,pu] at hv
   ·exact hv
   ·intro l e;rw[e] at h;cases h
   ·intro l e;rw[e] at h;cases h
  exact qm (ql (El h k7 aP a8))
 ·exact(s.iA t).le bi.le
theorem Weak.tU [cM] (t i sz:Nat) {T:List AV} {L:List (Nat×List AV)} {H:List Blk} {cells:List AV} (hc:eW L t=some cells) (h:r9 (cells.getD i .undef)=true):
  Weak ⟨T,L,H⟩ ⟨T,lg L t (cells.set i (.ref H.length 0 0 0 false)),H++[⟨0,sz,[]⟩]⟩:=fun cz E tmps g s=>by
 obtain⟨E',hw,bi,h1,h2,aP,a8,cs,cT⟩:=Cj (blk:=⟨0,sz,[]⟩) s.h s.l rfl rfl
 refine⟨E',hw,g.step bi,h1,?_,fun t=>(s.iA t).le bi.le,s.size⟩
 intro u c hm
 obtain⟨g3,ba,ty,q1,q2,q3⟩:=h2 u c hm
 show ∃DP ba ty,eW (lg L t _) u=some DP∧_
 rw[yD]
 by_cases hu:u=t
 ·subst hu
  rw[if_pos rfl]
  have zG:eW L u=some g3:=q1
  rw[hc] at zG
  cases zG
  refine⟨_,ba,ty,by rw[hc];rfl,q2,by simpa using q3.1,fun j x v hx hv=> ?_⟩
  rw[List.getElem?_set] at hx
  split at hx
  ·rename_i nB
   subst nB
   split at hx
   ·rename_i bf
    cases hx
    have hg:=List.getElem?_eq_getElem bf
    have:cells.getD i .undef=cells[i]:=by rw[List.getD_eq_getElem?_getD,hg];rfl
    have k7:=q3.2 i _ v hg hv
    rw[this] at h
    exact El (E:=E'.b_) h k7 aP a8
   ·cases hx
  ·exact q3.2 j x v hx hv
 ·rw[if_neg hu]
  exact⟨g3,ba,ty,q1,q2,q3⟩
structure cA where
 sw:Int
 bp:Int
 deriving Inhabited,DecidableEq
structure Way where
 af:List Int
 a2:List cA
 bB:List cA
 cQ:List Int
 cu:List Int
 deriving Inhabited,DecidableEq
structure az where
 af:Int
 be:List Int
 O:List Way
 bW:List (List Bool)
 dx:Int
 deriving Inhabited,DecidableEq
structure Event where
 op:Int
 ai:Int
 bp:Int
 deriving Inhabited,DecidableEq
structure a_ where
 cH:Int
 a2:Int
 deriving Inhabited,DecidableEq
structure ad where
 ao:Int
 ag:Int
 ac:List Bool
 aq:Bool
 ar:Int
 deriving Inhabited,DecidableEq
structure Frame where
 ok:Bool
 av:List Bool
 au:List a_
 O:List ad
 deriving Inhabited,DecidableEq
structure fJ where
 code:Int
 frame:Frame
 deriving Inhabited,DecidableEq
structure jm where
 code:Int
 pos:Int
 deriving Inhabited,DecidableEq
structure nw where
 O:List Int
 af:List Int
 au:List Int
 deriving Inhabited,DecidableEq
structure bc where
 code:List UInt8
 pos:Int
 tC:Int
 deriving Inhabited
def c_ (n:Int):List AV:=[.int .i64 n]
def n_ (n:UInt8):List AV:=[.int .u8 n.toNat]
def aY (b:Bool):List AV:=[.bool b]
def Ek (s:ByteArray):List AV:=[.str s]
def i_ {α:Type} (e:α→List AV) (fr:Bool) (xs:List α):List AV:=[.bD (xs.map e) false fr]
def dp (x:cA):List AV:=[.int .i64 x.sw,.int .i64 x.bp]
def dw (fr:Bool) (x:Way):List AV:=[.bD (x.af.map c_) false fr,.bD (x.a2.map dp) false fr,.bD (x.bB.map dp) false fr,.bD (x.cQ.map c_) false fr,.bD (x.cu.map c_) false fr]
def bg (fr:Bool) (x:az):List AV:=[.int .i64 x.af,.bD (x.be.map c_) false fr,.bD (x.O.map (dw false)) false fr,.bD (x.bW.map (i_ aY false)) false fr,.int .i64 x.dx]
def jo (x:Event):List AV:=[.int .i64 x.op,.int .i64 x.ai,.int .i64 x.bp]
def a7 (x:a_):List AV:=[.int .i64 x.cH,.int .i64 x.a2]
def dM (fr:Bool) (x:ad):List AV:=[.int .i64 x.ao,.int .i64 x.ag,.bD (x.ac.map aY) false fr,.bool x.aq,.int .i64 x.ar]
def b1 (fr:Bool) (x:Frame):List AV:=[.bool x.ok,.bD (x.av.map aY) false fr,.bD (x.au.map a7) false fr,.bD (x.O.map (dM false)) false fr]
def sN (fr:Bool) (x:fJ):List AV:=[.int .i64 x.code,.bool x.frame.ok,.bD (x.frame.av.map aY) false fr,.bD (x.frame.au.map a7) false fr,.bD (x.frame.O.map (dM false)) false fr]
def Eh (x:jm):List AV:=[.int .i64 x.code,.int .i64 x.pos]
def Vf (fr:Bool) (x:bc):List AV:=[.bD (x.code.map n_) false fr,.int .i64 x.pos,.int .u64 x.tC]
def Ej (fr:Bool) (x:nw):List AV:=[.bD (x.O.map c_) false fr,.bD (x.af.map c_) false fr,.bD (x.au.map c_) false fr]
def nth {α:Type} [Inhabited α] (xs:List α) (i:Int):α:=xs.getD i.toNat default
theorem gV {α:Type} [Inhabited α] {xs:List α} {i:Int} (h:i.toNat<xs.length):xs[i.toNat]?=some (nth xs i):=by
 unfold nth
 rw[List.getD_eq_getElem?_getD,List.getElem?_eq_getElem h];rfl
def tf:Code→List Nat→Code
 | c,[]=>c
 | .seq x y,n::p=>match n with
  | 0=>tf x p
  | _=>tf y p
 | .cond _ x y,n::p=>match n with
  | 0=>tf x p
  | _=>tf y p
 | .block _ x,_::p=>tf x p
 | .loop x,_::p=>tf x p
 | .scope x,_::p=>tf x p
 | c,_=>c
def iI (f:Func):Code:=f.body.getD .skip
section
variable {P:Program} {esc:List Nat} {ops:Array Oper} {l fq:List (Oper×Bool)} {T T':List AV} {L L':List (Nat×List AV)} {H H':List Blk} {K:List AV→List (Nat×List AV)→List Blk→Prop}
end
theorem WpS.seq' [cM] {P:Program} {c x y:Code} {Q:Exit→St→Prop} {aJ:St} (e:c= .seq x y) (h:WpS P x (eb P y Q) aJ):WpS P c Q aJ:=e▸WpS.seq h
theorem WpS.UJ [cM] {P:Program} {c x y:Code} {o:Operand} {Q:Exit→St→Prop} {aJ:St} {b:Bool} (e:c= .cond o x y) (hb:cv aJ.T o= .bool b) (h1:b=true→WpS P x Q aJ) (h2:b=false→WpS P y Q aJ):WpS P c Q aJ:=
 e▸WpS.cond (by rw[hb];exact⟨h1,h2⟩)
theorem WpS.Kd [cM] {P:Program} {c x:Code} {id:Nat} {Q:Exit→St→Prop} {aJ:St} (e:c= .block id x) (h:WpS P x (cr id Q) aJ):WpS P c Q aJ:=e▸WpS.block h
theorem WpS.adq [cM] {P:Program} {c:Code} {Q:Exit→St→Prop} {aJ:St} (e:c= .skip) (h:Q .normal aJ):WpS P c Q aJ:=e▸WpS.skip h
theorem WpS.acX [cM] {P:Program} {c:Code} {Q:Exit→St→Prop} {aJ:St} (e:c= .ret) (h:Q .ret aJ):WpS P c Q aJ:=e▸WpS.ret h
theorem WpS.Vv [cM] {P:Program} {c:Code} {id:Nat} {Q:Exit→St→Prop} {aJ:St} (e:c= .exit id) (h:Q (.exit id) aJ):WpS P c Q aJ:=e▸WpS.exit h
theorem WpS.abF [cM] {P:Program} {c x:Code} {Q:Exit→St→Prop} {aJ:St} {V:Type} (S:V→St) (I:V→Prop) (m:V→Nat) (e:c= .loop x) (hr:V) (hs:Weak aJ (S hr)) (aU:I hr)
  (round: ∀v,I v→WpS P x (fun ex s=>match ex with
   | .normal=> ∃e9,I e9∧m e9<m v∧Weak s (S e9)
   | ex=>Q ex s) (S v)):WpS P c Q aJ:=by
 subst e
 refine WpS.mq (WpS.loop (fun n s=> ∃v,I v∧s=S v∧n=m v) (m hr) ⟨hr,aU,rfl,rfl⟩ ?_) hs
 rintro n s ⟨v,hv,rfl,rfl⟩
 refine WpS.mono (round v hv) fun ex s aj=> ?_
 cases ex with
 | normal=>
  obtain⟨e9,h1,h2,aP⟩:=aj
  exact⟨m e9,S e9,h2,aP,e9,h1,rfl,rfl⟩
 | _=>exact aj
theorem eb.normal [cM] {P:Program} {y:Code} {Q:Exit→St→Prop} {s:St} (h:WpS P y Q s):eb P y Q .normal s:=h
theorem eb.ret [cM] {P:Program} {y:Code} {Q:Exit→St→Prop} {s:St} (h:Q .ret s):eb P y Q .ret s:=h
theorem eb.exit [cM] {P:Program} {y:Code} {Q:Exit→St→Prop} {s:St} {id:Nat} (h:Q (.exit id) s):eb P y Q (.exit id) s:=h
theorem cr.normal {id:Nat} {Q:Exit→St→Prop} {s:St} (h:Q .normal s):cr id Q .normal s:=h
theorem cr.ret {id:Nat} {Q:Exit→St→Prop} {s:St} (h:Q .ret s):cr id Q .ret s:=h
theorem cr.here {id:Nat} {Q:Exit→St→Prop} {s:St} (h:Q .normal s):cr id Q (.exit id) s:=by
 show(if id=id then _ else _);rw[if_pos rfl];exact h
theorem cr.there {id gA:Nat} {Q:Exit→St→Prop} {s:St} (cm:gA≠id) (h:Q (.exit gA) s):cr id Q (.exit gA) s:=by
 show(if gA=id then _ else _);rw[if_neg cm];exact h
theorem da.h8 {L:List (Nat×List AV)} {H:List Blk} {a b:AV} (h:ga L H a b):da L H a b:= .inr h
theorem da.agg {L:List (Nat×List AV)} {H:List Blk} {l fq:List AV} (h:aD (ga L H) l fq):da L H (.agg l) (.agg fq):= .inl ⟨l,fq,rfl,rfl,h⟩
theorem im.h8 {H:List Blk} {a b:AV} (h:gH H a b):im H a b:= .inr (.inr h)
theorem im.agg {H:List Blk} {l fq:List AV} (h:aD (gH H) l fq):im H (.agg l) (.agg fq):= .inr (.inl ⟨l,fq,rfl,rfl,h⟩)
theorem WpS.start [cM] {P:Program} {c:Code} {Q:Exit→St→Prop} {aJ li:St} (e:aJ=li) (h:WpS P c Q li):WpS P c Q aJ:=e▸h
def ci [cM] (S:St) (ψ:Prop) (Q:Exit→St→Prop) (ex:Exit) (s:St):Prop:=match ex with
 | .normal=>ψ∧Weak s S
 | ex=>Q ex s
theorem WpS.xH [cM] {P:Program} {c x y:Code} {Q:Exit→St→Prop} {aJ:St} (S:St) {ψ:Prop} (e:c= .seq x y) (h:WpS P x (ci S ψ Q) aJ) (aj:ψ→WpS P y Q S):WpS P c Q aJ:=by
 subst e
 refine WpS.seq (WpS.mono h fun ex s hs=> ?_)
 cases ex with
 | normal=>exact WpS.mq (aj hs.1) hs.2
 | _=>exact hs
theorem ci.normal [cM] {S s:St} {ψ:Prop} {Q:Exit→St→Prop} (aI:ψ) (h:Weak s S):ci S ψ Q .normal s:=⟨aI,h⟩
theorem ci.ret [cM] {S s:St} {ψ:Prop} {Q:Exit→St→Prop} (h:Q .ret s):ci S ψ Q .ret s:=h
theorem ci.exit [cM] {S s:St} {ψ:Prop} {Q:Exit→St→Prop} {id:Nat} (h:Q (.exit id) s):ci S ψ Q (.exit id) s:=h
def dZ [cM] {V:Type} (S:V→St) (I:V→Prop) (m:V→Nat) (v:V) (Q:Exit→St→Prop) (ex:Exit) (s:St):Prop:=match ex with
 | .normal=> ∃e9,I e9∧m e9<m v∧Weak s (S e9)
 | ex=>Q ex s
theorem WpS.OA [cM] {P:Program} {c x:Code} {Q:Exit→St→Prop} {aJ:St} {V:Type} (S:V→St) (I:V→Prop) (m:V→Nat) (e:c= .loop x) (hr:V) (hs:Weak aJ (S hr)) (aU:I hr)
  (round: ∀v,I v→WpS P x (dZ S I m v Q) (S v)):WpS P c Q aJ:=
 WpS.abF S I m e hr hs aU fun v hv=>WpS.mono (round v hv) fun ex s h=>by
  cases ex<;>exact h
theorem dZ.again [cM] {V:Type} {S:V→St} {I:V→Prop} {m:V→Nat} {v:V} {Q:Exit→St→Prop} {s:St} (e9:V) (h:I e9∧m e9<m v) (hw:Weak s (S e9)):dZ S I m v Q .normal s:=⟨e9,h.1,h.2,hw⟩
theorem dZ.ret [cM] {V:Type} {S:V→St} {I:V→Prop} {m:V→Nat} {v:V} {Q:Exit→St→Prop} {s:St} (h:Q .ret s):dZ S I m v Q .ret s:=h
theorem dZ.exit [cM] {V:Type} {S:V→St} {I:V→Prop} {m:V→Nat} {v:V} {Q:Exit→St→Prop} {s:St} {id:Nat} (h:Q (.exit id) s):dZ S I m v Q (.exit id) s:=h
@[irreducible] def bX (c:Code) (n:Nat):Code:=tf c ((List.range (Nat.log2 n)).map fun i=>(n>>>i)%2).reverse
def jg (c:Code) (n:Nat):Array Oper:=match bX c n with
 | .region _ ops _=>ops
 | _=> #[]
theorem hz [cM] {s s' s'':St} (h:Weak s s') (e:s'=s''):Weak s s'':=e▸h
def kW (H:List Blk) (c d:List AV):Prop:=c.length=d.length∧ ∀(j:Nat) (a b:AV),c[j]?=some a→d[j]?=some b→gH H a a∧b=kw a
theorem ad2 {H:List Blk} {α:Type} {eT eF:α→List AV} {b:Nat} {g sz:Nat} {full:Bool} {xs:List α} (hb:H[b]?=some ⟨g,sz,List.map eT xs⟩) (aF:xs.length≤4611686018427387904) (hc: ∀x,kW H (eT x) (eF x)):
  gH H (.ref b g 0 xs.length full) (.bD (List.map eF xs) false true):=by
 refine gH.ref (fun h=>by cases h) (fun i j=>((xs[i]?).bind fun x=>(eT x)[j]?).getD .undef) hb rfl (by rw[List.length_map]) aF (by simp) (fun i row row' h1 h2=> ?_) (fun i j row a hi h1 h2=> ?_) (fun i j row' c h1 h2=> ?_)
 ·have h1:(List.map eT xs)[0+i]?=some row:=h1
  rw[Nat.zero_add,List.getElem?_map] at h1
  rw[List.getElem?_map] at h2
  cases hx:xs[i]? with
  | none=>rw[hx] at h1;cases h1
  | some x=>rw[hx] at h1 h2;cases h1;cases h2;exact(hc x).1
 ·have h1:(List.map eT xs)[0+i]?=some row:=h1
  rw[Nat.zero_add,List.getElem?_map] at h1
  cases hx:xs[i]? with
  | none=>rw[hx] at h1;cases h1
  | some x=>
   rw[hx] at h1;cases h1
   show gH H a (((some x).bind fun x=>(eT x)[j]?).getD .undef)
   have aM:(eT x)[j]?=some a:=h2
   have he:((some x).bind fun x=>(eT x)[j]?).getD .undef=a:=by
    show((eT x)[j]?).getD .undef=a
    rw[aM];rfl
   rw[he]
   have bf:j<(eF x).length:=by rw[←(hc x).1];exact(List.getElem?_eq_some_iff.1 aM).1
   exact((hc x).2 j a _ aM (List.getElem?_eq_getElem bf)).1
 ·rw[List.getElem?_map] at h1
  cases hx:xs[i]? with
  | none=>rw[hx] at h1;cases h1
  | some x=>
   rw[hx] at h1;cases h1
   show c=kw (((some x).bind fun x=>(eT x)[j]?).getD .undef)
   have bf:j<(eT x).length:=by rw[(hc x).1];exact(List.getElem?_eq_some_iff.1 h2).1
   have aM:=List.getElem?_eq_getElem bf
   have he:((some x).bind fun x=>(eT x)[j]?).getD .undef=(eT x)[j]:=by
    show((eT x)[j]?).getD .undef=_
    rw[aM];rfl
   rw[he]
   exact((hc x).2 j _ c aM h2).2
theorem kW.nil {H:List Blk}:kW H [] []:=⟨rfl,fun j a b h=>by simp at h⟩
theorem kW.cons {H:List Blk} {a b:AV} {c d:List AV} (h1:gH H a a) (h2:b=kw a) (h:kW H c d):kW H (a::c) (b::d):=
 ⟨by simp[h.1],fun j x y hx hy=>by
  cases j with
  | zero=>simp at hx hy;subst hx;subst hy;exact⟨h1,h2⟩
  | succ j=>exact h.2 j x y (by simpa using hx) (by simpa using hy)⟩
theorem Uk {H:List Blk} (n:Int):kW H (c_ n) (c_ n):= .cons (.int _ _) rfl .nil
theorem Um {H:List Blk} (n:UInt8):kW H (n_ n) (n_ n):= .cons (.int _ _) rfl .nil
theorem v0 {H:List Blk} (b:Bool):kW H (aY b) (aY b):= .cons (.bool _) rfl .nil
theorem Ul {H:List Blk} (b:ByteArray):kW H (Ek b) (Ek b):= .cons (.str _) rfl .nil
theorem kE {H:List Blk} (rows:List (List AV)):gH H (.bD rows false true) (.bD rows false true):= .bD _ _ _ id
theorem Kj {H:List Blk} (x:cA):kW H (dp x) (dp x):= .cons (.int _ _) rfl (.cons (.int _ _) rfl .nil)
theorem Ui {H:List Blk} (x:Event):kW H (jo x) (jo x):= .cons (.int _ _) rfl (.cons (.int _ _) rfl (.cons (.int _ _) rfl .nil))
theorem yn {H:List Blk} (x:a_):kW H (a7 x) (a7 x):= .cons (.int _ _) rfl (.cons (.int _ _) rfl .nil)
theorem Un {H:List Blk} (x:Way):kW H (dw true x) (dw false x):= .cons (kE _) rfl (.cons (kE _) rfl (.cons (kE _) rfl (.cons (kE _) rfl (.cons (kE _) rfl .nil))))
theorem Uj {H:List Blk} (x:ad):kW H (dM true x) (dM false x):= .cons (.int _ _) rfl (.cons (.int _ _) rfl (.cons (kE _) rfl (.cons (.bool _) rfl (.cons (.int _ _) rfl .nil))))
theorem Uh {H:List Blk} (x:fJ):kW H (sN true x) (sN false x):= .cons (.int _ _) rfl (.cons (.bool _) rfl (.cons (kE _) rfl (.cons (kE _) rfl (.cons (kE _) rfl .nil))))
theorem SI {H:List Blk} {α:Type} {eT eF:α→List AV} {b g sz:Nat} {full:Bool} {xs ys:List α} (hb:H[b]?=some ⟨g,sz,List.map eT xs⟩) (hc: ∀x,kW H (eT x) (eF x)) (h:xs.length≤4611686018427387904∧xs=ys):
  gH H (.ref b g 0 xs.length full) (.bD (List.map eF ys) false true):=h.2▸ad2 hb h.1 hc
theorem rn {H:List Blk} {α:Type} {e:α→List AV} {ys:List α} {full fr:Bool} (h:[]=ys):gH H (.bD [] full fr) (.bD (List.map e ys) false true):=h▸ .OC _ _ _ (fun h=>by cases h)
theorem vr {H:List Blk} {α:Type} {e:α→List AV} {xs ys:List α} {full:Bool} (h:xs=ys):gH H (.bD (List.map e xs) full true) (.bD (List.map e ys) false true):=h▸ .bD _ _ _ (fun h=>by cases h)
theorem xN {H:List Blk} {k:IntKind} {a b:Int} (h:a=b):gH H (.int k a) (.int k b):=h▸ .int k a
theorem nm {H:List Blk} {a b:Bool} (h:a=b):gH H (.bool a) (.bool b):=h▸ .bool a
theorem af4 {H:List Blk} {a b:ByteArray} (h:a=b):gH H (.str a) (.str b):=h▸ .str a
theorem cI {L:List (Nat×List AV)} {H:List Blk} {rows:List (List AV)} {full fr:Bool}:ga L H (.bD rows full fr) (.bD rows false false):= .bD _ _ _ _ (fun h=>by cases h)
def oL (L:List (Nat×List AV)) (H:List Blk) (c d:List AV):Prop:=c.length=d.length∧ ∀(j:Nat) (a b:AV),c[j]?=some a→d[j]?=some b→ga L H a b
theorem Qk {L:List (Nat×List AV)} {H:List Blk} {α:Type} {eT eF:α→List AV} {b g sz:Nat} {full:Bool} {xs:List α} (hb:H[b]?=some ⟨g,sz,List.map eT xs⟩) (hc: ∀x,oL L H (eT x) (eF x)) (aF:xs.length≤4611686018427387904):
  ga L H (.ref b g 0 xs.length full) (.bD (List.map eF xs) false false):=by
 refine ga.ref (fun h=>by cases h) hb rfl (by rw[List.length_map]) aF (by simp) (fun i row row' h1 h2=> ?_) (fun i j row row' a c h1 h2 aP a8=> ?_)
 ·have h1:(List.map eT xs)[0+i]?=some row:=h1
  rw[Nat.zero_add,List.getElem?_map] at h1
  rw[List.getElem?_map] at h2
  cases hx:xs[i]? with
  | none=>rw[hx] at h1;cases h1
  | some x=>rw[hx] at h1 h2;cases h1;cases h2;exact(hc x).1
 ·have h1:(List.map eT xs)[0+i]?=some row:=h1
  rw[Nat.zero_add,List.getElem?_map] at h1
  rw[List.getElem?_map] at h2
  cases hx:xs[i]? with
  | none=>rw[hx] at h1;cases h1
  | some x=>rw[hx] at h1 h2;cases h1;cases h2;exact(hc x).2 j a c aP a8
theorem oL.nil {L:List (Nat×List AV)} {H:List Blk}:oL L H [] []:=⟨rfl,fun j a b h=>by simp at h⟩
theorem oL.cons {L:List (Nat×List AV)} {H:List Blk} {a b:AV} {c d:List AV} (h1:ga L H a b) (h:oL L H c d):oL L H (a::c) (b::d):=
 ⟨by simp[h.1],fun j x y hx hy=>by
  cases j with
  | zero=>simp at hx hy;subst hx;subst hy;exact h1
  | succ j=>exact h.2 j x y (by simpa using hx) (by simpa using hy)⟩
section
variable {L:List (Nat×List AV)} {H:List Blk}
theorem s7 (b:Bool):oL L H (aY b) (aY b):= .cons (.bool _) .nil
theorem uM (x:a_):oL L H (a7 x) (a7 x):= .cons (.int _ _) (.cons (.int _ _) .nil)
end
def eM {α:Type} (F:(α→Prop)→Prop):Prop:= ∀K,F K→ ∃r,K r∧F (fun x=>x=r)
theorem eM.ret {α:Type} (r:α):eM fun K=>K r:=fun K h=>⟨r,h,rfl⟩
theorem eM.no {α:Type}:eM (α:=α) fun _=>False:=fun K h=>h.elim
theorem eM.and {α:Type} {φ:Prop} {F:(α→Prop)→Prop} (h:eM F):eM fun K=>φ∧F K:=fun K ⟨aI,hf⟩=>by
 obtain⟨r,h1,h2⟩:=h K hf
 exact⟨r,h1,aI,h2⟩
theorem eM.TQ {α:Type} {φ:Prop} {F:(α→Prop)→Prop} (h:φ→eM F):eM fun K=>φ∧F K:=fun K ⟨aI,hf⟩=>by
 obtain⟨r,h1,h2⟩:=h aI K hf
 exact⟨r,h1,aI,h2⟩
theorem eM.bind {α β:Type} {o:Option β} {F:β→(α→Prop)→Prop} (h: ∀b,eM (F b)):eM fun K=>c3 o fun b=>F b K:=fun K hf=>by
 cases o with
 | none=>exact hf.elim
 | some b=>exact h b K hf
theorem eM.ite {α:Type} {c:Prop} [Decidable c] {F G:(α→Prop)→Prop} (h:eM F) (k:eM G):eM fun K=>if c then F K else G K:=by
 intro K hf
 by_cases hc:c
 ·rw[if_pos hc] at hf
  obtain⟨r,h1,h2⟩:=h K hf
  exact⟨r,h1,by show if c then _ else _;rw[if_pos hc];exact h2⟩
 ·rw[if_neg hc] at hf
  obtain⟨r,h1,h2⟩:=k K hf
  exact⟨r,h1,by show if c then _ else _;rw[if_neg hc];exact h2⟩
theorem eM.e7 {α:Type} {b:Bool} {F:(α→Prop)→Prop} (h:eM F):eM fun K=>e7 b (F K):=by
 cases b with
 | true=>exact h
 | false=>exact eM.no
theorem Jo {P:Program} {t:TypeId} {cells:List AV} {c:Nat}:eM (jA P t cells c):=by
 unfold jA
 exact .ite (.ite (.ite (.ret _) .no) (.bind fun _=> .ret _)) .no
theorem abe {P:Program} {t:TypeId} {x:AV} {L:List (Nat×List AV)} {H:List Blk}:eM (o4 P t x L H):=by
 cases x with
 | fG s c=>exact .bind fun _=>Jo
 | ptr b g r c=>exact .bind fun _=> .and (.bind fun _=>Jo)
 | dA cells c=>exact Jo
 | _=>exact .no
theorem abV {x:AV}:eM (Hg x):=by
 cases x<;>first | exact .no | exact .ret _
theorem T5 {op:BinOp} {k:IntKind} {a b:Int}:eM (AI op k a b):=by
 cases op<;>first | exact .no | exact .ret _ | exact .and (.ret _)
theorem T4 {op:BinOp} {k kK:IntKind} {a b:Int}:eM (AJ op k a kK b):=by
 cases op<;>first | exact .and (.ret _) | exact .ite T5 .no
def yj (x:AV):Bool:=match x with
 | .bD _ _ _=>false
 | _=>true
theorem T6 {P:Program} {op:BinOp} {t:TypeId} {x y:AV} {sy:Bool} (hx:yj x=true):eM (sI P op t x y sy):=by
 cases x with
 | int k a=>cases y<;>first | exact .no | exact T4
 | bool a=>
  cases y with
  | bool b=>exact .ite (by cases op<;>first | exact .no | exact .ret _) .no
  | _=>exact .no
 | str a=>
  cases y with
  | str b=>
   show eM (DG op a b)
   cases op<;>first | exact .no | exact .ret _ | exact .and (.ret _)
  | _=>exact .no
 | agg l=>
  cases y with
  | agg m=>exact .ite (.bind fun p=> .bind fun q=>by
    show eM (DH op p.1 p.2 q.1 q.2)
    cases op<;>first | exact .no | exact .ret _) .no
  | _=>exact .no
 | bD rows eD fr=>cases hx
 | _=>exact .no
theorem agr {op:UnOp} {x:AV}:eM (Dh op x):=by
 cases op<;>cases x<;>first | exact .no | exact .ret _
theorem UZ {P:Program} {s d:TypeId} {x:AV}:eM (D9 P s d x):=by
 cases x with
 | int k n=>exact .bind fun _=> .bind fun _=> .ret _
 | _=>exact .no
theorem VB {P:Program} {t:TypeId} {x:AV} {f:Nat}:eM (EE P t x f):=by
 refine .bind fun fd=> .ite ?_ .no
 cases x<;>first | exact .no | exact .ret _
theorem Zj {P:Program} {t:TypeId} {x i:AV} {H:List Blk}:eM (wZ P t x i H):=by
 refine .bind fun e=> .ite ?_ .no
 cases i with
 | int k n=>
  cases x with
  | bD rows eD fr=>exact .and (.bind fun _=> .and (.ret _))
  | ref b g off m eD=>exact .bind fun _=> .and (.and (.and (.and (.ret _))))
  | _=>exact .no
 | _=>exact .no
theorem Zs {P:Program} {t:TypeId} {x i:AV}:eM (FU P t x i):=by
 cases x with
 | str s=>
  cases i with
  | int k n=>
   show eM fun K:AV→Prop=>(match P.underlying t with
   | some .string=>0≤n∧n<s.size∧K (.int .u8 (s.data.getD n.toNat 0).toNat)
   | _=>False)
   split
   ·exact .and (.and (.ret _))
   ·exact .no
  | _=>exact .no
 | _=>exact .no
theorem vX {α:Type} {x:Option AV} {d:Nat} {F:Nat→(α→Prop)→Prop} (h: ∀n,eM (F n)):eM fun K=>ms x d fun n=>F n K:=by
 cases x with
 | none=>exact h d
 | some a=>
  cases a with
  | int k n=>exact .and (h _)
  | _=>exact .no
theorem ads {P:Program} {t:TypeId} {x:AV} {lo hi:Option AV} {H:List Blk}:eM (vo P t x lo hi H):=by
 cases x with
 | str s=>
  show eM fun K:AV→Prop=>(match P.underlying t with
   | some .string=>ms lo 0 fun l=>ms hi s.size fun h=>l≤h∧h≤s.size∧K (.str (s.extract l h))
   | _=>False)
  split
  ·exact vX fun l=>vX fun h=> .and (.and (.ret _))
  ·exact .no
 | bD rows eD fr=>exact .bind fun e=> .ite (vX fun l=>vX fun h=> .and (.and (.and (.ret _)))) .no
 | ref b g off n eD=>
  refine .bind fun e=> .ite (.bind fun blk=> .and (.and (vX fun l=>vX fun h=> .TQ fun hle=> .and ?_))) .no
  intro K ⟨h1,h2⟩
  rcases Nat.lt_trichotomy l h with bf | yU | pP
  ·exact⟨_,h1 bf,fun _=>rfl,fun e=>absurd e (by omega)⟩
  ·exact⟨_,h2 yU,fun e=>absurd e (by omega),fun _=>rfl⟩
  ·omega
 | _=>exact .no
theorem Vw {x:AV} {i:Nat}:eM (EA x i):=by
 cases x with
 | tup l=>exact .bind fun _=> .ret _
 | _=>exact .no
theorem abQ {fn:Fn} {first:Array Operand} {caps:List AV}:eM (zq fn first caps):=by
 cases fn with
 | func f=>exact .ite (.ret _) .no
 | _=>exact .no
theorem Uf {P:Program} {t:TypeId} {parts:List (Nat×AV)}:eM (DK P t parts):= .bind fun _=> .bind fun _=> .bind fun _=> .ret _
theorem Ud {P:Program} {t:TypeId} {n:Nat} {parts:List (Nat×AV)}:eM (vZ P t n parts):= .bind fun _=> .bind fun _=> .ite (.bind fun _=> .ite (.ret _) .no) .no
def sa (x:AV) (K:AV→Prop):Prop:=match x with
 | .bD rows _ _=>K (.int .i64 rows.length)
 | .str s=>K (.int .i64 s.size)
 | .ref _ _ _ n _=>K (.int .i64 n)
 | _=>False
theorem abj {x:AV}:eM (sa x):=by
 cases x<;>first | exact .no | exact .ret _
theorem abk {x:AV} {K:AV→Prop} (h:sa x K):r_ x K:=by
 cases x<;>first | exact h | exact fun _=>h
theorem Uy {P:Program} {f:FuncId} {args:List AV} {L:List (Nat×List AV)} {H:List Blk}:eM (oS P f args L H):=fun K ⟨aF,ez,t,h1,h2,aP⟩=>⟨t,aP,aF,ez,t,h1,h2,rfl⟩
def Vq (P:Program) (c:Call) (bR:Operand→AV) (L:List (Nat×List AV)) (H:List Blk) (K:AV→Prop):Prop:=match c.callee with
 | .builtin .len=>(match c.args.toList,c.argTypes.toList with
  | [x],[t]=>e7 (j4 P t (bR x)) (sa (bR x) K)
  | _,_=>False)
 | .value f=>l0 (bR f) fun g caps=>oS P g (c.args.toList.map bR++caps) L H K
 | _=>False
def jY (P:Program) (o:Oper) (bR:Operand→AV) (L:List (Nat×List AV)) (H:List Blk) (K:AV→Prop):Prop:=match o.op with
 | .call c=>Vq P c bR L H K
 | .pick c x y=>oQ (bR c) fun z=>py true z (K (bR x)) (K (bR y))
 | .binOp op t x y _=>e7 (yj (bR x)) (sI P op t (bR x) (bR y) (qW y) K)
 | _=>sP P o bR L H K
theorem A_ {P:Program} {o:Oper} {bR:Operand→AV} {L:List (Nat×List AV)} {H:List Blk} {K:AV→Prop} (h:jY P o bR L H K):sP P o bR L H K:=by
 obtain⟨dst,op,ty,pos,after,guard⟩:=o
 cases op with
 | call c=>
  obtain⟨callee,args,argTypes⟩:=c
  cases callee with
  | builtin b=>
   cases b with
   | len=>
    have h:(match args.toList,argTypes.toList with
     | [x],[t]=>e7 (j4 P t (bR x)) (sa (bR x) K)
     | _,_=>False):=h
    show(match args.toList,argTypes.toList with
     | [x],[t]=>e7 (j4 P t (bR x)) (r_ (bR x) K)
     | _,_=>False)
    split at h
    ·obtain⟨h1,h2⟩:=p4 h
     simp only[h1];exact abk h2
    ·exact h.elim
   | _=>exact h.elim
  | value f=>exact h
  | _=>exact h.elim
 | binOp op t x y ty2=>exact(p4 (show e7 (yj (bR x)) (sI P op t (bR x) (bR y) (qW y) K) from h)).2
 | pick c x y=>
  obtain⟨b,hb,hw⟩:=AC (show oQ (bR c) fun z=>py true z (K (bR x)) (K (bR y)) from h)
  show oQ (bR c) fun z=>yh z (K (bR x)) (K (bR y))
  rw[hb];exact AM hw
 | _=>exact h
theorem T3 {α:Type} {z:Bool} {x y:α}:eM fun K=>py true z (K x) (K y):=by
 cases z with
 | true=>exact .ret x
 | false=>exact .ret y
theorem TY {α:Type} {v:AV} {F:Bool→(α→Prop)→Prop} (h: ∀b,eM (F b)):eM fun K=>oQ v fun b=>F b K:=by
 cases v with
 | bool b=>exact h b
 | _=>exact .no
theorem Vt {P:Program} {o:Oper} {bR:Operand→AV} {L:List (Nat×List AV)} {H:List Blk}:eM (jY P o bR L H):=by
 obtain⟨dst,op,ty,pos,after,guard⟩:=o
 cases op with
 | move x=>exact .ret _
 | assign x=>exact .ret _
 | pick c x y=>exact TY fun z=>T3
 | build t ps=>exact .e7 Uf
 | buildSlice t n ps=>exact .e7 Ud
 | load t a=>exact abe
 | nilCheck x=>exact abV
 | binOp op t x y ty2=>
  show eM fun K=>e7 (yj (bR x)) (sI P op t (bR x) (bR y) (qW y) K)
  cases hb:yj (bR x) with
  | true=>exact T6 hb
  | false=>exact .no
 | unOp op t x=>exact agr
 | convert s d x=>exact UZ
 | makeFunc fn first caps=>exact abQ
 | fieldAddr t x f=>exact VB
 | indexAddr t x i=>exact Zj
 | index t x i=>exact Zs
 | slice t x lo hi mx=>
  cases mx with
  | none=>exact ads
  | some m=>exact .no
 | extract x i=>exact Vw
 | call c=>
  obtain⟨callee,args,argTypes⟩:=c
  cases callee with
  | builtin b=>
   cases b with
   | len=>
    show eM fun K=>(match args.toList,argTypes.toList with
     | [x],[t]=>e7 (j4 P t (bR x)) (sa (bR x) K)
     | _,_=>False)
    split
    ·exact .e7 abj
    ·exact .no
   | _=>exact .no
  | value f=>
   show eM fun K=>l0 (bR f) fun g caps=>oS P g (args.toList.map bR++caps) L H K
   cases bR f with
   | fn g caps=>exact Uy
   | _=>exact .no
  | _=>exact .no
 | _=>exact .no
structure Item where
 i:Nat
 lit:Bool
 q:Bool
 jF:List Nat
def JG:AV→AV→Bool
 | .int k n,.int kK pZ=>decide (k=kK)&&decide (n=pZ)
 | .bool b,.bool ct=>b==ct
 | .bD [] f g,.bD [] Bc dK=>f==Bc&&g==dK
 | .gf,.gf=>true
 | _,_=>false
def Dn:List AV→List AV→Bool
 | [],[]=>true
 | a::l,b::m=>JG a b&&Dn l m
 | _,_=>false
theorem ag3 {a b:AV} (h:JG a b=true):a=b:=by
 unfold JG at h
 split at h
 ·simp only[Bool.and_eq_true,decide_eq_true_eq] at h;rw[h.1,h.2]
 ·rw[eq_of_beq h]
 ·simp only[Bool.and_eq_true] at h;rw[eq_of_beq h.1,eq_of_beq h.2]
 ·rfl
 ·cases h
theorem TC: ∀{l m:List AV},Dn l m=true→l=m
 | [],[],_=>rfl
 | [],_::_,h=>by cases h
 | _::_,[],h=>by cases h
 | a::l,b::m,h=>by
  simp only[Dn,Bool.and_eq_true] at h
  rw[ag3 h.1,TC h.2]
def pW (o:Oper):Bool:=match o.op with
 | .alloc _=>true
 | _=>false
def JQ (P:Program) (e:TypeId) (dst:Option Nat) (L:List (Nat×List AV)) (K:AV→Prop):Prop:=c3 (nq P e) fun z=>c3 dst fun t=>c3 (eW L t) fun c=>e7 (z.all ji) (e7 (Dn c z) (K (.fG t 0)))
def lx (P:Program) (o:Oper) (bR:Operand→AV) (L:List (Nat×List AV)) (H:List Blk) (K:AV→Prop):Prop:=match o.op with
 | .alloc e=>JQ P e o.dst L K
 | _=>jY P o bR L H K
theorem wh {P:Program} {o:Oper} {bR:Operand→AV} {L:List (Nat×List AV)} {H:List Blk} {K:AV→Prop} (h:pW o=false):lx P o bR L H K=jY P o bR L H K:=by
 obtain⟨dst,op,ty,pos,after,guard⟩:=o
 cases op<;>first | rfl | cases h
theorem Vs {P:Program} {o:Oper} {bR:Operand→AV} {L:List (Nat×List AV)} {H:List Blk}:eM (lx P o bR L H):=by
 cases h:pW o with
 | false=>intro K hk;rw[wh h] at hk;obtain⟨r,h1,h2⟩:=Vt K hk;exact⟨r,h1,by rw[wh h];exact h2⟩
 | true=>
  obtain⟨dst,op,ty,pos,after,guard⟩:=o
  cases op
  case alloc e=>exact eM.bind fun _=> .bind fun _=> .bind fun _=> .e7 (.e7 (.ret _))
  all_goals cases h
def opI (ops:Array Oper) (i:Nat):Oper:=ops.getD i default
def sM (o:Oper) (T:List AV):AV:=match o.dst with
 | some d=>T.getD d .undef
 | none=> .undef
def rN (P:Program) (ops:Array Oper):List Nat→List AV→List (Nat×List AV)→List Blk→Prop
 | [],_,_,_=>True
 | i::r,T,L,H=>((opI ops i).guard.isNone=true∧(opI ops i).dst.isSome=true∧lx P (opI ops i) (cv T) L H (fun v=>v=sM (opI ops i) T))∧rN P ops r T L H
theorem Ld {P:Program} {ops:Array Oper} {T:List AV} {L:List (Nat×List AV)} {H:List Blk}: ∀{jF:List Nat},rN P ops jF T L H→ ∀i∈jF,(opI ops i).guard.isNone=true∧(opI ops i).dst.isSome=true∧lx P (opI ops i) (cv T) L H (fun v=>v=sM (opI ops i) T)
 | [],_,i,hi=>by cases hi
 | j::r,h,i,hi=>by
  rcases List.mem_cons.1 hi with rfl | hi
  ·exact h.1
  ·exact Ld h.2 i hi
def kh (P:Program) (esc:List Nat) (ops:Array Oper):List Item→List AV→List (Nat×List AV)→List Blk→(List AV→List (Nat×List AV)→List Blk→Prop)→Prop
 | [],T,L,H,K=>K T L H
 | x::rest,T,L,H,K=>oe ops x.lit (opI ops x.i) T
   (fun T=>match x.q with
    | true=>lx P (opI ops x.i) (cv T) L H fun v=>kh P esc ops rest (putA T (opI ops x.i).dst v) L H K
    | false=>kg P esc (opI ops x.i) (cv T) L H fun v L' H'=>rN P ops x.jF T L' H'∧kh P esc ops rest (putA T (opI ops x.i).dst v) L' H' K)
   (fun T=>kh P esc ops rest (putA T (opI ops x.i).dst (.tup [])) L H K)
theorem KY {P:Program} {o:Oper} {bR fZ:Operand→AV} {L:List (Nat×List AV)} {H:List Blk} {K:AV→Prop} (h: ∀x∈o.op.operands,bR x=fZ x):sP P o bR L H K=sP P o fZ L H K:=by
 obtain⟨dst,op,ty,pos,after,guard⟩:=o
 have O7: ∀ps:Array (Nat×Operand),(∀x∈ps.map (·.2),bR x=fZ x)→(ps.toList.map fun p=>(p.1,bR p.2))=(ps.toList.map fun p=>(p.1,fZ p.2)):=fun ps aI=>
  List.map_congr_left fun p hm=>by rw[aI p.2 (Array.mem_map.2 ⟨p,by simpa using hm,rfl⟩)]
 have JV: ∀ps:Array (Nat×Operand),(∀x∈ps.map (·.2),bR x=fZ x)→(ps.toList.all fun p=>e6 (bR p.2))=(ps.toList.all fun p=>e6 (fZ p.2)):=fun ps aI=>by
  rw[Bool.eq_iff_iff,List.all_eq_true,List.all_eq_true]
  constructor<;>intro q p hm
  ·rw[←aI p.2 (Array.mem_map.2 ⟨p,by simpa using hm,rfl⟩)];exact q p hm
  ·rw[aI p.2 (Array.mem_map.2 ⟨p,by simpa using hm,rfl⟩)];exact q p hm
 have bD: ∀xs:Array Operand,(∀x∈xs,bR x=fZ x)→xs.toList.map bR=xs.toList.map fZ:=fun xs hx=>List.map_congr_left fun p hm=>hx p (by simpa using hm)
 cases op<;>simp only[Op.operands] at h
 case build t ps=>
  show e7 _ _=e7 _ _
  rw[O7 ps fun x hx=>h x (by simpa using hx),JV ps fun x hx=>h x (by simpa using hx)]
 case buildSlice t n ps=>
  show e7 _ _=e7 _ _
  rw[O7 ps fun x hx=>h x (by simpa using hx),JV ps fun x hx=>h x (by simpa using hx)]
 case makeFunc fn first caps=>
  show zq fn first (caps.toList.map bR) K=zq fn first (caps.toList.map fZ) K
  rw[bD caps fun x hx=>h x (by simp[hx])]
 case slice t x lo hi mx=>
  cases mx with
  | some m=>rfl
  | none=>
   show vo P t (bR x) (lo.map bR) (hi.map bR) H K=vo P t (fZ x) (lo.map fZ) (hi.map fZ) H K
   cases lo<;>cases hi<;>simp_all
 case call c=>
  obtain⟨callee,args,argTypes⟩:=c
  have a4: ∀x∈args,bR x=fZ x:=fun x hx=>h x (by simp[Call.operands,hx])
  cases callee with
  | builtin b=>
   cases b with
   | len=>
    show(match args.toList,argTypes.toList with
     | [x],[t]=>e7 (j4 P t (bR x)) (r_ (bR x) K)
     | _,_=>False)=(match args.toList,argTypes.toList with
     | [x],[t]=>e7 (j4 P t (fZ x)) (r_ (fZ x) K)
     | _,_=>False)
    split
    ·rename_i x t h1 h2
     rw[a4 x (by rw[←Array.mem_toList_iff,h1];simp)]
    ·rfl
   | _=>rfl
  | value f=>
   have hf:bR f=fZ f:=h f (by simp[Call.operands])
   show l0 (bR f) _=l0 (fZ f) _
   rw[hf,bD args a4]
  | invoke r m=>rfl
 all_goals (first | rfl | (simp only[sP];simp_all;done))
theorem KX {P:Program} {o:Oper} {bR fZ:Operand→AV} {L:List (Nat×List AV)} {H:List Blk} {K:AV→Prop} (h: ∀x∈o.op.operands,bR x=fZ x):jY P o bR L H K=jY P o fZ L H K:=by
 have hv:=fun K=>KY (P:=P) (L:=L) (H:=H) (K:=K) h
 obtain⟨dst,op,ty,pos,after,guard⟩:=o
 cases op
 case call c=>
  simp only[Op.operands] at h
  obtain⟨callee,args,argTypes⟩:=c
  have a4: ∀x∈args,bR x=fZ x:=fun x hx=>h x (by simp[Call.operands,hx])
  cases callee with
  | builtin b=>
   cases b with
   | len=>
    show(match args.toList,argTypes.toList with
     | [x],[t]=>e7 (j4 P t (bR x)) (sa (bR x) K)
     | _,_=>False)=(match args.toList,argTypes.toList with
     | [x],[t]=>e7 (j4 P t (fZ x)) (sa (fZ x) K)
     | _,_=>False)
    split
    ·rename_i x t h1 h2
     rw[a4 x (by rw[←Array.mem_toList_iff,h1];simp)]
    ·rfl
   | _=>rfl
  | value f=>exact hv K
  | invoke r m=>rfl
 case pick c x y=>simp only[Op.operands] at h;simp only[jY];simp_all
 case binOp op t x y ty2=>simp only[Op.operands] at h;simp only[jY];simp_all
 all_goals exact hv K
theorem KT {P:Program} {o:Oper} {bR fZ:Operand→AV} {L:List (Nat×List AV)} {H:List Blk} {K:AV→Prop} (h: ∀x∈o.op.operands,bR x=fZ x):lx P o bR L H K=lx P o fZ L H K:=by
 cases a4:pW o with
 | false=>rw[wh a4,wh a4];exact KX h
 | true=>
  obtain⟨dst,op,ty,pos,after,guard⟩:=o
  cases op
  case alloc e=>rfl
  all_goals cases a4
theorem Vr {P:Program} {esc:List Nat} {o:Oper} {bR fZ:Operand→AV} {L:List (Nat×List AV)} {H:List Blk} {K:AV→List (Nat×List AV)→List Blk→Prop} (h: ∀x∈o.op.operands,bR x=fZ x):kg P esc o bR L H K=kg P esc o fZ L H K:=by
 have hv:=fun K=>KY (P:=P) (L:=L) (H:=H) (K:=K) h
 obtain⟨dst,op,ty,pos,after,guard⟩:=o
 cases op
 case call c=>
  obtain⟨callee,args,argTypes⟩:=c
  have h':=h
  simp only[Op.operands] at h
  have a4: ∀x∈args,bR x=fZ x:=fun x hx=>h x (by simp[Call.operands,hx])
  cases callee with
  | builtin b=>
   cases b with
   | len=>exact hv fun r=>K r L H
   | append=>
    show(match args.toList,argTypes.toList with
     | [s,x],[t,t2]=>e6 (bR s)=true∧e6 (bR x)=true∧tW P t t2 (bR s) (bR x) L H K
     | _,_=>False)=(match args.toList,argTypes.toList with
     | [s,x],[t,t2]=>e6 (fZ s)=true∧e6 (fZ x)=true∧tW P t t2 (fZ s) (fZ x) L H K
     | _,_=>False)
    split
    ·rename_i s x t t2 h1 h2
     rw[a4 x (by rw[←Array.mem_toList_iff,h1];simp),a4 s (by rw[←Array.mem_toList_iff,h1];simp)]
    ·rfl
   | _=>rfl
  | value f=>
   have hf:bR f=fZ f:=h f (by simp[Call.operands])
   show l0 (bR f) _=l0 (fZ f) _
   rw[hf,List.map_congr_left fun p hm=>a4 p (by simpa using hm)]
  | invoke r m=>rfl
 case alloc e=>rfl
 case buildSlice t n ps=>
  simp only[Op.operands] at h
  have h: ∀x∈ps.map (·.2),bR x=fZ x:=fun x hx=>h x (by simpa using hx)
  have bA:(ps.toList.map fun p=>(p.1,bR p.2))=(ps.toList.map fun p=>(p.1,fZ p.2)):=
   List.map_congr_left fun p hm=>by rw[h p.2 (Array.mem_map.2 ⟨p,by simpa using hm,rfl⟩)]
  have e2:(ps.toList.all fun p=>e6 (bR p.2))=(ps.toList.all fun p=>e6 (fZ p.2)):=by
   rw[Bool.eq_iff_iff,List.all_eq_true,List.all_eq_true]
   constructor<;>intro q p hm
   ·rw[←h p.2 (Array.mem_map.2 ⟨p,by simpa using hm,rfl⟩)];exact q p hm
   ·rw[h p.2 (Array.mem_map.2 ⟨p,by simpa using hm,rfl⟩)];exact q p hm
  show e7 _ (t_ P (ue esc dst) (vk esc) t n _ L H K)=e7 _ (t_ P (ue esc dst) (vk esc) t n _ L H K)
  rw[bA,e2]
 case store t x y=>simp only[Op.operands] at h;simp only[kg];simp_all
 case box e x=>simp only[Op.operands] at h;simp only[kg];simp_all
 case makeSlice t l c=>simp only[Op.operands] at h;simp only[kg];simp_all
 all_goals exact hv fun r=>K r L H
structure vL (P:Program) (ops:Array Oper) (L:List (Nat×List AV)) (H:List Blk) (T:List AV) (o:Oper) (v:AV) (run:Bool):Prop where
 cH: ∀(E:Env) (a:Act),(∀t∈o.looksAt ops,V3 E (T.getD t .undef) (a.tmps.getD t undef))→T.length=a.tmps.size→Region.wanted o (yielded ops a.tmps)=run
 rC:run=true→lx P o (cv T) L H (fun r=>r=v)
 no:run=false→v= .tup []
 put: ∀d,o.dst=some d→d<T.length→T.getD d .undef=v
theorem abE {ops:Array Oper} {o:Oper} {t:Nat} (h: .tmp t∈o.op.operands):t∈o.looksAt ops:=
 List.mem_append_left _ (List.mem_filterMap.2 ⟨.tmp t,by simpa using h,rfl⟩)
theorem abD {ops:Array Oper} {o:Oper} {j t:Nat} {b:Bool} (hg:o.guard=some (j,b)) (bu:(ops[j]?).bind (·.dst)=some t):t∈o.looksAt ops:=by
 refine List.mem_append_right _ ?_
 rw[hg];simp[bu]
theorem Cq {ops:Array Oper} {o:Oper} {T T':List AV} (h: ∀t∈o.looksAt ops,T.getD t .undef=T'.getD t .undef): ∀x∈o.op.operands,cv T x=cv T' x:=fun x hx=>by
 cases x with
 | tmp t=>exact h t (abE hx)
 | _=>rfl
theorem vL.mono {P:Program} {ops:Array Oper} {L:List (Nat×List AV)} {H:List Blk} {T T':List AV} {o:Oper} {v:AV} {run:Bool} (h:vL P ops L H T o v run) (aL:T'.length=T.length)
  (a4: ∀t∈o.looksAt ops,T'.getD t .undef=T.getD t .undef) (bj: ∀d,o.dst=some d→T'.getD d .undef=T.getD d .undef):vL P ops L H T' o v run where
 cH:=fun E a hs aO=>h.cH E a (fun t bu=>by rw[←a4 t bu];exact hs t bu) (by rw[←aL];exact aO)
 rC:=fun aK=>by
  rw[KT (Cq a4)]
  exact h.rC aK
 no:=h.no
 put:=fun d pK bf=>by rw[bj d pK];exact h.put d pK (by rw[←aL];exact bf)
theorem Lp {P:Program} {ops:Array Oper} {lit:Bool} {o:Oper} {T:List AV} {x y:List AV→Prop} (h:oe ops lit o T x y):
  ∃T' run,T'.length=T.length∧(∀t,T'.getD t .undef=T.getD t .undef)∧(∀(E:Env) (a:Act),(∀t∈o.looksAt ops,V3 E (T.getD t .undef) (a.tmps.getD t undef))→T.length=a.tmps.size→Region.wanted o (yielded ops a.tmps)=run)∧(if run=true then x T' else y T'):=by
 unfold oe at h
 cases hg:o.guard with
 | none=>rw[hg] at h;exact⟨T,true,rfl,fun _=>rfl,fun E a _ _=>by simp[Region.wanted,hg],h⟩
 | some g=>
  obtain⟨j,cH⟩:=g
  rw[hg] at h
  simp only at h
  cases aM:(ops[j]?).bind (·.dst) with
  | none=>rw[aM] at h;exact h.elim
  | some t=>
   rw[aM] at h
   simp only at h
   have BH:t∈o.looksAt ops:=abD hg aM
   have r2: ∀b,T.getD t .undef= .bool b→ ∀s,(T.set t (.bool b)).getD s .undef=T.getD s .undef:=fun b hb s=>by
    rw[rP]
    by_cases hs:t=s∧t<T.length
    ·rw[if_pos hs,←hs.1,hb]
    ·rw[if_neg hs]
   split at h
   ·rename_i b hb
    obtain⟨h1,h2⟩:=AM h
    have hw: ∀(E:Env) (a:Act),(∀t∈o.looksAt ops,V3 E (T.getD t .undef) (a.tmps.getD t undef))→T.length=a.tmps.size→Region.wanted o (yielded ops a.tmps)=(b==cH):=fun E a hs aO=>by
     have hv:=hs t BH
     rw[hb] at hv
     have he:a.tmps.getD t undef= .bool b:=V3.rI hv
     have hy:yielded ops a.tmps j=some b:=by
      unfold yielded
      rw[aM]
      rw[Array.getD_eq_getD_getElem?] at he
      cases aj:a.tmps[t]? with
      | none=>rw[aj] at he;cases he
      | some x=>rw[aj] at he;have:x= .bool b:=he;subst this;simp[aj]
     simp[Region.wanted,hg,hy]
    cases b with
    | true=>refine⟨_,_,by simp,r2 true hb,hw,?_⟩;have:=h1 rfl;cases cH<;>exact this
    | false=>refine⟨_,_,by simp,r2 false hb,hw,?_⟩;have:=h2 rfl;cases cH<;>exact this
   ·rename_i hb
    refine⟨T,false,rfl,fun _=>rfl,fun E a hs aO=> ?_,h⟩
    have hv:=hs t BH
    rw[hb] at hv
    obtain⟨vs,he,aI⟩:=(show ∃vs:List Value,a.tmps.getD t undef= .tuple vs.toArray∧aD (V2 E) [] vs from hv)
    obtain rfl:=aI.xa
    have hy:yielded ops a.tmps j=none:=by
     unfold yielded
     rw[aM]
     rw[Array.getD_eq_getD_getElem?] at he
     cases aj:a.tmps[t]? with
     | none=>simp[aj]
     | some x=>rw[aj] at he;have:x= .tuple #[]:=he;subst this;simp[aj]
    simp[Region.wanted,hg,hy]
   ·exact h.elim
theorem xt (T:List AV) (d:Option Nat) (v:AV):(putA T d v).length=T.length:=by
 cases d<;>simp[putA]
theorem CD {T:List AV} {d:Option Nat} {v:AV} {t:Nat} (h:d≠some t):(putA T d v).getD t .undef=T.getD t .undef:=by
 cases d with
 | none=>rfl
 | some s=>
  show(T.set s v).getD t .undef=_
  rw[rP,if_neg]
  rintro⟨rfl,_⟩;exact h rfl
theorem Pw {T:List AV} {d:Nat} {v:AV} (h:d<T.length):(putA T (some d) v).getD d .undef=v:=by
 show(T.set d v).getD d .undef=v
 rw[rP,if_pos ⟨rfl,h⟩]
def lV (ops:Array Oper):List Item→Prop
 | []=>True
 | x::r=>(∀t∈(opI ops x.i).looksAt ops,∀y∈x::r,(opI ops y.i).dst≠some t)∧(∀d,(opI ops x.i).dst=some d→ ∀y∈r,(opI ops y.i).dst≠some d)∧lV ops r
theorem H8 {P:Program} {esc:List Nat} {ops:Array Oper} {L:List (Nat×List AV)} {H:List Blk} {K:List AV→List (Nat×List AV)→List Blk→Prop}: ∀(l:List Item) (T:List AV),lV ops l→kh P esc ops l T L H K→
  ∃pre post oN,l=pre++post∧(∀x∈pre,x.q=true)∧(∀x r,post=x::r→x.q=false)∧kh P esc ops post oN L H K∧oN.length=T.length∧
   (∀t,(∀x∈pre,(opI ops x.i).dst≠some t)→oN.getD t .undef=T.getD t .undef)∧ ∀x∈pre,∃v run,vL P ops L H oN (opI ops x.i) v run
 | [],T,_,h=>⟨[],[],T,rfl,fun x hx=>(by cases hx),fun x r e=>(by cases e),h,rfl,fun _ _=>rfl,fun x hx=>(by cases hx)⟩
 | x::r,T,aA,h=>by
  cases aj:x.q with
  | false=>exact⟨[],x::r,T,rfl,fun x hx=>(by cases hx),fun y CL e=>(by cases e;exact aj),h,rfl,fun _ _=>rfl,fun x hx=>(by cases hx)⟩
  | true=>
   obtain⟨mr,run,o0,l8,hw,fV⟩:=Lp (P:=P) h
   obtain⟨JX,TR,TT⟩:=aA
   have key: ∃v,kh P esc ops r (putA mr (opI ops x.i).dst v) L H K∧(run=true→lx P (opI ops x.i) (cv mr) L H (fun r=>r=v))∧(run=false→v= .tup []):=by
    cases run with
    | true=>
     have fV:(match x.q with
      | true=>lx P (opI ops x.i) (cv mr) L H fun v=>kh P esc ops r (putA mr (opI ops x.i).dst v) L H K
      | false=>_):=fV
     rw[aj] at fV
     obtain⟨v,h1,h2⟩:=Vs _ fV
     exact⟨v,h1,fun _=>h2,fun e=>by cases e⟩
    | false=>exact⟨.tup [],fV,fun e=>(by cases e),fun _=>rfl⟩
   obtain⟨v,hv,Ze,l9⟩:=key
   obtain⟨pre,post,oN,rfl,uC,ko,rV,hlen,hp,yV⟩:=H8 r _ TT hv
   have s3: ∀y∈pre,y∈pre++post:=fun y hy=>List.mem_append_left _ hy
   have y2: ∀t∈(opI ops x.i).looksAt ops,oN.getD t .undef=mr.getD t .undef:=fun t bu=>by
    rw[hp t fun y hy=>JX t bu y (List.mem_cons_of_mem _ (s3 y hy)),CD (JX t bu x (List.mem_cons_self ..))]
   refine⟨x::pre,post,oN,rfl,fun y hy=> ?_,ko,rV,by rw[hlen,xt,o0],fun t bu=> ?_,fun y hy=> ?_⟩
   ·rcases List.mem_cons.1 hy with rfl | hy
    ·exact aj
    ·exact uC y hy
   ·rw[hp t fun y hy=>bu y (List.mem_cons_of_mem _ hy),CD (bu x (List.mem_cons_self ..)),l8]
   ·rcases List.mem_cons.1 hy with rfl | hy
    ·refine⟨v,run,⟨fun E a hs aO=>hw E a (fun t bu=> ?_) ?_,fun aK=> ?_,l9,fun d bj bf=> ?_⟩⟩
     ·rw[←l8 t,←y2 t bu];exact hs t bu
     ·rw[←aO,hlen,xt,o0]
     ·rw[KT (Cq y2)];exact Ze aK
     ·rw[hp d fun y hy=>TR d bj y (s3 y hy),bj]
      exact Pw (by rw[hlen,xt] at bf;exact bf)
    ·exact yV y hy
def tN (A:Nat→List Nat):List Item→List Item→Prop
 | _,[]=>True
 | p,h::r=>(h.q=false→(∀y∈r,h.i∈A y.i)∧ ∀x∈p,x.i∈A h.i∨x.i∈h.jF)∧tN A (p++[h]) r
theorem tN.at {A:Nat→List Nat}: ∀{pre p:List Item} {h:Item} {r:List Item},tN A p (pre++h::r)→h.q=false→(∀y∈r,h.i∈A y.i)∧ ∀x∈p++pre,x.i∈A h.i∨x.i∈h.jF
 | [],p,h,r,hb,aj=>by
  rw[List.append_nil];exact hb.1 aj
 | x::pre,p,h,r,hb,aj=>by
  have:=tN.at (pre:=pre) (p:=p++[x]) hb.2 aj
  simpa using this
structure Aq (ops:Array Oper) (ord:List Item) (A:Nat→List Nat):Prop where
 back: ∀i o,ops[i]?=some o→ ∀e∈o.after,Region.binds .any e=true→e.on<i
 TO: ∀i o,ops[i]?=some o→ ∀a∈A i,∃e∈o.after,Region.binds .any e=true∧(a=e.on∨a∈A e.on)
 all: ∀i,i<ops.size→ ∃x∈ord,x.i=i
 lt: ∀x∈ord,x.i<ops.size
 nodup:(ord.map (·.i)).Nodup
 agv: ∀x∈ord,∀t∈(opI ops x.i).looksAt ops,∀y∈ord,(opI ops y.i).dst=some t→y.i∈A x.i
 apart:lV ops ord
 kZ:tN A [] ord
theorem lV.tail {ops:Array Oper}: ∀{p r:List Item},lV ops (p++r)→lV ops r
 | [],_,h=>h
 | _::p,_,h=>lV.tail (p:=p) h.2.2
theorem lV.N0 {ops:Array Oper}: ∀{p r:List Item},lV ops (p++r)→ ∀x∈p,(∀t∈(opI ops x.i).looksAt ops,∀y∈r,(opI ops y.i).dst≠some t)∧ ∀d,(opI ops x.i).dst=some d→ ∀y∈r,(opI ops y.i).dst≠some d
 | [],_,_,x,hx=>by cases hx
 | z::p,r,h,x,hx=>by
  rcases List.mem_cons.1 hx with rfl | hx
  ·exact⟨fun t bu y hy=>h.1 t bu y (List.mem_cons_of_mem _ (List.mem_append_right _ hy)),fun d bj y hy=>h.2.1 d bj y (List.mem_append_right _ hy)⟩
  ·exact lV.N0 (p:=p) h.2.2 x hx
theorem lV.inj {ops:Array Oper}: ∀{l:List Item},lV ops l→ ∀x∈l,∀y∈l,x.i≠y.i→ ∀d,(opI ops x.i).dst=some d→(opI ops y.i).dst≠some d
 | [],_,x,hx,_,_,_,_,_=>by cases hx
 | z::r,h,x,hx,y,hy,cm,d,bj=>by
  rcases List.mem_cons.1 hx with ex | NX
  ·rcases List.mem_cons.1 hy with EB | GS
   ·exact absurd (by rw[ex,EB]) cm
   ·exact h.2.1 d (by rw[←ex];exact bj) y GS
  ·rcases List.mem_cons.1 hy with EB | GS
   ·exact fun e=>h.2.1 d (by rw[←EB];exact e) x NX bj
   ·exact lV.inj h.2.2 x NX y GS cm d bj
theorem sh {ops:Array Oper} {i:Nat} (h:i<ops.size):ops[i]?=some (opI ops i):=by
 unfold opI
 rw[Array.getElem?_eq_getElem h,Array.getD_eq_getD_getElem?,Array.getElem?_eq_getElem h];rfl
def Ds (ops:Array Oper) (S:Array Bool):Prop:= ∀i o,ops[i]?=some o→S.getD i false=true→ ∀e∈o.after,Region.binds .any e=true→S.getD e.on false=true
theorem TP {ops:Array Oper} {ord:List Item} {A:Nat→List Nat} (D:Aq ops ord A) {S:Array Bool} (hs:S.size=ops.size) (hc:Ds ops S): ∀(i:Nat) o,ops[i]?=some o→(∀e∈o.after,Region.binds .any e=true→S.getD e.on false=true)→ ∀a∈A i,S.getD a false=true:=by
 intro i
 induction i using Nat.strongRecOn with
 | _ i bS=>
  intro o aC aK a a4
  obtain⟨e,he,hb,rZ⟩:=D.TO i o aC a a4
  have s4:=aK e he hb
  rcases rZ with rfl | rZ
  ·exact s4
  ·have bf:=D.back i o aC e he hb
   have cK:e.on<ops.size:=by
    rcases Nat.lt_or_ge e.on ops.size with h | h
    ·exact h
    ·rw[Array.getD_eq_getD_getElem?,Array.getElem?_eq_none (by omega)] at s4;cases s4
   exact bS e.on bf _ (sh cK) (fun d_ X3 ek=>hc e.on _ (sh cK) s4 d_ X3 ek) a rZ
theorem PX {ops:Array Oper} {S:Array Bool} (hs:S.size=ops.size) {i:Nat} (h:i∈Region.ready .any ops S):i<ops.size∧S.getD i false=false∧ ∀e∈(opI ops i).after,Region.binds .any e=true→S.getD e.on false=true:=by
 unfold Region.ready at h
 rw[List.mem_filter,List.mem_range] at h
 obtain⟨bf,h⟩:=h
 rw[sh bf] at h
 simp only[Option.map_some,Option.getD_some,Bool.and_eq_true,Bool.not_eq_true',Array.all_eq_true_iff_forall_mem] at h
 obtain⟨h1,h2⟩:=h
 refine⟨bf,?_,fun e he hb=> ?_⟩
 ·rw[Array.getD_eq_getD_getElem?,Array.getElem?_eq_getElem (by omega)] at h1 ⊢;exact h1
 ·have:=h2 e he
  rw[hb] at this;simpa using this
theorem acP {ops:Array Oper} {ord:List Item} {A:Nat→List Nat} (D:Aq ops ord A) {S:Array Bool} (hs:S.size=ops.size) (h:Region.ready .any ops S=[]): ∀i,i<ops.size→S.getD i false=true:=by
 intro i
 induction i using Nat.strongRecOn with
 | _ i bS=>
  intro bf
  cases aj:S.getD i false with
  | true=>rfl
  | false=>
   exfalso
   have:i∈Region.ready .any ops S:=by
    unfold Region.ready
    rw[List.mem_filter,List.mem_range]
    refine⟨bf,?_⟩
    rw[sh bf]
    simp only[Option.map_some,Option.getD_some,Bool.and_eq_true,Bool.not_eq_true',Array.all_eq_true_iff_forall_mem]
    refine⟨?_,fun e he=> ?_⟩
    ·rw[Array.getD_eq_getD_getElem?,Array.getElem?_eq_getElem (by omega)] at aj ⊢;exact aj
    ·cases hb:Region.binds .any e with
     | false=>rfl
     | true=>
      have aL:=D.back i _ (sh bf) e he hb
      simpa using bS e.on aL (by omega)
   rw[h] at this;cases this
theorem Kv {α:Type} (p Ct:α→Bool) (j:α) (aI:p j=true) (s5:Ct j=false) (hk: ∀k,k≠j→p k=Ct k): ∀l:List α,l.Nodup→j∈l→l.countP p=l.countP Ct+1
 | [],_,h=>by cases h
 | k::l,aF,h=>by
  rw[List.nodup_cons] at aF
  by_cases Fu:k=j
  ·subst Fu
   rw[List.countP_cons_of_pos aI,List.countP_cons_of_neg (by simp[s5])]
   congr 1
   refine List.countP_congr fun x hx=> ?_
   rw[hk x (fun e=>aF.1 (e▸hx))]
  ·have aM:j∈l:=(List.mem_cons.1 h).resolve_left fun e=>Fu e.symm
   have bS:=Kv p Ct j aI s5 hk l aF.2 aM
   rw[List.countP_cons,List.countP_cons,hk k Fu,bS];omega
def left (n:Nat) (S:Array Bool):Nat:=(List.range n).countP fun j=> !S.getD j false
theorem yC {S:Array Bool} {i j:Nat}:(S.setIfInBounds i true).getD j false=if i=j∧i<S.size then true else S.getD j false:=by
 rw[Array.getD_eq_getD_getElem?,Array.getD_eq_getD_getElem?,Array.getElem?_setIfInBounds]
 by_cases h:i=j
 ·subst h
  by_cases aL:i<S.size
  ·simp[aL]
  ·simp[aL]
 ·simp[h]
theorem abh {n:Nat} {S:Array Bool} {i:Nat} (hs:S.size=n) (hi:i<n) (h:S.getD i false=false):left n S=left n (S.setIfInBounds i true)+1:=by
 refine Kv _ _ i (by simp[h]) ?_ (fun k hk=> ?_) _ List.nodup_range (List.mem_range.2 hi)
 ·rw[yC,if_pos ⟨rfl,by omega⟩];rfl
 ·rw[yC,if_neg (fun e=>hk e.1.symm)]
theorem abi {n:Nat} {S:Array Bool} (h:left n S=0): ∀i,i<n→S.getD i false=true:=fun i hi=>by
 have:=(List.countP_eq_zero.1 h) i (List.mem_range.2 hi)
 simpa using this
def uw:List Nat→List AV→List AV
 | [],T=>T
 | d::ir,T=>uw ir (T.set d .undef)
theorem BA: ∀(ir:List Nat) (T:List AV) (t:Nat),(t∈ir→(uw ir T).getD t .undef= .undef)∧(t ∉ ir→(uw ir T).getD t .undef=T.getD t .undef)
 | [],T,t=>⟨fun h=>(by cases h),fun _=>rfl⟩
 | d::ir,T,t=>by
  obtain⟨h1,h2⟩:=BA ir (T.set d .undef) t
  refine⟨fun h=> ?_,fun h=> ?_⟩
  ·by_cases bj:t∈ir
   ·exact h1 bj
   ·have e:t=d:=(List.mem_cons.1 h).resolve_right bj
    show(uw ir (T.set d .undef)).getD t .undef= .undef
    rw[h2 bj,rP]
    by_cases aL:d=t∧d<T.length
    ·rw[if_pos aL]
    ·rw[if_neg aL,List.getD_eq_getElem?_getD,List.getElem?_eq_none (by rcases Nat.lt_or_ge d T.length with q | q;exact absurd ⟨e.symm,q⟩ aL;omega)];rfl
  ·show(uw ir (T.set d .undef)).getD t .undef=_
   rw[h2 fun hm=>h (List.mem_cons_of_mem _ hm),rP,if_neg fun hm=>h (by rw[hm.1];exact List.mem_cons_self ..)]
section
variable {P:Program} {esc:List Nat} {ops:Array Oper} {ord:List Item} {A:Nat→List Nat} {Q:Exit→St→Prop} {cz:Env}
structure JI [cM] (P:Program) (esc:List Nat) (ops:Array Oper) (ord:List Item) (Q:Exit→St→Prop) (cz:Env) (S:Array Bool) (a:Act) (w:World) (pre post:List Item) (E:Env) (T:List AV) (L:List (Nat×List AV)) (H:List Blk):Prop where
 p3:ord=pre++post
 Ag: ∀x∈post,S.getD x.i false=false
 head: ∀x r,post=x::r→x.q=false
 Et:kh P esc ops post T L H (fun T L H=>Q .normal ⟨T,L,H⟩)
 facts: ∀x∈pre,S.getD x.i false=false→x.q=true∧ ∃v run,vL P ops L H T (opI ops x.i) v run
 iA: ∀t,(∃x∈pre,S.getD x.i false=false∧(opI ops x.i).dst=some t)∨V3 E (T.getD t .undef) (a.tmps.getD t undef)
 size:T.length=a.tmps.size
 h:SimH E H
 l:SimL E L
 l7:Good cz E
 bK: ∀x∈ord,S.getD x.i false=false→pW (opI ops x.i)=true→x.q=true→ ∀d,(opI ops x.i).dst=some d→E.mL d=none
 D_:a.defers=[]
 w:E.w=w
theorem PC {a:Act} {d:Option Nat} {u:Value} {t:Nat} (h:d≠some t):(a.put d u).tmps.getD t undef=a.tmps.getD t undef:=by
 cases d with
 | none=>rfl
 | some s=>
  show(a.tmps.setIfInBounds s u).getD t undef=_
  rw[Array.getD_eq_getD_getElem?,Array.getD_eq_getD_getElem?,Array.getElem?_setIfInBounds_ne (fun e=>h (by rw[e]))]
theorem PE {a:Act} {d:Nat} {u:Value} (h:d<a.tmps.size):(a.put (some d) u).tmps.getD d undef=u:=by
 show(a.tmps.setIfInBounds d u).getD d undef=_
 rw[Array.getD_eq_getD_getElem?,Array.getElem?_setIfInBounds_self];simp[h]
theorem PG (a:Act) (d:Option Nat) (u:Value):(a.put d u).tmps.size=a.tmps.size:=by
 cases d<;>simp[Act.put]
theorem Pz {a:Act} (d:Option Nat) (u:Value) (h:a.defers=[]):(a.put d u).defers=[]:=by
 cases d<;>exact h
theorem TN {o:Oper} {a:Act} {T:List AV} {L:List (Nat×List AV)} {H:List Blk} {v:AV} {E:Env} (aV:SimH E H) (b3:SimL E L) (a4:pW o=true) (aF: ∀d,o.dst=some d→E.mL d=none) (h:lx P o (cv T) L H (fun r=>r=v)):
  ∃t u E',V3 E' v u∧o.dst=some t∧Step E E'∧SimH E' H∧SimL E' L∧(∀s,s≠t→E'.mL s=E.mL s)∧True∧ ∀(next:Act→World→Prop) Q,next (a.put o.dst u) E'.w→o.wp P a E.w next Q:=by
 obtain⟨dst,op,ty,pos,after,guard⟩:=o
 cases op
 all_goals try (cases a4;done)
 rename_i e
 obtain⟨z,aO,h⟩:=fC (show JQ P e dst L (fun r=>r=v) from h)
 obtain⟨t,bu,h⟩:=fC h
 obtain⟨c,hc,h⟩:=fC h
 obtain⟨hs,h⟩:=p4 h
 obtain⟨aj,cs⟩:=p4 h
 have cs:AV.fG t 0=v:=cs
 clear h
 subst cs
 have aj:=TC aj
 subst aj
 obtain⟨i,vJ,q1,q2,q3,q4⟩:=vI (E:=E) aO
 obtain⟨E',bA,e2,dV,iZ,iu,_,m0⟩:=ON (ty:=e) aV b3 (nt.alloc E.w (.cells vJ.cells e (0,0))) hc (aF t bu) (Jj hs q4)
 refine⟨t,_,E',iu,bu,e2,dV,iZ,m0,trivial,fun next Q hk=> ?_⟩
 unfold Oper.wp
 rw[show execOp a.eval ⟨dst,.alloc e,ty,pos,after,guard⟩=(do pure (Next.value (←Instr.alloc e true (.tuple #[])))) from rfl]
 refine Jz (w':=E'.w) ?_ hk
 rw[bA]
 simp[Instr.alloc,zeroValue,typeInfo,q1,q2,newVar,newRow]
theorem U3 [cM] (D:Aq ops ord A): ∀(nz:Nat) (S:Array Bool) (a:Act) (w:World) (pre post:List Item) (E:Env) (T:List AV) (L:List (Nat×List AV)) (H:List Blk),
  S.size=ops.size→left ops.size S=nz→Ds ops S→JI P esc ops ord Q cz S a w pre post E T L H→wpAny P .any ops (nv cz Q) nz S a w:=by
 have fin: ∀(S:Array Bool) (a:Act) (w:World) (pre post:List Item) (E:Env) (T:List AV) (L:List (Nat×List AV)) (H:List Blk),(∀i,i<ops.size→S.getD i false=true)→JI P esc ops ord Q cz S a w pre post E T L H→nv cz Q .normal a w:=by
  intro S a w pre post E T L H eE I
  have aI:post=[]:=by
   cases post with
   | nil=>rfl
   | cons x r=>
    have h1:=I.Ag x (List.mem_cons_self ..)
    rw[eE x.i (D.lt x (by rw[I.p3];simp))] at h1;cases h1
  subst aI
  refine⟨rfl,⟨T,L,H⟩,E,I.Et,I.w,I.l7,⟨I.h,I.l,fun t=> ?_,I.size⟩,I.D_⟩
  rcases I.iA t with⟨x,hx,hu,_⟩ | h
  ·rw[eE x.i (D.lt x (by rw[I.p3];simp[hx]))] at hu;cases hu
  ·exact h
 intro nz
 induction nz with
 | zero=>
  intro S a w pre post E T L H hs hf hc I
  have eE:=abi hf
  refine⟨?_,fin S a w pre post E T L H eE I⟩
  cases aK:Region.ready .any ops S with
  | nil=>rfl
  | cons i l=>
   have:=PX hs (i:=i) (by rw[aK];exact List.mem_cons_self ..)
   rw[eE i this.1] at this;cases this.2.1
 | succ nz bS=>
  intro S a w pre post E T L H hs hf hc I
  refine⟨fun aK=>fin S a w pre post E T L H (acP D hs aK) I,fun i hi=> ?_⟩
  obtain⟨bf,qQ,s4⟩:=PX hs hi
  have E8:=TP D hs hc i _ (sh bf) s4
  have LD:(S.setIfInBounds i true).size=ops.size:=by simpa using hs
  have Bx:left ops.size (S.setIfInBounds i true)=nz:=by have:=abh hs bf qQ;omega
  have qH:Ds ops (S.setIfInBounds i true):=by
   intro j o aC aM e he hb
   rw[yC] at aM ⊢
   by_cases nB:i=j
   ·subst nB
    have:o=opI ops i:=by rw[sh bf] at aC;exact(Option.some.inj aC).symm
    subst this
    split
    ·rfl
    ·exact s4 e he hb
   ·rw[if_neg fun q=>nB q.1] at aM
    split
    ·rfl
    ·exact hc j o aC aM e he hb
  have Ic: ∀j,(S.setIfInBounds i true).getD j false=false→S.getD j false=false∧j≠i:=fun j aM=>by
   rw[yC] at aM
   split at aM
   ·cases aM
   ·rename_i q;exact⟨aM,fun e=>q ⟨e.symm,by omega⟩⟩
  have zX: ∀j,j≠i→S.getD j false=false→(S.setIfInBounds i true).getD j false=false:=fun j aM h=>by
   rw[yC,if_neg fun q=>aM q.1.symm];exact h
  obtain⟨y,hy,mB⟩:=D.all i bf
  subst mB
  have mB:y.i=y.i:=rfl
  let ir:List Nat:=(pre.filter fun x=> !S.getD x.i false).filterMap fun x=>(opI ops x.i).dst
  have Fk: ∀t,t∈ir↔ ∃x∈pre,S.getD x.i false=false∧(opI ops x.i).dst=some t:=fun t=>by
   simp only[ir,List.mem_filterMap,List.mem_filter,Bool.not_eq_true']
   constructor
   ·rintro⟨x,⟨h1,h2⟩,aP⟩;exact⟨x,h1,h2,aP⟩
   ·rintro⟨x,h1,h2,aP⟩;exact⟨x,⟨h1,h2⟩,aP⟩
  have cj: ∀t,V3 E ((uw ir T).getD t .undef) (a.tmps.getD t undef):=fun t=>by
   by_cases h:t∈ir
   ·rw[(BA ir T t).1 h];exact V3.undef _ _
   ·rw[(BA ir T t).2 h]
    exact(I.iA t).resolve_left fun q=>h ((Fk t).2 q)
  have y2: ∀t∈(opI ops y.i).looksAt ops,t ∉ ir:=fun t bu hm=>by
   obtain⟨x,hx,hu,bj⟩:=(Fk t).1 hm
   have:=E8 x.i (by rw[←mB];rw[←mB] at bu;exact D.agv y hy t bu x (by rw[I.p3];simp[hx]) bj)
   rw[this] at hu;cases hu
  have Mn: ∀t∈(opI ops y.i).looksAt ops,V3 E (T.getD t .undef) (a.tmps.getD t undef):=fun t bu=>(I.iA t).resolve_left fun q=>y2 t bu ((Fk t).2 q)
  have LI: ∀t∈(opI ops y.i).looksAt ops,(uw ir T).getD t .undef=T.getD t .undef:=fun t bu=>(BA ir T t).2 (y2 t bu)
  have JP: ∀E':Env,(∀t,(opI ops y.i).dst≠some t→E'.mL t=E.mL t)→ ∀x∈ord,(S.setIfInBounds y.i true).getD x.i false=false→pW (opI ops x.i)=true→x.q=true→ ∀d,(opI ops x.i).dst=some d→E'.mL d=none:=fun E' hml x hx hu a4 Zc d bj=>by
   obtain⟨wT,wU⟩:=Ic _ hu
   rw[hml d (D.apart.inj x hx y hy wU d bj)]
   exact I.bK x hx wT a4 Zc d bj
  unfold wpOp
  rw[sh bf]
  simp only
  have s3:y∈pre∨y∈post:=by rw[I.p3] at hy;exact List.mem_append.1 hy
  rcases s3 with uI | uI
  ·
   obtain⟨aj,v,run,F⟩:=I.facts y uI (by rw[mB];exact qQ)
   rw[mB] at F
   have hw:=F.cH E a Mn I.size
   have next: ∀(u:Value) (E':Env),Step E E'→SimH E' H→SimL E' L→(∀t,(opI ops y.i).dst≠some t→E'.mL t=E.mL t)→V3 E' v u→wpAny P .any ops (nv cz Q) nz (S.setIfInBounds y.i true) (a.put (opI ops y.i).dst u) E'.w:=fun u E' bi r0 r1 hml hv=>by
    refine bS _ _ _ pre post E' T L H LD Bx qH ⟨I.p3,fun x hx=>zX _ (fun e=> ?_) (I.Ag x hx),I.head,I.Et,fun x hx hu=>I.facts x hx (Ic _ hu).1,fun t=> ?_,by rw[PG];exact I.size,r0,r1,I.l7.step bi,JP E' hml,Pz _ _ I.D_,rfl⟩
    ·have mz:=D.nodup
     rw[I.p3,List.map_append,List.nodup_append] at mz
     exact mz.2.2 y.i (List.mem_map_of_mem uI) x.i (List.mem_map_of_mem hx) (by rw[mB,e])
    ·by_cases bj:(opI ops y.i).dst=some t
     ·right
      rw[bj]
      by_cases aL:t<T.length
      ·rw[F.put t bj aL,PE (by rw[←I.size];exact aL)];exact hv
      ·rw[List.getD_eq_getElem?_getD,List.getElem?_eq_none (Nat.not_lt.1 aL)];exact V3.undef _ _
     ·rcases I.iA t with⟨x,hx,hu,ze⟩ | h
      ·exact .inl ⟨x,hx,zX _ (fun e=>bj (by rw[←e];exact ze)) hu,ze⟩
      ·right;rw[PC bj];exact h.le bi.le
   cases run with
   | true=>
    rw[if_pos hw]
    refine .inl ?_
    have rV:=F.rC rfl
    cases E7:pW (opI ops y.i) with
    | true=>
     obtain⟨t,u,E',hv,X2,q1,q2,q3,q4,_,c4⟩:=TN (P:=P) (a:=a) I.h I.l E7 (fun t bu=>I.bK y hy (by rw[mB];exact qQ) E7 aj t bu) rV
     rw[←I.w]
     exact c4 _ _ (next u E' q1 q2 q3 (fun s hs=>q4 s fun e=>hs (by rw[X2,e])) hv)
    | false=>
    rw[wh E7,←KX (Cq LI)] at rV
    rw[←I.w]
    refine Oper.wp_mono (fun io w' ⟨e9,u,E',he,e3,hqt,hv,a4⟩=> ?_) (KZ cj (Sub.refl L H) I.h I.l (A_ rV))
    subst he;subst e3;subst a4
    exact next u E' hqt.step (hqt.simH I.h) (hqt.simL I.h I.l) (fun t _=>by rw[hqt.mL]) hv
   | false=>
    rw[if_neg (by rw[hw];simp)]
    have hv:=F.no rfl
    subst hv
    rw[←I.w]
    exact next undef E (Step.refl E) I.h I.l (fun _ _=>rfl) ⟨[],rfl,aD.nil⟩
  ·
   have ko: ∃r,post=y::r:=by
    cases aI:post with
    | nil=>rw[aI] at uI;cases uI
    | cons x r=>
     rw[aI] at uI
     rcases List.mem_cons.1 uI with rfl | Zf
     ·exact⟨r,rfl⟩
     ·have hb:=D.kZ
      rw[I.p3,aI] at hb
      have:=(hb.at (I.head x r aI)).1 y Zf
      rw[mB] at this
      have h1:=E8 x.i this
      rw[I.Ag x (by rw[aI];exact List.mem_cons_self ..)] at h1;cases h1
   obtain⟨r,YQ⟩:=ko
   subst YQ
   have aj:=I.head y r rfl
   have rV:=I.Et
   obtain⟨mr,run,o0,l8,hw,fV⟩:=Lp (P:=P) rV
   have hw:=hw E a Mn I.size
   have E9:=D.apart
   rw[I.p3] at E9
   have L6:=lV.N0 E9
   have XQ:=(show tN A [] (pre++y::r) from I.p3▸D.kZ).at aj
   have mz:=D.nodup
   rw[I.p3,List.map_append,List.map_cons,List.nodup_append,List.nodup_cons] at mz
   have YO: ∀x∈pre,S.getD x.i false=false→x.i∈y.jF:=fun x hx hu=>by
    rcases XQ.2 x (by simpa using hx) with h | h
    ·rw[mB] at h
     have:=E8 x.i h
     rw[hu] at this;cases this
    ·exact h

   have next: ∀(v:AV) (u:Value) (L':List (Nat×List AV)) (H':List Blk) (E':Env),Step E E'→SimH E' H'→SimL E' L'→(∀t,(opI ops y.i).dst≠some t→E'.mL t=E.mL t)→V3 E' v u→kh P esc ops r (putA mr (opI ops y.i).dst v) L' H' (fun T L H=>Q .normal ⟨T,L,H⟩)→
     (∀x∈pre,S.getD x.i false=false→ ∃v run,vL P ops L' H' mr (opI ops x.i) v run)→
     wpAny P .any ops (nv cz Q) nz (S.setIfInBounds y.i true) (a.put (opI ops y.i).dst u) E'.w:=by
    intro v u L' H' E' bi aV b3 hml hv hK Yh
    obtain⟨Hy,acq,oN,BQ,YM,YP,Yc,hlen,hp,yV⟩:=H8 r _ (lV.tail (p:=[y]) (lV.tail E9)) hK
    have FF: ∀z∈Hy,z∈r:=fun z aO=>by rw[BQ];exact List.mem_append_left _ aO
    have LF: ∀t,(∀z∈y::r,(opI ops z.i).dst≠some t)→oN.getD t .undef=mr.getD t .undef:=fun t bu=>by
     rw[hp t fun z aO=>bu z (List.mem_cons_of_mem _ (FF z aO)),CD (bu y (List.mem_cons_self ..))]
    refine bS _ _ _ (pre++y::Hy) acq E' oN L' H' LD Bx qH ⟨by rw[I.p3,BQ];simp,fun x hx=> ?_,YP,Yc,fun x hx hu=> ?_,fun t=> ?_,by rw[PG,hlen,xt,o0];exact I.size,aV,b3,I.l7.step bi,JP E' hml,Pz _ _ I.D_,rfl⟩
    ·have BZ:x∈r:=by rw[BQ];exact List.mem_append_right _ hx
     exact zX _ (fun e=>mz.2.1.1 (by rw[mB,←e];exact List.mem_map_of_mem BZ)) (I.Ag x (List.mem_cons_of_mem _ BZ))
    ·obtain⟨wT,wU⟩:=Ic _ hu
     rcases List.mem_append.1 hx with hx | hx
     ·refine⟨(I.facts x hx wT).1,?_⟩
      obtain⟨e9,run',F⟩:=Yh x hx wT
      refine⟨e9,run',F.mono (by rw[hlen,xt]) (fun t bu=>LF t fun z aO=>(L6 x hx).1 t bu z aO) fun d bj=>LF d fun z aO=>(L6 x hx).2 d bj z aO⟩
     ·rcases List.mem_cons.1 hx with rfl | hx
      ·exact absurd mB wU
      ·exact⟨YM x hx,yV x hx⟩
    ·by_cases rU: ∃z∈Hy,(opI ops z.i).dst=some t
     ·obtain⟨z,aO,pT⟩:=rU
      refine .inl ⟨z,by simp[aO],zX _ (fun e=>mz.2.1.1 (by rw[mB,←e];exact List.mem_map_of_mem (FF z aO))) (I.Ag z (List.mem_cons_of_mem _ (FF z aO))),pT⟩
     ·have bA:=hp t fun z aO q=>rU ⟨z,aO,q⟩
      by_cases bj:(opI ops y.i).dst=some t
      ·right
       rw[mB] at bj bA
       rw[bA,bj]
       by_cases aL:t<mr.length
       ·rw[Pw aL,PE (by rw[←I.size,←o0];exact aL)];exact hv
       ·rw[List.getD_eq_getElem?_getD,List.getElem?_eq_none (by rw[xt];exact Nat.not_lt.1 aL)];exact V3.undef _ _
      ·rw[CD bj,l8] at bA
       rcases I.iA t with⟨x,hx,hu,ze⟩ | h
       ·refine .inl ⟨x,by simp[hx],zX _ (fun e=>bj (by rw[mB,←e];exact ze)) hu,ze⟩
       ·right;rw[bA,PC (by rw[←mB];exact bj)];exact h.le bi.le
   cases run with
   | true=>
    rw[if_pos hw]
    refine .inl ?_
    have fV:(match y.q with
     | true=>_
     | false=>kg P esc (opI ops y.i) (cv mr) L H fun v L' H'=>rN P ops y.jF mr L' H'∧kh P esc ops r (putA mr (opI ops y.i).dst v) L' H' (fun T L H=>Q .normal ⟨T,L,H⟩)):=fV
    rw[aj] at fV
    have fV:kg P esc (opI ops y.i) (cv mr) L H fun v L' H'=>rN P ops y.jF mr L' H'∧kh P esc ops r (putA mr (opI ops y.i).dst v) L' H' (fun T L H=>Q .normal ⟨T,L,H⟩):=fV
    rw[←Vr (Cq fun t bu=>(LI t bu).trans (l8 t).symm)] at fV
    rw[←I.w]
    refine Oper.wp_mono (fun io w' ⟨v,u,L',H',E',⟨mw,hK⟩,e3,q1,q2,q3,q4,a4,hml⟩=> ?_) (evOp_sound cj I.h I.l fV)
    subst e3;subst a4
    refine next v u L' H' E' q1 q2 q3 hml q4 hK fun x hx hu=> ?_
    obtain⟨f1,f2,f3⟩:=Ld mw x.i (YO x hx hu)
    refine⟨_,true,⟨fun E a hs aO=> ?_,fun _=>f3,fun e=>(by cases e),fun d bj bf=> ?_⟩⟩
    ·unfold Region.wanted
     cases yX:(opI ops x.i).guard with
     | none=>rfl
     | some g=>rw[yX] at f1;cases f1
    ·unfold sM;rw[bj]
   | false=>
    rw[if_neg (by rw[hw];simp)]
    rw[←I.w]
    refine next (.tup []) undef L H E (Step.refl E) I.h I.l (fun _ _=>rfl) ⟨[],rfl,aD.nil⟩ fV fun x hx hu=> ?_
    obtain⟨_,e9,run',F⟩:=I.facts x hx hu
    exact⟨e9,run',F.mono o0 (fun t _=>l8 t) fun d _=>l8 d⟩
end
def AB (ops:Array Oper):List Item→Bool
 | []=>true
 | x::r=>((opI ops x.i).looksAt ops).all (fun t=>(x::r).all fun y=>(opI ops y.i).dst !=some t)&&(match(opI ops x.i).dst with
  | some d=>r.all fun y=>(opI ops y.i).dst !=some d
  | none=>true)&&AB ops r
theorem JZ {ops:Array Oper}: ∀{l:List Item},AB ops l=true→lV ops l
 | [],_=>trivial
 | x::r,h=>by
  simp only[AB,Bool.and_eq_true] at h
  obtain⟨⟨h1,h2⟩,aP⟩:=h
  refine⟨fun t bu y hy=> ?_,fun d bj y hy=> ?_,JZ aP⟩
  ·have:=List.all_eq_true.1 (List.all_eq_true.1 h1 t bu) y hy
   simpa using this
  ·rw[bj] at h2
   have:=List.all_eq_true.1 h2 y hy
   simpa using this
def AF (A:Nat→List Nat):List Item→List Item→Bool
 | _,[]=>true
 | p,h::r=>(h.q || (r.all (fun y=>(A y.i).contains h.i)&&p.all fun x=>(A h.i).contains x.i || h.jF.contains x.i))&&AF A (p++[h]) r
theorem J4 {A:Nat→List Nat}: ∀{l p:List Item},AF A p l=true→tN A p l
 | [],_,_=>trivial
 | h::r,p,hb=>by
  simp only[AF,Bool.and_eq_true] at hb
  refine⟨fun aj=> ?_,J4 hb.2⟩
  have h1:=hb.1
  rw[aj,Bool.false_or,Bool.and_eq_true] at h1
  refine⟨fun y hy=>by simpa using List.all_eq_true.1 h1.1 y hy,fun x hx=> ?_⟩
  have:=List.all_eq_true.1 h1.2 x hx
  simpa using this
def Cm:List Nat→Bool
 | []=>true
 | x::r=> !r.contains x&&Cm r
theorem OS: ∀{l:List Nat},Cm l=true→l.Nodup
 | [],_=>List.nodup_nil
 | x::r,h=>by
  simp only[Cm,Bool.and_eq_true] at h
  rw[List.nodup_cons]
  exact⟨by simpa using h.1,OS h.2⟩
def v8 (ops:Array Oper) (ord:List Item) (A:Nat→List Nat):Bool:=
 (List.range ops.size).all (fun i=>(opI ops i).after.toList.all (fun e=> !Region.binds .any e || decide (e.on<i))&&(A i).all fun a=>(opI ops i).after.toList.any fun e=>Region.binds .any e&&(a==e.on || (A e.on).contains a))&&
 (List.range ops.size).all (fun i=>ord.any fun x=>x.i==i)&&ord.all (fun x=>decide (x.i<ops.size))&&Cm (ord.map (·.i))&&
 ord.all (fun x=>((opI ops x.i).looksAt ops).all fun t=>ord.all fun y=>(opI ops y.i).dst !=some t || (A x.i).contains y.i)&&AB ops ord&&AF A [] ord
theorem U4 {ops:Array Oper} {ord:List Item} {A:Nat→List Nat} (hZ: ∀i,ops.size≤i→A i=[]) (h:v8 ops ord A=true):Aq ops ord A:=by
 simp only[v8,Bool.and_eq_true] at h
 obtain⟨⟨⟨⟨⟨⟨h1,h2⟩,aP⟩,a8⟩,cs⟩,cT⟩,gk⟩:=h
 have get: ∀i o,ops[i]?=some o→i<ops.size∧o=opI ops i:=fun i o aC=>by
  have bf:i<ops.size:=by
   rcases Nat.lt_or_ge i ops.size with h | h
   ·exact h
   ·rw[Array.getElem?_eq_none h] at aC;cases aC
  rw[sh bf] at aC
  exact⟨bf,(Option.some.inj aC).symm⟩
 refine⟨fun i o aC e he hb=> ?_,fun i o aC a a4=> ?_,fun i hi=> ?_,fun x hx=> ?_,OS a8,fun x hx t bu y hy bj=> ?_,JZ cT,J4 gk⟩
 ·obtain⟨bf,rfl⟩:=get i o aC
  have:=List.all_eq_true.1 h1 i (List.mem_range.2 bf)
  rw[Bool.and_eq_true] at this
  have:=List.all_eq_true.1 this.1 e (by simpa using he)
  rw[hb] at this;simpa using this
 ·obtain⟨bf,rfl⟩:=get i o aC
  have:=List.all_eq_true.1 h1 i (List.mem_range.2 bf)
  rw[Bool.and_eq_true] at this
  have:=List.all_eq_true.1 this.2 a a4
  obtain⟨e,he,hc⟩:=List.any_eq_true.1 this
  rw[Bool.and_eq_true] at hc
  exact⟨e,by simpa using he,hc.1,by simpa using hc.2⟩
 ·obtain⟨x,hx,hc⟩:=List.any_eq_true.1 (List.all_eq_true.1 h2 i (List.mem_range.2 hi))
  exact⟨x,hx,by simpa using hc⟩
 ·simpa using List.all_eq_true.1 aP x hx
 ·have:=List.all_eq_true.1 (List.all_eq_true.1 (List.all_eq_true.1 cs x hx) t bu) y hy
  rw[Bool.or_eq_true] at this
  rcases this with h | h
  ·rw[bj] at h;simp at h
  ·simpa using h
def ye (kd:List (List Nat)) (i:Nat):List Nat:=kd.getD i []
theorem Env.KF (E:Env):Step E {E with w:=E.w.drew}:=
 ⟨⟨fun _ h=>h,fun _ h=>h,fun _ _=>rfl,fun _ _=>rfl,fun _=>Nat.le_refl _,fun _ _ h _=>⟨h,rfl,rfl⟩,fun _ _ h=>h⟩,rfl,rfl,rfl,Nat.le_refl _,fun _ _ _ _=>rfl,fun _ _ h=> .inl h,fun _ h=> .inl h,fun _ h=> .inl h,fun _ h=> .inl h⟩
theorem U9 {E:Env} {H:List Blk} (h:SimH E H):SimH {E with w:=E.w.drew} H:=
 {h with
  heap:=fun b c hb=>by
   obtain⟨blk,ba,ty,q1,dS,q2,q3,q4,cR,c4⟩:=h.heap b c hb
   exact⟨blk,ba,ty,q1,dS,q2,q3,q4,cR,fun i j row a aK aM=>by obtain⟨u,hu,hv⟩:=c4 i j row a aK aM;exact⟨u,hu,hv.le (Env.KF E).le.b_⟩⟩}
theorem abg (n:Nat):left n (Array.replicate n false)=n:=by
 unfold left
 have:(List.range n).countP (fun j=> !(Array.replicate n false).getD j false)=(List.range n).countP (fun _=>true):=by
  refine List.countP_congr fun x hx=> ?_
  rw[Array.getD_eq_getD_getElem?,Array.getElem?_replicate]
  split<;>simp
 rw[this,List.countP_true,List.length_range]
def uc:List (Nat×List AV)→List (Nat×List AV)→Bool
 | [],_=>true
 | (t,_)::r,L=>(eW L t).isNone&&uc r L
def tV (ops:Array Oper) (L:List (Nat×List AV)):List Item→Bool
 | []=>true
 | x::r=>(match x.q&&pW (opI ops x.i) with
  | false=>true
  | true=>match(opI ops x.i).dst with
   | none=>true
   | some d=>(eW L d).isNone)&&tV ops L r
theorem Li {E:Env} {L:List (Nat×List AV)} (b3:SimL E L): ∀{iF:List (Nat×List AV)},uc iF L=true→SimL E (iF++L)
 | [],_=>b3
 | (t,c)::r,h=>by
  simp only[uc,Bool.and_eq_true,Option.isNone_iff_eq_none] at h
  exact(Li b3 h.2).cons (b3.none h.1)
theorem JR {ops:Array Oper} {E:Env} {L:List (Nat×List AV)} (b3:SimL E L): ∀{l:List Item},tV ops L l=true→ ∀x∈l,pW (opI ops x.i)=true→x.q=true→ ∀d,(opI ops x.i).dst=some d→E.mL d=none
 | [],_,x,hx,_,_,_,_=>by cases hx
 | y::r,h,x,hx,a4,aj,d,bj=>by
  simp only[tV,Bool.and_eq_true] at h
  rcases List.mem_cons.1 hx with rfl | hx
  ·have h1:=h.1
   rw[aj,a4] at h1
   simp only[Bool.and_self] at h1
   rw[bj] at h1
   exact b3.none (by simpa using h1)
  ·exact JR b3 h.2 x hx a4 aj d bj
theorem WpS.P0 [cM] {P:Program} {esc:List Nat} {c:Code} {id:Nat} {ops:Array Oper} {Q:Exit→St→Prop} {T:List AV} {L:List (Nat×List AV)} {H:List Blk} (ord:List Item) (kd:List (List Nat)) (hm:P.follows .mixedOrders=true)
  (aL:kd.length=ops.size) (bj:v8 ops ord (ye kd)=true) (e:c= .region id ops true) (iF:List (Nat×List AV)) (hf:uc iF L=true) (aO:tV ops L ord=true) (h:kh P esc ops ord T (iF++L) H (fun T L H=>Q .normal ⟨T,L,H⟩)):WpS P c Q ⟨T,L,H⟩:=by
 subst e
 intro cz E a g s d
 have D:=U4 (fun i hi=>by unfold ye;rw[List.getD_eq_getElem?_getD,List.getElem?_eq_none (by omega)];rfl) bj
 refine wp_region_any hm ?_
 obtain⟨pre,post,oN,aK,aI,wO,rV,hlen,hp,yV⟩:=H8 ord T D.apart h
 have qQ: ∀j,(Array.replicate ops.size false).getD j false=false:=fun j=>by
  rw[Array.getD_eq_getD_getElem?,Array.getElem?_replicate];split<;>rfl
 have bi:=Env.KF E
 have hw:(show World from{E.w with drawn:=E.w.drawn+1})=({E with w:=E.w.drew}:Env).w:=rfl
 refine U3 D ops.size _ a _ pre post {E with w:=E.w.drew} oN (iF++L) H (by simp) (abg _) (fun i o aC aM=> ?_) ⟨aK,fun x hx=>qQ _,wO,rV,fun x hx _=>⟨aI x hx,yV x hx⟩,fun t=> ?_,by rw[hlen];exact s.size,U9 s.h,Li ?_ hf,g.step bi,fun x hx _ a4 aj d bj=>JR s.l aO x hx a4 aj d bj,d,rfl⟩
 ·rw[qQ] at aM;cases aM
 ·by_cases rU: ∃z∈pre,(opI ops z.i).dst=some t
  ·obtain⟨z,aO,pT⟩:=rU
   exact .inl ⟨z,aO,qQ _,pT⟩
  ·right
   rw[hp t fun z aO q=>rU ⟨z,aO,q⟩]
   exact(s.iA t).le bi.le
 ·intro t c hm
  obtain⟨cells,ba,ty,q1,q2,q3⟩:=s.l t c hm
  exact⟨cells,ba,ty,q1,q2,q3.mono fun _ _ k=>k.le bi.le.b_⟩
theorem th {φ ψ:Prop} (e:φ=ψ) (h:ψ):φ:=e▸h
def zm (ops:Array Oper):List (Oper×Bool):=ops.toList.map fun o=>(o,true)
theorem WpS.P1 [cM] {P:Program} {esc:List Nat} {c:Code} {id:Nat} {ops:Array Oper} {Q:Exit→St→Prop} {T:List AV} {L:List (Nat×List AV)} {H:List Blk} (e:c= .region id ops false)
  (h:evOps P esc ops (zm ops) T L H (fun T L H=>Q .normal ⟨T,L,H⟩)):WpS P c Q ⟨T,L,H⟩:=by
 subst e
 intro cz E a g s d
 refine wp_region_list ?_
 have:=A9 (zm ops) T L H E a g s d h
 have e2:(zm ops).map (·.1)=ops.toList:=by
  unfold zm;rw[List.map_map];exact List.map_id' _
 rwa [e2] at this
section
variable {P:Program} {esc:List Nat} {ops:Array Oper} {l fq:List Item} {T T':List AV} {L L':List (Nat×List AV)} {H H':List Blk} {K:List AV→List (Nat×List AV)→List Blk→Prop}
end
def gn:List (Nat×AV)→Nat→AV
 | [],_=> .undef
 | (k,v)::r,t=>match Nat.beq k t with
  | true=>v
  | false=>gn r t
def l2:List (Nat×AV)→Nat→List (Nat×AV)
 | [],_=>[]
 | (k,v)::r,t=>match Nat.beq k t with
  | true=>l2 r t
  | false=>(k,v)::l2 r t
def e5 (n:Nat):List (Nat×AV)→Bool
 | []=>true
 | (k,_)::r=>match Nat.blt k n with
  | true=>e5 n r
  | false=>false
@[irreducible] def bh (n:Nat) (A:List (Nat×AV)):List AV:=(List.range n).map (gn A)
def oD (n:Nat) (A:List (Nat×AV)) (dst:Option Nat) (v:AV):List (Nat×AV):=match dst with
 | none=>A
 | some d=>match Nat.blt d n with
  | true=>(d,v)::l2 A d
  | false=>A
def p5 (A:List (Nat×AV)):Operand→AV
 | .tmp t=>gn A t
 | .const v=>oT v
 | .func f=> .fn f []
 | .global _=> .undef
theorem abC (A:List (Nat×AV)) (d t:Nat):gn (l2 A d) t=if d=t then .undef else gn A t:=by
 induction A with
 | nil=>simp[l2,gn]
 | cons p r bS=>
  obtain⟨k,v⟩:=p
  have BH:gn ((k,v)::r) t=match Nat.beq k t with
   | true=>v
   | false=>gn r t:=rfl
  rw[BH]
  cases h1:Nat.beq k d with
  | true=>
   have bA:=Nat.eq_of_beq_eq_true h1
   rw[show l2 ((k,v)::r) d=l2 r d by simp[l2,h1],bS]
   subst bA
   cases h2:Nat.beq k t with
   | true=>have e2:=Nat.eq_of_beq_eq_true h2;simp[e2]
   | false=>rfl
  | false=>
   rw[show l2 ((k,v)::r) d=(k,v)::l2 r d by simp[l2,h1],show gn ((k,v)::l2 r d) t=match Nat.beq k t with
    | true=>v
    | false=>gn (l2 r d) t from rfl]
   cases h2:Nat.beq k t with
   | true=>
    have e2:=Nat.eq_of_beq_eq_true h2
    have: ¬d=t:=fun e=>by subst e;subst e2;rw[Nat.beq_refl] at h1;cases h1
    simp[this]
   | false=>simp only;rw[bS]
theorem Oz {n:Nat}: ∀{A:List (Nat×AV)} {t:Nat},e5 n A=true→n≤t→gn A t= .undef
 | [],t,_,_=>rfl
 | (k,v)::r,t,h,bu=>by
  unfold e5 at h
  split at h
  ·rename_i hk
   have hk:k<n:=by rw[←Nat.blt_eq];exact hk
   unfold gn
   cases h2:Nat.beq k t with
   | true=>have:=Nat.eq_of_beq_eq_true h2;omega
   | false=>exact Oz h bu
  ·cases h
theorem Ha {n d:Nat}: ∀{A:List (Nat×AV)},e5 n A=true→e5 n (l2 A d)=true
 | [],h=>rfl
 | (k,v)::r,h=>by
  unfold e5 at h
  split at h
  ·rename_i hk
   unfold l2
   split
   ·exact Ha h
   ·unfold e5;rw[hk];exact Ha h
  ·cases h
theorem Hb {n:Nat} {A:List (Nat×AV)} (h:e5 n A=true) (dst:Option Nat) (v:AV):e5 n (oD n A dst v)=true:=by
 unfold oD
 split
 ·exact h
 ·split
  ·rename_i bj;unfold e5;rw[bj];exact Ha h
  ·exact h
theorem te (n:Nat) (A:List (Nat×AV)):(bh n A).length=n:=by unfold bh;simp
theorem q0 {n:Nat} {A:List (Nat×AV)} (h:e5 n A=true) (t:Nat):(bh n A).getD t .undef=gn A t:=by
 unfold bh
 rw[List.getD_eq_getElem?_getD,List.getElem?_map]
 rcases Nat.lt_or_ge t n with bf | fT
 ·rw[List.getElem?_range bf];rfl
 ·rw[List.getElem?_eq_none (by simpa using fT),Oz h fT];rfl
theorem Hc {n:Nat} {A:List (Nat×AV)} (dst:Option Nat) (v:AV):putA (bh n A) dst v=bh n (oD n A dst v):=by
 cases dst with
 | none=>rfl
 | some d=>
  show(bh n A).set d v=bh n (match Nat.blt d n with
   | true=>(d,v)::l2 A d
   | false=>A)
  cases bj:Nat.blt d n with
  | true=>
   apply List.ext_getElem?
   intro t
   unfold bh
   rw[List.getElem?_set]
   simp only[List.length_map,List.length_range,List.getElem?_map]
   rcases Nat.lt_or_ge t n with bf | fT
   ·rw[List.getElem?_range bf]
    by_cases he:d=t
    ·subst he;simp[bf,gn]
    ·have hb:Nat.beq d t=false:=by
      cases aj:Nat.beq d t with
      | true=>exact absurd (Nat.eq_of_beq_eq_true aj) he
      | false=>rfl
     simp[he,gn,hb,abC]
   ·rw[List.getElem?_eq_none (l:=List.range n) (by simpa using fT)]
    by_cases he:d=t
    ·subst he;simp[Nat.not_lt.2 fT]
    ·simp[he]
  | false=>
   have: ¬d<n:=fun h=>by rw[←Nat.blt_eq,bj] at h;cases h
   exact List.set_eq_of_length_le (by rw[te];omega)
theorem Cg {n:Nat} {A:List (Nat×AV)} (h:e5 n A=true):cv (bh n A)=p5 A:=by
 funext o
 cases o with
 | tmp t=>exact q0 h t
 | _=>rfl
theorem OI {n:Nat} {A:List (Nat×AV)} (h:e5 n A=true) {t:Nat} {b:Bool} (hb:gn A t= .bool b):(bh n A).set t (.bool b)=bh n A:=by
 apply List.ext_getElem?
 intro s
 rw[List.getElem?_set]
 by_cases he:t=s
 ·subst he
  rw[if_pos rfl]
  rcases Nat.lt_or_ge t n with bf | fT
  ·rw[if_pos (by rw[te];exact bf)]
   unfold bh
   rw[List.getElem?_map,List.getElem?_range bf]
   show _=some (gn A t)
   rw[hb]
  ·rw[if_neg (by rw[te];omega),List.getElem?_eq_none (by rw[te];omega)]
 ·rw[if_neg he]
def sS (ops:Array Oper) (o:Oper) (A:List (Nat×AV)) (x y:Prop):Prop:=match o.guard with
 | none=>x
 | some (j,cH)=>match(ops[j]?).bind (·.dst) with
  | none=>False
  | some t=>match gn A t with
   | .bool b=>(match b with
    | true=>(match cH with
     | true=>x
     | false=>y)
    | false=>(match cH with
     | true=>y
     | false=>x))
   | .tup []=>y
   | _=>False
theorem Ln {ops:Array Oper} {o:Oper} {n:Nat} {A:List (Nat×AV)} (h:e5 n A=true) {x y:List AV→Prop}:oe ops true o (bh n A) x y=sS ops o A (x (bh n A)) (y (bh n A)):=by
 unfold oe sS
 cases o.guard with
 | none=>rfl
 | some g=>
  obtain⟨j,cH⟩:=g
  simp only
  cases(ops[j]?).bind (·.dst) with
  | none=>rfl
  | some t=>
   simp only
   rw[q0 h t]
   cases hb:gn A t with
   | bool b=>
    cases b with
    | true=>simp only[py];rw[OI h hb];cases cH<;>rfl
    | false=>simp only[py];rw[OI h hb];cases cH<;>rfl
   | tup l=>cases l<;>rfl
   | _=>rfl
def evS (P:Program) (esc:List Nat) (ops:Array Oper) (n:Nat):List Oper→List (Nat×AV)→List (Nat×List AV)→List Blk→(List (Nat×AV)→List (Nat×List AV)→List Blk→Prop)→Prop
 | [],A,L,H,K=>K A L H
 | o::rest,A,L,H,K=>sS ops o A
   (match o.op with
    | .pick c x y=>oQ (p5 A c) fun z=>(match z with
     | true=>evS P esc ops n rest (oD n A o.dst (p5 A x)) L H K
     | false=>evS P esc ops n rest (oD n A o.dst (p5 A y)) L H K)
    | _=>kg P esc o (p5 A) L H fun v L' H'=>evS P esc ops n rest (oD n A o.dst v) L' H' K)
   (evS P esc ops n rest (oD n A o.dst (.tup [])) L H K)
theorem Ex {P:Program} {esc:List Nat} {ops:Array Oper} {n:Nat} {K:List AV→List (Nat×List AV)→List Blk→Prop}: ∀(l:List Oper) (A:List (Nat×AV)) (L:List (Nat×List AV)) (H:List Blk),e5 n A=true→
  evOps P esc ops (l.map fun o=>(o,true)) (bh n A) L H K=evS P esc ops n l A L H fun A L H=>K (bh n A) L H
 | [],A,L,H,h=>rfl
 | o::rest,A,L,H,h=>by
  show oe ops true o (bh n A) _ _=_
  rw[Ln h]
  show sS ops o A _ _=sS ops o A _ _
  have e2:evOps P esc ops (rest.map fun o=>(o,true)) (putA (bh n A) o.dst (.tup [])) L H K=evS P esc ops n rest (oD n A o.dst (.tup [])) L H fun A L H=>K (bh n A) L H:=by
   rw[Hc,Ex rest _ _ _ (Hb h _ _)]
  have En: ∀v L H,evOps P esc ops (rest.map fun o=>(o,true)) (putA (bh n A) o.dst v) L H K=evS P esc ops n rest (oD n A o.dst v) L H fun A L H=>K (bh n A) L H:=fun v L H=>by
   rw[Hc,Ex rest _ _ _ (Hb h _ _)]
  rw[e2]
  congr 1
  unfold u_
  rw[Cg h]
  cases fU:o.op<;>simp only[En]
  case pick c x y=>
   unfold oQ
   cases p5 A c<;>first | rfl | (rename_i z;cases z<;>rfl)
theorem WpS.CO [cM] {P:Program} {esc:List Nat} {c:Code} {id n:Nat} {ops:Array Oper} {Q:Exit→St→Prop} {A:List (Nat×AV)} {L:List (Nat×List AV)} {H:List Blk} (e:c= .region id ops false) (aF:e5 n A=true)
  (h:evS P esc ops n (ops.toList.drop 0) A L H (fun A L H=>Q .normal ⟨bh n A,L,H⟩)):WpS P c Q ⟨bh n A,L,H⟩:=
 WpS.P1 (esc:=esc) e (by unfold zm;rw[Ex _ _ _ _ aF];exact h)
def Eg (o:Oper) (A:List (Nat×AV)):AV:=match o.dst with
 | some d=>gn A d
 | none=> .undef
def pD (P:Program) (ops:Array Oper):List Nat→List (Nat×AV)→List (Nat×List AV)→List Blk→Prop
 | [],_,_,_=>True
 | i::r,A,L,H=>((opI ops i).guard.isNone=true∧(opI ops i).dst.isSome=true∧lx P (opI ops i) (p5 A) L H (fun v=>v=Eg (opI ops i) A))∧pD P ops r A L H
def evSD (P:Program) (esc:List Nat) (ops:Array Oper) (n:Nat):List Item→List (Nat×AV)→List (Nat×List AV)→List Blk→(List (Nat×AV)→List (Nat×List AV)→List Blk→Prop)→Prop
 | [],A,L,H,K=>K A L H
 | x::rest,A,L,H,K=>sS ops (opI ops x.i) A
   (match x.q with
    | true=>lx P (opI ops x.i) (p5 A) L H fun v=>evSD P esc ops n rest (oD n A (opI ops x.i).dst v) L H K
    | false=>kg P esc (opI ops x.i) (p5 A) L H fun v L' H'=>pD P ops x.jF A L' H'∧evSD P esc ops n rest (oD n A (opI ops x.i).dst v) L' H' K)
   (evSD P esc ops n rest (oD n A (opI ops x.i).dst (.tup [])) L H K)
theorem Le {P:Program} {ops:Array Oper} {n:Nat} {A:List (Nat×AV)} {L:List (Nat×List AV)} {H:List Blk} (h:e5 n A=true): ∀l:List Nat,rN P ops l (bh n A) L H=pD P ops l A L H
 | []=>rfl
 | i::r=>by
  show(_∧_)=(_∧_)
  rw[Le h r,Cg h]
  have:sM (opI ops i) (bh n A)=Eg (opI ops i) A:=by
   unfold sM Eg
   cases(opI ops i).dst with
   | none=>rfl
   | some d=>exact q0 h d
  rw[this]
theorem KV {P:Program} {esc:List Nat} {ops:Array Oper} {n:Nat} {K:List AV→List (Nat×List AV)→List Blk→Prop}: ∀(l:List Item) (A:List (Nat×AV)) (L:List (Nat×List AV)) (H:List Blk),l.all (·.lit)=true→e5 n A=true→
  kh P esc ops l (bh n A) L H K=evSD P esc ops n l A L H fun A L H=>K (bh n A) L H
 | [],A,L,H,aL,h=>rfl
 | x::rest,A,L,H,aL,h=>by
  simp only[List.all_cons,Bool.and_eq_true] at aL
  show oe ops x.lit (opI ops x.i) (bh n A) _ _=_
  rw[aL.1,Ln h]
  show sS ops (opI ops x.i) A _ _=sS ops (opI ops x.i) A _ _
  have En: ∀v L H,kh P esc ops rest (putA (bh n A) (opI ops x.i).dst v) L H K=evSD P esc ops n rest (oD n A (opI ops x.i).dst v) L H fun A L H=>K (bh n A) L H:=fun v L H=>by
   rw[Hc,KV rest _ _ _ aL.2 (Hb h _ _)]
  simp only[En,Cg h,Le h]
  first
  | done
  | (cases x.q<;>rfl)
theorem WpS.acV [cM] {P:Program} {esc:List Nat} {c:Code} {id n:Nat} {ops:Array Oper} {Q:Exit→St→Prop} {A:List (Nat×AV)} {L:List (Nat×List AV)} {H:List Blk} (ord:List Item) (kd:List (List Nat)) (hm:P.follows .mixedOrders=true)
  (aL:kd.length=ops.size) (bj:v8 ops ord (ye kd)=true) (Fx:ord.all (·.lit)=true) (e:c= .region id ops true) (aF:e5 n A=true) (iF:List (Nat×List AV)) (hf:uc iF L=true) (aO:tV ops L ord=true) (h:evSD P esc ops n (ord.drop 0) A (iF++L) H (fun A L H=>Q .normal ⟨bh n A,L,H⟩)):WpS P c Q ⟨bh n A,L,H⟩:=
 WpS.P0 (esc:=esc) ord kd hm aL bj e iF hf aO (by rw[KV _ _ _ _ Fx aF];exact h)
theorem Weak.iA [cM] {T T':List AV} {L:List (Nat×List AV)} {H:List Blk} (aL:T'.length=T.length) (h: ∀t,T'.getD t .undef=T.getD t .undef∨T'.getD t .undef= .undef):Weak ⟨T,L,H⟩ ⟨T',L,H⟩:=fun cz E tmps g s=>
 ⟨E,rfl,g,s.h,s.l,fun t=>by
  show V3 E (T'.getD t .undef) _
  rcases h t with e | e<;>rw[e]
  ·exact s.iA t
  ·exact V3.undef _ _,by show T'.length=_;rw[aL];exact s.size⟩
def nL (A:List (Nat×AV)):List (Nat×AV)→List (Nat×AV)
 | []=>[]
 | (k,_)::r=>(k,gn A k)::nL A r
theorem G7 {A:List (Nat×AV)}: ∀(B:List (Nat×AV)) (t:Nat),gn (nL A B) t=gn A t∨gn (nL A B) t= .undef
 | [],t=> .inr rfl
 | (k,v)::r,t=>by
  show(match Nat.beq k t with
   | true=>gn A k
   | false=>gn (nL A r) t)=gn A t∨_
  cases h:Nat.beq k t with
  | true=>have:=Nat.eq_of_beq_eq_true h;subst this;exact .inl rfl
  | false=>
   rcases G7 r t with e | e
   ·exact .inl e
   ·right;show(match Nat.beq k t with
     | true=>gn A k
     | false=>gn (nL A r) t)=_
    rw[h];exact e
def zn (ds:List Nat):List (Nat×AV)→Bool
 | []=>true
 | (_,v)::r=>o6 ds v&&zn ds r
theorem OB {ds:List Nat}: ∀{A:List (Nat×AV)},zn ds A=true→ ∀t,o6 ds (gn A t)=true
 | [],h,t=>rfl
 | (k,v)::r,h,t=>by
  simp only[zn,Bool.and_eq_true] at h
  unfold gn
  cases Nat.beq k t with
  | true=>exact h.1
  | false=>exact OB h.2 t
theorem agC [cM] {n:Nat} {A A':List (Nat×AV)} {L L':List (Nat×List AV)} {H:List Blk} (ds:List Nat) (hZ:e5 n A=true) (m3:e5 n A'=true) (aI:zn ds A'=true) (l3:nL A A'=A') (i_:n9 ds L=L'):Weak ⟨bh n A,L,H⟩ ⟨bh n A',L',H⟩:=by
 subst i_
 refine(Weak.iA (T':=bh n A') (by rw[te,te]) fun t=> ?_).trans (Weak.n9 ds ?_)
 ·rw[q0 hZ,q0 m3,←l3];exact G7 A' t
 ·rw[List.all_eq_true]
  intro a a4
  obtain⟨t,bu⟩:=List.mem_iff_getElem?.1 a4
  have e:(bh n A').getD t .undef=a:=by rw[List.getD_eq_getElem?_getD,bu];rfl
  rw[q0 m3] at e
  rw[←e]
  exact OB aI t
theorem xY [cM] {n:Nat} {A A':List (Nat×AV)} {L:List (Nat×List AV)} {H:List Blk} (hZ:e5 n A=true) (m3:e5 n A'=true) (l3:nL A A'=A'):Weak ⟨bh n A,L,H⟩ ⟨bh n A',L,H⟩:=
 Weak.iA (T':=bh n A') (by rw[te,te]) fun t=>by rw[q0 hZ,q0 m3,←l3];exact G7 A' t
theorem UK {n:Nat} {A:List (Nat×AV)} {o:Operand} {b:Bool} {L:List (Nat×List AV)} {H:List Blk} (aF:e5 n A=true) (h:p5 A o= .bool b):cv (St.mk (bh n A) L H).T o= .bool b:=by
 show cv (bh n A) o=_
 rw[Cg aF,h]
def sp (P:Program) (A:List (Nat×AV)) (L:List (Nat×List AV)) (H:List Blk):List ResultVar→(List AV→Prop)→Prop
 | [],K=>K []
 | .tmp t::rs,K=>sp P A L H rs fun l=>K (gn A t::l)
 | .cell a t::rs,K=>o4 P t (gn A a) L H fun x=>sp P A L H rs fun l=>K (x::l)
theorem HU {P:Program} {n:Nat} {A:List (Nat×AV)} {L:List (Nat×List AV)} {H:List Blk} (aF:e5 n A=true): ∀(rs:List ResultVar) (K:List AV→Prop),rc P ⟨bh n A,L,H⟩ rs K=sp P A L H rs K
 | [],K=>rfl
 | .tmp t::rs,K=>by
  show rc P ⟨bh n A,L,H⟩ rs (fun l=>K ((bh n A).getD t .undef::l))=sp P A L H rs fun l=>K (gn A t::l)
  rw[q0 aF];exact HU aF rs _
 | .cell a t::rs,K=>by
  show o4 P t ((bh n A).getD a .undef) L H _=o4 P t (gn A a) L H _
  rw[q0 aF]
  congr 1
  funext x
  exact HU aF rs _
theorem HX {P:Program} {fn:Func} {n:Nat} {A:List (Nat×AV)} {L:List (Nat×List AV)} {H:List Blk} {r:AV} {Q:AV→List Blk→Prop} (aF:e5 n A=true) (l:List AV) (e: ∀K,sp P A L H fn.results.toList K=K l) (aK:l.all j5=true) (hw:sx l=r) (h:Q r H):tQ P fn Q .ret ⟨bh n A,L,H⟩:=by
 show tu P fn ⟨bh n A,L,H⟩ Q
 unfold tu
 rw[HU aF,e]
 exact⟨aK,by rw[hw];exact h⟩
theorem Vo {P:Program} {fn:Func} {n:Nat} {A:List (Nat×AV)} {L:List (Nat×List AV)} {H:List Blk} {r:AV} {Q:AV→List Blk→Prop} (aF:e5 n A=true) (l:List AV) (e: ∀K,sp P A L H fn.results.toList K=K l) (aK:l.all j5=true) (hw:sx l=r) (h:Q r H):tQ P fn Q .normal ⟨bh n A,L,H⟩:=
 HX (fn:=fn) aF l e aK hw h
theorem KW {P:Program} {esc:List Nat} {ops:Array Oper} {n:Nat} {K:List (Nat×AV)→List (Nat×List AV)→List Blk→Prop}: ∀(uR kL:List Oper) (A:List (Nat×AV)) (L:List (Nat×List AV)) (H:List Blk),
  evS P esc ops n (uR++kL) A L H K=evS P esc ops n uR A L H fun A L H=>evS P esc ops n kL A L H K
 | [],kL,A,L,H=>rfl
 | o::r,kL,A,L,H=>by
  show evS P esc ops n (o::(r++kL)) A L H K=_
  simp only[evS,KW r kL]
theorem jE {P:Program} {esc:List Nat} {ops:Array Oper} {n:Nat} {K:List (Nat×AV)→List (Nat×List AV)→List Blk→Prop} {A:List (Nat×AV)} {L:List (Nat×List AV)} {H:List Blk} (X:List Oper) (i k:Nat):
  evS P esc ops n (X.drop i) A L H K=evS P esc ops n ((X.drop i).take k) A L H fun A L H=>evS P esc ops n (X.drop (i+k)) A L H K:=by
 rw[←KW,←List.drop_drop,List.take_append_drop]
theorem KU {P:Program} {esc:List Nat} {ops:Array Oper} {n:Nat} {K:List (Nat×AV)→List (Nat×List AV)→List Blk→Prop}: ∀(uR kL:List Item) (A:List (Nat×AV)) (L:List (Nat×List AV)) (H:List Blk),
  evSD P esc ops n (uR++kL) A L H K=evSD P esc ops n uR A L H fun A L H=>evSD P esc ops n kL A L H K
 | [],kL,A,L,H=>rfl
 | o::r,kL,A,L,H=>by
  show evSD P esc ops n (o::(r++kL)) A L H K=_
  simp only[evSD,KU r kL]
theorem ly {P:Program} {esc:List Nat} {ops:Array Oper} {n:Nat} {K:List (Nat×AV)→List (Nat×List AV)→List Blk→Prop} {A:List (Nat×AV)} {L:List (Nat×List AV)} {H:List Blk} (X:List Item) (i k:Nat):
  evSD P esc ops n (X.drop i) A L H K=evSD P esc ops n ((X.drop i).take k) A L H fun A L H=>evSD P esc ops n (X.drop (i+k)) A L H K:=by
 rw[←KU,←List.drop_drop,List.take_append_drop]
theorem map_set {α β:Type} (f:α→β) (xs:List α) (i:Nat) (x:α):(List.map f xs).set i (f x)=List.map f (xs.set i x):=by
 rw[List.map_set]
theorem rm {H:List Blk} {α:Type} {eT eF:α→List AV} {b g sz n:Nat} {full:Bool} {xs ys:List α} (aF:n=xs.length) (hb:H[b]?=some ⟨g,sz,List.map eT xs⟩) (hc: ∀x,kW H (eT x) (eF x)) (h:xs.length≤4611686018427387904∧xs=ys):
  gH H (.ref b g 0 n full) (.bD (List.map eF ys) false true):=aF▸SI hb hc h
theorem nl {L:List (Nat×List AV)} {H:List Blk} {α:Type} {eT eF:α→List AV} {b g sz n:Nat} {full:Bool} {xs:List α} (aU:n=xs.length) (hb:H[b]?=some ⟨g,sz,List.map eT xs⟩) (hc: ∀x,oL L H (eT x) (eF x)) (aF:xs.length≤4611686018427387904):
  ga L H (.ref b g 0 n full) (.bD (List.map eF xs) false false):=aU▸Qk hb hc aF
theorem CU {α:Type} {enc:α→List AV} {k:Nat} (h: ∀x,(enc x).length=k∧(enc x).all ji=true) (ys:List α):re k (List.map enc ys):=fun row aK=>by
 obtain⟨x,_,rfl⟩:=List.mem_map.1 aK
 exact⟨(h x).1,fun a a4=>List.all_eq_true.1 (h x).2 a a4⟩
theorem zi {α:Type} {c:Bool} {x y:List α} {n:Nat} (hx:x.length=n) (hy:y.length=n):(bif c then x else y).length=n:=by cases c<;>assumption
def oP:List (Nat×AV)→List (Nat×AV)→List (Nat×AV)
 | [],R=>R
 | p::N,R=>p::oP N R
def KC:List (Nat×AV)→List (Nat×AV)→List (Nat×AV)
 | [],A=>A
 | p::N,A=>l2 (KC N A) p.1
def gL (N A:List (Nat×AV)):List (Nat×AV):=oP N (KC N A)
def di (d:Option Nat) (v:AV) (N A:List (Nat×AV)):List (Nat×AV):=match d with
 | some d=>gL ((d,v)::N) A
 | none=>gL N A
def vl:List (Nat×AV)→Nat→AV→List (Nat×AV)
 | [],_,_=>[]
 | (k,u)::r,t,v=>match Nat.beq k t with
  | true=>(k,v)::r
  | false=>(k,u)::vl r t v
abbrev ah (n:Int):AV:= .int .i64 n
abbrev an (b:Bool):AV:= .bool b
abbrev bK {α:Type} (e:α→List AV) (x:List α):AV:= .bD (List.map e x) false false
abbrev aG:AV:= .bD [] true true
abbrev hA {α:Type} (e:α→List AV) (x:List α):AV:= .bD (List.map e x) false true
abbrev ak (b g n:Nat):AV:= .ref b g 0 n false
abbrev aA (t c:Nat):AV:= .fG t c
abbrev t0:AV:= .tup []
def gv (l:List Nat):List (Nat×AV):=l.map fun i=>(i,.tup [])
def OU:Bool→List Nat→Bool×List Nat
 | b,0::m=>OU (!b) m
 | b,m=>(b,m)
def lf {α:Type} (b:Bool) (m:List Nat):List α→List α
 | []=>[]
 | x::l=>match OU b m with
  | (true,(n+1)::m)=>x::lf true (n::m) l
  | (false,(n+1)::m)=>lf false (n::m) l
  | _=>[]
theorem zV {α:Type} {n:Nat} {m:List Nat} {x:α} {l:List α}:lf true ((n+1)::m) (x::l)=x::lf true (n::m) l:=rfl
theorem zU {α:Type} {n:Nat} {m:List Nat} {x:α} {l:List α}:lf false ((n+1)::m) (x::l)=lf false (n::m) l:=rfl
theorem zW {α:Type} {m:List Nat} {l:List α}:lf true (0::m) l=lf false m l:=by cases l<;>rfl
theorem self {α:Type} {m:List Nat} {l:List α}:lf false (0::m) l=lf true m l:=by cases l<;>rfl
theorem zT {α:Type} {b:Bool} {l:List α}:lf b [] l=[]:=by cases b<;>cases l<;>rfl
def ie (j:Nat) (r:List (List AV)):List Blk→List Blk
 | []=>[]
 | b::H=>match j with
  | 0=>⟨b.bF,b.sz,r⟩::H
  | j+1=>b::ie j r H
def hY (i j:Nat) (a:AV):List (Nat×List AV)→List (Nat×List AV)
 | []=>[]
 | x::L=>match i with
  | 0=>(x.1,x.2.set j a)::L
  | i+1=>x::hY i j a L
def er (i:Nat) (a:List AV):List (Nat×List AV)→List (Nat×List AV)
 | []=>[]
 | x::L=>match i with
  | 0=>(x.1,a)::L
  | i+1=>x::er i a L
def eo (i:Nat) (b:Blk):List Blk→List Blk
 | []=>[]
 | x::H=>match i with
  | 0=>b::H
  | i+1=>x::eo i b H
section
variable {i j k:Nat} {a:AV} {c l:List AV} {L:List (Nat×List AV)} {x:Nat×List AV} {b y:Blk} {H:List Blk}
theorem KH:hY 0 j a ((k,c)::L)=(k,c.set j a)::L:=rfl
theorem KI:hY (i+1) j a (x::L)=x::hY i j a L:=rfl
theorem KO:er 0 l ((k,c)::L)=(k,l)::L:=rfl
theorem KP:er (i+1) l (x::L)=x::er i l L:=rfl
theorem J_:eo 0 b (y::H)=b::H:=rfl
theorem Ka:eo (i+1) b (y::H)=y::eo i b H:=rfl
end
abbrev ap (i:Nat):Item:=⟨i,true,true,[]⟩
abbrev rg (a b:Nat):List Nat:=List.range' a (b - a)
def g2 [cM] {V:Type} (S:V→St) (ns:V→Prop) (Q:Exit→St→Prop) (ex:Exit) (s:St):Prop:=match ex with
 | .normal=> ∃v,ns v∧Weak s (S v)
 | ex=>Q ex s
theorem g2.normal [cM] {V:Type} {S:V→St} {ns:V→Prop} {Q:Exit→St→Prop} {s:St} (v:V) (h:ns v) (hw:Weak s (S v)):g2 S ns Q .normal s:=⟨v,h,hw⟩
theorem g2.ret [cM] {V:Type} {S:V→St} {ns:V→Prop} {Q:Exit→St→Prop} {s:St} (h:Q .ret s):g2 S ns Q .ret s:=h
theorem g2.exit [cM] {V:Type} {S:V→St} {ns:V→Prop} {Q:Exit→St→Prop} {s:St} {id:Nat} (h:Q (.exit id) s):g2 S ns Q (.exit id) s:=h
section
variable {P:Program} {b:Code} {k n:Nat} {Q:Exit→St→Prop} {aJ:St} {A A':List (Nat×AV)} {L L':List (Nat×List AV)} {H H':List Blk}
theorem jW [cM] (S:St) (ψ:Prop) (h:WpS P (bX b (2*k)) (ci S ψ Q) aJ) (aj:ψ→WpS P (bX b (2*k+1)) Q S) (e:bX b k= .seq (bX b (2*k)) (bX b (2*k+1)):=by kernel_rfl):WpS P (bX b k) Q aJ:=WpS.xH S e h aj
theorem cD [cM] (N:List (Nat×AV)) (m:List Nat) (ψ:Prop) (h:WpS P (bX b (2*k)) (ci ⟨bh n A',L,H⟩ ψ Q) ⟨bh n A,L,H⟩) (aj:ψ→WpS P (bX b (2*k+1)) Q ⟨bh n A',L,H⟩) (hZ:oP N (lf true m A)=A':=by simp only[oP,zV,zU,zW,self,zT];rfl) (e:bX b k= .seq (bX b (2*k)) (bX b (2*k+1)):=by kernel_rfl):WpS P (bX b k) Q ⟨bh n A,L,H⟩:=WpS.xH _ e h aj
theorem e_ [cM] (N:List (Nat×AV)) (m:List Nat) (ED:List (Nat×List AV)→List (Nat×List AV)) (EC:List Blk→List Blk) (ψ:Prop) (h:WpS P (bX b (2*k)) (ci ⟨bh n A',L',H'⟩ ψ Q) ⟨bh n A,L,H⟩) (aj:ψ→WpS P (bX b (2*k+1)) Q ⟨bh n A',L',H'⟩) (b3:ED L=L':=by first | (simp only[id,KH,KI,KO,KP,List.set_cons_zero,List.set_cons_succ];rfl) | (dsimp only;rfl) | rfl) (aV:EC H=H':=by first | (simp only[id,J_,Ka,List.cons_append,List.nil_append];rfl) | (dsimp only;rfl) | rfl) (hZ:oP N (lf true m A)=A':=by simp only[oP,zV,zU,zW,self,zT];rfl) (e:bX b k= .seq (bX b (2*k)) (bX b (2*k+1)):=by kernel_rfl):WpS P (bX b k) Q ⟨bh n A,L,H⟩:=WpS.xH _ e h aj
theorem Ki [cM] {V:Type} {y:Code} (id:Nat) (S:V→St) (ns:V→Prop) (h:WpS P (bX b (2*k)) (cr id (g2 S ns Q)) aJ) (aj: ∀v,ns v→WpS P y Q (S v)) (e:bX b k= .block id (bX b (2*k)):=by kernel_rfl):WpS P (bX b k) (eb P y Q) aJ:=
 WpS.Kd e (h.mono fun ex s hs=>by
  have key: ∀ex s,g2 S ns Q ex s→eb P y Q ex s:=fun ex s hs=>by
   cases ex with
   | normal=>obtain⟨v,aM,hw⟩:=hs;exact(aj v aM).mq hw
   | _=>exact hs
  cases ex with
  | exit q=>
   show if q=id then _ else _
   replace hs:if q=id then g2 S ns Q .normal s else g2 S ns Q (.exit q) s:=hs
   split at hs
   ·rename_i aj;rw[if_pos aj];exact key _ _ hs
   ·rename_i aj;rw[if_neg aj];exact key _ _ hs
  | normal=>exact key .normal s hs
  | goto l=>exact key (.goto l) s hs
  | ret=>exact key .ret s hs
  | panic c=>exact key (.panic c) s hs
  | outgrown=>exact key .outgrown s hs)
theorem hN [cM] (h:WpS P (bX b (2*k)) (eb P (bX b (2*k+1)) Q) aJ) (e:bX b k= .seq (bX b (2*k)) (bX b (2*k+1)):=by kernel_rfl):WpS P (bX b k) Q aJ:=WpS.seq' e h
theorem sJ [cM] (o:Operand) (z:Bool) (h1:z=true→WpS P (bX b (2*k)) Q ⟨bh n A,L,H⟩) (h2:z=false→WpS P (bX b (2*k+1)) Q ⟨bh n A,L,H⟩) (e:bX b k= .cond o (bX b (2*k)) (bX b (2*k+1)):=by kernel_rfl)
  (aF:e5 n A=true:=by kernel_rfl) (aC:p5 A o= .bool z:=by kernel_rfl):WpS P (bX b k) Q ⟨bh n A,L,H⟩:=WpS.UJ e (UK aF aC) h1 h2
theorem fo [cM] (id:Nat) (h:WpS P (bX b (2*k)) (cr id Q) aJ) (e:bX b k= .block id (bX b (2*k)):=by kernel_rfl):WpS P (bX b k) Q aJ:=WpS.Kd e h
theorem ep [cM] (h:Q .normal aJ) (e:bX b k= .skip:=by kernel_rfl):WpS P (bX b k) Q aJ:=WpS.adq e h
theorem hB [cM] (h:Q .ret aJ) (e:bX b k= .ret:=by kernel_rfl):WpS P (bX b k) Q aJ:=WpS.acX e h
theorem iY [cM] (id:Nat) (h:Q (.exit id) aJ) (e:bX b k= .exit id:=by kernel_rfl):WpS P (bX b k) Q aJ:=WpS.Vv e h
theorem kf [cM] {V:Type} (S:V→St) (I:V→Prop) (m:V→Nat) (hr:V) (hs:Weak aJ (S hr)) (aU:I hr) (round: ∀v,I v→WpS P (bX b (2*k)) (dZ S I m v Q) (S v)) (e:bX b k= .loop (bX b (2*k)):=by kernel_rfl):WpS P (bX b k) Q aJ:=
 WpS.OA S I m e hr hs aU round
theorem bL [cM] (esc:List Nat) (id:Nat) (h:evS P esc (jg b k) n ((jg b k).toList.drop 0) A L H (fun A L H=>Q .normal ⟨bh n A,L,H⟩)) (e:bX b k= .region id (jg b k) false:=by kernel_rfl) (aF:e5 n A=true:=by kernel_rfl):WpS P (bX b k) Q ⟨bh n A,L,H⟩:=
 WpS.CO (esc:=esc) e aF h
theorem nj [cM] (esc:List Nat) (id:Nat) (ord:List Item) (kd:List (List Nat)) (iF:List (Nat×List AV)) (h:evSD P esc (jg b k) n (ord.drop 0) A (iF++L) H (fun A L H=>Q .normal ⟨bh n A,L,H⟩)) (hm:P.follows .mixedOrders=true:=by kernel_rfl) (aL:kd.length=(jg b k).size:=by kernel_rfl)
  (bj:v8 (jg b k) ord (ye kd)=true:=by kernel_rfl) (Fx:ord.all (·.lit)=true:=by kernel_rfl) (e:bX b k= .region id (jg b k) true:=by kernel_rfl) (aF:e5 n A=true:=by kernel_rfl) (hf:uc iF L=true:=by kernel_rfl) (aO:tV (jg b k) L ord=true:=by kernel_rfl):WpS P (bX b k) Q ⟨bh n A,L,H⟩:=
 WpS.acV (esc:=esc) ord kd hm aL bj Fx e aF iF hf aO h
theorem ei [cM] (esc:List Nat) (id:Nat) (nu:List (Nat×AV)) (zp m:List Nat) (aj:WpS P (bX b (2*k+1)) Q ⟨bh n A',L,H⟩) (hZ:oP (lf true zp nu) (lf true m A)=A':=by simp only[oP,zV,zU,zW,self,zT];rfl) (e:bX b k= .seq (bX b (2*k)) (bX b (2*k+1)):=by kernel_rfl)
  (e2:bX b (2*k)= .region id (jg b (2*k)) false:=by kernel_rfl) (aF:e5 n A=true:=by kernel_rfl) (dV: ∀K,evS P esc (jg b (2*k)) n ((jg b (2*k)).toList.drop 0) A L H K=K (gL nu A) L H:=by intro K;kernel_rfl) (l3:nL (gL nu A) A'=A':=by kernel_rfl)
  (h1:e5 n (gL nu A)=true:=by kernel_rfl) (h2:e5 n A'=true:=by kernel_rfl):WpS P (bX b k) Q ⟨bh n A,L,H⟩:=
 WpS.xH ⟨bh n A',L,H⟩ (ψ:=True) e (WpS.CO (esc:=esc) e2 aF (by rw[dV];exact⟨trivial,xY h1 h2 l3⟩)) fun _=>aj
theorem qx [cM] (esc:List Nat) (id:Nat) (nu:List (Nat×AV)) (zp m:List Nat) (L':List (Nat×List AV)) (H':List Blk) (aj:WpS P (bX b (2*k+1)) Q ⟨bh n A',L',H'⟩) (hZ:oP (lf true zp nu) (lf true m A)=A':=by simp only[oP,zV,zU,zW,self,zT];rfl) (e:bX b k= .seq (bX b (2*k)) (bX b (2*k+1)):=by kernel_rfl)
  (e2:bX b (2*k)= .region id (jg b (2*k)) false:=by kernel_rfl) (aF:e5 n A=true:=by kernel_rfl) (dV: ∀K,evS P esc (jg b (2*k)) n ((jg b (2*k)).toList.drop 0) A L H K=K (gL nu A) L' H':=by intro K;kernel_rfl) (l3:nL (gL nu A) A'=A':=by kernel_rfl)
  (h1:e5 n (gL nu A)=true:=by kernel_rfl) (h2:e5 n A'=true:=by kernel_rfl):WpS P (bX b k) Q ⟨bh n A,L,H⟩:=
 WpS.xH ⟨bh n A',L',H'⟩ (ψ:=True) e (WpS.CO (esc:=esc) e2 aF (by rw[dV];exact⟨trivial,xY h1 h2 l3⟩)) fun _=>aj
theorem sK [cM] (esc:List Nat) (id:Nat) (nu:List (Nat×AV)) (zp m:List Nat) (ED:List (Nat×List AV)→List (Nat×List AV)) (EC:List Blk→List Blk) (aj:WpS P (bX b (2*k+1)) Q ⟨bh n A',L',H'⟩) (b3:ED L=L':=by first | (simp only[id,KH,KI,KO,KP,List.set_cons_zero,List.set_cons_succ];rfl) | (dsimp only;rfl) | rfl) (aV:EC H=H':=by first | (simp only[id,J_,Ka,List.cons_append,List.nil_append];rfl) | (dsimp only;rfl) | rfl) (hZ:oP (lf true zp nu) (lf true m A)=A':=by simp only[oP,zV,zU,zW,self,zT];rfl) (e:bX b k= .seq (bX b (2*k)) (bX b (2*k+1)):=by kernel_rfl)
  (e2:bX b (2*k)= .region id (jg b (2*k)) false:=by kernel_rfl) (aF:e5 n A=true:=by kernel_rfl) (dV: ∀K,evS P esc (jg b (2*k)) n ((jg b (2*k)).toList.drop 0) A L H K=K (gL nu A) L' H':=by intro K;kernel_rfl) (l3:nL (gL nu A) A'=A':=by kernel_rfl)
  (h1:e5 n (gL nu A)=true:=by kernel_rfl) (h2:e5 n A'=true:=by kernel_rfl):WpS P (bX b k) Q ⟨bh n A,L,H⟩:=
 WpS.xH ⟨bh n A',L',H'⟩ (ψ:=True) e (WpS.CO (esc:=esc) e2 aF (by rw[dV];exact⟨trivial,xY h1 h2 l3⟩)) fun _=>aj
theorem dJ [cM] {t:Nat} {z:Bool} (h1:z=true→WpS P (bX b (2*k)) Q ⟨bh n ((t,.bool z)::A),L,H⟩) (h2:z=false→WpS P (bX b (2*k+1)) Q ⟨bh n ((t,.bool z)::A),L,H⟩) (e:bX b k= .cond (.tmp t) (bX b (2*k)) (bX b (2*k+1)):=by kernel_rfl)
  (aF:e5 n ((t,.bool z)::A)=true:=by kernel_rfl):WpS P (bX b k) Q ⟨bh n ((t,.bool z)::A),L,H⟩:=sJ (.tmp t) z h1 h2 e aF (by show gn ((t,.bool z)::A) t=_;unfold gn;rw[show Nat.beq t t=true from Nat.beq_refl t])
theorem dI.go {f:FuncId} {fn:Func} {args:List AV} {H:List Blk} {R:AV→List Blk→Prop} (A:List (Nat×AV)) (hf:P.funcs[f]?=some fn) (h: ∀iW:cM,iW.n=H.length→WpS P (bX (iI fn) 1) (tQ P fn R) ⟨bh fn.ntmps A,[],H⟩) (hb:fn.body=some (bX (iI fn) 1):=by kernel_rfl) (aF:(fn.name== "runtime.NumGoroutine")=false:=by kernel_rfl)
  (hi:zf fn args H=⟨bh fn.ntmps A,[],H⟩:=by kernel_rfl):dI P f args H R:=dI.Hm hf hb aF fun iW gm=>hi▸h iW gm
theorem nk {fn:Func} {R:AV→List Blk→Prop} (r:AV) (h:R r H) (aF:e5 n A=true:=by kernel_rfl) (e: ∀K,sp P A L H fn.results.toList K=K [r]:=by intro K;kernel_rfl) (aK:[r].all j5=true:=by kernel_rfl):tQ P fn R .ret ⟨bh n A,L,H⟩:=HX aF [r] e aK rfl h
theorem ef [cM] (l3:nL A A'=A':=by kernel_rfl) (hZ:e5 n A=true:=by kernel_rfl) (m3:e5 n A'=true:=by kernel_rfl):Weak ⟨bh n A,L,H⟩ ⟨bh n A',L,H⟩:=xY hZ m3 l3
theorem dC [cM] (ds:List Nat) (hZ:e5 n A=true:=by kernel_rfl) (m3:e5 n A'=true:=by kernel_rfl) (aI:zn ds A'=true:=by kernel_rfl) (l3:nL A A'=A':=by kernel_rfl) (i_:n9 ds L=L':=by kernel_rfl):Weak ⟨bh n A,L,H⟩ ⟨bh n A',L',H⟩:=agC ds hZ m3 aI l3 i_
theorem mJ {fn:Func} {R:AV→List Blk→Prop} (r:AV) (l:List AV) (h:R r H) (aF:e5 n A=true:=by kernel_rfl) (e: ∀K,sp P A L H fn.results.toList K=K l:=by intro K;kernel_rfl) (aK:l.all j5=true:=by kernel_rfl) (hw:sx l=r:=by kernel_rfl):tQ P fn R .ret ⟨bh n A,L,H⟩:=HX aF l e aK hw h
theorem A3 {fn:Func} {R:AV→List Blk→Prop} (r:AV) (l:List AV) (h:R r H) (aF:e5 n A=true:=by kernel_rfl) (e: ∀K,sp P A L H fn.results.toList K=K l:=by intro K;kernel_rfl) (aK:l.all j5=true:=by kernel_rfl) (hw:sx l=r:=by kernel_rfl):tQ P fn R .normal ⟨bh n A,L,H⟩:=Vo aF l e aK hw h
end
section
variable {P:Program} {esc:List Nat} {ops:Array Oper} {n:Nat} {X:List Oper} {i0:Nat} {A:List (Nat×AV)} {L:List (Nat×List AV)} {H:List Blk} {K:List (Nat×AV)→List (Nat×List AV)→List Blk→Prop}
theorem b5 [cM] {A':List (Nat×AV)} {L':List (Nat×List AV)} {H':List Blk} {ψ:Prop} {Q:Exit→St→Prop} (N:List (Nat×AV)) (aI:ψ) (l3:nL (gL N A) A'=A':=by kernel_rfl) (e: ∀K,evS P esc ops n (X.drop i0) A L H K=K (gL N A) L' H':=by intro K;kernel_rfl)
  (hZ:e5 n (gL N A)=true:=by kernel_rfl) (m3:e5 n A'=true:=by kernel_rfl):evS P esc ops n (X.drop i0) A L H (fun A L H=>ci ⟨bh n A',L',H'⟩ ψ Q .normal ⟨bh n A,L,H⟩):=by
 rw[e];exact⟨aI,xY hZ m3 l3⟩
theorem nQ (a5 t:Nat) (b:Bool) (N:List (Nat×AV)) (h1:b=true→evS P esc ops n (X.drop (i0+a5)) (vl (gL ((t,.bool b)::N) A) t (.bool true)) L H K) (h2:b=false→evS P esc ops n (X.drop (i0+a5)) (vl (gL ((t,.bool b)::N) A) t (.bool false)) L H K)
  (e: ∀K,evS P esc ops n ((X.drop i0).take a5) A L H K=K (vl (gL ((t,.bool b)::N) A) t (.bool b)) L H:=by intro K;kernel_rfl):evS P esc ops n (X.drop i0) A L H K:=by
 rw[jE X i0 a5,e]
 cases b with
 | true=>exact h1 rfl
 | false=>exact h2 rfl
theorem dX (N:List (Nat×AV)) (h:K (gL N A) L H) (e: ∀K,evS P esc ops n (X.drop i0) A L H K=K (gL N A) L H:=by intro K;kernel_rfl):evS P esc ops n (X.drop i0) A L H K:=by
 rw[e];exact h
theorem CX (N:List (Nat×AV)) (L':List (Nat×List AV)) (H':List Blk) (h:K (gL N A) L' H') (e: ∀K,evS P esc ops n (X.drop i0) A L H K=K (gL N A) L' H':=by intro K;kernel_rfl):evS P esc ops n (X.drop i0) A L H K:=by
 rw[e];exact h
theorem CY (a5:Nat) (N:List (Nat×AV)) (L':List (Nat×List AV)) (H':List Blk) (h:evS P esc ops n (X.drop (i0+a5)) (gL N A) L' H' K) (e: ∀K,evS P esc ops n ((X.drop i0).take a5) A L H K=K (gL N A) L' H':=by intro K;kernel_rfl):evS P esc ops n (X.drop i0) A L H K:=by
 rw[jE X i0 a5,e];exact h
theorem nP (a5:Nat) (d:Option Nat) (v:AV) (N:List (Nat×AV)) {φ:Prop} (h1:φ) (h:evS P esc ops n (X.drop (i0+a5)) (di d v N A) L H K) (e: ∀K,evS P esc ops n ((X.drop i0).take a5) A L H K=(φ∧K (di d v N A) L H):=by intro K;kernel_rfl):evS P esc ops n (X.drop i0) A L H K:=by
 rw[jE X i0 a5,e];exact⟨h1,h⟩
theorem ld (a5:Nat) (d:Option Nat) (N:List (Nat×AV)) {α:Type} [Inhabited α] (enc:α→List AV) (xs:List α) {i:Int} (m:Nat)
  (aU:0≤i∧i.toNat<xs.length) (h:evS P esc ops n (X.drop (i0+a5)) (di d (.dA (enc (nth xs i)) 0) N A) L H K) (aF: ∀x,(enc x).length=m:=by exact fun _=>rfl)
  (e: ∀K,evS P esc ops n ((X.drop i0).take a5) A L H K=(0≤i∧c3 (List.map enc xs)[i.toNat]? fun row=>row.length=m∧K (di d (.dA row 0) N A) L H):=by intro K;kernel_rfl):evS P esc ops n (X.drop i0) A L H K:=by
 rw[jE X i0 a5,e]
 refine⟨aU.1,et (a:=enc (nth xs i)) ?_ ⟨aF _,h⟩⟩
 rw[List.getElem?_map,gV aU.2];rfl
theorem lM (a5:Nat) (d:Option Nat) (N:List (Nat×AV)) (b g z:Nat) {i:Int} {m:Nat} (aU:0≤i∧i.toNat<m) (h:evS P esc ops n (X.drop (i0+a5)) (di d (.ptr b g (0+i.toNat) 0) N A) L H K)
  (e: ∀K,evS P esc ops n ((X.drop i0).take a5) A L H K=(g=g∧z=z∧0≤i∧i<m∧K (di d (.ptr b g (0+i.toNat) 0) N A) L H):=by intro K;kernel_rfl):evS P esc ops n (X.drop i0) A L H K:=by
 rw[jE X i0 a5,e];exact⟨rfl,rfl,aU.1,by have:=aU.2;omega,h⟩
theorem Qh (a5:Nat) (d:Option Nat) (N:List (Nat×AV)) {α:Type} [Inhabited α] (enc:α→List AV) (xs:List α) (i:Int) (t:TypeId) (c g:Nat) (v:AV) (aK:i.toNat<xs.length) (h:evS P esc ops n (X.drop (i0+a5)) (di d v N A) L H K)
  (e2: ∀K,jA P t (enc (nth xs i)) c K=K v:=by intro K;kernel_rfl)
  (e: ∀K,evS P esc ops n ((X.drop i0).take a5) A L H K=(g=g∧c3 (List.map enc xs)[0+i.toNat]? fun row=>jA P t row c fun v=>K (di d v N A) L H):=by intro K;kernel_rfl):evS P esc ops n (X.drop i0) A L H K:=by
 rw[jE X i0 a5,e]
 refine⟨rfl,et (a:=enc (nth xs i)) ?_ (by rw[e2];exact h)⟩
 rw[Nat.zero_add,List.getElem?_map,gV aK];rfl
theorem mj (a5:Nat) (d:Option Nat) (N:List (Nat×AV)) {g:FuncId} (args:List AV) {ez:List AV} {t:AV}
  (hf:b2 P g ez t) (hs:aD (da L H) args ez) (h:evS P esc ops n (X.drop (i0+a5)) (di d t N A) L H K) (aF:args.all e6=true:=by kernel_rfl) (e: ∀K,evS P esc ops n ((X.drop i0).take a5) A L H K=lu P g args L H (fun v L' H'=>K (di d v N A) L' H'):=by intro K;kernel_rfl):evS P esc ops n (X.drop i0) A L H K:=by
 rw[jE X i0 a5,e];exact .inl ⟨aF,ez,t,hs,hf,h⟩
theorem adb (a5:Nat) (d:Option Nat) (N:List (Nat×AV)) {α:Type} [Inhabited α] (enc:α→List AV) (xs:List α) (i:Int) (c k g:Nat) (cells:List AV) (H':List (List AV)→List Blk) (lm:α) (aK:i.toNat<xs.length)
  (h:evS P esc ops n (X.drop (i0+a5)) (di d (.tup []) N A) L (H' (List.map enc (xs.set i.toNat lm))) K) (hc:Nat.ble (c+k) (enc (nth xs i)).length=true:=by kernel_rfl) (hs:fl (enc (nth xs i)) c cells=enc lm:=by kernel_rfl)
  (e: ∀K,evS P esc ops n ((X.drop i0).take a5) A L H K=(g=g∧c3 (List.map enc xs)[0+i.toNat]? fun row=>c+k≤row.length∧K (di d (.tup []) N A) L (H' ((List.map enc xs).set (0+i.toNat) (fl row c cells)))):=by intro K;kernel_rfl):evS P esc ops n (X.drop i0) A L H K:=by
 rw[jE X i0 a5,e]
 refine⟨rfl,et (a:=enc (nth xs i)) ?_ ⟨Nat.le_of_ble_eq_true hc,?_⟩⟩
 ·rw[Nat.zero_add,List.getElem?_map,gV aK];rfl
 ·rw[hs,Nat.zero_add,map_set];exact h
theorem tA (a5:Nat) (d:Option Nat) (N:List (Nat×AV)) {α:Type} [Inhabited α] (enc:α→List AV) (xs:List α) (i:Int) (c k g:Nat) (cells:List AV) (j:Nat) (lm:α) (aK:i.toNat<xs.length)
  (h:evS P esc ops n (X.drop (i0+a5)) (di d (.tup []) N A) L (ie j (List.map enc (xs.set i.toNat lm)) H) K) (hc:Nat.ble (c+k) (enc (nth xs i)).length=true:=by kernel_rfl) (hs:fl (enc (nth xs i)) c cells=enc lm:=by kernel_rfl)
  (e: ∀K,evS P esc ops n ((X.drop i0).take a5) A L H K=(g=g∧c3 (List.map enc xs)[0+i.toNat]? fun row=>c+k≤row.length∧K (di d (.tup []) N A) L (ie j ((List.map enc xs).set (0+i.toNat) (fl row c cells)) H)):=by intro K;kernel_rfl):evS P esc ops n (X.drop i0) A L H K:=adb a5 d N enc xs i c k g cells (fun r=>ie j r H) lm aK h hc hs e
theorem H5 (a5:Nat) (d:Option Nat) (N:List (Nat×AV)) {α:Type} (enc:α→List AV) {i:Int} (B:Int) (z:List AV) (b:Nat) (H':List (List AV)→List Blk) (a3:α) (aU:0≤i∧B*i≤140737488355328∧i≤4611686018427387904)
  (h:evS P esc ops n (X.drop (i0+a5)) (di d (.ref b 0 0 (List.replicate i.toNat a3).length false) N A) L (H' (List.map enc (List.replicate i.toNat a3))) K) (aO:z=enc a3:=by rfl)
  (e: ∀K,evS P esc ops n ((X.drop i0).take a5) A L H K=(0≤i∧i≤i∧B*i≤140737488355328∧i≤4611686018427387904∧K (di d (.ref b 0 0 i.toNat false) N A) L (H' (List.replicate i.toNat z))):=by intro K;kernel_rfl):evS P esc ops n (X.drop i0) A L H K:=by
 rw[jE X i0 a5,e]
 refine⟨aU.1,Int.le_refl _,aU.2.1,aU.2.2,?_⟩
 ·rw[aO,←List.map_replicate];rw[List.length_replicate] at h;exact h
theorem Qf (a5:Nat) (d:Option Nat) (N:List (Nat×AV)) {α:Type} (enc:α→List AV) (xs ys:List α) (cn:List (List AV)) (b g s B:Nat) (H':List (List AV)→List Blk) (hx:cn=List.map enc ys) (aU:(xs.length+ys.length)*B≤140737488355328∧xs.length+ys.length≤4611686018427387904)
  (h:evS P esc ops n (X.drop (i0+a5)) (di d (.ref b (g+1) 0 (xs++ys).length false) N A) L (H' (List.map enc (xs++ys))) K) (hk: ∀x,(enc x).length=s∧(enc x).all ji=true:=by exact fun _=>⟨rfl,rfl⟩)
  (e: ∀K,evS P esc ops n ((X.drop i0).take a5) A L H K=(true=true∧true=true∧re s cn∧0=0∧g=g∧s=s∧(List.map enc xs).length=xs.length∧(xs.length+cn.length)*B≤140737488355328∧xs.length+cn.length≤4611686018427387904∧K (di d (.ref b (g+1) 0 (xs.length+cn.length) false) N A) L (H' (List.map enc xs++cn))):=by intro K;kernel_rfl):evS P esc ops n (X.drop i0) A L H K:=by
 rw[jE X i0 a5,e]
 subst hx
 refine⟨rfl,rfl,CU hk ys,rfl,rfl,rfl,List.length_map ..,by rw[List.length_map];exact aU.1,by rw[List.length_map];exact aU.2,?_⟩
 ·rw[List.length_append] at h;rw[List.length_map,←List.map_append];exact h
theorem tw (a5:Nat) (d:Option Nat) (N:List (Nat×AV)) {α:Type} (enc:α→List AV) (ys:List α) (cn:List (List AV)) (b s B:Nat) (H':List (List AV)→List Blk) (hx:cn=List.map enc ys) (aU:ys.length*B≤140737488355328∧ys.length≤4611686018427387904)
  (h:evS P esc ops n (X.drop (i0+a5)) (di d (.ref b 0 0 ys.length false) N A) L (H' (List.map enc ys)) K) (hk: ∀x,(enc x).length=s∧(enc x).all ji=true:=by exact fun _=>⟨rfl,rfl⟩)
  (e: ∀K,evS P esc ops n ((X.drop i0).take a5) A L H K=(true=true∧true=true∧re s cn∧true=true∧(∀row∈([]:List (List AV)),row.length=s)∧(List.length (α:=List AV) []+cn.length)*B≤140737488355328∧List.length (α:=List AV) []+cn.length≤4611686018427387904∧(([]:List (List AV))≠[]→cn≠[])∧
   K (di d (.ref b 0 0 (List.length (α:=List AV) []+cn.length) false) N A) L (H' ([]++cn))):=by intro K;kernel_rfl):evS P esc ops n (X.drop i0) A L H K:=by
 rw[jE X i0 a5,e]
 subst hx
 refine⟨rfl,rfl,CU hk ys,rfl,(fun row h=>by cases h),by simpa using aU.1,by simpa using aU.2,(fun h=>absurd rfl h),?_⟩
 ·simpa using h
theorem tz (a5:Nat) (d:Option Nat) (N:List (Nat×AV)) {g:FuncId} (args:List AV) {ez:List AV} {mh:AV} {dN:List Blk} (r:AV) (kX:List Blk)
  (hf:dI P g ez [] fun r H'=>r=mh∧H'=dN) (hs:aD (da L H) args ez) (y4:ti dN=true) (wa:H++dN.map (lh H.length)=kX)
  (h:evS P esc ops n (X.drop (i0+a5)) (di d r N A) L kX K) (aF:args.all e6=true:=by kernel_rfl) (aC:xm mh=true:=by kernel_rfl) (er:mK H.length mh=r:=by kernel_rfl) (e: ∀K,evS P esc ops n ((X.drop i0).take a5) A L H K=lu P g args L H (fun v L' H'=>K (di d v N A) L' H'):=by intro K;kernel_rfl):evS P esc ops n (X.drop i0) A L H K:=by
 rw[jE X i0 a5,e]
 subst er;subst wa
 exact .inr (.inl ⟨aF,ez,hs,hf.mono fun fs H1 ⟨h1,h2⟩=>by subst h1;subst h2;exact⟨aC,y4,h⟩⟩)
theorem sLen (a5:Nat) (d:Option Nat) (N:List (Nat×AV)) {α:Type} (enc:α→List AV) (xs:List α) (h:xs.length≤4611686018427387904→evS P esc ops n (X.drop (i0+a5)) (di d (.int .i64 (xs.length:Nat)) N A) L H K)
  (e: ∀K,evS P esc ops n ((X.drop i0).take a5) A L H K=((List.map enc xs).length≤4611686018427387904→K (di d (.int .i64 ((List.map enc xs).length:Nat)) N A) L H):=by intro K;kernel_rfl):evS P esc ops n (X.drop i0) A L H K:=by
 rw[jE X i0 a5,e,List.length_map];exact h
theorem H6 (a5:Nat) (d:Option Nat) (N:List (Nat×AV)) {α:Type} (enc:α→List AV) (xs:List α) (h1:xs≠[]→evS P esc ops n (X.drop (i0+a5)) (di d (.bool false) N A) L H K) (h2:xs=[]→ ∀b,evS P esc ops n (X.drop (i0+a5)) (di d (.bool b) N A) L H K)
  (e: ∀K,evS P esc ops n ((X.drop i0).take a5) A L H K=((List.map enc xs≠[]→K (di d (.bool false) N A) L H)∧(List.map enc xs=[]→ ∀b,K (di d (.bool b) N A) L H)):=by intro K;kernel_rfl):evS P esc ops n (X.drop i0) A L H K:=by
 rw[jE X i0 a5,e]
 exact⟨fun h=>h1 fun e=>h (by rw[e];rfl),fun h=>h2 (by simpa using h)⟩
end
section
variable {P:Program} {esc:List Nat} {ops:Array Oper} {n:Nat} {X:List Item} {i0:Nat} {A:List (Nat×AV)} {L:List (Nat×List AV)} {H:List Blk} {K:List (Nat×AV)→List (Nat×List AV)→List Blk→Prop}
theorem kU [cM] {A':List (Nat×AV)} {L':List (Nat×List AV)} {H':List Blk} {ψ:Prop} {Q:Exit→St→Prop} (N:List (Nat×AV)) (aI:ψ) (l3:nL (gL N A) A'=A':=by kernel_rfl) (e: ∀K,evSD P esc ops n (X.drop i0) A L H K=K (gL N A) L' H':=by intro K;kernel_rfl)
  (hZ:e5 n (gL N A)=true:=by kernel_rfl) (m3:e5 n A'=true:=by kernel_rfl):evSD P esc ops n (X.drop i0) A L H (fun A L H=>ci ⟨bh n A',L',H'⟩ ψ Q .normal ⟨bh n A,L,H⟩):=by
 rw[e];exact⟨aI,xY hZ m3 l3⟩
theorem qd (a5 t:Nat) (b:Bool) (N:List (Nat×AV)) (h1:b=true→evSD P esc ops n (X.drop (i0+a5)) (vl (gL ((t,.bool b)::N) A) t (.bool true)) L H K) (h2:b=false→evSD P esc ops n (X.drop (i0+a5)) (vl (gL ((t,.bool b)::N) A) t (.bool false)) L H K)
  (e: ∀K,evSD P esc ops n ((X.drop i0).take a5) A L H K=K (vl (gL ((t,.bool b)::N) A) t (.bool b)) L H:=by intro K;kernel_rfl):evSD P esc ops n (X.drop i0) A L H K:=by
 rw[ly X i0 a5,e]
 cases b with
 | true=>exact h1 rfl
 | false=>exact h2 rfl
theorem xR (N:List (Nat×AV)) (h:K (gL N A) L H) (e: ∀K,evSD P esc ops n (X.drop i0) A L H K=K (gL N A) L H:=by intro K;kernel_rfl):evSD P esc ops n (X.drop i0) A L H K:=by
 rw[e];exact h
theorem Dc (a5:Nat) (d:Option Nat) (v:AV) (N:List (Nat×AV)) {φ:Prop} (h1:φ) (h:evSD P esc ops n (X.drop (i0+a5)) (di d v N A) L H K) (e: ∀K,evSD P esc ops n ((X.drop i0).take a5) A L H K=(φ∧K (di d v N A) L H):=by intro K;kernel_rfl):evSD P esc ops n (X.drop i0) A L H K:=by
 rw[ly X i0 a5,e];exact⟨h1,h⟩
theorem Aa (a5:Nat) (N:List (Nat×AV)) (L':List (Nat×List AV)) (H':List Blk) {φ:Prop} (h1:φ) (h:evSD P esc ops n (X.drop (i0+a5)) (gL N A) L' H' K) (e: ∀K,evSD P esc ops n ((X.drop i0).take a5) A L H K=(φ∧K (gL N A) L' H'):=by intro K;kernel_rfl):evSD P esc ops n (X.drop i0) A L H K:=by
 rw[ly X i0 a5,e];exact⟨h1,h⟩
theorem st (a5:Nat) (d:Option Nat) (N:List (Nat×AV)) {α:Type} [Inhabited α] (enc:α→List AV) (xs:List α) {i:Int} (m:Nat)
  (aU:0≤i∧i.toNat<xs.length) (h:evSD P esc ops n (X.drop (i0+a5)) (di d (.dA (enc (nth xs i)) 0) N A) L H K) (aF: ∀x,(enc x).length=m:=by exact fun _=>rfl)
  (e: ∀K,evSD P esc ops n ((X.drop i0).take a5) A L H K=(0≤i∧c3 (List.map enc xs)[i.toNat]? fun row=>row.length=m∧K (di d (.dA row 0) N A) L H):=by intro K;kernel_rfl):evSD P esc ops n (X.drop i0) A L H K:=by
 rw[ly X i0 a5,e]
 refine⟨aU.1,et (a:=enc (nth xs i)) ?_ ⟨aF _,h⟩⟩
 rw[List.getElem?_map,gV aU.2];rfl
theorem vw (a5:Nat) (d:Option Nat) (N:List (Nat×AV)) (b g z:Nat) {i:Int} {m:Nat} (aU:0≤i∧i.toNat<m) (h:evSD P esc ops n (X.drop (i0+a5)) (di d (.ptr b g (0+i.toNat) 0) N A) L H K)
  (e: ∀K,evSD P esc ops n ((X.drop i0).take a5) A L H K=(g=g∧z=z∧0≤i∧i<m∧K (di d (.ptr b g (0+i.toNat) 0) N A) L H):=by intro K;kernel_rfl):evSD P esc ops n (X.drop i0) A L H K:=by
 rw[ly X i0 a5,e];exact⟨rfl,rfl,aU.1,by have:=aU.2;omega,h⟩
theorem xS (a5:Nat) (d:Option Nat) (N:List (Nat×AV)) {α:Type} [Inhabited α] (enc:α→List AV) (xs:List α) (i:Int) (t:TypeId) (c g:Nat) (v:AV) (aK:i.toNat<xs.length) (h:evSD P esc ops n (X.drop (i0+a5)) (di d v N A) L H K)
  (e2: ∀K,jA P t (enc (nth xs i)) c K=K v:=by intro K;kernel_rfl)
  (e: ∀K,evSD P esc ops n ((X.drop i0).take a5) A L H K=(g=g∧c3 (List.map enc xs)[0+i.toNat]? fun row=>jA P t row c fun v=>K (di d v N A) L H):=by intro K;kernel_rfl):evSD P esc ops n (X.drop i0) A L H K:=by
 rw[ly X i0 a5,e]
 refine⟨rfl,et (a:=enc (nth xs i)) ?_ (by rw[e2];exact h)⟩
 rw[Nat.zero_add,List.getElem?_map,gV aK];rfl
theorem SX (a5:Nat) (d:Option Nat) (N:List (Nat×AV)) {g:FuncId} (args:List AV) {ez:List AV} {t:AV}
  (hf:b2 P g ez t) (hs:aD (da L H) args ez) (h:evSD P esc ops n (X.drop (i0+a5)) (di d t N A) L H K) (aF:args.all e6=true:=by kernel_rfl) (e: ∀K,evSD P esc ops n ((X.drop i0).take a5) A L H K=oS P g args L H (fun v=>K (di d v N A) L H):=by intro K;kernel_rfl):evSD P esc ops n (X.drop i0) A L H K:=by
 rw[ly X i0 a5,e];exact⟨aF,ez,t,hs,hf,h⟩
theorem agl (a5:Nat) (d:Option Nat) (N:List (Nat×AV)) {α:Type} [Inhabited α] (enc:α→List AV) (xs:List α) (i:Int) (c k g:Nat) (cells:List AV) (F:List (List AV)→Prop) (H':List (List AV)→List Blk) (lm:α) (aK:i.toNat<xs.length)
  (dc:F ((List.map enc (xs.set i.toNat lm)))) (h:evSD P esc ops n (X.drop (i0+a5)) (di d (.tup []) N A) L (H' (List.map enc (xs.set i.toNat lm))) K) (hc:Nat.ble (c+k) (enc (nth xs i)).length=true:=by kernel_rfl) (hs:fl (enc (nth xs i)) c cells=enc lm:=by kernel_rfl)
  (e: ∀K,evSD P esc ops n ((X.drop i0).take a5) A L H K=(g=g∧c3 (List.map enc xs)[0+i.toNat]? fun row=>c+k≤row.length∧F (((List.map enc xs).set (0+i.toNat) (fl row c cells)))∧K (di d (.tup []) N A) L (H' ((List.map enc xs).set (0+i.toNat) (fl row c cells)))):=by intro K;kernel_rfl):evSD P esc ops n (X.drop i0) A L H K:=by
 rw[ly X i0 a5,e]
 refine⟨rfl,et (a:=enc (nth xs i)) ?_ ⟨Nat.le_of_ble_eq_true hc,?_,?_⟩⟩
 ·rw[Nat.zero_add,List.getElem?_map,gV aK];rfl
 ·rw[hs,Nat.zero_add,map_set];exact dc
 ·rw[hs,Nat.zero_add,map_set];exact h
theorem agj (a5:Nat) (d:Option Nat) (N:List (Nat×AV)) {α:Type} (enc:α→List AV) (xs ys:List α) (cn:List (List AV)) (b g s B:Nat) (F:List (List AV)→Prop) (H':List (List AV)→List Blk) (hx:cn=List.map enc ys) (aU:(xs.length+ys.length)*B≤140737488355328∧xs.length+ys.length≤4611686018427387904)
  (dc:F ((List.map enc (xs++ys)))) (h:evSD P esc ops n (X.drop (i0+a5)) (di d (.ref b (g+1) 0 (xs++ys).length false) N A) L (H' (List.map enc (xs++ys))) K) (hk: ∀x,(enc x).length=s∧(enc x).all ji=true:=by exact fun _=>⟨rfl,rfl⟩)
  (e: ∀K,evSD P esc ops n ((X.drop i0).take a5) A L H K=(true=true∧true=true∧re s cn∧0=0∧g=g∧s=s∧(List.map enc xs).length=xs.length∧(xs.length+cn.length)*B≤140737488355328∧xs.length+cn.length≤4611686018427387904∧F ((List.map enc xs++cn))∧K (di d (.ref b (g+1) 0 (xs.length+cn.length) false) N A) L (H' (List.map enc xs++cn))):=by intro K;kernel_rfl):evSD P esc ops n (X.drop i0) A L H K:=by
 rw[ly X i0 a5,e]
 subst hx
 refine⟨rfl,rfl,CU hk ys,rfl,rfl,rfl,List.length_map ..,by rw[List.length_map];exact aU.1,by rw[List.length_map];exact aU.2,?_,?_⟩
 ·rw[←List.map_append];exact dc
 ·rw[List.length_append] at h;rw[List.length_map,←List.map_append];exact h
theorem Dd (a5:Nat) (d:Option Nat) (N:List (Nat×AV)) {g:FuncId} (args:List AV) {ez:List AV} {mh:AV} {dN:List Blk} (F:List (Nat×List AV)→List Blk→Prop) (r:AV) (kX:List Blk)
  (hf:dI P g ez [] fun r H'=>r=mh∧H'=dN) (hs:aD (da L H) args ez) (y4:ti dN=true) (wa:H++dN.map (lh H.length)=kX) (dc:F L kX)
  (h:evSD P esc ops n (X.drop (i0+a5)) (di d r N A) L kX K) (aF:args.all e6=true:=by kernel_rfl) (aC:xm mh=true:=by kernel_rfl) (er:mK H.length mh=r:=by kernel_rfl) (e: ∀K,evSD P esc ops n ((X.drop i0).take a5) A L H K=lu P g args L H (fun v L' H'=>F L' H'∧K (di d v N A) L' H'):=by intro K;kernel_rfl):evSD P esc ops n (X.drop i0) A L H K:=by
 rw[ly X i0 a5,e]
 subst er;subst wa
 exact .inr (.inl ⟨aF,ez,hs,hf.mono fun fs H1 ⟨h1,h2⟩=>by subst h1;subst h2;exact⟨aC,y4,dc,h⟩⟩)
theorem Jn (a5:Nat) (d:Option Nat) (N:List (Nat×AV)) {α:Type} (enc:α→List AV) (xs:List α) (h:evSD P esc ops n (X.drop (i0+a5)) (di d (.int .i64 (xs.length:Nat)) N A) L H K)
  (e: ∀K,evSD P esc ops n ((X.drop i0).take a5) A L H K=K (di d (.int .i64 ((List.map enc xs).length:Nat)) N A) L H:=by intro K;kernel_rfl):evSD P esc ops n (X.drop i0) A L H K:=by
 rw[ly X i0 a5,e,List.length_map];exact h
end
inductive jB (H:List Blk) (gp:Nat) (dy:Nat→Option Nat):AV→AV→Prop where
 | int (k:IntKind) (n:Int):jB H gp dy (.int k n) (.int k n)
 | bool (b:Bool):jB H gp dy (.bool b) (.bool b)
 | str (s:ByteArray):jB H gp dy (.str s) (.str s)
 | gf:jB H gp dy .gf .gf
 | gC:jB H gp dy .gC .gC
 | bD (rows:List (List AV)) (full eD fr:Bool) (hw:eD=true→full=true):jB H gp dy (.bD rows full fr) (.bD rows eD fr)
 | ref {b g n j:Nat} {full:Bool} {blk:Blk} (aM:j<gp) (hs:dy j=some b) (hb:H[b]?=some blk) (hg:blk.bF=g):jB H gp dy (.ref b g 0 n full) (.ref j 0 0 n false)
 | nil {a:AV} {j:Nat} (aM:j<gp) (hs:dy j=none) (h:r9 a=true):jB H gp dy a (.ref j 0 0 0 false)
def JL (H:List Blk) (gp:Nat) (dy:Nat→Option Nat) (a b:AV):Prop:=(∃l fq,a= .agg l∧b= .agg fq∧aD (jB H gp dy) l fq)∨jB H gp dy a b
structure tP (H dN:List Blk) (dy:Nat→Option Nat):Prop where
 inj: ∀i j b,i<dN.length→j<dN.length→dy i=some b→dy j=some b→i=j
 bF: ∀(j:Nat) (k:Blk),dN[j]?=some k→k.bF=0
 blk: ∀(j b:Nat) (k:Blk),dN[j]?=some k→dy j=some b→ ∃q,H[b]?=some q∧q.sz=k.sz∧aD (aD (jB H dN.length dy)) q.rows k.rows
def Env.own (E:Env) (dN:List Blk) (dy:Nat→Option Nat):Env:=
 {w:=E.w,PA:=E.PA,PF:=E.PF,mL:=fun _=>none,bF:=fun _=>0
  m:=fun j=>if j<dN.length then(match dy j with
   | some b=>E.m b
   | none=>some none) else none
  sz:=fun j=>(dN[j]?.map Blk.sz).getD 0
  cp:=fun j=>match dy j with
   | some b=>E.cp b
   | none=>0}
section
variable {E:Env} {H dN:List Blk} {dy:Nat→Option Nat}
theorem O5 {j b:Nat} (aM:j<dN.length) (hs:dy j=some b):(E.own dN dy).m j=E.m b:=by
 show(if j<dN.length then _ else _)=_
 rw[if_pos aM,hs]
theorem ab8 {j:Nat} (aM:j<dN.length) (hs:dy j=none):(E.own dN dy).m j=some none:=by
 show(if j<dN.length then _ else _)=_
 rw[if_pos aM,hs]
theorem xk {j:Nat} {x:Option Nat} (h:(E.own dN dy).m j=some x):j<dN.length∧((dy j=none∧x=none)∨ ∃b,dy j=some b∧E.m b=some x):=by
 have h:(if j<dN.length then(match dy j with
   | some b=>E.m b
   | none=>some none) else none)=some x:=h
 split at h
 ·rename_i aM
  refine⟨aM,?_⟩
  cases hs:dy j with
  | none=>rw[hs] at h;cases h;exact .inl ⟨rfl,rfl⟩
  | some b=>rw[hs] at h;exact .inr ⟨b,rfl,h⟩
 ·cases h
theorem jB.v1 (aV:SimH E H) (dW:tP H dN dy) {a b:AV} (h:jB H dN.length dy a b) {v:Value} (hv:cN E a v):cN (E.own dN dy) b v:=by
 cases h with
 | int k n=>exact hv
 | bool b=>exact hv
 | str s=>exact hv
 | gf=>exact hv
 | gC=>exact hv
 | bD rows full eD fr hw=>
  have hv:bH E.w E.PA E.PF (.bD rows full fr) v:=hv
  cases hv with
  | bD gl gQ hC cK fj ec=>exact bH.bD gl gQ (fun h=>hC (hw h)) cK fj ec
 | @ref b g n j full blk aM hs hb hg=>
  have kk:=aV.fg b blk hb
  have hk:dN[j]?=some dN[j]:=List.getElem?_eq_getElem aM
  obtain⟨q,aj,cK,_⟩:=dW.blk j b _ hk hs
  rw[hb] at aj
  obtain rfl:=Option.some.inj aj
  rcases(show fv E (.ref b g 0 n full) v from hv) with⟨bf,_⟩ | ⟨fT,bY⟩
  ·omega
  ·refine .inr ⟨rfl,?_⟩
   rcases bY with⟨hm,_,aF,A,hZ⟩ | ⟨c,cap,hm,e,h1,h2,aP⟩
   ·exact .inl ⟨by rw[O5 aM hs];exact hm,rfl,aF,A,hZ⟩
   ·refine .inr ⟨c,cap,by rw[O5 aM hs];exact hm,by rw[e,Nat.zero_mul,Nat.zero_mul],h1,(fun h=>by cases h),?_⟩
    show 0+cap≤(match dy j with
     | some b=>E.cp b
     | none=>0)
    rw[hs];exact aP
 | nil aM hs h=>exact El (E:=E) h hv rfl (ab8 aM hs)
theorem ab9 (aV:SimH E H) (b3: ∀t,E.mL t=none) (dW:tP H dN dy):SimH (E.own dN dy) dN:=by
 have h0:E.b_=E:=by
  have:E.mL=fun _=>none:=funext b3
  cases E;simp only[Env.b_] at*;subst this;rfl
 have pU: ∀c,(E.own dN dy).gS c→E.gS c:=fun c ⟨j,aM⟩=>by
  obtain⟨_,h | ⟨b,_,h⟩⟩:=xk aM
  ·cases h.2
  ·exact⟨b,h⟩
 exact{
  heap:=fun j c hm=>by
   obtain⟨aM,h | ⟨b,hs,hb⟩⟩:=xk hm
   ·cases h.2
   ·have hk:dN[j]?=some dN[j]:=List.getElem?_eq_getElem aM
    obtain⟨q,aj,cK,aK⟩:=dW.blk j b _ hk hs
    obtain⟨blk,ba,ty,q1,dS,q2,q3,q4,cR,c4⟩:=aV.heap b c hb
    rw[aj] at q1
    obtain rfl:=Option.some.inj q1
    have bA:(E.own dN dy).sz j=E.sz b:=by
     show(dN[j]?.map Blk.sz).getD 0=_
     rw[hk,dS,cK];rfl
    have e2:(E.own dN dy).cp j=E.cp b:=by
     show(match dy j with
      | some b=>E.cp b
      | none=>0)=_
     rw[hs]
    refine⟨_,ba,ty,hk,by rw[bA,dS,cK],q2,by rw[bA,e2];exact q3,by rw[e2,←aK.1];exact q4,fun i row eX=> ?_,fun i l row a eX a4=> ?_⟩
    ·have bf:=(List.getElem?_eq_some_iff.1 eX).1
     have h1:q.rows[i]?=some (q.rows[i]'(by rw[aK.1];exact bf)):=List.getElem?_eq_getElem _
     rw[bA,←(aK.2 i _ row h1 eX).1];exact cR i _ h1
    ·have bf:=(List.getElem?_eq_some_iff.1 eX).1
     have h1:q.rows[i]?=some (q.rows[i]'(by rw[aK.1];exact bf)):=List.getElem?_eq_getElem _
     have aI:=aK.2 i _ row h1 eX
     have Yr:=(List.getElem?_eq_some_iff.1 a4).1
     have h2:=List.getElem?_eq_getElem (l:=q.rows[i]'(by rw[aK.1];exact bf)) (i:=l) (by rw[aI.1];exact Yr)
     obtain⟨u,hu,hv⟩:=c4 i l _ _ h1 h2
     rw[h0] at hv
     exact⟨u,by rw[bA];exact hu,(aI.2 l _ a h2 a4).v1 aV dW hv⟩
  fg:=fun j k hk=>(dW.bF j k hk).symm
  hE:=fun j hm=>by
   obtain⟨aM,_⟩:=xk hm
   have hk:dN[j]?=some dN[j]:=List.getElem?_eq_getElem aM
   exact⟨_,hk,by show(dN[j]?.map Blk.sz).getD 0=_;rw[hk];rfl⟩
  fresh:=fun j aM=>⟨by show(if j<dN.length then _ else _)=_;rw[if_neg (by omega)],rfl⟩
  h6:=fun i j c h1 h2=>by
   obtain⟨hi,h | ⟨b,hs,hb⟩⟩:=xk h1
   ·cases h.2
   ·obtain⟨aM,h | ⟨ct,l_,ek⟩⟩:=xk h2
    ·cases h.2
    ·have:=aV.h6 b ct c hb ek
     subst this
     exact dW.inj i j b hi aM hs l_
  jK:=fun t jR c h=>by cases h
  gT:=fun b t c _ h=>by cases h
  h7:=fun c hc h=>aV.h7 c hc (pU c h)
  iw:=fun c hc ⟨t,h⟩=>by cases h
  e0:=aV.e0
  fc:=aV.fc
  gB:=fun c h=>aV.gB c (pU c h)
  g_:=fun c ⟨t,h⟩=>by cases h}
end
theorem dI.toOwn {P:Program} {f:FuncId} {args:List AV} {mh:AV} {dN:List Blk} (h:dI P f args [] fun r H=> ∃dy,tP H dN dy∧JL H dN.length dy r mh):dI P f args [] fun r H=>r=mh∧H=dN:=by
 refine⟨h.1,fun E vs aF hs a4=>(h.2 E vs aF hs a4).mono ?_⟩
 rintro e w' ⟨r,v,H',E',rfl,⟨dy,dW,yK⟩,rfl,Yu,l_,hv,bi⟩
 refine⟨mh,v,dN,E'.own dN dy,rfl,⟨rfl,rfl⟩,rfl,fun _=>rfl,ab9 l_ Yu dW,?_,?_⟩
 ·rcases yK with⟨l,fq,rfl,rfl,aI⟩ | yK
  ·obtain⟨kx,rfl,aj⟩:=(show ∃kx:List Value,v= .agg kx.toArray∧aD (cN E') l kx from hv)
   refine⟨kx,rfl,aI.1▸aj.1,fun i a u a4 hu=> ?_⟩
   have bf:i<l.length:=by rw[aI.1];exact(List.getElem?_eq_some_iff.1 a4).1
   have h1:=List.getElem?_eq_getElem bf
   exact(aI.2 i _ a h1 a4).v1 l_ dW (aj.2 i _ u h1 hu)
  ·have k7:cN E' r v:=by
    rw[oO,pu] at hv
    ·exact hv
    ·rintro l rfl;cases yK with
     | nil aM hs hx=>exact absurd hx Bool.false_ne_true
    ·rintro l rfl;cases yK with
     | nil aM hs hx=>exact absurd hx Bool.false_ne_true
   exact qm (ql (yK.v1 l_ dW k7))
 ·have pU: ∀c,(E'.own dN dy).gS c→E'.gS c:=fun c ⟨j,aM⟩=>by
   obtain⟨_,h | ⟨b,_,h⟩⟩:=xk aM
   ·cases h.2
   ·exact⟨b,h⟩
  exact{
   le:=⟨bi.le.fL,bi.le.fM,bi.le.tJ,bi.le.wf,fun b=>by rw[(hs.fresh b (Nat.zero_le _)).2];exact Nat.zero_le _,(fun b x hm _=>by rw[(hs.fresh b (Nat.zero_le _)).1] at hm;cases hm),(fun t c hm=>by rw[aF t] at hm;cases hm)⟩
   os:=bi.os,tape:=bi.tape,output:=bi.output,size:=bi.size,fh:=bi.fh
   jq:=fun b c hb=>(bi.qU c (pU c ⟨b,hb⟩)).elim (fun⟨j,aM⟩=>by rw[(hs.fresh j (Nat.zero_le _)).1] at aM;cases aM) .inr
   jJ:=fun c ⟨t,h⟩=>by cases h
   fL:=bi.fL,fM:=bi.fM}
theorem tP.nil {H:List Blk} {dy:Nat→Option Nat}:tP H [] dy:=⟨fun i j b h=>by simp at h,fun j k h=>by simp at h,fun j b k h=>by simp at h⟩
def pe (l:List (Option Nat)) (j:Nat):Option Nat:=(l[j]?).getD none
def Dw (H:List Blk) (gp:Nat) (dy:Nat→Option Nat) (k:Blk):Option Nat→Prop
 | none=>True
 | some b=> ∃q,H[b]?=some q∧q.sz=k.sz∧aD (aD (jB H gp dy)) q.rows k.rows
def x6 (H:List Blk) (gp:Nat) (dy:Nat→Option Nat):List (Option Nat)→List Blk→Prop
 | [],[]=>True
 | o::l,k::dN=>k.bF=0∧Dw H gp dy k o∧x6 H gp dy l dN
 | _,_=>False
theorem x6.get {H:List Blk} {gp:Nat} {dy:Nat→Option Nat}: ∀{l:List (Option Nat)} {dN:List Blk},x6 H gp dy l dN→ ∀(j:Nat) (k:Blk),dN[j]?=some k→ ∃o,l[j]?=some o∧k.bF=0∧Dw H gp dy k o
 | [],[],_,j,k,h=>by simp at h
 | o::l,q::dN,a4,0,k,h=>by simp at h;subst h;exact⟨o,rfl,a4.1,a4.2.1⟩
 | o::l,q::dN,a4,j+1,k,h=>by
  obtain⟨x,hx,h2⟩:=x6.get a4.2.2 j k (by simpa using h)
  exact⟨x,by simpa using hx,h2⟩
theorem q6 {H dN:List Blk} (l:List (Option Nat)) (aL:l.length=dN.length) (bj:(l.filterMap id).Nodup) (h:x6 H dN.length (pe l) l dN):tP H dN (pe l) where
 inj:=fun i j b hi aM h1 h2=>by
  have gb:i<l.length:=by omega
  have ot:j<l.length:=by omega
  have bA:l[i]=some b:=by have:(l[i]?).getD none=some b:=h1;rwa [List.getElem?_eq_getElem gb] at this
  have e2:l[j]=some b:=by have:(l[j]?).getD none=some b:=h2;rwa [List.getElem?_eq_getElem ot] at this
  rcases Nat.lt_trichotomy i j with bf | rfl | pP
  ·exfalso
   have aI:=List.pairwise_filterMap.1 bj
   exact(List.pairwise_iff_getElem.1 aI i j gb ot bf) b (by simpa using bA) b (by simpa using e2) rfl
  ·rfl
  ·exfalso
   have aI:=List.pairwise_filterMap.1 bj
   exact(List.pairwise_iff_getElem.1 aI j i ot gb pP) b (by simpa using e2) b (by simpa using bA) rfl
 bF:=fun j k hk=>by obtain⟨o,_,h1,_⟩:=h.get j k hk;exact h1
 blk:=fun j b k hk hs=>by
  obtain⟨o,aC,_,h2⟩:=h.get j k hk
  have:o=some b:=by have hs:(l[j]?).getD none=some b:=hs;rw[aC] at hs;exact hs
  subst this
  exact h2
theorem rf {H:List Blk} {gp:Nat} {dy:Nat→Option Nat} {α:Type} {enc:α→List AV} {b g sz:Nat} {xs ys:List α} (hb:H[b]?=some ⟨g,sz,List.map enc xs⟩) (hc: ∀x,aD (jB H gp dy) (enc x) (enc x)) (e:xs=ys):
  Dw H gp dy ⟨0,sz,List.map enc ys⟩ (some b):=by
 subst e
 refine⟨_,hb,rfl,rfl,fun i r CL h1 h2=> ?_⟩
 rw[List.getElem?_map] at h1 h2
 cases hx:xs[i]? with
 | none=>rw[hx] at h1;cases h1
 | some x=>rw[hx] at h1 h2;cases h1;cases h2;exact hc x
section
variable {H:List Blk} {gp:Nat} {dy:Nat→Option Nat}
theorem zv (b:Bool):aD (jB H gp dy) (aY b) (aY b):= .cons (.bool _) .nil
theorem OX (x:cA):aD (jB H gp dy) (dp x) (dp x):= .cons (.int _ _) (.cons (.int _ _) .nil)
theorem Hk (x:a_):aD (jB H gp dy) (a7 x) (a7 x):= .cons (.int _ _) (.cons (.int _ _) .nil)
theorem Ho {k:IntKind} {a b:Int} (h:a=b):jB H gp dy (.int k a) (.int k b):=h▸ .int k a
theorem ab5 {a b:Bool} (h:a=b):jB H gp dy (.bool a) (.bool b):=h▸ .bool a
theorem u4 {b g n m j sz:Nat} {full:Bool} {rows:List (List AV)} (aM:j<gp) (hs:dy j=some b) (hb:H[b]?=some ⟨g,sz,rows⟩) (aF:n=m):jB H gp dy (.ref b g 0 n full) (.ref j 0 0 m false):=aF▸ .ref aM hs hb rfl
theorem Hp {a:AV} {j m:Nat} (aM:j<gp) (hs:dy j=none) (h:r9 a=true) (hm:0=m):jB H gp dy a (.ref j 0 0 m false):=hm▸ .nil aM hs h
end
theorem q5 {α:Type} {enc:α→List AV} {g sz:Nat} {xs:List α} {H:List Blk} (h1: ∀x,(enc x).all p6=true) (h2:ti H=true):ti (⟨g,sz,List.map enc xs⟩::H)=true:=by
 show(((List.map enc xs).all fun row=>row.all p6)&&H.all fun b=>b.rows.all fun row=>row.all p6)=true
 rw[Bool.and_eq_true]
 refine⟨?_,h2⟩
 rw[List.all_eq_true]
 intro row aK
 obtain⟨x,_,rfl⟩:=List.mem_map.1 aK
 exact h1 x
theorem rk {α:Type} {enc:α→List AV} {k g sz:Nat} {xs:List α} {H H':List Blk} (h1: ∀x,(enc x).map (iP k)=enc x) (h2:H.map (lh k)=H'):(Blk.mk g sz (List.map enc xs)::H).map (lh k)=⟨g,sz,List.map enc xs⟩::H':=by
 subst h2
 show(⟨g,sz,(List.map enc xs).map fun row=>row.map (iP k)⟩:Blk)::_=_
 rw[List.map_map]
 congr 2
 exact List.map_congr_left fun x _=>h1 x
theorem rl {k:Nat} {H dN H1 kX:List Blk} (h:dN.map (lh k)=H1) (e:H++H1=kX):H++dN.map (lh k)=kX:=by rw[h,e]
def Env.at (W:World):Env:={w:=W,PA:=fun c=>c<W.heap.size,PF:=fun _=>False,m:=fun _=>none,bF:=fun _=>0,sz:=fun _=>0,cp:=fun _=>0,mL:=fun _=>none}
theorem TZ (W:World):SimH (Env.at W) [] where
 heap:=fun b c hb=>by cases hb
 fg:=fun b blk hb=>by simp at hb
 hE:=fun b hb=>by cases hb
 fresh:=fun b _=>⟨rfl,rfl⟩
 h6:=fun b ct c hb=>by cases hb
 jK:=fun t jR c hb=>by cases hb
 gT:=fun b t c hb=>by cases hb
 h7:=fun c _ ⟨b,hb⟩=>by cases hb
 iw:=fun c _ ⟨b,hb⟩=>by cases hb
 e0:=fun c hc=>hc.elim
 fc:=fun c hc=>hc
 gB:=fun c ⟨b,hb⟩=>by cases hb
 g_:=fun c ⟨b,hb⟩=>by cases hb
theorem N1 {P:Program} {f:FuncId} {cS:List AV} {W:World} {vs:List Value} (h:b2 P f cS (.bool true)) (a4:aD (V2 (Env.at W)) cS vs):
  Calls P f vs.toArray W fun e Dz=>e= .returned (.bool true)∧RowKit.Below W.heap.size W Dz:=by
 refine(h.2 (Env.at W) vs (fun _=>rfl) (TZ W) a4).mono ?_
 rintro e w' ⟨r,v,H',E',rfl,aK,rfl,aF,hs,hv,bi⟩
 have hb:r= .bool true:=by
  rcases aK with⟨l,fq,_,e,_⟩ | ⟨l,fq,_,e,_⟩ | aK
  ·cases e
  ·cases e
  ·cases aK;rfl
 subst hb
 refine⟨by rw[V3.rI hv],bi.os,bi.tape,bi.output,bi.size,fun k hk=>bi.fh k hk (fun⟨b,hb⟩=>by cases hb) (fun⟨b,hb⟩=>by cases hb)⟩
def Dv (W:World):AV→Value→Prop:=bH W (fun c=>c<W.heap.size) (fun _=>False)
def At (P:Program) (W:World) (t:TypeId) {α:Type} (enc:α→List AV):Prop:=
 ∀{H:Type} (pA:TypeId×Value→H) (nz:Nat) (ba:List Value) (x:DataW H×List MemPlace),DataW.trod pA P W 0 (fun _=>true) true nz t ba=some x→(∀n∈x.1.weights P t,n≤reachBytes)→ ∃y:α,aD (Dv W) (enc y) ba
section
variable {P:Program} {W:World}
theorem O1 {t:TypeId} (hu:P.underlying t=some (.int .u8)):At P W t n_:=fun pA nz ba x h _=>by
 obtain⟨n,rfl,_,hw⟩:=DataW.trod_int hu h
 unfold Lit.wf at hw
 rw[Bool.and_eq_true] at hw
 have aU:(0:Int)≤n:=of_decide_eq_true hw.1
 have h1:n≤255:=of_decide_eq_true hw.2
 have e:(((UInt8.ofNat n.toNat).toNat:Nat):Int)=n:=by rw[UInt8.toNat_ofNat'];omega
 exact⟨UInt8.ofNat n.toNat,by unfold n_;rw[e];exact .cons (.int _ _) .nil⟩
theorem abw {α:Type} (n:Nat) (φ:Nat→α→Prop) (h: ∀i,i<n→ ∃y,φ i y): ∃ys:List α,ys.length=n∧ ∀(i:Nat) (y:α),ys[i]?=some y→φ i y:=by
 induction n with
 | zero=>exact⟨[],rfl,fun i y h=>by simp at h⟩
 | succ n bS=>
  obtain⟨ys,aL,hy⟩:=bS fun i hi=>h i (by omega)
  obtain⟨z,aO⟩:=h n (by omega)
  refine⟨ys++[z],by simp[aL],fun i y hi=> ?_⟩
  rcases Nat.lt_or_ge i n with bf | fT
  ·rw[List.getElem?_append_left (by omega)] at hi
   exact hy i y hi
  ·rw[List.getElem?_append_right (by omega)] at hi
   rcases Nat.eq_or_lt_of_le fT with rfl | pP
   ·rw[aL,Nat.sub_self] at hi
    cases hi;exact aO
   ·rw[List.getElem?_eq_none (by simp;omega)] at hi
    cases hi
theorem OD {α β:Type} {f:α→Option β}: ∀{l:List α} {r:List β},l.mapM f=some r→r.length=l.length∧ ∀(i:Nat) (a:α),l[i]?=some a→f a=r[i]?
 | [],r,h=>by simp at h;subst h;exact⟨rfl,fun i a h=>by simp at h⟩
 | x::l,r,h=>by
  rw[List.mapM_cons] at h
  simp only[bind,Option.bind_eq_some_iff,pure,Option.some.injEq] at h
  obtain⟨b,hb,CL,aK,rfl⟩:=h
  obtain⟨h1,h2⟩:=OD aK
  refine⟨by simp[h1],fun i a a4=> ?_⟩
  cases i with
  | zero=>simp at a4;subst a4;simpa using hb
  | succ i=>exact h2 i a (by simpa using a4)
theorem UE {a:Addr} {n:Nat} {l:List Value} (h:W.cells? 0 a n=some l):l.length=n∧ ∀j,j<n→W.cell? (a.add j)=l[j]?:=by
 unfold World.cells? at h
 rw[if_pos (Nat.zero_le _)] at h
 obtain⟨aL,hg⟩:=OD h
 rw[List.length_range] at aL
 exact⟨aL,fun j aM=>hg j j (List.getElem?_range aM)⟩
theorem af3 {a:Addr} {v:Value} (h:W.cell? a=some v):a.spot=none∧a.block<W.heap.size:=by
 unfold World.cell? at h
 split at h
 ·rename_i c _ _ hb
  split at h
  ·cases h
  ·rename_i hs
   refine⟨by cases aj:a.spot<;>simp_all,?_⟩
   rcases Nat.lt_or_ge a.block W.heap.size with h1 | h1
   ·exact h1
   ·rw[Array.getElem?_eq_none h1] at hb;cases hb
 ·cases h
theorem add_add (c o x y:Nat):((⟨c,o,none⟩:Addr).add x).add y=⟨c,o+(x+y),none⟩:=by
 rw[n3,n3,Nat.add_assoc]
theorem O0 {t e:TypeId} {α:Type} {enc:α→List AV} (hu:P.underlying t=some (.slice e)) (hb:1≤P.bytesOf e) (aO:1≤P.cellsOf e) (hc: ∀x,(enc x).length=P.cellsOf e) (h:At P W e enc):At P W t (i_ enc false):=by
 intro H pA nz ba x bu hw
 rcases DataW.trod_slice hu bu with⟨rfl,rfl⟩ | ⟨a,len,cap,wc,rest,n,_,rfl,rfl,_,aL,_,hlen,ur,_,_⟩
 ·refine⟨[],.cons ?_ .nil⟩
  exact bH.bD (rows:=[]) (PB:=fun _=>False) (sz:=0) (vs:=fun _ _=>undef) (fun _ h=>h.elim) ⟨Nat.le_refl _,Nat.zero_le _⟩ (fun h=>by cases h) (fun i row h=>by simp at h) (fun h=>by simp at h) (fun i j row a h=>by simp at h)
 ·have qR:(wc.length+rest.length)*P.bytesOf e≤reachBytes:=by
   have:=hw ((wc.length+rest.length)*P.bytesOf e) (by simp[DataW.weights,hu])
   simpa using this
  have g6:len≤4611686018427387904:=by
   have h1:wc.length+rest.length≤(wc.length+rest.length)*P.bytesOf e:=Nat.le_mul_of_pos_right _ hb
   have h2:=reachBytes_lt
   have aP:(2:Nat) ^ 47=140737488355328:=rfl
   omega
  have eE: ∀(l:List (DataW H)) (d:DataW H),d∈l→ ∀m∈d.weights P e,m∈DataW.weightsAll P e l:=by
   intro l
   induction l with
   | nil=>intro d bj;cases bj
   | cons q l bS=>
    intro d bj m hm
    simp only[DataW.weightsAll,List.mem_append]
    rcases List.mem_cons.1 bj with rfl | bj
    ·exact .inl hm
    ·exact .inr (bS d bj m hm)
  obtain⟨ys,B1,hy⟩:=abw len (fun i y=> ∃l,W.cells? 0 (a.add (i*P.cellsOf e)) (P.cellsOf e)=some l∧aD (Dv W) (enc y) l) fun i hi=>by
   have h1:=ur i hi
   have h2:wc[i]?=some (wc[i]'(by omega)):=List.getElem?_eq_getElem _
   rw[h2,Option.bind_eq_some_iff] at h1
   obtain⟨l,XV,Y5⟩:=h1
   obtain⟨y,hy⟩:=h pA n l _ Y5 fun m hm=>hw m (by
    simp only[DataW.weights,hu,List.mem_cons,List.mem_append]
    exact .inr (.inl (eE _ _ (List.mem_map.2 ⟨_,List.getElem_mem (by omega),rfl⟩) m hm)))
   exact⟨y,l,XV,hy⟩
  have hp: ∀i j,i<len→j<P.cellsOf e→ ∃l v,W.cells? 0 (a.add (i*P.cellsOf e)) (P.cellsOf e)=some l∧l[j]?=some v∧W.cell? ((a.add (i*P.cellsOf e)).add j)=some v:=fun i j hi aM=>by
   obtain⟨l,o0,_⟩:=hy i _ (List.getElem?_eq_getElem (by omega))
   obtain⟨q1,q2⟩:=UE o0
   exact⟨l,l[j]'(by omega),o0,List.getElem?_eq_getElem _,by rw[q2 j aM];exact List.getElem?_eq_getElem _⟩
  let vs:Nat→Nat→Value:=fun i j=>(((W.cells? 0 (a.add (i*P.cellsOf e)) (P.cellsOf e)).getD [])[j]?).getD undef
  refine⟨ys,.cons ?_ .nil⟩
  have key:=bH.bD (w:=W) (PA:=fun c=>c<W.heap.size) (PF:=fun _=>False) (PB:=fun c=>c<W.heap.size) (rows:=List.map enc ys) (full:=false) (fresh:=false) (A:=some a) (cap:=cap) (sz:=P.cellsOf e) (vs:=vs)
   (fun c hc=>by simpa using hc) (by rw[List.length_map,B1];exact⟨aL,g6⟩) (fun h=>by cases h)
   (fun i row aK=>by
    rw[List.getElem?_map] at aK
    cases aj:ys[i]? with
    | none=>rw[aj] at aK;cases aK
    | some y=>rw[aj] at aK;cases aK;exact hc y)
   (fun lD=>by
    rw[List.length_map,B1] at lD
    obtain⟨l,v,_,_,hv⟩:=hp 0 0 lD aO
    rw[Nat.zero_mul] at hv
    have aU:(a.add 0).add 0=a:=by simp[Addr.add]
    rw[aU] at hv
    obtain⟨hs,bf⟩:=af3 hv
    obtain⟨c,o,s⟩:=a
    have hs:s=none:=hs
    subst hs
    refine⟨c,o,rfl,bf,fun i j hi aM=> ?_⟩
    rw[List.length_map,B1] at hi
    obtain⟨l,v,q1,q2,q3⟩:=hp i j hi aM
    rw[add_add] at q3
    rw[q3]
    show some v=some ((((W.cells? 0 _ _).getD [])[j]?).getD undef)
    rw[q1]
    show some v=some ((l[j]?).getD undef)
    rw[q2];rfl)
   (fun i j row b aK aM=>by
    rw[List.getElem?_map] at aK
    cases aj:ys[i]? with
    | none=>rw[aj] at aK;cases aK
    | some y=>
     rw[aj] at aK;cases aK
     obtain⟨l,o0,aI⟩:=hy i y aj
     obtain⟨v,hv,ov⟩:=aI.get aM
     show bH W _ _ b ((((W.cells? 0 _ _).getD [])[j]?).getD undef)
     rw[o0]
     show bH W _ _ b ((l[j]?).getD undef)
     rw[hv];exact ov)
  rw[List.length_map,B1] at key
  exact key
theorem AO {ba:List Value} (h:ba.length=2): ∃a b,ba=[a,b]:=by
 match ba,h with
 | [a,b],_=>exact⟨a,b,rfl⟩
theorem J0 {t:TypeId} {α:Type} {enc:α→List AV} {f:α→AV} (h:At P W t enc) (he: ∀y,enc y=[f y]) {H:Type} {pA:TypeId×Value→H} {v:Value} {d:DataW H} {ps:List MemPlace} (bu:DataW.Trod pA P W 0 (fun _=>true) true t v d ps)
  (hw: ∀n∈d.weights P t,n≤reachBytes) (hv:v.cells= #[v]): ∃y,V2 (Env.at W) (f y) v:=by
 obtain⟨nz,hf⟩:=bu
 rw[hv] at hf
 obtain⟨y,aI⟩:=h pA nz _ _ hf hw
 rw[he] at aI
 have aK:Dv W (f y) v:=aI.head
 exact⟨y,ql (bH.v1 (E:=Env.at W) aK)⟩
end
def GR (P:Program) (fn:Func) (c:OpenClaim):Bool:=c.kinds==(if c.domain.isEmpty then[] else fn.params.toList.map fun t=>match P.underlying t with | some (.int k)=>some k | _=>none)
theorem NU {P:Program} {f:FuncId} {fn:Func} {s:ChangeSpec} {c:OpenClaim} (aU:(c.wf (OpenSpec.ofChange s))=true) (h1:laidOutB P=true) (h2:mapsRowed P=true) (aP:fn.params.all (P.readableRec ·)=true) (a8:namedTie P c.named s.vars=true) (cs:(c.stops==[])=true) (cT:(P.stops==[])=true) (gk:(c.knobs==[])=true) (oh:(P.stopKnobs==[])=true) (uf:(c.inPlace==P.inPlace f)=true) (yF:(c.unfollowed==P.unfollowed f)=true) (Xf:(c.recurses==P.recurses f)=true) (og:(c.named==P.varsNamed f)=true) (Xg:(c.maps==(fn.params.toList++s.plain.varTypes P).any (P.mapsRec ·))=true) (Xh:(c.ifaces==(fn.params.toList++s.plain.varTypes P).any (P.ifacesRec ·))=true) (Xi:(c.mapsOut==P.mapsAmong fn.resultTypes.toList)=true) (Xj:(c.loops==(fn.params.toList++s.plain.varTypes P).any (P.loopsFrom ·))=true) (Xk:(c.wideKeys==(fn.params.toList++s.plain.varTypes P++fn.resultTypes.toList).any (P.wideKeysFrom ·))=true) (Xl:s.vars.all (P.varReadable ·)=true) (Xm:fn.resultTypes.all (fun t=>P.readableRec t&&decide (t<P.types.size))=true) (Xn:(c.ifacesOut==fn.resultTypes.toList.any (P.ifacesRec ·))=true) (Xo:(c.loopsOut==fn.resultTypes.toList.any (P.loopsFrom ·))=true) (Xp:(c.plainKeys==P.plainKeys)=true) (Xq:c.shortTexts.isNone=true) (Xr:P.stopsHeard=true) (Xs:P.mayEnter=true) (Xt:(c.lifted==P.liftsFinal)=true) (Xu:(P.make==some c.make)=true) (Xv:GR P fn c=true) (Xw:(c.pinned==c.pinnedBy)=true) (oW:(c.veiled==(fn.params.toList++s.plain.varTypes P++fn.resultTypes.toList).any (P.veiledRec ·))=true) (Xx:c.veiledFits P fn.params.toList (fn.params.toList++s.plain.varTypes P++fn.resultTypes.toList)=true):joinedFacts P f fn s c=true:=by
 unfold joinedFacts
 simp only[Bool.and_eq_true]
 exact⟨⟨⟨⟨⟨⟨⟨⟨⟨⟨⟨⟨⟨⟨⟨⟨⟨⟨⟨⟨⟨⟨⟨⟨⟨⟨⟨⟨⟨⟨⟨aU,h1⟩,h2⟩,aP⟩,a8⟩,cs⟩,cT⟩,gk⟩,oh⟩,uf⟩,yF⟩,Xf⟩,og⟩,Xg⟩,Xh⟩,Xi⟩,Xj⟩,Xk⟩,Xl⟩,Xm⟩,Xn⟩,Xo⟩,Xp⟩,Xq⟩,Xr⟩,Xs⟩,Xt⟩,Xu⟩,Xv⟩,Xw⟩,oW⟩,Xx⟩
theorem abX {α:Type} [Inhabited α] {xs:List α} {i:Int} (h:i.toNat<xs.length):nth xs i=xs[i.toNat]:=by
 have:=gV h
 rw[List.getElem?_eq_getElem h] at this
 exact(Option.some.inj this).symm
def bm (b:List Bool):Blk:=⟨0,1,List.map aY b⟩
def ki (s:Nat) (h:ad) (id:Nat):List AV:=[.int .i64 h.ao,.int .i64 h.ag,.ref (id+s) 0 0 h.ac.length false,.bool h.aq,.int .i64 h.ar]
def a0 (s:Nat) (ws:List ad) (ids:List Nat):List (List AV):=List.zipWith (ki s) ws ids
def view (ws:List ad) (ids:List Nat) (bs:List (List Bool)):List ad:=List.zipWith (fun h id=>{h with ac:=bs.getD id []}) ws ids
structure ke (ws:List ad) (ids:List Nat) (bs:List (List Bool)):Prop where
 len:ws.length=ids.length
 lt: ∀(i id:Nat),ids[i]?=some id→id<bs.length
 ac: ∀(i id:Nat) (h:ad),ws[i]?=some h→ids[i]?=some id→h.ac.length=(bs.getD id []).length
theorem dO {s:Nat} {ws:List ad} {ids:List Nat} {i:Int} (aL:ws.length=ids.length) (hi:i.toNat<ws.length):(a0 s ws ids)[i.toNat]?=some (ki s (nth ws i) (nth ids i)):=by
 unfold a0
 rw[List.getElem?_zipWith,gV hi,gV (by omega)]
theorem wy {s:Nat} {ws:List ad} {ids:List Nat} (aL:ws.length=ids.length):(a0 s ws ids).length=ws.length:=by
 unfold a0;rw[List.length_zipWith];omega
theorem wz {s:Nat} {ws:List ad} {ids:List Nat} {i:Nat} {h:ad} {id:Nat} (aL:ws.length=ids.length):(a0 s ws ids).set i (ki s h id)=a0 s (ws.set i h) (ids.set i id):=by
 apply List.ext_getElem?
 intro j
 unfold a0
 rw[List.getElem?_set,List.getElem?_zipWith,List.getElem?_zipWith,List.getElem?_set,List.getElem?_set]
 by_cases nB:i=j
 ·subst nB
  simp only[if_true,List.length_zipWith]
  by_cases hi:i<ws.length
  ·rw[if_pos (by omega),if_pos hi,if_pos (by omega)]
  ·rw[if_neg (by omega),if_neg hi]
 ·simp only[if_neg nB]
theorem kj {s:Nat} {ws:List ad} {ids:List Nat} {i:Int} {h:ad} (aL:ws.length=ids.length) (hi:i.toNat<ws.length):(a0 s ws ids).set i.toNat (ki s h (nth ids i))=a0 s (ws.set i.toNat h) ids:=by
 rw[wz aL]
 congr 1
 rw[abX (by omega)]
 exact List.set_getElem_self _
theorem E5 {s:Nat} {ws:List ad} {ids:List Nat} {h:ad} {id:Nat} (aL:ws.length=ids.length):a0 s ws ids++[ki s h id]=a0 s (ws++[h]) (ids++[id]):=by
 unfold a0
 rw[List.zipWith_append aL];rfl
theorem sQ {bs:List (List Bool)} {id:Nat} (h:id<bs.length):(List.map bm bs)[id]?=some (bm (bs.getD id [])):=by
 rw[List.getElem?_map,List.getElem?_eq_getElem h,List.getD_eq_getElem?_getD,List.getElem?_eq_getElem h];rfl
theorem EG {bs:List (List Bool)} {id:Nat} {b:List Bool}:(List.map bm bs).set id (bm b)=List.map bm (bs.set id b):=by rw[List.map_set]
theorem ym {b:List Bool} {i:Int} (h:i.toNat<b.length):(List.map aY b)[i.toNat]?=some (aY (nth b i)):=by rw[List.getElem?_map,gV h];rfl
theorem DJ {b:List Bool} {i:Nat} {x:Bool}:(List.map aY b).set i (aY x)=List.map aY (b.set i x):=by rw[List.map_set]
theorem jl {ws:List ad} {ids:List Nat} {bs:List (List Bool)} (h:ke ws ids bs):(view ws ids bs).length=ws.length:=by
 unfold view;rw[List.length_zipWith];have:=h.len;omega
theorem xV {ws:List ad} {ids:List Nat} {bs:List (List Bool)} {i:Nat} {h:ad} {id:Nat} (h1:ws[i]?=some h) (h2:ids[i]?=some id):(view ws ids bs)[i]?=some {h with ac:=bs.getD id []}:=by
 unfold view;rw[List.getElem?_zipWith,h1,h2]
theorem vi {s:Nat} {ws:List ad} {ids:List Nat} {i:Nat} {row:List AV} (h:(a0 s ws ids)[i]?=some row): ∃x id,ws[i]?=some x∧ids[i]?=some id∧row=ki s x id:=by
 unfold a0 at h
 rw[List.getElem?_zipWith] at h
 cases hx:ws[i]? with
 | none=>rw[hx] at h;cases h
 | some x=>
  cases bj:ids[i]? with
  | none=>rw[hx,bj] at h;cases h
  | some id=>rw[hx,bj] at h;cases h;exact⟨x,id,rfl,rfl,rfl⟩
theorem tB {L:List (Nat×List AV)} {H:List Blk} {b s n:Nat} {full:Bool} {ws:List ad} {ids:List Nat} {bs:List (List Bool)} (aF:n=ws.length) (hb:H[b]?=some ⟨0,5,a0 s ws ids⟩)
  (hf: ∀(id:Nat) (k:Blk),(List.map bm bs)[id]?=some k→H[id+s]?=some k) (ok:ke ws ids bs) (g6:ws.length≤4611686018427387904) (Bp: ∀x∈bs,x.length≤4611686018427387904):
  ga L H (.ref b 0 0 n full) (.bD (List.map (dM false) (view ws ids bs)) false false):=by
 subst aF
 refine ga.ref (fun h=>by cases h) hb rfl (by rw[List.length_map,jl ok]) g6 (by rw[Nat.zero_add,wy ok.len];exact Nat.le_refl _) (fun i row row' h1 h2=> ?_) (fun i j row row' a c h1 h2 aP a8=> ?_)
 ·rw[Nat.zero_add] at h1
  obtain⟨x,id,hx,bj,rfl⟩:=vi h1
  rw[List.getElem?_map,xV hx bj] at h2
  cases h2;rfl
 ·rw[Nat.zero_add] at h1
  obtain⟨x,id,hx,bj,rfl⟩:=vi h1
  rw[List.getElem?_map,xV hx bj] at h2
  cases h2
  have bf:=ok.lt i id bj
  have key:oL L H (ki s x id) (dM false {x with ac:=bs.getD id []}):=by
   refine .cons (.int _ _) (.cons (.int _ _) (.cons ?_ (.cons (.bool _) (.cons (.int _ _) .nil))))
   have hm:bs.getD id []∈bs:=by rw[List.getD_eq_getElem?_getD,List.getElem?_eq_getElem bf];exact List.getElem_mem bf
   exact nl (eT:=aY) (eF:=aY) (sz:=1) (ok.ac i id x hx bj) (hf id _ (sQ bf)) s7 (Bp _ hm)
  exact key.2 j a c aP a8
theorem C3 {H:List Blk} {b g s n:Nat} {full:Bool} {ws ys:List ad} {ids:List Nat} {bs:List (List Bool)} (aF:n=ws.length) (hb:H[b]?=some ⟨g,5,a0 s ws ids⟩)
  (hf: ∀(id:Nat) (k:Blk),(List.map bm bs)[id]?=some k→H[id+s]?=some k) (h:ke ws ids bs∧ws.length≤4611686018427387904∧(∀x∈bs,x.length≤4611686018427387904)∧view ws ids bs=ys):
  gH H (.ref b g 0 n full) (.bD (List.map (dM false) ys) false true):=by
 obtain⟨ok,g6,Bp,rfl⟩:=h
 subst aF
 refine gH.ref (fun h=>by cases h) (fun i j=>(((view ws ids bs)[i]?).bind fun x=>(dM true x)[j]?).getD .undef) hb rfl (by rw[List.length_map,jl ok]) g6 (by rw[Nat.zero_add,wy ok.len];exact Nat.le_refl _) (fun i row row' h1 h2=> ?_) (fun i j row a hi h1 h2=> ?_) (fun i j row' c h1 h2=> ?_)
 ·rw[Nat.zero_add] at h1
  obtain⟨x,id,hx,bj,rfl⟩:=vi h1
  rw[List.getElem?_map,xV hx bj] at h2
  cases h2;rfl
 ·rw[Nat.zero_add] at h1
  obtain⟨x,id,hx,bj,rfl⟩:=vi h1
  rw[xV hx bj]
  have bf:=ok.lt i id bj
  have hm:bs.getD id []∈bs:=by rw[List.getD_eq_getElem?_getD,List.getElem?_eq_getElem bf];exact List.getElem_mem bf
  show gH H a (((some ({x with ac:=bs.getD id []}:ad)).bind fun x=>(dM true x)[j]?).getD .undef)
  match j,h2 with
  | 0,h2=>cases h2;exact .int _ _
  | 1,h2=>cases h2;exact .int _ _
  | 2,h2=>
   cases h2
   exact rm (eT:=aY) (eF:=aY) (sz:=1) (ok.ac i id x hx bj) (hf id _ (sQ bf)) v0 ⟨Bp _ hm,rfl⟩
  | 3,h2=>cases h2;exact .bool _
  | 4,h2=>cases h2;exact .int _ _
  | j+5,h2=>simp[ki] at h2
 ·rw[List.getElem?_map] at h1
  cases hv:(view ws ids bs)[i]? with
  | none=>rw[hv] at h1;cases h1
  | some x=>
   rw[hv] at h1;cases h1
   show c=kw (((some x).bind fun x=>(dM true x)[j]?).getD .undef)
   match j,h2 with
   | 0,h2=>cases h2;rfl
   | 1,h2=>cases h2;rfl
   | 2,h2=>cases h2;rfl
   | 3,h2=>cases h2;rfl
   | 4,h2=>cases h2;rfl
   | j+5,h2=>simp[dM] at h2
theorem Weak.w9 [cM] (sz:Nat) {T:List AV} {L:List (Nat×List AV)} {H:List Blk}:Weak ⟨T,L,H⟩ ⟨T,L,H++[⟨0,sz,[]⟩]⟩:=fun cz E tmps g s=>by
 obtain⟨E',hw,bi,h1,h2,_⟩:=Cj (blk:=⟨0,sz,[]⟩) s.h s.l rfl rfl
 exact⟨E',hw,g.step bi,h1,h2,fun t=>(s.iA t).le bi.le,s.size⟩
theorem Weak.clear [cM] (j:Nat) {g sz:Nat} {rows:List (List AV)} {T:List AV} {L:List (Nat×List AV)} {H:List Blk} (aM:H[j]?=some ⟨g,sz,rows⟩):Weak ⟨T,L,H⟩ ⟨T,L,H.set j ⟨g,sz,[]⟩⟩:=fun cz E tmps W7 s=>by
 have oY:=(List.getElem?_eq_some_iff.1 aM).1
 have get: ∀(b:Nat) (blk:Blk),(H.set j ⟨g,sz,[]⟩)[b]?=some blk→(b=j∧blk=⟨g,sz,[]⟩)∨(b≠j∧H[b]?=some blk):=fun b blk h=>by
  rw[List.getElem?_set] at h
  split at h
  ·rename_i e;subst e;exact .inl ⟨rfl,(Option.some.inj h).symm⟩
  ·rename_i e;exact .inr ⟨fun h=>e h.symm,h⟩
 have hG:SimH E H:=s.h
 refine⟨E,rfl,W7,{hG with
  heap:=fun b c hb=> ?_,fg:=fun b blk hb=> ?_,hE:=fun b hb=> ?_,fresh:=fun b hb=>hG.fresh b (by simpa using hb)},s.l,s.iA,s.size⟩
 ·obtain⟨blk,ba,ty,q1,dS,q2,q3,q4,cR⟩:=hG.heap b c hb
  by_cases e:b=j
  ·subst e
   rw[aM] at q1
   obtain rfl:=Option.some.inj q1
   exact⟨⟨g,sz,[]⟩,ba,ty,by rw[List.getElem?_set];simp[oY],dS,q2,q3,Nat.zero_le _,fun i row h=>by simp at h,fun i j row a h=>by simp at h⟩
  ·exact⟨blk,ba,ty,by rw[List.getElem?_set,if_neg (fun h=>e h.symm)];exact q1,dS,q2,q3,q4,cR⟩
 ·rcases get b blk hb with⟨rfl,rfl⟩ | ⟨_,hb⟩
  ·exact(hG.fg b _ aM:)
  ·exact hG.fg b blk hb
 ·obtain⟨blk,q1,dS⟩:=hG.hE b hb
  by_cases e:b=j
  ·subst e
   rw[aM] at q1
   obtain rfl:=Option.some.inj q1
   exact⟨⟨g,sz,[]⟩,by rw[List.getElem?_set];simp[oY],dS⟩
  ·exact⟨blk,by rw[List.getElem?_set,if_neg (fun h=>e h.symm)];exact q1,dS⟩
theorem Qt (H:List Blk):H.map (lh 0)=H:=by
 have aU: ∀a:AV,iP 0 a=a:=fun a=>by cases a<;>simp[iP]
 have:lh 0=id:=by
  funext b
  obtain⟨g,s,rows⟩:=b
  show(⟨g,s,rows.map fun row=>row.map (iP 0)⟩:Blk)=⟨g,s,rows⟩
  congr 1
  have:(fun row:List AV=>row.map (iP 0))=id:=by funext row;rw[show iP 0=id from funext aU];simp
  rw[this];simp
 rw[this];simp
theorem Cs {bw aT a1 s:Nat} {av:List Bool} {jt:List a_} {ws:List ad} {ids:List Nat} {bs:List (List Bool)}:ti (⟨bw,1,List.map aY av⟩::⟨aT,2,List.map a7 jt⟩::⟨a1,5,a0 s ws ids⟩::List.map bm bs)=true:=by
 refine q5 (fun _=>rfl) (q5 (fun _=>rfl) ?_)
 unfold ti
 rw[List.all_eq_true]
 intro b hb
 rw[List.all_eq_true]
 intro row aK
 rcases List.mem_cons.1 hb with rfl | hb
 ·obtain⟨i,hi⟩:=List.mem_iff_getElem?.1 aK
  obtain⟨x,id,_,_,rfl⟩:=vi hi
  rfl
 ·obtain⟨b,_,rfl⟩:=List.mem_map.1 hb
  obtain⟨x,_,rfl⟩:=List.mem_map.1 aK
  rfl
def vn (j:Nat):Option Nat:=if j<3 then some j else some (j+1)
theorem O4 {r:AV} {bw aT a1 bT gp oC n2:Nat} {f0 f1 f2:Bool} {R:Frame} {ok:Bool} {av:List Bool} {jt:List a_} {ws:List ad} {ids:List Nat} {bs:List (List Bool)} {rows:List (List AV)}
  (h:ok=R.ok∧av=R.av∧jt=R.au∧ws=R.O∧ids=List.range ws.length∧bs=ws.map ad.ac) (aU:gp=av.length) (h1:oC=jt.length) (h2:n2=ws.length) (aK:r= .agg [.bool ok,.ref 0 bw 0 gp f0,.ref 1 aT 0 oC f1,.ref 2 a1 0 n2 f2]):
  ∃dy,tP (⟨bw,1,List.map aY av⟩::⟨aT,2,List.map a7 jt⟩::⟨a1,5,a0 4 ws ids⟩::⟨bT,5,rows⟩::List.map bm bs)
   (⟨0,1,List.map aY R.av⟩::⟨0,2,List.map a7 R.au⟩::⟨0,5,a0 3 R.O (List.range R.O.length)⟩::List.map bm (List.map ad.ac R.O)) dy∧
   JL (⟨bw,1,List.map aY av⟩::⟨aT,2,List.map a7 jt⟩::⟨a1,5,a0 4 ws ids⟩::⟨bT,5,rows⟩::List.map bm bs)
    (⟨0,1,List.map aY R.av⟩::⟨0,2,List.map a7 R.au⟩::⟨0,5,a0 3 R.O (List.range R.O.length)⟩::List.map bm (List.map ad.ac R.O)).length dy r
    (.agg [.bool R.ok,.ref 0 0 0 R.av.length false,.ref 1 0 0 R.au.length false,.ref 2 0 0 R.O.length false]):=by
 obtain⟨rfl,rfl,rfl,rfl,rfl,rfl⟩:=h
 subst aU;subst h1;subst h2;subst aK
 have hlen:(⟨0,1,List.map aY R.av⟩::⟨0,2,List.map a7 R.au⟩::⟨0,5,a0 3 R.O (List.range R.O.length)⟩::List.map bm (List.map ad.ac R.O):List Blk).length=R.O.length+3:=by simp
 refine⟨vn,⟨fun i j b hi aM h1 h2=> ?_,fun j k hk=> ?_,fun j b k hk hs=> ?_⟩,.inl ⟨_,_,rfl,rfl,?_⟩⟩
 ·unfold vn at h1 h2
  split at h1<;>split at h2<;>simp at h1 h2<;>omega
 ·match j,hk with
  | 0,hk=>simp at hk;subst hk;rfl
  | 1,hk=>simp at hk;subst hk;rfl
  | 2,hk=>simp at hk;subst hk;rfl
  | j+3,hk=>simp at hk;obtain⟨x,_,rfl⟩:=hk;rfl
 ·rw[hlen]
  match j,hk,hs with
  | 0,hk,hs=>
   simp at hk;subst hk
   obtain rfl:0=b:=by simpa[vn] using hs
   exact rf (b:=0) rfl zv rfl
  | 1,hk,hs=>
   simp at hk;subst hk
   obtain rfl:1=b:=by simpa[vn] using hs
   exact rf (b:=1) rfl Hk rfl
  | 2,hk,hs=>
   simp at hk;subst hk
   obtain rfl:2=b:=by simpa[vn] using hs
   refine⟨_,rfl,rfl,⟨by rw[wy (by simp),wy (by simp)],fun i aho eI a4 hb=> ?_⟩⟩
   obtain⟨x,id,hx,bj,rfl⟩:=vi a4
   obtain⟨lm,gA,jI,pK,rfl⟩:=vi hb
   rw[hx] at jI;cases jI
   rw[bj] at pK;cases pK
   have wH:i<R.O.length:=(List.getElem?_eq_some_iff.1 hx).1
   obtain rfl:i=id:=by rw[List.getElem?_range wH] at bj;exact Option.some.inj bj
   refine .cons (.int _ _) (.cons (.int _ _) (.cons ?_ (.cons (.bool _) (.cons (.int _ _) .nil))))
   refine jB.ref (blk:=bm x.ac) (by omega) (by simp[vn]) ?_ rfl
   show(List.map bm (List.map ad.ac R.O))[i]?=_
   rw[List.getElem?_map,List.getElem?_map,hx];rfl
  | j+3,hk,hs=>
   obtain rfl:j+4=b:=by
    unfold vn at hs
    rw[if_neg (by omega)] at hs;exact Option.some.inj hs
   have hk:(List.map bm (List.map ad.ac R.O))[j]?=some k:=by simpa using hk
   have: ∃x,k=bm x:=by
    rw[List.getElem?_map] at hk
    cases aj:(List.map ad.ac R.O)[j]? with
    | none=>rw[aj] at hk;cases hk
    | some x=>rw[aj] at hk;cases hk;exact⟨x,rfl⟩
   obtain⟨x,rfl⟩:=this
   have hb:(⟨bw,1,List.map aY R.av⟩::⟨aT,2,List.map a7 R.au⟩::⟨a1,5,a0 4 R.O (List.range R.O.length)⟩::⟨bT,5,rows⟩::List.map bm (List.map ad.ac R.O):List Blk)[j+4]?=some ⟨0,1,List.map aY x⟩:=hk
   exact rf (b:=j+4) hb zv rfl
 ·rw[hlen]
  exact .cons (.bool _) (.cons (.ref (by omega) rfl rfl rfl) (.cons (.ref (by omega) rfl rfl rfl) (.cons (.ref (by omega) rfl rfl rfl) .nil)))
theorem adp {k s:Nat} {ws:List ad} {ids:List Nat}:(a0 s ws ids).map (fun row=>row.map (iP k))=a0 (s+k) ws ids:=by
 apply List.ext_getElem?
 intro i
 unfold a0
 rw[List.getElem?_map,List.getElem?_zipWith,List.getElem?_zipWith]
 cases ws[i]? with
 | none=>rfl
 | some h=>
  cases ids[i]? with
  | none=>rfl
  | some id=>
   show some [_,_,AV.ref (k+(id+s)) 0 0 h.ac.length false,_,_]=some [_,_,AV.ref (id+(s+k)) 0 0 h.ac.length false,_,_]
   rw[show k+(id+s)=id+(s+k) by omega];rfl
theorem ado {k:Nat} {bs:List (List Bool)}:(List.map bm bs).map (lh k)=List.map bm bs:=by
 rw[List.map_map]
 refine List.map_congr_left fun b _=> ?_
 show(⟨0,1,(List.map aY b).map fun row=>row.map (iP k)⟩:Blk)=⟨0,1,_⟩
 rw[List.map_map]
 congr 1
theorem Qu {k bw aT a1 s:Nat} {av:List Bool} {jt:List a_} {ws:List ad} {ids:List Nat} {bs:List (List Bool)}:
  (⟨bw,1,List.map aY av⟩::⟨aT,2,List.map a7 jt⟩::⟨a1,5,a0 s ws ids⟩::List.map bm bs:List Blk).map (lh k)=⟨bw,1,List.map aY av⟩::⟨aT,2,List.map a7 jt⟩::⟨a1,5,a0 (s+k) ws ids⟩::List.map bm bs:=by
 refine rk (fun _=>rfl) (rk (fun _=>rfl) ?_)
 show(⟨a1,5,(a0 s ws ids).map fun row=>row.map (iP k)⟩:Blk)::(List.map bm bs).map (lh k)=_
 rw[adp,ado]
structure gy (ws:List ad) (ids:List Nat) (bs:List (List Bool)):Prop where
 ok:ke ws ids bs
 kQ: ∀i j k:Nat,ids[i]?=some k→ids[j]?=some k→i=j
 len: ∀b∈bs,b.length≤1048576
theorem rM {bs:List (List Bool)} {b:List Bool}:List.map bm bs++[⟨0,1,List.map aY b⟩]=List.map bm (bs++[b]):=by rw[List.map_append];rfl
section
variable {P:Program} {esc:List Nat} {ops:Array Oper} {n:Nat} {X:List Oper} {i0:Nat} {A:List (Nat×AV)} {L:List (Nat×List AV)} {H:List Blk} {K:List (Nat×AV)→List (Nat×List AV)→List Blk→Prop}
theorem iO (a5:Nat) (d:Option Nat) (N:List (Nat×AV)) (rows:List (List AV)) {row:List AV} (i:Int) (t:TypeId) (c g:Nat) (v:AV) (eX:rows[i.toNat]?=some row) (h:evS P esc ops n (X.drop (i0+a5)) (di d v N A) L H K)
  (e2: ∀K,jA P t row c K=K v:=by intro K;kernel_rfl)
  (e: ∀K,evS P esc ops n ((X.drop i0).take a5) A L H K=(g=g∧c3 rows[0+i.toNat]? fun row=>jA P t row c fun v=>K (di d v N A) L H):=by intro K;kernel_rfl):evS P esc ops n (X.drop i0) A L H K:=by
 rw[jE X i0 a5,e]
 exact⟨rfl,et (a:=row) (by rw[Nat.zero_add];exact eX) (by rw[e2];exact h)⟩
theorem adf (a5:Nat) (d:Option Nat) (N:List (Nat×AV)) (rows:List (List AV)) {row row':List AV} (i:Int) (c k g:Nat) (cells:List AV) (H':List (List AV)→List Blk) (iN:List (List AV)) (eX:rows[i.toNat]?=some row) (k6:rows.set i.toNat row'=iN)
  (h:evS P esc ops n (X.drop (i0+a5)) (di d (.tup []) N A) L (H' iN) K) (hc:Nat.ble (c+k) row.length=true:=by kernel_rfl) (hs:fl row c cells=row':=by kernel_rfl)
  (e: ∀K,evS P esc ops n ((X.drop i0).take a5) A L H K=(g=g∧c3 rows[0+i.toNat]? fun row=>c+k≤row.length∧K (di d (.tup []) N A) L (H' (rows.set (0+i.toNat) (fl row c cells)))):=by intro K;kernel_rfl):evS P esc ops n (X.drop i0) A L H K:=by
 rw[jE X i0 a5,e]
 refine⟨rfl,et (a:=row) (by rw[Nat.zero_add];exact eX) ⟨Nat.le_of_ble_eq_true hc,?_⟩⟩
 ·rw[hs,Nat.zero_add,k6];exact h
theorem j8 (a5:Nat) (d:Option Nat) (N:List (Nat×AV)) (rows:List (List AV)) {row row':List AV} (i:Int) (c k g:Nat) (cells:List AV) (j:Nat) (iN:List (List AV)) (eX:rows[i.toNat]?=some row) (k6:rows.set i.toNat row'=iN)
  (h:evS P esc ops n (X.drop (i0+a5)) (di d (.tup []) N A) L (ie j iN H) K) (hc:Nat.ble (c+k) row.length=true:=by kernel_rfl) (hs:fl row c cells=row':=by kernel_rfl)
  (e: ∀K,evS P esc ops n ((X.drop i0).take a5) A L H K=(g=g∧c3 rows[0+i.toNat]? fun row=>c+k≤row.length∧K (di d (.tup []) N A) L (ie j (rows.set (0+i.toNat) (fl row c cells)) H)):=by intro K;kernel_rfl):evS P esc ops n (X.drop i0) A L H K:=adf a5 d N rows i c k g cells (fun r=>ie j r H) iN eX k6 h hc hs e
theorem ac9 (a5:Nat) (d:Option Nat) (N:List (Nat×AV)) (bs:List (List Bool)) (id s:Nat) {i:Int} {m:Nat} (gR:id<bs.length) (aU:0≤i∧i.toNat<m) (h:evS P esc ops n (X.drop (i0+a5)) (di d (.ptr (id+s) 0 (0+i.toNat) 0) N A) L H K)
  (e: ∀K,evS P esc ops n ((X.drop i0).take a5) A L H K=(c3 (List.map bm bs)[id]? fun blk=>blk.bF=0∧blk.sz=1∧0≤i∧i<m∧K (di d (.ptr (id+s) 0 (0+i.toNat) 0) N A) L H):=by intro K;kernel_rfl):evS P esc ops n (X.drop i0) A L H K:=by
 rw[jE X i0 a5,e]
 exact et (sQ gR) ⟨rfl,rfl,aU.1,by have:=aU.2;omega,h⟩
theorem ade (a5:Nat) (d:Option Nat) (N:List (Nat×AV)) (bs:List (List Bool)) (id:Nat) (i:Int) (x:Bool) (H':List Blk→List Blk) (gR:id<bs.length) (hi:i.toNat<(bs.getD id []).length)
  (h:evS P esc ops n (X.drop (i0+a5)) (di d (.tup []) N A) L (H' (List.map bm (bs.set id ((bs.getD id []).set i.toNat x)))) K)
  (e: ∀K,evS P esc ops n ((X.drop i0).take a5) A L H K=(c3 (List.map bm bs)[id]? fun blk=>blk.bF=0∧c3 blk.rows[0+i.toNat]? fun row=>0+1≤row.length∧K (di d (.tup []) N A) L (H' ((List.map bm bs).set id {blk with rows:=blk.rows.set (0+i.toNat) (fl row 0 [.bool x])}))):=by intro K;kernel_rfl):evS P esc ops n (X.drop i0) A L H K:=by
 rw[jE X i0 a5,e]
 have key:(List.map bm bs).set id {bm (bs.getD id []) with rows:=(bm (bs.getD id [])).rows.set (0+i.toNat) (fl (aY (nth (bs.getD id []) i)) 0 [.bool x])}=List.map bm (bs.set id ((bs.getD id []).set i.toNat x)):=by
  rw[←EG]
  congr 1
  show(⟨0,1,(List.map aY (bs.getD id [])).set (0+i.toNat) (aY x)⟩:Blk)=⟨0,1,_⟩
  rw[Nat.zero_add,DJ]
 refine et (sQ gR) ⟨rfl,et (a:=aY (nth (bs.getD id []) i)) (by rw[Nat.zero_add];exact ym hi) ⟨Nat.le_refl _,?_⟩⟩
 ·rw[key];exact h
theorem Qj (a5:Nat) (N:List (Nat×AV)) (H':List Blk) {φ ψ:Prop} (h1:φ) (h2:ψ) (h:evS P esc ops n (X.drop (i0+a5)) (gL N A) L H' K) (e: ∀K,evS P esc ops n ((X.drop i0).take a5) A L H K=(φ∧ψ∧K (gL N A) L H'):=by intro K;kernel_rfl):evS P esc ops n (X.drop i0) A L H K:=by
 rw[jE X i0 a5,e];exact⟨h1,h2,h⟩
theorem Qi (H':List Blk) (aV:H=H') (h:evS P esc ops n (X.drop i0) A L H' K):evS P esc ops n (X.drop i0) A L H K:=by
 subst aV;exact h
theorem tx (a5:Nat) (d:Option Nat) (N:List (Nat×AV)) {g:FuncId} (args:List AV) (Q:AV→List Blk→Prop) (hf:dI P g args H Q) (aK: ∀r H',Q r H'→xc r=true) (h: ∀r H',Q r H'→evS P esc ops n (X.drop (i0+a5)) (di d r N A) L H' K)
  (aF:args.all e6=true:=by kernel_rfl) (aL:args.all j5=true:=by kernel_rfl) (e: ∀K,evS P esc ops n ((X.drop i0).take a5) A L H K=(lu P g args L H (fun v L' H'=>K (di d v N A) L' H')):=by intro K;kernel_rfl):evS P esc ops n (X.drop i0) A L H K:=by
 rw[jE X i0 a5,e]
 exact .inr (.inr (.inl ⟨aF,aL,hf.mono fun r H' aj=>⟨aK r H' aj,h r H' aj⟩⟩))
theorem ada (a5:Nat) (d:Option Nat) (N:List (Nat×AV)) {i:Int} (B:Int) (z:List AV) (m:Nat) (kX:List Blk) (aU:0≤i∧B*i≤140737488355328∧i≤4611686018427387904) (aL:H.length=m) (hx:H++[⟨0,1,List.map aY (List.replicate i.toNat false)⟩]=kX)
  (h:evS P esc ops n (X.drop (i0+a5)) (di d (.ref m 0 0 (List.replicate i.toNat false).length false) N A) L kX K) (aO:z=aY false:=by rfl)
  (e: ∀K,evS P esc ops n ((X.drop i0).take a5) A L H K=(0≤i∧i≤i∧B*i≤140737488355328∧i≤4611686018427387904∧K (di d (.ref H.length 0 0 i.toNat false) N A) L (H++[⟨0,1,List.replicate i.toNat z⟩])):=by intro K;kernel_rfl):evS P esc ops n (X.drop i0) A L H K:=by
 rw[jE X i0 a5,e]
 subst aL;subst hx;subst aO
 rw[List.length_replicate,List.map_replicate] at h
 exact⟨aU.1,Int.le_refl _,aU.2.1,aU.2.2,h⟩
theorem ac_ (a5:Nat) (d:Option Nat) (N:List (Nat×AV)) (ys:List Bool) (B:Nat) (m:Nat) (kX:List Blk) (aU:ys.length*B≤140737488355328∧ys.length≤4611686018427387904) (aL:H.length=m) (hx:H++[⟨0,1,List.map aY ys⟩]=kX)
  (h:evS P esc ops n (X.drop (i0+a5)) (di d (.ref m 0 0 ys.length false) N A) L kX K)
  (e: ∀K,evS P esc ops n ((X.drop i0).take a5) A L H K=(true=true∧true=true∧re 1 (List.map aY ys)∧true=true∧(∀row∈([]:List (List AV)),row.length=1)∧(List.length (α:=List AV) []+(List.map aY ys).length)*B≤140737488355328∧List.length (α:=List AV) []+(List.map aY ys).length≤4611686018427387904∧(([]:List (List AV))≠[]→(List.map aY ys)≠[])∧
   K (di d (.ref H.length 0 0 (List.length (α:=List AV) []+(List.map aY ys).length) false) N A) L (H++[⟨0,1,[]++(List.map aY ys)⟩])):=by intro K;kernel_rfl):evS P esc ops n (X.drop i0) A L H K:=by
 rw[jE X i0 a5,e]
 subst aL;subst hx
 refine⟨rfl,rfl,CU (enc:=aY) (fun _=>⟨rfl,rfl⟩) ys,rfl,(fun row h=>by cases h),by simpa using aU.1,by simpa using aU.2,(fun h=>absurd rfl h),?_⟩
 simpa using h
theorem Qg (a5:Nat) (d:Option Nat) (N:List (Nat×AV)) (s b g q B:Nat) (ws:List ad) (ids:List Nat) (x:ad) (id:Nat) (H':List (List AV)→List Blk) (aL:ws.length=ids.length)
  (aU:(ws.length+1)*B≤140737488355328∧ws.length+1≤4611686018427387904) (h:evS P esc ops n (X.drop (i0+a5)) (di d (.ref b (g+1) 0 (ws++[x]).length false) N A) L (H' (a0 s (ws++[x]) (ids++[id]))) K)
  (e: ∀K,evS P esc ops n ((X.drop i0).take a5) A L H K=(true=true∧true=true∧(q=q∧0+1≤1∧(re 5 [ki s x id]∧0=0∧g=g∧5=5∧(a0 s ws ids).length=ws.length∧(ws.length+1)*B≤140737488355328∧ws.length+1≤4611686018427387904∧
   K (di d (.ref b (g+1) 0 (ws.length+1) false) N A) L (H' (a0 s ws ids++[ki s x id]))))):=by intro K;kernel_rfl):evS P esc ops n (X.drop i0) A L H K:=by
 rw[jE X i0 a5,e]
 refine⟨rfl,rfl,rfl,Nat.le_refl _,?_,rfl,rfl,rfl,wy aL,aU.1,aU.2,?_⟩
 ·intro row aK
  rw[List.mem_singleton.1 aK]
  exact⟨rfl,fun a a4=>List.all_eq_true.1 (show(ki s x id).all ji=true from rfl) a a4⟩
 ·rw[E5 aL];rw[List.length_append] at h;exact h
end
section
variable {P:Program} {esc:List Nat} {ops:Array Oper} {n:Nat} {X:List Item} {i0:Nat} {A:List (Nat×AV)} {L:List (Nat×List AV)} {H:List Blk} {K:List (Nat×AV)→List (Nat×List AV)→List Blk→Prop}
theorem nS (a5:Nat) (d:Option Nat) (N:List (Nat×AV)) (rows:List (List AV)) {row:List AV} (i:Int) (t:TypeId) (c g:Nat) (v:AV) (eX:rows[i.toNat]?=some row) (h:evSD P esc ops n (X.drop (i0+a5)) (di d v N A) L H K)
  (e2: ∀K,jA P t row c K=K v:=by intro K;kernel_rfl)
  (e: ∀K,evSD P esc ops n ((X.drop i0).take a5) A L H K=(g=g∧c3 rows[0+i.toNat]? fun row=>jA P t row c fun v=>K (di d v N A) L H):=by intro K;kernel_rfl):evSD P esc ops n (X.drop i0) A L H K:=by
 rw[ly X i0 a5,e]
 exact⟨rfl,et (a:=row) (by rw[Nat.zero_add];exact eX) (by rw[e2];exact h)⟩
theorem SZ (a5:Nat) (d:Option Nat) (N:List (Nat×AV)) (rows:List (List AV)) {row row':List AV} (i:Int) (c k g:Nat) (cells:List AV) (F:List (List AV)→Prop) (H':List (List AV)→List Blk) (iN:List (List AV)) (eX:rows[i.toNat]?=some row) (k6:rows.set i.toNat row'=iN)
  (dc:F (iN)) (h:evSD P esc ops n (X.drop (i0+a5)) (di d (.tup []) N A) L (H' iN) K) (hc:Nat.ble (c+k) row.length=true:=by kernel_rfl) (hs:fl row c cells=row':=by kernel_rfl)
  (e: ∀K,evSD P esc ops n ((X.drop i0).take a5) A L H K=(g=g∧c3 rows[0+i.toNat]? fun row=>c+k≤row.length∧F ((rows.set (0+i.toNat) (fl row c cells)))∧K (di d (.tup []) N A) L (H' (rows.set (0+i.toNat) (fl row c cells)))):=by intro K;kernel_rfl):evSD P esc ops n (X.drop i0) A L H K:=by
 rw[ly X i0 a5,e]
 refine⟨rfl,et (a:=row) (by rw[Nat.zero_add];exact eX) ⟨Nat.le_of_ble_eq_true hc,?_,?_⟩⟩
 ·rw[hs,Nat.zero_add,k6];exact dc
 ·rw[hs,Nat.zero_add,k6];exact h
theorem vx (a5:Nat) (d:Option Nat) (N:List (Nat×AV)) (bs:List (List Bool)) (id s:Nat) {i:Int} {m:Nat} (gR:id<bs.length) (aU:0≤i∧i.toNat<m) (h:evSD P esc ops n (X.drop (i0+a5)) (di d (.ptr (id+s) 0 (0+i.toNat) 0) N A) L H K)
  (e: ∀K,evSD P esc ops n ((X.drop i0).take a5) A L H K=(c3 (List.map bm bs)[id]? fun blk=>blk.bF=0∧blk.sz=1∧0≤i∧i<m∧K (di d (.ptr (id+s) 0 (0+i.toNat) 0) N A) L H):=by intro K;kernel_rfl):evSD P esc ops n (X.drop i0) A L H K:=by
 rw[ly X i0 a5,e]
 exact et (sQ gR) ⟨rfl,rfl,aU.1,by have:=aU.2;omega,h⟩
theorem Ab (a5:Nat) (d:Option Nat) (N:List (Nat×AV)) (bs:List (List Bool)) (id:Nat) (i:Int) (t:TypeId) (gR:id<bs.length) (hi:i.toNat<(bs.getD id []).length) (h:evSD P esc ops n (X.drop (i0+a5)) (di d (.bool (nth (bs.getD id []) i)) N A) L H K)
  (e2: ∀x K,jA P t (aY x) 0 K=K (.bool x):=by intro x K;kernel_rfl)
  (e: ∀K,evSD P esc ops n ((X.drop i0).take a5) A L H K=(c3 (List.map bm bs)[id]? fun blk=>blk.bF=0∧c3 blk.rows[0+i.toNat]? fun row=>jA P t row 0 fun v=>K (di d v N A) L H):=by intro K;kernel_rfl):evSD P esc ops n (X.drop i0) A L H K:=by
 rw[ly X i0 a5,e]
 refine et (sQ gR) ⟨rfl,et (a:=aY (nth (bs.getD id []) i)) (by rw[Nat.zero_add];exact ym hi) (by rw[e2];exact h)⟩
theorem SY (a5:Nat) (d:Option Nat) (N:List (Nat×AV)) (bs:List (List Bool)) (id:Nat) (i:Int) (x:Bool) (F:List Blk→Prop) (H':List Blk→List Blk) (gR:id<bs.length) (hi:i.toNat<(bs.getD id []).length)
  (dc:F ((List.map bm (bs.set id ((bs.getD id []).set i.toNat x))))) (h:evSD P esc ops n (X.drop (i0+a5)) (di d (.tup []) N A) L (H' (List.map bm (bs.set id ((bs.getD id []).set i.toNat x)))) K)
  (e: ∀K,evSD P esc ops n ((X.drop i0).take a5) A L H K=(c3 (List.map bm bs)[id]? fun blk=>blk.bF=0∧c3 blk.rows[0+i.toNat]? fun row=>0+1≤row.length∧F (((List.map bm bs).set id {blk with rows:=blk.rows.set (0+i.toNat) (fl row 0 [.bool x])}))∧K (di d (.tup []) N A) L (H' ((List.map bm bs).set id {blk with rows:=blk.rows.set (0+i.toNat) (fl row 0 [.bool x])}))):=by intro K;kernel_rfl):evSD P esc ops n (X.drop i0) A L H K:=by
 rw[ly X i0 a5,e]
 have key:(List.map bm bs).set id {bm (bs.getD id []) with rows:=(bm (bs.getD id [])).rows.set (0+i.toNat) (fl (aY (nth (bs.getD id []) i)) 0 [.bool x])}=List.map bm (bs.set id ((bs.getD id []).set i.toNat x)):=by
  rw[←EG]
  congr 1
  show(⟨0,1,(List.map aY (bs.getD id [])).set (0+i.toNat) (aY x)⟩:Blk)=⟨0,1,_⟩
  rw[Nat.zero_add,DJ]
 refine et (sQ gR) ⟨rfl,et (a:=aY (nth (bs.getD id []) i)) (by rw[Nat.zero_add];exact ym hi) ⟨Nat.le_refl _,?_,?_⟩⟩
 ·rw[key];exact dc
 ·rw[key];exact h
theorem SW (a5:Nat) (d:Option Nat) (N:List (Nat×AV)) (s b g q B:Nat) (ws:List ad) (ids:List Nat) (x:ad) (id:Nat) (F:List (List AV)→Prop) (H':List (List AV)→List Blk) (aL:ws.length=ids.length)
  (aU:(ws.length+1)*B≤140737488355328∧ws.length+1≤4611686018427387904) (dc:F ((a0 s (ws++[x]) (ids++[id])))) (h:evSD P esc ops n (X.drop (i0+a5)) (di d (.ref b (g+1) 0 (ws++[x]).length false) N A) L (H' (a0 s (ws++[x]) (ids++[id]))) K)
  (e: ∀K,evSD P esc ops n ((X.drop i0).take a5) A L H K=(true=true∧true=true∧(q=q∧0+1≤1∧(re 5 [ki s x id]∧0=0∧g=g∧5=5∧(a0 s ws ids).length=ws.length∧(ws.length+1)*B≤140737488355328∧ws.length+1≤4611686018427387904∧
   F ((a0 s ws ids++[ki s x id]))∧K (di d (.ref b (g+1) 0 (ws.length+1) false) N A) L (H' (a0 s ws ids++[ki s x id]))))):=by intro K;kernel_rfl):evSD P esc ops n (X.drop i0) A L H K:=by
 rw[ly X i0 a5,e]
 refine⟨rfl,rfl,rfl,Nat.le_refl _,?_,rfl,rfl,rfl,wy aL,aU.1,aU.2,?_,?_⟩
 ·intro row aK
  rw[List.mem_singleton.1 aK]
  exact⟨rfl,fun a a4=>List.all_eq_true.1 (show(ki s x id).all ji=true from rfl) a a4⟩
 ·rw[E5 aL];exact dc
 ·rw[E5 aL];rw[List.length_append] at h;exact h
end
theorem adl {H:List Blk} {b j:Nat} {x y:Blk} (h:(H.set b x)[j]?=some y):(j=b∧y=x)∨(j≠b∧H[j]?=some y):=by
 rw[List.getElem?_set] at h
 split at h
 ·rename_i e;subst e
  split at h
  ·cases h;exact .inl ⟨rfl,rfl⟩
  ·cases h
 ·rename_i e;exact .inr ⟨fun h=>e h.symm,h⟩
theorem Lk [iW:cM] {cz E:Env} {H:List Blk} {L:List (Nat×List AV)} (g:Good cz E) (aV:SimH E H) (b3:SimL E L) {b m2 sz:Nat} {rows:List (List AV)} (hb:H[b]?=some ⟨m2,sz,rows⟩) (gm:iW.n≤b)
  (hk: ∀row∈rows,∀a∈row,jD a=true∧od a=true) (g6:rows.length≤4611686018427387904):
  ∃E',E'.w=E.w∧Good cz E'∧SimH E' (H.set b ⟨m2+1,sz,[]⟩)∧SimL E' L∧E.gN E'∧E'.mL=E.mL∧ ∀v full,fv E (.ref b m2 0 rows.length full) v→bH E'.w E'.PA E'.PF (.bD (rows.map fun row=>row.map kw) false true) v:=by
 have kk:E.bF b=m2:=aV.fg b _ hb
 have qG:=(List.getElem?_eq_some_iff.1 hb).1
 let E':Env:={E with PA:=fun c=>E.PA c∨E.m b=some (some c),PF:=fun c=>E.PF c∨E.m b=some (some c),m:=fun j=>if j=b then none else E.m j,bF:=fun j=>if j=b then m2+1 else E.bF j}
 have hm: ∀{j:Nat} {x:Option Nat},E'.m j=some x→j≠b∧E.m j=some x:=fun{j x} h=>by
  have h:(if j=b then none else E.m j)=some x:=h
  split at h
  ·cases h
  ·rename_i e;exact⟨e,h⟩
 have hg: ∀{j:Nat},j≠b→E'.bF j=E.bF j:=fun{j} h=>if_neg h
 have hle:E.gN E':=⟨fun _ h=> .inl h,fun _ h=> .inl h,fun _ _=>rfl,fun _ _=>rfl,fun j=>by
   show E.bF j≤(if j=b then m2+1 else E.bF j)
   split
   ·rename_i e;subst e;omega
   ·exact Nat.le_refl _,fun j x hx qJ=>by
   have qJ:(if j=b then m2+1 else E.bF j)=E.bF j:=qJ
   have cm:j≠b:=fun e=>by subst e;rw[if_pos rfl] at qJ;omega
   exact⟨by show(if j=b then none else E.m j)=_;rw[if_neg cm];exact hx,rfl,rfl⟩,fun _ _ h=>h⟩
 have dx: ∀c,E.m b=some (some c)→cz.w.heap.size≤c:=fun c hc=>(g.jq b c hc).elim (fun h=>by rw[(g.zs b gm).1] at h;cases h) id
 have km:=aV.gB
 refine⟨E',rfl,?_,?_,?_,hle,rfl,?_⟩
 ·exact{g with
   le:=g.le.trans hle
   jq:=fun j c h=>g.jq j c (hm h).2
   jJ:=g.jJ
   fL:=fun c hc=>hc.elim (g.fL c) fun h=> .inr (dx c h)
   fM:=fun c hc=>hc.elim (g.fM c) fun h=> .inr (dx c h)}
 ·exact{aV with
   heap:=fun j c h=>by
    obtain⟨cm,h⟩:=hm h
    obtain⟨blk,ba,ty,q1,dS,q2,q3,q4,cR,c4⟩:=aV.heap j c h
    refine⟨blk,ba,ty,by rw[List.getElem?_set,if_neg (fun e=>cm e.symm)];exact q1,dS,q2,q3,q4,cR,fun i k row a h1 h2=> ?_⟩
    obtain⟨u,hu,aK⟩:=c4 i k row a h1 h2
    exact⟨u,hu,aK.le hle.b_⟩
   fg:=fun j blk h=>by
    rcases adl h with⟨rfl,rfl⟩ | ⟨cm,h⟩
    ·exact if_pos rfl
    ·rw[hg cm];exact aV.fg j blk h
   hE:=fun j h=>by
    obtain⟨cm,h⟩:=hm h
    obtain⟨blk,q1,q2⟩:=aV.hE j h
    exact⟨blk,by rw[List.getElem?_set,if_neg (fun e=>cm e.symm)];exact q1,q2⟩
   fresh:=fun j h=>by
    rw[List.length_set] at h
    have:=aV.fresh j h
    have cm:j≠b:=by omega
    exact⟨by show(if j=b then none else E.m j)=none;rw[if_neg cm];exact this.1,by rw[hg cm];exact this.2⟩
   h6:=fun j k c h1 h2=>aV.h6 j k c (hm h1).2 (hm h2).2
   gT:=fun j t c h1 h2=>aV.gT j t c (hm h1).2 h2
   h7:=fun c hc ⟨j,aM⟩=>by
    obtain⟨cm,aM⟩:=hm aM
    rcases hc with hc | hc
    ·exact aV.h7 c hc ⟨j,aM⟩
    ·exact cm (aV.h6 j b c aM hc)
   iw:=fun c hc ⟨t,bu⟩=>by
    rcases hc with hc | hc
    ·exact aV.iw c hc ⟨t,bu⟩
    ·exact aV.gT b t c hc bu
   e0:=fun c hc=>hc.elim (fun h=> .inl (aV.e0 c h)) .inr
   fc:=fun c hc=>hc.elim (aV.fc c) fun h=>km c ⟨b,h⟩
   gB:=fun c ⟨j,aM⟩=>km c ⟨j,(hm aM).2⟩}
 ·intro t c bu
  obtain⟨cells,ba,ty,q1,q2,q3⟩:=b3 t c bu
  exact⟨cells,ba,ty,q1,q2,q3.mono fun _ _ k=>k.le hle.b_⟩
 ·intro v full hv
  rcases hv with⟨bY,_⟩ | ⟨fT,bY⟩
  ·omega
  ·rcases bY with⟨_,_,my,A,rfl⟩ | ⟨c,cap,kG,rfl,o1,mw,qI⟩
   ·obtain rfl:rows=[]:=List.eq_nil_of_length_eq_zero my
    exact bH.bD (rows:=[]) (PB:=fun _=>False) (sz:=0) (vs:=fun _ _=>undef) (fun _ h=>h.elim) ⟨Nat.le_refl _,Nat.zero_le _⟩ (fun _=>rfl) (fun i row h=>by simp at h) (fun h=>by simp at h) (fun i j row a h=>by simp at h)
   ·obtain⟨blk,ba,ty,q1,dS,q2,q3,q4,cR,c4⟩:=aV.heap b c kG
    rw[hb] at q1
    cases q1
    have key:=bH.bD (w:=E.w) (PA:=E'.PA) (PF:=E'.PF) (PB:=E'.PF) (rows:=rows.map fun row=>row.map kw) (full:=false) (fresh:=true) (A:=some ⟨c,0,none⟩) (cap:=cap) (sz:=E.sz b) (vs:=fun i j=>(ba[i*E.sz b+j]?).getD undef)
     (fun c hc=>by simpa using hc) (by rw[List.length_map];exact⟨o1,g6⟩) (fun h=>by cases h) (fun i row' aK=> ?_) (fun lD=>⟨c,0,rfl,.inr kG,fun i j hi aM=> ?_⟩) (fun i j row' io aK aM=> ?_)
    ·rw[List.length_map] at key
     show bH E.w E'.PA E'.PF _ (.slice (some ⟨c,0*E.sz b,none⟩) rows.length cap)
     rw[Nat.zero_mul];exact key
    ·rw[List.getElem?_map] at aK
     cases aj:rows[i]? with
     | none=>simp[aj] at aK
     | some row=>simp[aj] at aK;subst aK;rw[List.length_map];exact cR i row aj
    ·rw[List.length_map] at hi
     have aK:=List.getElem?_eq_getElem hi
     have aL:=cR i _ aK
     obtain⟨u,hu,_⟩:=c4 i j _ _ aK (List.getElem?_eq_getElem (by rw[aL];exact aM))
     rw[Nat.zero_add,cell_of q2 hu,hu];rfl
    ·rw[List.getElem?_map] at aK
     cases aj:rows[i]? with
     | none=>simp[aj] at aK
     | some row=>
      simp[aj] at aK;subst aK
      rw[List.getElem?_map] at aM
      cases kp:row[j]? with
      | none=>simp[kp] at aM
      | some a=>
       simp[kp] at aM;subst aM
       obtain⟨u,hu,g7⟩:=c4 i j row a aj kp
       obtain⟨df,g9⟩:=hk row (List.mem_of_getElem? aj) a (List.mem_of_getElem? kp)
       rw[hu]
       exact(S7 df g9 (AN df g7)).mono (fun _ _=>rfl) (fun _ h=>h.elim) (fun c hc=> .inl hc) (fun _ h=>h)
theorem Weak.W2 [iW:cM] (i:Nat) {T:List AV} {L:List (Nat×List AV)} {H:List Blk} {b m2 sz n:Nat} {full:Bool} {rows:List (List AV)} (cj:T.getD i .undef= .ref b m2 0 n full) (aF:n=rows.length) (hb:H[b]?=some ⟨m2,sz,rows⟩) (gm:iW.n≤b)
  (hk: ∀row∈rows,∀a∈row,jD a=true∧od a=true) (g6:rows.length≤4611686018427387904):Weak ⟨T,L,H⟩ ⟨T.set i (.bD (rows.map fun row=>row.map kw) false true),L,H.set b ⟨m2+1,sz,[]⟩⟩:=fun cz E tmps g s=>by
 subst aF
 obtain⟨E',hw,hg,h1,h2,hle,Mb,hv⟩:=Lk g s.h s.l hb gm hk g6
 refine⟨E',hw,hg,h1,h2,fun t=> ?_,by simpa using s.size⟩
 show V3 E' ((T.set i _).getD t .undef) _
 rw[rP]
 split
 ·rename_i aj
  obtain⟨rfl,_⟩:=aj
  have aU:V3 E (T.getD i .undef) (tmps.getD i undef):=s.iA i
  rw[cj] at aU
  exact hv _ full aU
 ·exact(s.iA t).le hle
theorem Weak.W1 [iW:cM] (t i:Nat) {T:List AV} {L:List (Nat×List AV)} {H:List Blk} {cells:List AV} {b m2 sz n:Nat} {full:Bool} {rows:List (List AV)} (hc:eW L t=some cells) (cj:cells.getD i .undef= .ref b m2 0 n full) (aF:n=rows.length) (hb:H[b]?=some ⟨m2,sz,rows⟩) (gm:iW.n≤b)
  (hk: ∀row∈rows,∀a∈row,jD a=true∧od a=true) (g6:rows.length≤4611686018427387904):Weak ⟨T,L,H⟩ ⟨T,lg L t (cells.set i (.bD (rows.map fun row=>row.map kw) false true)),H.set b ⟨m2+1,sz,[]⟩⟩:=fun cz E tmps g s=>by
 subst aF
 obtain⟨E',hw,hg,h1,h2,hle,Mb,hv⟩:=Lk g s.h s.l hb gm hk g6
 refine⟨E',hw,hg,h1,fun u c hm=> ?_,fun t=>(s.iA t).le hle,s.size⟩
 rw[Mb] at hm
 obtain⟨g3,ba,ty,q1,q2,q3⟩:=s.l u c hm
 show ∃DP ba ty,eW (lg L t _) u=some DP∧_
 rw[yD]
 by_cases hu:u=t
 ·subst hu
  rw[if_pos rfl]
  have zG:eW L u=some g3:=q1
  rw[hc] at zG
  cases zG
  refine⟨_,ba,ty,by rw[hc];rfl,by rw[hw];exact q2,by simpa using q3.1,fun j x v hx kq=> ?_⟩
  rw[List.getElem?_set] at hx
  split at hx
  ·rename_i nB
   subst nB
   split at hx
   ·rename_i bf
    cases hx
    have LU:=List.getElem?_eq_getElem bf
    have he:cells.getD i .undef=cells[i]:=by rw[List.getD_eq_getElem?_getD,LU];rfl
    have k7:=q3.2 i _ v LU kq
    rw[←he,cj] at k7
    exact bH.v1 (E:=E'.b_) (hv v full k7)
   ·cases hx
  ·exact(q3.2 j x v hx kq).le hle.b_
 ·rw[if_neg hu]
  exact⟨g3,ba,ty,q1,by rw[hw];exact q2,q3.mono fun _ _ k=>k.le hle.b_⟩
def zO (n:Nat):AV→Bool
 | .ref b _ _ _ _=>Nat.blt b n
 | .ptr b _ _ _=>Nat.blt b n
 | _=>true
def qa (n:Nat):AV→Bool
 | .fn _ caps=>caps.all (zO n)
 | a=>zO n a
def xB (n:Nat):AV→Bool
 | .agg l=>l.all (qa n)
 | a=>qa n a
def xC (n:Nat):AV→Bool
 | .tup l=>l.all (xB n)
 | a=>xB n a
def Env.cut (E:Env) (n:Nat):Env:={E with m:=fun j=>if j<n then E.m j else none,bF:=fun j=>if j<n then E.bF j else 0}
section
variable {E:Env} {n:Nat}
theorem yq {j:Nat} (h:j<n):(E.cut n).m j=E.m j∧(E.cut n).bF j=E.bF j:=⟨if_pos h,if_pos h⟩
theorem fv.cut {a:AV} {v:Value} (h:zO n a=true) (hv:fv E a v):fv (E.cut n) a v:=by
 cases a with
 | ref b g o m f=>
  have hb:b<n:=by rw[←Nat.blt_eq];exact h
  obtain⟨bA,e2⟩:=yq (E:=E) hb
  have hv:(g<E.bF b∧_)∨(g=E.bF b∧_):=hv
  show(g<(E.cut n).bF b∧_)∨(g=(E.cut n).bF b∧_)
  rw[bA,e2];exact hv
 | ptr b g r c=>
  have hb:b<n:=by rw[←Nat.blt_eq];exact h
  obtain⟨bA,e2⟩:=yq (E:=E) hb
  have hv:(g<E.bF b∧_)∨(g=E.bF b∧_):=hv
  show(g<(E.cut n).bF b∧_)∨(g=(E.cut n).bF b∧_)
  rw[bA,e2];exact hv
 | _=>exact hv
theorem cN.cut {a:AV} {v:Value} (h:qa n a=true) (hv:cN E a v):cN (E.cut n) a v:=by
 by_cases hf: ∃f caps,a= .fn f caps
 ·obtain⟨f,caps,rfl⟩:=hf
  obtain⟨vs,e,aI⟩:=hv
  exact⟨vs,e,aI.1,fun i x y hx hy=>(aI.2 i x y hx hy).cut (List.all_eq_true.1 (show caps.all (zO n)=true from h) x (List.mem_of_getElem? hx))⟩
 ·have aU:qa n a=zO n a:=by cases a<;>first | rfl | exact absurd ⟨_,_,rfl⟩ hf
  rw[rF fun f c e=>hf ⟨f,c,e⟩] at hv ⊢
  exact hv.cut (aU▸h)
theorem V2.cut {a:AV} {v:Value} (h:xB n a=true) (hv:V2 E a v):V2 (E.cut n) a v:=by
 by_cases hf: ∃l,a= .agg l
 ·obtain⟨l,rfl⟩:=hf
  obtain⟨vs,e,aI⟩:=hv
  exact⟨vs,e,aI.1,fun i x y hx hy=>(aI.2 i x y hx hy).cut (List.all_eq_true.1 (show l.all (qa n)=true from h) x (List.mem_of_getElem? hx))⟩
 ·have aU:xB n a=qa n a:=by cases a<;>first | rfl | exact absurd ⟨_,rfl⟩ hf
  rw[pu fun l e=>hf ⟨l,e⟩] at hv ⊢
  exact hv.cut (aU▸h)
theorem V3.cut {a:AV} {v:Value} (h:xC n a=true) (hv:V3 E a v):V3 (E.cut n) a v:=by
 by_cases hf: ∃l,a= .tup l
 ·obtain⟨l,rfl⟩:=hf
  obtain⟨vs,e,aI⟩:=hv
  exact⟨vs,e,aI.1,fun i x y hx hy=>(aI.2 i x y hx hy).cut (List.all_eq_true.1 (show l.all (xB n)=true from h) x (List.mem_of_getElem? hx))⟩
 ·have aU:xC n a=xB n a:=by cases a<;>first | rfl | exact absurd ⟨_,rfl⟩ hf
  rw[oO fun l e=>hf ⟨l,e⟩] at hv ⊢
  exact hv.cut (aU▸h)
end
theorem Weak.cut [iW:cM] (n:Nat) {T:List AV} {L:List (Nat×List AV)} {H:List Blk} (gm:iW.n≤n) (cj: ∀t,xC n (T.getD t .undef)=true) (b3: ∀t cells,eW L t=some cells→cells.all (qa n)=true) (aV: ∀(b:Nat) (blk:Blk),b<n→H[b]?=some blk→ ∀row∈blk.rows,row.all (qa n)=true):
  Weak ⟨T,L,H⟩ ⟨T,L,H.take n⟩:=fun cz E tmps g s=>by
 have hG:SimH E H:=s.h
 have hm: ∀{j:Nat} {x:Option Nat},(E.cut n).m j=some x→j<n∧E.m j=some x:=fun{j x} h=>by
  have h:(if j<n then E.m j else none)=some x:=h
  split at h
  ·rename_i e;exact⟨e,h⟩
  ·cases h
 have get: ∀{j:Nat},j<n→(H.take n)[j]?=H[j]?:=fun{j} h=>by rw[List.getElem?_take,if_pos h]
 refine⟨E.cut n,rfl,?_,?_,?_,fun t=>(s.iA t).cut (cj t),s.size⟩
 ·exact{g with
   le:=⟨g.le.fL,g.le.fM,g.le.tJ,g.le.wf,fun b=>by
     show cz.bF b≤(if b<n then E.bF b else 0)
     split
     ·exact g.le.bF b
     ·rw[(g.zs b (by omega)).2];exact Nat.le_refl _,fun b x hx qJ=>by
     have hb:b<n:=by
      rcases Nat.lt_or_ge b n with h | h
      ·exact h
      ·rw[(g.zs b (by omega)).1] at hx;cases hx
     obtain⟨bA,e2⟩:=yq (E:=E) hb
     rw[e2] at qJ
     rw[bA]
     exact g.le.m b x hx qJ,g.le.mL⟩
   jq:=fun b c h=>g.jq b c (hm h).2
   jJ:=g.jJ}
 ·exact{hG with
   heap:=fun j c h=>by
    obtain⟨aM,h⟩:=hm h
    obtain⟨blk,ba,ty,q1,dS,q2,q3,q4,cR,c4⟩:=hG.heap j c h
    refine⟨blk,ba,ty,by rw[get aM];exact q1,dS,q2,q3,q4,cR,fun i k row a h1 h2=> ?_⟩
    obtain⟨u,hu,aK⟩:=c4 i k row a h1 h2
    exact⟨u,hu,aK.cut (List.all_eq_true.1 (aV j blk aM q1 row (List.mem_of_getElem? h1)) a (List.mem_of_getElem? h2))⟩
   fg:=fun j blk h=>by
    have aM:j<n:=by
     rcases Nat.lt_or_ge j n with q | q
     ·exact q
     ·rw[List.getElem?_take,if_neg (by omega)] at h;cases h
    rw[(yq (E:=E) aM).2]
    rw[get aM] at h;exact hG.fg j blk h
   hE:=fun j h=>by
    obtain⟨aM,h⟩:=hm h
    obtain⟨blk,q1,q2⟩:=hG.hE j h
    exact⟨blk,by rw[get aM];exact q1,q2⟩
   fresh:=fun j h=>by
    rw[List.length_take] at h
    rcases Nat.lt_or_ge j n with q | q
    ·obtain⟨bA,e2⟩:=yq (E:=E) q
     rw[bA,e2];exact hG.fresh j (by omega)
    ·exact⟨if_neg (by omega),if_neg (by omega)⟩
   h6:=fun j k c h1 h2=>hG.h6 j k c (hm h1).2 (hm h2).2
   gT:=fun j t c h1 h2=>hG.gT j t c (hm h1).2 h2
   h7:=fun c hc ⟨j,aM⟩=>hG.h7 c hc ⟨j,(hm aM).2⟩
   gB:=fun c ⟨j,aM⟩=>hG.gB c ⟨j,(hm aM).2⟩}
 ·intro t c bu
  obtain⟨cells,ba,ty,q1,q2,q3⟩:=s.l t c bu
  exact⟨cells,ba,ty,q1,q2,q3.1,fun i a u hx hu=>(q3.2 i a u hx hu).cut (List.all_eq_true.1 (b3 t cells q1) a (List.mem_of_getElem? hx))⟩
end Go.Proofs.Ytglpfccgmfhkdaa.Fw
