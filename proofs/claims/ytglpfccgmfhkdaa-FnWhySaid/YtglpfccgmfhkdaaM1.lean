/- The framework, part A: abstract values, how they stand for Go's values in a world, and what stays as it is when the world grows. -/
import Derived.WalkKit
import Derived.KernelRfl
import Derived.Orders
import Derived.Laws.StructEq
import Derived.ChangeArms
import Derived.ChangeShapes
import Derived.SizedLaws
import Derived.Below
import Derived.JoinedOf
import Derived.Test.YtglpfccgmfhkdaaProg
set_option linter.unusedVariables false
namespace Go.Proofs.Ytglpfccgmfhkdaa.Fw
open Go
inductive AV where
 | undef
 | int (k:IntKind) (n:Int)
 | bool (b:Bool)
 | str (s:ByteArray)
 | bz (rows:List (List AV)) (full fresh:Bool)
 | ref (b g off n:Nat) (full:Bool)
 | ptr (b g row col:Nat)
 | fF (t col:Nat)
 | dv (cells:List AV) (col:Nat)
 | gd
 | gx
 | agg (cells:List AV)
 | tup (vs:List AV)
 | fn (f:FuncId) (caps:List AV)
 deriving Inhabited
structure Blk where
 bC:Nat
 sz:Nat
 rows:List (List AV)
 deriving Inhabited
structure St where
 T:List AV
 L:List (Nat×List AV)
 H:List Blk
def aE {α β:Type} (R:α→β→Prop) (l:List α) (m:List β):Prop:=
 l.length=m.length∧ ∀(i:Nat) (a:α) (b:β),l[i]?=some a→m[i]?=some b→R a b
theorem aE.nil {α β:Type} {R:α→β→Prop}:aE R [] []:=⟨rfl,fun i a b h=>by simp at h⟩
theorem aE.cons {α β:Type} {R:α→β→Prop} {a:α} {b:β} {l:List α} {m:List β} (h:R a b) (k:aE R l m):aE R (a::l) (b::m):=
 ⟨by simp[k.1],fun i x y hx br=>by
  cases i with
  | zero=>simp at hx br;subst hx;subst br;exact h
  | succ i=>exact k.2 i x y (by simpa using hx) (by simpa using br)⟩
theorem aE.head {α β:Type} {R:α→β→Prop} {a:α} {b:β} {l:List α} {m:List β} (h:aE R (a::l) (b::m)):R a b:=h.2 0 a b rfl rfl
theorem aE.tail {α β:Type} {R:α→β→Prop} {a:α} {b:β} {l:List α} {m:List β} (h:aE R (a::l) (b::m)):aE R l m:=
 ⟨by simpa using h.1,fun i x y hx br=>h.2 (i+1) x y (by simpa using hx) (by simpa using br)⟩
theorem aE.mono {α β:Type} {R xX:α→β→Prop} {l:List α} {m:List β} (h:aE R l m) (aJ: ∀a b,R a b→xX a b):aE xX l m:=
 ⟨h.1,fun i a b x y=>aJ _ _ (h.2 i a b x y)⟩
theorem aE.get {α β:Type} {R:α→β→Prop} {l:List α} {m:List β} (h:aE R l m) {i:Nat} {a:α} (a4:l[i]?=some a): ∃b,m[i]?=some b∧R a b:=by
 have hi:i<l.length:=(List.getElem?_eq_some_iff.1 a4).1
 have hm:i<m.length:=h.1▸hi
 exact⟨m[i],List.getElem?_eq_getElem hm,h.2 i a _ a4 (List.getElem?_eq_getElem hm)⟩
theorem aE.w0 {α β:Type} {R:α→β→Prop} {m:List β} (h:aE R [] m):m=[]:=by
 have:=h.1;exact List.eq_nil_of_length_eq_zero (by simpa using this.symm)
theorem aE.cons_inv {α β:Type} {R:α→β→Prop} {a:α} {l:List α} {m:List β} (h:aE R (a::l) m): ∃b fz,m=b::fz∧R a b∧aE R l fz:=by
 cases m with
 | nil=>have:=h.1;simp at this
 | cons b fz=>exact⟨b,fz,rfl,h.head,h.tail⟩
theorem aE.append {α β:Type} {R:α→β→Prop} {l fp:List α} {m fz:List β} (h:aE R l m) (k:aE R fp fz):aE R (l++fp) (m++fz):=by
 refine⟨by simp[h.1,k.1],fun i a b a4 hb=> ?_⟩
 rcases Nat.lt_or_ge i l.length with hi | hi
 ·rw[List.getElem?_append_left hi] at a4
  rw[List.getElem?_append_left (h.1▸hi)] at hb
  exact h.2 i a b a4 hb
 ·rw[List.getElem?_append_right hi] at a4
  rw[List.getElem?_append_right (h.1▸hi),←h.1] at hb
  exact k.2 _ a b a4 hb
theorem aE.set {α β:Type} {R:α→β→Prop} {l:List α} {m:List β} (h:aE R l m) (i:Nat) {a:α} {b:β} (aJ:R a b):aE R (l.set i a) (m.set i b):=by
 refine⟨by simp[h.1],fun j x y hx br=> ?_⟩
 by_cases aM:i=j
 ·subst aM
  rw[List.getElem?_set_self'] at hx br
  cases aL:l[i]? with
  | none=>simp[aL] at hx
  | some J=>
   cases hm:m[i]? with
   | none=>simp[hm] at br
   | some x3=>simp[aL] at hx;simp[hm] at br;subst hx;subst br;exact aJ
 ·rw[List.getElem?_set_ne aM] at hx br
  exact h.2 j x y hx br
inductive bF (w:World):(Nat→Prop)→(Nat→Prop)→AV→Value→Prop where
 | undef {PA PF:Nat→Prop} (v:Value):bF w PA PF .undef v
 | int {PA PF:Nat→Prop} (k:IntKind) (n:Int):bF w PA PF (.int k n) (.int k n)
 | bool {PA PF:Nat→Prop} (b:Bool):bF w PA PF (.bool b) (.bool b)
 | str {PA PF:Nat→Prop} (s:ByteArray):bF w PA PF (.str s) (.string s)
 | bz {PA PF PB:Nat→Prop} {rows:List (List AV)} {full fresh:Bool} {A:Option Addr} {cap sz:Nat} {vs:Nat→Nat→Value}
   (gj: ∀c,PB c→if fresh=true then PF c else PA c)
   (gO:rows.length≤cap∧rows.length≤4611686018427387904) (hn:full=true→cap=rows.length)
   (cV: ∀(i:Nat) (row:List AV),rows[i]?=some row→row.length=sz)
   (fh:0<rows.length→ ∃c o,A=some ⟨c,o,none⟩∧PB c∧ ∀i j,i<rows.length→j<sz→w.cell? ⟨c,o+(i*sz+j),none⟩=some (vs i j))
   (d_: ∀(i j:Nat) (row:List AV) (a:AV),rows[i]?=some row→row[j]?=some a→bF w PB (fun _=>False) a (vs i j)):
   bF w PA PF (.bz rows full fresh) (.slice A rows.length cap)
 | dv {PA PF:Nat→Prop} {cells:List AV} {col c o:Nat} {vs:Nat→Value} (hc:PA c)
   (fh: ∀j,j<cells.length→w.cell? ⟨c,o+j,none⟩=some (vs j))
   (d_: ∀(j:Nat) (a:AV),cells[j]?=some a→bF w PA (fun _=>False) a (vs j)):bF w PA PF (.dv cells col) (.pointer (some ⟨c,o+col,none⟩))
 | gd {PA PF:Nat→Prop}:bF w PA PF .gd (.pointer none)
 | gx {PA PF:Nat→Prop}:bF w PA PF .gx .nilIface
 | fn {PA PF:Nat→Prop} {f:FuncId} {caps:List AV} {vs:List Value} (aL:caps.length=vs.length)
   (d_: ∀(i:Nat) (a:AV) (v:Value),caps[i]?=some a→vs[i]?=some v→bF w PA (fun _=>False) a v):bF w PA PF (.fn f caps) (.func (.func f) #[] vs.toArray)
theorem J7 {w w':World} {c o:Nat} (h:w'.heap[c]?=w.heap[c]?):w'.cell? ⟨c,o,none⟩=w.cell? ⟨c,o,none⟩:=by
 simp[World.cell?,h]
theorem bF.mono {w w':World} {PA PF:Nat→Prop} {a:AV} {v:Value} (h:bF w PA PF a v):
  ∀{xV xW:Nat→Prop},(∀c,PA c→w'.heap[c]?=w.heap[c]?)→(∀c,PF c→w'.heap[c]?=w.heap[c]?)→(∀c,PA c→xV c)→(∀c,PF c→xW c)→bF w' xV xW a v:=by
 induction h with
 | undef v=>intros;exact .undef v
 | int k n=>intros;exact .int k n
 | bool b=>intros;exact .bool b
 | str s=>intros;exact .str s
 | @bz PA PF PB rows full fresh A cap sz vs gj gO hn cV fh d_ bR=>
  intro xV xW hw wO a4 hf
  have Ln: ∀c,PB c→w'.heap[c]?=w.heap[c]?:=fun c hc=>by
   have:=gj c hc
   split at this
   ·exact wO c this
   ·exact hw c this
  refine .bz (PB:=PB) (sz:=sz) (vs:=vs) (fun c hc=> ?_) gO hn cV (fun aF=> ?_) (fun i j row a aJ aM=> ?_)
  ·have:=gj c hc
   split
   ·rename_i h;rw[if_pos h] at this;exact hf c this
   ·rename_i h;rw[if_neg h] at this;exact a4 c this
  ·obtain⟨c,o,e,hc,eC⟩:=fh aF
   exact⟨c,o,e,hc,fun i j hi aM=>by rw[J7 (Ln c hc)];exact eC i j hi aM⟩
  ·exact bR i j row a aJ aM Ln (fun c hc=>hc.elim) (fun c hc=>hc) (fun c hc=>hc)
 | @dv PA PF cells col c o vs hc fh d_ bR=>
  intro xV xW hw wO a4 hf
  refine .dv (a4 c hc) (vs:=vs) (fun j aM=> ?_) (fun j a aM=>bR j a aM hw (fun c hc=>hc.elim) a4 (fun c hc=>hc))
  rw[J7 (hw c hc)];exact fh j aM
 | gd=>intros;exact .gd
 | gx=>intros;exact .gx
 | fn aL d_ bR=>
  intro xV xW hw wO a4 hf
  exact .fn aL (fun i a v h1 h2=>bR i a v h1 h2 hw (fun c hc=>hc.elim) a4 (fun c hc=>hc))
theorem bF.one {w:World} {PA PF:Nat→Prop} {a:AV} {v:Value} (h:bF w PA PF a v) (hu:a≠ .undef):v.oneCell'=true:=by
 cases h<;>first | rfl | exact absurd rfl hu
structure Env where
 w:World
 PA:Nat→Prop
 PF:Nat→Prop
 m:Nat→Option (Option Nat)
 bC:Nat→Nat
 sz:Nat→Nat
 cp:Nat→Nat
 mL:Nat→Option Nat
def ft (E:Env):AV→Value→Prop
 | .ref b g off n full,v=>(g<E.bC b∧ ∃A cap,v= .slice A n cap)∨(g=E.bC b∧((E.m b=some none∧off=0∧n=0∧ ∃A,v= .slice A 0 0)∨
   ∃c cap,E.m b=some (some c)∧v= .slice (some ⟨c,off*E.sz b,none⟩) n cap∧n≤cap∧(full=true→cap=n)∧off+cap≤E.cp b))
 | .ptr b g r c,v=>(g<E.bC b∧ ∃bl o,v= .pointer (some ⟨bl,o,none⟩))∨(g=E.bC b∧ ∃bl,E.m b=some (some bl)∧v= .pointer (some ⟨bl,r*E.sz b+c,none⟩))
 | .fF t c,v=> ∃bl,E.mL t=some bl∧v= .pointer (some ⟨bl,c,none⟩)
 | a,v=>bF E.w E.PA E.PF a v
def cI (E:Env):AV→Value→Prop
 | .fn f caps,v=> ∃vs:List Value,v= .func (.func f) #[] vs.toArray∧aE (ft E) caps vs
 | a,v=>ft E a v
def V2 (E:Env):AV→Value→Prop
 | .agg cells,v=> ∃vs:List Value,v= .agg vs.toArray∧aE (cI E) cells vs
 | a,v=>cI E a v
def V3 (E:Env):AV→Value→Prop
 | .tup l,v=> ∃vs:List Value,v= .tuple vs.toArray∧aE (V2 E) l vs
 | a,v=>V2 E a v
structure Env.gM (E E':Env):Prop where
 fI: ∀c,E.PA c→E'.PA c
 fJ: ∀c,E.PF c→E'.PF c
 tx: ∀c,E.PA c→E'.w.heap[c]?=E.w.heap[c]?
 wf: ∀c,E.PF c→E'.w.heap[c]?=E.w.heap[c]?
 bC: ∀b,E.bC b≤E'.bC b
 m: ∀b x,E.m b=some x→E'.bC b=E.bC b→E'.m b=some x∧E'.sz b=E.sz b∧E'.cp b=E.cp b
 mL: ∀t c,E.mL t=some c→E'.mL t=some c
theorem Env.gM.refl (E:Env):E.gM E:=⟨fun _ h=>h,fun _ h=>h,fun _ _=>rfl,fun _ _=>rfl,fun _=>Nat.le_refl _,fun _ _ h _=>⟨h,rfl,rfl⟩,fun _ _ h=>h⟩
theorem Env.gM.trans {A B C:Env} (h:A.gM B) (k:B.gM C):A.gM C:=
 ⟨fun c x=>k.fI c (h.fI c x),fun c x=>k.fJ c (h.fJ c x),fun c x=>(k.tx c (h.fI c x)).trans (h.tx c x),fun c x=>(k.wf c (h.fJ c x)).trans (h.wf c x),
  fun b=>Nat.le_trans (h.bC b) (k.bC b),fun b x hx hg=>by
   have h1:B.bC b=A.bC b:=Nat.le_antisymm (hg▸k.bC b) (h.bC b)
   have h2:C.bC b=B.bC b:=hg.trans h1.symm
   obtain⟨a0,s1,ng⟩:=h.m b x hx h1
   obtain⟨bD,s2,lP⟩:=k.m b x a0 h2
   exact⟨bD,s2.trans s1,lP.trans ng⟩,
  fun t c x=>k.mL t c (h.mL t c x)⟩
theorem ft.le {E E':Env} (h:E.gM E') {a:AV} {v:Value} (hv:ft E a v):ft E' a v:=by
 have n_: ∀a v,bF E.w E.PA E.PF a v→bF E'.w E'.PA E'.PF a v:=fun a v k=>k.mono h.tx h.wf h.fI h.fJ
 cases a with
 | ref b g off n full=>
  rcases hv with⟨hv,h1⟩ | ⟨hg,hv⟩
  ·exact .inl ⟨Nat.lt_of_lt_of_le hv (h.bC b),h1⟩
  ·rcases Nat.lt_or_ge (E.bC b) (E'.bC b) with bc | fR
   ·refine .inl ⟨hg▸bc,?_⟩
    rcases hv with⟨hm,aC,rfl,A,rfl⟩ | ⟨c,cap,hm,rfl,h1,h2,aO⟩<;>exact⟨_,_,rfl⟩
   ·have he:E'.bC b=E.bC b:=Nat.le_antisymm fR (h.bC b)
    refine .inr ⟨by rw[he];exact hg,?_⟩
    rcases hv with⟨hm,aC,aF,A,iA⟩ | ⟨c,cap,hm,e,h1,h2,aO⟩
    ·exact .inl ⟨(h.m b _ hm he).1,aC,aF,A,iA⟩
    ·obtain⟨a0,s1,ng⟩:=h.m b _ hm he
     exact .inr ⟨c,cap,a0,by rw[s1];exact e,h1,h2,by rw[ng];exact aO⟩
 | ptr b g r c=>
  rcases hv with⟨hv,h1⟩ | ⟨hg,bl,hm,e⟩
  ·exact .inl ⟨Nat.lt_of_lt_of_le hv (h.bC b),h1⟩
  ·rcases Nat.lt_or_ge (E.bC b) (E'.bC b) with bc | fR
   ·exact .inl ⟨hg▸bc,_,_,e⟩
   ·have he:E'.bC b=E.bC b:=Nat.le_antisymm fR (h.bC b)
    obtain⟨a0,s1,ng⟩:=h.m b _ hm he
    exact .inr ⟨by rw[he];exact hg,bl,a0,by rw[s1];exact e⟩
 | fF t c=>
  obtain⟨bl,hm,e⟩:=hv
  exact⟨bl,h.mL _ _ hm,e⟩
 | _=>exact n_ _ _ hv
theorem rj {E:Env} {a:AV} {v:Value} (h: ∀f caps,a≠ .fn f caps):cI E a v=ft E a v:=by
 cases a<;>first | rfl | exact absurd rfl (h _ _)
theorem pd {E:Env} {a:AV} {v:Value} (h: ∀l,a≠ .agg l):V2 E a v=cI E a v:=by
 cases a<;>first | rfl | exact absurd rfl (h _)
theorem oB {E:Env} {a:AV} {v:Value} (h: ∀l,a≠ .tup l):V3 E a v=V2 E a v:=by
 cases a<;>first | rfl | exact absurd rfl (h _)
theorem cI.le {E E':Env} (h:E.gM E') {a:AV} {v:Value} (hv:cI E a v):cI E' a v:=by
 by_cases hf: ∃f caps,a= .fn f caps
 ·obtain⟨f,caps,rfl⟩:=hf
  obtain⟨vs,e,aG⟩:=hv
  exact⟨vs,e,aG.mono fun _ _ k=>k.le h⟩
 ·rw[rj fun f c e=>hf ⟨f,c,e⟩] at hv ⊢
  exact hv.le h
theorem V2.le {E E':Env} (h:E.gM E') {a:AV} {v:Value} (hv:V2 E a v):V2 E' a v:=by
 by_cases hf: ∃l,a= .agg l
 ·obtain⟨l,rfl⟩:=hf
  obtain⟨vs,e,aG⟩:=hv
  exact⟨vs,e,aG.mono fun _ _ k=>k.le h⟩
 ·rw[pd fun l e=>hf ⟨l,e⟩] at hv ⊢
  exact hv.le h
theorem V3.le {E E':Env} (h:E.gM E') {a:AV} {v:Value} (hv:V3 E a v):V3 E' a v:=by
 by_cases hf: ∃l,a= .tup l
 ·obtain⟨l,rfl⟩:=hf
  obtain⟨vs,e,aG⟩:=hv
  exact⟨vs,e,aG.mono fun _ _ k=>k.le h⟩
 ·rw[oB fun l e=>hf ⟨l,e⟩] at hv ⊢
  exact hv.le h
theorem bF.h5 {E:Env} {a:AV} {v:Value} (h:bF E.w E.PA E.PF a v):ft E a v:=by
 cases a<;>first | exact h | cases h
theorem bF.v1 {E:Env} {a:AV} {v:Value} (h:bF E.w E.PA E.PF a v):cI E a v:=by
 by_cases hf: ∃f caps,a= .fn f caps
 ·obtain⟨f,caps,rfl⟩:=hf
  cases h with
  | fn aL d_=>exact⟨_,rfl,aL,fun i a v h1 h2=>((d_ i a v h1 h2).mono (fun _ _=>rfl) (fun _ h=>h.elim) (fun _ h=>h) (fun _ h=>h.elim)).h5⟩
 ·rw[rj fun f c e=>hf ⟨f,c,e⟩]
  exact h.h5
theorem cI.undef (E:Env) (v:Value):cI E .undef v:=bF.undef v
theorem V3.undef (E:Env) (v:Value):V3 E .undef v:=bF.undef v
def AV.TZ:AV→Bool
 | .undef | .agg _ | .tup _=>false
 | _=>true
theorem cI.one {E:Env} {a:AV} {v:Value} (h:cI E a v) (hc:a.TZ=true):True:=trivial
def eU:List (Nat×List AV)→Nat→Option (List AV)
 | [],_=>none
 | (k,c)::l,t=>if t=k then some c else eU l t
def k_:List (Nat×List AV)→Nat→List AV→List (Nat×List AV)
 | [],_,_=>[]
 | (k,c)::l,t,d=>if t=k then(k,d)::l else(k,c)::k_ l t d
def Env.gQ (E:Env) (c:Nat):Prop:= ∃b,E.m b=some (some c)
def Env.kG (E:Env) (c:Nat):Prop:= ∃t,E.mL t=some c
def Env.b6 (E:Env):Env:={E with mL:=fun _=>none}
theorem Env.B2 (E:Env):E.b6.gM E:=⟨fun _ h=>h,fun _ h=>h,fun _ _=>rfl,fun _ _=>rfl,fun _=>Nat.le_refl _,fun _ _ h _=>⟨h,rfl,rfl⟩,fun _ _ h=>by cases h⟩
theorem Env.gM.b6 {E E':Env} (h:E.gM E'):E.b6.gM E'.b6:=⟨h.fI,h.fJ,h.tx,h.wf,h.bC,h.m,fun _ _ h=>by cases h⟩
def vC (E:Env) (sz:Nat) (rows:List (List AV)) (a7:Array Value):Prop:=
 (∀(i:Nat) (row:List AV),rows[i]?=some row→row.length=sz)∧
 ∀(i j:Nat) (row:List AV) (a:AV),rows[i]?=some row→row[j]?=some a→ ∃u,a7[i*sz+j]?=some u∧cI E.b6 a u
structure SimH (E:Env) (H:List Blk):Prop where
 heap: ∀b c,E.m b=some (some c)→ ∃blk a7 ty,H[b]?=some blk∧E.sz b=blk.sz∧E.w.heap[c]?=some (.cells a7 ty (0,0))∧a7.size=E.cp b*E.sz b∧blk.rows.length≤E.cp b∧vC E (E.sz b) blk.rows a7
 fb: ∀(b:Nat) (blk:Blk),H[b]?=some blk→E.bC b=blk.bC
 hp: ∀b,E.m b=some none→ ∃blk,H[b]?=some blk∧E.sz b=blk.sz
 fresh: ∀b,H.length≤b→E.m b=none∧E.bC b=0
 hV: ∀b cl c,E.m b=some (some c)→E.m cl=some (some c)→b=cl
 jC: ∀t jJ c,E.mL t=some c→E.mL jJ=some c→t=jJ
 gR: ∀b t c,E.m b=some (some c)→E.mL t=some c→False
 hW: ∀c,E.PA c→ ¬E.gQ c
 im: ∀c,E.PA c→ ¬E.kG c
 eW: ∀c,E.PF c→E.PA c
 e9: ∀c,E.PA c→c<E.w.heap.size
 gw: ∀c,E.gQ c→c<E.w.heap.size
 g4: ∀c,E.kG c→c<E.w.heap.size
def SimL (E:Env) (L:List (Nat×List AV)):Prop:=
 ∀t c,E.mL t=some c→ ∃cells a7 ty,eU L t=some cells∧E.w.heap[c]?=some (.cells a7 ty (0,0))∧aE (cI E.b6) cells a7.toList
structure tG (E:Env) (aI:St) (tmps:Array Value):Prop where
 h:SimH E aI.H
 l:SimL E aI.L
 iv: ∀t,V3 E (aI.T.getD t .undef) (tmps.getD t undef)
 size:aI.T.length=tmps.size
structure Step (E E':Env):Prop where
 le:E.gM E'
 os:E'.w.os=E.w.os
 tape:E'.w.tape=E.w.tape
 output:E'.w.output=E.w.output
 size:E.w.heap.size≤E'.w.heap.size
 fe: ∀c,c<E.w.heap.size→ ¬E.gQ c→ ¬E.kG c→E'.w.heap[c]?=E.w.heap[c]?
 jj: ∀b c,E'.m b=some (some c)→E.m b=some (some c)∨E.w.heap.size≤c
 jB: ∀c,E'.kG c→E.kG c∨E.w.heap.size≤c
 fI: ∀c,E'.PA c→E.PA c∨E.w.heap.size≤c
 fJ: ∀c,E'.PF c→E.PF c∨E.w.heap.size≤c
theorem Step.qD {E E':Env} (h:Step E E'): ∀c,E'.gQ c→E.gQ c∨E.w.heap.size≤c:=fun c ⟨b,hb⟩=>(h.jj b c hb).elim (fun h=> .inl ⟨b,h⟩) .inr
theorem Step.refl (E:Env):Step E E:=⟨.refl E,rfl,rfl,rfl,Nat.le_refl _,fun _ _ _ _=>rfl,fun _ _ h=> .inl h,fun _ h=> .inl h,fun _ h=> .inl h,fun _ h=> .inl h⟩
theorem Step.trans {A B C:Env} (h:Step A B) (k:Step B C):Step A C where
 le:=h.le.trans k.le
 os:=k.os.trans h.os
 tape:=k.tape.trans h.tape
 output:=k.output.trans h.output
 size:=Nat.le_trans h.size k.size
 fe:=fun c hc h1 h2=>by
  rw[k.fe c (Nat.lt_of_lt_of_le hc h.size) (fun x=>(h.qD c x).elim h1 (fun y=>absurd hc (Nat.not_lt.2 y))) (fun x=>(h.jB c x).elim h2 (fun y=>absurd hc (Nat.not_lt.2 y)))]
  exact h.fe c hc h1 h2
 jj:=fun b c x=>(k.jj b c x).elim (fun y=>h.jj b c y) (fun y=> .inr (Nat.le_trans h.size y))
 jB:=fun c x=>(k.jB c x).elim (fun y=>h.jB c y) (fun y=> .inr (Nat.le_trans h.size y))
 fI:=fun c x=>(k.fI c x).elim (fun y=>h.fI c y) (fun y=> .inr (Nat.le_trans h.size y))
 fJ:=fun c x=>(k.fJ c x).elim (fun y=>h.fJ c y) (fun y=> .inr (Nat.le_trans h.size y))
class cH where
 n:Nat
structure Good [iK:cH] (cw E:Env):Prop where
 ze: ∀b,iK.n≤b→cw.m b=none∧cw.bC b=0
 b6: ∀t,cw.mL t=none
 le:cw.gM E
 os:E.w.os=cw.w.os
 tape:E.w.tape=cw.w.tape
 output:E.w.output=cw.w.output
 size:cw.w.heap.size≤E.w.heap.size
 fe: ∀c,c<cw.w.heap.size→ ¬cw.gQ c→E.w.heap[c]?=cw.w.heap[c]?
 jj: ∀b c,E.m b=some (some c)→cw.m b=some (some c)∨cw.w.heap.size≤c
 jB: ∀c,E.kG c→cw.w.heap.size≤c
 fI: ∀c,E.PA c→cw.PA c∨cw.w.heap.size≤c
 fJ: ∀c,E.PF c→cw.PF c∨cw.w.heap.size≤c
section
variable [iK:cH]
theorem Good.qD {cw E:Env} (h:Good cw E): ∀c,E.gQ c→cw.gQ c∨cw.w.heap.size≤c:=fun c ⟨b,hb⟩=>(h.jj b c hb).elim (fun h=> .inl ⟨b,h⟩) .inr
theorem Good.refl {E:Env} (hu: ∀b,iK.n≤b→E.m b=none∧E.bC b=0) (h: ∀t,E.mL t=none):Good E E:=
 ⟨hu,h,.refl E,rfl,rfl,rfl,Nat.le_refl _,fun _ _ _=>rfl,fun _ _ x=> .inl x,(fun c ⟨t,x⟩=>by rw[h t] at x;cases x),fun _ x=> .inl x,fun _ x=> .inl x⟩
theorem Good.step {cw E E':Env} (h:Good cw E) (k:Step E E'):Good cw E' where
 ze:=h.ze
 b6:=h.b6
 le:=h.le.trans k.le
 os:=k.os.trans h.os
 tape:=k.tape.trans h.tape
 output:=k.output.trans h.output
 size:=Nat.le_trans h.size k.size
 fe:=fun c hc h1=>by
  rw[k.fe c (Nat.lt_of_lt_of_le hc h.size) (fun x=>(h.qD c x).elim h1 (fun y=>absurd hc (Nat.not_lt.2 y))) (fun x=>absurd hc (Nat.not_lt.2 (h.jB c x)))]
  exact h.fe c hc h1
 jj:=fun b c x=>(k.jj b c x).elim (fun y=>h.jj b c y) (fun y=> .inr (Nat.le_trans h.size y))
 jB:=fun c x=>(k.jB c x).elim (fun y=>h.jB c y) (fun y=>Nat.le_trans h.size y)
 fI:=fun c x=>(k.fI c x).elim (fun y=>h.fI c y) (fun y=> .inr (Nat.le_trans h.size y))
 fJ:=fun c x=>(k.fJ c x).elim (fun y=>h.fJ c y) (fun y=> .inr (Nat.le_trans h.size y))
end
def SZ (ex:Exit):Bool:=match ex with
 | .normal | .exit _ | .ret=>true
 | _=>false
def nf [cH] (cw:Env) (Q:Exit→St→Prop) (ex:Exit) (a:Act) (w:World):Prop:=
 SZ ex=true∧ ∃aI E,Q ex aI∧E.w=w∧Good cw E∧tG E aI a.tmps∧a.defers=[]
def WpS [cH] (P:Program) (c:Code) (Q:Exit→St→Prop) (aI:St):Prop:=
 ∀(cw E:Env) (a:Act),Good cw E→tG E aI a.tmps→a.defers=[]→c.wp P (nf cw Q) a E.w
def Weak [cH] (aI lb:St):Prop:= ∀(cw E:Env) (tmps:Array Value),Good cw E→tG E aI tmps→ ∃E',E'.w=E.w∧Good cw E'∧tG E' lb tmps
theorem Weak.refl [cH] (aI:St):Weak aI aI:=fun cw E tmps g h=>⟨E,rfl,g,h⟩
theorem Weak.trans [cH] {a b c:St} (h:Weak a b) (k:Weak b c):Weak a c:=fun cw E tmps g s=>by
 obtain⟨E1,bx,a3,s1⟩:=h cw E tmps g s
 obtain⟨rh,e2,a1,s2⟩:=k cw E1 tmps a3 s1
 exact⟨rh,e2.trans bx,a1,s2⟩
section
variable [cH] {P:Program} {Q vB:Exit→St→Prop} {aI:St}
theorem WpS.mono {c:Code} (h:WpS P c Q aI) (aj: ∀e s,Q e s→vB e s):WpS P c vB aI:=fun cw E a g s d=>
 wp_mono (h cw E a g s d) fun e a w ⟨h1,aI,E,h2,aO⟩=>⟨h1,aI,E,aj _ _ h2,aO⟩
theorem WpS.mF {c:Code} {lb:St} (h:WpS P c Q lb) (k:Weak aI lb):WpS P c Q aI:=fun cw E a g s d=>by
 obtain⟨E1,bx,a3,s1⟩:=k cw E a.tmps g s
 exact bx▸h cw E1 a a3 s1 d
theorem WpS.skip (h:Q .normal aI):WpS P .skip Q aI:=fun cw E a g s d=>wp_skip ⟨rfl,aI,E,h,rfl,g,s,d⟩
theorem WpS.ret (h:Q .ret aI):WpS P .ret Q aI:=fun cw E a g s d=>wp_ret ⟨rfl,aI,E,h,rfl,g,s,d⟩
theorem WpS.exit {id:Nat} (h:Q (.exit id) aI):WpS P (.exit id) Q aI:=fun cw E a g s d=>wp_exit ⟨rfl,aI,E,h,rfl,g,s,d⟩
def ec (P:Program) (y:Code) (Q:Exit→St→Prop) (ex:Exit) (s:St):Prop:=match ex with
 | .normal=>WpS P y Q s
 | ex=>Q ex s
theorem WpS.seq {x y:Code} (h:WpS P x (ec P y Q) aI):WpS P (.seq x y) Q aI:=fun cw E a g s d=>
 wp_seq (wp_mono (h cw E a g s d) fun e ih w' ⟨h1,lb,E',h2,aO,bb,cb,cE⟩=>by
  cases e with
  | normal=>subst aO;exact h2 cw E' ih bb cb cE
  | exit id=>exact⟨rfl,lb,E',h2,aO,bb,cb,cE⟩
  | ret=>exact⟨rfl,lb,E',h2,aO,bb,cb,cE⟩
  | _=>cases h1)
def cn (id:Nat) (Q:Exit→St→Prop) (ex:Exit) (s:St):Prop:=match ex with
 | .exit gv=>if gv=id then Q .normal s else Q (.exit gv) s
 | ex=>Q ex s
theorem WpS.block {id:Nat} {c:Code} (h:WpS P c (cn id Q) aI):WpS P (.block id c) Q aI:=fun cw E a g s d=>
 wp_block (wp_mono (h cw E a g s d) fun e ih w' ⟨h1,lb,E',h2,aO⟩=>by
  cases e with
  | normal=>exact⟨rfl,lb,E',h2,aO⟩
  | exit gv=>
   by_cases gP:gv=id
   ·subst gP
    have yo:(if gv=gv then Q .normal lb else Q (.exit gv) lb):=h2
    rw[if_pos rfl] at yo
    show(if gv=gv then _ else _)
    rw[if_pos rfl];exact⟨rfl,lb,E',yo,aO⟩
   ·have yo:(if gv=id then Q .normal lb else Q (.exit gv) lb):=h2
    rw[if_neg gP] at yo
    show(if gv=id then _ else _)
    rw[if_neg gP];exact⟨rfl,lb,E',yo,aO⟩
  | ret=>exact⟨rfl,lb,E',h2,aO⟩
  | _=>cases h1)
end
def oG:Value→AV
 | .int k n=> .int k n
 | .bool b=> .bool b
 | .string s=> .str s
 | .slice none 0 0=> .bz [] true true
 | .pointer none=> .gd
 | .nilIface=> .gx
 | _=> .undef
def cr (T:List AV):Operand→AV
 | .tmp t=>T.getD t .undef
 | .const v=>oG v
 | .func f=> .fn f []
 | .global _=> .undef
theorem Uj (E:Env) (v:Value):V3 E (oG v) v:=by
 unfold oG
 split
 ·exact bF.int _ _
 ·exact bF.bool _
 ·exact bF.str _
 ·exact bF.bz (PB:=fun _=>False) (sz:=0) (vs:=fun _ _=>undef) (fun _ h=>h.elim) ⟨Nat.le_refl _,Nat.zero_le _⟩ (fun _=>rfl) (fun i row h=>by simp at h) (fun h=>by simp at h) (fun i j row a h=>by simp at h)
 ·exact bF.gd
 ·exact bF.gx
 ·exact bF.undef _
theorem opv_rel {E:Env} {T:List AV} {a:Act} (h: ∀t,V3 E (T.getD t .undef) (a.tmps.getD t undef)) (x:Operand):V3 E (cr T x) (a.eval x):=by
 cases x with
 | tmp t=>exact h t
 | const v=>exact Uj E v
 | global g=>exact bF.undef _
 | func f=>exact⟨[],rfl,aE.nil⟩
def x5 (b:Bool) (x y:Prop):Prop:=(b=true→x)∧(b=false→y)
def oD (v:AV) (k:Bool→Prop):Prop:=match v with
 | .bool b=>k b
 | _=>False
theorem An {v:AV} {k:Bool→Prop} (h:oD v k): ∃b,v= .bool b∧k b:=by
 cases v<;>first | exact⟨_,rfl,h⟩ | exact h.elim
theorem V3.rm {E:Env} {b:Bool} {v:Value} (h:V3 E (.bool b) v):v= .bool b:=by
 have h':bF E.w E.PA E.PF (.bool b) v:=h
 cases h';rfl
theorem V3.rW {E:Env} {k:IntKind} {n:Int} {v:Value} (h:V3 E (.int k n) v):v= .int k n:=by
 have h':bF E.w E.PA E.PF (.int k n) v:=h
 cases h';rfl
theorem V3.xE {E:Env} {s:ByteArray} {v:Value} (h:V3 E (.str s) v):v= .string s:=by
 have h':bF E.w E.PA E.PF (.str s) v:=h
 cases h';rfl
section
variable [cH] {P:Program} {Q vB:Exit→St→Prop} {aI:St}
theorem WpS.cond {c:Operand} {x y:Code} (h:oD (cr aI.T c) fun b=>x5 b (WpS P x Q aI) (WpS P y Q aI)):WpS P (.cond c x y) Q aI:=fun cw E a g s d=>by
 obtain⟨b,hb,h1,h2⟩:=An h
 have hv:=opv_rel s.iv c
 rw[hb] at hv
 have he:a.eval c= .bool b:=V3.rm hv
 exact wp_cond_split he (fun e=>h1 e cw E a g s d) (fun e=>h2 e cw E a g s d)
def S1 (I:Nat→St→Prop) (n:Nat) (Q:Exit→St→Prop) (ex:Exit) (s:St):Prop:=match ex with
 | .normal=> ∃pJ s',pJ<n∧Weak s s'∧I pJ s'
 | ex=>Q ex s
theorem WpS.loop {c:Code} (I:Nat→St→Prop) (n:Nat) (aT:I n aI) (round: ∀n s,I n s→WpS P c (S1 I n Q) s):WpS P (.loop c) Q aI:=by
 intro cw E a g s d b k a7
 have key: ∀n (a:Act) (E:Env) aI,I n aI→Good cw E→tG E aI a.tmps→a.defers=[]→
   ∃e ih w',nf cw Q e ih w'∧Arrives P (lone (b.at a (.code c:: .inLoop c::k)) a7 E.w) b k a7 e ih w':=by
  intro n
  induction n using Nat.strongRecOn with
  | _ n bR=>
   intro a E aI aX g s d
   obtain⟨e,Ao,SC,aj,yw⟩:=round n aI aX cw E a g s d b (.inLoop c::k) a7
   obtain⟨he,R_,E1,aj,hw,a3,s1,d1⟩:=aj
   cases e with
   | normal=>
    obtain⟨pJ,s',bc,XJ,yq⟩:=aj
    obtain⟨rh,e2,a1,s2⟩:=XJ cw E1 Ao.tmps a3 s1
    obtain⟨UT,Tm,afm,Xx,Lu⟩:=bR pJ bc Ao rh s' yq a1 s2 d1
    rw[e2,hw] at Lu
    exact⟨UT,Tm,afm,Xx,.of_steps (Steps.trans yw (.one step_inLoop)) Lu⟩
   | exit id=>exact⟨_,Ao,SC,⟨rfl,R_,E1,aj,hw,a3,s1,d1⟩,.pass (x:= .inLoop c) rfl (fun _ _=> .inl (by simp)) yw⟩
   | ret=>exact⟨_,Ao,SC,⟨rfl,R_,E1,aj,hw,a3,s1,d1⟩,.pass (x:= .inLoop c) rfl (fun _ _=> .inl (by simp)) yw⟩
   | _=>cases he
 obtain⟨e,ih,w',aj,yw⟩:=key n a E aI aT g s d
 exact⟨e,ih,w',aj,.of_steps (.one step_loop) yw⟩
end
def c3 {α:Type} (o:Option α) (k:α→Prop):Prop:=match o with
 | some a=>k a
 | none=>False
theorem fA {α:Type} {o:Option α} {k:α→Prop} (h:c3 o k): ∃a,o=some a∧k a:=by
 cases o with
 | none=>exact h.elim
 | some a=>exact⟨a,rfl,h⟩
theorem ej {α:Type} {o:Option α} {k:α→Prop} {a:α} (h:o=some a) (hk:k a):c3 o k:=by rw[h];exact hk
def e3 (b:Bool) (x:Prop):Prop:=match b with
 | true=>x
 | false=>False
theorem pM {b:Bool} {x:Prop} (h:e3 b x):b=true∧x:=by
 cases b with
 | true=>exact⟨rfl,h⟩
 | false=>exact h.elim
def wT (P:Program) (t:TypeId):Bool:=match P.underlying t with
 | some (.struct _) | some (.array _ _)=>true
 | _=>false
def y3 (P:Program) (t:TypeId):Bool:=(P.underlying t).isSome
theorem run_underlying {P:Program} {t:TypeId} {w:World} {d:TypeDesc} (h:P.underlying t=some d):(underlying t).run P w= .ok d w:=by
 simp[Go.underlying,h]
theorem Pq {P:Program} {t:TypeId} {w:World} (h:y3 P t=true):(isAgg t).run P w= .ok (wT P t) w:=by
 unfold y3 at h
 cases bg:P.underlying t with
 | none=>simp[bg] at h
 | some d=>
  simp only[Go.isAgg,Sem.run_bind,run_underlying bg,Result.andThen_ok,wT,bg]
  cases d<;>rfl
theorem run_sizeOf {P:Program} {t:TypeId} {w:World} (h:(P.info? t).isSome=true):(sizeOf t).run P w= .ok (P.cellsOf t) w:=by
 cases hi:P.info? t with
 | none=>simp[hi] at h
 | some i=>simp[Go.sizeOf,typeInfo,hi,Program.cellsOf]
theorem Zq {P:Program} {t:TypeId} (h:y3 P t=true):(P.info? t).isSome=true:=by
 unfold y3 Program.underlying at h
 cases hi:P.info? t with
 | none=>simp[hi] at h
 | some i=>rfl
def js (P:Program) (t:TypeId) (cells:List AV) (c:Nat) (K:AV→Prop):Prop:=
 if y3 P t=true then
  (if wT P t=true then(if c+P.cellsOf t≤cells.length then K (.agg ((cells.drop c).take (P.cellsOf t))) else False)
   else c3 cells[c]? K)
 else False
def oR (P:Program) (t:TypeId) (x:AV) (L:List (Nat×List AV)) (H:List Blk) (K:AV→Prop):Prop:=match x with
 | .fF s c=>c3 (eU L s) fun cells=>js P t cells c K
 | .ptr b g r c=>c3 H[b]? fun blk=>blk.bC=g∧c3 blk.rows[r]? fun row=>js P t row c K
 | .dv cells c=>js P t cells c K
 | _=>False
theorem nO (c o n:Nat):(⟨c,o,none⟩:Addr).add n=⟨c,o+n,none⟩:=by
 unfold Addr.add;split
 ·subst_vars;rfl
 ·rfl
theorem I6 {P:Program} {t:TypeId} {cells:List AV} {c bl o:Nat} {K:AV→Prop} {w:World} {R:AV→Value→Prop}
  (hc: ∀(j:Nat) (a:AV),cells[j]?=some a→ ∃u,w.cell? ⟨bl,o+j,none⟩=some u∧R a u) (h:js P t cells c K):
  ∃a v,K a∧(loadVar t ⟨bl,o+c,none⟩).run P w= .ok v w∧
   ((∃l vs,a= .agg l∧v= .agg (List.toArray vs)∧aE R l vs)∨R a v):=by
 unfold js at h
 split at h
 ·rename_i hk
  split at h
  ·rename_i a4
   split at h
   ·rename_i aL
    let n:=P.cellsOf t
    have eC: ∀j,j<n→ ∃a u,cells[c+j]?=some a∧w.cell? ⟨bl,o+(c+j),none⟩=some u∧R a u:=by
     intro j aM
     have n8:c+j<cells.length:=by show c+j<cells.length;have:n=P.cellsOf t:=rfl;omega
     obtain⟨u,h1,h2⟩:=hc (c+j) _ (List.getElem?_eq_getElem n8)
     exact⟨_,u,List.getElem?_eq_getElem n8,h1,h2⟩
    let f:Nat→Value:=fun j=>(w.cell? ⟨bl,o+(c+j),none⟩).getD undef
    have hf: ∀j,j<n→w.cell? ((⟨bl,o+c,none⟩:Addr).add j)=some (f j):=by
     intro j aM
     obtain⟨a,u,_,h1,_⟩:=eC j aM
     rw[nO,Nat.add_assoc]
     show _=some ((w.cell? ⟨bl,o+(c+j),none⟩).getD undef)
     rw[h1];rfl
    refine⟨_,.agg ((List.range n).map f).toArray,h,?_,.inl ⟨_,(List.range n).map f,rfl,rfl,?_,?_⟩⟩
    ·simp only[loadVar,Sem.run_bind,Pq hk,Result.andThen_ok,a4,if_true,run_sizeOf (Zq hk)]
     rw[run_loadCells w _ n f hf]
     rfl
    ·simp only[List.length_take,List.length_drop,List.length_map,List.length_range];show min n _=n;have:n=P.cellsOf t:=rfl;omega
    ·intro i a b LH ww
     have hi:i<n:=by have:=(List.getElem?_eq_some_iff.1 ww).1;simpa using this
     obtain⟨ih,u,h1,h2,aO⟩:=eC i hi
     rw[List.getElem?_take,if_pos (show i<P.cellsOf t from hi),List.getElem?_drop,h1] at LH
     cases LH
     rw[List.getElem?_map,List.getElem?_range hi] at ww
     simp only[Option.map_some,Option.some.injEq] at ww
     have:f i=u:=by show(w.cell? ⟨bl,o+(c+i),none⟩).getD undef=u;rw[h2];rfl
     rw[←ww,this];exact aO
   ·exact h.elim
  ·rename_i a4
   obtain⟨a,ua,hK⟩:=fA h
   obtain⟨u,h1,h2⟩:=hc c a ua
   refine⟨a,u,hK,?_,.inr h2⟩
   have Ws:wT P t=false:=by cases hx:wT P t<;>simp_all
   simp only[loadVar,Sem.run_bind,Pq hk,Result.andThen_ok,Ws]
   simp[h1]
 ·exact h.elim
theorem cI.up {E:Env} {a:AV} {v:Value} (h:cI E.b6 a v):cI E a v:=h.le E.B2
theorem S3 {E:Env} {l:List AV} {v:Value} (h:cI E (.agg l) v):False:=by
 have h':bF E.w E.PA E.PF (.agg l) v:=h
 cases h'
theorem S4 {E:Env} {l:List AV} {v:Value} (h:cI E (.tup l) v):False:=by
 have h':bF E.w E.PA E.PF (.tup l) v:=h
 cases h'
theorem p4 {E:Env} {a:AV} {v:Value} (h:cI E a v):V2 E a v:=by
 by_cases hf: ∃l,a= .agg l
 ·obtain⟨l,rfl⟩:=hf;exact(S3 h).elim
 ·rw[pd fun l e=>hf ⟨l,e⟩];exact h
theorem S5 {E:Env} {l:List AV} {v:Value} (h:V2 E (.tup l) v):False:=S4 (E:=E) (l:=l) (v:=v) h
theorem p5 {E:Env} {a:AV} {v:Value} (h:V2 E a v):V3 E a v:=by
 by_cases hf: ∃l,a= .tup l
 ·obtain⟨l,rfl⟩:=hf;exact(S5 h).elim
 ·rw[oB fun l e=>hf ⟨l,e⟩];exact h
theorem C9 {E:Env} {a:AV} {v:Value} (h:(∃l vs,a= .agg l∧v= .agg (List.toArray vs)∧aE (cI E) l vs)∨cI E a v):V2 E a v:=by
 rcases h with⟨l,vs,rfl,rfl,aG⟩ | h
 ·exact⟨vs,rfl,aG⟩
 ·exact p4 h
theorem V3.za {E:Env} {t c:Nat} {v:Value} (h:V3 E (.fF t c) v): ∃bl,E.mL t=some bl∧v= .pointer (some ⟨bl,c,none⟩):=h
theorem V3.Ch {E:Env} {b g r c:Nat} {v:Value} (h:V3 E (.ptr b g r c) v) (hg:E.bC b=g): ∃bl,E.m b=some (some bl)∧v= .pointer (some ⟨bl,r*E.sz b+c,none⟩):=by
 rcases(h:ft E (.ptr b g r c) v) with⟨h,_⟩ | ⟨_,h⟩
 ·omega
 ·exact h
theorem cell_of {w:World} {c o:Nat} {a7:Array Value} {ty:TypeId} {VK:Nat×Nat} {u:Value} (h:w.heap[c]?=some (.cells a7 ty VK)) (hu:a7[o]?=some u):w.cell? ⟨c,o,none⟩=some u:=by
 simp[World.cell?,h,hu]
structure Sub (L:List (Nat×List AV)) (H:List Blk) (kx:List (Nat×List AV)) (fa:List Blk):Prop where
 l: ∀t c,eU L t=some c→eU kx t=some c
 h: ∀(b:Nat) (blk:Blk),H[b]?=some blk→fa[b]?=some blk
theorem Sub.refl (L:List (Nat×List AV)) (H:List Blk):Sub L H L H:=⟨fun _ _ h=>h,fun _ _ h=>h⟩
theorem NQ {P:Program} {t:TypeId} {x:AV} {L kx:List (Nat×List AV)} {H fa:List Blk} {K:AV→Prop} {E:Env} {v:Value}
  (sub:Sub L H kx fa) (aR:SimH E fa) (b0:SimL E kx) (hx:V3 E x v) (h:oR P t x L H K):
  ∃a e4,K a∧(Instr.loadAt t v).run P E.w= .ok e4 E.w∧V2 E a e4:=by
 cases x with
 | fF s c=>
  obtain⟨bl,hm,rfl⟩:=hx.za
  obtain⟨cells,a7,ty,hg,hw,aG⟩:=b0 s bl hm
  have h':c3 (eU L s) fun cells=>js P t cells c K:=h
  obtain⟨Ay,yD,h'⟩:=fA h'
  obtain rfl:cells=Ay:=by have:=sub.l _ _ yD;rw[hg] at this;exact Option.some.inj this
  obtain⟨a,e4,hK,aJ,hv⟩:=I6 (o:=0) (bl:=bl) (w:=E.w) (R:=cI E.b6) (fun j a aM=>by
   obtain⟨u,hu,aJ⟩:=aG.get aM
   exact⟨u,by rw[Nat.zero_add];exact cell_of hw (by simpa using hu),aJ⟩) h'
  rw[Nat.zero_add] at aJ
  refine⟨a,e4,hK,?_,(C9 hv).le E.B2⟩
  simp only[Instr.loadAt,Instr.sureAddr,Sem.run_bind,Sem.run_pure,Result.andThen_ok,aJ]
 | ptr b g r c=>
  obtain⟨blk,hb,hg,h2⟩:=fA (show c3 H[b]? fun blk=>blk.bC=g∧c3 blk.rows[r]? fun row=>js P t row c K from h)
  obtain⟨row,eV,aO⟩:=fA h2
  replace hb:=sub.h b blk hb
  have kf:=aR.fb b blk hb
  obtain⟨bl,hm,rfl⟩:=hx.Ch (kf.trans hg)
  obtain⟨blk',a7,ty,eh,mQ,hw,mh,hlen,gu⟩:=aR.heap b bl hm
  obtain rfl:blk=blk':=by rw[hb] at eh;exact Option.some.inj eh
  obtain⟨a,e4,hK,aJ,hv⟩:=I6 (o:=r*E.sz b) (bl:=bl) (w:=E.w) (R:=cI E.b6) (fun j a aM=>by
   obtain⟨u,hu,aJ⟩:=gu.2 r j row a eV aM
   exact⟨u,cell_of hw hu,aJ⟩) aO
  refine⟨a,e4,hK,?_,(C9 hv).le E.B2⟩
  simp only[Instr.loadAt,Instr.sureAddr,Sem.run_bind,Sem.run_pure,Result.andThen_ok,aJ]
 | dv cells c=>
  have jA:bF E.w E.PA E.PF (.dv cells c) v:=hx
  cases jA with
  | @dv _ _ _ _ bl o vs hc fh d_=>
   have h':js P t cells c K:=h
   obtain⟨a,e4,hK,aJ,hv⟩:=I6 (o:=o) (bl:=bl) (w:=E.w) (R:=bF E.w E.PA (fun _=>False)) (fun j a aM=>
    ⟨vs j,fh j (List.getElem?_eq_some_iff.1 aM).1,d_ j a aM⟩) h'
   have up: ∀a v,bF E.w E.PA (fun _=>False) a v→cI E a v:=fun a v aJ=>(aJ.mono (fun _ _=>rfl) (fun _ h=>h.elim) (fun _ h=>h) (fun _ h=>h.elim)).v1
   refine⟨a,e4,hK,?_,C9 (hv.imp (fun⟨l,vs,h1,h2,aO⟩=>⟨l,vs,h1,h2,aO.mono up⟩) (up _ _))⟩
   simp only[Instr.loadAt,Instr.sureAddr,Sem.run_bind,Sem.run_pure,Result.andThen_ok,aJ]
 | _=>exact h.elim
def vi:AV→Bool
 | .undef | .agg _ | .tup _ | .fF _ _ | .fn _ _=>false
 | _=>true
def iY:AV→Bool
 | .fn _ caps=>caps.all vi
 | a=>vi a
def ff:AV→List AV
 | .agg l=>l
 | a=>[a]
def fk (row:List AV) (c:Nat) (l:List AV):List AV:=row.take c++l++row.drop (c+l.length)
def l7 (P:Program) (t:TypeId) (x v:AV) (L:List (Nat×List AV)) (H:List Blk) (K:List (Nat×List AV)→List Blk→Prop):Prop:=
 if(P.info? t).isSome=true∧(ff v).length=P.cellsOf t∧(ff v).all iY=true then
  match x with
  | .fF s c=>c3 (eU L s) fun cells=>if c+(ff v).length≤cells.length then K (k_ L s (fk cells c (ff v))) H else False
  | .ptr b g r c=>c3 H[b]? fun blk=>blk.bC=g∧c3 blk.rows[r]? fun row=>c+(ff v).length≤row.length∧K L (H.set b {blk with rows:=blk.rows.set r (fk row c (ff v))})
  | _=>False
 else False
theorem Sd {E:Env} {a:AV} {v:Value} (h:vi a=true) (hv:ft E a v):ft E.b6 a v:=by
 cases a<;>first | exact hv | cases h
theorem IV {E:Env} {a:AV} {v:Value} (h:iY a=true) (hv:cI E a v):cI E.b6 a v:=by
 by_cases hf: ∃f caps,a= .fn f caps
 ·obtain⟨f,caps,rfl⟩:=hf
  obtain⟨vs,e,aG⟩:=hv
  refine⟨vs,e,aG.1,fun i x y hx br=>Sd ?_ (aG.2 i x y hx br)⟩
  have h':caps.all vi=true:=h
  exact List.all_eq_true.1 h' x (List.mem_of_getElem? hx)
 ·have aT:iY a=vi a:=by cases a<;>first | rfl | exact absurd ⟨_,_,rfl⟩ hf
  rw[rj fun f c e=>hf ⟨f,c,e⟩] at hv ⊢
  exact Sd (aT▸h) hv
theorem ft.one {E:Env} {a:AV} {v:Value} (h:vi a=true) (hv:ft E a v):v.oneCell'=true:=by
 cases a with
 | undef=>cases h
 | agg l=>cases h
 | tup l=>cases h
 | fF s c=>cases h
 | fn f c=>cases h
 | ref b g off n full=>
  rcases hv with⟨_,A,cap,rfl⟩ | ⟨_,⟨_,_,_,A,rfl⟩ | ⟨c,cap,_,rfl,_⟩⟩
  ·rfl
  ·rfl
  ·rfl
 | ptr b g r c=>
  rcases hv with⟨_,bl,o,rfl⟩ | ⟨_,bl,_,rfl⟩
  ·rfl
  ·rfl
 | _=>exact bF.one (show bF E.w E.PA E.PF _ v from hv) (by intro h;cases h)
theorem cI.B6 {E:Env} {a:AV} {v:Value} (h:iY a=true) (hv:cI E a v):v.oneCell'=true:=by
 by_cases hf: ∃f caps,a= .fn f caps
 ·obtain⟨f,caps,rfl⟩:=hf
  obtain⟨vs,rfl,aG⟩:=hv
  rfl
 ·have aT:iY a=vi a:=by cases a<;>first | rfl | exact absurd ⟨_,_,rfl⟩ hf
  rw[rj fun f c e=>hf ⟨f,c,e⟩] at hv
  exact hv.one (aT▸h)
theorem Step.setRow {E:Env} {H:List Blk} (aR:SimH E H) {bl:Nat} (hb:E.gQ bl∨E.kG bl) (a7:Array Value):Step E {E with w:=E.w.setRow bl a7}:=by
 have aF: ∀c,E.PA c→c≠bl:=fun c hc e=>by
  subst e
  exact hb.elim (aR.hW _ hc) (aR.im _ hc)
 have hk: ∀c,c≠bl→(E.w.setRow bl a7).heap[c]?=E.w.heap[c]?:=fun c hc=>setRow_other _ _ _ _ hc
 exact⟨⟨fun _ h=>h,fun _ h=>h,fun c hc=>hk c (aF c hc),fun c hc=>hk c (aF c (aR.eW c hc)),fun _=>Nat.le_refl _,fun _ _ h _=>⟨h,rfl,rfl⟩,fun _ _ h=>h⟩,rfl,rfl,rfl,
  by simp,fun c _ h1 h2=>hk c (fun e=>by subst e;exact hb.elim h1 h2),fun _ _ h=> .inl h,fun _ h=> .inl h,fun _ h=> .inl h,fun _ h=> .inl h⟩
theorem Dt {E:Env} {v:AV} {u:Value} (hv:V2 E v u) (hs:(ff v).all iY=true):aE (cI E) (ff v) u.cells.toList:=by
 by_cases hf: ∃l,v= .agg l
 ·obtain⟨l,rfl⟩:=hf
  obtain⟨vs,rfl,aG⟩:=hv
  exact aG
 ·have aT:ff v=[v]:=by cases v<;>first | rfl | exact absurd ⟨_,rfl⟩ hf
  rw[pd fun l e=>hf ⟨l,e⟩] at hv
  rw[aT] at hs ⊢
  have h1:u.oneCell'=true:=hv.B6 (by simpa using hs)
  have h2:u.cells= #[u]:=by cases u<;>first | rfl | cases h1
  rw[h2]
  exact aE.cons hv aE.nil
theorem Ps {P:Program} {t:TypeId} {w:World} {bl o:Nat} {a7:Array Value} {ty:TypeId} {u:Value} (hi:(P.info? t).isSome=true) (aN:u.cells.size=P.cellsOf t)
  (hw:w.heap[bl]?=some (.cells a7 ty (0,0))) (aC:o+u.cells.size≤a7.size) (h1: ∀x∈u.cells.toList,x.oneCell'=true):
  (Instr.storeAt t (.pointer (some ⟨bl,o,none⟩)) u).run P w= .ok () (w.setRow bl (a7.toList.take o++u.cells.toList++a7.toList.drop (o+u.cells.toList.length)).toArray):=by
 have:=run_storeCells_at (P:=P) bl o ty u.cells.toList 0 a7 w hw (by simpa using aC) h1
 simp only[Nat.add_zero] at this
 simp[Instr.storeAt,Instr.sureAddr,storeVar,run_sizeOf hi,aN,this]
theorem xC {α:Type} {l m:List α} {c:Nat} (hc:c+m.length≤l.length) (j:Nat):
  (l.take c++m++l.drop (c+m.length))[j]?=if j<c then l[j]? else if j<c+m.length then m[j - c]? else l[j]?:=by
 by_cases h1:j<c
 ·rw[if_pos h1,List.append_assoc,List.getElem?_append_left (by simp;omega),List.getElem?_take,if_pos h1]
 ·rw[if_neg h1]
  by_cases h2:j<c+m.length
  ·rw[if_pos h2,List.getElem?_append_left (by simp;omega),List.getElem?_append_right (by simp;omega)]
   congr 1;simp;omega
  ·rw[if_neg h2,List.getElem?_append_right (by simp;omega),List.getElem?_drop]
   congr 1;simp;omega
theorem aE.fk {α β:Type} {R:α→β→Prop} {l m:List α} {fp fz:List β} (h:aE R l fp) (k:aE R m fz) {c:Nat} (hc:c+m.length≤l.length):
  aE R (l.take c++m++l.drop (c+m.length)) (fp.take c++fz++fp.drop (c+fz.length)):=by
 have h1:=h.1
 have dP:=k.1
 refine⟨by simp;omega,fun i a b a4 hb=> ?_⟩
 rw[xC hc] at a4
 rw[xC (by omega)] at hb
 rw[←dP] at hb
 split at a4
 ·rename_i hi;rw[if_pos hi] at hb;exact h.2 i a b a4 hb
 ·rename_i hi;rw[if_neg hi] at hb
  split at a4
  ·rename_i aM;rw[if_pos aM] at hb;exact k.2 _ a b a4 hb
  ·rename_i aM;rw[if_neg aM] at hb;exact h.2 i a b a4 hb
theorem yl (L:List (Nat×List AV)) (t s:Nat) (d:List AV):eU (k_ L t d) s=if s=t then(eU L t).map (fun _=>d) else eU L s:=by
 induction L with
 | nil=>simp[k_,eU]
 | cons x L bR=>
  obtain⟨k,c⟩:=x
  by_cases h1:t=k
  ·subst h1
   by_cases h2:s=t
   ·simp[k_,eU,h2]
   ·simp[k_,eU,h2]
  ·by_cases h2:s=k
   ·subst h2
    have: ¬s=t:=fun e=>h1 e.symm
    simp[k_,eU,h1,this]
   ·simp only[k_,if_neg h1,eU,if_neg h2,bR]
theorem aeK {P:Program} {t:TypeId} {x v:AV} {L:List (Nat×List AV)} {H:List Blk} {K:List (Nat×List AV)→List Blk→Prop} {E:Env} {iI mD:Value}
  (aR:SimH E H) (b0:SimL E L) (hx:V3 E x iI) (hv:V2 E v mD) (h:l7 P t x v L H K):
  ∃L' H' E',K L' H'∧(Instr.storeAt t iI mD).run P E.w= .ok () E'.w∧Step E E'∧SimH E' H'∧SimL E' L'∧E'.mL=E.mL:=by
 unfold l7 at h
 split at h
 case isFalse=>exact h.elim
 case isTrue hc=>
 obtain⟨hi,aN,hs⟩:=hc
 have wo:=Dt hv hs
 have aF:aE (cI E.b6) (ff v) mD.cells.toList:=⟨wo.1,fun i a b a4 hb=>IV (List.all_eq_true.1 hs a (List.mem_of_getElem? a4)) (wo.2 i a b a4 hb)⟩
 have h1: ∀y∈mD.cells.toList,y.oneCell'=true:=by
  intro y br
  obtain⟨i,hi⟩:=List.mem_iff_getElem?.1 br
  have wx:i<(ff v).length:=by rw[wo.1];exact(List.getElem?_eq_some_iff.1 hi).1
  exact(wo.2 i _ y (List.getElem?_eq_getElem wx) hi).B6 (List.all_eq_true.1 hs _ (List.getElem_mem wx))
 have cV:mD.cells.size=P.cellsOf t:=by rw[←aN,wo.1];simp
 have hlen:mD.cells.toList.length=(ff v).length:=wo.1.symm
 cases x with
 | fF s c=>
  obtain⟨bl,hm,rfl⟩:=hx.za
  obtain⟨cells,a7,ty,hg,hw,aG⟩:=b0 s bl hm
  have h':c3 (eU L s) fun cells=>if c+(ff v).length≤cells.length then K (k_ L s (fk cells c (ff v))) H else False:=h
  rw[hg] at h'
  have EB:if c+(ff v).length≤cells.length then K (k_ L s (fk cells c (ff v))) H else False:=h'
  split at EB
  case isFalse=>exact EB.elim
  case isTrue hle=>
  have WH:cells.length=a7.size:=by rw[aG.1];simp
  have fT:=Ps (P:=P) (t:=t) (o:=c) hi cV hw (by rw[←WH];have:mD.cells.size=(ff v).length:=by rw[←hlen];simp
                                                omega) h1
  have g3:=Step.setRow aR (.inr ⟨s,hm⟩) (a7.toList.take c++mD.cells.toList++a7.toList.drop (c+mD.cells.toList.length)).toArray
  have cm: ∀b c',E.m b=some (some c')→c'≠bl:=fun b c' hb e=>by subst e;exact aR.gR b s c' hb hm
  refine⟨_,_,_,EB,fT,g3,?_,?_,rfl⟩
  ·exact{aR with
    heap:=fun b c' hb=>by
     obtain⟨blk,dB,jK,q1,dU,q2,q3,q4,cL,cY⟩:=aR.heap b c' hb
     refine⟨blk,dB,jK,q1,dU,?_,q3,q4,cL,fun i j row a aJ aM=> ?_⟩
     ·show(E.w.setRow bl _).heap[c']?=_
      rw[setRow_other _ _ _ _ (cm b c' hb)];exact q2
     ·obtain⟨u,hu,e6⟩:=cY i j row a aJ aM
      exact⟨u,hu,e6.le g3.le.b6⟩
    e9:=fun c' hc=>by rw[show(E.w.setRow bl _).heap.size=_ from setRow_size _ _ _];exact aR.e9 c' hc
    gw:=fun c' hc=>by rw[show(E.w.setRow bl _).heap.size=_ from setRow_size _ _ _];exact aR.gw c' hc
    g4:=fun c' hc=>by rw[show(E.w.setRow bl _).heap.size=_ from setRow_size _ _ _];exact aR.g4 c' hc}
  ·intro jJ c' nm
   by_cases he:jJ=s
   ·subst he
    obtain rfl:c'=bl:=by
     have:E.mL jJ=some c':=nm
     rw[hm] at this;exact(Option.some.inj this).symm
    refine⟨fk cells c (ff v),_,ty,?_,setRow_heap _ _ _ _ _ _ hw,?_⟩
    ·rw[yl,if_pos rfl,hg];rfl
    ·have:=aE.fk (aG.mono fun _ _ k=>k.le g3.le.b6) (aF.mono fun _ _ k=>k.le g3.le.b6) hle
     simpa[fk] using this
   ·obtain⟨gY,dB,jK,q1,q2,q3⟩:=b0 jJ c' nm
    have E6:c'≠bl:=fun e=>by subst e;exact he (aR.jC jJ s c' nm hm)
    refine⟨gY,dB,jK,by rw[yl,if_neg he];exact q1,?_,q3.mono fun _ _ k=>k.le g3.le.b6⟩
    show(E.w.setRow bl _).heap[c']?=_
    rw[setRow_other _ _ _ _ E6];exact q2
 | ptr b g r c=>
  obtain⟨blk,hb,hg,h2⟩:=fA (show c3 H[b]? fun blk=>blk.bC=g∧c3 blk.rows[r]? fun row=>c+(ff v).length≤row.length∧K L (H.set b {blk with rows:=blk.rows.set r (fk row c (ff v))}) from h)
  obtain⟨row,eV,hle,hK⟩:=fA h2
  have kf:=aR.fb b blk hb
  obtain⟨bl,hm,rfl⟩:=hx.Ch (kf.trans hg)
  obtain⟨blk',a7,ty,eh,mQ,hw,mh,n4,gu⟩:=aR.heap b bl hm
  obtain rfl:blk=blk':=by rw[hb] at eh;exact Option.some.inj eh
  have lq:row.length=E.sz b:=gu.1 r row eV
  have af6:r<blk.rows.length:=(List.getElem?_eq_some_iff.1 eV).1
  have Wz:r*E.sz b+E.sz b≤a7.size:=by
   rw[mh];calc r*E.sz b+E.sz b=(r+1)*E.sz b:=by rw[Nat.add_mul,Nat.one_mul]
    _≤E.cp b*E.sz b:=Nat.mul_le_mul_right _ (by omega)
  have pC:mD.cells.size=(ff v).length:=by rw[←hlen];simp
  have fT:=Ps (P:=P) (t:=t) (o:=r*E.sz b+c) hi cV hw (by omega) h1
  have g3:=Step.setRow aR (.inl ⟨b,hm⟩) (a7.toList.take (r*E.sz b+c)++mD.cells.toList++a7.toList.drop (r*E.sz b+c+mD.cells.toList.length)).toArray
  have qo:b<H.length:=(List.getElem?_eq_some_iff.1 hb).1
  refine⟨_,_,_,hK,fT,g3,?_,?_,rfl⟩
  ·exact{aR with
    heap:=fun dg c' jT=>by
     by_cases he:dg=b
     ·subst he
      obtain rfl:c'=bl:=by
       have:E.m dg=some (some c'):=jT
       rw[hm] at this;exact(Option.some.inj (Option.some.inj this)).symm
      refine⟨{blk with rows:=blk.rows.set r (fk row c (ff v))},_,ty,by rw[List.getElem?_set_self qo],mQ,setRow_heap _ _ _ _ _ _ hw,?_,by simpa using n4,?_,?_⟩
      ·simp;omega
      ·intro i row' e6
       rw[List.getElem?_set] at e6
       split at e6
       ·rename_i EX
        cases e6
        simp[fk];omega
       ·exact gu.1 i row' e6
      ·intro i j row' a e6 a4
       have nl: ∀k,(a7.toList.take (r*E.sz dg+c)++mD.cells.toList++a7.toList.drop (r*E.sz dg+c+mD.cells.toList.length)).toArray[k]?=if k<r*E.sz dg+c then a7.toList[k]? else if k<r*E.sz dg+c+mD.cells.toList.length then mD.cells.toList[k - (r*E.sz dg+c)]? else a7.toList[k]?:=by
        intro k
        rw[List.getElem?_toArray,xC (by simp;omega)]
       rw[List.getElem?_set] at e6
       split at e6
       ·rename_i EX
        cases e6
        subst EX
        have wJ:=xC hle j
        unfold fk at a4
        rw[wJ] at a4
        split at a4
        ·rename_i aM
         obtain⟨u,hu,g2⟩:=gu.2 r j row a eV a4
         refine⟨u,?_,g2.le g3.le.b6⟩
         show(List.toArray _)[r*E.sz dg+j]?=_
         rw[nl,if_pos (by omega)];simpa using hu
        ·rename_i aM
         split at a4
         ·rename_i yH
          obtain⟨u,hu,g2⟩:=aF.get a4
          refine⟨u,?_,g2.le g3.le.b6⟩
          show(List.toArray _)[r*E.sz dg+j]?=_
          rw[nl,if_neg (by omega),if_pos (by omega),show r*E.sz dg+j - (r*E.sz dg+c)=j - c by omega];exact hu
         ·rename_i yH
          obtain⟨u,hu,g2⟩:=gu.2 r j row a eV a4
          refine⟨u,?_,g2.le g3.le.b6⟩
          show(List.toArray _)[r*E.sz dg+j]?=_
          rw[nl,if_neg (by omega),if_neg (by omega)];simpa using hu
       ·rename_i EX
        have oL:j<E.sz dg:=by rw[←gu.1 i row' e6];exact(List.getElem?_eq_some_iff.1 a4).1
        obtain⟨u,hu,g2⟩:=gu.2 i j row' a e6 a4
        refine⟨u,?_,g2.le g3.le.b6⟩
        show(List.toArray _)[i*E.sz dg+j]?=_
        rw[nl]
        rcases Nat.lt_or_ge i r with bc | fR
        ·have:i*E.sz dg+E.sz dg≤r*E.sz dg:=by
          calc i*E.sz dg+E.sz dg=(i+1)*E.sz dg:=by rw[Nat.add_mul,Nat.one_mul]
           _≤r*E.sz dg:=Nat.mul_le_mul_right _ (by omega)
         rw[if_pos (by omega)];simpa using hu
        ·have:r*E.sz dg+E.sz dg≤i*E.sz dg:=by
          calc r*E.sz dg+E.sz dg=(r+1)*E.sz dg:=by rw[Nat.add_mul,Nat.one_mul]
           _≤i*E.sz dg:=Nat.mul_le_mul_right _ (by omega)
         rw[if_neg (by omega),if_neg (by omega)];simpa using hu
     ·obtain⟨x9,DD,ty2,q1,dU,q2,q3,q4,cL,cY⟩:=aR.heap dg c' jT
      have cm:c'≠bl:=fun e=>by subst e;exact he (aR.hV dg b c' jT hm)
      refine⟨x9,DD,ty2,by rw[List.getElem?_set_ne (fun e=>he e.symm)];exact q1,dU,?_,q3,q4,cL,fun i j row a aJ aM=> ?_⟩
      ·show(E.w.setRow bl _).heap[c']?=_
       rw[setRow_other _ _ _ _ cm];exact q2
      ·obtain⟨u,hu,e6⟩:=cY i j row a aJ aM
       exact⟨u,hu,e6.le g3.le.b6⟩
    fb:=fun dg x9 jT=>by
     by_cases he:b=dg
     ·subst he
      rw[List.getElem?_set_self qo] at jT
      cases jT
      exact aR.fb b blk hb
     ·rw[List.getElem?_set_ne he] at jT
      exact aR.fb dg x9 jT
    hp:=fun dg jT=>by
     obtain⟨x9,q,jG⟩:=aR.hp dg jT
     by_cases he:b=dg
     ·subst he
      rw[hm] at jT;cases jT
     ·exact⟨x9,by rw[List.getElem?_set_ne he];exact q,jG⟩
    fresh:=fun dg jT=>aR.fresh dg (by simpa using jT)
    e9:=fun c' hc=>by rw[show(E.w.setRow bl _).heap.size=_ from setRow_size _ _ _];exact aR.e9 c' hc
    gw:=fun c' hc=>by rw[show(E.w.setRow bl _).heap.size=_ from setRow_size _ _ _];exact aR.gw c' hc
    g4:=fun c' hc=>by rw[show(E.w.setRow bl _).heap.size=_ from setRow_size _ _ _];exact aR.g4 c' hc}
  ·intro jJ c' nm
   obtain⟨gY,dB,jK,q1,q2,q3⟩:=b0 jJ c' nm
   have E6:c'≠bl:=fun e=>by subst e;exact aR.gR b jJ c' hm nm
   refine⟨gY,dB,jK,q1,?_,q3.mono fun _ _ k=>k.le g3.le.b6⟩
   show(E.w.setRow bl _).heap[c']?=_
   rw[setRow_other _ _ _ _ E6];exact q2
 | _=>exact h.elim
structure lM (E E':Env):Prop where
 step:Step E E'
 m:E'.m=E.m
 mL:E'.mL=E.mL
 bC:E'.bC=E.bC
 sz:E'.sz=E.sz
 cp:E'.cp=E.cp
 fe: ∀c,c<E.w.heap.size→E'.w.heap[c]?=E.w.heap[c]?
 fI: ∀c,E'.PA c→E.PA c∨(E.w.heap.size≤c∧c<E'.w.heap.size)
 eW: ∀c,E'.PF c→E'.PA c
theorem lM.refl {E:Env} {H:List Blk} (h:SimH E H):lM E E:=⟨.refl E,rfl,rfl,rfl,rfl,rfl,fun _ _=>rfl,fun _ h=> .inl h,h.eW⟩
theorem lM.simH {E E':Env} {H:List Blk} (q:lM E E') (h:SimH E H):SimH E' H where
 heap:=fun b c hb=>by
  rw[q.m] at hb
  obtain⟨blk,a7,ty,q1,dU,q2,q3,q4,cL,cY⟩:=h.heap b c hb
  refine⟨blk,a7,ty,q1,by rw[q.sz];exact dU,?_,by rw[q.cp,q.sz];exact q3,by rw[q.cp];exact q4,by rw[q.sz];exact cL,fun i j row a aJ aM=> ?_⟩
  ·rw[q.fe c (h.gw c ⟨b,hb⟩)];exact q2
  ·obtain⟨u,hu,e6⟩:=cY i j row a aJ aM
   exact⟨u,by rw[q.sz];exact hu,e6.le q.step.le.b6⟩
 fb:=by rw[q.bC];exact h.fb
 hp:=by rw[q.m,q.sz];exact h.hp
 fresh:=by rw[q.m,q.bC];exact h.fresh
 hV:=by rw[q.m];exact h.hV
 jC:=by rw[q.mL];exact h.jC
 gR:=by rw[q.m,q.mL];exact h.gR
 hW:=fun c hc ⟨b,hb⟩=>by
  rw[q.m] at hb
  rcases q.fI c hc with hc | ⟨hc,_⟩
  ·exact h.hW c hc ⟨b,hb⟩
  ·have:=h.gw c ⟨b,hb⟩;omega
 im:=fun c hc ⟨b,hb⟩=>by
  rw[q.mL] at hb
  rcases q.fI c hc with hc | ⟨hc,_⟩
  ·exact h.im c hc ⟨b,hb⟩
  ·have:=h.g4 c ⟨b,hb⟩;omega
 eW:=q.eW
 e9:=fun c hc=>by
  rcases q.fI c hc with hc | ⟨_,hc⟩
  ·exact Nat.lt_of_lt_of_le (h.e9 c hc) q.step.size
  ·exact hc
 gw:=fun c ⟨b,hb⟩=>by rw[q.m] at hb;exact Nat.lt_of_lt_of_le (h.gw c ⟨b,hb⟩) q.step.size
 g4:=fun c ⟨b,hb⟩=>by rw[q.mL] at hb;exact Nat.lt_of_lt_of_le (h.g4 c ⟨b,hb⟩) q.step.size
theorem lM.simL {E E':Env} {H:List Blk} {L:List (Nat×List AV)} (q:lM E E') (h:SimH E H) (l:SimL E L):SimL E' L:=fun t c hm=>by
 rw[q.mL] at hm
 obtain⟨cells,a7,ty,q1,q2,q3⟩:=l t c hm
 exact⟨cells,a7,ty,q1,by rw[q.fe c (h.g4 c ⟨t,hm⟩)];exact q2,q3.mono fun _ _ k=>k.le q.step.le.b6⟩
def As (op:BinOp) (k:IntKind) (a b:Int) (K:AV→Prop):Prop:=match op with
 | .add=>K (.int k (k.wrap (a+b)))
 | .sub=>K (.int k (k.wrap (a - b)))
 | .mul=>K (.int k (k.wrap (a*b)))
 | .quo=>b≠0∧K (.int k (k.wrap (a.tdiv b)))
 | .rem=>b≠0∧K (.int k (a.tmod b))
 | .and=>K (.int k (k.wrap (BitVec.ofInt k.bits a&&&BitVec.ofInt k.bits b).toNat))
 | .eql=>K (.bool (a==b))
 | .neq=>K (.bool (a !=b))
 | .lss=>K (.bool (decide (a<b)))
 | .leq=>K (.bool (decide (a≤b)))
 | .gtr=>K (.bool (decide (a>b)))
 | .geq=>K (.bool (decide (a ≥ b)))
 | _=>False
def two (P:Program) (t:TypeId):Bool:=
 match P.underlying t with
 | some (.struct fx)=> !P.stoodInHeld t&& !P.eqGuardType P.depth t&&(match fx.toList with
  | [f,g]=>f.name != "_" &&g.name != "_" &&f.offset==0&&g.offset==1&&(P.underlying f.type matches some (.int .i64))&&(P.underlying g.type matches some (.int .i64))
  | _=>false)
 | _=>false
def At (op:BinOp) (k:IntKind) (a:Int) (kH:IntKind) (b:Int) (K:AV→Prop):Prop:=match op with
 | .shl=>0≤b∧K (.int k (k.wrap (a*2 ^ (min b.toNat k.bits))))
 | .shr=>0≤b∧K (.int k (a.fdiv (2 ^ (min b.toNat k.bits))))
 | op=>if k=kH then As op k a b K else False
def Nx (P:Program) (t:TypeId):Bool:=match P.underlying t with
 | some .bool=>true
 | _=>false
def Df (P:Program) (op:BinOp) (t:TypeId) (a b:Bool) (K:AV→Prop):Prop:=if Nx P t=true then(match op with
  | .eql=>K (.bool (a==b))
  | .neq=>K (.bool (a !=b))
  | _=>False) else False
def Dh (op:BinOp) (a b:ByteArray) (K:AV→Prop):Prop:=match op with
  | .add=>a.size+b.size≤9223372036854775807∧K (.str (a++b))
  | .eql=>K (.bool (a.toList==b.toList))
  | .neq=>K (.bool (!(a.toList==b.toList)))
  | _=>False
def Di (op:BinOp) (a b c d:Int) (K:AV→Prop):Prop:=match op with
  | .eql=>K (.bool (a==c&&b==d))
  | .neq=>K (.bool (!(a==c&&b==d)))
  | _=>False
def xJ:List AV→Option (Int×Int)
 | [.int .i64 a,.int .i64 b]=>some (a,b)
 | _=>none
def jg (P:Program) (t:TypeId):Option TypeId:=match P.underlying t with
 | some (.slice e)=>some e
 | _=>none
def qF:Operand→Bool
 | .const (.slice none 0 0)=>true
 | _=>false
def Dg (P:Program) (op:BinOp) (t:TypeId) (rows:List (List AV)) (sl:Bool) (K:AV→Prop):Prop:=
 if sl=true∧(jg P t).isSome=true then(match op with
  | .eql=>(rows≠[]→K (.bool false))∧(rows=[]→ ∀b,K (.bool b))
  | _=>False) else False
def su (P:Program) (op:BinOp) (t:TypeId) (x y:AV) (sl:Bool) (K:AV→Prop):Prop:=match x with
 | .int k a=>(match y with
  | .int kH b=>At op k a kH b K
  | _=>False)
 | .bool a=>(match y with
  | .bool b=>Df P op t a b K
  | _=>False)
 | .str a=>(match y with
  | .str b=>Dh op a b K
  | _=>False)
 | .agg l=>(match y with
  | .agg m=>if two P t=true then c3 (xJ l) fun p=>c3 (xJ m) fun q=>Di op p.1 p.2 q.1 q.2 K else False
  | _=>False)
 | .bz rows _ _=>Dg P op t rows sl K
 | _=>False
theorem D2 {op:BinOp} {t:TypeId} {x y:Operand} {k kH:IntKind} {a b:Int} {P:Program} {w:World}:(eqGuard op t x y (.int k a) (.int kH b)).run P w= .ok () w:=by
 unfold eqGuard;cases op<;>rfl
theorem Kt {op:BinOp} {t:TypeId} {x y:Operand} {a b:Bool} {P:Program} {w:World}:(eqGuard op t x y (.bool a) (.bool b)).run P w= .ok () w:=by
 unfold eqGuard;cases op<;>rfl
theorem D3 {op:BinOp} {t:TypeId} {x y:Operand} {a b:ByteArray} {P:Program} {w:World}:(eqGuard op t x y (.string a) (.string b)).run P w= .ok () w:=by
 unfold eqGuard;cases op<;>rfl
theorem UK {op:BinOp} {t:TypeId} {x y:Operand} {A B:Option Addr} {n m c d:Nat} {P:Program} {w:World}:(eqGuard op t x y (.slice A n c) (.slice B m d)).run P w= .ok () w:=by
 unfold eqGuard;cases op<;>rfl
theorem Ks {op:BinOp} {t:TypeId} {x y:Operand} {A B:Array Value} {P:Program} {w:World} (h:P.eqGuardType P.depth t=false):(eqGuard op t x y (.agg A) (.agg B)).run P w= .ok () w:=by
 unfold eqGuard;cases op<;>first | rfl | simp[h]
theorem abw {P:Program} {w:World} {op:BinOp} {t:TypeId} {k:IntKind} {a b:Int} {K:AV→Prop} (h:As op k a b K):
  ∃r u,K r∧(binOp op t (.int k a) (.int k b)).run P w= .ok u w∧ ∀E:Env,V3 E r u:=by
 cases op<;>simp only[As] at h
 case add=>exact⟨_,_,h,by simp[binOp,Op.intArith],fun E=>bF.int _ _⟩
 case sub=>exact⟨_,_,h,by simp[binOp,Op.intArith],fun E=>bF.int _ _⟩
 case mul=>exact⟨_,_,h,by simp[binOp,Op.intArith],fun E=>bF.int _ _⟩
 case quo=>exact⟨_,_,h.2,by simp[binOp,Op.intDiv,h.1],fun E=>bF.int _ _⟩
 case rem=>exact⟨_,_,h.2,by simp[binOp,Op.intDiv,h.1],fun E=>bF.int _ _⟩
 case and=>exact⟨_,_,h,by simp[binOp,Op.intBits],fun E=>bF.int _ _⟩
 case eql=>exact⟨_,_,h,by simp[binOp,Op.intCmp],fun E=>bF.bool _⟩
 case neq=>exact⟨_,_,h,by simp[binOp,Op.intCmp],fun E=>bF.bool _⟩
 case lss=>exact⟨_,_,h,by simp[binOp,Op.intCmp],fun E=>bF.bool _⟩
 case leq=>exact⟨_,_,h,by simp[binOp,Op.intCmp],fun E=>bF.bool _⟩
 case gtr=>exact⟨_,_,h,by simp[binOp,Op.intCmp],fun E=>bF.bool _⟩
 case geq=>exact⟨_,_,h,by simp[binOp,Op.intCmp],fun E=>bF.bool _⟩
theorem So {P:Program} {t:TypeId} (h:two P t=true): ∃f g:Field,P.underlying t=some (.struct (P.fieldsOf t))∧(P.fieldsOf t).toList=[f,g]∧P.stoodInHeld t=false∧P.eqGuardType P.depth t=false∧
  f.name≠ "_" ∧g.name≠ "_" ∧f.offset=0∧g.offset=1∧P.underlying f.type=some (.int .i64)∧P.underlying g.type=some (.int .i64):=by
 unfold two at h
 split at h
 ·rename_i fx n7
  have hf:P.fieldsOf t=fx:=by simp[Program.fieldsOf,n7]
  simp only[Bool.and_eq_true,Bool.not_eq_true'] at h
  obtain⟨⟨h1,h2⟩,aO⟩:=h
  split at aO
  ·rename_i f g aL
   simp only[Bool.and_eq_true,bne_iff_ne,ne_eq,beq_iff_eq] at aO
   obtain⟨⟨⟨⟨⟨q1,q2⟩,q3⟩,q4⟩,cL⟩,cY⟩:=aO
   refine⟨f,g,by rw[hf];exact n7,by rw[hf];exact aL,h1,h2,q1,q2,q3,q4,?_,?_⟩
   ·split at cL
    ·assumption
    ·cases cL
   ·split at cY
    ·assumption
    ·cases cY
  ·cases aO
 ·cases h
theorem Pt {P:Program} {t:TypeId} (h:two P t=true) (a b c d:Int) (w:World):
  (Op.equal t (.agg #[.int .i64 a,.int .i64 b]) (.agg #[.int .i64 c,.int .i64 d])).run P w= .ok (a==c&&b==d) w:=by
 obtain⟨f,g,h1,h2,aO,bb,cb,cE,gF,n0,tV,yn⟩:=So h
 show(Op.equalIn (9999+1) t _ _).run P w=_
 rw[run_equalIn_struct w 9999 t _ _ h1 aO,h2]
 have fJ: ∀(ht:TypeId) (a7:Array Value) (o:Nat) (u:Value),P.underlying ht=some (.int .i64)→a7[o]?=some u→(part ht a7 o).run P w= .ok u w:=by
  intro ht a7 o u hu hc
  simp[part,Go.isAgg,run_underlying hu,hc]
 simp only[Op.eqFields,if_pos cb,if_pos cE,gF,n0,Sem.run_bind]
 rw[fJ f.type #[.int .i64 a,.int .i64 b] 0 (.int .i64 a) tV rfl]
 simp only[Result.andThen_ok]
 rw[fJ f.type #[.int .i64 c,.int .i64 d] 0 (.int .i64 c) tV rfl]
 simp only[Result.andThen_ok]
 rw[show(9999:Nat)=9998+1 from rfl,run_equalIn_int w 9998 f.type .i64 .i64 a c tV]
 simp only[Result.andThen_ok]
 cases afT:(a==c)
 ·simp
 ·simp only[Bool.not_true,Bool.false_eq_true,if_false,Sem.run_bind]
  rw[fJ g.type #[.int .i64 a,.int .i64 b] 1 (.int .i64 b) yn rfl]
  simp only[Result.andThen_ok]
  rw[fJ g.type #[.int .i64 c,.int .i64 d] 1 (.int .i64 d) yn rfl]
  simp only[Result.andThen_ok]
  rw[run_equalIn_int w 9998 g.type .i64 .i64 b d yn]
  cases afV:(b==d)<;>simp
theorem V3.Sn {E:Env} {a b:Int} {v:Value} (h:V3 E (.agg [.int .i64 a,.int .i64 b]) v):v= .agg #[.int .i64 a,.int .i64 b]:=by
 obtain⟨vs,rfl,aG⟩:=(h:V2 E (.agg [.int .i64 a,.int .i64 b]) v)
 obtain⟨x,vs,rfl,hx,aG⟩:=aG.cons_inv
 obtain⟨y,vs,rfl,br,aG⟩:=aG.cons_inv
 obtain rfl:=aG.w0
 have jA:bF E.w E.PA E.PF (.int .i64 a) x:=hx
 have XN:bF E.w E.PA E.PF (.int .i64 b) y:=br
 cases jA;cases XN;rfl
theorem Sm {l:List AV} {p:Int×Int} (h:xJ l=some p):l=[.int .i64 p.1,.int .i64 p.2]:=by
 unfold xJ at h
 split at h
 ·cases h;rfl
 ·cases h
theorem sB {P:Program} {t e:TypeId} (h:jg P t=some e):P.underlying t=some (.slice e):=by
 unfold jg at h
 split at h
 ·cases h;assumption
 ·cases h
theorem Tt {P:Program} {op:BinOp} {t:TypeId} {X Y:Operand} {Jj xR:AV} {iI CY:Value} {E:Env} {K:AV→Prop}
  {sl:Bool} (hx:V3 E Jj iI) (br:V3 E xR CY) (Fl:sl=true→CY= .slice none 0 0) (h:su P op t Jj xR sl K):
  ∃r u,K r∧(do eqGuard op t X Y iI CY;binOp op t iI CY:Sem Value).run P E.w= .ok u E.w∧V3 E r u:=by
 cases Jj with
 | int k a=>
  cases xR with
  | int kH b=>
   replace h:At op k a kH b K:=h
   obtain rfl:=hx.rW
   obtain rfl:=br.rW
   cases op
   case shl=>
    obtain⟨hb,h⟩:=h
    have eh: ¬b<0:=by omega
    exact⟨_,_,h,by simp[D2,binOp,Op.shift,eh],bF.int _ _⟩
   case shr=>
    obtain⟨hb,h⟩:=h
    have eh: ¬b<0:=by omega
    exact⟨_,_,h,by simp[D2,binOp,Op.shift,eh],bF.int _ _⟩
   all_goals
    simp only[At] at h
    split at h
    ·rename_i hk
     subst hk
     obtain⟨r,u,hK,aJ,hv⟩:=abw (P:=P) (w:=E.w) (t:=t) h
     exact⟨r,u,hK,by simp only[Sem.run_bind,D2,Result.andThen_ok,aJ],hv E⟩
    ·exact h.elim
  | _=>exact h.elim
 | bool a=>
  cases xR with
  | bool b=>
   replace h:Df P op t a b K:=h
   obtain rfl:=hx.rm
   obtain rfl:=br.rm
   unfold Df at h
   split at h
   ·rename_i hu
    have np:P.underlying t=some .bool:=by
     unfold Nx at hu
     split at hu
     ·assumption
     ·cases hu
    cases op<;>first | exact h.elim | skip
    case eql=>exact⟨_,_,h,by simp only[Sem.run_bind,Kt,Result.andThen_ok,binOp,Op.equal];rw[show Op.maxDepth=9999+1 from rfl,run_equalIn_bool' E.w 9999 t a b np];rfl,bF.bool _⟩
    case neq=>exact⟨_,_,h,by simp only[Sem.run_bind,Kt,Result.andThen_ok,binOp,Op.equal];rw[show Op.maxDepth=9999+1 from rfl,run_equalIn_bool' E.w 9999 t a b np];rfl,bF.bool _⟩
   ·exact h.elim
  | _=>exact h.elim
 | str a=>
  cases xR with
  | str b=>
   replace h:Dh op a b K:=h
   obtain rfl:=hx.xE
   obtain rfl:=br.xE
   cases op<;>first | exact h.elim | skip
   case add=>
    obtain⟨aL,h⟩:=h
    have: ¬((a.size+b.size:Nat):Int)>IntKind.i64.max:=by
     have:IntKind.i64.max=9223372036854775807:=by decide
     rw[this];omega
    exact⟨_,_,h,by simp only[Sem.run_bind,D3,Result.andThen_ok,binOp,Op.stringOp];rw[if_neg this];rfl,bF.str _⟩
   case eql=>exact⟨_,_,h,by simp only[Sem.run_bind,D3,Result.andThen_ok,binOp,Op.stringOp];rfl,bF.bool _⟩
   case neq=>exact⟨_,_,h,by simp only[Sem.run_bind,D3,Result.andThen_ok,binOp,Op.stringOp];rfl,bF.bool _⟩
  | _=>exact h.elim
 | agg l=>
  cases xR with
  | agg m=>
   replace h:if two P t=true then c3 (xJ l) fun p=>c3 (xJ m) fun q=>Di op p.1 p.2 q.1 q.2 K else False:=h
   split at h
   ·rename_i bp
    obtain⟨⟨a,b⟩,aG,h⟩:=fA h
    obtain⟨⟨c,d⟩,aj,h⟩:=fA h
    obtain rfl:=Sm aG
    obtain rfl:=Sm aj
    obtain rfl:=hx.Sn
    obtain rfl:=br.Sn
    obtain⟨f,g,h1,h2,aO,bb,_⟩:=So bp
    cases op<;>first | exact h.elim | skip
    case eql=>exact⟨_,_,h,by simp only[Sem.run_bind,Ks bb,Result.andThen_ok,binOp,Pt bp];rfl,bF.bool _⟩
    case neq=>exact⟨_,_,h,by simp only[Sem.run_bind,Ks bb,Result.andThen_ok,binOp,Pt bp];rfl,bF.bool _⟩
   ·exact h.elim
  | _=>exact h.elim
 | bz rows eB fr=>
  replace h:Dg P op t rows sl K:=h
  unfold Dg at h
  split at h
  ·rename_i hc
   obtain⟨aF,he⟩:=hc
   obtain⟨e,he⟩:=Option.isSome_iff_exists.1 he
   have hu:=sB he
   obtain rfl:=Fl aF
   have jA:bF E.w E.PA E.PF (.bz rows eB fr) iI:=hx
   cases jA with
   | @bz _ _ _ _ _ _ A cap sz vs gj gO hn cV fh d_=>
   have fT:(do eqGuard op t X Y (.slice A rows.length cap) (.slice none 0 0);binOp .eql t (.slice A rows.length cap) (.slice none 0 0):Sem Value).run P E.w= .ok (.bool A.isNone) E.w:=by
    simp only[Sem.run_bind,UK,Result.andThen_ok,binOp,Op.equal]
    rw[show Op.maxDepth=9999+1 from rfl]
    generalize 9999=d
    simp only[Op.equalIn,Sem.run_bind,run_underlying hu,Result.andThen_ok]
    cases A<;>rfl
   cases op<;>first | exact h.elim | skip
   case eql=>
    obtain⟨h1,h2⟩:=h
    by_cases aJ:rows=[]
    ·exact⟨_,_,h2 aJ A.isNone,fT,bF.bool _⟩
    ·have:0<rows.length:=by cases rows<;>simp_all
     obtain⟨c,o,rfl,_⟩:=fh this
     exact⟨_,_,h1 aJ,fT,bF.bool _⟩
  ·exact h.elim
 | _=>exact h.elim
theorem K1 (off:Nat): ∀(l:List Value) (k:Nat) (cells:Array Value),off+k+l.length≤cells.size→
  (((l.zipIdx k).foldl (fun a7 (x:Value×Nat)=>a7.setIfInBounds (off+x.2) x.1) cells).size=cells.size∧
  ∀i,((l.zipIdx k).foldl (fun a7 (x:Value×Nat)=>a7.setIfInBounds (off+x.2) x.1) cells)[i]?=if i<off+k then cells[i]? else if i<off+k+l.length then l[i - (off+k)]? else cells[i]?)
 | [],k,cells,_=>⟨rfl,fun i=>by simp;omega⟩
 | v::l,k,cells,h=>by
  have h':off+(k+1)+l.length≤(cells.setIfInBounds (off+k) v).size:=by simp at h ⊢;omega
  obtain⟨h1,h2⟩:=K1 off l (k+1) (cells.setIfInBounds (off+k) v) h'
  refine⟨by simp only[List.zipIdx_cons,List.foldl_cons];rw[h1];simp,fun i=> ?_⟩
  simp only[List.zipIdx_cons,List.foldl_cons]
  rw[h2 i]
  simp only[Array.getElem?_setIfInBounds,List.length_cons] at*
  by_cases M:i<off+k
  ·rw[if_pos (by omega),if_neg (by omega),if_pos M]
  ·by_cases U:i=off+k
   ·subst U
    rw[if_pos (by omega),if_pos rfl,if_pos (by omega),if_neg (by omega),if_pos (by omega)]
    simp
   ·by_cases c7:i<off+(k+1)+l.length
    ·rw[if_neg (by omega),if_pos c7,if_neg M,if_pos (by omega),show i - (off+k)=(i - (off+(k+1)))+1 by omega]
     simp
    ·rw[if_neg (by omega),if_neg c7,if_neg (by omega),if_neg M,if_neg (by omega)]
def pi (pl:Nat→Option (Nat×Nat)) (cells:List AV):List (Nat×AV)→Option (List AV)
 | []=>some cells
 | (i,v)::rest=>match pl i with
  | none=>none
  | some (off,size)=>if(ff v).length=size∧off+(ff v).length≤cells.length∧(ff v).all iY=true then pi pl (fk cells off (ff v)) rest else none
theorem A0 {E:Env} {pl:Nat→Option (Nat×Nat)}: ∀{parts:List (Nat×AV)} {ks:List (Nat×Value)} {cells:List AV} {tv:Array Value} {r:List AV},
  aE (fun a b=>a.1=b.1∧V2 E a.2 b.2) parts ks→aE (cI E.b6) cells tv.toList→pi pl cells parts=some r→ ∃hL,Instr.fill pl tv ks=some hL∧aE (cI E.b6) r hL.toList
 | [],ks,cells,tv,r,aG,hc,h=>by
  obtain rfl:=aG.w0
  cases h
  exact⟨tv,rfl,hc⟩
 | (i,v)::rest,ks,cells,tv,r,aG,hc,h=>by
  obtain⟨⟨iP,u⟩,agf,rfl,⟨hi,hv⟩,sR⟩:=aG.cons_inv
  simp only at hi hv
  subst hi
  unfold pi at h
  split at h
  ·cases h
  ·rename_i off size ji
   split at h
   ·rename_i oK
    obtain⟨h1,h2,aO⟩:=oK
    have ub:=Dt hv aO
    have WG:aE (cI E.b6) (ff v) u.cells.toList:=⟨ub.1,fun i a b a4 hb=>IV (List.all_eq_true.1 aO a (List.mem_of_getElem? a4)) (ub.2 i a b a4 hb)⟩
    have cV:u.cells.size=(ff v).length:=by rw[ub.1];simp
    have n4:cells.length=tv.size:=by rw[hc.1];simp
    obtain⟨f1,f2⟩:=K1 off u.cells.toList 0 tv (by simp;omega)
    simp only[Nat.add_zero] at f1 f2
    have wE:aE (cI E.b6) (fk cells off (ff v)) ((u.cells.toList.zipIdx).foldl (fun a7 (x:Value×Nat)=>a7.setIfInBounds (off+x.2) x.1) tv).toList:=by
     have hs:=aE.fk hc WG h2
     refine⟨?_,fun k a b a4 hb=> ?_⟩
     ·simp only[Array.length_toList];rw[f1];simp[fk];omega
     ·refine hs.2 k a b a4 ?_
      rw[xC (by simp;omega)]
      rw[Array.getElem?_toList,f2 k] at hb
      simpa using hb
    obtain⟨hL,aJ,d_⟩:=A0 sR wE h
    refine⟨hL,?_,d_⟩
    unfold Instr.fill
    rw[ji]
    simp only
    rw[if_neg (by simp;omega)]
    rw[←Array.foldl_toList,Array.toList_zipIdx]
    exact aJ
   ·cases h
def m_ (P:Program) (t:TypeId):Option (List AV):=((P.info? t).bind (·.zero)).map fun z=>z.cells.toList.map oG
theorem Uk (E:Env) (v:Value):cI E (oG v) v:=by
 unfold oG
 split
 ·exact bF.int _ _
 ·exact bF.bool _
 ·exact bF.str _
 ·exact bF.bz (PB:=fun _=>False) (sz:=0) (vs:=fun _ _=>undef) (fun _ h=>h.elim) ⟨Nat.le_refl _,Nat.zero_le _⟩ (fun _=>rfl) (fun i row h=>by simp at h) (fun h=>by simp at h) (fun i j row a h=>by simp at h)
 ·exact bF.gd
 ·exact bF.gx
 ·exact bF.undef _
theorem vw {E:Env} {P:Program} {t:TypeId} {z:List AV} (h:m_ P t=some z): ∃i v,P.info? t=some i∧i.zero=some v∧z=v.cells.toList.map oG∧aE (cI E) z v.cells.toList:=by
 unfold m_ at h
 cases hi:P.info? t with
 | none=>simp[hi] at h
 | some i=>
  cases aN:i.zero with
  | none=>simp[hi,aN] at h
  | some v=>
   simp[hi,aN] at h
   subst h
   refine⟨i,v,rfl,aN,rfl,by simp,fun k a b a4 hb=> ?_⟩
   rw[List.getElem?_map,hb] at a4
   simp at a4;subst a4;exact Uk E b
def GR (P:Program) (t:TypeId):Option (List (Nat×Nat)):=match P.underlying t with
 | some (.struct fx)=>fx.toList.mapM (fun f=>(P.info? f.type).map fun i=>(f.offset,i.size))
 | _=>none
def Dl (P:Program) (t:TypeId) (parts:List (Nat×AV)) (K:AV→Prop):Prop:=
 c3 (m_ P t) fun z=>c3 (GR P t) fun pl=>c3 (pi (fun i=>pl[i]?) z parts) fun cells=>K (.agg cells)
theorem TD {P:Program} {E:Env} {t:TypeId} {parts:List (Nat×AV)} {ks:List (Nat×Value)} {K:AV→Prop} (aG:aE (fun a b=>a.1=b.1∧V2 E a.2 b.2) parts ks) (h:Dl P t parts K):
  ∃r u,K r∧(Instr.build t ks.toArray).run P E.w= .ok u E.w∧V3 E r u:=by
 obtain⟨z,aN,h⟩:=fA h
 obtain⟨pl,ji,h⟩:=fA h
 obtain⟨cells,hf,h⟩:=fA h
 obtain⟨i,v,h1,h2,aO,bb⟩:=vw (E:=E.b6) aN
 obtain⟨hL,aJ,d_⟩:=A0 aG bb hf
 refine⟨_,.agg hL,h,run_build E.w t ks.toArray hL ?_,hL.toList,by simp,d_.mono fun _ _ k=>k.up⟩
 unfold GR at ji
 split at ji
 ·rename_i fx n7
  unfold Program.built
  rw[h1,n7]
  simp only[h2,ji]
  simpa using aJ
 ·cases ji
def jv:AV→Bool
 | .int _ _ | .bool _ | .str _ | .bz _ _ _ | .gd | .gx=>true
 | _=>false
def nX:AV→Bool
 | .bz _ _ fr=>fr
 | _=>true
def kq:AV→AV
 | .bz rows _ _=> .bz rows false false
 | a=>a
def o2:AV→AV
 | .bz rows full _=> .bz rows full true
 | a=>a
theorem abi {w:World} {PB PA PF:Nat→Prop} {a:AV} {v:Value} (h:bF w PB (fun _=>False) a v) (hb: ∀c,PB c→PF c) (E7: ∀c,PF c→PA c):bF w PA PF (o2 a) v:=by
 have key:(∀rows full fr,a≠ .bz rows full fr)→bF w PA PF (o2 a) v:=fun cm=>by
  have e:o2 a=a:=by cases a<;>first | rfl | exact absurd rfl (cm _ _ _)
  rw[e]
  exact h.mono (fun _ _=>rfl) (fun _ h=>h.elim) (fun c hc=>E7 c (hb c hc)) (fun _ h=>h.elim)
 cases a with
 | bz rows full fr=>
  cases h with
  | bz gj gO hn cV fh d_=>
   exact .bz (fun c hc=>by
    have:=gj c hc
    rw[if_pos rfl]
    split at this
    ·exact this.elim
    ·exact hb c this) gO hn cV fh d_
 | _=>exact key (fun _ _ _ e=>by cases e)
theorem Jd {w:World} {PA PF PB:Nat→Prop} {a:AV} {v:Value} (a4:jv a=true) (h:bF w PA PF a v) (hb: ∀c,PA c→PB c) (E7: ∀c,PF c→PA c):bF w PB (fun _=>False) (kq a) v:=by
 cases h with
 | undef=>cases a4
 | int=>exact .int _ _
 | bool=>exact .bool _
 | str=>exact .str _
 | bz gj gO hn cV fh d_=>
  exact .bz (fun c hc=>by
   have:=gj c hc
   simp only[Bool.false_eq_true,if_false]
   split at this
   ·exact hb c (E7 c this)
   ·exact hb c this) gO (fun h=>by cases h) cV fh d_
 | dv=>cases a4
 | gd=>exact .gd
 | gx=>exact .gx
 | fn=>cases a4
theorem Sq {w:World} {PA PF:Nat→Prop} {a:AV} {v:Value} (a4:jv a=true) (hf:nX a=true) (h:bF w PA PF a v):bF w PF (fun _=>False) (kq a) v:=by
 cases h with
 | undef=>cases a4
 | int=>exact .int _ _
 | bool=>exact .bool _
 | str=>exact .str _
 | @bz _ _ PB rows full fresh A cap sz vs gj gO hn cV fh d_=>
  have sL:fresh=true:=hf
  subst sL
  exact .bz (fun c hc=>by simpa using gj c hc) gO (fun h=>by cases h) cV fh d_
 | dv=>cases a4
 | gd=>exact .gd
 | gx=>exact .gx
 | fn=>cases a4
def chunk (size n:Nat) (cells:List AV):List (List AV):=(List.range n).map fun i=>(cells.drop (i*size)).take size
def vO (P:Program) (t:TypeId) (n:Nat) (parts:List (Nat×AV)) (K:AV→Prop):Prop:=
 c3 (jg P t) fun e=>c3 (m_ P e) fun z=>if z.length=P.cellsOf e∧n*z.length≤1000000∧n≤1000000 then
  c3 (pi (fun i=>some (i*z.length,z.length)) ((List.range (n*z.length)).map fun i=>z.getD (i%z.length) .undef) parts) fun cells=>
   if cells.all jv=true then K (.bz (chunk z.length n (cells.map kq)) true (cells.all nX)) else False
 else False
theorem Ax {E:Env} {a:AV} {v:Value} (a4:jv a=true) (h:cI E a v):bF E.w E.PA E.PF a v:=by
 cases a<;>first | exact h | cases a4
theorem J8 {size n i j:Nat} {cells row:List AV} {a:AV} (aJ:(chunk size n cells)[i]?=some row) (aM:row[j]?=some a):i<n∧j<size∧cells[i*size+j]?=some a:=by
 unfold chunk at aJ
 rw[List.getElem?_map] at aJ
 cases uq:(List.range n)[i]? with
 | none=>simp[uq] at aJ
 | some k=>
  have hi:i<n:=by have:=(List.getElem?_eq_some_iff.1 uq).1;simpa using this
  rw[List.getElem?_range hi] at uq
  cases uq
  rw[List.getElem?_range hi] at aJ
  simp at aJ
  subst aJ
  rw[List.getElem?_take] at aM
  split at aM
  ·rw[List.getElem?_drop] at aM
   exact⟨hi,by assumption,aM⟩
  ·cases aM
theorem sp (w:World) (o:Obj) (c:Nat) (h:c<w.heap.size):(w.alloc o).heap[c]?=w.heap[c]?:=Go.RowKit.Below.heap_alloc w o c h
theorem JC (w:World) (o:Obj):(w.alloc o).heap[w.heap.size]?=some o:=by
 show(w.heap.push o)[w.heap.size]?=_
 simp
theorem lM.alloc {E:Env} {H:List Blk} (aR:SimH E H) (o:Obj):
  lM E {E with w:=E.w.alloc o,PA:=fun c=>E.PA c∨c=E.w.heap.size,PF:=fun c=>E.PF c∨c=E.w.heap.size} where
 step:=⟨⟨fun _ h=> .inl h,fun _ h=> .inl h,fun c hc=>sp _ _ _ (aR.e9 c hc),fun c hc=>sp _ _ _ (aR.e9 c (aR.eW c hc)),fun _=>Nat.le_refl _,fun _ _ h _=>⟨h,rfl,rfl⟩,fun _ _ h=>h⟩,
  rfl,rfl,rfl,by simp,fun c hc _ _=>sp _ _ _ hc,fun _ _ h=> .inl h,fun _ h=> .inl h,fun c hc=>hc.elim .inl (fun e=> .inr (by omega)),fun c hc=>hc.elim .inl (fun e=> .inr (by omega))⟩
 m:=rfl
 mL:=rfl
 bC:=rfl
 sz:=rfl
 cp:=rfl
 fe:=fun c hc=>sp _ _ _ hc
 fI:=fun c hc=>hc.elim .inl (fun e=> .inr (by simp;omega))
 eW:=fun c hc=>hc.elim (fun h=> .inl (aR.eW c h)) .inr
theorem TB {P:Program} {E:Env} {t:TypeId} {e:TypeId} {n:Nat} {z:List AV} {parts:List (Nat×AV)} {ks:List (Nat×Value)} {cells:List AV} (aG:aE (fun a b=>a.1=b.1∧V2 E a.2 b.2) parts ks) (he:jg P t=some e) (aN:m_ P e=some z)
  (oa:z.length=P.cellsOf e) (Wy:n*z.length≤1000000∧n≤1000000) (hf:pi (fun i=>some (i*z.length,z.length)) ((List.range (n*z.length)).map fun i=>z.getD (i%z.length) .undef) parts=some cells):
  ∃hL,aE (cI E.b6) cells hL.toList∧(Instr.buildSlice t n ks.toArray).run P E.w= .ok (.slice (some ⟨E.w.heap.size,0,none⟩) n n) (E.w.alloc (.cells hL e))∧cells.length=n*z.length:=by
 obtain⟨i,v,h1,h2,aO,bb⟩:=vw (E:=E.b6) aN
 have ux:v.cells.size=z.length:=by rw[aO];simp
 have wy:i.size=z.length:=by rw[oa];simp[Program.cellsOf,h1]
 let lc:Array Value:=if n*z.length=0 then #[] else v.cells
 let base:Array Value:=(Array.range (n*z.length)).map (fun i=>lc[i%lc.size]!)
 have pu:aE (cI E.b6) ((List.range (n*z.length)).map fun i=>z.getD (i%z.length) .undef) base.toList:=by
  refine⟨by simp[base],fun k a b a4 hb=> ?_⟩
  rw[List.getElem?_map] at a4
  have hk:k<n*z.length:=by
   cases aj:(List.range (n*z.length))[k]? with
   | none=>simp[aj] at a4
   | some x=>have:=(List.getElem?_eq_some_iff.1 aj).1;simpa using this
  rw[List.getElem?_range hk] at a4
  simp only[Option.map_some,Option.some.injEq] at a4
  have ln:0<z.length:=by
   rcases Nat.eq_zero_or_pos z.length with q | q
   ·rw[q,Nat.mul_zero] at hk;omega
   ·exact q
  have bc:k%z.length<z.length:=Nat.mod_lt _ ln
  have pD:lc=v.cells:=if_neg (by omega)
  have eh:base[k]?=some (v.cells[k%z.length]!):=by
   show((Array.range (n*z.length)).map (fun i=>lc[i%lc.size]!))[k]?=_
   rw[pD,ux]
   simp[hk]
  rw[Array.getElem?_toList,eh] at hb
  simp only[Option.some.injEq] at hb
  have pC:v.cells.toList[k%z.length]?=some (v.cells[k%z.length]!):=by
   rw[Array.getElem?_toList,Array.getElem?_eq_getElem (by omega)]
   congr 1
   exact(getElem!_pos v.cells (k%z.length) (by omega)).symm
  have Fm:z[k%z.length]?=some a:=by
   rw[←a4,List.getD_eq_getElem?_getD,List.getElem?_eq_getElem bc];rfl
  rw[←hb]
  exact bb.2 _ _ _ Fm pC
 obtain⟨hL,aJ,d_⟩:=A0 aG pu hf
 have hu:=sB he
 have fT:(Instr.buildSlice t n ks.toArray).run P E.w= .ok (.slice (some ⟨E.w.heap.size,0,none⟩) n n) (E.w.alloc (.cells hL e)):=by
  have EK: ¬n*z.length>2 ^ 24:=by omega
  simp only[Instr.buildSlice,Sem.run_bind,run_underlying hu,Result.andThen_ok,run_sizeOf (show(P.info? e).isSome=true by rw[h1];rfl),←oa,if_neg EK]
  have e6:Instr.fill (fun i=>some (i*z.length,z.length)) ((Array.range (n*z.length)).map (fun x=>lc[x%lc.size]!)) ks=some hL:=aJ
  by_cases q:n*z.length=0
  ·have pD:lc= #[]:=if_pos q
   rw[if_pos q]
   simp only[Sem.run_bind,Sem.run_pure,Result.andThen_ok]
   rw[←pD,e6]
   simp[newRow]
  ·have pD:lc=v.cells:=if_neg q
   rw[if_neg q]
   simp only[Sem.run_bind,Sem.run_pure,Result.andThen_ok,zeroValue,typeInfo,h1,h2,run_program]
   rw[←pD,e6]
   simp[newRow]
 have hlen:cells.length=n*z.length:=by
  have q:=d_.1
  have: ∀(parts:List (Nat×AV)) (c r:List AV),pi (fun i=>some (i*z.length,z.length)) c parts=some r→r.length=c.length:=by
   intro parts
   induction parts with
   | nil=>intro c r bV;cases bV;rfl
   | cons p ps bR=>
    intro c r bV
    obtain⟨a,b⟩:=p
    unfold pi at bV
    split at bV
    ·cases bV
    ·split at bV
     ·rename_i hc
      rw[bR _ _ bV];simp[fk];omega
     ·cases bV
  rw[this _ _ _ hf];simp
 exact⟨hL,d_,fT,hlen⟩
theorem J0 {P:Program} {E:Env} {H:List Blk} {t:TypeId} {n:Nat} {parts:List (Nat×AV)} {ks:List (Nat×Value)} {K:AV→Prop} (aR:SimH E H) (aG:aE (fun a b=>a.1=b.1∧V2 E a.2 b.2) parts ks) (h:vO P t n parts K):
  ∃r u E',K r∧(Instr.buildSlice t n ks.toArray).run P E.w= .ok u E'.w∧lM E E'∧V3 E' r u:=by
 obtain⟨e,he,h⟩:=fA h
 obtain⟨z,aN,h⟩:=fA h
 split at h
 case isFalse=>exact h.elim
 case isTrue hb=>
 obtain⟨oa,Wy⟩:=hb
 obtain⟨cells,hf,h⟩:=fA h
 split at h
 case isFalse=>exact h.elim
 case isTrue hby=>
 obtain⟨i,v,h1,h2,aO,bb⟩:=vw (E:=E.b6) aN
 have ux:v.cells.size=z.length:=by rw[aO];simp
 have wy:i.size=z.length:=by rw[oa];simp[Program.cellsOf,h1]
 let lc:Array Value:=if n*z.length=0 then #[] else v.cells
 let base:Array Value:=(Array.range (n*z.length)).map (fun i=>lc[i%lc.size]!)
 have pu:aE (cI E.b6) ((List.range (n*z.length)).map fun i=>z.getD (i%z.length) .undef) base.toList:=by
  refine⟨by simp[base],fun k a b a4 hb=> ?_⟩
  rw[List.getElem?_map] at a4
  have hk:k<n*z.length:=by
   cases aj:(List.range (n*z.length))[k]? with
   | none=>simp[aj] at a4
   | some x=>have:=(List.getElem?_eq_some_iff.1 aj).1;simpa using this
  rw[List.getElem?_range hk] at a4
  simp only[Option.map_some,Option.some.injEq] at a4
  have ln:0<z.length:=by
   rcases Nat.eq_zero_or_pos z.length with q | q
   ·rw[q,Nat.mul_zero] at hk;omega
   ·exact q
  have bc:k%z.length<z.length:=Nat.mod_lt _ ln
  have pD:lc=v.cells:=if_neg (by omega)
  have eh:base[k]?=some (v.cells[k%z.length]!):=by
   show((Array.range (n*z.length)).map (fun i=>lc[i%lc.size]!))[k]?=_
   rw[pD,ux]
   simp[hk]
  rw[Array.getElem?_toList,eh] at hb
  simp only[Option.some.injEq] at hb
  have pC:v.cells.toList[k%z.length]?=some (v.cells[k%z.length]!):=by
   rw[Array.getElem?_toList,Array.getElem?_eq_getElem (by omega)]
   congr 1
   exact(getElem!_pos v.cells (k%z.length) (by omega)).symm
  have Fm:z[k%z.length]?=some a:=by
   rw[←a4,List.getD_eq_getElem?_getD,List.getElem?_eq_getElem bc];rfl
  rw[←hb]
  exact bb.2 _ _ _ Fm pC
 obtain⟨hL,aJ,d_⟩:=A0 aG pu hf
 have aj:=lM.alloc aR (.cells hL e)
 have hu:=sB he
 have fT:(Instr.buildSlice t n ks.toArray).run P E.w= .ok (.slice (some ⟨E.w.heap.size,0,none⟩) n n) (E.w.alloc (.cells hL e)):=by
  have EK: ¬n*z.length>2 ^ 24:=by omega
  simp only[Instr.buildSlice,Sem.run_bind,run_underlying hu,Result.andThen_ok,run_sizeOf (show(P.info? e).isSome=true by rw[h1];rfl),←oa,if_neg EK]
  have e6:Instr.fill (fun i=>some (i*z.length,z.length)) ((Array.range (n*z.length)).map (fun x=>lc[x%lc.size]!)) ks=some hL:=aJ
  by_cases q:n*z.length=0
  ·have pD:lc= #[]:=if_pos q
   rw[if_pos q]
   simp only[Sem.run_bind,Sem.run_pure,Result.andThen_ok]
   rw[←pD,e6]
   simp[newRow]
  ·have pD:lc=v.cells:=if_neg q
   rw[if_neg q]
   simp only[Sem.run_bind,Sem.run_pure,Result.andThen_ok,zeroValue,typeInfo,h1,h2,run_program]
   rw[←pD,e6]
   simp[newRow]
 have hlen:cells.length=n*z.length:=by
  have q:=d_.1
  have: ∀(parts:List (Nat×AV)) (c r:List AV),pi (fun i=>some (i*z.length,z.length)) c parts=some r→r.length=c.length:=by
   intro parts
   induction parts with
   | nil=>intro c r bV;cases bV;rfl
   | cons p ps bR=>
    intro c r bV
    obtain⟨a,b⟩:=p
    unfold pi at bV
    split at bV
    ·cases bV
    ·split at bV
     ·rename_i hc
      rw[bR _ _ bV];simp[fk];omega
     ·cases bV
  rw[this _ _ _ hf];simp
 refine⟨_,_,_,h,fT,aj,?_⟩
 have n4:(chunk z.length n (cells.map kq)).length=n:=by simp[chunk]
 show bF (E.w.alloc (.cells hL e)) (fun c=>E.PA c∨c=E.w.heap.size) (fun c=>E.PF c∨c=E.w.heap.size) _ _
 have key:=bF.bz (w:=E.w.alloc (.cells hL e)) (PA:=fun c=>E.PA c∨c=E.w.heap.size) (PF:=fun c=>E.PF c∨c=E.w.heap.size)
  (PB:=if cells.all nX=true then(fun c=>E.PF c∨c=E.w.heap.size) else(fun c=>E.PA c∨c=E.w.heap.size))
  (rows:=chunk z.length n (cells.map kq)) (full:=true) (fresh:=cells.all nX) (A:=some ⟨E.w.heap.size,0,none⟩) (cap:=n) (sz:=z.length) (vs:=fun i j=>(hL[i*z.length+j]?).getD undef)
  (fun c hc=>by split at hc<;>(rename_i q;simp only[q];first | exact hc | simpa using hc)) (by omega) (fun _=>n4.symm)
  (fun i row aJ=>by
   unfold chunk at aJ
   rw[List.getElem?_map] at aJ
   cases uq:(List.range n)[i]? with
   | none=>simp[uq] at aJ
   | some k=>
    have hi:i<n:=by have:=(List.getElem?_eq_some_iff.1 uq).1;simpa using this
    rw[List.getElem?_range hi] at aJ
    simp at aJ
    subst aJ
    have:i*z.length+z.length≤n*z.length:=by
     calc i*z.length+z.length=(i+1)*z.length:=by rw[Nat.add_mul,Nat.one_mul]
      _≤n*z.length:=Nat.mul_le_mul_right _ (by omega)
    simp;omega)
  (fun _=>⟨E.w.heap.size,0,rfl,by split<;>exact .inr rfl,fun i j hi aM=>by
   rw[n4] at hi
   have:i*z.length+z.length≤n*z.length:=by
    calc i*z.length+z.length=(i+1)*z.length:=by rw[Nat.add_mul,Nat.one_mul]
     _≤n*z.length:=Nat.mul_le_mul_right _ (by omega)
   have Fe:hL.size=n*z.length:=by rw[←hlen,d_.1];simp
   rw[Nat.zero_add]
   have bc:i*z.length+j<hL.size:=by omega
   rw[World.cell?_alloc_new]
   simp[Array.getElem?_eq_getElem bc]⟩)
  (fun i j row a aJ aM=>by
   obtain⟨hi,af0,hc⟩:=J8 aJ aM
   rw[List.getElem?_map] at hc
   cases ua:cells[i*z.length+j]? with
   | none=>simp[ua] at hc
   | some b=>
    simp[ua] at hc
    subst hc
    obtain⟨u,hu,g2⟩:=d_.get ua
    have EM:jv b=true:=List.all_eq_true.1 hby b (List.mem_of_getElem? ua)
    have n_:=Ax EM g2.up
    have np:(hL[i*z.length+j]?).getD undef=u:=by rw[Array.getElem?_toList] at hu;rw[hu];rfl
    rw[np]
    by_cases eC:cells.all nX=true
    ·have WQ:nX b=true:=List.all_eq_true.1 eC b (List.mem_of_getElem? ua)
     rw[if_pos eC]
     exact(Sq EM WQ n_).mono (fun c hc=>sp _ _ _ (aR.e9 c (aR.eW c hc))) (fun c hc=>hc.elim) (fun c hc=> .inl hc) (fun c hc=>hc)
    ·rw[if_neg eC]
     exact(Jd EM n_ (fun c hc=>hc) aR.eW).mono (fun c hc=>sp _ _ _ (aR.e9 c hc)) (fun c hc=>hc.elim) (fun c hc=> .inl hc) (fun c hc=>hc))
 rw[n4] at key
 exact key
def AZ (P:Program) (t:TypeId) (f:Nat):Option Field:=match P.underlying t with
 | some (.struct fx)=>fx.toList[f]?
 | _=>none
theorem UZ {P:Program} {t:TypeId} {f:Nat} {fd:Field} (h:AZ P t f=some fd): ∃fx,P.underlying t=some (.struct fx)∧fx[f]?=some fd:=by
 unfold AZ at h
 split at h
 ·rename_i fx n7;exact⟨fx,n7,by simpa using h⟩
 ·cases h
def Eg (P:Program) (t:TypeId) (x:AV) (f:Nat) (K:AV→Prop):Prop:=
 c3 (AZ P t f) fun fd=>if(P.info? fd.type).isSome=true∧P.cellsOf fd.type≠0 then(match x with
  | .fF s c=>K (.fF s (c+fd.offset))
  | .ptr b g r c=>K (.ptr b g r (c+fd.offset))
  | .dv cells c=>K (.dv cells (c+fd.offset))
  | _=>False) else False
theorem aby {P:Program} {fd:Field} {w:World} {c o:Nat} (hi:(P.info? fd.type).isSome=true) (aN:P.cellsOf fd.type≠0):
  (fieldPlace ⟨c,o,none⟩ fd).run P w= .ok ⟨c,o+fd.offset,none⟩ w:=by
 simp[fieldPlace,run_sizeOf hi,aN,nO]
theorem UY {P:Program} {t:TypeId} {x:AV} {f:Nat} {K:AV→Prop} {E:Env} {v:Value} (hx:V3 E x v)
  (h:Eg P t x f K):
  ∃r u,K r∧(Instr.fieldAt t v f).run P E.w= .ok u E.w∧V3 E r u:=by
 obtain⟨fd,hf,h⟩:=fA h
 obtain⟨fx,hu,WR⟩:=UZ hf
 split at h
 case isFalse=>exact h.elim
 case isTrue hc=>
 obtain⟨hi,aN⟩:=hc
 have run: ∀bl o,(Instr.fieldAt t (.pointer (some ⟨bl,o,none⟩)) f).run P E.w= .ok (.pointer (some ⟨bl,o+fd.offset,none⟩)) E.w:=by
  intro bl o
  simp[Instr.fieldAt,run_underlying hu,WR,Instr.sureAddr,aby hi aN]
 cases x with
 | fF s c=>
  obtain⟨bl,hm,rfl⟩:=hx.za
  exact⟨_,_,h,run bl c,bl,hm,rfl⟩
 | ptr b g r c=>
  rcases(show ft E (.ptr b g r c) v from hx) with⟨hg,bl,o,rfl⟩ | ⟨hg,bl,hm,rfl⟩
  ·exact⟨_,_,h,run bl o,.inl ⟨hg,_,_,rfl⟩⟩
  ·exact⟨_,_,h,run bl _,.inr ⟨hg,bl,hm,by rw[Nat.add_assoc]⟩⟩
 | dv cells c=>
  have jA:bF E.w E.PA E.PF (.dv cells c) v:=hx
  cases jA with
  | @dv _ _ _ _ bl o vs hc fh d_=>
   exact⟨_,_,h,run bl _,by rw[Nat.add_assoc];exact bF.dv hc fh d_⟩
 | _=>exact h.elim
def wP (P:Program) (t:TypeId) (x i:AV) (H:List Blk) (K:AV→Prop):Prop:=
 c3 (jg P t) fun e=>if(P.info? e).isSome=true then(match i with
  | .int _ n=>(match x with
   | .bz rows _ _=>0≤n∧c3 rows[n.toNat]? fun row=>row.length=P.cellsOf e∧K (.dv row 0)
   | .ref b g off m _=>c3 H[b]? fun blk=>blk.bC=g∧blk.sz=P.cellsOf e∧0≤n∧n<m∧K (.ptr b g (off+n.toNat) 0)
   | _=>False)
  | _=>False) else False
theorem XU {P:Program} {t:TypeId} {x i:AV} {K:AV→Prop} {E:Env} {L kx:List (Nat×List AV)} {H fa:List Blk} {v y2:Value} (sub:Sub L H kx fa) (aR:SimH E fa) (hx:V3 E x v) (hi:V3 E i y2)
  (h:wP P t x i H K): ∃r u,K r∧(Instr.indexAt t v y2).run P E.w= .ok u E.w∧V3 E r u:=by
 obtain⟨e,he,h⟩:=fA h
 have hu:=sB he
 split at h
 case isFalse=>exact h.elim
 case isTrue hinf=>
 cases i with
 | int k n=>
  obtain rfl:=hi.rW
  cases x with
  | bz rows full fresh=>
   obtain⟨aT,h⟩:=(show 0≤n∧c3 rows[n.toNat]? fun row=>row.length=P.cellsOf e∧K (.dv row 0) from h)
   obtain⟨row,aJ,aL,hK⟩:=fA h
   have bc:n.toNat<rows.length:=(List.getElem?_eq_some_iff.1 aJ).1
   have jA:bF E.w E.PA E.PF (.bz rows full fresh) v:=hx
   cases jA with
   | @bz _ _ PB _ _ _ A cap sz vs gj gO hn cV fh d_=>
    obtain⟨c,o,rfl,hc,eC⟩:=fh (by omega)
    have yR:=cV _ _ aJ
    refine⟨_,.pointer (some ⟨c,o+n.toNat*P.cellsOf e,none⟩),hK,?_,?_⟩
    ·simp only[Instr.indexAt,Sem.run_bind,asIntOf,Sem.run_pure,Result.andThen_ok,run_underlying hu]
     rw[if_pos ⟨aT,by omega⟩]
     simp[run_sizeOf hinf,nO]
    ·show bF _ _ _ _ _
     have:=bF.dv (w:=E.w) (PA:=E.PA) (PF:=E.PF) (cells:=row) (col:=0) (c:=c) (o:=o+n.toNat*P.cellsOf e) (vs:=vs n.toNat)
      (by have:=gj c hc;split at this;exact aR.eW c this;exact this)
      (fun j aM=>by rw[Nat.add_assoc,←aL,yR];exact eC n.toNat j bc (by omega))
      (fun j a aM=>(d_ n.toNat j row a aJ aM).mono (fun _ _=>rfl) (fun _ h=>h.elim) (fun d bg=>by
       have:=gj d bg;split at this;exact aR.eW d this;exact this) (fun _ h=>h))
     simpa using this
  | ref b g off m full=>
   obtain⟨blk,hb,hg,mQ,aT,h1,hK⟩:=fA (show c3 H[b]? fun blk=>blk.bC=g∧blk.sz=P.cellsOf e∧0≤n∧n<m∧K (.ptr b g (off+n.toNat) 0) from h)
   have hb:=sub.h b blk hb
   have kf:=aR.fb b blk hb
   rcases(show ft E (.ref b g off m full) v from hx) with⟨bV,_⟩ | ⟨fR,bV⟩
   ·omega
   ·rcases bV with⟨_,_,wC,_⟩ | ⟨c,cap,hm,rfl,oO,n6,qq⟩
    ·omega
    ·obtain⟨blk',a7,ty,q1,dU,_⟩:=aR.heap b c hm
     obtain rfl:blk=blk':=by rw[hb] at q1;exact Option.some.inj q1
     refine⟨_,.pointer (some ⟨c,(off+n.toNat)*E.sz b+0,none⟩),hK,?_,.inr ⟨fR,c,hm,rfl⟩⟩
     simp only[Instr.indexAt,Sem.run_bind,asIntOf,Sem.run_pure,Result.andThen_ok,run_underlying hu]
     rw[if_pos ⟨aT,h1⟩]
     simp[run_sizeOf hinf,nO,dU,mQ,Nat.add_mul]
  | _=>exact h.elim
 | _=>exact h.elim
def Fq (P:Program) (t:TypeId) (x i:AV) (K:AV→Prop):Prop:=match x with
 | .str s=>(match i with
  | .int _ n=>(match P.underlying t with
   | some .string=>0≤n∧n<s.size∧K (.int .u8 (s.data.getD n.toNat 0).toNat)
   | _=>False)
  | _=>False)
 | _=>False
theorem X3 {P:Program} {t:TypeId} {x i:AV} {K:AV→Prop} {E:Env} {v y2:Value} (hx:V3 E x v) (hi:V3 E i y2) (h:Fq P t x i K):
  ∃r u,K r∧(Instr.index t v y2).run P E.w= .ok u E.w∧V3 E r u:=by
 cases x with
 | str s=>
  cases i with
  | int k n=>
   obtain rfl:=hx.xE
   obtain rfl:=hi.rW
   have h:(match P.underlying t with
    | some .string=>0≤n∧n<s.size∧K (.int .u8 (s.data.getD n.toNat 0).toNat)
    | _=>False):=h
   split at h
   ·rename_i hu
    obtain⟨aT,h1,hK⟩:=h
    refine⟨_,.int .u8 (s.data.getD n.toNat 0).toNat,hK,?_,bF.int _ _⟩
    have bc:n.toNat<s.size:=by omega
    have E4:n.toNat<s.data.size:=bc
    have:s[n.toNat]?=some (s.data.getD n.toNat 0):=by
     rw[getElem?_pos s n.toNat bc]
     congr 1
     show s.data[n.toNat]=_
     rw[Array.getD_eq_getD_getElem?,Array.getElem?_eq_getElem E4];rfl
    simp only[Instr.index,Sem.run_bind,asIntOf,Sem.run_pure,Result.andThen_ok,run_underlying hu]
    rw[if_pos aT,this]
    rfl
   ·exact h.elim
  | _=>exact h.elim
 | _=>exact h.elim
def rZ (x:AV) (K:AV→Prop):Prop:=match x with
 | .bz rows _ _=>rows.length≤4611686018427387904→K (.int .i64 rows.length)
 | .str s=>K (.int .i64 s.size)
 | .ref _ _ _ n _=>K (.int .i64 n)
 | _=>False
def jY (P:Program) (t:TypeId) (x:AV):Bool:=match P.underlying t,x with
 | some .string,.str _=>true
 | some (.slice _),.bz _ _ _=>true
 | some (.slice _),.ref _ _ _ _ _=>true
 | _,_=>false
theorem ZQ {P:Program} {t ty:TypeId} {x:AV} {K:AV→Prop} {E:Env} {v:Value} (hx:V3 E x v)
  (bp:jY P t x=true) (h:rZ x K): ∃r u,K r∧(Builtin.len_ #[t] ty #[v]).run P E.w= .ok u E.w∧V3 E r u:=by
 unfold jY at bp
 split at bp<;>try (cases bp;done)
 ·rename_i s hu
  obtain rfl:=hx.xE
  exact⟨_,_,h,by simp[Builtin.len_,run_underlying hu,goInt],bF.int _ _⟩
 ·rename_i e rows eB fr hu
  have jA:bF E.w E.PA E.PF (.bz rows eB fr) v:=hx
  cases jA with
  | @bz _ _ PB _ _ _ A cap sz vs gj gO hn cV fh d_=>
   have h:rows.length≤4611686018427387904→K (.int .i64 rows.length):=h
   exact⟨_,_,h gO.2,by simp[Builtin.len_,run_underlying hu,goInt],bF.int _ _⟩
 ·rename_i e b g off n eB hu
  have h:K (.int .i64 n):=h
  rcases(show ft E (.ref b g off n eB) v from hx) with⟨_,A,cap,rfl⟩ | ⟨fR,bV⟩
  ·exact⟨_,_,h,by simp[Builtin.len_,run_underlying hu,goInt],bF.int _ _⟩
  ·rcases bV with⟨_,_,rfl,A,rfl⟩ | ⟨c,cap,hm,rfl,oO,n6,qq⟩
   ·exact⟨_,_,h,by simp[Builtin.len_,run_underlying hu,goInt],bF.int _ _⟩
   ·exact⟨_,_,h,by simp[Builtin.len_,run_underlying hu,goInt],bF.int _ _⟩
def Ec (x:AV) (i:Nat) (K:AV→Prop):Prop:=match x with
 | .tup l=>c3 l[i]? K
 | _=>False
theorem US {P:Program} {x:AV} {i:Nat} {K:AV→Prop} {E:Env} {v:Value} (hx:V3 E x v) (h:Ec x i K):
  ∃r u,K r∧(Instr.extract v i).run P E.w= .ok u E.w∧V3 E r u:=by
 cases x with
 | tup l=>
  obtain⟨vs,rfl,aG⟩:=hx
  obtain⟨a,a4,hK⟩:=fA (show c3 l[i]? K from h)
  obtain⟨u,hu,aJ⟩:=aG.get a4
  refine⟨a,u,hK,?_,p5 aJ⟩
  simp[Instr.extract,hu]
 | _=>exact h.elim
def CS (op:UnOp) (x:AV) (K:AV→Prop):Prop:=match op,x with
 | .not,.bool b=>K (.bool (!b))
 | .neg,.int k n=>K (.int k (k.wrap (0 - n)))
 | _,_=>False
theorem ae7 {P:Program} {op:UnOp} {x:AV} {K:AV→Prop} {E:Env} {v:Value} (hx:V3 E x v) (h:CS op x K):
  ∃r u,K r∧(Op.unary op v).run P E.w= .ok u E.w∧V3 E r u:=by
 unfold CS at h
 split at h
 ·obtain rfl:=hx.rm;exact⟨_,_,h,rfl,bF.bool _⟩
 ·obtain rfl:=hx.rW;exact⟨_,_,h,rfl,bF.int _ _⟩
 ·exact h.elim
def GD (x:AV) (K:AV→Prop):Prop:=match x with
 | .ptr _ _ _ _ | .fF _ _ | .dv _ _=>K x
 | _=>False
def wS (P:Program) (t:TypeId):Option IntKind:=match P.underlying t with
 | some (.int k)=>some k
 | _=>none
theorem Nw {P:Program} {t:TypeId} {k:IntKind} (h:wS P t=some k):P.underlying t=some (.int k):=by
 unfold wS at h
 split at h
 ·cases h;assumption
 ·cases h
def DL (P:Program) (s d:TypeId) (x:AV) (K:AV→Prop):Prop:=match x with
 | .int _ n=>c3 (wS P s) fun _=>c3 (wS P d) fun k=>K (.int k (k.wrap n))
 | _=>False
theorem Um {P:Program} {s d:TypeId} {x:AV} {K:AV→Prop} {E:Env} {v:Value} (hx:V3 E x v) (h:DL P s d x K):
  ∃r u,K r∧(Go.convert s d v).run P E.w= .ok u E.w∧V3 E r u:=by
 cases x with
 | int a_ n=>
  obtain⟨dP,h1,h⟩:=fA (show c3 (wS P s) _ from h)
  obtain⟨h_,h2,h⟩:=fA h
  obtain rfl:=hx.rW
  refine⟨_,_,h,?_,bF.int _ _⟩
  simp only[Go.convert,Sem.run_bind,run_underlying (Nw h1),run_underlying (Nw h2),Result.andThen_ok]
  rfl
 | _=>exact h.elim
def mc (x:Option AV) (d:Nat) (K:Nat→Prop):Prop:=match x with
 | none=>K d
 | some (.int _ n)=>0≤n∧K n.toNat
 | some _=>False
def vb (P:Program) (t:TypeId) (x:AV) (lo hi:Option AV) (H:List Blk) (K:AV→Prop):Prop:=match x with
 | .str s=>(match P.underlying t with
  | some .string=>mc lo 0 fun l=>mc hi s.size fun h=>l≤h∧h≤s.size∧K (.str (s.extract l h))
  | _=>False)
 | .bz rows _ fr=>c3 (jg P t) fun e=>if(P.info? e).isSome=true then
   mc lo 0 fun l=>mc hi rows.length fun h=>l≤h∧h≤rows.length∧(∀(i:Nat) (row:List AV),rows[i]?=some row→row.length=P.cellsOf e)∧K (.bz ((rows.drop l).take (h - l)) false fr) else False
 | .ref b g off n _=>c3 (jg P t) fun e=>if(P.info? e).isSome=true then
   c3 H[b]? fun blk=>blk.bC=g∧blk.sz=P.cellsOf e∧mc lo 0 fun l=>mc hi n fun h=>l≤h∧h≤n∧(l<h→K (.ref b g (off+l) (h - l) false))∧(l=h→K (.bz [] false true)) else False
 | _=>False
def Af (E:Env) (x:Option AV) (v:Option Value):Prop:=match x,v with
  | none,none=>True
  | some a,some u=>V3 E a u
  | _,_=>False
theorem vN {x:Option AV} {d:Nat} {K:Nat→Prop} {E:Env} {v:Option Value} (hx:Af E x v) (h:mc x d K): ∃n,K n∧((v=none∧n=d)∨ ∃k,v=some (.int k n)):=by
 cases x with
 | none=>
  cases v with
  | none=>exact⟨d,h,.inl ⟨rfl,rfl⟩⟩
  | some u=>exact hx.elim
 | some a=>
  cases v with
  | none=>exact hx.elim
  | some u=>
   cases a with
   | int k n=>
    obtain⟨aT,h⟩:=(show 0≤n∧K n.toNat from h)
    obtain rfl:=V3.rW hx
    exact⟨n.toNat,h,.inr ⟨k,by rw[Int.toNat_of_nonneg aT]⟩⟩
   | _=>exact h.elim
theorem Hq {P:Program} {w:World} {isS:Bool} {len cap l h:Nat} {lo hi:Option Value} (aL:(lo=none∧l=0)∨ ∃k,lo=some (.int k l)) (bV:(hi=none∧h=len)∨ ∃k,hi=some (.int k h))
  (h1:l≤h) (h2:h≤cap):(Instr.sliceBounds isS len cap lo hi none).run P w= .ok (l,h,cap) w:=by
 rcases aL with⟨rfl,rfl⟩ | ⟨l0,rfl⟩<;>rcases bV with⟨rfl,rfl⟩ | ⟨NA,rfl⟩
 ·simp[Instr.sliceBounds]
 ·simp[Instr.sliceBounds,run_sliceBound (P:=P) w NA (h:Int) cap _ (by omega) (by omega)]
 ·simp[Instr.sliceBounds,run_sliceBound (P:=P) w l0 (l:Int) _ _ (by omega) (show(l:Int)≤((_:Nat):Int) by exact Int.ofNat_le.2 h1)]
 ·simp[Instr.sliceBounds,run_sliceBound (P:=P) w NA (h:Int) cap _ (by omega) (by omega),run_sliceBound (P:=P) w l0 (l:Int) h _ (by omega) (by omega)]
theorem abT {P:Program} {t:TypeId} {x:AV} {lo hi:Option AV} {K:AV→Prop} {E:Env} {L kx:List (Nat×List AV)} {H fa:List Blk} {v:Value} {Jh Jg:Option Value} (sub:Sub L H kx fa) (aR:SimH E fa) (hx:V3 E x v)
  (E3:Af E lo Jh) (EV:Af E hi Jg)
  (h:vb P t x lo hi H K): ∃r u,K r∧(Instr.sliceAt t v Jh Jg none).run P E.w= .ok u E.w∧V3 E r u:=by
 cases x with
 | str s=>
  obtain rfl:=hx.xE
  have h:(match P.underlying t with
   | some .string=>mc lo 0 fun l=>mc hi s.size fun h=>l≤h∧h≤s.size∧K (.str (s.extract l h))
   | _=>False):=h
  split at h
  ·rename_i hu
   obtain⟨l,h,aL⟩:=vN E3 h
   obtain⟨q,⟨h1,h2,hK⟩,aj⟩:=vN EV h
   refine⟨_,.string (s.extract l q),hK,?_,bF.str _⟩
   rw[run_sliceAt_string E.w t _ _ _ _ hu]
   simp only[Instr.slice,Sem.run_bind,run_underlying hu,Result.andThen_ok]
   simp only[Option.isSome_none,Bool.false_eq_true,if_false]
   simp only[Sem.run_bind,Hq (P:=P) (w:=E.w) (isS:=false) aL aj h1 h2,Result.andThen_ok]
   rfl
  ·exact h.elim
 | bz rows full fr=>
  obtain⟨e,he,h⟩:=fA (show c3 (jg P t) fun e=>if(P.info? e).isSome=true then
   mc lo 0 fun l=>mc hi rows.length fun h=>l≤h∧h≤rows.length∧(∀(i:Nat) (row:List AV),rows[i]?=some row→row.length=P.cellsOf e)∧K (.bz ((rows.drop l).take (h - l)) false fr) else False from h)
  have hu:=sB he
  split at h
  case isFalse=>exact h.elim
  case isTrue hinf=>
  obtain⟨l,h,aL⟩:=vN E3 h
  obtain⟨q,⟨h1,h2,lq,hK⟩,aj⟩:=vN EV h
  have jA:bF E.w E.PA E.PF (.bz rows full fr) v:=hx
  cases jA with
  | @bz _ _ PB _ _ _ A cap sz vs gj gO hn cV fh d_=>
   have ud:P.elem t=e:=by simp[Program.elem,hu]
   have np:P.underlying t=some (.slice (P.elem t)):=by rw[ud];exact hu
   have hlen:((rows.drop l).take (q - l)).length=q - l:=by simp;omega
   refine⟨_,sliced A l q cap (P.cellsOf e),hK,?_,?_⟩
   ·rw[run_sliceAt_slice E.w t _ _ _ _ np,run_slice_any E.w t A rows.length cap np,Hq (P:=P) (w:=E.w) aL aj h1 (by omega)]
    simp only[Result.andThen_ok,ud,run_sizeOf hinf]
   ·show bF E.w E.PA E.PF _ (.slice _ (q - l) (cap - l))
    have key:=bF.bz (w:=E.w) (PA:=E.PA) (PF:=E.PF) (PB:=PB) (rows:=(rows.drop l).take (q - l)) (full:=false) (fresh:=fr) (A:=if cap=l then A else A.map (·.add (l*P.cellsOf e))) (cap:=cap - l) (sz:=sz) (vs:=fun i j=>vs (l+i) j)
     gj (by rw[hlen];omega) (fun h=>by cases h)
     (fun i row aJ=>by
      rw[List.getElem?_take] at aJ
      split at aJ
      ·rw[List.getElem?_drop] at aJ;exact cV _ _ aJ
      ·cases aJ)
     (fun aF=>by
      rw[hlen] at aF
      obtain⟨c,o,rfl,hc,eC⟩:=fh (by omega)
      have XD:sz=P.cellsOf e:=by
       have bc:l<rows.length:=by omega
       rw[←cV l _ (List.getElem?_eq_getElem bc)];exact lq l _ (List.getElem?_eq_getElem bc)
      refine⟨c,o+l*P.cellsOf e,by rw[if_neg (by omega)];simp[nO],hc,fun i j hi aM=> ?_⟩
      rw[hlen] at hi
      have:=eC (l+i) j (by omega) aM
      rw[←this,XD]
      congr 2
      rw[Nat.add_mul];omega)
     (fun i j row a aJ aM=>by
      rw[List.getElem?_take] at aJ
      split at aJ
      ·rw[List.getElem?_drop] at aJ;exact d_ _ _ _ _ aJ aM
      ·cases aJ)
    rw[hlen] at key
    exact key
 | ref b g off n full=>
  obtain⟨e,he,h⟩:=fA (show c3 (jg P t) fun e=>if(P.info? e).isSome=true then
   c3 H[b]? fun blk=>blk.bC=g∧blk.sz=P.cellsOf e∧mc lo 0 fun l=>mc hi n fun h=>l≤h∧h≤n∧(l<h→K (.ref b g (off+l) (h - l) false))∧(l=h→K (.bz [] false true)) else False from h)
  have hu:=sB he
  split at h
  case isFalse=>exact h.elim
  case isTrue hinf=>
  obtain⟨blk,hb,hg,mQ,h⟩:=fA h
  obtain⟨l,h,aL⟩:=vN E3 h
  obtain⟨q,⟨h1,h2,Wn,Lm⟩,aj⟩:=vN EV h
  have hb:=sub.h b blk hb
  have kf:=aR.fb b blk hb
  have ud:P.elem t=e:=by simp[Program.elem,hu]
  have np:P.underlying t=some (.slice (P.elem t)):=by rw[ud];exact hu
  have run: ∀A cap,n≤cap→(Instr.sliceAt t (.slice A n cap) Jh Jg none).run P E.w= .ok (sliced A l q cap (P.cellsOf e)) E.w:=by
   intro A cap hc
   rw[run_sliceAt_slice E.w t _ _ _ _ np,run_slice_any E.w t A n cap np,Hq (P:=P) (w:=E.w) aL aj h1 (by omega)]
   simp only[Result.andThen_ok,ud,run_sizeOf hinf]
  have empty: ∀A cap,l=q→V3 E (.bz [] false true) (sliced A l q cap (P.cellsOf e)):=by
   intro A cap uj
   subst uj
   show bF E.w E.PA E.PF _ (.slice _ (l - l) (cap - l))
   rw[Nat.sub_self]
   exact bF.bz (PB:=fun _=>False) (sz:=0) (vs:=fun _ _=>undef) (fun _ h=>h.elim) ⟨Nat.zero_le _,Nat.zero_le _⟩ (fun h=>by cases h) (fun i row h=>by simp at h) (fun h=>by simp at h) (fun i j row a h=>by simp at h)
  rcases(show ft E (.ref b g off n full) v from hx) with⟨bV,_⟩ | ⟨fR,bV⟩
  ·omega
  ·rcases bV with⟨_,_,rfl,A,rfl⟩ | ⟨c,cap,hm,rfl,oO,n6,qq⟩
   ·have uj:l=q:=by omega
    exact⟨_,_,Lm uj,run A 0 (Nat.le_refl _),empty _ _ uj⟩
   ·rcases Nat.lt_or_ge l q with bc | Bh
    ·refine⟨_,_,Wn bc,run _ cap oO,.inr ⟨fR,.inr ⟨c,cap - l,hm,?_,by omega,(fun h=>by cases h),by omega⟩⟩⟩
     obtain⟨blk',a7,ty,q1,dU,_⟩:=aR.heap b c hm
     obtain rfl:blk=blk':=by rw[hb] at q1;exact Option.some.inj q1
     simp only[sliced,if_neg (show ¬cap=l by omega),Option.map_some,nO,dU,mQ,Nat.add_mul]
    ·have uj:l=q:=by omega
     exact⟨_,_,Lm uj,run _ cap oO,empty _ _ uj⟩
 | _=>exact h.elim
def uO (P:Program) (f:FuncId):Bool:=match P.funcs[f]? with
 | some fn=> !(fn.name== "runtime.NumGoroutine")&&fn.body.isSome
 | none=>false
def dF (P:Program) (f:FuncId) (args:List AV) (H:List Blk) (Q:AV→List Blk→Prop):Prop:=
 uO P f=true∧ ∀(E:Env) (vs:List Value),(∀t,E.mL t=none)→SimH E H→aE (V2 E) args vs→
  Calls P f vs.toArray E.w fun e w'=> ∃r v H' E',e= .returned v∧Q r H'∧E'.w=w'∧(∀t,E'.mL t=none)∧SimH E' H'∧V3 E' r v∧Step E E'
theorem dF.mono {P:Program} {f:FuncId} {args:List AV} {H:List Blk} {Q vB:AV→List Blk→Prop} (h:dF P f args H Q) (aj: ∀r H',Q r H'→vB r H'):dF P f args H vB:=
 ⟨h.1,fun E vs a b c=>(h.2 E vs a b c).mono fun e w' ⟨r,v,H',E',h1,h2,aO⟩=>⟨r,v,H',E',h1,aj _ _ h2,aO⟩⟩
def zf:AV→Bool
 | .fF _ _ | .agg _ | .tup _=>false
 | _=>true
def w1:AV→Bool
 | .fn _ caps=>caps.all zf
 | a=>zf a
def jZ:AV→Bool
 | .agg cells=>cells.all w1
 | a=>w1 a
def w2:AV→Bool
 | .tup l=>l.all jZ
 | a=>jZ a
theorem ft.b6 {E:Env} {a:AV} {v:Value} (h:zf a=true) (hv:ft E a v):ft E.b6 a v:=by
 cases a<;>first | exact hv | cases h
theorem cI.b6 {E:Env} {a:AV} {v:Value} (h:w1 a=true) (hv:cI E a v):cI E.b6 a v:=by
 by_cases hf: ∃f caps,a= .fn f caps
 ·obtain⟨f,caps,rfl⟩:=hf
  obtain⟨vs,e,aG⟩:=hv
  exact⟨vs,e,aG.1,fun i x y hx br=>(aG.2 i x y hx br).b6 (List.all_eq_true.1 (show caps.all zf=true from h) x (List.mem_of_getElem? hx))⟩
 ·have aT:w1 a=zf a:=by cases a<;>first | rfl | exact absurd ⟨_,_,rfl⟩ hf
  rw[rj fun f c e=>hf ⟨f,c,e⟩] at hv ⊢
  exact hv.b6 (aT▸h)
theorem V2.b6 {E:Env} {a:AV} {v:Value} (h:jZ a=true) (hv:V2 E a v):V2 E.b6 a v:=by
 by_cases hf: ∃l,a= .agg l
 ·obtain⟨l,rfl⟩:=hf
  obtain⟨vs,e,aG⟩:=hv
  exact⟨vs,e,aG.1,fun i x y hx br=>(aG.2 i x y hx br).b6 (List.all_eq_true.1 (show l.all w1=true from h) x (List.mem_of_getElem? hx))⟩
 ·have aT:jZ a=w1 a:=by cases a<;>first | rfl | exact absurd ⟨_,rfl⟩ hf
  rw[pd fun l e=>hf ⟨l,e⟩] at hv ⊢
  exact hv.b6 (aT▸h)
theorem V3.b6 {E:Env} {a:AV} {v:Value} (h:w2 a=true) (hv:V3 E a v):V3 E.b6 a v:=by
 by_cases hf: ∃l,a= .tup l
 ·obtain⟨l,rfl⟩:=hf
  obtain⟨vs,e,aG⟩:=hv
  exact⟨vs,e,aG.1,fun i x y hx br=>(aG.2 i x y hx br).b6 (List.all_eq_true.1 (show l.all jZ=true from h) x (List.mem_of_getElem? hx))⟩
 ·have aT:w2 a=jZ a:=by cases a<;>first | rfl | exact absurd ⟨_,rfl⟩ hf
  rw[oB fun l e=>hf ⟨l,e⟩] at hv ⊢
  exact hv.b6 (aT▸h)
theorem SimH.b6 {E:Env} {H:List Blk} (h:SimH E H):SimH E.b6 H:=
 {h with
  jC:=fun t jJ c hm=>by cases hm
  gR:=fun b t c _ hm=>by cases hm
  im:=fun c _ ⟨t,hm⟩=>by cases hm
  g4:=fun c ⟨t,hm⟩=>by cases hm}
theorem Good.toStep [cH] {cw E:Env} (h:Good cw E):Step cw E.b6:=
 ⟨⟨h.le.fI,h.le.fJ,h.le.tx,h.le.wf,h.le.bC,h.le.m,fun t c hm=>by rw[h.b6 t] at hm;cases hm⟩,h.os,h.tape,h.output,h.size,fun c hc h1 _=>h.fe c hc h1,h.jj,(fun c ⟨t,hm⟩=>by cases hm),h.fI,h.fJ⟩
def qR (P:Program) (aI:St):List ResultVar→(List AV→Prop)→Prop
 | [],K=>K []
 | .tmp t::rs,K=>qR P aI rs fun l=>K (aI.T.getD t .undef::l)
 | .cell a t::rs,K=>oR P t (aI.T.getD a .undef) aI.L aI.H fun x=>qR P aI rs fun l=>K (x::l)
def sk:List AV→AV
 | [x]=>x
 | l=> .tup l
def th (P:Program) (fn:Func) (aI:St) (Q:AV→List Blk→Prop):Prop:=qR P aI fn.results.toList fun l=>l.all jZ=true∧Q (sk l) aI.H
theorem Tg {E:Env} {P:Program} {t:TypeId} {x:AV} {L:List (Nat×List AV)} {H:List Blk} {K:AV→Prop} {v:Value} (aR:SimH E H) (b0:SimL E L) (hx:V3 E x v) (h:oR P t x L H K):
  ∃a e4,K a∧(do loadVar t (←asAddr v):Sem Value).run P E.w= .ok e4 E.w∧V2 E a e4:=by
 obtain⟨a,e4,hK,aJ,hv⟩:=NQ (Sub.refl L H) aR b0 hx h
 refine⟨a,e4,hK,?_,hv⟩
 have: ∃lN,v= .pointer (some lN):=by
  cases x with
  | fF s c=>obtain⟨bl,_,rfl⟩:=hx.za;exact⟨_,rfl⟩
  | ptr b g r c=>
   rcases(show ft E (.ptr b g r c) v from hx) with⟨_,bl,o,rfl⟩ | ⟨_,bl,_,rfl⟩<;>exact⟨_,rfl⟩
  | dv cells c=>
   have jA:bF E.w E.PA E.PF (.dv cells c) v:=hx
   cases jA;exact⟨_,rfl⟩
  | _=>exact h.elim
 obtain⟨lN,rfl⟩:=this
 simpa[Instr.loadAt,Instr.sureAddr,asAddr] using aJ
theorem Hk {P:Program} {aI:St} {E:Env} {tmps:Array Value} (hs:tG E aI tmps) {f:ResultVar→Sem Value} (f1: ∀t,f (.tmp t)=pure (tmps.getD t undef))
  (f2: ∀a t,f (.cell a t)=do loadVar t (←asAddr (tmps.getD a undef))): ∀(rs:List ResultVar) (K:List AV→Prop),qR P aI rs K→
  ∃l vs,K l∧(rs.mapM f).run P E.w= .ok vs E.w∧aE (V3 E) l vs
 | [],K,h=>⟨[],[],h,rfl,aE.nil⟩
 | .tmp t::rs,K,h=>by
  obtain⟨l,vs,hK,aJ,aG⟩:=Hk hs f1 f2 rs _ h
  exact⟨_,_,hK,by simp only[List.mapM_cons,f1,Sem.run_bind,Sem.run_pure,Result.andThen_ok,aJ],aE.cons (hs.iv t) aG⟩
 | .cell a t::rs,K,h=>by
  obtain⟨x,e4,h2,Bw,hv⟩:=Tg hs.h hs.l (hs.iv a) h
  obtain⟨l,vs,hK,aJ,aG⟩:=Hk hs f1 f2 rs _ h2
  refine⟨_,_,hK,?_,aE.cons (p5 hv) aG⟩
  simp only[List.mapM_cons,f2]
  rw[Sem.run_bind,Bw]
  simp only[Result.andThen_ok,Sem.run_bind,aJ,Sem.run_pure]
theorem abm (fn:Func) (tmps:Array Value): ∃f:ResultVar→Sem Value,results fn tmps=(fn.results.mapM f>>=fun vs=>pure (if h:vs.size=1 then vs[0] else .tuple vs))∧(∀t,f (.tmp t)=pure (tmps.getD t undef))∧
  ∀b t,f (.cell b t)=(asAddr (tmps.getD b undef)>>=fun a=>loadVar t a):=⟨_,rfl,fun _=>rfl,fun _ _=>rfl⟩
def tE (P:Program) (fn:Func) (Q:AV→List Blk→Prop) (ex:Exit) (aI:St):Prop:=match ex with
 | .normal | .ret=>th P fn aI Q
 | _=>False
def y1 (fn:Func) (args:List AV) (H:List Blk):St:=⟨args++List.replicate (fn.ntmps - args.length) .undef,[],H⟩
theorem S6 {E:Env} {a:AV} {v:Value} (h:jZ a=true) (hv:V3 E a v) (bp: ∀l,a≠ .tup l):V2 E.b6 a v:=by
 rw[oB bp] at hv;exact hv.b6 h
theorem dF.GK {P:Program} {f:FuncId} {fn:Func} {c:Code} {args:List AV} {H:List Blk} {Q:AV→List Blk→Prop} (hf:P.funcs[f]?=some fn) (hb:fn.body=some c) (aF:(fn.name== "runtime.NumGoroutine")=false)
  (h: ∀iK:cH,iK.n=H.length→WpS P c (tE P fn Q) (y1 fn args H)):dF P f args H Q:=by
 refine⟨by simp[uO,hf,hb,aF],?_⟩
 intro E vs aF aR aG
 letI:cH:=⟨H.length⟩
 refine calls_of_wp hf hb (wp_mono (h ⟨H.length⟩ rfl E E {tmps:=vs.toArray++Array.replicate (fn.ntmps - vs.toArray.size) undef,defers:=[]} (Good.refl aR.fresh aF) ⟨aR,(fun t c hm=>by rw[aF t] at hm;cases hm),fun t=> ?_,?_⟩ rfl) ?_)
 ·show V3 E ((args++List.replicate (fn.ntmps - args.length) AV.undef).getD t AV.undef) _
  rcases Nat.lt_or_ge t args.length with bc | fR
  ·have h1:args[t]?=some args[t]:=List.getElem?_eq_getElem bc
   obtain⟨v,hv,aJ⟩:=aG.get h1
   have E4:t<vs.length:=aG.1▸bc
   have bx:(args++List.replicate (fn.ntmps - args.length) AV.undef).getD t .undef=args[t]:=by
    rw[List.getD_eq_getElem?_getD,List.getElem?_append_left bc,h1];rfl
   have e2:(vs.toArray++Array.replicate (fn.ntmps - vs.toArray.size) undef).getD t undef=v:=by
    rw[Array.getD_eq_getD_getElem?,Array.getElem?_append_left (by simpa using E4)]
    simp[hv]
   rw[bx,e2];exact p5 aJ
  ·have bx:(args++List.replicate (fn.ntmps - args.length) AV.undef).getD t .undef= .undef:=by
    rw[List.getD_eq_getElem?_getD,List.getElem?_append_right fR,List.getElem?_replicate];split<;>rfl
   rw[bx];exact V3.undef _ _
 ·simp[y1,aG.1]
 ·rintro e a w ⟨hex,aI,E',aj,hw,hg,hs,bg⟩
  have fin:th P fn aI Q→a.defers=[]∧ ∃v,(results fn a.tmps).run P w= .ok v w∧ ∃r Sx H' E',(Ending.returned v)= .returned Sx∧Q r H'∧E'.w=w∧(∀t,E'.mL t=none)∧SimH E' H'∧V3 E' r Sx∧Step E E':=by
   intro Fa
   refine⟨bg,?_⟩
   subst hw
   have hm: ∀f:ResultVar→Sem Value,(∀t,f (.tmp t)=pure (a.tmps.getD t undef))→(∀b t,f (.cell b t)=do loadVar t (←asAddr (a.tmps.getD b undef)))→ ∃l kr,(l.all jZ=true∧Q (sk l) aI.H)∧(fn.results.mapM f).run P E'.w= .ok (List.toArray kr) E'.w∧aE (V3 E') l kr:=by
    intro f f1 f2
    obtain⟨l,kr,h1,aJ,h2⟩:=Hk hs f1 f2 _ _ Fa
    exact⟨l,kr,h1,by rw[Array.mapM_eq_mapM_toList,Sem.run_map,aJ];rfl,h2⟩
   obtain⟨f,WN,WO,hf2⟩:=abm fn a.tmps
   obtain⟨l,kr,⟨LS,Wp⟩,aJ,wH⟩:=hm f WO hf2
   refine⟨if h:kr.toArray.size=1 then kr.toArray[0] else .tuple kr.toArray,?_,sk l,_,aI.H,E'.b6,rfl,Wp,rfl,fun _=>rfl,hs.h.b6,?_,hg.toStep⟩
   ·rw[WN,Sem.run_bind,aJ];rfl
   ·cases l with
    | nil=>
     obtain rfl:=wH.w0
     exact⟨[],rfl,aE.nil⟩
    | cons x l=>
     obtain⟨u,age,rfl,hx,L3⟩:=wH.cons_inv
     cases l with
     | nil=>
      obtain rfl:=L3.w0
      show V3 E'.b6 x u
      have mj:jZ x=true:=by simpa using LS
      exact hx.b6 (by cases x<;>first | exact mj | (cases mj))
     | cons y l=>
      obtain⟨z,ae9,rfl,br,af4⟩:=L3.cons_inv
      have cV: ¬(List.toArray (u::z::ae9)).size=1:=by simp
      rw[dif_neg cV]
      refine⟨_,rfl,?_⟩
      refine⟨wH.1,fun i p q L2 Xv=> ?_⟩
      have hv:=wH.2 i p q L2 Xv
      have mj:jZ p=true:=List.all_eq_true.1 LS p (List.mem_of_getElem? L2)
      have bp: ∀l,p≠ .tup l:=by
       intro l e;subst e;cases mj
      exact S6 mj hv bp
  cases e with
  | normal=>exact fin aj
  | ret=>exact fin aj
  | exit id=>exact aj.elim
  | _=>cases hex
inductive fZ (L:List (Nat×List AV)) (H:List Blk):AV→AV→Prop where
 | undef (a:AV):fZ L H a .undef
 | int (k:IntKind) (n:Int):fZ L H (.int k n) (.int k n)
 | bool (b:Bool):fZ L H (.bool b) (.bool b)
 | str (s:ByteArray):fZ L H (.str s) (.str s)
 | gd:fZ L H .gd .gd
 | gx:fZ L H .gx .gx
 | bz (rows:List (List AV)) (full fr eB:Bool) (hw:eB=true→full=true):fZ L H (.bz rows full fr) (.bz rows eB false)
 | dv (cells:List AV) (c:Nat):fZ L H (.dv cells c) (.dv cells c)
 | fF {t c:Nat} {cells gY:List AV} (h:eU L t=some cells) (aL:cells.length=gY.length)
   (aJ: ∀(j:Nat) (a b:AV),cells[j]?=some a→gY[j]?=some b→fZ L H a b):fZ L H (.fF t c) (.dv gY c)
 | ptr {b g r c:Nat} {blk:Blk} {row row':List AV} (hb:H[b]?=some blk) (hg:blk.bC=g) (eV:blk.rows[r]?=some row) (aL:row.length=row'.length)
   (aJ: ∀(j:Nat) (a b:AV),row[j]?=some a→row'[j]?=some b→fZ L H a b):fZ L H (.ptr b g r c) (.dv row' c)
 | ref {b g off n:Nat} {full eB:Bool} {blk:Blk} {iE:List (List AV)} (hw:eB=true→full=true) (hb:H[b]?=some blk) (hg:blk.bC=g) (aF:iE.length=n) (g1:n≤4611686018427387904) (aC:off+n≤blk.rows.length)
   (aL: ∀(i:Nat) (row row':List AV),blk.rows[off+i]?=some row→iE[i]?=some row'→row.length=row'.length)
   (aJ: ∀(i j:Nat) (row row':List AV) (a c:AV),blk.rows[off+i]?=some row→iE[i]?=some row'→row[j]?=some a→row'[j]?=some c→fZ L H a c):
   fZ L H (.ref b g off n full) (.bz iE eB false)
 | fn {f:FuncId} {caps yb:List AV} (aL:caps.length=yb.length) (aJ: ∀(j:Nat) (a b:AV),caps[j]?=some a→yb[j]?=some b→fZ L H a b):fZ L H (.fn f caps) (.fn f yb)
def dc (L:List (Nat×List AV)) (H:List Blk) (a b:AV):Prop:=
 (∃l fp,a= .agg l∧b= .agg fp∧aE (fZ L H) l fp)∨fZ L H a b
def Env.frozen (E:Env):Env:={w:=E.w,PA:=fun c=>E.PA c∨E.gQ c∨E.kG c,PF:=fun _=>False,m:=fun _=>none,bC:=fun _=>0,sz:=fun _=>0,cp:=fun _=>0,mL:=fun _=>none}
theorem K5 {E:Env} {H:List Blk} (h:SimH E H):SimH E.frozen [] where
 heap:=fun b c hb=>by cases hb
 fb:=fun b blk hb=>by simp at hb
 hp:=fun b hb=>by cases hb
 fresh:=fun b _=>⟨rfl,rfl⟩
 hV:=fun b cl c hb=>by cases hb
 jC:=fun t jJ c hb=>by cases hb
 gR:=fun b t c hb=>by cases hb
 hW:=fun c _ ⟨b,hb⟩=>by cases hb
 im:=fun c _ ⟨b,hb⟩=>by cases hb
 eW:=fun c hc=>hc.elim
 e9:=fun c hc=>hc.elim (h.e9 c) fun hc=>hc.elim (h.gw c) (h.g4 c)
 gw:=fun c ⟨b,hb⟩=>by cases hb
 g4:=fun c ⟨b,hb⟩=>by cases hb
theorem C8 {E:Env} {a:AV} {v:Value} (h:ft E a v):cI E a v:=by
 by_cases hf: ∃f caps,a= .fn f caps
 ·obtain⟨f,caps,rfl⟩:=hf
  exact bF.v1 h
 ·rw[rj fun f c e=>hf ⟨f,c,e⟩];exact h
theorem P6 {L kx:List (Nat×List AV)} {H fa:List Blk} {E:Env} (sub:Sub L H kx fa) (aR:SimH E fa) (b0:SimL E kx) {a b:AV} (h:fZ L H a b):
  ∀{v:Value},cI E a v→bF E.w (fun c=>E.PA c∨E.gQ c∨E.kG c) (fun _=>False) b v:=by
 induction h with
 | undef a=>intro v _;exact .undef v
 | int k n=>intro v hv;have hv:bF E.w E.PA E.PF (.int k n) v:=hv;cases hv;exact .int _ _
 | bool k=>intro v hv;have hv:bF E.w E.PA E.PF (.bool k) v:=hv;cases hv;exact .bool _
 | str k=>intro v hv;have hv:bF E.w E.PA E.PF (.str k) v:=hv;cases hv;exact .str _
 | gd=>intro v hv;have hv:bF E.w E.PA E.PF .gd v:=hv;cases hv;exact .gd
 | gx=>intro v hv;have hv:bF E.w E.PA E.PF .gx v:=hv;cases hv;exact .gx
 | bz rows full fr eB hw=>
  intro v hv
  have hv:bF E.w E.PA E.PF (.bz rows full fr) v:=hv
  cases hv with
  | bz gj gO hn cV fh d_=>
   exact .bz (fun c hc=>by
    have:=gj c hc
    simp only[Bool.false_eq_true,if_false]
    split at this
    ·exact .inl (aR.eW c this)
    ·exact .inl this) gO (fun h=>hn (hw h)) cV fh d_
 | dv cells c=>
  intro v hv
  have hv:bF E.w E.PA E.PF (.dv cells c) v:=hv
  cases hv with
  | dv hc fh d_=>exact .dv (.inl hc) fh fun j a aM=>(d_ j a aM).mono (fun _ _=>rfl) (fun _ h=>h.elim) (fun c hc=> .inl hc) (fun _ h=>h)
 | @fF t c cells gY hg aL aJ bR=>
  intro v hv
  obtain⟨bl,hm,rfl⟩:=(show ∃bl,E.mL t=some bl∧v= .pointer (some ⟨bl,c,none⟩) from hv)
  obtain⟨Ay,a7,ty,yD,hw,aG⟩:=b0 t bl hm
  obtain rfl:cells=Ay:=by have:=sub.l _ _ hg;rw[yD] at this;exact(Option.some.inj this).symm
  have key:=bF.dv (w:=E.w) (PA:=fun c=>E.PA c∨E.gQ c∨E.kG c) (PF:=fun _=>False) (cells:=gY) (col:=c) (c:=bl) (o:=0) (vs:=fun j=>(a7[j]?).getD undef)
   (.inr (.inr ⟨t,hm⟩))
   (fun j aM=>by
    have bc:j<a7.size:=by have:=aG.1;simp at this;omega
    rw[Nat.zero_add]
    rw[cell_of hw (Array.getElem?_eq_getElem bc)]
    simp[Array.getElem?_eq_getElem bc])
   (fun j b aM=>by
    have bc:j<cells.length:=by have:=(List.getElem?_eq_some_iff.1 aM).1;omega
    obtain⟨u,hu,g2⟩:=aG.get (List.getElem?_eq_getElem bc)
    have:(a7[j]?).getD undef=u:=by rw[Array.getElem?_toList] at hu;rw[hu];rfl
    rw[this]
    exact bR j _ b (List.getElem?_eq_getElem bc) aM g2.up)
  rw[Nat.zero_add] at key
  exact key
 | @ptr b g r c blk row row' hb hg eV aL aJ bR=>
  intro v hv
  have hb:=sub.h b blk hb
  have kf:=aR.fb b blk hb
  obtain⟨bl,hm,rfl⟩:=V3.Ch (E:=E) (v:=v) (show V3 E (.ptr b g r c) v from hv) (kf.trans hg)
  obtain⟨blk',a7,ty,q1,dU,hw,mh,hlen,gu⟩:=aR.heap b bl hm
  obtain rfl:blk=blk':=by rw[hb] at q1;exact Option.some.inj q1
  exact bF.dv (vs:=fun j=>(a7[r*E.sz b+j]?).getD undef) (.inr (.inl ⟨b,hm⟩))
   (fun j aM=>by
    have bc:j<row.length:=by omega
    obtain⟨u,hu,_⟩:=gu.2 r j row _ eV (List.getElem?_eq_getElem bc)
    rw[cell_of hw hu,hu];rfl)
   (fun j dg aM=>by
    have bc:j<row.length:=by have:=(List.getElem?_eq_some_iff.1 aM).1;omega
    obtain⟨u,hu,g2⟩:=gu.2 r j row _ eV (List.getElem?_eq_getElem bc)
    rw[hu]
    exact bR j _ dg (List.getElem?_eq_getElem bc) aM g2.up)
 | @ref b g off n full eB blk iE Fi hb hg aF g1 aC aL aJ bR=>
  intro v hv
  have hb:=sub.h b blk hb
  have kf:=aR.fb b blk hb
  rcases(show ft E (.ref b g off n full) v from hv) with⟨bV,_⟩ | ⟨fR,bV⟩
  ·omega
  ·rcases bV with⟨_,_,mi,A,rfl⟩ | ⟨c,cap,hm,rfl,oO,n6,qq⟩
   ·subst mi
    obtain rfl:iE=[]:=List.eq_nil_of_length_eq_zero aF
    exact bF.bz (rows:=[]) (PB:=fun _=>False) (sz:=0) (vs:=fun _ _=>undef) (fun _ h=>h.elim) ⟨Nat.le_refl _,Nat.zero_le _⟩ (fun _=>rfl) (fun i row h=>by simp at h) (fun h=>by simp at h) (fun i j row a h=>by simp at h)
   ·obtain⟨blk',a7,ty,q1,dU,hw,mh,hlen,gu⟩:=aR.heap b c hm
    obtain rfl:blk=blk':=by rw[hb] at q1;exact Option.some.inj q1
    subst aF
    have eV: ∀i,i<iE.length→ ∃row,blk.rows[off+i]?=some row:=fun i hi=>⟨_,List.getElem?_eq_getElem (by omega)⟩
    refine bF.bz (PB:=fun c=>E.PA c∨E.gQ c∨E.kG c) (sz:=E.sz b) (vs:=fun i j=>(a7[(off+i)*E.sz b+j]?).getD undef) (fun c hc=>by simpa using hc) ⟨oO,g1⟩ (fun h=>n6 (Fi h))
     (fun i row' e6=> ?_) (fun ln=>⟨c,off*E.sz b,rfl,.inr (.inl ⟨b,hm⟩),fun i j hi aM=> ?_⟩) (fun i j row' a e6 aM=> ?_)
    ·obtain⟨row,h9⟩:=eV i (List.getElem?_eq_some_iff.1 e6).1
     rw[←aL i row row' h9 e6];exact gu.1 _ row h9
    ·obtain⟨row,h9⟩:=eV i hi
     have bc:j<row.length:=by rw[gu.1 _ row h9];exact aM
     obtain⟨u,hu,_⟩:=gu.2 (off+i) j row _ h9 (List.getElem?_eq_getElem bc)
     rw[show off*E.sz b+(i*E.sz b+j)=(off+i)*E.sz b+j by rw[Nat.add_mul];omega,cell_of hw hu,hu];rfl
    ·obtain⟨row,h9⟩:=eV i (List.getElem?_eq_some_iff.1 e6).1
     have bc:j<row.length:=by rw[aL i row row' h9 e6];exact(List.getElem?_eq_some_iff.1 aM).1
     obtain⟨u,hu,g2⟩:=gu.2 (off+i) j row _ h9 (List.getElem?_eq_getElem bc)
     rw[hu]
     exact bR i j row row' _ a h9 e6 (List.getElem?_eq_getElem bc) aM g2.up
 | @fn f caps yb aL aJ bR=>
  intro v hv
  obtain⟨vs,rfl,aG⟩:=(show ∃vs:List Value,v= .func (.func f) #[] vs.toArray∧aE (ft E) caps vs from hv)
  exact .fn (aL▸aG.1) fun i b u hb hu=>by
   have bc:i<caps.length:=by have:=(List.getElem?_eq_some_iff.1 hb).1;omega
   exact bR i _ b (List.getElem?_eq_getElem bc) hb (C8 (aG.2 i _ u (List.getElem?_eq_getElem bc) hu))
theorem P7 {L kx:List (Nat×List AV)} {H fa:List Blk} {E:Env} (sub:Sub L H kx fa) (aR:SimH E fa) (b0:SimL E kx) {a b:AV} (h:dc L H a b) {v:Value} (hv:V2 E a v):V2 E.frozen b v:=by
 rcases h with⟨l,fp,rfl,rfl,aG⟩ | h
 ·obtain⟨vs,rfl,aj⟩:=hv
  refine⟨vs,rfl,aG.1▸aj.1,fun i x u hx hu=> ?_⟩
  have bc:i<l.length:=by have:=(List.getElem?_eq_some_iff.1 hx).1;have:=aG.1;omega
  have aL:=List.getElem?_eq_getElem bc
  exact bF.v1 (E:=E.frozen) (P6 sub aR b0 (aG.2 i _ x aL hx) (aj.2 i _ u aL hu))
 ·by_cases hf: ∃l,a= .agg l
  ·obtain⟨l,rfl⟩:=hf
   cases h with
   | undef=>exact bF.undef v
  ·rw[pd fun l e=>hf ⟨l,e⟩] at hv
   exact p4 (bF.v1 (E:=E.frozen) (P6 sub aR b0 h hv))
inductive gD (H:List Blk):AV→AV→Prop where
 | int (k:IntKind) (n:Int):gD H (.int k n) (.int k n)
 | bool (b:Bool):gD H (.bool b) (.bool b)
 | str (s:ByteArray):gD H (.str s) (.str s)
 | gd:gD H .gd .gd
 | gx:gD H .gx .gx
 | bz (rows:List (List AV)) (full eB:Bool) (hw:eB=true→full=true):gD H (.bz rows full true) (.bz rows eB true)
 | N1 (full fr eB:Bool) (hw:eB=true→full=true):gD H (.bz [] full fr) (.bz [] eB true)
 | ref {b g off n:Nat} {full eB:Bool} {blk:Blk} {iE:List (List AV)} (hw:eB=true→full=true) (a7:Nat→Nat→AV) (hb:H[b]?=some blk) (hg:blk.bC=g) (aF:iE.length=n) (g1:n≤4611686018427387904) (aC:off+n≤blk.rows.length)
   (aL: ∀(i:Nat) (row row':List AV),blk.rows[off+i]?=some row→iE[i]?=some row'→row.length=row'.length)
   (aJ: ∀(i j:Nat) (row:List AV) (a:AV),i<n→blk.rows[off+i]?=some row→row[j]?=some a→gD H a (a7 i j))
   (hc: ∀(i j:Nat) (row':List AV) (c:AV),iE[i]?=some row'→row'[j]?=some c→c=kq (a7 i j)):
   gD H (.ref b g off n full) (.bz iE eB true)
def so (H:List Blk) (a b:AV):Prop:=(∃l fp,a= .agg l∧b= .agg fp∧aE (gD H) l fp)∨gD H a b
def iy (H:List Blk) (a b:AV):Prop:=(∃l fp,a= .tup l∧b= .tup fp∧aE (so H) l fp)∨so H a b
theorem acx {H:List Blk} {a b:AV} (h:gD H a b):jv b=true:=by cases h<;>rfl
theorem P9 {H:List Blk} {E:Env} (aR:SimH E H) {a b:AV} (h:gD H a b):
  ∀{v:Value},cI E a v→bF E.w (fun c=>E.PF c∨E.gQ c) (fun c=>E.PF c∨E.gQ c) b v:=by
 induction h with
 | int k n=>intro v hv;have hv:bF E.w E.PA E.PF (.int k n) v:=hv;cases hv;exact .int _ _
 | bool k=>intro v hv;have hv:bF E.w E.PA E.PF (.bool k) v:=hv;cases hv;exact .bool _
 | str k=>intro v hv;have hv:bF E.w E.PA E.PF (.str k) v:=hv;cases hv;exact .str _
 | gd=>intro v hv;have hv:bF E.w E.PA E.PF .gd v:=hv;cases hv;exact .gd
 | gx=>intro v hv;have hv:bF E.w E.PA E.PF .gx v:=hv;cases hv;exact .gx
 | bz rows full eB hw=>
  intro v hv
  have hv:bF E.w E.PA E.PF (.bz rows full true) v:=hv
  cases hv with
  | bz gj gO hn cV fh d_=>exact .bz (fun c hc=>by have:=gj c hc;simp at this ⊢;exact .inl this) gO (fun h=>hn (hw h)) cV fh d_
 | N1 full fr eB hw=>
  intro v hv
  have hv:bF E.w E.PA E.PF (.bz [] full fr) v:=hv
  cases hv with
  | bz gj gO hn cV fh d_=>exact bF.bz (rows:=[]) (PB:=fun _=>False) (sz:=0) (vs:=fun _ _=>undef) (fun _ h=>h.elim) gO (fun h=>hn (hw h)) (fun i row h=>by simp at h) (fun h=>by simp at h) (fun i j row a h=>by simp at h)
 | @ref b g off n full eB blk iE Fi a7 hb hg aF g1 aC aL aJ hc bR=>
  intro v hv
  have kf:=aR.fb b blk hb
  rcases(show ft E (.ref b g off n full) v from hv) with⟨bV,_⟩ | ⟨fR,bV⟩
  ·omega
  ·rcases bV with⟨_,_,mi,A,rfl⟩ | ⟨c,cap,hm,rfl,oO,n6,qq⟩
   ·subst mi
    obtain rfl:iE=[]:=List.eq_nil_of_length_eq_zero aF
    exact bF.bz (rows:=[]) (PB:=fun _=>False) (sz:=0) (vs:=fun _ _=>undef) (fun _ h=>h.elim) ⟨Nat.le_refl _,Nat.zero_le _⟩ (fun _=>rfl) (fun i row h=>by simp at h) (fun h=>by simp at h) (fun i j row a h=>by simp at h)
   ·obtain⟨blk',vQ,ty,q1,dU,hw,mh,hlen,gu⟩:=aR.heap b c hm
    obtain rfl:blk=blk':=by rw[hb] at q1;exact Option.some.inj q1
    subst aF
    have eV: ∀i,i<iE.length→ ∃row,blk.rows[off+i]?=some row:=fun i hi=>⟨_,List.getElem?_eq_getElem (by omega)⟩
    refine bF.bz (PB:=fun c=>E.PF c∨E.gQ c) (sz:=E.sz b) (vs:=fun i j=>(vQ[(off+i)*E.sz b+j]?).getD undef) (fun c hc=>by simpa using hc) ⟨oO,g1⟩ (fun h=>n6 (Fi h))
     (fun i row' e6=> ?_) (fun ln=>⟨c,off*E.sz b,rfl,.inr ⟨b,hm⟩,fun i j hi aM=> ?_⟩) (fun i j row' a e6 aM=> ?_)
    ·obtain⟨row,h9⟩:=eV i (List.getElem?_eq_some_iff.1 e6).1
     rw[←aL i row row' h9 e6];exact gu.1 _ row h9
    ·obtain⟨row,h9⟩:=eV i hi
     have bc:j<row.length:=by rw[gu.1 _ row h9];exact aM
     obtain⟨u,hu,_⟩:=gu.2 (off+i) j row _ h9 (List.getElem?_eq_getElem bc)
     rw[show off*E.sz b+(i*E.sz b+j)=(off+i)*E.sz b+j by rw[Nat.add_mul];omega,cell_of hw hu,hu];rfl
    ·have hi:=(List.getElem?_eq_some_iff.1 e6).1
     obtain⟨row,h9⟩:=eV i hi
     have bc:j<row.length:=by rw[aL i row row' h9 e6];exact(List.getElem?_eq_some_iff.1 aM).1
     obtain⟨u,hu,g2⟩:=gu.2 (off+i) j row _ h9 (List.getElem?_eq_getElem bc)
     have h1:=bR i j row _ hi h9 (List.getElem?_eq_getElem bc) g2.up
     have h2:=acx (aJ i j row _ hi h9 (List.getElem?_eq_getElem bc))
     rw[hu,hc i j row' a e6 aM]
     exact Jd h2 h1 (fun c hc=>hc) (fun c hc=>hc)
def bX (P:Program) (f:FuncId) (args:List AV) (t:AV):Prop:=dF P f args [] fun r fa=>iy fa r t
theorem J5 {P:Program} {f:FuncId} {args eu:List AV} {t:AV} {L kx:List (Nat×List AV)} {H fa:List Blk} {E:Env} {vs:List Value} (sub:Sub L H kx fa) (aR:SimH E fa) (b0:SimL E kx)
  (a4:aE (V2 E) args vs) (hs:aE (dc L H) args eu) (h:bX P f eu t):
  Calls P f vs.toArray E.w fun e w'=> ∃v E',e= .returned v∧E'.w=w'∧lM E E'∧V3 E' t v:=by
 have tX:aE (V2 E.frozen) eu vs:=⟨hs.1▸a4.1,fun i x u hx hu=>by
  have bc:i<args.length:=by have:=(List.getElem?_eq_some_iff.1 hx).1;have:=hs.1;omega
  have aL:=List.getElem?_eq_getElem bc
  exact P7 sub aR b0 (hs.2 i _ x aL hx) (a4.2 i _ u aL hu)⟩
 refine(h.2 E.frozen vs (fun _=>rfl) (K5 aR) tX).mono ?_
 rintro e w' ⟨r,v,H',E1,rfl,aJ,rfl,aF,fH,hv,bj⟩
 let N:Nat→Prop:=fun c=>E1.PF c∨E1.gQ c
 have kB: ∀c,N c→E.w.heap.size≤c∧c<E1.w.heap.size:=by
  rintro c (hc | hc)
  ·exact⟨(bj.fJ c hc).elim (fun h=>h.elim) id,fH.e9 c (fH.eW c hc)⟩
  ·exact⟨(bj.qD c hc).elim (fun⟨b,hb⟩=>by cases hb) id,fH.gw c hc⟩
 have oM: ∀c,c<E.w.heap.size→E1.w.heap[c]?=E.w.heap[c]?:=fun c hc=>bj.fe c hc (fun⟨b,hb⟩=>by cases hb) (fun⟨b,hb⟩=>by cases hb)
 let E':Env:={E with w:=E1.w,PA:=fun c=>E.PA c∨N c,PF:=fun c=>E.PF c∨N c}
 have aj:lM E E':=
  {step:=⟨⟨fun c hc=> .inl hc,fun c hc=> .inl hc,fun c hc=>oM c (aR.e9 c hc),fun c hc=>oM c (aR.e9 c (aR.eW c hc)),fun _=>Nat.le_refl _,fun _ _ h _=>⟨h,rfl,rfl⟩,fun _ _ h=>h⟩,
    bj.os,bj.tape,bj.output,bj.size,fun c hc _ _=>oM c hc,fun _ _ h=> .inl h,fun _ h=> .inl h,fun c hc=>hc.elim .inl (fun h=> .inr (kB c h).1),fun c hc=>hc.elim .inl (fun h=> .inr (kB c h).1)⟩
   m:=rfl,mL:=rfl,bC:=rfl,sz:=rfl,cp:=rfl
   fe:=oM
   fI:=fun c hc=>hc.elim .inl (fun h=> .inr (kB c h))
   eW:=fun c hc=>hc.elim (fun h=> .inl (aR.eW c h)) .inr}
 have up: ∀{b:AV} {u:Value},bF E1.w N N b u→cI E' b u:=fun h=>bF.v1 (E:=E') (h.mono (fun _ _=>rfl) (fun _ _=>rfl) (fun c hc=> .inr hc) (fun c hc=> .inr hc))
 have fq: ∀{a b:AV} {u:Value},gD H' a b→cI E1 a u→cI E' b u:=fun a4 hu=>up (P9 fH a4 hu)
 have fV: ∀{a b:AV} {u:Value},so H' a b→V2 E1 a u→V2 E' b u:=by
  rintro a b u (⟨l,fp,rfl,rfl,aG⟩ | h) hu
  ·obtain⟨kr,rfl,aj⟩:=hu
   refine⟨kr,rfl,aG.1▸aj.1,fun i x y hx br=> ?_⟩
   have bc:i<l.length:=by have:=(List.getElem?_eq_some_iff.1 hx).1;have:=aG.1;omega
   have aL:=List.getElem?_eq_getElem bc
   exact fq (aG.2 i _ x aL hx) (aj.2 i _ y aL br)
  ·have:cI E1 a u:=by cases h<;>exact hu
   exact p4 (fq h this)
 have fC: ∀{a b:AV} {u:Value},iy H' a b→V3 E1 a u→V3 E' b u:=by
  rintro a b u (⟨l,fp,rfl,rfl,aG⟩ | h) hu
  ·obtain⟨kr,rfl,aj⟩:=hu
   refine⟨kr,rfl,aG.1▸aj.1,fun i x y hx br=> ?_⟩
   have bc:i<l.length:=by have:=(List.getElem?_eq_some_iff.1 hx).1;have:=aG.1;omega
   have aL:=List.getElem?_eq_getElem bc
   exact fV (aG.2 i _ x aL hx) (aj.2 i _ y aL br)
  ·have:V2 E1 a u:=by
    rcases h with⟨l,fp,rfl,rfl,aG⟩ | h
    ·exact hu
    ·cases h<;>exact hu
   exact p5 (fV h this)
 exact⟨v,E',rfl,rfl,aj,fC aJ hv⟩
def Dq:AV→Bool
 | .agg _ | .tup _ | .fn _ _=>false
 | _=>true
def zc (fn:Fn) (first:Array Operand) (caps:List AV) (K:AV→Prop):Prop:=match fn with
 | .func f=>if first.isEmpty=true∧caps.all Dq=true then K (.fn f caps) else False
 | _=>False
def e1:AV→Bool
 | .tup _=>false
 | _=>true
def lQ (x:AV) (K:FuncId→List AV→Prop):Prop:=match x with
 | .fn f caps=>K f caps
 | _=>False
def oF (P:Program) (f:FuncId) (args:List AV) (L:List (Nat×List AV)) (H:List Blk) (K:AV→Prop):Prop:=
 args.all e1=true∧ ∃eu t,aE (dc L H) args eu∧bX P f eu t∧K t
def D9 (P:Program) (c:Call) (bO:Operand→AV) (L:List (Nat×List AV)) (H:List Blk) (K:AV→Prop):Prop:=match c.callee with
 | .builtin .len=>(match c.args.toList,c.argTypes.toList with
  | [x],[t]=>e3 (jY P t (bO x)) (rZ (bO x) K)
  | _,_=>False)
 | .value f=>lQ (bO f) fun g caps=>oF P g (c.args.toList.map bO++caps) L H K
 | _=>False
def sC (P:Program) (o:Oper) (bO:Operand→AV) (L:List (Nat×List AV)) (H:List Blk) (K:AV→Prop):Prop:=match o.op with
 | .move x=>K (bO x)
 | .assign x=>K (bO x)
 | .pick c a b=>oD (bO c) fun z=>x5 z (K (bO a)) (K (bO b))
 | .build t ps=>e3 (ps.toList.all fun p=>e1 (bO p.2)) (Dl P t (ps.toList.map fun p=>(p.1,bO p.2)) K)
 | .buildSlice t n ps=>e3 (ps.toList.all fun p=>e1 (bO p.2)) (vO P t n (ps.toList.map fun p=>(p.1,bO p.2)) K)
 | .load t a=>oR P t (bO a) L H K
 | .nilCheck x=>GD (bO x) K
 | .binOp op t x y _=>su P op t (bO x) (bO y) (qF y) K
 | .unOp op _ x=>CS op (bO x) K
 | .convert s d x=>DL P s d (bO x) K
 | .makeFunc fn first caps=>zc fn first (caps.toList.map bO) K
 | .fieldAddr t x f=>Eg P t (bO x) f K
 | .indexAddr t x i=>wP P t (bO x) (bO i) H K
 | .index t x i=>Fq P t (bO x) (bO i) K
 | .slice t x lo hi mx=>(match mx with
  | none=>vb P t (bO x) (lo.map bO) (hi.map bO) H K
  | some _=>False)
 | .extract x i=>Ec (bO x) i K
 | .call c=>D9 P c bO L H K
 | _=>False
theorem Jf {P:Program} {o:Oper} {a:Act} {next:Act→World→Prop} {Q:Exit→Act→World→Prop} {s:Sem Value} {w w':World} {u:Value} (h:s.run P w= .ok u w') (k:next (a.put o.dst u) w'):
  o.upon P a next Q ((do pure (Next.value (←s)):Sem Next).run P w):=by
 rw[Sem.run_bind,h];exact k
theorem parts_eq (ps:Array (Nat×Operand)) (a:Act):(ps.toList.map fun p=>(p.1,a.eval p.2)).toArray=ps.map fun(i,x)=>(i,a.eval x):=by
 apply Array.ext'
 rw[Array.toList_map]
theorem GQ {E:Env} {a:Act} {T:List AV} (ct: ∀t,V3 E (T.getD t .undef) (a.tmps.getD t undef)) (ps:List (Nat×Operand)) (aF: ∀p∈ps,∀l,cr T p.2≠ .tup l):
  aE (fun(x:Nat×AV) (y:Nat×Value)=>x.1=y.1∧V2 E x.2 y.2) (ps.map fun p=>(p.1,cr T p.2)) (ps.map fun p=>(p.1,a.eval p.2)):=by
 refine⟨by simp,fun i x y hx br=> ?_⟩
 rw[List.getElem?_map] at hx br
 cases aG:ps[i]? with
 | none=>simp[aG] at hx
 | some p=>
  simp[aG] at hx br
  subst hx;subst br
  refine⟨rfl,?_⟩
  have:=opv_rel ct p.2
  rwa [oB (aF p (List.mem_of_getElem? aG))] at this
theorem JI {E:Env} {a:Act} {T:List AV} (ct: ∀t,V3 E (T.getD t .undef) (a.tmps.getD t undef)) (xs:List Operand) (aF: ∀x∈xs,∀l,cr T x≠ .tup l):
  aE (V2 E) (xs.map (cr T)) (xs.map a.eval):=by
 refine⟨by simp,fun i x y hx br=> ?_⟩
 rw[List.getElem?_map] at hx br
 cases aG:xs[i]? with
 | none=>simp[aG] at hx
 | some p=>
  simp[aG] at hx br
  subst hx;subst br
  have:=opv_rel ct p
  rwa [oB (aF p (List.mem_of_getElem? aG))] at this
theorem w3 {a:AV} (h:e1 a=true): ∀l,a≠ .tup l:=by
 intro l e;subst e;cases h
theorem On {E:Env} {a:Act} {T:List AV} (ct: ∀t,V3 E (T.getD t .undef) (a.tmps.getD t undef)) (x:Option Operand):
  Af E (x.map (cr T)) (x.map a.eval):=by
 cases x with
 | none=>trivial
 | some x=>exact opv_rel ct x
theorem J6 {E:Env} {a:Act} {T:List AV} (ct: ∀t,V3 E (T.getD t .undef) (a.tmps.getD t undef)) {f:Operand} {g:FuncId} {caps:List AV} (h:cr T f= .fn g caps):
  ∃vs:List Value,a.eval f= .func (.func g) #[] vs.toArray∧aE (V2 E) caps vs:=by
 have:=opv_rel ct f
 rw[h] at this
 obtain⟨vs,e,aG⟩:=(show ∃vs:List Value,a.eval f= .func (.func g) #[] vs.toArray∧aE (ft E) caps vs from this)
 exact⟨vs,e,aG.mono fun _ _ k=>p4 (C8 k)⟩
theorem abx {P:Program} {f:FuncId} {w:World} {args:Array Value} (h:uO P f=true):(callFunc f args).run P w= .ok (.enter f args) w:=by
 unfold uO at h
 cases hf:P.funcs[f]? with
 | none=>simp[hf] at h
 | some fn=>
  simp[hf] at h
  obtain⟨h1,h2⟩:=h
  simp[callFunc,hf,h1]
  cases hb:fn.body with
  | none=>simp[hb] at h2
  | some c=>intro bV;cases bV
theorem Pp {P:Program} {c:Call} {a:Act} {ty:TypeId} {f:Operand} {g:FuncId} {vs:List Value} {w:World} (hc:c.callee= .value f) (hf:a.eval f= .func (.func g) #[] vs.toArray) (h:uO P g=true):
  (do let d ←resolve a.eval c ty;invoke d.target d.args:Sem Next).run P w= .ok (.enter g (c.args.toList.map a.eval++vs).toArray) w:=by
 unfold resolve
 rw[hc]
 simp only[hf,Deferred.ofValue,Sem.run_bind,Sem.run_pure,Result.andThen_ok,invoke]
 rw[abx h]
 simp
def xY (E:Env) (o:Oper) (a:Act) (K:AV→Prop):Act→World→Prop:=fun ih w'=> ∃v e4 E',K v∧E'.w=w'∧lM E E'∧V3 E' v e4∧ih=a.put o.dst e4
set_option maxHeartbeats 4000000 in
theorem KH {P:Program} {o:Oper} {a:Act} {T:List AV} {E:Env} {L kx:List (Nat×List AV)} {H fa:List Blk} {K:AV→Prop} {Q:Exit→Act→World→Prop}
  (ct: ∀t,V3 E (T.getD t .undef) (a.tmps.getD t undef)) (sub:Sub L H kx fa) (aR:SimH E fa) (b0:SimL E kx) (h:sC P o (cr T) L H K):o.wp P a E.w (xY E o a K) Q:=by
 have fin: ∀{s:Sem Value},(execOp a.eval o=(do pure (Next.value (←s))))→(∃r u E',K r∧s.run P E.w= .ok u E'.w∧lM E E'∧V3 E' r u)→o.wp P a E.w (xY E o a K) Q:=by
  rintro s hs ⟨r,u,E',hK,aJ,aj,hv⟩
  unfold Oper.wp
  rw[hs]
  exact Jf aJ ⟨r,u,E',hK,rfl,aj,hv,rfl⟩
 have pk: ∀{s:Sem Value},(execOp a.eval o=(do pure (Next.value (←s))))→(∃r u,K r∧s.run P E.w= .ok u E.w∧V3 E r u)→o.wp P a E.w (xY E o a K) Q:=by
  rintro s hs ⟨r,u,hK,aJ,hv⟩
  exact fin hs ⟨r,u,E,hK,aJ,lM.refl aR,hv⟩
 have zd: ∀x,execOp a.eval o=pure (.value (a.eval x))→K (cr T x)→o.wp P a E.w (xY E o a K) Q:=by
  intro x hs hK
  unfold Oper.wp
  rw[hs]
  exact⟨_,_,E,hK,rfl,lM.refl aR,opv_rel ct x,rfl⟩
 obtain⟨dst,op,ty,pos,after,guard⟩:=o
 cases op with
 | move x=>exact zd x rfl h
 | assign x=>exact zd x rfl h
 | pick c x y=>
  obtain⟨b,hb,h1,h2⟩:=An (show oD (cr T c) fun z=>x5 z (K (cr T x)) (K (cr T y)) from h)
  have hv:=opv_rel ct c
  rw[hb] at hv
  have he:a.eval c= .bool b:=V3.rm hv
  cases b with
  | true=>exact zd x (by simp[execOp,he,asBool]) (h1 rfl)
  | false=>exact zd y (by simp[execOp,he,asBool]) (h2 rfl)
 | build t ps=>
  obtain⟨aF,h⟩:=pM h
  have:=TD (P:=P) (GQ ct ps.toList fun p aG=>w3 (List.all_eq_true.1 aF p aG)) h
  exact pk (s:=Instr.build t (ps.toList.map fun p=>(p.1,a.eval p.2)).toArray) (by rw[parts_eq];rfl) this
 | buildSlice t n ps=>
  obtain⟨aF,h⟩:=pM h
  have:=J0 (P:=P) aR (GQ ct ps.toList fun p aG=>w3 (List.all_eq_true.1 aF p aG)) h
  exact fin (s:=Instr.buildSlice t n (ps.toList.map fun p=>(p.1,a.eval p.2)).toArray) (by rw[parts_eq];rfl) this
 | load t x=>
  obtain⟨r,u,hK,aJ,hv⟩:=NQ sub aR b0 (opv_rel ct x) h
  exact pk (s:=Instr.loadAt t (a.eval x)) rfl ⟨r,u,hK,aJ,p5 hv⟩
 | nilCheck x=>
  have hx:=opv_rel ct x
  have h:GD (cr T x) K:=h
  have key: ∀lN,a.eval x= .pointer (some lN)→K (cr T x)→Oper.wp P ⟨dst,.nilCheck x,ty,pos,after,guard⟩ a E.w (xY E ⟨dst,.nilCheck x,ty,pos,after,guard⟩ a K) Q:=by
   intro lN he hK
   exact zd x (by simp[execOp,he]) hK
  cases hT:cr T x with
  | fF s c=>
   rw[hT] at hx h
   obtain⟨bl,_,e⟩:=hx.za
   exact key _ e (by rw[hT];exact h)
  | ptr b g r c=>
   rw[hT] at hx h
   rcases(show ft E (.ptr b g r c) _ from hx) with⟨_,bl,o,e⟩ | ⟨_,bl,_,e⟩<;>exact key _ e (by rw[hT];exact h)
  | dv cells c=>
   rw[hT] at hx h
   have jA:bF E.w E.PA E.PF (.dv cells c) (a.eval x):=hx
   generalize hv:a.eval x=v at jA
   cases jA;exact key _ hv (by rw[hT];exact h)
  | _=>rw[hT] at h;exact h.elim
 | binOp op t x y ty2=>
  have Fl:qF y=true→a.eval y= .slice none 0 0:=by
   intro bV
   unfold qF at bV
   split at bV
   ·rfl
   ·cases bV
  exact pk (s:=do eqGuard op t x y (a.eval x) (a.eval y);binOp op t (a.eval x) (a.eval y)) rfl (Tt (opv_rel ct x) (opv_rel ct y) Fl h)
 | unOp op t x=>exact pk (s:=Op.unary op (a.eval x)) rfl (ae7 (opv_rel ct x) h)
 | convert s d x=>exact pk (s:=Go.convert s d (a.eval x)) rfl (Um (opv_rel ct x) h)
 | makeFunc fn first caps=>
  replace h:zc fn first (caps.toList.map (cr T)) K:=h
  cases fn with
  | func f=>
   replace h:if first.isEmpty=true∧(caps.toList.map (cr T)).all Dq=true then K (.fn f (caps.toList.map (cr T))) else False:=h
   split at h
   ·rename_i hc
    obtain⟨h1,h2⟩:=hc
    have hf:first= #[]:=by simpa using h1
    subst hf
    refine pk (s:=Instr.makeFunc (.func f) (Array.map a.eval #[]) (caps.map a.eval)) rfl ⟨_,.func (.func f) #[] (caps.map a.eval),h,by simp[Instr.makeFunc],(caps.toList.map a.eval),by rw[←Array.toList_map,Array.toArray_toList],by simp,fun i x y hx br=> ?_⟩
    rw[List.getElem?_map] at hx br
    cases aG:caps.toList[i]? with
    | none=>simp[aG] at hx
    | some p=>
     simp[aG] at hx br
     subst hx;subst br
     have hv:=opv_rel ct p
     have fi:Dq (cr T p)=true:=List.all_eq_true.1 h2 _ (List.mem_map.2 ⟨p,List.mem_of_getElem? aG,rfl⟩)
     cases aj:cr T p<;>rw[aj] at hv fi<;>first | exact hv | cases fi
   ·exact h.elim
  | _=>exact h.elim
 | fieldAddr t x f=>exact pk (s:=Instr.fieldAt t (a.eval x) f) rfl (UY (opv_rel ct x) h)
 | indexAddr t x i=>exact pk (s:=Instr.indexAt t (a.eval x) (a.eval i)) rfl (XU sub aR (opv_rel ct x) (opv_rel ct i) h)
 | index t x i=>exact pk (s:=Instr.index t (a.eval x) (a.eval i)) rfl (X3 (opv_rel ct x) (opv_rel ct i) h)
 | slice t x lo hi mx=>
  cases mx with
  | none=>exact pk (s:=Instr.sliceAt t (a.eval x) (lo.map a.eval) (hi.map a.eval) none) rfl (abT sub aR (opv_rel ct x) (On ct lo) (On ct hi) h)
  | some m=>exact h.elim
 | extract x i=>exact pk (s:=Instr.extract (a.eval x) i) rfl (US (opv_rel ct x) h)
 | call c=>
  have h:D9 P c (cr T) L H K:=h
  obtain⟨callee,args,argTypes⟩:=c
  cases callee with
  | builtin b=>
   cases b with
   | len=>
    have h:(match args.toList,argTypes.toList with
     | [x],[t]=>e3 (jY P t (cr T x)) (rZ (cr T x) K)
     | _,_=>False):=h
    split at h
    ·rename_i x t h1 h2
     obtain⟨Xe,Xf⟩:=pM h
     obtain rfl:args= #[x]:=by rw[←Array.toArray_toList (xs:=args),h1]
     obtain rfl:argTypes= #[t]:=by rw[←Array.toArray_toList (xs:=argTypes),h2]
     obtain⟨r,u,hK,aJ,hv⟩:=ZQ (P:=P) (ty:=ty) (opv_rel ct x) Xe Xf
     unfold Oper.wp
     have:(execOp a.eval ⟨dst,.call ⟨.builtin .len,#[x],#[t]⟩,ty,pos,after,guard⟩).run P E.w= .ok (.value u) E.w:=by
      simp only[execOp,resolve,Sem.run_bind,Sem.run_pure,Result.andThen_ok,invoke,builtin]
      have e:Array.map a.eval #[x]= #[a.eval x]:=by simp
      rw[e,aJ];rfl
     rw[this]
     exact⟨r,u,E,hK,rfl,lM.refl aR,hv,rfl⟩
    ·exact h.elim
   | _=>exact h.elim
  | value f=>
   have h:lQ (cr T f) fun g caps=>oF P g (args.toList.map (cr T)++caps) L H K:=h
   cases hf:cr T f with
   | fn g caps=>
    rw[hf] at h
    obtain⟨aF,eu,t,hs,px,hK⟩:=(show oF P g (args.toList.map (cr T)++caps) L H K from h)
    obtain⟨vs,he,ub⟩:=J6 ct hf
    unfold Oper.wp
    rw[show execOp a.eval ⟨dst,.call ⟨.value f,args,argTypes⟩,ty,pos,after,guard⟩=(do let d ←resolve a.eval ⟨.value f,args,argTypes⟩ ty;invoke d.target d.args) from rfl]
    rw[Pp (P:=P) (ty:=ty) (w:=E.w) (c:=⟨.value f,args,argTypes⟩) rfl he px.1]
    have EI:aE (V2 E) (args.toList.map (cr T)++caps) (args.toList.map a.eval++vs):=
     aE.append (JI ct args.toList fun x hx=>w3 (List.all_eq_true.1 aF _ (by simp;exact .inl ⟨x,by simpa using hx,rfl⟩))) ub
    refine(J5 sub aR b0 EI hs px).mono ?_
    rintro e w' ⟨v,E',rfl,rfl,aj,hv⟩
    exact⟨t,v,E',hK,rfl,aj,hv,rfl⟩
   | _=>rw[hf] at h;exact h.elim
  | _=>exact h.elim
 | _=>exact h.elim
theorem Uu (w:World) (o:Obj) (c:Nat) (h:c<w.heap.size):(w.drew.alloc o).heap[c]?=w.heap[c]?:=sp w.drew o c h
structure nc (w w':World) (o:Obj):Prop where
 os:w'.os=w.os
 tape:w'.tape=w.tape
 output:w'.output=w.output
 size:w'.heap.size=w.heap.size+1
 mY: ∀c,c<w.heap.size→w'.heap[c]?=w.heap[c]?
 new:w'.heap[w.heap.size]?=some o
theorem nc.alloc (w:World) (o:Obj):nc w (w.alloc o) o:=⟨rfl,rfl,rfl,by simp,fun c hc=>sp w o c hc,JC w o⟩
theorem nc.Ut (w:World) (o:Obj):nc w (w.drew.alloc o) o:=⟨rfl,rfl,rfl,by simp,fun c hc=>Uu w o c hc,JC w.drew o⟩
theorem SimH.ext {E:Env} {H H':List Blk} (h:SimH E H) (hs: ∀(b:Nat) (blk:Blk),H[b]?=some blk→H'[b]?=some blk) (aL:H.length≤H'.length) (hg: ∀(b:Nat) (blk:Blk),H.length≤b→H'[b]?=some blk→blk.bC=0):SimH E H':=
 {h with
  heap:=fun b c hb=>by
   obtain⟨blk,a7,ty,q1,q⟩:=h.heap b c hb
   exact⟨blk,a7,ty,hs b blk q1,q⟩
  fb:=fun b blk hb=>by
   rcases Nat.lt_or_ge b H.length with bc | fR
   ·have h1:=List.getElem?_eq_getElem bc
    have h2:=hs b _ h1
    rw[hb] at h2
    cases h2
    exact h.fb b _ h1
   ·rw[(h.fresh b fR).2,hg b blk fR hb]
  hp:=fun b hb=>by
   obtain⟨blk,q1,q⟩:=h.hp b hb
   exact⟨blk,hs b blk q1,q⟩
  fresh:=fun b hb=>h.fresh b (Nat.le_trans aL hb)}
theorem SimH.snoc {E:Env} {H:List Blk} (h:SimH E H) {blk:Blk} (hg:blk.bC=0):SimH E (H++[blk]):=
 h.ext (fun b x hb=>by rw[List.getElem?_append_left (List.getElem?_eq_some_iff.1 hb).1];exact hb) (by simp) (fun b x hb hx=>by
  rw[List.getElem?_append_right hb] at hx
  have:b - H.length=0:=by
   rcases Nat.eq_zero_or_pos (b - H.length) with q | q
   ·exact q
   ·rw[List.getElem?_eq_none (by simp;omega)] at hx;cases hx
  rw[this] at hx;cases hx;exact hg)
theorem SimL.cons {E:Env} {L:List (Nat×List AV)} (h:SimL E L) {t:Nat} {cells:List AV} (aF:E.mL t=none):SimL E ((t,cells)::L):=fun s c hm=>by
 have:s≠t:=fun e=>by subst e;rw[aF] at hm;cases hm
 simp only[eU,if_neg this]
 exact h s c hm
theorem Ob {E:Env} {H:List Blk} {L:List (Nat×List AV)} {w':World} {a7:Array Value} {ty:TypeId} {t:Nat} {cells:List AV} (aR:SimH E H) (b0:SimL E L) (hw:nc E.w w' (.cells a7 ty (0,0)))
  (bp:eU L t=some cells) (hm:E.mL t=none) (hc:aE (cI E.b6) cells a7.toList):
  ∃E',E'.w=w'∧Step E E'∧SimH E' H∧SimL E' L∧V3 E' (.fF t 0) (.pointer (some ⟨E.w.heap.size,0,none⟩))∧E'.m=E.m∧(∀s,s≠t→E'.mL s=E.mL s):=by
 let E':Env:={E with w:=w',mL:=fun s=>if s=t then some E.w.heap.size else E.mL s}
 have bj:Step E E':=
  {le:=⟨fun _ h=>h,fun _ h=>h,fun c hc=>hw.mY c (aR.e9 c hc),fun c hc=>hw.mY c (aR.e9 c (aR.eW c hc)),fun _=>Nat.le_refl _,fun _ _ h _=>⟨h,rfl,rfl⟩,fun s c h=>by
    show(if s=t then _ else _)=_
    rw[if_neg (fun e=>by subst e;rw[hm] at h;cases h)];exact h⟩
   os:=hw.os,tape:=hw.tape,output:=hw.output
   size:=by show E.w.heap.size≤w'.heap.size;rw[hw.size];omega
   fe:=fun c hc _ _=>hw.mY c hc
   jj:=fun _ _ h=> .inl h
   jB:=fun c ⟨s,hs⟩=>by
    have hs:(if s=t then some E.w.heap.size else E.mL s)=some c:=hs
    split at hs
    ·cases hs;exact .inr (Nat.le_refl _)
    ·exact .inl ⟨s,hs⟩
   fI:=fun _ h=> .inl h
   fJ:=fun _ h=> .inl h}
 have hml: ∀s c,E'.mL s=some c→(s=t∧c=E.w.heap.size)∨(s≠t∧E.mL s=some c):=by
  intro s c hs
  have hs:(if s=t then some E.w.heap.size else E.mL s)=some c:=hs
  split at hs
  ·rename_i e;cases hs;exact .inl ⟨e,rfl⟩
  ·rename_i e;exact .inr ⟨e,hs⟩
 have kh:=aR.gw
 have ki:=aR.g4
 refine⟨E',rfl,bj,?_,?_,⟨E.w.heap.size,by show(if t=t then _ else _)=_;rw[if_pos rfl],rfl⟩,rfl,fun s hs=>if_neg hs⟩
 ·exact{
   heap:=fun b c hb=>by
    obtain⟨blk,dB,jK,q1,dU,q2,q3,q4,cL,cY⟩:=aR.heap b c hb
    refine⟨blk,dB,jK,q1,dU,?_,q3,q4,cL,fun i j row a aJ aM=> ?_⟩
    ·show w'.heap[c]?=_;rw[hw.mY c (kh c ⟨b,hb⟩)];exact q2
    ·obtain⟨u,hu,e6⟩:=cY i j row a aJ aM
     exact⟨u,hu,e6.le bj.le.b6⟩
   fb:=aR.fb
   hp:=aR.hp
   fresh:=aR.fresh
   hV:=aR.hV
   jC:=fun s s' c h1 h2=>by
    rcases hml s c h1 with⟨d1,bx⟩ | ⟨_,dP⟩<;>rcases hml s' c h2 with⟨d2,e2⟩ | ⟨_,h_⟩
    ·rw[d1,d2]
    ·have:=ki c ⟨s',h_⟩;omega
    ·have:=ki c ⟨s,dP⟩;omega
    ·exact aR.jC s s' c dP h_
   gR:=fun b s c h1 h2=>by
    rcases hml s c h2 with⟨rfl,rfl⟩ | ⟨_,h2⟩
    ·have:=kh _ ⟨b,h1⟩;omega
    ·exact aR.gR b s c h1 h2
   hW:=aR.hW
   im:=fun c hc ⟨s,hs⟩=>by
    rcases hml s c hs with⟨rfl,rfl⟩ | ⟨_,hs⟩
    ·have:=aR.e9 _ hc;omega
    ·exact aR.im c hc ⟨s,hs⟩
   eW:=aR.eW
   e9:=fun c hc=>Nat.lt_of_lt_of_le (aR.e9 c hc) bj.size
   gw:=fun c hc=>Nat.lt_of_lt_of_le (kh c hc) bj.size
   g4:=fun c ⟨s,hs⟩=>by
    rcases hml s c hs with⟨rfl,rfl⟩ | ⟨_,hs⟩
    ·show _<w'.heap.size;rw[hw.size];omega
    ·exact Nat.lt_of_lt_of_le (ki c ⟨s,hs⟩) bj.size}
 ·intro s c hs
  rcases hml s c hs with⟨rfl,rfl⟩ | ⟨_,hs⟩
  ·exact⟨cells,a7,ty,bp,hw.new,hc.mono fun _ _ k=>k.le bj.le.b6⟩
  ·obtain⟨gY,dB,jK,q1,q2,q3⟩:=b0 s c hs
   exact⟨gY,dB,jK,q1,by show w'.heap[c]?=_;rw[hw.mY c (ki c ⟨s,hs⟩)];exact q2,q3.mono fun _ _ k=>k.le bj.le.b6⟩
theorem wZ {E:Env} {H H':List Blk} {L:List (Nat×List AV)} {w':World} {a7:Array Value} {ty:TypeId} {b cap:Nat} {blk:Blk} (aR:SimH E H) (b0:SimL E L) (hw:nc E.w w' (.cells a7 ty (0,0)))
  (hb:H'[b]?=some blk) (aC: ∀cl,cl≠b→H'[cl]?=H[cl]?) (hlen:b<H.length→H'.length=H.length) (Bo:H.length≤H'.length)
  (kf:(E.m b=none∧blk.bC=E.bC b)∨E.bC b<blk.bC) (mh:a7.size=cap*blk.sz) (gO:blk.rows.length≤cap)
  (aJ:vC E blk.sz blk.rows a7):
  ∃E',E'.w=w'∧Step E E'∧SimH E' H'∧SimL E' L∧E'.bC b=blk.bC∧E'.m b=some (some E.w.heap.size)∧E'.sz b=blk.sz∧E'.cp b=cap∧(∀cl,cl≠b→E'.m cl=E.m cl)∧E'.mL=E.mL:=by
 let E':Env:={E with w:=w',m:=fun cl=>if cl=b then some (some E.w.heap.size) else E.m cl,bC:=fun cl=>if cl=b then blk.bC else E.bC cl,sz:=fun cl=>if cl=b then blk.sz else E.sz cl,cp:=fun cl=>if cl=b then cap else E.cp cl}
 have bj:Step E E':=
  {le:=⟨fun _ h=>h,fun _ h=>h,fun c hc=>hw.mY c (aR.e9 c hc),fun c hc=>hw.mY c (aR.e9 c (aR.eW c hc)),fun cl=>by
     show _≤(if cl=b then _ else _)
     split
     ·rename_i e;subst e;rcases kf with⟨_,e⟩ | e<;>omega
     ·exact Nat.le_refl _,fun cl x hx hg=>by
     have py:(if cl=b then blk.bC else E.bC cl)=E.bC cl:=hg
     have cm:cl≠b:=fun e=>by
      subst e
      rw[if_pos rfl] at py
      rcases kf with⟨aF,_⟩ | e
      ·rw[aF] at hx;cases hx
      ·omega
     refine⟨?_,?_,?_⟩
     ·show(if cl=b then _ else _)=_;rw[if_neg cm];exact hx
     ·show(if cl=b then _ else _)=_;rw[if_neg cm]
     ·show(if cl=b then _ else _)=_;rw[if_neg cm],fun _ _ h=>h⟩
   os:=hw.os,tape:=hw.tape,output:=hw.output
   size:=by show E.w.heap.size≤w'.heap.size;rw[hw.size];omega
   fe:=fun c hc _ _=>hw.mY c hc
   jj:=fun s c hs=>by
    have hs:(if s=b then some (some E.w.heap.size) else E.m s)=some (some c):=hs
    split at hs
    ·cases hs;exact .inr (Nat.le_refl _)
    ·exact .inl hs
   jB:=fun _ h=> .inl h
   fI:=fun _ h=> .inl h
   fJ:=fun _ h=> .inl h}
 have hm: ∀s c,E'.m s=some (some c)→(s=b∧c=E.w.heap.size)∨(s≠b∧E.m s=some (some c)):=by
  intro s c hs
  have hs:(if s=b then some (some E.w.heap.size) else E.m s)=some (some c):=hs
  split at hs
  ·rename_i e;cases hs;exact .inl ⟨e,rfl⟩
  ·rename_i e;exact .inr ⟨e,hs⟩
 have kh:=aR.gw
 have ki:=aR.g4
 have cV: ∀s,s≠b→E'.sz s=E.sz s:=fun s hs=>if_neg hs
 have qq: ∀s,s≠b→E'.cp s=E.cp s:=fun s hs=>if_neg hs
 have Bz:E'.sz b=blk.sz:=if_pos rfl
 have EP:E'.cp b=cap:=if_pos rfl
 have LC:E'.bC b=blk.bC:=if_pos rfl
 refine⟨E',rfl,bj,?_,?_,LC,if_pos rfl,Bz,EP,fun cl eh=>if_neg eh,rfl⟩
 ·exact{
   heap:=fun s c hs=>by
    rcases hm s c hs with⟨rfl,rfl⟩ | ⟨cm,hs⟩
    ·refine⟨blk,a7,ty,hb,Bz,hw.new,by rw[EP,Bz];exact mh,by rw[EP];exact gO,?_⟩
     rw[Bz]
     exact⟨aJ.1,fun i j row a h1 h2=>by obtain⟨u,hu,e6⟩:=aJ.2 i j row a h1 h2;exact⟨u,hu,e6.le bj.le.b6⟩⟩
    ·obtain⟨blk',dB,jK,q1,dU,q2,q3,q4,cL,cY⟩:=aR.heap s c hs
     refine⟨blk',dB,jK,by rw[aC s cm];exact q1,by rw[cV s cm];exact dU,?_,by rw[qq s cm,cV s cm];exact q3,by rw[qq s cm];exact q4,by rw[cV s cm];exact cL,fun i j row a aJ aM=> ?_⟩
     ·show w'.heap[c]?=_;rw[hw.mY c (kh c ⟨s,hs⟩)];exact q2
     ·obtain⟨u,hu,e6⟩:=cY i j row a aJ aM
      exact⟨u,by rw[cV s cm];exact hu,e6.le bj.le.b6⟩
   fb:=fun s x hs=>by
    by_cases e:s=b
    ·subst e;rw[hb] at hs;cases hs;exact LC
    ·rw[aC s e] at hs
     show(if s=b then _ else _)=_
     rw[if_neg e];exact aR.fb s x hs
   hp:=fun s hs=>by
    have hs:(if s=b then some (some E.w.heap.size) else E.m s)=some none:=hs
    split at hs
    ·cases hs
    ·rename_i e
     obtain⟨x,q1,q2⟩:=aR.hp s hs
     exact⟨x,by rw[aC s e];exact q1,by rw[cV s e];exact q2⟩
   fresh:=fun s hs=>by
    have bc:b<H'.length:=(List.getElem?_eq_some_iff.1 hb).1
    have e:s≠b:=by omega
    have:=aR.fresh s (by omega)
    exact⟨by show(if s=b then _ else _)=_;rw[if_neg e];exact this.1,by show(if s=b then _ else _)=_;rw[if_neg e];exact this.2⟩
   hV:=fun s s' c h1 h2=>by
    rcases hm s c h1 with⟨d1,bx⟩ | ⟨_,dP⟩<;>rcases hm s' c h2 with⟨d2,e2⟩ | ⟨_,h_⟩
    ·rw[d1,d2]
    ·have:=kh c ⟨s',h_⟩;omega
    ·have:=kh c ⟨s,dP⟩;omega
    ·exact aR.hV s s' c dP h_
   jC:=aR.jC
   gR:=fun s t c h1 h2=>by
    rcases hm s c h1 with⟨rfl,rfl⟩ | ⟨_,h1⟩
    ·have:=ki _ ⟨t,h2⟩;omega
    ·exact aR.gR s t c h1 h2
   hW:=fun c hc ⟨s,hs⟩=>by
    rcases hm s c hs with⟨rfl,rfl⟩ | ⟨_,hs⟩
    ·have:=aR.e9 _ hc;omega
    ·exact aR.hW c hc ⟨s,hs⟩
   im:=aR.im
   eW:=aR.eW
   e9:=fun c hc=>Nat.lt_of_lt_of_le (aR.e9 c hc) bj.size
   gw:=fun c ⟨s,hs⟩=>by
    rcases hm s c hs with⟨rfl,rfl⟩ | ⟨_,hs⟩
    ·show _<w'.heap.size;rw[hw.size];omega
    ·exact Nat.lt_of_lt_of_le (kh c ⟨s,hs⟩) bj.size
   g4:=fun c hc=>Nat.lt_of_lt_of_le (ki c hc) bj.size}
 ·intro s c hs
  obtain⟨gY,dB,jK,q1,q2,q3⟩:=b0 s c hs
  exact⟨gY,dB,jK,q1,by show w'.heap[c]?=_;rw[hw.mY c (ki c ⟨s,hs⟩)];exact q2,q3.mono fun _ _ k=>k.le bj.le.b6⟩
theorem Pe {E:Env} {H:List Blk} {L:List (Nat×List AV)} {w':World} {b:Nat} {x:Option Nat} {blk blk':Blk} (aR:SimH E H) (b0:SimL E L)
  (hm:E.m b=some x) (hb:H[b]?=some blk) (hg:blk'.bC=blk.bC+1) (mQ:blk'.sz=blk.sz)
  (aC:w'.os=E.w.os) (XG:w'.tape=E.w.tape) (Xk:w'.output=E.w.output) (cV:w'.heap.size=E.w.heap.size)
  (hw: ∀c,x≠some c→w'.heap[c]?=E.w.heap[c]?)
  (hx: ∀c,x=some c→ ∃a7 ty,w'.heap[c]?=some (.cells a7 ty (0,0))∧a7.size=E.cp b*E.sz b∧blk'.rows.length≤E.cp b∧vC E (E.sz b) blk'.rows a7):
  ∃E',E'.w=w'∧Step E E'∧SimH E' (H.set b blk')∧SimL E' L∧E'.bC b=blk'.bC∧E'.m=E.m∧E'.sz=E.sz∧E'.cp=E.cp∧E'.mL=E.mL:=by
 let E':Env:={E with w:=w',bC:=fun cl=>if cl=b then blk'.bC else E.bC cl}
 have kf:=aR.fb b blk hb
 have cm: ∀c,E.PA c→x≠some c:=fun c hc e=>aR.hW c hc ⟨b,by rw[hm,e]⟩
 have bj:Step E E':=
  {le:=⟨fun _ h=>h,fun _ h=>h,fun c hc=>hw c (cm c hc),fun c hc=>hw c (cm c (aR.eW c hc)),fun cl=>by
     show _≤(if cl=b then _ else _)
     split
     ·rename_i e;subst e;omega
     ·exact Nat.le_refl _,fun cl y br WW=>by
     have py:(if cl=b then blk'.bC else E.bC cl)=E.bC cl:=WW
     have wD:cl≠b:=fun e=>by subst e;rw[if_pos rfl] at py;omega
     exact⟨br,rfl,rfl⟩,fun _ _ h=>h⟩
   os:=aC,tape:=XG,output:=Xk
   size:=by show E.w.heap.size≤w'.heap.size;rw[cV];exact Nat.le_refl _
   fe:=fun c hc h1 _=>hw c (fun e=>h1 ⟨b,by rw[hm,e]⟩)
   jj:=fun _ _ h=> .inl h
   jB:=fun _ h=> .inl h
   fI:=fun _ h=> .inl h
   fJ:=fun _ h=> .inl h}
 have qo:b<H.length:=(List.getElem?_eq_some_iff.1 hb).1
 refine⟨E',rfl,bj,?_,?_,if_pos rfl,rfl,rfl,rfl,rfl⟩
 ·exact{aR with
   heap:=fun s c hs=>by
    by_cases e:s=b
    ·subst e
     have Mb:x=some c:=by
      have:E.m s=some (some c):=hs
      rw[hm] at this;exact Option.some.inj this
     obtain⟨x8,afM,agc,q1,dU,q⟩:=aR.heap s c (by rw[hm,Mb])
     obtain rfl:blk=x8:=by rw[hb] at q1;exact Option.some.inj q1
     obtain⟨a7,ty,h1,h2,aO,bb⟩:=hx c Mb
     exact⟨blk',a7,ty,by rw[List.getElem?_set_self qo],dU.trans mQ.symm,h1,h2,aO,bb.1,fun i j row a aJ aM=>by
      obtain⟨u,hu,e6⟩:=bb.2 i j row a aJ aM;exact⟨u,hu,e6.le bj.le.b6⟩⟩
    ·obtain⟨x8,dB,jK,q1,dU,q2,q3,q4,cL,cY⟩:=aR.heap s c hs
     refine⟨x8,dB,jK,by rw[List.getElem?_set_ne (fun h=>e h.symm)];exact q1,dU,?_,q3,q4,cL,fun i j row a aJ aM=> ?_⟩
     ·show w'.heap[c]?=_
      rw[hw c (fun h=>e (aR.hV s b c hs (by rw[hm,h])))];exact q2
     ·obtain⟨u,hu,e6⟩:=cY i j row a aJ aM
      exact⟨u,hu,e6.le bj.le.b6⟩
   fb:=fun s y hs=>by
    by_cases e:s=b
    ·subst e;rw[List.getElem?_set_self qo] at hs;cases hs;exact if_pos rfl
    ·rw[List.getElem?_set_ne (fun h=>e h.symm)] at hs
     show(if s=b then _ else _)=_
     rw[if_neg e];exact aR.fb s y hs
   hp:=fun s hs=>by
    obtain⟨y,q1,q2⟩:=aR.hp s hs
    by_cases e:s=b
    ·subst e
     obtain rfl:blk=y:=by rw[hb] at q1;exact Option.some.inj q1
     exact⟨blk',by rw[List.getElem?_set_self qo],q2.trans mQ.symm⟩
    ·exact⟨y,by rw[List.getElem?_set_ne (fun h=>e h.symm)];exact q1,q2⟩
   fresh:=fun s hs=>by
    rw[List.length_set] at hs
    have e:s≠b:=by omega
    have:=aR.fresh s hs
    exact⟨this.1,by show(if s=b then _ else _)=_;rw[if_neg e];exact this.2⟩
   e9:=fun c hc=>Nat.lt_of_lt_of_le (aR.e9 c hc) bj.size
   gw:=fun c hc=>Nat.lt_of_lt_of_le (aR.gw c hc) bj.size
   g4:=fun c hc=>Nat.lt_of_lt_of_le (aR.g4 c hc) bj.size}
 ·intro s c hs
  obtain⟨gY,dB,jK,q1,q2,q3⟩:=b0 s c hs
  refine⟨gY,dB,jK,q1,?_,q3.mono fun _ _ k=>k.le bj.le.b6⟩
  show w'.heap[c]?=_
  rw[hw c (fun e=>aR.gR b s c (by rw[hm,e]) hs)];exact q2
theorem B0 {E:Env} {H:List Blk} {L:List (Nat×List AV)} {blk:Blk} (aR:SimH E H) (b0:SimL E L) (hg:blk.bC=0) (aJ:blk.rows=[]):
  ∃E',E'.w=E.w∧Step E E'∧SimH E' (H++[blk])∧SimL E' L∧E'.bC H.length=0∧E'.m H.length=some none∧(∀b,b≠H.length→E'.m b=E.m b)∧E'.mL=E.mL:=by
 have hs:=aR.snoc hg
 have aF:=aR.fresh H.length (Nat.le_refl _)
 let E':Env:={E with m:=fun b=>if b=H.length then some none else E.m b,sz:=fun b=>if b=H.length then blk.sz else E.sz b}
 have rM: ∀b c,E'.m b=some (some c)→E.m b=some (some c)∧b≠H.length:=by
  intro b c h
  have h:(if b=H.length then some none else E.m b)=some (some c):=h
  split at h
  ·cases h
  ·exact⟨h,by assumption⟩
 have bj:Step E E':=
  {le:=⟨fun _ h=>h,fun _ h=>h,fun _ _=>rfl,fun _ _=>rfl,fun _=>Nat.le_refl _,fun b x hx _=>by
     have cm:b≠H.length:=fun e=>by subst e;rw[aF.1] at hx;cases hx
     exact⟨by show(if b=H.length then _ else _)=_;rw[if_neg cm];exact hx,by show(if b=H.length then _ else _)=_;rw[if_neg cm],rfl⟩,fun _ _ h=>h⟩
   os:=rfl,tape:=rfl,output:=rfl,size:=Nat.le_refl _
   fe:=fun _ _ _ _=>rfl
   jj:=fun b c h=> .inl (rM b c h).1
   jB:=fun _ h=> .inl h
   fI:=fun _ h=> .inl h
   fJ:=fun _ h=> .inl h}
 refine⟨E',rfl,bj,?_,fun s c hm=> ?_,aF.2,if_pos rfl,fun b hb=>if_neg hb,rfl⟩
 ·exact{hs with
   heap:=fun b c h=>by
    obtain⟨h,cm⟩:=rM b c h
    obtain⟨x8,dB,jK,q1,dU,q2,q3,q4,cL,cY⟩:=hs.heap b c h
    have cV:E'.sz b=E.sz b:=if_neg cm
    exact⟨x8,dB,jK,q1,by rw[cV];exact dU,q2,by rw[cV];exact q3,q4,by rw[cV];exact cL,fun i j row a aJ aM=>by
     obtain⟨u,hu,e6⟩:=cY i j row a aJ aM
     exact⟨u,by rw[cV];exact hu,e6.le bj.le.b6⟩⟩
   hp:=fun b h=>by
    by_cases e:b=H.length
    ·subst e
     exact⟨blk,by simp,if_pos rfl⟩
    ·have h:E.m b=some none:=by
      have h:(if b=H.length then some none else E.m b)=some none:=h
      rwa [if_neg e] at h
     obtain⟨y,q1,q2⟩:=hs.hp b h
     exact⟨y,q1,by show(if b=H.length then _ else _)=_;rw[if_neg e];exact q2⟩
   fresh:=fun b h=>by
    have:=hs.fresh b h
    have e:b≠H.length:=by simp at h;omega
    exact⟨by show(if b=H.length then _ else _)=_;rw[if_neg e];exact this.1,this.2⟩
   hV:=fun b cl c h1 h2=>hs.hV b cl c (rM b c h1).1 (rM cl c h2).1
   gR:=fun b t c h1 h2=>hs.gR b t c (rM b c h1).1 h2
   hW:=fun c hc ⟨b,h⟩=>hs.hW c hc ⟨b,(rM b c h).1⟩
   gw:=fun c ⟨b,h⟩=>hs.gw c ⟨b,(rM b c h).1⟩}
 ·obtain⟨gY,dB,jK,q1,q2,q3⟩:=b0 s c hm
  exact⟨gY,dB,jK,q1,q2,q3.mono fun _ _ k=>k.le bj.le.b6⟩
def zA (fr:Bool) (row:List AV):List AV:=match fr with
 | true=>row.map o2
 | false=>row
def k8 (fr:Bool) (rows:List (List AV)):List (List AV):=match fr with
 | true=>rows.map fun row=>row.map o2
 | false=>rows
theorem abk (fr:Bool) (rows:List (List AV)):k8 fr rows=rows.map (zA fr):=by
 cases fr
 ·show rows=rows.map fun row=>row
  simp
 ·rfl
theorem abj (fr:Bool) (row:List AV):(zA fr row).length=row.length:=by
 cases fr<;>simp[zA]
def rowsOf (H:List Blk) (x:AV):Option (List (List AV)):=match x with
 | .bz rows _ fr=>some (k8 fr rows)
 | .ref b g off n _=>(H[b]?).bind fun blk=>if blk.bC=g∧off+n≤blk.rows.length then some ((blk.rows.drop off).take n) else none
 | .str s=>some (s.data.toList.map fun c=>[.int .u8 c.toNat])
 | _=>none
def Pm (H:List Blk) (x:AV) (K:List (List AV)→Prop):Prop:=match x with
 | .bz rows _ fr=>K (k8 fr rows)
 | .ref b g off n _=>c3 H[b]? fun blk=>blk.bC=g∧off+n≤blk.rows.length∧K ((blk.rows.drop off).take n)
 | .str s=>K (s.data.toList.map fun c=>[.int .u8 c.toNat])
 | _=>False
theorem abr {H:List Blk} {x:AV} {K:List (List AV)→Prop} (h:Pm H x K): ∃ci,rowsOf H x=some ci∧K ci:=by
 cases x with
 | bz rows full fr=>exact⟨_,rfl,h⟩
 | ref b g off n full=>
  obtain⟨blk,hb,h1,h2,aO⟩:=fA (show c3 H[b]? fun blk=>blk.bC=g∧off+n≤blk.rows.length∧K ((blk.rows.drop off).take n) from h)
  exact⟨_,by show(H[b]?).bind _=_;rw[hb];show(if blk.bC=g∧off+n≤blk.rows.length then _ else _)=_;rw[if_pos ⟨h1,h2⟩],aO⟩
 | str s=>exact⟨_,rfl,h⟩
 | _=>exact h.elim
def tJ (P:Program) (e t2:TypeId) (x:AV):Bool:=match x with
 | .str _=>(match P.underlying t2 with
  | some .string=>(match P.underlying e with
   | some (.int .u8)=>P.cellsOf e==1
   | _=>false)
  | _=>false)
 | _=>(match P.underlying t2 with
  | some (.slice e2)=>e2==e
  | _=>false)
def qS (n:Nat) (ci:List (List AV)):Prop:= ∀row∈ci,row.length=n∧ ∀a∈row,iY a=true
abbrev ou (r:Type):Type:=AV→List (Nat×List AV)→List Blk→r
def tI (P:Program) (t t2:TypeId) (s x:AV) (L:List (Nat×List AV)) (H:List Blk) (K:ou Prop):Prop:=
 c3 (jg P t) fun e=>c3 (m_ P e) fun z=>if z.length=P.cellsOf e∧0<z.length∧tJ P e t2 x=true then Pm H x fun ci=>
  qS z.length ci∧(match s with
  | .bz rows full fr=>full=true∧(∀row∈rows,row.length=z.length)∧(rows.length+ci.length)*P.bytesOf e≤140737488355328∧rows.length+ci.length≤4611686018427387904∧(rows≠[]→ci≠[])∧
    K (.ref H.length 0 0 (rows.length+ci.length) false) L (H++[⟨0,z.length,rows++ci⟩])
  | .ref b g off n full=>off=0∧c3 H[b]? fun blk=>blk.bC=g∧blk.sz=z.length∧blk.rows.length=n∧(n+ci.length)*P.bytesOf e≤140737488355328∧n+ci.length≤4611686018427387904∧
    K (.ref b (g+1) 0 (n+ci.length) false) L (H.set b ⟨g+1,z.length,blk.rows++ci⟩)
  | _=>False)
 else False
structure Ah (P:Program) (E:Env) (t2:TypeId) (size:Nat) (ci:List (List AV)) (iI:Value) (news:List Value):Prop where
 len:news.length=ci.length*size
 rel: ∀(i j:Nat) (row:List AV) (a:AV),ci[i]?=some row→row[j]?=some a→ ∃u,news[i*size+j]?=some u∧cI E.b6 a u∧u.oneCell'=true
 one: ∀u∈news,u.oneCell'=true
 num:(∃e2,P.underlying t2=some (.slice e2))∨P.underlying t2=some .string
 lenOf: ∀w,(Builtin.lenOf iI).run P w= .ok ci.length w
 cells: ∀w,(w=E.w∨w=E.w.drew)→(Builtin.firstCells size ci.length iI).run P w= .ok news.toArray w
theorem Ol {size:Nat} {ci:List (List AV)} {news:List Value} {R:AV→Value→Prop} (fi: ∀row∈ci,row.length=size) (len:news.length=ci.length*size)
  (rel: ∀(i j:Nat) (row:List AV) (a:AV),ci[i]?=some row→row[j]?=some a→ ∃u,news[i*size+j]?=some u∧R a u∧u.oneCell'=true): ∀u∈news,u.oneCell'=true:=by
 intro u hu
 obtain⟨k,hk⟩:=List.mem_iff_getElem?.1 hu
 have kE:k<ci.length*size:=by rw[←len];exact(List.getElem?_eq_some_iff.1 hk).1
 have ln:0<size:=by
  rcases Nat.eq_zero_or_pos size with q | q
  ·rw[q,Nat.mul_zero] at kE;omega
  ·exact q
 have hi:k / size<ci.length:=(Nat.div_lt_iff_lt_mul ln).2 kE
 have eV:=List.getElem?_eq_getElem hi
 have hlen:(ci[k / size]).length=size:=fi _ (List.getElem_mem hi)
 have aM:k%size<(ci[k / size]).length:=by rw[hlen];exact Nat.mod_lt _ ln
 obtain⟨v,h1,h2,aO⟩:=rel (k / size) (k%size) _ _ eV (List.getElem?_eq_getElem aM)
 rw[Nat.div_add_mod' k size,hk] at h1
 cases h1;exact aO
theorem afo {P:Program} {e t2:TypeId} {x:AV} {ci:List (List AV)} {E:Env} {H:List Blk} {iI:Value} {size:Nat} (aR:SimH E H) (hx:V2 E x iI) (cV:size=P.cellsOf e) (bp:tJ P e t2 x=true)
  (aJ:rowsOf H x=some ci) (fi:qS size ci): ∃news,Ah P E t2 size ci iI news:=by
 have Bp: ∀row∈ci,row.length=size:=fun row h=>(fi row h).1
 cases x with
 | bz rows full fr=>
  have hl:k8 fr rows=ci:=Option.some.inj aJ
  have bx:ci=rows.map (zA fr):=by rw[←hl];exact abk fr rows
  have Bs:ci.length=rows.length:=by rw[bx,List.length_map]
  have lq: ∀row∈rows,row.length=size:=fun row h=>by
   rw[←abj fr row];exact Bp _ (by rw[bx];exact List.mem_map_of_mem h)
  have hu: ∃e2,P.underlying t2=some (.slice e2):=by
   unfold tJ at bp
   simp only at bp
   split at bp
   ·exact⟨_,by assumption⟩
   ·cases bp
  obtain⟨e2,hu⟩:=hu
  have jA:bF E.w E.PA E.PF (.bz rows full fr) iI:=hx
  cases jA with
  | @bz _ _ PB _ _ _ A cap sz vs gj gO hn yR fh d_=>
   let news:List Value:=(List.range (rows.length*size)).map fun k=>vs (k / size) (k%size)
   have mj:news.length=rows.length*size:=by simp[news]
   have hd: ∀i j,i<rows.length→j<size→news[i*size+j]?=some (vs i j):=by
    intro i j hi aM
    have hk:i*size+j<rows.length*size:=by
     calc i*size+j<i*size+size:=by omega
      _=(i+1)*size:=by rw[Nat.add_mul,Nat.one_mul]
      _≤rows.length*size:=Nat.mul_le_mul_right _ (by omega)
    show((List.range (rows.length*size)).map _)[i*size+j]?=_
    rw[List.getElem?_map,List.getElem?_range hk]
    have h1:(i*size+j) / size=i:=by
     rw[Nat.add_comm,Nat.add_mul_div_right _ _ (by omega),Nat.div_eq_of_lt aM];omega
    have h2:(i*size+j)%size=j:=by
     rw[Nat.add_comm,Nat.add_mul_mod_self_right,Nat.mod_eq_of_lt aM]
    simp[h1,h2]
   have rel: ∀(i j:Nat) (row:List AV) (a:AV),ci[i]?=some row→row[j]?=some a→ ∃u,news[i*size+j]?=some u∧cI E.b6 a u∧u.oneCell'=true:=by
    intro i j row a h1 h2
    have yP:=fi row (List.mem_of_getElem? h1)
    have aM:j<size:=by rw[←yP.1];exact(List.getElem?_eq_some_iff.1 h2).1
    have hs:=yP.2 a (List.mem_of_getElem? h2)
    rw[bx,List.getElem?_map] at h1
    cases aj:rows[i]? with
    | none=>rw[aj] at h1;cases h1
    | some xu=>
     rw[aj] at h1
     have h1:zA fr xu=row:=Option.some.inj h1
     have k1:cI E.b6 a (vs i j):=by
      cases fr with
      | false=>
       have h1:xu=row:=h1
       subst h1
       exact bF.v1 (E:=E.b6) ((d_ i j xu a aj h2).mono (fun _ _=>rfl) (fun _ h=>h.elim) (fun c hc=>show E.PA c by have:=gj c hc;simpa using this) (fun _ h=>h.elim))
      | true=>
       have h1:xu.map o2=row:=h1
       subst h1
       rw[List.getElem?_map] at h2
       cases kk:xu[j]? with
       | none=>rw[kk] at h2;cases h2
       | some J=>
        rw[kk] at h2
        have h2:o2 J=a:=Option.some.inj h2
        subst h2
        exact bF.v1 (E:=E.b6) (abi (d_ i j xu J aj kk) (fun c hc=>show E.PF c by have:=gj c hc;simpa using this) aR.eW)
     exact⟨_,hd i j (List.getElem?_eq_some_iff.1 aj).1 aM,k1,k1.B6 hs⟩
   refine⟨news,by rw[Bs];exact mj,rel,Ol Bp (by rw[Bs];exact mj) rel,.inl ⟨_,hu⟩,fun w=>by rw[Bs];rfl,fun w hw=> ?_⟩
   rw[Bs]
   have EQ: ∀a,w.cell? a=E.w.cell? a:=by rcases hw with rfl | rfl<;>intro a<;>rfl
   by_cases aN:rows.length=0
   ·have aF:news=[]:=List.eq_nil_of_length_eq_zero (by rw[mj,aN,Nat.zero_mul])
    rw[aF,aN]
    cases A with
    | none=>exact run_firstCells_none w size 0 _ _
    | some lN=>
     have:=run_firstCells_some (P:=P) w size 0 lN 0 cap [] (by simp) (fun j v h=>by simp at h)
     exact this
   ·obtain⟨c,o,rfl,hc,eC⟩:=fh (by omega)
    refine run_firstCells_some (P:=P) w size rows.length ⟨c,o,none⟩ rows.length cap news mj (fun k v hk=> ?_)
    have kE:k<rows.length*size:=by rw[←mj];exact(List.getElem?_eq_some_iff.1 hk).1
    have ln:0<size:=by
     rcases Nat.eq_zero_or_pos size with q | q
     ·rw[q,Nat.mul_zero] at kE;omega
     ·exact q
    have hi:k / size<rows.length:=(Nat.div_lt_iff_lt_mul ln).2 kE
    have aM:k%size<size:=Nat.mod_lt _ ln
    have L8:sz=size:=by
     have:=yR _ _ (List.getElem?_eq_getElem hi)
     rw[←this];exact lq _ (List.getElem_mem hi)
    have h1:=eC (k / size) (k%size) hi (by rw[L8];exact aM)
    have h2:=hd (k / size) (k%size) hi aM
    rw[Nat.div_add_mod' k size] at h2
    rw[hk] at h2
    cases h2
    rw[nO,EQ]
    rw[L8,Nat.div_add_mod' k size] at h1
    exact h1
 | ref b g off n full=>
  have hu: ∃e2,P.underlying t2=some (.slice e2):=by
   unfold tJ at bp
   simp only at bp
   split at bp
   ·exact⟨_,by assumption⟩
   ·cases bp
  obtain⟨e2,hu⟩:=hu
  have aJ:((H[b]?).bind fun blk=>if blk.bC=g∧off+n≤blk.rows.length then some ((blk.rows.drop off).take n) else none)=some ci:=aJ
  cases hb:H[b]? with
  | none=>simp[hb] at aJ
  | some blk=>
   simp only[hb,Option.bind_some] at aJ
   split at aJ
   case isFalse=>cases aJ
   case isTrue hc=>
   obtain⟨hg,sQ⟩:=hc
   cases aJ
   have kf:=aR.fb b blk hb
   have qA:((blk.rows.drop off).take n).length=n:=by simp;omega
   have XL: ∀i row,((blk.rows.drop off).take n)[i]?=some row→blk.rows[off+i]?=some row:=by
    intro i row h
    rw[List.getElem?_take] at h
    split at h
    ·rw[List.getElem?_drop] at h;exact h
    ·cases h
   rcases(show ft E (.ref b g off n full) iI from hx) with⟨bV,_⟩ | ⟨fR,bV⟩
   ·omega
   ·rcases bV with⟨_,_,mi,A,rfl⟩ | ⟨c,cap,hm,rfl,oO,n6,qq⟩
    ·subst mi
     refine⟨[],by simp,fun i j row a h=>by simp at h,(fun u hu=>by cases hu),.inl ⟨_,hu⟩,fun w=>by simp;rfl,fun w hw=> ?_⟩
     rw[qA]
     cases A with
     | none=>exact run_firstCells_none w size 0 _ _
     | some lN=>exact run_firstCells_some (P:=P) w size 0 lN 0 0 [] (by simp) (fun j v h=>by simp at h)
    ·obtain⟨blk',a7,ty,q1,dU,hw,mh,n4,gu⟩:=aR.heap b c hm
     obtain rfl:blk=blk':=by rw[hb] at q1;exact Option.some.inj q1
     by_cases mi:n=0
     ·subst mi
      refine⟨[],by simp,fun i j row a h=>by simp at h,(fun u hu=>by cases hu),.inl ⟨_,hu⟩,fun w=>by simp;rfl,fun w hw=> ?_⟩
      rw[qA]
      exact run_firstCells_some (P:=P) w size 0 _ 0 cap [] (by simp) (fun j v h=>by simp at h)
     ·have Fh:E.sz b=size:=by
       have bc:off<blk.rows.length:=by omega
       have aT:((blk.rows.drop off).take n)[0]?=some blk.rows[off]:=by
        rw[List.getElem?_take,if_pos (by omega),List.getElem?_drop,Nat.add_zero,List.getElem?_eq_getElem bc]
       rw[←gu.1 off _ (List.getElem?_eq_getElem bc)]
       exact Bp _ (List.mem_of_getElem? aT)
      let news:List Value:=(a7.toList.drop (off*size)).take (n*size)
      have Wz:off*size+n*size≤a7.size:=by
       rw[mh,Fh,←Nat.add_mul];exact Nat.mul_le_mul_right _ (by omega)
      have mj:news.length=n*size:=by simp[news];omega
      have LW: ∀k,k<n*size→news[k]?=a7[off*size+k]?:=by
       intro k hk
       show((a7.toList.drop (off*size)).take (n*size))[k]?=_
       rw[List.getElem?_take,if_pos hk,List.getElem?_drop,Array.getElem?_toList]
      have rel: ∀(i j:Nat) (row:List AV) (a:AV),((blk.rows.drop off).take n)[i]?=some row→row[j]?=some a→ ∃u,news[i*size+j]?=some u∧cI E.b6 a u∧u.oneCell'=true:=by
       intro i j row a h1 h2
       have yP:=fi row (List.mem_of_getElem? h1)
       have aM:j<size:=by rw[←yP.1];exact(List.getElem?_eq_some_iff.1 h2).1
       have hi:i<n:=by have:=(List.getElem?_eq_some_iff.1 h1).1;rw[qA] at this;exact this
       obtain⟨u,wL,wM⟩:=gu.2 (off+i) j row a (XL i row h1) h2
       have hk:i*size+j<n*size:=by
        calc i*size+j<i*size+size:=by omega
         _=(i+1)*size:=by rw[Nat.add_mul,Nat.one_mul]
         _≤n*size:=Nat.mul_le_mul_right _ (by omega)
       refine⟨u,?_,wM,wM.B6 (yP.2 a (List.mem_of_getElem? h2))⟩
       rw[LW _ hk,←wL,Fh]
       congr 1
       rw[Nat.add_mul];omega
      refine⟨news,by rw[qA];exact mj,rel,Ol Bp (by rw[qA];exact mj) rel,.inl ⟨_,hu⟩,fun w=>by rw[qA];rfl,fun w eY=> ?_⟩
      have EQ: ∀a,w.cell? a=E.w.cell? a:=by rcases eY with rfl | rfl<;>intro a<;>rfl
      rw[qA]
      refine run_firstCells_some (P:=P) w size n _ n cap news mj (fun k v hk=> ?_)
      have kE:k<n*size:=by rw[←mj];exact(List.getElem?_eq_some_iff.1 hk).1
      rw[LW k kE] at hk
      rw[nO,EQ,Fh]
      exact cell_of hw hk
 | str s=>
  obtain rfl:=V3.xE (p5 hx)
  cases aJ
  unfold tJ at bp
  simp only at bp
  split at bp
  case h_2=>cases bp
  case h_1 hu=>
  split at bp
  case h_2=>cases bp
  case h_1 he=>
  have fH:size=1:=by rw[cV];simpa using bp
  subst fH
  have yS:s.data.toList.length=s.size:=by simp
  refine⟨s.data.toList.map fun c=> .int .u8 c.toNat,by simp,fun i j row a h1 h2=> ?_,fun u hu=> ?_,.inr hu,fun w=> ?_,fun w hw=> ?_⟩
  ·rw[List.getElem?_map] at h1
   cases hc:s.data.toList[i]? with
   | none=>rw[hc] at h1;cases h1
   | some c=>
    rw[hc] at h1
    cases h1
    have LK:j=0:=by have:=(List.getElem?_eq_some_iff.1 h2).1;simp at this;omega
    subst LK
    cases h2
    exact⟨.int .u8 c.toNat,by rw[List.getElem?_map,Nat.mul_one,Nat.add_zero,hc];rfl,bF.int _ _,rfl⟩
  ·obtain⟨c,_,rfl⟩:=List.mem_map.1 hu;rfl
  ·show Result.ok s.size w=_
   rw[List.length_map,yS]
  ·rw[List.length_map,yS]
   show Result.ok ((s.extract 0 s.size).data.map fun b=>Value.int .u8 b.toNat) w=_
   congr 1
   apply Array.ext'
   simp
 | _=>cases aJ
section
variable {P:Program} {E:Env} {t t2 ty e:TypeId} {size:Nat} {ci:List (List AV)} {iI:Value} {news:List Value}
theorem Po (X:Ah P E t2 size ci iI news) (bp:P.underlying t=some (.slice e)) (hi:(P.info? e).isSome=true) (cV:P.cellsOf e=size) {base:Option Addr} {sLen sCap:Nat} (aF:ci.length=0) (hc:sLen≤sCap):
  (Builtin.append_ #[t,t2] ty #[.slice base sLen sCap,iI]).run P E.w= .ok (.slice base sLen sCap) E.w:=by
 have aL:=X.lenOf E.w
 have hf:=X.cells E.w (.inl rfl)
 have W7:news=[]:=List.eq_nil_of_length_eq_zero (by rw[X.len,aF,Nat.zero_mul])
 subst W7
 rw[aF] at aL hf
 rcases X.num with⟨e2,hu⟩ | hu<;>
  (simp[Builtin.append_,run_underlying bp,run_underlying hu,run_sizeOf hi,cV,aL,hc,hf]
   cases base<;>simp[storeCells])
theorem abu (X:Ah P E t2 size ci iI news) (bp:P.underlying t=some (.slice e)) (hi:(P.info? e).isSome=true) (cV:P.cellsOf e=size) {g o sLen sCap:Nat} {c9:Array Value} {ce:TypeId}
  (hg:E.w.heap[g]?=some (.cells c9 ce (0,0))) (wI:sLen+ci.length≤sCap) (sK:o+sLen*size+news.length≤c9.size):
  (Builtin.append_ #[t,t2] ty #[.slice (some ⟨g,o,none⟩) sLen sCap,iI]).run P E.w= .ok (.slice (some ⟨g,o,none⟩) (sLen+ci.length) sCap) (E.w.setRow g (c9.toList.take (o+sLen*size)++news++c9.toList.drop (o+sLen*size+news.length)).toArray):=by
 have aL:=X.lenOf E.w
 have hf:=X.cells E.w (.inl rfl)
 have bj:=run_storeCells_at (P:=P) g (o+sLen*size) ce news 0 c9 E.w hg (by simpa using sK) X.one
 simp only[Nat.add_zero] at bj
 rcases X.num with⟨e2,hu⟩ | hu<;>
  simp[Builtin.append_,run_underlying bp,run_underlying hu,run_sizeOf hi,cV,aL,wI,hf,nO,bj]
theorem abv (X:Ah P E t2 size ci iI news) (bp:P.underlying t=some (.slice e)) {i:TypeInfo} (hi:P.info? e=some i) (cV:i.size=size) {z:Value} (aN:i.zero=some z) {base:Option Addr} {sLen sCap:Nat} {kn:Array Value}
  (holds:(Builtin.firstCells size sLen (.slice base sLen sCap)).run P E.w.drew= .ok kn E.w.drew) (hg:sCap<sLen+ci.length) (A_:((sLen+ci.length:Nat):Int)≤9223372036854775807)
  (sK:Builtin.nextslicecap (sLen+ci.length) sCap*i.bytes≤281474976710656):
  (Builtin.append_ #[t,t2] ty #[.slice base sLen sCap,iI]).run P E.w= .ok (.slice (some ⟨E.w.heap.size,0,none⟩) (sLen+ci.length) (grownCap E.w (sLen+ci.length) sCap e))
   (E.w.drew.alloc (.cells (kn++news.toArray++Builtin.zeroCells z.cells (grownCap E.w (sLen+ci.length) sCap e - (sLen+ci.length))) e)):=by
 have aL:=X.lenOf E.w
 have hf:=X.cells E.w.drew (.inr rfl)
 subst cV
 have aF: ¬(sLen+ci.length≤sCap):=by omega
 have Wi: ¬(9223372036854775807<((sLen:Int)+(ci.length:Int))):=by omega
 have Wg: ¬(281474976710656<Builtin.nextslicecap (sLen+ci.length) sCap*i.bytes):=by omega
 rcases X.num with⟨e2,hu⟩ | hu<;>
  simp[Builtin.append_,run_underlying bp,run_underlying hu,sizeOf,typeInfo,zeroValue,hi,aN,aL,aF,Wi,Wg,Question.forced,hf,holds,newRow,grownCap]
end
theorem Te {P:Program} {t t2 ty:TypeId} {s x:AV} {L:List (Nat×List AV)} {H:List Blk} {K:AV→List (Nat×List AV)→List Blk→Prop} {E:Env} {xF iI:Value}
  (aR:SimH E H) (b0:SimL E L) (hs:V2 E s xF) (hx:V2 E x iI) (h:tI P t t2 s x L H K):
  ∃r u H' E',K r L H'∧(Builtin.append_ #[t,t2] ty #[xF,iI]).run P E.w= .ok u E'.w∧Step E E'∧SimH E' H'∧SimL E' L∧V3 E' r u∧E'.mL=E.mL:=by
 obtain⟨e,he,h⟩:=fA h
 obtain⟨z,aN,h⟩:=fA h
 have bp:=sB he
 split at h
 case isFalse=>exact h.elim
 case isTrue hc=>
 obtain⟨oa,ln,pt⟩:=hc
 obtain⟨ci,BF,fi,h⟩:=abr h
 obtain⟨i,vx,hi,ux,uv,uw⟩:=vw (E:=E.b6) aN
 obtain⟨news,X⟩:=afo aR hx oa pt BF fi
 have yG:(P.info? e).isSome=true:=by rw[hi];rfl
 have wy:i.size=z.length:=by rw[oa];simp[Program.cellsOf,hi]
 have ww:i.bytes=P.bytesOf e:=by simp[Program.bytesOf,hi]
 have XS:vx.cells.size=z.length:=by rw[uv];simp

 have out: ∀(base:Option Addr) (rows:List (List AV)) (sCap:Nat) (kn:Array Value) (b g:Nat) (H':List Blk),xF= .slice base rows.length sCap→
   (Builtin.firstCells z.length rows.length (.slice base rows.length sCap)).run P E.w.drew= .ok kn E.w.drew→kn.size=rows.length*z.length→
   (∀row∈rows,row.length=z.length)→(∀(i j:Nat) (row:List AV) (a:AV),rows[i]?=some row→row[j]?=some a→ ∃u,kn[i*z.length+j]?=some u∧cI E.b6 a u)→
   sCap<rows.length+ci.length→(rows.length+ci.length)*P.bytesOf e≤140737488355328→rows.length+ci.length≤4611686018427387904→
   H'[b]?=some ⟨g,z.length,rows++ci⟩→(∀cl,cl≠b→H'[cl]?=H[cl]?)→(b<H.length→H'.length=H.length)→H.length≤H'.length→((E.m b=none∧g=E.bC b)∨E.bC b<g)→
   K (.ref b g 0 (rows.length+ci.length) false) L H'→ ∃r u H' E',K r L H'∧(Builtin.append_ #[t,t2] ty #[xF,iI]).run P E.w= .ok u E'.w∧Step E E'∧SimH E' H'∧SimL E' L∧V3 E' r u∧E'.mL=E.mL:=by
  intro base rows sCap kn b g H' XC holds L1 lq Xj wI hby g1 eh aC hlen Bo kf hK
  subst XC
  have fT:=abv (ty:=ty) X bp hi wy ux holds wI (by omega) (growslice_fits (by omega) (by rw[ww];exact hby))
  have EO:=grownCap_ge E.w (rows.length+ci.length) sCap e
  let cap:=grownCap E.w (rows.length+ci.length) sCap e
  let a7:Array Value:=kn++news.toArray++Builtin.zeroCells vx.cells (cap - (rows.length+ci.length))
  have mh:a7.size=cap*z.length:=by
   show(kn++news.toArray++Builtin.zeroCells vx.cells (cap - (rows.length+ci.length))).size=_
   have bx:(kn++news.toArray++Builtin.zeroCells vx.cells (cap - (rows.length+ci.length))).size=kn.size+news.length+(Builtin.zeroCells vx.cells (cap - (rows.length+ci.length))).size:=by simp;omega
   rw[bx,size_zeroCells,XS,L1,X.len,←Nat.add_mul,←Nat.add_mul]
   congr 1
   have:rows.length+ci.length≤cap:=EO
   omega
  have gu:vC E z.length (rows++ci) a7:=by
   refine⟨fun k row aJ=> ?_,fun k j row a aJ aM=> ?_⟩
   ·rcases Nat.lt_or_ge k rows.length with bc | fR
    ·rw[List.getElem?_append_left bc] at aJ;exact lq row (List.mem_of_getElem? aJ)
    ·rw[List.getElem?_append_right fR] at aJ;exact(fi row (List.mem_of_getElem? aJ)).1
   ·rcases Nat.lt_or_ge k rows.length with bc | fR
    ·rw[List.getElem?_append_left bc] at aJ
     obtain⟨u,hu,hv⟩:=Xj k j row a aJ aM
     refine⟨u,?_,hv⟩
     have kE:=(Array.getElem?_eq_some_iff.1 hu).1
     show(kn++news.toArray++_)[k*z.length+j]?=_
     rw[Array.getElem?_append_left (by rw[Array.size_append];omega),Array.getElem?_append_left kE];exact hu
    ·rw[List.getElem?_append_right fR] at aJ
     obtain⟨u,hu,hv,_⟩:=X.rel _ j row a aJ aM
     refine⟨u,?_,hv⟩
     have kE:=(List.getElem?_eq_some_iff.1 hu).1
     have n9:k*z.length+j=kn.size+((k - rows.length)*z.length+j):=by
      rw[L1,←Nat.add_assoc,←Nat.add_mul];congr 2;omega
     show(kn++news.toArray++_)[k*z.length+j]?=_
     rw[n9,Array.getElem?_append_left (by simp;omega),Array.getElem?_append_right (by omega),Nat.add_sub_cancel_left]
     simpa using hu
  obtain⟨E',hw,bj,rO,rP,py,nm,lZ,Bc,_,hml⟩:=wZ (cap:=cap) (blk:=⟨g,z.length,rows++ci⟩) aR b0 (nc.Ut E.w (.cells a7 e (0,0))) eh aC hlen Bo kf mh (by
   show(rows++ci).length≤cap
   rw[List.length_append];exact EO) gu
  refine⟨_,_,_,E',hK,by rw[hw];exact fT,bj,rO,rP,.inr ⟨py.symm,.inr ⟨_,_,nm,?_,EO,(fun h=>by cases h),?_⟩⟩,hml⟩
  ·rw[Nat.zero_mul]
  ·rw[Bc,Nat.zero_add];exact Nat.le_refl _
 cases s with
 | bz rows full fr=>
  obtain⟨hn,lq,hby,g1,cm,hK⟩:=h
  subst hn
  have lZ:bF E.w E.PA E.PF (.bz rows true fr) xF:=hs
  cases lZ with
  | @bz _ _ PB _ _ _ A cap sz vs gj gO hn cV fh d_=>
   have WD:=hn rfl
   subst WD
   by_cases hT:ci.length=0
   ·have BG:ci=[]:=List.eq_nil_of_length_eq_zero hT
    have pB:rows=[]:=Classical.byContradiction fun bV=>cm bV BG
    subst pB;subst BG
    obtain⟨E',hw,bj,rO,rP,py,nm,_,hml⟩:=B0 (blk:=⟨0,z.length,[]++[]⟩) aR b0 rfl rfl
    have fT:=Po (ty:=ty) X bp yG oa.symm (base:=A) (sLen:=0) (sCap:=0) rfl (Nat.le_refl _)
    exact⟨_,_,_,E',hK,by rw[hw];exact fT,bj,rO,rP,.inr ⟨py.symm,.inl ⟨nm,rfl,rfl,A,rfl⟩⟩,hml⟩
   ·have XE:0<rows.length→sz=z.length:=fun aG=>by
     rw[←cV 0 _ (List.getElem?_eq_getElem aG)];exact lq _ (List.getElem_mem aG)
    let kn:List Value:=(List.range (rows.length*z.length)).map fun k=>vs (k / z.length) (k%z.length)
    have wF:kn.length=rows.length*z.length:=by simp[kn]
    have hd: ∀i j,i<rows.length→j<z.length→kn[i*z.length+j]?=some (vs i j):=by
     intro i j hi aM
     have hk:i*z.length+j<rows.length*z.length:=by
      calc i*z.length+j<i*z.length+z.length:=by omega
       _=(i+1)*z.length:=by rw[Nat.add_mul,Nat.one_mul]
       _≤rows.length*z.length:=Nat.mul_le_mul_right _ (by omega)
     show((List.range (rows.length*z.length)).map _)[i*z.length+j]?=_
     rw[List.getElem?_map,List.getElem?_range hk]
     have h1:(i*z.length+j) / z.length=i:=by
      rw[Nat.add_comm,Nat.add_mul_div_right _ _ (by omega),Nat.div_eq_of_lt aM];omega
     have h2:(i*z.length+j)%z.length=j:=by
      rw[Nat.add_comm,Nat.add_mul_mod_self_right,Nat.mod_eq_of_lt aM]
     simp[h1,h2]
    refine out A rows rows.length kn.toArray H.length 0 _ rfl ?_ (by simp[wF]) lq (fun i j row a h1 h2=> ?_) (by omega) hby g1 (by simp) (fun cl eh=> ?_) (fun bV=>by omega) (by simp) (.inl ⟨(aR.fresh _ (Nat.le_refl _)).1,(aR.fresh _ (Nat.le_refl _)).2.symm⟩) hK
    ·by_cases pB:rows.length=0
     ·have aT:kn=[]:=List.eq_nil_of_length_eq_zero (by rw[wF,pB,Nat.zero_mul])
      rw[aT,pB]
      cases A with
      | none=>exact run_firstCells_none _ _ _ _ _
      | some lN=>exact run_firstCells_some (P:=P) _ z.length 0 lN 0 0 [] (by simp) (fun j v h=>by simp at h)
     ·obtain⟨c,o,rfl,hc,eC⟩:=fh (by omega)
      refine run_firstCells_some (P:=P) E.w.drew z.length rows.length ⟨c,o,none⟩ rows.length rows.length kn wF (fun k v hk=> ?_)
      have kE:k<rows.length*z.length:=by rw[←wF];exact(List.getElem?_eq_some_iff.1 hk).1
      have hi:k / z.length<rows.length:=(Nat.div_lt_iff_lt_mul ln).2 kE
      have aM:k%z.length<z.length:=Nat.mod_lt _ ln
      have rT:=XE (by omega)
      have h1:=eC (k / z.length) (k%z.length) hi (by rw[rT];exact aM)
      have h2:=hd (k / z.length) (k%z.length) hi aM
      rw[Nat.div_add_mod' k z.length] at h2
      rw[hk] at h2
      cases h2
      rw[rT,Nat.div_add_mod' k z.length] at h1
      rw[nO]
      exact h1
    ·have hi:=(List.getElem?_eq_some_iff.1 h1).1
     have aM:j<z.length:=by rw[←lq row (List.mem_of_getElem? h1)];exact(List.getElem?_eq_some_iff.1 h2).1
     refine⟨vs i j,by simpa using hd i j hi aM,bF.v1 (E:=E.b6) ((d_ i j row a h1 h2).mono (fun _ _=>rfl) (fun _ h=>h.elim) (fun c hc=>by have:=gj c hc;split at this;exact aR.eW c this;exact this) (fun _ h=>h.elim))⟩
    ·rcases Nat.lt_or_ge cl H.length with bc | fR
     ·rw[List.getElem?_append_left bc]
     ·rw[List.getElem?_eq_none fR,List.getElem?_eq_none (by simp;omega)]
 | ref b g off n full=>
  replace h:off=0∧c3 H[b]? fun blk=>blk.bC=g∧blk.sz=z.length∧blk.rows.length=n∧(n+ci.length)*P.bytesOf e≤140737488355328∧n+ci.length≤4611686018427387904∧
    K (.ref b (g+1) 0 (n+ci.length) false) L (H.set b ⟨g+1,z.length,blk.rows++ci⟩):=h
  obtain⟨Xc,aj⟩:=h
  obtain⟨blk,hb,hg,mQ,hE,hby,g1,hK⟩:=fA aj
  clear aj
  subst Xc
  have kf:=aR.fb b blk hb
  have qo:b<H.length:=(List.getElem?_eq_some_iff.1 hb).1
  subst hE
  rcases(show ft E (.ref b g 0 blk.rows.length full) xF from hs) with⟨bV,_⟩ | ⟨fR,bV⟩
  ·omega
  ·rcases bV with⟨hm,_,mi,A,rfl⟩ | ⟨c,cap,hm,rfl,oO,n6,qq⟩
   ·
    by_cases hT:ci.length=0
    ·have BG:ci=[]:=List.eq_nil_of_length_eq_zero hT
     subst BG
     obtain⟨E',hw,bj,rO,rP,py,nm,yR,Bc,hml⟩:=Pe (w':=E.w) (x:=none) (blk':=⟨g+1,z.length,blk.rows++[]⟩) aR b0 hm hb (by show g+1=_;rw[hg]) mQ.symm rfl rfl rfl rfl (fun _ _=>rfl) (fun c hc=>by cases hc)
     have fT:=Po (ty:=ty) X bp yG oa.symm (base:=A) (sLen:=0) (sCap:=0) rfl (Nat.le_refl _)
     refine⟨_,_,_,E',hK,by rw[hw];exact fT,bj,rO,rP,.inr ⟨py.symm,.inl ⟨by rw[nm];exact hm,rfl,by simp[mi],A,rfl⟩⟩,hml⟩
    ·have pB:blk.rows=[]:=List.eq_nil_of_length_eq_zero mi
     refine out A blk.rows 0 #[] b (g+1) _ (by rw[pB];rfl) ?_ (by rw[pB];simp) (fun row aJ=>by rw[pB] at aJ;cases aJ) (fun i j row a h1 h2=>by rw[pB] at h1;simp at h1) (by omega) hby g1 (by rw[List.getElem?_set_self qo]) (fun cl eh=>List.getElem?_set_ne (fun h=>eh h.symm)) (fun _=>by simp) (by simp) (.inr (by omega)) hK
     rw[pB]
     cases A with
     | none=>exact run_firstCells_none _ _ _ _ _
     | some lN=>exact run_firstCells_some (P:=P) _ z.length 0 lN 0 0 [] (by simp) (fun j v h=>by simp at h)
   ·obtain⟨blk',a7,jK,q1,dU,hw,mh,n4,gu⟩:=aR.heap b c hm
    obtain rfl:blk=blk':=by rw[hb] at q1;exact Option.some.inj q1
    have cV:E.sz b=z.length:=by rw[dU,mQ]
    by_cases wI:blk.rows.length+ci.length≤cap
    ·
     have WI:a7.size=E.cp b*z.length:=by rw[mh,cV]
     have hle:(blk.rows.length+ci.length)*z.length≤a7.size:=by rw[WI];exact Nat.mul_le_mul_right _ (by omega)
     have LQ:blk.rows.length*z.length+news.length≤a7.size:=by rw[X.len,←Nat.add_mul];exact hle
     have fT:=abu (ty:=ty) (o:=0) X bp yG oa.symm hw wI (by rw[Nat.zero_add];exact LQ)
     rw[Nat.zero_add] at fT
     let dB:Array Value:=(a7.toList.take (blk.rows.length*z.length)++news++a7.toList.drop (blk.rows.length*z.length+news.length)).toArray
     have Lx: ∀k,dB[k]?=if k<blk.rows.length*z.length then a7.toList[k]? else if k<blk.rows.length*z.length+news.length then news[k - blk.rows.length*z.length]? else a7.toList[k]?:=by
      intro k
      show(List.toArray _)[k]?=_
      rw[List.getElem?_toArray,xC (by simpa using LQ)]
     obtain⟨E',eY,bj,rO,rP,py,nm,yR,Bc,hml⟩:=Pe (w':=E.w.setRow c dB) (x:=some c) (blk':=⟨g+1,z.length,blk.rows++ci⟩) aR b0 hm hb (by show g+1=_;rw[hg]) mQ.symm rfl rfl rfl (by simp)
      (fun c' qp=>setRow_other _ _ _ _ (fun e=>qp (by rw[e]))) (fun c' qp=>by
       cases qp
       refine⟨dB,jK,setRow_heap _ _ _ _ _ _ hw,?_,by show(blk.rows++ci).length≤_;rw[List.length_append];omega,fun k row aJ=> ?_,fun k j row a aJ aM=> ?_⟩
       ·rw[←mh]
        show(List.toArray _).size=_
        simp;omega
       ·have aJ:(blk.rows++ci)[k]?=some row:=aJ
        rcases Nat.lt_or_ge k blk.rows.length with bc | Bh
        ·rw[List.getElem?_append_left bc] at aJ;exact gu.1 k row aJ
        ·rw[List.getElem?_append_right Bh] at aJ;rw[cV];exact(fi row (List.mem_of_getElem? aJ)).1
       ·have aJ:(blk.rows++ci)[k]?=some row:=aJ
        rcases Nat.lt_or_ge k blk.rows.length with bc | Bh
        ·rw[List.getElem?_append_left bc] at aJ
         obtain⟨u,hu,hv⟩:=gu.2 k j row a aJ aM
         refine⟨u,?_,hv⟩
         have oL:j<z.length:=by rw[←cV,←gu.1 k row aJ];exact(List.getElem?_eq_some_iff.1 aM).1
         have:k*z.length+j<blk.rows.length*z.length:=by
          calc k*z.length+j<k*z.length+z.length:=by omega
           _=(k+1)*z.length:=by rw[Nat.add_mul,Nat.one_mul]
           _≤blk.rows.length*z.length:=Nat.mul_le_mul_right _ (by omega)
         rw[cV] at hu ⊢
         rw[Lx,if_pos this];simpa using hu
        ·rw[List.getElem?_append_right Bh] at aJ
         obtain⟨u,hu,hv,_⟩:=X.rel _ j row a aJ aM
         refine⟨u,?_,hv⟩
         have kE:=(List.getElem?_eq_some_iff.1 hu).1
         have n9:k*z.length+j=blk.rows.length*z.length+((k - blk.rows.length)*z.length+j):=by
          rw[←Nat.add_assoc,←Nat.add_mul];congr 2;omega
         rw[cV,Lx,n9,if_neg (by omega),if_pos (by omega),Nat.add_sub_cancel_left];exact hu)
     refine⟨_,_,_,E',hK,by rw[eY];rw[Nat.zero_mul];exact fT,bj,rO,rP,.inr ⟨py.symm,.inr ⟨c,cap,by rw[nm];exact hm,by simp,wI,(fun h=>by cases h),by rw[Bc];omega⟩⟩,hml⟩
    ·
     refine out (some ⟨c,0,none⟩) blk.rows cap (a7.toList.take (blk.rows.length*z.length)).toArray b (g+1) _ (by rw[Nat.zero_mul]) ?_ ?_ (fun row aJ=> ?_) (fun i j row a h1 h2=> ?_) (by omega) hby g1 (by rw[List.getElem?_set_self qo]) (fun cl eh=>List.getElem?_set_ne (fun h=>eh h.symm)) (fun _=>by simp) (by simp) (.inr (by omega)) hK
     ·refine run_firstCells_some (P:=P) E.w.drew z.length blk.rows.length ⟨c,0,none⟩ blk.rows.length cap _ ?_ (fun k v hk=> ?_)
      ·have:blk.rows.length*z.length≤a7.size:=by rw[mh,cV];exact Nat.mul_le_mul_right _ n4
       simp;omega
      ·rw[List.getElem?_take] at hk
       split at hk
       ·rw[nO,Nat.zero_add]
        exact cell_of (w:=E.w) hw (by simpa using hk)
       ·cases hk
     ·have:blk.rows.length*z.length≤a7.size:=by rw[mh,cV];exact Nat.mul_le_mul_right _ n4
      simp;omega
     ·obtain⟨k,hk⟩:=List.mem_iff_getElem?.1 aJ
      rw[←cV];exact gu.1 k row hk
     ·obtain⟨u,hu,hv⟩:=gu.2 i j row a h1 h2
      refine⟨u,?_,hv⟩
      have hi:=(List.getElem?_eq_some_iff.1 h1).1
      have aM:j<z.length:=by rw[←cV,←gu.1 i row h1];exact(List.getElem?_eq_some_iff.1 h2).1
      have:i*z.length+j<blk.rows.length*z.length:=by
       calc i*z.length+j<i*z.length+z.length:=by omega
        _=(i+1)*z.length:=by rw[Nat.add_mul,Nat.one_mul]
        _≤blk.rows.length*z.length:=Nat.mul_le_mul_right _ (by omega)
      rw[List.getElem?_toArray,List.getElem?_take,if_pos this,Array.getElem?_toList,←cV]
      exact hu
 | _=>exact h.elim
def C4 (E:Env) (o:Oper) (a:Act) (K:ou Prop):Act→World→Prop:=fun ih w'=>
 ∃v u L' H' E',K v L' H'∧E'.w=w'∧Step E E'∧SimH E' H'∧SimL E' L'∧V3 E' v u∧ih=a.put o.dst u∧ ∀t,o.dst≠some t→E'.mL t=E.mL t
def Av:List Nat→Nat→Option Nat
 | [],_=>none
 | x::r,t=>match Nat.ble 2000000 x with
  | true=>(match Nat.beq ((x - 2000000)%1000) t with
   | true=>some ((x - 2000000) / 1000)
   | false=>Av r t)
  | false=>Av r t
def uJ (esc:List Nat) (dst:Option Nat) (cells:List AV) (L:List (Nat×List AV)) (H:List Blk) (K:ou Prop):Prop:=
 if cells.all iY=true then match dst with
  | none=>False
  | some t=>match Av esc t with
   | some j=>c3 H[j]? fun blk=>K (.ptr j (blk.bC+1) 0 0) L (H.set j ⟨blk.bC+1,cells.length,[cells]⟩)
   | none=>if esc.contains t=true then K (.ptr H.length 0 0 0) L (H++[⟨0,cells.length,[cells]⟩]) else
    match eU L t with
    | none=>K (.fF t 0) ((t,cells)::L) H
    | some _=>False
 else False
theorem SimL.none {E:Env} {L:List (Nat×List AV)} (h:SimL E L) {t:Nat} (aF:eU L t=none):E.mL t=none:=by
 cases hm:E.mL t with
 | none=>rfl
 | some c=>
  obtain⟨cells,a7,ty,h1,_⟩:=h t c hm
  rw[aF] at h1;cases h1
theorem IW {E:Env} {cells:List AV} {vs:List Value} (hs:cells.all iY=true) (h:aE (cI E) cells vs):aE (cI E.b6) cells vs:=
 ⟨h.1,fun i a v a4 hv=>IV (List.all_eq_true.1 hs a (List.mem_of_getElem? a4)) (h.2 i a v a4 hv)⟩
theorem Oc {E:Env} {H:List Blk} {L:List (Nat×List AV)} {esc:List Nat} {dst:Option Nat} {cells:List AV} {a7:Array Value} {ty:TypeId} {K:AV→List (Nat×List AV)→List Blk→Prop}
  (aR:SimH E H) (b0:SimL E L) (hc:aE (cI E) cells a7.toList) (h:uJ esc dst cells L H K):
  ∃v L' H' E',K v L' H'∧E'.w=E.w.alloc (.cells a7 ty (0,0))∧Step E E'∧SimH E' H'∧SimL E' L'∧V3 E' v (.pointer (some ⟨E.w.heap.size,0,none⟩))∧ ∀s,dst≠some s→E'.mL s=E.mL s:=by
 unfold uJ at h
 split at h
 case isFalse=>exact h.elim
 case isTrue hs=>
 have qp:=IW hs hc
 cases dst with
 | none=>exact h.elim
 | some t=>
  have h:match Av esc t with
   | some j=>c3 H[j]? fun blk=>K (.ptr j (blk.bC+1) 0 0) L (H.set j ⟨blk.bC+1,cells.length,[cells]⟩)
   | none=>if esc.contains t=true then K (.ptr H.length 0 0 0) L (H++[⟨0,cells.length,[cells]⟩]) else(match eU L t with
    | none=>K (.fF t 0) ((t,cells)::L) H
    | some _=>False):=h
  split at h
  ·rename_i j WB
   obtain⟨blk,yx,hK⟩:=fA h
   have oL:=(List.getElem?_eq_some_iff.1 yx).1
   have WU:=aR.fb j blk yx
   have hlen:a7.size=cells.length:=by have:=hc.1;simp at this;exact this.symm
   obtain⟨E',bx,e2,dS,iM,ij,mI,AJ,tP,_,hml⟩:=wZ (H:=H) (H':=H.set j ⟨blk.bC+1,cells.length,[cells]⟩) (b:=j) (cap:=1) (blk:=⟨blk.bC+1,cells.length,[cells]⟩) aR b0 (nc.alloc E.w (.cells a7 ty (0,0)))
    (by rw[List.getElem?_set];simp[oL]) (fun cl eh=>by rw[List.getElem?_set,if_neg (fun e=>eh e.symm)]) (fun _=>by simp) (by simp) (.inr (by show E.bC j<blk.bC+1;omega)) (by simp[hlen]) (by simp)
    ⟨fun i row aJ=>by
      cases i with
      | zero=>simp at aJ;subst aJ;rfl
      | succ i=>simp at aJ,
     fun i j row a aJ aM=>by
      cases i with
      | zero=>
       simp at aJ;subst aJ
       obtain⟨u,hu,hv⟩:=qp.get aM
       exact⟨u,by simpa using hu,hv⟩
      | succ i=>simp at aJ⟩
   refine⟨_,_,_,E',hK,bx,e2,dS,iM,.inr ⟨ij.symm,E.w.heap.size,mI,?_⟩,fun s _=>by rw[hml]⟩
   rw[Nat.zero_mul]
  split at h
  ·have hlen:a7.size=cells.length:=by have:=hc.1;simp at this;exact this.symm
   have yp:SimH E (H++[⟨0,cells.length,[cells]⟩]):=aR.snoc rfl
   obtain⟨wC,pz⟩:=aR.fresh H.length (Nat.le_refl _)
   obtain⟨E',bx,e2,dS,iM,ij,mI,AJ,tP,_,hml⟩:=wZ (H:=H++[⟨0,cells.length,[cells]⟩]) (H':=H++[⟨0,cells.length,[cells]⟩]) (b:=H.length) (cap:=1) (blk:=⟨0,cells.length,[cells]⟩) yp b0 (nc.alloc E.w (.cells a7 ty (0,0)))
    (by simp) (fun _ _=>rfl) (fun _=>rfl) (Nat.le_refl _) (.inl ⟨wC,pz.symm⟩) (by simp[hlen]) (by simp)
    ⟨fun i row aJ=>by
      cases i with
      | zero=>simp at aJ;subst aJ;rfl
      | succ i=>simp at aJ,
     fun i j row a aJ aM=>by
      cases i with
      | zero=>
       simp at aJ;subst aJ
       obtain⟨u,hu,hv⟩:=qp.get aM
       exact⟨u,by simpa using hu,hv⟩
      | succ i=>simp at aJ⟩
   refine⟨_,_,_,E',h,bx,e2,dS,iM,.inr ⟨ij.symm,E.w.heap.size,mI,?_⟩,fun s _=>by rw[hml]⟩
   rw[Nat.zero_mul]
  ·cases hg:eU L t with
   | some x=>rw[hg] at h;exact h.elim
   | none=>
    rw[hg] at h
    have hm:=b0.none hg
    obtain⟨E',bx,e2,dS,iM,ij,_,hml⟩:=Ob (L:=(t,cells)::L) (t:=t) (cells:=cells) aR (b0.cons hm) (nc.alloc E.w (.cells a7 ty (0,0))) (by simp[eU]) hm qp
    exact⟨_,_,_,E',h,bx,e2,dS,iM,ij,fun s hs=>hml s fun e=>hs (by rw[e])⟩
def mB:AV→AV
 | .bz rows _ fr=> .bz rows false fr
 | a=>a
theorem cI.mB {E:Env} {a:AV} {v:Value} (h:cI E a v):cI E (mB a) v:=by
 cases a with
 | bz rows full fr=>
  have h:bF E.w E.PA E.PF (.bz rows full fr) v:=h
  cases h with
  | bz gj gO hn cV fh d_=>exact bF.bz gj gO (fun h=>by cases h) cV fh d_
 | _=>exact h
theorem aE.mB {E:Env} {l:List AV} {m:List Value} (h:aE (cI E) l m):aE (cI E) (l.map mB) m:=by
 refine⟨by rw[List.length_map];exact h.1,fun i a v a4 hv=> ?_⟩
 rw[List.getElem?_map] at a4
 cases aL:l[i]? with
 | none=>rw[aL] at a4;cases a4
 | some b=>rw[aL] at a4;cases a4;exact(h.2 i b v aL hv).mB
def wX (P:Program) (t:TypeId) (l c:AV) (L:List (Nat×List AV)) (H:List Blk) (K:ou Prop):Prop:=
 c3 (jg P t) fun e=>c3 (m_ P e) fun z=>if z.length=P.cellsOf e∧z.all iY=true then match l,c with
  | .int _ l,.int _ c=>0≤l∧l≤c∧(P.bytesOf e:Int)*c≤140737488355328∧c≤4611686018427387904∧K (.ref H.length 0 0 l.toNat false) L (H++[⟨0,z.length,List.replicate l.toNat (z.map mB)⟩])
  | _,_=>False
 else False
theorem aaa (z:Array Value) (n k:Nat) (hk:k<n):(madeCells z n)[k]?=some (z[k%z.size]!):=by
 simp[madeCells,hk]
theorem aaj {P:Program} {E:Env} {H:List Blk} {L:List (Nat×List AV)} {t:TypeId} {l c:AV} {BV Kg:Value} {K:AV→List (Nat×List AV)→List Blk→Prop}
  (aR:SimH E H) (b0:SimL E L) (aL:V3 E l BV) (hc:V3 E c Kg) (h:wX P t l c L H K):
  ∃v L' H' E' u,K v L' H'∧(Instr.makeSlice t BV Kg).run P E.w= .ok u E'.w∧Step E E'∧SimH E' H'∧SimL E' L'∧V3 E' v u∧E'.mL=E.mL:=by
 obtain⟨e,he,h⟩:=fA h
 obtain⟨z,aN,h⟩:=fA h
 split at h
 case isFalse=>exact h.elim
 case isTrue hb=>
 obtain⟨oa,XR⟩:=hb
 cases l with
 | int l0 l=>
  cases c with
  | int eD c=>
   obtain⟨aT,h1,h2,aO,hK⟩:=(show 0≤l∧l≤c∧(P.bytesOf e:Int)*c≤140737488355328∧c≤4611686018427387904∧K (.ref H.length 0 0 l.toNat false) L (H++[⟨0,z.length,List.replicate l.toNat (z.map mB)⟩]) from h)
   obtain rfl:=aL.rW
   obtain rfl:=hc.rW
   obtain⟨i,v,q1,q2,q3,q4⟩:=vw (E:=E) aN
   have aj:=(IW XR q4).mB
   have ux:v.cells.size=z.length:=by rw[q3];simp
   have wy:i.size=z.length:=by rw[oa];simp[Program.cellsOf,q1]
   have hby:P.bytesOf e=i.bytes:=by simp[Program.bytesOf,q1]
   have hu:=sB he
   have fT:=run_make (P:=P) E.w t e i v hu q1 q2 l0 eD l c aT h1 (by rw[hby] at h2;omega) (by omega)
   have yp:SimH E (H++[⟨0,z.length,List.replicate l.toNat (z.map mB)⟩]):=aR.snoc rfl
   obtain⟨wC,pz⟩:=aR.fresh H.length (Nat.le_refl _)
   have LP:l.toNat≤c.toNat:=by omega
   obtain⟨E',bx,e2,dS,iM,ij,mI,AJ,tP,_,hml⟩:=wZ (H:=H++[⟨0,z.length,List.replicate l.toNat (z.map mB)⟩]) (H':=H++[⟨0,z.length,List.replicate l.toNat (z.map mB)⟩]) (b:=H.length) (cap:=c.toNat) (blk:=⟨0,z.length,List.replicate l.toNat (z.map mB)⟩) yp b0 (nc.alloc E.w (.cells (madeCells v.cells (c.toNat*i.size)) e (0,0)))
    (by simp) (fun _ _=>rfl) (fun _=>rfl) (Nat.le_refl _) (.inl ⟨wC,pz.symm⟩) (by rw[size_madeCells,wy]) (by simpa using LP)
    ⟨fun iP row aJ=>by
      have aJ:(List.replicate l.toNat (z.map mB))[iP]?=some row:=aJ
      rw[List.getElem?_replicate] at aJ
      split at aJ
      ·cases aJ;exact List.length_map ..
      ·exact absurd aJ (fun h=>by cases h),
     fun iP j row a aJ aM=>by
      have aJ:(List.replicate l.toNat (z.map mB))[iP]?=some row:=aJ
      rw[List.getElem?_replicate] at aJ
      split at aJ
      ·rename_i hi
       cases aJ
       have yH:=(List.getElem?_eq_some_iff.1 aM).1
       rw[List.length_map] at yH
       obtain⟨u,hu,hv⟩:=aj.get aM
       refine⟨u,?_,hv⟩
       have bc:iP*z.length+j<c.toNat*z.length:=by
        calc iP*z.length+j<iP*z.length+z.length:=by omega
         _=(iP+1)*z.length:=by rw[Nat.add_mul,Nat.one_mul]
         _≤c.toNat*z.length:=Nat.mul_le_mul_right _ (by omega)
       show(madeCells v.cells (c.toNat*i.size))[iP*z.length+j]?=_
       rw[wy,aaa _ _ _ bc,ux,show(iP*z.length+j)%z.length=j by rw[Nat.mul_comm,Nat.mul_add_mod,Nat.mod_eq_of_lt yH],←hu,Array.getElem?_toList,getElem!_pos v.cells j (by omega),Array.getElem?_eq_getElem]
      ·exact absurd aJ (fun h=>by cases h)⟩
   refine⟨_,_,_,E',_,hK,by rw[fT,bx],e2,dS,iM,.inr ⟨ij.symm,.inr ⟨E.w.heap.size,c.toNat,mI,by rw[Nat.zero_mul],LP,(fun h=>by cases h),by rw[tP];omega⟩⟩,hml⟩
  | _=>exact h.elim
 | _=>exact h.elim
def u6:List Nat→Option Nat
 | []=>none
 | x::r=>match Nat.ble 1000000 x with
  | true=>some (x - 1000000)
  | false=>u6 r
def Z0 (xw:Option Nat) (jx:Bool) (n sz:Nat) (rows:List (List AV)) (L:List (Nat×List AV)) (H:List Blk) (K:ou Prop):Prop:=match xw with
 | none=>K (.ref H.length 0 0 n jx) L (H++[⟨0,sz,rows⟩])
 | some j=>c3 H[j]? fun blk=>K (.ref j (blk.bC+1) 0 n true) L (H.set j ⟨blk.bC+1,sz,rows⟩)
def tU (esc:List Nat) (dst:Option Nat):Bool:=match dst with
 | none=>false
 | some d=>esc.any fun x=>Nat.beq x (500000+d)
def tN (P:Program) (fr:Bool) (xw:Option Nat) (t:TypeId) (n:Nat) (parts:List (Nat×AV)) (L:List (Nat×List AV)) (H:List Blk) (K:ou Prop):Prop:=
 c3 (jg P t) fun e=>c3 (m_ P e) fun z=>if z.length=P.cellsOf e∧n*z.length≤1000000∧n≤1000000 then
  c3 (pi (fun i=>some (i*z.length,z.length)) ((List.range (n*z.length)).map fun i=>z.getD (i%z.length) .undef) parts) fun cells=>
   if(bif fr then false else cells.all jv)=true then K (.bz (chunk z.length n (cells.map kq)) true (cells.all nX)) L H else
   if cells.all iY=true then Z0 xw (!fr) n z.length (chunk z.length n cells) L H K else False
 else False
theorem T3 {size n i:Nat} {cells row:List AV} (aL:cells.length=n*size) (aJ:(chunk size n cells)[i]?=some row):row.length=size:=by
 unfold chunk at aJ
 rw[List.getElem?_map] at aJ
 cases aj:(List.range n)[i]? with
 | none=>rw[aj] at aJ;cases aJ
 | some k=>
  have hk:=(List.getElem?_eq_some_iff.1 aj).1
  have hi:k=i:=by have:=(List.getElem?_eq_some_iff.1 aj).2;simpa using this.symm
  rw[aj] at aJ;cases aJ
  simp only[List.length_take,List.length_drop]
  have ca:i<n:=by simpa using hk
  rw[aL,hi]
  have:(i+1)*size≤n*size:=Nat.mul_le_mul_right _ ca
  rw[Nat.add_mul,Nat.one_mul] at this
  omega
theorem Ty {P:Program} {fr:Bool} {xw:Option Nat} {E:Env} {H:List Blk} {L:List (Nat×List AV)} {t:TypeId} {n:Nat} {parts:List (Nat×AV)} {ks:List (Nat×Value)} {K:AV→List (Nat×List AV)→List Blk→Prop} (aR:SimH E H) (b0:SimL E L)
  (aG:aE (fun a b=>a.1=b.1∧V2 E a.2 b.2) parts ks) (h:tN P fr xw t n parts L H K):
  ∃v u L' H' E',K v L' H'∧(Instr.buildSlice t n ks.toArray).run P E.w= .ok u E'.w∧Step E E'∧SimH E' H'∧SimL E' L'∧V3 E' v u∧E'.mL=E.mL:=by
 obtain⟨e,he,h⟩:=fA h
 obtain⟨z,aN,h⟩:=fA h
 split at h
 case isFalse=>exact h.elim
 case isTrue hb=>
 obtain⟨cells,hf,h⟩:=fA h
 split at h
 case isTrue hby=>
  have hby:cells.all jv=true:=by cases fr with
   | true=>cases hby
   | false=>exact hby
  have hv:vO P t n parts (fun r=>K r L H):=by
   refine ej he (ej aN ?_)
   rw[if_pos hb]
   refine ej hf ?_
   rw[if_pos hby];exact h
  obtain⟨r,u,E',hK,aJ,aj,aO⟩:=J0 aR aG hv
  exact⟨r,u,L,H,E',hK,aJ,aj.step,aj.simH aR,aj.simL aR b0,aO,aj.mL⟩
 case isFalse=>
 split at h
 case isFalse=>exact h.elim
 case isTrue hs=>
 obtain⟨hL,d_,fT,hlen⟩:=TB aG he aN hb.1 hb.2 hf
 have n4:(chunk z.length n cells).length=n:=by simp[chunk]
 have Fe:hL.size=n*z.length:=by have:=d_.1;simp at this;omega
 have uo:vC E z.length (chunk z.length n cells) hL:=⟨fun i row aJ=>T3 hlen aJ,fun i j row a aJ aM=>by
   obtain⟨hi,yH,hc⟩:=J8 aJ aM
   obtain⟨u,hu,hv⟩:=d_.get hc
   exact⟨u,by rw[Array.getElem?_toList] at hu;exact hu,hv⟩⟩
 cases xw with
 | none=>
  have yp:SimH E (H++[⟨0,z.length,chunk z.length n cells⟩]):=aR.snoc rfl
  obtain⟨wC,pz⟩:=aR.fresh H.length (Nat.le_refl _)
  obtain⟨E',bx,e2,dS,iM,ij,mI,AJ,tP,_,hml⟩:=wZ (H:=H++[⟨0,z.length,chunk z.length n cells⟩]) (H':=H++[⟨0,z.length,chunk z.length n cells⟩]) (b:=H.length) (cap:=n) (blk:=⟨0,z.length,chunk z.length n cells⟩) yp b0 (nc.alloc E.w (.cells hL e (0,0)))
   (by simp) (fun _ _=>rfl) (fun _=>rfl) (Nat.le_refl _) (.inl ⟨wC,pz.symm⟩) Fe (by rw[n4];exact Nat.le_refl _) uo
  exact⟨_,_,_,_,E',h,by rw[fT,bx],e2,dS,iM,.inr ⟨ij.symm,.inr ⟨E.w.heap.size,n,mI,by rw[Nat.zero_mul],Nat.le_refl _,(fun _=>rfl),by rw[tP];omega⟩⟩,hml⟩
 | some j=>
  obtain⟨blk,yx,hK⟩:=fA (show c3 H[j]? fun blk=>K (.ref j (blk.bC+1) 0 n true) L (H.set j ⟨blk.bC+1,z.length,chunk z.length n cells⟩) from h)
  have oL:=(List.getElem?_eq_some_iff.1 yx).1
  have WU:=aR.fb j blk yx
  obtain⟨E',bx,e2,dS,iM,ij,mI,AJ,tP,_,hml⟩:=wZ (H:=H) (H':=H.set j ⟨blk.bC+1,z.length,chunk z.length n cells⟩) (b:=j) (cap:=n) (blk:=⟨blk.bC+1,z.length,chunk z.length n cells⟩) aR b0 (nc.alloc E.w (.cells hL e (0,0)))
   (by rw[List.getElem?_set];simp[oL]) (fun cl eh=>by rw[List.getElem?_set,if_neg (fun e=>eh e.symm)]) (fun _=>by simp) (by simp) (.inr (by show E.bC j<blk.bC+1;omega)) Fe (by rw[n4];exact Nat.le_refl _) uo
  exact⟨_,_,_,_,E',hK,by rw[fT,bx],e2,dS,iM,.inr ⟨ij.symm,.inr ⟨E.w.heap.size,n,mI,by rw[Nat.zero_mul],Nat.le_refl _,(fun _=>rfl),by rw[tP];omega⟩⟩,hml⟩
def pO:AV→Bool
 | .bz _ _ fr=>fr
 | .fF _ _ | .dv _ _ | .agg _ | .tup _ | .fn _ _=>false
 | _=>true
def iW (k:Nat):AV→AV
 | .ref b g o n f=> .ref (k+b) g o n f
 | .ptr b g r c=> .ptr (k+b) g r c
 | a=>a
def xa:AV→Bool
 | .agg l=>l.all pO
 | a=>pO a
def ot (k:Nat):AV→AV
 | .agg l=> .agg (l.map (iW k))
 | a=>iW k a
def xb:AV→Bool
 | .tup l=>l.all xa
 | a=>xa a
def m6 (k:Nat):AV→AV
 | .tup l=> .tup (l.map (ot k))
 | a=>ot k a
def la (k:Nat) (b:Blk):Blk:=⟨b.bC,b.sz,b.rows.map fun row=>row.map (iW k)⟩
def s6 (H:List Blk):Bool:=H.all fun b=>b.rows.all fun row=>row.all pO
def Env.join (E E1:Env) (n:Nat):Env:=
 {w:=E1.w,PA:=fun c=>E.PA c∨E1.PF c,PF:=fun c=>E.PF c∨E1.PF c
  m:=fun b=>if b<n then E.m b else E1.m (b - n),bC:=fun b=>if b<n then E.bC b else E1.bC (b - n)
  sz:=fun b=>if b<n then E.sz b else E1.sz (b - n),cp:=fun b=>if b<n then E.cp b else E1.cp (b - n),mL:=E.mL}
section
variable {E E1:Env} {n:Nat}
theorem Zv {b:Nat} (h:b<n):(E.join E1 n).m b=E.m b∧(E.join E1 n).bC b=E.bC b∧(E.join E1 n).sz b=E.sz b∧(E.join E1 n).cp b=E.cp b:=⟨if_pos h,if_pos h,if_pos h,if_pos h⟩
theorem Gf (b:Nat):(E.join E1 n).m (n+b)=E1.m b∧(E.join E1 n).bC (n+b)=E1.bC b∧(E.join E1 n).sz (n+b)=E1.sz b∧(E.join E1 n).cp (n+b)=E1.cp b:=by
 have h: ¬n+b<n:=by omega
 have e:n+b - n=b:=by omega
 refine⟨?_,?_,?_,?_⟩<;>(unfold Env.join;simp only[if_neg h,e])
theorem Gg {E':Env} (hR:E'=E.join E1 n) {a:AV} {v:Value} (aC:pO a=true) (hv:cI E1 a v):cI E' (iW n a) v:=by
 have n_: ∀{a:AV} {v:Value},pO a=true→bF E1.w E1.PA E1.PF a v→bF E'.w E'.PA E'.PF a v:=by
  intro a v aC h
  subst hR
  cases h with
  | undef=>exact .undef _
  | int=>exact .int _ _
  | bool=>exact .bool _
  | str=>exact .str _
  | gd=>exact .gd
  | gx=>exact .gx
  | @bz _ _ PB rows full fresh A cap sz vs gj gO hn cV fh d_=>
   have hf:fresh=true:=aC
   refine .bz (PB:=PB) (sz:=sz) (vs:=vs) (fun c hc=> ?_) gO hn cV fh d_
   have:=gj c hc
   rw[if_pos hf] at this ⊢
   exact .inr this
  | dv=>cases aC
  | fn=>cases aC
 cases a with
 | ref b g off m full=>
  subst hR
  obtain⟨fc,a9,ob,sW⟩:=Gf (E:=E) (E1:=E1) (n:=n) b
  show ft (E.join E1 n) (.ref (n+b) g off m full) v
  rcases(show ft E1 (.ref b g off m full) v from hv) with⟨h,k⟩ | ⟨h,k⟩
  ·exact .inl ⟨by rw[a9];exact h,k⟩
  ·refine .inr ⟨by rw[a9];exact h,?_⟩
   rw[fc,ob,sW];exact k
 | ptr b g r c=>
  subst hR
  obtain⟨fc,a9,ob,sW⟩:=Gf (E:=E) (E1:=E1) (n:=n) b
  show ft (E.join E1 n) (.ptr (n+b) g r c) v
  rcases(show ft E1 (.ptr b g r c) v from hv) with⟨h,k⟩ | ⟨h,k⟩
  ·exact .inl ⟨by rw[a9];exact h,k⟩
  ·refine .inr ⟨by rw[a9];exact h,?_⟩
   rw[fc,ob];exact k
 | fF t c=>cases aC
 | fn f c=>cases aC
 | agg l=>cases aC
 | tup l=>cases aC
 | dv l c=>cases aC
 | undef=>exact bF.undef _
 | int k m=>exact n_ (a:= .int k m) rfl hv
 | bool b=>exact n_ (a:= .bool b) rfl hv
 | str s=>exact n_ (a:= .str s) rfl hv
 | bz rows full fr=>exact n_ (a:= .bz rows full fr) aC hv
 | gd=>exact n_ (a:= .gd) rfl hv
 | gx=>exact n_ (a:= .gx) rfl hv
theorem Nz {E':Env} (hR:E'=E.join E1 n) {a:AV} {v:Value} (aC:xa a=true) (hv:V2 E1 a v):V2 E' (ot n a) v:=by
 by_cases hf: ∃l,a= .agg l
 ·obtain⟨l,rfl⟩:=hf
  obtain⟨vs,rfl,aG⟩:=hv
  refine⟨vs,rfl,by rw[List.length_map];exact aG.1,fun i x u hx hu=> ?_⟩
  rw[List.getElem?_map] at hx
  cases aL:l[i]? with
  | none=>simp[aL] at hx
  | some y=>
   simp[aL] at hx;subst hx
   exact Gg hR (List.all_eq_true.1 (show l.all pO=true from aC) y (List.mem_of_getElem? aL)) (aG.2 i y u aL hu)
 ·have bx:ot n a=iW n a:=by cases a<;>first | rfl | exact absurd ⟨_,rfl⟩ hf
  have e2:xa a=pO a:=by cases a<;>first | rfl | exact absurd ⟨_,rfl⟩ hf
  rw[pd fun l e=>hf ⟨l,e⟩] at hv
  rw[bx]
  exact p4 (Gg hR (e2▸aC) hv)
theorem Zw {E':Env} (hR:E'=E.join E1 n) {a:AV} {v:Value} (aC:xb a=true) (hv:V3 E1 a v):V3 E' (m6 n a) v:=by
 by_cases hf: ∃l,a= .tup l
 ·obtain⟨l,rfl⟩:=hf
  obtain⟨vs,rfl,aG⟩:=hv
  refine⟨vs,rfl,by rw[List.length_map];exact aG.1,fun i x u hx hu=> ?_⟩
  rw[List.getElem?_map] at hx
  cases aL:l[i]? with
  | none=>simp[aL] at hx
  | some y=>
   simp[aL] at hx;subst hx
   exact Nz hR (List.all_eq_true.1 (show l.all xa=true from aC) y (List.mem_of_getElem? aL)) (aG.2 i y u aL hu)
 ·have bx:m6 n a=ot n a:=by cases a<;>first | rfl | exact absurd ⟨_,rfl⟩ hf
  have e2:xb a=xa a:=by cases a<;>first | rfl | exact absurd ⟨_,rfl⟩ hf
  rw[oB fun l e=>hf ⟨l,e⟩] at hv
  rw[bx]
  exact p5 (Nz hR (e2▸aC) hv)
end
theorem TQ {P:Program} {f:FuncId} {args eu:List AV} {L:List (Nat×List AV)} {H:List Blk} {E:Env} {vs:List Value} {Q:AV→List Blk→Prop} (aR:SimH E H) (b0:SimL E L)
  (a4:aE (V2 E) args vs) (hs:aE (dc L H) args eu) (h:dF P f eu [] fun r fa=>xb r=true∧s6 fa=true∧Q r fa):
  Calls P f vs.toArray E.w fun e w'=> ∃r v fa E',e= .returned v∧Q r fa∧E'.w=w'∧Step E E'∧SimH E' (H++fa.map (la H.length))∧SimL E' L∧V3 E' (m6 H.length r) v∧E'.mL=E.mL:=by
 have tX:aE (V2 E.frozen) eu vs:=⟨hs.1▸a4.1,fun i x u hx hu=>by
  have bc:i<args.length:=by have:=(List.getElem?_eq_some_iff.1 hx).1;have:=hs.1;omega
  have aL:=List.getElem?_eq_getElem bc
  exact P7 (Sub.refl L H) aR b0 (hs.2 i _ x aL hx) (a4.2 i _ u aL hu)⟩
 refine(h.2 E.frozen vs (fun _=>rfl) (K5 aR) tX).mono ?_
 rintro e w' ⟨r,v,fa,E1,rfl,⟨aC,yM,aJ⟩,rfl,aF,fH,hv,bj⟩
 have yu: ∀c,E1.PF c→E.w.heap.size≤c∧c<E1.w.heap.size:=fun c hc=>⟨(bj.fJ c hc).elim (fun h=>h.elim) id,fH.e9 c (fH.eW c hc)⟩
 have wi: ∀c,E1.gQ c→E.w.heap.size≤c∧c<E1.w.heap.size:=fun c hc=>⟨(bj.qD c hc).elim (fun⟨b,hb⟩=>by cases hb) id,fH.gw c hc⟩
 have oM: ∀c,c<E.w.heap.size→E1.w.heap[c]?=E.w.heap[c]?:=fun c hc=>bj.fe c hc (fun⟨b,hb⟩=>by cases hb) (fun⟨b,hb⟩=>by cases hb)
 have kh:=aR.gw
 have ki:=aR.g4
 generalize hR:E.join E1 H.length=E'
 have mU: ∀b,b<H.length→E'.m b=E.m b∧E'.bC b=E.bC b∧E'.sz b=E.sz b∧E'.cp b=E.cp b:=fun b hb=>hR▸Zv hb
 have hG: ∀b,E'.m (H.length+b)=E1.m b∧E'.bC (H.length+b)=E1.bC b∧E'.sz (H.length+b)=E1.sz b∧E'.cp (H.length+b)=E1.cp b:=fun b=>hR▸Gf b
 have nr:E'.w=E1.w:=by rw[←hR];rfl
 have wU: ∀c,E'.PA c↔E.PA c∨E1.PF c:=fun c=>by rw[←hR];exact Iff.rfl
 have Ge: ∀c,E'.PF c↔E.PF c∨E1.PF c:=fun c=>by rw[←hR];exact Iff.rfl
 have sX:E'.mL=E.mL:=by rw[←hR];rfl
 have split: ∀b,b<H.length∨ ∃k,b=H.length+k:=fun b=>by
  rcases Nat.lt_or_ge b H.length with h | h
  ·exact .inl h
  ·exact .inr ⟨b - H.length,by omega⟩
 have aat: ∀b x,E.m b=some x→b<H.length:=fun b x hb=>by
  rcases Nat.lt_or_ge b H.length with h | h
  ·exact h
  ·rw[(aR.fresh b h).1] at hb;cases hb
 have pF: ∀c,E'.gQ c→E.gQ c∨E1.gQ c:=fun c ⟨b,hb⟩=>by
  rcases split b with h | ⟨k,rfl⟩
  ·exact .inl ⟨b,by rw[←(mU b h).1];exact hb⟩
  ·exact .inr ⟨k,by rw[←(hG k).1];exact hb⟩
 have g3:Step E E':=
  {le:=⟨fun c hc=>(wU c).2 (.inl hc),fun c hc=>(Ge c).2 (.inl hc),fun c hc=>by rw[nr];exact oM c (aR.e9 c hc),fun c hc=>by rw[nr];exact oM c (aR.e9 c (aR.eW c hc)),fun b=>by
     rcases split b with h | ⟨k,rfl⟩
     ·rw[(mU b h).2.1];exact Nat.le_refl _
     ·rw[(aR.fresh (H.length+k) (by omega)).2];exact Nat.zero_le _,fun b x hx _=>by
     have h:=aat b x hx
     exact⟨by rw[(mU b h).1];exact hx,(mU b h).2.2.1,(mU b h).2.2.2⟩,fun t c h=>by rw[sX];exact h⟩
   os:=by rw[nr];exact bj.os
   tape:=by rw[nr];exact bj.tape
   output:=by rw[nr];exact bj.output
   size:=by rw[nr];exact bj.size
   fe:=fun c hc _ _=>by rw[nr];exact oM c hc
   jj:=fun b c hb=>by
    rcases split b with h | ⟨k,rfl⟩
    ·exact .inl (by rw[←(mU b h).1];exact hb)
    ·exact .inr (wi c ⟨k,by rw[←(hG k).1];exact hb⟩).1
   jB:=fun c ⟨t,bp⟩=> .inl ⟨t,by rw[←sX];exact bp⟩
   fI:=fun c hc=>((wU c).1 hc).elim .inl fun h=> .inr (yu c h).1
   fJ:=fun c hc=>((Ge c).1 hc).elim .inl fun h=> .inr (yu c h).1}
 have Ew: ∀b,b<H.length→(H++fa.map (la H.length))[b]?=H[b]?:=fun b hb=>List.getElem?_append_left hb
 have Ev: ∀k,(H++fa.map (la H.length))[H.length+k]?=(fa[k]?).map (la H.length):=fun k=>by
  rw[List.getElem?_append_right (by omega),List.getElem?_map];congr 2;omega
 refine⟨r,v,fa,E',rfl,aJ,nr,g3,?_,?_,Zw hR.symm aC hv,sX⟩
 ·exact{
   heap:=fun b c hb=>by
    rcases split b with h | ⟨k,rfl⟩
    ·obtain⟨fc,a9,ob,sW⟩:=mU b h
     rw[fc] at hb
     obtain⟨blk,a7,ty,q1,dU,q2,q3,q4,cL,cY⟩:=aR.heap b c hb
     refine⟨blk,a7,ty,by rw[Ew b h];exact q1,by rw[ob];exact dU,by rw[nr,oM c (kh c ⟨b,hb⟩)];exact q2,by rw[ob,sW];exact q3,by rw[sW];exact q4,by rw[ob];exact cL,fun i j row a aJ aM=> ?_⟩
     obtain⟨u,hu,Fc⟩:=cY i j row a aJ aM
     exact⟨u,by rw[ob];exact hu,Fc.le g3.le.b6⟩
    ·obtain⟨fc,a9,ob,sW⟩:=hG k
     rw[fc] at hb
     obtain⟨blk,a7,ty,q1,dU,q2,q3,q4,cL,cY⟩:=fH.heap k c hb
     have Xd: ∀row∈blk.rows,∀a∈row,pO a=true:=fun row aJ a a4=>
      List.all_eq_true.1 (List.all_eq_true.1 (List.all_eq_true.1 yM blk (List.mem_of_getElem? q1)) row aJ) a a4
     refine⟨la H.length blk,a7,ty,by rw[Ev k,q1];rfl,by rw[ob];exact dU,by rw[nr];exact q2,by rw[ob,sW];exact q3,by rw[sW];show(blk.rows.map _).length≤_;rw[List.length_map];exact q4,fun i row' aJ=> ?_,fun i j row' ih aJ aM=> ?_⟩
     ·have aJ:(blk.rows.map fun row=>row.map (iW H.length))[i]?=some row':=aJ
      rw[List.getElem?_map] at aJ
      cases aj:blk.rows[i]? with
      | none=>simp[aj] at aJ
      | some row=>
       simp[aj] at aJ;subst aJ
       rw[List.length_map,ob];exact cL i row aj
     ·have aJ:(blk.rows.map fun row=>row.map (iW H.length))[i]?=some row':=aJ
      rw[List.getElem?_map] at aJ
      cases aj:blk.rows[i]? with
      | none=>simp[aj] at aJ
      | some row=>
       simp[aj] at aJ;subst aJ
       rw[List.getElem?_map] at aM
       cases kk:row[j]? with
       | none=>simp[kk] at aM
       | some a=>
        simp[kk] at aM;subst aM
        obtain⟨u,hu,Fc⟩:=cY i j row a aj kk
        refine⟨u,by rw[ob];exact hu,?_⟩
        have Lk:E'.b6=E.b6.join E1.b6 H.length:=by rw[←hR];rfl
        exact Gg Lk (Xd row (List.mem_of_getElem? aj) a (List.mem_of_getElem? kk)) Fc
   fb:=fun b blk hb=>by
    rcases split b with h | ⟨k,rfl⟩
    ·rw[Ew b h] at hb;rw[(mU b h).2.1];exact aR.fb b blk hb
    ·rw[Ev k] at hb
     cases aj:fa[k]? with
     | none=>simp[aj] at hb
     | some y=>simp[aj] at hb;subst hb;rw[(hG k).2.1];exact fH.fb k y aj
   hp:=fun b hb=>by
    rcases split b with h | ⟨k,rfl⟩
    ·rw[(mU b h).1] at hb
     obtain⟨blk,q1,q2⟩:=aR.hp b hb
     exact⟨blk,by rw[Ew b h];exact q1,by rw[(mU b h).2.2.1];exact q2⟩
    ·rw[(hG k).1] at hb
     obtain⟨blk,q1,q2⟩:=fH.hp k hb
     exact⟨la H.length blk,by rw[Ev k,q1];rfl,by rw[(hG k).2.2.1];exact q2⟩
   fresh:=fun b hb=>by
    rw[List.length_append,List.length_map] at hb
    rcases split b with h | ⟨k,rfl⟩
    ·omega
    ·rw[(hG k).1,(hG k).2.1];exact fH.fresh k (by omega)
   hV:=fun b cl c h1 h2=>by
    rcases split b with h | ⟨k,rfl⟩<;>rcases split cl with h' | ⟨kH,rfl⟩
    ·rw[(mU b h).1] at h1;rw[(mU cl h').1] at h2;exact aR.hV b cl c h1 h2
    ·rw[(mU b h).1] at h1;rw[(hG kH).1] at h2
     have:=kh c ⟨b,h1⟩;have:=(wi c ⟨kH,h2⟩).1;omega
    ·rw[(hG k).1] at h1;rw[(mU cl h').1] at h2
     have:=kh c ⟨cl,h2⟩;have:=(wi c ⟨k,h1⟩).1;omega
    ·rw[(hG k).1] at h1;rw[(hG kH).1] at h2;rw[fH.hV k kH c h1 h2]
   jC:=fun t jJ c h1 h2=>by rw[sX] at h1 h2;exact aR.jC t jJ c h1 h2
   gR:=fun b t c h1 h2=>by
    rw[sX] at h2
    rcases split b with h | ⟨k,rfl⟩
    ·rw[(mU b h).1] at h1;exact aR.gR b t c h1 h2
    ·rw[(hG k).1] at h1
     have:=ki c ⟨t,h2⟩;have:=(wi c ⟨k,h1⟩).1;omega
   hW:=fun c hc hi=>by
    rcases(wU c).1 hc with h | h<;>rcases pF c hi with h' | h'
    ·exact aR.hW c h h'
    ·have:=aR.e9 c h;have:=(wi c h').1;omega
    ·have:=kh c h';have:=(yu c h).1;omega
    ·exact fH.hW c (fH.eW c h) h'
   im:=fun c hc ⟨t,bp⟩=>by
    rw[sX] at bp
    rcases(wU c).1 hc with h | h
    ·exact aR.im c h ⟨t,bp⟩
    ·have:=ki c ⟨t,bp⟩;have:=(yu c h).1;omega
   eW:=fun c hc=>(wU c).2 (((Ge c).1 hc).elim (fun h=> .inl (aR.eW c h)) .inr)
   e9:=fun c hc=>by
    rw[nr]
    rcases(wU c).1 hc with h | h
    ·exact Nat.lt_of_lt_of_le (aR.e9 c h) bj.size
    ·exact(yu c h).2
   gw:=fun c hc=>by
    rw[nr]
    rcases pF c hc with h | h
    ·exact Nat.lt_of_lt_of_le (kh c h) bj.size
    ·exact(wi c h).2
   g4:=fun c ⟨t,bp⟩=>by
    rw[sX] at bp;rw[nr]
    exact Nat.lt_of_lt_of_le (ki c ⟨t,bp⟩) bj.size}
 ·intro t c hm
  rw[sX] at hm
  obtain⟨cells,a7,ty,q1,q2,q3⟩:=b0 t c hm
  exact⟨cells,a7,ty,q1,by rw[nr,oM c (ki c ⟨t,hm⟩)];exact q2,q3.mono fun _ _ k=>k.le g3.le.b6⟩
theorem TN {P:Program} {f:FuncId} {args:List AV} {L:List (Nat×List AV)} {H:List Blk} {E:Env} {vs:List Value} {Q:AV→List Blk→Prop} (aR:SimH E H) (b0:SimL E L)
  (a4:aE (V2 E) args vs) (aF:args.all jZ=true) (h:dF P f args H fun r H'=>w2 r=true∧Q r H'):
  Calls P f vs.toArray E.w fun e w'=> ∃r v H' E',e= .returned v∧Q r H'∧E'.w=w'∧Step E E'∧SimH E' H'∧SimL E' L∧V3 E' r v∧E'.mL=E.mL:=by
 have tX:aE (V2 E.b6) args vs:=⟨a4.1,fun i a v h1 h2=>(a4.2 i a v h1 h2).b6 (List.all_eq_true.1 aF a (List.mem_of_getElem? h1))⟩
 refine(h.2 E.b6 vs (fun _=>rfl) aR.b6 tX).mono ?_
 rintro e w' ⟨r,v,H',E1,rfl,⟨W_,aJ⟩,rfl,Bt,fH,hv,bj⟩
 let E':Env:={E1 with mL:=E.mL}
 have Lk:E'.b6=E1.b6:=rfl
 have ki:=aR.g4
 have qD: ∀c,E1.gQ c→E.gQ c∨E.w.heap.size≤c:=bj.qD
 have WZ: ∀c,E.kG c→E1.w.heap[c]?=E.w.heap[c]?:=fun c hc=>bj.fe c (ki c hc) (fun⟨b,hb⟩=>by
  obtain⟨t,bp⟩:=hc
  exact aR.gR b t c hb bp) (fun⟨b,hb⟩=>by cases hb)
 have hle:E1.b6.gM E':=Env.B2 E'
 have g3:Step E E':=
  {le:=⟨bj.le.fI,bj.le.fJ,bj.le.tx,bj.le.wf,bj.le.bC,bj.le.m,fun _ _ h=>h⟩
   os:=bj.os,tape:=bj.tape,output:=bj.output,size:=bj.size
   fe:=fun c hc h1 h2=>bj.fe c hc h1 (fun⟨b,hb⟩=>by cases hb)
   jj:=bj.jj
   jB:=fun c h=> .inl h
   fI:=bj.fI
   fJ:=bj.fJ}
 refine⟨r,v,H',E',rfl,aJ,rfl,g3,?_,?_,?_,rfl⟩
 ·exact{fH with
   jC:=aR.jC
   gR:=fun b t c h1 h2=>by
    rcases qD c ⟨b,h1⟩ with⟨cl,h⟩ | h
    ·exact aR.gR cl t c h h2
    ·have:=ki c ⟨t,h2⟩;omega
   im:=fun c hc ⟨t,bp⟩=>by
    rcases bj.fI c hc with h | h
    ·exact aR.im c h ⟨t,bp⟩
    ·have h:E.w.heap.size≤c:=h
     have:=ki c ⟨t,bp⟩;omega
   g4:=fun c hc=>Nat.lt_of_lt_of_le (ki c hc) bj.size}
 ·intro t c hm
  obtain⟨cells,a7,ty,q1,q2,q3⟩:=b0 t c hm
  exact⟨cells,a7,ty,q1,by show E1.w.heap[c]?=_;rw[WZ c ⟨t,hm⟩];exact q2,q3.mono fun _ _ k=>k.le g3.le.b6⟩
 ·exact(hv.b6 W_).le hle
end Go.Proofs.Ytglpfccgmfhkdaa.Fw
