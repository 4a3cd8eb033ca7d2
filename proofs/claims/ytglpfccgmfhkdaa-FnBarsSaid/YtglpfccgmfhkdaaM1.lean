/- The framework, part A: abstract values, how they stand for Go's values in a world, and what stays as it is when the world grows. -/
import Derived.WalkKit
import Derived.KernelRfl
import Derived.Orders
import Derived.Laws.StructEq
import Derived.ChangeArms
import Derived.ChangeShapes
import Derived.SizedLaws
import Derived.Below
import Derived.JoinedOf
import Derived.Test.YtglpfccgmfhkdaaProg
set_option linter.unusedVariables false
namespace Go.Proofs.Ytglpfccgmfhkdaa.Fw
open Go
inductive AV where
 | undef
 | int (k:IntKind) (n:Int)
 | bool (b:Bool)
 | str (s:ByteArray)
 | bD (rows:List (List AV)) (full fresh:Bool)
 | ref (b g off n:Nat) (full:Bool)
 | ptr (b g row col:Nat)
 | fG (t col:Nat)
 | dA (cells:List AV) (col:Nat)
 | gf
 | gC
 | agg (cells:List AV)
 | tup (vs:List AV)
 | fn (f:FuncId) (caps:List AV)
 deriving Inhabited
structure Blk where
 bF:Nat
 sz:Nat
 rows:List (List AV)
 deriving Inhabited
structure St where
 T:List AV
 L:List (Nat×List AV)
 H:List Blk
def aD {α β:Type} (R:α→β→Prop) (l:List α) (m:List β):Prop:=
 l.length=m.length∧ ∀(i:Nat) (a:α) (b:β),l[i]?=some a→m[i]?=some b→R a b
theorem aD.nil {α β:Type} {R:α→β→Prop}:aD R [] []:=⟨rfl,fun i a b h=>by simp at h⟩
theorem aD.cons {α β:Type} {R:α→β→Prop} {a:α} {b:β} {l:List α} {m:List β} (h:R a b) (k:aD R l m):aD R (a::l) (b::m):=
 ⟨by simp[k.1],fun i x y hx hy=>by
  cases i with
  | zero=>simp at hx hy;subst hx;subst hy;exact h
  | succ i=>exact k.2 i x y (by simpa using hx) (by simpa using hy)⟩
theorem aD.head {α β:Type} {R:α→β→Prop} {a:α} {b:β} {l:List α} {m:List β} (h:aD R (a::l) (b::m)):R a b:=h.2 0 a b rfl rfl
theorem aD.tail {α β:Type} {R:α→β→Prop} {a:α} {b:β} {l:List α} {m:List β} (h:aD R (a::l) (b::m)):aD R l m:=
 ⟨by simpa using h.1,fun i x y hx hy=>h.2 (i+1) x y (by simpa using hx) (by simpa using hy)⟩
theorem aD.mono {α β:Type} {R x_:α→β→Prop} {l:List α} {m:List β} (h:aD R l m) (aK: ∀a b,R a b→x_ a b):aD x_ l m:=
 ⟨h.1,fun i a b x y=>aK _ _ (h.2 i a b x y)⟩
theorem aD.get {α β:Type} {R:α→β→Prop} {l:List α} {m:List β} (h:aD R l m) {i:Nat} {a:α} (a4:l[i]?=some a): ∃b,m[i]?=some b∧R a b:=by
 have hi:i<l.length:=(List.getElem?_eq_some_iff.1 a4).1
 have hm:i<m.length:=h.1▸hi
 exact⟨m[i],List.getElem?_eq_getElem hm,h.2 i a _ a4 (List.getElem?_eq_getElem hm)⟩
theorem aD.xa {α β:Type} {R:α→β→Prop} {m:List β} (h:aD R [] m):m=[]:=by
 have:=h.1;exact List.eq_nil_of_length_eq_zero (by simpa using this.symm)
theorem aD.cons_inv {α β:Type} {R:α→β→Prop} {a:α} {l:List α} {m:List β} (h:aD R (a::l) m): ∃b fB,m=b::fB∧R a b∧aD R l fB:=by
 cases m with
 | nil=>have:=h.1;simp at this
 | cons b fB=>exact⟨b,fB,rfl,h.head,h.tail⟩
theorem aD.append {α β:Type} {R:α→β→Prop} {l fq:List α} {m fB:List β} (h:aD R l m) (k:aD R fq fB):aD R (l++fq) (m++fB):=by
 refine⟨by simp[h.1,k.1],fun i a b a4 hb=> ?_⟩
 rcases Nat.lt_or_ge i l.length with hi | hi
 ·rw[List.getElem?_append_left hi] at a4
  rw[List.getElem?_append_left (h.1▸hi)] at hb
  exact h.2 i a b a4 hb
 ·rw[List.getElem?_append_right hi] at a4
  rw[List.getElem?_append_right (h.1▸hi),←h.1] at hb
  exact k.2 _ a b a4 hb
theorem aD.set {α β:Type} {R:α→β→Prop} {l:List α} {m:List β} (h:aD R l m) (i:Nat) {a:α} {b:β} (aK:R a b):aD R (l.set i a) (m.set i b):=by
 refine⟨by simp[h.1],fun j x y hx hy=> ?_⟩
 by_cases aM:i=j
 ·subst aM
  rw[List.getElem?_set_self'] at hx hy
  cases aL:l[i]? with
  | none=>simp[aL] at hx
  | some J=>
   cases hm:m[i]? with
   | none=>simp[hm] at hy
   | some yf=>simp[aL] at hx;simp[hm] at hy;subst hx;subst hy;exact aK
 ·rw[List.getElem?_set_ne aM] at hx hy
  exact h.2 j x y hx hy
inductive bH (w:World):(Nat→Prop)→(Nat→Prop)→AV→Value→Prop where
 | undef {PA PF:Nat→Prop} (v:Value):bH w PA PF .undef v
 | int {PA PF:Nat→Prop} (k:IntKind) (n:Int):bH w PA PF (.int k n) (.int k n)
 | bool {PA PF:Nat→Prop} (b:Bool):bH w PA PF (.bool b) (.bool b)
 | str {PA PF:Nat→Prop} (s:ByteArray):bH w PA PF (.str s) (.string s)
 | bD {PA PF PB:Nat→Prop} {rows:List (List AV)} {full fresh:Bool} {A:Option Addr} {cap sz:Nat} {vs:Nat→Nat→Value}
   (gl: ∀c,PB c→if fresh=true then PF c else PA c)
   (gQ:rows.length≤cap∧rows.length≤4611686018427387904) (hC:full=true→cap=rows.length)
   (cK: ∀(i:Nat) (row:List AV),rows[i]?=some row→row.length=sz)
   (fj:0<rows.length→ ∃c o,A=some ⟨c,o,none⟩∧PB c∧ ∀i j,i<rows.length→j<sz→w.cell? ⟨c,o+(i*sz+j),none⟩=some (vs i j))
   (ec: ∀(i j:Nat) (row:List AV) (a:AV),rows[i]?=some row→row[j]?=some a→bH w PB (fun _=>False) a (vs i j)):
   bH w PA PF (.bD rows full fresh) (.slice A rows.length cap)
 | dA {PA PF:Nat→Prop} {cells:List AV} {col c o:Nat} {vs:Nat→Value} (hc:PA c)
   (fj: ∀j,j<cells.length→w.cell? ⟨c,o+j,none⟩=some (vs j))
   (ec: ∀(j:Nat) (a:AV),cells[j]?=some a→bH w PA (fun _=>False) a (vs j)):bH w PA PF (.dA cells col) (.pointer (some ⟨c,o+col,none⟩))
 | gf {PA PF:Nat→Prop}:bH w PA PF .gf (.pointer none)
 | gC {PA PF:Nat→Prop}:bH w PA PF .gC .nilIface
 | fn {PA PF:Nat→Prop} {f:FuncId} {caps:List AV} {vs:List Value} (aL:caps.length=vs.length)
   (ec: ∀(i:Nat) (a:AV) (v:Value),caps[i]?=some a→vs[i]?=some v→bH w PA (fun _=>False) a v):bH w PA PF (.fn f caps) (.func (.func f) #[] vs.toArray)
theorem Ko {w w':World} {c o:Nat} (h:w'.heap[c]?=w.heap[c]?):w'.cell? ⟨c,o,none⟩=w.cell? ⟨c,o,none⟩:=by
 simp[World.cell?,h]
theorem bH.mono {w w':World} {PA PF:Nat→Prop} {a:AV} {v:Value} (h:bH w PA PF a v):
  ∀{x8 x9:Nat→Prop},(∀c,PA c→w'.heap[c]?=w.heap[c]?)→(∀c,PF c→w'.heap[c]?=w.heap[c]?)→(∀c,PA c→x8 c)→(∀c,PF c→x9 c)→bH w' x8 x9 a v:=by
 induction h with
 | undef v=>intros;exact .undef v
 | int k n=>intros;exact .int k n
 | bool b=>intros;exact .bool b
 | str s=>intros;exact .str s
 | @bD PA PF PB rows full fresh A cap sz vs gl gQ hC cK fj ec bS=>
  intro x8 x9 hw wX a4 hf
  have LB: ∀c,PB c→w'.heap[c]?=w.heap[c]?:=fun c hc=>by
   have:=gl c hc
   split at this
   ·exact wX c this
   ·exact hw c this
  refine .bD (PB:=PB) (sz:=sz) (vs:=vs) (fun c hc=> ?_) gQ hC cK (fun aF=> ?_) (fun i j row a aK aM=> ?_)
  ·have:=gl c hc
   split
   ·rename_i h;rw[if_pos h] at this;exact hf c this
   ·rename_i h;rw[if_neg h] at this;exact a4 c this
  ·obtain⟨c,o,e,hc,eE⟩:=fj aF
   exact⟨c,o,e,hc,fun i j hi aM=>by rw[Ko (LB c hc)];exact eE i j hi aM⟩
  ·exact bS i j row a aK aM LB (fun c hc=>hc.elim) (fun c hc=>hc) (fun c hc=>hc)
 | @dA PA PF cells col c o vs hc fj ec bS=>
  intro x8 x9 hw wX a4 hf
  refine .dA (a4 c hc) (vs:=vs) (fun j aM=> ?_) (fun j a aM=>bS j a aM hw (fun c hc=>hc.elim) a4 (fun c hc=>hc))
  rw[Ko (hw c hc)];exact fj j aM
 | gf=>intros;exact .gf
 | gC=>intros;exact .gC
 | fn aL ec bS=>
  intro x8 x9 hw wX a4 hf
  exact .fn aL (fun i a v h1 h2=>bS i a v h1 h2 hw (fun c hc=>hc.elim) a4 (fun c hc=>hc))
theorem bH.one {w:World} {PA PF:Nat→Prop} {a:AV} {v:Value} (h:bH w PA PF a v) (hu:a≠ .undef):v.oneCell'=true:=by
 cases h<;>first | rfl | exact absurd rfl hu
structure Env where
 w:World
 PA:Nat→Prop
 PF:Nat→Prop
 m:Nat→Option (Option Nat)
 bF:Nat→Nat
 sz:Nat→Nat
 cp:Nat→Nat
 mL:Nat→Option Nat
def fv (E:Env):AV→Value→Prop
 | .ref b g off n full,v=>(g<E.bF b∧ ∃A cap,v= .slice A n cap)∨(g=E.bF b∧((E.m b=some none∧off=0∧n=0∧ ∃A,v= .slice A 0 0)∨
   ∃c cap,E.m b=some (some c)∧v= .slice (some ⟨c,off*E.sz b,none⟩) n cap∧n≤cap∧(full=true→cap=n)∧off+cap≤E.cp b))
 | .ptr b g r c,v=>(g<E.bF b∧ ∃bl o,v= .pointer (some ⟨bl,o,none⟩))∨(g=E.bF b∧ ∃bl,E.m b=some (some bl)∧v= .pointer (some ⟨bl,r*E.sz b+c,none⟩))
 | .fG t c,v=> ∃bl,E.mL t=some bl∧v= .pointer (some ⟨bl,c,none⟩)
 | a,v=>bH E.w E.PA E.PF a v
def cN (E:Env):AV→Value→Prop
 | .fn f caps,v=> ∃vs:List Value,v= .func (.func f) #[] vs.toArray∧aD (fv E) caps vs
 | a,v=>fv E a v
def V2 (E:Env):AV→Value→Prop
 | .agg cells,v=> ∃vs:List Value,v= .agg vs.toArray∧aD (cN E) cells vs
 | a,v=>cN E a v
def V3 (E:Env):AV→Value→Prop
 | .tup l,v=> ∃vs:List Value,v= .tuple vs.toArray∧aD (V2 E) l vs
 | a,v=>V2 E a v
structure Env.gN (E E':Env):Prop where
 fL: ∀c,E.PA c→E'.PA c
 fM: ∀c,E.PF c→E'.PF c
 tJ: ∀c,E.PA c→E'.w.heap[c]?=E.w.heap[c]?
 wf: ∀c,E.PF c→E'.w.heap[c]?=E.w.heap[c]?
 bF: ∀b,E.bF b≤E'.bF b
 m: ∀b x,E.m b=some x→E'.bF b=E.bF b→E'.m b=some x∧E'.sz b=E.sz b∧E'.cp b=E.cp b
 mL: ∀t c,E.mL t=some c→E'.mL t=some c
theorem Env.gN.refl (E:Env):E.gN E:=⟨fun _ h=>h,fun _ h=>h,fun _ _=>rfl,fun _ _=>rfl,fun _=>Nat.le_refl _,fun _ _ h _=>⟨h,rfl,rfl⟩,fun _ _ h=>h⟩
theorem Env.gN.trans {A B C:Env} (h:A.gN B) (k:B.gN C):A.gN C:=
 ⟨fun c x=>k.fL c (h.fL c x),fun c x=>k.fM c (h.fM c x),fun c x=>(k.tJ c (h.fL c x)).trans (h.tJ c x),fun c x=>(k.wf c (h.fM c x)).trans (h.wf c x),
  fun b=>Nat.le_trans (h.bF b) (k.bF b),fun b x hx hg=>by
   have h1:B.bF b=A.bF b:=Nat.le_antisymm (hg▸k.bF b) (h.bF b)
   have h2:C.bF b=B.bF b:=hg.trans h1.symm
   obtain⟨aR,s1,nx⟩:=h.m b x hx h1
   obtain⟨bn,s2,lZ⟩:=k.m b x aR h2
   exact⟨bn,s2.trans s1,lZ.trans nx⟩,
  fun t c x=>k.mL t c (h.mL t c x)⟩
theorem fv.le {E E':Env} (h:E.gN E') {a:AV} {v:Value} (hv:fv E a v):fv E' a v:=by
 have ov: ∀a v,bH E.w E.PA E.PF a v→bH E'.w E'.PA E'.PF a v:=fun a v k=>k.mono h.tJ h.wf h.fL h.fM
 cases a with
 | ref b g off n full=>
  rcases hv with⟨hv,h1⟩ | ⟨hg,hv⟩
  ·exact .inl ⟨Nat.lt_of_lt_of_le hv (h.bF b),h1⟩
  ·rcases Nat.lt_or_ge (E.bF b) (E'.bF b) with bf | fT
   ·refine .inl ⟨hg▸bf,?_⟩
    rcases hv with⟨hm,aC,rfl,A,rfl⟩ | ⟨c,cap,hm,rfl,h1,h2,aP⟩<;>exact⟨_,_,rfl⟩
   ·have he:E'.bF b=E.bF b:=Nat.le_antisymm fT (h.bF b)
    refine .inr ⟨by rw[he];exact hg,?_⟩
    rcases hv with⟨hm,aC,aF,A,hZ⟩ | ⟨c,cap,hm,e,h1,h2,aP⟩
    ·exact .inl ⟨(h.m b _ hm he).1,aC,aF,A,hZ⟩
    ·obtain⟨aR,s1,nx⟩:=h.m b _ hm he
     exact .inr ⟨c,cap,aR,by rw[s1];exact e,h1,h2,by rw[nx];exact aP⟩
 | ptr b g r c=>
  rcases hv with⟨hv,h1⟩ | ⟨hg,bl,hm,e⟩
  ·exact .inl ⟨Nat.lt_of_lt_of_le hv (h.bF b),h1⟩
  ·rcases Nat.lt_or_ge (E.bF b) (E'.bF b) with bf | fT
   ·exact .inl ⟨hg▸bf,_,_,e⟩
   ·have he:E'.bF b=E.bF b:=Nat.le_antisymm fT (h.bF b)
    obtain⟨aR,s1,nx⟩:=h.m b _ hm he
    exact .inr ⟨by rw[he];exact hg,bl,aR,by rw[s1];exact e⟩
 | fG t c=>
  obtain⟨bl,hm,e⟩:=hv
  exact⟨bl,h.mL _ _ hm,e⟩
 | _=>exact ov _ _ hv
theorem rF {E:Env} {a:AV} {v:Value} (h: ∀f caps,a≠ .fn f caps):cN E a v=fv E a v:=by
 cases a<;>first | rfl | exact absurd rfl (h _ _)
theorem pu {E:Env} {a:AV} {v:Value} (h: ∀l,a≠ .agg l):V2 E a v=cN E a v:=by
 cases a<;>first | rfl | exact absurd rfl (h _)
theorem oO {E:Env} {a:AV} {v:Value} (h: ∀l,a≠ .tup l):V3 E a v=V2 E a v:=by
 cases a<;>first | rfl | exact absurd rfl (h _)
theorem cN.le {E E':Env} (h:E.gN E') {a:AV} {v:Value} (hv:cN E a v):cN E' a v:=by
 by_cases hf: ∃f caps,a= .fn f caps
 ·obtain⟨f,caps,rfl⟩:=hf
  obtain⟨vs,e,aI⟩:=hv
  exact⟨vs,e,aI.mono fun _ _ k=>k.le h⟩
 ·rw[rF fun f c e=>hf ⟨f,c,e⟩] at hv ⊢
  exact hv.le h
theorem V2.le {E E':Env} (h:E.gN E') {a:AV} {v:Value} (hv:V2 E a v):V2 E' a v:=by
 by_cases hf: ∃l,a= .agg l
 ·obtain⟨l,rfl⟩:=hf
  obtain⟨vs,e,aI⟩:=hv
  exact⟨vs,e,aI.mono fun _ _ k=>k.le h⟩
 ·rw[pu fun l e=>hf ⟨l,e⟩] at hv ⊢
  exact hv.le h
theorem V3.le {E E':Env} (h:E.gN E') {a:AV} {v:Value} (hv:V3 E a v):V3 E' a v:=by
 by_cases hf: ∃l,a= .tup l
 ·obtain⟨l,rfl⟩:=hf
  obtain⟨vs,e,aI⟩:=hv
  exact⟨vs,e,aI.mono fun _ _ k=>k.le h⟩
 ·rw[oO fun l e=>hf ⟨l,e⟩] at hv ⊢
  exact hv.le h
theorem bH.hr {E:Env} {a:AV} {v:Value} (h:bH E.w E.PA E.PF a v):fv E a v:=by
 cases a<;>first | exact h | cases h
theorem bH.v1 {E:Env} {a:AV} {v:Value} (h:bH E.w E.PA E.PF a v):cN E a v:=by
 by_cases hf: ∃f caps,a= .fn f caps
 ·obtain⟨f,caps,rfl⟩:=hf
  cases h with
  | fn aL ec=>exact⟨_,rfl,aL,fun i a v h1 h2=>((ec i a v h1 h2).mono (fun _ _=>rfl) (fun _ h=>h.elim) (fun _ h=>h) (fun _ h=>h.elim)).hr⟩
 ·rw[rF fun f c e=>hf ⟨f,c,e⟩]
  exact h.hr
theorem cN.undef (E:Env) (v:Value):cN E .undef v:=bH.undef v
theorem V3.undef (E:Env) (v:Value):V3 E .undef v:=bH.undef v
def AV.UB:AV→Bool
 | .undef | .agg _ | .tup _=>false
 | _=>true
theorem cN.one {E:Env} {a:AV} {v:Value} (h:cN E a v) (hc:a.UB=true):True:=trivial
def eW:List (Nat×List AV)→Nat→Option (List AV)
 | [],_=>none
 | (k,c)::l,t=>if t=k then some c else eW l t
def lg:List (Nat×List AV)→Nat→List AV→List (Nat×List AV)
 | [],_,_=>[]
 | (k,c)::l,t,d=>if t=k then(k,d)::l else(k,c)::lg l t d
def Env.gS (E:Env) (c:Nat):Prop:= ∃b,E.m b=some (some c)
def Env.kJ (E:Env) (c:Nat):Prop:= ∃t,E.mL t=some c
def Env.b_ (E:Env):Env:={E with mL:=fun _=>none}
theorem Env.Cl (E:Env):E.b_.gN E:=⟨fun _ h=>h,fun _ h=>h,fun _ _=>rfl,fun _ _=>rfl,fun _=>Nat.le_refl _,fun _ _ h _=>⟨h,rfl,rfl⟩,fun _ _ h=>by cases h⟩
theorem Env.gN.b_ {E E':Env} (h:E.gN E'):E.b_.gN E'.b_:=⟨h.fL,h.fM,h.tJ,h.wf,h.bF,h.m,fun _ _ h=>by cases h⟩
def vO (E:Env) (sz:Nat) (rows:List (List AV)) (ba:Array Value):Prop:=
 (∀(i:Nat) (row:List AV),rows[i]?=some row→row.length=sz)∧
 ∀(i j:Nat) (row:List AV) (a:AV),rows[i]?=some row→row[j]?=some a→ ∃u,ba[i*sz+j]?=some u∧cN E.b_ a u
structure SimH (E:Env) (H:List Blk):Prop where
 heap: ∀b c,E.m b=some (some c)→ ∃blk ba ty,H[b]?=some blk∧E.sz b=blk.sz∧E.w.heap[c]?=some (.cells ba ty (0,0))∧ba.size=E.cp b*E.sz b∧blk.rows.length≤E.cp b∧vO E (E.sz b) blk.rows ba
 fg: ∀(b:Nat) (blk:Blk),H[b]?=some blk→E.bF b=blk.bF
 hE: ∀b,E.m b=some none→ ∃blk,H[b]?=some blk∧E.sz b=blk.sz
 fresh: ∀b,H.length≤b→E.m b=none∧E.bF b=0
 h6: ∀b ct c,E.m b=some (some c)→E.m ct=some (some c)→b=ct
 jK: ∀t jR c,E.mL t=some c→E.mL jR=some c→t=jR
 gT: ∀b t c,E.m b=some (some c)→E.mL t=some c→False
 h7: ∀c,E.PA c→ ¬E.gS c
 iw: ∀c,E.PA c→ ¬E.kJ c
 e0: ∀c,E.PF c→E.PA c
 fc: ∀c,E.PA c→c<E.w.heap.size
 gB: ∀c,E.gS c→c<E.w.heap.size
 g_: ∀c,E.kJ c→c<E.w.heap.size
def SimL (E:Env) (L:List (Nat×List AV)):Prop:=
 ∀t c,E.mL t=some c→ ∃cells ba ty,eW L t=some cells∧E.w.heap[c]?=some (.cells ba ty (0,0))∧aD (cN E.b_) cells ba.toList
structure tS (E:Env) (aJ:St) (tmps:Array Value):Prop where
 h:SimH E aJ.H
 l:SimL E aJ.L
 iA: ∀t,V3 E (aJ.T.getD t .undef) (tmps.getD t undef)
 size:aJ.T.length=tmps.size
structure Step (E E':Env):Prop where
 le:E.gN E'
 os:E'.w.os=E.w.os
 tape:E'.w.tape=E.w.tape
 output:E'.w.output=E.w.output
 size:E.w.heap.size≤E'.w.heap.size
 fh: ∀c,c<E.w.heap.size→ ¬E.gS c→ ¬E.kJ c→E'.w.heap[c]?=E.w.heap[c]?
 jq: ∀b c,E'.m b=some (some c)→E.m b=some (some c)∨E.w.heap.size≤c
 jJ: ∀c,E'.kJ c→E.kJ c∨E.w.heap.size≤c
 fL: ∀c,E'.PA c→E.PA c∨E.w.heap.size≤c
 fM: ∀c,E'.PF c→E.PF c∨E.w.heap.size≤c
theorem Step.qU {E E':Env} (h:Step E E'): ∀c,E'.gS c→E.gS c∨E.w.heap.size≤c:=fun c ⟨b,hb⟩=>(h.jq b c hb).elim (fun h=> .inl ⟨b,h⟩) .inr
theorem Step.refl (E:Env):Step E E:=⟨.refl E,rfl,rfl,rfl,Nat.le_refl _,fun _ _ _ _=>rfl,fun _ _ h=> .inl h,fun _ h=> .inl h,fun _ h=> .inl h,fun _ h=> .inl h⟩
theorem Step.trans {A B C:Env} (h:Step A B) (k:Step B C):Step A C where
 le:=h.le.trans k.le
 os:=k.os.trans h.os
 tape:=k.tape.trans h.tape
 output:=k.output.trans h.output
 size:=Nat.le_trans h.size k.size
 fh:=fun c hc h1 h2=>by
  rw[k.fh c (Nat.lt_of_lt_of_le hc h.size) (fun x=>(h.qU c x).elim h1 (fun y=>absurd hc (Nat.not_lt.2 y))) (fun x=>(h.jJ c x).elim h2 (fun y=>absurd hc (Nat.not_lt.2 y)))]
  exact h.fh c hc h1 h2
 jq:=fun b c x=>(k.jq b c x).elim (fun y=>h.jq b c y) (fun y=> .inr (Nat.le_trans h.size y))
 jJ:=fun c x=>(k.jJ c x).elim (fun y=>h.jJ c y) (fun y=> .inr (Nat.le_trans h.size y))
 fL:=fun c x=>(k.fL c x).elim (fun y=>h.fL c y) (fun y=> .inr (Nat.le_trans h.size y))
 fM:=fun c x=>(k.fM c x).elim (fun y=>h.fM c y) (fun y=> .inr (Nat.le_trans h.size y))
class cM where
 n:Nat
structure Good [iW:cM] (cz E:Env):Prop where
 zs: ∀b,iW.n≤b→cz.m b=none∧cz.bF b=0
 b_: ∀t,cz.mL t=none
 le:cz.gN E
 os:E.w.os=cz.w.os
 tape:E.w.tape=cz.w.tape
 output:E.w.output=cz.w.output
 size:cz.w.heap.size≤E.w.heap.size
 fh: ∀c,c<cz.w.heap.size→ ¬cz.gS c→E.w.heap[c]?=cz.w.heap[c]?
 jq: ∀b c,E.m b=some (some c)→cz.m b=some (some c)∨cz.w.heap.size≤c
 jJ: ∀c,E.kJ c→cz.w.heap.size≤c
 fL: ∀c,E.PA c→cz.PA c∨cz.w.heap.size≤c
 fM: ∀c,E.PF c→cz.PF c∨cz.w.heap.size≤c
section
variable [iW:cM]
theorem Good.qU {cz E:Env} (h:Good cz E): ∀c,E.gS c→cz.gS c∨cz.w.heap.size≤c:=fun c ⟨b,hb⟩=>(h.jq b c hb).elim (fun h=> .inl ⟨b,h⟩) .inr
theorem Good.refl {E:Env} (hu: ∀b,iW.n≤b→E.m b=none∧E.bF b=0) (h: ∀t,E.mL t=none):Good E E:=
 ⟨hu,h,.refl E,rfl,rfl,rfl,Nat.le_refl _,fun _ _ _=>rfl,fun _ _ x=> .inl x,(fun c ⟨t,x⟩=>by rw[h t] at x;cases x),fun _ x=> .inl x,fun _ x=> .inl x⟩
theorem Good.step {cz E E':Env} (h:Good cz E) (k:Step E E'):Good cz E' where
 zs:=h.zs
 b_:=h.b_
 le:=h.le.trans k.le
 os:=k.os.trans h.os
 tape:=k.tape.trans h.tape
 output:=k.output.trans h.output
 size:=Nat.le_trans h.size k.size
 fh:=fun c hc h1=>by
  rw[k.fh c (Nat.lt_of_lt_of_le hc h.size) (fun x=>(h.qU c x).elim h1 (fun y=>absurd hc (Nat.not_lt.2 y))) (fun x=>absurd hc (Nat.not_lt.2 (h.jJ c x)))]
  exact h.fh c hc h1
 jq:=fun b c x=>(k.jq b c x).elim (fun y=>h.jq b c y) (fun y=> .inr (Nat.le_trans h.size y))
 jJ:=fun c x=>(k.jJ c x).elim (fun y=>h.jJ c y) (fun y=>Nat.le_trans h.size y)
 fL:=fun c x=>(k.fL c x).elim (fun y=>h.fL c y) (fun y=> .inr (Nat.le_trans h.size y))
 fM:=fun c x=>(k.fM c x).elim (fun y=>h.fM c y) (fun y=> .inr (Nat.le_trans h.size y))
end
def TE (ex:Exit):Bool:=match ex with
 | .normal | .exit _ | .ret=>true
 | _=>false
def nv [cM] (cz:Env) (Q:Exit→St→Prop) (ex:Exit) (a:Act) (w:World):Prop:=
 TE ex=true∧ ∃aJ E,Q ex aJ∧E.w=w∧Good cz E∧tS E aJ a.tmps∧a.defers=[]
def WpS [cM] (P:Program) (c:Code) (Q:Exit→St→Prop) (aJ:St):Prop:=
 ∀(cz E:Env) (a:Act),Good cz E→tS E aJ a.tmps→a.defers=[]→c.wp P (nv cz Q) a E.w
def Weak [cM] (aJ li:St):Prop:= ∀(cz E:Env) (tmps:Array Value),Good cz E→tS E aJ tmps→ ∃E',E'.w=E.w∧Good cz E'∧tS E' li tmps
theorem Weak.refl [cM] (aJ:St):Weak aJ aJ:=fun cz E tmps g h=>⟨E,rfl,g,h⟩
theorem Weak.trans [cM] {a b c:St} (h:Weak a b) (k:Weak b c):Weak a c:=fun cz E tmps g s=>by
 obtain⟨E1,bA,aT,s1⟩:=h cz E tmps g s
 obtain⟨rD,e2,a1,s2⟩:=k cz E1 tmps aT s1
 exact⟨rD,e2.trans bA,a1,s2⟩
section
variable [cM] {P:Program} {Q vN:Exit→St→Prop} {aJ:St}
theorem WpS.mono {c:Code} (h:WpS P c Q aJ) (aj: ∀e s,Q e s→vN e s):WpS P c vN aJ:=fun cz E a g s d=>
 wp_mono (h cz E a g s d) fun e a w ⟨h1,aJ,E,h2,aP⟩=>⟨h1,aJ,E,aj _ _ h2,aP⟩
theorem WpS.mq {c:Code} {li:St} (h:WpS P c Q li) (k:Weak aJ li):WpS P c Q aJ:=fun cz E a g s d=>by
 obtain⟨E1,bA,aT,s1⟩:=k cz E a.tmps g s
 exact bA▸h cz E1 a aT s1 d
theorem WpS.skip (h:Q .normal aJ):WpS P .skip Q aJ:=fun cz E a g s d=>wp_skip ⟨rfl,aJ,E,h,rfl,g,s,d⟩
theorem WpS.ret (h:Q .ret aJ):WpS P .ret Q aJ:=fun cz E a g s d=>wp_ret ⟨rfl,aJ,E,h,rfl,g,s,d⟩
theorem WpS.exit {id:Nat} (h:Q (.exit id) aJ):WpS P (.exit id) Q aJ:=fun cz E a g s d=>wp_exit ⟨rfl,aJ,E,h,rfl,g,s,d⟩
def eb (P:Program) (y:Code) (Q:Exit→St→Prop) (ex:Exit) (s:St):Prop:=match ex with
 | .normal=>WpS P y Q s
 | ex=>Q ex s
theorem WpS.seq {x y:Code} (h:WpS P x (eb P y Q) aJ):WpS P (.seq x y) Q aJ:=fun cz E a g s d=>
 wp_seq (wp_mono (h cz E a g s d) fun e io w' ⟨h1,li,E',h2,aP,a8,cs,cT⟩=>by
  cases e with
  | normal=>subst aP;exact h2 cz E' io a8 cs cT
  | exit id=>exact⟨rfl,li,E',h2,aP,a8,cs,cT⟩
  | ret=>exact⟨rfl,li,E',h2,aP,a8,cs,cT⟩
  | _=>cases h1)
def cr (id:Nat) (Q:Exit→St→Prop) (ex:Exit) (s:St):Prop:=match ex with
 | .exit gA=>if gA=id then Q .normal s else Q (.exit gA) s
 | ex=>Q ex s
theorem WpS.block {id:Nat} {c:Code} (h:WpS P c (cr id Q) aJ):WpS P (.block id c) Q aJ:=fun cz E a g s d=>
 wp_block (wp_mono (h cz E a g s d) fun e io w' ⟨h1,li,E',h2,aP⟩=>by
  cases e with
  | normal=>exact⟨rfl,li,E',h2,aP⟩
  | exit gA=>
   by_cases gR:gA=id
   ·subst gR
    have yG:(if gA=gA then Q .normal li else Q (.exit gA) li):=h2
    rw[if_pos rfl] at yG
    show(if gA=gA then _ else _)
    rw[if_pos rfl];exact⟨rfl,li,E',yG,aP⟩
   ·have yG:(if gA=id then Q .normal li else Q (.exit gA) li):=h2
    rw[if_neg gR] at yG
    show(if gA=id then _ else _)
    rw[if_neg gR];exact⟨rfl,li,E',yG,aP⟩
  | ret=>exact⟨rfl,li,E',h2,aP⟩
  | _=>cases h1)
end
def oT:Value→AV
 | .int k n=> .int k n
 | .bool b=> .bool b
 | .string s=> .str s
 | .slice none 0 0=> .bD [] true true
 | .pointer none=> .gf
 | .nilIface=> .gC
 | _=> .undef
def cv (T:List AV):Operand→AV
 | .tmp t=>T.getD t .undef
 | .const v=>oT v
 | .func f=> .fn f []
 | .global _=> .undef
theorem UX (E:Env) (v:Value):V3 E (oT v) v:=by
 unfold oT
 split
 ·exact bH.int _ _
 ·exact bH.bool _
 ·exact bH.str _
 ·exact bH.bD (PB:=fun _=>False) (sz:=0) (vs:=fun _ _=>undef) (fun _ h=>h.elim) ⟨Nat.le_refl _,Nat.zero_le _⟩ (fun _=>rfl) (fun i row h=>by simp at h) (fun h=>by simp at h) (fun i j row a h=>by simp at h)
 ·exact bH.gf
 ·exact bH.gC
 ·exact bH.undef _
theorem opv_rel {E:Env} {T:List AV} {a:Act} (h: ∀t,V3 E (T.getD t .undef) (a.tmps.getD t undef)) (x:Operand):V3 E (cv T x) (a.eval x):=by
 cases x with
 | tmp t=>exact h t
 | const v=>exact UX E v
 | global g=>exact bH.undef _
 | func f=>exact⟨[],rfl,aD.nil⟩
def yh (b:Bool) (x y:Prop):Prop:=(b=true→x)∧(b=false→y)
def oQ (v:AV) (k:Bool→Prop):Prop:=match v with
 | .bool b=>k b
 | _=>False
theorem AC {v:AV} {k:Bool→Prop} (h:oQ v k): ∃b,v= .bool b∧k b:=by
 cases v<;>first | exact⟨_,rfl,h⟩ | exact h.elim
theorem V3.rI {E:Env} {b:Bool} {v:Value} (h:V3 E (.bool b) v):v= .bool b:=by
 have h':bH E.w E.PA E.PF (.bool b) v:=h
 cases h';rfl
theorem V3.r8 {E:Env} {k:IntKind} {n:Int} {v:Value} (h:V3 E (.int k n) v):v= .int k n:=by
 have h':bH E.w E.PA E.PF (.int k n) v:=h
 cases h';rfl
theorem V3.xO {E:Env} {s:ByteArray} {v:Value} (h:V3 E (.str s) v):v= .string s:=by
 have h':bH E.w E.PA E.PF (.str s) v:=h
 cases h';rfl
section
variable [cM] {P:Program} {Q vN:Exit→St→Prop} {aJ:St}
theorem WpS.cond {c:Operand} {x y:Code} (h:oQ (cv aJ.T c) fun b=>yh b (WpS P x Q aJ) (WpS P y Q aJ)):WpS P (.cond c x y) Q aJ:=fun cz E a g s d=>by
 obtain⟨b,hb,h1,h2⟩:=AC h
 have hv:=opv_rel s.iA c
 rw[hb] at hv
 have he:a.eval c= .bool b:=V3.rI hv
 exact wp_cond_split he (fun e=>h1 e cz E a g s d) (fun e=>h2 e cz E a g s d)
def TG (I:Nat→St→Prop) (n:Nat) (Q:Exit→St→Prop) (ex:Exit) (s:St):Prop:=match ex with
 | .normal=> ∃pZ s',pZ<n∧Weak s s'∧I pZ s'
 | ex=>Q ex s
theorem WpS.loop {c:Code} (I:Nat→St→Prop) (n:Nat) (aU:I n aJ) (round: ∀n s,I n s→WpS P c (TG I n Q) s):WpS P (.loop c) Q aJ:=by
 intro cz E a g s d b k ba
 have key: ∀n (a:Act) (E:Env) aJ,I n aJ→Good cz E→tS E aJ a.tmps→a.defers=[]→
   ∃e io w',nv cz Q e io w'∧Arrives P (lone (b.at a (.code c:: .inLoop c::k)) ba E.w) b k ba e io w':=by
  intro n
  induction n using Nat.strongRecOn with
  | _ n bS=>
   intro a E aJ aX g s d
   obtain⟨e,AD,Th,aj,yP⟩:=round n aJ aX cz E a g s d b (.inLoop c::k) ba
   obtain⟨he,SJ,E1,aj,hw,aT,s1,d1⟩:=aj
   cases e with
   | normal=>
    obtain⟨pZ,s',bf,Y9,yJ⟩:=aj
    obtain⟨rD,e2,a1,s2⟩:=Y9 cz E1 AD.tmps aT s1
    obtain⟨Vy,T0,agG,YW,LJ⟩:=bS pZ bf AD rD s' yJ a1 s2 d1
    rw[e2,hw] at LJ
    exact⟨Vy,T0,agG,YW,.of_steps (Steps.trans yP (.one step_inLoop)) LJ⟩
   | exit id=>exact⟨_,AD,Th,⟨rfl,SJ,E1,aj,hw,aT,s1,d1⟩,.pass (x:= .inLoop c) rfl (fun _ _=> .inl (by simp)) yP⟩
   | ret=>exact⟨_,AD,Th,⟨rfl,SJ,E1,aj,hw,aT,s1,d1⟩,.pass (x:= .inLoop c) rfl (fun _ _=> .inl (by simp)) yP⟩
   | _=>cases he
 obtain⟨e,io,w',aj,yP⟩:=key n a E aJ aU g s d
 exact⟨e,io,w',aj,.of_steps (.one step_loop) yP⟩
end
def c3 {α:Type} (o:Option α) (k:α→Prop):Prop:=match o with
 | some a=>k a
 | none=>False
theorem fC {α:Type} {o:Option α} {k:α→Prop} (h:c3 o k): ∃a,o=some a∧k a:=by
 cases o with
 | none=>exact h.elim
 | some a=>exact⟨a,rfl,h⟩
theorem et {α:Type} {o:Option α} {k:α→Prop} {a:α} (h:o=some a) (hk:k a):c3 o k:=by rw[h];exact hk
def e7 (b:Bool) (x:Prop):Prop:=match b with
 | true=>x
 | false=>False
theorem p4 {b:Bool} {x:Prop} (h:e7 b x):b=true∧x:=by
 cases b with
 | true=>exact⟨rfl,h⟩
 | false=>exact h.elim
def w4 (P:Program) (t:TypeId):Bool:=match P.underlying t with
 | some (.struct _) | some (.array _ _)=>true
 | _=>false
def zh (P:Program) (t:TypeId):Bool:=(P.underlying t).isSome
theorem run_underlying {P:Program} {t:TypeId} {w:World} {d:TypeDesc} (h:P.underlying t=some d):(underlying t).run P w= .ok d w:=by
 simp[Go.underlying,h]
theorem Qa {P:Program} {t:TypeId} {w:World} (h:zh P t=true):(isAgg t).run P w= .ok (w4 P t) w:=by
 unfold zh at h
 cases bj:P.underlying t with
 | none=>simp[bj] at h
 | some d=>
  simp only[Go.isAgg,Sem.run_bind,run_underlying bj,Result.andThen_ok,w4,bj]
  cases d<;>rfl
theorem run_sizeOf {P:Program} {t:TypeId} {w:World} (h:(P.info? t).isSome=true):(sizeOf t).run P w= .ok (P.cellsOf t) w:=by
 cases hi:P.info? t with
 | none=>simp[hi] at h
 | some i=>simp[Go.sizeOf,typeInfo,hi,Program.cellsOf]
theorem aaV {P:Program} {t:TypeId} (h:zh P t=true):(P.info? t).isSome=true:=by
 unfold zh Program.underlying at h
 cases hi:P.info? t with
 | none=>simp[hi] at h
 | some i=>rfl
def jA (P:Program) (t:TypeId) (cells:List AV) (c:Nat) (K:AV→Prop):Prop:=
 if zh P t=true then
  (if w4 P t=true then(if c+P.cellsOf t≤cells.length then K (.agg ((cells.drop c).take (P.cellsOf t))) else False)
   else c3 cells[c]? K)
 else False
def o4 (P:Program) (t:TypeId) (x:AV) (L:List (Nat×List AV)) (H:List Blk) (K:AV→Prop):Prop:=match x with
 | .fG s c=>c3 (eW L s) fun cells=>jA P t cells c K
 | .ptr b g r c=>c3 H[b]? fun blk=>blk.bF=g∧c3 blk.rows[r]? fun row=>jA P t row c K
 | .dA cells c=>jA P t cells c K
 | _=>False
theorem n3 (c o n:Nat):(⟨c,o,none⟩:Addr).add n=⟨c,o+n,none⟩:=by
 unfold Addr.add;split
 ·subst_vars;rfl
 ·rfl
theorem Jp {P:Program} {t:TypeId} {cells:List AV} {c bl o:Nat} {K:AV→Prop} {w:World} {R:AV→Value→Prop}
  (hc: ∀(j:Nat) (a:AV),cells[j]?=some a→ ∃u,w.cell? ⟨bl,o+j,none⟩=some u∧R a u) (h:jA P t cells c K):
  ∃a v,K a∧(loadVar t ⟨bl,o+c,none⟩).run P w= .ok v w∧
   ((∃l vs,a= .agg l∧v= .agg (List.toArray vs)∧aD R l vs)∨R a v):=by
 unfold jA at h
 split at h
 ·rename_i hk
  split at h
  ·rename_i a4
   split at h
   ·rename_i aL
    let n:=P.cellsOf t
    have eE: ∀j,j<n→ ∃a u,cells[c+j]?=some a∧w.cell? ⟨bl,o+(c+j),none⟩=some u∧R a u:=by
     intro j aM
     have ot:c+j<cells.length:=by show c+j<cells.length;have:n=P.cellsOf t:=rfl;omega
     obtain⟨u,h1,h2⟩:=hc (c+j) _ (List.getElem?_eq_getElem ot)
     exact⟨_,u,List.getElem?_eq_getElem ot,h1,h2⟩
    let f:Nat→Value:=fun j=>(w.cell? ⟨bl,o+(c+j),none⟩).getD undef
    have hf: ∀j,j<n→w.cell? ((⟨bl,o+c,none⟩:Addr).add j)=some (f j):=by
     intro j aM
     obtain⟨a,u,_,h1,_⟩:=eE j aM
     rw[n3,Nat.add_assoc]
     show _=some ((w.cell? ⟨bl,o+(c+j),none⟩).getD undef)
     rw[h1];rfl
    refine⟨_,.agg ((List.range n).map f).toArray,h,?_,.inl ⟨_,(List.range n).map f,rfl,rfl,?_,?_⟩⟩
    ·simp only[loadVar,Sem.run_bind,Qa hk,Result.andThen_ok,a4,if_true,run_sizeOf (aaV hk)]
     rw[run_loadCells w _ n f hf]
     rfl
    ·simp only[List.length_take,List.length_drop,List.length_map,List.length_range];show min n _=n;have:n=P.cellsOf t:=rfl;omega
    ·intro i a b LX wG
     have hi:i<n:=by have:=(List.getElem?_eq_some_iff.1 wG).1;simpa using this
     obtain⟨io,u,h1,h2,aP⟩:=eE i hi
     rw[List.getElem?_take,if_pos (show i<P.cellsOf t from hi),List.getElem?_drop,h1] at LX
     cases LX
     rw[List.getElem?_map,List.getElem?_range hi] at wG
     simp only[Option.map_some,Option.some.injEq] at wG
     have:f i=u:=by show(w.cell? ⟨bl,o+(c+i),none⟩).getD undef=u;rw[h2];rfl
     rw[←wG,this];exact aP
   ·exact h.elim
  ·rename_i a4
   obtain⟨a,um,hK⟩:=fC h
   obtain⟨u,h1,h2⟩:=hc c a um
   refine⟨a,u,hK,?_,.inr h2⟩
   have XK:w4 P t=false:=by cases hx:w4 P t<;>simp_all
   simp only[loadVar,Sem.run_bind,Qa hk,Result.andThen_ok,XK]
   simp[h1]
 ·exact h.elim
theorem cN.up {E:Env} {a:AV} {v:Value} (h:cN E.b_ a v):cN E a v:=h.le E.Cl
theorem TI {E:Env} {l:List AV} {v:Value} (h:cN E (.agg l) v):False:=by
 have h':bH E.w E.PA E.PF (.agg l) v:=h
 cases h'
theorem TJ {E:Env} {l:List AV} {v:Value} (h:cN E (.tup l) v):False:=by
 have h':bH E.w E.PA E.PF (.tup l) v:=h
 cases h'
theorem ql {E:Env} {a:AV} {v:Value} (h:cN E a v):V2 E a v:=by
 by_cases hf: ∃l,a= .agg l
 ·obtain⟨l,rfl⟩:=hf;exact(TI h).elim
 ·rw[pu fun l e=>hf ⟨l,e⟩];exact h
theorem TK {E:Env} {l:List AV} {v:Value} (h:V2 E (.tup l) v):False:=TJ (E:=E) (l:=l) (v:=v) h
theorem qm {E:Env} {a:AV} {v:Value} (h:V2 E a v):V3 E a v:=by
 by_cases hf: ∃l,a= .tup l
 ·obtain⟨l,rfl⟩:=hf;exact(TK h).elim
 ·rw[oO fun l e=>hf ⟨l,e⟩];exact h
theorem Dy {E:Env} {a:AV} {v:Value} (h:(∃l vs,a= .agg l∧v= .agg (List.toArray vs)∧aD (cN E) l vs)∨cN E a v):V2 E a v:=by
 rcases h with⟨l,vs,rfl,rfl,aI⟩ | h
 ·exact⟨vs,rfl,aI⟩
 ·exact ql h
theorem V3.zo {E:Env} {t c:Nat} {v:Value} (h:V3 E (.fG t c) v): ∃bl,E.mL t=some bl∧v= .pointer (some ⟨bl,c,none⟩):=h
theorem V3.CC {E:Env} {b g r c:Nat} {v:Value} (h:V3 E (.ptr b g r c) v) (hg:E.bF b=g): ∃bl,E.m b=some (some bl)∧v= .pointer (some ⟨bl,r*E.sz b+c,none⟩):=by
 rcases(h:fv E (.ptr b g r c) v) with⟨h,_⟩ | ⟨_,h⟩
 ·omega
 ·exact h
theorem cell_of {w:World} {c o:Nat} {ba:Array Value} {ty:TypeId} {W4:Nat×Nat} {u:Value} (h:w.heap[c]?=some (.cells ba ty W4)) (hu:ba[o]?=some u):w.cell? ⟨c,o,none⟩=some u:=by
 simp[World.cell?,h,hu]
structure Sub (L:List (Nat×List AV)) (H:List Blk) (kC:List (Nat×List AV)) (fe:List Blk):Prop where
 l: ∀t c,eW L t=some c→eW kC t=some c
 h: ∀(b:Nat) (blk:Blk),H[b]?=some blk→fe[b]?=some blk
theorem Sub.refl (L:List (Nat×List AV)) (H:List Blk):Sub L H L H:=⟨fun _ _ h=>h,fun _ _ h=>h⟩
theorem Oo {P:Program} {t:TypeId} {x:AV} {L kC:List (Nat×List AV)} {H fe:List Blk} {K:AV→Prop} {E:Env} {v:Value}
  (sub:Sub L H kC fe) (aV:SimH E fe) (b3:SimL E kC) (hx:V3 E x v) (h:o4 P t x L H K):
  ∃a e9,K a∧(Instr.loadAt t v).run P E.w= .ok e9 E.w∧V2 E a e9:=by
 cases x with
 | fG s c=>
  obtain⟨bl,hm,rfl⟩:=hx.zo
  obtain⟨cells,ba,ty,hg,hw,aI⟩:=b3 s bl hm
  have h':c3 (eW L s) fun cells=>jA P t cells c K:=h
  obtain⟨AO,yW,h'⟩:=fC h'
  obtain rfl:cells=AO:=by have:=sub.l _ _ yW;rw[hg] at this;exact Option.some.inj this
  obtain⟨a,e9,hK,aK,hv⟩:=Jp (o:=0) (bl:=bl) (w:=E.w) (R:=cN E.b_) (fun j a aM=>by
   obtain⟨u,hu,aK⟩:=aI.get aM
   exact⟨u,by rw[Nat.zero_add];exact cell_of hw (by simpa using hu),aK⟩) h'
  rw[Nat.zero_add] at aK
  refine⟨a,e9,hK,?_,(Dy hv).le E.Cl⟩
  simp only[Instr.loadAt,Instr.sureAddr,Sem.run_bind,Sem.run_pure,Result.andThen_ok,aK]
 | ptr b g r c=>
  obtain⟨blk,hb,hg,h2⟩:=fC (show c3 H[b]? fun blk=>blk.bF=g∧c3 blk.rows[r]? fun row=>jA P t row c K from h)
  obtain⟨row,eX,aP⟩:=fC h2
  replace hb:=sub.h b blk hb
  have kk:=aV.fg b blk hb
  obtain⟨bl,hm,rfl⟩:=hx.CC (kk.trans hg)
  obtain⟨blk',ba,ty,ek,m5,hw,mv,hlen,gz⟩:=aV.heap b bl hm
  obtain rfl:blk=blk':=by rw[hb] at ek;exact Option.some.inj ek
  obtain⟨a,e9,hK,aK,hv⟩:=Jp (o:=r*E.sz b) (bl:=bl) (w:=E.w) (R:=cN E.b_) (fun j a aM=>by
   obtain⟨u,hu,aK⟩:=gz.2 r j row a eX aM
   exact⟨u,cell_of hw hu,aK⟩) aP
  refine⟨a,e9,hK,?_,(Dy hv).le E.Cl⟩
  simp only[Instr.loadAt,Instr.sureAddr,Sem.run_bind,Sem.run_pure,Result.andThen_ok,aK]
 | dA cells c=>
  have jI:bH E.w E.PA E.PF (.dA cells c) v:=hx
  cases jI with
  | @dA _ _ _ _ bl o vs hc fj ec=>
   have h':jA P t cells c K:=h
   obtain⟨a,e9,hK,aK,hv⟩:=Jp (o:=o) (bl:=bl) (w:=E.w) (R:=bH E.w E.PA (fun _=>False)) (fun j a aM=>
    ⟨vs j,fj j (List.getElem?_eq_some_iff.1 aM).1,ec j a aM⟩) h'
   have up: ∀a v,bH E.w E.PA (fun _=>False) a v→cN E a v:=fun a v aK=>(aK.mono (fun _ _=>rfl) (fun _ h=>h.elim) (fun _ h=>h) (fun _ h=>h.elim)).v1
   refine⟨a,e9,hK,?_,Dy (hv.imp (fun⟨l,vs,h1,h2,aP⟩=>⟨l,vs,h1,h2,aP.mono up⟩) (up _ _))⟩
   simp only[Instr.loadAt,Instr.sureAddr,Sem.run_bind,Sem.run_pure,Result.andThen_ok,aK]
 | _=>exact h.elim
def vv:AV→Bool
 | .undef | .agg _ | .tup _ | .fG _ _ | .fn _ _=>false
 | _=>true
def ji:AV→Bool
 | .fn _ caps=>caps.all vv
 | a=>vv a
def fi:AV→List AV
 | .agg l=>l
 | a=>[a]
def fl (row:List AV) (c:Nat) (l:List AV):List AV:=row.take c++l++row.drop (c+l.length)
def ml (P:Program) (t:TypeId) (x v:AV) (L:List (Nat×List AV)) (H:List Blk) (K:List (Nat×List AV)→List Blk→Prop):Prop:=
 if(P.info? t).isSome=true∧(fi v).length=P.cellsOf t∧(fi v).all ji=true then
  match x with
  | .fG s c=>c3 (eW L s) fun cells=>if c+(fi v).length≤cells.length then K (lg L s (fl cells c (fi v))) H else False
  | .ptr b g r c=>c3 H[b]? fun blk=>blk.bF=g∧c3 blk.rows[r]? fun row=>c+(fi v).length≤row.length∧K L (H.set b {blk with rows:=blk.rows.set r (fl row c (fi v))})
  | _=>False
 else False
theorem SR {E:Env} {a:AV} {v:Value} (h:vv a=true) (hv:fv E a v):fv E.b_ a v:=by
 cases a<;>first | exact hv | cases h
theorem Ji {E:Env} {a:AV} {v:Value} (h:ji a=true) (hv:cN E a v):cN E.b_ a v:=by
 by_cases hf: ∃f caps,a= .fn f caps
 ·obtain⟨f,caps,rfl⟩:=hf
  obtain⟨vs,e,aI⟩:=hv
  refine⟨vs,e,aI.1,fun i x y hx hy=>SR ?_ (aI.2 i x y hx hy)⟩
  have h':caps.all vv=true:=h
  exact List.all_eq_true.1 h' x (List.mem_of_getElem? hx)
 ·have aU:ji a=vv a:=by cases a<;>first | rfl | exact absurd ⟨_,_,rfl⟩ hf
  rw[rF fun f c e=>hf ⟨f,c,e⟩] at hv ⊢
  exact SR (aU▸h) hv
theorem fv.one {E:Env} {a:AV} {v:Value} (h:vv a=true) (hv:fv E a v):v.oneCell'=true:=by
 cases a with
 | undef=>cases h
 | agg l=>cases h
 | tup l=>cases h
 | fG s c=>cases h
 | fn f c=>cases h
 | ref b g off n full=>
  rcases hv with⟨_,A,cap,rfl⟩ | ⟨_,⟨_,_,_,A,rfl⟩ | ⟨c,cap,_,rfl,_⟩⟩
  ·rfl
  ·rfl
  ·rfl
 | ptr b g r c=>
  rcases hv with⟨_,bl,o,rfl⟩ | ⟨_,bl,_,rfl⟩
  ·rfl
  ·rfl
 | _=>exact bH.one (show bH E.w E.PA E.PF _ v from hv) (by intro h;cases h)
theorem cN.Cp {E:Env} {a:AV} {v:Value} (h:ji a=true) (hv:cN E a v):v.oneCell'=true:=by
 by_cases hf: ∃f caps,a= .fn f caps
 ·obtain⟨f,caps,rfl⟩:=hf
  obtain⟨vs,rfl,aI⟩:=hv
  rfl
 ·have aU:ji a=vv a:=by cases a<;>first | rfl | exact absurd ⟨_,_,rfl⟩ hf
  rw[rF fun f c e=>hf ⟨f,c,e⟩] at hv
  exact hv.one (aU▸h)
theorem Step.setRow {E:Env} {H:List Blk} (aV:SimH E H) {bl:Nat} (hb:E.gS bl∨E.kJ bl) (ba:Array Value):Step E {E with w:=E.w.setRow bl ba}:=by
 have aF: ∀c,E.PA c→c≠bl:=fun c hc e=>by
  subst e
  exact hb.elim (aV.h7 _ hc) (aV.iw _ hc)
 have hk: ∀c,c≠bl→(E.w.setRow bl ba).heap[c]?=E.w.heap[c]?:=fun c hc=>setRow_other _ _ _ _ hc
 exact⟨⟨fun _ h=>h,fun _ h=>h,fun c hc=>hk c (aF c hc),fun c hc=>hk c (aF c (aV.e0 c hc)),fun _=>Nat.le_refl _,fun _ _ h _=>⟨h,rfl,rfl⟩,fun _ _ h=>h⟩,rfl,rfl,rfl,
  by simp,fun c _ h1 h2=>hk c (fun e=>by subst e;exact hb.elim h1 h2),fun _ _ h=> .inl h,fun _ h=> .inl h,fun _ h=> .inl h,fun _ h=> .inl h⟩
theorem DR {E:Env} {v:AV} {u:Value} (hv:V2 E v u) (hs:(fi v).all ji=true):aD (cN E) (fi v) u.cells.toList:=by
 by_cases hf: ∃l,v= .agg l
 ·obtain⟨l,rfl⟩:=hf
  obtain⟨vs,rfl,aI⟩:=hv
  exact aI
 ·have aU:fi v=[v]:=by cases v<;>first | rfl | exact absurd ⟨_,rfl⟩ hf
  rw[pu fun l e=>hf ⟨l,e⟩] at hv
  rw[aU] at hs ⊢
  have h1:u.oneCell'=true:=hv.Cp (by simpa using hs)
  have h2:u.cells= #[u]:=by cases u<;>first | rfl | cases h1
  rw[h2]
  exact aD.cons hv aD.nil
theorem Qc {P:Program} {t:TypeId} {w:World} {bl o:Nat} {ba:Array Value} {ty:TypeId} {u:Value} (hi:(P.info? t).isSome=true) (aO:u.cells.size=P.cellsOf t)
  (hw:w.heap[bl]?=some (.cells ba ty (0,0))) (aC:o+u.cells.size≤ba.size) (h1: ∀x∈u.cells.toList,x.oneCell'=true):
  (Instr.storeAt t (.pointer (some ⟨bl,o,none⟩)) u).run P w= .ok () (w.setRow bl (ba.toList.take o++u.cells.toList++ba.toList.drop (o+u.cells.toList.length)).toArray):=by
 have:=run_storeCells_at (P:=P) bl o ty u.cells.toList 0 ba w hw (by simpa using aC) h1
 simp only[Nat.add_zero] at this
 simp[Instr.storeAt,Instr.sureAddr,storeVar,run_sizeOf hi,aO,this]
theorem xM {α:Type} {l m:List α} {c:Nat} (hc:c+m.length≤l.length) (j:Nat):
  (l.take c++m++l.drop (c+m.length))[j]?=if j<c then l[j]? else if j<c+m.length then m[j - c]? else l[j]?:=by
 by_cases h1:j<c
 ·rw[if_pos h1,List.append_assoc,List.getElem?_append_left (by simp;omega),List.getElem?_take,if_pos h1]
 ·rw[if_neg h1]
  by_cases h2:j<c+m.length
  ·rw[if_pos h2,List.getElem?_append_left (by simp;omega),List.getElem?_append_right (by simp;omega)]
   congr 1;simp;omega
  ·rw[if_neg h2,List.getElem?_append_right (by simp;omega),List.getElem?_drop]
   congr 1;simp;omega
theorem aD.fl {α β:Type} {R:α→β→Prop} {l m:List α} {fq fB:List β} (h:aD R l fq) (k:aD R m fB) {c:Nat} (hc:c+m.length≤l.length):
  aD R (l.take c++m++l.drop (c+m.length)) (fq.take c++fB++fq.drop (c+fB.length)):=by
 have h1:=h.1
 have df:=k.1
 refine⟨by simp;omega,fun i a b a4 hb=> ?_⟩
 rw[xM hc] at a4
 rw[xM (by omega)] at hb
 rw[←df] at hb
 split at a4
 ·rename_i hi;rw[if_pos hi] at hb;exact h.2 i a b a4 hb
 ·rename_i hi;rw[if_neg hi] at hb
  split at a4
  ·rename_i aM;rw[if_pos aM] at hb;exact k.2 _ a b a4 hb
  ·rename_i aM;rw[if_neg aM] at hb;exact h.2 i a b a4 hb
theorem yD (L:List (Nat×List AV)) (t s:Nat) (d:List AV):eW (lg L t d) s=if s=t then(eW L t).map (fun _=>d) else eW L s:=by
 induction L with
 | nil=>simp[lg,eW]
 | cons x L bS=>
  obtain⟨k,c⟩:=x
  by_cases h1:t=k
  ·subst h1
   by_cases h2:s=t
   ·simp[lg,eW,h2]
   ·simp[lg,eW,h2]
  ·by_cases h2:s=k
   ·subst h2
    have: ¬s=t:=fun e=>h1 e.symm
    simp[lg,eW,h1,this]
   ·simp only[lg,if_neg h1,eW,if_neg h2,bS]
theorem af6 {P:Program} {t:TypeId} {x v:AV} {L:List (Nat×List AV)} {H:List Blk} {K:List (Nat×List AV)→List Blk→Prop} {E:Env} {iU mW:Value}
  (aV:SimH E H) (b3:SimL E L) (hx:V3 E x iU) (hv:V2 E v mW) (h:ml P t x v L H K):
  ∃L' H' E',K L' H'∧(Instr.storeAt t iU mW).run P E.w= .ok () E'.w∧Step E E'∧SimH E' H'∧SimL E' L'∧E'.mL=E.mL:=by
 unfold ml at h
 split at h
 case isFalse=>exact h.elim
 case isTrue hc=>
 obtain⟨hi,aO,hs⟩:=hc
 have wC:=DR hv hs
 have aF:aD (cN E.b_) (fi v) mW.cells.toList:=⟨wC.1,fun i a b a4 hb=>Ji (List.all_eq_true.1 hs a (List.mem_of_getElem? a4)) (wC.2 i a b a4 hb)⟩
 have h1: ∀y∈mW.cells.toList,y.oneCell'=true:=by
  intro y hy
  obtain⟨i,hi⟩:=List.mem_iff_getElem?.1 hy
  have wH:i<(fi v).length:=by rw[wC.1];exact(List.getElem?_eq_some_iff.1 hi).1
  exact(wC.2 i _ y (List.getElem?_eq_getElem wH) hi).Cp (List.all_eq_true.1 hs _ (List.getElem_mem wH))
 have cK:mW.cells.size=P.cellsOf t:=by rw[←aO,wC.1];simp
 have hlen:mW.cells.toList.length=(fi v).length:=wC.1.symm
 cases x with
 | fG s c=>
  obtain⟨bl,hm,rfl⟩:=hx.zo
  obtain⟨cells,ba,ty,hg,hw,aI⟩:=b3 s bl hm
  have h':c3 (eW L s) fun cells=>if c+(fi v).length≤cells.length then K (lg L s (fl cells c (fi v))) H else False:=h
  rw[hg] at h'
  have E0:if c+(fi v).length≤cells.length then K (lg L s (fl cells c (fi v))) H else False:=h'
  split at E0
  case isFalse=>exact E0.elim
  case isTrue hle=>
  have X0:cells.length=ba.size:=by rw[aI.1];simp
  have fV:=Qc (P:=P) (t:=t) (o:=c) hi cK hw (by rw[←X0];have:mW.cells.size=(fi v).length:=by rw[←hlen];simp
                                                omega) h1
  have g8:=Step.setRow aV (.inr ⟨s,hm⟩) (ba.toList.take c++mW.cells.toList++ba.toList.drop (c+mW.cells.toList.length)).toArray
  have cm: ∀b c',E.m b=some (some c')→c'≠bl:=fun b c' hb e=>by subst e;exact aV.gT b s c' hb hm
  refine⟨_,_,_,E0,fV,g8,?_,?_,rfl⟩
  ·exact{aV with
    heap:=fun b c' hb=>by
     obtain⟨blk,dF,jS,q1,dS,q2,q3,q4,cR,c4⟩:=aV.heap b c' hb
     refine⟨blk,dF,jS,q1,dS,?_,q3,q4,cR,fun i j row a aK aM=> ?_⟩
     ·show(E.w.setRow bl _).heap[c']?=_
      rw[setRow_other _ _ _ _ (cm b c' hb)];exact q2
     ·obtain⟨u,hu,fa⟩:=c4 i j row a aK aM
      exact⟨u,hu,fa.le g8.le.b_⟩
    fc:=fun c' hc=>by rw[show(E.w.setRow bl _).heap.size=_ from setRow_size _ _ _];exact aV.fc c' hc
    gB:=fun c' hc=>by rw[show(E.w.setRow bl _).heap.size=_ from setRow_size _ _ _];exact aV.gB c' hc
    g_:=fun c' hc=>by rw[show(E.w.setRow bl _).heap.size=_ from setRow_size _ _ _];exact aV.g_ c' hc}
  ·intro jR c' nD
   by_cases he:jR=s
   ·subst he
    obtain rfl:c'=bl:=by
     have:E.mL jR=some c':=nD
     rw[hm] at this;exact(Option.some.inj this).symm
    refine⟨fl cells c (fi v),_,ty,?_,setRow_heap _ _ _ _ _ _ hw,?_⟩
    ·rw[yD,if_pos rfl,hg];rfl
    ·have:=aD.fl (aI.mono fun _ _ k=>k.le g8.le.b_) (aF.mono fun _ _ k=>k.le g8.le.b_) hle
     simpa[fl] using this
   ·obtain⟨g3,dF,jS,q1,q2,q3⟩:=b3 jR c' nD
    have FB:c'≠bl:=fun e=>by subst e;exact he (aV.jK jR s c' nD hm)
    refine⟨g3,dF,jS,by rw[yD,if_neg he];exact q1,?_,q3.mono fun _ _ k=>k.le g8.le.b_⟩
    show(E.w.setRow bl _).heap[c']?=_
    rw[setRow_other _ _ _ _ FB];exact q2
 | ptr b g r c=>
  obtain⟨blk,hb,hg,h2⟩:=fC (show c3 H[b]? fun blk=>blk.bF=g∧c3 blk.rows[r]? fun row=>c+(fi v).length≤row.length∧K L (H.set b {blk with rows:=blk.rows.set r (fl row c (fi v))}) from h)
  obtain⟨row,eX,hle,hK⟩:=fC h2
  have kk:=aV.fg b blk hb
  obtain⟨bl,hm,rfl⟩:=hx.CC (kk.trans hg)
  obtain⟨blk',ba,ty,ek,m5,hw,mv,ol,gz⟩:=aV.heap b bl hm
  obtain rfl:blk=blk':=by rw[hb] at ek;exact Option.some.inj ek
  have lE:row.length=E.sz b:=gz.1 r row eX
  have ahj:r<blk.rows.length:=(List.getElem?_eq_some_iff.1 eX).1
  have XS:r*E.sz b+E.sz b≤ba.size:=by
   rw[mv];calc r*E.sz b+E.sz b=(r+1)*E.sz b:=by rw[Nat.add_mul,Nat.one_mul]
    _≤E.cp b*E.sz b:=Nat.mul_le_mul_right _ (by omega)
  have pR:mW.cells.size=(fi v).length:=by rw[←hlen];simp
  have fV:=Qc (P:=P) (t:=t) (o:=r*E.sz b+c) hi cK hw (by omega) h1
  have g8:=Step.setRow aV (.inl ⟨b,hm⟩) (ba.toList.take (r*E.sz b+c)++mW.cells.toList++ba.toList.drop (r*E.sz b+c+mW.cells.toList.length)).toArray
  have qG:b<H.length:=(List.getElem?_eq_some_iff.1 hb).1
  refine⟨_,_,_,hK,fV,g8,?_,?_,rfl⟩
  ·exact{aV with
    heap:=fun dk c' j0=>by
     by_cases he:dk=b
     ·subst he
      obtain rfl:c'=bl:=by
       have:E.m dk=some (some c'):=j0
       rw[hm] at this;exact(Option.some.inj (Option.some.inj this)).symm
      refine⟨{blk with rows:=blk.rows.set r (fl row c (fi v))},_,ty,by rw[List.getElem?_set_self qG],m5,setRow_heap _ _ _ _ _ _ hw,?_,by simpa using ol,?_,?_⟩
      ·simp;omega
      ·intro i row' fa
       rw[List.getElem?_set] at fa
       split at fa
       ·rename_i Fs
        cases fa
        simp[fl];omega
       ·exact gz.1 i row' fa
      ·intro i j row' a fa a4
       have nB: ∀k,(ba.toList.take (r*E.sz dk+c)++mW.cells.toList++ba.toList.drop (r*E.sz dk+c+mW.cells.toList.length)).toArray[k]?=if k<r*E.sz dk+c then ba.toList[k]? else if k<r*E.sz dk+c+mW.cells.toList.length then mW.cells.toList[k - (r*E.sz dk+c)]? else ba.toList[k]?:=by
        intro k
        rw[List.getElem?_toArray,xM (by simp;omega)]
       rw[List.getElem?_set] at fa
       split at fa
       ·rename_i Fs
        cases fa
        subst Fs
        have wR:=xM hle j
        unfold fl at a4
        rw[wR] at a4
        split at a4
        ·rename_i aM
         obtain⟨u,hu,g7⟩:=gz.2 r j row a eX a4
         refine⟨u,?_,g7.le g8.le.b_⟩
         show(List.toArray _)[r*E.sz dk+j]?=_
         rw[nB,if_pos (by omega)];simpa using hu
        ·rename_i aM
         split at a4
         ·rename_i y0
          obtain⟨u,hu,g7⟩:=aF.get a4
          refine⟨u,?_,g7.le g8.le.b_⟩
          show(List.toArray _)[r*E.sz dk+j]?=_
          rw[nB,if_neg (by omega),if_pos (by omega),show r*E.sz dk+j - (r*E.sz dk+c)=j - c by omega];exact hu
         ·rename_i y0
          obtain⟨u,hu,g7⟩:=gz.2 r j row a eX a4
          refine⟨u,?_,g7.le g8.le.b_⟩
          show(List.toArray _)[r*E.sz dk+j]?=_
          rw[nB,if_neg (by omega),if_neg (by omega)];simpa using hu
       ·rename_i Fs
        have oY:j<E.sz dk:=by rw[←gz.1 i row' fa];exact(List.getElem?_eq_some_iff.1 a4).1
        obtain⟨u,hu,g7⟩:=gz.2 i j row' a fa a4
        refine⟨u,?_,g7.le g8.le.b_⟩
        show(List.toArray _)[i*E.sz dk+j]?=_
        rw[nB]
        rcases Nat.lt_or_ge i r with bf | fT
        ·have:i*E.sz dk+E.sz dk≤r*E.sz dk:=by
          calc i*E.sz dk+E.sz dk=(i+1)*E.sz dk:=by rw[Nat.add_mul,Nat.one_mul]
           _≤r*E.sz dk:=Nat.mul_le_mul_right _ (by omega)
         rw[if_pos (by omega)];simpa using hu
        ·have:r*E.sz dk+E.sz dk≤i*E.sz dk:=by
          calc r*E.sz dk+E.sz dk=(r+1)*E.sz dk:=by rw[Nat.add_mul,Nat.one_mul]
           _≤i*E.sz dk:=Nat.mul_le_mul_right _ (by omega)
         rw[if_neg (by omega),if_neg (by omega)];simpa using hu
     ·obtain⟨yl,D1,ty2,q1,dS,q2,q3,q4,cR,c4⟩:=aV.heap dk c' j0
      have cm:c'≠bl:=fun e=>by subst e;exact he (aV.h6 dk b c' j0 hm)
      refine⟨yl,D1,ty2,by rw[List.getElem?_set_ne (fun e=>he e.symm)];exact q1,dS,?_,q3,q4,cR,fun i j row a aK aM=> ?_⟩
      ·show(E.w.setRow bl _).heap[c']?=_
       rw[setRow_other _ _ _ _ cm];exact q2
      ·obtain⟨u,hu,fa⟩:=c4 i j row a aK aM
       exact⟨u,hu,fa.le g8.le.b_⟩
    fg:=fun dk yl j0=>by
     by_cases he:b=dk
     ·subst he
      rw[List.getElem?_set_self qG] at j0
      cases j0
      exact aV.fg b blk hb
     ·rw[List.getElem?_set_ne he] at j0
      exact aV.fg dk yl j0
    hE:=fun dk j0=>by
     obtain⟨yl,q,jN⟩:=aV.hE dk j0
     by_cases he:b=dk
     ·subst he
      rw[hm] at j0;cases j0
     ·exact⟨yl,by rw[List.getElem?_set_ne he];exact q,jN⟩
    fresh:=fun dk j0=>aV.fresh dk (by simpa using j0)
    fc:=fun c' hc=>by rw[show(E.w.setRow bl _).heap.size=_ from setRow_size _ _ _];exact aV.fc c' hc
    gB:=fun c' hc=>by rw[show(E.w.setRow bl _).heap.size=_ from setRow_size _ _ _];exact aV.gB c' hc
    g_:=fun c' hc=>by rw[show(E.w.setRow bl _).heap.size=_ from setRow_size _ _ _];exact aV.g_ c' hc}
  ·intro jR c' nD
   obtain⟨g3,dF,jS,q1,q2,q3⟩:=b3 jR c' nD
   have FB:c'≠bl:=fun e=>by subst e;exact aV.gT b jR c' hm nD
   refine⟨g3,dF,jS,q1,?_,q3.mono fun _ _ k=>k.le g8.le.b_⟩
   show(E.w.setRow bl _).heap[c']?=_
   rw[setRow_other _ _ _ _ FB];exact q2
 | _=>exact h.elim
structure lW (E E':Env):Prop where
 step:Step E E'
 m:E'.m=E.m
 mL:E'.mL=E.mL
 bF:E'.bF=E.bF
 sz:E'.sz=E.sz
 cp:E'.cp=E.cp
 fh: ∀c,c<E.w.heap.size→E'.w.heap[c]?=E.w.heap[c]?
 fL: ∀c,E'.PA c→E.PA c∨(E.w.heap.size≤c∧c<E'.w.heap.size)
 e0: ∀c,E'.PF c→E'.PA c
theorem lW.refl {E:Env} {H:List Blk} (h:SimH E H):lW E E:=⟨.refl E,rfl,rfl,rfl,rfl,rfl,fun _ _=>rfl,fun _ h=> .inl h,h.e0⟩
theorem lW.simH {E E':Env} {H:List Blk} (q:lW E E') (h:SimH E H):SimH E' H where
 heap:=fun b c hb=>by
  rw[q.m] at hb
  obtain⟨blk,ba,ty,q1,dS,q2,q3,q4,cR,c4⟩:=h.heap b c hb
  refine⟨blk,ba,ty,q1,by rw[q.sz];exact dS,?_,by rw[q.cp,q.sz];exact q3,by rw[q.cp];exact q4,by rw[q.sz];exact cR,fun i j row a aK aM=> ?_⟩
  ·rw[q.fh c (h.gB c ⟨b,hb⟩)];exact q2
  ·obtain⟨u,hu,fa⟩:=c4 i j row a aK aM
   exact⟨u,by rw[q.sz];exact hu,fa.le q.step.le.b_⟩
 fg:=by rw[q.bF];exact h.fg
 hE:=by rw[q.m,q.sz];exact h.hE
 fresh:=by rw[q.m,q.bF];exact h.fresh
 h6:=by rw[q.m];exact h.h6
 jK:=by rw[q.mL];exact h.jK
 gT:=by rw[q.m,q.mL];exact h.gT
 h7:=fun c hc ⟨b,hb⟩=>by
  rw[q.m] at hb
  rcases q.fL c hc with hc | ⟨hc,_⟩
  ·exact h.h7 c hc ⟨b,hb⟩
  ·have:=h.gB c ⟨b,hb⟩;omega
 iw:=fun c hc ⟨b,hb⟩=>by
  rw[q.mL] at hb
  rcases q.fL c hc with hc | ⟨hc,_⟩
  ·exact h.iw c hc ⟨b,hb⟩
  ·have:=h.g_ c ⟨b,hb⟩;omega
 e0:=q.e0
 fc:=fun c hc=>by
  rcases q.fL c hc with hc | ⟨_,hc⟩
  ·exact Nat.lt_of_lt_of_le (h.fc c hc) q.step.size
  ·exact hc
 gB:=fun c ⟨b,hb⟩=>by rw[q.m] at hb;exact Nat.lt_of_lt_of_le (h.gB c ⟨b,hb⟩) q.step.size
 g_:=fun c ⟨b,hb⟩=>by rw[q.mL] at hb;exact Nat.lt_of_lt_of_le (h.g_ c ⟨b,hb⟩) q.step.size
theorem lW.simL {E E':Env} {H:List Blk} {L:List (Nat×List AV)} (q:lW E E') (h:SimH E H) (l:SimL E L):SimL E' L:=fun t c hm=>by
 rw[q.mL] at hm
 obtain⟨cells,ba,ty,q1,q2,q3⟩:=l t c hm
 exact⟨cells,ba,ty,q1,by rw[q.fh c (h.g_ c ⟨t,hm⟩)];exact q2,q3.mono fun _ _ k=>k.le q.step.le.b_⟩
def AI (op:BinOp) (k:IntKind) (a b:Int) (K:AV→Prop):Prop:=match op with
 | .add=>K (.int k (k.wrap (a+b)))
 | .sub=>K (.int k (k.wrap (a - b)))
 | .mul=>K (.int k (k.wrap (a*b)))
 | .quo=>b≠0∧K (.int k (k.wrap (a.tdiv b)))
 | .rem=>b≠0∧K (.int k (a.tmod b))
 | .and=>K (.int k (k.wrap (BitVec.ofInt k.bits a&&&BitVec.ofInt k.bits b).toNat))
 | .eql=>K (.bool (a==b))
 | .neq=>K (.bool (a !=b))
 | .lss=>K (.bool (decide (a<b)))
 | .leq=>K (.bool (decide (a≤b)))
 | .gtr=>K (.bool (decide (a>b)))
 | .geq=>K (.bool (decide (a ≥ b)))
 | _=>False
def two (P:Program) (t:TypeId):Bool:=
 match P.underlying t with
 | some (.struct fy)=> !P.stoodInHeld t&& !P.eqGuardType P.depth t&&(match fy.toList with
  | [f,g]=>f.name != "_" &&g.name != "_" &&f.offset==0&&g.offset==1&&(P.underlying f.type matches some (.int .i64))&&(P.underlying g.type matches some (.int .i64))
  | _=>false)
 | _=>false
def AJ (op:BinOp) (k:IntKind) (a:Int) (kK:IntKind) (b:Int) (K:AV→Prop):Prop:=match op with
 | .shl=>0≤b∧K (.int k (k.wrap (a*2 ^ (min b.toNat k.bits))))
 | .shr=>0≤b∧K (.int k (a.fdiv (2 ^ (min b.toNat k.bits))))
 | op=>if k=kK then AI op k a b K else False
def NS (P:Program) (t:TypeId):Bool:=match P.underlying t with
 | some .bool=>true
 | _=>false
def DE (P:Program) (op:BinOp) (t:TypeId) (a b:Bool) (K:AV→Prop):Prop:=if NS P t=true then(match op with
  | .eql=>K (.bool (a==b))
  | .neq=>K (.bool (a !=b))
  | _=>False) else False
def DG (op:BinOp) (a b:ByteArray) (K:AV→Prop):Prop:=match op with
  | .add=>a.size+b.size≤9223372036854775807∧K (.str (a++b))
  | .eql=>K (.bool (a.toList==b.toList))
  | .neq=>K (.bool (!(a.toList==b.toList)))
  | _=>False
def DH (op:BinOp) (a b c d:Int) (K:AV→Prop):Prop:=match op with
  | .eql=>K (.bool (a==c&&b==d))
  | .neq=>K (.bool (!(a==c&&b==d)))
  | _=>False
def xU:List AV→Option (Int×Int)
 | [.int .i64 a,.int .i64 b]=>some (a,b)
 | _=>none
def jp (P:Program) (t:TypeId):Option TypeId:=match P.underlying t with
 | some (.slice e)=>some e
 | _=>none
def qW:Operand→Bool
 | .const (.slice none 0 0)=>true
 | _=>false
def DF (P:Program) (op:BinOp) (t:TypeId) (rows:List (List AV)) (sy:Bool) (K:AV→Prop):Prop:=
 if sy=true∧(jp P t).isSome=true then(match op with
  | .eql=>(rows≠[]→K (.bool false))∧(rows=[]→ ∀b,K (.bool b))
  | _=>False) else False
def sI (P:Program) (op:BinOp) (t:TypeId) (x y:AV) (sy:Bool) (K:AV→Prop):Prop:=match x with
 | .int k a=>(match y with
  | .int kK b=>AJ op k a kK b K
  | _=>False)
 | .bool a=>(match y with
  | .bool b=>DE P op t a b K
  | _=>False)
 | .str a=>(match y with
  | .str b=>DG op a b K
  | _=>False)
 | .agg l=>(match y with
  | .agg m=>if two P t=true then c3 (xU l) fun p=>c3 (xU m) fun q=>DH op p.1 p.2 q.1 q.2 K else False
  | _=>False)
 | .bD rows _ _=>DF P op t rows sy K
 | _=>False
theorem Eo {op:BinOp} {t:TypeId} {x y:Operand} {k kK:IntKind} {a b:Int} {P:Program} {w:World}:(eqGuard op t x y (.int k a) (.int kK b)).run P w= .ok () w:=by
 unfold eqGuard;cases op<;>rfl
theorem KL {op:BinOp} {t:TypeId} {x y:Operand} {a b:Bool} {P:Program} {w:World}:(eqGuard op t x y (.bool a) (.bool b)).run P w= .ok () w:=by
 unfold eqGuard;cases op<;>rfl
theorem Ep {op:BinOp} {t:TypeId} {x y:Operand} {a b:ByteArray} {P:Program} {w:World}:(eqGuard op t x y (.string a) (.string b)).run P w= .ok () w:=by
 unfold eqGuard;cases op<;>rfl
theorem Vp {op:BinOp} {t:TypeId} {x y:Operand} {A B:Option Addr} {n m c d:Nat} {P:Program} {w:World}:(eqGuard op t x y (.slice A n c) (.slice B m d)).run P w= .ok () w:=by
 unfold eqGuard;cases op<;>rfl
theorem KK {op:BinOp} {t:TypeId} {x y:Operand} {A B:Array Value} {P:Program} {w:World} (h:P.eqGuardType P.depth t=false):(eqGuard op t x y (.agg A) (.agg B)).run P w= .ok () w:=by
 unfold eqGuard;cases op<;>first | rfl | simp[h]
theorem ac5 {P:Program} {w:World} {op:BinOp} {t:TypeId} {k:IntKind} {a b:Int} {K:AV→Prop} (h:AI op k a b K):
  ∃r u,K r∧(binOp op t (.int k a) (.int k b)).run P w= .ok u w∧ ∀E:Env,V3 E r u:=by
 cases op<;>simp only[AI] at h
 case add=>exact⟨_,_,h,by simp[binOp,Op.intArith],fun E=>bH.int _ _⟩
 case sub=>exact⟨_,_,h,by simp[binOp,Op.intArith],fun E=>bH.int _ _⟩
 case mul=>exact⟨_,_,h,by simp[binOp,Op.intArith],fun E=>bH.int _ _⟩
 case quo=>exact⟨_,_,h.2,by simp[binOp,Op.intDiv,h.1],fun E=>bH.int _ _⟩
 case rem=>exact⟨_,_,h.2,by simp[binOp,Op.intDiv,h.1],fun E=>bH.int _ _⟩
 case and=>exact⟨_,_,h,by simp[binOp,Op.intBits],fun E=>bH.int _ _⟩
 case eql=>exact⟨_,_,h,by simp[binOp,Op.intCmp],fun E=>bH.bool _⟩
 case neq=>exact⟨_,_,h,by simp[binOp,Op.intCmp],fun E=>bH.bool _⟩
 case lss=>exact⟨_,_,h,by simp[binOp,Op.intCmp],fun E=>bH.bool _⟩
 case leq=>exact⟨_,_,h,by simp[binOp,Op.intCmp],fun E=>bH.bool _⟩
 case gtr=>exact⟨_,_,h,by simp[binOp,Op.intCmp],fun E=>bH.bool _⟩
 case geq=>exact⟨_,_,h,by simp[binOp,Op.intCmp],fun E=>bH.bool _⟩
theorem S5 {P:Program} {t:TypeId} (h:two P t=true): ∃f g:Field,P.underlying t=some (.struct (P.fieldsOf t))∧(P.fieldsOf t).toList=[f,g]∧P.stoodInHeld t=false∧P.eqGuardType P.depth t=false∧
  f.name≠ "_" ∧g.name≠ "_" ∧f.offset=0∧g.offset=1∧P.underlying f.type=some (.int .i64)∧P.underlying g.type=some (.int .i64):=by
 unfold two at h
 split at h
 ·rename_i fy oq
  have hf:P.fieldsOf t=fy:=by simp[Program.fieldsOf,oq]
  simp only[Bool.and_eq_true,Bool.not_eq_true'] at h
  obtain⟨⟨h1,h2⟩,aP⟩:=h
  split at aP
  ·rename_i f g aL
   simp only[Bool.and_eq_true,bne_iff_ne,ne_eq,beq_iff_eq] at aP
   obtain⟨⟨⟨⟨⟨q1,q2⟩,q3⟩,q4⟩,cR⟩,c4⟩:=aP
   refine⟨f,g,by rw[hf];exact oq,by rw[hf];exact aL,h1,h2,q1,q2,q3,q4,?_,?_⟩
   ·split at cR
    ·assumption
    ·cases cR
   ·split at c4
    ·assumption
    ·cases c4
  ·cases aP
 ·cases h
theorem Qd {P:Program} {t:TypeId} (h:two P t=true) (a b c d:Int) (w:World):
  (Op.equal t (.agg #[.int .i64 a,.int .i64 b]) (.agg #[.int .i64 c,.int .i64 d])).run P w= .ok (a==c&&b==d) w:=by
 obtain⟨f,g,h1,h2,aP,a8,cs,cT,gk,oh,uf,yF⟩:=S5 h
 show(Op.equalIn (9999+1) t _ _).run P w=_
 rw[run_equalIn_struct w 9999 t _ _ h1 aP,h2]
 have fM: ∀(hI:TypeId) (ba:Array Value) (o:Nat) (u:Value),P.underlying hI=some (.int .i64)→ba[o]?=some u→(part hI ba o).run P w= .ok u w:=by
  intro hI ba o u hu hc
  simp[part,Go.isAgg,run_underlying hu,hc]
 simp only[Op.eqFields,if_pos cs,if_pos cT,gk,oh,Sem.run_bind]
 rw[fM f.type #[.int .i64 a,.int .i64 b] 0 (.int .i64 a) uf rfl]
 simp only[Result.andThen_ok]
 rw[fM f.type #[.int .i64 c,.int .i64 d] 0 (.int .i64 c) uf rfl]
 simp only[Result.andThen_ok]
 rw[show(9999:Nat)=9998+1 from rfl,run_equalIn_int w 9998 f.type .i64 .i64 a c uf]
 simp only[Result.andThen_ok]
 cases ahb:(a==c)
 ·simp
 ·simp only[Bool.not_true,Bool.false_eq_true,if_false,Sem.run_bind]
  rw[fM g.type #[.int .i64 a,.int .i64 b] 1 (.int .i64 b) yF rfl]
  simp only[Result.andThen_ok]
  rw[fM g.type #[.int .i64 c,.int .i64 d] 1 (.int .i64 d) yF rfl]
  simp only[Result.andThen_ok]
  rw[run_equalIn_int w 9998 g.type .i64 .i64 b d yF]
  cases ahc:(b==d)<;>simp
theorem V3.S4 {E:Env} {a b:Int} {v:Value} (h:V3 E (.agg [.int .i64 a,.int .i64 b]) v):v= .agg #[.int .i64 a,.int .i64 b]:=by
 obtain⟨vs,rfl,aI⟩:=(h:V2 E (.agg [.int .i64 a,.int .i64 b]) v)
 obtain⟨x,vs,rfl,hx,aI⟩:=aI.cons_inv
 obtain⟨y,vs,rfl,hy,aI⟩:=aI.cons_inv
 obtain rfl:=aI.xa
 have jI:bH E.w E.PA E.PF (.int .i64 a) x:=hx
 have Zd:bH E.w E.PA E.PF (.int .i64 b) y:=hy
 cases jI;cases Zd;rfl
theorem S3 {l:List AV} {p:Int×Int} (h:xU l=some p):l=[.int .i64 p.1,.int .i64 p.2]:=by
 unfold xU at h
 split at h
 ·cases h;rfl
 ·cases h
theorem sO {P:Program} {t e:TypeId} (h:jp P t=some e):P.underlying t=some (.slice e):=by
 unfold jp at h
 split at h
 ·cases h;assumption
 ·cases h
theorem T7 {P:Program} {op:BinOp} {t:TypeId} {X Y:Operand} {JD x3:AV} {iU Dm:Value} {E:Env} {K:AV→Prop}
  {sy:Bool} (hx:V3 E JD iU) (hy:V3 E x3 Dm) (FQ:sy=true→Dm= .slice none 0 0) (h:sI P op t JD x3 sy K):
  ∃r u,K r∧(do eqGuard op t X Y iU Dm;binOp op t iU Dm:Sem Value).run P E.w= .ok u E.w∧V3 E r u:=by
 cases JD with
 | int k a=>
  cases x3 with
  | int kK b=>
   replace h:AJ op k a kK b K:=h
   obtain rfl:=hx.r8
   obtain rfl:=hy.r8
   cases op
   case shl=>
    obtain⟨hb,h⟩:=h
    have ek: ¬b<0:=by omega
    exact⟨_,_,h,by simp[Eo,binOp,Op.shift,ek],bH.int _ _⟩
   case shr=>
    obtain⟨hb,h⟩:=h
    have ek: ¬b<0:=by omega
    exact⟨_,_,h,by simp[Eo,binOp,Op.shift,ek],bH.int _ _⟩
   all_goals
    simp only[AJ] at h
    split at h
    ·rename_i hk
     subst hk
     obtain⟨r,u,hK,aK,hv⟩:=ac5 (P:=P) (w:=E.w) (t:=t) h
     exact⟨r,u,hK,by simp only[Sem.run_bind,Eo,Result.andThen_ok,aK],hv E⟩
    ·exact h.elim
  | _=>exact h.elim
 | bool a=>
  cases x3 with
  | bool b=>
   replace h:DE P op t a b K:=h
   obtain rfl:=hx.rI
   obtain rfl:=hy.rI
   unfold DE at h
   split at h
   ·rename_i hu
    have nF:P.underlying t=some .bool:=by
     unfold NS at hu
     split at hu
     ·assumption
     ·cases hu
    cases op<;>first | exact h.elim | skip
    case eql=>exact⟨_,_,h,by simp only[Sem.run_bind,KL,Result.andThen_ok,binOp,Op.equal];rw[show Op.maxDepth=9999+1 from rfl,run_equalIn_bool' E.w 9999 t a b nF];rfl,bH.bool _⟩
    case neq=>exact⟨_,_,h,by simp only[Sem.run_bind,KL,Result.andThen_ok,binOp,Op.equal];rw[show Op.maxDepth=9999+1 from rfl,run_equalIn_bool' E.w 9999 t a b nF];rfl,bH.bool _⟩
   ·exact h.elim
  | _=>exact h.elim
 | str a=>
  cases x3 with
  | str b=>
   replace h:DG op a b K:=h
   obtain rfl:=hx.xO
   obtain rfl:=hy.xO
   cases op<;>first | exact h.elim | skip
   case add=>
    obtain⟨aL,h⟩:=h
    have: ¬((a.size+b.size:Nat):Int)>IntKind.i64.max:=by
     have:IntKind.i64.max=9223372036854775807:=by decide
     rw[this];omega
    exact⟨_,_,h,by simp only[Sem.run_bind,Ep,Result.andThen_ok,binOp,Op.stringOp];rw[if_neg this];rfl,bH.str _⟩
   case eql=>exact⟨_,_,h,by simp only[Sem.run_bind,Ep,Result.andThen_ok,binOp,Op.stringOp];rfl,bH.bool _⟩
   case neq=>exact⟨_,_,h,by simp only[Sem.run_bind,Ep,Result.andThen_ok,binOp,Op.stringOp];rfl,bH.bool _⟩
  | _=>exact h.elim
 | agg l=>
  cases x3 with
  | agg m=>
   replace h:if two P t=true then c3 (xU l) fun p=>c3 (xU m) fun q=>DH op p.1 p.2 q.1 q.2 K else False:=h
   split at h
   ·rename_i bu
    obtain⟨⟨a,b⟩,aI,h⟩:=fC h
    obtain⟨⟨c,d⟩,aj,h⟩:=fC h
    obtain rfl:=S3 aI
    obtain rfl:=S3 aj
    obtain rfl:=hx.S4
    obtain rfl:=hy.S4
    obtain⟨f,g,h1,h2,aP,a8,_⟩:=S5 bu
    cases op<;>first | exact h.elim | skip
    case eql=>exact⟨_,_,h,by simp only[Sem.run_bind,KK a8,Result.andThen_ok,binOp,Qd bu];rfl,bH.bool _⟩
    case neq=>exact⟨_,_,h,by simp only[Sem.run_bind,KK a8,Result.andThen_ok,binOp,Qd bu];rfl,bH.bool _⟩
   ·exact h.elim
  | _=>exact h.elim
 | bD rows eD fr=>
  replace h:DF P op t rows sy K:=h
  unfold DF at h
  split at h
  ·rename_i hc
   obtain⟨aF,he⟩:=hc
   obtain⟨e,he⟩:=Option.isSome_iff_exists.1 he
   have hu:=sO he
   obtain rfl:=FQ aF
   have jI:bH E.w E.PA E.PF (.bD rows eD fr) iU:=hx
   cases jI with
   | @bD _ _ _ _ _ _ A cap sz vs gl gQ hC cK fj ec=>
   have fV:(do eqGuard op t X Y (.slice A rows.length cap) (.slice none 0 0);binOp .eql t (.slice A rows.length cap) (.slice none 0 0):Sem Value).run P E.w= .ok (.bool A.isNone) E.w:=by
    simp only[Sem.run_bind,Vp,Result.andThen_ok,binOp,Op.equal]
    rw[show Op.maxDepth=9999+1 from rfl]
    generalize 9999=d
    simp only[Op.equalIn,Sem.run_bind,run_underlying hu,Result.andThen_ok]
    cases A<;>rfl
   cases op<;>first | exact h.elim | skip
   case eql=>
    obtain⟨h1,h2⟩:=h
    by_cases aK:rows=[]
    ·exact⟨_,_,h2 aK A.isNone,fV,bH.bool _⟩
    ·have:0<rows.length:=by cases rows<;>simp_all
     obtain⟨c,o,rfl,_⟩:=fj this
     exact⟨_,_,h1 aK,fV,bH.bool _⟩
  ·exact h.elim
 | _=>exact h.elim
theorem Lg (off:Nat): ∀(l:List Value) (k:Nat) (cells:Array Value),off+k+l.length≤cells.size→
  (((l.zipIdx k).foldl (fun ba (x:Value×Nat)=>ba.setIfInBounds (off+x.2) x.1) cells).size=cells.size∧
  ∀i,((l.zipIdx k).foldl (fun ba (x:Value×Nat)=>ba.setIfInBounds (off+x.2) x.1) cells)[i]?=if i<off+k then cells[i]? else if i<off+k+l.length then l[i - (off+k)]? else cells[i]?)
 | [],k,cells,_=>⟨rfl,fun i=>by simp;omega⟩
 | v::l,k,cells,h=>by
  have h':off+(k+1)+l.length≤(cells.setIfInBounds (off+k) v).size:=by simp at h ⊢;omega
  obtain⟨h1,h2⟩:=Lg off l (k+1) (cells.setIfInBounds (off+k) v) h'
  refine⟨by simp only[List.zipIdx_cons,List.foldl_cons];rw[h1];simp,fun i=> ?_⟩
  simp only[List.zipIdx_cons,List.foldl_cons]
  rw[h2 i]
  simp only[Array.getElem?_setIfInBounds,List.length_cons] at*
  by_cases M:i<off+k
  ·rw[if_pos (by omega),if_neg (by omega),if_pos M]
  ·by_cases U:i=off+k
   ·subst U
    rw[if_pos (by omega),if_pos rfl,if_pos (by omega),if_neg (by omega),if_pos (by omega)]
    simp
   ·by_cases c9:i<off+(k+1)+l.length
    ·rw[if_neg (by omega),if_pos c9,if_neg M,if_pos (by omega),show i - (off+k)=(i - (off+(k+1)))+1 by omega]
     simp
    ·rw[if_neg (by omega),if_neg c9,if_neg (by omega),if_neg M,if_neg (by omega)]
def pB (pl:Nat→Option (Nat×Nat)) (cells:List AV):List (Nat×AV)→Option (List AV)
 | []=>some cells
 | (i,v)::rest=>match pl i with
  | none=>none
  | some (off,size)=>if(fi v).length=size∧off+(fi v).length≤cells.length∧(fi v).all ji=true then pB pl (fl cells off (fi v)) rest else none
theorem Be {E:Env} {pl:Nat→Option (Nat×Nat)}: ∀{parts:List (Nat×AV)} {ky:List (Nat×Value)} {cells:List AV} {tH:Array Value} {r:List AV},
  aD (fun a b=>a.1=b.1∧V2 E a.2 b.2) parts ky→aD (cN E.b_) cells tH.toList→pB pl cells parts=some r→ ∃hT,Instr.fill pl tH ky=some hT∧aD (cN E.b_) r hT.toList
 | [],ky,cells,tH,r,aI,hc,h=>by
  obtain rfl:=aI.xa
  cases h
  exact⟨tH,rfl,hc⟩
 | (i,v)::rest,ky,cells,tH,r,aI,hc,h=>by
  obtain⟨⟨jb,u⟩,ahs,rfl,⟨hi,hv⟩,s5⟩:=aI.cons_inv
  simp only at hi hv
  subst hi
  unfold pB at h
  split at h
  ·cases h
  ·rename_i off size ja
   split at h
   ·rename_i oX
    obtain⟨h1,h2,aP⟩:=oX
    have uo:=DR hv aP
    have XY:aD (cN E.b_) (fi v) u.cells.toList:=⟨uo.1,fun i a b a4 hb=>Ji (List.all_eq_true.1 aP a (List.mem_of_getElem? a4)) (uo.2 i a b a4 hb)⟩
    have cK:u.cells.size=(fi v).length:=by rw[uo.1];simp
    have ol:cells.length=tH.size:=by rw[hc.1];simp
    obtain⟨f1,f2⟩:=Lg off u.cells.toList 0 tH (by simp;omega)
    simp only[Nat.add_zero] at f1 f2
    have rY:aD (cN E.b_) (fl cells off (fi v)) ((u.cells.toList.zipIdx).foldl (fun ba (x:Value×Nat)=>ba.setIfInBounds (off+x.2) x.1) tH).toList:=by
     have hs:=aD.fl hc XY h2
     refine⟨?_,fun k a b a4 hb=> ?_⟩
     ·simp only[Array.length_toList];rw[f1];simp[fl];omega
     ·refine hs.2 k a b a4 ?_
      rw[xM (by simp;omega)]
      rw[Array.getElem?_toList,f2 k] at hb
      simpa using hb
    obtain⟨hT,aK,ec⟩:=Be s5 rY h
    refine⟨hT,?_,ec⟩
    unfold Instr.fill
    rw[ja]
    simp only
    rw[if_neg (by simp;omega)]
    rw[←Array.foldl_toList,Array.toList_zipIdx]
    exact aK
   ·cases h
def nq (P:Program) (t:TypeId):Option (List AV):=((P.info? t).bind (·.zero)).map fun z=>z.cells.toList.map oT
theorem UY (E:Env) (v:Value):cN E (oT v) v:=by
 unfold oT
 split
 ·exact bH.int _ _
 ·exact bH.bool _
 ·exact bH.str _
 ·exact bH.bD (PB:=fun _=>False) (sz:=0) (vs:=fun _ _=>undef) (fun _ h=>h.elim) ⟨Nat.le_refl _,Nat.zero_le _⟩ (fun _=>rfl) (fun i row h=>by simp at h) (fun h=>by simp at h) (fun i j row a h=>by simp at h)
 ·exact bH.gf
 ·exact bH.gC
 ·exact bH.undef _
theorem vI {E:Env} {P:Program} {t:TypeId} {z:List AV} (h:nq P t=some z): ∃i v,P.info? t=some i∧i.zero=some v∧z=v.cells.toList.map oT∧aD (cN E) z v.cells.toList:=by
 unfold nq at h
 cases hi:P.info? t with
 | none=>simp[hi] at h
 | some i=>
  cases aO:i.zero with
  | none=>simp[hi,aO] at h
  | some v=>
   simp[hi,aO] at h
   subst h
   refine⟨i,v,rfl,aO,rfl,by simp,fun k a b a4 hb=> ?_⟩
   rw[List.getElem?_map,hb] at a4
   simp at a4;subst a4;exact UY E b
def Hs (P:Program) (t:TypeId):Option (List (Nat×Nat)):=match P.underlying t with
 | some (.struct fy)=>fy.toList.mapM (fun f=>(P.info? f.type).map fun i=>(f.offset,i.size))
 | _=>none
def DK (P:Program) (t:TypeId) (parts:List (Nat×AV)) (K:AV→Prop):Prop:=
 c3 (nq P t) fun z=>c3 (Hs P t) fun pl=>c3 (pB (fun i=>pl[i]?) z parts) fun cells=>K (.agg cells)
theorem Ug {P:Program} {E:Env} {t:TypeId} {parts:List (Nat×AV)} {ky:List (Nat×Value)} {K:AV→Prop} (aI:aD (fun a b=>a.1=b.1∧V2 E a.2 b.2) parts ky) (h:DK P t parts K):
  ∃r u,K r∧(Instr.build t ky.toArray).run P E.w= .ok u E.w∧V3 E r u:=by
 obtain⟨z,aO,h⟩:=fC h
 obtain⟨pl,ja,h⟩:=fC h
 obtain⟨cells,hf,h⟩:=fC h
 obtain⟨i,v,h1,h2,aP,a8⟩:=vI (E:=E.b_) aO
 obtain⟨hT,aK,ec⟩:=Be aI a8 hf
 refine⟨_,.agg hT,h,run_build E.w t ky.toArray hT ?_,hT.toList,by simp,ec.mono fun _ _ k=>k.up⟩
 unfold Hs at ja
 split at ja
 ·rename_i fy oq
  unfold Program.built
  rw[h1,oq]
  simp only[h2,ja]
  simpa using aK
 ·cases ja
def jD:AV→Bool
 | .int _ _ | .bool _ | .str _ | .bD _ _ _ | .gf | .gC=>true
 | _=>false
def od:AV→Bool
 | .bD _ _ fr=>fr
 | _=>true
def kw:AV→AV
 | .bD rows _ _=> .bD rows false false
 | a=>a
def pc:AV→AV
 | .bD rows full _=> .bD rows full true
 | a=>a
theorem acS {w:World} {PB PA PF:Nat→Prop} {a:AV} {v:Value} (h:bH w PB (fun _=>False) a v) (hb: ∀c,PB c→PF c) (FC: ∀c,PF c→PA c):bH w PA PF (pc a) v:=by
 have key:(∀rows full fr,a≠ .bD rows full fr)→bH w PA PF (pc a) v:=fun cm=>by
  have e:pc a=a:=by cases a<;>first | rfl | exact absurd rfl (cm _ _ _)
  rw[e]
  exact h.mono (fun _ _=>rfl) (fun _ h=>h.elim) (fun c hc=>FC c (hb c hc)) (fun _ h=>h.elim)
 cases a with
 | bD rows full fr=>
  cases h with
  | bD gl gQ hC cK fj ec=>
   exact .bD (fun c hc=>by
    have:=gl c hc
    rw[if_pos rfl]
    split at this
    ·exact this.elim
    ·exact hb c this) gQ hC cK fj ec
 | _=>exact key (fun _ _ _ e=>by cases e)
theorem Jx {w:World} {PA PF PB:Nat→Prop} {a:AV} {v:Value} (a4:jD a=true) (h:bH w PA PF a v) (hb: ∀c,PA c→PB c) (FC: ∀c,PF c→PA c):bH w PB (fun _=>False) (kw a) v:=by
 cases h with
 | undef=>cases a4
 | int=>exact .int _ _
 | bool=>exact .bool _
 | str=>exact .str _
 | bD gl gQ hC cK fj ec=>
  exact .bD (fun c hc=>by
   have:=gl c hc
   simp only[Bool.false_eq_true,if_false]
   split at this
   ·exact hb c (FC c this)
   ·exact hb c this) gQ (fun h=>by cases h) cK fj ec
 | dA=>cases a4
 | gf=>exact .gf
 | gC=>exact .gC
 | fn=>cases a4
theorem S7 {w:World} {PA PF:Nat→Prop} {a:AV} {v:Value} (a4:jD a=true) (hf:od a=true) (h:bH w PA PF a v):bH w PF (fun _=>False) (kw a) v:=by
 cases h with
 | undef=>cases a4
 | int=>exact .int _ _
 | bool=>exact .bool _
 | str=>exact .str _
 | @bD _ _ PB rows full fresh A cap sz vs gl gQ hC cK fj ec=>
  have sX:fresh=true:=hf
  subst sX
  exact .bD (fun c hc=>by simpa using gl c hc) gQ (fun h=>by cases h) cK fj ec
 | dA=>cases a4
 | gf=>exact .gf
 | gC=>exact .gC
 | fn=>cases a4
def chunk (size n:Nat) (cells:List AV):List (List AV):=(List.range n).map fun i=>(cells.drop (i*size)).take size
def vZ (P:Program) (t:TypeId) (n:Nat) (parts:List (Nat×AV)) (K:AV→Prop):Prop:=
 c3 (jp P t) fun e=>c3 (nq P e) fun z=>if z.length=P.cellsOf e∧n*z.length≤1000000∧n≤1000000 then
  c3 (pB (fun i=>some (i*z.length,z.length)) ((List.range (n*z.length)).map fun i=>z.getD (i%z.length) .undef) parts) fun cells=>
   if cells.all jD=true then K (.bD (chunk z.length n (cells.map kw)) true (cells.all od)) else False
 else False
theorem AN {E:Env} {a:AV} {v:Value} (a4:jD a=true) (h:cN E a v):bH E.w E.PA E.PF a v:=by
 cases a<;>first | exact h | cases a4
theorem Kq {size n i j:Nat} {cells row:List AV} {a:AV} (aK:(chunk size n cells)[i]?=some row) (aM:row[j]?=some a):i<n∧j<size∧cells[i*size+j]?=some a:=by
 unfold chunk at aK
 rw[List.getElem?_map] at aK
 cases uF:(List.range n)[i]? with
 | none=>simp[uF] at aK
 | some k=>
  have hi:i<n:=by have:=(List.getElem?_eq_some_iff.1 uF).1;simpa using this
  rw[List.getElem?_range hi] at uF
  cases uF
  rw[List.getElem?_range hi] at aK
  simp at aK
  subst aK
  rw[List.getElem?_take] at aM
  split at aM
  ·rw[List.getElem?_drop] at aM
   exact⟨hi,by assumption,aM⟩
  ·cases aM
theorem sE (w:World) (o:Obj) (c:Nat) (h:c<w.heap.size):(w.alloc o).heap[c]?=w.heap[c]?:=Go.RowKit.Below.heap_alloc w o c h
theorem JU (w:World) (o:Obj):(w.alloc o).heap[w.heap.size]?=some o:=by
 show(w.heap.push o)[w.heap.size]?=_
 simp
theorem lW.alloc {E:Env} {H:List Blk} (aV:SimH E H) (o:Obj):
  lW E {E with w:=E.w.alloc o,PA:=fun c=>E.PA c∨c=E.w.heap.size,PF:=fun c=>E.PF c∨c=E.w.heap.size} where
 step:=⟨⟨fun _ h=> .inl h,fun _ h=> .inl h,fun c hc=>sE _ _ _ (aV.fc c hc),fun c hc=>sE _ _ _ (aV.fc c (aV.e0 c hc)),fun _=>Nat.le_refl _,fun _ _ h _=>⟨h,rfl,rfl⟩,fun _ _ h=>h⟩,
  rfl,rfl,rfl,by simp,fun c hc _ _=>sE _ _ _ hc,fun _ _ h=> .inl h,fun _ h=> .inl h,fun c hc=>hc.elim .inl (fun e=> .inr (by omega)),fun c hc=>hc.elim .inl (fun e=> .inr (by omega))⟩
 m:=rfl
 mL:=rfl
 bF:=rfl
 sz:=rfl
 cp:=rfl
 fh:=fun c hc=>sE _ _ _ hc
 fL:=fun c hc=>hc.elim .inl (fun e=> .inr (by simp;omega))
 e0:=fun c hc=>hc.elim (fun h=> .inl (aV.e0 c h)) .inr
theorem Ue {P:Program} {E:Env} {t:TypeId} {e:TypeId} {n:Nat} {z:List AV} {parts:List (Nat×AV)} {ky:List (Nat×Value)} {cells:List AV} (aI:aD (fun a b=>a.1=b.1∧V2 E a.2 b.2) parts ky) (he:jp P t=some e) (aO:nq P e=some z)
  (ox:z.length=P.cellsOf e) (XR:n*z.length≤1000000∧n≤1000000) (hf:pB (fun i=>some (i*z.length,z.length)) ((List.range (n*z.length)).map fun i=>z.getD (i%z.length) .undef) parts=some cells):
  ∃hT,aD (cN E.b_) cells hT.toList∧(Instr.buildSlice t n ky.toArray).run P E.w= .ok (.slice (some ⟨E.w.heap.size,0,none⟩) n n) (E.w.alloc (.cells hT e))∧cells.length=n*z.length:=by
 obtain⟨i,v,h1,h2,aP,a8⟩:=vI (E:=E.b_) aO
 have uL:v.cells.size=z.length:=by rw[aP];simp
 have wI:i.size=z.length:=by rw[ox];simp[Program.cellsOf,h1]
 let ll:Array Value:=if n*z.length=0 then #[] else v.cells
 let base:Array Value:=(Array.range (n*z.length)).map (fun i=>ll[i%ll.size]!)
 have pJ:aD (cN E.b_) ((List.range (n*z.length)).map fun i=>z.getD (i%z.length) .undef) base.toList:=by
  refine⟨by simp[base],fun k a b a4 hb=> ?_⟩
  rw[List.getElem?_map] at a4
  have hk:k<n*z.length:=by
   cases aj:(List.range (n*z.length))[k]? with
   | none=>simp[aj] at a4
   | some x=>have:=(List.getElem?_eq_some_iff.1 aj).1;simpa using this
  rw[List.getElem?_range hk] at a4
  simp only[Option.map_some,Option.some.injEq] at a4
  have lD:0<z.length:=by
   rcases Nat.eq_zero_or_pos z.length with q | q
   ·rw[q,Nat.mul_zero] at hk;omega
   ·exact q
  have bf:k%z.length<z.length:=Nat.mod_lt _ lD
  have pS:ll=v.cells:=if_neg (by omega)
  have ek:base[k]?=some (v.cells[k%z.length]!):=by
   show((Array.range (n*z.length)).map (fun i=>ll[i%ll.size]!))[k]?=_
   rw[pS,uL]
   simp[hk]
  rw[Array.getElem?_toList,ek] at hb
  simp only[Option.some.injEq] at hb
  have pR:v.cells.toList[k%z.length]?=some (v.cells[k%z.length]!):=by
   rw[Array.getElem?_toList,Array.getElem?_eq_getElem (by omega)]
   congr 1
   exact(getElem!_pos v.cells (k%z.length) (by omega)).symm
  have FR:z[k%z.length]?=some a:=by
   rw[←a4,List.getD_eq_getElem?_getD,List.getElem?_eq_getElem bf];rfl
  rw[←hb]
  exact a8.2 _ _ _ FR pR
 obtain⟨hT,aK,ec⟩:=Be aI pJ hf
 have hu:=sO he
 have fV:(Instr.buildSlice t n ky.toArray).run P E.w= .ok (.slice (some ⟨E.w.heap.size,0,none⟩) n n) (E.w.alloc (.cells hT e)):=by
  have Fb: ¬n*z.length>2 ^ 24:=by omega
  simp only[Instr.buildSlice,Sem.run_bind,run_underlying hu,Result.andThen_ok,run_sizeOf (show(P.info? e).isSome=true by rw[h1];rfl),←ox,if_neg Fb]
  have fa:Instr.fill (fun i=>some (i*z.length,z.length)) ((Array.range (n*z.length)).map (fun x=>ll[x%ll.size]!)) ky=some hT:=aK
  by_cases q:n*z.length=0
  ·have pS:ll= #[]:=if_pos q
   rw[if_pos q]
   simp only[Sem.run_bind,Sem.run_pure,Result.andThen_ok]
   rw[←pS,fa]
   simp[newRow]
  ·have pS:ll=v.cells:=if_neg q
   rw[if_neg q]
   simp only[Sem.run_bind,Sem.run_pure,Result.andThen_ok,zeroValue,typeInfo,h1,h2,run_program]
   rw[←pS,fa]
   simp[newRow]
 have hlen:cells.length=n*z.length:=by
  have q:=ec.1
  have: ∀(parts:List (Nat×AV)) (c r:List AV),pB (fun i=>some (i*z.length,z.length)) c parts=some r→r.length=c.length:=by
   intro parts
   induction parts with
   | nil=>intro c r bY;cases bY;rfl
   | cons p ps bS=>
    intro c r bY
    obtain⟨a,b⟩:=p
    unfold pB at bY
    split at bY
    ·cases bY
    ·split at bY
     ·rename_i hc
      rw[bS _ _ bY];simp[fl];omega
     ·cases bY
  rw[this _ _ _ hf];simp
 exact⟨hT,ec,fV,hlen⟩
theorem Kh {P:Program} {E:Env} {H:List Blk} {t:TypeId} {n:Nat} {parts:List (Nat×AV)} {ky:List (Nat×Value)} {K:AV→Prop} (aV:SimH E H) (aI:aD (fun a b=>a.1=b.1∧V2 E a.2 b.2) parts ky) (h:vZ P t n parts K):
  ∃r u E',K r∧(Instr.buildSlice t n ky.toArray).run P E.w= .ok u E'.w∧lW E E'∧V3 E' r u:=by
 obtain⟨e,he,h⟩:=fC h
 obtain⟨z,aO,h⟩:=fC h
 split at h
 case isFalse=>exact h.elim
 case isTrue hb=>
 obtain⟨ox,XR⟩:=hb
 obtain⟨cells,hf,h⟩:=fC h
 split at h
 case isFalse=>exact h.elim
 case isTrue hby=>
 obtain⟨i,v,h1,h2,aP,a8⟩:=vI (E:=E.b_) aO
 have uL:v.cells.size=z.length:=by rw[aP];simp
 have wI:i.size=z.length:=by rw[ox];simp[Program.cellsOf,h1]
 let ll:Array Value:=if n*z.length=0 then #[] else v.cells
 let base:Array Value:=(Array.range (n*z.length)).map (fun i=>ll[i%ll.size]!)
 have pJ:aD (cN E.b_) ((List.range (n*z.length)).map fun i=>z.getD (i%z.length) .undef) base.toList:=by
  refine⟨by simp[base],fun k a b a4 hb=> ?_⟩
  rw[List.getElem?_map] at a4
  have hk:k<n*z.length:=by
   cases aj:(List.range (n*z.length))[k]? with
   | none=>simp[aj] at a4
   | some x=>have:=(List.getElem?_eq_some_iff.1 aj).1;simpa using this
  rw[List.getElem?_range hk] at a4
  simp only[Option.map_some,Option.some.injEq] at a4
  have lD:0<z.length:=by
   rcases Nat.eq_zero_or_pos z.length with q | q
   ·rw[q,Nat.mul_zero] at hk;omega
   ·exact q
  have bf:k%z.length<z.length:=Nat.mod_lt _ lD
  have pS:ll=v.cells:=if_neg (by omega)
  have ek:base[k]?=some (v.cells[k%z.length]!):=by
   show((Array.range (n*z.length)).map (fun i=>ll[i%ll.size]!))[k]?=_
   rw[pS,uL]
   simp[hk]
  rw[Array.getElem?_toList,ek] at hb
  simp only[Option.some.injEq] at hb
  have pR:v.cells.toList[k%z.length]?=some (v.cells[k%z.length]!):=by
   rw[Array.getElem?_toList,Array.getElem?_eq_getElem (by omega)]
   congr 1
   exact(getElem!_pos v.cells (k%z.length) (by omega)).symm
  have FR:z[k%z.length]?=some a:=by
   rw[←a4,List.getD_eq_getElem?_getD,List.getElem?_eq_getElem bf];rfl
  rw[←hb]
  exact a8.2 _ _ _ FR pR
 obtain⟨hT,aK,ec⟩:=Be aI pJ hf
 have aj:=lW.alloc aV (.cells hT e)
 have hu:=sO he
 have fV:(Instr.buildSlice t n ky.toArray).run P E.w= .ok (.slice (some ⟨E.w.heap.size,0,none⟩) n n) (E.w.alloc (.cells hT e)):=by
  have Fb: ¬n*z.length>2 ^ 24:=by omega
  simp only[Instr.buildSlice,Sem.run_bind,run_underlying hu,Result.andThen_ok,run_sizeOf (show(P.info? e).isSome=true by rw[h1];rfl),←ox,if_neg Fb]
  have fa:Instr.fill (fun i=>some (i*z.length,z.length)) ((Array.range (n*z.length)).map (fun x=>ll[x%ll.size]!)) ky=some hT:=aK
  by_cases q:n*z.length=0
  ·have pS:ll= #[]:=if_pos q
   rw[if_pos q]
   simp only[Sem.run_bind,Sem.run_pure,Result.andThen_ok]
   rw[←pS,fa]
   simp[newRow]
  ·have pS:ll=v.cells:=if_neg q
   rw[if_neg q]
   simp only[Sem.run_bind,Sem.run_pure,Result.andThen_ok,zeroValue,typeInfo,h1,h2,run_program]
   rw[←pS,fa]
   simp[newRow]
 have hlen:cells.length=n*z.length:=by
  have q:=ec.1
  have: ∀(parts:List (Nat×AV)) (c r:List AV),pB (fun i=>some (i*z.length,z.length)) c parts=some r→r.length=c.length:=by
   intro parts
   induction parts with
   | nil=>intro c r bY;cases bY;rfl
   | cons p ps bS=>
    intro c r bY
    obtain⟨a,b⟩:=p
    unfold pB at bY
    split at bY
    ·cases bY
    ·split at bY
     ·rename_i hc
      rw[bS _ _ bY];simp[fl];omega
     ·cases bY
  rw[this _ _ _ hf];simp
 refine⟨_,_,_,h,fV,aj,?_⟩
 have ol:(chunk z.length n (cells.map kw)).length=n:=by simp[chunk]
 show bH (E.w.alloc (.cells hT e)) (fun c=>E.PA c∨c=E.w.heap.size) (fun c=>E.PF c∨c=E.w.heap.size) _ _
 have key:=bH.bD (w:=E.w.alloc (.cells hT e)) (PA:=fun c=>E.PA c∨c=E.w.heap.size) (PF:=fun c=>E.PF c∨c=E.w.heap.size)
  (PB:=if cells.all od=true then(fun c=>E.PF c∨c=E.w.heap.size) else(fun c=>E.PA c∨c=E.w.heap.size))
  (rows:=chunk z.length n (cells.map kw)) (full:=true) (fresh:=cells.all od) (A:=some ⟨E.w.heap.size,0,none⟩) (cap:=n) (sz:=z.length) (vs:=fun i j=>(hT[i*z.length+j]?).getD undef)
  (fun c hc=>by split at hc<;>(rename_i q;simp only[q];first | exact hc | simpa using hc)) (by omega) (fun _=>ol.symm)
  (fun i row aK=>by
   unfold chunk at aK
   rw[List.getElem?_map] at aK
   cases uF:(List.range n)[i]? with
   | none=>simp[uF] at aK
   | some k=>
    have hi:i<n:=by have:=(List.getElem?_eq_some_iff.1 uF).1;simpa using this
    rw[List.getElem?_range hi] at aK
    simp at aK
    subst aK
    have:i*z.length+z.length≤n*z.length:=by
     calc i*z.length+z.length=(i+1)*z.length:=by rw[Nat.add_mul,Nat.one_mul]
      _≤n*z.length:=Nat.mul_le_mul_right _ (by omega)
    simp;omega)
  (fun _=>⟨E.w.heap.size,0,rfl,by split<;>exact .inr rfl,fun i j hi aM=>by
   rw[ol] at hi
   have:i*z.length+z.length≤n*z.length:=by
    calc i*z.length+z.length=(i+1)*z.length:=by rw[Nat.add_mul,Nat.one_mul]
     _≤n*z.length:=Nat.mul_le_mul_right _ (by omega)
   have FJ:hT.size=n*z.length:=by rw[←hlen,ec.1];simp
   rw[Nat.zero_add]
   have bf:i*z.length+j<hT.size:=by omega
   rw[World.cell?_alloc_new]
   simp[Array.getElem?_eq_getElem bf]⟩)
  (fun i j row a aK aM=>by
   obtain⟨hi,L2,hc⟩:=Kq aK aM
   rw[List.getElem?_map] at hc
   cases um:cells[i*z.length+j]? with
   | none=>simp[um] at hc
   | some b=>
    simp[um] at hc
    subst hc
    obtain⟨u,hu,g7⟩:=ec.get um
    have Fe:jD b=true:=List.all_eq_true.1 hby b (List.mem_of_getElem? um)
    have ov:=AN Fe g7.up
    have nF:(hT[i*z.length+j]?).getD undef=u:=by rw[Array.getElem?_toList] at hu;rw[hu];rfl
    rw[nF]
    by_cases eE:cells.all od=true
    ·have Yf:od b=true:=List.all_eq_true.1 eE b (List.mem_of_getElem? um)
     rw[if_pos eE]
     exact(S7 Fe Yf ov).mono (fun c hc=>sE _ _ _ (aV.fc c (aV.e0 c hc))) (fun c hc=>hc.elim) (fun c hc=> .inl hc) (fun c hc=>hc)
    ·rw[if_neg eE]
     exact(Jx Fe ov (fun c hc=>hc) aV.e0).mono (fun c hc=>sE _ _ _ (aV.fc c hc)) (fun c hc=>hc.elim) (fun c hc=> .inl hc) (fun c hc=>hc))
 rw[ol] at key
 exact key
def Bd (P:Program) (t:TypeId) (f:Nat):Option Field:=match P.underlying t with
 | some (.struct fy)=>fy.toList[f]?
 | _=>none
theorem VD {P:Program} {t:TypeId} {f:Nat} {fd:Field} (h:Bd P t f=some fd): ∃fy,P.underlying t=some (.struct fy)∧fy[f]?=some fd:=by
 unfold Bd at h
 split at h
 ·rename_i fy oq;exact⟨fy,oq,by simpa using h⟩
 ·cases h
def EE (P:Program) (t:TypeId) (x:AV) (f:Nat) (K:AV→Prop):Prop:=
 c3 (Bd P t f) fun fd=>if(P.info? fd.type).isSome=true∧P.cellsOf fd.type≠0 then(match x with
  | .fG s c=>K (.fG s (c+fd.offset))
  | .ptr b g r c=>K (.ptr b g r (c+fd.offset))
  | .dA cells c=>K (.dA cells (c+fd.offset))
  | _=>False) else False
theorem ac7 {P:Program} {fd:Field} {w:World} {c o:Nat} (hi:(P.info? fd.type).isSome=true) (aO:P.cellsOf fd.type≠0):
  (fieldPlace ⟨c,o,none⟩ fd).run P w= .ok ⟨c,o+fd.offset,none⟩ w:=by
 simp[fieldPlace,run_sizeOf hi,aO,n3]
theorem VC {P:Program} {t:TypeId} {x:AV} {f:Nat} {K:AV→Prop} {E:Env} {v:Value} (hx:V3 E x v)
  (h:EE P t x f K):
  ∃r u,K r∧(Instr.fieldAt t v f).run P E.w= .ok u E.w∧V3 E r u:=by
 obtain⟨fd,hf,h⟩:=fC h
 obtain⟨fy,hu,Yg⟩:=VD hf
 split at h
 case isFalse=>exact h.elim
 case isTrue hc=>
 obtain⟨hi,aO⟩:=hc
 have run: ∀bl o,(Instr.fieldAt t (.pointer (some ⟨bl,o,none⟩)) f).run P E.w= .ok (.pointer (some ⟨bl,o+fd.offset,none⟩)) E.w:=by
  intro bl o
  simp[Instr.fieldAt,run_underlying hu,Yg,Instr.sureAddr,ac7 hi aO]
 cases x with
 | fG s c=>
  obtain⟨bl,hm,rfl⟩:=hx.zo
  exact⟨_,_,h,run bl c,bl,hm,rfl⟩
 | ptr b g r c=>
  rcases(show fv E (.ptr b g r c) v from hx) with⟨hg,bl,o,rfl⟩ | ⟨hg,bl,hm,rfl⟩
  ·exact⟨_,_,h,run bl o,.inl ⟨hg,_,_,rfl⟩⟩
  ·exact⟨_,_,h,run bl _,.inr ⟨hg,bl,hm,by rw[Nat.add_assoc]⟩⟩
 | dA cells c=>
  have jI:bH E.w E.PA E.PF (.dA cells c) v:=hx
  cases jI with
  | @dA _ _ _ _ bl o vs hc fj ec=>
   exact⟨_,_,h,run bl _,by rw[Nat.add_assoc];exact bH.dA hc fj ec⟩
 | _=>exact h.elim
def wZ (P:Program) (t:TypeId) (x i:AV) (H:List Blk) (K:AV→Prop):Prop:=
 c3 (jp P t) fun e=>if(P.info? e).isSome=true then(match i with
  | .int _ n=>(match x with
   | .bD rows _ _=>0≤n∧c3 rows[n.toNat]? fun row=>row.length=P.cellsOf e∧K (.dA row 0)
   | .ref b g off m _=>c3 H[b]? fun blk=>blk.bF=g∧blk.sz=P.cellsOf e∧0≤n∧n<m∧K (.ptr b g (off+n.toNat) 0)
   | _=>False)
  | _=>False) else False
theorem Zk {P:Program} {t:TypeId} {x i:AV} {K:AV→Prop} {E:Env} {L kC:List (Nat×List AV)} {H fe:List Blk} {v zg:Value} (sub:Sub L H kC fe) (aV:SimH E fe) (hx:V3 E x v) (hi:V3 E i zg)
  (h:wZ P t x i H K): ∃r u,K r∧(Instr.indexAt t v zg).run P E.w= .ok u E.w∧V3 E r u:=by
 obtain⟨e,he,h⟩:=fC h
 have hu:=sO he
 split at h
 case isFalse=>exact h.elim
 case isTrue hinf=>
 cases i with
 | int k n=>
  obtain rfl:=hi.r8
  cases x with
  | bD rows full fresh=>
   obtain⟨aU,h⟩:=(show 0≤n∧c3 rows[n.toNat]? fun row=>row.length=P.cellsOf e∧K (.dA row 0) from h)
   obtain⟨row,aK,aL,hK⟩:=fC h
   have bf:n.toNat<rows.length:=(List.getElem?_eq_some_iff.1 aK).1
   have jI:bH E.w E.PA E.PF (.bD rows full fresh) v:=hx
   cases jI with
   | @bD _ _ PB _ _ _ A cap sz vs gl gQ hC cK fj ec=>
    obtain⟨c,o,rfl,hc,eE⟩:=fj (by omega)
    have y9:=cK _ _ aK
    refine⟨_,.pointer (some ⟨c,o+n.toNat*P.cellsOf e,none⟩),hK,?_,?_⟩
    ·simp only[Instr.indexAt,Sem.run_bind,asIntOf,Sem.run_pure,Result.andThen_ok,run_underlying hu]
     rw[if_pos ⟨aU,by omega⟩]
     simp[run_sizeOf hinf,n3]
    ·show bH _ _ _ _ _
     have:=bH.dA (w:=E.w) (PA:=E.PA) (PF:=E.PF) (cells:=row) (col:=0) (c:=c) (o:=o+n.toNat*P.cellsOf e) (vs:=vs n.toNat)
      (by have:=gl c hc;split at this;exact aV.e0 c this;exact this)
      (fun j aM=>by rw[Nat.add_assoc,←aL,y9];exact eE n.toNat j bf (by omega))
      (fun j a aM=>(ec n.toNat j row a aK aM).mono (fun _ _=>rfl) (fun _ h=>h.elim) (fun d bj=>by
       have:=gl d bj;split at this;exact aV.e0 d this;exact this) (fun _ h=>h))
     simpa using this
  | ref b g off m full=>
   obtain⟨blk,hb,hg,m5,aU,h1,hK⟩:=fC (show c3 H[b]? fun blk=>blk.bF=g∧blk.sz=P.cellsOf e∧0≤n∧n<m∧K (.ptr b g (off+n.toNat) 0) from h)
   have hb:=sub.h b blk hb
   have kk:=aV.fg b blk hb
   rcases(show fv E (.ref b g off m full) v from hx) with⟨bY,_⟩ | ⟨fT,bY⟩
   ·omega
   ·rcases bY with⟨_,_,wL,_⟩ | ⟨c,cap,hm,rfl,o1,mw,qI⟩
    ·omega
    ·obtain⟨blk',ba,ty,q1,dS,_⟩:=aV.heap b c hm
     obtain rfl:blk=blk':=by rw[hb] at q1;exact Option.some.inj q1
     refine⟨_,.pointer (some ⟨c,(off+n.toNat)*E.sz b+0,none⟩),hK,?_,.inr ⟨fT,c,hm,rfl⟩⟩
     simp only[Instr.indexAt,Sem.run_bind,asIntOf,Sem.run_pure,Result.andThen_ok,run_underlying hu]
     rw[if_pos ⟨aU,h1⟩]
     simp[run_sizeOf hinf,n3,dS,m5,Nat.add_mul]
  | _=>exact h.elim
 | _=>exact h.elim
def FU (P:Program) (t:TypeId) (x i:AV) (K:AV→Prop):Prop:=match x with
 | .str s=>(match i with
  | .int _ n=>(match P.underlying t with
   | some .string=>0≤n∧n<s.size∧K (.int .u8 (s.data.getD n.toNat 0).toNat)
   | _=>False)
  | _=>False)
 | _=>False
theorem Zt {P:Program} {t:TypeId} {x i:AV} {K:AV→Prop} {E:Env} {v zg:Value} (hx:V3 E x v) (hi:V3 E i zg) (h:FU P t x i K):
  ∃r u,K r∧(Instr.index t v zg).run P E.w= .ok u E.w∧V3 E r u:=by
 cases x with
 | str s=>
  cases i with
  | int k n=>
   obtain rfl:=hx.xO
   obtain rfl:=hi.r8
   have h:(match P.underlying t with
    | some .string=>0≤n∧n<s.size∧K (.int .u8 (s.data.getD n.toNat 0).toNat)
    | _=>False):=h
   split at h
   ·rename_i hu
    obtain⟨aU,h1,hK⟩:=h
    refine⟨_,.int .u8 (s.data.getD n.toNat 0).toNat,hK,?_,bH.int _ _⟩
    have bf:n.toNat<s.size:=by omega
    have Fz:n.toNat<s.data.size:=bf
    have:s[n.toNat]?=some (s.data.getD n.toNat 0):=by
     rw[getElem?_pos s n.toNat bf]
     congr 1
     show s.data[n.toNat]=_
     rw[Array.getD_eq_getD_getElem?,Array.getElem?_eq_getElem Fz];rfl
    simp only[Instr.index,Sem.run_bind,asIntOf,Sem.run_pure,Result.andThen_ok,run_underlying hu]
    rw[if_pos aU,this]
    rfl
   ·exact h.elim
  | _=>exact h.elim
 | _=>exact h.elim
def r_ (x:AV) (K:AV→Prop):Prop:=match x with
 | .bD rows _ _=>rows.length≤4611686018427387904→K (.int .i64 rows.length)
 | .str s=>K (.int .i64 s.size)
 | .ref _ _ _ n _=>K (.int .i64 n)
 | _=>False
def j4 (P:Program) (t:TypeId) (x:AV):Bool:=match P.underlying t,x with
 | some .string,.str _=>true
 | some (.slice _),.bD _ _ _=>true
 | some (.slice _),.ref _ _ _ _ _=>true
 | _,_=>false
theorem abm {P:Program} {t ty:TypeId} {x:AV} {K:AV→Prop} {E:Env} {v:Value} (hx:V3 E x v)
  (bu:j4 P t x=true) (h:r_ x K): ∃r u,K r∧(Builtin.len_ #[t] ty #[v]).run P E.w= .ok u E.w∧V3 E r u:=by
 unfold j4 at bu
 split at bu<;>try (cases bu;done)
 ·rename_i s hu
  obtain rfl:=hx.xO
  exact⟨_,_,h,by simp[Builtin.len_,run_underlying hu,goInt],bH.int _ _⟩
 ·rename_i e rows eD fr hu
  have jI:bH E.w E.PA E.PF (.bD rows eD fr) v:=hx
  cases jI with
  | @bD _ _ PB _ _ _ A cap sz vs gl gQ hC cK fj ec=>
   have h:rows.length≤4611686018427387904→K (.int .i64 rows.length):=h
   exact⟨_,_,h gQ.2,by simp[Builtin.len_,run_underlying hu,goInt],bH.int _ _⟩
 ·rename_i e b g off n eD hu
  have h:K (.int .i64 n):=h
  rcases(show fv E (.ref b g off n eD) v from hx) with⟨_,A,cap,rfl⟩ | ⟨fT,bY⟩
  ·exact⟨_,_,h,by simp[Builtin.len_,run_underlying hu,goInt],bH.int _ _⟩
  ·rcases bY with⟨_,_,rfl,A,rfl⟩ | ⟨c,cap,hm,rfl,o1,mw,qI⟩
   ·exact⟨_,_,h,by simp[Builtin.len_,run_underlying hu,goInt],bH.int _ _⟩
   ·exact⟨_,_,h,by simp[Builtin.len_,run_underlying hu,goInt],bH.int _ _⟩
def EA (x:AV) (i:Nat) (K:AV→Prop):Prop:=match x with
 | .tup l=>c3 l[i]? K
 | _=>False
theorem Vx {P:Program} {x:AV} {i:Nat} {K:AV→Prop} {E:Env} {v:Value} (hx:V3 E x v) (h:EA x i K):
  ∃r u,K r∧(Instr.extract v i).run P E.w= .ok u E.w∧V3 E r u:=by
 cases x with
 | tup l=>
  obtain⟨vs,rfl,aI⟩:=hx
  obtain⟨a,a4,hK⟩:=fC (show c3 l[i]? K from h)
  obtain⟨u,hu,aK⟩:=aI.get a4
  refine⟨a,u,hK,?_,qm aK⟩
  simp[Instr.extract,hu]
 | _=>exact h.elim
def Dh (op:UnOp) (x:AV) (K:AV→Prop):Prop:=match op,x with
 | .not,.bool b=>K (.bool (!b))
 | .neg,.int k n=>K (.int k (k.wrap (0 - n)))
 | _,_=>False
theorem ags {P:Program} {op:UnOp} {x:AV} {K:AV→Prop} {E:Env} {v:Value} (hx:V3 E x v) (h:Dh op x K):
  ∃r u,K r∧(Op.unary op v).run P E.w= .ok u E.w∧V3 E r u:=by
 unfold Dh at h
 split at h
 ·obtain rfl:=hx.rI;exact⟨_,_,h,rfl,bH.bool _⟩
 ·obtain rfl:=hx.r8;exact⟨_,_,h,rfl,bH.int _ _⟩
 ·exact h.elim
def Hg (x:AV) (K:AV→Prop):Prop:=match x with
 | .ptr _ _ _ _ | .fG _ _ | .dA _ _=>K x
 | _=>False
def w3 (P:Program) (t:TypeId):Option IntKind:=match P.underlying t with
 | some (.int k)=>some k
 | _=>none
theorem NR {P:Program} {t:TypeId} {k:IntKind} (h:w3 P t=some k):P.underlying t=some (.int k):=by
 unfold w3 at h
 split at h
 ·cases h;assumption
 ·cases h
def D9 (P:Program) (s d:TypeId) (x:AV) (K:AV→Prop):Prop:=match x with
 | .int _ n=>c3 (w3 P s) fun _=>c3 (w3 P d) fun k=>K (.int k (k.wrap n))
 | _=>False
theorem U0 {P:Program} {s d:TypeId} {x:AV} {K:AV→Prop} {E:Env} {v:Value} (hx:V3 E x v) (h:D9 P s d x K):
  ∃r u,K r∧(Go.convert s d v).run P E.w= .ok u E.w∧V3 E r u:=by
 cases x with
 | int a5 n=>
  obtain⟨df,h1,h⟩:=fC (show c3 (w3 P s) _ from h)
  obtain⟨g9,h2,h⟩:=fC h
  obtain rfl:=hx.r8
  refine⟨_,_,h,?_,bH.int _ _⟩
  simp only[Go.convert,Sem.run_bind,run_underlying (NR h1),run_underlying (NR h2),Result.andThen_ok]
  rfl
 | _=>exact h.elim
def ms (x:Option AV) (d:Nat) (K:Nat→Prop):Prop:=match x with
 | none=>K d
 | some (.int _ n)=>0≤n∧K n.toNat
 | some _=>False
def vo (P:Program) (t:TypeId) (x:AV) (lo hi:Option AV) (H:List Blk) (K:AV→Prop):Prop:=match x with
 | .str s=>(match P.underlying t with
  | some .string=>ms lo 0 fun l=>ms hi s.size fun h=>l≤h∧h≤s.size∧K (.str (s.extract l h))
  | _=>False)
 | .bD rows _ fr=>c3 (jp P t) fun e=>if(P.info? e).isSome=true then
   ms lo 0 fun l=>ms hi rows.length fun h=>l≤h∧h≤rows.length∧(∀(i:Nat) (row:List AV),rows[i]?=some row→row.length=P.cellsOf e)∧K (.bD ((rows.drop l).take (h - l)) false fr) else False
 | .ref b g off n _=>c3 (jp P t) fun e=>if(P.info? e).isSome=true then
   c3 H[b]? fun blk=>blk.bF=g∧blk.sz=P.cellsOf e∧ms lo 0 fun l=>ms hi n fun h=>l≤h∧h≤n∧(l<h→K (.ref b g (off+l) (h - l) false))∧(l=h→K (.bD [] false true)) else False
 | _=>False
def Au (E:Env) (x:Option AV) (v:Option Value):Prop:=match x,v with
  | none,none=>True
  | some a,some u=>V3 E a u
  | _,_=>False
theorem vY {x:Option AV} {d:Nat} {K:Nat→Prop} {E:Env} {v:Option Value} (hx:Au E x v) (h:ms x d K): ∃n,K n∧((v=none∧n=d)∨ ∃k,v=some (.int k n)):=by
 cases x with
 | none=>
  cases v with
  | none=>exact⟨d,h,.inl ⟨rfl,rfl⟩⟩
  | some u=>exact hx.elim
 | some a=>
  cases v with
  | none=>exact hx.elim
  | some u=>
   cases a with
   | int k n=>
    obtain⟨aU,h⟩:=(show 0≤n∧K n.toNat from h)
    obtain rfl:=V3.r8 hx
    exact⟨n.toNat,h,.inr ⟨k,by rw[Int.toNat_of_nonneg aU]⟩⟩
   | _=>exact h.elim
theorem H2 {P:Program} {w:World} {isS:Bool} {len cap l h:Nat} {lo hi:Option Value} (aL:(lo=none∧l=0)∨ ∃k,lo=some (.int k l)) (bY:(hi=none∧h=len)∨ ∃k,hi=some (.int k h))
  (h1:l≤h) (h2:h≤cap):(Instr.sliceBounds isS len cap lo hi none).run P w= .ok (l,h,cap) w:=by
 rcases aL with⟨rfl,rfl⟩ | ⟨ma,rfl⟩<;>rcases bY with⟨rfl,rfl⟩ | ⟨NV,rfl⟩
 ·simp[Instr.sliceBounds]
 ·simp[Instr.sliceBounds,run_sliceBound (P:=P) w NV (h:Int) cap _ (by omega) (by omega)]
 ·simp[Instr.sliceBounds,run_sliceBound (P:=P) w ma (l:Int) _ _ (by omega) (show(l:Int)≤((_:Nat):Int) by exact Int.ofNat_le.2 h1)]
 ·simp[Instr.sliceBounds,run_sliceBound (P:=P) w NV (h:Int) cap _ (by omega) (by omega),run_sliceBound (P:=P) w ma (l:Int) h _ (by omega) (by omega)]
theorem adt {P:Program} {t:TypeId} {x:AV} {lo hi:Option AV} {K:AV→Prop} {E:Env} {L kC:List (Nat×List AV)} {H fe:List Blk} {v:Value} {JB JA:Option Value} (sub:Sub L H kC fe) (aV:SimH E fe) (hx:V3 E x v)
  (Fy:Au E lo JB) (Fp:Au E hi JA)
  (h:vo P t x lo hi H K): ∃r u,K r∧(Instr.sliceAt t v JB JA none).run P E.w= .ok u E.w∧V3 E r u:=by
 cases x with
 | str s=>
  obtain rfl:=hx.xO
  have h:(match P.underlying t with
   | some .string=>ms lo 0 fun l=>ms hi s.size fun h=>l≤h∧h≤s.size∧K (.str (s.extract l h))
   | _=>False):=h
  split at h
  ·rename_i hu
   obtain⟨l,h,aL⟩:=vY Fy h
   obtain⟨q,⟨h1,h2,hK⟩,aj⟩:=vY Fp h
   refine⟨_,.string (s.extract l q),hK,?_,bH.str _⟩
   rw[run_sliceAt_string E.w t _ _ _ _ hu]
   simp only[Instr.slice,Sem.run_bind,run_underlying hu,Result.andThen_ok]
   simp only[Option.isSome_none,Bool.false_eq_true,if_false]
   simp only[Sem.run_bind,H2 (P:=P) (w:=E.w) (isS:=false) aL aj h1 h2,Result.andThen_ok]
   rfl
  ·exact h.elim
 | bD rows full fr=>
  obtain⟨e,he,h⟩:=fC (show c3 (jp P t) fun e=>if(P.info? e).isSome=true then
   ms lo 0 fun l=>ms hi rows.length fun h=>l≤h∧h≤rows.length∧(∀(i:Nat) (row:List AV),rows[i]?=some row→row.length=P.cellsOf e)∧K (.bD ((rows.drop l).take (h - l)) false fr) else False from h)
  have hu:=sO he
  split at h
  case isFalse=>exact h.elim
  case isTrue hinf=>
  obtain⟨l,h,aL⟩:=vY Fy h
  obtain⟨q,⟨h1,h2,lE,hK⟩,aj⟩:=vY Fp h
  have jI:bH E.w E.PA E.PF (.bD rows full fr) v:=hx
  cases jI with
  | @bD _ _ PB _ _ _ A cap sz vs gl gQ hC cK fj ec=>
   have ur:P.elem t=e:=by simp[Program.elem,hu]
   have nF:P.underlying t=some (.slice (P.elem t)):=by rw[ur];exact hu
   have hlen:((rows.drop l).take (q - l)).length=q - l:=by simp;omega
   refine⟨_,sliced A l q cap (P.cellsOf e),hK,?_,?_⟩
   ·rw[run_sliceAt_slice E.w t _ _ _ _ nF,run_slice_any E.w t A rows.length cap nF,H2 (P:=P) (w:=E.w) aL aj h1 (by omega)]
    simp only[Result.andThen_ok,ur,run_sizeOf hinf]
   ·show bH E.w E.PA E.PF _ (.slice _ (q - l) (cap - l))
    have key:=bH.bD (w:=E.w) (PA:=E.PA) (PF:=E.PF) (PB:=PB) (rows:=(rows.drop l).take (q - l)) (full:=false) (fresh:=fr) (A:=if cap=l then A else A.map (·.add (l*P.cellsOf e))) (cap:=cap - l) (sz:=sz) (vs:=fun i j=>vs (l+i) j)
     gl (by rw[hlen];omega) (fun h=>by cases h)
     (fun i row aK=>by
      rw[List.getElem?_take] at aK
      split at aK
      ·rw[List.getElem?_drop] at aK;exact cK _ _ aK
      ·cases aK)
     (fun aF=>by
      rw[hlen] at aF
      obtain⟨c,o,rfl,hc,eE⟩:=fj (by omega)
      have Y3:sz=P.cellsOf e:=by
       have bf:l<rows.length:=by omega
       rw[←cK l _ (List.getElem?_eq_getElem bf)];exact lE l _ (List.getElem?_eq_getElem bf)
      refine⟨c,o+l*P.cellsOf e,by rw[if_neg (by omega)];simp[n3],hc,fun i j hi aM=> ?_⟩
      rw[hlen] at hi
      have:=eE (l+i) j (by omega) aM
      rw[←this,Y3]
      congr 2
      rw[Nat.add_mul];omega)
     (fun i j row a aK aM=>by
      rw[List.getElem?_take] at aK
      split at aK
      ·rw[List.getElem?_drop] at aK;exact ec _ _ _ _ aK aM
      ·cases aK)
    rw[hlen] at key
    exact key
 | ref b g off n full=>
  obtain⟨e,he,h⟩:=fC (show c3 (jp P t) fun e=>if(P.info? e).isSome=true then
   c3 H[b]? fun blk=>blk.bF=g∧blk.sz=P.cellsOf e∧ms lo 0 fun l=>ms hi n fun h=>l≤h∧h≤n∧(l<h→K (.ref b g (off+l) (h - l) false))∧(l=h→K (.bD [] false true)) else False from h)
  have hu:=sO he
  split at h
  case isFalse=>exact h.elim
  case isTrue hinf=>
  obtain⟨blk,hb,hg,m5,h⟩:=fC h
  obtain⟨l,h,aL⟩:=vY Fy h
  obtain⟨q,⟨h1,h2,XG,ug⟩,aj⟩:=vY Fp h
  have hb:=sub.h b blk hb
  have kk:=aV.fg b blk hb
  have ur:P.elem t=e:=by simp[Program.elem,hu]
  have nF:P.underlying t=some (.slice (P.elem t)):=by rw[ur];exact hu
  have run: ∀A cap,n≤cap→(Instr.sliceAt t (.slice A n cap) JB JA none).run P E.w= .ok (sliced A l q cap (P.cellsOf e)) E.w:=by
   intro A cap hc
   rw[run_sliceAt_slice E.w t _ _ _ _ nF,run_slice_any E.w t A n cap nF,H2 (P:=P) (w:=E.w) aL aj h1 (by omega)]
   simp only[Result.andThen_ok,ur,run_sizeOf hinf]
  have empty: ∀A cap,l=q→V3 E (.bD [] false true) (sliced A l q cap (P.cellsOf e)):=by
   intro A cap uy
   subst uy
   show bH E.w E.PA E.PF _ (.slice _ (l - l) (cap - l))
   rw[Nat.sub_self]
   exact bH.bD (PB:=fun _=>False) (sz:=0) (vs:=fun _ _=>undef) (fun _ h=>h.elim) ⟨Nat.zero_le _,Nat.zero_le _⟩ (fun h=>by cases h) (fun i row h=>by simp at h) (fun h=>by simp at h) (fun i j row a h=>by simp at h)
  rcases(show fv E (.ref b g off n full) v from hx) with⟨bY,_⟩ | ⟨fT,bY⟩
  ·omega
  ·rcases bY with⟨_,_,rfl,A,rfl⟩ | ⟨c,cap,hm,rfl,o1,mw,qI⟩
   ·have uy:l=q:=by omega
    exact⟨_,_,ug uy,run A 0 (Nat.le_refl _),empty _ _ uy⟩
   ·rcases Nat.lt_or_ge l q with bf | By
    ·refine⟨_,_,XG bf,run _ cap o1,.inr ⟨fT,.inr ⟨c,cap - l,hm,?_,by omega,(fun h=>by cases h),by omega⟩⟩⟩
     obtain⟨blk',ba,ty,q1,dS,_⟩:=aV.heap b c hm
     obtain rfl:blk=blk':=by rw[hb] at q1;exact Option.some.inj q1
     simp only[sliced,if_neg (show ¬cap=l by omega),Option.map_some,n3,dS,m5,Nat.add_mul]
    ·have uy:l=q:=by omega
     exact⟨_,_,ug uy,run _ cap o1,empty _ _ uy⟩
 | _=>exact h.elim
def u2 (P:Program) (f:FuncId):Bool:=match P.funcs[f]? with
 | some fn=> !(fn.name== "runtime.NumGoroutine")&&fn.body.isSome
 | none=>false
def dI (P:Program) (f:FuncId) (args:List AV) (H:List Blk) (Q:AV→List Blk→Prop):Prop:=
 u2 P f=true∧ ∀(E:Env) (vs:List Value),(∀t,E.mL t=none)→SimH E H→aD (V2 E) args vs→
  Calls P f vs.toArray E.w fun e w'=> ∃r v H' E',e= .returned v∧Q r H'∧E'.w=w'∧(∀t,E'.mL t=none)∧SimH E' H'∧V3 E' r v∧Step E E'
theorem dI.mono {P:Program} {f:FuncId} {args:List AV} {H:List Blk} {Q vN:AV→List Blk→Prop} (h:dI P f args H Q) (aj: ∀r H',Q r H'→vN r H'):dI P f args H vN:=
 ⟨h.1,fun E vs a b c=>(h.2 E vs a b c).mono fun e w' ⟨r,v,H',E',h1,h2,aP⟩=>⟨r,v,H',E',h1,aj _ _ h2,aP⟩⟩
def zt:AV→Bool
 | .fG _ _ | .agg _ | .tup _=>false
 | _=>true
def xb:AV→Bool
 | .fn _ caps=>caps.all zt
 | a=>zt a
def j5:AV→Bool
 | .agg cells=>cells.all xb
 | a=>xb a
def xc:AV→Bool
 | .tup l=>l.all j5
 | a=>j5 a
theorem fv.b_ {E:Env} {a:AV} {v:Value} (h:zt a=true) (hv:fv E a v):fv E.b_ a v:=by
 cases a<;>first | exact hv | cases h
theorem cN.b_ {E:Env} {a:AV} {v:Value} (h:xb a=true) (hv:cN E a v):cN E.b_ a v:=by
 by_cases hf: ∃f caps,a= .fn f caps
 ·obtain⟨f,caps,rfl⟩:=hf
  obtain⟨vs,e,aI⟩:=hv
  exact⟨vs,e,aI.1,fun i x y hx hy=>(aI.2 i x y hx hy).b_ (List.all_eq_true.1 (show caps.all zt=true from h) x (List.mem_of_getElem? hx))⟩
 ·have aU:xb a=zt a:=by cases a<;>first | rfl | exact absurd ⟨_,_,rfl⟩ hf
  rw[rF fun f c e=>hf ⟨f,c,e⟩] at hv ⊢
  exact hv.b_ (aU▸h)
theorem V2.b_ {E:Env} {a:AV} {v:Value} (h:j5 a=true) (hv:V2 E a v):V2 E.b_ a v:=by
 by_cases hf: ∃l,a= .agg l
 ·obtain⟨l,rfl⟩:=hf
  obtain⟨vs,e,aI⟩:=hv
  exact⟨vs,e,aI.1,fun i x y hx hy=>(aI.2 i x y hx hy).b_ (List.all_eq_true.1 (show l.all xb=true from h) x (List.mem_of_getElem? hx))⟩
 ·have aU:j5 a=xb a:=by cases a<;>first | rfl | exact absurd ⟨_,rfl⟩ hf
  rw[pu fun l e=>hf ⟨l,e⟩] at hv ⊢
  exact hv.b_ (aU▸h)
theorem V3.b_ {E:Env} {a:AV} {v:Value} (h:xc a=true) (hv:V3 E a v):V3 E.b_ a v:=by
 by_cases hf: ∃l,a= .tup l
 ·obtain⟨l,rfl⟩:=hf
  obtain⟨vs,e,aI⟩:=hv
  exact⟨vs,e,aI.1,fun i x y hx hy=>(aI.2 i x y hx hy).b_ (List.all_eq_true.1 (show l.all j5=true from h) x (List.mem_of_getElem? hx))⟩
 ·have aU:xc a=j5 a:=by cases a<;>first | rfl | exact absurd ⟨_,rfl⟩ hf
  rw[oO fun l e=>hf ⟨l,e⟩] at hv ⊢
  exact hv.b_ (aU▸h)
theorem SimH.b_ {E:Env} {H:List Blk} (h:SimH E H):SimH E.b_ H:=
 {h with
  jK:=fun t jR c hm=>by cases hm
  gT:=fun b t c _ hm=>by cases hm
  iw:=fun c _ ⟨t,hm⟩=>by cases hm
  g_:=fun c ⟨t,hm⟩=>by cases hm}
theorem Good.toStep [cM] {cz E:Env} (h:Good cz E):Step cz E.b_:=
 ⟨⟨h.le.fL,h.le.fM,h.le.tJ,h.le.wf,h.le.bF,h.le.m,fun t c hm=>by rw[h.b_ t] at hm;cases hm⟩,h.os,h.tape,h.output,h.size,fun c hc h1 _=>h.fh c hc h1,h.jq,(fun c ⟨t,hm⟩=>by cases hm),h.fL,h.fM⟩
def rc (P:Program) (aJ:St):List ResultVar→(List AV→Prop)→Prop
 | [],K=>K []
 | .tmp t::rs,K=>rc P aJ rs fun l=>K (aJ.T.getD t .undef::l)
 | .cell a t::rs,K=>o4 P t (aJ.T.getD a .undef) aJ.L aJ.H fun x=>rc P aJ rs fun l=>K (x::l)
def sx:List AV→AV
 | [x]=>x
 | l=> .tup l
def tu (P:Program) (fn:Func) (aJ:St) (Q:AV→List Blk→Prop):Prop:=rc P aJ fn.results.toList fun l=>l.all j5=true∧Q (sx l) aJ.H
theorem TX {E:Env} {P:Program} {t:TypeId} {x:AV} {L:List (Nat×List AV)} {H:List Blk} {K:AV→Prop} {v:Value} (aV:SimH E H) (b3:SimL E L) (hx:V3 E x v) (h:o4 P t x L H K):
  ∃a e9,K a∧(do loadVar t (←asAddr v):Sem Value).run P E.w= .ok e9 E.w∧V2 E a e9:=by
 obtain⟨a,e9,hK,aK,hv⟩:=Oo (Sub.refl L H) aV b3 hx h
 refine⟨a,e9,hK,?_,hv⟩
 have: ∃lX,v= .pointer (some lX):=by
  cases x with
  | fG s c=>obtain⟨bl,_,rfl⟩:=hx.zo;exact⟨_,rfl⟩
  | ptr b g r c=>
   rcases(show fv E (.ptr b g r c) v from hx) with⟨_,bl,o,rfl⟩ | ⟨_,bl,_,rfl⟩<;>exact⟨_,rfl⟩
  | dA cells c=>
   have jI:bH E.w E.PA E.PF (.dA cells c) v:=hx
   cases jI;exact⟨_,rfl⟩
  | _=>exact h.elim
 obtain⟨lX,rfl⟩:=this
 simpa[Instr.loadAt,Instr.sureAddr,asAddr] using aK
theorem HV {P:Program} {aJ:St} {E:Env} {tmps:Array Value} (hs:tS E aJ tmps) {f:ResultVar→Sem Value} (f1: ∀t,f (.tmp t)=pure (tmps.getD t undef))
  (f2: ∀a t,f (.cell a t)=do loadVar t (←asAddr (tmps.getD a undef))): ∀(rs:List ResultVar) (K:List AV→Prop),rc P aJ rs K→
  ∃l vs,K l∧(rs.mapM f).run P E.w= .ok vs E.w∧aD (V3 E) l vs
 | [],K,h=>⟨[],[],h,rfl,aD.nil⟩
 | .tmp t::rs,K,h=>by
  obtain⟨l,vs,hK,aK,aI⟩:=HV hs f1 f2 rs _ h
  exact⟨_,_,hK,by simp only[List.mapM_cons,f1,Sem.run_bind,Sem.run_pure,Result.andThen_ok,aK],aD.cons (hs.iA t) aI⟩
 | .cell a t::rs,K,h=>by
  obtain⟨x,e9,h2,BP,hv⟩:=TX hs.h hs.l (hs.iA a) h
  obtain⟨l,vs,hK,aK,aI⟩:=HV hs f1 f2 rs _ h2
  refine⟨_,_,hK,?_,aD.cons (qm hv) aI⟩
  simp only[List.mapM_cons,f2]
  rw[Sem.run_bind,BP]
  simp only[Result.andThen_ok,Sem.run_bind,aK,Sem.run_pure]
theorem acW (fn:Func) (tmps:Array Value): ∃f:ResultVar→Sem Value,results fn tmps=(fn.results.mapM f>>=fun vs=>pure (if h:vs.size=1 then vs[0] else .tuple vs))∧(∀t,f (.tmp t)=pure (tmps.getD t undef))∧
  ∀b t,f (.cell b t)=(asAddr (tmps.getD b undef)>>=fun a=>loadVar t a):=⟨_,rfl,fun _=>rfl,fun _ _=>rfl⟩
def tQ (P:Program) (fn:Func) (Q:AV→List Blk→Prop) (ex:Exit) (aJ:St):Prop:=match ex with
 | .normal | .ret=>tu P fn aJ Q
 | _=>False
def zf (fn:Func) (args:List AV) (H:List Blk):St:=⟨args++List.replicate (fn.ntmps - args.length) .undef,[],H⟩
theorem TL {E:Env} {a:AV} {v:Value} (h:j5 a=true) (hv:V3 E a v) (bu: ∀l,a≠ .tup l):V2 E.b_ a v:=by
 rw[oO bu] at hv;exact hv.b_ h
theorem dI.Hm {P:Program} {f:FuncId} {fn:Func} {c:Code} {args:List AV} {H:List Blk} {Q:AV→List Blk→Prop} (hf:P.funcs[f]?=some fn) (hb:fn.body=some c) (aF:(fn.name== "runtime.NumGoroutine")=false)
  (h: ∀iW:cM,iW.n=H.length→WpS P c (tQ P fn Q) (zf fn args H)):dI P f args H Q:=by
 refine⟨by simp[u2,hf,hb,aF],?_⟩
 intro E vs aF aV aI
 letI:cM:=⟨H.length⟩
 refine calls_of_wp hf hb (wp_mono (h ⟨H.length⟩ rfl E E {tmps:=vs.toArray++Array.replicate (fn.ntmps - vs.toArray.size) undef,defers:=[]} (Good.refl aV.fresh aF) ⟨aV,(fun t c hm=>by rw[aF t] at hm;cases hm),fun t=> ?_,?_⟩ rfl) ?_)
 ·show V3 E ((args++List.replicate (fn.ntmps - args.length) AV.undef).getD t AV.undef) _
  rcases Nat.lt_or_ge t args.length with bf | fT
  ·have h1:args[t]?=some args[t]:=List.getElem?_eq_getElem bf
   obtain⟨v,hv,aK⟩:=aI.get h1
   have Fz:t<vs.length:=aI.1▸bf
   have bA:(args++List.replicate (fn.ntmps - args.length) AV.undef).getD t .undef=args[t]:=by
    rw[List.getD_eq_getElem?_getD,List.getElem?_append_left bf,h1];rfl
   have e2:(vs.toArray++Array.replicate (fn.ntmps - vs.toArray.size) undef).getD t undef=v:=by
    rw[Array.getD_eq_getD_getElem?,Array.getElem?_append_left (by simpa using Fz)]
    simp[hv]
   rw[bA,e2];exact qm aK
  ·have bA:(args++List.replicate (fn.ntmps - args.length) AV.undef).getD t .undef= .undef:=by
    rw[List.getD_eq_getElem?_getD,List.getElem?_append_right fT,List.getElem?_replicate];split<;>rfl
   rw[bA];exact V3.undef _ _
 ·simp[zf,aI.1]
 ·rintro e a w ⟨hex,aJ,E',aj,hw,hg,hs,bj⟩
  have fin:tu P fn aJ Q→a.defers=[]∧ ∃v,(results fn a.tmps).run P w= .ok v w∧ ∃r Tc H' E',(Ending.returned v)= .returned Tc∧Q r H'∧E'.w=w∧(∀t,E'.mL t=none)∧SimH E' H'∧V3 E' r Tc∧Step E E':=by
   intro FG
   refine⟨bj,?_⟩
   subst hw
   have hm: ∀f:ResultVar→Sem Value,(∀t,f (.tmp t)=pure (a.tmps.getD t undef))→(∀b t,f (.cell b t)=do loadVar t (←asAddr (a.tmps.getD b undef)))→ ∃l kx,(l.all j5=true∧Q (sx l) aJ.H)∧(fn.results.mapM f).run P E'.w= .ok (List.toArray kx) E'.w∧aD (V3 E') l kx:=by
    intro f f1 f2
    obtain⟨l,kx,h1,aK,h2⟩:=HV hs f1 f2 _ _ FG
    exact⟨l,kx,h1,by rw[Array.mapM_eq_mapM_toList,Sem.run_map,aK];rfl,h2⟩
   obtain⟨f,Yd,Ye,hf2⟩:=acW fn a.tmps
   obtain⟨l,kx,⟨L_,XI⟩,aK,wP⟩:=hm f Ye hf2
   refine⟨if h:kx.toArray.size=1 then kx.toArray[0] else .tuple kx.toArray,?_,sx l,_,aJ.H,E'.b_,rfl,XI,rfl,fun _=>rfl,hs.h.b_,?_,hg.toStep⟩
   ·rw[Yd,Sem.run_bind,aK];rfl
   ·cases l with
    | nil=>
     obtain rfl:=wP.xa
     exact⟨[],rfl,aD.nil⟩
    | cons x l=>
     obtain⟨u,ahr,rfl,hx,Mj⟩:=wP.cons_inv
     cases l with
     | nil=>
      obtain rfl:=Mj.xa
      show V3 E'.b_ x u
      have mA:j5 x=true:=by simpa using L_
      exact hx.b_ (by cases x<;>first | exact mA | (cases mA))
     | cons y l=>
      obtain⟨z,agu,rfl,hy,ahh⟩:=Mj.cons_inv
      have cK: ¬(List.toArray (u::z::agu)).size=1:=by simp
      rw[dif_neg cK]
      refine⟨_,rfl,?_⟩
      refine⟨wP.1,fun i p q Mi YU=> ?_⟩
      have hv:=wP.2 i p q Mi YU
      have mA:j5 p=true:=List.all_eq_true.1 L_ p (List.mem_of_getElem? Mi)
      have bu: ∀l,p≠ .tup l:=by
       intro l e;subst e;cases mA
      exact TL mA hv bu
  cases e with
  | normal=>exact fin aj
  | ret=>exact fin aj
  | exit id=>exact aj.elim
  | _=>cases hex
inductive ga (L:List (Nat×List AV)) (H:List Blk):AV→AV→Prop where
 | undef (a:AV):ga L H a .undef
 | int (k:IntKind) (n:Int):ga L H (.int k n) (.int k n)
 | bool (b:Bool):ga L H (.bool b) (.bool b)
 | str (s:ByteArray):ga L H (.str s) (.str s)
 | gf:ga L H .gf .gf
 | gC:ga L H .gC .gC
 | bD (rows:List (List AV)) (full fr eD:Bool) (hw:eD=true→full=true):ga L H (.bD rows full fr) (.bD rows eD false)
 | dA (cells:List AV) (c:Nat):ga L H (.dA cells c) (.dA cells c)
 | fG {t c:Nat} {cells g3:List AV} (h:eW L t=some cells) (aL:cells.length=g3.length)
   (aK: ∀(j:Nat) (a b:AV),cells[j]?=some a→g3[j]?=some b→ga L H a b):ga L H (.fG t c) (.dA g3 c)
 | ptr {b g r c:Nat} {blk:Blk} {row row':List AV} (hb:H[b]?=some blk) (hg:blk.bF=g) (eX:blk.rows[r]?=some row) (aL:row.length=row'.length)
   (aK: ∀(j:Nat) (a b:AV),row[j]?=some a→row'[j]?=some b→ga L H a b):ga L H (.ptr b g r c) (.dA row' c)
 | ref {b g off n:Nat} {full eD:Bool} {blk:Blk} {iN:List (List AV)} (hw:eD=true→full=true) (hb:H[b]?=some blk) (hg:blk.bF=g) (aF:iN.length=n) (g6:n≤4611686018427387904) (aC:off+n≤blk.rows.length)
   (aL: ∀(i:Nat) (row row':List AV),blk.rows[off+i]?=some row→iN[i]?=some row'→row.length=row'.length)
   (aK: ∀(i j:Nat) (row row':List AV) (a c:AV),blk.rows[off+i]?=some row→iN[i]?=some row'→row[j]?=some a→row'[j]?=some c→ga L H a c):
   ga L H (.ref b g off n full) (.bD iN eD false)
 | fn {f:FuncId} {caps yo:List AV} (aL:caps.length=yo.length) (aK: ∀(j:Nat) (a b:AV),caps[j]?=some a→yo[j]?=some b→ga L H a b):ga L H (.fn f caps) (.fn f yo)
def da (L:List (Nat×List AV)) (H:List Blk) (a b:AV):Prop:=
 (∃l fq,a= .agg l∧b= .agg fq∧aD (ga L H) l fq)∨ga L H a b
def Env.frozen (E:Env):Env:={w:=E.w,PA:=fun c=>E.PA c∨E.gS c∨E.kJ c,PF:=fun _=>False,m:=fun _=>none,bF:=fun _=>0,sz:=fun _=>0,cp:=fun _=>0,mL:=fun _=>none}
theorem Lj {E:Env} {H:List Blk} (h:SimH E H):SimH E.frozen [] where
 heap:=fun b c hb=>by cases hb
 fg:=fun b blk hb=>by simp at hb
 hE:=fun b hb=>by cases hb
 fresh:=fun b _=>⟨rfl,rfl⟩
 h6:=fun b ct c hb=>by cases hb
 jK:=fun t jR c hb=>by cases hb
 gT:=fun b t c hb=>by cases hb
 h7:=fun c _ ⟨b,hb⟩=>by cases hb
 iw:=fun c _ ⟨b,hb⟩=>by cases hb
 e0:=fun c hc=>hc.elim
 fc:=fun c hc=>hc.elim (h.fc c) fun hc=>hc.elim (h.gB c) (h.g_ c)
 gB:=fun c ⟨b,hb⟩=>by cases hb
 g_:=fun c ⟨b,hb⟩=>by cases hb
theorem Dx {E:Env} {a:AV} {v:Value} (h:fv E a v):cN E a v:=by
 by_cases hf: ∃f caps,a= .fn f caps
 ·obtain⟨f,caps,rfl⟩:=hf
  exact bH.v1 h
 ·rw[rF fun f c e=>hf ⟨f,c,e⟩];exact h
theorem QN {L kC:List (Nat×List AV)} {H fe:List Blk} {E:Env} (sub:Sub L H kC fe) (aV:SimH E fe) (b3:SimL E kC) {a b:AV} (h:ga L H a b):
  ∀{v:Value},cN E a v→bH E.w (fun c=>E.PA c∨E.gS c∨E.kJ c) (fun _=>False) b v:=by
 induction h with
 | undef a=>intro v _;exact .undef v
 | int k n=>intro v hv;have hv:bH E.w E.PA E.PF (.int k n) v:=hv;cases hv;exact .int _ _
 | bool k=>intro v hv;have hv:bH E.w E.PA E.PF (.bool k) v:=hv;cases hv;exact .bool _
 | str k=>intro v hv;have hv:bH E.w E.PA E.PF (.str k) v:=hv;cases hv;exact .str _
 | gf=>intro v hv;have hv:bH E.w E.PA E.PF .gf v:=hv;cases hv;exact .gf
 | gC=>intro v hv;have hv:bH E.w E.PA E.PF .gC v:=hv;cases hv;exact .gC
 | bD rows full fr eD hw=>
  intro v hv
  have hv:bH E.w E.PA E.PF (.bD rows full fr) v:=hv
  cases hv with
  | bD gl gQ hC cK fj ec=>
   exact .bD (fun c hc=>by
    have:=gl c hc
    simp only[Bool.false_eq_true,if_false]
    split at this
    ·exact .inl (aV.e0 c this)
    ·exact .inl this) gQ (fun h=>hC (hw h)) cK fj ec
 | dA cells c=>
  intro v hv
  have hv:bH E.w E.PA E.PF (.dA cells c) v:=hv
  cases hv with
  | dA hc fj ec=>exact .dA (.inl hc) fj fun j a aM=>(ec j a aM).mono (fun _ _=>rfl) (fun _ h=>h.elim) (fun c hc=> .inl hc) (fun _ h=>h)
 | @fG t c cells g3 hg aL aK bS=>
  intro v hv
  obtain⟨bl,hm,rfl⟩:=(show ∃bl,E.mL t=some bl∧v= .pointer (some ⟨bl,c,none⟩) from hv)
  obtain⟨AO,ba,ty,yW,hw,aI⟩:=b3 t bl hm
  obtain rfl:cells=AO:=by have:=sub.l _ _ hg;rw[yW] at this;exact(Option.some.inj this).symm
  have key:=bH.dA (w:=E.w) (PA:=fun c=>E.PA c∨E.gS c∨E.kJ c) (PF:=fun _=>False) (cells:=g3) (col:=c) (c:=bl) (o:=0) (vs:=fun j=>(ba[j]?).getD undef)
   (.inr (.inr ⟨t,hm⟩))
   (fun j aM=>by
    have bf:j<ba.size:=by have:=aI.1;simp at this;omega
    rw[Nat.zero_add]
    rw[cell_of hw (Array.getElem?_eq_getElem bf)]
    simp[Array.getElem?_eq_getElem bf])
   (fun j b aM=>by
    have bf:j<cells.length:=by have:=(List.getElem?_eq_some_iff.1 aM).1;omega
    obtain⟨u,hu,g7⟩:=aI.get (List.getElem?_eq_getElem bf)
    have:(ba[j]?).getD undef=u:=by rw[Array.getElem?_toList] at hu;rw[hu];rfl
    rw[this]
    exact bS j _ b (List.getElem?_eq_getElem bf) aM g7.up)
  rw[Nat.zero_add] at key
  exact key
 | @ptr b g r c blk row row' hb hg eX aL aK bS=>
  intro v hv
  have hb:=sub.h b blk hb
  have kk:=aV.fg b blk hb
  obtain⟨bl,hm,rfl⟩:=V3.CC (E:=E) (v:=v) (show V3 E (.ptr b g r c) v from hv) (kk.trans hg)
  obtain⟨blk',ba,ty,q1,dS,hw,mv,hlen,gz⟩:=aV.heap b bl hm
  obtain rfl:blk=blk':=by rw[hb] at q1;exact Option.some.inj q1
  exact bH.dA (vs:=fun j=>(ba[r*E.sz b+j]?).getD undef) (.inr (.inl ⟨b,hm⟩))
   (fun j aM=>by
    have bf:j<row.length:=by omega
    obtain⟨u,hu,_⟩:=gz.2 r j row _ eX (List.getElem?_eq_getElem bf)
    rw[cell_of hw hu,hu];rfl)
   (fun j dk aM=>by
    have bf:j<row.length:=by have:=(List.getElem?_eq_some_iff.1 aM).1;omega
    obtain⟨u,hu,g7⟩:=gz.2 r j row _ eX (List.getElem?_eq_getElem bf)
    rw[hu]
    exact bS j _ dk (List.getElem?_eq_getElem bf) aM g7.up)
 | @ref b g off n full eD blk iN FN hb hg aF g6 aC aL aK bS=>
  intro v hv
  have hb:=sub.h b blk hb
  have kk:=aV.fg b blk hb
  rcases(show fv E (.ref b g off n full) v from hv) with⟨bY,_⟩ | ⟨fT,bY⟩
  ·omega
  ·rcases bY with⟨_,_,my,A,rfl⟩ | ⟨c,cap,hm,rfl,o1,mw,qI⟩
   ·subst my
    obtain rfl:iN=[]:=List.eq_nil_of_length_eq_zero aF
    exact bH.bD (rows:=[]) (PB:=fun _=>False) (sz:=0) (vs:=fun _ _=>undef) (fun _ h=>h.elim) ⟨Nat.le_refl _,Nat.zero_le _⟩ (fun _=>rfl) (fun i row h=>by simp at h) (fun h=>by simp at h) (fun i j row a h=>by simp at h)
   ·obtain⟨blk',ba,ty,q1,dS,hw,mv,hlen,gz⟩:=aV.heap b c hm
    obtain rfl:blk=blk':=by rw[hb] at q1;exact Option.some.inj q1
    subst aF
    have eX: ∀i,i<iN.length→ ∃row,blk.rows[off+i]?=some row:=fun i hi=>⟨_,List.getElem?_eq_getElem (by omega)⟩
    refine bH.bD (PB:=fun c=>E.PA c∨E.gS c∨E.kJ c) (sz:=E.sz b) (vs:=fun i j=>(ba[(off+i)*E.sz b+j]?).getD undef) (fun c hc=>by simpa using hc) ⟨o1,g6⟩ (fun h=>mw (FN h))
     (fun i row' fa=> ?_) (fun lD=>⟨c,off*E.sz b,rfl,.inr (.inl ⟨b,hm⟩),fun i j hi aM=> ?_⟩) (fun i j row' a fa aM=> ?_)
    ·obtain⟨row,ie⟩:=eX i (List.getElem?_eq_some_iff.1 fa).1
     rw[←aL i row row' ie fa];exact gz.1 _ row ie
    ·obtain⟨row,ie⟩:=eX i hi
     have bf:j<row.length:=by rw[gz.1 _ row ie];exact aM
     obtain⟨u,hu,_⟩:=gz.2 (off+i) j row _ ie (List.getElem?_eq_getElem bf)
     rw[show off*E.sz b+(i*E.sz b+j)=(off+i)*E.sz b+j by rw[Nat.add_mul];omega,cell_of hw hu,hu];rfl
    ·obtain⟨row,ie⟩:=eX i (List.getElem?_eq_some_iff.1 fa).1
     have bf:j<row.length:=by rw[aL i row row' ie fa];exact(List.getElem?_eq_some_iff.1 aM).1
     obtain⟨u,hu,g7⟩:=gz.2 (off+i) j row _ ie (List.getElem?_eq_getElem bf)
     rw[hu]
     exact bS i j row row' _ a ie fa (List.getElem?_eq_getElem bf) aM g7.up
 | @fn f caps yo aL aK bS=>
  intro v hv
  obtain⟨vs,rfl,aI⟩:=(show ∃vs:List Value,v= .func (.func f) #[] vs.toArray∧aD (fv E) caps vs from hv)
  exact .fn (aL▸aI.1) fun i b u hb hu=>by
   have bf:i<caps.length:=by have:=(List.getElem?_eq_some_iff.1 hb).1;omega
   exact bS i _ b (List.getElem?_eq_getElem bf) hb (Dx (aI.2 i _ u (List.getElem?_eq_getElem bf) hu))
theorem QO {L kC:List (Nat×List AV)} {H fe:List Blk} {E:Env} (sub:Sub L H kC fe) (aV:SimH E fe) (b3:SimL E kC) {a b:AV} (h:da L H a b) {v:Value} (hv:V2 E a v):V2 E.frozen b v:=by
 rcases h with⟨l,fq,rfl,rfl,aI⟩ | h
 ·obtain⟨vs,rfl,aj⟩:=hv
  refine⟨vs,rfl,aI.1▸aj.1,fun i x u hx hu=> ?_⟩
  have bf:i<l.length:=by have:=(List.getElem?_eq_some_iff.1 hx).1;have:=aI.1;omega
  have aL:=List.getElem?_eq_getElem bf
  exact bH.v1 (E:=E.frozen) (QN sub aV b3 (aI.2 i _ x aL hx) (aj.2 i _ u aL hu))
 ·by_cases hf: ∃l,a= .agg l
  ·obtain⟨l,rfl⟩:=hf
   cases h with
   | undef=>exact bH.undef v
  ·rw[pu fun l e=>hf ⟨l,e⟩] at hv
   exact ql (bH.v1 (E:=E.frozen) (QN sub aV b3 h hv))
inductive gH (H:List Blk):AV→AV→Prop where
 | int (k:IntKind) (n:Int):gH H (.int k n) (.int k n)
 | bool (b:Bool):gH H (.bool b) (.bool b)
 | str (s:ByteArray):gH H (.str s) (.str s)
 | gf:gH H .gf .gf
 | gC:gH H .gC .gC
 | bD (rows:List (List AV)) (full eD:Bool) (hw:eD=true→full=true):gH H (.bD rows full true) (.bD rows eD true)
 | OC (full fr eD:Bool) (hw:eD=true→full=true):gH H (.bD [] full fr) (.bD [] eD true)
 | ref {b g off n:Nat} {full eD:Bool} {blk:Blk} {iN:List (List AV)} (hw:eD=true→full=true) (ba:Nat→Nat→AV) (hb:H[b]?=some blk) (hg:blk.bF=g) (aF:iN.length=n) (g6:n≤4611686018427387904) (aC:off+n≤blk.rows.length)
   (aL: ∀(i:Nat) (row row':List AV),blk.rows[off+i]?=some row→iN[i]?=some row'→row.length=row'.length)
   (aK: ∀(i j:Nat) (row:List AV) (a:AV),i<n→blk.rows[off+i]?=some row→row[j]?=some a→gH H a (ba i j))
   (hc: ∀(i j:Nat) (row':List AV) (c:AV),iN[i]?=some row'→row'[j]?=some c→c=kw (ba i j)):
   gH H (.ref b g off n full) (.bD iN eD true)
def sD (H:List Blk) (a b:AV):Prop:=(∃l fq,a= .agg l∧b= .agg fq∧aD (gH H) l fq)∨gH H a b
def im (H:List Blk) (a b:AV):Prop:=(∃l fq,a= .tup l∧b= .tup fq∧aD (sD H) l fq)∨sD H a b
theorem ad5 {H:List Blk} {a b:AV} (h:gH H a b):jD b=true:=by cases h<;>rfl
theorem QQ {H:List Blk} {E:Env} (aV:SimH E H) {a b:AV} (h:gH H a b):
  ∀{v:Value},cN E a v→bH E.w (fun c=>E.PF c∨E.gS c) (fun c=>E.PF c∨E.gS c) b v:=by
 induction h with
 | int k n=>intro v hv;have hv:bH E.w E.PA E.PF (.int k n) v:=hv;cases hv;exact .int _ _
 | bool k=>intro v hv;have hv:bH E.w E.PA E.PF (.bool k) v:=hv;cases hv;exact .bool _
 | str k=>intro v hv;have hv:bH E.w E.PA E.PF (.str k) v:=hv;cases hv;exact .str _
 | gf=>intro v hv;have hv:bH E.w E.PA E.PF .gf v:=hv;cases hv;exact .gf
 | gC=>intro v hv;have hv:bH E.w E.PA E.PF .gC v:=hv;cases hv;exact .gC
 | bD rows full eD hw=>
  intro v hv
  have hv:bH E.w E.PA E.PF (.bD rows full true) v:=hv
  cases hv with
  | bD gl gQ hC cK fj ec=>exact .bD (fun c hc=>by have:=gl c hc;simp at this ⊢;exact .inl this) gQ (fun h=>hC (hw h)) cK fj ec
 | OC full fr eD hw=>
  intro v hv
  have hv:bH E.w E.PA E.PF (.bD [] full fr) v:=hv
  cases hv with
  | bD gl gQ hC cK fj ec=>exact bH.bD (rows:=[]) (PB:=fun _=>False) (sz:=0) (vs:=fun _ _=>undef) (fun _ h=>h.elim) gQ (fun h=>hC (hw h)) (fun i row h=>by simp at h) (fun h=>by simp at h) (fun i j row a h=>by simp at h)
 | @ref b g off n full eD blk iN FN ba hb hg aF g6 aC aL aK hc bS=>
  intro v hv
  have kk:=aV.fg b blk hb
  rcases(show fv E (.ref b g off n full) v from hv) with⟨bY,_⟩ | ⟨fT,bY⟩
  ·omega
  ·rcases bY with⟨_,_,my,A,rfl⟩ | ⟨c,cap,hm,rfl,o1,mw,qI⟩
   ·subst my
    obtain rfl:iN=[]:=List.eq_nil_of_length_eq_zero aF
    exact bH.bD (rows:=[]) (PB:=fun _=>False) (sz:=0) (vs:=fun _ _=>undef) (fun _ h=>h.elim) ⟨Nat.le_refl _,Nat.zero_le _⟩ (fun _=>rfl) (fun i row h=>by simp at h) (fun h=>by simp at h) (fun i j row a h=>by simp at h)
   ·obtain⟨blk',v3,ty,q1,dS,hw,mv,hlen,gz⟩:=aV.heap b c hm
    obtain rfl:blk=blk':=by rw[hb] at q1;exact Option.some.inj q1
    subst aF
    have eX: ∀i,i<iN.length→ ∃row,blk.rows[off+i]?=some row:=fun i hi=>⟨_,List.getElem?_eq_getElem (by omega)⟩
    refine bH.bD (PB:=fun c=>E.PF c∨E.gS c) (sz:=E.sz b) (vs:=fun i j=>(v3[(off+i)*E.sz b+j]?).getD undef) (fun c hc=>by simpa using hc) ⟨o1,g6⟩ (fun h=>mw (FN h))
     (fun i row' fa=> ?_) (fun lD=>⟨c,off*E.sz b,rfl,.inr ⟨b,hm⟩,fun i j hi aM=> ?_⟩) (fun i j row' a fa aM=> ?_)
    ·obtain⟨row,ie⟩:=eX i (List.getElem?_eq_some_iff.1 fa).1
     rw[←aL i row row' ie fa];exact gz.1 _ row ie
    ·obtain⟨row,ie⟩:=eX i hi
     have bf:j<row.length:=by rw[gz.1 _ row ie];exact aM
     obtain⟨u,hu,_⟩:=gz.2 (off+i) j row _ ie (List.getElem?_eq_getElem bf)
     rw[show off*E.sz b+(i*E.sz b+j)=(off+i)*E.sz b+j by rw[Nat.add_mul];omega,cell_of hw hu,hu];rfl
    ·have hi:=(List.getElem?_eq_some_iff.1 fa).1
     obtain⟨row,ie⟩:=eX i hi
     have bf:j<row.length:=by rw[aL i row row' ie fa];exact(List.getElem?_eq_some_iff.1 aM).1
     obtain⟨u,hu,g7⟩:=gz.2 (off+i) j row _ ie (List.getElem?_eq_getElem bf)
     have h1:=bS i j row _ hi ie (List.getElem?_eq_getElem bf) g7.up
     have h2:=ad5 (aK i j row _ hi ie (List.getElem?_eq_getElem bf))
     rw[hu,hc i j row' a fa aM]
     exact Jx h2 h1 (fun c hc=>hc) (fun c hc=>hc)
def b2 (P:Program) (f:FuncId) (args:List AV) (t:AV):Prop:=dI P f args [] fun r fe=>im fe r t
theorem Km {P:Program} {f:FuncId} {args ez:List AV} {t:AV} {L kC:List (Nat×List AV)} {H fe:List Blk} {E:Env} {vs:List Value} (sub:Sub L H kC fe) (aV:SimH E fe) (b3:SimL E kC)
  (a4:aD (V2 E) args vs) (hs:aD (da L H) args ez) (h:b2 P f ez t):
  Calls P f vs.toArray E.w fun e w'=> ∃v E',e= .returned v∧E'.w=w'∧lW E E'∧V3 E' t v:=by
 have ui:aD (V2 E.frozen) ez vs:=⟨hs.1▸a4.1,fun i x u hx hu=>by
  have bf:i<args.length:=by have:=(List.getElem?_eq_some_iff.1 hx).1;have:=hs.1;omega
  have aL:=List.getElem?_eq_getElem bf
  exact QO sub aV b3 (hs.2 i _ x aL hx) (a4.2 i _ u aL hu)⟩
 refine(h.2 E.frozen vs (fun _=>rfl) (Lj aV) ui).mono ?_
 rintro e w' ⟨r,v,H',E1,rfl,aK,rfl,aF,fK,hv,bi⟩
 let N:Nat→Prop:=fun c=>E1.PF c∨E1.gS c
 have kF: ∀c,N c→E.w.heap.size≤c∧c<E1.w.heap.size:=by
  rintro c (hc | hc)
  ·exact⟨(bi.fM c hc).elim (fun h=>h.elim) id,fK.fc c (fK.e0 c hc)⟩
  ·exact⟨(bi.qU c hc).elim (fun⟨b,hb⟩=>by cases hb) id,fK.gB c hc⟩
 have oZ: ∀c,c<E.w.heap.size→E1.w.heap[c]?=E.w.heap[c]?:=fun c hc=>bi.fh c hc (fun⟨b,hb⟩=>by cases hb) (fun⟨b,hb⟩=>by cases hb)
 let E':Env:={E with w:=E1.w,PA:=fun c=>E.PA c∨N c,PF:=fun c=>E.PF c∨N c}
 have aj:lW E E':=
  {step:=⟨⟨fun c hc=> .inl hc,fun c hc=> .inl hc,fun c hc=>oZ c (aV.fc c hc),fun c hc=>oZ c (aV.fc c (aV.e0 c hc)),fun _=>Nat.le_refl _,fun _ _ h _=>⟨h,rfl,rfl⟩,fun _ _ h=>h⟩,
    bi.os,bi.tape,bi.output,bi.size,fun c hc _ _=>oZ c hc,fun _ _ h=> .inl h,fun _ h=> .inl h,fun c hc=>hc.elim .inl (fun h=> .inr (kF c h).1),fun c hc=>hc.elim .inl (fun h=> .inr (kF c h).1)⟩
   m:=rfl,mL:=rfl,bF:=rfl,sz:=rfl,cp:=rfl
   fh:=oZ
   fL:=fun c hc=>hc.elim .inl (fun h=> .inr (kF c h))
   e0:=fun c hc=>hc.elim (fun h=> .inl (aV.e0 c h)) .inr}
 have up: ∀{b:AV} {u:Value},bH E1.w N N b u→cN E' b u:=fun h=>bH.v1 (E:=E') (h.mono (fun _ _=>rfl) (fun _ _=>rfl) (fun c hc=> .inr hc) (fun c hc=> .inr hc))
 have fs: ∀{a b:AV} {u:Value},gH H' a b→cN E1 a u→cN E' b u:=fun a4 hu=>up (QQ fK a4 hu)
 have fX: ∀{a b:AV} {u:Value},sD H' a b→V2 E1 a u→V2 E' b u:=by
  rintro a b u (⟨l,fq,rfl,rfl,aI⟩ | h) hu
  ·obtain⟨kx,rfl,aj⟩:=hu
   refine⟨kx,rfl,aI.1▸aj.1,fun i x y hx hy=> ?_⟩
   have bf:i<l.length:=by have:=(List.getElem?_eq_some_iff.1 hx).1;have:=aI.1;omega
   have aL:=List.getElem?_eq_getElem bf
   exact fs (aI.2 i _ x aL hx) (aj.2 i _ y aL hy)
  ·have:cN E1 a u:=by cases h<;>exact hu
   exact ql (fs h this)
 have fw: ∀{a b:AV} {u:Value},im H' a b→V3 E1 a u→V3 E' b u:=by
  rintro a b u (⟨l,fq,rfl,rfl,aI⟩ | h) hu
  ·obtain⟨kx,rfl,aj⟩:=hu
   refine⟨kx,rfl,aI.1▸aj.1,fun i x y hx hy=> ?_⟩
   have bf:i<l.length:=by have:=(List.getElem?_eq_some_iff.1 hx).1;have:=aI.1;omega
   have aL:=List.getElem?_eq_getElem bf
   exact fX (aI.2 i _ x aL hx) (aj.2 i _ y aL hy)
  ·have:V2 E1 a u:=by
    rcases h with⟨l,fq,rfl,rfl,aI⟩ | h
    ·exact hu
    ·cases h<;>exact hu
   exact qm (fX h this)
 exact⟨v,E',rfl,rfl,aj,fw aK hv⟩
def DO:AV→Bool
 | .agg _ | .tup _ | .fn _ _=>false
 | _=>true
def zq (fn:Fn) (first:Array Operand) (caps:List AV) (K:AV→Prop):Prop:=match fn with
 | .func f=>if first.isEmpty=true∧caps.all DO=true then K (.fn f caps) else False
 | _=>False
def e6:AV→Bool
 | .tup _=>false
 | _=>true
def l0 (x:AV) (K:FuncId→List AV→Prop):Prop:=match x with
 | .fn f caps=>K f caps
 | _=>False
def oS (P:Program) (f:FuncId) (args:List AV) (L:List (Nat×List AV)) (H:List Blk) (K:AV→Prop):Prop:=
 args.all e6=true∧ ∃ez t,aD (da L H) args ez∧b2 P f ez t∧K t
def Ew (P:Program) (c:Call) (bR:Operand→AV) (L:List (Nat×List AV)) (H:List Blk) (K:AV→Prop):Prop:=match c.callee with
 | .builtin .len=>(match c.args.toList,c.argTypes.toList with
  | [x],[t]=>e7 (j4 P t (bR x)) (r_ (bR x) K)
  | _,_=>False)
 | .value f=>l0 (bR f) fun g caps=>oS P g (c.args.toList.map bR++caps) L H K
 | _=>False
def sP (P:Program) (o:Oper) (bR:Operand→AV) (L:List (Nat×List AV)) (H:List Blk) (K:AV→Prop):Prop:=match o.op with
 | .move x=>K (bR x)
 | .assign x=>K (bR x)
 | .pick c a b=>oQ (bR c) fun z=>yh z (K (bR a)) (K (bR b))
 | .build t ps=>e7 (ps.toList.all fun p=>e6 (bR p.2)) (DK P t (ps.toList.map fun p=>(p.1,bR p.2)) K)
 | .buildSlice t n ps=>e7 (ps.toList.all fun p=>e6 (bR p.2)) (vZ P t n (ps.toList.map fun p=>(p.1,bR p.2)) K)
 | .load t a=>o4 P t (bR a) L H K
 | .nilCheck x=>Hg (bR x) K
 | .binOp op t x y _=>sI P op t (bR x) (bR y) (qW y) K
 | .unOp op _ x=>Dh op (bR x) K
 | .convert s d x=>D9 P s d (bR x) K
 | .makeFunc fn first caps=>zq fn first (caps.toList.map bR) K
 | .fieldAddr t x f=>EE P t (bR x) f K
 | .indexAddr t x i=>wZ P t (bR x) (bR i) H K
 | .index t x i=>FU P t (bR x) (bR i) K
 | .slice t x lo hi mx=>(match mx with
  | none=>vo P t (bR x) (lo.map bR) (hi.map bR) H K
  | some _=>False)
 | .extract x i=>EA (bR x) i K
 | .call c=>Ew P c bR L H K
 | _=>False
theorem Jz {P:Program} {o:Oper} {a:Act} {next:Act→World→Prop} {Q:Exit→Act→World→Prop} {s:Sem Value} {w w':World} {u:Value} (h:s.run P w= .ok u w') (k:next (a.put o.dst u) w'):
  o.upon P a next Q ((do pure (Next.value (←s)):Sem Next).run P w):=by
 rw[Sem.run_bind,h];exact k
theorem parts_eq (ps:Array (Nat×Operand)) (a:Act):(ps.toList.map fun p=>(p.1,a.eval p.2)).toArray=ps.map fun(i,x)=>(i,a.eval x):=by
 apply Array.ext'
 rw[Array.toList_map]
theorem Hq {E:Env} {a:Act} {T:List AV} (cj: ∀t,V3 E (T.getD t .undef) (a.tmps.getD t undef)) (ps:List (Nat×Operand)) (aF: ∀p∈ps,∀l,cv T p.2≠ .tup l):
  aD (fun(x:Nat×AV) (y:Nat×Value)=>x.1=y.1∧V2 E x.2 y.2) (ps.map fun p=>(p.1,cv T p.2)) (ps.map fun p=>(p.1,a.eval p.2)):=by
 refine⟨by simp,fun i x y hx hy=> ?_⟩
 rw[List.getElem?_map] at hx hy
 cases aI:ps[i]? with
 | none=>simp[aI] at hx
 | some p=>
  simp[aI] at hx hy
  subst hx;subst hy
  refine⟨rfl,?_⟩
  have:=opv_rel cj p.2
  rwa [oO (aF p (List.mem_of_getElem? aI))] at this
theorem J1 {E:Env} {a:Act} {T:List AV} (cj: ∀t,V3 E (T.getD t .undef) (a.tmps.getD t undef)) (xs:List Operand) (aF: ∀x∈xs,∀l,cv T x≠ .tup l):
  aD (V2 E) (xs.map (cv T)) (xs.map a.eval):=by
 refine⟨by simp,fun i x y hx hy=> ?_⟩
 rw[List.getElem?_map] at hx hy
 cases aI:xs[i]? with
 | none=>simp[aI] at hx
 | some p=>
  simp[aI] at hx hy
  subst hx;subst hy
  have:=opv_rel cj p
  rwa [oO (aF p (List.mem_of_getElem? aI))] at this
theorem xd {a:AV} (h:e6 a=true): ∀l,a≠ .tup l:=by
 intro l e;subst e;cases h
theorem O2 {E:Env} {a:Act} {T:List AV} (cj: ∀t,V3 E (T.getD t .undef) (a.tmps.getD t undef)) (x:Option Operand):
  Au E (x.map (cv T)) (x.map a.eval):=by
 cases x with
 | none=>trivial
 | some x=>exact opv_rel cj x
theorem Kn {E:Env} {a:Act} {T:List AV} (cj: ∀t,V3 E (T.getD t .undef) (a.tmps.getD t undef)) {f:Operand} {g:FuncId} {caps:List AV} (h:cv T f= .fn g caps):
  ∃vs:List Value,a.eval f= .func (.func g) #[] vs.toArray∧aD (V2 E) caps vs:=by
 have:=opv_rel cj f
 rw[h] at this
 obtain⟨vs,e,aI⟩:=(show ∃vs:List Value,a.eval f= .func (.func g) #[] vs.toArray∧aD (fv E) caps vs from this)
 exact⟨vs,e,aI.mono fun _ _ k=>ql (Dx k)⟩
theorem ac6 {P:Program} {f:FuncId} {w:World} {args:Array Value} (h:u2 P f=true):(callFunc f args).run P w= .ok (.enter f args) w:=by
 unfold u2 at h
 cases hf:P.funcs[f]? with
 | none=>simp[hf] at h
 | some fn=>
  simp[hf] at h
  obtain⟨h1,h2⟩:=h
  simp[callFunc,hf,h1]
  cases hb:fn.body with
  | none=>simp[hb] at h2
  | some c=>intro bY;cases bY
theorem P_ {P:Program} {c:Call} {a:Act} {ty:TypeId} {f:Operand} {g:FuncId} {vs:List Value} {w:World} (hc:c.callee= .value f) (hf:a.eval f= .func (.func g) #[] vs.toArray) (h:u2 P g=true):
  (do let d ←resolve a.eval c ty;invoke d.target d.args:Sem Next).run P w= .ok (.enter g (c.args.toList.map a.eval++vs).toArray) w:=by
 unfold resolve
 rw[hc]
 simp only[hf,Deferred.ofValue,Sem.run_bind,Sem.run_pure,Result.andThen_ok,invoke]
 rw[ac6 h]
 simp
def ya (E:Env) (o:Oper) (a:Act) (K:AV→Prop):Act→World→Prop:=fun io w'=> ∃v e9 E',K v∧E'.w=w'∧lW E E'∧V3 E' v e9∧io=a.put o.dst e9
set_option maxHeartbeats 4000000 in
theorem KZ {P:Program} {o:Oper} {a:Act} {T:List AV} {E:Env} {L kC:List (Nat×List AV)} {H fe:List Blk} {K:AV→Prop} {Q:Exit→Act→World→Prop}
  (cj: ∀t,V3 E (T.getD t .undef) (a.tmps.getD t undef)) (sub:Sub L H kC fe) (aV:SimH E fe) (b3:SimL E kC) (h:sP P o (cv T) L H K):o.wp P a E.w (ya E o a K) Q:=by
 have fin: ∀{s:Sem Value},(execOp a.eval o=(do pure (Next.value (←s))))→(∃r u E',K r∧s.run P E.w= .ok u E'.w∧lW E E'∧V3 E' r u)→o.wp P a E.w (ya E o a K) Q:=by
  rintro s hs ⟨r,u,E',hK,aK,aj,hv⟩
  unfold Oper.wp
  rw[hs]
  exact Jz aK ⟨r,u,E',hK,rfl,aj,hv,rfl⟩
 have pC: ∀{s:Sem Value},(execOp a.eval o=(do pure (Next.value (←s))))→(∃r u,K r∧s.run P E.w= .ok u E.w∧V3 E r u)→o.wp P a E.w (ya E o a K) Q:=by
  rintro s hs ⟨r,u,hK,aK,hv⟩
  exact fin hs ⟨r,u,E,hK,aK,lW.refl aV,hv⟩
 have zr: ∀x,execOp a.eval o=pure (.value (a.eval x))→K (cv T x)→o.wp P a E.w (ya E o a K) Q:=by
  intro x hs hK
  unfold Oper.wp
  rw[hs]
  exact⟨_,_,E,hK,rfl,lW.refl aV,opv_rel cj x,rfl⟩
 obtain⟨dst,op,ty,pos,after,guard⟩:=o
 cases op with
 | move x=>exact zr x rfl h
 | assign x=>exact zr x rfl h
 | pick c x y=>
  obtain⟨b,hb,h1,h2⟩:=AC (show oQ (cv T c) fun z=>yh z (K (cv T x)) (K (cv T y)) from h)
  have hv:=opv_rel cj c
  rw[hb] at hv
  have he:a.eval c= .bool b:=V3.rI hv
  cases b with
  | true=>exact zr x (by simp[execOp,he,asBool]) (h1 rfl)
  | false=>exact zr y (by simp[execOp,he,asBool]) (h2 rfl)
 | build t ps=>
  obtain⟨aF,h⟩:=p4 h
  have:=Ug (P:=P) (Hq cj ps.toList fun p aI=>xd (List.all_eq_true.1 aF p aI)) h
  exact pC (s:=Instr.build t (ps.toList.map fun p=>(p.1,a.eval p.2)).toArray) (by rw[parts_eq];rfl) this
 | buildSlice t n ps=>
  obtain⟨aF,h⟩:=p4 h
  have:=Kh (P:=P) aV (Hq cj ps.toList fun p aI=>xd (List.all_eq_true.1 aF p aI)) h
  exact fin (s:=Instr.buildSlice t n (ps.toList.map fun p=>(p.1,a.eval p.2)).toArray) (by rw[parts_eq];rfl) this
 | load t x=>
  obtain⟨r,u,hK,aK,hv⟩:=Oo sub aV b3 (opv_rel cj x) h
  exact pC (s:=Instr.loadAt t (a.eval x)) rfl ⟨r,u,hK,aK,qm hv⟩
 | nilCheck x=>
  have hx:=opv_rel cj x
  have h:Hg (cv T x) K:=h
  have key: ∀lX,a.eval x= .pointer (some lX)→K (cv T x)→Oper.wp P ⟨dst,.nilCheck x,ty,pos,after,guard⟩ a E.w (ya E ⟨dst,.nilCheck x,ty,pos,after,guard⟩ a K) Q:=by
   intro lX he hK
   exact zr x (by simp[execOp,he]) hK
  cases h4:cv T x with
  | fG s c=>
   rw[h4] at hx h
   obtain⟨bl,_,e⟩:=hx.zo
   exact key _ e (by rw[h4];exact h)
  | ptr b g r c=>
   rw[h4] at hx h
   rcases(show fv E (.ptr b g r c) _ from hx) with⟨_,bl,o,e⟩ | ⟨_,bl,_,e⟩<;>exact key _ e (by rw[h4];exact h)
  | dA cells c=>
   rw[h4] at hx h
   have jI:bH E.w E.PA E.PF (.dA cells c) (a.eval x):=hx
   generalize hv:a.eval x=v at jI
   cases jI;exact key _ hv (by rw[h4];exact h)
  | _=>rw[h4] at h;exact h.elim
 | binOp op t x y ty2=>
  have FQ:qW y=true→a.eval y= .slice none 0 0:=by
   intro bY
   unfold qW at bY
   split at bY
   ·rfl
   ·cases bY
  exact pC (s:=do eqGuard op t x y (a.eval x) (a.eval y);binOp op t (a.eval x) (a.eval y)) rfl (T7 (opv_rel cj x) (opv_rel cj y) FQ h)
 | unOp op t x=>exact pC (s:=Op.unary op (a.eval x)) rfl (ags (opv_rel cj x) h)
 | convert s d x=>exact pC (s:=Go.convert s d (a.eval x)) rfl (U0 (opv_rel cj x) h)
 | makeFunc fn first caps=>
  replace h:zq fn first (caps.toList.map (cv T)) K:=h
  cases fn with
  | func f=>
   replace h:if first.isEmpty=true∧(caps.toList.map (cv T)).all DO=true then K (.fn f (caps.toList.map (cv T))) else False:=h
   split at h
   ·rename_i hc
    obtain⟨h1,h2⟩:=hc
    have hf:first= #[]:=by simpa using h1
    subst hf
    refine pC (s:=Instr.makeFunc (.func f) (Array.map a.eval #[]) (caps.map a.eval)) rfl ⟨_,.func (.func f) #[] (caps.map a.eval),h,by simp[Instr.makeFunc],(caps.toList.map a.eval),by rw[←Array.toList_map,Array.toArray_toList],by simp,fun i x y hx hy=> ?_⟩
    rw[List.getElem?_map] at hx hy
    cases aI:caps.toList[i]? with
    | none=>simp[aI] at hx
    | some p=>
     simp[aI] at hx hy
     subst hx;subst hy
     have hv:=opv_rel cj p
     have e1:DO (cv T p)=true:=List.all_eq_true.1 h2 _ (List.mem_map.2 ⟨p,List.mem_of_getElem? aI,rfl⟩)
     cases aj:cv T p<;>rw[aj] at hv e1<;>first | exact hv | cases e1
   ·exact h.elim
  | _=>exact h.elim
 | fieldAddr t x f=>exact pC (s:=Instr.fieldAt t (a.eval x) f) rfl (VC (opv_rel cj x) h)
 | indexAddr t x i=>exact pC (s:=Instr.indexAt t (a.eval x) (a.eval i)) rfl (Zk sub aV (opv_rel cj x) (opv_rel cj i) h)
 | index t x i=>exact pC (s:=Instr.index t (a.eval x) (a.eval i)) rfl (Zt (opv_rel cj x) (opv_rel cj i) h)
 | slice t x lo hi mx=>
  cases mx with
  | none=>exact pC (s:=Instr.sliceAt t (a.eval x) (lo.map a.eval) (hi.map a.eval) none) rfl (adt sub aV (opv_rel cj x) (O2 cj lo) (O2 cj hi) h)
  | some m=>exact h.elim
 | extract x i=>exact pC (s:=Instr.extract (a.eval x) i) rfl (Vx (opv_rel cj x) h)
 | call c=>
  have h:Ew P c (cv T) L H K:=h
  obtain⟨callee,args,argTypes⟩:=c
  cases callee with
  | builtin b=>
   cases b with
   | len=>
    have h:(match args.toList,argTypes.toList with
     | [x],[t]=>e7 (j4 P t (cv T x)) (r_ (cv T x) K)
     | _,_=>False):=h
    split at h
    ·rename_i x t h1 h2
     obtain⟨YD,YE⟩:=p4 h
     obtain rfl:args= #[x]:=by rw[←Array.toArray_toList (xs:=args),h1]
     obtain rfl:argTypes= #[t]:=by rw[←Array.toArray_toList (xs:=argTypes),h2]
     obtain⟨r,u,hK,aK,hv⟩:=abm (P:=P) (ty:=ty) (opv_rel cj x) YD YE
     unfold Oper.wp
     have:(execOp a.eval ⟨dst,.call ⟨.builtin .len,#[x],#[t]⟩,ty,pos,after,guard⟩).run P E.w= .ok (.value u) E.w:=by
      simp only[execOp,resolve,Sem.run_bind,Sem.run_pure,Result.andThen_ok,invoke,builtin]
      have e:Array.map a.eval #[x]= #[a.eval x]:=by simp
      rw[e,aK];rfl
     rw[this]
     exact⟨r,u,E,hK,rfl,lW.refl aV,hv,rfl⟩
    ·exact h.elim
   | _=>exact h.elim
  | value f=>
   have h:l0 (cv T f) fun g caps=>oS P g (args.toList.map (cv T)++caps) L H K:=h
   cases hf:cv T f with
   | fn g caps=>
    rw[hf] at h
    obtain⟨aF,ez,t,hs,pM,hK⟩:=(show oS P g (args.toList.map (cv T)++caps) L H K from h)
    obtain⟨vs,he,uo⟩:=Kn cj hf
    unfold Oper.wp
    rw[show execOp a.eval ⟨dst,.call ⟨.value f,args,argTypes⟩,ty,pos,after,guard⟩=(do let d ←resolve a.eval ⟨.value f,args,argTypes⟩ ty;invoke d.target d.args) from rfl]
    rw[P_ (P:=P) (ty:=ty) (w:=E.w) (c:=⟨.value f,args,argTypes⟩) rfl he pM.1]
    have E_:aD (V2 E) (args.toList.map (cv T)++caps) (args.toList.map a.eval++vs):=
     aD.append (J1 cj args.toList fun x hx=>xd (List.all_eq_true.1 aF _ (by simp;exact .inl ⟨x,by simpa using hx,rfl⟩))) uo
    refine(Km sub aV b3 E_ hs pM).mono ?_
    rintro e w' ⟨v,E',rfl,rfl,aj,hv⟩
    exact⟨t,v,E',hK,rfl,aj,hv,rfl⟩
   | _=>rw[hf] at h;exact h.elim
  | _=>exact h.elim
 | _=>exact h.elim
theorem U8 (w:World) (o:Obj) (c:Nat) (h:c<w.heap.size):(w.drew.alloc o).heap[c]?=w.heap[c]?:=sE w.drew o c h
structure nt (w w':World) (o:Obj):Prop where
 os:w'.os=w.os
 tape:w'.tape=w.tape
 output:w'.output=w.output
 size:w'.heap.size=w.heap.size+1
 na: ∀c,c<w.heap.size→w'.heap[c]?=w.heap[c]?
 new:w'.heap[w.heap.size]?=some o
theorem nt.alloc (w:World) (o:Obj):nt w (w.alloc o) o:=⟨rfl,rfl,rfl,by simp,fun c hc=>sE w o c hc,JU w o⟩
theorem nt.U7 (w:World) (o:Obj):nt w (w.drew.alloc o) o:=⟨rfl,rfl,rfl,by simp,fun c hc=>U8 w o c hc,JU w.drew o⟩
theorem SimH.ext {E:Env} {H H':List Blk} (h:SimH E H) (hs: ∀(b:Nat) (blk:Blk),H[b]?=some blk→H'[b]?=some blk) (aL:H.length≤H'.length) (hg: ∀(b:Nat) (blk:Blk),H.length≤b→H'[b]?=some blk→blk.bF=0):SimH E H':=
 {h with
  heap:=fun b c hb=>by
   obtain⟨blk,ba,ty,q1,q⟩:=h.heap b c hb
   exact⟨blk,ba,ty,hs b blk q1,q⟩
  fg:=fun b blk hb=>by
   rcases Nat.lt_or_ge b H.length with bf | fT
   ·have h1:=List.getElem?_eq_getElem bf
    have h2:=hs b _ h1
    rw[hb] at h2
    cases h2
    exact h.fg b _ h1
   ·rw[(h.fresh b fT).2,hg b blk fT hb]
  hE:=fun b hb=>by
   obtain⟨blk,q1,q⟩:=h.hE b hb
   exact⟨blk,hs b blk q1,q⟩
  fresh:=fun b hb=>h.fresh b (Nat.le_trans aL hb)}
theorem SimH.snoc {E:Env} {H:List Blk} (h:SimH E H) {blk:Blk} (hg:blk.bF=0):SimH E (H++[blk]):=
 h.ext (fun b x hb=>by rw[List.getElem?_append_left (List.getElem?_eq_some_iff.1 hb).1];exact hb) (by simp) (fun b x hb hx=>by
  rw[List.getElem?_append_right hb] at hx
  have:b - H.length=0:=by
   rcases Nat.eq_zero_or_pos (b - H.length) with q | q
   ·exact q
   ·rw[List.getElem?_eq_none (by simp;omega)] at hx;cases hx
  rw[this] at hx;cases hx;exact hg)
theorem SimL.cons {E:Env} {L:List (Nat×List AV)} (h:SimL E L) {t:Nat} {cells:List AV} (aF:E.mL t=none):SimL E ((t,cells)::L):=fun s c hm=>by
 have:s≠t:=fun e=>by subst e;rw[aF] at hm;cases hm
 simp only[eW,if_neg this]
 exact h s c hm
theorem ON {E:Env} {H:List Blk} {L:List (Nat×List AV)} {w':World} {ba:Array Value} {ty:TypeId} {t:Nat} {cells:List AV} (aV:SimH E H) (b3:SimL E L) (hw:nt E.w w' (.cells ba ty (0,0)))
  (bu:eW L t=some cells) (hm:E.mL t=none) (hc:aD (cN E.b_) cells ba.toList):
  ∃E',E'.w=w'∧Step E E'∧SimH E' H∧SimL E' L∧V3 E' (.fG t 0) (.pointer (some ⟨E.w.heap.size,0,none⟩))∧E'.m=E.m∧(∀s,s≠t→E'.mL s=E.mL s):=by
 let E':Env:={E with w:=w',mL:=fun s=>if s=t then some E.w.heap.size else E.mL s}
 have bi:Step E E':=
  {le:=⟨fun _ h=>h,fun _ h=>h,fun c hc=>hw.na c (aV.fc c hc),fun c hc=>hw.na c (aV.fc c (aV.e0 c hc)),fun _=>Nat.le_refl _,fun _ _ h _=>⟨h,rfl,rfl⟩,fun s c h=>by
    show(if s=t then _ else _)=_
    rw[if_neg (fun e=>by subst e;rw[hm] at h;cases h)];exact h⟩
   os:=hw.os,tape:=hw.tape,output:=hw.output
   size:=by show E.w.heap.size≤w'.heap.size;rw[hw.size];omega
   fh:=fun c hc _ _=>hw.na c hc
   jq:=fun _ _ h=> .inl h
   jJ:=fun c ⟨s,hs⟩=>by
    have hs:(if s=t then some E.w.heap.size else E.mL s)=some c:=hs
    split at hs
    ·cases hs;exact .inr (Nat.le_refl _)
    ·exact .inl ⟨s,hs⟩
   fL:=fun _ h=> .inl h
   fM:=fun _ h=> .inl h}
 have hml: ∀s c,E'.mL s=some c→(s=t∧c=E.w.heap.size)∨(s≠t∧E.mL s=some c):=by
  intro s c hs
  have hs:(if s=t then some E.w.heap.size else E.mL s)=some c:=hs
  split at hs
  ·rename_i e;cases hs;exact .inl ⟨e,rfl⟩
  ·rename_i e;exact .inr ⟨e,hs⟩
 have km:=aV.gB
 have kn:=aV.g_
 refine⟨E',rfl,bi,?_,?_,⟨E.w.heap.size,by show(if t=t then _ else _)=_;rw[if_pos rfl],rfl⟩,rfl,fun s hs=>if_neg hs⟩
 ·exact{
   heap:=fun b c hb=>by
    obtain⟨blk,dF,jS,q1,dS,q2,q3,q4,cR,c4⟩:=aV.heap b c hb
    refine⟨blk,dF,jS,q1,dS,?_,q3,q4,cR,fun i j row a aK aM=> ?_⟩
    ·show w'.heap[c]?=_;rw[hw.na c (km c ⟨b,hb⟩)];exact q2
    ·obtain⟨u,hu,fa⟩:=c4 i j row a aK aM
     exact⟨u,hu,fa.le bi.le.b_⟩
   fg:=aV.fg
   hE:=aV.hE
   fresh:=aV.fresh
   h6:=aV.h6
   jK:=fun s s' c h1 h2=>by
    rcases hml s c h1 with⟨d1,bA⟩ | ⟨_,df⟩<;>rcases hml s' c h2 with⟨d2,e2⟩ | ⟨_,g9⟩
    ·rw[d1,d2]
    ·have:=kn c ⟨s',g9⟩;omega
    ·have:=kn c ⟨s,df⟩;omega
    ·exact aV.jK s s' c df g9
   gT:=fun b s c h1 h2=>by
    rcases hml s c h2 with⟨rfl,rfl⟩ | ⟨_,h2⟩
    ·have:=km _ ⟨b,h1⟩;omega
    ·exact aV.gT b s c h1 h2
   h7:=aV.h7
   iw:=fun c hc ⟨s,hs⟩=>by
    rcases hml s c hs with⟨rfl,rfl⟩ | ⟨_,hs⟩
    ·have:=aV.fc _ hc;omega
    ·exact aV.iw c hc ⟨s,hs⟩
   e0:=aV.e0
   fc:=fun c hc=>Nat.lt_of_lt_of_le (aV.fc c hc) bi.size
   gB:=fun c hc=>Nat.lt_of_lt_of_le (km c hc) bi.size
   g_:=fun c ⟨s,hs⟩=>by
    rcases hml s c hs with⟨rfl,rfl⟩ | ⟨_,hs⟩
    ·show _<w'.heap.size;rw[hw.size];omega
    ·exact Nat.lt_of_lt_of_le (kn c ⟨s,hs⟩) bi.size}
 ·intro s c hs
  rcases hml s c hs with⟨rfl,rfl⟩ | ⟨_,hs⟩
  ·exact⟨cells,ba,ty,bu,hw.new,hc.mono fun _ _ k=>k.le bi.le.b_⟩
  ·obtain⟨g3,dF,jS,q1,q2,q3⟩:=b3 s c hs
   exact⟨g3,dF,jS,q1,by show w'.heap[c]?=_;rw[hw.na c (kn c ⟨s,hs⟩)];exact q2,q3.mono fun _ _ k=>k.le bi.le.b_⟩
theorem w_ {E:Env} {H H':List Blk} {L:List (Nat×List AV)} {w':World} {ba:Array Value} {ty:TypeId} {b cap:Nat} {blk:Blk} (aV:SimH E H) (b3:SimL E L) (hw:nt E.w w' (.cells ba ty (0,0)))
  (hb:H'[b]?=some blk) (aC: ∀ct,ct≠b→H'[ct]?=H[ct]?) (hlen:b<H.length→H'.length=H.length) (BF:H.length≤H'.length)
  (kk:(E.m b=none∧blk.bF=E.bF b)∨E.bF b<blk.bF) (mv:ba.size=cap*blk.sz) (gQ:blk.rows.length≤cap)
  (aK:vO E blk.sz blk.rows ba):
  ∃E',E'.w=w'∧Step E E'∧SimH E' H'∧SimL E' L∧E'.bF b=blk.bF∧E'.m b=some (some E.w.heap.size)∧E'.sz b=blk.sz∧E'.cp b=cap∧(∀ct,ct≠b→E'.m ct=E.m ct)∧E'.mL=E.mL:=by
 let E':Env:={E with w:=w',m:=fun ct=>if ct=b then some (some E.w.heap.size) else E.m ct,bF:=fun ct=>if ct=b then blk.bF else E.bF ct,sz:=fun ct=>if ct=b then blk.sz else E.sz ct,cp:=fun ct=>if ct=b then cap else E.cp ct}
 have bi:Step E E':=
  {le:=⟨fun _ h=>h,fun _ h=>h,fun c hc=>hw.na c (aV.fc c hc),fun c hc=>hw.na c (aV.fc c (aV.e0 c hc)),fun ct=>by
     show _≤(if ct=b then _ else _)
     split
     ·rename_i e;subst e;rcases kk with⟨_,e⟩ | e<;>omega
     ·exact Nat.le_refl _,fun ct x hx hg=>by
     have pN:(if ct=b then blk.bF else E.bF ct)=E.bF ct:=hg
     have cm:ct≠b:=fun e=>by
      subst e
      rw[if_pos rfl] at pN
      rcases kk with⟨aF,_⟩ | e
      ·rw[aF] at hx;cases hx
      ·omega
     refine⟨?_,?_,?_⟩
     ·show(if ct=b then _ else _)=_;rw[if_neg cm];exact hx
     ·show(if ct=b then _ else _)=_;rw[if_neg cm]
     ·show(if ct=b then _ else _)=_;rw[if_neg cm],fun _ _ h=>h⟩
   os:=hw.os,tape:=hw.tape,output:=hw.output
   size:=by show E.w.heap.size≤w'.heap.size;rw[hw.size];omega
   fh:=fun c hc _ _=>hw.na c hc
   jq:=fun s c hs=>by
    have hs:(if s=b then some (some E.w.heap.size) else E.m s)=some (some c):=hs
    split at hs
    ·cases hs;exact .inr (Nat.le_refl _)
    ·exact .inl hs
   jJ:=fun _ h=> .inl h
   fL:=fun _ h=> .inl h
   fM:=fun _ h=> .inl h}
 have hm: ∀s c,E'.m s=some (some c)→(s=b∧c=E.w.heap.size)∨(s≠b∧E.m s=some (some c)):=by
  intro s c hs
  have hs:(if s=b then some (some E.w.heap.size) else E.m s)=some (some c):=hs
  split at hs
  ·rename_i e;cases hs;exact .inl ⟨e,rfl⟩
  ·rename_i e;exact .inr ⟨e,hs⟩
 have km:=aV.gB
 have kn:=aV.g_
 have cK: ∀s,s≠b→E'.sz s=E.sz s:=fun s hs=>if_neg hs
 have qI: ∀s,s≠b→E'.cp s=E.cp s:=fun s hs=>if_neg hs
 have BS:E'.sz b=blk.sz:=if_pos rfl
 have Fh:E'.cp b=cap:=if_pos rfl
 have LS:E'.bF b=blk.bF:=if_pos rfl
 refine⟨E',rfl,bi,?_,?_,LS,if_pos rfl,BS,Fh,fun ct ek=>if_neg ek,rfl⟩
 ·exact{
   heap:=fun s c hs=>by
    rcases hm s c hs with⟨rfl,rfl⟩ | ⟨cm,hs⟩
    ·refine⟨blk,ba,ty,hb,BS,hw.new,by rw[Fh,BS];exact mv,by rw[Fh];exact gQ,?_⟩
     rw[BS]
     exact⟨aK.1,fun i j row a h1 h2=>by obtain⟨u,hu,fa⟩:=aK.2 i j row a h1 h2;exact⟨u,hu,fa.le bi.le.b_⟩⟩
    ·obtain⟨blk',dF,jS,q1,dS,q2,q3,q4,cR,c4⟩:=aV.heap s c hs
     refine⟨blk',dF,jS,by rw[aC s cm];exact q1,by rw[cK s cm];exact dS,?_,by rw[qI s cm,cK s cm];exact q3,by rw[qI s cm];exact q4,by rw[cK s cm];exact cR,fun i j row a aK aM=> ?_⟩
     ·show w'.heap[c]?=_;rw[hw.na c (km c ⟨s,hs⟩)];exact q2
     ·obtain⟨u,hu,fa⟩:=c4 i j row a aK aM
      exact⟨u,by rw[cK s cm];exact hu,fa.le bi.le.b_⟩
   fg:=fun s x hs=>by
    by_cases e:s=b
    ·subst e;rw[hb] at hs;cases hs;exact LS
    ·rw[aC s e] at hs
     show(if s=b then _ else _)=_
     rw[if_neg e];exact aV.fg s x hs
   hE:=fun s hs=>by
    have hs:(if s=b then some (some E.w.heap.size) else E.m s)=some none:=hs
    split at hs
    ·cases hs
    ·rename_i e
     obtain⟨x,q1,q2⟩:=aV.hE s hs
     exact⟨x,by rw[aC s e];exact q1,by rw[cK s e];exact q2⟩
   fresh:=fun s hs=>by
    have bf:b<H'.length:=(List.getElem?_eq_some_iff.1 hb).1
    have e:s≠b:=by omega
    have:=aV.fresh s (by omega)
    exact⟨by show(if s=b then _ else _)=_;rw[if_neg e];exact this.1,by show(if s=b then _ else _)=_;rw[if_neg e];exact this.2⟩
   h6:=fun s s' c h1 h2=>by
    rcases hm s c h1 with⟨d1,bA⟩ | ⟨_,df⟩<;>rcases hm s' c h2 with⟨d2,e2⟩ | ⟨_,g9⟩
    ·rw[d1,d2]
    ·have:=km c ⟨s',g9⟩;omega
    ·have:=km c ⟨s,df⟩;omega
    ·exact aV.h6 s s' c df g9
   jK:=aV.jK
   gT:=fun s t c h1 h2=>by
    rcases hm s c h1 with⟨rfl,rfl⟩ | ⟨_,h1⟩
    ·have:=kn _ ⟨t,h2⟩;omega
    ·exact aV.gT s t c h1 h2
   h7:=fun c hc ⟨s,hs⟩=>by
    rcases hm s c hs with⟨rfl,rfl⟩ | ⟨_,hs⟩
    ·have:=aV.fc _ hc;omega
    ·exact aV.h7 c hc ⟨s,hs⟩
   iw:=aV.iw
   e0:=aV.e0
   fc:=fun c hc=>Nat.lt_of_lt_of_le (aV.fc c hc) bi.size
   gB:=fun c ⟨s,hs⟩=>by
    rcases hm s c hs with⟨rfl,rfl⟩ | ⟨_,hs⟩
    ·show _<w'.heap.size;rw[hw.size];omega
    ·exact Nat.lt_of_lt_of_le (km c ⟨s,hs⟩) bi.size
   g_:=fun c hc=>Nat.lt_of_lt_of_le (kn c hc) bi.size}
 ·intro s c hs
  obtain⟨g3,dF,jS,q1,q2,q3⟩:=b3 s c hs
  exact⟨g3,dF,jS,q1,by show w'.heap[c]?=_;rw[hw.na c (kn c ⟨s,hs⟩)];exact q2,q3.mono fun _ _ k=>k.le bi.le.b_⟩
theorem PZ {E:Env} {H:List Blk} {L:List (Nat×List AV)} {w':World} {b:Nat} {x:Option Nat} {blk blk':Blk} (aV:SimH E H) (b3:SimL E L)
  (hm:E.m b=some x) (hb:H[b]?=some blk) (hg:blk'.bF=blk.bF+1) (m5:blk'.sz=blk.sz)
  (aC:w'.os=E.w.os) (Y6:w'.tape=E.w.tape) (YK:w'.output=E.w.output) (cK:w'.heap.size=E.w.heap.size)
  (hw: ∀c,x≠some c→w'.heap[c]?=E.w.heap[c]?)
  (hx: ∀c,x=some c→ ∃ba ty,w'.heap[c]?=some (.cells ba ty (0,0))∧ba.size=E.cp b*E.sz b∧blk'.rows.length≤E.cp b∧vO E (E.sz b) blk'.rows ba):
  ∃E',E'.w=w'∧Step E E'∧SimH E' (H.set b blk')∧SimL E' L∧E'.bF b=blk'.bF∧E'.m=E.m∧E'.sz=E.sz∧E'.cp=E.cp∧E'.mL=E.mL:=by
 let E':Env:={E with w:=w',bF:=fun ct=>if ct=b then blk'.bF else E.bF ct}
 have kk:=aV.fg b blk hb
 have cm: ∀c,E.PA c→x≠some c:=fun c hc e=>aV.h7 c hc ⟨b,by rw[hm,e]⟩
 have bi:Step E E':=
  {le:=⟨fun _ h=>h,fun _ h=>h,fun c hc=>hw c (cm c hc),fun c hc=>hw c (cm c (aV.e0 c hc)),fun ct=>by
     show _≤(if ct=b then _ else _)
     split
     ·rename_i e;subst e;omega
     ·exact Nat.le_refl _,fun ct y hy Yl=>by
     have pN:(if ct=b then blk'.bF else E.bF ct)=E.bF ct:=Yl
     have wM:ct≠b:=fun e=>by subst e;rw[if_pos rfl] at pN;omega
     exact⟨hy,rfl,rfl⟩,fun _ _ h=>h⟩
   os:=aC,tape:=Y6,output:=YK
   size:=by show E.w.heap.size≤w'.heap.size;rw[cK];exact Nat.le_refl _
   fh:=fun c hc h1 _=>hw c (fun e=>h1 ⟨b,by rw[hm,e]⟩)
   jq:=fun _ _ h=> .inl h
   jJ:=fun _ h=> .inl h
   fL:=fun _ h=> .inl h
   fM:=fun _ h=> .inl h}
 have qG:b<H.length:=(List.getElem?_eq_some_iff.1 hb).1
 refine⟨E',rfl,bi,?_,?_,if_pos rfl,rfl,rfl,rfl,rfl⟩
 ·exact{aV with
   heap:=fun s c hs=>by
    by_cases e:s=b
    ·subst e
     have Mq:x=some c:=by
      have:E.m s=some (some c):=hs
      rw[hm] at this;exact Option.some.inj this
     obtain⟨yk,ag5,ahp,q1,dS,q⟩:=aV.heap s c (by rw[hm,Mq])
     obtain rfl:blk=yk:=by rw[hb] at q1;exact Option.some.inj q1
     obtain⟨ba,ty,h1,h2,aP,a8⟩:=hx c Mq
     exact⟨blk',ba,ty,by rw[List.getElem?_set_self qG],dS.trans m5.symm,h1,h2,aP,a8.1,fun i j row a aK aM=>by
      obtain⟨u,hu,fa⟩:=a8.2 i j row a aK aM;exact⟨u,hu,fa.le bi.le.b_⟩⟩
    ·obtain⟨yk,dF,jS,q1,dS,q2,q3,q4,cR,c4⟩:=aV.heap s c hs
     refine⟨yk,dF,jS,by rw[List.getElem?_set_ne (fun h=>e h.symm)];exact q1,dS,?_,q3,q4,cR,fun i j row a aK aM=> ?_⟩
     ·show w'.heap[c]?=_
      rw[hw c (fun h=>e (aV.h6 s b c hs (by rw[hm,h])))];exact q2
     ·obtain⟨u,hu,fa⟩:=c4 i j row a aK aM
      exact⟨u,hu,fa.le bi.le.b_⟩
   fg:=fun s y hs=>by
    by_cases e:s=b
    ·subst e;rw[List.getElem?_set_self qG] at hs;cases hs;exact if_pos rfl
    ·rw[List.getElem?_set_ne (fun h=>e h.symm)] at hs
     show(if s=b then _ else _)=_
     rw[if_neg e];exact aV.fg s y hs
   hE:=fun s hs=>by
    obtain⟨y,q1,q2⟩:=aV.hE s hs
    by_cases e:s=b
    ·subst e
     obtain rfl:blk=y:=by rw[hb] at q1;exact Option.some.inj q1
     exact⟨blk',by rw[List.getElem?_set_self qG],q2.trans m5.symm⟩
    ·exact⟨y,by rw[List.getElem?_set_ne (fun h=>e h.symm)];exact q1,q2⟩
   fresh:=fun s hs=>by
    rw[List.length_set] at hs
    have e:s≠b:=by omega
    have:=aV.fresh s hs
    exact⟨this.1,by show(if s=b then _ else _)=_;rw[if_neg e];exact this.2⟩
   fc:=fun c hc=>Nat.lt_of_lt_of_le (aV.fc c hc) bi.size
   gB:=fun c hc=>Nat.lt_of_lt_of_le (aV.gB c hc) bi.size
   g_:=fun c hc=>Nat.lt_of_lt_of_le (aV.g_ c hc) bi.size}
 ·intro s c hs
  obtain⟨g3,dF,jS,q1,q2,q3⟩:=b3 s c hs
  refine⟨g3,dF,jS,q1,?_,q3.mono fun _ _ k=>k.le bi.le.b_⟩
  show w'.heap[c]?=_
  rw[hw c (fun e=>aV.gT b s c (by rw[hm,e]) hs)];exact q2
theorem Cj {E:Env} {H:List Blk} {L:List (Nat×List AV)} {blk:Blk} (aV:SimH E H) (b3:SimL E L) (hg:blk.bF=0) (aK:blk.rows=[]):
  ∃E',E'.w=E.w∧Step E E'∧SimH E' (H++[blk])∧SimL E' L∧E'.bF H.length=0∧E'.m H.length=some none∧(∀b,b≠H.length→E'.m b=E.m b)∧E'.mL=E.mL:=by
 have hs:=aV.snoc hg
 have aF:=aV.fresh H.length (Nat.le_refl _)
 let E':Env:={E with m:=fun b=>if b=H.length then some none else E.m b,sz:=fun b=>if b=H.length then blk.sz else E.sz b}
 have rX: ∀b c,E'.m b=some (some c)→E.m b=some (some c)∧b≠H.length:=by
  intro b c h
  have h:(if b=H.length then some none else E.m b)=some (some c):=h
  split at h
  ·cases h
  ·exact⟨h,by assumption⟩
 have bi:Step E E':=
  {le:=⟨fun _ h=>h,fun _ h=>h,fun _ _=>rfl,fun _ _=>rfl,fun _=>Nat.le_refl _,fun b x hx _=>by
     have cm:b≠H.length:=fun e=>by subst e;rw[aF.1] at hx;cases hx
     exact⟨by show(if b=H.length then _ else _)=_;rw[if_neg cm];exact hx,by show(if b=H.length then _ else _)=_;rw[if_neg cm],rfl⟩,fun _ _ h=>h⟩
   os:=rfl,tape:=rfl,output:=rfl,size:=Nat.le_refl _
   fh:=fun _ _ _ _=>rfl
   jq:=fun b c h=> .inl (rX b c h).1
   jJ:=fun _ h=> .inl h
   fL:=fun _ h=> .inl h
   fM:=fun _ h=> .inl h}
 refine⟨E',rfl,bi,?_,fun s c hm=> ?_,aF.2,if_pos rfl,fun b hb=>if_neg hb,rfl⟩
 ·exact{hs with
   heap:=fun b c h=>by
    obtain⟨h,cm⟩:=rX b c h
    obtain⟨yk,dF,jS,q1,dS,q2,q3,q4,cR,c4⟩:=hs.heap b c h
    have cK:E'.sz b=E.sz b:=if_neg cm
    exact⟨yk,dF,jS,q1,by rw[cK];exact dS,q2,by rw[cK];exact q3,q4,by rw[cK];exact cR,fun i j row a aK aM=>by
     obtain⟨u,hu,fa⟩:=c4 i j row a aK aM
     exact⟨u,by rw[cK];exact hu,fa.le bi.le.b_⟩⟩
   hE:=fun b h=>by
    by_cases e:b=H.length
    ·subst e
     exact⟨blk,by simp,if_pos rfl⟩
    ·have h:E.m b=some none:=by
      have h:(if b=H.length then some none else E.m b)=some none:=h
      rwa [if_neg e] at h
     obtain⟨y,q1,q2⟩:=hs.hE b h
     exact⟨y,q1,by show(if b=H.length then _ else _)=_;rw[if_neg e];exact q2⟩
   fresh:=fun b h=>by
    have:=hs.fresh b h
    have e:b≠H.length:=by simp at h;omega
    exact⟨by show(if b=H.length then _ else _)=_;rw[if_neg e];exact this.1,this.2⟩
   h6:=fun b ct c h1 h2=>hs.h6 b ct c (rX b c h1).1 (rX ct c h2).1
   gT:=fun b t c h1 h2=>hs.gT b t c (rX b c h1).1 h2
   h7:=fun c hc ⟨b,h⟩=>hs.h7 c hc ⟨b,(rX b c h).1⟩
   gB:=fun c ⟨b,h⟩=>hs.gB c ⟨b,(rX b c h).1⟩}
 ·obtain⟨g3,dF,jS,q1,q2,q3⟩:=b3 s c hm
  exact⟨g3,dF,jS,q1,q2,q3.mono fun _ _ k=>k.le bi.le.b_⟩
def zN (fr:Bool) (row:List AV):List AV:=match fr with
 | true=>row.map pc
 | false=>row
def lL (fr:Bool) (rows:List (List AV)):List (List AV):=match fr with
 | true=>rows.map fun row=>row.map pc
 | false=>rows
theorem acU (fr:Bool) (rows:List (List AV)):lL fr rows=rows.map (zN fr):=by
 cases fr
 ·show rows=rows.map fun row=>row
  simp
 ·rfl
theorem acT (fr:Bool) (row:List AV):(zN fr row).length=row.length:=by
 cases fr<;>simp[zN]
def rowsOf (H:List Blk) (x:AV):Option (List (List AV)):=match x with
 | .bD rows _ fr=>some (lL fr rows)
 | .ref b g off n _=>(H[b]?).bind fun blk=>if blk.bF=g∧off+n≤blk.rows.length then some ((blk.rows.drop off).take n) else none
 | .str s=>some (s.data.toList.map fun c=>[.int .u8 c.toNat])
 | _=>none
def P6 (H:List Blk) (x:AV) (K:List (List AV)→Prop):Prop:=match x with
 | .bD rows _ fr=>K (lL fr rows)
 | .ref b g off n _=>c3 H[b]? fun blk=>blk.bF=g∧off+n≤blk.rows.length∧K ((blk.rows.drop off).take n)
 | .str s=>K (s.data.toList.map fun c=>[.int .u8 c.toNat])
 | _=>False
theorem ac1 {H:List Blk} {x:AV} {K:List (List AV)→Prop} (h:P6 H x K): ∃cn,rowsOf H x=some cn∧K cn:=by
 cases x with
 | bD rows full fr=>exact⟨_,rfl,h⟩
 | ref b g off n full=>
  obtain⟨blk,hb,h1,h2,aP⟩:=fC (show c3 H[b]? fun blk=>blk.bF=g∧off+n≤blk.rows.length∧K ((blk.rows.drop off).take n) from h)
  exact⟨_,by show(H[b]?).bind _=_;rw[hb];show(if blk.bF=g∧off+n≤blk.rows.length then _ else _)=_;rw[if_pos ⟨h1,h2⟩],aP⟩
 | str s=>exact⟨_,rfl,h⟩
 | _=>exact h.elim
def tX (P:Program) (e t2:TypeId) (x:AV):Bool:=match x with
 | .str _=>(match P.underlying t2 with
  | some .string=>(match P.underlying e with
   | some (.int .u8)=>P.cellsOf e==1
   | _=>false)
  | _=>false)
 | _=>(match P.underlying t2 with
  | some (.slice e2)=>e2==e
  | _=>false)
def re (n:Nat) (cn:List (List AV)):Prop:= ∀row∈cn,row.length=n∧ ∀a∈row,ji a=true
abbrev oI (r:Type):Type:=AV→List (Nat×List AV)→List Blk→r
def tW (P:Program) (t t2:TypeId) (s x:AV) (L:List (Nat×List AV)) (H:List Blk) (K:oI Prop):Prop:=
 c3 (jp P t) fun e=>c3 (nq P e) fun z=>if z.length=P.cellsOf e∧0<z.length∧tX P e t2 x=true then P6 H x fun cn=>
  re z.length cn∧(match s with
  | .bD rows full fr=>full=true∧(∀row∈rows,row.length=z.length)∧(rows.length+cn.length)*P.bytesOf e≤140737488355328∧rows.length+cn.length≤4611686018427387904∧(rows≠[]→cn≠[])∧
    K (.ref H.length 0 0 (rows.length+cn.length) false) L (H++[⟨0,z.length,rows++cn⟩])
  | .ref b g off n full=>off=0∧c3 H[b]? fun blk=>blk.bF=g∧blk.sz=z.length∧blk.rows.length=n∧(n+cn.length)*P.bytesOf e≤140737488355328∧n+cn.length≤4611686018427387904∧
    K (.ref b (g+1) 0 (n+cn.length) false) L (H.set b ⟨g+1,z.length,blk.rows++cn⟩)
  | _=>False)
 else False
structure Aw (P:Program) (E:Env) (t2:TypeId) (size:Nat) (cn:List (List AV)) (iU:Value) (news:List Value):Prop where
 len:news.length=cn.length*size
 rel: ∀(i j:Nat) (row:List AV) (a:AV),cn[i]?=some row→row[j]?=some a→ ∃u,news[i*size+j]?=some u∧cN E.b_ a u∧u.oneCell'=true
 one: ∀u∈news,u.oneCell'=true
 num:(∃e2,P.underlying t2=some (.slice e2))∨P.underlying t2=some .string
 lenOf: ∀w,(Builtin.lenOf iU).run P w= .ok cn.length w
 cells: ∀w,(w=E.w∨w=E.w.drew)→(Builtin.firstCells size cn.length iU).run P w= .ok news.toArray w
theorem OY {size:Nat} {cn:List (List AV)} {news:List Value} {R:AV→Value→Prop} (e1: ∀row∈cn,row.length=size) (len:news.length=cn.length*size)
  (rel: ∀(i j:Nat) (row:List AV) (a:AV),cn[i]?=some row→row[j]?=some a→ ∃u,news[i*size+j]?=some u∧R a u∧u.oneCell'=true): ∀u∈news,u.oneCell'=true:=by
 intro u hu
 obtain⟨k,hk⟩:=List.mem_iff_getElem?.1 hu
 have kH:k<cn.length*size:=by rw[←len];exact(List.getElem?_eq_some_iff.1 hk).1
 have lD:0<size:=by
  rcases Nat.eq_zero_or_pos size with q | q
  ·rw[q,Nat.mul_zero] at kH;omega
  ·exact q
 have hi:k / size<cn.length:=(Nat.div_lt_iff_lt_mul lD).2 kH
 have eX:=List.getElem?_eq_getElem hi
 have hlen:(cn[k / size]).length=size:=e1 _ (List.getElem_mem hi)
 have aM:k%size<(cn[k / size]).length:=by rw[hlen];exact Nat.mod_lt _ lD
 obtain⟨v,h1,h2,aP⟩:=rel (k / size) (k%size) _ _ eX (List.getElem?_eq_getElem aM)
 rw[Nat.div_add_mod' k size,hk] at h1
 cases h1;exact aP
theorem agI {P:Program} {e t2:TypeId} {x:AV} {cn:List (List AV)} {E:Env} {H:List Blk} {iU:Value} {size:Nat} (aV:SimH E H) (hx:V2 E x iU) (cK:size=P.cellsOf e) (bu:tX P e t2 x=true)
  (aK:rowsOf H x=some cn) (e1:re size cn): ∃news,Aw P E t2 size cn iU news:=by
 have BG: ∀row∈cn,row.length=size:=fun row h=>(e1 row h).1
 cases x with
 | bD rows full fr=>
  have hX:lL fr rows=cn:=Option.some.inj aK
  have bA:cn=rows.map (zN fr):=by rw[←hX];exact acU fr rows
  have BK:cn.length=rows.length:=by rw[bA,List.length_map]
  have lE: ∀row∈rows,row.length=size:=fun row h=>by
   rw[←acT fr row];exact BG _ (by rw[bA];exact List.mem_map_of_mem h)
  have hu: ∃e2,P.underlying t2=some (.slice e2):=by
   unfold tX at bu
   simp only at bu
   split at bu
   ·exact⟨_,by assumption⟩
   ·cases bu
  obtain⟨e2,hu⟩:=hu
  have jI:bH E.w E.PA E.PF (.bD rows full fr) iU:=hx
  cases jI with
  | @bD _ _ PB _ _ _ A cap sz vs gl gQ hC y9 fj ec=>
   let news:List Value:=(List.range (rows.length*size)).map fun k=>vs (k / size) (k%size)
   have mA:news.length=rows.length*size:=by simp[news]
   have hp: ∀i j,i<rows.length→j<size→news[i*size+j]?=some (vs i j):=by
    intro i j hi aM
    have hk:i*size+j<rows.length*size:=by
     calc i*size+j<i*size+size:=by omega
      _=(i+1)*size:=by rw[Nat.add_mul,Nat.one_mul]
      _≤rows.length*size:=Nat.mul_le_mul_right _ (by omega)
    show((List.range (rows.length*size)).map _)[i*size+j]?=_
    rw[List.getElem?_map,List.getElem?_range hk]
    have h1:(i*size+j) / size=i:=by
     rw[Nat.add_comm,Nat.add_mul_div_right _ _ (by omega),Nat.div_eq_of_lt aM];omega
    have h2:(i*size+j)%size=j:=by
     rw[Nat.add_comm,Nat.add_mul_mod_self_right,Nat.mod_eq_of_lt aM]
    simp[h1,h2]
   have rel: ∀(i j:Nat) (row:List AV) (a:AV),cn[i]?=some row→row[j]?=some a→ ∃u,news[i*size+j]?=some u∧cN E.b_ a u∧u.oneCell'=true:=by
    intro i j row a h1 h2
    have y7:=e1 row (List.mem_of_getElem? h1)
    have aM:j<size:=by rw[←y7.1];exact(List.getElem?_eq_some_iff.1 h2).1
    have hs:=y7.2 a (List.mem_of_getElem? h2)
    rw[bA,List.getElem?_map] at h1
    cases aj:rows[i]? with
    | none=>rw[aj] at h1;cases h1
    | some xE=>
     rw[aj] at h1
     have h1:zN fr xE=row:=Option.some.inj h1
     have k7:cN E.b_ a (vs i j):=by
      cases fr with
      | false=>
       have h1:xE=row:=h1
       subst h1
       exact bH.v1 (E:=E.b_) ((ec i j xE a aj h2).mono (fun _ _=>rfl) (fun _ h=>h.elim) (fun c hc=>show E.PA c by have:=gl c hc;simpa using this) (fun _ h=>h.elim))
      | true=>
       have h1:xE.map pc=row:=h1
       subst h1
       rw[List.getElem?_map] at h2
       cases kp:xE[j]? with
       | none=>rw[kp] at h2;cases h2
       | some J=>
        rw[kp] at h2
        have h2:pc J=a:=Option.some.inj h2
        subst h2
        exact bH.v1 (E:=E.b_) (acS (ec i j xE J aj kp) (fun c hc=>show E.PF c by have:=gl c hc;simpa using this) aV.e0)
     exact⟨_,hp i j (List.getElem?_eq_some_iff.1 aj).1 aM,k7,k7.Cp hs⟩
   refine⟨news,by rw[BK];exact mA,rel,OY BG (by rw[BK];exact mA) rel,.inl ⟨_,hu⟩,fun w=>by rw[BK];rfl,fun w hw=> ?_⟩
   rw[BK]
   have Fi: ∀a,w.cell? a=E.w.cell? a:=by rcases hw with rfl | rfl<;>intro a<;>rfl
   by_cases aO:rows.length=0
   ·have aF:news=[]:=List.eq_nil_of_length_eq_zero (by rw[mA,aO,Nat.zero_mul])
    rw[aF,aO]
    cases A with
    | none=>exact run_firstCells_none w size 0 _ _
    | some lX=>
     have:=run_firstCells_some (P:=P) w size 0 lX 0 cap [] (by simp) (fun j v h=>by simp at h)
     exact this
   ·obtain⟨c,o,rfl,hc,eE⟩:=fj (by omega)
    refine run_firstCells_some (P:=P) w size rows.length ⟨c,o,none⟩ rows.length cap news mA (fun k v hk=> ?_)
    have kH:k<rows.length*size:=by rw[←mA];exact(List.getElem?_eq_some_iff.1 hk).1
    have lD:0<size:=by
     rcases Nat.eq_zero_or_pos size with q | q
     ·rw[q,Nat.mul_zero] at kH;omega
     ·exact q
    have hi:k / size<rows.length:=(Nat.div_lt_iff_lt_mul lD).2 kH
    have aM:k%size<size:=Nat.mod_lt _ lD
    have Mo:sz=size:=by
     have:=y9 _ _ (List.getElem?_eq_getElem hi)
     rw[←this];exact lE _ (List.getElem_mem hi)
    have h1:=eE (k / size) (k%size) hi (by rw[Mo];exact aM)
    have h2:=hp (k / size) (k%size) hi aM
    rw[Nat.div_add_mod' k size] at h2
    rw[hk] at h2
    cases h2
    rw[n3,Fi]
    rw[Mo,Nat.div_add_mod' k size] at h1
    exact h1
 | ref b g off n full=>
  have hu: ∃e2,P.underlying t2=some (.slice e2):=by
   unfold tX at bu
   simp only at bu
   split at bu
   ·exact⟨_,by assumption⟩
   ·cases bu
  obtain⟨e2,hu⟩:=hu
  have aK:((H[b]?).bind fun blk=>if blk.bF=g∧off+n≤blk.rows.length then some ((blk.rows.drop off).take n) else none)=some cn:=aK
  cases hb:H[b]? with
  | none=>simp[hb] at aK
  | some blk=>
   simp only[hb,Option.bind_some] at aK
   split at aK
   case isFalse=>cases aK
   case isTrue hc=>
   obtain⟨hg,s4⟩:=hc
   cases aK
   have kk:=aV.fg b blk hb
   have o2:((blk.rows.drop off).take n).length=n:=by simp;omega
   have Zb: ∀i row,((blk.rows.drop off).take n)[i]?=some row→blk.rows[off+i]?=some row:=by
    intro i row h
    rw[List.getElem?_take] at h
    split at h
    ·rw[List.getElem?_drop] at h;exact h
    ·cases h
   rcases(show fv E (.ref b g off n full) iU from hx) with⟨bY,_⟩ | ⟨fT,bY⟩
   ·omega
   ·rcases bY with⟨_,_,my,A,rfl⟩ | ⟨c,cap,hm,rfl,o1,mw,qI⟩
    ·subst my
     refine⟨[],by simp,fun i j row a h=>by simp at h,(fun u hu=>by cases hu),.inl ⟨_,hu⟩,fun w=>by simp;rfl,fun w hw=> ?_⟩
     rw[o2]
     cases A with
     | none=>exact run_firstCells_none w size 0 _ _
     | some lX=>exact run_firstCells_some (P:=P) w size 0 lX 0 0 [] (by simp) (fun j v h=>by simp at h)
    ·obtain⟨blk',ba,ty,q1,dS,hw,mv,ol,gz⟩:=aV.heap b c hm
     obtain rfl:blk=blk':=by rw[hb] at q1;exact Option.some.inj q1
     by_cases my:n=0
     ·subst my
      refine⟨[],by simp,fun i j row a h=>by simp at h,(fun u hu=>by cases hu),.inl ⟨_,hu⟩,fun w=>by simp;rfl,fun w hw=> ?_⟩
      rw[o2]
      exact run_firstCells_some (P:=P) w size 0 _ 0 cap [] (by simp) (fun j v h=>by simp at h)
     ·have FM:E.sz b=size:=by
       have bf:off<blk.rows.length:=by omega
       have aU:((blk.rows.drop off).take n)[0]?=some blk.rows[off]:=by
        rw[List.getElem?_take,if_pos (by omega),List.getElem?_drop,Nat.add_zero,List.getElem?_eq_getElem bf]
       rw[←gz.1 off _ (List.getElem?_eq_getElem bf)]
       exact BG _ (List.mem_of_getElem? aU)
      let news:List Value:=(ba.toList.drop (off*size)).take (n*size)
      have XS:off*size+n*size≤ba.size:=by
       rw[mv,FM,←Nat.add_mul];exact Nat.mul_le_mul_right _ (by omega)
      have mA:news.length=n*size:=by simp[news];omega
      have Mc: ∀k,k<n*size→news[k]?=ba[off*size+k]?:=by
       intro k hk
       show((ba.toList.drop (off*size)).take (n*size))[k]?=_
       rw[List.getElem?_take,if_pos hk,List.getElem?_drop,Array.getElem?_toList]
      have rel: ∀(i j:Nat) (row:List AV) (a:AV),((blk.rows.drop off).take n)[i]?=some row→row[j]?=some a→ ∃u,news[i*size+j]?=some u∧cN E.b_ a u∧u.oneCell'=true:=by
       intro i j row a h1 h2
       have y7:=e1 row (List.mem_of_getElem? h1)
       have aM:j<size:=by rw[←y7.1];exact(List.getElem?_eq_some_iff.1 h2).1
       have hi:i<n:=by have:=(List.getElem?_eq_some_iff.1 h1).1;rw[o2] at this;exact this
       obtain⟨u,wT,wU⟩:=gz.2 (off+i) j row a (Zb i row h1) h2
       have hk:i*size+j<n*size:=by
        calc i*size+j<i*size+size:=by omega
         _=(i+1)*size:=by rw[Nat.add_mul,Nat.one_mul]
         _≤n*size:=Nat.mul_le_mul_right _ (by omega)
       refine⟨u,?_,wU,wU.Cp (y7.2 a (List.mem_of_getElem? h2))⟩
       rw[Mc _ hk,←wT,FM]
       congr 1
       rw[Nat.add_mul];omega
      refine⟨news,by rw[o2];exact mA,rel,OY BG (by rw[o2];exact mA) rel,.inl ⟨_,hu⟩,fun w=>by rw[o2];rfl,fun w e3=> ?_⟩
      have Fi: ∀a,w.cell? a=E.w.cell? a:=by rcases e3 with rfl | rfl<;>intro a<;>rfl
      rw[o2]
      refine run_firstCells_some (P:=P) w size n _ n cap news mA (fun k v hk=> ?_)
      have kH:k<n*size:=by rw[←mA];exact(List.getElem?_eq_some_iff.1 hk).1
      rw[Mc k kH] at hk
      rw[n3,Fi,FM]
      exact cell_of hw hk
 | str s=>
  obtain rfl:=V3.xO (qm hx)
  cases aK
  unfold tX at bu
  simp only at bu
  split at bu
  case h_2=>cases bu
  case h_1 hu=>
  split at bu
  case h_2=>cases bu
  case h_1 he=>
  have fK:size=1:=by rw[cK];simpa using bu
  subst fK
  have s6:s.data.toList.length=s.size:=by simp
  refine⟨s.data.toList.map fun c=> .int .u8 c.toNat,by simp,fun i j row a h1 h2=> ?_,fun u hu=> ?_,.inr hu,fun w=> ?_,fun w hw=> ?_⟩
  ·rw[List.getElem?_map] at h1
   cases hc:s.data.toList[i]? with
   | none=>rw[hc] at h1;cases h1
   | some c=>
    rw[hc] at h1
    cases h1
    have L1:j=0:=by have:=(List.getElem?_eq_some_iff.1 h2).1;simp at this;omega
    subst L1
    cases h2
    exact⟨.int .u8 c.toNat,by rw[List.getElem?_map,Nat.mul_one,Nat.add_zero,hc];rfl,bH.int _ _,rfl⟩
  ·obtain⟨c,_,rfl⟩:=List.mem_map.1 hu;rfl
  ·show Result.ok s.size w=_
   rw[List.length_map,s6]
  ·rw[List.length_map,s6]
   show Result.ok ((s.extract 0 s.size).data.map fun b=>Value.int .u8 b.toNat) w=_
   congr 1
   apply Array.ext'
   simp
 | _=>cases aK
section
variable {P:Program} {E:Env} {t t2 ty e:TypeId} {size:Nat} {cn:List (List AV)} {iU:Value} {news:List Value}
theorem P9 (X:Aw P E t2 size cn iU news) (bu:P.underlying t=some (.slice e)) (hi:(P.info? e).isSome=true) (cK:P.cellsOf e=size) {base:Option Addr} {sLen sCap:Nat} (aF:cn.length=0) (hc:sLen≤sCap):
  (Builtin.append_ #[t,t2] ty #[.slice base sLen sCap,iU]).run P E.w= .ok (.slice base sLen sCap) E.w:=by
 have aL:=X.lenOf E.w
 have hf:=X.cells E.w (.inl rfl)
 have Yw:news=[]:=List.eq_nil_of_length_eq_zero (by rw[X.len,aF,Nat.zero_mul])
 subst Yw
 rw[aF] at aL hf
 rcases X.num with⟨e2,hu⟩ | hu<;>
  (simp[Builtin.append_,run_underlying bu,run_underlying hu,run_sizeOf hi,cK,aL,hc,hf]
   cases base<;>simp[storeCells])
theorem ac3 (X:Aw P E t2 size cn iU news) (bu:P.underlying t=some (.slice e)) (hi:(P.info? e).isSome=true) (cK:P.cellsOf e=size) {g o sLen sCap:Nat} {db:Array Value} {ce:TypeId}
  (hg:E.w.heap[g]?=some (.cells db ce (0,0))) (wQ:sLen+cn.length≤sCap) (oo:o+sLen*size+news.length≤db.size):
  (Builtin.append_ #[t,t2] ty #[.slice (some ⟨g,o,none⟩) sLen sCap,iU]).run P E.w= .ok (.slice (some ⟨g,o,none⟩) (sLen+cn.length) sCap) (E.w.setRow g (db.toList.take (o+sLen*size)++news++db.toList.drop (o+sLen*size+news.length)).toArray):=by
 have aL:=X.lenOf E.w
 have hf:=X.cells E.w (.inl rfl)
 have bi:=run_storeCells_at (P:=P) g (o+sLen*size) ce news 0 db E.w hg (by simpa using oo) X.one
 simp only[Nat.add_zero] at bi
 rcases X.num with⟨e2,hu⟩ | hu<;>
  simp[Builtin.append_,run_underlying bu,run_underlying hu,run_sizeOf hi,cK,aL,wQ,hf,n3,bi]
theorem ac4 (X:Aw P E t2 size cn iU news) (bu:P.underlying t=some (.slice e)) {i:TypeInfo} (hi:P.info? e=some i) (cK:i.size=size) {z:Value} (aO:i.zero=some z) {base:Option Addr} {sLen sCap:Nat} {ks:Array Value}
  (holds:(Builtin.firstCells size sLen (.slice base sLen sCap)).run P E.w.drew= .ok ks E.w.drew) (hg:sCap<sLen+cn.length) (Bp:((sLen+cn.length:Nat):Int)≤9223372036854775807)
  (oo:Builtin.nextslicecap (sLen+cn.length) sCap*i.bytes≤281474976710656):
  (Builtin.append_ #[t,t2] ty #[.slice base sLen sCap,iU]).run P E.w= .ok (.slice (some ⟨E.w.heap.size,0,none⟩) (sLen+cn.length) (grownCap E.w (sLen+cn.length) sCap e))
   (E.w.drew.alloc (.cells (ks++news.toArray++Builtin.zeroCells z.cells (grownCap E.w (sLen+cn.length) sCap e - (sLen+cn.length))) e)):=by
 have aL:=X.lenOf E.w
 have hf:=X.cells E.w.drew (.inr rfl)
 subst cK
 have aF: ¬(sLen+cn.length≤sCap):=by omega
 have XA: ¬(9223372036854775807<((sLen:Int)+(cn.length:Int))):=by omega
 have Xy: ¬(281474976710656<Builtin.nextslicecap (sLen+cn.length) sCap*i.bytes):=by omega
 rcases X.num with⟨e2,hu⟩ | hu<;>
  simp[Builtin.append_,run_underlying bu,run_underlying hu,sizeOf,typeInfo,zeroValue,hi,aO,aL,aF,XA,Xy,Question.forced,hf,holds,newRow,grownCap]
end
theorem TW {P:Program} {t t2 ty:TypeId} {s x:AV} {L:List (Nat×List AV)} {H:List Blk} {K:AV→List (Nat×List AV)→List Blk→Prop} {E:Env} {xP iU:Value}
  (aV:SimH E H) (b3:SimL E L) (hs:V2 E s xP) (hx:V2 E x iU) (h:tW P t t2 s x L H K):
  ∃r u H' E',K r L H'∧(Builtin.append_ #[t,t2] ty #[xP,iU]).run P E.w= .ok u E'.w∧Step E E'∧SimH E' H'∧SimL E' L∧V3 E' r u∧E'.mL=E.mL:=by
 obtain⟨e,he,h⟩:=fC h
 obtain⟨z,aO,h⟩:=fC h
 have bu:=sO he
 split at h
 case isFalse=>exact h.elim
 case isTrue hc=>
 obtain⟨ox,lD,pI⟩:=hc
 obtain⟨cn,BZ,e1,h⟩:=ac1 h
 obtain⟨i,vJ,hi,uL,uJ,uK⟩:=vI (E:=E.b_) aO
 obtain⟨news,X⟩:=agI aV hx ox pI BZ e1
 have yZ:(P.info? e).isSome=true:=by rw[hi];rfl
 have wI:i.size=z.length:=by rw[ox];simp[Program.cellsOf,hi]
 have wG:i.bytes=P.bytesOf e:=by simp[Program.bytesOf,hi]
 have Zi:vJ.cells.size=z.length:=by rw[uJ];simp

 have out: ∀(base:Option Addr) (rows:List (List AV)) (sCap:Nat) (ks:Array Value) (b g:Nat) (H':List Blk),xP= .slice base rows.length sCap→
   (Builtin.firstCells z.length rows.length (.slice base rows.length sCap)).run P E.w.drew= .ok ks E.w.drew→ks.size=rows.length*z.length→
   (∀row∈rows,row.length=z.length)→(∀(i j:Nat) (row:List AV) (a:AV),rows[i]?=some row→row[j]?=some a→ ∃u,ks[i*z.length+j]?=some u∧cN E.b_ a u)→
   sCap<rows.length+cn.length→(rows.length+cn.length)*P.bytesOf e≤140737488355328→rows.length+cn.length≤4611686018427387904→
   H'[b]?=some ⟨g,z.length,rows++cn⟩→(∀ct,ct≠b→H'[ct]?=H[ct]?)→(b<H.length→H'.length=H.length)→H.length≤H'.length→((E.m b=none∧g=E.bF b)∨E.bF b<g)→
   K (.ref b g 0 (rows.length+cn.length) false) L H'→ ∃r u H' E',K r L H'∧(Builtin.append_ #[t,t2] ty #[xP,iU]).run P E.w= .ok u E'.w∧Step E E'∧SimH E' H'∧SimL E' L∧V3 E' r u∧E'.mL=E.mL:=by
  intro base rows sCap ks b g H' Y2 holds Mh lE YJ wQ hby g6 ek aC hlen BF kk hK
  subst Y2
  have fV:=ac4 (ty:=ty) X bu hi wI uL holds wQ (by omega) (growslice_fits (by omega) (by rw[wG];exact hby))
  have Fg:=grownCap_ge E.w (rows.length+cn.length) sCap e
  let cap:=grownCap E.w (rows.length+cn.length) sCap e
  let ba:Array Value:=ks++news.toArray++Builtin.zeroCells vJ.cells (cap - (rows.length+cn.length))
  have mv:ba.size=cap*z.length:=by
   show(ks++news.toArray++Builtin.zeroCells vJ.cells (cap - (rows.length+cn.length))).size=_
   have bA:(ks++news.toArray++Builtin.zeroCells vJ.cells (cap - (rows.length+cn.length))).size=ks.size+news.length+(Builtin.zeroCells vJ.cells (cap - (rows.length+cn.length))).size:=by simp;omega
   rw[bA,size_zeroCells,Zi,Mh,X.len,←Nat.add_mul,←Nat.add_mul]
   congr 1
   have:rows.length+cn.length≤cap:=Fg
   omega
  have gz:vO E z.length (rows++cn) ba:=by
   refine⟨fun k row aK=> ?_,fun k j row a aK aM=> ?_⟩
   ·rcases Nat.lt_or_ge k rows.length with bf | fT
    ·rw[List.getElem?_append_left bf] at aK;exact lE row (List.mem_of_getElem? aK)
    ·rw[List.getElem?_append_right fT] at aK;exact(e1 row (List.mem_of_getElem? aK)).1
   ·rcases Nat.lt_or_ge k rows.length with bf | fT
    ·rw[List.getElem?_append_left bf] at aK
     obtain⟨u,hu,hv⟩:=YJ k j row a aK aM
     refine⟨u,?_,hv⟩
     have kH:=(Array.getElem?_eq_some_iff.1 hu).1
     show(ks++news.toArray++_)[k*z.length+j]?=_
     rw[Array.getElem?_append_left (by rw[Array.size_append];omega),Array.getElem?_append_left kH];exact hu
    ·rw[List.getElem?_append_right fT] at aK
     obtain⟨u,hu,hv,_⟩:=X.rel _ j row a aK aM
     refine⟨u,?_,hv⟩
     have kH:=(List.getElem?_eq_some_iff.1 hu).1
     have ou:k*z.length+j=ks.size+((k - rows.length)*z.length+j):=by
      rw[Mh,←Nat.add_assoc,←Nat.add_mul];congr 2;omega
     show(ks++news.toArray++_)[k*z.length+j]?=_
     rw[ou,Array.getElem?_append_left (by simp;omega),Array.getElem?_append_right (by omega),Nat.add_sub_cancel_left]
     simpa using hu
  obtain⟨E',hw,bi,r0,r1,pN,nD,l_,Bt,_,hml⟩:=w_ (cap:=cap) (blk:=⟨g,z.length,rows++cn⟩) aV b3 (nt.U7 E.w (.cells ba e (0,0))) ek aC hlen BF kk mv (by
   show(rows++cn).length≤cap
   rw[List.length_append];exact Fg) gz
  refine⟨_,_,_,E',hK,by rw[hw];exact fV,bi,r0,r1,.inr ⟨pN.symm,.inr ⟨_,_,nD,?_,Fg,(fun h=>by cases h),?_⟩⟩,hml⟩
  ·rw[Nat.zero_mul]
  ·rw[Bt,Nat.zero_add];exact Nat.le_refl _
 cases s with
 | bD rows full fr=>
  obtain⟨hC,lE,hby,g6,cm,hK⟩:=h
  subst hC
  have l_:bH E.w E.PA E.PF (.bD rows true fr) xP:=hs
  cases l_ with
  | @bD _ _ PB _ _ _ A cap sz vs gl gQ hC cK fj ec=>
   have XW:=hC rfl
   subst XW
   by_cases h4:cn.length=0
   ·have B0:cn=[]:=List.eq_nil_of_length_eq_zero h4
    have pQ:rows=[]:=Classical.byContradiction fun bY=>cm bY B0
    subst pQ;subst B0
    obtain⟨E',hw,bi,r0,r1,pN,nD,_,hml⟩:=Cj (blk:=⟨0,z.length,[]++[]⟩) aV b3 rfl rfl
    have fV:=P9 (ty:=ty) X bu yZ ox.symm (base:=A) (sLen:=0) (sCap:=0) rfl (Nat.le_refl _)
    exact⟨_,_,_,E',hK,by rw[hw];exact fV,bi,r0,r1,.inr ⟨pN.symm,.inl ⟨nD,rfl,rfl,A,rfl⟩⟩,hml⟩
   ·have Y4:0<rows.length→sz=z.length:=fun aI=>by
     rw[←cK 0 _ (List.getElem?_eq_getElem aI)];exact lE _ (List.getElem_mem aI)
    let ks:List Value:=(List.range (rows.length*z.length)).map fun k=>vs (k / z.length) (k%z.length)
    have wN:ks.length=rows.length*z.length:=by simp[ks]
    have hp: ∀i j,i<rows.length→j<z.length→ks[i*z.length+j]?=some (vs i j):=by
     intro i j hi aM
     have hk:i*z.length+j<rows.length*z.length:=by
      calc i*z.length+j<i*z.length+z.length:=by omega
       _=(i+1)*z.length:=by rw[Nat.add_mul,Nat.one_mul]
       _≤rows.length*z.length:=Nat.mul_le_mul_right _ (by omega)
     show((List.range (rows.length*z.length)).map _)[i*z.length+j]?=_
     rw[List.getElem?_map,List.getElem?_range hk]
     have h1:(i*z.length+j) / z.length=i:=by
      rw[Nat.add_comm,Nat.add_mul_div_right _ _ (by omega),Nat.div_eq_of_lt aM];omega
     have h2:(i*z.length+j)%z.length=j:=by
      rw[Nat.add_comm,Nat.add_mul_mod_self_right,Nat.mod_eq_of_lt aM]
     simp[h1,h2]
    refine out A rows rows.length ks.toArray H.length 0 _ rfl ?_ (by simp[wN]) lE (fun i j row a h1 h2=> ?_) (by omega) hby g6 (by simp) (fun ct ek=> ?_) (fun bY=>by omega) (by simp) (.inl ⟨(aV.fresh _ (Nat.le_refl _)).1,(aV.fresh _ (Nat.le_refl _)).2.symm⟩) hK
    ·by_cases pQ:rows.length=0
     ·have aU:ks=[]:=List.eq_nil_of_length_eq_zero (by rw[wN,pQ,Nat.zero_mul])
      rw[aU,pQ]
      cases A with
      | none=>exact run_firstCells_none _ _ _ _ _
      | some lX=>exact run_firstCells_some (P:=P) _ z.length 0 lX 0 0 [] (by simp) (fun j v h=>by simp at h)
     ·obtain⟨c,o,rfl,hc,eE⟩:=fj (by omega)
      refine run_firstCells_some (P:=P) E.w.drew z.length rows.length ⟨c,o,none⟩ rows.length rows.length ks wN (fun k v hk=> ?_)
      have kH:k<rows.length*z.length:=by rw[←wN];exact(List.getElem?_eq_some_iff.1 hk).1
      have hi:k / z.length<rows.length:=(Nat.div_lt_iff_lt_mul lD).2 kH
      have aM:k%z.length<z.length:=Nat.mod_lt _ lD
      have r5:=Y4 (by omega)
      have h1:=eE (k / z.length) (k%z.length) hi (by rw[r5];exact aM)
      have h2:=hp (k / z.length) (k%z.length) hi aM
      rw[Nat.div_add_mod' k z.length] at h2
      rw[hk] at h2
      cases h2
      rw[r5,Nat.div_add_mod' k z.length] at h1
      rw[n3]
      exact h1
    ·have hi:=(List.getElem?_eq_some_iff.1 h1).1
     have aM:j<z.length:=by rw[←lE row (List.mem_of_getElem? h1)];exact(List.getElem?_eq_some_iff.1 h2).1
     refine⟨vs i j,by simpa using hp i j hi aM,bH.v1 (E:=E.b_) ((ec i j row a h1 h2).mono (fun _ _=>rfl) (fun _ h=>h.elim) (fun c hc=>by have:=gl c hc;split at this;exact aV.e0 c this;exact this) (fun _ h=>h.elim))⟩
    ·rcases Nat.lt_or_ge ct H.length with bf | fT
     ·rw[List.getElem?_append_left bf]
     ·rw[List.getElem?_eq_none fT,List.getElem?_eq_none (by simp;omega)]
 | ref b g off n full=>
  replace h:off=0∧c3 H[b]? fun blk=>blk.bF=g∧blk.sz=z.length∧blk.rows.length=n∧(n+cn.length)*P.bytesOf e≤140737488355328∧n+cn.length≤4611686018427387904∧
    K (.ref b (g+1) 0 (n+cn.length) false) L (H.set b ⟨g+1,z.length,blk.rows++cn⟩):=h
  obtain⟨YB,aj⟩:=h
  obtain⟨blk,hb,hg,m5,hn,hby,g6,hK⟩:=fC aj
  clear aj
  subst YB
  have kk:=aV.fg b blk hb
  have qG:b<H.length:=(List.getElem?_eq_some_iff.1 hb).1
  subst hn
  rcases(show fv E (.ref b g 0 blk.rows.length full) xP from hs) with⟨bY,_⟩ | ⟨fT,bY⟩
  ·omega
  ·rcases bY with⟨hm,_,my,A,rfl⟩ | ⟨c,cap,hm,rfl,o1,mw,qI⟩
   ·
    by_cases h4:cn.length=0
    ·have B0:cn=[]:=List.eq_nil_of_length_eq_zero h4
     subst B0
     obtain⟨E',hw,bi,r0,r1,pN,nD,y9,Bt,hml⟩:=PZ (w':=E.w) (x:=none) (blk':=⟨g+1,z.length,blk.rows++[]⟩) aV b3 hm hb (by show g+1=_;rw[hg]) m5.symm rfl rfl rfl rfl (fun _ _=>rfl) (fun c hc=>by cases hc)
     have fV:=P9 (ty:=ty) X bu yZ ox.symm (base:=A) (sLen:=0) (sCap:=0) rfl (Nat.le_refl _)
     refine⟨_,_,_,E',hK,by rw[hw];exact fV,bi,r0,r1,.inr ⟨pN.symm,.inl ⟨by rw[nD];exact hm,rfl,by simp[my],A,rfl⟩⟩,hml⟩
    ·have pQ:blk.rows=[]:=List.eq_nil_of_length_eq_zero my
     refine out A blk.rows 0 #[] b (g+1) _ (by rw[pQ];rfl) ?_ (by rw[pQ];simp) (fun row aK=>by rw[pQ] at aK;cases aK) (fun i j row a h1 h2=>by rw[pQ] at h1;simp at h1) (by omega) hby g6 (by rw[List.getElem?_set_self qG]) (fun ct ek=>List.getElem?_set_ne (fun h=>ek h.symm)) (fun _=>by simp) (by simp) (.inr (by omega)) hK
     rw[pQ]
     cases A with
     | none=>exact run_firstCells_none _ _ _ _ _
     | some lX=>exact run_firstCells_some (P:=P) _ z.length 0 lX 0 0 [] (by simp) (fun j v h=>by simp at h)
   ·obtain⟨blk',ba,jS,q1,dS,hw,mv,ol,gz⟩:=aV.heap b c hm
    obtain rfl:blk=blk':=by rw[hb] at q1;exact Option.some.inj q1
    have cK:E.sz b=z.length:=by rw[dS,m5]
    by_cases wQ:blk.rows.length+cn.length≤cap
    ·
     have X1:ba.size=E.cp b*z.length:=by rw[mv,cK]
     have hle:(blk.rows.length+cn.length)*z.length≤ba.size:=by rw[X1];exact Nat.mul_le_mul_right _ (by omega)
     have L8:blk.rows.length*z.length+news.length≤ba.size:=by rw[X.len,←Nat.add_mul];exact hle
     have fV:=ac3 (ty:=ty) (o:=0) X bu yZ ox.symm hw wQ (by rw[Nat.zero_add];exact L8)
     rw[Nat.zero_add] at fV
     let dF:Array Value:=(ba.toList.take (blk.rows.length*z.length)++news++ba.toList.drop (blk.rows.length*z.length+news.length)).toArray
     have LM: ∀k,dF[k]?=if k<blk.rows.length*z.length then ba.toList[k]? else if k<blk.rows.length*z.length+news.length then news[k - blk.rows.length*z.length]? else ba.toList[k]?:=by
      intro k
      show(List.toArray _)[k]?=_
      rw[List.getElem?_toArray,xM (by simpa using L8)]
     obtain⟨E',e3,bi,r0,r1,pN,nD,y9,Bt,hml⟩:=PZ (w':=E.w.setRow c dF) (x:=some c) (blk':=⟨g+1,z.length,blk.rows++cn⟩) aV b3 hm hb (by show g+1=_;rw[hg]) m5.symm rfl rfl rfl (by simp)
      (fun c' qH=>setRow_other _ _ _ _ (fun e=>qH (by rw[e]))) (fun c' qH=>by
       cases qH
       refine⟨dF,jS,setRow_heap _ _ _ _ _ _ hw,?_,by show(blk.rows++cn).length≤_;rw[List.length_append];omega,fun k row aK=> ?_,fun k j row a aK aM=> ?_⟩
       ·rw[←mv]
        show(List.toArray _).size=_
        simp;omega
       ·have aK:(blk.rows++cn)[k]?=some row:=aK
        rcases Nat.lt_or_ge k blk.rows.length with bf | By
        ·rw[List.getElem?_append_left bf] at aK;exact gz.1 k row aK
        ·rw[List.getElem?_append_right By] at aK;rw[cK];exact(e1 row (List.mem_of_getElem? aK)).1
       ·have aK:(blk.rows++cn)[k]?=some row:=aK
        rcases Nat.lt_or_ge k blk.rows.length with bf | By
        ·rw[List.getElem?_append_left bf] at aK
         obtain⟨u,hu,hv⟩:=gz.2 k j row a aK aM
         refine⟨u,?_,hv⟩
         have oY:j<z.length:=by rw[←cK,←gz.1 k row aK];exact(List.getElem?_eq_some_iff.1 aM).1
         have:k*z.length+j<blk.rows.length*z.length:=by
          calc k*z.length+j<k*z.length+z.length:=by omega
           _=(k+1)*z.length:=by rw[Nat.add_mul,Nat.one_mul]
           _≤blk.rows.length*z.length:=Nat.mul_le_mul_right _ (by omega)
         rw[cK] at hu ⊢
         rw[LM,if_pos this];simpa using hu
        ·rw[List.getElem?_append_right By] at aK
         obtain⟨u,hu,hv,_⟩:=X.rel _ j row a aK aM
         refine⟨u,?_,hv⟩
         have kH:=(List.getElem?_eq_some_iff.1 hu).1
         have ou:k*z.length+j=blk.rows.length*z.length+((k - blk.rows.length)*z.length+j):=by
          rw[←Nat.add_assoc,←Nat.add_mul];congr 2;omega
         rw[cK,LM,ou,if_neg (by omega),if_pos (by omega),Nat.add_sub_cancel_left];exact hu)
     refine⟨_,_,_,E',hK,by rw[e3];rw[Nat.zero_mul];exact fV,bi,r0,r1,.inr ⟨pN.symm,.inr ⟨c,cap,by rw[nD];exact hm,by simp,wQ,(fun h=>by cases h),by rw[Bt];omega⟩⟩,hml⟩
    ·
     refine out (some ⟨c,0,none⟩) blk.rows cap (ba.toList.take (blk.rows.length*z.length)).toArray b (g+1) _ (by rw[Nat.zero_mul]) ?_ ?_ (fun row aK=> ?_) (fun i j row a h1 h2=> ?_) (by omega) hby g6 (by rw[List.getElem?_set_self qG]) (fun ct ek=>List.getElem?_set_ne (fun h=>ek h.symm)) (fun _=>by simp) (by simp) (.inr (by omega)) hK
     ·refine run_firstCells_some (P:=P) E.w.drew z.length blk.rows.length ⟨c,0,none⟩ blk.rows.length cap _ ?_ (fun k v hk=> ?_)
      ·have:blk.rows.length*z.length≤ba.size:=by rw[mv,cK];exact Nat.mul_le_mul_right _ ol
       simp;omega
      ·rw[List.getElem?_take] at hk
       split at hk
       ·rw[n3,Nat.zero_add]
        exact cell_of (w:=E.w) hw (by simpa using hk)
       ·cases hk
     ·have:blk.rows.length*z.length≤ba.size:=by rw[mv,cK];exact Nat.mul_le_mul_right _ ol
      simp;omega
     ·obtain⟨k,hk⟩:=List.mem_iff_getElem?.1 aK
      rw[←cK];exact gz.1 k row hk
     ·obtain⟨u,hu,hv⟩:=gz.2 i j row a h1 h2
      refine⟨u,?_,hv⟩
      have hi:=(List.getElem?_eq_some_iff.1 h1).1
      have aM:j<z.length:=by rw[←cK,←gz.1 i row h1];exact(List.getElem?_eq_some_iff.1 h2).1
      have:i*z.length+j<blk.rows.length*z.length:=by
       calc i*z.length+j<i*z.length+z.length:=by omega
        _=(i+1)*z.length:=by rw[Nat.add_mul,Nat.one_mul]
        _≤blk.rows.length*z.length:=Nat.mul_le_mul_right _ (by omega)
      rw[List.getElem?_toArray,List.getElem?_take,if_pos this,Array.getElem?_toList,←cK]
      exact hu
 | _=>exact h.elim
def Dt (E:Env) (o:Oper) (a:Act) (K:oI Prop):Act→World→Prop:=fun io w'=>
 ∃v u L' H' E',K v L' H'∧E'.w=w'∧Step E E'∧SimH E' H'∧SimL E' L'∧V3 E' v u∧io=a.put o.dst u∧ ∀t,o.dst≠some t→E'.mL t=E.mL t
def AL:List Nat→Nat→Option Nat
 | [],_=>none
 | x::r,t=>match Nat.ble 2000000 x with
  | true=>(match Nat.beq ((x - 2000000)%1000) t with
   | true=>some ((x - 2000000) / 1000)
   | false=>AL r t)
  | false=>AL r t
def uY (esc:List Nat) (dst:Option Nat) (cells:List AV) (L:List (Nat×List AV)) (H:List Blk) (K:oI Prop):Prop:=
 if cells.all ji=true then match dst with
  | none=>False
  | some t=>match AL esc t with
   | some j=>c3 H[j]? fun blk=>K (.ptr j (blk.bF+1) 0 0) L (H.set j ⟨blk.bF+1,cells.length,[cells]⟩)
   | none=>if esc.contains t=true then K (.ptr H.length 0 0 0) L (H++[⟨0,cells.length,[cells]⟩]) else
    match eW L t with
    | none=>K (.fG t 0) ((t,cells)::L) H
    | some _=>False
 else False
theorem SimL.none {E:Env} {L:List (Nat×List AV)} (h:SimL E L) {t:Nat} (aF:eW L t=none):E.mL t=none:=by
 cases hm:E.mL t with
 | none=>rfl
 | some c=>
  obtain⟨cells,ba,ty,h1,_⟩:=h t c hm
  rw[aF] at h1;cases h1
theorem Jj {E:Env} {cells:List AV} {vs:List Value} (hs:cells.all ji=true) (h:aD (cN E) cells vs):aD (cN E.b_) cells vs:=
 ⟨h.1,fun i a v a4 hv=>Ji (List.all_eq_true.1 hs a (List.mem_of_getElem? a4)) (h.2 i a v a4 hv)⟩
theorem OO {E:Env} {H:List Blk} {L:List (Nat×List AV)} {esc:List Nat} {dst:Option Nat} {cells:List AV} {ba:Array Value} {ty:TypeId} {K:AV→List (Nat×List AV)→List Blk→Prop}
  (aV:SimH E H) (b3:SimL E L) (hc:aD (cN E) cells ba.toList) (h:uY esc dst cells L H K):
  ∃v L' H' E',K v L' H'∧E'.w=E.w.alloc (.cells ba ty (0,0))∧Step E E'∧SimH E' H'∧SimL E' L'∧V3 E' v (.pointer (some ⟨E.w.heap.size,0,none⟩))∧ ∀s,dst≠some s→E'.mL s=E.mL s:=by
 unfold uY at h
 split at h
 case isFalse=>exact h.elim
 case isTrue hs=>
 have qH:=Jj hs hc
 cases dst with
 | none=>exact h.elim
 | some t=>
  have h:match AL esc t with
   | some j=>c3 H[j]? fun blk=>K (.ptr j (blk.bF+1) 0 0) L (H.set j ⟨blk.bF+1,cells.length,[cells]⟩)
   | none=>if esc.contains t=true then K (.ptr H.length 0 0 0) L (H++[⟨0,cells.length,[cells]⟩]) else(match eW L t with
    | none=>K (.fG t 0) ((t,cells)::L) H
    | some _=>False):=h
  split at h
  ·rename_i j XU
   obtain⟨blk,yQ,hK⟩:=fC h
   have oY:=(List.getElem?_eq_some_iff.1 yQ).1
   have Yk:=aV.fg j blk yQ
   have hlen:ba.size=cells.length:=by have:=hc.1;simp at this;exact this.symm
   obtain⟨E',bA,e2,dV,iZ,iu,m0,A0,ub,_,hml⟩:=w_ (H:=H) (H':=H.set j ⟨blk.bF+1,cells.length,[cells]⟩) (b:=j) (cap:=1) (blk:=⟨blk.bF+1,cells.length,[cells]⟩) aV b3 (nt.alloc E.w (.cells ba ty (0,0)))
    (by rw[List.getElem?_set];simp[oY]) (fun ct ek=>by rw[List.getElem?_set,if_neg (fun e=>ek e.symm)]) (fun _=>by simp) (by simp) (.inr (by show E.bF j<blk.bF+1;omega)) (by simp[hlen]) (by simp)
    ⟨fun i row aK=>by
      cases i with
      | zero=>simp at aK;subst aK;rfl
      | succ i=>simp at aK,
     fun i j row a aK aM=>by
      cases i with
      | zero=>
       simp at aK;subst aK
       obtain⟨u,hu,hv⟩:=qH.get aM
       exact⟨u,by simpa using hu,hv⟩
      | succ i=>simp at aK⟩
   refine⟨_,_,_,E',hK,bA,e2,dV,iZ,.inr ⟨iu.symm,E.w.heap.size,m0,?_⟩,fun s _=>by rw[hml]⟩
   rw[Nat.zero_mul]
  split at h
  ·have hlen:ba.size=cells.length:=by have:=hc.1;simp at this;exact this.symm
   have yI:SimH E (H++[⟨0,cells.length,[cells]⟩]):=aV.snoc rfl
   obtain⟨wL,pO⟩:=aV.fresh H.length (Nat.le_refl _)
   obtain⟨E',bA,e2,dV,iZ,iu,m0,A0,ub,_,hml⟩:=w_ (H:=H++[⟨0,cells.length,[cells]⟩]) (H':=H++[⟨0,cells.length,[cells]⟩]) (b:=H.length) (cap:=1) (blk:=⟨0,cells.length,[cells]⟩) yI b3 (nt.alloc E.w (.cells ba ty (0,0)))
    (by simp) (fun _ _=>rfl) (fun _=>rfl) (Nat.le_refl _) (.inl ⟨wL,pO.symm⟩) (by simp[hlen]) (by simp)
    ⟨fun i row aK=>by
      cases i with
      | zero=>simp at aK;subst aK;rfl
      | succ i=>simp at aK,
     fun i j row a aK aM=>by
      cases i with
      | zero=>
       simp at aK;subst aK
       obtain⟨u,hu,hv⟩:=qH.get aM
       exact⟨u,by simpa using hu,hv⟩
      | succ i=>simp at aK⟩
   refine⟨_,_,_,E',h,bA,e2,dV,iZ,.inr ⟨iu.symm,E.w.heap.size,m0,?_⟩,fun s _=>by rw[hml]⟩
   rw[Nat.zero_mul]
  ·cases hg:eW L t with
   | some x=>rw[hg] at h;exact h.elim
   | none=>
    rw[hg] at h
    have hm:=b3.none hg
    obtain⟨E',bA,e2,dV,iZ,iu,_,hml⟩:=ON (L:=(t,cells)::L) (t:=t) (cells:=cells) aV (b3.cons hm) (nt.alloc E.w (.cells ba ty (0,0))) (by simp[eW]) hm qH
    exact⟨_,_,_,E',h,bA,e2,dV,iZ,iu,fun s hs=>hml s fun e=>hs (by rw[e])⟩
def mT:AV→AV
 | .bD rows _ fr=> .bD rows false fr
 | a=>a
theorem cN.mT {E:Env} {a:AV} {v:Value} (h:cN E a v):cN E (mT a) v:=by
 cases a with
 | bD rows full fr=>
  have h:bH E.w E.PA E.PF (.bD rows full fr) v:=h
  cases h with
  | bD gl gQ hC cK fj ec=>exact bH.bD gl gQ (fun h=>by cases h) cK fj ec
 | _=>exact h
theorem aD.mT {E:Env} {l:List AV} {m:List Value} (h:aD (cN E) l m):aD (cN E) (l.map mT) m:=by
 refine⟨by rw[List.length_map];exact h.1,fun i a v a4 hv=> ?_⟩
 rw[List.getElem?_map] at a4
 cases aL:l[i]? with
 | none=>rw[aL] at a4;cases a4
 | some b=>rw[aL] at a4;cases a4;exact(h.2 i b v aL hv).mT
def w8 (P:Program) (t:TypeId) (l c:AV) (L:List (Nat×List AV)) (H:List Blk) (K:oI Prop):Prop:=
 c3 (jp P t) fun e=>c3 (nq P e) fun z=>if z.length=P.cellsOf e∧z.all ji=true then match l,c with
  | .int _ l,.int _ c=>0≤l∧l≤c∧(P.bytesOf e:Int)*c≤140737488355328∧c≤4611686018427387904∧K (.ref H.length 0 0 l.toNat false) L (H++[⟨0,z.length,List.replicate l.toNat (z.map mT)⟩])
  | _,_=>False
 else False
theorem abH (z:Array Value) (n k:Nat) (hk:k<n):(madeCells z n)[k]?=some (z[k%z.size]!):=by
 simp[madeCells,hk]
theorem abS {P:Program} {E:Env} {H:List Blk} {L:List (Nat×List AV)} {t:TypeId} {l c:AV} {Ce Kz:Value} {K:AV→List (Nat×List AV)→List Blk→Prop}
  (aV:SimH E H) (b3:SimL E L) (aL:V3 E l Ce) (hc:V3 E c Kz) (h:w8 P t l c L H K):
  ∃v L' H' E' u,K v L' H'∧(Instr.makeSlice t Ce Kz).run P E.w= .ok u E'.w∧Step E E'∧SimH E' H'∧SimL E' L'∧V3 E' v u∧E'.mL=E.mL:=by
 obtain⟨e,he,h⟩:=fC h
 obtain⟨z,aO,h⟩:=fC h
 split at h
 case isFalse=>exact h.elim
 case isTrue hb=>
 obtain⟨ox,Zh⟩:=hb
 cases l with
 | int ma l=>
  cases c with
  | int eG c=>
   obtain⟨aU,h1,h2,aP,hK⟩:=(show 0≤l∧l≤c∧(P.bytesOf e:Int)*c≤140737488355328∧c≤4611686018427387904∧K (.ref H.length 0 0 l.toNat false) L (H++[⟨0,z.length,List.replicate l.toNat (z.map mT)⟩]) from h)
   obtain rfl:=aL.r8
   obtain rfl:=hc.r8
   obtain⟨i,v,q1,q2,q3,q4⟩:=vI (E:=E) aO
   have aj:=(Jj Zh q4).mT
   have uL:v.cells.size=z.length:=by rw[q3];simp
   have wI:i.size=z.length:=by rw[ox];simp[Program.cellsOf,q1]
   have hby:P.bytesOf e=i.bytes:=by simp[Program.bytesOf,q1]
   have hu:=sO he
   have fV:=run_make (P:=P) E.w t e i v hu q1 q2 ma eG l c aU h1 (by rw[hby] at h2;omega) (by omega)
   have yI:SimH E (H++[⟨0,z.length,List.replicate l.toNat (z.map mT)⟩]):=aV.snoc rfl
   obtain⟨wL,pO⟩:=aV.fresh H.length (Nat.le_refl _)
   have L7:l.toNat≤c.toNat:=by omega
   obtain⟨E',bA,e2,dV,iZ,iu,m0,A0,ub,_,hml⟩:=w_ (H:=H++[⟨0,z.length,List.replicate l.toNat (z.map mT)⟩]) (H':=H++[⟨0,z.length,List.replicate l.toNat (z.map mT)⟩]) (b:=H.length) (cap:=c.toNat) (blk:=⟨0,z.length,List.replicate l.toNat (z.map mT)⟩) yI b3 (nt.alloc E.w (.cells (madeCells v.cells (c.toNat*i.size)) e (0,0)))
    (by simp) (fun _ _=>rfl) (fun _=>rfl) (Nat.le_refl _) (.inl ⟨wL,pO.symm⟩) (by rw[size_madeCells,wI]) (by simpa using L7)
    ⟨fun jb row aK=>by
      have aK:(List.replicate l.toNat (z.map mT))[jb]?=some row:=aK
      rw[List.getElem?_replicate] at aK
      split at aK
      ·cases aK;exact List.length_map ..
      ·exact absurd aK (fun h=>by cases h),
     fun jb j row a aK aM=>by
      have aK:(List.replicate l.toNat (z.map mT))[jb]?=some row:=aK
      rw[List.getElem?_replicate] at aK
      split at aK
      ·rename_i hi
       cases aK
       have y0:=(List.getElem?_eq_some_iff.1 aM).1
       rw[List.length_map] at y0
       obtain⟨u,hu,hv⟩:=aj.get aM
       refine⟨u,?_,hv⟩
       have bf:jb*z.length+j<c.toNat*z.length:=by
        calc jb*z.length+j<jb*z.length+z.length:=by omega
         _=(jb+1)*z.length:=by rw[Nat.add_mul,Nat.one_mul]
         _≤c.toNat*z.length:=Nat.mul_le_mul_right _ (by omega)
       show(madeCells v.cells (c.toNat*i.size))[jb*z.length+j]?=_
       rw[wI,abH _ _ _ bf,uL,show(jb*z.length+j)%z.length=j by rw[Nat.mul_comm,Nat.mul_add_mod,Nat.mod_eq_of_lt y0],←hu,Array.getElem?_toList,getElem!_pos v.cells j (by omega),Array.getElem?_eq_getElem]
      ·exact absurd aK (fun h=>by cases h)⟩
   refine⟨_,_,_,E',_,hK,by rw[fV,bA],e2,dV,iZ,.inr ⟨iu.symm,.inr ⟨E.w.heap.size,c.toNat,m0,by rw[Nat.zero_mul],L7,(fun h=>by cases h),by rw[ub];omega⟩⟩,hml⟩
  | _=>exact h.elim
 | _=>exact h.elim
def vk:List Nat→Option Nat
 | []=>none
 | x::r=>match Nat.ble 1000000 x with
  | true=>some (x - 1000000)
  | false=>vk r
def abx (xG:Option Nat) (jF:Bool) (n sz:Nat) (rows:List (List AV)) (L:List (Nat×List AV)) (H:List Blk) (K:oI Prop):Prop:=match xG with
 | none=>K (.ref H.length 0 0 n jF) L (H++[⟨0,sz,rows⟩])
 | some j=>c3 H[j]? fun blk=>K (.ref j (blk.bF+1) 0 n true) L (H.set j ⟨blk.bF+1,sz,rows⟩)
def ue (esc:List Nat) (dst:Option Nat):Bool:=match dst with
 | none=>false
 | some d=>esc.any fun x=>Nat.beq x (500000+d)
def t_ (P:Program) (fr:Bool) (xG:Option Nat) (t:TypeId) (n:Nat) (parts:List (Nat×AV)) (L:List (Nat×List AV)) (H:List Blk) (K:oI Prop):Prop:=
 c3 (jp P t) fun e=>c3 (nq P e) fun z=>if z.length=P.cellsOf e∧n*z.length≤1000000∧n≤1000000 then
  c3 (pB (fun i=>some (i*z.length,z.length)) ((List.range (n*z.length)).map fun i=>z.getD (i%z.length) .undef) parts) fun cells=>
   if(bif fr then false else cells.all jD)=true then K (.bD (chunk z.length n (cells.map kw)) true (cells.all od)) L H else
   if cells.all ji=true then abx xG (!fr) n z.length (chunk z.length n cells) L H K else False
 else False
theorem UF {size n i:Nat} {cells row:List AV} (aL:cells.length=n*size) (aK:(chunk size n cells)[i]?=some row):row.length=size:=by
 unfold chunk at aK
 rw[List.getElem?_map] at aK
 cases aj:(List.range n)[i]? with
 | none=>rw[aj] at aK;cases aK
 | some k=>
  have hk:=(List.getElem?_eq_some_iff.1 aj).1
  have hi:k=i:=by have:=(List.getElem?_eq_some_iff.1 aj).2;simpa using this.symm
  rw[aj] at aK;cases aK
  simp only[List.length_take,List.length_drop]
  have b9:i<n:=by simpa using hk
  rw[aL,hi]
  have:(i+1)*size≤n*size:=Nat.mul_le_mul_right _ b9
  rw[Nat.add_mul,Nat.one_mul] at this
  omega
theorem Ub {P:Program} {fr:Bool} {xG:Option Nat} {E:Env} {H:List Blk} {L:List (Nat×List AV)} {t:TypeId} {n:Nat} {parts:List (Nat×AV)} {ky:List (Nat×Value)} {K:AV→List (Nat×List AV)→List Blk→Prop} (aV:SimH E H) (b3:SimL E L)
  (aI:aD (fun a b=>a.1=b.1∧V2 E a.2 b.2) parts ky) (h:t_ P fr xG t n parts L H K):
  ∃v u L' H' E',K v L' H'∧(Instr.buildSlice t n ky.toArray).run P E.w= .ok u E'.w∧Step E E'∧SimH E' H'∧SimL E' L'∧V3 E' v u∧E'.mL=E.mL:=by
 obtain⟨e,he,h⟩:=fC h
 obtain⟨z,aO,h⟩:=fC h
 split at h
 case isFalse=>exact h.elim
 case isTrue hb=>
 obtain⟨cells,hf,h⟩:=fC h
 split at h
 case isTrue hby=>
  have hby:cells.all jD=true:=by cases fr with
   | true=>cases hby
   | false=>exact hby
  have hv:vZ P t n parts (fun r=>K r L H):=by
   refine et he (et aO ?_)
   rw[if_pos hb]
   refine et hf ?_
   rw[if_pos hby];exact h
  obtain⟨r,u,E',hK,aK,aj,aP⟩:=Kh aV aI hv
  exact⟨r,u,L,H,E',hK,aK,aj.step,aj.simH aV,aj.simL aV b3,aP,aj.mL⟩
 case isFalse=>
 split at h
 case isFalse=>exact h.elim
 case isTrue hs=>
 obtain⟨hT,ec,fV,hlen⟩:=Ue aI he aO hb.1 hb.2 hf
 have ol:(chunk z.length n cells).length=n:=by simp[chunk]
 have FJ:hT.size=n*z.length:=by have:=ec.1;simp at this;omega
 have uE:vO E z.length (chunk z.length n cells) hT:=⟨fun i row aK=>UF hlen aK,fun i j row a aK aM=>by
   obtain⟨hi,y0,hc⟩:=Kq aK aM
   obtain⟨u,hu,hv⟩:=ec.get hc
   exact⟨u,by rw[Array.getElem?_toList] at hu;exact hu,hv⟩⟩
 cases xG with
 | none=>
  have yI:SimH E (H++[⟨0,z.length,chunk z.length n cells⟩]):=aV.snoc rfl
  obtain⟨wL,pO⟩:=aV.fresh H.length (Nat.le_refl _)
  obtain⟨E',bA,e2,dV,iZ,iu,m0,A0,ub,_,hml⟩:=w_ (H:=H++[⟨0,z.length,chunk z.length n cells⟩]) (H':=H++[⟨0,z.length,chunk z.length n cells⟩]) (b:=H.length) (cap:=n) (blk:=⟨0,z.length,chunk z.length n cells⟩) yI b3 (nt.alloc E.w (.cells hT e (0,0)))
   (by simp) (fun _ _=>rfl) (fun _=>rfl) (Nat.le_refl _) (.inl ⟨wL,pO.symm⟩) FJ (by rw[ol];exact Nat.le_refl _) uE
  exact⟨_,_,_,_,E',h,by rw[fV,bA],e2,dV,iZ,.inr ⟨iu.symm,.inr ⟨E.w.heap.size,n,m0,by rw[Nat.zero_mul],Nat.le_refl _,(fun _=>rfl),by rw[ub];omega⟩⟩,hml⟩
 | some j=>
  obtain⟨blk,yQ,hK⟩:=fC (show c3 H[j]? fun blk=>K (.ref j (blk.bF+1) 0 n true) L (H.set j ⟨blk.bF+1,z.length,chunk z.length n cells⟩) from h)
  have oY:=(List.getElem?_eq_some_iff.1 yQ).1
  have Yk:=aV.fg j blk yQ
  obtain⟨E',bA,e2,dV,iZ,iu,m0,A0,ub,_,hml⟩:=w_ (H:=H) (H':=H.set j ⟨blk.bF+1,z.length,chunk z.length n cells⟩) (b:=j) (cap:=n) (blk:=⟨blk.bF+1,z.length,chunk z.length n cells⟩) aV b3 (nt.alloc E.w (.cells hT e (0,0)))
   (by rw[List.getElem?_set];simp[oY]) (fun ct ek=>by rw[List.getElem?_set,if_neg (fun e=>ek e.symm)]) (fun _=>by simp) (by simp) (.inr (by show E.bF j<blk.bF+1;omega)) FJ (by rw[ol];exact Nat.le_refl _) uE
  exact⟨_,_,_,_,E',hK,by rw[fV,bA],e2,dV,iZ,.inr ⟨iu.symm,.inr ⟨E.w.heap.size,n,m0,by rw[Nat.zero_mul],Nat.le_refl _,(fun _=>rfl),by rw[ub];omega⟩⟩,hml⟩
def p6:AV→Bool
 | .bD _ _ fr=>fr
 | .fG _ _ | .dA _ _ | .agg _ | .tup _ | .fn _ _=>false
 | _=>true
def iP (k:Nat):AV→AV
 | .ref b g o n f=> .ref (k+b) g o n f
 | .ptr b g r c=> .ptr (k+b) g r c
 | a=>a
def xl:AV→Bool
 | .agg l=>l.all p6
 | a=>p6 a
def nR (k:Nat):AV→AV
 | .agg l=> .agg (l.map (iP k))
 | a=>iP k a
def xm:AV→Bool
 | .tup l=>l.all xl
 | a=>xl a
def mK (k:Nat):AV→AV
 | .tup l=> .tup (l.map (nR k))
 | a=>nR k a
def lh (k:Nat) (b:Blk):Blk:=⟨b.bF,b.sz,b.rows.map fun row=>row.map (iP k)⟩
def ti (H:List Blk):Bool:=H.all fun b=>b.rows.all fun row=>row.all p6
def Env.join (E E1:Env) (n:Nat):Env:=
 {w:=E1.w,PA:=fun c=>E.PA c∨E1.PF c,PF:=fun c=>E.PF c∨E1.PF c
  m:=fun b=>if b<n then E.m b else E1.m (b - n),bF:=fun b=>if b<n then E.bF b else E1.bF (b - n)
  sz:=fun b=>if b<n then E.sz b else E1.sz (b - n),cp:=fun b=>if b<n then E.cp b else E1.cp (b - n),mL:=E.mL}
section
variable {E E1:Env} {n:Nat}
theorem aaZ {b:Nat} (h:b<n):(E.join E1 n).m b=E.m b∧(E.join E1 n).bF b=E.bF b∧(E.join E1 n).sz b=E.sz b∧(E.join E1 n).cp b=E.cp b:=⟨if_pos h,if_pos h,if_pos h,if_pos h⟩
theorem GN (b:Nat):(E.join E1 n).m (n+b)=E1.m b∧(E.join E1 n).bF (n+b)=E1.bF b∧(E.join E1 n).sz (n+b)=E1.sz b∧(E.join E1 n).cp (n+b)=E1.cp b:=by
 have h: ¬n+b<n:=by omega
 have e:n+b - n=b:=by omega
 refine⟨?_,?_,?_,?_⟩<;>(unfold Env.join;simp only[if_neg h,e])
theorem GO {E':Env} (h0:E'=E.join E1 n) {a:AV} {v:Value} (aC:p6 a=true) (hv:cN E1 a v):cN E' (iP n a) v:=by
 have ov: ∀{a:AV} {v:Value},p6 a=true→bH E1.w E1.PA E1.PF a v→bH E'.w E'.PA E'.PF a v:=by
  intro a v aC h
  subst h0
  cases h with
  | undef=>exact .undef _
  | int=>exact .int _ _
  | bool=>exact .bool _
  | str=>exact .str _
  | gf=>exact .gf
  | gC=>exact .gC
  | @bD _ _ PB rows full fresh A cap sz vs gl gQ hC cK fj ec=>
   have hf:fresh=true:=aC
   refine .bD (PB:=PB) (sz:=sz) (vs:=vs) (fun c hc=> ?_) gQ hC cK fj ec
   have:=gl c hc
   rw[if_pos hf] at this ⊢
   exact .inr this
  | dA=>cases aC
  | fn=>cases aC
 cases a with
 | ref b g off m full=>
  subst h0
  obtain⟨e4,bb,oy,s_⟩:=GN (E:=E) (E1:=E1) (n:=n) b
  show fv (E.join E1 n) (.ref (n+b) g off m full) v
  rcases(show fv E1 (.ref b g off m full) v from hv) with⟨h,k⟩ | ⟨h,k⟩
  ·exact .inl ⟨by rw[bb];exact h,k⟩
  ·refine .inr ⟨by rw[bb];exact h,?_⟩
   rw[e4,oy,s_];exact k
 | ptr b g r c=>
  subst h0
  obtain⟨e4,bb,oy,s_⟩:=GN (E:=E) (E1:=E1) (n:=n) b
  show fv (E.join E1 n) (.ptr (n+b) g r c) v
  rcases(show fv E1 (.ptr b g r c) v from hv) with⟨h,k⟩ | ⟨h,k⟩
  ·exact .inl ⟨by rw[bb];exact h,k⟩
  ·refine .inr ⟨by rw[bb];exact h,?_⟩
   rw[e4,oy];exact k
 | fG t c=>cases aC
 | fn f c=>cases aC
 | agg l=>cases aC
 | tup l=>cases aC
 | dA l c=>cases aC
 | undef=>exact bH.undef _
 | int k m=>exact ov (a:= .int k m) rfl hv
 | bool b=>exact ov (a:= .bool b) rfl hv
 | str s=>exact ov (a:= .str s) rfl hv
 | bD rows full fr=>exact ov (a:= .bD rows full fr) aC hv
 | gf=>exact ov (a:= .gf) rfl hv
 | gC=>exact ov (a:= .gC) rfl hv
theorem NT {E':Env} (h0:E'=E.join E1 n) {a:AV} {v:Value} (aC:xl a=true) (hv:V2 E1 a v):V2 E' (nR n a) v:=by
 by_cases hf: ∃l,a= .agg l
 ·obtain⟨l,rfl⟩:=hf
  obtain⟨vs,rfl,aI⟩:=hv
  refine⟨vs,rfl,by rw[List.length_map];exact aI.1,fun i x u hx hu=> ?_⟩
  rw[List.getElem?_map] at hx
  cases aL:l[i]? with
  | none=>simp[aL] at hx
  | some y=>
   simp[aL] at hx;subst hx
   exact GO h0 (List.all_eq_true.1 (show l.all p6=true from aC) y (List.mem_of_getElem? aL)) (aI.2 i y u aL hu)
 ·have bA:nR n a=iP n a:=by cases a<;>first | rfl | exact absurd ⟨_,rfl⟩ hf
  have e2:xl a=p6 a:=by cases a<;>first | rfl | exact absurd ⟨_,rfl⟩ hf
  rw[pu fun l e=>hf ⟨l,e⟩] at hv
  rw[bA]
  exact ql (GO h0 (e2▸aC) hv)
theorem aa0 {E':Env} (h0:E'=E.join E1 n) {a:AV} {v:Value} (aC:xm a=true) (hv:V3 E1 a v):V3 E' (mK n a) v:=by
 by_cases hf: ∃l,a= .tup l
 ·obtain⟨l,rfl⟩:=hf
  obtain⟨vs,rfl,aI⟩:=hv
  refine⟨vs,rfl,by rw[List.length_map];exact aI.1,fun i x u hx hu=> ?_⟩
  rw[List.getElem?_map] at hx
  cases aL:l[i]? with
  | none=>simp[aL] at hx
  | some y=>
   simp[aL] at hx;subst hx
   exact NT h0 (List.all_eq_true.1 (show l.all xl=true from aC) y (List.mem_of_getElem? aL)) (aI.2 i y u aL hu)
 ·have bA:mK n a=nR n a:=by cases a<;>first | rfl | exact absurd ⟨_,rfl⟩ hf
  have e2:xm a=xl a:=by cases a<;>first | rfl | exact absurd ⟨_,rfl⟩ hf
  rw[oO fun l e=>hf ⟨l,e⟩] at hv
  rw[bA]
  exact qm (NT h0 (e2▸aC) hv)
end
theorem Ut {P:Program} {f:FuncId} {args ez:List AV} {L:List (Nat×List AV)} {H:List Blk} {E:Env} {vs:List Value} {Q:AV→List Blk→Prop} (aV:SimH E H) (b3:SimL E L)
  (a4:aD (V2 E) args vs) (hs:aD (da L H) args ez) (h:dI P f ez [] fun r fe=>xm r=true∧ti fe=true∧Q r fe):
  Calls P f vs.toArray E.w fun e w'=> ∃r v fe E',e= .returned v∧Q r fe∧E'.w=w'∧Step E E'∧SimH E' (H++fe.map (lh H.length))∧SimL E' L∧V3 E' (mK H.length r) v∧E'.mL=E.mL:=by
 have ui:aD (V2 E.frozen) ez vs:=⟨hs.1▸a4.1,fun i x u hx hu=>by
  have bf:i<args.length:=by have:=(List.getElem?_eq_some_iff.1 hx).1;have:=hs.1;omega
  have aL:=List.getElem?_eq_getElem bf
  exact QO (Sub.refl L H) aV b3 (hs.2 i _ x aL hx) (a4.2 i _ u aL hu)⟩
 refine(h.2 E.frozen vs (fun _=>rfl) (Lj aV) ui).mono ?_
 rintro e w' ⟨r,v,fe,E1,rfl,⟨aC,y4,aK⟩,rfl,aF,fK,hv,bi⟩
 have yM: ∀c,E1.PF c→E.w.heap.size≤c∧c<E1.w.heap.size:=fun c hc=>⟨(bi.fM c hc).elim (fun h=>h.elim) id,fK.fc c (fK.e0 c hc)⟩
 have wx: ∀c,E1.gS c→E.w.heap.size≤c∧c<E1.w.heap.size:=fun c hc=>⟨(bi.qU c hc).elim (fun⟨b,hb⟩=>by cases hb) id,fK.gB c hc⟩
 have oZ: ∀c,c<E.w.heap.size→E1.w.heap[c]?=E.w.heap[c]?:=fun c hc=>bi.fh c hc (fun⟨b,hb⟩=>by cases hb) (fun⟨b,hb⟩=>by cases hb)
 have km:=aV.gB
 have kn:=aV.g_
 generalize h0:E.join E1 H.length=E'
 have m7: ∀b,b<H.length→E'.m b=E.m b∧E'.bF b=E.bF b∧E'.sz b=E.sz b∧E'.cp b=E.cp b:=fun b hb=>h0▸aaZ hb
 have hP: ∀b,E'.m (H.length+b)=E1.m b∧E'.bF (H.length+b)=E1.bF b∧E'.sz (H.length+b)=E1.sz b∧E'.cp (H.length+b)=E1.cp b:=fun b=>h0▸GN b
 have nH:E'.w=E1.w:=by rw[←h0];rfl
 have w5: ∀c,E'.PA c↔E.PA c∨E1.PF c:=fun c=>by rw[←h0];exact Iff.rfl
 have GM: ∀c,E'.PF c↔E.PF c∨E1.PF c:=fun c=>by rw[←h0];exact Iff.rfl
 have ta:E'.mL=E.mL:=by rw[←h0];rfl
 have split: ∀b,b<H.length∨ ∃k,b=H.length+k:=fun b=>by
  rcases Nat.lt_or_ge b H.length with h | h
  ·exact .inl h
  ·exact .inr ⟨b - H.length,by omega⟩
 have ab3: ∀b x,E.m b=some x→b<H.length:=fun b x hb=>by
  rcases Nat.lt_or_ge b H.length with h | h
  ·exact h
  ·rw[(aV.fresh b h).1] at hb;cases hb
 have pU: ∀c,E'.gS c→E.gS c∨E1.gS c:=fun c ⟨b,hb⟩=>by
  rcases split b with h | ⟨k,rfl⟩
  ·exact .inl ⟨b,by rw[←(m7 b h).1];exact hb⟩
  ·exact .inr ⟨k,by rw[←(hP k).1];exact hb⟩
 have g8:Step E E':=
  {le:=⟨fun c hc=>(w5 c).2 (.inl hc),fun c hc=>(GM c).2 (.inl hc),fun c hc=>by rw[nH];exact oZ c (aV.fc c hc),fun c hc=>by rw[nH];exact oZ c (aV.fc c (aV.e0 c hc)),fun b=>by
     rcases split b with h | ⟨k,rfl⟩
     ·rw[(m7 b h).2.1];exact Nat.le_refl _
     ·rw[(aV.fresh (H.length+k) (by omega)).2];exact Nat.zero_le _,fun b x hx _=>by
     have h:=ab3 b x hx
     exact⟨by rw[(m7 b h).1];exact hx,(m7 b h).2.2.1,(m7 b h).2.2.2⟩,fun t c h=>by rw[ta];exact h⟩
   os:=by rw[nH];exact bi.os
   tape:=by rw[nH];exact bi.tape
   output:=by rw[nH];exact bi.output
   size:=by rw[nH];exact bi.size
   fh:=fun c hc _ _=>by rw[nH];exact oZ c hc
   jq:=fun b c hb=>by
    rcases split b with h | ⟨k,rfl⟩
    ·exact .inl (by rw[←(m7 b h).1];exact hb)
    ·exact .inr (wx c ⟨k,by rw[←(hP k).1];exact hb⟩).1
   jJ:=fun c ⟨t,bu⟩=> .inl ⟨t,by rw[←ta];exact bu⟩
   fL:=fun c hc=>((w5 c).1 hc).elim .inl fun h=> .inr (yM c h).1
   fM:=fun c hc=>((GM c).1 hc).elim .inl fun h=> .inr (yM c h).1}
 have EV: ∀b,b<H.length→(H++fe.map (lh H.length))[b]?=H[b]?:=fun b hb=>List.getElem?_append_left hb
 have EU: ∀k,(H++fe.map (lh H.length))[H.length+k]?=(fe[k]?).map (lh H.length):=fun k=>by
  rw[List.getElem?_append_right (by omega),List.getElem?_map];congr 2;omega
 refine⟨r,v,fe,E',rfl,aK,nH,g8,?_,?_,aa0 h0.symm aC hv,ta⟩
 ·exact{
   heap:=fun b c hb=>by
    rcases split b with h | ⟨k,rfl⟩
    ·obtain⟨e4,bb,oy,s_⟩:=m7 b h
     rw[e4] at hb
     obtain⟨blk,ba,ty,q1,dS,q2,q3,q4,cR,c4⟩:=aV.heap b c hb
     refine⟨blk,ba,ty,by rw[EV b h];exact q1,by rw[oy];exact dS,by rw[nH,oZ c (km c ⟨b,hb⟩)];exact q2,by rw[oy,s_];exact q3,by rw[s_];exact q4,by rw[oy];exact cR,fun i j row a aK aM=> ?_⟩
     obtain⟨u,hu,FI⟩:=c4 i j row a aK aM
     exact⟨u,by rw[oy];exact hu,FI.le g8.le.b_⟩
    ·obtain⟨e4,bb,oy,s_⟩:=hP k
     rw[e4] at hb
     obtain⟨blk,ba,ty,q1,dS,q2,q3,q4,cR,c4⟩:=fK.heap k c hb
     have YC: ∀row∈blk.rows,∀a∈row,p6 a=true:=fun row aK a a4=>
      List.all_eq_true.1 (List.all_eq_true.1 (List.all_eq_true.1 y4 blk (List.mem_of_getElem? q1)) row aK) a a4
     refine⟨lh H.length blk,ba,ty,by rw[EU k,q1];rfl,by rw[oy];exact dS,by rw[nH];exact q2,by rw[oy,s_];exact q3,by rw[s_];show(blk.rows.map _).length≤_;rw[List.length_map];exact q4,fun i row' aK=> ?_,fun i j row' io aK aM=> ?_⟩
     ·have aK:(blk.rows.map fun row=>row.map (iP H.length))[i]?=some row':=aK
      rw[List.getElem?_map] at aK
      cases aj:blk.rows[i]? with
      | none=>simp[aj] at aK
      | some row=>
       simp[aj] at aK;subst aK
       rw[List.length_map,oy];exact cR i row aj
     ·have aK:(blk.rows.map fun row=>row.map (iP H.length))[i]?=some row':=aK
      rw[List.getElem?_map] at aK
      cases aj:blk.rows[i]? with
      | none=>simp[aj] at aK
      | some row=>
       simp[aj] at aK;subst aK
       rw[List.getElem?_map] at aM
       cases kp:row[j]? with
       | none=>simp[kp] at aM
       | some a=>
        simp[kp] at aM;subst aM
        obtain⟨u,hu,FI⟩:=c4 i j row a aj kp
        refine⟨u,by rw[oy];exact hu,?_⟩
        have Lz:E'.b_=E.b_.join E1.b_ H.length:=by rw[←h0];rfl
        exact GO Lz (YC row (List.mem_of_getElem? aj) a (List.mem_of_getElem? kp)) FI
   fg:=fun b blk hb=>by
    rcases split b with h | ⟨k,rfl⟩
    ·rw[EV b h] at hb;rw[(m7 b h).2.1];exact aV.fg b blk hb
    ·rw[EU k] at hb
     cases aj:fe[k]? with
     | none=>simp[aj] at hb
     | some y=>simp[aj] at hb;subst hb;rw[(hP k).2.1];exact fK.fg k y aj
   hE:=fun b hb=>by
    rcases split b with h | ⟨k,rfl⟩
    ·rw[(m7 b h).1] at hb
     obtain⟨blk,q1,q2⟩:=aV.hE b hb
     exact⟨blk,by rw[EV b h];exact q1,by rw[(m7 b h).2.2.1];exact q2⟩
    ·rw[(hP k).1] at hb
     obtain⟨blk,q1,q2⟩:=fK.hE k hb
     exact⟨lh H.length blk,by rw[EU k,q1];rfl,by rw[(hP k).2.2.1];exact q2⟩
   fresh:=fun b hb=>by
    rw[List.length_append,List.length_map] at hb
    rcases split b with h | ⟨k,rfl⟩
    ·omega
    ·rw[(hP k).1,(hP k).2.1];exact fK.fresh k (by omega)
   h6:=fun b ct c h1 h2=>by
    rcases split b with h | ⟨k,rfl⟩<;>rcases split ct with h' | ⟨kK,rfl⟩
    ·rw[(m7 b h).1] at h1;rw[(m7 ct h').1] at h2;exact aV.h6 b ct c h1 h2
    ·rw[(m7 b h).1] at h1;rw[(hP kK).1] at h2
     have:=km c ⟨b,h1⟩;have:=(wx c ⟨kK,h2⟩).1;omega
    ·rw[(hP k).1] at h1;rw[(m7 ct h').1] at h2
     have:=km c ⟨ct,h2⟩;have:=(wx c ⟨k,h1⟩).1;omega
    ·rw[(hP k).1] at h1;rw[(hP kK).1] at h2;rw[fK.h6 k kK c h1 h2]
   jK:=fun t jR c h1 h2=>by rw[ta] at h1 h2;exact aV.jK t jR c h1 h2
   gT:=fun b t c h1 h2=>by
    rw[ta] at h2
    rcases split b with h | ⟨k,rfl⟩
    ·rw[(m7 b h).1] at h1;exact aV.gT b t c h1 h2
    ·rw[(hP k).1] at h1
     have:=kn c ⟨t,h2⟩;have:=(wx c ⟨k,h1⟩).1;omega
   h7:=fun c hc hi=>by
    rcases(w5 c).1 hc with h | h<;>rcases pU c hi with h' | h'
    ·exact aV.h7 c h h'
    ·have:=aV.fc c h;have:=(wx c h').1;omega
    ·have:=km c h';have:=(yM c h).1;omega
    ·exact fK.h7 c (fK.e0 c h) h'
   iw:=fun c hc ⟨t,bu⟩=>by
    rw[ta] at bu
    rcases(w5 c).1 hc with h | h
    ·exact aV.iw c h ⟨t,bu⟩
    ·have:=kn c ⟨t,bu⟩;have:=(yM c h).1;omega
   e0:=fun c hc=>(w5 c).2 (((GM c).1 hc).elim (fun h=> .inl (aV.e0 c h)) .inr)
   fc:=fun c hc=>by
    rw[nH]
    rcases(w5 c).1 hc with h | h
    ·exact Nat.lt_of_lt_of_le (aV.fc c h) bi.size
    ·exact(yM c h).2
   gB:=fun c hc=>by
    rw[nH]
    rcases pU c hc with h | h
    ·exact Nat.lt_of_lt_of_le (km c h) bi.size
    ·exact(wx c h).2
   g_:=fun c ⟨t,bu⟩=>by
    rw[ta] at bu;rw[nH]
    exact Nat.lt_of_lt_of_le (kn c ⟨t,bu⟩) bi.size}
 ·intro t c hm
  rw[ta] at hm
  obtain⟨cells,ba,ty,q1,q2,q3⟩:=b3 t c hm
  exact⟨cells,ba,ty,q1,by rw[nH,oZ c (kn c ⟨t,hm⟩)];exact q2,q3.mono fun _ _ k=>k.le g8.le.b_⟩
theorem Uq {P:Program} {f:FuncId} {args:List AV} {L:List (Nat×List AV)} {H:List Blk} {E:Env} {vs:List Value} {Q:AV→List Blk→Prop} (aV:SimH E H) (b3:SimL E L)
  (a4:aD (V2 E) args vs) (aF:args.all j5=true) (h:dI P f args H fun r H'=>xc r=true∧Q r H'):
  Calls P f vs.toArray E.w fun e w'=> ∃r v H' E',e= .returned v∧Q r H'∧E'.w=w'∧Step E E'∧SimH E' H'∧SimL E' L∧V3 E' r v∧E'.mL=E.mL:=by
 have ui:aD (V2 E.b_) args vs:=⟨a4.1,fun i a v h1 h2=>(a4.2 i a v h1 h2).b_ (List.all_eq_true.1 aF a (List.mem_of_getElem? h1))⟩
 refine(h.2 E.b_ vs (fun _=>rfl) aV.b_ ui).mono ?_
 rintro e w' ⟨r,v,H',E1,rfl,⟨Yy,aK⟩,rfl,BL,fK,hv,bi⟩
 let E':Env:={E1 with mL:=E.mL}
 have Lz:E'.b_=E1.b_:=rfl
 have kn:=aV.g_
 have qU: ∀c,E1.gS c→E.gS c∨E.w.heap.size≤c:=bi.qU
 have Yo: ∀c,E.kJ c→E1.w.heap[c]?=E.w.heap[c]?:=fun c hc=>bi.fh c (kn c hc) (fun⟨b,hb⟩=>by
  obtain⟨t,bu⟩:=hc
  exact aV.gT b t c hb bu) (fun⟨b,hb⟩=>by cases hb)
 have hle:E1.b_.gN E':=Env.Cl E'
 have g8:Step E E':=
  {le:=⟨bi.le.fL,bi.le.fM,bi.le.tJ,bi.le.wf,bi.le.bF,bi.le.m,fun _ _ h=>h⟩
   os:=bi.os,tape:=bi.tape,output:=bi.output,size:=bi.size
   fh:=fun c hc h1 h2=>bi.fh c hc h1 (fun⟨b,hb⟩=>by cases hb)
   jq:=bi.jq
   jJ:=fun c h=> .inl h
   fL:=bi.fL
   fM:=bi.fM}
 refine⟨r,v,H',E',rfl,aK,rfl,g8,?_,?_,?_,rfl⟩
 ·exact{fK with
   jK:=aV.jK
   gT:=fun b t c h1 h2=>by
    rcases qU c ⟨b,h1⟩ with⟨ct,h⟩ | h
    ·exact aV.gT ct t c h h2
    ·have:=kn c ⟨t,h2⟩;omega
   iw:=fun c hc ⟨t,bu⟩=>by
    rcases bi.fL c hc with h | h
    ·exact aV.iw c h ⟨t,bu⟩
    ·have h:E.w.heap.size≤c:=h
     have:=kn c ⟨t,bu⟩;omega
   g_:=fun c hc=>Nat.lt_of_lt_of_le (kn c hc) bi.size}
 ·intro t c hm
  obtain⟨cells,ba,ty,q1,q2,q3⟩:=b3 t c hm
  exact⟨cells,ba,ty,q1,by show E1.w.heap[c]?=_;rw[Yo c ⟨t,hm⟩];exact q2,q3.mono fun _ _ k=>k.le g8.le.b_⟩
 ·exact(hv.b_ Yy).le hle
end Go.Proofs.Ytglpfccgmfhkdaa.Fw
