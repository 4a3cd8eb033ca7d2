/- The framework, part A: abstract values, how they stand for Go's values in a world, and what stays as it is when the world grows. -/
import Derived.WalkKit
import Derived.KernelRfl
import Derived.Orders
import Derived.Laws.StructEq
import Derived.ChangeArms
import Derived.ChangeShapes
import Derived.SizedLaws
import Derived.Below
import Derived.JoinedOf
import Derived.Test.YtglpfccgmfhkdaaGreatProg
import Derived.Lib.Hide
import Derived.WalkSpells
import Derived.Deep.RegionHeld3
import Derived.Deep.CutRange
set_option linter.unusedVariables false
namespace Go.Proofs.YtglpfccgmfhkdaaGreat.Fw
open Go
inductive AV where
 | undef
 | int (k:IntKind) (n:Int)
 | bool (b:Bool)
 | str (s:ByteArray)
 | aV (rows:List (List AV)) (full fresh:Bool)
 | ref (b g off n:Nat) (full:Bool)
 | ptr (b g row col:Nat)
 | e7 (t col:Nat)
 | da (cells:List AV) (col:Nat)
 | fI
 | fY
 | agg (cells:List AV)
 | tup (vs:List AV)
 | fn (f:FuncId) (caps:List AV)
 deriving Inhabited
structure Blk where
 bi:Nat
 sz:Nat
 rows:List (List AV)
 deriving Inhabited
structure St where
 T:List AV
 L:List (Nat×List AV)
 H:List Blk
def aO {α β:Type} (R:α→β→Prop) (l:List α) (m:List β):Prop:=
 l.length=m.length∧ ∀(i:Nat) (a:α) (b:β),l[i]?=some a→m[i]?=some b→R a b
theorem aO.nil {α β:Type} {R:α→β→Prop}:aO R [] []:=⟨rfl,fun i a b h=>by simp at h⟩
theorem aO.cons {α β:Type} {R:α→β→Prop} {a:α} {b:β} {l:List α} {m:List β} (h:R a b) (k:aO R l m):aO R (a::l) (b::m):=
 ⟨by simp[k.1],fun i x y hx ba=>by
  cases i with
  | zero=>simp at hx ba;subst hx;subst ba;exact h
  | succ i=>exact k.2 i x y (by simpa using hx) (by simpa using ba)⟩
theorem aO.head {α β:Type} {R:α→β→Prop} {a:α} {b:β} {l:List α} {m:List β} (h:aO R (a::l) (b::m)):R a b:=h.2 0 a b rfl rfl
theorem aO.tail {α β:Type} {R:α→β→Prop} {a:α} {b:β} {l:List α} {m:List β} (h:aO R (a::l) (b::m)):aO R l m:=
 ⟨by simpa using h.1,fun i x y hx ba=>h.2 (i+1) x y (by simpa using hx) (by simpa using ba)⟩
theorem aO.mono {α β:Type} {R wO:α→β→Prop} {l:List α} {m:List β} (h:aO R l m) (av: ∀a b,R a b→wO a b):aO wO l m:=
 ⟨h.1,fun i a b x y=>av _ _ (h.2 i a b x y)⟩
theorem aO.get {α β:Type} {R:α→β→Prop} {l:List α} {m:List β} (h:aO R l m) {i:Nat} {a:α} (aF:l[i]?=some a): ∃b,m[i]?=some b∧R a b:=by
 have hi:i<l.length:=(List.getElem?_eq_some_iff.1 aF).1
 have hm:i<m.length:=h.1▸hi
 exact⟨m[i],List.getElem?_eq_getElem hm,h.2 i a _ aF (List.getElem?_eq_getElem hm)⟩
theorem aO.lZ {α β:Type} {R:α→β→Prop} {m:List β} (h:aO R [] m):m=[]:=by
 have:=h.1;exact List.eq_nil_of_length_eq_zero (by simpa using this.symm)
theorem aO.cons_inv {α β:Type} {R:α→β→Prop} {a:α} {l:List α} {m:List β} (h:aO R (a::l) m): ∃b e3,m=b::e3∧R a b∧aO R l e3:=by
 cases m with
 | nil=>have:=h.1;simp at this
 | cons b e3=>exact⟨b,e3,rfl,h.head,h.tail⟩
theorem aO.append {α β:Type} {R:α→β→Prop} {l eK:List α} {m e3:List β} (h:aO R l m) (k:aO R eK e3):aO R (l++eK) (m++e3):=by
 refine⟨by simp[h.1,k.1],fun i a b aF hb=> ?_⟩
 rcases Nat.lt_or_ge i l.length with hi | hi
 ·rw[List.getElem?_append_left hi] at aF
  rw[List.getElem?_append_left (h.1▸hi)] at hb
  exact h.2 i a b aF hb
 ·rw[List.getElem?_append_right hi] at aF
  rw[List.getElem?_append_right (h.1▸hi),←h.1] at hb
  exact k.2 _ a b aF hb
theorem aO.set {α β:Type} {R:α→β→Prop} {l:List α} {m:List β} (h:aO R l m) (i:Nat) {a:α} {b:β} (av:R a b):aO R (l.set i a) (m.set i b):=by
 refine⟨by simp[h.1],fun j x y hx ba=> ?_⟩
 by_cases ap:i=j
 ·subst ap
  rw[List.getElem?_set_self'] at hx ba
  cases aE:l[i]? with
  | none=>simp[aE] at hx
  | some a0=>
   cases hm:m[i]? with
   | none=>simp[hm] at ba
   | some eA=>simp[aE] at hx;simp[hm] at ba;subst hx;subst ba;exact av
 ·rw[List.getElem?_set_ne ap] at hx ba
  exact h.2 j x y hx ba
inductive aW (w:World):(Nat→Prop)→(Nat→Prop)→AV→Value→Prop where
 | undef {PA PF:Nat→Prop} (v:Value):aW w PA PF .undef v
 | int {PA PF:Nat→Prop} (k:IntKind) (n:Int):aW w PA PF (.int k n) (.int k n)
 | bool {PA PF:Nat→Prop} (b:Bool):aW w PA PF (.bool b) (.bool b)
 | str {PA PF:Nat→Prop} (s:ByteArray):aW w PA PF (.str s) (.string s)
 | aV {PA PF PB:Nat→Prop} {rows:List (List AV)} {full fresh:Bool} {A:Option Addr} {cap sz:Nat} {vs:Nat→Nat→Value}
   (eU: ∀c,PB c→if fresh=true then PF c else PA c)
   (e1:rows.length≤cap∧rows.length≤4611686018427387904) (fG:full=true→cap=rows.length)
   (cd: ∀(i:Nat) (row:List AV),rows[i]?=some row→row.length=sz)
   (dQ:0<rows.length→ ∃c o,A=some ⟨c,o,none⟩∧PB c∧ ∀i j,i<rows.length→j<sz→w.cell? ⟨c,o+(i*sz+j),none⟩=some (vs i j))
   (hrel: ∀(i j:Nat) (row:List AV) (a:AV),rows[i]?=some row→row[j]?=some a→aW w PB (fun _=>False) a (vs i j)):
   aW w PA PF (.aV rows full fresh) (.slice A rows.length cap)
 | da {PA PF:Nat→Prop} {cells:List AV} {col c o:Nat} {vs:Nat→Value} (hc:PA c)
   (dQ: ∀j,j<cells.length→w.cell? ⟨c,o+j,none⟩=some (vs j))
   (hrel: ∀(j:Nat) (a:AV),cells[j]?=some a→aW w PA (fun _=>False) a (vs j)):aW w PA PF (.da cells col) (.pointer (some ⟨c,o+col,none⟩))
 | fI {PA PF:Nat→Prop}:aW w PA PF .fI (.pointer none)
 | fY {PA PF:Nat→Prop}:aW w PA PF .fY .nilIface
 | fn {PA PF:Nat→Prop} {f:FuncId} {caps:List AV} {vs:List Value} (aE:caps.length=vs.length)
   (hrel: ∀(i:Nat) (a:AV) (v:Value),caps[i]?=some a→vs[i]?=some v→aW w PA (fun _=>False) a v):aW w PA PF (.fn f caps) (.func (.func f) #[] vs.toArray)
theorem I2 {w w':World} {c o:Nat} (h:w'.heap[c]?=w.heap[c]?):w'.cell? ⟨c,o,none⟩=w.cell? ⟨c,o,none⟩:=by
 simp[World.cell?,h]
theorem aW.mono {w w':World} {PA PF:Nat→Prop} {a:AV} {v:Value} (h:aW w PA PF a v):
  ∀{wM wN:Nat→Prop},(∀c,PA c→w'.heap[c]?=w.heap[c]?)→(∀c,PF c→w'.heap[c]?=w.heap[c]?)→(∀c,PA c→wM c)→(∀c,PF c→wN c)→aW w' wM wN a v:=by
 induction h with
 | undef v=>intros;exact .undef v
 | int k n=>intros;exact .int k n
 | bool b=>intros;exact .bool b
 | str s=>intros;exact .str s
 | @aV PA PF PB rows full fresh A cap sz vs eU e1 fG cd dQ hrel bE=>
  intro wM wN hw EW aF hf
  have Ki: ∀c,PB c→w'.heap[c]?=w.heap[c]?:=fun c hc=>by
   have:=eU c hc
   split at this
   ·exact EW c this
   ·exact hw c this
  refine .aV (PB:=PB) (sz:=sz) (vs:=vs) (fun c hc=> ?_) e1 fG cd (fun ao=> ?_) (fun i j row a av ap=> ?_)
  ·have:=eU c hc
   split
   ·rename_i h;rw[if_pos h] at this;exact hf c this
   ·rename_i h;rw[if_neg h] at this;exact aF c this
  ·obtain⟨c,o,e,hc,d_⟩:=dQ ao
   exact⟨c,o,e,hc,fun i j hi ap=>by rw[I2 (Ki c hc)];exact d_ i j hi ap⟩
  ·exact bE i j row a av ap Ki (fun c hc=>hc.elim) (fun c hc=>hc) (fun c hc=>hc)
 | @da PA PF cells col c o vs hc dQ hrel bE=>
  intro wM wN hw EW aF hf
  refine .da (aF c hc) (vs:=vs) (fun j ap=> ?_) (fun j a ap=>bE j a ap hw (fun c hc=>hc.elim) aF (fun c hc=>hc))
  rw[I2 (hw c hc)];exact dQ j ap
 | fI=>intros;exact .fI
 | fY=>intros;exact .fY
 | fn aE hrel bE=>
  intro wM wN hw EW aF hf
  exact .fn aE (fun i a v h1 h2=>bE i a v h1 h2 hw (fun c hc=>hc.elim) aF (fun c hc=>hc))
theorem aW.one {w:World} {PA PF:Nat→Prop} {a:AV} {v:Value} (h:aW w PA PF a v) (hu:a≠ .undef):v.oneCell'=true:=by
 cases h<;>first | rfl | exact absurd rfl hu
structure Env where
 w:World
 PA:Nat→Prop
 PF:Nat→Prop
 m:Nat→Option (Option Nat)
 bi:Nat→Nat
 sz:Nat→Nat
 cp:Nat→Nat
 mL:Nat→Option Nat
def ez (E:Env):AV→Value→Prop
 | .ref b g off n full,v=>(g<E.bi b∧ ∃A cap,v= .slice A n cap)∨(g=E.bi b∧((E.m b=some none∧off=0∧n=0∧ ∃A,v= .slice A 0 0)∨
   ∃c cap,E.m b=some (some c)∧v= .slice (some ⟨c,off*E.sz b,none⟩) n cap∧n≤cap∧(full=true→cap=n)∧off+cap≤E.cp b))
 | .ptr b g r c,v=>(g<E.bi b∧ ∃bl o,v= .pointer (some ⟨bl,o,none⟩))∨(g=E.bi b∧ ∃bl,E.m b=some (some bl)∧v= .pointer (some ⟨bl,r*E.sz b+c,none⟩))
 | .e7 t c,v=> ∃bl,E.mL t=some bl∧v= .pointer (some ⟨bl,c,none⟩)
 | a,v=>aW E.w E.PA E.PF a v
def b1 (E:Env):AV→Value→Prop
 | .fn f caps,v=> ∃vs:List Value,v= .func (.func f) #[] vs.toArray∧aO (ez E) caps vs
 | a,v=>ez E a v
def V2 (E:Env):AV→Value→Prop
 | .agg cells,v=> ∃vs:List Value,v= .agg vs.toArray∧aO (b1 E) cells vs
 | a,v=>b1 E a v
def V3 (E:Env):AV→Value→Prop
 | .tup l,v=> ∃vs:List Value,v= .tuple vs.toArray∧aO (V2 E) l vs
 | a,v=>V2 E a v
def Plain (w:World) (c:Nat):Prop:= ∃aw ty,w.heap[c]?=some (.cells aw ty (0,0))
theorem Plain.same {w w':World} {c:Nat} (h:Plain w c) (e:w'.heap[c]?=w.heap[c]?):Plain w' c:=by
 obtain⟨aw,ty,h⟩:=h;exact⟨aw,ty,e.trans h⟩
structure Env.gj (E E':Env):Prop where
 fo: ∀c,E.PA c→E'.PA c
 e9: ∀c,E.PF c→E'.PF c
 sl: ∀c,E.PA c→E'.w.heap[c]?=E.w.heap[c]?
 wf: ∀c,E.PF c→E'.w.heap[c]?=E.w.heap[c]?
 bi: ∀b,E.bi b≤E'.bi b
 m: ∀b x,E.m b=some x→E'.bi b=E.bi b→E'.m b=some x∧E'.sz b=E.sz b∧E'.cp b=E.cp b
 mL: ∀t c,E.mL t=some c→E'.mL t=some c
theorem Env.gj.refl (E:Env):E.gj E:=⟨fun _ h=>h,fun _ h=>h,fun _ _=>rfl,fun _ _=>rfl,fun _=>Nat.le_refl _,fun _ _ h _=>⟨h,rfl,rfl⟩,fun _ _ h=>h⟩
theorem Env.gj.trans {A B C:Env} (h:A.gj B) (k:B.gj C):A.gj C:=
 ⟨fun c x=>k.fo c (h.fo c x),fun c x=>k.e9 c (h.e9 c x),fun c x=>(k.sl c (h.fo c x)).trans (h.sl c x),fun c x=>(k.wf c (h.e9 c x)).trans (h.wf c x),
  fun b=>Nat.le_trans (h.bi b) (k.bi b),fun b x hx aQ=>by
   have h1:B.bi b=A.bi b:=Nat.le_antisymm (aQ▸k.bi b) (h.bi b)
   have h2:C.bi b=B.bi b:=aQ.trans h1.symm
   obtain⟨aY,s1,br⟩:=h.m b x hx h1
   obtain⟨bj,s2,bm⟩:=k.m b x aY h2
   exact⟨bj,s2.trans s1,bm.trans br⟩,
  fun t c x=>k.mL t c (h.mL t c x)⟩
theorem ez.le {E E':Env} (h:E.gj E') {a:AV} {v:Value} (hv:ez E a v):ez E' a v:=by
 have lV: ∀a v,aW E.w E.PA E.PF a v→aW E'.w E'.PA E'.PF a v:=fun a v k=>k.mono h.sl h.wf h.fo h.e9
 cases a with
 | ref b g off n full=>
  rcases hv with⟨hv,h1⟩ | ⟨aQ,hv⟩
  ·exact .inl ⟨Nat.lt_of_lt_of_le hv (h.bi b),h1⟩
  ·rcases Nat.lt_or_ge (E.bi b) (E'.bi b) with aX | fT
   ·refine .inl ⟨aQ▸aX,?_⟩
    rcases hv with⟨hm,aG,rfl,A,rfl⟩ | ⟨c,cap,hm,rfl,h1,h2,aM⟩<;>exact⟨_,_,rfl⟩
   ·have he:E'.bi b=E.bi b:=Nat.le_antisymm fT (h.bi b)
    refine .inr ⟨by rw[he];exact aQ,?_⟩
    rcases hv with⟨hm,aG,ao,A,cN⟩ | ⟨c,cap,hm,e,h1,h2,aM⟩
    ·exact .inl ⟨(h.m b _ hm he).1,aG,ao,A,cN⟩
    ·obtain⟨aY,s1,br⟩:=h.m b _ hm he
     exact .inr ⟨c,cap,aY,by rw[s1];exact e,h1,h2,by rw[br];exact aM⟩
 | ptr b g r c=>
  rcases hv with⟨hv,h1⟩ | ⟨aQ,bl,hm,e⟩
  ·exact .inl ⟨Nat.lt_of_lt_of_le hv (h.bi b),h1⟩
  ·rcases Nat.lt_or_ge (E.bi b) (E'.bi b) with aX | fT
   ·exact .inl ⟨aQ▸aX,_,_,e⟩
   ·have he:E'.bi b=E.bi b:=Nat.le_antisymm fT (h.bi b)
    obtain⟨aY,s1,br⟩:=h.m b _ hm he
    exact .inr ⟨by rw[he];exact aQ,bl,aY,by rw[s1];exact e⟩
 | e7 t c=>
  obtain⟨bl,hm,e⟩:=hv
  exact⟨bl,h.mL _ _ hm,e⟩
 | _=>exact lV _ _ hv
theorem o5 {E:Env} {a:AV} {v:Value} (h: ∀f caps,a≠ .fn f caps):b1 E a v=ez E a v:=by
 cases a<;>first | rfl | exact absurd rfl (h _ _)
theorem ny {E:Env} {a:AV} {v:Value} (h: ∀l,a≠ .agg l):V2 E a v=b1 E a v:=by
 cases a<;>first | rfl | exact absurd rfl (h _)
theorem nz {E:Env} {a:AV} {v:Value} (h: ∀l,a≠ .tup l):V3 E a v=V2 E a v:=by
 cases a<;>first | rfl | exact absurd rfl (h _)
theorem b1.le {E E':Env} (h:E.gj E') {a:AV} {v:Value} (hv:b1 E a v):b1 E' a v:=by
 by_cases hf: ∃f caps,a= .fn f caps
 ·obtain⟨f,caps,rfl⟩:=hf
  obtain⟨vs,e,ai⟩:=hv
  exact⟨vs,e,ai.mono fun _ _ k=>k.le h⟩
 ·rw[o5 fun f c e=>hf ⟨f,c,e⟩] at hv ⊢
  exact hv.le h
theorem V2.le {E E':Env} (h:E.gj E') {a:AV} {v:Value} (hv:V2 E a v):V2 E' a v:=by
 by_cases hf: ∃l,a= .agg l
 ·obtain⟨l,rfl⟩:=hf
  obtain⟨vs,e,ai⟩:=hv
  exact⟨vs,e,ai.mono fun _ _ k=>k.le h⟩
 ·rw[ny fun l e=>hf ⟨l,e⟩] at hv ⊢
  exact hv.le h
theorem V3.le {E E':Env} (h:E.gj E') {a:AV} {v:Value} (hv:V3 E a v):V3 E' a v:=by
 by_cases hf: ∃l,a= .tup l
 ·obtain⟨l,rfl⟩:=hf
  obtain⟨vs,e,ai⟩:=hv
  exact⟨vs,e,ai.mono fun _ _ k=>k.le h⟩
 ·rw[nz fun l e=>hf ⟨l,e⟩] at hv ⊢
  exact hv.le h
theorem aW.v0 {E:Env} {a:AV} {v:Value} (h:aW E.w E.PA E.PF a v):ez E a v:=by
 cases a<;>first | exact h | cases h
theorem aW.v1 {E:Env} {a:AV} {v:Value} (h:aW E.w E.PA E.PF a v):b1 E a v:=by
 by_cases hf: ∃f caps,a= .fn f caps
 ·obtain⟨f,caps,rfl⟩:=hf
  cases h with
  | fn aE hrel=>exact⟨_,rfl,aE,fun i a v h1 h2=>((hrel i a v h1 h2).mono (fun _ _=>rfl) (fun _ h=>h.elim) (fun _ h=>h) (fun _ h=>h.elim)).v0⟩
 ·rw[o5 fun f c e=>hf ⟨f,c,e⟩]
  exact h.v0
theorem b1.undef (E:Env) (v:Value):b1 E .undef v:=aW.undef v
theorem V3.undef (E:Env) (v:Value):V3 E .undef v:=aW.undef v
def AV.SC:AV→Bool
 | .undef | .agg _ | .tup _=>false
 | _=>true
theorem b1.one {E:Env} {a:AV} {v:Value} (h:b1 E a v) (hc:a.SC=true):True:=trivial
def dZ:List (Nat×List AV)→Nat→Option (List AV)
 | [],_=>none
 | (k,c)::l,t=>if t=k then some c else dZ l t
def ko:List (Nat×List AV)→Nat→List AV→List (Nat×List AV)
 | [],_,_=>[]
 | (k,c)::l,t,d=>if t=k then(k,d)::l else(k,c)::ko l t d
def Env.fk (E:Env) (c:Nat):Prop:= ∃b,E.m b=some (some c)
def Env.j1 (E:Env) (c:Nat):Prop:= ∃t,E.mL t=some c
def Env.b0 (E:Env):Env:={E with mL:=fun _=>none}
theorem Env.Bc (E:Env):E.b0.gj E:=⟨fun _ h=>h,fun _ h=>h,fun _ _=>rfl,fun _ _=>rfl,fun _=>Nat.le_refl _,fun _ _ h _=>⟨h,rfl,rfl⟩,fun _ _ h=>by cases h⟩
theorem Env.gj.b0 {E E':Env} (h:E.gj E'):E.b0.gj E'.b0:=⟨h.fo,h.e9,h.sl,h.wf,h.bi,h.m,fun _ _ h=>by cases h⟩
def uq (E:Env) (sz:Nat) (rows:List (List AV)) (aw:Array Value):Prop:=
 (∀(i:Nat) (row:List AV),rows[i]?=some row→row.length=sz)∧
 ∀(i j:Nat) (row:List AV) (a:AV),rows[i]?=some row→row[j]?=some a→ ∃u,aw[i*sz+j]?=some u∧b1 E.b0 a u
structure SimH (E:Env) (H:List Blk):Prop where
 heap: ∀b c,E.m b=some (some c)→ ∃blk aw ty,H[b]?=some blk∧E.sz b=blk.sz∧E.w.heap[c]?=some (.cells aw ty (0,0))∧aw.size=E.cp b*E.sz b∧blk.rows.length≤E.cp b∧uq E (E.sz b) blk.rows aw
 eI: ∀(b:Nat) (blk:Blk),H[b]?=some blk→E.bi b=blk.bi
 gQ: ∀b,E.m b=some none→ ∃blk,H[b]?=some blk∧E.sz b=blk.sz
 fresh: ∀b,H.length≤b→E.m b=none∧E.bi b=0
 gF: ∀b bT c,E.m b=some (some c)→E.m bT=some (some c)→b=bT
 iL: ∀t hz c,E.mL t=some c→E.mL hz=some c→t=hz
 gn: ∀b t c,E.m b=some (some c)→E.mL t=some c→False
 hq: ∀c,E.PA c→ ¬E.fk c
 hN: ∀c,E.PA c→ ¬E.j1 c
 dr: ∀c,E.PF c→E.PA c
 fh: ∀c,E.PF c→Plain E.w c
 dy: ∀c,E.PA c→c<E.w.heap.size
 fl: ∀c,E.fk c→c<E.w.heap.size
 gf: ∀c,E.j1 c→c<E.w.heap.size
def SimL (E:Env) (L:List (Nat×List AV)):Prop:=
 ∀t c,E.mL t=some c→ ∃cells aw ty,dZ L t=some cells∧E.w.heap[c]?=some (.cells aw ty (0,0))∧aO (b1 E.b0) cells aw.toList
structure sx (E:Env) (ay:St) (tmps:Array Value):Prop where
 h:SimH E ay.H
 l:SimL E ay.L
 hP: ∀t,V3 E (ay.T.getD t .undef) (tmps.getD t undef)
 size:ay.T.length=tmps.size
structure Step (E E':Env):Prop where
 le:E.gj E'
 os:E'.w.os=E.w.os
 tape:E'.w.tape=E.w.tape
 output:E'.w.output=E.w.output
 size:E.w.heap.size≤E'.w.heap.size
 cT: ∀c,c<E.w.heap.size→ ¬E.fk c→ ¬E.j1 c→E'.w.heap[c]?=E.w.heap[c]?
 iu: ∀b c,E'.m b=some (some c)→E.m b=some (some c)∨E.w.heap.size≤c
 iK: ∀c,E'.j1 c→E.j1 c∨E.w.heap.size≤c
 fo: ∀c,E'.PA c→E.PA c∨E.w.heap.size≤c
 e9: ∀c,E'.PF c→E.PF c∨E.w.heap.size≤c
theorem Step.nL {E E':Env} (h:Step E E'): ∀c,E'.fk c→E.fk c∨E.w.heap.size≤c:=fun c ⟨b,hb⟩=>(h.iu b c hb).elim (fun h=> .inl ⟨b,h⟩) .inr
theorem Step.refl (E:Env):Step E E:=⟨.refl E,rfl,rfl,rfl,Nat.le_refl _,fun _ _ _ _=>rfl,fun _ _ h=> .inl h,fun _ h=> .inl h,fun _ h=> .inl h,fun _ h=> .inl h⟩
theorem Step.trans {A B C:Env} (h:Step A B) (k:Step B C):Step A C where
 le:=h.le.trans k.le
 os:=k.os.trans h.os
 tape:=k.tape.trans h.tape
 output:=k.output.trans h.output
 size:=Nat.le_trans h.size k.size
 cT:=fun c hc h1 h2=>by
  rw[k.cT c (Nat.lt_of_lt_of_le hc h.size) (fun x=>(h.nL c x).elim h1 (fun y=>absurd hc (Nat.not_lt.2 y))) (fun x=>(h.iK c x).elim h2 (fun y=>absurd hc (Nat.not_lt.2 y)))]
  exact h.cT c hc h1 h2
 iu:=fun b c x=>(k.iu b c x).elim (fun y=>h.iu b c y) (fun y=> .inr (Nat.le_trans h.size y))
 iK:=fun c x=>(k.iK c x).elim (fun y=>h.iK c y) (fun y=> .inr (Nat.le_trans h.size y))
 fo:=fun c x=>(k.fo c x).elim (fun y=>h.fo c y) (fun y=> .inr (Nat.le_trans h.size y))
 e9:=fun c x=>(k.e9 c x).elim (fun y=>h.e9 c y) (fun y=> .inr (Nat.le_trans h.size y))
class cw where
 n:Nat
structure Good [h5:cw] (cj E:Env):Prop where
 x7: ∀b,h5.n≤b→cj.m b=none∧cj.bi b=0
 b0: ∀t,cj.mL t=none
 le:cj.gj E
 os:E.w.os=cj.w.os
 tape:E.w.tape=cj.w.tape
 output:E.w.output=cj.w.output
 size:cj.w.heap.size≤E.w.heap.size
 cT: ∀c,c<cj.w.heap.size→ ¬cj.fk c→E.w.heap[c]?=cj.w.heap[c]?
 iu: ∀b c,E.m b=some (some c)→cj.m b=some (some c)∨cj.w.heap.size≤c
 iK: ∀c,E.j1 c→cj.w.heap.size≤c
 fo: ∀c,E.PA c→cj.PA c∨cj.w.heap.size≤c
 e9: ∀c,E.PF c→cj.PF c∨cj.w.heap.size≤c
section
variable [h5:cw]
theorem Good.nL {cj E:Env} (h:Good cj E): ∀c,E.fk c→cj.fk c∨cj.w.heap.size≤c:=fun c ⟨b,hb⟩=>(h.iu b c hb).elim (fun h=> .inl ⟨b,h⟩) .inr
theorem Good.refl {E:Env} (hu: ∀b,h5.n≤b→E.m b=none∧E.bi b=0) (h: ∀t,E.mL t=none):Good E E:=
 ⟨hu,h,.refl E,rfl,rfl,rfl,Nat.le_refl _,fun _ _ _=>rfl,fun _ _ x=> .inl x,(fun c ⟨t,x⟩=>by rw[h t] at x;cases x),fun _ x=> .inl x,fun _ x=> .inl x⟩
theorem Good.step {cj E E':Env} (h:Good cj E) (k:Step E E'):Good cj E' where
 x7:=h.x7
 b0:=h.b0
 le:=h.le.trans k.le
 os:=k.os.trans h.os
 tape:=k.tape.trans h.tape
 output:=k.output.trans h.output
 size:=Nat.le_trans h.size k.size
 cT:=fun c hc h1=>by
  rw[k.cT c (Nat.lt_of_lt_of_le hc h.size) (fun x=>(h.nL c x).elim h1 (fun y=>absurd hc (Nat.not_lt.2 y))) (fun x=>absurd hc (Nat.not_lt.2 (h.iK c x)))]
  exact h.cT c hc h1
 iu:=fun b c x=>(k.iu b c x).elim (fun y=>h.iu b c y) (fun y=> .inr (Nat.le_trans h.size y))
 iK:=fun c x=>(k.iK c x).elim (fun y=>h.iK c y) (fun y=>Nat.le_trans h.size y)
 fo:=fun c x=>(k.fo c x).elim (fun y=>h.fo c y) (fun y=> .inr (Nat.le_trans h.size y))
 e9:=fun c x=>(k.e9 c x).elim (fun y=>h.e9 c y) (fun y=> .inr (Nat.le_trans h.size y))
end
def Ri (ex:Exit):Bool:=match ex with
 | .normal | .exit _ | .ret=>true
 | _=>false
def mi [cw] (cj:Env) (Q:Exit→St→Prop) (ex:Exit) (a:Act) (w:World):Prop:=
 Ri ex=true∧ ∃ay E,Q ex ay∧E.w=w∧Good cj E∧sx E ay a.tmps∧a.defers=[]
def WpS [cw] (P:Program) (c:Code) (Q:Exit→St→Prop) (ay:St):Prop:=
 ∀(cj E:Env) (a:Act),Good cj E→sx E ay a.tmps→a.defers=[]→c.wp P (mi cj Q) a E.w
def Weak [cw] (ay kr:St):Prop:= ∀(cj E:Env) (tmps:Array Value),Good cj E→sx E ay tmps→ ∃E',E'.w=E.w∧Good cj E'∧sx E' kr tmps
theorem Weak.refl [cw] (ay:St):Weak ay ay:=fun cj E tmps g h=>⟨E,rfl,g,h⟩
theorem Weak.trans [cw] {a b c:St} (h:Weak a b) (k:Weak b c):Weak a c:=fun cj E tmps g s=>by
 obtain⟨E1,aR,g1,s1⟩:=h cj E tmps g s
 obtain⟨p1,e2,g2,s2⟩:=k cj E1 tmps g1 s1
 exact⟨p1,e2.trans aR,g2,s2⟩
section
variable [cw] {P:Program} {Q um:Exit→St→Prop} {ay:St}
theorem WpS.mono {c:Code} (h:WpS P c Q ay) (af: ∀e s,Q e s→um e s):WpS P c um ay:=fun cj E a g s d=>
 wp_mono (h cj E a g s d) fun e a w ⟨h1,ay,E,h2,aM⟩=>⟨h1,ay,E,af _ _ h2,aM⟩
theorem WpS.ra {c:Code} {kr:St} (h:WpS P c Q kr) (k:Weak ay kr):WpS P c Q ay:=fun cj E a g s d=>by
 obtain⟨E1,aR,g1,s1⟩:=k cj E a.tmps g s
 exact aR▸h cj E1 a g1 s1 d
theorem WpS.skip (h:Q .normal ay):WpS P .skip Q ay:=fun cj E a g s d=>wp_skip ⟨rfl,ay,E,h,rfl,g,s,d⟩
theorem WpS.ret (h:Q .ret ay):WpS P .ret Q ay:=fun cj E a g s d=>wp_ret ⟨rfl,ay,E,h,rfl,g,s,d⟩
theorem WpS.exit {id:Nat} (h:Q (.exit id) ay):WpS P (.exit id) Q ay:=fun cj E a g s d=>wp_exit ⟨rfl,ay,E,h,rfl,g,s,d⟩
def eH (P:Program) (y:Code) (Q:Exit→St→Prop) (ex:Exit) (s:St):Prop:=match ex with
 | .normal=>WpS P y Q s
 | ex=>Q ex s
theorem WpS.seq {x y:Code} (h:WpS P x (eH P y Q) ay):WpS P (.seq x y) Q ay:=fun cj E a g s d=>
 wp_seq (wp_mono (h cj E a g s d) fun e gk w' ⟨h1,kr,E',h2,aM,bx,c9,e6⟩=>by
  cases e with
  | normal=>subst aM;exact h2 cj E' gk bx c9 e6
  | exit id=>exact⟨rfl,kr,E',h2,aM,bx,c9,e6⟩
  | ret=>exact⟨rfl,kr,E',h2,aM,bx,c9,e6⟩
  | _=>cases h1)
def ej (id:Nat) (Q:Exit→St→Prop) (ex:Exit) (s:St):Prop:=match ex with
 | .exit fX=>if fX=id then Q .normal s else Q (.exit fX) s
 | ex=>Q ex s
theorem WpS.block {id:Nat} {c:Code} (h:WpS P c (ej id Q) ay):WpS P (.block id c) Q ay:=fun cj E a g s d=>
 wp_block (wp_mono (h cj E a g s d) fun e gk w' ⟨h1,kr,E',h2,aM⟩=>by
  cases e with
  | normal=>exact⟨rfl,kr,E',h2,aM⟩
  | exit fX=>
   by_cases hid:fX=id
   ·subst hid
    have nH:(if fX=fX then Q .normal kr else Q (.exit fX) kr):=h2
    rw[if_pos rfl] at nH
    show(if fX=fX then _ else _)
    rw[if_pos rfl];exact⟨rfl,kr,E',nH,aM⟩
   ·have nH:(if fX=id then Q .normal kr else Q (.exit fX) kr):=h2
    rw[if_neg hid] at nH
    show(if fX=id then _ else _)
    rw[if_neg hid];exact⟨rfl,kr,E',nH,aM⟩
  | ret=>exact⟨rfl,kr,E',h2,aM⟩
  | _=>cases h1)
end
def nE:Value→AV
 | .int k n=> .int k n
 | .bool b=> .bool b
 | .string s=> .str s
 | .slice none 0 0=> .aV [] true true
 | .pointer none=> .fI
 | .nilIface=> .fY
 | _=> .undef
def cb (T:List AV):Operand→AV
 | .tmp t=>T.getD t .undef
 | .const v=>nE v
 | .func f=> .fn f []
 | .global _=> .undef
theorem S7 (E:Env) (v:Value):V3 E (nE v) v:=by
 unfold nE
 split
 ·exact aW.int _ _
 ·exact aW.bool _
 ·exact aW.str _
 ·exact aW.aV (PB:=fun _=>False) (sz:=0) (vs:=fun _ _=>undef) (fun _ h=>h.elim) ⟨Nat.le_refl _,Nat.zero_le _⟩ (fun _=>rfl) (fun i row h=>by simp at h) (fun h=>by simp at h) (fun i j row a h=>by simp at h)
 ·exact aW.fI
 ·exact aW.fY
 ·exact aW.undef _
theorem opv_rel {E:Env} {T:List AV} {a:Act} (h: ∀t,V3 E (T.getD t .undef) (a.tmps.getD t undef)) (x:Operand):V3 E (cb T x) (a.eval x):=by
 cases x with
 | tmp t=>exact h t
 | const v=>exact S7 E v
 | global g=>exact aW.undef _
 | func f=>exact⟨[],rfl,aO.nil⟩
def wW (b:Bool) (x y:Prop):Prop:=(b=true→x)∧(b=false→y)
def nC (v:AV) (k:Bool→Prop):Prop:=match v with
 | .bool b=>k b
 | _=>False
theorem zo {v:AV} {k:Bool→Prop} (h:nC v k): ∃b,v= .bool b∧k b:=by
 cases v<;>first | exact⟨_,rfl,h⟩ | exact h.elim
theorem V3.mS {E:Env} {b:Bool} {v:Value} (h:V3 E (.bool b) v):v= .bool b:=by
 have h':aW E.w E.PA E.PF (.bool b) v:=h
 cases h';rfl
theorem V3.nb {E:Env} {k:IntKind} {n:Int} {v:Value} (h:V3 E (.int k n) v):v= .int k n:=by
 have h':aW E.w E.PA E.PF (.int k n) v:=h
 cases h';rfl
theorem V3.wg {E:Env} {s:ByteArray} {v:Value} (h:V3 E (.str s) v):v= .string s:=by
 have h':aW E.w E.PA E.PF (.str s) v:=h
 cases h';rfl
section
variable [cw] {P:Program} {Q um:Exit→St→Prop} {ay:St}
theorem WpS.cond {c:Operand} {x y:Code} (h:nC (cb ay.T c) fun b=>wW b (WpS P x Q ay) (WpS P y Q ay)):WpS P (.cond c x y) Q ay:=fun cj E a g s d=>by
 obtain⟨b,hb,h1,h2⟩:=zo h
 have hv:=opv_rel s.hP c
 rw[hb] at hv
 have he:a.eval c= .bool b:=V3.mS hv
 exact wp_cond_split he (fun e=>h1 e cj E a g s d) (fun e=>h2 e cj E a g s d)
def RG (I:Nat→St→Prop) (n:Nat) (Q:Exit→St→Prop) (ex:Exit) (s:St):Prop:=match ex with
 | .normal=> ∃iO s',iO<n∧Weak s s'∧I iO s'
 | ex=>Q ex s
theorem WpS.loop {c:Code} (I:Nat→St→Prop) (n:Nat) (aI:I n ay) (round: ∀n s,I n s→WpS P c (RG I n Q) s):WpS P (.loop c) Q ay:=by
 intro cj E a g s d b k aw
 have key: ∀n (a:Act) (E:Env) ay,I n ay→Good cj E→sx E ay a.tmps→a.defers=[]→
   ∃e gk w',mi cj Q e gk w'∧Arrives P (lone (b.at a (.code c:: .inLoop c::k)) aw E.w) b k aw e gk w':=by
  intro n
  induction n using Nat.strongRecOn with
  | _ n bE=>
   intro a E ay a_ g s d
   obtain⟨e,zp,Q6,af,xn⟩:=round n ay a_ cj E a g s d b (.inLoop c::k) aw
   obtain⟨he,QA,E1,af,hw,g1,s1,d1⟩:=af
   cases e with
   | normal=>
    obtain⟨iO,s',aX,Wr,xi⟩:=af
    obtain⟨p1,e2,g2,s2⟩:=Wr cj E1 zp.tmps g1 s1
    obtain⟨TA,RW,aeE,Wc,Kr⟩:=bE iO aX zp p1 s' xi g2 s2 d1
    rw[e2,hw] at Kr
    exact⟨TA,RW,aeE,Wc,.of_steps (Steps.trans xn (.one step_inLoop)) Kr⟩
   | exit id=>exact⟨_,zp,Q6,⟨rfl,QA,E1,af,hw,g1,s1,d1⟩,.pass (x:= .inLoop c) rfl (fun _ _=> .inl (by simp)) xn⟩
   | ret=>exact⟨_,zp,Q6,⟨rfl,QA,E1,af,hw,g1,s1,d1⟩,.pass (x:= .inLoop c) rfl (fun _ _=> .inl (by simp)) xn⟩
   | _=>cases he
 obtain⟨e,gk,w',af,xn⟩:=key n a E ay aI g s d
 exact⟨e,gk,w',af,.of_steps (.one step_loop) xn⟩
end
def cM {α:Type} (o:Option α) (k:α→Prop):Prop:=match o with
 | some a=>k a
 | none=>False
theorem e8 {α:Type} {o:Option α} {k:α→Prop} (h:cM o k): ∃a,o=some a∧k a:=by
 cases o with
 | none=>exact h.elim
 | some a=>exact⟨a,rfl,h⟩
theorem dN {α:Type} {o:Option α} {k:α→Prop} {a:α} (h:o=some a) (hk:k a):cM o k:=by rw[h];exact hk
def eu (b:Bool) (x:Prop):Prop:=match b with
 | true=>x
 | false=>False
theorem oI {b:Bool} {x:Prop} (h:eu b x):b=true∧x:=by
 cases b with
 | true=>exact⟨rfl,h⟩
 | false=>exact h.elim
def vq (P:Program) (t:TypeId):Bool:=match P.underlying t with
 | some (.struct _) | some (.array _ _)=>true
 | _=>false
def xV (P:Program) (t:TypeId):Bool:=(P.underlying t).isSome
theorem run_underlying {P:Program} {t:TypeId} {w:World} {d:TypeDesc} (h:P.underlying t=some d):(underlying t).run P w= .ok d w:=by
 simp[Go.underlying,h]
theorem OX {P:Program} {t:TypeId} {w:World} (h:xV P t=true):(isAgg t).run P w= .ok (vq P t) w:=by
 unfold xV at h
 cases aZ:P.underlying t with
 | none=>simp[aZ] at h
 | some d=>
  simp only[Go.isAgg,Sem.run_bind,run_underlying aZ,Result.andThen_ok,vq,aZ]
  cases d<;>rfl
theorem run_sizeOf {P:Program} {t:TypeId} {w:World} (h:(P.info? t).isSome=true):(sizeOf t).run P w= .ok (P.cellsOf t) w:=by
 cases hi:P.info? t with
 | none=>simp[hi] at h
 | some i=>simp[Go.sizeOf,typeInfo,hi,Program.cellsOf]
theorem XS {P:Program} {t:TypeId} (h:xV P t=true):(P.info? t).isSome=true:=by
 unfold xV Program.underlying at h
 cases hi:P.info? t with
 | none=>simp[hi] at h
 | some i=>rfl
def ix (P:Program) (t:TypeId) (cells:List AV) (c:Nat) (K:AV→Prop):Prop:=
 if xV P t=true then
  (if vq P t=true then(if c+P.cellsOf t≤cells.length then K (.agg ((cells.drop c).take (P.cellsOf t))) else False)
   else cM cells[c]? K)
 else False
def nN (P:Program) (t:TypeId) (x:AV) (L:List (Nat×List AV)) (H:List Blk) (K:AV→Prop):Prop:=match x with
 | .e7 s c=>cM (dZ L s) fun cells=>ix P t cells c K
 | .ptr b g r c=>cM H[b]? fun blk=>blk.bi=g∧cM blk.rows[r]? fun row=>ix P t row c K
 | .da cells c=>ix P t cells c K
 | _=>False
theorem mP (c o n:Nat):(⟨c,o,none⟩:Addr).add n=⟨c,o+n,none⟩:=by
 unfold Addr.add;split
 ·subst_vars;rfl
 ·rfl
theorem HT {P:Program} {t:TypeId} {cells:List AV} {c bl o:Nat} {K:AV→Prop} {w:World} {R:AV→Value→Prop}
  (hc: ∀(j:Nat) (a:AV),cells[j]?=some a→ ∃u,w.cell? ⟨bl,o+j,none⟩=some u∧R a u) (h:ix P t cells c K):
  ∃a v,K a∧(loadVar t ⟨bl,o+c,none⟩).run P w= .ok v w∧
   ((∃l vs,a= .agg l∧v= .agg (List.toArray vs)∧aO R l vs)∨R a v):=by
 unfold ix at h
 split at h
 ·rename_i hk
  split at h
  ·rename_i aF
   split at h
   ·rename_i aE
    let n:=P.cellsOf t
    have d_: ∀j,j<n→ ∃a u,cells[c+j]?=some a∧w.cell? ⟨bl,o+(c+j),none⟩=some u∧R a u:=by
     intro j ap
     have io:c+j<cells.length:=by show c+j<cells.length;have:n=P.cellsOf t:=rfl;omega
     obtain⟨u,h1,h2⟩:=hc (c+j) _ (List.getElem?_eq_getElem io)
     exact⟨_,u,List.getElem?_eq_getElem io,h1,h2⟩
    let f:Nat→Value:=fun j=>(w.cell? ⟨bl,o+(c+j),none⟩).getD undef
    have hf: ∀j,j<n→w.cell? ((⟨bl,o+c,none⟩:Addr).add j)=some (f j):=by
     intro j ap
     obtain⟨a,u,_,h1,_⟩:=d_ j ap
     rw[mP,Nat.add_assoc]
     show _=some ((w.cell? ⟨bl,o+(c+j),none⟩).getD undef)
     rw[h1];rfl
    refine⟨_,.agg ((List.range n).map f).toArray,h,?_,.inl ⟨_,(List.range n).map f,rfl,rfl,?_,?_⟩⟩
    ·simp only[loadVar,Sem.run_bind,OX hk,Result.andThen_ok,aF,if_true,run_sizeOf (XS hk)]
     rw[run_loadCells w _ n f hf]
     rfl
    ·simp only[List.length_take,List.length_drop,List.length_map,List.length_range];show min n _=n;have:n=P.cellsOf t:=rfl;omega
    ·intro i a b KE u5
     have hi:i<n:=by have:=(List.getElem?_eq_some_iff.1 u5).1;simpa using this
     obtain⟨gk,u,h1,h2,aM⟩:=d_ i hi
     rw[List.getElem?_take,if_pos (show i<P.cellsOf t from hi),List.getElem?_drop,h1] at KE
     cases KE
     rw[List.getElem?_map,List.getElem?_range hi] at u5
     simp only[Option.map_some,Option.some.injEq] at u5
     have:f i=u:=by show(w.cell? ⟨bl,o+(c+i),none⟩).getD undef=u;rw[h2];rfl
     rw[←u5,this];exact aM
   ·exact h.elim
  ·rename_i aF
   obtain⟨a,sR,hK⟩:=e8 h
   obtain⟨u,h1,h2⟩:=hc c a sR
   refine⟨a,u,hK,?_,.inr h2⟩
   have U_:vq P t=false:=by cases hx:vq P t<;>simp_all
   simp only[loadVar,Sem.run_bind,OX hk,Result.andThen_ok,U_]
   simp[h1]
 ·exact h.elim
theorem b1.up {E:Env} {a:AV} {v:Value} (h:b1 E.b0 a v):b1 E a v:=h.le E.Bc
theorem RH {E:Env} {l:List AV} {v:Value} (h:b1 E (.agg l) v):False:=by
 have h':aW E.w E.PA E.PF (.agg l) v:=h
 cases h'
theorem RI {E:Env} {l:List AV} {v:Value} (h:b1 E (.tup l) v):False:=by
 have h':aW E.w E.PA E.PF (.tup l) v:=h
 cases h'
theorem jp {E:Env} {a:AV} {v:Value} (h:b1 E a v):V2 E a v:=by
 by_cases hf: ∃l,a= .agg l
 ·obtain⟨l,rfl⟩:=hf;exact(RH h).elim
 ·rw[ny fun l e=>hf ⟨l,e⟩];exact h
theorem RJ {E:Env} {l:List AV} {v:Value} (h:V2 E (.tup l) v):False:=RI (E:=E) (l:=l) (v:=v) h
theorem o6 {E:Env} {a:AV} {v:Value} (h:V2 E a v):V3 E a v:=by
 by_cases hf: ∃l,a= .tup l
 ·obtain⟨l,rfl⟩:=hf;exact(RJ h).elim
 ·rw[nz fun l e=>hf ⟨l,e⟩];exact h
theorem CA {E:Env} {a:AV} {v:Value} (h:(∃l vs,a= .agg l∧v= .agg (List.toArray vs)∧aO (b1 E) l vs)∨b1 E a v):V2 E a v:=by
 rcases h with⟨l,vs,rfl,rfl,ai⟩ | h
 ·exact⟨vs,rfl,ai⟩
 ·exact jp h
theorem V3.x0 {E:Env} {t c:Nat} {v:Value} (h:V3 E (.e7 t c) v): ∃bl,E.mL t=some bl∧v= .pointer (some ⟨bl,c,none⟩):=h
theorem V3.Bq {E:Env} {b g r c:Nat} {v:Value} (h:V3 E (.ptr b g r c) v) (aQ:E.bi b=g): ∃bl,E.m b=some (some bl)∧v= .pointer (some ⟨bl,r*E.sz b+c,none⟩):=by
 rcases(h:ez E (.ptr b g r c) v) with⟨h,_⟩ | ⟨_,h⟩
 ·omega
 ·exact h
theorem cell_of {w:World} {c o:Nat} {aw:Array Value} {ty:TypeId} {J1:Nat×Nat} {u:Value} (h:w.heap[c]?=some (.cells aw ty J1)) (hu:aw[o]?=some u):w.cell? ⟨c,o,none⟩=some u:=by
 simp[World.cell?,h,hu]
structure Sub (L:List (Nat×List AV)) (H:List Blk) (jO:List (Nat×List AV)) (eL:List Blk):Prop where
 l: ∀t c,dZ L t=some c→dZ jO t=some c
 h: ∀(b:Nat) (blk:Blk),H[b]?=some blk→eL[b]?=some blk
theorem Sub.refl (L:List (Nat×List AV)) (H:List Blk):Sub L H L H:=⟨fun _ _ h=>h,fun _ _ h=>h⟩
theorem Nd {P:Program} {t:TypeId} {x:AV} {L jO:List (Nat×List AV)} {H eL:List Blk} {K:AV→Prop} {E:Env} {v:Value}
  (sub:Sub L H jO eL) (aB:SimH E eL) (bN:SimL E jO) (hx:V3 E x v) (h:nN P t x L H K):
  ∃a ec,K a∧(Instr.loadAt t v).run P E.w= .ok ec E.w∧V2 E a ec:=by
 cases x with
 | e7 s c=>
  obtain⟨bl,hm,rfl⟩:=hx.x0
  obtain⟨cells,aw,ty,aQ,hw,ai⟩:=bN s bl hm
  have h':cM (dZ L s) fun cells=>ix P t cells c K:=h
  obtain⟨uI,xv,h'⟩:=e8 h'
  obtain rfl:cells=uI:=by have:=sub.l _ _ xv;rw[aQ] at this;exact Option.some.inj this
  obtain⟨a,ec,hK,av,hv⟩:=HT (o:=0) (bl:=bl) (w:=E.w) (R:=b1 E.b0) (fun j a ap=>by
   obtain⟨u,hu,av⟩:=ai.get ap
   exact⟨u,by rw[Nat.zero_add];exact cell_of hw (by simpa using hu),av⟩) h'
  rw[Nat.zero_add] at av
  refine⟨a,ec,hK,?_,(CA hv).le E.Bc⟩
  simp only[Instr.loadAt,Instr.sureAddr,Sem.run_bind,Sem.run_pure,Result.andThen_ok,av]
 | ptr b g r c=>
  obtain⟨blk,hb,aQ,h2⟩:=e8 (show cM H[b]? fun blk=>blk.bi=g∧cM blk.rows[r]? fun row=>ix P t row c K from h)
  obtain⟨row,eO,aM⟩:=e8 h2
  replace hb:=sub.h b blk hb
  have ju:=aB.eI b blk hb
  obtain⟨bl,hm,rfl⟩:=hx.Bq (ju.trans aQ)
  obtain⟨blk',aw,ty,ea,lS,hw,jX,hlen,fW⟩:=aB.heap b bl hm
  obtain rfl:blk=blk':=by rw[hb] at ea;exact Option.some.inj ea
  obtain⟨a,ec,hK,av,hv⟩:=HT (o:=r*E.sz b) (bl:=bl) (w:=E.w) (R:=b1 E.b0) (fun j a ap=>by
   obtain⟨u,hu,av⟩:=fW.2 r j row a eO ap
   exact⟨u,cell_of hw hu,av⟩) aM
  refine⟨a,ec,hK,?_,(CA hv).le E.Bc⟩
  simp only[Instr.loadAt,Instr.sureAddr,Sem.run_bind,Sem.run_pure,Result.andThen_ok,av]
 | da cells c=>
  have iJ:aW E.w E.PA E.PF (.da cells c) v:=hx
  cases iJ with
  | @da _ _ _ _ bl o vs hc dQ hrel=>
   have h':ix P t cells c K:=h
   obtain⟨a,ec,hK,av,hv⟩:=HT (o:=o) (bl:=bl) (w:=E.w) (R:=aW E.w E.PA (fun _=>False)) (fun j a ap=>
    ⟨vs j,dQ j (List.getElem?_eq_some_iff.1 ap).1,hrel j a ap⟩) h'
   have up: ∀a v,aW E.w E.PA (fun _=>False) a v→b1 E a v:=fun a v av=>(av.mono (fun _ _=>rfl) (fun _ h=>h.elim) (fun _ h=>h) (fun _ h=>h.elim)).v1
   refine⟨a,ec,hK,?_,CA (hv.imp (fun⟨l,vs,h1,h2,aM⟩=>⟨l,vs,h1,h2,aM.mono up⟩) (up _ _))⟩
   simp only[Instr.loadAt,Instr.sureAddr,Sem.run_bind,Sem.run_pure,Result.andThen_ok,av]
 | _=>exact h.elim
def tW:AV→Bool
 | .undef | .agg _ | .tup _ | .e7 _ _ | .fn _ _=>false
 | _=>true
def iS:AV→Bool
 | .fn _ caps=>caps.all tW
 | a=>tW a
def eP:AV→List AV
 | .agg l=>l
 | a=>[a]
def gh (row:List AV) (c:Nat) (l:List AV):List AV:=row.take c++l++row.drop (c+l.length)
def k7 (P:Program) (t:TypeId) (x v:AV) (L:List (Nat×List AV)) (H:List Blk) (K:List (Nat×List AV)→List Blk→Prop):Prop:=
 if(P.info? t).isSome=true∧(eP v).length=P.cellsOf t∧(eP v).all iS=true then
  match x with
  | .e7 s c=>cM (dZ L s) fun cells=>if c+(eP v).length≤cells.length then K (ko L s (gh cells c (eP v))) H else False
  | .ptr b g r c=>cM H[b]? fun blk=>blk.bi=g∧cM blk.rows[r]? fun row=>c+(eP v).length≤row.length∧K L (H.set b {blk with rows:=blk.rows.set r (gh row c (eP v))})
  | _=>False
 else False
theorem QD {E:Env} {a:AV} {v:Value} (h:tW a=true) (hv:ez E a v):ez E.b0 a v:=by
 cases a<;>first | exact hv | cases h
theorem HH {E:Env} {a:AV} {v:Value} (h:iS a=true) (hv:b1 E a v):b1 E.b0 a v:=by
 by_cases hf: ∃f caps,a= .fn f caps
 ·obtain⟨f,caps,rfl⟩:=hf
  obtain⟨vs,e,ai⟩:=hv
  refine⟨vs,e,ai.1,fun i x y hx ba=>QD ?_ (ai.2 i x y hx ba)⟩
  have h':caps.all tW=true:=h
  exact List.all_eq_true.1 h' x (List.mem_of_getElem? hx)
 ·have aI:iS a=tW a:=by cases a<;>first | rfl | exact absurd ⟨_,_,rfl⟩ hf
  rw[o5 fun f c e=>hf ⟨f,c,e⟩] at hv ⊢
  exact QD (aI▸h) hv
theorem ez.one {E:Env} {a:AV} {v:Value} (h:tW a=true) (hv:ez E a v):v.oneCell'=true:=by
 cases a with
 | undef=>cases h
 | agg l=>cases h
 | tup l=>cases h
 | e7 s c=>cases h
 | fn f c=>cases h
 | ref b g off n full=>
  rcases hv with⟨_,A,cap,rfl⟩ | ⟨_,⟨_,_,_,A,rfl⟩ | ⟨c,cap,_,rfl,_⟩⟩
  ·rfl
  ·rfl
  ·rfl
 | ptr b g r c=>
  rcases hv with⟨_,bl,o,rfl⟩ | ⟨_,bl,_,rfl⟩
  ·rfl
  ·rfl
 | _=>exact aW.one (show aW E.w E.PA E.PF _ v from hv) (by intro h;cases h)
theorem b1.Bg {E:Env} {a:AV} {v:Value} (h:iS a=true) (hv:b1 E a v):v.oneCell'=true:=by
 by_cases hf: ∃f caps,a= .fn f caps
 ·obtain⟨f,caps,rfl⟩:=hf
  obtain⟨vs,rfl,ai⟩:=hv
  rfl
 ·have aI:iS a=tW a:=by cases a<;>first | rfl | exact absurd ⟨_,_,rfl⟩ hf
  rw[o5 fun f c e=>hf ⟨f,c,e⟩] at hv
  exact hv.one (aI▸h)
theorem Step.setRow {E:Env} {H:List Blk} (aB:SimH E H) {bl:Nat} (hb:E.fk bl∨E.j1 bl) (aw:Array Value):Step E {E with w:=E.w.setRow bl aw}:=by
 have ao: ∀c,E.PA c→c≠bl:=fun c hc e=>by
  subst e
  exact hb.elim (aB.hq _ hc) (aB.hN _ hc)
 have hk: ∀c,c≠bl→(E.w.setRow bl aw).heap[c]?=E.w.heap[c]?:=fun c hc=>setRow_other _ _ _ _ hc
 exact⟨⟨fun _ h=>h,fun _ h=>h,fun c hc=>hk c (ao c hc),fun c hc=>hk c (ao c (aB.dr c hc)),fun _=>Nat.le_refl _,fun _ _ h _=>⟨h,rfl,rfl⟩,fun _ _ h=>h⟩,rfl,rfl,rfl,
  by simp,fun c _ h1 h2=>hk c (fun e=>by subst e;exact hb.elim h1 h2),fun _ _ h=> .inl h,fun _ h=> .inl h,fun _ h=> .inl h,fun _ h=> .inl h⟩
theorem C1 {E:Env} {v:AV} {u:Value} (hv:V2 E v u) (hs:(eP v).all iS=true):aO (b1 E) (eP v) u.cells.toList:=by
 by_cases hf: ∃l,v= .agg l
 ·obtain⟨l,rfl⟩:=hf
  obtain⟨vs,rfl,ai⟩:=hv
  exact ai
 ·have aI:eP v=[v]:=by cases v<;>first | rfl | exact absurd ⟨_,rfl⟩ hf
  rw[ny fun l e=>hf ⟨l,e⟩] at hv
  rw[aI] at hs ⊢
  have h1:u.oneCell'=true:=hv.Bg (by simpa using hs)
  have h2:u.cells= #[u]:=by cases u<;>first | rfl | cases h1
  rw[h2]
  exact aO.cons hv aO.nil
theorem OY {P:Program} {t:TypeId} {w:World} {bl o:Nat} {aw:Array Value} {ty:TypeId} {u:Value} (hi:(P.info? t).isSome=true) (aH:u.cells.size=P.cellsOf t)
  (hw:w.heap[bl]?=some (.cells aw ty (0,0))) (aG:o+u.cells.size≤aw.size) (h1: ∀x∈u.cells.toList,x.oneCell'=true):
  (Instr.storeAt t (.pointer (some ⟨bl,o,none⟩)) u).run P w= .ok () (w.setRow bl (aw.toList.take o++u.cells.toList++aw.toList.drop (o+u.cells.toList.length)).toArray):=by
 have:=run_storeCells_at (P:=P) bl o ty u.cells.toList 0 aw w hw (by simpa using aG) h1
 simp only[Nat.add_zero] at this
 simp[Instr.storeAt,Instr.sureAddr,storeVar,run_sizeOf hi,aH,this]
theorem we {α:Type} {l m:List α} {c:Nat} (hc:c+m.length≤l.length) (j:Nat):
  (l.take c++m++l.drop (c+m.length))[j]?=if j<c then l[j]? else if j<c+m.length then m[j - c]? else l[j]?:=by
 by_cases h1:j<c
 ·rw[if_pos h1,List.append_assoc,List.getElem?_append_left (by simp;omega),List.getElem?_take,if_pos h1]
 ·rw[if_neg h1]
  by_cases h2:j<c+m.length
  ·rw[if_pos h2,List.getElem?_append_left (by simp;omega),List.getElem?_append_right (by simp;omega)]
   congr 1;simp;omega
  ·rw[if_neg h2,List.getElem?_append_right (by simp;omega),List.getElem?_drop]
   congr 1;simp;omega
theorem aO.gh {α β:Type} {R:α→β→Prop} {l m:List α} {eK e3:List β} (h:aO R l eK) (k:aO R m e3) {c:Nat} (hc:c+m.length≤l.length):
  aO R (l.take c++m++l.drop (c+m.length)) (eK.take c++e3++eK.drop (c+e3.length)):=by
 have h1:=h.1
 have dA:=k.1
 refine⟨by simp;omega,fun i a b aF hb=> ?_⟩
 rw[we hc] at aF
 rw[we (by omega)] at hb
 rw[←dA] at hb
 split at aF
 ·rename_i hi;rw[if_pos hi] at hb;exact h.2 i a b aF hb
 ·rename_i hi;rw[if_neg hi] at hb
  split at aF
  ·rename_i ap;rw[if_pos ap] at hb;exact k.2 _ a b aF hb
  ·rename_i ap;rw[if_neg ap] at hb;exact h.2 i a b aF hb
theorem xe (L:List (Nat×List AV)) (t s:Nat) (d:List AV):dZ (ko L t d) s=if s=t then(dZ L t).map (fun _=>d) else dZ L s:=by
 induction L with
 | nil=>simp[ko,dZ]
 | cons x L bE=>
  obtain⟨k,c⟩:=x
  by_cases h1:t=k
  ·subst h1
   by_cases h2:s=t
   ·simp[ko,dZ,h2]
   ·simp[ko,dZ,h2]
  ·by_cases h2:s=k
   ·subst h2
    have: ¬s=t:=fun e=>h1 e.symm
    simp[ko,dZ,h1,this]
   ·simp only[ko,if_neg h1,dZ,if_neg h2,bE]
theorem ad1 {P:Program} {t:TypeId} {x v:AV} {L:List (Nat×List AV)} {H:List Blk} {K:List (Nat×List AV)→List Blk→Prop} {E:Env} {h0 lD:Value}
  (aB:SimH E H) (bN:SimL E L) (hx:V3 E x h0) (hv:V2 E v lD) (h:k7 P t x v L H K):
  ∃L' H' E',K L' H'∧(Instr.storeAt t h0 lD).run P E.w= .ok () E'.w∧Step E E'∧SimH E' H'∧SimL E' L'∧E'.mL=E.mL:=by
 unfold k7 at h
 split at h
 case isFalse=>exact h.elim
 case isTrue hc=>
 obtain⟨hi,aH,hs⟩:=hc
 have u3:=C1 hv hs
 have ao:aO (b1 E.b0) (eP v) lD.cells.toList:=⟨u3.1,fun i a b aF hb=>HH (List.all_eq_true.1 hs a (List.mem_of_getElem? aF)) (u3.2 i a b aF hb)⟩
 have h1: ∀y∈lD.cells.toList,y.oneCell'=true:=by
  intro y ba
  obtain⟨i,hi⟩:=List.mem_iff_getElem?.1 ba
  have Ap:i<(eP v).length:=by rw[u3.1];exact(List.getElem?_eq_some_iff.1 hi).1
  exact(u3.2 i _ y (List.getElem?_eq_getElem Ap) hi).Bg (List.all_eq_true.1 hs _ (List.getElem_mem Ap))
 have cd:lD.cells.size=P.cellsOf t:=by rw[←aH,u3.1];simp
 have hlen:lD.cells.toList.length=(eP v).length:=u3.1.symm
 cases x with
 | e7 s c=>
  obtain⟨bl,hm,rfl⟩:=hx.x0
  obtain⟨cells,aw,ty,aQ,hw,ai⟩:=bN s bl hm
  have h':cM (dZ L s) fun cells=>if c+(eP v).length≤cells.length then K (ko L s (gh cells c (eP v))) H else False:=h
  rw[aQ] at h'
  have D8:if c+(eP v).length≤cells.length then K (ko L s (gh cells c (eP v))) H else False:=h'
  split at D8
  case isFalse=>exact D8.elim
  case isTrue hle=>
  have Vo:cells.length=aw.size:=by rw[ai.1];simp
  have fx:=OY (P:=P) (t:=t) (o:=c) hi cd hw (by rw[←Vo];have:lD.cells.size=(eP v).length:=by rw[←hlen];simp
                                                omega) h1
  have fg:=Step.setRow aB (.inr ⟨s,hm⟩) (aw.toList.take c++lD.cells.toList++aw.toList.drop (c+lD.cells.toList.length)).toArray
  have bY: ∀b ck,E.m b=some (some ck)→ck≠bl:=fun b ck hb e=>by subst e;exact aB.gn b s ck hb hm
  refine⟨_,_,_,D8,fx,fg,?_,?_,rfl⟩
  ·exact{aB with
    fh:=fun ck ke=>(aB.fh ck ke).same (fg.le.wf ck ke)
    heap:=fun b ck hb=>by
     obtain⟨blk,bX,hC,q1,b5,q2,q3,q4,cW,cO⟩:=aB.heap b ck hb
     refine⟨blk,bX,hC,q1,b5,?_,q3,q4,cW,fun i j row a av ap=> ?_⟩
     ·show(E.w.setRow bl _).heap[ck]?=_
      rw[setRow_other _ _ _ _ (bY b ck hb)];exact q2
     ·obtain⟨u,hu,eJ⟩:=cO i j row a av ap
      exact⟨u,hu,eJ.le fg.le.b0⟩
    dy:=fun ck hc=>by rw[show(E.w.setRow bl _).heap.size=_ from setRow_size _ _ _];exact aB.dy ck hc
    fl:=fun ck hc=>by rw[show(E.w.setRow bl _).heap.size=_ from setRow_size _ _ _];exact aB.fl ck hc
    gf:=fun ck hc=>by rw[show(E.w.setRow bl _).heap.size=_ from setRow_size _ _ _];exact aB.gf ck hc}
  ·intro hz ck jy
   by_cases he:hz=s
   ·subst he
    obtain rfl:ck=bl:=by
     have:E.mL hz=some ck:=jy
     rw[hm] at this;exact(Option.some.inj this).symm
    refine⟨gh cells c (eP v),_,ty,?_,setRow_heap _ _ _ _ _ _ hw,?_⟩
    ·rw[xe,if_pos rfl,aQ];rfl
    ·have:=aO.gh (ai.mono fun _ _ k=>k.le fg.le.b0) (ao.mono fun _ _ k=>k.le fg.le.b0) hle
     simpa[gh] using this
   ·obtain⟨gw,bX,hC,q1,q2,q3⟩:=bN hz ck jy
    have EE:ck≠bl:=fun e=>by subst e;exact he (aB.iL hz s ck jy hm)
    refine⟨gw,bX,hC,by rw[xe,if_neg he];exact q1,?_,q3.mono fun _ _ k=>k.le fg.le.b0⟩
    show(E.w.setRow bl _).heap[ck]?=_
    rw[setRow_other _ _ _ _ EE];exact q2
 | ptr b g r c=>
  obtain⟨blk,hb,aQ,h2⟩:=e8 (show cM H[b]? fun blk=>blk.bi=g∧cM blk.rows[r]? fun row=>c+(eP v).length≤row.length∧K L (H.set b {blk with rows:=blk.rows.set r (gh row c (eP v))}) from h)
  obtain⟨row,eO,hle,hK⟩:=e8 h2
  have ju:=aB.eI b blk hb
  obtain⟨bl,hm,rfl⟩:=hx.Bq (ju.trans aQ)
  obtain⟨blk',aw,ty,ea,lS,hw,jX,m6,fW⟩:=aB.heap b bl hm
  obtain rfl:blk=blk':=by rw[hb] at ea;exact Option.some.inj ea
  have pt:row.length=E.sz b:=fW.1 r row eO
  have aff:r<blk.rows.length:=(List.getElem?_eq_some_iff.1 eO).1
  have Vg:r*E.sz b+E.sz b≤aw.size:=by
   rw[jX];calc r*E.sz b+E.sz b=(r+1)*E.sz b:=by rw[Nat.add_mul,Nat.one_mul]
    _≤E.cp b*E.sz b:=Nat.mul_le_mul_right _ (by omega)
  have oA:lD.cells.size=(eP v).length:=by rw[←hlen];simp
  have fx:=OY (P:=P) (t:=t) (o:=r*E.sz b+c) hi cd hw (by omega) h1
  have fg:=Step.setRow aB (.inl ⟨b,hm⟩) (aw.toList.take (r*E.sz b+c)++lD.cells.toList++aw.toList.drop (r*E.sz b+c+lD.cells.toList.length)).toArray
  have pj:b<H.length:=(List.getElem?_eq_some_iff.1 hb).1
  refine⟨_,_,_,hK,fx,fg,?_,?_,rfl⟩
  ·exact{aB with
    fh:=fun ck ke=>(aB.fh ck ke).same (fg.le.wf ck ke)
    heap:=fun b7 ck k1=>by
     by_cases he:b7=b
     ·subst he
      obtain rfl:ck=bl:=by
       have:E.m b7=some (some ck):=k1
       rw[hm] at this;exact(Option.some.inj (Option.some.inj this)).symm
      refine⟨{blk with rows:=blk.rows.set r (gh row c (eP v))},_,ty,by rw[List.getElem?_set_self pj],lS,setRow_heap _ _ _ _ _ _ hw,?_,by simpa using m6,?_,?_⟩
      ·simp;omega
      ·intro i row' eJ
       rw[List.getElem?_set] at eJ
       split at eJ
       ·rename_i Ex
        cases eJ
        simp[gh];omega
       ·exact fW.1 i row' eJ
      ·intro i j row' a eJ aF
       have li: ∀k,(aw.toList.take (r*E.sz b7+c)++lD.cells.toList++aw.toList.drop (r*E.sz b7+c+lD.cells.toList.length)).toArray[k]?=if k<r*E.sz b7+c then aw.toList[k]? else if k<r*E.sz b7+c+lD.cells.toList.length then lD.cells.toList[k - (r*E.sz b7+c)]? else aw.toList[k]?:=by
        intro k
        rw[List.getElem?_toArray,we (by simp;omega)]
       rw[List.getElem?_set] at eJ
       split at eJ
       ·rename_i Ex
        cases eJ
        subst Ex
        have vi:=we hle j
        unfold gh at aF
        rw[vi] at aF
        split at aF
        ·rename_i ap
         obtain⟨u,hu,gA⟩:=fW.2 r j row a eO aF
         refine⟨u,?_,gA.le fg.le.b0⟩
         show(List.toArray _)[r*E.sz b7+j]?=_
         rw[li,if_pos (by omega)];simpa using hu
        ·rename_i ap
         split at aF
         ·rename_i u9
          obtain⟨u,hu,gA⟩:=ao.get aF
          refine⟨u,?_,gA.le fg.le.b0⟩
          show(List.toArray _)[r*E.sz b7+j]?=_
          rw[li,if_neg (by omega),if_pos (by omega),show r*E.sz b7+j - (r*E.sz b7+c)=j - c by omega];exact hu
         ·rename_i u9
          obtain⟨u,hu,gA⟩:=fW.2 r j row a eO aF
          refine⟨u,?_,gA.le fg.le.b0⟩
          show(List.toArray _)[r*E.sz b7+j]?=_
          rw[li,if_neg (by omega),if_neg (by omega)];simpa using hu
       ·rename_i Ex
        have kA:j<E.sz b7:=by rw[←fW.1 i row' eJ];exact(List.getElem?_eq_some_iff.1 aF).1
        obtain⟨u,hu,gA⟩:=fW.2 i j row' a eJ aF
        refine⟨u,?_,gA.le fg.le.b0⟩
        show(List.toArray _)[i*E.sz b7+j]?=_
        rw[li]
        rcases Nat.lt_or_ge i r with aX | fT
        ·have:i*E.sz b7+E.sz b7≤r*E.sz b7:=by
          calc i*E.sz b7+E.sz b7=(i+1)*E.sz b7:=by rw[Nat.add_mul,Nat.one_mul]
           _≤r*E.sz b7:=Nat.mul_le_mul_right _ (by omega)
         rw[if_pos (by omega)];simpa using hu
        ·have:r*E.sz b7+E.sz b7≤i*E.sz b7:=by
          calc r*E.sz b7+E.sz b7=(r+1)*E.sz b7:=by rw[Nat.add_mul,Nat.one_mul]
           _≤i*E.sz b7:=Nat.mul_le_mul_right _ (by omega)
         rw[if_neg (by omega),if_neg (by omega)];simpa using hu
     ·obtain⟨w0,uJ,ty2,q1,b5,q2,q3,q4,cW,cO⟩:=aB.heap b7 ck k1
      have bY:ck≠bl:=fun e=>by subst e;exact he (aB.gF b7 b ck k1 hm)
      refine⟨w0,uJ,ty2,by rw[List.getElem?_set_ne (fun e=>he e.symm)];exact q1,b5,?_,q3,q4,cW,fun i j row a av ap=> ?_⟩
      ·show(E.w.setRow bl _).heap[ck]?=_
       rw[setRow_other _ _ _ _ bY];exact q2
      ·obtain⟨u,hu,eJ⟩:=cO i j row a av ap
       exact⟨u,hu,eJ.le fg.le.b0⟩
    eI:=fun b7 w0 k1=>by
     by_cases he:b=b7
     ·subst he
      rw[List.getElem?_set_self pj] at k1
      cases k1
      exact aB.eI b blk hb
     ·rw[List.getElem?_set_ne he] at k1
      exact aB.eI b7 w0 k1
    gQ:=fun b7 k1=>by
     obtain⟨w0,q,iQ⟩:=aB.gQ b7 k1
     by_cases he:b=b7
     ·subst he
      rw[hm] at k1;cases k1
     ·exact⟨w0,by rw[List.getElem?_set_ne he];exact q,iQ⟩
    fresh:=fun b7 k1=>aB.fresh b7 (by simpa using k1)
    dy:=fun ck hc=>by rw[show(E.w.setRow bl _).heap.size=_ from setRow_size _ _ _];exact aB.dy ck hc
    fl:=fun ck hc=>by rw[show(E.w.setRow bl _).heap.size=_ from setRow_size _ _ _];exact aB.fl ck hc
    gf:=fun ck hc=>by rw[show(E.w.setRow bl _).heap.size=_ from setRow_size _ _ _];exact aB.gf ck hc}
  ·intro hz ck jy
   obtain⟨gw,bX,hC,q1,q2,q3⟩:=bN hz ck jy
   have EE:ck≠bl:=fun e=>by subst e;exact aB.gn b hz ck hm jy
   refine⟨gw,bX,hC,q1,?_,q3.mono fun _ _ k=>k.le fg.le.b0⟩
   show(E.w.setRow bl _).heap[ck]?=_
   rw[setRow_other _ _ _ _ EE];exact q2
 | _=>exact h.elim
structure kS (E E':Env):Prop where
 step:Step E E'
 m:E'.m=E.m
 mL:E'.mL=E.mL
 bi:E'.bi=E.bi
 sz:E'.sz=E.sz
 cp:E'.cp=E.cp
 cT: ∀c,c<E.w.heap.size→E'.w.heap[c]?=E.w.heap[c]?
 fo: ∀c,E'.PA c→E.PA c∨(E.w.heap.size≤c∧c<E'.w.heap.size)
 dr: ∀c,E'.PF c→E'.PA c
 fh: ∀c,E'.PF c→Plain E'.w c
theorem kS.refl {E:Env} {H:List Blk} (h:SimH E H):kS E E:=⟨.refl E,rfl,rfl,rfl,rfl,rfl,fun _ _=>rfl,fun _ h=> .inl h,h.dr,h.fh⟩
theorem kS.simH {E E':Env} {H:List Blk} (q:kS E E') (h:SimH E H):SimH E' H where
 heap:=fun b c hb=>by
  rw[q.m] at hb
  obtain⟨blk,aw,ty,q1,b5,q2,q3,q4,cW,cO⟩:=h.heap b c hb
  refine⟨blk,aw,ty,q1,by rw[q.sz];exact b5,?_,by rw[q.cp,q.sz];exact q3,by rw[q.cp];exact q4,by rw[q.sz];exact cW,fun i j row a av ap=> ?_⟩
  ·rw[q.cT c (h.fl c ⟨b,hb⟩)];exact q2
  ·obtain⟨u,hu,eJ⟩:=cO i j row a av ap
   exact⟨u,by rw[q.sz];exact hu,eJ.le q.step.le.b0⟩
 eI:=by rw[q.bi];exact h.eI
 gQ:=by rw[q.m,q.sz];exact h.gQ
 fresh:=by rw[q.m,q.bi];exact h.fresh
 gF:=by rw[q.m];exact h.gF
 iL:=by rw[q.mL];exact h.iL
 gn:=by rw[q.m,q.mL];exact h.gn
 hq:=fun c hc ⟨b,hb⟩=>by
  rw[q.m] at hb
  rcases q.fo c hc with hc | ⟨hc,_⟩
  ·exact h.hq c hc ⟨b,hb⟩
  ·have:=h.fl c ⟨b,hb⟩;omega
 hN:=fun c hc ⟨b,hb⟩=>by
  rw[q.mL] at hb
  rcases q.fo c hc with hc | ⟨hc,_⟩
  ·exact h.hN c hc ⟨b,hb⟩
  ·have:=h.gf c ⟨b,hb⟩;omega
 dr:=q.dr
 fh:=q.fh
 dy:=fun c hc=>by
  rcases q.fo c hc with hc | ⟨_,hc⟩
  ·exact Nat.lt_of_lt_of_le (h.dy c hc) q.step.size
  ·exact hc
 fl:=fun c ⟨b,hb⟩=>by rw[q.m] at hb;exact Nat.lt_of_lt_of_le (h.fl c ⟨b,hb⟩) q.step.size
 gf:=fun c ⟨b,hb⟩=>by rw[q.mL] at hb;exact Nat.lt_of_lt_of_le (h.gf c ⟨b,hb⟩) q.step.size
theorem kS.simL {E E':Env} {H:List Blk} {L:List (Nat×List AV)} (q:kS E E') (h:SimH E H) (l:SimL E L):SimL E' L:=fun t c hm=>by
 rw[q.mL] at hm
 obtain⟨cells,aw,ty,q1,q2,q3⟩:=l t c hm
 exact⟨cells,aw,ty,q1,by rw[q.cT c (h.gf c ⟨t,hm⟩)];exact q2,q3.mono fun _ _ k=>k.le q.step.le.b0⟩
def zs (op:BinOp) (k:IntKind) (a b:Int) (K:AV→Prop):Prop:=match op with
 | .add=>K (.int k (k.wrap (a+b)))
 | .sub=>K (.int k (k.wrap (a - b)))
 | .mul=>K (.int k (k.wrap (a*b)))
 | .quo=>b≠0∧K (.int k (k.wrap (a.tdiv b)))
 | .rem=>b≠0∧K (.int k (a.tmod b))
 | .and=>K (.int k (k.wrap (BitVec.ofInt k.bits a&&&BitVec.ofInt k.bits b).toNat))
 | .eql=>K (.bool (a==b))
 | .neq=>K (.bool (a !=b))
 | .lss=>K (.bool (decide (a<b)))
 | .leq=>K (.bool (decide (a≤b)))
 | .gtr=>K (.bool (decide (a>b)))
 | .geq=>K (.bool (decide (a ≥ b)))
 | _=>False
def two (P:Program) (t:TypeId):Bool:=
 match P.underlying t with
 | some (.struct dY)=> !P.stoodInHeld t&& !P.eqGuardType P.depth t&&(match dY.toList with
  | [f,g]=>f.name != "_" &&g.name != "_" &&f.offset==0&&g.offset==1&&(P.underlying f.type matches some (.int .i64))&&(P.underlying g.type matches some (.int .i64))
  | _=>false)
 | _=>false
def zt (op:BinOp) (k:IntKind) (a:Int) (iM:IntKind) (b:Int) (K:AV→Prop):Prop:=match op with
 | .shl=>0≤b∧K (.int k (k.wrap (a*2 ^ (min b.toNat k.bits))))
 | .shr=>0≤b∧K (.int k (a.fdiv (2 ^ (min b.toNat k.bits))))
 | op=>if k=iM then zs op k a b K else False
def L4 (P:Program) (t:TypeId):Bool:=match P.underlying t with
 | some .bool=>true
 | _=>false
def CJ (P:Program) (op:BinOp) (t:TypeId) (a b:Bool) (K:AV→Prop):Prop:=if L4 P t=true then(match op with
  | .eql=>K (.bool (a==b))
  | .neq=>K (.bool (a !=b))
  | _=>False) else False
def CL (op:BinOp) (a b:ByteArray) (K:AV→Prop):Prop:=match op with
  | .add=>a.size+b.size≤9223372036854775807∧K (.str (a++b))
  | .eql=>K (.bool (a.toList==b.toList))
  | .neq=>K (.bool (!(a.toList==b.toList)))
  | _=>False
def CM (op:BinOp) (a b c d:Int) (K:AV→Prop):Prop:=match op with
  | .eql=>K (.bool (a==c&&b==d))
  | .neq=>K (.bool (!(a==c&&b==d)))
  | _=>False
def wl:List AV→Option (Int×Int)
 | [.int .i64 a,.int .i64 b]=>some (a,b)
 | _=>none
def im (P:Program) (t:TypeId):Option TypeId:=match P.underlying t with
 | some (.slice e)=>some e
 | _=>none
def pz:Operand→Bool
 | .const (.slice none 0 0)=>true
 | _=>false
def CK (P:Program) (op:BinOp) (t:TypeId) (rows:List (List AV)) (rb:Bool) (K:AV→Prop):Prop:=
 if rb=true∧(im P t).isSome=true then(match op with
  | .eql=>(rows≠[]→K (.bool false))∧(rows=[]→ ∀b,K (.bool b))
  | _=>False) else False
def rl (P:Program) (op:BinOp) (t:TypeId) (x y:AV) (rb:Bool) (K:AV→Prop):Prop:=match x with
 | .int k a=>(match y with
  | .int iM b=>zt op k a iM b K
  | _=>False)
 | .bool a=>(match y with
  | .bool b=>CJ P op t a b K
  | _=>False)
 | .str a=>(match y with
  | .str b=>CL op a b K
  | _=>False)
 | .agg l=>(match y with
  | .agg m=>if two P t=true then cM (wl l) fun p=>cM (wl m) fun q=>CM op p.1 p.2 q.1 q.2 K else False
  | _=>False)
 | .aV rows _ _=>CK P op t rows rb K
 | _=>False
theorem DB {op:BinOp} {t:TypeId} {x y:Operand} {k iM:IntKind} {a b:Int} {P:Program} {w:World}:(eqGuard op t x y (.int k a) (.int iM b)).run P w= .ok () w:=by
 unfold eqGuard;cases op<;>rfl
theorem Jq {op:BinOp} {t:TypeId} {x y:Operand} {a b:Bool} {P:Program} {w:World}:(eqGuard op t x y (.bool a) (.bool b)).run P w= .ok () w:=by
 unfold eqGuard;cases op<;>rfl
theorem DC {op:BinOp} {t:TypeId} {x y:Operand} {a b:ByteArray} {P:Program} {w:World}:(eqGuard op t x y (.string a) (.string b)).run P w= .ok () w:=by
 unfold eqGuard;cases op<;>rfl
theorem Ts {op:BinOp} {t:TypeId} {x y:Operand} {A B:Option Addr} {n m c d:Nat} {P:Program} {w:World}:(eqGuard op t x y (.slice A n c) (.slice B m d)).run P w= .ok () w:=by
 unfold eqGuard;cases op<;>rfl
theorem Jp {op:BinOp} {t:TypeId} {x y:Operand} {A B:Array Value} {P:Program} {w:World} (h:P.eqGuardType P.depth t=false):(eqGuard op t x y (.agg A) (.agg B)).run P w= .ok () w:=by
 unfold eqGuard;cases op<;>first | rfl | simp[h]
theorem abQ {P:Program} {w:World} {op:BinOp} {t:TypeId} {k:IntKind} {a b:Int} {K:AV→Prop} (h:zs op k a b K):
  ∃r u,K r∧(binOp op t (.int k a) (.int k b)).run P w= .ok u w∧ ∀E:Env,V3 E r u:=by
 cases op<;>simp only[zs] at h
 case add=>exact⟨_,_,h,by simp[binOp,Op.intArith],fun E=>aW.int _ _⟩
 case sub=>exact⟨_,_,h,by simp[binOp,Op.intArith],fun E=>aW.int _ _⟩
 case mul=>exact⟨_,_,h,by simp[binOp,Op.intArith],fun E=>aW.int _ _⟩
 case quo=>exact⟨_,_,h.2,by simp[binOp,Op.intDiv,h.1],fun E=>aW.int _ _⟩
 case rem=>exact⟨_,_,h.2,by simp[binOp,Op.intDiv,h.1],fun E=>aW.int _ _⟩
 case and=>exact⟨_,_,h,by simp[binOp,Op.intBits],fun E=>aW.int _ _⟩
 case eql=>exact⟨_,_,h,by simp[binOp,Op.intCmp],fun E=>aW.bool _⟩
 case neq=>exact⟨_,_,h,by simp[binOp,Op.intCmp],fun E=>aW.bool _⟩
 case lss=>exact⟨_,_,h,by simp[binOp,Op.intCmp],fun E=>aW.bool _⟩
 case leq=>exact⟨_,_,h,by simp[binOp,Op.intCmp],fun E=>aW.bool _⟩
 case gtr=>exact⟨_,_,h,by simp[binOp,Op.intCmp],fun E=>aW.bool _⟩
 case geq=>exact⟨_,_,h,by simp[binOp,Op.intCmp],fun E=>aW.bool _⟩
theorem QO {P:Program} {t:TypeId} (h:two P t=true): ∃f g:Field,P.underlying t=some (.struct (P.fieldsOf t))∧(P.fieldsOf t).toList=[f,g]∧P.stoodInHeld t=false∧P.eqGuardType P.depth t=false∧
  f.name≠ "_" ∧g.name≠ "_" ∧f.offset=0∧g.offset=1∧P.underlying f.type=some (.int .i64)∧P.underlying g.type=some (.int .i64):=by
 unfold two at h
 split at h
 ·rename_i dY m7
  have hf:P.fieldsOf t=dY:=by simp[Program.fieldsOf,m7]
  simp only[Bool.and_eq_true,Bool.not_eq_true'] at h
  obtain⟨⟨h1,h2⟩,aM⟩:=h
  split at aM
  ·rename_i f g aE
   simp only[Bool.and_eq_true,bne_iff_ne,ne_eq,beq_iff_eq] at aM
   obtain⟨⟨⟨⟨⟨q1,q2⟩,q3⟩,q4⟩,cW⟩,cO⟩:=aM
   refine⟨f,g,by rw[hf];exact m7,by rw[hf];exact aE,h1,h2,q1,q2,q3,q4,?_,?_⟩
   ·split at cW
    ·assumption
    ·cases cW
   ·split at cO
    ·assumption
    ·cases cO
  ·cases aM
 ·cases h
theorem OZ {P:Program} {t:TypeId} (h:two P t=true) (a b c d:Int) (w:World):
  (Op.equal t (.agg #[.int .i64 a,.int .i64 b]) (.agg #[.int .i64 c,.int .i64 d])).run P w= .ok (a==c&&b==d) w:=by
 obtain⟨f,g,h1,h2,aM,bx,c9,e6,lP,qh,sL,xg⟩:=QO h
 show(Op.equalIn (9999+1) t _ _).run P w=_
 rw[run_equalIn_struct w 9999 t _ _ h1 aM,h2]
 have e9: ∀(hg:TypeId) (aw:Array Value) (o:Nat) (u:Value),P.underlying hg=some (.int .i64)→aw[o]?=some u→(part hg aw o).run P w= .ok u w:=by
  intro hg aw o u hu hc
  simp[part,Go.isAgg,run_underlying hu,hc]
 simp only[Op.eqFields,if_pos c9,if_pos e6,lP,qh,Sem.run_bind]
 rw[e9 f.type #[.int .i64 a,.int .i64 b] 0 (.int .i64 a) sL rfl]
 simp only[Result.andThen_ok]
 rw[e9 f.type #[.int .i64 c,.int .i64 d] 0 (.int .i64 c) sL rfl]
 simp only[Result.andThen_ok]
 rw[show(9999:Nat)=9998+1 from rfl,run_equalIn_int w 9998 f.type .i64 .i64 a c sL]
 simp only[Result.andThen_ok]
 cases ae2:(a==c)
 ·simp
 ·simp only[Bool.not_true,Bool.false_eq_true,if_false,Sem.run_bind]
  rw[e9 g.type #[.int .i64 a,.int .i64 b] 1 (.int .i64 b) xg rfl]
  simp only[Result.andThen_ok]
  rw[e9 g.type #[.int .i64 c,.int .i64 d] 1 (.int .i64 d) xg rfl]
  simp only[Result.andThen_ok]
  rw[run_equalIn_int w 9998 g.type .i64 .i64 b d xg]
  cases ae4:(b==d)<;>simp
theorem V3.QN {E:Env} {a b:Int} {v:Value} (h:V3 E (.agg [.int .i64 a,.int .i64 b]) v):v= .agg #[.int .i64 a,.int .i64 b]:=by
 obtain⟨vs,rfl,ai⟩:=(h:V2 E (.agg [.int .i64 a,.int .i64 b]) v)
 obtain⟨x,vs,rfl,hx,ai⟩:=ai.cons_inv
 obtain⟨y,vs,rfl,ba,ai⟩:=ai.cons_inv
 obtain rfl:=ai.lZ
 have iJ:aW E.w E.PA E.PF (.int .i64 a) x:=hx
 have Wv:aW E.w E.PA E.PF (.int .i64 b) y:=ba
 cases iJ;cases Wv;rfl
theorem QM {l:List AV} {p:Int×Int} (h:wl l=some p):l=[.int .i64 p.1,.int .i64 p.2]:=by
 unfold wl at h
 split at h
 ·cases h;rfl
 ·cases h
theorem rr {P:Program} {t e:TypeId} (h:im P t=some e):P.underlying t=some (.slice e):=by
 unfold im at h
 split at h
 ·cases h;assumption
 ·cases h
theorem R5 {P:Program} {op:BinOp} {t:TypeId} {X Y:Operand} {H9 wx:AV} {h0 Cf:Value} {E:Env} {K:AV→Prop}
  {rb:Bool} (hx:V3 E H9 h0) (ba:V3 E wx Cf) (E0:rb=true→Cf= .slice none 0 0) (h:rl P op t H9 wx rb K):
  ∃r u,K r∧(do eqGuard op t X Y h0 Cf;binOp op t h0 Cf:Sem Value).run P E.w= .ok u E.w∧V3 E r u:=by
 cases H9 with
 | int k a=>
  cases wx with
  | int iM b=>
   replace h:zt op k a iM b K:=h
   obtain rfl:=hx.nb
   obtain rfl:=ba.nb
   cases op
   case shl=>
    obtain⟨hb,h⟩:=h
    have ea: ¬b<0:=by omega
    exact⟨_,_,h,by simp[DB,binOp,Op.shift,ea],aW.int _ _⟩
   case shr=>
    obtain⟨hb,h⟩:=h
    have ea: ¬b<0:=by omega
    exact⟨_,_,h,by simp[DB,binOp,Op.shift,ea],aW.int _ _⟩
   all_goals
    simp only[zt] at h
    split at h
    ·rename_i hk
     subst hk
     obtain⟨r,u,hK,av,hv⟩:=abQ (P:=P) (w:=E.w) (t:=t) h
     exact⟨r,u,hK,by simp only[Sem.run_bind,DB,Result.andThen_ok,av],hv E⟩
    ·exact h.elim
  | _=>exact h.elim
 | bool a=>
  cases wx with
  | bool b=>
   replace h:CJ P op t a b K:=h
   obtain rfl:=hx.mS
   obtain rfl:=ba.mS
   unfold CJ at h
   split at h
   ·rename_i hu
    have ms:P.underlying t=some .bool:=by
     unfold L4 at hu
     split at hu
     ·assumption
     ·cases hu
    cases op<;>first | exact h.elim | skip
    case eql=>exact⟨_,_,h,by simp only[Sem.run_bind,Jq,Result.andThen_ok,binOp,Op.equal];rw[show Op.maxDepth=9999+1 from rfl,run_equalIn_bool' E.w 9999 t a b ms];rfl,aW.bool _⟩
    case neq=>exact⟨_,_,h,by simp only[Sem.run_bind,Jq,Result.andThen_ok,binOp,Op.equal];rw[show Op.maxDepth=9999+1 from rfl,run_equalIn_bool' E.w 9999 t a b ms];rfl,aW.bool _⟩
   ·exact h.elim
  | _=>exact h.elim
 | str a=>
  cases wx with
  | str b=>
   replace h:CL op a b K:=h
   obtain rfl:=hx.wg
   obtain rfl:=ba.wg
   cases op<;>first | exact h.elim | skip
   case add=>
    obtain⟨aE,h⟩:=h
    have: ¬((a.size+b.size:Nat):Int)>IntKind.i64.max:=by
     have:IntKind.i64.max=9223372036854775807:=by decide
     rw[this];omega
    exact⟨_,_,h,by simp only[Sem.run_bind,DC,Result.andThen_ok,binOp,Op.stringOp];rw[if_neg this];rfl,aW.str _⟩
   case eql=>exact⟨_,_,h,by simp only[Sem.run_bind,DC,Result.andThen_ok,binOp,Op.stringOp];rfl,aW.bool _⟩
   case neq=>exact⟨_,_,h,by simp only[Sem.run_bind,DC,Result.andThen_ok,binOp,Op.stringOp];rfl,aW.bool _⟩
  | _=>exact h.elim
 | agg l=>
  cases wx with
  | agg m=>
   replace h:if two P t=true then cM (wl l) fun p=>cM (wl m) fun q=>CM op p.1 p.2 q.1 q.2 K else False:=h
   split at h
   ·rename_i bn
    obtain⟨⟨a,b⟩,ai,h⟩:=e8 h
    obtain⟨⟨c,d⟩,af,h⟩:=e8 h
    obtain rfl:=QM ai
    obtain rfl:=QM af
    obtain rfl:=hx.QN
    obtain rfl:=ba.QN
    obtain⟨f,g,h1,h2,aM,bx,_⟩:=QO bn
    cases op<;>first | exact h.elim | skip
    case eql=>exact⟨_,_,h,by simp only[Sem.run_bind,Jp bx,Result.andThen_ok,binOp,OZ bn];rfl,aW.bool _⟩
    case neq=>exact⟨_,_,h,by simp only[Sem.run_bind,Jp bx,Result.andThen_ok,binOp,OZ bn];rfl,aW.bool _⟩
   ·exact h.elim
  | _=>exact h.elim
 | aV rows de fr=>
  replace h:CK P op t rows rb K:=h
  unfold CK at h
  split at h
  ·rename_i hc
   obtain⟨ao,he⟩:=hc
   obtain⟨e,he⟩:=Option.isSome_iff_exists.1 he
   have hu:=rr he
   obtain rfl:=E0 ao
   have iJ:aW E.w E.PA E.PF (.aV rows de fr) h0:=hx
   cases iJ with
   | @aV _ _ _ _ _ _ A cap sz vs eU e1 fG cd dQ hrel=>
   have fx:(do eqGuard op t X Y (.slice A rows.length cap) (.slice none 0 0);binOp .eql t (.slice A rows.length cap) (.slice none 0 0):Sem Value).run P E.w= .ok (.bool A.isNone) E.w:=by
    simp only[Sem.run_bind,Ts,Result.andThen_ok,binOp,Op.equal]
    rw[show Op.maxDepth=9999+1 from rfl]
    generalize 9999=d
    simp only[Op.equalIn,Sem.run_bind,run_underlying hu,Result.andThen_ok]
    cases A<;>rfl
   cases op<;>first | exact h.elim | skip
   case eql=>
    obtain⟨h1,h2⟩:=h
    by_cases av:rows=[]
    ·exact⟨_,_,h2 av A.isNone,fx,aW.bool _⟩
    ·have:0<rows.length:=by cases rows<;>simp_all
     obtain⟨c,o,rfl,_⟩:=dQ this
     exact⟨_,_,h1 av,fx,aW.bool _⟩
  ·exact h.elim
 | _=>exact h.elim
theorem JU (off:Nat): ∀(l:List Value) (k:Nat) (cells:Array Value),off+k+l.length≤cells.size→
  (((l.zipIdx k).foldl (fun aw (x:Value×Nat)=>aw.setIfInBounds (off+x.2) x.1) cells).size=cells.size∧
  ∀i,((l.zipIdx k).foldl (fun aw (x:Value×Nat)=>aw.setIfInBounds (off+x.2) x.1) cells)[i]?=if i<off+k then cells[i]? else if i<off+k+l.length then l[i - (off+k)]? else cells[i]?)
 | [],k,cells,_=>⟨rfl,fun i=>by simp;omega⟩
 | v::l,k,cells,h=>by
  have h':off+(k+1)+l.length≤(cells.setIfInBounds (off+k) v).size:=by simp at h ⊢;omega
  obtain⟨h1,h2⟩:=JU off l (k+1) (cells.setIfInBounds (off+k) v) h'
  refine⟨by simp only[List.zipIdx_cons,List.foldl_cons];rw[h1];simp,fun i=> ?_⟩
  simp only[List.zipIdx_cons,List.foldl_cons]
  rw[h2 i]
  simp only[Array.getElem?_setIfInBounds,List.length_cons] at*
  by_cases J:i<off+k
  ·rw[if_pos (by omega),if_neg (by omega),if_pos J]
  ·by_cases a2:i=off+k
   ·subst a2
    rw[if_pos (by omega),if_pos rfl,if_pos (by omega),if_neg (by omega),if_pos (by omega)]
    simp
   ·by_cases a3:i<off+(k+1)+l.length
    ·rw[if_neg (by omega),if_pos a3,if_neg J,if_pos (by omega),show i - (off+k)=(i - (off+(k+1)))+1 by omega]
     simp
    ·rw[if_neg (by omega),if_neg a3,if_neg (by omega),if_neg J,if_neg (by omega)]
def od (pl:Nat→Option (Nat×Nat)) (cells:List AV):List (Nat×AV)→Option (List AV)
 | []=>some cells
 | (i,v)::rest=>match pl i with
  | none=>none
  | some (off,size)=>if(eP v).length=size∧off+(eP v).length≤cells.length∧(eP v).all iS=true then od pl (gh cells off (eP v)) rest else none
theorem z7 {E:Env} {pl:Nat→Option (Nat×Nat)}: ∀{parts:List (Nat×AV)} {jK:List (Nat×Value)} {cells:List AV} {sj:Array Value} {r:List AV},
  aO (fun a b=>a.1=b.1∧V2 E a.2 b.2) parts jK→aO (b1 E.b0) cells sj.toList→od pl cells parts=some r→ ∃ha,Instr.fill pl sj jK=some ha∧aO (b1 E.b0) r ha.toList
 | [],jK,cells,sj,r,ai,hc,h=>by
  obtain rfl:=ai.lZ
  cases h
  exact⟨sj,rfl,hc⟩
 | (i,v)::rest,jK,cells,sj,r,ai,hc,h=>by
  obtain⟨⟨ir,u⟩,afw,rfl,⟨hi,hv⟩,AG⟩:=ai.cons_inv
  simp only at hi hv
  subst hi
  unfold od at h
  split at h
  ·cases h
  ·rename_i off size kC
   split at h
   ·rename_i rB
    obtain⟨h1,h2,aM⟩:=rB
    have ql:=C1 hv aM
    have Vn:aO (b1 E.b0) (eP v) u.cells.toList:=⟨ql.1,fun i a b aF hb=>HH (List.all_eq_true.1 aM a (List.mem_of_getElem? aF)) (ql.2 i a b aF hb)⟩
    have cd:u.cells.size=(eP v).length:=by rw[ql.1];simp
    have m6:cells.length=sj.size:=by rw[hc.1];simp
    obtain⟨f1,f2⟩:=JU off u.cells.toList 0 sj (by simp;omega)
    simp only[Nat.add_zero] at f1 f2
    have vc:aO (b1 E.b0) (gh cells off (eP v)) ((u.cells.toList.zipIdx).foldl (fun aw (x:Value×Nat)=>aw.setIfInBounds (off+x.2) x.1) sj).toList:=by
     have hs:=aO.gh hc Vn h2
     refine⟨?_,fun k a b aF hb=> ?_⟩
     ·simp only[Array.length_toList];rw[f1];simp[gh];omega
     ·refine hs.2 k a b aF ?_
      rw[we (by simp;omega)]
      rw[Array.getElem?_toList,f2 k] at hb
      simpa using hb
    obtain⟨ha,av,hrel⟩:=z7 AG vc h
    refine⟨ha,?_,hrel⟩
    unfold Instr.fill
    rw[kC]
    simp only
    rw[if_neg (by simp;omega)]
    rw[←Array.foldl_toList,Array.toList_zipIdx]
    exact av
   ·cases h
def ma (P:Program) (t:TypeId):Option (List AV):=((P.info? t).bind (·.zero)).map fun z=>z.cells.toList.map nE
theorem S8 (E:Env) (v:Value):b1 E (nE v) v:=by
 unfold nE
 split
 ·exact aW.int _ _
 ·exact aW.bool _
 ·exact aW.str _
 ·exact aW.aV (PB:=fun _=>False) (sz:=0) (vs:=fun _ _=>undef) (fun _ h=>h.elim) ⟨Nat.le_refl _,Nat.zero_le _⟩ (fun _=>rfl) (fun i row h=>by simp at h) (fun h=>by simp at h) (fun i j row a h=>by simp at h)
 ·exact aW.fI
 ·exact aW.fY
 ·exact aW.undef _
theorem ud {E:Env} {P:Program} {t:TypeId} {z:List AV} (h:ma P t=some z): ∃i v,P.info? t=some i∧i.zero=some v∧z=v.cells.toList.map nE∧aO (b1 E) z v.cells.toList:=by
 unfold ma at h
 cases hi:P.info? t with
 | none=>simp[hi] at h
 | some i=>
  cases aH:i.zero with
  | none=>simp[hi,aH] at h
  | some v=>
   simp[hi,aH] at h
   subst h
   refine⟨i,v,rfl,aH,rfl,by simp,fun k a b aF hb=> ?_⟩
   rw[List.getElem?_map,hb] at aF
   simp at aF;subst aF;exact S8 E b
def Gn (P:Program) (t:TypeId):Option (List (Nat×Nat)):=match P.underlying t with
 | some (.struct dY)=>dY.toList.mapM (fun f=>(P.info? f.type).map fun i=>(f.offset,i.size))
 | _=>none
def CP (P:Program) (t:TypeId) (parts:List (Nat×AV)) (K:AV→Prop):Prop:=
 cM (ma P t) fun z=>cM (Gn P t) fun pl=>cM (od (fun i=>pl[i]?) z parts) fun cells=>K (.agg cells)
theorem Sh {P:Program} {E:Env} {t:TypeId} {parts:List (Nat×AV)} {jK:List (Nat×Value)} {K:AV→Prop} (ai:aO (fun a b=>a.1=b.1∧V2 E a.2 b.2) parts jK) (h:CP P t parts K):
  ∃r u,K r∧(Instr.build t jK.toArray).run P E.w= .ok u E.w∧V3 E r u:=by
 obtain⟨z,aH,h⟩:=e8 h
 obtain⟨pl,kC,h⟩:=e8 h
 obtain⟨cells,hf,h⟩:=e8 h
 obtain⟨i,v,h1,h2,aM,bx⟩:=ud (E:=E.b0) aH
 obtain⟨ha,av,hrel⟩:=z7 ai bx hf
 refine⟨_,.agg ha,h,run_build E.w t jK.toArray ha ?_,ha.toList,by simp,hrel.mono fun _ _ k=>k.up⟩
 unfold Gn at kC
 split at kC
 ·rename_i dY m7
  unfold Program.built
  rw[h1,m7]
  simp only[h2,kC]
  simpa using av
 ·cases kC
def iB:AV→Bool
 | .int _ _ | .bool _ | .str _ | .aV _ _ _ | .fI | .fY=>true
 | _=>false
def mZ:AV→Bool
 | .aV _ _ fr=>fr
 | _=>true
def hX:AV→AV
 | .aV rows _ _=> .aV rows false false
 | a=>a
def nX:AV→AV
 | .aV rows full _=> .aV rows full true
 | a=>a
theorem abE {w:World} {PB PA PF:Nat→Prop} {a:AV} {v:Value} (h:aW w PB (fun _=>False) a v) (hb: ∀c,PB c→PF c) (EF: ∀c,PF c→PA c):aW w PA PF (nX a) v:=by
 have key:(∀rows full fr,a≠ .aV rows full fr)→aW w PA PF (nX a) v:=fun bY=>by
  have e:nX a=a:=by cases a<;>first | rfl | exact absurd rfl (bY _ _ _)
  rw[e]
  exact h.mono (fun _ _=>rfl) (fun _ h=>h.elim) (fun c hc=>EF c (hb c hc)) (fun _ h=>h.elim)
 cases a with
 | aV rows full fr=>
  cases h with
  | aV eU e1 fG cd dQ hrel=>
   exact .aV (fun c hc=>by
    have:=eU c hc
    rw[if_pos rfl]
    split at this
    ·exact this.elim
    ·exact hb c this) e1 fG cd dQ hrel
 | _=>exact key (fun _ _ _ e=>by cases e)
theorem H0 {w:World} {PA PF PB:Nat→Prop} {a:AV} {v:Value} (aF:iB a=true) (h:aW w PA PF a v) (hb: ∀c,PA c→PB c) (EF: ∀c,PF c→PA c):aW w PB (fun _=>False) (hX a) v:=by
 cases h with
 | undef=>cases aF
 | int=>exact .int _ _
 | bool=>exact .bool _
 | str=>exact .str _
 | aV eU e1 fG cd dQ hrel=>
  exact .aV (fun c hc=>by
   have:=eU c hc
   simp only[Bool.false_eq_true,if_false]
   split at this
   ·exact hb c (EF c this)
   ·exact hb c this) e1 (fun h=>by cases h) cd dQ hrel
 | da=>cases aF
 | fI=>exact .fI
 | fY=>exact .fY
 | fn=>cases aF
theorem QS {w:World} {PA PF:Nat→Prop} {a:AV} {v:Value} (aF:iB a=true) (hf:mZ a=true) (h:aW w PA PF a v):aW w PF (fun _=>False) (hX a) v:=by
 cases h with
 | undef=>cases aF
 | int=>exact .int _ _
 | bool=>exact .bool _
 | str=>exact .str _
 | @aV _ _ PB rows full fresh A cap sz vs eU e1 fG cd dQ hrel=>
  have VA:fresh=true:=hf
  subst VA
  exact .aV (fun c hc=>by simpa using eU c hc) e1 (fun h=>by cases h) cd dQ hrel
 | da=>cases aF
 | fI=>exact .fI
 | fY=>exact .fY
 | fn=>cases aF
def chunk (size n:Nat) (cells:List AV):List (List AV):=(List.range n).map fun i=>(cells.drop (i*size)).take size
def uF (P:Program) (t:TypeId) (n:Nat) (parts:List (Nat×AV)) (K:AV→Prop):Prop:=
 cM (im P t) fun e=>cM (ma P e) fun z=>if z.length=P.cellsOf e∧n*z.length≤1000000∧n≤1000000 then
  cM (od (fun i=>some (i*z.length,z.length)) ((List.range (n*z.length)).map fun i=>z.getD (i%z.length) .undef) parts) fun cells=>
   if cells.all iB=true then K (.aV (chunk z.length n (cells.map hX)) true (cells.all mZ)) else False
 else False
theorem zy {E:Env} {a:AV} {v:Value} (aF:iB a=true) (h:b1 E a v):aW E.w E.PA E.PF a v:=by
 cases a<;>first | exact h | cases aF
theorem I3 {size n i j:Nat} {cells row:List AV} {a:AV} (av:(chunk size n cells)[i]?=some row) (ap:row[j]?=some a):i<n∧j<size∧cells[i*size+j]?=some a:=by
 unfold chunk at av
 rw[List.getElem?_map] at av
 cases s7:(List.range n)[i]? with
 | none=>simp[s7] at av
 | some k=>
  have hi:i<n:=by have:=(List.getElem?_eq_some_iff.1 s7).1;simpa using this
  rw[List.getElem?_range hi] at s7
  cases s7
  rw[List.getElem?_range hi] at av
  simp at av
  subst av
  rw[List.getElem?_take] at ap
  split at ap
  ·rw[List.getElem?_drop] at ap
   exact⟨hi,by assumption,ap⟩
  ·cases ap
theorem p5 (w:World) (o:Obj) (c:Nat) (h:c<w.heap.size):(w.alloc o).heap[c]?=w.heap[c]?:=Go.RowKit.Below.heap_alloc w o c h
theorem nA (w:World) (o:Obj):(w.alloc o).heap[w.heap.size]?=some o:=by
 show(w.heap.push o)[w.heap.size]?=_
 simp
theorem kS.alloc {E:Env} {H:List Blk} (aB:SimH E H) {o:Obj} (aG: ∃aw ty,o= .cells aw ty (0,0)):
  kS E {E with w:=E.w.alloc o,PA:=fun c=>E.PA c∨c=E.w.heap.size,PF:=fun c=>E.PF c∨c=E.w.heap.size} where
 step:=⟨⟨fun _ h=> .inl h,fun _ h=> .inl h,fun c hc=>p5 _ _ _ (aB.dy c hc),fun c hc=>p5 _ _ _ (aB.dy c (aB.dr c hc)),fun _=>Nat.le_refl _,fun _ _ h _=>⟨h,rfl,rfl⟩,fun _ _ h=>h⟩,
  rfl,rfl,rfl,by simp,fun c hc _ _=>p5 _ _ _ hc,fun _ _ h=> .inl h,fun _ h=> .inl h,fun c hc=>hc.elim .inl (fun e=> .inr (by omega)),fun c hc=>hc.elim .inl (fun e=> .inr (by omega))⟩
 m:=rfl
 mL:=rfl
 bi:=rfl
 sz:=rfl
 cp:=rfl
 cT:=fun c hc=>p5 _ _ _ hc
 fo:=fun c hc=>hc.elim .inl (fun e=> .inr (by simp;omega))
 dr:=fun c hc=>hc.elim (fun h=> .inl (aB.dr c h)) .inr
 fh:=fun c hc=>hc.elim (fun h=>(aB.fh c h).same (p5 _ _ _ (aB.dy c (aB.dr c h)))) fun e=>by
  obtain⟨aw,ty,rfl⟩:=aG
  subst e;exact⟨aw,ty,nA _ _⟩
theorem Sf {P:Program} {E:Env} {t:TypeId} {e:TypeId} {n:Nat} {z:List AV} {parts:List (Nat×AV)} {jK:List (Nat×Value)} {cells:List AV} (ai:aO (fun a b=>a.1=b.1∧V2 E a.2 b.2) parts jK) (he:im P t=some e) (aH:ma P e=some z)
  (m_:z.length=P.cellsOf e) (Vf:n*z.length≤1000000∧n≤1000000) (hf:od (fun i=>some (i*z.length,z.length)) ((List.range (n*z.length)).map fun i=>z.getD (i%z.length) .undef) parts=some cells):
  ∃ha,aO (b1 E.b0) cells ha.toList∧(Instr.buildSlice t n jK.toArray).run P E.w= .ok (.slice (some ⟨E.w.heap.size,0,none⟩) n n) (E.w.alloc (.cells ha e))∧cells.length=n*z.length:=by
 obtain⟨i,v,h1,h2,aM,bx⟩:=ud (E:=E.b0) aH
 have tb:v.cells.size=z.length:=by rw[aM];simp
 have u6:i.size=z.length:=by rw[m_];simp[Program.cellsOf,h1]
 let ks:Array Value:=if n*z.length=0 then #[] else v.cells
 let base:Array Value:=(Array.range (n*z.length)).map (fun i=>ks[i%ks.size]!)
 have ot:aO (b1 E.b0) ((List.range (n*z.length)).map fun i=>z.getD (i%z.length) .undef) base.toList:=by
  refine⟨by simp[base],fun k a b aF hb=> ?_⟩
  rw[List.getElem?_map] at aF
  have hk:k<n*z.length:=by
   cases af:(List.range (n*z.length))[k]? with
   | none=>simp[af] at aF
   | some x=>have:=(List.getElem?_eq_some_iff.1 af).1;simpa using this
  rw[List.getElem?_range hk] at aF
  simp only[Option.map_some,Option.some.injEq] at aF
  have kD:0<z.length:=by
   rcases Nat.eq_zero_or_pos z.length with q | q
   ·rw[q,Nat.mul_zero] at hk;omega
   ·exact q
  have aX:k%z.length<z.length:=Nat.mod_lt _ kD
  have oB:ks=v.cells:=if_neg (by omega)
  have ea:base[k]?=some (v.cells[k%z.length]!):=by
   show((Array.range (n*z.length)).map (fun i=>ks[i%ks.size]!))[k]?=_
   rw[oB,tb]
   simp[hk]
  rw[Array.getElem?_toList,ea] at hb
  simp only[Option.some.injEq] at hb
  have oA:v.cells.toList[k%z.length]?=some (v.cells[k%z.length]!):=by
   rw[Array.getElem?_toList,Array.getElem?_eq_getElem (by omega)]
   congr 1
   exact(getElem!_pos v.cells (k%z.length) (by omega)).symm
  have E2:z[k%z.length]?=some a:=by
   rw[←aF,List.getD_eq_getElem?_getD,List.getElem?_eq_getElem aX];rfl
  rw[←hb]
  exact bx.2 _ _ _ E2 oA
 obtain⟨ha,av,hrel⟩:=z7 ai ot hf
 have hu:=rr he
 have fx:(Instr.buildSlice t n jK.toArray).run P E.w= .ok (.slice (some ⟨E.w.heap.size,0,none⟩) n n) (E.w.alloc (.cells ha e)):=by
  have Eh: ¬n*z.length>2 ^ 24:=by omega
  simp only[Instr.buildSlice,Sem.run_bind,run_underlying hu,Result.andThen_ok,run_sizeOf (show(P.info? e).isSome=true by rw[h1];rfl),←m_,if_neg Eh]
  have eJ:Instr.fill (fun i=>some (i*z.length,z.length)) ((Array.range (n*z.length)).map (fun x=>ks[x%ks.size]!)) jK=some ha:=av
  by_cases q:n*z.length=0
  ·have oB:ks= #[]:=if_pos q
   rw[if_pos q]
   simp only[Sem.run_bind,Sem.run_pure,Result.andThen_ok]
   rw[←oB,eJ]
   simp[newRow]
  ·have oB:ks=v.cells:=if_neg q
   rw[if_neg q]
   simp only[Sem.run_bind,Sem.run_pure,Result.andThen_ok,zeroValue,typeInfo,h1,h2,run_program]
   rw[←oB,eJ]
   simp[newRow]
 have hlen:cells.length=n*z.length:=by
  have q:=hrel.1
  have: ∀(parts:List (Nat×AV)) (c r:List AV),od (fun i=>some (i*z.length,z.length)) c parts=some r→r.length=c.length:=by
   intro parts
   induction parts with
   | nil=>intro c r bD;cases bD;rfl
   | cons p ps bE=>
    intro c r bD
    obtain⟨a,b⟩:=p
    unfold od at bD
    split at bD
    ·cases bD
    ·split at bD
     ·rename_i hc
      rw[bE _ _ bD];simp[gh];omega
     ·cases bD
  rw[this _ _ _ hf];simp
 exact⟨ha,hrel,fx,hlen⟩
theorem IT {P:Program} {E:Env} {H:List Blk} {t:TypeId} {n:Nat} {parts:List (Nat×AV)} {jK:List (Nat×Value)} {K:AV→Prop} (aB:SimH E H) (ai:aO (fun a b=>a.1=b.1∧V2 E a.2 b.2) parts jK) (h:uF P t n parts K):
  ∃r u E',K r∧(Instr.buildSlice t n jK.toArray).run P E.w= .ok u E'.w∧kS E E'∧V3 E' r u:=by
 obtain⟨e,he,h⟩:=e8 h
 obtain⟨z,aH,h⟩:=e8 h
 split at h
 case isFalse=>exact h.elim
 case isTrue hb=>
 obtain⟨m_,Vf⟩:=hb
 obtain⟨cells,hf,h⟩:=e8 h
 split at h
 case isFalse=>exact h.elim
 case isTrue hby=>
 obtain⟨i,v,h1,h2,aM,bx⟩:=ud (E:=E.b0) aH
 have tb:v.cells.size=z.length:=by rw[aM];simp
 have u6:i.size=z.length:=by rw[m_];simp[Program.cellsOf,h1]
 let ks:Array Value:=if n*z.length=0 then #[] else v.cells
 let base:Array Value:=(Array.range (n*z.length)).map (fun i=>ks[i%ks.size]!)
 have ot:aO (b1 E.b0) ((List.range (n*z.length)).map fun i=>z.getD (i%z.length) .undef) base.toList:=by
  refine⟨by simp[base],fun k a b aF hb=> ?_⟩
  rw[List.getElem?_map] at aF
  have hk:k<n*z.length:=by
   cases af:(List.range (n*z.length))[k]? with
   | none=>simp[af] at aF
   | some x=>have:=(List.getElem?_eq_some_iff.1 af).1;simpa using this
  rw[List.getElem?_range hk] at aF
  simp only[Option.map_some,Option.some.injEq] at aF
  have kD:0<z.length:=by
   rcases Nat.eq_zero_or_pos z.length with q | q
   ·rw[q,Nat.mul_zero] at hk;omega
   ·exact q
  have aX:k%z.length<z.length:=Nat.mod_lt _ kD
  have oB:ks=v.cells:=if_neg (by omega)
  have ea:base[k]?=some (v.cells[k%z.length]!):=by
   show((Array.range (n*z.length)).map (fun i=>ks[i%ks.size]!))[k]?=_
   rw[oB,tb]
   simp[hk]
  rw[Array.getElem?_toList,ea] at hb
  simp only[Option.some.injEq] at hb
  have oA:v.cells.toList[k%z.length]?=some (v.cells[k%z.length]!):=by
   rw[Array.getElem?_toList,Array.getElem?_eq_getElem (by omega)]
   congr 1
   exact(getElem!_pos v.cells (k%z.length) (by omega)).symm
  have E2:z[k%z.length]?=some a:=by
   rw[←aF,List.getD_eq_getElem?_getD,List.getElem?_eq_getElem aX];rfl
  rw[←hb]
  exact bx.2 _ _ _ E2 oA
 obtain⟨ha,av,hrel⟩:=z7 ai ot hf
 have af:=kS.alloc aB (o:= .cells ha e) ⟨_,_,rfl⟩
 have hu:=rr he
 have fx:(Instr.buildSlice t n jK.toArray).run P E.w= .ok (.slice (some ⟨E.w.heap.size,0,none⟩) n n) (E.w.alloc (.cells ha e)):=by
  have Eh: ¬n*z.length>2 ^ 24:=by omega
  simp only[Instr.buildSlice,Sem.run_bind,run_underlying hu,Result.andThen_ok,run_sizeOf (show(P.info? e).isSome=true by rw[h1];rfl),←m_,if_neg Eh]
  have eJ:Instr.fill (fun i=>some (i*z.length,z.length)) ((Array.range (n*z.length)).map (fun x=>ks[x%ks.size]!)) jK=some ha:=av
  by_cases q:n*z.length=0
  ·have oB:ks= #[]:=if_pos q
   rw[if_pos q]
   simp only[Sem.run_bind,Sem.run_pure,Result.andThen_ok]
   rw[←oB,eJ]
   simp[newRow]
  ·have oB:ks=v.cells:=if_neg q
   rw[if_neg q]
   simp only[Sem.run_bind,Sem.run_pure,Result.andThen_ok,zeroValue,typeInfo,h1,h2,run_program]
   rw[←oB,eJ]
   simp[newRow]
 have hlen:cells.length=n*z.length:=by
  have q:=hrel.1
  have: ∀(parts:List (Nat×AV)) (c r:List AV),od (fun i=>some (i*z.length,z.length)) c parts=some r→r.length=c.length:=by
   intro parts
   induction parts with
   | nil=>intro c r bD;cases bD;rfl
   | cons p ps bE=>
    intro c r bD
    obtain⟨a,b⟩:=p
    unfold od at bD
    split at bD
    ·cases bD
    ·split at bD
     ·rename_i hc
      rw[bE _ _ bD];simp[gh];omega
     ·cases bD
  rw[this _ _ _ hf];simp
 refine⟨_,_,_,h,fx,af,?_⟩
 have m6:(chunk z.length n (cells.map hX)).length=n:=by simp[chunk]
 show aW (E.w.alloc (.cells ha e)) (fun c=>E.PA c∨c=E.w.heap.size) (fun c=>E.PF c∨c=E.w.heap.size) _ _
 have key:=aW.aV (w:=E.w.alloc (.cells ha e)) (PA:=fun c=>E.PA c∨c=E.w.heap.size) (PF:=fun c=>E.PF c∨c=E.w.heap.size)
  (PB:=if cells.all mZ=true then(fun c=>E.PF c∨c=E.w.heap.size) else(fun c=>E.PA c∨c=E.w.heap.size))
  (rows:=chunk z.length n (cells.map hX)) (full:=true) (fresh:=cells.all mZ) (A:=some ⟨E.w.heap.size,0,none⟩) (cap:=n) (sz:=z.length) (vs:=fun i j=>(ha[i*z.length+j]?).getD undef)
  (fun c hc=>by split at hc<;>(rename_i q;simp only[q];first | exact hc | simpa using hc)) (by omega) (fun _=>m6.symm)
  (fun i row av=>by
   unfold chunk at av
   rw[List.getElem?_map] at av
   cases s7:(List.range n)[i]? with
   | none=>simp[s7] at av
   | some k=>
    have hi:i<n:=by have:=(List.getElem?_eq_some_iff.1 s7).1;simpa using this
    rw[List.getElem?_range hi] at av
    simp at av
    subst av
    have:i*z.length+z.length≤n*z.length:=by
     calc i*z.length+z.length=(i+1)*z.length:=by rw[Nat.add_mul,Nat.one_mul]
      _≤n*z.length:=Nat.mul_le_mul_right _ (by omega)
    simp;omega)
  (fun _=>⟨E.w.heap.size,0,rfl,by split<;>exact .inr rfl,fun i j hi ap=>by
   rw[m6] at hi
   have:i*z.length+z.length≤n*z.length:=by
    calc i*z.length+z.length=(i+1)*z.length:=by rw[Nat.add_mul,Nat.one_mul]
     _≤n*z.length:=Nat.mul_le_mul_right _ (by omega)
   have EN:ha.size=n*z.length:=by rw[←hlen,hrel.1];simp
   rw[Nat.zero_add]
   have aX:i*z.length+j<ha.size:=by omega
   rw[World.cell?_alloc_new]
   simp[Array.getElem?_eq_getElem aX]⟩)
  (fun i j row a av ap=>by
   obtain⟨hi,afb,hc⟩:=I3 av ap
   rw[List.getElem?_map] at hc
   cases sR:cells[i*z.length+j]? with
   | none=>simp[sR] at hc
   | some b=>
    simp[sR] at hc
    subst hc
    obtain⟨u,hu,gA⟩:=hrel.get sR
    have Ej:iB b=true:=List.all_eq_true.1 hby b (List.mem_of_getElem? sR)
    have lV:=zy Ej gA.up
    have ms:(ha[i*z.length+j]?).getD undef=u:=by rw[Array.getElem?_toList] at hu;rw[hu];rfl
    rw[ms]
    by_cases d_:cells.all mZ=true
    ·have Vy:mZ b=true:=List.all_eq_true.1 d_ b (List.mem_of_getElem? sR)
     rw[if_pos d_]
     exact(QS Ej Vy lV).mono (fun c hc=>p5 _ _ _ (aB.dy c (aB.dr c hc))) (fun c hc=>hc.elim) (fun c hc=> .inl hc) (fun c hc=>hc)
    ·rw[if_neg d_]
     exact(H0 Ej lV (fun c hc=>hc) aB.dr).mono (fun c hc=>p5 _ _ _ (aB.dy c hc)) (fun c hc=>hc.elim) (fun c hc=> .inl hc) (fun c hc=>hc))
 rw[m6] at key
 exact key
def zZ (P:Program) (t:TypeId) (f:Nat):Option Field:=match P.underlying t with
 | some (.struct dY)=>dY.toList[f]?
 | _=>none
theorem TF {P:Program} {t:TypeId} {f:Nat} {fd:Field} (h:zZ P t f=some fd): ∃dY,P.underlying t=some (.struct dY)∧dY[f]?=some fd:=by
 unfold zZ at h
 split at h
 ·rename_i dY m7;exact⟨dY,m7,by simpa using h⟩
 ·cases h
def DL (P:Program) (t:TypeId) (x:AV) (f:Nat) (K:AV→Prop):Prop:=
 cM (zZ P t f) fun fd=>if(P.info? fd.type).isSome=true∧P.cellsOf fd.type≠0 then(match x with
  | .e7 s c=>K (.e7 s (c+fd.offset))
  | .ptr b g r c=>K (.ptr b g r (c+fd.offset))
  | .da cells c=>K (.da cells (c+fd.offset))
  | _=>False) else False
theorem abS {P:Program} {fd:Field} {w:World} {c o:Nat} (hi:(P.info? fd.type).isSome=true) (aH:P.cellsOf fd.type≠0):
  (fieldPlace ⟨c,o,none⟩ fd).run P w= .ok ⟨c,o+fd.offset,none⟩ w:=by
 simp[fieldPlace,run_sizeOf hi,aH,mP]
theorem TE {P:Program} {t:TypeId} {x:AV} {f:Nat} {K:AV→Prop} {E:Env} {v:Value} (hx:V3 E x v)
  (h:DL P t x f K):
  ∃r u,K r∧(Instr.fieldAt t v f).run P E.w= .ok u E.w∧V3 E r u:=by
 obtain⟨fd,hf,h⟩:=e8 h
 obtain⟨dY,hu,Vz⟩:=TF hf
 split at h
 case isFalse=>exact h.elim
 case isTrue hc=>
 obtain⟨hi,aH⟩:=hc
 have run: ∀bl o,(Instr.fieldAt t (.pointer (some ⟨bl,o,none⟩)) f).run P E.w= .ok (.pointer (some ⟨bl,o+fd.offset,none⟩)) E.w:=by
  intro bl o
  simp[Instr.fieldAt,run_underlying hu,Vz,Instr.sureAddr,abS hi aH]
 cases x with
 | e7 s c=>
  obtain⟨bl,hm,rfl⟩:=hx.x0
  exact⟨_,_,h,run bl c,bl,hm,rfl⟩
 | ptr b g r c=>
  rcases(show ez E (.ptr b g r c) v from hx) with⟨aQ,bl,o,rfl⟩ | ⟨aQ,bl,hm,rfl⟩
  ·exact⟨_,_,h,run bl o,.inl ⟨aQ,_,_,rfl⟩⟩
  ·exact⟨_,_,h,run bl _,.inr ⟨aQ,bl,hm,by rw[Nat.add_assoc]⟩⟩
 | da cells c=>
  have iJ:aW E.w E.PA E.PF (.da cells c) v:=hx
  cases iJ with
  | @da _ _ _ _ bl o vs hc dQ hrel=>
   exact⟨_,_,h,run bl _,by rw[Nat.add_assoc];exact aW.da hc dQ hrel⟩
 | _=>exact h.elim
def vm (P:Program) (t:TypeId) (x i:AV) (H:List Blk) (K:AV→Prop):Prop:=
 cM (im P t) fun e=>if(P.info? e).isSome=true then(match i with
  | .int _ n=>(match x with
   | .aV rows _ _=>0≤n∧cM rows[n.toNat]? fun row=>row.length=P.cellsOf e∧K (.da row 0)
   | .ref b g off m _=>cM H[b]? fun blk=>blk.bi=g∧blk.sz=P.cellsOf e∧0≤n∧n<m∧K (.ptr b g (off+n.toNat) 0)
   | _=>False)
  | _=>False) else False
theorem WC {P:Program} {t:TypeId} {x i:AV} {K:AV→Prop} {E:Env} {L jO:List (Nat×List AV)} {H eL:List Blk} {v xT:Value} (sub:Sub L H jO eL) (aB:SimH E eL) (hx:V3 E x v) (hi:V3 E i xT)
  (h:vm P t x i H K): ∃r u,K r∧(Instr.indexAt t v xT).run P E.w= .ok u E.w∧V3 E r u:=by
 obtain⟨e,he,h⟩:=e8 h
 have hu:=rr he
 split at h
 case isFalse=>exact h.elim
 case isTrue hinf=>
 cases i with
 | int k n=>
  obtain rfl:=hi.nb
  cases x with
  | aV rows full fresh=>
   obtain⟨aI,h⟩:=(show 0≤n∧cM rows[n.toNat]? fun row=>row.length=P.cellsOf e∧K (.da row 0) from h)
   obtain⟨row,av,aE,hK⟩:=e8 h
   have aX:n.toNat<rows.length:=(List.getElem?_eq_some_iff.1 av).1
   have iJ:aW E.w E.PA E.PF (.aV rows full fresh) v:=hx
   cases iJ with
   | @aV _ _ PB _ _ _ A cap sz vs eU e1 fG cd dQ hrel=>
    obtain⟨c,o,rfl,hc,d_⟩:=dQ (by omega)
    have xL:=cd _ _ av
    refine⟨_,.pointer (some ⟨c,o+n.toNat*P.cellsOf e,none⟩),hK,?_,?_⟩
    ·simp only[Instr.indexAt,Sem.run_bind,asIntOf,Sem.run_pure,Result.andThen_ok,run_underlying hu]
     rw[if_pos ⟨aI,by omega⟩]
     simp[run_sizeOf hinf,mP]
    ·show aW _ _ _ _ _
     have:=aW.da (w:=E.w) (PA:=E.PA) (PF:=E.PF) (cells:=row) (col:=0) (c:=c) (o:=o+n.toNat*P.cellsOf e) (vs:=vs n.toNat)
      (by have:=eU c hc;split at this;exact aB.dr c this;exact this)
      (fun j ap=>by rw[Nat.add_assoc,←aE,xL];exact d_ n.toNat j aX (by omega))
      (fun j a ap=>(hrel n.toNat j row a av ap).mono (fun _ _=>rfl) (fun _ h=>h.elim) (fun d aZ=>by
       have:=eU d aZ;split at this;exact aB.dr d this;exact this) (fun _ h=>h))
     simpa using this
  | ref b g off m full=>
   obtain⟨blk,hb,aQ,lS,aI,h1,hK⟩:=e8 (show cM H[b]? fun blk=>blk.bi=g∧blk.sz=P.cellsOf e∧0≤n∧n<m∧K (.ptr b g (off+n.toNat) 0) from h)
   have hb:=sub.h b blk hb
   have ju:=aB.eI b blk hb
   rcases(show ez E (.ref b g off m full) v from hx) with⟨bD,_⟩ | ⟨fT,bD⟩
   ·omega
   ·rcases bD with⟨_,_,qp,_⟩ | ⟨c,cap,hm,rfl,nK,ov,pk⟩
    ·omega
    ·obtain⟨blk',aw,ty,q1,b5,_⟩:=aB.heap b c hm
     obtain rfl:blk=blk':=by rw[hb] at q1;exact Option.some.inj q1
     refine⟨_,.pointer (some ⟨c,(off+n.toNat)*E.sz b+0,none⟩),hK,?_,.inr ⟨fT,c,hm,rfl⟩⟩
     simp only[Instr.indexAt,Sem.run_bind,asIntOf,Sem.run_pure,Result.andThen_ok,run_underlying hu]
     rw[if_pos ⟨aI,h1⟩]
     simp[run_sizeOf hinf,mP,b5,lS,Nat.add_mul]
  | _=>exact h.elim
 | _=>exact h.elim
def E6 (P:Program) (t:TypeId) (x i:AV) (K:AV→Prop):Prop:=match x with
 | .str s=>(match i with
  | .int _ n=>(match P.underlying t with
   | some .string=>0≤n∧n<s.size∧K (.int .u8 (s.data.getD n.toNat 0).toNat)
   | _=>False)
  | _=>False)
 | _=>False
theorem WM {P:Program} {t:TypeId} {x i:AV} {K:AV→Prop} {E:Env} {v xT:Value} (hx:V3 E x v) (hi:V3 E i xT) (h:E6 P t x i K):
  ∃r u,K r∧(Instr.index t v xT).run P E.w= .ok u E.w∧V3 E r u:=by
 cases x with
 | str s=>
  cases i with
  | int k n=>
   obtain rfl:=hx.wg
   obtain rfl:=hi.nb
   have h:(match P.underlying t with
    | some .string=>0≤n∧n<s.size∧K (.int .u8 (s.data.getD n.toNat 0).toNat)
    | _=>False):=h
   split at h
   ·rename_i hu
    obtain⟨aI,h1,hK⟩:=h
    refine⟨_,.int .u8 (s.data.getD n.toNat 0).toNat,hK,?_,aW.int _ _⟩
    have aX:n.toNat<s.size:=by omega
    have EC:n.toNat<s.data.size:=aX
    have:s[n.toNat]?=some (s.data.getD n.toNat 0):=by
     rw[getElem?_pos s n.toNat aX]
     congr 1
     show s.data[n.toNat]=_
     rw[Array.getD_eq_getD_getElem?,Array.getElem?_eq_getElem EC];rfl
    simp only[Instr.index,Sem.run_bind,asIntOf,Sem.run_pure,Result.andThen_ok,run_underlying hu]
    rw[if_pos aI,this]
    rfl
   ·exact h.elim
  | _=>exact h.elim
 | _=>exact h.elim
def qJ (x:AV) (K:AV→Prop):Prop:=match x with
 | .aV rows _ _=>rows.length≤4611686018427387904→K (.int .i64 rows.length)
 | .str s=>K (.int .i64 s.size)
 | .ref _ _ _ n _=>K (.int .i64 n)
 | _=>False
def jd (P:Program) (t:TypeId) (x:AV):Bool:=match P.underlying t,x with
 | some .string,.str _=>true
 | some (.slice _),.aV _ _ _=>true
 | some (.slice _),.ref _ _ _ _ _=>true
 | _,_=>false
theorem ZC {P:Program} {t ty:TypeId} {x:AV} {K:AV→Prop} {E:Env} {v:Value} (hx:V3 E x v)
  (bn:jd P t x=true) (h:qJ x K): ∃r u,K r∧(Builtin.len_ #[t] ty #[v]).run P E.w= .ok u E.w∧V3 E r u:=by
 unfold jd at bn
 split at bn<;>try (cases bn;done)
 ·rename_i s hu
  obtain rfl:=hx.wg
  exact⟨_,_,h,by simp[Builtin.len_,run_underlying hu,goInt],aW.int _ _⟩
 ·rename_i e rows de fr hu
  have iJ:aW E.w E.PA E.PF (.aV rows de fr) v:=hx
  cases iJ with
  | @aV _ _ PB _ _ _ A cap sz vs eU e1 fG cd dQ hrel=>
   have h:rows.length≤4611686018427387904→K (.int .i64 rows.length):=h
   exact⟨_,_,h e1.2,by simp[Builtin.len_,run_underlying hu,goInt],aW.int _ _⟩
 ·rename_i e b g off n de hu
  have h:K (.int .i64 n):=h
  rcases(show ez E (.ref b g off n de) v from hx) with⟨_,A,cap,rfl⟩ | ⟨fT,bD⟩
  ·exact⟨_,_,h,by simp[Builtin.len_,run_underlying hu,goInt],aW.int _ _⟩
  ·rcases bD with⟨_,_,rfl,A,rfl⟩ | ⟨c,cap,hm,rfl,nK,ov,pk⟩
   ·exact⟨_,_,h,by simp[Builtin.len_,run_underlying hu,goInt],aW.int _ _⟩
   ·exact⟨_,_,h,by simp[Builtin.len_,run_underlying hu,goInt],aW.int _ _⟩
def DH (x:AV) (i:Nat) (K:AV→Prop):Prop:=match x with
 | .tup l=>cM l[i]? K
 | _=>False
theorem Tz {P:Program} {x:AV} {i:Nat} {K:AV→Prop} {E:Env} {v:Value} (hx:V3 E x v) (h:DH x i K):
  ∃r u,K r∧(Instr.extract v i).run P E.w= .ok u E.w∧V3 E r u:=by
 cases x with
 | tup l=>
  obtain⟨vs,rfl,ai⟩:=hx
  obtain⟨a,aF,hK⟩:=e8 (show cM l[i]? K from h)
  obtain⟨u,hu,av⟩:=ai.get aF
  refine⟨a,u,hK,?_,o6 av⟩
  simp[Instr.extract,hu]
 | _=>exact h.elim
def Ca (op:UnOp) (x:AV) (K:AV→Prop):Prop:=match op,x with
 | .not,.bool b=>K (.bool (!b))
 | .neg,.int k n=>K (.int k (k.wrap (0 - n)))
 | _,_=>False
theorem aek {P:Program} {op:UnOp} {x:AV} {K:AV→Prop} {E:Env} {v:Value} (hx:V3 E x v) (h:Ca op x K):
  ∃r u,K r∧(Op.unary op v).run P E.w= .ok u E.w∧V3 E r u:=by
 unfold Ca at h
 split at h
 ·obtain rfl:=hx.mS;exact⟨_,_,h,rfl,aW.bool _⟩
 ·obtain rfl:=hx.nb;exact⟨_,_,h,rfl,aW.int _ _⟩
 ·exact h.elim
def Gd (x:AV) (K:AV→Prop):Prop:=match x with
 | .ptr _ _ _ _ | .e7 _ _ | .da _ _=>K x
 | _=>False
def vp (P:Program) (t:TypeId):Option IntKind:=match P.underlying t with
 | some (.int k)=>some k
 | _=>none
theorem L3 {P:Program} {t:TypeId} {k:IntKind} (h:vp P t=some k):P.underlying t=some (.int k):=by
 unfold vp at h
 split at h
 ·cases h;assumption
 ·cases h
def Dk (P:Program) (s d:TypeId) (x:AV) (K:AV→Prop):Prop:=match x with
 | .int _ n=>cM (vp P s) fun _=>cM (vp P d) fun k=>K (.int k (k.wrap n))
 | _=>False
theorem S_ {P:Program} {s d:TypeId} {x:AV} {K:AV→Prop} {E:Env} {v:Value} (hx:V3 E x v) (h:Dk P s d x K):
  ∃r u,K r∧(Go.convert s d v).run P E.w= .ok u E.w∧V3 E r u:=by
 cases x with
 | int bf n=>
  obtain⟨dA,h1,h⟩:=e8 (show cM (vp P s) _ from h)
  obtain⟨hp,h2,h⟩:=e8 h
  obtain rfl:=hx.nb
  refine⟨_,_,h,?_,aW.int _ _⟩
  simp only[Go.convert,Sem.run_bind,run_underlying (L3 h1),run_underlying (L3 h2),Result.andThen_ok]
  rfl
 | _=>exact h.elim
def lf (x:Option AV) (d:Nat) (K:Nat→Prop):Prop:=match x with
 | none=>K d
 | some (.int _ n)=>0≤n∧K n.toNat
 | some _=>False
def tR (P:Program) (t:TypeId) (x:AV) (lo hi:Option AV) (H:List Blk) (K:AV→Prop):Prop:=match x with
 | .str s=>(match P.underlying t with
  | some .string=>lf lo 0 fun l=>lf hi s.size fun h=>l≤h∧h≤s.size∧K (.str (s.extract l h))
  | _=>False)
 | .aV rows _ fr=>cM (im P t) fun e=>if(P.info? e).isSome=true then
   lf lo 0 fun l=>lf hi rows.length fun h=>l≤h∧h≤rows.length∧(∀(i:Nat) (row:List AV),rows[i]?=some row→row.length=P.cellsOf e)∧K (.aV ((rows.drop l).take (h - l)) false fr) else False
 | .ref b g off n _=>cM (im P t) fun e=>if(P.info? e).isSome=true then
   cM H[b]? fun blk=>blk.bi=g∧blk.sz=P.cellsOf e∧lf lo 0 fun l=>lf hi n fun h=>l≤h∧h≤n∧(l<h→K (.ref b g (off+l) (h - l) false))∧(l=h→K (.aV [] false true)) else False
 | _=>False
def ze (E:Env) (x:Option AV) (v:Option Value):Prop:=match x,v with
  | none,none=>True
  | some a,some u=>V3 E a u
  | _,_=>False
theorem uD {x:Option AV} {d:Nat} {K:Nat→Prop} {E:Env} {v:Option Value} (hx:ze E x v) (h:lf x d K): ∃n,K n∧((v=none∧n=d)∨ ∃k,v=some (.int k n)):=by
 cases x with
 | none=>
  cases v with
  | none=>exact⟨d,h,.inl ⟨rfl,rfl⟩⟩
  | some u=>exact hx.elim
 | some a=>
  cases v with
  | none=>exact hx.elim
  | some u=>
   cases a with
   | int k n=>
    obtain⟨aI,h⟩:=(show 0≤n∧K n.toNat from h)
    obtain rfl:=V3.nb hx
    exact⟨n.toNat,h,.inr ⟨k,by rw[Int.toNat_of_nonneg aI]⟩⟩
   | _=>exact h.elim
theorem GR {P:Program} {w:World} {isS:Bool} {len cap l h:Nat} {lo hi:Option Value} (aE:(lo=none∧l=0)∨ ∃k,lo=some (.int k l)) (bD:(hi=none∧h=len)∨ ∃k,hi=some (.int k h))
  (h1:l≤h) (h2:h≤cap):(Instr.sliceBounds isS len cap lo hi none).run P w= .ok (l,h,cap) w:=by
 rcases aE with⟨rfl,rfl⟩ | ⟨vt,rfl⟩<;>rcases bD with⟨rfl,rfl⟩ | ⟨L6,rfl⟩
 ·simp[Instr.sliceBounds]
 ·simp[Instr.sliceBounds,run_sliceBound (P:=P) w L6 (h:Int) cap _ (by omega) (by omega)]
 ·simp[Instr.sliceBounds,run_sliceBound (P:=P) w vt (l:Int) _ _ (by omega) (show(l:Int)≤((_:Nat):Int) by exact Int.ofNat_le.2 h1)]
 ·simp[Instr.sliceBounds,run_sliceBound (P:=P) w L6 (h:Int) cap _ (by omega) (by omega),run_sliceBound (P:=P) w vt (l:Int) h _ (by omega) (by omega)]
theorem ach {P:Program} {t:TypeId} {x:AV} {lo hi:Option AV} {K:AV→Prop} {E:Env} {L jO:List (Nat×List AV)} {H eL:List Blk} {v:Value} {H6 H5:Option Value} (sub:Sub L H jO eL) (aB:SimH E eL) (hx:V3 E x v)
  (AA:ze E lo H6) (Ew:ze E hi H5)
  (h:tR P t x lo hi H K): ∃r u,K r∧(Instr.sliceAt t v H6 H5 none).run P E.w= .ok u E.w∧V3 E r u:=by
 cases x with
 | str s=>
  obtain rfl:=hx.wg
  have h:(match P.underlying t with
   | some .string=>lf lo 0 fun l=>lf hi s.size fun h=>l≤h∧h≤s.size∧K (.str (s.extract l h))
   | _=>False):=h
  split at h
  ·rename_i hu
   obtain⟨l,h,aE⟩:=uD AA h
   obtain⟨q,⟨h1,h2,hK⟩,af⟩:=uD Ew h
   refine⟨_,.string (s.extract l q),hK,?_,aW.str _⟩
   rw[run_sliceAt_string E.w t _ _ _ _ hu]
   simp only[Instr.slice,Sem.run_bind,run_underlying hu,Result.andThen_ok]
   simp only[Option.isSome_none,Bool.false_eq_true,if_false]
   simp only[Sem.run_bind,GR (P:=P) (w:=E.w) (isS:=false) aE af h1 h2,Result.andThen_ok]
   rfl
  ·exact h.elim
 | aV rows full fr=>
  obtain⟨e,he,h⟩:=e8 (show cM (im P t) fun e=>if(P.info? e).isSome=true then
   lf lo 0 fun l=>lf hi rows.length fun h=>l≤h∧h≤rows.length∧(∀(i:Nat) (row:List AV),rows[i]?=some row→row.length=P.cellsOf e)∧K (.aV ((rows.drop l).take (h - l)) false fr) else False from h)
  have hu:=rr he
  split at h
  case isFalse=>exact h.elim
  case isTrue hinf=>
  obtain⟨l,h,aE⟩:=uD AA h
  obtain⟨q,⟨h1,h2,pt,hK⟩,af⟩:=uD Ew h
  have iJ:aW E.w E.PA E.PF (.aV rows full fr) v:=hx
  cases iJ with
  | @aV _ _ PB _ _ _ A cap sz vs eU e1 fG cd dQ hrel=>
   have sT:P.elem t=e:=by simp[Program.elem,hu]
   have ms:P.underlying t=some (.slice (P.elem t)):=by rw[sT];exact hu
   have hlen:((rows.drop l).take (q - l)).length=q - l:=by simp;omega
   refine⟨_,sliced A l q cap (P.cellsOf e),hK,?_,?_⟩
   ·rw[run_sliceAt_slice E.w t _ _ _ _ ms,run_slice_any E.w t A rows.length cap ms,GR (P:=P) (w:=E.w) aE af h1 (by omega)]
    simp only[Result.andThen_ok,sT,run_sizeOf hinf]
   ·show aW E.w E.PA E.PF _ (.slice _ (q - l) (cap - l))
    have key:=aW.aV (w:=E.w) (PA:=E.PA) (PF:=E.PF) (PB:=PB) (rows:=(rows.drop l).take (q - l)) (full:=false) (fresh:=fr) (A:=if cap=l then A else A.map (·.add (l*P.cellsOf e))) (cap:=cap - l) (sz:=sz) (vs:=fun i j=>vs (l+i) j)
     eU (by rw[hlen];omega) (fun h=>by cases h)
     (fun i row av=>by
      rw[List.getElem?_take] at av
      split at av
      ·rw[List.getElem?_drop] at av;exact cd _ _ av
      ·cases av)
     (fun ao=>by
      rw[hlen] at ao
      obtain⟨c,o,rfl,hc,d_⟩:=dQ (by omega)
      have Wj:sz=P.cellsOf e:=by
       have aX:l<rows.length:=by omega
       rw[←cd l _ (List.getElem?_eq_getElem aX)];exact pt l _ (List.getElem?_eq_getElem aX)
      refine⟨c,o+l*P.cellsOf e,by rw[if_neg (by omega)];simp[mP],hc,fun i j hi ap=> ?_⟩
      rw[hlen] at hi
      have:=d_ (l+i) j (by omega) ap
      rw[←this,Wj]
      congr 2
      rw[Nat.add_mul];omega)
     (fun i j row a av ap=>by
      rw[List.getElem?_take] at av
      split at av
      ·rw[List.getElem?_drop] at av;exact hrel _ _ _ _ av ap
      ·cases av)
    rw[hlen] at key
    exact key
 | ref b g off n full=>
  obtain⟨e,he,h⟩:=e8 (show cM (im P t) fun e=>if(P.info? e).isSome=true then
   cM H[b]? fun blk=>blk.bi=g∧blk.sz=P.cellsOf e∧lf lo 0 fun l=>lf hi n fun h=>l≤h∧h≤n∧(l<h→K (.ref b g (off+l) (h - l) false))∧(l=h→K (.aV [] false true)) else False from h)
  have hu:=rr he
  split at h
  case isFalse=>exact h.elim
  case isTrue hinf=>
  obtain⟨blk,hb,aQ,lS,h⟩:=e8 h
  obtain⟨l,h,aE⟩:=uD AA h
  obtain⟨q,⟨h1,h2,U5,Kh⟩,af⟩:=uD Ew h
  have hb:=sub.h b blk hb
  have ju:=aB.eI b blk hb
  have sT:P.elem t=e:=by simp[Program.elem,hu]
  have ms:P.underlying t=some (.slice (P.elem t)):=by rw[sT];exact hu
  have run: ∀A cap,n≤cap→(Instr.sliceAt t (.slice A n cap) H6 H5 none).run P E.w= .ok (sliced A l q cap (P.cellsOf e)) E.w:=by
   intro A cap hc
   rw[run_sliceAt_slice E.w t _ _ _ _ ms,run_slice_any E.w t A n cap ms,GR (P:=P) (w:=E.w) aE af h1 (by omega)]
   simp only[Result.andThen_ok,sT,run_sizeOf hinf]
  have empty: ∀A cap,l=q→V3 E (.aV [] false true) (sliced A l q cap (P.cellsOf e)):=by
   intro A cap s3
   subst s3
   show aW E.w E.PA E.PF _ (.slice _ (l - l) (cap - l))
   rw[Nat.sub_self]
   exact aW.aV (PB:=fun _=>False) (sz:=0) (vs:=fun _ _=>undef) (fun _ h=>h.elim) ⟨Nat.zero_le _,Nat.zero_le _⟩ (fun h=>by cases h) (fun i row h=>by simp at h) (fun h=>by simp at h) (fun i j row a h=>by simp at h)
  rcases(show ez E (.ref b g off n full) v from hx) with⟨bD,_⟩ | ⟨fT,bD⟩
  ·omega
  ·rcases bD with⟨_,_,rfl,A,rfl⟩ | ⟨c,cap,hm,rfl,nK,ov,pk⟩
   ·have s3:l=q:=by omega
    exact⟨_,_,Kh s3,run A 0 (Nat.le_refl _),empty _ _ s3⟩
   ·rcases Nat.lt_or_ge l q with aX | Am
    ·refine⟨_,_,U5 aX,run _ cap nK,.inr ⟨fT,.inr ⟨c,cap - l,hm,?_,by omega,(fun h=>by cases h),by omega⟩⟩⟩
     obtain⟨blk',aw,ty,q1,b5,_⟩:=aB.heap b c hm
     obtain rfl:blk=blk':=by rw[hb] at q1;exact Option.some.inj q1
     simp only[sliced,if_neg (show ¬cap=l by omega),Option.map_some,mP,b5,lS,Nat.add_mul]
    ·have s3:l=q:=by omega
     exact⟨_,_,Kh s3,run _ cap nK,empty _ _ s3⟩
 | _=>exact h.elim
def r5 (P:Program) (f:FuncId):Bool:=match P.funcs[f]? with
 | some fn=> !(fn.name== "runtime.NumGoroutine")&&fn.body.isSome
 | none=>false
def dw (P:Program) (f:FuncId) (args:List AV) (H:List Blk) (Q:AV→List Blk→Prop):Prop:=
 r5 P f=true∧ ∀(E:Env) (vs:List Value),(∀t,E.mL t=none)→SimH E H→aO (V2 E) args vs→
  Calls P f vs.toArray E.w fun e w'=> ∃r v H' E',e= .returned v∧Q r H'∧E'.w=w'∧(∀t,E'.mL t=none)∧SimH E' H'∧V3 E' r v∧Step E E'
theorem dw.mono {P:Program} {f:FuncId} {args:List AV} {H:List Blk} {Q um:AV→List Blk→Prop} (h:dw P f args H Q) (af: ∀r H',Q r H'→um r H'):dw P f args H um:=
 ⟨h.1,fun E vs a b c=>(h.2 E vs a b c).mono fun e w' ⟨r,v,H',E',h1,h2,aM⟩=>⟨r,v,H',E',h1,af _ _ h2,aM⟩⟩
def x9:AV→Bool
 | .e7 _ _ | .agg _ | .tup _=>false
 | _=>true
def vz:AV→Bool
 | .fn _ caps=>caps.all x9
 | a=>x9 a
def jC:AV→Bool
 | .agg cells=>cells.all vz
 | a=>vz a
def vA:AV→Bool
 | .tup l=>l.all jC
 | a=>jC a
theorem ez.b0 {E:Env} {a:AV} {v:Value} (h:x9 a=true) (hv:ez E a v):ez E.b0 a v:=by
 cases a<;>first | exact hv | cases h
theorem b1.b0 {E:Env} {a:AV} {v:Value} (h:vz a=true) (hv:b1 E a v):b1 E.b0 a v:=by
 by_cases hf: ∃f caps,a= .fn f caps
 ·obtain⟨f,caps,rfl⟩:=hf
  obtain⟨vs,e,ai⟩:=hv
  exact⟨vs,e,ai.1,fun i x y hx ba=>(ai.2 i x y hx ba).b0 (List.all_eq_true.1 (show caps.all x9=true from h) x (List.mem_of_getElem? hx))⟩
 ·have aI:vz a=x9 a:=by cases a<;>first | rfl | exact absurd ⟨_,_,rfl⟩ hf
  rw[o5 fun f c e=>hf ⟨f,c,e⟩] at hv ⊢
  exact hv.b0 (aI▸h)
theorem V2.b0 {E:Env} {a:AV} {v:Value} (h:jC a=true) (hv:V2 E a v):V2 E.b0 a v:=by
 by_cases hf: ∃l,a= .agg l
 ·obtain⟨l,rfl⟩:=hf
  obtain⟨vs,e,ai⟩:=hv
  exact⟨vs,e,ai.1,fun i x y hx ba=>(ai.2 i x y hx ba).b0 (List.all_eq_true.1 (show l.all vz=true from h) x (List.mem_of_getElem? hx))⟩
 ·have aI:jC a=vz a:=by cases a<;>first | rfl | exact absurd ⟨_,rfl⟩ hf
  rw[ny fun l e=>hf ⟨l,e⟩] at hv ⊢
  exact hv.b0 (aI▸h)
theorem V3.b0 {E:Env} {a:AV} {v:Value} (h:vA a=true) (hv:V3 E a v):V3 E.b0 a v:=by
 by_cases hf: ∃l,a= .tup l
 ·obtain⟨l,rfl⟩:=hf
  obtain⟨vs,e,ai⟩:=hv
  exact⟨vs,e,ai.1,fun i x y hx ba=>(ai.2 i x y hx ba).b0 (List.all_eq_true.1 (show l.all jC=true from h) x (List.mem_of_getElem? hx))⟩
 ·have aI:vA a=jC a:=by cases a<;>first | rfl | exact absurd ⟨_,rfl⟩ hf
  rw[nz fun l e=>hf ⟨l,e⟩] at hv ⊢
  exact hv.b0 (aI▸h)
theorem SimH.b0 {E:Env} {H:List Blk} (h:SimH E H):SimH E.b0 H:=
 {h with
  iL:=fun t hz c hm=>by cases hm
  gn:=fun b t c _ hm=>by cases hm
  hN:=fun c _ ⟨t,hm⟩=>by cases hm
  gf:=fun c ⟨t,hm⟩=>by cases hm}
theorem Good.toStep [cw] {cj E:Env} (h:Good cj E):Step cj E.b0:=
 ⟨⟨h.le.fo,h.le.e9,h.le.sl,h.le.wf,h.le.bi,h.le.m,fun t c hm=>by rw[h.b0 t] at hm;cases hm⟩,h.os,h.tape,h.output,h.size,fun c hc h1 _=>h.cT c hc h1,h.iu,(fun c ⟨t,hm⟩=>by cases hm),h.fo,h.e9⟩
def qY (P:Program) (ay:St):List ResultVar→(List AV→Prop)→Prop
 | [],K=>K []
 | .tmp t::rs,K=>qY P ay rs fun l=>K (ay.T.getD t .undef::l)
 | .cell a t::rs,K=>nN P t (ay.T.getD a .undef) ay.L ay.H fun x=>qY P ay rs fun l=>K (x::l)
def pZ:List AV→AV
 | [x]=>x
 | l=> .tup l
def sb (P:Program) (fn:Func) (ay:St) (Q:AV→List Blk→Prop):Prop:=qY P ay fn.results.toList fun l=>l.all jC=true∧Q (pZ l) ay.H
theorem RU {E:Env} {P:Program} {t:TypeId} {x:AV} {L:List (Nat×List AV)} {H:List Blk} {K:AV→Prop} {v:Value} (aB:SimH E H) (bN:SimL E L) (hx:V3 E x v) (h:nN P t x L H K):
  ∃a ec,K a∧(do loadVar t (←asAddr v):Sem Value).run P E.w= .ok ec E.w∧V2 E a ec:=by
 obtain⟨a,ec,hK,av,hv⟩:=Nd (Sub.refl L H) aB bN hx h
 refine⟨a,ec,hK,?_,hv⟩
 have: ∃kT,v= .pointer (some kT):=by
  cases x with
  | e7 s c=>obtain⟨bl,_,rfl⟩:=hx.x0;exact⟨_,rfl⟩
  | ptr b g r c=>
   rcases(show ez E (.ptr b g r c) v from hx) with⟨_,bl,o,rfl⟩ | ⟨_,bl,_,rfl⟩<;>exact⟨_,rfl⟩
  | da cells c=>
   have iJ:aW E.w E.PA E.PF (.da cells c) v:=hx
   cases iJ;exact⟨_,rfl⟩
  | _=>exact h.elim
 obtain⟨kT,rfl⟩:=this
 simpa[Instr.loadAt,Instr.sureAddr,asAddr] using av
theorem GL {P:Program} {ay:St} {E:Env} {tmps:Array Value} (hs:sx E ay tmps) {f:ResultVar→Sem Value} (f1: ∀t,f (.tmp t)=pure (tmps.getD t undef))
  (f2: ∀a t,f (.cell a t)=do loadVar t (←asAddr (tmps.getD a undef))): ∀(rs:List ResultVar) (K:List AV→Prop),qY P ay rs K→
  ∃l vs,K l∧(rs.mapM f).run P E.w= .ok vs E.w∧aO (V3 E) l vs
 | [],K,h=>⟨[],[],h,rfl,aO.nil⟩
 | .tmp t::rs,K,h=>by
  obtain⟨l,vs,hK,av,ai⟩:=GL hs f1 f2 rs _ h
  exact⟨_,_,hK,by simp only[List.mapM_cons,f1,Sem.run_bind,Sem.run_pure,Result.andThen_ok,av],aO.cons (hs.hP t) ai⟩
 | .cell a t::rs,K,h=>by
  obtain⟨x,ec,h2,EI,hv⟩:=RU hs.h hs.l (hs.hP a) h
  obtain⟨l,vs,hK,av,ai⟩:=GL hs f1 f2 rs _ h2
  refine⟨_,_,hK,?_,aO.cons (o6 hv) ai⟩
  simp only[List.mapM_cons,f2]
  rw[Sem.run_bind,EI]
  simp only[Result.andThen_ok,Sem.run_bind,av,Sem.run_pure]
theorem abI (fn:Func) (tmps:Array Value): ∃f:ResultVar→Sem Value,results fn tmps=(fn.results.mapM f>>=fun vs=>pure (if h:vs.size=1 then vs[0] else .tuple vs))∧(∀t,f (.tmp t)=pure (tmps.getD t undef))∧
  ∀b t,f (.cell b t)=(asAddr (tmps.getD b undef)>>=fun a=>loadVar t a):=⟨_,rfl,fun _=>rfl,fun _ _=>rfl⟩
def sw (P:Program) (fn:Func) (Q:AV→List Blk→Prop) (ex:Exit) (ay:St):Prop:=match ex with
 | .normal | .ret=>sb P fn ay Q
 | _=>False
def AQ (fn:Func) (args:List AV) (H:List Blk):St:=⟨args++List.replicate (fn.ntmps - args.length) .undef,[],H⟩
theorem RK {E:Env} {a:AV} {v:Value} (h:jC a=true) (hv:V3 E a v) (bn: ∀l,a≠ .tup l):V2 E.b0 a v:=by
 rw[nz bn] at hv;exact hv.b0 h
theorem dw.Gg {P:Program} {f:FuncId} {fn:Func} {c:Code} {args:List AV} {H:List Blk} {Q:AV→List Blk→Prop} (hf:P.funcs[f]?=some fn) (hb:fn.body=some c) (ao:(fn.name== "runtime.NumGoroutine")=false)
  (h: ∀h5:cw,h5.n=H.length→WpS P c (sw P fn Q) (AQ fn args H)):dw P f args H Q:=by
 refine⟨by simp[r5,hf,hb,ao],?_⟩
 intro E vs ao aB ai
 letI:cw:=⟨H.length⟩
 refine calls_of_wp hf hb (wp_mono (h ⟨H.length⟩ rfl E E {tmps:=vs.toArray++Array.replicate (fn.ntmps - vs.toArray.size) undef,defers:=[]} (Good.refl aB.fresh ao) ⟨aB,(fun t c hm=>by rw[ao t] at hm;cases hm),fun t=> ?_,?_⟩ rfl) ?_)
 ·show V3 E ((args++List.replicate (fn.ntmps - args.length) AV.undef).getD t AV.undef) _
  rcases Nat.lt_or_ge t args.length with aX | fT
  ·have h1:args[t]?=some args[t]:=List.getElem?_eq_getElem aX
   obtain⟨v,hv,av⟩:=ai.get h1
   have EC:t<vs.length:=ai.1▸aX
   have aR:(args++List.replicate (fn.ntmps - args.length) AV.undef).getD t .undef=args[t]:=by
    rw[List.getD_eq_getElem?_getD,List.getElem?_append_left aX,h1];rfl
   have e2:(vs.toArray++Array.replicate (fn.ntmps - vs.toArray.size) undef).getD t undef=v:=by
    rw[Array.getD_eq_getD_getElem?,Array.getElem?_append_left (by simpa using EC)]
    simp[hv]
   rw[aR,e2];exact o6 av
  ·have aR:(args++List.replicate (fn.ntmps - args.length) AV.undef).getD t .undef= .undef:=by
    rw[List.getD_eq_getElem?_getD,List.getElem?_append_right fT,List.getElem?_replicate];split<;>rfl
   rw[aR];exact V3.undef _ _
 ·simp[AQ,ai.1]
 ·rintro e a w ⟨hex,ay,E',af,hw,aQ,hs,aZ⟩
  have fin:sb P fn ay Q→a.defers=[]∧ ∃v,(results fn a.tmps).run P w= .ok v w∧ ∃r QY H' E',(Ending.returned v)= .returned QY∧Q r H'∧E'.w=w∧(∀t,E'.mL t=none)∧SimH E' H'∧V3 E' r QY∧Step E E':=by
   intro Wd
   refine⟨aZ,?_⟩
   subst hw
   have hm: ∀f:ResultVar→Sem Value,(∀t,f (.tmp t)=pure (a.tmps.getD t undef))→(∀b t,f (.cell b t)=do loadVar t (←asAddr (a.tmps.getD b undef)))→ ∃l ew,(l.all jC=true∧Q (pZ l) ay.H)∧(fn.results.mapM f).run P E'.w= .ok (List.toArray ew) E'.w∧aO (V3 E') l ew:=by
    intro f f1 f2
    obtain⟨l,ew,h1,av,h2⟩:=GL hs f1 f2 _ _ Wd
    exact⟨l,ew,h1,by rw[Array.mapM_eq_mapM_toList,Sem.run_map,av];rfl,h2⟩
   obtain⟨f,xr,xt,hf2⟩:=abI fn a.tmps
   obtain⟨l,ew,⟨KM,U7⟩,av,ve⟩:=hm f xt hf2
   refine⟨if h:ew.toArray.size=1 then ew.toArray[0] else .tuple ew.toArray,?_,pZ l,_,ay.H,E'.b0,rfl,U7,rfl,fun _=>rfl,hs.h.b0,?_,aQ.toStep⟩
   ·rw[xr,Sem.run_bind,av];rfl
   ·cases l with
    | nil=>
     obtain rfl:=ve.lZ
     exact⟨[],rfl,aO.nil⟩
    | cons x l=>
     obtain⟨u,aft,rfl,hx,KS⟩:=ve.cons_inv
     cases l with
     | nil=>
      obtain rfl:=KS.lZ
      show V3 E'.b0 x u
      have ll:jC x=true:=by simpa using KM
      exact hx.b0 (by cases x<;>first | exact ll | (cases ll))
     | cons y l=>
      obtain⟨z,aen,rfl,ba,afd⟩:=KS.cons_inv
      have cd: ¬(List.toArray (u::z::aen)).size=1:=by simp
      rw[dif_neg cd]
      refine⟨_,rfl,?_⟩
      refine⟨ve.1,fun i p q KR Wb=> ?_⟩
      have hv:=ve.2 i p q KR Wb
      have ll:jC p=true:=List.all_eq_true.1 KM p (List.mem_of_getElem? KR)
      have bn: ∀l,p≠ .tup l:=by
       intro l e;subst e;cases ll
      exact RK ll hv bn
  cases e with
  | normal=>exact fin af
  | ret=>exact fin af
  | exit id=>exact af.elim
  | _=>cases hex
inductive fF (L:List (Nat×List AV)) (H:List Blk):AV→AV→Prop where
 | undef (a:AV):fF L H a .undef
 | int (k:IntKind) (n:Int):fF L H (.int k n) (.int k n)
 | bool (b:Bool):fF L H (.bool b) (.bool b)
 | str (s:ByteArray):fF L H (.str s) (.str s)
 | fI:fF L H .fI .fI
 | fY:fF L H .fY .fY
 | aV (rows:List (List AV)) (full fr de:Bool) (hw:de=true→full=true):fF L H (.aV rows full fr) (.aV rows de false)
 | da (cells:List AV) (c:Nat):fF L H (.da cells c) (.da cells c)
 | e7 {t c:Nat} {cells gw:List AV} (h:dZ L t=some cells) (aE:cells.length=gw.length)
   (av: ∀(j:Nat) (a b:AV),cells[j]?=some a→gw[j]?=some b→fF L H a b):fF L H (.e7 t c) (.da gw c)
 | ptr {b g r c:Nat} {blk:Blk} {row row':List AV} (hb:H[b]?=some blk) (aQ:blk.bi=g) (eO:blk.rows[r]?=some row) (aE:row.length=row'.length)
   (av: ∀(j:Nat) (a b:AV),row[j]?=some a→row'[j]?=some b→fF L H a b):fF L H (.ptr b g r c) (.da row' c)
 | ref {b g off n:Nat} {full de:Bool} {blk:Blk} {jj:List (List AV)} (hw:de=true→full=true) (hb:H[b]?=some blk) (aQ:blk.bi=g) (ao:jj.length=n) (h9:n≤4611686018427387904) (aG:off+n≤blk.rows.length)
   (aE: ∀(i:Nat) (row row':List AV),blk.rows[off+i]?=some row→jj[i]?=some row'→row.length=row'.length)
   (av: ∀(i j:Nat) (row row':List AV) (a c:AV),blk.rows[off+i]?=some row→jj[i]?=some row'→row[j]?=some a→row'[j]?=some c→fF L H a c):
   fF L H (.ref b g off n full) (.aV jj de false)
 | fn {f:FuncId} {caps w2:List AV} (aE:caps.length=w2.length) (av: ∀(j:Nat) (a b:AV),caps[j]?=some a→w2[j]?=some b→fF L H a b):fF L H (.fn f caps) (.fn f w2)
def ey (L:List (Nat×List AV)) (H:List Blk) (a b:AV):Prop:=
 (∃l eK,a= .agg l∧b= .agg eK∧aO (fF L H) l eK)∨fF L H a b
def Env.frozen (E:Env):Env:={w:=E.w,PA:=fun c=>E.PA c∨E.fk c∨E.j1 c,PF:=fun _=>False,m:=fun _=>none,bi:=fun _=>0,sz:=fun _=>0,cp:=fun _=>0,mL:=fun _=>none}
theorem JX {E:Env} {H:List Blk} (h:SimH E H):SimH E.frozen [] where
 heap:=fun b c hb=>by cases hb
 eI:=fun b blk hb=>by simp at hb
 gQ:=fun b hb=>by cases hb
 fresh:=fun b _=>⟨rfl,rfl⟩
 gF:=fun b bT c hb=>by cases hb
 iL:=fun t hz c hb=>by cases hb
 gn:=fun b t c hb=>by cases hb
 hq:=fun c _ ⟨b,hb⟩=>by cases hb
 hN:=fun c _ ⟨b,hb⟩=>by cases hb
 dr:=fun c hc=>hc.elim
 fh:=fun c hc=>hc.elim
 dy:=fun c hc=>hc.elim (h.dy c) fun hc=>hc.elim (h.fl c) (h.gf c)
 fl:=fun c ⟨b,hb⟩=>by cases hb
 gf:=fun c ⟨b,hb⟩=>by cases hb
theorem Cz {E:Env} {a:AV} {v:Value} (h:ez E a v):b1 E a v:=by
 by_cases hf: ∃f caps,a= .fn f caps
 ·obtain⟨f,caps,rfl⟩:=hf
  exact aW.v1 h
 ·rw[o5 fun f c e=>hf ⟨f,c,e⟩];exact h
theorem Pt {L jO:List (Nat×List AV)} {H eL:List Blk} {E:Env} (sub:Sub L H jO eL) (aB:SimH E eL) (bN:SimL E jO) {a b:AV} (h:fF L H a b):
  ∀{v:Value},b1 E a v→aW E.w (fun c=>E.PA c∨E.fk c∨E.j1 c) (fun _=>False) b v:=by
 induction h with
 | undef a=>intro v _;exact .undef v
 | int k n=>intro v hv;have hv:aW E.w E.PA E.PF (.int k n) v:=hv;cases hv;exact .int _ _
 | bool k=>intro v hv;have hv:aW E.w E.PA E.PF (.bool k) v:=hv;cases hv;exact .bool _
 | str k=>intro v hv;have hv:aW E.w E.PA E.PF (.str k) v:=hv;cases hv;exact .str _
 | fI=>intro v hv;have hv:aW E.w E.PA E.PF .fI v:=hv;cases hv;exact .fI
 | fY=>intro v hv;have hv:aW E.w E.PA E.PF .fY v:=hv;cases hv;exact .fY
 | aV rows full fr de hw=>
  intro v hv
  have hv:aW E.w E.PA E.PF (.aV rows full fr) v:=hv
  cases hv with
  | aV eU e1 fG cd dQ hrel=>
   exact .aV (fun c hc=>by
    have:=eU c hc
    simp only[Bool.false_eq_true,if_false]
    split at this
    ·exact .inl (aB.dr c this)
    ·exact .inl this) e1 (fun h=>fG (hw h)) cd dQ hrel
 | da cells c=>
  intro v hv
  have hv:aW E.w E.PA E.PF (.da cells c) v:=hv
  cases hv with
  | da hc dQ hrel=>exact .da (.inl hc) dQ fun j a ap=>(hrel j a ap).mono (fun _ _=>rfl) (fun _ h=>h.elim) (fun c hc=> .inl hc) (fun _ h=>h)
 | @e7 t c cells gw aQ aE av bE=>
  intro v hv
  obtain⟨bl,hm,rfl⟩:=(show ∃bl,E.mL t=some bl∧v= .pointer (some ⟨bl,c,none⟩) from hv)
  obtain⟨uI,aw,ty,xv,hw,ai⟩:=bN t bl hm
  obtain rfl:cells=uI:=by have:=sub.l _ _ aQ;rw[xv] at this;exact(Option.some.inj this).symm
  have key:=aW.da (w:=E.w) (PA:=fun c=>E.PA c∨E.fk c∨E.j1 c) (PF:=fun _=>False) (cells:=gw) (col:=c) (c:=bl) (o:=0) (vs:=fun j=>(aw[j]?).getD undef)
   (.inr (.inr ⟨t,hm⟩))
   (fun j ap=>by
    have aX:j<aw.size:=by have:=ai.1;simp at this;omega
    rw[Nat.zero_add]
    rw[cell_of hw (Array.getElem?_eq_getElem aX)]
    simp[Array.getElem?_eq_getElem aX])
   (fun j b ap=>by
    have aX:j<cells.length:=by have:=(List.getElem?_eq_some_iff.1 ap).1;omega
    obtain⟨u,hu,gA⟩:=ai.get (List.getElem?_eq_getElem aX)
    have:(aw[j]?).getD undef=u:=by rw[Array.getElem?_toList] at hu;rw[hu];rfl
    rw[this]
    exact bE j _ b (List.getElem?_eq_getElem aX) ap gA.up)
  rw[Nat.zero_add] at key
  exact key
 | @ptr b g r c blk row row' hb aQ eO aE av bE=>
  intro v hv
  have hb:=sub.h b blk hb
  have ju:=aB.eI b blk hb
  obtain⟨bl,hm,rfl⟩:=V3.Bq (E:=E) (v:=v) (show V3 E (.ptr b g r c) v from hv) (ju.trans aQ)
  obtain⟨blk',aw,ty,q1,b5,hw,jX,hlen,fW⟩:=aB.heap b bl hm
  obtain rfl:blk=blk':=by rw[hb] at q1;exact Option.some.inj q1
  exact aW.da (vs:=fun j=>(aw[r*E.sz b+j]?).getD undef) (.inr (.inl ⟨b,hm⟩))
   (fun j ap=>by
    have aX:j<row.length:=by omega
    obtain⟨u,hu,_⟩:=fW.2 r j row _ eO (List.getElem?_eq_getElem aX)
    rw[cell_of hw hu,hu];rfl)
   (fun j b7 ap=>by
    have aX:j<row.length:=by have:=(List.getElem?_eq_some_iff.1 ap).1;omega
    obtain⟨u,hu,gA⟩:=fW.2 r j row _ eO (List.getElem?_eq_getElem aX)
    rw[hu]
    exact bE j _ b7 (List.getElem?_eq_getElem aX) ap gA.up)
 | @ref b g off n full de blk jj EV hb aQ ao h9 aG aE av bE=>
  intro v hv
  have hb:=sub.h b blk hb
  have ju:=aB.eI b blk hb
  rcases(show ez E (.ref b g off n full) v from hv) with⟨bD,_⟩ | ⟨fT,bD⟩
  ·omega
  ·rcases bD with⟨_,_,lk,A,rfl⟩ | ⟨c,cap,hm,rfl,nK,ov,pk⟩
   ·subst lk
    obtain rfl:jj=[]:=List.eq_nil_of_length_eq_zero ao
    exact aW.aV (rows:=[]) (PB:=fun _=>False) (sz:=0) (vs:=fun _ _=>undef) (fun _ h=>h.elim) ⟨Nat.le_refl _,Nat.zero_le _⟩ (fun _=>rfl) (fun i row h=>by simp at h) (fun h=>by simp at h) (fun i j row a h=>by simp at h)
   ·obtain⟨blk',aw,ty,q1,b5,hw,jX,hlen,fW⟩:=aB.heap b c hm
    obtain rfl:blk=blk':=by rw[hb] at q1;exact Option.some.inj q1
    subst ao
    have eO: ∀i,i<jj.length→ ∃row,blk.rows[off+i]?=some row:=fun i hi=>⟨_,List.getElem?_eq_getElem (by omega)⟩
    refine aW.aV (PB:=fun c=>E.PA c∨E.fk c∨E.j1 c) (sz:=E.sz b) (vs:=fun i j=>(aw[(off+i)*E.sz b+j]?).getD undef) (fun c hc=>by simpa using hc) ⟨nK,h9⟩ (fun h=>ov (EV h))
     (fun i row' eJ=> ?_) (fun kD=>⟨c,off*E.sz b,rfl,.inr (.inl ⟨b,hm⟩),fun i j hi ap=> ?_⟩) (fun i j row' a eJ ap=> ?_)
    ·obtain⟨row,ia⟩:=eO i (List.getElem?_eq_some_iff.1 eJ).1
     rw[←aE i row row' ia eJ];exact fW.1 _ row ia
    ·obtain⟨row,ia⟩:=eO i hi
     have aX:j<row.length:=by rw[fW.1 _ row ia];exact ap
     obtain⟨u,hu,_⟩:=fW.2 (off+i) j row _ ia (List.getElem?_eq_getElem aX)
     rw[show off*E.sz b+(i*E.sz b+j)=(off+i)*E.sz b+j by rw[Nat.add_mul];omega,cell_of hw hu,hu];rfl
    ·obtain⟨row,ia⟩:=eO i (List.getElem?_eq_some_iff.1 eJ).1
     have aX:j<row.length:=by rw[aE i row row' ia eJ];exact(List.getElem?_eq_some_iff.1 ap).1
     obtain⟨u,hu,gA⟩:=fW.2 (off+i) j row _ ia (List.getElem?_eq_getElem aX)
     rw[hu]
     exact bE i j row row' _ a ia eJ (List.getElem?_eq_getElem aX) ap gA.up
 | @fn f caps w2 aE av bE=>
  intro v hv
  obtain⟨vs,rfl,ai⟩:=(show ∃vs:List Value,v= .func (.func f) #[] vs.toArray∧aO (ez E) caps vs from hv)
  exact .fn (aE▸ai.1) fun i b u hb hu=>by
   have aX:i<caps.length:=by have:=(List.getElem?_eq_some_iff.1 hb).1;omega
   exact bE i _ b (List.getElem?_eq_getElem aX) hb (Cz (ai.2 i _ u (List.getElem?_eq_getElem aX) hu))
theorem Pu {L jO:List (Nat×List AV)} {H eL:List Blk} {E:Env} (sub:Sub L H jO eL) (aB:SimH E eL) (bN:SimL E jO) {a b:AV} (h:ey L H a b) {v:Value} (hv:V2 E a v):V2 E.frozen b v:=by
 rcases h with⟨l,eK,rfl,rfl,ai⟩ | h
 ·obtain⟨vs,rfl,af⟩:=hv
  refine⟨vs,rfl,ai.1▸af.1,fun i x u hx hu=> ?_⟩
  have aX:i<l.length:=by have:=(List.getElem?_eq_some_iff.1 hx).1;have:=ai.1;omega
  have aE:=List.getElem?_eq_getElem aX
  exact aW.v1 (E:=E.frozen) (Pt sub aB bN (ai.2 i _ x aE hx) (af.2 i _ u aE hu))
 ·by_cases hf: ∃l,a= .agg l
  ·obtain⟨l,rfl⟩:=hf
   cases h with
   | undef=>exact aW.undef v
  ·rw[ny fun l e=>hf ⟨l,e⟩] at hv
   exact jp (aW.v1 (E:=E.frozen) (Pt sub aB bN h hv))
inductive ft (H:List Blk):AV→AV→Prop where
 | int (k:IntKind) (n:Int):ft H (.int k n) (.int k n)
 | bool (b:Bool):ft H (.bool b) (.bool b)
 | str (s:ByteArray):ft H (.str s) (.str s)
 | fI:ft H .fI .fI
 | fY:ft H .fY .fY
 | aV (rows:List (List AV)) (full de:Bool) (hw:de=true→full=true):ft H (.aV rows full true) (.aV rows de true)
 | F4 (full fr de:Bool) (hw:de=true→full=true):ft H (.aV [] full fr) (.aV [] de true)
 | ref {b g off n:Nat} {full de:Bool} {blk:Blk} {jj:List (List AV)} (hw:de=true→full=true) (aw:Nat→Nat→AV) (hb:H[b]?=some blk) (aQ:blk.bi=g) (ao:jj.length=n) (h9:n≤4611686018427387904) (aG:off+n≤blk.rows.length)
   (aE: ∀(i:Nat) (row row':List AV),blk.rows[off+i]?=some row→jj[i]?=some row'→row.length=row'.length)
   (av: ∀(i j:Nat) (row:List AV) (a:AV),i<n→blk.rows[off+i]?=some row→row[j]?=some a→ft H a (aw i j))
   (hc: ∀(i j:Nat) (row':List AV) (c:AV),jj[i]?=some row'→row'[j]?=some c→c=hX (aw i j)):
   ft H (.ref b g off n full) (.aV jj de true)
def rj (H:List Blk) (a b:AV):Prop:=(∃l eK,a= .agg l∧b= .agg eK∧aO (ft H) l eK)∨ft H a b
def jQ (H:List Blk) (a b:AV):Prop:=(∃l eK,a= .tup l∧b= .tup eK∧aO (rj H) l eK)∨rj H a b
theorem acR {H:List Blk} {a b:AV} (h:ft H a b):iB b=true:=by cases h<;>rfl
theorem Pw {H:List Blk} {E:Env} (aB:SimH E H) {a b:AV} (h:ft H a b):
  ∀{v:Value},b1 E a v→aW E.w (fun c=>E.PF c∨E.fk c) (fun c=>E.PF c∨E.fk c) b v:=by
 induction h with
 | int k n=>intro v hv;have hv:aW E.w E.PA E.PF (.int k n) v:=hv;cases hv;exact .int _ _
 | bool k=>intro v hv;have hv:aW E.w E.PA E.PF (.bool k) v:=hv;cases hv;exact .bool _
 | str k=>intro v hv;have hv:aW E.w E.PA E.PF (.str k) v:=hv;cases hv;exact .str _
 | fI=>intro v hv;have hv:aW E.w E.PA E.PF .fI v:=hv;cases hv;exact .fI
 | fY=>intro v hv;have hv:aW E.w E.PA E.PF .fY v:=hv;cases hv;exact .fY
 | aV rows full de hw=>
  intro v hv
  have hv:aW E.w E.PA E.PF (.aV rows full true) v:=hv
  cases hv with
  | aV eU e1 fG cd dQ hrel=>exact .aV (fun c hc=>by have:=eU c hc;simp at this ⊢;exact .inl this) e1 (fun h=>fG (hw h)) cd dQ hrel
 | F4 full fr de hw=>
  intro v hv
  have hv:aW E.w E.PA E.PF (.aV [] full fr) v:=hv
  cases hv with
  | aV eU e1 fG cd dQ hrel=>exact aW.aV (rows:=[]) (PB:=fun _=>False) (sz:=0) (vs:=fun _ _=>undef) (fun _ h=>h.elim) e1 (fun h=>fG (hw h)) (fun i row h=>by simp at h) (fun h=>by simp at h) (fun i j row a h=>by simp at h)
 | @ref b g off n full de blk jj EV aw hb aQ ao h9 aG aE av hc bE=>
  intro v hv
  have ju:=aB.eI b blk hb
  rcases(show ez E (.ref b g off n full) v from hv) with⟨bD,_⟩ | ⟨fT,bD⟩
  ·omega
  ·rcases bD with⟨_,_,lk,A,rfl⟩ | ⟨c,cap,hm,rfl,nK,ov,pk⟩
   ·subst lk
    obtain rfl:jj=[]:=List.eq_nil_of_length_eq_zero ao
    exact aW.aV (rows:=[]) (PB:=fun _=>False) (sz:=0) (vs:=fun _ _=>undef) (fun _ h=>h.elim) ⟨Nat.le_refl _,Nat.zero_le _⟩ (fun _=>rfl) (fun i row h=>by simp at h) (fun h=>by simp at h) (fun i j row a h=>by simp at h)
   ·obtain⟨blk',uH,ty,q1,b5,hw,jX,hlen,fW⟩:=aB.heap b c hm
    obtain rfl:blk=blk':=by rw[hb] at q1;exact Option.some.inj q1
    subst ao
    have eO: ∀i,i<jj.length→ ∃row,blk.rows[off+i]?=some row:=fun i hi=>⟨_,List.getElem?_eq_getElem (by omega)⟩
    refine aW.aV (PB:=fun c=>E.PF c∨E.fk c) (sz:=E.sz b) (vs:=fun i j=>(uH[(off+i)*E.sz b+j]?).getD undef) (fun c hc=>by simpa using hc) ⟨nK,h9⟩ (fun h=>ov (EV h))
     (fun i row' eJ=> ?_) (fun kD=>⟨c,off*E.sz b,rfl,.inr ⟨b,hm⟩,fun i j hi ap=> ?_⟩) (fun i j row' a eJ ap=> ?_)
    ·obtain⟨row,ia⟩:=eO i (List.getElem?_eq_some_iff.1 eJ).1
     rw[←aE i row row' ia eJ];exact fW.1 _ row ia
    ·obtain⟨row,ia⟩:=eO i hi
     have aX:j<row.length:=by rw[fW.1 _ row ia];exact ap
     obtain⟨u,hu,_⟩:=fW.2 (off+i) j row _ ia (List.getElem?_eq_getElem aX)
     rw[show off*E.sz b+(i*E.sz b+j)=(off+i)*E.sz b+j by rw[Nat.add_mul];omega,cell_of hw hu,hu];rfl
    ·have hi:=(List.getElem?_eq_some_iff.1 eJ).1
     obtain⟨row,ia⟩:=eO i hi
     have aX:j<row.length:=by rw[aE i row row' ia eJ];exact(List.getElem?_eq_some_iff.1 ap).1
     obtain⟨u,hu,gA⟩:=fW.2 (off+i) j row _ ia (List.getElem?_eq_getElem aX)
     have h1:=bE i j row _ hi ia (List.getElem?_eq_getElem aX) gA.up
     have h2:=acR (av i j row _ hi ia (List.getElem?_eq_getElem aX))
     rw[hu,hc i j row' a eJ ap]
     exact H0 h2 h1 (fun c hc=>hc) (fun c hc=>hc)
def bg (P:Program) (f:FuncId) (args:List AV) (t:AV):Prop:=dw P f args [] fun r eL=>jQ eL r t
theorem IZ {P:Program} {f:FuncId} {args dH:List AV} {t:AV} {L jO:List (Nat×List AV)} {H eL:List Blk} {E:Env} {vs:List Value} (sub:Sub L H jO eL) (aB:SimH E eL) (bN:SimL E jO)
  (aF:aO (V2 E) args vs) (hs:aO (ey L H) args dH) (h:bg P f dH t):
  Calls P f vs.toArray E.w fun e w'=> ∃v E',e= .returned v∧E'.w=w'∧kS E E'∧V3 E' t v:=by
 have sN:aO (V2 E.frozen) dH vs:=⟨hs.1▸aF.1,fun i x u hx hu=>by
  have aX:i<args.length:=by have:=(List.getElem?_eq_some_iff.1 hx).1;have:=hs.1;omega
  have aE:=List.getElem?_eq_getElem aX
  exact Pu sub aB bN (hs.2 i _ x aE hx) (aF.2 i _ u aE hu)⟩
 refine(h.2 E.frozen vs (fun _=>rfl) (JX aB) sN).mono ?_
 rintro e w' ⟨r,v,H',E1,rfl,av,rfl,ao,eB,hv,a8⟩
 let N:Nat→Prop:=fun c=>E1.PF c∨E1.fk c
 have iH: ∀c,N c→E.w.heap.size≤c∧c<E1.w.heap.size:=by
  rintro c (hc | hc)
  ·exact⟨(a8.e9 c hc).elim (fun h=>h.elim) id,eB.dy c (eB.dr c hc)⟩
  ·exact⟨(a8.nL c hc).elim (fun⟨b,hb⟩=>by cases hb) id,eB.fl c hc⟩
 have lU: ∀c,c<E.w.heap.size→E1.w.heap[c]?=E.w.heap[c]?:=fun c hc=>a8.cT c hc (fun⟨b,hb⟩=>by cases hb) (fun⟨b,hb⟩=>by cases hb)
 let E':Env:={E with w:=E1.w,PA:=fun c=>E.PA c∨N c,PF:=fun c=>E.PF c∨N c}
 have af:kS E E':=
  {step:=⟨⟨fun c hc=> .inl hc,fun c hc=> .inl hc,fun c hc=>lU c (aB.dy c hc),fun c hc=>lU c (aB.dy c (aB.dr c hc)),fun _=>Nat.le_refl _,fun _ _ h _=>⟨h,rfl,rfl⟩,fun _ _ h=>h⟩,
    a8.os,a8.tape,a8.output,a8.size,fun c hc _ _=>lU c hc,fun _ _ h=> .inl h,fun _ h=> .inl h,fun c hc=>hc.elim .inl (fun h=> .inr (iH c h).1),fun c hc=>hc.elim .inl (fun h=> .inr (iH c h).1)⟩
   m:=rfl,mL:=rfl,bi:=rfl,sz:=rfl,cp:=rfl
   cT:=lU
   fo:=fun c hc=>hc.elim .inl (fun h=> .inr (iH c h))
   dr:=fun c hc=>hc.elim (fun h=> .inl (aB.dr c h)) .inr
   fh:=fun c hc=>hc.elim (fun h=>(aB.fh c h).same (lU c (aB.dy c (aB.dr c h)))) (fun h=>by
    rcases h with h | ⟨b,hb⟩
    ·exact eB.fh c h
    ·obtain⟨_,aw,ty,_,_,q,_⟩:=eB.heap b c hb
     exact⟨aw,ty,q⟩)}
 have up: ∀{b:AV} {u:Value},aW E1.w N N b u→b1 E' b u:=fun h=>aW.v1 (E:=E') (h.mono (fun _ _=>rfl) (fun _ _=>rfl) (fun c hc=> .inr hc) (fun c hc=> .inr hc))
 have cZ: ∀{a b:AV} {u:Value},ft H' a b→b1 E1 a u→b1 E' b u:=fun aF hu=>up (Pw eB aF hu)
 have dg: ∀{a b:AV} {u:Value},rj H' a b→V2 E1 a u→V2 E' b u:=by
  rintro a b u (⟨l,eK,rfl,rfl,ai⟩ | h) hu
  ·obtain⟨ew,rfl,af⟩:=hu
   refine⟨ew,rfl,ai.1▸af.1,fun i x y hx ba=> ?_⟩
   have aX:i<l.length:=by have:=(List.getElem?_eq_some_iff.1 hx).1;have:=ai.1;omega
   have aE:=List.getElem?_eq_getElem aX
   exact cZ (ai.2 i _ x aE hx) (af.2 i _ y aE ba)
  ·have:b1 E1 a u:=by cases h<;>exact hu
   exact jp (cZ h this)
 have fK: ∀{a b:AV} {u:Value},jQ H' a b→V3 E1 a u→V3 E' b u:=by
  rintro a b u (⟨l,eK,rfl,rfl,ai⟩ | h) hu
  ·obtain⟨ew,rfl,af⟩:=hu
   refine⟨ew,rfl,ai.1▸af.1,fun i x y hx ba=> ?_⟩
   have aX:i<l.length:=by have:=(List.getElem?_eq_some_iff.1 hx).1;have:=ai.1;omega
   have aE:=List.getElem?_eq_getElem aX
   exact dg (ai.2 i _ x aE hx) (af.2 i _ y aE ba)
  ·have:V2 E1 a u:=by
    rcases h with⟨l,eK,rfl,rfl,ai⟩ | h
    ·exact hu
    ·cases h<;>exact hu
   exact o6 (dg h this)
 exact⟨v,E',rfl,rfl,af,fK av hv⟩
def CS:AV→Bool
 | .agg _ | .tup _ | .fn _ _=>false
 | _=>true
def x5 (fn:Fn) (first:Array Operand) (caps:List AV) (K:AV→Prop):Prop:=match fn with
 | .func f=>if first.isEmpty=true∧caps.all CS=true then K (.fn f caps) else False
 | _=>False
def et:AV→Bool
 | .tup _=>false
 | _=>true
def kW (x:AV) (K:FuncId→List AV→Prop):Prop:=match x with
 | .fn f caps=>K f caps
 | _=>False
def nD (P:Program) (f:FuncId) (args:List AV) (L:List (Nat×List AV)) (H:List Blk) (K:AV→Prop):Prop:=
 args.all et=true∧ ∃dH t,aO (ey L H) args dH∧bg P f dH t∧K t
def DF (P:Program) (c:Call) (bF:Operand→AV) (L:List (Nat×List AV)) (H:List Blk) (K:AV→Prop):Prop:=match c.callee with
 | .builtin .len=>(match c.args.toList,c.argTypes.toList with
  | [x],[t]=>eu (jd P t (bF x)) (qJ (bF x) K)
  | _,_=>False)
 | .value f=>kW (bF f) fun g caps=>nD P g (c.args.toList.map bF++caps) L H K
 | _=>False
def ru (P:Program) (o:Oper) (bF:Operand→AV) (L:List (Nat×List AV)) (H:List Blk) (K:AV→Prop):Prop:=match o.op with
 | .move x=>K (bF x)
 | .assign x=>K (bF x)
 | .pick c a b=>nC (bF c) fun z=>wW z (K (bF a)) (K (bF b))
 | .build t ps=>eu (ps.toList.all fun p=>et (bF p.2)) (CP P t (ps.toList.map fun p=>(p.1,bF p.2)) K)
 | .buildSlice t n ps=>eu (ps.toList.all fun p=>et (bF p.2)) (uF P t n (ps.toList.map fun p=>(p.1,bF p.2)) K)
 | .load t a=>nN P t (bF a) L H K
 | .nilCheck x=>Gd (bF x) K
 | .binOp op t x y _=>rl P op t (bF x) (bF y) (pz y) K
 | .unOp op _ x=>Ca op (bF x) K
 | .convert s d x=>Dk P s d (bF x) K
 | .makeFunc fn first caps=>x5 fn first (caps.toList.map bF) K
 | .fieldAddr t x f=>DL P t (bF x) f K
 | .indexAddr t x i=>vm P t (bF x) (bF i) H K
 | .index t x i=>E6 P t (bF x) (bF i) K
 | .slice t x lo hi mx=>(match mx with
  | none=>tR P t (bF x) (lo.map bF) (hi.map bF) H K
  | some _=>False)
 | .extract x i=>DH (bF x) i K
 | .call c=>DF P c bF L H K
 | _=>False
theorem H3 {P:Program} {o:Oper} {a:Act} {next:Act→World→Prop} {Q:Exit→Act→World→Prop} {s:Sem Value} {w w':World} {u:Value} (h:s.run P w= .ok u w') (k:next (a.put o.dst u) w'):
  o.upon P a next Q ((do pure (Next.value (←s)):Sem Next).run P w):=by
 rw[Sem.run_bind,h];exact k
theorem parts_eq (ps:Array (Nat×Operand)) (a:Act):(ps.toList.map fun p=>(p.1,a.eval p.2)).toArray=ps.map fun(i,x)=>(i,a.eval x):=by
 apply Array.ext'
 rw[Array.toList_map]
theorem Gl {E:Env} {a:Act} {T:List AV} (cc: ∀t,V3 E (T.getD t .undef) (a.tmps.getD t undef)) (ps:List (Nat×Operand)) (ao: ∀p∈ps,∀l,cb T p.2≠ .tup l):
  aO (fun(x:Nat×AV) (y:Nat×Value)=>x.1=y.1∧V2 E x.2 y.2) (ps.map fun p=>(p.1,cb T p.2)) (ps.map fun p=>(p.1,a.eval p.2)):=by
 refine⟨by simp,fun i x y hx ba=> ?_⟩
 rw[List.getElem?_map] at hx ba
 cases ai:ps[i]? with
 | none=>simp[ai] at hx
 | some p=>
  simp[ai] at hx ba
  subst hx;subst ba
  refine⟨rfl,?_⟩
  have:=opv_rel cc p.2
  rwa [nz (ao p (List.mem_of_getElem? ai))] at this
theorem IE {E:Env} {a:Act} {T:List AV} (cc: ∀t,V3 E (T.getD t .undef) (a.tmps.getD t undef)) (xs:List Operand) (ao: ∀x∈xs,∀l,cb T x≠ .tup l):
  aO (V2 E) (xs.map (cb T)) (xs.map a.eval):=by
 refine⟨by simp,fun i x y hx ba=> ?_⟩
 rw[List.getElem?_map] at hx ba
 cases ai:xs[i]? with
 | none=>simp[ai] at hx
 | some p=>
  simp[ai] at hx ba
  subst hx;subst ba
  have:=opv_rel cc p
  rwa [nz (ao p (List.mem_of_getElem? ai))] at this
theorem vB {a:AV} (h:et a=true): ∀l,a≠ .tup l:=by
 intro l e;subst e;cases h
theorem NX {E:Env} {a:Act} {T:List AV} (cc: ∀t,V3 E (T.getD t .undef) (a.tmps.getD t undef)) (x:Option Operand):
  ze E (x.map (cb T)) (x.map a.eval):=by
 cases x with
 | none=>trivial
 | some x=>exact opv_rel cc x
theorem I0 {E:Env} {a:Act} {T:List AV} (cc: ∀t,V3 E (T.getD t .undef) (a.tmps.getD t undef)) {f:Operand} {g:FuncId} {caps:List AV} (h:cb T f= .fn g caps):
  ∃vs:List Value,a.eval f= .func (.func g) #[] vs.toArray∧aO (V2 E) caps vs:=by
 have:=opv_rel cc f
 rw[h] at this
 obtain⟨vs,e,ai⟩:=(show ∃vs:List Value,a.eval f= .func (.func g) #[] vs.toArray∧aO (ez E) caps vs from this)
 exact⟨vs,e,ai.mono fun _ _ k=>jp (Cz k)⟩
theorem abR {P:Program} {f:FuncId} {w:World} {args:Array Value} (h:r5 P f=true):(callFunc f args).run P w= .ok (.enter f args) w:=by
 unfold r5 at h
 cases hf:P.funcs[f]? with
 | none=>simp[hf] at h
 | some fn=>
  simp[hf] at h
  obtain⟨h1,h2⟩:=h
  simp[callFunc,hf,h1]
  cases hb:fn.body with
  | none=>simp[hb] at h2
  | some c=>intro bD;cases bD
theorem OW {P:Program} {c:Call} {a:Act} {ty:TypeId} {f:Operand} {g:FuncId} {vs:List Value} {w:World} (hc:c.callee= .value f) (hf:a.eval f= .func (.func g) #[] vs.toArray) (h:r5 P g=true):
  (do let d ←resolve a.eval c ty;invoke d.target d.args:Sem Next).run P w= .ok (.enter g (c.args.toList.map a.eval++vs).toArray) w:=by
 unfold resolve
 rw[hc]
 simp only[hf,Deferred.ofValue,Sem.run_bind,Sem.run_pure,Result.andThen_ok,invoke]
 rw[abR h]
 simp
def wP (E:Env) (o:Oper) (a:Act) (K:AV→Prop):Act→World→Prop:=fun gk w'=> ∃v ec E',K v∧E'.w=w'∧kS E E'∧V3 E' v ec∧gk=a.put o.dst ec
set_option maxHeartbeats 4000000 in
theorem JC {P:Program} {o:Oper} {a:Act} {T:List AV} {E:Env} {L jO:List (Nat×List AV)} {H eL:List Blk} {K:AV→Prop} {Q:Exit→Act→World→Prop}
  (cc: ∀t,V3 E (T.getD t .undef) (a.tmps.getD t undef)) (sub:Sub L H jO eL) (aB:SimH E eL) (bN:SimL E jO) (h:ru P o (cb T) L H K):o.wp P a E.w (wP E o a K) Q:=by
 have fin: ∀{s:Sem Value},(execOp a.eval o=(do pure (Next.value (←s))))→(∃r u E',K r∧s.run P E.w= .ok u E'.w∧kS E E'∧V3 E' r u)→o.wp P a E.w (wP E o a K) Q:=by
  rintro s hs ⟨r,u,E',hK,av,af,hv⟩
  unfold Oper.wp
  rw[hs]
  exact H3 av ⟨r,u,E',hK,rfl,af,hv,rfl⟩
 have og: ∀{s:Sem Value},(execOp a.eval o=(do pure (Next.value (←s))))→(∃r u,K r∧s.run P E.w= .ok u E.w∧V3 E r u)→o.wp P a E.w (wP E o a K) Q:=by
  rintro s hs ⟨r,u,hK,av,hv⟩
  exact fin hs ⟨r,u,E,hK,av,kS.refl aB,hv⟩
 have x6: ∀x,execOp a.eval o=pure (.value (a.eval x))→K (cb T x)→o.wp P a E.w (wP E o a K) Q:=by
  intro x hs hK
  unfold Oper.wp
  rw[hs]
  exact⟨_,_,E,hK,rfl,kS.refl aB,opv_rel cc x,rfl⟩
 obtain⟨dst,op,ty,pos,after,guard⟩:=o
 cases op with
 | move x=>exact x6 x rfl h
 | assign x=>exact x6 x rfl h
 | pick c x y=>
  obtain⟨b,hb,h1,h2⟩:=zo (show nC (cb T c) fun z=>wW z (K (cb T x)) (K (cb T y)) from h)
  have hv:=opv_rel cc c
  rw[hb] at hv
  have he:a.eval c= .bool b:=V3.mS hv
  cases b with
  | true=>exact x6 x (by simp[execOp,he,asBool]) (h1 rfl)
  | false=>exact x6 y (by simp[execOp,he,asBool]) (h2 rfl)
 | build t ps=>
  obtain⟨ao,h⟩:=oI h
  have:=Sh (P:=P) (Gl cc ps.toList fun p ai=>vB (List.all_eq_true.1 ao p ai)) h
  exact og (s:=Instr.build t (ps.toList.map fun p=>(p.1,a.eval p.2)).toArray) (by rw[parts_eq];rfl) this
 | buildSlice t n ps=>
  obtain⟨ao,h⟩:=oI h
  have:=IT (P:=P) aB (Gl cc ps.toList fun p ai=>vB (List.all_eq_true.1 ao p ai)) h
  exact fin (s:=Instr.buildSlice t n (ps.toList.map fun p=>(p.1,a.eval p.2)).toArray) (by rw[parts_eq];rfl) this
 | load t x=>
  obtain⟨r,u,hK,av,hv⟩:=Nd sub aB bN (opv_rel cc x) h
  exact og (s:=Instr.loadAt t (a.eval x)) rfl ⟨r,u,hK,av,o6 hv⟩
 | nilCheck x=>
  have hx:=opv_rel cc x
  have h:Gd (cb T x) K:=h
  have key: ∀kT,a.eval x= .pointer (some kT)→K (cb T x)→Oper.wp P ⟨dst,.nilCheck x,ty,pos,after,guard⟩ a E.w (wP E ⟨dst,.nilCheck x,ty,pos,after,guard⟩ a K) Q:=by
   intro kT he hK
   exact x6 x (by simp[execOp,he]) hK
  cases hn:cb T x with
  | e7 s c=>
   rw[hn] at hx h
   obtain⟨bl,_,e⟩:=hx.x0
   exact key _ e (by rw[hn];exact h)
  | ptr b g r c=>
   rw[hn] at hx h
   rcases(show ez E (.ptr b g r c) _ from hx) with⟨_,bl,o,e⟩ | ⟨_,bl,_,e⟩<;>exact key _ e (by rw[hn];exact h)
  | da cells c=>
   rw[hn] at hx h
   have iJ:aW E.w E.PA E.PF (.da cells c) (a.eval x):=hx
   generalize hv:a.eval x=v at iJ
   cases iJ;exact key _ hv (by rw[hn];exact h)
  | _=>rw[hn] at h;exact h.elim
 | binOp op t x y ty2=>
  have E0:pz y=true→a.eval y= .slice none 0 0:=by
   intro bD
   unfold pz at bD
   split at bD
   ·rfl
   ·cases bD
  exact og (s:=do eqGuard op t x y (a.eval x) (a.eval y);binOp op t (a.eval x) (a.eval y)) rfl (R5 (opv_rel cc x) (opv_rel cc y) E0 h)
 | unOp op t x=>exact og (s:=Op.unary op (a.eval x)) rfl (aek (opv_rel cc x) h)
 | convert s d x=>exact og (s:=Go.convert s d (a.eval x)) rfl (S_ (opv_rel cc x) h)
 | makeFunc fn first caps=>
  replace h:x5 fn first (caps.toList.map (cb T)) K:=h
  cases fn with
  | func f=>
   replace h:if first.isEmpty=true∧(caps.toList.map (cb T)).all CS=true then K (.fn f (caps.toList.map (cb T))) else False:=h
   split at h
   ·rename_i hc
    obtain⟨h1,h2⟩:=hc
    have hf:first= #[]:=by simpa using h1
    subst hf
    refine og (s:=Instr.makeFunc (.func f) (Array.map a.eval #[]) (caps.map a.eval)) rfl ⟨_,.func (.func f) #[] (caps.map a.eval),h,by simp[Instr.makeFunc],(caps.toList.map a.eval),by rw[←Array.toList_map,Array.toArray_toList],by simp,fun i x y hx ba=> ?_⟩
    rw[List.getElem?_map] at hx ba
    cases ai:caps.toList[i]? with
    | none=>simp[ai] at hx
    | some p=>
     simp[ai] at hx ba
     subst hx;subst ba
     have hv:=opv_rel cc p
     have fj:CS (cb T p)=true:=List.all_eq_true.1 h2 _ (List.mem_map.2 ⟨p,List.mem_of_getElem? ai,rfl⟩)
     cases af:cb T p<;>rw[af] at hv fj<;>first | exact hv | cases fj
   ·exact h.elim
  | _=>exact h.elim
 | fieldAddr t x f=>exact og (s:=Instr.fieldAt t (a.eval x) f) rfl (TE (opv_rel cc x) h)
 | indexAddr t x i=>exact og (s:=Instr.indexAt t (a.eval x) (a.eval i)) rfl (WC sub aB (opv_rel cc x) (opv_rel cc i) h)
 | index t x i=>exact og (s:=Instr.index t (a.eval x) (a.eval i)) rfl (WM (opv_rel cc x) (opv_rel cc i) h)
 | slice t x lo hi mx=>
  cases mx with
  | none=>exact og (s:=Instr.sliceAt t (a.eval x) (lo.map a.eval) (hi.map a.eval) none) rfl (ach sub aB (opv_rel cc x) (NX cc lo) (NX cc hi) h)
  | some m=>exact h.elim
 | extract x i=>exact og (s:=Instr.extract (a.eval x) i) rfl (Tz (opv_rel cc x) h)
 | call c=>
  have h:DF P c (cb T) L H K:=h
  obtain⟨callee,args,argTypes⟩:=c
  cases callee with
  | builtin b=>
   cases b with
   | len=>
    have h:(match args.toList,argTypes.toList with
     | [x],[t]=>eu (jd P t (cb T x)) (qJ (cb T x) K)
     | _,_=>False):=h
    split at h
    ·rename_i x t h1 h2
     obtain⟨VU,VV⟩:=oI h
     obtain rfl:args= #[x]:=by rw[←Array.toArray_toList (xs:=args),h1]
     obtain rfl:argTypes= #[t]:=by rw[←Array.toArray_toList (xs:=argTypes),h2]
     obtain⟨r,u,hK,av,hv⟩:=ZC (P:=P) (ty:=ty) (opv_rel cc x) VU VV
     unfold Oper.wp
     have:(execOp a.eval ⟨dst,.call ⟨.builtin .len,#[x],#[t]⟩,ty,pos,after,guard⟩).run P E.w= .ok (.value u) E.w:=by
      simp only[execOp,resolve,Sem.run_bind,Sem.run_pure,Result.andThen_ok,invoke,builtin]
      have e:Array.map a.eval #[x]= #[a.eval x]:=by simp
      rw[e,av];rfl
     rw[this]
     exact⟨r,u,E,hK,rfl,kS.refl aB,hv,rfl⟩
    ·exact h.elim
   | _=>exact h.elim
  | value f=>
   have h:kW (cb T f) fun g caps=>nD P g (args.toList.map (cb T)++caps) L H K:=h
   cases hf:cb T f with
   | fn g caps=>
    rw[hf] at h
    obtain⟨ao,dH,t,hs,ow,hK⟩:=(show nD P g (args.toList.map (cb T)++caps) L H K from h)
    obtain⟨vs,he,ql⟩:=I0 cc hf
    unfold Oper.wp
    rw[show execOp a.eval ⟨dst,.call ⟨.value f,args,argTypes⟩,ty,pos,after,guard⟩=(do let d ←resolve a.eval ⟨.value f,args,argTypes⟩ ty;invoke d.target d.args) from rfl]
    rw[OW (P:=P) (ty:=ty) (w:=E.w) (c:=⟨.value f,args,argTypes⟩) rfl he ow.1]
    have Ed:aO (V2 E) (args.toList.map (cb T)++caps) (args.toList.map a.eval++vs):=
     aO.append (IE cc args.toList fun x hx=>vB (List.all_eq_true.1 ao _ (by simp;exact .inl ⟨x,by simpa using hx,rfl⟩))) ql
    refine(IZ sub aB bN Ed hs ow).mono ?_
    rintro e w' ⟨v,E',rfl,rfl,af,hv⟩
    exact⟨t,v,E',hK,rfl,af,hv,rfl⟩
   | _=>rw[hf] at h;exact h.elim
  | _=>exact h.elim
 | _=>exact h.elim
theorem Tf (w:World) (o:Obj) (c:Nat) (h:c<w.heap.size):(w.drew.alloc o).heap[c]?=w.heap[c]?:=p5 w.drew o c h
structure mg (w w':World) (o:Obj):Prop where
 os:w'.os=w.os
 tape:w'.tape=w.tape
 output:w'.output=w.output
 size:w'.heap.size=w.heap.size+1
 jg: ∀c,c<w.heap.size→w'.heap[c]?=w.heap[c]?
 new:w'.heap[w.heap.size]?=some o
theorem mg.alloc (w:World) (o:Obj):mg w (w.alloc o) o:=⟨rfl,rfl,rfl,by simp,fun c hc=>p5 w o c hc,nA w o⟩
theorem mg.Te (w:World) (o:Obj):mg w (w.drew.alloc o) o:=⟨rfl,rfl,rfl,by simp,fun c hc=>Tf w o c hc,nA w.drew o⟩
theorem SimH.ext {E:Env} {H H':List Blk} (h:SimH E H) (hs: ∀(b:Nat) (blk:Blk),H[b]?=some blk→H'[b]?=some blk) (aE:H.length≤H'.length) (aQ: ∀(b:Nat) (blk:Blk),H.length≤b→H'[b]?=some blk→blk.bi=0):SimH E H':=
 {h with
  heap:=fun b c hb=>by
   obtain⟨blk,aw,ty,q1,q⟩:=h.heap b c hb
   exact⟨blk,aw,ty,hs b blk q1,q⟩
  eI:=fun b blk hb=>by
   rcases Nat.lt_or_ge b H.length with aX | fT
   ·have h1:=List.getElem?_eq_getElem aX
    have h2:=hs b _ h1
    rw[hb] at h2
    cases h2
    exact h.eI b _ h1
   ·rw[(h.fresh b fT).2,aQ b blk fT hb]
  gQ:=fun b hb=>by
   obtain⟨blk,q1,q⟩:=h.gQ b hb
   exact⟨blk,hs b blk q1,q⟩
  fresh:=fun b hb=>h.fresh b (Nat.le_trans aE hb)}
theorem SimH.snoc {E:Env} {H:List Blk} (h:SimH E H) {blk:Blk} (aQ:blk.bi=0):SimH E (H++[blk]):=
 h.ext (fun b x hb=>by rw[List.getElem?_append_left (List.getElem?_eq_some_iff.1 hb).1];exact hb) (by simp) (fun b x hb hx=>by
  rw[List.getElem?_append_right hb] at hx
  have:b - H.length=0:=by
   rcases Nat.eq_zero_or_pos (b - H.length) with q | q
   ·exact q
   ·rw[List.getElem?_eq_none (by simp;omega)] at hx;cases hx
  rw[this] at hx;cases hx;exact aQ)
theorem SimL.cons {E:Env} {L:List (Nat×List AV)} (h:SimL E L) {t:Nat} {cells:List AV} (ao:E.mL t=none):SimL E ((t,cells)::L):=fun s c hm=>by
 have:s≠t:=fun e=>by subst e;rw[ao] at hm;cases hm
 simp only[dZ,if_neg this]
 exact h s c hm
theorem NF {E:Env} {H:List Blk} {L:List (Nat×List AV)} {w':World} {aw:Array Value} {ty:TypeId} {t:Nat} {cells:List AV} (aB:SimH E H) (bN:SimL E L) (hw:mg E.w w' (.cells aw ty (0,0)))
  (bn:dZ L t=some cells) (hm:E.mL t=none) (hc:aO (b1 E.b0) cells aw.toList):
  ∃E',E'.w=w'∧Step E E'∧SimH E' H∧SimL E' L∧V3 E' (.e7 t 0) (.pointer (some ⟨E.w.heap.size,0,none⟩))∧E'.m=E.m∧(∀s,s≠t→E'.mL s=E.mL s):=by
 let E':Env:={E with w:=w',mL:=fun s=>if s=t then some E.w.heap.size else E.mL s}
 have a8:Step E E':=
  {le:=⟨fun _ h=>h,fun _ h=>h,fun c hc=>hw.jg c (aB.dy c hc),fun c hc=>hw.jg c (aB.dy c (aB.dr c hc)),fun _=>Nat.le_refl _,fun _ _ h _=>⟨h,rfl,rfl⟩,fun s c h=>by
    show(if s=t then _ else _)=_
    rw[if_neg (fun e=>by subst e;rw[hm] at h;cases h)];exact h⟩
   os:=hw.os,tape:=hw.tape,output:=hw.output
   size:=by show E.w.heap.size≤w'.heap.size;rw[hw.size];omega
   cT:=fun c hc _ _=>hw.jg c hc
   iu:=fun _ _ h=> .inl h
   iK:=fun c ⟨s,hs⟩=>by
    have hs:(if s=t then some E.w.heap.size else E.mL s)=some c:=hs
    split at hs
    ·cases hs;exact .inr (Nat.le_refl _)
    ·exact .inl ⟨s,hs⟩
   fo:=fun _ h=> .inl h
   e9:=fun _ h=> .inl h}
 have hml: ∀s c,E'.mL s=some c→(s=t∧c=E.w.heap.size)∨(s≠t∧E.mL s=some c):=by
  intro s c hs
  have hs:(if s=t then some E.w.heap.size else E.mL s)=some c:=hs
  split at hs
  ·rename_i e;cases hs;exact .inl ⟨e,rfl⟩
  ·rename_i e;exact .inr ⟨e,hs⟩
 have jw:=aB.fl
 have jx:=aB.gf
 refine⟨E',rfl,a8,?_,?_,⟨E.w.heap.size,by show(if t=t then _ else _)=_;rw[if_pos rfl],rfl⟩,rfl,fun s hs=>if_neg hs⟩
 ·exact{
   heap:=fun b c hb=>by
    obtain⟨blk,bX,hC,q1,b5,q2,q3,q4,cW,cO⟩:=aB.heap b c hb
    refine⟨blk,bX,hC,q1,b5,?_,q3,q4,cW,fun i j row a av ap=> ?_⟩
    ·show w'.heap[c]?=_;rw[hw.jg c (jw c ⟨b,hb⟩)];exact q2
    ·obtain⟨u,hu,eJ⟩:=cO i j row a av ap
     exact⟨u,hu,eJ.le a8.le.b0⟩
   eI:=aB.eI
   gQ:=aB.gQ
   fresh:=aB.fresh
   gF:=aB.gF
   iL:=fun s s' c h1 h2=>by
    rcases hml s c h1 with⟨d1,aR⟩ | ⟨_,dA⟩<;>rcases hml s' c h2 with⟨d2,e2⟩ | ⟨_,hp⟩
    ·rw[d1,d2]
    ·have:=jx c ⟨s',hp⟩;omega
    ·have:=jx c ⟨s,dA⟩;omega
    ·exact aB.iL s s' c dA hp
   gn:=fun b s c h1 h2=>by
    rcases hml s c h2 with⟨rfl,rfl⟩ | ⟨_,h2⟩
    ·have:=jw _ ⟨b,h1⟩;omega
    ·exact aB.gn b s c h1 h2
   hq:=aB.hq
   hN:=fun c hc ⟨s,hs⟩=>by
    rcases hml s c hs with⟨rfl,rfl⟩ | ⟨_,hs⟩
    ·have:=aB.dy _ hc;omega
    ·exact aB.hN c hc ⟨s,hs⟩
   dr:=aB.dr
   fh:=fun c hc=>(aB.fh c hc).same (hw.jg c (aB.dy c (aB.dr c hc)))
   dy:=fun c hc=>Nat.lt_of_lt_of_le (aB.dy c hc) a8.size
   fl:=fun c hc=>Nat.lt_of_lt_of_le (jw c hc) a8.size
   gf:=fun c ⟨s,hs⟩=>by
    rcases hml s c hs with⟨rfl,rfl⟩ | ⟨_,hs⟩
    ·show _<w'.heap.size;rw[hw.size];omega
    ·exact Nat.lt_of_lt_of_le (jx c ⟨s,hs⟩) a8.size}
 ·intro s c hs
  rcases hml s c hs with⟨rfl,rfl⟩ | ⟨_,hs⟩
  ·exact⟨cells,aw,ty,bn,hw.new,hc.mono fun _ _ k=>k.le a8.le.b0⟩
  ·obtain⟨gw,bX,hC,q1,q2,q3⟩:=bN s c hs
   exact⟨gw,bX,hC,q1,by show w'.heap[c]?=_;rw[hw.jg c (jx c ⟨s,hs⟩)];exact q2,q3.mono fun _ _ k=>k.le a8.le.b0⟩
theorem vy {E:Env} {H H':List Blk} {L:List (Nat×List AV)} {w':World} {aw:Array Value} {ty:TypeId} {b cap:Nat} {blk:Blk} (aB:SimH E H) (bN:SimL E L) (hw:mg E.w w' (.cells aw ty (0,0)))
  (hb:H'[b]?=some blk) (aG: ∀bT,bT≠b→H'[bT]?=H[bT]?) (hlen:b<H.length→H'.length=H.length) (Ax:H.length≤H'.length)
  (ju:(E.m b=none∧blk.bi=E.bi b)∨E.bi b<blk.bi) (jX:aw.size=cap*blk.sz) (e1:blk.rows.length≤cap)
  (av:uq E blk.sz blk.rows aw):
  ∃E',E'.w=w'∧Step E E'∧SimH E' H'∧SimL E' L∧E'.bi b=blk.bi∧E'.m b=some (some E.w.heap.size)∧E'.sz b=blk.sz∧E'.cp b=cap∧(∀bT,bT≠b→E'.m bT=E.m bT)∧E'.mL=E.mL:=by
 let E':Env:={E with w:=w',m:=fun bT=>if bT=b then some (some E.w.heap.size) else E.m bT,bi:=fun bT=>if bT=b then blk.bi else E.bi bT,sz:=fun bT=>if bT=b then blk.sz else E.sz bT,cp:=fun bT=>if bT=b then cap else E.cp bT}
 have a8:Step E E':=
  {le:=⟨fun _ h=>h,fun _ h=>h,fun c hc=>hw.jg c (aB.dy c hc),fun c hc=>hw.jg c (aB.dy c (aB.dr c hc)),fun bT=>by
     show _≤(if bT=b then _ else _)
     split
     ·rename_i e;subst e;rcases ju with⟨_,e⟩ | e<;>omega
     ·exact Nat.le_refl _,fun bT x hx aQ=>by
     have ox:(if bT=b then blk.bi else E.bi bT)=E.bi bT:=aQ
     have bY:bT≠b:=fun e=>by
      subst e
      rw[if_pos rfl] at ox
      rcases ju with⟨ao,_⟩ | e
      ·rw[ao] at hx;cases hx
      ·omega
     refine⟨?_,?_,?_⟩
     ·show(if bT=b then _ else _)=_;rw[if_neg bY];exact hx
     ·show(if bT=b then _ else _)=_;rw[if_neg bY]
     ·show(if bT=b then _ else _)=_;rw[if_neg bY],fun _ _ h=>h⟩
   os:=hw.os,tape:=hw.tape,output:=hw.output
   size:=by show E.w.heap.size≤w'.heap.size;rw[hw.size];omega
   cT:=fun c hc _ _=>hw.jg c hc
   iu:=fun s c hs=>by
    have hs:(if s=b then some (some E.w.heap.size) else E.m s)=some (some c):=hs
    split at hs
    ·cases hs;exact .inr (Nat.le_refl _)
    ·exact .inl hs
   iK:=fun _ h=> .inl h
   fo:=fun _ h=> .inl h
   e9:=fun _ h=> .inl h}
 have hm: ∀s c,E'.m s=some (some c)→(s=b∧c=E.w.heap.size)∨(s≠b∧E.m s=some (some c)):=by
  intro s c hs
  have hs:(if s=b then some (some E.w.heap.size) else E.m s)=some (some c):=hs
  split at hs
  ·rename_i e;cases hs;exact .inl ⟨e,rfl⟩
  ·rename_i e;exact .inr ⟨e,hs⟩
 have jw:=aB.fl
 have jx:=aB.gf
 have cd: ∀s,s≠b→E'.sz s=E.sz s:=fun s hs=>if_neg hs
 have pk: ∀s,s≠b→E'.cp s=E.cp s:=fun s hs=>if_neg hs
 have AH:E'.sz b=blk.sz:=if_pos rfl
 have En:E'.cp b=cap:=if_pos rfl
 have KA:E'.bi b=blk.bi:=if_pos rfl
 refine⟨E',rfl,a8,?_,?_,KA,if_pos rfl,AH,En,fun bT ea=>if_neg ea,rfl⟩
 ·exact{
   heap:=fun s c hs=>by
    rcases hm s c hs with⟨rfl,rfl⟩ | ⟨bY,hs⟩
    ·refine⟨blk,aw,ty,hb,AH,hw.new,by rw[En,AH];exact jX,by rw[En];exact e1,?_⟩
     rw[AH]
     exact⟨av.1,fun i j row a h1 h2=>by obtain⟨u,hu,eJ⟩:=av.2 i j row a h1 h2;exact⟨u,hu,eJ.le a8.le.b0⟩⟩
    ·obtain⟨blk',bX,hC,q1,b5,q2,q3,q4,cW,cO⟩:=aB.heap s c hs
     refine⟨blk',bX,hC,by rw[aG s bY];exact q1,by rw[cd s bY];exact b5,?_,by rw[pk s bY,cd s bY];exact q3,by rw[pk s bY];exact q4,by rw[cd s bY];exact cW,fun i j row a av ap=> ?_⟩
     ·show w'.heap[c]?=_;rw[hw.jg c (jw c ⟨s,hs⟩)];exact q2
     ·obtain⟨u,hu,eJ⟩:=cO i j row a av ap
      exact⟨u,by rw[cd s bY];exact hu,eJ.le a8.le.b0⟩
   eI:=fun s x hs=>by
    by_cases e:s=b
    ·subst e;rw[hb] at hs;cases hs;exact KA
    ·rw[aG s e] at hs
     show(if s=b then _ else _)=_
     rw[if_neg e];exact aB.eI s x hs
   gQ:=fun s hs=>by
    have hs:(if s=b then some (some E.w.heap.size) else E.m s)=some none:=hs
    split at hs
    ·cases hs
    ·rename_i e
     obtain⟨x,q1,q2⟩:=aB.gQ s hs
     exact⟨x,by rw[aG s e];exact q1,by rw[cd s e];exact q2⟩
   fresh:=fun s hs=>by
    have aX:b<H'.length:=(List.getElem?_eq_some_iff.1 hb).1
    have e:s≠b:=by omega
    have:=aB.fresh s (by omega)
    exact⟨by show(if s=b then _ else _)=_;rw[if_neg e];exact this.1,by show(if s=b then _ else _)=_;rw[if_neg e];exact this.2⟩
   gF:=fun s s' c h1 h2=>by
    rcases hm s c h1 with⟨d1,aR⟩ | ⟨_,dA⟩<;>rcases hm s' c h2 with⟨d2,e2⟩ | ⟨_,hp⟩
    ·rw[d1,d2]
    ·have:=jw c ⟨s',hp⟩;omega
    ·have:=jw c ⟨s,dA⟩;omega
    ·exact aB.gF s s' c dA hp
   iL:=aB.iL
   gn:=fun s t c h1 h2=>by
    rcases hm s c h1 with⟨rfl,rfl⟩ | ⟨_,h1⟩
    ·have:=jx _ ⟨t,h2⟩;omega
    ·exact aB.gn s t c h1 h2
   hq:=fun c hc ⟨s,hs⟩=>by
    rcases hm s c hs with⟨rfl,rfl⟩ | ⟨_,hs⟩
    ·have:=aB.dy _ hc;omega
    ·exact aB.hq c hc ⟨s,hs⟩
   hN:=aB.hN
   dr:=aB.dr
   fh:=fun c hc=>(aB.fh c hc).same (hw.jg c (aB.dy c (aB.dr c hc)))
   dy:=fun c hc=>Nat.lt_of_lt_of_le (aB.dy c hc) a8.size
   fl:=fun c ⟨s,hs⟩=>by
    rcases hm s c hs with⟨rfl,rfl⟩ | ⟨_,hs⟩
    ·show _<w'.heap.size;rw[hw.size];omega
    ·exact Nat.lt_of_lt_of_le (jw c ⟨s,hs⟩) a8.size
   gf:=fun c hc=>Nat.lt_of_lt_of_le (jx c hc) a8.size}
 ·intro s c hs
  obtain⟨gw,bX,hC,q1,q2,q3⟩:=bN s c hs
  exact⟨gw,bX,hC,q1,by show w'.heap[c]?=_;rw[hw.jg c (jx c ⟨s,hs⟩)];exact q2,q3.mono fun _ _ k=>k.le a8.le.b0⟩
theorem ON {E:Env} {H:List Blk} {L:List (Nat×List AV)} {w':World} {b:Nat} {x:Option Nat} {blk blk':Blk} (aB:SimH E H) (bN:SimL E L)
  (hm:E.m b=some x) (hb:H[b]?=some blk) (aQ:blk'.bi=blk.bi+1) (lS:blk'.sz=blk.sz)
  (aG:w'.os=E.w.os) (Wm:w'.tape=E.w.tape) (VY:w'.output=E.w.output) (cd:w'.heap.size=E.w.heap.size)
  (hw: ∀c,x≠some c→w'.heap[c]?=E.w.heap[c]?)
  (hx: ∀c,x=some c→ ∃aw ty,w'.heap[c]?=some (.cells aw ty (0,0))∧aw.size=E.cp b*E.sz b∧blk'.rows.length≤E.cp b∧uq E (E.sz b) blk'.rows aw):
  ∃E',E'.w=w'∧Step E E'∧SimH E' (H.set b blk')∧SimL E' L∧E'.bi b=blk'.bi∧E'.m=E.m∧E'.sz=E.sz∧E'.cp=E.cp∧E'.mL=E.mL:=by
 let E':Env:={E with w:=w',bi:=fun bT=>if bT=b then blk'.bi else E.bi bT}
 have ju:=aB.eI b blk hb
 have bY: ∀c,E.PA c→x≠some c:=fun c hc e=>aB.hq c hc ⟨b,by rw[hm,e]⟩
 have a8:Step E E':=
  {le:=⟨fun _ h=>h,fun _ h=>h,fun c hc=>hw c (bY c hc),fun c hc=>hw c (bY c (aB.dr c hc)),fun bT=>by
     show _≤(if bT=b then _ else _)
     split
     ·rename_i e;subst e;omega
     ·exact Nat.le_refl _,fun bT y ba VF=>by
     have ox:(if bT=b then blk'.bi else E.bi bT)=E.bi bT:=VF
     have vb:bT≠b:=fun e=>by subst e;rw[if_pos rfl] at ox;omega
     exact⟨ba,rfl,rfl⟩,fun _ _ h=>h⟩
   os:=aG,tape:=Wm,output:=VY
   size:=by show E.w.heap.size≤w'.heap.size;rw[cd];exact Nat.le_refl _
   cT:=fun c hc h1 _=>hw c (fun e=>h1 ⟨b,by rw[hm,e]⟩)
   iu:=fun _ _ h=> .inl h
   iK:=fun _ h=> .inl h
   fo:=fun _ h=> .inl h
   e9:=fun _ h=> .inl h}
 have pj:b<H.length:=(List.getElem?_eq_some_iff.1 hb).1
 refine⟨E',rfl,a8,?_,?_,if_pos rfl,rfl,rfl,rfl,rfl⟩
 ·exact{aB with
   fh:=fun ck ke=>(aB.fh ck ke).same (a8.le.wf ck ke)
   heap:=fun s c hs=>by
    by_cases e:s=b
    ·subst e
     have K2:x=some c:=by
      have:E.m s=some (some c):=hs
      rw[hm] at this;exact Option.some.inj this
     obtain⟨wZ,aeV,afp,q1,b5,q⟩:=aB.heap s c (by rw[hm,K2])
     obtain rfl:blk=wZ:=by rw[hb] at q1;exact Option.some.inj q1
     obtain⟨aw,ty,h1,h2,aM,bx⟩:=hx c K2
     exact⟨blk',aw,ty,by rw[List.getElem?_set_self pj],b5.trans lS.symm,h1,h2,aM,bx.1,fun i j row a av ap=>by
      obtain⟨u,hu,eJ⟩:=bx.2 i j row a av ap;exact⟨u,hu,eJ.le a8.le.b0⟩⟩
    ·obtain⟨wZ,bX,hC,q1,b5,q2,q3,q4,cW,cO⟩:=aB.heap s c hs
     refine⟨wZ,bX,hC,by rw[List.getElem?_set_ne (fun h=>e h.symm)];exact q1,b5,?_,q3,q4,cW,fun i j row a av ap=> ?_⟩
     ·show w'.heap[c]?=_
      rw[hw c (fun h=>e (aB.gF s b c hs (by rw[hm,h])))];exact q2
     ·obtain⟨u,hu,eJ⟩:=cO i j row a av ap
      exact⟨u,hu,eJ.le a8.le.b0⟩
   eI:=fun s y hs=>by
    by_cases e:s=b
    ·subst e;rw[List.getElem?_set_self pj] at hs;cases hs;exact if_pos rfl
    ·rw[List.getElem?_set_ne (fun h=>e h.symm)] at hs
     show(if s=b then _ else _)=_
     rw[if_neg e];exact aB.eI s y hs
   gQ:=fun s hs=>by
    obtain⟨y,q1,q2⟩:=aB.gQ s hs
    by_cases e:s=b
    ·subst e
     obtain rfl:blk=y:=by rw[hb] at q1;exact Option.some.inj q1
     exact⟨blk',by rw[List.getElem?_set_self pj],q2.trans lS.symm⟩
    ·exact⟨y,by rw[List.getElem?_set_ne (fun h=>e h.symm)];exact q1,q2⟩
   fresh:=fun s hs=>by
    rw[List.length_set] at hs
    have e:s≠b:=by omega
    have:=aB.fresh s hs
    exact⟨this.1,by show(if s=b then _ else _)=_;rw[if_neg e];exact this.2⟩
   dy:=fun c hc=>Nat.lt_of_lt_of_le (aB.dy c hc) a8.size
   fl:=fun c hc=>Nat.lt_of_lt_of_le (aB.fl c hc) a8.size
   gf:=fun c hc=>Nat.lt_of_lt_of_le (aB.gf c hc) a8.size}
 ·intro s c hs
  obtain⟨gw,bX,hC,q1,q2,q3⟩:=bN s c hs
  refine⟨gw,bX,hC,q1,?_,q3.mono fun _ _ k=>k.le a8.le.b0⟩
  show w'.heap[c]?=_
  rw[hw c (fun e=>aB.gn b s c (by rw[hm,e]) hs)];exact q2
theorem A_ {E:Env} {H:List Blk} {L:List (Nat×List AV)} {blk:Blk} (aB:SimH E H) (bN:SimL E L) (aQ:blk.bi=0) (av:blk.rows=[]):
  ∃E',E'.w=E.w∧Step E E'∧SimH E' (H++[blk])∧SimL E' L∧E'.bi H.length=0∧E'.m H.length=some none∧(∀b,b≠H.length→E'.m b=E.m b)∧E'.mL=E.mL:=by
 have hs:=aB.snoc aQ
 have ao:=aB.fresh H.length (Nat.le_refl _)
 let E':Env:={E with m:=fun b=>if b=H.length then some none else E.m b,sz:=fun b=>if b=H.length then blk.sz else E.sz b}
 have qq: ∀b c,E'.m b=some (some c)→E.m b=some (some c)∧b≠H.length:=by
  intro b c h
  have h:(if b=H.length then some none else E.m b)=some (some c):=h
  split at h
  ·cases h
  ·exact⟨h,by assumption⟩
 have a8:Step E E':=
  {le:=⟨fun _ h=>h,fun _ h=>h,fun _ _=>rfl,fun _ _=>rfl,fun _=>Nat.le_refl _,fun b x hx _=>by
     have bY:b≠H.length:=fun e=>by subst e;rw[ao.1] at hx;cases hx
     exact⟨by show(if b=H.length then _ else _)=_;rw[if_neg bY];exact hx,by show(if b=H.length then _ else _)=_;rw[if_neg bY],rfl⟩,fun _ _ h=>h⟩
   os:=rfl,tape:=rfl,output:=rfl,size:=Nat.le_refl _
   cT:=fun _ _ _ _=>rfl
   iu:=fun b c h=> .inl (qq b c h).1
   iK:=fun _ h=> .inl h
   fo:=fun _ h=> .inl h
   e9:=fun _ h=> .inl h}
 refine⟨E',rfl,a8,?_,fun s c hm=> ?_,ao.2,if_pos rfl,fun b hb=>if_neg hb,rfl⟩
 ·exact{hs with
   heap:=fun b c h=>by
    obtain⟨h,bY⟩:=qq b c h
    obtain⟨wZ,bX,hC,q1,b5,q2,q3,q4,cW,cO⟩:=hs.heap b c h
    have cd:E'.sz b=E.sz b:=if_neg bY
    exact⟨wZ,bX,hC,q1,by rw[cd];exact b5,q2,by rw[cd];exact q3,q4,by rw[cd];exact cW,fun i j row a av ap=>by
     obtain⟨u,hu,eJ⟩:=cO i j row a av ap
     exact⟨u,by rw[cd];exact hu,eJ.le a8.le.b0⟩⟩
   gQ:=fun b h=>by
    by_cases e:b=H.length
    ·subst e
     exact⟨blk,by simp,if_pos rfl⟩
    ·have h:E.m b=some none:=by
      have h:(if b=H.length then some none else E.m b)=some none:=h
      rwa [if_neg e] at h
     obtain⟨y,q1,q2⟩:=hs.gQ b h
     exact⟨y,q1,by show(if b=H.length then _ else _)=_;rw[if_neg e];exact q2⟩
   fresh:=fun b h=>by
    have:=hs.fresh b h
    have e:b≠H.length:=by simp at h;omega
    exact⟨by show(if b=H.length then _ else _)=_;rw[if_neg e];exact this.1,this.2⟩
   gF:=fun b bT c h1 h2=>hs.gF b bT c (qq b c h1).1 (qq bT c h2).1
   gn:=fun b t c h1 h2=>hs.gn b t c (qq b c h1).1 h2
   hq:=fun c hc ⟨b,h⟩=>hs.hq c hc ⟨b,(qq b c h).1⟩
   fl:=fun c ⟨b,h⟩=>hs.fl c ⟨b,(qq b c h).1⟩}
 ·obtain⟨gw,bX,hC,q1,q2,q3⟩:=bN s c hm
  exact⟨gw,bX,hC,q1,q2,q3.mono fun _ _ k=>k.le a8.le.b0⟩
def yx (fr:Bool) (row:List AV):List AV:=match fr with
 | true=>row.map nX
 | false=>row
def lu (fr:Bool) (rows:List (List AV)):List (List AV):=match fr with
 | true=>rows.map fun row=>row.map nX
 | false=>rows
theorem abG (fr:Bool) (rows:List (List AV)):lu fr rows=rows.map (yx fr):=by
 cases fr
 ·show rows=rows.map fun row=>row
  simp
 ·rfl
theorem abF (fr:Bool) (row:List AV):(yx fr row).length=row.length:=by
 cases fr<;>simp[yx]
def rowsOf (H:List Blk) (x:AV):Option (List (List AV)):=match x with
 | .aV rows _ fr=>some (lu fr rows)
 | .ref b g off n _=>(H[b]?).bind fun blk=>if blk.bi=g∧off+n≤blk.rows.length then some ((blk.rows.drop off).take n) else none
 | .str s=>some (s.data.toList.map fun c=>[.int .u8 c.toNat])
 | _=>none
def OU (H:List Blk) (x:AV) (K:List (List AV)→Prop):Prop:=match x with
 | .aV rows _ fr=>K (lu fr rows)
 | .ref b g off n _=>cM H[b]? fun blk=>blk.bi=g∧off+n≤blk.rows.length∧K ((blk.rows.drop off).take n)
 | .str s=>K (s.data.toList.map fun c=>[.int .u8 c.toNat])
 | _=>False
theorem abN {H:List Blk} {x:AV} {K:List (List AV)→Prop} (h:OU H x K): ∃ch,rowsOf H x=some ch∧K ch:=by
 cases x with
 | aV rows full fr=>exact⟨_,rfl,h⟩
 | ref b g off n full=>
  obtain⟨blk,hb,h1,h2,aM⟩:=e8 (show cM H[b]? fun blk=>blk.bi=g∧off+n≤blk.rows.length∧K ((blk.rows.drop off).take n) from h)
  exact⟨_,by show(H[b]?).bind _=_;rw[hb];show(if blk.bi=g∧off+n≤blk.rows.length then _ else _)=_;rw[if_pos ⟨h1,h2⟩],aM⟩
 | str s=>exact⟨_,rfl,h⟩
 | _=>exact h.elim
def sB (P:Program) (e t2:TypeId) (x:AV):Bool:=match x with
 | .str _=>(match P.underlying t2 with
  | some .string=>(match P.underlying e with
   | some (.int .u8)=>P.cellsOf e==1
   | _=>false)
  | _=>false)
 | _=>(match P.underlying t2 with
  | some (.slice e2)=>e2==e
  | _=>false)
def se (n:Nat) (ch:List (List AV)):Prop:= ∀row∈ch,row.length=n∧ ∀a∈row,iS a=true
abbrev nt (r:Type):Type:=AV→List (Nat×List AV)→List Blk→r
def sA (P:Program) (t t2:TypeId) (s x:AV) (L:List (Nat×List AV)) (H:List Blk) (K:nt Prop):Prop:=
 cM (im P t) fun e=>cM (ma P e) fun z=>if z.length=P.cellsOf e∧0<z.length∧sB P e t2 x=true then OU H x fun ch=>
  se z.length ch∧(match s with
  | .aV rows full fr=>full=true∧(∀row∈rows,row.length=z.length)∧(rows.length+ch.length)*P.bytesOf e≤140737488355328∧rows.length+ch.length≤4611686018427387904∧(rows≠[]→ch≠[])∧
    K (.ref H.length 0 0 (rows.length+ch.length) false) L (H++[⟨0,z.length,rows++ch⟩])
  | .ref b g off n full=>off=0∧cM H[b]? fun blk=>blk.bi=g∧blk.sz=z.length∧blk.rows.length=n∧(n+ch.length)*P.bytesOf e≤140737488355328∧n+ch.length≤4611686018427387904∧
    K (.ref b (g+1) 0 (n+ch.length) false) L (H.set b ⟨g+1,z.length,blk.rows++ch⟩)
  | _=>False)
 else False
structure zi (P:Program) (E:Env) (t2:TypeId) (size:Nat) (ch:List (List AV)) (h0:Value) (news:List Value):Prop where
 len:news.length=ch.length*size
 rel: ∀(i j:Nat) (row:List AV) (a:AV),ch[i]?=some row→row[j]?=some a→ ∃u,news[i*size+j]?=some u∧b1 E.b0 a u∧u.oneCell'=true
 one: ∀u∈news,u.oneCell'=true
 num:(∃e2,P.underlying t2=some (.slice e2))∨P.underlying t2=some .string
 lenOf: ∀w,(Builtin.lenOf h0).run P w= .ok ch.length w
 cells: ∀w,(w=E.w∨w=E.w.drew)→(Builtin.firstCells size ch.length h0).run P w= .ok news.toArray w
theorem NU {size:Nat} {ch:List (List AV)} {news:List Value} {R:AV→Value→Prop} (fj: ∀row∈ch,row.length=size) (len:news.length=ch.length*size)
  (rel: ∀(i j:Nat) (row:List AV) (a:AV),ch[i]?=some row→row[j]?=some a→ ∃u,news[i*size+j]?=some u∧R a u∧u.oneCell'=true): ∀u∈news,u.oneCell'=true:=by
 intro u hu
 obtain⟨k,hk⟩:=List.mem_iff_getElem?.1 hu
 have k3:k<ch.length*size:=by rw[←len];exact(List.getElem?_eq_some_iff.1 hk).1
 have kD:0<size:=by
  rcases Nat.eq_zero_or_pos size with q | q
  ·rw[q,Nat.mul_zero] at k3;omega
  ·exact q
 have hi:k / size<ch.length:=(Nat.div_lt_iff_lt_mul kD).2 k3
 have eO:=List.getElem?_eq_getElem hi
 have hlen:(ch[k / size]).length=size:=fj _ (List.getElem_mem hi)
 have ap:k%size<(ch[k / size]).length:=by rw[hlen];exact Nat.mod_lt _ kD
 obtain⟨v,h1,h2,aM⟩:=rel (k / size) (k%size) _ _ eO (List.getElem?_eq_getElem ap)
 rw[Nat.div_add_mod' k size,hk] at h1
 cases h1;exact aM
theorem aeG {P:Program} {e t2:TypeId} {x:AV} {ch:List (List AV)} {E:Env} {H:List Blk} {h0:Value} {size:Nat} (aB:SimH E H) (hx:V2 E x h0) (cd:size=P.cellsOf e) (bn:sB P e t2 x=true)
  (av:rowsOf H x=some ch) (fj:se size ch): ∃news,zi P E t2 size ch h0 news:=by
 have Ay: ∀row∈ch,row.length=size:=fun row h=>(fj row h).1
 cases x with
 | aV rows full fr=>
  have cs:lu fr rows=ch:=Option.some.inj av
  have aR:ch=rows.map (yx fr):=by rw[←cs];exact abG fr rows
  have AC:ch.length=rows.length:=by rw[aR,List.length_map]
  have pt: ∀row∈rows,row.length=size:=fun row h=>by
   rw[←abF fr row];exact Ay _ (by rw[aR];exact List.mem_map_of_mem h)
  have hu: ∃e2,P.underlying t2=some (.slice e2):=by
   unfold sB at bn
   simp only at bn
   split at bn
   ·exact⟨_,by assumption⟩
   ·cases bn
  obtain⟨e2,hu⟩:=hu
  have iJ:aW E.w E.PA E.PF (.aV rows full fr) h0:=hx
  cases iJ with
  | @aV _ _ PB _ _ _ A cap sz vs eU e1 fG xL dQ hrel=>
   let news:List Value:=(List.range (rows.length*size)).map fun k=>vs (k / size) (k%size)
   have ll:news.length=rows.length*size:=by simp[news]
   have gD: ∀i j,i<rows.length→j<size→news[i*size+j]?=some (vs i j):=by
    intro i j hi ap
    have hk:i*size+j<rows.length*size:=by
     calc i*size+j<i*size+size:=by omega
      _=(i+1)*size:=by rw[Nat.add_mul,Nat.one_mul]
      _≤rows.length*size:=Nat.mul_le_mul_right _ (by omega)
    show((List.range (rows.length*size)).map _)[i*size+j]?=_
    rw[List.getElem?_map,List.getElem?_range hk]
    have h1:(i*size+j) / size=i:=by
     rw[Nat.add_comm,Nat.add_mul_div_right _ _ (by omega),Nat.div_eq_of_lt ap];omega
    have h2:(i*size+j)%size=j:=by
     rw[Nat.add_comm,Nat.add_mul_mod_self_right,Nat.mod_eq_of_lt ap]
    simp[h1,h2]
   have rel: ∀(i j:Nat) (row:List AV) (a:AV),ch[i]?=some row→row[j]?=some a→ ∃u,news[i*size+j]?=some u∧b1 E.b0 a u∧u.oneCell'=true:=by
    intro i j row a h1 h2
    have xK:=fj row (List.mem_of_getElem? h1)
    have ap:j<size:=by rw[←xK.1];exact(List.getElem?_eq_some_iff.1 h2).1
    have hs:=xK.2 a (List.mem_of_getElem? h2)
    rw[aR,List.getElem?_map] at h1
    cases af:rows[i]? with
    | none=>rw[af] at h1;cases h1
    | some q0=>
     rw[af] at h1
     have h1:yx fr q0=row:=Option.some.inj h1
     have kf:b1 E.b0 a (vs i j):=by
      cases fr with
      | false=>
       have h1:q0=row:=h1
       subst h1
       exact aW.v1 (E:=E.b0) ((hrel i j q0 a af h2).mono (fun _ _=>rfl) (fun _ h=>h.elim) (fun c hc=>show E.PA c by have:=eU c hc;simpa using this) (fun _ h=>h.elim))
      | true=>
       have h1:q0.map nX=row:=h1
       subst h1
       rw[List.getElem?_map] at h2
       cases jz:q0[j]? with
       | none=>rw[jz] at h2;cases h2
       | some a0=>
        rw[jz] at h2
        have h2:nX a0=a:=Option.some.inj h2
        subst h2
        exact aW.v1 (E:=E.b0) (abE (hrel i j q0 a0 af jz) (fun c hc=>show E.PF c by have:=eU c hc;simpa using this) aB.dr)
     exact⟨_,gD i j (List.getElem?_eq_some_iff.1 af).1 ap,kf,kf.Bg hs⟩
   refine⟨news,by rw[AC];exact ll,rel,NU Ay (by rw[AC];exact ll) rel,.inl ⟨_,hu⟩,fun w=>by rw[AC];rfl,fun w hw=> ?_⟩
   rw[AC]
   have Eo: ∀a,w.cell? a=E.w.cell? a:=by rcases hw with rfl | rfl<;>intro a<;>rfl
   by_cases aH:rows.length=0
   ·have ao:news=[]:=List.eq_nil_of_length_eq_zero (by rw[ll,aH,Nat.zero_mul])
    rw[ao,aH]
    cases A with
    | none=>exact run_firstCells_none w size 0 _ _
    | some kT=>
     have:=run_firstCells_some (P:=P) w size 0 kT 0 cap [] (by simp) (fun j v h=>by simp at h)
     exact this
   ·obtain⟨c,o,rfl,hc,d_⟩:=dQ (by omega)
    refine run_firstCells_some (P:=P) w size rows.length ⟨c,o,none⟩ rows.length cap news ll (fun k v hk=> ?_)
    have k3:k<rows.length*size:=by rw[←ll];exact(List.getElem?_eq_some_iff.1 hk).1
    have kD:0<size:=by
     rcases Nat.eq_zero_or_pos size with q | q
     ·rw[q,Nat.mul_zero] at k3;omega
     ·exact q
    have hi:k / size<rows.length:=(Nat.div_lt_iff_lt_mul kD).2 k3
    have ap:k%size<size:=Nat.mod_lt _ kD
    have KX:sz=size:=by
     have:=xL _ _ (List.getElem?_eq_getElem hi)
     rw[←this];exact pt _ (List.getElem_mem hi)
    have h1:=d_ (k / size) (k%size) hi (by rw[KX];exact ap)
    have h2:=gD (k / size) (k%size) hi ap
    rw[Nat.div_add_mod' k size] at h2
    rw[hk] at h2
    cases h2
    rw[mP,Eo]
    rw[KX,Nat.div_add_mod' k size] at h1
    exact h1
 | ref b g off n full=>
  have hu: ∃e2,P.underlying t2=some (.slice e2):=by
   unfold sB at bn
   simp only at bn
   split at bn
   ·exact⟨_,by assumption⟩
   ·cases bn
  obtain⟨e2,hu⟩:=hu
  have av:((H[b]?).bind fun blk=>if blk.bi=g∧off+n≤blk.rows.length then some ((blk.rows.drop off).take n) else none)=some ch:=av
  cases hb:H[b]? with
  | none=>simp[hb] at av
  | some blk=>
   simp only[hb,Option.bind_some] at av
   split at av
   case isFalse=>cases av
   case isTrue hc=>
   obtain⟨aQ,rK⟩:=hc
   cases av
   have ju:=aB.eI b blk hb
   have oC:((blk.rows.drop off).take n).length=n:=by simp;omega
   have Wt: ∀i row,((blk.rows.drop off).take n)[i]?=some row→blk.rows[off+i]?=some row:=by
    intro i row h
    rw[List.getElem?_take] at h
    split at h
    ·rw[List.getElem?_drop] at h;exact h
    ·cases h
   rcases(show ez E (.ref b g off n full) h0 from hx) with⟨bD,_⟩ | ⟨fT,bD⟩
   ·omega
   ·rcases bD with⟨_,_,lk,A,rfl⟩ | ⟨c,cap,hm,rfl,nK,ov,pk⟩
    ·subst lk
     refine⟨[],by simp,fun i j row a h=>by simp at h,(fun u hu=>by cases hu),.inl ⟨_,hu⟩,fun w=>by simp;rfl,fun w hw=> ?_⟩
     rw[oC]
     cases A with
     | none=>exact run_firstCells_none w size 0 _ _
     | some kT=>exact run_firstCells_some (P:=P) w size 0 kT 0 0 [] (by simp) (fun j v h=>by simp at h)
    ·obtain⟨blk',aw,ty,q1,b5,hw,jX,m6,fW⟩:=aB.heap b c hm
     obtain rfl:blk=blk':=by rw[hb] at q1;exact Option.some.inj q1
     by_cases lk:n=0
     ·subst lk
      refine⟨[],by simp,fun i j row a h=>by simp at h,(fun u hu=>by cases hu),.inl ⟨_,hu⟩,fun w=>by simp;rfl,fun w hw=> ?_⟩
      rw[oC]
      exact run_firstCells_some (P:=P) w size 0 _ 0 cap [] (by simp) (fun j v h=>by simp at h)
     ·have EQ:E.sz b=size:=by
       have aX:off<blk.rows.length:=by omega
       have aI:((blk.rows.drop off).take n)[0]?=some blk.rows[off]:=by
        rw[List.getElem?_take,if_pos (by omega),List.getElem?_drop,Nat.add_zero,List.getElem?_eq_getElem aX]
       rw[←fW.1 off _ (List.getElem?_eq_getElem aX)]
       exact Ay _ (List.mem_of_getElem? aI)
      let news:List Value:=(aw.toList.drop (off*size)).take (n*size)
      have Vg:off*size+n*size≤aw.size:=by
       rw[jX,EQ,←Nat.add_mul];exact Nat.mul_le_mul_right _ (by omega)
      have ll:news.length=n*size:=by simp[news];omega
      have KP: ∀k,k<n*size→news[k]?=aw[off*size+k]?:=by
       intro k hk
       show((aw.toList.drop (off*size)).take (n*size))[k]?=_
       rw[List.getElem?_take,if_pos hk,List.getElem?_drop,Array.getElem?_toList]
      have rel: ∀(i j:Nat) (row:List AV) (a:AV),((blk.rows.drop off).take n)[i]?=some row→row[j]?=some a→ ∃u,news[i*size+j]?=some u∧b1 E.b0 a u∧u.oneCell'=true:=by
       intro i j row a h1 h2
       have xK:=fj row (List.mem_of_getElem? h1)
       have ap:j<size:=by rw[←xK.1];exact(List.getElem?_eq_some_iff.1 h2).1
       have hi:i<n:=by have:=(List.getElem?_eq_some_iff.1 h1).1;rw[oC] at this;exact this
       obtain⟨u,pu,rN⟩:=fW.2 (off+i) j row a (Wt i row h1) h2
       have hk:i*size+j<n*size:=by
        calc i*size+j<i*size+size:=by omega
         _=(i+1)*size:=by rw[Nat.add_mul,Nat.one_mul]
         _≤n*size:=Nat.mul_le_mul_right _ (by omega)
       refine⟨u,?_,rN,rN.Bg (xK.2 a (List.mem_of_getElem? h2))⟩
       rw[KP _ hk,←pu,EQ]
       congr 1
       rw[Nat.add_mul];omega
      refine⟨news,by rw[oC];exact ll,rel,NU Ay (by rw[oC];exact ll) rel,.inl ⟨_,hu⟩,fun w=>by rw[oC];rfl,fun w gd=> ?_⟩
      have Eo: ∀a,w.cell? a=E.w.cell? a:=by rcases gd with rfl | rfl<;>intro a<;>rfl
      rw[oC]
      refine run_firstCells_some (P:=P) w size n _ n cap news ll (fun k v hk=> ?_)
      have k3:k<n*size:=by rw[←ll];exact(List.getElem?_eq_some_iff.1 hk).1
      rw[KP k k3] at hk
      rw[mP,Eo,EQ]
      exact cell_of hw hk
 | str s=>
  obtain rfl:=V3.wg (o6 hx)
  cases av
  unfold sB at bn
  simp only at bn
  split at bn
  case h_2=>cases bn
  case h_1 hu=>
  split at bn
  case h_2=>cases bn
  case h_1 he=>
  have eB:size=1:=by rw[cd];simpa using bn
  subst eB
  have xM:s.data.toList.length=s.size:=by simp
  refine⟨s.data.toList.map fun c=> .int .u8 c.toNat,by simp,fun i j row a h1 h2=> ?_,fun u hu=> ?_,.inr hu,fun w=> ?_,fun w hw=> ?_⟩
  ·rw[List.getElem?_map] at h1
   cases hc:s.data.toList[i]? with
   | none=>rw[hc] at h1;cases h1
   | some c=>
    rw[hc] at h1
    cases h1
    have KG:j=0:=by have:=(List.getElem?_eq_some_iff.1 h2).1;simp at this;omega
    subst KG
    cases h2
    exact⟨.int .u8 c.toNat,by rw[List.getElem?_map,Nat.mul_one,Nat.add_zero,hc];rfl,aW.int _ _,rfl⟩
  ·obtain⟨c,_,rfl⟩:=List.mem_map.1 hu;rfl
  ·show Result.ok s.size w=_
   rw[List.length_map,xM]
  ·rw[List.length_map,xM]
   show Result.ok ((s.extract 0 s.size).data.map fun b=>Value.int .u8 b.toNat) w=_
   congr 1
   apply Array.ext'
   simp
 | _=>cases av
section
variable {P:Program} {E:Env} {t t2 ty e:TypeId} {size:Nat} {ch:List (List AV)} {h0:Value} {news:List Value}
theorem OV (X:zi P E t2 size ch h0 news) (bn:P.underlying t=some (.slice e)) (hi:(P.info? e).isSome=true) (cd:P.cellsOf e=size) {base:Option Addr} {sLen sCap:Nat} (ao:ch.length=0) (hc:sLen≤sCap):
  (Builtin.append_ #[t,t2] ty #[.slice base sLen sCap,h0]).run P E.w= .ok (.slice base sLen sCap) E.w:=by
 have aE:=X.lenOf E.w
 have hf:=X.cells E.w (.inl rfl)
 have VO:news=[]:=List.eq_nil_of_length_eq_zero (by rw[X.len,ao,Nat.zero_mul])
 subst VO
 rw[ao] at aE hf
 rcases X.num with⟨e2,hu⟩ | hu<;>
  (simp[Builtin.append_,run_underlying bn,run_underlying hu,run_sizeOf hi,cd,aE,hc,hf]
   cases base<;>simp[storeCells])
theorem abO (X:zi P E t2 size ch h0 news) (bn:P.underlying t=some (.slice e)) (hi:(P.info? e).isSome=true) (cd:P.cellsOf e=size) {g o sLen sCap:Nat} {gx:Array Value} {ce:TypeId}
  (aQ:E.w.heap[g]?=some (.cells gx ce (0,0))) (vf:sLen+ch.length≤sCap) (rF:o+sLen*size+news.length≤gx.size):
  (Builtin.append_ #[t,t2] ty #[.slice (some ⟨g,o,none⟩) sLen sCap,h0]).run P E.w= .ok (.slice (some ⟨g,o,none⟩) (sLen+ch.length) sCap) (E.w.setRow g (gx.toList.take (o+sLen*size)++news++gx.toList.drop (o+sLen*size+news.length)).toArray):=by
 have aE:=X.lenOf E.w
 have hf:=X.cells E.w (.inl rfl)
 have a8:=run_storeCells_at (P:=P) g (o+sLen*size) ce news 0 gx E.w aQ (by simpa using rF) X.one
 simp only[Nat.add_zero] at a8
 rcases X.num with⟨e2,hu⟩ | hu<;>
  simp[Builtin.append_,run_underlying bn,run_underlying hu,run_sizeOf hi,cd,aE,vf,hf,mP,a8]
theorem abP (X:zi P E t2 size ch h0 news) (bn:P.underlying t=some (.slice e)) {i:TypeInfo} (hi:P.info? e=some i) (cd:i.size=size) {z:Value} (aH:i.zero=some z) {base:Option Addr} {sLen sCap:Nat} {jE:Array Value}
  (holds:(Builtin.firstCells size sLen (.slice base sLen sCap)).run P E.w.drew= .ok jE E.w.drew) (aQ:sCap<sLen+ch.length) (Af:((sLen+ch.length:Nat):Int)≤9223372036854775807)
  (rF:Builtin.nextslicecap (sLen+ch.length) sCap*i.bytes≤281474976710656):
  (Builtin.append_ #[t,t2] ty #[.slice base sLen sCap,h0]).run P E.w= .ok (.slice (some ⟨E.w.heap.size,0,none⟩) (sLen+ch.length) (grownCap E.w (sLen+ch.length) sCap e))
   (E.w.drew.alloc (.cells (jE++news.toArray++Builtin.zeroCells z.cells (grownCap E.w (sLen+ch.length) sCap e - (sLen+ch.length))) e)):=by
 have aE:=X.lenOf E.w
 have hf:=X.cells E.w.drew (.inr rfl)
 subst cd
 have ao: ¬(sLen+ch.length≤sCap):=by omega
 have UZ: ¬(9223372036854775807<((sLen:Int)+(ch.length:Int))):=by omega
 have UY: ¬(281474976710656<Builtin.nextslicecap (sLen+ch.length) sCap*i.bytes):=by omega
 rcases X.num with⟨e2,hu⟩ | hu<;>
  simp[Builtin.append_,run_underlying bn,run_underlying hu,sizeOf,typeInfo,zeroValue,hi,aH,aE,ao,UZ,UY,Question.forced,hf,holds,newRow,grownCap]
end
theorem RT {P:Program} {t t2 ty:TypeId} {s x:AV} {L:List (Nat×List AV)} {H:List Blk} {K:AV→List (Nat×List AV)→List Blk→Prop} {E:Env} {wk h0:Value}
  (aB:SimH E H) (bN:SimL E L) (hs:V2 E s wk) (hx:V2 E x h0) (h:sA P t t2 s x L H K):
  ∃r u H' E',K r L H'∧(Builtin.append_ #[t,t2] ty #[wk,h0]).run P E.w= .ok u E'.w∧Step E E'∧SimH E' H'∧SimL E' L∧V3 E' r u∧E'.mL=E.mL:=by
 obtain⟨e,he,h⟩:=e8 h
 obtain⟨z,aH,h⟩:=e8 h
 have bn:=rr he
 split at h
 case isFalse=>exact h.elim
 case isTrue hc=>
 obtain⟨m_,kD,oq⟩:=hc
 obtain⟨ch,AJ,fj,h⟩:=abN h
 obtain⟨i,ue,hi,tb,px,rO⟩:=ud (E:=E.b0) aH
 obtain⟨news,X⟩:=aeG aB hx m_ oq AJ fj
 have xy:(P.info? e).isSome=true:=by rw[hi];rfl
 have u6:i.size=z.length:=by rw[m_];simp[Program.cellsOf,hi]
 have u5:i.bytes=P.bytesOf e:=by simp[Program.bytesOf,hi]
 have WA:ue.cells.size=z.length:=by rw[px];simp

 have out: ∀(base:Option Addr) (rows:List (List AV)) (sCap:Nat) (jE:Array Value) (b g:Nat) (H':List Blk),wk= .slice base rows.length sCap→
   (Builtin.firstCells z.length rows.length (.slice base rows.length sCap)).run P E.w.drew= .ok jE E.w.drew→jE.size=rows.length*z.length→
   (∀row∈rows,row.length=z.length)→(∀(i j:Nat) (row:List AV) (a:AV),rows[i]?=some row→row[j]?=some a→ ∃u,jE[i*z.length+j]?=some u∧b1 E.b0 a u)→
   sCap<rows.length+ch.length→(rows.length+ch.length)*P.bytesOf e≤140737488355328→rows.length+ch.length≤4611686018427387904→
   H'[b]?=some ⟨g,z.length,rows++ch⟩→(∀bT,bT≠b→H'[bT]?=H[bT]?)→(b<H.length→H'.length=H.length)→H.length≤H'.length→((E.m b=none∧g=E.bi b)∨E.bi b<g)→
   K (.ref b g 0 (rows.length+ch.length) false) L H'→ ∃r u H' E',K r L H'∧(Builtin.append_ #[t,t2] ty #[wk,h0]).run P E.w= .ok u E'.w∧Step E E'∧SimH E' H'∧SimL E' L∧V3 E' r u∧E'.mL=E.mL:=by
  intro base rows sCap jE b g H' Wi holds KQ pt VX vf hby h9 ea aG hlen Ax ju hK
  subst Wi
  have fx:=abP (ty:=ty) X bn hi u6 tb holds vf (by omega) (growslice_fits (by omega) (by rw[u5];exact hby))
  have Em:=grownCap_ge E.w (rows.length+ch.length) sCap e
  let cap:=grownCap E.w (rows.length+ch.length) sCap e
  let aw:Array Value:=jE++news.toArray++Builtin.zeroCells ue.cells (cap - (rows.length+ch.length))
  have jX:aw.size=cap*z.length:=by
   show(jE++news.toArray++Builtin.zeroCells ue.cells (cap - (rows.length+ch.length))).size=_
   have aR:(jE++news.toArray++Builtin.zeroCells ue.cells (cap - (rows.length+ch.length))).size=jE.size+news.length+(Builtin.zeroCells ue.cells (cap - (rows.length+ch.length))).size:=by simp;omega
   rw[aR,size_zeroCells,WA,KQ,X.len,←Nat.add_mul,←Nat.add_mul]
   congr 1
   have:rows.length+ch.length≤cap:=Em
   omega
  have fW:uq E z.length (rows++ch) aw:=by
   refine⟨fun k row av=> ?_,fun k j row a av ap=> ?_⟩
   ·rcases Nat.lt_or_ge k rows.length with aX | fT
    ·rw[List.getElem?_append_left aX] at av;exact pt row (List.mem_of_getElem? av)
    ·rw[List.getElem?_append_right fT] at av;exact(fj row (List.mem_of_getElem? av)).1
   ·rcases Nat.lt_or_ge k rows.length with aX | fT
    ·rw[List.getElem?_append_left aX] at av
     obtain⟨u,hu,hv⟩:=VX k j row a av ap
     refine⟨u,?_,hv⟩
     have k3:=(Array.getElem?_eq_some_iff.1 hu).1
     show(jE++news.toArray++_)[k*z.length+j]?=_
     rw[Array.getElem?_append_left (by rw[Array.size_append];omega),Array.getElem?_append_left k3];exact hu
    ·rw[List.getElem?_append_right fT] at av
     obtain⟨u,hu,hv,_⟩:=X.rel _ j row a av ap
     refine⟨u,?_,hv⟩
     have k3:=(List.getElem?_eq_some_iff.1 hu).1
     have lj:k*z.length+j=jE.size+((k - rows.length)*z.length+j):=by
      rw[KQ,←Nat.add_assoc,←Nat.add_mul];congr 2;omega
     show(jE++news.toArray++_)[k*z.length+j]?=_
     rw[lj,Array.getElem?_append_left (by simp;omega),Array.getElem?_append_right (by omega),Nat.add_sub_cancel_left]
     simpa using hu
  obtain⟨E',hw,a8,qv,qw,ox,jy,m8,Aj,_,hml⟩:=vy (cap:=cap) (blk:=⟨g,z.length,rows++ch⟩) aB bN (mg.Te E.w (.cells aw e (0,0))) ea aG hlen Ax ju jX (by
   show(rows++ch).length≤cap
   rw[List.length_append];exact Em) fW
  refine⟨_,_,_,E',hK,by rw[hw];exact fx,a8,qv,qw,.inr ⟨ox.symm,.inr ⟨_,_,jy,?_,Em,(fun h=>by cases h),?_⟩⟩,hml⟩
  ·rw[Nat.zero_mul]
  ·rw[Aj,Nat.zero_add];exact Nat.le_refl _
 cases s with
 | aV rows full fr=>
  obtain⟨fG,pt,hby,h9,bY,hK⟩:=h
  subst fG
  have m8:aW E.w E.PA E.PF (.aV rows true fr) wk:=hs
  cases m8 with
  | @aV _ _ PB _ _ _ A cap sz vs eU e1 fG cd dQ hrel=>
   have Vl:=fG rfl
   subst Vl
   by_cases hn:ch.length=0
   ·have AK:ch=[]:=List.eq_nil_of_length_eq_zero hn
    have pr:rows=[]:=Classical.byContradiction fun bD=>bY bD AK
    subst pr;subst AK
    obtain⟨E',hw,a8,qv,qw,ox,jy,_,hml⟩:=A_ (blk:=⟨0,z.length,[]++[]⟩) aB bN rfl rfl
    have fx:=OV (ty:=ty) X bn xy m_.symm (base:=A) (sLen:=0) (sCap:=0) rfl (Nat.le_refl _)
    exact⟨_,_,_,E',hK,by rw[hw];exact fx,a8,qv,qw,.inr ⟨ox.symm,.inl ⟨jy,rfl,rfl,A,rfl⟩⟩,hml⟩
   ·have Wk:0<rows.length→sz=z.length:=fun ai=>by
     rw[←cd 0 _ (List.getElem?_eq_getElem ai)];exact pt _ (List.getElem_mem ai)
    let jE:List Value:=(List.range (rows.length*z.length)).map fun k=>vs (k / z.length) (k%z.length)
    have xH:jE.length=rows.length*z.length:=by simp[jE]
    have gD: ∀i j,i<rows.length→j<z.length→jE[i*z.length+j]?=some (vs i j):=by
     intro i j hi ap
     have hk:i*z.length+j<rows.length*z.length:=by
      calc i*z.length+j<i*z.length+z.length:=by omega
       _=(i+1)*z.length:=by rw[Nat.add_mul,Nat.one_mul]
       _≤rows.length*z.length:=Nat.mul_le_mul_right _ (by omega)
     show((List.range (rows.length*z.length)).map _)[i*z.length+j]?=_
     rw[List.getElem?_map,List.getElem?_range hk]
     have h1:(i*z.length+j) / z.length=i:=by
      rw[Nat.add_comm,Nat.add_mul_div_right _ _ (by omega),Nat.div_eq_of_lt ap];omega
     have h2:(i*z.length+j)%z.length=j:=by
      rw[Nat.add_comm,Nat.add_mul_mod_self_right,Nat.mod_eq_of_lt ap]
     simp[h1,h2]
    refine out A rows rows.length jE.toArray H.length 0 _ rfl ?_ (by simp[xH]) pt (fun i j row a h1 h2=> ?_) (by omega) hby h9 (by simp) (fun bT ea=> ?_) (fun bD=>by omega) (by simp) (.inl ⟨(aB.fresh _ (Nat.le_refl _)).1,(aB.fresh _ (Nat.le_refl _)).2.symm⟩) hK
    ·by_cases pr:rows.length=0
     ·have aI:jE=[]:=List.eq_nil_of_length_eq_zero (by rw[xH,pr,Nat.zero_mul])
      rw[aI,pr]
      cases A with
      | none=>exact run_firstCells_none _ _ _ _ _
      | some kT=>exact run_firstCells_some (P:=P) _ z.length 0 kT 0 0 [] (by simp) (fun j v h=>by simp at h)
     ·obtain⟨c,o,rfl,hc,d_⟩:=dQ (by omega)
      refine run_firstCells_some (P:=P) E.w.drew z.length rows.length ⟨c,o,none⟩ rows.length rows.length jE xH (fun k v hk=> ?_)
      have k3:k<rows.length*z.length:=by rw[←xH];exact(List.getElem?_eq_some_iff.1 hk).1
      have hi:k / z.length<rows.length:=(Nat.div_lt_iff_lt_mul kD).2 k3
      have ap:k%z.length<z.length:=Nat.mod_lt _ kD
      have qz:=Wk (by omega)
      have h1:=d_ (k / z.length) (k%z.length) hi (by rw[qz];exact ap)
      have h2:=gD (k / z.length) (k%z.length) hi ap
      rw[Nat.div_add_mod' k z.length] at h2
      rw[hk] at h2
      cases h2
      rw[qz,Nat.div_add_mod' k z.length] at h1
      rw[mP]
      exact h1
    ·have hi:=(List.getElem?_eq_some_iff.1 h1).1
     have ap:j<z.length:=by rw[←pt row (List.mem_of_getElem? h1)];exact(List.getElem?_eq_some_iff.1 h2).1
     refine⟨vs i j,by simpa using gD i j hi ap,aW.v1 (E:=E.b0) ((hrel i j row a h1 h2).mono (fun _ _=>rfl) (fun _ h=>h.elim) (fun c hc=>by have:=eU c hc;split at this;exact aB.dr c this;exact this) (fun _ h=>h.elim))⟩
    ·rcases Nat.lt_or_ge bT H.length with aX | fT
     ·rw[List.getElem?_append_left aX]
     ·rw[List.getElem?_eq_none fT,List.getElem?_eq_none (by simp;omega)]
 | ref b g off n full=>
  replace h:off=0∧cM H[b]? fun blk=>blk.bi=g∧blk.sz=z.length∧blk.rows.length=n∧(n+ch.length)*P.bytesOf e≤140737488355328∧n+ch.length≤4611686018427387904∧
    K (.ref b (g+1) 0 (n+ch.length) false) L (H.set b ⟨g+1,z.length,blk.rows++ch⟩):=h
  obtain⟨VS,af⟩:=h
  obtain⟨blk,hb,aQ,lS,gz,hby,h9,hK⟩:=e8 af
  clear af
  subst VS
  have ju:=aB.eI b blk hb
  have pj:b<H.length:=(List.getElem?_eq_some_iff.1 hb).1
  subst gz
  rcases(show ez E (.ref b g 0 blk.rows.length full) wk from hs) with⟨bD,_⟩ | ⟨fT,bD⟩
  ·omega
  ·rcases bD with⟨hm,_,lk,A,rfl⟩ | ⟨c,cap,hm,rfl,nK,ov,pk⟩
   ·
    by_cases hn:ch.length=0
    ·have AK:ch=[]:=List.eq_nil_of_length_eq_zero hn
     subst AK
     obtain⟨E',hw,a8,qv,qw,ox,jy,xL,Aj,hml⟩:=ON (w':=E.w) (x:=none) (blk':=⟨g+1,z.length,blk.rows++[]⟩) aB bN hm hb (by show g+1=_;rw[aQ]) lS.symm rfl rfl rfl rfl (fun _ _=>rfl) (fun c hc=>by cases hc)
     have fx:=OV (ty:=ty) X bn xy m_.symm (base:=A) (sLen:=0) (sCap:=0) rfl (Nat.le_refl _)
     refine⟨_,_,_,E',hK,by rw[hw];exact fx,a8,qv,qw,.inr ⟨ox.symm,.inl ⟨by rw[jy];exact hm,rfl,by simp[lk],A,rfl⟩⟩,hml⟩
    ·have pr:blk.rows=[]:=List.eq_nil_of_length_eq_zero lk
     refine out A blk.rows 0 #[] b (g+1) _ (by rw[pr];rfl) ?_ (by rw[pr];simp) (fun row av=>by rw[pr] at av;cases av) (fun i j row a h1 h2=>by rw[pr] at h1;simp at h1) (by omega) hby h9 (by rw[List.getElem?_set_self pj]) (fun bT ea=>List.getElem?_set_ne (fun h=>ea h.symm)) (fun _=>by simp) (by simp) (.inr (by omega)) hK
     rw[pr]
     cases A with
     | none=>exact run_firstCells_none _ _ _ _ _
     | some kT=>exact run_firstCells_some (P:=P) _ z.length 0 kT 0 0 [] (by simp) (fun j v h=>by simp at h)
   ·obtain⟨blk',aw,hC,q1,b5,hw,jX,m6,fW⟩:=aB.heap b c hm
    obtain rfl:blk=blk':=by rw[hb] at q1;exact Option.some.inj q1
    have cd:E.sz b=z.length:=by rw[b5,lS]
    by_cases vf:blk.rows.length+ch.length≤cap
    ·
     have Vp:aw.size=E.cp b*z.length:=by rw[jX,cd]
     have hle:(blk.rows.length+ch.length)*z.length≤aw.size:=by rw[Vp];exact Nat.mul_le_mul_right _ (by omega)
     have KK:blk.rows.length*z.length+news.length≤aw.size:=by rw[X.len,←Nat.add_mul];exact hle
     have fx:=abO (ty:=ty) (o:=0) X bn xy m_.symm hw vf (by rw[Nat.zero_add];exact KK)
     rw[Nat.zero_add] at fx
     let bX:Array Value:=(aw.toList.take (blk.rows.length*z.length)++news++aw.toList.drop (blk.rows.length*z.length+news.length)).toArray
     have Kv: ∀k,bX[k]?=if k<blk.rows.length*z.length then aw.toList[k]? else if k<blk.rows.length*z.length+news.length then news[k - blk.rows.length*z.length]? else aw.toList[k]?:=by
      intro k
      show(List.toArray _)[k]?=_
      rw[List.getElem?_toArray,we (by simpa using KK)]
     obtain⟨E',gd,a8,qv,qw,ox,jy,xL,Aj,hml⟩:=ON (w':=E.w.setRow c bX) (x:=some c) (blk':=⟨g+1,z.length,blk.rows++ch⟩) aB bN hm hb (by show g+1=_;rw[aQ]) lS.symm rfl rfl rfl (by simp)
      (fun ck ke=>setRow_other _ _ _ _ (fun e=>ke (by rw[e]))) (fun ck ke=>by
       cases ke
       refine⟨bX,hC,setRow_heap _ _ _ _ _ _ hw,?_,by show(blk.rows++ch).length≤_;rw[List.length_append];omega,fun k row av=> ?_,fun k j row a av ap=> ?_⟩
       ·rw[←jX]
        show(List.toArray _).size=_
        simp;omega
       ·have av:(blk.rows++ch)[k]?=some row:=av
        rcases Nat.lt_or_ge k blk.rows.length with aX | Am
        ·rw[List.getElem?_append_left aX] at av;exact fW.1 k row av
        ·rw[List.getElem?_append_right Am] at av;rw[cd];exact(fj row (List.mem_of_getElem? av)).1
       ·have av:(blk.rows++ch)[k]?=some row:=av
        rcases Nat.lt_or_ge k blk.rows.length with aX | Am
        ·rw[List.getElem?_append_left aX] at av
         obtain⟨u,hu,hv⟩:=fW.2 k j row a av ap
         refine⟨u,?_,hv⟩
         have kA:j<z.length:=by rw[←cd,←fW.1 k row av];exact(List.getElem?_eq_some_iff.1 ap).1
         have:k*z.length+j<blk.rows.length*z.length:=by
          calc k*z.length+j<k*z.length+z.length:=by omega
           _=(k+1)*z.length:=by rw[Nat.add_mul,Nat.one_mul]
           _≤blk.rows.length*z.length:=Nat.mul_le_mul_right _ (by omega)
         rw[cd] at hu ⊢
         rw[Kv,if_pos this];simpa using hu
        ·rw[List.getElem?_append_right Am] at av
         obtain⟨u,hu,hv,_⟩:=X.rel _ j row a av ap
         refine⟨u,?_,hv⟩
         have k3:=(List.getElem?_eq_some_iff.1 hu).1
         have lj:k*z.length+j=blk.rows.length*z.length+((k - blk.rows.length)*z.length+j):=by
          rw[←Nat.add_assoc,←Nat.add_mul];congr 2;omega
         rw[cd,Kv,lj,if_neg (by omega),if_pos (by omega),Nat.add_sub_cancel_left];exact hu)
     refine⟨_,_,_,E',hK,by rw[gd];rw[Nat.zero_mul];exact fx,a8,qv,qw,.inr ⟨ox.symm,.inr ⟨c,cap,by rw[jy];exact hm,by simp,vf,(fun h=>by cases h),by rw[Aj];omega⟩⟩,hml⟩
    ·
     refine out (some ⟨c,0,none⟩) blk.rows cap (aw.toList.take (blk.rows.length*z.length)).toArray b (g+1) _ (by rw[Nat.zero_mul]) ?_ ?_ (fun row av=> ?_) (fun i j row a h1 h2=> ?_) (by omega) hby h9 (by rw[List.getElem?_set_self pj]) (fun bT ea=>List.getElem?_set_ne (fun h=>ea h.symm)) (fun _=>by simp) (by simp) (.inr (by omega)) hK
     ·refine run_firstCells_some (P:=P) E.w.drew z.length blk.rows.length ⟨c,0,none⟩ blk.rows.length cap _ ?_ (fun k v hk=> ?_)
      ·have:blk.rows.length*z.length≤aw.size:=by rw[jX,cd];exact Nat.mul_le_mul_right _ m6
       simp;omega
      ·rw[List.getElem?_take] at hk
       split at hk
       ·rw[mP,Nat.zero_add]
        exact cell_of (w:=E.w) hw (by simpa using hk)
       ·cases hk
     ·have:blk.rows.length*z.length≤aw.size:=by rw[jX,cd];exact Nat.mul_le_mul_right _ m6
      simp;omega
     ·obtain⟨k,hk⟩:=List.mem_iff_getElem?.1 av
      rw[←cd];exact fW.1 k row hk
     ·obtain⟨u,hu,hv⟩:=fW.2 i j row a h1 h2
      refine⟨u,?_,hv⟩
      have hi:=(List.getElem?_eq_some_iff.1 h1).1
      have ap:j<z.length:=by rw[←cd,←fW.1 i row h1];exact(List.getElem?_eq_some_iff.1 h2).1
      have:i*z.length+j<blk.rows.length*z.length:=by
       calc i*z.length+j<i*z.length+z.length:=by omega
        _=(i+1)*z.length:=by rw[Nat.add_mul,Nat.one_mul]
        _≤blk.rows.length*z.length:=Nat.mul_le_mul_right _ (by omega)
      rw[List.getElem?_toArray,List.getElem?_take,if_pos this,Array.getElem?_toList,←cd]
      exact hu
 | _=>exact h.elim
def Cl (E:Env) (o:Oper) (a:Act) (K:nt Prop):Act→World→Prop:=fun gk w'=>
 ∃v u L' H' E',K v L' H'∧E'.w=w'∧Step E E'∧SimH E' H'∧SimL E' L'∧V3 E' v u∧gk=a.put o.dst u∧ ∀t,o.dst≠some t→E'.mL t=E.mL t
def zw:List Nat→Nat→Option Nat
 | [],_=>none
 | x::r,t=>match Nat.ble 2000000 x with
  | true=>(match Nat.beq ((x - 2000000)%1000) t with
   | true=>some ((x - 2000000) / 1000)
   | false=>zw r t)
  | false=>zw r t
def tp (esc:List Nat) (dst:Option Nat) (cells:List AV) (L:List (Nat×List AV)) (H:List Blk) (K:nt Prop):Prop:=
 if cells.all iS=true then match dst with
  | none=>False
  | some t=>match zw esc t with
   | some j=>cM H[j]? fun blk=>K (.ptr j (blk.bi+1) 0 0) L (H.set j ⟨blk.bi+1,cells.length,[cells]⟩)
   | none=>if esc.contains t=true then K (.ptr H.length 0 0 0) L (H++[⟨0,cells.length,[cells]⟩]) else
    match dZ L t with
    | none=>K (.e7 t 0) ((t,cells)::L) H
    | some _=>False
 else False
theorem SimL.none {E:Env} {L:List (Nat×List AV)} (h:SimL E L) {t:Nat} (ao:dZ L t=none):E.mL t=none:=by
 cases hm:E.mL t with
 | none=>rfl
 | some c=>
  obtain⟨cells,aw,ty,h1,_⟩:=h t c hm
  rw[ao] at h1;cases h1
theorem HI {E:Env} {cells:List AV} {vs:List Value} (hs:cells.all iS=true) (h:aO (b1 E) cells vs):aO (b1 E.b0) cells vs:=
 ⟨h.1,fun i a v aF hv=>HH (List.all_eq_true.1 hs a (List.mem_of_getElem? aF)) (h.2 i a v aF hv)⟩
theorem NG {E:Env} {H:List Blk} {L:List (Nat×List AV)} {esc:List Nat} {dst:Option Nat} {cells:List AV} {aw:Array Value} {ty:TypeId} {K:AV→List (Nat×List AV)→List Blk→Prop}
  (aB:SimH E H) (bN:SimL E L) (hc:aO (b1 E) cells aw.toList) (h:tp esc dst cells L H K):
  ∃v L' H' E',K v L' H'∧E'.w=E.w.alloc (.cells aw ty (0,0))∧Step E E'∧SimH E' H'∧SimL E' L'∧V3 E' v (.pointer (some ⟨E.w.heap.size,0,none⟩))∧ ∀s,dst≠some s→E'.mL s=E.mL s:=by
 unfold tp at h
 split at h
 case isFalse=>exact h.elim
 case isTrue hs=>
 have ke:=HI hs hc
 cases dst with
 | none=>exact h.elim
 | some t=>
  have h:match zw esc t with
   | some j=>cM H[j]? fun blk=>K (.ptr j (blk.bi+1) 0 0) L (H.set j ⟨blk.bi+1,cells.length,[cells]⟩)
   | none=>if esc.contains t=true then K (.ptr H.length 0 0 0) L (H++[⟨0,cells.length,[cells]⟩]) else(match dZ L t with
    | none=>K (.e7 t 0) ((t,cells)::L) H
    | some _=>False):=h
  split at h
  ·rename_i j Vi
   obtain⟨blk,xo,hK⟩:=e8 h
   have kA:=(List.getElem?_eq_some_iff.1 xo).1
   have VD:=aB.eI j blk xo
   have hlen:aw.size=cells.length:=by have:=hc.1;simp at this;exact this.symm
   obtain⟨E',aR,e2,dq,hH,hI,lN,zM,sH,_,hml⟩:=vy (H:=H) (H':=H.set j ⟨blk.bi+1,cells.length,[cells]⟩) (b:=j) (cap:=1) (blk:=⟨blk.bi+1,cells.length,[cells]⟩) aB bN (mg.alloc E.w (.cells aw ty (0,0)))
    (by rw[List.getElem?_set];simp[kA]) (fun bT ea=>by rw[List.getElem?_set,if_neg (fun e=>ea e.symm)]) (fun _=>by simp) (by simp) (.inr (by show E.bi j<blk.bi+1;omega)) (by simp[hlen]) (by simp)
    ⟨fun i row av=>by
      cases i with
      | zero=>simp at av;subst av;rfl
      | succ i=>simp at av,
     fun i j row a av ap=>by
      cases i with
      | zero=>
       simp at av;subst av
       obtain⟨u,hu,hv⟩:=ke.get ap
       exact⟨u,by simpa using hu,hv⟩
      | succ i=>simp at av⟩
   refine⟨_,_,_,E',hK,aR,e2,dq,hH,.inr ⟨hI.symm,E.w.heap.size,lN,?_⟩,fun s _=>by rw[hml]⟩
   rw[Nat.zero_mul]
  split at h
  ·have hlen:aw.size=cells.length:=by have:=hc.1;simp at this;exact this.symm
   have xh:SimH E (H++[⟨0,cells.length,[cells]⟩]):=aB.snoc rfl
   obtain⟨qp,qo⟩:=aB.fresh H.length (Nat.le_refl _)
   obtain⟨E',aR,e2,dq,hH,hI,lN,zM,sH,_,hml⟩:=vy (H:=H++[⟨0,cells.length,[cells]⟩]) (H':=H++[⟨0,cells.length,[cells]⟩]) (b:=H.length) (cap:=1) (blk:=⟨0,cells.length,[cells]⟩) xh bN (mg.alloc E.w (.cells aw ty (0,0)))
    (by simp) (fun _ _=>rfl) (fun _=>rfl) (Nat.le_refl _) (.inl ⟨qp,qo.symm⟩) (by simp[hlen]) (by simp)
    ⟨fun i row av=>by
      cases i with
      | zero=>simp at av;subst av;rfl
      | succ i=>simp at av,
     fun i j row a av ap=>by
      cases i with
      | zero=>
       simp at av;subst av
       obtain⟨u,hu,hv⟩:=ke.get ap
       exact⟨u,by simpa using hu,hv⟩
      | succ i=>simp at av⟩
   refine⟨_,_,_,E',h,aR,e2,dq,hH,.inr ⟨hI.symm,E.w.heap.size,lN,?_⟩,fun s _=>by rw[hml]⟩
   rw[Nat.zero_mul]
  ·cases aQ:dZ L t with
   | some x=>rw[aQ] at h;exact h.elim
   | none=>
    rw[aQ] at h
    have hm:=bN.none aQ
    obtain⟨E',aR,e2,dq,hH,hI,_,hml⟩:=NF (L:=(t,cells)::L) (t:=t) (cells:=cells) aB (bN.cons hm) (mg.alloc E.w (.cells aw ty (0,0))) (by simp[dZ]) hm ke
    exact⟨_,_,_,E',h,aR,e2,dq,hH,hI,fun s hs=>hml s fun e=>hs (by rw[e])⟩
def lA:AV→AV
 | .aV rows _ fr=> .aV rows false fr
 | a=>a
theorem b1.lA {E:Env} {a:AV} {v:Value} (h:b1 E a v):b1 E (lA a) v:=by
 cases a with
 | aV rows full fr=>
  have h:aW E.w E.PA E.PF (.aV rows full fr) v:=h
  cases h with
  | aV eU e1 fG cd dQ hrel=>exact aW.aV eU e1 (fun h=>by cases h) cd dQ hrel
 | _=>exact h
theorem aO.lA {E:Env} {l:List AV} {m:List Value} (h:aO (b1 E) l m):aO (b1 E) (l.map lA) m:=by
 refine⟨by rw[List.length_map];exact h.1,fun i a v aF hv=> ?_⟩
 rw[List.getElem?_map] at aF
 cases aE:l[i]? with
 | none=>rw[aE] at aF;cases aF
 | some b=>rw[aE] at aF;cases aF;exact(h.2 i b v aE hv).lA
def vx (P:Program) (t:TypeId) (l c:AV) (L:List (Nat×List AV)) (H:List Blk) (K:nt Prop):Prop:=
 cM (im P t) fun e=>cM (ma P e) fun z=>if z.length=P.cellsOf e∧z.all iS=true then match l,c with
  | .int _ l,.int _ c=>0≤l∧l≤c∧(P.bytesOf e:Int)*c≤140737488355328∧c≤4611686018427387904∧K (.ref H.length 0 0 l.toNat false) L (H++[⟨0,z.length,List.replicate l.toNat (z.map lA)⟩])
  | _,_=>False
 else False
theorem ZZ (z:Array Value) (n k:Nat) (hk:k<n):(madeCells z n)[k]?=some (z[k%z.size]!):=by
 simp[madeCells,hk]
theorem aad {P:Program} {E:Env} {H:List Blk} {L:List (Nat×List AV)} {t:TypeId} {l c:AV} {A1 Jf:Value} {K:AV→List (Nat×List AV)→List Blk→Prop}
  (aB:SimH E H) (bN:SimL E L) (aE:V3 E l A1) (hc:V3 E c Jf) (h:vx P t l c L H K):
  ∃v L' H' E' u,K v L' H'∧(Instr.makeSlice t A1 Jf).run P E.w= .ok u E'.w∧Step E E'∧SimH E' H'∧SimL E' L'∧V3 E' v u∧E'.mL=E.mL:=by
 obtain⟨e,he,h⟩:=e8 h
 obtain⟨z,aH,h⟩:=e8 h
 split at h
 case isFalse=>exact h.elim
 case isTrue hb=>
 obtain⟨m_,Wz⟩:=hb
 cases l with
 | int vt l=>
  cases c with
  | int iN c=>
   obtain⟨aI,h1,h2,aM,hK⟩:=(show 0≤l∧l≤c∧(P.bytesOf e:Int)*c≤140737488355328∧c≤4611686018427387904∧K (.ref H.length 0 0 l.toNat false) L (H++[⟨0,z.length,List.replicate l.toNat (z.map lA)⟩]) from h)
   obtain rfl:=aE.nb
   obtain rfl:=hc.nb
   obtain⟨i,v,q1,q2,q3,q4⟩:=ud (E:=E) aH
   have af:=(HI Wz q4).lA
   have tb:v.cells.size=z.length:=by rw[q3];simp
   have u6:i.size=z.length:=by rw[m_];simp[Program.cellsOf,q1]
   have hby:P.bytesOf e=i.bytes:=by simp[Program.bytesOf,q1]
   have hu:=rr he
   have fx:=run_make (P:=P) E.w t e i v hu q1 q2 vt iN l c aI h1 (by rw[hby] at h2;omega) (by omega)
   have xh:SimH E (H++[⟨0,z.length,List.replicate l.toNat (z.map lA)⟩]):=aB.snoc rfl
   obtain⟨qp,qo⟩:=aB.fresh H.length (Nat.le_refl _)
   have KJ:l.toNat≤c.toNat:=by omega
   obtain⟨E',aR,e2,dq,hH,hI,lN,zM,sH,_,hml⟩:=vy (H:=H++[⟨0,z.length,List.replicate l.toNat (z.map lA)⟩]) (H':=H++[⟨0,z.length,List.replicate l.toNat (z.map lA)⟩]) (b:=H.length) (cap:=c.toNat) (blk:=⟨0,z.length,List.replicate l.toNat (z.map lA)⟩) xh bN (mg.alloc E.w (.cells (madeCells v.cells (c.toNat*i.size)) e (0,0)))
    (by simp) (fun _ _=>rfl) (fun _=>rfl) (Nat.le_refl _) (.inl ⟨qp,qo.symm⟩) (by rw[size_madeCells,u6]) (by simpa using KJ)
    ⟨fun ir row av=>by
      have av:(List.replicate l.toNat (z.map lA))[ir]?=some row:=av
      rw[List.getElem?_replicate] at av
      split at av
      ·cases av;exact List.length_map ..
      ·exact absurd av (fun h=>by cases h),
     fun ir j row a av ap=>by
      have av:(List.replicate l.toNat (z.map lA))[ir]?=some row:=av
      rw[List.getElem?_replicate] at av
      split at av
      ·rename_i hi
       cases av
       have u9:=(List.getElem?_eq_some_iff.1 ap).1
       rw[List.length_map] at u9
       obtain⟨u,hu,hv⟩:=af.get ap
       refine⟨u,?_,hv⟩
       have aX:ir*z.length+j<c.toNat*z.length:=by
        calc ir*z.length+j<ir*z.length+z.length:=by omega
         _=(ir+1)*z.length:=by rw[Nat.add_mul,Nat.one_mul]
         _≤c.toNat*z.length:=Nat.mul_le_mul_right _ (by omega)
       show(madeCells v.cells (c.toNat*i.size))[ir*z.length+j]?=_
       rw[u6,ZZ _ _ _ aX,tb,show(ir*z.length+j)%z.length=j by rw[Nat.mul_comm,Nat.mul_add_mod,Nat.mod_eq_of_lt u9],←hu,Array.getElem?_toList,getElem!_pos v.cells j (by omega),Array.getElem?_eq_getElem]
      ·exact absurd av (fun h=>by cases h)⟩
   refine⟨_,_,_,E',_,hK,by rw[fx,aR],e2,dq,hH,.inr ⟨hI.symm,.inr ⟨E.w.heap.size,c.toNat,lN,by rw[Nat.zero_mul],KJ,(fun h=>by cases h),by rw[sH];omega⟩⟩,hml⟩
  | _=>exact h.elim
 | _=>exact h.elim
def tL:List Nat→Option Nat
 | []=>none
 | x::r=>match Nat.ble 1000000 x with
  | true=>some (x - 1000000)
  | false=>tL r
def ZM (vY:Option Nat) (iF:Bool) (n sz:Nat) (rows:List (List AV)) (L:List (Nat×List AV)) (H:List Blk) (K:nt Prop):Prop:=match vY with
 | none=>K (.ref H.length 0 0 n iF) L (H++[⟨0,sz,rows⟩])
 | some j=>cM H[j]? fun blk=>K (.ref j (blk.bi+1) 0 n true) L (H.set j ⟨blk.bi+1,sz,rows⟩)
def sK (esc:List Nat) (dst:Option Nat):Bool:=match dst with
 | none=>false
 | some d=>esc.any fun x=>Nat.beq x (500000+d)
def sF (P:Program) (fr:Bool) (vY:Option Nat) (t:TypeId) (n:Nat) (parts:List (Nat×AV)) (L:List (Nat×List AV)) (H:List Blk) (K:nt Prop):Prop:=
 cM (im P t) fun e=>cM (ma P e) fun z=>if z.length=P.cellsOf e∧n*z.length≤1000000∧n≤1000000 then
  cM (od (fun i=>some (i*z.length,z.length)) ((List.range (n*z.length)).map fun i=>z.getD (i%z.length) .undef) parts) fun cells=>
   if(bif fr then false else cells.all iB)=true then K (.aV (chunk z.length n (cells.map hX)) true (cells.all mZ)) L H else
   if cells.all iS=true then ZM vY (!fr) n z.length (chunk z.length n cells) L H K else False
 else False
theorem SI {size n i:Nat} {cells row:List AV} (aE:cells.length=n*size) (av:(chunk size n cells)[i]?=some row):row.length=size:=by
 unfold chunk at av
 rw[List.getElem?_map] at av
 cases af:(List.range n)[i]? with
 | none=>rw[af] at av;cases av
 | some k=>
  have hk:=(List.getElem?_eq_some_iff.1 af).1
  have hi:k=i:=by have:=(List.getElem?_eq_some_iff.1 af).2;simpa using this.symm
  rw[af] at av;cases av
  simp only[List.length_take,List.length_drop]
  have dx:i<n:=by simpa using hk
  rw[aE,hi]
  have:(i+1)*size≤n*size:=Nat.mul_le_mul_right _ dx
  rw[Nat.add_mul,Nat.one_mul] at this
  omega
theorem Sc {P:Program} {fr:Bool} {vY:Option Nat} {E:Env} {H:List Blk} {L:List (Nat×List AV)} {t:TypeId} {n:Nat} {parts:List (Nat×AV)} {jK:List (Nat×Value)} {K:AV→List (Nat×List AV)→List Blk→Prop} (aB:SimH E H) (bN:SimL E L)
  (ai:aO (fun a b=>a.1=b.1∧V2 E a.2 b.2) parts jK) (h:sF P fr vY t n parts L H K):
  ∃v u L' H' E',K v L' H'∧(Instr.buildSlice t n jK.toArray).run P E.w= .ok u E'.w∧Step E E'∧SimH E' H'∧SimL E' L'∧V3 E' v u∧E'.mL=E.mL:=by
 obtain⟨e,he,h⟩:=e8 h
 obtain⟨z,aH,h⟩:=e8 h
 split at h
 case isFalse=>exact h.elim
 case isTrue hb=>
 obtain⟨cells,hf,h⟩:=e8 h
 split at h
 case isTrue hby=>
  have hby:cells.all iB=true:=by cases fr with
   | true=>cases hby
   | false=>exact hby
  have hv:uF P t n parts (fun r=>K r L H):=by
   refine dN he (dN aH ?_)
   rw[if_pos hb]
   refine dN hf ?_
   rw[if_pos hby];exact h
  obtain⟨r,u,E',hK,av,af,aM⟩:=IT aB ai hv
  exact⟨r,u,L,H,E',hK,av,af.step,af.simH aB,af.simL aB bN,aM,af.mL⟩
 case isFalse=>
 split at h
 case isFalse=>exact h.elim
 case isTrue hs=>
 obtain⟨ha,hrel,fx,hlen⟩:=Sf ai he aH hb.1 hb.2 hf
 have m6:(chunk z.length n cells).length=n:=by simp[chunk]
 have EN:ha.size=n*z.length:=by have:=hrel.1;simp at this;omega
 have KT:uq E z.length (chunk z.length n cells) ha:=⟨fun i row av=>SI hlen av,fun i j row a av ap=>by
   obtain⟨hi,u9,hc⟩:=I3 av ap
   obtain⟨u,hu,hv⟩:=hrel.get hc
   exact⟨u,by rw[Array.getElem?_toList] at hu;exact hu,hv⟩⟩
 cases vY with
 | none=>
  have xh:SimH E (H++[⟨0,z.length,chunk z.length n cells⟩]):=aB.snoc rfl
  obtain⟨qp,qo⟩:=aB.fresh H.length (Nat.le_refl _)
  obtain⟨E',aR,e2,dq,hH,hI,lN,zM,sH,_,hml⟩:=vy (H:=H++[⟨0,z.length,chunk z.length n cells⟩]) (H':=H++[⟨0,z.length,chunk z.length n cells⟩]) (b:=H.length) (cap:=n) (blk:=⟨0,z.length,chunk z.length n cells⟩) xh bN (mg.alloc E.w (.cells ha e (0,0)))
   (by simp) (fun _ _=>rfl) (fun _=>rfl) (Nat.le_refl _) (.inl ⟨qp,qo.symm⟩) EN (by rw[m6];exact Nat.le_refl _) KT
  exact⟨_,_,_,_,E',h,by rw[fx,aR],e2,dq,hH,.inr ⟨hI.symm,.inr ⟨E.w.heap.size,n,lN,by rw[Nat.zero_mul],Nat.le_refl _,(fun _=>rfl),by rw[sH];omega⟩⟩,hml⟩
 | some j=>
  obtain⟨blk,xo,hK⟩:=e8 (show cM H[j]? fun blk=>K (.ref j (blk.bi+1) 0 n true) L (H.set j ⟨blk.bi+1,z.length,chunk z.length n cells⟩) from h)
  have kA:=(List.getElem?_eq_some_iff.1 xo).1
  have VD:=aB.eI j blk xo
  obtain⟨E',aR,e2,dq,hH,hI,lN,zM,sH,_,hml⟩:=vy (H:=H) (H':=H.set j ⟨blk.bi+1,z.length,chunk z.length n cells⟩) (b:=j) (cap:=n) (blk:=⟨blk.bi+1,z.length,chunk z.length n cells⟩) aB bN (mg.alloc E.w (.cells ha e (0,0)))
   (by rw[List.getElem?_set];simp[kA]) (fun bT ea=>by rw[List.getElem?_set,if_neg (fun e=>ea e.symm)]) (fun _=>by simp) (by simp) (.inr (by show E.bi j<blk.bi+1;omega)) EN (by rw[m6];exact Nat.le_refl _) KT
  exact⟨_,_,_,_,E',hK,by rw[fx,aR],e2,dq,hH,.inr ⟨hI.symm,.inr ⟨E.w.heap.size,n,lN,by rw[Nat.zero_mul],Nat.le_refl _,(fun _=>rfl),by rw[sH];omega⟩⟩,hml⟩
def oK:AV→Bool
 | .aV _ _ fr=>fr
 | .e7 _ _ | .da _ _ | .agg _ | .tup _ | .fn _ _=>false
 | _=>true
def jH (k:Nat):AV→AV
 | .ref b g o n f=> .ref (k+b) g o n f
 | .ptr b g r c=> .ptr (k+b) g r c
 | a=>a
def vG:AV→Bool
 | .agg l=>l.all oK
 | a=>oK a
def q5 (k:Nat):AV→AV
 | .agg l=> .agg (l.map (jH k))
 | a=>jH k a
def vH:AV→Bool
 | .tup l=>l.all vG
 | a=>vG a
def oV (k:Nat):AV→AV
 | .tup l=> .tup (l.map (q5 k))
 | a=>q5 k a
def kp (k:Nat) (b:Blk):Blk:=⟨b.bi,b.sz,b.rows.map fun row=>row.map (jH k)⟩
def r7 (H:List Blk):Bool:=H.all fun b=>b.rows.all fun row=>row.all oK
def Env.join (E E1:Env) (n:Nat):Env:=
 {w:=E1.w,PA:=fun c=>E.PA c∨E1.PF c,PF:=fun c=>E.PF c∨E1.PF c
  m:=fun b=>if b<n then E.m b else E1.m (b - n),bi:=fun b=>if b<n then E.bi b else E1.bi (b - n)
  sz:=fun b=>if b<n then E.sz b else E1.sz (b - n),cp:=fun b=>if b<n then E.cp b else E1.cp (b - n),mL:=E.mL}
section
variable {E E1:Env} {n:Nat}
theorem XV {b:Nat} (h:b<n):(E.join E1 n).m b=E.m b∧(E.join E1 n).bi b=E.bi b∧(E.join E1 n).sz b=E.sz b∧(E.join E1 n).cp b=E.cp b:=⟨if_pos h,if_pos h,if_pos h,if_pos h⟩
theorem FG (b:Nat):(E.join E1 n).m (n+b)=E1.m b∧(E.join E1 n).bi (n+b)=E1.bi b∧(E.join E1 n).sz (n+b)=E1.sz b∧(E.join E1 n).cp (n+b)=E1.cp b:=by
 have h: ¬n+b<n:=by omega
 have e:n+b - n=b:=by omega
 refine⟨?_,?_,?_,?_⟩<;>(unfold Env.join;simp only[if_neg h,e])
theorem FH {E':Env} (hL:E'=E.join E1 n) {a:AV} {v:Value} (aG:oK a=true) (hv:b1 E1 a v):b1 E' (jH n a) v:=by
 have lV: ∀{a:AV} {v:Value},oK a=true→aW E1.w E1.PA E1.PF a v→aW E'.w E'.PA E'.PF a v:=by
  intro a v aG h
  subst hL
  cases h with
  | undef=>exact .undef _
  | int=>exact .int _ _
  | bool=>exact .bool _
  | str=>exact .str _
  | fI=>exact .fI
  | fY=>exact .fY
  | @aV _ _ PB rows full fresh A cap sz vs eU e1 fG cd dQ hrel=>
   have hf:fresh=true:=aG
   refine .aV (PB:=PB) (sz:=sz) (vs:=vs) (fun c hc=> ?_) e1 fG cd dQ hrel
   have:=eU c hc
   rw[if_pos hf] at this ⊢
   exact .inr this
  | da=>cases aG
  | fn=>cases aG
 cases a with
 | ref b g off m full=>
  subst hL
  obtain⟨ef,aS,nc,rQ⟩:=FG (E:=E) (E1:=E1) (n:=n) b
  show ez (E.join E1 n) (.ref (n+b) g off m full) v
  rcases(show ez E1 (.ref b g off m full) v from hv) with⟨h,k⟩ | ⟨h,k⟩
  ·exact .inl ⟨by rw[aS];exact h,k⟩
  ·refine .inr ⟨by rw[aS];exact h,?_⟩
   rw[ef,nc,rQ];exact k
 | ptr b g r c=>
  subst hL
  obtain⟨ef,aS,nc,rQ⟩:=FG (E:=E) (E1:=E1) (n:=n) b
  show ez (E.join E1 n) (.ptr (n+b) g r c) v
  rcases(show ez E1 (.ptr b g r c) v from hv) with⟨h,k⟩ | ⟨h,k⟩
  ·exact .inl ⟨by rw[aS];exact h,k⟩
  ·refine .inr ⟨by rw[aS];exact h,?_⟩
   rw[ef,nc];exact k
 | e7 t c=>cases aG
 | fn f c=>cases aG
 | agg l=>cases aG
 | tup l=>cases aG
 | da l c=>cases aG
 | undef=>exact aW.undef _
 | int k m=>exact lV (a:= .int k m) rfl hv
 | bool b=>exact lV (a:= .bool b) rfl hv
 | str s=>exact lV (a:= .str s) rfl hv
 | aV rows full fr=>exact lV (a:= .aV rows full fr) aG hv
 | fI=>exact lV (a:= .fI) rfl hv
 | fY=>exact lV (a:= .fY) rfl hv
theorem L5 {E':Env} (hL:E'=E.join E1 n) {a:AV} {v:Value} (aG:vG a=true) (hv:V2 E1 a v):V2 E' (q5 n a) v:=by
 by_cases hf: ∃l,a= .agg l
 ·obtain⟨l,rfl⟩:=hf
  obtain⟨vs,rfl,ai⟩:=hv
  refine⟨vs,rfl,by rw[List.length_map];exact ai.1,fun i x u hx hu=> ?_⟩
  rw[List.getElem?_map] at hx
  cases aE:l[i]? with
  | none=>simp[aE] at hx
  | some y=>
   simp[aE] at hx;subst hx
   exact FH hL (List.all_eq_true.1 (show l.all oK=true from aG) y (List.mem_of_getElem? aE)) (ai.2 i y u aE hu)
 ·have aR:q5 n a=jH n a:=by cases a<;>first | rfl | exact absurd ⟨_,rfl⟩ hf
  have e2:vG a=oK a:=by cases a<;>first | rfl | exact absurd ⟨_,rfl⟩ hf
  rw[ny fun l e=>hf ⟨l,e⟩] at hv
  rw[aR]
  exact jp (FH hL (e2▸aG) hv)
theorem XW {E':Env} (hL:E'=E.join E1 n) {a:AV} {v:Value} (aG:vH a=true) (hv:V3 E1 a v):V3 E' (oV n a) v:=by
 by_cases hf: ∃l,a= .tup l
 ·obtain⟨l,rfl⟩:=hf
  obtain⟨vs,rfl,ai⟩:=hv
  refine⟨vs,rfl,by rw[List.length_map];exact ai.1,fun i x u hx hu=> ?_⟩
  rw[List.getElem?_map] at hx
  cases aE:l[i]? with
  | none=>simp[aE] at hx
  | some y=>
   simp[aE] at hx;subst hx
   exact L5 hL (List.all_eq_true.1 (show l.all vG=true from aG) y (List.mem_of_getElem? aE)) (ai.2 i y u aE hu)
 ·have aR:oV n a=q5 n a:=by cases a<;>first | rfl | exact absurd ⟨_,rfl⟩ hf
  have e2:vH a=vG a:=by cases a<;>first | rfl | exact absurd ⟨_,rfl⟩ hf
  rw[nz fun l e=>hf ⟨l,e⟩] at hv
  rw[aR]
  exact o6 (L5 hL (e2▸aG) hv)
end
theorem Sv {P:Program} {f:FuncId} {args dH:List AV} {L:List (Nat×List AV)} {H:List Blk} {E:Env} {vs:List Value} {Q:AV→List Blk→Prop} (aB:SimH E H) (bN:SimL E L)
  (aF:aO (V2 E) args vs) (hs:aO (ey L H) args dH) (h:dw P f dH [] fun r eL=>vH r=true∧r7 eL=true∧Q r eL):
  Calls P f vs.toArray E.w fun e w'=> ∃r v eL E',e= .returned v∧Q r eL∧E'.w=w'∧Step E E'∧SimH E' (H++eL.map (kp H.length))∧SimL E' L∧V3 E' (oV H.length r) v∧E'.mL=E.mL:=by
 have sN:aO (V2 E.frozen) dH vs:=⟨hs.1▸aF.1,fun i x u hx hu=>by
  have aX:i<args.length:=by have:=(List.getElem?_eq_some_iff.1 hx).1;have:=hs.1;omega
  have aE:=List.getElem?_eq_getElem aX
  exact Pu (Sub.refl L H) aB bN (hs.2 i _ x aE hx) (aF.2 i _ u aE hu)⟩
 refine(h.2 E.frozen vs (fun _=>rfl) (JX aB) sN).mono ?_
 rintro e w' ⟨r,v,eL,E1,rfl,⟨aG,xF,av⟩,rfl,ao,eB,hv,a8⟩
 have xk: ∀c,E1.PF c→E.w.heap.size≤c∧c<E1.w.heap.size:=fun c hc=>⟨(a8.e9 c hc).elim (fun h=>h.elim) id,eB.dy c (eB.dr c hc)⟩
 have uY: ∀c,E1.fk c→E.w.heap.size≤c∧c<E1.w.heap.size:=fun c hc=>⟨(a8.nL c hc).elim (fun⟨b,hb⟩=>by cases hb) id,eB.fl c hc⟩
 have lU: ∀c,c<E.w.heap.size→E1.w.heap[c]?=E.w.heap[c]?:=fun c hc=>a8.cT c hc (fun⟨b,hb⟩=>by cases hb) (fun⟨b,hb⟩=>by cases hb)
 have jw:=aB.fl
 have jx:=aB.gf
 generalize hL:E.join E1 H.length=E'
 have lW: ∀b,b<H.length→E'.m b=E.m b∧E'.bi b=E.bi b∧E'.sz b=E.sz b∧E'.cp b=E.cp b:=fun b hb=>hL▸XV hb
 have gX: ∀b,E'.m (H.length+b)=E1.m b∧E'.bi (H.length+b)=E1.bi b∧E'.sz (H.length+b)=E1.sz b∧E'.cp (H.length+b)=E1.cp b:=fun b=>hL▸FG b
 have lX:E'.w=E1.w:=by rw[←hL];rfl
 have vr: ∀c,E'.PA c↔E.PA c∨E1.PF c:=fun c=>by rw[←hL];exact Iff.rfl
 have AT: ∀c,E'.PF c↔E.PF c∨E1.PF c:=fun c=>by rw[←hL];exact Iff.rfl
 have rR:E'.mL=E.mL:=by rw[←hL];rfl
 have split: ∀b,b<H.length∨ ∃k,b=H.length+k:=fun b=>by
  rcases Nat.lt_or_ge b H.length with h | h
  ·exact .inl h
  ·exact .inr ⟨b - H.length,by omega⟩
 have aaB: ∀b x,E.m b=some x→b<H.length:=fun b x hb=>by
  rcases Nat.lt_or_ge b H.length with h | h
  ·exact h
  ·rw[(aB.fresh b h).1] at hb;cases hb
 have oE: ∀c,E'.fk c→E.fk c∨E1.fk c:=fun c ⟨b,hb⟩=>by
  rcases split b with h | ⟨k,rfl⟩
  ·exact .inl ⟨b,by rw[←(lW b h).1];exact hb⟩
  ·exact .inr ⟨k,by rw[←(gX k).1];exact hb⟩
 have fg:Step E E':=
  {le:=⟨fun c hc=>(vr c).2 (.inl hc),fun c hc=>(AT c).2 (.inl hc),fun c hc=>by rw[lX];exact lU c (aB.dy c hc),fun c hc=>by rw[lX];exact lU c (aB.dy c (aB.dr c hc)),fun b=>by
     rcases split b with h | ⟨k,rfl⟩
     ·rw[(lW b h).2.1];exact Nat.le_refl _
     ·rw[(aB.fresh (H.length+k) (by omega)).2];exact Nat.zero_le _,fun b x hx _=>by
     have h:=aaB b x hx
     exact⟨by rw[(lW b h).1];exact hx,(lW b h).2.2.1,(lW b h).2.2.2⟩,fun t c h=>by rw[rR];exact h⟩
   os:=by rw[lX];exact a8.os
   tape:=by rw[lX];exact a8.tape
   output:=by rw[lX];exact a8.output
   size:=by rw[lX];exact a8.size
   cT:=fun c hc _ _=>by rw[lX];exact lU c hc
   iu:=fun b c hb=>by
    rcases split b with h | ⟨k,rfl⟩
    ·exact .inl (by rw[←(lW b h).1];exact hb)
    ·exact .inr (uY c ⟨k,by rw[←(gX k).1];exact hb⟩).1
   iK:=fun c ⟨t,bn⟩=> .inl ⟨t,by rw[←rR];exact bn⟩
   fo:=fun c hc=>((vr c).1 hc).elim .inl fun h=> .inr (xk c h).1
   e9:=fun c hc=>((AT c).1 hc).elim .inl fun h=> .inr (xk c h).1}
 have D3: ∀b,b<H.length→(H++eL.map (kp H.length))[b]?=H[b]?:=fun b hb=>List.getElem?_append_left hb
 have D2: ∀k,(H++eL.map (kp H.length))[H.length+k]?=(eL[k]?).map (kp H.length):=fun k=>by
  rw[List.getElem?_append_right (by omega),List.getElem?_map];congr 2;omega
 refine⟨r,v,eL,E',rfl,av,lX,fg,?_,?_,XW hL.symm aG hv,rR⟩
 ·exact{
   heap:=fun b c hb=>by
    rcases split b with h | ⟨k,rfl⟩
    ·obtain⟨ef,aS,nc,rQ⟩:=lW b h
     rw[ef] at hb
     obtain⟨blk,aw,ty,q1,b5,q2,q3,q4,cW,cO⟩:=aB.heap b c hb
     refine⟨blk,aw,ty,by rw[D3 b h];exact q1,by rw[nc];exact b5,by rw[lX,lU c (jw c ⟨b,hb⟩)];exact q2,by rw[nc,rQ];exact q3,by rw[rQ];exact q4,by rw[nc];exact cW,fun i j row a av ap=> ?_⟩
     obtain⟨u,hu,EM⟩:=cO i j row a av ap
     exact⟨u,by rw[nc];exact hu,EM.le fg.le.b0⟩
    ·obtain⟨ef,aS,nc,rQ⟩:=gX k
     rw[ef] at hb
     obtain⟨blk,aw,ty,q1,b5,q2,q3,q4,cW,cO⟩:=eB.heap k c hb
     have VT: ∀row∈blk.rows,∀a∈row,oK a=true:=fun row av a aF=>
      List.all_eq_true.1 (List.all_eq_true.1 (List.all_eq_true.1 xF blk (List.mem_of_getElem? q1)) row av) a aF
     refine⟨kp H.length blk,aw,ty,by rw[D2 k,q1];rfl,by rw[nc];exact b5,by rw[lX];exact q2,by rw[nc,rQ];exact q3,by rw[rQ];show(blk.rows.map _).length≤_;rw[List.length_map];exact q4,fun i row' av=> ?_,fun i j row' gk av ap=> ?_⟩
     ·have av:(blk.rows.map fun row=>row.map (jH H.length))[i]?=some row':=av
      rw[List.getElem?_map] at av
      cases af:blk.rows[i]? with
      | none=>simp[af] at av
      | some row=>
       simp[af] at av;subst av
       rw[List.length_map,nc];exact cW i row af
     ·have av:(blk.rows.map fun row=>row.map (jH H.length))[i]?=some row':=av
      rw[List.getElem?_map] at av
      cases af:blk.rows[i]? with
      | none=>simp[af] at av
      | some row=>
       simp[af] at av;subst av
       rw[List.getElem?_map] at ap
       cases jz:row[j]? with
       | none=>simp[jz] at ap
       | some a=>
        simp[jz] at ap;subst ap
        obtain⟨u,hu,EM⟩:=cO i j row a af jz
        refine⟨u,by rw[nc];exact hu,?_⟩
        have Kf:E'.b0=E.b0.join E1.b0 H.length:=by rw[←hL];rfl
        exact FH Kf (VT row (List.mem_of_getElem? af) a (List.mem_of_getElem? jz)) EM
   eI:=fun b blk hb=>by
    rcases split b with h | ⟨k,rfl⟩
    ·rw[D3 b h] at hb;rw[(lW b h).2.1];exact aB.eI b blk hb
    ·rw[D2 k] at hb
     cases af:eL[k]? with
     | none=>simp[af] at hb
     | some y=>simp[af] at hb;subst hb;rw[(gX k).2.1];exact eB.eI k y af
   gQ:=fun b hb=>by
    rcases split b with h | ⟨k,rfl⟩
    ·rw[(lW b h).1] at hb
     obtain⟨blk,q1,q2⟩:=aB.gQ b hb
     exact⟨blk,by rw[D3 b h];exact q1,by rw[(lW b h).2.2.1];exact q2⟩
    ·rw[(gX k).1] at hb
     obtain⟨blk,q1,q2⟩:=eB.gQ k hb
     exact⟨kp H.length blk,by rw[D2 k,q1];rfl,by rw[(gX k).2.2.1];exact q2⟩
   fresh:=fun b hb=>by
    rw[List.length_append,List.length_map] at hb
    rcases split b with h | ⟨k,rfl⟩
    ·omega
    ·rw[(gX k).1,(gX k).2.1];exact eB.fresh k (by omega)
   gF:=fun b bT c h1 h2=>by
    rcases split b with h | ⟨k,rfl⟩<;>rcases split bT with h' | ⟨iM,rfl⟩
    ·rw[(lW b h).1] at h1;rw[(lW bT h').1] at h2;exact aB.gF b bT c h1 h2
    ·rw[(lW b h).1] at h1;rw[(gX iM).1] at h2
     have:=jw c ⟨b,h1⟩;have:=(uY c ⟨iM,h2⟩).1;omega
    ·rw[(gX k).1] at h1;rw[(lW bT h').1] at h2
     have:=jw c ⟨bT,h2⟩;have:=(uY c ⟨k,h1⟩).1;omega
    ·rw[(gX k).1] at h1;rw[(gX iM).1] at h2;rw[eB.gF k iM c h1 h2]
   iL:=fun t hz c h1 h2=>by rw[rR] at h1 h2;exact aB.iL t hz c h1 h2
   gn:=fun b t c h1 h2=>by
    rw[rR] at h2
    rcases split b with h | ⟨k,rfl⟩
    ·rw[(lW b h).1] at h1;exact aB.gn b t c h1 h2
    ·rw[(gX k).1] at h1
     have:=jx c ⟨t,h2⟩;have:=(uY c ⟨k,h1⟩).1;omega
   hq:=fun c hc hi=>by
    rcases(vr c).1 hc with h | h<;>rcases oE c hi with h' | h'
    ·exact aB.hq c h h'
    ·have:=aB.dy c h;have:=(uY c h').1;omega
    ·have:=jw c h';have:=(xk c h).1;omega
    ·exact eB.hq c (eB.dr c h) h'
   hN:=fun c hc ⟨t,bn⟩=>by
    rw[rR] at bn
    rcases(vr c).1 hc with h | h
    ·exact aB.hN c h ⟨t,bn⟩
    ·have:=jx c ⟨t,bn⟩;have:=(xk c h).1;omega
   dr:=fun c hc=>(vr c).2 (((AT c).1 hc).elim (fun h=> .inl (aB.dr c h)) .inr)
   fh:=fun c hc=>by
    rw[lX]
    rcases(AT c).1 hc with h | h
    ·exact(aB.fh c h).same (lU c (aB.dy c (aB.dr c h)))
    ·exact eB.fh c h
   dy:=fun c hc=>by
    rw[lX]
    rcases(vr c).1 hc with h | h
    ·exact Nat.lt_of_lt_of_le (aB.dy c h) a8.size
    ·exact(xk c h).2
   fl:=fun c hc=>by
    rw[lX]
    rcases oE c hc with h | h
    ·exact Nat.lt_of_lt_of_le (jw c h) a8.size
    ·exact(uY c h).2
   gf:=fun c ⟨t,bn⟩=>by
    rw[rR] at bn;rw[lX]
    exact Nat.lt_of_lt_of_le (jx c ⟨t,bn⟩) a8.size}
 ·intro t c hm
  rw[rR] at hm
  obtain⟨cells,aw,ty,q1,q2,q3⟩:=bN t c hm
  exact⟨cells,aw,ty,q1,by rw[lX,lU c (jx c ⟨t,hm⟩)];exact q2,q3.mono fun _ _ k=>k.le fg.le.b0⟩
theorem Sr {P:Program} {f:FuncId} {args:List AV} {L:List (Nat×List AV)} {H:List Blk} {E:Env} {vs:List Value} {Q:AV→List Blk→Prop} (aB:SimH E H) (bN:SimL E L)
  (aF:aO (V2 E) args vs) (ao:args.all jC=true) (h:dw P f args H fun r H'=>vA r=true∧Q r H'):
  Calls P f vs.toArray E.w fun e w'=> ∃r v H' E',e= .returned v∧Q r H'∧E'.w=w'∧Step E E'∧SimH E' H'∧SimL E' L∧V3 E' r v∧E'.mL=E.mL:=by
 have sN:aO (V2 E.b0) args vs:=⟨aF.1,fun i a v h1 h2=>(aF.2 i a v h1 h2).b0 (List.all_eq_true.1 ao a (List.mem_of_getElem? h1))⟩
 refine(h.2 E.b0 vs (fun _=>rfl) aB.b0 sN).mono ?_
 rintro e w' ⟨r,v,H',E1,rfl,⟨VQ,av⟩,rfl,AE,eB,hv,a8⟩
 let E':Env:={E1 with mL:=E.mL}
 have Kf:E'.b0=E1.b0:=rfl
 have jx:=aB.gf
 have nL: ∀c,E1.fk c→E.fk c∨E.w.heap.size≤c:=a8.nL
 have VH: ∀c,E.j1 c→E1.w.heap[c]?=E.w.heap[c]?:=fun c hc=>a8.cT c (jx c hc) (fun⟨b,hb⟩=>by
  obtain⟨t,bn⟩:=hc
  exact aB.gn b t c hb bn) (fun⟨b,hb⟩=>by cases hb)
 have hle:E1.b0.gj E':=Env.Bc E'
 have fg:Step E E':=
  {le:=⟨a8.le.fo,a8.le.e9,a8.le.sl,a8.le.wf,a8.le.bi,a8.le.m,fun _ _ h=>h⟩
   os:=a8.os,tape:=a8.tape,output:=a8.output,size:=a8.size
   cT:=fun c hc h1 h2=>a8.cT c hc h1 (fun⟨b,hb⟩=>by cases hb)
   iu:=a8.iu
   iK:=fun c h=> .inl h
   fo:=a8.fo
   e9:=a8.e9}
 refine⟨r,v,H',E',rfl,av,rfl,fg,?_,?_,?_,rfl⟩
 ·exact{eB with
   iL:=aB.iL
   gn:=fun b t c h1 h2=>by
    rcases nL c ⟨b,h1⟩ with⟨bT,h⟩ | h
    ·exact aB.gn bT t c h h2
    ·have:=jx c ⟨t,h2⟩;omega
   hN:=fun c hc ⟨t,bn⟩=>by
    rcases a8.fo c hc with h | h
    ·exact aB.hN c h ⟨t,bn⟩
    ·have h:E.w.heap.size≤c:=h
     have:=jx c ⟨t,bn⟩;omega
   gf:=fun c hc=>Nat.lt_of_lt_of_le (jx c hc) a8.size}
 ·intro t c hm
  obtain⟨cells,aw,ty,q1,q2,q3⟩:=bN t c hm
  exact⟨cells,aw,ty,q1,by show E1.w.heap[c]?=_;rw[VH c ⟨t,hm⟩];exact q2,q3.mono fun _ _ k=>k.le fg.le.b0⟩
 ·exact(hv.b0 VQ).le hle
end Go.Proofs.YtglpfccgmfhkdaaGreat.Fw
