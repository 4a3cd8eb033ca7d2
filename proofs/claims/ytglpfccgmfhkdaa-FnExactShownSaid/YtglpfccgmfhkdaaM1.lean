/- The framework, part A: abstract values, how they stand for Go's values in a world, and what stays as it is when the world grows. -/
import Derived.WalkKit
import Derived.KernelRfl
import Derived.Orders
import Derived.Laws.StructEq
import Derived.ChangeArms
import Derived.ChangeShapes
import Derived.SizedLaws
import Derived.Below
import Derived.JoinedOf
import Derived.Test.YtglpfccgmfhkdaaProg
import Derived.Shelf.Strings.Builder1
import Derived.Lib.Hide
import Derived.WalkSpells
set_option linter.unusedVariables false
namespace Go.Proofs.Ytglpfccgmfhkdaa.Fw
open Go
inductive AV where
 | undef
 | int (k:IntKind) (n:Int)
 | bool (b:Bool)
 | str (s:ByteArray)
 | a8 (rows:List (List AV)) (full fresh:Bool)
 | ref (b g off n:Nat) (full:Bool)
 | ptr (b g row col:Nat)
 | dZ (t col:Nat)
 | cD (cells:List AV) (col:Nat)
 | eI
 | eU
 | agg (cells:List AV)
 | tup (vs:List AV)
 | fn (f:FuncId) (caps:List AV)
 deriving Inhabited
structure Blk where
 ba:Nat
 sz:Nat
 rows:List (List AV)
 deriving Inhabited
structure St where
 T:List AV
 L:List (Nat×List AV)
 H:List Blk
def aK {α β:Type} (R:α→β→Prop) (l:List α) (m:List β):Prop:=
 l.length=m.length∧ ∀(i:Nat) (a:α) (b:β),l[i]?=some a→m[i]?=some b→R a b
theorem aK.nil {α β:Type} {R:α→β→Prop}:aK R [] []:=⟨rfl,fun i a b h=>by simp at h⟩
theorem aK.cons {α β:Type} {R:α→β→Prop} {a:α} {b:β} {l:List α} {m:List β} (h:R a b) (k:aK R l m):aK R (a::l) (b::m):=
 ⟨by simp[k.1],fun i x y hx bm=>by
  cases i with
  | zero=>simp at hx bm;subst hx;subst bm;exact h
  | succ i=>exact k.2 i x y (by simpa using hx) (by simpa using bm)⟩
theorem aK.head {α β:Type} {R:α→β→Prop} {a:α} {b:β} {l:List α} {m:List β} (h:aK R (a::l) (b::m)):R a b:=h.2 0 a b rfl rfl
theorem aK.tail {α β:Type} {R:α→β→Prop} {a:α} {b:β} {l:List α} {m:List β} (h:aK R (a::l) (b::m)):aK R l m:=
 ⟨by simpa using h.1,fun i x y hx bm=>h.2 (i+1) x y (by simpa using hx) (by simpa using bm)⟩
theorem aK.mono {α β:Type} {R tL:α→β→Prop} {l:List α} {m:List β} (h:aK R l m) (aw: ∀a b,R a b→tL a b):aK tL l m:=
 ⟨h.1,fun i a b x y=>aw _ _ (h.2 i a b x y)⟩
theorem aK.get {α β:Type} {R:α→β→Prop} {l:List α} {m:List β} (h:aK R l m) {i:Nat} {a:α} (aL:l[i]?=some a): ∃b,m[i]?=some b∧R a b:=by
 have hi:i<l.length:=(List.getElem?_eq_some_iff.1 aL).1
 have hm:i<m.length:=h.1▸hi
 exact⟨m[i],List.getElem?_eq_getElem hm,h.2 i a _ aL (List.getElem?_eq_getElem hm)⟩
theorem aK.oC {α β:Type} {R:α→β→Prop} {m:List β} (h:aK R [] m):m=[]:=by
 have:=h.1;exact List.eq_nil_of_length_eq_zero (by simpa using this.symm)
theorem aK.cons_inv {α β:Type} {R:α→β→Prop} {a:α} {l:List α} {m:List β} (h:aK R (a::l) m): ∃b d_,m=b::d_∧R a b∧aK R l d_:=by
 cases m with
 | nil=>have:=h.1;simp at this
 | cons b d_=>exact⟨b,d_,rfl,h.head,h.tail⟩
theorem aK.append {α β:Type} {R:α→β→Prop} {l l':List α} {m d_:List β} (h:aK R l m) (k:aK R l' d_):aK R (l++l') (m++d_):=by
 refine⟨by simp[h.1,k.1],fun i a b aL hb=> ?_⟩
 rcases Nat.lt_or_ge i l.length with hi | hi
 ·rw[List.getElem?_append_left hi] at aL
  rw[List.getElem?_append_left (h.1▸hi)] at hb
  exact h.2 i a b aL hb
 ·rw[List.getElem?_append_right hi] at aL
  rw[List.getElem?_append_right (h.1▸hi),←h.1] at hb
  exact k.2 _ a b aL hb
theorem aK.set {α β:Type} {R:α→β→Prop} {l:List α} {m:List β} (h:aK R l m) (i:Nat) {a:α} {b:β} (aw:R a b):aK R (l.set i a) (m.set i b):=by
 refine⟨by simp[h.1],fun j x y hx bm=> ?_⟩
 by_cases aC:i=j
 ·subst aC
  rw[List.getElem?_set_self'] at hx bm
  cases aE:l[i]? with
  | none=>simp[aE] at hx
  | some a0=>
   cases hm:m[i]? with
   | none=>simp[hm] at bm
   | some j5=>simp[aE] at hx;simp[hm] at bm;subst hx;subst bm;exact aw
 ·rw[List.getElem?_set_ne aC] at hx bm
  exact h.2 j x y hx bm
inductive a1 (w:World):(Nat→Prop)→(Nat→Prop)→AV→Value→Prop where
 | undef {PA PF:Nat→Prop} (v:Value):a1 w PA PF .undef v
 | int {PA PF:Nat→Prop} (k:IntKind) (n:Int):a1 w PA PF (.int k n) (.int k n)
 | bool {PA PF:Nat→Prop} (b:Bool):a1 w PA PF (.bool b) (.bool b)
 | str {PA PF:Nat→Prop} (s:ByteArray):a1 w PA PF (.str s) (.string s)
 | a8 {PA PF PB:Nat→Prop} {rows:List (List AV)} {full fresh:Bool} {A:Option Addr} {cap sz:Nat} {vs:Nat→Nat→Value}
   (eh: ∀c,PB c→if fresh=true then PF c else PA c)
   (e5:rows.length≤cap∧rows.length≤4611686018427387904) (fw:full=true→cap=rows.length)
   (bX: ∀(i:Nat) (row:List AV),rows[i]?=some row→row.length=sz)
   (dv:0<rows.length→ ∃c o,A=some ⟨c,o,none⟩∧PB c∧ ∀i j,i<rows.length→j<sz→w.cell? ⟨c,o+(i*sz+j),none⟩=some (vs i j))
   (hrel: ∀(i j:Nat) (row:List AV) (a:AV),rows[i]?=some row→row[j]?=some a→a1 w PB (fun _=>False) a (vs i j)):
   a1 w PA PF (.a8 rows full fresh) (.slice A rows.length cap)
 | cD {PA PF:Nat→Prop} {cells:List AV} {col c o:Nat} {vs:Nat→Value} (hc:PA c)
   (dv: ∀j,j<cells.length→w.cell? ⟨c,o+j,none⟩=some (vs j))
   (hrel: ∀(j:Nat) (a:AV),cells[j]?=some a→a1 w PA (fun _=>False) a (vs j)):a1 w PA PF (.cD cells col) (.pointer (some ⟨c,o+col,none⟩))
 | eI {PA PF:Nat→Prop}:a1 w PA PF .eI (.pointer none)
 | eU {PA PF:Nat→Prop}:a1 w PA PF .eU .nilIface
 | fn {PA PF:Nat→Prop} {f:FuncId} {caps:List AV} {vs:List Value} (aE:caps.length=vs.length)
   (hrel: ∀(i:Nat) (a:AV) (v:Value),caps[i]?=some a→vs[i]?=some v→a1 w PA (fun _=>False) a v):a1 w PA PF (.fn f caps) (.func (.func f) #[] vs.toArray)
theorem EN {w w':World} {c o:Nat} (h:w'.heap[c]?=w.heap[c]?):w'.cell? ⟨c,o,none⟩=w.cell? ⟨c,o,none⟩:=by
 simp[World.cell?,h]
theorem a1.mono {w w':World} {PA PF:Nat→Prop} {a:AV} {v:Value} (h:a1 w PA PF a v):
  ∀{tJ tK:Nat→Prop},(∀c,PA c→w'.heap[c]?=w.heap[c]?)→(∀c,PF c→w'.heap[c]?=w.heap[c]?)→(∀c,PA c→tJ c)→(∀c,PF c→tK c)→a1 w' tJ tK a v:=by
 induction h with
 | undef v=>intros;exact .undef v
 | int k n=>intros;exact .int k n
 | bool b=>intros;exact .bool b
 | str s=>intros;exact .str s
 | @a8 PA PF PB rows full fresh A cap sz vs eh e5 fw bX dv hrel bx=>
  intro tJ tK hw Bk aL hf
  have F9: ∀c,PB c→w'.heap[c]?=w.heap[c]?:=fun c hc=>by
   have:=eh c hc
   split at this
   ·exact Bk c this
   ·exact hw c this
  refine .a8 (PB:=PB) (sz:=sz) (vs:=vs) (fun c hc=> ?_) e5 fw bX (fun ap=> ?_) (fun i j row a aw aC=> ?_)
  ·have:=eh c hc
   split
   ·rename_i h;rw[if_pos h] at this;exact hf c this
   ·rename_i h;rw[if_neg h] at this;exact aL c this
  ·obtain⟨c,o,e,hc,ds⟩:=dv ap
   exact⟨c,o,e,hc,fun i j hi aC=>by rw[EN (F9 c hc)];exact ds i j hi aC⟩
  ·exact bx i j row a aw aC F9 (fun c hc=>hc.elim) (fun c hc=>hc) (fun c hc=>hc)
 | @cD PA PF cells col c o vs hc dv hrel bx=>
  intro tJ tK hw Bk aL hf
  refine .cD (aL c hc) (vs:=vs) (fun j aC=> ?_) (fun j a aC=>bx j a aC hw (fun c hc=>hc.elim) aL (fun c hc=>hc))
  rw[EN (hw c hc)];exact dv j aC
 | eI=>intros;exact .eI
 | eU=>intros;exact .eU
 | fn aE hrel bx=>
  intro tJ tK hw Bk aL hf
  exact .fn aE (fun i a v h1 h2=>bx i a v h1 h2 hw (fun c hc=>hc.elim) aL (fun c hc=>hc))
theorem a1.one {w:World} {PA PF:Nat→Prop} {a:AV} {v:Value} (h:a1 w PA PF a v) (hu:a≠ .undef):v.oneCell'=true:=by
 cases h<;>first | rfl | exact absurd rfl hu
structure Env where
 w:World
 PA:Nat→Prop
 PF:Nat→Prop
 m:Nat→Option (Option Nat)
 ba:Nat→Nat
 sz:Nat→Nat
 cp:Nat→Nat
 mL:Nat→Option Nat
def dO (E:Env):AV→Value→Prop
 | .ref b g off n full,v=>(g<E.ba b∧ ∃A cap,v= .slice A n cap)∨(g=E.ba b∧((E.m b=some none∧off=0∧n=0∧ ∃A,v= .slice A 0 0)∨
   ∃c cap,E.m b=some (some c)∧v= .slice (some ⟨c,off*E.sz b,none⟩) n cap∧n≤cap∧(full=true→cap=n)∧off+cap≤E.cp b))
 | .ptr b g r c,v=>(g<E.ba b∧ ∃bl o,v= .pointer (some ⟨bl,o,none⟩))∨(g=E.ba b∧ ∃bl,E.m b=some (some bl)∧v= .pointer (some ⟨bl,r*E.sz b+c,none⟩))
 | .dZ t c,v=> ∃bl,E.mL t=some bl∧v= .pointer (some ⟨bl,c,none⟩)
 | a,v=>a1 E.w E.PA E.PF a v
def bT (E:Env):AV→Value→Prop
 | .fn f caps,v=> ∃vs:List Value,v= .func (.func f) #[] vs.toArray∧aK (dO E) caps vs
 | a,v=>dO E a v
def V2 (E:Env):AV→Value→Prop
 | .agg cells,v=> ∃vs:List Value,v= .agg vs.toArray∧aK (bT E) cells vs
 | a,v=>bT E a v
def V3 (E:Env):AV→Value→Prop
 | .tup l,v=> ∃vs:List Value,v= .tuple vs.toArray∧aK (V2 E) l vs
 | a,v=>V2 E a v
structure Env.eZ (E E':Env):Prop where
 ep: ∀c,E.PA c→E'.PA c
 et: ∀c,E.PF c→E'.PF c
 pV: ∀c,E.PA c→E'.w.heap[c]?=E.w.heap[c]?
 wf: ∀c,E.PF c→E'.w.heap[c]?=E.w.heap[c]?
 ba: ∀b,E.ba b≤E'.ba b
 m: ∀b x,E.m b=some x→E'.ba b=E.ba b→E'.m b=some x∧E'.sz b=E.sz b∧E'.cp b=E.cp b
 mL: ∀t c,E.mL t=some c→E'.mL t=some c
theorem Env.eZ.refl (E:Env):E.eZ E:=⟨fun _ h=>h,fun _ h=>h,fun _ _=>rfl,fun _ _=>rfl,fun _=>Nat.le_refl _,fun _ _ h _=>⟨h,rfl,rfl⟩,fun _ _ h=>h⟩
theorem Env.eZ.trans {A B C:Env} (h:A.eZ B) (k:B.eZ C):A.eZ C:=
 ⟨fun c x=>k.ep c (h.ep c x),fun c x=>k.et c (h.et c x),fun c x=>(k.pV c (h.ep c x)).trans (h.pV c x),fun c x=>(k.wf c (h.et c x)).trans (h.wf c x),
  fun b=>Nat.le_trans (h.ba b) (k.ba b),fun b x hx aI=>by
   have h1:B.ba b=A.ba b:=Nat.le_antisymm (aI▸k.ba b) (h.ba b)
   have h2:C.ba b=B.ba b:=aI.trans h1.symm
   obtain⟨aY,s1,c1⟩:=h.m b x hx h1
   obtain⟨bu,s2,c2⟩:=k.m b x aY h2
   exact⟨bu,s2.trans s1,c2.trans c1⟩,
  fun t c x=>k.mL t c (h.mL t c x)⟩
theorem dO.le {E E':Env} (h:E.eZ E') {a:AV} {v:Value} (hv:dO E a v):dO E' a v:=by
 have kb: ∀a v,a1 E.w E.PA E.PF a v→a1 E'.w E'.PA E'.PF a v:=fun a v k=>k.mono h.pV h.wf h.ep h.et
 cases a with
 | ref b g off n full=>
  rcases hv with⟨hv,h1⟩ | ⟨aI,hv⟩
  ·exact .inl ⟨Nat.lt_of_lt_of_le hv (h.ba b),h1⟩
  ·rcases Nat.lt_or_ge (E.ba b) (E'.ba b) with aR | eK
   ·refine .inl ⟨aI▸aR,?_⟩
    rcases hv with⟨hm,aB,rfl,A,rfl⟩ | ⟨c,cap,hm,rfl,h1,h2,aJ⟩<;>exact⟨_,_,rfl⟩
   ·have he:E'.ba b=E.ba b:=Nat.le_antisymm eK (h.ba b)
    refine .inr ⟨by rw[he];exact aI,?_⟩
    rcases hv with⟨hm,aB,ap,A,gC⟩ | ⟨c,cap,hm,e,h1,h2,aJ⟩
    ·exact .inl ⟨(h.m b _ hm he).1,aB,ap,A,gC⟩
    ·obtain⟨aY,s1,c1⟩:=h.m b _ hm he
     exact .inr ⟨c,cap,aY,by rw[s1];exact e,h1,h2,by rw[c1];exact aJ⟩
 | ptr b g r c=>
  rcases hv with⟨hv,h1⟩ | ⟨aI,bl,hm,e⟩
  ·exact .inl ⟨Nat.lt_of_lt_of_le hv (h.ba b),h1⟩
  ·rcases Nat.lt_or_ge (E.ba b) (E'.ba b) with aR | eK
   ·exact .inl ⟨aI▸aR,_,_,e⟩
   ·have he:E'.ba b=E.ba b:=Nat.le_antisymm eK (h.ba b)
    obtain⟨aY,s1,c1⟩:=h.m b _ hm he
    exact .inr ⟨by rw[he];exact aI,bl,aY,by rw[s1];exact e⟩
 | dZ t c=>
  obtain⟨bl,hm,e⟩:=hv
  exact⟨bl,h.mL _ _ hm,e⟩
 | _=>exact kb _ _ hv
theorem nf {E:Env} {a:AV} {v:Value} (h: ∀f caps,a≠ .fn f caps):bT E a v=dO E a v:=by
 cases a<;>first | rfl | exact absurd rfl (h _ _)
theorem lM {E:Env} {a:AV} {v:Value} (h: ∀l,a≠ .agg l):V2 E a v=bT E a v:=by
 cases a<;>first | rfl | exact absurd rfl (h _)
theorem lN {E:Env} {a:AV} {v:Value} (h: ∀l,a≠ .tup l):V3 E a v=V2 E a v:=by
 cases a<;>first | rfl | exact absurd rfl (h _)
theorem bT.le {E E':Env} (h:E.eZ E') {a:AV} {v:Value} (hv:bT E a v):bT E' a v:=by
 by_cases hf: ∃f caps,a= .fn f caps
 ·obtain⟨f,caps,rfl⟩:=hf
  obtain⟨vs,e,ak⟩:=hv
  exact⟨vs,e,ak.mono fun _ _ k=>k.le h⟩
 ·rw[nf fun f c e=>hf ⟨f,c,e⟩] at hv ⊢
  exact hv.le h
theorem V2.le {E E':Env} (h:E.eZ E') {a:AV} {v:Value} (hv:V2 E a v):V2 E' a v:=by
 by_cases hf: ∃l,a= .agg l
 ·obtain⟨l,rfl⟩:=hf
  obtain⟨vs,e,ak⟩:=hv
  exact⟨vs,e,ak.mono fun _ _ k=>k.le h⟩
 ·rw[lM fun l e=>hf ⟨l,e⟩] at hv ⊢
  exact hv.le h
theorem V3.le {E E':Env} (h:E.eZ E') {a:AV} {v:Value} (hv:V3 E a v):V3 E' a v:=by
 by_cases hf: ∃l,a= .tup l
 ·obtain⟨l,rfl⟩:=hf
  obtain⟨vs,e,ak⟩:=hv
  exact⟨vs,e,ak.mono fun _ _ k=>k.le h⟩
 ·rw[lN fun l e=>hf ⟨l,e⟩] at hv ⊢
  exact hv.le h
theorem a1.v0 {E:Env} {a:AV} {v:Value} (h:a1 E.w E.PA E.PF a v):dO E a v:=by
 cases a<;>first | exact h | cases h
theorem a1.v1 {E:Env} {a:AV} {v:Value} (h:a1 E.w E.PA E.PF a v):bT E a v:=by
 by_cases hf: ∃f caps,a= .fn f caps
 ·obtain⟨f,caps,rfl⟩:=hf
  cases h with
  | fn aE hrel=>exact⟨_,rfl,aE,fun i a v h1 h2=>((hrel i a v h1 h2).mono (fun _ _=>rfl) (fun _ h=>h.elim) (fun _ h=>h) (fun _ h=>h.elim)).v0⟩
 ·rw[nf fun f c e=>hf ⟨f,c,e⟩]
  exact h.v0
theorem bT.undef (E:Env) (v:Value):bT E .undef v:=a1.undef v
theorem V3.undef (E:Env) (v:Value):V3 E .undef v:=a1.undef v
def AV.Ou:AV→Bool
 | .undef | .agg _ | .tup _=>false
 | _=>true
theorem bT.one {E:Env} {a:AV} {v:Value} (h:bT E a v) (hc:a.Ou=true):True:=trivial
def dm:List (Nat×List AV)→Nat→Option (List AV)
 | [],_=>none
 | (k,c)::l,t=>if t=k then some c else dm l t
def iR:List (Nat×List AV)→Nat→List AV→List (Nat×List AV)
 | [],_,_=>[]
 | (k,c)::l,t,d=>if t=k then(k,d)::l else(k,c)::iR l t d
def Env.ff (E:Env) (c:Nat):Prop:= ∃b,E.m b=some (some c)
def Env.iu (E:Env) (c:Nat):Prop:= ∃t,E.mL t=some c
def Env.bG (E:Env):Env:={E with mL:=fun _=>none}
theorem Env.x6 (E:Env):E.bG.eZ E:=⟨fun _ h=>h,fun _ h=>h,fun _ _=>rfl,fun _ _=>rfl,fun _=>Nat.le_refl _,fun _ _ h _=>⟨h,rfl,rfl⟩,fun _ _ h=>by cases h⟩
theorem Env.eZ.bG {E E':Env} (h:E.eZ E'):E.bG.eZ E'.bG:=⟨h.ep,h.et,h.pV,h.wf,h.ba,h.m,fun _ _ h=>by cases h⟩
def rT (E:Env) (sz:Nat) (rows:List (List AV)) (aM:Array Value):Prop:=
 (∀(i:Nat) (row:List AV),rows[i]?=some row→row.length=sz)∧
 ∀(i j:Nat) (row:List AV) (a:AV),rows[i]?=some row→row[j]?=some a→ ∃u,aM[i*sz+j]?=some u∧bT E.bG a u
structure SimH (E:Env) (H:List Blk):Prop where
 heap: ∀b c,E.m b=some (some c)→ ∃blk aM ty,H[b]?=some blk∧E.sz b=blk.sz∧E.w.heap[c]?=some (.cells aM ty (0,0))∧aM.size=E.cp b*E.sz b∧blk.rows.length≤E.cp b∧rT E (E.sz b) blk.rows aM
 dJ: ∀(b:Nat) (blk:Blk),H[b]?=some blk→E.ba b=blk.ba
 fz: ∀b,E.m b=some none→ ∃blk,H[b]?=some blk∧E.sz b=blk.sz
 fresh: ∀b,H.length≤b→E.m b=none∧E.ba b=0
 fR: ∀b bS c,E.m b=some (some c)→E.m bS=some (some c)→b=bS
 gW: ∀t gZ c,E.mL t=some c→E.mL gZ=some c→t=gZ
 e7: ∀b t c,E.m b=some (some c)→E.mL t=some c→False
 fV: ∀c,E.PA c→ ¬E.ff c
 gm: ∀c,E.PA c→ ¬E.iu c
 dc: ∀c,E.PF c→E.PA c
 df: ∀c,E.PA c→c<E.w.heap.size
 ed: ∀c,E.ff c→c<E.w.heap.size
 eQ: ∀c,E.iu c→c<E.w.heap.size
def SimL (E:Env) (L:List (Nat×List AV)):Prop:=
 ∀t c,E.mL t=some c→ ∃cells aM ty,dm L t=some cells∧E.w.heap[c]?=some (.cells aM ty (0,0))∧aK (bT E.bG) cells aM.toList
structure p3 (E:Env) (aq:St) (tmps:Array Value):Prop where
 h:SimH E aq.H
 l:SimL E aq.L
 gx: ∀t,V3 E (aq.T.getD t .undef) (tmps.getD t undef)
 size:aq.T.length=tmps.size
structure Step (E E':Env):Prop where
 le:E.eZ E'
 os:E'.w.os=E.w.os
 tape:E'.w.tape=E.w.tape
 output:E'.w.output=E.w.output
 size:E.w.heap.size≤E'.w.heap.size
 dM: ∀c,c<E.w.heap.size→ ¬E.ff c→ ¬E.iu c→E'.w.heap[c]?=E.w.heap[c]?
 gV: ∀b c,E'.m b=some (some c)→E.m b=some (some c)∨E.w.heap.size≤c
 hr: ∀c,E'.iu c→E.iu c∨E.w.heap.size≤c
 ep: ∀c,E'.PA c→E.PA c∨E.w.heap.size≤c
 et: ∀c,E'.PF c→E.PF c∨E.w.heap.size≤c
theorem Step.nF {E E':Env} (h:Step E E'): ∀c,E'.ff c→E.ff c∨E.w.heap.size≤c:=fun c ⟨b,hb⟩=>(h.gV b c hb).elim (fun h=> .inl ⟨b,h⟩) .inr
theorem Step.refl (E:Env):Step E E:=⟨.refl E,rfl,rfl,rfl,Nat.le_refl _,fun _ _ _ _=>rfl,fun _ _ h=> .inl h,fun _ h=> .inl h,fun _ h=> .inl h,fun _ h=> .inl h⟩
theorem Step.trans {A B C:Env} (h:Step A B) (k:Step B C):Step A C where
 le:=h.le.trans k.le
 os:=k.os.trans h.os
 tape:=k.tape.trans h.tape
 output:=k.output.trans h.output
 size:=Nat.le_trans h.size k.size
 dM:=fun c hc h1 h2=>by
  rw[k.dM c (Nat.lt_of_lt_of_le hc h.size) (fun x=>(h.nF c x).elim h1 (fun y=>absurd hc (Nat.not_lt.2 y))) (fun x=>(h.hr c x).elim h2 (fun y=>absurd hc (Nat.not_lt.2 y)))]
  exact h.dM c hc h1 h2
 gV:=fun b c x=>(k.gV b c x).elim (fun y=>h.gV b c y) (fun y=> .inr (Nat.le_trans h.size y))
 hr:=fun c x=>(k.hr c x).elim (fun y=>h.hr c y) (fun y=> .inr (Nat.le_trans h.size y))
 ep:=fun c x=>(k.ep c x).elim (fun y=>h.ep c y) (fun y=> .inr (Nat.le_trans h.size y))
 et:=fun c x=>(k.et c x).elim (fun y=>h.et c y) (fun y=> .inr (Nat.le_trans h.size y))
class bZ where
 n:Nat
structure Good [gR:bZ] (bR E:Env):Prop where
 u6: ∀b,gR.n≤b→bR.m b=none∧bR.ba b=0
 bG: ∀t,bR.mL t=none
 le:bR.eZ E
 os:E.w.os=bR.w.os
 tape:E.w.tape=bR.w.tape
 output:E.w.output=bR.w.output
 size:bR.w.heap.size≤E.w.heap.size
 dM: ∀c,c<bR.w.heap.size→ ¬bR.ff c→E.w.heap[c]?=bR.w.heap[c]?
 gV: ∀b c,E.m b=some (some c)→bR.m b=some (some c)∨bR.w.heap.size≤c
 hr: ∀c,E.iu c→bR.w.heap.size≤c
 ep: ∀c,E.PA c→bR.PA c∨bR.w.heap.size≤c
 et: ∀c,E.PF c→bR.PF c∨bR.w.heap.size≤c
section
variable [gR:bZ]
theorem Good.nF {bR E:Env} (h:Good bR E): ∀c,E.ff c→bR.ff c∨bR.w.heap.size≤c:=fun c ⟨b,hb⟩=>(h.gV b c hb).elim (fun h=> .inl ⟨b,h⟩) .inr
theorem Good.refl {E:Env} (hu: ∀b,gR.n≤b→E.m b=none∧E.ba b=0) (h: ∀t,E.mL t=none):Good E E:=
 ⟨hu,h,.refl E,rfl,rfl,rfl,Nat.le_refl _,fun _ _ _=>rfl,fun _ _ x=> .inl x,(fun c ⟨t,x⟩=>by rw[h t] at x;cases x),fun _ x=> .inl x,fun _ x=> .inl x⟩
theorem Good.step {bR E E':Env} (h:Good bR E) (k:Step E E'):Good bR E' where
 u6:=h.u6
 bG:=h.bG
 le:=h.le.trans k.le
 os:=k.os.trans h.os
 tape:=k.tape.trans h.tape
 output:=k.output.trans h.output
 size:=Nat.le_trans h.size k.size
 dM:=fun c hc h1=>by
  rw[k.dM c (Nat.lt_of_lt_of_le hc h.size) (fun x=>(h.nF c x).elim h1 (fun y=>absurd hc (Nat.not_lt.2 y))) (fun x=>absurd hc (Nat.not_lt.2 (h.hr c x)))]
  exact h.dM c hc h1
 gV:=fun b c x=>(k.gV b c x).elim (fun y=>h.gV b c y) (fun y=> .inr (Nat.le_trans h.size y))
 hr:=fun c x=>(k.hr c x).elim (fun y=>h.hr c y) (fun y=>Nat.le_trans h.size y)
 ep:=fun c x=>(k.ep c x).elim (fun y=>h.ep c y) (fun y=> .inr (Nat.le_trans h.size y))
 et:=fun c x=>(k.et c x).elim (fun y=>h.et c y) (fun y=> .inr (Nat.le_trans h.size y))
end
def M9 (ex:Exit):Bool:=match ex with
 | .normal | .exit _ | .ret=>true
 | _=>false
def ku [bZ] (bR:Env) (Q:Exit→St→Prop) (ex:Exit) (a:Act) (w:World):Prop:=
 M9 ex=true∧ ∃aq E,Q ex aq∧E.w=w∧Good bR E∧p3 E aq a.tmps∧a.defers=[]
def WpS [bZ] (P:Program) (c:Code) (Q:Exit→St→Prop) (aq:St):Prop:=
 ∀(bR E:Env) (a:Act),Good bR E→p3 E aq a.tmps→a.defers=[]→c.wp P (ku bR Q) a E.w
def Weak [bZ] (aq iU:St):Prop:= ∀(bR E:Env) (tmps:Array Value),Good bR E→p3 E aq tmps→ ∃E',E'.w=E.w∧Good bR E'∧p3 E' iU tmps
theorem Weak.refl [bZ] (aq:St):Weak aq aq:=fun bR E tmps g h=>⟨E,rfl,g,h⟩
theorem Weak.trans [bZ] {a b c:St} (h:Weak a b) (k:Weak b c):Weak a c:=fun bR E tmps g s=>by
 obtain⟨E1,bi,g1,s1⟩:=h bR E tmps g s
 obtain⟨n1,e2,g2,s2⟩:=k bR E1 tmps g1 s1
 exact⟨n1,e2.trans bi,g2,s2⟩
section
variable [bZ] {P:Program} {Q rR:Exit→St→Prop} {aq:St}
theorem WpS.mono {c:Code} (h:WpS P c Q aq) (ag: ∀e s,Q e s→rR e s):WpS P c rR aq:=fun bR E a g s d=>
 wp_mono (h bR E a g s d) fun e a w ⟨h1,aq,E,h2,aJ⟩=>⟨h1,aq,E,ag _ _ h2,aJ⟩
theorem WpS.oS {c:Code} {iU:St} (h:WpS P c Q iU) (k:Weak aq iU):WpS P c Q aq:=fun bR E a g s d=>by
 obtain⟨E1,bi,g1,s1⟩:=k bR E a.tmps g s
 exact bi▸h bR E1 a g1 s1 d
theorem WpS.skip (h:Q .normal aq):WpS P .skip Q aq:=fun bR E a g s d=>wp_skip ⟨rfl,aq,E,h,rfl,g,s,d⟩
theorem WpS.ret (h:Q .ret aq):WpS P .ret Q aq:=fun bR E a g s d=>wp_ret ⟨rfl,aq,E,h,rfl,g,s,d⟩
theorem WpS.exit {id:Nat} (h:Q (.exit id) aq):WpS P (.exit id) Q aq:=fun bR E a g s d=>wp_exit ⟨rfl,aq,E,h,rfl,g,s,d⟩
def dH (P:Program) (y:Code) (Q:Exit→St→Prop) (ex:Exit) (s:St):Prop:=match ex with
 | .normal=>WpS P y Q s
 | ex=>Q ex s
theorem WpS.seq {x y:Code} (h:WpS P x (dH P y Q) aq):WpS P (.seq x y) Q aq:=fun bR E a g s d=>
 wp_seq (wp_mono (h bR E a g s d) fun e gB w' ⟨h1,iU,E',h2,aJ,bj,cP,eg⟩=>by
  cases e with
  | normal=>subst aJ;exact h2 bR E' gB bj cP eg
  | exit id=>exact⟨rfl,iU,E',h2,aJ,bj,cP,eg⟩
  | ret=>exact⟨rfl,iU,E',h2,aJ,bj,cP,eg⟩
  | _=>cases h1)
def dz (id:Nat) (Q:Exit→St→Prop) (ex:Exit) (s:St):Prop:=match ex with
 | .exit eP=>if eP=id then Q .normal s else Q (.exit eP) s
 | ex=>Q ex s
theorem WpS.block {id:Nat} {c:Code} (h:WpS P c (dz id Q) aq):WpS P (.block id c) Q aq:=fun bR E a g s d=>
 wp_block (wp_mono (h bR E a g s d) fun e gB w' ⟨h1,iU,E',h2,aJ⟩=>by
  cases e with
  | normal=>exact⟨rfl,iU,E',h2,aJ⟩
  | exit eP=>
   by_cases hid:eP=id
   ·subst hid
    have uk:(if eP=eP then Q .normal iU else Q (.exit eP) iU):=h2
    rw[if_pos rfl] at uk
    show(if eP=eP then _ else _)
    rw[if_pos rfl];exact⟨rfl,iU,E',uk,aJ⟩
   ·have uk:(if eP=id then Q .normal iU else Q (.exit eP) iU):=h2
    rw[if_neg hid] at uk
    show(if eP=id then _ else _)
    rw[if_neg hid];exact⟨rfl,iU,E',uk,aJ⟩
  | ret=>exact⟨rfl,iU,E',h2,aJ⟩
  | _=>cases h1)
end
def lS:Value→AV
 | .int k n=> .int k n
 | .bool b=> .bool b
 | .string s=> .str s
 | .slice none 0 0=> .a8 [] true true
 | .pointer none=> .eI
 | .nilIface=> .eU
 | _=> .undef
def bL (T:List AV):Operand→AV
 | .tmp t=>T.getD t .undef
 | .const v=>lS v
 | .func f=> .fn f []
 | .global _=> .undef
theorem OQ (E:Env) (v:Value):V3 E (lS v) v:=by
 unfold lS
 split
 ·exact a1.int _ _
 ·exact a1.bool _
 ·exact a1.str _
 ·exact a1.a8 (PB:=fun _=>False) (sz:=0) (vs:=fun _ _=>undef) (fun _ h=>h.elim) ⟨Nat.le_refl _,Nat.zero_le _⟩ (fun _=>rfl) (fun i row h=>by simp at h) (fun h=>by simp at h) (fun i j row a h=>by simp at h)
 ·exact a1.eI
 ·exact a1.eU
 ·exact a1.undef _
theorem opv_rel {E:Env} {T:List AV} {a:Act} (h: ∀t,V3 E (T.getD t .undef) (a.tmps.getD t undef)) (x:Operand):V3 E (bL T x) (a.eval x):=by
 cases x with
 | tmp t=>exact h t
 | const v=>exact OQ E v
 | global g=>exact a1.undef _
 | func f=>exact⟨[],rfl,aK.nil⟩
def tU (b:Bool) (x y:Prop):Prop:=(b=true→x)∧(b=false→y)
def lP (v:AV) (k:Bool→Prop):Prop:=match v with
 | .bool b=>k b
 | _=>False
theorem wz {v:AV} {k:Bool→Prop} (h:lP v k): ∃b,v= .bool b∧k b:=by
 cases v<;>first | exact⟨_,rfl,h⟩ | exact h.elim
theorem V3.mh {E:Env} {b:Bool} {v:Value} (h:V3 E (.bool b) v):v= .bool b:=by
 have h':a1 E.w E.PA E.PF (.bool b) v:=h
 cases h';rfl
theorem V3.kc {E:Env} {k:IntKind} {n:Int} {v:Value} (h:V3 E (.int k n) v):v= .int k n:=by
 have h':a1 E.w E.PA E.PF (.int k n) v:=h
 cases h';rfl
theorem V3.tu {E:Env} {s:ByteArray} {v:Value} (h:V3 E (.str s) v):v= .string s:=by
 have h':a1 E.w E.PA E.PF (.str s) v:=h
 cases h';rfl
section
variable [bZ] {P:Program} {Q rR:Exit→St→Prop} {aq:St}
theorem WpS.cond {c:Operand} {x y:Code} (h:lP (bL aq.T c) fun b=>tU b (WpS P x Q aq) (WpS P y Q aq)):WpS P (.cond c x y) Q aq:=fun bR E a g s d=>by
 obtain⟨b,hb,h1,h2⟩:=wz h
 have hv:=opv_rel s.gx c
 rw[hb] at hv
 have he:a.eval c= .bool b:=V3.mh hv
 exact wp_cond_split he (fun e=>h1 e bR E a g s d) (fun e=>h2 e bR E a g s d)
def Nr (I:Nat→St→Prop) (n:Nat) (Q:Exit→St→Prop) (ex:Exit) (s:St):Prop:=match ex with
 | .normal=> ∃lq s',lq<n∧Weak s s'∧I lq s'
 | ex=>Q ex s
theorem WpS.loop {c:Code} (I:Nat→St→Prop) (n:Nat) (aN:I n aq) (round: ∀n s,I n s→WpS P c (Nr I n Q) s):WpS P (.loop c) Q aq:=by
 intro bR E a g s d b k aM
 have key: ∀n (a:Act) (E:Env) aq,I n aq→Good bR E→p3 E aq a.tmps→a.defers=[]→
   ∃e gB w',ku bR Q e gB w'∧Arrives P (lone (b.at a (.code c:: .inLoop c::k)) aM E.w) b k aM e gB w':=by
  intro n
  induction n using Nat.strongRecOn with
  | _ n bx=>
   intro a E aq aV g s d
   obtain⟨e,wA,MY,ag,uv⟩:=round n aq aV bR E a g s d b (.inLoop c::k) aM
   obtain⟨he,Mx,E1,ag,hw,g1,s1,d1⟩:=ag
   cases e with
   | normal=>
    obtain⟨lq,s',aR,R7,um⟩:=ag
    obtain⟨n1,e2,g2,s2⟩:=R7 bR E1 wA.tmps g1 s1
    obtain⟨Pl,NI,ZW,RR,Ge⟩:=bx lq aR wA n1 s' um g2 s2 d1
    rw[e2,hw] at Ge
    exact⟨Pl,NI,ZW,RR,.of_steps (Steps.trans uv (.one step_inLoop)) Ge⟩
   | exit id=>exact⟨_,wA,MY,⟨rfl,Mx,E1,ag,hw,g1,s1,d1⟩,.pass (x:= .inLoop c) rfl (fun _ _=> .inl (by simp)) uv⟩
   | ret=>exact⟨_,wA,MY,⟨rfl,Mx,E1,ag,hw,g1,s1,d1⟩,.pass (x:= .inLoop c) rfl (fun _ _=> .inl (by simp)) uv⟩
   | _=>cases he
 obtain⟨e,gB,w',ag,uv⟩:=key n a E aq aN g s d
 exact⟨e,gB,w',ag,.of_steps (.one step_loop) uv⟩
end
def ch {α:Type} (o:Option α) (k:α→Prop):Prop:=match o with
 | some a=>k a
 | none=>False
theorem ea {α:Type} {o:Option α} {k:α→Prop} (h:ch o k): ∃a,o=some a∧k a:=by
 cases o with
 | none=>exact h.elim
 | some a=>exact⟨a,rfl,h⟩
theorem dg {α:Type} {o:Option α} {k:α→Prop} {a:α} (h:o=some a) (hk:k a):ch o k:=by rw[h];exact hk
def dD (b:Bool) (x:Prop):Prop:=match b with
 | true=>x
 | false=>False
theorem mR {b:Bool} {x:Prop} (h:dD b x):b=true∧x:=by
 cases b with
 | true=>exact⟨rfl,h⟩
 | false=>exact h.elim
def sL (P:Program) (t:TypeId):Bool:=match P.underlying t with
 | some (.struct _) | some (.array _ _)=>true
 | _=>false
def uU (P:Program) (t:TypeId):Bool:=(P.underlying t).isSome
theorem run_underlying {P:Program} {t:TypeId} {w:World} {d:TypeDesc} (h:P.underlying t=some d):(underlying t).run P w= .ok d w:=by
 simp[Go.underlying,h]
theorem KX {P:Program} {t:TypeId} {w:World} (h:uU P t=true):(isAgg t).run P w= .ok (sL P t) w:=by
 unfold uU at h
 cases aZ:P.underlying t with
 | none=>simp[aZ] at h
 | some d=>
  simp only[Go.isAgg,Sem.run_bind,run_underlying aZ,Result.andThen_ok,sL,aZ]
  cases d<;>rfl
theorem run_sizeOf {P:Program} {t:TypeId} {w:World} (h:(P.info? t).isSome=true):(sizeOf t).run P w= .ok (P.cellsOf t) w:=by
 cases hi:P.info? t with
 | none=>simp[hi] at h
 | some i=>simp[Go.sizeOf,typeInfo,hi,Program.cellsOf]
theorem Tt {P:Program} {t:TypeId} (h:uU P t=true):(P.info? t).isSome=true:=by
 unfold uU Program.underlying at h
 cases hi:P.info? t with
 | none=>simp[hi] at h
 | some i=>rfl
def g_ (P:Program) (t:TypeId) (cells:List AV) (c:Nat) (K:AV→Prop):Prop:=
 if uU P t=true then
  (if sL P t=true then(if c+P.cellsOf t≤cells.length then K (.agg ((cells.drop c).take (P.cellsOf t))) else False)
   else ch cells[c]? K)
 else False
def lZ (P:Program) (t:TypeId) (x:AV) (L:List (Nat×List AV)) (H:List Blk) (K:AV→Prop):Prop:=match x with
 | .dZ s c=>ch (dm L s) fun cells=>g_ P t cells c K
 | .ptr b g r c=>ch H[b]? fun blk=>blk.ba=g∧ch blk.rows[r]? fun row=>g_ P t row c K
 | .cD cells c=>g_ P t cells c K
 | _=>False
theorem kZ (c o n:Nat):(⟨c,o,none⟩:Addr).add n=⟨c,o+n,none⟩:=by
 unfold Addr.add;split
 ·subst_vars;rfl
 ·rfl
theorem DO {P:Program} {t:TypeId} {cells:List AV} {c bl o:Nat} {K:AV→Prop} {w:World} {R:AV→Value→Prop}
  (hc: ∀(j:Nat) (a:AV),cells[j]?=some a→ ∃u,w.cell? ⟨bl,o+j,none⟩=some u∧R a u) (h:g_ P t cells c K):
  ∃a v,K a∧(loadVar t ⟨bl,o+c,none⟩).run P w= .ok v w∧
   ((∃l vs,a= .agg l∧v= .agg (List.toArray vs)∧aK R l vs)∨R a v):=by
 unfold g_ at h
 split at h
 ·rename_i hk
  split at h
  ·rename_i aL
   split at h
   ·rename_i aE
    let n:=P.cellsOf t
    have ds: ∀j,j<n→ ∃a u,cells[c+j]?=some a∧w.cell? ⟨bl,o+(c+j),none⟩=some u∧R a u:=by
     intro j aC
     have su:c+j<cells.length:=by show c+j<cells.length;have:n=P.cellsOf t:=rfl;omega
     obtain⟨u,h1,h2⟩:=hc (c+j) _ (List.getElem?_eq_getElem su)
     exact⟨_,u,List.getElem?_eq_getElem su,h1,h2⟩
    let f:Nat→Value:=fun j=>(w.cell? ⟨bl,o+(c+j),none⟩).getD undef
    have hf: ∀j,j<n→w.cell? ((⟨bl,o+c,none⟩:Addr).add j)=some (f j):=by
     intro j aC
     obtain⟨a,u,_,h1,_⟩:=ds j aC
     rw[kZ,Nat.add_assoc]
     show _=some ((w.cell? ⟨bl,o+(c+j),none⟩).getD undef)
     rw[h1];rfl
    refine⟨_,.agg ((List.range n).map f).toArray,h,?_,.inl ⟨_,(List.range n).map f,rfl,rfl,?_,?_⟩⟩
    ·simp only[loadVar,Sem.run_bind,KX hk,Result.andThen_ok,aL,if_true,run_sizeOf (Tt hk)]
     rw[run_loadCells w _ n f hf]
     rfl
    ·simp only[List.length_take,List.length_drop,List.length_map,List.length_range];show min n _=n;have:n=P.cellsOf t:=rfl;omega
    ·intro i a b Gy ss
     have hi:i<n:=by have:=(List.getElem?_eq_some_iff.1 ss).1;simpa using this
     obtain⟨gB,u,h1,h2,aJ⟩:=ds i hi
     rw[List.getElem?_take,if_pos (show i<P.cellsOf t from hi),List.getElem?_drop,h1] at Gy
     cases Gy
     rw[List.getElem?_map,List.getElem?_range hi] at ss
     simp only[Option.map_some,Option.some.injEq] at ss
     have:f i=u:=by show(w.cell? ⟨bl,o+(c+i),none⟩).getD undef=u;rw[h2];rfl
     rw[←ss,this];exact aJ
   ·exact h.elim
  ·rename_i aL
   obtain⟨a,qm,hK⟩:=ea h
   obtain⟨u,h1,h2⟩:=hc c a qm
   refine⟨a,u,hK,?_,.inr h2⟩
   have QV:sL P t=false:=by cases hx:sL P t<;>simp_all
   simp only[loadVar,Sem.run_bind,KX hk,Result.andThen_ok,QV]
   simp[h1]
 ·exact h.elim
theorem bT.up {E:Env} {a:AV} {v:Value} (h:bT E.bG a v):bT E a v:=h.le E.x6
theorem Ns {E:Env} {l:List AV} {v:Value} (h:bT E (.agg l) v):False:=by
 have h':a1 E.w E.PA E.PF (.agg l) v:=h
 cases h'
theorem Nt {E:Env} {l:List AV} {v:Value} (h:bT E (.tup l) v):False:=by
 have h':a1 E.w E.PA E.PF (.tup l) v:=h
 cases h'
theorem jI {E:Env} {a:AV} {v:Value} (h:bT E a v):V2 E a v:=by
 by_cases hf: ∃l,a= .agg l
 ·obtain⟨l,rfl⟩:=hf;exact(Ns h).elim
 ·rw[lM fun l e=>hf ⟨l,e⟩];exact h
theorem Nu {E:Env} {l:List AV} {v:Value} (h:V2 E (.tup l) v):False:=Nt (E:=E) (l:=l) (v:=v) h
theorem jk {E:Env} {a:AV} {v:Value} (h:V2 E a v):V3 E a v:=by
 by_cases hf: ∃l,a= .tup l
 ·obtain⟨l,rfl⟩:=hf;exact(Nu h).elim
 ·rw[lN fun l e=>hf ⟨l,e⟩];exact h
theorem ze {E:Env} {a:AV} {v:Value} (h:(∃l vs,a= .agg l∧v= .agg (List.toArray vs)∧aK (bT E) l vs)∨bT E a v):V2 E a v:=by
 rcases h with⟨l,vs,rfl,rfl,ak⟩ | h
 ·exact⟨vs,rfl,ak⟩
 ·exact jI h
theorem V3.u0 {E:Env} {t c:Nat} {v:Value} (h:V3 E (.dZ t c) v): ∃bl,E.mL t=some bl∧v= .pointer (some ⟨bl,c,none⟩):=h
theorem V3.yh {E:Env} {b g r c:Nat} {v:Value} (h:V3 E (.ptr b g r c) v) (aI:E.ba b=g): ∃bl,E.m b=some (some bl)∧v= .pointer (some ⟨bl,r*E.sz b+c,none⟩):=by
 rcases(h:dO E (.ptr b g r c) v) with⟨h,_⟩ | ⟨_,h⟩
 ·omega
 ·exact h
theorem cell_of {w:World} {c o:Nat} {aM:Array Value} {ty:TypeId} {Qh:Nat×Nat} {u:Value} (h:w.heap[c]?=some (.cells aM ty Qh)) (hu:aM[o]?=some u):w.cell? ⟨c,o,none⟩=some u:=by
 simp[World.cell?,h,hu]
structure Sub (L:List (Nat×List AV)) (H:List Blk) (ih:List (Nat×List AV)) (dQ:List Blk):Prop where
 l: ∀t c,dm L t=some c→dm ih t=some c
 h: ∀(b:Nat) (blk:Blk),H[b]?=some blk→dQ[b]?=some blk
theorem Sub.refl (L:List (Nat×List AV)) (H:List Blk):Sub L H L H:=⟨fun _ _ h=>h,fun _ _ h=>h⟩
theorem Je {P:Program} {t:TypeId} {x:AV} {L ih:List (Nat×List AV)} {H dQ:List Blk} {K:AV→Prop} {E:Env} {v:Value}
  (sub:Sub L H ih dQ) (az:SimH E dQ) (bF:SimL E ih) (hx:V3 E x v) (h:lZ P t x L H K):
  ∃a dx,K a∧(Instr.loadAt t v).run P E.w= .ok dx E.w∧V2 E a dx:=by
 cases x with
 | dZ s c=>
  obtain⟨bl,hm,rfl⟩:=hx.u0
  obtain⟨cells,aM,ty,aI,hw,ak⟩:=bF s bl hm
  have h':ch (dm L s) fun cells=>g_ P t cells c K:=h
  obtain⟨r9,uz,h'⟩:=ea h'
  obtain rfl:cells=r9:=by have:=sub.l _ _ uz;rw[aI] at this;exact Option.some.inj this
  obtain⟨a,dx,hK,aw,hv⟩:=DO (o:=0) (bl:=bl) (w:=E.w) (R:=bT E.bG) (fun j a aC=>by
   obtain⟨u,hu,aw⟩:=ak.get aC
   exact⟨u,by rw[Nat.zero_add];exact cell_of hw (by simpa using hu),aw⟩) h'
  rw[Nat.zero_add] at aw
  refine⟨a,dx,hK,?_,(ze hv).le E.x6⟩
  simp only[Instr.loadAt,Instr.sureAddr,Sem.run_bind,Sem.run_pure,Result.andThen_ok,aw]
 | ptr b g r c=>
  obtain⟨blk,hb,aI,h2⟩:=ea (show ch H[b]? fun blk=>blk.ba=g∧ch blk.rows[r]? fun row=>g_ P t row c K from h)
  obtain⟨row,dR,aJ⟩:=ea h2
  replace hb:=sub.h b blk hb
  have hU:=az.dJ b blk hb
  obtain⟨bl,hm,rfl⟩:=hx.yh (hU.trans aI)
  obtain⟨blk',aM,ty,dK,ka,hw,jM,hlen,eO⟩:=az.heap b bl hm
  obtain rfl:blk=blk':=by rw[hb] at dK;exact Option.some.inj dK
  obtain⟨a,dx,hK,aw,hv⟩:=DO (o:=r*E.sz b) (bl:=bl) (w:=E.w) (R:=bT E.bG) (fun j a aC=>by
   obtain⟨u,hu,aw⟩:=eO.2 r j row a dR aC
   exact⟨u,cell_of hw hu,aw⟩) aJ
  refine⟨a,dx,hK,?_,(ze hv).le E.x6⟩
  simp only[Instr.loadAt,Instr.sureAddr,Sem.run_bind,Sem.run_pure,Result.andThen_ok,aw]
 | cD cells c=>
  have hq:a1 E.w E.PA E.PF (.cD cells c) v:=hx
  cases hq with
  | @cD _ _ _ _ bl o vs hc dv hrel=>
   have h':g_ P t cells c K:=h
   obtain⟨a,dx,hK,aw,hv⟩:=DO (o:=o) (bl:=bl) (w:=E.w) (R:=a1 E.w E.PA (fun _=>False)) (fun j a aC=>
    ⟨vs j,dv j (List.getElem?_eq_some_iff.1 aC).1,hrel j a aC⟩) h'
   have up: ∀a v,a1 E.w E.PA (fun _=>False) a v→bT E a v:=fun a v aw=>(aw.mono (fun _ _=>rfl) (fun _ h=>h.elim) (fun _ h=>h) (fun _ h=>h.elim)).v1
   refine⟨a,dx,hK,?_,ze (hv.imp (fun⟨l,vs,h1,h2,aJ⟩=>⟨l,vs,h1,h2,aJ.mono up⟩) (up _ _))⟩
   simp only[Instr.loadAt,Instr.sureAddr,Sem.run_bind,Sem.run_pure,Result.andThen_ok,aw]
 | _=>exact h.elim
def rz:AV→Bool
 | .undef | .agg _ | .tup _ | .dZ _ _ | .fn _ _=>false
 | _=>true
def hA:AV→Bool
 | .fn _ caps=>caps.all rz
 | a=>rz a
def dP:AV→List AV
 | .agg l=>l
 | a=>[a]
def e9 (row:List AV) (c:Nat) (l:List AV):List AV:=row.take c++l++row.drop (c+l.length)
def jB (P:Program) (t:TypeId) (x v:AV) (L:List (Nat×List AV)) (H:List Blk) (K:List (Nat×List AV)→List Blk→Prop):Prop:=
 if(P.info? t).isSome=true∧(dP v).length=P.cellsOf t∧(dP v).all hA=true then
  match x with
  | .dZ s c=>ch (dm L s) fun cells=>if c+(dP v).length≤cells.length then K (iR L s (e9 cells c (dP v))) H else False
  | .ptr b g r c=>ch H[b]? fun blk=>blk.ba=g∧ch blk.rows[r]? fun row=>c+(dP v).length≤row.length∧K L (H.set b {blk with rows:=blk.rows.set r (e9 row c (dP v))})
  | _=>False
 else False
theorem MA {E:Env} {a:AV} {v:Value} (h:rz a=true) (hv:dO E a v):dO E.bG a v:=by
 cases a<;>first | exact hv | cases h
theorem DG {E:Env} {a:AV} {v:Value} (h:hA a=true) (hv:bT E a v):bT E.bG a v:=by
 by_cases hf: ∃f caps,a= .fn f caps
 ·obtain⟨f,caps,rfl⟩:=hf
  obtain⟨vs,e,ak⟩:=hv
  refine⟨vs,e,ak.1,fun i x y hx bm=>MA ?_ (ak.2 i x y hx bm)⟩
  have h':caps.all rz=true:=h
  exact List.all_eq_true.1 h' x (List.mem_of_getElem? hx)
 ·have aN:hA a=rz a:=by cases a<;>first | rfl | exact absurd ⟨_,_,rfl⟩ hf
  rw[nf fun f c e=>hf ⟨f,c,e⟩] at hv ⊢
  exact MA (aN▸h) hv
theorem dO.one {E:Env} {a:AV} {v:Value} (h:rz a=true) (hv:dO E a v):v.oneCell'=true:=by
 cases a with
 | undef=>cases h
 | agg l=>cases h
 | tup l=>cases h
 | dZ s c=>cases h
 | fn f c=>cases h
 | ref b g off n full=>
  rcases hv with⟨_,A,cap,rfl⟩ | ⟨_,⟨_,_,_,A,rfl⟩ | ⟨c,cap,_,rfl,_⟩⟩
  ·rfl
  ·rfl
  ·rfl
 | ptr b g r c=>
  rcases hv with⟨_,bl,o,rfl⟩ | ⟨_,bl,_,rfl⟩
  ·rfl
  ·rfl
 | _=>exact a1.one (show a1 E.w E.PA E.PF _ v from hv) (by intro h;cases h)
theorem bT.x_ {E:Env} {a:AV} {v:Value} (h:hA a=true) (hv:bT E a v):v.oneCell'=true:=by
 by_cases hf: ∃f caps,a= .fn f caps
 ·obtain⟨f,caps,rfl⟩:=hf
  obtain⟨vs,rfl,ak⟩:=hv
  rfl
 ·have aN:hA a=rz a:=by cases a<;>first | rfl | exact absurd ⟨_,_,rfl⟩ hf
  rw[nf fun f c e=>hf ⟨f,c,e⟩] at hv
  exact hv.one (aN▸h)
theorem Step.setRow {E:Env} {H:List Blk} (az:SimH E H) {bl:Nat} (hb:E.ff bl∨E.iu bl) (aM:Array Value):Step E {E with w:=E.w.setRow bl aM}:=by
 have ap: ∀c,E.PA c→c≠bl:=fun c hc e=>by
  subst e
  exact hb.elim (az.fV _ hc) (az.gm _ hc)
 have hk: ∀c,c≠bl→(E.w.setRow bl aM).heap[c]?=E.w.heap[c]?:=fun c hc=>setRow_other _ _ _ _ hc
 exact⟨⟨fun _ h=>h,fun _ h=>h,fun c hc=>hk c (ap c hc),fun c hc=>hk c (ap c (az.dc c hc)),fun _=>Nat.le_refl _,fun _ _ h _=>⟨h,rfl,rfl⟩,fun _ _ h=>h⟩,rfl,rfl,rfl,
  by simp,fun c _ h1 h2=>hk c (fun e=>by subst e;exact hb.elim h1 h2),fun _ _ h=> .inl h,fun _ h=> .inl h,fun _ h=> .inl h,fun _ h=> .inl h⟩
theorem zy {E:Env} {v:AV} {u:Value} (hv:V2 E v u) (hs:(dP v).all hA=true):aK (bT E) (dP v) u.cells.toList:=by
 by_cases hf: ∃l,v= .agg l
 ·obtain⟨l,rfl⟩:=hf
  obtain⟨vs,rfl,ak⟩:=hv
  exact ak
 ·have aN:dP v=[v]:=by cases v<;>first | rfl | exact absurd ⟨_,rfl⟩ hf
  rw[lM fun l e=>hf ⟨l,e⟩] at hv
  rw[aN] at hs ⊢
  have h1:u.oneCell'=true:=hv.x_ (by simpa using hs)
  have h2:u.cells= #[u]:=by cases u<;>first | rfl | cases h1
  rw[h2]
  exact aK.cons hv aK.nil
theorem KY {P:Program} {t:TypeId} {w:World} {bl o:Nat} {aM:Array Value} {ty:TypeId} {u:Value} (hi:(P.info? t).isSome=true) (aH:u.cells.size=P.cellsOf t)
  (hw:w.heap[bl]?=some (.cells aM ty (0,0))) (aB:o+u.cells.size≤aM.size) (h1: ∀x∈u.cells.toList,x.oneCell'=true):
  (Instr.storeAt t (.pointer (some ⟨bl,o,none⟩)) u).run P w= .ok () (w.setRow bl (aM.toList.take o++u.cells.toList++aM.toList.drop (o+u.cells.toList.length)).toArray):=by
 have:=run_storeCells_at (P:=P) bl o ty u.cells.toList 0 aM w hw (by simpa using aB) h1
 simp only[Nat.add_zero] at this
 simp[Instr.storeAt,Instr.sureAddr,storeVar,run_sizeOf hi,aH,this]
theorem ts {α:Type} {l m:List α} {c:Nat} (hc:c+m.length≤l.length) (j:Nat):
  (l.take c++m++l.drop (c+m.length))[j]?=if j<c then l[j]? else if j<c+m.length then m[j - c]? else l[j]?:=by
 by_cases h1:j<c
 ·rw[if_pos h1,List.append_assoc,List.getElem?_append_left (by simp;omega),List.getElem?_take,if_pos h1]
 ·rw[if_neg h1]
  by_cases h2:j<c+m.length
  ·rw[if_pos h2,List.getElem?_append_left (by simp;omega),List.getElem?_append_right (by simp;omega)]
   congr 1;simp;omega
  ·rw[if_neg h2,List.getElem?_append_right (by simp;omega),List.getElem?_drop]
   congr 1;simp;omega
theorem aK.e9 {α β:Type} {R:α→β→Prop} {l m:List α} {l' d_:List β} (h:aK R l l') (k:aK R m d_) {c:Nat} (hc:c+m.length≤l.length):
  aK R (l.take c++m++l.drop (c+m.length)) (l'.take c++d_++l'.drop (c+d_.length)):=by
 have h1:=h.1
 have cY:=k.1
 refine⟨by simp;omega,fun i a b aL hb=> ?_⟩
 rw[ts hc] at aL
 rw[ts (by omega)] at hb
 rw[←cY] at hb
 split at aL
 ·rename_i hi;rw[if_pos hi] at hb;exact h.2 i a b aL hb
 ·rename_i hi;rw[if_neg hi] at hb
  split at aL
  ·rename_i aC;rw[if_pos aC] at hb;exact k.2 _ a b aL hb
  ·rename_i aC;rw[if_neg aC] at hb;exact h.2 i a b aL hb
theorem ui (L:List (Nat×List AV)) (t s:Nat) (d:List AV):dm (iR L t d) s=if s=t then(dm L t).map (fun _=>d) else dm L s:=by
 induction L with
 | nil=>simp[iR,dm]
 | cons x L bx=>
  obtain⟨k,c⟩:=x
  by_cases h1:t=k
  ·subst h1
   by_cases h2:s=t
   ·simp[iR,dm,h2]
   ·simp[iR,dm,h2]
  ·by_cases h2:s=k
   ·subst h2
    have: ¬s=t:=fun e=>h1 e.symm
    simp[iR,dm,h1,this]
   ·simp only[iR,if_neg h1,dm,if_neg h2,bx]
theorem Zq {P:Program} {t:TypeId} {x v:AV} {L:List (Nat×List AV)} {H:List Blk} {K:List (Nat×List AV)→List Blk→Prop} {E:Env} {gF jZ:Value}
  (az:SimH E H) (bF:SimL E L) (hx:V3 E x gF) (hv:V2 E v jZ) (h:jB P t x v L H K):
  ∃L' H' E',K L' H'∧(Instr.storeAt t gF jZ).run P E.w= .ok () E'.w∧Step E E'∧SimH E' H'∧SimL E' L'∧E'.mL=E.mL:=by
 unfold jB at h
 split at h
 case isFalse=>exact h.elim
 case isTrue hc=>
 obtain⟨hi,aH,hs⟩:=hc
 have sq:=zy hv hs
 have ap:aK (bT E.bG) (dP v) jZ.cells.toList:=⟨sq.1,fun i a b aL hb=>DG (List.all_eq_true.1 hs a (List.mem_of_getElem? aL)) (sq.2 i a b aL hb)⟩
 have h1: ∀y∈jZ.cells.toList,y.oneCell'=true:=by
  intro y bm
  obtain⟨i,hi⟩:=List.mem_iff_getElem?.1 bm
  have xw:i<(dP v).length:=by rw[sq.1];exact(List.getElem?_eq_some_iff.1 hi).1
  exact(sq.2 i _ y (List.getElem?_eq_getElem xw) hi).x_ (List.all_eq_true.1 hs _ (List.getElem_mem xw))
 have bX:jZ.cells.size=P.cellsOf t:=by rw[←aH,sq.1];simp
 have hlen:jZ.cells.toList.length=(dP v).length:=sq.1.symm
 cases x with
 | dZ s c=>
  obtain⟨bl,hm,rfl⟩:=hx.u0
  obtain⟨cells,aM,ty,aI,hw,ak⟩:=bF s bl hm
  have h':ch (dm L s) fun cells=>if c+(dP v).length≤cells.length then K (iR L s (e9 cells c (dP v))) H else False:=h
  rw[aI] at h'
  have AG:if c+(dP v).length≤cells.length then K (iR L s (e9 cells c (dP v))) H else False:=h'
  split at AG
  case isFalse=>exact AG.elim
  case isTrue hle=>
  have Q7:cells.length=aM.size:=by rw[ak.1];simp
  have ey:=KY (P:=P) (t:=t) (o:=c) hi bX hw (by rw[←Q7];have:jZ.cells.size=(dP v).length:=by rw[←hlen];simp
                                                omega) h1
  have ez:=Step.setRow az (.inr ⟨s,hm⟩) (aM.toList.take c++jZ.cells.toList++aM.toList.drop (c+jZ.cells.toList.length)).toArray
  have b2: ∀b ci,E.m b=some (some ci)→ci≠bl:=fun b ci hb e=>by subst e;exact az.e7 b s ci hb hm
  refine⟨_,_,_,AG,ey,ez,?_,?_,rfl⟩
  ·exact{az with
    heap:=fun b ci hb=>by
     obtain⟨blk,cA,hB,q1,cj,q2,q3,q4,cw,cr⟩:=az.heap b ci hb
     refine⟨blk,cA,hB,q1,cj,?_,q3,q4,cw,fun i j row a aw aC=> ?_⟩
     ·show(E.w.setRow bl _).heap[ci]?=_
      rw[setRow_other _ _ _ _ (b2 b ci hb)];exact q2
     ·obtain⟨u,hu,dL⟩:=cr i j row a aw aC
      exact⟨u,hu,dL.le ez.le.bG⟩
    df:=fun ci hc=>by rw[show(E.w.setRow bl _).heap.size=_ from setRow_size _ _ _];exact az.df ci hc
    ed:=fun ci hc=>by rw[show(E.w.setRow bl _).heap.size=_ from setRow_size _ _ _];exact az.ed ci hc
    eQ:=fun ci hc=>by rw[show(E.w.setRow bl _).heap.size=_ from setRow_size _ _ _];exact az.eQ ci hc}
  ·intro gZ ci kD
   by_cases he:gZ=s
   ·subst he
    obtain rfl:ci=bl:=by
     have:E.mL gZ=some ci:=kD
     rw[hm] at this;exact(Option.some.inj this).symm
    refine⟨e9 cells c (dP v),_,ty,?_,setRow_heap _ _ _ _ _ _ hw,?_⟩
    ·rw[ui,if_pos rfl,aI];rfl
    ·have:=aK.e9 (ak.mono fun _ _ k=>k.le ez.le.bG) (ap.mono fun _ _ k=>k.le ez.le.bG) hle
     simpa[e9] using this
   ·obtain⟨fo,cA,hB,q1,q2,q3⟩:=bF gZ ci kD
    have A7:ci≠bl:=fun e=>by subst e;exact he (az.gW gZ s ci kD hm)
    refine⟨fo,cA,hB,by rw[ui,if_neg he];exact q1,?_,q3.mono fun _ _ k=>k.le ez.le.bG⟩
    show(E.w.setRow bl _).heap[ci]?=_
    rw[setRow_other _ _ _ _ A7];exact q2
 | ptr b g r c=>
  obtain⟨blk,hb,aI,h2⟩:=ea (show ch H[b]? fun blk=>blk.ba=g∧ch blk.rows[r]? fun row=>c+(dP v).length≤row.length∧K L (H.set b {blk with rows:=blk.rows.set r (e9 row c (dP v))}) from h)
  obtain⟨row,dR,hle,hK⟩:=ea h2
  have hU:=az.dJ b blk hb
  obtain⟨bl,hm,rfl⟩:=hx.yh (hU.trans aI)
  obtain⟨blk',aM,ty,dK,ka,hw,jM,lg,eO⟩:=az.heap b bl hm
  obtain rfl:blk=blk':=by rw[hb] at dK;exact Option.some.inj dK
  have nB:row.length=E.sz b:=eO.1 r row dR
  have aar:r<blk.rows.length:=(List.getElem?_eq_some_iff.1 dR).1
  have Q1:r*E.sz b+E.sz b≤aM.size:=by
   rw[jM];calc r*E.sz b+E.sz b=(r+1)*E.sz b:=by rw[Nat.add_mul,Nat.one_mul]
    _≤E.cp b*E.sz b:=Nat.mul_le_mul_right _ (by omega)
  have mF:jZ.cells.size=(dP v).length:=by rw[←hlen];simp
  have ey:=KY (P:=P) (t:=t) (o:=r*E.sz b+c) hi bX hw (by omega) h1
  have ez:=Step.setRow az (.inl ⟨b,hm⟩) (aM.toList.take (r*E.sz b+c)++jZ.cells.toList++aM.toList.drop (r*E.sz b+c+jZ.cells.toList.length)).toArray
  have nt:b<H.length:=(List.getElem?_eq_some_iff.1 hb).1
  refine⟨_,_,_,hK,ey,ez,?_,?_,rfl⟩
  ·exact{az with
    heap:=fun b7 ci gk=>by
     by_cases he:b7=b
     ·subst he
      obtain rfl:ci=bl:=by
       have:E.m b7=some (some ci):=gk
       rw[hm] at this;exact(Option.some.inj (Option.some.inj this)).symm
      refine⟨{blk with rows:=blk.rows.set r (e9 row c (dP v))},_,ty,by rw[List.getElem?_set_self nt],ka,setRow_heap _ _ _ _ _ _ hw,?_,by simpa using lg,?_,?_⟩
      ·simp;omega
      ·intro i row' dL
       rw[List.getElem?_set] at dL
       split at dL
       ·rename_i A0
        cases dL
        simp[e9];omega
       ·exact eO.1 i row' dL
      ·intro i j row' a dL aL
       have kC: ∀k,(aM.toList.take (r*E.sz b7+c)++jZ.cells.toList++aM.toList.drop (r*E.sz b7+c+jZ.cells.toList.length)).toArray[k]?=if k<r*E.sz b7+c then aM.toList[k]? else if k<r*E.sz b7+c+jZ.cells.toList.length then jZ.cells.toList[k - (r*E.sz b7+c)]? else aM.toList[k]?:=by
        intro k
        rw[List.getElem?_toArray,ts (by simp;omega)]
       rw[List.getElem?_set] at dL
       split at dL
       ·rename_i A0
        cases dL
        subst A0
        have qE:=ts hle j
        unfold e9 at aL
        rw[qE] at aL
        split at aL
        ·rename_i aC
         obtain⟨u,hu,fs⟩:=eO.2 r j row a dR aL
         refine⟨u,?_,fs.le ez.le.bG⟩
         show(List.toArray _)[r*E.sz b7+j]?=_
         rw[kC,if_pos (by omega)];simpa using hu
        ·rename_i aC
         split at aL
         ·rename_i uE
          obtain⟨u,hu,fs⟩:=ap.get aL
          refine⟨u,?_,fs.le ez.le.bG⟩
          show(List.toArray _)[r*E.sz b7+j]?=_
          rw[kC,if_neg (by omega),if_pos (by omega),show r*E.sz b7+j - (r*E.sz b7+c)=j - c by omega];exact hu
         ·rename_i uE
          obtain⟨u,hu,fs⟩:=eO.2 r j row a dR aL
          refine⟨u,?_,fs.le ez.le.bG⟩
          show(List.toArray _)[r*E.sz b7+j]?=_
          rw[kC,if_neg (by omega),if_neg (by omega)];simpa using hu
       ·rename_i A0
        have ph:j<E.sz b7:=by rw[←eO.1 i row' dL];exact(List.getElem?_eq_some_iff.1 aL).1
        obtain⟨u,hu,fs⟩:=eO.2 i j row' a dL aL
        refine⟨u,?_,fs.le ez.le.bG⟩
        show(List.toArray _)[i*E.sz b7+j]?=_
        rw[kC]
        rcases Nat.lt_or_ge i r with aR | eK
        ·have:i*E.sz b7+E.sz b7≤r*E.sz b7:=by
          calc i*E.sz b7+E.sz b7=(i+1)*E.sz b7:=by rw[Nat.add_mul,Nat.one_mul]
           _≤r*E.sz b7:=Nat.mul_le_mul_right _ (by omega)
         rw[if_pos (by omega)];simpa using hu
        ·have:r*E.sz b7+E.sz b7≤i*E.sz b7:=by
          calc r*E.sz b7+E.sz b7=(r+1)*E.sz b7:=by rw[Nat.add_mul,Nat.one_mul]
           _≤i*E.sz b7:=Nat.mul_le_mul_right _ (by omega)
         rw[if_neg (by omega),if_neg (by omega)];simpa using hu
     ·obtain⟨tX,zI,ty2,q1,cj,q2,q3,q4,cw,cr⟩:=az.heap b7 ci gk
      have b2:ci≠bl:=fun e=>by subst e;exact he (az.fR b7 b ci gk hm)
      refine⟨tX,zI,ty2,by rw[List.getElem?_set_ne (fun e=>he e.symm)];exact q1,cj,?_,q3,q4,cw,fun i j row a aw aC=> ?_⟩
      ·show(E.w.setRow bl _).heap[ci]?=_
       rw[setRow_other _ _ _ _ b2];exact q2
      ·obtain⟨u,hu,dL⟩:=cr i j row a aw aC
       exact⟨u,hu,dL.le ez.le.bG⟩
    dJ:=fun b7 tX gk=>by
     by_cases he:b=b7
     ·subst he
      rw[List.getElem?_set_self nt] at gk
      cases gk
      exact az.dJ b blk hb
     ·rw[List.getElem?_set_ne he] at gk
      exact az.dJ b7 tX gk
    fz:=fun b7 gk=>by
     obtain⟨tX,q,hy⟩:=az.fz b7 gk
     by_cases he:b=b7
     ·subst he
      rw[hm] at gk;cases gk
     ·exact⟨tX,by rw[List.getElem?_set_ne he];exact q,hy⟩
    fresh:=fun b7 gk=>az.fresh b7 (by simpa using gk)
    df:=fun ci hc=>by rw[show(E.w.setRow bl _).heap.size=_ from setRow_size _ _ _];exact az.df ci hc
    ed:=fun ci hc=>by rw[show(E.w.setRow bl _).heap.size=_ from setRow_size _ _ _];exact az.ed ci hc
    eQ:=fun ci hc=>by rw[show(E.w.setRow bl _).heap.size=_ from setRow_size _ _ _];exact az.eQ ci hc}
  ·intro gZ ci kD
   obtain⟨fo,cA,hB,q1,q2,q3⟩:=bF gZ ci kD
   have A7:ci≠bl:=fun e=>by subst e;exact az.e7 b gZ ci hm kD
   refine⟨fo,cA,hB,q1,?_,q3.mono fun _ _ k=>k.le ez.le.bG⟩
   show(E.w.setRow bl _).heap[ci]?=_
   rw[setRow_other _ _ _ _ A7];exact q2
 | _=>exact h.elim
structure ji (E E':Env):Prop where
 step:Step E E'
 m:E'.m=E.m
 mL:E'.mL=E.mL
 ba:E'.ba=E.ba
 sz:E'.sz=E.sz
 cp:E'.cp=E.cp
 dM: ∀c,c<E.w.heap.size→E'.w.heap[c]?=E.w.heap[c]?
 ep: ∀c,E'.PA c→E.PA c∨(E.w.heap.size≤c∧c<E'.w.heap.size)
 dc: ∀c,E'.PF c→E'.PA c
theorem ji.refl {E:Env} {H:List Blk} (h:SimH E H):ji E E:=⟨.refl E,rfl,rfl,rfl,rfl,rfl,fun _ _=>rfl,fun _ h=> .inl h,h.dc⟩
theorem ji.simH {E E':Env} {H:List Blk} (q:ji E E') (h:SimH E H):SimH E' H where
 heap:=fun b c hb=>by
  rw[q.m] at hb
  obtain⟨blk,aM,ty,q1,cj,q2,q3,q4,cw,cr⟩:=h.heap b c hb
  refine⟨blk,aM,ty,q1,by rw[q.sz];exact cj,?_,by rw[q.cp,q.sz];exact q3,by rw[q.cp];exact q4,by rw[q.sz];exact cw,fun i j row a aw aC=> ?_⟩
  ·rw[q.dM c (h.ed c ⟨b,hb⟩)];exact q2
  ·obtain⟨u,hu,dL⟩:=cr i j row a aw aC
   exact⟨u,by rw[q.sz];exact hu,dL.le q.step.le.bG⟩
 dJ:=by rw[q.ba];exact h.dJ
 fz:=by rw[q.m,q.sz];exact h.fz
 fresh:=by rw[q.m,q.ba];exact h.fresh
 fR:=by rw[q.m];exact h.fR
 gW:=by rw[q.mL];exact h.gW
 e7:=by rw[q.m,q.mL];exact h.e7
 fV:=fun c hc ⟨b,hb⟩=>by
  rw[q.m] at hb
  rcases q.ep c hc with hc | ⟨hc,_⟩
  ·exact h.fV c hc ⟨b,hb⟩
  ·have:=h.ed c ⟨b,hb⟩;omega
 gm:=fun c hc ⟨b,hb⟩=>by
  rw[q.mL] at hb
  rcases q.ep c hc with hc | ⟨hc,_⟩
  ·exact h.gm c hc ⟨b,hb⟩
  ·have:=h.eQ c ⟨b,hb⟩;omega
 dc:=q.dc
 df:=fun c hc=>by
  rcases q.ep c hc with hc | ⟨_,hc⟩
  ·exact Nat.lt_of_lt_of_le (h.df c hc) q.step.size
  ·exact hc
 ed:=fun c ⟨b,hb⟩=>by rw[q.m] at hb;exact Nat.lt_of_lt_of_le (h.ed c ⟨b,hb⟩) q.step.size
 eQ:=fun c ⟨b,hb⟩=>by rw[q.mL] at hb;exact Nat.lt_of_lt_of_le (h.eQ c ⟨b,hb⟩) q.step.size
theorem ji.simL {E E':Env} {H:List Blk} {L:List (Nat×List AV)} (q:ji E E') (h:SimH E H) (l:SimL E L):SimL E' L:=fun t c hm=>by
 rw[q.mL] at hm
 obtain⟨cells,aM,ty,q1,q2,q3⟩:=l t c hm
 exact⟨cells,aM,ty,q1,by rw[q.dM c (h.eQ c ⟨t,hm⟩)];exact q2,q3.mono fun _ _ k=>k.le q.step.le.bG⟩
def wE (op:BinOp) (k:IntKind) (a b:Int) (K:AV→Prop):Prop:=match op with
 | .add=>K (.int k (k.wrap (a+b)))
 | .sub=>K (.int k (k.wrap (a - b)))
 | .mul=>K (.int k (k.wrap (a*b)))
 | .quo=>b≠0∧K (.int k (k.wrap (a.tdiv b)))
 | .rem=>b≠0∧K (.int k (a.tmod b))
 | .and=>K (.int k (k.wrap (BitVec.ofInt k.bits a&&&BitVec.ofInt k.bits b).toNat))
 | .eql=>K (.bool (a==b))
 | .neq=>K (.bool (a !=b))
 | .lss=>K (.bool (decide (a<b)))
 | .leq=>K (.bool (decide (a≤b)))
 | .gtr=>K (.bool (decide (a>b)))
 | .geq=>K (.bool (decide (a ≥ b)))
 | _=>False
def two (P:Program) (t:TypeId):Bool:=
 match P.underlying t with
 | some (.struct dl)=> !P.stoodInHeld t&& !P.eqGuardType P.depth t&&(match dl.toList with
  | [f,g]=>f.name != "_" &&g.name != "_" &&f.offset==0&&g.offset==1&&(P.underlying f.type matches some (.int .i64))&&(P.underlying g.type matches some (.int .i64))
  | _=>false)
 | _=>false
def wF (op:BinOp) (k:IntKind) (a:Int) (iv:IntKind) (b:Int) (K:AV→Prop):Prop:=match op with
 | .shl=>0≤b∧K (.int k (k.wrap (a*2 ^ (min b.toNat k.bits))))
 | .shr=>0≤b∧K (.int k (a.fdiv (2 ^ (min b.toNat k.bits))))
 | op=>if k=iv then wE op k a b K else False
def H0 (P:Program) (t:TypeId):Bool:=match P.underlying t with
 | some .bool=>true
 | _=>false
def zl (P:Program) (op:BinOp) (t:TypeId) (a b:Bool) (K:AV→Prop):Prop:=if H0 P t=true then(match op with
  | .eql=>K (.bool (a==b))
  | .neq=>K (.bool (a !=b))
  | _=>False) else False
def zn (op:BinOp) (a b:ByteArray) (K:AV→Prop):Prop:=match op with
  | .add=>a.size+b.size≤9223372036854775807∧K (.str (a++b))
  | .eql=>K (.bool (a.toList==b.toList))
  | .neq=>K (.bool (!(a.toList==b.toList)))
  | _=>False
def zo (op:BinOp) (a b c d:Int) (K:AV→Prop):Prop:=match op with
  | .eql=>K (.bool (a==c&&b==d))
  | .neq=>K (.bool (!(a==c&&b==d)))
  | _=>False
def tA:List AV→Option (Int×Int)
 | [.int .i64 a,.int .i64 b]=>some (a,b)
 | _=>none
def gU (P:Program) (t:TypeId):Option TypeId:=match P.underlying t with
 | some (.slice e)=>some e
 | _=>none
def nG:Operand→Bool
 | .const (.slice none 0 0)=>true
 | _=>false
def zm (P:Program) (op:BinOp) (t:TypeId) (rows:List (List AV)) (oT:Bool) (K:AV→Prop):Prop:=
 if oT=true∧(gU P t).isSome=true then(match op with
  | .eql=>(rows≠[]→K (.bool false))∧(rows=[]→ ∀b,K (.bool b))
  | _=>False) else False
def oZ (P:Program) (op:BinOp) (t:TypeId) (x y:AV) (oT:Bool) (K:AV→Prop):Prop:=match x with
 | .int k a=>(match y with
  | .int iv b=>wF op k a iv b K
  | _=>False)
 | .bool a=>(match y with
  | .bool b=>zl P op t a b K
  | _=>False)
 | .str a=>(match y with
  | .str b=>zn op a b K
  | _=>False)
 | .agg l=>(match y with
  | .agg m=>if two P t=true then ch (tA l) fun p=>ch (tA m) fun q=>zo op p.1 p.2 q.1 q.2 K else False
  | _=>False)
 | .a8 rows _ _=>zm P op t rows oT K
 | _=>False
theorem Ab {op:BinOp} {t:TypeId} {x y:Operand} {k iv:IntKind} {a b:Int} {P:Program} {w:World}:(eqGuard op t x y (.int k a) (.int iv b)).run P w= .ok () w:=by
 unfold eqGuard;cases op<;>rfl
theorem E8 {op:BinOp} {t:TypeId} {x y:Operand} {a b:Bool} {P:Program} {w:World}:(eqGuard op t x y (.bool a) (.bool b)).run P w= .ok () w:=by
 unfold eqGuard;cases op<;>rfl
theorem Ac {op:BinOp} {t:TypeId} {x y:Operand} {a b:ByteArray} {P:Program} {w:World}:(eqGuard op t x y (.string a) (.string b)).run P w= .ok () w:=by
 unfold eqGuard;cases op<;>rfl
theorem Pc {op:BinOp} {t:TypeId} {x y:Operand} {A B:Option Addr} {n m c d:Nat} {P:Program} {w:World}:(eqGuard op t x y (.slice A n c) (.slice B m d)).run P w= .ok () w:=by
 unfold eqGuard;cases op<;>rfl
theorem E7 {op:BinOp} {t:TypeId} {x y:Operand} {A B:Array Value} {P:Program} {w:World} (h:P.eqGuardType P.depth t=false):(eqGuard op t x y (.agg A) (.agg B)).run P w= .ok () w:=by
 unfold eqGuard;cases op<;>first | rfl | simp[h]
theorem Xd {P:Program} {w:World} {op:BinOp} {t:TypeId} {k:IntKind} {a b:Int} {K:AV→Prop} (h:wE op k a b K):
  ∃r u,K r∧(binOp op t (.int k a) (.int k b)).run P w= .ok u w∧ ∀E:Env,V3 E r u:=by
 cases op<;>simp only[wE] at h
 case add=>exact⟨_,_,h,by simp[binOp,Op.intArith],fun E=>a1.int _ _⟩
 case sub=>exact⟨_,_,h,by simp[binOp,Op.intArith],fun E=>a1.int _ _⟩
 case mul=>exact⟨_,_,h,by simp[binOp,Op.intArith],fun E=>a1.int _ _⟩
 case quo=>exact⟨_,_,h.2,by simp[binOp,Op.intDiv,h.1],fun E=>a1.int _ _⟩
 case rem=>exact⟨_,_,h.2,by simp[binOp,Op.intDiv,h.1],fun E=>a1.int _ _⟩
 case and=>exact⟨_,_,h,by simp[binOp,Op.intBits],fun E=>a1.int _ _⟩
 case eql=>exact⟨_,_,h,by simp[binOp,Op.intCmp],fun E=>a1.bool _⟩
 case neq=>exact⟨_,_,h,by simp[binOp,Op.intCmp],fun E=>a1.bool _⟩
 case lss=>exact⟨_,_,h,by simp[binOp,Op.intCmp],fun E=>a1.bool _⟩
 case leq=>exact⟨_,_,h,by simp[binOp,Op.intCmp],fun E=>a1.bool _⟩
 case gtr=>exact⟨_,_,h,by simp[binOp,Op.intCmp],fun E=>a1.bool _⟩
 case geq=>exact⟨_,_,h,by simp[binOp,Op.intCmp],fun E=>a1.bool _⟩
theorem ML {P:Program} {t:TypeId} (h:two P t=true): ∃f g:Field,P.underlying t=some (.struct (P.fieldsOf t))∧(P.fieldsOf t).toList=[f,g]∧P.stoodInHeld t=false∧P.eqGuardType P.depth t=false∧
  f.name≠ "_" ∧g.name≠ "_" ∧f.offset=0∧g.offset=1∧P.underlying f.type=some (.int .i64)∧P.underlying g.type=some (.int .i64):=by
 unfold two at h
 split at h
 ·rename_i dl lh
  have hf:P.fieldsOf t=dl:=by simp[Program.fieldsOf,lh]
  simp only[Bool.and_eq_true,Bool.not_eq_true'] at h
  obtain⟨⟨h1,h2⟩,aJ⟩:=h
  split at aJ
  ·rename_i f g aE
   simp only[Bool.and_eq_true,bne_iff_ne,ne_eq,beq_iff_eq] at aJ
   obtain⟨⟨⟨⟨⟨q1,q2⟩,q3⟩,q4⟩,cw⟩,cr⟩:=aJ
   refine⟨f,g,by rw[hf];exact lh,by rw[hf];exact aE,h1,h2,q1,q2,q3,q4,?_,?_⟩
   ·split at cw
    ·assumption
    ·cases cw
   ·split at cr
    ·assumption
    ·cases cr
  ·cases aJ
 ·cases h
theorem KZ {P:Program} {t:TypeId} (h:two P t=true) (a b c d:Int) (w:World):
  (Op.equal t (.agg #[.int .i64 a,.int .i64 b]) (.agg #[.int .i64 c,.int .i64 d])).run P w= .ok (a==c&&b==d) w:=by
 obtain⟨f,g,h1,h2,aJ,bj,cP,eg,j8,ob,qf,pb⟩:=ML h
 show(Op.equalIn (9999+1) t _ _).run P w=_
 rw[run_equalIn_struct w 9999 t _ _ h1 aJ,h2]
 have et: ∀(fY:TypeId) (aM:Array Value) (o:Nat) (u:Value),P.underlying fY=some (.int .i64)→aM[o]?=some u→(part fY aM o).run P w= .ok u w:=by
  intro fY aM o u hu hc
  simp[part,Go.isAgg,run_underlying hu,hc]
 simp only[Op.eqFields,if_pos cP,if_pos eg,j8,ob,Sem.run_bind]
 rw[et f.type #[.int .i64 a,.int .i64 b] 0 (.int .i64 a) qf rfl]
 simp only[Result.andThen_ok]
 rw[et f.type #[.int .i64 c,.int .i64 d] 0 (.int .i64 c) qf rfl]
 simp only[Result.andThen_ok]
 rw[show(9999:Nat)=9998+1 from rfl,run_equalIn_int w 9998 f.type .i64 .i64 a c qf]
 simp only[Result.andThen_ok]
 cases aag:(a==c)
 ·simp
 ·simp only[Bool.not_true,Bool.false_eq_true,if_false,Sem.run_bind]
  rw[et g.type #[.int .i64 a,.int .i64 b] 1 (.int .i64 b) pb rfl]
  simp only[Result.andThen_ok]
  rw[et g.type #[.int .i64 c,.int .i64 d] 1 (.int .i64 d) pb rfl]
  simp only[Result.andThen_ok]
  rw[run_equalIn_int w 9998 g.type .i64 .i64 b d pb]
  cases aai:(b==d)<;>simp
theorem V3.MK {E:Env} {a b:Int} {v:Value} (h:V3 E (.agg [.int .i64 a,.int .i64 b]) v):v= .agg #[.int .i64 a,.int .i64 b]:=by
 obtain⟨vs,rfl,ak⟩:=(h:V2 E (.agg [.int .i64 a,.int .i64 b]) v)
 obtain⟨x,vs,rfl,hx,ak⟩:=ak.cons_inv
 obtain⟨y,vs,rfl,bm,ak⟩:=ak.cons_inv
 obtain rfl:=ak.oC
 have hq:a1 E.w E.PA E.PF (.int .i64 a) x:=hx
 have R_:a1 E.w E.PA E.PF (.int .i64 b) y:=bm
 cases hq;cases R_;rfl
theorem MJ {l:List AV} {p:Int×Int} (h:tA l=some p):l=[.int .i64 p.1,.int .i64 p.2]:=by
 unfold tA at h
 split at h
 ·cases h;rfl
 ·cases h
theorem o2 {P:Program} {t e:TypeId} (h:gU P t=some e):P.underlying t=some (.slice e):=by
 unfold gU at h
 split at h
 ·cases h;assumption
 ·cases h
theorem NQ {P:Program} {op:BinOp} {t:TypeId} {X Y:Operand} {D0 tE:AV} {gF y1:Value} {E:Env} {K:AV→Prop}
  {oT:Bool} (hx:V3 E D0 gF) (bm:V3 E tE y1) (Bn:oT=true→y1= .slice none 0 0) (h:oZ P op t D0 tE oT K):
  ∃r u,K r∧(do eqGuard op t X Y gF y1;binOp op t gF y1:Sem Value).run P E.w= .ok u E.w∧V3 E r u:=by
 cases D0 with
 | int k a=>
  cases tE with
  | int iv b=>
   replace h:wF op k a iv b K:=h
   obtain rfl:=hx.kc
   obtain rfl:=bm.kc
   cases op
   case shl=>
    obtain⟨hb,h⟩:=h
    have dK: ¬b<0:=by omega
    exact⟨_,_,h,by simp[Ab,binOp,Op.shift,dK],a1.int _ _⟩
   case shr=>
    obtain⟨hb,h⟩:=h
    have dK: ¬b<0:=by omega
    exact⟨_,_,h,by simp[Ab,binOp,Op.shift,dK],a1.int _ _⟩
   all_goals
    simp only[wF] at h
    split at h
    ·rename_i hk
     subst hk
     obtain⟨r,u,hK,aw,hv⟩:=Xd (P:=P) (w:=E.w) (t:=t) h
     exact⟨r,u,hK,by simp only[Sem.run_bind,Ab,Result.andThen_ok,aw],hv E⟩
    ·exact h.elim
  | _=>exact h.elim
 | bool a=>
  cases tE with
  | bool b=>
   replace h:zl P op t a b K:=h
   obtain rfl:=hx.mh
   obtain rfl:=bm.mh
   unfold zl at h
   split at h
   ·rename_i hu
    have jN:P.underlying t=some .bool:=by
     unfold H0 at hu
     split at hu
     ·assumption
     ·cases hu
    cases op<;>first | exact h.elim | skip
    case eql=>exact⟨_,_,h,by simp only[Sem.run_bind,E8,Result.andThen_ok,binOp,Op.equal];rw[show Op.maxDepth=9999+1 from rfl,run_equalIn_bool' E.w 9999 t a b jN];rfl,a1.bool _⟩
    case neq=>exact⟨_,_,h,by simp only[Sem.run_bind,E8,Result.andThen_ok,binOp,Op.equal];rw[show Op.maxDepth=9999+1 from rfl,run_equalIn_bool' E.w 9999 t a b jN];rfl,a1.bool _⟩
   ·exact h.elim
  | _=>exact h.elim
 | str a=>
  cases tE with
  | str b=>
   replace h:zn op a b K:=h
   obtain rfl:=hx.tu
   obtain rfl:=bm.tu
   cases op<;>first | exact h.elim | skip
   case add=>
    obtain⟨aE,h⟩:=h
    have: ¬((a.size+b.size:Nat):Int)>IntKind.i64.max:=by
     have:IntKind.i64.max=9223372036854775807:=by decide
     rw[this];omega
    exact⟨_,_,h,by simp only[Sem.run_bind,Ac,Result.andThen_ok,binOp,Op.stringOp];rw[if_neg this];rfl,a1.str _⟩
   case eql=>exact⟨_,_,h,by simp only[Sem.run_bind,Ac,Result.andThen_ok,binOp,Op.stringOp];rfl,a1.bool _⟩
   case neq=>exact⟨_,_,h,by simp only[Sem.run_bind,Ac,Result.andThen_ok,binOp,Op.stringOp];rfl,a1.bool _⟩
  | _=>exact h.elim
 | agg l=>
  cases tE with
  | agg m=>
   replace h:if two P t=true then ch (tA l) fun p=>ch (tA m) fun q=>zo op p.1 p.2 q.1 q.2 K else False:=h
   split at h
   ·rename_i bt
    obtain⟨⟨a,b⟩,ak,h⟩:=ea h
    obtain⟨⟨c,d⟩,ag,h⟩:=ea h
    obtain rfl:=MJ ak
    obtain rfl:=MJ ag
    obtain rfl:=hx.MK
    obtain rfl:=bm.MK
    obtain⟨f,g,h1,h2,aJ,bj,_⟩:=ML bt
    cases op<;>first | exact h.elim | skip
    case eql=>exact⟨_,_,h,by simp only[Sem.run_bind,E7 bj,Result.andThen_ok,binOp,KZ bt];rfl,a1.bool _⟩
    case neq=>exact⟨_,_,h,by simp only[Sem.run_bind,E7 bj,Result.andThen_ok,binOp,KZ bt];rfl,a1.bool _⟩
   ·exact h.elim
  | _=>exact h.elim
 | a8 rows cS fr=>
  replace h:zm P op t rows oT K:=h
  unfold zm at h
  split at h
  ·rename_i hc
   obtain⟨ap,he⟩:=hc
   obtain⟨e,he⟩:=Option.isSome_iff_exists.1 he
   have hu:=o2 he
   obtain rfl:=Bn ap
   have hq:a1 E.w E.PA E.PF (.a8 rows cS fr) gF:=hx
   cases hq with
   | @a8 _ _ _ _ _ _ A cap sz vs eh e5 fw bX dv hrel=>
   have ey:(do eqGuard op t X Y (.slice A rows.length cap) (.slice none 0 0);binOp .eql t (.slice A rows.length cap) (.slice none 0 0):Sem Value).run P E.w= .ok (.bool A.isNone) E.w:=by
    simp only[Sem.run_bind,Pc,Result.andThen_ok,binOp,Op.equal]
    rw[show Op.maxDepth=9999+1 from rfl]
    generalize 9999=d
    simp only[Op.equalIn,Sem.run_bind,run_underlying hu,Result.andThen_ok]
    cases A<;>rfl
   cases op<;>first | exact h.elim | skip
   case eql=>
    obtain⟨h1,h2⟩:=h
    by_cases aw:rows=[]
    ·exact⟨_,_,h2 aw A.isNone,ey,a1.bool _⟩
    ·have:0<rows.length:=by cases rows<;>simp_all
     obtain⟨c,o,rfl,_⟩:=dv this
     exact⟨_,_,h1 aw,ey,a1.bool _⟩
  ·exact h.elim
 | _=>exact h.elim
theorem FF (off:Nat): ∀(l:List Value) (k:Nat) (cells:Array Value),off+k+l.length≤cells.size→
  (((l.zipIdx k).foldl (fun aM (x:Value×Nat)=>aM.setIfInBounds (off+x.2) x.1) cells).size=cells.size∧
  ∀i,((l.zipIdx k).foldl (fun aM (x:Value×Nat)=>aM.setIfInBounds (off+x.2) x.1) cells)[i]?=if i<off+k then cells[i]? else if i<off+k+l.length then l[i - (off+k)]? else cells[i]?)
 | [],k,cells,_=>⟨rfl,fun i=>by simp;omega⟩
 | v::l,k,cells,h=>by
  have h':off+(k+1)+l.length≤(cells.setIfInBounds (off+k) v).size:=by simp at h ⊢;omega
  obtain⟨h1,h2⟩:=FF off l (k+1) (cells.setIfInBounds (off+k) v) h'
  refine⟨by simp only[List.zipIdx_cons,List.foldl_cons];rw[h1];simp,fun i=> ?_⟩
  simp only[List.zipIdx_cons,List.foldl_cons]
  rw[h2 i]
  simp only[Array.getElem?_setIfInBounds,List.length_cons] at*
  by_cases J:i<off+k
  ·rw[if_pos (by omega),if_neg (by omega),if_pos J]
  ·by_cases a2:i=off+k
   ·subst a2
    rw[if_pos (by omega),if_pos rfl,if_pos (by omega),if_neg (by omega),if_pos (by omega)]
    simp
   ·by_cases a3:i<off+(k+1)+l.length
    ·rw[if_neg (by omega),if_pos a3,if_neg J,if_pos (by omega),show i - (off+k)=(i - (off+(k+1)))+1 by omega]
     simp
    ·rw[if_neg (by omega),if_neg a3,if_neg (by omega),if_neg J,if_neg (by omega)]
def mo (pl:Nat→Option (Nat×Nat)) (cells:List AV):List (Nat×AV)→Option (List AV)
 | []=>some cells
 | (i,v)::rest=>match pl i with
  | none=>none
  | some (off,size)=>if(dP v).length=size∧off+(dP v).length≤cells.length∧(dP v).all hA=true then mo pl (e9 cells off (dP v)) rest else none
theorem w9 {E:Env} {pl:Nat→Option (Nat×Nat)}: ∀{parts:List (Nat×AV)} {h_:List (Nat×Value)} {cells:List AV} {pT:Array Value} {r:List AV},
  aK (fun a b=>a.1=b.1∧V2 E a.2 b.2) parts h_→aK (bT E.bG) cells pT.toList→mo pl cells parts=some r→ ∃fX,Instr.fill pl pT h_=some fX∧aK (bT E.bG) r fX.toList
 | [],h_,cells,pT,r,ak,hc,h=>by
  obtain rfl:=ak.oC
  cases h
  exact⟨pT,rfl,hc⟩
 | (i,v)::rest,h_,cells,pT,r,ak,hc,h=>by
  obtain⟨⟨iI,u⟩,aaD,rfl,⟨hi,hv⟩,xI⟩:=ak.cons_inv
  simp only at hi hv
  subst hi
  unfold mo at h
  split at h
  ·cases h
  ·rename_i off size iG
   split at h
   ·rename_i pc
    obtain⟨h1,h2,aJ⟩:=pc
    have qo:=zy hv aJ
    have Q6:aK (bT E.bG) (dP v) u.cells.toList:=⟨qo.1,fun i a b aL hb=>DG (List.all_eq_true.1 aJ a (List.mem_of_getElem? aL)) (qo.2 i a b aL hb)⟩
    have bX:u.cells.size=(dP v).length:=by rw[qo.1];simp
    have lg:cells.length=pT.size:=by rw[hc.1];simp
    obtain⟨f1,f2⟩:=FF off u.cells.toList 0 pT (by simp;omega)
    simp only[Nat.add_zero] at f1 f2
    have sy:aK (bT E.bG) (e9 cells off (dP v)) ((u.cells.toList.zipIdx).foldl (fun aM (x:Value×Nat)=>aM.setIfInBounds (off+x.2) x.1) pT).toList:=by
     have hs:=aK.e9 hc Q6 h2
     refine⟨?_,fun k a b aL hb=> ?_⟩
     ·simp only[Array.length_toList];rw[f1];simp[e9];omega
     ·refine hs.2 k a b aL ?_
      rw[ts (by simp;omega)]
      rw[Array.getElem?_toList,f2 k] at hb
      simpa using hb
    obtain⟨fX,aw,hrel⟩:=w9 xI sy h
    refine⟨fX,?_,hrel⟩
    unfold Instr.fill
    rw[iG]
    simp only
    rw[if_neg (by simp;omega)]
    rw[←Array.foldl_toList,Array.toList_zipIdx]
    exact aw
   ·cases h
def kq (P:Program) (t:TypeId):Option (List AV):=((P.info? t).bind (·.zero)).map fun z=>z.cells.toList.map lS
theorem OR (E:Env) (v:Value):bT E (lS v) v:=by
 unfold lS
 split
 ·exact a1.int _ _
 ·exact a1.bool _
 ·exact a1.str _
 ·exact a1.a8 (PB:=fun _=>False) (sz:=0) (vs:=fun _ _=>undef) (fun _ h=>h.elim) ⟨Nat.le_refl _,Nat.zero_le _⟩ (fun _=>rfl) (fun i row h=>by simp at h) (fun h=>by simp at h) (fun i j row a h=>by simp at h)
 ·exact a1.eI
 ·exact a1.eU
 ·exact a1.undef _
theorem rL {E:Env} {P:Program} {t:TypeId} {z:List AV} (h:kq P t=some z): ∃i v,P.info? t=some i∧i.zero=some v∧z=v.cells.toList.map lS∧aK (bT E) z v.cells.toList:=by
 unfold kq at h
 cases hi:P.info? t with
 | none=>simp[hi] at h
 | some i=>
  cases aH:i.zero with
  | none=>simp[hi,aH] at h
  | some v=>
   simp[hi,aH] at h
   subst h
   refine⟨i,v,rfl,aH,rfl,by simp,fun k a b aL hb=> ?_⟩
   rw[List.getElem?_map,hb] at aL
   simp at aL;subst aL;exact OR E b
def Ct (P:Program) (t:TypeId):Option (List (Nat×Nat)):=match P.underlying t with
 | some (.struct dl)=>dl.toList.mapM (fun f=>(P.info? f.type).map fun i=>(f.offset,i.size))
 | _=>none
def zr (P:Program) (t:TypeId) (parts:List (Nat×AV)) (K:AV→Prop):Prop:=
 ch (kq P t) fun z=>ch (Ct P t) fun pl=>ch (mo (fun i=>pl[i]?) z parts) fun cells=>K (.agg cells)
theorem N7 {P:Program} {E:Env} {t:TypeId} {parts:List (Nat×AV)} {h_:List (Nat×Value)} {K:AV→Prop} (ak:aK (fun a b=>a.1=b.1∧V2 E a.2 b.2) parts h_) (h:zr P t parts K):
  ∃r u,K r∧(Instr.build t h_.toArray).run P E.w= .ok u E.w∧V3 E r u:=by
 obtain⟨z,aH,h⟩:=ea h
 obtain⟨pl,iG,h⟩:=ea h
 obtain⟨cells,hf,h⟩:=ea h
 obtain⟨i,v,h1,h2,aJ,bj⟩:=rL (E:=E.bG) aH
 obtain⟨fX,aw,hrel⟩:=w9 ak bj hf
 refine⟨_,.agg fX,h,run_build E.w t h_.toArray fX ?_,fX.toList,by simp,hrel.mono fun _ _ k=>k.up⟩
 unfold Ct at iG
 split at iG
 ·rename_i dl lh
  unfold Program.built
  rw[h1,lh]
  simp only[h2,iG]
  simpa using aw
 ·cases iG
def hh:AV→Bool
 | .int _ _ | .bool _ | .str _ | .a8 _ _ _ | .eI | .eU=>true
 | _=>false
def lb:AV→Bool
 | .a8 _ _ fr=>fr
 | _=>true
def h7:AV→AV
 | .a8 rows _ _=> .a8 rows false false
 | a=>a
def l6:AV→AV
 | .a8 rows full _=> .a8 rows full true
 | a=>a
theorem WZ {w:World} {PB PA PF:Nat→Prop} {a:AV} {v:Value} (h:a1 w PB (fun _=>False) a v) (hb: ∀c,PB c→PF c) (A9: ∀c,PF c→PA c):a1 w PA PF (l6 a) v:=by
 have key:(∀rows full fr,a≠ .a8 rows full fr)→a1 w PA PF (l6 a) v:=fun b2=>by
  have e:l6 a=a:=by cases a<;>first | rfl | exact absurd rfl (b2 _ _ _)
  rw[e]
  exact h.mono (fun _ _=>rfl) (fun _ h=>h.elim) (fun c hc=>A9 c (hb c hc)) (fun _ h=>h.elim)
 cases a with
 | a8 rows full fr=>
  cases h with
  | a8 eh e5 fw bX dv hrel=>
   exact .a8 (fun c hc=>by
    have:=eh c hc
    rw[if_pos rfl]
    split at this
    ·exact this.elim
    ·exact hb c this) e5 fw bX dv hrel
 | _=>exact key (fun _ _ _ e=>by cases e)
theorem DS {w:World} {PA PF PB:Nat→Prop} {a:AV} {v:Value} (aL:hh a=true) (h:a1 w PA PF a v) (hb: ∀c,PA c→PB c) (A9: ∀c,PF c→PA c):a1 w PB (fun _=>False) (h7 a) v:=by
 cases h with
 | undef=>cases aL
 | int=>exact .int _ _
 | bool=>exact .bool _
 | str=>exact .str _
 | a8 eh e5 fw bX dv hrel=>
  exact .a8 (fun c hc=>by
   have:=eh c hc
   simp only[Bool.false_eq_true,if_false]
   split at this
   ·exact hb c (A9 c this)
   ·exact hb c this) e5 (fun h=>by cases h) bX dv hrel
 | cD=>cases aL
 | eI=>exact .eI
 | eU=>exact .eU
 | fn=>cases aL
theorem MN {w:World} {PA PF:Nat→Prop} {a:AV} {v:Value} (aL:hh a=true) (hf:lb a=true) (h:a1 w PA PF a v):a1 w PF (fun _=>False) (h7 a) v:=by
 cases h with
 | undef=>cases aL
 | int=>exact .int _ _
 | bool=>exact .bool _
 | str=>exact .str _
 | @a8 _ _ PB rows full fresh A cap sz vs eh e5 fw bX dv hrel=>
  have Rf:fresh=true:=hf
  subst Rf
  exact .a8 (fun c hc=>by simpa using eh c hc) e5 (fun h=>by cases h) bX dv hrel
 | cD=>cases aL
 | eI=>exact .eI
 | eU=>exact .eU
 | fn=>cases aL
def chunk (size n:Nat) (cells:List AV):List (List AV):=(List.range n).map fun i=>(cells.drop (i*size)).take size
def r5 (P:Program) (t:TypeId) (n:Nat) (parts:List (Nat×AV)) (K:AV→Prop):Prop:=
 ch (gU P t) fun e=>ch (kq P e) fun z=>if z.length=P.cellsOf e∧n*z.length≤1000000∧n≤1000000 then
  ch (mo (fun i=>some (i*z.length,z.length)) ((List.range (n*z.length)).map fun i=>z.getD (i%z.length) .undef) parts) fun cells=>
   if cells.all hh=true then K (.a8 (chunk z.length n (cells.map h7)) true (cells.all lb)) else False
 else False
theorem wJ {E:Env} {a:AV} {v:Value} (aL:hh a=true) (h:bT E a v):a1 E.w E.PA E.PF a v:=by
 cases a<;>first | exact h | cases aL
theorem EO {size n i j:Nat} {cells row:List AV} {a:AV} (aw:(chunk size n cells)[i]?=some row) (aC:row[j]?=some a):i<n∧j<size∧cells[i*size+j]?=some a:=by
 unfold chunk at aw
 rw[List.getElem?_map] at aw
 cases qC:(List.range n)[i]? with
 | none=>simp[qC] at aw
 | some k=>
  have hi:i<n:=by have:=(List.getElem?_eq_some_iff.1 qC).1;simpa using this
  rw[List.getElem?_range hi] at qC
  cases qC
  rw[List.getElem?_range hi] at aw
  simp at aw
  subst aw
  rw[List.getElem?_take] at aC
  split at aC
  ·rw[List.getElem?_drop] at aC
   exact⟨hi,by assumption,aC⟩
  ·cases aC
theorem oX (w:World) (o:Obj) (c:Nat) (h:c<w.heap.size):(w.alloc o).heap[c]?=w.heap[c]?:=Go.RowKit.Below.heap_alloc w o c h
theorem El (w:World) (o:Obj):(w.alloc o).heap[w.heap.size]?=some o:=by
 show(w.heap.push o)[w.heap.size]?=_
 simp
theorem ji.alloc {E:Env} {H:List Blk} (az:SimH E H) (o:Obj):
  ji E {E with w:=E.w.alloc o,PA:=fun c=>E.PA c∨c=E.w.heap.size,PF:=fun c=>E.PF c∨c=E.w.heap.size} where
 step:=⟨⟨fun _ h=> .inl h,fun _ h=> .inl h,fun c hc=>oX _ _ _ (az.df c hc),fun c hc=>oX _ _ _ (az.df c (az.dc c hc)),fun _=>Nat.le_refl _,fun _ _ h _=>⟨h,rfl,rfl⟩,fun _ _ h=>h⟩,
  rfl,rfl,rfl,by simp,fun c hc _ _=>oX _ _ _ hc,fun _ _ h=> .inl h,fun _ h=> .inl h,fun c hc=>hc.elim .inl (fun e=> .inr (by omega)),fun c hc=>hc.elim .inl (fun e=> .inr (by omega))⟩
 m:=rfl
 mL:=rfl
 ba:=rfl
 sz:=rfl
 cp:=rfl
 dM:=fun c hc=>oX _ _ _ hc
 ep:=fun c hc=>hc.elim .inl (fun e=> .inr (by simp;omega))
 dc:=fun c hc=>hc.elim (fun h=> .inl (az.dc c h)) .inr
theorem N5 {P:Program} {E:Env} {t:TypeId} {e:TypeId} {n:Nat} {z:List AV} {parts:List (Nat×AV)} {h_:List (Nat×Value)} {cells:List AV} (ak:aK (fun a b=>a.1=b.1∧V2 E a.2 b.2) parts h_) (he:gU P t=some e) (aH:kq P e=some z)
  (lk:z.length=P.cellsOf e) (Q0:n*z.length≤1000000∧n≤1000000) (hf:mo (fun i=>some (i*z.length,z.length)) ((List.range (n*z.length)).map fun i=>z.getD (i%z.length) .undef) parts=some cells):
  ∃fX,aK (bT E.bG) cells fX.toList∧(Instr.buildSlice t n h_.toArray).run P E.w= .ok (.slice (some ⟨E.w.heap.size,0,none⟩) n n) (E.w.alloc (.cells fX e))∧cells.length=n*z.length:=by
 obtain⟨i,v,h1,h2,aJ,bj⟩:=rL (E:=E.bG) aH
 have qI:v.cells.size=z.length:=by rw[aJ];simp
 have st:i.size=z.length:=by rw[lk];simp[Program.cellsOf,h1]
 let iV:Array Value:=if n*z.length=0 then #[] else v.cells
 let base:Array Value:=(Array.range (n*z.length)).map (fun i=>iV[i%iV.size]!)
 have mz:aK (bT E.bG) ((List.range (n*z.length)).map fun i=>z.getD (i%z.length) .undef) base.toList:=by
  refine⟨by simp[base],fun k a b aL hb=> ?_⟩
  rw[List.getElem?_map] at aL
  have hk:k<n*z.length:=by
   cases ag:(List.range (n*z.length))[k]? with
   | none=>simp[ag] at aL
   | some x=>have:=(List.getElem?_eq_some_iff.1 ag).1;simpa using this
  rw[List.getElem?_range hk] at aL
  simp only[Option.map_some,Option.some.injEq] at aL
  have i_:0<z.length:=by
   rcases Nat.eq_zero_or_pos z.length with q | q
   ·rw[q,Nat.mul_zero] at hk;omega
   ·exact q
  have aR:k%z.length<z.length:=Nat.mod_lt _ i_
  have mG:iV=v.cells:=if_neg (by omega)
  have dK:base[k]?=some (v.cells[k%z.length]!):=by
   show((Array.range (n*z.length)).map (fun i=>iV[i%iV.size]!))[k]?=_
   rw[mG,qI]
   simp[hk]
  rw[Array.getElem?_toList,dK] at hb
  simp only[Option.some.injEq] at hb
  have mF:v.cells.toList[k%z.length]?=some (v.cells[k%z.length]!):=by
   rw[Array.getElem?_toList,Array.getElem?_eq_getElem (by omega)]
   congr 1
   exact(getElem!_pos v.cells (k%z.length) (by omega)).symm
  have Bp:z[k%z.length]?=some a:=by
   rw[←aL,List.getD_eq_getElem?_getD,List.getElem?_eq_getElem aR];rfl
  rw[←hb]
  exact bj.2 _ _ _ Bp mF
 obtain⟨fX,aw,hrel⟩:=w9 ak mz hf
 have hu:=o2 he
 have ey:(Instr.buildSlice t n h_.toArray).run P E.w= .ok (.slice (some ⟨E.w.heap.size,0,none⟩) n n) (E.w.alloc (.cells fX e)):=by
  have AO: ¬n*z.length>2 ^ 24:=by omega
  simp only[Instr.buildSlice,Sem.run_bind,run_underlying hu,Result.andThen_ok,run_sizeOf (show(P.info? e).isSome=true by rw[h1];rfl),←lk,if_neg AO]
  have dL:Instr.fill (fun i=>some (i*z.length,z.length)) ((Array.range (n*z.length)).map (fun x=>iV[x%iV.size]!)) h_=some fX:=aw
  by_cases q:n*z.length=0
  ·have mG:iV= #[]:=if_pos q
   rw[if_pos q]
   simp only[Sem.run_bind,Sem.run_pure,Result.andThen_ok]
   rw[←mG,dL]
   simp[newRow]
  ·have mG:iV=v.cells:=if_neg q
   rw[if_neg q]
   simp only[Sem.run_bind,Sem.run_pure,Result.andThen_ok,zeroValue,typeInfo,h1,h2,run_program]
   rw[←mG,dL]
   simp[newRow]
 have hlen:cells.length=n*z.length:=by
  have q:=hrel.1
  have: ∀(parts:List (Nat×AV)) (c r:List AV),mo (fun i=>some (i*z.length,z.length)) c parts=some r→r.length=c.length:=by
   intro parts
   induction parts with
   | nil=>intro c r bH;cases bH;rfl
   | cons p ps bx=>
    intro c r bH
    obtain⟨a,b⟩:=p
    unfold mo at bH
    split at bH
    ·cases bH
    ·split at bH
     ·rename_i hc
      rw[bx _ _ bH];simp[e9];omega
     ·cases bH
  rw[this _ _ _ hf];simp
 exact⟨fX,hrel,ey,hlen⟩
theorem EG {P:Program} {E:Env} {H:List Blk} {t:TypeId} {n:Nat} {parts:List (Nat×AV)} {h_:List (Nat×Value)} {K:AV→Prop} (az:SimH E H) (ak:aK (fun a b=>a.1=b.1∧V2 E a.2 b.2) parts h_) (h:r5 P t n parts K):
  ∃r u E',K r∧(Instr.buildSlice t n h_.toArray).run P E.w= .ok u E'.w∧ji E E'∧V3 E' r u:=by
 obtain⟨e,he,h⟩:=ea h
 obtain⟨z,aH,h⟩:=ea h
 split at h
 case isFalse=>exact h.elim
 case isTrue hb=>
 obtain⟨lk,Q0⟩:=hb
 obtain⟨cells,hf,h⟩:=ea h
 split at h
 case isFalse=>exact h.elim
 case isTrue hby=>
 obtain⟨i,v,h1,h2,aJ,bj⟩:=rL (E:=E.bG) aH
 have qI:v.cells.size=z.length:=by rw[aJ];simp
 have st:i.size=z.length:=by rw[lk];simp[Program.cellsOf,h1]
 let iV:Array Value:=if n*z.length=0 then #[] else v.cells
 let base:Array Value:=(Array.range (n*z.length)).map (fun i=>iV[i%iV.size]!)
 have mz:aK (bT E.bG) ((List.range (n*z.length)).map fun i=>z.getD (i%z.length) .undef) base.toList:=by
  refine⟨by simp[base],fun k a b aL hb=> ?_⟩
  rw[List.getElem?_map] at aL
  have hk:k<n*z.length:=by
   cases ag:(List.range (n*z.length))[k]? with
   | none=>simp[ag] at aL
   | some x=>have:=(List.getElem?_eq_some_iff.1 ag).1;simpa using this
  rw[List.getElem?_range hk] at aL
  simp only[Option.map_some,Option.some.injEq] at aL
  have i_:0<z.length:=by
   rcases Nat.eq_zero_or_pos z.length with q | q
   ·rw[q,Nat.mul_zero] at hk;omega
   ·exact q
  have aR:k%z.length<z.length:=Nat.mod_lt _ i_
  have mG:iV=v.cells:=if_neg (by omega)
  have dK:base[k]?=some (v.cells[k%z.length]!):=by
   show((Array.range (n*z.length)).map (fun i=>iV[i%iV.size]!))[k]?=_
   rw[mG,qI]
   simp[hk]
  rw[Array.getElem?_toList,dK] at hb
  simp only[Option.some.injEq] at hb
  have mF:v.cells.toList[k%z.length]?=some (v.cells[k%z.length]!):=by
   rw[Array.getElem?_toList,Array.getElem?_eq_getElem (by omega)]
   congr 1
   exact(getElem!_pos v.cells (k%z.length) (by omega)).symm
  have Bp:z[k%z.length]?=some a:=by
   rw[←aL,List.getD_eq_getElem?_getD,List.getElem?_eq_getElem aR];rfl
  rw[←hb]
  exact bj.2 _ _ _ Bp mF
 obtain⟨fX,aw,hrel⟩:=w9 ak mz hf
 have ag:=ji.alloc az (.cells fX e)
 have hu:=o2 he
 have ey:(Instr.buildSlice t n h_.toArray).run P E.w= .ok (.slice (some ⟨E.w.heap.size,0,none⟩) n n) (E.w.alloc (.cells fX e)):=by
  have AO: ¬n*z.length>2 ^ 24:=by omega
  simp only[Instr.buildSlice,Sem.run_bind,run_underlying hu,Result.andThen_ok,run_sizeOf (show(P.info? e).isSome=true by rw[h1];rfl),←lk,if_neg AO]
  have dL:Instr.fill (fun i=>some (i*z.length,z.length)) ((Array.range (n*z.length)).map (fun x=>iV[x%iV.size]!)) h_=some fX:=aw
  by_cases q:n*z.length=0
  ·have mG:iV= #[]:=if_pos q
   rw[if_pos q]
   simp only[Sem.run_bind,Sem.run_pure,Result.andThen_ok]
   rw[←mG,dL]
   simp[newRow]
  ·have mG:iV=v.cells:=if_neg q
   rw[if_neg q]
   simp only[Sem.run_bind,Sem.run_pure,Result.andThen_ok,zeroValue,typeInfo,h1,h2,run_program]
   rw[←mG,dL]
   simp[newRow]
 have hlen:cells.length=n*z.length:=by
  have q:=hrel.1
  have: ∀(parts:List (Nat×AV)) (c r:List AV),mo (fun i=>some (i*z.length,z.length)) c parts=some r→r.length=c.length:=by
   intro parts
   induction parts with
   | nil=>intro c r bH;cases bH;rfl
   | cons p ps bx=>
    intro c r bH
    obtain⟨a,b⟩:=p
    unfold mo at bH
    split at bH
    ·cases bH
    ·split at bH
     ·rename_i hc
      rw[bx _ _ bH];simp[e9];omega
     ·cases bH
  rw[this _ _ _ hf];simp
 refine⟨_,_,_,h,ey,ag,?_⟩
 have lg:(chunk z.length n (cells.map h7)).length=n:=by simp[chunk]
 show a1 (E.w.alloc (.cells fX e)) (fun c=>E.PA c∨c=E.w.heap.size) (fun c=>E.PF c∨c=E.w.heap.size) _ _
 have key:=a1.a8 (w:=E.w.alloc (.cells fX e)) (PA:=fun c=>E.PA c∨c=E.w.heap.size) (PF:=fun c=>E.PF c∨c=E.w.heap.size)
  (PB:=if cells.all lb=true then(fun c=>E.PF c∨c=E.w.heap.size) else(fun c=>E.PA c∨c=E.w.heap.size))
  (rows:=chunk z.length n (cells.map h7)) (full:=true) (fresh:=cells.all lb) (A:=some ⟨E.w.heap.size,0,none⟩) (cap:=n) (sz:=z.length) (vs:=fun i j=>(fX[i*z.length+j]?).getD undef)
  (fun c hc=>by split at hc<;>(rename_i q;simp only[q];first | exact hc | simpa using hc)) (by omega) (fun _=>lg.symm)
  (fun i row aw=>by
   unfold chunk at aw
   rw[List.getElem?_map] at aw
   cases qC:(List.range n)[i]? with
   | none=>simp[qC] at aw
   | some k=>
    have hi:i<n:=by have:=(List.getElem?_eq_some_iff.1 qC).1;simpa using this
    rw[List.getElem?_range hi] at aw
    simp at aw
    subst aw
    have:i*z.length+z.length≤n*z.length:=by
     calc i*z.length+z.length=(i+1)*z.length:=by rw[Nat.add_mul,Nat.one_mul]
      _≤n*z.length:=Nat.mul_le_mul_right _ (by omega)
    simp;omega)
  (fun _=>⟨E.w.heap.size,0,rfl,by split<;>exact .inr rfl,fun i j hi aC=>by
   rw[lg] at hi
   have:i*z.length+z.length≤n*z.length:=by
    calc i*z.length+z.length=(i+1)*z.length:=by rw[Nat.add_mul,Nat.one_mul]
     _≤n*z.length:=Nat.mul_le_mul_right _ (by omega)
   have Bg:fX.size=n*z.length:=by rw[←hlen,hrel.1];simp
   rw[Nat.zero_add]
   have aR:i*z.length+j<fX.size:=by omega
   rw[World.cell?_alloc_new]
   simp[Array.getElem?_eq_getElem aR]⟩)
  (fun i j row a aw aC=>by
   obtain⟨hi,GA,hc⟩:=EO aw aC
   rw[List.getElem?_map] at hc
   cases qm:cells[i*z.length+j]? with
   | none=>simp[qm] at hc
   | some b=>
    simp[qm] at hc
    subst hc
    obtain⟨u,hu,fs⟩:=hrel.get qm
    have AQ:hh b=true:=List.all_eq_true.1 hby b (List.mem_of_getElem? qm)
    have kb:=wJ AQ fs.up
    have jN:(fX[i*z.length+j]?).getD undef=u:=by rw[Array.getElem?_toList] at hu;rw[hu];rfl
    rw[jN]
    by_cases ds:cells.all lb=true
    ·have Rd:lb b=true:=List.all_eq_true.1 ds b (List.mem_of_getElem? qm)
     rw[if_pos ds]
     exact(MN AQ Rd kb).mono (fun c hc=>oX _ _ _ (az.df c (az.dc c hc))) (fun c hc=>hc.elim) (fun c hc=> .inl hc) (fun c hc=>hc)
    ·rw[if_neg ds]
     exact(DS AQ kb (fun c hc=>hc) az.dc).mono (fun c hc=>oX _ _ _ (az.df c hc)) (fun c hc=>hc.elim) (fun c hc=> .inl hc) (fun c hc=>hc))
 rw[lg] at key
 exact key
def w6 (P:Program) (t:TypeId) (f:Nat):Option Field:=match P.underlying t with
 | some (.struct dl)=>dl.toList[f]?
 | _=>none
theorem Pq {P:Program} {t:TypeId} {f:Nat} {fd:Field} (h:w6 P t f=some fd): ∃dl,P.underlying t=some (.struct dl)∧dl[f]?=some fd:=by
 unfold w6 at h
 split at h
 ·rename_i dl lh;exact⟨dl,lh,by simpa using h⟩
 ·cases h
def Al (P:Program) (t:TypeId) (x:AV) (f:Nat) (K:AV→Prop):Prop:=
 ch (w6 P t f) fun fd=>if(P.info? fd.type).isSome=true∧P.cellsOf fd.type≠0 then(match x with
  | .dZ s c=>K (.dZ s (c+fd.offset))
  | .ptr b g r c=>K (.ptr b g r (c+fd.offset))
  | .cD cells c=>K (.cD cells (c+fd.offset))
  | _=>False) else False
theorem Xf {P:Program} {fd:Field} {w:World} {c o:Nat} (hi:(P.info? fd.type).isSome=true) (aH:P.cellsOf fd.type≠0):
  (fieldPlace ⟨c,o,none⟩ fd).run P w= .ok ⟨c,o+fd.offset,none⟩ w:=by
 simp[fieldPlace,run_sizeOf hi,aH,kZ]
theorem Pp {P:Program} {t:TypeId} {x:AV} {f:Nat} {K:AV→Prop} {E:Env} {v:Value} (hx:V3 E x v)
  (h:Al P t x f K):
  ∃r u,K r∧(Instr.fieldAt t v f).run P E.w= .ok u E.w∧V3 E r u:=by
 obtain⟨fd,hf,h⟩:=ea h
 obtain⟨dl,hu,Re⟩:=Pq hf
 split at h
 case isFalse=>exact h.elim
 case isTrue hc=>
 obtain⟨hi,aH⟩:=hc
 have run: ∀bl o,(Instr.fieldAt t (.pointer (some ⟨bl,o,none⟩)) f).run P E.w= .ok (.pointer (some ⟨bl,o+fd.offset,none⟩)) E.w:=by
  intro bl o
  simp[Instr.fieldAt,run_underlying hu,Re,Instr.sureAddr,Xf hi aH]
 cases x with
 | dZ s c=>
  obtain⟨bl,hm,rfl⟩:=hx.u0
  exact⟨_,_,h,run bl c,bl,hm,rfl⟩
 | ptr b g r c=>
  rcases(show dO E (.ptr b g r c) v from hx) with⟨aI,bl,o,rfl⟩ | ⟨aI,bl,hm,rfl⟩
  ·exact⟨_,_,h,run bl o,.inl ⟨aI,_,_,rfl⟩⟩
  ·exact⟨_,_,h,run bl _,.inr ⟨aI,bl,hm,by rw[Nat.add_assoc]⟩⟩
 | cD cells c=>
  have hq:a1 E.w E.PA E.PF (.cD cells c) v:=hx
  cases hq with
  | @cD _ _ _ _ bl o vs hc dv hrel=>
   exact⟨_,_,h,run bl _,by rw[Nat.add_assoc];exact a1.cD hc dv hrel⟩
 | _=>exact h.elim
def sH (P:Program) (t:TypeId) (x i:AV) (H:List Blk) (K:AV→Prop):Prop:=
 ch (gU P t) fun e=>if(P.info? e).isSome=true then(match i with
  | .int _ n=>(match x with
   | .a8 rows _ _=>0≤n∧ch rows[n.toNat]? fun row=>row.length=P.cellsOf e∧K (.cD row 0)
   | .ref b g off m _=>ch H[b]? fun blk=>blk.ba=g∧blk.sz=P.cellsOf e∧0≤n∧n<m∧K (.ptr b g (off+n.toNat) 0)
   | _=>False)
  | _=>False) else False
theorem Sf {P:Program} {t:TypeId} {x i:AV} {K:AV→Prop} {E:Env} {L ih:List (Nat×List AV)} {H dQ:List Blk} {v uT:Value} (sub:Sub L H ih dQ) (az:SimH E dQ) (hx:V3 E x v) (hi:V3 E i uT)
  (h:sH P t x i H K): ∃r u,K r∧(Instr.indexAt t v uT).run P E.w= .ok u E.w∧V3 E r u:=by
 obtain⟨e,he,h⟩:=ea h
 have hu:=o2 he
 split at h
 case isFalse=>exact h.elim
 case isTrue hinf=>
 cases i with
 | int k n=>
  obtain rfl:=hi.kc
  cases x with
  | a8 rows full fresh=>
   obtain⟨aN,h⟩:=(show 0≤n∧ch rows[n.toNat]? fun row=>row.length=P.cellsOf e∧K (.cD row 0) from h)
   obtain⟨row,aw,aE,hK⟩:=ea h
   have aR:n.toNat<rows.length:=(List.getElem?_eq_some_iff.1 aw).1
   have hq:a1 E.w E.PA E.PF (.a8 rows full fresh) v:=hx
   cases hq with
   | @a8 _ _ PB _ _ _ A cap sz vs eh e5 fw bX dv hrel=>
    obtain⟨c,o,rfl,hc,ds⟩:=dv (by omega)
    have uN:=bX _ _ aw
    refine⟨_,.pointer (some ⟨c,o+n.toNat*P.cellsOf e,none⟩),hK,?_,?_⟩
    ·simp only[Instr.indexAt,Sem.run_bind,asIntOf,Sem.run_pure,Result.andThen_ok,run_underlying hu]
     rw[if_pos ⟨aN,by omega⟩]
     simp[run_sizeOf hinf,kZ]
    ·show a1 _ _ _ _ _
     have:=a1.cD (w:=E.w) (PA:=E.PA) (PF:=E.PF) (cells:=row) (col:=0) (c:=c) (o:=o+n.toNat*P.cellsOf e) (vs:=vs n.toNat)
      (by have:=eh c hc;split at this;exact az.dc c this;exact this)
      (fun j aC=>by rw[Nat.add_assoc,←aE,uN];exact ds n.toNat j aR (by omega))
      (fun j a aC=>(hrel n.toNat j row a aw aC).mono (fun _ _=>rfl) (fun _ h=>h.elim) (fun d aZ=>by
       have:=eh d aZ;split at this;exact az.dc d this;exact this) (fun _ h=>h))
     simpa using this
  | ref b g off m full=>
   obtain⟨blk,hb,aI,ka,aN,h1,hK⟩:=ea (show ch H[b]? fun blk=>blk.ba=g∧blk.sz=P.cellsOf e∧0≤n∧n<m∧K (.ptr b g (off+n.toNat) 0) from h)
   have hb:=sub.h b blk hb
   have hU:=az.dJ b blk hb
   rcases(show dO E (.ref b g off m full) v from hx) with⟨bH,_⟩ | ⟨eK,bH⟩
   ·omega
   ·rcases bH with⟨_,_,sw,_⟩ | ⟨c,cap,hm,rfl,lX,mA,nv⟩
    ·omega
    ·obtain⟨blk',aM,ty,q1,cj,_⟩:=az.heap b c hm
     obtain rfl:blk=blk':=by rw[hb] at q1;exact Option.some.inj q1
     refine⟨_,.pointer (some ⟨c,(off+n.toNat)*E.sz b+0,none⟩),hK,?_,.inr ⟨eK,c,hm,rfl⟩⟩
     simp only[Instr.indexAt,Sem.run_bind,asIntOf,Sem.run_pure,Result.andThen_ok,run_underlying hu]
     rw[if_pos ⟨aN,h1⟩]
     simp[run_sizeOf hinf,kZ,cj,ka,Nat.add_mul]
  | _=>exact h.elim
 | _=>exact h.elim
def Bs (P:Program) (t:TypeId) (x i:AV) (K:AV→Prop):Prop:=match x with
 | .str s=>(match i with
  | .int _ n=>(match P.underlying t with
   | some .string=>0≤n∧n<s.size∧K (.int .u8 (s.data.getD n.toNat 0).toNat)
   | _=>False)
  | _=>False)
 | _=>False
theorem So {P:Program} {t:TypeId} {x i:AV} {K:AV→Prop} {E:Env} {v uT:Value} (hx:V3 E x v) (hi:V3 E i uT) (h:Bs P t x i K):
  ∃r u,K r∧(Instr.index t v uT).run P E.w= .ok u E.w∧V3 E r u:=by
 cases x with
 | str s=>
  cases i with
  | int k n=>
   obtain rfl:=hx.tu
   obtain rfl:=hi.kc
   have h:(match P.underlying t with
    | some .string=>0≤n∧n<s.size∧K (.int .u8 (s.data.getD n.toNat 0).toNat)
    | _=>False):=h
   split at h
   ·rename_i hu
    obtain⟨aN,h1,hK⟩:=h
    refine⟨_,.int .u8 (s.data.getD n.toNat 0).toNat,hK,?_,a1.int _ _⟩
    have aR:n.toNat<s.size:=by omega
    have A6:n.toNat<s.data.size:=aR
    have:s[n.toNat]?=some (s.data.getD n.toNat 0):=by
     rw[getElem?_pos s n.toNat aR]
     congr 1
     show s.data[n.toNat]=_
     rw[Array.getD_eq_getD_getElem?,Array.getElem?_eq_getElem A6];rfl
    simp only[Instr.index,Sem.run_bind,asIntOf,Sem.run_pure,Result.andThen_ok,run_underlying hu]
    rw[if_pos aN,this]
    rfl
   ·exact h.elim
  | _=>exact h.elim
 | _=>exact h.elim
def ow (x:AV) (K:AV→Prop):Prop:=match x with
 | .a8 rows _ _=>rows.length≤4611686018427387904→K (.int .i64 rows.length)
 | .str s=>K (.int .i64 s.size)
 | .ref _ _ _ n _=>K (.int .i64 n)
 | _=>False
def hJ (P:Program) (t:TypeId) (x:AV):Bool:=match P.underlying t,x with
 | some .string,.str _=>true
 | some (.slice _),.a8 _ _ _=>true
 | some (.slice _),.ref _ _ _ _ _=>true
 | _,_=>false
theorem Vj {P:Program} {t ty:TypeId} {x:AV} {K:AV→Prop} {E:Env} {v:Value} (hx:V3 E x v)
  (bt:hJ P t x=true) (h:ow x K): ∃r u,K r∧(Builtin.len_ #[t] ty #[v]).run P E.w= .ok u E.w∧V3 E r u:=by
 unfold hJ at bt
 split at bt<;>try (cases bt;done)
 ·rename_i s hu
  obtain rfl:=hx.tu
  exact⟨_,_,h,by simp[Builtin.len_,run_underlying hu,goInt],a1.int _ _⟩
 ·rename_i e rows cS fr hu
  have hq:a1 E.w E.PA E.PF (.a8 rows cS fr) v:=hx
  cases hq with
  | @a8 _ _ PB _ _ _ A cap sz vs eh e5 fw bX dv hrel=>
   have h:rows.length≤4611686018427387904→K (.int .i64 rows.length):=h
   exact⟨_,_,h e5.2,by simp[Builtin.len_,run_underlying hu,goInt],a1.int _ _⟩
 ·rename_i e b g off n cS hu
  have h:K (.int .i64 n):=h
  rcases(show dO E (.ref b g off n cS) v from hx) with⟨_,A,cap,rfl⟩ | ⟨eK,bH⟩
  ·exact⟨_,_,h,by simp[Builtin.len_,run_underlying hu,goInt],a1.int _ _⟩
  ·rcases bH with⟨_,_,rfl,A,rfl⟩ | ⟨c,cap,hm,rfl,lX,mA,nv⟩
   ·exact⟨_,_,h,by simp[Builtin.len_,run_underlying hu,goInt],a1.int _ _⟩
   ·exact⟨_,_,h,by simp[Builtin.len_,run_underlying hu,goInt],a1.int _ _⟩
def Ah (x:AV) (i:Nat) (K:AV→Prop):Prop:=match x with
 | .tup l=>ch l[i]? K
 | _=>False
theorem Pk {P:Program} {x:AV} {i:Nat} {K:AV→Prop} {E:Env} {v:Value} (hx:V3 E x v) (h:Ah x i K):
  ∃r u,K r∧(Instr.extract v i).run P E.w= .ok u E.w∧V3 E r u:=by
 cases x with
 | tup l=>
  obtain⟨vs,rfl,ak⟩:=hx
  obtain⟨a,aL,hK⟩:=ea (show ch l[i]? K from h)
  obtain⟨u,hu,aw⟩:=ak.get aL
  refine⟨a,u,hK,?_,jk aw⟩
  simp[Instr.extract,hu]
 | _=>exact h.elim
def yW (op:UnOp) (x:AV) (K:AV→Prop):Prop:=match op,x with
 | .not,.bool b=>K (.bool (!b))
 | .neg,.int k n=>K (.int k (k.wrap (0 - n)))
 | _,_=>False
theorem ZG {P:Program} {op:UnOp} {x:AV} {K:AV→Prop} {E:Env} {v:Value} (hx:V3 E x v) (h:yW op x K):
  ∃r u,K r∧(Op.unary op v).run P E.w= .ok u E.w∧V3 E r u:=by
 unfold yW at h
 split at h
 ·obtain rfl:=hx.mh;exact⟨_,_,h,rfl,a1.bool _⟩
 ·obtain rfl:=hx.kc;exact⟨_,_,h,rfl,a1.int _ _⟩
 ·exact h.elim
def Ck (x:AV) (K:AV→Prop):Prop:=match x with
 | .ptr _ _ _ _ | .dZ _ _ | .cD _ _=>K x
 | _=>False
def sK (P:Program) (t:TypeId):Option IntKind:=match P.underlying t with
 | some (.int k)=>some k
 | _=>none
theorem HZ {P:Program} {t:TypeId} {k:IntKind} (h:sK P t=some k):P.underlying t=some (.int k):=by
 unfold sK at h
 split at h
 ·cases h;assumption
 ·cases h
def zQ (P:Program) (s d:TypeId) (x:AV) (K:AV→Prop):Prop:=match x with
 | .int _ n=>ch (sK P s) fun _=>ch (sK P d) fun k=>K (.int k (k.wrap n))
 | _=>False
theorem OT {P:Program} {s d:TypeId} {x:AV} {K:AV→Prop} {E:Env} {v:Value} (hx:V3 E x v) (h:zQ P s d x K):
  ∃r u,K r∧(Go.convert s d v).run P E.w= .ok u E.w∧V3 E r u:=by
 cases x with
 | int a7 n=>
  obtain⟨cY,h1,h⟩:=ea (show ch (sK P s) _ from h)
  obtain⟨fT,h2,h⟩:=ea h
  obtain rfl:=hx.kc
  refine⟨_,_,h,?_,a1.int _ _⟩
  simp only[Go.convert,Sem.run_bind,run_underlying (HZ h1),run_underlying (HZ h2),Result.andThen_ok]
  rfl
 | _=>exact h.elim
def jJ (x:Option AV) (d:Nat) (K:Nat→Prop):Prop:=match x with
 | none=>K d
 | some (.int _ n)=>0≤n∧K n.toNat
 | some _=>False
def rp (P:Program) (t:TypeId) (x:AV) (lo hi:Option AV) (H:List Blk) (K:AV→Prop):Prop:=match x with
 | .str s=>(match P.underlying t with
  | some .string=>jJ lo 0 fun l=>jJ hi s.size fun h=>l≤h∧h≤s.size∧K (.str (s.extract l h))
  | _=>False)
 | .a8 rows _ fr=>ch (gU P t) fun e=>if(P.info? e).isSome=true then
   jJ lo 0 fun l=>jJ hi rows.length fun h=>l≤h∧h≤rows.length∧(∀(i:Nat) (row:List AV),rows[i]?=some row→row.length=P.cellsOf e)∧K (.a8 ((rows.drop l).take (h - l)) false fr) else False
 | .ref b g off n _=>ch (gU P t) fun e=>if(P.info? e).isSome=true then
   ch H[b]? fun blk=>blk.ba=g∧blk.sz=P.cellsOf e∧jJ lo 0 fun l=>jJ hi n fun h=>l≤h∧h≤n∧(l<h→K (.ref b g (off+l) (h - l) false))∧(l=h→K (.a8 [] false true)) else False
 | _=>False
def wm (E:Env) (x:Option AV) (v:Option Value):Prop:=match x,v with
  | none,none=>True
  | some a,some u=>V3 E a u
  | _,_=>False
theorem r4 {x:Option AV} {d:Nat} {K:Nat→Prop} {E:Env} {v:Option Value} (hx:wm E x v) (h:jJ x d K): ∃n,K n∧((v=none∧n=d)∨ ∃k,v=some (.int k n)):=by
 cases x with
 | none=>
  cases v with
  | none=>exact⟨d,h,.inl ⟨rfl,rfl⟩⟩
  | some u=>exact hx.elim
 | some a=>
  cases v with
  | none=>exact hx.elim
  | some u=>
   cases a with
   | int k n=>
    obtain⟨aN,h⟩:=(show 0≤n∧K n.toNat from h)
    obtain rfl:=V3.kc hx
    exact⟨n.toNat,h,.inr ⟨k,by rw[Int.toNat_of_nonneg aN]⟩⟩
   | _=>exact h.elim
theorem CU {P:Program} {w:World} {isS:Bool} {len cap l h:Nat} {lo hi:Option Value} (aE:(lo=none∧l=0)∨ ∃k,lo=some (.int k l)) (bH:(hi=none∧h=len)∨ ∃k,hi=some (.int k h))
  (h1:l≤h) (h2:h≤cap):(Instr.sliceBounds isS len cap lo hi none).run P w= .ok (l,h,cap) w:=by
 rcases aE with⟨rfl,rfl⟩ | ⟨sN,rfl⟩<;>rcases bH with⟨rfl,rfl⟩ | ⟨H3,rfl⟩
 ·simp[Instr.sliceBounds]
 ·simp[Instr.sliceBounds,run_sliceBound (P:=P) w H3 (h:Int) cap _ (by omega) (by omega)]
 ·simp[Instr.sliceBounds,run_sliceBound (P:=P) w sN (l:Int) _ _ (by omega) (show(l:Int)≤((_:Nat):Int) by exact Int.ofNat_le.2 h1)]
 ·simp[Instr.sliceBounds,run_sliceBound (P:=P) w H3 (h:Int) cap _ (by omega) (by omega),run_sliceBound (P:=P) w sN (l:Int) h _ (by omega) (by omega)]
theorem XN {P:Program} {t:TypeId} {x:AV} {lo hi:Option AV} {K:AV→Prop} {E:Env} {L ih:List (Nat×List AV)} {H dQ:List Blk} {v:Value} {DX DW:Option Value} (sub:Sub L H ih dQ) (az:SimH E dQ) (hx:V3 E x v)
  (A5:wm E lo DX) (AZ:wm E hi DW)
  (h:rp P t x lo hi H K): ∃r u,K r∧(Instr.sliceAt t v DX DW none).run P E.w= .ok u E.w∧V3 E r u:=by
 cases x with
 | str s=>
  obtain rfl:=hx.tu
  have h:(match P.underlying t with
   | some .string=>jJ lo 0 fun l=>jJ hi s.size fun h=>l≤h∧h≤s.size∧K (.str (s.extract l h))
   | _=>False):=h
  split at h
  ·rename_i hu
   obtain⟨l,h,aE⟩:=r4 A5 h
   obtain⟨q,⟨h1,h2,hK⟩,ag⟩:=r4 AZ h
   refine⟨_,.string (s.extract l q),hK,?_,a1.str _⟩
   rw[run_sliceAt_string E.w t _ _ _ _ hu]
   simp only[Instr.slice,Sem.run_bind,run_underlying hu,Result.andThen_ok]
   simp only[Option.isSome_none,Bool.false_eq_true,if_false]
   simp only[Sem.run_bind,CU (P:=P) (w:=E.w) (isS:=false) aE ag h1 h2,Result.andThen_ok]
   rfl
  ·exact h.elim
 | a8 rows full fr=>
  obtain⟨e,he,h⟩:=ea (show ch (gU P t) fun e=>if(P.info? e).isSome=true then
   jJ lo 0 fun l=>jJ hi rows.length fun h=>l≤h∧h≤rows.length∧(∀(i:Nat) (row:List AV),rows[i]?=some row→row.length=P.cellsOf e)∧K (.a8 ((rows.drop l).take (h - l)) false fr) else False from h)
  have hu:=o2 he
  split at h
  case isFalse=>exact h.elim
  case isTrue hinf=>
  obtain⟨l,h,aE⟩:=r4 A5 h
  obtain⟨q,⟨h1,h2,nB,hK⟩,ag⟩:=r4 AZ h
  have hq:a1 E.w E.PA E.PF (.a8 rows full fr) v:=hx
  cases hq with
  | @a8 _ _ PB _ _ _ A cap sz vs eh e5 fw bX dv hrel=>
   have qq:P.elem t=e:=by simp[Program.elem,hu]
   have jN:P.underlying t=some (.slice (P.elem t)):=by rw[qq];exact hu
   have hlen:((rows.drop l).take (q - l)).length=q - l:=by simp;omega
   refine⟨_,sliced A l q cap (P.cellsOf e),hK,?_,?_⟩
   ·rw[run_sliceAt_slice E.w t _ _ _ _ jN,run_slice_any E.w t A rows.length cap jN,CU (P:=P) (w:=E.w) aE ag h1 (by omega)]
    simp only[Result.andThen_ok,qq,run_sizeOf hinf]
   ·show a1 E.w E.PA E.PF _ (.slice _ (q - l) (cap - l))
    have key:=a1.a8 (w:=E.w) (PA:=E.PA) (PF:=E.PF) (PB:=PB) (rows:=(rows.drop l).take (q - l)) (full:=false) (fresh:=fr) (A:=if cap=l then A else A.map (·.add (l*P.cellsOf e))) (cap:=cap - l) (sz:=sz) (vs:=fun i j=>vs (l+i) j)
     eh (by rw[hlen];omega) (fun h=>by cases h)
     (fun i row aw=>by
      rw[List.getElem?_take] at aw
      split at aw
      ·rw[List.getElem?_drop] at aw;exact bX _ _ aw
      ·cases aw)
     (fun ap=>by
      rw[hlen] at ap
      obtain⟨c,o,rfl,hc,ds⟩:=dv (by omega)
      have RY:sz=P.cellsOf e:=by
       have aR:l<rows.length:=by omega
       rw[←bX l _ (List.getElem?_eq_getElem aR)];exact nB l _ (List.getElem?_eq_getElem aR)
      refine⟨c,o+l*P.cellsOf e,by rw[if_neg (by omega)];simp[kZ],hc,fun i j hi aC=> ?_⟩
      rw[hlen] at hi
      have:=ds (l+i) j (by omega) aC
      rw[←this,RY]
      congr 2
      rw[Nat.add_mul];omega)
     (fun i j row a aw aC=>by
      rw[List.getElem?_take] at aw
      split at aw
      ·rw[List.getElem?_drop] at aw;exact hrel _ _ _ _ aw aC
      ·cases aw)
    rw[hlen] at key
    exact key
 | ref b g off n full=>
  obtain⟨e,he,h⟩:=ea (show ch (gU P t) fun e=>if(P.info? e).isSome=true then
   ch H[b]? fun blk=>blk.ba=g∧blk.sz=P.cellsOf e∧jJ lo 0 fun l=>jJ hi n fun h=>l≤h∧h≤n∧(l<h→K (.ref b g (off+l) (h - l) false))∧(l=h→K (.a8 [] false true)) else False from h)
  have hu:=o2 he
  split at h
  case isFalse=>exact h.elim
  case isTrue hinf=>
  obtain⟨blk,hb,aI,ka,h⟩:=ea h
  obtain⟨l,h,aE⟩:=r4 A5 h
  obtain⟨q,⟨h1,h2,QQ,F8⟩,ag⟩:=r4 AZ h
  have hb:=sub.h b blk hb
  have hU:=az.dJ b blk hb
  have qq:P.elem t=e:=by simp[Program.elem,hu]
  have jN:P.underlying t=some (.slice (P.elem t)):=by rw[qq];exact hu
  have run: ∀A cap,n≤cap→(Instr.sliceAt t (.slice A n cap) DX DW none).run P E.w= .ok (sliced A l q cap (P.cellsOf e)) E.w:=by
   intro A cap hc
   rw[run_sliceAt_slice E.w t _ _ _ _ jN,run_slice_any E.w t A n cap jN,CU (P:=P) (w:=E.w) aE ag h1 (by omega)]
   simp only[Result.andThen_ok,qq,run_sizeOf hinf]
  have empty: ∀A cap,l=q→V3 E (.a8 [] false true) (sliced A l q cap (P.cellsOf e)):=by
   intro A cap qz
   subst qz
   show a1 E.w E.PA E.PF _ (.slice _ (l - l) (cap - l))
   rw[Nat.sub_self]
   exact a1.a8 (PB:=fun _=>False) (sz:=0) (vs:=fun _ _=>undef) (fun _ h=>h.elim) ⟨Nat.zero_le _,Nat.zero_le _⟩ (fun h=>by cases h) (fun i row h=>by simp at h) (fun h=>by simp at h) (fun i j row a h=>by simp at h)
  rcases(show dO E (.ref b g off n full) v from hx) with⟨bH,_⟩ | ⟨eK,bH⟩
  ·omega
  ·rcases bH with⟨_,_,rfl,A,rfl⟩ | ⟨c,cap,hm,rfl,lX,mA,nv⟩
   ·have qz:l=q:=by omega
    exact⟨_,_,F8 qz,run A 0 (Nat.le_refl _),empty _ _ qz⟩
   ·rcases Nat.lt_or_ge l q with aR | xr
    ·refine⟨_,_,QQ aR,run _ cap lX,.inr ⟨eK,.inr ⟨c,cap - l,hm,?_,by omega,(fun h=>by cases h),by omega⟩⟩⟩
     obtain⟨blk',aM,ty,q1,cj,_⟩:=az.heap b c hm
     obtain rfl:blk=blk':=by rw[hb] at q1;exact Option.some.inj q1
     simp only[sliced,if_neg (show ¬cap=l by omega),Option.map_some,kZ,cj,ka,Nat.add_mul]
    ·have qz:l=q:=by omega
     exact⟨_,_,F8 qz,run _ cap lX,empty _ _ qz⟩
 | _=>exact h.elim
def pE (P:Program) (f:FuncId):Bool:=match P.funcs[f]? with
 | some fn=> !(fn.name== "runtime.NumGoroutine")&&fn.body.isSome
 | none=>false
def c8 (P:Program) (f:FuncId) (args:List AV) (H:List Blk) (Q:AV→List Blk→Prop):Prop:=
 pE P f=true∧ ∀(E:Env) (vs:List Value),(∀t,E.mL t=none)→SimH E H→aK (V2 E) args vs→
  Calls P f vs.toArray E.w fun e w'=> ∃r v H' E',e= .returned v∧Q r H'∧E'.w=w'∧(∀t,E'.mL t=none)∧SimH E' H'∧V3 E' r v∧Step E E'
theorem c8.mono {P:Program} {f:FuncId} {args:List AV} {H:List Blk} {Q rR:AV→List Blk→Prop} (h:c8 P f args H Q) (ag: ∀r H',Q r H'→rR r H'):c8 P f args H rR:=
 ⟨h.1,fun E vs a b c=>(h.2 E vs a b c).mono fun e w' ⟨r,v,H',E',h1,h2,aJ⟩=>⟨r,v,H',E',h1,ag _ _ h2,aJ⟩⟩
def u7:AV→Bool
 | .dZ _ _ | .agg _ | .tup _=>false
 | _=>true
def sU:AV→Bool
 | .fn _ caps=>caps.all u7
 | a=>u7 a
def hY:AV→Bool
 | .agg cells=>cells.all sU
 | a=>sU a
def sV:AV→Bool
 | .tup l=>l.all hY
 | a=>hY a
theorem dO.bG {E:Env} {a:AV} {v:Value} (h:u7 a=true) (hv:dO E a v):dO E.bG a v:=by
 cases a<;>first | exact hv | cases h
theorem bT.bG {E:Env} {a:AV} {v:Value} (h:sU a=true) (hv:bT E a v):bT E.bG a v:=by
 by_cases hf: ∃f caps,a= .fn f caps
 ·obtain⟨f,caps,rfl⟩:=hf
  obtain⟨vs,e,ak⟩:=hv
  exact⟨vs,e,ak.1,fun i x y hx bm=>(ak.2 i x y hx bm).bG (List.all_eq_true.1 (show caps.all u7=true from h) x (List.mem_of_getElem? hx))⟩
 ·have aN:sU a=u7 a:=by cases a<;>first | rfl | exact absurd ⟨_,_,rfl⟩ hf
  rw[nf fun f c e=>hf ⟨f,c,e⟩] at hv ⊢
  exact hv.bG (aN▸h)
theorem V2.bG {E:Env} {a:AV} {v:Value} (h:hY a=true) (hv:V2 E a v):V2 E.bG a v:=by
 by_cases hf: ∃l,a= .agg l
 ·obtain⟨l,rfl⟩:=hf
  obtain⟨vs,e,ak⟩:=hv
  exact⟨vs,e,ak.1,fun i x y hx bm=>(ak.2 i x y hx bm).bG (List.all_eq_true.1 (show l.all sU=true from h) x (List.mem_of_getElem? hx))⟩
 ·have aN:hY a=sU a:=by cases a<;>first | rfl | exact absurd ⟨_,rfl⟩ hf
  rw[lM fun l e=>hf ⟨l,e⟩] at hv ⊢
  exact hv.bG (aN▸h)
theorem V3.bG {E:Env} {a:AV} {v:Value} (h:sV a=true) (hv:V3 E a v):V3 E.bG a v:=by
 by_cases hf: ∃l,a= .tup l
 ·obtain⟨l,rfl⟩:=hf
  obtain⟨vs,e,ak⟩:=hv
  exact⟨vs,e,ak.1,fun i x y hx bm=>(ak.2 i x y hx bm).bG (List.all_eq_true.1 (show l.all hY=true from h) x (List.mem_of_getElem? hx))⟩
 ·have aN:sV a=hY a:=by cases a<;>first | rfl | exact absurd ⟨_,rfl⟩ hf
  rw[lN fun l e=>hf ⟨l,e⟩] at hv ⊢
  exact hv.bG (aN▸h)
theorem SimH.bG {E:Env} {H:List Blk} (h:SimH E H):SimH E.bG H:=
 {h with
  gW:=fun t gZ c hm=>by cases hm
  e7:=fun b t c _ hm=>by cases hm
  gm:=fun c _ ⟨t,hm⟩=>by cases hm
  eQ:=fun c ⟨t,hm⟩=>by cases hm}
theorem Good.toStep [bZ] {bR E:Env} (h:Good bR E):Step bR E.bG:=
 ⟨⟨h.le.ep,h.le.et,h.le.pV,h.le.wf,h.le.ba,h.le.m,fun t c hm=>by rw[h.bG t] at hm;cases hm⟩,h.os,h.tape,h.output,h.size,fun c hc h1 _=>h.dM c hc h1,h.gV,(fun c ⟨t,hm⟩=>by cases hm),h.ep,h.et⟩
def pK (P:Program) (aq:St):List ResultVar→(List AV→Prop)→Prop
 | [],K=>K []
 | .tmp t::rs,K=>pK P aq rs fun l=>K (aq.T.getD t .undef::l)
 | .cell a t::rs,K=>lZ P t (aq.T.getD a .undef) aq.L aq.H fun x=>pK P aq rs fun l=>K (x::l)
def pW:List AV→AV
 | [x]=>x
 | l=> .tup l
def tf (P:Program) (fn:Func) (aq:St) (Q:AV→List Blk→Prop):Prop:=pK P aq fn.results.toList fun l=>l.all hY=true∧Q (pW l) aq.H
theorem NF {E:Env} {P:Program} {t:TypeId} {x:AV} {L:List (Nat×List AV)} {H:List Blk} {K:AV→Prop} {v:Value} (az:SimH E H) (bF:SimL E L) (hx:V3 E x v) (h:lZ P t x L H K):
  ∃a dx,K a∧(do loadVar t (←asAddr v):Sem Value).run P E.w= .ok dx E.w∧V2 E a dx:=by
 obtain⟨a,dx,hK,aw,hv⟩:=Je (Sub.refl L H) az bF hx h
 refine⟨a,dx,hK,?_,hv⟩
 have: ∃jl,v= .pointer (some jl):=by
  cases x with
  | dZ s c=>obtain⟨bl,_,rfl⟩:=hx.u0;exact⟨_,rfl⟩
  | ptr b g r c=>
   rcases(show dO E (.ptr b g r c) v from hx) with⟨_,bl,o,rfl⟩ | ⟨_,bl,_,rfl⟩<;>exact⟨_,rfl⟩
  | cD cells c=>
   have hq:a1 E.w E.PA E.PF (.cD cells c) v:=hx
   cases hq;exact⟨_,rfl⟩
  | _=>exact h.elim
 obtain⟨jl,rfl⟩:=this
 simpa[Instr.loadAt,Instr.sureAddr,asAddr] using aw
theorem CO {P:Program} {aq:St} {E:Env} {tmps:Array Value} (hs:p3 E aq tmps) {f:ResultVar→Sem Value} (f1: ∀t,f (.tmp t)=pure (tmps.getD t undef))
  (f2: ∀a t,f (.cell a t)=do loadVar t (←asAddr (tmps.getD a undef))): ∀(rs:List ResultVar) (K:List AV→Prop),pK P aq rs K→
  ∃l vs,K l∧(rs.mapM f).run P E.w= .ok vs E.w∧aK (V3 E) l vs
 | [],K,h=>⟨[],[],h,rfl,aK.nil⟩
 | .tmp t::rs,K,h=>by
  obtain⟨l,vs,hK,aw,ak⟩:=CO hs f1 f2 rs _ h
  exact⟨_,_,hK,by simp only[List.mapM_cons,f1,Sem.run_bind,Sem.run_pure,Result.andThen_ok,aw],aK.cons (hs.gx t) ak⟩
 | .cell a t::rs,K,h=>by
  obtain⟨x,dx,h2,Bb,hv⟩:=NF hs.h hs.l (hs.gx a) h
  obtain⟨l,vs,hK,aw,ak⟩:=CO hs f1 f2 rs _ h2
  refine⟨_,_,hK,?_,aK.cons (jk hv) ak⟩
  simp only[List.mapM_cons,f2]
  rw[Sem.run_bind,Bb]
  simp only[Result.andThen_ok,Sem.run_bind,aw,Sem.run_pure]
theorem W4 (fn:Func) (tmps:Array Value): ∃f:ResultVar→Sem Value,results fn tmps=(fn.results.mapM f>>=fun vs=>pure (if h:vs.size=1 then vs[0] else .tuple vs))∧(∀t,f (.tmp t)=pure (tmps.getD t undef))∧
  ∀b t,f (.cell b t)=(asAddr (tmps.getD b undef)>>=fun a=>loadVar t a):=⟨_,rfl,fun _=>rfl,fun _ _=>rfl⟩
def p2 (P:Program) (fn:Func) (Q:AV→List Blk→Prop) (ex:Exit) (aq:St):Prop:=match ex with
 | .normal | .ret=>tf P fn aq Q
 | _=>False
def xT (fn:Func) (args:List AV) (H:List Blk):St:=⟨args++List.replicate (fn.ntmps - args.length) .undef,[],H⟩
theorem Nv {E:Env} {a:AV} {v:Value} (h:hY a=true) (hv:V3 E a v) (bt: ∀l,a≠ .tup l):V2 E.bG a v:=by
 rw[lN bt] at hv;exact hv.bG h
theorem c8.JQ {P:Program} {f:FuncId} {fn:Func} {c:Code} {args:List AV} {H:List Blk} {Q:AV→List Blk→Prop} (hf:P.funcs[f]?=some fn) (hb:fn.body=some c) (ap:(fn.name== "runtime.NumGoroutine")=false)
  (h: ∀gR:bZ,gR.n=H.length→WpS P c (p2 P fn Q) (xT fn args H)):c8 P f args H Q:=by
 refine⟨by simp[pE,hf,hb,ap],?_⟩
 intro E vs ap az ak
 letI:bZ:=⟨H.length⟩
 refine calls_of_wp hf hb (wp_mono (h ⟨H.length⟩ rfl E E {tmps:=vs.toArray++Array.replicate (fn.ntmps - vs.toArray.size) undef,defers:=[]} (Good.refl az.fresh ap) ⟨az,(fun t c hm=>by rw[ap t] at hm;cases hm),fun t=> ?_,?_⟩ rfl) ?_)
 ·show V3 E ((args++List.replicate (fn.ntmps - args.length) AV.undef).getD t AV.undef) _
  rcases Nat.lt_or_ge t args.length with aR | eK
  ·have h1:args[t]?=some args[t]:=List.getElem?_eq_getElem aR
   obtain⟨v,hv,aw⟩:=ak.get h1
   have A6:t<vs.length:=ak.1▸aR
   have bi:(args++List.replicate (fn.ntmps - args.length) AV.undef).getD t .undef=args[t]:=by
    rw[List.getD_eq_getElem?_getD,List.getElem?_append_left aR,h1];rfl
   have e2:(vs.toArray++Array.replicate (fn.ntmps - vs.toArray.size) undef).getD t undef=v:=by
    rw[Array.getD_eq_getD_getElem?,Array.getElem?_append_left (by simpa using A6)]
    simp[hv]
   rw[bi,e2];exact jk aw
  ·have bi:(args++List.replicate (fn.ntmps - args.length) AV.undef).getD t .undef= .undef:=by
    rw[List.getD_eq_getElem?_getD,List.getElem?_append_right eK,List.getElem?_replicate];split<;>rfl
   rw[bi];exact V3.undef _ _
 ·simp[xT,ak.1]
 ·rintro e a w ⟨hex,aq,E',ag,hw,aI,hs,aZ⟩
  have fin:tf P fn aq Q→a.defers=[]∧ ∃v,(results fn a.tmps).run P w= .ok v w∧ ∃r MT H' E',(Ending.returned v)= .returned MT∧Q r H'∧E'.w=w∧(∀t,E'.mL t=none)∧SimH E' H'∧V3 E' r MT∧Step E E':=by
   intro RS
   refine⟨aZ,?_⟩
   subst hw
   have hm: ∀f:ResultVar→Sem Value,(∀t,f (.tmp t)=pure (a.tmps.getD t undef))→(∀b t,f (.cell b t)=do loadVar t (←asAddr (a.tmps.getD b undef)))→ ∃l h8,(l.all hY=true∧Q (pW l) aq.H)∧(fn.results.mapM f).run P E'.w= .ok (List.toArray h8) E'.w∧aK (V3 E') l h8:=by
    intro f f1 f2
    obtain⟨l,h8,h1,aw,h2⟩:=CO hs f1 f2 _ _ RS
    exact⟨l,h8,h1,by rw[Array.mapM_eq_mapM_toList,Sem.run_map,aw];rfl,h2⟩
   obtain⟨f,Rc,qv,hf2⟩:=W4 fn a.tmps
   obtain⟨l,h8,⟨GL,QS⟩,aw,sA⟩:=hm f qv hf2
   refine⟨if h:h8.toArray.size=1 then h8.toArray[0] else .tuple h8.toArray,?_,pW l,_,aq.H,E'.bG,rfl,QS,rfl,fun _=>rfl,hs.h.bG,?_,aI.toStep⟩
   ·rw[Rc,Sem.run_bind,aw];rfl
   ·cases l with
    | nil=>
     obtain rfl:=sA.oC
     exact⟨[],rfl,aK.nil⟩
    | cons x l=>
     obtain⟨u,aaC,rfl,hx,GV⟩:=sA.cons_inv
     cases l with
     | nil=>
      obtain rfl:=GV.oC
      show V3 E'.bG x u
      have jy:hY x=true:=by simpa using GL
      exact hx.bG (by cases x<;>first | exact jy | (cases jy))
     | cons y l=>
      obtain⟨z,ZI,rfl,bm,aap⟩:=GV.cons_inv
      have bX: ¬(List.toArray (u::z::ZI)).size=1:=by simp
      rw[dif_neg bX]
      refine⟨_,rfl,?_⟩
      refine⟨sA.1,fun i p q GU RQ=> ?_⟩
      have hv:=sA.2 i p q GU RQ
      have jy:hY p=true:=List.all_eq_true.1 GL p (List.mem_of_getElem? GU)
      have bt: ∀l,p≠ .tup l:=by
       intro l e;subst e;cases jy
      exact Nv jy hv bt
  cases e with
  | normal=>exact fin ag
  | ret=>exact fin ag
  | exit id=>exact ag.elim
  | _=>cases hex
inductive eE (L:List (Nat×List AV)) (H:List Blk):AV→AV→Prop where
 | undef (a:AV):eE L H a .undef
 | int (k:IntKind) (n:Int):eE L H (.int k n) (.int k n)
 | bool (b:Bool):eE L H (.bool b) (.bool b)
 | str (s:ByteArray):eE L H (.str s) (.str s)
 | eI:eE L H .eI .eI
 | eU:eE L H .eU .eU
 | a8 (rows:List (List AV)) (full fr cS:Bool) (hw:cS=true→full=true):eE L H (.a8 rows full fr) (.a8 rows cS false)
 | cD (cells:List AV) (c:Nat):eE L H (.cD cells c) (.cD cells c)
 | dZ {t c:Nat} {cells fo:List AV} (h:dm L t=some cells) (aE:cells.length=fo.length)
   (aw: ∀(j:Nat) (a b:AV),cells[j]?=some a→fo[j]?=some b→eE L H a b):eE L H (.dZ t c) (.cD fo c)
 | ptr {b g r c:Nat} {blk:Blk} {row row':List AV} (hb:H[b]?=some blk) (aI:blk.ba=g) (dR:blk.rows[r]?=some row) (aE:row.length=row'.length)
   (aw: ∀(j:Nat) (a b:AV),row[j]?=some a→row'[j]?=some b→eE L H a b):eE L H (.ptr b g r c) (.cD row' c)
 | ref {b g off n:Nat} {full cS:Bool} {blk:Blk} {hN:List (List AV)} (hw:cS=true→full=true) (hb:H[b]?=some blk) (aI:blk.ba=g) (ap:hN.length=n) (hp:n≤4611686018427387904) (aB:off+n≤blk.rows.length)
   (aE: ∀(i:Nat) (row row':List AV),blk.rows[off+i]?=some row→hN[i]?=some row'→row.length=row'.length)
   (aw: ∀(i j:Nat) (row row':List AV) (a c:AV),blk.rows[off+i]?=some row→hN[i]?=some row'→row[j]?=some a→row'[j]?=some c→eE L H a c):
   eE L H (.ref b g off n full) (.a8 hN cS false)
 | fn {f:FuncId} {caps tZ:List AV} (aE:caps.length=tZ.length) (aw: ∀(j:Nat) (a b:AV),caps[j]?=some a→tZ[j]?=some b→eE L H a b):eE L H (.fn f caps) (.fn f tZ)
def dE (L:List (Nat×List AV)) (H:List Blk) (a b:AV):Prop:=
 (∃l l',a= .agg l∧b= .agg l'∧aK (eE L H) l l')∨eE L H a b
def Env.frozen (E:Env):Env:={w:=E.w,PA:=fun c=>E.PA c∨E.ff c∨E.iu c,PF:=fun _=>False,m:=fun _=>none,ba:=fun _=>0,sz:=fun _=>0,cp:=fun _=>0,mL:=fun _=>none}
theorem FJ {E:Env} {H:List Blk} (h:SimH E H):SimH E.frozen [] where
 heap:=fun b c hb=>by cases hb
 dJ:=fun b blk hb=>by simp at hb
 fz:=fun b hb=>by cases hb
 fresh:=fun b _=>⟨rfl,rfl⟩
 fR:=fun b bS c hb=>by cases hb
 gW:=fun t gZ c hb=>by cases hb
 e7:=fun b t c hb=>by cases hb
 fV:=fun c _ ⟨b,hb⟩=>by cases hb
 gm:=fun c _ ⟨b,hb⟩=>by cases hb
 dc:=fun c hc=>hc.elim
 df:=fun c hc=>hc.elim (h.df c) fun hc=>hc.elim (h.ed c) (h.eQ c)
 ed:=fun c ⟨b,hb⟩=>by cases hb
 eQ:=fun c ⟨b,hb⟩=>by cases hb
theorem zd {E:Env} {a:AV} {v:Value} (h:dO E a v):bT E a v:=by
 by_cases hf: ∃f caps,a= .fn f caps
 ·obtain⟨f,caps,rfl⟩:=hf
  exact a1.v1 h
 ·rw[nf fun f c e=>hf ⟨f,c,e⟩];exact h
theorem Lt {L ih:List (Nat×List AV)} {H dQ:List Blk} {E:Env} (sub:Sub L H ih dQ) (az:SimH E dQ) (bF:SimL E ih) {a b:AV} (h:eE L H a b):
  ∀{v:Value},bT E a v→a1 E.w (fun c=>E.PA c∨E.ff c∨E.iu c) (fun _=>False) b v:=by
 induction h with
 | undef a=>intro v _;exact .undef v
 | int k n=>intro v hv;have hv:a1 E.w E.PA E.PF (.int k n) v:=hv;cases hv;exact .int _ _
 | bool k=>intro v hv;have hv:a1 E.w E.PA E.PF (.bool k) v:=hv;cases hv;exact .bool _
 | str k=>intro v hv;have hv:a1 E.w E.PA E.PF (.str k) v:=hv;cases hv;exact .str _
 | eI=>intro v hv;have hv:a1 E.w E.PA E.PF .eI v:=hv;cases hv;exact .eI
 | eU=>intro v hv;have hv:a1 E.w E.PA E.PF .eU v:=hv;cases hv;exact .eU
 | a8 rows full fr cS hw=>
  intro v hv
  have hv:a1 E.w E.PA E.PF (.a8 rows full fr) v:=hv
  cases hv with
  | a8 eh e5 fw bX dv hrel=>
   exact .a8 (fun c hc=>by
    have:=eh c hc
    simp only[Bool.false_eq_true,if_false]
    split at this
    ·exact .inl (az.dc c this)
    ·exact .inl this) e5 (fun h=>fw (hw h)) bX dv hrel
 | cD cells c=>
  intro v hv
  have hv:a1 E.w E.PA E.PF (.cD cells c) v:=hv
  cases hv with
  | cD hc dv hrel=>exact .cD (.inl hc) dv fun j a aC=>(hrel j a aC).mono (fun _ _=>rfl) (fun _ h=>h.elim) (fun c hc=> .inl hc) (fun _ h=>h)
 | @dZ t c cells fo aI aE aw bx=>
  intro v hv
  obtain⟨bl,hm,rfl⟩:=(show ∃bl,E.mL t=some bl∧v= .pointer (some ⟨bl,c,none⟩) from hv)
  obtain⟨r9,aM,ty,uz,hw,ak⟩:=bF t bl hm
  obtain rfl:cells=r9:=by have:=sub.l _ _ aI;rw[uz] at this;exact(Option.some.inj this).symm
  have key:=a1.cD (w:=E.w) (PA:=fun c=>E.PA c∨E.ff c∨E.iu c) (PF:=fun _=>False) (cells:=fo) (col:=c) (c:=bl) (o:=0) (vs:=fun j=>(aM[j]?).getD undef)
   (.inr (.inr ⟨t,hm⟩))
   (fun j aC=>by
    have aR:j<aM.size:=by have:=ak.1;simp at this;omega
    rw[Nat.zero_add]
    rw[cell_of hw (Array.getElem?_eq_getElem aR)]
    simp[Array.getElem?_eq_getElem aR])
   (fun j b aC=>by
    have aR:j<cells.length:=by have:=(List.getElem?_eq_some_iff.1 aC).1;omega
    obtain⟨u,hu,fs⟩:=ak.get (List.getElem?_eq_getElem aR)
    have:(aM[j]?).getD undef=u:=by rw[Array.getElem?_toList] at hu;rw[hu];rfl
    rw[this]
    exact bx j _ b (List.getElem?_eq_getElem aR) aC fs.up)
  rw[Nat.zero_add] at key
  exact key
 | @ptr b g r c blk row row' hb aI dR aE aw bx=>
  intro v hv
  have hb:=sub.h b blk hb
  have hU:=az.dJ b blk hb
  obtain⟨bl,hm,rfl⟩:=V3.yh (E:=E) (v:=v) (show V3 E (.ptr b g r c) v from hv) (hU.trans aI)
  obtain⟨blk',aM,ty,q1,cj,hw,jM,hlen,eO⟩:=az.heap b bl hm
  obtain rfl:blk=blk':=by rw[hb] at q1;exact Option.some.inj q1
  exact a1.cD (vs:=fun j=>(aM[r*E.sz b+j]?).getD undef) (.inr (.inl ⟨b,hm⟩))
   (fun j aC=>by
    have aR:j<row.length:=by omega
    obtain⟨u,hu,_⟩:=eO.2 r j row _ dR (List.getElem?_eq_getElem aR)
    rw[cell_of hw hu,hu];rfl)
   (fun j b7 aC=>by
    have aR:j<row.length:=by have:=(List.getElem?_eq_some_iff.1 aC).1;omega
    obtain⟨u,hu,fs⟩:=eO.2 r j row _ dR (List.getElem?_eq_getElem aR)
    rw[hu]
    exact bx j _ b7 (List.getElem?_eq_getElem aR) aC fs.up)
 | @ref b g off n full cS blk hN Bj hb aI ap hp aB aE aw bx=>
  intro v hv
  have hb:=sub.h b blk hb
  have hU:=az.dJ b blk hb
  rcases(show dO E (.ref b g off n full) v from hv) with⟨bH,_⟩ | ⟨eK,bH⟩
  ·omega
  ·rcases bH with⟨_,_,jx,A,rfl⟩ | ⟨c,cap,hm,rfl,lX,mA,nv⟩
   ·subst jx
    obtain rfl:hN=[]:=List.eq_nil_of_length_eq_zero ap
    exact a1.a8 (rows:=[]) (PB:=fun _=>False) (sz:=0) (vs:=fun _ _=>undef) (fun _ h=>h.elim) ⟨Nat.le_refl _,Nat.zero_le _⟩ (fun _=>rfl) (fun i row h=>by simp at h) (fun h=>by simp at h) (fun i j row a h=>by simp at h)
   ·obtain⟨blk',aM,ty,q1,cj,hw,jM,hlen,eO⟩:=az.heap b c hm
    obtain rfl:blk=blk':=by rw[hb] at q1;exact Option.some.inj q1
    subst ap
    have dR: ∀i,i<hN.length→ ∃row,blk.rows[off+i]?=some row:=fun i hi=>⟨_,List.getElem?_eq_getElem (by omega)⟩
    refine a1.a8 (PB:=fun c=>E.PA c∨E.ff c∨E.iu c) (sz:=E.sz b) (vs:=fun i j=>(aM[(off+i)*E.sz b+j]?).getD undef) (fun c hc=>by simpa using hc) ⟨lX,hp⟩ (fun h=>mA (Bj h))
     (fun i row' dL=> ?_) (fun i_=>⟨c,off*E.sz b,rfl,.inr (.inl ⟨b,hm⟩),fun i j hi aC=> ?_⟩) (fun i j row' a dL aC=> ?_)
    ·obtain⟨row,gJ⟩:=dR i (List.getElem?_eq_some_iff.1 dL).1
     rw[←aE i row row' gJ dL];exact eO.1 _ row gJ
    ·obtain⟨row,gJ⟩:=dR i hi
     have aR:j<row.length:=by rw[eO.1 _ row gJ];exact aC
     obtain⟨u,hu,_⟩:=eO.2 (off+i) j row _ gJ (List.getElem?_eq_getElem aR)
     rw[show off*E.sz b+(i*E.sz b+j)=(off+i)*E.sz b+j by rw[Nat.add_mul];omega,cell_of hw hu,hu];rfl
    ·obtain⟨row,gJ⟩:=dR i (List.getElem?_eq_some_iff.1 dL).1
     have aR:j<row.length:=by rw[aE i row row' gJ dL];exact(List.getElem?_eq_some_iff.1 aC).1
     obtain⟨u,hu,fs⟩:=eO.2 (off+i) j row _ gJ (List.getElem?_eq_getElem aR)
     rw[hu]
     exact bx i j row row' _ a gJ dL (List.getElem?_eq_getElem aR) aC fs.up
 | @fn f caps tZ aE aw bx=>
  intro v hv
  obtain⟨vs,rfl,ak⟩:=(show ∃vs:List Value,v= .func (.func f) #[] vs.toArray∧aK (dO E) caps vs from hv)
  exact .fn (aE▸ak.1) fun i b u hb hu=>by
   have aR:i<caps.length:=by have:=(List.getElem?_eq_some_iff.1 hb).1;omega
   exact bx i _ b (List.getElem?_eq_getElem aR) hb (zd (ak.2 i _ u (List.getElem?_eq_getElem aR) hu))
theorem Lu {L ih:List (Nat×List AV)} {H dQ:List Blk} {E:Env} (sub:Sub L H ih dQ) (az:SimH E dQ) (bF:SimL E ih) {a b:AV} (h:dE L H a b) {v:Value} (hv:V2 E a v):V2 E.frozen b v:=by
 rcases h with⟨l,l',rfl,rfl,ak⟩ | h
 ·obtain⟨vs,rfl,ag⟩:=hv
  refine⟨vs,rfl,ak.1▸ag.1,fun i x u hx hu=> ?_⟩
  have aR:i<l.length:=by have:=(List.getElem?_eq_some_iff.1 hx).1;have:=ak.1;omega
  have aE:=List.getElem?_eq_getElem aR
  exact a1.v1 (E:=E.frozen) (Lt sub az bF (ak.2 i _ x aE hx) (ag.2 i _ u aE hu))
 ·by_cases hf: ∃l,a= .agg l
  ·obtain⟨l,rfl⟩:=hf
   cases h with
   | undef=>exact a1.undef v
  ·rw[lM fun l e=>hf ⟨l,e⟩] at hv
   exact jI (a1.v1 (E:=E.frozen) (Lt sub az bF h hv))
inductive e1 (H:List Blk):AV→AV→Prop where
 | int (k:IntKind) (n:Int):e1 H (.int k n) (.int k n)
 | bool (b:Bool):e1 H (.bool b) (.bool b)
 | str (s:ByteArray):e1 H (.str s) (.str s)
 | eI:e1 H .eI .eI
 | eU:e1 H .eU .eU
 | a8 (rows:List (List AV)) (full cS:Bool) (hw:cS=true→full=true):e1 H (.a8 rows full true) (.a8 rows cS true)
 | Ju (full fr cS:Bool) (hw:cS=true→full=true):e1 H (.a8 [] full fr) (.a8 [] cS true)
 | ref {b g off n:Nat} {full cS:Bool} {blk:Blk} {hN:List (List AV)} (hw:cS=true→full=true) (aM:Nat→Nat→AV) (hb:H[b]?=some blk) (aI:blk.ba=g) (ap:hN.length=n) (hp:n≤4611686018427387904) (aB:off+n≤blk.rows.length)
   (aE: ∀(i:Nat) (row row':List AV),blk.rows[off+i]?=some row→hN[i]?=some row'→row.length=row'.length)
   (aw: ∀(i j:Nat) (row:List AV) (a:AV),i<n→blk.rows[off+i]?=some row→row[j]?=some a→e1 H a (aM i j))
   (hc: ∀(i j:Nat) (row':List AV) (c:AV),hN[i]?=some row'→row'[j]?=some c→c=h7 (aM i j)):
   e1 H (.ref b g off n full) (.a8 hN cS true)
def p4 (H:List Blk) (a b:AV):Prop:=(∃l l',a= .agg l∧b= .agg l'∧aK (e1 H) l l')∨e1 H a b
def jj (H:List Blk) (a b:AV):Prop:=(∃l l',a= .tup l∧b= .tup l'∧aK (p4 H) l l')∨p4 H a b
theorem Ym {H:List Blk} {a b:AV} (h:e1 H a b):hh b=true:=by cases h<;>rfl
theorem Lw {H:List Blk} {E:Env} (az:SimH E H) {a b:AV} (h:e1 H a b):
  ∀{v:Value},bT E a v→a1 E.w (fun c=>E.PF c∨E.ff c) (fun c=>E.PF c∨E.ff c) b v:=by
 induction h with
 | int k n=>intro v hv;have hv:a1 E.w E.PA E.PF (.int k n) v:=hv;cases hv;exact .int _ _
 | bool k=>intro v hv;have hv:a1 E.w E.PA E.PF (.bool k) v:=hv;cases hv;exact .bool _
 | str k=>intro v hv;have hv:a1 E.w E.PA E.PF (.str k) v:=hv;cases hv;exact .str _
 | eI=>intro v hv;have hv:a1 E.w E.PA E.PF .eI v:=hv;cases hv;exact .eI
 | eU=>intro v hv;have hv:a1 E.w E.PA E.PF .eU v:=hv;cases hv;exact .eU
 | a8 rows full cS hw=>
  intro v hv
  have hv:a1 E.w E.PA E.PF (.a8 rows full true) v:=hv
  cases hv with
  | a8 eh e5 fw bX dv hrel=>exact .a8 (fun c hc=>by have:=eh c hc;simp at this ⊢;exact .inl this) e5 (fun h=>fw (hw h)) bX dv hrel
 | Ju full fr cS hw=>
  intro v hv
  have hv:a1 E.w E.PA E.PF (.a8 [] full fr) v:=hv
  cases hv with
  | a8 eh e5 fw bX dv hrel=>exact a1.a8 (rows:=[]) (PB:=fun _=>False) (sz:=0) (vs:=fun _ _=>undef) (fun _ h=>h.elim) e5 (fun h=>fw (hw h)) (fun i row h=>by simp at h) (fun h=>by simp at h) (fun i j row a h=>by simp at h)
 | @ref b g off n full cS blk hN Bj aM hb aI ap hp aB aE aw hc bx=>
  intro v hv
  have hU:=az.dJ b blk hb
  rcases(show dO E (.ref b g off n full) v from hv) with⟨bH,_⟩ | ⟨eK,bH⟩
  ·omega
  ·rcases bH with⟨_,_,jx,A,rfl⟩ | ⟨c,cap,hm,rfl,lX,mA,nv⟩
   ·subst jx
    obtain rfl:hN=[]:=List.eq_nil_of_length_eq_zero ap
    exact a1.a8 (rows:=[]) (PB:=fun _=>False) (sz:=0) (vs:=fun _ _=>undef) (fun _ h=>h.elim) ⟨Nat.le_refl _,Nat.zero_le _⟩ (fun _=>rfl) (fun i row h=>by simp at h) (fun h=>by simp at h) (fun i j row a h=>by simp at h)
   ·obtain⟨blk',r8,ty,q1,cj,hw,jM,hlen,eO⟩:=az.heap b c hm
    obtain rfl:blk=blk':=by rw[hb] at q1;exact Option.some.inj q1
    subst ap
    have dR: ∀i,i<hN.length→ ∃row,blk.rows[off+i]?=some row:=fun i hi=>⟨_,List.getElem?_eq_getElem (by omega)⟩
    refine a1.a8 (PB:=fun c=>E.PF c∨E.ff c) (sz:=E.sz b) (vs:=fun i j=>(r8[(off+i)*E.sz b+j]?).getD undef) (fun c hc=>by simpa using hc) ⟨lX,hp⟩ (fun h=>mA (Bj h))
     (fun i row' dL=> ?_) (fun i_=>⟨c,off*E.sz b,rfl,.inr ⟨b,hm⟩,fun i j hi aC=> ?_⟩) (fun i j row' a dL aC=> ?_)
    ·obtain⟨row,gJ⟩:=dR i (List.getElem?_eq_some_iff.1 dL).1
     rw[←aE i row row' gJ dL];exact eO.1 _ row gJ
    ·obtain⟨row,gJ⟩:=dR i hi
     have aR:j<row.length:=by rw[eO.1 _ row gJ];exact aC
     obtain⟨u,hu,_⟩:=eO.2 (off+i) j row _ gJ (List.getElem?_eq_getElem aR)
     rw[show off*E.sz b+(i*E.sz b+j)=(off+i)*E.sz b+j by rw[Nat.add_mul];omega,cell_of hw hu,hu];rfl
    ·have hi:=(List.getElem?_eq_some_iff.1 dL).1
     obtain⟨row,gJ⟩:=dR i hi
     have aR:j<row.length:=by rw[aE i row row' gJ dL];exact(List.getElem?_eq_some_iff.1 aC).1
     obtain⟨u,hu,fs⟩:=eO.2 (off+i) j row _ gJ (List.getElem?_eq_getElem aR)
     have h1:=bx i j row _ hi gJ (List.getElem?_eq_getElem aR) fs.up
     have h2:=Ym (aw i j row _ hi gJ (List.getElem?_eq_getElem aR))
     rw[hu,hc i j row' a dL aC]
     exact DS h2 h1 (fun c hc=>hc) (fun c hc=>hc)
def bf (P:Program) (f:FuncId) (args:List AV) (t:AV):Prop:=c8 P f args [] fun r dQ=>jj dQ r t
theorem EL {P:Program} {f:FuncId} {args db:List AV} {t:AV} {L ih:List (Nat×List AV)} {H dQ:List Blk} {E:Env} {vs:List Value} (sub:Sub L H ih dQ) (az:SimH E dQ) (bF:SimL E ih)
  (aL:aK (V2 E) args vs) (hs:aK (dE L H) args db) (h:bf P f db t):
  Calls P f vs.toArray E.w fun e w'=> ∃v E',e= .returned v∧E'.w=w'∧ji E E'∧V3 E' t v:=by
 have qg:aK (V2 E.frozen) db vs:=⟨hs.1▸aL.1,fun i x u hx hu=>by
  have aR:i<args.length:=by have:=(List.getElem?_eq_some_iff.1 hx).1;have:=hs.1;omega
  have aE:=List.getElem?_eq_getElem aR
  exact Lu sub az bF (hs.2 i _ x aE hx) (aL.2 i _ u aE hu)⟩
 refine(h.2 E.frozen vs (fun _=>rfl) (FJ az) qg).mono ?_
 rintro e w' ⟨r,v,H',E1,rfl,aw,rfl,ap,ej,hv,a6⟩
 let N:Nat→Prop:=fun c=>E1.PF c∨E1.ff c
 have kB: ∀c,N c→E.w.heap.size≤c∧c<E1.w.heap.size:=by
  rintro c (hc | hc)
  ·exact⟨(a6.et c hc).elim (fun h=>h.elim) id,ej.df c (ej.dc c hc)⟩
  ·exact⟨(a6.nF c hc).elim (fun⟨b,hb⟩=>by cases hb) id,ej.ed c hc⟩
 have lW: ∀c,c<E.w.heap.size→E1.w.heap[c]?=E.w.heap[c]?:=fun c hc=>a6.dM c hc (fun⟨b,hb⟩=>by cases hb) (fun⟨b,hb⟩=>by cases hb)
 let E':Env:={E with w:=E1.w,PA:=fun c=>E.PA c∨N c,PF:=fun c=>E.PF c∨N c}
 have ag:ji E E':=
  {step:=⟨⟨fun c hc=> .inl hc,fun c hc=> .inl hc,fun c hc=>lW c (az.df c hc),fun c hc=>lW c (az.df c (az.dc c hc)),fun _=>Nat.le_refl _,fun _ _ h _=>⟨h,rfl,rfl⟩,fun _ _ h=>h⟩,
    a6.os,a6.tape,a6.output,a6.size,fun c hc _ _=>lW c hc,fun _ _ h=> .inl h,fun _ h=> .inl h,fun c hc=>hc.elim .inl (fun h=> .inr (kB c h).1),fun c hc=>hc.elim .inl (fun h=> .inr (kB c h).1)⟩
   m:=rfl,mL:=rfl,ba:=rfl,sz:=rfl,cp:=rfl
   dM:=lW
   ep:=fun c hc=>hc.elim .inl (fun h=> .inr (kB c h))
   dc:=fun c hc=>hc.elim (fun h=> .inl (az.dc c h)) .inr}
 have up: ∀{b:AV} {u:Value},a1 E1.w N N b u→bT E' b u:=fun h=>a1.v1 (E:=E') (h.mono (fun _ _=>rfl) (fun _ _=>rfl) (fun c hc=> .inr hc) (fun c hc=> .inr hc))
 have dr: ∀{a b:AV} {u:Value},e1 H' a b→bT E1 a u→bT E' b u:=fun aL hu=>up (Lw ej aL hu)
 have dT: ∀{a b:AV} {u:Value},p4 H' a b→V2 E1 a u→V2 E' b u:=by
  rintro a b u (⟨l,l',rfl,rfl,ak⟩ | h) hu
  ·obtain⟨h8,rfl,ag⟩:=hu
   refine⟨h8,rfl,ak.1▸ag.1,fun i x y hx bm=> ?_⟩
   have aR:i<l.length:=by have:=(List.getElem?_eq_some_iff.1 hx).1;have:=ak.1;omega
   have aE:=List.getElem?_eq_getElem aR
   exact dr (ak.2 i _ x aE hx) (ag.2 i _ y aE bm)
  ·have:bT E1 a u:=by cases h<;>exact hu
   exact jI (dr h this)
 have fh: ∀{a b:AV} {u:Value},jj H' a b→V3 E1 a u→V3 E' b u:=by
  rintro a b u (⟨l,l',rfl,rfl,ak⟩ | h) hu
  ·obtain⟨h8,rfl,ag⟩:=hu
   refine⟨h8,rfl,ak.1▸ag.1,fun i x y hx bm=> ?_⟩
   have aR:i<l.length:=by have:=(List.getElem?_eq_some_iff.1 hx).1;have:=ak.1;omega
   have aE:=List.getElem?_eq_getElem aR
   exact dT (ak.2 i _ x aE hx) (ag.2 i _ y aE bm)
  ·have:V2 E1 a u:=by
    rcases h with⟨l,l',rfl,rfl,ak⟩ | h
    ·exact hu
    ·cases h<;>exact hu
   exact jk (dT h this)
 exact⟨v,E',rfl,rfl,ag,fh aw hv⟩
def zu:AV→Bool
 | .agg _ | .tup _ | .fn _ _=>false
 | _=>true
def u4 (fn:Fn) (first:Array Operand) (caps:List AV) (K:AV→Prop):Prop:=match fn with
 | .func f=>if first.isEmpty=true∧caps.all zu=true then K (.fn f caps) else False
 | _=>False
def dC:AV→Bool
 | .tup _=>false
 | _=>true
def jp (x:AV) (K:FuncId→List AV→Prop):Prop:=match x with
 | .fn f caps=>K f caps
 | _=>False
def lQ (P:Program) (f:FuncId) (args:List AV) (L:List (Nat×List AV)) (H:List Blk) (K:AV→Prop):Prop:=
 args.all dC=true∧ ∃db t,aK (dE L H) args db∧bf P f db t∧K t
def Af (P:Program) (c:Call) (bo:Operand→AV) (L:List (Nat×List AV)) (H:List Blk) (K:AV→Prop):Prop:=match c.callee with
 | .builtin .len=>(match c.args.toList,c.argTypes.toList with
  | [x],[t]=>dD (hJ P t (bo x)) (ow (bo x) K)
  | _,_=>False)
 | .value f=>jp (bo f) fun g caps=>lQ P g (c.args.toList.map bo++caps) L H K
 | _=>False
def o4 (P:Program) (o:Oper) (bo:Operand→AV) (L:List (Nat×List AV)) (H:List Blk) (K:AV→Prop):Prop:=match o.op with
 | .move x=>K (bo x)
 | .assign x=>K (bo x)
 | .pick c a b=>lP (bo c) fun z=>tU z (K (bo a)) (K (bo b))
 | .build t ps=>dD (ps.toList.all fun p=>dC (bo p.2)) (zr P t (ps.toList.map fun p=>(p.1,bo p.2)) K)
 | .buildSlice t n ps=>dD (ps.toList.all fun p=>dC (bo p.2)) (r5 P t n (ps.toList.map fun p=>(p.1,bo p.2)) K)
 | .load t a=>lZ P t (bo a) L H K
 | .nilCheck x=>Ck (bo x) K
 | .binOp op t x y _=>oZ P op t (bo x) (bo y) (nG y) K
 | .unOp op _ x=>yW op (bo x) K
 | .convert s d x=>zQ P s d (bo x) K
 | .makeFunc fn first caps=>u4 fn first (caps.toList.map bo) K
 | .fieldAddr t x f=>Al P t (bo x) f K
 | .indexAddr t x i=>sH P t (bo x) (bo i) H K
 | .index t x i=>Bs P t (bo x) (bo i) K
 | .slice t x lo hi mx=>(match mx with
  | none=>rp P t (bo x) (lo.map bo) (hi.map bo) H K
  | some _=>False)
 | .extract x i=>Ah (bo x) i K
 | .call c=>Af P c bo L H K
 | _=>False
theorem DV {P:Program} {o:Oper} {a:Act} {next:Act→World→Prop} {Q:Exit→Act→World→Prop} {s:Sem Value} {w w':World} {u:Value} (h:s.run P w= .ok u w') (k:next (a.put o.dst u) w'):
  o.upon P a next Q ((do pure (Next.value (←s)):Sem Next).run P w):=by
 rw[Sem.run_bind,h];exact k
theorem parts_eq (ps:Array (Nat×Operand)) (a:Act):(ps.toList.map fun p=>(p.1,a.eval p.2)).toArray=ps.map fun(i,x)=>(i,a.eval x):=by
 apply Array.ext'
 rw[Array.toList_map]
theorem Cs {E:Env} {a:Act} {T:List AV} (bM: ∀t,V3 E (T.getD t .undef) (a.tmps.getD t undef)) (ps:List (Nat×Operand)) (ap: ∀p∈ps,∀l,bL T p.2≠ .tup l):
  aK (fun(x:Nat×AV) (y:Nat×Value)=>x.1=y.1∧V2 E x.2 y.2) (ps.map fun p=>(p.1,bL T p.2)) (ps.map fun p=>(p.1,a.eval p.2)):=by
 refine⟨by simp,fun i x y hx bm=> ?_⟩
 rw[List.getElem?_map] at hx bm
 cases ak:ps[i]? with
 | none=>simp[ak] at hx
 | some p=>
  simp[ak] at hx bm
  subst hx;subst bm
  refine⟨rfl,?_⟩
  have:=opv_rel bM p.2
  rwa [lN (ap p (List.mem_of_getElem? ak))] at this
theorem Et {E:Env} {a:Act} {T:List AV} (bM: ∀t,V3 E (T.getD t .undef) (a.tmps.getD t undef)) (xs:List Operand) (ap: ∀x∈xs,∀l,bL T x≠ .tup l):
  aK (V2 E) (xs.map (bL T)) (xs.map a.eval):=by
 refine⟨by simp,fun i x y hx bm=> ?_⟩
 rw[List.getElem?_map] at hx bm
 cases ak:xs[i]? with
 | none=>simp[ak] at hx
 | some p=>
  simp[ak] at hx bm
  subst hx;subst bm
  have:=opv_rel bM p
  rwa [lN (ap p (List.mem_of_getElem? ak))] at this
theorem sW {a:AV} (h:dC a=true): ∀l,a≠ .tup l:=by
 intro l e;subst e;cases h
theorem JW {E:Env} {a:Act} {T:List AV} (bM: ∀t,V3 E (T.getD t .undef) (a.tmps.getD t undef)) (x:Option Operand):
  wm E (x.map (bL T)) (x.map a.eval):=by
 cases x with
 | none=>trivial
 | some x=>exact opv_rel bM x
theorem EM {E:Env} {a:Act} {T:List AV} (bM: ∀t,V3 E (T.getD t .undef) (a.tmps.getD t undef)) {f:Operand} {g:FuncId} {caps:List AV} (h:bL T f= .fn g caps):
  ∃vs:List Value,a.eval f= .func (.func g) #[] vs.toArray∧aK (V2 E) caps vs:=by
 have:=opv_rel bM f
 rw[h] at this
 obtain⟨vs,e,ak⟩:=(show ∃vs:List Value,a.eval f= .func (.func g) #[] vs.toArray∧aK (dO E) caps vs from this)
 exact⟨vs,e,ak.mono fun _ _ k=>jI (zd k)⟩
theorem Xe {P:Program} {f:FuncId} {w:World} {args:Array Value} (h:pE P f=true):(callFunc f args).run P w= .ok (.enter f args) w:=by
 unfold pE at h
 cases hf:P.funcs[f]? with
 | none=>simp[hf] at h
 | some fn=>
  simp[hf] at h
  obtain⟨h1,h2⟩:=h
  simp[callFunc,hf,h1]
  cases hb:fn.body with
  | none=>simp[hb] at h2
  | some c=>intro bH;cases bH
theorem KW {P:Program} {c:Call} {a:Act} {ty:TypeId} {f:Operand} {g:FuncId} {vs:List Value} {w:World} (hc:c.callee= .value f) (hf:a.eval f= .func (.func g) #[] vs.toArray) (h:pE P g=true):
  (do let d ←resolve a.eval c ty;invoke d.target d.args:Sem Next).run P w= .ok (.enter g (c.args.toList.map a.eval++vs).toArray) w:=by
 unfold resolve
 rw[hc]
 simp only[hf,Deferred.ofValue,Sem.run_bind,Sem.run_pure,Result.andThen_ok,invoke]
 rw[Xe h]
 simp
def tM (E:Env) (o:Oper) (a:Act) (K:AV→Prop):Act→World→Prop:=fun gB w'=> ∃v dx E',K v∧E'.w=w'∧ji E E'∧V3 E' v dx∧gB=a.put o.dst dx
set_option maxHeartbeats 4000000 in
theorem Fk {P:Program} {o:Oper} {a:Act} {T:List AV} {E:Env} {L ih:List (Nat×List AV)} {H dQ:List Blk} {K:AV→Prop} {Q:Exit→Act→World→Prop}
  (bM: ∀t,V3 E (T.getD t .undef) (a.tmps.getD t undef)) (sub:Sub L H ih dQ) (az:SimH E dQ) (bF:SimL E ih) (h:o4 P o (bL T) L H K):o.wp P a E.w (tM E o a K) Q:=by
 have fin: ∀{s:Sem Value},(execOp a.eval o=(do pure (Next.value (←s))))→(∃r u E',K r∧s.run P E.w= .ok u E'.w∧ji E E'∧V3 E' r u)→o.wp P a E.w (tM E o a K) Q:=by
  rintro s hs ⟨r,u,E',hK,aw,ag,hv⟩
  unfold Oper.wp
  rw[hs]
  exact DV aw ⟨r,u,E',hK,rfl,ag,hv,rfl⟩
 have mq: ∀{s:Sem Value},(execOp a.eval o=(do pure (Next.value (←s))))→(∃r u,K r∧s.run P E.w= .ok u E.w∧V3 E r u)→o.wp P a E.w (tM E o a K) Q:=by
  rintro s hs ⟨r,u,hK,aw,hv⟩
  exact fin hs ⟨r,u,E,hK,aw,ji.refl az,hv⟩
 have u5: ∀x,execOp a.eval o=pure (.value (a.eval x))→K (bL T x)→o.wp P a E.w (tM E o a K) Q:=by
  intro x hs hK
  unfold Oper.wp
  rw[hs]
  exact⟨_,_,E,hK,rfl,ji.refl az,opv_rel bM x,rfl⟩
 obtain⟨dst,op,ty,pos,after,guard⟩:=o
 cases op with
 | move x=>exact u5 x rfl h
 | assign x=>exact u5 x rfl h
 | pick c x y=>
  obtain⟨b,hb,h1,h2⟩:=wz (show lP (bL T c) fun z=>tU z (K (bL T x)) (K (bL T y)) from h)
  have hv:=opv_rel bM c
  rw[hb] at hv
  have he:a.eval c= .bool b:=V3.mh hv
  cases b with
  | true=>exact u5 x (by simp[execOp,he,asBool]) (h1 rfl)
  | false=>exact u5 y (by simp[execOp,he,asBool]) (h2 rfl)
 | build t ps=>
  obtain⟨ap,h⟩:=mR h
  have:=N7 (P:=P) (Cs bM ps.toList fun p ak=>sW (List.all_eq_true.1 ap p ak)) h
  exact mq (s:=Instr.build t (ps.toList.map fun p=>(p.1,a.eval p.2)).toArray) (by rw[parts_eq];rfl) this
 | buildSlice t n ps=>
  obtain⟨ap,h⟩:=mR h
  have:=EG (P:=P) az (Cs bM ps.toList fun p ak=>sW (List.all_eq_true.1 ap p ak)) h
  exact fin (s:=Instr.buildSlice t n (ps.toList.map fun p=>(p.1,a.eval p.2)).toArray) (by rw[parts_eq];rfl) this
 | load t x=>
  obtain⟨r,u,hK,aw,hv⟩:=Je sub az bF (opv_rel bM x) h
  exact mq (s:=Instr.loadAt t (a.eval x)) rfl ⟨r,u,hK,aw,jk hv⟩
 | nilCheck x=>
  have hx:=opv_rel bM x
  have h:Ck (bL T x) K:=h
  have key: ∀jl,a.eval x= .pointer (some jl)→K (bL T x)→Oper.wp P ⟨dst,.nilCheck x,ty,pos,after,guard⟩ a E.w (tM E ⟨dst,.nilCheck x,ty,pos,after,guard⟩ a K) Q:=by
   intro jl he hK
   exact u5 x (by simp[execOp,he]) hK
  cases mH:bL T x with
  | dZ s c=>
   rw[mH] at hx h
   obtain⟨bl,_,e⟩:=hx.u0
   exact key _ e (by rw[mH];exact h)
  | ptr b g r c=>
   rw[mH] at hx h
   rcases(show dO E (.ptr b g r c) _ from hx) with⟨_,bl,o,e⟩ | ⟨_,bl,_,e⟩<;>exact key _ e (by rw[mH];exact h)
  | cD cells c=>
   rw[mH] at hx h
   have hq:a1 E.w E.PA E.PF (.cD cells c) (a.eval x):=hx
   generalize hv:a.eval x=v at hq
   cases hq;exact key _ hv (by rw[mH];exact h)
  | _=>rw[mH] at h;exact h.elim
 | binOp op t x y ty2=>
  have Bn:nG y=true→a.eval y= .slice none 0 0:=by
   intro bH
   unfold nG at bH
   split at bH
   ·rfl
   ·cases bH
  exact mq (s:=do eqGuard op t x y (a.eval x) (a.eval y);binOp op t (a.eval x) (a.eval y)) rfl (NQ (opv_rel bM x) (opv_rel bM y) Bn h)
 | unOp op t x=>exact mq (s:=Op.unary op (a.eval x)) rfl (ZG (opv_rel bM x) h)
 | convert s d x=>exact mq (s:=Go.convert s d (a.eval x)) rfl (OT (opv_rel bM x) h)
 | makeFunc fn first caps=>
  replace h:u4 fn first (caps.toList.map (bL T)) K:=h
  cases fn with
  | func f=>
   replace h:if first.isEmpty=true∧(caps.toList.map (bL T)).all zu=true then K (.fn f (caps.toList.map (bL T))) else False:=h
   split at h
   ·rename_i hc
    obtain⟨h1,h2⟩:=hc
    have hf:first= #[]:=by simpa using h1
    subst hf
    refine mq (s:=Instr.makeFunc (.func f) (Array.map a.eval #[]) (caps.map a.eval)) rfl ⟨_,.func (.func f) #[] (caps.map a.eval),h,by simp[Instr.makeFunc],(caps.toList.map a.eval),by rw[←Array.toList_map,Array.toArray_toList],by simp,fun i x y hx bm=> ?_⟩
    rw[List.getElem?_map] at hx bm
    cases ak:caps.toList[i]? with
    | none=>simp[ak] at hx
    | some p=>
     simp[ak] at hx bm
     subst hx;subst bm
     have hv:=opv_rel bM p
     have ei:zu (bL T p)=true:=List.all_eq_true.1 h2 _ (List.mem_map.2 ⟨p,List.mem_of_getElem? ak,rfl⟩)
     cases ag:bL T p<;>rw[ag] at hv ei<;>first | exact hv | cases ei
   ·exact h.elim
  | _=>exact h.elim
 | fieldAddr t x f=>exact mq (s:=Instr.fieldAt t (a.eval x) f) rfl (Pp (opv_rel bM x) h)
 | indexAddr t x i=>exact mq (s:=Instr.indexAt t (a.eval x) (a.eval i)) rfl (Sf sub az (opv_rel bM x) (opv_rel bM i) h)
 | index t x i=>exact mq (s:=Instr.index t (a.eval x) (a.eval i)) rfl (So (opv_rel bM x) (opv_rel bM i) h)
 | slice t x lo hi mx=>
  cases mx with
  | none=>exact mq (s:=Instr.sliceAt t (a.eval x) (lo.map a.eval) (hi.map a.eval) none) rfl (XN sub az (opv_rel bM x) (JW bM lo) (JW bM hi) h)
  | some m=>exact h.elim
 | extract x i=>exact mq (s:=Instr.extract (a.eval x) i) rfl (Pk (opv_rel bM x) h)
 | call c=>
  have h:Af P c (bL T) L H K:=h
  obtain⟨callee,args,argTypes⟩:=c
  cases callee with
  | builtin b=>
   cases b with
   | len=>
    have h:(match args.toList,argTypes.toList with
     | [x],[t]=>dD (hJ P t (bL T x)) (ow (bL T x) K)
     | _,_=>False):=h
    split at h
    ·rename_i x t h1 h2
     obtain⟨RB,RC⟩:=mR h
     obtain rfl:args= #[x]:=by rw[←Array.toArray_toList (xs:=args),h1]
     obtain rfl:argTypes= #[t]:=by rw[←Array.toArray_toList (xs:=argTypes),h2]
     obtain⟨r,u,hK,aw,hv⟩:=Vj (P:=P) (ty:=ty) (opv_rel bM x) RB RC
     unfold Oper.wp
     have:(execOp a.eval ⟨dst,.call ⟨.builtin .len,#[x],#[t]⟩,ty,pos,after,guard⟩).run P E.w= .ok (.value u) E.w:=by
      simp only[execOp,resolve,Sem.run_bind,Sem.run_pure,Result.andThen_ok,invoke,builtin]
      have e:Array.map a.eval #[x]= #[a.eval x]:=by simp
      rw[e,aw];rfl
     rw[this]
     exact⟨r,u,E,hK,rfl,ji.refl az,hv,rfl⟩
    ·exact h.elim
   | _=>exact h.elim
  | value f=>
   have h:jp (bL T f) fun g caps=>lQ P g (args.toList.map (bL T)++caps) L H K:=h
   cases hf:bL T f with
   | fn g caps=>
    rw[hf] at h
    obtain⟨ap,db,t,hs,mB,hK⟩:=(show lQ P g (args.toList.map (bL T)++caps) L H K from h)
    obtain⟨vs,he,qo⟩:=EM bM hf
    unfold Oper.wp
    rw[show execOp a.eval ⟨dst,.call ⟨.value f,args,argTypes⟩,ty,pos,after,guard⟩=(do let d ←resolve a.eval ⟨.value f,args,argTypes⟩ ty;invoke d.target d.args) from rfl]
    rw[KW (P:=P) (ty:=ty) (w:=E.w) (c:=⟨.value f,args,argTypes⟩) rfl he mB.1]
    have AM:aK (V2 E) (args.toList.map (bL T)++caps) (args.toList.map a.eval++vs):=
     aK.append (Et bM args.toList fun x hx=>sW (List.all_eq_true.1 ap _ (by simp;exact .inl ⟨x,by simpa using hx,rfl⟩))) qo
    refine(EL sub az bF AM hs mB).mono ?_
    rintro e w' ⟨v,E',rfl,rfl,ag,hv⟩
    exact⟨t,v,E',hK,rfl,ag,hv,rfl⟩
   | _=>rw[hf] at h;exact h.elim
  | _=>exact h.elim
 | _=>exact h.elim
theorem OZ (w:World) (o:Obj) (c:Nat) (h:c<w.heap.size):(w.drew.alloc o).heap[c]?=w.heap[c]?:=oX w.drew o c h
structure ks (w w':World) (o:Obj):Prop where
 os:w'.os=w.os
 tape:w'.tape=w.tape
 output:w'.output=w.output
 size:w'.heap.size=w.heap.size+1
 nK: ∀c,c<w.heap.size→w'.heap[c]?=w.heap[c]?
 new:w'.heap[w.heap.size]?=some o
theorem ks.alloc (w:World) (o:Obj):ks w (w.alloc o) o:=⟨rfl,rfl,rfl,by simp,fun c hc=>oX w o c hc,El w o⟩
theorem ks.OY (w:World) (o:Obj):ks w (w.drew.alloc o) o:=⟨rfl,rfl,rfl,by simp,fun c hc=>OZ w o c hc,El w.drew o⟩
theorem SimH.ext {E:Env} {H H':List Blk} (h:SimH E H) (hs: ∀(b:Nat) (blk:Blk),H[b]?=some blk→H'[b]?=some blk) (aE:H.length≤H'.length) (aI: ∀(b:Nat) (blk:Blk),H.length≤b→H'[b]?=some blk→blk.ba=0):SimH E H':=
 {h with
  heap:=fun b c hb=>by
   obtain⟨blk,aM,ty,q1,q⟩:=h.heap b c hb
   exact⟨blk,aM,ty,hs b blk q1,q⟩
  dJ:=fun b blk hb=>by
   rcases Nat.lt_or_ge b H.length with aR | eK
   ·have h1:=List.getElem?_eq_getElem aR
    have h2:=hs b _ h1
    rw[hb] at h2
    cases h2
    exact h.dJ b _ h1
   ·rw[(h.fresh b eK).2,aI b blk eK hb]
  fz:=fun b hb=>by
   obtain⟨blk,q1,q⟩:=h.fz b hb
   exact⟨blk,hs b blk q1,q⟩
  fresh:=fun b hb=>h.fresh b (Nat.le_trans aE hb)}
theorem SimH.snoc {E:Env} {H:List Blk} (h:SimH E H) {blk:Blk} (aI:blk.ba=0):SimH E (H++[blk]):=
 h.ext (fun b x hb=>by rw[List.getElem?_append_left (List.getElem?_eq_some_iff.1 hb).1];exact hb) (by simp) (fun b x hb hx=>by
  rw[List.getElem?_append_right hb] at hx
  have:b - H.length=0:=by
   rcases Nat.eq_zero_or_pos (b - H.length) with q | q
   ·exact q
   ·rw[List.getElem?_eq_none (by simp;omega)] at hx;cases hx
  rw[this] at hx;cases hx;exact aI)
theorem SimL.cons {E:Env} {L:List (Nat×List AV)} (h:SimL E L) {t:Nat} {cells:List AV} (ap:E.mL t=none):SimL E ((t,cells)::L):=fun s c hm=>by
 have:s≠t:=fun e=>by subst e;rw[ap] at hm;cases hm
 simp only[dm,if_neg this]
 exact h s c hm
theorem JF {E:Env} {H:List Blk} {L:List (Nat×List AV)} {w':World} {aM:Array Value} {ty:TypeId} {t:Nat} {cells:List AV} (az:SimH E H) (bF:SimL E L) (hw:ks E.w w' (.cells aM ty (0,0)))
  (bt:dm L t=some cells) (hm:E.mL t=none) (hc:aK (bT E.bG) cells aM.toList):
  ∃E',E'.w=w'∧Step E E'∧SimH E' H∧SimL E' L∧V3 E' (.dZ t 0) (.pointer (some ⟨E.w.heap.size,0,none⟩))∧E'.m=E.m∧(∀s,s≠t→E'.mL s=E.mL s):=by
 let E':Env:={E with w:=w',mL:=fun s=>if s=t then some E.w.heap.size else E.mL s}
 have a6:Step E E':=
  {le:=⟨fun _ h=>h,fun _ h=>h,fun c hc=>hw.nK c (az.df c hc),fun c hc=>hw.nK c (az.df c (az.dc c hc)),fun _=>Nat.le_refl _,fun _ _ h _=>⟨h,rfl,rfl⟩,fun s c h=>by
    show(if s=t then _ else _)=_
    rw[if_neg (fun e=>by subst e;rw[hm] at h;cases h)];exact h⟩
   os:=hw.os,tape:=hw.tape,output:=hw.output
   size:=by show E.w.heap.size≤w'.heap.size;rw[hw.size];omega
   dM:=fun c hc _ _=>hw.nK c hc
   gV:=fun _ _ h=> .inl h
   hr:=fun c ⟨s,hs⟩=>by
    have hs:(if s=t then some E.w.heap.size else E.mL s)=some c:=hs
    split at hs
    ·cases hs;exact .inr (Nat.le_refl _)
    ·exact .inl ⟨s,hs⟩
   ep:=fun _ h=> .inl h
   et:=fun _ h=> .inl h}
 have hml: ∀s c,E'.mL s=some c→(s=t∧c=E.w.heap.size)∨(s≠t∧E.mL s=some c):=by
  intro s c hs
  have hs:(if s=t then some E.w.heap.size else E.mL s)=some c:=hs
  split at hs
  ·rename_i e;cases hs;exact .inl ⟨e,rfl⟩
  ·rename_i e;exact .inr ⟨e,hs⟩
 have hW:=az.ed
 have hX:=az.eQ
 refine⟨E',rfl,a6,?_,?_,⟨E.w.heap.size,by show(if t=t then _ else _)=_;rw[if_pos rfl],rfl⟩,rfl,fun s hs=>if_neg hs⟩
 ·exact{
   heap:=fun b c hb=>by
    obtain⟨blk,cA,hB,q1,cj,q2,q3,q4,cw,cr⟩:=az.heap b c hb
    refine⟨blk,cA,hB,q1,cj,?_,q3,q4,cw,fun i j row a aw aC=> ?_⟩
    ·show w'.heap[c]?=_;rw[hw.nK c (hW c ⟨b,hb⟩)];exact q2
    ·obtain⟨u,hu,dL⟩:=cr i j row a aw aC
     exact⟨u,hu,dL.le a6.le.bG⟩
   dJ:=az.dJ
   fz:=az.fz
   fresh:=az.fresh
   fR:=az.fR
   gW:=fun s s' c h1 h2=>by
    rcases hml s c h1 with⟨d1,bi⟩ | ⟨_,cY⟩<;>rcases hml s' c h2 with⟨d2,e2⟩ | ⟨_,fT⟩
    ·rw[d1,d2]
    ·have:=hX c ⟨s',fT⟩;omega
    ·have:=hX c ⟨s,cY⟩;omega
    ·exact az.gW s s' c cY fT
   e7:=fun b s c h1 h2=>by
    rcases hml s c h2 with⟨rfl,rfl⟩ | ⟨_,h2⟩
    ·have:=hW _ ⟨b,h1⟩;omega
    ·exact az.e7 b s c h1 h2
   fV:=az.fV
   gm:=fun c hc ⟨s,hs⟩=>by
    rcases hml s c hs with⟨rfl,rfl⟩ | ⟨_,hs⟩
    ·have:=az.df _ hc;omega
    ·exact az.gm c hc ⟨s,hs⟩
   dc:=az.dc
   df:=fun c hc=>Nat.lt_of_lt_of_le (az.df c hc) a6.size
   ed:=fun c hc=>Nat.lt_of_lt_of_le (hW c hc) a6.size
   eQ:=fun c ⟨s,hs⟩=>by
    rcases hml s c hs with⟨rfl,rfl⟩ | ⟨_,hs⟩
    ·show _<w'.heap.size;rw[hw.size];omega
    ·exact Nat.lt_of_lt_of_le (hX c ⟨s,hs⟩) a6.size}
 ·intro s c hs
  rcases hml s c hs with⟨rfl,rfl⟩ | ⟨_,hs⟩
  ·exact⟨cells,aM,ty,bt,hw.new,hc.mono fun _ _ k=>k.le a6.le.bG⟩
  ·obtain⟨fo,cA,hB,q1,q2,q3⟩:=bF s c hs
   exact⟨fo,cA,hB,q1,by show w'.heap[c]?=_;rw[hw.nK c (hX c ⟨s,hs⟩)];exact q2,q3.mono fun _ _ k=>k.le a6.le.bG⟩
theorem sT {E:Env} {H H':List Blk} {L:List (Nat×List AV)} {w':World} {aM:Array Value} {ty:TypeId} {b cap:Nat} {blk:Blk} (az:SimH E H) (bF:SimL E L) (hw:ks E.w w' (.cells aM ty (0,0)))
  (hb:H'[b]?=some blk) (aB: ∀bS,bS≠b→H'[bS]?=H[bS]?) (hlen:b<H.length→H'.length=H.length) (GI:H.length≤H'.length)
  (hU:(E.m b=none∧blk.ba=E.ba b)∨E.ba b<blk.ba) (jM:aM.size=cap*blk.sz) (e5:blk.rows.length≤cap)
  (aw:rT E blk.sz blk.rows aM):
  ∃E',E'.w=w'∧Step E E'∧SimH E' H'∧SimL E' L∧E'.ba b=blk.ba∧E'.m b=some (some E.w.heap.size)∧E'.sz b=blk.sz∧E'.cp b=cap∧(∀bS,bS≠b→E'.m bS=E.m bS)∧E'.mL=E.mL:=by
 let E':Env:={E with w:=w',m:=fun bS=>if bS=b then some (some E.w.heap.size) else E.m bS,ba:=fun bS=>if bS=b then blk.ba else E.ba bS,sz:=fun bS=>if bS=b then blk.sz else E.sz bS,cp:=fun bS=>if bS=b then cap else E.cp bS}
 have a6:Step E E':=
  {le:=⟨fun _ h=>h,fun _ h=>h,fun c hc=>hw.nK c (az.df c hc),fun c hc=>hw.nK c (az.df c (az.dc c hc)),fun bS=>by
     show _≤(if bS=b then _ else _)
     split
     ·rename_i e;subst e;rcases hU with⟨_,e⟩ | e<;>omega
     ·exact Nat.le_refl _,fun bS x hx aI=>by
     have mC:(if bS=b then blk.ba else E.ba bS)=E.ba bS:=aI
     have b2:bS≠b:=fun e=>by
      subst e
      rw[if_pos rfl] at mC
      rcases hU with⟨ap,_⟩ | e
      ·rw[ap] at hx;cases hx
      ·omega
     refine⟨?_,?_,?_⟩
     ·show(if bS=b then _ else _)=_;rw[if_neg b2];exact hx
     ·show(if bS=b then _ else _)=_;rw[if_neg b2]
     ·show(if bS=b then _ else _)=_;rw[if_neg b2],fun _ _ h=>h⟩
   os:=hw.os,tape:=hw.tape,output:=hw.output
   size:=by show E.w.heap.size≤w'.heap.size;rw[hw.size];omega
   dM:=fun c hc _ _=>hw.nK c hc
   gV:=fun s c hs=>by
    have hs:(if s=b then some (some E.w.heap.size) else E.m s)=some (some c):=hs
    split at hs
    ·cases hs;exact .inr (Nat.le_refl _)
    ·exact .inl hs
   hr:=fun _ h=> .inl h
   ep:=fun _ h=> .inl h
   et:=fun _ h=> .inl h}
 have hm: ∀s c,E'.m s=some (some c)→(s=b∧c=E.w.heap.size)∨(s≠b∧E.m s=some (some c)):=by
  intro s c hs
  have hs:(if s=b then some (some E.w.heap.size) else E.m s)=some (some c):=hs
  split at hs
  ·rename_i e;cases hs;exact .inl ⟨e,rfl⟩
  ·rename_i e;exact .inr ⟨e,hs⟩
 have hW:=az.ed
 have hX:=az.eQ
 have bX: ∀s,s≠b→E'.sz s=E.sz s:=fun s hs=>if_neg hs
 have nv: ∀s,s≠b→E'.cp s=E.cp s:=fun s hs=>if_neg hs
 have xJ:E'.sz b=blk.sz:=if_pos rfl
 have AS:E'.cp b=cap:=if_pos rfl
 have Gt:E'.ba b=blk.ba:=if_pos rfl
 refine⟨E',rfl,a6,?_,?_,Gt,if_pos rfl,xJ,AS,fun bS dK=>if_neg dK,rfl⟩
 ·exact{
   heap:=fun s c hs=>by
    rcases hm s c hs with⟨rfl,rfl⟩ | ⟨b2,hs⟩
    ·refine⟨blk,aM,ty,hb,xJ,hw.new,by rw[AS,xJ];exact jM,by rw[AS];exact e5,?_⟩
     rw[xJ]
     exact⟨aw.1,fun i j row a h1 h2=>by obtain⟨u,hu,dL⟩:=aw.2 i j row a h1 h2;exact⟨u,hu,dL.le a6.le.bG⟩⟩
    ·obtain⟨blk',cA,hB,q1,cj,q2,q3,q4,cw,cr⟩:=az.heap s c hs
     refine⟨blk',cA,hB,by rw[aB s b2];exact q1,by rw[bX s b2];exact cj,?_,by rw[nv s b2,bX s b2];exact q3,by rw[nv s b2];exact q4,by rw[bX s b2];exact cw,fun i j row a aw aC=> ?_⟩
     ·show w'.heap[c]?=_;rw[hw.nK c (hW c ⟨s,hs⟩)];exact q2
     ·obtain⟨u,hu,dL⟩:=cr i j row a aw aC
      exact⟨u,by rw[bX s b2];exact hu,dL.le a6.le.bG⟩
   dJ:=fun s x hs=>by
    by_cases e:s=b
    ·subst e;rw[hb] at hs;cases hs;exact Gt
    ·rw[aB s e] at hs
     show(if s=b then _ else _)=_
     rw[if_neg e];exact az.dJ s x hs
   fz:=fun s hs=>by
    have hs:(if s=b then some (some E.w.heap.size) else E.m s)=some none:=hs
    split at hs
    ·cases hs
    ·rename_i e
     obtain⟨x,q1,q2⟩:=az.fz s hs
     exact⟨x,by rw[aB s e];exact q1,by rw[bX s e];exact q2⟩
   fresh:=fun s hs=>by
    have aR:b<H'.length:=(List.getElem?_eq_some_iff.1 hb).1
    have e:s≠b:=by omega
    have:=az.fresh s (by omega)
    exact⟨by show(if s=b then _ else _)=_;rw[if_neg e];exact this.1,by show(if s=b then _ else _)=_;rw[if_neg e];exact this.2⟩
   fR:=fun s s' c h1 h2=>by
    rcases hm s c h1 with⟨d1,bi⟩ | ⟨_,cY⟩<;>rcases hm s' c h2 with⟨d2,e2⟩ | ⟨_,fT⟩
    ·rw[d1,d2]
    ·have:=hW c ⟨s',fT⟩;omega
    ·have:=hW c ⟨s,cY⟩;omega
    ·exact az.fR s s' c cY fT
   gW:=az.gW
   e7:=fun s t c h1 h2=>by
    rcases hm s c h1 with⟨rfl,rfl⟩ | ⟨_,h1⟩
    ·have:=hX _ ⟨t,h2⟩;omega
    ·exact az.e7 s t c h1 h2
   fV:=fun c hc ⟨s,hs⟩=>by
    rcases hm s c hs with⟨rfl,rfl⟩ | ⟨_,hs⟩
    ·have:=az.df _ hc;omega
    ·exact az.fV c hc ⟨s,hs⟩
   gm:=az.gm
   dc:=az.dc
   df:=fun c hc=>Nat.lt_of_lt_of_le (az.df c hc) a6.size
   ed:=fun c ⟨s,hs⟩=>by
    rcases hm s c hs with⟨rfl,rfl⟩ | ⟨_,hs⟩
    ·show _<w'.heap.size;rw[hw.size];omega
    ·exact Nat.lt_of_lt_of_le (hW c ⟨s,hs⟩) a6.size
   eQ:=fun c hc=>Nat.lt_of_lt_of_le (hX c hc) a6.size}
 ·intro s c hs
  obtain⟨fo,cA,hB,q1,q2,q3⟩:=bF s c hs
  exact⟨fo,cA,hB,q1,by show w'.heap[c]?=_;rw[hw.nK c (hX c ⟨s,hs⟩)];exact q2,q3.mono fun _ _ k=>k.le a6.le.bG⟩
theorem KO {E:Env} {H:List Blk} {L:List (Nat×List AV)} {w':World} {b:Nat} {x:Option Nat} {blk blk':Blk} (az:SimH E H) (bF:SimL E L)
  (hm:E.m b=some x) (hb:H[b]?=some blk) (aI:blk'.ba=blk.ba+1) (ka:blk'.sz=blk.sz)
  (aB:w'.os=E.w.os) (R1:w'.tape=E.w.tape) (RF:w'.output=E.w.output) (bX:w'.heap.size=E.w.heap.size)
  (hw: ∀c,x≠some c→w'.heap[c]?=E.w.heap[c]?)
  (hx: ∀c,x=some c→ ∃aM ty,w'.heap[c]?=some (.cells aM ty (0,0))∧aM.size=E.cp b*E.sz b∧blk'.rows.length≤E.cp b∧rT E (E.sz b) blk'.rows aM):
  ∃E',E'.w=w'∧Step E E'∧SimH E' (H.set b blk')∧SimL E' L∧E'.ba b=blk'.ba∧E'.m=E.m∧E'.sz=E.sz∧E'.cp=E.cp∧E'.mL=E.mL:=by
 let E':Env:={E with w:=w',ba:=fun bS=>if bS=b then blk'.ba else E.ba bS}
 have hU:=az.dJ b blk hb
 have b2: ∀c,E.PA c→x≠some c:=fun c hc e=>az.fV c hc ⟨b,by rw[hm,e]⟩
 have a6:Step E E':=
  {le:=⟨fun _ h=>h,fun _ h=>h,fun c hc=>hw c (b2 c hc),fun c hc=>hw c (b2 c (az.dc c hc)),fun bS=>by
     show _≤(if bS=b then _ else _)
     split
     ·rename_i e;subst e;omega
     ·exact Nat.le_refl _,fun bS y bm Rl=>by
     have mC:(if bS=b then blk'.ba else E.ba bS)=E.ba bS:=Rl
     have sx:bS≠b:=fun e=>by subst e;rw[if_pos rfl] at mC;omega
     exact⟨bm,rfl,rfl⟩,fun _ _ h=>h⟩
   os:=aB,tape:=R1,output:=RF
   size:=by show E.w.heap.size≤w'.heap.size;rw[bX];exact Nat.le_refl _
   dM:=fun c hc h1 _=>hw c (fun e=>h1 ⟨b,by rw[hm,e]⟩)
   gV:=fun _ _ h=> .inl h
   hr:=fun _ h=> .inl h
   ep:=fun _ h=> .inl h
   et:=fun _ h=> .inl h}
 have nt:b<H.length:=(List.getElem?_eq_some_iff.1 hb).1
 refine⟨E',rfl,a6,?_,?_,if_pos rfl,rfl,rfl,rfl,rfl⟩
 ·exact{az with
   heap:=fun s c hs=>by
    by_cases e:s=b
    ·subst e
     have G8:x=some c:=by
      have:E.m s=some (some c):=hs
      rw[hm] at this;exact Option.some.inj this
     obtain⟨tW,aab,aax,q1,cj,q⟩:=az.heap s c (by rw[hm,G8])
     obtain rfl:blk=tW:=by rw[hb] at q1;exact Option.some.inj q1
     obtain⟨aM,ty,h1,h2,aJ,bj⟩:=hx c G8
     exact⟨blk',aM,ty,by rw[List.getElem?_set_self nt],cj.trans ka.symm,h1,h2,aJ,bj.1,fun i j row a aw aC=>by
      obtain⟨u,hu,dL⟩:=bj.2 i j row a aw aC;exact⟨u,hu,dL.le a6.le.bG⟩⟩
    ·obtain⟨tW,cA,hB,q1,cj,q2,q3,q4,cw,cr⟩:=az.heap s c hs
     refine⟨tW,cA,hB,by rw[List.getElem?_set_ne (fun h=>e h.symm)];exact q1,cj,?_,q3,q4,cw,fun i j row a aw aC=> ?_⟩
     ·show w'.heap[c]?=_
      rw[hw c (fun h=>e (az.fR s b c hs (by rw[hm,h])))];exact q2
     ·obtain⟨u,hu,dL⟩:=cr i j row a aw aC
      exact⟨u,hu,dL.le a6.le.bG⟩
   dJ:=fun s y hs=>by
    by_cases e:s=b
    ·subst e;rw[List.getElem?_set_self nt] at hs;cases hs;exact if_pos rfl
    ·rw[List.getElem?_set_ne (fun h=>e h.symm)] at hs
     show(if s=b then _ else _)=_
     rw[if_neg e];exact az.dJ s y hs
   fz:=fun s hs=>by
    obtain⟨y,q1,q2⟩:=az.fz s hs
    by_cases e:s=b
    ·subst e
     obtain rfl:blk=y:=by rw[hb] at q1;exact Option.some.inj q1
     exact⟨blk',by rw[List.getElem?_set_self nt],q2.trans ka.symm⟩
    ·exact⟨y,by rw[List.getElem?_set_ne (fun h=>e h.symm)];exact q1,q2⟩
   fresh:=fun s hs=>by
    rw[List.length_set] at hs
    have e:s≠b:=by omega
    have:=az.fresh s hs
    exact⟨this.1,by show(if s=b then _ else _)=_;rw[if_neg e];exact this.2⟩
   df:=fun c hc=>Nat.lt_of_lt_of_le (az.df c hc) a6.size
   ed:=fun c hc=>Nat.lt_of_lt_of_le (az.ed c hc) a6.size
   eQ:=fun c hc=>Nat.lt_of_lt_of_le (az.eQ c hc) a6.size}
 ·intro s c hs
  obtain⟨fo,cA,hB,q1,q2,q3⟩:=bF s c hs
  refine⟨fo,cA,hB,q1,?_,q3.mono fun _ _ k=>k.le a6.le.bG⟩
  show w'.heap[c]?=_
  rw[hw c (fun e=>az.e7 b s c (by rw[hm,e]) hs)];exact q2
theorem x4 {E:Env} {H:List Blk} {L:List (Nat×List AV)} {blk:Blk} (az:SimH E H) (bF:SimL E L) (aI:blk.ba=0) (aw:blk.rows=[]):
  ∃E',E'.w=E.w∧Step E E'∧SimH E' (H++[blk])∧SimL E' L∧E'.ba H.length=0∧E'.m H.length=some none∧(∀b,b≠H.length→E'.m b=E.m b)∧E'.mL=E.mL:=by
 have hs:=az.snoc aI
 have ap:=az.fresh H.length (Nat.le_refl _)
 let E':Env:={E with m:=fun b=>if b=H.length then some none else E.m b,sz:=fun b=>if b=H.length then blk.sz else E.sz b}
 have og: ∀b c,E'.m b=some (some c)→E.m b=some (some c)∧b≠H.length:=by
  intro b c h
  have h:(if b=H.length then some none else E.m b)=some (some c):=h
  split at h
  ·cases h
  ·exact⟨h,by assumption⟩
 have a6:Step E E':=
  {le:=⟨fun _ h=>h,fun _ h=>h,fun _ _=>rfl,fun _ _=>rfl,fun _=>Nat.le_refl _,fun b x hx _=>by
     have b2:b≠H.length:=fun e=>by subst e;rw[ap.1] at hx;cases hx
     exact⟨by show(if b=H.length then _ else _)=_;rw[if_neg b2];exact hx,by show(if b=H.length then _ else _)=_;rw[if_neg b2],rfl⟩,fun _ _ h=>h⟩
   os:=rfl,tape:=rfl,output:=rfl,size:=Nat.le_refl _
   dM:=fun _ _ _ _=>rfl
   gV:=fun b c h=> .inl (og b c h).1
   hr:=fun _ h=> .inl h
   ep:=fun _ h=> .inl h
   et:=fun _ h=> .inl h}
 refine⟨E',rfl,a6,?_,fun s c hm=> ?_,ap.2,if_pos rfl,fun b hb=>if_neg hb,rfl⟩
 ·exact{hs with
   heap:=fun b c h=>by
    obtain⟨h,b2⟩:=og b c h
    obtain⟨tW,cA,hB,q1,cj,q2,q3,q4,cw,cr⟩:=hs.heap b c h
    have bX:E'.sz b=E.sz b:=if_neg b2
    exact⟨tW,cA,hB,q1,by rw[bX];exact cj,q2,by rw[bX];exact q3,q4,by rw[bX];exact cw,fun i j row a aw aC=>by
     obtain⟨u,hu,dL⟩:=cr i j row a aw aC
     exact⟨u,by rw[bX];exact hu,dL.le a6.le.bG⟩⟩
   fz:=fun b h=>by
    by_cases e:b=H.length
    ·subst e
     exact⟨blk,by simp,if_pos rfl⟩
    ·have h:E.m b=some none:=by
      have h:(if b=H.length then some none else E.m b)=some none:=h
      rwa [if_neg e] at h
     obtain⟨y,q1,q2⟩:=hs.fz b h
     exact⟨y,q1,by show(if b=H.length then _ else _)=_;rw[if_neg e];exact q2⟩
   fresh:=fun b h=>by
    have:=hs.fresh b h
    have e:b≠H.length:=by simp at h;omega
    exact⟨by show(if b=H.length then _ else _)=_;rw[if_neg e];exact this.1,this.2⟩
   fR:=fun b bS c h1 h2=>hs.fR b bS c (og b c h1).1 (og bS c h2).1
   e7:=fun b t c h1 h2=>hs.e7 b t c (og b c h1).1 h2
   fV:=fun c hc ⟨b,h⟩=>hs.fV c hc ⟨b,(og b c h).1⟩
   ed:=fun c ⟨b,h⟩=>hs.ed c ⟨b,(og b c h).1⟩}
 ·obtain⟨fo,cA,hB,q1,q2,q3⟩:=bF s c hm
  exact⟨fo,cA,hB,q1,q2,q3.mono fun _ _ k=>k.le a6.le.bG⟩
def vz (fr:Bool) (row:List AV):List AV:=match fr with
 | true=>row.map l6
 | false=>row
def jU (fr:Bool) (rows:List (List AV)):List (List AV):=match fr with
 | true=>rows.map fun row=>row.map l6
 | false=>rows
theorem W1 (fr:Bool) (rows:List (List AV)):jU fr rows=rows.map (vz fr):=by
 cases fr
 ·show rows=rows.map fun row=>row
  simp
 ·rfl
theorem W0 (fr:Bool) (row:List AV):(vz fr row).length=row.length:=by
 cases fr<;>simp[vz]
def rowsOf (H:List Blk) (x:AV):Option (List (List AV)):=match x with
 | .a8 rows _ fr=>some (jU fr rows)
 | .ref b g off n _=>(H[b]?).bind fun blk=>if blk.ba=g∧off+n≤blk.rows.length then some ((blk.rows.drop off).take n) else none
 | .str s=>some (s.data.toList.map fun c=>[.int .u8 c.toNat])
 | _=>none
def KU (H:List Blk) (x:AV) (K:List (List AV)→Prop):Prop:=match x with
 | .a8 rows _ fr=>K (jU fr rows)
 | .ref b g off n _=>ch H[b]? fun blk=>blk.ba=g∧off+n≤blk.rows.length∧K ((blk.rows.drop off).take n)
 | .str s=>K (s.data.toList.map fun c=>[.int .u8 c.toNat])
 | _=>False
theorem W8 {H:List Blk} {x:AV} {K:List (List AV)→Prop} (h:KU H x K): ∃bO,rowsOf H x=some bO∧K bO:=by
 cases x with
 | a8 rows full fr=>exact⟨_,rfl,h⟩
 | ref b g off n full=>
  obtain⟨blk,hb,h1,h2,aJ⟩:=ea (show ch H[b]? fun blk=>blk.ba=g∧off+n≤blk.rows.length∧K ((blk.rows.drop off).take n) from h)
  exact⟨_,by show(H[b]?).bind _=_;rw[hb];show(if blk.ba=g∧off+n≤blk.rows.length then _ else _)=_;rw[if_pos ⟨h1,h2⟩],aJ⟩
 | str s=>exact⟨_,rfl,h⟩
 | _=>exact h.elim
def p7 (P:Program) (e t2:TypeId) (x:AV):Bool:=match x with
 | .str _=>(match P.underlying t2 with
  | some .string=>(match P.underlying e with
   | some (.int .u8)=>P.cellsOf e==1
   | _=>false)
  | _=>false)
 | _=>(match P.underlying t2 with
  | some (.slice e2)=>e2==e
  | _=>false)
def pN (n:Nat) (bO:List (List AV)):Prop:= ∀row∈bO,row.length=n∧ ∀a∈row,hA a=true
abbrev lF (r:Type):Type:=AV→List (Nat×List AV)→List Blk→r
def p6 (P:Program) (t t2:TypeId) (s x:AV) (L:List (Nat×List AV)) (H:List Blk) (K:lF Prop):Prop:=
 ch (gU P t) fun e=>ch (kq P e) fun z=>if z.length=P.cellsOf e∧0<z.length∧p7 P e t2 x=true then KU H x fun bO=>
  pN z.length bO∧(match s with
  | .a8 rows full fr=>full=true∧(∀row∈rows,row.length=z.length)∧(rows.length+bO.length)*P.bytesOf e≤140737488355328∧rows.length+bO.length≤4611686018427387904∧(rows≠[]→bO≠[])∧
    K (.ref H.length 0 0 (rows.length+bO.length) false) L (H++[⟨0,z.length,rows++bO⟩])
  | .ref b g off n full=>off=0∧ch H[b]? fun blk=>blk.ba=g∧blk.sz=z.length∧blk.rows.length=n∧(n+bO.length)*P.bytesOf e≤140737488355328∧n+bO.length≤4611686018427387904∧
    K (.ref b (g+1) 0 (n+bO.length) false) L (H.set b ⟨g+1,z.length,blk.rows++bO⟩)
  | _=>False)
 else False
structure wq (P:Program) (E:Env) (t2:TypeId) (size:Nat) (bO:List (List AV)) (gF:Value) (news:List Value):Prop where
 len:news.length=bO.length*size
 rel: ∀(i j:Nat) (row:List AV) (a:AV),bO[i]?=some row→row[j]?=some a→ ∃u,news[i*size+j]?=some u∧bT E.bG a u∧u.oneCell'=true
 one: ∀u∈news,u.oneCell'=true
 num:(∃e2,P.underlying t2=some (.slice e2))∨P.underlying t2=some .string
 lenOf: ∀w,(Builtin.lenOf gF).run P w= .ok bO.length w
 cells: ∀w,(w=E.w∨w=E.w.drew)→(Builtin.firstCells size bO.length gF).run P w= .ok news.toArray w
theorem JS {size:Nat} {bO:List (List AV)} {news:List Value} {R:AV→Value→Prop} (ei: ∀row∈bO,row.length=size) (len:news.length=bO.length*size)
  (rel: ∀(i j:Nat) (row:List AV) (a:AV),bO[i]?=some row→row[j]?=some a→ ∃u,news[i*size+j]?=some u∧R a u∧u.oneCell'=true): ∀u∈news,u.oneCell'=true:=by
 intro u hu
 obtain⟨k,hk⟩:=List.mem_iff_getElem?.1 hu
 have jw:k<bO.length*size:=by rw[←len];exact(List.getElem?_eq_some_iff.1 hk).1
 have i_:0<size:=by
  rcases Nat.eq_zero_or_pos size with q | q
  ·rw[q,Nat.mul_zero] at jw;omega
  ·exact q
 have hi:k / size<bO.length:=(Nat.div_lt_iff_lt_mul i_).2 jw
 have dR:=List.getElem?_eq_getElem hi
 have hlen:(bO[k / size]).length=size:=ei _ (List.getElem_mem hi)
 have aC:k%size<(bO[k / size]).length:=by rw[hlen];exact Nat.mod_lt _ i_
 obtain⟨v,h1,h2,aJ⟩:=rel (k / size) (k%size) _ _ dR (List.getElem?_eq_getElem aC)
 rw[Nat.div_add_mod' k size,hk] at h1
 cases h1;exact aJ
theorem ZY {P:Program} {e t2:TypeId} {x:AV} {bO:List (List AV)} {E:Env} {H:List Blk} {gF:Value} {size:Nat} (az:SimH E H) (hx:V2 E x gF) (bX:size=P.cellsOf e) (bt:p7 P e t2 x=true)
  (aw:rowsOf H x=some bO) (ei:pN size bO): ∃news,wq P E t2 size bO gF news:=by
 have xB: ∀row∈bO,row.length=size:=fun row h=>(ei row h).1
 cases x with
 | a8 rows full fr=>
  have k5:jU fr rows=bO:=Option.some.inj aw
  have bi:bO=rows.map (vz fr):=by rw[←k5];exact W1 fr rows
  have xF:bO.length=rows.length:=by rw[bi,List.length_map]
  have nB: ∀row∈rows,row.length=size:=fun row h=>by
   rw[←W0 fr row];exact xB _ (by rw[bi];exact List.mem_map_of_mem h)
  have hu: ∃e2,P.underlying t2=some (.slice e2):=by
   unfold p7 at bt
   simp only at bt
   split at bt
   ·exact⟨_,by assumption⟩
   ·cases bt
  obtain⟨e2,hu⟩:=hu
  have hq:a1 E.w E.PA E.PF (.a8 rows full fr) gF:=hx
  cases hq with
  | @a8 _ _ PB _ _ _ A cap sz vs eh e5 fw uN dv hrel=>
   let news:List Value:=(List.range (rows.length*size)).map fun k=>vs (k / size) (k%size)
   have jy:news.length=rows.length*size:=by simp[news]
   have fx: ∀i j,i<rows.length→j<size→news[i*size+j]?=some (vs i j):=by
    intro i j hi aC
    have hk:i*size+j<rows.length*size:=by
     calc i*size+j<i*size+size:=by omega
      _=(i+1)*size:=by rw[Nat.add_mul,Nat.one_mul]
      _≤rows.length*size:=Nat.mul_le_mul_right _ (by omega)
    show((List.range (rows.length*size)).map _)[i*size+j]?=_
    rw[List.getElem?_map,List.getElem?_range hk]
    have h1:(i*size+j) / size=i:=by
     rw[Nat.add_comm,Nat.add_mul_div_right _ _ (by omega),Nat.div_eq_of_lt aC];omega
    have h2:(i*size+j)%size=j:=by
     rw[Nat.add_comm,Nat.add_mul_mod_self_right,Nat.mod_eq_of_lt aC]
    simp[h1,h2]
   have rel: ∀(i j:Nat) (row:List AV) (a:AV),bO[i]?=some row→row[j]?=some a→ ∃u,news[i*size+j]?=some u∧bT E.bG a u∧u.oneCell'=true:=by
    intro i j row a h1 h2
    have uM:=ei row (List.mem_of_getElem? h1)
    have aC:j<size:=by rw[←uM.1];exact(List.getElem?_eq_some_iff.1 h2).1
    have hs:=uM.2 a (List.mem_of_getElem? h2)
    rw[bi,List.getElem?_map] at h1
    cases ag:rows[i]? with
    | none=>rw[ag] at h1;cases h1
    | some ti=>
     rw[ag] at h1
     have h1:vz fr ti=row:=Option.some.inj h1
     have hH:bT E.bG a (vs i j):=by
      cases fr with
      | false=>
       have h1:ti=row:=h1
       subst h1
       exact a1.v1 (E:=E.bG) ((hrel i j ti a ag h2).mono (fun _ _=>rfl) (fun _ h=>h.elim) (fun c hc=>show E.PA c by have:=eh c hc;simpa using this) (fun _ h=>h.elim))
      | true=>
       have h1:ti.map l6=row:=h1
       subst h1
       rw[List.getElem?_map] at h2
       cases jz:ti[j]? with
       | none=>rw[jz] at h2;cases h2
       | some a0=>
        rw[jz] at h2
        have h2:l6 a0=a:=Option.some.inj h2
        subst h2
        exact a1.v1 (E:=E.bG) (WZ (hrel i j ti a0 ag jz) (fun c hc=>show E.PF c by have:=eh c hc;simpa using this) az.dc)
     exact⟨_,fx i j (List.getElem?_eq_some_iff.1 ag).1 aC,hH,hH.x_ hs⟩
   refine⟨news,by rw[xF];exact jy,rel,JS xB (by rw[xF];exact jy) rel,.inl ⟨_,hu⟩,fun w=>by rw[xF];rfl,fun w hw=> ?_⟩
   rw[xF]
   have AT: ∀a,w.cell? a=E.w.cell? a:=by rcases hw with rfl | rfl<;>intro a<;>rfl
   by_cases aH:rows.length=0
   ·have ap:news=[]:=List.eq_nil_of_length_eq_zero (by rw[jy,aH,Nat.zero_mul])
    rw[ap,aH]
    cases A with
    | none=>exact run_firstCells_none w size 0 _ _
    | some jl=>
     have:=run_firstCells_some (P:=P) w size 0 jl 0 cap [] (by simp) (fun j v h=>by simp at h)
     exact this
   ·obtain⟨c,o,rfl,hc,ds⟩:=dv (by omega)
    refine run_firstCells_some (P:=P) w size rows.length ⟨c,o,none⟩ rows.length cap news jy (fun k v hk=> ?_)
    have jw:k<rows.length*size:=by rw[←jy];exact(List.getElem?_eq_some_iff.1 hk).1
    have i_:0<size:=by
     rcases Nat.eq_zero_or_pos size with q | q
     ·rw[q,Nat.mul_zero] at jw;omega
     ·exact q
    have hi:k / size<rows.length:=(Nat.div_lt_iff_lt_mul i_).2 jw
    have aC:k%size<size:=Nat.mod_lt _ i_
    have G4:sz=size:=by
     have:=uN _ _ (List.getElem?_eq_getElem hi)
     rw[←this];exact nB _ (List.getElem_mem hi)
    have h1:=ds (k / size) (k%size) hi (by rw[G4];exact aC)
    have h2:=fx (k / size) (k%size) hi aC
    rw[Nat.div_add_mod' k size] at h2
    rw[hk] at h2
    cases h2
    rw[kZ,AT]
    rw[G4,Nat.div_add_mod' k size] at h1
    exact h1
 | ref b g off n full=>
  have hu: ∃e2,P.underlying t2=some (.slice e2):=by
   unfold p7 at bt
   simp only at bt
   split at bt
   ·exact⟨_,by assumption⟩
   ·cases bt
  obtain⟨e2,hu⟩:=hu
  have aw:((H[b]?).bind fun blk=>if blk.ba=g∧off+n≤blk.rows.length then some ((blk.rows.drop off).take n) else none)=some bO:=aw
  cases hb:H[b]? with
  | none=>simp[hb] at aw
  | some blk=>
   simp only[hb,Option.bind_some] at aw
   split at aw
   case isFalse=>cases aw
   case isTrue hc=>
   obtain⟨aI,po⟩:=hc
   cases aw
   have hU:=az.dJ b blk hb
   have mI:((blk.rows.drop off).take n).length=n:=by simp;omega
   have R8: ∀i row,((blk.rows.drop off).take n)[i]?=some row→blk.rows[off+i]?=some row:=by
    intro i row h
    rw[List.getElem?_take] at h
    split at h
    ·rw[List.getElem?_drop] at h;exact h
    ·cases h
   rcases(show dO E (.ref b g off n full) gF from hx) with⟨bH,_⟩ | ⟨eK,bH⟩
   ·omega
   ·rcases bH with⟨_,_,jx,A,rfl⟩ | ⟨c,cap,hm,rfl,lX,mA,nv⟩
    ·subst jx
     refine⟨[],by simp,fun i j row a h=>by simp at h,(fun u hu=>by cases hu),.inl ⟨_,hu⟩,fun w=>by simp;rfl,fun w hw=> ?_⟩
     rw[mI]
     cases A with
     | none=>exact run_firstCells_none w size 0 _ _
     | some jl=>exact run_firstCells_some (P:=P) w size 0 jl 0 0 [] (by simp) (fun j v h=>by simp at h)
    ·obtain⟨blk',aM,ty,q1,cj,hw,jM,lg,eO⟩:=az.heap b c hm
     obtain rfl:blk=blk':=by rw[hb] at q1;exact Option.some.inj q1
     by_cases jx:n=0
     ·subst jx
      refine⟨[],by simp,fun i j row a h=>by simp at h,(fun u hu=>by cases hu),.inl ⟨_,hu⟩,fun w=>by simp;rfl,fun w hw=> ?_⟩
      rw[mI]
      exact run_firstCells_some (P:=P) w size 0 _ 0 cap [] (by simp) (fun j v h=>by simp at h)
     ·have Bh:E.sz b=size:=by
       have aR:off<blk.rows.length:=by omega
       have aN:((blk.rows.drop off).take n)[0]?=some blk.rows[off]:=by
        rw[List.getElem?_take,if_pos (by omega),List.getElem?_drop,Nat.add_zero,List.getElem?_eq_getElem aR]
       rw[←eO.1 off _ (List.getElem?_eq_getElem aR)]
       exact xB _ (List.mem_of_getElem? aN)
      let news:List Value:=(aM.toList.drop (off*size)).take (n*size)
      have Q1:off*size+n*size≤aM.size:=by
       rw[jM,Bh,←Nat.add_mul];exact Nat.mul_le_mul_right _ (by omega)
      have jy:news.length=n*size:=by simp[news];omega
      have GP: ∀k,k<n*size→news[k]?=aM[off*size+k]?:=by
       intro k hk
       show((aM.toList.drop (off*size)).take (n*size))[k]?=_
       rw[List.getElem?_take,if_pos hk,List.getElem?_drop,Array.getElem?_toList]
      have rel: ∀(i j:Nat) (row:List AV) (a:AV),((blk.rows.drop off).take n)[i]?=some row→row[j]?=some a→ ∃u,news[i*size+j]?=some u∧bT E.bG a u∧u.oneCell'=true:=by
       intro i j row a h1 h2
       have uM:=ei row (List.mem_of_getElem? h1)
       have aC:j<size:=by rw[←uM.1];exact(List.getElem?_eq_some_iff.1 h2).1
       have hi:i<n:=by have:=(List.getElem?_eq_some_iff.1 h1).1;rw[mI] at this;exact this
       obtain⟨u,pr,sD⟩:=eO.2 (off+i) j row a (R8 i row h1) h2
       have hk:i*size+j<n*size:=by
        calc i*size+j<i*size+size:=by omega
         _=(i+1)*size:=by rw[Nat.add_mul,Nat.one_mul]
         _≤n*size:=Nat.mul_le_mul_right _ (by omega)
       refine⟨u,?_,sD,sD.x_ (uM.2 a (List.mem_of_getElem? h2))⟩
       rw[GP _ hk,←pr,Bh]
       congr 1
       rw[Nat.add_mul];omega
      refine⟨news,by rw[mI];exact jy,rel,JS xB (by rw[mI];exact jy) rel,.inl ⟨_,hu⟩,fun w=>by rw[mI];rfl,fun w e6=> ?_⟩
      have AT: ∀a,w.cell? a=E.w.cell? a:=by rcases e6 with rfl | rfl<;>intro a<;>rfl
      rw[mI]
      refine run_firstCells_some (P:=P) w size n _ n cap news jy (fun k v hk=> ?_)
      have jw:k<n*size:=by rw[←jy];exact(List.getElem?_eq_some_iff.1 hk).1
      rw[GP k jw] at hk
      rw[kZ,AT,Bh]
      exact cell_of hw hk
 | str s=>
  obtain rfl:=V3.tu (jk hx)
  cases aw
  unfold p7 at bt
  simp only at bt
  split at bt
  case h_2=>cases bt
  case h_1 hu=>
  split at bt
  case h_2=>cases bt
  case h_1 he=>
  have ej:size=1:=by rw[bX];simpa using bt
  subst ej
  have uO:s.data.toList.length=s.size:=by simp
  refine⟨s.data.toList.map fun c=> .int .u8 c.toNat,by simp,fun i j row a h1 h2=> ?_,fun u hu=> ?_,.inr hu,fun w=> ?_,fun w hw=> ?_⟩
  ·rw[List.getElem?_map] at h1
   cases hc:s.data.toList[i]? with
   | none=>rw[hc] at h1;cases h1
   | some c=>
    rw[hc] at h1
    cases h1
    have uD:j=0:=by have:=(List.getElem?_eq_some_iff.1 h2).1;simp at this;omega
    subst uD
    cases h2
    exact⟨.int .u8 c.toNat,by rw[List.getElem?_map,Nat.mul_one,Nat.add_zero,hc];rfl,a1.int _ _,rfl⟩
  ·obtain⟨c,_,rfl⟩:=List.mem_map.1 hu;rfl
  ·show Result.ok s.size w=_
   rw[List.length_map,uO]
  ·rw[List.length_map,uO]
   show Result.ok ((s.extract 0 s.size).data.map fun b=>Value.int .u8 b.toNat) w=_
   congr 1
   apply Array.ext'
   simp
 | _=>cases aw
section
variable {P:Program} {E:Env} {t t2 ty e:TypeId} {size:Nat} {bO:List (List AV)} {gF:Value} {news:List Value}
theorem KV (X:wq P E t2 size bO gF news) (bt:P.underlying t=some (.slice e)) (hi:(P.info? e).isSome=true) (bX:P.cellsOf e=size) {base:Option Addr} {sLen sCap:Nat} (ap:bO.length=0) (hc:sLen≤sCap):
  (Builtin.append_ #[t,t2] ty #[.slice base sLen sCap,gF]).run P E.w= .ok (.slice base sLen sCap) E.w:=by
 have aE:=X.lenOf E.w
 have hf:=X.cells E.w (.inl rfl)
 have Ru:news=[]:=List.eq_nil_of_length_eq_zero (by rw[X.len,ap,Nat.zero_mul])
 subst Ru
 rw[ap] at aE hf
 rcases X.num with⟨e2,hu⟩ | hu<;>
  (simp[Builtin.append_,run_underlying bt,run_underlying hu,run_sizeOf hi,bX,aE,hc,hf]
   cases base<;>simp[storeCells])
theorem Xb (X:wq P E t2 size bO gF news) (bt:P.underlying t=some (.slice e)) (hi:(P.info? e).isSome=true) (bX:P.cellsOf e=size) {g o sLen sCap:Nat} {fe:Array Value} {ce:TypeId}
  (aI:E.w.heap[g]?=some (.cells fe ce (0,0))) (sB:sLen+bO.length≤sCap) (pf:o+sLen*size+news.length≤fe.size):
  (Builtin.append_ #[t,t2] ty #[.slice (some ⟨g,o,none⟩) sLen sCap,gF]).run P E.w= .ok (.slice (some ⟨g,o,none⟩) (sLen+bO.length) sCap) (E.w.setRow g (fe.toList.take (o+sLen*size)++news++fe.toList.drop (o+sLen*size+news.length)).toArray):=by
 have aE:=X.lenOf E.w
 have hf:=X.cells E.w (.inl rfl)
 have a6:=run_storeCells_at (P:=P) g (o+sLen*size) ce news 0 fe E.w aI (by simpa using pf) X.one
 simp only[Nat.add_zero] at a6
 rcases X.num with⟨e2,hu⟩ | hu<;>
  simp[Builtin.append_,run_underlying bt,run_underlying hu,run_sizeOf hi,bX,aE,sB,hf,kZ,a6]
theorem Xc (X:wq P E t2 size bO gF news) (bt:P.underlying t=some (.slice e)) {i:TypeInfo} (hi:P.info? e=some i) (bX:i.size=size) {z:Value} (aH:i.zero=some z) {base:Option Addr} {sLen sCap:Nat} {h3:Array Value}
  (holds:(Builtin.firstCells size sLen (.slice base sLen sCap)).run P E.w.drew= .ok h3 E.w.drew) (aI:sCap<sLen+bO.length) (xi:((sLen+bO.length:Nat):Int)≤9223372036854775807)
  (pf:Builtin.nextslicecap (sLen+bO.length) sCap*i.bytes≤281474976710656):
  (Builtin.append_ #[t,t2] ty #[.slice base sLen sCap,gF]).run P E.w= .ok (.slice (some ⟨E.w.heap.size,0,none⟩) (sLen+bO.length) (grownCap E.w (sLen+bO.length) sCap e))
   (E.w.drew.alloc (.cells (h3++news.toArray++Builtin.zeroCells z.cells (grownCap E.w (sLen+bO.length) sCap e - (sLen+bO.length))) e)):=by
 have aE:=X.lenOf E.w
 have hf:=X.cells E.w.drew (.inr rfl)
 subst bX
 have ap: ¬(sLen+bO.length≤sCap):=by omega
 have QL: ¬(9223372036854775807<((sLen:Int)+(bO.length:Int))):=by omega
 have QK: ¬(281474976710656<Builtin.nextslicecap (sLen+bO.length) sCap*i.bytes):=by omega
 rcases X.num with⟨e2,hu⟩ | hu<;>
  simp[Builtin.append_,run_underlying bt,run_underlying hu,sizeOf,typeInfo,zeroValue,hi,aH,aE,ap,QL,QK,Question.forced,hf,holds,newRow,grownCap]
end
theorem NE {P:Program} {t t2 ty:TypeId} {s x:AV} {L:List (Nat×List AV)} {H:List Blk} {K:AV→List (Nat×List AV)→List Blk→Prop} {E:Env} {tz gF:Value}
  (az:SimH E H) (bF:SimL E L) (hs:V2 E s tz) (hx:V2 E x gF) (h:p6 P t t2 s x L H K):
  ∃r u H' E',K r L H'∧(Builtin.append_ #[t,t2] ty #[tz,gF]).run P E.w= .ok u E'.w∧Step E E'∧SimH E' H'∧SimL E' L∧V3 E' r u∧E'.mL=E.mL:=by
 obtain⟨e,he,h⟩:=ea h
 obtain⟨z,aH,h⟩:=ea h
 have bt:=o2 he
 split at h
 case isFalse=>exact h.elim
 case isTrue hc=>
 obtain⟨lk,i_,my⟩:=hc
 obtain⟨bO,xM,ei,h⟩:=W8 h
 obtain⟨i,rM,hi,qI,oq,qH⟩:=rL (E:=E.bG) aH
 obtain⟨news,X⟩:=ZY az hx lk my xM ei
 have uC:(P.info? e).isSome=true:=by rw[hi];rfl
 have st:i.size=z.length:=by rw[lk];simp[Program.cellsOf,hi]
 have ss:i.bytes=P.bytesOf e:=by simp[Program.bytesOf,hi]
 have Sd:rM.cells.size=z.length:=by rw[oq];simp

 have out: ∀(base:Option Addr) (rows:List (List AV)) (sCap:Nat) (h3:Array Value) (b g:Nat) (H':List Blk),tz= .slice base rows.length sCap→
   (Builtin.firstCells z.length rows.length (.slice base rows.length sCap)).run P E.w.drew= .ok h3 E.w.drew→h3.size=rows.length*z.length→
   (∀row∈rows,row.length=z.length)→(∀(i j:Nat) (row:List AV) (a:AV),rows[i]?=some row→row[j]?=some a→ ∃u,h3[i*z.length+j]?=some u∧bT E.bG a u)→
   sCap<rows.length+bO.length→(rows.length+bO.length)*P.bytesOf e≤140737488355328→rows.length+bO.length≤4611686018427387904→
   H'[b]?=some ⟨g,z.length,rows++bO⟩→(∀bS,bS≠b→H'[bS]?=H[bS]?)→(b<H.length→H'.length=H.length)→H.length≤H'.length→((E.m b=none∧g=E.ba b)∨E.ba b<g)→
   K (.ref b g 0 (rows.length+bO.length) false) L H'→ ∃r u H' E',K r L H'∧(Builtin.append_ #[t,t2] ty #[tz,gF]).run P E.w= .ok u E'.w∧Step E E'∧SimH E' H'∧SimL E' L∧V3 E' r u∧E'.mL=E.mL:=by
  intro base rows sCap h3 b g H' RW holds GR nB RE sB hby hp dK aB hlen GI hU hK
  subst RW
  have ey:=Xc (ty:=ty) X bt hi st qI holds sB (by omega) (growslice_fits (by omega) (by rw[ss];exact hby))
  have AR:=grownCap_ge E.w (rows.length+bO.length) sCap e
  let cap:=grownCap E.w (rows.length+bO.length) sCap e
  let aM:Array Value:=h3++news.toArray++Builtin.zeroCells rM.cells (cap - (rows.length+bO.length))
  have jM:aM.size=cap*z.length:=by
   show(h3++news.toArray++Builtin.zeroCells rM.cells (cap - (rows.length+bO.length))).size=_
   have bi:(h3++news.toArray++Builtin.zeroCells rM.cells (cap - (rows.length+bO.length))).size=h3.size+news.length+(Builtin.zeroCells rM.cells (cap - (rows.length+bO.length))).size:=by simp;omega
   rw[bi,size_zeroCells,Sd,GR,X.len,←Nat.add_mul,←Nat.add_mul]
   congr 1
   have:rows.length+bO.length≤cap:=AR
   omega
  have eO:rT E z.length (rows++bO) aM:=by
   refine⟨fun k row aw=> ?_,fun k j row a aw aC=> ?_⟩
   ·rcases Nat.lt_or_ge k rows.length with aR | eK
    ·rw[List.getElem?_append_left aR] at aw;exact nB row (List.mem_of_getElem? aw)
    ·rw[List.getElem?_append_right eK] at aw;exact(ei row (List.mem_of_getElem? aw)).1
   ·rcases Nat.lt_or_ge k rows.length with aR | eK
    ·rw[List.getElem?_append_left aR] at aw
     obtain⟨u,hu,hv⟩:=RE k j row a aw aC
     refine⟨u,?_,hv⟩
     have jw:=(Array.getElem?_eq_some_iff.1 hu).1
     show(h3++news.toArray++_)[k*z.length+j]?=_
     rw[Array.getElem?_append_left (by rw[Array.size_append];omega),Array.getElem?_append_left jw];exact hu
    ·rw[List.getElem?_append_right eK] at aw
     obtain⟨u,hu,hv,_⟩:=X.rel _ j row a aw aC
     refine⟨u,?_,hv⟩
     have jw:=(List.getElem?_eq_some_iff.1 hu).1
     have li:k*z.length+j=h3.size+((k - rows.length)*z.length+j):=by
      rw[GR,←Nat.add_assoc,←Nat.add_mul];congr 2;omega
     show(h3++news.toArray++_)[k*z.length+j]?=_
     rw[li,Array.getElem?_append_left (by simp;omega),Array.getElem?_append_right (by omega),Nat.add_sub_cancel_left]
     simpa using hu
  obtain⟨E',hw,a6,oj,ol,mC,kD,lj,xo,_,hml⟩:=sT (cap:=cap) (blk:=⟨g,z.length,rows++bO⟩) az bF (ks.OY E.w (.cells aM e (0,0))) dK aB hlen GI hU jM (by
   show(rows++bO).length≤cap
   rw[List.length_append];exact AR) eO
  refine⟨_,_,_,E',hK,by rw[hw];exact ey,a6,oj,ol,.inr ⟨mC.symm,.inr ⟨_,_,kD,?_,AR,(fun h=>by cases h),?_⟩⟩,hml⟩
  ·rw[Nat.zero_mul]
  ·rw[xo,Nat.zero_add];exact Nat.le_refl _
 cases s with
 | a8 rows full fr=>
  obtain⟨fw,nB,hby,hp,b2,hK⟩:=h
  subst fw
  have lj:a1 E.w E.PA E.PF (.a8 rows true fr) tz:=hs
  cases lj with
  | @a8 _ _ PB _ _ _ A cap sz vs eh e5 fw bX dv hrel=>
   have Q4:=fw rfl
   subst Q4
   by_cases mH:bO.length=0
   ·have xN:bO=[]:=List.eq_nil_of_length_eq_zero mH
    have nA:rows=[]:=Classical.byContradiction fun bH=>b2 bH xN
    subst nA;subst xN
    obtain⟨E',hw,a6,oj,ol,mC,kD,_,hml⟩:=x4 (blk:=⟨0,z.length,[]++[]⟩) az bF rfl rfl
    have ey:=KV (ty:=ty) X bt uC lk.symm (base:=A) (sLen:=0) (sCap:=0) rfl (Nat.le_refl _)
    exact⟨_,_,_,E',hK,by rw[hw];exact ey,a6,oj,ol,.inr ⟨mC.symm,.inl ⟨kD,rfl,rfl,A,rfl⟩⟩,hml⟩
   ·have RZ:0<rows.length→sz=z.length:=fun ak=>by
     rw[←bX 0 _ (List.getElem?_eq_getElem ak)];exact nB _ (List.getElem_mem ak)
    let h3:List Value:=(List.range (rows.length*z.length)).map fun k=>vs (k / z.length) (k%z.length)
    have uJ:h3.length=rows.length*z.length:=by simp[h3]
    have fx: ∀i j,i<rows.length→j<z.length→h3[i*z.length+j]?=some (vs i j):=by
     intro i j hi aC
     have hk:i*z.length+j<rows.length*z.length:=by
      calc i*z.length+j<i*z.length+z.length:=by omega
       _=(i+1)*z.length:=by rw[Nat.add_mul,Nat.one_mul]
       _≤rows.length*z.length:=Nat.mul_le_mul_right _ (by omega)
     show((List.range (rows.length*z.length)).map _)[i*z.length+j]?=_
     rw[List.getElem?_map,List.getElem?_range hk]
     have h1:(i*z.length+j) / z.length=i:=by
      rw[Nat.add_comm,Nat.add_mul_div_right _ _ (by omega),Nat.div_eq_of_lt aC];omega
     have h2:(i*z.length+j)%z.length=j:=by
      rw[Nat.add_comm,Nat.add_mul_mod_self_right,Nat.mod_eq_of_lt aC]
     simp[h1,h2]
    refine out A rows rows.length h3.toArray H.length 0 _ rfl ?_ (by simp[uJ]) nB (fun i j row a h1 h2=> ?_) (by omega) hby hp (by simp) (fun bS dK=> ?_) (fun bH=>by omega) (by simp) (.inl ⟨(az.fresh _ (Nat.le_refl _)).1,(az.fresh _ (Nat.le_refl _)).2.symm⟩) hK
    ·by_cases nA:rows.length=0
     ·have aN:h3=[]:=List.eq_nil_of_length_eq_zero (by rw[uJ,nA,Nat.zero_mul])
      rw[aN,nA]
      cases A with
      | none=>exact run_firstCells_none _ _ _ _ _
      | some jl=>exact run_firstCells_some (P:=P) _ z.length 0 jl 0 0 [] (by simp) (fun j v h=>by simp at h)
     ·obtain⟨c,o,rfl,hc,ds⟩:=dv (by omega)
      refine run_firstCells_some (P:=P) E.w.drew z.length rows.length ⟨c,o,none⟩ rows.length rows.length h3 uJ (fun k v hk=> ?_)
      have jw:k<rows.length*z.length:=by rw[←uJ];exact(List.getElem?_eq_some_iff.1 hk).1
      have hi:k / z.length<rows.length:=(Nat.div_lt_iff_lt_mul i_).2 jw
      have aC:k%z.length<z.length:=Nat.mod_lt _ i_
      have G2:=RZ (by omega)
      have h1:=ds (k / z.length) (k%z.length) hi (by rw[G2];exact aC)
      have h2:=fx (k / z.length) (k%z.length) hi aC
      rw[Nat.div_add_mod' k z.length] at h2
      rw[hk] at h2
      cases h2
      rw[G2,Nat.div_add_mod' k z.length] at h1
      rw[kZ]
      exact h1
    ·have hi:=(List.getElem?_eq_some_iff.1 h1).1
     have aC:j<z.length:=by rw[←nB row (List.mem_of_getElem? h1)];exact(List.getElem?_eq_some_iff.1 h2).1
     refine⟨vs i j,by simpa using fx i j hi aC,a1.v1 (E:=E.bG) ((hrel i j row a h1 h2).mono (fun _ _=>rfl) (fun _ h=>h.elim) (fun c hc=>by have:=eh c hc;split at this;exact az.dc c this;exact this) (fun _ h=>h.elim))⟩
    ·rcases Nat.lt_or_ge bS H.length with aR | eK
     ·rw[List.getElem?_append_left aR]
     ·rw[List.getElem?_eq_none eK,List.getElem?_eq_none (by simp;omega)]
 | ref b g off n full=>
  replace h:off=0∧ch H[b]? fun blk=>blk.ba=g∧blk.sz=z.length∧blk.rows.length=n∧(n+bO.length)*P.bytesOf e≤140737488355328∧n+bO.length≤4611686018427387904∧
    K (.ref b (g+1) 0 (n+bO.length) false) L (H.set b ⟨g+1,z.length,blk.rows++bO⟩):=h
  obtain⟨Rz,ag⟩:=h
  obtain⟨blk,hb,aI,ka,gl,hby,hp,hK⟩:=ea ag
  clear ag
  subst Rz
  have hU:=az.dJ b blk hb
  have nt:b<H.length:=(List.getElem?_eq_some_iff.1 hb).1
  subst gl
  rcases(show dO E (.ref b g 0 blk.rows.length full) tz from hs) with⟨bH,_⟩ | ⟨eK,bH⟩
  ·omega
  ·rcases bH with⟨hm,_,jx,A,rfl⟩ | ⟨c,cap,hm,rfl,lX,mA,nv⟩
   ·
    by_cases mH:bO.length=0
    ·have xN:bO=[]:=List.eq_nil_of_length_eq_zero mH
     subst xN
     obtain⟨E',hw,a6,oj,ol,mC,kD,uN,xo,hml⟩:=KO (w':=E.w) (x:=none) (blk':=⟨g+1,z.length,blk.rows++[]⟩) az bF hm hb (by show g+1=_;rw[aI]) ka.symm rfl rfl rfl rfl (fun _ _=>rfl) (fun c hc=>by cases hc)
     have ey:=KV (ty:=ty) X bt uC lk.symm (base:=A) (sLen:=0) (sCap:=0) rfl (Nat.le_refl _)
     refine⟨_,_,_,E',hK,by rw[hw];exact ey,a6,oj,ol,.inr ⟨mC.symm,.inl ⟨by rw[kD];exact hm,rfl,by simp[jx],A,rfl⟩⟩,hml⟩
    ·have nA:blk.rows=[]:=List.eq_nil_of_length_eq_zero jx
     refine out A blk.rows 0 #[] b (g+1) _ (by rw[nA];rfl) ?_ (by rw[nA];simp) (fun row aw=>by rw[nA] at aw;cases aw) (fun i j row a h1 h2=>by rw[nA] at h1;simp at h1) (by omega) hby hp (by rw[List.getElem?_set_self nt]) (fun bS dK=>List.getElem?_set_ne (fun h=>dK h.symm)) (fun _=>by simp) (by simp) (.inr (by omega)) hK
     rw[nA]
     cases A with
     | none=>exact run_firstCells_none _ _ _ _ _
     | some jl=>exact run_firstCells_some (P:=P) _ z.length 0 jl 0 0 [] (by simp) (fun j v h=>by simp at h)
   ·obtain⟨blk',aM,hB,q1,cj,hw,jM,lg,eO⟩:=az.heap b c hm
    obtain rfl:blk=blk':=by rw[hb] at q1;exact Option.some.inj q1
    have bX:E.sz b=z.length:=by rw[cj,ka]
    by_cases sB:blk.rows.length+bO.length≤cap
    ·
     have Q8:aM.size=E.cp b*z.length:=by rw[jM,bX]
     have hle:(blk.rows.length+bO.length)*z.length≤aM.size:=by rw[Q8];exact Nat.mul_le_mul_right _ (by omega)
     have GH:blk.rows.length*z.length+news.length≤aM.size:=by rw[X.len,←Nat.add_mul];exact hle
     have ey:=Xb (ty:=ty) (o:=0) X bt uC lk.symm hw sB (by rw[Nat.zero_add];exact GH)
     rw[Nat.zero_add] at ey
     let cA:Array Value:=(aM.toList.take (blk.rows.length*z.length)++news++aM.toList.drop (blk.rows.length*z.length+news.length)).toArray
     have Gm: ∀k,cA[k]?=if k<blk.rows.length*z.length then aM.toList[k]? else if k<blk.rows.length*z.length+news.length then news[k - blk.rows.length*z.length]? else aM.toList[k]?:=by
      intro k
      show(List.toArray _)[k]?=_
      rw[List.getElem?_toArray,ts (by simpa using GH)]
     obtain⟨E',e6,a6,oj,ol,mC,kD,uN,xo,hml⟩:=KO (w':=E.w.setRow c cA) (x:=some c) (blk':=⟨g+1,z.length,blk.rows++bO⟩) az bF hm hb (by show g+1=_;rw[aI]) ka.symm rfl rfl rfl (by simp)
      (fun ci nu=>setRow_other _ _ _ _ (fun e=>nu (by rw[e]))) (fun ci nu=>by
       cases nu
       refine⟨cA,hB,setRow_heap _ _ _ _ _ _ hw,?_,by show(blk.rows++bO).length≤_;rw[List.length_append];omega,fun k row aw=> ?_,fun k j row a aw aC=> ?_⟩
       ·rw[←jM]
        show(List.toArray _).size=_
        simp;omega
       ·have aw:(blk.rows++bO)[k]?=some row:=aw
        rcases Nat.lt_or_ge k blk.rows.length with aR | xr
        ·rw[List.getElem?_append_left aR] at aw;exact eO.1 k row aw
        ·rw[List.getElem?_append_right xr] at aw;rw[bX];exact(ei row (List.mem_of_getElem? aw)).1
       ·have aw:(blk.rows++bO)[k]?=some row:=aw
        rcases Nat.lt_or_ge k blk.rows.length with aR | xr
        ·rw[List.getElem?_append_left aR] at aw
         obtain⟨u,hu,hv⟩:=eO.2 k j row a aw aC
         refine⟨u,?_,hv⟩
         have ph:j<z.length:=by rw[←bX,←eO.1 k row aw];exact(List.getElem?_eq_some_iff.1 aC).1
         have:k*z.length+j<blk.rows.length*z.length:=by
          calc k*z.length+j<k*z.length+z.length:=by omega
           _=(k+1)*z.length:=by rw[Nat.add_mul,Nat.one_mul]
           _≤blk.rows.length*z.length:=Nat.mul_le_mul_right _ (by omega)
         rw[bX] at hu ⊢
         rw[Gm,if_pos this];simpa using hu
        ·rw[List.getElem?_append_right xr] at aw
         obtain⟨u,hu,hv,_⟩:=X.rel _ j row a aw aC
         refine⟨u,?_,hv⟩
         have jw:=(List.getElem?_eq_some_iff.1 hu).1
         have li:k*z.length+j=blk.rows.length*z.length+((k - blk.rows.length)*z.length+j):=by
          rw[←Nat.add_assoc,←Nat.add_mul];congr 2;omega
         rw[bX,Gm,li,if_neg (by omega),if_pos (by omega),Nat.add_sub_cancel_left];exact hu)
     refine⟨_,_,_,E',hK,by rw[e6];rw[Nat.zero_mul];exact ey,a6,oj,ol,.inr ⟨mC.symm,.inr ⟨c,cap,by rw[kD];exact hm,by simp,sB,(fun h=>by cases h),by rw[xo];omega⟩⟩,hml⟩
    ·
     refine out (some ⟨c,0,none⟩) blk.rows cap (aM.toList.take (blk.rows.length*z.length)).toArray b (g+1) _ (by rw[Nat.zero_mul]) ?_ ?_ (fun row aw=> ?_) (fun i j row a h1 h2=> ?_) (by omega) hby hp (by rw[List.getElem?_set_self nt]) (fun bS dK=>List.getElem?_set_ne (fun h=>dK h.symm)) (fun _=>by simp) (by simp) (.inr (by omega)) hK
     ·refine run_firstCells_some (P:=P) E.w.drew z.length blk.rows.length ⟨c,0,none⟩ blk.rows.length cap _ ?_ (fun k v hk=> ?_)
      ·have:blk.rows.length*z.length≤aM.size:=by rw[jM,bX];exact Nat.mul_le_mul_right _ lg
       simp;omega
      ·rw[List.getElem?_take] at hk
       split at hk
       ·rw[kZ,Nat.zero_add]
        exact cell_of (w:=E.w) hw (by simpa using hk)
       ·cases hk
     ·have:blk.rows.length*z.length≤aM.size:=by rw[jM,bX];exact Nat.mul_le_mul_right _ lg
      simp;omega
     ·obtain⟨k,hk⟩:=List.mem_iff_getElem?.1 aw
      rw[←bX];exact eO.1 k row hk
     ·obtain⟨u,hu,hv⟩:=eO.2 i j row a h1 h2
      refine⟨u,?_,hv⟩
      have hi:=(List.getElem?_eq_some_iff.1 h1).1
      have aC:j<z.length:=by rw[←bX,←eO.1 i row h1];exact(List.getElem?_eq_some_iff.1 h2).1
      have:i*z.length+j<blk.rows.length*z.length:=by
       calc i*z.length+j<i*z.length+z.length:=by omega
        _=(i+1)*z.length:=by rw[Nat.add_mul,Nat.one_mul]
        _≤blk.rows.length*z.length:=Nat.mul_le_mul_right _ (by omega)
      rw[List.getElem?_toArray,List.getElem?_take,if_pos this,Array.getElem?_toList,←bX]
      exact hu
 | _=>exact h.elim
def y4 (E:Env) (o:Oper) (a:Act) (K:lF Prop):Act→World→Prop:=fun gB w'=>
 ∃v u L' H' E',K v L' H'∧E'.w=w'∧Step E E'∧SimH E' H'∧SimL E' L'∧V3 E' v u∧gB=a.put o.dst u∧ ∀t,o.dst≠some t→E'.mL t=E.mL t
def wH:List Nat→Nat→Option Nat
 | [],_=>none
 | x::r,t=>match Nat.ble 2000000 x with
  | true=>(match Nat.beq ((x - 2000000)%1000) t with
   | true=>some ((x - 2000000) / 1000)
   | false=>wH r t)
  | false=>wH r t
def qS (esc:List Nat) (dst:Option Nat) (cells:List AV) (L:List (Nat×List AV)) (H:List Blk) (K:lF Prop):Prop:=
 if cells.all hA=true then match dst with
  | none=>False
  | some t=>match wH esc t with
   | some j=>ch H[j]? fun blk=>K (.ptr j (blk.ba+1) 0 0) L (H.set j ⟨blk.ba+1,cells.length,[cells]⟩)
   | none=>if esc.contains t=true then K (.ptr H.length 0 0 0) L (H++[⟨0,cells.length,[cells]⟩]) else
    match dm L t with
    | none=>K (.dZ t 0) ((t,cells)::L) H
    | some _=>False
 else False
theorem SimL.none {E:Env} {L:List (Nat×List AV)} (h:SimL E L) {t:Nat} (ap:dm L t=none):E.mL t=none:=by
 cases hm:E.mL t with
 | none=>rfl
 | some c=>
  obtain⟨cells,aM,ty,h1,_⟩:=h t c hm
  rw[ap] at h1;cases h1
theorem DH {E:Env} {cells:List AV} {vs:List Value} (hs:cells.all hA=true) (h:aK (bT E) cells vs):aK (bT E.bG) cells vs:=
 ⟨h.1,fun i a v aL hv=>DG (List.all_eq_true.1 hs a (List.mem_of_getElem? aL)) (h.2 i a v aL hv)⟩
theorem JG {E:Env} {H:List Blk} {L:List (Nat×List AV)} {esc:List Nat} {dst:Option Nat} {cells:List AV} {aM:Array Value} {ty:TypeId} {K:AV→List (Nat×List AV)→List Blk→Prop}
  (az:SimH E H) (bF:SimL E L) (hc:aK (bT E) cells aM.toList) (h:qS esc dst cells L H K):
  ∃v L' H' E',K v L' H'∧E'.w=E.w.alloc (.cells aM ty (0,0))∧Step E E'∧SimH E' H'∧SimL E' L'∧V3 E' v (.pointer (some ⟨E.w.heap.size,0,none⟩))∧ ∀s,dst≠some s→E'.mL s=E.mL s:=by
 unfold qS at h
 split at h
 case isFalse=>exact h.elim
 case isTrue hs=>
 have nu:=DH hs hc
 cases dst with
 | none=>exact h.elim
 | some t=>
  have h:match wH esc t with
   | some j=>ch H[j]? fun blk=>K (.ptr j (blk.ba+1) 0 0) L (H.set j ⟨blk.ba+1,cells.length,[cells]⟩)
   | none=>if esc.contains t=true then K (.ptr H.length 0 0 0) L (H++[⟨0,cells.length,[cells]⟩]) else(match dm L t with
    | none=>K (.dZ t 0) ((t,cells)::L) H
    | some _=>False):=h
  split at h
  ·rename_i j Q3
   obtain⟨blk,uw,hK⟩:=ea h
   have ph:=(List.getElem?_eq_some_iff.1 uw).1
   have Rj:=az.dJ j blk uw
   have hlen:aM.size=cells.length:=by have:=hc.1;simp at this;exact this.symm
   obtain⟨E',bi,e2,cE,gI,hl,mm,wV,qb,_,hml⟩:=sT (H:=H) (H':=H.set j ⟨blk.ba+1,cells.length,[cells]⟩) (b:=j) (cap:=1) (blk:=⟨blk.ba+1,cells.length,[cells]⟩) az bF (ks.alloc E.w (.cells aM ty (0,0)))
    (by rw[List.getElem?_set];simp[ph]) (fun bS dK=>by rw[List.getElem?_set,if_neg (fun e=>dK e.symm)]) (fun _=>by simp) (by simp) (.inr (by show E.ba j<blk.ba+1;omega)) (by simp[hlen]) (by simp)
    ⟨fun i row aw=>by
      cases i with
      | zero=>simp at aw;subst aw;rfl
      | succ i=>simp at aw,
     fun i j row a aw aC=>by
      cases i with
      | zero=>
       simp at aw;subst aw
       obtain⟨u,hu,hv⟩:=nu.get aC
       exact⟨u,by simpa using hu,hv⟩
      | succ i=>simp at aw⟩
   refine⟨_,_,_,E',hK,bi,e2,cE,gI,.inr ⟨hl.symm,E.w.heap.size,mm,?_⟩,fun s _=>by rw[hml]⟩
   rw[Nat.zero_mul]
  split at h
  ·have hlen:aM.size=cells.length:=by have:=hc.1;simp at this;exact this.symm
   have ul:SimH E (H++[⟨0,cells.length,[cells]⟩]):=az.snoc rfl
   obtain⟨sw,oe⟩:=az.fresh H.length (Nat.le_refl _)
   obtain⟨E',bi,e2,cE,gI,hl,mm,wV,qb,_,hml⟩:=sT (H:=H++[⟨0,cells.length,[cells]⟩]) (H':=H++[⟨0,cells.length,[cells]⟩]) (b:=H.length) (cap:=1) (blk:=⟨0,cells.length,[cells]⟩) ul bF (ks.alloc E.w (.cells aM ty (0,0)))
    (by simp) (fun _ _=>rfl) (fun _=>rfl) (Nat.le_refl _) (.inl ⟨sw,oe.symm⟩) (by simp[hlen]) (by simp)
    ⟨fun i row aw=>by
      cases i with
      | zero=>simp at aw;subst aw;rfl
      | succ i=>simp at aw,
     fun i j row a aw aC=>by
      cases i with
      | zero=>
       simp at aw;subst aw
       obtain⟨u,hu,hv⟩:=nu.get aC
       exact⟨u,by simpa using hu,hv⟩
      | succ i=>simp at aw⟩
   refine⟨_,_,_,E',h,bi,e2,cE,gI,.inr ⟨hl.symm,E.w.heap.size,mm,?_⟩,fun s _=>by rw[hml]⟩
   rw[Nat.zero_mul]
  ·cases aI:dm L t with
   | some x=>rw[aI] at h;exact h.elim
   | none=>
    rw[aI] at h
    have hm:=bF.none aI
    obtain⟨E',bi,e2,cE,gI,hl,_,hml⟩:=JF (L:=(t,cells)::L) (t:=t) (cells:=cells) az (bF.cons hm) (ks.alloc E.w (.cells aM ty (0,0))) (by simp[dm]) hm nu
    exact⟨_,_,_,E',h,bi,e2,cE,gI,hl,fun s hs=>hml s fun e=>hs (by rw[e])⟩
def jX:AV→AV
 | .a8 rows _ fr=> .a8 rows false fr
 | a=>a
theorem bT.jX {E:Env} {a:AV} {v:Value} (h:bT E a v):bT E (jX a) v:=by
 cases a with
 | a8 rows full fr=>
  have h:a1 E.w E.PA E.PF (.a8 rows full fr) v:=h
  cases h with
  | a8 eh e5 fw bX dv hrel=>exact a1.a8 eh e5 (fun h=>by cases h) bX dv hrel
 | _=>exact h
theorem aK.jX {E:Env} {l:List AV} {m:List Value} (h:aK (bT E) l m):aK (bT E) (l.map jX) m:=by
 refine⟨by rw[List.length_map];exact h.1,fun i a v aL hv=> ?_⟩
 rw[List.getElem?_map] at aL
 cases aE:l[i]? with
 | none=>rw[aE] at aL;cases aL
 | some b=>rw[aE] at aL;cases aL;exact(h.2 i b v aE hv).jX
def sS (P:Program) (t:TypeId) (l c:AV) (L:List (Nat×List AV)) (H:List Blk) (K:lF Prop):Prop:=
 ch (gU P t) fun e=>ch (kq P e) fun z=>if z.length=P.cellsOf e∧z.all hA=true then match l,c with
  | .int _ l,.int _ c=>0≤l∧l≤c∧(P.bytesOf e:Int)*c≤140737488355328∧c≤4611686018427387904∧K (.ref H.length 0 0 l.toNat false) L (H++[⟨0,z.length,List.replicate l.toNat (z.map jX)⟩])
  | _,_=>False
 else False
theorem VH (z:Array Value) (n k:Nat) (hk:k<n):(madeCells z n)[k]?=some (z[k%z.size]!):=by
 simp[madeCells,hk]
theorem VP {P:Program} {E:Env} {H:List Blk} {L:List (Nat×List AV)} {t:TypeId} {l c:AV} {x0 EX:Value} {K:AV→List (Nat×List AV)→List Blk→Prop}
  (az:SimH E H) (bF:SimL E L) (aE:V3 E l x0) (hc:V3 E c EX) (h:sS P t l c L H K):
  ∃v L' H' E' u,K v L' H'∧(Instr.makeSlice t x0 EX).run P E.w= .ok u E'.w∧Step E E'∧SimH E' H'∧SimL E' L'∧V3 E' v u∧E'.mL=E.mL:=by
 obtain⟨e,he,h⟩:=ea h
 obtain⟨z,aH,h⟩:=ea h
 split at h
 case isFalse=>exact h.elim
 case isTrue hb=>
 obtain⟨lk,Sc⟩:=hb
 cases l with
 | int sN l=>
  cases c with
  | int jP c=>
   obtain⟨aN,h1,h2,aJ,hK⟩:=(show 0≤l∧l≤c∧(P.bytesOf e:Int)*c≤140737488355328∧c≤4611686018427387904∧K (.ref H.length 0 0 l.toNat false) L (H++[⟨0,z.length,List.replicate l.toNat (z.map jX)⟩]) from h)
   obtain rfl:=aE.kc
   obtain rfl:=hc.kc
   obtain⟨i,v,q1,q2,q3,q4⟩:=rL (E:=E) aH
   have ag:=(DH Sc q4).jX
   have qI:v.cells.size=z.length:=by rw[q3];simp
   have st:i.size=z.length:=by rw[lk];simp[Program.cellsOf,q1]
   have hby:P.bytesOf e=i.bytes:=by simp[Program.bytesOf,q1]
   have hu:=o2 he
   have ey:=run_make (P:=P) E.w t e i v hu q1 q2 sN jP l c aN h1 (by rw[hby] at h2;omega) (by omega)
   have ul:SimH E (H++[⟨0,z.length,List.replicate l.toNat (z.map jX)⟩]):=az.snoc rfl
   obtain⟨sw,oe⟩:=az.fresh H.length (Nat.le_refl _)
   have GG:l.toNat≤c.toNat:=by omega
   obtain⟨E',bi,e2,cE,gI,hl,mm,wV,qb,_,hml⟩:=sT (H:=H++[⟨0,z.length,List.replicate l.toNat (z.map jX)⟩]) (H':=H++[⟨0,z.length,List.replicate l.toNat (z.map jX)⟩]) (b:=H.length) (cap:=c.toNat) (blk:=⟨0,z.length,List.replicate l.toNat (z.map jX)⟩) ul bF (ks.alloc E.w (.cells (madeCells v.cells (c.toNat*i.size)) e (0,0)))
    (by simp) (fun _ _=>rfl) (fun _=>rfl) (Nat.le_refl _) (.inl ⟨sw,oe.symm⟩) (by rw[size_madeCells,st]) (by simpa using GG)
    ⟨fun iI row aw=>by
      have aw:(List.replicate l.toNat (z.map jX))[iI]?=some row:=aw
      rw[List.getElem?_replicate] at aw
      split at aw
      ·cases aw;exact List.length_map ..
      ·exact absurd aw (fun h=>by cases h),
     fun iI j row a aw aC=>by
      have aw:(List.replicate l.toNat (z.map jX))[iI]?=some row:=aw
      rw[List.getElem?_replicate] at aw
      split at aw
      ·rename_i hi
       cases aw
       have uE:=(List.getElem?_eq_some_iff.1 aC).1
       rw[List.length_map] at uE
       obtain⟨u,hu,hv⟩:=ag.get aC
       refine⟨u,?_,hv⟩
       have aR:iI*z.length+j<c.toNat*z.length:=by
        calc iI*z.length+j<iI*z.length+z.length:=by omega
         _=(iI+1)*z.length:=by rw[Nat.add_mul,Nat.one_mul]
         _≤c.toNat*z.length:=Nat.mul_le_mul_right _ (by omega)
       show(madeCells v.cells (c.toNat*i.size))[iI*z.length+j]?=_
       rw[st,VH _ _ _ aR,qI,show(iI*z.length+j)%z.length=j by rw[Nat.mul_comm,Nat.mul_add_mod,Nat.mod_eq_of_lt uE],←hu,Array.getElem?_toList,getElem!_pos v.cells j (by omega),Array.getElem?_eq_getElem]
      ·exact absurd aw (fun h=>by cases h)⟩
   refine⟨_,_,_,E',_,hK,by rw[ey,bi],e2,cE,gI,.inr ⟨hl.symm,.inr ⟨E.w.heap.size,c.toNat,mm,by rw[Nat.zero_mul],GG,(fun h=>by cases h),by rw[qb];omega⟩⟩,hml⟩
  | _=>exact h.elim
 | _=>exact h.elim
def rh:List Nat→Option Nat
 | []=>none
 | x::r=>match Nat.ble 1000000 x with
  | true=>some (x - 1000000)
  | false=>rh r
def Vt (tl:Option Nat) (hn:Bool) (n sz:Nat) (rows:List (List AV)) (L:List (Nat×List AV)) (H:List Blk) (K:lF Prop):Prop:=match tl with
 | none=>K (.ref H.length 0 0 n hn) L (H++[⟨0,sz,rows⟩])
 | some j=>ch H[j]? fun blk=>K (.ref j (blk.ba+1) 0 n true) L (H.set j ⟨blk.ba+1,sz,rows⟩)
def qe (esc:List Nat) (dst:Option Nat):Bool:=match dst with
 | none=>false
 | some d=>esc.any fun x=>Nat.beq x (500000+d)
def p_ (P:Program) (fr:Bool) (tl:Option Nat) (t:TypeId) (n:Nat) (parts:List (Nat×AV)) (L:List (Nat×List AV)) (H:List Blk) (K:lF Prop):Prop:=
 ch (gU P t) fun e=>ch (kq P e) fun z=>if z.length=P.cellsOf e∧n*z.length≤1000000∧n≤1000000 then
  ch (mo (fun i=>some (i*z.length,z.length)) ((List.range (n*z.length)).map fun i=>z.getD (i%z.length) .undef) parts) fun cells=>
   if(bif fr then false else cells.all hh)=true then K (.a8 (chunk z.length n (cells.map h7)) true (cells.all lb)) L H else
   if cells.all hA=true then Vt tl (!fr) n z.length (chunk z.length n cells) L H K else False
 else False
theorem Oz {size n i:Nat} {cells row:List AV} (aE:cells.length=n*size) (aw:(chunk size n cells)[i]?=some row):row.length=size:=by
 unfold chunk at aw
 rw[List.getElem?_map] at aw
 cases ag:(List.range n)[i]? with
 | none=>rw[ag] at aw;cases aw
 | some k=>
  have hk:=(List.getElem?_eq_some_iff.1 ag).1
  have hi:k=i:=by have:=(List.getElem?_eq_some_iff.1 ag).2;simpa using this.symm
  rw[ag] at aw;cases aw
  simp only[List.length_take,List.length_drop]
  have dp:i<n:=by simpa using hk
  rw[aE,hi]
  have:(i+1)*size≤n*size:=Nat.mul_le_mul_right _ dp
  rw[Nat.add_mul,Nat.one_mul] at this
  omega
theorem N2 {P:Program} {fr:Bool} {tl:Option Nat} {E:Env} {H:List Blk} {L:List (Nat×List AV)} {t:TypeId} {n:Nat} {parts:List (Nat×AV)} {h_:List (Nat×Value)} {K:AV→List (Nat×List AV)→List Blk→Prop} (az:SimH E H) (bF:SimL E L)
  (ak:aK (fun a b=>a.1=b.1∧V2 E a.2 b.2) parts h_) (h:p_ P fr tl t n parts L H K):
  ∃v u L' H' E',K v L' H'∧(Instr.buildSlice t n h_.toArray).run P E.w= .ok u E'.w∧Step E E'∧SimH E' H'∧SimL E' L'∧V3 E' v u∧E'.mL=E.mL:=by
 obtain⟨e,he,h⟩:=ea h
 obtain⟨z,aH,h⟩:=ea h
 split at h
 case isFalse=>exact h.elim
 case isTrue hb=>
 obtain⟨cells,hf,h⟩:=ea h
 split at h
 case isTrue hby=>
  have hby:cells.all hh=true:=by cases fr with
   | true=>cases hby
   | false=>exact hby
  have hv:r5 P t n parts (fun r=>K r L H):=by
   refine dg he (dg aH ?_)
   rw[if_pos hb]
   refine dg hf ?_
   rw[if_pos hby];exact h
  obtain⟨r,u,E',hK,aw,ag,aJ⟩:=EG az ak hv
  exact⟨r,u,L,H,E',hK,aw,ag.step,ag.simH az,ag.simL az bF,aJ,ag.mL⟩
 case isFalse=>
 split at h
 case isFalse=>exact h.elim
 case isTrue hs=>
 obtain⟨fX,hrel,ey,hlen⟩:=N5 ak he aH hb.1 hb.2 hf
 have lg:(chunk z.length n cells).length=n:=by simp[chunk]
 have Bg:fX.size=n*z.length:=by have:=hrel.1;simp at this;omega
 have GW:rT E z.length (chunk z.length n cells) fX:=⟨fun i row aw=>Oz hlen aw,fun i j row a aw aC=>by
   obtain⟨hi,uE,hc⟩:=EO aw aC
   obtain⟨u,hu,hv⟩:=hrel.get hc
   exact⟨u,by rw[Array.getElem?_toList] at hu;exact hu,hv⟩⟩
 cases tl with
 | none=>
  have ul:SimH E (H++[⟨0,z.length,chunk z.length n cells⟩]):=az.snoc rfl
  obtain⟨sw,oe⟩:=az.fresh H.length (Nat.le_refl _)
  obtain⟨E',bi,e2,cE,gI,hl,mm,wV,qb,_,hml⟩:=sT (H:=H++[⟨0,z.length,chunk z.length n cells⟩]) (H':=H++[⟨0,z.length,chunk z.length n cells⟩]) (b:=H.length) (cap:=n) (blk:=⟨0,z.length,chunk z.length n cells⟩) ul bF (ks.alloc E.w (.cells fX e (0,0)))
   (by simp) (fun _ _=>rfl) (fun _=>rfl) (Nat.le_refl _) (.inl ⟨sw,oe.symm⟩) Bg (by rw[lg];exact Nat.le_refl _) GW
  exact⟨_,_,_,_,E',h,by rw[ey,bi],e2,cE,gI,.inr ⟨hl.symm,.inr ⟨E.w.heap.size,n,mm,by rw[Nat.zero_mul],Nat.le_refl _,(fun _=>rfl),by rw[qb];omega⟩⟩,hml⟩
 | some j=>
  obtain⟨blk,uw,hK⟩:=ea (show ch H[j]? fun blk=>K (.ref j (blk.ba+1) 0 n true) L (H.set j ⟨blk.ba+1,z.length,chunk z.length n cells⟩) from h)
  have ph:=(List.getElem?_eq_some_iff.1 uw).1
  have Rj:=az.dJ j blk uw
  obtain⟨E',bi,e2,cE,gI,hl,mm,wV,qb,_,hml⟩:=sT (H:=H) (H':=H.set j ⟨blk.ba+1,z.length,chunk z.length n cells⟩) (b:=j) (cap:=n) (blk:=⟨blk.ba+1,z.length,chunk z.length n cells⟩) az bF (ks.alloc E.w (.cells fX e (0,0)))
   (by rw[List.getElem?_set];simp[ph]) (fun bS dK=>by rw[List.getElem?_set,if_neg (fun e=>dK e.symm)]) (fun _=>by simp) (by simp) (.inr (by show E.ba j<blk.ba+1;omega)) Bg (by rw[lg];exact Nat.le_refl _) GW
  exact⟨_,_,_,_,E',hK,by rw[ey,bi],e2,cE,gI,.inr ⟨hl.symm,.inr ⟨E.w.heap.size,n,mm,by rw[Nat.zero_mul],Nat.le_refl _,(fun _=>rfl),by rw[qb];omega⟩⟩,hml⟩
def mT:AV→Bool
 | .a8 _ _ fr=>fr
 | .dZ _ _ | .cD _ _ | .agg _ | .tup _ | .fn _ _=>false
 | _=>true
def h6 (k:Nat):AV→AV
 | .ref b g o n f=> .ref (k+b) g o n f
 | .ptr b g r c=> .ptr (k+b) g r c
 | a=>a
def s3:AV→Bool
 | .agg l=>l.all mT
 | a=>mT a
def oP (k:Nat):AV→AV
 | .agg l=> .agg (l.map (h6 k))
 | a=>h6 k a
def s4:AV→Bool
 | .tup l=>l.all s3
 | a=>s3 a
def m3 (k:Nat):AV→AV
 | .tup l=> .tup (l.map (oP k))
 | a=>oP k a
def iS (k:Nat) (b:Blk):Blk:=⟨b.ba,b.sz,b.rows.map fun row=>row.map (h6 k)⟩
def pF (H:List Blk):Bool:=H.all fun b=>b.rows.all fun row=>row.all mT
def Env.join (E E1:Env) (n:Nat):Env:=
 {w:=E1.w,PA:=fun c=>E.PA c∨E1.PF c,PF:=fun c=>E.PF c∨E1.PF c
  m:=fun b=>if b<n then E.m b else E1.m (b - n),ba:=fun b=>if b<n then E.ba b else E1.ba (b - n)
  sz:=fun b=>if b<n then E.sz b else E1.sz (b - n),cp:=fun b=>if b<n then E.cp b else E1.cp (b - n),mL:=E.mL}
section
variable {E E1:Env} {n:Nat}
theorem Tv {b:Nat} (h:b<n):(E.join E1 n).m b=E.m b∧(E.join E1 n).ba b=E.ba b∧(E.join E1 n).sz b=E.sz b∧(E.join E1 n).cp b=E.cp b:=⟨if_pos h,if_pos h,if_pos h,if_pos h⟩
theorem BU (b:Nat):(E.join E1 n).m (n+b)=E1.m b∧(E.join E1 n).ba (n+b)=E1.ba b∧(E.join E1 n).sz (n+b)=E1.sz b∧(E.join E1 n).cp (n+b)=E1.cp b:=by
 have h: ¬n+b<n:=by omega
 have e:n+b - n=b:=by omega
 refine⟨?_,?_,?_,?_⟩<;>(unfold Env.join;simp only[if_neg h,e])
theorem BV {E':Env} (gu:E'=E.join E1 n) {a:AV} {v:Value} (aB:mT a=true) (hv:bT E1 a v):bT E' (h6 n a) v:=by
 have kb: ∀{a:AV} {v:Value},mT a=true→a1 E1.w E1.PA E1.PF a v→a1 E'.w E'.PA E'.PF a v:=by
  intro a v aB h
  subst gu
  cases h with
  | undef=>exact .undef _
  | int=>exact .int _ _
  | bool=>exact .bool _
  | str=>exact .str _
  | eI=>exact .eI
  | eU=>exact .eU
  | @a8 _ _ PB rows full fresh A cap sz vs eh e5 fw bX dv hrel=>
   have hf:fresh=true:=aB
   refine .a8 (PB:=PB) (sz:=sz) (vs:=vs) (fun c hc=> ?_) e5 fw bX dv hrel
   have:=eh c hc
   rw[if_pos hf] at this ⊢
   exact .inr this
  | cD=>cases aB
  | fn=>cases aB
 cases a with
 | ref b g off m full=>
  subst gu
  obtain⟨dY,aO,ll,pu⟩:=BU (E:=E) (E1:=E1) (n:=n) b
  show dO (E.join E1 n) (.ref (n+b) g off m full) v
  rcases(show dO E1 (.ref b g off m full) v from hv) with⟨h,k⟩ | ⟨h,k⟩
  ·exact .inl ⟨by rw[aO];exact h,k⟩
  ·refine .inr ⟨by rw[aO];exact h,?_⟩
   rw[dY,ll,pu];exact k
 | ptr b g r c=>
  subst gu
  obtain⟨dY,aO,ll,pu⟩:=BU (E:=E) (E1:=E1) (n:=n) b
  show dO (E.join E1 n) (.ptr (n+b) g r c) v
  rcases(show dO E1 (.ptr b g r c) v from hv) with⟨h,k⟩ | ⟨h,k⟩
  ·exact .inl ⟨by rw[aO];exact h,k⟩
  ·refine .inr ⟨by rw[aO];exact h,?_⟩
   rw[dY,ll];exact k
 | dZ t c=>cases aB
 | fn f c=>cases aB
 | agg l=>cases aB
 | tup l=>cases aB
 | cD l c=>cases aB
 | undef=>exact a1.undef _
 | int k m=>exact kb (a:= .int k m) rfl hv
 | bool b=>exact kb (a:= .bool b) rfl hv
 | str s=>exact kb (a:= .str s) rfl hv
 | a8 rows full fr=>exact kb (a:= .a8 rows full fr) aB hv
 | eI=>exact kb (a:= .eI) rfl hv
 | eU=>exact kb (a:= .eU) rfl hv
theorem H2 {E':Env} (gu:E'=E.join E1 n) {a:AV} {v:Value} (aB:s3 a=true) (hv:V2 E1 a v):V2 E' (oP n a) v:=by
 by_cases hf: ∃l,a= .agg l
 ·obtain⟨l,rfl⟩:=hf
  obtain⟨vs,rfl,ak⟩:=hv
  refine⟨vs,rfl,by rw[List.length_map];exact ak.1,fun i x u hx hu=> ?_⟩
  rw[List.getElem?_map] at hx
  cases aE:l[i]? with
  | none=>simp[aE] at hx
  | some y=>
   simp[aE] at hx;subst hx
   exact BV gu (List.all_eq_true.1 (show l.all mT=true from aB) y (List.mem_of_getElem? aE)) (ak.2 i y u aE hu)
 ·have bi:oP n a=h6 n a:=by cases a<;>first | rfl | exact absurd ⟨_,rfl⟩ hf
  have e2:s3 a=mT a:=by cases a<;>first | rfl | exact absurd ⟨_,rfl⟩ hf
  rw[lM fun l e=>hf ⟨l,e⟩] at hv
  rw[bi]
  exact jI (BV gu (e2▸aB) hv)
theorem Tw {E':Env} (gu:E'=E.join E1 n) {a:AV} {v:Value} (aB:s4 a=true) (hv:V3 E1 a v):V3 E' (m3 n a) v:=by
 by_cases hf: ∃l,a= .tup l
 ·obtain⟨l,rfl⟩:=hf
  obtain⟨vs,rfl,ak⟩:=hv
  refine⟨vs,rfl,by rw[List.length_map];exact ak.1,fun i x u hx hu=> ?_⟩
  rw[List.getElem?_map] at hx
  cases aE:l[i]? with
  | none=>simp[aE] at hx
  | some y=>
   simp[aE] at hx;subst hx
   exact H2 gu (List.all_eq_true.1 (show l.all s3=true from aB) y (List.mem_of_getElem? aE)) (ak.2 i y u aE hu)
 ·have bi:m3 n a=oP n a:=by cases a<;>first | rfl | exact absurd ⟨_,rfl⟩ hf
  have e2:s4 a=s3 a:=by cases a<;>first | rfl | exact absurd ⟨_,rfl⟩ hf
  rw[lN fun l e=>hf ⟨l,e⟩] at hv
  rw[bi]
  exact jk (H2 gu (e2▸aB) hv)
end
theorem Ok {P:Program} {f:FuncId} {args db:List AV} {L:List (Nat×List AV)} {H:List Blk} {E:Env} {vs:List Value} {Q:AV→List Blk→Prop} (az:SimH E H) (bF:SimL E L)
  (aL:aK (V2 E) args vs) (hs:aK (dE L H) args db) (h:c8 P f db [] fun r dQ=>s4 r=true∧pF dQ=true∧Q r dQ):
  Calls P f vs.toArray E.w fun e w'=> ∃r v dQ E',e= .returned v∧Q r dQ∧E'.w=w'∧Step E E'∧SimH E' (H++dQ.map (iS H.length))∧SimL E' L∧V3 E' (m3 H.length r) v∧E'.mL=E.mL:=by
 have qg:aK (V2 E.frozen) db vs:=⟨hs.1▸aL.1,fun i x u hx hu=>by
  have aR:i<args.length:=by have:=(List.getElem?_eq_some_iff.1 hx).1;have:=hs.1;omega
  have aE:=List.getElem?_eq_getElem aR
  exact Lu (Sub.refl L H) az bF (hs.2 i _ x aE hx) (aL.2 i _ u aE hu)⟩
 refine(h.2 E.frozen vs (fun _=>rfl) (FJ az) qg).mono ?_
 rintro e w' ⟨r,v,dQ,E1,rfl,⟨aB,uI,aw⟩,rfl,ap,ej,hv,a6⟩
 have ur: ∀c,E1.PF c→E.w.heap.size≤c∧c<E1.w.heap.size:=fun c hc=>⟨(a6.et c hc).elim (fun h=>h.elim) id,ej.df c (ej.dc c hc)⟩
 have sn: ∀c,E1.ff c→E.w.heap.size≤c∧c<E1.w.heap.size:=fun c hc=>⟨(a6.nF c hc).elim (fun⟨b,hb⟩=>by cases hb) id,ej.ed c hc⟩
 have lW: ∀c,c<E.w.heap.size→E1.w.heap[c]?=E.w.heap[c]?:=fun c hc=>a6.dM c hc (fun⟨b,hb⟩=>by cases hb) (fun⟨b,hb⟩=>by cases hb)
 have hW:=az.ed
 have hX:=az.eQ
 generalize gu:E.join E1 H.length=E'
 have kd: ∀b,b<H.length→E'.m b=E.m b∧E'.ba b=E.ba b∧E'.sz b=E.sz b∧E'.cp b=E.cp b:=fun b hb=>gu▸Tv hb
 have fS: ∀b,E'.m (H.length+b)=E1.m b∧E'.ba (H.length+b)=E1.ba b∧E'.sz (H.length+b)=E1.sz b∧E'.cp (H.length+b)=E1.cp b:=fun b=>gu▸BU b
 have kF:E'.w=E1.w:=by rw[←gu];rfl
 have sM: ∀c,E'.PA c↔E.PA c∨E1.PF c:=fun c=>by rw[←gu];exact Iff.rfl
 have BT: ∀c,E'.PF c↔E.PF c∨E1.PF c:=fun c=>by rw[←gu];exact Iff.rfl
 have pv:E'.mL=E.mL:=by rw[←gu];rfl
 have split: ∀b,b<H.length∨ ∃k,b=H.length+k:=fun b=>by
  rcases Nat.lt_or_ge b H.length with h | h
  ·exact .inl h
  ·exact .inr ⟨b - H.length,by omega⟩
 have VX: ∀b x,E.m b=some x→b<H.length:=fun b x hb=>by
  rcases Nat.lt_or_ge b H.length with h | h
  ·exact h
  ·rw[(az.fresh b h).1] at hb;cases hb
 have mK: ∀c,E'.ff c→E.ff c∨E1.ff c:=fun c ⟨b,hb⟩=>by
  rcases split b with h | ⟨k,rfl⟩
  ·exact .inl ⟨b,by rw[←(kd b h).1];exact hb⟩
  ·exact .inr ⟨k,by rw[←(fS k).1];exact hb⟩
 have ez:Step E E':=
  {le:=⟨fun c hc=>(sM c).2 (.inl hc),fun c hc=>(BT c).2 (.inl hc),fun c hc=>by rw[kF];exact lW c (az.df c hc),fun c hc=>by rw[kF];exact lW c (az.df c (az.dc c hc)),fun b=>by
     rcases split b with h | ⟨k,rfl⟩
     ·rw[(kd b h).2.1];exact Nat.le_refl _
     ·rw[(az.fresh (H.length+k) (by omega)).2];exact Nat.zero_le _,fun b x hx _=>by
     have h:=VX b x hx
     exact⟨by rw[(kd b h).1];exact hx,(kd b h).2.2.1,(kd b h).2.2.2⟩,fun t c h=>by rw[pv];exact h⟩
   os:=by rw[kF];exact a6.os
   tape:=by rw[kF];exact a6.tape
   output:=by rw[kF];exact a6.output
   size:=by rw[kF];exact a6.size
   dM:=fun c hc _ _=>by rw[kF];exact lW c hc
   gV:=fun b c hb=>by
    rcases split b with h | ⟨k,rfl⟩
    ·exact .inl (by rw[←(kd b h).1];exact hb)
    ·exact .inr (sn c ⟨k,by rw[←(fS k).1];exact hb⟩).1
   hr:=fun c ⟨t,bt⟩=> .inl ⟨t,by rw[←pv];exact bt⟩
   ep:=fun c hc=>((sM c).1 hc).elim .inl fun h=> .inr (ur c h).1
   et:=fun c hc=>((BT c).1 hc).elim .inl fun h=> .inr (ur c h).1}
 have AB: ∀b,b<H.length→(H++dQ.map (iS H.length))[b]?=H[b]?:=fun b hb=>List.getElem?_append_left hb
 have AA: ∀k,(H++dQ.map (iS H.length))[H.length+k]?=(dQ[k]?).map (iS H.length):=fun k=>by
  rw[List.getElem?_append_right (by omega),List.getElem?_map];congr 2;omega
 refine⟨r,v,dQ,E',rfl,aw,kF,ez,?_,?_,Tw gu.symm aB hv,pv⟩
 ·exact{
   heap:=fun b c hb=>by
    rcases split b with h | ⟨k,rfl⟩
    ·obtain⟨dY,aO,ll,pu⟩:=kd b h
     rw[dY] at hb
     obtain⟨blk,aM,ty,q1,cj,q2,q3,q4,cw,cr⟩:=az.heap b c hb
     refine⟨blk,aM,ty,by rw[AB b h];exact q1,by rw[ll];exact cj,by rw[kF,lW c (hW c ⟨b,hb⟩)];exact q2,by rw[ll,pu];exact q3,by rw[pu];exact q4,by rw[ll];exact cw,fun i j row a aw aC=> ?_⟩
     obtain⟨u,hu,Bf⟩:=cr i j row a aw aC
     exact⟨u,by rw[ll];exact hu,Bf.le ez.le.bG⟩
    ·obtain⟨dY,aO,ll,pu⟩:=fS k
     rw[dY] at hb
     obtain⟨blk,aM,ty,q1,cj,q2,q3,q4,cw,cr⟩:=ej.heap k c hb
     have RA: ∀row∈blk.rows,∀a∈row,mT a=true:=fun row aw a aL=>
      List.all_eq_true.1 (List.all_eq_true.1 (List.all_eq_true.1 uI blk (List.mem_of_getElem? q1)) row aw) a aL
     refine⟨iS H.length blk,aM,ty,by rw[AA k,q1];rfl,by rw[ll];exact cj,by rw[kF];exact q2,by rw[ll,pu];exact q3,by rw[pu];show(blk.rows.map _).length≤_;rw[List.length_map];exact q4,fun i row' aw=> ?_,fun i j row' gB aw aC=> ?_⟩
     ·have aw:(blk.rows.map fun row=>row.map (h6 H.length))[i]?=some row':=aw
      rw[List.getElem?_map] at aw
      cases ag:blk.rows[i]? with
      | none=>simp[ag] at aw
      | some row=>
       simp[ag] at aw;subst aw
       rw[List.length_map,ll];exact cw i row ag
     ·have aw:(blk.rows.map fun row=>row.map (h6 H.length))[i]?=some row':=aw
      rw[List.getElem?_map] at aw
      cases ag:blk.rows[i]? with
      | none=>simp[ag] at aw
      | some row=>
       simp[ag] at aw;subst aw
       rw[List.getElem?_map] at aC
       cases jz:row[j]? with
       | none=>simp[jz] at aC
       | some a=>
        simp[jz] at aC;subst aC
        obtain⟨u,hu,Bf⟩:=cr i j row a ag jz
        refine⟨u,by rw[ll];exact hu,?_⟩
        have F6:E'.bG=E.bG.join E1.bG H.length:=by rw[←gu];rfl
        exact BV F6 (RA row (List.mem_of_getElem? ag) a (List.mem_of_getElem? jz)) Bf
   dJ:=fun b blk hb=>by
    rcases split b with h | ⟨k,rfl⟩
    ·rw[AB b h] at hb;rw[(kd b h).2.1];exact az.dJ b blk hb
    ·rw[AA k] at hb
     cases ag:dQ[k]? with
     | none=>simp[ag] at hb
     | some y=>simp[ag] at hb;subst hb;rw[(fS k).2.1];exact ej.dJ k y ag
   fz:=fun b hb=>by
    rcases split b with h | ⟨k,rfl⟩
    ·rw[(kd b h).1] at hb
     obtain⟨blk,q1,q2⟩:=az.fz b hb
     exact⟨blk,by rw[AB b h];exact q1,by rw[(kd b h).2.2.1];exact q2⟩
    ·rw[(fS k).1] at hb
     obtain⟨blk,q1,q2⟩:=ej.fz k hb
     exact⟨iS H.length blk,by rw[AA k,q1];rfl,by rw[(fS k).2.2.1];exact q2⟩
   fresh:=fun b hb=>by
    rw[List.length_append,List.length_map] at hb
    rcases split b with h | ⟨k,rfl⟩
    ·omega
    ·rw[(fS k).1,(fS k).2.1];exact ej.fresh k (by omega)
   fR:=fun b bS c h1 h2=>by
    rcases split b with h | ⟨k,rfl⟩<;>rcases split bS with h' | ⟨iv,rfl⟩
    ·rw[(kd b h).1] at h1;rw[(kd bS h').1] at h2;exact az.fR b bS c h1 h2
    ·rw[(kd b h).1] at h1;rw[(fS iv).1] at h2
     have:=hW c ⟨b,h1⟩;have:=(sn c ⟨iv,h2⟩).1;omega
    ·rw[(fS k).1] at h1;rw[(kd bS h').1] at h2
     have:=hW c ⟨bS,h2⟩;have:=(sn c ⟨k,h1⟩).1;omega
    ·rw[(fS k).1] at h1;rw[(fS iv).1] at h2;rw[ej.fR k iv c h1 h2]
   gW:=fun t gZ c h1 h2=>by rw[pv] at h1 h2;exact az.gW t gZ c h1 h2
   e7:=fun b t c h1 h2=>by
    rw[pv] at h2
    rcases split b with h | ⟨k,rfl⟩
    ·rw[(kd b h).1] at h1;exact az.e7 b t c h1 h2
    ·rw[(fS k).1] at h1
     have:=hX c ⟨t,h2⟩;have:=(sn c ⟨k,h1⟩).1;omega
   fV:=fun c hc hi=>by
    rcases(sM c).1 hc with h | h<;>rcases mK c hi with h' | h'
    ·exact az.fV c h h'
    ·have:=az.df c h;have:=(sn c h').1;omega
    ·have:=hW c h';have:=(ur c h).1;omega
    ·exact ej.fV c (ej.dc c h) h'
   gm:=fun c hc ⟨t,bt⟩=>by
    rw[pv] at bt
    rcases(sM c).1 hc with h | h
    ·exact az.gm c h ⟨t,bt⟩
    ·have:=hX c ⟨t,bt⟩;have:=(ur c h).1;omega
   dc:=fun c hc=>(sM c).2 (((BT c).1 hc).elim (fun h=> .inl (az.dc c h)) .inr)
   df:=fun c hc=>by
    rw[kF]
    rcases(sM c).1 hc with h | h
    ·exact Nat.lt_of_lt_of_le (az.df c h) a6.size
    ·exact(ur c h).2
   ed:=fun c hc=>by
    rw[kF]
    rcases mK c hc with h | h
    ·exact Nat.lt_of_lt_of_le (hW c h) a6.size
    ·exact(sn c h).2
   eQ:=fun c ⟨t,bt⟩=>by
    rw[pv] at bt;rw[kF]
    exact Nat.lt_of_lt_of_le (hX c ⟨t,bt⟩) a6.size}
 ·intro t c hm
  rw[pv] at hm
  obtain⟨cells,aM,ty,q1,q2,q3⟩:=bF t c hm
  exact⟨cells,aM,ty,q1,by rw[kF,lW c (hX c ⟨t,hm⟩)];exact q2,q3.mono fun _ _ k=>k.le ez.le.bG⟩
theorem Oh {P:Program} {f:FuncId} {args:List AV} {L:List (Nat×List AV)} {H:List Blk} {E:Env} {vs:List Value} {Q:AV→List Blk→Prop} (az:SimH E H) (bF:SimL E L)
  (aL:aK (V2 E) args vs) (ap:args.all hY=true) (h:c8 P f args H fun r H'=>sV r=true∧Q r H'):
  Calls P f vs.toArray E.w fun e w'=> ∃r v H' E',e= .returned v∧Q r H'∧E'.w=w'∧Step E E'∧SimH E' H'∧SimL E' L∧V3 E' r v∧E'.mL=E.mL:=by
 have qg:aK (V2 E.bG) args vs:=⟨aL.1,fun i a v h1 h2=>(aL.2 i a v h1 h2).bG (List.all_eq_true.1 ap a (List.mem_of_getElem? h1))⟩
 refine(h.2 E.bG vs (fun _=>rfl) az.bG qg).mono ?_
 rintro e w' ⟨r,v,H',E1,rfl,⟨Ry,aw⟩,rfl,uG,ej,hv,a6⟩
 let E':Env:={E1 with mL:=E.mL}
 have F6:E'.bG=E1.bG:=rfl
 have hX:=az.eQ
 have nF: ∀c,E1.ff c→E.ff c∨E.w.heap.size≤c:=a6.nF
 have Rn: ∀c,E.iu c→E1.w.heap[c]?=E.w.heap[c]?:=fun c hc=>a6.dM c (hX c hc) (fun⟨b,hb⟩=>by
  obtain⟨t,bt⟩:=hc
  exact az.e7 b t c hb bt) (fun⟨b,hb⟩=>by cases hb)
 have hle:E1.bG.eZ E':=Env.x6 E'
 have ez:Step E E':=
  {le:=⟨a6.le.ep,a6.le.et,a6.le.pV,a6.le.wf,a6.le.ba,a6.le.m,fun _ _ h=>h⟩
   os:=a6.os,tape:=a6.tape,output:=a6.output,size:=a6.size
   dM:=fun c hc h1 h2=>a6.dM c hc h1 (fun⟨b,hb⟩=>by cases hb)
   gV:=a6.gV
   hr:=fun c h=> .inl h
   ep:=a6.ep
   et:=a6.et}
 refine⟨r,v,H',E',rfl,aw,rfl,ez,?_,?_,?_,rfl⟩
 ·exact{ej with
   gW:=az.gW
   e7:=fun b t c h1 h2=>by
    rcases nF c ⟨b,h1⟩ with⟨bS,h⟩ | h
    ·exact az.e7 bS t c h h2
    ·have:=hX c ⟨t,h2⟩;omega
   gm:=fun c hc ⟨t,bt⟩=>by
    rcases a6.ep c hc with h | h
    ·exact az.gm c h ⟨t,bt⟩
    ·have h:E.w.heap.size≤c:=h
     have:=hX c ⟨t,bt⟩;omega
   eQ:=fun c hc=>Nat.lt_of_lt_of_le (hX c hc) a6.size}
 ·intro t c hm
  obtain⟨cells,aM,ty,q1,q2,q3⟩:=bF t c hm
  exact⟨cells,aM,ty,q1,by show E1.w.heap[c]?=_;rw[Rn c ⟨t,hm⟩];exact q2,q3.mono fun _ _ k=>k.le ez.le.bG⟩
 ·exact(hv.bG Ry).le hle
end Go.Proofs.Ytglpfccgmfhkdaa.Fw
