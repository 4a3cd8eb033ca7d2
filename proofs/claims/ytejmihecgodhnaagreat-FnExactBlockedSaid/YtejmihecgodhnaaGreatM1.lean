/- The framework, part A: abstract values, how they stand for Go's values in a world, and what stays as it is when the world grows. -/
import Derived.WalkKit
import Derived.KernelRfl
import Derived.Orders
import Derived.Laws.StructEq
import Derived.ChangeArms
import Derived.ChangeShapes
import Derived.SizedLaws
import Derived.Below
import Derived.JoinedOf
import Derived.Test.YtejmihecgodhnaaGreatProg
import Derived.Lib.Hide
import Derived.WalkSpells
import Derived.Deep.RegionHeld3
import Derived.Deep.CutRange
set_option linter.unusedVariables false
namespace Go.Proofs.YtejmihecgodhnaaGreat.Fw
open Go
inductive AV where
 | undef
 | int (k:IntKind) (n:Int)
 | bool (b:Bool)
 | str (s:ByteArray)
 | aJ (rows:List (List AV)) (full fresh:Bool)
 | ref (b g off n:Nat) (full:Bool)
 | ptr (b g row col:Nat)
 | e4 (t col:Nat)
 | c3 (cells:List AV) (col:Nat)
 | fD
 | fT
 | agg (cells:List AV)
 | tup (vs:List AV)
 | fn (f:FuncId) (caps:List AV)
 deriving Inhabited
structure Blk where
 a6:Nat
 sz:Nat
 rows:List (List AV)
 deriving Inhabited
structure St where
 T:List AV
 L:List (Nat×List AV)
 H:List Blk
def az {α β:Type} (R:α→β→Prop) (l:List α) (m:List β):Prop:=
 l.length=m.length∧ ∀(i:Nat) (a:α) (b:β),l[i]?=some a→m[i]?=some b→R a b
theorem az.nil {α β:Type} {R:α→β→Prop}:az R [] []:=⟨rfl,fun i a b h=>by simp at h⟩
theorem az.cons {α β:Type} {R:α→β→Prop} {a:α} {b:β} {l:List α} {m:List β} (h:R a b) (k:az R l m):az R (a::l) (b::m):=
 ⟨by simp[k.1],fun i x y hx aS=>by
  cases i with
  | zero=>simp at hx aS;subst hx;subst aS;exact h
  | succ i=>exact k.2 i x y (by simpa using hx) (by simpa using aS)⟩
theorem az.head {α β:Type} {R:α→β→Prop} {a:α} {b:β} {l:List α} {m:List β} (h:az R (a::l) (b::m)):R a b:=h.2 0 a b rfl rfl
theorem az.tail {α β:Type} {R:α→β→Prop} {a:α} {b:β} {l:List α} {m:List β} (h:az R (a::l) (b::m)):az R l m:=
 ⟨by simpa using h.1,fun i x y hx aS=>h.2 (i+1) x y (by simpa using hx) (by simpa using aS)⟩
theorem az.mono {α β:Type} {R yJ:α→β→Prop} {l:List α} {m:List β} (h:az R l m) (ai: ∀a b,R a b→yJ a b):az yJ l m:=
 ⟨h.1,fun i a b x y=>ai _ _ (h.2 i a b x y)⟩
theorem az.get {α β:Type} {R:α→β→Prop} {l:List α} {m:List β} (h:az R l m) {i:Nat} {a:α} (ap:l[i]?=some a): ∃b,m[i]?=some b∧R a b:=by
 have hi:i<l.length:=(List.getElem?_eq_some_iff.1 ap).1
 have hm:i<m.length:=h.1▸hi
 exact⟨m[i],List.getElem?_eq_getElem hm,h.2 i a _ ap (List.getElem?_eq_getElem hm)⟩
theorem az.mj {α β:Type} {R:α→β→Prop} {m:List β} (h:az R [] m):m=[]:=by
 have:=h.1;exact List.eq_nil_of_length_eq_zero (by simpa using this.symm)
theorem az.cons_inv {α β:Type} {R:α→β→Prop} {a:α} {l:List α} {m:List β} (h:az R (a::l) m): ∃b e0,m=b::e0∧R a b∧az R l e0:=by
 cases m with
 | nil=>have:=h.1;simp at this
 | cons b e0=>exact⟨b,e0,rfl,h.head,h.tail⟩
theorem az.append {α β:Type} {R:α→β→Prop} {l eN:List α} {m e0:List β} (h:az R l m) (k:az R eN e0):az R (l++eN) (m++e0):=by
 refine⟨by simp[h.1,k.1],fun i a b ap hb=> ?_⟩
 rcases Nat.lt_or_ge i l.length with hi | hi
 ·rw[List.getElem?_append_left hi] at ap
  rw[List.getElem?_append_left (h.1▸hi)] at hb
  exact h.2 i a b ap hb
 ·rw[List.getElem?_append_right hi] at ap
  rw[List.getElem?_append_right (h.1▸hi),←h.1] at hb
  exact k.2 _ a b ap hb
theorem az.set {α β:Type} {R:α→β→Prop} {l:List α} {m:List β} (h:az R l m) (i:Nat) {a:α} {b:β} (ai:R a b):az R (l.set i a) (m.set i b):=by
 refine⟨by simp[h.1],fun j x y hx aS=> ?_⟩
 by_cases af:i=j
 ·subst af
  rw[List.getElem?_set_self'] at hx aS
  cases ao:l[i]? with
  | none=>simp[ao] at hx
  | some a0=>
   cases hm:m[i]? with
   | none=>simp[hm] at aS
   | some b0=>simp[ao] at hx;simp[hm] at aS;subst hx;subst aS;exact ai
 ·rw[List.getElem?_set_ne af] at hx aS
  exact h.2 j x y hx aS
inductive aL (w:World):(Nat→Prop)→(Nat→Prop)→AV→Value→Prop where
 | undef {PA PF:Nat→Prop} (v:Value):aL w PA PF .undef v
 | int {PA PF:Nat→Prop} (k:IntKind) (n:Int):aL w PA PF (.int k n) (.int k n)
 | bool {PA PF:Nat→Prop} (b:Bool):aL w PA PF (.bool b) (.bool b)
 | str {PA PF:Nat→Prop} (s:ByteArray):aL w PA PF (.str s) (.string s)
 | aJ {PA PF PB:Nat→Prop} {rows:List (List AV)} {full fresh:Bool} {A:Option Addr} {cap sz:Nat} {vs:Nat→Nat→Value}
   (eR: ∀c,PB c→if fresh=true then PF c else PA c)
   (eZ:rows.length≤cap∧rows.length≤4611686018427387904) (fB:full=true→cap=rows.length)
   (b3: ∀(i:Nat) (row:List AV),rows[i]?=some row→row.length=sz)
   (dL:0<rows.length→ ∃c o,A=some ⟨c,o,none⟩∧PB c∧ ∀i j,i<rows.length→j<sz→w.cell? ⟨c,o+(i*sz+j),none⟩=some (vs i j))
   (hrel: ∀(i j:Nat) (row:List AV) (a:AV),rows[i]?=some row→row[j]?=some a→aL w PB (fun _=>False) a (vs i j)):
   aL w PA PF (.aJ rows full fresh) (.slice A rows.length cap)
 | c3 {PA PF:Nat→Prop} {cells:List AV} {col c o:Nat} {vs:Nat→Value} (hc:PA c)
   (dL: ∀j,j<cells.length→w.cell? ⟨c,o+j,none⟩=some (vs j))
   (hrel: ∀(j:Nat) (a:AV),cells[j]?=some a→aL w PA (fun _=>False) a (vs j)):aL w PA PF (.c3 cells col) (.pointer (some ⟨c,o+col,none⟩))
 | fD {PA PF:Nat→Prop}:aL w PA PF .fD (.pointer none)
 | fT {PA PF:Nat→Prop}:aL w PA PF .fT .nilIface
 | fn {PA PF:Nat→Prop} {f:FuncId} {caps:List AV} {vs:List Value} (ao:caps.length=vs.length)
   (hrel: ∀(i:Nat) (a:AV) (v:Value),caps[i]?=some a→vs[i]?=some v→aL w PA (fun _=>False) a v):aL w PA PF (.fn f caps) (.func (.func f) #[] vs.toArray)
theorem Me {w w':World} {c o:Nat} (h:w'.heap[c]?=w.heap[c]?):w'.cell? ⟨c,o,none⟩=w.cell? ⟨c,o,none⟩:=by
 simp[World.cell?,h]
theorem aL.mono {w w':World} {PA PF:Nat→Prop} {a:AV} {v:Value} (h:aL w PA PF a v):
  ∀{yH yI:Nat→Prop},(∀c,PA c→w'.heap[c]?=w.heap[c]?)→(∀c,PF c→w'.heap[c]?=w.heap[c]?)→(∀c,PA c→yH c)→(∀c,PF c→yI c)→aL w' yH yI a v:=by
 induction h with
 | undef v=>intros;exact .undef v
 | int k n=>intros;exact .int k n
 | bool b=>intros;exact .bool b
 | str s=>intros;exact .str s
 | @aJ PA PF PB rows full fresh A cap sz vs eR eZ fB b3 dL hrel bn=>
  intro yH yI hw Hn ap hf
  have Nw: ∀c,PB c→w'.heap[c]?=w.heap[c]?:=fun c hc=>by
   have:=eR c hc
   split at this
   ·exact Hn c this
   ·exact hw c this
  refine .aJ (PB:=PB) (sz:=sz) (vs:=vs) (fun c hc=> ?_) eZ fB b3 (fun ad=> ?_) (fun i j row a ai af=> ?_)
  ·have:=eR c hc
   split
   ·rename_i h;rw[if_pos h] at this;exact hf c this
   ·rename_i h;rw[if_neg h] at this;exact ap c this
  ·obtain⟨c,o,e,hc,dU⟩:=dL ad
   exact⟨c,o,e,hc,fun i j hi af=>by rw[Me (Nw c hc)];exact dU i j hi af⟩
  ·exact bn i j row a ai af Nw (fun c hc=>hc.elim) (fun c hc=>hc) (fun c hc=>hc)
 | @c3 PA PF cells col c o vs hc dL hrel bn=>
  intro yH yI hw Hn ap hf
  refine .c3 (ap c hc) (vs:=vs) (fun j af=> ?_) (fun j a af=>bn j a af hw (fun c hc=>hc.elim) ap (fun c hc=>hc))
  rw[Me (hw c hc)];exact dL j af
 | fD=>intros;exact .fD
 | fT=>intros;exact .fT
 | fn ao hrel bn=>
  intro yH yI hw Hn ap hf
  exact .fn ao (fun i a v h1 h2=>bn i a v h1 h2 hw (fun c hc=>hc.elim) ap (fun c hc=>hc))
theorem aL.one {w:World} {PA PF:Nat→Prop} {a:AV} {v:Value} (h:aL w PA PF a v) (hu:a≠ .undef):v.oneCell'=true:=by
 cases h<;>first | rfl | exact absurd rfl hu
structure Env where
 w:World
 PA:Nat→Prop
 PF:Nat→Prop
 m:Nat→Option (Option Nat)
 a6:Nat→Nat
 sz:Nat→Nat
 cp:Nat→Nat
 mL:Nat→Option Nat
def ey (E:Env):AV→Value→Prop
 | .ref b g off n full,v=>(g<E.a6 b∧ ∃A cap,v= .slice A n cap)∨(g=E.a6 b∧((E.m b=some none∧off=0∧n=0∧ ∃A,v= .slice A 0 0)∨
   ∃c cap,E.m b=some (some c)∧v= .slice (some ⟨c,off*E.sz b,none⟩) n cap∧n≤cap∧(full=true→cap=n)∧off+cap≤E.cp b))
 | .ptr b g r c,v=>(g<E.a6 b∧ ∃bl o,v= .pointer (some ⟨bl,o,none⟩))∨(g=E.a6 b∧ ∃bl,E.m b=some (some bl)∧v= .pointer (some ⟨bl,r*E.sz b+c,none⟩))
 | .e4 t c,v=> ∃bl,E.mL t=some bl∧v= .pointer (some ⟨bl,c,none⟩)
 | a,v=>aL E.w E.PA E.PF a v
def bQ (E:Env):AV→Value→Prop
 | .fn f caps,v=> ∃vs:List Value,v= .func (.func f) #[] vs.toArray∧az (ey E) caps vs
 | a,v=>ey E a v
def V2 (E:Env):AV→Value→Prop
 | .agg cells,v=> ∃vs:List Value,v= .agg vs.toArray∧az (bQ E) cells vs
 | a,v=>bQ E a v
def V3 (E:Env):AV→Value→Prop
 | .tup l,v=> ∃vs:List Value,v= .tuple vs.toArray∧az (V2 E) l vs
 | a,v=>V2 E a v
def Plain (w:World) (c:Nat):Prop:= ∃aj ty,w.heap[c]?=some (.cells aj ty (0,0))
theorem Plain.same {w w':World} {c:Nat} (h:Plain w c) (e:w'.heap[c]?=w.heap[c]?):Plain w' c:=by
 obtain⟨aj,ty,h⟩:=h;exact⟨aj,ty,e.trans h⟩
structure Env.gh (E E':Env):Prop where
 fp: ∀c,E.PA c→E'.PA c
 e6: ∀c,E.PF c→E'.PF c
 tr: ∀c,E.PA c→E'.w.heap[c]?=E.w.heap[c]?
 wf: ∀c,E.PF c→E'.w.heap[c]?=E.w.heap[c]?
 a6: ∀b,E.a6 b≤E'.a6 b
 m: ∀b x,E.m b=some x→E'.a6 b=E.a6 b→E'.m b=some x∧E'.sz b=E.sz b∧E'.cp b=E.cp b
 mL: ∀t c,E.mL t=some c→E'.mL t=some c
theorem Env.gh.refl (E:Env):E.gh E:=⟨fun _ h=>h,fun _ h=>h,fun _ _=>rfl,fun _ _=>rfl,fun _=>Nat.le_refl _,fun _ _ h _=>⟨h,rfl,rfl⟩,fun _ _ h=>h⟩
theorem Env.gh.trans {A B C:Env} (h:A.gh B) (k:B.gh C):A.gh C:=
 ⟨fun c x=>k.fp c (h.fp c x),fun c x=>k.e6 c (h.e6 c x),fun c x=>(k.tr c (h.fp c x)).trans (h.tr c x),fun c x=>(k.wf c (h.e6 c x)).trans (h.wf c x),
  fun b=>Nat.le_trans (h.a6 b) (k.a6 b),fun b x hx aB=>by
   have h1:B.a6 b=A.a6 b:=Nat.le_antisymm (aB▸k.a6 b) (h.a6 b)
   have h2:C.a6 b=B.a6 b:=aB.trans h1.symm
   obtain⟨aW,s1,bc⟩:=h.m b x hx h1
   obtain⟨bq,s2,a8⟩:=k.m b x aW h2
   exact⟨bq,s2.trans s1,a8.trans bc⟩,
  fun t c x=>k.mL t c (h.mL t c x)⟩
theorem ey.le {E E':Env} (h:E.gh E') {a:AV} {v:Value} (hv:ey E a v):ey E' a v:=by
 have mf: ∀a v,aL E.w E.PA E.PF a v→aL E'.w E'.PA E'.PF a v:=fun a v k=>k.mono h.tr h.wf h.fp h.e6
 cases a with
 | ref b g off n full=>
  rcases hv with⟨hv,h1⟩ | ⟨aB,hv⟩
  ·exact .inl ⟨Nat.lt_of_lt_of_le hv (h.a6 b),h1⟩
  ·rcases Nat.lt_or_ge (E.a6 b) (E'.a6 b) with aN | fO
   ·refine .inl ⟨aB▸aN,?_⟩
    rcases hv with⟨hm,ar,rfl,A,rfl⟩ | ⟨c,cap,hm,rfl,h1,h2,ay⟩<;>exact⟨_,_,rfl⟩
   ·have he:E'.a6 b=E.a6 b:=Nat.le_antisymm fO (h.a6 b)
    refine .inr ⟨by rw[he];exact aB,?_⟩
    rcases hv with⟨hm,ar,ad,A,cE⟩ | ⟨c,cap,hm,e,h1,h2,ay⟩
    ·exact .inl ⟨(h.m b _ hm he).1,ar,ad,A,cE⟩
    ·obtain⟨aW,s1,bc⟩:=h.m b _ hm he
     exact .inr ⟨c,cap,aW,by rw[s1];exact e,h1,h2,by rw[bc];exact ay⟩
 | ptr b g r c=>
  rcases hv with⟨hv,h1⟩ | ⟨aB,bl,hm,e⟩
  ·exact .inl ⟨Nat.lt_of_lt_of_le hv (h.a6 b),h1⟩
  ·rcases Nat.lt_or_ge (E.a6 b) (E'.a6 b) with aN | fO
   ·exact .inl ⟨aB▸aN,_,_,e⟩
   ·have he:E'.a6 b=E.a6 b:=Nat.le_antisymm fO (h.a6 b)
    obtain⟨aW,s1,bc⟩:=h.m b _ hm he
    exact .inr ⟨by rw[he];exact aB,bl,aW,by rw[s1];exact e⟩
 | e4 t c=>
  obtain⟨bl,hm,e⟩:=hv
  exact⟨bl,h.mL _ _ hm,e⟩
 | _=>exact mf _ _ hv
theorem pQ {E:Env} {a:AV} {v:Value} (h: ∀f caps,a≠ .fn f caps):bQ E a v=ey E a v:=by
 cases a<;>first | rfl | exact absurd rfl (h _ _)
theorem n6 {E:Env} {a:AV} {v:Value} (h: ∀l,a≠ .agg l):V2 E a v=bQ E a v:=by
 cases a<;>first | rfl | exact absurd rfl (h _)
theorem n7 {E:Env} {a:AV} {v:Value} (h: ∀l,a≠ .tup l):V3 E a v=V2 E a v:=by
 cases a<;>first | rfl | exact absurd rfl (h _)
theorem bQ.le {E E':Env} (h:E.gh E') {a:AV} {v:Value} (hv:bQ E a v):bQ E' a v:=by
 by_cases hf: ∃f caps,a= .fn f caps
 ·obtain⟨f,caps,rfl⟩:=hf
  obtain⟨vs,e,ab⟩:=hv
  exact⟨vs,e,ab.mono fun _ _ k=>k.le h⟩
 ·rw[pQ fun f c e=>hf ⟨f,c,e⟩] at hv ⊢
  exact hv.le h
theorem V2.le {E E':Env} (h:E.gh E') {a:AV} {v:Value} (hv:V2 E a v):V2 E' a v:=by
 by_cases hf: ∃l,a= .agg l
 ·obtain⟨l,rfl⟩:=hf
  obtain⟨vs,e,ab⟩:=hv
  exact⟨vs,e,ab.mono fun _ _ k=>k.le h⟩
 ·rw[n6 fun l e=>hf ⟨l,e⟩] at hv ⊢
  exact hv.le h
theorem V3.le {E E':Env} (h:E.gh E') {a:AV} {v:Value} (hv:V3 E a v):V3 E' a v:=by
 by_cases hf: ∃l,a= .tup l
 ·obtain⟨l,rfl⟩:=hf
  obtain⟨vs,e,ab⟩:=hv
  exact⟨vs,e,ab.mono fun _ _ k=>k.le h⟩
 ·rw[n7 fun l e=>hf ⟨l,e⟩] at hv ⊢
  exact hv.le h
theorem aL.v0 {E:Env} {a:AV} {v:Value} (h:aL E.w E.PA E.PF a v):ey E a v:=by
 cases a<;>first | exact h | cases h
theorem aL.v1 {E:Env} {a:AV} {v:Value} (h:aL E.w E.PA E.PF a v):bQ E a v:=by
 by_cases hf: ∃f caps,a= .fn f caps
 ·obtain⟨f,caps,rfl⟩:=hf
  cases h with
  | fn ao hrel=>exact⟨_,rfl,ao,fun i a v h1 h2=>((hrel i a v h1 h2).mono (fun _ _=>rfl) (fun _ h=>h.elim) (fun _ h=>h) (fun _ h=>h.elim)).v0⟩
 ·rw[pQ fun f c e=>hf ⟨f,c,e⟩]
  exact h.v0
theorem bQ.undef (E:Env) (v:Value):bQ E .undef v:=aL.undef v
theorem V3.undef (E:Env) (v:Value):V3 E .undef v:=aL.undef v
def AV.Wd:AV→Bool
 | .undef | .agg _ | .tup _=>false
 | _=>true
theorem bQ.one {E:Env} {a:AV} {v:Value} (h:bQ E a v) (hc:a.Wd=true):True:=trivial
def dT:List (Nat×List AV)→Nat→Option (List AV)
 | [],_=>none
 | (k,c)::l,t=>if t=k then some c else dT l t
def kA:List (Nat×List AV)→Nat→List AV→List (Nat×List AV)
 | [],_,_=>[]
 | (k,c)::l,t,d=>if t=k then(k,d)::l else(k,c)::kA l t d
def Env.fl (E:Env) (c:Nat):Prop:= ∃b,E.m b=some (some c)
def Env.kc (E:Env) (c:Nat):Prop:= ∃t,E.mL t=some c
def Env.bO (E:Env):Env:={E with mL:=fun _=>none}
theorem Env.Dj (E:Env):E.bO.gh E:=⟨fun _ h=>h,fun _ h=>h,fun _ _=>rfl,fun _ _=>rfl,fun _=>Nat.le_refl _,fun _ _ h _=>⟨h,rfl,rfl⟩,fun _ _ h=>by cases h⟩
theorem Env.gh.bO {E E':Env} (h:E.gh E'):E.bO.gh E'.bO:=⟨h.fp,h.e6,h.tr,h.wf,h.a6,h.m,fun _ _ h=>by cases h⟩
def vN (E:Env) (sz:Nat) (rows:List (List AV)) (aj:Array Value):Prop:=
 (∀(i:Nat) (row:List AV),rows[i]?=some row→row.length=sz)∧
 ∀(i j:Nat) (row:List AV) (a:AV),rows[i]?=some row→row[j]?=some a→ ∃u,aj[i*sz+j]?=some u∧bQ E.bO a u
structure SimH (E:Env) (H:List Blk):Prop where
 heap: ∀b c,E.m b=some (some c)→ ∃blk aj ty,H[b]?=some blk∧E.sz b=blk.sz∧E.w.heap[c]?=some (.cells aj ty (0,0))∧aj.size=E.cp b*E.sz b∧blk.rows.length≤E.cp b∧vN E (E.sz b) blk.rows aj
 eG: ∀(b:Nat) (blk:Blk),H[b]?=some blk→E.a6 b=blk.a6
 gO: ∀b,E.m b=some none→ ∃blk,H[b]?=some blk∧E.sz b=blk.sz
 fresh: ∀b,H.length≤b→E.m b=none∧E.a6 b=0
 gD: ∀b bH c,E.m b=some (some c)→E.m bH=some (some c)→b=bH
 iZ: ∀t hr c,E.mL t=some c→E.mL hr=some c→t=hr
 gl: ∀b t c,E.m b=some (some c)→E.mL t=some c→False
 hl: ∀c,E.PA c→ ¬E.fl c
 hR: ∀c,E.PA c→ ¬E.kc c
 dm: ∀c,E.PF c→E.PA c
 fg: ∀c,E.PF c→Plain E.w c
 du: ∀c,E.PA c→c<E.w.heap.size
 fm: ∀c,E.fl c→c<E.w.heap.size
 gb: ∀c,E.kc c→c<E.w.heap.size
def SimL (E:Env) (L:List (Nat×List AV)):Prop:=
 ∀t c,E.mL t=some c→ ∃cells aj ty,dT L t=some cells∧E.w.heap[c]?=some (.cells aj ty (0,0))∧az (bQ E.bO) cells aj.toList
structure tD (E:Env) (al:St) (tmps:Array Value):Prop where
 h:SimH E al.H
 l:SimL E al.L
 hT: ∀t,V3 E (al.T.getD t .undef) (tmps.getD t undef)
 size:al.T.length=tmps.size
structure Step (E E':Env):Prop where
 le:E.gh E'
 os:E'.w.os=E.w.os
 tape:E'.w.tape=E.w.tape
 output:E'.w.output=E.w.output
 size:E.w.heap.size≤E'.w.heap.size
 cM: ∀c,c<E.w.heap.size→ ¬E.fl c→ ¬E.kc c→E'.w.heap[c]?=E.w.heap[c]?
 iB: ∀b c,E'.m b=some (some c)→E.m b=some (some c)∨E.w.heap.size≤c
 iY: ∀c,E'.kc c→E.kc c∨E.w.heap.size≤c
 fp: ∀c,E'.PA c→E.PA c∨E.w.heap.size≤c
 e6: ∀c,E'.PF c→E.PF c∨E.w.heap.size≤c
theorem Step.oj {E E':Env} (h:Step E E'): ∀c,E'.fl c→E.fl c∨E.w.heap.size≤c:=fun c ⟨b,hb⟩=>(h.iB b c hb).elim (fun h=> .inl ⟨b,h⟩) .inr
theorem Step.refl (E:Env):Step E E:=⟨.refl E,rfl,rfl,rfl,Nat.le_refl _,fun _ _ _ _=>rfl,fun _ _ h=> .inl h,fun _ h=> .inl h,fun _ h=> .inl h,fun _ h=> .inl h⟩
theorem Step.trans {A B C:Env} (h:Step A B) (k:Step B C):Step A C where
 le:=h.le.trans k.le
 os:=k.os.trans h.os
 tape:=k.tape.trans h.tape
 output:=k.output.trans h.output
 size:=Nat.le_trans h.size k.size
 cM:=fun c hc h1 h2=>by
  rw[k.cM c (Nat.lt_of_lt_of_le hc h.size) (fun x=>(h.oj c x).elim h1 (fun y=>absurd hc (Nat.not_lt.2 y))) (fun x=>(h.iY c x).elim h2 (fun y=>absurd hc (Nat.not_lt.2 y)))]
  exact h.cM c hc h1 h2
 iB:=fun b c x=>(k.iB b c x).elim (fun y=>h.iB b c y) (fun y=> .inr (Nat.le_trans h.size y))
 iY:=fun c x=>(k.iY c x).elim (fun y=>h.iY c y) (fun y=> .inr (Nat.le_trans h.size y))
 fp:=fun c x=>(k.fp c x).elim (fun y=>h.fp c y) (fun y=> .inr (Nat.le_trans h.size y))
 e6:=fun c x=>(k.e6 c x).elim (fun y=>h.e6 c y) (fun y=> .inr (Nat.le_trans h.size y))
class cl where
 n:Nat
structure Good [ie:cl] (b7 E:Env):Prop where
 Aa: ∀b,ie.n≤b→b7.m b=none∧b7.a6 b=0
 bO: ∀t,b7.mL t=none
 le:b7.gh E
 os:E.w.os=b7.w.os
 tape:E.w.tape=b7.w.tape
 output:E.w.output=b7.w.output
 size:b7.w.heap.size≤E.w.heap.size
 cM: ∀c,c<b7.w.heap.size→ ¬b7.fl c→E.w.heap[c]?=b7.w.heap[c]?
 iB: ∀b c,E.m b=some (some c)→b7.m b=some (some c)∨b7.w.heap.size≤c
 iY: ∀c,E.kc c→b7.w.heap.size≤c
 fp: ∀c,E.PA c→b7.PA c∨b7.w.heap.size≤c
 e6: ∀c,E.PF c→b7.PF c∨b7.w.heap.size≤c
section
variable [ie:cl]
theorem Good.oj {b7 E:Env} (h:Good b7 E): ∀c,E.fl c→b7.fl c∨b7.w.heap.size≤c:=fun c ⟨b,hb⟩=>(h.iB b c hb).elim (fun h=> .inl ⟨b,h⟩) .inr
theorem Good.refl {E:Env} (hu: ∀b,ie.n≤b→E.m b=none∧E.a6 b=0) (h: ∀t,E.mL t=none):Good E E:=
 ⟨hu,h,.refl E,rfl,rfl,rfl,Nat.le_refl _,fun _ _ _=>rfl,fun _ _ x=> .inl x,(fun c ⟨t,x⟩=>by rw[h t] at x;cases x),fun _ x=> .inl x,fun _ x=> .inl x⟩
theorem Good.step {b7 E E':Env} (h:Good b7 E) (k:Step E E'):Good b7 E' where
 Aa:=h.Aa
 bO:=h.bO
 le:=h.le.trans k.le
 os:=k.os.trans h.os
 tape:=k.tape.trans h.tape
 output:=k.output.trans h.output
 size:=Nat.le_trans h.size k.size
 cM:=fun c hc h1=>by
  rw[k.cM c (Nat.lt_of_lt_of_le hc h.size) (fun x=>(h.oj c x).elim h1 (fun y=>absurd hc (Nat.not_lt.2 y))) (fun x=>absurd hc (Nat.not_lt.2 (h.iY c x)))]
  exact h.cM c hc h1
 iB:=fun b c x=>(k.iB b c x).elim (fun y=>h.iB b c y) (fun y=> .inr (Nat.le_trans h.size y))
 iY:=fun c x=>(k.iY c x).elim (fun y=>h.iY c y) (fun y=>Nat.le_trans h.size y)
 fp:=fun c x=>(k.fp c x).elim (fun y=>h.fp c y) (fun y=> .inr (Nat.le_trans h.size y))
 e6:=fun c x=>(k.e6 c x).elim (fun y=>h.e6 c y) (fun y=> .inr (Nat.le_trans h.size y))
end
def US (ex:Exit):Bool:=match ex with
 | .normal | .exit _ | .ret=>true
 | _=>false
def mK [cl] (b7:Env) (Q:Exit→St→Prop) (ex:Exit) (a:Act) (w:World):Prop:=
 US ex=true∧ ∃al E,Q ex al∧E.w=w∧Good b7 E∧tD E al a.tmps∧a.defers=[]
def WpS [cl] (P:Program) (c:Code) (Q:Exit→St→Prop) (al:St):Prop:=
 ∀(b7 E:Env) (a:Act),Good b7 E→tD E al a.tmps→a.defers=[]→c.wp P (mK b7 Q) a E.w
def Weak [cl] (al kE:St):Prop:= ∀(b7 E:Env) (tmps:Array Value),Good b7 E→tD E al tmps→ ∃E',E'.w=E.w∧Good b7 E'∧tD E' kE tmps
theorem Weak.refl [cl] (al:St):Weak al al:=fun b7 E tmps g h=>⟨E,rfl,g,h⟩
theorem Weak.trans [cl] {a b c:St} (h:Weak a b) (k:Weak b c):Weak a c:=fun b7 E tmps g s=>by
 obtain⟨E1,ax,g1,s1⟩:=h b7 E tmps g s
 obtain⟨qI,e2,g2,s2⟩:=k b7 E1 tmps g1 s1
 exact⟨qI,e2.trans ax,g2,s2⟩
section
variable [cl] {P:Program} {Q vL:Exit→St→Prop} {al:St}
theorem WpS.mono {c:Code} (h:WpS P c Q al) (U: ∀e s,Q e s→vL e s):WpS P c vL al:=fun b7 E a g s d=>
 wp_mono (h b7 E a g s d) fun e a w ⟨h1,al,E,h2,ay⟩=>⟨h1,al,E,U _ _ h2,ay⟩
theorem WpS.r9 {c:Code} {kE:St} (h:WpS P c Q kE) (k:Weak al kE):WpS P c Q al:=fun b7 E a g s d=>by
 obtain⟨E1,ax,g1,s1⟩:=k b7 E a.tmps g s
 exact ax▸h b7 E1 a g1 s1 d
theorem WpS.skip (h:Q .normal al):WpS P .skip Q al:=fun b7 E a g s d=>wp_skip ⟨rfl,al,E,h,rfl,g,s,d⟩
theorem WpS.ret (h:Q .ret al):WpS P .ret Q al:=fun b7 E a g s d=>wp_ret ⟨rfl,al,E,h,rfl,g,s,d⟩
theorem WpS.exit {id:Nat} (h:Q (.exit id) al):WpS P (.exit id) Q al:=fun b7 E a g s d=>wp_exit ⟨rfl,al,E,h,rfl,g,s,d⟩
def eE (P:Program) (y:Code) (Q:Exit→St→Prop) (ex:Exit) (s:St):Prop:=match ex with
 | .normal=>WpS P y Q s
 | ex=>Q ex s
theorem WpS.seq {x y:Code} (h:WpS P x (eE P y Q) al):WpS P (.seq x y) Q al:=fun b7 E a g s d=>
 wp_seq (wp_mono (h b7 E a g s d) fun e gi w' ⟨h1,kE,E',h2,ay,bg,cW,e1⟩=>by
  cases e with
  | normal=>subst ay;exact h2 b7 E' gi bg cW e1
  | exit id=>exact⟨rfl,kE,E',h2,ay,bg,cW,e1⟩
  | ret=>exact⟨rfl,kE,E',h2,ay,bg,cW,e1⟩
  | _=>cases h1)
def eh (id:Nat) (Q:Exit→St→Prop) (ex:Exit) (s:St):Prop:=match ex with
 | .exit fk=>if fk=id then Q .normal s else Q (.exit fk) s
 | ex=>Q ex s
theorem WpS.block {id:Nat} {c:Code} (h:WpS P c (eh id Q) al):WpS P (.block id c) Q al:=fun b7 E a g s d=>
 wp_block (wp_mono (h b7 E a g s d) fun e gi w' ⟨h1,kE,E',h2,ay⟩=>by
  cases e with
  | normal=>exact⟨rfl,kE,E',h2,ay⟩
  | exit fk=>
   by_cases hid:fk=id
   ·subst hid
    have oe:(if fk=fk then Q .normal kE else Q (.exit fk) kE):=h2
    rw[if_pos rfl] at oe
    show(if fk=fk then _ else _)
    rw[if_pos rfl];exact⟨rfl,kE,E',oe,ay⟩
   ·have oe:(if fk=id then Q .normal kE else Q (.exit fk) kE):=h2
    rw[if_neg hid] at oe
    show(if fk=id then _ else _)
    rw[if_neg hid];exact⟨rfl,kE,E',oe,ay⟩
  | ret=>exact⟨rfl,kE,E',h2,ay⟩
  | _=>cases h1)
end
def ob:Value→AV
 | .int k n=> .int k n
 | .bool b=> .bool b
 | .string s=> .str s
 | .slice none 0 0=> .aJ [] true true
 | .pointer none=> .fD
 | .nilIface=> .fT
 | _=> .undef
def bY (T:List AV):Operand→AV
 | .tmp t=>T.getD t .undef
 | .const v=>ob v
 | .func f=> .fn f []
 | .global _=> .undef
theorem WI (E:Env) (v:Value):V3 E (ob v) v:=by
 unfold ob
 split
 ·exact aL.int _ _
 ·exact aL.bool _
 ·exact aL.str _
 ·exact aL.aJ (PB:=fun _=>False) (sz:=0) (vs:=fun _ _=>undef) (fun _ h=>h.elim) ⟨Nat.le_refl _,Nat.zero_le _⟩ (fun _=>rfl) (fun i row h=>by simp at h) (fun h=>by simp at h) (fun i j row a h=>by simp at h)
 ·exact aL.fD
 ·exact aL.fT
 ·exact aL.undef _
theorem opv_rel {E:Env} {T:List AV} {a:Act} (h: ∀t,V3 E (T.getD t .undef) (a.tmps.getD t undef)) (x:Operand):V3 E (bY T x) (a.eval x):=by
 cases x with
 | tmp t=>exact h t
 | const v=>exact WI E v
 | global g=>exact aL.undef _
 | func f=>exact⟨[],rfl,az.nil⟩
def yR (b:Bool) (x y:Prop):Prop:=(b=true→x)∧(b=false→y)
def n_ (v:AV) (k:Bool→Prop):Prop:=match v with
 | .bool b=>k b
 | _=>False
theorem Bv {v:AV} {k:Bool→Prop} (h:n_ v k): ∃b,v= .bool b∧k b:=by
 cases v<;>first | exact⟨_,rfl,h⟩ | exact h.elim
theorem V3.nn {E:Env} {b:Bool} {v:Value} (h:V3 E (.bool b) v):v= .bool b:=by
 have h':aL E.w E.PA E.PF (.bool b) v:=h
 cases h';rfl
theorem V3.nI {E:Env} {k:IntKind} {n:Int} {v:Value} (h:V3 E (.int k n) v):v= .int k n:=by
 have h':aL E.w E.PA E.PF (.int k n) v:=h
 cases h';rfl
theorem V3.x4 {E:Env} {s:ByteArray} {v:Value} (h:V3 E (.str s) v):v= .string s:=by
 have h':aL E.w E.PA E.PF (.str s) v:=h
 cases h';rfl
section
variable [cl] {P:Program} {Q vL:Exit→St→Prop} {al:St}
theorem WpS.cond {c:Operand} {x y:Code} (h:n_ (bY al.T c) fun b=>yR b (WpS P x Q al) (WpS P y Q al)):WpS P (.cond c x y) Q al:=fun b7 E a g s d=>by
 obtain⟨b,hb,h1,h2⟩:=Bv h
 have hv:=opv_rel s.hT c
 rw[hb] at hv
 have he:a.eval c= .bool b:=V3.nn hv
 exact wp_cond_split he (fun e=>h1 e b7 E a g s d) (fun e=>h2 e b7 E a g s d)
def Vg (I:Nat→St→Prop) (n:Nat) (Q:Exit→St→Prop) (ex:Exit) (s:St):Prop:=match ex with
 | .normal=> ∃jb s',jb<n∧Weak s s'∧I jb s'
 | ex=>Q ex s
theorem WpS.loop {c:Code} (I:Nat→St→Prop) (n:Nat) (au:I n al) (round: ∀n s,I n s→WpS P c (Vg I n Q) s):WpS P (.loop c) Q al:=by
 intro b7 E a g s d b k aj
 have key: ∀n (a:Act) (E:Env) al,I n al→Good b7 E→tD E al a.tmps→a.defers=[]→
   ∃e gi w',mK b7 Q e gi w'∧Arrives P (lone (b.at a (.code c:: .inLoop c::k)) aj E.w) b k aj e gi w':=by
  intro n
  induction n using Nat.strongRecOn with
  | _ n bn=>
   intro a E al aR g s d
   obtain⟨e,Bw,UF,U,zh⟩:=round n al aR b7 E a g s d b (.inLoop c::k) aj
   obtain⟨he,T_,E1,U,hw,g1,s1,d1⟩:=U
   cases e with
   | normal=>
    obtain⟨jb,s',aN,ZZ,zd⟩:=U
    obtain⟨qI,e2,g2,s2⟩:=ZZ b7 E1 Bw.tmps g1 s1
    obtain⟨Xc,Vw,aie,ZK,NE⟩:=bn jb aN Bw qI s' zd g2 s2 d1
    rw[e2,hw] at NE
    exact⟨Xc,Vw,aie,ZK,.of_steps (Steps.trans zh (.one step_inLoop)) NE⟩
   | exit id=>exact⟨_,Bw,UF,⟨rfl,T_,E1,U,hw,g1,s1,d1⟩,.pass (x:= .inLoop c) rfl (fun _ _=> .inl (by simp)) zh⟩
   | ret=>exact⟨_,Bw,UF,⟨rfl,T_,E1,U,hw,g1,s1,d1⟩,.pass (x:= .inLoop c) rfl (fun _ _=> .inl (by simp)) zh⟩
   | _=>cases he
 obtain⟨e,gi,w',U,zh⟩:=key n a E al au g s d
 exact⟨e,gi,w',U,.of_steps (.one step_loop) zh⟩
end
def cD {α:Type} (o:Option α) (k:α→Prop):Prop:=match o with
 | some a=>k a
 | none=>False
theorem e5 {α:Type} {o:Option α} {k:α→Prop} (h:cD o k): ∃a,o=some a∧k a:=by
 cases o with
 | none=>exact h.elim
 | some a=>exact⟨a,rfl,h⟩
theorem dF {α:Type} {o:Option α} {k:α→Prop} {a:α} (h:o=some a) (hk:k a):cD o k:=by rw[h];exact hk
def eo (b:Bool) (x:Prop):Prop:=match b with
 | true=>x
 | false=>False
theorem pu {b:Bool} {x:Prop} (h:eo b x):b=true∧x:=by
 cases b with
 | true=>exact⟨rfl,h⟩
 | false=>exact h.elim
def w_ (P:Program) (t:TypeId):Bool:=match P.underlying t with
 | some (.struct _) | some (.array _ _)=>true
 | _=>false
def zS (P:Program) (t:TypeId):Bool:=(P.underlying t).isSome
theorem run_underlying {P:Program} {t:TypeId} {w:World} {d:TypeDesc} (h:P.underlying t=some d):(underlying t).run P w= .ok d w:=by
 simp[Go.underlying,h]
theorem Ss {P:Program} {t:TypeId} {w:World} (h:zS P t=true):(isAgg t).run P w= .ok (w_ P t) w:=by
 unfold zS at h
 cases aO:P.underlying t with
 | none=>simp[aO] at h
 | some d=>
  simp only[Go.isAgg,Sem.run_bind,run_underlying aO,Result.andThen_ok,w_,aO]
  cases d<;>rfl
theorem run_sizeOf {P:Program} {t:TypeId} {w:World} (h:(P.info? t).isSome=true):(sizeOf t).run P w= .ok (P.cellsOf t) w:=by
 cases hi:P.info? t with
 | none=>simp[hi] at h
 | some i=>simp[Go.sizeOf,typeInfo,hi,Program.cellsOf]
theorem abq {P:Program} {t:TypeId} (h:zS P t=true):(P.info? t).isSome=true:=by
 unfold zS Program.underlying at h
 cases hi:P.info? t with
 | none=>simp[hi] at h
 | some i=>rfl
def iJ (P:Program) (t:TypeId) (cells:List AV) (c:Nat) (K:AV→Prop):Prop:=
 if zS P t=true then
  (if w_ P t=true then(if c+P.cellsOf t≤cells.length then K (.agg ((cells.drop c).take (P.cellsOf t))) else False)
   else cD cells[c]? K)
 else False
def oo (P:Program) (t:TypeId) (x:AV) (L:List (Nat×List AV)) (H:List Blk) (K:AV→Prop):Prop:=match x with
 | .e4 s c=>cD (dT L s) fun cells=>iJ P t cells c K
 | .ptr b g r c=>cD H[b]? fun blk=>blk.a6=g∧cD blk.rows[r]? fun row=>iJ P t row c K
 | .c3 cells c=>iJ P t cells c K
 | _=>False
theorem nl (c o n:Nat):(⟨c,o,none⟩:Addr).add n=⟨c,o+n,none⟩:=by
 unfold Addr.add;split
 ·subst_vars;rfl
 ·rfl
theorem K8 {P:Program} {t:TypeId} {cells:List AV} {c bl o:Nat} {K:AV→Prop} {w:World} {R:AV→Value→Prop}
  (hc: ∀(j:Nat) (a:AV),cells[j]?=some a→ ∃u,w.cell? ⟨bl,o+j,none⟩=some u∧R a u) (h:iJ P t cells c K):
  ∃a v,K a∧(loadVar t ⟨bl,o+c,none⟩).run P w= .ok v w∧
   ((∃l vs,a= .agg l∧v= .agg (List.toArray vs)∧az R l vs)∨R a v):=by
 unfold iJ at h
 split at h
 ·rename_i hk
  split at h
  ·rename_i ap
   split at h
   ·rename_i ao
    let n:=P.cellsOf t
    have dU: ∀j,j<n→ ∃a u,cells[c+j]?=some a∧w.cell? ⟨bl,o+(c+j),none⟩=some u∧R a u:=by
     intro j af
     have iy:c+j<cells.length:=by show c+j<cells.length;have:n=P.cellsOf t:=rfl;omega
     obtain⟨u,h1,h2⟩:=hc (c+j) _ (List.getElem?_eq_getElem iy)
     exact⟨_,u,List.getElem?_eq_getElem iy,h1,h2⟩
    let f:Nat→Value:=fun j=>(w.cell? ⟨bl,o+(c+j),none⟩).getD undef
    have hf: ∀j,j<n→w.cell? ((⟨bl,o+c,none⟩:Addr).add j)=some (f j):=by
     intro j af
     obtain⟨a,u,_,h1,_⟩:=dU j af
     rw[nl,Nat.add_assoc]
     show _=some ((w.cell? ⟨bl,o+(c+j),none⟩).getD undef)
     rw[h1];rfl
    refine⟨_,.agg ((List.range n).map f).toArray,h,?_,.inl ⟨_,(List.range n).map f,rfl,rfl,?_,?_⟩⟩
    ·simp only[loadVar,Sem.run_bind,Ss hk,Result.andThen_ok,ap,if_true,run_sizeOf (abq hk)]
     rw[run_loadCells w _ n f hf]
     rfl
    ·simp only[List.length_take,List.length_drop,List.length_map,List.length_range];show min n _=n;have:n=P.cellsOf t:=rfl;omega
    ·intro i a b NR wG
     have hi:i<n:=by have:=(List.getElem?_eq_some_iff.1 wG).1;simpa using this
     obtain⟨gi,u,h1,h2,ay⟩:=dU i hi
     rw[List.getElem?_take,if_pos (show i<P.cellsOf t from hi),List.getElem?_drop,h1] at NR
     cases NR
     rw[List.getElem?_map,List.getElem?_range hi] at wG
     simp only[Option.map_some,Option.some.injEq] at wG
     have:f i=u:=by show(w.cell? ⟨bl,o+(c+i),none⟩).getD undef=u;rw[h2];rfl
     rw[←wG,this];exact ay
   ·exact h.elim
  ·rename_i ap
   obtain⟨a,tY,hK⟩:=e5 h
   obtain⟨u,h1,h2⟩:=hc c a tY
   refine⟨a,u,hK,?_,.inr h2⟩
   have YJ:w_ P t=false:=by cases hx:w_ P t<;>simp_all
   simp only[loadVar,Sem.run_bind,Ss hk,Result.andThen_ok,YJ]
   simp[h1]
 ·exact h.elim
theorem bQ.up {E:Env} {a:AV} {v:Value} (h:bQ E.bO a v):bQ E a v:=h.le E.Dj
theorem Vh {E:Env} {l:List AV} {v:Value} (h:bQ E (.agg l) v):False:=by
 have h':aL E.w E.PA E.PF (.agg l) v:=h
 cases h'
theorem Vi {E:Env} {l:List AV} {v:Value} (h:bQ E (.tup l) v):False:=by
 have h':aL E.w E.PA E.PF (.tup l) v:=h
 cases h'
theorem jD {E:Env} {a:AV} {v:Value} (h:bQ E a v):V2 E a v:=by
 by_cases hf: ∃l,a= .agg l
 ·obtain⟨l,rfl⟩:=hf;exact(Vh h).elim
 ·rw[n6 fun l e=>hf ⟨l,e⟩];exact h
theorem Vj {E:Env} {l:List AV} {v:Value} (h:V2 E (.tup l) v):False:=Vi (E:=E) (l:=l) (v:=v) h
theorem pR {E:Env} {a:AV} {v:Value} (h:V2 E a v):V3 E a v:=by
 by_cases hf: ∃l,a= .tup l
 ·obtain⟨l,rfl⟩:=hf;exact(Vj h).elim
 ·rw[n7 fun l e=>hf ⟨l,e⟩];exact h
theorem EU {E:Env} {a:AV} {v:Value} (h:(∃l vs,a= .agg l∧v= .agg (List.toArray vs)∧az (bQ E) l vs)∨bQ E a v):V2 E a v:=by
 rcases h with⟨l,vs,rfl,rfl,ab⟩ | h
 ·exact⟨vs,rfl,ab⟩
 ·exact jD h
theorem V3.zY {E:Env} {t c:Nat} {v:Value} (h:V3 E (.e4 t c) v): ∃bl,E.mL t=some bl∧v= .pointer (some ⟨bl,c,none⟩):=h
theorem V3.Dz {E:Env} {b g r c:Nat} {v:Value} (h:V3 E (.ptr b g r c) v) (aB:E.a6 b=g): ∃bl,E.m b=some (some bl)∧v= .pointer (some ⟨bl,r*E.sz b+c,none⟩):=by
 rcases(h:ey E (.ptr b g r c) v) with⟨h,_⟩ | ⟨_,h⟩
 ·omega
 ·exact h
theorem cell_of {w:World} {c o:Nat} {aj:Array Value} {ty:TypeId} {Nc:Nat×Nat} {u:Value} (h:w.heap[c]?=some (.cells aj ty Nc)) (hu:aj[o]?=some u):w.cell? ⟨c,o,none⟩=some u:=by
 simp[World.cell?,h,hu]
structure Sub (L:List (Nat×List AV)) (H:List Blk) (jY:List (Nat×List AV)) (eI:List Blk):Prop where
 l: ∀t c,dT L t=some c→dT jY t=some c
 h: ∀(b:Nat) (blk:Blk),H[b]?=some blk→eI[b]?=some blk
theorem Sub.refl (L:List (Nat×List AV)) (H:List Blk):Sub L H L H:=⟨fun _ _ h=>h,fun _ _ h=>h⟩
theorem QJ {P:Program} {t:TypeId} {x:AV} {L jY:List (Nat×List AV)} {H eI:List Blk} {K:AV→Prop} {E:Env} {v:Value}
  (sub:Sub L H jY eI) (an:SimH E eI) (bB:SimL E jY) (hx:V3 E x v) (h:oo P t x L H K):
  ∃a d_,K a∧(Instr.loadAt t v).run P E.w= .ok d_ E.w∧V2 E a d_:=by
 cases x with
 | e4 s c=>
  obtain⟨bl,hm,rfl⟩:=hx.zY
  obtain⟨cells,aj,ty,aB,hw,ab⟩:=bB s bl hm
  have h':cD (dT L s) fun cells=>iJ P t cells c K:=h
  obtain⟨wb,zo,h'⟩:=e5 h'
  obtain rfl:cells=wb:=by have:=sub.l _ _ zo;rw[aB] at this;exact Option.some.inj this
  obtain⟨a,d_,hK,ai,hv⟩:=K8 (o:=0) (bl:=bl) (w:=E.w) (R:=bQ E.bO) (fun j a af=>by
   obtain⟨u,hu,ai⟩:=ab.get af
   exact⟨u,by rw[Nat.zero_add];exact cell_of hw (by simpa using hu),ai⟩) h'
  rw[Nat.zero_add] at ai
  refine⟨a,d_,hK,?_,(EU hv).le E.Dj⟩
  simp only[Instr.loadAt,Instr.sureAddr,Sem.run_bind,Sem.run_pure,Result.andThen_ok,ai]
 | ptr b g r c=>
  obtain⟨blk,hb,aB,h2⟩:=e5 (show cD H[b]? fun blk=>blk.a6=g∧cD blk.rows[r]? fun row=>iJ P t row c K from h)
  obtain⟨row,eK,ay⟩:=e5 h2
  replace hb:=sub.h b blk hb
  have jI:=an.eG b blk hb
  obtain⟨bl,hm,rfl⟩:=hx.Dz (jI.trans aB)
  obtain⟨blk',aj,ty,dV,mb,hw,j8,hlen,fS⟩:=an.heap b bl hm
  obtain rfl:blk=blk':=by rw[hb] at dV;exact Option.some.inj dV
  obtain⟨a,d_,hK,ai,hv⟩:=K8 (o:=r*E.sz b) (bl:=bl) (w:=E.w) (R:=bQ E.bO) (fun j a af=>by
   obtain⟨u,hu,ai⟩:=fS.2 r j row a eK af
   exact⟨u,cell_of hw hu,ai⟩) ay
  refine⟨a,d_,hK,?_,(EU hv).le E.Dj⟩
  simp only[Instr.loadAt,Instr.sureAddr,Sem.run_bind,Sem.run_pure,Result.andThen_ok,ai]
 | c3 cells c=>
  have h4:aL E.w E.PA E.PF (.c3 cells c) v:=hx
  cases h4 with
  | @c3 _ _ _ _ bl o vs hc dL hrel=>
   have h':iJ P t cells c K:=h
   obtain⟨a,d_,hK,ai,hv⟩:=K8 (o:=o) (bl:=bl) (w:=E.w) (R:=aL E.w E.PA (fun _=>False)) (fun j a af=>
    ⟨vs j,dL j (List.getElem?_eq_some_iff.1 af).1,hrel j a af⟩) h'
   have up: ∀a v,aL E.w E.PA (fun _=>False) a v→bQ E a v:=fun a v ai=>(ai.mono (fun _ _=>rfl) (fun _ h=>h.elim) (fun _ h=>h) (fun _ h=>h.elim)).v1
   refine⟨a,d_,hK,?_,EU (hv.imp (fun⟨l,vs,h1,h2,ay⟩=>⟨l,vs,h1,h2,ay.mono up⟩) (up _ _))⟩
   simp only[Instr.loadAt,Instr.sureAddr,Sem.run_bind,Sem.run_pure,Result.andThen_ok,ai]
 | _=>exact h.elim
def vt:AV→Bool
 | .undef | .agg _ | .tup _ | .e4 _ _ | .fn _ _=>false
 | _=>true
def jg:AV→Bool
 | .fn _ caps=>caps.all vt
 | a=>vt a
def eM:AV→List AV
 | .agg l=>l
 | a=>[a]
def gf (row:List AV) (c:Nat) (l:List AV):List AV:=row.take c++l++row.drop (c+l.length)
def ln (P:Program) (t:TypeId) (x v:AV) (L:List (Nat×List AV)) (H:List Blk) (K:List (Nat×List AV)→List Blk→Prop):Prop:=
 if(P.info? t).isSome=true∧(eM v).length=P.cellsOf t∧(eM v).all jg=true then
  match x with
  | .e4 s c=>cD (dT L s) fun cells=>if c+(eM v).length≤cells.length then K (kA L s (gf cells c (eM v))) H else False
  | .ptr b g r c=>cD H[b]? fun blk=>blk.a6=g∧cD blk.rows[r]? fun row=>c+(eM v).length≤row.length∧K L (H.set b {blk with rows:=blk.rows.set r (gf row c (eM v))})
  | _=>False
 else False
theorem Uc {E:Env} {a:AV} {v:Value} (h:vt a=true) (hv:ey E a v):ey E.bO a v:=by
 cases a<;>first | exact hv | cases h
theorem KW {E:Env} {a:AV} {v:Value} (h:jg a=true) (hv:bQ E a v):bQ E.bO a v:=by
 by_cases hf: ∃f caps,a= .fn f caps
 ·obtain⟨f,caps,rfl⟩:=hf
  obtain⟨vs,e,ab⟩:=hv
  refine⟨vs,e,ab.1,fun i x y hx aS=>Uc ?_ (ab.2 i x y hx aS)⟩
  have h':caps.all vt=true:=h
  exact List.all_eq_true.1 h' x (List.mem_of_getElem? hx)
 ·have au:jg a=vt a:=by cases a<;>first | rfl | exact absurd ⟨_,_,rfl⟩ hf
  rw[pQ fun f c e=>hf ⟨f,c,e⟩] at hv ⊢
  exact Uc (au▸h) hv
theorem ey.one {E:Env} {a:AV} {v:Value} (h:vt a=true) (hv:ey E a v):v.oneCell'=true:=by
 cases a with
 | undef=>cases h
 | agg l=>cases h
 | tup l=>cases h
 | e4 s c=>cases h
 | fn f c=>cases h
 | ref b g off n full=>
  rcases hv with⟨_,A,cap,rfl⟩ | ⟨_,⟨_,_,_,A,rfl⟩ | ⟨c,cap,_,rfl,_⟩⟩
  ·rfl
  ·rfl
  ·rfl
 | ptr b g r c=>
  rcases hv with⟨_,bl,o,rfl⟩ | ⟨_,bl,_,rfl⟩
  ·rfl
  ·rfl
 | _=>exact aL.one (show aL E.w E.PA E.PF _ v from hv) (by intro h;cases h)
theorem bQ.Dp {E:Env} {a:AV} {v:Value} (h:jg a=true) (hv:bQ E a v):v.oneCell'=true:=by
 by_cases hf: ∃f caps,a= .fn f caps
 ·obtain⟨f,caps,rfl⟩:=hf
  obtain⟨vs,rfl,ab⟩:=hv
  rfl
 ·have au:jg a=vt a:=by cases a<;>first | rfl | exact absurd ⟨_,_,rfl⟩ hf
  rw[pQ fun f c e=>hf ⟨f,c,e⟩] at hv
  exact hv.one (au▸h)
theorem Step.setRow {E:Env} {H:List Blk} (an:SimH E H) {bl:Nat} (hb:E.fl bl∨E.kc bl) (aj:Array Value):Step E {E with w:=E.w.setRow bl aj}:=by
 have ad: ∀c,E.PA c→c≠bl:=fun c hc e=>by
  subst e
  exact hb.elim (an.hl _ hc) (an.hR _ hc)
 have hk: ∀c,c≠bl→(E.w.setRow bl aj).heap[c]?=E.w.heap[c]?:=fun c hc=>setRow_other _ _ _ _ hc
 exact⟨⟨fun _ h=>h,fun _ h=>h,fun c hc=>hk c (ad c hc),fun c hc=>hk c (ad c (an.dm c hc)),fun _=>Nat.le_refl _,fun _ _ h _=>⟨h,rfl,rfl⟩,fun _ _ h=>h⟩,rfl,rfl,rfl,
  by simp,fun c _ h1 h2=>hk c (fun e=>by subst e;exact hb.elim h1 h2),fun _ _ h=> .inl h,fun _ h=> .inl h,fun _ h=> .inl h,fun _ h=> .inl h⟩
theorem Fm {E:Env} {v:AV} {u:Value} (hv:V2 E v u) (hs:(eM v).all jg=true):az (bQ E) (eM v) u.cells.toList:=by
 by_cases hf: ∃l,v= .agg l
 ·obtain⟨l,rfl⟩:=hf
  obtain⟨vs,rfl,ab⟩:=hv
  exact ab
 ·have au:eM v=[v]:=by cases v<;>first | rfl | exact absurd ⟨_,rfl⟩ hf
  rw[n6 fun l e=>hf ⟨l,e⟩] at hv
  rw[au] at hs ⊢
  have h1:u.oneCell'=true:=hv.Dp (by simpa using hs)
  have h2:u.cells= #[u]:=by cases u<;>first | rfl | cases h1
  rw[h2]
  exact az.cons hv az.nil
theorem Su {P:Program} {t:TypeId} {w:World} {bl o:Nat} {aj:Array Value} {ty:TypeId} {u:Value} (hi:(P.info? t).isSome=true) (av:u.cells.size=P.cellsOf t)
  (hw:w.heap[bl]?=some (.cells aj ty (0,0))) (ar:o+u.cells.size≤aj.size) (h1: ∀x∈u.cells.toList,x.oneCell'=true):
  (Instr.storeAt t (.pointer (some ⟨bl,o,none⟩)) u).run P w= .ok () (w.setRow bl (aj.toList.take o++u.cells.toList++aj.toList.drop (o+u.cells.toList.length)).toArray):=by
 have:=run_storeCells_at (P:=P) bl o ty u.cells.toList 0 aj w hw (by simpa using ar) h1
 simp only[Nat.add_zero] at this
 simp[Instr.storeAt,Instr.sureAddr,storeVar,run_sizeOf hi,av,this]
theorem x3 {α:Type} {l m:List α} {c:Nat} (hc:c+m.length≤l.length) (j:Nat):
  (l.take c++m++l.drop (c+m.length))[j]?=if j<c then l[j]? else if j<c+m.length then m[j - c]? else l[j]?:=by
 by_cases h1:j<c
 ·rw[if_pos h1,List.append_assoc,List.getElem?_append_left (by simp;omega),List.getElem?_take,if_pos h1]
 ·rw[if_neg h1]
  by_cases h2:j<c+m.length
  ·rw[if_pos h2,List.getElem?_append_left (by simp;omega),List.getElem?_append_right (by simp;omega)]
   congr 1;simp;omega
  ·rw[if_neg h2,List.getElem?_append_right (by simp;omega),List.getElem?_drop]
   congr 1;simp;omega
theorem az.gf {α β:Type} {R:α→β→Prop} {l m:List α} {eN e0:List β} (h:az R l eN) (k:az R m e0) {c:Nat} (hc:c+m.length≤l.length):
  az R (l.take c++m++l.drop (c+m.length)) (eN.take c++e0++eN.drop (c+e0.length)):=by
 have h1:=h.1
 have dr:=k.1
 refine⟨by simp;omega,fun i a b ap hb=> ?_⟩
 rw[x3 hc] at ap
 rw[x3 (by omega)] at hb
 rw[←dr] at hb
 split at ap
 ·rename_i hi;rw[if_pos hi] at hb;exact h.2 i a b ap hb
 ·rename_i hi;rw[if_neg hi] at hb
  split at ap
  ·rename_i af;rw[if_pos af] at hb;exact k.2 _ a b ap hb
  ·rename_i af;rw[if_neg af] at hb;exact h.2 i a b ap hb
theorem y_ (L:List (Nat×List AV)) (t s:Nat) (d:List AV):dT (kA L t d) s=if s=t then(dT L t).map (fun _=>d) else dT L s:=by
 induction L with
 | nil=>simp[kA,dT]
 | cons x L bn=>
  obtain⟨k,c⟩:=x
  by_cases h1:t=k
  ·subst h1
   by_cases h2:s=t
   ·simp[kA,dT,h2]
   ·simp[kA,dT,h2]
  ·by_cases h2:s=k
   ·subst h2
    have: ¬s=t:=fun e=>h1 e.symm
    simp[kA,dT,h1,this]
   ·simp only[kA,if_neg h1,dT,if_neg h2,bn]
theorem ahB {P:Program} {t:TypeId} {x v:AV} {L:List (Nat×List AV)} {H:List Blk} {K:List (Nat×List AV)→List Blk→Prop} {E:Env} {ia lW:Value}
  (an:SimH E H) (bB:SimL E L) (hx:V3 E x ia) (hv:V2 E v lW) (h:ln P t x v L H K):
  ∃L' H' E',K L' H'∧(Instr.storeAt t ia lW).run P E.w= .ok () E'.w∧Step E E'∧SimH E' H'∧SimL E' L'∧E'.mL=E.mL:=by
 unfold ln at h
 split at h
 case isFalse=>exact h.elim
 case isTrue hc=>
 obtain⟨hi,av,hs⟩:=hc
 have wE:=Fm hv hs
 have ad:az (bQ E.bO) (eM v) lW.cells.toList:=⟨wE.1,fun i a b ap hb=>KW (List.all_eq_true.1 hs a (List.mem_of_getElem? ap)) (wE.2 i a b ap hb)⟩
 have h1: ∀y∈lW.cells.toList,y.oneCell'=true:=by
  intro y aS
  obtain⟨i,hi⟩:=List.mem_iff_getElem?.1 aS
  have wH:i<(eM v).length:=by rw[wE.1];exact(List.getElem?_eq_some_iff.1 hi).1
  exact(wE.2 i _ y (List.getElem?_eq_getElem wH) hi).Dp (List.all_eq_true.1 hs _ (List.getElem_mem wH))
 have b3:lW.cells.size=P.cellsOf t:=by rw[←av,wE.1];simp
 have hlen:lW.cells.toList.length=(eM v).length:=wE.1.symm
 cases x with
 | e4 s c=>
  obtain⟨bl,hm,rfl⟩:=hx.zY
  obtain⟨cells,aj,ty,aB,hw,ab⟩:=bB s bl hm
  have h':cD (dT L s) fun cells=>if c+(eM v).length≤cells.length then K (kA L s (gf cells c (eM v))) H else False:=h
  rw[aB] at h'
  have Gy:if c+(eM v).length≤cells.length then K (kA L s (gf cells c (eM v))) H else False:=h'
  split at Gy
  case isFalse=>exact Gy.elim
  case isTrue hle=>
  have YY:cells.length=aj.size:=by rw[ab.1];simp
  have fu:=Su (P:=P) (t:=t) (o:=c) hi b3 hw (by rw[←YY];have:lW.cells.size=(eM v).length:=by rw[←hlen];simp
                                                omega) h1
  have fe:=Step.setRow an (.inr ⟨s,hm⟩) (aj.toList.take c++lW.cells.toList++aj.toList.drop (c+lW.cells.toList.length)).toArray
  have bN: ∀b b8,E.m b=some (some b8)→b8≠bl:=fun b b8 hb e=>by subst e;exact an.gl b s b8 hb hm
  refine⟨_,_,_,Gy,fu,fe,?_,?_,rfl⟩
  ·exact{an with
    fg:=fun b8 kp=>(an.fg b8 kp).same (fe.le.wf b8 kp)
    heap:=fun b b8 hb=>by
     obtain⟨blk,bL,hF,q1,bU,q2,q3,q4,cP,cF⟩:=an.heap b b8 hb
     refine⟨blk,bL,hF,q1,bU,?_,q3,q4,cP,fun i j row a ai af=> ?_⟩
     ·show(E.w.setRow bl _).heap[b8]?=_
      rw[setRow_other _ _ _ _ (bN b b8 hb)];exact q2
     ·obtain⟨u,hu,eH⟩:=cF i j row a ai af
      exact⟨u,hu,eH.le fe.le.bO⟩
    du:=fun b8 hc=>by rw[show(E.w.setRow bl _).heap.size=_ from setRow_size _ _ _];exact an.du b8 hc
    fm:=fun b8 hc=>by rw[show(E.w.setRow bl _).heap.size=_ from setRow_size _ _ _];exact an.fm b8 hc
    gb:=fun b8 hc=>by rw[show(E.w.setRow bl _).heap.size=_ from setRow_size _ _ _];exact an.gb b8 hc}
  ·intro hr b8 jM
   by_cases he:hr=s
   ·subst he
    obtain rfl:b8=bl:=by
     have:E.mL hr=some b8:=jM
     rw[hm] at this;exact(Option.some.inj this).symm
    refine⟨gf cells c (eM v),_,ty,?_,setRow_heap _ _ _ _ _ _ hw,?_⟩
    ·rw[y_,if_pos rfl,aB];rfl
    ·have:=az.gf (ab.mono fun _ _ k=>k.le fe.le.bO) (ad.mono fun _ _ k=>k.le fe.le.bO) hle
     simpa[gf] using this
   ·obtain⟨gu,bL,hF,q1,q2,q3⟩:=bB hr b8 jM
    have G6:b8≠bl:=fun e=>by subst e;exact he (an.iZ hr s b8 jM hm)
    refine⟨gu,bL,hF,by rw[y_,if_neg he];exact q1,?_,q3.mono fun _ _ k=>k.le fe.le.bO⟩
    show(E.w.setRow bl _).heap[b8]?=_
    rw[setRow_other _ _ _ _ G6];exact q2
 | ptr b g r c=>
  obtain⟨blk,hb,aB,h2⟩:=e5 (show cD H[b]? fun blk=>blk.a6=g∧cD blk.rows[r]? fun row=>c+(eM v).length≤row.length∧K L (H.set b {blk with rows:=blk.rows.set r (gf row c (eM v))}) from h)
  obtain⟨row,eK,hle,hK⟩:=e5 h2
  have jI:=an.eG b blk hb
  obtain⟨bl,hm,rfl⟩:=hx.Dz (jI.trans aB)
  obtain⟨blk',aj,ty,dV,mb,hw,j8,nC,fS⟩:=an.heap b bl hm
  obtain rfl:blk=blk':=by rw[hb] at dV;exact Option.some.inj dV
  have qb:row.length=E.sz b:=fS.1 r row eK
  have aiR:r<blk.rows.length:=(List.getElem?_eq_some_iff.1 eK).1
  have YQ:r*E.sz b+E.sz b≤aj.size:=by
   rw[j8];calc r*E.sz b+E.sz b=(r+1)*E.sz b:=by rw[Nat.add_mul,Nat.one_mul]
    _≤E.cp b*E.sz b:=Nat.mul_le_mul_right _ (by omega)
  have mU:lW.cells.size=(eM v).length:=by rw[←hlen];simp
  have fu:=Su (P:=P) (t:=t) (o:=r*E.sz b+c) hi b3 hw (by omega) h1
  have fe:=Step.setRow an (.inl ⟨b,hm⟩) (aj.toList.take (r*E.sz b+c)++lW.cells.toList++aj.toList.drop (r*E.sz b+c+lW.cells.toList.length)).toArray
  have p6:b<H.length:=(List.getElem?_eq_some_iff.1 hb).1
  refine⟨_,_,_,hK,fu,fe,?_,?_,rfl⟩
  ·exact{an with
    fg:=fun b8 kp=>(an.fg b8 kp).same (fe.le.wf b8 kp)
    heap:=fun b2 b8 lc=>by
     by_cases he:b2=b
     ·subst he
      obtain rfl:b8=bl:=by
       have:E.m b2=some (some b8):=lc
       rw[hm] at this;exact(Option.some.inj (Option.some.inj this)).symm
      refine⟨{blk with rows:=blk.rows.set r (gf row c (eM v))},_,ty,by rw[List.getElem?_set_self p6],mb,setRow_heap _ _ _ _ _ _ hw,?_,by simpa using nC,?_,?_⟩
      ·simp;omega
      ·intro i row' eH
       rw[List.getElem?_set] at eH
       split at eH
       ·rename_i GZ
        cases eH
        simp[gf];omega
       ·exact fS.1 i row' eH
      ·intro i j row' a eH ap
       have lB: ∀k,(aj.toList.take (r*E.sz b2+c)++lW.cells.toList++aj.toList.drop (r*E.sz b2+c+lW.cells.toList.length)).toArray[k]?=if k<r*E.sz b2+c then aj.toList[k]? else if k<r*E.sz b2+c+lW.cells.toList.length then lW.cells.toList[k - (r*E.sz b2+c)]? else aj.toList[k]?:=by
        intro k
        rw[List.getElem?_toArray,x3 (by simp;omega)]
       rw[List.getElem?_set] at eH
       split at eH
       ·rename_i GZ
        cases eH
        subst GZ
        have wU:=x3 hle j
        unfold gf at ap
        rw[wU] at ap
        split at ap
        ·rename_i af
         obtain⟨u,hu,gy⟩:=fS.2 r j row a eK ap
         refine⟨u,?_,gy.le fe.le.bO⟩
         show(List.toArray _)[r*E.sz b2+j]?=_
         rw[lB,if_pos (by omega)];simpa using hu
        ·rename_i af
         split at ap
         ·rename_i wK
          obtain⟨u,hu,gy⟩:=ad.get ap
          refine⟨u,?_,gy.le fe.le.bO⟩
          show(List.toArray _)[r*E.sz b2+j]?=_
          rw[lB,if_neg (by omega),if_pos (by omega),show r*E.sz b2+j - (r*E.sz b2+c)=j - c by omega];exact hu
         ·rename_i wK
          obtain⟨u,hu,gy⟩:=fS.2 r j row a eK ap
          refine⟨u,?_,gy.le fe.le.bO⟩
          show(List.toArray _)[r*E.sz b2+j]?=_
          rw[lB,if_neg (by omega),if_neg (by omega)];simpa using hu
       ·rename_i GZ
        have j_:j<E.sz b2:=by rw[←fS.1 i row' eH];exact(List.getElem?_eq_some_iff.1 ap).1
        obtain⟨u,hu,gy⟩:=fS.2 i j row' a eH ap
        refine⟨u,?_,gy.le fe.le.bO⟩
        show(List.toArray _)[i*E.sz b2+j]?=_
        rw[lB]
        rcases Nat.lt_or_ge i r with aN | fO
        ·have:i*E.sz b2+E.sz b2≤r*E.sz b2:=by
          calc i*E.sz b2+E.sz b2=(i+1)*E.sz b2:=by rw[Nat.add_mul,Nat.one_mul]
           _≤r*E.sz b2:=Nat.mul_le_mul_right _ (by omega)
         rw[if_pos (by omega)];simpa using hu
        ·have:r*E.sz b2+E.sz b2≤i*E.sz b2:=by
          calc r*E.sz b2+E.sz b2=(r+1)*E.sz b2:=by rw[Nat.add_mul,Nat.one_mul]
           _≤i*E.sz b2:=Nat.mul_le_mul_right _ (by omega)
         rw[if_neg (by omega),if_neg (by omega)];simpa using hu
     ·obtain⟨yV,we,ty2,q1,bU,q2,q3,q4,cP,cF⟩:=an.heap b2 b8 lc
      have bN:b8≠bl:=fun e=>by subst e;exact he (an.gD b2 b b8 lc hm)
      refine⟨yV,we,ty2,by rw[List.getElem?_set_ne (fun e=>he e.symm)];exact q1,bU,?_,q3,q4,cP,fun i j row a ai af=> ?_⟩
      ·show(E.w.setRow bl _).heap[b8]?=_
       rw[setRow_other _ _ _ _ bN];exact q2
      ·obtain⟨u,hu,eH⟩:=cF i j row a ai af
       exact⟨u,hu,eH.le fe.le.bO⟩
    eG:=fun b2 yV lc=>by
     by_cases he:b=b2
     ·subst he
      rw[List.getElem?_set_self p6] at lc
      cases lc
      exact an.eG b blk hb
     ·rw[List.getElem?_set_ne he] at lc
      exact an.eG b2 yV lc
    gO:=fun b2 lc=>by
     obtain⟨yV,q,jd⟩:=an.gO b2 lc
     by_cases he:b=b2
     ·subst he
      rw[hm] at lc;cases lc
     ·exact⟨yV,by rw[List.getElem?_set_ne he];exact q,jd⟩
    fresh:=fun b2 lc=>an.fresh b2 (by simpa using lc)
    du:=fun b8 hc=>by rw[show(E.w.setRow bl _).heap.size=_ from setRow_size _ _ _];exact an.du b8 hc
    fm:=fun b8 hc=>by rw[show(E.w.setRow bl _).heap.size=_ from setRow_size _ _ _];exact an.fm b8 hc
    gb:=fun b8 hc=>by rw[show(E.w.setRow bl _).heap.size=_ from setRow_size _ _ _];exact an.gb b8 hc}
  ·intro hr b8 jM
   obtain⟨gu,bL,hF,q1,q2,q3⟩:=bB hr b8 jM
   have G6:b8≠bl:=fun e=>by subst e;exact an.gl b hr b8 hm jM
   refine⟨gu,bL,hF,q1,?_,q3.mono fun _ _ k=>k.le fe.le.bO⟩
   show(E.w.setRow bl _).heap[b8]?=_
   rw[setRow_other _ _ _ _ G6];exact q2
 | _=>exact h.elim
structure k3 (E E':Env):Prop where
 step:Step E E'
 m:E'.m=E.m
 mL:E'.mL=E.mL
 a6:E'.a6=E.a6
 sz:E'.sz=E.sz
 cp:E'.cp=E.cp
 cM: ∀c,c<E.w.heap.size→E'.w.heap[c]?=E.w.heap[c]?
 fp: ∀c,E'.PA c→E.PA c∨(E.w.heap.size≤c∧c<E'.w.heap.size)
 dm: ∀c,E'.PF c→E'.PA c
 fg: ∀c,E'.PF c→Plain E'.w c
theorem k3.refl {E:Env} {H:List Blk} (h:SimH E H):k3 E E:=⟨.refl E,rfl,rfl,rfl,rfl,rfl,fun _ _=>rfl,fun _ h=> .inl h,h.dm,h.fg⟩
theorem k3.simH {E E':Env} {H:List Blk} (q:k3 E E') (h:SimH E H):SimH E' H where
 heap:=fun b c hb=>by
  rw[q.m] at hb
  obtain⟨blk,aj,ty,q1,bU,q2,q3,q4,cP,cF⟩:=h.heap b c hb
  refine⟨blk,aj,ty,q1,by rw[q.sz];exact bU,?_,by rw[q.cp,q.sz];exact q3,by rw[q.cp];exact q4,by rw[q.sz];exact cP,fun i j row a ai af=> ?_⟩
  ·rw[q.cM c (h.fm c ⟨b,hb⟩)];exact q2
  ·obtain⟨u,hu,eH⟩:=cF i j row a ai af
   exact⟨u,by rw[q.sz];exact hu,eH.le q.step.le.bO⟩
 eG:=by rw[q.a6];exact h.eG
 gO:=by rw[q.m,q.sz];exact h.gO
 fresh:=by rw[q.m,q.a6];exact h.fresh
 gD:=by rw[q.m];exact h.gD
 iZ:=by rw[q.mL];exact h.iZ
 gl:=by rw[q.m,q.mL];exact h.gl
 hl:=fun c hc ⟨b,hb⟩=>by
  rw[q.m] at hb
  rcases q.fp c hc with hc | ⟨hc,_⟩
  ·exact h.hl c hc ⟨b,hb⟩
  ·have:=h.fm c ⟨b,hb⟩;omega
 hR:=fun c hc ⟨b,hb⟩=>by
  rw[q.mL] at hb
  rcases q.fp c hc with hc | ⟨hc,_⟩
  ·exact h.hR c hc ⟨b,hb⟩
  ·have:=h.gb c ⟨b,hb⟩;omega
 dm:=q.dm
 fg:=q.fg
 du:=fun c hc=>by
  rcases q.fp c hc with hc | ⟨_,hc⟩
  ·exact Nat.lt_of_lt_of_le (h.du c hc) q.step.size
  ·exact hc
 fm:=fun c ⟨b,hb⟩=>by rw[q.m] at hb;exact Nat.lt_of_lt_of_le (h.fm c ⟨b,hb⟩) q.step.size
 gb:=fun c ⟨b,hb⟩=>by rw[q.mL] at hb;exact Nat.lt_of_lt_of_le (h.gb c ⟨b,hb⟩) q.step.size
theorem k3.simL {E E':Env} {H:List Blk} {L:List (Nat×List AV)} (q:k3 E E') (h:SimH E H) (l:SimL E L):SimL E' L:=fun t c hm=>by
 rw[q.mL] at hm
 obtain⟨cells,aj,ty,q1,q2,q3⟩:=l t c hm
 exact⟨cells,aj,ty,q1,by rw[q.cM c (h.gb c ⟨t,hm⟩)];exact q2,q3.mono fun _ _ k=>k.le q.step.le.bO⟩
def Bz (op:BinOp) (k:IntKind) (a b:Int) (K:AV→Prop):Prop:=match op with
 | .add=>K (.int k (k.wrap (a+b)))
 | .sub=>K (.int k (k.wrap (a - b)))
 | .mul=>K (.int k (k.wrap (a*b)))
 | .quo=>b≠0∧K (.int k (k.wrap (a.tdiv b)))
 | .rem=>b≠0∧K (.int k (a.tmod b))
 | .and=>K (.int k (k.wrap (BitVec.ofInt k.bits a&&&BitVec.ofInt k.bits b).toNat))
 | .eql=>K (.bool (a==b))
 | .neq=>K (.bool (a !=b))
 | .lss=>K (.bool (decide (a<b)))
 | .leq=>K (.bool (decide (a≤b)))
 | .gtr=>K (.bool (decide (a>b)))
 | .geq=>K (.bool (decide (a ≥ b)))
 | _=>False
def two (P:Program) (t:TypeId):Bool:=
 match P.underlying t with
 | some (.struct dS)=> !P.stoodInHeld t&& !P.eqGuardType P.depth t&&(match dS.toList with
  | [f,g]=>f.name != "_" &&g.name != "_" &&f.offset==0&&g.offset==1&&(P.underlying f.type matches some (.int .i64))&&(P.underlying g.type matches some (.int .i64))
  | _=>false)
 | _=>false
def BA (op:BinOp) (k:IntKind) (a:Int) (i_:IntKind) (b:Int) (K:AV→Prop):Prop:=match op with
 | .shl=>0≤b∧K (.int k (k.wrap (a*2 ^ (min b.toNat k.bits))))
 | .shr=>0≤b∧K (.int k (a.fdiv (2 ^ (min b.toNat k.bits))))
 | op=>if k=i_ then Bz op k a b K else False
def Pw (P:Program) (t:TypeId):Bool:=match P.underlying t with
 | some .bool=>true
 | _=>false
def E4 (P:Program) (op:BinOp) (t:TypeId) (a b:Bool) (K:AV→Prop):Prop:=if Pw P t=true then(match op with
  | .eql=>K (.bool (a==b))
  | .neq=>K (.bool (a !=b))
  | _=>False) else False
def E6 (op:BinOp) (a b:ByteArray) (K:AV→Prop):Prop:=match op with
  | .add=>a.size+b.size≤9223372036854775807∧K (.str (a++b))
  | .eql=>K (.bool (a.toList==b.toList))
  | .neq=>K (.bool (!(a.toList==b.toList)))
  | _=>False
def E7 (op:BinOp) (a b c d:Int) (K:AV→Prop):Prop:=match op with
  | .eql=>K (.bool (a==c&&b==d))
  | .neq=>K (.bool (!(a==c&&b==d)))
  | _=>False
def x_:List AV→Option (Int×Int)
 | [.int .i64 a,.int .i64 b]=>some (a,b)
 | _=>none
def ix (P:Program) (t:TypeId):Option TypeId:=match P.underlying t with
 | some (.slice e)=>some e
 | _=>none
def qk:Operand→Bool
 | .const (.slice none 0 0)=>true
 | _=>false
def E5 (P:Program) (op:BinOp) (t:TypeId) (rows:List (List AV)) (r_:Bool) (K:AV→Prop):Prop:=
 if r_=true∧(ix P t).isSome=true then(match op with
  | .eql=>(rows≠[]→K (.bool false))∧(rows=[]→ ∀b,K (.bool b))
  | _=>False) else False
def si (P:Program) (op:BinOp) (t:TypeId) (x y:AV) (r_:Bool) (K:AV→Prop):Prop:=match x with
 | .int k a=>(match y with
  | .int i_ b=>BA op k a i_ b K
  | _=>False)
 | .bool a=>(match y with
  | .bool b=>E4 P op t a b K
  | _=>False)
 | .str a=>(match y with
  | .str b=>E6 op a b K
  | _=>False)
 | .agg l=>(match y with
  | .agg m=>if two P t=true then cD (x_ l) fun p=>cD (x_ m) fun q=>E7 op p.1 p.2 q.1 q.2 K else False
  | _=>False)
 | .aJ rows _ _=>E5 P op t rows r_ K
 | _=>False
theorem F0 {op:BinOp} {t:TypeId} {x y:Operand} {k i_:IntKind} {a b:Int} {P:Program} {w:World}:(eqGuard op t x y (.int k a) (.int i_ b)).run P w= .ok () w:=by
 unfold eqGuard;cases op<;>rfl
theorem MD {op:BinOp} {t:TypeId} {x y:Operand} {a b:Bool} {P:Program} {w:World}:(eqGuard op t x y (.bool a) (.bool b)).run P w= .ok () w:=by
 unfold eqGuard;cases op<;>rfl
theorem F1 {op:BinOp} {t:TypeId} {x y:Operand} {a b:ByteArray} {P:Program} {w:World}:(eqGuard op t x y (.string a) (.string b)).run P w= .ok () w:=by
 unfold eqGuard;cases op<;>rfl
theorem W5 {op:BinOp} {t:TypeId} {x y:Operand} {A B:Option Addr} {n m c d:Nat} {P:Program} {w:World}:(eqGuard op t x y (.slice A n c) (.slice B m d)).run P w= .ok () w:=by
 unfold eqGuard;cases op<;>rfl
theorem MC {op:BinOp} {t:TypeId} {x y:Operand} {A B:Array Value} {P:Program} {w:World} (h:P.eqGuardType P.depth t=false):(eqGuard op t x y (.agg A) (.agg B)).run P w= .ok () w:=by
 unfold eqGuard;cases op<;>first | rfl | simp[h]
theorem afu {P:Program} {w:World} {op:BinOp} {t:TypeId} {k:IntKind} {a b:Int} {K:AV→Prop} (h:Bz op k a b K):
  ∃r u,K r∧(binOp op t (.int k a) (.int k b)).run P w= .ok u w∧ ∀E:Env,V3 E r u:=by
 cases op<;>simp only[Bz] at h
 case add=>exact⟨_,_,h,by simp[binOp,Op.intArith],fun E=>aL.int _ _⟩
 case sub=>exact⟨_,_,h,by simp[binOp,Op.intArith],fun E=>aL.int _ _⟩
 case mul=>exact⟨_,_,h,by simp[binOp,Op.intArith],fun E=>aL.int _ _⟩
 case quo=>exact⟨_,_,h.2,by simp[binOp,Op.intDiv,h.1],fun E=>aL.int _ _⟩
 case rem=>exact⟨_,_,h.2,by simp[binOp,Op.intDiv,h.1],fun E=>aL.int _ _⟩
 case and=>exact⟨_,_,h,by simp[binOp,Op.intBits],fun E=>aL.int _ _⟩
 case eql=>exact⟨_,_,h,by simp[binOp,Op.intCmp],fun E=>aL.bool _⟩
 case neq=>exact⟨_,_,h,by simp[binOp,Op.intCmp],fun E=>aL.bool _⟩
 case lss=>exact⟨_,_,h,by simp[binOp,Op.intCmp],fun E=>aL.bool _⟩
 case leq=>exact⟨_,_,h,by simp[binOp,Op.intCmp],fun E=>aL.bool _⟩
 case gtr=>exact⟨_,_,h,by simp[binOp,Op.intCmp],fun E=>aL.bool _⟩
 case geq=>exact⟨_,_,h,by simp[binOp,Op.intCmp],fun E=>aL.bool _⟩
theorem Un {P:Program} {t:TypeId} (h:two P t=true): ∃f g:Field,P.underlying t=some (.struct (P.fieldsOf t))∧(P.fieldsOf t).toList=[f,g]∧P.stoodInHeld t=false∧P.eqGuardType P.depth t=false∧
  f.name≠ "_" ∧g.name≠ "_" ∧f.offset=0∧g.offset=1∧P.underlying f.type=some (.int .i64)∧P.underlying g.type=some (.int .i64):=by
 unfold two at h
 split at h
 ·rename_i dS nD
  have hf:P.fieldsOf t=dS:=by simp[Program.fieldsOf,nD]
  simp only[Bool.and_eq_true,Bool.not_eq_true'] at h
  obtain⟨⟨h1,h2⟩,ay⟩:=h
  split at ay
  ·rename_i f g ao
   simp only[Bool.and_eq_true,bne_iff_ne,ne_eq,beq_iff_eq] at ay
   obtain⟨⟨⟨⟨⟨q1,q2⟩,q3⟩,q4⟩,cP⟩,cF⟩:=ay
   refine⟨f,g,by rw[hf];exact nD,by rw[hf];exact ao,h1,h2,q1,q2,q3,q4,?_,?_⟩
   ·split at cP
    ·assumption
    ·cases cP
   ·split at cF
    ·assumption
    ·cases cF
  ·cases ay
 ·cases h
theorem Sv {P:Program} {t:TypeId} (h:two P t=true) (a b c d:Int) (w:World):
  (Op.equal t (.agg #[.int .i64 a,.int .i64 b]) (.agg #[.int .i64 c,.int .i64 d])).run P w= .ok (a==c&&b==d) w:=by
 obtain⟨f,g,h1,h2,ay,bg,cW,e1,l9,qZ,tQ,zb⟩:=Un h
 show(Op.equalIn (9999+1) t _ _).run P w=_
 rw[run_equalIn_struct w 9999 t _ _ h1 ay,h2]
 have e6: ∀(ha:TypeId) (aj:Array Value) (o:Nat) (u:Value),P.underlying ha=some (.int .i64)→aj[o]?=some u→(part ha aj o).run P w= .ok u w:=by
  intro ha aj o u hu hc
  simp[part,Go.isAgg,run_underlying hu,hc]
 simp only[Op.eqFields,if_pos cW,if_pos e1,l9,qZ,Sem.run_bind]
 rw[e6 f.type #[.int .i64 a,.int .i64 b] 0 (.int .i64 a) tQ rfl]
 simp only[Result.andThen_ok]
 rw[e6 f.type #[.int .i64 c,.int .i64 d] 0 (.int .i64 c) tQ rfl]
 simp only[Result.andThen_ok]
 rw[show(9999:Nat)=9998+1 from rfl,run_equalIn_int w 9998 f.type .i64 .i64 a c tQ]
 simp only[Result.andThen_ok]
 cases aiD:(a==c)
 ·simp
 ·simp only[Bool.not_true,Bool.false_eq_true,if_false,Sem.run_bind]
  rw[e6 g.type #[.int .i64 a,.int .i64 b] 1 (.int .i64 b) zb rfl]
  simp only[Result.andThen_ok]
  rw[e6 g.type #[.int .i64 c,.int .i64 d] 1 (.int .i64 d) zb rfl]
  simp only[Result.andThen_ok]
  rw[run_equalIn_int w 9998 g.type .i64 .i64 b d zb]
  cases aiF:(b==d)<;>simp
theorem V3.Um {E:Env} {a b:Int} {v:Value} (h:V3 E (.agg [.int .i64 a,.int .i64 b]) v):v= .agg #[.int .i64 a,.int .i64 b]:=by
 obtain⟨vs,rfl,ab⟩:=(h:V2 E (.agg [.int .i64 a,.int .i64 b]) v)
 obtain⟨x,vs,rfl,hx,ab⟩:=ab.cons_inv
 obtain⟨y,vs,rfl,aS,ab⟩:=ab.cons_inv
 obtain rfl:=ab.mj
 have h4:aL E.w E.PA E.PF (.int .i64 a) x:=hx
 have Z4:aL E.w E.PA E.PF (.int .i64 b) y:=aS
 cases h4;cases Z4;rfl
theorem Ul {l:List AV} {p:Int×Int} (h:x_ l=some p):l=[.int .i64 p.1,.int .i64 p.2]:=by
 unfold x_ at h
 split at h
 ·cases h;rfl
 ·cases h
theorem sn {P:Program} {t e:TypeId} (h:ix P t=some e):P.underlying t=some (.slice e):=by
 unfold ix at h
 split at h
 ·cases h;assumption
 ·cases h
theorem VF {P:Program} {op:BinOp} {t:TypeId} {X Y:Operand} {Lm yr:AV} {ia Ey:Value} {E:Env} {K:AV→Prop}
  {r_:Bool} (hx:V3 E Lm ia) (aS:V3 E yr Ey) (Hr:r_=true→Ey= .slice none 0 0) (h:si P op t Lm yr r_ K):
  ∃r u,K r∧(do eqGuard op t X Y ia Ey;binOp op t ia Ey:Sem Value).run P E.w= .ok u E.w∧V3 E r u:=by
 cases Lm with
 | int k a=>
  cases yr with
  | int i_ b=>
   replace h:BA op k a i_ b K:=h
   obtain rfl:=hx.nI
   obtain rfl:=aS.nI
   cases op
   case shl=>
    obtain⟨hb,h⟩:=h
    have dV: ¬b<0:=by omega
    exact⟨_,_,h,by simp[F0,binOp,Op.shift,dV],aL.int _ _⟩
   case shr=>
    obtain⟨hb,h⟩:=h
    have dV: ¬b<0:=by omega
    exact⟨_,_,h,by simp[F0,binOp,Op.shift,dV],aL.int _ _⟩
   all_goals
    simp only[BA] at h
    split at h
    ·rename_i hk
     subst hk
     obtain⟨r,u,hK,ai,hv⟩:=afu (P:=P) (w:=E.w) (t:=t) h
     exact⟨r,u,hK,by simp only[Sem.run_bind,F0,Result.andThen_ok,ai],hv E⟩
    ·exact h.elim
  | _=>exact h.elim
 | bool a=>
  cases yr with
  | bool b=>
   replace h:E4 P op t a b K:=h
   obtain rfl:=hx.nn
   obtain rfl:=aS.nn
   unfold E4 at h
   split at h
   ·rename_i hu
    have mT:P.underlying t=some .bool:=by
     unfold Pw at hu
     split at hu
     ·assumption
     ·cases hu
    cases op<;>first | exact h.elim | skip
    case eql=>exact⟨_,_,h,by simp only[Sem.run_bind,MD,Result.andThen_ok,binOp,Op.equal];rw[show Op.maxDepth=9999+1 from rfl,run_equalIn_bool' E.w 9999 t a b mT];rfl,aL.bool _⟩
    case neq=>exact⟨_,_,h,by simp only[Sem.run_bind,MD,Result.andThen_ok,binOp,Op.equal];rw[show Op.maxDepth=9999+1 from rfl,run_equalIn_bool' E.w 9999 t a b mT];rfl,aL.bool _⟩
   ·exact h.elim
  | _=>exact h.elim
 | str a=>
  cases yr with
  | str b=>
   replace h:E6 op a b K:=h
   obtain rfl:=hx.x4
   obtain rfl:=aS.x4
   cases op<;>first | exact h.elim | skip
   case add=>
    obtain⟨ao,h⟩:=h
    have: ¬((a.size+b.size:Nat):Int)>IntKind.i64.max:=by
     have:IntKind.i64.max=9223372036854775807:=by decide
     rw[this];omega
    exact⟨_,_,h,by simp only[Sem.run_bind,F1,Result.andThen_ok,binOp,Op.stringOp];rw[if_neg this];rfl,aL.str _⟩
   case eql=>exact⟨_,_,h,by simp only[Sem.run_bind,F1,Result.andThen_ok,binOp,Op.stringOp];rfl,aL.bool _⟩
   case neq=>exact⟨_,_,h,by simp only[Sem.run_bind,F1,Result.andThen_ok,binOp,Op.stringOp];rfl,aL.bool _⟩
  | _=>exact h.elim
 | agg l=>
  cases yr with
  | agg m=>
   replace h:if two P t=true then cD (x_ l) fun p=>cD (x_ m) fun q=>E7 op p.1 p.2 q.1 q.2 K else False:=h
   split at h
   ·rename_i a_
    obtain⟨⟨a,b⟩,ab,h⟩:=e5 h
    obtain⟨⟨c,d⟩,U,h⟩:=e5 h
    obtain rfl:=Ul ab
    obtain rfl:=Ul U
    obtain rfl:=hx.Um
    obtain rfl:=aS.Um
    obtain⟨f,g,h1,h2,ay,bg,_⟩:=Un a_
    cases op<;>first | exact h.elim | skip
    case eql=>exact⟨_,_,h,by simp only[Sem.run_bind,MC bg,Result.andThen_ok,binOp,Sv a_];rfl,aL.bool _⟩
    case neq=>exact⟨_,_,h,by simp only[Sem.run_bind,MC bg,Result.andThen_ok,binOp,Sv a_];rfl,aL.bool _⟩
   ·exact h.elim
  | _=>exact h.elim
 | aJ rows c8 fr=>
  replace h:E5 P op t rows r_ K:=h
  unfold E5 at h
  split at h
  ·rename_i hc
   obtain⟨ad,he⟩:=hc
   obtain⟨e,he⟩:=Option.isSome_iff_exists.1 he
   have hu:=sn he
   obtain rfl:=Hr ad
   have h4:aL E.w E.PA E.PF (.aJ rows c8 fr) ia:=hx
   cases h4 with
   | @aJ _ _ _ _ _ _ A cap sz vs eR eZ fB b3 dL hrel=>
   have fu:(do eqGuard op t X Y (.slice A rows.length cap) (.slice none 0 0);binOp .eql t (.slice A rows.length cap) (.slice none 0 0):Sem Value).run P E.w= .ok (.bool A.isNone) E.w:=by
    simp only[Sem.run_bind,W5,Result.andThen_ok,binOp,Op.equal]
    rw[show Op.maxDepth=9999+1 from rfl]
    generalize 9999=d
    simp only[Op.equalIn,Sem.run_bind,run_underlying hu,Result.andThen_ok]
    cases A<;>rfl
   cases op<;>first | exact h.elim | skip
   case eql=>
    obtain⟨h1,h2⟩:=h
    by_cases ai:rows=[]
    ·exact⟨_,_,h2 ai A.isNone,fu,aL.bool _⟩
    ·have:0<rows.length:=by cases rows<;>simp_all
     obtain⟨c,o,rfl,_⟩:=dL this
     exact⟨_,_,h1 ai,fu,aL.bool _⟩
  ·exact h.elim
 | _=>exact h.elim
theorem M6 (off:Nat): ∀(l:List Value) (k:Nat) (cells:Array Value),off+k+l.length≤cells.size→
  (((l.zipIdx k).foldl (fun aj (x:Value×Nat)=>aj.setIfInBounds (off+x.2) x.1) cells).size=cells.size∧
  ∀i,((l.zipIdx k).foldl (fun aj (x:Value×Nat)=>aj.setIfInBounds (off+x.2) x.1) cells)[i]?=if i<off+k then cells[i]? else if i<off+k+l.length then l[i - (off+k)]? else cells[i]?)
 | [],k,cells,_=>⟨rfl,fun i=>by simp;omega⟩
 | v::l,k,cells,h=>by
  have h':off+(k+1)+l.length≤(cells.setIfInBounds (off+k) v).size:=by simp at h ⊢;omega
  obtain⟨h1,h2⟩:=M6 off l (k+1) (cells.setIfInBounds (off+k) v) h'
  refine⟨by simp only[List.zipIdx_cons,List.foldl_cons];rw[h1];simp,fun i=> ?_⟩
  simp only[List.zipIdx_cons,List.foldl_cons]
  rw[h2 i]
  simp only[Array.getElem?_setIfInBounds,List.length_cons] at*
  by_cases J:i<off+k
  ·rw[if_pos (by omega),if_neg (by omega),if_pos J]
  ·by_cases a2:i=off+k
   ·subst a2
    rw[if_pos (by omega),if_pos rfl,if_pos (by omega),if_neg (by omega),if_pos (by omega)]
    simp
   ·by_cases a3:i<off+(k+1)+l.length
    ·rw[if_neg (by omega),if_pos a3,if_neg J,if_pos (by omega),show i - (off+k)=(i - (off+(k+1)))+1 by omega]
     simp
    ·rw[if_neg (by omega),if_neg a3,if_neg (by omega),if_neg J,if_neg (by omega)]
def oZ (pl:Nat→Option (Nat×Nat)) (cells:List AV):List (Nat×AV)→Option (List AV)
 | []=>some cells
 | (i,v)::rest=>match pl i with
  | none=>none
  | some (off,size)=>if(eM v).length=size∧off+(eM v).length≤cells.length∧(eM v).all jg=true then oZ pl (gf cells off (eM v)) rest else none
theorem B9 {E:Env} {pl:Nat→Option (Nat×Nat)}: ∀{parts:List (Nat×AV)} {jW:List (Nat×Value)} {cells:List AV} {tp:Array Value} {r:List AV},
  az (fun a b=>a.1=b.1∧V2 E a.2 b.2) parts jW→az (bQ E.bO) cells tp.toList→oZ pl cells parts=some r→ ∃gZ,Instr.fill pl tp jW=some gZ∧az (bQ E.bO) r gZ.toList
 | [],jW,cells,tp,r,ab,hc,h=>by
  obtain rfl:=ab.mj
  cases h
  exact⟨tp,rfl,hc⟩
 | (i,v)::rest,jW,cells,tp,r,ab,hc,h=>by
  obtain⟨⟨iz,u⟩,ai7,rfl,⟨hi,hv⟩,CG⟩:=ab.cons_inv
  simp only at hi hv
  subst hi
  unfold oZ at h
  split at h
  ·cases h
  ·rename_i off size kP
   split at h
   ·rename_i ss
    obtain⟨h1,h2,ay⟩:=ss
    have q7:=Fm hv ay
    have YX:az (bQ E.bO) (eM v) u.cells.toList:=⟨q7.1,fun i a b ap hb=>KW (List.all_eq_true.1 ay a (List.mem_of_getElem? ap)) (q7.2 i a b ap hb)⟩
    have b3:u.cells.size=(eM v).length:=by rw[q7.1];simp
    have nC:cells.length=tp.size:=by rw[hc.1];simp
    obtain⟨f1,f2⟩:=M6 off u.cells.toList 0 tp (by simp;omega)
    simp only[Nat.add_zero] at f1 f2
    have wO:az (bQ E.bO) (gf cells off (eM v)) ((u.cells.toList.zipIdx).foldl (fun aj (x:Value×Nat)=>aj.setIfInBounds (off+x.2) x.1) tp).toList:=by
     have hs:=az.gf hc YX h2
     refine⟨?_,fun k a b ap hb=> ?_⟩
     ·simp only[Array.length_toList];rw[f1];simp[gf];omega
     ·refine hs.2 k a b ap ?_
      rw[x3 (by simp;omega)]
      rw[Array.getElem?_toList,f2 k] at hb
      simpa using hb
    obtain⟨gZ,ai,hrel⟩:=B9 CG wO h
    refine⟨gZ,?_,hrel⟩
    unfold Instr.fill
    rw[kP]
    simp only
    rw[if_neg (by simp;omega)]
    rw[←Array.foldl_toList,Array.toList_zipIdx]
    exact ai
   ·cases h
def mD (P:Program) (t:TypeId):Option (List AV):=((P.info? t).bind (·.zero)).map fun z=>z.cells.toList.map ob
theorem WJ (E:Env) (v:Value):bQ E (ob v) v:=by
 unfold ob
 split
 ·exact aL.int _ _
 ·exact aL.bool _
 ·exact aL.str _
 ·exact aL.aJ (PB:=fun _=>False) (sz:=0) (vs:=fun _ _=>undef) (fun _ h=>h.elim) ⟨Nat.le_refl _,Nat.zero_le _⟩ (fun _=>rfl) (fun i row h=>by simp at h) (fun h=>by simp at h) (fun i j row a h=>by simp at h)
 ·exact aL.fD
 ·exact aL.fT
 ·exact aL.undef _
theorem vC {E:Env} {P:Program} {t:TypeId} {z:List AV} (h:mD P t=some z): ∃i v,P.info? t=some i∧i.zero=some v∧z=v.cells.toList.map ob∧az (bQ E) z v.cells.toList:=by
 unfold mD at h
 cases hi:P.info? t with
 | none=>simp[hi] at h
 | some i=>
  cases av:i.zero with
  | none=>simp[hi,av] at h
  | some v=>
   simp[hi,av] at h
   subst h
   refine⟨i,v,rfl,av,rfl,by simp,fun k a b ap hb=> ?_⟩
   rw[List.getElem?_map,hb] at ap
   simp at ap;subst ap;exact WJ E b
def I_ (P:Program) (t:TypeId):Option (List (Nat×Nat)):=match P.underlying t with
 | some (.struct dS)=>dS.toList.mapM (fun f=>(P.info? f.type).map fun i=>(f.offset,i.size))
 | _=>none
def E_ (P:Program) (t:TypeId) (parts:List (Nat×AV)) (K:AV→Prop):Prop:=
 cD (mD P t) fun z=>cD (I_ P t) fun pl=>cD (oZ (fun i=>pl[i]?) z parts) fun cells=>K (.agg cells)
theorem VS {P:Program} {E:Env} {t:TypeId} {parts:List (Nat×AV)} {jW:List (Nat×Value)} {K:AV→Prop} (ab:az (fun a b=>a.1=b.1∧V2 E a.2 b.2) parts jW) (h:E_ P t parts K):
  ∃r u,K r∧(Instr.build t jW.toArray).run P E.w= .ok u E.w∧V3 E r u:=by
 obtain⟨z,av,h⟩:=e5 h
 obtain⟨pl,kP,h⟩:=e5 h
 obtain⟨cells,hf,h⟩:=e5 h
 obtain⟨i,v,h1,h2,ay,bg⟩:=vC (E:=E.bO) av
 obtain⟨gZ,ai,hrel⟩:=B9 ab bg hf
 refine⟨_,.agg gZ,h,run_build E.w t jW.toArray gZ ?_,gZ.toList,by simp,hrel.mono fun _ _ k=>k.up⟩
 unfold I_ at kP
 split at kP
 ·rename_i dS nD
  unfold Program.built
  rw[h1,nD]
  simp only[h2,kP]
  simpa using ai
 ·cases kP
def iP:AV→Bool
 | .int _ _ | .bool _ | .str _ | .aJ _ _ _ | .fD | .fT=>true
 | _=>false
def nv:AV→Bool
 | .aJ _ _ fr=>fr
 | _=>true
def h9:AV→AV
 | .aJ rows _ _=> .aJ rows false false
 | a=>a
def oB:AV→AV
 | .aJ rows full _=> .aJ rows full true
 | a=>a
theorem afi {w:World} {PB PA PF:Nat→Prop} {a:AV} {v:Value} (h:aL w PB (fun _=>False) a v) (hb: ∀c,PB c→PF c) (G7: ∀c,PF c→PA c):aL w PA PF (oB a) v:=by
 have key:(∀rows full fr,a≠ .aJ rows full fr)→aL w PA PF (oB a) v:=fun bN=>by
  have e:oB a=a:=by cases a<;>first | rfl | exact absurd rfl (bN _ _ _)
  rw[e]
  exact h.mono (fun _ _=>rfl) (fun _ h=>h.elim) (fun c hc=>G7 c (hb c hc)) (fun _ h=>h.elim)
 cases a with
 | aJ rows full fr=>
  cases h with
  | aJ eR eZ fB b3 dL hrel=>
   exact .aJ (fun c hc=>by
    have:=eR c hc
    rw[if_pos rfl]
    split at this
    ·exact this.elim
    ·exact hb c this) eZ fB b3 dL hrel
 | _=>exact key (fun _ _ _ e=>by cases e)
theorem Le {w:World} {PA PF PB:Nat→Prop} {a:AV} {v:Value} (ap:iP a=true) (h:aL w PA PF a v) (hb: ∀c,PA c→PB c) (G7: ∀c,PF c→PA c):aL w PB (fun _=>False) (h9 a) v:=by
 cases h with
 | undef=>cases ap
 | int=>exact .int _ _
 | bool=>exact .bool _
 | str=>exact .str _
 | aJ eR eZ fB b3 dL hrel=>
  exact .aJ (fun c hc=>by
   have:=eR c hc
   simp only[Bool.false_eq_true,if_false]
   split at this
   ·exact hb c (G7 c this)
   ·exact hb c this) eZ (fun h=>by cases h) b3 dL hrel
 | c3=>cases ap
 | fD=>exact .fD
 | fT=>exact .fT
 | fn=>cases ap
theorem Ur {w:World} {PA PF:Nat→Prop} {a:AV} {v:Value} (ap:iP a=true) (hf:nv a=true) (h:aL w PA PF a v):aL w PF (fun _=>False) (h9 a) v:=by
 cases h with
 | undef=>cases ap
 | int=>exact .int _ _
 | bool=>exact .bool _
 | str=>exact .str _
 | @aJ _ _ PB rows full fresh A cap sz vs eR eZ fB b3 dL hrel=>
  have Y_:fresh=true:=hf
  subst Y_
  exact .aJ (fun c hc=>by simpa using eR c hc) eZ (fun h=>by cases h) b3 dL hrel
 | c3=>cases ap
 | fD=>exact .fD
 | fT=>exact .fT
 | fn=>cases ap
def chunk (size n:Nat) (cells:List AV):List (List AV):=(List.range n).map fun i=>(cells.drop (i*size)).take size
def v8 (P:Program) (t:TypeId) (n:Nat) (parts:List (Nat×AV)) (K:AV→Prop):Prop:=
 cD (ix P t) fun e=>cD (mD P e) fun z=>if z.length=P.cellsOf e∧n*z.length≤1000000∧n≤1000000 then
  cD (oZ (fun i=>some (i*z.length,z.length)) ((List.range (n*z.length)).map fun i=>z.getD (i%z.length) .undef) parts) fun cells=>
   if cells.all iP=true then K (.aJ (chunk z.length n (cells.map h9)) true (cells.all nv)) else False
 else False
theorem BF {E:Env} {a:AV} {v:Value} (ap:iP a=true) (h:bQ E a v):aL E.w E.PA E.PF a v:=by
 cases a<;>first | exact h | cases ap
theorem Mf {size n i j:Nat} {cells row:List AV} {a:AV} (ai:(chunk size n cells)[i]?=some row) (af:row[j]?=some a):i<n∧j<size∧cells[i*size+j]?=some a:=by
 unfold chunk at ai
 rw[List.getElem?_map] at ai
 cases ul:(List.range n)[i]? with
 | none=>simp[ul] at ai
 | some k=>
  have hi:i<n:=by have:=(List.getElem?_eq_some_iff.1 ul).1;simpa using this
  rw[List.getElem?_range hi] at ul
  cases ul
  rw[List.getElem?_range hi] at ai
  simp at ai
  subst ai
  rw[List.getElem?_take] at af
  split at af
  ·rw[List.getElem?_drop] at af
   exact⟨hi,by assumption,af⟩
  ·cases af
theorem qM (w:World) (o:Obj) (c:Nat) (h:c<w.heap.size):(w.alloc o).heap[c]?=w.heap[c]?:=Go.RowKit.Below.heap_alloc w o c h
theorem n8 (w:World) (o:Obj):(w.alloc o).heap[w.heap.size]?=some o:=by
 show(w.heap.push o)[w.heap.size]?=_
 simp
theorem k3.alloc {E:Env} {H:List Blk} (an:SimH E H) {o:Obj} (ar: ∃aj ty,o= .cells aj ty (0,0)):
  k3 E {E with w:=E.w.alloc o,PA:=fun c=>E.PA c∨c=E.w.heap.size,PF:=fun c=>E.PF c∨c=E.w.heap.size} where
 step:=⟨⟨fun _ h=> .inl h,fun _ h=> .inl h,fun c hc=>qM _ _ _ (an.du c hc),fun c hc=>qM _ _ _ (an.du c (an.dm c hc)),fun _=>Nat.le_refl _,fun _ _ h _=>⟨h,rfl,rfl⟩,fun _ _ h=>h⟩,
  rfl,rfl,rfl,by simp,fun c hc _ _=>qM _ _ _ hc,fun _ _ h=> .inl h,fun _ h=> .inl h,fun c hc=>hc.elim .inl (fun e=> .inr (by omega)),fun c hc=>hc.elim .inl (fun e=> .inr (by omega))⟩
 m:=rfl
 mL:=rfl
 a6:=rfl
 sz:=rfl
 cp:=rfl
 cM:=fun c hc=>qM _ _ _ hc
 fp:=fun c hc=>hc.elim .inl (fun e=> .inr (by simp;omega))
 dm:=fun c hc=>hc.elim (fun h=> .inl (an.dm c h)) .inr
 fg:=fun c hc=>hc.elim (fun h=>(an.fg c h).same (qM _ _ _ (an.du c (an.dm c h)))) fun e=>by
  obtain⟨aj,ty,rfl⟩:=ar
  subst e;exact⟨aj,ty,n8 _ _⟩
theorem VQ {P:Program} {E:Env} {t:TypeId} {e:TypeId} {n:Nat} {z:List AV} {parts:List (Nat×AV)} {jW:List (Nat×Value)} {cells:List AV} (ab:az (fun a b=>a.1=b.1∧V2 E a.2 b.2) parts jW) (he:ix P t=some e) (av:mD P e=some z)
  (nG:z.length=P.cellsOf e) (YP:n*z.length≤1000000∧n≤1000000) (hf:oZ (fun i=>some (i*z.length,z.length)) ((List.range (n*z.length)).map fun i=>z.getD (i%z.length) .undef) parts=some cells):
  ∃gZ,az (bQ E.bO) cells gZ.toList∧(Instr.buildSlice t n jW.toArray).run P E.w= .ok (.slice (some ⟨E.w.heap.size,0,none⟩) n n) (E.w.alloc (.cells gZ e))∧cells.length=n*z.length:=by
 obtain⟨i,v,h1,h2,ay,bg⟩:=vC (E:=E.bO) av
 have us:v.cells.size=z.length:=by rw[ay];simp
 have wI:i.size=z.length:=by rw[nG];simp[Program.cellsOf,h1]
 let kF:Array Value:=if n*z.length=0 then #[] else v.cells
 let base:Array Value:=(Array.range (n*z.length)).map (fun i=>kF[i%kF.size]!)
 have o9:az (bQ E.bO) ((List.range (n*z.length)).map fun i=>z.getD (i%z.length) .undef) base.toList:=by
  refine⟨by simp[base],fun k a b ap hb=> ?_⟩
  rw[List.getElem?_map] at ap
  have hk:k<n*z.length:=by
   cases U:(List.range (n*z.length))[k]? with
   | none=>simp[U] at ap
   | some x=>have:=(List.getElem?_eq_some_iff.1 U).1;simpa using this
  rw[List.getElem?_range hk] at ap
  simp only[Option.map_some,Option.some.injEq] at ap
  have kQ:0<z.length:=by
   rcases Nat.eq_zero_or_pos z.length with q | q
   ·rw[q,Nat.mul_zero] at hk;omega
   ·exact q
  have aN:k%z.length<z.length:=Nat.mod_lt _ kQ
  have pg:kF=v.cells:=if_neg (by omega)
  have dV:base[k]?=some (v.cells[k%z.length]!):=by
   show((Array.range (n*z.length)).map (fun i=>kF[i%kF.size]!))[k]?=_
   rw[pg,us]
   simp[hk]
  rw[Array.getElem?_toList,dV] at hb
  simp only[Option.some.injEq] at hb
  have mU:v.cells.toList[k%z.length]?=some (v.cells[k%z.length]!):=by
   rw[Array.getElem?_toList,Array.getElem?_eq_getElem (by omega)]
   congr 1
   exact(getElem!_pos v.cells (k%z.length) (by omega)).symm
  have Hs:z[k%z.length]?=some a:=by
   rw[←ap,List.getD_eq_getElem?_getD,List.getElem?_eq_getElem aN];rfl
  rw[←hb]
  exact bg.2 _ _ _ Hs mU
 obtain⟨gZ,ai,hrel⟩:=B9 ab o9 hf
 have hu:=sn he
 have fu:(Instr.buildSlice t n jW.toArray).run P E.w= .ok (.slice (some ⟨E.w.heap.size,0,none⟩) n n) (E.w.alloc (.cells gZ e)):=by
  have GJ: ¬n*z.length>2 ^ 24:=by omega
  simp only[Instr.buildSlice,Sem.run_bind,run_underlying hu,Result.andThen_ok,run_sizeOf (show(P.info? e).isSome=true by rw[h1];rfl),←nG,if_neg GJ]
  have eH:Instr.fill (fun i=>some (i*z.length,z.length)) ((Array.range (n*z.length)).map (fun x=>kF[x%kF.size]!)) jW=some gZ:=ai
  by_cases q:n*z.length=0
  ·have pg:kF= #[]:=if_pos q
   rw[if_pos q]
   simp only[Sem.run_bind,Sem.run_pure,Result.andThen_ok]
   rw[←pg,eH]
   simp[newRow]
  ·have pg:kF=v.cells:=if_neg q
   rw[if_neg q]
   simp only[Sem.run_bind,Sem.run_pure,Result.andThen_ok,zeroValue,typeInfo,h1,h2,run_program]
   rw[←pg,eH]
   simp[newRow]
 have hlen:cells.length=n*z.length:=by
  have q:=hrel.1
  have: ∀(parts:List (Nat×AV)) (c r:List AV),oZ (fun i=>some (i*z.length,z.length)) c parts=some r→r.length=c.length:=by
   intro parts
   induction parts with
   | nil=>intro c r bm;cases bm;rfl
   | cons p ps bn=>
    intro c r bm
    obtain⟨a,b⟩:=p
    unfold oZ at bm
    split at bm
    ·cases bm
    ·split at bm
     ·rename_i hc
      rw[bn _ _ bm];simp[gf];omega
     ·cases bm
  rw[this _ _ _ hf];simp
 exact⟨gZ,hrel,fu,hlen⟩
theorem L6 {P:Program} {E:Env} {H:List Blk} {t:TypeId} {n:Nat} {parts:List (Nat×AV)} {jW:List (Nat×Value)} {K:AV→Prop} (an:SimH E H) (ab:az (fun a b=>a.1=b.1∧V2 E a.2 b.2) parts jW) (h:v8 P t n parts K):
  ∃r u E',K r∧(Instr.buildSlice t n jW.toArray).run P E.w= .ok u E'.w∧k3 E E'∧V3 E' r u:=by
 obtain⟨e,he,h⟩:=e5 h
 obtain⟨z,av,h⟩:=e5 h
 split at h
 case isFalse=>exact h.elim
 case isTrue hb=>
 obtain⟨nG,YP⟩:=hb
 obtain⟨cells,hf,h⟩:=e5 h
 split at h
 case isFalse=>exact h.elim
 case isTrue hby=>
 obtain⟨i,v,h1,h2,ay,bg⟩:=vC (E:=E.bO) av
 have us:v.cells.size=z.length:=by rw[ay];simp
 have wI:i.size=z.length:=by rw[nG];simp[Program.cellsOf,h1]
 let kF:Array Value:=if n*z.length=0 then #[] else v.cells
 let base:Array Value:=(Array.range (n*z.length)).map (fun i=>kF[i%kF.size]!)
 have o9:az (bQ E.bO) ((List.range (n*z.length)).map fun i=>z.getD (i%z.length) .undef) base.toList:=by
  refine⟨by simp[base],fun k a b ap hb=> ?_⟩
  rw[List.getElem?_map] at ap
  have hk:k<n*z.length:=by
   cases U:(List.range (n*z.length))[k]? with
   | none=>simp[U] at ap
   | some x=>have:=(List.getElem?_eq_some_iff.1 U).1;simpa using this
  rw[List.getElem?_range hk] at ap
  simp only[Option.map_some,Option.some.injEq] at ap
  have kQ:0<z.length:=by
   rcases Nat.eq_zero_or_pos z.length with q | q
   ·rw[q,Nat.mul_zero] at hk;omega
   ·exact q
  have aN:k%z.length<z.length:=Nat.mod_lt _ kQ
  have pg:kF=v.cells:=if_neg (by omega)
  have dV:base[k]?=some (v.cells[k%z.length]!):=by
   show((Array.range (n*z.length)).map (fun i=>kF[i%kF.size]!))[k]?=_
   rw[pg,us]
   simp[hk]
  rw[Array.getElem?_toList,dV] at hb
  simp only[Option.some.injEq] at hb
  have mU:v.cells.toList[k%z.length]?=some (v.cells[k%z.length]!):=by
   rw[Array.getElem?_toList,Array.getElem?_eq_getElem (by omega)]
   congr 1
   exact(getElem!_pos v.cells (k%z.length) (by omega)).symm
  have Hs:z[k%z.length]?=some a:=by
   rw[←ap,List.getD_eq_getElem?_getD,List.getElem?_eq_getElem aN];rfl
  rw[←hb]
  exact bg.2 _ _ _ Hs mU
 obtain⟨gZ,ai,hrel⟩:=B9 ab o9 hf
 have U:=k3.alloc an (o:= .cells gZ e) ⟨_,_,rfl⟩
 have hu:=sn he
 have fu:(Instr.buildSlice t n jW.toArray).run P E.w= .ok (.slice (some ⟨E.w.heap.size,0,none⟩) n n) (E.w.alloc (.cells gZ e)):=by
  have GJ: ¬n*z.length>2 ^ 24:=by omega
  simp only[Instr.buildSlice,Sem.run_bind,run_underlying hu,Result.andThen_ok,run_sizeOf (show(P.info? e).isSome=true by rw[h1];rfl),←nG,if_neg GJ]
  have eH:Instr.fill (fun i=>some (i*z.length,z.length)) ((Array.range (n*z.length)).map (fun x=>kF[x%kF.size]!)) jW=some gZ:=ai
  by_cases q:n*z.length=0
  ·have pg:kF= #[]:=if_pos q
   rw[if_pos q]
   simp only[Sem.run_bind,Sem.run_pure,Result.andThen_ok]
   rw[←pg,eH]
   simp[newRow]
  ·have pg:kF=v.cells:=if_neg q
   rw[if_neg q]
   simp only[Sem.run_bind,Sem.run_pure,Result.andThen_ok,zeroValue,typeInfo,h1,h2,run_program]
   rw[←pg,eH]
   simp[newRow]
 have hlen:cells.length=n*z.length:=by
  have q:=hrel.1
  have: ∀(parts:List (Nat×AV)) (c r:List AV),oZ (fun i=>some (i*z.length,z.length)) c parts=some r→r.length=c.length:=by
   intro parts
   induction parts with
   | nil=>intro c r bm;cases bm;rfl
   | cons p ps bn=>
    intro c r bm
    obtain⟨a,b⟩:=p
    unfold oZ at bm
    split at bm
    ·cases bm
    ·split at bm
     ·rename_i hc
      rw[bn _ _ bm];simp[gf];omega
     ·cases bm
  rw[this _ _ _ hf];simp
 refine⟨_,_,_,h,fu,U,?_⟩
 have nC:(chunk z.length n (cells.map h9)).length=n:=by simp[chunk]
 show aL (E.w.alloc (.cells gZ e)) (fun c=>E.PA c∨c=E.w.heap.size) (fun c=>E.PF c∨c=E.w.heap.size) _ _
 have key:=aL.aJ (w:=E.w.alloc (.cells gZ e)) (PA:=fun c=>E.PA c∨c=E.w.heap.size) (PF:=fun c=>E.PF c∨c=E.w.heap.size)
  (PB:=if cells.all nv=true then(fun c=>E.PF c∨c=E.w.heap.size) else(fun c=>E.PA c∨c=E.w.heap.size))
  (rows:=chunk z.length n (cells.map h9)) (full:=true) (fresh:=cells.all nv) (A:=some ⟨E.w.heap.size,0,none⟩) (cap:=n) (sz:=z.length) (vs:=fun i j=>(gZ[i*z.length+j]?).getD undef)
  (fun c hc=>by split at hc<;>(rename_i q;simp only[q];first | exact hc | simpa using hc)) (by omega) (fun _=>nC.symm)
  (fun i row ai=>by
   unfold chunk at ai
   rw[List.getElem?_map] at ai
   cases ul:(List.range n)[i]? with
   | none=>simp[ul] at ai
   | some k=>
    have hi:i<n:=by have:=(List.getElem?_eq_some_iff.1 ul).1;simpa using this
    rw[List.getElem?_range hi] at ai
    simp at ai
    subst ai
    have:i*z.length+z.length≤n*z.length:=by
     calc i*z.length+z.length=(i+1)*z.length:=by rw[Nat.add_mul,Nat.one_mul]
      _≤n*z.length:=Nat.mul_le_mul_right _ (by omega)
    simp;omega)
  (fun _=>⟨E.w.heap.size,0,rfl,by split<;>exact .inr rfl,fun i j hi af=>by
   rw[nC] at hi
   have:i*z.length+z.length≤n*z.length:=by
    calc i*z.length+z.length=(i+1)*z.length:=by rw[Nat.add_mul,Nat.one_mul]
     _≤n*z.length:=Nat.mul_le_mul_right _ (by omega)
   have He:gZ.size=n*z.length:=by rw[←hlen,hrel.1];simp
   rw[Nat.zero_add]
   have aN:i*z.length+j<gZ.size:=by omega
   rw[World.cell?_alloc_new]
   simp[Array.getElem?_eq_getElem aN]⟩)
  (fun i j row a ai af=>by
   obtain⟨hi,aiN,hc⟩:=Mf ai af
   rw[List.getElem?_map] at hc
   cases tY:cells[i*z.length+j]? with
   | none=>simp[tY] at hc
   | some b=>
    simp[tY] at hc
    subst hc
    obtain⟨u,hu,gy⟩:=hrel.get tY
    have GL:iP b=true:=List.all_eq_true.1 hby b (List.mem_of_getElem? tY)
    have mf:=BF GL gy.up
    have mT:(gZ[i*z.length+j]?).getD undef=u:=by rw[Array.getElem?_toList] at hu;rw[hu];rfl
    rw[mT]
    by_cases dU:cells.all nv=true
    ·have Y8:nv b=true:=List.all_eq_true.1 dU b (List.mem_of_getElem? tY)
     rw[if_pos dU]
     exact(Ur GL Y8 mf).mono (fun c hc=>qM _ _ _ (an.du c (an.dm c hc))) (fun c hc=>hc.elim) (fun c hc=> .inl hc) (fun c hc=>hc)
    ·rw[if_neg dU]
     exact(Le GL mf (fun c hc=>hc) an.dm).mono (fun c hc=>qM _ _ _ (an.du c hc)) (fun c hc=>hc.elim) (fun c hc=> .inl hc) (fun c hc=>hc))
 rw[nC] at key
 exact key
def B6 (P:Program) (t:TypeId) (f:Nat):Option Field:=match P.underlying t with
 | some (.struct dS)=>dS.toList[f]?
 | _=>none
theorem Xh {P:Program} {t:TypeId} {f:Nat} {fd:Field} (h:B6 P t f=some fd): ∃dS,P.underlying t=some (.struct dS)∧dS[f]?=some fd:=by
 unfold B6 at h
 split at h
 ·rename_i dS nD;exact⟨dS,nD,by simpa using h⟩
 ·cases h
def F_ (P:Program) (t:TypeId) (x:AV) (f:Nat) (K:AV→Prop):Prop:=
 cD (B6 P t f) fun fd=>if(P.info? fd.type).isSome=true∧P.cellsOf fd.type≠0 then(match x with
  | .e4 s c=>K (.e4 s (c+fd.offset))
  | .ptr b g r c=>K (.ptr b g r (c+fd.offset))
  | .c3 cells c=>K (.c3 cells (c+fd.offset))
  | _=>False) else False
theorem afw {P:Program} {fd:Field} {w:World} {c o:Nat} (hi:(P.info? fd.type).isSome=true) (av:P.cellsOf fd.type≠0):
  (fieldPlace ⟨c,o,none⟩ fd).run P w= .ok ⟨c,o+fd.offset,none⟩ w:=by
 simp[fieldPlace,run_sizeOf hi,av,nl]
theorem Xg {P:Program} {t:TypeId} {x:AV} {f:Nat} {K:AV→Prop} {E:Env} {v:Value} (hx:V3 E x v)
  (h:F_ P t x f K):
  ∃r u,K r∧(Instr.fieldAt t v f).run P E.w= .ok u E.w∧V3 E r u:=by
 obtain⟨fd,hf,h⟩:=e5 h
 obtain⟨dS,hu,Y9⟩:=Xh hf
 split at h
 case isFalse=>exact h.elim
 case isTrue hc=>
 obtain⟨hi,av⟩:=hc
 have run: ∀bl o,(Instr.fieldAt t (.pointer (some ⟨bl,o,none⟩)) f).run P E.w= .ok (.pointer (some ⟨bl,o+fd.offset,none⟩)) E.w:=by
  intro bl o
  simp[Instr.fieldAt,run_underlying hu,Y9,Instr.sureAddr,afw hi av]
 cases x with
 | e4 s c=>
  obtain⟨bl,hm,rfl⟩:=hx.zY
  exact⟨_,_,h,run bl c,bl,hm,rfl⟩
 | ptr b g r c=>
  rcases(show ey E (.ptr b g r c) v from hx) with⟨aB,bl,o,rfl⟩ | ⟨aB,bl,hm,rfl⟩
  ·exact⟨_,_,h,run bl o,.inl ⟨aB,_,_,rfl⟩⟩
  ·exact⟨_,_,h,run bl _,.inr ⟨aB,bl,hm,by rw[Nat.add_assoc]⟩⟩
 | c3 cells c=>
  have h4:aL E.w E.PA E.PF (.c3 cells c) v:=hx
  cases h4 with
  | @c3 _ _ _ _ bl o vs hc dL hrel=>
   exact⟨_,_,h,run bl _,by rw[Nat.add_assoc];exact aL.c3 hc dL hrel⟩
 | _=>exact h.elim
def wY (P:Program) (t:TypeId) (x i:AV) (H:List Blk) (K:AV→Prop):Prop:=
 cD (ix P t) fun e=>if(P.info? e).isSome=true then(match i with
  | .int _ n=>(match x with
   | .aJ rows _ _=>0≤n∧cD rows[n.toNat]? fun row=>row.length=P.cellsOf e∧K (.c3 row 0)
   | .ref b g off m _=>cD H[b]? fun blk=>blk.a6=g∧blk.sz=P.cellsOf e∧0≤n∧n<m∧K (.ptr b g (off+n.toNat) 0)
   | _=>False)
  | _=>False) else False
theorem aaa {P:Program} {t:TypeId} {x i:AV} {K:AV→Prop} {E:Env} {L jY:List (Nat×List AV)} {H eI:List Blk} {v zQ:Value} (sub:Sub L H jY eI) (an:SimH E eI) (hx:V3 E x v) (hi:V3 E i zQ)
  (h:wY P t x i H K): ∃r u,K r∧(Instr.indexAt t v zQ).run P E.w= .ok u E.w∧V3 E r u:=by
 obtain⟨e,he,h⟩:=e5 h
 have hu:=sn he
 split at h
 case isFalse=>exact h.elim
 case isTrue hinf=>
 cases i with
 | int k n=>
  obtain rfl:=hi.nI
  cases x with
  | aJ rows full fresh=>
   obtain⟨au,h⟩:=(show 0≤n∧cD rows[n.toNat]? fun row=>row.length=P.cellsOf e∧K (.c3 row 0) from h)
   obtain⟨row,ai,ao,hK⟩:=e5 h
   have aN:n.toNat<rows.length:=(List.getElem?_eq_some_iff.1 ai).1
   have h4:aL E.w E.PA E.PF (.aJ rows full fresh) v:=hx
   cases h4 with
   | @aJ _ _ PB _ _ _ A cap sz vs eR eZ fB b3 dL hrel=>
    obtain⟨c,o,rfl,hc,dU⟩:=dL (by omega)
    have zE:=b3 _ _ ai
    refine⟨_,.pointer (some ⟨c,o+n.toNat*P.cellsOf e,none⟩),hK,?_,?_⟩
    ·simp only[Instr.indexAt,Sem.run_bind,asIntOf,Sem.run_pure,Result.andThen_ok,run_underlying hu]
     rw[if_pos ⟨au,by omega⟩]
     simp[run_sizeOf hinf,nl]
    ·show aL _ _ _ _ _
     have:=aL.c3 (w:=E.w) (PA:=E.PA) (PF:=E.PF) (cells:=row) (col:=0) (c:=c) (o:=o+n.toNat*P.cellsOf e) (vs:=vs n.toNat)
      (by have:=eR c hc;split at this;exact an.dm c this;exact this)
      (fun j af=>by rw[Nat.add_assoc,←ao,zE];exact dU n.toNat j aN (by omega))
      (fun j a af=>(hrel n.toNat j row a ai af).mono (fun _ _=>rfl) (fun _ h=>h.elim) (fun d aO=>by
       have:=eR d aO;split at this;exact an.dm d this;exact this) (fun _ h=>h))
     simpa using this
  | ref b g off m full=>
   obtain⟨blk,hb,aB,mb,au,h1,hK⟩:=e5 (show cD H[b]? fun blk=>blk.a6=g∧blk.sz=P.cellsOf e∧0≤n∧n<m∧K (.ptr b g (off+n.toNat) 0) from h)
   have hb:=sub.h b blk hb
   have jI:=an.eG b blk hb
   rcases(show ey E (.ref b g off m full) v from hx) with⟨bm,_⟩ | ⟨fO,bm⟩
   ·omega
   ·rcases bm with⟨_,_,ra,_⟩ | ⟨c,cap,hm,rfl,oi,pb,p7⟩
    ·omega
    ·obtain⟨blk',aj,ty,q1,bU,_⟩:=an.heap b c hm
     obtain rfl:blk=blk':=by rw[hb] at q1;exact Option.some.inj q1
     refine⟨_,.pointer (some ⟨c,(off+n.toNat)*E.sz b+0,none⟩),hK,?_,.inr ⟨fO,c,hm,rfl⟩⟩
     simp only[Instr.indexAt,Sem.run_bind,asIntOf,Sem.run_pure,Result.andThen_ok,run_underlying hu]
     rw[if_pos ⟨au,h1⟩]
     simp[run_sizeOf hinf,nl,bU,mb,Nat.add_mul]
  | _=>exact h.elim
 | _=>exact h.elim
def Hw (P:Program) (t:TypeId) (x i:AV) (K:AV→Prop):Prop:=match x with
 | .str s=>(match i with
  | .int _ n=>(match P.underlying t with
   | some .string=>0≤n∧n<s.size∧K (.int .u8 (s.data.getD n.toNat 0).toNat)
   | _=>False)
  | _=>False)
 | _=>False
theorem aak {P:Program} {t:TypeId} {x i:AV} {K:AV→Prop} {E:Env} {v zQ:Value} (hx:V3 E x v) (hi:V3 E i zQ) (h:Hw P t x i K):
  ∃r u,K r∧(Instr.index t v zQ).run P E.w= .ok u E.w∧V3 E r u:=by
 cases x with
 | str s=>
  cases i with
  | int k n=>
   obtain rfl:=hx.x4
   obtain rfl:=hi.nI
   have h:(match P.underlying t with
    | some .string=>0≤n∧n<s.size∧K (.int .u8 (s.data.getD n.toNat 0).toNat)
    | _=>False):=h
   split at h
   ·rename_i hu
    obtain⟨au,h1,hK⟩:=h
    refine⟨_,.int .u8 (s.data.getD n.toNat 0).toNat,hK,?_,aL.int _ _⟩
    have aN:n.toNat<s.size:=by omega
    have G4:n.toNat<s.data.size:=aN
    have:s[n.toNat]?=some (s.data.getD n.toNat 0):=by
     rw[getElem?_pos s n.toNat aN]
     congr 1
     show s.data[n.toNat]=_
     rw[Array.getD_eq_getD_getElem?,Array.getElem?_eq_getElem G4];rfl
    simp only[Instr.index,Sem.run_bind,asIntOf,Sem.run_pure,Result.andThen_ok,run_underlying hu]
    rw[if_pos au,this]
    rfl
   ·exact h.elim
  | _=>exact h.elim
 | _=>exact h.elim
def rF (x:AV) (K:AV→Prop):Prop:=match x with
 | .aJ rows _ _=>rows.length≤4611686018427387904→K (.int .i64 rows.length)
 | .str s=>K (.int .i64 s.size)
 | .ref _ _ _ n _=>K (.int .i64 n)
 | _=>False
def js (P:Program) (t:TypeId) (x:AV):Bool:=match P.underlying t,x with
 | some .string,.str _=>true
 | some (.slice _),.aJ _ _ _=>true
 | some (.slice _),.ref _ _ _ _ _=>true
 | _,_=>false
theorem adg {P:Program} {t ty:TypeId} {x:AV} {K:AV→Prop} {E:Env} {v:Value} (hx:V3 E x v)
  (a_:js P t x=true) (h:rF x K): ∃r u,K r∧(Builtin.len_ #[t] ty #[v]).run P E.w= .ok u E.w∧V3 E r u:=by
 unfold js at a_
 split at a_<;>try (cases a_;done)
 ·rename_i s hu
  obtain rfl:=hx.x4
  exact⟨_,_,h,by simp[Builtin.len_,run_underlying hu,goInt],aL.int _ _⟩
 ·rename_i e rows c8 fr hu
  have h4:aL E.w E.PA E.PF (.aJ rows c8 fr) v:=hx
  cases h4 with
  | @aJ _ _ PB _ _ _ A cap sz vs eR eZ fB b3 dL hrel=>
   have h:rows.length≤4611686018427387904→K (.int .i64 rows.length):=h
   exact⟨_,_,h eZ.2,by simp[Builtin.len_,run_underlying hu,goInt],aL.int _ _⟩
 ·rename_i e b g off n c8 hu
  have h:K (.int .i64 n):=h
  rcases(show ey E (.ref b g off n c8) v from hx) with⟨_,A,cap,rfl⟩ | ⟨fO,bm⟩
  ·exact⟨_,_,h,by simp[Builtin.len_,run_underlying hu,goInt],aL.int _ _⟩
  ·rcases bm with⟨_,_,rfl,A,rfl⟩ | ⟨c,cap,hm,rfl,oi,pb,p7⟩
   ·exact⟨_,_,h,by simp[Builtin.len_,run_underlying hu,goInt],aL.int _ _⟩
   ·exact⟨_,_,h,by simp[Builtin.len_,run_underlying hu,goInt],aL.int _ _⟩
def F6 (x:AV) (i:Nat) (K:AV→Prop):Prop:=match x with
 | .tup l=>cD l[i]? K
 | _=>False
theorem Xb {P:Program} {x:AV} {i:Nat} {K:AV→Prop} {E:Env} {v:Value} (hx:V3 E x v) (h:F6 x i K):
  ∃r u,K r∧(Instr.extract v i).run P E.w= .ok u E.w∧V3 E r u:=by
 cases x with
 | tup l=>
  obtain⟨vs,rfl,ab⟩:=hx
  obtain⟨a,ap,hK⟩:=e5 (show cD l[i]? K from h)
  obtain⟨u,hu,ai⟩:=ab.get ap
  refine⟨a,u,hK,?_,pR ai⟩
  simp[Instr.extract,hu]
 | _=>exact h.elim
def Et (op:UnOp) (x:AV) (K:AV→Prop):Prop:=match op,x with
 | .not,.bool b=>K (.bool (!b))
 | .neg,.int k n=>K (.int k (k.wrap (0 - n)))
 | _,_=>False
theorem ahV {P:Program} {op:UnOp} {x:AV} {K:AV→Prop} {E:Env} {v:Value} (hx:V3 E x v) (h:Et op x K):
  ∃r u,K r∧(Op.unary op v).run P E.w= .ok u E.w∧V3 E r u:=by
 unfold Et at h
 split at h
 ·obtain rfl:=hx.nn;exact⟨_,_,h,rfl,aL.bool _⟩
 ·obtain rfl:=hx.nI;exact⟨_,_,h,rfl,aL.int _ _⟩
 ·exact h.elim
def I2 (x:AV) (K:AV→Prop):Prop:=match x with
 | .ptr _ _ _ _ | .e4 _ _ | .c3 _ _=>K x
 | _=>False
def w9 (P:Program) (t:TypeId):Option IntKind:=match P.underlying t with
 | some (.int k)=>some k
 | _=>none
theorem Pv {P:Program} {t:TypeId} {k:IntKind} (h:w9 P t=some k):P.underlying t=some (.int k):=by
 unfold w9 at h
 split at h
 ·cases h;assumption
 ·cases h
def FJ (P:Program) (s d:TypeId) (x:AV) (K:AV→Prop):Prop:=match x with
 | .int _ n=>cD (w9 P s) fun _=>cD (w9 P d) fun k=>K (.int k (k.wrap n))
 | _=>False
theorem WL {P:Program} {s d:TypeId} {x:AV} {K:AV→Prop} {E:Env} {v:Value} (hx:V3 E x v) (h:FJ P s d x K):
  ∃r u,K r∧(Go.convert s d v).run P E.w= .ok u E.w∧V3 E r u:=by
 cases x with
 | int aY n=>
  obtain⟨dr,h1,h⟩:=e5 (show cD (w9 P s) _ from h)
  obtain⟨gE,h2,h⟩:=e5 h
  obtain rfl:=hx.nI
  refine⟨_,_,h,?_,aL.int _ _⟩
  simp only[Go.convert,Sem.run_bind,run_underlying (Pv h1),run_underlying (Pv h2),Result.andThen_ok]
  rfl
 | _=>exact h.elim
def ly (x:Option AV) (d:Nat) (K:Nat→Prop):Prop:=match x with
 | none=>K d
 | some (.int _ n)=>0≤n∧K n.toNat
 | some _=>False
def vj (P:Program) (t:TypeId) (x:AV) (lo hi:Option AV) (H:List Blk) (K:AV→Prop):Prop:=match x with
 | .str s=>(match P.underlying t with
  | some .string=>ly lo 0 fun l=>ly hi s.size fun h=>l≤h∧h≤s.size∧K (.str (s.extract l h))
  | _=>False)
 | .aJ rows _ fr=>cD (ix P t) fun e=>if(P.info? e).isSome=true then
   ly lo 0 fun l=>ly hi rows.length fun h=>l≤h∧h≤rows.length∧(∀(i:Nat) (row:List AV),rows[i]?=some row→row.length=P.cellsOf e)∧K (.aJ ((rows.drop l).take (h - l)) false fr) else False
 | .ref b g off n _=>cD (ix P t) fun e=>if(P.info? e).isSome=true then
   cD H[b]? fun blk=>blk.a6=g∧blk.sz=P.cellsOf e∧ly lo 0 fun l=>ly hi n fun h=>l≤h∧h≤n∧(l<h→K (.ref b g (off+l) (h - l) false))∧(l=h→K (.aJ [] false true)) else False
 | _=>False
def Bl (E:Env) (x:Option AV) (v:Option Value):Prop:=match x,v with
  | none,none=>True
  | some a,some u=>V3 E a u
  | _,_=>False
theorem vZ {x:Option AV} {d:Nat} {K:Nat→Prop} {E:Env} {v:Option Value} (hx:Bl E x v) (h:ly x d K): ∃n,K n∧((v=none∧n=d)∨ ∃k,v=some (.int k n)):=by
 cases x with
 | none=>
  cases v with
  | none=>exact⟨d,h,.inl ⟨rfl,rfl⟩⟩
  | some u=>exact hx.elim
 | some a=>
  cases v with
  | none=>exact hx.elim
  | some u=>
   cases a with
   | int k n=>
    obtain⟨au,h⟩:=(show 0≤n∧K n.toNat from h)
    obtain rfl:=V3.nI hx
    exact⟨n.toNat,h,.inr ⟨k,by rw[Int.toNat_of_nonneg au]⟩⟩
   | _=>exact h.elim
theorem JB {P:Program} {w:World} {isS:Bool} {len cap l h:Nat} {lo hi:Option Value} (ao:(lo=none∧l=0)∨ ∃k,lo=some (.int k l)) (bm:(hi=none∧h=len)∨ ∃k,hi=some (.int k h))
  (h1:l≤h) (h2:h≤cap):(Instr.sliceBounds isS len cap lo hi none).run P w= .ok (l,h,cap) w:=by
 rcases ao with⟨rfl,rfl⟩ | ⟨xb,rfl⟩<;>rcases bm with⟨rfl,rfl⟩ | ⟨Py,rfl⟩
 ·simp[Instr.sliceBounds]
 ·simp[Instr.sliceBounds,run_sliceBound (P:=P) w Py (h:Int) cap _ (by omega) (by omega)]
 ·simp[Instr.sliceBounds,run_sliceBound (P:=P) w xb (l:Int) _ _ (by omega) (show(l:Int)≤((_:Nat):Int) by exact Int.ofNat_le.2 h1)]
 ·simp[Instr.sliceBounds,run_sliceBound (P:=P) w Py (h:Int) cap _ (by omega) (by omega),run_sliceBound (P:=P) w xb (l:Int) h _ (by omega) (by omega)]
theorem afV {P:Program} {t:TypeId} {x:AV} {lo hi:Option AV} {K:AV→Prop} {E:Env} {L jY:List (Nat×List AV)} {H eI:List Blk} {v:Value} {Lj Li:Option Value} (sub:Sub L H jY eI) (an:SimH E eI) (hx:V3 E x v)
  (CA:Bl E lo Lj) (GY:Bl E hi Li)
  (h:vj P t x lo hi H K): ∃r u,K r∧(Instr.sliceAt t v Lj Li none).run P E.w= .ok u E.w∧V3 E r u:=by
 cases x with
 | str s=>
  obtain rfl:=hx.x4
  have h:(match P.underlying t with
   | some .string=>ly lo 0 fun l=>ly hi s.size fun h=>l≤h∧h≤s.size∧K (.str (s.extract l h))
   | _=>False):=h
  split at h
  ·rename_i hu
   obtain⟨l,h,ao⟩:=vZ CA h
   obtain⟨q,⟨h1,h2,hK⟩,U⟩:=vZ GY h
   refine⟨_,.string (s.extract l q),hK,?_,aL.str _⟩
   rw[run_sliceAt_string E.w t _ _ _ _ hu]
   simp only[Instr.slice,Sem.run_bind,run_underlying hu,Result.andThen_ok]
   simp only[Option.isSome_none,Bool.false_eq_true,if_false]
   simp only[Sem.run_bind,JB (P:=P) (w:=E.w) (isS:=false) ao U h1 h2,Result.andThen_ok]
   rfl
  ·exact h.elim
 | aJ rows full fr=>
  obtain⟨e,he,h⟩:=e5 (show cD (ix P t) fun e=>if(P.info? e).isSome=true then
   ly lo 0 fun l=>ly hi rows.length fun h=>l≤h∧h≤rows.length∧(∀(i:Nat) (row:List AV),rows[i]?=some row→row.length=P.cellsOf e)∧K (.aJ ((rows.drop l).take (h - l)) false fr) else False from h)
  have hu:=sn he
  split at h
  case isFalse=>exact h.elim
  case isTrue hinf=>
  obtain⟨l,h,ao⟩:=vZ CA h
  obtain⟨q,⟨h1,h2,qb,hK⟩,U⟩:=vZ GY h
  have h4:aL E.w E.PA E.PF (.aJ rows full fr) v:=hx
  cases h4 with
  | @aJ _ _ PB _ _ _ A cap sz vs eR eZ fB b3 dL hrel=>
   have t_:P.elem t=e:=by simp[Program.elem,hu]
   have mT:P.underlying t=some (.slice (P.elem t)):=by rw[t_];exact hu
   have hlen:((rows.drop l).take (q - l)).length=q - l:=by simp;omega
   refine⟨_,sliced A l q cap (P.cellsOf e),hK,?_,?_⟩
   ·rw[run_sliceAt_slice E.w t _ _ _ _ mT,run_slice_any E.w t A rows.length cap mT,JB (P:=P) (w:=E.w) ao U h1 (by omega)]
    simp only[Result.andThen_ok,t_,run_sizeOf hinf]
   ·show aL E.w E.PA E.PF _ (.slice _ (q - l) (cap - l))
    have key:=aL.aJ (w:=E.w) (PA:=E.PA) (PF:=E.PF) (PB:=PB) (rows:=(rows.drop l).take (q - l)) (full:=false) (fresh:=fr) (A:=if cap=l then A else A.map (·.add (l*P.cellsOf e))) (cap:=cap - l) (sz:=sz) (vs:=fun i j=>vs (l+i) j)
     eR (by rw[hlen];omega) (fun h=>by cases h)
     (fun i row ai=>by
      rw[List.getElem?_take] at ai
      split at ai
      ·rw[List.getElem?_drop] at ai;exact b3 _ _ ai
      ·cases ai)
     (fun ad=>by
      rw[hlen] at ad
      obtain⟨c,o,rfl,hc,dU⟩:=dL (by omega)
      have ZR:sz=P.cellsOf e:=by
       have aN:l<rows.length:=by omega
       rw[←b3 l _ (List.getElem?_eq_getElem aN)];exact qb l _ (List.getElem?_eq_getElem aN)
      refine⟨c,o+l*P.cellsOf e,by rw[if_neg (by omega)];simp[nl],hc,fun i j hi af=> ?_⟩
      rw[hlen] at hi
      have:=dU (l+i) j (by omega) af
      rw[←this,ZR]
      congr 2
      rw[Nat.add_mul];omega)
     (fun i j row a ai af=>by
      rw[List.getElem?_take] at ai
      split at ai
      ·rw[List.getElem?_drop] at ai;exact hrel _ _ _ _ ai af
      ·cases ai)
    rw[hlen] at key
    exact key
 | ref b g off n full=>
  obtain⟨e,he,h⟩:=e5 (show cD (ix P t) fun e=>if(P.info? e).isSome=true then
   cD H[b]? fun blk=>blk.a6=g∧blk.sz=P.cellsOf e∧ly lo 0 fun l=>ly hi n fun h=>l≤h∧h≤n∧(l<h→K (.ref b g (off+l) (h - l) false))∧(l=h→K (.aJ [] false true)) else False from h)
  have hu:=sn he
  split at h
  case isFalse=>exact h.elim
  case isTrue hinf=>
  obtain⟨blk,hb,aB,mb,h⟩:=e5 h
  obtain⟨l,h,ao⟩:=vZ CA h
  obtain⟨q,⟨h1,h2,YE,Nv⟩,U⟩:=vZ GY h
  have hb:=sub.h b blk hb
  have jI:=an.eG b blk hb
  have t_:P.elem t=e:=by simp[Program.elem,hu]
  have mT:P.underlying t=some (.slice (P.elem t)):=by rw[t_];exact hu
  have run: ∀A cap,n≤cap→(Instr.sliceAt t (.slice A n cap) Lj Li none).run P E.w= .ok (sliced A l q cap (P.cellsOf e)) E.w:=by
   intro A cap hc
   rw[run_sliceAt_slice E.w t _ _ _ _ mT,run_slice_any E.w t A n cap mT,JB (P:=P) (w:=E.w) ao U h1 (by omega)]
   simp only[Result.andThen_ok,t_,run_sizeOf hinf]
  have empty: ∀A cap,l=q→V3 E (.aJ [] false true) (sliced A l q cap (P.cellsOf e)):=by
   intro A cap uh
   subst uh
   show aL E.w E.PA E.PF _ (.slice _ (l - l) (cap - l))
   rw[Nat.sub_self]
   exact aL.aJ (PB:=fun _=>False) (sz:=0) (vs:=fun _ _=>undef) (fun _ h=>h.elim) ⟨Nat.zero_le _,Nat.zero_le _⟩ (fun h=>by cases h) (fun i row h=>by simp at h) (fun h=>by simp at h) (fun i j row a h=>by simp at h)
  rcases(show ey E (.ref b g off n full) v from hx) with⟨bm,_⟩ | ⟨fO,bm⟩
  ·omega
  ·rcases bm with⟨_,_,rfl,A,rfl⟩ | ⟨c,cap,hm,rfl,oi,pb,p7⟩
   ·have uh:l=q:=by omega
    exact⟨_,_,Nv uh,run A 0 (Nat.le_refl _),empty _ _ uh⟩
   ·rcases Nat.lt_or_ge l q with aN | Cn
    ·refine⟨_,_,YE aN,run _ cap oi,.inr ⟨fO,.inr ⟨c,cap - l,hm,?_,by omega,(fun h=>by cases h),by omega⟩⟩⟩
     obtain⟨blk',aj,ty,q1,bU,_⟩:=an.heap b c hm
     obtain rfl:blk=blk':=by rw[hb] at q1;exact Option.some.inj q1
     simp only[sliced,if_neg (show ¬cap=l by omega),Option.map_some,nl,bU,mb,Nat.add_mul]
    ·have uh:l=q:=by omega
     exact⟨_,_,Nv uh,run _ cap oi,empty _ _ uh⟩
 | _=>exact h.elim
def s3 (P:Program) (f:FuncId):Bool:=match P.funcs[f]? with
 | some fn=> !(fn.name== "runtime.NumGoroutine")&&fn.body.isSome
 | none=>false
def dg (P:Program) (f:FuncId) (args:List AV) (H:List Blk) (Q:AV→List Blk→Prop):Prop:=
 s3 P f=true∧ ∀(E:Env) (vs:List Value),(∀t,E.mL t=none)→SimH E H→az (V2 E) args vs→
  Calls P f vs.toArray E.w fun e w'=> ∃r v H' E',e= .returned v∧Q r H'∧E'.w=w'∧(∀t,E'.mL t=none)∧SimH E' H'∧V3 E' r v∧Step E E'
theorem dg.mono {P:Program} {f:FuncId} {args:List AV} {H:List Blk} {Q vL:AV→List Blk→Prop} (h:dg P f args H Q) (U: ∀r H',Q r H'→vL r H'):dg P f args H vL:=
 ⟨h.1,fun E vs a b c=>(h.2 E vs a b c).mono fun e w' ⟨r,v,H',E',h1,h2,ay⟩=>⟨r,v,H',E',h1,U _ _ h2,ay⟩⟩
def Ac:AV→Bool
 | .e4 _ _ | .agg _ | .tup _=>false
 | _=>true
def xh:AV→Bool
 | .fn _ caps=>caps.all Ac
 | a=>Ac a
def jR:AV→Bool
 | .agg cells=>cells.all xh
 | a=>xh a
def xi:AV→Bool
 | .tup l=>l.all jR
 | a=>jR a
theorem ey.bO {E:Env} {a:AV} {v:Value} (h:Ac a=true) (hv:ey E a v):ey E.bO a v:=by
 cases a<;>first | exact hv | cases h
theorem bQ.bO {E:Env} {a:AV} {v:Value} (h:xh a=true) (hv:bQ E a v):bQ E.bO a v:=by
 by_cases hf: ∃f caps,a= .fn f caps
 ·obtain⟨f,caps,rfl⟩:=hf
  obtain⟨vs,e,ab⟩:=hv
  exact⟨vs,e,ab.1,fun i x y hx aS=>(ab.2 i x y hx aS).bO (List.all_eq_true.1 (show caps.all Ac=true from h) x (List.mem_of_getElem? hx))⟩
 ·have au:xh a=Ac a:=by cases a<;>first | rfl | exact absurd ⟨_,_,rfl⟩ hf
  rw[pQ fun f c e=>hf ⟨f,c,e⟩] at hv ⊢
  exact hv.bO (au▸h)
theorem V2.bO {E:Env} {a:AV} {v:Value} (h:jR a=true) (hv:V2 E a v):V2 E.bO a v:=by
 by_cases hf: ∃l,a= .agg l
 ·obtain⟨l,rfl⟩:=hf
  obtain⟨vs,e,ab⟩:=hv
  exact⟨vs,e,ab.1,fun i x y hx aS=>(ab.2 i x y hx aS).bO (List.all_eq_true.1 (show l.all xh=true from h) x (List.mem_of_getElem? hx))⟩
 ·have au:jR a=xh a:=by cases a<;>first | rfl | exact absurd ⟨_,rfl⟩ hf
  rw[n6 fun l e=>hf ⟨l,e⟩] at hv ⊢
  exact hv.bO (au▸h)
theorem V3.bO {E:Env} {a:AV} {v:Value} (h:xi a=true) (hv:V3 E a v):V3 E.bO a v:=by
 by_cases hf: ∃l,a= .tup l
 ·obtain⟨l,rfl⟩:=hf
  obtain⟨vs,e,ab⟩:=hv
  exact⟨vs,e,ab.1,fun i x y hx aS=>(ab.2 i x y hx aS).bO (List.all_eq_true.1 (show l.all jR=true from h) x (List.mem_of_getElem? hx))⟩
 ·have au:xi a=jR a:=by cases a<;>first | rfl | exact absurd ⟨_,rfl⟩ hf
  rw[n7 fun l e=>hf ⟨l,e⟩] at hv ⊢
  exact hv.bO (au▸h)
theorem SimH.bO {E:Env} {H:List Blk} (h:SimH E H):SimH E.bO H:=
 {h with
  iZ:=fun t hr c hm=>by cases hm
  gl:=fun b t c _ hm=>by cases hm
  hR:=fun c _ ⟨t,hm⟩=>by cases hm
  gb:=fun c ⟨t,hm⟩=>by cases hm}
theorem Good.toStep [cl] {b7 E:Env} (h:Good b7 E):Step b7 E.bO:=
 ⟨⟨h.le.fp,h.le.e6,h.le.tr,h.le.wf,h.le.a6,h.le.m,fun t c hm=>by rw[h.bO t] at hm;cases hm⟩,h.os,h.tape,h.output,h.size,fun c hc h1 _=>h.cM c hc h1,h.iB,(fun c ⟨t,hm⟩=>by cases hm),h.fp,h.e6⟩
def rU (P:Program) (al:St):List ResultVar→(List AV→Prop)→Prop
 | [],K=>K []
 | .tmp t::rs,K=>rU P al rs fun l=>K (al.T.getD t .undef::l)
 | .cell a t::rs,K=>oo P t (al.T.getD a .undef) al.L al.H fun x=>rU P al rs fun l=>K (x::l)
def qG:List AV→AV
 | [x]=>x
 | l=> .tup l
def s_ (P:Program) (fn:Func) (al:St) (Q:AV→List Blk→Prop):Prop:=rU P al fn.results.toList fun l=>l.all jR=true∧Q (qG l) al.H
theorem Vu {E:Env} {P:Program} {t:TypeId} {x:AV} {L:List (Nat×List AV)} {H:List Blk} {K:AV→Prop} {v:Value} (an:SimH E H) (bB:SimL E L) (hx:V3 E x v) (h:oo P t x L H K):
  ∃a d_,K a∧(do loadVar t (←asAddr v):Sem Value).run P E.w= .ok d_ E.w∧V2 E a d_:=by
 obtain⟨a,d_,hK,ai,hv⟩:=QJ (Sub.refl L H) an bB hx h
 refine⟨a,d_,hK,?_,hv⟩
 have: ∃k4,v= .pointer (some k4):=by
  cases x with
  | e4 s c=>obtain⟨bl,_,rfl⟩:=hx.zY;exact⟨_,rfl⟩
  | ptr b g r c=>
   rcases(show ey E (.ptr b g r c) v from hx) with⟨_,bl,o,rfl⟩ | ⟨_,bl,_,rfl⟩<;>exact⟨_,rfl⟩
  | c3 cells c=>
   have h4:aL E.w E.PA E.PF (.c3 cells c) v:=hx
   cases h4;exact⟨_,rfl⟩
  | _=>exact h.elim
 obtain⟨k4,rfl⟩:=this
 simpa[Instr.loadAt,Instr.sureAddr,asAddr] using ai
theorem Jv {P:Program} {al:St} {E:Env} {tmps:Array Value} (hs:tD E al tmps) {f:ResultVar→Sem Value} (f1: ∀t,f (.tmp t)=pure (tmps.getD t undef))
  (f2: ∀a t,f (.cell a t)=do loadVar t (←asAddr (tmps.getD a undef))): ∀(rs:List ResultVar) (K:List AV→Prop),rU P al rs K→
  ∃l vs,K l∧(rs.mapM f).run P E.w= .ok vs E.w∧az (V3 E) l vs
 | [],K,h=>⟨[],[],h,rfl,az.nil⟩
 | .tmp t::rs,K,h=>by
  obtain⟨l,vs,hK,ai,ab⟩:=Jv hs f1 f2 rs _ h
  exact⟨_,_,hK,by simp only[List.mapM_cons,f1,Sem.run_bind,Sem.run_pure,Result.andThen_ok,ai],az.cons (hs.hT t) ab⟩
 | .cell a t::rs,K,h=>by
  obtain⟨x,d_,h2,G_,hv⟩:=Vu hs.h hs.l (hs.hT a) h
  obtain⟨l,vs,hK,ai,ab⟩:=Jv hs f1 f2 rs _ h2
  refine⟨_,_,hK,?_,az.cons (pR hv) ab⟩
  simp only[List.mapM_cons,f2]
  rw[Sem.run_bind,G_]
  simp only[Result.andThen_ok,Sem.run_bind,ai,Sem.run_pure]
theorem afm (fn:Func) (tmps:Array Value): ∃f:ResultVar→Sem Value,results fn tmps=(fn.results.mapM f>>=fun vs=>pure (if h:vs.size=1 then vs[0] else .tuple vs))∧(∀t,f (.tmp t)=pure (tmps.getD t undef))∧
  ∀b t,f (.cell b t)=(asAddr (tmps.getD b undef)>>=fun a=>loadVar t a):=⟨_,rfl,fun _=>rfl,fun _ _=>rfl⟩
def tC (P:Program) (fn:Func) (Q:AV→List Blk→Prop) (ex:Exit) (al:St):Prop:=match ex with
 | .normal | .ret=>s_ P fn al Q
 | _=>False
def CY (fn:Func) (args:List AV) (H:List Blk):St:=⟨args++List.replicate (fn.ntmps - args.length) .undef,[],H⟩
theorem Vk {E:Env} {a:AV} {v:Value} (h:jR a=true) (hv:V3 E a v) (a_: ∀l,a≠ .tup l):V2 E.bO a v:=by
 rw[n7 a_] at hv;exact hv.bO h
theorem dg.I4 {P:Program} {f:FuncId} {fn:Func} {c:Code} {args:List AV} {H:List Blk} {Q:AV→List Blk→Prop} (hf:P.funcs[f]?=some fn) (hb:fn.body=some c) (ad:(fn.name== "runtime.NumGoroutine")=false)
  (h: ∀ie:cl,ie.n=H.length→WpS P c (tC P fn Q) (CY fn args H)):dg P f args H Q:=by
 refine⟨by simp[s3,hf,hb,ad],?_⟩
 intro E vs ad an ab
 letI:cl:=⟨H.length⟩
 refine calls_of_wp hf hb (wp_mono (h ⟨H.length⟩ rfl E E {tmps:=vs.toArray++Array.replicate (fn.ntmps - vs.toArray.size) undef,defers:=[]} (Good.refl an.fresh ad) ⟨an,(fun t c hm=>by rw[ad t] at hm;cases hm),fun t=> ?_,?_⟩ rfl) ?_)
 ·show V3 E ((args++List.replicate (fn.ntmps - args.length) AV.undef).getD t AV.undef) _
  rcases Nat.lt_or_ge t args.length with aN | fO
  ·have h1:args[t]?=some args[t]:=List.getElem?_eq_getElem aN
   obtain⟨v,hv,ai⟩:=ab.get h1
   have G4:t<vs.length:=ab.1▸aN
   have ax:(args++List.replicate (fn.ntmps - args.length) AV.undef).getD t .undef=args[t]:=by
    rw[List.getD_eq_getElem?_getD,List.getElem?_append_left aN,h1];rfl
   have e2:(vs.toArray++Array.replicate (fn.ntmps - vs.toArray.size) undef).getD t undef=v:=by
    rw[Array.getD_eq_getD_getElem?,Array.getElem?_append_left (by simpa using G4)]
    simp[hv]
   rw[ax,e2];exact pR ai
  ·have ax:(args++List.replicate (fn.ntmps - args.length) AV.undef).getD t .undef= .undef:=by
    rw[List.getD_eq_getElem?_getD,List.getElem?_append_right fO,List.getElem?_replicate];split<;>rfl
   rw[ax];exact V3.undef _ _
 ·simp[CY,ab.1]
 ·rintro e a w ⟨hex,al,E',U,hw,aB,hs,aO⟩
  have fin:s_ P fn al Q→a.defers=[]∧ ∃v,(results fn a.tmps).run P w= .ok v w∧ ∃r Ux H' E',(Ending.returned v)= .returned Ux∧Q r H'∧E'.w=w∧(∀t,E'.mL t=none)∧SimH E' H'∧V3 E' r Ux∧Step E E':=by
   intro ZL
   refine⟨aO,?_⟩
   subst hw
   have hm: ∀f:ResultVar→Sem Value,(∀t,f (.tmp t)=pure (a.tmps.getD t undef))→(∀b t,f (.cell b t)=do loadVar t (←asAddr (a.tmps.getD b undef)))→ ∃l et,(l.all jR=true∧Q (qG l) al.H)∧(fn.results.mapM f).run P E'.w= .ok (List.toArray et) E'.w∧az (V3 E') l et:=by
    intro f f1 f2
    obtain⟨l,et,h1,ai,h2⟩:=Jv hs f1 f2 _ _ ZL
    exact⟨l,et,h1,by rw[Array.mapM_eq_mapM_toList,Sem.run_map,ai];rfl,h2⟩
   obtain⟨f,zl,zm,hf2⟩:=afm fn a.tmps
   obtain⟨l,et,⟨NZ,YG⟩,ai,wQ⟩:=hm f zm hf2
   refine⟨if h:et.toArray.size=1 then et.toArray[0] else .tuple et.toArray,?_,qG l,_,al.H,E'.bO,rfl,YG,rfl,fun _=>rfl,hs.h.bO,?_,aB.toStep⟩
   ·rw[zl,Sem.run_bind,ai];rfl
   ·cases l with
    | nil=>
     obtain rfl:=wQ.mj
     exact⟨[],rfl,az.nil⟩
    | cons x l=>
     obtain⟨u,ai4,rfl,hx,N5⟩:=wQ.cons_inv
     cases l with
     | nil=>
      obtain rfl:=N5.mj
      show V3 E'.bO x u
      have lE:jR x=true:=by simpa using NZ
      exact hx.bO (by cases x<;>first | exact lE | (cases lE))
     | cons y l=>
      obtain⟨z,ahY,rfl,aS,aiP⟩:=N5.cons_inv
      have b3: ¬(List.toArray (u::z::ahY)).size=1:=by simp
      rw[dif_neg b3]
      refine⟨_,rfl,?_⟩
      refine⟨wQ.1,fun i p q N4 ZJ=> ?_⟩
      have hv:=wQ.2 i p q N4 ZJ
      have lE:jR p=true:=List.all_eq_true.1 NZ p (List.mem_of_getElem? N4)
      have a_: ∀l,p≠ .tup l:=by
       intro l e;subst e;cases lE
      exact Vk lE hv a_
  cases e with
  | normal=>exact fin U
  | ret=>exact fin U
  | exit id=>exact U.elim
  | _=>cases hex
inductive fA (L:List (Nat×List AV)) (H:List Blk):AV→AV→Prop where
 | undef (a:AV):fA L H a .undef
 | int (k:IntKind) (n:Int):fA L H (.int k n) (.int k n)
 | bool (b:Bool):fA L H (.bool b) (.bool b)
 | str (s:ByteArray):fA L H (.str s) (.str s)
 | fD:fA L H .fD .fD
 | fT:fA L H .fT .fT
 | aJ (rows:List (List AV)) (full fr c8:Bool) (hw:c8=true→full=true):fA L H (.aJ rows full fr) (.aJ rows c8 false)
 | c3 (cells:List AV) (c:Nat):fA L H (.c3 cells c) (.c3 cells c)
 | e4 {t c:Nat} {cells gu:List AV} (h:dT L t=some cells) (ao:cells.length=gu.length)
   (ai: ∀(j:Nat) (a b:AV),cells[j]?=some a→gu[j]?=some b→fA L H a b):fA L H (.e4 t c) (.c3 gu c)
 | ptr {b g r c:Nat} {blk:Blk} {row row':List AV} (hb:H[b]?=some blk) (aB:blk.a6=g) (eK:blk.rows[r]?=some row) (ao:row.length=row'.length)
   (ai: ∀(j:Nat) (a b:AV),row[j]?=some a→row'[j]?=some b→fA L H a b):fA L H (.ptr b g r c) (.c3 row' c)
 | ref {b g off n:Nat} {full c8:Bool} {blk:Blk} {jx:List (List AV)} (hw:c8=true→full=true) (hb:H[b]?=some blk) (aB:blk.a6=g) (ad:jx.length=n) (ij:n≤4611686018427387904) (ar:off+n≤blk.rows.length)
   (ao: ∀(i:Nat) (row row':List AV),blk.rows[off+i]?=some row→jx[i]?=some row'→row.length=row'.length)
   (ai: ∀(i j:Nat) (row row':List AV) (a c:AV),blk.rows[off+i]?=some row→jx[i]?=some row'→row[j]?=some a→row'[j]?=some c→fA L H a c):
   fA L H (.ref b g off n full) (.aJ jx c8 false)
 | fn {f:FuncId} {caps yX:List AV} (ao:caps.length=yX.length) (ai: ∀(j:Nat) (a b:AV),caps[j]?=some a→yX[j]?=some b→fA L H a b):fA L H (.fn f caps) (.fn f yX)
def ew (L:List (Nat×List AV)) (H:List Blk) (a b:AV):Prop:=
 (∃l eN,a= .agg l∧b= .agg eN∧az (fA L H) l eN)∨fA L H a b
def Env.frozen (E:Env):Env:={w:=E.w,PA:=fun c=>E.PA c∨E.fl c∨E.kc c,PF:=fun _=>False,m:=fun _=>none,a6:=fun _=>0,sz:=fun _=>0,cp:=fun _=>0,mL:=fun _=>none}
theorem M9 {E:Env} {H:List Blk} (h:SimH E H):SimH E.frozen [] where
 heap:=fun b c hb=>by cases hb
 eG:=fun b blk hb=>by simp at hb
 gO:=fun b hb=>by cases hb
 fresh:=fun b _=>⟨rfl,rfl⟩
 gD:=fun b bH c hb=>by cases hb
 iZ:=fun t hr c hb=>by cases hb
 gl:=fun b t c hb=>by cases hb
 hl:=fun c _ ⟨b,hb⟩=>by cases hb
 hR:=fun c _ ⟨b,hb⟩=>by cases hb
 dm:=fun c hc=>hc.elim
 fg:=fun c hc=>hc.elim
 du:=fun c hc=>hc.elim (h.du c) fun hc=>hc.elim (h.fm c) (h.gb c)
 fm:=fun c ⟨b,hb⟩=>by cases hb
 gb:=fun c ⟨b,hb⟩=>by cases hb
theorem ET {E:Env} {a:AV} {v:Value} (h:ey E a v):bQ E a v:=by
 by_cases hf: ∃f caps,a= .fn f caps
 ·obtain⟨f,caps,rfl⟩:=hf
  exact aL.v1 h
 ·rw[pQ fun f c e=>hf ⟨f,c,e⟩];exact h
theorem S0 {L jY:List (Nat×List AV)} {H eI:List Blk} {E:Env} (sub:Sub L H jY eI) (an:SimH E eI) (bB:SimL E jY) {a b:AV} (h:fA L H a b):
  ∀{v:Value},bQ E a v→aL E.w (fun c=>E.PA c∨E.fl c∨E.kc c) (fun _=>False) b v:=by
 induction h with
 | undef a=>intro v _;exact .undef v
 | int k n=>intro v hv;have hv:aL E.w E.PA E.PF (.int k n) v:=hv;cases hv;exact .int _ _
 | bool k=>intro v hv;have hv:aL E.w E.PA E.PF (.bool k) v:=hv;cases hv;exact .bool _
 | str k=>intro v hv;have hv:aL E.w E.PA E.PF (.str k) v:=hv;cases hv;exact .str _
 | fD=>intro v hv;have hv:aL E.w E.PA E.PF .fD v:=hv;cases hv;exact .fD
 | fT=>intro v hv;have hv:aL E.w E.PA E.PF .fT v:=hv;cases hv;exact .fT
 | aJ rows full fr c8 hw=>
  intro v hv
  have hv:aL E.w E.PA E.PF (.aJ rows full fr) v:=hv
  cases hv with
  | aJ eR eZ fB b3 dL hrel=>
   exact .aJ (fun c hc=>by
    have:=eR c hc
    simp only[Bool.false_eq_true,if_false]
    split at this
    ·exact .inl (an.dm c this)
    ·exact .inl this) eZ (fun h=>fB (hw h)) b3 dL hrel
 | c3 cells c=>
  intro v hv
  have hv:aL E.w E.PA E.PF (.c3 cells c) v:=hv
  cases hv with
  | c3 hc dL hrel=>exact .c3 (.inl hc) dL fun j a af=>(hrel j a af).mono (fun _ _=>rfl) (fun _ h=>h.elim) (fun c hc=> .inl hc) (fun _ h=>h)
 | @e4 t c cells gu aB ao ai bn=>
  intro v hv
  obtain⟨bl,hm,rfl⟩:=(show ∃bl,E.mL t=some bl∧v= .pointer (some ⟨bl,c,none⟩) from hv)
  obtain⟨wb,aj,ty,zo,hw,ab⟩:=bB t bl hm
  obtain rfl:cells=wb:=by have:=sub.l _ _ aB;rw[zo] at this;exact(Option.some.inj this).symm
  have key:=aL.c3 (w:=E.w) (PA:=fun c=>E.PA c∨E.fl c∨E.kc c) (PF:=fun _=>False) (cells:=gu) (col:=c) (c:=bl) (o:=0) (vs:=fun j=>(aj[j]?).getD undef)
   (.inr (.inr ⟨t,hm⟩))
   (fun j af=>by
    have aN:j<aj.size:=by have:=ab.1;simp at this;omega
    rw[Nat.zero_add]
    rw[cell_of hw (Array.getElem?_eq_getElem aN)]
    simp[Array.getElem?_eq_getElem aN])
   (fun j b af=>by
    have aN:j<cells.length:=by have:=(List.getElem?_eq_some_iff.1 af).1;omega
    obtain⟨u,hu,gy⟩:=ab.get (List.getElem?_eq_getElem aN)
    have:(aj[j]?).getD undef=u:=by rw[Array.getElem?_toList] at hu;rw[hu];rfl
    rw[this]
    exact bn j _ b (List.getElem?_eq_getElem aN) af gy.up)
  rw[Nat.zero_add] at key
  exact key
 | @ptr b g r c blk row row' hb aB eK ao ai bn=>
  intro v hv
  have hb:=sub.h b blk hb
  have jI:=an.eG b blk hb
  obtain⟨bl,hm,rfl⟩:=V3.Dz (E:=E) (v:=v) (show V3 E (.ptr b g r c) v from hv) (jI.trans aB)
  obtain⟨blk',aj,ty,q1,bU,hw,j8,hlen,fS⟩:=an.heap b bl hm
  obtain rfl:blk=blk':=by rw[hb] at q1;exact Option.some.inj q1
  exact aL.c3 (vs:=fun j=>(aj[r*E.sz b+j]?).getD undef) (.inr (.inl ⟨b,hm⟩))
   (fun j af=>by
    have aN:j<row.length:=by omega
    obtain⟨u,hu,_⟩:=fS.2 r j row _ eK (List.getElem?_eq_getElem aN)
    rw[cell_of hw hu,hu];rfl)
   (fun j b2 af=>by
    have aN:j<row.length:=by have:=(List.getElem?_eq_some_iff.1 af).1;omega
    obtain⟨u,hu,gy⟩:=fS.2 r j row _ eK (List.getElem?_eq_getElem aN)
    rw[hu]
    exact bn j _ b2 (List.getElem?_eq_getElem aN) af gy.up)
 | @ref b g off n full c8 blk jx Hm hb aB ad ij ar ao ai bn=>
  intro v hv
  have hb:=sub.h b blk hb
  have jI:=an.eG b blk hb
  rcases(show ey E (.ref b g off n full) v from hv) with⟨bm,_⟩ | ⟨fO,bm⟩
  ·omega
  ·rcases bm with⟨_,_,lD,A,rfl⟩ | ⟨c,cap,hm,rfl,oi,pb,p7⟩
   ·subst lD
    obtain rfl:jx=[]:=List.eq_nil_of_length_eq_zero ad
    exact aL.aJ (rows:=[]) (PB:=fun _=>False) (sz:=0) (vs:=fun _ _=>undef) (fun _ h=>h.elim) ⟨Nat.le_refl _,Nat.zero_le _⟩ (fun _=>rfl) (fun i row h=>by simp at h) (fun h=>by simp at h) (fun i j row a h=>by simp at h)
   ·obtain⟨blk',aj,ty,q1,bU,hw,j8,hlen,fS⟩:=an.heap b c hm
    obtain rfl:blk=blk':=by rw[hb] at q1;exact Option.some.inj q1
    subst ad
    have eK: ∀i,i<jx.length→ ∃row,blk.rows[off+i]?=some row:=fun i hi=>⟨_,List.getElem?_eq_getElem (by omega)⟩
    refine aL.aJ (PB:=fun c=>E.PA c∨E.fl c∨E.kc c) (sz:=E.sz b) (vs:=fun i j=>(aj[(off+i)*E.sz b+j]?).getD undef) (fun c hc=>by simpa using hc) ⟨oi,ij⟩ (fun h=>pb (Hm h))
     (fun i row' eH=> ?_) (fun kQ=>⟨c,off*E.sz b,rfl,.inr (.inl ⟨b,hm⟩),fun i j hi af=> ?_⟩) (fun i j row' a eH af=> ?_)
    ·obtain⟨row,ik⟩:=eK i (List.getElem?_eq_some_iff.1 eH).1
     rw[←ao i row row' ik eH];exact fS.1 _ row ik
    ·obtain⟨row,ik⟩:=eK i hi
     have aN:j<row.length:=by rw[fS.1 _ row ik];exact af
     obtain⟨u,hu,_⟩:=fS.2 (off+i) j row _ ik (List.getElem?_eq_getElem aN)
     rw[show off*E.sz b+(i*E.sz b+j)=(off+i)*E.sz b+j by rw[Nat.add_mul];omega,cell_of hw hu,hu];rfl
    ·obtain⟨row,ik⟩:=eK i (List.getElem?_eq_some_iff.1 eH).1
     have aN:j<row.length:=by rw[ao i row row' ik eH];exact(List.getElem?_eq_some_iff.1 af).1
     obtain⟨u,hu,gy⟩:=fS.2 (off+i) j row _ ik (List.getElem?_eq_getElem aN)
     rw[hu]
     exact bn i j row row' _ a ik eH (List.getElem?_eq_getElem aN) af gy.up
 | @fn f caps yX ao ai bn=>
  intro v hv
  obtain⟨vs,rfl,ab⟩:=(show ∃vs:List Value,v= .func (.func f) #[] vs.toArray∧az (ey E) caps vs from hv)
  exact .fn (ao▸ab.1) fun i b u hb hu=>by
   have aN:i<caps.length:=by have:=(List.getElem?_eq_some_iff.1 hb).1;omega
   exact bn i _ b (List.getElem?_eq_getElem aN) hb (ET (ab.2 i _ u (List.getElem?_eq_getElem aN) hu))
theorem S1 {L jY:List (Nat×List AV)} {H eI:List Blk} {E:Env} (sub:Sub L H jY eI) (an:SimH E eI) (bB:SimL E jY) {a b:AV} (h:ew L H a b) {v:Value} (hv:V2 E a v):V2 E.frozen b v:=by
 rcases h with⟨l,eN,rfl,rfl,ab⟩ | h
 ·obtain⟨vs,rfl,U⟩:=hv
  refine⟨vs,rfl,ab.1▸U.1,fun i x u hx hu=> ?_⟩
  have aN:i<l.length:=by have:=(List.getElem?_eq_some_iff.1 hx).1;have:=ab.1;omega
  have ao:=List.getElem?_eq_getElem aN
  exact aL.v1 (E:=E.frozen) (S0 sub an bB (ab.2 i _ x ao hx) (U.2 i _ u ao hu))
 ·by_cases hf: ∃l,a= .agg l
  ·obtain⟨l,rfl⟩:=hf
   cases h with
   | undef=>exact aL.undef v
  ·rw[n6 fun l e=>hf ⟨l,e⟩] at hv
   exact jD (aL.v1 (E:=E.frozen) (S0 sub an bB h hv))
inductive fi (H:List Blk):AV→AV→Prop where
 | int (k:IntKind) (n:Int):fi H (.int k n) (.int k n)
 | bool (b:Bool):fi H (.bool b) (.bool b)
 | str (s:ByteArray):fi H (.str s) (.str s)
 | fD:fi H .fD .fD
 | fT:fi H .fT .fT
 | aJ (rows:List (List AV)) (full c8:Bool) (hw:c8=true→full=true):fi H (.aJ rows full true) (.aJ rows c8 true)
 | IS (full fr c8:Bool) (hw:c8=true→full=true):fi H (.aJ [] full fr) (.aJ [] c8 true)
 | ref {b g off n:Nat} {full c8:Bool} {blk:Blk} {jx:List (List AV)} (hw:c8=true→full=true) (aj:Nat→Nat→AV) (hb:H[b]?=some blk) (aB:blk.a6=g) (ad:jx.length=n) (ij:n≤4611686018427387904) (ar:off+n≤blk.rows.length)
   (ao: ∀(i:Nat) (row row':List AV),blk.rows[off+i]?=some row→jx[i]?=some row'→row.length=row'.length)
   (ai: ∀(i j:Nat) (row:List AV) (a:AV),i<n→blk.rows[off+i]?=some row→row[j]?=some a→fi H a (aj i j))
   (hc: ∀(i j:Nat) (row':List AV) (c:AV),jx[i]?=some row'→row'[j]?=some c→c=h9 (aj i j)):
   fi H (.ref b g off n full) (.aJ jx c8 true)
def sg (H:List Blk) (a b:AV):Prop:=(∃l eN,a= .agg l∧b= .agg eN∧az (fi H) l eN)∨fi H a b
def j0 (H:List Blk) (a b:AV):Prop:=(∃l eN,a= .tup l∧b= .tup eN∧az (sg H) l eN)∨sg H a b
theorem agt {H:List Blk} {a b:AV} (h:fi H a b):iP b=true:=by cases h<;>rfl
theorem S3 {H:List Blk} {E:Env} (an:SimH E H) {a b:AV} (h:fi H a b):
  ∀{v:Value},bQ E a v→aL E.w (fun c=>E.PF c∨E.fl c) (fun c=>E.PF c∨E.fl c) b v:=by
 induction h with
 | int k n=>intro v hv;have hv:aL E.w E.PA E.PF (.int k n) v:=hv;cases hv;exact .int _ _
 | bool k=>intro v hv;have hv:aL E.w E.PA E.PF (.bool k) v:=hv;cases hv;exact .bool _
 | str k=>intro v hv;have hv:aL E.w E.PA E.PF (.str k) v:=hv;cases hv;exact .str _
 | fD=>intro v hv;have hv:aL E.w E.PA E.PF .fD v:=hv;cases hv;exact .fD
 | fT=>intro v hv;have hv:aL E.w E.PA E.PF .fT v:=hv;cases hv;exact .fT
 | aJ rows full c8 hw=>
  intro v hv
  have hv:aL E.w E.PA E.PF (.aJ rows full true) v:=hv
  cases hv with
  | aJ eR eZ fB b3 dL hrel=>exact .aJ (fun c hc=>by have:=eR c hc;simp at this ⊢;exact .inl this) eZ (fun h=>fB (hw h)) b3 dL hrel
 | IS full fr c8 hw=>
  intro v hv
  have hv:aL E.w E.PA E.PF (.aJ [] full fr) v:=hv
  cases hv with
  | aJ eR eZ fB b3 dL hrel=>exact aL.aJ (rows:=[]) (PB:=fun _=>False) (sz:=0) (vs:=fun _ _=>undef) (fun _ h=>h.elim) eZ (fun h=>fB (hw h)) (fun i row h=>by simp at h) (fun h=>by simp at h) (fun i j row a h=>by simp at h)
 | @ref b g off n full c8 blk jx Hm aj hb aB ad ij ar ao ai hc bn=>
  intro v hv
  have jI:=an.eG b blk hb
  rcases(show ey E (.ref b g off n full) v from hv) with⟨bm,_⟩ | ⟨fO,bm⟩
  ·omega
  ·rcases bm with⟨_,_,lD,A,rfl⟩ | ⟨c,cap,hm,rfl,oi,pb,p7⟩
   ·subst lD
    obtain rfl:jx=[]:=List.eq_nil_of_length_eq_zero ad
    exact aL.aJ (rows:=[]) (PB:=fun _=>False) (sz:=0) (vs:=fun _ _=>undef) (fun _ h=>h.elim) ⟨Nat.le_refl _,Nat.zero_le _⟩ (fun _=>rfl) (fun i row h=>by simp at h) (fun h=>by simp at h) (fun i j row a h=>by simp at h)
   ·obtain⟨blk',wa,ty,q1,bU,hw,j8,hlen,fS⟩:=an.heap b c hm
    obtain rfl:blk=blk':=by rw[hb] at q1;exact Option.some.inj q1
    subst ad
    have eK: ∀i,i<jx.length→ ∃row,blk.rows[off+i]?=some row:=fun i hi=>⟨_,List.getElem?_eq_getElem (by omega)⟩
    refine aL.aJ (PB:=fun c=>E.PF c∨E.fl c) (sz:=E.sz b) (vs:=fun i j=>(wa[(off+i)*E.sz b+j]?).getD undef) (fun c hc=>by simpa using hc) ⟨oi,ij⟩ (fun h=>pb (Hm h))
     (fun i row' eH=> ?_) (fun kQ=>⟨c,off*E.sz b,rfl,.inr ⟨b,hm⟩,fun i j hi af=> ?_⟩) (fun i j row' a eH af=> ?_)
    ·obtain⟨row,ik⟩:=eK i (List.getElem?_eq_some_iff.1 eH).1
     rw[←ao i row row' ik eH];exact fS.1 _ row ik
    ·obtain⟨row,ik⟩:=eK i hi
     have aN:j<row.length:=by rw[fS.1 _ row ik];exact af
     obtain⟨u,hu,_⟩:=fS.2 (off+i) j row _ ik (List.getElem?_eq_getElem aN)
     rw[show off*E.sz b+(i*E.sz b+j)=(off+i)*E.sz b+j by rw[Nat.add_mul];omega,cell_of hw hu,hu];rfl
    ·have hi:=(List.getElem?_eq_some_iff.1 eH).1
     obtain⟨row,ik⟩:=eK i hi
     have aN:j<row.length:=by rw[ao i row row' ik eH];exact(List.getElem?_eq_some_iff.1 af).1
     obtain⟨u,hu,gy⟩:=fS.2 (off+i) j row _ ik (List.getElem?_eq_getElem aN)
     have h1:=bn i j row _ hi ik (List.getElem?_eq_getElem aN) gy.up
     have h2:=agt (ai i j row _ hi ik (List.getElem?_eq_getElem aN))
     rw[hu,hc i j row' a eH af]
     exact Le h2 h1 (fun c hc=>hc) (fun c hc=>hc)
def aZ (P:Program) (f:FuncId) (args:List AV) (t:AV):Prop:=dg P f args [] fun r eI=>j0 eI r t
theorem Mb {P:Program} {f:FuncId} {args dB:List AV} {t:AV} {L jY:List (Nat×List AV)} {H eI:List Blk} {E:Env} {vs:List Value} (sub:Sub L H jY eI) (an:SimH E eI) (bB:SimL E jY)
  (ap:az (V2 E) args vs) (hs:az (ew L H) args dB) (h:aZ P f dB t):
  Calls P f vs.toArray E.w fun e w'=> ∃v E',e= .returned v∧E'.w=w'∧k3 E E'∧V3 E' t v:=by
 have tU:az (V2 E.frozen) dB vs:=⟨hs.1▸ap.1,fun i x u hx hu=>by
  have aN:i<args.length:=by have:=(List.getElem?_eq_some_iff.1 hx).1;have:=hs.1;omega
  have ao:=List.getElem?_eq_getElem aN
  exact S1 sub an bB (hs.2 i _ x ao hx) (ap.2 i _ u ao hu)⟩
 refine(h.2 E.frozen vs (fun _=>rfl) (M9 an) tU).mono ?_
 rintro e w' ⟨r,v,H',E1,rfl,ai,rfl,ad,ez,hv,aQ⟩
 let N:Nat→Prop:=fun c=>E1.PF c∨E1.fl c
 have iV: ∀c,N c→E.w.heap.size≤c∧c<E1.w.heap.size:=by
  rintro c (hc | hc)
  ·exact⟨(aQ.e6 c hc).elim (fun h=>h.elim) id,ez.du c (ez.dm c hc)⟩
  ·exact⟨(aQ.oj c hc).elim (fun⟨b,hb⟩=>by cases hb) id,ez.fm c hc⟩
 have me: ∀c,c<E.w.heap.size→E1.w.heap[c]?=E.w.heap[c]?:=fun c hc=>aQ.cM c hc (fun⟨b,hb⟩=>by cases hb) (fun⟨b,hb⟩=>by cases hb)
 let E':Env:={E with w:=E1.w,PA:=fun c=>E.PA c∨N c,PF:=fun c=>E.PF c∨N c}
 have U:k3 E E':=
  {step:=⟨⟨fun c hc=> .inl hc,fun c hc=> .inl hc,fun c hc=>me c (an.du c hc),fun c hc=>me c (an.du c (an.dm c hc)),fun _=>Nat.le_refl _,fun _ _ h _=>⟨h,rfl,rfl⟩,fun _ _ h=>h⟩,
    aQ.os,aQ.tape,aQ.output,aQ.size,fun c hc _ _=>me c hc,fun _ _ h=> .inl h,fun _ h=> .inl h,fun c hc=>hc.elim .inl (fun h=> .inr (iV c h).1),fun c hc=>hc.elim .inl (fun h=> .inr (iV c h).1)⟩
   m:=rfl,mL:=rfl,a6:=rfl,sz:=rfl,cp:=rfl
   cM:=me
   fp:=fun c hc=>hc.elim .inl (fun h=> .inr (iV c h))
   dm:=fun c hc=>hc.elim (fun h=> .inl (an.dm c h)) .inr
   fg:=fun c hc=>hc.elim (fun h=>(an.fg c h).same (me c (an.du c (an.dm c h)))) (fun h=>by
    rcases h with h | ⟨b,hb⟩
    ·exact ez.fg c h
    ·obtain⟨_,aj,ty,_,_,q,_⟩:=ez.heap b c hb
     exact⟨aj,ty,q⟩)}
 have up: ∀{b:AV} {u:Value},aL E1.w N N b u→bQ E' b u:=fun h=>aL.v1 (E:=E') (h.mono (fun _ _=>rfl) (fun _ _=>rfl) (fun c hc=> .inr hc) (fun c hc=> .inr hc))
 have cN: ∀{a b:AV} {u:Value},fi H' a b→bQ E1 a u→bQ E' b u:=fun ap hu=>up (S3 ez ap hu)
 have c5: ∀{a b:AV} {u:Value},sg H' a b→V2 E1 a u→V2 E' b u:=by
  rintro a b u (⟨l,eN,rfl,rfl,ab⟩ | h) hu
  ·obtain⟨et,rfl,U⟩:=hu
   refine⟨et,rfl,ab.1▸U.1,fun i x y hx aS=> ?_⟩
   have aN:i<l.length:=by have:=(List.getElem?_eq_some_iff.1 hx).1;have:=ab.1;omega
   have ao:=List.getElem?_eq_getElem aN
   exact cN (ab.2 i _ x ao hx) (U.2 i _ y ao aS)
  ·have:bQ E1 a u:=by cases h<;>exact hu
   exact jD (cN h this)
 have fs: ∀{a b:AV} {u:Value},j0 H' a b→V3 E1 a u→V3 E' b u:=by
  rintro a b u (⟨l,eN,rfl,rfl,ab⟩ | h) hu
  ·obtain⟨et,rfl,U⟩:=hu
   refine⟨et,rfl,ab.1▸U.1,fun i x y hx aS=> ?_⟩
   have aN:i<l.length:=by have:=(List.getElem?_eq_some_iff.1 hx).1;have:=ab.1;omega
   have ao:=List.getElem?_eq_getElem aN
   exact c5 (ab.2 i _ x ao hx) (U.2 i _ y ao aS)
  ·have:V2 E1 a u:=by
    rcases h with⟨l,eN,rfl,rfl,ab⟩ | h
    ·exact hu
    ·cases h<;>exact hu
   exact pR (c5 h this)
 exact⟨v,E',rfl,rfl,U,fs ai hv⟩
def Fc:AV→Bool
 | .agg _ | .tup _ | .fn _ _=>false
 | _=>true
def z8 (fn:Fn) (first:Array Operand) (caps:List AV) (K:AV→Prop):Prop:=match fn with
 | .func f=>if first.isEmpty=true∧caps.all Fc=true then K (.fn f caps) else False
 | _=>False
def en:AV→Bool
 | .tup _=>false
 | _=>true
def k7 (x:AV) (K:FuncId→List AV→Prop):Prop:=match x with
 | .fn f caps=>K f caps
 | _=>False
def oa (P:Program) (f:FuncId) (args:List AV) (L:List (Nat×List AV)) (H:List Blk) (K:AV→Prop):Prop:=
 args.all en=true∧ ∃dB t,az (ew L H) args dB∧aZ P f dB t∧K t
def F4 (P:Program) (c:Call) (bo:Operand→AV) (L:List (Nat×List AV)) (H:List Blk) (K:AV→Prop):Prop:=match c.callee with
 | .builtin .len=>(match c.args.toList,c.argTypes.toList with
  | [x],[t]=>eo (js P t (bo x)) (rF (bo x) K)
  | _,_=>False)
 | .value f=>k7 (bo f) fun g caps=>oa P g (c.args.toList.map bo++caps) L H K
 | _=>False
def so (P:Program) (o:Oper) (bo:Operand→AV) (L:List (Nat×List AV)) (H:List Blk) (K:AV→Prop):Prop:=match o.op with
 | .move x=>K (bo x)
 | .assign x=>K (bo x)
 | .pick c a b=>n_ (bo c) fun z=>yR z (K (bo a)) (K (bo b))
 | .build t ps=>eo (ps.toList.all fun p=>en (bo p.2)) (E_ P t (ps.toList.map fun p=>(p.1,bo p.2)) K)
 | .buildSlice t n ps=>eo (ps.toList.all fun p=>en (bo p.2)) (v8 P t n (ps.toList.map fun p=>(p.1,bo p.2)) K)
 | .load t a=>oo P t (bo a) L H K
 | .nilCheck x=>I2 (bo x) K
 | .binOp op t x y _=>si P op t (bo x) (bo y) (qk y) K
 | .unOp op _ x=>Et op (bo x) K
 | .convert s d x=>FJ P s d (bo x) K
 | .makeFunc fn first caps=>z8 fn first (caps.toList.map bo) K
 | .fieldAddr t x f=>F_ P t (bo x) f K
 | .indexAddr t x i=>wY P t (bo x) (bo i) H K
 | .index t x i=>Hw P t (bo x) (bo i) K
 | .slice t x lo hi mx=>(match mx with
  | none=>vj P t (bo x) (lo.map bo) (hi.map bo) H K
  | some _=>False)
 | .extract x i=>F6 (bo x) i K
 | .call c=>F4 P c bo L H K
 | _=>False
theorem Lg {P:Program} {o:Oper} {a:Act} {next:Act→World→Prop} {Q:Exit→Act→World→Prop} {s:Sem Value} {w w':World} {u:Value} (h:s.run P w= .ok u w') (k:next (a.put o.dst u) w'):
  o.upon P a next Q ((do pure (Next.value (←s)):Sem Next).run P w):=by
 rw[Sem.run_bind,h];exact k
theorem parts_eq (ps:Array (Nat×Operand)) (a:Act):(ps.toList.map fun p=>(p.1,a.eval p.2)).toArray=ps.map fun(i,x)=>(i,a.eval x):=by
 apply Array.ext'
 rw[Array.toList_map]
theorem I8 {E:Env} {a:Act} {T:List AV} (bZ: ∀t,V3 E (T.getD t .undef) (a.tmps.getD t undef)) (ps:List (Nat×Operand)) (ad: ∀p∈ps,∀l,bY T p.2≠ .tup l):
  az (fun(x:Nat×AV) (y:Nat×Value)=>x.1=y.1∧V2 E x.2 y.2) (ps.map fun p=>(p.1,bY T p.2)) (ps.map fun p=>(p.1,a.eval p.2)):=by
 refine⟨by simp,fun i x y hx aS=> ?_⟩
 rw[List.getElem?_map] at hx aS
 cases ab:ps[i]? with
 | none=>simp[ab] at hx
 | some p=>
  simp[ab] at hx aS
  subst hx;subst aS
  refine⟨rfl,?_⟩
  have:=opv_rel bZ p.2
  rwa [n7 (ad p (List.mem_of_getElem? ab))] at this
theorem LR {E:Env} {a:Act} {T:List AV} (bZ: ∀t,V3 E (T.getD t .undef) (a.tmps.getD t undef)) (xs:List Operand) (ad: ∀x∈xs,∀l,bY T x≠ .tup l):
  az (V2 E) (xs.map (bY T)) (xs.map a.eval):=by
 refine⟨by simp,fun i x y hx aS=> ?_⟩
 rw[List.getElem?_map] at hx aS
 cases ab:xs[i]? with
 | none=>simp[ab] at hx
 | some p=>
  simp[ab] at hx aS
  subst hx;subst aS
  have:=opv_rel bZ p
  rwa [n7 (ad p (List.mem_of_getElem? ab))] at this
theorem xj {a:AV} (h:en a=true): ∀l,a≠ .tup l:=by
 intro l e;subst e;cases h
theorem Rt {E:Env} {a:Act} {T:List AV} (bZ: ∀t,V3 E (T.getD t .undef) (a.tmps.getD t undef)) (x:Option Operand):
  Bl E (x.map (bY T)) (x.map a.eval):=by
 cases x with
 | none=>trivial
 | some x=>exact opv_rel bZ x
theorem Mc {E:Env} {a:Act} {T:List AV} (bZ: ∀t,V3 E (T.getD t .undef) (a.tmps.getD t undef)) {f:Operand} {g:FuncId} {caps:List AV} (h:bY T f= .fn g caps):
  ∃vs:List Value,a.eval f= .func (.func g) #[] vs.toArray∧az (V2 E) caps vs:=by
 have:=opv_rel bZ f
 rw[h] at this
 obtain⟨vs,e,ab⟩:=(show ∃vs:List Value,a.eval f= .func (.func g) #[] vs.toArray∧az (ey E) caps vs from this)
 exact⟨vs,e,ab.mono fun _ _ k=>jD (ET k)⟩
theorem afv {P:Program} {f:FuncId} {w:World} {args:Array Value} (h:s3 P f=true):(callFunc f args).run P w= .ok (.enter f args) w:=by
 unfold s3 at h
 cases hf:P.funcs[f]? with
 | none=>simp[hf] at h
 | some fn=>
  simp[hf] at h
  obtain⟨h1,h2⟩:=h
  simp[callFunc,hf,h1]
  cases hb:fn.body with
  | none=>simp[hb] at h2
  | some c=>intro bm;cases bm
theorem Sr {P:Program} {c:Call} {a:Act} {ty:TypeId} {f:Operand} {g:FuncId} {vs:List Value} {w:World} (hc:c.callee= .value f) (hf:a.eval f= .func (.func g) #[] vs.toArray) (h:s3 P g=true):
  (do let d ←resolve a.eval c ty;invoke d.target d.args:Sem Next).run P w= .ok (.enter g (c.args.toList.map a.eval++vs).toArray) w:=by
 unfold resolve
 rw[hc]
 simp only[hf,Deferred.ofValue,Sem.run_bind,Sem.run_pure,Result.andThen_ok,invoke]
 rw[afv h]
 simp
def yK (E:Env) (o:Oper) (a:Act) (K:AV→Prop):Act→World→Prop:=fun gi w'=> ∃v d_ E',K v∧E'.w=w'∧k3 E E'∧V3 E' v d_∧gi=a.put o.dst d_
set_option maxHeartbeats 4000000 in
theorem MP {P:Program} {o:Oper} {a:Act} {T:List AV} {E:Env} {L jY:List (Nat×List AV)} {H eI:List Blk} {K:AV→Prop} {Q:Exit→Act→World→Prop}
  (bZ: ∀t,V3 E (T.getD t .undef) (a.tmps.getD t undef)) (sub:Sub L H jY eI) (an:SimH E eI) (bB:SimL E jY) (h:so P o (bY T) L H K):o.wp P a E.w (yK E o a K) Q:=by
 have fin: ∀{s:Sem Value},(execOp a.eval o=(do pure (Next.value (←s))))→(∃r u E',K r∧s.run P E.w= .ok u E'.w∧k3 E E'∧V3 E' r u)→o.wp P a E.w (yK E o a K) Q:=by
  rintro s hs ⟨r,u,E',hK,ai,U,hv⟩
  unfold Oper.wp
  rw[hs]
  exact Lg ai ⟨r,u,E',hK,rfl,U,hv,rfl⟩
 have o1: ∀{s:Sem Value},(execOp a.eval o=(do pure (Next.value (←s))))→(∃r u,K r∧s.run P E.w= .ok u E.w∧V3 E r u)→o.wp P a E.w (yK E o a K) Q:=by
  rintro s hs ⟨r,u,hK,ai,hv⟩
  exact fin hs ⟨r,u,E,hK,ai,k3.refl an,hv⟩
 have z_: ∀x,execOp a.eval o=pure (.value (a.eval x))→K (bY T x)→o.wp P a E.w (yK E o a K) Q:=by
  intro x hs hK
  unfold Oper.wp
  rw[hs]
  exact⟨_,_,E,hK,rfl,k3.refl an,opv_rel bZ x,rfl⟩
 obtain⟨dst,op,ty,pos,after,guard⟩:=o
 cases op with
 | move x=>exact z_ x rfl h
 | assign x=>exact z_ x rfl h
 | pick c x y=>
  obtain⟨b,hb,h1,h2⟩:=Bv (show n_ (bY T c) fun z=>yR z (K (bY T x)) (K (bY T y)) from h)
  have hv:=opv_rel bZ c
  rw[hb] at hv
  have he:a.eval c= .bool b:=V3.nn hv
  cases b with
  | true=>exact z_ x (by simp[execOp,he,asBool]) (h1 rfl)
  | false=>exact z_ y (by simp[execOp,he,asBool]) (h2 rfl)
 | build t ps=>
  obtain⟨ad,h⟩:=pu h
  have:=VS (P:=P) (I8 bZ ps.toList fun p ab=>xj (List.all_eq_true.1 ad p ab)) h
  exact o1 (s:=Instr.build t (ps.toList.map fun p=>(p.1,a.eval p.2)).toArray) (by rw[parts_eq];rfl) this
 | buildSlice t n ps=>
  obtain⟨ad,h⟩:=pu h
  have:=L6 (P:=P) an (I8 bZ ps.toList fun p ab=>xj (List.all_eq_true.1 ad p ab)) h
  exact fin (s:=Instr.buildSlice t n (ps.toList.map fun p=>(p.1,a.eval p.2)).toArray) (by rw[parts_eq];rfl) this
 | load t x=>
  obtain⟨r,u,hK,ai,hv⟩:=QJ sub an bB (opv_rel bZ x) h
  exact o1 (s:=Instr.loadAt t (a.eval x)) rfl ⟨r,u,hK,ai,pR hv⟩
 | nilCheck x=>
  have hx:=opv_rel bZ x
  have h:I2 (bY T x) K:=h
  have key: ∀k4,a.eval x= .pointer (some k4)→K (bY T x)→Oper.wp P ⟨dst,.nilCheck x,ty,pos,after,guard⟩ a E.w (yK E ⟨dst,.nilCheck x,ty,pos,after,guard⟩ a K) Q:=by
   intro k4 he hK
   exact z_ x (by simp[execOp,he]) hK
  cases hh:bY T x with
  | e4 s c=>
   rw[hh] at hx h
   obtain⟨bl,_,e⟩:=hx.zY
   exact key _ e (by rw[hh];exact h)
  | ptr b g r c=>
   rw[hh] at hx h
   rcases(show ey E (.ptr b g r c) _ from hx) with⟨_,bl,o,e⟩ | ⟨_,bl,_,e⟩<;>exact key _ e (by rw[hh];exact h)
  | c3 cells c=>
   rw[hh] at hx h
   have h4:aL E.w E.PA E.PF (.c3 cells c) (a.eval x):=hx
   generalize hv:a.eval x=v at h4
   cases h4;exact key _ hv (by rw[hh];exact h)
  | _=>rw[hh] at h;exact h.elim
 | binOp op t x y ty2=>
  have Hr:qk y=true→a.eval y= .slice none 0 0:=by
   intro bm
   unfold qk at bm
   split at bm
   ·rfl
   ·cases bm
  exact o1 (s:=do eqGuard op t x y (a.eval x) (a.eval y);binOp op t (a.eval x) (a.eval y)) rfl (VF (opv_rel bZ x) (opv_rel bZ y) Hr h)
 | unOp op t x=>exact o1 (s:=Op.unary op (a.eval x)) rfl (ahV (opv_rel bZ x) h)
 | convert s d x=>exact o1 (s:=Go.convert s d (a.eval x)) rfl (WL (opv_rel bZ x) h)
 | makeFunc fn first caps=>
  replace h:z8 fn first (caps.toList.map (bY T)) K:=h
  cases fn with
  | func f=>
   replace h:if first.isEmpty=true∧(caps.toList.map (bY T)).all Fc=true then K (.fn f (caps.toList.map (bY T))) else False:=h
   split at h
   ·rename_i hc
    obtain⟨h1,h2⟩:=hc
    have hf:first= #[]:=by simpa using h1
    subst hf
    refine o1 (s:=Instr.makeFunc (.func f) (Array.map a.eval #[]) (caps.map a.eval)) rfl ⟨_,.func (.func f) #[] (caps.map a.eval),h,by simp[Instr.makeFunc],(caps.toList.map a.eval),by rw[←Array.toList_map,Array.toArray_toList],by simp,fun i x y hx aS=> ?_⟩
    rw[List.getElem?_map] at hx aS
    cases ab:caps.toList[i]? with
    | none=>simp[ab] at hx
    | some p=>
     simp[ab] at hx aS
     subst hx;subst aS
     have hv:=opv_rel bZ p
     have fj:Fc (bY T p)=true:=List.all_eq_true.1 h2 _ (List.mem_map.2 ⟨p,List.mem_of_getElem? ab,rfl⟩)
     cases U:bY T p<;>rw[U] at hv fj<;>first | exact hv | cases fj
   ·exact h.elim
  | _=>exact h.elim
 | fieldAddr t x f=>exact o1 (s:=Instr.fieldAt t (a.eval x) f) rfl (Xg (opv_rel bZ x) h)
 | indexAddr t x i=>exact o1 (s:=Instr.indexAt t (a.eval x) (a.eval i)) rfl (aaa sub an (opv_rel bZ x) (opv_rel bZ i) h)
 | index t x i=>exact o1 (s:=Instr.index t (a.eval x) (a.eval i)) rfl (aak (opv_rel bZ x) (opv_rel bZ i) h)
 | slice t x lo hi mx=>
  cases mx with
  | none=>exact o1 (s:=Instr.sliceAt t (a.eval x) (lo.map a.eval) (hi.map a.eval) none) rfl (afV sub an (opv_rel bZ x) (Rt bZ lo) (Rt bZ hi) h)
  | some m=>exact h.elim
 | extract x i=>exact o1 (s:=Instr.extract (a.eval x) i) rfl (Xb (opv_rel bZ x) h)
 | call c=>
  have h:F4 P c (bY T) L H K:=h
  obtain⟨callee,args,argTypes⟩:=c
  cases callee with
  | builtin b=>
   cases b with
   | len=>
    have h:(match args.toList,argTypes.toList with
     | [x],[t]=>eo (js P t (bY T x)) (rF (bY T x) K)
     | _,_=>False):=h
    split at h
    ·rename_i x t h1 h2
     obtain⟨Zt,Zu⟩:=pu h
     obtain rfl:args= #[x]:=by rw[←Array.toArray_toList (xs:=args),h1]
     obtain rfl:argTypes= #[t]:=by rw[←Array.toArray_toList (xs:=argTypes),h2]
     obtain⟨r,u,hK,ai,hv⟩:=adg (P:=P) (ty:=ty) (opv_rel bZ x) Zt Zu
     unfold Oper.wp
     have:(execOp a.eval ⟨dst,.call ⟨.builtin .len,#[x],#[t]⟩,ty,pos,after,guard⟩).run P E.w= .ok (.value u) E.w:=by
      simp only[execOp,resolve,Sem.run_bind,Sem.run_pure,Result.andThen_ok,invoke,builtin]
      have e:Array.map a.eval #[x]= #[a.eval x]:=by simp
      rw[e,ai];rfl
     rw[this]
     exact⟨r,u,E,hK,rfl,k3.refl an,hv,rfl⟩
    ·exact h.elim
   | _=>exact h.elim
  | value f=>
   have h:k7 (bY T f) fun g caps=>oa P g (args.toList.map (bY T)++caps) L H K:=h
   cases hf:bY T f with
   | fn g caps=>
    rw[hf] at h
    obtain⟨ad,dB,t,hs,pc,hK⟩:=(show oa P g (args.toList.map (bY T)++caps) L H K from h)
    obtain⟨vs,he,q7⟩:=Mc bZ hf
    unfold Oper.wp
    rw[show execOp a.eval ⟨dst,.call ⟨.value f,args,argTypes⟩,ty,pos,after,guard⟩=(do let d ←resolve a.eval ⟨.value f,args,argTypes⟩ ty;invoke d.target d.args) from rfl]
    rw[Sr (P:=P) (ty:=ty) (w:=E.w) (c:=⟨.value f,args,argTypes⟩) rfl he pc.1]
    have GF:az (V2 E) (args.toList.map (bY T)++caps) (args.toList.map a.eval++vs):=
     az.append (LR bZ args.toList fun x hx=>xj (List.all_eq_true.1 ad _ (by simp;exact .inl ⟨x,by simpa using hx,rfl⟩))) q7
    refine(Mb sub an bB GF hs pc).mono ?_
    rintro e w' ⟨v,E',rfl,rfl,U,hv⟩
    exact⟨t,v,E',hK,rfl,U,hv,rfl⟩
   | _=>rw[hf] at h;exact h.elim
  | _=>exact h.elim
 | _=>exact h.elim
theorem WS (w:World) (o:Obj) (c:Nat) (h:c<w.heap.size):(w.drew.alloc o).heap[c]?=w.heap[c]?:=qM w.drew o c h
structure mI (w w':World) (o:Obj):Prop where
 os:w'.os=w.os
 tape:w'.tape=w.tape
 output:w'.output=w.output
 size:w'.heap.size=w.heap.size+1
 jv: ∀c,c<w.heap.size→w'.heap[c]?=w.heap[c]?
 new:w'.heap[w.heap.size]?=some o
theorem mI.alloc (w:World) (o:Obj):mI w (w.alloc o) o:=⟨rfl,rfl,rfl,by simp,fun c hc=>qM w o c hc,n8 w o⟩
theorem mI.WR (w:World) (o:Obj):mI w (w.drew.alloc o) o:=⟨rfl,rfl,rfl,by simp,fun c hc=>WS w o c hc,n8 w.drew o⟩
theorem SimH.ext {E:Env} {H H':List Blk} (h:SimH E H) (hs: ∀(b:Nat) (blk:Blk),H[b]?=some blk→H'[b]?=some blk) (ao:H.length≤H'.length) (aB: ∀(b:Nat) (blk:Blk),H.length≤b→H'[b]?=some blk→blk.a6=0):SimH E H':=
 {h with
  heap:=fun b c hb=>by
   obtain⟨blk,aj,ty,q1,q⟩:=h.heap b c hb
   exact⟨blk,aj,ty,hs b blk q1,q⟩
  eG:=fun b blk hb=>by
   rcases Nat.lt_or_ge b H.length with aN | fO
   ·have h1:=List.getElem?_eq_getElem aN
    have h2:=hs b _ h1
    rw[hb] at h2
    cases h2
    exact h.eG b _ h1
   ·rw[(h.fresh b fO).2,aB b blk fO hb]
  gO:=fun b hb=>by
   obtain⟨blk,q1,q⟩:=h.gO b hb
   exact⟨blk,hs b blk q1,q⟩
  fresh:=fun b hb=>h.fresh b (Nat.le_trans ao hb)}
theorem SimH.snoc {E:Env} {H:List Blk} (h:SimH E H) {blk:Blk} (aB:blk.a6=0):SimH E (H++[blk]):=
 h.ext (fun b x hb=>by rw[List.getElem?_append_left (List.getElem?_eq_some_iff.1 hb).1];exact hb) (by simp) (fun b x hb hx=>by
  rw[List.getElem?_append_right hb] at hx
  have:b - H.length=0:=by
   rcases Nat.eq_zero_or_pos (b - H.length) with q | q
   ·exact q
   ·rw[List.getElem?_eq_none (by simp;omega)] at hx;cases hx
  rw[this] at hx;cases hx;exact aB)
theorem SimL.cons {E:Env} {L:List (Nat×List AV)} (h:SimL E L) {t:Nat} {cells:List AV} (ad:E.mL t=none):SimL E ((t,cells)::L):=fun s c hm=>by
 have:s≠t:=fun e=>by subst e;rw[ad] at hm;cases hm
 simp only[dT,if_neg this]
 exact h s c hm
theorem Rb {E:Env} {H:List Blk} {L:List (Nat×List AV)} {w':World} {aj:Array Value} {ty:TypeId} {t:Nat} {cells:List AV} (an:SimH E H) (bB:SimL E L) (hw:mI E.w w' (.cells aj ty (0,0)))
  (a_:dT L t=some cells) (hm:E.mL t=none) (hc:az (bQ E.bO) cells aj.toList):
  ∃E',E'.w=w'∧Step E E'∧SimH E' H∧SimL E' L∧V3 E' (.e4 t 0) (.pointer (some ⟨E.w.heap.size,0,none⟩))∧E'.m=E.m∧(∀s,s≠t→E'.mL s=E.mL s):=by
 let E':Env:={E with w:=w',mL:=fun s=>if s=t then some E.w.heap.size else E.mL s}
 have aQ:Step E E':=
  {le:=⟨fun _ h=>h,fun _ h=>h,fun c hc=>hw.jv c (an.du c hc),fun c hc=>hw.jv c (an.du c (an.dm c hc)),fun _=>Nat.le_refl _,fun _ _ h _=>⟨h,rfl,rfl⟩,fun s c h=>by
    show(if s=t then _ else _)=_
    rw[if_neg (fun e=>by subst e;rw[hm] at h;cases h)];exact h⟩
   os:=hw.os,tape:=hw.tape,output:=hw.output
   size:=by show E.w.heap.size≤w'.heap.size;rw[hw.size];omega
   cM:=fun c hc _ _=>hw.jv c hc
   iB:=fun _ _ h=> .inl h
   iY:=fun c ⟨s,hs⟩=>by
    have hs:(if s=t then some E.w.heap.size else E.mL s)=some c:=hs
    split at hs
    ·cases hs;exact .inr (Nat.le_refl _)
    ·exact .inl ⟨s,hs⟩
   fp:=fun _ h=> .inl h
   e6:=fun _ h=> .inl h}
 have hml: ∀s c,E'.mL s=some c→(s=t∧c=E.w.heap.size)∨(s≠t∧E.mL s=some c):=by
  intro s c hs
  have hs:(if s=t then some E.w.heap.size else E.mL s)=some c:=hs
  split at hs
  ·rename_i e;cases hs;exact .inl ⟨e,rfl⟩
  ·rename_i e;exact .inr ⟨e,hs⟩
 have jK:=an.fm
 have jL:=an.gb
 refine⟨E',rfl,aQ,?_,?_,⟨E.w.heap.size,by show(if t=t then _ else _)=_;rw[if_pos rfl],rfl⟩,rfl,fun s hs=>if_neg hs⟩
 ·exact{
   heap:=fun b c hb=>by
    obtain⟨blk,bL,hF,q1,bU,q2,q3,q4,cP,cF⟩:=an.heap b c hb
    refine⟨blk,bL,hF,q1,bU,?_,q3,q4,cP,fun i j row a ai af=> ?_⟩
    ·show w'.heap[c]?=_;rw[hw.jv c (jK c ⟨b,hb⟩)];exact q2
    ·obtain⟨u,hu,eH⟩:=cF i j row a ai af
     exact⟨u,hu,eH.le aQ.le.bO⟩
   eG:=an.eG
   gO:=an.gO
   fresh:=an.fresh
   gD:=an.gD
   iZ:=fun s s' c h1 h2=>by
    rcases hml s c h1 with⟨d1,ax⟩ | ⟨_,dr⟩<;>rcases hml s' c h2 with⟨d2,e2⟩ | ⟨_,gE⟩
    ·rw[d1,d2]
    ·have:=jL c ⟨s',gE⟩;omega
    ·have:=jL c ⟨s,dr⟩;omega
    ·exact an.iZ s s' c dr gE
   gl:=fun b s c h1 h2=>by
    rcases hml s c h2 with⟨rfl,rfl⟩ | ⟨_,h2⟩
    ·have:=jK _ ⟨b,h1⟩;omega
    ·exact an.gl b s c h1 h2
   hl:=an.hl
   hR:=fun c hc ⟨s,hs⟩=>by
    rcases hml s c hs with⟨rfl,rfl⟩ | ⟨_,hs⟩
    ·have:=an.du _ hc;omega
    ·exact an.hR c hc ⟨s,hs⟩
   dm:=an.dm
   fg:=fun c hc=>(an.fg c hc).same (hw.jv c (an.du c (an.dm c hc)))
   du:=fun c hc=>Nat.lt_of_lt_of_le (an.du c hc) aQ.size
   fm:=fun c hc=>Nat.lt_of_lt_of_le (jK c hc) aQ.size
   gb:=fun c ⟨s,hs⟩=>by
    rcases hml s c hs with⟨rfl,rfl⟩ | ⟨_,hs⟩
    ·show _<w'.heap.size;rw[hw.size];omega
    ·exact Nat.lt_of_lt_of_le (jL c ⟨s,hs⟩) aQ.size}
 ·intro s c hs
  rcases hml s c hs with⟨rfl,rfl⟩ | ⟨_,hs⟩
  ·exact⟨cells,aj,ty,a_,hw.new,hc.mono fun _ _ k=>k.le aQ.le.bO⟩
  ·obtain⟨gu,bL,hF,q1,q2,q3⟩:=bB s c hs
   exact⟨gu,bL,hF,q1,by show w'.heap[c]?=_;rw[hw.jv c (jL c ⟨s,hs⟩)];exact q2,q3.mono fun _ _ k=>k.le aQ.le.bO⟩
theorem xg {E:Env} {H H':List Blk} {L:List (Nat×List AV)} {w':World} {aj:Array Value} {ty:TypeId} {b cap:Nat} {blk:Blk} (an:SimH E H) (bB:SimL E L) (hw:mI E.w w' (.cells aj ty (0,0)))
  (hb:H'[b]?=some blk) (ar: ∀bH,bH≠b→H'[bH]?=H[bH]?) (hlen:b<H.length→H'.length=H.length) (Cx:H.length≤H'.length)
  (jI:(E.m b=none∧blk.a6=E.a6 b)∨E.a6 b<blk.a6) (j8:aj.size=cap*blk.sz) (eZ:blk.rows.length≤cap)
  (ai:vN E blk.sz blk.rows aj):
  ∃E',E'.w=w'∧Step E E'∧SimH E' H'∧SimL E' L∧E'.a6 b=blk.a6∧E'.m b=some (some E.w.heap.size)∧E'.sz b=blk.sz∧E'.cp b=cap∧(∀bH,bH≠b→E'.m bH=E.m bH)∧E'.mL=E.mL:=by
 let E':Env:={E with w:=w',m:=fun bH=>if bH=b then some (some E.w.heap.size) else E.m bH,a6:=fun bH=>if bH=b then blk.a6 else E.a6 bH,sz:=fun bH=>if bH=b then blk.sz else E.sz bH,cp:=fun bH=>if bH=b then cap else E.cp bH}
 have aQ:Step E E':=
  {le:=⟨fun _ h=>h,fun _ h=>h,fun c hc=>hw.jv c (an.du c hc),fun c hc=>hw.jv c (an.du c (an.dm c hc)),fun bH=>by
     show _≤(if bH=b then _ else _)
     split
     ·rename_i e;subst e;rcases jI with⟨_,e⟩ | e<;>omega
     ·exact Nat.le_refl _,fun bH x hx aB=>by
     have pd:(if bH=b then blk.a6 else E.a6 bH)=E.a6 bH:=aB
     have bN:bH≠b:=fun e=>by
      subst e
      rw[if_pos rfl] at pd
      rcases jI with⟨ad,_⟩ | e
      ·rw[ad] at hx;cases hx
      ·omega
     refine⟨?_,?_,?_⟩
     ·show(if bH=b then _ else _)=_;rw[if_neg bN];exact hx
     ·show(if bH=b then _ else _)=_;rw[if_neg bN]
     ·show(if bH=b then _ else _)=_;rw[if_neg bN],fun _ _ h=>h⟩
   os:=hw.os,tape:=hw.tape,output:=hw.output
   size:=by show E.w.heap.size≤w'.heap.size;rw[hw.size];omega
   cM:=fun c hc _ _=>hw.jv c hc
   iB:=fun s c hs=>by
    have hs:(if s=b then some (some E.w.heap.size) else E.m s)=some (some c):=hs
    split at hs
    ·cases hs;exact .inr (Nat.le_refl _)
    ·exact .inl hs
   iY:=fun _ h=> .inl h
   fp:=fun _ h=> .inl h
   e6:=fun _ h=> .inl h}
 have hm: ∀s c,E'.m s=some (some c)→(s=b∧c=E.w.heap.size)∨(s≠b∧E.m s=some (some c)):=by
  intro s c hs
  have hs:(if s=b then some (some E.w.heap.size) else E.m s)=some (some c):=hs
  split at hs
  ·rename_i e;cases hs;exact .inl ⟨e,rfl⟩
  ·rename_i e;exact .inr ⟨e,hs⟩
 have jK:=an.fm
 have jL:=an.gb
 have b3: ∀s,s≠b→E'.sz s=E.sz s:=fun s hs=>if_neg hs
 have p7: ∀s,s≠b→E'.cp s=E.cp s:=fun s hs=>if_neg hs
 have CH:E'.sz b=blk.sz:=if_pos rfl
 have GP:E'.cp b=cap:=if_pos rfl
 have NN:E'.a6 b=blk.a6:=if_pos rfl
 refine⟨E',rfl,aQ,?_,?_,NN,if_pos rfl,CH,GP,fun bH dV=>if_neg dV,rfl⟩
 ·exact{
   heap:=fun s c hs=>by
    rcases hm s c hs with⟨rfl,rfl⟩ | ⟨bN,hs⟩
    ·refine⟨blk,aj,ty,hb,CH,hw.new,by rw[GP,CH];exact j8,by rw[GP];exact eZ,?_⟩
     rw[CH]
     exact⟨ai.1,fun i j row a h1 h2=>by obtain⟨u,hu,eH⟩:=ai.2 i j row a h1 h2;exact⟨u,hu,eH.le aQ.le.bO⟩⟩
    ·obtain⟨blk',bL,hF,q1,bU,q2,q3,q4,cP,cF⟩:=an.heap s c hs
     refine⟨blk',bL,hF,by rw[ar s bN];exact q1,by rw[b3 s bN];exact bU,?_,by rw[p7 s bN,b3 s bN];exact q3,by rw[p7 s bN];exact q4,by rw[b3 s bN];exact cP,fun i j row a ai af=> ?_⟩
     ·show w'.heap[c]?=_;rw[hw.jv c (jK c ⟨s,hs⟩)];exact q2
     ·obtain⟨u,hu,eH⟩:=cF i j row a ai af
      exact⟨u,by rw[b3 s bN];exact hu,eH.le aQ.le.bO⟩
   eG:=fun s x hs=>by
    by_cases e:s=b
    ·subst e;rw[hb] at hs;cases hs;exact NN
    ·rw[ar s e] at hs
     show(if s=b then _ else _)=_
     rw[if_neg e];exact an.eG s x hs
   gO:=fun s hs=>by
    have hs:(if s=b then some (some E.w.heap.size) else E.m s)=some none:=hs
    split at hs
    ·cases hs
    ·rename_i e
     obtain⟨x,q1,q2⟩:=an.gO s hs
     exact⟨x,by rw[ar s e];exact q1,by rw[b3 s e];exact q2⟩
   fresh:=fun s hs=>by
    have aN:b<H'.length:=(List.getElem?_eq_some_iff.1 hb).1
    have e:s≠b:=by omega
    have:=an.fresh s (by omega)
    exact⟨by show(if s=b then _ else _)=_;rw[if_neg e];exact this.1,by show(if s=b then _ else _)=_;rw[if_neg e];exact this.2⟩
   gD:=fun s s' c h1 h2=>by
    rcases hm s c h1 with⟨d1,ax⟩ | ⟨_,dr⟩<;>rcases hm s' c h2 with⟨d2,e2⟩ | ⟨_,gE⟩
    ·rw[d1,d2]
    ·have:=jK c ⟨s',gE⟩;omega
    ·have:=jK c ⟨s,dr⟩;omega
    ·exact an.gD s s' c dr gE
   iZ:=an.iZ
   gl:=fun s t c h1 h2=>by
    rcases hm s c h1 with⟨rfl,rfl⟩ | ⟨_,h1⟩
    ·have:=jL _ ⟨t,h2⟩;omega
    ·exact an.gl s t c h1 h2
   hl:=fun c hc ⟨s,hs⟩=>by
    rcases hm s c hs with⟨rfl,rfl⟩ | ⟨_,hs⟩
    ·have:=an.du _ hc;omega
    ·exact an.hl c hc ⟨s,hs⟩
   hR:=an.hR
   dm:=an.dm
   fg:=fun c hc=>(an.fg c hc).same (hw.jv c (an.du c (an.dm c hc)))
   du:=fun c hc=>Nat.lt_of_lt_of_le (an.du c hc) aQ.size
   fm:=fun c ⟨s,hs⟩=>by
    rcases hm s c hs with⟨rfl,rfl⟩ | ⟨_,hs⟩
    ·show _<w'.heap.size;rw[hw.size];omega
    ·exact Nat.lt_of_lt_of_le (jK c ⟨s,hs⟩) aQ.size
   gb:=fun c hc=>Nat.lt_of_lt_of_le (jL c hc) aQ.size}
 ·intro s c hs
  obtain⟨gu,bL,hF,q1,q2,q3⟩:=bB s c hs
  exact⟨gu,bL,hF,q1,by show w'.heap[c]?=_;rw[hw.jv c (jL c ⟨s,hs⟩)];exact q2,q3.mono fun _ _ k=>k.le aQ.le.bO⟩
theorem Si {E:Env} {H:List Blk} {L:List (Nat×List AV)} {w':World} {b:Nat} {x:Option Nat} {blk blk':Blk} (an:SimH E H) (bB:SimL E L)
  (hm:E.m b=some x) (hb:H[b]?=some blk) (aB:blk'.a6=blk.a6+1) (mb:blk'.sz=blk.sz)
  (ar:w'.os=E.w.os) (ZU:w'.tape=E.w.tape) (Zx:w'.output=E.w.output) (b3:w'.heap.size=E.w.heap.size)
  (hw: ∀c,x≠some c→w'.heap[c]?=E.w.heap[c]?)
  (hx: ∀c,x=some c→ ∃aj ty,w'.heap[c]?=some (.cells aj ty (0,0))∧aj.size=E.cp b*E.sz b∧blk'.rows.length≤E.cp b∧vN E (E.sz b) blk'.rows aj):
  ∃E',E'.w=w'∧Step E E'∧SimH E' (H.set b blk')∧SimL E' L∧E'.a6 b=blk'.a6∧E'.m=E.m∧E'.sz=E.sz∧E'.cp=E.cp∧E'.mL=E.mL:=by
 let E':Env:={E with w:=w',a6:=fun bH=>if bH=b then blk'.a6 else E.a6 bH}
 have jI:=an.eG b blk hb
 have bN: ∀c,E.PA c→x≠some c:=fun c hc e=>an.hl c hc ⟨b,by rw[hm,e]⟩
 have aQ:Step E E':=
  {le:=⟨fun _ h=>h,fun _ h=>h,fun c hc=>hw c (bN c hc),fun c hc=>hw c (bN c (an.dm c hc)),fun bH=>by
     show _≤(if bH=b then _ else _)
     split
     ·rename_i e;subst e;omega
     ·exact Nat.le_refl _,fun bH y aS Ze=>by
     have pd:(if bH=b then blk'.a6 else E.a6 bH)=E.a6 bH:=Ze
     have wN:bH≠b:=fun e=>by subst e;rw[if_pos rfl] at pd;omega
     exact⟨aS,rfl,rfl⟩,fun _ _ h=>h⟩
   os:=ar,tape:=ZU,output:=Zx
   size:=by show E.w.heap.size≤w'.heap.size;rw[b3];exact Nat.le_refl _
   cM:=fun c hc h1 _=>hw c (fun e=>h1 ⟨b,by rw[hm,e]⟩)
   iB:=fun _ _ h=> .inl h
   iY:=fun _ h=> .inl h
   fp:=fun _ h=> .inl h
   e6:=fun _ h=> .inl h}
 have p6:b<H.length:=(List.getElem?_eq_some_iff.1 hb).1
 refine⟨E',rfl,aQ,?_,?_,if_pos rfl,rfl,rfl,rfl,rfl⟩
 ·exact{an with
   fg:=fun b8 kp=>(an.fg b8 kp).same (aQ.le.wf b8 kp)
   heap:=fun s c hs=>by
    by_cases e:s=b
    ·subst e
     have Of:x=some c:=by
      have:E.m s=some (some c):=hs
      rw[hm] at this;exact Option.some.inj this
     obtain⟨yU,aiw,ai0,q1,bU,q⟩:=an.heap s c (by rw[hm,Of])
     obtain rfl:blk=yU:=by rw[hb] at q1;exact Option.some.inj q1
     obtain⟨aj,ty,h1,h2,ay,bg⟩:=hx c Of
     exact⟨blk',aj,ty,by rw[List.getElem?_set_self p6],bU.trans mb.symm,h1,h2,ay,bg.1,fun i j row a ai af=>by
      obtain⟨u,hu,eH⟩:=bg.2 i j row a ai af;exact⟨u,hu,eH.le aQ.le.bO⟩⟩
    ·obtain⟨yU,bL,hF,q1,bU,q2,q3,q4,cP,cF⟩:=an.heap s c hs
     refine⟨yU,bL,hF,by rw[List.getElem?_set_ne (fun h=>e h.symm)];exact q1,bU,?_,q3,q4,cP,fun i j row a ai af=> ?_⟩
     ·show w'.heap[c]?=_
      rw[hw c (fun h=>e (an.gD s b c hs (by rw[hm,h])))];exact q2
     ·obtain⟨u,hu,eH⟩:=cF i j row a ai af
      exact⟨u,hu,eH.le aQ.le.bO⟩
   eG:=fun s y hs=>by
    by_cases e:s=b
    ·subst e;rw[List.getElem?_set_self p6] at hs;cases hs;exact if_pos rfl
    ·rw[List.getElem?_set_ne (fun h=>e h.symm)] at hs
     show(if s=b then _ else _)=_
     rw[if_neg e];exact an.eG s y hs
   gO:=fun s hs=>by
    obtain⟨y,q1,q2⟩:=an.gO s hs
    by_cases e:s=b
    ·subst e
     obtain rfl:blk=y:=by rw[hb] at q1;exact Option.some.inj q1
     exact⟨blk',by rw[List.getElem?_set_self p6],q2.trans mb.symm⟩
    ·exact⟨y,by rw[List.getElem?_set_ne (fun h=>e h.symm)];exact q1,q2⟩
   fresh:=fun s hs=>by
    rw[List.length_set] at hs
    have e:s≠b:=by omega
    have:=an.fresh s hs
    exact⟨this.1,by show(if s=b then _ else _)=_;rw[if_neg e];exact this.2⟩
   du:=fun c hc=>Nat.lt_of_lt_of_le (an.du c hc) aQ.size
   fm:=fun c hc=>Nat.lt_of_lt_of_le (an.fm c hc) aQ.size
   gb:=fun c hc=>Nat.lt_of_lt_of_le (an.gb c hc) aQ.size}
 ·intro s c hs
  obtain⟨gu,bL,hF,q1,q2,q3⟩:=bB s c hs
  refine⟨gu,bL,hF,q1,?_,q3.mono fun _ _ k=>k.le aQ.le.bO⟩
  show w'.heap[c]?=_
  rw[hw c (fun e=>an.gl b s c (by rw[hm,e]) hs)];exact q2
theorem Dg {E:Env} {H:List Blk} {L:List (Nat×List AV)} {blk:Blk} (an:SimH E H) (bB:SimL E L) (aB:blk.a6=0) (ai:blk.rows=[]):
  ∃E',E'.w=E.w∧Step E E'∧SimH E' (H++[blk])∧SimL E' L∧E'.a6 H.length=0∧E'.m H.length=some none∧(∀b,b≠H.length→E'.m b=E.m b)∧E'.mL=E.mL:=by
 have hs:=an.snoc aB
 have ad:=an.fresh H.length (Nat.le_refl _)
 let E':Env:={E with m:=fun b=>if b=H.length then some none else E.m b,sz:=fun b=>if b=H.length then blk.sz else E.sz b}
 have rb: ∀b c,E'.m b=some (some c)→E.m b=some (some c)∧b≠H.length:=by
  intro b c h
  have h:(if b=H.length then some none else E.m b)=some (some c):=h
  split at h
  ·cases h
  ·exact⟨h,by assumption⟩
 have aQ:Step E E':=
  {le:=⟨fun _ h=>h,fun _ h=>h,fun _ _=>rfl,fun _ _=>rfl,fun _=>Nat.le_refl _,fun b x hx _=>by
     have bN:b≠H.length:=fun e=>by subst e;rw[ad.1] at hx;cases hx
     exact⟨by show(if b=H.length then _ else _)=_;rw[if_neg bN];exact hx,by show(if b=H.length then _ else _)=_;rw[if_neg bN],rfl⟩,fun _ _ h=>h⟩
   os:=rfl,tape:=rfl,output:=rfl,size:=Nat.le_refl _
   cM:=fun _ _ _ _=>rfl
   iB:=fun b c h=> .inl (rb b c h).1
   iY:=fun _ h=> .inl h
   fp:=fun _ h=> .inl h
   e6:=fun _ h=> .inl h}
 refine⟨E',rfl,aQ,?_,fun s c hm=> ?_,ad.2,if_pos rfl,fun b hb=>if_neg hb,rfl⟩
 ·exact{hs with
   heap:=fun b c h=>by
    obtain⟨h,bN⟩:=rb b c h
    obtain⟨yU,bL,hF,q1,bU,q2,q3,q4,cP,cF⟩:=hs.heap b c h
    have b3:E'.sz b=E.sz b:=if_neg bN
    exact⟨yU,bL,hF,q1,by rw[b3];exact bU,q2,by rw[b3];exact q3,q4,by rw[b3];exact cP,fun i j row a ai af=>by
     obtain⟨u,hu,eH⟩:=cF i j row a ai af
     exact⟨u,by rw[b3];exact hu,eH.le aQ.le.bO⟩⟩
   gO:=fun b h=>by
    by_cases e:b=H.length
    ·subst e
     exact⟨blk,by simp,if_pos rfl⟩
    ·have h:E.m b=some none:=by
      have h:(if b=H.length then some none else E.m b)=some none:=h
      rwa [if_neg e] at h
     obtain⟨y,q1,q2⟩:=hs.gO b h
     exact⟨y,q1,by show(if b=H.length then _ else _)=_;rw[if_neg e];exact q2⟩
   fresh:=fun b h=>by
    have:=hs.fresh b h
    have e:b≠H.length:=by simp at h;omega
    exact⟨by show(if b=H.length then _ else _)=_;rw[if_neg e];exact this.1,this.2⟩
   gD:=fun b bH c h1 h2=>hs.gD b bH c (rb b c h1).1 (rb bH c h2).1
   gl:=fun b t c h1 h2=>hs.gl b t c (rb b c h1).1 h2
   hl:=fun c hc ⟨b,h⟩=>hs.hl c hc ⟨b,(rb b c h).1⟩
   fm:=fun c ⟨b,h⟩=>hs.fm c ⟨b,(rb b c h).1⟩}
 ·obtain⟨gu,bL,hF,q1,q2,q3⟩:=bB s c hm
  exact⟨gu,bL,hF,q1,q2,q3.mono fun _ _ k=>k.le aQ.le.bO⟩
def AA (fr:Bool) (row:List AV):List AV:=match fr with
 | true=>row.map oB
 | false=>row
def lO (fr:Bool) (rows:List (List AV)):List (List AV):=match fr with
 | true=>rows.map fun row=>row.map oB
 | false=>rows
theorem afk (fr:Bool) (rows:List (List AV)):lO fr rows=rows.map (AA fr):=by
 cases fr
 ·show rows=rows.map fun row=>row
  simp
 ·rfl
theorem afj (fr:Bool) (row:List AV):(AA fr row).length=row.length:=by
 cases fr<;>simp[AA]
def rowsOf (H:List Blk) (x:AV):Option (List (List AV)):=match x with
 | .aJ rows _ fr=>some (lO fr rows)
 | .ref b g off n _=>(H[b]?).bind fun blk=>if blk.a6=g∧off+n≤blk.rows.length then some ((blk.rows.drop off).take n) else none
 | .str s=>some (s.data.toList.map fun c=>[.int .u8 c.toNat])
 | _=>none
def Sp (H:List Blk) (x:AV) (K:List (List AV)→Prop):Prop:=match x with
 | .aJ rows _ fr=>K (lO fr rows)
 | .ref b g off n _=>cD H[b]? fun blk=>blk.a6=g∧off+n≤blk.rows.length∧K ((blk.rows.drop off).take n)
 | .str s=>K (s.data.toList.map fun c=>[.int .u8 c.toNat])
 | _=>False
theorem afr {H:List Blk} {x:AV} {K:List (List AV)→Prop} (h:Sp H x K): ∃b6,rowsOf H x=some b6∧K b6:=by
 cases x with
 | aJ rows full fr=>exact⟨_,rfl,h⟩
 | ref b g off n full=>
  obtain⟨blk,hb,h1,h2,ay⟩:=e5 (show cD H[b]? fun blk=>blk.a6=g∧off+n≤blk.rows.length∧K ((blk.rows.drop off).take n) from h)
  exact⟨_,by show(H[b]?).bind _=_;rw[hb];show(if blk.a6=g∧off+n≤blk.rows.length then _ else _)=_;rw[if_pos ⟨h1,h2⟩],ay⟩
 | str s=>exact⟨_,rfl,h⟩
 | _=>exact h.elim
def tG (P:Program) (e t2:TypeId) (x:AV):Bool:=match x with
 | .str _=>(match P.underlying t2 with
  | some .string=>(match P.underlying e with
   | some (.int .u8)=>P.cellsOf e==1
   | _=>false)
  | _=>false)
 | _=>(match P.underlying t2 with
  | some (.slice e2)=>e2==e
  | _=>false)
def tc (n:Nat) (b6:List (List AV)):Prop:= ∀row∈b6,row.length=n∧ ∀a∈row,jg a=true
abbrev nZ (r:Type):Type:=AV→List (Nat×List AV)→List Blk→r
def tF (P:Program) (t t2:TypeId) (s x:AV) (L:List (Nat×List AV)) (H:List Blk) (K:nZ Prop):Prop:=
 cD (ix P t) fun e=>cD (mD P e) fun z=>if z.length=P.cellsOf e∧0<z.length∧tG P e t2 x=true then Sp H x fun b6=>
  tc z.length b6∧(match s with
  | .aJ rows full fr=>full=true∧(∀row∈rows,row.length=z.length)∧(rows.length+b6.length)*P.bytesOf e≤140737488355328∧rows.length+b6.length≤4611686018427387904∧(rows≠[]→b6≠[])∧
    K (.ref H.length 0 0 (rows.length+b6.length) false) L (H++[⟨0,z.length,rows++b6⟩])
  | .ref b g off n full=>off=0∧cD H[b]? fun blk=>blk.a6=g∧blk.sz=z.length∧blk.rows.length=n∧(n+b6.length)*P.bytesOf e≤140737488355328∧n+b6.length≤4611686018427387904∧
    K (.ref b (g+1) 0 (n+b6.length) false) L (H.set b ⟨g+1,z.length,blk.rows++b6⟩)
  | _=>False)
 else False
structure Bp (P:Program) (E:Env) (t2:TypeId) (size:Nat) (b6:List (List AV)) (ia:Value) (news:List Value):Prop where
 len:news.length=b6.length*size
 rel: ∀(i j:Nat) (row:List AV) (a:AV),b6[i]?=some row→row[j]?=some a→ ∃u,news[i*size+j]?=some u∧bQ E.bO a u∧u.oneCell'=true
 one: ∀u∈news,u.oneCell'=true
 num:(∃e2,P.underlying t2=some (.slice e2))∨P.underlying t2=some .string
 lenOf: ∀w,(Builtin.lenOf ia).run P w= .ok b6.length w
 cells: ∀w,(w=E.w∨w=E.w.drew)→(Builtin.firstCells size b6.length ia).run P w= .ok news.toArray w
theorem Rq {size:Nat} {b6:List (List AV)} {news:List Value} {R:AV→Value→Prop} (fj: ∀row∈b6,row.length=size) (len:news.length=b6.length*size)
  (rel: ∀(i j:Nat) (row:List AV) (a:AV),b6[i]?=some row→row[j]?=some a→ ∃u,news[i*size+j]?=some u∧R a u∧u.oneCell'=true): ∀u∈news,u.oneCell'=true:=by
 intro u hu
 obtain⟨k,hk⟩:=List.mem_iff_getElem?.1 hu
 have lf:k<b6.length*size:=by rw[←len];exact(List.getElem?_eq_some_iff.1 hk).1
 have kQ:0<size:=by
  rcases Nat.eq_zero_or_pos size with q | q
  ·rw[q,Nat.mul_zero] at lf;omega
  ·exact q
 have hi:k / size<b6.length:=(Nat.div_lt_iff_lt_mul kQ).2 lf
 have eK:=List.getElem?_eq_getElem hi
 have hlen:(b6[k / size]).length=size:=fj _ (List.getElem_mem hi)
 have af:k%size<(b6[k / size]).length:=by rw[hlen];exact Nat.mod_lt _ kQ
 obtain⟨v,h1,h2,ay⟩:=rel (k / size) (k%size) _ _ eK (List.getElem?_eq_getElem af)
 rw[Nat.div_add_mod' k size,hk] at h1
 cases h1;exact ay
theorem aih {P:Program} {e t2:TypeId} {x:AV} {b6:List (List AV)} {E:Env} {H:List Blk} {ia:Value} {size:Nat} (an:SimH E H) (hx:V2 E x ia) (b3:size=P.cellsOf e) (a_:tG P e t2 x=true)
  (ai:rowsOf H x=some b6) (fj:tc size b6): ∃news,Bp P E t2 size b6 ia news:=by
 have Cy: ∀row∈b6,row.length=size:=fun row h=>(fj row h).1
 cases x with
 | aJ rows full fr=>
  have ci:lO fr rows=b6:=Option.some.inj ai
  have ax:b6=rows.map (AA fr):=by rw[←ci];exact afk fr rows
  have CC:b6.length=rows.length:=by rw[ax,List.length_map]
  have qb: ∀row∈rows,row.length=size:=fun row h=>by
   rw[←afj fr row];exact Cy _ (by rw[ax];exact List.mem_map_of_mem h)
  have hu: ∃e2,P.underlying t2=some (.slice e2):=by
   unfold tG at a_
   simp only at a_
   split at a_
   ·exact⟨_,by assumption⟩
   ·cases a_
  obtain⟨e2,hu⟩:=hu
  have h4:aL E.w E.PA E.PF (.aJ rows full fr) ia:=hx
  cases h4 with
  | @aJ _ _ PB _ _ _ A cap sz vs eR eZ fB zE dL hrel=>
   let news:List Value:=(List.range (rows.length*size)).map fun k=>vs (k / size) (k%size)
   have lE:news.length=rows.length*size:=by simp[news]
   have gC: ∀i j,i<rows.length→j<size→news[i*size+j]?=some (vs i j):=by
    intro i j hi af
    have hk:i*size+j<rows.length*size:=by
     calc i*size+j<i*size+size:=by omega
      _=(i+1)*size:=by rw[Nat.add_mul,Nat.one_mul]
      _≤rows.length*size:=Nat.mul_le_mul_right _ (by omega)
    show((List.range (rows.length*size)).map _)[i*size+j]?=_
    rw[List.getElem?_map,List.getElem?_range hk]
    have h1:(i*size+j) / size=i:=by
     rw[Nat.add_comm,Nat.add_mul_div_right _ _ (by omega),Nat.div_eq_of_lt af];omega
    have h2:(i*size+j)%size=j:=by
     rw[Nat.add_comm,Nat.add_mul_mod_self_right,Nat.mod_eq_of_lt af]
    simp[h1,h2]
   have rel: ∀(i j:Nat) (row:List AV) (a:AV),b6[i]?=some row→row[j]?=some a→ ∃u,news[i*size+j]?=some u∧bQ E.bO a u∧u.oneCell'=true:=by
    intro i j row a h1 h2
    have zD:=fj row (List.mem_of_getElem? h1)
    have af:j<size:=by rw[←zD.1];exact(List.getElem?_eq_some_iff.1 h2).1
    have hs:=zD.2 a (List.mem_of_getElem? h2)
    rw[ax,List.getElem?_map] at h1
    cases U:rows[i]? with
    | none=>rw[U] at h1;cases h1
    | some rW=>
     rw[U] at h1
     have h1:AA fr rW=row:=Option.some.inj h1
     have kq:bQ E.bO a (vs i j):=by
      cases fr with
      | false=>
       have h1:rW=row:=h1
       subst h1
       exact aL.v1 (E:=E.bO) ((hrel i j rW a U h2).mono (fun _ _=>rfl) (fun _ h=>h.elim) (fun c hc=>show E.PA c by have:=eR c hc;simpa using this) (fun _ h=>h.elim))
      | true=>
       have h1:rW.map oB=row:=h1
       subst h1
       rw[List.getElem?_map] at h2
       cases jN:rW[j]? with
       | none=>rw[jN] at h2;cases h2
       | some a0=>
        rw[jN] at h2
        have h2:oB a0=a:=Option.some.inj h2
        subst h2
        exact aL.v1 (E:=E.bO) (afi (hrel i j rW a0 U jN) (fun c hc=>show E.PF c by have:=eR c hc;simpa using this) an.dm)
     exact⟨_,gC i j (List.getElem?_eq_some_iff.1 U).1 af,kq,kq.Dp hs⟩
   refine⟨news,by rw[CC];exact lE,rel,Rq Cy (by rw[CC];exact lE) rel,.inl ⟨_,hu⟩,fun w=>by rw[CC];rfl,fun w hw=> ?_⟩
   rw[CC]
   have GQ: ∀a,w.cell? a=E.w.cell? a:=by rcases hw with rfl | rfl<;>intro a<;>rfl
   by_cases av:rows.length=0
   ·have ad:news=[]:=List.eq_nil_of_length_eq_zero (by rw[lE,av,Nat.zero_mul])
    rw[ad,av]
    cases A with
    | none=>exact run_firstCells_none w size 0 _ _
    | some k4=>
     have:=run_firstCells_some (P:=P) w size 0 k4 0 cap [] (by simp) (fun j v h=>by simp at h)
     exact this
   ·obtain⟨c,o,rfl,hc,dU⟩:=dL (by omega)
    refine run_firstCells_some (P:=P) w size rows.length ⟨c,o,none⟩ rows.length cap news lE (fun k v hk=> ?_)
    have lf:k<rows.length*size:=by rw[←lE];exact(List.getElem?_eq_some_iff.1 hk).1
    have kQ:0<size:=by
     rcases Nat.eq_zero_or_pos size with q | q
     ·rw[q,Nat.mul_zero] at lf;omega
     ·exact q
    have hi:k / size<rows.length:=(Nat.div_lt_iff_lt_mul kQ).2 lf
    have af:k%size<size:=Nat.mod_lt _ kQ
    have N_:sz=size:=by
     have:=zE _ _ (List.getElem?_eq_getElem hi)
     rw[←this];exact qb _ (List.getElem_mem hi)
    have h1:=dU (k / size) (k%size) hi (by rw[N_];exact af)
    have h2:=gC (k / size) (k%size) hi af
    rw[Nat.div_add_mod' k size] at h2
    rw[hk] at h2
    cases h2
    rw[nl,GQ]
    rw[N_,Nat.div_add_mod' k size] at h1
    exact h1
 | ref b g off n full=>
  have hu: ∃e2,P.underlying t2=some (.slice e2):=by
   unfold tG at a_
   simp only at a_
   split at a_
   ·exact⟨_,by assumption⟩
   ·cases a_
  obtain⟨e2,hu⟩:=hu
  have ai:((H[b]?).bind fun blk=>if blk.a6=g∧off+n≤blk.rows.length then some ((blk.rows.drop off).take n) else none)=some b6:=ai
  cases hb:H[b]? with
  | none=>simp[hb] at ai
  | some blk=>
   simp only[hb,Option.bind_some] at ai
   split at ai
   case isFalse=>cases ai
   case isTrue hc=>
   obtain⟨aB,sB⟩:=hc
   cases ai
   have jI:=an.eG b blk hb
   have ph:((blk.rows.drop off).take n).length=n:=by simp;omega
   have Z1: ∀i row,((blk.rows.drop off).take n)[i]?=some row→blk.rows[off+i]?=some row:=by
    intro i row h
    rw[List.getElem?_take] at h
    split at h
    ·rw[List.getElem?_drop] at h;exact h
    ·cases h
   rcases(show ey E (.ref b g off n full) ia from hx) with⟨bm,_⟩ | ⟨fO,bm⟩
   ·omega
   ·rcases bm with⟨_,_,lD,A,rfl⟩ | ⟨c,cap,hm,rfl,oi,pb,p7⟩
    ·subst lD
     refine⟨[],by simp,fun i j row a h=>by simp at h,(fun u hu=>by cases hu),.inl ⟨_,hu⟩,fun w=>by simp;rfl,fun w hw=> ?_⟩
     rw[ph]
     cases A with
     | none=>exact run_firstCells_none w size 0 _ _
     | some k4=>exact run_firstCells_some (P:=P) w size 0 k4 0 0 [] (by simp) (fun j v h=>by simp at h)
    ·obtain⟨blk',aj,ty,q1,bU,hw,j8,nC,fS⟩:=an.heap b c hm
     obtain rfl:blk=blk':=by rw[hb] at q1;exact Option.some.inj q1
     by_cases lD:n=0
     ·subst lD
      refine⟨[],by simp,fun i j row a h=>by simp at h,(fun u hu=>by cases hu),.inl ⟨_,hu⟩,fun w=>by simp;rfl,fun w hw=> ?_⟩
      rw[ph]
      exact run_firstCells_some (P:=P) w size 0 _ 0 cap [] (by simp) (fun j v h=>by simp at h)
     ·have Hh:E.sz b=size:=by
       have aN:off<blk.rows.length:=by omega
       have au:((blk.rows.drop off).take n)[0]?=some blk.rows[off]:=by
        rw[List.getElem?_take,if_pos (by omega),List.getElem?_drop,Nat.add_zero,List.getElem?_eq_getElem aN]
       rw[←fS.1 off _ (List.getElem?_eq_getElem aN)]
       exact Cy _ (List.mem_of_getElem? au)
      let news:List Value:=(aj.toList.drop (off*size)).take (n*size)
      have YQ:off*size+n*size≤aj.size:=by
       rw[j8,Hh,←Nat.add_mul];exact Nat.mul_le_mul_right _ (by omega)
      have lE:news.length=n*size:=by simp[news];omega
      have N2: ∀k,k<n*size→news[k]?=aj[off*size+k]?:=by
       intro k hk
       show((aj.toList.drop (off*size)).take (n*size))[k]?=_
       rw[List.getElem?_take,if_pos hk,List.getElem?_drop,Array.getElem?_toList]
      have rel: ∀(i j:Nat) (row:List AV) (a:AV),((blk.rows.drop off).take n)[i]?=some row→row[j]?=some a→ ∃u,news[i*size+j]?=some u∧bQ E.bO a u∧u.oneCell'=true:=by
       intro i j row a h1 h2
       have zD:=fj row (List.mem_of_getElem? h1)
       have af:j<size:=by rw[←zD.1];exact(List.getElem?_eq_some_iff.1 h2).1
       have hi:i<n:=by have:=(List.getElem?_eq_some_iff.1 h1).1;rw[ph] at this;exact this
       obtain⟨u,qc,sE⟩:=fS.2 (off+i) j row a (Z1 i row h1) h2
       have hk:i*size+j<n*size:=by
        calc i*size+j<i*size+size:=by omega
         _=(i+1)*size:=by rw[Nat.add_mul,Nat.one_mul]
         _≤n*size:=Nat.mul_le_mul_right _ (by omega)
       refine⟨u,?_,sE,sE.Dp (zD.2 a (List.mem_of_getElem? h2))⟩
       rw[N2 _ hk,←qc,Hh]
       congr 1
       rw[Nat.add_mul];omega
      refine⟨news,by rw[ph];exact lE,rel,Rq Cy (by rw[ph];exact lE) rel,.inl ⟨_,hu⟩,fun w=>by rw[ph];rfl,fun w ga=> ?_⟩
      have GQ: ∀a,w.cell? a=E.w.cell? a:=by rcases ga with rfl | rfl<;>intro a<;>rfl
      rw[ph]
      refine run_firstCells_some (P:=P) w size n _ n cap news lE (fun k v hk=> ?_)
      have lf:k<n*size:=by rw[←lE];exact(List.getElem?_eq_some_iff.1 hk).1
      rw[N2 k lf] at hk
      rw[nl,GQ,Hh]
      exact cell_of hw hk
 | str s=>
  obtain rfl:=V3.x4 (pR hx)
  cases ai
  unfold tG at a_
  simp only at a_
  split at a_
  case h_2=>cases a_
  case h_1 hu=>
  split at a_
  case h_2=>cases a_
  case h_1 he=>
  have ez:size=1:=by rw[b3];simpa using a_
  subst ez
  have zF:s.data.toList.length=s.size:=by simp
  refine⟨s.data.toList.map fun c=> .int .u8 c.toNat,by simp,fun i j row a h1 h2=> ?_,fun u hu=> ?_,.inr hu,fun w=> ?_,fun w hw=> ?_⟩
  ·rw[List.getElem?_map] at h1
   cases hc:s.data.toList[i]? with
   | none=>rw[hc] at h1;cases h1
   | some c=>
    rw[hc] at h1
    cases h1
    have NT:j=0:=by have:=(List.getElem?_eq_some_iff.1 h2).1;simp at this;omega
    subst NT
    cases h2
    exact⟨.int .u8 c.toNat,by rw[List.getElem?_map,Nat.mul_one,Nat.add_zero,hc];rfl,aL.int _ _,rfl⟩
  ·obtain⟨c,_,rfl⟩:=List.mem_map.1 hu;rfl
  ·show Result.ok s.size w=_
   rw[List.length_map,zF]
  ·rw[List.length_map,zF]
   show Result.ok ((s.extract 0 s.size).data.map fun b=>Value.int .u8 b.toNat) w=_
   congr 1
   apply Array.ext'
   simp
 | _=>cases ai
section
variable {P:Program} {E:Env} {t t2 ty e:TypeId} {size:Nat} {b6:List (List AV)} {ia:Value} {news:List Value}
theorem Sq (X:Bp P E t2 size b6 ia news) (a_:P.underlying t=some (.slice e)) (hi:(P.info? e).isSome=true) (b3:P.cellsOf e=size) {base:Option Addr} {sLen sCap:Nat} (ad:b6.length=0) (hc:sLen≤sCap):
  (Builtin.append_ #[t,t2] ty #[.slice base sLen sCap,ia]).run P E.w= .ok (.slice base sLen sCap) E.w:=by
 have ao:=X.lenOf E.w
 have hf:=X.cells E.w (.inl rfl)
 have Zn:news=[]:=List.eq_nil_of_length_eq_zero (by rw[X.len,ad,Nat.zero_mul])
 subst Zn
 rw[ad] at ao hf
 rcases X.num with⟨e2,hu⟩ | hu<;>
  (simp[Builtin.append_,run_underlying a_,run_underlying hu,run_sizeOf hi,b3,ao,hc,hf]
   cases base<;>simp[storeCells])
theorem afs (X:Bp P E t2 size b6 ia news) (a_:P.underlying t=some (.slice e)) (hi:(P.info? e).isSome=true) (b3:P.cellsOf e=size) {g o sLen sCap:Nat} {gv:Array Value} {ce:TypeId}
  (aB:E.w.heap[g]?=some (.cells gv ce (0,0))) (wR:sLen+b6.length≤sCap) (sv:o+sLen*size+news.length≤gv.size):
  (Builtin.append_ #[t,t2] ty #[.slice (some ⟨g,o,none⟩) sLen sCap,ia]).run P E.w= .ok (.slice (some ⟨g,o,none⟩) (sLen+b6.length) sCap) (E.w.setRow g (gv.toList.take (o+sLen*size)++news++gv.toList.drop (o+sLen*size+news.length)).toArray):=by
 have ao:=X.lenOf E.w
 have hf:=X.cells E.w (.inl rfl)
 have aQ:=run_storeCells_at (P:=P) g (o+sLen*size) ce news 0 gv E.w aB (by simpa using sv) X.one
 simp only[Nat.add_zero] at aQ
 rcases X.num with⟨e2,hu⟩ | hu<;>
  simp[Builtin.append_,run_underlying a_,run_underlying hu,run_sizeOf hi,b3,ao,wR,hf,nl,aQ]
theorem aft (X:Bp P E t2 size b6 ia news) (a_:P.underlying t=some (.slice e)) {i:TypeInfo} (hi:P.info? e=some i) (b3:i.size=size) {z:Value} (av:i.zero=some z) {base:Option Addr} {sLen sCap:Nat} {jT:Array Value}
  (holds:(Builtin.firstCells size sLen (.slice base sLen sCap)).run P E.w.drew= .ok jT E.w.drew) (aB:sCap<sLen+b6.length) (Cg:((sLen+b6.length:Nat):Int)≤9223372036854775807)
  (sv:Builtin.nextslicecap (sLen+b6.length) sCap*i.bytes≤281474976710656):
  (Builtin.append_ #[t,t2] ty #[.slice base sLen sCap,ia]).run P E.w= .ok (.slice (some ⟨E.w.heap.size,0,none⟩) (sLen+b6.length) (grownCap E.w (sLen+b6.length) sCap e))
   (E.w.drew.alloc (.cells (jT++news.toArray++Builtin.zeroCells z.cells (grownCap E.w (sLen+b6.length) sCap e - (sLen+b6.length))) e)):=by
 have ao:=X.lenOf E.w
 have hf:=X.cells E.w.drew (.inr rfl)
 subst b3
 have ad: ¬(sLen+b6.length≤sCap):=by omega
 have Yy: ¬(9223372036854775807<((sLen:Int)+(b6.length:Int))):=by omega
 have Yx: ¬(281474976710656<Builtin.nextslicecap (sLen+b6.length) sCap*i.bytes):=by omega
 rcases X.num with⟨e2,hu⟩ | hu<;>
  simp[Builtin.append_,run_underlying a_,run_underlying hu,sizeOf,typeInfo,zeroValue,hi,av,ao,ad,Yy,Yx,Question.forced,hf,holds,newRow,grownCap]
end
theorem Vt {P:Program} {t t2 ty:TypeId} {s x:AV} {L:List (Nat×List AV)} {H:List Blk} {K:AV→List (Nat×List AV)→List Blk→Prop} {E:Env} {x8 ia:Value}
  (an:SimH E H) (bB:SimL E L) (hs:V2 E s x8) (hx:V2 E x ia) (h:tF P t t2 s x L H K):
  ∃r u H' E',K r L H'∧(Builtin.append_ #[t,t2] ty #[x8,ia]).run P E.w= .ok u E'.w∧Step E E'∧SimH E' H'∧SimL E' L∧V3 E' r u∧E'.mL=E.mL:=by
 obtain⟨e,he,h⟩:=e5 h
 obtain⟨z,av,h⟩:=e5 h
 have a_:=sn he
 split at h
 case isFalse=>exact h.elim
 case isTrue hc=>
 obtain⟨nG,kQ,o8⟩:=hc
 obtain⟨b6,CJ,fj,h⟩:=afr h
 obtain⟨i,vD,hi,us,qf,sF⟩:=vC (E:=E.bO) av
 obtain⟨news,X⟩:=aih an hx nG o8 CJ fj
 have zr:(P.info? e).isSome=true:=by rw[hi];rfl
 have wI:i.size=z.length:=by rw[nG];simp[Program.cellsOf,hi]
 have wG:i.bytes=P.bytesOf e:=by simp[Program.bytesOf,hi]
 have Z9:vD.cells.size=z.length:=by rw[qf];simp

 have out: ∀(base:Option Addr) (rows:List (List AV)) (sCap:Nat) (jT:Array Value) (b g:Nat) (H':List Blk),x8= .slice base rows.length sCap→
   (Builtin.firstCells z.length rows.length (.slice base rows.length sCap)).run P E.w.drew= .ok jT E.w.drew→jT.size=rows.length*z.length→
   (∀row∈rows,row.length=z.length)→(∀(i j:Nat) (row:List AV) (a:AV),rows[i]?=some row→row[j]?=some a→ ∃u,jT[i*z.length+j]?=some u∧bQ E.bO a u)→
   sCap<rows.length+b6.length→(rows.length+b6.length)*P.bytesOf e≤140737488355328→rows.length+b6.length≤4611686018427387904→
   H'[b]?=some ⟨g,z.length,rows++b6⟩→(∀bH,bH≠b→H'[bH]?=H[bH]?)→(b<H.length→H'.length=H.length)→H.length≤H'.length→((E.m b=none∧g=E.a6 b)∨E.a6 b<g)→
   K (.ref b g 0 (rows.length+b6.length) false) L H'→ ∃r u H' E',K r L H'∧(Builtin.append_ #[t,t2] ty #[x8,ia]).run P E.w= .ok u E'.w∧Step E E'∧SimH E' H'∧SimL E' L∧V3 E' r u∧E'.mL=E.mL:=by
  intro base rows sCap jT b g H' ZQ holds N3 qb Zw wR hby ij dV ar hlen Cx jI hK
  subst ZQ
  have fu:=aft (ty:=ty) X a_ hi wI us holds wR (by omega) (growslice_fits (by omega) (by rw[wG];exact hby))
  have GO:=grownCap_ge E.w (rows.length+b6.length) sCap e
  let cap:=grownCap E.w (rows.length+b6.length) sCap e
  let aj:Array Value:=jT++news.toArray++Builtin.zeroCells vD.cells (cap - (rows.length+b6.length))
  have j8:aj.size=cap*z.length:=by
   show(jT++news.toArray++Builtin.zeroCells vD.cells (cap - (rows.length+b6.length))).size=_
   have ax:(jT++news.toArray++Builtin.zeroCells vD.cells (cap - (rows.length+b6.length))).size=jT.size+news.length+(Builtin.zeroCells vD.cells (cap - (rows.length+b6.length))).size:=by simp;omega
   rw[ax,size_zeroCells,Z9,N3,X.len,←Nat.add_mul,←Nat.add_mul]
   congr 1
   have:rows.length+b6.length≤cap:=GO
   omega
  have fS:vN E z.length (rows++b6) aj:=by
   refine⟨fun k row ai=> ?_,fun k j row a ai af=> ?_⟩
   ·rcases Nat.lt_or_ge k rows.length with aN | fO
    ·rw[List.getElem?_append_left aN] at ai;exact qb row (List.mem_of_getElem? ai)
    ·rw[List.getElem?_append_right fO] at ai;exact(fj row (List.mem_of_getElem? ai)).1
   ·rcases Nat.lt_or_ge k rows.length with aN | fO
    ·rw[List.getElem?_append_left aN] at ai
     obtain⟨u,hu,hv⟩:=Zw k j row a ai af
     refine⟨u,?_,hv⟩
     have lf:=(Array.getElem?_eq_some_iff.1 hu).1
     show(jT++news.toArray++_)[k*z.length+j]?=_
     rw[Array.getElem?_append_left (by rw[Array.size_append];omega),Array.getElem?_append_left lf];exact hu
    ·rw[List.getElem?_append_right fO] at ai
     obtain⟨u,hu,hv,_⟩:=X.rel _ j row a ai af
     refine⟨u,?_,hv⟩
     have lf:=(List.getElem?_eq_some_iff.1 hu).1
     have lC:k*z.length+j=jT.size+((k - rows.length)*z.length+j):=by
      rw[N3,←Nat.add_assoc,←Nat.add_mul];congr 2;omega
     show(jT++news.toArray++_)[k*z.length+j]?=_
     rw[lC,Array.getElem?_append_left (by simp;omega),Array.getElem?_append_right (by omega),Nat.add_sub_cancel_left]
     simpa using hu
  obtain⟨E',hw,aQ,rh,ri,pd,jM,nE,Ck,_,hml⟩:=xg (cap:=cap) (blk:=⟨g,z.length,rows++b6⟩) an bB (mI.WR E.w (.cells aj e (0,0))) dV ar hlen Cx jI j8 (by
   show(rows++b6).length≤cap
   rw[List.length_append];exact GO) fS
  refine⟨_,_,_,E',hK,by rw[hw];exact fu,aQ,rh,ri,.inr ⟨pd.symm,.inr ⟨_,_,jM,?_,GO,(fun h=>by cases h),?_⟩⟩,hml⟩
  ·rw[Nat.zero_mul]
  ·rw[Ck,Nat.zero_add];exact Nat.le_refl _
 cases s with
 | aJ rows full fr=>
  obtain⟨fB,qb,hby,ij,bN,hK⟩:=h
  subst fB
  have nE:aL E.w E.PA E.PF (.aJ rows true fr) x8:=hs
  cases nE with
  | @aJ _ _ PB _ _ _ A cap sz vs eR eZ fB b3 dL hrel=>
   have YV:=fB rfl
   subst YV
   by_cases hh:b6.length=0
   ·have CK:b6=[]:=List.eq_nil_of_length_eq_zero hh
    have qa:rows=[]:=Classical.byContradiction fun bm=>bN bm CK
    subst qa;subst CK
    obtain⟨E',hw,aQ,rh,ri,pd,jM,_,hml⟩:=Dg (blk:=⟨0,z.length,[]++[]⟩) an bB rfl rfl
    have fu:=Sq (ty:=ty) X a_ zr nG.symm (base:=A) (sLen:=0) (sCap:=0) rfl (Nat.le_refl _)
    exact⟨_,_,_,E',hK,by rw[hw];exact fu,aQ,rh,ri,.inr ⟨pd.symm,.inl ⟨jM,rfl,rfl,A,rfl⟩⟩,hml⟩
   ·have ZS:0<rows.length→sz=z.length:=fun ab=>by
     rw[←b3 0 _ (List.getElem?_eq_getElem ab)];exact qb _ (List.getElem_mem ab)
    let jT:List Value:=(List.range (rows.length*z.length)).map fun k=>vs (k / z.length) (k%z.length)
    have zA:jT.length=rows.length*z.length:=by simp[jT]
    have gC: ∀i j,i<rows.length→j<z.length→jT[i*z.length+j]?=some (vs i j):=by
     intro i j hi af
     have hk:i*z.length+j<rows.length*z.length:=by
      calc i*z.length+j<i*z.length+z.length:=by omega
       _=(i+1)*z.length:=by rw[Nat.add_mul,Nat.one_mul]
       _≤rows.length*z.length:=Nat.mul_le_mul_right _ (by omega)
     show((List.range (rows.length*z.length)).map _)[i*z.length+j]?=_
     rw[List.getElem?_map,List.getElem?_range hk]
     have h1:(i*z.length+j) / z.length=i:=by
      rw[Nat.add_comm,Nat.add_mul_div_right _ _ (by omega),Nat.div_eq_of_lt af];omega
     have h2:(i*z.length+j)%z.length=j:=by
      rw[Nat.add_comm,Nat.add_mul_mod_self_right,Nat.mod_eq_of_lt af]
     simp[h1,h2]
    refine out A rows rows.length jT.toArray H.length 0 _ rfl ?_ (by simp[zA]) qb (fun i j row a h1 h2=> ?_) (by omega) hby ij (by simp) (fun bH dV=> ?_) (fun bm=>by omega) (by simp) (.inl ⟨(an.fresh _ (Nat.le_refl _)).1,(an.fresh _ (Nat.le_refl _)).2.symm⟩) hK
    ·by_cases qa:rows.length=0
     ·have au:jT=[]:=List.eq_nil_of_length_eq_zero (by rw[zA,qa,Nat.zero_mul])
      rw[au,qa]
      cases A with
      | none=>exact run_firstCells_none _ _ _ _ _
      | some k4=>exact run_firstCells_some (P:=P) _ z.length 0 k4 0 0 [] (by simp) (fun j v h=>by simp at h)
     ·obtain⟨c,o,rfl,hc,dU⟩:=dL (by omega)
      refine run_firstCells_some (P:=P) E.w.drew z.length rows.length ⟨c,o,none⟩ rows.length rows.length jT zA (fun k v hk=> ?_)
      have lf:k<rows.length*z.length:=by rw[←zA];exact(List.getElem?_eq_some_iff.1 hk).1
      have hi:k / z.length<rows.length:=(Nat.div_lt_iff_lt_mul kQ).2 lf
      have af:k%z.length<z.length:=Nat.mod_lt _ kQ
      have rm:=ZS (by omega)
      have h1:=dU (k / z.length) (k%z.length) hi (by rw[rm];exact af)
      have h2:=gC (k / z.length) (k%z.length) hi af
      rw[Nat.div_add_mod' k z.length] at h2
      rw[hk] at h2
      cases h2
      rw[rm,Nat.div_add_mod' k z.length] at h1
      rw[nl]
      exact h1
    ·have hi:=(List.getElem?_eq_some_iff.1 h1).1
     have af:j<z.length:=by rw[←qb row (List.mem_of_getElem? h1)];exact(List.getElem?_eq_some_iff.1 h2).1
     refine⟨vs i j,by simpa using gC i j hi af,aL.v1 (E:=E.bO) ((hrel i j row a h1 h2).mono (fun _ _=>rfl) (fun _ h=>h.elim) (fun c hc=>by have:=eR c hc;split at this;exact an.dm c this;exact this) (fun _ h=>h.elim))⟩
    ·rcases Nat.lt_or_ge bH H.length with aN | fO
     ·rw[List.getElem?_append_left aN]
     ·rw[List.getElem?_eq_none fO,List.getElem?_eq_none (by simp;omega)]
 | ref b g off n full=>
  replace h:off=0∧cD H[b]? fun blk=>blk.a6=g∧blk.sz=z.length∧blk.rows.length=n∧(n+b6.length)*P.bytesOf e≤140737488355328∧n+b6.length≤4611686018427387904∧
    K (.ref b (g+1) 0 (n+b6.length) false) L (H.set b ⟨g+1,z.length,blk.rows++b6⟩):=h
  obtain⟨Zr,U⟩:=h
  obtain⟨blk,hb,aB,mb,gx,hby,ij,hK⟩:=e5 U
  clear U
  subst Zr
  have jI:=an.eG b blk hb
  have p6:b<H.length:=(List.getElem?_eq_some_iff.1 hb).1
  subst gx
  rcases(show ey E (.ref b g 0 blk.rows.length full) x8 from hs) with⟨bm,_⟩ | ⟨fO,bm⟩
  ·omega
  ·rcases bm with⟨hm,_,lD,A,rfl⟩ | ⟨c,cap,hm,rfl,oi,pb,p7⟩
   ·
    by_cases hh:b6.length=0
    ·have CK:b6=[]:=List.eq_nil_of_length_eq_zero hh
     subst CK
     obtain⟨E',hw,aQ,rh,ri,pd,jM,zE,Ck,hml⟩:=Si (w':=E.w) (x:=none) (blk':=⟨g+1,z.length,blk.rows++[]⟩) an bB hm hb (by show g+1=_;rw[aB]) mb.symm rfl rfl rfl rfl (fun _ _=>rfl) (fun c hc=>by cases hc)
     have fu:=Sq (ty:=ty) X a_ zr nG.symm (base:=A) (sLen:=0) (sCap:=0) rfl (Nat.le_refl _)
     refine⟨_,_,_,E',hK,by rw[hw];exact fu,aQ,rh,ri,.inr ⟨pd.symm,.inl ⟨by rw[jM];exact hm,rfl,by simp[lD],A,rfl⟩⟩,hml⟩
    ·have qa:blk.rows=[]:=List.eq_nil_of_length_eq_zero lD
     refine out A blk.rows 0 #[] b (g+1) _ (by rw[qa];rfl) ?_ (by rw[qa];simp) (fun row ai=>by rw[qa] at ai;cases ai) (fun i j row a h1 h2=>by rw[qa] at h1;simp at h1) (by omega) hby ij (by rw[List.getElem?_set_self p6]) (fun bH dV=>List.getElem?_set_ne (fun h=>dV h.symm)) (fun _=>by simp) (by simp) (.inr (by omega)) hK
     rw[qa]
     cases A with
     | none=>exact run_firstCells_none _ _ _ _ _
     | some k4=>exact run_firstCells_some (P:=P) _ z.length 0 k4 0 0 [] (by simp) (fun j v h=>by simp at h)
   ·obtain⟨blk',aj,hF,q1,bU,hw,j8,nC,fS⟩:=an.heap b c hm
    obtain rfl:blk=blk':=by rw[hb] at q1;exact Option.some.inj q1
    have b3:E.sz b=z.length:=by rw[bU,mb]
    by_cases wR:blk.rows.length+b6.length≤cap
    ·
     have YZ:aj.size=E.cp b*z.length:=by rw[j8,b3]
     have hle:(blk.rows.length+b6.length)*z.length≤aj.size:=by rw[YZ];exact Nat.mul_le_mul_right _ (by omega)
     have NX:blk.rows.length*z.length+news.length≤aj.size:=by rw[X.len,←Nat.add_mul];exact hle
     have fu:=afs (ty:=ty) (o:=0) X a_ zr nG.symm hw wR (by rw[Nat.zero_add];exact NX)
     rw[Nat.zero_add] at fu
     let bL:Array Value:=(aj.toList.take (blk.rows.length*z.length)++news++aj.toList.drop (blk.rows.length*z.length+news.length)).toArray
     have NI: ∀k,bL[k]?=if k<blk.rows.length*z.length then aj.toList[k]? else if k<blk.rows.length*z.length+news.length then news[k - blk.rows.length*z.length]? else aj.toList[k]?:=by
      intro k
      show(List.toArray _)[k]?=_
      rw[List.getElem?_toArray,x3 (by simpa using NX)]
     obtain⟨E',ga,aQ,rh,ri,pd,jM,zE,Ck,hml⟩:=Si (w':=E.w.setRow c bL) (x:=some c) (blk':=⟨g+1,z.length,blk.rows++b6⟩) an bB hm hb (by show g+1=_;rw[aB]) mb.symm rfl rfl rfl (by simp)
      (fun b8 kp=>setRow_other _ _ _ _ (fun e=>kp (by rw[e]))) (fun b8 kp=>by
       cases kp
       refine⟨bL,hF,setRow_heap _ _ _ _ _ _ hw,?_,by show(blk.rows++b6).length≤_;rw[List.length_append];omega,fun k row ai=> ?_,fun k j row a ai af=> ?_⟩
       ·rw[←j8]
        show(List.toArray _).size=_
        simp;omega
       ·have ai:(blk.rows++b6)[k]?=some row:=ai
        rcases Nat.lt_or_ge k blk.rows.length with aN | Cn
        ·rw[List.getElem?_append_left aN] at ai;exact fS.1 k row ai
        ·rw[List.getElem?_append_right Cn] at ai;rw[b3];exact(fj row (List.mem_of_getElem? ai)).1
       ·have ai:(blk.rows++b6)[k]?=some row:=ai
        rcases Nat.lt_or_ge k blk.rows.length with aN | Cn
        ·rw[List.getElem?_append_left aN] at ai
         obtain⟨u,hu,hv⟩:=fS.2 k j row a ai af
         refine⟨u,?_,hv⟩
         have j_:j<z.length:=by rw[←b3,←fS.1 k row ai];exact(List.getElem?_eq_some_iff.1 af).1
         have:k*z.length+j<blk.rows.length*z.length:=by
          calc k*z.length+j<k*z.length+z.length:=by omega
           _=(k+1)*z.length:=by rw[Nat.add_mul,Nat.one_mul]
           _≤blk.rows.length*z.length:=Nat.mul_le_mul_right _ (by omega)
         rw[b3] at hu ⊢
         rw[NI,if_pos this];simpa using hu
        ·rw[List.getElem?_append_right Cn] at ai
         obtain⟨u,hu,hv,_⟩:=X.rel _ j row a ai af
         refine⟨u,?_,hv⟩
         have lf:=(List.getElem?_eq_some_iff.1 hu).1
         have lC:k*z.length+j=blk.rows.length*z.length+((k - blk.rows.length)*z.length+j):=by
          rw[←Nat.add_assoc,←Nat.add_mul];congr 2;omega
         rw[b3,NI,lC,if_neg (by omega),if_pos (by omega),Nat.add_sub_cancel_left];exact hu)
     refine⟨_,_,_,E',hK,by rw[ga];rw[Nat.zero_mul];exact fu,aQ,rh,ri,.inr ⟨pd.symm,.inr ⟨c,cap,by rw[jM];exact hm,by simp,wR,(fun h=>by cases h),by rw[Ck];omega⟩⟩,hml⟩
    ·
     refine out (some ⟨c,0,none⟩) blk.rows cap (aj.toList.take (blk.rows.length*z.length)).toArray b (g+1) _ (by rw[Nat.zero_mul]) ?_ ?_ (fun row ai=> ?_) (fun i j row a h1 h2=> ?_) (by omega) hby ij (by rw[List.getElem?_set_self p6]) (fun bH dV=>List.getElem?_set_ne (fun h=>dV h.symm)) (fun _=>by simp) (by simp) (.inr (by omega)) hK
     ·refine run_firstCells_some (P:=P) E.w.drew z.length blk.rows.length ⟨c,0,none⟩ blk.rows.length cap _ ?_ (fun k v hk=> ?_)
      ·have:blk.rows.length*z.length≤aj.size:=by rw[j8,b3];exact Nat.mul_le_mul_right _ nC
       simp;omega
      ·rw[List.getElem?_take] at hk
       split at hk
       ·rw[nl,Nat.zero_add]
        exact cell_of (w:=E.w) hw (by simpa using hk)
       ·cases hk
     ·have:blk.rows.length*z.length≤aj.size:=by rw[j8,b3];exact Nat.mul_le_mul_right _ nC
      simp;omega
     ·obtain⟨k,hk⟩:=List.mem_iff_getElem?.1 ai
      rw[←b3];exact fS.1 k row hk
     ·obtain⟨u,hu,hv⟩:=fS.2 i j row a h1 h2
      refine⟨u,?_,hv⟩
      have hi:=(List.getElem?_eq_some_iff.1 h1).1
      have af:j<z.length:=by rw[←b3,←fS.1 i row h1];exact(List.getElem?_eq_some_iff.1 h2).1
      have:i*z.length+j<blk.rows.length*z.length:=by
       calc i*z.length+j<i*z.length+z.length:=by omega
        _=(i+1)*z.length:=by rw[Nat.add_mul,Nat.one_mul]
        _≤blk.rows.length*z.length:=Nat.mul_le_mul_right _ (by omega)
      rw[List.getElem?_toArray,List.getElem?_take,if_pos this,Array.getElem?_toList,←b3]
      exact hu
 | _=>exact h.elim
def EE (E:Env) (o:Oper) (a:Act) (K:nZ Prop):Act→World→Prop:=fun gi w'=>
 ∃v u L' H' E',K v L' H'∧E'.w=w'∧Step E E'∧SimH E' H'∧SimL E' L'∧V3 E' v u∧gi=a.put o.dst u∧ ∀t,o.dst≠some t→E'.mL t=E.mL t
def BD:List Nat→Nat→Option Nat
 | [],_=>none
 | x::r,t=>match Nat.ble 2000000 x with
  | true=>(match Nat.beq ((x - 2000000)%1000) t with
   | true=>some ((x - 2000000) / 1000)
   | false=>BD r t)
  | false=>BD r t
def uS (esc:List Nat) (dst:Option Nat) (cells:List AV) (L:List (Nat×List AV)) (H:List Blk) (K:nZ Prop):Prop:=
 if cells.all jg=true then match dst with
  | none=>False
  | some t=>match BD esc t with
   | some j=>cD H[j]? fun blk=>K (.ptr j (blk.a6+1) 0 0) L (H.set j ⟨blk.a6+1,cells.length,[cells]⟩)
   | none=>if esc.contains t=true then K (.ptr H.length 0 0 0) L (H++[⟨0,cells.length,[cells]⟩]) else
    match dT L t with
    | none=>K (.e4 t 0) ((t,cells)::L) H
    | some _=>False
 else False
theorem SimL.none {E:Env} {L:List (Nat×List AV)} (h:SimL E L) {t:Nat} (ad:dT L t=none):E.mL t=none:=by
 cases hm:E.mL t with
 | none=>rfl
 | some c=>
  obtain⟨cells,aj,ty,h1,_⟩:=h t c hm
  rw[ad] at h1;cases h1
theorem KX {E:Env} {cells:List AV} {vs:List Value} (hs:cells.all jg=true) (h:az (bQ E) cells vs):az (bQ E.bO) cells vs:=
 ⟨h.1,fun i a v ap hv=>KW (List.all_eq_true.1 hs a (List.mem_of_getElem? ap)) (h.2 i a v ap hv)⟩
theorem Rc {E:Env} {H:List Blk} {L:List (Nat×List AV)} {esc:List Nat} {dst:Option Nat} {cells:List AV} {aj:Array Value} {ty:TypeId} {K:AV→List (Nat×List AV)→List Blk→Prop}
  (an:SimH E H) (bB:SimL E L) (hc:az (bQ E) cells aj.toList) (h:uS esc dst cells L H K):
  ∃v L' H' E',K v L' H'∧E'.w=E.w.alloc (.cells aj ty (0,0))∧Step E E'∧SimH E' H'∧SimL E' L'∧V3 E' v (.pointer (some ⟨E.w.heap.size,0,none⟩))∧ ∀s,dst≠some s→E'.mL s=E.mL s:=by
 unfold uS at h
 split at h
 case isFalse=>exact h.elim
 case isTrue hs=>
 have kp:=KX hs hc
 cases dst with
 | none=>exact h.elim
 | some t=>
  have h:match BD esc t with
   | some j=>cD H[j]? fun blk=>K (.ptr j (blk.a6+1) 0 0) L (H.set j ⟨blk.a6+1,cells.length,[cells]⟩)
   | none=>if esc.contains t=true then K (.ptr H.length 0 0 0) L (H++[⟨0,cells.length,[cells]⟩]) else(match dT L t with
    | none=>K (.e4 t 0) ((t,cells)::L) H
    | some _=>False):=h
  split at h
  ·rename_i j YS
   obtain⟨blk,zi,hK⟩:=e5 h
   have j_:=(List.getElem?_eq_some_iff.1 zi).1
   have Zc:=an.eG j blk zi
   have hlen:aj.size=cells.length:=by have:=hc.1;simp at this;exact this.symm
   obtain⟨E',ax,e2,dl,hL,hM,l7,BT,tM,_,hml⟩:=xg (H:=H) (H':=H.set j ⟨blk.a6+1,cells.length,[cells]⟩) (b:=j) (cap:=1) (blk:=⟨blk.a6+1,cells.length,[cells]⟩) an bB (mI.alloc E.w (.cells aj ty (0,0)))
    (by rw[List.getElem?_set];simp[j_]) (fun bH dV=>by rw[List.getElem?_set,if_neg (fun e=>dV e.symm)]) (fun _=>by simp) (by simp) (.inr (by show E.a6 j<blk.a6+1;omega)) (by simp[hlen]) (by simp)
    ⟨fun i row ai=>by
      cases i with
      | zero=>simp at ai;subst ai;rfl
      | succ i=>simp at ai,
     fun i j row a ai af=>by
      cases i with
      | zero=>
       simp at ai;subst ai
       obtain⟨u,hu,hv⟩:=kp.get af
       exact⟨u,by simpa using hu,hv⟩
      | succ i=>simp at ai⟩
   refine⟨_,_,_,E',hK,ax,e2,dl,hL,.inr ⟨hM.symm,E.w.heap.size,l7,?_⟩,fun s _=>by rw[hml]⟩
   rw[Nat.zero_mul]
  split at h
  ·have hlen:aj.size=cells.length:=by have:=hc.1;simp at this;exact this.symm
   have zc:SimH E (H++[⟨0,cells.length,[cells]⟩]):=an.snoc rfl
   obtain⟨ra,q_⟩:=an.fresh H.length (Nat.le_refl _)
   obtain⟨E',ax,e2,dl,hL,hM,l7,BT,tM,_,hml⟩:=xg (H:=H++[⟨0,cells.length,[cells]⟩]) (H':=H++[⟨0,cells.length,[cells]⟩]) (b:=H.length) (cap:=1) (blk:=⟨0,cells.length,[cells]⟩) zc bB (mI.alloc E.w (.cells aj ty (0,0)))
    (by simp) (fun _ _=>rfl) (fun _=>rfl) (Nat.le_refl _) (.inl ⟨ra,q_.symm⟩) (by simp[hlen]) (by simp)
    ⟨fun i row ai=>by
      cases i with
      | zero=>simp at ai;subst ai;rfl
      | succ i=>simp at ai,
     fun i j row a ai af=>by
      cases i with
      | zero=>
       simp at ai;subst ai
       obtain⟨u,hu,hv⟩:=kp.get af
       exact⟨u,by simpa using hu,hv⟩
      | succ i=>simp at ai⟩
   refine⟨_,_,_,E',h,ax,e2,dl,hL,.inr ⟨hM.symm,E.w.heap.size,l7,?_⟩,fun s _=>by rw[hml]⟩
   rw[Nat.zero_mul]
  ·cases aB:dT L t with
   | some x=>rw[aB] at h;exact h.elim
   | none=>
    rw[aB] at h
    have hm:=bB.none aB
    obtain⟨E',ax,e2,dl,hL,hM,_,hml⟩:=Rb (L:=(t,cells)::L) (t:=t) (cells:=cells) an (bB.cons hm) (mI.alloc E.w (.cells aj ty (0,0))) (by simp[dT]) hm kp
    exact⟨_,_,_,E',h,ax,e2,dl,hL,hM,fun s hs=>hml s fun e=>hs (by rw[e])⟩
def lS:AV→AV
 | .aJ rows _ fr=> .aJ rows false fr
 | a=>a
theorem bQ.lS {E:Env} {a:AV} {v:Value} (h:bQ E a v):bQ E (lS a) v:=by
 cases a with
 | aJ rows full fr=>
  have h:aL E.w E.PA E.PF (.aJ rows full fr) v:=h
  cases h with
  | aJ eR eZ fB b3 dL hrel=>exact aL.aJ eR eZ (fun h=>by cases h) b3 dL hrel
 | _=>exact h
theorem az.lS {E:Env} {l:List AV} {m:List Value} (h:az (bQ E) l m):az (bQ E) (l.map lS) m:=by
 refine⟨by rw[List.length_map];exact h.1,fun i a v ap hv=> ?_⟩
 rw[List.getElem?_map] at ap
 cases ao:l[i]? with
 | none=>rw[ao] at ap;cases ap
 | some b=>rw[ao] at ap;cases ap;exact(h.2 i b v ao hv).lS
def xf (P:Program) (t:TypeId) (l c:AV) (L:List (Nat×List AV)) (H:List Blk) (K:nZ Prop):Prop:=
 cD (ix P t) fun e=>cD (mD P e) fun z=>if z.length=P.cellsOf e∧z.all jg=true then match l,c with
  | .int _ l,.int _ c=>0≤l∧l≤c∧(P.bytesOf e:Int)*c≤140737488355328∧c≤4611686018427387904∧K (.ref H.length 0 0 l.toNat false) L (H++[⟨0,z.length,List.replicate l.toNat (z.map lS)⟩])
  | _,_=>False
 else False
theorem adD (z:Array Value) (n k:Nat) (hk:k<n):(madeCells z n)[k]?=some (z[k%z.size]!):=by
 simp[madeCells,hk]
theorem adR {P:Program} {E:Env} {H:List Blk} {L:List (Nat×List AV)} {t:TypeId} {l c:AV} {C8 Ms:Value} {K:AV→List (Nat×List AV)→List Blk→Prop}
  (an:SimH E H) (bB:SimL E L) (ao:V3 E l C8) (hc:V3 E c Ms) (h:xf P t l c L H K):
  ∃v L' H' E' u,K v L' H'∧(Instr.makeSlice t C8 Ms).run P E.w= .ok u E'.w∧Step E E'∧SimH E' H'∧SimL E' L'∧V3 E' v u∧E'.mL=E.mL:=by
 obtain⟨e,he,h⟩:=e5 h
 obtain⟨z,av,h⟩:=e5 h
 split at h
 case isFalse=>exact h.elim
 case isTrue hb=>
 obtain⟨nG,Z8⟩:=hb
 cases l with
 | int xb l=>
  cases c with
  | int ja c=>
   obtain⟨au,h1,h2,ay,hK⟩:=(show 0≤l∧l≤c∧(P.bytesOf e:Int)*c≤140737488355328∧c≤4611686018427387904∧K (.ref H.length 0 0 l.toNat false) L (H++[⟨0,z.length,List.replicate l.toNat (z.map lS)⟩]) from h)
   obtain rfl:=ao.nI
   obtain rfl:=hc.nI
   obtain⟨i,v,q1,q2,q3,q4⟩:=vC (E:=E) av
   have U:=(KX Z8 q4).lS
   have us:v.cells.size=z.length:=by rw[q3];simp
   have wI:i.size=z.length:=by rw[nG];simp[Program.cellsOf,q1]
   have hby:P.bytesOf e=i.bytes:=by simp[Program.bytesOf,q1]
   have hu:=sn he
   have fu:=run_make (P:=P) E.w t e i v hu q1 q2 xb ja l c au h1 (by rw[hby] at h2;omega) (by omega)
   have zc:SimH E (H++[⟨0,z.length,List.replicate l.toNat (z.map lS)⟩]):=an.snoc rfl
   obtain⟨ra,q_⟩:=an.fresh H.length (Nat.le_refl _)
   have NW:l.toNat≤c.toNat:=by omega
   obtain⟨E',ax,e2,dl,hL,hM,l7,BT,tM,_,hml⟩:=xg (H:=H++[⟨0,z.length,List.replicate l.toNat (z.map lS)⟩]) (H':=H++[⟨0,z.length,List.replicate l.toNat (z.map lS)⟩]) (b:=H.length) (cap:=c.toNat) (blk:=⟨0,z.length,List.replicate l.toNat (z.map lS)⟩) zc bB (mI.alloc E.w (.cells (madeCells v.cells (c.toNat*i.size)) e (0,0)))
    (by simp) (fun _ _=>rfl) (fun _=>rfl) (Nat.le_refl _) (.inl ⟨ra,q_.symm⟩) (by rw[size_madeCells,wI]) (by simpa using NW)
    ⟨fun iz row ai=>by
      have ai:(List.replicate l.toNat (z.map lS))[iz]?=some row:=ai
      rw[List.getElem?_replicate] at ai
      split at ai
      ·cases ai;exact List.length_map ..
      ·exact absurd ai (fun h=>by cases h),
     fun iz j row a ai af=>by
      have ai:(List.replicate l.toNat (z.map lS))[iz]?=some row:=ai
      rw[List.getElem?_replicate] at ai
      split at ai
      ·rename_i hi
       cases ai
       have wK:=(List.getElem?_eq_some_iff.1 af).1
       rw[List.length_map] at wK
       obtain⟨u,hu,hv⟩:=U.get af
       refine⟨u,?_,hv⟩
       have aN:iz*z.length+j<c.toNat*z.length:=by
        calc iz*z.length+j<iz*z.length+z.length:=by omega
         _=(iz+1)*z.length:=by rw[Nat.add_mul,Nat.one_mul]
         _≤c.toNat*z.length:=Nat.mul_le_mul_right _ (by omega)
       show(madeCells v.cells (c.toNat*i.size))[iz*z.length+j]?=_
       rw[wI,adD _ _ _ aN,us,show(iz*z.length+j)%z.length=j by rw[Nat.mul_comm,Nat.mul_add_mod,Nat.mod_eq_of_lt wK],←hu,Array.getElem?_toList,getElem!_pos v.cells j (by omega),Array.getElem?_eq_getElem]
      ·exact absurd ai (fun h=>by cases h)⟩
   refine⟨_,_,_,E',_,hK,by rw[fu,ax],e2,dl,hL,.inr ⟨hM.symm,.inr ⟨E.w.heap.size,c.toNat,l7,by rw[Nat.zero_mul],NW,(fun h=>by cases h),by rw[tM];omega⟩⟩,hml⟩
  | _=>exact h.elim
 | _=>exact h.elim
def vd:List Nat→Option Nat
 | []=>none
 | x::r=>match Nat.ble 1000000 x with
  | true=>some (x - 1000000)
  | false=>vd r
def adq (xI:Option Nat) (iT:Bool) (n sz:Nat) (rows:List (List AV)) (L:List (Nat×List AV)) (H:List Blk) (K:nZ Prop):Prop:=match xI with
 | none=>K (.ref H.length 0 0 n iT) L (H++[⟨0,sz,rows⟩])
 | some j=>cD H[j]? fun blk=>K (.ref j (blk.a6+1) 0 n true) L (H.set j ⟨blk.a6+1,sz,rows⟩)
def tP (esc:List Nat) (dst:Option Nat):Bool:=match dst with
 | none=>false
 | some d=>esc.any fun x=>Nat.beq x (500000+d)
def tK (P:Program) (fr:Bool) (xI:Option Nat) (t:TypeId) (n:Nat) (parts:List (Nat×AV)) (L:List (Nat×List AV)) (H:List Blk) (K:nZ Prop):Prop:=
 cD (ix P t) fun e=>cD (mD P e) fun z=>if z.length=P.cellsOf e∧n*z.length≤1000000∧n≤1000000 then
  cD (oZ (fun i=>some (i*z.length,z.length)) ((List.range (n*z.length)).map fun i=>z.getD (i%z.length) .undef) parts) fun cells=>
   if(bif fr then false else cells.all iP)=true then K (.aJ (chunk z.length n (cells.map h9)) true (cells.all nv)) L H else
   if cells.all jg=true then adq xI (!fr) n z.length (chunk z.length n cells) L H K else False
 else False
theorem Wj {size n i:Nat} {cells row:List AV} (ao:cells.length=n*size) (ai:(chunk size n cells)[i]?=some row):row.length=size:=by
 unfold chunk at ai
 rw[List.getElem?_map] at ai
 cases U:(List.range n)[i]? with
 | none=>rw[U] at ai;cases ai
 | some k=>
  have hk:=(List.getElem?_eq_some_iff.1 U).1
  have hi:k=i:=by have:=(List.getElem?_eq_some_iff.1 U).2;simpa using this.symm
  rw[U] at ai;cases ai
  simp only[List.length_take,List.length_drop]
  have dt:i<n:=by simpa using hk
  rw[ao,hi]
  have:(i+1)*size≤n*size:=Nat.mul_le_mul_right _ dt
  rw[Nat.add_mul,Nat.one_mul] at this
  omega
theorem VN {P:Program} {fr:Bool} {xI:Option Nat} {E:Env} {H:List Blk} {L:List (Nat×List AV)} {t:TypeId} {n:Nat} {parts:List (Nat×AV)} {jW:List (Nat×Value)} {K:AV→List (Nat×List AV)→List Blk→Prop} (an:SimH E H) (bB:SimL E L)
  (ab:az (fun a b=>a.1=b.1∧V2 E a.2 b.2) parts jW) (h:tK P fr xI t n parts L H K):
  ∃v u L' H' E',K v L' H'∧(Instr.buildSlice t n jW.toArray).run P E.w= .ok u E'.w∧Step E E'∧SimH E' H'∧SimL E' L'∧V3 E' v u∧E'.mL=E.mL:=by
 obtain⟨e,he,h⟩:=e5 h
 obtain⟨z,av,h⟩:=e5 h
 split at h
 case isFalse=>exact h.elim
 case isTrue hb=>
 obtain⟨cells,hf,h⟩:=e5 h
 split at h
 case isTrue hby=>
  have hby:cells.all iP=true:=by cases fr with
   | true=>cases hby
   | false=>exact hby
  have hv:v8 P t n parts (fun r=>K r L H):=by
   refine dF he (dF av ?_)
   rw[if_pos hb]
   refine dF hf ?_
   rw[if_pos hby];exact h
  obtain⟨r,u,E',hK,ai,U,ay⟩:=L6 an ab hv
  exact⟨r,u,L,H,E',hK,ai,U.step,U.simH an,U.simL an bB,ay,U.mL⟩
 case isFalse=>
 split at h
 case isFalse=>exact h.elim
 case isTrue hs=>
 obtain⟨gZ,hrel,fu,hlen⟩:=VQ ab he av hb.1 hb.2 hf
 have nC:(chunk z.length n cells).length=n:=by simp[chunk]
 have He:gZ.size=n*z.length:=by have:=hrel.1;simp at this;omega
 have N6:vN E z.length (chunk z.length n cells) gZ:=⟨fun i row ai=>Wj hlen ai,fun i j row a ai af=>by
   obtain⟨hi,wK,hc⟩:=Mf ai af
   obtain⟨u,hu,hv⟩:=hrel.get hc
   exact⟨u,by rw[Array.getElem?_toList] at hu;exact hu,hv⟩⟩
 cases xI with
 | none=>
  have zc:SimH E (H++[⟨0,z.length,chunk z.length n cells⟩]):=an.snoc rfl
  obtain⟨ra,q_⟩:=an.fresh H.length (Nat.le_refl _)
  obtain⟨E',ax,e2,dl,hL,hM,l7,BT,tM,_,hml⟩:=xg (H:=H++[⟨0,z.length,chunk z.length n cells⟩]) (H':=H++[⟨0,z.length,chunk z.length n cells⟩]) (b:=H.length) (cap:=n) (blk:=⟨0,z.length,chunk z.length n cells⟩) zc bB (mI.alloc E.w (.cells gZ e (0,0)))
   (by simp) (fun _ _=>rfl) (fun _=>rfl) (Nat.le_refl _) (.inl ⟨ra,q_.symm⟩) He (by rw[nC];exact Nat.le_refl _) N6
  exact⟨_,_,_,_,E',h,by rw[fu,ax],e2,dl,hL,.inr ⟨hM.symm,.inr ⟨E.w.heap.size,n,l7,by rw[Nat.zero_mul],Nat.le_refl _,(fun _=>rfl),by rw[tM];omega⟩⟩,hml⟩
 | some j=>
  obtain⟨blk,zi,hK⟩:=e5 (show cD H[j]? fun blk=>K (.ref j (blk.a6+1) 0 n true) L (H.set j ⟨blk.a6+1,z.length,chunk z.length n cells⟩) from h)
  have j_:=(List.getElem?_eq_some_iff.1 zi).1
  have Zc:=an.eG j blk zi
  obtain⟨E',ax,e2,dl,hL,hM,l7,BT,tM,_,hml⟩:=xg (H:=H) (H':=H.set j ⟨blk.a6+1,z.length,chunk z.length n cells⟩) (b:=j) (cap:=n) (blk:=⟨blk.a6+1,z.length,chunk z.length n cells⟩) an bB (mI.alloc E.w (.cells gZ e (0,0)))
   (by rw[List.getElem?_set];simp[j_]) (fun bH dV=>by rw[List.getElem?_set,if_neg (fun e=>dV e.symm)]) (fun _=>by simp) (by simp) (.inr (by show E.a6 j<blk.a6+1;omega)) He (by rw[nC];exact Nat.le_refl _) N6
  exact⟨_,_,_,_,E',hK,by rw[fu,ax],e2,dl,hL,.inr ⟨hM.symm,.inr ⟨E.w.heap.size,n,l7,by rw[Nat.zero_mul],Nat.le_refl _,(fun _=>rfl),by rw[tM];omega⟩⟩,hml⟩
def pw:AV→Bool
 | .aJ _ _ fr=>fr
 | .e4 _ _ | .c3 _ _ | .agg _ | .tup _ | .fn _ _=>false
 | _=>true
def jV (k:Nat):AV→AV
 | .ref b g o n f=> .ref (k+b) g o n f
 | .ptr b g r c=> .ptr (k+b) g r c
 | a=>a
def xo:AV→Bool
 | .agg l=>l.all pw
 | a=>pw a
def rY (k:Nat):AV→AV
 | .agg l=> .agg (l.map (jV k))
 | a=>jV k a
def xp:AV→Bool
 | .tup l=>l.all xo
 | a=>xo a
def pG (k:Nat):AV→AV
 | .tup l=> .tup (l.map (rY k))
 | a=>rY k a
def kB (k:Nat) (b:Blk):Blk:=⟨b.a6,b.sz,b.rows.map fun row=>row.map (jV k)⟩
def s5 (H:List Blk):Bool:=H.all fun b=>b.rows.all fun row=>row.all pw
def Env.join (E E1:Env) (n:Nat):Env:=
 {w:=E1.w,PA:=fun c=>E.PA c∨E1.PF c,PF:=fun c=>E.PF c∨E1.PF c
  m:=fun b=>if b<n then E.m b else E1.m (b - n),a6:=fun b=>if b<n then E.a6 b else E1.a6 (b - n)
  sz:=fun b=>if b<n then E.sz b else E1.sz (b - n),cp:=fun b=>if b<n then E.cp b else E1.cp (b - n),mL:=E.mL}
section
variable {E E1:Env} {n:Nat}
theorem abu {b:Nat} (h:b<n):(E.join E1 n).m b=E.m b∧(E.join E1 n).a6 b=E.a6 b∧(E.join E1 n).sz b=E.sz b∧(E.join E1 n).cp b=E.cp b:=⟨if_pos h,if_pos h,if_pos h,if_pos h⟩
theorem Iu (b:Nat):(E.join E1 n).m (n+b)=E1.m b∧(E.join E1 n).a6 (n+b)=E1.a6 b∧(E.join E1 n).sz (n+b)=E1.sz b∧(E.join E1 n).cp (n+b)=E1.cp b:=by
 have h: ¬n+b<n:=by omega
 have e:n+b - n=b:=by omega
 refine⟨?_,?_,?_,?_⟩<;>(unfold Env.join;simp only[if_neg h,e])
theorem Iv {E':Env} (hO:E'=E.join E1 n) {a:AV} {v:Value} (ar:pw a=true) (hv:bQ E1 a v):bQ E' (jV n a) v:=by
 have mf: ∀{a:AV} {v:Value},pw a=true→aL E1.w E1.PA E1.PF a v→aL E'.w E'.PA E'.PF a v:=by
  intro a v ar h
  subst hO
  cases h with
  | undef=>exact .undef _
  | int=>exact .int _ _
  | bool=>exact .bool _
  | str=>exact .str _
  | fD=>exact .fD
  | fT=>exact .fT
  | @aJ _ _ PB rows full fresh A cap sz vs eR eZ fB b3 dL hrel=>
   have hf:fresh=true:=ar
   refine .aJ (PB:=PB) (sz:=sz) (vs:=vs) (fun c hc=> ?_) eZ fB b3 dL hrel
   have:=eR c hc
   rw[if_pos hf] at this ⊢
   exact .inr this
  | c3=>cases ar
  | fn=>cases ar
 cases a with
 | ref b g off m full=>
  subst hO
  obtain⟨ed,aP,nJ,sM⟩:=Iu (E:=E) (E1:=E1) (n:=n) b
  show ey (E.join E1 n) (.ref (n+b) g off m full) v
  rcases(show ey E1 (.ref b g off m full) v from hv) with⟨h,k⟩ | ⟨h,k⟩
  ·exact .inl ⟨by rw[aP];exact h,k⟩
  ·refine .inr ⟨by rw[aP];exact h,?_⟩
   rw[ed,nJ,sM];exact k
 | ptr b g r c=>
  subst hO
  obtain⟨ed,aP,nJ,sM⟩:=Iu (E:=E) (E1:=E1) (n:=n) b
  show ey (E.join E1 n) (.ptr (n+b) g r c) v
  rcases(show ey E1 (.ptr b g r c) v from hv) with⟨h,k⟩ | ⟨h,k⟩
  ·exact .inl ⟨by rw[aP];exact h,k⟩
  ·refine .inr ⟨by rw[aP];exact h,?_⟩
   rw[ed,nJ];exact k
 | e4 t c=>cases ar
 | fn f c=>cases ar
 | agg l=>cases ar
 | tup l=>cases ar
 | c3 l c=>cases ar
 | undef=>exact aL.undef _
 | int k m=>exact mf (a:= .int k m) rfl hv
 | bool b=>exact mf (a:= .bool b) rfl hv
 | str s=>exact mf (a:= .str s) rfl hv
 | aJ rows full fr=>exact mf (a:= .aJ rows full fr) ar hv
 | fD=>exact mf (a:= .fD) rfl hv
 | fT=>exact mf (a:= .fT) rfl hv
theorem Px {E':Env} (hO:E'=E.join E1 n) {a:AV} {v:Value} (ar:xo a=true) (hv:V2 E1 a v):V2 E' (rY n a) v:=by
 by_cases hf: ∃l,a= .agg l
 ·obtain⟨l,rfl⟩:=hf
  obtain⟨vs,rfl,ab⟩:=hv
  refine⟨vs,rfl,by rw[List.length_map];exact ab.1,fun i x u hx hu=> ?_⟩
  rw[List.getElem?_map] at hx
  cases ao:l[i]? with
  | none=>simp[ao] at hx
  | some y=>
   simp[ao] at hx;subst hx
   exact Iv hO (List.all_eq_true.1 (show l.all pw=true from ar) y (List.mem_of_getElem? ao)) (ab.2 i y u ao hu)
 ·have ax:rY n a=jV n a:=by cases a<;>first | rfl | exact absurd ⟨_,rfl⟩ hf
  have e2:xo a=pw a:=by cases a<;>first | rfl | exact absurd ⟨_,rfl⟩ hf
  rw[n6 fun l e=>hf ⟨l,e⟩] at hv
  rw[ax]
  exact jD (Iv hO (e2▸ar) hv)
theorem abv {E':Env} (hO:E'=E.join E1 n) {a:AV} {v:Value} (ar:xp a=true) (hv:V3 E1 a v):V3 E' (pG n a) v:=by
 by_cases hf: ∃l,a= .tup l
 ·obtain⟨l,rfl⟩:=hf
  obtain⟨vs,rfl,ab⟩:=hv
  refine⟨vs,rfl,by rw[List.length_map];exact ab.1,fun i x u hx hu=> ?_⟩
  rw[List.getElem?_map] at hx
  cases ao:l[i]? with
  | none=>simp[ao] at hx
  | some y=>
   simp[ao] at hx;subst hx
   exact Px hO (List.all_eq_true.1 (show l.all xo=true from ar) y (List.mem_of_getElem? ao)) (ab.2 i y u ao hu)
 ·have ax:pG n a=rY n a:=by cases a<;>first | rfl | exact absurd ⟨_,rfl⟩ hf
  have e2:xp a=xo a:=by cases a<;>first | rfl | exact absurd ⟨_,rfl⟩ hf
  rw[n7 fun l e=>hf ⟨l,e⟩] at hv
  rw[ax]
  exact pR (Px hO (e2▸ar) hv)
end
theorem V7 {P:Program} {f:FuncId} {args dB:List AV} {L:List (Nat×List AV)} {H:List Blk} {E:Env} {vs:List Value} {Q:AV→List Blk→Prop} (an:SimH E H) (bB:SimL E L)
  (ap:az (V2 E) args vs) (hs:az (ew L H) args dB) (h:dg P f dB [] fun r eI=>xp r=true∧s5 eI=true∧Q r eI):
  Calls P f vs.toArray E.w fun e w'=> ∃r v eI E',e= .returned v∧Q r eI∧E'.w=w'∧Step E E'∧SimH E' (H++eI.map (kB H.length))∧SimL E' L∧V3 E' (pG H.length r) v∧E'.mL=E.mL:=by
 have tU:az (V2 E.frozen) dB vs:=⟨hs.1▸ap.1,fun i x u hx hu=>by
  have aN:i<args.length:=by have:=(List.getElem?_eq_some_iff.1 hx).1;have:=hs.1;omega
  have ao:=List.getElem?_eq_getElem aN
  exact S1 (Sub.refl L H) an bB (hs.2 i _ x ao hx) (ap.2 i _ u ao hu)⟩
 refine(h.2 E.frozen vs (fun _=>rfl) (M9 an) tU).mono ?_
 rintro e w' ⟨r,v,eI,E1,rfl,⟨ar,zy,ai⟩,rfl,ad,ez,hv,aQ⟩
 have zf: ∀c,E1.PF c→E.w.heap.size≤c∧c<E1.w.heap.size:=fun c hc=>⟨(aQ.e6 c hc).elim (fun h=>h.elim) id,ez.du c (ez.dm c hc)⟩
 have wz: ∀c,E1.fl c→E.w.heap.size≤c∧c<E1.w.heap.size:=fun c hc=>⟨(aQ.oj c hc).elim (fun⟨b,hb⟩=>by cases hb) id,ez.fm c hc⟩
 have me: ∀c,c<E.w.heap.size→E1.w.heap[c]?=E.w.heap[c]?:=fun c hc=>aQ.cM c hc (fun⟨b,hb⟩=>by cases hb) (fun⟨b,hb⟩=>by cases hb)
 have jK:=an.fm
 have jL:=an.gb
 generalize hO:E.join E1 H.length=E'
 have mg: ∀b,b<H.length→E'.m b=E.m b∧E'.a6 b=E.a6 b∧E'.sz b=E.sz b∧E'.cp b=E.cp b:=fun b hb=>hO▸abu hb
 have gV: ∀b,E'.m (H.length+b)=E1.m b∧E'.a6 (H.length+b)=E1.a6 b∧E'.sz (H.length+b)=E1.sz b∧E'.cp (H.length+b)=E1.cp b:=fun b=>hO▸Iu b
 have mh:E'.w=E1.w:=by rw[←hO];rfl
 have xa: ∀c,E'.PA c↔E.PA c∨E1.PF c:=fun c=>by rw[←hO];exact Iff.rfl
 have C1: ∀c,E'.PF c↔E.PF c∨E1.PF c:=fun c=>by rw[←hO];exact Iff.rfl
 have sN:E'.mL=E.mL:=by rw[←hO];rfl
 have split: ∀b,b<H.length∨ ∃k,b=H.length+k:=fun b=>by
  rcases Nat.lt_or_ge b H.length with h | h
  ·exact .inl h
  ·exact .inr ⟨b - H.length,by omega⟩
 have aef: ∀b x,E.m b=some x→b<H.length:=fun b x hb=>by
  rcases Nat.lt_or_ge b H.length with h | h
  ·exact h
  ·rw[(an.fresh b h).1] at hb;cases hb
 have pj: ∀c,E'.fl c→E.fl c∨E1.fl c:=fun c ⟨b,hb⟩=>by
  rcases split b with h | ⟨k,rfl⟩
  ·exact .inl ⟨b,by rw[←(mg b h).1];exact hb⟩
  ·exact .inr ⟨k,by rw[←(gV k).1];exact hb⟩
 have fe:Step E E':=
  {le:=⟨fun c hc=>(xa c).2 (.inl hc),fun c hc=>(C1 c).2 (.inl hc),fun c hc=>by rw[mh];exact me c (an.du c hc),fun c hc=>by rw[mh];exact me c (an.du c (an.dm c hc)),fun b=>by
     rcases split b with h | ⟨k,rfl⟩
     ·rw[(mg b h).2.1];exact Nat.le_refl _
     ·rw[(an.fresh (H.length+k) (by omega)).2];exact Nat.zero_le _,fun b x hx _=>by
     have h:=aef b x hx
     exact⟨by rw[(mg b h).1];exact hx,(mg b h).2.2.1,(mg b h).2.2.2⟩,fun t c h=>by rw[sN];exact h⟩
   os:=by rw[mh];exact aQ.os
   tape:=by rw[mh];exact aQ.tape
   output:=by rw[mh];exact aQ.output
   size:=by rw[mh];exact aQ.size
   cM:=fun c hc _ _=>by rw[mh];exact me c hc
   iB:=fun b c hb=>by
    rcases split b with h | ⟨k,rfl⟩
    ·exact .inl (by rw[←(mg b h).1];exact hb)
    ·exact .inr (wz c ⟨k,by rw[←(gV k).1];exact hb⟩).1
   iY:=fun c ⟨t,a_⟩=> .inl ⟨t,by rw[←sN];exact a_⟩
   fp:=fun c hc=>((xa c).1 hc).elim .inl fun h=> .inr (zf c h).1
   e6:=fun c hc=>((C1 c).1 hc).elim .inl fun h=> .inr (zf c h).1}
 have Gt: ∀b,b<H.length→(H++eI.map (kB H.length))[b]?=H[b]?:=fun b hb=>List.getElem?_append_left hb
 have Gs: ∀k,(H++eI.map (kB H.length))[H.length+k]?=(eI[k]?).map (kB H.length):=fun k=>by
  rw[List.getElem?_append_right (by omega),List.getElem?_map];congr 2;omega
 refine⟨r,v,eI,E',rfl,ai,mh,fe,?_,?_,abv hO.symm ar hv,sN⟩
 ·exact{
   heap:=fun b c hb=>by
    rcases split b with h | ⟨k,rfl⟩
    ·obtain⟨ed,aP,nJ,sM⟩:=mg b h
     rw[ed] at hb
     obtain⟨blk,aj,ty,q1,bU,q2,q3,q4,cP,cF⟩:=an.heap b c hb
     refine⟨blk,aj,ty,by rw[Gt b h];exact q1,by rw[nJ];exact bU,by rw[mh,me c (jK c ⟨b,hb⟩)];exact q2,by rw[nJ,sM];exact q3,by rw[sM];exact q4,by rw[nJ];exact cP,fun i j row a ai af=> ?_⟩
     obtain⟨u,hu,Hd⟩:=cF i j row a ai af
     exact⟨u,by rw[nJ];exact hu,Hd.le fe.le.bO⟩
    ·obtain⟨ed,aP,nJ,sM⟩:=gV k
     rw[ed] at hb
     obtain⟨blk,aj,ty,q1,bU,q2,q3,q4,cP,cF⟩:=ez.heap k c hb
     have Zs: ∀row∈blk.rows,∀a∈row,pw a=true:=fun row ai a ap=>
      List.all_eq_true.1 (List.all_eq_true.1 (List.all_eq_true.1 zy blk (List.mem_of_getElem? q1)) row ai) a ap
     refine⟨kB H.length blk,aj,ty,by rw[Gs k,q1];rfl,by rw[nJ];exact bU,by rw[mh];exact q2,by rw[nJ,sM];exact q3,by rw[sM];show(blk.rows.map _).length≤_;rw[List.length_map];exact q4,fun i row' ai=> ?_,fun i j row' gi ai af=> ?_⟩
     ·have ai:(blk.rows.map fun row=>row.map (jV H.length))[i]?=some row':=ai
      rw[List.getElem?_map] at ai
      cases U:blk.rows[i]? with
      | none=>simp[U] at ai
      | some row=>
       simp[U] at ai;subst ai
       rw[List.length_map,nJ];exact cP i row U
     ·have ai:(blk.rows.map fun row=>row.map (jV H.length))[i]?=some row':=ai
      rw[List.getElem?_map] at ai
      cases U:blk.rows[i]? with
      | none=>simp[U] at ai
      | some row=>
       simp[U] at ai;subst ai
       rw[List.getElem?_map] at af
       cases jN:row[j]? with
       | none=>simp[jN] at af
       | some a=>
        simp[jN] at af;subst af
        obtain⟨u,hu,Hd⟩:=cF i j row a U jN
        refine⟨u,by rw[nJ];exact hu,?_⟩
        have Nt:E'.bO=E.bO.join E1.bO H.length:=by rw[←hO];rfl
        exact Iv Nt (Zs row (List.mem_of_getElem? U) a (List.mem_of_getElem? jN)) Hd
   eG:=fun b blk hb=>by
    rcases split b with h | ⟨k,rfl⟩
    ·rw[Gt b h] at hb;rw[(mg b h).2.1];exact an.eG b blk hb
    ·rw[Gs k] at hb
     cases U:eI[k]? with
     | none=>simp[U] at hb
     | some y=>simp[U] at hb;subst hb;rw[(gV k).2.1];exact ez.eG k y U
   gO:=fun b hb=>by
    rcases split b with h | ⟨k,rfl⟩
    ·rw[(mg b h).1] at hb
     obtain⟨blk,q1,q2⟩:=an.gO b hb
     exact⟨blk,by rw[Gt b h];exact q1,by rw[(mg b h).2.2.1];exact q2⟩
    ·rw[(gV k).1] at hb
     obtain⟨blk,q1,q2⟩:=ez.gO k hb
     exact⟨kB H.length blk,by rw[Gs k,q1];rfl,by rw[(gV k).2.2.1];exact q2⟩
   fresh:=fun b hb=>by
    rw[List.length_append,List.length_map] at hb
    rcases split b with h | ⟨k,rfl⟩
    ·omega
    ·rw[(gV k).1,(gV k).2.1];exact ez.fresh k (by omega)
   gD:=fun b bH c h1 h2=>by
    rcases split b with h | ⟨k,rfl⟩<;>rcases split bH with h' | ⟨i_,rfl⟩
    ·rw[(mg b h).1] at h1;rw[(mg bH h').1] at h2;exact an.gD b bH c h1 h2
    ·rw[(mg b h).1] at h1;rw[(gV i_).1] at h2
     have:=jK c ⟨b,h1⟩;have:=(wz c ⟨i_,h2⟩).1;omega
    ·rw[(gV k).1] at h1;rw[(mg bH h').1] at h2
     have:=jK c ⟨bH,h2⟩;have:=(wz c ⟨k,h1⟩).1;omega
    ·rw[(gV k).1] at h1;rw[(gV i_).1] at h2;rw[ez.gD k i_ c h1 h2]
   iZ:=fun t hr c h1 h2=>by rw[sN] at h1 h2;exact an.iZ t hr c h1 h2
   gl:=fun b t c h1 h2=>by
    rw[sN] at h2
    rcases split b with h | ⟨k,rfl⟩
    ·rw[(mg b h).1] at h1;exact an.gl b t c h1 h2
    ·rw[(gV k).1] at h1
     have:=jL c ⟨t,h2⟩;have:=(wz c ⟨k,h1⟩).1;omega
   hl:=fun c hc hi=>by
    rcases(xa c).1 hc with h | h<;>rcases pj c hi with h' | h'
    ·exact an.hl c h h'
    ·have:=an.du c h;have:=(wz c h').1;omega
    ·have:=jK c h';have:=(zf c h).1;omega
    ·exact ez.hl c (ez.dm c h) h'
   hR:=fun c hc ⟨t,a_⟩=>by
    rw[sN] at a_
    rcases(xa c).1 hc with h | h
    ·exact an.hR c h ⟨t,a_⟩
    ·have:=jL c ⟨t,a_⟩;have:=(zf c h).1;omega
   dm:=fun c hc=>(xa c).2 (((C1 c).1 hc).elim (fun h=> .inl (an.dm c h)) .inr)
   fg:=fun c hc=>by
    rw[mh]
    rcases(C1 c).1 hc with h | h
    ·exact(an.fg c h).same (me c (an.du c (an.dm c h)))
    ·exact ez.fg c h
   du:=fun c hc=>by
    rw[mh]
    rcases(xa c).1 hc with h | h
    ·exact Nat.lt_of_lt_of_le (an.du c h) aQ.size
    ·exact(zf c h).2
   fm:=fun c hc=>by
    rw[mh]
    rcases pj c hc with h | h
    ·exact Nat.lt_of_lt_of_le (jK c h) aQ.size
    ·exact(wz c h).2
   gb:=fun c ⟨t,a_⟩=>by
    rw[sN] at a_;rw[mh]
    exact Nat.lt_of_lt_of_le (jL c ⟨t,a_⟩) aQ.size}
 ·intro t c hm
  rw[sN] at hm
  obtain⟨cells,aj,ty,q1,q2,q3⟩:=bB t c hm
  exact⟨cells,aj,ty,q1,by rw[mh,me c (jL c ⟨t,hm⟩)];exact q2,q3.mono fun _ _ k=>k.le fe.le.bO⟩
theorem V4 {P:Program} {f:FuncId} {args:List AV} {L:List (Nat×List AV)} {H:List Blk} {E:Env} {vs:List Value} {Q:AV→List Blk→Prop} (an:SimH E H) (bB:SimL E L)
  (ap:az (V2 E) args vs) (ad:args.all jR=true) (h:dg P f args H fun r H'=>xi r=true∧Q r H'):
  Calls P f vs.toArray E.w fun e w'=> ∃r v H' E',e= .returned v∧Q r H'∧E'.w=w'∧Step E E'∧SimH E' H'∧SimL E' L∧V3 E' r v∧E'.mL=E.mL:=by
 have tU:az (V2 E.bO) args vs:=⟨ap.1,fun i a v h1 h2=>(ap.2 i a v h1 h2).bO (List.all_eq_true.1 ad a (List.mem_of_getElem? h1))⟩
 refine(h.2 E.bO vs (fun _=>rfl) an.bO tU).mono ?_
 rintro e w' ⟨r,v,H',E1,rfl,⟨Zp,ai⟩,rfl,CE,ez,hv,aQ⟩
 let E':Env:={E1 with mL:=E.mL}
 have Nt:E'.bO=E1.bO:=rfl
 have jL:=an.gb
 have oj: ∀c,E1.fl c→E.fl c∨E.w.heap.size≤c:=aQ.oj
 have Zg: ∀c,E.kc c→E1.w.heap[c]?=E.w.heap[c]?:=fun c hc=>aQ.cM c (jL c hc) (fun⟨b,hb⟩=>by
  obtain⟨t,a_⟩:=hc
  exact an.gl b t c hb a_) (fun⟨b,hb⟩=>by cases hb)
 have hle:E1.bO.gh E':=Env.Dj E'
 have fe:Step E E':=
  {le:=⟨aQ.le.fp,aQ.le.e6,aQ.le.tr,aQ.le.wf,aQ.le.a6,aQ.le.m,fun _ _ h=>h⟩
   os:=aQ.os,tape:=aQ.tape,output:=aQ.output,size:=aQ.size
   cM:=fun c hc h1 h2=>aQ.cM c hc h1 (fun⟨b,hb⟩=>by cases hb)
   iB:=aQ.iB
   iY:=fun c h=> .inl h
   fp:=aQ.fp
   e6:=aQ.e6}
 refine⟨r,v,H',E',rfl,ai,rfl,fe,?_,?_,?_,rfl⟩
 ·exact{ez with
   iZ:=an.iZ
   gl:=fun b t c h1 h2=>by
    rcases oj c ⟨b,h1⟩ with⟨bH,h⟩ | h
    ·exact an.gl bH t c h h2
    ·have:=jL c ⟨t,h2⟩;omega
   hR:=fun c hc ⟨t,a_⟩=>by
    rcases aQ.fp c hc with h | h
    ·exact an.hR c h ⟨t,a_⟩
    ·have h:E.w.heap.size≤c:=h
     have:=jL c ⟨t,a_⟩;omega
   gb:=fun c hc=>Nat.lt_of_lt_of_le (jL c hc) aQ.size}
 ·intro t c hm
  obtain⟨cells,aj,ty,q1,q2,q3⟩:=bB t c hm
  exact⟨cells,aj,ty,q1,by show E1.w.heap[c]?=_;rw[Zg c ⟨t,hm⟩];exact q2,q3.mono fun _ _ k=>k.le fe.le.bO⟩
 ·exact(hv.bO Zp).le hle
end Go.Proofs.YtejmihecgodhnaaGreat.Fw
