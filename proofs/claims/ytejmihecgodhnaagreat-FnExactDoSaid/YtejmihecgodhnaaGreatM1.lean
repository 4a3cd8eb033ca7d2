/- The framework, part A: abstract values, how they stand for Go's values in a world, and what stays as it is when the world grows. -/
import Derived.WalkKit
import Derived.KernelRfl
import Derived.Orders
import Derived.Laws.StructEq
import Derived.ChangeArms
import Derived.ChangeShapes
import Derived.SizedLaws
import Derived.Below
import Derived.JoinedOf
import Derived.Test.YtejmihecgodhnaaGreatProg
import Derived.Lib.Hide
import Derived.WalkSpells
import Derived.Deep.RegionHeld3
import Derived.Deep.CutRange
set_option linter.unusedVariables false
namespace Go.Proofs.YtejmihecgodhnaaGreat.Fw
open Go
inductive AV where
 | undef
 | int (k:IntKind) (n:Int)
 | bool (b:Bool)
 | str (s:ByteArray)
 | aZ (rows:List (List AV)) (full fresh:Bool)
 | ref (b g off n:Nat) (full:Bool)
 | ptr (b g row col:Nat)
 | fS (t col:Nat)
 | dz (cells:List AV) (col:Nat)
 | gR
 | ht
 | agg (cells:List AV)
 | tup (vs:List AV)
 | fn (f:FuncId) (caps:List AV)
 deriving Inhabited
structure Blk where
 bm:Nat
 sz:Nat
 rows:List (List AV)
 deriving Inhabited
structure St where
 T:List AV
 L:List (Nat×List AV)
 H:List Blk
def ak {α β:Type} (R:α→β→Prop) (l:List α) (m:List β):Prop:=
 l.length=m.length∧ ∀(i:Nat) (a:α) (b:β),l[i]?=some a→m[i]?=some b→R a b
theorem ak.nil {α β:Type} {R:α→β→Prop}:ak R [] []:=⟨rfl,fun i a b h=>by simp at h⟩
theorem ak.cons {α β:Type} {R:α→β→Prop} {a:α} {b:β} {l:List α} {m:List β} (h:R a b) (k:ak R l m):ak R (a::l) (b::m):=
 ⟨by simp[k.1],fun i x y hx aX=>by
  cases i with
  | zero=>simp at hx aX;subst hx;subst aX;exact h
  | succ i=>exact k.2 i x y (by simpa using hx) (by simpa using aX)⟩
theorem ak.head {α β:Type} {R:α→β→Prop} {a:α} {b:β} {l:List α} {m:List β} (h:ak R (a::l) (b::m)):R a b:=h.2 0 a b rfl rfl
theorem ak.tail {α β:Type} {R:α→β→Prop} {a:α} {b:β} {l:List α} {m:List β} (h:ak R (a::l) (b::m)):ak R l m:=
 ⟨by simpa using h.1,fun i x y hx aX=>h.2 (i+1) x y (by simpa using hx) (by simpa using aX)⟩
theorem ak.mono {α β:Type} {R Cz:α→β→Prop} {l:List α} {m:List β} (h:ak R l m) (aj: ∀a b,R a b→Cz a b):ak Cz l m:=
 ⟨h.1,fun i a b x y=>aj _ _ (h.2 i a b x y)⟩
theorem ak.get {α β:Type} {R:α→β→Prop} {l:List α} {m:List β} (h:ak R l m) {i:Nat} {a:α} (ar:l[i]?=some a): ∃b,m[i]?=some b∧R a b:=by
 have hi:i<l.length:=(List.getElem?_eq_some_iff.1 ar).1
 have hm:i<m.length:=h.1▸hi
 exact⟨m[i],List.getElem?_eq_getElem hm,h.2 i a _ ar (List.getElem?_eq_getElem hm)⟩
theorem ak.n8 {α β:Type} {R:α→β→Prop} {m:List β} (h:ak R [] m):m=[]:=by
 have:=h.1;exact List.eq_nil_of_length_eq_zero (by simpa using this.symm)
theorem ak.cons_inv {α β:Type} {R:α→β→Prop} {a:α} {l:List α} {m:List β} (h:ak R (a::l) m): ∃b fK,m=b::fK∧R a b∧ak R l fK:=by
 cases m with
 | nil=>have:=h.1;simp at this
 | cons b fK=>exact⟨b,fK,rfl,h.head,h.tail⟩
theorem ak.append {α β:Type} {R:α→β→Prop} {l fQ:List α} {m fK:List β} (h:ak R l m) (k:ak R fQ fK):ak R (l++fQ) (m++fK):=by
 refine⟨by simp[h.1,k.1],fun i a b ar hb=> ?_⟩
 rcases Nat.lt_or_ge i l.length with hi | hi
 ·rw[List.getElem?_append_left hi] at ar
  rw[List.getElem?_append_left (h.1▸hi)] at hb
  exact h.2 i a b ar hb
 ·rw[List.getElem?_append_right hi] at ar
  rw[List.getElem?_append_right (h.1▸hi),←h.1] at hb
  exact k.2 _ a b ar hb
theorem ak.set {α β:Type} {R:α→β→Prop} {l:List α} {m:List β} (h:ak R l m) (i:Nat) {a:α} {b:β} (aj:R a b):ak R (l.set i a) (m.set i b):=by
 refine⟨by simp[h.1],fun j x y hx aX=> ?_⟩
 by_cases ah:i=j
 ·subst ah
  rw[List.getElem?_set_self'] at hx aX
  cases aw:l[i]? with
  | none=>simp[aw] at hx
  | some a0=>
   cases hm:m[i]? with
   | none=>simp[hm] at aX
   | some b0=>simp[aw] at hx;simp[hm] at aX;subst hx;subst aX;exact aj
 ·rw[List.getElem?_set_ne ah] at hx aX
  exact h.2 j x y hx aX
inductive aP (w:World):(Nat→Prop)→(Nat→Prop)→AV→Value→Prop where
 | undef {PA PF:Nat→Prop} (v:Value):aP w PA PF .undef v
 | int {PA PF:Nat→Prop} (k:IntKind) (n:Int):aP w PA PF (.int k n) (.int k n)
 | bool {PA PF:Nat→Prop} (b:Bool):aP w PA PF (.bool b) (.bool b)
 | str {PA PF:Nat→Prop} (s:ByteArray):aP w PA PF (.str s) (.string s)
 | aZ {PA PF PB:Nat→Prop} {rows:List (List AV)} {full fresh:Bool} {A:Option Addr} {cap sz:Nat} {vs:Nat→Nat→Value}
   (fH: ∀c,PB c→if fresh=true then PF c else PA c)
   (fw:rows.length≤cap∧rows.length≤4611686018427387904) (gP:full=true→cap=rows.length)
   (cm: ∀(i:Nat) (row:List AV),rows[i]?=some row→row.length=sz)
   (eH:0<rows.length→ ∃c o,A=some ⟨c,o,none⟩∧PB c∧ ∀i j,i<rows.length→j<sz→w.cell? ⟨c,o+(i*sz+j),none⟩=some (vs i j))
   (hrel: ∀(i j:Nat) (row:List AV) (a:AV),rows[i]?=some row→row[j]?=some a→aP w PB (fun _=>False) a (vs i j)):
   aP w PA PF (.aZ rows full fresh) (.slice A rows.length cap)
 | dz {PA PF:Nat→Prop} {cells:List AV} {col c o:Nat} {vs:Nat→Value} (hc:PA c)
   (eH: ∀j,j<cells.length→w.cell? ⟨c,o+j,none⟩=some (vs j))
   (hrel: ∀(j:Nat) (a:AV),cells[j]?=some a→aP w PA (fun _=>False) a (vs j)):aP w PA PF (.dz cells col) (.pointer (some ⟨c,o+col,none⟩))
 | gR {PA PF:Nat→Prop}:aP w PA PF .gR (.pointer none)
 | ht {PA PF:Nat→Prop}:aP w PA PF .ht .nilIface
 | fn {PA PF:Nat→Prop} {f:FuncId} {caps:List AV} {vs:List Value} (aw:caps.length=vs.length)
   (hrel: ∀(i:Nat) (a:AV) (v:Value),caps[i]?=some a→vs[i]?=some v→aP w PA (fun _=>False) a v):aP w PA PF (.fn f caps) (.func (.func f) #[] vs.toArray)
theorem Rr {w w':World} {c o:Nat} (h:w'.heap[c]?=w.heap[c]?):w'.cell? ⟨c,o,none⟩=w.cell? ⟨c,o,none⟩:=by
 simp[World.cell?,h]
theorem aP.mono {w w':World} {PA PF:Nat→Prop} {a:AV} {v:Value} (h:aP w PA PF a v):
  ∀{Cx Cy:Nat→Prop},(∀c,PA c→w'.heap[c]?=w.heap[c]?)→(∀c,PF c→w'.heap[c]?=w.heap[c]?)→(∀c,PA c→Cx c)→(∀c,PF c→Cy c)→aP w' Cx Cy a v:=by
 induction h with
 | undef v=>intros;exact .undef v
 | int k n=>intros;exact .int k n
 | bool b=>intros;exact .bool b
 | str s=>intros;exact .str s
 | @aZ PA PF PB rows full fresh A cap sz vs fH fw gP cm eH hrel bz=>
  intro Cx Cy hw LD ar hf
  have SM: ∀c,PB c→w'.heap[c]?=w.heap[c]?:=fun c hc=>by
   have:=fH c hc
   split at this
   ·exact LD c this
   ·exact hw c this
  refine .aZ (PB:=PB) (sz:=sz) (vs:=vs) (fun c hc=> ?_) fw gP cm (fun af=> ?_) (fun i j row a aj ah=> ?_)
  ·have:=fH c hc
   split
   ·rename_i h;rw[if_pos h] at this;exact hf c this
   ·rename_i h;rw[if_neg h] at this;exact ar c this
  ·obtain⟨c,o,e,hc,eG⟩:=eH af
   exact⟨c,o,e,hc,fun i j hi ah=>by rw[Rr (SM c hc)];exact eG i j hi ah⟩
  ·exact bz i j row a aj ah SM (fun c hc=>hc.elim) (fun c hc=>hc) (fun c hc=>hc)
 | @dz PA PF cells col c o vs hc eH hrel bz=>
  intro Cx Cy hw LD ar hf
  refine .dz (ar c hc) (vs:=vs) (fun j ah=> ?_) (fun j a ah=>bz j a ah hw (fun c hc=>hc.elim) ar (fun c hc=>hc))
  rw[Rr (hw c hc)];exact eH j ah
 | gR=>intros;exact .gR
 | ht=>intros;exact .ht
 | fn aw hrel bz=>
  intro Cx Cy hw LD ar hf
  exact .fn aw (fun i a v h1 h2=>bz i a v h1 h2 hw (fun c hc=>hc.elim) ar (fun c hc=>hc))
theorem aP.one {w:World} {PA PF:Nat→Prop} {a:AV} {v:Value} (h:aP w PA PF a v) (hu:a≠ .undef):v.oneCell'=true:=by
 cases h<;>first | rfl | exact absurd rfl hu
structure Env where
 w:World
 PA:Nat→Prop
 PF:Nat→Prop
 m:Nat→Option (Option Nat)
 bm:Nat→Nat
 sz:Nat→Nat
 cp:Nat→Nat
 mL:Nat→Option Nat
def fu (E:Env):AV→Value→Prop
 | .ref b g off n full,v=>(g<E.bm b∧ ∃A cap,v= .slice A n cap)∨(g=E.bm b∧((E.m b=some none∧off=0∧n=0∧ ∃A,v= .slice A 0 0)∨
   ∃c cap,E.m b=some (some c)∧v= .slice (some ⟨c,off*E.sz b,none⟩) n cap∧n≤cap∧(full=true→cap=n)∧off+cap≤E.cp b))
 | .ptr b g r c,v=>(g<E.bm b∧ ∃bl o,v= .pointer (some ⟨bl,o,none⟩))∨(g=E.bm b∧ ∃bl,E.m b=some (some bl)∧v= .pointer (some ⟨bl,r*E.sz b+c,none⟩))
 | .fS t c,v=> ∃bl,E.mL t=some bl∧v= .pointer (some ⟨bl,c,none⟩)
 | a,v=>aP E.w E.PA E.PF a v
def b4 (E:Env):AV→Value→Prop
 | .fn f caps,v=> ∃vs:List Value,v= .func (.func f) #[] vs.toArray∧ak (fu E) caps vs
 | a,v=>fu E a v
def V2 (E:Env):AV→Value→Prop
 | .agg cells,v=> ∃vs:List Value,v= .agg vs.toArray∧ak (b4 E) cells vs
 | a,v=>b4 E a v
def V3 (E:Env):AV→Value→Prop
 | .tup l,v=> ∃vs:List Value,v= .tuple vs.toArray∧ak (V2 E) l vs
 | a,v=>V2 E a v
def Plain (w:World) (c:Nat):Prop:= ∃al ty,w.heap[c]?=some (.cells al ty (0,0))
theorem Plain.same {w w':World} {c:Nat} (h:Plain w c) (e:w'.heap[c]?=w.heap[c]?):Plain w' c:=by
 obtain⟨al,ty,h⟩:=h;exact⟨al,ty,e.trans h⟩
structure Env.hJ (E E':Env):Prop where
 gF: ∀c,E.PA c→E'.PA c
 fU: ∀c,E.PF c→E'.PF c
 wV: ∀c,E.PA c→E'.w.heap[c]?=E.w.heap[c]?
 wf: ∀c,E.PF c→E'.w.heap[c]?=E.w.heap[c]?
 bm: ∀b,E.bm b≤E'.bm b
 m: ∀b x,E.m b=some x→E'.bm b=E.bm b→E'.m b=some x∧E'.sz b=E.sz b∧E'.cp b=E.cp b
 mL: ∀t c,E.mL t=some c→E'.mL t=some c
theorem Env.hJ.refl (E:Env):E.hJ E:=⟨fun _ h=>h,fun _ h=>h,fun _ _=>rfl,fun _ _=>rfl,fun _=>Nat.le_refl _,fun _ _ h _=>⟨h,rfl,rfl⟩,fun _ _ h=>h⟩
theorem Env.hJ.trans {A B C:Env} (h:A.hJ B) (k:B.hJ C):A.hJ C:=
 ⟨fun c x=>k.gF c (h.gF c x),fun c x=>k.fU c (h.fU c x),fun c x=>(k.wV c (h.gF c x)).trans (h.wV c x),fun c x=>(k.wf c (h.fU c x)).trans (h.wf c x),
  fun b=>Nat.le_trans (h.bm b) (k.bm b),fun b x hx aE=>by
   have h1:B.bm b=A.bm b:=Nat.le_antisymm (aE▸k.bm b) (h.bm b)
   have h2:C.bm b=B.bm b:=aE.trans h1.symm
   obtain⟨a6,s1,bk⟩:=h.m b x hx h1
   obtain⟨bx,s2,bg⟩:=k.m b x a6 h2
   exact⟨bx,s2.trans s1,bg.trans bk⟩,
  fun t c x=>k.mL t c (h.mL t c x)⟩
theorem fu.le {E E':Env} (h:E.hJ E') {a:AV} {v:Value} (hv:fu E a v):fu E' a v:=by
 have oD: ∀a v,aP E.w E.PA E.PF a v→aP E'.w E'.PA E'.PF a v:=fun a v k=>k.mono h.wV h.wf h.gF h.fU
 cases a with
 | ref b g off n full=>
  rcases hv with⟨hv,h1⟩ | ⟨aE,hv⟩
  ·exact .inl ⟨Nat.lt_of_lt_of_le hv (h.bm b),h1⟩
  ·rcases Nat.lt_or_ge (E.bm b) (E'.bm b) with aM | gY
   ·refine .inl ⟨aE▸aM,?_⟩
    rcases hv with⟨hm,an,rfl,A,rfl⟩ | ⟨c,cap,hm,rfl,h1,h2,aD⟩<;>exact⟨_,_,rfl⟩
   ·have he:E'.bm b=E.bm b:=Nat.le_antisymm gY (h.bm b)
    refine .inr ⟨by rw[he];exact aE,?_⟩
    rcases hv with⟨hm,an,af,A,cu⟩ | ⟨c,cap,hm,e,h1,h2,aD⟩
    ·exact .inl ⟨(h.m b _ hm he).1,an,af,A,cu⟩
    ·obtain⟨a6,s1,bk⟩:=h.m b _ hm he
     exact .inr ⟨c,cap,a6,by rw[s1];exact e,h1,h2,by rw[bk];exact aD⟩
 | ptr b g r c=>
  rcases hv with⟨hv,h1⟩ | ⟨aE,bl,hm,e⟩
  ·exact .inl ⟨Nat.lt_of_lt_of_le hv (h.bm b),h1⟩
  ·rcases Nat.lt_or_ge (E.bm b) (E'.bm b) with aM | gY
   ·exact .inl ⟨aE▸aM,_,_,e⟩
   ·have he:E'.bm b=E.bm b:=Nat.le_antisymm gY (h.bm b)
    obtain⟨a6,s1,bk⟩:=h.m b _ hm he
    exact .inr ⟨by rw[he];exact aE,bl,a6,by rw[s1];exact e⟩
 | fS t c=>
  obtain⟨bl,hm,e⟩:=hv
  exact⟨bl,h.mL _ _ hm,e⟩
 | _=>exact oD _ _ hv
theorem sv {E:Env} {a:AV} {v:Value} (h: ∀f caps,a≠ .fn f caps):b4 E a v=fu E a v:=by
 cases a<;>first | rfl | exact absurd rfl (h _ _)
theorem qG {E:Env} {a:AV} {v:Value} (h: ∀l,a≠ .agg l):V2 E a v=b4 E a v:=by
 cases a<;>first | rfl | exact absurd rfl (h _)
theorem qH {E:Env} {a:AV} {v:Value} (h: ∀l,a≠ .tup l):V3 E a v=V2 E a v:=by
 cases a<;>first | rfl | exact absurd rfl (h _)
theorem b4.le {E E':Env} (h:E.hJ E') {a:AV} {v:Value} (hv:b4 E a v):b4 E' a v:=by
 by_cases hf: ∃f caps,a= .fn f caps
 ·obtain⟨f,caps,rfl⟩:=hf
  obtain⟨vs,e,ab⟩:=hv
  exact⟨vs,e,ab.mono fun _ _ k=>k.le h⟩
 ·rw[sv fun f c e=>hf ⟨f,c,e⟩] at hv ⊢
  exact hv.le h
theorem V2.le {E E':Env} (h:E.hJ E') {a:AV} {v:Value} (hv:V2 E a v):V2 E' a v:=by
 by_cases hf: ∃l,a= .agg l
 ·obtain⟨l,rfl⟩:=hf
  obtain⟨vs,e,ab⟩:=hv
  exact⟨vs,e,ab.mono fun _ _ k=>k.le h⟩
 ·rw[qG fun l e=>hf ⟨l,e⟩] at hv ⊢
  exact hv.le h
theorem V3.le {E E':Env} (h:E.hJ E') {a:AV} {v:Value} (hv:V3 E a v):V3 E' a v:=by
 by_cases hf: ∃l,a= .tup l
 ·obtain⟨l,rfl⟩:=hf
  obtain⟨vs,e,ab⟩:=hv
  exact⟨vs,e,ab.mono fun _ _ k=>k.le h⟩
 ·rw[qH fun l e=>hf ⟨l,e⟩] at hv ⊢
  exact hv.le h
theorem aP.v0 {E:Env} {a:AV} {v:Value} (h:aP E.w E.PA E.PF a v):fu E a v:=by
 cases a<;>first | exact h | cases h
theorem aP.v1 {E:Env} {a:AV} {v:Value} (h:aP E.w E.PA E.PF a v):b4 E a v:=by
 by_cases hf: ∃f caps,a= .fn f caps
 ·obtain⟨f,caps,rfl⟩:=hf
  cases h with
  | fn aw hrel=>exact⟨_,rfl,aw,fun i a v h1 h2=>((hrel i a v h1 h2).mono (fun _ _=>rfl) (fun _ h=>h.elim) (fun _ h=>h) (fun _ h=>h.elim)).v0⟩
 ·rw[sv fun f c e=>hf ⟨f,c,e⟩]
  exact h.v0
theorem b4.undef (E:Env) (v:Value):b4 E .undef v:=aP.undef v
theorem V3.undef (E:Env) (v:Value):V3 E .undef v:=aP.undef v
def AV.acp:AV→Bool
 | .undef | .agg _ | .tup _=>false
 | _=>true
theorem b4.one {E:Env} {a:AV} {v:Value} (h:b4 E a v) (hc:a.acp=true):True:=trivial
def eR:List (Nat×List AV)→Nat→Option (List AV)
 | [],_=>none
 | (k,c)::l,t=>if t=k then some c else eR l t
def mw:List (Nat×List AV)→Nat→List AV→List (Nat×List AV)
 | [],_,_=>[]
 | (k,c)::l,t,d=>if t=k then(k,d)::l else(k,c)::mw l t d
def Env.fZ (E:Env) (c:Nat):Prop:= ∃b,E.m b=some (some c)
def Env.l1 (E:Env) (c:Nat):Prop:= ∃t,E.mL t=some c
def Env.bQ (E:Env):Env:={E with mL:=fun _=>none}
theorem Env.Hq (E:Env):E.bQ.hJ E:=⟨fun _ h=>h,fun _ h=>h,fun _ _=>rfl,fun _ _=>rfl,fun _=>Nat.le_refl _,fun _ _ h _=>⟨h,rfl,rfl⟩,fun _ _ h=>by cases h⟩
theorem Env.hJ.bQ {E E':Env} (h:E.hJ E'):E.bQ.hJ E'.bQ:=⟨h.gF,h.fU,h.wV,h.wf,h.bm,h.m,fun _ _ h=>by cases h⟩
def zn (E:Env) (sz:Nat) (rows:List (List AV)) (al:Array Value):Prop:=
 (∀(i:Nat) (row:List AV),rows[i]?=some row→row.length=sz)∧
 ∀(i j:Nat) (row:List AV) (a:AV),rows[i]?=some row→row[j]?=some a→ ∃u,al[i*sz+j]?=some u∧b4 E.bQ a u
structure SimH (E:Env) (H:List Blk):Prop where
 heap: ∀b c,E.m b=some (some c)→ ∃blk al ty,H[b]?=some blk∧E.sz b=blk.sz∧E.w.heap[c]?=some (.cells al ty (0,0))∧al.size=E.cp b*E.sz b∧blk.rows.length≤E.cp b∧zn E (E.sz b) blk.rows al
 fc: ∀(b:Nat) (blk:Blk),H[b]?=some blk→E.bm b=blk.bm
 ii: ∀b,E.m b=some none→ ∃blk,H[b]?=some blk∧E.sz b=blk.sz
 fresh: ∀b,H.length≤b→E.m b=none∧E.bm b=0
 hr: ∀b bU c,E.m b=some (some c)→E.m bU=some (some c)→b=bU
 kG: ∀t iU c,E.mL t=some c→E.mL iU=some c→t=iU
 hN: ∀b t c,E.m b=some (some c)→E.mL t=some c→False
 iM: ∀c,E.PA c→ ¬E.fZ c
 jr: ∀c,E.PA c→ ¬E.l1 c
 dU: ∀c,E.PF c→E.PA c
 ga: ∀c,E.PF c→Plain E.w c
 ea: ∀c,E.PA c→c<E.w.heap.size
 gD: ∀c,E.fZ c→c<E.w.heap.size
 hG: ∀c,E.l1 c→c<E.w.heap.size
def SimL (E:Env) (L:List (Nat×List AV)):Prop:=
 ∀t c,E.mL t=some c→ ∃cells al ty,eR L t=some cells∧E.w.heap[c]?=some (.cells al ty (0,0))∧ak (b4 E.bQ) cells al.toList
structure w6 (E:Env) (ap:St) (tmps:Array Value):Prop where
 h:SimH E ap.H
 l:SimL E ap.L
 jt: ∀t,V3 E (ap.T.getD t .undef) (tmps.getD t undef)
 size:ap.T.length=tmps.size
structure Step (E E':Env):Prop where
 le:E.hJ E'
 os:E'.w.os=E.w.os
 tape:E'.w.tape=E.w.tape
 output:E'.w.output=E.w.output
 size:E.w.heap.size≤E'.w.heap.size
 cZ: ∀c,c<E.w.heap.size→ ¬E.fZ c→ ¬E.l1 c→E'.w.heap[c]?=E.w.heap[c]?
 kd: ∀b c,E'.m b=some (some c)→E.m b=some (some c)∨E.w.heap.size≤c
 kF: ∀c,E'.l1 c→E.l1 c∨E.w.heap.size≤c
 gF: ∀c,E'.PA c→E.PA c∨E.w.heap.size≤c
 fU: ∀c,E'.PF c→E.PF c∨E.w.heap.size≤c
theorem Step.qU {E E':Env} (h:Step E E'): ∀c,E'.fZ c→E.fZ c∨E.w.heap.size≤c:=fun c ⟨b,hb⟩=>(h.kd b c hb).elim (fun h=> .inl ⟨b,h⟩) .inr
theorem Step.refl (E:Env):Step E E:=⟨.refl E,rfl,rfl,rfl,Nat.le_refl _,fun _ _ _ _=>rfl,fun _ _ h=> .inl h,fun _ h=> .inl h,fun _ h=> .inl h,fun _ h=> .inl h⟩
theorem Step.trans {A B C:Env} (h:Step A B) (k:Step B C):Step A C where
 le:=h.le.trans k.le
 os:=k.os.trans h.os
 tape:=k.tape.trans h.tape
 output:=k.output.trans h.output
 size:=Nat.le_trans h.size k.size
 cZ:=fun c hc h1 h2=>by
  rw[k.cZ c (Nat.lt_of_lt_of_le hc h.size) (fun x=>(h.qU c x).elim h1 (fun y=>absurd hc (Nat.not_lt.2 y))) (fun x=>(h.kF c x).elim h2 (fun y=>absurd hc (Nat.not_lt.2 y)))]
  exact h.cZ c hc h1 h2
 kd:=fun b c x=>(k.kd b c x).elim (fun y=>h.kd b c y) (fun y=> .inr (Nat.le_trans h.size y))
 kF:=fun c x=>(k.kF c x).elim (fun y=>h.kF c y) (fun y=> .inr (Nat.le_trans h.size y))
 gF:=fun c x=>(k.gF c x).elim (fun y=>h.gF c y) (fun y=> .inr (Nat.le_trans h.size y))
 fU:=fun c x=>(k.fU c x).elim (fun y=>h.fU c y) (fun y=> .inr (Nat.le_trans h.size y))
class cH where
 n:Nat
structure Good [jR:cH] (cr E:Env):Prop where
 D1: ∀b,jR.n≤b→cr.m b=none∧cr.bm b=0
 bQ: ∀t,cr.mL t=none
 le:cr.hJ E
 os:E.w.os=cr.w.os
 tape:E.w.tape=cr.w.tape
 output:E.w.output=cr.w.output
 size:cr.w.heap.size≤E.w.heap.size
 cZ: ∀c,c<cr.w.heap.size→ ¬cr.fZ c→E.w.heap[c]?=cr.w.heap[c]?
 kd: ∀b c,E.m b=some (some c)→cr.m b=some (some c)∨cr.w.heap.size≤c
 kF: ∀c,E.l1 c→cr.w.heap.size≤c
 gF: ∀c,E.PA c→cr.PA c∨cr.w.heap.size≤c
 fU: ∀c,E.PF c→cr.PF c∨cr.w.heap.size≤c
section
variable [jR:cH]
theorem Good.qU {cr E:Env} (h:Good cr E): ∀c,E.fZ c→cr.fZ c∨cr.w.heap.size≤c:=fun c ⟨b,hb⟩=>(h.kd b c hb).elim (fun h=> .inl ⟨b,h⟩) .inr
theorem Good.refl {E:Env} (hu: ∀b,jR.n≤b→E.m b=none∧E.bm b=0) (h: ∀t,E.mL t=none):Good E E:=
 ⟨hu,h,.refl E,rfl,rfl,rfl,Nat.le_refl _,fun _ _ _=>rfl,fun _ _ x=> .inl x,(fun c ⟨t,x⟩=>by rw[h t] at x;cases x),fun _ x=> .inl x,fun _ x=> .inl x⟩
theorem Good.step {cr E E':Env} (h:Good cr E) (k:Step E E'):Good cr E' where
 D1:=h.D1
 bQ:=h.bQ
 le:=h.le.trans k.le
 os:=k.os.trans h.os
 tape:=k.tape.trans h.tape
 output:=k.output.trans h.output
 size:=Nat.le_trans h.size k.size
 cZ:=fun c hc h1=>by
  rw[k.cZ c (Nat.lt_of_lt_of_le hc h.size) (fun x=>(h.qU c x).elim h1 (fun y=>absurd hc (Nat.not_lt.2 y))) (fun x=>absurd hc (Nat.not_lt.2 (h.kF c x)))]
  exact h.cZ c hc h1
 kd:=fun b c x=>(k.kd b c x).elim (fun y=>h.kd b c y) (fun y=> .inr (Nat.le_trans h.size y))
 kF:=fun c x=>(k.kF c x).elim (fun y=>h.kF c y) (fun y=>Nat.le_trans h.size y)
 gF:=fun c x=>(k.gF c x).elim (fun y=>h.gF c y) (fun y=> .inr (Nat.le_trans h.size y))
 fU:=fun c x=>(k.fU c x).elim (fun y=>h.fU c y) (fun y=> .inr (Nat.le_trans h.size y))
end
def aa9 (ex:Exit):Bool:=match ex with
 | .normal | .exit _ | .ret=>true
 | _=>false
def pd [cH] (cr:Env) (Q:Exit→St→Prop) (ex:Exit) (a:Act) (w:World):Prop:=
 aa9 ex=true∧ ∃ap E,Q ex ap∧E.w=w∧Good cr E∧w6 E ap a.tmps∧a.defers=[]
def WpS [cH] (P:Program) (c:Code) (Q:Exit→St→Prop) (ap:St):Prop:=
 ∀(cr E:Env) (a:Act),Good cr E→w6 E ap a.tmps→a.defers=[]→c.wp P (pd cr Q) a E.w
def Weak [cH] (ap mC:St):Prop:= ∀(cr E:Env) (tmps:Array Value),Good cr E→w6 E ap tmps→ ∃E',E'.w=E.w∧Good cr E'∧w6 E' mC tmps
theorem Weak.refl [cH] (ap:St):Weak ap ap:=fun cr E tmps g h=>⟨E,rfl,g,h⟩
theorem Weak.trans [cH] {a b c:St} (h:Weak a b) (k:Weak b c):Weak a c:=fun cr E tmps g s=>by
 obtain⟨E1,aG,g1,s1⟩:=h cr E tmps g s
 obtain⟨tD,e2,g2,s2⟩:=k cr E1 tmps g1 s1
 exact⟨tD,e2.trans aG,g2,s2⟩
section
variable [cH] {P:Program} {Q zm:Exit→St→Prop} {ap:St}
theorem WpS.mono {c:Code} (h:WpS P c Q ap) (U: ∀e s,Q e s→zm e s):WpS P c zm ap:=fun cr E a g s d=>
 wp_mono (h cr E a g s d) fun e a w ⟨h1,ap,E,h2,aD⟩=>⟨h1,ap,E,U _ _ h2,aD⟩
theorem WpS.so {c:Code} {mC:St} (h:WpS P c Q mC) (k:Weak ap mC):WpS P c Q ap:=fun cr E a g s d=>by
 obtain⟨E1,aG,g1,s1⟩:=k cr E a.tmps g s
 exact aG▸h cr E1 a g1 s1 d
theorem WpS.skip (h:Q .normal ap):WpS P .skip Q ap:=fun cr E a g s d=>wp_skip ⟨rfl,ap,E,h,rfl,g,s,d⟩
theorem WpS.ret (h:Q .ret ap):WpS P .ret Q ap:=fun cr E a g s d=>wp_ret ⟨rfl,ap,E,h,rfl,g,s,d⟩
theorem WpS.exit {id:Nat} (h:Q (.exit id) ap):WpS P (.exit id) Q ap:=fun cr E a g s d=>wp_exit ⟨rfl,ap,E,h,rfl,g,s,d⟩
def ej (P:Program) (y:Code) (Q:Exit→St→Prop) (ex:Exit) (s:St):Prop:=match ex with
 | .normal=>WpS P y Q s
 | ex=>Q ex s
theorem WpS.seq {x y:Code} (h:WpS P x (ej P y Q) ap):WpS P (.seq x y) Q ap:=fun cr E a g s d=>
 wp_seq (wp_mono (h cr E a g s d) fun e hL w' ⟨h1,mC,E',h2,aD,bj,cl,cC⟩=>by
  cases e with
  | normal=>subst aD;exact h2 cr E' hL bj cl cC
  | exit id=>exact⟨rfl,mC,E',h2,aD,bj,cl,cC⟩
  | ret=>exact⟨rfl,mC,E',h2,aD,bj,cl,cC⟩
  | _=>cases h1)
def cs (id:Nat) (Q:Exit→St→Prop) (ex:Exit) (s:St):Prop:=match ex with
 | .exit gC=>if gC=id then Q .normal s else Q (.exit gC) s
 | ex=>Q ex s
theorem WpS.block {id:Nat} {c:Code} (h:WpS P c (cs id Q) ap):WpS P (.block id c) Q ap:=fun cr E a g s d=>
 wp_block (wp_mono (h cr E a g s d) fun e hL w' ⟨h1,mC,E',h2,aD⟩=>by
  cases e with
  | normal=>exact⟨rfl,mC,E',h2,aD⟩
  | exit gC=>
   by_cases hid:gC=id
   ·subst hid
    have kV:(if gC=gC then Q .normal mC else Q (.exit gC) mC):=h2
    rw[if_pos rfl] at kV
    show(if gC=gC then _ else _)
    rw[if_pos rfl];exact⟨rfl,mC,E',kV,aD⟩
   ·have kV:(if gC=id then Q .normal mC else Q (.exit gC) mC):=h2
    rw[if_neg hid] at kV
    show(if gC=id then _ else _)
    rw[if_neg hid];exact⟨rfl,mC,E',kV,aD⟩
  | ret=>exact⟨rfl,mC,E',h2,aD⟩
  | _=>cases h1)
end
def qL:Value→AV
 | .int k n=> .int k n
 | .bool b=> .bool b
 | .string s=> .str s
 | .slice none 0 0=> .aZ [] true true
 | .pointer none=> .gR
 | .nilIface=> .ht
 | _=> .undef
def ch (T:List AV):Operand→AV
 | .tmp t=>T.getD t .undef
 | .const v=>qL v
 | .func f=> .fn f []
 | .global _=> .undef
theorem acX (E:Env) (v:Value):V3 E (qL v) v:=by
 unfold qL
 split
 ·exact aP.int _ _
 ·exact aP.bool _
 ·exact aP.str _
 ·exact aP.aZ (PB:=fun _=>False) (sz:=0) (vs:=fun _ _=>undef) (fun _ h=>h.elim) ⟨Nat.le_refl _,Nat.zero_le _⟩ (fun _=>rfl) (fun i row h=>by simp at h) (fun h=>by simp at h) (fun i j row a h=>by simp at h)
 ·exact aP.gR
 ·exact aP.ht
 ·exact aP.undef _
theorem opv_rel {E:Env} {T:List AV} {a:Act} (h: ∀t,V3 E (T.getD t .undef) (a.tmps.getD t undef)) (x:Operand):V3 E (ch T x) (a.eval x):=by
 cases x with
 | tmp t=>exact h t
 | const v=>exact acX E v
 | global g=>exact aP.undef _
 | func f=>exact⟨[],rfl,ak.nil⟩
def CG (b:Bool) (x y:Prop):Prop:=(b=true→x)∧(b=false→y)
def qJ (v:AV) (k:Bool→Prop):Prop:=match v with
 | .bool b=>k b
 | _=>False
theorem Fj {v:AV} {k:Bool→Prop} (h:qJ v k): ∃b,v= .bool b∧k b:=by
 cases v<;>first | exact⟨_,rfl,h⟩ | exact h.elim
theorem V3.p2 {E:Env} {b:Bool} {v:Value} (h:V3 E (.bool b) v):v= .bool b:=by
 have h':aP E.w E.PA E.PF (.bool b) v:=h
 cases h';rfl
theorem V3.qi {E:Env} {k:IntKind} {n:Int} {v:Value} (h:V3 E (.int k n) v):v= .int k n:=by
 have h':aP E.w E.PA E.PF (.int k n) v:=h
 cases h';rfl
theorem V3.BT {E:Env} {s:ByteArray} {v:Value} (h:V3 E (.str s) v):v= .string s:=by
 have h':aP E.w E.PA E.PF (.str s) v:=h
 cases h';rfl
section
variable [cH] {P:Program} {Q zm:Exit→St→Prop} {ap:St}
theorem WpS.cond {c:Operand} {x y:Code} (h:qJ (ch ap.T c) fun b=>CG b (WpS P x Q ap) (WpS P y Q ap)):WpS P (.cond c x y) Q ap:=fun cr E a g s d=>by
 obtain⟨b,hb,h1,h2⟩:=Fj h
 have hv:=opv_rel s.jt c
 rw[hb] at hv
 have he:a.eval c= .bool b:=V3.p2 hv
 exact wp_cond_split he (fun e=>h1 e cr E a g s d) (fun e=>h2 e cr E a g s d)
def abn (I:Nat→St→Prop) (n:Nat) (Q:Exit→St→Prop) (ex:Exit) (s:St):Prop:=match ex with
 | .normal=> ∃kJ s',kJ<n∧Weak s s'∧I kJ s'
 | ex=>Q ex s
theorem WpS.loop {c:Code} (I:Nat→St→Prop) (n:Nat) (aA:I n ap) (round: ∀n s,I n s→WpS P c (abn I n Q) s):WpS P (.loop c) Q ap:=by
 intro cr E a g s d b k al
 have key: ∀n (a:Act) (E:Env) ap,I n ap→Good cr E→w6 E ap a.tmps→a.defers=[]→
   ∃e hL w',pd cr Q e hL w'∧Arrives P (lone (b.at a (.code c:: .inLoop c::k)) al E.w) b k al e hL w':=by
  intro n
  induction n using Nat.strongRecOn with
  | _ n bz=>
   intro a E ap aN g s d
   obtain⟨e,Fk,aaL,U,C8⟩:=round n ap aN cr E a g s d b (.inLoop c::k) al
   obtain⟨he,aaf,E1,U,hw,g1,s1,d1⟩:=U
   cases e with
   | normal=>
    obtain⟨kJ,s',aM,agu,C4⟩:=U
    obtain⟨tD,e2,g2,s2⟩:=agu cr E1 Fk.tmps g1 s1
    obtain⟨adx,abL,aoS,aga,SU⟩:=bz kJ aM Fk tD s' C4 g2 s2 d1
    rw[e2,hw] at SU
    exact⟨adx,abL,aoS,aga,.of_steps (Steps.trans C8 (.one step_inLoop)) SU⟩
   | exit id=>exact⟨_,Fk,aaL,⟨rfl,aaf,E1,U,hw,g1,s1,d1⟩,.pass (x:= .inLoop c) rfl (fun _ _=> .inl (by simp)) C8⟩
   | ret=>exact⟨_,Fk,aaL,⟨rfl,aaf,E1,U,hw,g1,s1,d1⟩,.pass (x:= .inLoop c) rfl (fun _ _=> .inl (by simp)) C8⟩
   | _=>cases he
 obtain⟨e,hL,w',U,C8⟩:=key n a E ap aA g s d
 exact⟨e,hL,w',U,.of_steps (.one step_loop) C8⟩
end
def cV {α:Type} (o:Option α) (k:α→Prop):Prop:=match o with
 | some a=>k a
 | none=>False
theorem fT {α:Type} {o:Option α} {k:α→Prop} (h:cV o k): ∃a,o=some a∧k a:=by
 cases o with
 | none=>exact h.elim
 | some a=>exact⟨a,rfl,h⟩
theorem ei {α:Type} {o:Option α} {k:α→Prop} {a:α} (h:o=some a) (hk:k a):cV o k:=by rw[h];exact hk
def e_ (b:Bool) (x:Prop):Prop:=match b with
 | true=>x
 | false=>False
theorem r4 {b:Bool} {x:Prop} (h:e_ b x):b=true∧x:=by
 cases b with
 | true=>exact⟨rfl,h⟩
 | false=>exact h.elim
def AM (P:Program) (t:TypeId):Bool:=match P.underlying t with
 | some (.struct _) | some (.array _ _)=>true
 | _=>false
def DO (P:Program) (t:TypeId):Bool:=(P.underlying t).isSome
theorem run_underlying {P:Program} {t:TypeId} {w:World} {d:TypeDesc} (h:P.underlying t=some d):(underlying t).run P w= .ok d w:=by
 simp[Go.underlying,h]
theorem Yo {P:Program} {t:TypeId} {w:World} (h:DO P t=true):(isAgg t).run P w= .ok (AM P t) w:=by
 unfold DO at h
 cases aW:P.underlying t with
 | none=>simp[aW] at h
 | some d=>
  simp only[Go.isAgg,Sem.run_bind,run_underlying aW,Result.andThen_ok,AM,aW]
  cases d<;>rfl
theorem run_sizeOf {P:Program} {t:TypeId} {w:World} (h:(P.info? t).isSome=true):(sizeOf t).run P w= .ok (P.cellsOf t) w:=by
 cases hi:P.info? t with
 | none=>simp[hi] at h
 | some i=>simp[Go.sizeOf,typeInfo,hi,Program.cellsOf]
theorem ah4 {P:Program} {t:TypeId} (h:DO P t=true):(P.info? t).isSome=true:=by
 unfold DO Program.underlying at h
 cases hi:P.info? t with
 | none=>simp[hi] at h
 | some i=>rfl
def ko (P:Program) (t:TypeId) (cells:List AV) (c:Nat) (K:AV→Prop):Prop:=
 if DO P t=true then
  (if AM P t=true then(if c+P.cellsOf t≤cells.length then K (.agg ((cells.drop c).take (P.cellsOf t))) else False)
   else cV cells[c]? K)
 else False
def qY (P:Program) (t:TypeId) (x:AV) (L:List (Nat×List AV)) (H:List Blk) (K:AV→Prop):Prop:=match x with
 | .fS s c=>cV (eR L s) fun cells=>ko P t cells c K
 | .ptr b g r c=>cV H[b]? fun blk=>blk.bm=g∧cV blk.rows[r]? fun row=>ko P t row c K
 | .dz cells c=>ko P t cells c K
 | _=>False
theorem pZ (c o n:Nat):(⟨c,o,none⟩:Addr).add n=⟨c,o+n,none⟩:=by
 unfold Addr.add;split
 ·subst_vars;rfl
 ·rfl
theorem Qd {P:Program} {t:TypeId} {cells:List AV} {c bl o:Nat} {K:AV→Prop} {w:World} {R:AV→Value→Prop}
  (hc: ∀(j:Nat) (a:AV),cells[j]?=some a→ ∃u,w.cell? ⟨bl,o+j,none⟩=some u∧R a u) (h:ko P t cells c K):
  ∃a v,K a∧(loadVar t ⟨bl,o+c,none⟩).run P w= .ok v w∧
   ((∃l vs,a= .agg l∧v= .agg (List.toArray vs)∧ak R l vs)∨R a v):=by
 unfold ko at h
 split at h
 ·rename_i hk
  split at h
  ·rename_i ar
   split at h
   ·rename_i aw
    let n:=P.cellsOf t
    have eG: ∀j,j<n→ ∃a u,cells[c+j]?=some a∧w.cell? ⟨bl,o+(c+j),none⟩=some u∧R a u:=by
     intro j ah
     have jn:c+j<cells.length:=by show c+j<cells.length;have:n=P.cellsOf t:=rfl;omega
     obtain⟨u,h1,h2⟩:=hc (c+j) _ (List.getElem?_eq_getElem jn)
     exact⟨_,u,List.getElem?_eq_getElem jn,h1,h2⟩
    let f:Nat→Value:=fun j=>(w.cell? ⟨bl,o+(c+j),none⟩).getD undef
    have hf: ∀j,j<n→w.cell? ((⟨bl,o+c,none⟩:Addr).add j)=some (f j):=by
     intro j ah
     obtain⟨a,u,_,h1,_⟩:=eG j ah
     rw[pZ,Nat.add_assoc]
     show _=some ((w.cell? ⟨bl,o+(c+j),none⟩).getD undef)
     rw[h1];rfl
    refine⟨_,.agg ((List.range n).map f).toArray,h,?_,.inl ⟨_,(List.range n).map f,rfl,rfl,?_,?_⟩⟩
    ·simp only[loadVar,Sem.run_bind,Yo hk,Result.andThen_ok,ar,if_true,run_sizeOf (ah4 hk)]
     rw[run_loadCells w _ n f hf]
     rfl
    ·simp only[List.length_take,List.length_drop,List.length_map,List.length_range];show min n _=n;have:n=P.cellsOf t:=rfl;omega
    ·intro i a b S8 Ab
     have hi:i<n:=by have:=(List.getElem?_eq_some_iff.1 Ab).1;simpa using this
     obtain⟨hL,u,h1,h2,aD⟩:=eG i hi
     rw[List.getElem?_take,if_pos (show i<P.cellsOf t from hi),List.getElem?_drop,h1] at S8
     cases S8
     rw[List.getElem?_map,List.getElem?_range hi] at Ab
     simp only[Option.map_some,Option.some.injEq] at Ab
     have:f i=u:=by show(w.cell? ⟨bl,o+(c+i),none⟩).getD undef=u;rw[h2];rfl
     rw[←Ab,this];exact aD
   ·exact h.elim
  ·rename_i ar
   obtain⟨a,xw,hK⟩:=fT h
   obtain⟨u,h1,h2⟩:=hc c a xw
   refine⟨a,u,hK,?_,.inr h2⟩
   have ae4:AM P t=false:=by cases hx:AM P t<;>simp_all
   simp only[loadVar,Sem.run_bind,Yo hk,Result.andThen_ok,ae4]
   simp[h1]
 ·exact h.elim
theorem b4.up {E:Env} {a:AV} {v:Value} (h:b4 E.bQ a v):b4 E a v:=h.le E.Hq
theorem abu {E:Env} {l:List AV} {v:Value} (h:b4 E (.agg l) v):False:=by
 have h':aP E.w E.PA E.PF (.agg l) v:=h
 cases h'
theorem abv {E:Env} {l:List AV} {v:Value} (h:b4 E (.tup l) v):False:=by
 have h':aP E.w E.PA E.PF (.tup l) v:=h
 cases h'
theorem lP {E:Env} {a:AV} {v:Value} (h:b4 E a v):V2 E a v:=by
 by_cases hf: ∃l,a= .agg l
 ·obtain⟨l,rfl⟩:=hf;exact(abu h).elim
 ·rw[qG fun l e=>hf ⟨l,e⟩];exact h
theorem abw {E:Env} {l:List AV} {v:Value} (h:V2 E (.tup l) v):False:=abv (E:=E) (l:=l) (v:=v) h
theorem sw {E:Env} {a:AV} {v:Value} (h:V2 E a v):V3 E a v:=by
 by_cases hf: ∃l,a= .tup l
 ·obtain⟨l,rfl⟩:=hf;exact(abw h).elim
 ·rw[qH fun l e=>hf ⟨l,e⟩];exact h
theorem Ja {E:Env} {a:AV} {v:Value} (h:(∃l vs,a= .agg l∧v= .agg (List.toArray vs)∧ak (b4 E) l vs)∨b4 E a v):V2 E a v:=by
 rcases h with⟨l,vs,rfl,rfl,ab⟩ | h
 ·exact⟨vs,rfl,ab⟩
 ·exact lP h
theorem V3.DV {E:Env} {t c:Nat} {v:Value} (h:V3 E (.fS t c) v): ∃bl,E.mL t=some bl∧v= .pointer (some ⟨bl,c,none⟩):=h
theorem V3.HF {E:Env} {b g r c:Nat} {v:Value} (h:V3 E (.ptr b g r c) v) (aE:E.bm b=g): ∃bl,E.m b=some (some bl)∧v= .pointer (some ⟨bl,r*E.sz b+c,none⟩):=by
 rcases(h:fu E (.ptr b g r c) v) with⟨h,_⟩ | ⟨_,h⟩
 ·omega
 ·exact h
theorem cell_of {w:World} {c o:Nat} {al:Array Value} {ty:TypeId} {Sw:Nat×Nat} {u:Value} (h:w.heap[c]?=some (.cells al ty Sw)) (hu:al[o]?=some u):w.cell? ⟨c,o,none⟩=some u:=by
 simp[World.cell?,h,hu]
structure Sub (L:List (Nat×List AV)) (H:List Blk) (lN:List (Nat×List AV)) (fs:List Blk):Prop where
 l: ∀t c,eR L t=some c→eR lN t=some c
 h: ∀(b:Nat) (blk:Blk),H[b]?=some blk→fs[b]?=some blk
theorem Sub.refl (L:List (Nat×List AV)) (H:List Blk):Sub L H L H:=⟨fun _ _ h=>h,fun _ _ h=>h⟩
theorem Wr {P:Program} {t:TypeId} {x:AV} {L lN:List (Nat×List AV)} {H fs:List Blk} {K:AV→Prop} {E:Env} {v:Value}
  (sub:Sub L H lN fs) (ax:SimH E fs) (bJ:SimL E lN) (hx:V3 E x v) (h:qY P t x L H K):
  ∃a eM,K a∧(Instr.loadAt t v).run P E.w= .ok eM E.w∧V2 E a eM:=by
 cases x with
 | fS s c=>
  obtain⟨bl,hm,rfl⟩:=hx.DV
  obtain⟨cells,al,ty,aE,hw,ab⟩:=bJ s bl hm
  have h':cV (eR L s) fun cells=>ko P t cells c K:=h
  obtain⟨zF,De,h'⟩:=fT h'
  obtain rfl:cells=zF:=by have:=sub.l _ _ De;rw[aE] at this;exact Option.some.inj this
  obtain⟨a,eM,hK,aj,hv⟩:=Qd (o:=0) (bl:=bl) (w:=E.w) (R:=b4 E.bQ) (fun j a ah=>by
   obtain⟨u,hu,aj⟩:=ab.get ah
   exact⟨u,by rw[Nat.zero_add];exact cell_of hw (by simpa using hu),aj⟩) h'
  rw[Nat.zero_add] at aj
  refine⟨a,eM,hK,?_,(Ja hv).le E.Hq⟩
  simp only[Instr.loadAt,Instr.sureAddr,Sem.run_bind,Sem.run_pure,Result.andThen_ok,aj]
 | ptr b g r c=>
  obtain⟨blk,hb,aE,h2⟩:=fT (show cV H[b]? fun blk=>blk.bm=g∧cV blk.rows[r]? fun row=>ko P t row c K from h)
  obtain⟨row,ew,aD⟩:=fT h2
  replace hb:=sub.h b blk hb
  have lq:=ax.fc b blk hb
  obtain⟨bl,hm,rfl⟩:=hx.HF (lq.trans aE)
  obtain⟨blk',al,ty,dT,nT,hw,mS,hlen,hq⟩:=ax.heap b bl hm
  obtain rfl:blk=blk':=by rw[hb] at dT;exact Option.some.inj dT
  obtain⟨a,eM,hK,aj,hv⟩:=Qd (o:=r*E.sz b) (bl:=bl) (w:=E.w) (R:=b4 E.bQ) (fun j a ah=>by
   obtain⟨u,hu,aj⟩:=hq.2 r j row a ew ah
   exact⟨u,cell_of hw hu,aj⟩) aD
  refine⟨a,eM,hK,?_,(Ja hv).le E.Hq⟩
  simp only[Instr.loadAt,Instr.sureAddr,Sem.run_bind,Sem.run_pure,Result.andThen_ok,aj]
 | dz cells c=>
  have jz:aP E.w E.PA E.PF (.dz cells c) v:=hx
  cases jz with
  | @dz _ _ _ _ bl o vs hc eH hrel=>
   have h':ko P t cells c K:=h
   obtain⟨a,eM,hK,aj,hv⟩:=Qd (o:=o) (bl:=bl) (w:=E.w) (R:=aP E.w E.PA (fun _=>False)) (fun j a ah=>
    ⟨vs j,eH j (List.getElem?_eq_some_iff.1 ah).1,hrel j a ah⟩) h'
   have up: ∀a v,aP E.w E.PA (fun _=>False) a v→b4 E a v:=fun a v aj=>(aj.mono (fun _ _=>rfl) (fun _ h=>h.elim) (fun _ h=>h) (fun _ h=>h.elim)).v1
   refine⟨a,eM,hK,?_,Ja (hv.imp (fun⟨l,vs,h1,h2,aD⟩=>⟨l,vs,h1,h2,aD.mono up⟩) (up _ _))⟩
   simp only[Instr.loadAt,Instr.sureAddr,Sem.run_bind,Sem.run_pure,Result.andThen_ok,aj]
 | _=>exact h.elim
def y0:AV→Bool
 | .undef | .agg _ | .tup _ | .fS _ _ | .fn _ _=>false
 | _=>true
def kR:AV→Bool
 | .fn _ caps=>caps.all y0
 | a=>y0 a
def fC:AV→List AV
 | .agg l=>l
 | a=>[a]
def fI (row:List AV) (c:Nat) (l:List AV):List AV:=row.take c++l++row.drop (c+l.length)
def nG (P:Program) (t:TypeId) (x v:AV) (L:List (Nat×List AV)) (H:List Blk) (K:List (Nat×List AV)→List Blk→Prop):Prop:=
 if(P.info? t).isSome=true∧(fC v).length=P.cellsOf t∧(fC v).all kR=true then
  match x with
  | .fS s c=>cV (eR L s) fun cells=>if c+(fC v).length≤cells.length then K (mw L s (fI cells c (fC v))) H else False
  | .ptr b g r c=>cV H[b]? fun blk=>blk.bm=g∧cV blk.rows[r]? fun row=>c+(fC v).length≤row.length∧K L (H.set b {blk with rows:=blk.rows.set r (fI row c (fC v))})
  | _=>False
 else False
theorem aai {E:Env} {a:AV} {v:Value} (h:y0 a=true) (hv:fu E a v):fu E.bQ a v:=by
 cases a<;>first | exact hv | cases h
theorem P7 {E:Env} {a:AV} {v:Value} (h:kR a=true) (hv:b4 E a v):b4 E.bQ a v:=by
 by_cases hf: ∃f caps,a= .fn f caps
 ·obtain⟨f,caps,rfl⟩:=hf
  obtain⟨vs,e,ab⟩:=hv
  refine⟨vs,e,ab.1,fun i x y hx aX=>aai ?_ (ab.2 i x y hx aX)⟩
  have h':caps.all y0=true:=h
  exact List.all_eq_true.1 h' x (List.mem_of_getElem? hx)
 ·have aA:kR a=y0 a:=by cases a<;>first | rfl | exact absurd ⟨_,_,rfl⟩ hf
  rw[sv fun f c e=>hf ⟨f,c,e⟩] at hv ⊢
  exact aai (aA▸h) hv
theorem fu.one {E:Env} {a:AV} {v:Value} (h:y0 a=true) (hv:fu E a v):v.oneCell'=true:=by
 cases a with
 | undef=>cases h
 | agg l=>cases h
 | tup l=>cases h
 | fS s c=>cases h
 | fn f c=>cases h
 | ref b g off n full=>
  rcases hv with⟨_,A,cap,rfl⟩ | ⟨_,⟨_,_,_,A,rfl⟩ | ⟨c,cap,_,rfl,_⟩⟩
  ·rfl
  ·rfl
  ·rfl
 | ptr b g r c=>
  rcases hv with⟨_,bl,o,rfl⟩ | ⟨_,bl,_,rfl⟩
  ·rfl
  ·rfl
 | _=>exact aP.one (show aP E.w E.PA E.PF _ v from hv) (by intro h;cases h)
theorem b4.Hx {E:Env} {a:AV} {v:Value} (h:kR a=true) (hv:b4 E a v):v.oneCell'=true:=by
 by_cases hf: ∃f caps,a= .fn f caps
 ·obtain⟨f,caps,rfl⟩:=hf
  obtain⟨vs,rfl,ab⟩:=hv
  rfl
 ·have aA:kR a=y0 a:=by cases a<;>first | rfl | exact absurd ⟨_,_,rfl⟩ hf
  rw[sv fun f c e=>hf ⟨f,c,e⟩] at hv
  exact hv.one (aA▸h)
theorem Step.setRow {E:Env} {H:List Blk} (ax:SimH E H) {bl:Nat} (hb:E.fZ bl∨E.l1 bl) (al:Array Value):Step E {E with w:=E.w.setRow bl al}:=by
 have af: ∀c,E.PA c→c≠bl:=fun c hc e=>by
  subst e
  exact hb.elim (ax.iM _ hc) (ax.jr _ hc)
 have hk: ∀c,c≠bl→(E.w.setRow bl al).heap[c]?=E.w.heap[c]?:=fun c hc=>setRow_other _ _ _ _ hc
 exact⟨⟨fun _ h=>h,fun _ h=>h,fun c hc=>hk c (af c hc),fun c hc=>hk c (af c (ax.dU c hc)),fun _=>Nat.le_refl _,fun _ _ h _=>⟨h,rfl,rfl⟩,fun _ _ h=>h⟩,rfl,rfl,rfl,
  by simp,fun c _ h1 h2=>hk c (fun e=>by subst e;exact hb.elim h1 h2),fun _ _ h=> .inl h,fun _ h=> .inl h,fun _ h=> .inl h,fun _ h=> .inl h⟩
theorem JC {E:Env} {v:AV} {u:Value} (hv:V2 E v u) (hs:(fC v).all kR=true):ak (b4 E) (fC v) u.cells.toList:=by
 by_cases hf: ∃l,v= .agg l
 ·obtain⟨l,rfl⟩:=hf
  obtain⟨vs,rfl,ab⟩:=hv
  exact ab
 ·have aA:fC v=[v]:=by cases v<;>first | rfl | exact absurd ⟨_,rfl⟩ hf
  rw[qG fun l e=>hf ⟨l,e⟩] at hv
  rw[aA] at hs ⊢
  have h1:u.oneCell'=true:=hv.Hx (by simpa using hs)
  have h2:u.cells= #[u]:=by cases u<;>first | rfl | cases h1
  rw[h2]
  exact ak.cons hv ak.nil
theorem Yp {P:Program} {t:TypeId} {w:World} {bl o:Nat} {al:Array Value} {ty:TypeId} {u:Value} (hi:(P.info? t).isSome=true) (az:u.cells.size=P.cellsOf t)
  (hw:w.heap[bl]?=some (.cells al ty (0,0))) (an:o+u.cells.size≤al.size) (h1: ∀x∈u.cells.toList,x.oneCell'=true):
  (Instr.storeAt t (.pointer (some ⟨bl,o,none⟩)) u).run P w= .ok () (w.setRow bl (al.toList.take o++u.cells.toList++al.toList.drop (o+u.cells.toList.length)).toArray):=by
 have:=run_storeCells_at (P:=P) bl o ty u.cells.toList 0 al w hw (by simpa using an) h1
 simp only[Nat.add_zero] at this
 simp[Instr.storeAt,Instr.sureAddr,storeVar,run_sizeOf hi,az,this]
theorem BR {α:Type} {l m:List α} {c:Nat} (hc:c+m.length≤l.length) (j:Nat):
  (l.take c++m++l.drop (c+m.length))[j]?=if j<c then l[j]? else if j<c+m.length then m[j - c]? else l[j]?:=by
 by_cases h1:j<c
 ·rw[if_pos h1,List.append_assoc,List.getElem?_append_left (by simp;omega),List.getElem?_take,if_pos h1]
 ·rw[if_neg h1]
  by_cases h2:j<c+m.length
  ·rw[if_pos h2,List.getElem?_append_left (by simp;omega),List.getElem?_append_right (by simp;omega)]
   congr 1;simp;omega
  ·rw[if_neg h2,List.getElem?_append_right (by simp;omega),List.getElem?_drop]
   congr 1;simp;omega
theorem ak.fI {α β:Type} {R:α→β→Prop} {l m:List α} {fQ fK:List β} (h:ak R l fQ) (k:ak R m fK) {c:Nat} (hc:c+m.length≤l.length):
  ak R (l.take c++m++l.drop (c+m.length)) (fQ.take c++fK++fQ.drop (c+fK.length)):=by
 have h1:=h.1
 have dA:=k.1
 refine⟨by simp;omega,fun i a b ar hb=> ?_⟩
 rw[BR hc] at ar
 rw[BR (by omega)] at hb
 rw[←dA] at hb
 split at ar
 ·rename_i hi;rw[if_pos hi] at hb;exact h.2 i a b ar hb
 ·rename_i hi;rw[if_neg hi] at hb
  split at ar
  ·rename_i ah;rw[if_pos ah] at hb;exact k.2 _ a b ar hb
  ·rename_i ah;rw[if_neg ah] at hb;exact h.2 i a b ar hb
theorem C0 (L:List (Nat×List AV)) (t s:Nat) (d:List AV):eR (mw L t d) s=if s=t then(eR L t).map (fun _=>d) else eR L s:=by
 induction L with
 | nil=>simp[mw,eR]
 | cons x L bz=>
  obtain⟨k,c⟩:=x
  by_cases h1:t=k
  ·subst h1
   by_cases h2:s=t
   ·simp[mw,eR,h2]
   ·simp[mw,eR,h2]
  ·by_cases h2:s=k
   ·subst h2
    have: ¬s=t:=fun e=>h1 e.symm
    simp[mw,eR,h1,this]
   ·simp only[mw,if_neg h1,eR,if_neg h2,bz]
theorem an0 {P:Program} {t:TypeId} {x v:AV} {L:List (Nat×List AV)} {H:List Blk} {K:List (Nat×List AV)→List Blk→Prop} {E:Env} {jN oo:Value}
  (ax:SimH E H) (bJ:SimL E L) (hx:V3 E x jN) (hv:V2 E v oo) (h:nG P t x v L H K):
  ∃L' H' E',K L' H'∧(Instr.storeAt t jN oo).run P E.w= .ok () E'.w∧Step E E'∧SimH E' H'∧SimL E' L'∧E'.mL=E.mL:=by
 unfold nG at h
 split at h
 case isFalse=>exact h.elim
 case isTrue hc=>
 obtain⟨hi,az,hs⟩:=hc
 have z_:=JC hv hs
 have af:ak (b4 E.bQ) (fC v) oo.cells.toList:=⟨z_.1,fun i a b ar hb=>P7 (List.all_eq_true.1 hs a (List.mem_of_getElem? ar)) (z_.2 i a b ar hb)⟩
 have h1: ∀y∈oo.cells.toList,y.oneCell'=true:=by
  intro y aX
  obtain⟨i,hi⟩:=List.mem_iff_getElem?.1 aX
  have sS:i<(fC v).length:=by rw[z_.1];exact(List.getElem?_eq_some_iff.1 hi).1
  exact(z_.2 i _ y (List.getElem?_eq_getElem sS) hi).Hx (List.all_eq_true.1 hs _ (List.getElem_mem sS))
 have cm:oo.cells.size=P.cellsOf t:=by rw[←az,z_.1];simp
 have hlen:oo.cells.toList.length=(fC v).length:=z_.1.symm
 cases x with
 | fS s c=>
  obtain⟨bl,hm,rfl⟩:=hx.DV
  obtain⟨cells,al,ty,aE,hw,ab⟩:=bJ s bl hm
  have h':cV (eR L s) fun cells=>if c+(fC v).length≤cells.length then K (mw L s (fI cells c (fC v))) H else False:=h
  rw[aE] at h'
  have KJ:if c+(fC v).length≤cells.length then K (mw L s (fI cells c (fC v))) H else False:=h'
  split at KJ
  case isFalse=>exact KJ.elim
  case isTrue hle=>
  have afj:cells.length=al.size:=by rw[ab.1];simp
  have gI:=Yp (P:=P) (t:=t) (o:=c) hi cm hw (by rw[←afj];have:oo.cells.size=(fC v).length:=by rw[←hlen];simp
                                                omega) h1
  have fY:=Step.setRow ax (.inr ⟨s,hm⟩) (al.toList.take c++oo.cells.toList++al.toList.drop (c+oo.cells.toList.length)).toArray
  have bq: ∀b ct,E.m b=some (some ct)→ct≠bl:=fun b ct hb e=>by subst e;exact ax.hN b s ct hb hm
  refine⟨_,_,_,KJ,gI,fY,?_,?_,rfl⟩
  ·exact{ax with
    ga:=fun ct mf=>(ax.ga ct mf).same (fY.le.wf ct mf)
    heap:=fun b ct hb=>by
     obtain⟨blk,b3,jf,q1,b6,q2,q3,q4,cN,c2⟩:=ax.heap b ct hb
     refine⟨blk,b3,jf,q1,b6,?_,q3,q4,cN,fun i j row a aj ah=> ?_⟩
     ·show(E.w.setRow bl _).heap[ct]?=_
      rw[setRow_other _ _ _ _ (bq b ct hb)];exact q2
     ·obtain⟨u,hu,fp⟩:=c2 i j row a aj ah
      exact⟨u,hu,fp.le fY.le.bQ⟩
    ea:=fun ct hc=>by rw[show(E.w.setRow bl _).heap.size=_ from setRow_size _ _ _];exact ax.ea ct hc
    gD:=fun ct hc=>by rw[show(E.w.setRow bl _).heap.size=_ from setRow_size _ _ _];exact ax.gD ct hc
    hG:=fun ct hc=>by rw[show(E.w.setRow bl _).heap.size=_ from setRow_size _ _ _];exact ax.hG ct hc}
  ·intro iU ct po
   by_cases he:iU=s
   ·subst he
    obtain rfl:ct=bl:=by
     have:E.mL iU=some ct:=po
     rw[hm] at this;exact(Option.some.inj this).symm
    refine⟨fI cells c (fC v),_,ty,?_,setRow_heap _ _ _ _ _ _ hw,?_⟩
    ·rw[C0,if_pos rfl,aE];rfl
    ·have:=ak.fI (ab.mono fun _ _ k=>k.le fY.le.bQ) (af.mono fun _ _ k=>k.le fY.le.bQ) hle
     simpa[fI] using this
   ·obtain⟨hU,b3,jf,q1,q2,q3⟩:=bJ iU ct po
    have Lj:ct≠bl:=fun e=>by subst e;exact he (ax.kG iU s ct po hm)
    refine⟨hU,b3,jf,by rw[C0,if_neg he];exact q1,?_,q3.mono fun _ _ k=>k.le fY.le.bQ⟩
    show(E.w.setRow bl _).heap[ct]?=_
    rw[setRow_other _ _ _ _ Lj];exact q2
 | ptr b g r c=>
  obtain⟨blk,hb,aE,h2⟩:=fT (show cV H[b]? fun blk=>blk.bm=g∧cV blk.rows[r]? fun row=>c+(fC v).length≤row.length∧K L (H.set b {blk with rows:=blk.rows.set r (fI row c (fC v))}) from h)
  obtain⟨row,ew,hle,hK⟩:=fT h2
  have lq:=ax.fc b blk hb
  obtain⟨bl,hm,rfl⟩:=hx.HF (lq.trans aE)
  obtain⟨blk',al,ty,dT,nT,hw,mS,mR,hq⟩:=ax.heap b bl hm
  obtain rfl:blk=blk':=by rw[hb] at dT;exact Option.some.inj dT
  have nq:row.length=E.sz b:=hq.1 r row ew
  have apI:r<blk.rows.length:=(List.getElem?_eq_some_iff.1 ew).1
  have afb:r*E.sz b+E.sz b≤al.size:=by
   rw[mS];calc r*E.sz b+E.sz b=(r+1)*E.sz b:=by rw[Nat.add_mul,Nat.one_mul]
    _≤E.cp b*E.sz b:=Nat.mul_le_mul_right _ (by omega)
  have pt:oo.cells.size=(fC v).length:=by rw[←hlen];simp
  have gI:=Yp (P:=P) (t:=t) (o:=r*E.sz b+c) hi cm hw (by omega) h1
  have fY:=Step.setRow ax (.inl ⟨b,hm⟩) (al.toList.take (r*E.sz b+c)++oo.cells.toList++al.toList.drop (r*E.sz b+c+oo.cells.toList.length)).toArray
  have sP:b<H.length:=(List.getElem?_eq_some_iff.1 hb).1
  refine⟨_,_,_,hK,gI,fY,?_,?_,rfl⟩
  ·exact{ax with
    ga:=fun ct mf=>(ax.ga ct mf).same (fY.le.wf ct mf)
    heap:=fun b2 ct lV=>by
     by_cases he:b2=b
     ·subst he
      obtain rfl:ct=bl:=by
       have:E.m b2=some (some ct):=lV
       rw[hm] at this;exact(Option.some.inj (Option.some.inj this)).symm
      refine⟨{blk with rows:=blk.rows.set r (fI row c (fC v))},_,ty,by rw[List.getElem?_set_self sP],nT,setRow_heap _ _ _ _ _ _ hw,?_,by simpa using mR,?_,?_⟩
      ·simp;omega
      ·intro i row' fp
       rw[List.getElem?_set] at fp
       split at fp
       ·rename_i K9
        cases fp
        simp[fI];omega
       ·exact hq.1 i row' fp
      ·intro i j row' a fp ar
       have nU: ∀k,(al.toList.take (r*E.sz b2+c)++oo.cells.toList++al.toList.drop (r*E.sz b2+c+oo.cells.toList.length)).toArray[k]?=if k<r*E.sz b2+c then al.toList[k]? else if k<r*E.sz b2+c+oo.cells.toList.length then oo.cells.toList[k - (r*E.sz b2+c)]? else al.toList[k]?:=by
        intro k
        rw[List.getElem?_toArray,BR (by simp;omega)]
       rw[List.getElem?_set] at fp
       split at fp
       ·rename_i K9
        cases fp
        subst K9
        have Ao:=BR hle j
        unfold fI at ar
        rw[Ao] at ar
        split at ar
        ·rename_i ah
         obtain⟨u,hu,hX⟩:=hq.2 r j row a ew ar
         refine⟨u,?_,hX.le fY.le.bQ⟩
         show(List.toArray _)[r*E.sz b2+j]?=_
         rw[nU,if_pos (by omega)];simpa using hu
        ·rename_i ah
         split at ar
         ·rename_i vx
          obtain⟨u,hu,hX⟩:=af.get ar
          refine⟨u,?_,hX.le fY.le.bQ⟩
          show(List.toArray _)[r*E.sz b2+j]?=_
          rw[nU,if_neg (by omega),if_pos (by omega),show r*E.sz b2+j - (r*E.sz b2+c)=j - c by omega];exact hu
         ·rename_i vx
          obtain⟨u,hu,hX⟩:=hq.2 r j row a ew ar
          refine⟨u,?_,hX.le fY.le.bQ⟩
          show(List.toArray _)[r*E.sz b2+j]?=_
          rw[nU,if_neg (by omega),if_neg (by omega)];simpa using hu
       ·rename_i K9
        have lX:j<E.sz b2:=by rw[←hq.1 i row' fp];exact(List.getElem?_eq_some_iff.1 ar).1
        obtain⟨u,hu,hX⟩:=hq.2 i j row' a fp ar
        refine⟨u,?_,hX.le fY.le.bQ⟩
        show(List.toArray _)[i*E.sz b2+j]?=_
        rw[nU]
        rcases Nat.lt_or_ge i r with aM | gY
        ·have:i*E.sz b2+E.sz b2≤r*E.sz b2:=by
          calc i*E.sz b2+E.sz b2=(i+1)*E.sz b2:=by rw[Nat.add_mul,Nat.one_mul]
           _≤r*E.sz b2:=Nat.mul_le_mul_right _ (by omega)
         rw[if_pos (by omega)];simpa using hu
        ·have:r*E.sz b2+E.sz b2≤i*E.sz b2:=by
          calc r*E.sz b2+E.sz b2=(r+1)*E.sz b2:=by rw[Nat.add_mul,Nat.one_mul]
           _≤i*E.sz b2:=Nat.mul_le_mul_right _ (by omega)
         rw[if_neg (by omega),if_neg (by omega)];simpa using hu
     ·obtain⟨CJ,zG,ty2,q1,b6,q2,q3,q4,cN,c2⟩:=ax.heap b2 ct lV
      have bq:ct≠bl:=fun e=>by subst e;exact he (ax.hr b2 b ct lV hm)
      refine⟨CJ,zG,ty2,by rw[List.getElem?_set_ne (fun e=>he e.symm)];exact q1,b6,?_,q3,q4,cN,fun i j row a aj ah=> ?_⟩
      ·show(E.w.setRow bl _).heap[ct]?=_
       rw[setRow_other _ _ _ _ bq];exact q2
      ·obtain⟨u,hu,fp⟩:=c2 i j row a aj ah
       exact⟨u,hu,fp.le fY.le.bQ⟩
    fc:=fun b2 CJ lV=>by
     by_cases he:b=b2
     ·subst he
      rw[List.getElem?_set_self sP] at lV
      cases lV
      exact ax.fc b blk hb
     ·rw[List.getElem?_set_ne he] at lV
      exact ax.fc b2 CJ lV
    ii:=fun b2 lV=>by
     obtain⟨CJ,q,kO⟩:=ax.ii b2 lV
     by_cases he:b=b2
     ·subst he
      rw[hm] at lV;cases lV
     ·exact⟨CJ,by rw[List.getElem?_set_ne he];exact q,kO⟩
    fresh:=fun b2 lV=>ax.fresh b2 (by simpa using lV)
    ea:=fun ct hc=>by rw[show(E.w.setRow bl _).heap.size=_ from setRow_size _ _ _];exact ax.ea ct hc
    gD:=fun ct hc=>by rw[show(E.w.setRow bl _).heap.size=_ from setRow_size _ _ _];exact ax.gD ct hc
    hG:=fun ct hc=>by rw[show(E.w.setRow bl _).heap.size=_ from setRow_size _ _ _];exact ax.hG ct hc}
  ·intro iU ct po
   obtain⟨hU,b3,jf,q1,q2,q3⟩:=bJ iU ct po
   have Lj:ct≠bl:=fun e=>by subst e;exact ax.hN b iU ct hm po
   refine⟨hU,b3,jf,q1,?_,q3.mono fun _ _ k=>k.le fY.le.bQ⟩
   show(E.w.setRow bl _).heap[ct]?=_
   rw[setRow_other _ _ _ _ Lj];exact q2
 | _=>exact h.elim
structure nb (E E':Env):Prop where
 step:Step E E'
 m:E'.m=E.m
 mL:E'.mL=E.mL
 bm:E'.bm=E.bm
 sz:E'.sz=E.sz
 cp:E'.cp=E.cp
 cZ: ∀c,c<E.w.heap.size→E'.w.heap[c]?=E.w.heap[c]?
 gF: ∀c,E'.PA c→E.PA c∨(E.w.heap.size≤c∧c<E'.w.heap.size)
 dU: ∀c,E'.PF c→E'.PA c
 ga: ∀c,E'.PF c→Plain E'.w c
theorem nb.refl {E:Env} {H:List Blk} (h:SimH E H):nb E E:=⟨.refl E,rfl,rfl,rfl,rfl,rfl,fun _ _=>rfl,fun _ h=> .inl h,h.dU,h.ga⟩
theorem nb.simH {E E':Env} {H:List Blk} (q:nb E E') (h:SimH E H):SimH E' H where
 heap:=fun b c hb=>by
  rw[q.m] at hb
  obtain⟨blk,al,ty,q1,b6,q2,q3,q4,cN,c2⟩:=h.heap b c hb
  refine⟨blk,al,ty,q1,by rw[q.sz];exact b6,?_,by rw[q.cp,q.sz];exact q3,by rw[q.cp];exact q4,by rw[q.sz];exact cN,fun i j row a aj ah=> ?_⟩
  ·rw[q.cZ c (h.gD c ⟨b,hb⟩)];exact q2
  ·obtain⟨u,hu,fp⟩:=c2 i j row a aj ah
   exact⟨u,by rw[q.sz];exact hu,fp.le q.step.le.bQ⟩
 fc:=by rw[q.bm];exact h.fc
 ii:=by rw[q.m,q.sz];exact h.ii
 fresh:=by rw[q.m,q.bm];exact h.fresh
 hr:=by rw[q.m];exact h.hr
 kG:=by rw[q.mL];exact h.kG
 hN:=by rw[q.m,q.mL];exact h.hN
 iM:=fun c hc ⟨b,hb⟩=>by
  rw[q.m] at hb
  rcases q.gF c hc with hc | ⟨hc,_⟩
  ·exact h.iM c hc ⟨b,hb⟩
  ·have:=h.gD c ⟨b,hb⟩;omega
 jr:=fun c hc ⟨b,hb⟩=>by
  rw[q.mL] at hb
  rcases q.gF c hc with hc | ⟨hc,_⟩
  ·exact h.jr c hc ⟨b,hb⟩
  ·have:=h.hG c ⟨b,hb⟩;omega
 dU:=q.dU
 ga:=q.ga
 ea:=fun c hc=>by
  rcases q.gF c hc with hc | ⟨_,hc⟩
  ·exact Nat.lt_of_lt_of_le (h.ea c hc) q.step.size
  ·exact hc
 gD:=fun c ⟨b,hb⟩=>by rw[q.m] at hb;exact Nat.lt_of_lt_of_le (h.gD c ⟨b,hb⟩) q.step.size
 hG:=fun c ⟨b,hb⟩=>by rw[q.mL] at hb;exact Nat.lt_of_lt_of_le (h.hG c ⟨b,hb⟩) q.step.size
theorem nb.simL {E E':Env} {H:List Blk} {L:List (Nat×List AV)} (q:nb E E') (h:SimH E H) (l:SimL E L):SimL E' L:=fun t c hm=>by
 rw[q.mL] at hm
 obtain⟨cells,al,ty,q1,q2,q3⟩:=l t c hm
 exact⟨cells,al,ty,q1,by rw[q.cZ c (h.hG c ⟨t,hm⟩)];exact q2,q3.mono fun _ _ k=>k.le q.step.le.bQ⟩
def Fq (op:BinOp) (k:IntKind) (a b:Int) (K:AV→Prop):Prop:=match op with
 | .add=>K (.int k (k.wrap (a+b)))
 | .sub=>K (.int k (k.wrap (a - b)))
 | .mul=>K (.int k (k.wrap (a*b)))
 | .quo=>b≠0∧K (.int k (k.wrap (a.tdiv b)))
 | .rem=>b≠0∧K (.int k (a.tmod b))
 | .and=>K (.int k (k.wrap (BitVec.ofInt k.bits a&&&BitVec.ofInt k.bits b).toNat))
 | .eql=>K (.bool (a==b))
 | .neq=>K (.bool (a !=b))
 | .lss=>K (.bool (decide (a<b)))
 | .leq=>K (.bool (decide (a≤b)))
 | .gtr=>K (.bool (decide (a>b)))
 | .geq=>K (.bool (decide (a ≥ b)))
 | _=>False
def two (P:Program) (t:TypeId):Bool:=
 match P.underlying t with
 | some (.struct eQ)=> !P.stoodInHeld t&& !P.eqGuardType P.depth t&&(match eQ.toList with
  | [f,g]=>f.name != "_" &&g.name != "_" &&f.offset==0&&g.offset==1&&(P.underlying f.type matches some (.int .i64))&&(P.underlying g.type matches some (.int .i64))
  | _=>false)
 | _=>false
def Fs (op:BinOp) (k:IntKind) (a:Int) (kH:IntKind) (b:Int) (K:AV→Prop):Prop:=match op with
 | .shl=>0≤b∧K (.int k (k.wrap (a*2 ^ (min b.toNat k.bits))))
 | .shr=>0≤b∧K (.int k (a.fdiv (2 ^ (min b.toNat k.bits))))
 | op=>if k=kH then Fq op k a b K else False
def Vc (P:Program) (t:TypeId):Bool:=match P.underlying t with
 | some .bool=>true
 | _=>false
def Jk (P:Program) (op:BinOp) (t:TypeId) (a b:Bool) (K:AV→Prop):Prop:=if Vc P t=true then(match op with
  | .eql=>K (.bool (a==b))
  | .neq=>K (.bool (a !=b))
  | _=>False) else False
def Jm (op:BinOp) (a b:ByteArray) (K:AV→Prop):Prop:=match op with
  | .add=>a.size+b.size≤9223372036854775807∧K (.str (a++b))
  | .eql=>K (.bool (a.toList==b.toList))
  | .neq=>K (.bool (!(a.toList==b.toList)))
  | _=>False
def Jn (op:BinOp) (a b c d:Int) (K:AV→Prop):Prop:=match op with
  | .eql=>K (.bool (a==c&&b==d))
  | .neq=>K (.bool (!(a==c&&b==d)))
  | _=>False
def B0:List AV→Option (Int×Int)
 | [.int .i64 a,.int .i64 b]=>some (a,b)
 | _=>none
def j_ (P:Program) (t:TypeId):Option TypeId:=match P.underlying t with
 | some (.slice e)=>some e
 | _=>none
def tc:Operand→Bool
 | .const (.slice none 0 0)=>true
 | _=>false
def Jl (P:Program) (op:BinOp) (t:TypeId) (rows:List (List AV)) (va:Bool) (K:AV→Prop):Prop:=
 if va=true∧(j_ P t).isSome=true then(match op with
  | .eql=>(rows≠[]→K (.bool false))∧(rows=[]→ ∀b,K (.bool b))
  | _=>False) else False
def vh (P:Program) (op:BinOp) (t:TypeId) (x y:AV) (va:Bool) (K:AV→Prop):Prop:=match x with
 | .int k a=>(match y with
  | .int kH b=>Fs op k a kH b K
  | _=>False)
 | .bool a=>(match y with
  | .bool b=>Jk P op t a b K
  | _=>False)
 | .str a=>(match y with
  | .str b=>Jm op a b K
  | _=>False)
 | .agg l=>(match y with
  | .agg m=>if two P t=true then cV (B0 l) fun p=>cV (B0 m) fun q=>Jn op p.1 p.2 q.1 q.2 K else False
  | _=>False)
 | .aZ rows _ _=>Jl P op t rows va K
 | _=>False
theorem J_ {op:BinOp} {t:TypeId} {x y:Operand} {k kH:IntKind} {a b:Int} {P:Program} {w:World}:(eqGuard op t x y (.int k a) (.int kH b)).run P w= .ok () w:=by
 unfold eqGuard;cases op<;>rfl
theorem RS {op:BinOp} {t:TypeId} {x y:Operand} {a b:Bool} {P:Program} {w:World}:(eqGuard op t x y (.bool a) (.bool b)).run P w= .ok () w:=by
 unfold eqGuard;cases op<;>rfl
theorem Ka {op:BinOp} {t:TypeId} {x y:Operand} {a b:ByteArray} {P:Program} {w:World}:(eqGuard op t x y (.string a) (.string b)).run P w= .ok () w:=by
 unfold eqGuard;cases op<;>rfl
theorem adp {op:BinOp} {t:TypeId} {x y:Operand} {A B:Option Addr} {n m c d:Nat} {P:Program} {w:World}:(eqGuard op t x y (.slice A n c) (.slice B m d)).run P w= .ok () w:=by
 unfold eqGuard;cases op<;>rfl
theorem RR {op:BinOp} {t:TypeId} {x y:Operand} {A B:Array Value} {P:Program} {w:World} (h:P.eqGuardType P.depth t=false):(eqGuard op t x y (.agg A) (.agg B)).run P w= .ok () w:=by
 unfold eqGuard;cases op<;>first | rfl | simp[h]
theorem alN {P:Program} {w:World} {op:BinOp} {t:TypeId} {k:IntKind} {a b:Int} {K:AV→Prop} (h:Fq op k a b K):
  ∃r u,K r∧(binOp op t (.int k a) (.int k b)).run P w= .ok u w∧ ∀E:Env,V3 E r u:=by
 cases op<;>simp only[Fq] at h
 case add=>exact⟨_,_,h,by simp[binOp,Op.intArith],fun E=>aP.int _ _⟩
 case sub=>exact⟨_,_,h,by simp[binOp,Op.intArith],fun E=>aP.int _ _⟩
 case mul=>exact⟨_,_,h,by simp[binOp,Op.intArith],fun E=>aP.int _ _⟩
 case quo=>exact⟨_,_,h.2,by simp[binOp,Op.intDiv,h.1],fun E=>aP.int _ _⟩
 case rem=>exact⟨_,_,h.2,by simp[binOp,Op.intDiv,h.1],fun E=>aP.int _ _⟩
 case and=>exact⟨_,_,h,by simp[binOp,Op.intBits],fun E=>aP.int _ _⟩
 case eql=>exact⟨_,_,h,by simp[binOp,Op.intCmp],fun E=>aP.bool _⟩
 case neq=>exact⟨_,_,h,by simp[binOp,Op.intCmp],fun E=>aP.bool _⟩
 case lss=>exact⟨_,_,h,by simp[binOp,Op.intCmp],fun E=>aP.bool _⟩
 case leq=>exact⟨_,_,h,by simp[binOp,Op.intCmp],fun E=>aP.bool _⟩
 case gtr=>exact⟨_,_,h,by simp[binOp,Op.intCmp],fun E=>aP.bool _⟩
 case geq=>exact⟨_,_,h,by simp[binOp,Op.intCmp],fun E=>aP.bool _⟩
theorem aaw {P:Program} {t:TypeId} (h:two P t=true): ∃f g:Field,P.underlying t=some (.struct (P.fieldsOf t))∧(P.fieldsOf t).toList=[f,g]∧P.stoodInHeld t=false∧P.eqGuardType P.depth t=false∧
  f.name≠ "_" ∧g.name≠ "_" ∧f.offset=0∧g.offset=1∧P.underlying f.type=some (.int .i64)∧P.underlying g.type=some (.int .i64):=by
 unfold two at h
 split at h
 ·rename_i eQ qe
  have hf:P.fieldsOf t=eQ:=by simp[Program.fieldsOf,qe]
  simp only[Bool.and_eq_true,Bool.not_eq_true'] at h
  obtain⟨⟨h1,h2⟩,aD⟩:=h
  split at aD
  ·rename_i f g aw
   simp only[Bool.and_eq_true,bne_iff_ne,ne_eq,beq_iff_eq] at aD
   obtain⟨⟨⟨⟨⟨q1,q2⟩,q3⟩,q4⟩,cN⟩,c2⟩:=aD
   refine⟨f,g,by rw[hf];exact qe,by rw[hf];exact aw,h1,h2,q1,q2,q3,q4,?_,?_⟩
   ·split at cN
    ·assumption
    ·cases cN
   ·split at c2
    ·assumption
    ·cases c2
  ·cases aD
 ·cases h
theorem Yq {P:Program} {t:TypeId} (h:two P t=true) (a b c d:Int) (w:World):
  (Op.equal t (.agg #[.int .i64 a,.int .i64 b]) (.agg #[.int .i64 c,.int .i64 d])).run P w= .ok (a==c&&b==d) w:=by
 obtain⟨f,g,h1,h2,aD,bj,cl,cC,hM,tZ,xl,C2⟩:=aaw h
 show(Op.equalIn (9999+1) t _ _).run P w=_
 rw[run_equalIn_struct w 9999 t _ _ h1 aD,h2]
 have fU: ∀(iE:TypeId) (al:Array Value) (o:Nat) (u:Value),P.underlying iE=some (.int .i64)→al[o]?=some u→(part iE al o).run P w= .ok u w:=by
  intro iE al o u hu hc
  simp[part,Go.isAgg,run_underlying hu,hc]
 simp only[Op.eqFields,if_pos cl,if_pos cC,hM,tZ,Sem.run_bind]
 rw[fU f.type #[.int .i64 a,.int .i64 b] 0 (.int .i64 a) xl rfl]
 simp only[Result.andThen_ok]
 rw[fU f.type #[.int .i64 c,.int .i64 d] 0 (.int .i64 c) xl rfl]
 simp only[Result.andThen_ok]
 rw[show(9999:Nat)=9998+1 from rfl,run_equalIn_int w 9998 f.type .i64 .i64 a c xl]
 simp only[Result.andThen_ok]
 cases apw:(a==c)
 ·simp
 ·simp only[Bool.not_true,Bool.false_eq_true,if_false,Sem.run_bind]
  rw[fU g.type #[.int .i64 a,.int .i64 b] 1 (.int .i64 b) C2 rfl]
  simp only[Result.andThen_ok]
  rw[fU g.type #[.int .i64 c,.int .i64 d] 1 (.int .i64 d) C2 rfl]
  simp only[Result.andThen_ok]
  rw[run_equalIn_int w 9998 g.type .i64 .i64 b d C2]
  cases apy:(b==d)<;>simp
theorem V3.aav {E:Env} {a b:Int} {v:Value} (h:V3 E (.agg [.int .i64 a,.int .i64 b]) v):v= .agg #[.int .i64 a,.int .i64 b]:=by
 obtain⟨vs,rfl,ab⟩:=(h:V2 E (.agg [.int .i64 a,.int .i64 b]) v)
 obtain⟨x,vs,rfl,hx,ab⟩:=ab.cons_inv
 obtain⟨y,vs,rfl,aX,ab⟩:=ab.cons_inv
 obtain rfl:=ab.n8
 have jz:aP E.w E.PA E.PF (.int .i64 a) x:=hx
 have agy:aP E.w E.PA E.PF (.int .i64 b) y:=aX
 cases jz;cases agy;rfl
theorem aau {l:List AV} {p:Int×Int} (h:B0 l=some p):l=[.int .i64 p.1,.int .i64 p.2]:=by
 unfold B0 at h
 split at h
 ·cases h;rfl
 ·cases h
theorem vn {P:Program} {t e:TypeId} (h:j_ P t=some e):P.underlying t=some (.slice e):=by
 unfold j_ at h
 split at h
 ·cases h;assumption
 ·cases h
theorem abU {P:Program} {op:BinOp} {t:TypeId} {X Y:Operand} {Qu Ck:AV} {jN IH:Value} {E:Env} {K:AV→Prop}
  {va:Bool} (hx:V3 E Qu jN) (aX:V3 E Ck IH) (LH:va=true→IH= .slice none 0 0) (h:vh P op t Qu Ck va K):
  ∃r u,K r∧(do eqGuard op t X Y jN IH;binOp op t jN IH:Sem Value).run P E.w= .ok u E.w∧V3 E r u:=by
 cases Qu with
 | int k a=>
  cases Ck with
  | int kH b=>
   replace h:Fs op k a kH b K:=h
   obtain rfl:=hx.qi
   obtain rfl:=aX.qi
   cases op
   case shl=>
    obtain⟨hb,h⟩:=h
    have dT: ¬b<0:=by omega
    exact⟨_,_,h,by simp[J_,binOp,Op.shift,dT],aP.int _ _⟩
   case shr=>
    obtain⟨hb,h⟩:=h
    have dT: ¬b<0:=by omega
    exact⟨_,_,h,by simp[J_,binOp,Op.shift,dT],aP.int _ _⟩
   all_goals
    simp only[Fs] at h
    split at h
    ·rename_i hk
     subst hk
     obtain⟨r,u,hK,aj,hv⟩:=alN (P:=P) (w:=E.w) (t:=t) h
     exact⟨r,u,hK,by simp only[Sem.run_bind,J_,Result.andThen_ok,aj],hv E⟩
    ·exact h.elim
  | _=>exact h.elim
 | bool a=>
  cases Ck with
  | bool b=>
   replace h:Jk P op t a b K:=h
   obtain rfl:=hx.p2
   obtain rfl:=aX.p2
   unfold Jk at h
   split at h
   ·rename_i hu
    have pq:P.underlying t=some .bool:=by
     unfold Vc at hu
     split at hu
     ·assumption
     ·cases hu
    cases op<;>first | exact h.elim | skip
    case eql=>exact⟨_,_,h,by simp only[Sem.run_bind,RS,Result.andThen_ok,binOp,Op.equal];rw[show Op.maxDepth=9999+1 from rfl,run_equalIn_bool' E.w 9999 t a b pq];rfl,aP.bool _⟩
    case neq=>exact⟨_,_,h,by simp only[Sem.run_bind,RS,Result.andThen_ok,binOp,Op.equal];rw[show Op.maxDepth=9999+1 from rfl,run_equalIn_bool' E.w 9999 t a b pq];rfl,aP.bool _⟩
   ·exact h.elim
  | _=>exact h.elim
 | str a=>
  cases Ck with
  | str b=>
   replace h:Jm op a b K:=h
   obtain rfl:=hx.BT
   obtain rfl:=aX.BT
   cases op<;>first | exact h.elim | skip
   case add=>
    obtain⟨aw,h⟩:=h
    have: ¬((a.size+b.size:Nat):Int)>IntKind.i64.max:=by
     have:IntKind.i64.max=9223372036854775807:=by decide
     rw[this];omega
    exact⟨_,_,h,by simp only[Sem.run_bind,Ka,Result.andThen_ok,binOp,Op.stringOp];rw[if_neg this];rfl,aP.str _⟩
   case eql=>exact⟨_,_,h,by simp only[Sem.run_bind,Ka,Result.andThen_ok,binOp,Op.stringOp];rfl,aP.bool _⟩
   case neq=>exact⟨_,_,h,by simp only[Sem.run_bind,Ka,Result.andThen_ok,binOp,Op.stringOp];rfl,aP.bool _⟩
  | _=>exact h.elim
 | agg l=>
  cases Ck with
  | agg m=>
   replace h:if two P t=true then cV (B0 l) fun p=>cV (B0 m) fun q=>Jn op p.1 p.2 q.1 q.2 K else False:=h
   split at h
   ·rename_i aY
    obtain⟨⟨a,b⟩,ab,h⟩:=fT h
    obtain⟨⟨c,d⟩,U,h⟩:=fT h
    obtain rfl:=aau ab
    obtain rfl:=aau U
    obtain rfl:=hx.aav
    obtain rfl:=aX.aav
    obtain⟨f,g,h1,h2,aD,bj,_⟩:=aaw aY
    cases op<;>first | exact h.elim | skip
    case eql=>exact⟨_,_,h,by simp only[Sem.run_bind,RR bj,Result.andThen_ok,binOp,Yq aY];rfl,aP.bool _⟩
    case neq=>exact⟨_,_,h,by simp only[Sem.run_bind,RR bj,Result.andThen_ok,binOp,Yq aY];rfl,aP.bool _⟩
   ·exact h.elim
  | _=>exact h.elim
 | aZ rows dP fr=>
  replace h:Jl P op t rows va K:=h
  unfold Jl at h
  split at h
  ·rename_i hc
   obtain⟨af,he⟩:=hc
   obtain⟨e,he⟩:=Option.isSome_iff_exists.1 he
   have hu:=vn he
   obtain rfl:=LH af
   have jz:aP E.w E.PA E.PF (.aZ rows dP fr) jN:=hx
   cases jz with
   | @aZ _ _ _ _ _ _ A cap sz vs fH fw gP cm eH hrel=>
   have gI:(do eqGuard op t X Y (.slice A rows.length cap) (.slice none 0 0);binOp .eql t (.slice A rows.length cap) (.slice none 0 0):Sem Value).run P E.w= .ok (.bool A.isNone) E.w:=by
    simp only[Sem.run_bind,adp,Result.andThen_ok,binOp,Op.equal]
    rw[show Op.maxDepth=9999+1 from rfl]
    generalize 9999=d
    simp only[Op.equalIn,Sem.run_bind,run_underlying hu,Result.andThen_ok]
    cases A<;>rfl
   cases op<;>first | exact h.elim | skip
   case eql=>
    obtain⟨h1,h2⟩:=h
    by_cases aj:rows=[]
    ·exact⟨_,_,h2 aj A.isNone,gI,aP.bool _⟩
    ·have:0<rows.length:=by cases rows<;>simp_all
     obtain⟨c,o,rfl,_⟩:=eH this
     exact⟨_,_,h1 aj,gI,aP.bool _⟩
  ·exact h.elim
 | _=>exact h.elim
theorem So (off:Nat): ∀(l:List Value) (k:Nat) (cells:Array Value),off+k+l.length≤cells.size→
  (((l.zipIdx k).foldl (fun al (x:Value×Nat)=>al.setIfInBounds (off+x.2) x.1) cells).size=cells.size∧
  ∀i,((l.zipIdx k).foldl (fun al (x:Value×Nat)=>al.setIfInBounds (off+x.2) x.1) cells)[i]?=if i<off+k then cells[i]? else if i<off+k+l.length then l[i - (off+k)]? else cells[i]?)
 | [],k,cells,_=>⟨rfl,fun i=>by simp;omega⟩
 | v::l,k,cells,h=>by
  have h':off+(k+1)+l.length≤(cells.setIfInBounds (off+k) v).size:=by simp at h ⊢;omega
  obtain⟨h1,h2⟩:=So off l (k+1) (cells.setIfInBounds (off+k) v) h'
  refine⟨by simp only[List.zipIdx_cons,List.foldl_cons];rw[h1];simp,fun i=> ?_⟩
  simp only[List.zipIdx_cons,List.foldl_cons]
  rw[h2 i]
  simp only[Array.getElem?_setIfInBounds,List.length_cons] at*
  by_cases J:i<off+k
  ·rw[if_pos (by omega),if_neg (by omega),if_pos J]
  ·by_cases a2:i=off+k
   ·subst a2
    rw[if_pos (by omega),if_pos rfl,if_pos (by omega),if_neg (by omega),if_pos (by omega)]
    simp
   ·by_cases a3:i<off+(k+1)+l.length
    ·rw[if_neg (by omega),if_pos a3,if_neg J,if_pos (by omega),show i - (off+k)=(i - (off+(k+1)))+1 by omega]
     simp
    ·rw[if_neg (by omega),if_neg a3,if_neg (by omega),if_neg J,if_neg (by omega)]
def rD (pl:Nat→Option (Nat×Nat)) (cells:List AV):List (Nat×AV)→Option (List AV)
 | []=>some cells
 | (i,v)::rest=>match pl i with
  | none=>none
  | some (off,size)=>if(fC v).length=size∧off+(fC v).length≤cells.length∧(fC v).all kR=true then rD pl (fI cells off (fC v)) rest else none
theorem F7 {E:Env} {pl:Nat→Option (Nat×Nat)}: ∀{parts:List (Nat×AV)} {lJ:List (Nat×Value)} {cells:List AV} {wR:Array Value} {r:List AV},
  ak (fun a b=>a.1=b.1∧V2 E a.2 b.2) parts lJ→ak (b4 E.bQ) cells wR.toList→rD pl cells parts=some r→ ∃iC,Instr.fill pl wR lJ=some iC∧ak (b4 E.bQ) r iC.toList
 | [],lJ,cells,wR,r,ab,hc,h=>by
  obtain rfl:=ab.n8
  cases h
  exact⟨wR,rfl,hc⟩
 | (i,v)::rest,lJ,cells,wR,r,ab,hc,h=>by
  obtain⟨⟨gZ,u⟩,apT,rfl,⟨hi,hv⟩,vC⟩:=ab.cons_inv
  simp only at hi hv
  subst hi
  unfold rD at h
  split at h
  ·cases h
  ·rename_i off size kc
   split at h
   ·rename_i qP
    obtain⟨h1,h2,aD⟩:=qP
    have xy:=JC hv aD
    have afi:ak (b4 E.bQ) (fC v) u.cells.toList:=⟨xy.1,fun i a b ar hb=>P7 (List.all_eq_true.1 aD a (List.mem_of_getElem? ar)) (xy.2 i a b ar hb)⟩
    have cm:u.cells.size=(fC v).length:=by rw[xy.1];simp
    have mR:cells.length=wR.size:=by rw[hc.1];simp
    obtain⟨f1,f2⟩:=So off u.cells.toList 0 wR (by simp;omega)
    simp only[Nat.add_zero] at f1 f2
    have Ai:ak (b4 E.bQ) (fI cells off (fC v)) ((u.cells.toList.zipIdx).foldl (fun al (x:Value×Nat)=>al.setIfInBounds (off+x.2) x.1) wR).toList:=by
     have hs:=ak.fI hc afi h2
     refine⟨?_,fun k a b ar hb=> ?_⟩
     ·simp only[Array.length_toList];rw[f1];simp[fI];omega
     ·refine hs.2 k a b ar ?_
      rw[BR (by simp;omega)]
      rw[Array.getElem?_toList,f2 k] at hb
      simpa using hb
    obtain⟨iC,aj,hrel⟩:=F7 vC Ai h
    refine⟨iC,?_,hrel⟩
    unfold Instr.fill
    rw[kc]
    simp only
    rw[if_neg (by simp;omega)]
    rw[←Array.foldl_toList,Array.toList_zipIdx]
    exact aj
   ·cases h
def o6 (P:Program) (t:TypeId):Option (List AV):=((P.info? t).bind (·.zero)).map fun z=>z.cells.toList.map qL
theorem acY (E:Env) (v:Value):b4 E (qL v) v:=by
 unfold qL
 split
 ·exact aP.int _ _
 ·exact aP.bool _
 ·exact aP.str _
 ·exact aP.aZ (PB:=fun _=>False) (sz:=0) (vs:=fun _ _=>undef) (fun _ h=>h.elim) ⟨Nat.le_refl _,Nat.zero_le _⟩ (fun _=>rfl) (fun i row h=>by simp at h) (fun h=>by simp at h) (fun i j row a h=>by simp at h)
 ·exact aP.gR
 ·exact aP.ht
 ·exact aP.undef _
theorem zb {E:Env} {P:Program} {t:TypeId} {z:List AV} (h:o6 P t=some z): ∃i v,P.info? t=some i∧i.zero=some v∧z=v.cells.toList.map qL∧ak (b4 E) z v.cells.toList:=by
 unfold o6 at h
 cases hi:P.info? t with
 | none=>simp[hi] at h
 | some i=>
  cases az:i.zero with
  | none=>simp[hi,az] at h
  | some v=>
   simp[hi,az] at h
   subst h
   refine⟨i,v,rfl,az,rfl,by simp,fun k a b ar hb=> ?_⟩
   rw[List.getElem?_map,hb] at ar
   simp at ar;subst ar;exact acY E b
def NL (P:Program) (t:TypeId):Option (List (Nat×Nat)):=match P.underlying t with
 | some (.struct eQ)=>eQ.toList.mapM (fun f=>(P.info? f.type).map fun i=>(f.offset,i.size))
 | _=>none
def Jq (P:Program) (t:TypeId) (parts:List (Nat×AV)) (K:AV→Prop):Prop:=
 cV (o6 P t) fun z=>cV (NL P t) fun pl=>cV (rD (fun i=>pl[i]?) z parts) fun cells=>K (.agg cells)
theorem ab4 {P:Program} {E:Env} {t:TypeId} {parts:List (Nat×AV)} {lJ:List (Nat×Value)} {K:AV→Prop} (ab:ak (fun a b=>a.1=b.1∧V2 E a.2 b.2) parts lJ) (h:Jq P t parts K):
  ∃r u,K r∧(Instr.build t lJ.toArray).run P E.w= .ok u E.w∧V3 E r u:=by
 obtain⟨z,az,h⟩:=fT h
 obtain⟨pl,kc,h⟩:=fT h
 obtain⟨cells,hf,h⟩:=fT h
 obtain⟨i,v,h1,h2,aD,bj⟩:=zb (E:=E.bQ) az
 obtain⟨iC,aj,hrel⟩:=F7 ab bj hf
 refine⟨_,.agg iC,h,run_build E.w t lJ.toArray iC ?_,iC.toList,by simp,hrel.mono fun _ _ k=>k.up⟩
 unfold NL at kc
 split at kc
 ·rename_i eQ qe
  unfold Program.built
  rw[h1,qe]
  simp only[h2,kc]
  simpa using aj
 ·cases kc
def ky:AV→Bool
 | .int _ _ | .bool _ | .str _ | .aZ _ _ _ | .gR | .ht=>true
 | _=>false
def p_:AV→Bool
 | .aZ _ _ fr=>fr
 | _=>true
def j4:AV→AV
 | .aZ rows _ _=> .aZ rows false false
 | a=>a
def ra:AV→AV
 | .aZ rows full _=> .aZ rows full true
 | a=>a
theorem alA {w:World} {PB PA PF:Nat→Prop} {a:AV} {v:Value} (h:aP w PB (fun _=>False) a v) (hb: ∀c,PB c→PF c) (Ll: ∀c,PF c→PA c):aP w PA PF (ra a) v:=by
 have key:(∀rows full fr,a≠ .aZ rows full fr)→aP w PA PF (ra a) v:=fun bq=>by
  have e:ra a=a:=by cases a<;>first | rfl | exact absurd rfl (bq _ _ _)
  rw[e]
  exact h.mono (fun _ _=>rfl) (fun _ h=>h.elim) (fun c hc=>Ll c (hb c hc)) (fun _ h=>h.elim)
 cases a with
 | aZ rows full fr=>
  cases h with
  | aZ fH fw gP cm eH hrel=>
   exact .aZ (fun c hc=>by
    have:=fH c hc
    rw[if_pos rfl]
    split at this
    ·exact this.elim
    ·exact hb c this) fw gP cm eH hrel
 | _=>exact key (fun _ _ _ e=>by cases e)
theorem Qn {w:World} {PA PF PB:Nat→Prop} {a:AV} {v:Value} (ar:ky a=true) (h:aP w PA PF a v) (hb: ∀c,PA c→PB c) (Ll: ∀c,PF c→PA c):aP w PB (fun _=>False) (j4 a) v:=by
 cases h with
 | undef=>cases ar
 | int=>exact .int _ _
 | bool=>exact .bool _
 | str=>exact .str _
 | aZ fH fw gP cm eH hrel=>
  exact .aZ (fun c hc=>by
   have:=fH c hc
   simp only[Bool.false_eq_true,if_false]
   split at this
   ·exact hb c (Ll c this)
   ·exact hb c this) fw (fun h=>by cases h) cm eH hrel
 | dz=>cases ar
 | gR=>exact .gR
 | ht=>exact .ht
 | fn=>cases ar
theorem aay {w:World} {PA PF:Nat→Prop} {a:AV} {v:Value} (ar:ky a=true) (hf:p_ a=true) (h:aP w PA PF a v):aP w PF (fun _=>False) (j4 a) v:=by
 cases h with
 | undef=>cases ar
 | int=>exact .int _ _
 | bool=>exact .bool _
 | str=>exact .str _
 | @aZ _ _ PB rows full fresh A cap sz vs fH fw gP cm eH hrel=>
  have vv:fresh=true:=hf
  subst vv
  exact .aZ (fun c hc=>by simpa using fH c hc) fw (fun h=>by cases h) cm eH hrel
 | dz=>cases ar
 | gR=>exact .gR
 | ht=>exact .ht
 | fn=>cases ar
def chunk (size n:Nat) (cells:List AV):List (List AV):=(List.range n).map fun i=>(cells.drop (i*size)).take size
def zD (P:Program) (t:TypeId) (n:Nat) (parts:List (Nat×AV)) (K:AV→Prop):Prop:=
 cV (j_ P t) fun e=>cV (o6 P e) fun z=>if z.length=P.cellsOf e∧n*z.length≤1000000∧n≤1000000 then
  cV (rD (fun i=>some (i*z.length,z.length)) ((List.range (n*z.length)).map fun i=>z.getD (i%z.length) .undef) parts) fun cells=>
   if cells.all ky=true then K (.aZ (chunk z.length n (cells.map j4)) true (cells.all p_)) else False
 else False
theorem Fy {E:Env} {a:AV} {v:Value} (ar:ky a=true) (h:b4 E a v):aP E.w E.PA E.PF a v:=by
 cases a<;>first | exact h | cases ar
theorem Rs {size n i j:Nat} {cells row:List AV} {a:AV} (aj:(chunk size n cells)[i]?=some row) (ah:row[j]?=some a):i<n∧j<size∧cells[i*size+j]?=some a:=by
 unfold chunk at aj
 rw[List.getElem?_map] at aj
 cases xP:(List.range n)[i]? with
 | none=>simp[xP] at aj
 | some k=>
  have hi:i<n:=by have:=(List.getElem?_eq_some_iff.1 xP).1;simpa using this
  rw[List.getElem?_range hi] at xP
  cases xP
  rw[List.getElem?_range hi] at aj
  simp at aj
  subst aj
  rw[List.getElem?_take] at ah
  split at ah
  ·rw[List.getElem?_drop] at ah
   exact⟨hi,by assumption,ah⟩
  ·cases ah
theorem tM (w:World) (o:Obj) (c:Nat) (h:c<w.heap.size):(w.alloc o).heap[c]?=w.heap[c]?:=Go.RowKit.Below.heap_alloc w o c h
theorem p0 (w:World) (o:Obj):(w.alloc o).heap[w.heap.size]?=some o:=by
 show(w.heap.push o)[w.heap.size]?=_
 simp
theorem nb.alloc {E:Env} {H:List Blk} (ax:SimH E H) {o:Obj} (an: ∃al ty,o= .cells al ty (0,0)):
  nb E {E with w:=E.w.alloc o,PA:=fun c=>E.PA c∨c=E.w.heap.size,PF:=fun c=>E.PF c∨c=E.w.heap.size} where
 step:=⟨⟨fun _ h=> .inl h,fun _ h=> .inl h,fun c hc=>tM _ _ _ (ax.ea c hc),fun c hc=>tM _ _ _ (ax.ea c (ax.dU c hc)),fun _=>Nat.le_refl _,fun _ _ h _=>⟨h,rfl,rfl⟩,fun _ _ h=>h⟩,
  rfl,rfl,rfl,by simp,fun c hc _ _=>tM _ _ _ hc,fun _ _ h=> .inl h,fun _ h=> .inl h,fun c hc=>hc.elim .inl (fun e=> .inr (by omega)),fun c hc=>hc.elim .inl (fun e=> .inr (by omega))⟩
 m:=rfl
 mL:=rfl
 bm:=rfl
 sz:=rfl
 cp:=rfl
 cZ:=fun c hc=>tM _ _ _ hc
 gF:=fun c hc=>hc.elim .inl (fun e=> .inr (by simp;omega))
 dU:=fun c hc=>hc.elim (fun h=> .inl (ax.dU c h)) .inr
 ga:=fun c hc=>hc.elim (fun h=>(ax.ga c h).same (tM _ _ _ (ax.ea c (ax.dU c h)))) fun e=>by
  obtain⟨al,ty,rfl⟩:=an
  subst e;exact⟨al,ty,p0 _ _⟩
theorem ab2 {P:Program} {E:Env} {t:TypeId} {e:TypeId} {n:Nat} {z:List AV} {parts:List (Nat×AV)} {lJ:List (Nat×Value)} {cells:List AV} (ab:ak (fun a b=>a.1=b.1∧V2 E a.2 b.2) parts lJ) (he:j_ P t=some e) (az:o6 P e=some z)
  (qh:z.length=P.cellsOf e) (afa:n*z.length≤1000000∧n≤1000000) (hf:rD (fun i=>some (i*z.length,z.length)) ((List.range (n*z.length)).map fun i=>z.getD (i%z.length) .undef) parts=some cells):
  ∃iC,ak (b4 E.bQ) cells iC.toList∧(Instr.buildSlice t n lJ.toArray).run P E.w= .ok (.slice (some ⟨E.w.heap.size,0,none⟩) n n) (E.w.alloc (.cells iC e))∧cells.length=n*z.length:=by
 obtain⟨i,v,h1,h2,aD,bj⟩:=zb (E:=E.bQ) az
 have xU:v.cells.size=z.length:=by rw[aD];simp
 have Ac:i.size=z.length:=by rw[qh];simp[Program.cellsOf,h1]
 let mD:Array Value:=if n*z.length=0 then #[] else v.cells
 let base:Array Value:=(Array.range (n*z.length)).map (fun i=>mD[i%mD.size]!)
 have rO:ak (b4 E.bQ) ((List.range (n*z.length)).map fun i=>z.getD (i%z.length) .undef) base.toList:=by
  refine⟨by simp[base],fun k a b ar hb=> ?_⟩
  rw[List.getElem?_map] at ar
  have hk:k<n*z.length:=by
   cases U:(List.range (n*z.length))[k]? with
   | none=>simp[U] at ar
   | some x=>have:=(List.getElem?_eq_some_iff.1 U).1;simpa using this
  rw[List.getElem?_range hk] at ar
  simp only[Option.map_some,Option.some.injEq] at ar
  have mV:0<z.length:=by
   rcases Nat.eq_zero_or_pos z.length with q | q
   ·rw[q,Nat.mul_zero] at hk;omega
   ·exact q
  have aM:k%z.length<z.length:=Nat.mod_lt _ mV
  have rU:mD=v.cells:=if_neg (by omega)
  have dT:base[k]?=some (v.cells[k%z.length]!):=by
   show((Array.range (n*z.length)).map (fun i=>mD[i%mD.size]!))[k]?=_
   rw[rU,xU]
   simp[hk]
  rw[Array.getElem?_toList,dT] at hb
  simp only[Option.some.injEq] at hb
  have pt:v.cells.toList[k%z.length]?=some (v.cells[k%z.length]!):=by
   rw[Array.getElem?_toList,Array.getElem?_eq_getElem (by omega)]
   congr 1
   exact(getElem!_pos v.cells (k%z.length) (by omega)).symm
  have LI:z[k%z.length]?=some a:=by
   rw[←ar,List.getD_eq_getElem?_getD,List.getElem?_eq_getElem aM];rfl
  rw[←hb]
  exact bj.2 _ _ _ LI pt
 obtain⟨iC,aj,hrel⟩:=F7 ab rO hf
 have hu:=vn he
 have gI:(Instr.buildSlice t n lJ.toArray).run P E.w= .ok (.slice (some ⟨E.w.heap.size,0,none⟩) n n) (E.w.alloc (.cells iC e)):=by
  have rM: ¬n*z.length>2 ^ 24:=by omega
  simp only[Instr.buildSlice,Sem.run_bind,run_underlying hu,Result.andThen_ok,run_sizeOf (show(P.info? e).isSome=true by rw[h1];rfl),←qh,if_neg rM]
  have fp:Instr.fill (fun i=>some (i*z.length,z.length)) ((Array.range (n*z.length)).map (fun x=>mD[x%mD.size]!)) lJ=some iC:=aj
  by_cases q:n*z.length=0
  ·have rU:mD= #[]:=if_pos q
   rw[if_pos q]
   simp only[Sem.run_bind,Sem.run_pure,Result.andThen_ok]
   rw[←rU,fp]
   simp[newRow]
  ·have rU:mD=v.cells:=if_neg q
   rw[if_neg q]
   simp only[Sem.run_bind,Sem.run_pure,Result.andThen_ok,zeroValue,typeInfo,h1,h2,run_program]
   rw[←rU,fp]
   simp[newRow]
 have hlen:cells.length=n*z.length:=by
  have q:=hrel.1
  have: ∀(parts:List (Nat×AV)) (c r:List AV),rD (fun i=>some (i*z.length,z.length)) c parts=some r→r.length=c.length:=by
   intro parts
   induction parts with
   | nil=>intro c r bw;cases bw;rfl
   | cons p ps bz=>
    intro c r bw
    obtain⟨a,b⟩:=p
    unfold rD at bw
    split at bw
    ·cases bw
    ·split at bw
     ·rename_i hc
      rw[bz _ _ bw];simp[fI];omega
     ·cases bw
  rw[this _ _ _ hf];simp
 exact⟨iC,hrel,gI,hlen⟩
theorem Ri {P:Program} {E:Env} {H:List Blk} {t:TypeId} {n:Nat} {parts:List (Nat×AV)} {lJ:List (Nat×Value)} {K:AV→Prop} (ax:SimH E H) (ab:ak (fun a b=>a.1=b.1∧V2 E a.2 b.2) parts lJ) (h:zD P t n parts K):
  ∃r u E',K r∧(Instr.buildSlice t n lJ.toArray).run P E.w= .ok u E'.w∧nb E E'∧V3 E' r u:=by
 obtain⟨e,he,h⟩:=fT h
 obtain⟨z,az,h⟩:=fT h
 split at h
 case isFalse=>exact h.elim
 case isTrue hb=>
 obtain⟨qh,afa⟩:=hb
 obtain⟨cells,hf,h⟩:=fT h
 split at h
 case isFalse=>exact h.elim
 case isTrue hby=>
 obtain⟨i,v,h1,h2,aD,bj⟩:=zb (E:=E.bQ) az
 have xU:v.cells.size=z.length:=by rw[aD];simp
 have Ac:i.size=z.length:=by rw[qh];simp[Program.cellsOf,h1]
 let mD:Array Value:=if n*z.length=0 then #[] else v.cells
 let base:Array Value:=(Array.range (n*z.length)).map (fun i=>mD[i%mD.size]!)
 have rO:ak (b4 E.bQ) ((List.range (n*z.length)).map fun i=>z.getD (i%z.length) .undef) base.toList:=by
  refine⟨by simp[base],fun k a b ar hb=> ?_⟩
  rw[List.getElem?_map] at ar
  have hk:k<n*z.length:=by
   cases U:(List.range (n*z.length))[k]? with
   | none=>simp[U] at ar
   | some x=>have:=(List.getElem?_eq_some_iff.1 U).1;simpa using this
  rw[List.getElem?_range hk] at ar
  simp only[Option.map_some,Option.some.injEq] at ar
  have mV:0<z.length:=by
   rcases Nat.eq_zero_or_pos z.length with q | q
   ·rw[q,Nat.mul_zero] at hk;omega
   ·exact q
  have aM:k%z.length<z.length:=Nat.mod_lt _ mV
  have rU:mD=v.cells:=if_neg (by omega)
  have dT:base[k]?=some (v.cells[k%z.length]!):=by
   show((Array.range (n*z.length)).map (fun i=>mD[i%mD.size]!))[k]?=_
   rw[rU,xU]
   simp[hk]
  rw[Array.getElem?_toList,dT] at hb
  simp only[Option.some.injEq] at hb
  have pt:v.cells.toList[k%z.length]?=some (v.cells[k%z.length]!):=by
   rw[Array.getElem?_toList,Array.getElem?_eq_getElem (by omega)]
   congr 1
   exact(getElem!_pos v.cells (k%z.length) (by omega)).symm
  have LI:z[k%z.length]?=some a:=by
   rw[←ar,List.getD_eq_getElem?_getD,List.getElem?_eq_getElem aM];rfl
  rw[←hb]
  exact bj.2 _ _ _ LI pt
 obtain⟨iC,aj,hrel⟩:=F7 ab rO hf
 have U:=nb.alloc ax (o:= .cells iC e) ⟨_,_,rfl⟩
 have hu:=vn he
 have gI:(Instr.buildSlice t n lJ.toArray).run P E.w= .ok (.slice (some ⟨E.w.heap.size,0,none⟩) n n) (E.w.alloc (.cells iC e)):=by
  have rM: ¬n*z.length>2 ^ 24:=by omega
  simp only[Instr.buildSlice,Sem.run_bind,run_underlying hu,Result.andThen_ok,run_sizeOf (show(P.info? e).isSome=true by rw[h1];rfl),←qh,if_neg rM]
  have fp:Instr.fill (fun i=>some (i*z.length,z.length)) ((Array.range (n*z.length)).map (fun x=>mD[x%mD.size]!)) lJ=some iC:=aj
  by_cases q:n*z.length=0
  ·have rU:mD= #[]:=if_pos q
   rw[if_pos q]
   simp only[Sem.run_bind,Sem.run_pure,Result.andThen_ok]
   rw[←rU,fp]
   simp[newRow]
  ·have rU:mD=v.cells:=if_neg q
   rw[if_neg q]
   simp only[Sem.run_bind,Sem.run_pure,Result.andThen_ok,zeroValue,typeInfo,h1,h2,run_program]
   rw[←rU,fp]
   simp[newRow]
 have hlen:cells.length=n*z.length:=by
  have q:=hrel.1
  have: ∀(parts:List (Nat×AV)) (c r:List AV),rD (fun i=>some (i*z.length,z.length)) c parts=some r→r.length=c.length:=by
   intro parts
   induction parts with
   | nil=>intro c r bw;cases bw;rfl
   | cons p ps bz=>
    intro c r bw
    obtain⟨a,b⟩:=p
    unfold rD at bw
    split at bw
    ·cases bw
    ·split at bw
     ·rename_i hc
      rw[bz _ _ bw];simp[fI];omega
     ·cases bw
  rw[this _ _ _ hf];simp
 refine⟨_,_,_,h,gI,U,?_⟩
 have mR:(chunk z.length n (cells.map j4)).length=n:=by simp[chunk]
 show aP (E.w.alloc (.cells iC e)) (fun c=>E.PA c∨c=E.w.heap.size) (fun c=>E.PF c∨c=E.w.heap.size) _ _
 have key:=aP.aZ (w:=E.w.alloc (.cells iC e)) (PA:=fun c=>E.PA c∨c=E.w.heap.size) (PF:=fun c=>E.PF c∨c=E.w.heap.size)
  (PB:=if cells.all p_=true then(fun c=>E.PF c∨c=E.w.heap.size) else(fun c=>E.PA c∨c=E.w.heap.size))
  (rows:=chunk z.length n (cells.map j4)) (full:=true) (fresh:=cells.all p_) (A:=some ⟨E.w.heap.size,0,none⟩) (cap:=n) (sz:=z.length) (vs:=fun i j=>(iC[i*z.length+j]?).getD undef)
  (fun c hc=>by split at hc<;>(rename_i q;simp only[q];first | exact hc | simpa using hc)) (by omega) (fun _=>mR.symm)
  (fun i row aj=>by
   unfold chunk at aj
   rw[List.getElem?_map] at aj
   cases xP:(List.range n)[i]? with
   | none=>simp[xP] at aj
   | some k=>
    have hi:i<n:=by have:=(List.getElem?_eq_some_iff.1 xP).1;simpa using this
    rw[List.getElem?_range hi] at aj
    simp at aj
    subst aj
    have:i*z.length+z.length≤n*z.length:=by
     calc i*z.length+z.length=(i+1)*z.length:=by rw[Nat.add_mul,Nat.one_mul]
      _≤n*z.length:=Nat.mul_le_mul_right _ (by omega)
    simp;omega)
  (fun _=>⟨E.w.heap.size,0,rfl,by split<;>exact .inr rfl,fun i j hi ah=>by
   rw[mR] at hi
   have:i*z.length+z.length≤n*z.length:=by
    calc i*z.length+z.length=(i+1)*z.length:=by rw[Nat.add_mul,Nat.one_mul]
     _≤n*z.length:=Nat.mul_le_mul_right _ (by omega)
   have Lv:iC.size=n*z.length:=by rw[←hlen,hrel.1];simp
   rw[Nat.zero_add]
   have aM:i*z.length+j<iC.size:=by omega
   rw[World.cell?_alloc_new]
   simp[Array.getElem?_eq_getElem aM]⟩)
  (fun i j row a aj ah=>by
   obtain⟨hi,apE,hc⟩:=Rs aj ah
   rw[List.getElem?_map] at hc
   cases xw:cells[i*z.length+j]? with
   | none=>simp[xw] at hc
   | some b=>
    simp[xw] at hc
    subst hc
    obtain⟨u,hu,hX⟩:=hrel.get xw
    have KW:ky b=true:=List.all_eq_true.1 hby b (List.mem_of_getElem? xw)
    have oD:=Fy KW hX.up
    have pq:(iC[i*z.length+j]?).getD undef=u:=by rw[Array.getElem?_toList] at hu;rw[hu];rfl
    rw[pq]
    by_cases eG:cells.all p_=true
    ·have afx:p_ b=true:=List.all_eq_true.1 eG b (List.mem_of_getElem? xw)
     rw[if_pos eG]
     exact(aay KW afx oD).mono (fun c hc=>tM _ _ _ (ax.ea c (ax.dU c hc))) (fun c hc=>hc.elim) (fun c hc=> .inl hc) (fun c hc=>hc)
    ·rw[if_neg eG]
     exact(Qn KW oD (fun c hc=>hc) ax.dU).mono (fun c hc=>tM _ _ _ (ax.ea c hc)) (fun c hc=>hc.elim) (fun c hc=> .inl hc) (fun c hc=>hc))
 rw[mR] at key
 exact key
def F4 (P:Program) (t:TypeId) (f:Nat):Option Field:=match P.underlying t with
 | some (.struct eQ)=>eQ.toList[f]?
 | _=>none
theorem adC {P:Program} {t:TypeId} {f:Nat} {fd:Field} (h:F4 P t f=some fd): ∃eQ,P.underlying t=some (.struct eQ)∧eQ[f]?=some fd:=by
 unfold F4 at h
 split at h
 ·rename_i eQ qe;exact⟨eQ,qe,by simpa using h⟩
 ·cases h
def Kn (P:Program) (t:TypeId) (x:AV) (f:Nat) (K:AV→Prop):Prop:=
 cV (F4 P t f) fun fd=>if(P.info? fd.type).isSome=true∧P.cellsOf fd.type≠0 then(match x with
  | .fS s c=>K (.fS s (c+fd.offset))
  | .ptr b g r c=>K (.ptr b g r (c+fd.offset))
  | .dz cells c=>K (.dz cells (c+fd.offset))
  | _=>False) else False
theorem alP {P:Program} {fd:Field} {w:World} {c o:Nat} (hi:(P.info? fd.type).isSome=true) (az:P.cellsOf fd.type≠0):
  (fieldPlace ⟨c,o,none⟩ fd).run P w= .ok ⟨c,o+fd.offset,none⟩ w:=by
 simp[fieldPlace,run_sizeOf hi,az,pZ]
theorem adB {P:Program} {t:TypeId} {x:AV} {f:Nat} {K:AV→Prop} {E:Env} {v:Value} (hx:V3 E x v)
  (h:Kn P t x f K):
  ∃r u,K r∧(Instr.fieldAt t v f).run P E.w= .ok u E.w∧V3 E r u:=by
 obtain⟨fd,hf,h⟩:=fT h
 obtain⟨eQ,hu,afy⟩:=adC hf
 split at h
 case isFalse=>exact h.elim
 case isTrue hc=>
 obtain⟨hi,az⟩:=hc
 have run: ∀bl o,(Instr.fieldAt t (.pointer (some ⟨bl,o,none⟩)) f).run P E.w= .ok (.pointer (some ⟨bl,o+fd.offset,none⟩)) E.w:=by
  intro bl o
  simp[Instr.fieldAt,run_underlying hu,afy,Instr.sureAddr,alP hi az]
 cases x with
 | fS s c=>
  obtain⟨bl,hm,rfl⟩:=hx.DV
  exact⟨_,_,h,run bl c,bl,hm,rfl⟩
 | ptr b g r c=>
  rcases(show fu E (.ptr b g r c) v from hx) with⟨aE,bl,o,rfl⟩ | ⟨aE,bl,hm,rfl⟩
  ·exact⟨_,_,h,run bl o,.inl ⟨aE,_,_,rfl⟩⟩
  ·exact⟨_,_,h,run bl _,.inr ⟨aE,bl,hm,by rw[Nat.add_assoc]⟩⟩
 | dz cells c=>
  have jz:aP E.w E.PA E.PF (.dz cells c) v:=hx
  cases jz with
  | @dz _ _ _ _ bl o vs hc eH hrel=>
   exact⟨_,_,h,run bl _,by rw[Nat.add_assoc];exact aP.dz hc eH hrel⟩
 | _=>exact h.elim
def At (P:Program) (t:TypeId) (x i:AV) (H:List Blk) (K:AV→Prop):Prop:=
 cV (j_ P t) fun e=>if(P.info? e).isSome=true then(match i with
  | .int _ n=>(match x with
   | .aZ rows _ _=>0≤n∧cV rows[n.toNat]? fun row=>row.length=P.cellsOf e∧K (.dz row 0)
   | .ref b g off m _=>cV H[b]? fun blk=>blk.bm=g∧blk.sz=P.cellsOf e∧0≤n∧n<m∧K (.ptr b g (off+n.toNat) 0)
   | _=>False)
  | _=>False) else False
theorem agG {P:Program} {t:TypeId} {x i:AV} {K:AV→Prop} {E:Env} {L lN:List (Nat×List AV)} {H fs:List Blk} {v DM:Value} (sub:Sub L H lN fs) (ax:SimH E fs) (hx:V3 E x v) (hi:V3 E i DM)
  (h:At P t x i H K): ∃r u,K r∧(Instr.indexAt t v DM).run P E.w= .ok u E.w∧V3 E r u:=by
 obtain⟨e,he,h⟩:=fT h
 have hu:=vn he
 split at h
 case isFalse=>exact h.elim
 case isTrue hinf=>
 cases i with
 | int k n=>
  obtain rfl:=hi.qi
  cases x with
  | aZ rows full fresh=>
   obtain⟨aA,h⟩:=(show 0≤n∧cV rows[n.toNat]? fun row=>row.length=P.cellsOf e∧K (.dz row 0) from h)
   obtain⟨row,aj,aw,hK⟩:=fT h
   have aM:n.toNat<rows.length:=(List.getElem?_eq_some_iff.1 aj).1
   have jz:aP E.w E.PA E.PF (.aZ rows full fresh) v:=hx
   cases jz with
   | @aZ _ _ PB _ _ _ A cap sz vs fH fw gP cm eH hrel=>
    obtain⟨c,o,rfl,hc,eG⟩:=eH (by omega)
    have Dt:=cm _ _ aj
    refine⟨_,.pointer (some ⟨c,o+n.toNat*P.cellsOf e,none⟩),hK,?_,?_⟩
    ·simp only[Instr.indexAt,Sem.run_bind,asIntOf,Sem.run_pure,Result.andThen_ok,run_underlying hu]
     rw[if_pos ⟨aA,by omega⟩]
     simp[run_sizeOf hinf,pZ]
    ·show aP _ _ _ _ _
     have:=aP.dz (w:=E.w) (PA:=E.PA) (PF:=E.PF) (cells:=row) (col:=0) (c:=c) (o:=o+n.toNat*P.cellsOf e) (vs:=vs n.toNat)
      (by have:=fH c hc;split at this;exact ax.dU c this;exact this)
      (fun j ah=>by rw[Nat.add_assoc,←aw,Dt];exact eG n.toNat j aM (by omega))
      (fun j a ah=>(hrel n.toNat j row a aj ah).mono (fun _ _=>rfl) (fun _ h=>h.elim) (fun d aW=>by
       have:=fH d aW;split at this;exact ax.dU d this;exact this) (fun _ h=>h))
     simpa using this
  | ref b g off m full=>
   obtain⟨blk,hb,aE,nT,aA,h1,hK⟩:=fT (show cV H[b]? fun blk=>blk.bm=g∧blk.sz=P.cellsOf e∧0≤n∧n<m∧K (.ptr b g (off+n.toNat) 0) from h)
   have hb:=sub.h b blk hb
   have lq:=ax.fc b blk hb
   rcases(show fu E (.ref b g off m full) v from hx) with⟨bw,_⟩ | ⟨gY,bw⟩
   ·omega
   ·rcases bw with⟨_,_,uf,_⟩ | ⟨c,cap,hm,rfl,qS,rQ,sQ⟩
    ·omega
    ·obtain⟨blk',al,ty,q1,b6,_⟩:=ax.heap b c hm
     obtain rfl:blk=blk':=by rw[hb] at q1;exact Option.some.inj q1
     refine⟨_,.pointer (some ⟨c,(off+n.toNat)*E.sz b+0,none⟩),hK,?_,.inr ⟨gY,c,hm,rfl⟩⟩
     simp only[Instr.indexAt,Sem.run_bind,asIntOf,Sem.run_pure,Result.andThen_ok,run_underlying hu]
     rw[if_pos ⟨aA,h1⟩]
     simp[run_sizeOf hinf,pZ,b6,nT,Nat.add_mul]
  | _=>exact h.elim
 | _=>exact h.elim
def LK (P:Program) (t:TypeId) (x i:AV) (K:AV→Prop):Prop:=match x with
 | .str s=>(match i with
  | .int _ n=>(match P.underlying t with
   | some .string=>0≤n∧n<s.size∧K (.int .u8 (s.data.getD n.toNat 0).toNat)
   | _=>False)
  | _=>False)
 | _=>False
theorem agQ {P:Program} {t:TypeId} {x i:AV} {K:AV→Prop} {E:Env} {v DM:Value} (hx:V3 E x v) (hi:V3 E i DM) (h:LK P t x i K):
  ∃r u,K r∧(Instr.index t v DM).run P E.w= .ok u E.w∧V3 E r u:=by
 cases x with
 | str s=>
  cases i with
  | int k n=>
   obtain rfl:=hx.BT
   obtain rfl:=hi.qi
   have h:(match P.underlying t with
    | some .string=>0≤n∧n<s.size∧K (.int .u8 (s.data.getD n.toNat 0).toNat)
    | _=>False):=h
   split at h
   ·rename_i hu
    obtain⟨aA,h1,hK⟩:=h
    refine⟨_,.int .u8 (s.data.getD n.toNat 0).toNat,hK,?_,aP.int _ _⟩
    have aM:n.toNat<s.size:=by omega
    have Ld:n.toNat<s.data.size:=aM
    have:s[n.toNat]?=some (s.data.getD n.toNat 0):=by
     rw[getElem?_pos s n.toNat aM]
     congr 1
     show s.data[n.toNat]=_
     rw[Array.getD_eq_getD_getElem?,Array.getElem?_eq_getElem Ld];rfl
    simp only[Instr.index,Sem.run_bind,asIntOf,Sem.run_pure,Result.andThen_ok,run_underlying hu]
    rw[if_pos aA,this]
    rfl
   ·exact h.elim
  | _=>exact h.elim
 | _=>exact h.elim
def uF (x:AV) (K:AV→Prop):Prop:=match x with
 | .aZ rows _ _=>rows.length≤4611686018427387904→K (.int .i64 rows.length)
 | .str s=>K (.int .i64 s.size)
 | .ref _ _ _ n _=>K (.int .i64 n)
 | _=>False
def k1 (P:Program) (t:TypeId) (x:AV):Bool:=match P.underlying t,x with
 | some .string,.str _=>true
 | some (.slice _),.aZ _ _ _=>true
 | some (.slice _),.ref _ _ _ _ _=>true
 | _,_=>false
theorem ajP {P:Program} {t ty:TypeId} {x:AV} {K:AV→Prop} {E:Env} {v:Value} (hx:V3 E x v)
  (aY:k1 P t x=true) (h:uF x K): ∃r u,K r∧(Builtin.len_ #[t] ty #[v]).run P E.w= .ok u E.w∧V3 E r u:=by
 unfold k1 at aY
 split at aY<;>try (cases aY;done)
 ·rename_i s hu
  obtain rfl:=hx.BT
  exact⟨_,_,h,by simp[Builtin.len_,run_underlying hu,goInt],aP.int _ _⟩
 ·rename_i e rows dP fr hu
  have jz:aP E.w E.PA E.PF (.aZ rows dP fr) v:=hx
  cases jz with
  | @aZ _ _ PB _ _ _ A cap sz vs fH fw gP cm eH hrel=>
   have h:rows.length≤4611686018427387904→K (.int .i64 rows.length):=h
   exact⟨_,_,h fw.2,by simp[Builtin.len_,run_underlying hu,goInt],aP.int _ _⟩
 ·rename_i e b g off n dP hu
  have h:K (.int .i64 n):=h
  rcases(show fu E (.ref b g off n dP) v from hx) with⟨_,A,cap,rfl⟩ | ⟨gY,bw⟩
  ·exact⟨_,_,h,by simp[Builtin.len_,run_underlying hu,goInt],aP.int _ _⟩
  ·rcases bw with⟨_,_,rfl,A,rfl⟩ | ⟨c,cap,hm,rfl,qS,rQ,sQ⟩
   ·exact⟨_,_,h,by simp[Builtin.len_,run_underlying hu,goInt],aP.int _ _⟩
   ·exact⟨_,_,h,by simp[Builtin.len_,run_underlying hu,goInt],aP.int _ _⟩
def Kj (x:AV) (i:Nat) (K:AV→Prop):Prop:=match x with
 | .tup l=>cV l[i]? K
 | _=>False
theorem adw {P:Program} {x:AV} {i:Nat} {K:AV→Prop} {E:Env} {v:Value} (hx:V3 E x v) (h:Kj x i K):
  ∃r u,K r∧(Instr.extract v i).run P E.w= .ok u E.w∧V3 E r u:=by
 cases x with
 | tup l=>
  obtain⟨vs,rfl,ab⟩:=hx
  obtain⟨a,ar,hK⟩:=fT (show cV l[i]? K from h)
  obtain⟨u,hu,aj⟩:=ab.get ar
  refine⟨a,u,hK,?_,sw aj⟩
  simp[Instr.extract,hu]
 | _=>exact h.elim
def IB (op:UnOp) (x:AV) (K:AV→Prop):Prop:=match op,x with
 | .not,.bool b=>K (.bool (!b))
 | .neg,.int k n=>K (.int k (k.wrap (0 - n)))
 | _,_=>False
theorem aoA {P:Program} {op:UnOp} {x:AV} {K:AV→Prop} {E:Env} {v:Value} (hx:V3 E x v) (h:IB op x K):
  ∃r u,K r∧(Op.unary op v).run P E.w= .ok u E.w∧V3 E r u:=by
 unfold IB at h
 split at h
 ·obtain rfl:=hx.p2;exact⟨_,_,h,rfl,aP.bool _⟩
 ·obtain rfl:=hx.qi;exact⟨_,_,h,rfl,aP.int _ _⟩
 ·exact h.elim
def NC (x:AV) (K:AV→Prop):Prop:=match x with
 | .ptr _ _ _ _ | .fS _ _ | .dz _ _=>K x
 | _=>False
def AL (P:Program) (t:TypeId):Option IntKind:=match P.underlying t with
 | some (.int k)=>some k
 | _=>none
theorem Vb {P:Program} {t:TypeId} {k:IntKind} (h:AL P t=some k):P.underlying t=some (.int k):=by
 unfold AL at h
 split at h
 ·cases h;assumption
 ·cases h
def JX (P:Program) (s d:TypeId) (x:AV) (K:AV→Prop):Prop:=match x with
 | .int _ n=>cV (AL P s) fun _=>cV (AL P d) fun k=>K (.int k (k.wrap n))
 | _=>False
theorem ac0 {P:Program} {s d:TypeId} {x:AV} {K:AV→Prop} {E:Env} {v:Value} (hx:V3 E x v) (h:JX P s d x K):
  ∃r u,K r∧(Go.convert s d v).run P E.w= .ok u E.w∧V3 E r u:=by
 cases x with
 | int bc n=>
  obtain⟨dA,h1,h⟩:=fT (show cV (AL P s) _ from h)
  obtain⟨g_,h2,h⟩:=fT h
  obtain rfl:=hx.qi
  refine⟨_,_,h,?_,aP.int _ _⟩
  simp only[Go.convert,Sem.run_bind,run_underlying (Vb h1),run_underlying (Vb h2),Result.andThen_ok]
  rfl
 | _=>exact h.elim
def nP (x:Option AV) (d:Nat) (K:Nat→Prop):Prop:=match x with
 | none=>K d
 | some (.int _ n)=>0≤n∧K n.toNat
 | some _=>False
def yP (P:Program) (t:TypeId) (x:AV) (lo hi:Option AV) (H:List Blk) (K:AV→Prop):Prop:=match x with
 | .str s=>(match P.underlying t with
  | some .string=>nP lo 0 fun l=>nP hi s.size fun h=>l≤h∧h≤s.size∧K (.str (s.extract l h))
  | _=>False)
 | .aZ rows _ fr=>cV (j_ P t) fun e=>if(P.info? e).isSome=true then
   nP lo 0 fun l=>nP hi rows.length fun h=>l≤h∧h≤rows.length∧(∀(i:Nat) (row:List AV),rows[i]?=some row→row.length=P.cellsOf e)∧K (.aZ ((rows.drop l).take (h - l)) false fr) else False
 | .ref b g off n _=>cV (j_ P t) fun e=>if(P.info? e).isSome=true then
   cV H[b]? fun blk=>blk.bm=g∧blk.sz=P.cellsOf e∧nP lo 0 fun l=>nP hi n fun h=>l≤h∧h≤n∧(l<h→K (.ref b g (off+l) (h - l) false))∧(l=h→K (.aZ [] false true)) else False
 | _=>False
def E8 (E:Env) (x:Option AV) (v:Option Value):Prop:=match x,v with
  | none,none=>True
  | some a,some u=>V3 E a u
  | _,_=>False
theorem zB {x:Option AV} {d:Nat} {K:Nat→Prop} {E:Env} {v:Option Value} (hx:E8 E x v) (h:nP x d K): ∃n,K n∧((v=none∧n=d)∨ ∃k,v=some (.int k n)):=by
 cases x with
 | none=>
  cases v with
  | none=>exact⟨d,h,.inl ⟨rfl,rfl⟩⟩
  | some u=>exact hx.elim
 | some a=>
  cases v with
  | none=>exact hx.elim
  | some u=>
   cases a with
   | int k n=>
    obtain⟨aA,h⟩:=(show 0≤n∧K n.toNat from h)
    obtain rfl:=V3.qi hx
    exact⟨n.toNat,h,.inr ⟨k,by rw[Int.toNat_of_nonneg aA]⟩⟩
   | _=>exact h.elim
theorem Oh {P:Program} {w:World} {isS:Bool} {len cap l h:Nat} {lo hi:Option Value} (aw:(lo=none∧l=0)∨ ∃k,lo=some (.int k l)) (bw:(hi=none∧h=len)∨ ∃k,hi=some (.int k h))
  (h1:l≤h) (h2:h≤cap):(Instr.sliceBounds isS len cap lo hi none).run P w= .ok (l,h,cap) w:=by
 rcases aw with⟨rfl,rfl⟩ | ⟨AO,rfl⟩<;>rcases bw with⟨rfl,rfl⟩ | ⟨Ve,rfl⟩
 ·simp[Instr.sliceBounds]
 ·simp[Instr.sliceBounds,run_sliceBound (P:=P) w Ve (h:Int) cap _ (by omega) (by omega)]
 ·simp[Instr.sliceBounds,run_sliceBound (P:=P) w AO (l:Int) _ _ (by omega) (show(l:Int)≤((_:Nat):Int) by exact Int.ofNat_le.2 h1)]
 ·simp[Instr.sliceBounds,run_sliceBound (P:=P) w Ve (h:Int) cap _ (by omega) (by omega),run_sliceBound (P:=P) w AO (l:Int) h _ (by omega) (by omega)]
theorem ama {P:Program} {t:TypeId} {x:AV} {lo hi:Option AV} {K:AV→Prop} {E:Env} {L lN:List (Nat×List AV)} {H fs:List Blk} {v:Value} {Qs Qr:Option Value} (sub:Sub L H lN fs) (ax:SimH E fs) (hx:V3 E x v)
  (Dk:E8 E lo Qs) (K7:E8 E hi Qr)
  (h:yP P t x lo hi H K): ∃r u,K r∧(Instr.sliceAt t v Qs Qr none).run P E.w= .ok u E.w∧V3 E r u:=by
 cases x with
 | str s=>
  obtain rfl:=hx.BT
  have h:(match P.underlying t with
   | some .string=>nP lo 0 fun l=>nP hi s.size fun h=>l≤h∧h≤s.size∧K (.str (s.extract l h))
   | _=>False):=h
  split at h
  ·rename_i hu
   obtain⟨l,h,aw⟩:=zB Dk h
   obtain⟨q,⟨h1,h2,hK⟩,U⟩:=zB K7 h
   refine⟨_,.string (s.extract l q),hK,?_,aP.str _⟩
   rw[run_sliceAt_string E.w t _ _ _ _ hu]
   simp only[Instr.slice,Sem.run_bind,run_underlying hu,Result.andThen_ok]
   simp only[Option.isSome_none,Bool.false_eq_true,if_false]
   simp only[Sem.run_bind,Oh (P:=P) (w:=E.w) (isS:=false) aw U h1 h2,Result.andThen_ok]
   rfl
  ·exact h.elim
 | aZ rows full fr=>
  obtain⟨e,he,h⟩:=fT (show cV (j_ P t) fun e=>if(P.info? e).isSome=true then
   nP lo 0 fun l=>nP hi rows.length fun h=>l≤h∧h≤rows.length∧(∀(i:Nat) (row:List AV),rows[i]?=some row→row.length=P.cellsOf e)∧K (.aZ ((rows.drop l).take (h - l)) false fr) else False from h)
  have hu:=vn he
  split at h
  case isFalse=>exact h.elim
  case isTrue hinf=>
  obtain⟨l,h,aw⟩:=zB Dk h
  obtain⟨q,⟨h1,h2,nq,hK⟩,U⟩:=zB K7 h
  have jz:aP E.w E.PA E.PF (.aZ rows full fr) v:=hx
  cases jz with
  | @aZ _ _ PB _ _ _ A cap sz vs fH fw gP cm eH hrel=>
   have xA:P.elem t=e:=by simp[Program.elem,hu]
   have pq:P.underlying t=some (.slice (P.elem t)):=by rw[xA];exact hu
   have hlen:((rows.drop l).take (q - l)).length=q - l:=by simp;omega
   refine⟨_,sliced A l q cap (P.cellsOf e),hK,?_,?_⟩
   ·rw[run_sliceAt_slice E.w t _ _ _ _ pq,run_slice_any E.w t A rows.length cap pq,Oh (P:=P) (w:=E.w) aw U h1 (by omega)]
    simp only[Result.andThen_ok,xA,run_sizeOf hinf]
   ·show aP E.w E.PA E.PF _ (.slice _ (q - l) (cap - l))
    have key:=aP.aZ (w:=E.w) (PA:=E.PA) (PF:=E.PF) (PB:=PB) (rows:=(rows.drop l).take (q - l)) (full:=false) (fresh:=fr) (A:=if cap=l then A else A.map (·.add (l*P.cellsOf e))) (cap:=cap - l) (sz:=sz) (vs:=fun i j=>vs (l+i) j)
     fH (by rw[hlen];omega) (fun h=>by cases h)
     (fun i row aj=>by
      rw[List.getElem?_take] at aj
      split at aj
      ·rw[List.getElem?_drop] at aj;exact cm _ _ aj
      ·cases aj)
     (fun af=>by
      rw[hlen] at af
      obtain⟨c,o,rfl,hc,eG⟩:=eH (by omega)
      have agh:sz=P.cellsOf e:=by
       have aM:l<rows.length:=by omega
       rw[←cm l _ (List.getElem?_eq_getElem aM)];exact nq l _ (List.getElem?_eq_getElem aM)
      refine⟨c,o+l*P.cellsOf e,by rw[if_neg (by omega)];simp[pZ],hc,fun i j hi ah=> ?_⟩
      rw[hlen] at hi
      have:=eG (l+i) j (by omega) ah
      rw[←this,agh]
      congr 2
      rw[Nat.add_mul];omega)
     (fun i j row a aj ah=>by
      rw[List.getElem?_take] at aj
      split at aj
      ·rw[List.getElem?_drop] at aj;exact hrel _ _ _ _ aj ah
      ·cases aj)
    rw[hlen] at key
    exact key
 | ref b g off n full=>
  obtain⟨e,he,h⟩:=fT (show cV (j_ P t) fun e=>if(P.info? e).isSome=true then
   cV H[b]? fun blk=>blk.bm=g∧blk.sz=P.cellsOf e∧nP lo 0 fun l=>nP hi n fun h=>l≤h∧h≤n∧(l<h→K (.ref b g (off+l) (h - l) false))∧(l=h→K (.aZ [] false true)) else False from h)
  have hu:=vn he
  split at h
  case isFalse=>exact h.elim
  case isTrue hinf=>
  obtain⟨blk,hb,aE,nT,h⟩:=fT h
  obtain⟨l,h,aw⟩:=zB Dk h
  obtain⟨q,⟨h1,h2,aeY,SL⟩,U⟩:=zB K7 h
  have hb:=sub.h b blk hb
  have lq:=ax.fc b blk hb
  have xA:P.elem t=e:=by simp[Program.elem,hu]
  have pq:P.underlying t=some (.slice (P.elem t)):=by rw[xA];exact hu
  have run: ∀A cap,n≤cap→(Instr.sliceAt t (.slice A n cap) Qs Qr none).run P E.w= .ok (sliced A l q cap (P.cellsOf e)) E.w:=by
   intro A cap hc
   rw[run_sliceAt_slice E.w t _ _ _ _ pq,run_slice_any E.w t A n cap pq,Oh (P:=P) (w:=E.w) aw U h1 (by omega)]
   simp only[Result.andThen_ok,xA,run_sizeOf hinf]
  have empty: ∀A cap,l=q→V3 E (.aZ [] false true) (sliced A l q cap (P.cellsOf e)):=by
   intro A cap xK
   subst xK
   show aP E.w E.PA E.PF _ (.slice _ (l - l) (cap - l))
   rw[Nat.sub_self]
   exact aP.aZ (PB:=fun _=>False) (sz:=0) (vs:=fun _ _=>undef) (fun _ h=>h.elim) ⟨Nat.zero_le _,Nat.zero_le _⟩ (fun h=>by cases h) (fun i row h=>by simp at h) (fun h=>by simp at h) (fun i j row a h=>by simp at h)
  rcases(show fu E (.ref b g off n full) v from hx) with⟨bw,_⟩ | ⟨gY,bw⟩
  ·omega
  ·rcases bw with⟨_,_,rfl,A,rfl⟩ | ⟨c,cap,hm,rfl,qS,rQ,sQ⟩
   ·have xK:l=q:=by omega
    exact⟨_,_,SL xK,run A 0 (Nat.le_refl _),empty _ _ xK⟩
   ·rcases Nat.lt_or_ge l q with aM | Gj
    ·refine⟨_,_,aeY aM,run _ cap qS,.inr ⟨gY,.inr ⟨c,cap - l,hm,?_,by omega,(fun h=>by cases h),by omega⟩⟩⟩
     obtain⟨blk',al,ty,q1,b6,_⟩:=ax.heap b c hm
     obtain rfl:blk=blk':=by rw[hb] at q1;exact Option.some.inj q1
     simp only[sliced,if_neg (show ¬cap=l by omega),Option.map_some,pZ,b6,nT,Nat.add_mul]
    ·have xK:l=q:=by omega
     exact⟨_,_,SL xK,run _ cap qS,empty _ _ xK⟩
 | _=>exact h.elim
def wa (P:Program) (f:FuncId):Bool:=match P.funcs[f]? with
 | some fn=> !(fn.name== "runtime.NumGoroutine")&&fn.body.isSome
 | none=>false
def de (P:Program) (f:FuncId) (args:List AV) (H:List Blk) (Q:AV→List Blk→Prop):Prop:=
 wa P f=true∧ ∀(E:Env) (vs:List Value),(∀t,E.mL t=none)→SimH E H→ak (V2 E) args vs→
  Calls P f vs.toArray E.w fun e w'=> ∃r v H' E',e= .returned v∧Q r H'∧E'.w=w'∧(∀t,E'.mL t=none)∧SimH E' H'∧V3 E' r v∧Step E E'
theorem de.mono {P:Program} {f:FuncId} {args:List AV} {H:List Blk} {Q zm:AV→List Blk→Prop} (h:de P f args H Q) (U: ∀r H',Q r H'→zm r H'):de P f args H zm:=
 ⟨h.1,fun E vs a b c=>(h.2 E vs a b c).mono fun e w' ⟨r,v,H',E',h1,h2,aD⟩=>⟨r,v,H',E',h1,U _ _ h2,aD⟩⟩
def D2:AV→Bool
 | .fS _ _ | .agg _ | .tup _=>false
 | _=>true
def AU:AV→Bool
 | .fn _ caps=>caps.all D2
 | a=>D2 a
def lE:AV→Bool
 | .agg cells=>cells.all AU
 | a=>AU a
def AW:AV→Bool
 | .tup l=>l.all lE
 | a=>lE a
theorem fu.bQ {E:Env} {a:AV} {v:Value} (h:D2 a=true) (hv:fu E a v):fu E.bQ a v:=by
 cases a<;>first | exact hv | cases h
theorem b4.bQ {E:Env} {a:AV} {v:Value} (h:AU a=true) (hv:b4 E a v):b4 E.bQ a v:=by
 by_cases hf: ∃f caps,a= .fn f caps
 ·obtain⟨f,caps,rfl⟩:=hf
  obtain⟨vs,e,ab⟩:=hv
  exact⟨vs,e,ab.1,fun i x y hx aX=>(ab.2 i x y hx aX).bQ (List.all_eq_true.1 (show caps.all D2=true from h) x (List.mem_of_getElem? hx))⟩
 ·have aA:AU a=D2 a:=by cases a<;>first | rfl | exact absurd ⟨_,_,rfl⟩ hf
  rw[sv fun f c e=>hf ⟨f,c,e⟩] at hv ⊢
  exact hv.bQ (aA▸h)
theorem V2.bQ {E:Env} {a:AV} {v:Value} (h:lE a=true) (hv:V2 E a v):V2 E.bQ a v:=by
 by_cases hf: ∃l,a= .agg l
 ·obtain⟨l,rfl⟩:=hf
  obtain⟨vs,e,ab⟩:=hv
  exact⟨vs,e,ab.1,fun i x y hx aX=>(ab.2 i x y hx aX).bQ (List.all_eq_true.1 (show l.all AU=true from h) x (List.mem_of_getElem? hx))⟩
 ·have aA:lE a=AU a:=by cases a<;>first | rfl | exact absurd ⟨_,rfl⟩ hf
  rw[qG fun l e=>hf ⟨l,e⟩] at hv ⊢
  exact hv.bQ (aA▸h)
theorem V3.bQ {E:Env} {a:AV} {v:Value} (h:AW a=true) (hv:V3 E a v):V3 E.bQ a v:=by
 by_cases hf: ∃l,a= .tup l
 ·obtain⟨l,rfl⟩:=hf
  obtain⟨vs,e,ab⟩:=hv
  exact⟨vs,e,ab.1,fun i x y hx aX=>(ab.2 i x y hx aX).bQ (List.all_eq_true.1 (show l.all lE=true from h) x (List.mem_of_getElem? hx))⟩
 ·have aA:AW a=lE a:=by cases a<;>first | rfl | exact absurd ⟨_,rfl⟩ hf
  rw[qH fun l e=>hf ⟨l,e⟩] at hv ⊢
  exact hv.bQ (aA▸h)
theorem SimH.bQ {E:Env} {H:List Blk} (h:SimH E H):SimH E.bQ H:=
 {h with
  kG:=fun t iU c hm=>by cases hm
  hN:=fun b t c _ hm=>by cases hm
  jr:=fun c _ ⟨t,hm⟩=>by cases hm
  hG:=fun c ⟨t,hm⟩=>by cases hm}
theorem Good.toStep [cH] {cr E:Env} (h:Good cr E):Step cr E.bQ:=
 ⟨⟨h.le.gF,h.le.fU,h.le.wV,h.le.wf,h.le.bm,h.le.m,fun t c hm=>by rw[h.bQ t] at hm;cases hm⟩,h.os,h.tape,h.output,h.size,fun c hc h1 _=>h.cZ c hc h1,h.kd,(fun c ⟨t,hm⟩=>by cases hm),h.gF,h.fU⟩
def uR (P:Program) (ap:St):List ResultVar→(List AV→Prop)→Prop
 | [],K=>K []
 | .tmp t::rs,K=>uR P ap rs fun l=>K (ap.T.getD t .undef::l)
 | .cell a t::rs,K=>qY P t (ap.T.getD a .undef) ap.L ap.H fun x=>uR P ap rs fun l=>K (x::l)
def tB:List AV→AV
 | [x]=>x
 | l=> .tup l
def wv (P:Program) (fn:Func) (ap:St) (Q:AV→List Blk→Prop):Prop:=uR P ap fn.results.toList fun l=>l.all lE=true∧Q (tB l) ap.H
theorem abJ {E:Env} {P:Program} {t:TypeId} {x:AV} {L:List (Nat×List AV)} {H:List Blk} {K:AV→Prop} {v:Value} (ax:SimH E H) (bJ:SimL E L) (hx:V3 E x v) (h:qY P t x L H K):
  ∃a eM,K a∧(do loadVar t (←asAddr v):Sem Value).run P E.w= .ok eM E.w∧V2 E a eM:=by
 obtain⟨a,eM,hK,aj,hv⟩:=Wr (Sub.refl L H) ax bJ hx h
 refine⟨a,eM,hK,?_,hv⟩
 have: ∃nc,v= .pointer (some nc):=by
  cases x with
  | fS s c=>obtain⟨bl,_,rfl⟩:=hx.DV;exact⟨_,rfl⟩
  | ptr b g r c=>
   rcases(show fu E (.ptr b g r c) v from hx) with⟨_,bl,o,rfl⟩ | ⟨_,bl,_,rfl⟩<;>exact⟨_,rfl⟩
  | dz cells c=>
   have jz:aP E.w E.PA E.PF (.dz cells c) v:=hx
   cases jz;exact⟨_,rfl⟩
  | _=>exact h.elim
 obtain⟨nc,rfl⟩:=this
 simpa[Instr.loadAt,Instr.sureAddr,asAddr] using aj
theorem Ob {P:Program} {ap:St} {E:Env} {tmps:Array Value} (hs:w6 E ap tmps) {f:ResultVar→Sem Value} (f1: ∀t,f (.tmp t)=pure (tmps.getD t undef))
  (f2: ∀a t,f (.cell a t)=do loadVar t (←asAddr (tmps.getD a undef))): ∀(rs:List ResultVar) (K:List AV→Prop),uR P ap rs K→
  ∃l vs,K l∧(rs.mapM f).run P E.w= .ok vs E.w∧ak (V3 E) l vs
 | [],K,h=>⟨[],[],h,rfl,ak.nil⟩
 | .tmp t::rs,K,h=>by
  obtain⟨l,vs,hK,aj,ab⟩:=Ob hs f1 f2 rs _ h
  exact⟨_,_,hK,by simp only[List.mapM_cons,f1,Sem.run_bind,Sem.run_pure,Result.andThen_ok,aj],ak.cons (hs.jt t) ab⟩
 | .cell a t::rs,K,h=>by
  obtain⟨x,eM,h2,Lo,hv⟩:=abJ hs.h hs.l (hs.jt a) h
  obtain⟨l,vs,hK,aj,ab⟩:=Ob hs f1 f2 rs _ h2
  refine⟨_,_,hK,?_,ak.cons (sw hv) ab⟩
  simp only[List.mapM_cons,f2]
  rw[Sem.run_bind,Lo]
  simp only[Result.andThen_ok,Sem.run_bind,aj,Sem.run_pure]
theorem alE (fn:Func) (tmps:Array Value): ∃f:ResultVar→Sem Value,results fn tmps=(fn.results.mapM f>>=fun vs=>pure (if h:vs.size=1 then vs[0] else .tuple vs))∧(∀t,f (.tmp t)=pure (tmps.getD t undef))∧
  ∀b t,f (.cell b t)=(asAddr (tmps.getD b undef)>>=fun a=>loadVar t a):=⟨_,rfl,fun _=>rfl,fun _ _=>rfl⟩
def w5 (P:Program) (fn:Func) (Q:AV→List Blk→Prop) (ex:Exit) (ap:St):Prop:=match ex with
 | .normal | .ret=>wv P fn ap Q
 | _=>False
def G5 (fn:Func) (args:List AV) (H:List Blk):St:=⟨args++List.replicate (fn.ntmps - args.length) .undef,[],H⟩
theorem abx {E:Env} {a:AV} {v:Value} (h:lE a=true) (hv:V3 E a v) (aY: ∀l,a≠ .tup l):V2 E.bQ a v:=by
 rw[qH aY] at hv;exact hv.bQ h
theorem de.NE {P:Program} {f:FuncId} {fn:Func} {c:Code} {args:List AV} {H:List Blk} {Q:AV→List Blk→Prop} (hf:P.funcs[f]?=some fn) (hb:fn.body=some c) (af:(fn.name== "runtime.NumGoroutine")=false)
  (h: ∀jR:cH,jR.n=H.length→WpS P c (w5 P fn Q) (G5 fn args H)):de P f args H Q:=by
 refine⟨by simp[wa,hf,hb,af],?_⟩
 intro E vs af ax ab
 letI:cH:=⟨H.length⟩
 refine calls_of_wp hf hb (wp_mono (h ⟨H.length⟩ rfl E E {tmps:=vs.toArray++Array.replicate (fn.ntmps - vs.toArray.size) undef,defers:=[]} (Good.refl ax.fresh af) ⟨ax,(fun t c hm=>by rw[af t] at hm;cases hm),fun t=> ?_,?_⟩ rfl) ?_)
 ·show V3 E ((args++List.replicate (fn.ntmps - args.length) AV.undef).getD t AV.undef) _
  rcases Nat.lt_or_ge t args.length with aM | gY
  ·have h1:args[t]?=some args[t]:=List.getElem?_eq_getElem aM
   obtain⟨v,hv,aj⟩:=ab.get h1
   have Ld:t<vs.length:=ab.1▸aM
   have aG:(args++List.replicate (fn.ntmps - args.length) AV.undef).getD t .undef=args[t]:=by
    rw[List.getD_eq_getElem?_getD,List.getElem?_append_left aM,h1];rfl
   have e2:(vs.toArray++Array.replicate (fn.ntmps - vs.toArray.size) undef).getD t undef=v:=by
    rw[Array.getD_eq_getD_getElem?,Array.getElem?_append_left (by simpa using Ld)]
    simp[hv]
   rw[aG,e2];exact sw aj
  ·have aG:(args++List.replicate (fn.ntmps - args.length) AV.undef).getD t .undef= .undef:=by
    rw[List.getD_eq_getElem?_getD,List.getElem?_append_right gY,List.getElem?_replicate];split<;>rfl
   rw[aG];exact V3.undef _ _
 ·simp[G5,ab.1]
 ·rintro e a w ⟨hex,ap,E',U,hw,aE,hs,aW⟩
  have fin:wv P fn ap Q→a.defers=[]∧ ∃v,(results fn a.tmps).run P w= .ok v w∧ ∃r aaE H' E',(Ending.returned v)= .returned aaE∧Q r H'∧E'.w=w∧(∀t,E'.mL t=none)∧SimH E' H'∧V3 E' r aaE∧Step E E':=by
   intro Lr
   refine⟨aW,?_⟩
   subst hw
   have hm: ∀f:ResultVar→Sem Value,(∀t,f (.tmp t)=pure (a.tmps.getD t undef))→(∀b t,f (.cell b t)=do loadVar t (←asAddr (a.tmps.getD b undef)))→ ∃l eZ,(l.all lE=true∧Q (tB l) ap.H)∧(fn.results.mapM f).run P E'.w= .ok (List.toArray eZ) E'.w∧ak (V3 E') l eZ:=by
    intro f f1 f2
    obtain⟨l,eZ,h1,aj,h2⟩:=Ob hs f1 f2 _ _ Lr
    exact⟨l,eZ,h1,by rw[Array.mapM_eq_mapM_toList,Sem.run_map,aj];rfl,h2⟩
   obtain⟨f,xF,xG,hf2⟩:=alE fn a.tmps
   obtain⟨l,eZ,⟨Tg,ae0⟩,aj,Al⟩:=hm f xG hf2
   refine⟨if h:eZ.toArray.size=1 then eZ.toArray[0] else .tuple eZ.toArray,?_,tB l,_,ap.H,E'.bQ,rfl,ae0,rfl,fun _=>rfl,hs.h.bQ,?_,aE.toStep⟩
   ·rw[xF,Sem.run_bind,aj];rfl
   ·cases l with
    | nil=>
     obtain rfl:=Al.n8
     exact⟨[],rfl,ak.nil⟩
    | cons x l=>
     obtain⟨u,apS,rfl,hx,Ts⟩:=Al.cons_inv
     cases l with
     | nil=>
      obtain rfl:=Ts.n8
      show V3 E'.bQ x u
      have nX:lE x=true:=by simpa using Tg
      exact hx.bQ (by cases x<;>first | exact nX | (cases nX))
     | cons y l=>
      obtain⟨z,aoC,rfl,aX,apH⟩:=Ts.cons_inv
      have cm: ¬(List.toArray (u::z::aoC)).size=1:=by simp
      rw[dif_neg cm]
      refine⟨_,rfl,?_⟩
      refine⟨Al.1,fun i p q Tr af9=> ?_⟩
      have hv:=Al.2 i p q Tr af9
      have nX:lE p=true:=List.all_eq_true.1 Tg p (List.mem_of_getElem? Tr)
      have aY: ∀l,p≠ .tup l:=by
       intro l e;subst e;cases nX
      exact abx nX hv aY
  cases e with
  | normal=>exact fin U
  | ret=>exact fin U
  | exit id=>exact U.elim
  | _=>cases hex
inductive gN (L:List (Nat×List AV)) (H:List Blk):AV→AV→Prop where
 | undef (a:AV):gN L H a .undef
 | int (k:IntKind) (n:Int):gN L H (.int k n) (.int k n)
 | bool (b:Bool):gN L H (.bool b) (.bool b)
 | str (s:ByteArray):gN L H (.str s) (.str s)
 | gR:gN L H .gR .gR
 | ht:gN L H .ht .ht
 | aZ (rows:List (List AV)) (full fr dP:Bool) (hw:dP=true→full=true):gN L H (.aZ rows full fr) (.aZ rows dP false)
 | dz (cells:List AV) (c:Nat):gN L H (.dz cells c) (.dz cells c)
 | fS {t c:Nat} {cells hU:List AV} (h:eR L t=some cells) (aw:cells.length=hU.length)
   (aj: ∀(j:Nat) (a b:AV),cells[j]?=some a→hU[j]?=some b→gN L H a b):gN L H (.fS t c) (.dz hU c)
 | ptr {b g r c:Nat} {blk:Blk} {row row':List AV} (hb:H[b]?=some blk) (aE:blk.bm=g) (ew:blk.rows[r]?=some row) (aw:row.length=row'.length)
   (aj: ∀(j:Nat) (a b:AV),row[j]?=some a→row'[j]?=some b→gN L H a b):gN L H (.ptr b g r c) (.dz row' c)
 | ref {b g off n:Nat} {full dP:Bool} {blk:Blk} {jG:List (List AV)} (hw:dP=true→full=true) (hb:H[b]?=some blk) (aE:blk.bm=g) (af:jG.length=n) (fo:n≤4611686018427387904) (an:off+n≤blk.rows.length)
   (aw: ∀(i:Nat) (row row':List AV),blk.rows[off+i]?=some row→jG[i]?=some row'→row.length=row'.length)
   (aj: ∀(i j:Nat) (row row':List AV) (a c:AV),blk.rows[off+i]?=some row→jG[i]?=some row'→row[j]?=some a→row'[j]?=some c→gN L H a c):
   gN L H (.ref b g off n full) (.aZ jG dP false)
 | fn {f:FuncId} {caps CM:List AV} (aw:caps.length=CM.length) (aj: ∀(j:Nat) (a b:AV),caps[j]?=some a→CM[j]?=some b→gN L H a b):gN L H (.fn f caps) (.fn f CM)
def df (L:List (Nat×List AV)) (H:List Blk) (a b:AV):Prop:=
 (∃l fQ,a= .agg l∧b= .agg fQ∧ak (gN L H) l fQ)∨gN L H a b
def Env.frozen (E:Env):Env:={w:=E.w,PA:=fun c=>E.PA c∨E.fZ c∨E.l1 c,PF:=fun _=>False,m:=fun _=>none,bm:=fun _=>0,sz:=fun _=>0,cp:=fun _=>0,mL:=fun _=>none}
theorem Sr {E:Env} {H:List Blk} (h:SimH E H):SimH E.frozen [] where
 heap:=fun b c hb=>by cases hb
 fc:=fun b blk hb=>by simp at hb
 ii:=fun b hb=>by cases hb
 fresh:=fun b _=>⟨rfl,rfl⟩
 hr:=fun b bU c hb=>by cases hb
 kG:=fun t iU c hb=>by cases hb
 hN:=fun b t c hb=>by cases hb
 iM:=fun c _ ⟨b,hb⟩=>by cases hb
 jr:=fun c _ ⟨b,hb⟩=>by cases hb
 dU:=fun c hc=>hc.elim
 ga:=fun c hc=>hc.elim
 ea:=fun c hc=>hc.elim (h.ea c) fun hc=>hc.elim (h.gD c) (h.hG c)
 gD:=fun c ⟨b,hb⟩=>by cases hb
 hG:=fun c ⟨b,hb⟩=>by cases hb
theorem I_ {E:Env} {a:AV} {v:Value} (h:fu E a v):b4 E a v:=by
 by_cases hf: ∃f caps,a= .fn f caps
 ·obtain⟨f,caps,rfl⟩:=hf
  exact aP.v1 h
 ·rw[sv fun f c e=>hf ⟨f,c,e⟩];exact h
theorem YZ {L lN:List (Nat×List AV)} {H fs:List Blk} {E:Env} (sub:Sub L H lN fs) (ax:SimH E fs) (bJ:SimL E lN) {a b:AV} (h:gN L H a b):
  ∀{v:Value},b4 E a v→aP E.w (fun c=>E.PA c∨E.fZ c∨E.l1 c) (fun _=>False) b v:=by
 induction h with
 | undef a=>intro v _;exact .undef v
 | int k n=>intro v hv;have hv:aP E.w E.PA E.PF (.int k n) v:=hv;cases hv;exact .int _ _
 | bool k=>intro v hv;have hv:aP E.w E.PA E.PF (.bool k) v:=hv;cases hv;exact .bool _
 | str k=>intro v hv;have hv:aP E.w E.PA E.PF (.str k) v:=hv;cases hv;exact .str _
 | gR=>intro v hv;have hv:aP E.w E.PA E.PF .gR v:=hv;cases hv;exact .gR
 | ht=>intro v hv;have hv:aP E.w E.PA E.PF .ht v:=hv;cases hv;exact .ht
 | aZ rows full fr dP hw=>
  intro v hv
  have hv:aP E.w E.PA E.PF (.aZ rows full fr) v:=hv
  cases hv with
  | aZ fH fw gP cm eH hrel=>
   exact .aZ (fun c hc=>by
    have:=fH c hc
    simp only[Bool.false_eq_true,if_false]
    split at this
    ·exact .inl (ax.dU c this)
    ·exact .inl this) fw (fun h=>gP (hw h)) cm eH hrel
 | dz cells c=>
  intro v hv
  have hv:aP E.w E.PA E.PF (.dz cells c) v:=hv
  cases hv with
  | dz hc eH hrel=>exact .dz (.inl hc) eH fun j a ah=>(hrel j a ah).mono (fun _ _=>rfl) (fun _ h=>h.elim) (fun c hc=> .inl hc) (fun _ h=>h)
 | @fS t c cells hU aE aw aj bz=>
  intro v hv
  obtain⟨bl,hm,rfl⟩:=(show ∃bl,E.mL t=some bl∧v= .pointer (some ⟨bl,c,none⟩) from hv)
  obtain⟨zF,al,ty,De,hw,ab⟩:=bJ t bl hm
  obtain rfl:cells=zF:=by have:=sub.l _ _ aE;rw[De] at this;exact(Option.some.inj this).symm
  have key:=aP.dz (w:=E.w) (PA:=fun c=>E.PA c∨E.fZ c∨E.l1 c) (PF:=fun _=>False) (cells:=hU) (col:=c) (c:=bl) (o:=0) (vs:=fun j=>(al[j]?).getD undef)
   (.inr (.inr ⟨t,hm⟩))
   (fun j ah=>by
    have aM:j<al.size:=by have:=ab.1;simp at this;omega
    rw[Nat.zero_add]
    rw[cell_of hw (Array.getElem?_eq_getElem aM)]
    simp[Array.getElem?_eq_getElem aM])
   (fun j b ah=>by
    have aM:j<cells.length:=by have:=(List.getElem?_eq_some_iff.1 ah).1;omega
    obtain⟨u,hu,hX⟩:=ab.get (List.getElem?_eq_getElem aM)
    have:(al[j]?).getD undef=u:=by rw[Array.getElem?_toList] at hu;rw[hu];rfl
    rw[this]
    exact bz j _ b (List.getElem?_eq_getElem aM) ah hX.up)
  rw[Nat.zero_add] at key
  exact key
 | @ptr b g r c blk row row' hb aE ew aw aj bz=>
  intro v hv
  have hb:=sub.h b blk hb
  have lq:=ax.fc b blk hb
  obtain⟨bl,hm,rfl⟩:=V3.HF (E:=E) (v:=v) (show V3 E (.ptr b g r c) v from hv) (lq.trans aE)
  obtain⟨blk',al,ty,q1,b6,hw,mS,hlen,hq⟩:=ax.heap b bl hm
  obtain rfl:blk=blk':=by rw[hb] at q1;exact Option.some.inj q1
  exact aP.dz (vs:=fun j=>(al[r*E.sz b+j]?).getD undef) (.inr (.inl ⟨b,hm⟩))
   (fun j ah=>by
    have aM:j<row.length:=by omega
    obtain⟨u,hu,_⟩:=hq.2 r j row _ ew (List.getElem?_eq_getElem aM)
    rw[cell_of hw hu,hu];rfl)
   (fun j b2 ah=>by
    have aM:j<row.length:=by have:=(List.getElem?_eq_some_iff.1 ah).1;omega
    obtain⟨u,hu,hX⟩:=hq.2 r j row _ ew (List.getElem?_eq_getElem aM)
    rw[hu]
    exact bz j _ b2 (List.getElem?_eq_getElem aM) ah hX.up)
 | @ref b g off n full dP blk jG LC hb aE af fo an aw aj bz=>
  intro v hv
  have hb:=sub.h b blk hb
  have lq:=ax.fc b blk hb
  rcases(show fu E (.ref b g off n full) v from hv) with⟨bw,_⟩ | ⟨gY,bw⟩
  ·omega
  ·rcases bw with⟨_,_,nW,A,rfl⟩ | ⟨c,cap,hm,rfl,qS,rQ,sQ⟩
   ·subst nW
    obtain rfl:jG=[]:=List.eq_nil_of_length_eq_zero af
    exact aP.aZ (rows:=[]) (PB:=fun _=>False) (sz:=0) (vs:=fun _ _=>undef) (fun _ h=>h.elim) ⟨Nat.le_refl _,Nat.zero_le _⟩ (fun _=>rfl) (fun i row h=>by simp at h) (fun h=>by simp at h) (fun i j row a h=>by simp at h)
   ·obtain⟨blk',al,ty,q1,b6,hw,mS,hlen,hq⟩:=ax.heap b c hm
    obtain rfl:blk=blk':=by rw[hb] at q1;exact Option.some.inj q1
    subst af
    have ew: ∀i,i<jG.length→ ∃row,blk.rows[off+i]?=some row:=fun i hi=>⟨_,List.getElem?_eq_getElem (by omega)⟩
    refine aP.aZ (PB:=fun c=>E.PA c∨E.fZ c∨E.l1 c) (sz:=E.sz b) (vs:=fun i j=>(al[(off+i)*E.sz b+j]?).getD undef) (fun c hc=>by simpa using hc) ⟨qS,fo⟩ (fun h=>rQ (LC h))
     (fun i row' fp=> ?_) (fun mV=>⟨c,off*E.sz b,rfl,.inr (.inl ⟨b,hm⟩),fun i j hi ah=> ?_⟩) (fun i j row' a fp ah=> ?_)
    ·obtain⟨row,iZ⟩:=ew i (List.getElem?_eq_some_iff.1 fp).1
     rw[←aw i row row' iZ fp];exact hq.1 _ row iZ
    ·obtain⟨row,iZ⟩:=ew i hi
     have aM:j<row.length:=by rw[hq.1 _ row iZ];exact ah
     obtain⟨u,hu,_⟩:=hq.2 (off+i) j row _ iZ (List.getElem?_eq_getElem aM)
     rw[show off*E.sz b+(i*E.sz b+j)=(off+i)*E.sz b+j by rw[Nat.add_mul];omega,cell_of hw hu,hu];rfl
    ·obtain⟨row,iZ⟩:=ew i (List.getElem?_eq_some_iff.1 fp).1
     have aM:j<row.length:=by rw[aw i row row' iZ fp];exact(List.getElem?_eq_some_iff.1 ah).1
     obtain⟨u,hu,hX⟩:=hq.2 (off+i) j row _ iZ (List.getElem?_eq_getElem aM)
     rw[hu]
     exact bz i j row row' _ a iZ fp (List.getElem?_eq_getElem aM) ah hX.up
 | @fn f caps CM aw aj bz=>
  intro v hv
  obtain⟨vs,rfl,ab⟩:=(show ∃vs:List Value,v= .func (.func f) #[] vs.toArray∧ak (fu E) caps vs from hv)
  exact .fn (aw▸ab.1) fun i b u hb hu=>by
   have aM:i<caps.length:=by have:=(List.getElem?_eq_some_iff.1 hb).1;omega
   exact bz i _ b (List.getElem?_eq_getElem aM) hb (I_ (ab.2 i _ u (List.getElem?_eq_getElem aM) hu))
theorem Y0 {L lN:List (Nat×List AV)} {H fs:List Blk} {E:Env} (sub:Sub L H lN fs) (ax:SimH E fs) (bJ:SimL E lN) {a b:AV} (h:df L H a b) {v:Value} (hv:V2 E a v):V2 E.frozen b v:=by
 rcases h with⟨l,fQ,rfl,rfl,ab⟩ | h
 ·obtain⟨vs,rfl,U⟩:=hv
  refine⟨vs,rfl,ab.1▸U.1,fun i x u hx hu=> ?_⟩
  have aM:i<l.length:=by have:=(List.getElem?_eq_some_iff.1 hx).1;have:=ab.1;omega
  have aw:=List.getElem?_eq_getElem aM
  exact aP.v1 (E:=E.frozen) (YZ sub ax bJ (ab.2 i _ x aw hx) (U.2 i _ u aw hu))
 ·by_cases hf: ∃l,a= .agg l
  ·obtain⟨l,rfl⟩:=hf
   cases h with
   | undef=>exact aP.undef v
  ·rw[qG fun l e=>hf ⟨l,e⟩] at hv
   exact lP (aP.v1 (E:=E.frozen) (YZ sub ax bJ h hv))
inductive ho (H:List Blk):AV→AV→Prop where
 | int (k:IntKind) (n:Int):ho H (.int k n) (.int k n)
 | bool (b:Bool):ho H (.bool b) (.bool b)
 | str (s:ByteArray):ho H (.str s) (.str s)
 | gR:ho H .gR .gR
 | ht:ho H .ht .ht
 | aZ (rows:List (List AV)) (full dP:Bool) (hw:dP=true→full=true):ho H (.aZ rows full true) (.aZ rows dP true)
 | WE (full fr dP:Bool) (hw:dP=true→full=true):ho H (.aZ [] full fr) (.aZ [] dP true)
 | ref {b g off n:Nat} {full dP:Bool} {blk:Blk} {jG:List (List AV)} (hw:dP=true→full=true) (al:Nat→Nat→AV) (hb:H[b]?=some blk) (aE:blk.bm=g) (af:jG.length=n) (fo:n≤4611686018427387904) (an:off+n≤blk.rows.length)
   (aw: ∀(i:Nat) (row row':List AV),blk.rows[off+i]?=some row→jG[i]?=some row'→row.length=row'.length)
   (aj: ∀(i j:Nat) (row:List AV) (a:AV),i<n→blk.rows[off+i]?=some row→row[j]?=some a→ho H a (al i j))
   (hc: ∀(i j:Nat) (row':List AV) (c:AV),jG[i]?=some row'→row'[j]?=some c→c=j4 (al i j)):
   ho H (.ref b g off n full) (.aZ jG dP true)
def w7 (H:List Blk) (a b:AV):Prop:=(∃l fQ,a= .agg l∧b= .agg fQ∧ak (ho H) l fQ)∨ho H a b
def j7 (H:List Blk) (a b:AV):Prop:=(∃l fQ,a= .tup l∧b= .tup fQ∧ak (w7 H) l fQ)∨w7 H a b
theorem amJ {H:List Blk} {a b:AV} (h:ho H a b):ky b=true:=by cases h<;>rfl
theorem Y2 {H:List Blk} {E:Env} (ax:SimH E H) {a b:AV} (h:ho H a b):
  ∀{v:Value},b4 E a v→aP E.w (fun c=>E.PF c∨E.fZ c) (fun c=>E.PF c∨E.fZ c) b v:=by
 induction h with
 | int k n=>intro v hv;have hv:aP E.w E.PA E.PF (.int k n) v:=hv;cases hv;exact .int _ _
 | bool k=>intro v hv;have hv:aP E.w E.PA E.PF (.bool k) v:=hv;cases hv;exact .bool _
 | str k=>intro v hv;have hv:aP E.w E.PA E.PF (.str k) v:=hv;cases hv;exact .str _
 | gR=>intro v hv;have hv:aP E.w E.PA E.PF .gR v:=hv;cases hv;exact .gR
 | ht=>intro v hv;have hv:aP E.w E.PA E.PF .ht v:=hv;cases hv;exact .ht
 | aZ rows full dP hw=>
  intro v hv
  have hv:aP E.w E.PA E.PF (.aZ rows full true) v:=hv
  cases hv with
  | aZ fH fw gP cm eH hrel=>exact .aZ (fun c hc=>by have:=fH c hc;simp at this ⊢;exact .inl this) fw (fun h=>gP (hw h)) cm eH hrel
 | WE full fr dP hw=>
  intro v hv
  have hv:aP E.w E.PA E.PF (.aZ [] full fr) v:=hv
  cases hv with
  | aZ fH fw gP cm eH hrel=>exact aP.aZ (rows:=[]) (PB:=fun _=>False) (sz:=0) (vs:=fun _ _=>undef) (fun _ h=>h.elim) fw (fun h=>gP (hw h)) (fun i row h=>by simp at h) (fun h=>by simp at h) (fun i j row a h=>by simp at h)
 | @ref b g off n full dP blk jG LC al hb aE af fo an aw aj hc bz=>
  intro v hv
  have lq:=ax.fc b blk hb
  rcases(show fu E (.ref b g off n full) v from hv) with⟨bw,_⟩ | ⟨gY,bw⟩
  ·omega
  ·rcases bw with⟨_,_,nW,A,rfl⟩ | ⟨c,cap,hm,rfl,qS,rQ,sQ⟩
   ·subst nW
    obtain rfl:jG=[]:=List.eq_nil_of_length_eq_zero af
    exact aP.aZ (rows:=[]) (PB:=fun _=>False) (sz:=0) (vs:=fun _ _=>undef) (fun _ h=>h.elim) ⟨Nat.le_refl _,Nat.zero_le _⟩ (fun _=>rfl) (fun i row h=>by simp at h) (fun h=>by simp at h) (fun i j row a h=>by simp at h)
   ·obtain⟨blk',zE,ty,q1,b6,hw,mS,hlen,hq⟩:=ax.heap b c hm
    obtain rfl:blk=blk':=by rw[hb] at q1;exact Option.some.inj q1
    subst af
    have ew: ∀i,i<jG.length→ ∃row,blk.rows[off+i]?=some row:=fun i hi=>⟨_,List.getElem?_eq_getElem (by omega)⟩
    refine aP.aZ (PB:=fun c=>E.PF c∨E.fZ c) (sz:=E.sz b) (vs:=fun i j=>(zE[(off+i)*E.sz b+j]?).getD undef) (fun c hc=>by simpa using hc) ⟨qS,fo⟩ (fun h=>rQ (LC h))
     (fun i row' fp=> ?_) (fun mV=>⟨c,off*E.sz b,rfl,.inr ⟨b,hm⟩,fun i j hi ah=> ?_⟩) (fun i j row' a fp ah=> ?_)
    ·obtain⟨row,iZ⟩:=ew i (List.getElem?_eq_some_iff.1 fp).1
     rw[←aw i row row' iZ fp];exact hq.1 _ row iZ
    ·obtain⟨row,iZ⟩:=ew i hi
     have aM:j<row.length:=by rw[hq.1 _ row iZ];exact ah
     obtain⟨u,hu,_⟩:=hq.2 (off+i) j row _ iZ (List.getElem?_eq_getElem aM)
     rw[show off*E.sz b+(i*E.sz b+j)=(off+i)*E.sz b+j by rw[Nat.add_mul];omega,cell_of hw hu,hu];rfl
    ·have hi:=(List.getElem?_eq_some_iff.1 fp).1
     obtain⟨row,iZ⟩:=ew i hi
     have aM:j<row.length:=by rw[aw i row row' iZ fp];exact(List.getElem?_eq_some_iff.1 ah).1
     obtain⟨u,hu,hX⟩:=hq.2 (off+i) j row _ iZ (List.getElem?_eq_getElem aM)
     have h1:=bz i j row _ hi iZ (List.getElem?_eq_getElem aM) hX.up
     have h2:=amJ (aj i j row _ hi iZ (List.getElem?_eq_getElem aM))
     rw[hu,hc i j row' a fp ah]
     exact Qn h2 h1 (fun c hc=>hc) (fun c hc=>hc)
def bf (P:Program) (f:FuncId) (args:List AV) (t:AV):Prop:=de P f args [] fun r fs=>j7 fs r t
theorem Rp {P:Program} {f:FuncId} {args eu:List AV} {t:AV} {L lN:List (Nat×List AV)} {H fs:List Blk} {E:Env} {vs:List Value} (sub:Sub L H lN fs) (ax:SimH E fs) (bJ:SimL E lN)
  (ar:ak (V2 E) args vs) (hs:ak (df L H) args eu) (h:bf P f eu t):
  Calls P f vs.toArray E.w fun e w'=> ∃v E',e= .returned v∧E'.w=w'∧nb E E'∧V3 E' t v:=by
 have xp:ak (V2 E.frozen) eu vs:=⟨hs.1▸ar.1,fun i x u hx hu=>by
  have aM:i<args.length:=by have:=(List.getElem?_eq_some_iff.1 hx).1;have:=hs.1;omega
  have aw:=List.getElem?_eq_getElem aM
  exact Y0 sub ax bJ (hs.2 i _ x aw hx) (ar.2 i _ u aw hu)⟩
 refine(h.2 E.frozen vs (fun _=>rfl) (Sr ax) xp).mono ?_
 rintro e w' ⟨r,v,H',E1,rfl,aj,rfl,af,fe,hv,a7⟩
 let N:Nat→Prop:=fun c=>E1.PF c∨E1.fZ c
 have jW: ∀c,N c→E.w.heap.size≤c∧c<E1.w.heap.size:=by
  rintro c (hc | hc)
  ·exact⟨(a7.fU c hc).elim (fun h=>h.elim) id,fe.ea c (fe.dU c hc)⟩
  ·exact⟨(a7.qU c hc).elim (fun⟨b,hb⟩=>by cases hb) id,fe.gD c hc⟩
 have oC: ∀c,c<E.w.heap.size→E1.w.heap[c]?=E.w.heap[c]?:=fun c hc=>a7.cZ c hc (fun⟨b,hb⟩=>by cases hb) (fun⟨b,hb⟩=>by cases hb)
 let E':Env:={E with w:=E1.w,PA:=fun c=>E.PA c∨N c,PF:=fun c=>E.PF c∨N c}
 have U:nb E E':=
  {step:=⟨⟨fun c hc=> .inl hc,fun c hc=> .inl hc,fun c hc=>oC c (ax.ea c hc),fun c hc=>oC c (ax.ea c (ax.dU c hc)),fun _=>Nat.le_refl _,fun _ _ h _=>⟨h,rfl,rfl⟩,fun _ _ h=>h⟩,
    a7.os,a7.tape,a7.output,a7.size,fun c hc _ _=>oC c hc,fun _ _ h=> .inl h,fun _ h=> .inl h,fun c hc=>hc.elim .inl (fun h=> .inr (jW c h).1),fun c hc=>hc.elim .inl (fun h=> .inr (jW c h).1)⟩
   m:=rfl,mL:=rfl,bm:=rfl,sz:=rfl,cp:=rfl
   cZ:=oC
   gF:=fun c hc=>hc.elim .inl (fun h=> .inr (jW c h))
   dU:=fun c hc=>hc.elim (fun h=> .inl (ax.dU c h)) .inr
   ga:=fun c hc=>hc.elim (fun h=>(ax.ga c h).same (oC c (ax.ea c (ax.dU c h)))) (fun h=>by
    rcases h with h | ⟨b,hb⟩
    ·exact fe.ga c h
    ·obtain⟨_,al,ty,_,_,q,_⟩:=fe.heap b c hb
     exact⟨al,ty,q⟩)}
 have up: ∀{b:AV} {u:Value},aP E1.w N N b u→b4 E' b u:=fun h=>aP.v1 (E:=E') (h.mono (fun _ _=>rfl) (fun _ _=>rfl) (fun c hc=> .inr hc) (fun c hc=> .inr hc))
 have cP: ∀{a b:AV} {u:Value},ho H' a b→b4 E1 a u→b4 E' b u:=fun ar hu=>up (Y2 fe ar hu)
 have dd: ∀{a b:AV} {u:Value},w7 H' a b→V2 E1 a u→V2 E' b u:=by
  rintro a b u (⟨l,fQ,rfl,rfl,ab⟩ | h) hu
  ·obtain⟨eZ,rfl,U⟩:=hu
   refine⟨eZ,rfl,ab.1▸U.1,fun i x y hx aX=> ?_⟩
   have aM:i<l.length:=by have:=(List.getElem?_eq_some_iff.1 hx).1;have:=ab.1;omega
   have aw:=List.getElem?_eq_getElem aM
   exact cP (ab.2 i _ x aw hx) (U.2 i _ y aw aX)
  ·have:b4 E1 a u:=by cases h<;>exact hu
   exact lP (cP h this)
 have dV: ∀{a b:AV} {u:Value},j7 H' a b→V3 E1 a u→V3 E' b u:=by
  rintro a b u (⟨l,fQ,rfl,rfl,ab⟩ | h) hu
  ·obtain⟨eZ,rfl,U⟩:=hu
   refine⟨eZ,rfl,ab.1▸U.1,fun i x y hx aX=> ?_⟩
   have aM:i<l.length:=by have:=(List.getElem?_eq_some_iff.1 hx).1;have:=ab.1;omega
   have aw:=List.getElem?_eq_getElem aM
   exact dd (ab.2 i _ x aw hx) (U.2 i _ y aw aX)
  ·have:V2 E1 a u:=by
    rcases h with⟨l,fQ,rfl,rfl,ab⟩ | h
    ·exact hu
    ·cases h<;>exact hu
   exact sw (dd h this)
 exact⟨v,E',rfl,rfl,U,dV aj hv⟩
def Js:AV→Bool
 | .agg _ | .tup _ | .fn _ _=>false
 | _=>true
def DZ (fn:Fn) (first:Array Operand) (caps:List AV) (K:AV→Prop):Prop:=match fn with
 | .func f=>if first.isEmpty=true∧caps.all Js=true then K (.fn f caps) else False
 | _=>False
def e9:AV→Bool
 | .tup _=>false
 | _=>true
def nh (x:AV) (K:FuncId→List AV→Prop):Prop:=match x with
 | .fn f caps=>K f caps
 | _=>False
def qK (P:Program) (f:FuncId) (args:List AV) (L:List (Nat×List AV)) (H:List Blk) (K:AV→Prop):Prop:=
 args.all e9=true∧ ∃eu t,ak (df L H) args eu∧bf P f eu t∧K t
def Kg (P:Program) (c:Call) (bD:Operand→AV) (L:List (Nat×List AV)) (H:List Blk) (K:AV→Prop):Prop:=match c.callee with
 | .builtin .len=>(match c.args.toList,c.argTypes.toList with
  | [x],[t]=>e_ (k1 P t (bD x)) (uF (bD x) K)
  | _,_=>False)
 | .value f=>nh (bD f) fun g caps=>qK P g (c.args.toList.map bD++caps) L H K
 | _=>False
def vo (P:Program) (o:Oper) (bD:Operand→AV) (L:List (Nat×List AV)) (H:List Blk) (K:AV→Prop):Prop:=match o.op with
 | .move x=>K (bD x)
 | .assign x=>K (bD x)
 | .pick c a b=>qJ (bD c) fun z=>CG z (K (bD a)) (K (bD b))
 | .build t ps=>e_ (ps.toList.all fun p=>e9 (bD p.2)) (Jq P t (ps.toList.map fun p=>(p.1,bD p.2)) K)
 | .buildSlice t n ps=>e_ (ps.toList.all fun p=>e9 (bD p.2)) (zD P t n (ps.toList.map fun p=>(p.1,bD p.2)) K)
 | .load t a=>qY P t (bD a) L H K
 | .nilCheck x=>NC (bD x) K
 | .binOp op t x y _=>vh P op t (bD x) (bD y) (tc y) K
 | .unOp op _ x=>IB op (bD x) K
 | .convert s d x=>JX P s d (bD x) K
 | .makeFunc fn first caps=>DZ fn first (caps.toList.map bD) K
 | .fieldAddr t x f=>Kn P t (bD x) f K
 | .indexAddr t x i=>At P t (bD x) (bD i) H K
 | .index t x i=>LK P t (bD x) (bD i) K
 | .slice t x lo hi mx=>(match mx with
  | none=>yP P t (bD x) (lo.map bD) (hi.map bD) H K
  | some _=>False)
 | .extract x i=>Kj (bD x) i K
 | .call c=>Kg P c bD L H K
 | _=>False
theorem Qp {P:Program} {o:Oper} {a:Act} {next:Act→World→Prop} {Q:Exit→Act→World→Prop} {s:Sem Value} {w w':World} {u:Value} (h:s.run P w= .ok u w') (k:next (a.put o.dst u) w'):
  o.upon P a next Q ((do pure (Next.value (←s)):Sem Next).run P w):=by
 rw[Sem.run_bind,h];exact k
theorem parts_eq (ps:Array (Nat×Operand)) (a:Act):(ps.toList.map fun p=>(p.1,a.eval p.2)).toArray=ps.map fun(i,x)=>(i,a.eval x):=by
 apply Array.ext'
 rw[Array.toList_map]
theorem NJ {E:Env} {a:Act} {T:List AV} (ci: ∀t,V3 E (T.getD t .undef) (a.tmps.getD t undef)) (ps:List (Nat×Operand)) (af: ∀p∈ps,∀l,ch T p.2≠ .tup l):
  ak (fun(x:Nat×AV) (y:Nat×Value)=>x.1=y.1∧V2 E x.2 y.2) (ps.map fun p=>(p.1,ch T p.2)) (ps.map fun p=>(p.1,a.eval p.2)):=by
 refine⟨by simp,fun i x y hx aX=> ?_⟩
 rw[List.getElem?_map] at hx aX
 cases ab:ps[i]? with
 | none=>simp[ab] at hx
 | some p=>
  simp[ab] at hx aX
  subst hx;subst aX
  refine⟨rfl,?_⟩
  have:=opv_rel ci p.2
  rwa [qH (af p (List.mem_of_getElem? ab))] at this
theorem Q3 {E:Env} {a:Act} {T:List AV} (ci: ∀t,V3 E (T.getD t .undef) (a.tmps.getD t undef)) (xs:List Operand) (af: ∀x∈xs,∀l,ch T x≠ .tup l):
  ak (V2 E) (xs.map (ch T)) (xs.map a.eval):=by
 refine⟨by simp,fun i x y hx aX=> ?_⟩
 rw[List.getElem?_map] at hx aX
 cases ab:xs[i]? with
 | none=>simp[ab] at hx
 | some p=>
  simp[ab] at hx aX
  subst hx;subst aX
  have:=opv_rel ci p
  rwa [qH (af p (List.mem_of_getElem? ab))] at this
theorem AX {a:AV} (h:e9 a=true): ∀l,a≠ .tup l:=by
 intro l e;subst e;cases h
theorem Xl {E:Env} {a:Act} {T:List AV} (ci: ∀t,V3 E (T.getD t .undef) (a.tmps.getD t undef)) (x:Option Operand):
  E8 E (x.map (ch T)) (x.map a.eval):=by
 cases x with
 | none=>trivial
 | some x=>exact opv_rel ci x
theorem Rq {E:Env} {a:Act} {T:List AV} (ci: ∀t,V3 E (T.getD t .undef) (a.tmps.getD t undef)) {f:Operand} {g:FuncId} {caps:List AV} (h:ch T f= .fn g caps):
  ∃vs:List Value,a.eval f= .func (.func g) #[] vs.toArray∧ak (V2 E) caps vs:=by
 have:=opv_rel ci f
 rw[h] at this
 obtain⟨vs,e,ab⟩:=(show ∃vs:List Value,a.eval f= .func (.func g) #[] vs.toArray∧ak (fu E) caps vs from this)
 exact⟨vs,e,ab.mono fun _ _ k=>lP (I_ k)⟩
theorem alO {P:Program} {f:FuncId} {w:World} {args:Array Value} (h:wa P f=true):(callFunc f args).run P w= .ok (.enter f args) w:=by
 unfold wa at h
 cases hf:P.funcs[f]? with
 | none=>simp[hf] at h
 | some fn=>
  simp[hf] at h
  obtain⟨h1,h2⟩:=h
  simp[callFunc,hf,h1]
  cases hb:fn.body with
  | none=>simp[hb] at h2
  | some c=>intro bw;cases bw
theorem Yn {P:Program} {c:Call} {a:Act} {ty:TypeId} {f:Operand} {g:FuncId} {vs:List Value} {w:World} (hc:c.callee= .value f) (hf:a.eval f= .func (.func g) #[] vs.toArray) (h:wa P g=true):
  (do let d ←resolve a.eval c ty;invoke d.target d.args:Sem Next).run P w= .ok (.enter g (c.args.toList.map a.eval++vs).toArray) w:=by
 unfold resolve
 rw[hc]
 simp only[hf,Deferred.ofValue,Sem.run_bind,Sem.run_pure,Result.andThen_ok,invoke]
 rw[alO h]
 simp
def CA (E:Env) (o:Oper) (a:Act) (K:AV→Prop):Act→World→Prop:=fun hL w'=> ∃v eM E',K v∧E'.w=w'∧nb E E'∧V3 E' v eM∧hL=a.put o.dst eM
set_option maxHeartbeats 4000000 in
theorem R6 {P:Program} {o:Oper} {a:Act} {T:List AV} {E:Env} {L lN:List (Nat×List AV)} {H fs:List Blk} {K:AV→Prop} {Q:Exit→Act→World→Prop}
  (ci: ∀t,V3 E (T.getD t .undef) (a.tmps.getD t undef)) (sub:Sub L H lN fs) (ax:SimH E fs) (bJ:SimL E lN) (h:vo P o (ch T) L H K):o.wp P a E.w (CA E o a K) Q:=by
 have fin: ∀{s:Sem Value},(execOp a.eval o=(do pure (Next.value (←s))))→(∃r u E',K r∧s.run P E.w= .ok u E'.w∧nb E E'∧V3 E' r u)→o.wp P a E.w (CA E o a K) Q:=by
  rintro s hs ⟨r,u,E',hK,aj,U,hv⟩
  unfold Oper.wp
  rw[hs]
  exact Qp aj ⟨r,u,E',hK,rfl,U,hv,rfl⟩
 have rE: ∀{s:Sem Value},(execOp a.eval o=(do pure (Next.value (←s))))→(∃r u,K r∧s.run P E.w= .ok u E.w∧V3 E r u)→o.wp P a E.w (CA E o a K) Q:=by
  rintro s hs ⟨r,u,hK,aj,hv⟩
  exact fin hs ⟨r,u,E,hK,aj,nb.refl ax,hv⟩
 have D0: ∀x,execOp a.eval o=pure (.value (a.eval x))→K (ch T x)→o.wp P a E.w (CA E o a K) Q:=by
  intro x hs hK
  unfold Oper.wp
  rw[hs]
  exact⟨_,_,E,hK,rfl,nb.refl ax,opv_rel ci x,rfl⟩
 obtain⟨dst,op,ty,pos,after,guard⟩:=o
 cases op with
 | move x=>exact D0 x rfl h
 | assign x=>exact D0 x rfl h
 | pick c x y=>
  obtain⟨b,hb,h1,h2⟩:=Fj (show qJ (ch T c) fun z=>CG z (K (ch T x)) (K (ch T y)) from h)
  have hv:=opv_rel ci c
  rw[hb] at hv
  have he:a.eval c= .bool b:=V3.p2 hv
  cases b with
  | true=>exact D0 x (by simp[execOp,he,asBool]) (h1 rfl)
  | false=>exact D0 y (by simp[execOp,he,asBool]) (h2 rfl)
 | build t ps=>
  obtain⟨af,h⟩:=r4 h
  have:=ab4 (P:=P) (NJ ci ps.toList fun p ab=>AX (List.all_eq_true.1 af p ab)) h
  exact rE (s:=Instr.build t (ps.toList.map fun p=>(p.1,a.eval p.2)).toArray) (by rw[parts_eq];rfl) this
 | buildSlice t n ps=>
  obtain⟨af,h⟩:=r4 h
  have:=Ri (P:=P) ax (NJ ci ps.toList fun p ab=>AX (List.all_eq_true.1 af p ab)) h
  exact fin (s:=Instr.buildSlice t n (ps.toList.map fun p=>(p.1,a.eval p.2)).toArray) (by rw[parts_eq];rfl) this
 | load t x=>
  obtain⟨r,u,hK,aj,hv⟩:=Wr sub ax bJ (opv_rel ci x) h
  exact rE (s:=Instr.loadAt t (a.eval x)) rfl ⟨r,u,hK,aj,sw hv⟩
 | nilCheck x=>
  have hx:=opv_rel ci x
  have h:NC (ch T x) K:=h
  have key: ∀nc,a.eval x= .pointer (some nc)→K (ch T x)→Oper.wp P ⟨dst,.nilCheck x,ty,pos,after,guard⟩ a E.w (CA E ⟨dst,.nilCheck x,ty,pos,after,guard⟩ a K) Q:=by
   intro nc he hK
   exact D0 x (by simp[execOp,he]) hK
  cases iJ:ch T x with
  | fS s c=>
   rw[iJ] at hx h
   obtain⟨bl,_,e⟩:=hx.DV
   exact key _ e (by rw[iJ];exact h)
  | ptr b g r c=>
   rw[iJ] at hx h
   rcases(show fu E (.ptr b g r c) _ from hx) with⟨_,bl,o,e⟩ | ⟨_,bl,_,e⟩<;>exact key _ e (by rw[iJ];exact h)
  | dz cells c=>
   rw[iJ] at hx h
   have jz:aP E.w E.PA E.PF (.dz cells c) (a.eval x):=hx
   generalize hv:a.eval x=v at jz
   cases jz;exact key _ hv (by rw[iJ];exact h)
  | _=>rw[iJ] at h;exact h.elim
 | binOp op t x y ty2=>
  have LH:tc y=true→a.eval y= .slice none 0 0:=by
   intro bw
   unfold tc at bw
   split at bw
   ·rfl
   ·cases bw
  exact rE (s:=do eqGuard op t x y (a.eval x) (a.eval y);binOp op t (a.eval x) (a.eval y)) rfl (abU (opv_rel ci x) (opv_rel ci y) LH h)
 | unOp op t x=>exact rE (s:=Op.unary op (a.eval x)) rfl (aoA (opv_rel ci x) h)
 | convert s d x=>exact rE (s:=Go.convert s d (a.eval x)) rfl (ac0 (opv_rel ci x) h)
 | makeFunc fn first caps=>
  replace h:DZ fn first (caps.toList.map (ch T)) K:=h
  cases fn with
  | func f=>
   replace h:if first.isEmpty=true∧(caps.toList.map (ch T)).all Js=true then K (.fn f (caps.toList.map (ch T))) else False:=h
   split at h
   ·rename_i hc
    obtain⟨h1,h2⟩:=hc
    have hf:first= #[]:=by simpa using h1
    subst hf
    refine rE (s:=Instr.makeFunc (.func f) (Array.map a.eval #[]) (caps.map a.eval)) rfl ⟨_,.func (.func f) #[] (caps.map a.eval),h,by simp[Instr.makeFunc],(caps.toList.map a.eval),by rw[←Array.toList_map,Array.toArray_toList],by simp,fun i x y hx aX=> ?_⟩
    rw[List.getElem?_map] at hx aX
    cases ab:caps.toList[i]? with
    | none=>simp[ab] at hx
    | some p=>
     simp[ab] at hx aX
     subst hx;subst aX
     have hv:=opv_rel ci p
     have gB:Js (ch T p)=true:=List.all_eq_true.1 h2 _ (List.mem_map.2 ⟨p,List.mem_of_getElem? ab,rfl⟩)
     cases U:ch T p<;>rw[U] at hv gB<;>first | exact hv | cases gB
   ·exact h.elim
  | _=>exact h.elim
 | fieldAddr t x f=>exact rE (s:=Instr.fieldAt t (a.eval x) f) rfl (adB (opv_rel ci x) h)
 | indexAddr t x i=>exact rE (s:=Instr.indexAt t (a.eval x) (a.eval i)) rfl (agG sub ax (opv_rel ci x) (opv_rel ci i) h)
 | index t x i=>exact rE (s:=Instr.index t (a.eval x) (a.eval i)) rfl (agQ (opv_rel ci x) (opv_rel ci i) h)
 | slice t x lo hi mx=>
  cases mx with
  | none=>exact rE (s:=Instr.sliceAt t (a.eval x) (lo.map a.eval) (hi.map a.eval) none) rfl (ama sub ax (opv_rel ci x) (Xl ci lo) (Xl ci hi) h)
  | some m=>exact h.elim
 | extract x i=>exact rE (s:=Instr.extract (a.eval x) i) rfl (adw (opv_rel ci x) h)
 | call c=>
  have h:Kg P c (ch T) L H K:=h
  obtain⟨callee,args,argTypes⟩:=c
  cases callee with
  | builtin b=>
   cases b with
   | len=>
    have h:(match args.toList,argTypes.toList with
     | [x],[t]=>e_ (k1 P t (ch T x)) (uF (ch T x) K)
     | _,_=>False):=h
    split at h
    ·rename_i x t h1 h2
     obtain⟨afT,afU⟩:=r4 h
     obtain rfl:args= #[x]:=by rw[←Array.toArray_toList (xs:=args),h1]
     obtain rfl:argTypes= #[t]:=by rw[←Array.toArray_toList (xs:=argTypes),h2]
     obtain⟨r,u,hK,aj,hv⟩:=ajP (P:=P) (ty:=ty) (opv_rel ci x) afT afU
     unfold Oper.wp
     have:(execOp a.eval ⟨dst,.call ⟨.builtin .len,#[x],#[t]⟩,ty,pos,after,guard⟩).run P E.w= .ok (.value u) E.w:=by
      simp only[execOp,resolve,Sem.run_bind,Sem.run_pure,Result.andThen_ok,invoke,builtin]
      have e:Array.map a.eval #[x]= #[a.eval x]:=by simp
      rw[e,aj];rfl
     rw[this]
     exact⟨r,u,E,hK,rfl,nb.refl ax,hv,rfl⟩
    ·exact h.elim
   | _=>exact h.elim
  | value f=>
   have h:nh (ch T f) fun g caps=>qK P g (args.toList.map (ch T)++caps) L H K:=h
   cases hf:ch T f with
   | fn g caps=>
    rw[hf] at h
    obtain⟨af,eu,t,hs,rR,hK⟩:=(show qK P g (args.toList.map (ch T)++caps) L H K from h)
    obtain⟨vs,he,xy⟩:=Rq ci hf
    unfold Oper.wp
    rw[show execOp a.eval ⟨dst,.call ⟨.value f,args,argTypes⟩,ty,pos,after,guard⟩=(do let d ←resolve a.eval ⟨.value f,args,argTypes⟩ ty;invoke d.target d.args) from rfl]
    rw[Yn (P:=P) (ty:=ty) (w:=E.w) (c:=⟨.value f,args,argTypes⟩) rfl he rR.1]
    have KQ:ak (V2 E) (args.toList.map (ch T)++caps) (args.toList.map a.eval++vs):=
     ak.append (Q3 ci args.toList fun x hx=>AX (List.all_eq_true.1 af _ (by simp;exact .inl ⟨x,by simpa using hx,rfl⟩))) xy
    refine(Rp sub ax bJ KQ hs rR).mono ?_
    rintro e w' ⟨v,E',rfl,rfl,U,hv⟩
    exact⟨t,v,E',hK,rfl,U,hv,rfl⟩
   | _=>rw[hf] at h;exact h.elim
  | _=>exact h.elim
 | _=>exact h.elim
theorem ac7 (w:World) (o:Obj) (c:Nat) (h:c<w.heap.size):(w.drew.alloc o).heap[c]?=w.heap[c]?:=tM w.drew o c h
structure pb (w w':World) (o:Obj):Prop where
 os:w'.os=w.os
 tape:w'.tape=w.tape
 output:w'.output=w.output
 size:w'.heap.size=w.heap.size+1
 k4: ∀c,c<w.heap.size→w'.heap[c]?=w.heap[c]?
 new:w'.heap[w.heap.size]?=some o
theorem pb.alloc (w:World) (o:Obj):pb w (w.alloc o) o:=⟨rfl,rfl,rfl,by simp,fun c hc=>tM w o c hc,p0 w o⟩
theorem pb.ac6 (w:World) (o:Obj):pb w (w.drew.alloc o) o:=⟨rfl,rfl,rfl,by simp,fun c hc=>ac7 w o c hc,p0 w.drew o⟩
theorem SimH.ext {E:Env} {H H':List Blk} (h:SimH E H) (hs: ∀(b:Nat) (blk:Blk),H[b]?=some blk→H'[b]?=some blk) (aw:H.length≤H'.length) (aE: ∀(b:Nat) (blk:Blk),H.length≤b→H'[b]?=some blk→blk.bm=0):SimH E H':=
 {h with
  heap:=fun b c hb=>by
   obtain⟨blk,al,ty,q1,q⟩:=h.heap b c hb
   exact⟨blk,al,ty,hs b blk q1,q⟩
  fc:=fun b blk hb=>by
   rcases Nat.lt_or_ge b H.length with aM | gY
   ·have h1:=List.getElem?_eq_getElem aM
    have h2:=hs b _ h1
    rw[hb] at h2
    cases h2
    exact h.fc b _ h1
   ·rw[(h.fresh b gY).2,aE b blk gY hb]
  ii:=fun b hb=>by
   obtain⟨blk,q1,q⟩:=h.ii b hb
   exact⟨blk,hs b blk q1,q⟩
  fresh:=fun b hb=>h.fresh b (Nat.le_trans aw hb)}
theorem SimH.snoc {E:Env} {H:List Blk} (h:SimH E H) {blk:Blk} (aE:blk.bm=0):SimH E (H++[blk]):=
 h.ext (fun b x hb=>by rw[List.getElem?_append_left (List.getElem?_eq_some_iff.1 hb).1];exact hb) (by simp) (fun b x hb hx=>by
  rw[List.getElem?_append_right hb] at hx
  have:b - H.length=0:=by
   rcases Nat.eq_zero_or_pos (b - H.length) with q | q
   ·exact q
   ·rw[List.getElem?_eq_none (by simp;omega)] at hx;cases hx
  rw[this] at hx;cases hx;exact aE)
theorem SimL.cons {E:Env} {L:List (Nat×List AV)} (h:SimL E L) {t:Nat} {cells:List AV} (af:E.mL t=none):SimL E ((t,cells)::L):=fun s c hm=>by
 have:s≠t:=fun e=>by subst e;rw[af] at hm;cases hm
 simp only[eR,if_neg this]
 exact h s c hm
theorem W1 {E:Env} {H:List Blk} {L:List (Nat×List AV)} {w':World} {al:Array Value} {ty:TypeId} {t:Nat} {cells:List AV} (ax:SimH E H) (bJ:SimL E L) (hw:pb E.w w' (.cells al ty (0,0)))
  (aY:eR L t=some cells) (hm:E.mL t=none) (hc:ak (b4 E.bQ) cells al.toList):
  ∃E',E'.w=w'∧Step E E'∧SimH E' H∧SimL E' L∧V3 E' (.fS t 0) (.pointer (some ⟨E.w.heap.size,0,none⟩))∧E'.m=E.m∧(∀s,s≠t→E'.mL s=E.mL s):=by
 let E':Env:={E with w:=w',mL:=fun s=>if s=t then some E.w.heap.size else E.mL s}
 have a7:Step E E':=
  {le:=⟨fun _ h=>h,fun _ h=>h,fun c hc=>hw.k4 c (ax.ea c hc),fun c hc=>hw.k4 c (ax.ea c (ax.dU c hc)),fun _=>Nat.le_refl _,fun _ _ h _=>⟨h,rfl,rfl⟩,fun s c h=>by
    show(if s=t then _ else _)=_
    rw[if_neg (fun e=>by subst e;rw[hm] at h;cases h)];exact h⟩
   os:=hw.os,tape:=hw.tape,output:=hw.output
   size:=by show E.w.heap.size≤w'.heap.size;rw[hw.size];omega
   cZ:=fun c hc _ _=>hw.k4 c hc
   kd:=fun _ _ h=> .inl h
   kF:=fun c ⟨s,hs⟩=>by
    have hs:(if s=t then some E.w.heap.size else E.mL s)=some c:=hs
    split at hs
    ·cases hs;exact .inr (Nat.le_refl _)
    ·exact .inl ⟨s,hs⟩
   gF:=fun _ h=> .inl h
   fU:=fun _ h=> .inl h}
 have hml: ∀s c,E'.mL s=some c→(s=t∧c=E.w.heap.size)∨(s≠t∧E.mL s=some c):=by
  intro s c hs
  have hs:(if s=t then some E.w.heap.size else E.mL s)=some c:=hs
  split at hs
  ·rename_i e;cases hs;exact .inl ⟨e,rfl⟩
  ·rename_i e;exact .inr ⟨e,hs⟩
 have ls:=ax.gD
 have lu:=ax.hG
 refine⟨E',rfl,a7,?_,?_,⟨E.w.heap.size,by show(if t=t then _ else _)=_;rw[if_pos rfl],rfl⟩,rfl,fun s hs=>if_neg hs⟩
 ·exact{
   heap:=fun b c hb=>by
    obtain⟨blk,b3,jf,q1,b6,q2,q3,q4,cN,c2⟩:=ax.heap b c hb
    refine⟨blk,b3,jf,q1,b6,?_,q3,q4,cN,fun i j row a aj ah=> ?_⟩
    ·show w'.heap[c]?=_;rw[hw.k4 c (ls c ⟨b,hb⟩)];exact q2
    ·obtain⟨u,hu,fp⟩:=c2 i j row a aj ah
     exact⟨u,hu,fp.le a7.le.bQ⟩
   fc:=ax.fc
   ii:=ax.ii
   fresh:=ax.fresh
   hr:=ax.hr
   kG:=fun s s' c h1 h2=>by
    rcases hml s c h1 with⟨d1,aG⟩ | ⟨_,dA⟩<;>rcases hml s' c h2 with⟨d2,e2⟩ | ⟨_,g_⟩
    ·rw[d1,d2]
    ·have:=lu c ⟨s',g_⟩;omega
    ·have:=lu c ⟨s,dA⟩;omega
    ·exact ax.kG s s' c dA g_
   hN:=fun b s c h1 h2=>by
    rcases hml s c h2 with⟨rfl,rfl⟩ | ⟨_,h2⟩
    ·have:=ls _ ⟨b,h1⟩;omega
    ·exact ax.hN b s c h1 h2
   iM:=ax.iM
   jr:=fun c hc ⟨s,hs⟩=>by
    rcases hml s c hs with⟨rfl,rfl⟩ | ⟨_,hs⟩
    ·have:=ax.ea _ hc;omega
    ·exact ax.jr c hc ⟨s,hs⟩
   dU:=ax.dU
   ga:=fun c hc=>(ax.ga c hc).same (hw.k4 c (ax.ea c (ax.dU c hc)))
   ea:=fun c hc=>Nat.lt_of_lt_of_le (ax.ea c hc) a7.size
   gD:=fun c hc=>Nat.lt_of_lt_of_le (ls c hc) a7.size
   hG:=fun c ⟨s,hs⟩=>by
    rcases hml s c hs with⟨rfl,rfl⟩ | ⟨_,hs⟩
    ·show _<w'.heap.size;rw[hw.size];omega
    ·exact Nat.lt_of_lt_of_le (lu c ⟨s,hs⟩) a7.size}
 ·intro s c hs
  rcases hml s c hs with⟨rfl,rfl⟩ | ⟨_,hs⟩
  ·exact⟨cells,al,ty,aY,hw.new,hc.mono fun _ _ k=>k.le a7.le.bQ⟩
  ·obtain⟨hU,b3,jf,q1,q2,q3⟩:=bJ s c hs
   exact⟨hU,b3,jf,q1,by show w'.heap[c]?=_;rw[hw.k4 c (lu c ⟨s,hs⟩)];exact q2,q3.mono fun _ _ k=>k.le a7.le.bQ⟩
theorem AT {E:Env} {H H':List Blk} {L:List (Nat×List AV)} {w':World} {al:Array Value} {ty:TypeId} {b cap:Nat} {blk:Blk} (ax:SimH E H) (bJ:SimL E L) (hw:pb E.w w' (.cells al ty (0,0)))
  (hb:H'[b]?=some blk) (an: ∀bU,bU≠b→H'[bU]?=H[bU]?) (hlen:b<H.length→H'.length=H.length) (Gu:H.length≤H'.length)
  (lq:(E.m b=none∧blk.bm=E.bm b)∨E.bm b<blk.bm) (mS:al.size=cap*blk.sz) (fw:blk.rows.length≤cap)
  (aj:zn E blk.sz blk.rows al):
  ∃E',E'.w=w'∧Step E E'∧SimH E' H'∧SimL E' L∧E'.bm b=blk.bm∧E'.m b=some (some E.w.heap.size)∧E'.sz b=blk.sz∧E'.cp b=cap∧(∀bU,bU≠b→E'.m bU=E.m bU)∧E'.mL=E.mL:=by
 let E':Env:={E with w:=w',m:=fun bU=>if bU=b then some (some E.w.heap.size) else E.m bU,bm:=fun bU=>if bU=b then blk.bm else E.bm bU,sz:=fun bU=>if bU=b then blk.sz else E.sz bU,cp:=fun bU=>if bU=b then cap else E.cp bU}
 have a7:Step E E':=
  {le:=⟨fun _ h=>h,fun _ h=>h,fun c hc=>hw.k4 c (ax.ea c hc),fun c hc=>hw.k4 c (ax.ea c (ax.dU c hc)),fun bU=>by
     show _≤(if bU=b then _ else _)
     split
     ·rename_i e;subst e;rcases lq with⟨_,e⟩ | e<;>omega
     ·exact Nat.le_refl _,fun bU x hx aE=>by
     have rS:(if bU=b then blk.bm else E.bm bU)=E.bm bU:=aE
     have bq:bU≠b:=fun e=>by
      subst e
      rw[if_pos rfl] at rS
      rcases lq with⟨af,_⟩ | e
      ·rw[af] at hx;cases hx
      ·omega
     refine⟨?_,?_,?_⟩
     ·show(if bU=b then _ else _)=_;rw[if_neg bq];exact hx
     ·show(if bU=b then _ else _)=_;rw[if_neg bq]
     ·show(if bU=b then _ else _)=_;rw[if_neg bq],fun _ _ h=>h⟩
   os:=hw.os,tape:=hw.tape,output:=hw.output
   size:=by show E.w.heap.size≤w'.heap.size;rw[hw.size];omega
   cZ:=fun c hc _ _=>hw.k4 c hc
   kd:=fun s c hs=>by
    have hs:(if s=b then some (some E.w.heap.size) else E.m s)=some (some c):=hs
    split at hs
    ·cases hs;exact .inr (Nat.le_refl _)
    ·exact .inl hs
   kF:=fun _ h=> .inl h
   gF:=fun _ h=> .inl h
   fU:=fun _ h=> .inl h}
 have hm: ∀s c,E'.m s=some (some c)→(s=b∧c=E.w.heap.size)∨(s≠b∧E.m s=some (some c)):=by
  intro s c hs
  have hs:(if s=b then some (some E.w.heap.size) else E.m s)=some (some c):=hs
  split at hs
  ·rename_i e;cases hs;exact .inl ⟨e,rfl⟩
  ·rename_i e;exact .inr ⟨e,hs⟩
 have ls:=ax.gD
 have lu:=ax.hG
 have cm: ∀s,s≠b→E'.sz s=E.sz s:=fun s hs=>if_neg hs
 have sQ: ∀s,s≠b→E'.cp s=E.cp s:=fun s hs=>if_neg hs
 have GB:E'.sz b=blk.sz:=if_pos rfl
 have KZ:E'.cp b=cap:=if_pos rfl
 have S4:E'.bm b=blk.bm:=if_pos rfl
 refine⟨E',rfl,a7,?_,?_,S4,if_pos rfl,GB,KZ,fun bU dT=>if_neg dT,rfl⟩
 ·exact{
   heap:=fun s c hs=>by
    rcases hm s c hs with⟨rfl,rfl⟩ | ⟨bq,hs⟩
    ·refine⟨blk,al,ty,hb,GB,hw.new,by rw[KZ,GB];exact mS,by rw[KZ];exact fw,?_⟩
     rw[GB]
     exact⟨aj.1,fun i j row a h1 h2=>by obtain⟨u,hu,fp⟩:=aj.2 i j row a h1 h2;exact⟨u,hu,fp.le a7.le.bQ⟩⟩
    ·obtain⟨blk',b3,jf,q1,b6,q2,q3,q4,cN,c2⟩:=ax.heap s c hs
     refine⟨blk',b3,jf,by rw[an s bq];exact q1,by rw[cm s bq];exact b6,?_,by rw[sQ s bq,cm s bq];exact q3,by rw[sQ s bq];exact q4,by rw[cm s bq];exact cN,fun i j row a aj ah=> ?_⟩
     ·show w'.heap[c]?=_;rw[hw.k4 c (ls c ⟨s,hs⟩)];exact q2
     ·obtain⟨u,hu,fp⟩:=c2 i j row a aj ah
      exact⟨u,by rw[cm s bq];exact hu,fp.le a7.le.bQ⟩
   fc:=fun s x hs=>by
    by_cases e:s=b
    ·subst e;rw[hb] at hs;cases hs;exact S4
    ·rw[an s e] at hs
     show(if s=b then _ else _)=_
     rw[if_neg e];exact ax.fc s x hs
   ii:=fun s hs=>by
    have hs:(if s=b then some (some E.w.heap.size) else E.m s)=some none:=hs
    split at hs
    ·cases hs
    ·rename_i e
     obtain⟨x,q1,q2⟩:=ax.ii s hs
     exact⟨x,by rw[an s e];exact q1,by rw[cm s e];exact q2⟩
   fresh:=fun s hs=>by
    have aM:b<H'.length:=(List.getElem?_eq_some_iff.1 hb).1
    have e:s≠b:=by omega
    have:=ax.fresh s (by omega)
    exact⟨by show(if s=b then _ else _)=_;rw[if_neg e];exact this.1,by show(if s=b then _ else _)=_;rw[if_neg e];exact this.2⟩
   hr:=fun s s' c h1 h2=>by
    rcases hm s c h1 with⟨d1,aG⟩ | ⟨_,dA⟩<;>rcases hm s' c h2 with⟨d2,e2⟩ | ⟨_,g_⟩
    ·rw[d1,d2]
    ·have:=ls c ⟨s',g_⟩;omega
    ·have:=ls c ⟨s,dA⟩;omega
    ·exact ax.hr s s' c dA g_
   kG:=ax.kG
   hN:=fun s t c h1 h2=>by
    rcases hm s c h1 with⟨rfl,rfl⟩ | ⟨_,h1⟩
    ·have:=lu _ ⟨t,h2⟩;omega
    ·exact ax.hN s t c h1 h2
   iM:=fun c hc ⟨s,hs⟩=>by
    rcases hm s c hs with⟨rfl,rfl⟩ | ⟨_,hs⟩
    ·have:=ax.ea _ hc;omega
    ·exact ax.iM c hc ⟨s,hs⟩
   jr:=ax.jr
   dU:=ax.dU
   ga:=fun c hc=>(ax.ga c hc).same (hw.k4 c (ax.ea c (ax.dU c hc)))
   ea:=fun c hc=>Nat.lt_of_lt_of_le (ax.ea c hc) a7.size
   gD:=fun c ⟨s,hs⟩=>by
    rcases hm s c hs with⟨rfl,rfl⟩ | ⟨_,hs⟩
    ·show _<w'.heap.size;rw[hw.size];omega
    ·exact Nat.lt_of_lt_of_le (ls c ⟨s,hs⟩) a7.size
   hG:=fun c hc=>Nat.lt_of_lt_of_le (lu c hc) a7.size}
 ·intro s c hs
  obtain⟨hU,b3,jf,q1,q2,q3⟩:=bJ s c hs
  exact⟨hU,b3,jf,q1,by show w'.heap[c]?=_;rw[hw.k4 c (lu c ⟨s,hs⟩)];exact q2,q3.mono fun _ _ k=>k.le a7.le.bQ⟩
theorem Ye {E:Env} {H:List Blk} {L:List (Nat×List AV)} {w':World} {b:Nat} {x:Option Nat} {blk blk':Blk} (ax:SimH E H) (bJ:SimL E L)
  (hm:E.m b=some x) (hb:H[b]?=some blk) (aE:blk'.bm=blk.bm+1) (nT:blk'.sz=blk.sz)
  (an:w'.os=E.w.os) (agn:w'.tape=E.w.tape) (afY:w'.output=E.w.output) (cm:w'.heap.size=E.w.heap.size)
  (hw: ∀c,x≠some c→w'.heap[c]?=E.w.heap[c]?)
  (hx: ∀c,x=some c→ ∃al ty,w'.heap[c]?=some (.cells al ty (0,0))∧al.size=E.cp b*E.sz b∧blk'.rows.length≤E.cp b∧zn E (E.sz b) blk'.rows al):
  ∃E',E'.w=w'∧Step E E'∧SimH E' (H.set b blk')∧SimL E' L∧E'.bm b=blk'.bm∧E'.m=E.m∧E'.sz=E.sz∧E'.cp=E.cp∧E'.mL=E.mL:=by
 let E':Env:={E with w:=w',bm:=fun bU=>if bU=b then blk'.bm else E.bm bU}
 have lq:=ax.fc b blk hb
 have bq: ∀c,E.PA c→x≠some c:=fun c hc e=>ax.iM c hc ⟨b,by rw[hm,e]⟩
 have a7:Step E E':=
  {le:=⟨fun _ h=>h,fun _ h=>h,fun c hc=>hw c (bq c hc),fun c hc=>hw c (bq c (ax.dU c hc)),fun bU=>by
     show _≤(if bU=b then _ else _)
     split
     ·rename_i e;subst e;omega
     ·exact Nat.le_refl _,fun bU y aX afD=>by
     have rS:(if bU=b then blk'.bm else E.bm bU)=E.bm bU:=afD
     have Ah:bU≠b:=fun e=>by subst e;rw[if_pos rfl] at rS;omega
     exact⟨aX,rfl,rfl⟩,fun _ _ h=>h⟩
   os:=an,tape:=agn,output:=afY
   size:=by show E.w.heap.size≤w'.heap.size;rw[cm];exact Nat.le_refl _
   cZ:=fun c hc h1 _=>hw c (fun e=>h1 ⟨b,by rw[hm,e]⟩)
   kd:=fun _ _ h=> .inl h
   kF:=fun _ h=> .inl h
   gF:=fun _ h=> .inl h
   fU:=fun _ h=> .inl h}
 have sP:b<H.length:=(List.getElem?_eq_some_iff.1 hb).1
 refine⟨E',rfl,a7,?_,?_,if_pos rfl,rfl,rfl,rfl,rfl⟩
 ·exact{ax with
   ga:=fun ct mf=>(ax.ga ct mf).same (a7.le.wf ct mf)
   heap:=fun s c hs=>by
    by_cases e:s=b
    ·subst e
     have TB:x=some c:=by
      have:E.m s=some (some c):=hs
      rw[hm] at this;exact Option.some.inj this
     obtain⟨CI,app,apQ,q1,b6,q⟩:=ax.heap s c (by rw[hm,TB])
     obtain rfl:blk=CI:=by rw[hb] at q1;exact Option.some.inj q1
     obtain⟨al,ty,h1,h2,aD,bj⟩:=hx c TB
     exact⟨blk',al,ty,by rw[List.getElem?_set_self sP],b6.trans nT.symm,h1,h2,aD,bj.1,fun i j row a aj ah=>by
      obtain⟨u,hu,fp⟩:=bj.2 i j row a aj ah;exact⟨u,hu,fp.le a7.le.bQ⟩⟩
    ·obtain⟨CI,b3,jf,q1,b6,q2,q3,q4,cN,c2⟩:=ax.heap s c hs
     refine⟨CI,b3,jf,by rw[List.getElem?_set_ne (fun h=>e h.symm)];exact q1,b6,?_,q3,q4,cN,fun i j row a aj ah=> ?_⟩
     ·show w'.heap[c]?=_
      rw[hw c (fun h=>e (ax.hr s b c hs (by rw[hm,h])))];exact q2
     ·obtain⟨u,hu,fp⟩:=c2 i j row a aj ah
      exact⟨u,hu,fp.le a7.le.bQ⟩
   fc:=fun s y hs=>by
    by_cases e:s=b
    ·subst e;rw[List.getElem?_set_self sP] at hs;cases hs;exact if_pos rfl
    ·rw[List.getElem?_set_ne (fun h=>e h.symm)] at hs
     show(if s=b then _ else _)=_
     rw[if_neg e];exact ax.fc s y hs
   ii:=fun s hs=>by
    obtain⟨y,q1,q2⟩:=ax.ii s hs
    by_cases e:s=b
    ·subst e
     obtain rfl:blk=y:=by rw[hb] at q1;exact Option.some.inj q1
     exact⟨blk',by rw[List.getElem?_set_self sP],q2.trans nT.symm⟩
    ·exact⟨y,by rw[List.getElem?_set_ne (fun h=>e h.symm)];exact q1,q2⟩
   fresh:=fun s hs=>by
    rw[List.length_set] at hs
    have e:s≠b:=by omega
    have:=ax.fresh s hs
    exact⟨this.1,by show(if s=b then _ else _)=_;rw[if_neg e];exact this.2⟩
   ea:=fun c hc=>Nat.lt_of_lt_of_le (ax.ea c hc) a7.size
   gD:=fun c hc=>Nat.lt_of_lt_of_le (ax.gD c hc) a7.size
   hG:=fun c hc=>Nat.lt_of_lt_of_le (ax.hG c hc) a7.size}
 ·intro s c hs
  obtain⟨hU,b3,jf,q1,q2,q3⟩:=bJ s c hs
  refine⟨hU,b3,jf,q1,?_,q3.mono fun _ _ k=>k.le a7.le.bQ⟩
  show w'.heap[c]?=_
  rw[hw c (fun e=>ax.hN b s c (by rw[hm,e]) hs)];exact q2
theorem Hn {E:Env} {H:List Blk} {L:List (Nat×List AV)} {blk:Blk} (ax:SimH E H) (bJ:SimL E L) (aE:blk.bm=0) (aj:blk.rows=[]):
  ∃E',E'.w=E.w∧Step E E'∧SimH E' (H++[blk])∧SimL E' L∧E'.bm H.length=0∧E'.m H.length=some none∧(∀b,b≠H.length→E'.m b=E.m b)∧E'.mL=E.mL:=by
 have hs:=ax.snoc aE
 have af:=ax.fresh H.length (Nat.le_refl _)
 let E':Env:={E with m:=fun b=>if b=H.length then some none else E.m b,sz:=fun b=>if b=H.length then blk.sz else E.sz b}
 have ug: ∀b c,E'.m b=some (some c)→E.m b=some (some c)∧b≠H.length:=by
  intro b c h
  have h:(if b=H.length then some none else E.m b)=some (some c):=h
  split at h
  ·cases h
  ·exact⟨h,by assumption⟩
 have a7:Step E E':=
  {le:=⟨fun _ h=>h,fun _ h=>h,fun _ _=>rfl,fun _ _=>rfl,fun _=>Nat.le_refl _,fun b x hx _=>by
     have bq:b≠H.length:=fun e=>by subst e;rw[af.1] at hx;cases hx
     exact⟨by show(if b=H.length then _ else _)=_;rw[if_neg bq];exact hx,by show(if b=H.length then _ else _)=_;rw[if_neg bq],rfl⟩,fun _ _ h=>h⟩
   os:=rfl,tape:=rfl,output:=rfl,size:=Nat.le_refl _
   cZ:=fun _ _ _ _=>rfl
   kd:=fun b c h=> .inl (ug b c h).1
   kF:=fun _ h=> .inl h
   gF:=fun _ h=> .inl h
   fU:=fun _ h=> .inl h}
 refine⟨E',rfl,a7,?_,fun s c hm=> ?_,af.2,if_pos rfl,fun b hb=>if_neg hb,rfl⟩
 ·exact{hs with
   heap:=fun b c h=>by
    obtain⟨h,bq⟩:=ug b c h
    obtain⟨CI,b3,jf,q1,b6,q2,q3,q4,cN,c2⟩:=hs.heap b c h
    have cm:E'.sz b=E.sz b:=if_neg bq
    exact⟨CI,b3,jf,q1,by rw[cm];exact b6,q2,by rw[cm];exact q3,q4,by rw[cm];exact cN,fun i j row a aj ah=>by
     obtain⟨u,hu,fp⟩:=c2 i j row a aj ah
     exact⟨u,by rw[cm];exact hu,fp.le a7.le.bQ⟩⟩
   ii:=fun b h=>by
    by_cases e:b=H.length
    ·subst e
     exact⟨blk,by simp,if_pos rfl⟩
    ·have h:E.m b=some none:=by
      have h:(if b=H.length then some none else E.m b)=some none:=h
      rwa [if_neg e] at h
     obtain⟨y,q1,q2⟩:=hs.ii b h
     exact⟨y,q1,by show(if b=H.length then _ else _)=_;rw[if_neg e];exact q2⟩
   fresh:=fun b h=>by
    have:=hs.fresh b h
    have e:b≠H.length:=by simp at h;omega
    exact⟨by show(if b=H.length then _ else _)=_;rw[if_neg e];exact this.1,this.2⟩
   hr:=fun b bU c h1 h2=>hs.hr b bU c (ug b c h1).1 (ug bU c h2).1
   hN:=fun b t c h1 h2=>hs.hN b t c (ug b c h1).1 h2
   iM:=fun c hc ⟨b,h⟩=>hs.iM c hc ⟨b,(ug b c h).1⟩
   gD:=fun c ⟨b,h⟩=>hs.gD c ⟨b,(ug b c h).1⟩}
 ·obtain⟨hU,b3,jf,q1,q2,q3⟩:=bJ s c hm
  exact⟨hU,b3,jf,q1,q2,q3.mono fun _ _ k=>k.le a7.le.bQ⟩
def Ek (fr:Bool) (row:List AV):List AV:=match fr with
 | true=>row.map ra
 | false=>row
def od (fr:Bool) (rows:List (List AV)):List (List AV):=match fr with
 | true=>rows.map fun row=>row.map ra
 | false=>rows
theorem alC (fr:Bool) (rows:List (List AV)):od fr rows=rows.map (Ek fr):=by
 cases fr
 ·show rows=rows.map fun row=>row
  simp
 ·rfl
theorem alB (fr:Bool) (row:List AV):(Ek fr row).length=row.length:=by
 cases fr<;>simp[Ek]
def rowsOf (H:List Blk) (x:AV):Option (List (List AV)):=match x with
 | .aZ rows _ fr=>some (od fr rows)
 | .ref b g off n _=>(H[b]?).bind fun blk=>if blk.bm=g∧off+n≤blk.rows.length then some ((blk.rows.drop off).take n) else none
 | .str s=>some (s.data.toList.map fun c=>[.int .u8 c.toNat])
 | _=>none
def Yl (H:List Blk) (x:AV) (K:List (List AV)→Prop):Prop:=match x with
 | .aZ rows _ fr=>K (od fr rows)
 | .ref b g off n _=>cV H[b]? fun blk=>blk.bm=g∧off+n≤blk.rows.length∧K ((blk.rows.drop off).take n)
 | .str s=>K (s.data.toList.map fun c=>[.int .u8 c.toNat])
 | _=>False
theorem alK {H:List Blk} {x:AV} {K:List (List AV)→Prop} (h:Yl H x K): ∃cn,rowsOf H x=some cn∧K cn:=by
 cases x with
 | aZ rows full fr=>exact⟨_,rfl,h⟩
 | ref b g off n full=>
  obtain⟨blk,hb,h1,h2,aD⟩:=fT (show cV H[b]? fun blk=>blk.bm=g∧off+n≤blk.rows.length∧K ((blk.rows.drop off).take n) from h)
  exact⟨_,by show(H[b]?).bind _=_;rw[hb];show(if blk.bm=g∧off+n≤blk.rows.length then _ else _)=_;rw[if_pos ⟨h1,h2⟩],aD⟩
 | str s=>exact⟨_,rfl,h⟩
 | _=>exact h.elim
def w_ (P:Program) (e t2:TypeId) (x:AV):Bool:=match x with
 | .str _=>(match P.underlying t2 with
  | some .string=>(match P.underlying e with
   | some (.int .u8)=>P.cellsOf e==1
   | _=>false)
  | _=>false)
 | _=>(match P.underlying t2 with
  | some (.slice e2)=>e2==e
  | _=>false)
def wx (n:Nat) (cn:List (List AV)):Prop:= ∀row∈cn,row.length=n∧ ∀a∈row,kR a=true
abbrev qA (r:Type):Type:=AV→List (Nat×List AV)→List Blk→r
def w9 (P:Program) (t t2:TypeId) (s x:AV) (L:List (Nat×List AV)) (H:List Blk) (K:qA Prop):Prop:=
 cV (j_ P t) fun e=>cV (o6 P e) fun z=>if z.length=P.cellsOf e∧0<z.length∧w_ P e t2 x=true then Yl H x fun cn=>
  wx z.length cn∧(match s with
  | .aZ rows full fr=>full=true∧(∀row∈rows,row.length=z.length)∧(rows.length+cn.length)*P.bytesOf e≤140737488355328∧rows.length+cn.length≤4611686018427387904∧(rows≠[]→cn≠[])∧
    K (.ref H.length 0 0 (rows.length+cn.length) false) L (H++[⟨0,z.length,rows++cn⟩])
  | .ref b g off n full=>off=0∧cV H[b]? fun blk=>blk.bm=g∧blk.sz=z.length∧blk.rows.length=n∧(n+cn.length)*P.bytesOf e≤140737488355328∧n+cn.length≤4611686018427387904∧
    K (.ref b (g+1) 0 (n+cn.length) false) L (H.set b ⟨g+1,z.length,blk.rows++cn⟩)
  | _=>False)
 else False
structure Fc (P:Program) (E:Env) (t2:TypeId) (size:Nat) (cn:List (List AV)) (jN:Value) (news:List Value):Prop where
 len:news.length=cn.length*size
 rel: ∀(i j:Nat) (row:List AV) (a:AV),cn[i]?=some row→row[j]?=some a→ ∃u,news[i*size+j]?=some u∧b4 E.bQ a u∧u.oneCell'=true
 one: ∀u∈news,u.oneCell'=true
 num:(∃e2,P.underlying t2=some (.slice e2))∨P.underlying t2=some .string
 lenOf: ∀w,(Builtin.lenOf jN).run P w= .ok cn.length w
 cells: ∀w,(w=E.w∨w=E.w.drew)→(Builtin.firstCells size cn.length jN).run P w= .ok news.toArray w
theorem Xi {size:Nat} {cn:List (List AV)} {news:List Value} {R:AV→Value→Prop} (gB: ∀row∈cn,row.length=size) (len:news.length=cn.length*size)
  (rel: ∀(i j:Nat) (row:List AV) (a:AV),cn[i]?=some row→row[j]?=some a→ ∃u,news[i*size+j]?=some u∧R a u∧u.oneCell'=true): ∀u∈news,u.oneCell'=true:=by
 intro u hu
 obtain⟨k,hk⟩:=List.mem_iff_getElem?.1 hu
 have np:k<cn.length*size:=by rw[←len];exact(List.getElem?_eq_some_iff.1 hk).1
 have mV:0<size:=by
  rcases Nat.eq_zero_or_pos size with q | q
  ·rw[q,Nat.mul_zero] at np;omega
  ·exact q
 have hi:k / size<cn.length:=(Nat.div_lt_iff_lt_mul mV).2 np
 have ew:=List.getElem?_eq_getElem hi
 have hlen:(cn[k / size]).length=size:=gB _ (List.getElem_mem hi)
 have ah:k%size<(cn[k / size]).length:=by rw[hlen];exact Nat.mod_lt _ mV
 obtain⟨v,h1,h2,aD⟩:=rel (k / size) (k%size) _ _ ew (List.getElem?_eq_getElem ah)
 rw[Nat.div_add_mod' k size,hk] at h1
 cases h1;exact aD
theorem aoU {P:Program} {e t2:TypeId} {x:AV} {cn:List (List AV)} {E:Env} {H:List Blk} {jN:Value} {size:Nat} (ax:SimH E H) (hx:V2 E x jN) (cm:size=P.cellsOf e) (aY:w_ P e t2 x=true)
  (aj:rowsOf H x=some cn) (gB:wx size cn): ∃news,Fc P E t2 size cn jN news:=by
 have Gv: ∀row∈cn,row.length=size:=fun row h=>(gB row h).1
 cases x with
 | aZ rows full fr=>
  have cx:od fr rows=cn:=Option.some.inj aj
  have aG:cn=rows.map (Ek fr):=by rw[←cx];exact alC fr rows
  have Gy:cn.length=rows.length:=by rw[aG,List.length_map]
  have nq: ∀row∈rows,row.length=size:=fun row h=>by
   rw[←alB fr row];exact Gv _ (by rw[aG];exact List.mem_map_of_mem h)
  have hu: ∃e2,P.underlying t2=some (.slice e2):=by
   unfold w_ at aY
   simp only at aY
   split at aY
   ·exact⟨_,by assumption⟩
   ·cases aY
  obtain⟨e2,hu⟩:=hu
  have jz:aP E.w E.PA E.PF (.aZ rows full fr) jN:=hx
  cases jz with
  | @aZ _ _ PB _ _ _ A cap sz vs fH fw gP Dt eH hrel=>
   let news:List Value:=(List.range (rows.length*size)).map fun k=>vs (k / size) (k%size)
   have nX:news.length=rows.length*size:=by simp[news]
   have h5: ∀i j,i<rows.length→j<size→news[i*size+j]?=some (vs i j):=by
    intro i j hi ah
    have hk:i*size+j<rows.length*size:=by
     calc i*size+j<i*size+size:=by omega
      _=(i+1)*size:=by rw[Nat.add_mul,Nat.one_mul]
      _≤rows.length*size:=Nat.mul_le_mul_right _ (by omega)
    show((List.range (rows.length*size)).map _)[i*size+j]?=_
    rw[List.getElem?_map,List.getElem?_range hk]
    have h1:(i*size+j) / size=i:=by
     rw[Nat.add_comm,Nat.add_mul_div_right _ _ (by omega),Nat.div_eq_of_lt ah];omega
    have h2:(i*size+j)%size=j:=by
     rw[Nat.add_comm,Nat.add_mul_mod_self_right,Nat.mod_eq_of_lt ah]
    simp[h1,h2]
   have rel: ∀(i j:Nat) (row:List AV) (a:AV),cn[i]?=some row→row[j]?=some a→ ∃u,news[i*size+j]?=some u∧b4 E.bQ a u∧u.oneCell'=true:=by
    intro i j row a h1 h2
    have Ds:=gB row (List.mem_of_getElem? h1)
    have ah:j<size:=by rw[←Ds.1];exact(List.getElem?_eq_some_iff.1 h2).1
    have hs:=Ds.2 a (List.mem_of_getElem? h2)
    rw[aG,List.getElem?_map] at h1
    cases U:rows[i]? with
    | none=>rw[U] at h1;cases h1
    | some Bm=>
     rw[U] at h1
     have h1:Ek fr Bm=row:=Option.some.inj h1
     have mi:b4 E.bQ a (vs i j):=by
      cases fr with
      | false=>
       have h1:Bm=row:=h1
       subst h1
       exact aP.v1 (E:=E.bQ) ((hrel i j Bm a U h2).mono (fun _ _=>rfl) (fun _ h=>h.elim) (fun c hc=>show E.PA c by have:=fH c hc;simpa using this) (fun _ h=>h.elim))
      | true=>
       have h1:Bm.map ra=row:=h1
       subst h1
       rw[List.getElem?_map] at h2
       cases lx:Bm[j]? with
       | none=>rw[lx] at h2;cases h2
       | some a0=>
        rw[lx] at h2
        have h2:ra a0=a:=Option.some.inj h2
        subst h2
        exact aP.v1 (E:=E.bQ) (alA (hrel i j Bm a0 U lx) (fun c hc=>show E.PF c by have:=fH c hc;simpa using this) ax.dU)
     exact⟨_,h5 i j (List.getElem?_eq_some_iff.1 U).1 ah,mi,mi.Hx hs⟩
   refine⟨news,by rw[Gy];exact nX,rel,Xi Gv (by rw[Gy];exact nX) rel,.inl ⟨_,hu⟩,fun w=>by rw[Gy];rfl,fun w hw=> ?_⟩
   rw[Gy]
   have K0: ∀a,w.cell? a=E.w.cell? a:=by rcases hw with rfl | rfl<;>intro a<;>rfl
   by_cases az:rows.length=0
   ·have af:news=[]:=List.eq_nil_of_length_eq_zero (by rw[nX,az,Nat.zero_mul])
    rw[af,az]
    cases A with
    | none=>exact run_firstCells_none w size 0 _ _
    | some nc=>
     have:=run_firstCells_some (P:=P) w size 0 nc 0 cap [] (by simp) (fun j v h=>by simp at h)
     exact this
   ·obtain⟨c,o,rfl,hc,eG⟩:=eH (by omega)
    refine run_firstCells_some (P:=P) w size rows.length ⟨c,o,none⟩ rows.length cap news nX (fun k v hk=> ?_)
    have np:k<rows.length*size:=by rw[←nX];exact(List.getElem?_eq_some_iff.1 hk).1
    have mV:0<size:=by
     rcases Nat.eq_zero_or_pos size with q | q
     ·rw[q,Nat.mul_zero] at np;omega
     ·exact q
    have hi:k / size<rows.length:=(Nat.div_lt_iff_lt_mul mV).2 np
    have ah:k%size<size:=Nat.mod_lt _ mV
    have Tx:sz=size:=by
     have:=Dt _ _ (List.getElem?_eq_getElem hi)
     rw[←this];exact nq _ (List.getElem_mem hi)
    have h1:=eG (k / size) (k%size) hi (by rw[Tx];exact ah)
    have h2:=h5 (k / size) (k%size) hi ah
    rw[Nat.div_add_mod' k size] at h2
    rw[hk] at h2
    cases h2
    rw[pZ,K0]
    rw[Tx,Nat.div_add_mod' k size] at h1
    exact h1
 | ref b g off n full=>
  have hu: ∃e2,P.underlying t2=some (.slice e2):=by
   unfold w_ at aY
   simp only at aY
   split at aY
   ·exact⟨_,by assumption⟩
   ·cases aY
  obtain⟨e2,hu⟩:=hu
  have aj:((H[b]?).bind fun blk=>if blk.bm=g∧off+n≤blk.rows.length then some ((blk.rows.drop off).take n) else none)=some cn:=aj
  cases hb:H[b]? with
  | none=>simp[hb] at aj
  | some blk=>
   simp only[hb,Option.bind_some] at aj
   split at aj
   case isFalse=>cases aj
   case isTrue hc=>
   obtain⟨aE,vB⟩:=hc
   cases aj
   have lq:=ax.fc b blk hb
   have rV:((blk.rows.drop off).take n).length=n:=by simp;omega
   have agw: ∀i row,((blk.rows.drop off).take n)[i]?=some row→blk.rows[off+i]?=some row:=by
    intro i row h
    rw[List.getElem?_take] at h
    split at h
    ·rw[List.getElem?_drop] at h;exact h
    ·cases h
   rcases(show fu E (.ref b g off n full) jN from hx) with⟨bw,_⟩ | ⟨gY,bw⟩
   ·omega
   ·rcases bw with⟨_,_,nW,A,rfl⟩ | ⟨c,cap,hm,rfl,qS,rQ,sQ⟩
    ·subst nW
     refine⟨[],by simp,fun i j row a h=>by simp at h,(fun u hu=>by cases hu),.inl ⟨_,hu⟩,fun w=>by simp;rfl,fun w hw=> ?_⟩
     rw[rV]
     cases A with
     | none=>exact run_firstCells_none w size 0 _ _
     | some nc=>exact run_firstCells_some (P:=P) w size 0 nc 0 0 [] (by simp) (fun j v h=>by simp at h)
    ·obtain⟨blk',al,ty,q1,b6,hw,mS,mR,hq⟩:=ax.heap b c hm
     obtain rfl:blk=blk':=by rw[hb] at q1;exact Option.some.inj q1
     by_cases nW:n=0
     ·subst nW
      refine⟨[],by simp,fun i j row a h=>by simp at h,(fun u hu=>by cases hu),.inl ⟨_,hu⟩,fun w=>by simp;rfl,fun w hw=> ?_⟩
      rw[rV]
      exact run_firstCells_some (P:=P) w size 0 _ 0 cap [] (by simp) (fun j v h=>by simp at h)
     ·have Ly:E.sz b=size:=by
       have aM:off<blk.rows.length:=by omega
       have aA:((blk.rows.drop off).take n)[0]?=some blk.rows[off]:=by
        rw[List.getElem?_take,if_pos (by omega),List.getElem?_drop,Nat.add_zero,List.getElem?_eq_getElem aM]
       rw[←hq.1 off _ (List.getElem?_eq_getElem aM)]
       exact Gv _ (List.mem_of_getElem? aA)
      let news:List Value:=(al.toList.drop (off*size)).take (n*size)
      have afb:off*size+n*size≤al.size:=by
       rw[mS,Ly,←Nat.add_mul];exact Nat.mul_le_mul_right _ (by omega)
      have nX:news.length=n*size:=by simp[news];omega
      have Tp: ∀k,k<n*size→news[k]?=al[off*size+k]?:=by
       intro k hk
       show((al.toList.drop (off*size)).take (n*size))[k]?=_
       rw[List.getElem?_take,if_pos hk,List.getElem?_drop,Array.getElem?_toList]
      have rel: ∀(i j:Nat) (row:List AV) (a:AV),((blk.rows.drop off).take n)[i]?=some row→row[j]?=some a→ ∃u,news[i*size+j]?=some u∧b4 E.bQ a u∧u.oneCell'=true:=by
       intro i j row a h1 h2
       have Ds:=gB row (List.mem_of_getElem? h1)
       have ah:j<size:=by rw[←Ds.1];exact(List.getElem?_eq_some_iff.1 h2).1
       have hi:i<n:=by have:=(List.getElem?_eq_some_iff.1 h1).1;rw[rV] at this;exact this
       obtain⟨u,pr,sW⟩:=hq.2 (off+i) j row a (agw i row h1) h2
       have hk:i*size+j<n*size:=by
        calc i*size+j<i*size+size:=by omega
         _=(i+1)*size:=by rw[Nat.add_mul,Nat.one_mul]
         _≤n*size:=Nat.mul_le_mul_right _ (by omega)
       refine⟨u,?_,sW,sW.Hx (Ds.2 a (List.mem_of_getElem? h2))⟩
       rw[Tp _ hk,←pr,Ly]
       congr 1
       rw[Nat.add_mul];omega
      refine⟨news,by rw[rV];exact nX,rel,Xi Gv (by rw[rV];exact nX) rel,.inl ⟨_,hu⟩,fun w=>by rw[rV];rfl,fun w e4=> ?_⟩
      have K0: ∀a,w.cell? a=E.w.cell? a:=by rcases e4 with rfl | rfl<;>intro a<;>rfl
      rw[rV]
      refine run_firstCells_some (P:=P) w size n _ n cap news nX (fun k v hk=> ?_)
      have np:k<n*size:=by rw[←nX];exact(List.getElem?_eq_some_iff.1 hk).1
      rw[Tp k np] at hk
      rw[pZ,K0,Ly]
      exact cell_of hw hk
 | str s=>
  obtain rfl:=V3.BT (sw hx)
  cases aj
  unfold w_ at aY
  simp only at aY
  split at aY
  case h_2=>cases aY
  case h_1 hu=>
  split at aY
  case h_2=>cases aY
  case h_1 he=>
  have fe:size=1:=by rw[cm];simpa using aY
  subst fe
  have Du:s.data.toList.length=s.size:=by simp
  refine⟨s.data.toList.map fun c=> .int .u8 c.toNat,by simp,fun i j row a h1 h2=> ?_,fun u hu=> ?_,.inr hu,fun w=> ?_,fun w hw=> ?_⟩
  ·rw[List.getElem?_map] at h1
   cases hc:s.data.toList[i]? with
   | none=>rw[hc] at h1;cases h1
   | some c=>
    rw[hc] at h1
    cases h1
    have S_:j=0:=by have:=(List.getElem?_eq_some_iff.1 h2).1;simp at this;omega
    subst S_
    cases h2
    exact⟨.int .u8 c.toNat,by rw[List.getElem?_map,Nat.mul_one,Nat.add_zero,hc];rfl,aP.int _ _,rfl⟩
  ·obtain⟨c,_,rfl⟩:=List.mem_map.1 hu;rfl
  ·show Result.ok s.size w=_
   rw[List.length_map,Du]
  ·rw[List.length_map,Du]
   show Result.ok ((s.extract 0 s.size).data.map fun b=>Value.int .u8 b.toNat) w=_
   congr 1
   apply Array.ext'
   simp
 | _=>cases aj
section
variable {P:Program} {E:Env} {t t2 ty e:TypeId} {size:Nat} {cn:List (List AV)} {jN:Value} {news:List Value}
theorem Ym (X:Fc P E t2 size cn jN news) (aY:P.underlying t=some (.slice e)) (hi:(P.info? e).isSome=true) (cm:P.cellsOf e=size) {base:Option Addr} {sLen sCap:Nat} (af:cn.length=0) (hc:sLen≤sCap):
  (Builtin.append_ #[t,t2] ty #[.slice base sLen sCap,jN]).run P E.w= .ok (.slice base sLen sCap) E.w:=by
 have aw:=X.lenOf E.w
 have hf:=X.cells E.w (.inl rfl)
 have afN:news=[]:=List.eq_nil_of_length_eq_zero (by rw[X.len,af,Nat.zero_mul])
 subst afN
 rw[af] at aw hf
 rcases X.num with⟨e2,hu⟩ | hu<;>
  (simp[Builtin.append_,run_underlying aY,run_underlying hu,run_sizeOf hi,cm,aw,hc,hf]
   cases base<;>simp[storeCells])
theorem alL (X:Fc P E t2 size cn jN news) (aY:P.underlying t=some (.slice e)) (hi:(P.info? e).isSome=true) (cm:P.cellsOf e=size) {g o sLen sCap:Nat} {hV:Array Value} {ce:TypeId}
  (aE:E.w.heap[g]?=some (.cells hV ce (0,0))) (Am:sLen+cn.length≤sCap) (vu:o+sLen*size+news.length≤hV.size):
  (Builtin.append_ #[t,t2] ty #[.slice (some ⟨g,o,none⟩) sLen sCap,jN]).run P E.w= .ok (.slice (some ⟨g,o,none⟩) (sLen+cn.length) sCap) (E.w.setRow g (hV.toList.take (o+sLen*size)++news++hV.toList.drop (o+sLen*size+news.length)).toArray):=by
 have aw:=X.lenOf E.w
 have hf:=X.cells E.w (.inl rfl)
 have a7:=run_storeCells_at (P:=P) g (o+sLen*size) ce news 0 hV E.w aE (by simpa using vu) X.one
 simp only[Nat.add_zero] at a7
 rcases X.num with⟨e2,hu⟩ | hu<;>
  simp[Builtin.append_,run_underlying aY,run_underlying hu,run_sizeOf hi,cm,aw,Am,hf,pZ,a7]
theorem alM (X:Fc P E t2 size cn jN news) (aY:P.underlying t=some (.slice e)) {i:TypeInfo} (hi:P.info? e=some i) (cm:i.size=size) {z:Value} (az:i.zero=some z) {base:Option Addr} {sLen sCap:Nat} {lG:Array Value}
  (holds:(Builtin.firstCells size sLen (.slice base sLen sCap)).run P E.w.drew= .ok lG E.w.drew) (aE:sCap<sLen+cn.length) (zV:((sLen+cn.length:Nat):Int)≤9223372036854775807)
  (vu:Builtin.nextslicecap (sLen+cn.length) sCap*i.bytes≤281474976710656):
  (Builtin.append_ #[t,t2] ty #[.slice base sLen sCap,jN]).run P E.w= .ok (.slice (some ⟨E.w.heap.size,0,none⟩) (sLen+cn.length) (grownCap E.w (sLen+cn.length) sCap e))
   (E.w.drew.alloc (.cells (lG++news.toArray++Builtin.zeroCells z.cells (grownCap E.w (sLen+cn.length) sCap e - (sLen+cn.length))) e)):=by
 have aw:=X.lenOf E.w
 have hf:=X.cells E.w.drew (.inr rfl)
 subst cm
 have af: ¬(sLen+cn.length≤sCap):=by omega
 have aeT: ¬(9223372036854775807<((sLen:Int)+(cn.length:Int))):=by omega
 have aeS: ¬(281474976710656<Builtin.nextslicecap (sLen+cn.length) sCap*i.bytes):=by omega
 rcases X.num with⟨e2,hu⟩ | hu<;>
  simp[Builtin.append_,run_underlying aY,run_underlying hu,sizeOf,typeInfo,zeroValue,hi,az,aw,af,aeT,aeS,Question.forced,hf,holds,newRow,grownCap]
end
theorem abI {P:Program} {t t2 ty:TypeId} {s x:AV} {L:List (Nat×List AV)} {H:List Blk} {K:AV→List (Nat×List AV)→List Blk→Prop} {E:Env} {BW jN:Value}
  (ax:SimH E H) (bJ:SimL E L) (hs:V2 E s BW) (hx:V2 E x jN) (h:w9 P t t2 s x L H K):
  ∃r u H' E',K r L H'∧(Builtin.append_ #[t,t2] ty #[BW,jN]).run P E.w= .ok u E'.w∧Step E E'∧SimH E' H'∧SimL E' L∧V3 E' r u∧E'.mL=E.mL:=by
 obtain⟨e,he,h⟩:=fT h
 obtain⟨z,az,h⟩:=fT h
 have aY:=vn he
 split at h
 case isFalse=>exact h.elim
 case isTrue hc=>
 obtain⟨qh,mV,rL⟩:=hc
 obtain⟨cn,GH,gB,h⟩:=alK h
 obtain⟨i,zc,hi,xU,s3,vF⟩:=zb (E:=E.bQ) az
 obtain⟨news,X⟩:=aoU ax hx qh rL GH gB
 have Dh:(P.info? e).isSome=true:=by rw[hi];rfl
 have Ac:i.size=z.length:=by rw[qh];simp[Program.cellsOf,hi]
 have Ab:i.bytes=P.bytesOf e:=by simp[Program.bytesOf,hi]
 have agE:zc.cells.size=z.length:=by rw[s3];simp

 have out: ∀(base:Option Addr) (rows:List (List AV)) (sCap:Nat) (lG:Array Value) (b g:Nat) (H':List Blk),BW= .slice base rows.length sCap→
   (Builtin.firstCells z.length rows.length (.slice base rows.length sCap)).run P E.w.drew= .ok lG E.w.drew→lG.size=rows.length*z.length→
   (∀row∈rows,row.length=z.length)→(∀(i j:Nat) (row:List AV) (a:AV),rows[i]?=some row→row[j]?=some a→ ∃u,lG[i*z.length+j]?=some u∧b4 E.bQ a u)→
   sCap<rows.length+cn.length→(rows.length+cn.length)*P.bytesOf e≤140737488355328→rows.length+cn.length≤4611686018427387904→
   H'[b]?=some ⟨g,z.length,rows++cn⟩→(∀bU,bU≠b→H'[bU]?=H[bU]?)→(b<H.length→H'.length=H.length)→H.length≤H'.length→((E.m b=none∧g=E.bm b)∨E.bm b<g)→
   K (.ref b g 0 (rows.length+cn.length) false) L H'→ ∃r u H' E',K r L H'∧(Builtin.append_ #[t,t2] ty #[BW,jN]).run P E.w= .ok u E'.w∧Step E E'∧SimH E' H'∧SimL E' L∧V3 E' r u∧E'.mL=E.mL:=by
  intro base rows sCap lG b g H' agf holds Tq nq afX Am hby fo dT an hlen Gu lq hK
  subst agf
  have gI:=alM (ty:=ty) X aY hi Ac xU holds Am (by omega) (growslice_fits (by omega) (by rw[Ab];exact hby))
  have KY:=grownCap_ge E.w (rows.length+cn.length) sCap e
  let cap:=grownCap E.w (rows.length+cn.length) sCap e
  let al:Array Value:=lG++news.toArray++Builtin.zeroCells zc.cells (cap - (rows.length+cn.length))
  have mS:al.size=cap*z.length:=by
   show(lG++news.toArray++Builtin.zeroCells zc.cells (cap - (rows.length+cn.length))).size=_
   have aG:(lG++news.toArray++Builtin.zeroCells zc.cells (cap - (rows.length+cn.length))).size=lG.size+news.length+(Builtin.zeroCells zc.cells (cap - (rows.length+cn.length))).size:=by simp;omega
   rw[aG,size_zeroCells,agE,Tq,X.len,←Nat.add_mul,←Nat.add_mul]
   congr 1
   have:rows.length+cn.length≤cap:=KY
   omega
  have hq:zn E z.length (rows++cn) al:=by
   refine⟨fun k row aj=> ?_,fun k j row a aj ah=> ?_⟩
   ·rcases Nat.lt_or_ge k rows.length with aM | gY
    ·rw[List.getElem?_append_left aM] at aj;exact nq row (List.mem_of_getElem? aj)
    ·rw[List.getElem?_append_right gY] at aj;exact(gB row (List.mem_of_getElem? aj)).1
   ·rcases Nat.lt_or_ge k rows.length with aM | gY
    ·rw[List.getElem?_append_left aM] at aj
     obtain⟨u,hu,hv⟩:=afX k j row a aj ah
     refine⟨u,?_,hv⟩
     have np:=(Array.getElem?_eq_some_iff.1 hu).1
     show(lG++news.toArray++_)[k*z.length+j]?=_
     rw[Array.getElem?_append_left (by rw[Array.size_append];omega),Array.getElem?_append_left np];exact hu
    ·rw[List.getElem?_append_right gY] at aj
     obtain⟨u,hu,hv,_⟩:=X.rel _ j row a aj ah
     refine⟨u,?_,hv⟩
     have np:=(List.getElem?_eq_some_iff.1 hu).1
     have nV:k*z.length+j=lG.size+((k - rows.length)*z.length+j):=by
      rw[Tq,←Nat.add_assoc,←Nat.add_mul];congr 2;omega
     show(lG++news.toArray++_)[k*z.length+j]?=_
     rw[nV,Array.getElem?_append_left (by simp;omega),Array.getElem?_append_right (by omega),Nat.add_sub_cancel_left]
     simpa using hu
  obtain⟨E',hw,a7,ui,uj,rS,po,nr,Gg,_,hml⟩:=AT (cap:=cap) (blk:=⟨g,z.length,rows++cn⟩) ax bJ (pb.ac6 E.w (.cells al e (0,0))) dT an hlen Gu lq mS (by
   show(rows++cn).length≤cap
   rw[List.length_append];exact KY) hq
  refine⟨_,_,_,E',hK,by rw[hw];exact gI,a7,ui,uj,.inr ⟨rS.symm,.inr ⟨_,_,po,?_,KY,(fun h=>by cases h),?_⟩⟩,hml⟩
  ·rw[Nat.zero_mul]
  ·rw[Gg,Nat.zero_add];exact Nat.le_refl _
 cases s with
 | aZ rows full fr=>
  obtain⟨gP,nq,hby,fo,bq,hK⟩:=h
  subst gP
  have nr:aP E.w E.PA E.PF (.aZ rows true fr) BW:=hs
  cases nr with
  | @aZ _ _ PB _ _ _ A cap sz vs fH fw gP cm eH hrel=>
   have afg:=gP rfl
   subst afg
   by_cases iJ:cn.length=0
   ·have GI:cn=[]:=List.eq_nil_of_length_eq_zero iJ
    have sV:rows=[]:=Classical.byContradiction fun bw=>bq bw GI
    subst sV;subst GI
    obtain⟨E',hw,a7,ui,uj,rS,po,_,hml⟩:=Hn (blk:=⟨0,z.length,[]++[]⟩) ax bJ rfl rfl
    have gI:=Ym (ty:=ty) X aY Dh qh.symm (base:=A) (sLen:=0) (sCap:=0) rfl (Nat.le_refl _)
    exact⟨_,_,_,E',hK,by rw[hw];exact gI,a7,ui,uj,.inr ⟨rS.symm,.inl ⟨po,rfl,rfl,A,rfl⟩⟩,hml⟩
   ·have agi:0<rows.length→sz=z.length:=fun ab=>by
     rw[←cm 0 _ (List.getElem?_eq_getElem ab)];exact nq _ (List.getElem_mem ab)
    let lG:List Value:=(List.range (rows.length*z.length)).map fun k=>vs (k / z.length) (k%z.length)
    have Aj:lG.length=rows.length*z.length:=by simp[lG]
    have h5: ∀i j,i<rows.length→j<z.length→lG[i*z.length+j]?=some (vs i j):=by
     intro i j hi ah
     have hk:i*z.length+j<rows.length*z.length:=by
      calc i*z.length+j<i*z.length+z.length:=by omega
       _=(i+1)*z.length:=by rw[Nat.add_mul,Nat.one_mul]
       _≤rows.length*z.length:=Nat.mul_le_mul_right _ (by omega)
     show((List.range (rows.length*z.length)).map _)[i*z.length+j]?=_
     rw[List.getElem?_map,List.getElem?_range hk]
     have h1:(i*z.length+j) / z.length=i:=by
      rw[Nat.add_comm,Nat.add_mul_div_right _ _ (by omega),Nat.div_eq_of_lt ah];omega
     have h2:(i*z.length+j)%z.length=j:=by
      rw[Nat.add_comm,Nat.add_mul_mod_self_right,Nat.mod_eq_of_lt ah]
     simp[h1,h2]
    refine out A rows rows.length lG.toArray H.length 0 _ rfl ?_ (by simp[Aj]) nq (fun i j row a h1 h2=> ?_) (by omega) hby fo (by simp) (fun bU dT=> ?_) (fun bw=>by omega) (by simp) (.inl ⟨(ax.fresh _ (Nat.le_refl _)).1,(ax.fresh _ (Nat.le_refl _)).2.symm⟩) hK
    ·by_cases sV:rows.length=0
     ·have aA:lG=[]:=List.eq_nil_of_length_eq_zero (by rw[Aj,sV,Nat.zero_mul])
      rw[aA,sV]
      cases A with
      | none=>exact run_firstCells_none _ _ _ _ _
      | some nc=>exact run_firstCells_some (P:=P) _ z.length 0 nc 0 0 [] (by simp) (fun j v h=>by simp at h)
     ·obtain⟨c,o,rfl,hc,eG⟩:=eH (by omega)
      refine run_firstCells_some (P:=P) E.w.drew z.length rows.length ⟨c,o,none⟩ rows.length rows.length lG Aj (fun k v hk=> ?_)
      have np:k<rows.length*z.length:=by rw[←Aj];exact(List.getElem?_eq_some_iff.1 hk).1
      have hi:k / z.length<rows.length:=(Nat.div_lt_iff_lt_mul mV).2 np
      have ah:k%z.length<z.length:=Nat.mod_lt _ mV
      have uq:=agi (by omega)
      have h1:=eG (k / z.length) (k%z.length) hi (by rw[uq];exact ah)
      have h2:=h5 (k / z.length) (k%z.length) hi ah
      rw[Nat.div_add_mod' k z.length] at h2
      rw[hk] at h2
      cases h2
      rw[uq,Nat.div_add_mod' k z.length] at h1
      rw[pZ]
      exact h1
    ·have hi:=(List.getElem?_eq_some_iff.1 h1).1
     have ah:j<z.length:=by rw[←nq row (List.mem_of_getElem? h1)];exact(List.getElem?_eq_some_iff.1 h2).1
     refine⟨vs i j,by simpa using h5 i j hi ah,aP.v1 (E:=E.bQ) ((hrel i j row a h1 h2).mono (fun _ _=>rfl) (fun _ h=>h.elim) (fun c hc=>by have:=fH c hc;split at this;exact ax.dU c this;exact this) (fun _ h=>h.elim))⟩
    ·rcases Nat.lt_or_ge bU H.length with aM | gY
     ·rw[List.getElem?_append_left aM]
     ·rw[List.getElem?_eq_none gY,List.getElem?_eq_none (by simp;omega)]
 | ref b g off n full=>
  replace h:off=0∧cV H[b]? fun blk=>blk.bm=g∧blk.sz=z.length∧blk.rows.length=n∧(n+cn.length)*P.bytesOf e≤140737488355328∧n+cn.length≤4611686018427387904∧
    K (.ref b (g+1) 0 (n+cn.length) false) L (H.set b ⟨g+1,z.length,blk.rows++cn⟩):=h
  obtain⟨afR,U⟩:=h
  obtain⟨blk,hb,aE,nT,iu,hby,fo,hK⟩:=fT U
  clear U
  subst afR
  have lq:=ax.fc b blk hb
  have sP:b<H.length:=(List.getElem?_eq_some_iff.1 hb).1
  subst iu
  rcases(show fu E (.ref b g 0 blk.rows.length full) BW from hs) with⟨bw,_⟩ | ⟨gY,bw⟩
  ·omega
  ·rcases bw with⟨hm,_,nW,A,rfl⟩ | ⟨c,cap,hm,rfl,qS,rQ,sQ⟩
   ·
    by_cases iJ:cn.length=0
    ·have GI:cn=[]:=List.eq_nil_of_length_eq_zero iJ
     subst GI
     obtain⟨E',hw,a7,ui,uj,rS,po,Dt,Gg,hml⟩:=Ye (w':=E.w) (x:=none) (blk':=⟨g+1,z.length,blk.rows++[]⟩) ax bJ hm hb (by show g+1=_;rw[aE]) nT.symm rfl rfl rfl rfl (fun _ _=>rfl) (fun c hc=>by cases hc)
     have gI:=Ym (ty:=ty) X aY Dh qh.symm (base:=A) (sLen:=0) (sCap:=0) rfl (Nat.le_refl _)
     refine⟨_,_,_,E',hK,by rw[hw];exact gI,a7,ui,uj,.inr ⟨rS.symm,.inl ⟨by rw[po];exact hm,rfl,by simp[nW],A,rfl⟩⟩,hml⟩
    ·have sV:blk.rows=[]:=List.eq_nil_of_length_eq_zero nW
     refine out A blk.rows 0 #[] b (g+1) _ (by rw[sV];rfl) ?_ (by rw[sV];simp) (fun row aj=>by rw[sV] at aj;cases aj) (fun i j row a h1 h2=>by rw[sV] at h1;simp at h1) (by omega) hby fo (by rw[List.getElem?_set_self sP]) (fun bU dT=>List.getElem?_set_ne (fun h=>dT h.symm)) (fun _=>by simp) (by simp) (.inr (by omega)) hK
     rw[sV]
     cases A with
     | none=>exact run_firstCells_none _ _ _ _ _
     | some nc=>exact run_firstCells_some (P:=P) _ z.length 0 nc 0 0 [] (by simp) (fun j v h=>by simp at h)
   ·obtain⟨blk',al,jf,q1,b6,hw,mS,mR,hq⟩:=ax.heap b c hm
    obtain rfl:blk=blk':=by rw[hb] at q1;exact Option.some.inj q1
    have cm:E.sz b=z.length:=by rw[b6,nT]
    by_cases Am:blk.rows.length+cn.length≤cap
    ·
     have afk:al.size=E.cp b*z.length:=by rw[mS,cm]
     have hle:(blk.rows.length+cn.length)*z.length≤al.size:=by rw[afk];exact Nat.mul_le_mul_right _ (by omega)
     have Te:blk.rows.length*z.length+news.length≤al.size:=by rw[X.len,←Nat.add_mul];exact hle
     have gI:=alL (ty:=ty) (o:=0) X aY Dh qh.symm hw Am (by rw[Nat.zero_add];exact Te)
     rw[Nat.zero_add] at gI
     let b3:Array Value:=(al.toList.take (blk.rows.length*z.length)++news++al.toList.drop (blk.rows.length*z.length+news.length)).toArray
     have SY: ∀k,b3[k]?=if k<blk.rows.length*z.length then al.toList[k]? else if k<blk.rows.length*z.length+news.length then news[k - blk.rows.length*z.length]? else al.toList[k]?:=by
      intro k
      show(List.toArray _)[k]?=_
      rw[List.getElem?_toArray,BR (by simpa using Te)]
     obtain⟨E',e4,a7,ui,uj,rS,po,Dt,Gg,hml⟩:=Ye (w':=E.w.setRow c b3) (x:=some c) (blk':=⟨g+1,z.length,blk.rows++cn⟩) ax bJ hm hb (by show g+1=_;rw[aE]) nT.symm rfl rfl rfl (by simp)
      (fun ct mf=>setRow_other _ _ _ _ (fun e=>mf (by rw[e]))) (fun ct mf=>by
       cases mf
       refine⟨b3,jf,setRow_heap _ _ _ _ _ _ hw,?_,by show(blk.rows++cn).length≤_;rw[List.length_append];omega,fun k row aj=> ?_,fun k j row a aj ah=> ?_⟩
       ·rw[←mS]
        show(List.toArray _).size=_
        simp;omega
       ·have aj:(blk.rows++cn)[k]?=some row:=aj
        rcases Nat.lt_or_ge k blk.rows.length with aM | Gj
        ·rw[List.getElem?_append_left aM] at aj;exact hq.1 k row aj
        ·rw[List.getElem?_append_right Gj] at aj;rw[cm];exact(gB row (List.mem_of_getElem? aj)).1
       ·have aj:(blk.rows++cn)[k]?=some row:=aj
        rcases Nat.lt_or_ge k blk.rows.length with aM | Gj
        ·rw[List.getElem?_append_left aM] at aj
         obtain⟨u,hu,hv⟩:=hq.2 k j row a aj ah
         refine⟨u,?_,hv⟩
         have lX:j<z.length:=by rw[←cm,←hq.1 k row aj];exact(List.getElem?_eq_some_iff.1 ah).1
         have:k*z.length+j<blk.rows.length*z.length:=by
          calc k*z.length+j<k*z.length+z.length:=by omega
           _=(k+1)*z.length:=by rw[Nat.add_mul,Nat.one_mul]
           _≤blk.rows.length*z.length:=Nat.mul_le_mul_right _ (by omega)
         rw[cm] at hu ⊢
         rw[SY,if_pos this];simpa using hu
        ·rw[List.getElem?_append_right Gj] at aj
         obtain⟨u,hu,hv,_⟩:=X.rel _ j row a aj ah
         refine⟨u,?_,hv⟩
         have np:=(List.getElem?_eq_some_iff.1 hu).1
         have nV:k*z.length+j=blk.rows.length*z.length+((k - blk.rows.length)*z.length+j):=by
          rw[←Nat.add_assoc,←Nat.add_mul];congr 2;omega
         rw[cm,SY,nV,if_neg (by omega),if_pos (by omega),Nat.add_sub_cancel_left];exact hu)
     refine⟨_,_,_,E',hK,by rw[e4];rw[Nat.zero_mul];exact gI,a7,ui,uj,.inr ⟨rS.symm,.inr ⟨c,cap,by rw[po];exact hm,by simp,Am,(fun h=>by cases h),by rw[Gg];omega⟩⟩,hml⟩
    ·
     refine out (some ⟨c,0,none⟩) blk.rows cap (al.toList.take (blk.rows.length*z.length)).toArray b (g+1) _ (by rw[Nat.zero_mul]) ?_ ?_ (fun row aj=> ?_) (fun i j row a h1 h2=> ?_) (by omega) hby fo (by rw[List.getElem?_set_self sP]) (fun bU dT=>List.getElem?_set_ne (fun h=>dT h.symm)) (fun _=>by simp) (by simp) (.inr (by omega)) hK
     ·refine run_firstCells_some (P:=P) E.w.drew z.length blk.rows.length ⟨c,0,none⟩ blk.rows.length cap _ ?_ (fun k v hk=> ?_)
      ·have:blk.rows.length*z.length≤al.size:=by rw[mS,cm];exact Nat.mul_le_mul_right _ mR
       simp;omega
      ·rw[List.getElem?_take] at hk
       split at hk
       ·rw[pZ,Nat.zero_add]
        exact cell_of (w:=E.w) hw (by simpa using hk)
       ·cases hk
     ·have:blk.rows.length*z.length≤al.size:=by rw[mS,cm];exact Nat.mul_le_mul_right _ mR
      simp;omega
     ·obtain⟨k,hk⟩:=List.mem_iff_getElem?.1 aj
      rw[←cm];exact hq.1 k row hk
     ·obtain⟨u,hu,hv⟩:=hq.2 i j row a h1 h2
      refine⟨u,?_,hv⟩
      have hi:=(List.getElem?_eq_some_iff.1 h1).1
      have ah:j<z.length:=by rw[←cm,←hq.1 i row h1];exact(List.getElem?_eq_some_iff.1 h2).1
      have:i*z.length+j<blk.rows.length*z.length:=by
       calc i*z.length+j<i*z.length+z.length:=by omega
        _=(i+1)*z.length:=by rw[Nat.add_mul,Nat.one_mul]
        _≤blk.rows.length*z.length:=Nat.mul_le_mul_right _ (by omega)
      rw[List.getElem?_toArray,List.getElem?_take,if_pos this,Array.getElem?_toList,←cm]
      exact hu
 | _=>exact h.elim
def IP (E:Env) (o:Oper) (a:Act) (K:qA Prop):Act→World→Prop:=fun hL w'=>
 ∃v u L' H' E',K v L' H'∧E'.w=w'∧Step E E'∧SimH E' H'∧SimL E' L'∧V3 E' v u∧hL=a.put o.dst u∧ ∀t,o.dst≠some t→E'.mL t=E.mL t
def Fu:List Nat→Nat→Option Nat
 | [],_=>none
 | x::r,t=>match Nat.ble 2000000 x with
  | true=>(match Nat.beq ((x - 2000000)%1000) t with
   | true=>some ((x - 2000000) / 1000)
   | false=>Fu r t)
  | false=>Fu r t
def yq (esc:List Nat) (dst:Option Nat) (cells:List AV) (L:List (Nat×List AV)) (H:List Blk) (K:qA Prop):Prop:=
 if cells.all kR=true then match dst with
  | none=>False
  | some t=>match Fu esc t with
   | some j=>cV H[j]? fun blk=>K (.ptr j (blk.bm+1) 0 0) L (H.set j ⟨blk.bm+1,cells.length,[cells]⟩)
   | none=>if esc.contains t=true then K (.ptr H.length 0 0 0) L (H++[⟨0,cells.length,[cells]⟩]) else
    match eR L t with
    | none=>K (.fS t 0) ((t,cells)::L) H
    | some _=>False
 else False
theorem SimL.none {E:Env} {L:List (Nat×List AV)} (h:SimL E L) {t:Nat} (af:eR L t=none):E.mL t=none:=by
 cases hm:E.mL t with
 | none=>rfl
 | some c=>
  obtain⟨cells,al,ty,h1,_⟩:=h t c hm
  rw[af] at h1;cases h1
theorem P8 {E:Env} {cells:List AV} {vs:List Value} (hs:cells.all kR=true) (h:ak (b4 E) cells vs):ak (b4 E.bQ) cells vs:=
 ⟨h.1,fun i a v ar hv=>P7 (List.all_eq_true.1 hs a (List.mem_of_getElem? ar)) (h.2 i a v ar hv)⟩
theorem W2 {E:Env} {H:List Blk} {L:List (Nat×List AV)} {esc:List Nat} {dst:Option Nat} {cells:List AV} {al:Array Value} {ty:TypeId} {K:AV→List (Nat×List AV)→List Blk→Prop}
  (ax:SimH E H) (bJ:SimL E L) (hc:ak (b4 E) cells al.toList) (h:yq esc dst cells L H K):
  ∃v L' H' E',K v L' H'∧E'.w=E.w.alloc (.cells al ty (0,0))∧Step E E'∧SimH E' H'∧SimL E' L'∧V3 E' v (.pointer (some ⟨E.w.heap.size,0,none⟩))∧ ∀s,dst≠some s→E'.mL s=E.mL s:=by
 unfold yq at h
 split at h
 case isFalse=>exact h.elim
 case isTrue hs=>
 have mf:=P8 hs hc
 cases dst with
 | none=>exact h.elim
 | some t=>
  have h:match Fu esc t with
   | some j=>cV H[j]? fun blk=>K (.ptr j (blk.bm+1) 0 0) L (H.set j ⟨blk.bm+1,cells.length,[cells]⟩)
   | none=>if esc.contains t=true then K (.ptr H.length 0 0 0) L (H++[⟨0,cells.length,[cells]⟩]) else(match eR L t with
    | none=>K (.fS t 0) ((t,cells)::L) H
    | some _=>False):=h
  split at h
  ·rename_i j afd
   obtain⟨blk,Da,hK⟩:=fT h
   have lX:=(List.getElem?_eq_some_iff.1 Da).1
   have afB:=ax.fc j blk Da
   have hlen:al.size=cells.length:=by have:=hc.1;simp at this;exact this.symm
   obtain⟨E',aG,e2,dg,hD,jk,oy,FN,xe,_,hml⟩:=AT (H:=H) (H':=H.set j ⟨blk.bm+1,cells.length,[cells]⟩) (b:=j) (cap:=1) (blk:=⟨blk.bm+1,cells.length,[cells]⟩) ax bJ (pb.alloc E.w (.cells al ty (0,0)))
    (by rw[List.getElem?_set];simp[lX]) (fun bU dT=>by rw[List.getElem?_set,if_neg (fun e=>dT e.symm)]) (fun _=>by simp) (by simp) (.inr (by show E.bm j<blk.bm+1;omega)) (by simp[hlen]) (by simp)
    ⟨fun i row aj=>by
      cases i with
      | zero=>simp at aj;subst aj;rfl
      | succ i=>simp at aj,
     fun i j row a aj ah=>by
      cases i with
      | zero=>
       simp at aj;subst aj
       obtain⟨u,hu,hv⟩:=mf.get ah
       exact⟨u,by simpa using hu,hv⟩
      | succ i=>simp at aj⟩
   refine⟨_,_,_,E',hK,aG,e2,dg,hD,.inr ⟨jk.symm,E.w.heap.size,oy,?_⟩,fun s _=>by rw[hml]⟩
   rw[Nat.zero_mul]
  split at h
  ·have hlen:al.size=cells.length:=by have:=hc.1;simp at this;exact this.symm
   have C3:SimH E (H++[⟨0,cells.length,[cells]⟩]):=ax.snoc rfl
   obtain⟨uf,ue⟩:=ax.fresh H.length (Nat.le_refl _)
   obtain⟨E',aG,e2,dg,hD,jk,oy,FN,xe,_,hml⟩:=AT (H:=H++[⟨0,cells.length,[cells]⟩]) (H':=H++[⟨0,cells.length,[cells]⟩]) (b:=H.length) (cap:=1) (blk:=⟨0,cells.length,[cells]⟩) C3 bJ (pb.alloc E.w (.cells al ty (0,0)))
    (by simp) (fun _ _=>rfl) (fun _=>rfl) (Nat.le_refl _) (.inl ⟨uf,ue.symm⟩) (by simp[hlen]) (by simp)
    ⟨fun i row aj=>by
      cases i with
      | zero=>simp at aj;subst aj;rfl
      | succ i=>simp at aj,
     fun i j row a aj ah=>by
      cases i with
      | zero=>
       simp at aj;subst aj
       obtain⟨u,hu,hv⟩:=mf.get ah
       exact⟨u,by simpa using hu,hv⟩
      | succ i=>simp at aj⟩
   refine⟨_,_,_,E',h,aG,e2,dg,hD,.inr ⟨jk.symm,E.w.heap.size,oy,?_⟩,fun s _=>by rw[hml]⟩
   rw[Nat.zero_mul]
  ·cases aE:eR L t with
   | some x=>rw[aE] at h;exact h.elim
   | none=>
    rw[aE] at h
    have hm:=bJ.none aE
    obtain⟨E',aG,e2,dg,hD,jk,_,hml⟩:=W1 (L:=(t,cells)::L) (t:=t) (cells:=cells) ax (bJ.cons hm) (pb.alloc E.w (.cells al ty (0,0))) (by simp[eR]) hm mf
    exact⟨_,_,_,E',h,aG,e2,dg,hD,jk,fun s hs=>hml s fun e=>hs (by rw[e])⟩
def oj:AV→AV
 | .aZ rows _ fr=> .aZ rows false fr
 | a=>a
theorem b4.oj {E:Env} {a:AV} {v:Value} (h:b4 E a v):b4 E (oj a) v:=by
 cases a with
 | aZ rows full fr=>
  have h:aP E.w E.PA E.PF (.aZ rows full fr) v:=h
  cases h with
  | aZ fH fw gP cm eH hrel=>exact aP.aZ fH fw (fun h=>by cases h) cm eH hrel
 | _=>exact h
theorem ak.oj {E:Env} {l:List AV} {m:List Value} (h:ak (b4 E) l m):ak (b4 E) (l.map oj) m:=by
 refine⟨by rw[List.length_map];exact h.1,fun i a v ar hv=> ?_⟩
 rw[List.getElem?_map] at ar
 cases aw:l[i]? with
 | none=>rw[aw] at ar;cases ar
 | some b=>rw[aw] at ar;cases ar;exact(h.2 i b v aw hv).oj
def AS (P:Program) (t:TypeId) (l c:AV) (L:List (Nat×List AV)) (H:List Blk) (K:qA Prop):Prop:=
 cV (j_ P t) fun e=>cV (o6 P e) fun z=>if z.length=P.cellsOf e∧z.all kR=true then match l,c with
  | .int _ l,.int _ c=>0≤l∧l≤c∧(P.bytesOf e:Int)*c≤140737488355328∧c≤4611686018427387904∧K (.ref H.length 0 0 l.toNat false) L (H++[⟨0,z.length,List.replicate l.toNat (z.map oj)⟩])
  | _,_=>False
 else False
theorem akc (z:Array Value) (n k:Nat) (hk:k<n):(madeCells z n)[k]?=some (z[k%z.size]!):=by
 simp[madeCells,hk]
theorem aks {P:Program} {E:Env} {H:List Blk} {L:List (Nat×List AV)} {t:TypeId} {l c:AV} {Hd RF:Value} {K:AV→List (Nat×List AV)→List Blk→Prop}
  (ax:SimH E H) (bJ:SimL E L) (aw:V3 E l Hd) (hc:V3 E c RF) (h:AS P t l c L H K):
  ∃v L' H' E' u,K v L' H'∧(Instr.makeSlice t Hd RF).run P E.w= .ok u E'.w∧Step E E'∧SimH E' H'∧SimL E' L'∧V3 E' v u∧E'.mL=E.mL:=by
 obtain⟨e,he,h⟩:=fT h
 obtain⟨z,az,h⟩:=fT h
 split at h
 case isFalse=>exact h.elim
 case isTrue hb=>
 obtain⟨qh,agD⟩:=hb
 cases l with
 | int AO l=>
  cases c with
  | int kI c=>
   obtain⟨aA,h1,h2,aD,hK⟩:=(show 0≤l∧l≤c∧(P.bytesOf e:Int)*c≤140737488355328∧c≤4611686018427387904∧K (.ref H.length 0 0 l.toNat false) L (H++[⟨0,z.length,List.replicate l.toNat (z.map oj)⟩]) from h)
   obtain rfl:=aw.qi
   obtain rfl:=hc.qi
   obtain⟨i,v,q1,q2,q3,q4⟩:=zb (E:=E) az
   have U:=(P8 agD q4).oj
   have xU:v.cells.size=z.length:=by rw[q3];simp
   have Ac:i.size=z.length:=by rw[qh];simp[Program.cellsOf,q1]
   have hby:P.bytesOf e=i.bytes:=by simp[Program.bytesOf,q1]
   have hu:=vn he
   have gI:=run_make (P:=P) E.w t e i v hu q1 q2 AO kI l c aA h1 (by rw[hby] at h2;omega) (by omega)
   have C3:SimH E (H++[⟨0,z.length,List.replicate l.toNat (z.map oj)⟩]):=ax.snoc rfl
   obtain⟨uf,ue⟩:=ax.fresh H.length (Nat.le_refl _)
   have Td:l.toNat≤c.toNat:=by omega
   obtain⟨E',aG,e2,dg,hD,jk,oy,FN,xe,_,hml⟩:=AT (H:=H++[⟨0,z.length,List.replicate l.toNat (z.map oj)⟩]) (H':=H++[⟨0,z.length,List.replicate l.toNat (z.map oj)⟩]) (b:=H.length) (cap:=c.toNat) (blk:=⟨0,z.length,List.replicate l.toNat (z.map oj)⟩) C3 bJ (pb.alloc E.w (.cells (madeCells v.cells (c.toNat*i.size)) e (0,0)))
    (by simp) (fun _ _=>rfl) (fun _=>rfl) (Nat.le_refl _) (.inl ⟨uf,ue.symm⟩) (by rw[size_madeCells,Ac]) (by simpa using Td)
    ⟨fun gZ row aj=>by
      have aj:(List.replicate l.toNat (z.map oj))[gZ]?=some row:=aj
      rw[List.getElem?_replicate] at aj
      split at aj
      ·cases aj;exact List.length_map ..
      ·exact absurd aj (fun h=>by cases h),
     fun gZ j row a aj ah=>by
      have aj:(List.replicate l.toNat (z.map oj))[gZ]?=some row:=aj
      rw[List.getElem?_replicate] at aj
      split at aj
      ·rename_i hi
       cases aj
       have vx:=(List.getElem?_eq_some_iff.1 ah).1
       rw[List.length_map] at vx
       obtain⟨u,hu,hv⟩:=U.get ah
       refine⟨u,?_,hv⟩
       have aM:gZ*z.length+j<c.toNat*z.length:=by
        calc gZ*z.length+j<gZ*z.length+z.length:=by omega
         _=(gZ+1)*z.length:=by rw[Nat.add_mul,Nat.one_mul]
         _≤c.toNat*z.length:=Nat.mul_le_mul_right _ (by omega)
       show(madeCells v.cells (c.toNat*i.size))[gZ*z.length+j]?=_
       rw[Ac,akc _ _ _ aM,xU,show(gZ*z.length+j)%z.length=j by rw[Nat.mul_comm,Nat.mul_add_mod,Nat.mod_eq_of_lt vx],←hu,Array.getElem?_toList,getElem!_pos v.cells j (by omega),Array.getElem?_eq_getElem]
      ·exact absurd aj (fun h=>by cases h)⟩
   refine⟨_,_,_,E',_,hK,by rw[gI,aG],e2,dg,hD,.inr ⟨jk.symm,.inr ⟨E.w.heap.size,c.toNat,oy,by rw[Nat.zero_mul],Td,(fun h=>by cases h),by rw[xe];omega⟩⟩,hml⟩
  | _=>exact h.elim
 | _=>exact h.elim
def yK:List Nat→Option Nat
 | []=>none
 | x::r=>match Nat.ble 1000000 x with
  | true=>some (x - 1000000)
  | false=>yK r
def ajZ (Bp:Option Nat) (kB:Bool) (n sz:Nat) (rows:List (List AV)) (L:List (Nat×List AV)) (H:List Blk) (K:qA Prop):Prop:=match Bp with
 | none=>K (.ref H.length 0 0 n kB) L (H++[⟨0,sz,rows⟩])
 | some j=>cV H[j]? fun blk=>K (.ref j (blk.bm+1) 0 n true) L (H.set j ⟨blk.bm+1,sz,rows⟩)
def xk (esc:List Nat) (dst:Option Nat):Bool:=match dst with
 | none=>false
 | some d=>esc.any fun x=>Nat.beq x (500000+d)
def xc (P:Program) (fr:Bool) (Bp:Option Nat) (t:TypeId) (n:Nat) (parts:List (Nat×AV)) (L:List (Nat×List AV)) (H:List Blk) (K:qA Prop):Prop:=
 cV (j_ P t) fun e=>cV (o6 P e) fun z=>if z.length=P.cellsOf e∧n*z.length≤1000000∧n≤1000000 then
  cV (rD (fun i=>some (i*z.length,z.length)) ((List.range (n*z.length)).map fun i=>z.getD (i%z.length) .undef) parts) fun cells=>
   if(bif fr then false else cells.all ky)=true then K (.aZ (chunk z.length n (cells.map j4)) true (cells.all p_)) L H else
   if cells.all kR=true then ajZ Bp (!fr) n z.length (chunk z.length n cells) L H K else False
 else False
theorem acw {size n i:Nat} {cells row:List AV} (aw:cells.length=n*size) (aj:(chunk size n cells)[i]?=some row):row.length=size:=by
 unfold chunk at aj
 rw[List.getElem?_map] at aj
 cases U:(List.range n)[i]? with
 | none=>rw[U] at aj;cases aj
 | some k=>
  have hk:=(List.getElem?_eq_some_iff.1 U).1
  have hi:k=i:=by have:=(List.getElem?_eq_some_iff.1 U).2;simpa using this.symm
  rw[U] at aj;cases aj
  simp only[List.length_take,List.length_drop]
  have cz:i<n:=by simpa using hk
  rw[aw,hi]
  have:(i+1)*size≤n*size:=Nat.mul_le_mul_right _ cz
  rw[Nat.add_mul,Nat.one_mul] at this
  omega
theorem abZ {P:Program} {fr:Bool} {Bp:Option Nat} {E:Env} {H:List Blk} {L:List (Nat×List AV)} {t:TypeId} {n:Nat} {parts:List (Nat×AV)} {lJ:List (Nat×Value)} {K:AV→List (Nat×List AV)→List Blk→Prop} (ax:SimH E H) (bJ:SimL E L)
  (ab:ak (fun a b=>a.1=b.1∧V2 E a.2 b.2) parts lJ) (h:xc P fr Bp t n parts L H K):
  ∃v u L' H' E',K v L' H'∧(Instr.buildSlice t n lJ.toArray).run P E.w= .ok u E'.w∧Step E E'∧SimH E' H'∧SimL E' L'∧V3 E' v u∧E'.mL=E.mL:=by
 obtain⟨e,he,h⟩:=fT h
 obtain⟨z,az,h⟩:=fT h
 split at h
 case isFalse=>exact h.elim
 case isTrue hb=>
 obtain⟨cells,hf,h⟩:=fT h
 split at h
 case isTrue hby=>
  have hby:cells.all ky=true:=by cases fr with
   | true=>cases hby
   | false=>exact hby
  have hv:zD P t n parts (fun r=>K r L H):=by
   refine ei he (ei az ?_)
   rw[if_pos hb]
   refine ei hf ?_
   rw[if_pos hby];exact h
  obtain⟨r,u,E',hK,aj,U,aD⟩:=Ri ax ab hv
  exact⟨r,u,L,H,E',hK,aj,U.step,U.simH ax,U.simL ax bJ,aD,U.mL⟩
 case isFalse=>
 split at h
 case isFalse=>exact h.elim
 case isTrue hs=>
 obtain⟨iC,hrel,gI,hlen⟩:=ab2 ab he az hb.1 hb.2 hf
 have mR:(chunk z.length n cells).length=n:=by simp[chunk]
 have Lv:iC.size=n*z.length:=by have:=hrel.1;simp at this;omega
 have Tt:zn E z.length (chunk z.length n cells) iC:=⟨fun i row aj=>acw hlen aj,fun i j row a aj ah=>by
   obtain⟨hi,vx,hc⟩:=Rs aj ah
   obtain⟨u,hu,hv⟩:=hrel.get hc
   exact⟨u,by rw[Array.getElem?_toList] at hu;exact hu,hv⟩⟩
 cases Bp with
 | none=>
  have C3:SimH E (H++[⟨0,z.length,chunk z.length n cells⟩]):=ax.snoc rfl
  obtain⟨uf,ue⟩:=ax.fresh H.length (Nat.le_refl _)
  obtain⟨E',aG,e2,dg,hD,jk,oy,FN,xe,_,hml⟩:=AT (H:=H++[⟨0,z.length,chunk z.length n cells⟩]) (H':=H++[⟨0,z.length,chunk z.length n cells⟩]) (b:=H.length) (cap:=n) (blk:=⟨0,z.length,chunk z.length n cells⟩) C3 bJ (pb.alloc E.w (.cells iC e (0,0)))
   (by simp) (fun _ _=>rfl) (fun _=>rfl) (Nat.le_refl _) (.inl ⟨uf,ue.symm⟩) Lv (by rw[mR];exact Nat.le_refl _) Tt
  exact⟨_,_,_,_,E',h,by rw[gI,aG],e2,dg,hD,.inr ⟨jk.symm,.inr ⟨E.w.heap.size,n,oy,by rw[Nat.zero_mul],Nat.le_refl _,(fun _=>rfl),by rw[xe];omega⟩⟩,hml⟩
 | some j=>
  obtain⟨blk,Da,hK⟩:=fT (show cV H[j]? fun blk=>K (.ref j (blk.bm+1) 0 n true) L (H.set j ⟨blk.bm+1,z.length,chunk z.length n cells⟩) from h)
  have lX:=(List.getElem?_eq_some_iff.1 Da).1
  have afB:=ax.fc j blk Da
  obtain⟨E',aG,e2,dg,hD,jk,oy,FN,xe,_,hml⟩:=AT (H:=H) (H':=H.set j ⟨blk.bm+1,z.length,chunk z.length n cells⟩) (b:=j) (cap:=n) (blk:=⟨blk.bm+1,z.length,chunk z.length n cells⟩) ax bJ (pb.alloc E.w (.cells iC e (0,0)))
   (by rw[List.getElem?_set];simp[lX]) (fun bU dT=>by rw[List.getElem?_set,if_neg (fun e=>dT e.symm)]) (fun _=>by simp) (by simp) (.inr (by show E.bm j<blk.bm+1;omega)) Lv (by rw[mR];exact Nat.le_refl _) Tt
  exact⟨_,_,_,_,E',hK,by rw[gI,aG],e2,dg,hD,.inr ⟨jk.symm,.inr ⟨E.w.heap.size,n,oy,by rw[Nat.zero_mul],Nat.le_refl _,(fun _=>rfl),by rw[xe];omega⟩⟩,hml⟩
def r6:AV→Bool
 | .aZ _ _ fr=>fr
 | .fS _ _ | .dz _ _ | .agg _ | .tup _ | .fn _ _=>false
 | _=>true
def js (k:Nat):AV→AV
 | .ref b g o n f=> .ref (k+b) g o n f
 | .ptr b g r c=> .ptr (k+b) g r c
 | a=>a
def A4:AV→Bool
 | .agg l=>l.all r6
 | a=>r6 a
def qv (k:Nat):AV→AV
 | .agg l=> .agg (l.map (js k))
 | a=>js k a
def A5:AV→Bool
 | .tup l=>l.all A4
 | a=>A4 a
def oX (k:Nat):AV→AV
 | .tup l=> .tup (l.map (qv k))
 | a=>qv k a
def iD (k:Nat) (b:Blk):Blk:=⟨b.bm,b.sz,b.rows.map fun row=>row.map (js k)⟩
def we (H:List Blk):Bool:=H.all fun b=>b.rows.all fun row=>row.all r6
def Env.join (E E1:Env) (n:Nat):Env:=
 {w:=E1.w,PA:=fun c=>E.PA c∨E1.PF c,PF:=fun c=>E.PF c∨E1.PF c
  m:=fun b=>if b<n then E.m b else E1.m (b - n),bm:=fun b=>if b<n then E.bm b else E1.bm (b - n)
  sz:=fun b=>if b<n then E.sz b else E1.sz (b - n),cp:=fun b=>if b<n then E.cp b else E1.cp (b - n),mL:=E.mL}
section
variable {E E1:Env} {n:Nat}
theorem ah5 {b:Nat} (h:b<n):(E.join E1 n).m b=E.m b∧(E.join E1 n).bm b=E.bm b∧(E.join E1 n).sz b=E.sz b∧(E.join E1 n).cp b=E.cp b:=⟨if_pos h,if_pos h,if_pos h,if_pos h⟩
theorem M3 (b:Nat):(E.join E1 n).m (n+b)=E1.m b∧(E.join E1 n).bm (n+b)=E1.bm b∧(E.join E1 n).sz (n+b)=E1.sz b∧(E.join E1 n).cp (n+b)=E1.cp b:=by
 have h: ¬n+b<n:=by omega
 have e:n+b - n=b:=by omega
 refine⟨?_,?_,?_,?_⟩<;>(unfold Env.join;simp only[if_neg h,e])
theorem M4 {E':Env} (jm:E'=E.join E1 n) {a:AV} {v:Value} (an:r6 a=true) (hv:b4 E1 a v):b4 E' (js n a) v:=by
 have oD: ∀{a:AV} {v:Value},r6 a=true→aP E1.w E1.PA E1.PF a v→aP E'.w E'.PA E'.PF a v:=by
  intro a v an h
  subst jm
  cases h with
  | undef=>exact .undef _
  | int=>exact .int _ _
  | bool=>exact .bool _
  | str=>exact .str _
  | gR=>exact .gR
  | ht=>exact .ht
  | @aZ _ _ PB rows full fresh A cap sz vs fH fw gP cm eH hrel=>
   have hf:fresh=true:=an
   refine .aZ (PB:=PB) (sz:=sz) (vs:=vs) (fun c hc=> ?_) fw gP cm eH hrel
   have:=fH c hc
   rw[if_pos hf] at this ⊢
   exact .inr this
  | dz=>cases an
  | fn=>cases an
 cases a with
 | ref b g off m full=>
  subst jm
  obtain⟨eX,a8,qj,vO⟩:=M3 (E:=E) (E1:=E1) (n:=n) b
  show fu (E.join E1 n) (.ref (n+b) g off m full) v
  rcases(show fu E1 (.ref b g off m full) v from hv) with⟨h,k⟩ | ⟨h,k⟩
  ·exact .inl ⟨by rw[a8];exact h,k⟩
  ·refine .inr ⟨by rw[a8];exact h,?_⟩
   rw[eX,qj,vO];exact k
 | ptr b g r c=>
  subst jm
  obtain⟨eX,a8,qj,vO⟩:=M3 (E:=E) (E1:=E1) (n:=n) b
  show fu (E.join E1 n) (.ptr (n+b) g r c) v
  rcases(show fu E1 (.ptr b g r c) v from hv) with⟨h,k⟩ | ⟨h,k⟩
  ·exact .inl ⟨by rw[a8];exact h,k⟩
  ·refine .inr ⟨by rw[a8];exact h,?_⟩
   rw[eX,qj];exact k
 | fS t c=>cases an
 | fn f c=>cases an
 | agg l=>cases an
 | tup l=>cases an
 | dz l c=>cases an
 | undef=>exact aP.undef _
 | int k m=>exact oD (a:= .int k m) rfl hv
 | bool b=>exact oD (a:= .bool b) rfl hv
 | str s=>exact oD (a:= .str s) rfl hv
 | aZ rows full fr=>exact oD (a:= .aZ rows full fr) an hv
 | gR=>exact oD (a:= .gR) rfl hv
 | ht=>exact oD (a:= .ht) rfl hv
theorem Vd {E':Env} (jm:E'=E.join E1 n) {a:AV} {v:Value} (an:A4 a=true) (hv:V2 E1 a v):V2 E' (qv n a) v:=by
 by_cases hf: ∃l,a= .agg l
 ·obtain⟨l,rfl⟩:=hf
  obtain⟨vs,rfl,ab⟩:=hv
  refine⟨vs,rfl,by rw[List.length_map];exact ab.1,fun i x u hx hu=> ?_⟩
  rw[List.getElem?_map] at hx
  cases aw:l[i]? with
  | none=>simp[aw] at hx
  | some y=>
   simp[aw] at hx;subst hx
   exact M4 jm (List.all_eq_true.1 (show l.all r6=true from an) y (List.mem_of_getElem? aw)) (ab.2 i y u aw hu)
 ·have aG:qv n a=js n a:=by cases a<;>first | rfl | exact absurd ⟨_,rfl⟩ hf
  have e2:A4 a=r6 a:=by cases a<;>first | rfl | exact absurd ⟨_,rfl⟩ hf
  rw[qG fun l e=>hf ⟨l,e⟩] at hv
  rw[aG]
  exact lP (M4 jm (e2▸an) hv)
theorem ah6 {E':Env} (jm:E'=E.join E1 n) {a:AV} {v:Value} (an:A5 a=true) (hv:V3 E1 a v):V3 E' (oX n a) v:=by
 by_cases hf: ∃l,a= .tup l
 ·obtain⟨l,rfl⟩:=hf
  obtain⟨vs,rfl,ab⟩:=hv
  refine⟨vs,rfl,by rw[List.length_map];exact ab.1,fun i x u hx hu=> ?_⟩
  rw[List.getElem?_map] at hx
  cases aw:l[i]? with
  | none=>simp[aw] at hx
  | some y=>
   simp[aw] at hx;subst hx
   exact Vd jm (List.all_eq_true.1 (show l.all A4=true from an) y (List.mem_of_getElem? aw)) (ab.2 i y u aw hu)
 ·have aG:oX n a=qv n a:=by cases a<;>first | rfl | exact absurd ⟨_,rfl⟩ hf
  have e2:A5 a=A4 a:=by cases a<;>first | rfl | exact absurd ⟨_,rfl⟩ hf
  rw[qH fun l e=>hf ⟨l,e⟩] at hv
  rw[aG]
  exact sw (Vd jm (e2▸an) hv)
end
theorem ach {P:Program} {f:FuncId} {args eu:List AV} {L:List (Nat×List AV)} {H:List Blk} {E:Env} {vs:List Value} {Q:AV→List Blk→Prop} (ax:SimH E H) (bJ:SimL E L)
  (ar:ak (V2 E) args vs) (hs:ak (df L H) args eu) (h:de P f eu [] fun r fs=>A5 r=true∧we fs=true∧Q r fs):
  Calls P f vs.toArray E.w fun e w'=> ∃r v fs E',e= .returned v∧Q r fs∧E'.w=w'∧Step E E'∧SimH E' (H++fs.map (iD H.length))∧SimL E' L∧V3 E' (oX H.length r) v∧E'.mL=E.mL:=by
 have xp:ak (V2 E.frozen) eu vs:=⟨hs.1▸ar.1,fun i x u hx hu=>by
  have aM:i<args.length:=by have:=(List.getElem?_eq_some_iff.1 hx).1;have:=hs.1;omega
  have aw:=List.getElem?_eq_getElem aM
  exact Y0 (Sub.refl L H) ax bJ (hs.2 i _ x aw hx) (ar.2 i _ u aw hu)⟩
 refine(h.2 E.frozen vs (fun _=>rfl) (Sr ax) xp).mono ?_
 rintro e w' ⟨r,v,fs,E1,rfl,⟨an,Dp,aj⟩,rfl,af,fe,hv,a7⟩
 have C6: ∀c,E1.PF c→E.w.heap.size≤c∧c<E1.w.heap.size:=fun c hc=>⟨(a7.fU c hc).elim (fun h=>h.elim) id,fe.ea c (fe.dU c hc)⟩
 have zW: ∀c,E1.fZ c→E.w.heap.size≤c∧c<E1.w.heap.size:=fun c hc=>⟨(a7.qU c hc).elim (fun⟨b,hb⟩=>by cases hb) id,fe.gD c hc⟩
 have oC: ∀c,c<E.w.heap.size→E1.w.heap[c]?=E.w.heap[c]?:=fun c hc=>a7.cZ c hc (fun⟨b,hb⟩=>by cases hb) (fun⟨b,hb⟩=>by cases hb)
 have ls:=ax.gD
 have lu:=ax.hG
 generalize jm:E.join E1 H.length=E'
 have oL: ∀b,b<H.length→E'.m b=E.m b∧E'.bm b=E.bm b∧E'.sz b=E.sz b∧E'.cp b=E.cp b:=fun b hb=>jm▸ah5 hb
 have iz: ∀b,E'.m (H.length+b)=E1.m b∧E'.bm (H.length+b)=E1.bm b∧E'.sz (H.length+b)=E1.sz b∧E'.cp (H.length+b)=E1.cp b:=fun b=>jm▸M3 b
 have oM:E'.w=E1.w:=by rw[←jm];rfl
 have AN: ∀c,E'.PA c↔E.PA c∨E1.PF c:=fun c=>by rw[←jm];exact Iff.rfl
 have G8: ∀c,E'.PF c↔E.PF c∨E1.PF c:=fun c=>by rw[←jm];exact Iff.rfl
 have vP:E'.mL=E.mL:=by rw[←jm];rfl
 have split: ∀b,b<H.length∨ ∃k,b=H.length+k:=fun b=>by
  rcases Nat.lt_or_ge b H.length with h | h
  ·exact .inl h
  ·exact .inr ⟨b - H.length,by omega⟩
 have akL: ∀b x,E.m b=some x→b<H.length:=fun b x hb=>by
  rcases Nat.lt_or_ge b H.length with h | h
  ·exact h
  ·rw[(ax.fresh b h).1] at hb;cases hb
 have rX: ∀c,E'.fZ c→E.fZ c∨E1.fZ c:=fun c ⟨b,hb⟩=>by
  rcases split b with h | ⟨k,rfl⟩
  ·exact .inl ⟨b,by rw[←(oL b h).1];exact hb⟩
  ·exact .inr ⟨k,by rw[←(iz k).1];exact hb⟩
 have fY:Step E E':=
  {le:=⟨fun c hc=>(AN c).2 (.inl hc),fun c hc=>(G8 c).2 (.inl hc),fun c hc=>by rw[oM];exact oC c (ax.ea c hc),fun c hc=>by rw[oM];exact oC c (ax.ea c (ax.dU c hc)),fun b=>by
     rcases split b with h | ⟨k,rfl⟩
     ·rw[(oL b h).2.1];exact Nat.le_refl _
     ·rw[(ax.fresh (H.length+k) (by omega)).2];exact Nat.zero_le _,fun b x hx _=>by
     have h:=akL b x hx
     exact⟨by rw[(oL b h).1];exact hx,(oL b h).2.2.1,(oL b h).2.2.2⟩,fun t c h=>by rw[vP];exact h⟩
   os:=by rw[oM];exact a7.os
   tape:=by rw[oM];exact a7.tape
   output:=by rw[oM];exact a7.output
   size:=by rw[oM];exact a7.size
   cZ:=fun c hc _ _=>by rw[oM];exact oC c hc
   kd:=fun b c hb=>by
    rcases split b with h | ⟨k,rfl⟩
    ·exact .inl (by rw[←(oL b h).1];exact hb)
    ·exact .inr (zW c ⟨k,by rw[←(iz k).1];exact hb⟩).1
   kF:=fun c ⟨t,aY⟩=> .inl ⟨t,by rw[←vP];exact aY⟩
   gF:=fun c hc=>((AN c).1 hc).elim .inl fun h=> .inr (C6 c h).1
   fU:=fun c hc=>((G8 c).1 hc).elim .inl fun h=> .inr (C6 c h).1}
 have KE: ∀b,b<H.length→(H++fs.map (iD H.length))[b]?=H[b]?:=fun b hb=>List.getElem?_append_left hb
 have KD: ∀k,(H++fs.map (iD H.length))[H.length+k]?=(fs[k]?).map (iD H.length):=fun k=>by
  rw[List.getElem?_append_right (by omega),List.getElem?_map];congr 2;omega
 refine⟨r,v,fs,E',rfl,aj,oM,fY,?_,?_,ah6 jm.symm an hv,vP⟩
 ·exact{
   heap:=fun b c hb=>by
    rcases split b with h | ⟨k,rfl⟩
    ·obtain⟨eX,a8,qj,vO⟩:=oL b h
     rw[eX] at hb
     obtain⟨blk,al,ty,q1,b6,q2,q3,q4,cN,c2⟩:=ax.heap b c hb
     refine⟨blk,al,ty,by rw[KE b h];exact q1,by rw[qj];exact b6,by rw[oM,oC c (ls c ⟨b,hb⟩)];exact q2,by rw[qj,vO];exact q3,by rw[vO];exact q4,by rw[qj];exact cN,fun i j row a aj ah=> ?_⟩
     obtain⟨u,hu,Lu⟩:=c2 i j row a aj ah
     exact⟨u,by rw[qj];exact hu,Lu.le fY.le.bQ⟩
    ·obtain⟨eX,a8,qj,vO⟩:=iz k
     rw[eX] at hb
     obtain⟨blk,al,ty,q1,b6,q2,q3,q4,cN,c2⟩:=fe.heap k c hb
     have afS: ∀row∈blk.rows,∀a∈row,r6 a=true:=fun row aj a ar=>
      List.all_eq_true.1 (List.all_eq_true.1 (List.all_eq_true.1 Dp blk (List.mem_of_getElem? q1)) row aj) a ar
     refine⟨iD H.length blk,al,ty,by rw[KD k,q1];rfl,by rw[qj];exact b6,by rw[oM];exact q2,by rw[qj,vO];exact q3,by rw[vO];show(blk.rows.map _).length≤_;rw[List.length_map];exact q4,fun i row' aj=> ?_,fun i j row' hL aj ah=> ?_⟩
     ·have aj:(blk.rows.map fun row=>row.map (js H.length))[i]?=some row':=aj
      rw[List.getElem?_map] at aj
      cases U:blk.rows[i]? with
      | none=>simp[U] at aj
      | some row=>
       simp[U] at aj;subst aj
       rw[List.length_map,qj];exact cN i row U
     ·have aj:(blk.rows.map fun row=>row.map (js H.length))[i]?=some row':=aj
      rw[List.getElem?_map] at aj
      cases U:blk.rows[i]? with
      | none=>simp[U] at aj
      | some row=>
       simp[U] at aj;subst aj
       rw[List.getElem?_map] at ah
       cases lx:row[j]? with
       | none=>simp[lx] at ah
       | some a=>
        simp[lx] at ah;subst ah
        obtain⟨u,hu,Lu⟩:=c2 i j row a U lx
        refine⟨u,by rw[qj];exact hu,?_⟩
        have SJ:E'.bQ=E.bQ.join E1.bQ H.length:=by rw[←jm];rfl
        exact M4 SJ (afS row (List.mem_of_getElem? U) a (List.mem_of_getElem? lx)) Lu
   fc:=fun b blk hb=>by
    rcases split b with h | ⟨k,rfl⟩
    ·rw[KE b h] at hb;rw[(oL b h).2.1];exact ax.fc b blk hb
    ·rw[KD k] at hb
     cases U:fs[k]? with
     | none=>simp[U] at hb
     | some y=>simp[U] at hb;subst hb;rw[(iz k).2.1];exact fe.fc k y U
   ii:=fun b hb=>by
    rcases split b with h | ⟨k,rfl⟩
    ·rw[(oL b h).1] at hb
     obtain⟨blk,q1,q2⟩:=ax.ii b hb
     exact⟨blk,by rw[KE b h];exact q1,by rw[(oL b h).2.2.1];exact q2⟩
    ·rw[(iz k).1] at hb
     obtain⟨blk,q1,q2⟩:=fe.ii k hb
     exact⟨iD H.length blk,by rw[KD k,q1];rfl,by rw[(iz k).2.2.1];exact q2⟩
   fresh:=fun b hb=>by
    rw[List.length_append,List.length_map] at hb
    rcases split b with h | ⟨k,rfl⟩
    ·omega
    ·rw[(iz k).1,(iz k).2.1];exact fe.fresh k (by omega)
   hr:=fun b bU c h1 h2=>by
    rcases split b with h | ⟨k,rfl⟩<;>rcases split bU with h' | ⟨kH,rfl⟩
    ·rw[(oL b h).1] at h1;rw[(oL bU h').1] at h2;exact ax.hr b bU c h1 h2
    ·rw[(oL b h).1] at h1;rw[(iz kH).1] at h2
     have:=ls c ⟨b,h1⟩;have:=(zW c ⟨kH,h2⟩).1;omega
    ·rw[(iz k).1] at h1;rw[(oL bU h').1] at h2
     have:=ls c ⟨bU,h2⟩;have:=(zW c ⟨k,h1⟩).1;omega
    ·rw[(iz k).1] at h1;rw[(iz kH).1] at h2;rw[fe.hr k kH c h1 h2]
   kG:=fun t iU c h1 h2=>by rw[vP] at h1 h2;exact ax.kG t iU c h1 h2
   hN:=fun b t c h1 h2=>by
    rw[vP] at h2
    rcases split b with h | ⟨k,rfl⟩
    ·rw[(oL b h).1] at h1;exact ax.hN b t c h1 h2
    ·rw[(iz k).1] at h1
     have:=lu c ⟨t,h2⟩;have:=(zW c ⟨k,h1⟩).1;omega
   iM:=fun c hc hi=>by
    rcases(AN c).1 hc with h | h<;>rcases rX c hi with h' | h'
    ·exact ax.iM c h h'
    ·have:=ax.ea c h;have:=(zW c h').1;omega
    ·have:=ls c h';have:=(C6 c h).1;omega
    ·exact fe.iM c (fe.dU c h) h'
   jr:=fun c hc ⟨t,aY⟩=>by
    rw[vP] at aY
    rcases(AN c).1 hc with h | h
    ·exact ax.jr c h ⟨t,aY⟩
    ·have:=lu c ⟨t,aY⟩;have:=(C6 c h).1;omega
   dU:=fun c hc=>(AN c).2 (((G8 c).1 hc).elim (fun h=> .inl (ax.dU c h)) .inr)
   ga:=fun c hc=>by
    rw[oM]
    rcases(G8 c).1 hc with h | h
    ·exact(ax.ga c h).same (oC c (ax.ea c (ax.dU c h)))
    ·exact fe.ga c h
   ea:=fun c hc=>by
    rw[oM]
    rcases(AN c).1 hc with h | h
    ·exact Nat.lt_of_lt_of_le (ax.ea c h) a7.size
    ·exact(C6 c h).2
   gD:=fun c hc=>by
    rw[oM]
    rcases rX c hc with h | h
    ·exact Nat.lt_of_lt_of_le (ls c h) a7.size
    ·exact(zW c h).2
   hG:=fun c ⟨t,aY⟩=>by
    rw[vP] at aY;rw[oM]
    exact Nat.lt_of_lt_of_le (lu c ⟨t,aY⟩) a7.size}
 ·intro t c hm
  rw[vP] at hm
  obtain⟨cells,al,ty,q1,q2,q3⟩:=bJ t c hm
  exact⟨cells,al,ty,q1,by rw[oM,oC c (lu c ⟨t,hm⟩)];exact q2,q3.mono fun _ _ k=>k.le fY.le.bQ⟩
theorem ace {P:Program} {f:FuncId} {args:List AV} {L:List (Nat×List AV)} {H:List Blk} {E:Env} {vs:List Value} {Q:AV→List Blk→Prop} (ax:SimH E H) (bJ:SimL E L)
  (ar:ak (V2 E) args vs) (af:args.all lE=true) (h:de P f args H fun r H'=>AW r=true∧Q r H'):
  Calls P f vs.toArray E.w fun e w'=> ∃r v H' E',e= .returned v∧Q r H'∧E'.w=w'∧Step E E'∧SimH E' H'∧SimL E' L∧V3 E' r v∧E'.mL=E.mL:=by
 have xp:ak (V2 E.bQ) args vs:=⟨ar.1,fun i a v h1 h2=>(ar.2 i a v h1 h2).bQ (List.all_eq_true.1 af a (List.mem_of_getElem? h1))⟩
 refine(h.2 E.bQ vs (fun _=>rfl) ax.bQ xp).mono ?_
 rintro e w' ⟨r,v,H',E1,rfl,⟨afP,aj⟩,rfl,GA,fe,hv,a7⟩
 let E':Env:={E1 with mL:=E.mL}
 have SJ:E'.bQ=E1.bQ:=rfl
 have lu:=ax.hG
 have qU: ∀c,E1.fZ c→E.fZ c∨E.w.heap.size≤c:=a7.qU
 have afF: ∀c,E.l1 c→E1.w.heap[c]?=E.w.heap[c]?:=fun c hc=>a7.cZ c (lu c hc) (fun⟨b,hb⟩=>by
  obtain⟨t,aY⟩:=hc
  exact ax.hN b t c hb aY) (fun⟨b,hb⟩=>by cases hb)
 have hle:E1.bQ.hJ E':=Env.Hq E'
 have fY:Step E E':=
  {le:=⟨a7.le.gF,a7.le.fU,a7.le.wV,a7.le.wf,a7.le.bm,a7.le.m,fun _ _ h=>h⟩
   os:=a7.os,tape:=a7.tape,output:=a7.output,size:=a7.size
   cZ:=fun c hc h1 h2=>a7.cZ c hc h1 (fun⟨b,hb⟩=>by cases hb)
   kd:=a7.kd
   kF:=fun c h=> .inl h
   gF:=a7.gF
   fU:=a7.fU}
 refine⟨r,v,H',E',rfl,aj,rfl,fY,?_,?_,?_,rfl⟩
 ·exact{fe with
   kG:=ax.kG
   hN:=fun b t c h1 h2=>by
    rcases qU c ⟨b,h1⟩ with⟨bU,h⟩ | h
    ·exact ax.hN bU t c h h2
    ·have:=lu c ⟨t,h2⟩;omega
   jr:=fun c hc ⟨t,aY⟩=>by
    rcases a7.gF c hc with h | h
    ·exact ax.jr c h ⟨t,aY⟩
    ·have h:E.w.heap.size≤c:=h
     have:=lu c ⟨t,aY⟩;omega
   hG:=fun c hc=>Nat.lt_of_lt_of_le (lu c hc) a7.size}
 ·intro t c hm
  obtain⟨cells,al,ty,q1,q2,q3⟩:=bJ t c hm
  exact⟨cells,al,ty,q1,by show E1.w.heap[c]?=_;rw[afF c ⟨t,hm⟩];exact q2,q3.mono fun _ _ k=>k.le fY.le.bQ⟩
 ·exact(hv.bQ afP).le hle
end Go.Proofs.YtejmihecgodhnaaGreat.Fw
