/- The framework, part A: abstract values, how they stand for Go's values in a world, and what stays as it is when the world grows. -/
import Derived.WalkKit
import Derived.KernelRfl
import Derived.Orders
import Derived.Laws.StructEq
import Derived.ChangeArms
import Derived.ChangeShapes
import Derived.SizedLaws
import Derived.Below
import Derived.JoinedOf
import Derived.Test.YtglpfccgmfhkdaaProg
import Derived.Lib.Hide
import Derived.Deep.RegionHeld3
import Derived.WalkSpells
set_option linter.unusedVariables false
namespace Go.Proofs.Ytglpfccgmfhkdaa.Fw
open Go
inductive AV where
 | undef
 | int (k:IntKind) (n:Int)
 | bool (b:Bool)
 | str (s:ByteArray)
 | aR (rows:List (List AV)) (full fresh:Bool)
 | ref (b g off n:Nat) (full:Bool)
 | ptr (b g row col:Nat)
 | et (t col:Nat)
 | cM (cells:List AV) (col:Nat)
 | eY
 | fg
 | agg (cells:List AV)
 | tup (vs:List AV)
 | fn (f:FuncId) (caps:List AV)
 deriving Inhabited
structure Blk where
 bc:Nat
 sz:Nat
 rows:List (List AV)
 deriving Inhabited
structure St where
 T:List AV
 L:List (Nat×List AV)
 H:List Blk
def aK {α β:Type} (R:α→β→Prop) (l:List α) (m:List β):Prop:=
 l.length=m.length∧ ∀(i:Nat) (a:α) (b:β),l[i]?=some a→m[i]?=some b→R a b
theorem aK.nil {α β:Type} {R:α→β→Prop}:aK R [] []:=⟨rfl,fun i a b h=>by simp at h⟩
theorem aK.cons {α β:Type} {R:α→β→Prop} {a:α} {b:β} {l:List α} {m:List β} (h:R a b) (k:aK R l m):aK R (a::l) (b::m):=
 ⟨by simp[k.1],fun i x y hx bd=>by
  cases i with
  | zero=>simp at hx bd;subst hx;subst bd;exact h
  | succ i=>exact k.2 i x y (by simpa using hx) (by simpa using bd)⟩
theorem aK.head {α β:Type} {R:α→β→Prop} {a:α} {b:β} {l:List α} {m:List β} (h:aK R (a::l) (b::m)):R a b:=h.2 0 a b rfl rfl
theorem aK.tail {α β:Type} {R:α→β→Prop} {a:α} {b:β} {l:List α} {m:List β} (h:aK R (a::l) (b::m)):aK R l m:=
 ⟨by simpa using h.1,fun i x y hx bd=>h.2 (i+1) x y (by simpa using hx) (by simpa using bd)⟩
theorem aK.mono {α β:Type} {R uO:α→β→Prop} {l:List α} {m:List β} (h:aK R l m) (aq: ∀a b,R a b→uO a b):aK uO l m:=
 ⟨h.1,fun i a b x y=>aq _ _ (h.2 i a b x y)⟩
theorem aK.get {α β:Type} {R:α→β→Prop} {l:List α} {m:List β} (h:aK R l m) {i:Nat} {a:α} (aC:l[i]?=some a): ∃b,m[i]?=some b∧R a b:=by
 have hi:i<l.length:=(List.getElem?_eq_some_iff.1 aC).1
 have hm:i<m.length:=h.1▸hi
 exact⟨m[i],List.getElem?_eq_getElem hm,h.2 i a _ aC (List.getElem?_eq_getElem hm)⟩
theorem aK.mv {α β:Type} {R:α→β→Prop} {m:List β} (h:aK R [] m):m=[]:=by
 have:=h.1;exact List.eq_nil_of_length_eq_zero (by simpa using this.symm)
theorem aK.cons_inv {α β:Type} {R:α→β→Prop} {a:α} {l:List α} {m:List β} (h:aK R (a::l) m): ∃b ej,m=b::ej∧R a b∧aK R l ej:=by
 cases m with
 | nil=>have:=h.1;simp at this
 | cons b ej=>exact⟨b,ej,rfl,h.head,h.tail⟩
theorem aK.append {α β:Type} {R:α→β→Prop} {l eB:List α} {m ej:List β} (h:aK R l m) (k:aK R eB ej):aK R (l++eB) (m++ej):=by
 refine⟨by simp[h.1,k.1],fun i a b aC hb=> ?_⟩
 rcases Nat.lt_or_ge i l.length with hi | hi
 ·rw[List.getElem?_append_left hi] at aC
  rw[List.getElem?_append_left (h.1▸hi)] at hb
  exact h.2 i a b aC hb
 ·rw[List.getElem?_append_right hi] at aC
  rw[List.getElem?_append_right (h.1▸hi),←h.1] at hb
  exact k.2 _ a b aC hb
theorem aK.set {α β:Type} {R:α→β→Prop} {l:List α} {m:List β} (h:aK R l m) (i:Nat) {a:α} {b:β} (aq:R a b):aK R (l.set i a) (m.set i b):=by
 refine⟨by simp[h.1],fun j x y hx bd=> ?_⟩
 by_cases ar:i=j
 ·subst ar
  rw[List.getElem?_set_self'] at hx bd
  cases aE:l[i]? with
  | none=>simp[aE] at hx
  | some a0=>
   cases hm:m[i]? with
   | none=>simp[hm] at bd
   | some ey=>simp[aE] at hx;simp[hm] at bd;subst hx;subst bd;exact aq
 ·rw[List.getElem?_set_ne ar] at hx bd
  exact h.2 j x y hx bd
inductive aQ (w:World):(Nat→Prop)→(Nat→Prop)→AV→Value→Prop where
 | undef {PA PF:Nat→Prop} (v:Value):aQ w PA PF .undef v
 | int {PA PF:Nat→Prop} (k:IntKind) (n:Int):aQ w PA PF (.int k n) (.int k n)
 | bool {PA PF:Nat→Prop} (b:Bool):aQ w PA PF (.bool b) (.bool b)
 | str {PA PF:Nat→Prop} (s:ByteArray):aQ w PA PF (.str s) (.string s)
 | aR {PA PF PB:Nat→Prop} {rows:List (List AV)} {full fresh:Bool} {A:Option Addr} {cap sz:Nat} {vs:Nat→Nat→Value}
   (dY: ∀c,PB c→if fresh=true then PF c else PA c)
   (ec:rows.length≤cap∧rows.length≤4611686018427387904) (eN:full=true→cap=rows.length)
   (bU: ∀(i:Nat) (row:List AV),rows[i]?=some row→row.length=sz)
   (dd:0<rows.length→ ∃c o,A=some ⟨c,o,none⟩∧PB c∧ ∀i j,i<rows.length→j<sz→w.cell? ⟨c,o+(i*sz+j),none⟩=some (vs i j))
   (hrel: ∀(i j:Nat) (row:List AV) (a:AV),rows[i]?=some row→row[j]?=some a→aQ w PB (fun _=>False) a (vs i j)):
   aQ w PA PF (.aR rows full fresh) (.slice A rows.length cap)
 | cM {PA PF:Nat→Prop} {cells:List AV} {col c o:Nat} {vs:Nat→Value} (hc:PA c)
   (dd: ∀j,j<cells.length→w.cell? ⟨c,o+j,none⟩=some (vs j))
   (hrel: ∀(j:Nat) (a:AV),cells[j]?=some a→aQ w PA (fun _=>False) a (vs j)):aQ w PA PF (.cM cells col) (.pointer (some ⟨c,o+col,none⟩))
 | eY {PA PF:Nat→Prop}:aQ w PA PF .eY (.pointer none)
 | fg {PA PF:Nat→Prop}:aQ w PA PF .fg .nilIface
 | fn {PA PF:Nat→Prop} {f:FuncId} {caps:List AV} {vs:List Value} (aE:caps.length=vs.length)
   (hrel: ∀(i:Nat) (a:AV) (v:Value),caps[i]?=some a→vs[i]?=some v→aQ w PA (fun _=>False) a v):aQ w PA PF (.fn f caps) (.func (.func f) #[] vs.toArray)
theorem Gv {w w':World} {c o:Nat} (h:w'.heap[c]?=w.heap[c]?):w'.cell? ⟨c,o,none⟩=w.cell? ⟨c,o,none⟩:=by
 simp[World.cell?,h]
theorem aQ.mono {w w':World} {PA PF:Nat→Prop} {a:AV} {v:Value} (h:aQ w PA PF a v):
  ∀{uM uN:Nat→Prop},(∀c,PA c→w'.heap[c]?=w.heap[c]?)→(∀c,PF c→w'.heap[c]?=w.heap[c]?)→(∀c,PA c→uM c)→(∀c,PF c→uN c)→aQ w' uM uN a v:=by
 induction h with
 | undef v=>intros;exact .undef v
 | int k n=>intros;exact .int k n
 | bool b=>intros;exact .bool b
 | str s=>intros;exact .str s
 | @aR PA PF PB rows full fresh A cap sz vs dY ec eN bU dd hrel bx=>
  intro uM uN hw CQ aC hf
  have HO: ∀c,PB c→w'.heap[c]?=w.heap[c]?:=fun c hc=>by
   have:=dY c hc
   split at this
   ·exact CQ c this
   ·exact hw c this
  refine .aR (PB:=PB) (sz:=sz) (vs:=vs) (fun c hc=> ?_) ec eN bU (fun ap=> ?_) (fun i j row a aq ar=> ?_)
  ·have:=dY c hc
   split
   ·rename_i h;rw[if_pos h] at this;exact hf c this
   ·rename_i h;rw[if_neg h] at this;exact aC c this
  ·obtain⟨c,o,e,hc,dy⟩:=dd ap
   exact⟨c,o,e,hc,fun i j hi ar=>by rw[Gv (HO c hc)];exact dy i j hi ar⟩
  ·exact bx i j row a aq ar HO (fun c hc=>hc.elim) (fun c hc=>hc) (fun c hc=>hc)
 | @cM PA PF cells col c o vs hc dd hrel bx=>
  intro uM uN hw CQ aC hf
  refine .cM (aC c hc) (vs:=vs) (fun j ar=> ?_) (fun j a ar=>bx j a ar hw (fun c hc=>hc.elim) aC (fun c hc=>hc))
  rw[Gv (hw c hc)];exact dd j ar
 | eY=>intros;exact .eY
 | fg=>intros;exact .fg
 | fn aE hrel bx=>
  intro uM uN hw CQ aC hf
  exact .fn aE (fun i a v h1 h2=>bx i a v h1 h2 hw (fun c hc=>hc.elim) aC (fun c hc=>hc))
theorem aQ.one {w:World} {PA PF:Nat→Prop} {a:AV} {v:Value} (h:aQ w PA PF a v) (hu:a≠ .undef):v.oneCell'=true:=by
 cases h<;>first | rfl | exact absurd rfl hu
structure Env where
 w:World
 PA:Nat→Prop
 PF:Nat→Prop
 m:Nat→Option (Option Nat)
 bc:Nat→Nat
 sz:Nat→Nat
 cp:Nat→Nat
 mL:Nat→Option Nat
def ea (E:Env):AV→Value→Prop
 | .ref b g off n full,v=>(g<E.bc b∧ ∃A cap,v= .slice A n cap)∨(g=E.bc b∧((E.m b=some none∧off=0∧n=0∧ ∃A,v= .slice A 0 0)∨
   ∃c cap,E.m b=some (some c)∧v= .slice (some ⟨c,off*E.sz b,none⟩) n cap∧n≤cap∧(full=true→cap=n)∧off+cap≤E.cp b))
 | .ptr b g r c,v=>(g<E.bc b∧ ∃bl o,v= .pointer (some ⟨bl,o,none⟩))∨(g=E.bc b∧ ∃bl,E.m b=some (some bl)∧v= .pointer (some ⟨bl,r*E.sz b+c,none⟩))
 | .et t c,v=> ∃bl,E.mL t=some bl∧v= .pointer (some ⟨bl,c,none⟩)
 | a,v=>aQ E.w E.PA E.PF a v
def bQ (E:Env):AV→Value→Prop
 | .fn f caps,v=> ∃vs:List Value,v= .func (.func f) #[] vs.toArray∧aK (ea E) caps vs
 | a,v=>ea E a v
def V2 (E:Env):AV→Value→Prop
 | .agg cells,v=> ∃vs:List Value,v= .agg vs.toArray∧aK (bQ E) cells vs
 | a,v=>bQ E a v
def V3 (E:Env):AV→Value→Prop
 | .tup l,v=> ∃vs:List Value,v= .tuple vs.toArray∧aK (V2 E) l vs
 | a,v=>V2 E a v
def Plain (w:World) (c:Nat):Prop:= ∃aw ty,w.heap[c]?=some (.cells aw ty (0,0))
theorem Plain.same {w w':World} {c:Nat} (h:Plain w c) (e:w'.heap[c]?=w.heap[c]?):Plain w' c:=by
 obtain⟨aw,ty,h⟩:=h;exact⟨aw,ty,e.trans h⟩
structure Env.fx (E E':Env):Prop where
 eJ: ∀c,E.PA c→E'.PA c
 eD: ∀c,E.PF c→E'.PF c
 qD: ∀c,E.PA c→E'.w.heap[c]?=E.w.heap[c]?
 wf: ∀c,E.PF c→E'.w.heap[c]?=E.w.heap[c]?
 bc: ∀b,E.bc b≤E'.bc b
 m: ∀b x,E.m b=some x→E'.bc b=E.bc b→E'.m b=some x∧E'.sz b=E.sz b∧E'.cp b=E.cp b
 mL: ∀t c,E.mL t=some c→E'.mL t=some c
theorem Env.fx.refl (E:Env):E.fx E:=⟨fun _ h=>h,fun _ h=>h,fun _ _=>rfl,fun _ _=>rfl,fun _=>Nat.le_refl _,fun _ _ h _=>⟨h,rfl,rfl⟩,fun _ _ h=>h⟩
theorem Env.fx.trans {A B C:Env} (h:A.fx B) (k:B.fx C):A.fx C:=
 ⟨fun c x=>k.eJ c (h.eJ c x),fun c x=>k.eD c (h.eD c x),fun c x=>(k.qD c (h.eJ c x)).trans (h.qD c x),fun c x=>(k.wf c (h.eD c x)).trans (h.wf c x),
  fun b=>Nat.le_trans (h.bc b) (k.bc b),fun b x hx aL=>by
   have h1:B.bc b=A.bc b:=Nat.le_antisymm (aL▸k.bc b) (h.bc b)
   have h2:C.bc b=B.bc b:=aL.trans h1.symm
   obtain⟨a1,s1,cr⟩:=h.m b x hx h1
   obtain⟨bA,s2,ch⟩:=k.m b x a1 h2
   exact⟨bA,s2.trans s1,ch.trans cr⟩,
  fun t c x=>k.mL t c (h.mL t c x)⟩
theorem ea.le {E E':Env} (h:E.fx E') {a:AV} {v:Value} (hv:ea E a v):ea E' a v:=by
 have kz: ∀a v,aQ E.w E.PA E.PF a v→aQ E'.w E'.PA E'.PF a v:=fun a v k=>k.mono h.qD h.wf h.eJ h.eD
 cases a with
 | ref b g off n full=>
  rcases hv with⟨hv,h1⟩ | ⟨aL,hv⟩
  ·exact .inl ⟨Nat.lt_of_lt_of_le hv (h.bc b),h1⟩
  ·rcases Nat.lt_or_ge (E.bc b) (E'.bc b) with aS | e3
   ·refine .inl ⟨aL▸aS,?_⟩
    rcases hv with⟨hm,aD,rfl,A,rfl⟩ | ⟨c,cap,hm,rfl,h1,h2,aH⟩<;>exact⟨_,_,rfl⟩
   ·have he:E'.bc b=E.bc b:=Nat.le_antisymm e3 (h.bc b)
    refine .inr ⟨by rw[he];exact aL,?_⟩
    rcases hv with⟨hm,aD,ap,A,c3⟩ | ⟨c,cap,hm,e,h1,h2,aH⟩
    ·exact .inl ⟨(h.m b _ hm he).1,aD,ap,A,c3⟩
    ·obtain⟨a1,s1,cr⟩:=h.m b _ hm he
     exact .inr ⟨c,cap,a1,by rw[s1];exact e,h1,h2,by rw[cr];exact aH⟩
 | ptr b g r c=>
  rcases hv with⟨hv,h1⟩ | ⟨aL,bl,hm,e⟩
  ·exact .inl ⟨Nat.lt_of_lt_of_le hv (h.bc b),h1⟩
  ·rcases Nat.lt_or_ge (E.bc b) (E'.bc b) with aS | e3
   ·exact .inl ⟨aL▸aS,_,_,e⟩
   ·have he:E'.bc b=E.bc b:=Nat.le_antisymm e3 (h.bc b)
    obtain⟨a1,s1,cr⟩:=h.m b _ hm he
    exact .inr ⟨by rw[he];exact aL,bl,a1,by rw[s1];exact e⟩
 | et t c=>
  obtain⟨bl,hm,e⟩:=hv
  exact⟨bl,h.mL _ _ hm,e⟩
 | _=>exact kz _ _ hv
theorem nV {E:Env} {a:AV} {v:Value} (h: ∀f caps,a≠ .fn f caps):bQ E a v=ea E a v:=by
 cases a<;>first | rfl | exact absurd rfl (h _ _)
theorem ma {E:Env} {a:AV} {v:Value} (h: ∀l,a≠ .agg l):V2 E a v=bQ E a v:=by
 cases a<;>first | rfl | exact absurd rfl (h _)
theorem mb {E:Env} {a:AV} {v:Value} (h: ∀l,a≠ .tup l):V3 E a v=V2 E a v:=by
 cases a<;>first | rfl | exact absurd rfl (h _)
theorem bQ.le {E E':Env} (h:E.fx E') {a:AV} {v:Value} (hv:bQ E a v):bQ E' a v:=by
 by_cases hf: ∃f caps,a= .fn f caps
 ·obtain⟨f,caps,rfl⟩:=hf
  obtain⟨vs,e,ai⟩:=hv
  exact⟨vs,e,ai.mono fun _ _ k=>k.le h⟩
 ·rw[nV fun f c e=>hf ⟨f,c,e⟩] at hv ⊢
  exact hv.le h
theorem V2.le {E E':Env} (h:E.fx E') {a:AV} {v:Value} (hv:V2 E a v):V2 E' a v:=by
 by_cases hf: ∃l,a= .agg l
 ·obtain⟨l,rfl⟩:=hf
  obtain⟨vs,e,ai⟩:=hv
  exact⟨vs,e,ai.mono fun _ _ k=>k.le h⟩
 ·rw[ma fun l e=>hf ⟨l,e⟩] at hv ⊢
  exact hv.le h
theorem V3.le {E E':Env} (h:E.fx E') {a:AV} {v:Value} (hv:V3 E a v):V3 E' a v:=by
 by_cases hf: ∃l,a= .tup l
 ·obtain⟨l,rfl⟩:=hf
  obtain⟨vs,e,ai⟩:=hv
  exact⟨vs,e,ai.mono fun _ _ k=>k.le h⟩
 ·rw[mb fun l e=>hf ⟨l,e⟩] at hv ⊢
  exact hv.le h
theorem aQ.v0 {E:Env} {a:AV} {v:Value} (h:aQ E.w E.PA E.PF a v):ea E a v:=by
 cases a<;>first | exact h | cases h
theorem aQ.v1 {E:Env} {a:AV} {v:Value} (h:aQ E.w E.PA E.PF a v):bQ E a v:=by
 by_cases hf: ∃f caps,a= .fn f caps
 ·obtain⟨f,caps,rfl⟩:=hf
  cases h with
  | fn aE hrel=>exact⟨_,rfl,aE,fun i a v h1 h2=>((hrel i a v h1 h2).mono (fun _ _=>rfl) (fun _ h=>h.elim) (fun _ h=>h) (fun _ h=>h.elim)).v0⟩
 ·rw[nV fun f c e=>hf ⟨f,c,e⟩]
  exact h.v0
theorem bQ.undef (E:Env) (v:Value):bQ E .undef v:=aQ.undef v
theorem V3.undef (E:Env) (v:Value):V3 E .undef v:=aQ.undef v
def AV.PJ:AV→Bool
 | .undef | .agg _ | .tup _=>false
 | _=>true
theorem bQ.one {E:Env} {a:AV} {v:Value} (h:bQ E a v) (hc:a.PJ=true):True:=trivial
def dt:List (Nat×List AV)→Nat→Option (List AV)
 | [],_=>none
 | (k,c)::l,t=>if t=k then some c else dt l t
def jj:List (Nat×List AV)→Nat→List AV→List (Nat×List AV)
 | [],_,_=>[]
 | (k,c)::l,t,d=>if t=k then(k,d)::l else(k,c)::jj l t d
def Env.fe (E:Env) (c:Nat):Prop:= ∃b,E.m b=some (some c)
def Env.iQ (E:Env) (c:Nat):Prop:= ∃t,E.mL t=some c
def Env.bK (E:Env):Env:={E with mL:=fun _=>none}
theorem Env.zg (E:Env):E.bK.fx E:=⟨fun _ h=>h,fun _ h=>h,fun _ _=>rfl,fun _ _=>rfl,fun _=>Nat.le_refl _,fun _ _ h _=>⟨h,rfl,rfl⟩,fun _ _ h=>by cases h⟩
theorem Env.fx.bK {E E':Env} (h:E.fx E'):E.bK.fx E'.bK:=⟨h.eJ,h.eD,h.qD,h.wf,h.bc,h.m,fun _ _ h=>by cases h⟩
def sF (E:Env) (sz:Nat) (rows:List (List AV)) (aw:Array Value):Prop:=
 (∀(i:Nat) (row:List AV),rows[i]?=some row→row.length=sz)∧
 ∀(i j:Nat) (row:List AV) (a:AV),rows[i]?=some row→row[j]?=some a→ ∃u,aw[i*sz+j]?=some u∧bQ E.bK a u
structure SimH (E:Env) (H:List Blk):Prop where
 heap: ∀b c,E.m b=some (some c)→ ∃blk aw ty,H[b]?=some blk∧E.sz b=blk.sz∧E.w.heap[c]?=some (.cells aw ty (0,0))∧aw.size=E.cp b*E.sz b∧blk.rows.length≤E.cp b∧sF E (E.sz b) blk.rows aw
 dX: ∀(b:Nat) (blk:Blk),H[b]?=some blk→E.bc b=blk.bc
 fX: ∀b,E.m b=some none→ ∃blk,H[b]?=some blk∧E.sz b=blk.sz
 fresh: ∀b,H.length≤b→E.m b=none∧E.bc b=0
 gu: ∀b bI c,E.m b=some (some c)→E.m bI=some (some c)→b=bI
 hS: ∀t gz c,E.mL t=some c→E.mL gz=some c→t=gz
 fz: ∀b t c,E.m b=some (some c)→E.mL t=some c→False
 gw: ∀c,E.PA c→ ¬E.fe c
 gM: ∀c,E.PA c→ ¬E.iQ c
 c4: ∀c,E.PF c→E.PA c
 eK: ∀c,E.PF c→Plain E.w c
 db: ∀c,E.PA c→c<E.w.heap.size
 eQ: ∀c,E.fe c→c<E.w.heap.size
 fq: ∀c,E.iQ c→c<E.w.heap.size
def SimL (E:Env) (L:List (Nat×List AV)):Prop:=
 ∀t c,E.mL t=some c→ ∃cells aw ty,dt L t=some cells∧E.w.heap[c]?=some (.cells aw ty (0,0))∧aK (bQ E.bK) cells aw.toList
structure qS (E:Env) (av:St) (tmps:Array Value):Prop where
 h:SimH E av.H
 l:SimL E av.L
 gO: ∀t,V3 E (av.T.getD t .undef) (tmps.getD t undef)
 size:av.T.length=tmps.size
structure Step (E E':Env):Prop where
 le:E.fx E'
 os:E'.w.os=E.w.os
 tape:E'.w.tape=E.w.tape
 output:E'.w.output=E.w.output
 size:E.w.heap.size≤E'.w.heap.size
 dj: ∀c,c<E.w.heap.size→ ¬E.fe c→ ¬E.iQ c→E'.w.heap[c]?=E.w.heap[c]?
 hB: ∀b c,E'.m b=some (some c)→E.m b=some (some c)∨E.w.heap.size≤c
 hR: ∀c,E'.iQ c→E.iQ c∨E.w.heap.size≤c
 eJ: ∀c,E'.PA c→E.PA c∨E.w.heap.size≤c
 eD: ∀c,E'.PF c→E.PF c∨E.w.heap.size≤c
theorem Step.ni {E E':Env} (h:Step E E'): ∀c,E'.fe c→E.fe c∨E.w.heap.size≤c:=fun c ⟨b,hb⟩=>(h.hB b c hb).elim (fun h=> .inl ⟨b,h⟩) .inr
theorem Step.refl (E:Env):Step E E:=⟨.refl E,rfl,rfl,rfl,Nat.le_refl _,fun _ _ _ _=>rfl,fun _ _ h=> .inl h,fun _ h=> .inl h,fun _ h=> .inl h,fun _ h=> .inl h⟩
theorem Step.trans {A B C:Env} (h:Step A B) (k:Step B C):Step A C where
 le:=h.le.trans k.le
 os:=k.os.trans h.os
 tape:=k.tape.trans h.tape
 output:=k.output.trans h.output
 size:=Nat.le_trans h.size k.size
 dj:=fun c hc h1 h2=>by
  rw[k.dj c (Nat.lt_of_lt_of_le hc h.size) (fun x=>(h.ni c x).elim h1 (fun y=>absurd hc (Nat.not_lt.2 y))) (fun x=>(h.hR c x).elim h2 (fun y=>absurd hc (Nat.not_lt.2 y)))]
  exact h.dj c hc h1 h2
 hB:=fun b c x=>(k.hB b c x).elim (fun y=>h.hB b c y) (fun y=> .inr (Nat.le_trans h.size y))
 hR:=fun c x=>(k.hR c x).elim (fun y=>h.hR c y) (fun y=> .inr (Nat.le_trans h.size y))
 eJ:=fun c x=>(k.eJ c x).elim (fun y=>h.eJ c y) (fun y=> .inr (Nat.le_trans h.size y))
 eD:=fun c x=>(k.eD c x).elim (fun y=>h.eD c y) (fun y=> .inr (Nat.le_trans h.size y))
class b6 where
 n:Nat
structure Good [hp:b6] (bY E:Env):Prop where
 wj: ∀b,hp.n≤b→bY.m b=none∧bY.bc b=0
 bK: ∀t,bY.mL t=none
 le:bY.fx E
 os:E.w.os=bY.w.os
 tape:E.w.tape=bY.w.tape
 output:E.w.output=bY.w.output
 size:bY.w.heap.size≤E.w.heap.size
 dj: ∀c,c<bY.w.heap.size→ ¬bY.fe c→E.w.heap[c]?=bY.w.heap[c]?
 hB: ∀b c,E.m b=some (some c)→bY.m b=some (some c)∨bY.w.heap.size≤c
 hR: ∀c,E.iQ c→bY.w.heap.size≤c
 eJ: ∀c,E.PA c→bY.PA c∨bY.w.heap.size≤c
 eD: ∀c,E.PF c→bY.PF c∨bY.w.heap.size≤c
section
variable [hp:b6]
theorem Good.ni {bY E:Env} (h:Good bY E): ∀c,E.fe c→bY.fe c∨bY.w.heap.size≤c:=fun c ⟨b,hb⟩=>(h.hB b c hb).elim (fun h=> .inl ⟨b,h⟩) .inr
theorem Good.refl {E:Env} (hu: ∀b,hp.n≤b→E.m b=none∧E.bc b=0) (h: ∀t,E.mL t=none):Good E E:=
 ⟨hu,h,.refl E,rfl,rfl,rfl,Nat.le_refl _,fun _ _ _=>rfl,fun _ _ x=> .inl x,(fun c ⟨t,x⟩=>by rw[h t] at x;cases x),fun _ x=> .inl x,fun _ x=> .inl x⟩
theorem Good.step {bY E E':Env} (h:Good bY E) (k:Step E E'):Good bY E' where
 wj:=h.wj
 bK:=h.bK
 le:=h.le.trans k.le
 os:=k.os.trans h.os
 tape:=k.tape.trans h.tape
 output:=k.output.trans h.output
 size:=Nat.le_trans h.size k.size
 dj:=fun c hc h1=>by
  rw[k.dj c (Nat.lt_of_lt_of_le hc h.size) (fun x=>(h.ni c x).elim h1 (fun y=>absurd hc (Nat.not_lt.2 y))) (fun x=>absurd hc (Nat.not_lt.2 (h.hR c x)))]
  exact h.dj c hc h1
 hB:=fun b c x=>(k.hB b c x).elim (fun y=>h.hB b c y) (fun y=> .inr (Nat.le_trans h.size y))
 hR:=fun c x=>(k.hR c x).elim (fun y=>h.hR c y) (fun y=>Nat.le_trans h.size y)
 eJ:=fun c x=>(k.eJ c x).elim (fun y=>h.eJ c y) (fun y=> .inr (Nat.le_trans h.size y))
 eD:=fun c x=>(k.eD c x).elim (fun y=>h.eD c y) (fun y=> .inr (Nat.le_trans h.size y))
end
def Oy (ex:Exit):Bool:=match ex with
 | .normal | .exit _ | .ret=>true
 | _=>false
def kW [b6] (bY:Env) (Q:Exit→St→Prop) (ex:Exit) (a:Act) (w:World):Prop:=
 Oy ex=true∧ ∃av E,Q ex av∧E.w=w∧Good bY E∧qS E av a.tmps∧a.defers=[]
def WpS [b6] (P:Program) (c:Code) (Q:Exit→St→Prop) (av:St):Prop:=
 ∀(bY E:Env) (a:Act),Good bY E→qS E av a.tmps→a.defers=[]→c.wp P (kW bY Q) a E.w
def Weak [b6] (av jm:St):Prop:= ∀(bY E:Env) (tmps:Array Value),Good bY E→qS E av tmps→ ∃E',E'.w=E.w∧Good bY E'∧qS E' jm tmps
theorem Weak.refl [b6] (av:St):Weak av av:=fun bY E tmps g h=>⟨E,rfl,g,h⟩
theorem Weak.trans [b6] {a b c:St} (h:Weak a b) (k:Weak b c):Weak a c:=fun bY E tmps g s=>by
 obtain⟨E1,aT,g1,s1⟩:=h bY E tmps g s
 obtain⟨oJ,e2,g2,s2⟩:=k bY E1 tmps g1 s1
 exact⟨oJ,e2.trans aT,g2,s2⟩
section
variable [b6] {P:Program} {Q sD:Exit→St→Prop} {av:St}
theorem WpS.mono {c:Code} (h:WpS P c Q av) (af: ∀e s,Q e s→sD e s):WpS P c sD av:=fun bY E a g s d=>
 wp_mono (h bY E a g s d) fun e a w ⟨h1,av,E,h2,aH⟩=>⟨h1,av,E,af _ _ h2,aH⟩
theorem WpS.py {c:Code} {jm:St} (h:WpS P c Q jm) (k:Weak av jm):WpS P c Q av:=fun bY E a g s d=>by
 obtain⟨E1,aT,g1,s1⟩:=k bY E a.tmps g s
 exact aT▸h bY E1 a g1 s1 d
theorem WpS.skip (h:Q .normal av):WpS P .skip Q av:=fun bY E a g s d=>wp_skip ⟨rfl,av,E,h,rfl,g,s,d⟩
theorem WpS.ret (h:Q .ret av):WpS P .ret Q av:=fun bY E a g s d=>wp_ret ⟨rfl,av,E,h,rfl,g,s,d⟩
theorem WpS.exit {id:Nat} (h:Q (.exit id) av):WpS P (.exit id) Q av:=fun bY E a g s d=>wp_exit ⟨rfl,av,E,h,rfl,g,s,d⟩
def dR (P:Program) (y:Code) (Q:Exit→St→Prop) (ex:Exit) (s:St):Prop:=match ex with
 | .normal=>WpS P y Q s
 | ex=>Q ex s
theorem WpS.seq {x y:Code} (h:WpS P x (dR P y Q) av):WpS P (.seq x y) Q av:=fun bY E a g s d=>
 wp_seq (wp_mono (h bY E a g s d) fun e gS w' ⟨h1,jm,E',h2,aH,bn,cX,eG⟩=>by
  cases e with
  | normal=>subst aH;exact h2 bY E' gS bn cX eG
  | exit id=>exact⟨rfl,jm,E',h2,aH,bn,cX,eG⟩
  | ret=>exact⟨rfl,jm,E',h2,aH,bn,cX,eG⟩
  | _=>cases h1)
def dG (id:Nat) (Q:Exit→St→Prop) (ex:Exit) (s:St):Prop:=match ex with
 | .exit fc=>if fc=id then Q .normal s else Q (.exit fc) s
 | ex=>Q ex s
theorem WpS.block {id:Nat} {c:Code} (h:WpS P c (dG id Q) av):WpS P (.block id c) Q av:=fun bY E a g s d=>
 wp_block (wp_mono (h bY E a g s d) fun e gS w' ⟨h1,jm,E',h2,aH⟩=>by
  cases e with
  | normal=>exact⟨rfl,jm,E',h2,aH⟩
  | exit fc=>
   by_cases hid:fc=id
   ·subst hid
    have mj:(if fc=fc then Q .normal jm else Q (.exit fc) jm):=h2
    rw[if_pos rfl] at mj
    show(if fc=fc then _ else _)
    rw[if_pos rfl];exact⟨rfl,jm,E',mj,aH⟩
   ·have mj:(if fc=id then Q .normal jm else Q (.exit fc) jm):=h2
    rw[if_neg hid] at mj
    show(if fc=id then _ else _)
    rw[if_neg hid];exact⟨rfl,jm,E',mj,aH⟩
  | ret=>exact⟨rfl,jm,E',h2,aH⟩
  | _=>cases h1)
end
def mh:Value→AV
 | .int k n=> .int k n
 | .bool b=> .bool b
 | .string s=> .str s
 | .slice none 0 0=> .aR [] true true
 | .pointer none=> .eY
 | .nilIface=> .fg
 | _=> .undef
def bR (T:List AV):Operand→AV
 | .tmp t=>T.getD t .undef
 | .const v=>mh v
 | .func f=> .fn f []
 | .global _=> .undef
theorem Qa (E:Env) (v:Value):V3 E (mh v) v:=by
 unfold mh
 split
 ·exact aQ.int _ _
 ·exact aQ.bool _
 ·exact aQ.str _
 ·exact aQ.aR (PB:=fun _=>False) (sz:=0) (vs:=fun _ _=>undef) (fun _ h=>h.elim) ⟨Nat.le_refl _,Nat.zero_le _⟩ (fun _=>rfl) (fun i row h=>by simp at h) (fun h=>by simp at h) (fun i j row a h=>by simp at h)
 ·exact aQ.eY
 ·exact aQ.fg
 ·exact aQ.undef _
theorem opv_rel {E:Env} {T:List AV} {a:Act} (h: ∀t,V3 E (T.getD t .undef) (a.tmps.getD t undef)) (x:Operand):V3 E (bR T x) (a.eval x):=by
 cases x with
 | tmp t=>exact h t
 | const v=>exact Qa E v
 | global g=>exact aQ.undef _
 | func f=>exact⟨[],rfl,aK.nil⟩
def uY (b:Bool) (x y:Prop):Prop:=(b=true→x)∧(b=false→y)
def me (v:AV) (k:Bool→Prop):Prop:=match v with
 | .bool b=>k b
 | _=>False
theorem xE {v:AV} {k:Bool→Prop} (h:me v k): ∃b,v= .bool b∧k b:=by
 cases v<;>first | exact⟨_,rfl,h⟩ | exact h.elim
theorem V3.mS {E:Env} {b:Bool} {v:Value} (h:V3 E (.bool b) v):v= .bool b:=by
 have h':aQ E.w E.PA E.PF (.bool b) v:=h
 cases h';rfl
theorem V3.nl {E:Env} {k:IntKind} {n:Int} {v:Value} (h:V3 E (.int k n) v):v= .int k n:=by
 have h':aQ E.w E.PA E.PF (.int k n) v:=h
 cases h';rfl
theorem V3.uq {E:Env} {s:ByteArray} {v:Value} (h:V3 E (.str s) v):v= .string s:=by
 have h':aQ E.w E.PA E.PF (.str s) v:=h
 cases h';rfl
section
variable [b6] {P:Program} {Q sD:Exit→St→Prop} {av:St}
theorem WpS.cond {c:Operand} {x y:Code} (h:me (bR av.T c) fun b=>uY b (WpS P x Q av) (WpS P y Q av)):WpS P (.cond c x y) Q av:=fun bY E a g s d=>by
 obtain⟨b,hb,h1,h2⟩:=xE h
 have hv:=opv_rel s.gO c
 rw[hb] at hv
 have he:a.eval c= .bool b:=V3.mS hv
 exact wp_cond_split he (fun e=>h1 e bY E a g s d) (fun e=>h2 e bY E a g s d)
def ON (I:Nat→St→Prop) (n:Nat) (Q:Exit→St→Prop) (ex:Exit) (s:St):Prop:=match ex with
 | .normal=> ∃jw s',jw<n∧Weak s s'∧I jw s'
 | ex=>Q ex s
theorem WpS.loop {c:Code} (I:Nat→St→Prop) (n:Nat) (aM:I n av) (round: ∀n s,I n s→WpS P c (ON I n Q) s):WpS P (.loop c) Q av:=by
 intro bY E a g s d b k aw
 have key: ∀n (a:Act) (E:Env) av,I n av→Good bY E→qS E av a.tmps→a.defers=[]→
   ∃e gS w',kW bY Q e gS w'∧Arrives P (lone (b.at a (.code c:: .inLoop c::k)) aw E.w) b k aw e gS w':=by
  intro n
  induction n using Nat.strongRecOn with
  | _ n bx=>
   intro a E av a6 g s d
   obtain⟨e,xF,Oh,af,vq⟩:=round n av a6 bY E a g s d b (.inLoop c::k) aw
   obtain⟨he,NN,E1,af,hw,g1,s1,d1⟩:=af
   cases e with
   | normal=>
    obtain⟨jw,s',aS,To,vl⟩:=af
    obtain⟨oJ,e2,g2,s2⟩:=To bY E1 xF.tmps g1 s1
    obtain⟨QG,O3,abc,Ta,HV⟩:=bx jw aS xF oJ s' vl g2 s2 d1
    rw[e2,hw] at HV
    exact⟨QG,O3,abc,Ta,.of_steps (Steps.trans vq (.one step_inLoop)) HV⟩
   | exit id=>exact⟨_,xF,Oh,⟨rfl,NN,E1,af,hw,g1,s1,d1⟩,.pass (x:= .inLoop c) rfl (fun _ _=> .inl (by simp)) vq⟩
   | ret=>exact⟨_,xF,Oh,⟨rfl,NN,E1,af,hw,g1,s1,d1⟩,.pass (x:= .inLoop c) rfl (fun _ _=> .inl (by simp)) vq⟩
   | _=>cases he
 obtain⟨e,gS,w',af,vq⟩:=key n a E av aM g s d
 exact⟨e,gS,w',af,.of_steps (.one step_loop) vq⟩
end
def cn {α:Type} (o:Option α) (k:α→Prop):Prop:=match o with
 | some a=>k a
 | none=>False
theorem eu {α:Type} {o:Option α} {k:α→Prop} (h:cn o k): ∃a,o=some a∧k a:=by
 cases o with
 | none=>exact h.elim
 | some a=>exact⟨a,rfl,h⟩
theorem dk {α:Type} {o:Option α} {k:α→Prop} {a:α} (h:o=some a) (hk:k a):cn o k:=by rw[h];exact hk
def dM (b:Bool) (x:Prop):Prop:=match b with
 | true=>x
 | false=>False
theorem nr {b:Bool} {x:Prop} (h:dM b x):b=true∧x:=by
 cases b with
 | true=>exact⟨rfl,h⟩
 | false=>exact h.elim
def tA (P:Program) (t:TypeId):Bool:=match P.underlying t with
 | some (.struct _) | some (.array _ _)=>true
 | _=>false
def vY (P:Program) (t:TypeId):Bool:=(P.underlying t).isSome
theorem run_underlying {P:Program} {t:TypeId} {w:World} {d:TypeDesc} (h:P.underlying t=some d):(underlying t).run P w= .ok d w:=by
 simp[Go.underlying,h]
theorem Mo {P:Program} {t:TypeId} {w:World} (h:vY P t=true):(isAgg t).run P w= .ok (tA P t) w:=by
 unfold vY at h
 cases aY:P.underlying t with
 | none=>simp[aY] at h
 | some d=>
  simp only[Go.isAgg,Sem.run_bind,run_underlying aY,Result.andThen_ok,tA,aY]
  cases d<;>rfl
theorem run_sizeOf {P:Program} {t:TypeId} {w:World} (h:(P.info? t).isSome=true):(sizeOf t).run P w= .ok (P.cellsOf t) w:=by
 cases hi:P.info? t with
 | none=>simp[hi] at h
 | some i=>simp[Go.sizeOf,typeInfo,hi,Program.cellsOf]
theorem UP {P:Program} {t:TypeId} (h:vY P t=true):(P.info? t).isSome=true:=by
 unfold vY Program.underlying at h
 cases hi:P.info? t with
 | none=>simp[hi] at h
 | some i=>rfl
def hE (P:Program) (t:TypeId) (cells:List AV) (c:Nat) (K:AV→Prop):Prop:=
 if vY P t=true then
  (if tA P t=true then(if c+P.cellsOf t≤cells.length then K (.agg ((cells.drop c).take (P.cellsOf t))) else False)
   else cn cells[c]? K)
 else False
def mr (P:Program) (t:TypeId) (x:AV) (L:List (Nat×List AV)) (H:List Blk) (K:AV→Prop):Prop:=match x with
 | .et s c=>cn (dt L s) fun cells=>hE P t cells c K
 | .ptr b g r c=>cn H[b]? fun blk=>blk.bc=g∧cn blk.rows[r]? fun row=>hE P t row c K
 | .cM cells c=>hE P t cells c K
 | _=>False
theorem ln (c o n:Nat):(⟨c,o,none⟩:Addr).add n=⟨c,o+n,none⟩:=by
 unfold Addr.add;split
 ·subst_vars;rfl
 ·rfl
theorem Fm {P:Program} {t:TypeId} {cells:List AV} {c bl o:Nat} {K:AV→Prop} {w:World} {R:AV→Value→Prop}
  (hc: ∀(j:Nat) (a:AV),cells[j]?=some a→ ∃u,w.cell? ⟨bl,o+j,none⟩=some u∧R a u) (h:hE P t cells c K):
  ∃a v,K a∧(loadVar t ⟨bl,o+c,none⟩).run P w= .ok v w∧
   ((∃l vs,a= .agg l∧v= .agg (List.toArray vs)∧aK R l vs)∨R a v):=by
 unfold hE at h
 split at h
 ·rename_i hk
  split at h
  ·rename_i aC
   split at h
   ·rename_i aE
    let n:=P.cellsOf t
    have dy: ∀j,j<n→ ∃a u,cells[c+j]?=some a∧w.cell? ⟨bl,o+(c+j),none⟩=some u∧R a u:=by
     intro j ar
     have pZ:c+j<cells.length:=by show c+j<cells.length;have:n=P.cellsOf t:=rfl;omega
     obtain⟨u,h1,h2⟩:=hc (c+j) _ (List.getElem?_eq_getElem pZ)
     exact⟨_,u,List.getElem?_eq_getElem pZ,h1,h2⟩
    let f:Nat→Value:=fun j=>(w.cell? ⟨bl,o+(c+j),none⟩).getD undef
    have hf: ∀j,j<n→w.cell? ((⟨bl,o+c,none⟩:Addr).add j)=some (f j):=by
     intro j ar
     obtain⟨a,u,_,h1,_⟩:=dy j ar
     rw[ln,Nat.add_assoc]
     show _=some ((w.cell? ⟨bl,o+(c+j),none⟩).getD undef)
     rw[h1];rfl
    refine⟨_,.agg ((List.range n).map f).toArray,h,?_,.inl ⟨_,(List.range n).map f,rfl,rfl,?_,?_⟩⟩
    ·simp only[loadVar,Sem.run_bind,Mo hk,Result.andThen_ok,aC,if_true,run_sizeOf (UP hk)]
     rw[run_loadCells w _ n f hf]
     rfl
    ·simp only[List.length_take,List.length_drop,List.length_map,List.length_range];show min n _=n;have:n=P.cellsOf t:=rfl;omega
    ·intro i a b Ib te
     have hi:i<n:=by have:=(List.getElem?_eq_some_iff.1 te).1;simpa using this
     obtain⟨gS,u,h1,h2,aH⟩:=dy i hi
     rw[List.getElem?_take,if_pos (show i<P.cellsOf t from hi),List.getElem?_drop,h1] at Ib
     cases Ib
     rw[List.getElem?_map,List.getElem?_range hi] at te
     simp only[Option.map_some,Option.some.injEq] at te
     have:f i=u:=by show(w.cell? ⟨bl,o+(c+i),none⟩).getD undef=u;rw[h2];rfl
     rw[←te,this];exact aH
   ·exact h.elim
  ·rename_i aC
   obtain⟨a,ri,hK⟩:=eu h
   obtain⟨u,h1,h2⟩:=hc c a ri
   refine⟨a,u,hK,?_,.inr h2⟩
   have Sc:tA P t=false:=by cases hx:tA P t<;>simp_all
   simp only[loadVar,Sem.run_bind,Mo hk,Result.andThen_ok,Sc]
   simp[h1]
 ·exact h.elim
theorem bQ.up {E:Env} {a:AV} {v:Value} (h:bQ E.bK a v):bQ E a v:=h.le E.zg
theorem OO {E:Env} {l:List AV} {v:Value} (h:bQ E (.agg l) v):False:=by
 have h':aQ E.w E.PA E.PF (.agg l) v:=h
 cases h'
theorem OP {E:Env} {l:List AV} {v:Value} (h:bQ E (.tup l) v):False:=by
 have h':aQ E.w E.PA E.PF (.tup l) v:=h
 cases h'
theorem jF {E:Env} {a:AV} {v:Value} (h:bQ E a v):V2 E a v:=by
 by_cases hf: ∃l,a= .agg l
 ·obtain⟨l,rfl⟩:=hf;exact(OO h).elim
 ·rw[ma fun l e=>hf ⟨l,e⟩];exact h
theorem OQ {E:Env} {l:List AV} {v:Value} (h:V2 E (.tup l) v):False:=OP (E:=E) (l:=l) (v:=v) h
theorem nW {E:Env} {a:AV} {v:Value} (h:V2 E a v):V3 E a v:=by
 by_cases hf: ∃l,a= .tup l
 ·obtain⟨l,rfl⟩:=hf;exact(OQ h).elim
 ·rw[mb fun l e=>hf ⟨l,e⟩];exact h
theorem AI {E:Env} {a:AV} {v:Value} (h:(∃l vs,a= .agg l∧v= .agg (List.toArray vs)∧aK (bQ E) l vs)∨bQ E a v):V2 E a v:=by
 rcases h with⟨l,vs,rfl,rfl,ai⟩ | h
 ·exact⟨vs,rfl,ai⟩
 ·exact jF h
theorem V3.wa {E:Env} {t c:Nat} {v:Value} (h:V3 E (.et t c) v): ∃bl,E.mL t=some bl∧v= .pointer (some ⟨bl,c,none⟩):=h
theorem V3.zu {E:Env} {b g r c:Nat} {v:Value} (h:V3 E (.ptr b g r c) v) (aL:E.bc b=g): ∃bl,E.m b=some (some bl)∧v= .pointer (some ⟨bl,r*E.sz b+c,none⟩):=by
 rcases(h:ea E (.ptr b g r c) v) with⟨h,_⟩ | ⟨_,h⟩
 ·omega
 ·exact h
theorem cell_of {w:World} {c o:Nat} {aw:Array Value} {ty:TypeId} {Ry:Nat×Nat} {u:Value} (h:w.heap[c]?=some (.cells aw ty Ry)) (hu:aw[o]?=some u):w.cell? ⟨c,o,none⟩=some u:=by
 simp[World.cell?,h,hu]
structure Sub (L:List (Nat×List AV)) (H:List Blk) (iH:List (Nat×List AV)) (ef:List Blk):Prop where
 l: ∀t c,dt L t=some c→dt iH t=some c
 h: ∀(b:Nat) (blk:Blk),H[b]?=some blk→ef[b]?=some blk
theorem Sub.refl (L:List (Nat×List AV)) (H:List Blk):Sub L H L H:=⟨fun _ _ h=>h,fun _ _ h=>h⟩
theorem KK {P:Program} {t:TypeId} {x:AV} {L iH:List (Nat×List AV)} {H ef:List Blk} {K:AV→Prop} {E:Env} {v:Value}
  (sub:Sub L H iH ef) (ax:SimH E ef) (bH:SimL E iH) (hx:V3 E x v) (h:mr P t x L H K):
  ∃a dv,K a∧(Instr.loadAt t v).run P E.w= .ok dv E.w∧V2 E a dv:=by
 cases x with
 | et s c=>
  obtain⟨bl,hm,rfl⟩:=hx.wa
  obtain⟨cells,aw,ty,aL,hw,ai⟩:=bH s bl hm
  have h':cn (dt L s) fun cells=>hE P t cells c K:=h
  obtain⟨sT,vz,h'⟩:=eu h'
  obtain rfl:cells=sT:=by have:=sub.l _ _ vz;rw[aL] at this;exact Option.some.inj this
  obtain⟨a,dv,hK,aq,hv⟩:=Fm (o:=0) (bl:=bl) (w:=E.w) (R:=bQ E.bK) (fun j a ar=>by
   obtain⟨u,hu,aq⟩:=ai.get ar
   exact⟨u,by rw[Nat.zero_add];exact cell_of hw (by simpa using hu),aq⟩) h'
  rw[Nat.zero_add] at aq
  refine⟨a,dv,hK,?_,(AI hv).le E.zg⟩
  simp only[Instr.loadAt,Instr.sureAddr,Sem.run_bind,Sem.run_pure,Result.andThen_ok,aq]
 | ptr b g r c=>
  obtain⟨blk,hb,aL,h2⟩:=eu (show cn H[b]? fun blk=>blk.bc=g∧cn blk.rows[r]? fun row=>hE P t row c K from h)
  obtain⟨row,eg,aH⟩:=eu h2
  replace hb:=sub.h b blk hb
  have im:=ax.dX b blk hb
  obtain⟨bl,hm,rfl⟩:=hx.zu (im.trans aL)
  obtain⟨blk',aw,ty,dS,kw,hw,il,hlen,fb⟩:=ax.heap b bl hm
  obtain rfl:blk=blk':=by rw[hb] at dS;exact Option.some.inj dS
  obtain⟨a,dv,hK,aq,hv⟩:=Fm (o:=r*E.sz b) (bl:=bl) (w:=E.w) (R:=bQ E.bK) (fun j a ar=>by
   obtain⟨u,hu,aq⟩:=fb.2 r j row a eg ar
   exact⟨u,cell_of hw hu,aq⟩) aH
  refine⟨a,dv,hK,?_,(AI hv).le E.zg⟩
  simp only[Instr.loadAt,Instr.sureAddr,Sem.run_bind,Sem.run_pure,Result.andThen_ok,aq]
 | cM cells c=>
  have gU:aQ E.w E.PA E.PF (.cM cells c) v:=hx
  cases gU with
  | @cM _ _ _ _ bl o vs hc dd hrel=>
   have h':hE P t cells c K:=h
   obtain⟨a,dv,hK,aq,hv⟩:=Fm (o:=o) (bl:=bl) (w:=E.w) (R:=aQ E.w E.PA (fun _=>False)) (fun j a ar=>
    ⟨vs j,dd j (List.getElem?_eq_some_iff.1 ar).1,hrel j a ar⟩) h'
   have up: ∀a v,aQ E.w E.PA (fun _=>False) a v→bQ E a v:=fun a v aq=>(aq.mono (fun _ _=>rfl) (fun _ h=>h.elim) (fun _ h=>h) (fun _ h=>h.elim)).v1
   refine⟨a,dv,hK,?_,AI (hv.imp (fun⟨l,vs,h1,h2,aH⟩=>⟨l,vs,h1,h2,aH.mono up⟩) (up _ _))⟩
   simp only[Instr.loadAt,Instr.sureAddr,Sem.run_bind,Sem.run_pure,Result.andThen_ok,aq]
 | _=>exact h.elim
def sm:AV→Bool
 | .undef | .agg _ | .tup _ | .et _ _ | .fn _ _=>false
 | _=>true
def hX:AV→Bool
 | .fn _ caps=>caps.all sm
 | a=>sm a
def eb:AV→List AV
 | .agg l=>l
 | a=>[a]
def ft (row:List AV) (c:Nat) (l:List AV):List AV:=row.take c++l++row.drop (c+l.length)
def jX (P:Program) (t:TypeId) (x v:AV) (L:List (Nat×List AV)) (H:List Blk) (K:List (Nat×List AV)→List Blk→Prop):Prop:=
 if(P.info? t).isSome=true∧(eb v).length=P.cellsOf t∧(eb v).all hX=true then
  match x with
  | .et s c=>cn (dt L s) fun cells=>if c+(eb v).length≤cells.length then K (jj L s (ft cells c (eb v))) H else False
  | .ptr b g r c=>cn H[b]? fun blk=>blk.bc=g∧cn blk.rows[r]? fun row=>c+(eb v).length≤row.length∧K L (H.set b {blk with rows:=blk.rows.set r (ft row c (eb v))})
  | _=>False
 else False
theorem NQ {E:Env} {a:AV} {v:Value} (h:sm a=true) (hv:ea E a v):ea E.bK a v:=by
 cases a<;>first | exact hv | cases h
theorem Fe {E:Env} {a:AV} {v:Value} (h:hX a=true) (hv:bQ E a v):bQ E.bK a v:=by
 by_cases hf: ∃f caps,a= .fn f caps
 ·obtain⟨f,caps,rfl⟩:=hf
  obtain⟨vs,e,ai⟩:=hv
  refine⟨vs,e,ai.1,fun i x y hx bd=>NQ ?_ (ai.2 i x y hx bd)⟩
  have h':caps.all sm=true:=h
  exact List.all_eq_true.1 h' x (List.mem_of_getElem? hx)
 ·have aM:hX a=sm a:=by cases a<;>first | rfl | exact absurd ⟨_,_,rfl⟩ hf
  rw[nV fun f c e=>hf ⟨f,c,e⟩] at hv ⊢
  exact NQ (aM▸h) hv
theorem ea.one {E:Env} {a:AV} {v:Value} (h:sm a=true) (hv:ea E a v):v.oneCell'=true:=by
 cases a with
 | undef=>cases h
 | agg l=>cases h
 | tup l=>cases h
 | et s c=>cases h
 | fn f c=>cases h
 | ref b g off n full=>
  rcases hv with⟨_,A,cap,rfl⟩ | ⟨_,⟨_,_,_,A,rfl⟩ | ⟨c,cap,_,rfl,_⟩⟩
  ·rfl
  ·rfl
  ·rfl
 | ptr b g r c=>
  rcases hv with⟨_,bl,o,rfl⟩ | ⟨_,bl,_,rfl⟩
  ·rfl
  ·rfl
 | _=>exact aQ.one (show aQ E.w E.PA E.PF _ v from hv) (by intro h;cases h)
theorem bQ.zl {E:Env} {a:AV} {v:Value} (h:hX a=true) (hv:bQ E a v):v.oneCell'=true:=by
 by_cases hf: ∃f caps,a= .fn f caps
 ·obtain⟨f,caps,rfl⟩:=hf
  obtain⟨vs,rfl,ai⟩:=hv
  rfl
 ·have aM:hX a=sm a:=by cases a<;>first | rfl | exact absurd ⟨_,_,rfl⟩ hf
  rw[nV fun f c e=>hf ⟨f,c,e⟩] at hv
  exact hv.one (aM▸h)
theorem Step.setRow {E:Env} {H:List Blk} (ax:SimH E H) {bl:Nat} (hb:E.fe bl∨E.iQ bl) (aw:Array Value):Step E {E with w:=E.w.setRow bl aw}:=by
 have ap: ∀c,E.PA c→c≠bl:=fun c hc e=>by
  subst e
  exact hb.elim (ax.gw _ hc) (ax.gM _ hc)
 have hk: ∀c,c≠bl→(E.w.setRow bl aw).heap[c]?=E.w.heap[c]?:=fun c hc=>setRow_other _ _ _ _ hc
 exact⟨⟨fun _ h=>h,fun _ h=>h,fun c hc=>hk c (ap c hc),fun c hc=>hk c (ap c (ax.c4 c hc)),fun _=>Nat.le_refl _,fun _ _ h _=>⟨h,rfl,rfl⟩,fun _ _ h=>h⟩,rfl,rfl,rfl,
  by simp,fun c _ h1 h2=>hk c (fun e=>by subst e;exact hb.elim h1 h2),fun _ _ h=> .inl h,fun _ h=> .inl h,fun _ h=> .inl h,fun _ h=> .inl h⟩
theorem A5 {E:Env} {v:AV} {u:Value} (hv:V2 E v u) (hs:(eb v).all hX=true):aK (bQ E) (eb v) u.cells.toList:=by
 by_cases hf: ∃l,v= .agg l
 ·obtain⟨l,rfl⟩:=hf
  obtain⟨vs,rfl,ai⟩:=hv
  exact ai
 ·have aM:eb v=[v]:=by cases v<;>first | rfl | exact absurd ⟨_,rfl⟩ hf
  rw[ma fun l e=>hf ⟨l,e⟩] at hv
  rw[aM] at hs ⊢
  have h1:u.oneCell'=true:=hv.zl (by simpa using hs)
  have h2:u.cells= #[u]:=by cases u<;>first | rfl | cases h1
  rw[h2]
  exact aK.cons hv aK.nil
theorem Mp {P:Program} {t:TypeId} {w:World} {bl o:Nat} {aw:Array Value} {ty:TypeId} {u:Value} (hi:(P.info? t).isSome=true) (aJ:u.cells.size=P.cellsOf t)
  (hw:w.heap[bl]?=some (.cells aw ty (0,0))) (aD:o+u.cells.size≤aw.size) (h1: ∀x∈u.cells.toList,x.oneCell'=true):
  (Instr.storeAt t (.pointer (some ⟨bl,o,none⟩)) u).run P w= .ok () (w.setRow bl (aw.toList.take o++u.cells.toList++aw.toList.drop (o+u.cells.toList.length)).toArray):=by
 have:=run_storeCells_at (P:=P) bl o ty u.cells.toList 0 aw w hw (by simpa using aD) h1
 simp only[Nat.add_zero] at this
 simp[Instr.storeAt,Instr.sureAddr,storeVar,run_sizeOf hi,aJ,this]
theorem uo {α:Type} {l m:List α} {c:Nat} (hc:c+m.length≤l.length) (j:Nat):
  (l.take c++m++l.drop (c+m.length))[j]?=if j<c then l[j]? else if j<c+m.length then m[j - c]? else l[j]?:=by
 by_cases h1:j<c
 ·rw[if_pos h1,List.append_assoc,List.getElem?_append_left (by simp;omega),List.getElem?_take,if_pos h1]
 ·rw[if_neg h1]
  by_cases h2:j<c+m.length
  ·rw[if_pos h2,List.getElem?_append_left (by simp;omega),List.getElem?_append_right (by simp;omega)]
   congr 1;simp;omega
  ·rw[if_neg h2,List.getElem?_append_right (by simp;omega),List.getElem?_drop]
   congr 1;simp;omega
theorem aK.ft {α β:Type} {R:α→β→Prop} {l m:List α} {eB ej:List β} (h:aK R l eB) (k:aK R m ej) {c:Nat} (hc:c+m.length≤l.length):
  aK R (l.take c++m++l.drop (c+m.length)) (eB.take c++ej++eB.drop (c+ej.length)):=by
 have h1:=h.1
 have c7:=k.1
 refine⟨by simp;omega,fun i a b aC hb=> ?_⟩
 rw[uo hc] at aC
 rw[uo (by omega)] at hb
 rw[←c7] at hb
 split at aC
 ·rename_i hi;rw[if_pos hi] at hb;exact h.2 i a b aC hb
 ·rename_i hi;rw[if_neg hi] at hb
  split at aC
  ·rename_i ar;rw[if_pos ar] at hb;exact k.2 _ a b aC hb
  ·rename_i ar;rw[if_neg ar] at hb;exact h.2 i a b aC hb
theorem vg (L:List (Nat×List AV)) (t s:Nat) (d:List AV):dt (jj L t d) s=if s=t then(dt L t).map (fun _=>d) else dt L s:=by
 induction L with
 | nil=>simp[jj,dt]
 | cons x L bx=>
  obtain⟨k,c⟩:=x
  by_cases h1:t=k
  ·subst h1
   by_cases h2:s=t
   ·simp[jj,dt,h2]
   ·simp[jj,dt,h2]
  ·by_cases h2:s=k
   ·subst h2
    have: ¬s=t:=fun e=>h1 e.symm
    simp[jj,dt,h1,this]
   ·simp only[jj,if_neg h1,dt,if_neg h2,bx]
theorem aaD {P:Program} {t:TypeId} {x v:AV} {L:List (Nat×List AV)} {H:List Blk} {K:List (Nat×List AV)→List Blk→Prop} {E:Env} {gY kn:Value}
  (ax:SimH E H) (bH:SimL E L) (hx:V3 E x gY) (hv:V2 E v kn) (h:jX P t x v L H K):
  ∃L' H' E',K L' H'∧(Instr.storeAt t gY kn).run P E.w= .ok () E'.w∧Step E E'∧SimH E' H'∧SimL E' L'∧E'.mL=E.mL:=by
 unfold jX at h
 split at h
 case isFalse=>exact h.elim
 case isTrue hc=>
 obtain⟨hi,aJ,hs⟩:=hc
 have td:=A5 hv hs
 have ap:aK (bQ E.bK) (eb v) kn.cells.toList:=⟨td.1,fun i a b aC hb=>Fe (List.all_eq_true.1 hs a (List.mem_of_getElem? aC)) (td.2 i a b aC hb)⟩
 have h1: ∀y∈kn.cells.toList,y.oneCell'=true:=by
  intro y bd
  obtain⟨i,hi⟩:=List.mem_iff_getElem?.1 bd
  have yA:i<(eb v).length:=by rw[td.1];exact(List.getElem?_eq_some_iff.1 hi).1
  exact(td.2 i _ y (List.getElem?_eq_getElem yA) hi).zl (List.all_eq_true.1 hs _ (List.getElem_mem yA))
 have bU:kn.cells.size=P.cellsOf t:=by rw[←aJ,td.1];simp
 have hlen:kn.cells.toList.length=(eb v).length:=td.1.symm
 cases x with
 | et s c=>
  obtain⟨bl,hm,rfl⟩:=hx.wa
  obtain⟨cells,aw,ty,aL,hw,ai⟩:=bH s bl hm
  have h':cn (dt L s) fun cells=>if c+(eb v).length≤cells.length then K (jj L s (ft cells c (eb v))) H else False:=h
  rw[aL] at h'
  have B9:if c+(eb v).length≤cells.length then K (jj L s (ft cells c (eb v))) H else False:=h'
  split at B9
  case isFalse=>exact B9.elim
  case isTrue hle=>
  have Sq:cells.length=aw.size:=by rw[ai.1];simp
  have eP:=Mp (P:=P) (t:=t) (o:=c) hi bU hw (by rw[←Sq];have:kn.cells.size=(eb v).length:=by rw[←hlen];simp
                                                omega) h1
  have eA:=Step.setRow ax (.inr ⟨s,hm⟩) (aw.toList.take c++kn.cells.toList++aw.toList.drop (c+kn.cells.toList.length)).toArray
  have cd: ∀b b_,E.m b=some (some b_)→b_≠bl:=fun b b_ hb e=>by subst e;exact ax.fz b s b_ hb hm
  refine⟨_,_,_,B9,eP,eA,?_,?_,rfl⟩
  ·exact{ax with
    eK:=fun b_ jd=>(ax.eK b_ jd).same (eA.le.wf b_ jd)
    heap:=fun b b_ hb=>by
     obtain⟨blk,bM,gA,q1,b8,q2,q3,q4,cD,cu⟩:=ax.heap b b_ hb
     refine⟨blk,bM,gA,q1,b8,?_,q3,q4,cD,fun i j row a aq ar=> ?_⟩
     ·show(E.w.setRow bl _).heap[b_]?=_
      rw[setRow_other _ _ _ _ (cd b b_ hb)];exact q2
     ·obtain⟨u,hu,dT⟩:=cu i j row a aq ar
      exact⟨u,hu,dT.le eA.le.bK⟩
    db:=fun b_ hc=>by rw[show(E.w.setRow bl _).heap.size=_ from setRow_size _ _ _];exact ax.db b_ hc
    eQ:=fun b_ hc=>by rw[show(E.w.setRow bl _).heap.size=_ from setRow_size _ _ _];exact ax.eQ b_ hc
    fq:=fun b_ hc=>by rw[show(E.w.setRow bl _).heap.size=_ from setRow_size _ _ _];exact ax.fq b_ hc}
  ·intro gz b_ k3
   by_cases he:gz=s
   ·subst he
    obtain rfl:b_=bl:=by
     have:E.mL gz=some b_:=k3
     rw[hm] at this;exact(Option.some.inj this).symm
    refine⟨ft cells c (eb v),_,ty,?_,setRow_heap _ _ _ _ _ _ hw,?_⟩
    ·rw[vg,if_pos rfl,aL];rfl
    ·have:=aK.ft (ai.mono fun _ _ k=>k.le eA.le.bK) (ap.mono fun _ _ k=>k.le eA.le.bK) hle
     simpa[ft] using this
   ·obtain⟨fF,bM,gA,q1,q2,q3⟩:=bH gz b_ k3
    have CB:b_≠bl:=fun e=>by subst e;exact he (ax.hS gz s b_ k3 hm)
    refine⟨fF,bM,gA,by rw[vg,if_neg he];exact q1,?_,q3.mono fun _ _ k=>k.le eA.le.bK⟩
    show(E.w.setRow bl _).heap[b_]?=_
    rw[setRow_other _ _ _ _ CB];exact q2
 | ptr b g r c=>
  obtain⟨blk,hb,aL,h2⟩:=eu (show cn H[b]? fun blk=>blk.bc=g∧cn blk.rows[r]? fun row=>c+(eb v).length≤row.length∧K L (H.set b {blk with rows:=blk.rows.set r (ft row c (eb v))}) from h)
  obtain⟨row,eg,hle,hK⟩:=eu h2
  have im:=ax.dX b blk hb
  obtain⟨bl,hm,rfl⟩:=hx.zu (im.trans aL)
  obtain⟨blk',aw,ty,dS,kw,hw,il,lK,fb⟩:=ax.heap b bl hm
  obtain rfl:blk=blk':=by rw[hb] at dS;exact Option.some.inj dS
  have oe:row.length=E.sz b:=fb.1 r row eg
  have abM:r<blk.rows.length:=(List.getElem?_eq_some_iff.1 eg).1
  have Sj:r*E.sz b+E.sz b≤aw.size:=by
   rw[il];calc r*E.sz b+E.sz b=(r+1)*E.sz b:=by rw[Nat.add_mul,Nat.one_mul]
    _≤E.cp b*E.sz b:=Nat.mul_le_mul_right _ (by omega)
  have nc:kn.cells.size=(eb v).length:=by rw[←hlen];simp
  have eP:=Mp (P:=P) (t:=t) (o:=r*E.sz b+c) hi bU hw (by omega) h1
  have eA:=Step.setRow ax (.inl ⟨b,hm⟩) (aw.toList.take (r*E.sz b+c)++kn.cells.toList++aw.toList.drop (r*E.sz b+c+kn.cells.toList.length)).toArray
  have n9:b<H.length:=(List.getElem?_eq_some_iff.1 hb).1
  refine⟨_,_,_,hK,eP,eA,?_,?_,rfl⟩
  ·exact{ax with
    eK:=fun b_ jd=>(ax.eK b_ jd).same (eA.le.wf b_ jd)
    heap:=fun bV b_ jQ=>by
     by_cases he:bV=b
     ·subst he
      obtain rfl:b_=bl:=by
       have:E.m bV=some (some b_):=jQ
       rw[hm] at this;exact(Option.some.inj (Option.some.inj this)).symm
      refine⟨{blk with rows:=blk.rows.set r (ft row c (eb v))},_,ty,by rw[List.getElem?_set_self n9],kw,setRow_heap _ _ _ _ _ _ hw,?_,by simpa using lK,?_,?_⟩
      ·simp;omega
      ·intro i row' dT
       rw[List.getElem?_set] at dT
       split at dT
       ·rename_i Ct
        cases dT
        simp[ft];omega
       ·exact fb.1 i row' dT
      ·intro i j row' a dT aC
       have j7: ∀k,(aw.toList.take (r*E.sz bV+c)++kn.cells.toList++aw.toList.drop (r*E.sz bV+c+kn.cells.toList.length)).toArray[k]?=if k<r*E.sz bV+c then aw.toList[k]? else if k<r*E.sz bV+c+kn.cells.toList.length then kn.cells.toList[k - (r*E.sz bV+c)]? else aw.toList[k]?:=by
        intro k
        rw[List.getElem?_toArray,uo (by simp;omega)]
       rw[List.getElem?_set] at dT
       split at dT
       ·rename_i Ct
        cases dT
        subst Ct
        have tr:=uo hle j
        unfold ft at aC
        rw[tr] at aC
        split at aC
        ·rename_i ar
         obtain⟨u,hu,fJ⟩:=fb.2 r j row a eg aC
         refine⟨u,?_,fJ.le eA.le.bK⟩
         show(List.toArray _)[r*E.sz bV+j]?=_
         rw[j7,if_pos (by omega)];simpa using hu
        ·rename_i ar
         split at aC
         ·rename_i vD
          obtain⟨u,hu,fJ⟩:=ap.get aC
          refine⟨u,?_,fJ.le eA.le.bK⟩
          show(List.toArray _)[r*E.sz bV+j]?=_
          rw[j7,if_neg (by omega),if_pos (by omega),show r*E.sz bV+j - (r*E.sz bV+c)=j - c by omega];exact hu
         ·rename_i vD
          obtain⟨u,hu,fJ⟩:=fb.2 r j row a eg aC
          refine⟨u,?_,fJ.le eA.le.bK⟩
          show(List.toArray _)[r*E.sz bV+j]?=_
          rw[j7,if_neg (by omega),if_neg (by omega)];simpa using hu
       ·rename_i Ct
        have j8:j<E.sz bV:=by rw[←fb.1 i row' dT];exact(List.getElem?_eq_some_iff.1 aC).1
        obtain⟨u,hu,fJ⟩:=fb.2 i j row' a dT aC
        refine⟨u,?_,fJ.le eA.le.bK⟩
        show(List.toArray _)[i*E.sz bV+j]?=_
        rw[j7]
        rcases Nat.lt_or_ge i r with aS | e3
        ·have:i*E.sz bV+E.sz bV≤r*E.sz bV:=by
          calc i*E.sz bV+E.sz bV=(i+1)*E.sz bV:=by rw[Nat.add_mul,Nat.one_mul]
           _≤r*E.sz bV:=Nat.mul_le_mul_right _ (by omega)
         rw[if_pos (by omega)];simpa using hu
        ·have:r*E.sz bV+E.sz bV≤i*E.sz bV:=by
          calc r*E.sz bV+E.sz bV=(r+1)*E.sz bV:=by rw[Nat.add_mul,Nat.one_mul]
           _≤i*E.sz bV:=Nat.mul_le_mul_right _ (by omega)
         rw[if_neg (by omega),if_neg (by omega)];simpa using hu
     ·obtain⟨u1,u5,ty2,q1,b8,q2,q3,q4,cD,cu⟩:=ax.heap bV b_ jQ
      have cd:b_≠bl:=fun e=>by subst e;exact he (ax.gu bV b b_ jQ hm)
      refine⟨u1,u5,ty2,by rw[List.getElem?_set_ne (fun e=>he e.symm)];exact q1,b8,?_,q3,q4,cD,fun i j row a aq ar=> ?_⟩
      ·show(E.w.setRow bl _).heap[b_]?=_
       rw[setRow_other _ _ _ _ cd];exact q2
      ·obtain⟨u,hu,dT⟩:=cu i j row a aq ar
       exact⟨u,hu,dT.le eA.le.bK⟩
    dX:=fun bV u1 jQ=>by
     by_cases he:b=bV
     ·subst he
      rw[List.getElem?_set_self n9] at jQ
      cases jQ
      exact ax.dX b blk hb
     ·rw[List.getElem?_set_ne he] at jQ
      exact ax.dX bV u1 jQ
    fX:=fun bV jQ=>by
     obtain⟨u1,q,hV⟩:=ax.fX bV jQ
     by_cases he:b=bV
     ·subst he
      rw[hm] at jQ;cases jQ
     ·exact⟨u1,by rw[List.getElem?_set_ne he];exact q,hV⟩
    fresh:=fun bV jQ=>ax.fresh bV (by simpa using jQ)
    db:=fun b_ hc=>by rw[show(E.w.setRow bl _).heap.size=_ from setRow_size _ _ _];exact ax.db b_ hc
    eQ:=fun b_ hc=>by rw[show(E.w.setRow bl _).heap.size=_ from setRow_size _ _ _];exact ax.eQ b_ hc
    fq:=fun b_ hc=>by rw[show(E.w.setRow bl _).heap.size=_ from setRow_size _ _ _];exact ax.fq b_ hc}
  ·intro gz b_ k3
   obtain⟨fF,bM,gA,q1,q2,q3⟩:=bH gz b_ k3
   have CB:b_≠bl:=fun e=>by subst e;exact ax.fz b gz b_ hm k3
   refine⟨fF,bM,gA,q1,?_,q3.mono fun _ _ k=>k.le eA.le.bK⟩
   show(E.w.setRow bl _).heap[b_]?=_
   rw[setRow_other _ _ _ _ CB];exact q2
 | _=>exact h.elim
structure jD (E E':Env):Prop where
 step:Step E E'
 m:E'.m=E.m
 mL:E'.mL=E.mL
 bc:E'.bc=E.bc
 sz:E'.sz=E.sz
 cp:E'.cp=E.cp
 dj: ∀c,c<E.w.heap.size→E'.w.heap[c]?=E.w.heap[c]?
 eJ: ∀c,E'.PA c→E.PA c∨(E.w.heap.size≤c∧c<E'.w.heap.size)
 c4: ∀c,E'.PF c→E'.PA c
 eK: ∀c,E'.PF c→Plain E'.w c
theorem jD.refl {E:Env} {H:List Blk} (h:SimH E H):jD E E:=⟨.refl E,rfl,rfl,rfl,rfl,rfl,fun _ _=>rfl,fun _ h=> .inl h,h.c4,h.eK⟩
theorem jD.simH {E E':Env} {H:List Blk} (q:jD E E') (h:SimH E H):SimH E' H where
 heap:=fun b c hb=>by
  rw[q.m] at hb
  obtain⟨blk,aw,ty,q1,b8,q2,q3,q4,cD,cu⟩:=h.heap b c hb
  refine⟨blk,aw,ty,q1,by rw[q.sz];exact b8,?_,by rw[q.cp,q.sz];exact q3,by rw[q.cp];exact q4,by rw[q.sz];exact cD,fun i j row a aq ar=> ?_⟩
  ·rw[q.dj c (h.eQ c ⟨b,hb⟩)];exact q2
  ·obtain⟨u,hu,dT⟩:=cu i j row a aq ar
   exact⟨u,by rw[q.sz];exact hu,dT.le q.step.le.bK⟩
 dX:=by rw[q.bc];exact h.dX
 fX:=by rw[q.m,q.sz];exact h.fX
 fresh:=by rw[q.m,q.bc];exact h.fresh
 gu:=by rw[q.m];exact h.gu
 hS:=by rw[q.mL];exact h.hS
 fz:=by rw[q.m,q.mL];exact h.fz
 gw:=fun c hc ⟨b,hb⟩=>by
  rw[q.m] at hb
  rcases q.eJ c hc with hc | ⟨hc,_⟩
  ·exact h.gw c hc ⟨b,hb⟩
  ·have:=h.eQ c ⟨b,hb⟩;omega
 gM:=fun c hc ⟨b,hb⟩=>by
  rw[q.mL] at hb
  rcases q.eJ c hc with hc | ⟨hc,_⟩
  ·exact h.gM c hc ⟨b,hb⟩
  ·have:=h.fq c ⟨b,hb⟩;omega
 c4:=q.c4
 eK:=q.eK
 db:=fun c hc=>by
  rcases q.eJ c hc with hc | ⟨_,hc⟩
  ·exact Nat.lt_of_lt_of_le (h.db c hc) q.step.size
  ·exact hc
 eQ:=fun c ⟨b,hb⟩=>by rw[q.m] at hb;exact Nat.lt_of_lt_of_le (h.eQ c ⟨b,hb⟩) q.step.size
 fq:=fun c ⟨b,hb⟩=>by rw[q.mL] at hb;exact Nat.lt_of_lt_of_le (h.fq c ⟨b,hb⟩) q.step.size
theorem jD.simL {E E':Env} {H:List Blk} {L:List (Nat×List AV)} (q:jD E E') (h:SimH E H) (l:SimL E L):SimL E' L:=fun t c hm=>by
 rw[q.mL] at hm
 obtain⟨cells,aw,ty,q1,q2,q3⟩:=l t c hm
 exact⟨cells,aw,ty,q1,by rw[q.dj c (h.fq c ⟨t,hm⟩)];exact q2,q3.mono fun _ _ k=>k.le q.step.le.bK⟩
def xI (op:BinOp) (k:IntKind) (a b:Int) (K:AV→Prop):Prop:=match op with
 | .add=>K (.int k (k.wrap (a+b)))
 | .sub=>K (.int k (k.wrap (a - b)))
 | .mul=>K (.int k (k.wrap (a*b)))
 | .quo=>b≠0∧K (.int k (k.wrap (a.tdiv b)))
 | .rem=>b≠0∧K (.int k (a.tmod b))
 | .and=>K (.int k (k.wrap (BitVec.ofInt k.bits a&&&BitVec.ofInt k.bits b).toNat))
 | .eql=>K (.bool (a==b))
 | .neq=>K (.bool (a !=b))
 | .lss=>K (.bool (decide (a<b)))
 | .leq=>K (.bool (decide (a≤b)))
 | .gtr=>K (.bool (decide (a>b)))
 | .geq=>K (.bool (decide (a ≥ b)))
 | _=>False
def two (P:Program) (t:TypeId):Bool:=
 match P.underlying t with
 | some (.struct ds)=> !P.stoodInHeld t&& !P.eqGuardType P.depth t&&(match ds.toList with
  | [f,g]=>f.name != "_" &&g.name != "_" &&f.offset==0&&g.offset==1&&(P.underlying f.type matches some (.int .i64))&&(P.underlying g.type matches some (.int .i64))
  | _=>false)
 | _=>false
def xJ (op:BinOp) (k:IntKind) (a:Int) (iR:IntKind) (b:Int) (K:AV→Prop):Prop:=match op with
 | .shl=>0≤b∧K (.int k (k.wrap (a*2 ^ (min b.toNat k.bits))))
 | .shr=>0≤b∧K (.int k (a.fdiv (2 ^ (min b.toNat k.bits))))
 | op=>if k=iR then xI op k a b K else False
def Jv (P:Program) (t:TypeId):Bool:=match P.underlying t with
 | some .bool=>true
 | _=>false
def AR (P:Program) (op:BinOp) (t:TypeId) (a b:Bool) (K:AV→Prop):Prop:=if Jv P t=true then(match op with
  | .eql=>K (.bool (a==b))
  | .neq=>K (.bool (a !=b))
  | _=>False) else False
def AT (op:BinOp) (a b:ByteArray) (K:AV→Prop):Prop:=match op with
  | .add=>a.size+b.size≤9223372036854775807∧K (.str (a++b))
  | .eql=>K (.bool (a.toList==b.toList))
  | .neq=>K (.bool (!(a.toList==b.toList)))
  | _=>False
def AU (op:BinOp) (a b c d:Int) (K:AV→Prop):Prop:=match op with
  | .eql=>K (.bool (a==c&&b==d))
  | .neq=>K (.bool (!(a==c&&b==d)))
  | _=>False
def ux:List AV→Option (Int×Int)
 | [.int .i64 a,.int .i64 b]=>some (a,b)
 | _=>none
def ht (P:Program) (t:TypeId):Option TypeId:=match P.underlying t with
 | some (.slice e)=>some e
 | _=>none
def ol:Operand→Bool
 | .const (.slice none 0 0)=>true
 | _=>false
def AS (P:Program) (op:BinOp) (t:TypeId) (rows:List (List AV)) (pz:Bool) (K:AV→Prop):Prop:=
 if pz=true∧(ht P t).isSome=true then(match op with
  | .eql=>(rows≠[]→K (.bool false))∧(rows=[]→ ∀b,K (.bool b))
  | _=>False) else False
def pH (P:Program) (op:BinOp) (t:TypeId) (x y:AV) (pz:Bool) (K:AV→Prop):Prop:=match x with
 | .int k a=>(match y with
  | .int iR b=>xJ op k a iR b K
  | _=>False)
 | .bool a=>(match y with
  | .bool b=>AR P op t a b K
  | _=>False)
 | .str a=>(match y with
  | .str b=>AT op a b K
  | _=>False)
 | .agg l=>(match y with
  | .agg m=>if two P t=true then cn (ux l) fun p=>cn (ux m) fun q=>AU op p.1 p.2 q.1 q.2 K else False
  | _=>False)
 | .aR rows _ _=>AS P op t rows pz K
 | _=>False
theorem BD {op:BinOp} {t:TypeId} {x y:Operand} {k iR:IntKind} {a b:Int} {P:Program} {w:World}:(eqGuard op t x y (.int k a) (.int iR b)).run P w= .ok () w:=by
 unfold eqGuard;cases op<;>rfl
theorem GW {op:BinOp} {t:TypeId} {x y:Operand} {a b:Bool} {P:Program} {w:World}:(eqGuard op t x y (.bool a) (.bool b)).run P w= .ok () w:=by
 unfold eqGuard;cases op<;>rfl
theorem BE {op:BinOp} {t:TypeId} {x y:Operand} {a b:ByteArray} {P:Program} {w:World}:(eqGuard op t x y (.string a) (.string b)).run P w= .ok () w:=by
 unfold eqGuard;cases op<;>rfl
theorem Qy {op:BinOp} {t:TypeId} {x y:Operand} {A B:Option Addr} {n m c d:Nat} {P:Program} {w:World}:(eqGuard op t x y (.slice A n c) (.slice B m d)).run P w= .ok () w:=by
 unfold eqGuard;cases op<;>rfl
theorem GV {op:BinOp} {t:TypeId} {x y:Operand} {A B:Array Value} {P:Program} {w:World} (h:P.eqGuardType P.depth t=false):(eqGuard op t x y (.agg A) (.agg B)).run P w= .ok () w:=by
 unfold eqGuard;cases op<;>first | rfl | simp[h]
theorem YF {P:Program} {w:World} {op:BinOp} {t:TypeId} {k:IntKind} {a b:Int} {K:AV→Prop} (h:xI op k a b K):
  ∃r u,K r∧(binOp op t (.int k a) (.int k b)).run P w= .ok u w∧ ∀E:Env,V3 E r u:=by
 cases op<;>simp only[xI] at h
 case add=>exact⟨_,_,h,by simp[binOp,Op.intArith],fun E=>aQ.int _ _⟩
 case sub=>exact⟨_,_,h,by simp[binOp,Op.intArith],fun E=>aQ.int _ _⟩
 case mul=>exact⟨_,_,h,by simp[binOp,Op.intArith],fun E=>aQ.int _ _⟩
 case quo=>exact⟨_,_,h.2,by simp[binOp,Op.intDiv,h.1],fun E=>aQ.int _ _⟩
 case rem=>exact⟨_,_,h.2,by simp[binOp,Op.intDiv,h.1],fun E=>aQ.int _ _⟩
 case and=>exact⟨_,_,h,by simp[binOp,Op.intBits],fun E=>aQ.int _ _⟩
 case eql=>exact⟨_,_,h,by simp[binOp,Op.intCmp],fun E=>aQ.bool _⟩
 case neq=>exact⟨_,_,h,by simp[binOp,Op.intCmp],fun E=>aQ.bool _⟩
 case lss=>exact⟨_,_,h,by simp[binOp,Op.intCmp],fun E=>aQ.bool _⟩
 case leq=>exact⟨_,_,h,by simp[binOp,Op.intCmp],fun E=>aQ.bool _⟩
 case gtr=>exact⟨_,_,h,by simp[binOp,Op.intCmp],fun E=>aQ.bool _⟩
 case geq=>exact⟨_,_,h,by simp[binOp,Op.intCmp],fun E=>aQ.bool _⟩
theorem N1 {P:Program} {t:TypeId} (h:two P t=true): ∃f g:Field,P.underlying t=some (.struct (P.fieldsOf t))∧(P.fieldsOf t).toList=[f,g]∧P.stoodInHeld t=false∧P.eqGuardType P.depth t=false∧
  f.name≠ "_" ∧g.name≠ "_" ∧f.offset=0∧g.offset=1∧P.underlying f.type=some (.int .i64)∧P.underlying g.type=some (.int .i64):=by
 unfold two at h
 split at h
 ·rename_i ds lM
  have hf:P.fieldsOf t=ds:=by simp[Program.fieldsOf,lM]
  simp only[Bool.and_eq_true,Bool.not_eq_true'] at h
  obtain⟨⟨h1,h2⟩,aH⟩:=h
  split at aH
  ·rename_i f g aE
   simp only[Bool.and_eq_true,bne_iff_ne,ne_eq,beq_iff_eq] at aH
   obtain⟨⟨⟨⟨⟨q1,q2⟩,q3⟩,q4⟩,cD⟩,cu⟩:=aH
   refine⟨f,g,by rw[hf];exact lM,by rw[hf];exact aE,h1,h2,q1,q2,q3,q4,?_,?_⟩
   ·split at cD
    ·assumption
    ·cases cD
   ·split at cu
    ·assumption
    ·cases cu
  ·cases aH
 ·cases h
theorem Mq {P:Program} {t:TypeId} (h:two P t=true) (a b c d:Int) (w:World):
  (Op.equal t (.agg #[.int .i64 a,.int .i64 b]) (.agg #[.int .i64 c,.int .i64 d])).run P w= .ok (a==c&&b==d) w:=by
 obtain⟨f,g,h1,h2,aH,bn,cX,eG,kt,oW,q_,vi⟩:=N1 h
 show(Op.equalIn (9999+1) t _ _).run P w=_
 rw[run_equalIn_struct w 9999 t _ _ h1 aH,h2]
 have eD: ∀(gm:TypeId) (aw:Array Value) (o:Nat) (u:Value),P.underlying gm=some (.int .i64)→aw[o]?=some u→(part gm aw o).run P w= .ok u w:=by
  intro gm aw o u hu hc
  simp[part,Go.isAgg,run_underlying hu,hc]
 simp only[Op.eqFields,if_pos cX,if_pos eG,kt,oW,Sem.run_bind]
 rw[eD f.type #[.int .i64 a,.int .i64 b] 0 (.int .i64 a) q_ rfl]
 simp only[Result.andThen_ok]
 rw[eD f.type #[.int .i64 c,.int .i64 d] 0 (.int .i64 c) q_ rfl]
 simp only[Result.andThen_ok]
 rw[show(9999:Nat)=9998+1 from rfl,run_equalIn_int w 9998 f.type .i64 .i64 a c q_]
 simp only[Result.andThen_ok]
 cases abA:(a==c)
 ·simp
 ·simp only[Bool.not_true,Bool.false_eq_true,if_false,Sem.run_bind]
  rw[eD g.type #[.int .i64 a,.int .i64 b] 1 (.int .i64 b) vi rfl]
  simp only[Result.andThen_ok]
  rw[eD g.type #[.int .i64 c,.int .i64 d] 1 (.int .i64 d) vi rfl]
  simp only[Result.andThen_ok]
  rw[run_equalIn_int w 9998 g.type .i64 .i64 b d vi]
  cases abC:(b==d)<;>simp
theorem V3.N0 {E:Env} {a b:Int} {v:Value} (h:V3 E (.agg [.int .i64 a,.int .i64 b]) v):v= .agg #[.int .i64 a,.int .i64 b]:=by
 obtain⟨vs,rfl,ai⟩:=(h:V2 E (.agg [.int .i64 a,.int .i64 b]) v)
 obtain⟨x,vs,rfl,hx,ai⟩:=ai.cons_inv
 obtain⟨y,vs,rfl,bd,ai⟩:=ai.cons_inv
 obtain rfl:=ai.mv
 have gU:aQ E.w E.PA E.PF (.int .i64 a) x:=hx
 have Ts:aQ E.w E.PA E.PF (.int .i64 b) y:=bd
 cases gU;cases Ts;rfl
theorem NZ {l:List AV} {p:Int×Int} (h:ux l=some p):l=[.int .i64 p.1,.int .i64 p.2]:=by
 unfold ux at h
 split at h
 ·cases h;rfl
 ·cases h
theorem pL {P:Program} {t e:TypeId} (h:ht P t=some e):P.underlying t=some (.slice e):=by
 unfold ht at h
 split at h
 ·cases h;assumption
 ·cases h
theorem Pb {P:Program} {op:BinOp} {t:TypeId} {X Y:Operand} {kQ jA:AV} {gY Ak:Value} {E:Env} {K:AV→Prop}
  {pz:Bool} (hx:V3 E kQ gY) (bd:V3 E jA Ak) (CT:pz=true→Ak= .slice none 0 0) (h:pH P op t kQ jA pz K):
  ∃r u,K r∧(do eqGuard op t X Y gY Ak;binOp op t gY Ak:Sem Value).run P E.w= .ok u E.w∧V3 E r u:=by
 cases kQ with
 | int k a=>
  cases jA with
  | int iR b=>
   replace h:xJ op k a iR b K:=h
   obtain rfl:=hx.nl
   obtain rfl:=bd.nl
   cases op
   case shl=>
    obtain⟨hb,h⟩:=h
    have dS: ¬b<0:=by omega
    exact⟨_,_,h,by simp[BD,binOp,Op.shift,dS],aQ.int _ _⟩
   case shr=>
    obtain⟨hb,h⟩:=h
    have dS: ¬b<0:=by omega
    exact⟨_,_,h,by simp[BD,binOp,Op.shift,dS],aQ.int _ _⟩
   all_goals
    simp only[xJ] at h
    split at h
    ·rename_i hk
     subst hk
     obtain⟨r,u,hK,aq,hv⟩:=YF (P:=P) (w:=E.w) (t:=t) h
     exact⟨r,u,hK,by simp only[Sem.run_bind,BD,Result.andThen_ok,aq],hv E⟩
    ·exact h.elim
  | _=>exact h.elim
 | bool a=>
  cases jA with
  | bool b=>
   replace h:AR P op t a b K:=h
   obtain rfl:=hx.mS
   obtain rfl:=bd.mS
   unfold AR at h
   split at h
   ·rename_i hu
    have k5:P.underlying t=some .bool:=by
     unfold Jv at hu
     split at hu
     ·assumption
     ·cases hu
    cases op<;>first | exact h.elim | skip
    case eql=>exact⟨_,_,h,by simp only[Sem.run_bind,GW,Result.andThen_ok,binOp,Op.equal];rw[show Op.maxDepth=9999+1 from rfl,run_equalIn_bool' E.w 9999 t a b k5];rfl,aQ.bool _⟩
    case neq=>exact⟨_,_,h,by simp only[Sem.run_bind,GW,Result.andThen_ok,binOp,Op.equal];rw[show Op.maxDepth=9999+1 from rfl,run_equalIn_bool' E.w 9999 t a b k5];rfl,aQ.bool _⟩
   ·exact h.elim
  | _=>exact h.elim
 | str a=>
  cases jA with
  | str b=>
   replace h:AT op a b K:=h
   obtain rfl:=hx.uq
   obtain rfl:=bd.uq
   cases op<;>first | exact h.elim | skip
   case add=>
    obtain⟨aE,h⟩:=h
    have: ¬((a.size+b.size:Nat):Int)>IntKind.i64.max:=by
     have:IntKind.i64.max=9223372036854775807:=by decide
     rw[this];omega
    exact⟨_,_,h,by simp only[Sem.run_bind,BE,Result.andThen_ok,binOp,Op.stringOp];rw[if_neg this];rfl,aQ.str _⟩
   case eql=>exact⟨_,_,h,by simp only[Sem.run_bind,BE,Result.andThen_ok,binOp,Op.stringOp];rfl,aQ.bool _⟩
   case neq=>exact⟨_,_,h,by simp only[Sem.run_bind,BE,Result.andThen_ok,binOp,Op.stringOp];rfl,aQ.bool _⟩
  | _=>exact h.elim
 | agg l=>
  cases jA with
  | agg m=>
   replace h:if two P t=true then cn (ux l) fun p=>cn (ux m) fun q=>AU op p.1 p.2 q.1 q.2 K else False:=h
   split at h
   ·rename_i bj
    obtain⟨⟨a,b⟩,ai,h⟩:=eu h
    obtain⟨⟨c,d⟩,af,h⟩:=eu h
    obtain rfl:=NZ ai
    obtain rfl:=NZ af
    obtain rfl:=hx.N0
    obtain rfl:=bd.N0
    obtain⟨f,g,h1,h2,aH,bn,_⟩:=N1 bj
    cases op<;>first | exact h.elim | skip
    case eql=>exact⟨_,_,h,by simp only[Sem.run_bind,GV bn,Result.andThen_ok,binOp,Mq bj];rfl,aQ.bool _⟩
    case neq=>exact⟨_,_,h,by simp only[Sem.run_bind,GV bn,Result.andThen_ok,binOp,Mq bj];rfl,aQ.bool _⟩
   ·exact h.elim
  | _=>exact h.elim
 | aR rows cW fr=>
  replace h:AS P op t rows pz K:=h
  unfold AS at h
  split at h
  ·rename_i hc
   obtain⟨ap,he⟩:=hc
   obtain⟨e,he⟩:=Option.isSome_iff_exists.1 he
   have hu:=pL he
   obtain rfl:=CT ap
   have gU:aQ E.w E.PA E.PF (.aR rows cW fr) gY:=hx
   cases gU with
   | @aR _ _ _ _ _ _ A cap sz vs dY ec eN bU dd hrel=>
   have eP:(do eqGuard op t X Y (.slice A rows.length cap) (.slice none 0 0);binOp .eql t (.slice A rows.length cap) (.slice none 0 0):Sem Value).run P E.w= .ok (.bool A.isNone) E.w:=by
    simp only[Sem.run_bind,Qy,Result.andThen_ok,binOp,Op.equal]
    rw[show Op.maxDepth=9999+1 from rfl]
    generalize 9999=d
    simp only[Op.equalIn,Sem.run_bind,run_underlying hu,Result.andThen_ok]
    cases A<;>rfl
   cases op<;>first | exact h.elim | skip
   case eql=>
    obtain⟨h1,h2⟩:=h
    by_cases aq:rows=[]
    ·exact⟨_,_,h2 aq A.isNone,eP,aQ.bool _⟩
    ·have:0<rows.length:=by cases rows<;>simp_all
     obtain⟨c,o,rfl,_⟩:=dd this
     exact⟨_,_,h1 aq,eP,aQ.bool _⟩
  ·exact h.elim
 | _=>exact h.elim
theorem Hq (off:Nat): ∀(l:List Value) (k:Nat) (cells:Array Value),off+k+l.length≤cells.size→
  (((l.zipIdx k).foldl (fun aw (x:Value×Nat)=>aw.setIfInBounds (off+x.2) x.1) cells).size=cells.size∧
  ∀i,((l.zipIdx k).foldl (fun aw (x:Value×Nat)=>aw.setIfInBounds (off+x.2) x.1) cells)[i]?=if i<off+k then cells[i]? else if i<off+k+l.length then l[i - (off+k)]? else cells[i]?)
 | [],k,cells,_=>⟨rfl,fun i=>by simp;omega⟩
 | v::l,k,cells,h=>by
  have h':off+(k+1)+l.length≤(cells.setIfInBounds (off+k) v).size:=by simp at h ⊢;omega
  obtain⟨h1,h2⟩:=Hq off l (k+1) (cells.setIfInBounds (off+k) v) h'
  refine⟨by simp only[List.zipIdx_cons,List.foldl_cons];rw[h1];simp,fun i=> ?_⟩
  simp only[List.zipIdx_cons,List.foldl_cons]
  rw[h2 i]
  simp only[Array.getElem?_setIfInBounds,List.length_cons] at*
  by_cases J:i<off+k
  ·rw[if_pos (by omega),if_neg (by omega),if_pos J]
  ·by_cases a2:i=off+k
   ·subst a2
    rw[if_pos (by omega),if_pos rfl,if_pos (by omega),if_neg (by omega),if_pos (by omega)]
    simp
   ·by_cases a3:i<off+(k+1)+l.length
    ·rw[if_neg (by omega),if_pos a3,if_neg J,if_pos (by omega),show i - (off+k)=(i - (off+(k+1)))+1 by omega]
     simp
    ·rw[if_neg (by omega),if_neg a3,if_neg (by omega),if_neg J,if_neg (by omega)]
def mX (pl:Nat→Option (Nat×Nat)) (cells:List AV):List (Nat×AV)→Option (List AV)
 | []=>some cells
 | (i,v)::rest=>match pl i with
  | none=>none
  | some (off,size)=>if(eb v).length=size∧off+(eb v).length≤cells.length∧(eb v).all hX=true then mX pl (ft cells off (eb v)) rest else none
theorem yf {E:Env} {pl:Nat→Option (Nat×Nat)}: ∀{parts:List (Nat×AV)} {iD:List (Nat×Value)} {cells:List AV} {qA:Array Value} {r:List AV},
  aK (fun a b=>a.1=b.1∧V2 E a.2 b.2) parts iD→aK (bQ E.bK) cells qA.toList→mX pl cells parts=some r→ ∃gl,Instr.fill pl qA iD=some gl∧aK (bQ E.bK) r gl.toList
 | [],iD,cells,qA,r,ai,hc,h=>by
  obtain rfl:=ai.mv
  cases h
  exact⟨qA,rfl,hc⟩
 | (i,v)::rest,iD,cells,qA,r,ai,hc,h=>by
  obtain⟨⟨hz,u⟩,ab2,rfl,⟨hi,hv⟩,yN⟩:=ai.cons_inv
  simp only at hi hv
  subst hi
  unfold mX at h
  split at h
  ·cases h
  ·rename_i off size kb
   split at h
   ·rename_i pU
    obtain⟨h1,h2,aH⟩:=pU
    have rk:=A5 hv aH
    have Sp:aK (bQ E.bK) (eb v) u.cells.toList:=⟨rk.1,fun i a b aC hb=>Fe (List.all_eq_true.1 aH a (List.mem_of_getElem? aC)) (rk.2 i a b aC hb)⟩
    have bU:u.cells.size=(eb v).length:=by rw[rk.1];simp
    have lK:cells.length=qA.size:=by rw[hc.1];simp
    obtain⟨f1,f2⟩:=Hq off u.cells.toList 0 qA (by simp;omega)
    simp only[Nat.add_zero] at f1 f2
    have tl:aK (bQ E.bK) (ft cells off (eb v)) ((u.cells.toList.zipIdx).foldl (fun aw (x:Value×Nat)=>aw.setIfInBounds (off+x.2) x.1) qA).toList:=by
     have hs:=aK.ft hc Sp h2
     refine⟨?_,fun k a b aC hb=> ?_⟩
     ·simp only[Array.length_toList];rw[f1];simp[ft];omega
     ·refine hs.2 k a b aC ?_
      rw[uo (by simp;omega)]
      rw[Array.getElem?_toList,f2 k] at hb
      simpa using hb
    obtain⟨gl,aq,hrel⟩:=yf yN tl h
    refine⟨gl,?_,hrel⟩
    unfold Instr.fill
    rw[kb]
    simp only
    rw[if_neg (by simp;omega)]
    rw[←Array.foldl_toList,Array.toList_zipIdx]
    exact aq
   ·cases h
def kT (P:Program) (t:TypeId):Option (List AV):=((P.info? t).bind (·.zero)).map fun z=>z.cells.toList.map mh
theorem Qb (E:Env) (v:Value):bQ E (mh v) v:=by
 unfold mh
 split
 ·exact aQ.int _ _
 ·exact aQ.bool _
 ·exact aQ.str _
 ·exact aQ.aR (PB:=fun _=>False) (sz:=0) (vs:=fun _ _=>undef) (fun _ h=>h.elim) ⟨Nat.le_refl _,Nat.zero_le _⟩ (fun _=>rfl) (fun i row h=>by simp at h) (fun h=>by simp at h) (fun i j row a h=>by simp at h)
 ·exact aQ.eY
 ·exact aQ.fg
 ·exact aQ.undef _
theorem sw {E:Env} {P:Program} {t:TypeId} {z:List AV} (h:kT P t=some z): ∃i v,P.info? t=some i∧i.zero=some v∧z=v.cells.toList.map mh∧aK (bQ E) z v.cells.toList:=by
 unfold kT at h
 cases hi:P.info? t with
 | none=>simp[hi] at h
 | some i=>
  cases aJ:i.zero with
  | none=>simp[hi,aJ] at h
  | some v=>
   simp[hi,aJ] at h
   subst h
   refine⟨i,v,rfl,aJ,rfl,by simp,fun k a b aC hb=> ?_⟩
   rw[List.getElem?_map,hb] at aC
   simp at aC;subst aC;exact Qb E b
def D0 (P:Program) (t:TypeId):Option (List (Nat×Nat)):=match P.underlying t with
 | some (.struct ds)=>ds.toList.mapM (fun f=>(P.info? f.type).map fun i=>(f.offset,i.size))
 | _=>none
def AY (P:Program) (t:TypeId) (parts:List (Nat×AV)) (K:AV→Prop):Prop:=
 cn (kT P t) fun z=>cn (D0 P t) fun pl=>cn (mX (fun i=>pl[i]?) z parts) fun cells=>K (.agg cells)
theorem Pm {P:Program} {E:Env} {t:TypeId} {parts:List (Nat×AV)} {iD:List (Nat×Value)} {K:AV→Prop} (ai:aK (fun a b=>a.1=b.1∧V2 E a.2 b.2) parts iD) (h:AY P t parts K):
  ∃r u,K r∧(Instr.build t iD.toArray).run P E.w= .ok u E.w∧V3 E r u:=by
 obtain⟨z,aJ,h⟩:=eu h
 obtain⟨pl,kb,h⟩:=eu h
 obtain⟨cells,hf,h⟩:=eu h
 obtain⟨i,v,h1,h2,aH,bn⟩:=sw (E:=E.bK) aJ
 obtain⟨gl,aq,hrel⟩:=yf ai bn hf
 refine⟨_,.agg gl,h,run_build E.w t iD.toArray gl ?_,gl.toList,by simp,hrel.mono fun _ _ k=>k.up⟩
 unfold D0 at kb
 split at kb
 ·rename_i ds lM
  unfold Program.built
  rw[h1,lM]
  simp only[h2,kb]
  simpa using aq
 ·cases kb
def hJ:AV→Bool
 | .int _ _ | .bool _ | .str _ | .aR _ _ _ | .eY | .fg=>true
 | _=>false
def lE:AV→Bool
 | .aR _ _ fr=>fr
 | _=>true
def hF:AV→AV
 | .aR rows _ _=> .aR rows false false
 | a=>a
def mC:AV→AV
 | .aR rows full _=> .aR rows full true
 | a=>a
theorem Ys {w:World} {PB PA PF:Nat→Prop} {a:AV} {v:Value} (h:aQ w PB (fun _=>False) a v) (hb: ∀c,PB c→PF c) (CD: ∀c,PF c→PA c):aQ w PA PF (mC a) v:=by
 have key:(∀rows full fr,a≠ .aR rows full fr)→aQ w PA PF (mC a) v:=fun cd=>by
  have e:mC a=a:=by cases a<;>first | rfl | exact absurd rfl (cd _ _ _)
  rw[e]
  exact h.mono (fun _ _=>rfl) (fun _ h=>h.elim) (fun c hc=>CD c (hb c hc)) (fun _ h=>h.elim)
 cases a with
 | aR rows full fr=>
  cases h with
  | aR dY ec eN bU dd hrel=>
   exact .aR (fun c hc=>by
    have:=dY c hc
    rw[if_pos rfl]
    split at this
    ·exact this.elim
    ·exact hb c this) ec eN bU dd hrel
 | _=>exact key (fun _ _ _ e=>by cases e)
theorem Fv {w:World} {PA PF PB:Nat→Prop} {a:AV} {v:Value} (aC:hJ a=true) (h:aQ w PA PF a v) (hb: ∀c,PA c→PB c) (CD: ∀c,PF c→PA c):aQ w PB (fun _=>False) (hF a) v:=by
 cases h with
 | undef=>cases aC
 | int=>exact .int _ _
 | bool=>exact .bool _
 | str=>exact .str _
 | aR dY ec eN bU dd hrel=>
  exact .aR (fun c hc=>by
   have:=dY c hc
   simp only[Bool.false_eq_true,if_false]
   split at this
   ·exact hb c (CD c this)
   ·exact hb c this) ec (fun h=>by cases h) bU dd hrel
 | cM=>cases aC
 | eY=>exact .eY
 | fg=>exact .fg
 | fn=>cases aC
theorem N6 {w:World} {PA PF:Nat→Prop} {a:AV} {v:Value} (aC:hJ a=true) (hf:lE a=true) (h:aQ w PA PF a v):aQ w PF (fun _=>False) (hF a) v:=by
 cases h with
 | undef=>cases aC
 | int=>exact .int _ _
 | bool=>exact .bool _
 | str=>exact .str _
 | @aR _ _ PB rows full fresh A cap sz vs dY ec eN bU dd hrel=>
  have Sz:fresh=true:=hf
  subst Sz
  exact .aR (fun c hc=>by simpa using dY c hc) ec (fun h=>by cases h) bU dd hrel
 | cM=>cases aC
 | eY=>exact .eY
 | fg=>exact .fg
 | fn=>cases aC
def chunk (size n:Nat) (cells:List AV):List (List AV):=(List.range n).map fun i=>(cells.drop (i*size)).take size
def sP (P:Program) (t:TypeId) (n:Nat) (parts:List (Nat×AV)) (K:AV→Prop):Prop:=
 cn (ht P t) fun e=>cn (kT P e) fun z=>if z.length=P.cellsOf e∧n*z.length≤1000000∧n≤1000000 then
  cn (mX (fun i=>some (i*z.length,z.length)) ((List.range (n*z.length)).map fun i=>z.getD (i%z.length) .undef) parts) fun cells=>
   if cells.all hJ=true then K (.aR (chunk z.length n (cells.map hF)) true (cells.all lE)) else False
 else False
theorem xN {E:Env} {a:AV} {v:Value} (aC:hJ a=true) (h:bQ E a v):aQ E.w E.PA E.PF a v:=by
 cases a<;>first | exact h | cases aC
theorem Gw {size n i j:Nat} {cells row:List AV} {a:AV} (aq:(chunk size n cells)[i]?=some row) (ar:row[j]?=some a):i<n∧j<size∧cells[i*size+j]?=some a:=by
 unfold chunk at aq
 rw[List.getElem?_map] at aq
 cases rA:(List.range n)[i]? with
 | none=>simp[rA] at aq
 | some k=>
  have hi:i<n:=by have:=(List.getElem?_eq_some_iff.1 rA).1;simpa using this
  rw[List.getElem?_range hi] at rA
  cases rA
  rw[List.getElem?_range hi] at aq
  simp at aq
  subst aq
  rw[List.getElem?_take] at ar
  split at ar
  ·rw[List.getElem?_drop] at ar
   exact⟨hi,by assumption,ar⟩
  ·cases ar
theorem oN (w:World) (o:Obj) (c:Nat) (h:c<w.heap.size):(w.alloc o).heap[c]?=w.heap[c]?:=Go.RowKit.Below.heap_alloc w o c h
theorem sI (w:World) (o:Obj):(w.alloc o).heap[w.heap.size]?=some o:=by
 show(w.heap.push o)[w.heap.size]?=_
 simp
theorem jD.alloc {E:Env} {H:List Blk} (ax:SimH E H) {o:Obj} (aD: ∃aw ty,o= .cells aw ty (0,0)):
  jD E {E with w:=E.w.alloc o,PA:=fun c=>E.PA c∨c=E.w.heap.size,PF:=fun c=>E.PF c∨c=E.w.heap.size} where
 step:=⟨⟨fun _ h=> .inl h,fun _ h=> .inl h,fun c hc=>oN _ _ _ (ax.db c hc),fun c hc=>oN _ _ _ (ax.db c (ax.c4 c hc)),fun _=>Nat.le_refl _,fun _ _ h _=>⟨h,rfl,rfl⟩,fun _ _ h=>h⟩,
  rfl,rfl,rfl,by simp,fun c hc _ _=>oN _ _ _ hc,fun _ _ h=> .inl h,fun _ h=> .inl h,fun c hc=>hc.elim .inl (fun e=> .inr (by omega)),fun c hc=>hc.elim .inl (fun e=> .inr (by omega))⟩
 m:=rfl
 mL:=rfl
 bc:=rfl
 sz:=rfl
 cp:=rfl
 dj:=fun c hc=>oN _ _ _ hc
 eJ:=fun c hc=>hc.elim .inl (fun e=> .inr (by simp;omega))
 c4:=fun c hc=>hc.elim (fun h=> .inl (ax.c4 c h)) .inr
 eK:=fun c hc=>hc.elim (fun h=>(ax.eK c h).same (oN _ _ _ (ax.db c (ax.c4 c h)))) fun e=>by
  obtain⟨aw,ty,rfl⟩:=aD
  subst e;exact⟨aw,ty,sI _ _⟩
theorem Pk {P:Program} {E:Env} {t:TypeId} {e:TypeId} {n:Nat} {z:List AV} {parts:List (Nat×AV)} {iD:List (Nat×Value)} {cells:List AV} (ai:aK (fun a b=>a.1=b.1∧V2 E a.2 b.2) parts iD) (he:ht P t=some e) (aJ:kT P e=some z)
  (lP:z.length=P.cellsOf e) (Si:n*z.length≤1000000∧n≤1000000) (hf:mX (fun i=>some (i*z.length,z.length)) ((List.range (n*z.length)).map fun i=>z.getD (i%z.length) .undef) parts=some cells):
  ∃gl,aK (bQ E.bK) cells gl.toList∧(Instr.buildSlice t n iD.toArray).run P E.w= .ok (.slice (some ⟨E.w.heap.size,0,none⟩) n n) (E.w.alloc (.cells gl e))∧cells.length=n*z.length:=by
 obtain⟨i,v,h1,h2,aH,bn⟩:=sw (E:=E.bK) aJ
 have rE:v.cells.size=z.length:=by rw[aH];simp
 have tf:i.size=z.length:=by rw[lP];simp[Program.cellsOf,h1]
 let jn:Array Value:=if n*z.length=0 then #[] else v.cells
 let base:Array Value:=(Array.range (n*z.length)).map (fun i=>jn[i%jn.size]!)
 have m7:aK (bQ E.bK) ((List.range (n*z.length)).map fun i=>z.getD (i%z.length) .undef) base.toList:=by
  refine⟨by simp[base],fun k a b aC hb=> ?_⟩
  rw[List.getElem?_map] at aC
  have hk:k<n*z.length:=by
   cases af:(List.range (n*z.length))[k]? with
   | none=>simp[af] at aC
   | some x=>have:=(List.getElem?_eq_some_iff.1 af).1;simpa using this
  rw[List.getElem?_range hk] at aC
  simp only[Option.map_some,Option.some.injEq] at aC
  have jt:0<z.length:=by
   rcases Nat.eq_zero_or_pos z.length with q | q
   ·rw[q,Nat.mul_zero] at hk;omega
   ·exact q
  have aS:k%z.length<z.length:=Nat.mod_lt _ jt
  have nd:jn=v.cells:=if_neg (by omega)
  have dS:base[k]?=some (v.cells[k%z.length]!):=by
   show((Array.range (n*z.length)).map (fun i=>jn[i%jn.size]!))[k]?=_
   rw[nd,rE]
   simp[hk]
  rw[Array.getElem?_toList,dS] at hb
  simp only[Option.some.injEq] at hb
  have nc:v.cells.toList[k%z.length]?=some (v.cells[k%z.length]!):=by
   rw[Array.getElem?_toList,Array.getElem?_eq_getElem (by omega)]
   congr 1
   exact(getElem!_pos v.cells (k%z.length) (by omega)).symm
  have CU:z[k%z.length]?=some a:=by
   rw[←aC,List.getD_eq_getElem?_getD,List.getElem?_eq_getElem aS];rfl
  rw[←hb]
  exact bn.2 _ _ _ CU nc
 obtain⟨gl,aq,hrel⟩:=yf ai m7 hf
 have hu:=pL he
 have eP:(Instr.buildSlice t n iD.toArray).run P E.w= .ok (.slice (some ⟨E.w.heap.size,0,none⟩) n n) (E.w.alloc (.cells gl e)):=by
  have Ch: ¬n*z.length>2 ^ 24:=by omega
  simp only[Instr.buildSlice,Sem.run_bind,run_underlying hu,Result.andThen_ok,run_sizeOf (show(P.info? e).isSome=true by rw[h1];rfl),←lP,if_neg Ch]
  have dT:Instr.fill (fun i=>some (i*z.length,z.length)) ((Array.range (n*z.length)).map (fun x=>jn[x%jn.size]!)) iD=some gl:=aq
  by_cases q:n*z.length=0
  ·have nd:jn= #[]:=if_pos q
   rw[if_pos q]
   simp only[Sem.run_bind,Sem.run_pure,Result.andThen_ok]
   rw[←nd,dT]
   simp[newRow]
  ·have nd:jn=v.cells:=if_neg q
   rw[if_neg q]
   simp only[Sem.run_bind,Sem.run_pure,Result.andThen_ok,zeroValue,typeInfo,h1,h2,run_program]
   rw[←nd,dT]
   simp[newRow]
 have hlen:cells.length=n*z.length:=by
  have q:=hrel.1
  have: ∀(parts:List (Nat×AV)) (c r:List AV),mX (fun i=>some (i*z.length,z.length)) c parts=some r→r.length=c.length:=by
   intro parts
   induction parts with
   | nil=>intro c r bw;cases bw;rfl
   | cons p ps bx=>
    intro c r bw
    obtain⟨a,b⟩:=p
    unfold mX at bw
    split at bw
    ·cases bw
    ·split at bw
     ·rename_i hc
      rw[bx _ _ bw];simp[ft];omega
     ·cases bw
  rw[this _ _ _ hf];simp
 exact⟨gl,hrel,eP,hlen⟩
theorem Gm {P:Program} {E:Env} {H:List Blk} {t:TypeId} {n:Nat} {parts:List (Nat×AV)} {iD:List (Nat×Value)} {K:AV→Prop} (ax:SimH E H) (ai:aK (fun a b=>a.1=b.1∧V2 E a.2 b.2) parts iD) (h:sP P t n parts K):
  ∃r u E',K r∧(Instr.buildSlice t n iD.toArray).run P E.w= .ok u E'.w∧jD E E'∧V3 E' r u:=by
 obtain⟨e,he,h⟩:=eu h
 obtain⟨z,aJ,h⟩:=eu h
 split at h
 case isFalse=>exact h.elim
 case isTrue hb=>
 obtain⟨lP,Si⟩:=hb
 obtain⟨cells,hf,h⟩:=eu h
 split at h
 case isFalse=>exact h.elim
 case isTrue hby=>
 obtain⟨i,v,h1,h2,aH,bn⟩:=sw (E:=E.bK) aJ
 have rE:v.cells.size=z.length:=by rw[aH];simp
 have tf:i.size=z.length:=by rw[lP];simp[Program.cellsOf,h1]
 let jn:Array Value:=if n*z.length=0 then #[] else v.cells
 let base:Array Value:=(Array.range (n*z.length)).map (fun i=>jn[i%jn.size]!)
 have m7:aK (bQ E.bK) ((List.range (n*z.length)).map fun i=>z.getD (i%z.length) .undef) base.toList:=by
  refine⟨by simp[base],fun k a b aC hb=> ?_⟩
  rw[List.getElem?_map] at aC
  have hk:k<n*z.length:=by
   cases af:(List.range (n*z.length))[k]? with
   | none=>simp[af] at aC
   | some x=>have:=(List.getElem?_eq_some_iff.1 af).1;simpa using this
  rw[List.getElem?_range hk] at aC
  simp only[Option.map_some,Option.some.injEq] at aC
  have jt:0<z.length:=by
   rcases Nat.eq_zero_or_pos z.length with q | q
   ·rw[q,Nat.mul_zero] at hk;omega
   ·exact q
  have aS:k%z.length<z.length:=Nat.mod_lt _ jt
  have nd:jn=v.cells:=if_neg (by omega)
  have dS:base[k]?=some (v.cells[k%z.length]!):=by
   show((Array.range (n*z.length)).map (fun i=>jn[i%jn.size]!))[k]?=_
   rw[nd,rE]
   simp[hk]
  rw[Array.getElem?_toList,dS] at hb
  simp only[Option.some.injEq] at hb
  have nc:v.cells.toList[k%z.length]?=some (v.cells[k%z.length]!):=by
   rw[Array.getElem?_toList,Array.getElem?_eq_getElem (by omega)]
   congr 1
   exact(getElem!_pos v.cells (k%z.length) (by omega)).symm
  have CU:z[k%z.length]?=some a:=by
   rw[←aC,List.getD_eq_getElem?_getD,List.getElem?_eq_getElem aS];rfl
  rw[←hb]
  exact bn.2 _ _ _ CU nc
 obtain⟨gl,aq,hrel⟩:=yf ai m7 hf
 have af:=jD.alloc ax (o:= .cells gl e) ⟨_,_,rfl⟩
 have hu:=pL he
 have eP:(Instr.buildSlice t n iD.toArray).run P E.w= .ok (.slice (some ⟨E.w.heap.size,0,none⟩) n n) (E.w.alloc (.cells gl e)):=by
  have Ch: ¬n*z.length>2 ^ 24:=by omega
  simp only[Instr.buildSlice,Sem.run_bind,run_underlying hu,Result.andThen_ok,run_sizeOf (show(P.info? e).isSome=true by rw[h1];rfl),←lP,if_neg Ch]
  have dT:Instr.fill (fun i=>some (i*z.length,z.length)) ((Array.range (n*z.length)).map (fun x=>jn[x%jn.size]!)) iD=some gl:=aq
  by_cases q:n*z.length=0
  ·have nd:jn= #[]:=if_pos q
   rw[if_pos q]
   simp only[Sem.run_bind,Sem.run_pure,Result.andThen_ok]
   rw[←nd,dT]
   simp[newRow]
  ·have nd:jn=v.cells:=if_neg q
   rw[if_neg q]
   simp only[Sem.run_bind,Sem.run_pure,Result.andThen_ok,zeroValue,typeInfo,h1,h2,run_program]
   rw[←nd,dT]
   simp[newRow]
 have hlen:cells.length=n*z.length:=by
  have q:=hrel.1
  have: ∀(parts:List (Nat×AV)) (c r:List AV),mX (fun i=>some (i*z.length,z.length)) c parts=some r→r.length=c.length:=by
   intro parts
   induction parts with
   | nil=>intro c r bw;cases bw;rfl
   | cons p ps bx=>
    intro c r bw
    obtain⟨a,b⟩:=p
    unfold mX at bw
    split at bw
    ·cases bw
    ·split at bw
     ·rename_i hc
      rw[bx _ _ bw];simp[ft];omega
     ·cases bw
  rw[this _ _ _ hf];simp
 refine⟨_,_,_,h,eP,af,?_⟩
 have lK:(chunk z.length n (cells.map hF)).length=n:=by simp[chunk]
 show aQ (E.w.alloc (.cells gl e)) (fun c=>E.PA c∨c=E.w.heap.size) (fun c=>E.PF c∨c=E.w.heap.size) _ _
 have key:=aQ.aR (w:=E.w.alloc (.cells gl e)) (PA:=fun c=>E.PA c∨c=E.w.heap.size) (PF:=fun c=>E.PF c∨c=E.w.heap.size)
  (PB:=if cells.all lE=true then(fun c=>E.PF c∨c=E.w.heap.size) else(fun c=>E.PA c∨c=E.w.heap.size))
  (rows:=chunk z.length n (cells.map hF)) (full:=true) (fresh:=cells.all lE) (A:=some ⟨E.w.heap.size,0,none⟩) (cap:=n) (sz:=z.length) (vs:=fun i j=>(gl[i*z.length+j]?).getD undef)
  (fun c hc=>by split at hc<;>(rename_i q;simp only[q];first | exact hc | simpa using hc)) (by omega) (fun _=>lK.symm)
  (fun i row aq=>by
   unfold chunk at aq
   rw[List.getElem?_map] at aq
   cases rA:(List.range n)[i]? with
   | none=>simp[rA] at aq
   | some k=>
    have hi:i<n:=by have:=(List.getElem?_eq_some_iff.1 rA).1;simpa using this
    rw[List.getElem?_range hi] at aq
    simp at aq
    subst aq
    have:i*z.length+z.length≤n*z.length:=by
     calc i*z.length+z.length=(i+1)*z.length:=by rw[Nat.add_mul,Nat.one_mul]
      _≤n*z.length:=Nat.mul_le_mul_right _ (by omega)
    simp;omega)
  (fun _=>⟨E.w.heap.size,0,rfl,by split<;>exact .inr rfl,fun i j hi ar=>by
   rw[lK] at hi
   have:i*z.length+z.length≤n*z.length:=by
    calc i*z.length+z.length=(i+1)*z.length:=by rw[Nat.add_mul,Nat.one_mul]
     _≤n*z.length:=Nat.mul_le_mul_right _ (by omega)
   have CL:gl.size=n*z.length:=by rw[←hlen,hrel.1];simp
   rw[Nat.zero_add]
   have aS:i*z.length+j<gl.size:=by omega
   rw[World.cell?_alloc_new]
   simp[Array.getElem?_eq_getElem aS]⟩)
  (fun i j row a aq ar=>by
   obtain⟨hi,abI,hc⟩:=Gw aq ar
   rw[List.getElem?_map] at hc
   cases ri:cells[i*z.length+j]? with
   | none=>simp[ri] at hc
   | some b=>
    simp[ri] at hc
    subst hc
    obtain⟨u,hu,fJ⟩:=hrel.get ri
    have Cj:hJ b=true:=List.all_eq_true.1 hby b (List.mem_of_getElem? ri)
    have kz:=xN Cj fJ.up
    have k5:(gl[i*z.length+j]?).getD undef=u:=by rw[Array.getElem?_toList] at hu;rw[hu];rfl
    rw[k5]
    by_cases dy:cells.all lE=true
    ·have Sx:lE b=true:=List.all_eq_true.1 dy b (List.mem_of_getElem? ri)
     rw[if_pos dy]
     exact(N6 Cj Sx kz).mono (fun c hc=>oN _ _ _ (ax.db c (ax.c4 c hc))) (fun c hc=>hc.elim) (fun c hc=> .inl hc) (fun c hc=>hc)
    ·rw[if_neg dy]
     exact(Fv Cj kz (fun c hc=>hc) ax.c4).mono (fun c hc=>oN _ _ _ (ax.db c hc)) (fun c hc=>hc.elim) (fun c hc=> .inl hc) (fun c hc=>hc))
 rw[lK] at key
 exact key
def yc (P:Program) (t:TypeId) (f:Nat):Option Field:=match P.underlying t with
 | some (.struct ds)=>ds.toList[f]?
 | _=>none
theorem QL {P:Program} {t:TypeId} {f:Nat} {fd:Field} (h:yc P t f=some fd): ∃ds,P.underlying t=some (.struct ds)∧ds[f]?=some fd:=by
 unfold yc at h
 split at h
 ·rename_i ds lM;exact⟨ds,lM,by simpa using h⟩
 ·cases h
def BN (P:Program) (t:TypeId) (x:AV) (f:Nat) (K:AV→Prop):Prop:=
 cn (yc P t f) fun fd=>if(P.info? fd.type).isSome=true∧P.cellsOf fd.type≠0 then(match x with
  | .et s c=>K (.et s (c+fd.offset))
  | .ptr b g r c=>K (.ptr b g r (c+fd.offset))
  | .cM cells c=>K (.cM cells (c+fd.offset))
  | _=>False) else False
theorem YH {P:Program} {fd:Field} {w:World} {c o:Nat} (hi:(P.info? fd.type).isSome=true) (aJ:P.cellsOf fd.type≠0):
  (fieldPlace ⟨c,o,none⟩ fd).run P w= .ok ⟨c,o+fd.offset,none⟩ w:=by
 simp[fieldPlace,run_sizeOf hi,aJ,ln]
theorem QK {P:Program} {t:TypeId} {x:AV} {f:Nat} {K:AV→Prop} {E:Env} {v:Value} (hx:V3 E x v)
  (h:BN P t x f K):
  ∃r u,K r∧(Instr.fieldAt t v f).run P E.w= .ok u E.w∧V3 E r u:=by
 obtain⟨fd,hf,h⟩:=eu h
 obtain⟨ds,hu,Sy⟩:=QL hf
 split at h
 case isFalse=>exact h.elim
 case isTrue hc=>
 obtain⟨hi,aJ⟩:=hc
 have run: ∀bl o,(Instr.fieldAt t (.pointer (some ⟨bl,o,none⟩)) f).run P E.w= .ok (.pointer (some ⟨bl,o+fd.offset,none⟩)) E.w:=by
  intro bl o
  simp[Instr.fieldAt,run_underlying hu,Sy,Instr.sureAddr,YH hi aJ]
 cases x with
 | et s c=>
  obtain⟨bl,hm,rfl⟩:=hx.wa
  exact⟨_,_,h,run bl c,bl,hm,rfl⟩
 | ptr b g r c=>
  rcases(show ea E (.ptr b g r c) v from hx) with⟨aL,bl,o,rfl⟩ | ⟨aL,bl,hm,rfl⟩
  ·exact⟨_,_,h,run bl o,.inl ⟨aL,_,_,rfl⟩⟩
  ·exact⟨_,_,h,run bl _,.inr ⟨aL,bl,hm,by rw[Nat.add_assoc]⟩⟩
 | cM cells c=>
  have gU:aQ E.w E.PA E.PF (.cM cells c) v:=hx
  cases gU with
  | @cM _ _ _ _ bl o vs hc dd hrel=>
   exact⟨_,_,h,run bl _,by rw[Nat.add_assoc];exact aQ.cM hc dd hrel⟩
 | _=>exact h.elim
def tv (P:Program) (t:TypeId) (x i:AV) (H:List Blk) (K:AV→Prop):Prop:=
 cn (ht P t) fun e=>if(P.info? e).isSome=true then(match i with
  | .int _ n=>(match x with
   | .aR rows _ _=>0≤n∧cn rows[n.toNat]? fun row=>row.length=P.cellsOf e∧K (.cM row 0)
   | .ref b g off m _=>cn H[b]? fun blk=>blk.bc=g∧blk.sz=P.cellsOf e∧0≤n∧n<m∧K (.ptr b g (off+n.toNat) 0)
   | _=>False)
  | _=>False) else False
theorem TA {P:Program} {t:TypeId} {x i:AV} {K:AV→Prop} {E:Env} {L iH:List (Nat×List AV)} {H ef:List Blk} {v vW:Value} (sub:Sub L H iH ef) (ax:SimH E ef) (hx:V3 E x v) (hi:V3 E i vW)
  (h:tv P t x i H K): ∃r u,K r∧(Instr.indexAt t v vW).run P E.w= .ok u E.w∧V3 E r u:=by
 obtain⟨e,he,h⟩:=eu h
 have hu:=pL he
 split at h
 case isFalse=>exact h.elim
 case isTrue hinf=>
 cases i with
 | int k n=>
  obtain rfl:=hi.nl
  cases x with
  | aR rows full fresh=>
   obtain⟨aM,h⟩:=(show 0≤n∧cn rows[n.toNat]? fun row=>row.length=P.cellsOf e∧K (.cM row 0) from h)
   obtain⟨row,aq,aE,hK⟩:=eu h
   have aS:n.toNat<rows.length:=(List.getElem?_eq_some_iff.1 aq).1
   have gU:aQ E.w E.PA E.PF (.aR rows full fresh) v:=hx
   cases gU with
   | @aR _ _ PB _ _ _ A cap sz vs dY ec eN bU dd hrel=>
    obtain⟨c,o,rfl,hc,dy⟩:=dd (by omega)
    have vM:=bU _ _ aq
    refine⟨_,.pointer (some ⟨c,o+n.toNat*P.cellsOf e,none⟩),hK,?_,?_⟩
    ·simp only[Instr.indexAt,Sem.run_bind,asIntOf,Sem.run_pure,Result.andThen_ok,run_underlying hu]
     rw[if_pos ⟨aM,by omega⟩]
     simp[run_sizeOf hinf,ln]
    ·show aQ _ _ _ _ _
     have:=aQ.cM (w:=E.w) (PA:=E.PA) (PF:=E.PF) (cells:=row) (col:=0) (c:=c) (o:=o+n.toNat*P.cellsOf e) (vs:=vs n.toNat)
      (by have:=dY c hc;split at this;exact ax.c4 c this;exact this)
      (fun j ar=>by rw[Nat.add_assoc,←aE,vM];exact dy n.toNat j aS (by omega))
      (fun j a ar=>(hrel n.toNat j row a aq ar).mono (fun _ _=>rfl) (fun _ h=>h.elim) (fun d aY=>by
       have:=dY d aY;split at this;exact ax.c4 d this;exact this) (fun _ h=>h))
     simpa using this
  | ref b g off m full=>
   obtain⟨blk,hb,aL,kw,aM,h1,hK⟩:=eu (show cn H[b]? fun blk=>blk.bc=g∧blk.sz=P.cellsOf e∧0≤n∧n<m∧K (.ptr b g (off+n.toNat) 0) from h)
   have hb:=sub.h b blk hb
   have im:=ax.dX b blk hb
   rcases(show ea E (.ref b g off m full) v from hx) with⟨bw,_⟩ | ⟨e3,bw⟩
   ·omega
   ·rcases bw with⟨_,_,ti,_⟩ | ⟨c,cap,hm,rfl,mn,m8,n_⟩
    ·omega
    ·obtain⟨blk',aw,ty,q1,b8,_⟩:=ax.heap b c hm
     obtain rfl:blk=blk':=by rw[hb] at q1;exact Option.some.inj q1
     refine⟨_,.pointer (some ⟨c,(off+n.toNat)*E.sz b+0,none⟩),hK,?_,.inr ⟨e3,c,hm,rfl⟩⟩
     simp only[Instr.indexAt,Sem.run_bind,asIntOf,Sem.run_pure,Result.andThen_ok,run_underlying hu]
     rw[if_pos ⟨aM,h1⟩]
     simp[run_sizeOf hinf,ln,b8,kw,Nat.add_mul]
  | _=>exact h.elim
 | _=>exact h.elim
def CX (P:Program) (t:TypeId) (x i:AV) (K:AV→Prop):Prop:=match x with
 | .str s=>(match i with
  | .int _ n=>(match P.underlying t with
   | some .string=>0≤n∧n<s.size∧K (.int .u8 (s.data.getD n.toNat 0).toNat)
   | _=>False)
  | _=>False)
 | _=>False
theorem TJ {P:Program} {t:TypeId} {x i:AV} {K:AV→Prop} {E:Env} {v vW:Value} (hx:V3 E x v) (hi:V3 E i vW) (h:CX P t x i K):
  ∃r u,K r∧(Instr.index t v vW).run P E.w= .ok u E.w∧V3 E r u:=by
 cases x with
 | str s=>
  cases i with
  | int k n=>
   obtain rfl:=hx.uq
   obtain rfl:=hi.nl
   have h:(match P.underlying t with
    | some .string=>0≤n∧n<s.size∧K (.int .u8 (s.data.getD n.toNat 0).toNat)
    | _=>False):=h
   split at h
   ·rename_i hu
    obtain⟨aM,h1,hK⟩:=h
    refine⟨_,.int .u8 (s.data.getD n.toNat 0).toNat,hK,?_,aQ.int _ _⟩
    have aS:n.toNat<s.size:=by omega
    have CA:n.toNat<s.data.size:=aS
    have:s[n.toNat]?=some (s.data.getD n.toNat 0):=by
     rw[getElem?_pos s n.toNat aS]
     congr 1
     show s.data[n.toNat]=_
     rw[Array.getD_eq_getD_getElem?,Array.getElem?_eq_getElem CA];rfl
    simp only[Instr.index,Sem.run_bind,asIntOf,Sem.run_pure,Result.andThen_ok,run_underlying hu]
    rw[if_pos aM,this]
    rfl
   ·exact h.elim
  | _=>exact h.elim
 | _=>exact h.elim
def pb (x:AV) (K:AV→Prop):Prop:=match x with
 | .aR rows _ _=>rows.length≤4611686018427387904→K (.int .i64 rows.length)
 | .str s=>K (.int .i64 s.size)
 | .ref _ _ _ n _=>K (.int .i64 n)
 | _=>False
def h6 (P:Program) (t:TypeId) (x:AV):Bool:=match P.underlying t,x with
 | some .string,.str _=>true
 | some (.slice _),.aR _ _ _=>true
 | some (.slice _),.ref _ _ _ _ _=>true
 | _,_=>false
theorem WB {P:Program} {t ty:TypeId} {x:AV} {K:AV→Prop} {E:Env} {v:Value} (hx:V3 E x v)
  (bj:h6 P t x=true) (h:pb x K): ∃r u,K r∧(Builtin.len_ #[t] ty #[v]).run P E.w= .ok u E.w∧V3 E r u:=by
 unfold h6 at bj
 split at bj<;>try (cases bj;done)
 ·rename_i s hu
  obtain rfl:=hx.uq
  exact⟨_,_,h,by simp[Builtin.len_,run_underlying hu,goInt],aQ.int _ _⟩
 ·rename_i e rows cW fr hu
  have gU:aQ E.w E.PA E.PF (.aR rows cW fr) v:=hx
  cases gU with
  | @aR _ _ PB _ _ _ A cap sz vs dY ec eN bU dd hrel=>
   have h:rows.length≤4611686018427387904→K (.int .i64 rows.length):=h
   exact⟨_,_,h ec.2,by simp[Builtin.len_,run_underlying hu,goInt],aQ.int _ _⟩
 ·rename_i e b g off n cW hu
  have h:K (.int .i64 n):=h
  rcases(show ea E (.ref b g off n cW) v from hx) with⟨_,A,cap,rfl⟩ | ⟨e3,bw⟩
  ·exact⟨_,_,h,by simp[Builtin.len_,run_underlying hu,goInt],aQ.int _ _⟩
  ·rcases bw with⟨_,_,rfl,A,rfl⟩ | ⟨c,cap,hm,rfl,mn,m8,n_⟩
   ·exact⟨_,_,h,by simp[Builtin.len_,run_underlying hu,goInt],aQ.int _ _⟩
   ·exact⟨_,_,h,by simp[Builtin.len_,run_underlying hu,goInt],aQ.int _ _⟩
def BJ (x:AV) (i:Nat) (K:AV→Prop):Prop:=match x with
 | .tup l=>cn l[i]? K
 | _=>False
theorem QF {P:Program} {x:AV} {i:Nat} {K:AV→Prop} {E:Env} {v:Value} (hx:V3 E x v) (h:BJ x i K):
  ∃r u,K r∧(Instr.extract v i).run P E.w= .ok u E.w∧V3 E r u:=by
 cases x with
 | tup l=>
  obtain⟨vs,rfl,ai⟩:=hx
  obtain⟨a,aC,hK⟩:=eu (show cn l[i]? K from h)
  obtain⟨u,hu,aq⟩:=ai.get aC
  refine⟨a,u,hK,?_,nW aq⟩
  simp[Instr.extract,hu]
 | _=>exact h.elim
def Af (op:UnOp) (x:AV) (K:AV→Prop):Prop:=match op,x with
 | .not,.bool b=>K (.bool (!b))
 | .neg,.int k n=>K (.int k (k.wrap (0 - n)))
 | _,_=>False
theorem aaV {P:Program} {op:UnOp} {x:AV} {K:AV→Prop} {E:Env} {v:Value} (hx:V3 E x v) (h:Af op x K):
  ∃r u,K r∧(Op.unary op v).run P E.w= .ok u E.w∧V3 E r u:=by
 unfold Af at h
 split at h
 ·obtain rfl:=hx.mS;exact⟨_,_,h,rfl,aQ.bool _⟩
 ·obtain rfl:=hx.nl;exact⟨_,_,h,rfl,aQ.int _ _⟩
 ·exact h.elim
def DR (x:AV) (K:AV→Prop):Prop:=match x with
 | .ptr _ _ _ _ | .et _ _ | .cM _ _=>K x
 | _=>False
def tz (P:Program) (t:TypeId):Option IntKind:=match P.underlying t with
 | some (.int k)=>some k
 | _=>none
theorem Ju {P:Program} {t:TypeId} {k:IntKind} (h:tz P t=some k):P.underlying t=some (.int k):=by
 unfold tz at h
 split at h
 ·cases h;assumption
 ·cases h
def Bn (P:Program) (s d:TypeId) (x:AV) (K:AV→Prop):Prop:=match x with
 | .int _ n=>cn (tz P s) fun _=>cn (tz P d) fun k=>K (.int k (k.wrap n))
 | _=>False
theorem Qd {P:Program} {s d:TypeId} {x:AV} {K:AV→Prop} {E:Env} {v:Value} (hx:V3 E x v) (h:Bn P s d x K):
  ∃r u,K r∧(Go.convert s d v).run P E.w= .ok u E.w∧V3 E r u:=by
 cases x with
 | int a8 n=>
  obtain⟨c7,h1,h⟩:=eu (show cn (tz P s) _ from h)
  obtain⟨gv,h2,h⟩:=eu h
  obtain rfl:=hx.nl
  refine⟨_,_,h,?_,aQ.int _ _⟩
  simp only[Go.convert,Sem.run_bind,run_underlying (Ju h1),run_underlying (Ju h2),Result.andThen_ok]
  rfl
 | _=>exact h.elim
def j4 (x:Option AV) (d:Nat) (K:Nat→Prop):Prop:=match x with
 | none=>K d
 | some (.int _ n)=>0≤n∧K n.toNat
 | some _=>False
def si (P:Program) (t:TypeId) (x:AV) (lo hi:Option AV) (H:List Blk) (K:AV→Prop):Prop:=match x with
 | .str s=>(match P.underlying t with
  | some .string=>j4 lo 0 fun l=>j4 hi s.size fun h=>l≤h∧h≤s.size∧K (.str (s.extract l h))
  | _=>False)
 | .aR rows _ fr=>cn (ht P t) fun e=>if(P.info? e).isSome=true then
   j4 lo 0 fun l=>j4 hi rows.length fun h=>l≤h∧h≤rows.length∧(∀(i:Nat) (row:List AV),rows[i]?=some row→row.length=P.cellsOf e)∧K (.aR ((rows.drop l).take (h - l)) false fr) else False
 | .ref b g off n _=>cn (ht P t) fun e=>if(P.info? e).isSome=true then
   cn H[b]? fun blk=>blk.bc=g∧blk.sz=P.cellsOf e∧j4 lo 0 fun l=>j4 hi n fun h=>l≤h∧h≤n∧(l<h→K (.ref b g (off+l) (h - l) false))∧(l=h→K (.aR [] false true)) else False
 | _=>False
def xu (E:Env) (x:Option AV) (v:Option Value):Prop:=match x,v with
  | none,none=>True
  | some a,some u=>V3 E a u
  | _,_=>False
theorem sN {x:Option AV} {d:Nat} {K:Nat→Prop} {E:Env} {v:Option Value} (hx:xu E x v) (h:j4 x d K): ∃n,K n∧((v=none∧n=d)∨ ∃k,v=some (.int k n)):=by
 cases x with
 | none=>
  cases v with
  | none=>exact⟨d,h,.inl ⟨rfl,rfl⟩⟩
  | some u=>exact hx.elim
 | some a=>
  cases v with
  | none=>exact hx.elim
  | some u=>
   cases a with
   | int k n=>
    obtain⟨aM,h⟩:=(show 0≤n∧K n.toNat from h)
    obtain rfl:=V3.nl hx
    exact⟨n.toNat,h,.inr ⟨k,by rw[Int.toNat_of_nonneg aM]⟩⟩
   | _=>exact h.elim
theorem Er {P:Program} {w:World} {isS:Bool} {len cap l h:Nat} {lo hi:Option Value} (aE:(lo=none∧l=0)∨ ∃k,lo=some (.int k l)) (bw:(hi=none∧h=len)∨ ∃k,hi=some (.int k h))
  (h1:l≤h) (h2:h≤cap):(Instr.sliceBounds isS len cap lo hi none).run P w= .ok (l,h,cap) w:=by
 rcases aE with⟨rfl,rfl⟩ | ⟨tC,rfl⟩<;>rcases bw with⟨rfl,rfl⟩ | ⟨Jy,rfl⟩
 ·simp[Instr.sliceBounds]
 ·simp[Instr.sliceBounds,run_sliceBound (P:=P) w Jy (h:Int) cap _ (by omega) (by omega)]
 ·simp[Instr.sliceBounds,run_sliceBound (P:=P) w tC (l:Int) _ _ (by omega) (show(l:Int)≤((_:Nat):Int) by exact Int.ofNat_le.2 h1)]
 ·simp[Instr.sliceBounds,run_sliceBound (P:=P) w Jy (h:Int) cap _ (by omega) (by omega),run_sliceBound (P:=P) w tC (l:Int) h _ (by omega) (by omega)]
theorem Y3 {P:Program} {t:TypeId} {x:AV} {lo hi:Option AV} {K:AV→Prop} {E:Env} {L iH:List (Nat×List AV)} {H ef:List Blk} {v:Value} {FB FA:Option Value} (sub:Sub L H iH ef) (ax:SimH E ef) (hx:V3 E x v)
  (Cz:xu E lo FB) (Cs:xu E hi FA)
  (h:si P t x lo hi H K): ∃r u,K r∧(Instr.sliceAt t v FB FA none).run P E.w= .ok u E.w∧V3 E r u:=by
 cases x with
 | str s=>
  obtain rfl:=hx.uq
  have h:(match P.underlying t with
   | some .string=>j4 lo 0 fun l=>j4 hi s.size fun h=>l≤h∧h≤s.size∧K (.str (s.extract l h))
   | _=>False):=h
  split at h
  ·rename_i hu
   obtain⟨l,h,aE⟩:=sN Cz h
   obtain⟨q,⟨h1,h2,hK⟩,af⟩:=sN Cs h
   refine⟨_,.string (s.extract l q),hK,?_,aQ.str _⟩
   rw[run_sliceAt_string E.w t _ _ _ _ hu]
   simp only[Instr.slice,Sem.run_bind,run_underlying hu,Result.andThen_ok]
   simp only[Option.isSome_none,Bool.false_eq_true,if_false]
   simp only[Sem.run_bind,Er (P:=P) (w:=E.w) (isS:=false) aE af h1 h2,Result.andThen_ok]
   rfl
  ·exact h.elim
 | aR rows full fr=>
  obtain⟨e,he,h⟩:=eu (show cn (ht P t) fun e=>if(P.info? e).isSome=true then
   j4 lo 0 fun l=>j4 hi rows.length fun h=>l≤h∧h≤rows.length∧(∀(i:Nat) (row:List AV),rows[i]?=some row→row.length=P.cellsOf e)∧K (.aR ((rows.drop l).take (h - l)) false fr) else False from h)
  have hu:=pL he
  split at h
  case isFalse=>exact h.elim
  case isTrue hinf=>
  obtain⟨l,h,aE⟩:=sN Cz h
  obtain⟨q,⟨h1,h2,oe,hK⟩,af⟩:=sN Cs h
  have gU:aQ E.w E.PA E.PF (.aR rows full fr) v:=hx
  cases gU with
  | @aR _ _ PB _ _ _ A cap sz vs dY ec eN bU dd hrel=>
   have rm:P.elem t=e:=by simp[Program.elem,hu]
   have k5:P.underlying t=some (.slice (P.elem t)):=by rw[rm];exact hu
   have hlen:((rows.drop l).take (q - l)).length=q - l:=by simp;omega
   refine⟨_,sliced A l q cap (P.cellsOf e),hK,?_,?_⟩
   ·rw[run_sliceAt_slice E.w t _ _ _ _ k5,run_slice_any E.w t A rows.length cap k5,Er (P:=P) (w:=E.w) aE af h1 (by omega)]
    simp only[Result.andThen_ok,rm,run_sizeOf hinf]
   ·show aQ E.w E.PA E.PF _ (.slice _ (q - l) (cap - l))
    have key:=aQ.aR (w:=E.w) (PA:=E.PA) (PF:=E.PF) (PB:=PB) (rows:=(rows.drop l).take (q - l)) (full:=false) (fresh:=fr) (A:=if cap=l then A else A.map (·.add (l*P.cellsOf e))) (cap:=cap - l) (sz:=sz) (vs:=fun i j=>vs (l+i) j)
     dY (by rw[hlen];omega) (fun h=>by cases h)
     (fun i row aq=>by
      rw[List.getElem?_take] at aq
      split at aq
      ·rw[List.getElem?_drop] at aq;exact bU _ _ aq
      ·cases aq)
     (fun ap=>by
      rw[hlen] at ap
      obtain⟨c,o,rfl,hc,dy⟩:=dd (by omega)
      have Th:sz=P.cellsOf e:=by
       have aS:l<rows.length:=by omega
       rw[←bU l _ (List.getElem?_eq_getElem aS)];exact oe l _ (List.getElem?_eq_getElem aS)
      refine⟨c,o+l*P.cellsOf e,by rw[if_neg (by omega)];simp[ln],hc,fun i j hi ar=> ?_⟩
      rw[hlen] at hi
      have:=dy (l+i) j (by omega) ar
      rw[←this,Th]
      congr 2
      rw[Nat.add_mul];omega)
     (fun i j row a aq ar=>by
      rw[List.getElem?_take] at aq
      split at aq
      ·rw[List.getElem?_drop] at aq;exact hrel _ _ _ _ aq ar
      ·cases aq)
    rw[hlen] at key
    exact key
 | ref b g off n full=>
  obtain⟨e,he,h⟩:=eu (show cn (ht P t) fun e=>if(P.info? e).isSome=true then
   cn H[b]? fun blk=>blk.bc=g∧blk.sz=P.cellsOf e∧j4 lo 0 fun l=>j4 hi n fun h=>l≤h∧h≤n∧(l<h→K (.ref b g (off+l) (h - l) false))∧(l=h→K (.aR [] false true)) else False from h)
  have hu:=pL he
  split at h
  case isFalse=>exact h.elim
  case isTrue hinf=>
  obtain⟨blk,hb,aL,kw,h⟩:=eu h
  obtain⟨l,h,aE⟩:=sN Cz h
  obtain⟨q,⟨h1,h2,R8,HN⟩,af⟩:=sN Cs h
  have hb:=sub.h b blk hb
  have im:=ax.dX b blk hb
  have rm:P.elem t=e:=by simp[Program.elem,hu]
  have k5:P.underlying t=some (.slice (P.elem t)):=by rw[rm];exact hu
  have run: ∀A cap,n≤cap→(Instr.sliceAt t (.slice A n cap) FB FA none).run P E.w= .ok (sliced A l q cap (P.cellsOf e)) E.w:=by
   intro A cap hc
   rw[run_sliceAt_slice E.w t _ _ _ _ k5,run_slice_any E.w t A n cap k5,Er (P:=P) (w:=E.w) aE af h1 (by omega)]
   simp only[Result.andThen_ok,rm,run_sizeOf hinf]
  have empty: ∀A cap,l=q→V3 E (.aR [] false true) (sliced A l q cap (P.cellsOf e)):=by
   intro A cap ry
   subst ry
   show aQ E.w E.PA E.PF _ (.slice _ (l - l) (cap - l))
   rw[Nat.sub_self]
   exact aQ.aR (PB:=fun _=>False) (sz:=0) (vs:=fun _ _=>undef) (fun _ h=>h.elim) ⟨Nat.zero_le _,Nat.zero_le _⟩ (fun h=>by cases h) (fun i row h=>by simp at h) (fun h=>by simp at h) (fun i j row a h=>by simp at h)
  rcases(show ea E (.ref b g off n full) v from hx) with⟨bw,_⟩ | ⟨e3,bw⟩
  ·omega
  ·rcases bw with⟨_,_,rfl,A,rfl⟩ | ⟨c,cap,hm,rfl,mn,m8,n_⟩
   ·have ry:l=q:=by omega
    exact⟨_,_,HN ry,run A 0 (Nat.le_refl _),empty _ _ ry⟩
   ·rcases Nat.lt_or_ge l q with aS | yx
    ·refine⟨_,_,R8 aS,run _ cap mn,.inr ⟨e3,.inr ⟨c,cap - l,hm,?_,by omega,(fun h=>by cases h),by omega⟩⟩⟩
     obtain⟨blk',aw,ty,q1,b8,_⟩:=ax.heap b c hm
     obtain rfl:blk=blk':=by rw[hb] at q1;exact Option.some.inj q1
     simp only[sliced,if_neg (show ¬cap=l by omega),Option.map_some,ln,b8,kw,Nat.add_mul]
    ·have ry:l=q:=by omega
     exact⟨_,_,HN ry,run _ cap mn,empty _ _ ry⟩
 | _=>exact h.elim
def qk (P:Program) (f:FuncId):Bool:=match P.funcs[f]? with
 | some fn=> !(fn.name== "runtime.NumGoroutine")&&fn.body.isSome
 | none=>false
def dc (P:Program) (f:FuncId) (args:List AV) (H:List Blk) (Q:AV→List Blk→Prop):Prop:=
 qk P f=true∧ ∀(E:Env) (vs:List Value),(∀t,E.mL t=none)→SimH E H→aK (V2 E) args vs→
  Calls P f vs.toArray E.w fun e w'=> ∃r v H' E',e= .returned v∧Q r H'∧E'.w=w'∧(∀t,E'.mL t=none)∧SimH E' H'∧V3 E' r v∧Step E E'
theorem dc.mono {P:Program} {f:FuncId} {args:List AV} {H:List Blk} {Q sD:AV→List Blk→Prop} (h:dc P f args H Q) (af: ∀r H',Q r H'→sD r H'):dc P f args H sD:=
 ⟨h.1,fun E vs a b c=>(h.2 E vs a b c).mono fun e w' ⟨r,v,H',E',h1,h2,aH⟩=>⟨r,v,H',E',h1,af _ _ h2,aH⟩⟩
def wk:AV→Bool
 | .et _ _ | .agg _ | .tup _=>false
 | _=>true
def tH:AV→Bool
 | .fn _ caps=>caps.all wk
 | a=>wk a
def iv:AV→Bool
 | .agg cells=>cells.all tH
 | a=>tH a
def tI:AV→Bool
 | .tup l=>l.all iv
 | a=>iv a
theorem ea.bK {E:Env} {a:AV} {v:Value} (h:wk a=true) (hv:ea E a v):ea E.bK a v:=by
 cases a<;>first | exact hv | cases h
theorem bQ.bK {E:Env} {a:AV} {v:Value} (h:tH a=true) (hv:bQ E a v):bQ E.bK a v:=by
 by_cases hf: ∃f caps,a= .fn f caps
 ·obtain⟨f,caps,rfl⟩:=hf
  obtain⟨vs,e,ai⟩:=hv
  exact⟨vs,e,ai.1,fun i x y hx bd=>(ai.2 i x y hx bd).bK (List.all_eq_true.1 (show caps.all wk=true from h) x (List.mem_of_getElem? hx))⟩
 ·have aM:tH a=wk a:=by cases a<;>first | rfl | exact absurd ⟨_,_,rfl⟩ hf
  rw[nV fun f c e=>hf ⟨f,c,e⟩] at hv ⊢
  exact hv.bK (aM▸h)
theorem V2.bK {E:Env} {a:AV} {v:Value} (h:iv a=true) (hv:V2 E a v):V2 E.bK a v:=by
 by_cases hf: ∃l,a= .agg l
 ·obtain⟨l,rfl⟩:=hf
  obtain⟨vs,e,ai⟩:=hv
  exact⟨vs,e,ai.1,fun i x y hx bd=>(ai.2 i x y hx bd).bK (List.all_eq_true.1 (show l.all tH=true from h) x (List.mem_of_getElem? hx))⟩
 ·have aM:iv a=tH a:=by cases a<;>first | rfl | exact absurd ⟨_,rfl⟩ hf
  rw[ma fun l e=>hf ⟨l,e⟩] at hv ⊢
  exact hv.bK (aM▸h)
theorem V3.bK {E:Env} {a:AV} {v:Value} (h:tI a=true) (hv:V3 E a v):V3 E.bK a v:=by
 by_cases hf: ∃l,a= .tup l
 ·obtain⟨l,rfl⟩:=hf
  obtain⟨vs,e,ai⟩:=hv
  exact⟨vs,e,ai.1,fun i x y hx bd=>(ai.2 i x y hx bd).bK (List.all_eq_true.1 (show l.all iv=true from h) x (List.mem_of_getElem? hx))⟩
 ·have aM:tI a=iv a:=by cases a<;>first | rfl | exact absurd ⟨_,rfl⟩ hf
  rw[mb fun l e=>hf ⟨l,e⟩] at hv ⊢
  exact hv.bK (aM▸h)
theorem SimH.bK {E:Env} {H:List Blk} (h:SimH E H):SimH E.bK H:=
 {h with
  hS:=fun t gz c hm=>by cases hm
  fz:=fun b t c _ hm=>by cases hm
  gM:=fun c _ ⟨t,hm⟩=>by cases hm
  fq:=fun c ⟨t,hm⟩=>by cases hm}
theorem Good.toStep [b6] {bY E:Env} (h:Good bY E):Step bY E.bK:=
 ⟨⟨h.le.eJ,h.le.eD,h.le.qD,h.le.wf,h.le.bc,h.le.m,fun t c hm=>by rw[h.bK t] at hm;cases hm⟩,h.os,h.tape,h.output,h.size,fun c hc h1 _=>h.dj c hc h1,h.hB,(fun c ⟨t,hm⟩=>by cases hm),h.eJ,h.eD⟩
def qq (P:Program) (av:St):List ResultVar→(List AV→Prop)→Prop
 | [],K=>K []
 | .tmp t::rs,K=>qq P av rs fun l=>K (av.T.getD t .undef::l)
 | .cell a t::rs,K=>mr P t (av.T.getD a .undef) av.L av.H fun x=>qq P av rs fun l=>K (x::l)
def qE:List AV→AV
 | [x]=>x
 | l=> .tup l
def ub (P:Program) (fn:Func) (av:St) (Q:AV→List Blk→Prop):Prop:=qq P av fn.results.toList fun l=>l.all iv=true∧Q (qE l) av.H
theorem O1 {E:Env} {P:Program} {t:TypeId} {x:AV} {L:List (Nat×List AV)} {H:List Blk} {K:AV→Prop} {v:Value} (ax:SimH E H) (bH:SimL E L) (hx:V3 E x v) (h:mr P t x L H K):
  ∃a dv,K a∧(do loadVar t (←asAddr v):Sem Value).run P E.w= .ok dv E.w∧V2 E a dv:=by
 obtain⟨a,dv,hK,aq,hv⟩:=KK (Sub.refl L H) ax bH hx h
 refine⟨a,dv,hK,?_,hv⟩
 have: ∃jG,v= .pointer (some jG):=by
  cases x with
  | et s c=>obtain⟨bl,_,rfl⟩:=hx.wa;exact⟨_,rfl⟩
  | ptr b g r c=>
   rcases(show ea E (.ptr b g r c) v from hx) with⟨_,bl,o,rfl⟩ | ⟨_,bl,_,rfl⟩<;>exact⟨_,rfl⟩
  | cM cells c=>
   have gU:aQ E.w E.PA E.PF (.cM cells c) v:=hx
   cases gU;exact⟨_,rfl⟩
  | _=>exact h.elim
 obtain⟨jG,rfl⟩:=this
 simpa[Instr.loadAt,Instr.sureAddr,asAddr] using aq
theorem Ek {P:Program} {av:St} {E:Env} {tmps:Array Value} (hs:qS E av tmps) {f:ResultVar→Sem Value} (f1: ∀t,f (.tmp t)=pure (tmps.getD t undef))
  (f2: ∀a t,f (.cell a t)=do loadVar t (←asAddr (tmps.getD a undef))): ∀(rs:List ResultVar) (K:List AV→Prop),qq P av rs K→
  ∃l vs,K l∧(rs.mapM f).run P E.w= .ok vs E.w∧aK (V3 E) l vs
 | [],K,h=>⟨[],[],h,rfl,aK.nil⟩
 | .tmp t::rs,K,h=>by
  obtain⟨l,vs,hK,aq,ai⟩:=Ek hs f1 f2 rs _ h
  exact⟨_,_,hK,by simp only[List.mapM_cons,f1,Sem.run_bind,Sem.run_pure,Result.andThen_ok,aq],aK.cons (hs.gO t) ai⟩
 | .cell a t::rs,K,h=>by
  obtain⟨x,dv,h2,CG,hv⟩:=O1 hs.h hs.l (hs.gO a) h
  obtain⟨l,vs,hK,aq,ai⟩:=Ek hs f1 f2 rs _ h2
  refine⟨_,_,hK,?_,aK.cons (nW hv) ai⟩
  simp only[List.mapM_cons,f2]
  rw[Sem.run_bind,CG]
  simp only[Result.andThen_ok,Sem.run_bind,aq,Sem.run_pure]
theorem Yx (fn:Func) (tmps:Array Value): ∃f:ResultVar→Sem Value,results fn tmps=(fn.results.mapM f>>=fun vs=>pure (if h:vs.size=1 then vs[0] else .tuple vs))∧(∀t,f (.tmp t)=pure (tmps.getD t undef))∧
  ∀b t,f (.cell b t)=(asAddr (tmps.getD b undef)>>=fun a=>loadVar t a):=⟨_,rfl,fun _=>rfl,fun _ _=>rfl⟩
def qQ (P:Program) (fn:Func) (Q:AV→List Blk→Prop) (ex:Exit) (av:St):Prop:=match ex with
 | .normal | .ret=>ub P fn av Q
 | _=>False
def yY (fn:Func) (args:List AV) (H:List Blk):St:=⟨args++List.replicate (fn.ntmps - args.length) .undef,[],H⟩
theorem OR {E:Env} {a:AV} {v:Value} (h:iv a=true) (hv:V3 E a v) (bj: ∀l,a≠ .tup l):V2 E.bK a v:=by
 rw[mb bj] at hv;exact hv.bK h
theorem dc.Lm {P:Program} {f:FuncId} {fn:Func} {c:Code} {args:List AV} {H:List Blk} {Q:AV→List Blk→Prop} (hf:P.funcs[f]?=some fn) (hb:fn.body=some c) (ap:(fn.name== "runtime.NumGoroutine")=false)
  (h: ∀hp:b6,hp.n=H.length→WpS P c (qQ P fn Q) (yY fn args H)):dc P f args H Q:=by
 refine⟨by simp[qk,hf,hb,ap],?_⟩
 intro E vs ap ax ai
 letI:b6:=⟨H.length⟩
 refine calls_of_wp hf hb (wp_mono (h ⟨H.length⟩ rfl E E {tmps:=vs.toArray++Array.replicate (fn.ntmps - vs.toArray.size) undef,defers:=[]} (Good.refl ax.fresh ap) ⟨ax,(fun t c hm=>by rw[ap t] at hm;cases hm),fun t=> ?_,?_⟩ rfl) ?_)
 ·show V3 E ((args++List.replicate (fn.ntmps - args.length) AV.undef).getD t AV.undef) _
  rcases Nat.lt_or_ge t args.length with aS | e3
  ·have h1:args[t]?=some args[t]:=List.getElem?_eq_getElem aS
   obtain⟨v,hv,aq⟩:=ai.get h1
   have CA:t<vs.length:=ai.1▸aS
   have aT:(args++List.replicate (fn.ntmps - args.length) AV.undef).getD t .undef=args[t]:=by
    rw[List.getD_eq_getElem?_getD,List.getElem?_append_left aS,h1];rfl
   have e2:(vs.toArray++Array.replicate (fn.ntmps - vs.toArray.size) undef).getD t undef=v:=by
    rw[Array.getD_eq_getD_getElem?,Array.getElem?_append_left (by simpa using CA)]
    simp[hv]
   rw[aT,e2];exact nW aq
  ·have aT:(args++List.replicate (fn.ntmps - args.length) AV.undef).getD t .undef= .undef:=by
    rw[List.getD_eq_getElem?_getD,List.getElem?_append_right e3,List.getElem?_replicate];split<;>rfl
   rw[aT];exact V3.undef _ _
 ·simp[yY,ai.1]
 ·rintro e a w ⟨hex,av,E',af,hw,aL,hs,aY⟩
  have fin:ub P fn av Q→a.defers=[]∧ ∃v,(results fn a.tmps).run P w= .ok v w∧ ∃r Oc H' E',(Ending.returned v)= .returned Oc∧Q r H'∧E'.w=w∧(∀t,E'.mL t=none)∧SimH E' H'∧V3 E' r Oc∧Step E E':=by
   intro Tb
   refine⟨aY,?_⟩
   subst hw
   have hm: ∀f:ResultVar→Sem Value,(∀t,f (.tmp t)=pure (a.tmps.getD t undef))→(∀b t,f (.cell b t)=do loadVar t (←asAddr (a.tmps.getD b undef)))→ ∃l ga,(l.all iv=true∧Q (qE l) av.H)∧(fn.results.mapM f).run P E'.w= .ok (List.toArray ga) E'.w∧aK (V3 E') l ga:=by
    intro f f1 f2
    obtain⟨l,ga,h1,aq,h2⟩:=Ek hs f1 f2 _ _ Tb
    exact⟨l,ga,h1,by rw[Array.mapM_eq_mapM_toList,Sem.run_map,aq];rfl,h2⟩
   obtain⟨f,vw,vx,hf2⟩:=Yx fn a.tmps
   obtain⟨l,ga,⟨Ik,R_⟩,aq,tn⟩:=hm f vx hf2
   refine⟨if h:ga.toArray.size=1 then ga.toArray[0] else .tuple ga.toArray,?_,qE l,_,av.H,E'.bK,rfl,R_,rfl,fun _=>rfl,hs.h.bK,?_,aL.toStep⟩
   ·rw[vw,Sem.run_bind,aq];rfl
   ·cases l with
    | nil=>
     obtain rfl:=tn.mv
     exact⟨[],rfl,aK.nil⟩
    | cons x l=>
     obtain⟨u,ab1,rfl,hx,Ir⟩:=tn.cons_inv
     cases l with
     | nil=>
      obtain rfl:=Ir.mv
      show V3 E'.bK x u
      have ka:iv x=true:=by simpa using Ik
      exact hx.bK (by cases x<;>first | exact ka | (cases ka))
     | cons y l=>
      obtain⟨z,aaX,rfl,bd,abK⟩:=Ir.cons_inv
      have bU: ¬(List.toArray (u::z::aaX)).size=1:=by simp
      rw[dif_neg bU]
      refine⟨_,rfl,?_⟩
      refine⟨tn.1,fun i p q Iq S_=> ?_⟩
      have hv:=tn.2 i p q Iq S_
      have ka:iv p=true:=List.all_eq_true.1 Ik p (List.mem_of_getElem? Iq)
      have bj: ∀l,p≠ .tup l:=by
       intro l e;subst e;cases ka
      exact OR ka hv bj
  cases e with
  | normal=>exact fin af
  | ret=>exact fin af
  | exit id=>exact af.elim
  | _=>cases hex
inductive eW (L:List (Nat×List AV)) (H:List Blk):AV→AV→Prop where
 | undef (a:AV):eW L H a .undef
 | int (k:IntKind) (n:Int):eW L H (.int k n) (.int k n)
 | bool (b:Bool):eW L H (.bool b) (.bool b)
 | str (s:ByteArray):eW L H (.str s) (.str s)
 | eY:eW L H .eY .eY
 | fg:eW L H .fg .fg
 | aR (rows:List (List AV)) (full fr cW:Bool) (hw:cW=true→full=true):eW L H (.aR rows full fr) (.aR rows cW false)
 | cM (cells:List AV) (c:Nat):eW L H (.cM cells c) (.cM cells c)
 | et {t c:Nat} {cells fF:List AV} (h:dt L t=some cells) (aE:cells.length=fF.length)
   (aq: ∀(j:Nat) (a b:AV),cells[j]?=some a→fF[j]?=some b→eW L H a b):eW L H (.et t c) (.cM fF c)
 | ptr {b g r c:Nat} {blk:Blk} {row row':List AV} (hb:H[b]?=some blk) (aL:blk.bc=g) (eg:blk.rows[r]?=some row) (aE:row.length=row'.length)
   (aq: ∀(j:Nat) (a b:AV),row[j]?=some a→row'[j]?=some b→eW L H a b):eW L H (.ptr b g r c) (.cM row' c)
 | ref {b g off n:Nat} {full cW:Bool} {blk:Blk} {ia:List (List AV)} (hw:cW=true→full=true) (hb:H[b]?=some blk) (aL:blk.bc=g) (ap:ia.length=n) (hP:n≤4611686018427387904) (aD:off+n≤blk.rows.length)
   (aE: ∀(i:Nat) (row row':List AV),blk.rows[off+i]?=some row→ia[i]?=some row'→row.length=row'.length)
   (aq: ∀(i j:Nat) (row row':List AV) (a c:AV),blk.rows[off+i]?=some row→ia[i]?=some row'→row[j]?=some a→row'[j]?=some c→eW L H a c):
   eW L H (.ref b g off n full) (.aR ia cW false)
 | fn {f:FuncId} {caps u3:List AV} (aE:caps.length=u3.length) (aq: ∀(j:Nat) (a b:AV),caps[j]?=some a→u3[j]?=some b→eW L H a b):eW L H (.fn f caps) (.fn f u3)
def dP (L:List (Nat×List AV)) (H:List Blk) (a b:AV):Prop:=
 (∃l eB,a= .agg l∧b= .agg eB∧aK (eW L H) l eB)∨eW L H a b
def Env.frozen (E:Env):Env:={w:=E.w,PA:=fun c=>E.PA c∨E.fe c∨E.iQ c,PF:=fun _=>False,m:=fun _=>none,bc:=fun _=>0,sz:=fun _=>0,cp:=fun _=>0,mL:=fun _=>none}
theorem Ht {E:Env} {H:List Blk} (h:SimH E H):SimH E.frozen [] where
 heap:=fun b c hb=>by cases hb
 dX:=fun b blk hb=>by simp at hb
 fX:=fun b hb=>by cases hb
 fresh:=fun b _=>⟨rfl,rfl⟩
 gu:=fun b bI c hb=>by cases hb
 hS:=fun t gz c hb=>by cases hb
 fz:=fun b t c hb=>by cases hb
 gw:=fun c _ ⟨b,hb⟩=>by cases hb
 gM:=fun c _ ⟨b,hb⟩=>by cases hb
 c4:=fun c hc=>hc.elim
 eK:=fun c hc=>hc.elim
 db:=fun c hc=>hc.elim (h.db c) fun hc=>hc.elim (h.eQ c) (h.fq c)
 eQ:=fun c ⟨b,hb⟩=>by cases hb
 fq:=fun c ⟨b,hb⟩=>by cases hb
theorem AH {E:Env} {a:AV} {v:Value} (h:ea E a v):bQ E a v:=by
 by_cases hf: ∃f caps,a= .fn f caps
 ·obtain⟨f,caps,rfl⟩:=hf
  exact aQ.v1 h
 ·rw[nV fun f c e=>hf ⟨f,c,e⟩];exact h
theorem MT {L iH:List (Nat×List AV)} {H ef:List Blk} {E:Env} (sub:Sub L H iH ef) (ax:SimH E ef) (bH:SimL E iH) {a b:AV} (h:eW L H a b):
  ∀{v:Value},bQ E a v→aQ E.w (fun c=>E.PA c∨E.fe c∨E.iQ c) (fun _=>False) b v:=by
 induction h with
 | undef a=>intro v _;exact .undef v
 | int k n=>intro v hv;have hv:aQ E.w E.PA E.PF (.int k n) v:=hv;cases hv;exact .int _ _
 | bool k=>intro v hv;have hv:aQ E.w E.PA E.PF (.bool k) v:=hv;cases hv;exact .bool _
 | str k=>intro v hv;have hv:aQ E.w E.PA E.PF (.str k) v:=hv;cases hv;exact .str _
 | eY=>intro v hv;have hv:aQ E.w E.PA E.PF .eY v:=hv;cases hv;exact .eY
 | fg=>intro v hv;have hv:aQ E.w E.PA E.PF .fg v:=hv;cases hv;exact .fg
 | aR rows full fr cW hw=>
  intro v hv
  have hv:aQ E.w E.PA E.PF (.aR rows full fr) v:=hv
  cases hv with
  | aR dY ec eN bU dd hrel=>
   exact .aR (fun c hc=>by
    have:=dY c hc
    simp only[Bool.false_eq_true,if_false]
    split at this
    ·exact .inl (ax.c4 c this)
    ·exact .inl this) ec (fun h=>eN (hw h)) bU dd hrel
 | cM cells c=>
  intro v hv
  have hv:aQ E.w E.PA E.PF (.cM cells c) v:=hv
  cases hv with
  | cM hc dd hrel=>exact .cM (.inl hc) dd fun j a ar=>(hrel j a ar).mono (fun _ _=>rfl) (fun _ h=>h.elim) (fun c hc=> .inl hc) (fun _ h=>h)
 | @et t c cells fF aL aE aq bx=>
  intro v hv
  obtain⟨bl,hm,rfl⟩:=(show ∃bl,E.mL t=some bl∧v= .pointer (some ⟨bl,c,none⟩) from hv)
  obtain⟨sT,aw,ty,vz,hw,ai⟩:=bH t bl hm
  obtain rfl:cells=sT:=by have:=sub.l _ _ aL;rw[vz] at this;exact(Option.some.inj this).symm
  have key:=aQ.cM (w:=E.w) (PA:=fun c=>E.PA c∨E.fe c∨E.iQ c) (PF:=fun _=>False) (cells:=fF) (col:=c) (c:=bl) (o:=0) (vs:=fun j=>(aw[j]?).getD undef)
   (.inr (.inr ⟨t,hm⟩))
   (fun j ar=>by
    have aS:j<aw.size:=by have:=ai.1;simp at this;omega
    rw[Nat.zero_add]
    rw[cell_of hw (Array.getElem?_eq_getElem aS)]
    simp[Array.getElem?_eq_getElem aS])
   (fun j b ar=>by
    have aS:j<cells.length:=by have:=(List.getElem?_eq_some_iff.1 ar).1;omega
    obtain⟨u,hu,fJ⟩:=ai.get (List.getElem?_eq_getElem aS)
    have:(aw[j]?).getD undef=u:=by rw[Array.getElem?_toList] at hu;rw[hu];rfl
    rw[this]
    exact bx j _ b (List.getElem?_eq_getElem aS) ar fJ.up)
  rw[Nat.zero_add] at key
  exact key
 | @ptr b g r c blk row row' hb aL eg aE aq bx=>
  intro v hv
  have hb:=sub.h b blk hb
  have im:=ax.dX b blk hb
  obtain⟨bl,hm,rfl⟩:=V3.zu (E:=E) (v:=v) (show V3 E (.ptr b g r c) v from hv) (im.trans aL)
  obtain⟨blk',aw,ty,q1,b8,hw,il,hlen,fb⟩:=ax.heap b bl hm
  obtain rfl:blk=blk':=by rw[hb] at q1;exact Option.some.inj q1
  exact aQ.cM (vs:=fun j=>(aw[r*E.sz b+j]?).getD undef) (.inr (.inl ⟨b,hm⟩))
   (fun j ar=>by
    have aS:j<row.length:=by omega
    obtain⟨u,hu,_⟩:=fb.2 r j row _ eg (List.getElem?_eq_getElem aS)
    rw[cell_of hw hu,hu];rfl)
   (fun j bV ar=>by
    have aS:j<row.length:=by have:=(List.getElem?_eq_some_iff.1 ar).1;omega
    obtain⟨u,hu,fJ⟩:=fb.2 r j row _ eg (List.getElem?_eq_getElem aS)
    rw[hu]
    exact bx j _ bV (List.getElem?_eq_getElem aS) ar fJ.up)
 | @ref b g off n full cW blk ia CP hb aL ap hP aD aE aq bx=>
  intro v hv
  have hb:=sub.h b blk hb
  have im:=ax.dX b blk hb
  rcases(show ea E (.ref b g off n full) v from hv) with⟨bw,_⟩ | ⟨e3,bw⟩
  ·omega
  ·rcases bw with⟨_,_,j_,A,rfl⟩ | ⟨c,cap,hm,rfl,mn,m8,n_⟩
   ·subst j_
    obtain rfl:ia=[]:=List.eq_nil_of_length_eq_zero ap
    exact aQ.aR (rows:=[]) (PB:=fun _=>False) (sz:=0) (vs:=fun _ _=>undef) (fun _ h=>h.elim) ⟨Nat.le_refl _,Nat.zero_le _⟩ (fun _=>rfl) (fun i row h=>by simp at h) (fun h=>by simp at h) (fun i j row a h=>by simp at h)
   ·obtain⟨blk',aw,ty,q1,b8,hw,il,hlen,fb⟩:=ax.heap b c hm
    obtain rfl:blk=blk':=by rw[hb] at q1;exact Option.some.inj q1
    subst ap
    have eg: ∀i,i<ia.length→ ∃row,blk.rows[off+i]?=some row:=fun i hi=>⟨_,List.getElem?_eq_getElem (by omega)⟩
    refine aQ.aR (PB:=fun c=>E.PA c∨E.fe c∨E.iQ c) (sz:=E.sz b) (vs:=fun i j=>(aw[(off+i)*E.sz b+j]?).getD undef) (fun c hc=>by simpa using hc) ⟨mn,hP⟩ (fun h=>m8 (CP h))
     (fun i row' dT=> ?_) (fun jt=>⟨c,off*E.sz b,rfl,.inr (.inl ⟨b,hm⟩),fun i j hi ar=> ?_⟩) (fun i j row' a dT ar=> ?_)
    ·obtain⟨row,hd⟩:=eg i (List.getElem?_eq_some_iff.1 dT).1
     rw[←aE i row row' hd dT];exact fb.1 _ row hd
    ·obtain⟨row,hd⟩:=eg i hi
     have aS:j<row.length:=by rw[fb.1 _ row hd];exact ar
     obtain⟨u,hu,_⟩:=fb.2 (off+i) j row _ hd (List.getElem?_eq_getElem aS)
     rw[show off*E.sz b+(i*E.sz b+j)=(off+i)*E.sz b+j by rw[Nat.add_mul];omega,cell_of hw hu,hu];rfl
    ·obtain⟨row,hd⟩:=eg i (List.getElem?_eq_some_iff.1 dT).1
     have aS:j<row.length:=by rw[aE i row row' hd dT];exact(List.getElem?_eq_some_iff.1 ar).1
     obtain⟨u,hu,fJ⟩:=fb.2 (off+i) j row _ hd (List.getElem?_eq_getElem aS)
     rw[hu]
     exact bx i j row row' _ a hd dT (List.getElem?_eq_getElem aS) ar fJ.up
 | @fn f caps u3 aE aq bx=>
  intro v hv
  obtain⟨vs,rfl,ai⟩:=(show ∃vs:List Value,v= .func (.func f) #[] vs.toArray∧aK (ea E) caps vs from hv)
  exact .fn (aE▸ai.1) fun i b u hb hu=>by
   have aS:i<caps.length:=by have:=(List.getElem?_eq_some_iff.1 hb).1;omega
   exact bx i _ b (List.getElem?_eq_getElem aS) hb (AH (ai.2 i _ u (List.getElem?_eq_getElem aS) hu))
theorem MU {L iH:List (Nat×List AV)} {H ef:List Blk} {E:Env} (sub:Sub L H iH ef) (ax:SimH E ef) (bH:SimL E iH) {a b:AV} (h:dP L H a b) {v:Value} (hv:V2 E a v):V2 E.frozen b v:=by
 rcases h with⟨l,eB,rfl,rfl,ai⟩ | h
 ·obtain⟨vs,rfl,af⟩:=hv
  refine⟨vs,rfl,ai.1▸af.1,fun i x u hx hu=> ?_⟩
  have aS:i<l.length:=by have:=(List.getElem?_eq_some_iff.1 hx).1;have:=ai.1;omega
  have aE:=List.getElem?_eq_getElem aS
  exact aQ.v1 (E:=E.frozen) (MT sub ax bH (ai.2 i _ x aE hx) (af.2 i _ u aE hu))
 ·by_cases hf: ∃l,a= .agg l
  ·obtain⟨l,rfl⟩:=hf
   cases h with
   | undef=>exact aQ.undef v
  ·rw[ma fun l e=>hf ⟨l,e⟩] at hv
   exact jF (aQ.v1 (E:=E.frozen) (MT sub ax bH h hv))
inductive fm (H:List Blk):AV→AV→Prop where
 | int (k:IntKind) (n:Int):fm H (.int k n) (.int k n)
 | bool (b:Bool):fm H (.bool b) (.bool b)
 | str (s:ByteArray):fm H (.str s) (.str s)
 | eY:fm H .eY .eY
 | fg:fm H .fg .fg
 | aR (rows:List (List AV)) (full cW:Bool) (hw:cW=true→full=true):fm H (.aR rows full true) (.aR rows cW true)
 | KX (full fr cW:Bool) (hw:cW=true→full=true):fm H (.aR [] full fr) (.aR [] cW true)
 | ref {b g off n:Nat} {full cW:Bool} {blk:Blk} {ia:List (List AV)} (hw:cW=true→full=true) (aw:Nat→Nat→AV) (hb:H[b]?=some blk) (aL:blk.bc=g) (ap:ia.length=n) (hP:n≤4611686018427387904) (aD:off+n≤blk.rows.length)
   (aE: ∀(i:Nat) (row row':List AV),blk.rows[off+i]?=some row→ia[i]?=some row'→row.length=row'.length)
   (aq: ∀(i j:Nat) (row:List AV) (a:AV),i<n→blk.rows[off+i]?=some row→row[j]?=some a→fm H a (aw i j))
   (hc: ∀(i j:Nat) (row':List AV) (c:AV),ia[i]?=some row'→row'[j]?=some c→c=hF (aw i j)):
   fm H (.ref b g off n full) (.aR ia cW true)
def qT (H:List Blk) (a b:AV):Prop:=(∃l eB,a= .agg l∧b= .agg eB∧aK (fm H) l eB)∨fm H a b
def jE (H:List Blk) (a b:AV):Prop:=(∃l eB,a= .tup l∧b= .tup eB∧aK (qT H) l eB)∨qT H a b
theorem ZB {H:List Blk} {a b:AV} (h:fm H a b):hJ b=true:=by cases h<;>rfl
theorem MW {H:List Blk} {E:Env} (ax:SimH E H) {a b:AV} (h:fm H a b):
  ∀{v:Value},bQ E a v→aQ E.w (fun c=>E.PF c∨E.fe c) (fun c=>E.PF c∨E.fe c) b v:=by
 induction h with
 | int k n=>intro v hv;have hv:aQ E.w E.PA E.PF (.int k n) v:=hv;cases hv;exact .int _ _
 | bool k=>intro v hv;have hv:aQ E.w E.PA E.PF (.bool k) v:=hv;cases hv;exact .bool _
 | str k=>intro v hv;have hv:aQ E.w E.PA E.PF (.str k) v:=hv;cases hv;exact .str _
 | eY=>intro v hv;have hv:aQ E.w E.PA E.PF .eY v:=hv;cases hv;exact .eY
 | fg=>intro v hv;have hv:aQ E.w E.PA E.PF .fg v:=hv;cases hv;exact .fg
 | aR rows full cW hw=>
  intro v hv
  have hv:aQ E.w E.PA E.PF (.aR rows full true) v:=hv
  cases hv with
  | aR dY ec eN bU dd hrel=>exact .aR (fun c hc=>by have:=dY c hc;simp at this ⊢;exact .inl this) ec (fun h=>eN (hw h)) bU dd hrel
 | KX full fr cW hw=>
  intro v hv
  have hv:aQ E.w E.PA E.PF (.aR [] full fr) v:=hv
  cases hv with
  | aR dY ec eN bU dd hrel=>exact aQ.aR (rows:=[]) (PB:=fun _=>False) (sz:=0) (vs:=fun _ _=>undef) (fun _ h=>h.elim) ec (fun h=>eN (hw h)) (fun i row h=>by simp at h) (fun h=>by simp at h) (fun i j row a h=>by simp at h)
 | @ref b g off n full cW blk ia CP aw hb aL ap hP aD aE aq hc bx=>
  intro v hv
  have im:=ax.dX b blk hb
  rcases(show ea E (.ref b g off n full) v from hv) with⟨bw,_⟩ | ⟨e3,bw⟩
  ·omega
  ·rcases bw with⟨_,_,j_,A,rfl⟩ | ⟨c,cap,hm,rfl,mn,m8,n_⟩
   ·subst j_
    obtain rfl:ia=[]:=List.eq_nil_of_length_eq_zero ap
    exact aQ.aR (rows:=[]) (PB:=fun _=>False) (sz:=0) (vs:=fun _ _=>undef) (fun _ h=>h.elim) ⟨Nat.le_refl _,Nat.zero_le _⟩ (fun _=>rfl) (fun i row h=>by simp at h) (fun h=>by simp at h) (fun i j row a h=>by simp at h)
   ·obtain⟨blk',sS,ty,q1,b8,hw,il,hlen,fb⟩:=ax.heap b c hm
    obtain rfl:blk=blk':=by rw[hb] at q1;exact Option.some.inj q1
    subst ap
    have eg: ∀i,i<ia.length→ ∃row,blk.rows[off+i]?=some row:=fun i hi=>⟨_,List.getElem?_eq_getElem (by omega)⟩
    refine aQ.aR (PB:=fun c=>E.PF c∨E.fe c) (sz:=E.sz b) (vs:=fun i j=>(sS[(off+i)*E.sz b+j]?).getD undef) (fun c hc=>by simpa using hc) ⟨mn,hP⟩ (fun h=>m8 (CP h))
     (fun i row' dT=> ?_) (fun jt=>⟨c,off*E.sz b,rfl,.inr ⟨b,hm⟩,fun i j hi ar=> ?_⟩) (fun i j row' a dT ar=> ?_)
    ·obtain⟨row,hd⟩:=eg i (List.getElem?_eq_some_iff.1 dT).1
     rw[←aE i row row' hd dT];exact fb.1 _ row hd
    ·obtain⟨row,hd⟩:=eg i hi
     have aS:j<row.length:=by rw[fb.1 _ row hd];exact ar
     obtain⟨u,hu,_⟩:=fb.2 (off+i) j row _ hd (List.getElem?_eq_getElem aS)
     rw[show off*E.sz b+(i*E.sz b+j)=(off+i)*E.sz b+j by rw[Nat.add_mul];omega,cell_of hw hu,hu];rfl
    ·have hi:=(List.getElem?_eq_some_iff.1 dT).1
     obtain⟨row,hd⟩:=eg i hi
     have aS:j<row.length:=by rw[aE i row row' hd dT];exact(List.getElem?_eq_some_iff.1 ar).1
     obtain⟨u,hu,fJ⟩:=fb.2 (off+i) j row _ hd (List.getElem?_eq_getElem aS)
     have h1:=bx i j row _ hi hd (List.getElem?_eq_getElem aS) fJ.up
     have h2:=ZB (aq i j row _ hi hd (List.getElem?_eq_getElem aS))
     rw[hu,hc i j row' a dT ar]
     exact Fv h2 h1 (fun c hc=>hc) (fun c hc=>hc)
def a_ (P:Program) (f:FuncId) (args:List AV) (t:AV):Prop:=dc P f args [] fun r ef=>jE ef r t
theorem Gt {P:Program} {f:FuncId} {args dg:List AV} {t:AV} {L iH:List (Nat×List AV)} {H ef:List Blk} {E:Env} {vs:List Value} (sub:Sub L H iH ef) (ax:SimH E ef) (bH:SimL E iH)
  (aC:aK (V2 E) args vs) (hs:aK (dP L H) args dg) (h:a_ P f dg t):
  Calls P f vs.toArray E.w fun e w'=> ∃v E',e= .returned v∧E'.w=w'∧jD E E'∧V3 E' t v:=by
 have ra:aK (V2 E.frozen) dg vs:=⟨hs.1▸aC.1,fun i x u hx hu=>by
  have aS:i<args.length:=by have:=(List.getElem?_eq_some_iff.1 hx).1;have:=hs.1;omega
  have aE:=List.getElem?_eq_getElem aS
  exact MU sub ax bH (hs.2 i _ x aE hx) (aC.2 i _ u aE hu)⟩
 refine(h.2 E.frozen vs (fun _=>rfl) (Ht ax) ra).mono ?_
 rintro e w' ⟨r,v,H',E1,rfl,aq,rfl,ap,ed,hv,bf⟩
 let N:Nat→Prop:=fun c=>E1.PF c∨E1.fe c
 have jO: ∀c,N c→E.w.heap.size≤c∧c<E1.w.heap.size:=by
  rintro c (hc | hc)
  ·exact⟨(bf.eD c hc).elim (fun h=>h.elim) id,ed.db c (ed.c4 c hc)⟩
  ·exact⟨(bf.ni c hc).elim (fun⟨b,hb⟩=>by cases hb) id,ed.eQ c hc⟩
 have kx: ∀c,c<E.w.heap.size→E1.w.heap[c]?=E.w.heap[c]?:=fun c hc=>bf.dj c hc (fun⟨b,hb⟩=>by cases hb) (fun⟨b,hb⟩=>by cases hb)
 let E':Env:={E with w:=E1.w,PA:=fun c=>E.PA c∨N c,PF:=fun c=>E.PF c∨N c}
 have af:jD E E':=
  {step:=⟨⟨fun c hc=> .inl hc,fun c hc=> .inl hc,fun c hc=>kx c (ax.db c hc),fun c hc=>kx c (ax.db c (ax.c4 c hc)),fun _=>Nat.le_refl _,fun _ _ h _=>⟨h,rfl,rfl⟩,fun _ _ h=>h⟩,
    bf.os,bf.tape,bf.output,bf.size,fun c hc _ _=>kx c hc,fun _ _ h=> .inl h,fun _ h=> .inl h,fun c hc=>hc.elim .inl (fun h=> .inr (jO c h).1),fun c hc=>hc.elim .inl (fun h=> .inr (jO c h).1)⟩
   m:=rfl,mL:=rfl,bc:=rfl,sz:=rfl,cp:=rfl
   dj:=kx
   eJ:=fun c hc=>hc.elim .inl (fun h=> .inr (jO c h))
   c4:=fun c hc=>hc.elim (fun h=> .inl (ax.c4 c h)) .inr
   eK:=fun c hc=>hc.elim (fun h=>(ax.eK c h).same (kx c (ax.db c (ax.c4 c h)))) (fun h=>by
    rcases h with h | ⟨b,hb⟩
    ·exact ed.eK c h
    ·obtain⟨_,aw,ty,_,_,q,_⟩:=ed.heap b c hb
     exact⟨aw,ty,q⟩)}
 have up: ∀{b:AV} {u:Value},aQ E1.w N N b u→bQ E' b u:=fun h=>aQ.v1 (E:=E') (h.mono (fun _ _=>rfl) (fun _ _=>rfl) (fun c hc=> .inr hc) (fun c hc=> .inr hc))
 have c9: ∀{a b:AV} {u:Value},fm H' a b→bQ E1 a u→bQ E' b u:=fun aC hu=>up (MW ed aC hu)
 have dn: ∀{a b:AV} {u:Value},qT H' a b→V2 E1 a u→V2 E' b u:=by
  rintro a b u (⟨l,eB,rfl,rfl,ai⟩ | h) hu
  ·obtain⟨ga,rfl,af⟩:=hu
   refine⟨ga,rfl,ai.1▸af.1,fun i x y hx bd=> ?_⟩
   have aS:i<l.length:=by have:=(List.getElem?_eq_some_iff.1 hx).1;have:=ai.1;omega
   have aE:=List.getElem?_eq_getElem aS
   exact c9 (ai.2 i _ x aE hx) (af.2 i _ y aE bd)
  ·have:bQ E1 a u:=by cases h<;>exact hu
   exact jF (c9 h this)
 have fi: ∀{a b:AV} {u:Value},jE H' a b→V3 E1 a u→V3 E' b u:=by
  rintro a b u (⟨l,eB,rfl,rfl,ai⟩ | h) hu
  ·obtain⟨ga,rfl,af⟩:=hu
   refine⟨ga,rfl,ai.1▸af.1,fun i x y hx bd=> ?_⟩
   have aS:i<l.length:=by have:=(List.getElem?_eq_some_iff.1 hx).1;have:=ai.1;omega
   have aE:=List.getElem?_eq_getElem aS
   exact dn (ai.2 i _ x aE hx) (af.2 i _ y aE bd)
  ·have:V2 E1 a u:=by
    rcases h with⟨l,eB,rfl,rfl,ai⟩ | h
    ·exact hu
    ·cases h<;>exact hu
   exact nW (dn h this)
 exact⟨v,E',rfl,rfl,af,fi aq hv⟩
def A1:AV→Bool
 | .agg _ | .tup _ | .fn _ _=>false
 | _=>true
def wh (fn:Fn) (first:Array Operand) (caps:List AV) (K:AV→Prop):Prop:=match fn with
 | .func f=>if first.isEmpty=true∧caps.all A1=true then K (.fn f caps) else False
 | _=>False
def dL:AV→Bool
 | .tup _=>false
 | _=>true
def jK (x:AV) (K:FuncId→List AV→Prop):Prop:=match x with
 | .fn f caps=>K f caps
 | _=>False
def mf (P:Program) (f:FuncId) (args:List AV) (L:List (Nat×List AV)) (H:List Blk) (K:AV→Prop):Prop:=
 args.all dL=true∧ ∃dg t,aK (dP L H) args dg∧a_ P f dg t∧K t
def BH (P:Program) (c:Call) (bp:Operand→AV) (L:List (Nat×List AV)) (H:List Blk) (K:AV→Prop):Prop:=match c.callee with
 | .builtin .len=>(match c.args.toList,c.argTypes.toList with
  | [x],[t]=>dM (h6 P t (bp x)) (pb (bp x) K)
  | _,_=>False)
 | .value f=>jK (bp f) fun g caps=>mf P g (c.args.toList.map bp++caps) L H K
 | _=>False
def pN (P:Program) (o:Oper) (bp:Operand→AV) (L:List (Nat×List AV)) (H:List Blk) (K:AV→Prop):Prop:=match o.op with
 | .move x=>K (bp x)
 | .assign x=>K (bp x)
 | .pick c a b=>me (bp c) fun z=>uY z (K (bp a)) (K (bp b))
 | .build t ps=>dM (ps.toList.all fun p=>dL (bp p.2)) (AY P t (ps.toList.map fun p=>(p.1,bp p.2)) K)
 | .buildSlice t n ps=>dM (ps.toList.all fun p=>dL (bp p.2)) (sP P t n (ps.toList.map fun p=>(p.1,bp p.2)) K)
 | .load t a=>mr P t (bp a) L H K
 | .nilCheck x=>DR (bp x) K
 | .binOp op t x y _=>pH P op t (bp x) (bp y) (ol y) K
 | .unOp op _ x=>Af op (bp x) K
 | .convert s d x=>Bn P s d (bp x) K
 | .makeFunc fn first caps=>wh fn first (caps.toList.map bp) K
 | .fieldAddr t x f=>BN P t (bp x) f K
 | .indexAddr t x i=>tv P t (bp x) (bp i) H K
 | .index t x i=>CX P t (bp x) (bp i) K
 | .slice t x lo hi mx=>(match mx with
  | none=>si P t (bp x) (lo.map bp) (hi.map bp) H K
  | some _=>False)
 | .extract x i=>BJ (bp x) i K
 | .call c=>BH P c bp L H K
 | _=>False
theorem Fy {P:Program} {o:Oper} {a:Act} {next:Act→World→Prop} {Q:Exit→Act→World→Prop} {s:Sem Value} {w w':World} {u:Value} (h:s.run P w= .ok u w') (k:next (a.put o.dst u) w'):
  o.upon P a next Q ((do pure (Next.value (←s)):Sem Next).run P w):=by
 rw[Sem.run_bind,h];exact k
theorem parts_eq (ps:Array (Nat×Operand)) (a:Act):(ps.toList.map fun p=>(p.1,a.eval p.2)).toArray=ps.map fun(i,x)=>(i,a.eval x):=by
 apply Array.ext'
 rw[Array.toList_map]
theorem DY {E:Env} {a:Act} {T:List AV} (bS: ∀t,V3 E (T.getD t .undef) (a.tmps.getD t undef)) (ps:List (Nat×Operand)) (ap: ∀p∈ps,∀l,bR T p.2≠ .tup l):
  aK (fun(x:Nat×AV) (y:Nat×Value)=>x.1=y.1∧V2 E x.2 y.2) (ps.map fun p=>(p.1,bR T p.2)) (ps.map fun p=>(p.1,a.eval p.2)):=by
 refine⟨by simp,fun i x y hx bd=> ?_⟩
 rw[List.getElem?_map] at hx bd
 cases ai:ps[i]? with
 | none=>simp[ai] at hx
 | some p=>
  simp[ai] at hx bd
  subst hx;subst bd
  refine⟨rfl,?_⟩
  have:=opv_rel bS p.2
  rwa [mb (ap p (List.mem_of_getElem? ai))] at this
theorem F8 {E:Env} {a:Act} {T:List AV} (bS: ∀t,V3 E (T.getD t .undef) (a.tmps.getD t undef)) (xs:List Operand) (ap: ∀x∈xs,∀l,bR T x≠ .tup l):
  aK (V2 E) (xs.map (bR T)) (xs.map a.eval):=by
 refine⟨by simp,fun i x y hx bd=> ?_⟩
 rw[List.getElem?_map] at hx bd
 cases ai:xs[i]? with
 | none=>simp[ai] at hx
 | some p=>
  simp[ai] at hx bd
  subst hx;subst bd
  have:=opv_rel bS p
  rwa [mb (ap p (List.mem_of_getElem? ai))] at this
theorem tJ {a:AV} (h:dL a=true): ∀l,a≠ .tup l:=by
 intro l e;subst e;cases h
theorem Lq {E:Env} {a:Act} {T:List AV} (bS: ∀t,V3 E (T.getD t .undef) (a.tmps.getD t undef)) (x:Option Operand):
  xu E (x.map (bR T)) (x.map a.eval):=by
 cases x with
 | none=>trivial
 | some x=>exact opv_rel bS x
theorem Gu {E:Env} {a:Act} {T:List AV} (bS: ∀t,V3 E (T.getD t .undef) (a.tmps.getD t undef)) {f:Operand} {g:FuncId} {caps:List AV} (h:bR T f= .fn g caps):
  ∃vs:List Value,a.eval f= .func (.func g) #[] vs.toArray∧aK (V2 E) caps vs:=by
 have:=opv_rel bS f
 rw[h] at this
 obtain⟨vs,e,ai⟩:=(show ∃vs:List Value,a.eval f= .func (.func g) #[] vs.toArray∧aK (ea E) caps vs from this)
 exact⟨vs,e,ai.mono fun _ _ k=>jF (AH k)⟩
theorem YG {P:Program} {f:FuncId} {w:World} {args:Array Value} (h:qk P f=true):(callFunc f args).run P w= .ok (.enter f args) w:=by
 unfold qk at h
 cases hf:P.funcs[f]? with
 | none=>simp[hf] at h
 | some fn=>
  simp[hf] at h
  obtain⟨h1,h2⟩:=h
  simp[callFunc,hf,h1]
  cases hb:fn.body with
  | none=>simp[hb] at h2
  | some c=>intro bw;cases bw
theorem Mn {P:Program} {c:Call} {a:Act} {ty:TypeId} {f:Operand} {g:FuncId} {vs:List Value} {w:World} (hc:c.callee= .value f) (hf:a.eval f= .func (.func g) #[] vs.toArray) (h:qk P g=true):
  (do let d ←resolve a.eval c ty;invoke d.target d.args:Sem Next).run P w= .ok (.enter g (c.args.toList.map a.eval++vs).toArray) w:=by
 unfold resolve
 rw[hc]
 simp only[hf,Deferred.ofValue,Sem.run_bind,Sem.run_pure,Result.andThen_ok,invoke]
 rw[YG h]
 simp
def uQ (E:Env) (o:Oper) (a:Act) (K:AV→Prop):Act→World→Prop:=fun gS w'=> ∃v dv E',K v∧E'.w=w'∧jD E E'∧V3 E' v dv∧gS=a.put o.dst dv
set_option maxHeartbeats 4000000 in
theorem G8 {P:Program} {o:Oper} {a:Act} {T:List AV} {E:Env} {L iH:List (Nat×List AV)} {H ef:List Blk} {K:AV→Prop} {Q:Exit→Act→World→Prop}
  (bS: ∀t,V3 E (T.getD t .undef) (a.tmps.getD t undef)) (sub:Sub L H iH ef) (ax:SimH E ef) (bH:SimL E iH) (h:pN P o (bR T) L H K):o.wp P a E.w (uQ E o a K) Q:=by
 have fin: ∀{s:Sem Value},(execOp a.eval o=(do pure (Next.value (←s))))→(∃r u E',K r∧s.run P E.w= .ok u E'.w∧jD E E'∧V3 E' r u)→o.wp P a E.w (uQ E o a K) Q:=by
  rintro s hs ⟨r,u,E',hK,aq,af,hv⟩
  unfold Oper.wp
  rw[hs]
  exact Fy aq ⟨r,u,E',hK,rfl,af,hv,rfl⟩
 have mY: ∀{s:Sem Value},(execOp a.eval o=(do pure (Next.value (←s))))→(∃r u,K r∧s.run P E.w= .ok u E.w∧V3 E r u)→o.wp P a E.w (uQ E o a K) Q:=by
  rintro s hs ⟨r,u,hK,aq,hv⟩
  exact fin hs ⟨r,u,E,hK,aq,jD.refl ax,hv⟩
 have wi: ∀x,execOp a.eval o=pure (.value (a.eval x))→K (bR T x)→o.wp P a E.w (uQ E o a K) Q:=by
  intro x hs hK
  unfold Oper.wp
  rw[hs]
  exact⟨_,_,E,hK,rfl,jD.refl ax,opv_rel bS x,rfl⟩
 obtain⟨dst,op,ty,pos,after,guard⟩:=o
 cases op with
 | move x=>exact wi x rfl h
 | assign x=>exact wi x rfl h
 | pick c x y=>
  obtain⟨b,hb,h1,h2⟩:=xE (show me (bR T c) fun z=>uY z (K (bR T x)) (K (bR T y)) from h)
  have hv:=opv_rel bS c
  rw[hb] at hv
  have he:a.eval c= .bool b:=V3.mS hv
  cases b with
  | true=>exact wi x (by simp[execOp,he,asBool]) (h1 rfl)
  | false=>exact wi y (by simp[execOp,he,asBool]) (h2 rfl)
 | build t ps=>
  obtain⟨ap,h⟩:=nr h
  have:=Pm (P:=P) (DY bS ps.toList fun p ai=>tJ (List.all_eq_true.1 ap p ai)) h
  exact mY (s:=Instr.build t (ps.toList.map fun p=>(p.1,a.eval p.2)).toArray) (by rw[parts_eq];rfl) this
 | buildSlice t n ps=>
  obtain⟨ap,h⟩:=nr h
  have:=Gm (P:=P) ax (DY bS ps.toList fun p ai=>tJ (List.all_eq_true.1 ap p ai)) h
  exact fin (s:=Instr.buildSlice t n (ps.toList.map fun p=>(p.1,a.eval p.2)).toArray) (by rw[parts_eq];rfl) this
 | load t x=>
  obtain⟨r,u,hK,aq,hv⟩:=KK sub ax bH (opv_rel bS x) h
  exact mY (s:=Instr.loadAt t (a.eval x)) rfl ⟨r,u,hK,aq,nW hv⟩
 | nilCheck x=>
  have hx:=opv_rel bS x
  have h:DR (bR T x) K:=h
  have key: ∀jG,a.eval x= .pointer (some jG)→K (bR T x)→Oper.wp P ⟨dst,.nilCheck x,ty,pos,after,guard⟩ a E.w (uQ E ⟨dst,.nilCheck x,ty,pos,after,guard⟩ a K) Q:=by
   intro jG he hK
   exact wi x (by simp[execOp,he]) hK
  cases nf:bR T x with
  | et s c=>
   rw[nf] at hx h
   obtain⟨bl,_,e⟩:=hx.wa
   exact key _ e (by rw[nf];exact h)
  | ptr b g r c=>
   rw[nf] at hx h
   rcases(show ea E (.ptr b g r c) _ from hx) with⟨_,bl,o,e⟩ | ⟨_,bl,_,e⟩<;>exact key _ e (by rw[nf];exact h)
  | cM cells c=>
   rw[nf] at hx h
   have gU:aQ E.w E.PA E.PF (.cM cells c) (a.eval x):=hx
   generalize hv:a.eval x=v at gU
   cases gU;exact key _ hv (by rw[nf];exact h)
  | _=>rw[nf] at h;exact h.elim
 | binOp op t x y ty2=>
  have CT:ol y=true→a.eval y= .slice none 0 0:=by
   intro bw
   unfold ol at bw
   split at bw
   ·rfl
   ·cases bw
  exact mY (s:=do eqGuard op t x y (a.eval x) (a.eval y);binOp op t (a.eval x) (a.eval y)) rfl (Pb (opv_rel bS x) (opv_rel bS y) CT h)
 | unOp op t x=>exact mY (s:=Op.unary op (a.eval x)) rfl (aaV (opv_rel bS x) h)
 | convert s d x=>exact mY (s:=Go.convert s d (a.eval x)) rfl (Qd (opv_rel bS x) h)
 | makeFunc fn first caps=>
  replace h:wh fn first (caps.toList.map (bR T)) K:=h
  cases fn with
  | func f=>
   replace h:if first.isEmpty=true∧(caps.toList.map (bR T)).all A1=true then K (.fn f (caps.toList.map (bR T))) else False:=h
   split at h
   ·rename_i hc
    obtain⟨h1,h2⟩:=hc
    have hf:first= #[]:=by simpa using h1
    subst hf
    refine mY (s:=Instr.makeFunc (.func f) (Array.map a.eval #[]) (caps.map a.eval)) rfl ⟨_,.func (.func f) #[] (caps.map a.eval),h,by simp[Instr.makeFunc],(caps.toList.map a.eval),by rw[←Array.toList_map,Array.toArray_toList],by simp,fun i x y hx bd=> ?_⟩
    rw[List.getElem?_map] at hx bd
    cases ai:caps.toList[i]? with
    | none=>simp[ai] at hx
    | some p=>
     simp[ai] at hx bd
     subst hx;subst bd
     have hv:=opv_rel bS p
     have eH:A1 (bR T p)=true:=List.all_eq_true.1 h2 _ (List.mem_map.2 ⟨p,List.mem_of_getElem? ai,rfl⟩)
     cases af:bR T p<;>rw[af] at hv eH<;>first | exact hv | cases eH
   ·exact h.elim
  | _=>exact h.elim
 | fieldAddr t x f=>exact mY (s:=Instr.fieldAt t (a.eval x) f) rfl (QK (opv_rel bS x) h)
 | indexAddr t x i=>exact mY (s:=Instr.indexAt t (a.eval x) (a.eval i)) rfl (TA sub ax (opv_rel bS x) (opv_rel bS i) h)
 | index t x i=>exact mY (s:=Instr.index t (a.eval x) (a.eval i)) rfl (TJ (opv_rel bS x) (opv_rel bS i) h)
 | slice t x lo hi mx=>
  cases mx with
  | none=>exact mY (s:=Instr.sliceAt t (a.eval x) (lo.map a.eval) (hi.map a.eval) none) rfl (Y3 sub ax (opv_rel bS x) (Lq bS lo) (Lq bS hi) h)
  | some m=>exact h.elim
 | extract x i=>exact mY (s:=Instr.extract (a.eval x) i) rfl (QF (opv_rel bS x) h)
 | call c=>
  have h:BH P c (bR T) L H K:=h
  obtain⟨callee,args,argTypes⟩:=c
  cases callee with
  | builtin b=>
   cases b with
   | len=>
    have h:(match args.toList,argTypes.toList with
     | [x],[t]=>dM (h6 P t (bR T x)) (pb (bR T x) K)
     | _,_=>False):=h
    split at h
    ·rename_i x t h1 h2
     obtain⟨SV,SW⟩:=nr h
     obtain rfl:args= #[x]:=by rw[←Array.toArray_toList (xs:=args),h1]
     obtain rfl:argTypes= #[t]:=by rw[←Array.toArray_toList (xs:=argTypes),h2]
     obtain⟨r,u,hK,aq,hv⟩:=WB (P:=P) (ty:=ty) (opv_rel bS x) SV SW
     unfold Oper.wp
     have:(execOp a.eval ⟨dst,.call ⟨.builtin .len,#[x],#[t]⟩,ty,pos,after,guard⟩).run P E.w= .ok (.value u) E.w:=by
      simp only[execOp,resolve,Sem.run_bind,Sem.run_pure,Result.andThen_ok,invoke,builtin]
      have e:Array.map a.eval #[x]= #[a.eval x]:=by simp
      rw[e,aq];rfl
     rw[this]
     exact⟨r,u,E,hK,rfl,jD.refl ax,hv,rfl⟩
    ·exact h.elim
   | _=>exact h.elim
  | value f=>
   have h:jK (bR T f) fun g caps=>mf P g (args.toList.map (bR T)++caps) L H K:=h
   cases hf:bR T f with
   | fn g caps=>
    rw[hf] at h
    obtain⟨ap,dg,t,hs,m9,hK⟩:=(show mf P g (args.toList.map (bR T)++caps) L H K from h)
    obtain⟨vs,he,rk⟩:=Gu bS hf
    unfold Oper.wp
    rw[show execOp a.eval ⟨dst,.call ⟨.value f,args,argTypes⟩,ty,pos,after,guard⟩=(do let d ←resolve a.eval ⟨.value f,args,argTypes⟩ ty;invoke d.target d.args) from rfl]
    rw[Mn (P:=P) (ty:=ty) (w:=E.w) (c:=⟨.value f,args,argTypes⟩) rfl he m9.1]
    have Cd:aK (V2 E) (args.toList.map (bR T)++caps) (args.toList.map a.eval++vs):=
     aK.append (F8 bS args.toList fun x hx=>tJ (List.all_eq_true.1 ap _ (by simp;exact .inl ⟨x,by simpa using hx,rfl⟩))) rk
    refine(Gt sub ax bH Cd hs m9).mono ?_
    rintro e w' ⟨v,E',rfl,rfl,af,hv⟩
    exact⟨t,v,E',hK,rfl,af,hv,rfl⟩
   | _=>rw[hf] at h;exact h.elim
  | _=>exact h.elim
 | _=>exact h.elim
theorem Qj (w:World) (o:Obj) (c:Nat) (h:c<w.heap.size):(w.drew.alloc o).heap[c]?=w.heap[c]?:=oN w.drew o c h
structure kU (w w':World) (o:Obj):Prop where
 os:w'.os=w.os
 tape:w'.tape=w.tape
 output:w'.output=w.output
 size:w'.heap.size=w.heap.size+1
 h9: ∀c,c<w.heap.size→w'.heap[c]?=w.heap[c]?
 new:w'.heap[w.heap.size]?=some o
theorem kU.alloc (w:World) (o:Obj):kU w (w.alloc o) o:=⟨rfl,rfl,rfl,by simp,fun c hc=>oN w o c hc,sI w o⟩
theorem kU.Qi (w:World) (o:Obj):kU w (w.drew.alloc o) o:=⟨rfl,rfl,rfl,by simp,fun c hc=>Qj w o c hc,sI w.drew o⟩
theorem SimH.ext {E:Env} {H H':List Blk} (h:SimH E H) (hs: ∀(b:Nat) (blk:Blk),H[b]?=some blk→H'[b]?=some blk) (aE:H.length≤H'.length) (aL: ∀(b:Nat) (blk:Blk),H.length≤b→H'[b]?=some blk→blk.bc=0):SimH E H':=
 {h with
  heap:=fun b c hb=>by
   obtain⟨blk,aw,ty,q1,q⟩:=h.heap b c hb
   exact⟨blk,aw,ty,hs b blk q1,q⟩
  dX:=fun b blk hb=>by
   rcases Nat.lt_or_ge b H.length with aS | e3
   ·have h1:=List.getElem?_eq_getElem aS
    have h2:=hs b _ h1
    rw[hb] at h2
    cases h2
    exact h.dX b _ h1
   ·rw[(h.fresh b e3).2,aL b blk e3 hb]
  fX:=fun b hb=>by
   obtain⟨blk,q1,q⟩:=h.fX b hb
   exact⟨blk,hs b blk q1,q⟩
  fresh:=fun b hb=>h.fresh b (Nat.le_trans aE hb)}
theorem SimH.snoc {E:Env} {H:List Blk} (h:SimH E H) {blk:Blk} (aL:blk.bc=0):SimH E (H++[blk]):=
 h.ext (fun b x hb=>by rw[List.getElem?_append_left (List.getElem?_eq_some_iff.1 hb).1];exact hb) (by simp) (fun b x hb hx=>by
  rw[List.getElem?_append_right hb] at hx
  have:b - H.length=0:=by
   rcases Nat.eq_zero_or_pos (b - H.length) with q | q
   ·exact q
   ·rw[List.getElem?_eq_none (by simp;omega)] at hx;cases hx
  rw[this] at hx;cases hx;exact aL)
theorem SimL.cons {E:Env} {L:List (Nat×List AV)} (h:SimL E L) {t:Nat} {cells:List AV} (ap:E.mL t=none):SimL E ((t,cells)::L):=fun s c hm=>by
 have:s≠t:=fun e=>by subst e;rw[ap] at hm;cases hm
 simp only[dt,if_neg this]
 exact h s c hm
theorem K_ {E:Env} {H:List Blk} {L:List (Nat×List AV)} {w':World} {aw:Array Value} {ty:TypeId} {t:Nat} {cells:List AV} (ax:SimH E H) (bH:SimL E L) (hw:kU E.w w' (.cells aw ty (0,0)))
  (bj:dt L t=some cells) (hm:E.mL t=none) (hc:aK (bQ E.bK) cells aw.toList):
  ∃E',E'.w=w'∧Step E E'∧SimH E' H∧SimL E' L∧V3 E' (.et t 0) (.pointer (some ⟨E.w.heap.size,0,none⟩))∧E'.m=E.m∧(∀s,s≠t→E'.mL s=E.mL s):=by
 let E':Env:={E with w:=w',mL:=fun s=>if s=t then some E.w.heap.size else E.mL s}
 have bf:Step E E':=
  {le:=⟨fun _ h=>h,fun _ h=>h,fun c hc=>hw.h9 c (ax.db c hc),fun c hc=>hw.h9 c (ax.db c (ax.c4 c hc)),fun _=>Nat.le_refl _,fun _ _ h _=>⟨h,rfl,rfl⟩,fun s c h=>by
    show(if s=t then _ else _)=_
    rw[if_neg (fun e=>by subst e;rw[hm] at h;cases h)];exact h⟩
   os:=hw.os,tape:=hw.tape,output:=hw.output
   size:=by show E.w.heap.size≤w'.heap.size;rw[hw.size];omega
   dj:=fun c hc _ _=>hw.h9 c hc
   hB:=fun _ _ h=> .inl h
   hR:=fun c ⟨s,hs⟩=>by
    have hs:(if s=t then some E.w.heap.size else E.mL s)=some c:=hs
    split at hs
    ·cases hs;exact .inr (Nat.le_refl _)
    ·exact .inl ⟨s,hs⟩
   eJ:=fun _ h=> .inl h
   eD:=fun _ h=> .inl h}
 have hml: ∀s c,E'.mL s=some c→(s=t∧c=E.w.heap.size)∨(s≠t∧E.mL s=some c):=by
  intro s c hs
  have hs:(if s=t then some E.w.heap.size else E.mL s)=some c:=hs
  split at hs
  ·rename_i e;cases hs;exact .inl ⟨e,rfl⟩
  ·rename_i e;exact .inr ⟨e,hs⟩
 have iq:=ax.eQ
 have ir:=ax.fq
 refine⟨E',rfl,bf,?_,?_,⟨E.w.heap.size,by show(if t=t then _ else _)=_;rw[if_pos rfl],rfl⟩,rfl,fun s hs=>if_neg hs⟩
 ·exact{
   heap:=fun b c hb=>by
    obtain⟨blk,bM,gA,q1,b8,q2,q3,q4,cD,cu⟩:=ax.heap b c hb
    refine⟨blk,bM,gA,q1,b8,?_,q3,q4,cD,fun i j row a aq ar=> ?_⟩
    ·show w'.heap[c]?=_;rw[hw.h9 c (iq c ⟨b,hb⟩)];exact q2
    ·obtain⟨u,hu,dT⟩:=cu i j row a aq ar
     exact⟨u,hu,dT.le bf.le.bK⟩
   dX:=ax.dX
   fX:=ax.fX
   fresh:=ax.fresh
   gu:=ax.gu
   hS:=fun s s' c h1 h2=>by
    rcases hml s c h1 with⟨d1,aT⟩ | ⟨_,c7⟩<;>rcases hml s' c h2 with⟨d2,e2⟩ | ⟨_,gv⟩
    ·rw[d1,d2]
    ·have:=ir c ⟨s',gv⟩;omega
    ·have:=ir c ⟨s,c7⟩;omega
    ·exact ax.hS s s' c c7 gv
   fz:=fun b s c h1 h2=>by
    rcases hml s c h2 with⟨rfl,rfl⟩ | ⟨_,h2⟩
    ·have:=iq _ ⟨b,h1⟩;omega
    ·exact ax.fz b s c h1 h2
   gw:=ax.gw
   gM:=fun c hc ⟨s,hs⟩=>by
    rcases hml s c hs with⟨rfl,rfl⟩ | ⟨_,hs⟩
    ·have:=ax.db _ hc;omega
    ·exact ax.gM c hc ⟨s,hs⟩
   c4:=ax.c4
   eK:=fun c hc=>(ax.eK c hc).same (hw.h9 c (ax.db c (ax.c4 c hc)))
   db:=fun c hc=>Nat.lt_of_lt_of_le (ax.db c hc) bf.size
   eQ:=fun c hc=>Nat.lt_of_lt_of_le (iq c hc) bf.size
   fq:=fun c ⟨s,hs⟩=>by
    rcases hml s c hs with⟨rfl,rfl⟩ | ⟨_,hs⟩
    ·show _<w'.heap.size;rw[hw.size];omega
    ·exact Nat.lt_of_lt_of_le (ir c ⟨s,hs⟩) bf.size}
 ·intro s c hs
  rcases hml s c hs with⟨rfl,rfl⟩ | ⟨_,hs⟩
  ·exact⟨cells,aw,ty,bj,hw.new,hc.mono fun _ _ k=>k.le bf.le.bK⟩
  ·obtain⟨fF,bM,gA,q1,q2,q3⟩:=bH s c hs
   exact⟨fF,bM,gA,q1,by show w'.heap[c]?=_;rw[hw.h9 c (ir c ⟨s,hs⟩)];exact q2,q3.mono fun _ _ k=>k.le bf.le.bK⟩
theorem tG {E:Env} {H H':List Blk} {L:List (Nat×List AV)} {w':World} {aw:Array Value} {ty:TypeId} {b cap:Nat} {blk:Blk} (ax:SimH E H) (bH:SimL E L) (hw:kU E.w w' (.cells aw ty (0,0)))
  (hb:H'[b]?=some blk) (aD: ∀bI,bI≠b→H'[bI]?=H[bI]?) (hlen:b<H.length→H'.length=H.length) (Ii:H.length≤H'.length)
  (im:(E.m b=none∧blk.bc=E.bc b)∨E.bc b<blk.bc) (il:aw.size=cap*blk.sz) (ec:blk.rows.length≤cap)
  (aq:sF E blk.sz blk.rows aw):
  ∃E',E'.w=w'∧Step E E'∧SimH E' H'∧SimL E' L∧E'.bc b=blk.bc∧E'.m b=some (some E.w.heap.size)∧E'.sz b=blk.sz∧E'.cp b=cap∧(∀bI,bI≠b→E'.m bI=E.m bI)∧E'.mL=E.mL:=by
 let E':Env:={E with w:=w',m:=fun bI=>if bI=b then some (some E.w.heap.size) else E.m bI,bc:=fun bI=>if bI=b then blk.bc else E.bc bI,sz:=fun bI=>if bI=b then blk.sz else E.sz bI,cp:=fun bI=>if bI=b then cap else E.cp bI}
 have bf:Step E E':=
  {le:=⟨fun _ h=>h,fun _ h=>h,fun c hc=>hw.h9 c (ax.db c hc),fun c hc=>hw.h9 c (ax.db c (ax.c4 c hc)),fun bI=>by
     show _≤(if bI=b then _ else _)
     split
     ·rename_i e;subst e;rcases im with⟨_,e⟩ | e<;>omega
     ·exact Nat.le_refl _,fun bI x hx aL=>by
     have m_:(if bI=b then blk.bc else E.bc bI)=E.bc bI:=aL
     have cd:bI≠b:=fun e=>by
      subst e
      rw[if_pos rfl] at m_
      rcases im with⟨ap,_⟩ | e
      ·rw[ap] at hx;cases hx
      ·omega
     refine⟨?_,?_,?_⟩
     ·show(if bI=b then _ else _)=_;rw[if_neg cd];exact hx
     ·show(if bI=b then _ else _)=_;rw[if_neg cd]
     ·show(if bI=b then _ else _)=_;rw[if_neg cd],fun _ _ h=>h⟩
   os:=hw.os,tape:=hw.tape,output:=hw.output
   size:=by show E.w.heap.size≤w'.heap.size;rw[hw.size];omega
   dj:=fun c hc _ _=>hw.h9 c hc
   hB:=fun s c hs=>by
    have hs:(if s=b then some (some E.w.heap.size) else E.m s)=some (some c):=hs
    split at hs
    ·cases hs;exact .inr (Nat.le_refl _)
    ·exact .inl hs
   hR:=fun _ h=> .inl h
   eJ:=fun _ h=> .inl h
   eD:=fun _ h=> .inl h}
 have hm: ∀s c,E'.m s=some (some c)→(s=b∧c=E.w.heap.size)∨(s≠b∧E.m s=some (some c)):=by
  intro s c hs
  have hs:(if s=b then some (some E.w.heap.size) else E.m s)=some (some c):=hs
  split at hs
  ·rename_i e;cases hs;exact .inl ⟨e,rfl⟩
  ·rename_i e;exact .inr ⟨e,hs⟩
 have iq:=ax.eQ
 have ir:=ax.fq
 have bU: ∀s,s≠b→E'.sz s=E.sz s:=fun s hs=>if_neg hs
 have n_: ∀s,s≠b→E'.cp s=E.cp s:=fun s hs=>if_neg hs
 have yO:E'.sz b=blk.sz:=if_pos rfl
 have Cl:E'.cp b=cap:=if_pos rfl
 have H8:E'.bc b=blk.bc:=if_pos rfl
 refine⟨E',rfl,bf,?_,?_,H8,if_pos rfl,yO,Cl,fun bI dS=>if_neg dS,rfl⟩
 ·exact{
   heap:=fun s c hs=>by
    rcases hm s c hs with⟨rfl,rfl⟩ | ⟨cd,hs⟩
    ·refine⟨blk,aw,ty,hb,yO,hw.new,by rw[Cl,yO];exact il,by rw[Cl];exact ec,?_⟩
     rw[yO]
     exact⟨aq.1,fun i j row a h1 h2=>by obtain⟨u,hu,dT⟩:=aq.2 i j row a h1 h2;exact⟨u,hu,dT.le bf.le.bK⟩⟩
    ·obtain⟨blk',bM,gA,q1,b8,q2,q3,q4,cD,cu⟩:=ax.heap s c hs
     refine⟨blk',bM,gA,by rw[aD s cd];exact q1,by rw[bU s cd];exact b8,?_,by rw[n_ s cd,bU s cd];exact q3,by rw[n_ s cd];exact q4,by rw[bU s cd];exact cD,fun i j row a aq ar=> ?_⟩
     ·show w'.heap[c]?=_;rw[hw.h9 c (iq c ⟨s,hs⟩)];exact q2
     ·obtain⟨u,hu,dT⟩:=cu i j row a aq ar
      exact⟨u,by rw[bU s cd];exact hu,dT.le bf.le.bK⟩
   dX:=fun s x hs=>by
    by_cases e:s=b
    ·subst e;rw[hb] at hs;cases hs;exact H8
    ·rw[aD s e] at hs
     show(if s=b then _ else _)=_
     rw[if_neg e];exact ax.dX s x hs
   fX:=fun s hs=>by
    have hs:(if s=b then some (some E.w.heap.size) else E.m s)=some none:=hs
    split at hs
    ·cases hs
    ·rename_i e
     obtain⟨x,q1,q2⟩:=ax.fX s hs
     exact⟨x,by rw[aD s e];exact q1,by rw[bU s e];exact q2⟩
   fresh:=fun s hs=>by
    have aS:b<H'.length:=(List.getElem?_eq_some_iff.1 hb).1
    have e:s≠b:=by omega
    have:=ax.fresh s (by omega)
    exact⟨by show(if s=b then _ else _)=_;rw[if_neg e];exact this.1,by show(if s=b then _ else _)=_;rw[if_neg e];exact this.2⟩
   gu:=fun s s' c h1 h2=>by
    rcases hm s c h1 with⟨d1,aT⟩ | ⟨_,c7⟩<;>rcases hm s' c h2 with⟨d2,e2⟩ | ⟨_,gv⟩
    ·rw[d1,d2]
    ·have:=iq c ⟨s',gv⟩;omega
    ·have:=iq c ⟨s,c7⟩;omega
    ·exact ax.gu s s' c c7 gv
   hS:=ax.hS
   fz:=fun s t c h1 h2=>by
    rcases hm s c h1 with⟨rfl,rfl⟩ | ⟨_,h1⟩
    ·have:=ir _ ⟨t,h2⟩;omega
    ·exact ax.fz s t c h1 h2
   gw:=fun c hc ⟨s,hs⟩=>by
    rcases hm s c hs with⟨rfl,rfl⟩ | ⟨_,hs⟩
    ·have:=ax.db _ hc;omega
    ·exact ax.gw c hc ⟨s,hs⟩
   gM:=ax.gM
   c4:=ax.c4
   eK:=fun c hc=>(ax.eK c hc).same (hw.h9 c (ax.db c (ax.c4 c hc)))
   db:=fun c hc=>Nat.lt_of_lt_of_le (ax.db c hc) bf.size
   eQ:=fun c ⟨s,hs⟩=>by
    rcases hm s c hs with⟨rfl,rfl⟩ | ⟨_,hs⟩
    ·show _<w'.heap.size;rw[hw.size];omega
    ·exact Nat.lt_of_lt_of_le (iq c ⟨s,hs⟩) bf.size
   fq:=fun c hc=>Nat.lt_of_lt_of_le (ir c hc) bf.size}
 ·intro s c hs
  obtain⟨fF,bM,gA,q1,q2,q3⟩:=bH s c hs
  exact⟨fF,bM,gA,q1,by show w'.heap[c]?=_;rw[hw.h9 c (ir c ⟨s,hs⟩)];exact q2,q3.mono fun _ _ k=>k.le bf.le.bK⟩
theorem Mf {E:Env} {H:List Blk} {L:List (Nat×List AV)} {w':World} {b:Nat} {x:Option Nat} {blk blk':Blk} (ax:SimH E H) (bH:SimL E L)
  (hm:E.m b=some x) (hb:H[b]?=some blk) (aL:blk'.bc=blk.bc+1) (kw:blk'.sz=blk.sz)
  (aD:w'.os=E.w.os) (Tk:w'.tape=E.w.tape) (SZ:w'.output=E.w.output) (bU:w'.heap.size=E.w.heap.size)
  (hw: ∀c,x≠some c→w'.heap[c]?=E.w.heap[c]?)
  (hx: ∀c,x=some c→ ∃aw ty,w'.heap[c]?=some (.cells aw ty (0,0))∧aw.size=E.cp b*E.sz b∧blk'.rows.length≤E.cp b∧sF E (E.sz b) blk'.rows aw):
  ∃E',E'.w=w'∧Step E E'∧SimH E' (H.set b blk')∧SimL E' L∧E'.bc b=blk'.bc∧E'.m=E.m∧E'.sz=E.sz∧E'.cp=E.cp∧E'.mL=E.mL:=by
 let E':Env:={E with w:=w',bc:=fun bI=>if bI=b then blk'.bc else E.bc bI}
 have im:=ax.dX b blk hb
 have cd: ∀c,E.PA c→x≠some c:=fun c hc e=>ax.gw c hc ⟨b,by rw[hm,e]⟩
 have bf:Step E E':=
  {le:=⟨fun _ h=>h,fun _ h=>h,fun c hc=>hw c (cd c hc),fun c hc=>hw c (cd c (ax.c4 c hc)),fun bI=>by
     show _≤(if bI=b then _ else _)
     split
     ·rename_i e;subst e;omega
     ·exact Nat.le_refl _,fun bI y bd SE=>by
     have m_:(if bI=b then blk'.bc else E.bc bI)=E.bc bI:=SE
     have tk:bI≠b:=fun e=>by subst e;rw[if_pos rfl] at m_;omega
     exact⟨bd,rfl,rfl⟩,fun _ _ h=>h⟩
   os:=aD,tape:=Tk,output:=SZ
   size:=by show E.w.heap.size≤w'.heap.size;rw[bU];exact Nat.le_refl _
   dj:=fun c hc h1 _=>hw c (fun e=>h1 ⟨b,by rw[hm,e]⟩)
   hB:=fun _ _ h=> .inl h
   hR:=fun _ h=> .inl h
   eJ:=fun _ h=> .inl h
   eD:=fun _ h=> .inl h}
 have n9:b<H.length:=(List.getElem?_eq_some_iff.1 hb).1
 refine⟨E',rfl,bf,?_,?_,if_pos rfl,rfl,rfl,rfl,rfl⟩
 ·exact{ax with
   eK:=fun b_ jd=>(ax.eK b_ jd).same (bf.le.wf b_ jd)
   heap:=fun s c hs=>by
    by_cases e:s=b
    ·subst e
     have IB:x=some c:=by
      have:E.m s=some (some c):=hs
      rw[hm] at this;exact Option.some.inj this
     obtain⟨u0,abt,abX,q1,b8,q⟩:=ax.heap s c (by rw[hm,IB])
     obtain rfl:blk=u0:=by rw[hb] at q1;exact Option.some.inj q1
     obtain⟨aw,ty,h1,h2,aH,bn⟩:=hx c IB
     exact⟨blk',aw,ty,by rw[List.getElem?_set_self n9],b8.trans kw.symm,h1,h2,aH,bn.1,fun i j row a aq ar=>by
      obtain⟨u,hu,dT⟩:=bn.2 i j row a aq ar;exact⟨u,hu,dT.le bf.le.bK⟩⟩
    ·obtain⟨u0,bM,gA,q1,b8,q2,q3,q4,cD,cu⟩:=ax.heap s c hs
     refine⟨u0,bM,gA,by rw[List.getElem?_set_ne (fun h=>e h.symm)];exact q1,b8,?_,q3,q4,cD,fun i j row a aq ar=> ?_⟩
     ·show w'.heap[c]?=_
      rw[hw c (fun h=>e (ax.gu s b c hs (by rw[hm,h])))];exact q2
     ·obtain⟨u,hu,dT⟩:=cu i j row a aq ar
      exact⟨u,hu,dT.le bf.le.bK⟩
   dX:=fun s y hs=>by
    by_cases e:s=b
    ·subst e;rw[List.getElem?_set_self n9] at hs;cases hs;exact if_pos rfl
    ·rw[List.getElem?_set_ne (fun h=>e h.symm)] at hs
     show(if s=b then _ else _)=_
     rw[if_neg e];exact ax.dX s y hs
   fX:=fun s hs=>by
    obtain⟨y,q1,q2⟩:=ax.fX s hs
    by_cases e:s=b
    ·subst e
     obtain rfl:blk=y:=by rw[hb] at q1;exact Option.some.inj q1
     exact⟨blk',by rw[List.getElem?_set_self n9],q2.trans kw.symm⟩
    ·exact⟨y,by rw[List.getElem?_set_ne (fun h=>e h.symm)];exact q1,q2⟩
   fresh:=fun s hs=>by
    rw[List.length_set] at hs
    have e:s≠b:=by omega
    have:=ax.fresh s hs
    exact⟨this.1,by show(if s=b then _ else _)=_;rw[if_neg e];exact this.2⟩
   db:=fun c hc=>Nat.lt_of_lt_of_le (ax.db c hc) bf.size
   eQ:=fun c hc=>Nat.lt_of_lt_of_le (ax.eQ c hc) bf.size
   fq:=fun c hc=>Nat.lt_of_lt_of_le (ax.fq c hc) bf.size}
 ·intro s c hs
  obtain⟨fF,bM,gA,q1,q2,q3⟩:=bH s c hs
  refine⟨fF,bM,gA,q1,?_,q3.mono fun _ _ k=>k.le bf.le.bK⟩
  show w'.heap[c]?=_
  rw[hw c (fun e=>ax.fz b s c (by rw[hm,e]) hs)];exact q2
theorem ze {E:Env} {H:List Blk} {L:List (Nat×List AV)} {blk:Blk} (ax:SimH E H) (bH:SimL E L) (aL:blk.bc=0) (aq:blk.rows=[]):
  ∃E',E'.w=E.w∧Step E E'∧SimH E' (H++[blk])∧SimL E' L∧E'.bc H.length=0∧E'.m H.length=some none∧(∀b,b≠H.length→E'.m b=E.m b)∧E'.mL=E.mL:=by
 have hs:=ax.snoc aL
 have ap:=ax.fresh H.length (Nat.le_refl _)
 let E':Env:={E with m:=fun b=>if b=H.length then some none else E.m b,sz:=fun b=>if b=H.length then blk.sz else E.sz b}
 have o0: ∀b c,E'.m b=some (some c)→E.m b=some (some c)∧b≠H.length:=by
  intro b c h
  have h:(if b=H.length then some none else E.m b)=some (some c):=h
  split at h
  ·cases h
  ·exact⟨h,by assumption⟩
 have bf:Step E E':=
  {le:=⟨fun _ h=>h,fun _ h=>h,fun _ _=>rfl,fun _ _=>rfl,fun _=>Nat.le_refl _,fun b x hx _=>by
     have cd:b≠H.length:=fun e=>by subst e;rw[ap.1] at hx;cases hx
     exact⟨by show(if b=H.length then _ else _)=_;rw[if_neg cd];exact hx,by show(if b=H.length then _ else _)=_;rw[if_neg cd],rfl⟩,fun _ _ h=>h⟩
   os:=rfl,tape:=rfl,output:=rfl,size:=Nat.le_refl _
   dj:=fun _ _ _ _=>rfl
   hB:=fun b c h=> .inl (o0 b c h).1
   hR:=fun _ h=> .inl h
   eJ:=fun _ h=> .inl h
   eD:=fun _ h=> .inl h}
 refine⟨E',rfl,bf,?_,fun s c hm=> ?_,ap.2,if_pos rfl,fun b hb=>if_neg hb,rfl⟩
 ·exact{hs with
   heap:=fun b c h=>by
    obtain⟨h,cd⟩:=o0 b c h
    obtain⟨u0,bM,gA,q1,b8,q2,q3,q4,cD,cu⟩:=hs.heap b c h
    have bU:E'.sz b=E.sz b:=if_neg cd
    exact⟨u0,bM,gA,q1,by rw[bU];exact b8,q2,by rw[bU];exact q3,q4,by rw[bU];exact cD,fun i j row a aq ar=>by
     obtain⟨u,hu,dT⟩:=cu i j row a aq ar
     exact⟨u,by rw[bU];exact hu,dT.le bf.le.bK⟩⟩
   fX:=fun b h=>by
    by_cases e:b=H.length
    ·subst e
     exact⟨blk,by simp,if_pos rfl⟩
    ·have h:E.m b=some none:=by
      have h:(if b=H.length then some none else E.m b)=some none:=h
      rwa [if_neg e] at h
     obtain⟨y,q1,q2⟩:=hs.fX b h
     exact⟨y,q1,by show(if b=H.length then _ else _)=_;rw[if_neg e];exact q2⟩
   fresh:=fun b h=>by
    have:=hs.fresh b h
    have e:b≠H.length:=by simp at h;omega
    exact⟨by show(if b=H.length then _ else _)=_;rw[if_neg e];exact this.1,this.2⟩
   gu:=fun b bI c h1 h2=>hs.gu b bI c (o0 b c h1).1 (o0 bI c h2).1
   fz:=fun b t c h1 h2=>hs.fz b t c (o0 b c h1).1 h2
   gw:=fun c hc ⟨b,h⟩=>hs.gw c hc ⟨b,(o0 b c h).1⟩
   eQ:=fun c ⟨b,h⟩=>hs.eQ c ⟨b,(o0 b c h).1⟩}
 ·obtain⟨fF,bM,gA,q1,q2,q3⟩:=bH s c hm
  exact⟨fF,bM,gA,q1,q2,q3.mono fun _ _ k=>k.le bf.le.bK⟩
def wM (fr:Bool) (row:List AV):List AV:=match fr with
 | true=>row.map mC
 | false=>row
def ki (fr:Bool) (rows:List (List AV)):List (List AV):=match fr with
 | true=>rows.map fun row=>row.map mC
 | false=>rows
theorem Yu (fr:Bool) (rows:List (List AV)):ki fr rows=rows.map (wM fr):=by
 cases fr
 ·show rows=rows.map fun row=>row
  simp
 ·rfl
theorem Yt (fr:Bool) (row:List AV):(wM fr row).length=row.length:=by
 cases fr<;>simp[wM]
def rowsOf (H:List Blk) (x:AV):Option (List (List AV)):=match x with
 | .aR rows _ fr=>some (ki fr rows)
 | .ref b g off n _=>(H[b]?).bind fun blk=>if blk.bc=g∧off+n≤blk.rows.length then some ((blk.rows.drop off).take n) else none
 | .str s=>some (s.data.toList.map fun c=>[.int .u8 c.toNat])
 | _=>none
def Ml (H:List Blk) (x:AV) (K:List (List AV)→Prop):Prop:=match x with
 | .aR rows _ fr=>K (ki fr rows)
 | .ref b g off n _=>cn H[b]? fun blk=>blk.bc=g∧off+n≤blk.rows.length∧K ((blk.rows.drop off).take n)
 | .str s=>K (s.data.toList.map fun c=>[.int .u8 c.toNat])
 | _=>False
theorem YC {H:List Blk} {x:AV} {K:List (List AV)→Prop} (h:Ml H x K): ∃bW,rowsOf H x=some bW∧K bW:=by
 cases x with
 | aR rows full fr=>exact⟨_,rfl,h⟩
 | ref b g off n full=>
  obtain⟨blk,hb,h1,h2,aH⟩:=eu (show cn H[b]? fun blk=>blk.bc=g∧off+n≤blk.rows.length∧K ((blk.rows.drop off).take n) from h)
  exact⟨_,by show(H[b]?).bind _=_;rw[hb];show(if blk.bc=g∧off+n≤blk.rows.length then _ else _)=_;rw[if_pos ⟨h1,h2⟩],aH⟩
 | str s=>exact⟨_,rfl,h⟩
 | _=>exact h.elim
def qW (P:Program) (e t2:TypeId) (x:AV):Bool:=match x with
 | .str _=>(match P.underlying t2 with
  | some .string=>(match P.underlying e with
   | some (.int .u8)=>P.cellsOf e==1
   | _=>false)
  | _=>false)
 | _=>(match P.underlying t2 with
  | some (.slice e2)=>e2==e
  | _=>false)
def qu (n:Nat) (bW:List (List AV)):Prop:= ∀row∈bW,row.length=n∧ ∀a∈row,hX a=true
abbrev l6 (r:Type):Type:=AV→List (Nat×List AV)→List Blk→r
def qV (P:Program) (t t2:TypeId) (s x:AV) (L:List (Nat×List AV)) (H:List Blk) (K:l6 Prop):Prop:=
 cn (ht P t) fun e=>cn (kT P e) fun z=>if z.length=P.cellsOf e∧0<z.length∧qW P e t2 x=true then Ml H x fun bW=>
  qu z.length bW∧(match s with
  | .aR rows full fr=>full=true∧(∀row∈rows,row.length=z.length)∧(rows.length+bW.length)*P.bytesOf e≤140737488355328∧rows.length+bW.length≤4611686018427387904∧(rows≠[]→bW≠[])∧
    K (.ref H.length 0 0 (rows.length+bW.length) false) L (H++[⟨0,z.length,rows++bW⟩])
  | .ref b g off n full=>off=0∧cn H[b]? fun blk=>blk.bc=g∧blk.sz=z.length∧blk.rows.length=n∧(n+bW.length)*P.bytesOf e≤140737488355328∧n+bW.length≤4611686018427387904∧
    K (.ref b (g+1) 0 (n+bW.length) false) L (H.set b ⟨g+1,z.length,blk.rows++bW⟩)
  | _=>False)
 else False
structure xy (P:Program) (E:Env) (t2:TypeId) (size:Nat) (bW:List (List AV)) (gY:Value) (news:List Value):Prop where
 len:news.length=bW.length*size
 rel: ∀(i j:Nat) (row:List AV) (a:AV),bW[i]?=some row→row[j]?=some a→ ∃u,news[i*size+j]?=some u∧bQ E.bK a u∧u.oneCell'=true
 one: ∀u∈news,u.oneCell'=true
 num:(∃e2,P.underlying t2=some (.slice e2))∨P.underlying t2=some .string
 lenOf: ∀w,(Builtin.lenOf gY).run P w= .ok bW.length w
 cells: ∀w,(w=E.w∨w=E.w.drew)→(Builtin.firstCells size bW.length gY).run P w= .ok news.toArray w
theorem Ln {size:Nat} {bW:List (List AV)} {news:List Value} {R:AV→Value→Prop} (eH: ∀row∈bW,row.length=size) (len:news.length=bW.length*size)
  (rel: ∀(i j:Nat) (row:List AV) (a:AV),bW[i]?=some row→row[j]?=some a→ ∃u,news[i*size+j]?=some u∧R a u∧u.oneCell'=true): ∀u∈news,u.oneCell'=true:=by
 intro u hu
 obtain⟨k,hk⟩:=List.mem_iff_getElem?.1 hu
 have jS:k<bW.length*size:=by rw[←len];exact(List.getElem?_eq_some_iff.1 hk).1
 have jt:0<size:=by
  rcases Nat.eq_zero_or_pos size with q | q
  ·rw[q,Nat.mul_zero] at jS;omega
  ·exact q
 have hi:k / size<bW.length:=(Nat.div_lt_iff_lt_mul jt).2 jS
 have eg:=List.getElem?_eq_getElem hi
 have hlen:(bW[k / size]).length=size:=eH _ (List.getElem_mem hi)
 have ar:k%size<(bW[k / size]).length:=by rw[hlen];exact Nat.mod_lt _ jt
 obtain⟨v,h1,h2,aH⟩:=rel (k / size) (k%size) _ _ eg (List.getElem?_eq_getElem ar)
 rw[Nat.div_add_mod' k size,hk] at h1
 cases h1;exact aH
theorem abe {P:Program} {e t2:TypeId} {x:AV} {bW:List (List AV)} {E:Env} {H:List Blk} {gY:Value} {size:Nat} (ax:SimH E H) (hx:V2 E x gY) (bU:size=P.cellsOf e) (bj:qW P e t2 x=true)
  (aq:rowsOf H x=some bW) (eH:qu size bW): ∃news,xy P E t2 size bW gY news:=by
 have yH: ∀row∈bW,row.length=size:=fun row h=>(eH row h).1
 cases x with
 | aR rows full fr=>
  have dx:ki fr rows=bW:=Option.some.inj aq
  have aT:bW=rows.map (wM fr):=by rw[←dx];exact Yu fr rows
  have yK:bW.length=rows.length:=by rw[aT,List.length_map]
  have oe: ∀row∈rows,row.length=size:=fun row h=>by
   rw[←Yt fr row];exact yH _ (by rw[aT];exact List.mem_map_of_mem h)
  have hu: ∃e2,P.underlying t2=some (.slice e2):=by
   unfold qW at bj
   simp only at bj
   split at bj
   ·exact⟨_,by assumption⟩
   ·cases bj
  obtain⟨e2,hu⟩:=hu
  have gU:aQ E.w E.PA E.PF (.aR rows full fr) gY:=hx
  cases gU with
  | @aR _ _ PB _ _ _ A cap sz vs dY ec eN vM dd hrel=>
   let news:List Value:=(List.range (rows.length*size)).map fun k=>vs (k / size) (k%size)
   have ka:news.length=rows.length*size:=by simp[news]
   have fM: ∀i j,i<rows.length→j<size→news[i*size+j]?=some (vs i j):=by
    intro i j hi ar
    have hk:i*size+j<rows.length*size:=by
     calc i*size+j<i*size+size:=by omega
      _=(i+1)*size:=by rw[Nat.add_mul,Nat.one_mul]
      _≤rows.length*size:=Nat.mul_le_mul_right _ (by omega)
    show((List.range (rows.length*size)).map _)[i*size+j]?=_
    rw[List.getElem?_map,List.getElem?_range hk]
    have h1:(i*size+j) / size=i:=by
     rw[Nat.add_comm,Nat.add_mul_div_right _ _ (by omega),Nat.div_eq_of_lt ar];omega
    have h2:(i*size+j)%size=j:=by
     rw[Nat.add_comm,Nat.add_mul_mod_self_right,Nat.mod_eq_of_lt ar]
    simp[h1,h2]
   have rel: ∀(i j:Nat) (row:List AV) (a:AV),bW[i]?=some row→row[j]?=some a→ ∃u,news[i*size+j]?=some u∧bQ E.bK a u∧u.oneCell'=true:=by
    intro i j row a h1 h2
    have vL:=eH row (List.mem_of_getElem? h1)
    have ar:j<size:=by rw[←vL.1];exact(List.getElem?_eq_some_iff.1 h2).1
    have hs:=vL.2 a (List.mem_of_getElem? h2)
    rw[aT,List.getElem?_map] at h1
    cases af:rows[i]? with
    | none=>rw[af] at h1;cases h1
    | some ue=>
     rw[af] at h1
     have h1:wM fr ue=row:=Option.some.inj h1
     have iP:bQ E.bK a (vs i j):=by
      cases fr with
      | false=>
       have h1:ue=row:=h1
       subst h1
       exact aQ.v1 (E:=E.bK) ((hrel i j ue a af h2).mono (fun _ _=>rfl) (fun _ h=>h.elim) (fun c hc=>show E.PA c by have:=dY c hc;simpa using this) (fun _ h=>h.elim))
      | true=>
       have h1:ue.map mC=row:=h1
       subst h1
       rw[List.getElem?_map] at h2
       cases jT:ue[j]? with
       | none=>rw[jT] at h2;cases h2
       | some a0=>
        rw[jT] at h2
        have h2:mC a0=a:=Option.some.inj h2
        subst h2
        exact aQ.v1 (E:=E.bK) (Ys (hrel i j ue a0 af jT) (fun c hc=>show E.PF c by have:=dY c hc;simpa using this) ax.c4)
     exact⟨_,fM i j (List.getElem?_eq_some_iff.1 af).1 ar,iP,iP.zl hs⟩
   refine⟨news,by rw[yK];exact ka,rel,Ln yH (by rw[yK];exact ka) rel,.inl ⟨_,hu⟩,fun w=>by rw[yK];rfl,fun w hw=> ?_⟩
   rw[yK]
   have Cm: ∀a,w.cell? a=E.w.cell? a:=by rcases hw with rfl | rfl<;>intro a<;>rfl
   by_cases aJ:rows.length=0
   ·have ap:news=[]:=List.eq_nil_of_length_eq_zero (by rw[ka,aJ,Nat.zero_mul])
    rw[ap,aJ]
    cases A with
    | none=>exact run_firstCells_none w size 0 _ _
    | some jG=>
     have:=run_firstCells_some (P:=P) w size 0 jG 0 cap [] (by simp) (fun j v h=>by simp at h)
     exact this
   ·obtain⟨c,o,rfl,hc,dy⟩:=dd (by omega)
    refine run_firstCells_some (P:=P) w size rows.length ⟨c,o,none⟩ rows.length cap news ka (fun k v hk=> ?_)
    have jS:k<rows.length*size:=by rw[←ka];exact(List.getElem?_eq_some_iff.1 hk).1
    have jt:0<size:=by
     rcases Nat.eq_zero_or_pos size with q | q
     ·rw[q,Nat.mul_zero] at jS;omega
     ·exact q
    have hi:k / size<rows.length:=(Nat.div_lt_iff_lt_mul jt).2 jS
    have ar:k%size<size:=Nat.mod_lt _ jt
    have Ix:sz=size:=by
     have:=vM _ _ (List.getElem?_eq_getElem hi)
     rw[←this];exact oe _ (List.getElem_mem hi)
    have h1:=dy (k / size) (k%size) hi (by rw[Ix];exact ar)
    have h2:=fM (k / size) (k%size) hi ar
    rw[Nat.div_add_mod' k size] at h2
    rw[hk] at h2
    cases h2
    rw[ln,Cm]
    rw[Ix,Nat.div_add_mod' k size] at h1
    exact h1
 | ref b g off n full=>
  have hu: ∃e2,P.underlying t2=some (.slice e2):=by
   unfold qW at bj
   simp only at bj
   split at bj
   ·exact⟨_,by assumption⟩
   ·cases bj
  obtain⟨e2,hu⟩:=hu
  have aq:((H[b]?).bind fun blk=>if blk.bc=g∧off+n≤blk.rows.length then some ((blk.rows.drop off).take n) else none)=some bW:=aq
  cases hb:H[b]? with
  | none=>simp[hb] at aq
  | some blk=>
   simp only[hb,Option.bind_some] at aq
   split at aq
   case isFalse=>cases aq
   case isTrue hc=>
   obtain⟨aL,p3⟩:=hc
   cases aq
   have im:=ax.dX b blk hb
   have ng:((blk.rows.drop off).take n).length=n:=by simp;omega
   have Tq: ∀i row,((blk.rows.drop off).take n)[i]?=some row→blk.rows[off+i]?=some row:=by
    intro i row h
    rw[List.getElem?_take] at h
    split at h
    ·rw[List.getElem?_drop] at h;exact h
    ·cases h
   rcases(show ea E (.ref b g off n full) gY from hx) with⟨bw,_⟩ | ⟨e3,bw⟩
   ·omega
   ·rcases bw with⟨_,_,j_,A,rfl⟩ | ⟨c,cap,hm,rfl,mn,m8,n_⟩
    ·subst j_
     refine⟨[],by simp,fun i j row a h=>by simp at h,(fun u hu=>by cases hu),.inl ⟨_,hu⟩,fun w=>by simp;rfl,fun w hw=> ?_⟩
     rw[ng]
     cases A with
     | none=>exact run_firstCells_none w size 0 _ _
     | some jG=>exact run_firstCells_some (P:=P) w size 0 jG 0 0 [] (by simp) (fun j v h=>by simp at h)
    ·obtain⟨blk',aw,ty,q1,b8,hw,il,lK,fb⟩:=ax.heap b c hm
     obtain rfl:blk=blk':=by rw[hb] at q1;exact Option.some.inj q1
     by_cases j_:n=0
     ·subst j_
      refine⟨[],by simp,fun i j row a h=>by simp at h,(fun u hu=>by cases hu),.inl ⟨_,hu⟩,fun w=>by simp;rfl,fun w hw=> ?_⟩
      rw[ng]
      exact run_firstCells_some (P:=P) w size 0 _ 0 cap [] (by simp) (fun j v h=>by simp at h)
     ·have CM:E.sz b=size:=by
       have aS:off<blk.rows.length:=by omega
       have aM:((blk.rows.drop off).take n)[0]?=some blk.rows[off]:=by
        rw[List.getElem?_take,if_pos (by omega),List.getElem?_drop,Nat.add_zero,List.getElem?_eq_getElem aS]
       rw[←fb.1 off _ (List.getElem?_eq_getElem aS)]
       exact yH _ (List.mem_of_getElem? aM)
      let news:List Value:=(aw.toList.drop (off*size)).take (n*size)
      have Sj:off*size+n*size≤aw.size:=by
       rw[il,CM,←Nat.add_mul];exact Nat.mul_le_mul_right _ (by omega)
      have ka:news.length=n*size:=by simp[news];omega
      have Io: ∀k,k<n*size→news[k]?=aw[off*size+k]?:=by
       intro k hk
       show((aw.toList.drop (off*size)).take (n*size))[k]?=_
       rw[List.getElem?_take,if_pos hk,List.getElem?_drop,Array.getElem?_toList]
      have rel: ∀(i j:Nat) (row:List AV) (a:AV),((blk.rows.drop off).take n)[i]?=some row→row[j]?=some a→ ∃u,news[i*size+j]?=some u∧bQ E.bK a u∧u.oneCell'=true:=by
       intro i j row a h1 h2
       have vL:=eH row (List.mem_of_getElem? h1)
       have ar:j<size:=by rw[←vL.1];exact(List.getElem?_eq_some_iff.1 h2).1
       have hi:i<n:=by have:=(List.getElem?_eq_some_iff.1 h1).1;rw[ng] at this;exact this
       obtain⟨u,og,p6⟩:=fb.2 (off+i) j row a (Tq i row h1) h2
       have hk:i*size+j<n*size:=by
        calc i*size+j<i*size+size:=by omega
         _=(i+1)*size:=by rw[Nat.add_mul,Nat.one_mul]
         _≤n*size:=Nat.mul_le_mul_right _ (by omega)
       refine⟨u,?_,p6,p6.zl (vL.2 a (List.mem_of_getElem? h2))⟩
       rw[Io _ hk,←og,CM]
       congr 1
       rw[Nat.add_mul];omega
      refine⟨news,by rw[ng];exact ka,rel,Ln yH (by rw[ng];exact ka) rel,.inl ⟨_,hu⟩,fun w=>by rw[ng];rfl,fun w fp=> ?_⟩
      have Cm: ∀a,w.cell? a=E.w.cell? a:=by rcases fp with rfl | rfl<;>intro a<;>rfl
      rw[ng]
      refine run_firstCells_some (P:=P) w size n _ n cap news ka (fun k v hk=> ?_)
      have jS:k<n*size:=by rw[←ka];exact(List.getElem?_eq_some_iff.1 hk).1
      rw[Io k jS] at hk
      rw[ln,Cm,CM]
      exact cell_of hw hk
 | str s=>
  obtain rfl:=V3.uq (nW hx)
  cases aq
  unfold qW at bj
  simp only at bj
  split at bj
  case h_2=>cases bj
  case h_1 hu=>
  split at bj
  case h_2=>cases bj
  case h_1 he=>
  have ed:size=1:=by rw[bU];simpa using bj
  subst ed
  have vN:s.data.toList.length=s.size:=by simp
  refine⟨s.data.toList.map fun c=> .int .u8 c.toNat,by simp,fun i j row a h1 h2=> ?_,fun u hu=> ?_,.inr hu,fun w=> ?_,fun w hw=> ?_⟩
  ·rw[List.getElem?_map] at h1
   cases hc:s.data.toList[i]? with
   | none=>rw[hc] at h1;cases h1
   | some c=>
    rw[hc] at h1
    cases h1
    have SF:j=0:=by have:=(List.getElem?_eq_some_iff.1 h2).1;simp at this;omega
    subst SF
    cases h2
    exact⟨.int .u8 c.toNat,by rw[List.getElem?_map,Nat.mul_one,Nat.add_zero,hc];rfl,aQ.int _ _,rfl⟩
  ·obtain⟨c,_,rfl⟩:=List.mem_map.1 hu;rfl
  ·show Result.ok s.size w=_
   rw[List.length_map,vN]
  ·rw[List.length_map,vN]
   show Result.ok ((s.extract 0 s.size).data.map fun b=>Value.int .u8 b.toNat) w=_
   congr 1
   apply Array.ext'
   simp
 | _=>cases aq
section
variable {P:Program} {E:Env} {t t2 ty e:TypeId} {size:Nat} {bW:List (List AV)} {gY:Value} {news:List Value}
theorem Mm (X:xy P E t2 size bW gY news) (bj:P.underlying t=some (.slice e)) (hi:(P.info? e).isSome=true) (bU:P.cellsOf e=size) {base:Option Addr} {sLen sCap:Nat} (ap:bW.length=0) (hc:sLen≤sCap):
  (Builtin.append_ #[t,t2] ty #[.slice base sLen sCap,gY]).run P E.w= .ok (.slice base sLen sCap) E.w:=by
 have aE:=X.lenOf E.w
 have hf:=X.cells E.w (.inl rfl)
 have SO:news=[]:=List.eq_nil_of_length_eq_zero (by rw[X.len,ap,Nat.zero_mul])
 subst SO
 rw[ap] at aE hf
 rcases X.num with⟨e2,hu⟩ | hu<;>
  (simp[Builtin.append_,run_underlying bj,run_underlying hu,run_sizeOf hi,bU,aE,hc,hf]
   cases base<;>simp[storeCells])
theorem YD (X:xy P E t2 size bW gY news) (bj:P.underlying t=some (.slice e)) (hi:(P.info? e).isSome=true) (bU:P.cellsOf e=size) {g o sLen sCap:Nat} {fG:Array Value} {ce:TypeId}
  (aL:E.w.heap[g]?=some (.cells fG ce (0,0))) (tp:sLen+bW.length≤sCap) (pX:o+sLen*size+news.length≤fG.size):
  (Builtin.append_ #[t,t2] ty #[.slice (some ⟨g,o,none⟩) sLen sCap,gY]).run P E.w= .ok (.slice (some ⟨g,o,none⟩) (sLen+bW.length) sCap) (E.w.setRow g (fG.toList.take (o+sLen*size)++news++fG.toList.drop (o+sLen*size+news.length)).toArray):=by
 have aE:=X.lenOf E.w
 have hf:=X.cells E.w (.inl rfl)
 have bf:=run_storeCells_at (P:=P) g (o+sLen*size) ce news 0 fG E.w aL (by simpa using pX) X.one
 simp only[Nat.add_zero] at bf
 rcases X.num with⟨e2,hu⟩ | hu<;>
  simp[Builtin.append_,run_underlying bj,run_underlying hu,run_sizeOf hi,bU,aE,tp,hf,ln,bf]
theorem YE (X:xy P E t2 size bW gY news) (bj:P.underlying t=some (.slice e)) {i:TypeInfo} (hi:P.info? e=some i) (bU:i.size=size) {z:Value} (aJ:i.zero=some z) {base:Option Addr} {sLen sCap:Nat} {ix:Array Value}
  (holds:(Builtin.firstCells size sLen (.slice base sLen sCap)).run P E.w.drew= .ok ix E.w.drew) (aL:sCap<sLen+bW.length) (yo:((sLen+bW.length:Nat):Int)≤9223372036854775807)
  (pX:Builtin.nextslicecap (sLen+bW.length) sCap*i.bytes≤281474976710656):
  (Builtin.append_ #[t,t2] ty #[.slice base sLen sCap,gY]).run P E.w= .ok (.slice (some ⟨E.w.heap.size,0,none⟩) (sLen+bW.length) (grownCap E.w (sLen+bW.length) sCap e))
   (E.w.drew.alloc (.cells (ix++news.toArray++Builtin.zeroCells z.cells (grownCap E.w (sLen+bW.length) sCap e - (sLen+bW.length))) e)):=by
 have aE:=X.lenOf E.w
 have hf:=X.cells E.w.drew (.inr rfl)
 subst bU
 have ap: ¬(sLen+bW.length≤sCap):=by omega
 have R2: ¬(9223372036854775807<((sLen:Int)+(bW.length:Int))):=by omega
 have R1: ¬(281474976710656<Builtin.nextslicecap (sLen+bW.length) sCap*i.bytes):=by omega
 rcases X.num with⟨e2,hu⟩ | hu<;>
  simp[Builtin.append_,run_underlying bj,run_underlying hu,sizeOf,typeInfo,zeroValue,hi,aJ,aE,ap,R2,R1,Question.forced,hf,holds,newRow,grownCap]
end
theorem O0 {P:Program} {t t2 ty:TypeId} {s x:AV} {L:List (Nat×List AV)} {H:List Blk} {K:AV→List (Nat×List AV)→List Blk→Prop} {E:Env} {uv gY:Value}
  (ax:SimH E H) (bH:SimL E L) (hs:V2 E s uv) (hx:V2 E x gY) (h:qV P t t2 s x L H K):
  ∃r u H' E',K r L H'∧(Builtin.append_ #[t,t2] ty #[uv,gY]).run P E.w= .ok u E'.w∧Step E E'∧SimH E' H'∧SimL E' L∧V3 E' r u∧E'.mL=E.mL:=by
 obtain⟨e,he,h⟩:=eu h
 obtain⟨z,aJ,h⟩:=eu h
 have bj:=pL he
 split at h
 case isFalse=>exact h.elim
 case isTrue hc=>
 obtain⟨lP,jt,m5⟩:=hc
 obtain⟨bW,yQ,eH,h⟩:=YC h
 obtain⟨i,sx,hi,rE,rD,vT⟩:=sw (E:=E.bK) aJ
 obtain⟨news,X⟩:=abe ax hx lP m5 yQ eH
 have vC:(P.info? e).isSome=true:=by rw[hi];rfl
 have tf:i.size=z.length:=by rw[lP];simp[Program.cellsOf,hi]
 have te:i.bytes=P.bytesOf e:=by simp[Program.bytesOf,hi]
 have Tx:sx.cells.size=z.length:=by rw[rD];simp

 have out: ∀(base:Option Addr) (rows:List (List AV)) (sCap:Nat) (ix:Array Value) (b g:Nat) (H':List Blk),uv= .slice base rows.length sCap→
   (Builtin.firstCells z.length rows.length (.slice base rows.length sCap)).run P E.w.drew= .ok ix E.w.drew→ix.size=rows.length*z.length→
   (∀row∈rows,row.length=z.length)→(∀(i j:Nat) (row:List AV) (a:AV),rows[i]?=some row→row[j]?=some a→ ∃u,ix[i*z.length+j]?=some u∧bQ E.bK a u)→
   sCap<rows.length+bW.length→(rows.length+bW.length)*P.bytesOf e≤140737488355328→rows.length+bW.length≤4611686018427387904→
   H'[b]?=some ⟨g,z.length,rows++bW⟩→(∀bI,bI≠b→H'[bI]?=H[bI]?)→(b<H.length→H'.length=H.length)→H.length≤H'.length→((E.m b=none∧g=E.bc b)∨E.bc b<g)→
   K (.ref b g 0 (rows.length+bW.length) false) L H'→ ∃r u H' E',K r L H'∧(Builtin.append_ #[t,t2] ty #[uv,gY]).run P E.w= .ok u E'.w∧Step E E'∧SimH E' H'∧SimL E' L∧V3 E' r u∧E'.mL=E.mL:=by
  intro base rows sCap ix b g H' Tf holds Ip oe SY tp hby hP dS aD hlen Ii im hK
  subst Tf
  have eP:=YE (ty:=ty) X bj hi tf rE holds tp (by omega) (growslice_fits (by omega) (by rw[te];exact hby))
  have Ck:=grownCap_ge E.w (rows.length+bW.length) sCap e
  let cap:=grownCap E.w (rows.length+bW.length) sCap e
  let aw:Array Value:=ix++news.toArray++Builtin.zeroCells sx.cells (cap - (rows.length+bW.length))
  have il:aw.size=cap*z.length:=by
   show(ix++news.toArray++Builtin.zeroCells sx.cells (cap - (rows.length+bW.length))).size=_
   have aT:(ix++news.toArray++Builtin.zeroCells sx.cells (cap - (rows.length+bW.length))).size=ix.size+news.length+(Builtin.zeroCells sx.cells (cap - (rows.length+bW.length))).size:=by simp;omega
   rw[aT,size_zeroCells,Tx,Ip,X.len,←Nat.add_mul,←Nat.add_mul]
   congr 1
   have:rows.length+bW.length≤cap:=Ck
   omega
  have fb:sF E z.length (rows++bW) aw:=by
   refine⟨fun k row aq=> ?_,fun k j row a aq ar=> ?_⟩
   ·rcases Nat.lt_or_ge k rows.length with aS | e3
    ·rw[List.getElem?_append_left aS] at aq;exact oe row (List.mem_of_getElem? aq)
    ·rw[List.getElem?_append_right e3] at aq;exact(eH row (List.mem_of_getElem? aq)).1
   ·rcases Nat.lt_or_ge k rows.length with aS | e3
    ·rw[List.getElem?_append_left aS] at aq
     obtain⟨u,hu,hv⟩:=SY k j row a aq ar
     refine⟨u,?_,hv⟩
     have jS:=(Array.getElem?_eq_some_iff.1 hu).1
     show(ix++news.toArray++_)[k*z.length+j]?=_
     rw[Array.getElem?_append_left (by rw[Array.size_append];omega),Array.getElem?_append_left jS];exact hu
    ·rw[List.getElem?_append_right e3] at aq
     obtain⟨u,hu,hv,_⟩:=X.rel _ j row a aq ar
     refine⟨u,?_,hv⟩
     have jS:=(List.getElem?_eq_some_iff.1 hu).1
     have j9:k*z.length+j=ix.size+((k - rows.length)*z.length+j):=by
      rw[Ip,←Nat.add_assoc,←Nat.add_mul];congr 2;omega
     show(ix++news.toArray++_)[k*z.length+j]?=_
     rw[j9,Array.getElem?_append_left (by simp;omega),Array.getElem?_append_right (by omega),Nat.add_sub_cancel_left]
     simpa using hu
  obtain⟨E',hw,bf,o3,o4,m_,k3,lO,yt,_,hml⟩:=tG (cap:=cap) (blk:=⟨g,z.length,rows++bW⟩) ax bH (kU.Qi E.w (.cells aw e (0,0))) dS aD hlen Ii im il (by
   show(rows++bW).length≤cap
   rw[List.length_append];exact Ck) fb
  refine⟨_,_,_,E',hK,by rw[hw];exact eP,bf,o3,o4,.inr ⟨m_.symm,.inr ⟨_,_,k3,?_,Ck,(fun h=>by cases h),?_⟩⟩,hml⟩
  ·rw[Nat.zero_mul]
  ·rw[yt,Nat.zero_add];exact Nat.le_refl _
 cases s with
 | aR rows full fr=>
  obtain⟨eN,oe,hby,hP,cd,hK⟩:=h
  subst eN
  have lO:aQ E.w E.PA E.PF (.aR rows true fr) uv:=hs
  cases lO with
  | @aR _ _ PB _ _ _ A cap sz vs dY ec eN bU dd hrel=>
   have So:=eN rfl
   subst So
   by_cases nf:bW.length=0
   ·have yR:bW=[]:=List.eq_nil_of_length_eq_zero nf
    have od:rows=[]:=Classical.byContradiction fun bw=>cd bw yR
    subst od;subst yR
    obtain⟨E',hw,bf,o3,o4,m_,k3,_,hml⟩:=ze (blk:=⟨0,z.length,[]++[]⟩) ax bH rfl rfl
    have eP:=Mm (ty:=ty) X bj vC lP.symm (base:=A) (sLen:=0) (sCap:=0) rfl (Nat.le_refl _)
    exact⟨_,_,_,E',hK,by rw[hw];exact eP,bf,o3,o4,.inr ⟨m_.symm,.inl ⟨k3,rfl,rfl,A,rfl⟩⟩,hml⟩
   ·have Ti:0<rows.length→sz=z.length:=fun ai=>by
     rw[←bU 0 _ (List.getElem?_eq_getElem ai)];exact oe _ (List.getElem_mem ai)
    let ix:List Value:=(List.range (rows.length*z.length)).map fun k=>vs (k / z.length) (k%z.length)
    have vI:ix.length=rows.length*z.length:=by simp[ix]
    have fM: ∀i j,i<rows.length→j<z.length→ix[i*z.length+j]?=some (vs i j):=by
     intro i j hi ar
     have hk:i*z.length+j<rows.length*z.length:=by
      calc i*z.length+j<i*z.length+z.length:=by omega
       _=(i+1)*z.length:=by rw[Nat.add_mul,Nat.one_mul]
       _≤rows.length*z.length:=Nat.mul_le_mul_right _ (by omega)
     show((List.range (rows.length*z.length)).map _)[i*z.length+j]?=_
     rw[List.getElem?_map,List.getElem?_range hk]
     have h1:(i*z.length+j) / z.length=i:=by
      rw[Nat.add_comm,Nat.add_mul_div_right _ _ (by omega),Nat.div_eq_of_lt ar];omega
     have h2:(i*z.length+j)%z.length=j:=by
      rw[Nat.add_comm,Nat.add_mul_mod_self_right,Nat.mod_eq_of_lt ar]
     simp[h1,h2]
    refine out A rows rows.length ix.toArray H.length 0 _ rfl ?_ (by simp[vI]) oe (fun i j row a h1 h2=> ?_) (by omega) hby hP (by simp) (fun bI dS=> ?_) (fun bw=>by omega) (by simp) (.inl ⟨(ax.fresh _ (Nat.le_refl _)).1,(ax.fresh _ (Nat.le_refl _)).2.symm⟩) hK
    ·by_cases od:rows.length=0
     ·have aM:ix=[]:=List.eq_nil_of_length_eq_zero (by rw[vI,od,Nat.zero_mul])
      rw[aM,od]
      cases A with
      | none=>exact run_firstCells_none _ _ _ _ _
      | some jG=>exact run_firstCells_some (P:=P) _ z.length 0 jG 0 0 [] (by simp) (fun j v h=>by simp at h)
     ·obtain⟨c,o,rfl,hc,dy⟩:=dd (by omega)
      refine run_firstCells_some (P:=P) E.w.drew z.length rows.length ⟨c,o,none⟩ rows.length rows.length ix vI (fun k v hk=> ?_)
      have jS:k<rows.length*z.length:=by rw[←vI];exact(List.getElem?_eq_some_iff.1 hk).1
      have hi:k / z.length<rows.length:=(Nat.div_lt_iff_lt_mul jt).2 jS
      have ar:k%z.length<z.length:=Nat.mod_lt _ jt
      have Iw:=Ti (by omega)
      have h1:=dy (k / z.length) (k%z.length) hi (by rw[Iw];exact ar)
      have h2:=fM (k / z.length) (k%z.length) hi ar
      rw[Nat.div_add_mod' k z.length] at h2
      rw[hk] at h2
      cases h2
      rw[Iw,Nat.div_add_mod' k z.length] at h1
      rw[ln]
      exact h1
    ·have hi:=(List.getElem?_eq_some_iff.1 h1).1
     have ar:j<z.length:=by rw[←oe row (List.mem_of_getElem? h1)];exact(List.getElem?_eq_some_iff.1 h2).1
     refine⟨vs i j,by simpa using fM i j hi ar,aQ.v1 (E:=E.bK) ((hrel i j row a h1 h2).mono (fun _ _=>rfl) (fun _ h=>h.elim) (fun c hc=>by have:=dY c hc;split at this;exact ax.c4 c this;exact this) (fun _ h=>h.elim))⟩
    ·rcases Nat.lt_or_ge bI H.length with aS | e3
     ·rw[List.getElem?_append_left aS]
     ·rw[List.getElem?_eq_none e3,List.getElem?_eq_none (by simp;omega)]
 | ref b g off n full=>
  replace h:off=0∧cn H[b]? fun blk=>blk.bc=g∧blk.sz=z.length∧blk.rows.length=n∧(n+bW.length)*P.bytesOf e≤140737488355328∧n+bW.length≤4611686018427387904∧
    K (.ref b (g+1) 0 (n+bW.length) false) L (H.set b ⟨g+1,z.length,blk.rows++bW⟩):=h
  obtain⟨SS,af⟩:=h
  obtain⟨blk,hb,aL,kw,gC,hby,hP,hK⟩:=eu af
  clear af
  subst SS
  have im:=ax.dX b blk hb
  have n9:b<H.length:=(List.getElem?_eq_some_iff.1 hb).1
  subst gC
  rcases(show ea E (.ref b g 0 blk.rows.length full) uv from hs) with⟨bw,_⟩ | ⟨e3,bw⟩
  ·omega
  ·rcases bw with⟨hm,_,j_,A,rfl⟩ | ⟨c,cap,hm,rfl,mn,m8,n_⟩
   ·
    by_cases nf:bW.length=0
    ·have yR:bW=[]:=List.eq_nil_of_length_eq_zero nf
     subst yR
     obtain⟨E',hw,bf,o3,o4,m_,k3,vM,yt,hml⟩:=Mf (w':=E.w) (x:=none) (blk':=⟨g+1,z.length,blk.rows++[]⟩) ax bH hm hb (by show g+1=_;rw[aL]) kw.symm rfl rfl rfl rfl (fun _ _=>rfl) (fun c hc=>by cases hc)
     have eP:=Mm (ty:=ty) X bj vC lP.symm (base:=A) (sLen:=0) (sCap:=0) rfl (Nat.le_refl _)
     refine⟨_,_,_,E',hK,by rw[hw];exact eP,bf,o3,o4,.inr ⟨m_.symm,.inl ⟨by rw[k3];exact hm,rfl,by simp[j_],A,rfl⟩⟩,hml⟩
    ·have od:blk.rows=[]:=List.eq_nil_of_length_eq_zero j_
     refine out A blk.rows 0 #[] b (g+1) _ (by rw[od];rfl) ?_ (by rw[od];simp) (fun row aq=>by rw[od] at aq;cases aq) (fun i j row a h1 h2=>by rw[od] at h1;simp at h1) (by omega) hby hP (by rw[List.getElem?_set_self n9]) (fun bI dS=>List.getElem?_set_ne (fun h=>dS h.symm)) (fun _=>by simp) (by simp) (.inr (by omega)) hK
     rw[od]
     cases A with
     | none=>exact run_firstCells_none _ _ _ _ _
     | some jG=>exact run_firstCells_some (P:=P) _ z.length 0 jG 0 0 [] (by simp) (fun j v h=>by simp at h)
   ·obtain⟨blk',aw,gA,q1,b8,hw,il,lK,fb⟩:=ax.heap b c hm
    obtain rfl:blk=blk':=by rw[hb] at q1;exact Option.some.inj q1
    have bU:E.sz b=z.length:=by rw[b8,kw]
    by_cases tp:blk.rows.length+bW.length≤cap
    ·
     have Sr:aw.size=E.cp b*z.length:=by rw[il,bU]
     have hle:(blk.rows.length+bW.length)*z.length≤aw.size:=by rw[Sr];exact Nat.mul_le_mul_right _ (by omega)
     have Ih:blk.rows.length*z.length+news.length≤aw.size:=by rw[X.len,←Nat.add_mul];exact hle
     have eP:=YD (ty:=ty) (o:=0) X bj vC lP.symm hw tp (by rw[Nat.zero_add];exact Ih)
     rw[Nat.zero_add] at eP
     let bM:Array Value:=(aw.toList.take (blk.rows.length*z.length)++news++aw.toList.drop (blk.rows.length*z.length+news.length)).toArray
     have H0: ∀k,bM[k]?=if k<blk.rows.length*z.length then aw.toList[k]? else if k<blk.rows.length*z.length+news.length then news[k - blk.rows.length*z.length]? else aw.toList[k]?:=by
      intro k
      show(List.toArray _)[k]?=_
      rw[List.getElem?_toArray,uo (by simpa using Ih)]
     obtain⟨E',fp,bf,o3,o4,m_,k3,vM,yt,hml⟩:=Mf (w':=E.w.setRow c bM) (x:=some c) (blk':=⟨g+1,z.length,blk.rows++bW⟩) ax bH hm hb (by show g+1=_;rw[aL]) kw.symm rfl rfl rfl (by simp)
      (fun b_ jd=>setRow_other _ _ _ _ (fun e=>jd (by rw[e]))) (fun b_ jd=>by
       cases jd
       refine⟨bM,gA,setRow_heap _ _ _ _ _ _ hw,?_,by show(blk.rows++bW).length≤_;rw[List.length_append];omega,fun k row aq=> ?_,fun k j row a aq ar=> ?_⟩
       ·rw[←il]
        show(List.toArray _).size=_
        simp;omega
       ·have aq:(blk.rows++bW)[k]?=some row:=aq
        rcases Nat.lt_or_ge k blk.rows.length with aS | yx
        ·rw[List.getElem?_append_left aS] at aq;exact fb.1 k row aq
        ·rw[List.getElem?_append_right yx] at aq;rw[bU];exact(eH row (List.mem_of_getElem? aq)).1
       ·have aq:(blk.rows++bW)[k]?=some row:=aq
        rcases Nat.lt_or_ge k blk.rows.length with aS | yx
        ·rw[List.getElem?_append_left aS] at aq
         obtain⟨u,hu,hv⟩:=fb.2 k j row a aq ar
         refine⟨u,?_,hv⟩
         have j8:j<z.length:=by rw[←bU,←fb.1 k row aq];exact(List.getElem?_eq_some_iff.1 ar).1
         have:k*z.length+j<blk.rows.length*z.length:=by
          calc k*z.length+j<k*z.length+z.length:=by omega
           _=(k+1)*z.length:=by rw[Nat.add_mul,Nat.one_mul]
           _≤blk.rows.length*z.length:=Nat.mul_le_mul_right _ (by omega)
         rw[bU] at hu ⊢
         rw[H0,if_pos this];simpa using hu
        ·rw[List.getElem?_append_right yx] at aq
         obtain⟨u,hu,hv,_⟩:=X.rel _ j row a aq ar
         refine⟨u,?_,hv⟩
         have jS:=(List.getElem?_eq_some_iff.1 hu).1
         have j9:k*z.length+j=blk.rows.length*z.length+((k - blk.rows.length)*z.length+j):=by
          rw[←Nat.add_assoc,←Nat.add_mul];congr 2;omega
         rw[bU,H0,j9,if_neg (by omega),if_pos (by omega),Nat.add_sub_cancel_left];exact hu)
     refine⟨_,_,_,E',hK,by rw[fp];rw[Nat.zero_mul];exact eP,bf,o3,o4,.inr ⟨m_.symm,.inr ⟨c,cap,by rw[k3];exact hm,by simp,tp,(fun h=>by cases h),by rw[yt];omega⟩⟩,hml⟩
    ·
     refine out (some ⟨c,0,none⟩) blk.rows cap (aw.toList.take (blk.rows.length*z.length)).toArray b (g+1) _ (by rw[Nat.zero_mul]) ?_ ?_ (fun row aq=> ?_) (fun i j row a h1 h2=> ?_) (by omega) hby hP (by rw[List.getElem?_set_self n9]) (fun bI dS=>List.getElem?_set_ne (fun h=>dS h.symm)) (fun _=>by simp) (by simp) (.inr (by omega)) hK
     ·refine run_firstCells_some (P:=P) E.w.drew z.length blk.rows.length ⟨c,0,none⟩ blk.rows.length cap _ ?_ (fun k v hk=> ?_)
      ·have:blk.rows.length*z.length≤aw.size:=by rw[il,bU];exact Nat.mul_le_mul_right _ lK
       simp;omega
      ·rw[List.getElem?_take] at hk
       split at hk
       ·rw[ln,Nat.zero_add]
        exact cell_of (w:=E.w) hw (by simpa using hk)
       ·cases hk
     ·have:blk.rows.length*z.length≤aw.size:=by rw[il,bU];exact Nat.mul_le_mul_right _ lK
      simp;omega
     ·obtain⟨k,hk⟩:=List.mem_iff_getElem?.1 aq
      rw[←bU];exact fb.1 k row hk
     ·obtain⟨u,hu,hv⟩:=fb.2 i j row a h1 h2
      refine⟨u,?_,hv⟩
      have hi:=(List.getElem?_eq_some_iff.1 h1).1
      have ar:j<z.length:=by rw[←bU,←fb.1 i row h1];exact(List.getElem?_eq_some_iff.1 h2).1
      have:i*z.length+j<blk.rows.length*z.length:=by
       calc i*z.length+j<i*z.length+z.length:=by omega
        _=(i+1)*z.length:=by rw[Nat.add_mul,Nat.one_mul]
        _≤blk.rows.length*z.length:=Nat.mul_le_mul_right _ (by omega)
      rw[List.getElem?_toArray,List.getElem?_take,if_pos this,Array.getElem?_toList,←bU]
      exact hu
 | _=>exact h.elim
def Aq (E:Env) (o:Oper) (a:Act) (K:l6 Prop):Act→World→Prop:=fun gS w'=>
 ∃v u L' H' E',K v L' H'∧E'.w=w'∧Step E E'∧SimH E' H'∧SimL E' L'∧V3 E' v u∧gS=a.put o.dst u∧ ∀t,o.dst≠some t→E'.mL t=E.mL t
def xL:List Nat→Nat→Option Nat
 | [],_=>none
 | x::r,t=>match Nat.ble 2000000 x with
  | true=>(match Nat.beq ((x - 2000000)%1000) t with
   | true=>some ((x - 2000000) / 1000)
   | false=>xL r t)
  | false=>xL r t
def rS (esc:List Nat) (dst:Option Nat) (cells:List AV) (L:List (Nat×List AV)) (H:List Blk) (K:l6 Prop):Prop:=
 if cells.all hX=true then match dst with
  | none=>False
  | some t=>match xL esc t with
   | some j=>cn H[j]? fun blk=>K (.ptr j (blk.bc+1) 0 0) L (H.set j ⟨blk.bc+1,cells.length,[cells]⟩)
   | none=>if esc.contains t=true then K (.ptr H.length 0 0 0) L (H++[⟨0,cells.length,[cells]⟩]) else
    match dt L t with
    | none=>K (.et t 0) ((t,cells)::L) H
    | some _=>False
 else False
theorem SimL.none {E:Env} {L:List (Nat×List AV)} (h:SimL E L) {t:Nat} (ap:dt L t=none):E.mL t=none:=by
 cases hm:E.mL t with
 | none=>rfl
 | some c=>
  obtain⟨cells,aw,ty,h1,_⟩:=h t c hm
  rw[ap] at h1;cases h1
theorem Ff {E:Env} {cells:List AV} {vs:List Value} (hs:cells.all hX=true) (h:aK (bQ E) cells vs):aK (bQ E.bK) cells vs:=
 ⟨h.1,fun i a v aC hv=>Fe (List.all_eq_true.1 hs a (List.mem_of_getElem? aC)) (h.2 i a v aC hv)⟩
theorem La {E:Env} {H:List Blk} {L:List (Nat×List AV)} {esc:List Nat} {dst:Option Nat} {cells:List AV} {aw:Array Value} {ty:TypeId} {K:AV→List (Nat×List AV)→List Blk→Prop}
  (ax:SimH E H) (bH:SimL E L) (hc:aK (bQ E) cells aw.toList) (h:rS esc dst cells L H K):
  ∃v L' H' E',K v L' H'∧E'.w=E.w.alloc (.cells aw ty (0,0))∧Step E E'∧SimH E' H'∧SimL E' L'∧V3 E' v (.pointer (some ⟨E.w.heap.size,0,none⟩))∧ ∀s,dst≠some s→E'.mL s=E.mL s:=by
 unfold rS at h
 split at h
 case isFalse=>exact h.elim
 case isTrue hs=>
 have jd:=Ff hs hc
 cases dst with
 | none=>exact h.elim
 | some t=>
  have h:match xL esc t with
   | some j=>cn H[j]? fun blk=>K (.ptr j (blk.bc+1) 0 0) L (H.set j ⟨blk.bc+1,cells.length,[cells]⟩)
   | none=>if esc.contains t=true then K (.ptr H.length 0 0 0) L (H++[⟨0,cells.length,[cells]⟩]) else(match dt L t with
    | none=>K (.et t 0) ((t,cells)::L) H
    | some _=>False):=h
  split at h
  ·rename_i j Sl
   obtain⟨blk,vr,hK⟩:=eu h
   have j8:=(List.getElem?_eq_some_iff.1 vr).1
   have SC:=ax.dX j blk vr
   have hlen:aw.size=cells.length:=by have:=hc.1;simp at this;exact this.symm
   obtain⟨E',aT,e2,c0,gI,hM,mV,x2,q5,_,hml⟩:=tG (H:=H) (H':=H.set j ⟨blk.bc+1,cells.length,[cells]⟩) (b:=j) (cap:=1) (blk:=⟨blk.bc+1,cells.length,[cells]⟩) ax bH (kU.alloc E.w (.cells aw ty (0,0)))
    (by rw[List.getElem?_set];simp[j8]) (fun bI dS=>by rw[List.getElem?_set,if_neg (fun e=>dS e.symm)]) (fun _=>by simp) (by simp) (.inr (by show E.bc j<blk.bc+1;omega)) (by simp[hlen]) (by simp)
    ⟨fun i row aq=>by
      cases i with
      | zero=>simp at aq;subst aq;rfl
      | succ i=>simp at aq,
     fun i j row a aq ar=>by
      cases i with
      | zero=>
       simp at aq;subst aq
       obtain⟨u,hu,hv⟩:=jd.get ar
       exact⟨u,by simpa using hu,hv⟩
      | succ i=>simp at aq⟩
   refine⟨_,_,_,E',hK,aT,e2,c0,gI,.inr ⟨hM.symm,E.w.heap.size,mV,?_⟩,fun s _=>by rw[hml]⟩
   rw[Nat.zero_mul]
  split at h
  ·have hlen:aw.size=cells.length:=by have:=hc.1;simp at this;exact this.symm
   have vk:SimH E (H++[⟨0,cells.length,[cells]⟩]):=ax.snoc rfl
   obtain⟨ti,oZ⟩:=ax.fresh H.length (Nat.le_refl _)
   obtain⟨E',aT,e2,c0,gI,hM,mV,x2,q5,_,hml⟩:=tG (H:=H++[⟨0,cells.length,[cells]⟩]) (H':=H++[⟨0,cells.length,[cells]⟩]) (b:=H.length) (cap:=1) (blk:=⟨0,cells.length,[cells]⟩) vk bH (kU.alloc E.w (.cells aw ty (0,0)))
    (by simp) (fun _ _=>rfl) (fun _=>rfl) (Nat.le_refl _) (.inl ⟨ti,oZ.symm⟩) (by simp[hlen]) (by simp)
    ⟨fun i row aq=>by
      cases i with
      | zero=>simp at aq;subst aq;rfl
      | succ i=>simp at aq,
     fun i j row a aq ar=>by
      cases i with
      | zero=>
       simp at aq;subst aq
       obtain⟨u,hu,hv⟩:=jd.get ar
       exact⟨u,by simpa using hu,hv⟩
      | succ i=>simp at aq⟩
   refine⟨_,_,_,E',h,aT,e2,c0,gI,.inr ⟨hM.symm,E.w.heap.size,mV,?_⟩,fun s _=>by rw[hml]⟩
   rw[Nat.zero_mul]
  ·cases aL:dt L t with
   | some x=>rw[aL] at h;exact h.elim
   | none=>
    rw[aL] at h
    have hm:=bH.none aL
    obtain⟨E',aT,e2,c0,gI,hM,_,hml⟩:=K_ (L:=(t,cells)::L) (t:=t) (cells:=cells) ax (bH.cons hm) (kU.alloc E.w (.cells aw ty (0,0))) (by simp[dt]) hm jd
    exact⟨_,_,_,E',h,aT,e2,c0,gI,hM,fun s hs=>hml s fun e=>hs (by rw[e])⟩
def kl:AV→AV
 | .aR rows _ fr=> .aR rows false fr
 | a=>a
theorem bQ.kl {E:Env} {a:AV} {v:Value} (h:bQ E a v):bQ E (kl a) v:=by
 cases a with
 | aR rows full fr=>
  have h:aQ E.w E.PA E.PF (.aR rows full fr) v:=h
  cases h with
  | aR dY ec eN bU dd hrel=>exact aQ.aR dY ec (fun h=>by cases h) bU dd hrel
 | _=>exact h
theorem aK.kl {E:Env} {l:List AV} {m:List Value} (h:aK (bQ E) l m):aK (bQ E) (l.map kl) m:=by
 refine⟨by rw[List.length_map];exact h.1,fun i a v aC hv=> ?_⟩
 rw[List.getElem?_map] at aC
 cases aE:l[i]? with
 | none=>rw[aE] at aC;cases aC
 | some b=>rw[aE] at aC;cases aC;exact(h.2 i b v aE hv).kl
def tF (P:Program) (t:TypeId) (l c:AV) (L:List (Nat×List AV)) (H:List Blk) (K:l6 Prop):Prop:=
 cn (ht P t) fun e=>cn (kT P e) fun z=>if z.length=P.cellsOf e∧z.all hX=true then match l,c with
  | .int _ l,.int _ c=>0≤l∧l≤c∧(P.bytesOf e:Int)*c≤140737488355328∧c≤4611686018427387904∧K (.ref H.length 0 0 l.toNat false) L (H++[⟨0,z.length,List.replicate l.toNat (z.map kl)⟩])
  | _,_=>False
 else False
theorem WZ (z:Array Value) (n k:Nat) (hk:k<n):(madeCells z n)[k]?=some (z[k%z.size]!):=by
 simp[madeCells,hk]
theorem Xe {P:Program} {E:Env} {H:List Blk} {L:List (Nat×List AV)} {t:TypeId} {l c:AV} {y7 GJ:Value} {K:AV→List (Nat×List AV)→List Blk→Prop}
  (ax:SimH E H) (bH:SimL E L) (aE:V3 E l y7) (hc:V3 E c GJ) (h:tF P t l c L H K):
  ∃v L' H' E' u,K v L' H'∧(Instr.makeSlice t y7 GJ).run P E.w= .ok u E'.w∧Step E E'∧SimH E' H'∧SimL E' L'∧V3 E' v u∧E'.mL=E.mL:=by
 obtain⟨e,he,h⟩:=eu h
 obtain⟨z,aJ,h⟩:=eu h
 split at h
 case isFalse=>exact h.elim
 case isTrue hb=>
 obtain⟨lP,Tw⟩:=hb
 cases l with
 | int tC l=>
  cases c with
  | int kd c=>
   obtain⟨aM,h1,h2,aH,hK⟩:=(show 0≤l∧l≤c∧(P.bytesOf e:Int)*c≤140737488355328∧c≤4611686018427387904∧K (.ref H.length 0 0 l.toNat false) L (H++[⟨0,z.length,List.replicate l.toNat (z.map kl)⟩]) from h)
   obtain rfl:=aE.nl
   obtain rfl:=hc.nl
   obtain⟨i,v,q1,q2,q3,q4⟩:=sw (E:=E) aJ
   have af:=(Ff Tw q4).kl
   have rE:v.cells.size=z.length:=by rw[q3];simp
   have tf:i.size=z.length:=by rw[lP];simp[Program.cellsOf,q1]
   have hby:P.bytesOf e=i.bytes:=by simp[Program.bytesOf,q1]
   have hu:=pL he
   have eP:=run_make (P:=P) E.w t e i v hu q1 q2 tC kd l c aM h1 (by rw[hby] at h2;omega) (by omega)
   have vk:SimH E (H++[⟨0,z.length,List.replicate l.toNat (z.map kl)⟩]):=ax.snoc rfl
   obtain⟨ti,oZ⟩:=ax.fresh H.length (Nat.le_refl _)
   have Ig:l.toNat≤c.toNat:=by omega
   obtain⟨E',aT,e2,c0,gI,hM,mV,x2,q5,_,hml⟩:=tG (H:=H++[⟨0,z.length,List.replicate l.toNat (z.map kl)⟩]) (H':=H++[⟨0,z.length,List.replicate l.toNat (z.map kl)⟩]) (b:=H.length) (cap:=c.toNat) (blk:=⟨0,z.length,List.replicate l.toNat (z.map kl)⟩) vk bH (kU.alloc E.w (.cells (madeCells v.cells (c.toNat*i.size)) e (0,0)))
    (by simp) (fun _ _=>rfl) (fun _=>rfl) (Nat.le_refl _) (.inl ⟨ti,oZ.symm⟩) (by rw[size_madeCells,tf]) (by simpa using Ig)
    ⟨fun hz row aq=>by
      have aq:(List.replicate l.toNat (z.map kl))[hz]?=some row:=aq
      rw[List.getElem?_replicate] at aq
      split at aq
      ·cases aq;exact List.length_map ..
      ·exact absurd aq (fun h=>by cases h),
     fun hz j row a aq ar=>by
      have aq:(List.replicate l.toNat (z.map kl))[hz]?=some row:=aq
      rw[List.getElem?_replicate] at aq
      split at aq
      ·rename_i hi
       cases aq
       have vD:=(List.getElem?_eq_some_iff.1 ar).1
       rw[List.length_map] at vD
       obtain⟨u,hu,hv⟩:=af.get ar
       refine⟨u,?_,hv⟩
       have aS:hz*z.length+j<c.toNat*z.length:=by
        calc hz*z.length+j<hz*z.length+z.length:=by omega
         _=(hz+1)*z.length:=by rw[Nat.add_mul,Nat.one_mul]
         _≤c.toNat*z.length:=Nat.mul_le_mul_right _ (by omega)
       show(madeCells v.cells (c.toNat*i.size))[hz*z.length+j]?=_
       rw[tf,WZ _ _ _ aS,rE,show(hz*z.length+j)%z.length=j by rw[Nat.mul_comm,Nat.mul_add_mod,Nat.mod_eq_of_lt vD],←hu,Array.getElem?_toList,getElem!_pos v.cells j (by omega),Array.getElem?_eq_getElem]
      ·exact absurd aq (fun h=>by cases h)⟩
   refine⟨_,_,_,E',_,hK,by rw[eP,aT],e2,c0,gI,.inr ⟨hM.symm,.inr ⟨E.w.heap.size,c.toNat,mV,by rw[Nat.zero_mul],Ig,(fun h=>by cases h),by rw[q5];omega⟩⟩,hml⟩
  | _=>exact h.elim
 | _=>exact h.elim
def sc:List Nat→Option Nat
 | []=>none
 | x::r=>match Nat.ble 1000000 x with
  | true=>some (x - 1000000)
  | false=>sc r
def WL (uh:Option Nat) (hN:Bool) (n sz:Nat) (rows:List (List AV)) (L:List (Nat×List AV)) (H:List Blk) (K:l6 Prop):Prop:=match uh with
 | none=>K (.ref H.length 0 0 n hN) L (H++[⟨0,sz,rows⟩])
 | some j=>cn H[j]? fun blk=>K (.ref j (blk.bc+1) 0 n true) L (H.set j ⟨blk.bc+1,sz,rows⟩)
def q8 (esc:List Nat) (dst:Option Nat):Bool:=match dst with
 | none=>false
 | some d=>esc.any fun x=>Nat.beq x (500000+d)
def qY (P:Program) (fr:Bool) (uh:Option Nat) (t:TypeId) (n:Nat) (parts:List (Nat×AV)) (L:List (Nat×List AV)) (H:List Blk) (K:l6 Prop):Prop:=
 cn (ht P t) fun e=>cn (kT P e) fun z=>if z.length=P.cellsOf e∧n*z.length≤1000000∧n≤1000000 then
  cn (mX (fun i=>some (i*z.length,z.length)) ((List.range (n*z.length)).map fun i=>z.getD (i%z.length) .undef) parts) fun cells=>
   if(bif fr then false else cells.all hJ)=true then K (.aR (chunk z.length n (cells.map hF)) true (cells.all lE)) L H else
   if cells.all hX=true then WL uh (!fr) n z.length (chunk z.length n cells) L H K else False
 else False
theorem PO {size n i:Nat} {cells row:List AV} (aE:cells.length=n*size) (aq:(chunk size n cells)[i]?=some row):row.length=size:=by
 unfold chunk at aq
 rw[List.getElem?_map] at aq
 cases af:(List.range n)[i]? with
 | none=>rw[af] at aq;cases aq
 | some k=>
  have hk:=(List.getElem?_eq_some_iff.1 af).1
  have hi:k=i:=by have:=(List.getElem?_eq_some_iff.1 af).2;simpa using this.symm
  rw[af] at aq;cases aq
  simp only[List.length_take,List.length_drop]
  have du:i<n:=by simpa using hk
  rw[aE,hi]
  have:(i+1)*size≤n*size:=Nat.mul_le_mul_right _ du
  rw[Nat.add_mul,Nat.one_mul] at this
  omega
theorem Pg {P:Program} {fr:Bool} {uh:Option Nat} {E:Env} {H:List Blk} {L:List (Nat×List AV)} {t:TypeId} {n:Nat} {parts:List (Nat×AV)} {iD:List (Nat×Value)} {K:AV→List (Nat×List AV)→List Blk→Prop} (ax:SimH E H) (bH:SimL E L)
  (ai:aK (fun a b=>a.1=b.1∧V2 E a.2 b.2) parts iD) (h:qY P fr uh t n parts L H K):
  ∃v u L' H' E',K v L' H'∧(Instr.buildSlice t n iD.toArray).run P E.w= .ok u E'.w∧Step E E'∧SimH E' H'∧SimL E' L'∧V3 E' v u∧E'.mL=E.mL:=by
 obtain⟨e,he,h⟩:=eu h
 obtain⟨z,aJ,h⟩:=eu h
 split at h
 case isFalse=>exact h.elim
 case isTrue hb=>
 obtain⟨cells,hf,h⟩:=eu h
 split at h
 case isTrue hby=>
  have hby:cells.all hJ=true:=by cases fr with
   | true=>cases hby
   | false=>exact hby
  have hv:sP P t n parts (fun r=>K r L H):=by
   refine dk he (dk aJ ?_)
   rw[if_pos hb]
   refine dk hf ?_
   rw[if_pos hby];exact h
  obtain⟨r,u,E',hK,aq,af,aH⟩:=Gm ax ai hv
  exact⟨r,u,L,H,E',hK,aq,af.step,af.simH ax,af.simL ax bH,aH,af.mL⟩
 case isFalse=>
 split at h
 case isFalse=>exact h.elim
 case isTrue hs=>
 obtain⟨gl,hrel,eP,hlen⟩:=Pk ai he aJ hb.1 hb.2 hf
 have lK:(chunk z.length n cells).length=n:=by simp[chunk]
 have CL:gl.size=n*z.length:=by have:=hrel.1;simp at this;omega
 have Is:sF E z.length (chunk z.length n cells) gl:=⟨fun i row aq=>PO hlen aq,fun i j row a aq ar=>by
   obtain⟨hi,vD,hc⟩:=Gw aq ar
   obtain⟨u,hu,hv⟩:=hrel.get hc
   exact⟨u,by rw[Array.getElem?_toList] at hu;exact hu,hv⟩⟩
 cases uh with
 | none=>
  have vk:SimH E (H++[⟨0,z.length,chunk z.length n cells⟩]):=ax.snoc rfl
  obtain⟨ti,oZ⟩:=ax.fresh H.length (Nat.le_refl _)
  obtain⟨E',aT,e2,c0,gI,hM,mV,x2,q5,_,hml⟩:=tG (H:=H++[⟨0,z.length,chunk z.length n cells⟩]) (H':=H++[⟨0,z.length,chunk z.length n cells⟩]) (b:=H.length) (cap:=n) (blk:=⟨0,z.length,chunk z.length n cells⟩) vk bH (kU.alloc E.w (.cells gl e (0,0)))
   (by simp) (fun _ _=>rfl) (fun _=>rfl) (Nat.le_refl _) (.inl ⟨ti,oZ.symm⟩) CL (by rw[lK];exact Nat.le_refl _) Is
  exact⟨_,_,_,_,E',h,by rw[eP,aT],e2,c0,gI,.inr ⟨hM.symm,.inr ⟨E.w.heap.size,n,mV,by rw[Nat.zero_mul],Nat.le_refl _,(fun _=>rfl),by rw[q5];omega⟩⟩,hml⟩
 | some j=>
  obtain⟨blk,vr,hK⟩:=eu (show cn H[j]? fun blk=>K (.ref j (blk.bc+1) 0 n true) L (H.set j ⟨blk.bc+1,z.length,chunk z.length n cells⟩) from h)
  have j8:=(List.getElem?_eq_some_iff.1 vr).1
  have SC:=ax.dX j blk vr
  obtain⟨E',aT,e2,c0,gI,hM,mV,x2,q5,_,hml⟩:=tG (H:=H) (H':=H.set j ⟨blk.bc+1,z.length,chunk z.length n cells⟩) (b:=j) (cap:=n) (blk:=⟨blk.bc+1,z.length,chunk z.length n cells⟩) ax bH (kU.alloc E.w (.cells gl e (0,0)))
   (by rw[List.getElem?_set];simp[j8]) (fun bI dS=>by rw[List.getElem?_set,if_neg (fun e=>dS e.symm)]) (fun _=>by simp) (by simp) (.inr (by show E.bc j<blk.bc+1;omega)) CL (by rw[lK];exact Nat.le_refl _) Is
  exact⟨_,_,_,_,E',hK,by rw[eP,aT],e2,c0,gI,.inr ⟨hM.symm,.inr ⟨E.w.heap.size,n,mV,by rw[Nat.zero_mul],Nat.le_refl _,(fun _=>rfl),by rw[q5];omega⟩⟩,hml⟩
def nt:AV→Bool
 | .aR _ _ fr=>fr
 | .et _ _ | .cM _ _ | .agg _ | .tup _ | .fn _ _=>false
 | _=>true
def iA (k:Nat):AV→AV
 | .ref b g o n f=> .ref (k+b) g o n f
 | .ptr b g r c=> .ptr (k+b) g r c
 | a=>a
def tN:AV→Bool
 | .agg l=>l.all nt
 | a=>nt a
def pu (k:Nat):AV→AV
 | .agg l=> .agg (l.map (iA k))
 | a=>iA k a
def tO:AV→Bool
 | .tup l=>l.all tN
 | a=>tN a
def nD (k:Nat):AV→AV
 | .tup l=> .tup (l.map (pu k))
 | a=>pu k a
def jk (k:Nat) (b:Blk):Blk:=⟨b.bc,b.sz,b.rows.map fun row=>row.map (iA k)⟩
def ql (H:List Blk):Bool:=H.all fun b=>b.rows.all fun row=>row.all nt
def Env.join (E E1:Env) (n:Nat):Env:=
 {w:=E1.w,PA:=fun c=>E.PA c∨E1.PF c,PF:=fun c=>E.PF c∨E1.PF c
  m:=fun b=>if b<n then E.m b else E1.m (b - n),bc:=fun b=>if b<n then E.bc b else E1.bc (b - n)
  sz:=fun b=>if b<n then E.sz b else E1.sz (b - n),cp:=fun b=>if b<n then E.cp b else E1.cp (b - n),mL:=E.mL}
section
variable {E E1:Env} {n:Nat}
theorem US {b:Nat} (h:b<n):(E.join E1 n).m b=E.m b∧(E.join E1 n).bc b=E.bc b∧(E.join E1 n).sz b=E.sz b∧(E.join E1 n).cp b=E.cp b:=⟨if_pos h,if_pos h,if_pos h,if_pos h⟩
theorem Dn (b:Nat):(E.join E1 n).m (n+b)=E1.m b∧(E.join E1 n).bc (n+b)=E1.bc b∧(E.join E1 n).sz (n+b)=E1.sz b∧(E.join E1 n).cp (n+b)=E1.cp b:=by
 have h: ¬n+b<n:=by omega
 have e:n+b - n=b:=by omega
 refine⟨?_,?_,?_,?_⟩<;>(unfold Env.join;simp only[if_neg h,e])
theorem Dp {E':Env} (gK:E'=E.join E1 n) {a:AV} {v:Value} (aD:nt a=true) (hv:bQ E1 a v):bQ E' (iA n a) v:=by
 have kz: ∀{a:AV} {v:Value},nt a=true→aQ E1.w E1.PA E1.PF a v→aQ E'.w E'.PA E'.PF a v:=by
  intro a v aD h
  subst gK
  cases h with
  | undef=>exact .undef _
  | int=>exact .int _ _
  | bool=>exact .bool _
  | str=>exact .str _
  | eY=>exact .eY
  | fg=>exact .fg
  | @aR _ _ PB rows full fresh A cap sz vs dY ec eN bU dd hrel=>
   have hf:fresh=true:=aD
   refine .aR (PB:=PB) (sz:=sz) (vs:=vs) (fun c hc=> ?_) ec eN bU dd hrel
   have:=dY c hc
   rw[if_pos hf] at this ⊢
   exact .inr this
  | cM=>cases aD
  | fn=>cases aD
 cases a with
 | ref b g off m full=>
  subst gK
  obtain⟨ep,aO,lQ,p8⟩:=Dn (E:=E) (E1:=E1) (n:=n) b
  show ea (E.join E1 n) (.ref (n+b) g off m full) v
  rcases(show ea E1 (.ref b g off m full) v from hv) with⟨h,k⟩ | ⟨h,k⟩
  ·exact .inl ⟨by rw[aO];exact h,k⟩
  ·refine .inr ⟨by rw[aO];exact h,?_⟩
   rw[ep,lQ,p8];exact k
 | ptr b g r c=>
  subst gK
  obtain⟨ep,aO,lQ,p8⟩:=Dn (E:=E) (E1:=E1) (n:=n) b
  show ea (E.join E1 n) (.ptr (n+b) g r c) v
  rcases(show ea E1 (.ptr b g r c) v from hv) with⟨h,k⟩ | ⟨h,k⟩
  ·exact .inl ⟨by rw[aO];exact h,k⟩
  ·refine .inr ⟨by rw[aO];exact h,?_⟩
   rw[ep,lQ];exact k
 | et t c=>cases aD
 | fn f c=>cases aD
 | agg l=>cases aD
 | tup l=>cases aD
 | cM l c=>cases aD
 | undef=>exact aQ.undef _
 | int k m=>exact kz (a:= .int k m) rfl hv
 | bool b=>exact kz (a:= .bool b) rfl hv
 | str s=>exact kz (a:= .str s) rfl hv
 | aR rows full fr=>exact kz (a:= .aR rows full fr) aD hv
 | eY=>exact kz (a:= .eY) rfl hv
 | fg=>exact kz (a:= .fg) rfl hv
theorem Jx {E':Env} (gK:E'=E.join E1 n) {a:AV} {v:Value} (aD:tN a=true) (hv:V2 E1 a v):V2 E' (pu n a) v:=by
 by_cases hf: ∃l,a= .agg l
 ·obtain⟨l,rfl⟩:=hf
  obtain⟨vs,rfl,ai⟩:=hv
  refine⟨vs,rfl,by rw[List.length_map];exact ai.1,fun i x u hx hu=> ?_⟩
  rw[List.getElem?_map] at hx
  cases aE:l[i]? with
  | none=>simp[aE] at hx
  | some y=>
   simp[aE] at hx;subst hx
   exact Dp gK (List.all_eq_true.1 (show l.all nt=true from aD) y (List.mem_of_getElem? aE)) (ai.2 i y u aE hu)
 ·have aT:pu n a=iA n a:=by cases a<;>first | rfl | exact absurd ⟨_,rfl⟩ hf
  have e2:tN a=nt a:=by cases a<;>first | rfl | exact absurd ⟨_,rfl⟩ hf
  rw[ma fun l e=>hf ⟨l,e⟩] at hv
  rw[aT]
  exact jF (Dp gK (e2▸aD) hv)
theorem UT {E':Env} (gK:E'=E.join E1 n) {a:AV} {v:Value} (aD:tO a=true) (hv:V3 E1 a v):V3 E' (nD n a) v:=by
 by_cases hf: ∃l,a= .tup l
 ·obtain⟨l,rfl⟩:=hf
  obtain⟨vs,rfl,ai⟩:=hv
  refine⟨vs,rfl,by rw[List.length_map];exact ai.1,fun i x u hx hu=> ?_⟩
  rw[List.getElem?_map] at hx
  cases aE:l[i]? with
  | none=>simp[aE] at hx
  | some y=>
   simp[aE] at hx;subst hx
   exact Jx gK (List.all_eq_true.1 (show l.all tN=true from aD) y (List.mem_of_getElem? aE)) (ai.2 i y u aE hu)
 ·have aT:nD n a=pu n a:=by cases a<;>first | rfl | exact absurd ⟨_,rfl⟩ hf
  have e2:tO a=tN a:=by cases a<;>first | rfl | exact absurd ⟨_,rfl⟩ hf
  rw[mb fun l e=>hf ⟨l,e⟩] at hv
  rw[aT]
  exact nW (Jx gK (e2▸aD) hv)
end
theorem Pz {P:Program} {f:FuncId} {args dg:List AV} {L:List (Nat×List AV)} {H:List Blk} {E:Env} {vs:List Value} {Q:AV→List Blk→Prop} (ax:SimH E H) (bH:SimL E L)
  (aC:aK (V2 E) args vs) (hs:aK (dP L H) args dg) (h:dc P f dg [] fun r ef=>tO r=true∧ql ef=true∧Q r ef):
  Calls P f vs.toArray E.w fun e w'=> ∃r v ef E',e= .returned v∧Q r ef∧E'.w=w'∧Step E E'∧SimH E' (H++ef.map (jk H.length))∧SimL E' L∧V3 E' (nD H.length r) v∧E'.mL=E.mL:=by
 have ra:aK (V2 E.frozen) dg vs:=⟨hs.1▸aC.1,fun i x u hx hu=>by
  have aS:i<args.length:=by have:=(List.getElem?_eq_some_iff.1 hx).1;have:=hs.1;omega
  have aE:=List.getElem?_eq_getElem aS
  exact MU (Sub.refl L H) ax bH (hs.2 i _ x aE hx) (aC.2 i _ u aE hu)⟩
 refine(h.2 E.frozen vs (fun _=>rfl) (Ht ax) ra).mono ?_
 rintro e w' ⟨r,v,ef,E1,rfl,⟨aD,vG,aq⟩,rfl,ap,ed,hv,bf⟩
 have vn: ∀c,E1.PF c→E.w.heap.size≤c∧c<E1.w.heap.size:=fun c hc=>⟨(bf.eD c hc).elim (fun h=>h.elim) id,ed.db c (ed.c4 c hc)⟩
 have s9: ∀c,E1.fe c→E.w.heap.size≤c∧c<E1.w.heap.size:=fun c hc=>⟨(bf.ni c hc).elim (fun⟨b,hb⟩=>by cases hb) id,ed.eQ c hc⟩
 have kx: ∀c,c<E.w.heap.size→E1.w.heap[c]?=E.w.heap[c]?:=fun c hc=>bf.dj c hc (fun⟨b,hb⟩=>by cases hb) (fun⟨b,hb⟩=>by cases hb)
 have iq:=ax.eQ
 have ir:=ax.fq
 generalize gK:E.join E1 H.length=E'
 have kA: ∀b,b<H.length→E'.m b=E.m b∧E'.bc b=E.bc b∧E'.sz b=E.sz b∧E'.cp b=E.cp b:=fun b hb=>gK▸US hb
 have gi: ∀b,E'.m (H.length+b)=E1.m b∧E'.bc (H.length+b)=E1.bc b∧E'.sz (H.length+b)=E1.sz b∧E'.cp (H.length+b)=E1.cp b:=fun b=>gK▸Dn b
 have kB:E'.w=E1.w:=by rw[←gK];rfl
 have tB: ∀c,E'.PA c↔E.PA c∨E1.PF c:=fun c=>by rw[←gK];exact Iff.rfl
 have y1: ∀c,E'.PF c↔E.PF c∨E1.PF c:=fun c=>by rw[←gK];exact Iff.rfl
 have p9:E'.mL=E.mL:=by rw[←gK];rfl
 have split: ∀b,b<H.length∨ ∃k,b=H.length+k:=fun b=>by
  rcases Nat.lt_or_ge b H.length with h | h
  ·exact .inl h
  ·exact .inr ⟨b - H.length,by omega⟩
 have Xu: ∀b x,E.m b=some x→b<H.length:=fun b x hb=>by
  rcases Nat.lt_or_ge b H.length with h | h
  ·exact h
  ·rw[(ax.fresh b h).1] at hb;cases hb
 have nj: ∀c,E'.fe c→E.fe c∨E1.fe c:=fun c ⟨b,hb⟩=>by
  rcases split b with h | ⟨k,rfl⟩
  ·exact .inl ⟨b,by rw[←(kA b h).1];exact hb⟩
  ·exact .inr ⟨k,by rw[←(gi k).1];exact hb⟩
 have eA:Step E E':=
  {le:=⟨fun c hc=>(tB c).2 (.inl hc),fun c hc=>(y1 c).2 (.inl hc),fun c hc=>by rw[kB];exact kx c (ax.db c hc),fun c hc=>by rw[kB];exact kx c (ax.db c (ax.c4 c hc)),fun b=>by
     rcases split b with h | ⟨k,rfl⟩
     ·rw[(kA b h).2.1];exact Nat.le_refl _
     ·rw[(ax.fresh (H.length+k) (by omega)).2];exact Nat.zero_le _,fun b x hx _=>by
     have h:=Xu b x hx
     exact⟨by rw[(kA b h).1];exact hx,(kA b h).2.2.1,(kA b h).2.2.2⟩,fun t c h=>by rw[p9];exact h⟩
   os:=by rw[kB];exact bf.os
   tape:=by rw[kB];exact bf.tape
   output:=by rw[kB];exact bf.output
   size:=by rw[kB];exact bf.size
   dj:=fun c hc _ _=>by rw[kB];exact kx c hc
   hB:=fun b c hb=>by
    rcases split b with h | ⟨k,rfl⟩
    ·exact .inl (by rw[←(kA b h).1];exact hb)
    ·exact .inr (s9 c ⟨k,by rw[←(gi k).1];exact hb⟩).1
   hR:=fun c ⟨t,bj⟩=> .inl ⟨t,by rw[←p9];exact bj⟩
   eJ:=fun c hc=>((tB c).1 hc).elim .inl fun h=> .inr (vn c h).1
   eD:=fun c hc=>((y1 c).1 hc).elim .inl fun h=> .inr (vn c h).1}
 have B4: ∀b,b<H.length→(H++ef.map (jk H.length))[b]?=H[b]?:=fun b hb=>List.getElem?_append_left hb
 have B3: ∀k,(H++ef.map (jk H.length))[H.length+k]?=(ef[k]?).map (jk H.length):=fun k=>by
  rw[List.getElem?_append_right (by omega),List.getElem?_map];congr 2;omega
 refine⟨r,v,ef,E',rfl,aq,kB,eA,?_,?_,UT gK.symm aD hv,p9⟩
 ·exact{
   heap:=fun b c hb=>by
    rcases split b with h | ⟨k,rfl⟩
    ·obtain⟨ep,aO,lQ,p8⟩:=kA b h
     rw[ep] at hb
     obtain⟨blk,aw,ty,q1,b8,q2,q3,q4,cD,cu⟩:=ax.heap b c hb
     refine⟨blk,aw,ty,by rw[B4 b h];exact q1,by rw[lQ];exact b8,by rw[kB,kx c (iq c ⟨b,hb⟩)];exact q2,by rw[lQ,p8];exact q3,by rw[p8];exact q4,by rw[lQ];exact cD,fun i j row a aq ar=> ?_⟩
     obtain⟨u,hu,CK⟩:=cu i j row a aq ar
     exact⟨u,by rw[lQ];exact hu,CK.le eA.le.bK⟩
    ·obtain⟨ep,aO,lQ,p8⟩:=gi k
     rw[ep] at hb
     obtain⟨blk,aw,ty,q1,b8,q2,q3,q4,cD,cu⟩:=ed.heap k c hb
     have SU: ∀row∈blk.rows,∀a∈row,nt a=true:=fun row aq a aC=>
      List.all_eq_true.1 (List.all_eq_true.1 (List.all_eq_true.1 vG blk (List.mem_of_getElem? q1)) row aq) a aC
     refine⟨jk H.length blk,aw,ty,by rw[B3 k,q1];rfl,by rw[lQ];exact b8,by rw[kB];exact q2,by rw[lQ,p8];exact q3,by rw[p8];show(blk.rows.map _).length≤_;rw[List.length_map];exact q4,fun i row' aq=> ?_,fun i j row' gS aq ar=> ?_⟩
     ·have aq:(blk.rows.map fun row=>row.map (iA H.length))[i]?=some row':=aq
      rw[List.getElem?_map] at aq
      cases af:blk.rows[i]? with
      | none=>simp[af] at aq
      | some row=>
       simp[af] at aq;subst aq
       rw[List.length_map,lQ];exact cD i row af
     ·have aq:(blk.rows.map fun row=>row.map (iA H.length))[i]?=some row':=aq
      rw[List.getElem?_map] at aq
      cases af:blk.rows[i]? with
      | none=>simp[af] at aq
      | some row=>
       simp[af] at aq;subst aq
       rw[List.getElem?_map] at ar
       cases jT:row[j]? with
       | none=>simp[jT] at ar
       | some a=>
        simp[jT] at ar;subst ar
        obtain⟨u,hu,CK⟩:=cu i j row a af jT
        refine⟨u,by rw[lQ];exact hu,?_⟩
        have HL:E'.bK=E.bK.join E1.bK H.length:=by rw[←gK];rfl
        exact Dp HL (SU row (List.mem_of_getElem? af) a (List.mem_of_getElem? jT)) CK
   dX:=fun b blk hb=>by
    rcases split b with h | ⟨k,rfl⟩
    ·rw[B4 b h] at hb;rw[(kA b h).2.1];exact ax.dX b blk hb
    ·rw[B3 k] at hb
     cases af:ef[k]? with
     | none=>simp[af] at hb
     | some y=>simp[af] at hb;subst hb;rw[(gi k).2.1];exact ed.dX k y af
   fX:=fun b hb=>by
    rcases split b with h | ⟨k,rfl⟩
    ·rw[(kA b h).1] at hb
     obtain⟨blk,q1,q2⟩:=ax.fX b hb
     exact⟨blk,by rw[B4 b h];exact q1,by rw[(kA b h).2.2.1];exact q2⟩
    ·rw[(gi k).1] at hb
     obtain⟨blk,q1,q2⟩:=ed.fX k hb
     exact⟨jk H.length blk,by rw[B3 k,q1];rfl,by rw[(gi k).2.2.1];exact q2⟩
   fresh:=fun b hb=>by
    rw[List.length_append,List.length_map] at hb
    rcases split b with h | ⟨k,rfl⟩
    ·omega
    ·rw[(gi k).1,(gi k).2.1];exact ed.fresh k (by omega)
   gu:=fun b bI c h1 h2=>by
    rcases split b with h | ⟨k,rfl⟩<;>rcases split bI with h' | ⟨iR,rfl⟩
    ·rw[(kA b h).1] at h1;rw[(kA bI h').1] at h2;exact ax.gu b bI c h1 h2
    ·rw[(kA b h).1] at h1;rw[(gi iR).1] at h2
     have:=iq c ⟨b,h1⟩;have:=(s9 c ⟨iR,h2⟩).1;omega
    ·rw[(gi k).1] at h1;rw[(kA bI h').1] at h2
     have:=iq c ⟨bI,h2⟩;have:=(s9 c ⟨k,h1⟩).1;omega
    ·rw[(gi k).1] at h1;rw[(gi iR).1] at h2;rw[ed.gu k iR c h1 h2]
   hS:=fun t gz c h1 h2=>by rw[p9] at h1 h2;exact ax.hS t gz c h1 h2
   fz:=fun b t c h1 h2=>by
    rw[p9] at h2
    rcases split b with h | ⟨k,rfl⟩
    ·rw[(kA b h).1] at h1;exact ax.fz b t c h1 h2
    ·rw[(gi k).1] at h1
     have:=ir c ⟨t,h2⟩;have:=(s9 c ⟨k,h1⟩).1;omega
   gw:=fun c hc hi=>by
    rcases(tB c).1 hc with h | h<;>rcases nj c hi with h' | h'
    ·exact ax.gw c h h'
    ·have:=ax.db c h;have:=(s9 c h').1;omega
    ·have:=iq c h';have:=(vn c h).1;omega
    ·exact ed.gw c (ed.c4 c h) h'
   gM:=fun c hc ⟨t,bj⟩=>by
    rw[p9] at bj
    rcases(tB c).1 hc with h | h
    ·exact ax.gM c h ⟨t,bj⟩
    ·have:=ir c ⟨t,bj⟩;have:=(vn c h).1;omega
   c4:=fun c hc=>(tB c).2 (((y1 c).1 hc).elim (fun h=> .inl (ax.c4 c h)) .inr)
   eK:=fun c hc=>by
    rw[kB]
    rcases(y1 c).1 hc with h | h
    ·exact(ax.eK c h).same (kx c (ax.db c (ax.c4 c h)))
    ·exact ed.eK c h
   db:=fun c hc=>by
    rw[kB]
    rcases(tB c).1 hc with h | h
    ·exact Nat.lt_of_lt_of_le (ax.db c h) bf.size
    ·exact(vn c h).2
   eQ:=fun c hc=>by
    rw[kB]
    rcases nj c hc with h | h
    ·exact Nat.lt_of_lt_of_le (iq c h) bf.size
    ·exact(s9 c h).2
   fq:=fun c ⟨t,bj⟩=>by
    rw[p9] at bj;rw[kB]
    exact Nat.lt_of_lt_of_le (ir c ⟨t,bj⟩) bf.size}
 ·intro t c hm
  rw[p9] at hm
  obtain⟨cells,aw,ty,q1,q2,q3⟩:=bH t c hm
  exact⟨cells,aw,ty,q1,by rw[kB,kx c (ir c ⟨t,hm⟩)];exact q2,q3.mono fun _ _ k=>k.le eA.le.bK⟩
theorem Pw {P:Program} {f:FuncId} {args:List AV} {L:List (Nat×List AV)} {H:List Blk} {E:Env} {vs:List Value} {Q:AV→List Blk→Prop} (ax:SimH E H) (bH:SimL E L)
  (aC:aK (V2 E) args vs) (ap:args.all iv=true) (h:dc P f args H fun r H'=>tI r=true∧Q r H'):
  Calls P f vs.toArray E.w fun e w'=> ∃r v H' E',e= .returned v∧Q r H'∧E'.w=w'∧Step E E'∧SimH E' H'∧SimL E' L∧V3 E' r v∧E'.mL=E.mL:=by
 have ra:aK (V2 E.bK) args vs:=⟨aC.1,fun i a v h1 h2=>(aC.2 i a v h1 h2).bK (List.all_eq_true.1 ap a (List.mem_of_getElem? h1))⟩
 refine(h.2 E.bK vs (fun _=>rfl) ax.bK ra).mono ?_
 rintro e w' ⟨r,v,H',E1,rfl,⟨SR,aq⟩,rfl,yL,ed,hv,bf⟩
 let E':Env:={E1 with mL:=E.mL}
 have HL:E'.bK=E1.bK:=rfl
 have ir:=ax.fq
 have ni: ∀c,E1.fe c→E.fe c∨E.w.heap.size≤c:=bf.ni
 have SG: ∀c,E.iQ c→E1.w.heap[c]?=E.w.heap[c]?:=fun c hc=>bf.dj c (ir c hc) (fun⟨b,hb⟩=>by
  obtain⟨t,bj⟩:=hc
  exact ax.fz b t c hb bj) (fun⟨b,hb⟩=>by cases hb)
 have hle:E1.bK.fx E':=Env.zg E'
 have eA:Step E E':=
  {le:=⟨bf.le.eJ,bf.le.eD,bf.le.qD,bf.le.wf,bf.le.bc,bf.le.m,fun _ _ h=>h⟩
   os:=bf.os,tape:=bf.tape,output:=bf.output,size:=bf.size
   dj:=fun c hc h1 h2=>bf.dj c hc h1 (fun⟨b,hb⟩=>by cases hb)
   hB:=bf.hB
   hR:=fun c h=> .inl h
   eJ:=bf.eJ
   eD:=bf.eD}
 refine⟨r,v,H',E',rfl,aq,rfl,eA,?_,?_,?_,rfl⟩
 ·exact{ed with
   hS:=ax.hS
   fz:=fun b t c h1 h2=>by
    rcases ni c ⟨b,h1⟩ with⟨bI,h⟩ | h
    ·exact ax.fz bI t c h h2
    ·have:=ir c ⟨t,h2⟩;omega
   gM:=fun c hc ⟨t,bj⟩=>by
    rcases bf.eJ c hc with h | h
    ·exact ax.gM c h ⟨t,bj⟩
    ·have h:E.w.heap.size≤c:=h
     have:=ir c ⟨t,bj⟩;omega
   fq:=fun c hc=>Nat.lt_of_lt_of_le (ir c hc) bf.size}
 ·intro t c hm
  obtain⟨cells,aw,ty,q1,q2,q3⟩:=bH t c hm
  exact⟨cells,aw,ty,q1,by show E1.w.heap[c]?=_;rw[SG c ⟨t,hm⟩];exact q2,q3.mono fun _ _ k=>k.le eA.le.bK⟩
 ·exact(hv.bK SR).le hle
end Go.Proofs.Ytglpfccgmfhkdaa.Fw
