/- The framework, part A: abstract values, how they stand for Go's values in a world, and what stays as it is when the world grows. -/
import Derived.WalkKit
import Derived.KernelRfl
import Derived.Orders
import Derived.Laws.StructEq
import Derived.ChangeArms
import Derived.ChangeShapes
import Derived.SizedLaws
import Derived.Below
import Derived.JoinedOf
import Derived.Test.YtejmihecgodhnaaGreatProg
import Derived.Lib.Hide
import Derived.WalkSpells
import Derived.OwnWalk
import Derived.Maps.AppendAt
import Derived.Deep.RegionHeld3
set_option linter.unusedVariables false
namespace Go.Proofs.YtejmihecgodhnaaGreat.Fw
open Go
inductive AV where
 | undef
 | int (k:IntKind) (n:Int)
 | bool (b:Bool)
 | str (s:ByteArray)
 | aP (rows:List (List AV)) (full fresh:Bool)
 | ref (b g off n:Nat) (full:Bool)
 | ptr (b g row col:Nat)
 | fZ (t col:Nat)
 | dv (cells:List AV) (col:Nat)
 | gH
 | gW
 | agg (cells:List AV)
 | tup (vs:List AV)
 | fn (f:FuncId) (caps:List AV)
 deriving Inhabited
structure Blk where
 bk:Nat
 sz:Nat
 rows:List (List AV)
 deriving Inhabited
structure St where
 T:List AV
 L:List (Nat×List AV)
 H:List Blk
def ah {α β:Type} (R:α→β→Prop) (l:List α) (m:List β):Prop:=
 l.length=m.length∧ ∀(i:Nat) (a:α) (b:β),l[i]?=some a→m[i]?=some b→R a b
theorem ah.nil {α β:Type} {R:α→β→Prop}:ah R [] []:=⟨rfl,fun i a b h=>by simp at h⟩
theorem ah.cons {α β:Type} {R:α→β→Prop} {a:α} {b:β} {l:List α} {m:List β} (h:R a b) (k:ah R l m):ah R (a::l) (b::m):=
 ⟨by simp[k.1],fun i x y hx aU=>by
  cases i with
  | zero=>simp at hx aU;subst hx;subst aU;exact h
  | succ i=>exact k.2 i x y (by simpa using hx) (by simpa using aU)⟩
theorem ah.head {α β:Type} {R:α→β→Prop} {a:α} {b:β} {l:List α} {m:List β} (h:ah R (a::l) (b::m)):R a b:=h.2 0 a b rfl rfl
theorem ah.tail {α β:Type} {R:α→β→Prop} {a:α} {b:β} {l:List α} {m:List β} (h:ah R (a::l) (b::m)):ah R l m:=
 ⟨by simpa using h.1,fun i x y hx aU=>h.2 (i+1) x y (by simpa using hx) (by simpa using aU)⟩
theorem ah.mono {α β:Type} {R Db:α→β→Prop} {l:List α} {m:List β} (h:ah R l m) (ak: ∀a b,R a b→Db a b):ah Db l m:=
 ⟨h.1,fun i a b x y=>ak _ _ (h.2 i a b x y)⟩
theorem ah.get {α β:Type} {R:α→β→Prop} {l:List α} {m:List β} (h:ah R l m) {i:Nat} {a:α} (aw:l[i]?=some a): ∃b,m[i]?=some b∧R a b:=by
 have hi:i<l.length:=(List.getElem?_eq_some_iff.1 aw).1
 have hm:i<m.length:=h.1▸hi
 exact⟨m[i],List.getElem?_eq_getElem hm,h.2 i a _ aw (List.getElem?_eq_getElem hm)⟩
theorem ah.pT {α β:Type} {R:α→β→Prop} {m:List β} (h:ah R [] m):m=[]:=by
 have:=h.1;exact List.eq_nil_of_length_eq_zero (by simpa using this.symm)
theorem ah.cons_inv {α β:Type} {R:α→β→Prop} {a:α} {l:List α} {m:List β} (h:ah R (a::l) m): ∃b fM,m=b::fM∧R a b∧ah R l fM:=by
 cases m with
 | nil=>have:=h.1;simp at this
 | cons b fM=>exact⟨b,fM,rfl,h.head,h.tail⟩
theorem ah.append {α β:Type} {R:α→β→Prop} {l fH:List α} {m fM:List β} (h:ah R l m) (k:ah R fH fM):ah R (l++fH) (m++fM):=by
 refine⟨by simp[h.1,k.1],fun i a b aw hb=> ?_⟩
 rcases Nat.lt_or_ge i l.length with hi | hi
 ·rw[List.getElem?_append_left hi] at aw
  rw[List.getElem?_append_left (h.1▸hi)] at hb
  exact h.2 i a b aw hb
 ·rw[List.getElem?_append_right hi] at aw
  rw[List.getElem?_append_right (h.1▸hi),←h.1] at hb
  exact k.2 _ a b aw hb
theorem ah.set {α β:Type} {R:α→β→Prop} {l:List α} {m:List β} (h:ah R l m) (i:Nat) {a:α} {b:β} (ak:R a b):ah R (l.set i a) (m.set i b):=by
 refine⟨by simp[h.1],fun j x y hx aU=> ?_⟩
 by_cases ac:i=j
 ·subst ac
  rw[List.getElem?_set_self'] at hx aU
  cases au:l[i]? with
  | none=>simp[au] at hx
  | some a0=>
   cases hm:m[i]? with
   | none=>simp[hm] at aU
   | some b0=>simp[au] at hx;simp[hm] at aU;subst hx;subst aU;exact ak
 ·rw[List.getElem?_set_ne ac] at hx aU
  exact h.2 j x y hx aU
inductive a1 (w:World):(Nat→Prop)→(Nat→Prop)→AV→Value→Prop where
 | undef {PA PF:Nat→Prop} (v:Value):a1 w PA PF .undef v
 | int {PA PF:Nat→Prop} (k:IntKind) (n:Int):a1 w PA PF (.int k n) (.int k n)
 | bool {PA PF:Nat→Prop} (b:Bool):a1 w PA PF (.bool b) (.bool b)
 | str {PA PF:Nat→Prop} (s:ByteArray):a1 w PA PF (.str s) (.string s)
 | aP {PA PF PB:Nat→Prop} {rows:List (List AV)} {full fresh:Bool} {A:Option Addr} {cap sz:Nat} {vs:Nat→Nat→Value}
   (fx: ∀c,PB c→if fresh=true then PF c else PA c)
   (fl:rows.length≤cap∧rows.length≤4611686018427387904) (gw:full=true→cap=rows.length)
   (cn: ∀(i:Nat) (row:List AV),rows[i]?=some row→row.length=sz)
   (dz:0<rows.length→ ∃c o,A=some ⟨c,o,none⟩∧PB c∧ ∀i j,i<rows.length→j<sz→w.cell? ⟨c,o+(i*sz+j),none⟩=some (vs i j))
   (hrel: ∀(i j:Nat) (row:List AV) (a:AV),rows[i]?=some row→row[j]?=some a→a1 w PB (fun _=>False) a (vs i j)):
   a1 w PA PF (.aP rows full fresh) (.slice A rows.length cap)
 | dv {PA PF:Nat→Prop} {cells:List AV} {col c o:Nat} {vs:Nat→Value} (hc:PA c)
   (dz: ∀j,j<cells.length→w.cell? ⟨c,o+j,none⟩=some (vs j))
   (hrel: ∀(j:Nat) (a:AV),cells[j]?=some a→a1 w PA (fun _=>False) a (vs j)):a1 w PA PF (.dv cells col) (.pointer (some ⟨c,o+col,none⟩))
 | gH {PA PF:Nat→Prop}:a1 w PA PF .gH (.pointer none)
 | gW {PA PF:Nat→Prop}:a1 w PA PF .gW .nilIface
 | fn {PA PF:Nat→Prop} {f:FuncId} {caps:List AV} {vs:List Value} (au:caps.length=vs.length)
   (hrel: ∀(i:Nat) (a:AV) (v:Value),caps[i]?=some a→vs[i]?=some v→a1 w PA (fun _=>False) a v):a1 w PA PF (.fn f caps) (.func (.func f) #[] vs.toArray)
theorem Tj {w w':World} {c o:Nat} (h:w'.heap[c]?=w.heap[c]?):w'.cell? ⟨c,o,none⟩=w.cell? ⟨c,o,none⟩:=by
 simp[World.cell?,h]
theorem a1.mono {w w':World} {PA PF:Nat→Prop} {a:AV} {v:Value} (h:a1 w PA PF a v):
  ∀{C_ Da:Nat→Prop},(∀c,PA c→w'.heap[c]?=w.heap[c]?)→(∀c,PF c→w'.heap[c]?=w.heap[c]?)→(∀c,PA c→C_ c)→(∀c,PF c→Da c)→a1 w' C_ Da a v:=by
 induction h with
 | undef v=>intros;exact .undef v
 | int k n=>intros;exact .int k n
 | bool b=>intros;exact .bool b
 | str s=>intros;exact .str s
 | @aP PA PF PB rows full fresh A cap sz vs fx fl gw cn dz hrel bp=>
  intro C_ Da hw M1 aw hf
  have UI: ∀c,PB c→w'.heap[c]?=w.heap[c]?:=fun c hc=>by
   have:=fx c hc
   split at this
   ·exact M1 c this
   ·exact hw c this
  refine .aP (PB:=PB) (sz:=sz) (vs:=vs) (fun c hc=> ?_) fl gw cn (fun ag=> ?_) (fun i j row a ak ac=> ?_)
  ·have:=fx c hc
   split
   ·rename_i h;rw[if_pos h] at this;exact hf c this
   ·rename_i h;rw[if_neg h] at this;exact aw c this
  ·obtain⟨c,o,e,hc,eR⟩:=dz ag
   exact⟨c,o,e,hc,fun i j hi ac=>by rw[Tj (UI c hc)];exact eR i j hi ac⟩
  ·exact bp i j row a ak ac UI (fun c hc=>hc.elim) (fun c hc=>hc) (fun c hc=>hc)
 | @dv PA PF cells col c o vs hc dz hrel bp=>
  intro C_ Da hw M1 aw hf
  refine .dv (aw c hc) (vs:=vs) (fun j ac=> ?_) (fun j a ac=>bp j a ac hw (fun c hc=>hc.elim) aw (fun c hc=>hc))
  rw[Tj (hw c hc)];exact dz j ac
 | gH=>intros;exact .gH
 | gW=>intros;exact .gW
 | fn au hrel bp=>
  intro C_ Da hw M1 aw hf
  exact .fn au (fun i a v h1 h2=>bp i a v h1 h2 hw (fun c hc=>hc.elim) aw (fun c hc=>hc))
theorem a1.one {w:World} {PA PF:Nat→Prop} {a:AV} {v:Value} (h:a1 w PA PF a v) (hu:a≠ .undef):v.oneCell'=true:=by
 cases h<;>first | rfl | exact absurd rfl hu
structure Env where
 w:World
 PA:Nat→Prop
 PF:Nat→Prop
 m:Nat→Option (Option Nat)
 bk:Nat→Nat
 sz:Nat→Nat
 cp:Nat→Nat
 mL:Nat→Option Nat
def ft (E:Env):AV→Value→Prop
 | .ref b g off n full,v=>(g<E.bk b∧ ∃A cap,v= .slice A n cap)∨(g=E.bk b∧((E.m b=some none∧off=0∧n=0∧ ∃A,v= .slice A 0 0)∨
   ∃c cap,E.m b=some (some c)∧v= .slice (some ⟨c,off*E.sz b,none⟩) n cap∧n≤cap∧(full=true→cap=n)∧off+cap≤E.cp b))
 | .ptr b g r c,v=>(g<E.bk b∧ ∃bl o,v= .pointer (some ⟨bl,o,none⟩))∨(g=E.bk b∧ ∃bl,E.m b=some (some bl)∧v= .pointer (some ⟨bl,r*E.sz b+c,none⟩))
 | .fZ t c,v=> ∃bl,E.mL t=some bl∧v= .pointer (some ⟨bl,c,none⟩)
 | a,v=>a1 E.w E.PA E.PF a v
def b6 (E:Env):AV→Value→Prop
 | .fn f caps,v=> ∃vs:List Value,v= .func (.func f) #[] vs.toArray∧ah (ft E) caps vs
 | a,v=>ft E a v
def V2 (E:Env):AV→Value→Prop
 | .agg cells,v=> ∃vs:List Value,v= .agg vs.toArray∧ah (b6 E) cells vs
 | a,v=>b6 E a v
def V3 (E:Env):AV→Value→Prop
 | .tup l,v=> ∃vs:List Value,v= .tuple vs.toArray∧ah (V2 E) l vs
 | a,v=>V2 E a v
def Plain (w:World) (c:Nat):Prop:= ∃an ty,w.heap[c]?=some (.cells an ty (0,0))
theorem Plain.same {w w':World} {c:Nat} (h:Plain w c) (e:w'.heap[c]?=w.heap[c]?):Plain w' c:=by
 obtain⟨an,ty,h⟩:=h;exact⟨an,ty,e.trans h⟩
structure Env.hp (E E':Env):Prop where
 gn: ∀c,E.PA c→E'.PA c
 fS: ∀c,E.PF c→E'.PF c
 xC: ∀c,E.PA c→E'.w.heap[c]?=E.w.heap[c]?
 wf: ∀c,E.PF c→E'.w.heap[c]?=E.w.heap[c]?
 bk: ∀b,E.bk b≤E'.bk b
 m: ∀b x,E.m b=some x→E'.bk b=E.bk b→E'.m b=some x∧E'.sz b=E.sz b∧E'.cp b=E.cp b
 mL: ∀t c,E.mL t=some c→E'.mL t=some c
theorem Env.hp.refl (E:Env):E.hp E:=⟨fun _ h=>h,fun _ h=>h,fun _ _=>rfl,fun _ _=>rfl,fun _=>Nat.le_refl _,fun _ _ h _=>⟨h,rfl,rfl⟩,fun _ _ h=>h⟩
theorem Env.hp.trans {A B C:Env} (h:A.hp B) (k:B.hp C):A.hp C:=
 ⟨fun c x=>k.gn c (h.gn c x),fun c x=>k.fS c (h.fS c x),fun c x=>(k.xC c (h.gn c x)).trans (h.xC c x),fun c x=>(k.wf c (h.fS c x)).trans (h.wf c x),
  fun b=>Nat.le_trans (h.bk b) (k.bk b),fun b x hx az=>by
   have h1:B.bk b=A.bk b:=Nat.le_antisymm (az▸k.bk b) (h.bk b)
   have h2:C.bk b=B.bk b:=az.trans h1.symm
   obtain⟨a_,s1,bz⟩:=h.m b x hx h1
   obtain⟨bw,s2,bu⟩:=k.m b x a_ h2
   exact⟨bw,s2.trans s1,bu.trans bz⟩,
  fun t c x=>k.mL t c (h.mL t c x)⟩
theorem ft.le {E E':Env} (h:E.hp E') {a:AV} {v:Value} (hv:ft E a v):ft E' a v:=by
 have oM: ∀a v,a1 E.w E.PA E.PF a v→a1 E'.w E'.PA E'.PF a v:=fun a v k=>k.mono h.xC h.wf h.gn h.fS
 cases a with
 | ref b g off n full=>
  rcases hv with⟨hv,h1⟩ | ⟨az,hv⟩
  ·exact .inl ⟨Nat.lt_of_lt_of_le hv (h.bk b),h1⟩
  ·rcases Nat.lt_or_ge (E.bk b) (E'.bk b) with aQ | gO
   ·refine .inl ⟨az▸aQ,?_⟩
    rcases hv with⟨hm,aj,rfl,A,rfl⟩ | ⟨c,cap,hm,rfl,h1,h2,aC⟩<;>exact⟨_,_,rfl⟩
   ·have he:E'.bk b=E.bk b:=Nat.le_antisymm gO (h.bk b)
    refine .inr ⟨by rw[he];exact az,?_⟩
    rcases hv with⟨hm,aj,ag,A,cm⟩ | ⟨c,cap,hm,e,h1,h2,aC⟩
    ·exact .inl ⟨(h.m b _ hm he).1,aj,ag,A,cm⟩
    ·obtain⟨a_,s1,bz⟩:=h.m b _ hm he
     exact .inr ⟨c,cap,a_,by rw[s1];exact e,h1,h2,by rw[bz];exact aC⟩
 | ptr b g r c=>
  rcases hv with⟨hv,h1⟩ | ⟨az,bl,hm,e⟩
  ·exact .inl ⟨Nat.lt_of_lt_of_le hv (h.bk b),h1⟩
  ·rcases Nat.lt_or_ge (E.bk b) (E'.bk b) with aQ | gO
   ·exact .inl ⟨az▸aQ,_,_,e⟩
   ·have he:E'.bk b=E.bk b:=Nat.le_antisymm gO (h.bk b)
    obtain⟨a_,s1,bz⟩:=h.m b _ hm he
    exact .inr ⟨by rw[he];exact az,bl,a_,by rw[s1];exact e⟩
 | fZ t c=>
  obtain⟨bl,hm,e⟩:=hv
  exact⟨bl,h.mL _ _ hm,e⟩
 | _=>exact oM _ _ hv
theorem sS {E:Env} {a:AV} {v:Value} (h: ∀f caps,a≠ .fn f caps):b6 E a v=ft E a v:=by
 cases a<;>first | rfl | exact absurd rfl (h _ _)
theorem rb {E:Env} {a:AV} {v:Value} (h: ∀l,a≠ .agg l):V2 E a v=b6 E a v:=by
 cases a<;>first | rfl | exact absurd rfl (h _)
theorem rc {E:Env} {a:AV} {v:Value} (h: ∀l,a≠ .tup l):V3 E a v=V2 E a v:=by
 cases a<;>first | rfl | exact absurd rfl (h _)
theorem b6.le {E E':Env} (h:E.hp E') {a:AV} {v:Value} (hv:b6 E a v):b6 E' a v:=by
 by_cases hf: ∃f caps,a= .fn f caps
 ·obtain⟨f,caps,rfl⟩:=hf
  obtain⟨vs,e,ab⟩:=hv
  exact⟨vs,e,ab.mono fun _ _ k=>k.le h⟩
 ·rw[sS fun f c e=>hf ⟨f,c,e⟩] at hv ⊢
  exact hv.le h
theorem V2.le {E E':Env} (h:E.hp E') {a:AV} {v:Value} (hv:V2 E a v):V2 E' a v:=by
 by_cases hf: ∃l,a= .agg l
 ·obtain⟨l,rfl⟩:=hf
  obtain⟨vs,e,ab⟩:=hv
  exact⟨vs,e,ab.mono fun _ _ k=>k.le h⟩
 ·rw[rb fun l e=>hf ⟨l,e⟩] at hv ⊢
  exact hv.le h
theorem V3.le {E E':Env} (h:E.hp E') {a:AV} {v:Value} (hv:V3 E a v):V3 E' a v:=by
 by_cases hf: ∃l,a= .tup l
 ·obtain⟨l,rfl⟩:=hf
  obtain⟨vs,e,ab⟩:=hv
  exact⟨vs,e,ab.mono fun _ _ k=>k.le h⟩
 ·rw[rc fun l e=>hf ⟨l,e⟩] at hv ⊢
  exact hv.le h
theorem a1.v0 {E:Env} {a:AV} {v:Value} (h:a1 E.w E.PA E.PF a v):ft E a v:=by
 cases a<;>first | exact h | cases h
theorem a1.v1 {E:Env} {a:AV} {v:Value} (h:a1 E.w E.PA E.PF a v):b6 E a v:=by
 by_cases hf: ∃f caps,a= .fn f caps
 ·obtain⟨f,caps,rfl⟩:=hf
  cases h with
  | fn au hrel=>exact⟨_,rfl,au,fun i a v h1 h2=>((hrel i a v h1 h2).mono (fun _ _=>rfl) (fun _ h=>h.elim) (fun _ h=>h) (fun _ h=>h.elim)).v0⟩
 ·rw[sS fun f c e=>hf ⟨f,c,e⟩]
  exact h.v0
theorem b6.undef (E:Env) (v:Value):b6 E .undef v:=a1.undef v
theorem V3.undef (E:Env) (v:Value):V3 E .undef v:=a1.undef v
def AV.aew:AV→Bool
 | .undef | .agg _ | .tup _=>false
 | _=>true
theorem b6.one {E:Env} {a:AV} {v:Value} (h:b6 E a v) (hc:a.aew=true):True:=trivial
def eV:List (Nat×List AV)→Nat→Option (List AV)
 | [],_=>none
 | (k,c)::l,t=>if t=k then some c else eV l t
def mH:List (Nat×List AV)→Nat→List AV→List (Nat×List AV)
 | [],_,_=>[]
 | (k,c)::l,t,d=>if t=k then(k,d)::l else(k,c)::mH l t d
def Env.fW (E:Env) (c:Nat):Prop:= ∃b,E.m b=some (some c)
def Env.l1 (E:Env) (c:Nat):Prop:= ∃t,E.mL t=some c
def Env.bS (E:Env):Env:={E with mL:=fun _=>none}
theorem Env.IQ (E:Env):E.bS.hp E:=⟨fun _ h=>h,fun _ h=>h,fun _ _=>rfl,fun _ _=>rfl,fun _=>Nat.le_refl _,fun _ _ h _=>⟨h,rfl,rfl⟩,fun _ _ h=>by cases h⟩
theorem Env.hp.bS {E E':Env} (h:E.hp E'):E.bS.hp E'.bS:=⟨h.gn,h.fS,h.xC,h.wf,h.bk,h.m,fun _ _ h=>by cases h⟩
def zX (E:Env) (sz:Nat) (rows:List (List AV)) (an:Array Value):Prop:=
 (∀(i:Nat) (row:List AV),rows[i]?=some row→row.length=sz)∧
 ∀(i j:Nat) (row:List AV) (a:AV),rows[i]?=some row→row[j]?=some a→ ∃u,an[i*sz+j]?=some u∧b6 E.bS a u
structure SimH (E:Env) (H:List Blk):Prop where
 heap: ∀b c,E.m b=some (some c)→ ∃blk an ty,H[b]?=some blk∧E.sz b=blk.sz∧E.w.heap[c]?=some (.cells an ty (0,0))∧an.size=E.cp b*E.sz b∧blk.rows.length≤E.cp b∧zX E (E.sz b) blk.rows an
 ff: ∀(b:Nat) (blk:Blk),H[b]?=some blk→E.bk b=blk.bk
 h6: ∀b,E.m b=some none→ ∃blk,H[b]?=some blk∧E.sz b=blk.sz
 fresh: ∀b,H.length≤b→E.m b=none∧E.bk b=0
 gV: ∀b b4 c,E.m b=some (some c)→E.m b4=some (some c)→b=b4
 kT: ∀t kc c,E.mL t=some c→E.mL kc=some c→t=kc
 ht: ∀b t c,E.m b=some (some c)→E.mL t=some c→False
 iG: ∀c,E.PA c→ ¬E.fW c
 jv: ∀c,E.PA c→ ¬E.l1 c
 dU: ∀c,E.PF c→E.PA c
 ga: ∀c,E.PF c→Plain E.w c
 eh: ∀c,E.PA c→c<E.w.heap.size
 gi: ∀c,E.fW c→c<E.w.heap.size
 hl: ∀c,E.l1 c→c<E.w.heap.size
def SimL (E:Env) (L:List (Nat×List AV)):Prop:=
 ∀t c,E.mL t=some c→ ∃cells an ty,eV L t=some cells∧E.w.heap[c]?=some (.cells an ty (0,0))∧ah (b6 E.bS) cells an.toList
structure xP (E:Env) (ar:St) (tmps:Array Value):Prop where
 h:SimH E ar.H
 l:SimL E ar.L
 jD: ∀t,V3 E (ar.T.getD t .undef) (tmps.getD t undef)
 size:ar.T.length=tmps.size
structure Step (E E':Env):Prop where
 le:E.hp E'
 os:E'.w.os=E.w.os
 tape:E'.w.tape=E.w.tape
 output:E'.w.output=E.w.output
 size:E.w.heap.size≤E'.w.heap.size
 cT: ∀c,c<E.w.heap.size→ ¬E.fW c→ ¬E.l1 c→E'.w.heap[c]?=E.w.heap[c]?
 kl: ∀b c,E'.m b=some (some c)→E.m b=some (some c)∨E.w.heap.size≤c
 kR: ∀c,E'.l1 c→E.l1 c∨E.w.heap.size≤c
 gn: ∀c,E'.PA c→E.PA c∨E.w.heap.size≤c
 fS: ∀c,E'.PF c→E.PF c∨E.w.heap.size≤c
theorem Step.qH {E E':Env} (h:Step E E'): ∀c,E'.fW c→E.fW c∨E.w.heap.size≤c:=fun c ⟨b,hb⟩=>(h.kl b c hb).elim (fun h=> .inl ⟨b,h⟩) .inr
theorem Step.refl (E:Env):Step E E:=⟨.refl E,rfl,rfl,rfl,Nat.le_refl _,fun _ _ _ _=>rfl,fun _ _ h=> .inl h,fun _ h=> .inl h,fun _ h=> .inl h,fun _ h=> .inl h⟩
theorem Step.trans {A B C:Env} (h:Step A B) (k:Step B C):Step A C where
 le:=h.le.trans k.le
 os:=k.os.trans h.os
 tape:=k.tape.trans h.tape
 output:=k.output.trans h.output
 size:=Nat.le_trans h.size k.size
 cT:=fun c hc h1 h2=>by
  rw[k.cT c (Nat.lt_of_lt_of_le hc h.size) (fun x=>(h.qH c x).elim h1 (fun y=>absurd hc (Nat.not_lt.2 y))) (fun x=>(h.kR c x).elim h2 (fun y=>absurd hc (Nat.not_lt.2 y)))]
  exact h.cT c hc h1 h2
 kl:=fun b c x=>(k.kl b c x).elim (fun y=>h.kl b c y) (fun y=> .inr (Nat.le_trans h.size y))
 kR:=fun c x=>(k.kR c x).elim (fun y=>h.kR c y) (fun y=> .inr (Nat.le_trans h.size y))
 gn:=fun c x=>(k.gn c x).elim (fun y=>h.gn c y) (fun y=> .inr (Nat.le_trans h.size y))
 fS:=fun c x=>(k.fS c x).elim (fun y=>h.fS c y) (fun y=> .inr (Nat.le_trans h.size y))
class cL where
 n:Nat
structure Good [j0:cL] (cj E:Env):Prop where
 EJ: ∀b,j0.n≤b→cj.m b=none∧cj.bk b=0
 bS: ∀t,cj.mL t=none
 le:cj.hp E
 os:E.w.os=cj.w.os
 tape:E.w.tape=cj.w.tape
 output:E.w.output=cj.w.output
 size:cj.w.heap.size≤E.w.heap.size
 cT: ∀c,c<cj.w.heap.size→ ¬cj.fW c→E.w.heap[c]?=cj.w.heap[c]?
 kl: ∀b c,E.m b=some (some c)→cj.m b=some (some c)∨cj.w.heap.size≤c
 kR: ∀c,E.l1 c→cj.w.heap.size≤c
 gn: ∀c,E.PA c→cj.PA c∨cj.w.heap.size≤c
 fS: ∀c,E.PF c→cj.PF c∨cj.w.heap.size≤c
section
variable [j0:cL]
theorem Good.qH {cj E:Env} (h:Good cj E): ∀c,E.fW c→cj.fW c∨cj.w.heap.size≤c:=fun c ⟨b,hb⟩=>(h.kl b c hb).elim (fun h=> .inl ⟨b,h⟩) .inr
theorem Good.refl {E:Env} (hu: ∀b,j0.n≤b→E.m b=none∧E.bk b=0) (h: ∀t,E.mL t=none):Good E E:=
 ⟨hu,h,.refl E,rfl,rfl,rfl,Nat.le_refl _,fun _ _ _=>rfl,fun _ _ x=> .inl x,(fun c ⟨t,x⟩=>by rw[h t] at x;cases x),fun _ x=> .inl x,fun _ x=> .inl x⟩
theorem Good.step {cj E E':Env} (h:Good cj E) (k:Step E E'):Good cj E' where
 EJ:=h.EJ
 bS:=h.bS
 le:=h.le.trans k.le
 os:=k.os.trans h.os
 tape:=k.tape.trans h.tape
 output:=k.output.trans h.output
 size:=Nat.le_trans h.size k.size
 cT:=fun c hc h1=>by
  rw[k.cT c (Nat.lt_of_lt_of_le hc h.size) (fun x=>(h.qH c x).elim h1 (fun y=>absurd hc (Nat.not_lt.2 y))) (fun x=>absurd hc (Nat.not_lt.2 (h.kR c x)))]
  exact h.cT c hc h1
 kl:=fun b c x=>(k.kl b c x).elim (fun y=>h.kl b c y) (fun y=> .inr (Nat.le_trans h.size y))
 kR:=fun c x=>(k.kR c x).elim (fun y=>h.kR c y) (fun y=>Nat.le_trans h.size y)
 gn:=fun c x=>(k.gn c x).elim (fun y=>h.gn c y) (fun y=> .inr (Nat.le_trans h.size y))
 fS:=fun c x=>(k.fS c x).elim (fun y=>h.fS c y) (fun y=> .inr (Nat.le_trans h.size y))
end
def ac7 (ex:Exit):Bool:=match ex with
 | .normal | .exit _ | .ret=>true
 | _=>false
def pr [cL] (cj:Env) (Q:Exit→St→Prop) (ex:Exit) (a:Act) (w:World):Prop:=
 ac7 ex=true∧ ∃ar E,Q ex ar∧E.w=w∧Good cj E∧xP E ar a.tmps∧a.defers=[]
def WpS [cL] (P:Program) (c:Code) (Q:Exit→St→Prop) (ar:St):Prop:=
 ∀(cj E:Env) (a:Act),Good cj E→xP E ar a.tmps→a.defers=[]→c.wp P (pr cj Q) a E.w
def Weak [cL] (ar mM:St):Prop:= ∀(cj E:Env) (tmps:Array Value),Good cj E→xP E ar tmps→ ∃E',E'.w=E.w∧Good cj E'∧xP E' mM tmps
theorem Weak.refl [cL] (ar:St):Weak ar ar:=fun cj E tmps g h=>⟨E,rfl,g,h⟩
theorem Weak.trans [cL] {a b c:St} (h:Weak a b) (k:Weak b c):Weak a c:=fun cj E tmps g s=>by
 obtain⟨E1,aN,g1,s1⟩:=h cj E tmps g s
 obtain⟨uj,e2,g2,s2⟩:=k cj E1 tmps g1 s1
 exact⟨uj,e2.trans aN,g2,s2⟩
section
variable [cL] {P:Program} {Q zW:Exit→St→Prop} {ar:St}
theorem WpS.mono {c:Code} (h:WpS P c Q ar) (U: ∀e s,Q e s→zW e s):WpS P c zW ar:=fun cj E a g s d=>
 wp_mono (h cj E a g s d) fun e a w ⟨h1,ar,E,h2,aC⟩=>⟨h1,ar,E,U _ _ h2,aC⟩
theorem WpS.nQ {c:Code} {mM:St} (h:WpS P c Q mM) (k:Weak ar mM):WpS P c Q ar:=fun cj E a g s d=>by
 obtain⟨E1,aN,g1,s1⟩:=k cj E a.tmps g s
 exact aN▸h cj E1 a g1 s1 d
theorem WpS.skip (h:Q .normal ar):WpS P .skip Q ar:=fun cj E a g s d=>wp_skip ⟨rfl,ar,E,h,rfl,g,s,d⟩
theorem WpS.ret (h:Q .ret ar):WpS P .ret Q ar:=fun cj E a g s d=>wp_ret ⟨rfl,ar,E,h,rfl,g,s,d⟩
theorem WpS.exit {id:Nat} (h:Q (.exit id) ar):WpS P (.exit id) Q ar:=fun cj E a g s d=>wp_exit ⟨rfl,ar,E,h,rfl,g,s,d⟩
def ef (P:Program) (y:Code) (Q:Exit→St→Prop) (ex:Exit) (s:St):Prop:=match ex with
 | .normal=>WpS P y Q s
 | ex=>Q ex s
theorem WpS.seq {x y:Code} (h:WpS P x (ef P y Q) ar):WpS P (.seq x y) Q ar:=fun cj E a g s d=>
 wp_seq (wp_mono (h cj E a g s d) fun e hB w' ⟨h1,mM,E',h2,aC,bg,ch,cy⟩=>by
  cases e with
  | normal=>subst aC;exact h2 cj E' hB bg ch cy
  | exit id=>exact⟨rfl,mM,E',h2,aC,bg,ch,cy⟩
  | ret=>exact⟨rfl,mM,E',h2,aC,bg,ch,cy⟩
  | _=>cases h1)
def cc (id:Nat) (Q:Exit→St→Prop) (ex:Exit) (s:St):Prop:=match ex with
 | .exit gm=>if gm=id then Q .normal s else Q (.exit gm) s
 | ex=>Q ex s
theorem WpS.block {id:Nat} {c:Code} (h:WpS P c (cc id Q) ar):WpS P (.block id c) Q ar:=fun cj E a g s d=>
 wp_block (wp_mono (h cj E a g s d) fun e hB w' ⟨h1,mM,E',h2,aC⟩=>by
  cases e with
  | normal=>exact⟨rfl,mM,E',h2,aC⟩
  | exit gm=>
   by_cases hid:gm=id
   ·subst hid
    have iX:(if gm=gm then Q .normal mM else Q (.exit gm) mM):=h2
    rw[if_pos rfl] at iX
    show(if gm=gm then _ else _)
    rw[if_pos rfl];exact⟨rfl,mM,E',iX,aC⟩
   ·have iX:(if gm=id then Q .normal mM else Q (.exit gm) mM):=h2
    rw[if_neg hid] at iX
    show(if gm=id then _ else _)
    rw[if_neg hid];exact⟨rfl,mM,E',iX,aC⟩
  | ret=>exact⟨rfl,mM,E',h2,aC⟩
  | _=>cases h1)
end
def ri:Value→AV
 | .int k n=> .int k n
 | .bool b=> .bool b
 | .string s=> .str s
 | .slice none 0 0=> .aP [] true true
 | .pointer none=> .gH
 | .nilIface=> .gW
 | _=> .undef
def ci (T:List AV):Operand→AV
 | .tmp t=>T.getD t .undef
 | .const v=>ri v
 | .func f=> .fn f []
 | .global _=> .undef
theorem ae6 (E:Env) (v:Value):V3 E (ri v) v:=by
 unfold ri
 split
 ·exact a1.int _ _
 ·exact a1.bool _
 ·exact a1.str _
 ·exact a1.aP (PB:=fun _=>False) (sz:=0) (vs:=fun _ _=>undef) (fun _ h=>h.elim) ⟨Nat.le_refl _,Nat.zero_le _⟩ (fun _=>rfl) (fun i row h=>by simp at h) (fun h=>by simp at h) (fun i j row a h=>by simp at h)
 ·exact a1.gH
 ·exact a1.gW
 ·exact a1.undef _
theorem opv_rel {E:Env} {T:List AV} {a:Act} (h: ∀t,V3 E (T.getD t .undef) (a.tmps.getD t undef)) (x:Operand):V3 E (ci T x) (a.eval x):=by
 cases x with
 | tmp t=>exact h t
 | const v=>exact ae6 E v
 | global g=>exact a1.undef _
 | func f=>exact⟨[],rfl,ah.nil⟩
def Dk (b:Bool) (x y:Prop):Prop:=(b=true→x)∧(b=false→y)
def rf (v:AV) (k:Bool→Prop):Prop:=match v with
 | .bool b=>k b
 | _=>False
theorem Gm {v:AV} {k:Bool→Prop} (h:rf v k): ∃b,v= .bool b∧k b:=by
 cases v<;>first | exact⟨_,rfl,h⟩ | exact h.elim
theorem V3.qm {E:Env} {b:Bool} {v:Value} (h:V3 E (.bool b) v):v= .bool b:=by
 have h':a1 E.w E.PA E.PF (.bool b) v:=h
 cases h';rfl
theorem V3.qJ {E:Env} {k:IntKind} {n:Int} {v:Value} (h:V3 E (.int k n) v):v= .int k n:=by
 have h':a1 E.w E.PA E.PF (.int k n) v:=h
 cases h';rfl
theorem V3.Cu {E:Env} {s:ByteArray} {v:Value} (h:V3 E (.str s) v):v= .string s:=by
 have h':a1 E.w E.PA E.PF (.str s) v:=h
 cases h';rfl
section
variable [cL] {P:Program} {Q zW:Exit→St→Prop} {ar:St}
theorem WpS.cond {c:Operand} {x y:Code} (h:rf (ci ar.T c) fun b=>Dk b (WpS P x Q ar) (WpS P y Q ar)):WpS P (.cond c x y) Q ar:=fun cj E a g s d=>by
 obtain⟨b,hb,h1,h2⟩:=Gm h
 have hv:=opv_rel s.jD c
 rw[hb] at hv
 have he:a.eval c= .bool b:=V3.qm hv
 exact wp_cond_split he (fun e=>h1 e cj E a g s d) (fun e=>h2 e cj E a g s d)
def adx (I:Nat→St→Prop) (n:Nat) (Q:Exit→St→Prop) (ex:Exit) (s:St):Prop:=match ex with
 | .normal=> ∃kY s',kY<n∧Weak s s'∧I kY s'
 | ex=>Q ex s
theorem WpS.loop {c:Code} (I:Nat→St→Prop) (n:Nat) (aA:I n ar) (round: ∀n s,I n s→WpS P c (adx I n Q) s):WpS P (.loop c) Q ar:=by
 intro cj E a g s d b k an
 have key: ∀n (a:Act) (E:Env) ar,I n ar→Good cj E→xP E ar a.tmps→a.defers=[]→
   ∃e hB w',pr cj Q e hB w'∧Arrives P (lone (b.at a (.code c:: .inLoop c::k)) an E.w) b k an e hB w':=by
  intro n
  induction n using Nat.strongRecOn with
  | _ n bp=>
   intro a E ar aT g s d
   obtain⟨e,Gp,acL,U,DL⟩:=round n ar aT cj E a g s d b (.inLoop c::k) an
   obtain⟨he,ab_,E1,U,hw,g1,s1,d1⟩:=U
   cases e with
   | normal=>
    obtain⟨kY,s',aQ,aiu,DH⟩:=U
    obtain⟨uj,e2,g2,s2⟩:=aiu cj E1 Gp.tmps g1 s1
    obtain⟨afE,adU,aqx,aij,UQ⟩:=bp kY aQ Gp uj s' DH g2 s2 d1
    rw[e2,hw] at UQ
    exact⟨afE,adU,aqx,aij,.of_steps (Steps.trans DL (.one step_inLoop)) UQ⟩
   | exit id=>exact⟨_,Gp,acL,⟨rfl,ab_,E1,U,hw,g1,s1,d1⟩,.pass (x:= .inLoop c) rfl (fun _ _=> .inl (by simp)) DL⟩
   | ret=>exact⟨_,Gp,acL,⟨rfl,ab_,E1,U,hw,g1,s1,d1⟩,.pass (x:= .inLoop c) rfl (fun _ _=> .inl (by simp)) DL⟩
   | _=>cases he
 obtain⟨e,hB,w',U,DL⟩:=key n a E ar aA g s d
 exact⟨e,hB,w',U,.of_steps (.one step_loop) DL⟩
end
def cZ {α:Type} (o:Option α) (k:α→Prop):Prop:=match o with
 | some a=>k a
 | none=>False
theorem f_ {α:Type} {o:Option α} {k:α→Prop} (h:cZ o k): ∃a,o=some a∧k a:=by
 cases o with
 | none=>exact h.elim
 | some a=>exact⟨a,rfl,h⟩
theorem ez {α:Type} {o:Option α} {k:α→Prop} {a:α} (h:o=some a) (hk:k a):cZ o k:=by rw[h];exact hk
def fa (b:Bool) (x:Prop):Prop:=match b with
 | true=>x
 | false=>False
theorem sv {b:Bool} {x:Prop} (h:fa b x):b=true∧x:=by
 cases b with
 | true=>exact⟨rfl,h⟩
 | false=>exact h.elim
def Bn (P:Program) (t:TypeId):Bool:=match P.underlying t with
 | some (.struct _) | some (.array _ _)=>true
 | _=>false
def Ex (P:Program) (t:TypeId):Bool:=(P.underlying t).isSome
theorem run_underlying {P:Program} {t:TypeId} {w:World} {d:TypeDesc} (h:P.underlying t=some d):(underlying t).run P w= .ok d w:=by
 simp[Go.underlying,h]
theorem aad {P:Program} {t:TypeId} {w:World} (h:Ex P t=true):(isAgg t).run P w= .ok (Bn P t) w:=by
 unfold Ex at h
 cases aY:P.underlying t with
 | none=>simp[aY] at h
 | some d=>
  simp only[Go.isAgg,Sem.run_bind,run_underlying aY,Result.andThen_ok,Bn,aY]
  cases d<;>rfl
theorem run_sizeOf {P:Program} {t:TypeId} {w:World} (h:(P.info? t).isSome=true):(sizeOf t).run P w= .ok (P.cellsOf t) w:=by
 cases hi:P.info? t with
 | none=>simp[hi] at h
 | some i=>simp[Go.sizeOf,typeInfo,hi,Program.cellsOf]
theorem aj1 {P:Program} {t:TypeId} (h:Ex P t=true):(P.info? t).isSome=true:=by
 unfold Ex Program.underlying at h
 cases hi:P.info? t with
 | none=>simp[hi] at h
 | some i=>rfl
def kB (P:Program) (t:TypeId) (cells:List AV) (c:Nat) (K:AV→Prop):Prop:=
 if Ex P t=true then
  (if Bn P t=true then(if c+P.cellsOf t≤cells.length then K (.agg ((cells.drop c).take (P.cellsOf t))) else False)
   else cZ cells[c]? K)
 else False
def rz (P:Program) (t:TypeId) (x:AV) (L:List (Nat×List AV)) (H:List Blk) (K:AV→Prop):Prop:=match x with
 | .fZ s c=>cZ (eV L s) fun cells=>kB P t cells c K
 | .ptr b g r c=>cZ H[b]? fun blk=>blk.bk=g∧cZ blk.rows[r]? fun row=>kB P t row c K
 | .dv cells c=>kB P t cells c K
 | _=>False
theorem qj (c o n:Nat):(⟨c,o,none⟩:Addr).add n=⟨c,o+n,none⟩:=by
 unfold Addr.add;split
 ·subst_vars;rfl
 ·rfl
theorem RS {P:Program} {t:TypeId} {cells:List AV} {c bl o:Nat} {K:AV→Prop} {w:World} {R:AV→Value→Prop}
  (hc: ∀(j:Nat) (a:AV),cells[j]?=some a→ ∃u,w.cell? ⟨bl,o+j,none⟩=some u∧R a u) (h:kB P t cells c K):
  ∃a v,K a∧(loadVar t ⟨bl,o+c,none⟩).run P w= .ok v w∧
   ((∃l vs,a= .agg l∧v= .agg (List.toArray vs)∧ah R l vs)∨R a v):=by
 unfold kB at h
 split at h
 ·rename_i hk
  split at h
  ·rename_i aw
   split at h
   ·rename_i au
    let n:=P.cellsOf t
    have eR: ∀j,j<n→ ∃a u,cells[c+j]?=some a∧w.cell? ⟨bl,o+(c+j),none⟩=some u∧R a u:=by
     intro j ac
     have js:c+j<cells.length:=by show c+j<cells.length;have:n=P.cellsOf t:=rfl;omega
     obtain⟨u,h1,h2⟩:=hc (c+j) _ (List.getElem?_eq_getElem js)
     exact⟨_,u,List.getElem?_eq_getElem js,h1,h2⟩
    let f:Nat→Value:=fun j=>(w.cell? ⟨bl,o+(c+j),none⟩).getD undef
    have hf: ∀j,j<n→w.cell? ((⟨bl,o+c,none⟩:Addr).add j)=some (f j):=by
     intro j ac
     obtain⟨a,u,_,h1,_⟩:=eR j ac
     rw[qj,Nat.add_assoc]
     show _=some ((w.cell? ⟨bl,o+(c+j),none⟩).getD undef)
     rw[h1];rfl
    refine⟨_,.agg ((List.range n).map f).toArray,h,?_,.inl ⟨_,(List.range n).map f,rfl,rfl,?_,?_⟩⟩
    ·simp only[loadVar,Sem.run_bind,aad hk,Result.andThen_ok,aw,if_true,run_sizeOf (aj1 hk)]
     rw[run_loadCells w _ n f hf]
     rfl
    ·simp only[List.length_take,List.length_drop,List.length_map,List.length_range];show min n _=n;have:n=P.cellsOf t:=rfl;omega
    ·intro i a b Vd AJ
     have hi:i<n:=by have:=(List.getElem?_eq_some_iff.1 AJ).1;simpa using this
     obtain⟨hB,u,h1,h2,aC⟩:=eR i hi
     rw[List.getElem?_take,if_pos (show i<P.cellsOf t from hi),List.getElem?_drop,h1] at Vd
     cases Vd
     rw[List.getElem?_map,List.getElem?_range hi] at AJ
     simp only[Option.map_some,Option.some.injEq] at AJ
     have:f i=u:=by show(w.cell? ⟨bl,o+(c+i),none⟩).getD undef=u;rw[h2];rfl
     rw[←AJ,this];exact aC
   ·exact h.elim
  ·rename_i aw
   obtain⟨a,yh,hK⟩:=f_ h
   obtain⟨u,h1,h2⟩:=hc c a yh
   refine⟨a,u,hK,?_,.inr h2⟩
   have ahd:Bn P t=false:=by cases hx:Bn P t<;>simp_all
   simp only[loadVar,Sem.run_bind,aad hk,Result.andThen_ok,ahd]
   simp[h1]
 ·exact h.elim
theorem b6.up {E:Env} {a:AV} {v:Value} (h:b6 E.bS a v):b6 E a v:=h.le E.IQ
theorem adB {E:Env} {l:List AV} {v:Value} (h:b6 E (.agg l) v):False:=by
 have h':a1 E.w E.PA E.PF (.agg l) v:=h
 cases h'
theorem adC {E:Env} {l:List AV} {v:Value} (h:b6 E (.tup l) v):False:=by
 have h':a1 E.w E.PA E.PF (.tup l) v:=h
 cases h'
theorem mS {E:Env} {a:AV} {v:Value} (h:b6 E a v):V2 E a v:=by
 by_cases hf: ∃l,a= .agg l
 ·obtain⟨l,rfl⟩:=hf;exact(adB h).elim
 ·rw[rb fun l e=>hf ⟨l,e⟩];exact h
theorem adD {E:Env} {l:List AV} {v:Value} (h:V2 E (.tup l) v):False:=adC (E:=E) (l:=l) (v:=v) h
theorem sT {E:Env} {a:AV} {v:Value} (h:V2 E a v):V3 E a v:=by
 by_cases hf: ∃l,a= .tup l
 ·obtain⟨l,rfl⟩:=hf;exact(adD h).elim
 ·rw[rc fun l e=>hf ⟨l,e⟩];exact h
theorem KF {E:Env} {a:AV} {v:Value} (h:(∃l vs,a= .agg l∧v= .agg (List.toArray vs)∧ah (b6 E) l vs)∨b6 E a v):V2 E a v:=by
 rcases h with⟨l,vs,rfl,rfl,ab⟩ | h
 ·exact⟨vs,rfl,ab⟩
 ·exact mS h
theorem V3.EE {E:Env} {t c:Nat} {v:Value} (h:V3 E (.fZ t c) v): ∃bl,E.mL t=some bl∧v= .pointer (some ⟨bl,c,none⟩):=h
theorem V3.I4 {E:Env} {b g r c:Nat} {v:Value} (h:V3 E (.ptr b g r c) v) (az:E.bk b=g): ∃bl,E.m b=some (some bl)∧v= .pointer (some ⟨bl,r*E.sz b+c,none⟩):=by
 rcases(h:ft E (.ptr b g r c) v) with⟨h,_⟩ | ⟨_,h⟩
 ·omega
 ·exact h
theorem cell_of {w:World} {c o:Nat} {an:Array Value} {ty:TypeId} {Ur:Nat×Nat} {u:Value} (h:w.heap[c]?=some (.cells an ty Ur)) (hu:an[o]?=some u):w.cell? ⟨c,o,none⟩=some u:=by
 simp[World.cell?,h,hu]
structure Sub (L:List (Nat×List AV)) (H:List Blk) (lR:List (Nat×List AV)) (fs:List Blk):Prop where
 l: ∀t c,eV L t=some c→eV lR t=some c
 h: ∀(b:Nat) (blk:Blk),H[b]?=some blk→fs[b]?=some blk
theorem Sub.refl (L:List (Nat×List AV)) (H:List Blk):Sub L H L H:=⟨fun _ _ h=>h,fun _ _ h=>h⟩
theorem Yi {P:Program} {t:TypeId} {x:AV} {L lR:List (Nat×List AV)} {H fs:List Blk} {K:AV→Prop} {E:Env} {v:Value}
  (sub:Sub L H lR fs) (aB:SimH E fs) (bB:SimL E lR) (hx:V3 E x v) (h:rz P t x L H K):
  ∃a ea,K a∧(Instr.loadAt t v).run P E.w= .ok ea E.w∧V2 E a ea:=by
 cases x with
 | fZ s c=>
  obtain⟨bl,hm,rfl⟩:=hx.EE
  obtain⟨cells,an,ty,az,hw,ab⟩:=bB s bl hm
  have h':cZ (eV L s) fun cells=>kB P t cells c K:=h
  obtain⟨Ds,DS,h'⟩:=f_ h'
  obtain rfl:cells=Ds:=by have:=sub.l _ _ DS;rw[az] at this;exact Option.some.inj this
  obtain⟨a,ea,hK,ak,hv⟩:=RS (o:=0) (bl:=bl) (w:=E.w) (R:=b6 E.bS) (fun j a ac=>by
   obtain⟨u,hu,ak⟩:=ab.get ac
   exact⟨u,by rw[Nat.zero_add];exact cell_of hw (by simpa using hu),ak⟩) h'
  rw[Nat.zero_add] at ak
  refine⟨a,ea,hK,?_,(KF hv).le E.IQ⟩
  simp only[Instr.loadAt,Instr.sureAddr,Sem.run_bind,Sem.run_pure,Result.andThen_ok,ak]
 | ptr b g r c=>
  obtain⟨blk,hb,az,h2⟩:=f_ (show cZ H[b]? fun blk=>blk.bk=g∧cZ blk.rows[r]? fun row=>kB P t row c K from h)
  obtain⟨row,eM,aC⟩:=f_ h2
  replace hb:=sub.h b blk hb
  have lv:=aB.ff b blk hb
  obtain⟨bl,hm,rfl⟩:=hx.I4 (lv.trans az)
  obtain⟨blk',an,ty,ev,nX,hw,mj,hlen,gU⟩:=aB.heap b bl hm
  obtain rfl:blk=blk':=by rw[hb] at ev;exact Option.some.inj ev
  obtain⟨a,ea,hK,ak,hv⟩:=RS (o:=r*E.sz b) (bl:=bl) (w:=E.w) (R:=b6 E.bS) (fun j a ac=>by
   obtain⟨u,hu,ak⟩:=gU.2 r j row a eM ac
   exact⟨u,cell_of hw hu,ak⟩) aC
  refine⟨a,ea,hK,?_,(KF hv).le E.IQ⟩
  simp only[Instr.loadAt,Instr.sureAddr,Sem.run_bind,Sem.run_pure,Result.andThen_ok,ak]
 | dv cells c=>
  have jL:a1 E.w E.PA E.PF (.dv cells c) v:=hx
  cases jL with
  | @dv _ _ _ _ bl o vs hc dz hrel=>
   have h':kB P t cells c K:=h
   obtain⟨a,ea,hK,ak,hv⟩:=RS (o:=o) (bl:=bl) (w:=E.w) (R:=a1 E.w E.PA (fun _=>False)) (fun j a ac=>
    ⟨vs j,dz j (List.getElem?_eq_some_iff.1 ac).1,hrel j a ac⟩) h'
   have up: ∀a v,a1 E.w E.PA (fun _=>False) a v→b6 E a v:=fun a v ak=>(ak.mono (fun _ _=>rfl) (fun _ h=>h.elim) (fun _ h=>h) (fun _ h=>h.elim)).v1
   refine⟨a,ea,hK,?_,KF (hv.imp (fun⟨l,vs,h1,h2,aC⟩=>⟨l,vs,h1,h2,aC.mono up⟩) (up _ _))⟩
   simp only[Instr.loadAt,Instr.sureAddr,Sem.run_bind,Sem.run_pure,Result.andThen_ok,ak]
 | _=>exact h.elim
def zC:AV→Bool
 | .undef | .agg _ | .tup _ | .fZ _ _ | .fn _ _=>false
 | _=>true
def kb:AV→Bool
 | .fn _ caps=>caps.all zC
 | a=>zC a
def fC:AV→List AV
 | .agg l=>l
 | a=>[a]
def fI (row:List AV) (c:Nat) (l:List AV):List AV:=row.take c++l++row.drop (c+l.length)
def nM (P:Program) (t:TypeId) (x v:AV) (L:List (Nat×List AV)) (H:List Blk) (K:List (Nat×List AV)→List Blk→Prop):Prop:=
 if(P.info? t).isSome=true∧(fC v).length=P.cellsOf t∧(fC v).all kb=true then
  match x with
  | .fZ s c=>cZ (eV L s) fun cells=>if c+(fC v).length≤cells.length then K (mH L s (fI cells c (fC v))) H else False
  | .ptr b g r c=>cZ H[b]? fun blk=>blk.bk=g∧cZ blk.rows[r]? fun row=>c+(fC v).length≤row.length∧K L (H.set b {blk with rows:=blk.rows.set r (fI row c (fC v))})
  | _=>False
 else False
theorem ace {E:Env} {a:AV} {v:Value} (h:zC a=true) (hv:ft E a v):ft E.bS a v:=by
 cases a<;>first | exact hv | cases h
theorem RG {E:Env} {a:AV} {v:Value} (h:kb a=true) (hv:b6 E a v):b6 E.bS a v:=by
 by_cases hf: ∃f caps,a= .fn f caps
 ·obtain⟨f,caps,rfl⟩:=hf
  obtain⟨vs,e,ab⟩:=hv
  refine⟨vs,e,ab.1,fun i x y hx aU=>ace ?_ (ab.2 i x y hx aU)⟩
  have h':caps.all zC=true:=h
  exact List.all_eq_true.1 h' x (List.mem_of_getElem? hx)
 ·have aA:kb a=zC a:=by cases a<;>first | rfl | exact absurd ⟨_,_,rfl⟩ hf
  rw[sS fun f c e=>hf ⟨f,c,e⟩] at hv ⊢
  exact ace (aA▸h) hv
theorem ft.one {E:Env} {a:AV} {v:Value} (h:zC a=true) (hv:ft E a v):v.oneCell'=true:=by
 cases a with
 | undef=>cases h
 | agg l=>cases h
 | tup l=>cases h
 | fZ s c=>cases h
 | fn f c=>cases h
 | ref b g off n full=>
  rcases hv with⟨_,A,cap,rfl⟩ | ⟨_,⟨_,_,_,A,rfl⟩ | ⟨c,cap,_,rfl,_⟩⟩
  ·rfl
  ·rfl
  ·rfl
 | ptr b g r c=>
  rcases hv with⟨_,bl,o,rfl⟩ | ⟨_,bl,_,rfl⟩
  ·rfl
  ·rfl
 | _=>exact a1.one (show a1 E.w E.PA E.PF _ v from hv) (by intro h;cases h)
theorem b6.IW {E:Env} {a:AV} {v:Value} (h:kb a=true) (hv:b6 E a v):v.oneCell'=true:=by
 by_cases hf: ∃f caps,a= .fn f caps
 ·obtain⟨f,caps,rfl⟩:=hf
  obtain⟨vs,rfl,ab⟩:=hv
  rfl
 ·have aA:kb a=zC a:=by cases a<;>first | rfl | exact absurd ⟨_,_,rfl⟩ hf
  rw[sS fun f c e=>hf ⟨f,c,e⟩] at hv
  exact hv.one (aA▸h)
theorem Step.setRow {E:Env} {H:List Blk} (aB:SimH E H) {bl:Nat} (hb:E.fW bl∨E.l1 bl) (an:Array Value):Step E {E with w:=E.w.setRow bl an}:=by
 have ag: ∀c,E.PA c→c≠bl:=fun c hc e=>by
  subst e
  exact hb.elim (aB.iG _ hc) (aB.jv _ hc)
 have hk: ∀c,c≠bl→(E.w.setRow bl an).heap[c]?=E.w.heap[c]?:=fun c hc=>setRow_other _ _ _ _ hc
 exact⟨⟨fun _ h=>h,fun _ h=>h,fun c hc=>hk c (ag c hc),fun c hc=>hk c (ag c (aB.dU c hc)),fun _=>Nat.le_refl _,fun _ _ h _=>⟨h,rfl,rfl⟩,fun _ _ h=>h⟩,rfl,rfl,rfl,
  by simp,fun c _ h1 h2=>hk c (fun e=>by subst e;exact hb.elim h1 h2),fun _ _ h=> .inl h,fun _ h=> .inl h,fun _ h=> .inl h,fun _ h=> .inl h⟩
theorem K6 {E:Env} {v:AV} {u:Value} (hv:V2 E v u) (hs:(fC v).all kb=true):ah (b6 E) (fC v) u.cells.toList:=by
 by_cases hf: ∃l,v= .agg l
 ·obtain⟨l,rfl⟩:=hf
  obtain⟨vs,rfl,ab⟩:=hv
  exact ab
 ·have aA:fC v=[v]:=by cases v<;>first | rfl | exact absurd ⟨_,rfl⟩ hf
  rw[rb fun l e=>hf ⟨l,e⟩] at hv
  rw[aA] at hs ⊢
  have h1:u.oneCell'=true:=hv.IW (by simpa using hs)
  have h2:u.cells= #[u]:=by cases u<;>first | rfl | cases h1
  rw[h2]
  exact ah.cons hv ah.nil
theorem aae {P:Program} {t:TypeId} {w:World} {bl o:Nat} {an:Array Value} {ty:TypeId} {u:Value} (hi:(P.info? t).isSome=true) (aH:u.cells.size=P.cellsOf t)
  (hw:w.heap[bl]?=some (.cells an ty (0,0))) (aj:o+u.cells.size≤an.size) (h1: ∀x∈u.cells.toList,x.oneCell'=true):
  (Instr.storeAt t (.pointer (some ⟨bl,o,none⟩)) u).run P w= .ok () (w.setRow bl (an.toList.take o++u.cells.toList++an.toList.drop (o+u.cells.toList.length)).toArray):=by
 have:=run_storeCells_at (P:=P) bl o ty u.cells.toList 0 an w hw (by simpa using aj) h1
 simp only[Nat.add_zero] at this
 simp[Instr.storeAt,Instr.sureAddr,storeVar,run_sizeOf hi,aH,this]
theorem Cr {α:Type} {l m:List α} {c:Nat} (hc:c+m.length≤l.length) (j:Nat):
  (l.take c++m++l.drop (c+m.length))[j]?=if j<c then l[j]? else if j<c+m.length then m[j - c]? else l[j]?:=by
 by_cases h1:j<c
 ·rw[if_pos h1,List.append_assoc,List.getElem?_append_left (by simp;omega),List.getElem?_take,if_pos h1]
 ·rw[if_neg h1]
  by_cases h2:j<c+m.length
  ·rw[if_pos h2,List.getElem?_append_left (by simp;omega),List.getElem?_append_right (by simp;omega)]
   congr 1;simp;omega
  ·rw[if_neg h2,List.getElem?_append_right (by simp;omega),List.getElem?_drop]
   congr 1;simp;omega
theorem ah.fI {α β:Type} {R:α→β→Prop} {l m:List α} {fH fM:List β} (h:ah R l fH) (k:ah R m fM) {c:Nat} (hc:c+m.length≤l.length):
  ah R (l.take c++m++l.drop (c+m.length)) (fH.take c++fM++fH.drop (c+fM.length)):=by
 have h1:=h.1
 have c_:=k.1
 refine⟨by simp;omega,fun i a b aw hb=> ?_⟩
 rw[Cr hc] at aw
 rw[Cr (by omega)] at hb
 rw[←c_] at hb
 split at aw
 ·rename_i hi;rw[if_pos hi] at hb;exact h.2 i a b aw hb
 ·rename_i hi;rw[if_neg hi] at hb
  split at aw
  ·rename_i ac;rw[if_pos ac] at hb;exact k.2 _ a b aw hb
  ·rename_i ac;rw[if_neg ac] at hb;exact h.2 i a b aw hb
theorem DD (L:List (Nat×List AV)) (t s:Nat) (d:List AV):eV (mH L t d) s=if s=t then(eV L t).map (fun _=>d) else eV L s:=by
 induction L with
 | nil=>simp[mH,eV]
 | cons x L bp=>
  obtain⟨k,c⟩:=x
  by_cases h1:t=k
  ·subst h1
   by_cases h2:s=t
   ·simp[mH,eV,h2]
   ·simp[mH,eV,h2]
  ·by_cases h2:s=k
   ·subst h2
    have: ¬s=t:=fun e=>h1 e.symm
    simp[mH,eV,h1,this]
   ·simp only[mH,if_neg h1,eV,if_neg h2,bp]
theorem apJ {P:Program} {t:TypeId} {x v:AV} {L:List (Nat×List AV)} {H:List Blk} {K:List (Nat×List AV)→List Blk→Prop} {E:Env} {jU ou:Value}
  (aB:SimH E H) (bB:SimL E L) (hx:V3 E x jU) (hv:V2 E v ou) (h:nM P t x v L H K):
  ∃L' H' E',K L' H'∧(Instr.storeAt t jU ou).run P E.w= .ok () E'.w∧Step E E'∧SimH E' H'∧SimL E' L'∧E'.mL=E.mL:=by
 unfold nM at h
 split at h
 case isFalse=>exact h.elim
 case isTrue hc=>
 obtain⟨hi,aH,hs⟩:=hc
 have AG:=K6 hv hs
 have ag:ah (b6 E.bS) (fC v) ou.cells.toList:=⟨AG.1,fun i a b aw hb=>RG (List.all_eq_true.1 hs a (List.mem_of_getElem? aw)) (AG.2 i a b aw hb)⟩
 have h1: ∀y∈ou.cells.toList,y.oneCell'=true:=by
  intro y aU
  obtain⟨i,hi⟩:=List.mem_iff_getElem?.1 aU
  have th:i<(fC v).length:=by rw[AG.1];exact(List.getElem?_eq_some_iff.1 hi).1
  exact(AG.2 i _ y (List.getElem?_eq_getElem th) hi).IW (List.all_eq_true.1 hs _ (List.getElem_mem th))
 have cn:ou.cells.size=P.cellsOf t:=by rw[←aH,AG.1];simp
 have hlen:ou.cells.toList.length=(fC v).length:=AG.1.symm
 cases x with
 | fZ s c=>
  obtain⟨bl,hm,rfl⟩:=hx.EE
  obtain⟨cells,an,ty,az,hw,ab⟩:=bB s bl hm
  have h':cZ (eV L s) fun cells=>if c+(fC v).length≤cells.length then K (mH L s (fI cells c (fC v))) H else False:=h
  rw[az] at h'
  have Mc:if c+(fC v).length≤cells.length then K (mH L s (fI cells c (fC v))) H else False:=h'
  split at Mc
  case isFalse=>exact Mc.elim
  case isTrue hle=>
  have ahv:cells.length=an.size:=by rw[ab.1];simp
  have gy:=aae (P:=P) (t:=t) (o:=c) hi cn hw (by rw[←ahv];have:ou.cells.size=(fC v).length:=by rw[←hlen];simp
                                                 omega) h1
  have gh:=Step.setRow aB (.inr ⟨s,hm⟩) (an.toList.take c++ou.cells.toList++an.toList.drop (c+ou.cells.toList.length)).toArray
  have b7: ∀b cv,E.m b=some (some cv)→cv≠bl:=fun b cv hb e=>by subst e;exact aB.ht b s cv hb hm
  refine⟨_,_,_,Mc,gy,gh,?_,?_,rfl⟩
  ·exact{aB with
    ga:=fun cv mi=>(aB.ga cv mi).same (gh.le.wf cv mi)
    heap:=fun b cv hb=>by
     obtain⟨blk,b5,jE,q1,cG,q2,q3,q4,cQ,c0⟩:=aB.heap b cv hb
     refine⟨blk,b5,jE,q1,cG,?_,q3,q4,cQ,fun i j row a ak ac=> ?_⟩
     ·show(E.w.setRow bl _).heap[cv]?=_
      rw[setRow_other _ _ _ _ (b7 b cv hb)];exact q2
     ·obtain⟨u,hu,fm⟩:=c0 i j row a ak ac
      exact⟨u,hu,fm.le gh.le.bS⟩
    eh:=fun cv hc=>by rw[show(E.w.setRow bl _).heap.size=_ from setRow_size _ _ _];exact aB.eh cv hc
    gi:=fun cv hc=>by rw[show(E.w.setRow bl _).heap.size=_ from setRow_size _ _ _];exact aB.gi cv hc
    hl:=fun cv hc=>by rw[show(E.w.setRow bl _).heap.size=_ from setRow_size _ _ _];exact aB.hl cv hc}
  ·intro kc cv mZ
   by_cases he:kc=s
   ·subst he
    obtain rfl:cv=bl:=by
     have:E.mL kc=some cv:=mZ
     rw[hm] at this;exact(Option.some.inj this).symm
    refine⟨fI cells c (fC v),_,ty,?_,setRow_heap _ _ _ _ _ _ hw,?_⟩
    ·rw[DD,if_pos rfl,az];rfl
    ·have:=ah.fI (ab.mono fun _ _ k=>k.le gh.le.bS) (ag.mono fun _ _ k=>k.le gh.le.bS) hle
     simpa[fI] using this
   ·obtain⟨hD,b5,jE,q1,q2,q3⟩:=bB kc cv mZ
    have MK:cv≠bl:=fun e=>by subst e;exact he (aB.kT kc s cv mZ hm)
    refine⟨hD,b5,jE,by rw[DD,if_neg he];exact q1,?_,q3.mono fun _ _ k=>k.le gh.le.bS⟩
    show(E.w.setRow bl _).heap[cv]?=_
    rw[setRow_other _ _ _ _ MK];exact q2
 | ptr b g r c=>
  obtain⟨blk,hb,az,h2⟩:=f_ (show cZ H[b]? fun blk=>blk.bk=g∧cZ blk.rows[r]? fun row=>c+(fC v).length≤row.length∧K L (H.set b {blk with rows:=blk.rows.set r (fI row c (fC v))}) from h)
  obtain⟨row,eM,hle,hK⟩:=f_ h2
  have lv:=aB.ff b blk hb
  obtain⟨bl,hm,rfl⟩:=hx.I4 (lv.trans az)
  obtain⟨blk',an,ty,ev,nX,hw,mj,iZ,gU⟩:=aB.heap b bl hm
  obtain rfl:blk=blk':=by rw[hb] at ev;exact Option.some.inj ev
  have m1:row.length=E.sz b:=gU.1 r row eM
  have ari:r<blk.rows.length:=(List.getElem?_eq_some_iff.1 eM).1
  have ahm:r*E.sz b+E.sz b≤an.size:=by
   rw[mj];calc r*E.sz b+E.sz b=(r+1)*E.sz b:=by rw[Nat.add_mul,Nat.one_mul]
    _≤E.cp b*E.sz b:=Nat.mul_le_mul_right _ (by omega)
  have pI:ou.cells.size=(fC v).length:=by rw[←hlen];simp
  have gy:=aae (P:=P) (t:=t) (o:=r*E.sz b+c) hi cn hw (by omega) h1
  have gh:=Step.setRow aB (.inl ⟨b,hm⟩) (an.toList.take (r*E.sz b+c)++ou.cells.toList++an.toList.drop (r*E.sz b+c+ou.cells.toList.length)).toArray
  have te:b<H.length:=(List.getElem?_eq_some_iff.1 hb).1
  refine⟨_,_,_,hK,gy,gh,?_,?_,rfl⟩
  ·exact{aB with
    ga:=fun cv mi=>(aB.ga cv mi).same (gh.le.wf cv mi)
    heap:=fun b2 cv lW=>by
     by_cases he:b2=b
     ·subst he
      obtain rfl:cv=bl:=by
       have:E.m b2=some (some cv):=lW
       rw[hm] at this;exact(Option.some.inj (Option.some.inj this)).symm
      refine⟨{blk with rows:=blk.rows.set r (fI row c (fC v))},_,ty,by rw[List.getElem?_set_self te],nX,setRow_heap _ _ _ _ _ _ hw,?_,by simpa using iZ,?_,?_⟩
      ·simp;omega
      ·intro i row' fm
       rw[List.getElem?_set] at fm
       split at fm
       ·rename_i MD
        cases fm
        simp[fI];omega
       ·exact gU.1 i row' fm
      ·intro i j row' a fm aw
       have nY: ∀k,(an.toList.take (r*E.sz b2+c)++ou.cells.toList++an.toList.drop (r*E.sz b2+c+ou.cells.toList.length)).toArray[k]?=if k<r*E.sz b2+c then an.toList[k]? else if k<r*E.sz b2+c+ou.cells.toList.length then ou.cells.toList[k - (r*E.sz b2+c)]? else an.toList[k]?:=by
        intro k
        rw[List.getElem?_toArray,Cr (by simp;omega)]
       rw[List.getElem?_set] at fm
       split at fm
       ·rename_i MD
        cases fm
        subst MD
        have AX:=Cr hle j
        unfold fI at aw
        rw[AX] at aw
        split at aw
        ·rename_i ac
         obtain⟨u,hu,hG⟩:=gU.2 r j row a eM aw
         refine⟨u,?_,hG.le gh.le.bS⟩
         show(List.toArray _)[r*E.sz b2+j]?=_
         rw[nY,if_pos (by omega)];simpa using hu
        ·rename_i ac
         split at aw
         ·rename_i wl
          obtain⟨u,hu,hG⟩:=ag.get aw
          refine⟨u,?_,hG.le gh.le.bS⟩
          show(List.toArray _)[r*E.sz b2+j]?=_
          rw[nY,if_neg (by omega),if_pos (by omega),show r*E.sz b2+j - (r*E.sz b2+c)=j - c by omega];exact hu
         ·rename_i wl
          obtain⟨u,hu,hG⟩:=gU.2 r j row a eM aw
          refine⟨u,?_,hG.le gh.le.bS⟩
          show(List.toArray _)[r*E.sz b2+j]?=_
          rw[nY,if_neg (by omega),if_neg (by omega)];simpa using hu
       ·rename_i MD
        have ki:j<E.sz b2:=by rw[←gU.1 i row' fm];exact(List.getElem?_eq_some_iff.1 aw).1
        obtain⟨u,hu,hG⟩:=gU.2 i j row' a fm aw
        refine⟨u,?_,hG.le gh.le.bS⟩
        show(List.toArray _)[i*E.sz b2+j]?=_
        rw[nY]
        rcases Nat.lt_or_ge i r with aQ | gO
        ·have:i*E.sz b2+E.sz b2≤r*E.sz b2:=by
          calc i*E.sz b2+E.sz b2=(i+1)*E.sz b2:=by rw[Nat.add_mul,Nat.one_mul]
           _≤r*E.sz b2:=Nat.mul_le_mul_right _ (by omega)
         rw[if_pos (by omega)];simpa using hu
        ·have:r*E.sz b2+E.sz b2≤i*E.sz b2:=by
          calc r*E.sz b2+E.sz b2=(r+1)*E.sz b2:=by rw[Nat.add_mul,Nat.one_mul]
           _≤i*E.sz b2:=Nat.mul_le_mul_right _ (by omega)
         rw[if_neg (by omega),if_neg (by omega)];simpa using hu
     ·obtain⟨Dn,Aj,ty2,q1,cG,q2,q3,q4,cQ,c0⟩:=aB.heap b2 cv lW
      have b7:cv≠bl:=fun e=>by subst e;exact he (aB.gV b2 b cv lW hm)
      refine⟨Dn,Aj,ty2,by rw[List.getElem?_set_ne (fun e=>he e.symm)];exact q1,cG,?_,q3,q4,cQ,fun i j row a ak ac=> ?_⟩
      ·show(E.w.setRow bl _).heap[cv]?=_
       rw[setRow_other _ _ _ _ b7];exact q2
      ·obtain⟨u,hu,fm⟩:=c0 i j row a ak ac
       exact⟨u,hu,fm.le gh.le.bS⟩
    ff:=fun b2 Dn lW=>by
     by_cases he:b=b2
     ·subst he
      rw[List.getElem?_set_self te] at lW
      cases lW
      exact aB.ff b blk hb
     ·rw[List.getElem?_set_ne he] at lW
      exact aB.ff b2 Dn lW
    h6:=fun b2 lW=>by
     obtain⟨Dn,q,k0⟩:=aB.h6 b2 lW
     by_cases he:b=b2
     ·subst he
      rw[hm] at lW;cases lW
     ·exact⟨Dn,by rw[List.getElem?_set_ne he];exact q,k0⟩
    fresh:=fun b2 lW=>aB.fresh b2 (by simpa using lW)
    eh:=fun cv hc=>by rw[show(E.w.setRow bl _).heap.size=_ from setRow_size _ _ _];exact aB.eh cv hc
    gi:=fun cv hc=>by rw[show(E.w.setRow bl _).heap.size=_ from setRow_size _ _ _];exact aB.gi cv hc
    hl:=fun cv hc=>by rw[show(E.w.setRow bl _).heap.size=_ from setRow_size _ _ _];exact aB.hl cv hc}
  ·intro kc cv mZ
   obtain⟨hD,b5,jE,q1,q2,q3⟩:=bB kc cv mZ
   have MK:cv≠bl:=fun e=>by subst e;exact aB.ht b kc cv hm mZ
   refine⟨hD,b5,jE,q1,?_,q3.mono fun _ _ k=>k.le gh.le.bS⟩
   show(E.w.setRow bl _).heap[cv]?=_
   rw[setRow_other _ _ _ _ MK];exact q2
 | _=>exact h.elim
structure nl (E E':Env):Prop where
 step:Step E E'
 m:E'.m=E.m
 mL:E'.mL=E.mL
 bk:E'.bk=E.bk
 sz:E'.sz=E.sz
 cp:E'.cp=E.cp
 cT: ∀c,c<E.w.heap.size→E'.w.heap[c]?=E.w.heap[c]?
 gn: ∀c,E'.PA c→E.PA c∨(E.w.heap.size≤c∧c<E'.w.heap.size)
 dU: ∀c,E'.PF c→E'.PA c
 ga: ∀c,E'.PF c→Plain E'.w c
theorem nl.refl {E:Env} {H:List Blk} (h:SimH E H):nl E E:=⟨.refl E,rfl,rfl,rfl,rfl,rfl,fun _ _=>rfl,fun _ h=> .inl h,h.dU,h.ga⟩
theorem nl.simH {E E':Env} {H:List Blk} (q:nl E E') (h:SimH E H):SimH E' H where
 heap:=fun b c hb=>by
  rw[q.m] at hb
  obtain⟨blk,an,ty,q1,cG,q2,q3,q4,cQ,c0⟩:=h.heap b c hb
  refine⟨blk,an,ty,q1,by rw[q.sz];exact cG,?_,by rw[q.cp,q.sz];exact q3,by rw[q.cp];exact q4,by rw[q.sz];exact cQ,fun i j row a ak ac=> ?_⟩
  ·rw[q.cT c (h.gi c ⟨b,hb⟩)];exact q2
  ·obtain⟨u,hu,fm⟩:=c0 i j row a ak ac
   exact⟨u,by rw[q.sz];exact hu,fm.le q.step.le.bS⟩
 ff:=by rw[q.bk];exact h.ff
 h6:=by rw[q.m,q.sz];exact h.h6
 fresh:=by rw[q.m,q.bk];exact h.fresh
 gV:=by rw[q.m];exact h.gV
 kT:=by rw[q.mL];exact h.kT
 ht:=by rw[q.m,q.mL];exact h.ht
 iG:=fun c hc ⟨b,hb⟩=>by
  rw[q.m] at hb
  rcases q.gn c hc with hc | ⟨hc,_⟩
  ·exact h.iG c hc ⟨b,hb⟩
  ·have:=h.gi c ⟨b,hb⟩;omega
 jv:=fun c hc ⟨b,hb⟩=>by
  rw[q.mL] at hb
  rcases q.gn c hc with hc | ⟨hc,_⟩
  ·exact h.jv c hc ⟨b,hb⟩
  ·have:=h.hl c ⟨b,hb⟩;omega
 dU:=q.dU
 ga:=q.ga
 eh:=fun c hc=>by
  rcases q.gn c hc with hc | ⟨_,hc⟩
  ·exact Nat.lt_of_lt_of_le (h.eh c hc) q.step.size
  ·exact hc
 gi:=fun c ⟨b,hb⟩=>by rw[q.m] at hb;exact Nat.lt_of_lt_of_le (h.gi c ⟨b,hb⟩) q.step.size
 hl:=fun c ⟨b,hb⟩=>by rw[q.mL] at hb;exact Nat.lt_of_lt_of_le (h.hl c ⟨b,hb⟩) q.step.size
theorem nl.simL {E E':Env} {H:List Blk} {L:List (Nat×List AV)} (q:nl E E') (h:SimH E H) (l:SimL E L):SimL E' L:=fun t c hm=>by
 rw[q.mL] at hm
 obtain⟨cells,an,ty,q1,q2,q3⟩:=l t c hm
 exact⟨cells,an,ty,q1,by rw[q.cT c (h.hl c ⟨t,hm⟩)];exact q2,q3.mono fun _ _ k=>k.le q.step.le.bS⟩
def Gu (op:BinOp) (k:IntKind) (a b:Int) (K:AV→Prop):Prop:=match op with
 | .add=>K (.int k (k.wrap (a+b)))
 | .sub=>K (.int k (k.wrap (a - b)))
 | .mul=>K (.int k (k.wrap (a*b)))
 | .quo=>b≠0∧K (.int k (k.wrap (a.tdiv b)))
 | .rem=>b≠0∧K (.int k (a.tmod b))
 | .and=>K (.int k (k.wrap (BitVec.ofInt k.bits a&&&BitVec.ofInt k.bits b).toNat))
 | .eql=>K (.bool (a==b))
 | .neq=>K (.bool (a !=b))
 | .lss=>K (.bool (decide (a<b)))
 | .leq=>K (.bool (decide (a≤b)))
 | .gtr=>K (.bool (decide (a>b)))
 | .geq=>K (.bool (decide (a ≥ b)))
 | _=>False
def two (P:Program) (t:TypeId):Bool:=
 match P.underlying t with
 | some (.struct eU)=> !P.stoodInHeld t&& !P.eqGuardType P.depth t&&(match eU.toList with
  | [f,g]=>f.name != "_" &&g.name != "_" &&f.offset==0&&g.offset==1&&(P.underlying f.type matches some (.int .i64))&&(P.underlying g.type matches some (.int .i64))
  | _=>false)
 | _=>false
def Gv (op:BinOp) (k:IntKind) (a:Int) (kU:IntKind) (b:Int) (K:AV→Prop):Prop:=match op with
 | .shl=>0≤b∧K (.int k (k.wrap (a*2 ^ (min b.toNat k.bits))))
 | .shr=>0≤b∧K (.int k (a.fdiv (2 ^ (min b.toNat k.bits))))
 | op=>if k=kU then Gu op k a b K else False
def Xa (P:Program) (t:TypeId):Bool:=match P.underlying t with
 | some .bool=>true
 | _=>false
def KR (P:Program) (op:BinOp) (t:TypeId) (a b:Bool) (K:AV→Prop):Prop:=if Xa P t=true then(match op with
  | .eql=>K (.bool (a==b))
  | .neq=>K (.bool (a !=b))
  | _=>False) else False
def KT (op:BinOp) (a b:ByteArray) (K:AV→Prop):Prop:=match op with
  | .add=>a.size+b.size≤9223372036854775807∧K (.str (a++b))
  | .eql=>K (.bool (a.toList==b.toList))
  | .neq=>K (.bool (!(a.toList==b.toList)))
  | _=>False
def KU (op:BinOp) (a b c d:Int) (K:AV→Prop):Prop:=match op with
  | .eql=>K (.bool (a==c&&b==d))
  | .neq=>K (.bool (!(a==c&&b==d)))
  | _=>False
def CB:List AV→Option (Int×Int)
 | [.int .i64 a,.int .i64 b]=>some (a,b)
 | _=>none
def kg (P:Program) (t:TypeId):Option TypeId:=match P.underlying t with
 | some (.slice e)=>some e
 | _=>none
def tD:Operand→Bool
 | .const (.slice none 0 0)=>true
 | _=>false
def KS (P:Program) (op:BinOp) (t:TypeId) (rows:List (List AV)) (vF:Bool) (K:AV→Prop):Prop:=
 if vF=true∧(kg P t).isSome=true then(match op with
  | .eql=>(rows≠[]→K (.bool false))∧(rows=[]→ ∀b,K (.bool b))
  | _=>False) else False
def vT (P:Program) (op:BinOp) (t:TypeId) (x y:AV) (vF:Bool) (K:AV→Prop):Prop:=match x with
 | .int k a=>(match y with
  | .int kU b=>Gv op k a kU b K
  | _=>False)
 | .bool a=>(match y with
  | .bool b=>KR P op t a b K
  | _=>False)
 | .str a=>(match y with
  | .str b=>KT op a b K
  | _=>False)
 | .agg l=>(match y with
  | .agg m=>if two P t=true then cZ (CB l) fun p=>cZ (CB m) fun q=>KU op p.1 p.2 q.1 q.2 K else False
  | _=>False)
 | .aP rows _ _=>KS P op t rows vF K
 | _=>False
theorem LC {op:BinOp} {t:TypeId} {x y:Operand} {k kU:IntKind} {a b:Int} {P:Program} {w:World}:(eqGuard op t x y (.int k a) (.int kU b)).run P w= .ok () w:=by
 unfold eqGuard;cases op<;>rfl
theorem TK {op:BinOp} {t:TypeId} {x y:Operand} {a b:Bool} {P:Program} {w:World}:(eqGuard op t x y (.bool a) (.bool b)).run P w= .ok () w:=by
 unfold eqGuard;cases op<;>rfl
theorem LD {op:BinOp} {t:TypeId} {x y:Operand} {a b:ByteArray} {P:Program} {w:World}:(eqGuard op t x y (.string a) (.string b)).run P w= .ok () w:=by
 unfold eqGuard;cases op<;>rfl
theorem afv {op:BinOp} {t:TypeId} {x y:Operand} {A B:Option Addr} {n m c d:Nat} {P:Program} {w:World}:(eqGuard op t x y (.slice A n c) (.slice B m d)).run P w= .ok () w:=by
 unfold eqGuard;cases op<;>rfl
theorem TJ {op:BinOp} {t:TypeId} {x y:Operand} {A B:Array Value} {P:Program} {w:World} (h:P.eqGuardType P.depth t=false):(eqGuard op t x y (.agg A) (.agg B)).run P w= .ok () w:=by
 unfold eqGuard;cases op<;>first | rfl | simp[h]
theorem anx {P:Program} {w:World} {op:BinOp} {t:TypeId} {k:IntKind} {a b:Int} {K:AV→Prop} (h:Gu op k a b K):
  ∃r u,K r∧(binOp op t (.int k a) (.int k b)).run P w= .ok u w∧ ∀E:Env,V3 E r u:=by
 cases op<;>simp only[Gu] at h
 case add=>exact⟨_,_,h,by simp[binOp,Op.intArith],fun E=>a1.int _ _⟩
 case sub=>exact⟨_,_,h,by simp[binOp,Op.intArith],fun E=>a1.int _ _⟩
 case mul=>exact⟨_,_,h,by simp[binOp,Op.intArith],fun E=>a1.int _ _⟩
 case quo=>exact⟨_,_,h.2,by simp[binOp,Op.intDiv,h.1],fun E=>a1.int _ _⟩
 case rem=>exact⟨_,_,h.2,by simp[binOp,Op.intDiv,h.1],fun E=>a1.int _ _⟩
 case and=>exact⟨_,_,h,by simp[binOp,Op.intBits],fun E=>a1.int _ _⟩
 case eql=>exact⟨_,_,h,by simp[binOp,Op.intCmp],fun E=>a1.bool _⟩
 case neq=>exact⟨_,_,h,by simp[binOp,Op.intCmp],fun E=>a1.bool _⟩
 case lss=>exact⟨_,_,h,by simp[binOp,Op.intCmp],fun E=>a1.bool _⟩
 case leq=>exact⟨_,_,h,by simp[binOp,Op.intCmp],fun E=>a1.bool _⟩
 case gtr=>exact⟨_,_,h,by simp[binOp,Op.intCmp],fun E=>a1.bool _⟩
 case geq=>exact⟨_,_,h,by simp[binOp,Op.intCmp],fun E=>a1.bool _⟩
theorem acw {P:Program} {t:TypeId} (h:two P t=true): ∃f g:Field,P.underlying t=some (.struct (P.fieldsOf t))∧(P.fieldsOf t).toList=[f,g]∧P.stoodInHeld t=false∧P.eqGuardType P.depth t=false∧
  f.name≠ "_" ∧g.name≠ "_" ∧f.offset=0∧g.offset=1∧P.underlying f.type=some (.int .i64)∧P.underlying g.type=some (.int .i64):=by
 unfold two at h
 split at h
 ·rename_i eU qB
  have hf:P.fieldsOf t=eU:=by simp[Program.fieldsOf,qB]
  simp only[Bool.and_eq_true,Bool.not_eq_true'] at h
  obtain⟨⟨h1,h2⟩,aC⟩:=h
  split at aC
  ·rename_i f g au
   simp only[Bool.and_eq_true,bne_iff_ne,ne_eq,beq_iff_eq] at aC
   obtain⟨⟨⟨⟨⟨q1,q2⟩,q3⟩,q4⟩,cQ⟩,c0⟩:=aC
   refine⟨f,g,by rw[hf];exact qB,by rw[hf];exact au,h1,h2,q1,q2,q3,q4,?_,?_⟩
   ·split at cQ
    ·assumption
    ·cases cQ
   ·split at c0
    ·assumption
    ·cases c0
  ·cases aC
 ·cases h
theorem aaf {P:Program} {t:TypeId} (h:two P t=true) (a b c d:Int) (w:World):
  (Op.equal t (.agg #[.int .i64 a,.int .i64 b]) (.agg #[.int .i64 c,.int .i64 d])).run P w= .ok (a==c&&b==d) w:=by
 obtain⟨f,g,h1,h2,aC,bg,ch,cy,hr,uM,x_,DF⟩:=acw h
 show(Op.equalIn (9999+1) t _ _).run P w=_
 rw[run_equalIn_struct w 9999 t _ _ h1 aC,h2]
 have fS: ∀(iv:TypeId) (an:Array Value) (o:Nat) (u:Value),P.underlying iv=some (.int .i64)→an[o]?=some u→(part iv an o).run P w= .ok u w:=by
  intro iv an o u hu hc
  simp[part,Go.isAgg,run_underlying hu,hc]
 simp only[Op.eqFields,if_pos ch,if_pos cy,hr,uM,Sem.run_bind]
 rw[fS f.type #[.int .i64 a,.int .i64 b] 0 (.int .i64 a) x_ rfl]
 simp only[Result.andThen_ok]
 rw[fS f.type #[.int .i64 c,.int .i64 d] 0 (.int .i64 c) x_ rfl]
 simp only[Result.andThen_ok]
 rw[show(9999:Nat)=9998+1 from rfl,run_equalIn_int w 9998 f.type .i64 .i64 a c x_]
 simp only[Result.andThen_ok]
 cases aq7:(a==c)
 ·simp
 ·simp only[Bool.not_true,Bool.false_eq_true,if_false,Sem.run_bind]
  rw[fS g.type #[.int .i64 a,.int .i64 b] 1 (.int .i64 b) DF rfl]
  simp only[Result.andThen_ok]
  rw[fS g.type #[.int .i64 c,.int .i64 d] 1 (.int .i64 d) DF rfl]
  simp only[Result.andThen_ok]
  rw[run_equalIn_int w 9998 g.type .i64 .i64 b d DF]
  cases aq9:(b==d)<;>simp
theorem V3.acv {E:Env} {a b:Int} {v:Value} (h:V3 E (.agg [.int .i64 a,.int .i64 b]) v):v= .agg #[.int .i64 a,.int .i64 b]:=by
 obtain⟨vs,rfl,ab⟩:=(h:V2 E (.agg [.int .i64 a,.int .i64 b]) v)
 obtain⟨x,vs,rfl,hx,ab⟩:=ab.cons_inv
 obtain⟨y,vs,rfl,aU,ab⟩:=ab.cons_inv
 obtain rfl:=ab.pT
 have jL:a1 E.w E.PA E.PF (.int .i64 a) x:=hx
 have aiz:a1 E.w E.PA E.PF (.int .i64 b) y:=aU
 cases jL;cases aiz;rfl
theorem acu {l:List AV} {p:Int×Int} (h:CB l=some p):l=[.int .i64 p.1,.int .i64 p.2]:=by
 unfold CB at h
 split at h
 ·cases h;rfl
 ·cases h
theorem vY {P:Program} {t e:TypeId} (h:kg P t=some e):P.underlying t=some (.slice e):=by
 unfold kg at h
 split at h
 ·cases h;assumption
 ·cases h
theorem ad3 {P:Program} {op:BinOp} {t:TypeId} {X Y:Operand} {R_ CW:AV} {jU J3:Value} {E:Env} {K:AV→Prop}
  {vF:Bool} (hx:V3 E R_ jU) (aU:V3 E CW J3) (M4:vF=true→J3= .slice none 0 0) (h:vT P op t R_ CW vF K):
  ∃r u,K r∧(do eqGuard op t X Y jU J3;binOp op t jU J3:Sem Value).run P E.w= .ok u E.w∧V3 E r u:=by
 cases R_ with
 | int k a=>
  cases CW with
  | int kU b=>
   replace h:Gv op k a kU b K:=h
   obtain rfl:=hx.qJ
   obtain rfl:=aU.qJ
   cases op
   case shl=>
    obtain⟨hb,h⟩:=h
    have ev: ¬b<0:=by omega
    exact⟨_,_,h,by simp[LC,binOp,Op.shift,ev],a1.int _ _⟩
   case shr=>
    obtain⟨hb,h⟩:=h
    have ev: ¬b<0:=by omega
    exact⟨_,_,h,by simp[LC,binOp,Op.shift,ev],a1.int _ _⟩
   all_goals
    simp only[Gv] at h
    split at h
    ·rename_i hk
     subst hk
     obtain⟨r,u,hK,ak,hv⟩:=anx (P:=P) (w:=E.w) (t:=t) h
     exact⟨r,u,hK,by simp only[Sem.run_bind,LC,Result.andThen_ok,ak],hv E⟩
    ·exact h.elim
  | _=>exact h.elim
 | bool a=>
  cases CW with
  | bool b=>
   replace h:KR P op t a b K:=h
   obtain rfl:=hx.qm
   obtain rfl:=aU.qm
   unfold KR at h
   split at h
   ·rename_i hu
    have pH:P.underlying t=some .bool:=by
     unfold Xa at hu
     split at hu
     ·assumption
     ·cases hu
    cases op<;>first | exact h.elim | skip
    case eql=>exact⟨_,_,h,by simp only[Sem.run_bind,TK,Result.andThen_ok,binOp,Op.equal];rw[show Op.maxDepth=9999+1 from rfl,run_equalIn_bool' E.w 9999 t a b pH];rfl,a1.bool _⟩
    case neq=>exact⟨_,_,h,by simp only[Sem.run_bind,TK,Result.andThen_ok,binOp,Op.equal];rw[show Op.maxDepth=9999+1 from rfl,run_equalIn_bool' E.w 9999 t a b pH];rfl,a1.bool _⟩
   ·exact h.elim
  | _=>exact h.elim
 | str a=>
  cases CW with
  | str b=>
   replace h:KT op a b K:=h
   obtain rfl:=hx.Cu
   obtain rfl:=aU.Cu
   cases op<;>first | exact h.elim | skip
   case add=>
    obtain⟨au,h⟩:=h
    have: ¬((a.size+b.size:Nat):Int)>IntKind.i64.max:=by
     have:IntKind.i64.max=9223372036854775807:=by decide
     rw[this];omega
    exact⟨_,_,h,by simp only[Sem.run_bind,LD,Result.andThen_ok,binOp,Op.stringOp];rw[if_neg this];rfl,a1.str _⟩
   case eql=>exact⟨_,_,h,by simp only[Sem.run_bind,LD,Result.andThen_ok,binOp,Op.stringOp];rfl,a1.bool _⟩
   case neq=>exact⟨_,_,h,by simp only[Sem.run_bind,LD,Result.andThen_ok,binOp,Op.stringOp];rfl,a1.bool _⟩
  | _=>exact h.elim
 | agg l=>
  cases CW with
  | agg m=>
   replace h:if two P t=true then cZ (CB l) fun p=>cZ (CB m) fun q=>KU op p.1 p.2 q.1 q.2 K else False:=h
   split at h
   ·rename_i aO
    obtain⟨⟨a,b⟩,ab,h⟩:=f_ h
    obtain⟨⟨c,d⟩,U,h⟩:=f_ h
    obtain rfl:=acu ab
    obtain rfl:=acu U
    obtain rfl:=hx.acv
    obtain rfl:=aU.acv
    obtain⟨f,g,h1,h2,aC,bg,_⟩:=acw aO
    cases op<;>first | exact h.elim | skip
    case eql=>exact⟨_,_,h,by simp only[Sem.run_bind,TJ bg,Result.andThen_ok,binOp,aaf aO];rfl,a1.bool _⟩
    case neq=>exact⟨_,_,h,by simp only[Sem.run_bind,TJ bg,Result.andThen_ok,binOp,aaf aO];rfl,a1.bool _⟩
   ·exact h.elim
  | _=>exact h.elim
 | aP rows ee fr=>
  replace h:KS P op t rows vF K:=h
  unfold KS at h
  split at h
  ·rename_i hc
   obtain⟨ag,he⟩:=hc
   obtain⟨e,he⟩:=Option.isSome_iff_exists.1 he
   have hu:=vY he
   obtain rfl:=M4 ag
   have jL:a1 E.w E.PA E.PF (.aP rows ee fr) jU:=hx
   cases jL with
   | @aP _ _ _ _ _ _ A cap sz vs fx fl gw cn dz hrel=>
   have gy:(do eqGuard op t X Y (.slice A rows.length cap) (.slice none 0 0);binOp .eql t (.slice A rows.length cap) (.slice none 0 0):Sem Value).run P E.w= .ok (.bool A.isNone) E.w:=by
    simp only[Sem.run_bind,afv,Result.andThen_ok,binOp,Op.equal]
    rw[show Op.maxDepth=9999+1 from rfl]
    generalize 9999=d
    simp only[Op.equalIn,Sem.run_bind,run_underlying hu,Result.andThen_ok]
    cases A<;>rfl
   cases op<;>first | exact h.elim | skip
   case eql=>
    obtain⟨h1,h2⟩:=h
    by_cases ak:rows=[]
    ·exact⟨_,_,h2 ak A.isNone,gy,a1.bool _⟩
    ·have:0<rows.length:=by cases rows<;>simp_all
     obtain⟨c,o,rfl,_⟩:=dz this
     exact⟨_,_,h1 ak,gy,a1.bool _⟩
  ·exact h.elim
 | _=>exact h.elim
theorem Ui (off:Nat): ∀(l:List Value) (k:Nat) (cells:Array Value),off+k+l.length≤cells.size→
  (((l.zipIdx k).foldl (fun an (x:Value×Nat)=>an.setIfInBounds (off+x.2) x.1) cells).size=cells.size∧
  ∀i,((l.zipIdx k).foldl (fun an (x:Value×Nat)=>an.setIfInBounds (off+x.2) x.1) cells)[i]?=if i<off+k then cells[i]? else if i<off+k+l.length then l[i - (off+k)]? else cells[i]?)
 | [],k,cells,_=>⟨rfl,fun i=>by simp;omega⟩
 | v::l,k,cells,h=>by
  have h':off+(k+1)+l.length≤(cells.setIfInBounds (off+k) v).size:=by simp at h ⊢;omega
  obtain⟨h1,h2⟩:=Ui off l (k+1) (cells.setIfInBounds (off+k) v) h'
  refine⟨by simp only[List.zipIdx_cons,List.foldl_cons];rw[h1];simp,fun i=> ?_⟩
  simp only[List.zipIdx_cons,List.foldl_cons]
  rw[h2 i]
  simp only[Array.getElem?_setIfInBounds,List.length_cons] at*
  by_cases J:i<off+k
  ·rw[if_pos (by omega),if_neg (by omega),if_pos J]
  ·by_cases a2:i=off+k
   ·subst a2
    rw[if_pos (by omega),if_pos rfl,if_pos (by omega),if_neg (by omega),if_pos (by omega)]
    simp
   ·by_cases a3:i<off+(k+1)+l.length
    ·rw[if_neg (by omega),if_pos a3,if_neg J,if_pos (by omega),show i - (off+k)=(i - (off+(k+1)))+1 by omega]
     simp
    ·rw[if_neg (by omega),if_neg a3,if_neg (by omega),if_neg J,if_neg (by omega)]
def r9 (pl:Nat→Option (Nat×Nat)) (cells:List AV):List (Nat×AV)→Option (List AV)
 | []=>some cells
 | (i,v)::rest=>match pl i with
  | none=>none
  | some (off,size)=>if(fC v).length=size∧off+(fC v).length≤cells.length∧(fC v).all kb=true then r9 pl (fI cells off (fC v)) rest else none
theorem Hc {E:Env} {pl:Nat→Option (Nat×Nat)}: ∀{parts:List (Nat×AV)} {lO:List (Nat×Value)} {cells:List AV} {xz:Array Value} {r:List AV},
  ah (fun a b=>a.1=b.1∧V2 E a.2 b.2) parts lO→ah (b6 E.bS) cells xz.toList→r9 pl cells parts=some r→ ∃iq,Instr.fill pl xz lO=some iq∧ah (b6 E.bS) r iq.toList
 | [],lO,cells,xz,r,ab,hc,h=>by
  obtain rfl:=ab.pT
  cases h
  exact⟨xz,rfl,hc⟩
 | (i,v)::rest,lO,cells,xz,r,ab,hc,h=>by
  obtain⟨⟨e4,u⟩,ary,rfl,⟨hi,hv⟩,wv⟩:=ab.cons_inv
  simp only at hi hv
  subst hi
  unfold r9 at h
  split at h
  ·cases h
  ·rename_i off size kk
   split at h
   ·rename_i rl
    obtain⟨h1,h2,aC⟩:=rl
    have yi:=K6 hv aC
    have ahu:ah (b6 E.bS) (fC v) u.cells.toList:=⟨yi.1,fun i a b aw hb=>RG (List.all_eq_true.1 aC a (List.mem_of_getElem? aw)) (yi.2 i a b aw hb)⟩
    have cn:u.cells.size=(fC v).length:=by rw[yi.1];simp
    have iZ:cells.length=xz.size:=by rw[hc.1];simp
    obtain⟨f1,f2⟩:=Ui off u.cells.toList 0 xz (by simp;omega)
    simp only[Nat.add_zero] at f1 f2
    have AR:ah (b6 E.bS) (fI cells off (fC v)) ((u.cells.toList.zipIdx).foldl (fun an (x:Value×Nat)=>an.setIfInBounds (off+x.2) x.1) xz).toList:=by
     have hs:=ah.fI hc ahu h2
     refine⟨?_,fun k a b aw hb=> ?_⟩
     ·simp only[Array.length_toList];rw[f1];simp[fI];omega
     ·refine hs.2 k a b aw ?_
      rw[Cr (by simp;omega)]
      rw[Array.getElem?_toList,f2 k] at hb
      simpa using hb
    obtain⟨iq,ak,hrel⟩:=Hc wv AR h
    refine⟨iq,?_,hrel⟩
    unfold Instr.fill
    rw[kk]
    simp only
    rw[if_neg (by simp;omega)]
    rw[←Array.foldl_toList,Array.toList_zipIdx]
    exact ak
   ·cases h
def pi (P:Program) (t:TypeId):Option (List AV):=((P.info? t).bind (·.zero)).map fun z=>z.cells.toList.map ri
theorem ae7 (E:Env) (v:Value):b6 E (ri v) v:=by
 unfold ri
 split
 ·exact a1.int _ _
 ·exact a1.bool _
 ·exact a1.str _
 ·exact a1.aP (PB:=fun _=>False) (sz:=0) (vs:=fun _ _=>undef) (fun _ h=>h.elim) ⟨Nat.le_refl _,Nat.zero_le _⟩ (fun _=>rfl) (fun i row h=>by simp at h) (fun h=>by simp at h) (fun i j row a h=>by simp at h)
 ·exact a1.gH
 ·exact a1.gW
 ·exact a1.undef _
theorem zL {E:Env} {P:Program} {t:TypeId} {z:List AV} (h:pi P t=some z): ∃i v,P.info? t=some i∧i.zero=some v∧z=v.cells.toList.map ri∧ah (b6 E) z v.cells.toList:=by
 unfold pi at h
 cases hi:P.info? t with
 | none=>simp[hi] at h
 | some i=>
  cases aH:i.zero with
  | none=>simp[hi,aH] at h
  | some v=>
   simp[hi,aH] at h
   subst h
   refine⟨i,v,rfl,aH,rfl,by simp,fun k a b aw hb=> ?_⟩
   rw[List.getElem?_map,hb] at aw
   simp at aw;subst aw;exact ae7 E b
def O8 (P:Program) (t:TypeId):Option (List (Nat×Nat)):=match P.underlying t with
 | some (.struct eU)=>eU.toList.mapM (fun f=>(P.info? f.type).map fun i=>(f.offset,i.size))
 | _=>none
def KX (P:Program) (t:TypeId) (parts:List (Nat×AV)) (K:AV→Prop):Prop:=
 cZ (pi P t) fun z=>cZ (O8 P t) fun pl=>cZ (r9 (fun i=>pl[i]?) z parts) fun cells=>K (.agg cells)
theorem aec {P:Program} {E:Env} {t:TypeId} {parts:List (Nat×AV)} {lO:List (Nat×Value)} {K:AV→Prop} (ab:ah (fun a b=>a.1=b.1∧V2 E a.2 b.2) parts lO) (h:KX P t parts K):
  ∃r u,K r∧(Instr.build t lO.toArray).run P E.w= .ok u E.w∧V3 E r u:=by
 obtain⟨z,aH,h⟩:=f_ h
 obtain⟨pl,kk,h⟩:=f_ h
 obtain⟨cells,hf,h⟩:=f_ h
 obtain⟨i,v,h1,h2,aC,bg⟩:=zL (E:=E.bS) aH
 obtain⟨iq,ak,hrel⟩:=Hc ab bg hf
 refine⟨_,.agg iq,h,run_build E.w t lO.toArray iq ?_,iq.toList,by simp,hrel.mono fun _ _ k=>k.up⟩
 unfold O8 at kk
 split at kk
 ·rename_i eU qB
  unfold Program.built
  rw[h1,qB]
  simp only[h2,kk]
  simpa using ak
 ·cases kk
def kK:AV→Bool
 | .int _ _ | .bool _ | .str _ | .aP _ _ _ | .gH | .gW=>true
 | _=>false
def qt:AV→Bool
 | .aP _ _ fr=>fr
 | _=>true
def kd:AV→AV
 | .aP rows _ _=> .aP rows false false
 | a=>a
def rH:AV→AV
 | .aP rows full _=> .aP rows full true
 | a=>a
theorem anl {w:World} {PB PA PF:Nat→Prop} {a:AV} {v:Value} (h:a1 w PB (fun _=>False) a v) (hb: ∀c,PB c→PF c) (MN: ∀c,PF c→PA c):a1 w PA PF (rH a) v:=by
 have key:(∀rows full fr,a≠ .aP rows full fr)→a1 w PA PF (rH a) v:=fun b7=>by
  have e:rH a=a:=by cases a<;>first | rfl | exact absurd rfl (b7 _ _ _)
  rw[e]
  exact h.mono (fun _ _=>rfl) (fun _ h=>h.elim) (fun c hc=>MN c (hb c hc)) (fun _ h=>h.elim)
 cases a with
 | aP rows full fr=>
  cases h with
  | aP fx fl gw cn dz hrel=>
   exact .aP (fun c hc=>by
    have:=fx c hc
    rw[if_pos rfl]
    split at this
    ·exact this.elim
    ·exact hb c this) fl gw cn dz hrel
 | _=>exact key (fun _ _ _ e=>by cases e)
theorem R2 {w:World} {PA PF PB:Nat→Prop} {a:AV} {v:Value} (aw:kK a=true) (h:a1 w PA PF a v) (hb: ∀c,PA c→PB c) (MN: ∀c,PF c→PA c):a1 w PB (fun _=>False) (kd a) v:=by
 cases h with
 | undef=>cases aw
 | int=>exact .int _ _
 | bool=>exact .bool _
 | str=>exact .str _
 | aP fx fl gw cn dz hrel=>
  exact .aP (fun c hc=>by
   have:=fx c hc
   simp only[Bool.false_eq_true,if_false]
   split at this
   ·exact hb c (MN c this)
   ·exact hb c this) fl (fun h=>by cases h) cn dz hrel
 | dv=>cases aw
 | gH=>exact .gH
 | gW=>exact .gW
 | fn=>cases aw
theorem acz {w:World} {PA PF:Nat→Prop} {a:AV} {v:Value} (aw:kK a=true) (hf:qt a=true) (h:a1 w PA PF a v):a1 w PF (fun _=>False) (kd a) v:=by
 cases h with
 | undef=>cases aw
 | int=>exact .int _ _
 | bool=>exact .bool _
 | str=>exact .str _
 | @aP _ _ PB rows full fresh A cap sz vs fx fl gw cn dz hrel=>
  have wh:fresh=true:=hf
  subst wh
  exact .aP (fun c hc=>by simpa using fx c hc) fl (fun h=>by cases h) cn dz hrel
 | dv=>cases aw
 | gH=>exact .gH
 | gW=>exact .gW
 | fn=>cases aw
def chunk (size n:Nat) (cells:List AV):List (List AV):=(List.range n).map fun i=>(cells.drop (i*size)).take size
def Ah (P:Program) (t:TypeId) (n:Nat) (parts:List (Nat×AV)) (K:AV→Prop):Prop:=
 cZ (kg P t) fun e=>cZ (pi P e) fun z=>if z.length=P.cellsOf e∧n*z.length≤1000000∧n≤1000000 then
  cZ (r9 (fun i=>some (i*z.length,z.length)) ((List.range (n*z.length)).map fun i=>z.getD (i%z.length) .undef) parts) fun cells=>
   if cells.all kK=true then K (.aP (chunk z.length n (cells.map kd)) true (cells.all qt)) else False
 else False
theorem Gz {E:Env} {a:AV} {v:Value} (aw:kK a=true) (h:b6 E a v):a1 E.w E.PA E.PF a v:=by
 cases a<;>first | exact h | cases aw
theorem Tm {size n i j:Nat} {cells row:List AV} {a:AV} (ak:(chunk size n cells)[i]?=some row) (ac:row[j]?=some a):i<n∧j<size∧cells[i*size+j]?=some a:=by
 unfold chunk at ak
 rw[List.getElem?_map] at ak
 cases yt:(List.range n)[i]? with
 | none=>simp[yt] at ak
 | some k=>
  have hi:i<n:=by have:=(List.getElem?_eq_some_iff.1 yt).1;simpa using this
  rw[List.getElem?_range hi] at yt
  cases yt
  rw[List.getElem?_range hi] at ak
  simp at ak
  subst ak
  rw[List.getElem?_take] at ac
  split at ac
  ·rw[List.getElem?_drop] at ac
   exact⟨hi,by assumption,ac⟩
  ·cases ac
theorem uy (w:World) (o:Obj) (c:Nat) (h:c<w.heap.size):(w.alloc o).heap[c]?=w.heap[c]?:=Go.RowKit.Below.heap_alloc w o c h
theorem vO (w:World) (o:Obj):(w.alloc o).heap[w.heap.size]?=some o:=by
 show(w.heap.push o)[w.heap.size]?=_
 simp
theorem nl.alloc {E:Env} {H:List Blk} (aB:SimH E H) {o:Obj} (aj: ∃an ty,o= .cells an ty (0,0)):
  nl E {E with w:=E.w.alloc o,PA:=fun c=>E.PA c∨c=E.w.heap.size,PF:=fun c=>E.PF c∨c=E.w.heap.size} where
 step:=⟨⟨fun _ h=> .inl h,fun _ h=> .inl h,fun c hc=>uy _ _ _ (aB.eh c hc),fun c hc=>uy _ _ _ (aB.eh c (aB.dU c hc)),fun _=>Nat.le_refl _,fun _ _ h _=>⟨h,rfl,rfl⟩,fun _ _ h=>h⟩,
  rfl,rfl,rfl,by simp,fun c hc _ _=>uy _ _ _ hc,fun _ _ h=> .inl h,fun _ h=> .inl h,fun c hc=>hc.elim .inl (fun e=> .inr (by omega)),fun c hc=>hc.elim .inl (fun e=> .inr (by omega))⟩
 m:=rfl
 mL:=rfl
 bk:=rfl
 sz:=rfl
 cp:=rfl
 cT:=fun c hc=>uy _ _ _ hc
 gn:=fun c hc=>hc.elim .inl (fun e=> .inr (by simp;omega))
 dU:=fun c hc=>hc.elim (fun h=> .inl (aB.dU c h)) .inr
 ga:=fun c hc=>hc.elim (fun h=>(aB.ga c h).same (uy _ _ _ (aB.eh c (aB.dU c h)))) fun e=>by
  obtain⟨an,ty,rfl⟩:=aj
  subst e;exact⟨an,ty,vO _ _⟩
theorem aea {P:Program} {E:Env} {t:TypeId} {e:TypeId} {n:Nat} {z:List AV} {parts:List (Nat×AV)} {lO:List (Nat×Value)} {cells:List AV} (ab:ah (fun a b=>a.1=b.1∧V2 E a.2 b.2) parts lO) (he:kg P t=some e) (aH:pi P e=some z)
  (qF:z.length=P.cellsOf e) (ahl:n*z.length≤1000000∧n≤1000000) (hf:r9 (fun i=>some (i*z.length,z.length)) ((List.range (n*z.length)).map fun i=>z.getD (i%z.length) .undef) parts=some cells):
  ∃iq,ah (b6 E.bS) cells iq.toList∧(Instr.buildSlice t n lO.toArray).run P E.w= .ok (.slice (some ⟨E.w.heap.size,0,none⟩) n n) (E.w.alloc (.cells iq e))∧cells.length=n*z.length:=by
 obtain⟨i,v,h1,h2,aC,bg⟩:=zL (E:=E.bS) aH
 have yz:v.cells.size=z.length:=by rw[aC];simp
 have AK:i.size=z.length:=by rw[qF];simp[Program.cellsOf,h1]
 let mN:Array Value:=if n*z.length=0 then #[] else v.cells
 let base:Array Value:=(Array.range (n*z.length)).map (fun i=>mN[i%mN.size]!)
 have uO:ah (b6 E.bS) ((List.range (n*z.length)).map fun i=>z.getD (i%z.length) .undef) base.toList:=by
  refine⟨by simp[base],fun k a b aw hb=> ?_⟩
  rw[List.getElem?_map] at aw
  have hk:k<n*z.length:=by
   cases U:(List.range (n*z.length))[k]? with
   | none=>simp[U] at aw
   | some x=>have:=(List.getElem?_eq_some_iff.1 U).1;simpa using this
  rw[List.getElem?_range hk] at aw
  simp only[Option.map_some,Option.some.injEq] at aw
  have m0:0<z.length:=by
   rcases Nat.eq_zero_or_pos z.length with q | q
   ·rw[q,Nat.mul_zero] at hk;omega
   ·exact q
  have aQ:k%z.length<z.length:=Nat.mod_lt _ m0
  have so:mN=v.cells:=if_neg (by omega)
  have ev:base[k]?=some (v.cells[k%z.length]!):=by
   show((Array.range (n*z.length)).map (fun i=>mN[i%mN.size]!))[k]?=_
   rw[so,yz]
   simp[hk]
  rw[Array.getElem?_toList,ev] at hb
  simp only[Option.some.injEq] at hb
  have pI:v.cells.toList[k%z.length]?=some (v.cells[k%z.length]!):=by
   rw[Array.getElem?_toList,Array.getElem?_eq_getElem (by omega)]
   congr 1
   exact(getElem!_pos v.cells (k%z.length) (by omega)).symm
  have M5:z[k%z.length]?=some a:=by
   rw[←aw,List.getD_eq_getElem?_getD,List.getElem?_eq_getElem aQ];rfl
  rw[←hb]
  exact bg.2 _ _ _ M5 pI
 obtain⟨iq,ak,hrel⟩:=Hc ab uO hf
 have hu:=vY he
 have gy:(Instr.buildSlice t n lO.toArray).run P E.w= .ok (.slice (some ⟨E.w.heap.size,0,none⟩) n n) (E.w.alloc (.cells iq e)):=by
  have Mm: ¬n*z.length>2 ^ 24:=by omega
  simp only[Instr.buildSlice,Sem.run_bind,run_underlying hu,Result.andThen_ok,run_sizeOf (show(P.info? e).isSome=true by rw[h1];rfl),←qF,if_neg Mm]
  have fm:Instr.fill (fun i=>some (i*z.length,z.length)) ((Array.range (n*z.length)).map (fun x=>mN[x%mN.size]!)) lO=some iq:=ak
  by_cases q:n*z.length=0
  ·have so:mN= #[]:=if_pos q
   rw[if_pos q]
   simp only[Sem.run_bind,Sem.run_pure,Result.andThen_ok]
   rw[←so,fm]
   simp[newRow]
  ·have so:mN=v.cells:=if_neg q
   rw[if_neg q]
   simp only[Sem.run_bind,Sem.run_pure,Result.andThen_ok,zeroValue,typeInfo,h1,h2,run_program]
   rw[←so,fm]
   simp[newRow]
 have hlen:cells.length=n*z.length:=by
  have q:=hrel.1
  have: ∀(parts:List (Nat×AV)) (c r:List AV),r9 (fun i=>some (i*z.length,z.length)) c parts=some r→r.length=c.length:=by
   intro parts
   induction parts with
   | nil=>intro c r bt;cases bt;rfl
   | cons p ps bp=>
    intro c r bt
    obtain⟨a,b⟩:=p
    unfold r9 at bt
    split at bt
    ·cases bt
    ·split at bt
     ·rename_i hc
      rw[bp _ _ bt];simp[fI];omega
     ·cases bt
  rw[this _ _ _ hf];simp
 exact⟨iq,hrel,gy,hlen⟩
theorem Ta {P:Program} {E:Env} {H:List Blk} {t:TypeId} {n:Nat} {parts:List (Nat×AV)} {lO:List (Nat×Value)} {K:AV→Prop} (aB:SimH E H) (ab:ah (fun a b=>a.1=b.1∧V2 E a.2 b.2) parts lO) (h:Ah P t n parts K):
  ∃r u E',K r∧(Instr.buildSlice t n lO.toArray).run P E.w= .ok u E'.w∧nl E E'∧V3 E' r u:=by
 obtain⟨e,he,h⟩:=f_ h
 obtain⟨z,aH,h⟩:=f_ h
 split at h
 case isFalse=>exact h.elim
 case isTrue hb=>
 obtain⟨qF,ahl⟩:=hb
 obtain⟨cells,hf,h⟩:=f_ h
 split at h
 case isFalse=>exact h.elim
 case isTrue hby=>
 obtain⟨i,v,h1,h2,aC,bg⟩:=zL (E:=E.bS) aH
 have yz:v.cells.size=z.length:=by rw[aC];simp
 have AK:i.size=z.length:=by rw[qF];simp[Program.cellsOf,h1]
 let mN:Array Value:=if n*z.length=0 then #[] else v.cells
 let base:Array Value:=(Array.range (n*z.length)).map (fun i=>mN[i%mN.size]!)
 have uO:ah (b6 E.bS) ((List.range (n*z.length)).map fun i=>z.getD (i%z.length) .undef) base.toList:=by
  refine⟨by simp[base],fun k a b aw hb=> ?_⟩
  rw[List.getElem?_map] at aw
  have hk:k<n*z.length:=by
   cases U:(List.range (n*z.length))[k]? with
   | none=>simp[U] at aw
   | some x=>have:=(List.getElem?_eq_some_iff.1 U).1;simpa using this
  rw[List.getElem?_range hk] at aw
  simp only[Option.map_some,Option.some.injEq] at aw
  have m0:0<z.length:=by
   rcases Nat.eq_zero_or_pos z.length with q | q
   ·rw[q,Nat.mul_zero] at hk;omega
   ·exact q
  have aQ:k%z.length<z.length:=Nat.mod_lt _ m0
  have so:mN=v.cells:=if_neg (by omega)
  have ev:base[k]?=some (v.cells[k%z.length]!):=by
   show((Array.range (n*z.length)).map (fun i=>mN[i%mN.size]!))[k]?=_
   rw[so,yz]
   simp[hk]
  rw[Array.getElem?_toList,ev] at hb
  simp only[Option.some.injEq] at hb
  have pI:v.cells.toList[k%z.length]?=some (v.cells[k%z.length]!):=by
   rw[Array.getElem?_toList,Array.getElem?_eq_getElem (by omega)]
   congr 1
   exact(getElem!_pos v.cells (k%z.length) (by omega)).symm
  have M5:z[k%z.length]?=some a:=by
   rw[←aw,List.getD_eq_getElem?_getD,List.getElem?_eq_getElem aQ];rfl
  rw[←hb]
  exact bg.2 _ _ _ M5 pI
 obtain⟨iq,ak,hrel⟩:=Hc ab uO hf
 have U:=nl.alloc aB (o:= .cells iq e) ⟨_,_,rfl⟩
 have hu:=vY he
 have gy:(Instr.buildSlice t n lO.toArray).run P E.w= .ok (.slice (some ⟨E.w.heap.size,0,none⟩) n n) (E.w.alloc (.cells iq e)):=by
  have Mm: ¬n*z.length>2 ^ 24:=by omega
  simp only[Instr.buildSlice,Sem.run_bind,run_underlying hu,Result.andThen_ok,run_sizeOf (show(P.info? e).isSome=true by rw[h1];rfl),←qF,if_neg Mm]
  have fm:Instr.fill (fun i=>some (i*z.length,z.length)) ((Array.range (n*z.length)).map (fun x=>mN[x%mN.size]!)) lO=some iq:=ak
  by_cases q:n*z.length=0
  ·have so:mN= #[]:=if_pos q
   rw[if_pos q]
   simp only[Sem.run_bind,Sem.run_pure,Result.andThen_ok]
   rw[←so,fm]
   simp[newRow]
  ·have so:mN=v.cells:=if_neg q
   rw[if_neg q]
   simp only[Sem.run_bind,Sem.run_pure,Result.andThen_ok,zeroValue,typeInfo,h1,h2,run_program]
   rw[←so,fm]
   simp[newRow]
 have hlen:cells.length=n*z.length:=by
  have q:=hrel.1
  have: ∀(parts:List (Nat×AV)) (c r:List AV),r9 (fun i=>some (i*z.length,z.length)) c parts=some r→r.length=c.length:=by
   intro parts
   induction parts with
   | nil=>intro c r bt;cases bt;rfl
   | cons p ps bp=>
    intro c r bt
    obtain⟨a,b⟩:=p
    unfold r9 at bt
    split at bt
    ·cases bt
    ·split at bt
     ·rename_i hc
      rw[bp _ _ bt];simp[fI];omega
     ·cases bt
  rw[this _ _ _ hf];simp
 refine⟨_,_,_,h,gy,U,?_⟩
 have iZ:(chunk z.length n (cells.map kd)).length=n:=by simp[chunk]
 show a1 (E.w.alloc (.cells iq e)) (fun c=>E.PA c∨c=E.w.heap.size) (fun c=>E.PF c∨c=E.w.heap.size) _ _
 have key:=a1.aP (w:=E.w.alloc (.cells iq e)) (PA:=fun c=>E.PA c∨c=E.w.heap.size) (PF:=fun c=>E.PF c∨c=E.w.heap.size)
  (PB:=if cells.all qt=true then(fun c=>E.PF c∨c=E.w.heap.size) else(fun c=>E.PA c∨c=E.w.heap.size))
  (rows:=chunk z.length n (cells.map kd)) (full:=true) (fresh:=cells.all qt) (A:=some ⟨E.w.heap.size,0,none⟩) (cap:=n) (sz:=z.length) (vs:=fun i j=>(iq[i*z.length+j]?).getD undef)
  (fun c hc=>by split at hc<;>(rename_i q;simp only[q];first | exact hc | simpa using hc)) (by omega) (fun _=>iZ.symm)
  (fun i row ak=>by
   unfold chunk at ak
   rw[List.getElem?_map] at ak
   cases yt:(List.range n)[i]? with
   | none=>simp[yt] at ak
   | some k=>
    have hi:i<n:=by have:=(List.getElem?_eq_some_iff.1 yt).1;simpa using this
    rw[List.getElem?_range hi] at ak
    simp at ak
    subst ak
    have:i*z.length+z.length≤n*z.length:=by
     calc i*z.length+z.length=(i+1)*z.length:=by rw[Nat.add_mul,Nat.one_mul]
      _≤n*z.length:=Nat.mul_le_mul_right _ (by omega)
    simp;omega)
  (fun _=>⟨E.w.heap.size,0,rfl,by split<;>exact .inr rfl,fun i j hi ac=>by
   rw[iZ] at hi
   have:i*z.length+z.length≤n*z.length:=by
    calc i*z.length+z.length=(i+1)*z.length:=by rw[Nat.add_mul,Nat.one_mul]
     _≤n*z.length:=Nat.mul_le_mul_right _ (by omega)
   have MV:iq.size=n*z.length:=by rw[←hlen,hrel.1];simp
   rw[Nat.zero_add]
   have aQ:i*z.length+j<iq.size:=by omega
   rw[World.cell?_alloc_new]
   simp[Array.getElem?_eq_getElem aQ]⟩)
  (fun i j row a ak ac=>by
   obtain⟨hi,arf,hc⟩:=Tm ak ac
   rw[List.getElem?_map] at hc
   cases yh:cells[i*z.length+j]? with
   | none=>simp[yh] at hc
   | some b=>
    simp[yh] at hc
    subst hc
    obtain⟨u,hu,hG⟩:=hrel.get yh
    have Mn:kK b=true:=List.all_eq_true.1 hby b (List.mem_of_getElem? yh)
    have oM:=Gz Mn hG.up
    have pH:(iq[i*z.length+j]?).getD undef=u:=by rw[Array.getElem?_toList] at hu;rw[hu];rfl
    rw[pH]
    by_cases eR:cells.all qt=true
    ·have ahJ:qt b=true:=List.all_eq_true.1 eR b (List.mem_of_getElem? yh)
     rw[if_pos eR]
     exact(acz Mn ahJ oM).mono (fun c hc=>uy _ _ _ (aB.eh c (aB.dU c hc))) (fun c hc=>hc.elim) (fun c hc=> .inl hc) (fun c hc=>hc)
    ·rw[if_neg eR]
     exact(R2 Mn oM (fun c hc=>hc) aB.dU).mono (fun c hc=>uy _ _ _ (aB.eh c hc)) (fun c hc=>hc.elim) (fun c hc=> .inl hc) (fun c hc=>hc))
 rw[iZ] at key
 exact key
def Ha (P:Program) (t:TypeId) (f:Nat):Option Field:=match P.underlying t with
 | some (.struct eU)=>eU.toList[f]?
 | _=>none
theorem afJ {P:Program} {t:TypeId} {f:Nat} {fd:Field} (h:Ha P t f=some fd): ∃eU,P.underlying t=some (.struct eU)∧eU[f]?=some fd:=by
 unfold Ha at h
 split at h
 ·rename_i eU qB;exact⟨eU,qB,by simpa using h⟩
 ·cases h
def LP (P:Program) (t:TypeId) (x:AV) (f:Nat) (K:AV→Prop):Prop:=
 cZ (Ha P t f) fun fd=>if(P.info? fd.type).isSome=true∧P.cellsOf fd.type≠0 then(match x with
  | .fZ s c=>K (.fZ s (c+fd.offset))
  | .ptr b g r c=>K (.ptr b g r (c+fd.offset))
  | .dv cells c=>K (.dv cells (c+fd.offset))
  | _=>False) else False
theorem anB {P:Program} {fd:Field} {w:World} {c o:Nat} (hi:(P.info? fd.type).isSome=true) (aH:P.cellsOf fd.type≠0):
  (fieldPlace ⟨c,o,none⟩ fd).run P w= .ok ⟨c,o+fd.offset,none⟩ w:=by
 simp[fieldPlace,run_sizeOf hi,aH,qj]
theorem afI {P:Program} {t:TypeId} {x:AV} {f:Nat} {K:AV→Prop} {E:Env} {v:Value} (hx:V3 E x v)
  (h:LP P t x f K):
  ∃r u,K r∧(Instr.fieldAt t v f).run P E.w= .ok u E.w∧V3 E r u:=by
 obtain⟨fd,hf,h⟩:=f_ h
 obtain⟨eU,hu,ahK⟩:=afJ hf
 split at h
 case isFalse=>exact h.elim
 case isTrue hc=>
 obtain⟨hi,aH⟩:=hc
 have run: ∀bl o,(Instr.fieldAt t (.pointer (some ⟨bl,o,none⟩)) f).run P E.w= .ok (.pointer (some ⟨bl,o+fd.offset,none⟩)) E.w:=by
  intro bl o
  simp[Instr.fieldAt,run_underlying hu,ahK,Instr.sureAddr,anB hi aH]
 cases x with
 | fZ s c=>
  obtain⟨bl,hm,rfl⟩:=hx.EE
  exact⟨_,_,h,run bl c,bl,hm,rfl⟩
 | ptr b g r c=>
  rcases(show ft E (.ptr b g r c) v from hx) with⟨az,bl,o,rfl⟩ | ⟨az,bl,hm,rfl⟩
  ·exact⟨_,_,h,run bl o,.inl ⟨az,_,_,rfl⟩⟩
  ·exact⟨_,_,h,run bl _,.inr ⟨az,bl,hm,by rw[Nat.add_assoc]⟩⟩
 | dv cells c=>
  have jL:a1 E.w E.PA E.PF (.dv cells c) v:=hx
  cases jL with
  | @dv _ _ _ _ bl o vs hc dz hrel=>
   exact⟨_,_,h,run bl _,by rw[Nat.add_assoc];exact a1.dv hc dz hrel⟩
 | _=>exact h.elim
def A2 (P:Program) (t:TypeId) (x i:AV) (H:List Blk) (K:AV→Prop):Prop:=
 cZ (kg P t) fun e=>if(P.info? e).isSome=true then(match i with
  | .int _ n=>(match x with
   | .aP rows _ _=>0≤n∧cZ rows[n.toNat]? fun row=>row.length=P.cellsOf e∧K (.dv row 0)
   | .ref b g off m _=>cZ H[b]? fun blk=>blk.bk=g∧blk.sz=P.cellsOf e∧0≤n∧n<m∧K (.ptr b g (off+n.toNat) 0)
   | _=>False)
  | _=>False) else False
theorem aiI {P:Program} {t:TypeId} {x i:AV} {K:AV→Prop} {E:Env} {L lR:List (Nat×List AV)} {H fs:List Blk} {v Ew:Value} (sub:Sub L H lR fs) (aB:SimH E fs) (hx:V3 E x v) (hi:V3 E i Ew)
  (h:A2 P t x i H K): ∃r u,K r∧(Instr.indexAt t v Ew).run P E.w= .ok u E.w∧V3 E r u:=by
 obtain⟨e,he,h⟩:=f_ h
 have hu:=vY he
 split at h
 case isFalse=>exact h.elim
 case isTrue hinf=>
 cases i with
 | int k n=>
  obtain rfl:=hi.qJ
  cases x with
  | aP rows full fresh=>
   obtain⟨aA,h⟩:=(show 0≤n∧cZ rows[n.toNat]? fun row=>row.length=P.cellsOf e∧K (.dv row 0) from h)
   obtain⟨row,ak,au,hK⟩:=f_ h
   have aQ:n.toNat<rows.length:=(List.getElem?_eq_some_iff.1 ak).1
   have jL:a1 E.w E.PA E.PF (.aP rows full fresh) v:=hx
   cases jL with
   | @aP _ _ PB _ _ _ A cap sz vs fx fl gw cn dz hrel=>
    obtain⟨c,o,rfl,hc,eR⟩:=dz (by omega)
    have D9:=cn _ _ ak
    refine⟨_,.pointer (some ⟨c,o+n.toNat*P.cellsOf e,none⟩),hK,?_,?_⟩
    ·simp only[Instr.indexAt,Sem.run_bind,asIntOf,Sem.run_pure,Result.andThen_ok,run_underlying hu]
     rw[if_pos ⟨aA,by omega⟩]
     simp[run_sizeOf hinf,qj]
    ·show a1 _ _ _ _ _
     have:=a1.dv (w:=E.w) (PA:=E.PA) (PF:=E.PF) (cells:=row) (col:=0) (c:=c) (o:=o+n.toNat*P.cellsOf e) (vs:=vs n.toNat)
      (by have:=fx c hc;split at this;exact aB.dU c this;exact this)
      (fun j ac=>by rw[Nat.add_assoc,←au,D9];exact eR n.toNat j aQ (by omega))
      (fun j a ac=>(hrel n.toNat j row a ak ac).mono (fun _ _=>rfl) (fun _ h=>h.elim) (fun d aY=>by
       have:=fx d aY;split at this;exact aB.dU d this;exact this) (fun _ h=>h))
     simpa using this
  | ref b g off m full=>
   obtain⟨blk,hb,az,nX,aA,h1,hK⟩:=f_ (show cZ H[b]? fun blk=>blk.bk=g∧blk.sz=P.cellsOf e∧0≤n∧n<m∧K (.ptr b g (off+n.toNat) 0) from h)
   have hb:=sub.h b blk hb
   have lv:=aB.ff b blk hb
   rcases(show ft E (.ref b g off m full) v from hx) with⟨bt,_⟩ | ⟨gO,bt⟩
   ·omega
   ·rcases bt with⟨_,_,AO,_⟩ | ⟨c,cap,hm,rfl,rq,qA,tf⟩
    ·omega
    ·obtain⟨blk',an,ty,q1,cG,_⟩:=aB.heap b c hm
     obtain rfl:blk=blk':=by rw[hb] at q1;exact Option.some.inj q1
     refine⟨_,.pointer (some ⟨c,(off+n.toNat)*E.sz b+0,none⟩),hK,?_,.inr ⟨gO,c,hm,rfl⟩⟩
     simp only[Instr.indexAt,Sem.run_bind,asIntOf,Sem.run_pure,Result.andThen_ok,run_underlying hu]
     rw[if_pos ⟨aA,h1⟩]
     simp[run_sizeOf hinf,qj,cG,nX,Nat.add_mul]
  | _=>exact h.elim
 | _=>exact h.elim
def M8 (P:Program) (t:TypeId) (x i:AV) (K:AV→Prop):Prop:=match x with
 | .str s=>(match i with
  | .int _ n=>(match P.underlying t with
   | some .string=>0≤n∧n<s.size∧K (.int .u8 (s.data.getD n.toNat 0).toNat)
   | _=>False)
  | _=>False)
 | _=>False
theorem aiR {P:Program} {t:TypeId} {x i:AV} {K:AV→Prop} {E:Env} {v Ew:Value} (hx:V3 E x v) (hi:V3 E i Ew) (h:M8 P t x i K):
  ∃r u,K r∧(Instr.index t v Ew).run P E.w= .ok u E.w∧V3 E r u:=by
 cases x with
 | str s=>
  cases i with
  | int k n=>
   obtain rfl:=hx.Cu
   obtain rfl:=hi.qJ
   have h:(match P.underlying t with
    | some .string=>0≤n∧n<s.size∧K (.int .u8 (s.data.getD n.toNat 0).toNat)
    | _=>False):=h
   split at h
   ·rename_i hu
    obtain⟨aA,h1,hK⟩:=h
    refine⟨_,.int .u8 (s.data.getD n.toNat 0).toNat,hK,?_,a1.int _ _⟩
    have aQ:n.toNat<s.size:=by omega
    have MI:n.toNat<s.data.size:=aQ
    have:s[n.toNat]?=some (s.data.getD n.toNat 0):=by
     rw[getElem?_pos s n.toNat aQ]
     congr 1
     show s.data[n.toNat]=_
     rw[Array.getD_eq_getD_getElem?,Array.getElem?_eq_getElem MI];rfl
    simp only[Instr.index,Sem.run_bind,asIntOf,Sem.run_pure,Result.andThen_ok,run_underlying hu]
    rw[if_pos aA,this]
    rfl
   ·exact h.elim
  | _=>exact h.elim
 | _=>exact h.elim
def vd (x:AV) (K:AV→Prop):Prop:=match x with
 | .aP rows _ _=>rows.length≤4611686018427387904→K (.int .i64 rows.length)
 | .str s=>K (.int .i64 s.size)
 | .ref _ _ _ n _=>K (.int .i64 n)
 | _=>False
def lb (P:Program) (t:TypeId) (x:AV):Bool:=match P.underlying t,x with
 | some .string,.str _=>true
 | some (.slice _),.aP _ _ _=>true
 | some (.slice _),.ref _ _ _ _ _=>true
 | _,_=>false
theorem alI {P:Program} {t ty:TypeId} {x:AV} {K:AV→Prop} {E:Env} {v:Value} (hx:V3 E x v)
  (aO:lb P t x=true) (h:vd x K): ∃r u,K r∧(Builtin.len_ #[t] ty #[v]).run P E.w= .ok u E.w∧V3 E r u:=by
 unfold lb at aO
 split at aO<;>try (cases aO;done)
 ·rename_i s hu
  obtain rfl:=hx.Cu
  exact⟨_,_,h,by simp[Builtin.len_,run_underlying hu,goInt],a1.int _ _⟩
 ·rename_i e rows ee fr hu
  have jL:a1 E.w E.PA E.PF (.aP rows ee fr) v:=hx
  cases jL with
  | @aP _ _ PB _ _ _ A cap sz vs fx fl gw cn dz hrel=>
   have h:rows.length≤4611686018427387904→K (.int .i64 rows.length):=h
   exact⟨_,_,h fl.2,by simp[Builtin.len_,run_underlying hu,goInt],a1.int _ _⟩
 ·rename_i e b g off n ee hu
  have h:K (.int .i64 n):=h
  rcases(show ft E (.ref b g off n ee) v from hx) with⟨_,A,cap,rfl⟩ | ⟨gO,bt⟩
  ·exact⟨_,_,h,by simp[Builtin.len_,run_underlying hu,goInt],a1.int _ _⟩
  ·rcases bt with⟨_,_,rfl,A,rfl⟩ | ⟨c,cap,hm,rfl,rq,qA,tf⟩
   ·exact⟨_,_,h,by simp[Builtin.len_,run_underlying hu,goInt],a1.int _ _⟩
   ·exact⟨_,_,h,by simp[Builtin.len_,run_underlying hu,goInt],a1.int _ _⟩
def LL (x:AV) (i:Nat) (K:AV→Prop):Prop:=match x with
 | .tup l=>cZ l[i]? K
 | _=>False
theorem afD {P:Program} {x:AV} {i:Nat} {K:AV→Prop} {E:Env} {v:Value} (hx:V3 E x v) (h:LL x i K):
  ∃r u,K r∧(Instr.extract v i).run P E.w= .ok u E.w∧V3 E r u:=by
 cases x with
 | tup l=>
  obtain⟨vs,rfl,ab⟩:=hx
  obtain⟨a,aw,hK⟩:=f_ (show cZ l[i]? K from h)
  obtain⟨u,hu,ak⟩:=ab.get aw
  refine⟨a,u,hK,?_,sT ak⟩
  simp[Instr.extract,hu]
 | _=>exact h.elim
def JY (op:UnOp) (x:AV) (K:AV→Prop):Prop:=match op,x with
 | .not,.bool b=>K (.bool (!b))
 | .neg,.int k n=>K (.int k (k.wrap (0 - n)))
 | _,_=>False
theorem aqb {P:Program} {op:UnOp} {x:AV} {K:AV→Prop} {E:Env} {v:Value} (hx:V3 E x v) (h:JY op x K):
  ∃r u,K r∧(Op.unary op v).run P E.w= .ok u E.w∧V3 E r u:=by
 unfold JY at h
 split at h
 ·obtain rfl:=hx.qm;exact⟨_,_,h,rfl,a1.bool _⟩
 ·obtain rfl:=hx.qJ;exact⟨_,_,h,rfl,a1.int _ _⟩
 ·exact h.elim
def OY (x:AV) (K:AV→Prop):Prop:=match x with
 | .ptr _ _ _ _ | .fZ _ _ | .dv _ _=>K x
 | _=>False
def Bm (P:Program) (t:TypeId):Option IntKind:=match P.underlying t with
 | some (.int k)=>some k
 | _=>none
theorem W_ {P:Program} {t:TypeId} {k:IntKind} (h:Bm P t=some k):P.underlying t=some (.int k):=by
 unfold Bm at h
 split at h
 ·cases h;assumption
 ·cases h
def Lq (P:Program) (s d:TypeId) (x:AV) (K:AV→Prop):Prop:=match x with
 | .int _ n=>cZ (Bm P s) fun _=>cZ (Bm P d) fun k=>K (.int k (k.wrap n))
 | _=>False
theorem ae9 {P:Program} {s d:TypeId} {x:AV} {K:AV→Prop} {E:Env} {v:Value} (hx:V3 E x v) (h:Lq P s d x K):
  ∃r u,K r∧(Go.convert s d v).run P E.w= .ok u E.w∧V3 E r u:=by
 cases x with
 | int a8 n=>
  obtain⟨c_,h1,h⟩:=f_ (show cZ (Bm P s) _ from h)
  obtain⟨hj,h2,h⟩:=f_ h
  obtain rfl:=hx.qJ
  refine⟨_,_,h,?_,a1.int _ _⟩
  simp only[Go.convert,Sem.run_bind,run_underlying (W_ h1),run_underlying (W_ h2),Result.andThen_ok]
  rfl
 | _=>exact h.elim
def nS (x:Option AV) (d:Nat) (K:Nat→Prop):Prop:=match x with
 | none=>K d
 | some (.int _ n)=>0≤n∧K n.toNat
 | some _=>False
def zo (P:Program) (t:TypeId) (x:AV) (lo hi:Option AV) (H:List Blk) (K:AV→Prop):Prop:=match x with
 | .str s=>(match P.underlying t with
  | some .string=>nS lo 0 fun l=>nS hi s.size fun h=>l≤h∧h≤s.size∧K (.str (s.extract l h))
  | _=>False)
 | .aP rows _ fr=>cZ (kg P t) fun e=>if(P.info? e).isSome=true then
   nS lo 0 fun l=>nS hi rows.length fun h=>l≤h∧h≤rows.length∧(∀(i:Nat) (row:List AV),rows[i]?=some row→row.length=P.cellsOf e)∧K (.aP ((rows.drop l).take (h - l)) false fr) else False
 | .ref b g off n _=>cZ (kg P t) fun e=>if(P.info? e).isSome=true then
   cZ H[b]? fun blk=>blk.bk=g∧blk.sz=P.cellsOf e∧nS lo 0 fun l=>nS hi n fun h=>l≤h∧h≤n∧(l<h→K (.ref b g (off+l) (h - l) false))∧(l=h→K (.aP [] false true)) else False
 | _=>False
def F8 (E:Env) (x:Option AV) (v:Option Value):Prop:=match x,v with
  | none,none=>True
  | some a,some u=>V3 E a u
  | _,_=>False
theorem Af {x:Option AV} {d:Nat} {K:Nat→Prop} {E:Env} {v:Option Value} (hx:F8 E x v) (h:nS x d K): ∃n,K n∧((v=none∧n=d)∨ ∃k,v=some (.int k n)):=by
 cases x with
 | none=>
  cases v with
  | none=>exact⟨d,h,.inl ⟨rfl,rfl⟩⟩
  | some u=>exact hx.elim
 | some a=>
  cases v with
  | none=>exact hx.elim
  | some u=>
   cases a with
   | int k n=>
    obtain⟨aA,h⟩:=(show 0≤n∧K n.toNat from h)
    obtain rfl:=V3.qJ hx
    exact⟨n.toNat,h,.inr ⟨k,by rw[Int.toNat_of_nonneg aA]⟩⟩
   | _=>exact h.elim
theorem PJ {P:Program} {w:World} {isS:Bool} {len cap l h:Nat} {lo hi:Option Value} (au:(lo=none∧l=0)∨ ∃k,lo=some (.int k l)) (bt:(hi=none∧h=len)∨ ∃k,hi=some (.int k h))
  (h1:l≤h) (h2:h≤cap):(Instr.sliceBounds isS len cap lo hi none).run P w= .ok (l,h,cap) w:=by
 rcases au with⟨rfl,rfl⟩ | ⟨Bp,rfl⟩<;>rcases bt with⟨rfl,rfl⟩ | ⟨Xc,rfl⟩
 ·simp[Instr.sliceBounds]
 ·simp[Instr.sliceBounds,run_sliceBound (P:=P) w Xc (h:Int) cap _ (by omega) (by omega)]
 ·simp[Instr.sliceBounds,run_sliceBound (P:=P) w Bp (l:Int) _ _ (by omega) (show(l:Int)≤((_:Nat):Int) by exact Int.ofNat_le.2 h1)]
 ·simp[Instr.sliceBounds,run_sliceBound (P:=P) w Xc (h:Int) cap _ (by omega) (by omega),run_sliceBound (P:=P) w Bp (l:Int) h _ (by omega) (by omega)]
theorem anZ {P:Program} {t:TypeId} {x:AV} {lo hi:Option AV} {K:AV→Prop} {E:Env} {L lR:List (Nat×List AV)} {H fs:List Blk} {v:Value} {R8 R7:Option Value} (sub:Sub L H lR fs) (aB:SimH E fs) (hx:V3 E x v)
  (pG:F8 E lo R8) (MA:F8 E hi R7)
  (h:zo P t x lo hi H K): ∃r u,K r∧(Instr.sliceAt t v R8 R7 none).run P E.w= .ok u E.w∧V3 E r u:=by
 cases x with
 | str s=>
  obtain rfl:=hx.Cu
  have h:(match P.underlying t with
   | some .string=>nS lo 0 fun l=>nS hi s.size fun h=>l≤h∧h≤s.size∧K (.str (s.extract l h))
   | _=>False):=h
  split at h
  ·rename_i hu
   obtain⟨l,h,au⟩:=Af pG h
   obtain⟨q,⟨h1,h2,hK⟩,U⟩:=Af MA h
   refine⟨_,.string (s.extract l q),hK,?_,a1.str _⟩
   rw[run_sliceAt_string E.w t _ _ _ _ hu]
   simp only[Instr.slice,Sem.run_bind,run_underlying hu,Result.andThen_ok]
   simp only[Option.isSome_none,Bool.false_eq_true,if_false]
   simp only[Sem.run_bind,PJ (P:=P) (w:=E.w) (isS:=false) au U h1 h2,Result.andThen_ok]
   rfl
  ·exact h.elim
 | aP rows full fr=>
  obtain⟨e,he,h⟩:=f_ (show cZ (kg P t) fun e=>if(P.info? e).isSome=true then
   nS lo 0 fun l=>nS hi rows.length fun h=>l≤h∧h≤rows.length∧(∀(i:Nat) (row:List AV),rows[i]?=some row→row.length=P.cellsOf e)∧K (.aP ((rows.drop l).take (h - l)) false fr) else False from h)
  have hu:=vY he
  split at h
  case isFalse=>exact h.elim
  case isTrue hinf=>
  obtain⟨l,h,au⟩:=Af pG h
  obtain⟨q,⟨h1,h2,m1,hK⟩,U⟩:=Af MA h
  have jL:a1 E.w E.PA E.PF (.aP rows full fr) v:=hx
  cases jL with
  | @aP _ _ PB _ _ _ A cap sz vs fx fl gw cn dz hrel=>
   have yk:P.elem t=e:=by simp[Program.elem,hu]
   have pH:P.underlying t=some (.slice (P.elem t)):=by rw[yk];exact hu
   have hlen:((rows.drop l).take (q - l)).length=q - l:=by simp;omega
   refine⟨_,sliced A l q cap (P.cellsOf e),hK,?_,?_⟩
   ·rw[run_sliceAt_slice E.w t _ _ _ _ pH,run_slice_any E.w t A rows.length cap pH,PJ (P:=P) (w:=E.w) au U h1 (by omega)]
    simp only[Result.andThen_ok,yk,run_sizeOf hinf]
   ·show a1 E.w E.PA E.PF _ (.slice _ (q - l) (cap - l))
    have key:=a1.aP (w:=E.w) (PA:=E.PA) (PF:=E.PF) (PB:=PB) (rows:=(rows.drop l).take (q - l)) (full:=false) (fresh:=fr) (A:=if cap=l then A else A.map (·.add (l*P.cellsOf e))) (cap:=cap - l) (sz:=sz) (vs:=fun i j=>vs (l+i) j)
     fx (by rw[hlen];omega) (fun h=>by cases h)
     (fun i row ak=>by
      rw[List.getElem?_take] at ak
      split at ak
      ·rw[List.getElem?_drop] at ak;exact cn _ _ ak
      ·cases ak)
     (fun ag=>by
      rw[hlen] at ag
      obtain⟨c,o,rfl,hc,eR⟩:=dz (by omega)
      have ain:sz=P.cellsOf e:=by
       have aQ:l<rows.length:=by omega
       rw[←cn l _ (List.getElem?_eq_getElem aQ)];exact m1 l _ (List.getElem?_eq_getElem aQ)
      refine⟨c,o+l*P.cellsOf e,by rw[if_neg (by omega)];simp[qj],hc,fun i j hi ac=> ?_⟩
      rw[hlen] at hi
      have:=eR (l+i) j (by omega) ac
      rw[←this,ain]
      congr 2
      rw[Nat.add_mul];omega)
     (fun i j row a ak ac=>by
      rw[List.getElem?_take] at ak
      split at ak
      ·rw[List.getElem?_drop] at ak;exact hrel _ _ _ _ ak ac
      ·cases ak)
    rw[hlen] at key
    exact key
 | ref b g off n full=>
  obtain⟨e,he,h⟩:=f_ (show cZ (kg P t) fun e=>if(P.info? e).isSome=true then
   cZ H[b]? fun blk=>blk.bk=g∧blk.sz=P.cellsOf e∧nS lo 0 fun l=>nS hi n fun h=>l≤h∧h≤n∧(l<h→K (.ref b g (off+l) (h - l) false))∧(l=h→K (.aP [] false true)) else False from h)
  have hu:=vY he
  split at h
  case isFalse=>exact h.elim
  case isTrue hinf=>
  obtain⟨blk,hb,az,nX,h⟩:=f_ h
  obtain⟨l,h,au⟩:=Af pG h
  obtain⟨q,⟨h1,h2,ag_,UH⟩,U⟩:=Af MA h
  have hb:=sub.h b blk hb
  have lv:=aB.ff b blk hb
  have yk:P.elem t=e:=by simp[Program.elem,hu]
  have pH:P.underlying t=some (.slice (P.elem t)):=by rw[yk];exact hu
  have run: ∀A cap,n≤cap→(Instr.sliceAt t (.slice A n cap) R8 R7 none).run P E.w= .ok (sliced A l q cap (P.cellsOf e)) E.w:=by
   intro A cap hc
   rw[run_sliceAt_slice E.w t _ _ _ _ pH,run_slice_any E.w t A n cap pH,PJ (P:=P) (w:=E.w) au U h1 (by omega)]
   simp only[Result.andThen_ok,yk,run_sizeOf hinf]
  have empty: ∀A cap,l=q→V3 E (.aP [] false true) (sliced A l q cap (P.cellsOf e)):=by
   intro A cap yo
   subst yo
   show a1 E.w E.PA E.PF _ (.slice _ (l - l) (cap - l))
   rw[Nat.sub_self]
   exact a1.aP (PB:=fun _=>False) (sz:=0) (vs:=fun _ _=>undef) (fun _ h=>h.elim) ⟨Nat.zero_le _,Nat.zero_le _⟩ (fun h=>by cases h) (fun i row h=>by simp at h) (fun h=>by simp at h) (fun i j row a h=>by simp at h)
  rcases(show ft E (.ref b g off n full) v from hx) with⟨bt,_⟩ | ⟨gO,bt⟩
  ·omega
  ·rcases bt with⟨_,_,rfl,A,rfl⟩ | ⟨c,cap,hm,rfl,rq,qA,tf⟩
   ·have yo:l=q:=by omega
    exact⟨_,_,UH yo,run A 0 (Nat.le_refl _),empty _ _ yo⟩
   ·rcases Nat.lt_or_ge l q with aQ | Ht
    ·refine⟨_,_,ag_ aQ,run _ cap rq,.inr ⟨gO,.inr ⟨c,cap - l,hm,?_,by omega,(fun h=>by cases h),by omega⟩⟩⟩
     obtain⟨blk',an,ty,q1,cG,_⟩:=aB.heap b c hm
     obtain rfl:blk=blk':=by rw[hb] at q1;exact Option.some.inj q1
     simp only[sliced,if_neg (show ¬cap=l by omega),Option.map_some,qj,cG,nX,Nat.add_mul]
    ·have yo:l=q:=by omega
     exact⟨_,_,UH yo,run _ cap rq,empty _ _ yo⟩
 | _=>exact h.elim
def wY (P:Program) (f:FuncId):Bool:=match P.funcs[f]? with
 | some fn=> !(fn.name== "runtime.NumGoroutine")&&fn.body.isSome
 | none=>false
def c8 (P:Program) (f:FuncId) (args:List AV) (H:List Blk) (Q:AV→List Blk→Prop):Prop:=
 wY P f=true∧ ∀(E:Env) (vs:List Value),(∀t,E.mL t=none)→SimH E H→ah (V2 E) args vs→
  Calls P f vs.toArray E.w fun e w'=> ∃r v H' E',e= .returned v∧Q r H'∧E'.w=w'∧(∀t,E'.mL t=none)∧SimH E' H'∧V3 E' r v∧Step E E'
theorem c8.mono {P:Program} {f:FuncId} {args:List AV} {H:List Blk} {Q zW:AV→List Blk→Prop} (h:c8 P f args H Q) (U: ∀r H',Q r H'→zW r H'):c8 P f args H zW:=
 ⟨h.1,fun E vs a b c=>(h.2 E vs a b c).mono fun e w' ⟨r,v,H',E',h1,h2,aC⟩=>⟨r,v,H',E',h1,U _ _ h2,aC⟩⟩
def EK:AV→Bool
 | .fZ _ _ | .agg _ | .tup _=>false
 | _=>true
def By:AV→Bool
 | .fn _ caps=>caps.all EK
 | a=>EK a
def lF:AV→Bool
 | .agg cells=>cells.all By
 | a=>By a
def Bz:AV→Bool
 | .tup l=>l.all lF
 | a=>lF a
theorem ft.bS {E:Env} {a:AV} {v:Value} (h:EK a=true) (hv:ft E a v):ft E.bS a v:=by
 cases a<;>first | exact hv | cases h
theorem b6.bS {E:Env} {a:AV} {v:Value} (h:By a=true) (hv:b6 E a v):b6 E.bS a v:=by
 by_cases hf: ∃f caps,a= .fn f caps
 ·obtain⟨f,caps,rfl⟩:=hf
  obtain⟨vs,e,ab⟩:=hv
  exact⟨vs,e,ab.1,fun i x y hx aU=>(ab.2 i x y hx aU).bS (List.all_eq_true.1 (show caps.all EK=true from h) x (List.mem_of_getElem? hx))⟩
 ·have aA:By a=EK a:=by cases a<;>first | rfl | exact absurd ⟨_,_,rfl⟩ hf
  rw[sS fun f c e=>hf ⟨f,c,e⟩] at hv ⊢
  exact hv.bS (aA▸h)
theorem V2.bS {E:Env} {a:AV} {v:Value} (h:lF a=true) (hv:V2 E a v):V2 E.bS a v:=by
 by_cases hf: ∃l,a= .agg l
 ·obtain⟨l,rfl⟩:=hf
  obtain⟨vs,e,ab⟩:=hv
  exact⟨vs,e,ab.1,fun i x y hx aU=>(ab.2 i x y hx aU).bS (List.all_eq_true.1 (show l.all By=true from h) x (List.mem_of_getElem? hx))⟩
 ·have aA:lF a=By a:=by cases a<;>first | rfl | exact absurd ⟨_,rfl⟩ hf
  rw[rb fun l e=>hf ⟨l,e⟩] at hv ⊢
  exact hv.bS (aA▸h)
theorem V3.bS {E:Env} {a:AV} {v:Value} (h:Bz a=true) (hv:V3 E a v):V3 E.bS a v:=by
 by_cases hf: ∃l,a= .tup l
 ·obtain⟨l,rfl⟩:=hf
  obtain⟨vs,e,ab⟩:=hv
  exact⟨vs,e,ab.1,fun i x y hx aU=>(ab.2 i x y hx aU).bS (List.all_eq_true.1 (show l.all lF=true from h) x (List.mem_of_getElem? hx))⟩
 ·have aA:Bz a=lF a:=by cases a<;>first | rfl | exact absurd ⟨_,rfl⟩ hf
  rw[rc fun l e=>hf ⟨l,e⟩] at hv ⊢
  exact hv.bS (aA▸h)
theorem SimH.bS {E:Env} {H:List Blk} (h:SimH E H):SimH E.bS H:=
 {h with
  kT:=fun t kc c hm=>by cases hm
  ht:=fun b t c _ hm=>by cases hm
  jv:=fun c _ ⟨t,hm⟩=>by cases hm
  hl:=fun c ⟨t,hm⟩=>by cases hm}
theorem Good.toStep [cL] {cj E:Env} (h:Good cj E):Step cj E.bS:=
 ⟨⟨h.le.gn,h.le.fS,h.le.xC,h.le.wf,h.le.bk,h.le.m,fun t c hm=>by rw[h.bS t] at hm;cases hm⟩,h.os,h.tape,h.output,h.size,fun c hc h1 _=>h.cT c hc h1,h.kl,(fun c ⟨t,hm⟩=>by cases hm),h.gn,h.fS⟩
def vn (P:Program) (ar:St):List ResultVar→(List AV→Prop)→Prop
 | [],K=>K []
 | .tmp t::rs,K=>vn P ar rs fun l=>K (ar.T.getD t .undef::l)
 | .cell a t::rs,K=>rz P t (ar.T.getD a .undef) ar.L ar.H fun x=>vn P ar rs fun l=>K (x::l)
def ug:List AV→AV
 | [x]=>x
 | l=> .tup l
def xb (P:Program) (fn:Func) (ar:St) (Q:AV→List Blk→Prop):Prop:=vn P ar fn.results.toList fun l=>l.all lF=true∧Q (ug l) ar.H
theorem adS {E:Env} {P:Program} {t:TypeId} {x:AV} {L:List (Nat×List AV)} {H:List Blk} {K:AV→Prop} {v:Value} (aB:SimH E H) (bB:SimL E L) (hx:V3 E x v) (h:rz P t x L H K):
  ∃a ea,K a∧(do loadVar t (←asAddr v):Sem Value).run P E.w= .ok ea E.w∧V2 E a ea:=by
 obtain⟨a,ea,hK,ak,hv⟩:=Yi (Sub.refl L H) aB bB hx h
 refine⟨a,ea,hK,?_,hv⟩
 have: ∃nn,v= .pointer (some nn):=by
  cases x with
  | fZ s c=>obtain⟨bl,_,rfl⟩:=hx.EE;exact⟨_,rfl⟩
  | ptr b g r c=>
   rcases(show ft E (.ptr b g r c) v from hx) with⟨_,bl,o,rfl⟩ | ⟨_,bl,_,rfl⟩<;>exact⟨_,rfl⟩
  | dv cells c=>
   have jL:a1 E.w E.PA E.PF (.dv cells c) v:=hx
   cases jL;exact⟨_,rfl⟩
  | _=>exact h.elim
 obtain⟨nn,rfl⟩:=this
 simpa[Instr.loadAt,Instr.sureAddr,asAddr] using ak
theorem PC {P:Program} {ar:St} {E:Env} {tmps:Array Value} (hs:xP E ar tmps) {f:ResultVar→Sem Value} (f1: ∀t,f (.tmp t)=pure (tmps.getD t undef))
  (f2: ∀a t,f (.cell a t)=do loadVar t (←asAddr (tmps.getD a undef))): ∀(rs:List ResultVar) (K:List AV→Prop),vn P ar rs K→
  ∃l vs,K l∧(rs.mapM f).run P E.w= .ok vs E.w∧ah (V3 E) l vs
 | [],K,h=>⟨[],[],h,rfl,ah.nil⟩
 | .tmp t::rs,K,h=>by
  obtain⟨l,vs,hK,ak,ab⟩:=PC hs f1 f2 rs _ h
  exact⟨_,_,hK,by simp only[List.mapM_cons,f1,Sem.run_bind,Sem.run_pure,Result.andThen_ok,ak],ah.cons (hs.jD t) ab⟩
 | .cell a t::rs,K,h=>by
  obtain⟨x,ea,h2,MP,hv⟩:=adS hs.h hs.l (hs.jD a) h
  obtain⟨l,vs,hK,ak,ab⟩:=PC hs f1 f2 rs _ h2
  refine⟨_,_,hK,?_,ah.cons (sT hv) ab⟩
  simp only[List.mapM_cons,f2]
  rw[Sem.run_bind,MP]
  simp only[Result.andThen_ok,Sem.run_bind,ak,Sem.run_pure]
theorem anp (fn:Func) (tmps:Array Value): ∃f:ResultVar→Sem Value,results fn tmps=(fn.results.mapM f>>=fun vs=>pure (if h:vs.size=1 then vs[0] else .tuple vs))∧(∀t,f (.tmp t)=pure (tmps.getD t undef))∧
  ∀b t,f (.cell b t)=(asAddr (tmps.getD b undef)>>=fun a=>loadVar t a):=⟨_,rfl,fun _=>rfl,fun _ _=>rfl⟩
def xO (P:Program) (fn:Func) (Q:AV→List Blk→Prop) (ex:Exit) (ar:St):Prop:=match ex with
 | .normal | .ret=>xb P fn ar Q
 | _=>False
def Iu (fn:Func) (args:List AV) (H:List Blk):St:=⟨args++List.replicate (fn.ntmps - args.length) .undef,[],H⟩
theorem adE {E:Env} {a:AV} {v:Value} (h:lF a=true) (hv:V3 E a v) (aO: ∀l,a≠ .tup l):V2 E.bS a v:=by
 rw[rc aO] at hv;exact hv.bS h
theorem c8.O0 {P:Program} {f:FuncId} {fn:Func} {c:Code} {args:List AV} {H:List Blk} {Q:AV→List Blk→Prop} (hf:P.funcs[f]?=some fn) (hb:fn.body=some c) (ag:(fn.name== "runtime.NumGoroutine")=false)
  (h: ∀j0:cL,j0.n=H.length→WpS P c (xO P fn Q) (Iu fn args H)):c8 P f args H Q:=by
 refine⟨by simp[wY,hf,hb,ag],?_⟩
 intro E vs ag aB ab
 letI:cL:=⟨H.length⟩
 refine calls_of_wp hf hb (wp_mono (h ⟨H.length⟩ rfl E E {tmps:=vs.toArray++Array.replicate (fn.ntmps - vs.toArray.size) undef,defers:=[]} (Good.refl aB.fresh ag) ⟨aB,(fun t c hm=>by rw[ag t] at hm;cases hm),fun t=> ?_,?_⟩ rfl) ?_)
 ·show V3 E ((args++List.replicate (fn.ntmps - args.length) AV.undef).getD t AV.undef) _
  rcases Nat.lt_or_ge t args.length with aQ | gO
  ·have h1:args[t]?=some args[t]:=List.getElem?_eq_getElem aQ
   obtain⟨v,hv,ak⟩:=ab.get h1
   have MI:t<vs.length:=ab.1▸aQ
   have aN:(args++List.replicate (fn.ntmps - args.length) AV.undef).getD t .undef=args[t]:=by
    rw[List.getD_eq_getElem?_getD,List.getElem?_append_left aQ,h1];rfl
   have e2:(vs.toArray++Array.replicate (fn.ntmps - vs.toArray.size) undef).getD t undef=v:=by
    rw[Array.getD_eq_getD_getElem?,Array.getElem?_append_left (by simpa using MI)]
    simp[hv]
   rw[aN,e2];exact sT ak
  ·have aN:(args++List.replicate (fn.ntmps - args.length) AV.undef).getD t .undef= .undef:=by
    rw[List.getD_eq_getElem?_getD,List.getElem?_append_right gO,List.getElem?_replicate];split<;>rfl
   rw[aN];exact V3.undef _ _
 ·simp[Iu,ab.1]
 ·rintro e a w ⟨hex,ar,E',U,hw,az,hs,aY⟩
  have fin:xb P fn ar Q→a.defers=[]∧ ∃v,(results fn a.tmps).run P w= .ok v w∧ ∃r acF H' E',(Ending.returned v)= .returned acF∧Q r H'∧E'.w=w∧(∀t,E'.mL t=none)∧SimH E' H'∧V3 E' r acF∧Step E E':=by
   intro MS
   refine⟨aY,?_⟩
   subst hw
   have hm: ∀f:ResultVar→Sem Value,(∀t,f (.tmp t)=pure (a.tmps.getD t undef))→(∀b t,f (.cell b t)=do loadVar t (←asAddr (a.tmps.getD b undef)))→ ∃l eX,(l.all lF=true∧Q (ug l) ar.H)∧(fn.results.mapM f).run P E'.w= .ok (List.toArray eX) E'.w∧ah (V3 E') l eX:=by
    intro f f1 f2
    obtain⟨l,eX,h1,ak,h2⟩:=PC hs f1 f2 _ _ MS
    exact⟨l,eX,h1,by rw[Array.mapM_eq_mapM_toList,Sem.run_map,ak];rfl,h2⟩
   obtain⟨f,we,wg,hf2⟩:=anp fn a.tmps
   obtain⟨l,eX,⟨Vl,ahb⟩,ak,AU⟩:=hm f wg hf2
   refine⟨if h:eX.toArray.size=1 then eX.toArray[0] else .tuple eX.toArray,?_,ug l,_,ar.H,E'.bS,rfl,ahb,rfl,fun _=>rfl,hs.h.bS,?_,az.toStep⟩
   ·rw[we,Sem.run_bind,ak];rfl
   ·cases l with
    | nil=>
     obtain rfl:=AU.pT
     exact⟨[],rfl,ah.nil⟩
    | cons x l=>
     obtain⟨u,arx,rfl,hx,Vv⟩:=AU.cons_inv
     cases l with
     | nil=>
      obtain rfl:=Vv.pT
      show V3 E'.bS x u
      have n0:lF x=true:=by simpa using Vl
      exact hx.bS (by cases x<;>first | exact n0 | (cases n0))
     | cons y l=>
      obtain⟨z,aqd,rfl,aU,arh⟩:=Vv.cons_inv
      have cn: ¬(List.toArray (u::z::aqd)).size=1:=by simp
      rw[dif_neg cn]
      refine⟨_,rfl,?_⟩
      refine⟨AU.1,fun i p q Vu aih=> ?_⟩
      have hv:=AU.2 i p q Vu aih
      have n0:lF p=true:=List.all_eq_true.1 Vl p (List.mem_of_getElem? Vu)
      have aO: ∀l,p≠ .tup l:=by
       intro l e;subst e;cases n0
      exact adE n0 hv aO
  cases e with
  | normal=>exact fin U
  | ret=>exact fin U
  | exit id=>exact U.elim
  | _=>cases hex
inductive gD (L:List (Nat×List AV)) (H:List Blk):AV→AV→Prop where
 | undef (a:AV):gD L H a .undef
 | int (k:IntKind) (n:Int):gD L H (.int k n) (.int k n)
 | bool (b:Bool):gD L H (.bool b) (.bool b)
 | str (s:ByteArray):gD L H (.str s) (.str s)
 | gH:gD L H .gH .gH
 | gW:gD L H .gW .gW
 | aP (rows:List (List AV)) (full fr ee:Bool) (hw:ee=true→full=true):gD L H (.aP rows full fr) (.aP rows ee false)
 | dv (cells:List AV) (c:Nat):gD L H (.dv cells c) (.dv cells c)
 | fZ {t c:Nat} {cells hD:List AV} (h:eV L t=some cells) (au:cells.length=hD.length)
   (ak: ∀(j:Nat) (a b:AV),cells[j]?=some a→hD[j]?=some b→gD L H a b):gD L H (.fZ t c) (.dv hD c)
 | ptr {b g r c:Nat} {blk:Blk} {row row':List AV} (hb:H[b]?=some blk) (az:blk.bk=g) (eM:blk.rows[r]?=some row) (au:row.length=row'.length)
   (ak: ∀(j:Nat) (a b:AV),row[j]?=some a→row'[j]?=some b→gD L H a b):gD L H (.ptr b g r c) (.dv row' c)
 | ref {b g off n:Nat} {full ee:Bool} {blk:Blk} {jQ:List (List AV)} (hw:ee=true→full=true) (hb:H[b]?=some blk) (az:blk.bk=g) (ag:jQ.length=n) (eH:n≤4611686018427387904) (aj:off+n≤blk.rows.length)
   (au: ∀(i:Nat) (row row':List AV),blk.rows[off+i]?=some row→jQ[i]?=some row'→row.length=row'.length)
   (ak: ∀(i j:Nat) (row row':List AV) (a c:AV),blk.rows[off+i]?=some row→jQ[i]?=some row'→row[j]?=some a→row'[j]?=some c→gD L H a c):
   gD L H (.ref b g off n full) (.aP jQ ee false)
 | fn {f:FuncId} {caps Dq:List AV} (au:caps.length=Dq.length) (ak: ∀(j:Nat) (a b:AV),caps[j]?=some a→Dq[j]?=some b→gD L H a b):gD L H (.fn f caps) (.fn f Dq)
def c6 (L:List (Nat×List AV)) (H:List Blk) (a b:AV):Prop:=
 (∃l fH,a= .agg l∧b= .agg fH∧ah (gD L H) l fH)∨gD L H a b
def Env.frozen (E:Env):Env:={w:=E.w,PA:=fun c=>E.PA c∨E.fW c∨E.l1 c,PF:=fun _=>False,m:=fun _=>none,bk:=fun _=>0,sz:=fun _=>0,cp:=fun _=>0,mL:=fun _=>none}
theorem Un {E:Env} {H:List Blk} (h:SimH E H):SimH E.frozen [] where
 heap:=fun b c hb=>by cases hb
 ff:=fun b blk hb=>by simp at hb
 h6:=fun b hb=>by cases hb
 fresh:=fun b _=>⟨rfl,rfl⟩
 gV:=fun b b4 c hb=>by cases hb
 kT:=fun t kc c hb=>by cases hb
 ht:=fun b t c hb=>by cases hb
 iG:=fun c _ ⟨b,hb⟩=>by cases hb
 jv:=fun c _ ⟨b,hb⟩=>by cases hb
 dU:=fun c hc=>hc.elim
 ga:=fun c hc=>hc.elim
 eh:=fun c hc=>hc.elim (h.eh c) fun hc=>hc.elim (h.gi c) (h.hl c)
 gi:=fun c ⟨b,hb⟩=>by cases hb
 hl:=fun c ⟨b,hb⟩=>by cases hb
theorem KE {E:Env} {a:AV} {v:Value} (h:ft E a v):b6 E a v:=by
 by_cases hf: ∃f caps,a= .fn f caps
 ·obtain⟨f,caps,rfl⟩:=hf
  exact a1.v1 h
 ·rw[sS fun f c e=>hf ⟨f,c,e⟩];exact h
theorem aaH {L lR:List (Nat×List AV)} {H fs:List Blk} {E:Env} (sub:Sub L H lR fs) (aB:SimH E fs) (bB:SimL E lR) {a b:AV} (h:gD L H a b):
  ∀{v:Value},b6 E a v→a1 E.w (fun c=>E.PA c∨E.fW c∨E.l1 c) (fun _=>False) b v:=by
 induction h with
 | undef a=>intro v _;exact .undef v
 | int k n=>intro v hv;have hv:a1 E.w E.PA E.PF (.int k n) v:=hv;cases hv;exact .int _ _
 | bool k=>intro v hv;have hv:a1 E.w E.PA E.PF (.bool k) v:=hv;cases hv;exact .bool _
 | str k=>intro v hv;have hv:a1 E.w E.PA E.PF (.str k) v:=hv;cases hv;exact .str _
 | gH=>intro v hv;have hv:a1 E.w E.PA E.PF .gH v:=hv;cases hv;exact .gH
 | gW=>intro v hv;have hv:a1 E.w E.PA E.PF .gW v:=hv;cases hv;exact .gW
 | aP rows full fr ee hw=>
  intro v hv
  have hv:a1 E.w E.PA E.PF (.aP rows full fr) v:=hv
  cases hv with
  | aP fx fl gw cn dz hrel=>
   exact .aP (fun c hc=>by
    have:=fx c hc
    simp only[Bool.false_eq_true,if_false]
    split at this
    ·exact .inl (aB.dU c this)
    ·exact .inl this) fl (fun h=>gw (hw h)) cn dz hrel
 | dv cells c=>
  intro v hv
  have hv:a1 E.w E.PA E.PF (.dv cells c) v:=hv
  cases hv with
  | dv hc dz hrel=>exact .dv (.inl hc) dz fun j a ac=>(hrel j a ac).mono (fun _ _=>rfl) (fun _ h=>h.elim) (fun c hc=> .inl hc) (fun _ h=>h)
 | @fZ t c cells hD az au ak bp=>
  intro v hv
  obtain⟨bl,hm,rfl⟩:=(show ∃bl,E.mL t=some bl∧v= .pointer (some ⟨bl,c,none⟩) from hv)
  obtain⟨Ds,an,ty,DS,hw,ab⟩:=bB t bl hm
  obtain rfl:cells=Ds:=by have:=sub.l _ _ az;rw[DS] at this;exact(Option.some.inj this).symm
  have key:=a1.dv (w:=E.w) (PA:=fun c=>E.PA c∨E.fW c∨E.l1 c) (PF:=fun _=>False) (cells:=hD) (col:=c) (c:=bl) (o:=0) (vs:=fun j=>(an[j]?).getD undef)
   (.inr (.inr ⟨t,hm⟩))
   (fun j ac=>by
    have aQ:j<an.size:=by have:=ab.1;simp at this;omega
    rw[Nat.zero_add]
    rw[cell_of hw (Array.getElem?_eq_getElem aQ)]
    simp[Array.getElem?_eq_getElem aQ])
   (fun j b ac=>by
    have aQ:j<cells.length:=by have:=(List.getElem?_eq_some_iff.1 ac).1;omega
    obtain⟨u,hu,hG⟩:=ab.get (List.getElem?_eq_getElem aQ)
    have:(an[j]?).getD undef=u:=by rw[Array.getElem?_toList] at hu;rw[hu];rfl
    rw[this]
    exact bp j _ b (List.getElem?_eq_getElem aQ) ac hG.up)
  rw[Nat.zero_add] at key
  exact key
 | @ptr b g r c blk row row' hb az eM au ak bp=>
  intro v hv
  have hb:=sub.h b blk hb
  have lv:=aB.ff b blk hb
  obtain⟨bl,hm,rfl⟩:=V3.I4 (E:=E) (v:=v) (show V3 E (.ptr b g r c) v from hv) (lv.trans az)
  obtain⟨blk',an,ty,q1,cG,hw,mj,hlen,gU⟩:=aB.heap b bl hm
  obtain rfl:blk=blk':=by rw[hb] at q1;exact Option.some.inj q1
  exact a1.dv (vs:=fun j=>(an[r*E.sz b+j]?).getD undef) (.inr (.inl ⟨b,hm⟩))
   (fun j ac=>by
    have aQ:j<row.length:=by omega
    obtain⟨u,hu,_⟩:=gU.2 r j row _ eM (List.getElem?_eq_getElem aQ)
    rw[cell_of hw hu,hu];rfl)
   (fun j b2 ac=>by
    have aQ:j<row.length:=by have:=(List.getElem?_eq_some_iff.1 ac).1;omega
    obtain⟨u,hu,hG⟩:=gU.2 r j row _ eM (List.getElem?_eq_getElem aQ)
    rw[hu]
    exact bp j _ b2 (List.getElem?_eq_getElem aQ) ac hG.up)
 | @ref b g off n full ee blk jQ M0 hb az ag eH aj au ak bp=>
  intro v hv
  have hb:=sub.h b blk hb
  have lv:=aB.ff b blk hb
  rcases(show ft E (.ref b g off n full) v from hv) with⟨bt,_⟩ | ⟨gO,bt⟩
  ·omega
  ·rcases bt with⟨_,_,lY,A,rfl⟩ | ⟨c,cap,hm,rfl,rq,qA,tf⟩
   ·subst lY
    obtain rfl:jQ=[]:=List.eq_nil_of_length_eq_zero ag
    exact a1.aP (rows:=[]) (PB:=fun _=>False) (sz:=0) (vs:=fun _ _=>undef) (fun _ h=>h.elim) ⟨Nat.le_refl _,Nat.zero_le _⟩ (fun _=>rfl) (fun i row h=>by simp at h) (fun h=>by simp at h) (fun i j row a h=>by simp at h)
   ·obtain⟨blk',an,ty,q1,cG,hw,mj,hlen,gU⟩:=aB.heap b c hm
    obtain rfl:blk=blk':=by rw[hb] at q1;exact Option.some.inj q1
    subst ag
    have eM: ∀i,i<jQ.length→ ∃row,blk.rows[off+i]?=some row:=fun i hi=>⟨_,List.getElem?_eq_getElem (by omega)⟩
    refine a1.aP (PB:=fun c=>E.PA c∨E.fW c∨E.l1 c) (sz:=E.sz b) (vs:=fun i j=>(an[(off+i)*E.sz b+j]?).getD undef) (fun c hc=>by simpa using hc) ⟨rq,eH⟩ (fun h=>qA (M0 h))
     (fun i row' fm=> ?_) (fun m0=>⟨c,off*E.sz b,rfl,.inr (.inl ⟨b,hm⟩),fun i j hi ac=> ?_⟩) (fun i j row' a fm ac=> ?_)
    ·obtain⟨row,jb⟩:=eM i (List.getElem?_eq_some_iff.1 fm).1
     rw[←au i row row' jb fm];exact gU.1 _ row jb
    ·obtain⟨row,jb⟩:=eM i hi
     have aQ:j<row.length:=by rw[gU.1 _ row jb];exact ac
     obtain⟨u,hu,_⟩:=gU.2 (off+i) j row _ jb (List.getElem?_eq_getElem aQ)
     rw[show off*E.sz b+(i*E.sz b+j)=(off+i)*E.sz b+j by rw[Nat.add_mul];omega,cell_of hw hu,hu];rfl
    ·obtain⟨row,jb⟩:=eM i (List.getElem?_eq_some_iff.1 fm).1
     have aQ:j<row.length:=by rw[au i row row' jb fm];exact(List.getElem?_eq_some_iff.1 ac).1
     obtain⟨u,hu,hG⟩:=gU.2 (off+i) j row _ jb (List.getElem?_eq_getElem aQ)
     rw[hu]
     exact bp i j row row' _ a jb fm (List.getElem?_eq_getElem aQ) ac hG.up
 | @fn f caps Dq au ak bp=>
  intro v hv
  obtain⟨vs,rfl,ab⟩:=(show ∃vs:List Value,v= .func (.func f) #[] vs.toArray∧ah (ft E) caps vs from hv)
  exact .fn (au▸ab.1) fun i b u hb hu=>by
   have aQ:i<caps.length:=by have:=(List.getElem?_eq_some_iff.1 hb).1;omega
   exact bp i _ b (List.getElem?_eq_getElem aQ) hb (KE (ab.2 i _ u (List.getElem?_eq_getElem aQ) hu))
theorem aaI {L lR:List (Nat×List AV)} {H fs:List Blk} {E:Env} (sub:Sub L H lR fs) (aB:SimH E fs) (bB:SimL E lR) {a b:AV} (h:c6 L H a b) {v:Value} (hv:V2 E a v):V2 E.frozen b v:=by
 rcases h with⟨l,fH,rfl,rfl,ab⟩ | h
 ·obtain⟨vs,rfl,U⟩:=hv
  refine⟨vs,rfl,ab.1▸U.1,fun i x u hx hu=> ?_⟩
  have aQ:i<l.length:=by have:=(List.getElem?_eq_some_iff.1 hx).1;have:=ab.1;omega
  have au:=List.getElem?_eq_getElem aQ
  exact a1.v1 (E:=E.frozen) (aaH sub aB bB (ab.2 i _ x au hx) (U.2 i _ u au hu))
 ·by_cases hf: ∃l,a= .agg l
  ·obtain⟨l,rfl⟩:=hf
   cases h with
   | undef=>exact a1.undef v
  ·rw[rb fun l e=>hf ⟨l,e⟩] at hv
   exact mS (a1.v1 (E:=E.frozen) (aaH sub aB bB h hv))
inductive gT (H:List Blk):AV→AV→Prop where
 | int (k:IntKind) (n:Int):gT H (.int k n) (.int k n)
 | bool (b:Bool):gT H (.bool b) (.bool b)
 | str (s:ByteArray):gT H (.str s) (.str s)
 | gH:gT H .gH .gH
 | gW:gT H .gW .gW
 | aP (rows:List (List AV)) (full ee:Bool) (hw:ee=true→full=true):gT H (.aP rows full true) (.aP rows ee true)
 | Yv (full fr ee:Bool) (hw:ee=true→full=true):gT H (.aP [] full fr) (.aP [] ee true)
 | ref {b g off n:Nat} {full ee:Bool} {blk:Blk} {jQ:List (List AV)} (hw:ee=true→full=true) (an:Nat→Nat→AV) (hb:H[b]?=some blk) (az:blk.bk=g) (ag:jQ.length=n) (eH:n≤4611686018427387904) (aj:off+n≤blk.rows.length)
   (au: ∀(i:Nat) (row row':List AV),blk.rows[off+i]?=some row→jQ[i]?=some row'→row.length=row'.length)
   (ak: ∀(i j:Nat) (row:List AV) (a:AV),i<n→blk.rows[off+i]?=some row→row[j]?=some a→gT H a (an i j))
   (hc: ∀(i j:Nat) (row':List AV) (c:AV),jQ[i]?=some row'→row'[j]?=some c→c=kd (an i j)):
   gT H (.ref b g off n full) (.aP jQ ee true)
def xQ (H:List Blk) (a b:AV):Prop:=(∃l fH,a= .agg l∧b= .agg fH∧ah (gT H) l fH)∨gT H a b
def ie (H:List Blk) (a b:AV):Prop:=(∃l fH,a= .tup l∧b= .tup fH∧ah (xQ H) l fH)∨xQ H a b
theorem aoj {H:List Blk} {a b:AV} (h:gT H a b):kK b=true:=by cases h<;>rfl
theorem aaK {H:List Blk} {E:Env} (aB:SimH E H) {a b:AV} (h:gT H a b):
  ∀{v:Value},b6 E a v→a1 E.w (fun c=>E.PF c∨E.fW c) (fun c=>E.PF c∨E.fW c) b v:=by
 induction h with
 | int k n=>intro v hv;have hv:a1 E.w E.PA E.PF (.int k n) v:=hv;cases hv;exact .int _ _
 | bool k=>intro v hv;have hv:a1 E.w E.PA E.PF (.bool k) v:=hv;cases hv;exact .bool _
 | str k=>intro v hv;have hv:a1 E.w E.PA E.PF (.str k) v:=hv;cases hv;exact .str _
 | gH=>intro v hv;have hv:a1 E.w E.PA E.PF .gH v:=hv;cases hv;exact .gH
 | gW=>intro v hv;have hv:a1 E.w E.PA E.PF .gW v:=hv;cases hv;exact .gW
 | aP rows full ee hw=>
  intro v hv
  have hv:a1 E.w E.PA E.PF (.aP rows full true) v:=hv
  cases hv with
  | aP fx fl gw cn dz hrel=>exact .aP (fun c hc=>by have:=fx c hc;simp at this ⊢;exact .inl this) fl (fun h=>gw (hw h)) cn dz hrel
 | Yv full fr ee hw=>
  intro v hv
  have hv:a1 E.w E.PA E.PF (.aP [] full fr) v:=hv
  cases hv with
  | aP fx fl gw cn dz hrel=>exact a1.aP (rows:=[]) (PB:=fun _=>False) (sz:=0) (vs:=fun _ _=>undef) (fun _ h=>h.elim) fl (fun h=>gw (hw h)) (fun i row h=>by simp at h) (fun h=>by simp at h) (fun i j row a h=>by simp at h)
 | @ref b g off n full ee blk jQ M0 an hb az ag eH aj au ak hc bp=>
  intro v hv
  have lv:=aB.ff b blk hb
  rcases(show ft E (.ref b g off n full) v from hv) with⟨bt,_⟩ | ⟨gO,bt⟩
  ·omega
  ·rcases bt with⟨_,_,lY,A,rfl⟩ | ⟨c,cap,hm,rfl,rq,qA,tf⟩
   ·subst lY
    obtain rfl:jQ=[]:=List.eq_nil_of_length_eq_zero ag
    exact a1.aP (rows:=[]) (PB:=fun _=>False) (sz:=0) (vs:=fun _ _=>undef) (fun _ h=>h.elim) ⟨Nat.le_refl _,Nat.zero_le _⟩ (fun _=>rfl) (fun i row h=>by simp at h) (fun h=>by simp at h) (fun i j row a h=>by simp at h)
   ·obtain⟨blk',Ai,ty,q1,cG,hw,mj,hlen,gU⟩:=aB.heap b c hm
    obtain rfl:blk=blk':=by rw[hb] at q1;exact Option.some.inj q1
    subst ag
    have eM: ∀i,i<jQ.length→ ∃row,blk.rows[off+i]?=some row:=fun i hi=>⟨_,List.getElem?_eq_getElem (by omega)⟩
    refine a1.aP (PB:=fun c=>E.PF c∨E.fW c) (sz:=E.sz b) (vs:=fun i j=>(Ai[(off+i)*E.sz b+j]?).getD undef) (fun c hc=>by simpa using hc) ⟨rq,eH⟩ (fun h=>qA (M0 h))
     (fun i row' fm=> ?_) (fun m0=>⟨c,off*E.sz b,rfl,.inr ⟨b,hm⟩,fun i j hi ac=> ?_⟩) (fun i j row' a fm ac=> ?_)
    ·obtain⟨row,jb⟩:=eM i (List.getElem?_eq_some_iff.1 fm).1
     rw[←au i row row' jb fm];exact gU.1 _ row jb
    ·obtain⟨row,jb⟩:=eM i hi
     have aQ:j<row.length:=by rw[gU.1 _ row jb];exact ac
     obtain⟨u,hu,_⟩:=gU.2 (off+i) j row _ jb (List.getElem?_eq_getElem aQ)
     rw[show off*E.sz b+(i*E.sz b+j)=(off+i)*E.sz b+j by rw[Nat.add_mul];omega,cell_of hw hu,hu];rfl
    ·have hi:=(List.getElem?_eq_some_iff.1 fm).1
     obtain⟨row,jb⟩:=eM i hi
     have aQ:j<row.length:=by rw[au i row row' jb fm];exact(List.getElem?_eq_some_iff.1 ac).1
     obtain⟨u,hu,hG⟩:=gU.2 (off+i) j row _ jb (List.getElem?_eq_getElem aQ)
     have h1:=bp i j row _ hi jb (List.getElem?_eq_getElem aQ) hG.up
     have h2:=aoj (ak i j row _ hi jb (List.getElem?_eq_getElem aQ))
     rw[hu,hc i j row' a fm ac]
     exact R2 h2 h1 (fun c hc=>hc) (fun c hc=>hc)
def bn (P:Program) (f:FuncId) (args:List AV) (t:AV):Prop:=c8 P f args [] fun r fs=>ie fs r t
theorem Th {P:Program} {f:FuncId} {args eE:List AV} {t:AV} {L lR:List (Nat×List AV)} {H fs:List Blk} {E:Env} {vs:List Value} (sub:Sub L H lR fs) (aB:SimH E fs) (bB:SimL E lR)
  (aw:ah (V2 E) args vs) (hs:ah (c6 L H) args eE) (h:bn P f eE t):
  Calls P f vs.toArray E.w fun e w'=> ∃v E',e= .returned v∧E'.w=w'∧nl E E'∧V3 E' t v:=by
 have yc:ah (V2 E.frozen) eE vs:=⟨hs.1▸aw.1,fun i x u hx hu=>by
  have aQ:i<args.length:=by have:=(List.getElem?_eq_some_iff.1 hx).1;have:=hs.1;omega
  have au:=List.getElem?_eq_getElem aQ
  exact aaI sub aB bB (hs.2 i _ x au hx) (aw.2 i _ u au hu)⟩
 refine(h.2 E.frozen vs (fun _=>rfl) (Un aB) yc).mono ?_
 rintro e w' ⟨r,v,H',E1,rfl,ak,rfl,ag,fE,hv,a6⟩
 let N:Nat→Prop:=fun c=>E1.PF c∨E1.fW c
 have iY: ∀c,N c→E.w.heap.size≤c∧c<E1.w.heap.size:=by
  rintro c (hc | hc)
  ·exact⟨(a6.fS c hc).elim (fun h=>h.elim) id,fE.eh c (fE.dU c hc)⟩
  ·exact⟨(a6.qH c hc).elim (fun⟨b,hb⟩=>by cases hb) id,fE.gi c hc⟩
 have oJ: ∀c,c<E.w.heap.size→E1.w.heap[c]?=E.w.heap[c]?:=fun c hc=>a6.cT c hc (fun⟨b,hb⟩=>by cases hb) (fun⟨b,hb⟩=>by cases hb)
 let E':Env:={E with w:=E1.w,PA:=fun c=>E.PA c∨N c,PF:=fun c=>E.PF c∨N c}
 have U:nl E E':=
  {step:=⟨⟨fun c hc=> .inl hc,fun c hc=> .inl hc,fun c hc=>oJ c (aB.eh c hc),fun c hc=>oJ c (aB.eh c (aB.dU c hc)),fun _=>Nat.le_refl _,fun _ _ h _=>⟨h,rfl,rfl⟩,fun _ _ h=>h⟩,
    a6.os,a6.tape,a6.output,a6.size,fun c hc _ _=>oJ c hc,fun _ _ h=> .inl h,fun _ h=> .inl h,fun c hc=>hc.elim .inl (fun h=> .inr (iY c h).1),fun c hc=>hc.elim .inl (fun h=> .inr (iY c h).1)⟩
   m:=rfl,mL:=rfl,bk:=rfl,sz:=rfl,cp:=rfl
   cT:=oJ
   gn:=fun c hc=>hc.elim .inl (fun h=> .inr (iY c h))
   dU:=fun c hc=>hc.elim (fun h=> .inl (aB.dU c h)) .inr
   ga:=fun c hc=>hc.elim (fun h=>(aB.ga c h).same (oJ c (aB.eh c (aB.dU c h)))) (fun h=>by
    rcases h with h | ⟨b,hb⟩
    ·exact fE.ga c h
    ·obtain⟨_,an,ty,_,_,q,_⟩:=fE.heap b c hb
     exact⟨an,ty,q⟩)}
 have up: ∀{b:AV} {u:Value},a1 E1.w N N b u→b6 E' b u:=fun h=>a1.v1 (E:=E') (h.mono (fun _ _=>rfl) (fun _ _=>rfl) (fun c hc=> .inr hc) (fun c hc=> .inr hc))
 have c5: ∀{a b:AV} {u:Value},gT H' a b→b6 E1 a u→b6 E' b u:=fun aw hu=>up (aaK fE aw hu)
 have dP: ∀{a b:AV} {u:Value},xQ H' a b→V2 E1 a u→V2 E' b u:=by
  rintro a b u (⟨l,fH,rfl,rfl,ab⟩ | h) hu
  ·obtain⟨eX,rfl,U⟩:=hu
   refine⟨eX,rfl,ab.1▸U.1,fun i x y hx aU=> ?_⟩
   have aQ:i<l.length:=by have:=(List.getElem?_eq_some_iff.1 hx).1;have:=ab.1;omega
   have au:=List.getElem?_eq_getElem aQ
   exact c5 (ab.2 i _ x au hx) (U.2 i _ y au aU)
  ·have:b6 E1 a u:=by cases h<;>exact hu
   exact mS (c5 h this)
 have eJ: ∀{a b:AV} {u:Value},ie H' a b→V3 E1 a u→V3 E' b u:=by
  rintro a b u (⟨l,fH,rfl,rfl,ab⟩ | h) hu
  ·obtain⟨eX,rfl,U⟩:=hu
   refine⟨eX,rfl,ab.1▸U.1,fun i x y hx aU=> ?_⟩
   have aQ:i<l.length:=by have:=(List.getElem?_eq_some_iff.1 hx).1;have:=ab.1;omega
   have au:=List.getElem?_eq_getElem aQ
   exact dP (ab.2 i _ x au hx) (U.2 i _ y au aU)
  ·have:V2 E1 a u:=by
    rcases h with⟨l,fH,rfl,rfl,ab⟩ | h
    ·exact hu
    ·cases h<;>exact hu
   exact sT (dP h this)
 exact⟨v,E',rfl,rfl,U,eJ ak hv⟩
def K0:AV→Bool
 | .agg _ | .tup _ | .fn _ _=>false
 | _=>true
def EG (fn:Fn) (first:Array Operand) (caps:List AV) (K:AV→Prop):Prop:=match fn with
 | .func f=>if first.isEmpty=true∧caps.all K0=true then K (.fn f caps) else False
 | _=>False
def e_:AV→Bool
 | .tup _=>false
 | _=>true
def nr (x:AV) (K:FuncId→List AV→Prop):Prop:=match x with
 | .fn f caps=>K f caps
 | _=>False
def rh (P:Program) (f:FuncId) (args:List AV) (L:List (Nat×List AV)) (H:List Blk) (K:AV→Prop):Prop:=
 args.all e_=true∧ ∃eE t,ah (c6 L H) args eE∧bn P f eE t∧K t
def LI (P:Program) (c:Call) (bF:Operand→AV) (L:List (Nat×List AV)) (H:List Blk) (K:AV→Prop):Prop:=match c.callee with
 | .builtin .len=>(match c.args.toList,c.argTypes.toList with
  | [x],[t]=>fa (lb P t (bF x)) (vd (bF x) K)
  | _,_=>False)
 | .value f=>nr (bF f) fun g caps=>rh P g (c.args.toList.map bF++caps) L H K
 | _=>False
def vZ (P:Program) (o:Oper) (bF:Operand→AV) (L:List (Nat×List AV)) (H:List Blk) (K:AV→Prop):Prop:=match o.op with
 | .move x=>K (bF x)
 | .assign x=>K (bF x)
 | .pick c a b=>rf (bF c) fun z=>Dk z (K (bF a)) (K (bF b))
 | .build t ps=>fa (ps.toList.all fun p=>e_ (bF p.2)) (KX P t (ps.toList.map fun p=>(p.1,bF p.2)) K)
 | .buildSlice t n ps=>fa (ps.toList.all fun p=>e_ (bF p.2)) (Ah P t n (ps.toList.map fun p=>(p.1,bF p.2)) K)
 | .load t a=>rz P t (bF a) L H K
 | .nilCheck x=>OY (bF x) K
 | .binOp op t x y _=>vT P op t (bF x) (bF y) (tD y) K
 | .unOp op _ x=>JY op (bF x) K
 | .convert s d x=>Lq P s d (bF x) K
 | .makeFunc fn first caps=>EG fn first (caps.toList.map bF) K
 | .fieldAddr t x f=>LP P t (bF x) f K
 | .indexAddr t x i=>A2 P t (bF x) (bF i) H K
 | .index t x i=>M8 P t (bF x) (bF i) K
 | .slice t x lo hi mx=>(match mx with
  | none=>zo P t (bF x) (lo.map bF) (hi.map bF) H K
  | some _=>False)
 | .extract x i=>LL (bF x) i K
 | .call c=>LI P c bF L H K
 | _=>False
theorem R4 {P:Program} {o:Oper} {a:Act} {next:Act→World→Prop} {Q:Exit→Act→World→Prop} {s:Sem Value} {w w':World} {u:Value} (h:s.run P w= .ok u w') (k:next (a.put o.dst u) w'):
  o.upon P a next Q ((do pure (Next.value (←s)):Sem Next).run P w):=by
 rw[Sem.run_bind,h];exact k
theorem parts_eq (ps:Array (Nat×Operand)) (a:Act):(ps.toList.map fun p=>(p.1,a.eval p.2)).toArray=ps.map fun(i,x)=>(i,a.eval x):=by
 apply Array.ext'
 rw[Array.toList_map]
theorem O6 {E:Env} {a:Act} {T:List AV} (cd: ∀t,V3 E (T.getD t .undef) (a.tmps.getD t undef)) (ps:List (Nat×Operand)) (ag: ∀p∈ps,∀l,ci T p.2≠ .tup l):
  ah (fun(x:Nat×AV) (y:Nat×Value)=>x.1=y.1∧V2 E x.2 y.2) (ps.map fun p=>(p.1,ci T p.2)) (ps.map fun p=>(p.1,a.eval p.2)):=by
 refine⟨by simp,fun i x y hx aU=> ?_⟩
 rw[List.getElem?_map] at hx aU
 cases ab:ps[i]? with
 | none=>simp[ab] at hx
 | some p=>
  simp[ab] at hx aU
  subst hx;subst aU
  refine⟨rfl,?_⟩
  have:=opv_rel cd p.2
  rwa [rc (ag p (List.mem_of_getElem? ab))] at this
theorem SV {E:Env} {a:Act} {T:List AV} (cd: ∀t,V3 E (T.getD t .undef) (a.tmps.getD t undef)) (xs:List Operand) (ag: ∀x∈xs,∀l,ci T x≠ .tup l):
  ah (V2 E) (xs.map (ci T)) (xs.map a.eval):=by
 refine⟨by simp,fun i x y hx aU=> ?_⟩
 rw[List.getElem?_map] at hx aU
 cases ab:xs[i]? with
 | none=>simp[ab] at hx
 | some p=>
  simp[ab] at hx aU
  subst hx;subst aU
  have:=opv_rel cd p
  rwa [rc (ag p (List.mem_of_getElem? ab))] at this
theorem BA {a:AV} (h:e_ a=true): ∀l,a≠ .tup l:=by
 intro l e;subst e;cases h
theorem Y6 {E:Env} {a:Act} {T:List AV} (cd: ∀t,V3 E (T.getD t .undef) (a.tmps.getD t undef)) (x:Option Operand):
  F8 E (x.map (ci T)) (x.map a.eval):=by
 cases x with
 | none=>trivial
 | some x=>exact opv_rel cd x
theorem Ti {E:Env} {a:Act} {T:List AV} (cd: ∀t,V3 E (T.getD t .undef) (a.tmps.getD t undef)) {f:Operand} {g:FuncId} {caps:List AV} (h:ci T f= .fn g caps):
  ∃vs:List Value,a.eval f= .func (.func g) #[] vs.toArray∧ah (V2 E) caps vs:=by
 have:=opv_rel cd f
 rw[h] at this
 obtain⟨vs,e,ab⟩:=(show ∃vs:List Value,a.eval f= .func (.func g) #[] vs.toArray∧ah (ft E) caps vs from this)
 exact⟨vs,e,ab.mono fun _ _ k=>mS (KE k)⟩
theorem anz {P:Program} {f:FuncId} {w:World} {args:Array Value} (h:wY P f=true):(callFunc f args).run P w= .ok (.enter f args) w:=by
 unfold wY at h
 cases hf:P.funcs[f]? with
 | none=>simp[hf] at h
 | some fn=>
  simp[hf] at h
  obtain⟨h1,h2⟩:=h
  simp[callFunc,hf,h1]
  cases hb:fn.body with
  | none=>simp[hb] at h2
  | some c=>intro bt;cases bt
theorem aac {P:Program} {c:Call} {a:Act} {ty:TypeId} {f:Operand} {g:FuncId} {vs:List Value} {w:World} (hc:c.callee= .value f) (hf:a.eval f= .func (.func g) #[] vs.toArray) (h:wY P g=true):
  (do let d ←resolve a.eval c ty;invoke d.target d.args:Sem Next).run P w= .ok (.enter g (c.args.toList.map a.eval++vs).toArray) w:=by
 unfold resolve
 rw[hc]
 simp only[hf,Deferred.ofValue,Sem.run_bind,Sem.run_pure,Result.andThen_ok,invoke]
 rw[anz h]
 simp
def Dc (E:Env) (o:Oper) (a:Act) (K:AV→Prop):Act→World→Prop:=fun hB w'=> ∃v ea E',K v∧E'.w=w'∧nl E E'∧V3 E' v ea∧hB=a.put o.dst ea
set_option maxHeartbeats 4000000 in
theorem T0 {P:Program} {o:Oper} {a:Act} {T:List AV} {E:Env} {L lR:List (Nat×List AV)} {H fs:List Blk} {K:AV→Prop} {Q:Exit→Act→World→Prop}
  (cd: ∀t,V3 E (T.getD t .undef) (a.tmps.getD t undef)) (sub:Sub L H lR fs) (aB:SimH E fs) (bB:SimL E lR) (h:vZ P o (ci T) L H K):o.wp P a E.w (Dc E o a K) Q:=by
 have fin: ∀{s:Sem Value},(execOp a.eval o=(do pure (Next.value (←s))))→(∃r u E',K r∧s.run P E.w= .ok u E'.w∧nl E E'∧V3 E' r u)→o.wp P a E.w (Dc E o a K) Q:=by
  rintro s hs ⟨r,u,E',hK,ak,U,hv⟩
  unfold Oper.wp
  rw[hs]
  exact R4 ak ⟨r,u,E',hK,rfl,U,hv,rfl⟩
 have sa: ∀{s:Sem Value},(execOp a.eval o=(do pure (Next.value (←s))))→(∃r u,K r∧s.run P E.w= .ok u E.w∧V3 E r u)→o.wp P a E.w (Dc E o a K) Q:=by
  rintro s hs ⟨r,u,hK,ak,hv⟩
  exact fin hs ⟨r,u,E,hK,ak,nl.refl aB,hv⟩
 have EH: ∀x,execOp a.eval o=pure (.value (a.eval x))→K (ci T x)→o.wp P a E.w (Dc E o a K) Q:=by
  intro x hs hK
  unfold Oper.wp
  rw[hs]
  exact⟨_,_,E,hK,rfl,nl.refl aB,opv_rel cd x,rfl⟩
 obtain⟨dst,op,ty,pos,after,guard⟩:=o
 cases op with
 | move x=>exact EH x rfl h
 | assign x=>exact EH x rfl h
 | pick c x y=>
  obtain⟨b,hb,h1,h2⟩:=Gm (show rf (ci T c) fun z=>Dk z (K (ci T x)) (K (ci T y)) from h)
  have hv:=opv_rel cd c
  rw[hb] at hv
  have he:a.eval c= .bool b:=V3.qm hv
  cases b with
  | true=>exact EH x (by simp[execOp,he,asBool]) (h1 rfl)
  | false=>exact EH y (by simp[execOp,he,asBool]) (h2 rfl)
 | build t ps=>
  obtain⟨ag,h⟩:=sv h
  have:=aec (P:=P) (O6 cd ps.toList fun p ab=>BA (List.all_eq_true.1 ag p ab)) h
  exact sa (s:=Instr.build t (ps.toList.map fun p=>(p.1,a.eval p.2)).toArray) (by rw[parts_eq];rfl) this
 | buildSlice t n ps=>
  obtain⟨ag,h⟩:=sv h
  have:=Ta (P:=P) aB (O6 cd ps.toList fun p ab=>BA (List.all_eq_true.1 ag p ab)) h
  exact fin (s:=Instr.buildSlice t n (ps.toList.map fun p=>(p.1,a.eval p.2)).toArray) (by rw[parts_eq];rfl) this
 | load t x=>
  obtain⟨r,u,hK,ak,hv⟩:=Yi sub aB bB (opv_rel cd x) h
  exact sa (s:=Instr.loadAt t (a.eval x)) rfl ⟨r,u,hK,ak,sT hv⟩
 | nilCheck x=>
  have hx:=opv_rel cd x
  have h:OY (ci T x) K:=h
  have key: ∀nn,a.eval x= .pointer (some nn)→K (ci T x)→Oper.wp P ⟨dst,.nilCheck x,ty,pos,after,guard⟩ a E.w (Dc E ⟨dst,.nilCheck x,ty,pos,after,guard⟩ a K) Q:=by
   intro nn he hK
   exact EH x (by simp[execOp,he]) hK
  cases iC:ci T x with
  | fZ s c=>
   rw[iC] at hx h
   obtain⟨bl,_,e⟩:=hx.EE
   exact key _ e (by rw[iC];exact h)
  | ptr b g r c=>
   rw[iC] at hx h
   rcases(show ft E (.ptr b g r c) _ from hx) with⟨_,bl,o,e⟩ | ⟨_,bl,_,e⟩<;>exact key _ e (by rw[iC];exact h)
  | dv cells c=>
   rw[iC] at hx h
   have jL:a1 E.w E.PA E.PF (.dv cells c) (a.eval x):=hx
   generalize hv:a.eval x=v at jL
   cases jL;exact key _ hv (by rw[iC];exact h)
  | _=>rw[iC] at h;exact h.elim
 | binOp op t x y ty2=>
  have M4:tD y=true→a.eval y= .slice none 0 0:=by
   intro bt
   unfold tD at bt
   split at bt
   ·rfl
   ·cases bt
  exact sa (s:=do eqGuard op t x y (a.eval x) (a.eval y);binOp op t (a.eval x) (a.eval y)) rfl (ad3 (opv_rel cd x) (opv_rel cd y) M4 h)
 | unOp op t x=>exact sa (s:=Op.unary op (a.eval x)) rfl (aqb (opv_rel cd x) h)
 | convert s d x=>exact sa (s:=Go.convert s d (a.eval x)) rfl (ae9 (opv_rel cd x) h)
 | makeFunc fn first caps=>
  replace h:EG fn first (caps.toList.map (ci T)) K:=h
  cases fn with
  | func f=>
   replace h:if first.isEmpty=true∧(caps.toList.map (ci T)).all K0=true then K (.fn f (caps.toList.map (ci T))) else False:=h
   split at h
   ·rename_i hc
    obtain⟨h1,h2⟩:=hc
    have hf:first= #[]:=by simpa using h1
    subst hf
    refine sa (s:=Instr.makeFunc (.func f) (Array.map a.eval #[]) (caps.map a.eval)) rfl ⟨_,.func (.func f) #[] (caps.map a.eval),h,by simp[Instr.makeFunc],(caps.toList.map a.eval),by rw[←Array.toList_map,Array.toArray_toList],by simp,fun i x y hx aU=> ?_⟩
    rw[List.getElem?_map] at hx aU
    cases ab:caps.toList[i]? with
    | none=>simp[ab] at hx
    | some p=>
     simp[ab] at hx aU
     subst hx;subst aU
     have hv:=opv_rel cd p
     have gk:K0 (ci T p)=true:=List.all_eq_true.1 h2 _ (List.mem_map.2 ⟨p,List.mem_of_getElem? ab,rfl⟩)
     cases U:ci T p<;>rw[U] at hv gk<;>first | exact hv | cases gk
   ·exact h.elim
  | _=>exact h.elim
 | fieldAddr t x f=>exact sa (s:=Instr.fieldAt t (a.eval x) f) rfl (afI (opv_rel cd x) h)
 | indexAddr t x i=>exact sa (s:=Instr.indexAt t (a.eval x) (a.eval i)) rfl (aiI sub aB (opv_rel cd x) (opv_rel cd i) h)
 | index t x i=>exact sa (s:=Instr.index t (a.eval x) (a.eval i)) rfl (aiR (opv_rel cd x) (opv_rel cd i) h)
 | slice t x lo hi mx=>
  cases mx with
  | none=>exact sa (s:=Instr.sliceAt t (a.eval x) (lo.map a.eval) (hi.map a.eval) none) rfl (anZ sub aB (opv_rel cd x) (Y6 cd lo) (Y6 cd hi) h)
  | some m=>exact h.elim
 | extract x i=>exact sa (s:=Instr.extract (a.eval x) i) rfl (afD (opv_rel cd x) h)
 | call c=>
  have h:LI P c (ci T) L H K:=h
  obtain⟨callee,args,argTypes⟩:=c
  cases callee with
  | builtin b=>
   cases b with
   | len=>
    have h:(match args.toList,argTypes.toList with
     | [x],[t]=>fa (lb P t (ci T x)) (vd (ci T x) K)
     | _,_=>False):=h
    split at h
    ·rename_i x t h1 h2
     obtain⟨ah1,ah2⟩:=sv h
     obtain rfl:args= #[x]:=by rw[←Array.toArray_toList (xs:=args),h1]
     obtain rfl:argTypes= #[t]:=by rw[←Array.toArray_toList (xs:=argTypes),h2]
     obtain⟨r,u,hK,ak,hv⟩:=alI (P:=P) (ty:=ty) (opv_rel cd x) ah1 ah2
     unfold Oper.wp
     have:(execOp a.eval ⟨dst,.call ⟨.builtin .len,#[x],#[t]⟩,ty,pos,after,guard⟩).run P E.w= .ok (.value u) E.w:=by
      simp only[execOp,resolve,Sem.run_bind,Sem.run_pure,Result.andThen_ok,invoke,builtin]
      have e:Array.map a.eval #[x]= #[a.eval x]:=by simp
      rw[e,ak];rfl
     rw[this]
     exact⟨r,u,E,hK,rfl,nl.refl aB,hv,rfl⟩
    ·exact h.elim
   | _=>exact h.elim
  | value f=>
   have h:nr (ci T f) fun g caps=>rh P g (args.toList.map (ci T)++caps) L H K:=h
   cases hf:ci T f with
   | fn g caps=>
    rw[hf] at h
    obtain⟨ag,eE,t,hs,sk,hK⟩:=(show rh P g (args.toList.map (ci T)++caps) L H K from h)
    obtain⟨vs,he,yi⟩:=Ti cd hf
    unfold Oper.wp
    rw[show execOp a.eval ⟨dst,.call ⟨.value f,args,argTypes⟩,ty,pos,after,guard⟩=(do let d ←resolve a.eval ⟨.value f,args,argTypes⟩ ty;invoke d.target d.args) from rfl]
    rw[aac (P:=P) (ty:=ty) (w:=E.w) (c:=⟨.value f,args,argTypes⟩) rfl he sk.1]
    have Mj:ah (V2 E) (args.toList.map (ci T)++caps) (args.toList.map a.eval++vs):=
     ah.append (SV cd args.toList fun x hx=>BA (List.all_eq_true.1 ag _ (by simp;exact .inl ⟨x,by simpa using hx,rfl⟩))) yi
    refine(Th sub aB bB Mj hs sk).mono ?_
    rintro e w' ⟨v,E',rfl,rfl,U,hv⟩
    exact⟨t,v,E',hK,rfl,U,hv,rfl⟩
   | _=>rw[hf] at h;exact h.elim
  | _=>exact h.elim
 | _=>exact h.elim
theorem aff (w:World) (o:Obj) (c:Nat) (h:c<w.heap.size):(w.drew.alloc o).heap[c]?=w.heap[c]?:=uy w.drew o c h
structure pn (w w':World) (o:Obj):Prop where
 os:w'.os=w.os
 tape:w'.tape=w.tape
 output:w'.output=w.output
 size:w'.heap.size=w.heap.size+1
 jx: ∀c,c<w.heap.size→w'.heap[c]?=w.heap[c]?
 new:w'.heap[w.heap.size]?=some o
theorem pn.alloc (w:World) (o:Obj):pn w (w.alloc o) o:=⟨rfl,rfl,rfl,by simp,fun c hc=>uy w o c hc,vO w o⟩
theorem pn.afe (w:World) (o:Obj):pn w (w.drew.alloc o) o:=⟨rfl,rfl,rfl,by simp,fun c hc=>aff w o c hc,vO w.drew o⟩
theorem SimH.ext {E:Env} {H H':List Blk} (h:SimH E H) (hs: ∀(b:Nat) (blk:Blk),H[b]?=some blk→H'[b]?=some blk) (au:H.length≤H'.length) (az: ∀(b:Nat) (blk:Blk),H.length≤b→H'[b]?=some blk→blk.bk=0):SimH E H':=
 {h with
  heap:=fun b c hb=>by
   obtain⟨blk,an,ty,q1,q⟩:=h.heap b c hb
   exact⟨blk,an,ty,hs b blk q1,q⟩
  ff:=fun b blk hb=>by
   rcases Nat.lt_or_ge b H.length with aQ | gO
   ·have h1:=List.getElem?_eq_getElem aQ
    have h2:=hs b _ h1
    rw[hb] at h2
    cases h2
    exact h.ff b _ h1
   ·rw[(h.fresh b gO).2,az b blk gO hb]
  h6:=fun b hb=>by
   obtain⟨blk,q1,q⟩:=h.h6 b hb
   exact⟨blk,hs b blk q1,q⟩
  fresh:=fun b hb=>h.fresh b (Nat.le_trans au hb)}
theorem SimH.snoc {E:Env} {H:List Blk} (h:SimH E H) {blk:Blk} (az:blk.bk=0):SimH E (H++[blk]):=
 h.ext (fun b x hb=>by rw[List.getElem?_append_left (List.getElem?_eq_some_iff.1 hb).1];exact hb) (by simp) (fun b x hb hx=>by
  rw[List.getElem?_append_right hb] at hx
  have:b - H.length=0:=by
   rcases Nat.eq_zero_or_pos (b - H.length) with q | q
   ·exact q
   ·rw[List.getElem?_eq_none (by simp;omega)] at hx;cases hx
  rw[this] at hx;cases hx;exact az)
theorem SimL.cons {E:Env} {L:List (Nat×List AV)} (h:SimL E L) {t:Nat} {cells:List AV} (ag:E.mL t=none):SimL E ((t,cells)::L):=fun s c hm=>by
 have:s≠t:=fun e=>by subst e;rw[ag] at hm;cases hm
 simp only[eV,if_neg this]
 exact h s c hm
theorem YN {E:Env} {H:List Blk} {L:List (Nat×List AV)} {w':World} {an:Array Value} {ty:TypeId} {t:Nat} {cells:List AV} (aB:SimH E H) (bB:SimL E L) (hw:pn E.w w' (.cells an ty (0,0)))
  (aO:eV L t=some cells) (hm:E.mL t=none) (hc:ah (b6 E.bS) cells an.toList):
  ∃E',E'.w=w'∧Step E E'∧SimH E' H∧SimL E' L∧V3 E' (.fZ t 0) (.pointer (some ⟨E.w.heap.size,0,none⟩))∧E'.m=E.m∧(∀s,s≠t→E'.mL s=E.mL s):=by
 let E':Env:={E with w:=w',mL:=fun s=>if s=t then some E.w.heap.size else E.mL s}
 have a6:Step E E':=
  {le:=⟨fun _ h=>h,fun _ h=>h,fun c hc=>hw.jx c (aB.eh c hc),fun c hc=>hw.jx c (aB.eh c (aB.dU c hc)),fun _=>Nat.le_refl _,fun _ _ h _=>⟨h,rfl,rfl⟩,fun s c h=>by
    show(if s=t then _ else _)=_
    rw[if_neg (fun e=>by subst e;rw[hm] at h;cases h)];exact h⟩
   os:=hw.os,tape:=hw.tape,output:=hw.output
   size:=by show E.w.heap.size≤w'.heap.size;rw[hw.size];omega
   cT:=fun c hc _ _=>hw.jx c hc
   kl:=fun _ _ h=> .inl h
   kR:=fun c ⟨s,hs⟩=>by
    have hs:(if s=t then some E.w.heap.size else E.mL s)=some c:=hs
    split at hs
    ·cases hs;exact .inr (Nat.le_refl _)
    ·exact .inl ⟨s,hs⟩
   gn:=fun _ h=> .inl h
   fS:=fun _ h=> .inl h}
 have hml: ∀s c,E'.mL s=some c→(s=t∧c=E.w.heap.size)∨(s≠t∧E.mL s=some c):=by
  intro s c hs
  have hs:(if s=t then some E.w.heap.size else E.mL s)=some c:=hs
  split at hs
  ·rename_i e;cases hs;exact .inl ⟨e,rfl⟩
  ·rename_i e;exact .inr ⟨e,hs⟩
 have lz:=aB.gi
 have lA:=aB.hl
 refine⟨E',rfl,a6,?_,?_,⟨E.w.heap.size,by show(if t=t then _ else _)=_;rw[if_pos rfl],rfl⟩,rfl,fun s hs=>if_neg hs⟩
 ·exact{
   heap:=fun b c hb=>by
    obtain⟨blk,b5,jE,q1,cG,q2,q3,q4,cQ,c0⟩:=aB.heap b c hb
    refine⟨blk,b5,jE,q1,cG,?_,q3,q4,cQ,fun i j row a ak ac=> ?_⟩
    ·show w'.heap[c]?=_;rw[hw.jx c (lz c ⟨b,hb⟩)];exact q2
    ·obtain⟨u,hu,fm⟩:=c0 i j row a ak ac
     exact⟨u,hu,fm.le a6.le.bS⟩
   ff:=aB.ff
   h6:=aB.h6
   fresh:=aB.fresh
   gV:=aB.gV
   kT:=fun s s' c h1 h2=>by
    rcases hml s c h1 with⟨d1,aN⟩ | ⟨_,c_⟩<;>rcases hml s' c h2 with⟨d2,e2⟩ | ⟨_,hj⟩
    ·rw[d1,d2]
    ·have:=lA c ⟨s',hj⟩;omega
    ·have:=lA c ⟨s,c_⟩;omega
    ·exact aB.kT s s' c c_ hj
   ht:=fun b s c h1 h2=>by
    rcases hml s c h2 with⟨rfl,rfl⟩ | ⟨_,h2⟩
    ·have:=lz _ ⟨b,h1⟩;omega
    ·exact aB.ht b s c h1 h2
   iG:=aB.iG
   jv:=fun c hc ⟨s,hs⟩=>by
    rcases hml s c hs with⟨rfl,rfl⟩ | ⟨_,hs⟩
    ·have:=aB.eh _ hc;omega
    ·exact aB.jv c hc ⟨s,hs⟩
   dU:=aB.dU
   ga:=fun c hc=>(aB.ga c hc).same (hw.jx c (aB.eh c (aB.dU c hc)))
   eh:=fun c hc=>Nat.lt_of_lt_of_le (aB.eh c hc) a6.size
   gi:=fun c hc=>Nat.lt_of_lt_of_le (lz c hc) a6.size
   hl:=fun c ⟨s,hs⟩=>by
    rcases hml s c hs with⟨rfl,rfl⟩ | ⟨_,hs⟩
    ·show _<w'.heap.size;rw[hw.size];omega
    ·exact Nat.lt_of_lt_of_le (lA c ⟨s,hs⟩) a6.size}
 ·intro s c hs
  rcases hml s c hs with⟨rfl,rfl⟩ | ⟨_,hs⟩
  ·exact⟨cells,an,ty,aO,hw.new,hc.mono fun _ _ k=>k.le a6.le.bS⟩
  ·obtain⟨hD,b5,jE,q1,q2,q3⟩:=bB s c hs
   exact⟨hD,b5,jE,q1,by show w'.heap[c]?=_;rw[hw.jx c (lA c ⟨s,hs⟩)];exact q2,q3.mono fun _ _ k=>k.le a6.le.bS⟩
theorem Bx {E:Env} {H H':List Blk} {L:List (Nat×List AV)} {w':World} {an:Array Value} {ty:TypeId} {b cap:Nat} {blk:Blk} (aB:SimH E H) (bB:SimL E L) (hw:pn E.w w' (.cells an ty (0,0)))
  (hb:H'[b]?=some blk) (aj: ∀b4,b4≠b→H'[b4]?=H[b4]?) (hlen:b<H.length→H'.length=H.length) (HG:H.length≤H'.length)
  (lv:(E.m b=none∧blk.bk=E.bk b)∨E.bk b<blk.bk) (mj:an.size=cap*blk.sz) (fl:blk.rows.length≤cap)
  (ak:zX E blk.sz blk.rows an):
  ∃E',E'.w=w'∧Step E E'∧SimH E' H'∧SimL E' L∧E'.bk b=blk.bk∧E'.m b=some (some E.w.heap.size)∧E'.sz b=blk.sz∧E'.cp b=cap∧(∀b4,b4≠b→E'.m b4=E.m b4)∧E'.mL=E.mL:=by
 let E':Env:={E with w:=w',m:=fun b4=>if b4=b then some (some E.w.heap.size) else E.m b4,bk:=fun b4=>if b4=b then blk.bk else E.bk b4,sz:=fun b4=>if b4=b then blk.sz else E.sz b4,cp:=fun b4=>if b4=b then cap else E.cp b4}
 have a6:Step E E':=
  {le:=⟨fun _ h=>h,fun _ h=>h,fun c hc=>hw.jx c (aB.eh c hc),fun c hc=>hw.jx c (aB.eh c (aB.dU c hc)),fun b4=>by
     show _≤(if b4=b then _ else _)
     split
     ·rename_i e;subst e;rcases lv with⟨_,e⟩ | e<;>omega
     ·exact Nat.le_refl _,fun b4 x hx az=>by
     have sl:(if b4=b then blk.bk else E.bk b4)=E.bk b4:=az
     have b7:b4≠b:=fun e=>by
      subst e
      rw[if_pos rfl] at sl
      rcases lv with⟨ag,_⟩ | e
      ·rw[ag] at hx;cases hx
      ·omega
     refine⟨?_,?_,?_⟩
     ·show(if b4=b then _ else _)=_;rw[if_neg b7];exact hx
     ·show(if b4=b then _ else _)=_;rw[if_neg b7]
     ·show(if b4=b then _ else _)=_;rw[if_neg b7],fun _ _ h=>h⟩
   os:=hw.os,tape:=hw.tape,output:=hw.output
   size:=by show E.w.heap.size≤w'.heap.size;rw[hw.size];omega
   cT:=fun c hc _ _=>hw.jx c hc
   kl:=fun s c hs=>by
    have hs:(if s=b then some (some E.w.heap.size) else E.m s)=some (some c):=hs
    split at hs
    ·cases hs;exact .inr (Nat.le_refl _)
    ·exact .inl hs
   kR:=fun _ h=> .inl h
   gn:=fun _ h=> .inl h
   fS:=fun _ h=> .inl h}
 have hm: ∀s c,E'.m s=some (some c)→(s=b∧c=E.w.heap.size)∨(s≠b∧E.m s=some (some c)):=by
  intro s c hs
  have hs:(if s=b then some (some E.w.heap.size) else E.m s)=some (some c):=hs
  split at hs
  ·rename_i e;cases hs;exact .inl ⟨e,rfl⟩
  ·rename_i e;exact .inr ⟨e,hs⟩
 have lz:=aB.gi
 have lA:=aB.hl
 have cn: ∀s,s≠b→E'.sz s=E.sz s:=fun s hs=>if_neg hs
 have tf: ∀s,s≠b→E'.cp s=E.cp s:=fun s hs=>if_neg hs
 have HS:E'.sz b=blk.sz:=if_pos rfl
 have Ms:E'.cp b=cap:=if_pos rfl
 have U9:E'.bk b=blk.bk:=if_pos rfl
 refine⟨E',rfl,a6,?_,?_,U9,if_pos rfl,HS,Ms,fun b4 ev=>if_neg ev,rfl⟩
 ·exact{
   heap:=fun s c hs=>by
    rcases hm s c hs with⟨rfl,rfl⟩ | ⟨b7,hs⟩
    ·refine⟨blk,an,ty,hb,HS,hw.new,by rw[Ms,HS];exact mj,by rw[Ms];exact fl,?_⟩
     rw[HS]
     exact⟨ak.1,fun i j row a h1 h2=>by obtain⟨u,hu,fm⟩:=ak.2 i j row a h1 h2;exact⟨u,hu,fm.le a6.le.bS⟩⟩
    ·obtain⟨blk',b5,jE,q1,cG,q2,q3,q4,cQ,c0⟩:=aB.heap s c hs
     refine⟨blk',b5,jE,by rw[aj s b7];exact q1,by rw[cn s b7];exact cG,?_,by rw[tf s b7,cn s b7];exact q3,by rw[tf s b7];exact q4,by rw[cn s b7];exact cQ,fun i j row a ak ac=> ?_⟩
     ·show w'.heap[c]?=_;rw[hw.jx c (lz c ⟨s,hs⟩)];exact q2
     ·obtain⟨u,hu,fm⟩:=c0 i j row a ak ac
      exact⟨u,by rw[cn s b7];exact hu,fm.le a6.le.bS⟩
   ff:=fun s x hs=>by
    by_cases e:s=b
    ·subst e;rw[hb] at hs;cases hs;exact U9
    ·rw[aj s e] at hs
     show(if s=b then _ else _)=_
     rw[if_neg e];exact aB.ff s x hs
   h6:=fun s hs=>by
    have hs:(if s=b then some (some E.w.heap.size) else E.m s)=some none:=hs
    split at hs
    ·cases hs
    ·rename_i e
     obtain⟨x,q1,q2⟩:=aB.h6 s hs
     exact⟨x,by rw[aj s e];exact q1,by rw[cn s e];exact q2⟩
   fresh:=fun s hs=>by
    have aQ:b<H'.length:=(List.getElem?_eq_some_iff.1 hb).1
    have e:s≠b:=by omega
    have:=aB.fresh s (by omega)
    exact⟨by show(if s=b then _ else _)=_;rw[if_neg e];exact this.1,by show(if s=b then _ else _)=_;rw[if_neg e];exact this.2⟩
   gV:=fun s s' c h1 h2=>by
    rcases hm s c h1 with⟨d1,aN⟩ | ⟨_,c_⟩<;>rcases hm s' c h2 with⟨d2,e2⟩ | ⟨_,hj⟩
    ·rw[d1,d2]
    ·have:=lz c ⟨s',hj⟩;omega
    ·have:=lz c ⟨s,c_⟩;omega
    ·exact aB.gV s s' c c_ hj
   kT:=aB.kT
   ht:=fun s t c h1 h2=>by
    rcases hm s c h1 with⟨rfl,rfl⟩ | ⟨_,h1⟩
    ·have:=lA _ ⟨t,h2⟩;omega
    ·exact aB.ht s t c h1 h2
   iG:=fun c hc ⟨s,hs⟩=>by
    rcases hm s c hs with⟨rfl,rfl⟩ | ⟨_,hs⟩
    ·have:=aB.eh _ hc;omega
    ·exact aB.iG c hc ⟨s,hs⟩
   jv:=aB.jv
   dU:=aB.dU
   ga:=fun c hc=>(aB.ga c hc).same (hw.jx c (aB.eh c (aB.dU c hc)))
   eh:=fun c hc=>Nat.lt_of_lt_of_le (aB.eh c hc) a6.size
   gi:=fun c ⟨s,hs⟩=>by
    rcases hm s c hs with⟨rfl,rfl⟩ | ⟨_,hs⟩
    ·show _<w'.heap.size;rw[hw.size];omega
    ·exact Nat.lt_of_lt_of_le (lz c ⟨s,hs⟩) a6.size
   hl:=fun c hc=>Nat.lt_of_lt_of_le (lA c hc) a6.size}
 ·intro s c hs
  obtain⟨hD,b5,jE,q1,q2,q3⟩:=bB s c hs
  exact⟨hD,b5,jE,q1,by show w'.heap[c]?=_;rw[hw.jx c (lA c ⟨s,hs⟩)];exact q2,q3.mono fun _ _ k=>k.le a6.le.bS⟩
theorem Z3 {E:Env} {H:List Blk} {L:List (Nat×List AV)} {w':World} {b:Nat} {x:Option Nat} {blk blk':Blk} (aB:SimH E H) (bB:SimL E L)
  (hm:E.m b=some x) (hb:H[b]?=some blk) (az:blk'.bk=blk.bk+1) (nX:blk'.sz=blk.sz)
  (aj:w'.os=E.w.os) (air:w'.tape=E.w.tape) (ah7:w'.output=E.w.output) (cn:w'.heap.size=E.w.heap.size)
  (hw: ∀c,x≠some c→w'.heap[c]?=E.w.heap[c]?)
  (hx: ∀c,x=some c→ ∃an ty,w'.heap[c]?=some (.cells an ty (0,0))∧an.size=E.cp b*E.sz b∧blk'.rows.length≤E.cp b∧zX E (E.sz b) blk'.rows an):
  ∃E',E'.w=w'∧Step E E'∧SimH E' (H.set b blk')∧SimL E' L∧E'.bk b=blk'.bk∧E'.m=E.m∧E'.sz=E.sz∧E'.cp=E.cp∧E'.mL=E.mL:=by
 let E':Env:={E with w:=w',bk:=fun b4=>if b4=b then blk'.bk else E.bk b4}
 have lv:=aB.ff b blk hb
 have b7: ∀c,E.PA c→x≠some c:=fun c hc e=>aB.iG c hc ⟨b,by rw[hm,e]⟩
 have a6:Step E E':=
  {le:=⟨fun _ h=>h,fun _ h=>h,fun c hc=>hw c (b7 c hc),fun c hc=>hw c (b7 c (aB.dU c hc)),fun b4=>by
     show _≤(if b4=b then _ else _)
     split
     ·rename_i e;subst e;omega
     ·exact Nat.le_refl _,fun b4 y aU ahN=>by
     have sl:(if b4=b then blk'.bk else E.bk b4)=E.bk b4:=ahN
     have AQ:b4≠b:=fun e=>by subst e;rw[if_pos rfl] at sl;omega
     exact⟨aU,rfl,rfl⟩,fun _ _ h=>h⟩
   os:=aj,tape:=air,output:=ah7
   size:=by show E.w.heap.size≤w'.heap.size;rw[cn];exact Nat.le_refl _
   cT:=fun c hc h1 _=>hw c (fun e=>h1 ⟨b,by rw[hm,e]⟩)
   kl:=fun _ _ h=> .inl h
   kR:=fun _ h=> .inl h
   gn:=fun _ h=> .inl h
   fS:=fun _ h=> .inl h}
 have te:b<H.length:=(List.getElem?_eq_some_iff.1 hb).1
 refine⟨E',rfl,a6,?_,?_,if_pos rfl,rfl,rfl,rfl,rfl⟩
 ·exact{aB with
   ga:=fun cv mi=>(aB.ga cv mi).same (a6.le.wf cv mi)
   heap:=fun s c hs=>by
    by_cases e:s=b
    ·subst e
     have VE:x=some c:=by
      have:E.m s=some (some c):=hs
      rw[hm] at this;exact Option.some.inj this
     obtain⟨Dm,aq1,art,q1,cG,q⟩:=aB.heap s c (by rw[hm,VE])
     obtain rfl:blk=Dm:=by rw[hb] at q1;exact Option.some.inj q1
     obtain⟨an,ty,h1,h2,aC,bg⟩:=hx c VE
     exact⟨blk',an,ty,by rw[List.getElem?_set_self te],cG.trans nX.symm,h1,h2,aC,bg.1,fun i j row a ak ac=>by
      obtain⟨u,hu,fm⟩:=bg.2 i j row a ak ac;exact⟨u,hu,fm.le a6.le.bS⟩⟩
    ·obtain⟨Dm,b5,jE,q1,cG,q2,q3,q4,cQ,c0⟩:=aB.heap s c hs
     refine⟨Dm,b5,jE,by rw[List.getElem?_set_ne (fun h=>e h.symm)];exact q1,cG,?_,q3,q4,cQ,fun i j row a ak ac=> ?_⟩
     ·show w'.heap[c]?=_
      rw[hw c (fun h=>e (aB.gV s b c hs (by rw[hm,h])))];exact q2
     ·obtain⟨u,hu,fm⟩:=c0 i j row a ak ac
      exact⟨u,hu,fm.le a6.le.bS⟩
   ff:=fun s y hs=>by
    by_cases e:s=b
    ·subst e;rw[List.getElem?_set_self te] at hs;cases hs;exact if_pos rfl
    ·rw[List.getElem?_set_ne (fun h=>e h.symm)] at hs
     show(if s=b then _ else _)=_
     rw[if_neg e];exact aB.ff s y hs
   h6:=fun s hs=>by
    obtain⟨y,q1,q2⟩:=aB.h6 s hs
    by_cases e:s=b
    ·subst e
     obtain rfl:blk=y:=by rw[hb] at q1;exact Option.some.inj q1
     exact⟨blk',by rw[List.getElem?_set_self te],q2.trans nX.symm⟩
    ·exact⟨y,by rw[List.getElem?_set_ne (fun h=>e h.symm)];exact q1,q2⟩
   fresh:=fun s hs=>by
    rw[List.length_set] at hs
    have e:s≠b:=by omega
    have:=aB.fresh s hs
    exact⟨this.1,by show(if s=b then _ else _)=_;rw[if_neg e];exact this.2⟩
   eh:=fun c hc=>Nat.lt_of_lt_of_le (aB.eh c hc) a6.size
   gi:=fun c hc=>Nat.lt_of_lt_of_le (aB.gi c hc) a6.size
   hl:=fun c hc=>Nat.lt_of_lt_of_le (aB.hl c hc) a6.size}
 ·intro s c hs
  obtain⟨hD,b5,jE,q1,q2,q3⟩:=bB s c hs
  refine⟨hD,b5,jE,q1,?_,q3.mono fun _ _ k=>k.le a6.le.bS⟩
  show w'.heap[c]?=_
  rw[hw c (fun e=>aB.ht b s c (by rw[hm,e]) hs)];exact q2
theorem IN {E:Env} {H:List Blk} {L:List (Nat×List AV)} {blk:Blk} (aB:SimH E H) (bB:SimL E L) (az:blk.bk=0) (ak:blk.rows=[]):
  ∃E',E'.w=E.w∧Step E E'∧SimH E' (H++[blk])∧SimL E' L∧E'.bk H.length=0∧E'.m H.length=some none∧(∀b,b≠H.length→E'.m b=E.m b)∧E'.mL=E.mL:=by
 have hs:=aB.snoc az
 have ag:=aB.fresh H.length (Nat.le_refl _)
 let E':Env:={E with m:=fun b=>if b=H.length then some none else E.m b,sz:=fun b=>if b=H.length then blk.sz else E.sz b}
 have uR: ∀b c,E'.m b=some (some c)→E.m b=some (some c)∧b≠H.length:=by
  intro b c h
  have h:(if b=H.length then some none else E.m b)=some (some c):=h
  split at h
  ·cases h
  ·exact⟨h,by assumption⟩
 have a6:Step E E':=
  {le:=⟨fun _ h=>h,fun _ h=>h,fun _ _=>rfl,fun _ _=>rfl,fun _=>Nat.le_refl _,fun b x hx _=>by
     have b7:b≠H.length:=fun e=>by subst e;rw[ag.1] at hx;cases hx
     exact⟨by show(if b=H.length then _ else _)=_;rw[if_neg b7];exact hx,by show(if b=H.length then _ else _)=_;rw[if_neg b7],rfl⟩,fun _ _ h=>h⟩
   os:=rfl,tape:=rfl,output:=rfl,size:=Nat.le_refl _
   cT:=fun _ _ _ _=>rfl
   kl:=fun b c h=> .inl (uR b c h).1
   kR:=fun _ h=> .inl h
   gn:=fun _ h=> .inl h
   fS:=fun _ h=> .inl h}
 refine⟨E',rfl,a6,?_,fun s c hm=> ?_,ag.2,if_pos rfl,fun b hb=>if_neg hb,rfl⟩
 ·exact{hs with
   heap:=fun b c h=>by
    obtain⟨h,b7⟩:=uR b c h
    obtain⟨Dm,b5,jE,q1,cG,q2,q3,q4,cQ,c0⟩:=hs.heap b c h
    have cn:E'.sz b=E.sz b:=if_neg b7
    exact⟨Dm,b5,jE,q1,by rw[cn];exact cG,q2,by rw[cn];exact q3,q4,by rw[cn];exact cQ,fun i j row a ak ac=>by
     obtain⟨u,hu,fm⟩:=c0 i j row a ak ac
     exact⟨u,by rw[cn];exact hu,fm.le a6.le.bS⟩⟩
   h6:=fun b h=>by
    by_cases e:b=H.length
    ·subst e
     exact⟨blk,by simp,if_pos rfl⟩
    ·have h:E.m b=some none:=by
      have h:(if b=H.length then some none else E.m b)=some none:=h
      rwa [if_neg e] at h
     obtain⟨y,q1,q2⟩:=hs.h6 b h
     exact⟨y,q1,by show(if b=H.length then _ else _)=_;rw[if_neg e];exact q2⟩
   fresh:=fun b h=>by
    have:=hs.fresh b h
    have e:b≠H.length:=by simp at h;omega
    exact⟨by show(if b=H.length then _ else _)=_;rw[if_neg e];exact this.1,this.2⟩
   gV:=fun b b4 c h1 h2=>hs.gV b b4 c (uR b c h1).1 (uR b4 c h2).1
   ht:=fun b t c h1 h2=>hs.ht b t c (uR b c h1).1 h2
   iG:=fun c hc ⟨b,h⟩=>hs.iG c hc ⟨b,(uR b c h).1⟩
   gi:=fun c ⟨b,h⟩=>hs.gi c ⟨b,(uR b c h).1⟩}
 ·obtain⟨hD,b5,jE,q1,q2,q3⟩:=bB s c hm
  exact⟨hD,b5,jE,q1,q2,q3.mono fun _ _ k=>k.le a6.le.bS⟩
def E3 (fr:Bool) (row:List AV):List AV:=match fr with
 | true=>row.map rH
 | false=>row
def m9 (fr:Bool) (rows:List (List AV)):List (List AV):=match fr with
 | true=>rows.map fun row=>row.map rH
 | false=>rows
theorem ann (fr:Bool) (rows:List (List AV)):m9 fr rows=rows.map (E3 fr):=by
 cases fr
 ·show rows=rows.map fun row=>row
  simp
 ·rfl
theorem anm (fr:Bool) (row:List AV):(E3 fr row).length=row.length:=by
 cases fr<;>simp[E3]
def rowsOf (H:List Blk) (x:AV):Option (List (List AV)):=match x with
 | .aP rows _ fr=>some (m9 fr rows)
 | .ref b g off n _=>(H[b]?).bind fun blk=>if blk.bk=g∧off+n≤blk.rows.length then some ((blk.rows.drop off).take n) else none
 | .str s=>some (s.data.toList.map fun c=>[.int .u8 c.toNat])
 | _=>none
def Z_ (H:List Blk) (x:AV) (K:List (List AV)→Prop):Prop:=match x with
 | .aP rows _ fr=>K (m9 fr rows)
 | .ref b g off n _=>cZ H[b]? fun blk=>blk.bk=g∧off+n≤blk.rows.length∧K ((blk.rows.drop off).take n)
 | .str s=>K (s.data.toList.map fun c=>[.int .u8 c.toNat])
 | _=>False
theorem anu {H:List Blk} {x:AV} {K:List (List AV)→Prop} (h:Z_ H x K): ∃cb,rowsOf H x=some cb∧K cb:=by
 cases x with
 | aP rows full fr=>exact⟨_,rfl,h⟩
 | ref b g off n full=>
  obtain⟨blk,hb,h1,h2,aC⟩:=f_ (show cZ H[b]? fun blk=>blk.bk=g∧off+n≤blk.rows.length∧K ((blk.rows.drop off).take n) from h)
  exact⟨_,by show(H[b]?).bind _=_;rw[hb];show(if blk.bk=g∧off+n≤blk.rows.length then _ else _)=_;rw[if_pos ⟨h1,h2⟩],aC⟩
 | str s=>exact⟨_,rfl,h⟩
 | _=>exact h.elim
def xX (P:Program) (e t2:TypeId) (x:AV):Bool:=match x with
 | .str _=>(match P.underlying t2 with
  | some .string=>(match P.underlying e with
   | some (.int .u8)=>P.cellsOf e==1
   | _=>false)
  | _=>false)
 | _=>(match P.underlying t2 with
  | some (.slice e2)=>e2==e
  | _=>false)
def tR (n:Nat) (cb:List (List AV)):Prop:= ∀row∈cb,row.length=n∧ ∀a∈row,kb a=true
abbrev qY (r:Type):Type:=AV→List (Nat×List AV)→List Blk→r
def xW (P:Program) (t t2:TypeId) (s x:AV) (L:List (Nat×List AV)) (H:List Blk) (K:qY Prop):Prop:=
 cZ (kg P t) fun e=>cZ (pi P e) fun z=>if z.length=P.cellsOf e∧0<z.length∧xX P e t2 x=true then Z_ H x fun cb=>
  tR z.length cb∧(match s with
  | .aP rows full fr=>full=true∧(∀row∈rows,row.length=z.length)∧(rows.length+cb.length)*P.bytesOf e≤140737488355328∧rows.length+cb.length≤4611686018427387904∧(rows≠[]→cb≠[])∧
    K (.ref H.length 0 0 (rows.length+cb.length) false) L (H++[⟨0,z.length,rows++cb⟩])
  | .ref b g off n full=>off=0∧cZ H[b]? fun blk=>blk.bk=g∧blk.sz=z.length∧blk.rows.length=n∧(n+cb.length)*P.bytesOf e≤140737488355328∧n+cb.length≤4611686018427387904∧
    K (.ref b (g+1) 0 (n+cb.length) false) L (H.set b ⟨g+1,z.length,blk.rows++cb⟩)
  | _=>False)
 else False
structure Gg (P:Program) (E:Env) (t2:TypeId) (size:Nat) (cb:List (List AV)) (jU:Value) (news:List Value):Prop where
 len:news.length=cb.length*size
 rel: ∀(i j:Nat) (row:List AV) (a:AV),cb[i]?=some row→row[j]?=some a→ ∃u,news[i*size+j]?=some u∧b6 E.bS a u∧u.oneCell'=true
 one: ∀u∈news,u.oneCell'=true
 num:(∃e2,P.underlying t2=some (.slice e2))∨P.underlying t2=some .string
 lenOf: ∀w,(Builtin.lenOf jU).run P w= .ok cb.length w
 cells: ∀w,(w=E.w∨w=E.w.drew)→(Builtin.firstCells size cb.length jU).run P w= .ok news.toArray w
theorem Y3 {size:Nat} {cb:List (List AV)} {news:List Value} {R:AV→Value→Prop} (gk: ∀row∈cb,row.length=size) (len:news.length=cb.length*size)
  (rel: ∀(i j:Nat) (row:List AV) (a:AV),cb[i]?=some row→row[j]?=some a→ ∃u,news[i*size+j]?=some u∧R a u∧u.oneCell'=true): ∀u∈news,u.oneCell'=true:=by
 intro u hu
 obtain⟨k,hk⟩:=List.mem_iff_getElem?.1 hu
 have nx:k<cb.length*size:=by rw[←len];exact(List.getElem?_eq_some_iff.1 hk).1
 have m0:0<size:=by
  rcases Nat.eq_zero_or_pos size with q | q
  ·rw[q,Nat.mul_zero] at nx;omega
  ·exact q
 have hi:k / size<cb.length:=(Nat.div_lt_iff_lt_mul m0).2 nx
 have eM:=List.getElem?_eq_getElem hi
 have hlen:(cb[k / size]).length=size:=gk _ (List.getElem_mem hi)
 have ac:k%size<(cb[k / size]).length:=by rw[hlen];exact Nat.mod_lt _ m0
 obtain⟨v,h1,h2,aC⟩:=rel (k / size) (k%size) _ _ eM (List.getElem?_eq_getElem ac)
 rw[Nat.div_add_mod' k size,hk] at h1
 cases h1;exact aC
theorem aqz {P:Program} {e t2:TypeId} {x:AV} {cb:List (List AV)} {E:Env} {H:List Blk} {jU:Value} {size:Nat} (aB:SimH E H) (hx:V2 E x jU) (cn:size=P.cellsOf e) (aO:xX P e t2 x=true)
  (ak:rowsOf H x=some cb) (gk:tR size cb): ∃news,Gg P E t2 size cb jU news:=by
 have HH: ∀row∈cb,row.length=size:=fun row h=>(gk row h).1
 cases x with
 | aP rows full fr=>
  have eg:m9 fr rows=cb:=Option.some.inj ak
  have aN:cb=rows.map (E3 fr):=by rw[←eg];exact ann fr rows
  have HK:cb.length=rows.length:=by rw[aN,List.length_map]
  have m1: ∀row∈rows,row.length=size:=fun row h=>by
   rw[←anm fr row];exact HH _ (by rw[aN];exact List.mem_map_of_mem h)
  have hu: ∃e2,P.underlying t2=some (.slice e2):=by
   unfold xX at aO
   simp only at aO
   split at aO
   ·exact⟨_,by assumption⟩
   ·cases aO
  obtain⟨e2,hu⟩:=hu
  have jL:a1 E.w E.PA E.PF (.aP rows full fr) jU:=hx
  cases jL with
  | @aP _ _ PB _ _ _ A cap sz vs fx fl gw D9 dz hrel=>
   let news:List Value:=(List.range (rows.length*size)).map fun k=>vs (k / size) (k%size)
   have n0:news.length=rows.length*size:=by simp[news]
   have hQ: ∀i j,i<rows.length→j<size→news[i*size+j]?=some (vs i j):=by
    intro i j hi ac
    have hk:i*size+j<rows.length*size:=by
     calc i*size+j<i*size+size:=by omega
      _=(i+1)*size:=by rw[Nat.add_mul,Nat.one_mul]
      _≤rows.length*size:=Nat.mul_le_mul_right _ (by omega)
    show((List.range (rows.length*size)).map _)[i*size+j]?=_
    rw[List.getElem?_map,List.getElem?_range hk]
    have h1:(i*size+j) / size=i:=by
     rw[Nat.add_comm,Nat.add_mul_div_right _ _ (by omega),Nat.div_eq_of_lt ac];omega
    have h2:(i*size+j)%size=j:=by
     rw[Nat.add_comm,Nat.add_mul_mod_self_right,Nat.mod_eq_of_lt ac]
    simp[h1,h2]
   have rel: ∀(i j:Nat) (row:List AV) (a:AV),cb[i]?=some row→row[j]?=some a→ ∃u,news[i*size+j]?=some u∧b6 E.bS a u∧u.oneCell'=true:=by
    intro i j row a h1 h2
    have D7:=gk row (List.mem_of_getElem? h1)
    have ac:j<size:=by rw[←D7.1];exact(List.getElem?_eq_some_iff.1 h2).1
    have hs:=D7.2 a (List.mem_of_getElem? h2)
    rw[aN,List.getElem?_map] at h1
    cases U:rows[i]? with
    | none=>rw[U] at h1;cases h1
    | some BZ=>
     rw[U] at h1
     have h1:E3 fr BZ=row:=Option.some.inj h1
     have mq:b6 E.bS a (vs i j):=by
      cases fr with
      | false=>
       have h1:BZ=row:=h1
       subst h1
       exact a1.v1 (E:=E.bS) ((hrel i j BZ a U h2).mono (fun _ _=>rfl) (fun _ h=>h.elim) (fun c hc=>show E.PA c by have:=fx c hc;simpa using this) (fun _ h=>h.elim))
      | true=>
       have h1:BZ.map rH=row:=h1
       subst h1
       rw[List.getElem?_map] at h2
       cases mn:BZ[j]? with
       | none=>rw[mn] at h2;cases h2
       | some a0=>
        rw[mn] at h2
        have h2:rH a0=a:=Option.some.inj h2
        subst h2
        exact a1.v1 (E:=E.bS) (anl (hrel i j BZ a0 U mn) (fun c hc=>show E.PF c by have:=fx c hc;simpa using this) aB.dU)
     exact⟨_,hQ i j (List.getElem?_eq_some_iff.1 U).1 ac,mq,mq.IW hs⟩
   refine⟨news,by rw[HK];exact n0,rel,Y3 HH (by rw[HK];exact n0) rel,.inl ⟨_,hu⟩,fun w=>by rw[HK];rfl,fun w hw=> ?_⟩
   rw[HK]
   have Mt: ∀a,w.cell? a=E.w.cell? a:=by rcases hw with rfl | rfl<;>intro a<;>rfl
   by_cases aH:rows.length=0
   ·have ag:news=[]:=List.eq_nil_of_length_eq_zero (by rw[n0,aH,Nat.zero_mul])
    rw[ag,aH]
    cases A with
    | none=>exact run_firstCells_none w size 0 _ _
    | some nn=>
     have:=run_firstCells_some (P:=P) w size 0 nn 0 cap [] (by simp) (fun j v h=>by simp at h)
     exact this
   ·obtain⟨c,o,rfl,hc,eR⟩:=dz (by omega)
    refine run_firstCells_some (P:=P) w size rows.length ⟨c,o,none⟩ rows.length cap news n0 (fun k v hk=> ?_)
    have nx:k<rows.length*size:=by rw[←n0];exact(List.getElem?_eq_some_iff.1 hk).1
    have m0:0<size:=by
     rcases Nat.eq_zero_or_pos size with q | q
     ·rw[q,Nat.mul_zero] at nx;omega
     ·exact q
    have hi:k / size<rows.length:=(Nat.div_lt_iff_lt_mul m0).2 nx
    have ac:k%size<size:=Nat.mod_lt _ m0
    have Vz:sz=size:=by
     have:=D9 _ _ (List.getElem?_eq_getElem hi)
     rw[←this];exact m1 _ (List.getElem_mem hi)
    have h1:=eR (k / size) (k%size) hi (by rw[Vz];exact ac)
    have h2:=hQ (k / size) (k%size) hi ac
    rw[Nat.div_add_mod' k size] at h2
    rw[hk] at h2
    cases h2
    rw[qj,Mt]
    rw[Vz,Nat.div_add_mod' k size] at h1
    exact h1
 | ref b g off n full=>
  have hu: ∃e2,P.underlying t2=some (.slice e2):=by
   unfold xX at aO
   simp only at aO
   split at aO
   ·exact⟨_,by assumption⟩
   ·cases aO
  obtain⟨e2,hu⟩:=hu
  have ak:((H[b]?).bind fun blk=>if blk.bk=g∧off+n≤blk.rows.length then some ((blk.rows.drop off).take n) else none)=some cb:=ak
  cases hb:H[b]? with
  | none=>simp[hb] at ak
  | some blk=>
   simp only[hb,Option.bind_some] at ak
   split at ak
   case isFalse=>cases ak
   case isTrue hc=>
   obtain⟨az,wu⟩:=hc
   cases ak
   have lv:=aB.ff b blk hb
   have qC:((blk.rows.drop off).take n).length=n:=by simp;omega
   have aix: ∀i row,((blk.rows.drop off).take n)[i]?=some row→blk.rows[off+i]?=some row:=by
    intro i row h
    rw[List.getElem?_take] at h
    split at h
    ·rw[List.getElem?_drop] at h;exact h
    ·cases h
   rcases(show ft E (.ref b g off n full) jU from hx) with⟨bt,_⟩ | ⟨gO,bt⟩
   ·omega
   ·rcases bt with⟨_,_,lY,A,rfl⟩ | ⟨c,cap,hm,rfl,rq,qA,tf⟩
    ·subst lY
     refine⟨[],by simp,fun i j row a h=>by simp at h,(fun u hu=>by cases hu),.inl ⟨_,hu⟩,fun w=>by simp;rfl,fun w hw=> ?_⟩
     rw[qC]
     cases A with
     | none=>exact run_firstCells_none w size 0 _ _
     | some nn=>exact run_firstCells_some (P:=P) w size 0 nn 0 0 [] (by simp) (fun j v h=>by simp at h)
    ·obtain⟨blk',an,ty,q1,cG,hw,mj,iZ,gU⟩:=aB.heap b c hm
     obtain rfl:blk=blk':=by rw[hb] at q1;exact Option.some.inj q1
     by_cases lY:n=0
     ·subst lY
      refine⟨[],by simp,fun i j row a h=>by simp at h,(fun u hu=>by cases hu),.inl ⟨_,hu⟩,fun w=>by simp;rfl,fun w hw=> ?_⟩
      rw[qC]
      exact run_firstCells_some (P:=P) w size 0 _ 0 cap [] (by simp) (fun j v h=>by simp at h)
     ·have MY:E.sz b=size:=by
       have aQ:off<blk.rows.length:=by omega
       have aA:((blk.rows.drop off).take n)[0]?=some blk.rows[off]:=by
        rw[List.getElem?_take,if_pos (by omega),List.getElem?_drop,Nat.add_zero,List.getElem?_eq_getElem aQ]
       rw[←gU.1 off _ (List.getElem?_eq_getElem aQ)]
       exact HH _ (List.mem_of_getElem? aA)
      let news:List Value:=(an.toList.drop (off*size)).take (n*size)
      have ahm:off*size+n*size≤an.size:=by
       rw[mj,MY,←Nat.add_mul];exact Nat.mul_le_mul_right _ (by omega)
      have n0:news.length=n*size:=by simp[news];omega
      have Vp: ∀k,k<n*size→news[k]?=an[off*size+k]?:=by
       intro k hk
       show((an.toList.drop (off*size)).take (n*size))[k]?=_
       rw[List.getElem?_take,if_pos hk,List.getElem?_drop,Array.getElem?_toList]
      have rel: ∀(i j:Nat) (row:List AV) (a:AV),((blk.rows.drop off).take n)[i]?=some row→row[j]?=some a→ ∃u,news[i*size+j]?=some u∧b6 E.bS a u∧u.oneCell'=true:=by
       intro i j row a h1 h2
       have D7:=gk row (List.mem_of_getElem? h1)
       have ac:j<size:=by rw[←D7.1];exact(List.getElem?_eq_some_iff.1 h2).1
       have hi:i<n:=by have:=(List.getElem?_eq_some_iff.1 h1).1;rw[qC] at this;exact this
       obtain⟨u,nz,sn⟩:=gU.2 (off+i) j row a (aix i row h1) h2
       have hk:i*size+j<n*size:=by
        calc i*size+j<i*size+size:=by omega
         _=(i+1)*size:=by rw[Nat.add_mul,Nat.one_mul]
         _≤n*size:=Nat.mul_le_mul_right _ (by omega)
       refine⟨u,?_,sn,sn.IW (D7.2 a (List.mem_of_getElem? h2))⟩
       rw[Vp _ hk,←nz,MY]
       congr 1
       rw[Nat.add_mul];omega
      refine⟨news,by rw[qC];exact n0,rel,Y3 HH (by rw[qC];exact n0) rel,.inl ⟨_,hu⟩,fun w=>by rw[qC];rfl,fun w e3=> ?_⟩
      have Mt: ∀a,w.cell? a=E.w.cell? a:=by rcases e3 with rfl | rfl<;>intro a<;>rfl
      rw[qC]
      refine run_firstCells_some (P:=P) w size n _ n cap news n0 (fun k v hk=> ?_)
      have nx:k<n*size:=by rw[←n0];exact(List.getElem?_eq_some_iff.1 hk).1
      rw[Vp k nx] at hk
      rw[qj,Mt,MY]
      exact cell_of hw hk
 | str s=>
  obtain rfl:=V3.Cu (sT hx)
  cases ak
  unfold xX at aO
  simp only at aO
  split at aO
  case h_2=>cases aO
  case h_1 hu=>
  split at aO
  case h_2=>cases aO
  case h_1 he=>
  have fE:size=1:=by rw[cn];simpa using aO
  subst fE
  have D_:s.data.toList.length=s.size:=by simp
  refine⟨s.data.toList.map fun c=> .int .u8 c.toNat,by simp,fun i j row a h1 h2=> ?_,fun u hu=> ?_,.inr hu,fun w=> ?_,fun w hw=> ?_⟩
  ·rw[List.getElem?_map] at h1
   cases hc:s.data.toList[i]? with
   | none=>rw[hc] at h1;cases h1
   | some c=>
    rw[hc] at h1
    cases h1
    have Vf:j=0:=by have:=(List.getElem?_eq_some_iff.1 h2).1;simp at this;omega
    subst Vf
    cases h2
    exact⟨.int .u8 c.toNat,by rw[List.getElem?_map,Nat.mul_one,Nat.add_zero,hc];rfl,a1.int _ _,rfl⟩
  ·obtain⟨c,_,rfl⟩:=List.mem_map.1 hu;rfl
  ·show Result.ok s.size w=_
   rw[List.length_map,D_]
  ·rw[List.length_map,D_]
   show Result.ok ((s.extract 0 s.size).data.map fun b=>Value.int .u8 b.toNat) w=_
   congr 1
   apply Array.ext'
   simp
 | _=>cases ak
section
variable {P:Program} {E:Env} {t t2 ty e:TypeId} {size:Nat} {cb:List (List AV)} {jU:Value} {news:List Value}
theorem aab (X:Gg P E t2 size cb jU news) (aO:P.underlying t=some (.slice e)) (hi:(P.info? e).isSome=true) (cn:P.cellsOf e=size) {base:Option Addr} {sLen sCap:Nat} (ag:cb.length=0) (hc:sLen≤sCap):
  (Builtin.append_ #[t,t2] ty #[.slice base sLen sCap,jU]).run P E.w= .ok (.slice base sLen sCap) E.w:=by
 have au:=X.lenOf E.w
 have hf:=X.cells E.w (.inl rfl)
 have ahW:news=[]:=List.eq_nil_of_length_eq_zero (by rw[X.len,ag,Nat.zero_mul])
 subst ahW
 rw[ag] at au hf
 rcases X.num with⟨e2,hu⟩ | hu<;>
  (simp[Builtin.append_,run_underlying aO,run_underlying hu,run_sizeOf hi,cn,au,hc,hf]
   cases base<;>simp[storeCells])
theorem anv (X:Gg P E t2 size cb jU news) (aO:P.underlying t=some (.slice e)) (hi:(P.info? e).isSome=true) (cn:P.cellsOf e=size) {g o sLen sCap:Nat} {fU:Array Value} {ce:TypeId}
  (az:E.w.heap[g]?=some (.cells fU ce (0,0))) (AW:sLen+cb.length≤sCap) (sj:o+sLen*size+news.length≤fU.size):
  (Builtin.append_ #[t,t2] ty #[.slice (some ⟨g,o,none⟩) sLen sCap,jU]).run P E.w= .ok (.slice (some ⟨g,o,none⟩) (sLen+cb.length) sCap) (E.w.setRow g (fU.toList.take (o+sLen*size)++news++fU.toList.drop (o+sLen*size+news.length)).toArray):=by
 have au:=X.lenOf E.w
 have hf:=X.cells E.w (.inl rfl)
 have a6:=run_storeCells_at (P:=P) g (o+sLen*size) ce news 0 fU E.w az (by simpa using sj) X.one
 simp only[Nat.add_zero] at a6
 rcases X.num with⟨e2,hu⟩ | hu<;>
  simp[Builtin.append_,run_underlying aO,run_underlying hu,run_sizeOf hi,cn,au,AW,hf,qj,a6]
theorem anw (X:Gg P E t2 size cb jU news) (aO:P.underlying t=some (.slice e)) {i:TypeInfo} (hi:P.info? e=some i) (cn:i.size=size) {z:Value} (aH:i.zero=some z) {base:Option Addr} {sLen sCap:Nat} {lJ:Array Value}
  (holds:(Builtin.firstCells size sLen (.slice base sLen sCap)).run P E.w.drew= .ok lJ E.w.drew) (az:sCap<sLen+cb.length) (AA:((sLen+cb.length:Nat):Int)≤9223372036854775807)
  (sj:Builtin.nextslicecap (sLen+cb.length) sCap*i.bytes≤281474976710656):
  (Builtin.append_ #[t,t2] ty #[.slice base sLen sCap,jU]).run P E.w= .ok (.slice (some ⟨E.w.heap.size,0,none⟩) (sLen+cb.length) (grownCap E.w (sLen+cb.length) sCap e))
   (E.w.drew.alloc (.cells (lJ++news.toArray++Builtin.zeroCells z.cells (grownCap E.w (sLen+cb.length) sCap e - (sLen+cb.length))) e)):=by
 have au:=X.lenOf E.w
 have hf:=X.cells E.w.drew (.inr rfl)
 subst cn
 have ag: ¬(sLen+cb.length≤sCap):=by omega
 have ag5: ¬(9223372036854775807<((sLen:Int)+(cb.length:Int))):=by omega
 have ag4: ¬(281474976710656<Builtin.nextslicecap (sLen+cb.length) sCap*i.bytes):=by omega
 rcases X.num with⟨e2,hu⟩ | hu<;>
  simp[Builtin.append_,run_underlying aO,run_underlying hu,sizeOf,typeInfo,zeroValue,hi,aH,au,ag,ag5,ag4,Question.forced,hf,holds,newRow,grownCap]
end
theorem adP {P:Program} {t t2 ty:TypeId} {s x:AV} {L:List (Nat×List AV)} {H:List Blk} {K:AV→List (Nat×List AV)→List Blk→Prop} {E:Env} {xw jU:Value}
  (aB:SimH E H) (bB:SimL E L) (hs:V2 E s xw) (hx:V2 E x jU) (h:xW P t t2 s x L H K):
  ∃r u H' E',K r L H'∧(Builtin.append_ #[t,t2] ty #[xw,jU]).run P E.w= .ok u E'.w∧Step E E'∧SimH E' H'∧SimL E' L∧V3 E' r u∧E'.mL=E.mL:=by
 obtain⟨e,he,h⟩:=f_ h
 obtain⟨z,aH,h⟩:=f_ h
 have aO:=vY he
 split at h
 case isFalse=>exact h.elim
 case isTrue hc=>
 obtain⟨qF,m0,mh⟩:=hc
 obtain⟨cb,HY,gk,h⟩:=anu h
 obtain⟨i,zM,hi,yz,qD,qE⟩:=zL (E:=E.bS) aH
 obtain⟨news,X⟩:=aqz aB hx qF mh HY gk
 have DV:(P.info? e).isSome=true:=by rw[hi];rfl
 have AK:i.size=z.length:=by rw[qF];simp[Program.cellsOf,hi]
 have AJ:i.bytes=P.bytesOf e:=by simp[Program.bytesOf,hi]
 have aiG:zM.cells.size=z.length:=by rw[qD];simp

 have out: ∀(base:Option Addr) (rows:List (List AV)) (sCap:Nat) (lJ:Array Value) (b g:Nat) (H':List Blk),xw= .slice base rows.length sCap→
   (Builtin.firstCells z.length rows.length (.slice base rows.length sCap)).run P E.w.drew= .ok lJ E.w.drew→lJ.size=rows.length*z.length→
   (∀row∈rows,row.length=z.length)→(∀(i j:Nat) (row:List AV) (a:AV),rows[i]?=some row→row[j]?=some a→ ∃u,lJ[i*z.length+j]?=some u∧b6 E.bS a u)→
   sCap<rows.length+cb.length→(rows.length+cb.length)*P.bytesOf e≤140737488355328→rows.length+cb.length≤4611686018427387904→
   H'[b]?=some ⟨g,z.length,rows++cb⟩→(∀b4,b4≠b→H'[b4]?=H[b4]?)→(b<H.length→H'.length=H.length)→H.length≤H'.length→((E.m b=none∧g=E.bk b)∨E.bk b<g)→
   K (.ref b g 0 (rows.length+cb.length) false) L H'→ ∃r u H' E',K r L H'∧(Builtin.append_ #[t,t2] ty #[xw,jU]).run P E.w= .ok u E'.w∧Step E E'∧SimH E' H'∧SimL E' L∧V3 E' r u∧E'.mL=E.mL:=by
  intro base rows sCap lJ b g H' aim holds Vt m1 ah6 AW hby eH ev aj hlen HG lv hK
  subst aim
  have gy:=anw (ty:=ty) X aO hi AK yz holds AW (by omega) (growslice_fits (by omega) (by rw[AJ];exact hby))
  have Mq:=grownCap_ge E.w (rows.length+cb.length) sCap e
  let cap:=grownCap E.w (rows.length+cb.length) sCap e
  let an:Array Value:=lJ++news.toArray++Builtin.zeroCells zM.cells (cap - (rows.length+cb.length))
  have mj:an.size=cap*z.length:=by
   show(lJ++news.toArray++Builtin.zeroCells zM.cells (cap - (rows.length+cb.length))).size=_
   have aN:(lJ++news.toArray++Builtin.zeroCells zM.cells (cap - (rows.length+cb.length))).size=lJ.size+news.length+(Builtin.zeroCells zM.cells (cap - (rows.length+cb.length))).size:=by simp;omega
   rw[aN,size_zeroCells,aiG,Vt,X.len,←Nat.add_mul,←Nat.add_mul]
   congr 1
   have:rows.length+cb.length≤cap:=Mq
   omega
  have gU:zX E z.length (rows++cb) an:=by
   refine⟨fun k row ak=> ?_,fun k j row a ak ac=> ?_⟩
   ·rcases Nat.lt_or_ge k rows.length with aQ | gO
    ·rw[List.getElem?_append_left aQ] at ak;exact m1 row (List.mem_of_getElem? ak)
    ·rw[List.getElem?_append_right gO] at ak;exact(gk row (List.mem_of_getElem? ak)).1
   ·rcases Nat.lt_or_ge k rows.length with aQ | gO
    ·rw[List.getElem?_append_left aQ] at ak
     obtain⟨u,hu,hv⟩:=ah6 k j row a ak ac
     refine⟨u,?_,hv⟩
     have nx:=(Array.getElem?_eq_some_iff.1 hu).1
     show(lJ++news.toArray++_)[k*z.length+j]?=_
     rw[Array.getElem?_append_left (by rw[Array.size_append];omega),Array.getElem?_append_left nx];exact hu
    ·rw[List.getElem?_append_right gO] at ak
     obtain⟨u,hu,hv,_⟩:=X.rel _ j row a ak ac
     refine⟨u,?_,hv⟩
     have nx:=(List.getElem?_eq_some_iff.1 hu).1
     have nZ:k*z.length+j=lJ.size+((k - rows.length)*z.length+j):=by
      rw[Vt,←Nat.add_assoc,←Nat.add_mul];congr 2;omega
     show(lJ++news.toArray++_)[k*z.length+j]?=_
     rw[nZ,Array.getElem?_append_left (by simp;omega),Array.getElem?_append_right (by omega),Nat.add_sub_cancel_left]
     simpa using hu
  obtain⟨E',hw,a6,uT,uU,sl,mZ,ny,Hp,_,hml⟩:=Bx (cap:=cap) (blk:=⟨g,z.length,rows++cb⟩) aB bB (pn.afe E.w (.cells an e (0,0))) ev aj hlen HG lv mj (by
   show(rows++cb).length≤cap
   rw[List.length_append];exact Mq) gU
  refine⟨_,_,_,E',hK,by rw[hw];exact gy,a6,uT,uU,.inr ⟨sl.symm,.inr ⟨_,_,mZ,?_,Mq,(fun h=>by cases h),?_⟩⟩,hml⟩
  ·rw[Nat.zero_mul]
  ·rw[Hp,Nat.zero_add];exact Nat.le_refl _
 cases s with
 | aP rows full fr=>
  obtain⟨gw,m1,hby,eH,b7,hK⟩:=h
  subst gw
  have ny:a1 E.w E.PA E.PF (.aP rows true fr) xw:=hs
  cases ny with
  | @aP _ _ PB _ _ _ A cap sz vs fx fl gw cn dz hrel=>
   have ahr:=gw rfl
   subst ahr
   by_cases iC:cb.length=0
   ·have HZ:cb=[]:=List.eq_nil_of_length_eq_zero iC
    have tl:rows=[]:=Classical.byContradiction fun bt=>b7 bt HZ
    subst tl;subst HZ
    obtain⟨E',hw,a6,uT,uU,sl,mZ,_,hml⟩:=IN (blk:=⟨0,z.length,[]++[]⟩) aB bB rfl rfl
    have gy:=aab (ty:=ty) X aO DV qF.symm (base:=A) (sLen:=0) (sCap:=0) rfl (Nat.le_refl _)
    exact⟨_,_,_,E',hK,by rw[hw];exact gy,a6,uT,uU,.inr ⟨sl.symm,.inl ⟨mZ,rfl,rfl,A,rfl⟩⟩,hml⟩
   ·have aio:0<rows.length→sz=z.length:=fun ab=>by
     rw[←cn 0 _ (List.getElem?_eq_getElem ab)];exact m1 _ (List.getElem_mem ab)
    let lJ:List Value:=(List.range (rows.length*z.length)).map fun k=>vs (k / z.length) (k%z.length)
    have AS:lJ.length=rows.length*z.length:=by simp[lJ]
    have hQ: ∀i j,i<rows.length→j<z.length→lJ[i*z.length+j]?=some (vs i j):=by
     intro i j hi ac
     have hk:i*z.length+j<rows.length*z.length:=by
      calc i*z.length+j<i*z.length+z.length:=by omega
       _=(i+1)*z.length:=by rw[Nat.add_mul,Nat.one_mul]
       _≤rows.length*z.length:=Nat.mul_le_mul_right _ (by omega)
     show((List.range (rows.length*z.length)).map _)[i*z.length+j]?=_
     rw[List.getElem?_map,List.getElem?_range hk]
     have h1:(i*z.length+j) / z.length=i:=by
      rw[Nat.add_comm,Nat.add_mul_div_right _ _ (by omega),Nat.div_eq_of_lt ac];omega
     have h2:(i*z.length+j)%z.length=j:=by
      rw[Nat.add_comm,Nat.add_mul_mod_self_right,Nat.mod_eq_of_lt ac]
     simp[h1,h2]
    refine out A rows rows.length lJ.toArray H.length 0 _ rfl ?_ (by simp[AS]) m1 (fun i j row a h1 h2=> ?_) (by omega) hby eH (by simp) (fun b4 ev=> ?_) (fun bt=>by omega) (by simp) (.inl ⟨(aB.fresh _ (Nat.le_refl _)).1,(aB.fresh _ (Nat.le_refl _)).2.symm⟩) hK
    ·by_cases tl:rows.length=0
     ·have aA:lJ=[]:=List.eq_nil_of_length_eq_zero (by rw[AS,tl,Nat.zero_mul])
      rw[aA,tl]
      cases A with
      | none=>exact run_firstCells_none _ _ _ _ _
      | some nn=>exact run_firstCells_some (P:=P) _ z.length 0 nn 0 0 [] (by simp) (fun j v h=>by simp at h)
     ·obtain⟨c,o,rfl,hc,eR⟩:=dz (by omega)
      refine run_firstCells_some (P:=P) E.w.drew z.length rows.length ⟨c,o,none⟩ rows.length rows.length lJ AS (fun k v hk=> ?_)
      have nx:k<rows.length*z.length:=by rw[←AS];exact(List.getElem?_eq_some_iff.1 hk).1
      have hi:k / z.length<rows.length:=(Nat.div_lt_iff_lt_mul m0).2 nx
      have ac:k%z.length<z.length:=Nat.mod_lt _ m0
      have uZ:=aio (by omega)
      have h1:=eR (k / z.length) (k%z.length) hi (by rw[uZ];exact ac)
      have h2:=hQ (k / z.length) (k%z.length) hi ac
      rw[Nat.div_add_mod' k z.length] at h2
      rw[hk] at h2
      cases h2
      rw[uZ,Nat.div_add_mod' k z.length] at h1
      rw[qj]
      exact h1
    ·have hi:=(List.getElem?_eq_some_iff.1 h1).1
     have ac:j<z.length:=by rw[←m1 row (List.mem_of_getElem? h1)];exact(List.getElem?_eq_some_iff.1 h2).1
     refine⟨vs i j,by simpa using hQ i j hi ac,a1.v1 (E:=E.bS) ((hrel i j row a h1 h2).mono (fun _ _=>rfl) (fun _ h=>h.elim) (fun c hc=>by have:=fx c hc;split at this;exact aB.dU c this;exact this) (fun _ h=>h.elim))⟩
    ·rcases Nat.lt_or_ge b4 H.length with aQ | gO
     ·rw[List.getElem?_append_left aQ]
     ·rw[List.getElem?_eq_none gO,List.getElem?_eq_none (by simp;omega)]
 | ref b g off n full=>
  replace h:off=0∧cZ H[b]? fun blk=>blk.bk=g∧blk.sz=z.length∧blk.rows.length=n∧(n+cb.length)*P.bytesOf e≤140737488355328∧n+cb.length≤4611686018427387904∧
    K (.ref b (g+1) 0 (n+cb.length) false) L (H.set b ⟨g+1,z.length,blk.rows++cb⟩):=h
  obtain⟨ah0,U⟩:=h
  obtain⟨blk,hb,az,nX,iA,hby,eH,hK⟩:=f_ U
  clear U
  subst ah0
  have lv:=aB.ff b blk hb
  have te:b<H.length:=(List.getElem?_eq_some_iff.1 hb).1
  subst iA
  rcases(show ft E (.ref b g 0 blk.rows.length full) xw from hs) with⟨bt,_⟩ | ⟨gO,bt⟩
  ·omega
  ·rcases bt with⟨hm,_,lY,A,rfl⟩ | ⟨c,cap,hm,rfl,rq,qA,tf⟩
   ·
    by_cases iC:cb.length=0
    ·have HZ:cb=[]:=List.eq_nil_of_length_eq_zero iC
     subst HZ
     obtain⟨E',hw,a6,uT,uU,sl,mZ,D9,Hp,hml⟩:=Z3 (w':=E.w) (x:=none) (blk':=⟨g+1,z.length,blk.rows++[]⟩) aB bB hm hb (by show g+1=_;rw[az]) nX.symm rfl rfl rfl rfl (fun _ _=>rfl) (fun c hc=>by cases hc)
     have gy:=aab (ty:=ty) X aO DV qF.symm (base:=A) (sLen:=0) (sCap:=0) rfl (Nat.le_refl _)
     refine⟨_,_,_,E',hK,by rw[hw];exact gy,a6,uT,uU,.inr ⟨sl.symm,.inl ⟨by rw[mZ];exact hm,rfl,by simp[lY],A,rfl⟩⟩,hml⟩
    ·have tl:blk.rows=[]:=List.eq_nil_of_length_eq_zero lY
     refine out A blk.rows 0 #[] b (g+1) _ (by rw[tl];rfl) ?_ (by rw[tl];simp) (fun row ak=>by rw[tl] at ak;cases ak) (fun i j row a h1 h2=>by rw[tl] at h1;simp at h1) (by omega) hby eH (by rw[List.getElem?_set_self te]) (fun b4 ev=>List.getElem?_set_ne (fun h=>ev h.symm)) (fun _=>by simp) (by simp) (.inr (by omega)) hK
     rw[tl]
     cases A with
     | none=>exact run_firstCells_none _ _ _ _ _
     | some nn=>exact run_firstCells_some (P:=P) _ z.length 0 nn 0 0 [] (by simp) (fun j v h=>by simp at h)
   ·obtain⟨blk',an,jE,q1,cG,hw,mj,iZ,gU⟩:=aB.heap b c hm
    obtain rfl:blk=blk':=by rw[hb] at q1;exact Option.some.inj q1
    have cn:E.sz b=z.length:=by rw[cG,nX]
    by_cases AW:blk.rows.length+cb.length≤cap
    ·
     have ahw:an.size=E.cp b*z.length:=by rw[mj,cn]
     have hle:(blk.rows.length+cb.length)*z.length≤an.size:=by rw[ahw];exact Nat.mul_le_mul_right _ (by omega)
     have Vk:blk.rows.length*z.length+news.length≤an.size:=by rw[X.len,←Nat.add_mul];exact hle
     have gy:=anv (ty:=ty) (o:=0) X aO DV qF.symm hw AW (by rw[Nat.zero_add];exact Vk)
     rw[Nat.zero_add] at gy
     let b5:Array Value:=(an.toList.take (blk.rows.length*z.length)++news++an.toList.drop (blk.rows.length*z.length+news.length)).toArray
     have UW: ∀k,b5[k]?=if k<blk.rows.length*z.length then an.toList[k]? else if k<blk.rows.length*z.length+news.length then news[k - blk.rows.length*z.length]? else an.toList[k]?:=by
      intro k
      show(List.toArray _)[k]?=_
      rw[List.getElem?_toArray,Cr (by simpa using Vk)]
     obtain⟨E',e3,a6,uT,uU,sl,mZ,D9,Hp,hml⟩:=Z3 (w':=E.w.setRow c b5) (x:=some c) (blk':=⟨g+1,z.length,blk.rows++cb⟩) aB bB hm hb (by show g+1=_;rw[az]) nX.symm rfl rfl rfl (by simp)
      (fun cv mi=>setRow_other _ _ _ _ (fun e=>mi (by rw[e]))) (fun cv mi=>by
       cases mi
       refine⟨b5,jE,setRow_heap _ _ _ _ _ _ hw,?_,by show(blk.rows++cb).length≤_;rw[List.length_append];omega,fun k row ak=> ?_,fun k j row a ak ac=> ?_⟩
       ·rw[←mj]
        show(List.toArray _).size=_
        simp;omega
       ·have ak:(blk.rows++cb)[k]?=some row:=ak
        rcases Nat.lt_or_ge k blk.rows.length with aQ | Ht
        ·rw[List.getElem?_append_left aQ] at ak;exact gU.1 k row ak
        ·rw[List.getElem?_append_right Ht] at ak;rw[cn];exact(gk row (List.mem_of_getElem? ak)).1
       ·have ak:(blk.rows++cb)[k]?=some row:=ak
        rcases Nat.lt_or_ge k blk.rows.length with aQ | Ht
        ·rw[List.getElem?_append_left aQ] at ak
         obtain⟨u,hu,hv⟩:=gU.2 k j row a ak ac
         refine⟨u,?_,hv⟩
         have ki:j<z.length:=by rw[←cn,←gU.1 k row ak];exact(List.getElem?_eq_some_iff.1 ac).1
         have:k*z.length+j<blk.rows.length*z.length:=by
          calc k*z.length+j<k*z.length+z.length:=by omega
           _=(k+1)*z.length:=by rw[Nat.add_mul,Nat.one_mul]
           _≤blk.rows.length*z.length:=Nat.mul_le_mul_right _ (by omega)
         rw[cn] at hu ⊢
         rw[UW,if_pos this];simpa using hu
        ·rw[List.getElem?_append_right Ht] at ak
         obtain⟨u,hu,hv,_⟩:=X.rel _ j row a ak ac
         refine⟨u,?_,hv⟩
         have nx:=(List.getElem?_eq_some_iff.1 hu).1
         have nZ:k*z.length+j=blk.rows.length*z.length+((k - blk.rows.length)*z.length+j):=by
          rw[←Nat.add_assoc,←Nat.add_mul];congr 2;omega
         rw[cn,UW,nZ,if_neg (by omega),if_pos (by omega),Nat.add_sub_cancel_left];exact hu)
     refine⟨_,_,_,E',hK,by rw[e3];rw[Nat.zero_mul];exact gy,a6,uT,uU,.inr ⟨sl.symm,.inr ⟨c,cap,by rw[mZ];exact hm,by simp,AW,(fun h=>by cases h),by rw[Hp];omega⟩⟩,hml⟩
    ·
     refine out (some ⟨c,0,none⟩) blk.rows cap (an.toList.take (blk.rows.length*z.length)).toArray b (g+1) _ (by rw[Nat.zero_mul]) ?_ ?_ (fun row ak=> ?_) (fun i j row a h1 h2=> ?_) (by omega) hby eH (by rw[List.getElem?_set_self te]) (fun b4 ev=>List.getElem?_set_ne (fun h=>ev h.symm)) (fun _=>by simp) (by simp) (.inr (by omega)) hK
     ·refine run_firstCells_some (P:=P) E.w.drew z.length blk.rows.length ⟨c,0,none⟩ blk.rows.length cap _ ?_ (fun k v hk=> ?_)
      ·have:blk.rows.length*z.length≤an.size:=by rw[mj,cn];exact Nat.mul_le_mul_right _ iZ
       simp;omega
      ·rw[List.getElem?_take] at hk
       split at hk
       ·rw[qj,Nat.zero_add]
        exact cell_of (w:=E.w) hw (by simpa using hk)
       ·cases hk
     ·have:blk.rows.length*z.length≤an.size:=by rw[mj,cn];exact Nat.mul_le_mul_right _ iZ
      simp;omega
     ·obtain⟨k,hk⟩:=List.mem_iff_getElem?.1 ak
      rw[←cn];exact gU.1 k row hk
     ·obtain⟨u,hu,hv⟩:=gU.2 i j row a h1 h2
      refine⟨u,?_,hv⟩
      have hi:=(List.getElem?_eq_some_iff.1 h1).1
      have ac:j<z.length:=by rw[←cn,←gU.1 i row h1];exact(List.getElem?_eq_some_iff.1 h2).1
      have:i*z.length+j<blk.rows.length*z.length:=by
       calc i*z.length+j<i*z.length+z.length:=by omega
        _=(i+1)*z.length:=by rw[Nat.add_mul,Nat.one_mul]
        _≤blk.rows.length*z.length:=Nat.mul_le_mul_right _ (by omega)
      rw[List.getElem?_toArray,List.getElem?_take,if_pos this,Array.getElem?_toList,←cn]
      exact hu
 | _=>exact h.elim
def Ka (E:Env) (o:Oper) (a:Act) (K:qY Prop):Act→World→Prop:=fun hB w'=>
 ∃v u L' H' E',K v L' H'∧E'.w=w'∧Step E E'∧SimH E' H'∧SimL E' L'∧V3 E' v u∧hB=a.put o.dst u∧ ∀t,o.dst≠some t→E'.mL t=E.mL t
def Gx:List Nat→Nat→Option Nat
 | [],_=>none
 | x::r,t=>match Nat.ble 2000000 x with
  | true=>(match Nat.beq ((x - 2000000)%1000) t with
   | true=>some ((x - 2000000) / 1000)
   | false=>Gx r t)
  | false=>Gx r t
def y4 (esc:List Nat) (dst:Option Nat) (cells:List AV) (L:List (Nat×List AV)) (H:List Blk) (K:qY Prop):Prop:=
 if cells.all kb=true then match dst with
  | none=>False
  | some t=>match Gx esc t with
   | some j=>cZ H[j]? fun blk=>K (.ptr j (blk.bk+1) 0 0) L (H.set j ⟨blk.bk+1,cells.length,[cells]⟩)
   | none=>if esc.contains t=true then K (.ptr H.length 0 0 0) L (H++[⟨0,cells.length,[cells]⟩]) else
    match eV L t with
    | none=>K (.fZ t 0) ((t,cells)::L) H
    | some _=>False
 else False
theorem SimL.none {E:Env} {L:List (Nat×List AV)} (h:SimL E L) {t:Nat} (ag:eV L t=none):E.mL t=none:=by
 cases hm:E.mL t with
 | none=>rfl
 | some c=>
  obtain⟨cells,an,ty,h1,_⟩:=h t c hm
  rw[ag] at h1;cases h1
theorem RH {E:Env} {cells:List AV} {vs:List Value} (hs:cells.all kb=true) (h:ah (b6 E) cells vs):ah (b6 E.bS) cells vs:=
 ⟨h.1,fun i a v aw hv=>RG (List.all_eq_true.1 hs a (List.mem_of_getElem? aw)) (h.2 i a v aw hv)⟩
theorem YO {E:Env} {H:List Blk} {L:List (Nat×List AV)} {esc:List Nat} {dst:Option Nat} {cells:List AV} {an:Array Value} {ty:TypeId} {K:AV→List (Nat×List AV)→List Blk→Prop}
  (aB:SimH E H) (bB:SimL E L) (hc:ah (b6 E) cells an.toList) (h:y4 esc dst cells L H K):
  ∃v L' H' E',K v L' H'∧E'.w=E.w.alloc (.cells an ty (0,0))∧Step E E'∧SimH E' H'∧SimL E' L'∧V3 E' v (.pointer (some ⟨E.w.heap.size,0,none⟩))∧ ∀s,dst≠some s→E'.mL s=E.mL s:=by
 unfold y4 at h
 split at h
 case isFalse=>exact h.elim
 case isTrue hs=>
 have mi:=RH hs hc
 cases dst with
 | none=>exact h.elim
 | some t=>
  have h:match Gx esc t with
   | some j=>cZ H[j]? fun blk=>K (.ptr j (blk.bk+1) 0 0) L (H.set j ⟨blk.bk+1,cells.length,[cells]⟩)
   | none=>if esc.contains t=true then K (.ptr H.length 0 0 0) L (H++[⟨0,cells.length,[cells]⟩]) else(match eV L t with
    | none=>K (.fZ t 0) ((t,cells)::L) H
    | some _=>False):=h
  split at h
  ·rename_i j aho
   obtain⟨blk,DN,hK⟩:=f_ h
   have ki:=(List.getElem?_eq_some_iff.1 DN).1
   have ahM:=aB.ff j blk DN
   have hlen:an.size=cells.length:=by have:=hc.1;simp at this;exact this.symm
   obtain⟨E',aN,e2,dc,hE,jr,oD,GR,x3,_,hml⟩:=Bx (H:=H) (H':=H.set j ⟨blk.bk+1,cells.length,[cells]⟩) (b:=j) (cap:=1) (blk:=⟨blk.bk+1,cells.length,[cells]⟩) aB bB (pn.alloc E.w (.cells an ty (0,0)))
    (by rw[List.getElem?_set];simp[ki]) (fun b4 ev=>by rw[List.getElem?_set,if_neg (fun e=>ev e.symm)]) (fun _=>by simp) (by simp) (.inr (by show E.bk j<blk.bk+1;omega)) (by simp[hlen]) (by simp)
    ⟨fun i row ak=>by
      cases i with
      | zero=>simp at ak;subst ak;rfl
      | succ i=>simp at ak,
     fun i j row a ak ac=>by
      cases i with
      | zero=>
       simp at ak;subst ak
       obtain⟨u,hu,hv⟩:=mi.get ac
       exact⟨u,by simpa using hu,hv⟩
      | succ i=>simp at ak⟩
   refine⟨_,_,_,E',hK,aN,e2,dc,hE,.inr ⟨jr.symm,E.w.heap.size,oD,?_⟩,fun s _=>by rw[hml]⟩
   rw[Nat.zero_mul]
  split at h
  ·have hlen:an.size=cells.length:=by have:=hc.1;simp at this;exact this.symm
   have DG:SimH E (H++[⟨0,cells.length,[cells]⟩]):=aB.snoc rfl
   obtain⟨AO,uQ⟩:=aB.fresh H.length (Nat.le_refl _)
   obtain⟨E',aN,e2,dc,hE,jr,oD,GR,x3,_,hml⟩:=Bx (H:=H++[⟨0,cells.length,[cells]⟩]) (H':=H++[⟨0,cells.length,[cells]⟩]) (b:=H.length) (cap:=1) (blk:=⟨0,cells.length,[cells]⟩) DG bB (pn.alloc E.w (.cells an ty (0,0)))
    (by simp) (fun _ _=>rfl) (fun _=>rfl) (Nat.le_refl _) (.inl ⟨AO,uQ.symm⟩) (by simp[hlen]) (by simp)
    ⟨fun i row ak=>by
      cases i with
      | zero=>simp at ak;subst ak;rfl
      | succ i=>simp at ak,
     fun i j row a ak ac=>by
      cases i with
      | zero=>
       simp at ak;subst ak
       obtain⟨u,hu,hv⟩:=mi.get ac
       exact⟨u,by simpa using hu,hv⟩
      | succ i=>simp at ak⟩
   refine⟨_,_,_,E',h,aN,e2,dc,hE,.inr ⟨jr.symm,E.w.heap.size,oD,?_⟩,fun s _=>by rw[hml]⟩
   rw[Nat.zero_mul]
  ·cases az:eV L t with
   | some x=>rw[az] at h;exact h.elim
   | none=>
    rw[az] at h
    have hm:=bB.none az
    obtain⟨E',aN,e2,dc,hE,jr,_,hml⟩:=YN (L:=(t,cells)::L) (t:=t) (cells:=cells) aB (bB.cons hm) (pn.alloc E.w (.cells an ty (0,0))) (by simp[eV]) hm mi
    exact⟨_,_,_,E',h,aN,e2,dc,hE,jr,fun s hs=>hml s fun e=>hs (by rw[e])⟩
def om:AV→AV
 | .aP rows _ fr=> .aP rows false fr
 | a=>a
theorem b6.om {E:Env} {a:AV} {v:Value} (h:b6 E a v):b6 E (om a) v:=by
 cases a with
 | aP rows full fr=>
  have h:a1 E.w E.PA E.PF (.aP rows full fr) v:=h
  cases h with
  | aP fx fl gw cn dz hrel=>exact a1.aP fx fl (fun h=>by cases h) cn dz hrel
 | _=>exact h
theorem ah.om {E:Env} {l:List AV} {m:List Value} (h:ah (b6 E) l m):ah (b6 E) (l.map om) m:=by
 refine⟨by rw[List.length_map];exact h.1,fun i a v aw hv=> ?_⟩
 rw[List.getElem?_map] at aw
 cases au:l[i]? with
 | none=>rw[au] at aw;cases aw
 | some b=>rw[au] at aw;cases aw;exact(h.2 i b v au hv).om
def Bv (P:Program) (t:TypeId) (l c:AV) (L:List (Nat×List AV)) (H:List Blk) (K:qY Prop):Prop:=
 cZ (kg P t) fun e=>cZ (pi P e) fun z=>if z.length=P.cellsOf e∧z.all kb=true then match l,c with
  | .int _ l,.int _ c=>0≤l∧l≤c∧(P.bytesOf e:Int)*c≤140737488355328∧c≤4611686018427387904∧K (.ref H.length 0 0 l.toNat false) L (H++[⟨0,z.length,List.replicate l.toNat (z.map om)⟩])
  | _,_=>False
 else False
theorem al5 (z:Array Value) (n k:Nat) (hk:k<n):(madeCells z n)[k]?=some (z[k%z.size]!):=by
 simp[madeCells,hk]
theorem ami {P:Program} {E:Env} {H:List Blk} {L:List (Nat×List AV)} {t:TypeId} {l c:AV} {IF Ty:Value} {K:AV→List (Nat×List AV)→List Blk→Prop}
  (aB:SimH E H) (bB:SimL E L) (au:V3 E l IF) (hc:V3 E c Ty) (h:Bv P t l c L H K):
  ∃v L' H' E' u,K v L' H'∧(Instr.makeSlice t IF Ty).run P E.w= .ok u E'.w∧Step E E'∧SimH E' H'∧SimL E' L'∧V3 E' v u∧E'.mL=E.mL:=by
 obtain⟨e,he,h⟩:=f_ h
 obtain⟨z,aH,h⟩:=f_ h
 split at h
 case isFalse=>exact h.elim
 case isTrue hb=>
 obtain⟨qF,aiF⟩:=hb
 cases l with
 | int Bp l=>
  cases c with
  | int h4 c=>
   obtain⟨aA,h1,h2,aC,hK⟩:=(show 0≤l∧l≤c∧(P.bytesOf e:Int)*c≤140737488355328∧c≤4611686018427387904∧K (.ref H.length 0 0 l.toNat false) L (H++[⟨0,z.length,List.replicate l.toNat (z.map om)⟩]) from h)
   obtain rfl:=au.qJ
   obtain rfl:=hc.qJ
   obtain⟨i,v,q1,q2,q3,q4⟩:=zL (E:=E) aH
   have U:=(RH aiF q4).om
   have yz:v.cells.size=z.length:=by rw[q3];simp
   have AK:i.size=z.length:=by rw[qF];simp[Program.cellsOf,q1]
   have hby:P.bytesOf e=i.bytes:=by simp[Program.bytesOf,q1]
   have hu:=vY he
   have gy:=run_make (P:=P) E.w t e i v hu q1 q2 Bp h4 l c aA h1 (by rw[hby] at h2;omega) (by omega)
   have DG:SimH E (H++[⟨0,z.length,List.replicate l.toNat (z.map om)⟩]):=aB.snoc rfl
   obtain⟨AO,uQ⟩:=aB.fresh H.length (Nat.le_refl _)
   have Vj:l.toNat≤c.toNat:=by omega
   obtain⟨E',aN,e2,dc,hE,jr,oD,GR,x3,_,hml⟩:=Bx (H:=H++[⟨0,z.length,List.replicate l.toNat (z.map om)⟩]) (H':=H++[⟨0,z.length,List.replicate l.toNat (z.map om)⟩]) (b:=H.length) (cap:=c.toNat) (blk:=⟨0,z.length,List.replicate l.toNat (z.map om)⟩) DG bB (pn.alloc E.w (.cells (madeCells v.cells (c.toNat*i.size)) e (0,0)))
    (by simp) (fun _ _=>rfl) (fun _=>rfl) (Nat.le_refl _) (.inl ⟨AO,uQ.symm⟩) (by rw[size_madeCells,AK]) (by simpa using Vj)
    ⟨fun e4 row ak=>by
      have ak:(List.replicate l.toNat (z.map om))[e4]?=some row:=ak
      rw[List.getElem?_replicate] at ak
      split at ak
      ·cases ak;exact List.length_map ..
      ·exact absurd ak (fun h=>by cases h),
     fun e4 j row a ak ac=>by
      have ak:(List.replicate l.toNat (z.map om))[e4]?=some row:=ak
      rw[List.getElem?_replicate] at ak
      split at ak
      ·rename_i hi
       cases ak
       have wl:=(List.getElem?_eq_some_iff.1 ac).1
       rw[List.length_map] at wl
       obtain⟨u,hu,hv⟩:=U.get ac
       refine⟨u,?_,hv⟩
       have aQ:e4*z.length+j<c.toNat*z.length:=by
        calc e4*z.length+j<e4*z.length+z.length:=by omega
         _=(e4+1)*z.length:=by rw[Nat.add_mul,Nat.one_mul]
         _≤c.toNat*z.length:=Nat.mul_le_mul_right _ (by omega)
       show(madeCells v.cells (c.toNat*i.size))[e4*z.length+j]?=_
       rw[AK,al5 _ _ _ aQ,yz,show(e4*z.length+j)%z.length=j by rw[Nat.mul_comm,Nat.mul_add_mod,Nat.mod_eq_of_lt wl],←hu,Array.getElem?_toList,getElem!_pos v.cells j (by omega),Array.getElem?_eq_getElem]
      ·exact absurd ak (fun h=>by cases h)⟩
   refine⟨_,_,_,E',_,hK,by rw[gy,aN],e2,dc,hE,.inr ⟨jr.symm,.inr ⟨E.w.heap.size,c.toNat,oD,by rw[Nat.zero_mul],Vj,(fun h=>by cases h),by rw[x3];omega⟩⟩,hml⟩
  | _=>exact h.elim
 | _=>exact h.elim
def zj:List Nat→Option Nat
 | []=>none
 | x::r=>match Nat.ble 1000000 x with
  | true=>some (x - 1000000)
  | false=>zj r
def alS (B0:Option Nat) (kO:Bool) (n sz:Nat) (rows:List (List AV)) (L:List (Nat×List AV)) (H:List Blk) (K:qY Prop):Prop:=match B0 with
 | none=>K (.ref H.length 0 0 n kO) L (H++[⟨0,sz,rows⟩])
 | some j=>cZ H[j]? fun blk=>K (.ref j (blk.bk+1) 0 n true) L (H.set j ⟨blk.bk+1,sz,rows⟩)
def x8 (esc:List Nat) (dst:Option Nat):Bool:=match dst with
 | none=>false
 | some d=>esc.any fun x=>Nat.beq x (500000+d)
def xZ (P:Program) (fr:Bool) (B0:Option Nat) (t:TypeId) (n:Nat) (parts:List (Nat×AV)) (L:List (Nat×List AV)) (H:List Blk) (K:qY Prop):Prop:=
 cZ (kg P t) fun e=>cZ (pi P e) fun z=>if z.length=P.cellsOf e∧n*z.length≤1000000∧n≤1000000 then
  cZ (r9 (fun i=>some (i*z.length,z.length)) ((List.range (n*z.length)).map fun i=>z.getD (i%z.length) .undef) parts) fun cells=>
   if(bif fr then false else cells.all kK)=true then K (.aP (chunk z.length n (cells.map kd)) true (cells.all qt)) L H else
   if cells.all kb=true then alS B0 (!fr) n z.length (chunk z.length n cells) L H K else False
 else False
theorem aeC {size n i:Nat} {cells row:List AV} (au:cells.length=n*size) (ak:(chunk size n cells)[i]?=some row):row.length=size:=by
 unfold chunk at ak
 rw[List.getElem?_map] at ak
 cases U:(List.range n)[i]? with
 | none=>rw[U] at ak;cases ak
 | some k=>
  have hk:=(List.getElem?_eq_some_iff.1 U).1
  have hi:k=i:=by have:=(List.getElem?_eq_some_iff.1 U).2;simpa using this.symm
  rw[U] at ak;cases ak
  simp only[List.length_take,List.length_drop]
  have ck:i<n:=by simpa using hk
  rw[au,hi]
  have:(i+1)*size≤n*size:=Nat.mul_le_mul_right _ ck
  rw[Nat.add_mul,Nat.one_mul] at this
  omega
theorem ad8 {P:Program} {fr:Bool} {B0:Option Nat} {E:Env} {H:List Blk} {L:List (Nat×List AV)} {t:TypeId} {n:Nat} {parts:List (Nat×AV)} {lO:List (Nat×Value)} {K:AV→List (Nat×List AV)→List Blk→Prop} (aB:SimH E H) (bB:SimL E L)
  (ab:ah (fun a b=>a.1=b.1∧V2 E a.2 b.2) parts lO) (h:xZ P fr B0 t n parts L H K):
  ∃v u L' H' E',K v L' H'∧(Instr.buildSlice t n lO.toArray).run P E.w= .ok u E'.w∧Step E E'∧SimH E' H'∧SimL E' L'∧V3 E' v u∧E'.mL=E.mL:=by
 obtain⟨e,he,h⟩:=f_ h
 obtain⟨z,aH,h⟩:=f_ h
 split at h
 case isFalse=>exact h.elim
 case isTrue hb=>
 obtain⟨cells,hf,h⟩:=f_ h
 split at h
 case isTrue hby=>
  have hby:cells.all kK=true:=by cases fr with
   | true=>cases hby
   | false=>exact hby
  have hv:Ah P t n parts (fun r=>K r L H):=by
   refine ez he (ez aH ?_)
   rw[if_pos hb]
   refine ez hf ?_
   rw[if_pos hby];exact h
  obtain⟨r,u,E',hK,ak,U,aC⟩:=Ta aB ab hv
  exact⟨r,u,L,H,E',hK,ak,U.step,U.simH aB,U.simL aB bB,aC,U.mL⟩
 case isFalse=>
 split at h
 case isFalse=>exact h.elim
 case isTrue hs=>
 obtain⟨iq,hrel,gy,hlen⟩:=aea ab he aH hb.1 hb.2 hf
 have iZ:(chunk z.length n cells).length=n:=by simp[chunk]
 have MV:iq.size=n*z.length:=by have:=hrel.1;simp at this;omega
 have tm:zX E z.length (chunk z.length n cells) iq:=⟨fun i row ak=>aeC hlen ak,fun i j row a ak ac=>by
   obtain⟨hi,wl,hc⟩:=Tm ak ac
   obtain⟨u,hu,hv⟩:=hrel.get hc
   exact⟨u,by rw[Array.getElem?_toList] at hu;exact hu,hv⟩⟩
 cases B0 with
 | none=>
  have DG:SimH E (H++[⟨0,z.length,chunk z.length n cells⟩]):=aB.snoc rfl
  obtain⟨AO,uQ⟩:=aB.fresh H.length (Nat.le_refl _)
  obtain⟨E',aN,e2,dc,hE,jr,oD,GR,x3,_,hml⟩:=Bx (H:=H++[⟨0,z.length,chunk z.length n cells⟩]) (H':=H++[⟨0,z.length,chunk z.length n cells⟩]) (b:=H.length) (cap:=n) (blk:=⟨0,z.length,chunk z.length n cells⟩) DG bB (pn.alloc E.w (.cells iq e (0,0)))
   (by simp) (fun _ _=>rfl) (fun _=>rfl) (Nat.le_refl _) (.inl ⟨AO,uQ.symm⟩) MV (by rw[iZ];exact Nat.le_refl _) tm
  exact⟨_,_,_,_,E',h,by rw[gy,aN],e2,dc,hE,.inr ⟨jr.symm,.inr ⟨E.w.heap.size,n,oD,by rw[Nat.zero_mul],Nat.le_refl _,(fun _=>rfl),by rw[x3];omega⟩⟩,hml⟩
 | some j=>
  obtain⟨blk,DN,hK⟩:=f_ (show cZ H[j]? fun blk=>K (.ref j (blk.bk+1) 0 n true) L (H.set j ⟨blk.bk+1,z.length,chunk z.length n cells⟩) from h)
  have ki:=(List.getElem?_eq_some_iff.1 DN).1
  have ahM:=aB.ff j blk DN
  obtain⟨E',aN,e2,dc,hE,jr,oD,GR,x3,_,hml⟩:=Bx (H:=H) (H':=H.set j ⟨blk.bk+1,z.length,chunk z.length n cells⟩) (b:=j) (cap:=n) (blk:=⟨blk.bk+1,z.length,chunk z.length n cells⟩) aB bB (pn.alloc E.w (.cells iq e (0,0)))
   (by rw[List.getElem?_set];simp[ki]) (fun b4 ev=>by rw[List.getElem?_set,if_neg (fun e=>ev e.symm)]) (fun _=>by simp) (by simp) (.inr (by show E.bk j<blk.bk+1;omega)) MV (by rw[iZ];exact Nat.le_refl _) tm
  exact⟨_,_,_,_,E',hK,by rw[gy,aN],e2,dc,hE,.inr ⟨jr.symm,.inr ⟨E.w.heap.size,n,oD,by rw[Nat.zero_mul],Nat.le_refl _,(fun _=>rfl),by rw[x3];omega⟩⟩,hml⟩
def sx:AV→Bool
 | .aP _ _ fr=>fr
 | .fZ _ _ | .dv _ _ | .agg _ | .tup _ | .fn _ _=>false
 | _=>true
def ji (k:Nat):AV→AV
 | .ref b g o n f=> .ref (k+b) g o n f
 | .ptr b g r c=> .ptr (k+b) g r c
 | a=>a
def BH:AV→Bool
 | .agg l=>l.all sx
 | a=>sx a
def p1 (k:Nat):AV→AV
 | .agg l=> .agg (l.map (ji k))
 | a=>ji k a
def BI:AV→Bool
 | .tup l=>l.all BH
 | a=>BH a
def oh (k:Nat):AV→AV
 | .tup l=> .tup (l.map (p1 k))
 | a=>p1 k a
def ir (k:Nat) (b:Blk):Blk:=⟨b.bk,b.sz,b.rows.map fun row=>row.map (ji k)⟩
def w0 (H:List Blk):Bool:=H.all fun b=>b.rows.all fun row=>row.all sx
def Env.join (E E1:Env) (n:Nat):Env:=
 {w:=E1.w,PA:=fun c=>E.PA c∨E1.PF c,PF:=fun c=>E.PF c∨E1.PF c
  m:=fun b=>if b<n then E.m b else E1.m (b - n),bk:=fun b=>if b<n then E.bk b else E1.bk (b - n)
  sz:=fun b=>if b<n then E.sz b else E1.sz (b - n),cp:=fun b=>if b<n then E.cp b else E1.cp (b - n),mL:=E.mL}
section
variable {E E1:Env} {n:Nat}
theorem aj2 {b:Nat} (h:b<n):(E.join E1 n).m b=E.m b∧(E.join E1 n).bk b=E.bk b∧(E.join E1 n).sz b=E.sz b∧(E.join E1 n).cp b=E.cp b:=⟨if_pos h,if_pos h,if_pos h,if_pos h⟩
theorem Ot (b:Nat):(E.join E1 n).m (n+b)=E1.m b∧(E.join E1 n).bk (n+b)=E1.bk b∧(E.join E1 n).sz (n+b)=E1.sz b∧(E.join E1 n).cp (n+b)=E1.cp b:=by
 have h: ¬n+b<n:=by omega
 have e:n+b - n=b:=by omega
 refine⟨?_,?_,?_,?_⟩<;>(unfold Env.join;simp only[if_neg h,e])
theorem Ou {E':Env} (hP:E'=E.join E1 n) {a:AV} {v:Value} (aj:sx a=true) (hv:b6 E1 a v):b6 E' (ji n a) v:=by
 have oM: ∀{a:AV} {v:Value},sx a=true→a1 E1.w E1.PA E1.PF a v→a1 E'.w E'.PA E'.PF a v:=by
  intro a v aj h
  subst hP
  cases h with
  | undef=>exact .undef _
  | int=>exact .int _ _
  | bool=>exact .bool _
  | str=>exact .str _
  | gH=>exact .gH
  | gW=>exact .gW
  | @aP _ _ PB rows full fresh A cap sz vs fx fl gw cn dz hrel=>
   have hf:fresh=true:=aj
   refine .aP (PB:=PB) (sz:=sz) (vs:=vs) (fun c hc=> ?_) fl gw cn dz hrel
   have:=fx c hc
   rw[if_pos hf] at this ⊢
   exact .inr this
  | dv=>cases aj
  | fn=>cases aj
 cases a with
 | ref b g off m full=>
  subst hP
  obtain⟨fX,bd,qK,wJ⟩:=Ot (E:=E) (E1:=E1) (n:=n) b
  show ft (E.join E1 n) (.ref (n+b) g off m full) v
  rcases(show ft E1 (.ref b g off m full) v from hv) with⟨h,k⟩ | ⟨h,k⟩
  ·exact .inl ⟨by rw[bd];exact h,k⟩
  ·refine .inr ⟨by rw[bd];exact h,?_⟩
   rw[fX,qK,wJ];exact k
 | ptr b g r c=>
  subst hP
  obtain⟨fX,bd,qK,wJ⟩:=Ot (E:=E) (E1:=E1) (n:=n) b
  show ft (E.join E1 n) (.ptr (n+b) g r c) v
  rcases(show ft E1 (.ptr b g r c) v from hv) with⟨h,k⟩ | ⟨h,k⟩
  ·exact .inl ⟨by rw[bd];exact h,k⟩
  ·refine .inr ⟨by rw[bd];exact h,?_⟩
   rw[fX,qK];exact k
 | fZ t c=>cases aj
 | fn f c=>cases aj
 | agg l=>cases aj
 | tup l=>cases aj
 | dv l c=>cases aj
 | undef=>exact a1.undef _
 | int k m=>exact oM (a:= .int k m) rfl hv
 | bool b=>exact oM (a:= .bool b) rfl hv
 | str s=>exact oM (a:= .str s) rfl hv
 | aP rows full fr=>exact oM (a:= .aP rows full fr) aj hv
 | gH=>exact oM (a:= .gH) rfl hv
 | gW=>exact oM (a:= .gW) rfl hv
theorem Xb {E':Env} (hP:E'=E.join E1 n) {a:AV} {v:Value} (aj:BH a=true) (hv:V2 E1 a v):V2 E' (p1 n a) v:=by
 by_cases hf: ∃l,a= .agg l
 ·obtain⟨l,rfl⟩:=hf
  obtain⟨vs,rfl,ab⟩:=hv
  refine⟨vs,rfl,by rw[List.length_map];exact ab.1,fun i x u hx hu=> ?_⟩
  rw[List.getElem?_map] at hx
  cases au:l[i]? with
  | none=>simp[au] at hx
  | some y=>
   simp[au] at hx;subst hx
   exact Ou hP (List.all_eq_true.1 (show l.all sx=true from aj) y (List.mem_of_getElem? au)) (ab.2 i y u au hu)
 ·have aN:p1 n a=ji n a:=by cases a<;>first | rfl | exact absurd ⟨_,rfl⟩ hf
  have e2:BH a=sx a:=by cases a<;>first | rfl | exact absurd ⟨_,rfl⟩ hf
  rw[rb fun l e=>hf ⟨l,e⟩] at hv
  rw[aN]
  exact mS (Ou hP (e2▸aj) hv)
theorem aj3 {E':Env} (hP:E'=E.join E1 n) {a:AV} {v:Value} (aj:BI a=true) (hv:V3 E1 a v):V3 E' (oh n a) v:=by
 by_cases hf: ∃l,a= .tup l
 ·obtain⟨l,rfl⟩:=hf
  obtain⟨vs,rfl,ab⟩:=hv
  refine⟨vs,rfl,by rw[List.length_map];exact ab.1,fun i x u hx hu=> ?_⟩
  rw[List.getElem?_map] at hx
  cases au:l[i]? with
  | none=>simp[au] at hx
  | some y=>
   simp[au] at hx;subst hx
   exact Xb hP (List.all_eq_true.1 (show l.all BH=true from aj) y (List.mem_of_getElem? au)) (ab.2 i y u au hu)
 ·have aN:oh n a=p1 n a:=by cases a<;>first | rfl | exact absurd ⟨_,rfl⟩ hf
  have e2:BI a=BH a:=by cases a<;>first | rfl | exact absurd ⟨_,rfl⟩ hf
  rw[rc fun l e=>hf ⟨l,e⟩] at hv
  rw[aN]
  exact sT (Xb hP (e2▸aj) hv)
end
theorem aep {P:Program} {f:FuncId} {args eE:List AV} {L:List (Nat×List AV)} {H:List Blk} {E:Env} {vs:List Value} {Q:AV→List Blk→Prop} (aB:SimH E H) (bB:SimL E L)
  (aw:ah (V2 E) args vs) (hs:ah (c6 L H) args eE) (h:c8 P f eE [] fun r fs=>BI r=true∧w0 fs=true∧Q r fs):
  Calls P f vs.toArray E.w fun e w'=> ∃r v fs E',e= .returned v∧Q r fs∧E'.w=w'∧Step E E'∧SimH E' (H++fs.map (ir H.length))∧SimL E' L∧V3 E' (oh H.length r) v∧E'.mL=E.mL:=by
 have yc:ah (V2 E.frozen) eE vs:=⟨hs.1▸aw.1,fun i x u hx hu=>by
  have aQ:i<args.length:=by have:=(List.getElem?_eq_some_iff.1 hx).1;have:=hs.1;omega
  have au:=List.getElem?_eq_getElem aQ
  exact aaI (Sub.refl L H) aB bB (hs.2 i _ x au hx) (aw.2 i _ u au hu)⟩
 refine(h.2 E.frozen vs (fun _=>rfl) (Un aB) yc).mono ?_
 rintro e w' ⟨r,v,fs,E1,rfl,⟨aj,D3,ak⟩,rfl,ag,fE,hv,a6⟩
 have DJ: ∀c,E1.PF c→E.w.heap.size≤c∧c<E1.w.heap.size:=fun c hc=>⟨(a6.fS c hc).elim (fun h=>h.elim) id,fE.eh c (fE.dU c hc)⟩
 have AB: ∀c,E1.fW c→E.w.heap.size≤c∧c<E1.w.heap.size:=fun c hc=>⟨(a6.qH c hc).elim (fun⟨b,hb⟩=>by cases hb) id,fE.gi c hc⟩
 have oJ: ∀c,c<E.w.heap.size→E1.w.heap[c]?=E.w.heap[c]?:=fun c hc=>a6.cT c hc (fun⟨b,hb⟩=>by cases hb) (fun⟨b,hb⟩=>by cases hb)
 have lz:=aB.gi
 have lA:=aB.hl
 generalize hP:E.join E1 H.length=E'
 have oU: ∀b,b<H.length→E'.m b=E.m b∧E'.bk b=E.bk b∧E'.sz b=E.sz b∧E'.cp b=E.cp b:=fun b hb=>hP▸aj2 hb
 have il: ∀b,E'.m (H.length+b)=E1.m b∧E'.bk (H.length+b)=E1.bk b∧E'.sz (H.length+b)=E1.sz b∧E'.cp (H.length+b)=E1.cp b:=fun b=>hP▸Ot b
 have oV:E'.w=E1.w:=by rw[←hP];rfl
 have Bo: ∀c,E'.PA c↔E.PA c∨E1.PF c:=fun c=>by rw[←hP];exact Iff.rfl
 have Ix: ∀c,E'.PF c↔E.PF c∨E1.PF c:=fun c=>by rw[←hP];exact Iff.rfl
 have wK:E'.mL=E.mL:=by rw[←hP];rfl
 have split: ∀b,b<H.length∨ ∃k,b=H.length+k:=fun b=>by
  rcases Nat.lt_or_ge b H.length with h | h
  ·exact .inl h
  ·exact .inr ⟨b - H.length,by omega⟩
 have amz: ∀b x,E.m b=some x→b<H.length:=fun b x hb=>by
  rcases Nat.lt_or_ge b H.length with h | h
  ·exact h
  ·rw[(aB.fresh b h).1] at hb;cases hb
 have sq: ∀c,E'.fW c→E.fW c∨E1.fW c:=fun c ⟨b,hb⟩=>by
  rcases split b with h | ⟨k,rfl⟩
  ·exact .inl ⟨b,by rw[←(oU b h).1];exact hb⟩
  ·exact .inr ⟨k,by rw[←(il k).1];exact hb⟩
 have gh:Step E E':=
  {le:=⟨fun c hc=>(Bo c).2 (.inl hc),fun c hc=>(Ix c).2 (.inl hc),fun c hc=>by rw[oV];exact oJ c (aB.eh c hc),fun c hc=>by rw[oV];exact oJ c (aB.eh c (aB.dU c hc)),fun b=>by
     rcases split b with h | ⟨k,rfl⟩
     ·rw[(oU b h).2.1];exact Nat.le_refl _
     ·rw[(aB.fresh (H.length+k) (by omega)).2];exact Nat.zero_le _,fun b x hx _=>by
     have h:=amz b x hx
     exact⟨by rw[(oU b h).1];exact hx,(oU b h).2.2.1,(oU b h).2.2.2⟩,fun t c h=>by rw[wK];exact h⟩
   os:=by rw[oV];exact a6.os
   tape:=by rw[oV];exact a6.tape
   output:=by rw[oV];exact a6.output
   size:=by rw[oV];exact a6.size
   cT:=fun c hc _ _=>by rw[oV];exact oJ c hc
   kl:=fun b c hb=>by
    rcases split b with h | ⟨k,rfl⟩
    ·exact .inl (by rw[←(oU b h).1];exact hb)
    ·exact .inr (AB c ⟨k,by rw[←(il k).1];exact hb⟩).1
   kR:=fun c ⟨t,aO⟩=> .inl ⟨t,by rw[←wK];exact aO⟩
   gn:=fun c hc=>((Bo c).1 hc).elim .inl fun h=> .inr (DJ c h).1
   fS:=fun c hc=>((Ix c).1 hc).elim .inl fun h=> .inr (DJ c h).1}
 have L7: ∀b,b<H.length→(H++fs.map (ir H.length))[b]?=H[b]?:=fun b hb=>List.getElem?_append_left hb
 have L6: ∀k,(H++fs.map (ir H.length))[H.length+k]?=(fs[k]?).map (ir H.length):=fun k=>by
  rw[List.getElem?_append_right (by omega),List.getElem?_map];congr 2;omega
 refine⟨r,v,fs,E',rfl,ak,oV,gh,?_,?_,aj3 hP.symm aj hv,wK⟩
 ·exact{
   heap:=fun b c hb=>by
    rcases split b with h | ⟨k,rfl⟩
    ·obtain⟨fX,bd,qK,wJ⟩:=oU b h
     rw[fX] at hb
     obtain⟨blk,an,ty,q1,cG,q2,q3,q4,cQ,c0⟩:=aB.heap b c hb
     refine⟨blk,an,ty,by rw[L7 b h];exact q1,by rw[qK];exact cG,by rw[oV,oJ c (lz c ⟨b,hb⟩)];exact q2,by rw[qK,wJ];exact q3,by rw[wJ];exact q4,by rw[qK];exact cQ,fun i j row a ak ac=> ?_⟩
     obtain⟨u,hu,MU⟩:=c0 i j row a ak ac
     exact⟨u,by rw[qK];exact hu,MU.le gh.le.bS⟩
    ·obtain⟨fX,bd,qK,wJ⟩:=il k
     rw[fX] at hb
     obtain⟨blk,an,ty,q1,cG,q2,q3,q4,cQ,c0⟩:=fE.heap k c hb
     have ML: ∀row∈blk.rows,∀a∈row,sx a=true:=fun row ak a aw=>
      List.all_eq_true.1 (List.all_eq_true.1 (List.all_eq_true.1 D3 blk (List.mem_of_getElem? q1)) row ak) a aw
     refine⟨ir H.length blk,an,ty,by rw[L6 k,q1];rfl,by rw[qK];exact cG,by rw[oV];exact q2,by rw[qK,wJ];exact q3,by rw[wJ];show(blk.rows.map _).length≤_;rw[List.length_map];exact q4,fun i row' ak=> ?_,fun i j row' hB ak ac=> ?_⟩
     ·have ak:(blk.rows.map fun row=>row.map (ji H.length))[i]?=some row':=ak
      rw[List.getElem?_map] at ak
      cases U:blk.rows[i]? with
      | none=>simp[U] at ak
      | some row=>
       simp[U] at ak;subst ak
       rw[List.length_map,qK];exact cQ i row U
     ·have ak:(blk.rows.map fun row=>row.map (ji H.length))[i]?=some row':=ak
      rw[List.getElem?_map] at ak
      cases U:blk.rows[i]? with
      | none=>simp[U] at ak
      | some row=>
       simp[U] at ak;subst ak
       rw[List.getElem?_map] at ac
       cases mn:row[j]? with
       | none=>simp[mn] at ac
       | some a=>
        simp[mn] at ac;subst ac
        obtain⟨u,hu,MU⟩:=c0 i j row a U mn
        refine⟨u,by rw[qK];exact hu,?_⟩
        have UF:E'.bS=E.bS.join E1.bS H.length:=by rw[←hP];rfl
        exact Ou UF (ML row (List.mem_of_getElem? U) a (List.mem_of_getElem? mn)) MU
   ff:=fun b blk hb=>by
    rcases split b with h | ⟨k,rfl⟩
    ·rw[L7 b h] at hb;rw[(oU b h).2.1];exact aB.ff b blk hb
    ·rw[L6 k] at hb
     cases U:fs[k]? with
     | none=>simp[U] at hb
     | some y=>simp[U] at hb;subst hb;rw[(il k).2.1];exact fE.ff k y U
   h6:=fun b hb=>by
    rcases split b with h | ⟨k,rfl⟩
    ·rw[(oU b h).1] at hb
     obtain⟨blk,q1,q2⟩:=aB.h6 b hb
     exact⟨blk,by rw[L7 b h];exact q1,by rw[(oU b h).2.2.1];exact q2⟩
    ·rw[(il k).1] at hb
     obtain⟨blk,q1,q2⟩:=fE.h6 k hb
     exact⟨ir H.length blk,by rw[L6 k,q1];rfl,by rw[(il k).2.2.1];exact q2⟩
   fresh:=fun b hb=>by
    rw[List.length_append,List.length_map] at hb
    rcases split b with h | ⟨k,rfl⟩
    ·omega
    ·rw[(il k).1,(il k).2.1];exact fE.fresh k (by omega)
   gV:=fun b b4 c h1 h2=>by
    rcases split b with h | ⟨k,rfl⟩<;>rcases split b4 with h' | ⟨kU,rfl⟩
    ·rw[(oU b h).1] at h1;rw[(oU b4 h').1] at h2;exact aB.gV b b4 c h1 h2
    ·rw[(oU b h).1] at h1;rw[(il kU).1] at h2
     have:=lz c ⟨b,h1⟩;have:=(AB c ⟨kU,h2⟩).1;omega
    ·rw[(il k).1] at h1;rw[(oU b4 h').1] at h2
     have:=lz c ⟨b4,h2⟩;have:=(AB c ⟨k,h1⟩).1;omega
    ·rw[(il k).1] at h1;rw[(il kU).1] at h2;rw[fE.gV k kU c h1 h2]
   kT:=fun t kc c h1 h2=>by rw[wK] at h1 h2;exact aB.kT t kc c h1 h2
   ht:=fun b t c h1 h2=>by
    rw[wK] at h2
    rcases split b with h | ⟨k,rfl⟩
    ·rw[(oU b h).1] at h1;exact aB.ht b t c h1 h2
    ·rw[(il k).1] at h1
     have:=lA c ⟨t,h2⟩;have:=(AB c ⟨k,h1⟩).1;omega
   iG:=fun c hc hi=>by
    rcases(Bo c).1 hc with h | h<;>rcases sq c hi with h' | h'
    ·exact aB.iG c h h'
    ·have:=aB.eh c h;have:=(AB c h').1;omega
    ·have:=lz c h';have:=(DJ c h).1;omega
    ·exact fE.iG c (fE.dU c h) h'
   jv:=fun c hc ⟨t,aO⟩=>by
    rw[wK] at aO
    rcases(Bo c).1 hc with h | h
    ·exact aB.jv c h ⟨t,aO⟩
    ·have:=lA c ⟨t,aO⟩;have:=(DJ c h).1;omega
   dU:=fun c hc=>(Bo c).2 (((Ix c).1 hc).elim (fun h=> .inl (aB.dU c h)) .inr)
   ga:=fun c hc=>by
    rw[oV]
    rcases(Ix c).1 hc with h | h
    ·exact(aB.ga c h).same (oJ c (aB.eh c (aB.dU c h)))
    ·exact fE.ga c h
   eh:=fun c hc=>by
    rw[oV]
    rcases(Bo c).1 hc with h | h
    ·exact Nat.lt_of_lt_of_le (aB.eh c h) a6.size
    ·exact(DJ c h).2
   gi:=fun c hc=>by
    rw[oV]
    rcases sq c hc with h | h
    ·exact Nat.lt_of_lt_of_le (lz c h) a6.size
    ·exact(AB c h).2
   hl:=fun c ⟨t,aO⟩=>by
    rw[wK] at aO;rw[oV]
    exact Nat.lt_of_lt_of_le (lA c ⟨t,aO⟩) a6.size}
 ·intro t c hm
  rw[wK] at hm
  obtain⟨cells,an,ty,q1,q2,q3⟩:=bB t c hm
  exact⟨cells,an,ty,q1,by rw[oV,oJ c (lA c ⟨t,hm⟩)];exact q2,q3.mono fun _ _ k=>k.le gh.le.bS⟩
theorem aem {P:Program} {f:FuncId} {args:List AV} {L:List (Nat×List AV)} {H:List Blk} {E:Env} {vs:List Value} {Q:AV→List Blk→Prop} (aB:SimH E H) (bB:SimL E L)
  (aw:ah (V2 E) args vs) (ag:args.all lF=true) (h:c8 P f args H fun r H'=>Bz r=true∧Q r H'):
  Calls P f vs.toArray E.w fun e w'=> ∃r v H' E',e= .returned v∧Q r H'∧E'.w=w'∧Step E E'∧SimH E' H'∧SimL E' L∧V3 E' r v∧E'.mL=E.mL:=by
 have yc:ah (V2 E.bS) args vs:=⟨aw.1,fun i a v h1 h2=>(aw.2 i a v h1 h2).bS (List.all_eq_true.1 ag a (List.mem_of_getElem? h1))⟩
 refine(h.2 E.bS vs (fun _=>rfl) aB.bS yc).mono ?_
 rintro e w' ⟨r,v,H',E1,rfl,⟨ahY,ak⟩,rfl,HM,fE,hv,a6⟩
 let E':Env:={E1 with mL:=E.mL}
 have UF:E'.bS=E1.bS:=rfl
 have lA:=aB.hl
 have qH: ∀c,E1.fW c→E.fW c∨E.w.heap.size≤c:=a6.qH
 have ahP: ∀c,E.l1 c→E1.w.heap[c]?=E.w.heap[c]?:=fun c hc=>a6.cT c (lA c hc) (fun⟨b,hb⟩=>by
  obtain⟨t,aO⟩:=hc
  exact aB.ht b t c hb aO) (fun⟨b,hb⟩=>by cases hb)
 have hle:E1.bS.hp E':=Env.IQ E'
 have gh:Step E E':=
  {le:=⟨a6.le.gn,a6.le.fS,a6.le.xC,a6.le.wf,a6.le.bk,a6.le.m,fun _ _ h=>h⟩
   os:=a6.os,tape:=a6.tape,output:=a6.output,size:=a6.size
   cT:=fun c hc h1 h2=>a6.cT c hc h1 (fun⟨b,hb⟩=>by cases hb)
   kl:=a6.kl
   kR:=fun c h=> .inl h
   gn:=a6.gn
   fS:=a6.fS}
 refine⟨r,v,H',E',rfl,ak,rfl,gh,?_,?_,?_,rfl⟩
 ·exact{fE with
   kT:=aB.kT
   ht:=fun b t c h1 h2=>by
    rcases qH c ⟨b,h1⟩ with⟨b4,h⟩ | h
    ·exact aB.ht b4 t c h h2
    ·have:=lA c ⟨t,h2⟩;omega
   jv:=fun c hc ⟨t,aO⟩=>by
    rcases a6.gn c hc with h | h
    ·exact aB.jv c h ⟨t,aO⟩
    ·have h:E.w.heap.size≤c:=h
     have:=lA c ⟨t,aO⟩;omega
   hl:=fun c hc=>Nat.lt_of_lt_of_le (lA c hc) a6.size}
 ·intro t c hm
  obtain⟨cells,an,ty,q1,q2,q3⟩:=bB t c hm
  exact⟨cells,an,ty,q1,by show E1.w.heap[c]?=_;rw[ahP c ⟨t,hm⟩];exact q2,q3.mono fun _ _ k=>k.le gh.le.bS⟩
 ·exact(hv.bS ahY).le hle
end Go.Proofs.YtejmihecgodhnaaGreat.Fw
