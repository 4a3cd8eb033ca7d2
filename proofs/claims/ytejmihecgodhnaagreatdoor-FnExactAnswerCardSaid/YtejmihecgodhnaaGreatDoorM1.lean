/- The framework, part A: abstract values, how they stand for Go's values in a world, and what stays as it is when the world grows. -/
import Derived.WalkKit
import Derived.KernelRfl
import Derived.Orders
import Derived.Laws.StructEq
import Derived.ChangeArms
import Derived.ChangeShapes
import Derived.SizedLaws
import Derived.Below
import Derived.JoinedOf
import Derived.Test.YtejmihecgodhnaaGreatDoorProg
import Derived.Shelf.Strings.Builder1
import Derived.Shelf.Strconv.Itoa1
import Derived.OwnWalk
import Derived.Lib.Hide
import Derived.WalkSpells
import Derived.Deep.RegionHeld3
set_option linter.unusedVariables false
namespace Go.Proofs.YtejmihecgodhnaaGreatDoor.Fw
open Go
inductive AV where
 | undef
 | int (k:IntKind) (n:Int)
 | bool (b:Bool)
 | str (s:ByteArray)
 | aX (rows:List (List AV)) (full fresh:Bool)
 | ref (b g off n:Nat) (full:Bool)
 | ptr (b g row col:Nat)
 | fp (t col:Nat)
 | dh (cells:List AV) (col:Nat)
 | fT
 | gu
 | agg (cells:List AV)
 | tup (vs:List AV)
 | fn (f:FuncId) (caps:List AV)
 deriving Inhabited
structure Blk where
 bf:Nat
 sz:Nat
 rows:List (List AV)
 deriving Inhabited
structure St where
 T:List AV
 L:List (Nat×List AV)
 H:List Blk
def af {α β:Type} (R:α→β→Prop) (l:List α) (m:List β):Prop:=
 l.length=m.length∧ ∀(i:Nat) (a:α) (b:β),l[i]?=some a→m[i]?=some b→R a b
theorem af.nil {α β:Type} {R:α→β→Prop}:af R [] []:=⟨rfl,fun i a b h=>by simp at h⟩
theorem af.cons {α β:Type} {R:α→β→Prop} {a:α} {b:β} {l:List α} {m:List β} (h:R a b) (k:af R l m):af R (a::l) (b::m):=
 ⟨by simp[k.1],fun i x y hx bi=>by
  cases i with
  | zero=>simp at hx bi;subst hx;subst bi;exact h
  | succ i=>exact k.2 i x y (by simpa using hx) (by simpa using bi)⟩
theorem af.head {α β:Type} {R:α→β→Prop} {a:α} {b:β} {l:List α} {m:List β} (h:af R (a::l) (b::m)):R a b:=h.2 0 a b rfl rfl
theorem af.tail {α β:Type} {R:α→β→Prop} {a:α} {b:β} {l:List α} {m:List β} (h:af R (a::l) (b::m)):af R l m:=
 ⟨by simpa using h.1,fun i x y hx bi=>h.2 (i+1) x y (by simpa using hx) (by simpa using bi)⟩
theorem af.mono {α β:Type} {R BJ:α→β→Prop} {l:List α} {m:List β} (h:af R l m) (ao: ∀a b,R a b→BJ a b):af BJ l m:=
 ⟨h.1,fun i a b x y=>ao _ _ (h.2 i a b x y)⟩
theorem af.get {α β:Type} {R:α→β→Prop} {l:List α} {m:List β} (h:af R l m) {i:Nat} {a:α} (aG:l[i]?=some a): ∃b,m[i]?=some b∧R a b:=by
 have hi:i<l.length:=(List.getElem?_eq_some_iff.1 aG).1
 have hm:i<m.length:=h.1▸hi
 exact⟨m[i],List.getElem?_eq_getElem hm,h.2 i a _ aG (List.getElem?_eq_getElem hm)⟩
theorem af.oQ {α β:Type} {R:α→β→Prop} {m:List β} (h:af R [] m):m=[]:=by
 have:=h.1;exact List.eq_nil_of_length_eq_zero (by simpa using this.symm)
theorem af.cons_inv {α β:Type} {R:α→β→Prop} {a:α} {l:List α} {m:List β} (h:af R (a::l) m): ∃b fh,m=b::fh∧R a b∧af R l fh:=by
 cases m with
 | nil=>have:=h.1;simp at this
 | cons b fh=>exact⟨b,fh,rfl,h.head,h.tail⟩
theorem af.append {α β:Type} {R:α→β→Prop} {l l':List α} {m fh:List β} (h:af R l m) (k:af R l' fh):af R (l++l') (m++fh):=by
 refine⟨by simp[h.1,k.1],fun i a b aG hb=> ?_⟩
 rcases Nat.lt_or_ge i l.length with hi | hi
 ·rw[List.getElem?_append_left hi] at aG
  rw[List.getElem?_append_left (h.1▸hi)] at hb
  exact h.2 i a b aG hb
 ·rw[List.getElem?_append_right hi] at aG
  rw[List.getElem?_append_right (h.1▸hi),←h.1] at hb
  exact k.2 _ a b aG hb
theorem af.set {α β:Type} {R:α→β→Prop} {l:List α} {m:List β} (h:af R l m) (i:Nat) {a:α} {b:β} (ao:R a b):af R (l.set i a) (m.set i b):=by
 refine⟨by simp[h.1],fun j x y hx bi=> ?_⟩
 by_cases al:i=j
 ·subst al
  rw[List.getElem?_set_self'] at hx bi
  cases aw:l[i]? with
  | none=>simp[aw] at hx
  | some a0=>
   cases hm:m[i]? with
   | none=>simp[hm] at bi
   | some b0=>simp[aw] at hx;simp[hm] at bi;subst hx;subst bi;exact ao
 ·rw[List.getElem?_set_ne al] at hx bi
  exact h.2 j x y hx bi
inductive aY (w:World):(Nat→Prop)→(Nat→Prop)→AV→Value→Prop where
 | undef {PA PF:Nat→Prop} (v:Value):aY w PA PF .undef v
 | int {PA PF:Nat→Prop} (k:IntKind) (n:Int):aY w PA PF (.int k n) (.int k n)
 | bool {PA PF:Nat→Prop} (b:Bool):aY w PA PF (.bool b) (.bool b)
 | str {PA PF:Nat→Prop} (s:ByteArray):aY w PA PF (.str s) (.string s)
 | aX {PA PF PB:Nat→Prop} {rows:List (List AV)} {full fresh:Bool} {A:Option Addr} {cap sz:Nat} {vs:Nat→Nat→Value}
   (eW: ∀c,PB c→if fresh=true then PF c else PA c)
   (fl:rows.length≤cap∧rows.length≤4611686018427387904) (fK:full=true→cap=rows.length)
   (b9: ∀(i:Nat) (row:List AV),rows[i]?=some row→row.length=sz)
   (dt:0<rows.length→ ∃c o,A=some ⟨c,o,none⟩∧PB c∧ ∀i j,i<rows.length→j<sz→w.cell? ⟨c,o+(i*sz+j),none⟩=some (vs i j))
   (hrel: ∀(i j:Nat) (row:List AV) (a:AV),rows[i]?=some row→row[j]?=some a→aY w PB (fun _=>False) a (vs i j)):
   aY w PA PF (.aX rows full fresh) (.slice A rows.length cap)
 | dh {PA PF:Nat→Prop} {cells:List AV} {col c o:Nat} {vs:Nat→Value} (hc:PA c)
   (dt: ∀j,j<cells.length→w.cell? ⟨c,o+j,none⟩=some (vs j))
   (hrel: ∀(j:Nat) (a:AV),cells[j]?=some a→aY w PA (fun _=>False) a (vs j)):aY w PA PF (.dh cells col) (.pointer (some ⟨c,o+col,none⟩))
 | fT {PA PF:Nat→Prop}:aY w PA PF .fT (.pointer none)
 | gu {PA PF:Nat→Prop}:aY w PA PF .gu .nilIface
 | fn {PA PF:Nat→Prop} {f:FuncId} {caps:List AV} {vs:List Value} (aw:caps.length=vs.length)
   (hrel: ∀(i:Nat) (a:AV) (v:Value),caps[i]?=some a→vs[i]?=some v→aY w PA (fun _=>False) a v):aY w PA PF (.fn f caps) (.func (.func f) #[] vs.toArray)
theorem Qx {w w':World} {c o:Nat} (h:w'.heap[c]?=w.heap[c]?):w'.cell? ⟨c,o,none⟩=w.cell? ⟨c,o,none⟩:=by
 simp[World.cell?,h]
theorem aY.mono {w w':World} {PA PF:Nat→Prop} {a:AV} {v:Value} (h:aY w PA PF a v):
  ∀{BH BI:Nat→Prop},(∀c,PA c→w'.heap[c]?=w.heap[c]?)→(∀c,PF c→w'.heap[c]?=w.heap[c]?)→(∀c,PA c→BH c)→(∀c,PF c→BI c)→aY w' BH BI a v:=by
 induction h with
 | undef v=>intros;exact .undef v
 | int k n=>intros;exact .int k n
 | bool b=>intros;exact .bool b
 | str s=>intros;exact .str s
 | @aX PA PF PB rows full fresh A cap sz vs eW fl fK b9 dt hrel br=>
  intro BH BI hw Km aG hf
  have RT: ∀c,PB c→w'.heap[c]?=w.heap[c]?:=fun c hc=>by
   have:=eW c hc
   split at this
   ·exact Km c this
   ·exact hw c this
  refine .aX (PB:=PB) (sz:=sz) (vs:=vs) (fun c hc=> ?_) fl fK b9 (fun ag=> ?_) (fun i j row a ao al=> ?_)
  ·have:=eW c hc
   split
   ·rename_i h;rw[if_pos h] at this;exact hf c this
   ·rename_i h;rw[if_neg h] at this;exact aG c this
  ·obtain⟨c,o,e,hc,dS⟩:=dt ag
   exact⟨c,o,e,hc,fun i j hi al=>by rw[Qx (RT c hc)];exact dS i j hi al⟩
  ·exact br i j row a ao al RT (fun c hc=>hc.elim) (fun c hc=>hc) (fun c hc=>hc)
 | @dh PA PF cells col c o vs hc dt hrel br=>
  intro BH BI hw Km aG hf
  refine .dh (aG c hc) (vs:=vs) (fun j al=> ?_) (fun j a al=>br j a al hw (fun c hc=>hc.elim) aG (fun c hc=>hc))
  rw[Qx (hw c hc)];exact dt j al
 | fT=>intros;exact .fT
 | gu=>intros;exact .gu
 | fn aw hrel br=>
  intro BH BI hw Km aG hf
  exact .fn aw (fun i a v h1 h2=>br i a v h1 h2 hw (fun c hc=>hc.elim) aG (fun c hc=>hc))
theorem aY.one {w:World} {PA PF:Nat→Prop} {a:AV} {v:Value} (h:aY w PA PF a v) (hu:a≠ .undef):v.oneCell'=true:=by
 cases h<;>first | rfl | exact absurd rfl hu
structure Env where
 w:World
 PA:Nat→Prop
 PF:Nat→Prop
 m:Nat→Option (Option Nat)
 bf:Nat→Nat
 sz:Nat→Nat
 cp:Nat→Nat
 mL:Nat→Option Nat
def e6 (E:Env):AV→Value→Prop
 | .ref b g off n full,v=>(g<E.bf b∧ ∃A cap,v= .slice A n cap)∨(g=E.bf b∧((E.m b=some none∧off=0∧n=0∧ ∃A,v= .slice A 0 0)∨
   ∃c cap,E.m b=some (some c)∧v= .slice (some ⟨c,off*E.sz b,none⟩) n cap∧n≤cap∧(full=true→cap=n)∧off+cap≤E.cp b))
 | .ptr b g r c,v=>(g<E.bf b∧ ∃bl o,v= .pointer (some ⟨bl,o,none⟩))∨(g=E.bf b∧ ∃bl,E.m b=some (some bl)∧v= .pointer (some ⟨bl,r*E.sz b+c,none⟩))
 | .fp t c,v=> ∃bl,E.mL t=some bl∧v= .pointer (some ⟨bl,c,none⟩)
 | a,v=>aY E.w E.PA E.PF a v
def bZ (E:Env):AV→Value→Prop
 | .fn f caps,v=> ∃vs:List Value,v= .func (.func f) #[] vs.toArray∧af (e6 E) caps vs
 | a,v=>e6 E a v
def V2 (E:Env):AV→Value→Prop
 | .agg cells,v=> ∃vs:List Value,v= .agg vs.toArray∧af (bZ E) cells vs
 | a,v=>bZ E a v
def V3 (E:Env):AV→Value→Prop
 | .tup l,v=> ∃vs:List Value,v= .tuple vs.toArray∧af (V2 E) l vs
 | a,v=>V2 E a v
def Plain (w:World) (c:Nat):Prop:= ∃ay ty,w.heap[c]?=some (.cells ay ty (0,0))
theorem Plain.same {w w':World} {c:Nat} (h:Plain w c) (e:w'.heap[c]?=w.heap[c]?):Plain w' c:=by
 obtain⟨ay,ty,h⟩:=h;exact⟨ay,ty,e.trans h⟩
structure Env.gy (E E':Env):Prop where
 fG: ∀c,E.PA c→E'.PA c
 fz: ∀c,E.PF c→E'.PF c
 wl: ∀c,E.PA c→E'.w.heap[c]?=E.w.heap[c]?
 wf: ∀c,E.PF c→E'.w.heap[c]?=E.w.heap[c]?
 bf: ∀b,E.bf b≤E'.bf b
 m: ∀b x,E.m b=some x→E'.bf b=E.bf b→E'.m b=some x∧E'.sz b=E.sz b∧E'.cp b=E.cp b
 mL: ∀t c,E.mL t=some c→E'.mL t=some c
theorem Env.gy.refl (E:Env):E.gy E:=⟨fun _ h=>h,fun _ h=>h,fun _ _=>rfl,fun _ _=>rfl,fun _=>Nat.le_refl _,fun _ _ h _=>⟨h,rfl,rfl⟩,fun _ _ h=>h⟩
theorem Env.gy.trans {A B C:Env} (h:A.gy B) (k:B.gy C):A.gy C:=
 ⟨fun c x=>k.fG c (h.fG c x),fun c x=>k.fz c (h.fz c x),fun c x=>(k.wl c (h.fG c x)).trans (h.wl c x),fun c x=>(k.wf c (h.fz c x)).trans (h.wf c x),
  fun b=>Nat.le_trans (h.bf b) (k.bf b),fun b x hx ax=>by
   have h1:B.bf b=A.bf b:=Nat.le_antisymm (ax▸k.bf b) (h.bf b)
   have h2:C.bf b=B.bf b:=ax.trans h1.symm
   obtain⟨m1,s1,c1⟩:=h.m b x hx h1
   obtain⟨m2,s2,c2⟩:=k.m b x m1 h2
   exact⟨m2,s2.trans s1,c2.trans c1⟩,
  fun t c x=>k.mL t c (h.mL t c x)⟩
theorem e6.le {E E':Env} (h:E.gy E') {a:AV} {v:Value} (hv:e6 E a v):e6 E' a v:=by
 have nT: ∀a v,aY E.w E.PA E.PF a v→aY E'.w E'.PA E'.PF a v:=fun a v k=>k.mono h.wl h.wf h.fG h.fz
 cases a with
 | ref b g off n full=>
  rcases hv with⟨hv,h1⟩ | ⟨ax,hv⟩
  ·exact .inl ⟨Nat.lt_of_lt_of_le hv (h.bf b),h1⟩
  ·rcases Nat.lt_or_ge (E.bf b) (E'.bf b) with aQ | f_
   ·refine .inl ⟨ax▸aQ,?_⟩
    rcases hv with⟨hm,ai,rfl,A,rfl⟩ | ⟨c,cap,hm,rfl,h1,h2,au⟩<;>exact⟨_,_,rfl⟩
   ·have he:E'.bf b=E.bf b:=Nat.le_antisymm f_ (h.bf b)
    refine .inr ⟨by rw[he];exact ax,?_⟩
    rcases hv with⟨hm,ai,ag,A,fk⟩ | ⟨c,cap,hm,e,h1,h2,au⟩
    ·exact .inl ⟨(h.m b _ hm he).1,ai,ag,A,fk⟩
    ·obtain⟨m1,s1,c1⟩:=h.m b _ hm he
     exact .inr ⟨c,cap,m1,by rw[s1];exact e,h1,h2,by rw[c1];exact au⟩
 | ptr b g r c=>
  rcases hv with⟨hv,h1⟩ | ⟨ax,bl,hm,e⟩
  ·exact .inl ⟨Nat.lt_of_lt_of_le hv (h.bf b),h1⟩
  ·rcases Nat.lt_or_ge (E.bf b) (E'.bf b) with aQ | f_
   ·exact .inl ⟨ax▸aQ,_,_,e⟩
   ·have he:E'.bf b=E.bf b:=Nat.le_antisymm f_ (h.bf b)
    obtain⟨m1,s1,c1⟩:=h.m b _ hm he
    exact .inr ⟨by rw[he];exact ax,bl,m1,by rw[s1];exact e⟩
 | fp t c=>
  obtain⟨bl,hm,e⟩:=hv
  exact⟨bl,h.mL _ _ hm,e⟩
 | _=>exact nT _ _ hv
theorem rQ {E:Env} {a:AV} {v:Value} (h: ∀f caps,a≠ .fn f caps):bZ E a v=e6 E a v:=by
 cases a<;>first | rfl | exact absurd rfl (h _ _)
theorem p1 {E:Env} {a:AV} {v:Value} (h: ∀l,a≠ .agg l):V2 E a v=bZ E a v:=by
 cases a<;>first | rfl | exact absurd rfl (h _)
theorem p2 {E:Env} {a:AV} {v:Value} (h: ∀l,a≠ .tup l):V3 E a v=V2 E a v:=by
 cases a<;>first | rfl | exact absurd rfl (h _)
theorem bZ.le {E E':Env} (h:E.gy E') {a:AV} {v:Value} (hv:bZ E a v):bZ E' a v:=by
 by_cases hf: ∃f caps,a= .fn f caps
 ·obtain⟨f,caps,rfl⟩:=hf
  obtain⟨vs,e,ae⟩:=hv
  exact⟨vs,e,ae.mono fun _ _ k=>k.le h⟩
 ·rw[rQ fun f c e=>hf ⟨f,c,e⟩] at hv ⊢
  exact hv.le h
theorem V2.le {E E':Env} (h:E.gy E') {a:AV} {v:Value} (hv:V2 E a v):V2 E' a v:=by
 by_cases hf: ∃l,a= .agg l
 ·obtain⟨l,rfl⟩:=hf
  obtain⟨vs,e,ae⟩:=hv
  exact⟨vs,e,ae.mono fun _ _ k=>k.le h⟩
 ·rw[p1 fun l e=>hf ⟨l,e⟩] at hv ⊢
  exact hv.le h
theorem V3.le {E E':Env} (h:E.gy E') {a:AV} {v:Value} (hv:V3 E a v):V3 E' a v:=by
 by_cases hf: ∃l,a= .tup l
 ·obtain⟨l,rfl⟩:=hf
  obtain⟨vs,e,ae⟩:=hv
  exact⟨vs,e,ae.mono fun _ _ k=>k.le h⟩
 ·rw[p2 fun l e=>hf ⟨l,e⟩] at hv ⊢
  exact hv.le h
theorem aY.v0 {E:Env} {a:AV} {v:Value} (h:aY E.w E.PA E.PF a v):e6 E a v:=by
 cases a<;>first | exact h | cases h
theorem aY.v1 {E:Env} {a:AV} {v:Value} (h:aY E.w E.PA E.PF a v):bZ E a v:=by
 by_cases hf: ∃f caps,a= .fn f caps
 ·obtain⟨f,caps,rfl⟩:=hf
  cases h with
  | fn aw hrel=>exact⟨_,rfl,aw,fun i a v h1 h2=>((hrel i a v h1 h2).mono (fun _ _=>rfl) (fun _ h=>h.elim) (fun _ h=>h) (fun _ h=>h.elim)).v0⟩
 ·rw[rQ fun f c e=>hf ⟨f,c,e⟩]
  exact h.v0
theorem bZ.undef (E:Env) (v:Value):bZ E .undef v:=aY.undef v
theorem V3.undef (E:Env) (v:Value):V3 E .undef v:=aY.undef v
def AV.abT:AV→Bool
 | .undef | .agg _ | .tup _=>false
 | _=>true
theorem bZ.one {E:Env} {a:AV} {v:Value} (h:bZ E a v) (hc:a.abT=true):True:=trivial
def eB:List (Nat×List AV)→Nat→Option (List AV)
 | [],_=>none
 | (k,c)::l,t=>if t=k then some c else eB l t
def lE:List (Nat×List AV)→Nat→List AV→List (Nat×List AV)
 | [],_,_=>[]
 | (k,c)::l,t,d=>if t=k then(k,d)::l else(k,c)::lE l t d
def Env.gq (E:Env) (c:Nat):Prop:= ∃b,E.m b=some (some c)
def Env.k1 (E:Env) (c:Nat):Prop:= ∃t,E.mL t=some c
def Env.bL (E:Env):Env:={E with mL:=fun _=>none}
theorem Env.GF (E:Env):E.bL.gy E:=⟨fun _ h=>h,fun _ h=>h,fun _ _=>rfl,fun _ _=>rfl,fun _=>Nat.le_refl _,fun _ _ h _=>⟨h,rfl,rfl⟩,fun _ _ h=>by cases h⟩
theorem Env.gy.bL {E E':Env} (h:E.gy E'):E.bL.gy E'.bL:=⟨h.fG,h.fz,h.wl,h.wf,h.bf,h.m,fun _ _ h=>by cases h⟩
def yL (E:Env) (sz:Nat) (rows:List (List AV)) (ay:Array Value):Prop:=
 (∀(i:Nat) (row:List AV),rows[i]?=some row→row.length=sz)∧
 ∀(i j:Nat) (row:List AV) (a:AV),rows[i]?=some row→row[j]?=some a→ ∃u,ay[i*sz+j]?=some u∧bZ E.bL a u
structure SimH (E:Env) (H:List Blk):Prop where
 heap: ∀b c,E.m b=some (some c)→ ∃blk ay ty,H[b]?=some blk∧E.sz b=blk.sz∧E.w.heap[c]?=some (.cells ay ty (0,0))∧ay.size=E.cp b*E.sz b∧blk.rows.length≤E.cp b∧yL E (E.sz b) blk.rows ay
 eV: ∀(b:Nat) (blk:Blk),H[b]?=some blk→E.bf b=blk.bf
 ha: ∀b,E.m b=some none→ ∃blk,H[b]?=some blk∧E.sz b=blk.sz
 fresh: ∀b,H.length≤b→E.m b=none∧E.bf b=0
 hC: ∀b bS c,E.m b=some (some c)→E.m bS=some (some c)→b=bS
 jt: ∀t jG c,E.mL t=some c→E.mL jG=some c→t=jG
 gB: ∀b t c,E.m b=some (some c)→E.mL t=some c→False
 hF: ∀c,E.PA c→ ¬E.gq c
 ii: ∀c,E.PA c→ ¬E.k1 c
 dA: ∀c,E.PF c→E.PA c
 ft: ∀c,E.PF c→Plain E.w c
 dP: ∀c,E.PA c→c<E.w.heap.size
 fq: ∀c,E.gq c→c<E.w.heap.size
 gr: ∀c,E.k1 c→c<E.w.heap.size
def SimL (E:Env) (L:List (Nat×List AV)):Prop:=
 ∀t c,E.mL t=some c→ ∃cells ay ty,eB L t=some cells∧E.w.heap[c]?=some (.cells ay ty (0,0))∧af (bZ E.bL) cells ay.toList
structure wB (E:Env) (aj:St) (tmps:Array Value):Prop where
 h:SimH E aj.H
 l:SimL E aj.L
 iI: ∀t,V3 E (aj.T.getD t .undef) (tmps.getD t undef)
 size:aj.T.length=tmps.size
structure Step (E E':Env):Prop where
 le:E.gy E'
 os:E'.w.os=E.w.os
 tape:E'.w.tape=E.w.tape
 output:E'.w.output=E.w.output
 size:E.w.heap.size≤E'.w.heap.size
 dF: ∀c,c<E.w.heap.size→ ¬E.gq c→ ¬E.k1 c→E'.w.heap[c]?=E.w.heap[c]?
 jq: ∀b c,E'.m b=some (some c)→E.m b=some (some c)∨E.w.heap.size≤c
 jX: ∀c,E'.k1 c→E.k1 c∨E.w.heap.size≤c
 fG: ∀c,E'.PA c→E.PA c∨E.w.heap.size≤c
 fz: ∀c,E'.PF c→E.PF c∨E.w.heap.size≤c
theorem Step.rf {E E':Env} (h:Step E E'): ∀c,E'.gq c→E.gq c∨E.w.heap.size≤c:=fun c ⟨b,hb⟩=>(h.jq b c hb).elim (fun h=> .inl ⟨b,h⟩) .inr
theorem Step.refl (E:Env):Step E E:=⟨.refl E,rfl,rfl,rfl,Nat.le_refl _,fun _ _ _ _=>rfl,fun _ _ h=> .inl h,fun _ h=> .inl h,fun _ h=> .inl h,fun _ h=> .inl h⟩
theorem Step.trans {A B C:Env} (h:Step A B) (k:Step B C):Step A C where
 le:=h.le.trans k.le
 os:=k.os.trans h.os
 tape:=k.tape.trans h.tape
 output:=k.output.trans h.output
 size:=Nat.le_trans h.size k.size
 dF:=fun c hc h1 h2=>by
  rw[k.dF c (Nat.lt_of_lt_of_le hc h.size) (fun x=>(h.rf c x).elim h1 (fun y=>absurd hc (Nat.not_lt.2 y))) (fun x=>(h.jX c x).elim h2 (fun y=>absurd hc (Nat.not_lt.2 y)))]
  exact h.dF c hc h1 h2
 jq:=fun b c x=>(k.jq b c x).elim (fun y=>h.jq b c y) (fun y=> .inr (Nat.le_trans h.size y))
 jX:=fun c x=>(k.jX c x).elim (fun y=>h.jX c y) (fun y=> .inr (Nat.le_trans h.size y))
 fG:=fun c x=>(k.fG c x).elim (fun y=>h.fG c y) (fun y=> .inr (Nat.le_trans h.size y))
 fz:=fun c x=>(k.fz c x).elim (fun y=>h.fz c y) (fun y=> .inr (Nat.le_trans h.size y))
class cl where
 n:Nat
structure Good [jc:cl] (b_ E:Env):Prop where
 Da: ∀b,jc.n≤b→b_.m b=none∧b_.bf b=0
 bL: ∀t,b_.mL t=none
 le:b_.gy E
 os:E.w.os=b_.w.os
 tape:E.w.tape=b_.w.tape
 output:E.w.output=b_.w.output
 size:b_.w.heap.size≤E.w.heap.size
 dF: ∀c,c<b_.w.heap.size→ ¬b_.gq c→E.w.heap[c]?=b_.w.heap[c]?
 jq: ∀b c,E.m b=some (some c)→b_.m b=some (some c)∨b_.w.heap.size≤c
 jX: ∀c,E.k1 c→b_.w.heap.size≤c
 fG: ∀c,E.PA c→b_.PA c∨b_.w.heap.size≤c
 fz: ∀c,E.PF c→b_.PF c∨b_.w.heap.size≤c
section
variable [jc:cl]
theorem Good.rf {b_ E:Env} (h:Good b_ E): ∀c,E.gq c→b_.gq c∨b_.w.heap.size≤c:=fun c ⟨b,hb⟩=>(h.jq b c hb).elim (fun h=> .inl ⟨b,h⟩) .inr
theorem Good.refl {E:Env} (hu: ∀b,jc.n≤b→E.m b=none∧E.bf b=0) (h: ∀t,E.mL t=none):Good E E:=
 ⟨hu,h,.refl E,rfl,rfl,rfl,Nat.le_refl _,fun _ _ _=>rfl,fun _ _ x=> .inl x,(fun c ⟨t,x⟩=>by rw[h t] at x;cases x),fun _ x=> .inl x,fun _ x=> .inl x⟩
theorem Good.step {b_ E E':Env} (h:Good b_ E) (k:Step E E'):Good b_ E' where
 Da:=h.Da
 bL:=h.bL
 le:=h.le.trans k.le
 os:=k.os.trans h.os
 tape:=k.tape.trans h.tape
 output:=k.output.trans h.output
 size:=Nat.le_trans h.size k.size
 dF:=fun c hc h1=>by
  rw[k.dF c (Nat.lt_of_lt_of_le hc h.size) (fun x=>(h.rf c x).elim h1 (fun y=>absurd hc (Nat.not_lt.2 y))) (fun x=>absurd hc (Nat.not_lt.2 (h.jX c x)))]
  exact h.dF c hc h1
 jq:=fun b c x=>(k.jq b c x).elim (fun y=>h.jq b c y) (fun y=> .inr (Nat.le_trans h.size y))
 jX:=fun c x=>(k.jX c x).elim (fun y=>h.jX c y) (fun y=>Nat.le_trans h.size y)
 fG:=fun c x=>(k.fG c x).elim (fun y=>h.fG c y) (fun y=> .inr (Nat.le_trans h.size y))
 fz:=fun c x=>(k.fz c x).elim (fun y=>h.fz c y) (fun y=> .inr (Nat.le_trans h.size y))
end
def aaD (ex:Exit):Bool:=match ex with
 | .normal | .exit _ | .ret=>true
 | _=>false
def ow [cl] (b_:Env) (Q:Exit→St→Prop) (ex:Exit) (a:Act) (w:World):Prop:=
 aaD ex=true∧ ∃aj E,Q ex aj∧E.w=w∧Good b_ E∧wB E aj a.tmps∧a.defers=[]
def WpS [cl] (P:Program) (c:Code) (Q:Exit→St→Prop) (aj:St):Prop:=
 ∀(b_ E:Env) (a:Act),Good b_ E→wB E aj a.tmps→a.defers=[]→c.wp P (ow b_ Q) a E.w
def Weak [cl] (aj lJ:St):Prop:= ∀(b_ E:Env) (tmps:Array Value),Good b_ E→wB E aj tmps→ ∃E',E'.w=E.w∧Good b_ E'∧wB E' lJ tmps
theorem Weak.refl [cl] (aj:St):Weak aj aj:=fun b_ E tmps g h=>⟨E,rfl,g,h⟩
theorem Weak.trans [cl] {a b c:St} (h:Weak a b) (k:Weak b c):Weak a c:=fun b_ E tmps g s=>by
 obtain⟨E1,aW,g1,s1⟩:=h b_ E tmps g s
 obtain⟨s5,e2,g2,s2⟩:=k b_ E1 tmps g1 s1
 exact⟨s5,e2.trans aW,g2,s2⟩
section
variable [cl] {P:Program} {Q yK:Exit→St→Prop} {aj:St}
theorem WpS.mono {c:Code} (h:WpS P c Q aj) (U: ∀e s,Q e s→yK e s):WpS P c yK aj:=fun b_ E a g s d=>
 wp_mono (h b_ E a g s d) fun e a w ⟨h1,aj,E,h2,au⟩=>⟨h1,aj,E,U _ _ h2,au⟩
theorem WpS.mP {c:Code} {lJ:St} (h:WpS P c Q lJ) (k:Weak aj lJ):WpS P c Q aj:=fun b_ E a g s d=>by
 obtain⟨E1,aW,g1,s1⟩:=k b_ E a.tmps g s
 exact aW▸h b_ E1 a g1 s1 d
theorem WpS.skip (h:Q .normal aj):WpS P .skip Q aj:=fun b_ E a g s d=>wp_skip ⟨rfl,aj,E,h,rfl,g,s,d⟩
theorem WpS.ret (h:Q .ret aj):WpS P .ret Q aj:=fun b_ E a g s d=>wp_ret ⟨rfl,aj,E,h,rfl,g,s,d⟩
theorem WpS.exit {id:Nat} (h:Q (.exit id) aj):WpS P (.exit id) Q aj:=fun b_ E a g s d=>wp_exit ⟨rfl,aj,E,h,rfl,g,s,d⟩
def dR (P:Program) (y:Code) (Q:Exit→St→Prop) (ex:Exit) (s:St):Prop:=match ex with
 | .normal=>WpS P y Q s
 | ex=>Q ex s
theorem WpS.seq {x y:Code} (h:WpS P x (dR P y Q) aj):WpS P (.seq x y) Q aj:=fun b_ E a g s d=>
 wp_seq (wp_mono (h b_ E a g s d) fun e ib w' ⟨h1,lJ,E',h2,au,a8,bQ,cv⟩=>by
  cases e with
  | normal=>subst au;exact h2 b_ E' ib a8 bQ cv
  | exit id=>exact⟨rfl,lJ,E',h2,au,a8,bQ,cv⟩
  | ret=>exact⟨rfl,lJ,E',h2,au,a8,bQ,cv⟩
  | _=>cases h1)
def bT (id:Nat) (Q:Exit→St→Prop) (ex:Exit) (s:St):Prop:=match ex with
 | .exit fE=>if fE=id then Q .normal s else Q (.exit fE) s
 | ex=>Q ex s
theorem WpS.block {id:Nat} {c:Code} (h:WpS P c (bT id Q) aj):WpS P (.block id c) Q aj:=fun b_ E a g s d=>
 wp_block (wp_mono (h b_ E a g s d) fun e ib w' ⟨h1,lJ,E',h2,au⟩=>by
  cases e with
  | normal=>exact⟨rfl,lJ,E',h2,au⟩
  | exit fE=>
   by_cases hid:fE=id
   ·subst hid
    have Cb:(if fE=fE then Q .normal lJ else Q (.exit fE) lJ):=h2
    rw[if_pos rfl] at Cb
    show(if fE=fE then _ else _)
    rw[if_pos rfl];exact⟨rfl,lJ,E',Cb,au⟩
   ·have Cb:(if fE=id then Q .normal lJ else Q (.exit fE) lJ):=h2
    rw[if_neg hid] at Cb
    show(if fE=id then _ else _)
    rw[if_neg hid];exact⟨rfl,lJ,E',Cb,au⟩
  | ret=>exact⟨rfl,lJ,E',h2,au⟩
  | _=>cases h1)
end
def p6:Value→AV
 | .int k n=> .int k n
 | .bool b=> .bool b
 | .string s=> .str s
 | .slice none 0 0=> .aX [] true true
 | .pointer none=> .fT
 | .nilIface=> .gu
 | _=> .undef
def b6 (T:List AV):Operand→AV
 | .tmp t=>T.getD t .undef
 | .const v=>p6 v
 | .func f=> .fn f []
 | .global _=> .undef
theorem aci (E:Env) (v:Value):V3 E (p6 v) v:=by
 unfold p6
 split
 ·exact aY.int _ _
 ·exact aY.bool _
 ·exact aY.str _
 ·exact aY.aX (PB:=fun _=>False) (sz:=0) (vs:=fun _ _=>undef) (fun _ h=>h.elim) ⟨Nat.le_refl _,Nat.zero_le _⟩ (fun _=>rfl) (fun i row h=>by simp at h) (fun h=>by simp at h) (fun i j row a h=>by simp at h)
 ·exact aY.fT
 ·exact aY.gu
 ·exact aY.undef _
theorem opv_rel {E:Env} {T:List AV} {a:Act} (h: ∀t,V3 E (T.getD t .undef) (a.tmps.getD t undef)) (x:Operand):V3 E (b6 T x) (a.eval x):=by
 cases x with
 | tmp t=>exact h t
 | const v=>exact aci E v
 | global g=>exact aY.undef _
 | func f=>exact⟨[],rfl,af.nil⟩
def BR (b:Bool) (x y:Prop):Prop:=(b=true→x)∧(b=false→y)
def p4 (v:AV) (k:Bool→Prop):Prop:=match v with
 | .bool b=>k b
 | _=>False
theorem EA {v:AV} {k:Bool→Prop} (h:p4 v k): ∃b,v= .bool b∧k b:=by
 cases v<;>first | exact⟨_,rfl,h⟩ | exact h.elim
theorem V3.pj {E:Env} {b:Bool} {v:Value} (h:V3 E (.bool b) v):v= .bool b:=by
 have h':aY E.w E.PA E.PF (.bool b) v:=h
 cases h';rfl
theorem V3.my {E:Env} {k:IntKind} {n:Int} {v:Value} (h:V3 E (.int k n) v):v= .int k n:=by
 have h':aY E.w E.PA E.PF (.int k n) v:=h
 cases h';rfl
theorem V3.Bc {E:Env} {s:ByteArray} {v:Value} (h:V3 E (.str s) v):v= .string s:=by
 have h':aY E.w E.PA E.PF (.str s) v:=h
 cases h';rfl
section
variable [cl] {P:Program} {Q yK:Exit→St→Prop} {aj:St}
theorem WpS.cond {c:Operand} {x y:Code} (h:p4 (b6 aj.T c) fun b=>BR b (WpS P x Q aj) (WpS P y Q aj)):WpS P (.cond c x y) Q aj:=fun b_ E a g s d=>by
 obtain⟨b,hb,h1,h2⟩:=EA h
 have hv:=opv_rel s.iI c
 rw[hb] at hv
 have he:a.eval c= .bool b:=V3.pj hv
 exact wp_cond_split he (fun e=>h1 e b_ E a g s d) (fun e=>h2 e b_ E a g s d)
def aaU (I:Nat→St→Prop) (n:Nat) (Q:Exit→St→Prop) (ex:Exit) (s:St):Prop:=match ex with
 | .normal=> ∃iU s',iU<n∧Weak s s'∧I iU s'
 | ex=>Q ex s
theorem WpS.loop {c:Code} (I:Nat→St→Prop) (n:Nat) (az:I n aj) (round: ∀n s,I n s→WpS P c (aaU I n Q) s):WpS P (.loop c) Q aj:=by
 intro b_ E a g s d b k ay
 have key: ∀n (a:Act) (E:Env) aj,I n aj→Good b_ E→wB E aj a.tmps→a.defers=[]→
   ∃e ib w',ow b_ Q e ib w'∧Arrives P (lone (b.at a (.code c:: .inLoop c::k)) ay E.w) b k ay e ib w':=by
  intro n
  induction n using Nat.strongRecOn with
  | _ n br=>
   intro a E aj aJ g s d
   obtain⟨e,EB,aah,U,Ch⟩:=round n aj aJ b_ E a g s d b (.inLoop c::k) ay
   obtain⟨he,ZI,E1,U,hw,g1,s1,d1⟩:=U
   cases e with
   | normal=>
    obtain⟨iU,s',aQ,afS,Cd⟩:=U
    obtain⟨s5,e2,g2,s2⟩:=afS b_ E1 EB.tmps g1 s1
    obtain⟨ac3,abc,anJ,afE,R1⟩:=br iU aQ EB s5 s' Cd g2 s2 d1
    rw[e2,hw] at R1
    exact⟨ac3,abc,anJ,afE,.of_steps (Steps.trans Ch (.one step_inLoop)) R1⟩
   | exit id=>exact⟨_,EB,aah,⟨rfl,ZI,E1,U,hw,g1,s1,d1⟩,.pass (x:= .inLoop c) rfl (fun _ _=> .inl (by simp)) Ch⟩
   | ret=>exact⟨_,EB,aah,⟨rfl,ZI,E1,U,hw,g1,s1,d1⟩,.pass (x:= .inLoop c) rfl (fun _ _=> .inl (by simp)) Ch⟩
   | _=>cases he
 obtain⟨e,ib,w',U,Ch⟩:=key n a E aj az g s d
 exact⟨e,ib,w',U,.of_steps (.one step_loop) Ch⟩
end
def cC {α:Type} (o:Option α) (k:α→Prop):Prop:=match o with
 | some a=>k a
 | none=>False
theorem fs {α:Type} {o:Option α} {k:α→Prop} (h:cC o k): ∃a,o=some a∧k a:=by
 cases o with
 | none=>exact h.elim
 | some a=>exact⟨a,rfl,h⟩
theorem ec {α:Type} {o:Option α} {k:α→Prop} {a:α} (h:o=some a) (hk:k a):cC o k:=by rw[h];exact hk
def eM (b:Bool) (x:Prop):Prop:=match b with
 | true=>x
 | false=>False
theorem rn {b:Bool} {x:Prop} (h:eM b x):b=true∧x:=by
 cases b with
 | true=>exact⟨rfl,h⟩
 | false=>exact h.elim
def z1 (P:Program) (t:TypeId):Bool:=match P.underlying t with
 | some (.struct _) | some (.array _ _)=>true
 | _=>false
def CZ (P:Program) (t:TypeId):Bool:=(P.underlying t).isSome
theorem run_underlying {P:Program} {t:TypeId} {w:World} {d:TypeDesc} (h:P.underlying t=some d):(underlying t).run P w= .ok d w:=by
 simp[Go.underlying,h]
theorem Xz {P:Program} {t:TypeId} {w:World} (h:CZ P t=true):(isAgg t).run P w= .ok (z1 P t) w:=by
 unfold CZ at h
 cases aV:P.underlying t with
 | none=>simp[aV] at h
 | some d=>
  simp only[Go.isAgg,Sem.run_bind,run_underlying aV,Result.andThen_ok,z1,aV]
  cases d<;>rfl
theorem run_sizeOf {P:Program} {t:TypeId} {w:World} (h:(P.info? t).isSome=true):(sizeOf t).run P w= .ok (P.cellsOf t) w:=by
 cases hi:P.info? t with
 | none=>simp[hi] at h
 | some i=>simp[Go.sizeOf,typeInfo,hi,Program.cellsOf]
theorem ahx {P:Program} {t:TypeId} (h:CZ P t=true):(P.info? t).isSome=true:=by
 unfold CZ Program.underlying at h
 cases hi:P.info? t with
 | none=>simp[hi] at h
 | some i=>rfl
def jH (P:Program) (t:TypeId) (cells:List AV) (c:Nat) (K:AV→Prop):Prop:=
 if CZ P t=true then
  (if z1 P t=true then(if c+P.cellsOf t≤cells.length then K (.agg ((cells.drop c).take (P.cellsOf t))) else False)
   else cC cells[c]? K)
 else False
def qg (P:Program) (t:TypeId) (x:AV) (L:List (Nat×List AV)) (H:List Blk) (K:AV→Prop):Prop:=match x with
 | .fp s c=>cC (eB L s) fun cells=>jH P t cells c K
 | .ptr b g r c=>cC H[b]? fun blk=>blk.bf=g∧cC blk.rows[r]? fun row=>jH P t row c K
 | .dh cells c=>jH P t cells c K
 | _=>False
theorem ph (c o n:Nat):(⟨c,o,none⟩:Addr).add n=⟨c,o+n,none⟩:=by
 unfold Addr.add;split
 ·subst_vars;rfl
 ·rfl
theorem Ph {P:Program} {t:TypeId} {cells:List AV} {c bl o:Nat} {K:AV→Prop} {w:World} {R:AV→Value→Prop}
  (hc: ∀(j:Nat) (a:AV),cells[j]?=some a→ ∃u,w.cell? ⟨bl,o+j,none⟩=some u∧R a u) (h:jH P t cells c K):
  ∃a v,K a∧(loadVar t ⟨bl,o+c,none⟩).run P w= .ok v w∧
   ((∃l vs,a= .agg l∧v= .agg (List.toArray vs)∧af R l vs)∨R a v):=by
 unfold jH at h
 split at h
 ·rename_i hk
  split at h
  ·rename_i aG
   split at h
   ·rename_i aw
    let n:=P.cellsOf t
    have dS: ∀j,j<n→ ∃a u,cells[c+j]?=some a∧w.cell? ⟨bl,o+(c+j),none⟩=some u∧R a u:=by
     intro j al
     have q8:c+j<cells.length:=by show c+j<cells.length;have:n=P.cellsOf t:=rfl;omega
     obtain⟨u,h1,h2⟩:=hc (c+j) _ (List.getElem?_eq_getElem q8)
     exact⟨_,u,List.getElem?_eq_getElem q8,h1,h2⟩
    let f:Nat→Value:=fun j=>(w.cell? ⟨bl,o+(c+j),none⟩).getD undef
    have hf: ∀j,j<n→w.cell? ((⟨bl,o+c,none⟩:Addr).add j)=some (f j):=by
     intro j al
     obtain⟨a,u,_,h1,_⟩:=dS j al
     rw[ph,Nat.add_assoc]
     show _=some ((w.cell? ⟨bl,o+(c+j),none⟩).getD undef)
     rw[h1];rfl
    refine⟨_,.agg ((List.range n).map f).toArray,h,?_,.inl ⟨_,(List.range n).map f,rfl,rfl,?_,?_⟩⟩
    ·simp only[loadVar,Sem.run_bind,Xz hk,Result.andThen_ok,aG,if_true,run_sizeOf (ahx hk)]
     rw[run_loadCells w _ n f hf]
     rfl
    ·simp only[List.length_take,List.length_drop,List.length_map,List.length_range];show min n _=n;have:n=P.cellsOf t:=rfl;omega
    ·intro i a b Sq zp
     have hi:i<n:=by have:=(List.getElem?_eq_some_iff.1 zp).1;simpa using this
     obtain⟨ib,u,h1,h2,au⟩:=dS i hi
     rw[List.getElem?_take,if_pos (show i<P.cellsOf t from hi),List.getElem?_drop,h1] at Sq
     cases Sq
     rw[List.getElem?_map,List.getElem?_range hi] at zp
     simp only[Option.map_some,Option.some.injEq] at zp
     have:f i=u:=by show(w.cell? ⟨bl,o+(c+i),none⟩).getD undef=u;rw[h2];rfl
     rw[←zp,this];exact au
   ·exact h.elim
  ·rename_i aG
   obtain⟨a,w0,hK⟩:=fs h
   obtain⟨u,h1,h2⟩:=hc c a w0
   refine⟨a,u,hK,?_,.inr h2⟩
   have aeD:z1 P t=false:=by cases hx:z1 P t<;>simp_all
   simp only[loadVar,Sem.run_bind,Xz hk,Result.andThen_ok,aeD]
   simp[h1]
 ·exact h.elim
theorem bZ.up {E:Env} {a:AV} {v:Value} (h:bZ E.bL a v):bZ E a v:=h.le E.GF
theorem aaV {E:Env} {l:List AV} {v:Value} (h:bZ E (.agg l) v):False:=by
 have h':aY E.w E.PA E.PF (.agg l) v:=h
 cases h'
theorem aaW {E:Env} {l:List AV} {v:Value} (h:bZ E (.tup l) v):False:=by
 have h':aY E.w E.PA E.PF (.tup l) v:=h
 cases h'
theorem lg {E:Env} {a:AV} {v:Value} (h:bZ E a v):V2 E a v:=by
 by_cases hf: ∃l,a= .agg l
 ·obtain⟨l,rfl⟩:=hf;exact(aaV h).elim
 ·rw[p1 fun l e=>hf ⟨l,e⟩];exact h
theorem aaX {E:Env} {l:List AV} {v:Value} (h:V2 E (.tup l) v):False:=aaW (E:=E) (l:=l) (v:=v) h
theorem me {E:Env} {a:AV} {v:Value} (h:V2 E a v):V3 E a v:=by
 by_cases hf: ∃l,a= .tup l
 ·obtain⟨l,rfl⟩:=hf;exact(aaX h).elim
 ·rw[p2 fun l e=>hf ⟨l,e⟩];exact h
theorem If {E:Env} {a:AV} {v:Value} (h:(∃l vs,a= .agg l∧v= .agg (List.toArray vs)∧af (bZ E) l vs)∨bZ E a v):V2 E a v:=by
 rcases h with⟨l,vs,rfl,rfl,ae⟩ | h
 ·exact⟨vs,rfl,ae⟩
 ·exact lg h
theorem V3.C7 {E:Env} {t c:Nat} {v:Value} (h:V3 E (.fp t c) v): ∃bl,E.mL t=some bl∧v= .pointer (some ⟨bl,c,none⟩):=h
theorem V3.GY {E:Env} {b g r c:Nat} {v:Value} (h:V3 E (.ptr b g r c) v) (ax:E.bf b=g): ∃bl,E.m b=some (some bl)∧v= .pointer (some ⟨bl,r*E.sz b+c,none⟩):=by
 rcases(h:e6 E (.ptr b g r c) v) with⟨h,_⟩ | ⟨_,h⟩
 ·omega
 ·exact h
theorem cell_of {w:World} {c o:Nat} {ay:Array Value} {ty:TypeId} {ad2:Nat×Nat} {u:Value} (h:w.heap[c]?=some (.cells ay ty ad2)) (hu:ay[o]?=some u):w.cell? ⟨c,o,none⟩=some u:=by
 simp[World.cell?,h,hu]
structure Sub (L:List (Nat×List AV)) (H:List Blk) (kS:List (Nat×List AV)) (e0:List Blk):Prop where
 l: ∀t c,eB L t=some c→eB kS t=some c
 h: ∀(b:Nat) (blk:Blk),H[b]?=some blk→e0[b]?=some blk
theorem Sub.refl (L:List (Nat×List AV)) (H:List Blk):Sub L H L H:=⟨fun _ _ h=>h,fun _ _ h=>h⟩
theorem VF {P:Program} {t:TypeId} {x:AV} {L kS:List (Nat×List AV)} {H e0:List Blk} {K:AV→Prop} {E:Env} {v:Value}
  (sub:Sub L H kS e0) (av:SimH E e0) (bC:SimL E kS) (hx:V3 E x v) (h:qg P t x L H K):
  ∃a eu,K a∧(Instr.loadAt t v).run P E.w= .ok eu E.w∧V2 E a eu:=by
 cases x with
 | fp s c=>
  obtain⟨bl,hm,rfl⟩:=hx.C7
  obtain⟨cells,ay,ty,ax,hw,ae⟩:=bC s bl hm
  have h':cC (eB L s) fun cells=>jH P t cells c K:=h
  obtain⟨BY,sa,h'⟩:=fs h'
  obtain rfl:cells=BY:=by have:=sub.l _ _ sa;rw[ax] at this;exact Option.some.inj this
  obtain⟨a,eu,hK,ao,hv⟩:=Ph (o:=0) (bl:=bl) (w:=E.w) (R:=bZ E.bL) (fun j a al=>by
   obtain⟨u,hu,ao⟩:=ae.get al
   exact⟨u,by rw[Nat.zero_add];exact cell_of hw (by simpa using hu),ao⟩) h'
  rw[Nat.zero_add] at ao
  refine⟨a,eu,hK,?_,(If hv).le E.GF⟩
  simp only[Instr.loadAt,Instr.sureAddr,Sem.run_bind,Sem.run_pure,Result.andThen_ok,ao]
 | ptr b g r c=>
  obtain⟨blk,hb,ax,h2⟩:=fs (show cC H[b]? fun blk=>blk.bf=g∧cC blk.rows[r]? fun row=>jH P t row c K from h)
  obtain⟨row,eH,au⟩:=fs h2
  replace hb:=sub.h b blk hb
  have ky:=av.eV b blk hb
  obtain⟨bl,hm,rfl⟩:=hx.GY (ky.trans ax)
  obtain⟨blk',ay,ty,dL,nP,hw,lU,hlen,gn⟩:=av.heap b bl hm
  obtain rfl:blk=blk':=by rw[hb] at dL;exact Option.some.inj dL
  obtain⟨a,eu,hK,ao,hv⟩:=Ph (o:=r*E.sz b) (bl:=bl) (w:=E.w) (R:=bZ E.bL) (fun j a al=>by
   obtain⟨u,hu,ao⟩:=gn.2 r j row a eH al
   exact⟨u,cell_of hw hu,ao⟩) au
  refine⟨a,eu,hK,?_,(If hv).le E.GF⟩
  simp only[Instr.loadAt,Instr.sureAddr,Sem.run_bind,Sem.run_pure,Result.andThen_ok,ao]
 | dh cells c=>
  have iR:aY E.w E.PA E.PF (.dh cells c) v:=hx
  cases iR with
  | @dh _ _ _ _ bl o vs hc dt hrel=>
   have h':jH P t cells c K:=h
   obtain⟨a,eu,hK,ao,hv⟩:=Ph (o:=o) (bl:=bl) (w:=E.w) (R:=aY E.w E.PA (fun _=>False)) (fun j a al=>
    ⟨vs j,dt j (List.getElem?_eq_some_iff.1 al).1,hrel j a al⟩) h'
   have up: ∀a v,aY E.w E.PA (fun _=>False) a v→bZ E a v:=fun a v ao=>(ao.mono (fun _ _=>rfl) (fun _ h=>h.elim) (fun _ h=>h) (fun _ h=>h.elim)).v1
   refine⟨a,eu,hK,?_,If (hv.imp (fun⟨l,vs,h1,h2,au⟩=>⟨l,vs,h1,h2,au.mono up⟩) (up _ _))⟩
   simp only[Instr.loadAt,Instr.sureAddr,Sem.run_bind,Sem.run_pure,Result.andThen_ok,ao]
 | _=>exact h.elim
def yk:AV→Bool
 | .undef | .agg _ | .tup _ | .fp _ _ | .fn _ _=>false
 | _=>true
def jo:AV→Bool
 | .fn _ caps=>caps.all yk
 | a=>yk a
def e7:AV→List AV
 | .agg l=>l
 | a=>[a]
def fe (row:List AV) (c:Nat) (l:List AV):List AV:=row.take c++l++row.drop (c+l.length)
def mM (P:Program) (t:TypeId) (x v:AV) (L:List (Nat×List AV)) (H:List Blk) (K:List (Nat×List AV)→List Blk→Prop):Prop:=
 if(P.info? t).isSome=true∧(e7 v).length=P.cellsOf t∧(e7 v).all jo=true then
  match x with
  | .fp s c=>cC (eB L s) fun cells=>if c+(e7 v).length≤cells.length then K (lE L s (fe cells c (e7 v))) H else False
  | .ptr b g r c=>cC H[b]? fun blk=>blk.bf=g∧cC blk.rows[r]? fun row=>c+(e7 v).length≤row.length∧K L (H.set b {blk with rows:=blk.rows.set r (fe row c (e7 v))})
  | _=>False
 else False
theorem ZN {E:Env} {a:AV} {v:Value} (h:yk a=true) (hv:e6 E a v):e6 E.bL a v:=by
 cases a<;>first | exact hv | cases h
theorem O8 {E:Env} {a:AV} {v:Value} (h:jo a=true) (hv:bZ E a v):bZ E.bL a v:=by
 by_cases hf: ∃f caps,a= .fn f caps
 ·obtain⟨f,caps,rfl⟩:=hf
  obtain⟨vs,e,ae⟩:=hv
  refine⟨vs,e,ae.1,fun i x y hx bi=>ZN ?_ (ae.2 i x y hx bi)⟩
  have h':caps.all yk=true:=h
  exact List.all_eq_true.1 h' x (List.mem_of_getElem? hx)
 ·have az:jo a=yk a:=by cases a<;>first | rfl | exact absurd ⟨_,_,rfl⟩ hf
  rw[rQ fun f c e=>hf ⟨f,c,e⟩] at hv ⊢
  exact ZN (az▸h) hv
theorem e6.one {E:Env} {a:AV} {v:Value} (h:yk a=true) (hv:e6 E a v):v.oneCell'=true:=by
 cases a with
 | undef=>cases h
 | agg l=>cases h
 | tup l=>cases h
 | fp s c=>cases h
 | fn f c=>cases h
 | ref b g off n full=>
  rcases hv with⟨_,A,cap,rfl⟩ | ⟨_,⟨_,_,_,A,rfl⟩ | ⟨c,cap,_,rfl,_⟩⟩
  ·rfl
  ·rfl
  ·rfl
 | ptr b g r c=>
  rcases hv with⟨_,bl,o,rfl⟩ | ⟨_,bl,_,rfl⟩
  ·rfl
  ·rfl
 | _=>exact aY.one (show aY E.w E.PA E.PF _ v from hv) (by intro h;cases h)
theorem bZ.GO {E:Env} {a:AV} {v:Value} (h:jo a=true) (hv:bZ E a v):v.oneCell'=true:=by
 by_cases hf: ∃f caps,a= .fn f caps
 ·obtain⟨f,caps,rfl⟩:=hf
  obtain⟨vs,rfl,ae⟩:=hv
  rfl
 ·have az:jo a=yk a:=by cases a<;>first | rfl | exact absurd ⟨_,_,rfl⟩ hf
  rw[rQ fun f c e=>hf ⟨f,c,e⟩] at hv
  exact hv.one (az▸h)
theorem Step.setRow {E:Env} {H:List Blk} (av:SimH E H) {bl:Nat} (hb:E.gq bl∨E.k1 bl) (ay:Array Value):Step E {E with w:=E.w.setRow bl ay}:=by
 have ag: ∀c,E.PA c→c≠bl:=fun c hc e=>by
  subst e
  exact hb.elim (av.hF _ hc) (av.ii _ hc)
 have hk: ∀c,c≠bl→(E.w.setRow bl ay).heap[c]?=E.w.heap[c]?:=fun c hc=>setRow_other _ _ _ _ hc
 exact⟨⟨fun _ h=>h,fun _ h=>h,fun c hc=>hk c (ag c hc),fun c hc=>hk c (ag c (av.dA c hc)),fun _=>Nat.le_refl _,fun _ _ h _=>⟨h,rfl,rfl⟩,fun _ _ h=>h⟩,rfl,rfl,rfl,
  by simp,fun c _ h1 h2=>hk c (fun e=>by subst e;exact hb.elim h1 h2),fun _ _ h=> .inl h,fun _ h=> .inl h,fun _ h=> .inl h,fun _ h=> .inl h⟩
theorem Ix {E:Env} {v:AV} {u:Value} (hv:V2 E v u) (hs:(e7 v).all jo=true):af (bZ E) (e7 v) u.cells.toList:=by
 by_cases hf: ∃l,v= .agg l
 ·obtain⟨l,rfl⟩:=hf
  obtain⟨vs,rfl,ae⟩:=hv
  exact ae
 ·have az:e7 v=[v]:=by cases v<;>first | rfl | exact absurd ⟨_,rfl⟩ hf
  rw[p1 fun l e=>hf ⟨l,e⟩] at hv
  rw[az] at hs ⊢
  have h1:u.oneCell'=true:=hv.GO (by simpa using hs)
  have h2:u.cells= #[u]:=by cases u<;>first | rfl | cases h1
  rw[h2]
  exact af.cons hv af.nil
theorem XB {P:Program} {t:TypeId} {w:World} {bl o:Nat} {ay:Array Value} {ty:TypeId} {u:Value} (hi:(P.info? t).isSome=true) (aB:u.cells.size=P.cellsOf t)
  (hw:w.heap[bl]?=some (.cells ay ty (0,0))) (ai:o+u.cells.size≤ay.size) (h1: ∀x∈u.cells.toList,x.oneCell'=true):
  (Instr.storeAt t (.pointer (some ⟨bl,o,none⟩)) u).run P w= .ok () (w.setRow bl (ay.toList.take o++u.cells.toList++ay.toList.drop (o+u.cells.toList.length)).toArray):=by
 have:=run_storeCells_at (P:=P) bl o ty u.cells.toList 0 ay w hw (by simpa using ai) h1
 simp only[Nat.add_zero] at this
 simp[Instr.storeAt,Instr.sureAddr,storeVar,run_sizeOf hi,aB,this]
theorem Ba {α:Type} {l m:List α} {c:Nat} (hc:c+m.length≤l.length) (j:Nat):
  (l.take c++m++l.drop (c+m.length))[j]?=if j<c then l[j]? else if j<c+m.length then m[j - c]? else l[j]?:=by
 by_cases h1:j<c
 ·rw[if_pos h1,List.append_assoc,List.getElem?_append_left (by simp;omega),List.getElem?_take,if_pos h1]
 ·rw[if_neg h1]
  by_cases h2:j<c+m.length
  ·rw[if_pos h2,List.getElem?_append_left (by simp;omega),List.getElem?_append_right (by simp;omega)]
   congr 1;simp;omega
  ·rw[if_neg h2,List.getElem?_append_right (by simp;omega),List.getElem?_drop]
   congr 1;simp;omega
theorem af.fe {α β:Type} {R:α→β→Prop} {l m:List α} {l' fh:List β} (h:af R l l') (k:af R m fh) {c:Nat} (hc:c+m.length≤l.length):
  af R (l.take c++m++l.drop (c+m.length)) (l'.take c++fh++l'.drop (c+fh.length)):=by
 have h1:=h.1
 have dk:=k.1
 refine⟨by simp;omega,fun i a b aG hb=> ?_⟩
 rw[Ba hc] at aG
 rw[Ba (by omega)] at hb
 rw[←dk] at hb
 split at aG
 ·rename_i hi;rw[if_pos hi] at hb;exact h.2 i a b aG hb
 ·rename_i hi;rw[if_neg hi] at hb
  split at aG
  ·rename_i al;rw[if_pos al] at hb;exact k.2 _ a b aG hb
  ·rename_i al;rw[if_neg al] at hb;exact h.2 i a b aG hb
theorem B_ (L:List (Nat×List AV)) (t s:Nat) (d:List AV):eB (lE L t d) s=if s=t then(eB L t).map (fun _=>d) else eB L s:=by
 induction L with
 | nil=>simp[lE,eB]
 | cons x L br=>
  obtain⟨k,c⟩:=x
  by_cases h1:t=k
  ·subst h1
   by_cases h2:s=t
   ·simp[lE,eB,h2]
   ·simp[lE,eB,h2]
  ·by_cases h2:s=k
   ·subst h2
    have: ¬s=t:=fun e=>h1 e.symm
    simp[lE,eB,h1,this]
   ·simp only[lE,if_neg h1,eB,if_neg h2,br]
theorem am5 {P:Program} {t:TypeId} {x v:AV} {L:List (Nat×List AV)} {H:List Blk} {K:List (Nat×List AV)→List Blk→Prop} {E:Env} {ja nC:Value}
  (av:SimH E H) (bC:SimL E L) (hx:V3 E x ja) (hv:V2 E v nC) (h:mM P t x v L H K):
  ∃L' H' E',K L' H'∧(Instr.storeAt t ja nC).run P E.w= .ok () E'.w∧Step E E'∧SimH E' H'∧SimL E' L'∧E'.mL=E.mL:=by
 unfold mM at h
 split at h
 case isFalse=>exact h.elim
 case isTrue hc=>
 obtain⟨hi,aB,hs⟩:=hc
 have zn:=Ix hv hs
 have ag:af (bZ E.bL) (e7 v) nC.cells.toList:=⟨zn.1,fun i a b aG hb=>O8 (List.all_eq_true.1 hs a (List.mem_of_getElem? aG)) (zn.2 i a b aG hb)⟩
 have h1: ∀y∈nC.cells.toList,y.oneCell'=true:=by
  intro y bi
  obtain⟨i,hi⟩:=List.mem_iff_getElem?.1 bi
  have u3:i<(e7 v).length:=by rw[zn.1];exact(List.getElem?_eq_some_iff.1 hi).1
  exact(zn.2 i _ y (List.getElem?_eq_getElem u3) hi).GO (List.all_eq_true.1 hs _ (List.getElem_mem u3))
 have b9:nC.cells.size=P.cellsOf t:=by rw[←aB,zn.1];simp
 have hlen:nC.cells.toList.length=(e7 v).length:=zn.1.symm
 cases x with
 | fp s c=>
  obtain⟨bl,hm,rfl⟩:=hx.C7
  obtain⟨cells,ay,ty,ax,hw,ae⟩:=bC s bl hm
  have h':cC (eB L s) fun cells=>if c+(e7 v).length≤cells.length then K (lE L s (fe cells c (e7 v))) H else False:=h
  rw[ax] at h'
  have JB:if c+(e7 v).length≤cells.length then K (lE L s (fe cells c (e7 v))) H else False:=h'
  split at JB
  case isFalse=>exact JB.elim
  case isTrue hle=>
  have aeT:cells.length=ay.size:=by rw[ae.1];simp
  have fa:=XB (P:=P) (t:=t) (o:=c) hi b9 hw (by rw[←aeT];have:nC.cells.size=(e7 v).length:=by rw[←hlen];simp
                                                omega) h1
  have fy:=Step.setRow av (.inr ⟨s,hm⟩) (ay.toList.take c++nC.cells.toList++ay.toList.drop (c+nC.cells.toList.length)).toArray
  have bU: ∀b cn,E.m b=some (some cn)→cn≠bl:=fun b cn hb e=>by subst e;exact av.gB b s cn hb hm
  refine⟨_,_,_,JB,fa,fy,?_,?_,rfl⟩
  ·exact{av with
    ft:=fun cn li=>(av.ft cn li).same (fy.le.wf cn li)
    heap:=fun b cn hb=>by
     obtain⟨blk,b4,jI,q1,cH,q2,q3,q4,cs,cD⟩:=av.heap b cn hb
     refine⟨blk,b4,jI,q1,cH,?_,q3,q4,cs,fun i j row a ao al=> ?_⟩
     ·show(E.w.setRow bl _).heap[cn]?=_
      rw[setRow_other _ _ _ _ (bU b cn hb)];exact q2
     ·obtain⟨u,hu,eX⟩:=cD i j row a ao al
      exact⟨u,hu,eX.le fy.le.bL⟩
    dP:=fun cn hc=>by rw[show(E.w.setRow bl _).heap.size=_ from setRow_size _ _ _];exact av.dP cn hc
    fq:=fun cn hc=>by rw[show(E.w.setRow bl _).heap.size=_ from setRow_size _ _ _];exact av.fq cn hc
    gr:=fun cn hc=>by rw[show(E.w.setRow bl _).heap.size=_ from setRow_size _ _ _];exact av.gr cn hc}
  ·intro jG cn oD
   by_cases he:jG=s
   ·subst he
    obtain rfl:cn=bl:=by
     have:E.mL jG=some cn:=oD
     rw[hm] at this;exact(Option.some.inj this).symm
    refine⟨fe cells c (e7 v),_,ty,?_,setRow_heap _ _ _ _ _ _ hw,?_⟩
    ·rw[B_,if_pos rfl,ax];rfl
    ·have:=af.fe (ae.mono fun _ _ k=>k.le fy.le.bL) (ag.mono fun _ _ k=>k.le fy.le.bL) hle
     simpa[fe] using this
   ·obtain⟨gL,b4,jI,q1,q2,q3⟩:=bC jG cn oD
    have J8:cn≠bl:=fun e=>by subst e;exact he (av.jt jG s cn oD hm)
    refine⟨gL,b4,jI,by rw[B_,if_neg he];exact q1,?_,q3.mono fun _ _ k=>k.le fy.le.bL⟩
    show(E.w.setRow bl _).heap[cn]?=_
    rw[setRow_other _ _ _ _ J8];exact q2
 | ptr b g r c=>
  obtain⟨blk,hb,ax,h2⟩:=fs (show cC H[b]? fun blk=>blk.bf=g∧cC blk.rows[r]? fun row=>c+(e7 v).length≤row.length∧K L (H.set b {blk with rows:=blk.rows.set r (fe row c (e7 v))}) from h)
  obtain⟨row,eH,hle,hK⟩:=fs h2
  have ky:=av.eV b blk hb
  obtain⟨bl,hm,rfl⟩:=hx.GY (ky.trans ax)
  obtain⟨blk',ay,ty,dL,nP,hw,lU,pw,gn⟩:=av.heap b bl hm
  obtain rfl:blk=blk':=by rw[hb] at dL;exact Option.some.inj dL
  have lm:row.length=E.sz b:=gn.1 r row eH
  have aok:r<blk.rows.length:=(List.getElem?_eq_some_iff.1 eH).1
  have aeM:r*E.sz b+E.sz b≤ay.size:=by
   rw[lU];calc r*E.sz b+E.sz b=(r+1)*E.sz b:=by rw[Nat.add_mul,Nat.one_mul]
    _≤E.cp b*E.sz b:=Nat.mul_le_mul_right _ (by omega)
  have oG:nC.cells.size=(e7 v).length:=by rw[←hlen];simp
  have fa:=XB (P:=P) (t:=t) (o:=r*E.sz b+c) hi b9 hw (by omega) h1
  have fy:=Step.setRow av (.inl ⟨b,hm⟩) (ay.toList.take (r*E.sz b+c)++nC.cells.toList++ay.toList.drop (r*E.sz b+c+nC.cells.toList.length)).toArray
  have r8:b<H.length:=(List.getElem?_eq_some_iff.1 hb).1
  refine⟨_,_,_,hK,fa,fy,?_,?_,rfl⟩
  ·exact{av with
    ft:=fun cn li=>(av.ft cn li).same (fy.le.wf cn li)
    heap:=fun b2 cn gm=>by
     by_cases he:b2=b
     ·subst he
      obtain rfl:cn=bl:=by
       have:E.m b2=some (some cn):=gm
       rw[hm] at this;exact(Option.some.inj (Option.some.inj this)).symm
      refine⟨{blk with rows:=blk.rows.set r (fe row c (e7 v))},_,ty,by rw[List.getElem?_set_self r8],nP,setRow_heap _ _ _ _ _ _ hw,?_,by simpa using pw,?_,?_⟩
      ·simp;omega
      ·intro i row' eX
       rw[List.getElem?_set] at eX
       split at eX
       ·rename_i J0
        cases eX
        simp[fe];omega
       ·exact gn.1 i row' eX
      ·intro i j row' a eX aG
       have mX: ∀k,(ay.toList.take (r*E.sz b2+c)++nC.cells.toList++ay.toList.drop (r*E.sz b2+c+nC.cells.toList.length)).toArray[k]?=if k<r*E.sz b2+c then ay.toList[k]? else if k<r*E.sz b2+c+nC.cells.toList.length then nC.cells.toList[k - (r*E.sz b2+c)]? else ay.toList[k]?:=by
        intro k
        rw[List.getElem?_toArray,Ba (by simp;omega)]
       rw[List.getElem?_set] at eX
       split at eX
       ·rename_i J0
        cases eX
        subst J0
        have xb:=Ba hle j
        unfold fe at aG
        rw[xb] at aG
        split at aG
        ·rename_i al
         obtain⟨u,hu,gP⟩:=gn.2 r j row a eH aG
         refine⟨u,?_,gP.le fy.le.bL⟩
         show(List.toArray _)[r*E.sz b2+j]?=_
         rw[mX,if_pos (by omega)];simpa using hu
        ·rename_i al
         split at aG
         ·rename_i Co
          obtain⟨u,hu,gP⟩:=ag.get aG
          refine⟨u,?_,gP.le fy.le.bL⟩
          show(List.toArray _)[r*E.sz b2+j]?=_
          rw[mX,if_neg (by omega),if_pos (by omega),show r*E.sz b2+j - (r*E.sz b2+c)=j - c by omega];exact hu
         ·rename_i Co
          obtain⟨u,hu,gP⟩:=gn.2 r j row a eH aG
          refine⟨u,?_,gP.le fy.le.bL⟩
          show(List.toArray _)[r*E.sz b2+j]?=_
          rw[mX,if_neg (by omega),if_neg (by omega)];simpa using hu
       ·rename_i J0
        have mY:j<E.sz b2:=by rw[←gn.1 i row' eX];exact(List.getElem?_eq_some_iff.1 aG).1
        obtain⟨u,hu,gP⟩:=gn.2 i j row' a eX aG
        refine⟨u,?_,gP.le fy.le.bL⟩
        show(List.toArray _)[i*E.sz b2+j]?=_
        rw[mX]
        rcases Nat.lt_or_ge i r with aQ | f_
        ·have:i*E.sz b2+E.sz b2≤r*E.sz b2:=by
          calc i*E.sz b2+E.sz b2=(i+1)*E.sz b2:=by rw[Nat.add_mul,Nat.one_mul]
           _≤r*E.sz b2:=Nat.mul_le_mul_right _ (by omega)
         rw[if_pos (by omega)];simpa using hu
        ·have:r*E.sz b2+E.sz b2≤i*E.sz b2:=by
          calc r*E.sz b2+E.sz b2=(r+1)*E.sz b2:=by rw[Nat.add_mul,Nat.one_mul]
           _≤i*E.sz b2:=Nat.mul_le_mul_right _ (by omega)
         rw[if_neg (by omega),if_neg (by omega)];simpa using hu
     ·obtain⟨BU,B0,ty2,q1,cH,q2,q3,q4,cs,cD⟩:=av.heap b2 cn gm
      have bU:cn≠bl:=fun e=>by subst e;exact he (av.hC b2 b cn gm hm)
      refine⟨BU,B0,ty2,by rw[List.getElem?_set_ne (fun e=>he e.symm)];exact q1,cH,?_,q3,q4,cs,fun i j row a ao al=> ?_⟩
      ·show(E.w.setRow bl _).heap[cn]?=_
       rw[setRow_other _ _ _ _ bU];exact q2
      ·obtain⟨u,hu,eX⟩:=cD i j row a ao al
       exact⟨u,hu,eX.le fy.le.bL⟩
    eV:=fun b2 BU gm=>by
     by_cases he:b=b2
     ·subst he
      rw[List.getElem?_set_self r8] at gm
      cases gm
      exact av.eV b blk hb
     ·rw[List.getElem?_set_ne he] at gm
      exact av.eV b2 BU gm
    ha:=fun b2 gm=>by
     obtain⟨BU,q,j1⟩:=av.ha b2 gm
     by_cases he:b=b2
     ·subst he
      rw[hm] at gm;cases gm
     ·exact⟨BU,by rw[List.getElem?_set_ne he];exact q,j1⟩
    fresh:=fun b2 gm=>av.fresh b2 (by simpa using gm)
    dP:=fun cn hc=>by rw[show(E.w.setRow bl _).heap.size=_ from setRow_size _ _ _];exact av.dP cn hc
    fq:=fun cn hc=>by rw[show(E.w.setRow bl _).heap.size=_ from setRow_size _ _ _];exact av.fq cn hc
    gr:=fun cn hc=>by rw[show(E.w.setRow bl _).heap.size=_ from setRow_size _ _ _];exact av.gr cn hc}
  ·intro jG cn oD
   obtain⟨gL,b4,jI,q1,q2,q3⟩:=bC jG cn oD
   have J8:cn≠bl:=fun e=>by subst e;exact av.gB b jG cn hm oD
   refine⟨gL,b4,jI,q1,?_,q3.mono fun _ _ k=>k.le fy.le.bL⟩
   show(E.w.setRow bl _).heap[cn]?=_
   rw[setRow_other _ _ _ _ J8];exact q2
 | _=>exact h.elim
structure mc (E E':Env):Prop where
 step:Step E E'
 m:E'.m=E.m
 mL:E'.mL=E.mL
 bf:E'.bf=E.bf
 sz:E'.sz=E.sz
 cp:E'.cp=E.cp
 dF: ∀c,c<E.w.heap.size→E'.w.heap[c]?=E.w.heap[c]?
 fG: ∀c,E'.PA c→E.PA c∨(E.w.heap.size≤c∧c<E'.w.heap.size)
 dA: ∀c,E'.PF c→E'.PA c
 ft: ∀c,E'.PF c→Plain E'.w c
theorem mc.refl {E:Env} {H:List Blk} (h:SimH E H):mc E E:=⟨.refl E,rfl,rfl,rfl,rfl,rfl,fun _ _=>rfl,fun _ h=> .inl h,h.dA,h.ft⟩
theorem mc.simH {E E':Env} {H:List Blk} (q:mc E E') (h:SimH E H):SimH E' H where
 heap:=fun b c hb=>by
  rw[q.m] at hb
  obtain⟨blk,ay,ty,q1,cH,q2,q3,q4,cs,cD⟩:=h.heap b c hb
  refine⟨blk,ay,ty,q1,by rw[q.sz];exact cH,?_,by rw[q.cp,q.sz];exact q3,by rw[q.cp];exact q4,by rw[q.sz];exact cs,fun i j row a ao al=> ?_⟩
  ·rw[q.dF c (h.fq c ⟨b,hb⟩)];exact q2
  ·obtain⟨u,hu,eX⟩:=cD i j row a ao al
   exact⟨u,by rw[q.sz];exact hu,eX.le q.step.le.bL⟩
 eV:=by rw[q.bf];exact h.eV
 ha:=by rw[q.m,q.sz];exact h.ha
 fresh:=by rw[q.m,q.bf];exact h.fresh
 hC:=by rw[q.m];exact h.hC
 jt:=by rw[q.mL];exact h.jt
 gB:=by rw[q.m,q.mL];exact h.gB
 hF:=fun c hc ⟨b,hb⟩=>by
  rw[q.m] at hb
  rcases q.fG c hc with hc | ⟨hc,_⟩
  ·exact h.hF c hc ⟨b,hb⟩
  ·have:=h.fq c ⟨b,hb⟩;omega
 ii:=fun c hc ⟨b,hb⟩=>by
  rw[q.mL] at hb
  rcases q.fG c hc with hc | ⟨hc,_⟩
  ·exact h.ii c hc ⟨b,hb⟩
  ·have:=h.gr c ⟨b,hb⟩;omega
 dA:=q.dA
 ft:=q.ft
 dP:=fun c hc=>by
  rcases q.fG c hc with hc | ⟨_,hc⟩
  ·exact Nat.lt_of_lt_of_le (h.dP c hc) q.step.size
  ·exact hc
 fq:=fun c ⟨b,hb⟩=>by rw[q.m] at hb;exact Nat.lt_of_lt_of_le (h.fq c ⟨b,hb⟩) q.step.size
 gr:=fun c ⟨b,hb⟩=>by rw[q.mL] at hb;exact Nat.lt_of_lt_of_le (h.gr c ⟨b,hb⟩) q.step.size
theorem mc.simL {E E':Env} {H:List Blk} {L:List (Nat×List AV)} (q:mc E E') (h:SimH E H) (l:SimL E L):SimL E' L:=fun t c hm=>by
 rw[q.mL] at hm
 obtain⟨cells,ay,ty,q1,q2,q3⟩:=l t c hm
 exact⟨cells,ay,ty,q1,by rw[q.dF c (h.gr c ⟨t,hm⟩)];exact q2,q3.mono fun _ _ k=>k.le q.step.le.bL⟩
def EF (op:BinOp) (k:IntKind) (a b:Int) (K:AV→Prop):Prop:=match op with
 | .add=>K (.int k (k.wrap (a+b)))
 | .sub=>K (.int k (k.wrap (a - b)))
 | .mul=>K (.int k (k.wrap (a*b)))
 | .quo=>b≠0∧K (.int k (k.wrap (a.tdiv b)))
 | .rem=>b≠0∧K (.int k (a.tmod b))
 | .and=>K (.int k (k.wrap (BitVec.ofInt k.bits a&&&BitVec.ofInt k.bits b).toNat))
 | .eql=>K (.bool (a==b))
 | .neq=>K (.bool (a !=b))
 | .lss=>K (.bool (decide (a<b)))
 | .leq=>K (.bool (decide (a≤b)))
 | .gtr=>K (.bool (decide (a>b)))
 | .geq=>K (.bool (decide (a ≥ b)))
 | _=>False
def two (P:Program) (t:TypeId):Bool:=
 match P.underlying t with
 | some (.struct eA)=> !P.stoodInHeld t&& !P.eqGuardType P.depth t&&(match eA.toList with
  | [f,g]=>f.name != "_" &&g.name != "_" &&f.offset==0&&g.offset==1&&(P.underlying f.type matches some (.int .i64))&&(P.underlying g.type matches some (.int .i64))
  | _=>false)
 | _=>false
def EG (op:BinOp) (k:IntKind) (a:Int) (k2:IntKind) (b:Int) (K:AV→Prop):Prop:=match op with
 | .shl=>0≤b∧K (.int k (k.wrap (a*2 ^ (min b.toNat k.bits))))
 | .shr=>0≤b∧K (.int k (a.fdiv (2 ^ (min b.toNat k.bits))))
 | op=>if k=k2 then EF op k a b K else False
def UG (P:Program) (t:TypeId):Bool:=match P.underlying t with
 | some .bool=>true
 | _=>false
def Ik (P:Program) (op:BinOp) (t:TypeId) (a b:Bool) (K:AV→Prop):Prop:=if UG P t=true then(match op with
  | .eql=>K (.bool (a==b))
  | .neq=>K (.bool (a !=b))
  | _=>False) else False
def Im (op:BinOp) (a b:ByteArray) (K:AV→Prop):Prop:=match op with
  | .add=>a.size+b.size≤9223372036854775807∧K (.str (a++b))
  | .eql=>K (.bool (a.toList==b.toList))
  | .neq=>K (.bool (!(a.toList==b.toList)))
  | _=>False
def Io (op:BinOp) (a b c d:Int) (K:AV→Prop):Prop:=match op with
  | .eql=>K (.bool (a==c&&b==d))
  | .neq=>K (.bool (!(a==c&&b==d)))
  | _=>False
def Bj:List AV→Option (Int×Int)
 | [.int .i64 a,.int .i64 b]=>some (a,b)
 | _=>none
def jp (P:Program) (t:TypeId):Option TypeId:=match P.underlying t with
 | some (.slice e)=>some e
 | _=>none
def sw:Operand→Bool
 | .const (.slice none 0 0)=>true
 | _=>false
def Il (P:Program) (op:BinOp) (t:TypeId) (rows:List (List AV)) (uB:Bool) (K:AV→Prop):Prop:=
 if uB=true∧(jp P t).isSome=true then(match op with
  | .eql=>(rows≠[]→K (.bool false))∧(rows=[]→ ∀b,K (.bool b))
  | _=>False) else False
def uP (P:Program) (op:BinOp) (t:TypeId) (x y:AV) (uB:Bool) (K:AV→Prop):Prop:=match x with
 | .int k a=>(match y with
  | .int k2 b=>EG op k a k2 b K
  | _=>False)
 | .bool a=>(match y with
  | .bool b=>Ik P op t a b K
  | _=>False)
 | .str a=>(match y with
  | .str b=>Im op a b K
  | _=>False)
 | .agg l=>(match y with
  | .agg m=>if two P t=true then cC (Bj l) fun p=>cC (Bj m) fun q=>Io op p.1 p.2 q.1 q.2 K else False
  | _=>False)
 | .aX rows _ _=>Il P op t rows uB K
 | _=>False
theorem I3 {op:BinOp} {t:TypeId} {x y:Operand} {k k2:IntKind} {a b:Int} {P:Program} {w:World}:(eqGuard op t x y (.int k a) (.int k2 b)).run P w= .ok () w:=by
 unfold eqGuard;cases op<;>rfl
theorem QV {op:BinOp} {t:TypeId} {x y:Operand} {a b:Bool} {P:Program} {w:World}:(eqGuard op t x y (.bool a) (.bool b)).run P w= .ok () w:=by
 unfold eqGuard;cases op<;>rfl
theorem I4 {op:BinOp} {t:TypeId} {x y:Operand} {a b:ByteArray} {P:Program} {w:World}:(eqGuard op t x y (.string a) (.string b)).run P w= .ok () w:=by
 unfold eqGuard;cases op<;>rfl
theorem acV {op:BinOp} {t:TypeId} {x y:Operand} {A B:Option Addr} {n m c d:Nat} {P:Program} {w:World}:(eqGuard op t x y (.slice A n c) (.slice B m d)).run P w= .ok () w:=by
 unfold eqGuard;cases op<;>rfl
theorem QU {op:BinOp} {t:TypeId} {x y:Operand} {A B:Array Value} {P:Program} {w:World} (h:P.eqGuardType P.depth t=false):(eqGuard op t x y (.agg A) (.agg B)).run P w= .ok () w:=by
 unfold eqGuard;cases op<;>first | rfl | simp[h]
theorem akD {P:Program} {w:World} {op:BinOp} {t:TypeId} {k:IntKind} {a b:Int} {K:AV→Prop} (h:EF op k a b K):
  ∃r u,K r∧(binOp op t (.int k a) (.int k b)).run P w= .ok u w∧ ∀E:Env,V3 E r u:=by
 cases op<;>simp only[EF] at h
 case add=>exact⟨_,_,h,by simp[binOp,Op.intArith],fun E=>aY.int _ _⟩
 case sub=>exact⟨_,_,h,by simp[binOp,Op.intArith],fun E=>aY.int _ _⟩
 case mul=>exact⟨_,_,h,by simp[binOp,Op.intArith],fun E=>aY.int _ _⟩
 case quo=>exact⟨_,_,h.2,by simp[binOp,Op.intDiv,h.1],fun E=>aY.int _ _⟩
 case rem=>exact⟨_,_,h.2,by simp[binOp,Op.intDiv,h.1],fun E=>aY.int _ _⟩
 case and=>exact⟨_,_,h,by simp[binOp,Op.intBits],fun E=>aY.int _ _⟩
 case eql=>exact⟨_,_,h,by simp[binOp,Op.intCmp],fun E=>aY.bool _⟩
 case neq=>exact⟨_,_,h,by simp[binOp,Op.intCmp],fun E=>aY.bool _⟩
 case lss=>exact⟨_,_,h,by simp[binOp,Op.intCmp],fun E=>aY.bool _⟩
 case leq=>exact⟨_,_,h,by simp[binOp,Op.intCmp],fun E=>aY.bool _⟩
 case gtr=>exact⟨_,_,h,by simp[binOp,Op.intCmp],fun E=>aY.bool _⟩
 case geq=>exact⟨_,_,h,by simp[binOp,Op.intCmp],fun E=>aY.bool _⟩
theorem Z1 {P:Program} {t:TypeId} (h:two P t=true): ∃f g:Field,P.underlying t=some (.struct (P.fieldsOf t))∧(P.fieldsOf t).toList=[f,g]∧P.stoodInHeld t=false∧P.eqGuardType P.depth t=false∧
  f.name≠ "_" ∧g.name≠ "_" ∧f.offset=0∧g.offset=1∧P.underlying f.type=some (.int .i64)∧P.underlying g.type=some (.int .i64):=by
 unfold two at h
 split at h
 ·rename_i eA pz
  have hf:P.fieldsOf t=eA:=by simp[Program.fieldsOf,pz]
  simp only[Bool.and_eq_true,Bool.not_eq_true'] at h
  obtain⟨⟨h1,h2⟩,au⟩:=h
  split at au
  ·rename_i f g aw
   simp only[Bool.and_eq_true,bne_iff_ne,ne_eq,beq_iff_eq] at au
   obtain⟨⟨⟨⟨⟨q1,q2⟩,q3⟩,q4⟩,cs⟩,cD⟩:=au
   refine⟨f,g,by rw[hf];exact pz,by rw[hf];exact aw,h1,h2,q1,q2,q3,q4,?_,?_⟩
   ·split at cs
    ·assumption
    ·cases cs
   ·split at cD
    ·assumption
    ·cases cD
  ·cases au
 ·cases h
theorem XC {P:Program} {t:TypeId} (h:two P t=true) (a b c d:Int) (w:World):
  (Op.equal t (.agg #[.int .i64 a,.int .i64 b]) (.agg #[.int .i64 c,.int .i64 d])).run P w= .ok (a==c&&b==d) w:=by
 obtain⟨f,g,h1,h2,au,a8,bQ,cv,gO,tp,wS,uZ⟩:=Z1 h
 show(Op.equalIn (9999+1) t _ _).run P w=_
 rw[run_equalIn_struct w 9999 t _ _ h1 au,h2]
 have fz: ∀(hJ:TypeId) (ay:Array Value) (o:Nat) (u:Value),P.underlying hJ=some (.int .i64)→ay[o]?=some u→(part hJ ay o).run P w= .ok u w:=by
  intro hJ ay o u hu hc
  simp[part,Go.isAgg,run_underlying hu,hc]
 simp only[Op.eqFields,if_pos bQ,if_pos cv,gO,tp,Sem.run_bind]
 rw[fz f.type #[.int .i64 a,.int .i64 b] 0 (.int .i64 a) wS rfl]
 simp only[Result.andThen_ok]
 rw[fz f.type #[.int .i64 c,.int .i64 d] 0 (.int .i64 c) wS rfl]
 simp only[Result.andThen_ok]
 rw[show(9999:Nat)=9998+1 from rfl,run_equalIn_int w 9998 f.type .i64 .i64 a c wS]
 simp only[Result.andThen_ok]
 cases aob:(a==c)
 ·simp
 ·simp only[Bool.not_true,Bool.false_eq_true,if_false,Sem.run_bind]
  rw[fz g.type #[.int .i64 a,.int .i64 b] 1 (.int .i64 b) uZ rfl]
  simp only[Result.andThen_ok]
  rw[fz g.type #[.int .i64 c,.int .i64 d] 1 (.int .i64 d) uZ rfl]
  simp only[Result.andThen_ok]
  rw[run_equalIn_int w 9998 g.type .i64 .i64 b d uZ]
  cases aod:(b==d)<;>simp
theorem V3.Z0 {E:Env} {a b:Int} {v:Value} (h:V3 E (.agg [.int .i64 a,.int .i64 b]) v):v= .agg #[.int .i64 a,.int .i64 b]:=by
 obtain⟨vs,rfl,ae⟩:=(h:V2 E (.agg [.int .i64 a,.int .i64 b]) v)
 obtain⟨x,vs,rfl,hx,ae⟩:=ae.cons_inv
 obtain⟨y,vs,rfl,bi,ae⟩:=ae.cons_inv
 obtain rfl:=ae.oQ
 have iR:aY E.w E.PA E.PF (.int .i64 a) x:=hx
 have afW:aY E.w E.PA E.PF (.int .i64 b) y:=bi
 cases iR;cases afW;rfl
theorem ZZ {l:List AV} {p:Int×Int} (h:Bj l=some p):l=[.int .i64 p.1,.int .i64 p.2]:=by
 unfold Bj at h
 split at h
 ·cases h;rfl
 ·cases h
theorem uT {P:Program} {t e:TypeId} (h:jp P t=some e):P.underlying t=some (.slice e):=by
 unfold jp at h
 split at h
 ·cases h;assumption
 ·cases h
theorem abk {P:Program} {op:BinOp} {t:TypeId} {X Y:Operand} {PC BC:AV} {ja HZ:Value} {E:Env} {K:AV→Prop}
  {uB:Bool} (hx:V3 E PC ja) (bi:V3 E BC HZ) (Kq:uB=true→HZ= .slice none 0 0) (h:uP P op t PC BC uB K):
  ∃r u,K r∧(do eqGuard op t X Y ja HZ;binOp op t ja HZ:Sem Value).run P E.w= .ok u E.w∧V3 E r u:=by
 cases PC with
 | int k a=>
  cases BC with
  | int k2 b=>
   replace h:EG op k a k2 b K:=h
   obtain rfl:=hx.my
   obtain rfl:=bi.my
   cases op
   case shl=>
    obtain⟨hb,h⟩:=h
    have dL: ¬b<0:=by omega
    exact⟨_,_,h,by simp[I3,binOp,Op.shift,dL],aY.int _ _⟩
   case shr=>
    obtain⟨hb,h⟩:=h
    have dL: ¬b<0:=by omega
    exact⟨_,_,h,by simp[I3,binOp,Op.shift,dL],aY.int _ _⟩
   all_goals
    simp only[EG] at h
    split at h
    ·rename_i hk
     subst hk
     obtain⟨r,u,hK,ao,hv⟩:=akD (P:=P) (w:=E.w) (t:=t) h
     exact⟨r,u,hK,by simp only[Sem.run_bind,I3,Result.andThen_ok,ao],hv E⟩
    ·exact h.elim
  | _=>exact h.elim
 | bool a=>
  cases BC with
  | bool b=>
   replace h:Ik P op t a b K:=h
   obtain rfl:=hx.pj
   obtain rfl:=bi.pj
   unfold Ik at h
   split at h
   ·rename_i hu
    have m_:P.underlying t=some .bool:=by
     unfold UG at hu
     split at hu
     ·assumption
     ·cases hu
    cases op<;>first | exact h.elim | skip
    case eql=>exact⟨_,_,h,by simp only[Sem.run_bind,QV,Result.andThen_ok,binOp,Op.equal];rw[show Op.maxDepth=9999+1 from rfl,run_equalIn_bool' E.w 9999 t a b m_];rfl,aY.bool _⟩
    case neq=>exact⟨_,_,h,by simp only[Sem.run_bind,QV,Result.andThen_ok,binOp,Op.equal];rw[show Op.maxDepth=9999+1 from rfl,run_equalIn_bool' E.w 9999 t a b m_];rfl,aY.bool _⟩
   ·exact h.elim
  | _=>exact h.elim
 | str a=>
  cases BC with
  | str b=>
   replace h:Im op a b K:=h
   obtain rfl:=hx.Bc
   obtain rfl:=bi.Bc
   cases op<;>first | exact h.elim | skip
   case add=>
    obtain⟨aw,h⟩:=h
    have: ¬((a.size+b.size:Nat):Int)>IntKind.i64.max:=by
     have:IntKind.i64.max=9223372036854775807:=by decide
     rw[this];omega
    exact⟨_,_,h,by simp only[Sem.run_bind,I4,Result.andThen_ok,binOp,Op.stringOp];rw[if_neg this];rfl,aY.str _⟩
   case eql=>exact⟨_,_,h,by simp only[Sem.run_bind,I4,Result.andThen_ok,binOp,Op.stringOp];rfl,aY.bool _⟩
   case neq=>exact⟨_,_,h,by simp only[Sem.run_bind,I4,Result.andThen_ok,binOp,Op.stringOp];rfl,aY.bool _⟩
  | _=>exact h.elim
 | agg l=>
  cases BC with
  | agg m=>
   replace h:if two P t=true then cC (Bj l) fun p=>cC (Bj m) fun q=>Io op p.1 p.2 q.1 q.2 K else False:=h
   split at h
   ·rename_i a6
    obtain⟨⟨a,b⟩,ae,h⟩:=fs h
    obtain⟨⟨c,d⟩,U,h⟩:=fs h
    obtain rfl:=ZZ ae
    obtain rfl:=ZZ U
    obtain rfl:=hx.Z0
    obtain rfl:=bi.Z0
    obtain⟨f,g,h1,h2,au,a8,_⟩:=Z1 a6
    cases op<;>first | exact h.elim | skip
    case eql=>exact⟨_,_,h,by simp only[Sem.run_bind,QU a8,Result.andThen_ok,binOp,XC a6];rfl,aY.bool _⟩
    case neq=>exact⟨_,_,h,by simp only[Sem.run_bind,QU a8,Result.andThen_ok,binOp,XC a6];rfl,aY.bool _⟩
   ·exact h.elim
  | _=>exact h.elim
 | aX rows dK fr=>
  replace h:Il P op t rows uB K:=h
  unfold Il at h
  split at h
  ·rename_i hc
   obtain⟨ag,he⟩:=hc
   obtain⟨e,he⟩:=Option.isSome_iff_exists.1 he
   have hu:=uT he
   obtain rfl:=Kq ag
   have iR:aY E.w E.PA E.PF (.aX rows dK fr) ja:=hx
   cases iR with
   | @aX _ _ _ _ _ _ A cap sz vs eW fl fK b9 dt hrel=>
   have fa:(do eqGuard op t X Y (.slice A rows.length cap) (.slice none 0 0);binOp .eql t (.slice A rows.length cap) (.slice none 0 0):Sem Value).run P E.w= .ok (.bool A.isNone) E.w:=by
    simp only[Sem.run_bind,acV,Result.andThen_ok,binOp,Op.equal]
    rw[show Op.maxDepth=9999+1 from rfl]
    generalize 9999=d
    simp only[Op.equalIn,Sem.run_bind,run_underlying hu,Result.andThen_ok]
    cases A<;>rfl
   cases op<;>first | exact h.elim | skip
   case eql=>
    obtain⟨h1,h2⟩:=h
    by_cases ao:rows=[]
    ·exact⟨_,_,h2 ao A.isNone,fa,aY.bool _⟩
    ·have:0<rows.length:=by cases rows<;>simp_all
     obtain⟨c,o,rfl,_⟩:=dt this
     exact⟨_,_,h1 ao,fa,aY.bool _⟩
  ·exact h.elim
 | _=>exact h.elim
theorem Ro (off:Nat): ∀(l:List Value) (k:Nat) (cells:Array Value),off+k+l.length≤cells.size→
  (((l.zipIdx k).foldl (fun ay (x:Value×Nat)=>ay.setIfInBounds (off+x.2) x.1) cells).size=cells.size∧
  ∀i,((l.zipIdx k).foldl (fun ay (x:Value×Nat)=>ay.setIfInBounds (off+x.2) x.1) cells)[i]?=if i<off+k then cells[i]? else if i<off+k+l.length then l[i - (off+k)]? else cells[i]?)
 | [],k,cells,_=>⟨rfl,fun i=>by simp;omega⟩
 | v::l,k,cells,h=>by
  have h':off+(k+1)+l.length≤(cells.setIfInBounds (off+k) v).size:=by simp at h ⊢;omega
  obtain⟨h1,h2⟩:=Ro off l (k+1) (cells.setIfInBounds (off+k) v) h'
  refine⟨by simp only[List.zipIdx_cons,List.foldl_cons];rw[h1];simp,fun i=> ?_⟩
  simp only[List.zipIdx_cons,List.foldl_cons]
  rw[h2 i]
  simp only[Array.getElem?_setIfInBounds,List.length_cons] at*
  by_cases J:i<off+k
  ·rw[if_pos (by omega),if_neg (by omega),if_pos J]
  ·by_cases a2:i=off+k
   ·subst a2
    rw[if_pos (by omega),if_pos rfl,if_pos (by omega),if_neg (by omega),if_pos (by omega)]
    simp
   ·by_cases a3:i<off+(k+1)+l.length
    ·rw[if_neg (by omega),if_pos a3,if_neg J,if_pos (by omega),show i - (off+k)=(i - (off+(k+1)))+1 by omega]
     simp
    ·rw[if_neg (by omega),if_neg a3,if_neg (by omega),if_neg J,if_neg (by omega)]
def qR (pl:Nat→Option (Nat×Nat)) (cells:List AV):List (Nat×AV)→Option (List AV)
 | []=>some cells
 | (i,v)::rest=>match pl i with
  | none=>none
  | some (off,size)=>if(e7 v).length=size∧off+(e7 v).length≤cells.length∧(e7 v).all jo=true then qR pl (fe cells off (e7 v)) rest else none
theorem Fg {E:Env} {pl:Nat→Option (Nat×Nat)}: ∀{parts:List (Nat×AV)} {kN:List (Nat×Value)} {cells:List AV} {wj:Array Value} {r:List AV},
  af (fun a b=>a.1=b.1∧V2 E a.2 b.2) parts kN→af (bZ E.bL) cells wj.toList→qR pl cells parts=some r→ ∃hI,Instr.fill pl wj kN=some hI∧af (bZ E.bL) r hI.toList
 | [],kN,cells,wj,r,ae,hc,h=>by
  obtain rfl:=ae.oQ
  cases h
  exact⟨wj,rfl,hc⟩
 | (i,v)::rest,kN,cells,wj,r,ae,hc,h=>by
  obtain⟨⟨ji,u⟩,aow,rfl,⟨hi,hv⟩,u_⟩:=ae.cons_inv
  simp only at hi hv
  subst hi
  unfold qR at h
  split at h
  ·cases h
  ·rename_i off size iC
   split at h
   ·rename_i p9
    obtain⟨h1,h2,au⟩:=p9
    have tu:=Ix hv au
    have aeS:af (bZ E.bL) (e7 v) u.cells.toList:=⟨tu.1,fun i a b aG hb=>O8 (List.all_eq_true.1 au a (List.mem_of_getElem? aG)) (tu.2 i a b aG hb)⟩
    have b9:u.cells.size=(e7 v).length:=by rw[tu.1];simp
    have pw:cells.length=wj.size:=by rw[hc.1];simp
    obtain⟨f1,f2⟩:=Ro off u.cells.toList 0 wj (by simp;omega)
    simp only[Nat.add_zero] at f1 f2
    have zw:af (bZ E.bL) (fe cells off (e7 v)) ((u.cells.toList.zipIdx).foldl (fun ay (x:Value×Nat)=>ay.setIfInBounds (off+x.2) x.1) wj).toList:=by
     have hs:=af.fe hc aeS h2
     refine⟨?_,fun k a b aG hb=> ?_⟩
     ·simp only[Array.length_toList];rw[f1];simp[fe];omega
     ·refine hs.2 k a b aG ?_
      rw[Ba (by simp;omega)]
      rw[Array.getElem?_toList,f2 k] at hb
      simpa using hb
    obtain⟨hI,ao,hrel⟩:=Fg u_ zw h
    refine⟨hI,?_,hrel⟩
    unfold Instr.fill
    rw[iC]
    simp only
    rw[if_neg (by simp;omega)]
    rw[←Array.foldl_toList,Array.toList_zipIdx]
    exact ao
   ·cases h
def oo (P:Program) (t:TypeId):Option (List AV):=((P.info? t).bind (·.zero)).map fun z=>z.cells.toList.map p6
theorem acj (E:Env) (v:Value):bZ E (p6 v) v:=by
 unfold p6
 split
 ·exact aY.int _ _
 ·exact aY.bool _
 ·exact aY.str _
 ·exact aY.aX (PB:=fun _=>False) (sz:=0) (vs:=fun _ _=>undef) (fun _ h=>h.elim) ⟨Nat.le_refl _,Nat.zero_le _⟩ (fun _=>rfl) (fun i row h=>by simp at h) (fun h=>by simp at h) (fun i j row a h=>by simp at h)
 ·exact aY.fT
 ·exact aY.gu
 ·exact aY.undef _
theorem yy {E:Env} {P:Program} {t:TypeId} {z:List AV} (h:oo P t=some z): ∃i v,P.info? t=some i∧i.zero=some v∧z=v.cells.toList.map p6∧af (bZ E) z v.cells.toList:=by
 unfold oo at h
 cases hi:P.info? t with
 | none=>simp[hi] at h
 | some i=>
  cases aB:i.zero with
  | none=>simp[hi,aB] at h
  | some v=>
   simp[hi,aB] at h
   subst h
   refine⟨i,v,rfl,aB,rfl,by simp,fun k a b aG hb=> ?_⟩
   rw[List.getElem?_map,hb] at aG
   simp at aG;subst aG;exact acj E b
def Mu (P:Program) (t:TypeId):Option (List (Nat×Nat)):=match P.underlying t with
 | some (.struct eA)=>eA.toList.mapM (fun f=>(P.info? f.type).map fun i=>(f.offset,i.size))
 | _=>none
def Is (P:Program) (t:TypeId) (parts:List (Nat×AV)) (K:AV→Prop):Prop:=
 cC (oo P t) fun z=>cC (Mu P t) fun pl=>cC (qR (fun i=>pl[i]?) z parts) fun cells=>K (.agg cells)
theorem aby {P:Program} {E:Env} {t:TypeId} {parts:List (Nat×AV)} {kN:List (Nat×Value)} {K:AV→Prop} (ae:af (fun a b=>a.1=b.1∧V2 E a.2 b.2) parts kN) (h:Is P t parts K):
  ∃r u,K r∧(Instr.build t kN.toArray).run P E.w= .ok u E.w∧V3 E r u:=by
 obtain⟨z,aB,h⟩:=fs h
 obtain⟨pl,iC,h⟩:=fs h
 obtain⟨cells,hf,h⟩:=fs h
 obtain⟨i,v,h1,h2,au,a8⟩:=yy (E:=E.bL) aB
 obtain⟨hI,ao,hrel⟩:=Fg ae a8 hf
 refine⟨_,.agg hI,h,run_build E.w t kN.toArray hI ?_,hI.toList,by simp,hrel.mono fun _ _ k=>k.up⟩
 unfold Mu at iC
 split at iC
 ·rename_i eA pz
  unfold Program.built
  rw[h1,pz]
  simp only[h2,iC]
  simpa using ao
 ·cases iC
def jQ:AV→Bool
 | .int _ _ | .bool _ | .str _ | .aX _ _ _ | .fT | .gu=>true
 | _=>false
def pt:AV→Bool
 | .aX _ _ fr=>fr
 | _=>true
def jL:AV→AV
 | .aX rows _ _=> .aX rows false false
 | a=>a
def qo:AV→AV
 | .aX rows full _=> .aX rows full true
 | a=>a
theorem akp {w:World} {PB PA PF:Nat→Prop} {a:AV} {v:Value} (h:aY w PB (fun _=>False) a v) (hb: ∀c,PB c→PF c) (J_: ∀c,PF c→PA c):aY w PA PF (qo a) v:=by
 have key:(∀rows full fr,a≠ .aX rows full fr)→aY w PA PF (qo a) v:=fun bU=>by
  have e:qo a=a:=by cases a<;>first | rfl | exact absurd rfl (bU _ _ _)
  rw[e]
  exact h.mono (fun _ _=>rfl) (fun _ h=>h.elim) (fun c hc=>J_ c (hb c hc)) (fun _ h=>h.elim)
 cases a with
 | aX rows full fr=>
  cases h with
  | aX eW fl fK b9 dt hrel=>
   exact .aX (fun c hc=>by
    have:=eW c hc
    rw[if_pos rfl]
    split at this
    ·exact this.elim
    ·exact hb c this) fl fK b9 dt hrel
 | _=>exact key (fun _ _ _ e=>by cases e)
theorem Pq {w:World} {PA PF PB:Nat→Prop} {a:AV} {v:Value} (aG:jQ a=true) (h:aY w PA PF a v) (hb: ∀c,PA c→PB c) (J_: ∀c,PF c→PA c):aY w PB (fun _=>False) (jL a) v:=by
 cases h with
 | undef=>cases aG
 | int=>exact .int _ _
 | bool=>exact .bool _
 | str=>exact .str _
 | aX eW fl fK b9 dt hrel=>
  exact .aX (fun c hc=>by
   have:=eW c hc
   simp only[Bool.false_eq_true,if_false]
   split at this
   ·exact hb c (J_ c this)
   ·exact hb c this) fl (fun h=>by cases h) b9 dt hrel
 | dh=>cases aG
 | fT=>exact .fT
 | gu=>exact .gu
 | fn=>cases aG
theorem Z5 {w:World} {PA PF:Nat→Prop} {a:AV} {v:Value} (aG:jQ a=true) (hf:pt a=true) (h:aY w PA PF a v):aY w PF (fun _=>False) (jL a) v:=by
 cases h with
 | undef=>cases aG
 | int=>exact .int _ _
 | bool=>exact .bool _
 | str=>exact .str _
 | @aX _ _ PB rows full fresh A cap sz vs eW fl fK b9 dt hrel=>
  have r_:fresh=true:=hf
  subst r_
  exact .aX (fun c hc=>by simpa using eW c hc) fl (fun h=>by cases h) b9 dt hrel
 | dh=>cases aG
 | fT=>exact .fT
 | gu=>exact .gu
 | fn=>cases aG
def chunk (size n:Nat) (cells:List AV):List (List AV):=(List.range n).map fun i=>(cells.drop (i*size)).take size
def y0 (P:Program) (t:TypeId) (n:Nat) (parts:List (Nat×AV)) (K:AV→Prop):Prop:=
 cC (jp P t) fun e=>cC (oo P e) fun z=>if z.length=P.cellsOf e∧n*z.length≤1000000∧n≤1000000 then
  cC (qR (fun i=>some (i*z.length,z.length)) ((List.range (n*z.length)).map fun i=>z.getD (i%z.length) .undef) parts) fun cells=>
   if cells.all jQ=true then K (.aX (chunk z.length n (cells.map jL)) true (cells.all pt)) else False
 else False
theorem EK {E:Env} {a:AV} {v:Value} (aG:jQ a=true) (h:bZ E a v):aY E.w E.PA E.PF a v:=by
 cases a<;>first | exact h | cases aG
theorem Qz {size n i j:Nat} {cells row:List AV} {a:AV} (ao:(chunk size n cells)[i]?=some row) (al:row[j]?=some a):i<n∧j<size∧cells[i*size+j]?=some a:=by
 unfold chunk at ao
 rw[List.getElem?_map] at ao
 cases w9:(List.range n)[i]? with
 | none=>simp[w9] at ao
 | some k=>
  have hi:i<n:=by have:=(List.getElem?_eq_some_iff.1 w9).1;simpa using this
  rw[List.getElem?_range hi] at w9
  cases w9
  rw[List.getElem?_range hi] at ao
  simp at ao
  subst ao
  rw[List.getElem?_take] at al
  split at al
  ·rw[List.getElem?_drop] at al
   exact⟨hi,by assumption,al⟩
  ·cases al
theorem s9 (w:World) (o:Obj) (c:Nat) (h:c<w.heap.size):(w.alloc o).heap[c]?=w.heap[c]?:=Go.RowKit.Below.heap_alloc w o c h
theorem uK (w:World) (o:Obj):(w.alloc o).heap[w.heap.size]?=some o:=by
 show(w.heap.push o)[w.heap.size]?=_
 simp
theorem mc.alloc {E:Env} {H:List Blk} (av:SimH E H) {o:Obj} (ai: ∃ay ty,o= .cells ay ty (0,0)):
  mc E {E with w:=E.w.alloc o,PA:=fun c=>E.PA c∨c=E.w.heap.size,PF:=fun c=>E.PF c∨c=E.w.heap.size} where
 step:=⟨⟨fun _ h=> .inl h,fun _ h=> .inl h,fun c hc=>s9 _ _ _ (av.dP c hc),fun c hc=>s9 _ _ _ (av.dP c (av.dA c hc)),fun _=>Nat.le_refl _,fun _ _ h _=>⟨h,rfl,rfl⟩,fun _ _ h=>h⟩,
  rfl,rfl,rfl,by simp,fun c hc _ _=>s9 _ _ _ hc,fun _ _ h=> .inl h,fun _ h=> .inl h,fun c hc=>hc.elim .inl (fun e=> .inr (by omega)),fun c hc=>hc.elim .inl (fun e=> .inr (by omega))⟩
 m:=rfl
 mL:=rfl
 bf:=rfl
 sz:=rfl
 cp:=rfl
 dF:=fun c hc=>s9 _ _ _ hc
 fG:=fun c hc=>hc.elim .inl (fun e=> .inr (by simp;omega))
 dA:=fun c hc=>hc.elim (fun h=> .inl (av.dA c h)) .inr
 ft:=fun c hc=>hc.elim (fun h=>(av.ft c h).same (s9 _ _ _ (av.dP c (av.dA c h)))) fun e=>by
  obtain⟨ay,ty,rfl⟩:=ai
  subst e;exact⟨ay,ty,uK _ _⟩
theorem abw {P:Program} {E:Env} {t:TypeId} {e:TypeId} {n:Nat} {z:List AV} {parts:List (Nat×AV)} {kN:List (Nat×Value)} {cells:List AV} (ae:af (fun a b=>a.1=b.1∧V2 E a.2 b.2) parts kN) (he:jp P t=some e) (aB:oo P e=some z)
  (pA:z.length=P.cellsOf e) (aeL:n*z.length≤1000000∧n≤1000000) (hf:qR (fun i=>some (i*z.length,z.length)) ((List.range (n*z.length)).map fun i=>z.getD (i%z.length) .undef) parts=some cells):
  ∃hI,af (bZ E.bL) cells hI.toList∧(Instr.buildSlice t n kN.toArray).run P E.w= .ok (.slice (some ⟨E.w.heap.size,0,none⟩) n n) (E.w.alloc (.cells hI e))∧cells.length=n*z.length:=by
 obtain⟨i,v,h1,h2,au,a8⟩:=yy (E:=E.bL) aB
 have xf:v.cells.size=z.length:=by rw[au];simp
 have zq:i.size=z.length:=by rw[pA];simp[Program.cellsOf,h1]
 let lL:Array Value:=if n*z.length=0 then #[] else v.cells
 let base:Array Value:=(Array.range (n*z.length)).map (fun i=>lL[i%lL.size]!)
 have wX:af (bZ E.bL) ((List.range (n*z.length)).map fun i=>z.getD (i%z.length) .undef) base.toList:=by
  refine⟨by simp[base],fun k a b aG hb=> ?_⟩
  rw[List.getElem?_map] at aG
  have hk:k<n*z.length:=by
   cases U:(List.range (n*z.length))[k]? with
   | none=>simp[U] at aG
   | some x=>have:=(List.getElem?_eq_some_iff.1 U).1;simpa using this
  rw[List.getElem?_range hk] at aG
  simp only[Option.map_some,Option.some.injEq] at aG
  have lW:0<z.length:=by
   rcases Nat.eq_zero_or_pos z.length with q | q
   ·rw[q,Nat.mul_zero] at hk;omega
   ·exact q
  have aQ:k%z.length<z.length:=Nat.mod_lt _ lW
  have rb:lL=v.cells:=if_neg (by omega)
  have dL:base[k]?=some (v.cells[k%z.length]!):=by
   show((Array.range (n*z.length)).map (fun i=>lL[i%lL.size]!))[k]?=_
   rw[rb,xf]
   simp[hk]
  rw[Array.getElem?_toList,dL] at hb
  simp only[Option.some.injEq] at hb
  have oG:v.cells.toList[k%z.length]?=some (v.cells[k%z.length]!):=by
   rw[Array.getElem?_toList,Array.getElem?_eq_getElem (by omega)]
   congr 1
   exact(getElem!_pos v.cells (k%z.length) (by omega)).symm
  have Kr:z[k%z.length]?=some a:=by
   rw[←aG,List.getD_eq_getElem?_getD,List.getElem?_eq_getElem aQ];rfl
  rw[←hb]
  exact a8.2 _ _ _ Kr oG
 obtain⟨hI,ao,hrel⟩:=Fg ae wX hf
 have hu:=uT he
 have fa:(Instr.buildSlice t n kN.toArray).run P E.w= .ok (.slice (some ⟨E.w.heap.size,0,none⟩) n n) (E.w.alloc (.cells hI e)):=by
  have JN: ¬n*z.length>2 ^ 24:=by omega
  simp only[Instr.buildSlice,Sem.run_bind,run_underlying hu,Result.andThen_ok,run_sizeOf (show(P.info? e).isSome=true by rw[h1];rfl),←pA,if_neg JN]
  have eX:Instr.fill (fun i=>some (i*z.length,z.length)) ((Array.range (n*z.length)).map (fun x=>lL[x%lL.size]!)) kN=some hI:=ao
  by_cases q:n*z.length=0
  ·have rb:lL= #[]:=if_pos q
   rw[if_pos q]
   simp only[Sem.run_bind,Sem.run_pure,Result.andThen_ok]
   rw[←rb,eX]
   simp[newRow]
  ·have rb:lL=v.cells:=if_neg q
   rw[if_neg q]
   simp only[Sem.run_bind,Sem.run_pure,Result.andThen_ok,zeroValue,typeInfo,h1,h2,run_program]
   rw[←rb,eX]
   simp[newRow]
 have hlen:cells.length=n*z.length:=by
  have q:=hrel.1
  have: ∀(parts:List (Nat×AV)) (c r:List AV),qR (fun i=>some (i*z.length,z.length)) c parts=some r→r.length=c.length:=by
   intro parts
   induction parts with
   | nil=>intro c r bz;cases bz;rfl
   | cons p ps br=>
    intro c r bz
    obtain⟨a,b⟩:=p
    unfold qR at bz
    split at bz
    ·cases bz
    ·split at bz
     ·rename_i hc
      rw[br _ _ bz];simp[fe];omega
     ·cases bz
  rw[this _ _ _ hf];simp
 exact⟨hI,hrel,fa,hlen⟩
theorem Qq {P:Program} {E:Env} {H:List Blk} {t:TypeId} {n:Nat} {parts:List (Nat×AV)} {kN:List (Nat×Value)} {K:AV→Prop} (av:SimH E H) (ae:af (fun a b=>a.1=b.1∧V2 E a.2 b.2) parts kN) (h:y0 P t n parts K):
  ∃r u E',K r∧(Instr.buildSlice t n kN.toArray).run P E.w= .ok u E'.w∧mc E E'∧V3 E' r u:=by
 obtain⟨e,he,h⟩:=fs h
 obtain⟨z,aB,h⟩:=fs h
 split at h
 case isFalse=>exact h.elim
 case isTrue hb=>
 obtain⟨pA,aeL⟩:=hb
 obtain⟨cells,hf,h⟩:=fs h
 split at h
 case isFalse=>exact h.elim
 case isTrue hby=>
 obtain⟨i,v,h1,h2,au,a8⟩:=yy (E:=E.bL) aB
 have xf:v.cells.size=z.length:=by rw[au];simp
 have zq:i.size=z.length:=by rw[pA];simp[Program.cellsOf,h1]
 let lL:Array Value:=if n*z.length=0 then #[] else v.cells
 let base:Array Value:=(Array.range (n*z.length)).map (fun i=>lL[i%lL.size]!)
 have wX:af (bZ E.bL) ((List.range (n*z.length)).map fun i=>z.getD (i%z.length) .undef) base.toList:=by
  refine⟨by simp[base],fun k a b aG hb=> ?_⟩
  rw[List.getElem?_map] at aG
  have hk:k<n*z.length:=by
   cases U:(List.range (n*z.length))[k]? with
   | none=>simp[U] at aG
   | some x=>have:=(List.getElem?_eq_some_iff.1 U).1;simpa using this
  rw[List.getElem?_range hk] at aG
  simp only[Option.map_some,Option.some.injEq] at aG
  have lW:0<z.length:=by
   rcases Nat.eq_zero_or_pos z.length with q | q
   ·rw[q,Nat.mul_zero] at hk;omega
   ·exact q
  have aQ:k%z.length<z.length:=Nat.mod_lt _ lW
  have rb:lL=v.cells:=if_neg (by omega)
  have dL:base[k]?=some (v.cells[k%z.length]!):=by
   show((Array.range (n*z.length)).map (fun i=>lL[i%lL.size]!))[k]?=_
   rw[rb,xf]
   simp[hk]
  rw[Array.getElem?_toList,dL] at hb
  simp only[Option.some.injEq] at hb
  have oG:v.cells.toList[k%z.length]?=some (v.cells[k%z.length]!):=by
   rw[Array.getElem?_toList,Array.getElem?_eq_getElem (by omega)]
   congr 1
   exact(getElem!_pos v.cells (k%z.length) (by omega)).symm
  have Kr:z[k%z.length]?=some a:=by
   rw[←aG,List.getD_eq_getElem?_getD,List.getElem?_eq_getElem aQ];rfl
  rw[←hb]
  exact a8.2 _ _ _ Kr oG
 obtain⟨hI,ao,hrel⟩:=Fg ae wX hf
 have U:=mc.alloc av (o:= .cells hI e) ⟨_,_,rfl⟩
 have hu:=uT he
 have fa:(Instr.buildSlice t n kN.toArray).run P E.w= .ok (.slice (some ⟨E.w.heap.size,0,none⟩) n n) (E.w.alloc (.cells hI e)):=by
  have JN: ¬n*z.length>2 ^ 24:=by omega
  simp only[Instr.buildSlice,Sem.run_bind,run_underlying hu,Result.andThen_ok,run_sizeOf (show(P.info? e).isSome=true by rw[h1];rfl),←pA,if_neg JN]
  have eX:Instr.fill (fun i=>some (i*z.length,z.length)) ((Array.range (n*z.length)).map (fun x=>lL[x%lL.size]!)) kN=some hI:=ao
  by_cases q:n*z.length=0
  ·have rb:lL= #[]:=if_pos q
   rw[if_pos q]
   simp only[Sem.run_bind,Sem.run_pure,Result.andThen_ok]
   rw[←rb,eX]
   simp[newRow]
  ·have rb:lL=v.cells:=if_neg q
   rw[if_neg q]
   simp only[Sem.run_bind,Sem.run_pure,Result.andThen_ok,zeroValue,typeInfo,h1,h2,run_program]
   rw[←rb,eX]
   simp[newRow]
 have hlen:cells.length=n*z.length:=by
  have q:=hrel.1
  have: ∀(parts:List (Nat×AV)) (c r:List AV),qR (fun i=>some (i*z.length,z.length)) c parts=some r→r.length=c.length:=by
   intro parts
   induction parts with
   | nil=>intro c r bz;cases bz;rfl
   | cons p ps br=>
    intro c r bz
    obtain⟨a,b⟩:=p
    unfold qR at bz
    split at bz
    ·cases bz
    ·split at bz
     ·rename_i hc
      rw[br _ _ bz];simp[fe];omega
     ·cases bz
  rw[this _ _ _ hf];simp
 refine⟨_,_,_,h,fa,U,?_⟩
 have pw:(chunk z.length n (cells.map jL)).length=n:=by simp[chunk]
 show aY (E.w.alloc (.cells hI e)) (fun c=>E.PA c∨c=E.w.heap.size) (fun c=>E.PF c∨c=E.w.heap.size) _ _
 have key:=aY.aX (w:=E.w.alloc (.cells hI e)) (PA:=fun c=>E.PA c∨c=E.w.heap.size) (PF:=fun c=>E.PF c∨c=E.w.heap.size)
  (PB:=if cells.all pt=true then(fun c=>E.PF c∨c=E.w.heap.size) else(fun c=>E.PA c∨c=E.w.heap.size))
  (rows:=chunk z.length n (cells.map jL)) (full:=true) (fresh:=cells.all pt) (A:=some ⟨E.w.heap.size,0,none⟩) (cap:=n) (sz:=z.length) (vs:=fun i j=>(hI[i*z.length+j]?).getD undef)
  (fun c hc=>by split at hc<;>(rename_i q;simp only[q];first | exact hc | simpa using hc)) (by omega) (fun _=>pw.symm)
  (fun i row ao=>by
   unfold chunk at ao
   rw[List.getElem?_map] at ao
   cases w9:(List.range n)[i]? with
   | none=>simp[w9] at ao
   | some k=>
    have hi:i<n:=by have:=(List.getElem?_eq_some_iff.1 w9).1;simpa using this
    rw[List.getElem?_range hi] at ao
    simp at ao
    subst ao
    have:i*z.length+z.length≤n*z.length:=by
     calc i*z.length+z.length=(i+1)*z.length:=by rw[Nat.add_mul,Nat.one_mul]
      _≤n*z.length:=Nat.mul_le_mul_right _ (by omega)
    simp;omega)
  (fun _=>⟨E.w.heap.size,0,rfl,by split<;>exact .inr rfl,fun i j hi al=>by
   rw[pw] at hi
   have:i*z.length+z.length≤n*z.length:=by
    calc i*z.length+z.length=(i+1)*z.length:=by rw[Nat.add_mul,Nat.one_mul]
     _≤n*z.length:=Nat.mul_le_mul_right _ (by omega)
   have Kh:hI.size=n*z.length:=by rw[←hlen,hrel.1];simp
   rw[Nat.zero_add]
   have aQ:i*z.length+j<hI.size:=by omega
   rw[World.cell?_alloc_new]
   simp[Array.getElem?_eq_getElem aQ]⟩)
  (fun i j row a ao al=>by
   obtain⟨hi,Ss,hc⟩:=Qz ao al
   rw[List.getElem?_map] at hc
   cases w0:cells[i*z.length+j]? with
   | none=>simp[w0] at hc
   | some b=>
    simp[w0] at hc
    subst hc
    obtain⟨u,hu,gP⟩:=hrel.get w0
    have ts:jQ b=true:=List.all_eq_true.1 hby b (List.mem_of_getElem? w0)
    have nT:=EK ts gP.up
    have m_:(hI[i*z.length+j]?).getD undef=u:=by rw[Array.getElem?_toList] at hu;rw[hu];rfl
    rw[m_]
    by_cases dS:cells.all pt=true
    ·have ae0:pt b=true:=List.all_eq_true.1 dS b (List.mem_of_getElem? w0)
     rw[if_pos dS]
     exact(Z5 ts ae0 nT).mono (fun c hc=>s9 _ _ _ (av.dP c (av.dA c hc))) (fun c hc=>hc.elim) (fun c hc=> .inl hc) (fun c hc=>hc)
    ·rw[if_neg dS]
     exact(Pq ts nT (fun c hc=>hc) av.dA).mono (fun c hc=>s9 _ _ _ (av.dP c hc)) (fun c hc=>hc.elim) (fun c hc=> .inl hc) (fun c hc=>hc))
 rw[pw] at key
 exact key
def Fe (P:Program) (t:TypeId) (f:Nat):Option Field:=match P.underlying t with
 | some (.struct eA)=>eA.toList[f]?
 | _=>none
theorem ac8 {P:Program} {t:TypeId} {f:Nat} {fd:Field} (h:Fe P t f=some fd): ∃eA,P.underlying t=some (.struct eA)∧eA[f]?=some fd:=by
 unfold Fe at h
 split at h
 ·rename_i eA pz;exact⟨eA,pz,by simpa using h⟩
 ·cases h
def Je (P:Program) (t:TypeId) (x:AV) (f:Nat) (K:AV→Prop):Prop:=
 cC (Fe P t f) fun fd=>if(P.info? fd.type).isSome=true∧P.cellsOf fd.type≠0 then(match x with
  | .fp s c=>K (.fp s (c+fd.offset))
  | .ptr b g r c=>K (.ptr b g r (c+fd.offset))
  | .dh cells c=>K (.dh cells (c+fd.offset))
  | _=>False) else False
theorem akF {P:Program} {fd:Field} {w:World} {c o:Nat} (hi:(P.info? fd.type).isSome=true) (aB:P.cellsOf fd.type≠0):
  (fieldPlace ⟨c,o,none⟩ fd).run P w= .ok ⟨c,o+fd.offset,none⟩ w:=by
 simp[fieldPlace,run_sizeOf hi,aB,ph]
theorem ac7 {P:Program} {t:TypeId} {x:AV} {f:Nat} {K:AV→Prop} {E:Env} {v:Value} (hx:V3 E x v)
  (h:Je P t x f K):
  ∃r u,K r∧(Instr.fieldAt t v f).run P E.w= .ok u E.w∧V3 E r u:=by
 obtain⟨fd,hf,h⟩:=fs h
 obtain⟨eA,hu,ae1⟩:=ac8 hf
 split at h
 case isFalse=>exact h.elim
 case isTrue hc=>
 obtain⟨hi,aB⟩:=hc
 have run: ∀bl o,(Instr.fieldAt t (.pointer (some ⟨bl,o,none⟩)) f).run P E.w= .ok (.pointer (some ⟨bl,o+fd.offset,none⟩)) E.w:=by
  intro bl o
  simp[Instr.fieldAt,run_underlying hu,ae1,Instr.sureAddr,akF hi aB]
 cases x with
 | fp s c=>
  obtain⟨bl,hm,rfl⟩:=hx.C7
  exact⟨_,_,h,run bl c,bl,hm,rfl⟩
 | ptr b g r c=>
  rcases(show e6 E (.ptr b g r c) v from hx) with⟨ax,bl,o,rfl⟩ | ⟨ax,bl,hm,rfl⟩
  ·exact⟨_,_,h,run bl o,.inl ⟨ax,_,_,rfl⟩⟩
  ·exact⟨_,_,h,run bl _,.inr ⟨ax,bl,hm,by rw[Nat.add_assoc]⟩⟩
 | dh cells c=>
  have iR:aY E.w E.PA E.PF (.dh cells c) v:=hx
  cases iR with
  | @dh _ _ _ _ bl o vs hc dt hrel=>
   exact⟨_,_,h,run bl _,by rw[Nat.add_assoc];exact aY.dh hc dt hrel⟩
 | _=>exact h.elim
def zF (P:Program) (t:TypeId) (x i:AV) (H:List Blk) (K:AV→Prop):Prop:=
 cC (jp P t) fun e=>if(P.info? e).isSome=true then(match i with
  | .int _ n=>(match x with
   | .aX rows _ _=>0≤n∧cC rows[n.toNat]? fun row=>row.length=P.cellsOf e∧K (.dh row 0)
   | .ref b g off m _=>cC H[b]? fun blk=>blk.bf=g∧blk.sz=P.cellsOf e∧0≤n∧n<m∧K (.ptr b g (off+n.toNat) 0)
   | _=>False)
  | _=>False) else False
theorem af2 {P:Program} {t:TypeId} {x i:AV} {K:AV→Prop} {E:Env} {L kS:List (Nat×List AV)} {H e0:List Blk} {v CY:Value} (sub:Sub L H kS e0) (av:SimH E e0) (hx:V3 E x v) (hi:V3 E i CY)
  (h:zF P t x i H K): ∃r u,K r∧(Instr.indexAt t v CY).run P E.w= .ok u E.w∧V3 E r u:=by
 obtain⟨e,he,h⟩:=fs h
 have hu:=uT he
 split at h
 case isFalse=>exact h.elim
 case isTrue hinf=>
 cases i with
 | int k n=>
  obtain rfl:=hi.my
  cases x with
  | aX rows full fresh=>
   obtain⟨az,h⟩:=(show 0≤n∧cC rows[n.toNat]? fun row=>row.length=P.cellsOf e∧K (.dh row 0) from h)
   obtain⟨row,ao,aw,hK⟩:=fs h
   have aQ:n.toNat<rows.length:=(List.getElem?_eq_some_iff.1 ao).1
   have iR:aY E.w E.PA E.PF (.aX rows full fresh) v:=hx
   cases iR with
   | @aX _ _ PB _ _ _ A cap sz vs eW fl fK b9 dt hrel=>
    obtain⟨c,o,rfl,hc,dS⟩:=dt (by omega)
    have CD:=b9 _ _ ao
    refine⟨_,.pointer (some ⟨c,o+n.toNat*P.cellsOf e,none⟩),hK,?_,?_⟩
    ·simp only[Instr.indexAt,Sem.run_bind,asIntOf,Sem.run_pure,Result.andThen_ok,run_underlying hu]
     rw[if_pos ⟨az,by omega⟩]
     simp[run_sizeOf hinf,ph]
    ·show aY _ _ _ _ _
     have:=aY.dh (w:=E.w) (PA:=E.PA) (PF:=E.PF) (cells:=row) (col:=0) (c:=c) (o:=o+n.toNat*P.cellsOf e) (vs:=vs n.toNat)
      (by have:=eW c hc;split at this;exact av.dA c this;exact this)
      (fun j al=>by rw[Nat.add_assoc,←aw,CD];exact dS n.toNat j aQ (by omega))
      (fun j a al=>(hrel n.toNat j row a ao al).mono (fun _ _=>rfl) (fun _ h=>h.elim) (fun d aV=>by
       have:=eW d aV;split at this;exact av.dA d this;exact this) (fun _ h=>h))
     simpa using this
  | ref b g off m full=>
   obtain⟨blk,hb,ax,nP,az,h1,hK⟩:=fs (show cC H[b]? fun blk=>blk.bf=g∧blk.sz=P.cellsOf e∧0≤n∧n<m∧K (.ptr b g (off+n.toNat) 0) from h)
   have hb:=sub.h b blk hb
   have ky:=av.eV b blk hb
   rcases(show e6 E (.ref b g off m full) v from hx) with⟨bz,_⟩ | ⟨f_,bz⟩
   ·omega
   ·rcases bz with⟨_,_,zu,_⟩ | ⟨c,cap,hm,rfl,p_,q6,r9⟩
    ·omega
    ·obtain⟨blk',ay,ty,q1,cH,_⟩:=av.heap b c hm
     obtain rfl:blk=blk':=by rw[hb] at q1;exact Option.some.inj q1
     refine⟨_,.pointer (some ⟨c,(off+n.toNat)*E.sz b+0,none⟩),hK,?_,.inr ⟨f_,c,hm,rfl⟩⟩
     simp only[Instr.indexAt,Sem.run_bind,asIntOf,Sem.run_pure,Result.andThen_ok,run_underlying hu]
     rw[if_pos ⟨az,h1⟩]
     simp[run_sizeOf hinf,ph,cH,nP,Nat.add_mul]
  | _=>exact h.elim
 | _=>exact h.elim
def Kv (P:Program) (t:TypeId) (x i:AV) (K:AV→Prop):Prop:=match x with
 | .str s=>(match i with
  | .int _ n=>(match P.underlying t with
   | some .string=>0≤n∧n<s.size∧K (.int .u8 (s.data.getD n.toNat 0).toNat)
   | _=>False)
  | _=>False)
 | _=>False
theorem agb {P:Program} {t:TypeId} {x i:AV} {K:AV→Prop} {E:Env} {v CY:Value} (hx:V3 E x v) (hi:V3 E i CY) (h:Kv P t x i K):
  ∃r u,K r∧(Instr.index t v CY).run P E.w= .ok u E.w∧V3 E r u:=by
 cases x with
 | str s=>
  cases i with
  | int k n=>
   obtain rfl:=hx.Bc
   obtain rfl:=hi.my
   have h:(match P.underlying t with
    | some .string=>0≤n∧n<s.size∧K (.int .u8 (s.data.getD n.toNat 0).toNat)
    | _=>False):=h
   split at h
   ·rename_i hu
    obtain⟨az,h1,hK⟩:=h
    refine⟨_,.int .u8 (s.data.getD n.toNat 0).toNat,hK,?_,aY.int _ _⟩
    have aQ:n.toNat<s.size:=by omega
    have J6:n.toNat<s.data.size:=aQ
    have:s[n.toNat]?=some (s.data.getD n.toNat 0):=by
     rw[getElem?_pos s n.toNat aQ]
     congr 1
     show s.data[n.toNat]=_
     rw[Array.getD_eq_getD_getElem?,Array.getElem?_eq_getElem J6];rfl
    simp only[Instr.index,Sem.run_bind,asIntOf,Sem.run_pure,Result.andThen_ok,run_underlying hu]
    rw[if_pos az,this]
    rfl
   ·exact h.elim
  | _=>exact h.elim
 | _=>exact h.elim
def tX (x:AV) (K:AV→Prop):Prop:=match x with
 | .aX rows _ _=>rows.length≤4611686018427387904→K (.int .i64 rows.length)
 | .str s=>K (.int .i64 s.size)
 | .ref _ _ _ n _=>K (.int .i64 n)
 | _=>False
def kf (P:Program) (t:TypeId) (x:AV):Bool:=match P.underlying t,x with
 | some .string,.str _=>true
 | some (.slice _),.aX _ _ _=>true
 | some (.slice _),.ref _ _ _ _ _=>true
 | _,_=>false
theorem aiZ {P:Program} {t ty:TypeId} {x:AV} {K:AV→Prop} {E:Env} {v:Value} (hx:V3 E x v)
  (a6:kf P t x=true) (h:tX x K): ∃r u,K r∧(Builtin.len_ #[t] ty #[v]).run P E.w= .ok u E.w∧V3 E r u:=by
 unfold kf at a6
 split at a6<;>try (cases a6;done)
 ·rename_i s hu
  obtain rfl:=hx.Bc
  exact⟨_,_,h,by simp[Builtin.len_,run_underlying hu,goInt],aY.int _ _⟩
 ·rename_i e rows dK fr hu
  have iR:aY E.w E.PA E.PF (.aX rows dK fr) v:=hx
  cases iR with
  | @aX _ _ PB _ _ _ A cap sz vs eW fl fK b9 dt hrel=>
   have h:rows.length≤4611686018427387904→K (.int .i64 rows.length):=h
   exact⟨_,_,h fl.2,by simp[Builtin.len_,run_underlying hu,goInt],aY.int _ _⟩
 ·rename_i e b g off n dK hu
  have h:K (.int .i64 n):=h
  rcases(show e6 E (.ref b g off n dK) v from hx) with⟨_,A,cap,rfl⟩ | ⟨f_,bz⟩
  ·exact⟨_,_,h,by simp[Builtin.len_,run_underlying hu,goInt],aY.int _ _⟩
  ·rcases bz with⟨_,_,rfl,A,rfl⟩ | ⟨c,cap,hm,rfl,p_,q6,r9⟩
   ·exact⟨_,_,h,by simp[Builtin.len_,run_underlying hu,goInt],aY.int _ _⟩
   ·exact⟨_,_,h,by simp[Builtin.len_,run_underlying hu,goInt],aY.int _ _⟩
def Ja (x:AV) (i:Nat) (K:AV→Prop):Prop:=match x with
 | .tup l=>cC l[i]? K
 | _=>False
theorem ac2 {P:Program} {x:AV} {i:Nat} {K:AV→Prop} {E:Env} {v:Value} (hx:V3 E x v) (h:Ja x i K):
  ∃r u,K r∧(Instr.extract v i).run P E.w= .ok u E.w∧V3 E r u:=by
 cases x with
 | tup l=>
  obtain⟨vs,rfl,ae⟩:=hx
  obtain⟨a,aG,hK⟩:=fs (show cC l[i]? K from h)
  obtain⟨u,hu,ao⟩:=ae.get aG
  refine⟨a,u,hK,?_,me ao⟩
  simp[Instr.extract,hu]
 | _=>exact h.elim
def HV (op:UnOp) (x:AV) (K:AV→Prop):Prop:=match op,x with
 | .not,.bool b=>K (.bool (!b))
 | .neg,.int k n=>K (.int k (k.wrap (0 - n)))
 | _,_=>False
theorem ans {P:Program} {op:UnOp} {x:AV} {K:AV→Prop} {E:Env} {v:Value} (hx:V3 E x v) (h:HV op x K):
  ∃r u,K r∧(Op.unary op v).run P E.w= .ok u E.w∧V3 E r u:=by
 unfold HV at h
 split at h
 ·obtain rfl:=hx.pj;exact⟨_,_,h,rfl,aY.bool _⟩
 ·obtain rfl:=hx.my;exact⟨_,_,h,rfl,aY.int _ _⟩
 ·exact h.elim
def Mh (x:AV) (K:AV→Prop):Prop:=match x with
 | .ptr _ _ _ _ | .fp _ _ | .dh _ _=>K x
 | _=>False
def zZ (P:Program) (t:TypeId):Option IntKind:=match P.underlying t with
 | some (.int k)=>some k
 | _=>none
theorem UF {P:Program} {t:TypeId} {k:IntKind} (h:zZ P t=some k):P.underlying t=some (.int k):=by
 unfold zZ at h
 split at h
 ·cases h;assumption
 ·cases h
def IP (P:Program) (s d:TypeId) (x:AV) (K:AV→Prop):Prop:=match x with
 | .int _ n=>cC (zZ P s) fun _=>cC (zZ P d) fun k=>K (.int k (k.wrap n))
 | _=>False
theorem acm {P:Program} {s d:TypeId} {x:AV} {K:AV→Prop} {E:Env} {v:Value} (hx:V3 E x v) (h:IP P s d x K):
  ∃r u,K r∧(Go.convert s d v).run P E.w= .ok u E.w∧V3 E r u:=by
 cases x with
 | int aZ n=>
  obtain⟨dk,h1,h⟩:=fs (show cC (zZ P s) _ from h)
  obtain⟨gb,h2,h⟩:=fs h
  obtain rfl:=hx.my
  refine⟨_,_,h,?_,aY.int _ _⟩
  simp only[Go.convert,Sem.run_bind,run_underlying (UF h1),run_underlying (UF h2),Result.andThen_ok]
  rfl
 | _=>exact h.elim
def mT (x:Option AV) (d:Nat) (K:Nat→Prop):Prop:=match x with
 | none=>K d
 | some (.int _ n)=>0≤n∧K n.toNat
 | some _=>False
def x4 (P:Program) (t:TypeId) (x:AV) (lo hi:Option AV) (H:List Blk) (K:AV→Prop):Prop:=match x with
 | .str s=>(match P.underlying t with
  | some .string=>mT lo 0 fun l=>mT hi s.size fun h=>l≤h∧h≤s.size∧K (.str (s.extract l h))
  | _=>False)
 | .aX rows _ fr=>cC (jp P t) fun e=>if(P.info? e).isSome=true then
   mT lo 0 fun l=>mT hi rows.length fun h=>l≤h∧h≤rows.length∧(∀(i:Nat) (row:List AV),rows[i]?=some row→row.length=P.cellsOf e)∧K (.aX ((rows.drop l).take (h - l)) false fr) else False
 | .ref b g off n _=>cC (jp P t) fun e=>if(P.info? e).isSome=true then
   cC H[b]? fun blk=>blk.bf=g∧blk.sz=P.cellsOf e∧mT lo 0 fun l=>mT hi n fun h=>l≤h∧h≤n∧(l<h→K (.ref b g (off+l) (h - l) false))∧(l=h→K (.aX [] false true)) else False
 | _=>False
def Er (E:Env) (x:Option AV) (v:Option Value):Prop:=match x,v with
  | none,none=>True
  | some a,some u=>V3 E a u
  | _,_=>False
theorem yZ {x:Option AV} {d:Nat} {K:Nat→Prop} {E:Env} {v:Option Value} (hx:Er E x v) (h:mT x d K): ∃n,K n∧((v=none∧n=d)∨ ∃k,v=some (.int k n)):=by
 cases x with
 | none=>
  cases v with
  | none=>exact⟨d,h,.inl ⟨rfl,rfl⟩⟩
  | some u=>exact hx.elim
 | some a=>
  cases v with
  | none=>exact hx.elim
  | some u=>
   cases a with
   | int k n=>
    obtain⟨az,h⟩:=(show 0≤n∧K n.toNat from h)
    obtain rfl:=V3.my hx
    exact⟨n.toNat,h,.inr ⟨k,by rw[Int.toNat_of_nonneg az]⟩⟩
   | _=>exact h.elim
theorem M2 {P:Program} {w:World} {isS:Bool} {len cap l h:Nat} {lo hi:Option Value} (aw:(lo=none∧l=0)∨ ∃k,lo=some (.int k l)) (bz:(hi=none∧h=len)∨ ∃k,hi=some (.int k h))
  (h1:l≤h) (h2:h≤cap):(Instr.sliceBounds isS len cap lo hi none).run P w= .ok (l,h,cap) w:=by
 rcases aw with⟨rfl,rfl⟩ | ⟨z7,rfl⟩<;>rcases bz with⟨rfl,rfl⟩ | ⟨UJ,rfl⟩
 ·simp[Instr.sliceBounds]
 ·simp[Instr.sliceBounds,run_sliceBound (P:=P) w UJ (h:Int) cap _ (by omega) (by omega)]
 ·simp[Instr.sliceBounds,run_sliceBound (P:=P) w z7 (l:Int) _ _ (by omega) (show(l:Int)≤((_:Nat):Int) by exact Int.ofNat_le.2 h1)]
 ·simp[Instr.sliceBounds,run_sliceBound (P:=P) w UJ (h:Int) cap _ (by omega) (by omega),run_sliceBound (P:=P) w z7 (l:Int) h _ (by omega) (by omega)]
theorem ald {P:Program} {t:TypeId} {x:AV} {lo hi:Option AV} {K:AV→Prop} {E:Env} {L kS:List (Nat×List AV)} {H e0:List Blk} {v:Value} {Pw Pv:Option Value} (sub:Sub L H kS e0) (av:SimH E e0) (hx:V3 E x v)
  (FN:Er E lo Pw) (JY:Er E hi Pv)
  (h:x4 P t x lo hi H K): ∃r u,K r∧(Instr.sliceAt t v Pw Pv none).run P E.w= .ok u E.w∧V3 E r u:=by
 cases x with
 | str s=>
  obtain rfl:=hx.Bc
  have h:(match P.underlying t with
   | some .string=>mT lo 0 fun l=>mT hi s.size fun h=>l≤h∧h≤s.size∧K (.str (s.extract l h))
   | _=>False):=h
  split at h
  ·rename_i hu
   obtain⟨l,h,aw⟩:=yZ FN h
   obtain⟨q,⟨h1,h2,hK⟩,U⟩:=yZ JY h
   refine⟨_,.string (s.extract l q),hK,?_,aY.str _⟩
   rw[run_sliceAt_string E.w t _ _ _ _ hu]
   simp only[Instr.slice,Sem.run_bind,run_underlying hu,Result.andThen_ok]
   simp only[Option.isSome_none,Bool.false_eq_true,if_false]
   simp only[Sem.run_bind,M2 (P:=P) (w:=E.w) (isS:=false) aw U h1 h2,Result.andThen_ok]
   rfl
  ·exact h.elim
 | aX rows full fr=>
  obtain⟨e,he,h⟩:=fs (show cC (jp P t) fun e=>if(P.info? e).isSome=true then
   mT lo 0 fun l=>mT hi rows.length fun h=>l≤h∧h≤rows.length∧(∀(i:Nat) (row:List AV),rows[i]?=some row→row.length=P.cellsOf e)∧K (.aX ((rows.drop l).take (h - l)) false fr) else False from h)
  have hu:=uT he
  split at h
  case isFalse=>exact h.elim
  case isTrue hinf=>
  obtain⟨l,h,aw⟩:=yZ FN h
  obtain⟨q,⟨h1,h2,lm,hK⟩,U⟩:=yZ JY h
  have iR:aY E.w E.PA E.PF (.aX rows full fr) v:=hx
  cases iR with
  | @aX _ _ PB _ _ _ A cap sz vs eW fl fK b9 dt hrel=>
   have w2:P.elem t=e:=by simp[Program.elem,hu]
   have m_:P.underlying t=some (.slice (P.elem t)):=by rw[w2];exact hu
   have hlen:((rows.drop l).take (q - l)).length=q - l:=by simp;omega
   refine⟨_,sliced A l q cap (P.cellsOf e),hK,?_,?_⟩
   ·rw[run_sliceAt_slice E.w t _ _ _ _ m_,run_slice_any E.w t A rows.length cap m_,M2 (P:=P) (w:=E.w) aw U h1 (by omega)]
    simp only[Result.andThen_ok,w2,run_sizeOf hinf]
   ·show aY E.w E.PA E.PF _ (.slice _ (q - l) (cap - l))
    have key:=aY.aX (w:=E.w) (PA:=E.PA) (PF:=E.PF) (PB:=PB) (rows:=(rows.drop l).take (q - l)) (full:=false) (fresh:=fr) (A:=if cap=l then A else A.map (·.add (l*P.cellsOf e))) (cap:=cap - l) (sz:=sz) (vs:=fun i j=>vs (l+i) j)
     eW (by rw[hlen];omega) (fun h=>by cases h)
     (fun i row ao=>by
      rw[List.getElem?_take] at ao
      split at ao
      ·rw[List.getElem?_drop] at ao;exact b9 _ _ ao
      ·cases ao)
     (fun ag=>by
      rw[hlen] at ag
      obtain⟨c,o,rfl,hc,dS⟩:=dt (by omega)
      have afK:sz=P.cellsOf e:=by
       have aQ:l<rows.length:=by omega
       rw[←b9 l _ (List.getElem?_eq_getElem aQ)];exact lm l _ (List.getElem?_eq_getElem aQ)
      refine⟨c,o+l*P.cellsOf e,by rw[if_neg (by omega)];simp[ph],hc,fun i j hi al=> ?_⟩
      rw[hlen] at hi
      have:=dS (l+i) j (by omega) al
      rw[←this,afK]
      congr 2
      rw[Nat.add_mul];omega)
     (fun i j row a ao al=>by
      rw[List.getElem?_take] at ao
      split at ao
      ·rw[List.getElem?_drop] at ao;exact hrel _ _ _ _ ao al
      ·cases ao)
    rw[hlen] at key
    exact key
 | ref b g off n full=>
  obtain⟨e,he,h⟩:=fs (show cC (jp P t) fun e=>if(P.info? e).isSome=true then
   cC H[b]? fun blk=>blk.bf=g∧blk.sz=P.cellsOf e∧mT lo 0 fun l=>mT hi n fun h=>l≤h∧h≤n∧(l<h→K (.ref b g (off+l) (h - l) false))∧(l=h→K (.aX [] false true)) else False from h)
  have hu:=uT he
  split at h
  case isFalse=>exact h.elim
  case isTrue hinf=>
  obtain⟨blk,hb,ax,nP,h⟩:=fs h
  obtain⟨l,h,aw⟩:=yZ FN h
  obtain⟨q,⟨h1,h2,aey,RS⟩,U⟩:=yZ JY h
  have hb:=sub.h b blk hb
  have ky:=av.eV b blk hb
  have w2:P.elem t=e:=by simp[Program.elem,hu]
  have m_:P.underlying t=some (.slice (P.elem t)):=by rw[w2];exact hu
  have run: ∀A cap,n≤cap→(Instr.sliceAt t (.slice A n cap) Pw Pv none).run P E.w= .ok (sliced A l q cap (P.cellsOf e)) E.w:=by
   intro A cap hc
   rw[run_sliceAt_slice E.w t _ _ _ _ m_,run_slice_any E.w t A n cap m_,M2 (P:=P) (w:=E.w) aw U h1 (by omega)]
   simp only[Result.andThen_ok,w2,run_sizeOf hinf]
  have empty: ∀A cap,l=q→V3 E (.aX [] false true) (sliced A l q cap (P.cellsOf e)):=by
   intro A cap w5
   subst w5
   show aY E.w E.PA E.PF _ (.slice _ (l - l) (cap - l))
   rw[Nat.sub_self]
   exact aY.aX (PB:=fun _=>False) (sz:=0) (vs:=fun _ _=>undef) (fun _ h=>h.elim) ⟨Nat.zero_le _,Nat.zero_le _⟩ (fun h=>by cases h) (fun i row h=>by simp at h) (fun h=>by simp at h) (fun i j row a h=>by simp at h)
  rcases(show e6 E (.ref b g off n full) v from hx) with⟨bz,_⟩ | ⟨f_,bz⟩
  ·omega
  ·rcases bz with⟨_,_,rfl,A,rfl⟩ | ⟨c,cap,hm,rfl,p_,q6,r9⟩
   ·have w5:l=q:=by omega
    exact⟨_,_,RS w5,run A 0 (Nat.le_refl _),empty _ _ w5⟩
   ·rcases Nat.lt_or_ge l q with aQ | FB
    ·refine⟨_,_,aey aQ,run _ cap p_,.inr ⟨f_,.inr ⟨c,cap - l,hm,?_,by omega,(fun h=>by cases h),by omega⟩⟩⟩
     obtain⟨blk',ay,ty,q1,cH,_⟩:=av.heap b c hm
     obtain rfl:blk=blk':=by rw[hb] at q1;exact Option.some.inj q1
     simp only[sliced,if_neg (show ¬cap=l by omega),Option.map_some,ph,cH,nP,Nat.add_mul]
    ·have w5:l=q:=by omega
     exact⟨_,_,RS w5,run _ cap p_,empty _ _ w5⟩
 | _=>exact h.elim
def vA (P:Program) (f:FuncId):Bool:=match P.funcs[f]? with
 | some fn=> !(fn.name== "runtime.NumGoroutine")&&fn.body.isSome
 | none=>false
def c0 (P:Program) (f:FuncId) (args:List AV) (H:List Blk) (Q:AV→List Blk→Prop):Prop:=
 vA P f=true∧ ∀(E:Env) (vs:List Value),(∀t,E.mL t=none)→SimH E H→af (V2 E) args vs→
  Calls P f vs.toArray E.w fun e w'=> ∃r v H' E',e= .returned v∧Q r H'∧E'.w=w'∧(∀t,E'.mL t=none)∧SimH E' H'∧V3 E' r v∧Step E E'
theorem c0.mono {P:Program} {f:FuncId} {args:List AV} {H:List Blk} {Q yK:AV→List Blk→Prop} (h:c0 P f args H Q) (U: ∀r H',Q r H'→yK r H'):c0 P f args H yK:=
 ⟨h.1,fun E vs a b c=>(h.2 E vs a b c).mono fun e w' ⟨r,v,H',E',h1,h2,au⟩=>⟨r,v,H',E',h1,U _ _ h2,au⟩⟩
def Db:AV→Bool
 | .fp _ _ | .agg _ | .tup _=>false
 | _=>true
def Af:AV→Bool
 | .fn _ caps=>caps.all Db
 | a=>Db a
def kG:AV→Bool
 | .agg cells=>cells.all Af
 | a=>Af a
def Ag:AV→Bool
 | .tup l=>l.all kG
 | a=>kG a
theorem e6.bL {E:Env} {a:AV} {v:Value} (h:Db a=true) (hv:e6 E a v):e6 E.bL a v:=by
 cases a<;>first | exact hv | cases h
theorem bZ.bL {E:Env} {a:AV} {v:Value} (h:Af a=true) (hv:bZ E a v):bZ E.bL a v:=by
 by_cases hf: ∃f caps,a= .fn f caps
 ·obtain⟨f,caps,rfl⟩:=hf
  obtain⟨vs,e,ae⟩:=hv
  exact⟨vs,e,ae.1,fun i x y hx bi=>(ae.2 i x y hx bi).bL (List.all_eq_true.1 (show caps.all Db=true from h) x (List.mem_of_getElem? hx))⟩
 ·have az:Af a=Db a:=by cases a<;>first | rfl | exact absurd ⟨_,_,rfl⟩ hf
  rw[rQ fun f c e=>hf ⟨f,c,e⟩] at hv ⊢
  exact hv.bL (az▸h)
theorem V2.bL {E:Env} {a:AV} {v:Value} (h:kG a=true) (hv:V2 E a v):V2 E.bL a v:=by
 by_cases hf: ∃l,a= .agg l
 ·obtain⟨l,rfl⟩:=hf
  obtain⟨vs,e,ae⟩:=hv
  exact⟨vs,e,ae.1,fun i x y hx bi=>(ae.2 i x y hx bi).bL (List.all_eq_true.1 (show l.all Af=true from h) x (List.mem_of_getElem? hx))⟩
 ·have az:kG a=Af a:=by cases a<;>first | rfl | exact absurd ⟨_,rfl⟩ hf
  rw[p1 fun l e=>hf ⟨l,e⟩] at hv ⊢
  exact hv.bL (az▸h)
theorem V3.bL {E:Env} {a:AV} {v:Value} (h:Ag a=true) (hv:V3 E a v):V3 E.bL a v:=by
 by_cases hf: ∃l,a= .tup l
 ·obtain⟨l,rfl⟩:=hf
  obtain⟨vs,e,ae⟩:=hv
  exact⟨vs,e,ae.1,fun i x y hx bi=>(ae.2 i x y hx bi).bL (List.all_eq_true.1 (show l.all kG=true from h) x (List.mem_of_getElem? hx))⟩
 ·have az:Ag a=kG a:=by cases a<;>first | rfl | exact absurd ⟨_,rfl⟩ hf
  rw[p2 fun l e=>hf ⟨l,e⟩] at hv ⊢
  exact hv.bL (az▸h)
theorem SimH.bL {E:Env} {H:List Blk} (h:SimH E H):SimH E.bL H:=
 {h with
  jt:=fun t jG c hm=>by cases hm
  gB:=fun b t c _ hm=>by cases hm
  ii:=fun c _ ⟨t,hm⟩=>by cases hm
  gr:=fun c ⟨t,hm⟩=>by cases hm}
theorem Good.toStep [cl] {b_ E:Env} (h:Good b_ E):Step b_ E.bL:=
 ⟨⟨h.le.fG,h.le.fz,h.le.wl,h.le.wf,h.le.bf,h.le.m,fun t c hm=>by rw[h.bL t] at hm;cases hm⟩,h.os,h.tape,h.output,h.size,fun c hc h1 _=>h.dF c hc h1,h.jq,(fun c ⟨t,hm⟩=>by cases hm),h.fG,h.fz⟩
def ui (P:Program) (aj:St):List ResultVar→(List AV→Prop)→Prop
 | [],K=>K []
 | .tmp t::rs,K=>ui P aj rs fun l=>K (aj.T.getD t .undef::l)
 | .cell a t::rs,K=>qg P t (aj.T.getD a .undef) aj.L aj.H fun x=>ui P aj rs fun l=>K (x::l)
def s0:List AV→AV
 | [x]=>x
 | l=> .tup l
def vL (P:Program) (fn:Func) (aj:St) (Q:AV→List Blk→Prop):Prop:=ui P aj fn.results.toList fun l=>l.all kG=true∧Q (s0 l) aj.H
theorem aba {E:Env} {P:Program} {t:TypeId} {x:AV} {L:List (Nat×List AV)} {H:List Blk} {K:AV→Prop} {v:Value} (av:SimH E H) (bC:SimL E L) (hx:V3 E x v) (h:qg P t x L H K):
  ∃a eu,K a∧(do loadVar t (←asAddr v):Sem Value).run P E.w= .ok eu E.w∧V2 E a eu:=by
 obtain⟨a,eu,hK,ao,hv⟩:=VF (Sub.refl L H) av bC hx h
 refine⟨a,eu,hK,?_,hv⟩
 have: ∃mf,v= .pointer (some mf):=by
  cases x with
  | fp s c=>obtain⟨bl,_,rfl⟩:=hx.C7;exact⟨_,rfl⟩
  | ptr b g r c=>
   rcases(show e6 E (.ptr b g r c) v from hx) with⟨_,bl,o,rfl⟩ | ⟨_,bl,_,rfl⟩<;>exact⟨_,rfl⟩
  | dh cells c=>
   have iR:aY E.w E.PA E.PF (.dh cells c) v:=hx
   cases iR;exact⟨_,rfl⟩
  | _=>exact h.elim
 obtain⟨mf,rfl⟩:=this
 simpa[Instr.loadAt,Instr.sureAddr,asAddr] using ao
theorem MU {P:Program} {aj:St} {E:Env} {tmps:Array Value} (hs:wB E aj tmps) {f:ResultVar→Sem Value} (f1: ∀t,f (.tmp t)=pure (tmps.getD t undef))
  (f2: ∀a t,f (.cell a t)=do loadVar t (←asAddr (tmps.getD a undef))): ∀(rs:List ResultVar) (K:List AV→Prop),ui P aj rs K→
  ∃l vs,K l∧(rs.mapM f).run P E.w= .ok vs E.w∧af (V3 E) l vs
 | [],K,h=>⟨[],[],h,rfl,af.nil⟩
 | .tmp t::rs,K,h=>by
  obtain⟨l,vs,hK,ao,ae⟩:=MU hs f1 f2 rs _ h
  exact⟨_,_,hK,by simp only[List.mapM_cons,f1,Sem.run_bind,Sem.run_pure,Result.andThen_ok,ao],af.cons (hs.iI t) ae⟩
 | .cell a t::rs,K,h=>by
  obtain⟨x,eu,h2,Kb,hv⟩:=aba hs.h hs.l (hs.iI a) h
  obtain⟨l,vs,hK,ao,ae⟩:=MU hs f1 f2 rs _ h2
  refine⟨_,_,hK,?_,af.cons (me hv) ae⟩
  simp only[List.mapM_cons,f2]
  rw[Sem.run_bind,Kb]
  simp only[Result.andThen_ok,Sem.run_bind,ao,Sem.run_pure]
theorem akt (fn:Func) (tmps:Array Value): ∃f:ResultVar→Sem Value,results fn tmps=(fn.results.mapM f>>=fun vs=>pure (if h:vs.size=1 then vs[0] else .tuple vs))∧(∀t,f (.tmp t)=pure (tmps.getD t undef))∧
  ∀b t,f (.cell b t)=(asAddr (tmps.getD b undef)>>=fun a=>loadVar t a):=⟨_,rfl,fun _=>rfl,fun _ _=>rfl⟩
def wz (P:Program) (fn:Func) (Q:AV→List Blk→Prop) (ex:Exit) (aj:St):Prop:=match ex with
 | .normal | .ret=>vL P fn aj Q
 | _=>False
def Gl (fn:Func) (args:List AV) (H:List Blk):St:=⟨args++List.replicate (fn.ntmps - args.length) .undef,[],H⟩
theorem aaY {E:Env} {a:AV} {v:Value} (h:kG a=true) (hv:V3 E a v) (a6: ∀l,a≠ .tup l):V2 E.bL a v:=by
 rw[p2 a6] at hv;exact hv.bL h
theorem c0.Mk {P:Program} {f:FuncId} {fn:Func} {c:Code} {args:List AV} {H:List Blk} {Q:AV→List Blk→Prop} (hf:P.funcs[f]?=some fn) (hb:fn.body=some c) (ag:(fn.name== "runtime.NumGoroutine")=false)
  (h: ∀jc:cl,jc.n=H.length→WpS P c (wz P fn Q) (Gl fn args H)):c0 P f args H Q:=by
 refine⟨by simp[vA,hf,hb,ag],?_⟩
 intro E vs ag av ae
 letI:cl:=⟨H.length⟩
 refine calls_of_wp hf hb (wp_mono (h ⟨H.length⟩ rfl E E {tmps:=vs.toArray++Array.replicate (fn.ntmps - vs.toArray.size) undef,defers:=[]} (Good.refl av.fresh ag) ⟨av,(fun t c hm=>by rw[ag t] at hm;cases hm),fun t=> ?_,?_⟩ rfl) ?_)
 ·show V3 E ((args++List.replicate (fn.ntmps - args.length) AV.undef).getD t AV.undef) _
  rcases Nat.lt_or_ge t args.length with aQ | f_
  ·have h1:args[t]?=some args[t]:=List.getElem?_eq_getElem aQ
   obtain⟨v,hv,ao⟩:=ae.get h1
   have J6:t<vs.length:=ae.1▸aQ
   have aW:(args++List.replicate (fn.ntmps - args.length) AV.undef).getD t .undef=args[t]:=by
    rw[List.getD_eq_getElem?_getD,List.getElem?_append_left aQ,h1];rfl
   have e2:(vs.toArray++Array.replicate (fn.ntmps - vs.toArray.size) undef).getD t undef=v:=by
    rw[Array.getD_eq_getD_getElem?,Array.getElem?_append_left (by simpa using J6)]
    simp[hv]
   rw[aW,e2];exact me ao
  ·have aW:(args++List.replicate (fn.ntmps - args.length) AV.undef).getD t .undef= .undef:=by
    rw[List.getD_eq_getElem?_getD,List.getElem?_append_right f_,List.getElem?_replicate];split<;>rfl
   rw[aW];exact V3.undef _ _
 ·simp[Gl,ae.1]
 ·rintro e a w ⟨hex,aj,E',U,hw,ax,hs,aV⟩
  have fin:vL P fn aj Q→a.defers=[]∧ ∃v,(results fn a.tmps).run P w= .ok v w∧ ∃r aab H' E',(Ending.returned v)= .returned aab∧Q r H'∧E'.w=w∧(∀t,E'.mL t=none)∧SimH E' H'∧V3 E' r aab∧Step E E':=by
   intro Ke
   refine⟨aV,?_⟩
   subst hw
   have hm: ∀f:ResultVar→Sem Value,(∀t,f (.tmp t)=pure (a.tmps.getD t undef))→(∀b t,f (.cell b t)=do loadVar t (←asAddr (a.tmps.getD b undef)))→ ∃l hp,(l.all kG=true∧Q (s0 l) aj.H)∧(fn.results.mapM f).run P E'.w= .ok (List.toArray hp) E'.w∧af (V3 E') l hp:=by
    intro f f1 f2
    obtain⟨l,hp,h1,ao,h2⟩:=MU hs f1 f2 _ _ Ke
    exact⟨l,hp,h1,by rw[Array.mapM_eq_mapM_toList,Sem.run_map,ao];rfl,h2⟩
   obtain⟨f,aeZ,w3,hf2⟩:=akt fn a.tmps
   obtain⟨l,hp,⟨SB,aeA⟩,ao,zz⟩:=hm f w3 hf2
   refine⟨if h:hp.toArray.size=1 then hp.toArray[0] else .tuple hp.toArray,?_,s0 l,_,aj.H,E'.bL,rfl,aeA,rfl,fun _=>rfl,hs.h.bL,?_,ax.toStep⟩
   ·rw[aeZ,Sem.run_bind,ao];rfl
   ·cases l with
    | nil=>
     obtain rfl:=zz.oQ
     exact⟨[],rfl,af.nil⟩
    | cons x l=>
     obtain⟨u,aov,rfl,hx,SM⟩:=zz.cons_inv
     cases l with
     | nil=>
      obtain rfl:=SM.oQ
      show V3 E'.bL x u
      have mr:kG x=true:=by simpa using SB
      exact hx.bL (by cases x<;>first | exact mr | (cases mr))
     | cons y l=>
      obtain⟨z,anu,rfl,bi,aoj⟩:=SM.cons_inv
      have b9: ¬(List.toArray (u::z::anu)).size=1:=by simp
      rw[dif_neg b9]
      refine⟨_,rfl,?_⟩
      refine⟨zz.1,fun i p q SL afC=> ?_⟩
      have hv:=zz.2 i p q SL afC
      have mr:kG p=true:=List.all_eq_true.1 SB p (List.mem_of_getElem? SL)
      have a6: ∀l,p≠ .tup l:=by
       intro l e;subst e;cases mr
      exact aaY mr hv a6
  cases e with
  | normal=>exact fin U
  | ret=>exact fin U
  | exit id=>exact U.elim
  | _=>cases hex
inductive fQ (L:List (Nat×List AV)) (H:List Blk):AV→AV→Prop where
 | undef (a:AV):fQ L H a .undef
 | int (k:IntKind) (n:Int):fQ L H (.int k n) (.int k n)
 | bool (b:Bool):fQ L H (.bool b) (.bool b)
 | str (s:ByteArray):fQ L H (.str s) (.str s)
 | fT:fQ L H .fT .fT
 | gu:fQ L H .gu .gu
 | aX (rows:List (List AV)) (full fr dK:Bool) (hw:dK=true→full=true):fQ L H (.aX rows full fr) (.aX rows dK false)
 | dh (cells:List AV) (c:Nat):fQ L H (.dh cells c) (.dh cells c)
 | fp {t c:Nat} {cells gL:List AV} (h:eB L t=some cells) (aw:cells.length=gL.length)
   (ao: ∀(j:Nat) (a b:AV),cells[j]?=some a→gL[j]?=some b→fQ L H a b):fQ L H (.fp t c) (.dh gL c)
 | ptr {b g r c:Nat} {blk:Blk} {row row':List AV} (hb:H[b]?=some blk) (ax:blk.bf=g) (eH:blk.rows[r]?=some row) (aw:row.length=row'.length)
   (ao: ∀(j:Nat) (a b:AV),row[j]?=some a→row'[j]?=some b→fQ L H a b):fQ L H (.ptr b g r c) (.dh row' c)
 | ref {b g off n:Nat} {full dK:Bool} {blk:Blk} {iW:List (List AV)} (hw:dK=true→full=true) (hb:H[b]?=some blk) (ax:blk.bf=g) (ag:iW.length=n) (gN:n≤4611686018427387904) (ai:off+n≤blk.rows.length)
   (aw: ∀(i:Nat) (row row':List AV),blk.rows[off+i]?=some row→iW[i]?=some row'→row.length=row'.length)
   (ao: ∀(i j:Nat) (row row':List AV) (a c:AV),blk.rows[off+i]?=some row→iW[i]?=some row'→row[j]?=some a→row'[j]?=some c→fQ L H a c):
   fQ L H (.ref b g off n full) (.aX iW dK false)
 | fn {f:FuncId} {caps BX:List AV} (aw:caps.length=BX.length) (ao: ∀(j:Nat) (a b:AV),caps[j]?=some a→BX[j]?=some b→fQ L H a b):fQ L H (.fn f caps) (.fn f BX)
def cL (L:List (Nat×List AV)) (H:List Blk) (a b:AV):Prop:=
 (∃l l',a= .agg l∧b= .agg l'∧af (fQ L H) l l')∨fQ L H a b
def Env.frozen (E:Env):Env:={w:=E.w,PA:=fun c=>E.PA c∨E.gq c∨E.k1 c,PF:=fun _=>False,m:=fun _=>none,bf:=fun _=>0,sz:=fun _=>0,cp:=fun _=>0,mL:=fun _=>none}
theorem Rt {E:Env} {H:List Blk} (h:SimH E H):SimH E.frozen [] where
 heap:=fun b c hb=>by cases hb
 eV:=fun b blk hb=>by simp at hb
 ha:=fun b hb=>by cases hb
 fresh:=fun b _=>⟨rfl,rfl⟩
 hC:=fun b bS c hb=>by cases hb
 jt:=fun t jG c hb=>by cases hb
 gB:=fun b t c hb=>by cases hb
 hF:=fun c _ ⟨b,hb⟩=>by cases hb
 ii:=fun c _ ⟨b,hb⟩=>by cases hb
 dA:=fun c hc=>hc.elim
 ft:=fun c hc=>hc.elim
 dP:=fun c hc=>hc.elim (h.dP c) fun hc=>hc.elim (h.fq c) (h.gr c)
 fq:=fun c ⟨b,hb⟩=>by cases hb
 gr:=fun c ⟨b,hb⟩=>by cases hb
theorem Ie {E:Env} {a:AV} {v:Value} (h:e6 E a v):bZ E a v:=by
 by_cases hf: ∃f caps,a= .fn f caps
 ·obtain⟨f,caps,rfl⟩:=hf
  exact aY.v1 h
 ·rw[rQ fun f c e=>hf ⟨f,c,e⟩];exact h
theorem X6 {L kS:List (Nat×List AV)} {H e0:List Blk} {E:Env} (sub:Sub L H kS e0) (av:SimH E e0) (bC:SimL E kS) {a b:AV} (h:fQ L H a b):
  ∀{v:Value},bZ E a v→aY E.w (fun c=>E.PA c∨E.gq c∨E.k1 c) (fun _=>False) b v:=by
 induction h with
 | undef a=>intro v _;exact .undef v
 | int k n=>intro v hv;have hv:aY E.w E.PA E.PF (.int k n) v:=hv;cases hv;exact .int _ _
 | bool k=>intro v hv;have hv:aY E.w E.PA E.PF (.bool k) v:=hv;cases hv;exact .bool _
 | str k=>intro v hv;have hv:aY E.w E.PA E.PF (.str k) v:=hv;cases hv;exact .str _
 | fT=>intro v hv;have hv:aY E.w E.PA E.PF .fT v:=hv;cases hv;exact .fT
 | gu=>intro v hv;have hv:aY E.w E.PA E.PF .gu v:=hv;cases hv;exact .gu
 | aX rows full fr dK hw=>
  intro v hv
  have hv:aY E.w E.PA E.PF (.aX rows full fr) v:=hv
  cases hv with
  | aX eW fl fK b9 dt hrel=>
   exact .aX (fun c hc=>by
    have:=eW c hc
    simp only[Bool.false_eq_true,if_false]
    split at this
    ·exact .inl (av.dA c this)
    ·exact .inl this) fl (fun h=>fK (hw h)) b9 dt hrel
 | dh cells c=>
  intro v hv
  have hv:aY E.w E.PA E.PF (.dh cells c) v:=hv
  cases hv with
  | dh hc dt hrel=>exact .dh (.inl hc) dt fun j a al=>(hrel j a al).mono (fun _ _=>rfl) (fun _ h=>h.elim) (fun c hc=> .inl hc) (fun _ h=>h)
 | @fp t c cells gL ax aw ao br=>
  intro v hv
  obtain⟨bl,hm,rfl⟩:=(show ∃bl,E.mL t=some bl∧v= .pointer (some ⟨bl,c,none⟩) from hv)
  obtain⟨BY,ay,ty,sa,hw,ae⟩:=bC t bl hm
  obtain rfl:cells=BY:=by have:=sub.l _ _ ax;rw[sa] at this;exact(Option.some.inj this).symm
  have key:=aY.dh (w:=E.w) (PA:=fun c=>E.PA c∨E.gq c∨E.k1 c) (PF:=fun _=>False) (cells:=gL) (col:=c) (c:=bl) (o:=0) (vs:=fun j=>(ay[j]?).getD undef)
   (.inr (.inr ⟨t,hm⟩))
   (fun j al=>by
    have aQ:j<ay.size:=by have:=ae.1;simp at this;omega
    rw[Nat.zero_add]
    rw[cell_of hw (Array.getElem?_eq_getElem aQ)]
    simp[Array.getElem?_eq_getElem aQ])
   (fun j b al=>by
    have aQ:j<cells.length:=by have:=(List.getElem?_eq_some_iff.1 al).1;omega
    obtain⟨u,hu,gP⟩:=ae.get (List.getElem?_eq_getElem aQ)
    have:(ay[j]?).getD undef=u:=by rw[Array.getElem?_toList] at hu;rw[hu];rfl
    rw[this]
    exact br j _ b (List.getElem?_eq_getElem aQ) al gP.up)
  rw[Nat.zero_add] at key
  exact key
 | @ptr b g r c blk row row' hb ax eH aw ao br=>
  intro v hv
  have hb:=sub.h b blk hb
  have ky:=av.eV b blk hb
  obtain⟨bl,hm,rfl⟩:=V3.GY (E:=E) (v:=v) (show V3 E (.ptr b g r c) v from hv) (ky.trans ax)
  obtain⟨blk',ay,ty,q1,cH,hw,lU,hlen,gn⟩:=av.heap b bl hm
  obtain rfl:blk=blk':=by rw[hb] at q1;exact Option.some.inj q1
  exact aY.dh (vs:=fun j=>(ay[r*E.sz b+j]?).getD undef) (.inr (.inl ⟨b,hm⟩))
   (fun j al=>by
    have aQ:j<row.length:=by omega
    obtain⟨u,hu,_⟩:=gn.2 r j row _ eH (List.getElem?_eq_getElem aQ)
    rw[cell_of hw hu,hu];rfl)
   (fun j b2 al=>by
    have aQ:j<row.length:=by have:=(List.getElem?_eq_some_iff.1 al).1;omega
    obtain⟨u,hu,gP⟩:=gn.2 r j row _ eH (List.getElem?_eq_getElem aQ)
    rw[hu]
    exact br j _ b2 (List.getElem?_eq_getElem aQ) al gP.up)
 | @ref b g off n full dK blk iW Kl hb ax ag gN ai aw ao br=>
  intro v hv
  have hb:=sub.h b blk hb
  have ky:=av.eV b blk hb
  rcases(show e6 E (.ref b g off n full) v from hv) with⟨bz,_⟩ | ⟨f_,bz⟩
  ·omega
  ·rcases bz with⟨_,_,mq,A,rfl⟩ | ⟨c,cap,hm,rfl,p_,q6,r9⟩
   ·subst mq
    obtain rfl:iW=[]:=List.eq_nil_of_length_eq_zero ag
    exact aY.aX (rows:=[]) (PB:=fun _=>False) (sz:=0) (vs:=fun _ _=>undef) (fun _ h=>h.elim) ⟨Nat.le_refl _,Nat.zero_le _⟩ (fun _=>rfl) (fun i row h=>by simp at h) (fun h=>by simp at h) (fun i j row a h=>by simp at h)
   ·obtain⟨blk',ay,ty,q1,cH,hw,lU,hlen,gn⟩:=av.heap b c hm
    obtain rfl:blk=blk':=by rw[hb] at q1;exact Option.some.inj q1
    subst ag
    have eH: ∀i,i<iW.length→ ∃row,blk.rows[off+i]?=some row:=fun i hi=>⟨_,List.getElem?_eq_getElem (by omega)⟩
    refine aY.aX (PB:=fun c=>E.PA c∨E.gq c∨E.k1 c) (sz:=E.sz b) (vs:=fun i j=>(ay[(off+i)*E.sz b+j]?).getD undef) (fun c hc=>by simpa using hc) ⟨p_,gN⟩ (fun h=>q6 (Kl h))
     (fun i row' eX=> ?_) (fun lW=>⟨c,off*E.sz b,rfl,.inr (.inl ⟨b,hm⟩),fun i j hi al=> ?_⟩) (fun i j row' a eX al=> ?_)
    ·obtain⟨row,ie⟩:=eH i (List.getElem?_eq_some_iff.1 eX).1
     rw[←aw i row row' ie eX];exact gn.1 _ row ie
    ·obtain⟨row,ie⟩:=eH i hi
     have aQ:j<row.length:=by rw[gn.1 _ row ie];exact al
     obtain⟨u,hu,_⟩:=gn.2 (off+i) j row _ ie (List.getElem?_eq_getElem aQ)
     rw[show off*E.sz b+(i*E.sz b+j)=(off+i)*E.sz b+j by rw[Nat.add_mul];omega,cell_of hw hu,hu];rfl
    ·obtain⟨row,ie⟩:=eH i (List.getElem?_eq_some_iff.1 eX).1
     have aQ:j<row.length:=by rw[aw i row row' ie eX];exact(List.getElem?_eq_some_iff.1 al).1
     obtain⟨u,hu,gP⟩:=gn.2 (off+i) j row _ ie (List.getElem?_eq_getElem aQ)
     rw[hu]
     exact br i j row row' _ a ie eX (List.getElem?_eq_getElem aQ) al gP.up
 | @fn f caps BX aw ao br=>
  intro v hv
  obtain⟨vs,rfl,ae⟩:=(show ∃vs:List Value,v= .func (.func f) #[] vs.toArray∧af (e6 E) caps vs from hv)
  exact .fn (aw▸ae.1) fun i b u hb hu=>by
   have aQ:i<caps.length:=by have:=(List.getElem?_eq_some_iff.1 hb).1;omega
   exact br i _ b (List.getElem?_eq_getElem aQ) hb (Ie (ae.2 i _ u (List.getElem?_eq_getElem aQ) hu))
theorem X7 {L kS:List (Nat×List AV)} {H e0:List Blk} {E:Env} (sub:Sub L H kS e0) (av:SimH E e0) (bC:SimL E kS) {a b:AV} (h:cL L H a b) {v:Value} (hv:V2 E a v):V2 E.frozen b v:=by
 rcases h with⟨l,l',rfl,rfl,ae⟩ | h
 ·obtain⟨vs,rfl,U⟩:=hv
  refine⟨vs,rfl,ae.1▸U.1,fun i x u hx hu=> ?_⟩
  have aQ:i<l.length:=by have:=(List.getElem?_eq_some_iff.1 hx).1;have:=ae.1;omega
  have aw:=List.getElem?_eq_getElem aQ
  exact aY.v1 (E:=E.frozen) (X6 sub av bC (ae.2 i _ x aw hx) (U.2 i _ u aw hu))
 ·by_cases hf: ∃l,a= .agg l
  ·obtain⟨l,rfl⟩:=hf
   cases h with
   | undef=>exact aY.undef v
  ·rw[p1 fun l e=>hf ⟨l,e⟩] at hv
   exact lg (aY.v1 (E:=E.frozen) (X6 sub av bC h hv))
inductive gk (H:List Blk):AV→AV→Prop where
 | int (k:IntKind) (n:Int):gk H (.int k n) (.int k n)
 | bool (b:Bool):gk H (.bool b) (.bool b)
 | str (s:ByteArray):gk H (.str s) (.str s)
 | fT:gk H .fT .fT
 | gu:gk H .gu .gu
 | aX (rows:List (List AV)) (full dK:Bool) (hw:dK=true→full=true):gk H (.aX rows full true) (.aX rows dK true)
 | VV (full fr dK:Bool) (hw:dK=true→full=true):gk H (.aX [] full fr) (.aX [] dK true)
 | ref {b g off n:Nat} {full dK:Bool} {blk:Blk} {iW:List (List AV)} (hw:dK=true→full=true) (ay:Nat→Nat→AV) (hb:H[b]?=some blk) (ax:blk.bf=g) (ag:iW.length=n) (gN:n≤4611686018427387904) (ai:off+n≤blk.rows.length)
   (aw: ∀(i:Nat) (row row':List AV),blk.rows[off+i]?=some row→iW[i]?=some row'→row.length=row'.length)
   (ao: ∀(i j:Nat) (row:List AV) (a:AV),i<n→blk.rows[off+i]?=some row→row[j]?=some a→gk H a (ay i j))
   (hc: ∀(i j:Nat) (row':List AV) (c:AV),iW[i]?=some row'→row'[j]?=some c→c=jL (ay i j)):
   gk H (.ref b g off n full) (.aX iW dK true)
def wC (H:List Blk) (a b:AV):Prop:=(∃l l',a= .agg l∧b= .agg l'∧af (gk H) l l')∨gk H a b
def iw (H:List Blk) (a b:AV):Prop:=(∃l l',a= .tup l∧b= .tup l'∧af (wC H) l l')∨wC H a b
theorem alE {H:List Blk} {a b:AV} (h:gk H a b):jQ b=true:=by cases h<;>rfl
theorem X9 {H:List Blk} {E:Env} (av:SimH E H) {a b:AV} (h:gk H a b):
  ∀{v:Value},bZ E a v→aY E.w (fun c=>E.PF c∨E.gq c) (fun c=>E.PF c∨E.gq c) b v:=by
 induction h with
 | int k n=>intro v hv;have hv:aY E.w E.PA E.PF (.int k n) v:=hv;cases hv;exact .int _ _
 | bool k=>intro v hv;have hv:aY E.w E.PA E.PF (.bool k) v:=hv;cases hv;exact .bool _
 | str k=>intro v hv;have hv:aY E.w E.PA E.PF (.str k) v:=hv;cases hv;exact .str _
 | fT=>intro v hv;have hv:aY E.w E.PA E.PF .fT v:=hv;cases hv;exact .fT
 | gu=>intro v hv;have hv:aY E.w E.PA E.PF .gu v:=hv;cases hv;exact .gu
 | aX rows full dK hw=>
  intro v hv
  have hv:aY E.w E.PA E.PF (.aX rows full true) v:=hv
  cases hv with
  | aX eW fl fK b9 dt hrel=>exact .aX (fun c hc=>by have:=eW c hc;simp at this ⊢;exact .inl this) fl (fun h=>fK (hw h)) b9 dt hrel
 | VV full fr dK hw=>
  intro v hv
  have hv:aY E.w E.PA E.PF (.aX [] full fr) v:=hv
  cases hv with
  | aX eW fl fK b9 dt hrel=>exact aY.aX (rows:=[]) (PB:=fun _=>False) (sz:=0) (vs:=fun _ _=>undef) (fun _ h=>h.elim) fl (fun h=>fK (hw h)) (fun i row h=>by simp at h) (fun h=>by simp at h) (fun i j row a h=>by simp at h)
 | @ref b g off n full dK blk iW Kl ay hb ax ag gN ai aw ao hc br=>
  intro v hv
  have ky:=av.eV b blk hb
  rcases(show e6 E (.ref b g off n full) v from hv) with⟨bz,_⟩ | ⟨f_,bz⟩
  ·omega
  ·rcases bz with⟨_,_,mq,A,rfl⟩ | ⟨c,cap,hm,rfl,p_,q6,r9⟩
   ·subst mq
    obtain rfl:iW=[]:=List.eq_nil_of_length_eq_zero ag
    exact aY.aX (rows:=[]) (PB:=fun _=>False) (sz:=0) (vs:=fun _ _=>undef) (fun _ h=>h.elim) ⟨Nat.le_refl _,Nat.zero_le _⟩ (fun _=>rfl) (fun i row h=>by simp at h) (fun h=>by simp at h) (fun i j row a h=>by simp at h)
   ·obtain⟨blk',y2,ty,q1,cH,hw,lU,hlen,gn⟩:=av.heap b c hm
    obtain rfl:blk=blk':=by rw[hb] at q1;exact Option.some.inj q1
    subst ag
    have eH: ∀i,i<iW.length→ ∃row,blk.rows[off+i]?=some row:=fun i hi=>⟨_,List.getElem?_eq_getElem (by omega)⟩
    refine aY.aX (PB:=fun c=>E.PF c∨E.gq c) (sz:=E.sz b) (vs:=fun i j=>(y2[(off+i)*E.sz b+j]?).getD undef) (fun c hc=>by simpa using hc) ⟨p_,gN⟩ (fun h=>q6 (Kl h))
     (fun i row' eX=> ?_) (fun lW=>⟨c,off*E.sz b,rfl,.inr ⟨b,hm⟩,fun i j hi al=> ?_⟩) (fun i j row' a eX al=> ?_)
    ·obtain⟨row,ie⟩:=eH i (List.getElem?_eq_some_iff.1 eX).1
     rw[←aw i row row' ie eX];exact gn.1 _ row ie
    ·obtain⟨row,ie⟩:=eH i hi
     have aQ:j<row.length:=by rw[gn.1 _ row ie];exact al
     obtain⟨u,hu,_⟩:=gn.2 (off+i) j row _ ie (List.getElem?_eq_getElem aQ)
     rw[show off*E.sz b+(i*E.sz b+j)=(off+i)*E.sz b+j by rw[Nat.add_mul];omega,cell_of hw hu,hu];rfl
    ·have hi:=(List.getElem?_eq_some_iff.1 eX).1
     obtain⟨row,ie⟩:=eH i hi
     have aQ:j<row.length:=by rw[aw i row row' ie eX];exact(List.getElem?_eq_some_iff.1 al).1
     obtain⟨u,hu,gP⟩:=gn.2 (off+i) j row _ ie (List.getElem?_eq_getElem aQ)
     have h1:=br i j row _ hi ie (List.getElem?_eq_getElem aQ) gP.up
     have h2:=alE (ao i j row _ hi ie (List.getElem?_eq_getElem aQ))
     rw[hu,hc i j row' a eX al]
     exact Pq h2 h1 (fun c hc=>hc) (fun c hc=>hc)
def bc (P:Program) (f:FuncId) (args:List AV) (t:AV):Prop:=c0 P f args [] fun r e0=>iw e0 r t
theorem Qv {P:Program} {f:FuncId} {args eg:List AV} {t:AV} {L kS:List (Nat×List AV)} {H e0:List Blk} {E:Env} {vs:List Value} (sub:Sub L H kS e0) (av:SimH E e0) (bC:SimL E kS)
  (aG:af (V2 E) args vs) (hs:af (cL L H) args eg) (h:bc P f eg t):
  Calls P f vs.toArray E.w fun e w'=> ∃v E',e= .returned v∧E'.w=w'∧mc E E'∧V3 E' t v:=by
 have wT:af (V2 E.frozen) eg vs:=⟨hs.1▸aG.1,fun i x u hx hu=>by
  have aQ:i<args.length:=by have:=(List.getElem?_eq_some_iff.1 hx).1;have:=hs.1;omega
  have aw:=List.getElem?_eq_getElem aQ
  exact X7 sub av bC (hs.2 i _ x aw hx) (aG.2 i _ u aw hu)⟩
 refine(h.2 E.frozen vs (fun _=>rfl) (Rt av) wT).mono ?_
 rintro e w' ⟨r,v,H',E1,rfl,ao,rfl,ag,eP,hv,aS⟩
 let N:Nat→Prop:=fun c=>E1.PF c∨E1.gq c
 have jh: ∀c,N c→E.w.heap.size≤c∧c<E1.w.heap.size:=by
  rintro c (hc | hc)
  ·exact⟨(aS.fz c hc).elim (fun h=>h.elim) id,eP.dP c (eP.dA c hc)⟩
  ·exact⟨(aS.rf c hc).elim (fun⟨b,hb⟩=>by cases hb) id,eP.fq c hc⟩
 have nR: ∀c,c<E.w.heap.size→E1.w.heap[c]?=E.w.heap[c]?:=fun c hc=>aS.dF c hc (fun⟨b,hb⟩=>by cases hb) (fun⟨b,hb⟩=>by cases hb)
 let E':Env:={E with w:=E1.w,PA:=fun c=>E.PA c∨N c,PF:=fun c=>E.PF c∨N c}
 have U:mc E E':=
  {step:=⟨⟨fun c hc=> .inl hc,fun c hc=> .inl hc,fun c hc=>nR c (av.dP c hc),fun c hc=>nR c (av.dP c (av.dA c hc)),fun _=>Nat.le_refl _,fun _ _ h _=>⟨h,rfl,rfl⟩,fun _ _ h=>h⟩,
    aS.os,aS.tape,aS.output,aS.size,fun c hc _ _=>nR c hc,fun _ _ h=> .inl h,fun _ h=> .inl h,fun c hc=>hc.elim .inl (fun h=> .inr (jh c h).1),fun c hc=>hc.elim .inl (fun h=> .inr (jh c h).1)⟩
   m:=rfl,mL:=rfl,bf:=rfl,sz:=rfl,cp:=rfl
   dF:=nR
   fG:=fun c hc=>hc.elim .inl (fun h=> .inr (jh c h))
   dA:=fun c hc=>hc.elim (fun h=> .inl (av.dA c h)) .inr
   ft:=fun c hc=>hc.elim (fun h=>(av.ft c h).same (nR c (av.dP c (av.dA c h)))) (fun h=>by
    rcases h with h | ⟨b,hb⟩
    ·exact eP.ft c h
    ·obtain⟨_,ay,ty,_,_,q,_⟩:=eP.heap b c hb
     exact⟨ay,ty,q⟩)}
 have up: ∀{b:AV} {u:Value},aY E1.w N N b u→bZ E' b u:=fun h=>aY.v1 (E:=E') (h.mono (fun _ _=>rfl) (fun _ _=>rfl) (fun c hc=> .inr hc) (fun c hc=> .inr hc))
 have dG: ∀{a b:AV} {u:Value},gk H' a b→bZ E1 a u→bZ E' b u:=fun aG hu=>up (X9 eP aG hu)
 have et: ∀{a b:AV} {u:Value},wC H' a b→V2 E1 a u→V2 E' b u:=by
  rintro a b u (⟨l,l',rfl,rfl,ae⟩ | h) hu
  ·obtain⟨hp,rfl,U⟩:=hu
   refine⟨hp,rfl,ae.1▸U.1,fun i x y hx bi=> ?_⟩
   have aQ:i<l.length:=by have:=(List.getElem?_eq_some_iff.1 hx).1;have:=ae.1;omega
   have aw:=List.getElem?_eq_getElem aQ
   exact dG (ae.2 i _ x aw hx) (U.2 i _ y aw bi)
  ·have:bZ E1 a u:=by cases h<;>exact hu
   exact lg (dG h this)
 have eN: ∀{a b:AV} {u:Value},iw H' a b→V3 E1 a u→V3 E' b u:=by
  rintro a b u (⟨l,l',rfl,rfl,ae⟩ | h) hu
  ·obtain⟨hp,rfl,U⟩:=hu
   refine⟨hp,rfl,ae.1▸U.1,fun i x y hx bi=> ?_⟩
   have aQ:i<l.length:=by have:=(List.getElem?_eq_some_iff.1 hx).1;have:=ae.1;omega
   have aw:=List.getElem?_eq_getElem aQ
   exact et (ae.2 i _ x aw hx) (U.2 i _ y aw bi)
  ·have:V2 E1 a u:=by
    rcases h with⟨l,l',rfl,rfl,ae⟩ | h
    ·exact hu
    ·cases h<;>exact hu
   exact me (et h this)
 exact⟨v,E',rfl,rfl,U,eN ao hv⟩
def Iu:AV→Bool
 | .agg _ | .tup _ | .fn _ _=>false
 | _=>true
def C9 (fn:Fn) (first:Array Operand) (caps:List AV) (K:AV→Prop):Prop:=match fn with
 | .func f=>if first.isEmpty=true∧caps.all Iu=true then K (.fn f caps) else False
 | _=>False
def eL:AV→Bool
 | .tup _=>false
 | _=>true
def mh (x:AV) (K:FuncId→List AV→Prop):Prop:=match x with
 | .fn f caps=>K f caps
 | _=>False
def p5 (P:Program) (f:FuncId) (args:List AV) (L:List (Nat×List AV)) (H:List Blk) (K:AV→Prop):Prop:=
 args.all eL=true∧ ∃eg t,af (cL L H) args eg∧bc P f eg t∧K t
def I8 (P:Program) (c:Call) (bt:Operand→AV) (L:List (Nat×List AV)) (H:List Blk) (K:AV→Prop):Prop:=match c.callee with
 | .builtin .len=>(match c.args.toList,c.argTypes.toList with
  | [x],[t]=>eM (kf P t (bt x)) (tX (bt x) K)
  | _,_=>False)
 | .value f=>mh (bt f) fun g caps=>p5 P g (c.args.toList.map bt++caps) L H K
 | _=>False
def uU (P:Program) (o:Oper) (bt:Operand→AV) (L:List (Nat×List AV)) (H:List Blk) (K:AV→Prop):Prop:=match o.op with
 | .move x=>K (bt x)
 | .assign x=>K (bt x)
 | .pick c a b=>p4 (bt c) fun z=>BR z (K (bt a)) (K (bt b))
 | .build t ps=>eM (ps.toList.all fun p=>eL (bt p.2)) (Is P t (ps.toList.map fun p=>(p.1,bt p.2)) K)
 | .buildSlice t n ps=>eM (ps.toList.all fun p=>eL (bt p.2)) (y0 P t n (ps.toList.map fun p=>(p.1,bt p.2)) K)
 | .load t a=>qg P t (bt a) L H K
 | .nilCheck x=>Mh (bt x) K
 | .binOp op t x y _=>uP P op t (bt x) (bt y) (sw y) K
 | .unOp op _ x=>HV op (bt x) K
 | .convert s d x=>IP P s d (bt x) K
 | .makeFunc fn first caps=>C9 fn first (caps.toList.map bt) K
 | .fieldAddr t x f=>Je P t (bt x) f K
 | .indexAddr t x i=>zF P t (bt x) (bt i) H K
 | .index t x i=>Kv P t (bt x) (bt i) K
 | .slice t x lo hi mx=>(match mx with
  | none=>x4 P t (bt x) (lo.map bt) (hi.map bt) H K
  | some _=>False)
 | .extract x i=>Ja (bt x) i K
 | .call c=>I8 P c bt L H K
 | _=>False
theorem Pt {P:Program} {o:Oper} {a:Act} {next:Act→World→Prop} {Q:Exit→Act→World→Prop} {s:Sem Value} {w w':World} {u:Value} (h:s.run P w= .ok u w') (k:next (a.put o.dst u) w'):
  o.upon P a next Q ((do pure (Next.value (←s)):Sem Next).run P w):=by
 rw[Sem.run_bind,h];exact k
theorem parts_eq (ps:Array (Nat×Operand)) (a:Act):(ps.toList.map fun p=>(p.1,a.eval p.2)).toArray=ps.map fun(i,x)=>(i,a.eval x):=by
 apply Array.ext'
 rw[Array.toList_map]
theorem Mt {E:Env} {a:Act} {T:List AV} (b7: ∀t,V3 E (T.getD t .undef) (a.tmps.getD t undef)) (ps:List (Nat×Operand)) (ag: ∀p∈ps,∀l,b6 T p.2≠ .tup l):
  af (fun(x:Nat×AV) (y:Nat×Value)=>x.1=y.1∧V2 E x.2 y.2) (ps.map fun p=>(p.1,b6 T p.2)) (ps.map fun p=>(p.1,a.eval p.2)):=by
 refine⟨by simp,fun i x y hx bi=> ?_⟩
 rw[List.getElem?_map] at hx bi
 cases ae:ps[i]? with
 | none=>simp[ae] at hx
 | some p=>
  simp[ae] at hx bi
  subst hx;subst bi
  refine⟨rfl,?_⟩
  have:=opv_rel b7 p.2
  rwa [p2 (ag p (List.mem_of_getElem? ae))] at this
theorem P7 {E:Env} {a:Act} {T:List AV} (b7: ∀t,V3 E (T.getD t .undef) (a.tmps.getD t undef)) (xs:List Operand) (ag: ∀x∈xs,∀l,b6 T x≠ .tup l):
  af (V2 E) (xs.map (b6 T)) (xs.map a.eval):=by
 refine⟨by simp,fun i x y hx bi=> ?_⟩
 rw[List.getElem?_map] at hx bi
 cases ae:xs[i]? with
 | none=>simp[ae] at hx
 | some p=>
  simp[ae] at hx bi
  subst hx;subst bi
  have:=opv_rel b7 p
  rwa [p2 (ag p (List.mem_of_getElem? ae))] at this
theorem Ah {a:AV} (h:eL a=true): ∀l,a≠ .tup l:=by
 intro l e;subst e;cases h
theorem Wq {E:Env} {a:Act} {T:List AV} (b7: ∀t,V3 E (T.getD t .undef) (a.tmps.getD t undef)) (x:Option Operand):
  Er E (x.map (b6 T)) (x.map a.eval):=by
 cases x with
 | none=>trivial
 | some x=>exact opv_rel b7 x
theorem Qw {E:Env} {a:Act} {T:List AV} (b7: ∀t,V3 E (T.getD t .undef) (a.tmps.getD t undef)) {f:Operand} {g:FuncId} {caps:List AV} (h:b6 T f= .fn g caps):
  ∃vs:List Value,a.eval f= .func (.func g) #[] vs.toArray∧af (V2 E) caps vs:=by
 have:=opv_rel b7 f
 rw[h] at this
 obtain⟨vs,e,ae⟩:=(show ∃vs:List Value,a.eval f= .func (.func g) #[] vs.toArray∧af (e6 E) caps vs from this)
 exact⟨vs,e,ae.mono fun _ _ k=>lg (Ie k)⟩
theorem akE {P:Program} {f:FuncId} {w:World} {args:Array Value} (h:vA P f=true):(callFunc f args).run P w= .ok (.enter f args) w:=by
 unfold vA at h
 cases hf:P.funcs[f]? with
 | none=>simp[hf] at h
 | some fn=>
  simp[hf] at h
  obtain⟨h1,h2⟩:=h
  simp[callFunc,hf,h1]
  cases hb:fn.body with
  | none=>simp[hb] at h2
  | some c=>intro bz;cases bz
theorem Xy {P:Program} {c:Call} {a:Act} {ty:TypeId} {f:Operand} {g:FuncId} {vs:List Value} {w:World} (hc:c.callee= .value f) (hf:a.eval f= .func (.func g) #[] vs.toArray) (h:vA P g=true):
  (do let d ←resolve a.eval c ty;invoke d.target d.args:Sem Next).run P w= .ok (.enter g (c.args.toList.map a.eval++vs).toArray) w:=by
 unfold resolve
 rw[hc]
 simp only[hf,Deferred.ofValue,Sem.run_bind,Sem.run_pure,Result.andThen_ok,invoke]
 rw[akE h]
 simp
def BK (E:Env) (o:Oper) (a:Act) (K:AV→Prop):Act→World→Prop:=fun ib w'=> ∃v eu E',K v∧E'.w=w'∧mc E E'∧V3 E' v eu∧ib=a.put o.dst eu
set_option maxHeartbeats 4000000 in
theorem Q9 {P:Program} {o:Oper} {a:Act} {T:List AV} {E:Env} {L kS:List (Nat×List AV)} {H e0:List Blk} {K:AV→Prop} {Q:Exit→Act→World→Prop}
  (b7: ∀t,V3 E (T.getD t .undef) (a.tmps.getD t undef)) (sub:Sub L H kS e0) (av:SimH E e0) (bC:SimL E kS) (h:uU P o (b6 T) L H K):o.wp P a E.w (BK E o a K) Q:=by
 have fin: ∀{s:Sem Value},(execOp a.eval o=(do pure (Next.value (←s))))→(∃r u E',K r∧s.run P E.w= .ok u E'.w∧mc E E'∧V3 E' r u)→o.wp P a E.w (BK E o a K) Q:=by
  rintro s hs ⟨r,u,E',hK,ao,U,hv⟩
  unfold Oper.wp
  rw[hs]
  exact Pt ao ⟨r,u,E',hK,rfl,U,hv,rfl⟩
 have qT: ∀{s:Sem Value},(execOp a.eval o=(do pure (Next.value (←s))))→(∃r u,K r∧s.run P E.w= .ok u E.w∧V3 E r u)→o.wp P a E.w (BK E o a K) Q:=by
  rintro s hs ⟨r,u,hK,ao,hv⟩
  exact fin hs ⟨r,u,E,hK,ao,mc.refl av,hv⟩
 have C_: ∀x,execOp a.eval o=pure (.value (a.eval x))→K (b6 T x)→o.wp P a E.w (BK E o a K) Q:=by
  intro x hs hK
  unfold Oper.wp
  rw[hs]
  exact⟨_,_,E,hK,rfl,mc.refl av,opv_rel b7 x,rfl⟩
 obtain⟨dst,op,ty,pos,after,guard⟩:=o
 cases op with
 | move x=>exact C_ x rfl h
 | assign x=>exact C_ x rfl h
 | pick c x y=>
  obtain⟨b,hb,h1,h2⟩:=EA (show p4 (b6 T c) fun z=>BR z (K (b6 T x)) (K (b6 T y)) from h)
  have hv:=opv_rel b7 c
  rw[hb] at hv
  have he:a.eval c= .bool b:=V3.pj hv
  cases b with
  | true=>exact C_ x (by simp[execOp,he,asBool]) (h1 rfl)
  | false=>exact C_ y (by simp[execOp,he,asBool]) (h2 rfl)
 | build t ps=>
  obtain⟨ag,h⟩:=rn h
  have:=aby (P:=P) (Mt b7 ps.toList fun p ae=>Ah (List.all_eq_true.1 ag p ae)) h
  exact qT (s:=Instr.build t (ps.toList.map fun p=>(p.1,a.eval p.2)).toArray) (by rw[parts_eq];rfl) this
 | buildSlice t n ps=>
  obtain⟨ag,h⟩:=rn h
  have:=Qq (P:=P) av (Mt b7 ps.toList fun p ae=>Ah (List.all_eq_true.1 ag p ae)) h
  exact fin (s:=Instr.buildSlice t n (ps.toList.map fun p=>(p.1,a.eval p.2)).toArray) (by rw[parts_eq];rfl) this
 | load t x=>
  obtain⟨r,u,hK,ao,hv⟩:=VF sub av bC (opv_rel b7 x) h
  exact qT (s:=Instr.loadAt t (a.eval x)) rfl ⟨r,u,hK,ao,me hv⟩
 | nilCheck x=>
  have hx:=opv_rel b7 x
  have h:Mh (b6 T x) K:=h
  have key: ∀mf,a.eval x= .pointer (some mf)→K (b6 T x)→Oper.wp P ⟨dst,.nilCheck x,ty,pos,after,guard⟩ a E.w (BK E ⟨dst,.nilCheck x,ty,pos,after,guard⟩ a K) Q:=by
   intro mf he hK
   exact C_ x (by simp[execOp,he]) hK
  cases hS:b6 T x with
  | fp s c=>
   rw[hS] at hx h
   obtain⟨bl,_,e⟩:=hx.C7
   exact key _ e (by rw[hS];exact h)
  | ptr b g r c=>
   rw[hS] at hx h
   rcases(show e6 E (.ptr b g r c) _ from hx) with⟨_,bl,o,e⟩ | ⟨_,bl,_,e⟩<;>exact key _ e (by rw[hS];exact h)
  | dh cells c=>
   rw[hS] at hx h
   have iR:aY E.w E.PA E.PF (.dh cells c) (a.eval x):=hx
   generalize hv:a.eval x=v at iR
   cases iR;exact key _ hv (by rw[hS];exact h)
  | _=>rw[hS] at h;exact h.elim
 | binOp op t x y ty2=>
  have Kq:sw y=true→a.eval y= .slice none 0 0:=by
   intro bz
   unfold sw at bz
   split at bz
   ·rfl
   ·cases bz
  exact qT (s:=do eqGuard op t x y (a.eval x) (a.eval y);binOp op t (a.eval x) (a.eval y)) rfl (abk (opv_rel b7 x) (opv_rel b7 y) Kq h)
 | unOp op t x=>exact qT (s:=Op.unary op (a.eval x)) rfl (ans (opv_rel b7 x) h)
 | convert s d x=>exact qT (s:=Go.convert s d (a.eval x)) rfl (acm (opv_rel b7 x) h)
 | makeFunc fn first caps=>
  replace h:C9 fn first (caps.toList.map (b6 T)) K:=h
  cases fn with
  | func f=>
   replace h:if first.isEmpty=true∧(caps.toList.map (b6 T)).all Iu=true then K (.fn f (caps.toList.map (b6 T))) else False:=h
   split at h
   ·rename_i hc
    obtain⟨h1,h2⟩:=hc
    have hf:first= #[]:=by simpa using h1
    subst hf
    refine qT (s:=Instr.makeFunc (.func f) (Array.map a.eval #[]) (caps.map a.eval)) rfl ⟨_,.func (.func f) #[] (caps.map a.eval),h,by simp[Instr.makeFunc],(caps.toList.map a.eval),by rw[←Array.toList_map,Array.toArray_toList],by simp,fun i x y hx bi=> ?_⟩
    rw[List.getElem?_map] at hx bi
    cases ae:caps.toList[i]? with
    | none=>simp[ae] at hx
    | some p=>
     simp[ae] at hx bi
     subst hx;subst bi
     have hv:=opv_rel b7 p
     have fD:Iu (b6 T p)=true:=List.all_eq_true.1 h2 _ (List.mem_map.2 ⟨p,List.mem_of_getElem? ae,rfl⟩)
     cases U:b6 T p<;>rw[U] at hv fD<;>first | exact hv | cases fD
   ·exact h.elim
  | _=>exact h.elim
 | fieldAddr t x f=>exact qT (s:=Instr.fieldAt t (a.eval x) f) rfl (ac7 (opv_rel b7 x) h)
 | indexAddr t x i=>exact qT (s:=Instr.indexAt t (a.eval x) (a.eval i)) rfl (af2 sub av (opv_rel b7 x) (opv_rel b7 i) h)
 | index t x i=>exact qT (s:=Instr.index t (a.eval x) (a.eval i)) rfl (agb (opv_rel b7 x) (opv_rel b7 i) h)
 | slice t x lo hi mx=>
  cases mx with
  | none=>exact qT (s:=Instr.sliceAt t (a.eval x) (lo.map a.eval) (hi.map a.eval) none) rfl (ald sub av (opv_rel b7 x) (Wq b7 lo) (Wq b7 hi) h)
  | some m=>exact h.elim
 | extract x i=>exact qT (s:=Instr.extract (a.eval x) i) rfl (ac2 (opv_rel b7 x) h)
 | call c=>
  have h:I8 P c (b6 T) L H K:=h
  obtain⟨callee,args,argTypes⟩:=c
  cases callee with
  | builtin b=>
   cases b with
   | len=>
    have h:(match args.toList,argTypes.toList with
     | [x],[t]=>eM (kf P t (b6 T x)) (tX (b6 T x) K)
     | _,_=>False):=h
    split at h
    ·rename_i x t h1 h2
     obtain⟨afm,afn⟩:=rn h
     obtain rfl:args= #[x]:=by rw[←Array.toArray_toList (xs:=args),h1]
     obtain rfl:argTypes= #[t]:=by rw[←Array.toArray_toList (xs:=argTypes),h2]
     obtain⟨r,u,hK,ao,hv⟩:=aiZ (P:=P) (ty:=ty) (opv_rel b7 x) afm afn
     unfold Oper.wp
     have:(execOp a.eval ⟨dst,.call ⟨.builtin .len,#[x],#[t]⟩,ty,pos,after,guard⟩).run P E.w= .ok (.value u) E.w:=by
      simp only[execOp,resolve,Sem.run_bind,Sem.run_pure,Result.andThen_ok,invoke,builtin]
      have e:Array.map a.eval #[x]= #[a.eval x]:=by simp
      rw[e,ao];rfl
     rw[this]
     exact⟨r,u,E,hK,rfl,mc.refl av,hv,rfl⟩
    ·exact h.elim
   | _=>exact h.elim
  | value f=>
   have h:mh (b6 T f) fun g caps=>p5 P g (args.toList.map (b6 T)++caps) L H K:=h
   cases hf:b6 T f with
   | fn g caps=>
    rw[hf] at h
    obtain⟨ag,eg,t,hs,py,hK⟩:=(show p5 P g (args.toList.map (b6 T)++caps) L H K from h)
    obtain⟨vs,he,tu⟩:=Qw b7 hf
    unfold Oper.wp
    rw[show execOp a.eval ⟨dst,.call ⟨.value f,args,argTypes⟩,ty,pos,after,guard⟩=(do let d ←resolve a.eval ⟨.value f,args,argTypes⟩ ty;invoke d.target d.args) from rfl]
    rw[Xy (P:=P) (ty:=ty) (w:=E.w) (c:=⟨.value f,args,argTypes⟩) rfl he py.1]
    have JL:af (V2 E) (args.toList.map (b6 T)++caps) (args.toList.map a.eval++vs):=
     af.append (P7 b7 args.toList fun x hx=>Ah (List.all_eq_true.1 ag _ (by simp;exact .inl ⟨x,by simpa using hx,rfl⟩))) tu
    refine(Qv sub av bC JL hs py).mono ?_
    rintro e w' ⟨v,E',rfl,rfl,U,hv⟩
    exact⟨t,v,E',hK,rfl,U,hv,rfl⟩
   | _=>rw[hf] at h;exact h.elim
  | _=>exact h.elim
 | _=>exact h.elim
theorem acF (w:World) (o:Obj) (c:Nat) (h:c<w.heap.size):(w.drew.alloc o).heap[c]?=w.heap[c]?:=s9 w.drew o c h
structure ou (w w':World) (o:Obj):Prop where
 os:w'.os=w.os
 tape:w'.tape=w.tape
 output:w'.output=w.output
 size:w'.heap.size=w.heap.size+1
 jw: ∀c,c<w.heap.size→w'.heap[c]?=w.heap[c]?
 new:w'.heap[w.heap.size]?=some o
theorem ou.alloc (w:World) (o:Obj):ou w (w.alloc o) o:=⟨rfl,rfl,rfl,by simp,fun c hc=>s9 w o c hc,uK w o⟩
theorem ou.acE (w:World) (o:Obj):ou w (w.drew.alloc o) o:=⟨rfl,rfl,rfl,by simp,fun c hc=>acF w o c hc,uK w.drew o⟩
theorem SimH.ext {E:Env} {H H':List Blk} (h:SimH E H) (hs: ∀(b:Nat) (blk:Blk),H[b]?=some blk→H'[b]?=some blk) (aw:H.length≤H'.length) (ax: ∀(b:Nat) (blk:Blk),H.length≤b→H'[b]?=some blk→blk.bf=0):SimH E H':=
 {h with
  heap:=fun b c hb=>by
   obtain⟨blk,ay,ty,q1,q⟩:=h.heap b c hb
   exact⟨blk,ay,ty,hs b blk q1,q⟩
  eV:=fun b blk hb=>by
   rcases Nat.lt_or_ge b H.length with aQ | f_
   ·have h1:=List.getElem?_eq_getElem aQ
    have h2:=hs b _ h1
    rw[hb] at h2
    cases h2
    exact h.eV b _ h1
   ·rw[(h.fresh b f_).2,ax b blk f_ hb]
  ha:=fun b hb=>by
   obtain⟨blk,q1,q⟩:=h.ha b hb
   exact⟨blk,hs b blk q1,q⟩
  fresh:=fun b hb=>h.fresh b (Nat.le_trans aw hb)}
theorem SimH.snoc {E:Env} {H:List Blk} (h:SimH E H) {blk:Blk} (ax:blk.bf=0):SimH E (H++[blk]):=
 h.ext (fun b x hb=>by rw[List.getElem?_append_left (List.getElem?_eq_some_iff.1 hb).1];exact hb) (by simp) (fun b x hb hx=>by
  rw[List.getElem?_append_right hb] at hx
  have:b - H.length=0:=by
   rcases Nat.eq_zero_or_pos (b - H.length) with q | q
   ·exact q
   ·rw[List.getElem?_eq_none (by simp;omega)] at hx;cases hx
  rw[this] at hx;cases hx;exact ax)
theorem SimL.cons {E:Env} {L:List (Nat×List AV)} (h:SimL E L) {t:Nat} {cells:List AV} (ag:E.mL t=none):SimL E ((t,cells)::L):=fun s c hm=>by
 have:s≠t:=fun e=>by subst e;rw[ag] at hm;cases hm
 simp only[eB,if_neg this]
 exact h s c hm
theorem V_ {E:Env} {H:List Blk} {L:List (Nat×List AV)} {w':World} {ay:Array Value} {ty:TypeId} {t:Nat} {cells:List AV} (av:SimH E H) (bC:SimL E L) (hw:ou E.w w' (.cells ay ty (0,0)))
  (a6:eB L t=some cells) (hm:E.mL t=none) (hc:af (bZ E.bL) cells ay.toList):
  ∃E',E'.w=w'∧Step E E'∧SimH E' H∧SimL E' L∧V3 E' (.fp t 0) (.pointer (some ⟨E.w.heap.size,0,none⟩))∧E'.m=E.m∧(∀s,s≠t→E'.mL s=E.mL s):=by
 let E':Env:={E with w:=w',mL:=fun s=>if s=t then some E.w.heap.size else E.mL s}
 have aS:Step E E':=
  {le:=⟨fun _ h=>h,fun _ h=>h,fun c hc=>hw.jw c (av.dP c hc),fun c hc=>hw.jw c (av.dP c (av.dA c hc)),fun _=>Nat.le_refl _,fun _ _ h _=>⟨h,rfl,rfl⟩,fun s c h=>by
    show(if s=t then _ else _)=_
    rw[if_neg (fun e=>by subst e;rw[hm] at h;cases h)];exact h⟩
   os:=hw.os,tape:=hw.tape,output:=hw.output
   size:=by show E.w.heap.size≤w'.heap.size;rw[hw.size];omega
   dF:=fun c hc _ _=>hw.jw c hc
   jq:=fun _ _ h=> .inl h
   jX:=fun c ⟨s,hs⟩=>by
    have hs:(if s=t then some E.w.heap.size else E.mL s)=some c:=hs
    split at hs
    ·cases hs;exact .inr (Nat.le_refl _)
    ·exact .inl ⟨s,hs⟩
   fG:=fun _ h=> .inl h
   fz:=fun _ h=> .inl h}
 have hml: ∀s c,E'.mL s=some c→(s=t∧c=E.w.heap.size)∨(s≠t∧E.mL s=some c):=by
  intro s c hs
  have hs:(if s=t then some E.w.heap.size else E.mL s)=some c:=hs
  split at hs
  ·rename_i e;cases hs;exact .inl ⟨e,rfl⟩
  ·rename_i e;exact .inr ⟨e,hs⟩
 have kB:=av.fq
 have kC:=av.gr
 refine⟨E',rfl,aS,?_,?_,⟨E.w.heap.size,by show(if t=t then _ else _)=_;rw[if_pos rfl],rfl⟩,rfl,fun s hs=>if_neg hs⟩
 ·exact{
   heap:=fun b c hb=>by
    obtain⟨blk,b4,jI,q1,cH,q2,q3,q4,cs,cD⟩:=av.heap b c hb
    refine⟨blk,b4,jI,q1,cH,?_,q3,q4,cs,fun i j row a ao al=> ?_⟩
    ·show w'.heap[c]?=_;rw[hw.jw c (kB c ⟨b,hb⟩)];exact q2
    ·obtain⟨u,hu,eX⟩:=cD i j row a ao al
     exact⟨u,hu,eX.le aS.le.bL⟩
   eV:=av.eV
   ha:=av.ha
   fresh:=av.fresh
   hC:=av.hC
   jt:=fun s s' c h1 h2=>by
    rcases hml s c h1 with⟨d1,aW⟩ | ⟨_,dk⟩<;>rcases hml s' c h2 with⟨d2,e2⟩ | ⟨_,gb⟩
    ·rw[d1,d2]
    ·have:=kC c ⟨s',gb⟩;omega
    ·have:=kC c ⟨s,dk⟩;omega
    ·exact av.jt s s' c dk gb
   gB:=fun b s c h1 h2=>by
    rcases hml s c h2 with⟨rfl,rfl⟩ | ⟨_,h2⟩
    ·have:=kB _ ⟨b,h1⟩;omega
    ·exact av.gB b s c h1 h2
   hF:=av.hF
   ii:=fun c hc ⟨s,hs⟩=>by
    rcases hml s c hs with⟨rfl,rfl⟩ | ⟨_,hs⟩
    ·have:=av.dP _ hc;omega
    ·exact av.ii c hc ⟨s,hs⟩
   dA:=av.dA
   ft:=fun c hc=>(av.ft c hc).same (hw.jw c (av.dP c (av.dA c hc)))
   dP:=fun c hc=>Nat.lt_of_lt_of_le (av.dP c hc) aS.size
   fq:=fun c hc=>Nat.lt_of_lt_of_le (kB c hc) aS.size
   gr:=fun c ⟨s,hs⟩=>by
    rcases hml s c hs with⟨rfl,rfl⟩ | ⟨_,hs⟩
    ·show _<w'.heap.size;rw[hw.size];omega
    ·exact Nat.lt_of_lt_of_le (kC c ⟨s,hs⟩) aS.size}
 ·intro s c hs
  rcases hml s c hs with⟨rfl,rfl⟩ | ⟨_,hs⟩
  ·exact⟨cells,ay,ty,a6,hw.new,hc.mono fun _ _ k=>k.le aS.le.bL⟩
  ·obtain⟨gL,b4,jI,q1,q2,q3⟩:=bC s c hs
   exact⟨gL,b4,jI,q1,by show w'.heap[c]?=_;rw[hw.jw c (kC c ⟨s,hs⟩)];exact q2,q3.mono fun _ _ k=>k.le aS.le.bL⟩
theorem Ae {E:Env} {H H':List Blk} {L:List (Nat×List AV)} {w':World} {ay:Array Value} {ty:TypeId} {b cap:Nat} {blk:Blk} (av:SimH E H) (bC:SimL E L) (hw:ou E.w w' (.cells ay ty (0,0)))
  (hb:H'[b]?=some blk) (ai: ∀bS,bS≠b→H'[bS]?=H[bS]?) (hlen:b<H.length→H'.length=H.length) (FK:H.length≤H'.length)
  (ky:(E.m b=none∧blk.bf=E.bf b)∨E.bf b<blk.bf) (lU:ay.size=cap*blk.sz) (fl:blk.rows.length≤cap)
  (ao:yL E blk.sz blk.rows ay):
  ∃E',E'.w=w'∧Step E E'∧SimH E' H'∧SimL E' L∧E'.bf b=blk.bf∧E'.m b=some (some E.w.heap.size)∧E'.sz b=blk.sz∧E'.cp b=cap∧(∀bS,bS≠b→E'.m bS=E.m bS)∧E'.mL=E.mL:=by
 let E':Env:={E with w:=w',m:=fun bS=>if bS=b then some (some E.w.heap.size) else E.m bS,bf:=fun bS=>if bS=b then blk.bf else E.bf bS,sz:=fun bS=>if bS=b then blk.sz else E.sz bS,cp:=fun bS=>if bS=b then cap else E.cp bS}
 have aS:Step E E':=
  {le:=⟨fun _ h=>h,fun _ h=>h,fun c hc=>hw.jw c (av.dP c hc),fun c hc=>hw.jw c (av.dP c (av.dA c hc)),fun bS=>by
     show _≤(if bS=b then _ else _)
     split
     ·rename_i e;subst e;rcases ky with⟨_,e⟩ | e<;>omega
     ·exact Nat.le_refl _,fun bS x hx ax=>by
     have q7:(if bS=b then blk.bf else E.bf bS)=E.bf bS:=ax
     have bU:bS≠b:=fun e=>by
      subst e
      rw[if_pos rfl] at q7
      rcases ky with⟨ag,_⟩ | e
      ·rw[ag] at hx;cases hx
      ·omega
     refine⟨?_,?_,?_⟩
     ·show(if bS=b then _ else _)=_;rw[if_neg bU];exact hx
     ·show(if bS=b then _ else _)=_;rw[if_neg bU]
     ·show(if bS=b then _ else _)=_;rw[if_neg bU],fun _ _ h=>h⟩
   os:=hw.os,tape:=hw.tape,output:=hw.output
   size:=by show E.w.heap.size≤w'.heap.size;rw[hw.size];omega
   dF:=fun c hc _ _=>hw.jw c hc
   jq:=fun s c hs=>by
    have hs:(if s=b then some (some E.w.heap.size) else E.m s)=some (some c):=hs
    split at hs
    ·cases hs;exact .inr (Nat.le_refl _)
    ·exact .inl hs
   jX:=fun _ h=> .inl h
   fG:=fun _ h=> .inl h
   fz:=fun _ h=> .inl h}
 have hm: ∀s c,E'.m s=some (some c)→(s=b∧c=E.w.heap.size)∨(s≠b∧E.m s=some (some c)):=by
  intro s c hs
  have hs:(if s=b then some (some E.w.heap.size) else E.m s)=some (some c):=hs
  split at hs
  ·rename_i e;cases hs;exact .inl ⟨e,rfl⟩
  ·rename_i e;exact .inr ⟨e,hs⟩
 have kB:=av.fq
 have kC:=av.gr
 have b9: ∀s,s≠b→E'.sz s=E.sz s:=fun s hs=>if_neg hs
 have r9: ∀s,s≠b→E'.cp s=E.cp s:=fun s hs=>if_neg hs
 have FV:E'.sz b=blk.sz:=if_pos rfl
 have JR:E'.cp b=cap:=if_pos rfl
 have Sl:E'.bf b=blk.bf:=if_pos rfl
 refine⟨E',rfl,aS,?_,?_,Sl,if_pos rfl,FV,JR,fun bS dL=>if_neg dL,rfl⟩
 ·exact{
   heap:=fun s c hs=>by
    rcases hm s c hs with⟨rfl,rfl⟩ | ⟨bU,hs⟩
    ·refine⟨blk,ay,ty,hb,FV,hw.new,by rw[JR,FV];exact lU,by rw[JR];exact fl,?_⟩
     rw[FV]
     exact⟨ao.1,fun i j row a h1 h2=>by obtain⟨u,hu,eX⟩:=ao.2 i j row a h1 h2;exact⟨u,hu,eX.le aS.le.bL⟩⟩
    ·obtain⟨blk',b4,jI,q1,cH,q2,q3,q4,cs,cD⟩:=av.heap s c hs
     refine⟨blk',b4,jI,by rw[ai s bU];exact q1,by rw[b9 s bU];exact cH,?_,by rw[r9 s bU,b9 s bU];exact q3,by rw[r9 s bU];exact q4,by rw[b9 s bU];exact cs,fun i j row a ao al=> ?_⟩
     ·show w'.heap[c]?=_;rw[hw.jw c (kB c ⟨s,hs⟩)];exact q2
     ·obtain⟨u,hu,eX⟩:=cD i j row a ao al
      exact⟨u,by rw[b9 s bU];exact hu,eX.le aS.le.bL⟩
   eV:=fun s x hs=>by
    by_cases e:s=b
    ·subst e;rw[hb] at hs;cases hs;exact Sl
    ·rw[ai s e] at hs
     show(if s=b then _ else _)=_
     rw[if_neg e];exact av.eV s x hs
   ha:=fun s hs=>by
    have hs:(if s=b then some (some E.w.heap.size) else E.m s)=some none:=hs
    split at hs
    ·cases hs
    ·rename_i e
     obtain⟨x,q1,q2⟩:=av.ha s hs
     exact⟨x,by rw[ai s e];exact q1,by rw[b9 s e];exact q2⟩
   fresh:=fun s hs=>by
    have aQ:b<H'.length:=(List.getElem?_eq_some_iff.1 hb).1
    have e:s≠b:=by omega
    have:=av.fresh s (by omega)
    exact⟨by show(if s=b then _ else _)=_;rw[if_neg e];exact this.1,by show(if s=b then _ else _)=_;rw[if_neg e];exact this.2⟩
   hC:=fun s s' c h1 h2=>by
    rcases hm s c h1 with⟨d1,aW⟩ | ⟨_,dk⟩<;>rcases hm s' c h2 with⟨d2,e2⟩ | ⟨_,gb⟩
    ·rw[d1,d2]
    ·have:=kB c ⟨s',gb⟩;omega
    ·have:=kB c ⟨s,dk⟩;omega
    ·exact av.hC s s' c dk gb
   jt:=av.jt
   gB:=fun s t c h1 h2=>by
    rcases hm s c h1 with⟨rfl,rfl⟩ | ⟨_,h1⟩
    ·have:=kC _ ⟨t,h2⟩;omega
    ·exact av.gB s t c h1 h2
   hF:=fun c hc ⟨s,hs⟩=>by
    rcases hm s c hs with⟨rfl,rfl⟩ | ⟨_,hs⟩
    ·have:=av.dP _ hc;omega
    ·exact av.hF c hc ⟨s,hs⟩
   ii:=av.ii
   dA:=av.dA
   ft:=fun c hc=>(av.ft c hc).same (hw.jw c (av.dP c (av.dA c hc)))
   dP:=fun c hc=>Nat.lt_of_lt_of_le (av.dP c hc) aS.size
   fq:=fun c ⟨s,hs⟩=>by
    rcases hm s c hs with⟨rfl,rfl⟩ | ⟨_,hs⟩
    ·show _<w'.heap.size;rw[hw.size];omega
    ·exact Nat.lt_of_lt_of_le (kB c ⟨s,hs⟩) aS.size
   gr:=fun c hc=>Nat.lt_of_lt_of_le (kC c hc) aS.size}
 ·intro s c hs
  obtain⟨gL,b4,jI,q1,q2,q3⟩:=bC s c hs
  exact⟨gL,b4,jI,q1,by show w'.heap[c]?=_;rw[hw.jw c (kC c ⟨s,hs⟩)];exact q2,q3.mono fun _ _ k=>k.le aS.le.bL⟩
theorem Xo {E:Env} {H:List Blk} {L:List (Nat×List AV)} {w':World} {b:Nat} {x:Option Nat} {blk blk':Blk} (av:SimH E H) (bC:SimL E L)
  (hm:E.m b=some x) (hb:H[b]?=some blk) (ax:blk'.bf=blk.bf+1) (nP:blk'.sz=blk.sz)
  (ai:w'.os=E.w.os) (afN:w'.tape=E.w.tape) (afs:w'.output=E.w.output) (b9:w'.heap.size=E.w.heap.size)
  (hw: ∀c,x≠some c→w'.heap[c]?=E.w.heap[c]?)
  (hx: ∀c,x=some c→ ∃ay ty,w'.heap[c]?=some (.cells ay ty (0,0))∧ay.size=E.cp b*E.sz b∧blk'.rows.length≤E.cp b∧yL E (E.sz b) blk'.rows ay):
  ∃E',E'.w=w'∧Step E E'∧SimH E' (H.set b blk')∧SimL E' L∧E'.bf b=blk'.bf∧E'.m=E.m∧E'.sz=E.sz∧E'.cp=E.cp∧E'.mL=E.mL:=by
 let E':Env:={E with w:=w',bf:=fun bS=>if bS=b then blk'.bf else E.bf bS}
 have ky:=av.eV b blk hb
 have bU: ∀c,E.PA c→x≠some c:=fun c hc e=>av.hF c hc ⟨b,by rw[hm,e]⟩
 have aS:Step E E':=
  {le:=⟨fun _ h=>h,fun _ h=>h,fun c hc=>hw c (bU c hc),fun c hc=>hw c (bU c (av.dA c hc)),fun bS=>by
     show _≤(if bS=b then _ else _)
     split
     ·rename_i e;subst e;omega
     ·exact Nat.le_refl _,fun bS y bi ae6=>by
     have q7:(if bS=b then blk'.bf else E.bf bS)=E.bf bS:=ae6
     have zv:bS≠b:=fun e=>by subst e;rw[if_pos rfl] at q7;omega
     exact⟨bi,rfl,rfl⟩,fun _ _ h=>h⟩
   os:=ai,tape:=afN,output:=afs
   size:=by show E.w.heap.size≤w'.heap.size;rw[b9];exact Nat.le_refl _
   dF:=fun c hc h1 _=>hw c (fun e=>h1 ⟨b,by rw[hm,e]⟩)
   jq:=fun _ _ h=> .inl h
   jX:=fun _ h=> .inl h
   fG:=fun _ h=> .inl h
   fz:=fun _ h=> .inl h}
 have r8:b<H.length:=(List.getElem?_eq_some_iff.1 hb).1
 refine⟨E',rfl,aS,?_,?_,if_pos rfl,rfl,rfl,rfl,rfl⟩
 ·exact{av with
   ft:=fun cn li=>(av.ft cn li).same (aS.le.wf cn li)
   heap:=fun s c hs=>by
    by_cases e:s=b
    ·subst e
     have SX:x=some c:=by
      have:E.m s=some (some c):=hs
      rw[hm] at this;exact Option.some.inj this
     obtain⟨BT,an5,aoq,q1,cH,q⟩:=av.heap s c (by rw[hm,SX])
     obtain rfl:blk=BT:=by rw[hb] at q1;exact Option.some.inj q1
     obtain⟨ay,ty,h1,h2,au,a8⟩:=hx c SX
     exact⟨blk',ay,ty,by rw[List.getElem?_set_self r8],cH.trans nP.symm,h1,h2,au,a8.1,fun i j row a ao al=>by
      obtain⟨u,hu,eX⟩:=a8.2 i j row a ao al;exact⟨u,hu,eX.le aS.le.bL⟩⟩
    ·obtain⟨BT,b4,jI,q1,cH,q2,q3,q4,cs,cD⟩:=av.heap s c hs
     refine⟨BT,b4,jI,by rw[List.getElem?_set_ne (fun h=>e h.symm)];exact q1,cH,?_,q3,q4,cs,fun i j row a ao al=> ?_⟩
     ·show w'.heap[c]?=_
      rw[hw c (fun h=>e (av.hC s b c hs (by rw[hm,h])))];exact q2
     ·obtain⟨u,hu,eX⟩:=cD i j row a ao al
      exact⟨u,hu,eX.le aS.le.bL⟩
   eV:=fun s y hs=>by
    by_cases e:s=b
    ·subst e;rw[List.getElem?_set_self r8] at hs;cases hs;exact if_pos rfl
    ·rw[List.getElem?_set_ne (fun h=>e h.symm)] at hs
     show(if s=b then _ else _)=_
     rw[if_neg e];exact av.eV s y hs
   ha:=fun s hs=>by
    obtain⟨y,q1,q2⟩:=av.ha s hs
    by_cases e:s=b
    ·subst e
     obtain rfl:blk=y:=by rw[hb] at q1;exact Option.some.inj q1
     exact⟨blk',by rw[List.getElem?_set_self r8],q2.trans nP.symm⟩
    ·exact⟨y,by rw[List.getElem?_set_ne (fun h=>e h.symm)];exact q1,q2⟩
   fresh:=fun s hs=>by
    rw[List.length_set] at hs
    have e:s≠b:=by omega
    have:=av.fresh s hs
    exact⟨this.1,by show(if s=b then _ else _)=_;rw[if_neg e];exact this.2⟩
   dP:=fun c hc=>Nat.lt_of_lt_of_le (av.dP c hc) aS.size
   fq:=fun c hc=>Nat.lt_of_lt_of_le (av.fq c hc) aS.size
   gr:=fun c hc=>Nat.lt_of_lt_of_le (av.gr c hc) aS.size}
 ·intro s c hs
  obtain⟨gL,b4,jI,q1,q2,q3⟩:=bC s c hs
  refine⟨gL,b4,jI,q1,?_,q3.mono fun _ _ k=>k.le aS.le.bL⟩
  show w'.heap[c]?=_
  rw[hw c (fun e=>av.gB b s c (by rw[hm,e]) hs)];exact q2
theorem GC {E:Env} {H:List Blk} {L:List (Nat×List AV)} {blk:Blk} (av:SimH E H) (bC:SimL E L) (ax:blk.bf=0) (ao:blk.rows=[]):
  ∃E',E'.w=E.w∧Step E E'∧SimH E' (H++[blk])∧SimL E' L∧E'.bf H.length=0∧E'.m H.length=some none∧(∀b,b≠H.length→E'.m b=E.m b)∧E'.mL=E.mL:=by
 have hs:=av.snoc ax
 have ag:=av.fresh H.length (Nat.le_refl _)
 let E':Env:={E with m:=fun b=>if b=H.length then some none else E.m b,sz:=fun b=>if b=H.length then blk.sz else E.sz b}
 have tx: ∀b c,E'.m b=some (some c)→E.m b=some (some c)∧b≠H.length:=by
  intro b c h
  have h:(if b=H.length then some none else E.m b)=some (some c):=h
  split at h
  ·cases h
  ·exact⟨h,by assumption⟩
 have aS:Step E E':=
  {le:=⟨fun _ h=>h,fun _ h=>h,fun _ _=>rfl,fun _ _=>rfl,fun _=>Nat.le_refl _,fun b x hx _=>by
     have bU:b≠H.length:=fun e=>by subst e;rw[ag.1] at hx;cases hx
     exact⟨by show(if b=H.length then _ else _)=_;rw[if_neg bU];exact hx,by show(if b=H.length then _ else _)=_;rw[if_neg bU],rfl⟩,fun _ _ h=>h⟩
   os:=rfl,tape:=rfl,output:=rfl,size:=Nat.le_refl _
   dF:=fun _ _ _ _=>rfl
   jq:=fun b c h=> .inl (tx b c h).1
   jX:=fun _ h=> .inl h
   fG:=fun _ h=> .inl h
   fz:=fun _ h=> .inl h}
 refine⟨E',rfl,aS,?_,fun s c hm=> ?_,ag.2,if_pos rfl,fun b hb=>if_neg hb,rfl⟩
 ·exact{hs with
   heap:=fun b c h=>by
    obtain⟨h,bU⟩:=tx b c h
    obtain⟨BT,b4,jI,q1,cH,q2,q3,q4,cs,cD⟩:=hs.heap b c h
    have b9:E'.sz b=E.sz b:=if_neg bU
    exact⟨BT,b4,jI,q1,by rw[b9];exact cH,q2,by rw[b9];exact q3,q4,by rw[b9];exact cs,fun i j row a ao al=>by
     obtain⟨u,hu,eX⟩:=cD i j row a ao al
     exact⟨u,by rw[b9];exact hu,eX.le aS.le.bL⟩⟩
   ha:=fun b h=>by
    by_cases e:b=H.length
    ·subst e
     exact⟨blk,by simp,if_pos rfl⟩
    ·have h:E.m b=some none:=by
      have h:(if b=H.length then some none else E.m b)=some none:=h
      rwa [if_neg e] at h
     obtain⟨y,q1,q2⟩:=hs.ha b h
     exact⟨y,q1,by show(if b=H.length then _ else _)=_;rw[if_neg e];exact q2⟩
   fresh:=fun b h=>by
    have:=hs.fresh b h
    have e:b≠H.length:=by simp at h;omega
    exact⟨by show(if b=H.length then _ else _)=_;rw[if_neg e];exact this.1,this.2⟩
   hC:=fun b bS c h1 h2=>hs.hC b bS c (tx b c h1).1 (tx bS c h2).1
   gB:=fun b t c h1 h2=>hs.gB b t c (tx b c h1).1 h2
   hF:=fun c hc ⟨b,h⟩=>hs.hF c hc ⟨b,(tx b c h).1⟩
   fq:=fun c ⟨b,h⟩=>hs.fq c ⟨b,(tx b c h).1⟩}
 ·obtain⟨gL,b4,jI,q1,q2,q3⟩:=bC s c hm
  exact⟨gL,b4,jI,q1,q2,q3.mono fun _ _ k=>k.le aS.le.bL⟩
def Dw (fr:Bool) (row:List AV):List AV:=match fr with
 | true=>row.map qo
 | false=>row
def l2 (fr:Bool) (rows:List (List AV)):List (List AV):=match fr with
 | true=>rows.map fun row=>row.map qo
 | false=>rows
theorem akr (fr:Bool) (rows:List (List AV)):l2 fr rows=rows.map (Dw fr):=by
 cases fr
 ·show rows=rows.map fun row=>row
  simp
 ·rfl
theorem akq (fr:Bool) (row:List AV):(Dw fr row).length=row.length:=by
 cases fr<;>simp[Dw]
def rowsOf (H:List Blk) (x:AV):Option (List (List AV)):=match x with
 | .aX rows _ fr=>some (l2 fr rows)
 | .ref b g off n _=>(H[b]?).bind fun blk=>if blk.bf=g∧off+n≤blk.rows.length then some ((blk.rows.drop off).take n) else none
 | .str s=>some (s.data.toList.map fun c=>[.int .u8 c.toNat])
 | _=>none
def Xu (H:List Blk) (x:AV) (K:List (List AV)→Prop):Prop:=match x with
 | .aX rows _ fr=>K (l2 fr rows)
 | .ref b g off n _=>cC H[b]? fun blk=>blk.bf=g∧off+n≤blk.rows.length∧K ((blk.rows.drop off).take n)
 | .str s=>K (s.data.toList.map fun c=>[.int .u8 c.toNat])
 | _=>False
theorem akx {H:List Blk} {x:AV} {K:List (List AV)→Prop} (h:Xu H x K): ∃bR,rowsOf H x=some bR∧K bR:=by
 cases x with
 | aX rows full fr=>exact⟨_,rfl,h⟩
 | ref b g off n full=>
  obtain⟨blk,hb,h1,h2,au⟩:=fs (show cC H[b]? fun blk=>blk.bf=g∧off+n≤blk.rows.length∧K ((blk.rows.drop off).take n) from h)
  exact⟨_,by show(H[b]?).bind _=_;rw[hb];show(if blk.bf=g∧off+n≤blk.rows.length then _ else _)=_;rw[if_pos ⟨h1,h2⟩],au⟩
 | str s=>exact⟨_,rfl,h⟩
 | _=>exact h.elim
def wG (P:Program) (e t2:TypeId) (x:AV):Bool:=match x with
 | .str _=>(match P.underlying t2 with
  | some .string=>(match P.underlying e with
   | some (.int .u8)=>P.cellsOf e==1
   | _=>false)
  | _=>false)
 | _=>(match P.underlying t2 with
  | some (.slice e2)=>e2==e
  | _=>false)
def sK (n:Nat) (bR:List (List AV)):Prop:= ∀row∈bR,row.length=n∧ ∀a∈row,jo a=true
abbrev pU (r:Type):Type:=AV→List (Nat×List AV)→List Blk→r
def wF (P:Program) (t t2:TypeId) (s x:AV) (L:List (Nat×List AV)) (H:List Blk) (K:pU Prop):Prop:=
 cC (jp P t) fun e=>cC (oo P e) fun z=>if z.length=P.cellsOf e∧0<z.length∧wG P e t2 x=true then Xu H x fun bR=>
  sK z.length bR∧(match s with
  | .aX rows full fr=>full=true∧(∀row∈rows,row.length=z.length)∧(rows.length+bR.length)*P.bytesOf e≤140737488355328∧rows.length+bR.length≤4611686018427387904∧(rows≠[]→bR≠[])∧
    K (.ref H.length 0 0 (rows.length+bR.length) false) L (H++[⟨0,z.length,rows++bR⟩])
  | .ref b g off n full=>off=0∧cC H[b]? fun blk=>blk.bf=g∧blk.sz=z.length∧blk.rows.length=n∧(n+bR.length)*P.bytesOf e≤140737488355328∧n+bR.length≤4611686018427387904∧
    K (.ref b (g+1) 0 (n+bR.length) false) L (H.set b ⟨g+1,z.length,blk.rows++bR⟩)
  | _=>False)
 else False
structure Eu (P:Program) (E:Env) (t2:TypeId) (size:Nat) (bR:List (List AV)) (ja:Value) (news:List Value):Prop where
 len:news.length=bR.length*size
 rel: ∀(i j:Nat) (row:List AV) (a:AV),bR[i]?=some row→row[j]?=some a→ ∃u,news[i*size+j]?=some u∧bZ E.bL a u∧u.oneCell'=true
 one: ∀u∈news,u.oneCell'=true
 num:(∃e2,P.underlying t2=some (.slice e2))∨P.underlying t2=some .string
 lenOf: ∀w,(Builtin.lenOf ja).run P w= .ok bR.length w
 cells: ∀w,(w=E.w∨w=E.w.drew)→(Builtin.firstCells size bR.length ja).run P w= .ok news.toArray w
theorem Wm {size:Nat} {bR:List (List AV)} {news:List Value} {R:AV→Value→Prop} (fD: ∀row∈bR,row.length=size) (len:news.length=bR.length*size)
  (rel: ∀(i j:Nat) (row:List AV) (a:AV),bR[i]?=some row→row[j]?=some a→ ∃u,news[i*size+j]?=some u∧R a u∧u.oneCell'=true): ∀u∈news,u.oneCell'=true:=by
 intro u hu
 obtain⟨k,hk⟩:=List.mem_iff_getElem?.1 hu
 have mo:k<bR.length*size:=by rw[←len];exact(List.getElem?_eq_some_iff.1 hk).1
 have lW:0<size:=by
  rcases Nat.eq_zero_or_pos size with q | q
  ·rw[q,Nat.mul_zero] at mo;omega
  ·exact q
 have hi:k / size<bR.length:=(Nat.div_lt_iff_lt_mul lW).2 mo
 have eH:=List.getElem?_eq_getElem hi
 have hlen:(bR[k / size]).length=size:=fD _ (List.getElem_mem hi)
 have al:k%size<(bR[k / size]).length:=by rw[hlen];exact Nat.mod_lt _ lW
 obtain⟨v,h1,h2,au⟩:=rel (k / size) (k%size) _ _ eH (List.getElem?_eq_getElem al)
 rw[Nat.div_add_mod' k size,hk] at h1
 cases h1;exact au
theorem anL {P:Program} {e t2:TypeId} {x:AV} {bR:List (List AV)} {E:Env} {H:List Blk} {ja:Value} {size:Nat} (av:SimH E H) (hx:V2 E x ja) (b9:size=P.cellsOf e) (a6:wG P e t2 x=true)
  (ao:rowsOf H x=some bR) (fD:sK size bR): ∃news,Eu P E t2 size bR ja news:=by
 have FL: ∀row∈bR,row.length=size:=fun row h=>(fD row h).1
 cases x with
 | aX rows full fr=>
  have iQ:l2 fr rows=bR:=Option.some.inj ao
  have aW:bR=rows.map (Dw fr):=by rw[←iQ];exact akr fr rows
  have FP:bR.length=rows.length:=by rw[aW,List.length_map]
  have lm: ∀row∈rows,row.length=size:=fun row h=>by
   rw[←akq fr row];exact FL _ (by rw[aW];exact List.mem_map_of_mem h)
  have hu: ∃e2,P.underlying t2=some (.slice e2):=by
   unfold wG at a6
   simp only at a6
   split at a6
   ·exact⟨_,by assumption⟩
   ·cases a6
  obtain⟨e2,hu⟩:=hu
  have iR:aY E.w E.PA E.PF (.aX rows full fr) ja:=hx
  cases iR with
  | @aX _ _ PB _ _ _ A cap sz vs eW fl fK CD dt hrel=>
   let news:List Value:=(List.range (rows.length*size)).map fun k=>vs (k / size) (k%size)
   have mr:news.length=rows.length*size:=by simp[news]
   have gY: ∀i j,i<rows.length→j<size→news[i*size+j]?=some (vs i j):=by
    intro i j hi al
    have hk:i*size+j<rows.length*size:=by
     calc i*size+j<i*size+size:=by omega
      _=(i+1)*size:=by rw[Nat.add_mul,Nat.one_mul]
      _≤rows.length*size:=Nat.mul_le_mul_right _ (by omega)
    show((List.range (rows.length*size)).map _)[i*size+j]?=_
    rw[List.getElem?_map,List.getElem?_range hk]
    have h1:(i*size+j) / size=i:=by
     rw[Nat.add_comm,Nat.add_mul_div_right _ _ (by omega),Nat.div_eq_of_lt al];omega
    have h2:(i*size+j)%size=j:=by
     rw[Nat.add_comm,Nat.add_mul_mod_self_right,Nat.mod_eq_of_lt al]
    simp[h1,h2]
   have rel: ∀(i j:Nat) (row:List AV) (a:AV),bR[i]?=some row→row[j]?=some a→ ∃u,news[i*size+j]?=some u∧bZ E.bL a u∧u.oneCell'=true:=by
    intro i j row a h1 h2
    have CA:=fD row (List.mem_of_getElem? h1)
    have al:j<size:=by rw[←CA.1];exact(List.getElem?_eq_some_iff.1 h2).1
    have hs:=CA.2 a (List.mem_of_getElem? h2)
    rw[aW,List.getElem?_map] at h1
    cases U:rows[i]? with
    | none=>rw[U] at h1;cases h1
    | some AF=>
     rw[U] at h1
     have h1:Dw fr AF=row:=Option.some.inj h1
     have kb:bZ E.bL a (vs i j):=by
      cases fr with
      | false=>
       have h1:AF=row:=h1
       subst h1
       exact aY.v1 (E:=E.bL) ((hrel i j AF a U h2).mono (fun _ _=>rfl) (fun _ h=>h.elim) (fun c hc=>show E.PA c by have:=eW c hc;simpa using this) (fun _ h=>h.elim))
      | true=>
       have h1:AF.map qo=row:=h1
       subst h1
       rw[List.getElem?_map] at h2
       cases ll:AF[j]? with
       | none=>rw[ll] at h2;cases h2
       | some a0=>
        rw[ll] at h2
        have h2:qo a0=a:=Option.some.inj h2
        subst h2
        exact aY.v1 (E:=E.bL) (akp (hrel i j AF a0 U ll) (fun c hc=>show E.PF c by have:=eW c hc;simpa using this) av.dA)
     exact⟨_,gY i j (List.getElem?_eq_some_iff.1 U).1 al,kb,kb.GO hs⟩
   refine⟨news,by rw[FP];exact mr,rel,Wm FL (by rw[FP];exact mr) rel,.inl ⟨_,hu⟩,fun w=>by rw[FP];rfl,fun w hw=> ?_⟩
   rw[FP]
   have JS: ∀a,w.cell? a=E.w.cell? a:=by rcases hw with rfl | rfl<;>intro a<;>rfl
   by_cases aB:rows.length=0
   ·have ag:news=[]:=List.eq_nil_of_length_eq_zero (by rw[mr,aB,Nat.zero_mul])
    rw[ag,aB]
    cases A with
    | none=>exact run_firstCells_none w size 0 _ _
    | some mf=>
     have:=run_firstCells_some (P:=P) w size 0 mf 0 cap [] (by simp) (fun j v h=>by simp at h)
     exact this
   ·obtain⟨c,o,rfl,hc,dS⟩:=dt (by omega)
    refine run_firstCells_some (P:=P) w size rows.length ⟨c,o,none⟩ rows.length cap news mr (fun k v hk=> ?_)
    have mo:k<rows.length*size:=by rw[←mr];exact(List.getElem?_eq_some_iff.1 hk).1
    have lW:0<size:=by
     rcases Nat.eq_zero_or_pos size with q | q
     ·rw[q,Nat.mul_zero] at mo;omega
     ·exact q
    have hi:k / size<rows.length:=(Nat.div_lt_iff_lt_mul lW).2 mo
    have al:k%size<size:=Nat.mod_lt _ lW
    have SR:sz=size:=by
     have:=CD _ _ (List.getElem?_eq_getElem hi)
     rw[←this];exact lm _ (List.getElem_mem hi)
    have h1:=dS (k / size) (k%size) hi (by rw[SR];exact al)
    have h2:=gY (k / size) (k%size) hi al
    rw[Nat.div_add_mod' k size] at h2
    rw[hk] at h2
    cases h2
    rw[ph,JS]
    rw[SR,Nat.div_add_mod' k size] at h1
    exact h1
 | ref b g off n full=>
  have hu: ∃e2,P.underlying t2=some (.slice e2):=by
   unfold wG at a6
   simp only at a6
   split at a6
   ·exact⟨_,by assumption⟩
   ·cases a6
  obtain⟨e2,hu⟩:=hu
  have ao:((H[b]?).bind fun blk=>if blk.bf=g∧off+n≤blk.rows.length then some ((blk.rows.drop off).take n) else none)=some bR:=ao
  cases hb:H[b]? with
  | none=>simp[hb] at ao
  | some blk=>
   simp only[hb,Option.bind_some] at ao
   split at ao
   case isFalse=>cases ao
   case isTrue hc=>
   obtain⟨ax,u9⟩:=hc
   cases ao
   have ky:=av.eV b blk hb
   have rc:((blk.rows.drop off).take n).length=n:=by simp;omega
   have afU: ∀i row,((blk.rows.drop off).take n)[i]?=some row→blk.rows[off+i]?=some row:=by
    intro i row h
    rw[List.getElem?_take] at h
    split at h
    ·rw[List.getElem?_drop] at h;exact h
    ·cases h
   rcases(show e6 E (.ref b g off n full) ja from hx) with⟨bz,_⟩ | ⟨f_,bz⟩
   ·omega
   ·rcases bz with⟨_,_,mq,A,rfl⟩ | ⟨c,cap,hm,rfl,p_,q6,r9⟩
    ·subst mq
     refine⟨[],by simp,fun i j row a h=>by simp at h,(fun u hu=>by cases hu),.inl ⟨_,hu⟩,fun w=>by simp;rfl,fun w hw=> ?_⟩
     rw[rc]
     cases A with
     | none=>exact run_firstCells_none w size 0 _ _
     | some mf=>exact run_firstCells_some (P:=P) w size 0 mf 0 0 [] (by simp) (fun j v h=>by simp at h)
    ·obtain⟨blk',ay,ty,q1,cH,hw,lU,pw,gn⟩:=av.heap b c hm
     obtain rfl:blk=blk':=by rw[hb] at q1;exact Option.some.inj q1
     by_cases mq:n=0
     ·subst mq
      refine⟨[],by simp,fun i j row a h=>by simp at h,(fun u hu=>by cases hu),.inl ⟨_,hu⟩,fun w=>by simp;rfl,fun w hw=> ?_⟩
      rw[rc]
      exact run_firstCells_some (P:=P) w size 0 _ 0 cap [] (by simp) (fun j v h=>by simp at h)
     ·have Kk:E.sz b=size:=by
       have aQ:off<blk.rows.length:=by omega
       have az:((blk.rows.drop off).take n)[0]?=some blk.rows[off]:=by
        rw[List.getElem?_take,if_pos (by omega),List.getElem?_drop,Nat.add_zero,List.getElem?_eq_getElem aQ]
       rw[←gn.1 off _ (List.getElem?_eq_getElem aQ)]
       exact FL _ (List.mem_of_getElem? az)
      let news:List Value:=(ay.toList.drop (off*size)).take (n*size)
      have aeM:off*size+n*size≤ay.size:=by
       rw[lU,Kk,←Nat.add_mul];exact Nat.mul_le_mul_right _ (by omega)
      have mr:news.length=n*size:=by simp[news];omega
      have SF: ∀k,k<n*size→news[k]?=ay[off*size+k]?:=by
       intro k hk
       show((ay.toList.drop (off*size)).take (n*size))[k]?=_
       rw[List.getElem?_take,if_pos hk,List.getElem?_drop,Array.getElem?_toList]
      have rel: ∀(i j:Nat) (row:List AV) (a:AV),((blk.rows.drop off).take n)[i]?=some row→row[j]?=some a→ ∃u,news[i*size+j]?=some u∧bZ E.bL a u∧u.oneCell'=true:=by
       intro i j row a h1 h2
       have CA:=fD row (List.mem_of_getElem? h1)
       have al:j<size:=by rw[←CA.1];exact(List.getElem?_eq_some_iff.1 h2).1
       have hi:i<n:=by have:=(List.getElem?_eq_some_iff.1 h1).1;rw[rc] at this;exact this
       obtain⟨u,vb,zC⟩:=gn.2 (off+i) j row a (afU i row h1) h2
       have hk:i*size+j<n*size:=by
        calc i*size+j<i*size+size:=by omega
         _=(i+1)*size:=by rw[Nat.add_mul,Nat.one_mul]
         _≤n*size:=Nat.mul_le_mul_right _ (by omega)
       refine⟨u,?_,zC,zC.GO (CA.2 a (List.mem_of_getElem? h2))⟩
       rw[SF _ hk,←vb,Kk]
       congr 1
       rw[Nat.add_mul];omega
      refine⟨news,by rw[rc];exact mr,rel,Wm FL (by rw[rc];exact mr) rel,.inl ⟨_,hu⟩,fun w=>by rw[rc];rfl,fun w eI=> ?_⟩
      have JS: ∀a,w.cell? a=E.w.cell? a:=by rcases eI with rfl | rfl<;>intro a<;>rfl
      rw[rc]
      refine run_firstCells_some (P:=P) w size n _ n cap news mr (fun k v hk=> ?_)
      have mo:k<n*size:=by rw[←mr];exact(List.getElem?_eq_some_iff.1 hk).1
      rw[SF k mo] at hk
      rw[ph,JS,Kk]
      exact cell_of hw hk
 | str s=>
  obtain rfl:=V3.Bc (me hx)
  cases ao
  unfold wG at a6
  simp only at a6
  split at a6
  case h_2=>cases a6
  case h_1 hu=>
  split at a6
  case h_2=>cases a6
  case h_1 he=>
  have eP:size=1:=by rw[b9];simpa using a6
  subst eP
  have CE:s.data.toList.length=s.size:=by simp
  refine⟨s.data.toList.map fun c=> .int .u8 c.toNat,by simp,fun i j row a h1 h2=> ?_,fun u hu=> ?_,.inr hu,fun w=> ?_,fun w hw=> ?_⟩
  ·rw[List.getElem?_map] at h1
   cases hc:s.data.toList[i]? with
   | none=>rw[hc] at h1;cases h1
   | some c=>
    rw[hc] at h1
    cases h1
    have zr:j=0:=by have:=(List.getElem?_eq_some_iff.1 h2).1;simp at this;omega
    subst zr
    cases h2
    exact⟨.int .u8 c.toNat,by rw[List.getElem?_map,Nat.mul_one,Nat.add_zero,hc];rfl,aY.int _ _,rfl⟩
  ·obtain⟨c,_,rfl⟩:=List.mem_map.1 hu;rfl
  ·show Result.ok s.size w=_
   rw[List.length_map,CE]
  ·rw[List.length_map,CE]
   show Result.ok ((s.extract 0 s.size).data.map fun b=>Value.int .u8 b.toNat) w=_
   congr 1
   apply Array.ext'
   simp
 | _=>cases ao
section
variable {P:Program} {E:Env} {t t2 ty e:TypeId} {size:Nat} {bR:List (List AV)} {ja:Value} {news:List Value}
theorem Xx (X:Eu P E t2 size bR ja news) (a6:P.underlying t=some (.slice e)) (hi:(P.info? e).isSome=true) (b9:P.cellsOf e=size) {base:Option Addr} {sLen sCap:Nat} (ag:bR.length=0) (hc:sLen≤sCap):
  (Builtin.append_ #[t,t2] ty #[.slice base sLen sCap,ja]).run P E.w= .ok (.slice base sLen sCap) E.w:=by
 have aw:=X.lenOf E.w
 have hf:=X.cells E.w (.inl rfl)
 have aff:news=[]:=List.eq_nil_of_length_eq_zero (by rw[X.len,ag,Nat.zero_mul])
 subst aff
 rw[ag] at aw hf
 rcases X.num with⟨e2,hu⟩ | hu<;>
  (simp[Builtin.append_,run_underlying a6,run_underlying hu,run_sizeOf hi,b9,aw,hc,hf]
   cases base<;>simp[storeCells])
theorem akB (X:Eu P E t2 size bR ja news) (a6:P.underlying t=some (.slice e)) (hi:(P.info? e).isSome=true) (b9:P.cellsOf e=size) {g o sLen sCap:Nat} {fx:Array Value} {ce:TypeId}
  (ax:E.w.heap[g]?=some (.cells fx ce (0,0))) (zA:sLen+bR.length≤sCap) (px:o+sLen*size+news.length≤fx.size):
  (Builtin.append_ #[t,t2] ty #[.slice (some ⟨g,o,none⟩) sLen sCap,ja]).run P E.w= .ok (.slice (some ⟨g,o,none⟩) (sLen+bR.length) sCap) (E.w.setRow g (fx.toList.take (o+sLen*size)++news++fx.toList.drop (o+sLen*size+news.length)).toArray):=by
 have aw:=X.lenOf E.w
 have hf:=X.cells E.w (.inl rfl)
 have aS:=run_storeCells_at (P:=P) g (o+sLen*size) ce news 0 fx E.w ax (by simpa using px) X.one
 simp only[Nat.add_zero] at aS
 rcases X.num with⟨e2,hu⟩ | hu<;>
  simp[Builtin.append_,run_underlying a6,run_underlying hu,run_sizeOf hi,b9,aw,zA,hf,ph,aS]
theorem akC (X:Eu P E t2 size bR ja news) (a6:P.underlying t=some (.slice e)) {i:TypeInfo} (hi:P.info? e=some i) (b9:i.size=size) {z:Value} (aB:i.zero=some z) {base:Option Addr} {sLen sCap:Nat} {kJ:Array Value}
  (holds:(Builtin.firstCells size sLen (.slice base sLen sCap)).run P E.w.drew= .ok kJ E.w.drew) (ax:sCap<sLen+bR.length) (Fq:((sLen+bR.length:Nat):Int)≤9223372036854775807)
  (px:Builtin.nextslicecap (sLen+bR.length) sCap*i.bytes≤281474976710656):
  (Builtin.append_ #[t,t2] ty #[.slice base sLen sCap,ja]).run P E.w= .ok (.slice (some ⟨E.w.heap.size,0,none⟩) (sLen+bR.length) (grownCap E.w (sLen+bR.length) sCap e))
   (E.w.drew.alloc (.cells (kJ++news.toArray++Builtin.zeroCells z.cells (grownCap E.w (sLen+bR.length) sCap e - (sLen+bR.length))) e)):=by
 have aw:=X.lenOf E.w
 have hf:=X.cells E.w.drew (.inr rfl)
 subst b9
 have ag: ¬(sLen+bR.length≤sCap):=by omega
 have aeu: ¬(9223372036854775807<((sLen:Int)+(bR.length:Int))):=by omega
 have aet: ¬(281474976710656<Builtin.nextslicecap (sLen+bR.length) sCap*i.bytes):=by omega
 rcases X.num with⟨e2,hu⟩ | hu<;>
  simp[Builtin.append_,run_underlying a6,run_underlying hu,sizeOf,typeInfo,zeroValue,hi,aB,aw,ag,aeu,aet,Question.forced,hf,holds,newRow,grownCap]
end
theorem aa8 {P:Program} {t t2 ty:TypeId} {s x:AV} {L:List (Nat×List AV)} {H:List Blk} {K:AV→List (Nat×List AV)→List Blk→Prop} {E:Env} {Be ja:Value}
  (av:SimH E H) (bC:SimL E L) (hs:V2 E s Be) (hx:V2 E x ja) (h:wF P t t2 s x L H K):
  ∃r u H' E',K r L H'∧(Builtin.append_ #[t,t2] ty #[Be,ja]).run P E.w= .ok u E'.w∧Step E E'∧SimH E' H'∧SimL E' L∧V3 E' r u∧E'.mL=E.mL:=by
 obtain⟨e,he,h⟩:=fs h
 obtain⟨z,aB,h⟩:=fs h
 have a6:=uT he
 split at h
 case isFalse=>exact h.elim
 case isTrue hc=>
 obtain⟨pA,lW,q5⟩:=hc
 obtain⟨bR,F0,fD,h⟩:=akx h
 obtain⟨i,yz,hi,xf,nb,nc⟩:=yy (E:=E.bL) aB
 obtain⟨news,X⟩:=anL av hx pA q5 F0 fD
 have Cn:(P.info? e).isSome=true:=by rw[hi];rfl
 have zq:i.size=z.length:=by rw[pA];simp[Program.cellsOf,hi]
 have zp:i.bytes=P.bytesOf e:=by simp[Program.bytesOf,hi]
 have af0:yz.cells.size=z.length:=by rw[nb];simp

 have out: ∀(base:Option Addr) (rows:List (List AV)) (sCap:Nat) (kJ:Array Value) (b g:Nat) (H':List Blk),Be= .slice base rows.length sCap→
   (Builtin.firstCells z.length rows.length (.slice base rows.length sCap)).run P E.w.drew= .ok kJ E.w.drew→kJ.size=rows.length*z.length→
   (∀row∈rows,row.length=z.length)→(∀(i j:Nat) (row:List AV) (a:AV),rows[i]?=some row→row[j]?=some a→ ∃u,kJ[i*z.length+j]?=some u∧bZ E.bL a u)→
   sCap<rows.length+bR.length→(rows.length+bR.length)*P.bytesOf e≤140737488355328→rows.length+bR.length≤4611686018427387904→
   H'[b]?=some ⟨g,z.length,rows++bR⟩→(∀bS,bS≠b→H'[bS]?=H[bS]?)→(b<H.length→H'.length=H.length)→H.length≤H'.length→((E.m b=none∧g=E.bf b)∨E.bf b<g)→
   K (.ref b g 0 (rows.length+bR.length) false) L H'→ ∃r u H' E',K r L H'∧(Builtin.append_ #[t,t2] ty #[Be,ja]).run P E.w= .ok u E'.w∧Step E E'∧SimH E' H'∧SimL E' L∧V3 E' r u∧E'.mL=E.mL:=by
  intro base rows sCap kJ b g H' afJ holds SK lm afr zA hby gN dL ai hlen FK ky hK
  subst afJ
  have fa:=akC (ty:=ty) X a6 hi zq xf holds zA (by omega) (growslice_fits (by omega) (by rw[zp];exact hby))
  have JP:=grownCap_ge E.w (rows.length+bR.length) sCap e
  let cap:=grownCap E.w (rows.length+bR.length) sCap e
  let ay:Array Value:=kJ++news.toArray++Builtin.zeroCells yz.cells (cap - (rows.length+bR.length))
  have lU:ay.size=cap*z.length:=by
   show(kJ++news.toArray++Builtin.zeroCells yz.cells (cap - (rows.length+bR.length))).size=_
   have aW:(kJ++news.toArray++Builtin.zeroCells yz.cells (cap - (rows.length+bR.length))).size=kJ.size+news.length+(Builtin.zeroCells yz.cells (cap - (rows.length+bR.length))).size:=by simp;omega
   rw[aW,size_zeroCells,af0,SK,X.len,←Nat.add_mul,←Nat.add_mul]
   congr 1
   have:rows.length+bR.length≤cap:=JP
   omega
  have gn:yL E z.length (rows++bR) ay:=by
   refine⟨fun k row ao=> ?_,fun k j row a ao al=> ?_⟩
   ·rcases Nat.lt_or_ge k rows.length with aQ | f_
    ·rw[List.getElem?_append_left aQ] at ao;exact lm row (List.mem_of_getElem? ao)
    ·rw[List.getElem?_append_right f_] at ao;exact(fD row (List.mem_of_getElem? ao)).1
   ·rcases Nat.lt_or_ge k rows.length with aQ | f_
    ·rw[List.getElem?_append_left aQ] at ao
     obtain⟨u,hu,hv⟩:=afr k j row a ao al
     refine⟨u,?_,hv⟩
     have mo:=(Array.getElem?_eq_some_iff.1 hu).1
     show(kJ++news.toArray++_)[k*z.length+j]?=_
     rw[Array.getElem?_append_left (by rw[Array.size_append];omega),Array.getElem?_append_left mo];exact hu
    ·rw[List.getElem?_append_right f_] at ao
     obtain⟨u,hu,hv,_⟩:=X.rel _ j row a ao al
     refine⟨u,?_,hv⟩
     have mo:=(List.getElem?_eq_some_iff.1 hu).1
     have nQ:k*z.length+j=kJ.size+((k - rows.length)*z.length+j):=by
      rw[SK,←Nat.add_assoc,←Nat.add_mul];congr 2;omega
     show(kJ++news.toArray++_)[k*z.length+j]?=_
     rw[nQ,Array.getElem?_append_left (by simp;omega),Array.getElem?_append_right (by omega),Nat.add_sub_cancel_left]
     simpa using hu
  obtain⟨E',hw,aS,tB,tC,q7,oD,mu,Fy,_,hml⟩:=Ae (cap:=cap) (blk:=⟨g,z.length,rows++bR⟩) av bC (ou.acE E.w (.cells ay e (0,0))) dL ai hlen FK ky lU (by
   show(rows++bR).length≤cap
   rw[List.length_append];exact JP) gn
  refine⟨_,_,_,E',hK,by rw[hw];exact fa,aS,tB,tC,.inr ⟨q7.symm,.inr ⟨_,_,oD,?_,JP,(fun h=>by cases h),?_⟩⟩,hml⟩
  ·rw[Nat.zero_mul]
  ·rw[Fy,Nat.zero_add];exact Nat.le_refl _
 cases s with
 | aX rows full fr=>
  obtain⟨fK,lm,hby,gN,bU,hK⟩:=h
  subst fK
  have mu:aY E.w E.PA E.PF (.aX rows true fr) Be:=hs
  cases mu with
  | @aX _ _ PB _ _ _ A cap sz vs eW fl fK b9 dt hrel=>
   have aeP:=fK rfl
   subst aeP
   by_cases hS:bR.length=0
   ·have F1:bR=[]:=List.eq_nil_of_length_eq_zero hS
    have sg:rows=[]:=Classical.byContradiction fun bz=>bU bz F1
    subst sg;subst F1
    obtain⟨E',hw,aS,tB,tC,q7,oD,_,hml⟩:=GC (blk:=⟨0,z.length,[]++[]⟩) av bC rfl rfl
    have fa:=Xx (ty:=ty) X a6 Cn pA.symm (base:=A) (sLen:=0) (sCap:=0) rfl (Nat.le_refl _)
    exact⟨_,_,_,E',hK,by rw[hw];exact fa,aS,tB,tC,.inr ⟨q7.symm,.inl ⟨oD,rfl,rfl,A,rfl⟩⟩,hml⟩
   ·have afL:0<rows.length→sz=z.length:=fun ae=>by
     rw[←b9 0 _ (List.getElem?_eq_getElem ae)];exact lm _ (List.getElem_mem ae)
    let kJ:List Value:=(List.range (rows.length*z.length)).map fun k=>vs (k / z.length) (k%z.length)
    have zx:kJ.length=rows.length*z.length:=by simp[kJ]
    have gY: ∀i j,i<rows.length→j<z.length→kJ[i*z.length+j]?=some (vs i j):=by
     intro i j hi al
     have hk:i*z.length+j<rows.length*z.length:=by
      calc i*z.length+j<i*z.length+z.length:=by omega
       _=(i+1)*z.length:=by rw[Nat.add_mul,Nat.one_mul]
       _≤rows.length*z.length:=Nat.mul_le_mul_right _ (by omega)
     show((List.range (rows.length*z.length)).map _)[i*z.length+j]?=_
     rw[List.getElem?_map,List.getElem?_range hk]
     have h1:(i*z.length+j) / z.length=i:=by
      rw[Nat.add_comm,Nat.add_mul_div_right _ _ (by omega),Nat.div_eq_of_lt al];omega
     have h2:(i*z.length+j)%z.length=j:=by
      rw[Nat.add_comm,Nat.add_mul_mod_self_right,Nat.mod_eq_of_lt al]
     simp[h1,h2]
    refine out A rows rows.length kJ.toArray H.length 0 _ rfl ?_ (by simp[zx]) lm (fun i j row a h1 h2=> ?_) (by omega) hby gN (by simp) (fun bS dL=> ?_) (fun bz=>by omega) (by simp) (.inl ⟨(av.fresh _ (Nat.le_refl _)).1,(av.fresh _ (Nat.le_refl _)).2.symm⟩) hK
    ·by_cases sg:rows.length=0
     ·have az:kJ=[]:=List.eq_nil_of_length_eq_zero (by rw[zx,sg,Nat.zero_mul])
      rw[az,sg]
      cases A with
      | none=>exact run_firstCells_none _ _ _ _ _
      | some mf=>exact run_firstCells_some (P:=P) _ z.length 0 mf 0 0 [] (by simp) (fun j v h=>by simp at h)
     ·obtain⟨c,o,rfl,hc,dS⟩:=dt (by omega)
      refine run_firstCells_some (P:=P) E.w.drew z.length rows.length ⟨c,o,none⟩ rows.length rows.length kJ zx (fun k v hk=> ?_)
      have mo:k<rows.length*z.length:=by rw[←zx];exact(List.getElem?_eq_some_iff.1 hk).1
      have hi:k / z.length<rows.length:=(Nat.div_lt_iff_lt_mul lW).2 mo
      have al:k%z.length<z.length:=Nat.mod_lt _ lW
      have tH:=afL (by omega)
      have h1:=dS (k / z.length) (k%z.length) hi (by rw[tH];exact al)
      have h2:=gY (k / z.length) (k%z.length) hi al
      rw[Nat.div_add_mod' k z.length] at h2
      rw[hk] at h2
      cases h2
      rw[tH,Nat.div_add_mod' k z.length] at h1
      rw[ph]
      exact h1
    ·have hi:=(List.getElem?_eq_some_iff.1 h1).1
     have al:j<z.length:=by rw[←lm row (List.mem_of_getElem? h1)];exact(List.getElem?_eq_some_iff.1 h2).1
     refine⟨vs i j,by simpa using gY i j hi al,aY.v1 (E:=E.bL) ((hrel i j row a h1 h2).mono (fun _ _=>rfl) (fun _ h=>h.elim) (fun c hc=>by have:=eW c hc;split at this;exact av.dA c this;exact this) (fun _ h=>h.elim))⟩
    ·rcases Nat.lt_or_ge bS H.length with aQ | f_
     ·rw[List.getElem?_append_left aQ]
     ·rw[List.getElem?_eq_none f_,List.getElem?_eq_none (by simp;omega)]
 | ref b g off n full=>
  replace h:off=0∧cC H[b]? fun blk=>blk.bf=g∧blk.sz=z.length∧blk.rows.length=n∧(n+bR.length)*P.bytesOf e≤140737488355328∧n+bR.length≤4611686018427387904∧
    K (.ref b (g+1) 0 (n+bR.length) false) L (H.set b ⟨g+1,z.length,blk.rows++bR⟩):=h
  obtain⟨afj,U⟩:=h
  obtain⟨blk,hb,ax,nP,hQ,hby,gN,hK⟩:=fs U
  clear U
  subst afj
  have ky:=av.eV b blk hb
  have r8:b<H.length:=(List.getElem?_eq_some_iff.1 hb).1
  subst hQ
  rcases(show e6 E (.ref b g 0 blk.rows.length full) Be from hs) with⟨bz,_⟩ | ⟨f_,bz⟩
  ·omega
  ·rcases bz with⟨hm,_,mq,A,rfl⟩ | ⟨c,cap,hm,rfl,p_,q6,r9⟩
   ·
    by_cases hS:bR.length=0
    ·have F1:bR=[]:=List.eq_nil_of_length_eq_zero hS
     subst F1
     obtain⟨E',hw,aS,tB,tC,q7,oD,CD,Fy,hml⟩:=Xo (w':=E.w) (x:=none) (blk':=⟨g+1,z.length,blk.rows++[]⟩) av bC hm hb (by show g+1=_;rw[ax]) nP.symm rfl rfl rfl rfl (fun _ _=>rfl) (fun c hc=>by cases hc)
     have fa:=Xx (ty:=ty) X a6 Cn pA.symm (base:=A) (sLen:=0) (sCap:=0) rfl (Nat.le_refl _)
     refine⟨_,_,_,E',hK,by rw[hw];exact fa,aS,tB,tC,.inr ⟨q7.symm,.inl ⟨by rw[oD];exact hm,rfl,by simp[mq],A,rfl⟩⟩,hml⟩
    ·have sg:blk.rows=[]:=List.eq_nil_of_length_eq_zero mq
     refine out A blk.rows 0 #[] b (g+1) _ (by rw[sg];rfl) ?_ (by rw[sg];simp) (fun row ao=>by rw[sg] at ao;cases ao) (fun i j row a h1 h2=>by rw[sg] at h1;simp at h1) (by omega) hby gN (by rw[List.getElem?_set_self r8]) (fun bS dL=>List.getElem?_set_ne (fun h=>dL h.symm)) (fun _=>by simp) (by simp) (.inr (by omega)) hK
     rw[sg]
     cases A with
     | none=>exact run_firstCells_none _ _ _ _ _
     | some mf=>exact run_firstCells_some (P:=P) _ z.length 0 mf 0 0 [] (by simp) (fun j v h=>by simp at h)
   ·obtain⟨blk',ay,jI,q1,cH,hw,lU,pw,gn⟩:=av.heap b c hm
    obtain rfl:blk=blk':=by rw[hb] at q1;exact Option.some.inj q1
    have b9:E.sz b=z.length:=by rw[cH,nP]
    by_cases zA:blk.rows.length+bR.length≤cap
    ·
     have aeU:ay.size=E.cp b*z.length:=by rw[lU,b9]
     have hle:(blk.rows.length+bR.length)*z.length≤ay.size:=by rw[aeU];exact Nat.mul_le_mul_right _ (by omega)
     have Sz:blk.rows.length*z.length+news.length≤ay.size:=by rw[X.len,←Nat.add_mul];exact hle
     have fa:=akB (ty:=ty) (o:=0) X a6 Cn pA.symm hw zA (by rw[Nat.zero_add];exact Sz)
     rw[Nat.zero_add] at fa
     let b4:Array Value:=(ay.toList.take (blk.rows.length*z.length)++news++ay.toList.drop (blk.rows.length*z.length+news.length)).toArray
     have Sa: ∀k,b4[k]?=if k<blk.rows.length*z.length then ay.toList[k]? else if k<blk.rows.length*z.length+news.length then news[k - blk.rows.length*z.length]? else ay.toList[k]?:=by
      intro k
      show(List.toArray _)[k]?=_
      rw[List.getElem?_toArray,Ba (by simpa using Sz)]
     obtain⟨E',eI,aS,tB,tC,q7,oD,CD,Fy,hml⟩:=Xo (w':=E.w.setRow c b4) (x:=some c) (blk':=⟨g+1,z.length,blk.rows++bR⟩) av bC hm hb (by show g+1=_;rw[ax]) nP.symm rfl rfl rfl (by simp)
      (fun cn li=>setRow_other _ _ _ _ (fun e=>li (by rw[e]))) (fun cn li=>by
       cases li
       refine⟨b4,jI,setRow_heap _ _ _ _ _ _ hw,?_,by show(blk.rows++bR).length≤_;rw[List.length_append];omega,fun k row ao=> ?_,fun k j row a ao al=> ?_⟩
       ·rw[←lU]
        show(List.toArray _).size=_
        simp;omega
       ·have ao:(blk.rows++bR)[k]?=some row:=ao
        rcases Nat.lt_or_ge k blk.rows.length with aQ | FB
        ·rw[List.getElem?_append_left aQ] at ao;exact gn.1 k row ao
        ·rw[List.getElem?_append_right FB] at ao;rw[b9];exact(fD row (List.mem_of_getElem? ao)).1
       ·have ao:(blk.rows++bR)[k]?=some row:=ao
        rcases Nat.lt_or_ge k blk.rows.length with aQ | FB
        ·rw[List.getElem?_append_left aQ] at ao
         obtain⟨u,hu,hv⟩:=gn.2 k j row a ao al
         refine⟨u,?_,hv⟩
         have mY:j<z.length:=by rw[←b9,←gn.1 k row ao];exact(List.getElem?_eq_some_iff.1 al).1
         have:k*z.length+j<blk.rows.length*z.length:=by
          calc k*z.length+j<k*z.length+z.length:=by omega
           _=(k+1)*z.length:=by rw[Nat.add_mul,Nat.one_mul]
           _≤blk.rows.length*z.length:=Nat.mul_le_mul_right _ (by omega)
         rw[b9] at hu ⊢
         rw[Sa,if_pos this];simpa using hu
        ·rw[List.getElem?_append_right FB] at ao
         obtain⟨u,hu,hv,_⟩:=X.rel _ j row a ao al
         refine⟨u,?_,hv⟩
         have mo:=(List.getElem?_eq_some_iff.1 hu).1
         have nQ:k*z.length+j=blk.rows.length*z.length+((k - blk.rows.length)*z.length+j):=by
          rw[←Nat.add_assoc,←Nat.add_mul];congr 2;omega
         rw[b9,Sa,nQ,if_neg (by omega),if_pos (by omega),Nat.add_sub_cancel_left];exact hu)
     refine⟨_,_,_,E',hK,by rw[eI];rw[Nat.zero_mul];exact fa,aS,tB,tC,.inr ⟨q7.symm,.inr ⟨c,cap,by rw[oD];exact hm,by simp,zA,(fun h=>by cases h),by rw[Fy];omega⟩⟩,hml⟩
    ·
     refine out (some ⟨c,0,none⟩) blk.rows cap (ay.toList.take (blk.rows.length*z.length)).toArray b (g+1) _ (by rw[Nat.zero_mul]) ?_ ?_ (fun row ao=> ?_) (fun i j row a h1 h2=> ?_) (by omega) hby gN (by rw[List.getElem?_set_self r8]) (fun bS dL=>List.getElem?_set_ne (fun h=>dL h.symm)) (fun _=>by simp) (by simp) (.inr (by omega)) hK
     ·refine run_firstCells_some (P:=P) E.w.drew z.length blk.rows.length ⟨c,0,none⟩ blk.rows.length cap _ ?_ (fun k v hk=> ?_)
      ·have:blk.rows.length*z.length≤ay.size:=by rw[lU,b9];exact Nat.mul_le_mul_right _ pw
       simp;omega
      ·rw[List.getElem?_take] at hk
       split at hk
       ·rw[ph,Nat.zero_add]
        exact cell_of (w:=E.w) hw (by simpa using hk)
       ·cases hk
     ·have:blk.rows.length*z.length≤ay.size:=by rw[lU,b9];exact Nat.mul_le_mul_right _ pw
      simp;omega
     ·obtain⟨k,hk⟩:=List.mem_iff_getElem?.1 ao
      rw[←b9];exact gn.1 k row hk
     ·obtain⟨u,hu,hv⟩:=gn.2 i j row a h1 h2
      refine⟨u,?_,hv⟩
      have hi:=(List.getElem?_eq_some_iff.1 h1).1
      have al:j<z.length:=by rw[←b9,←gn.1 i row h1];exact(List.getElem?_eq_some_iff.1 h2).1
      have:i*z.length+j<blk.rows.length*z.length:=by
       calc i*z.length+j<i*z.length+z.length:=by omega
        _=(i+1)*z.length:=by rw[Nat.add_mul,Nat.one_mul]
        _≤blk.rows.length*z.length:=Nat.mul_le_mul_right _ (by omega)
      rw[List.getElem?_toArray,List.getElem?_take,if_pos this,Array.getElem?_toList,←b9]
      exact hu
 | _=>exact h.elim
def H3 (E:Env) (o:Oper) (a:Act) (K:pU Prop):Act→World→Prop:=fun ib w'=>
 ∃v u L' H' E',K v L' H'∧E'.w=w'∧Step E E'∧SimH E' H'∧SimL E' L'∧V3 E' v u∧ib=a.put o.dst u∧ ∀t,o.dst≠some t→E'.mL t=E.mL t
def EI:List Nat→Nat→Option Nat
 | [],_=>none
 | x::r,t=>match Nat.ble 2000000 x with
  | true=>(match Nat.beq ((x - 2000000)%1000) t with
   | true=>some ((x - 2000000) / 1000)
   | false=>EI r t)
  | false=>EI r t
def xK (esc:List Nat) (dst:Option Nat) (cells:List AV) (L:List (Nat×List AV)) (H:List Blk) (K:pU Prop):Prop:=
 if cells.all jo=true then match dst with
  | none=>False
  | some t=>match EI esc t with
   | some j=>cC H[j]? fun blk=>K (.ptr j (blk.bf+1) 0 0) L (H.set j ⟨blk.bf+1,cells.length,[cells]⟩)
   | none=>if esc.contains t=true then K (.ptr H.length 0 0 0) L (H++[⟨0,cells.length,[cells]⟩]) else
    match eB L t with
    | none=>K (.fp t 0) ((t,cells)::L) H
    | some _=>False
 else False
theorem SimL.none {E:Env} {L:List (Nat×List AV)} (h:SimL E L) {t:Nat} (ag:eB L t=none):E.mL t=none:=by
 cases hm:E.mL t with
 | none=>rfl
 | some c=>
  obtain⟨cells,ay,ty,h1,_⟩:=h t c hm
  rw[ag] at h1;cases h1
theorem O9 {E:Env} {cells:List AV} {vs:List Value} (hs:cells.all jo=true) (h:af (bZ E) cells vs):af (bZ E.bL) cells vs:=
 ⟨h.1,fun i a v aG hv=>O8 (List.all_eq_true.1 hs a (List.mem_of_getElem? aG)) (h.2 i a v aG hv)⟩
theorem Wa {E:Env} {H:List Blk} {L:List (Nat×List AV)} {esc:List Nat} {dst:Option Nat} {cells:List AV} {ay:Array Value} {ty:TypeId} {K:AV→List (Nat×List AV)→List Blk→Prop}
  (av:SimH E H) (bC:SimL E L) (hc:af (bZ E) cells ay.toList) (h:xK esc dst cells L H K):
  ∃v L' H' E',K v L' H'∧E'.w=E.w.alloc (.cells ay ty (0,0))∧Step E E'∧SimH E' H'∧SimL E' L'∧V3 E' v (.pointer (some ⟨E.w.heap.size,0,none⟩))∧ ∀s,dst≠some s→E'.mL s=E.mL s:=by
 unfold xK at h
 split at h
 case isFalse=>exact h.elim
 case isTrue hs=>
 have li:=O9 hs hc
 cases dst with
 | none=>exact h.elim
 | some t=>
  have h:match EI esc t with
   | some j=>cC H[j]? fun blk=>K (.ptr j (blk.bf+1) 0 0) L (H.set j ⟨blk.bf+1,cells.length,[cells]⟩)
   | none=>if esc.contains t=true then K (.ptr H.length 0 0 0) L (H++[⟨0,cells.length,[cells]⟩]) else(match eB L t with
    | none=>K (.fp t 0) ((t,cells)::L) H
    | some _=>False):=h
  split at h
  ·rename_i j aeO
   obtain⟨blk,Cj,hK⟩:=fs h
   have mY:=(List.getElem?_eq_some_iff.1 Cj).1
   have ae5:=av.eV j blk Cj
   have hlen:ay.size=cells.length:=by have:=hc.1;simp at this;exact this.symm
   obtain⟨E',aW,e2,cF,iA,hO,nI,EW,wM,_,hml⟩:=Ae (H:=H) (H':=H.set j ⟨blk.bf+1,cells.length,[cells]⟩) (b:=j) (cap:=1) (blk:=⟨blk.bf+1,cells.length,[cells]⟩) av bC (ou.alloc E.w (.cells ay ty (0,0)))
    (by rw[List.getElem?_set];simp[mY]) (fun bS dL=>by rw[List.getElem?_set,if_neg (fun e=>dL e.symm)]) (fun _=>by simp) (by simp) (.inr (by show E.bf j<blk.bf+1;omega)) (by simp[hlen]) (by simp)
    ⟨fun i row ao=>by
      cases i with
      | zero=>simp at ao;subst ao;rfl
      | succ i=>simp at ao,
     fun i j row a ao al=>by
      cases i with
      | zero=>
       simp at ao;subst ao
       obtain⟨u,hu,hv⟩:=li.get al
       exact⟨u,by simpa using hu,hv⟩
      | succ i=>simp at ao⟩
   refine⟨_,_,_,E',hK,aW,e2,cF,iA,.inr ⟨hO.symm,E.w.heap.size,nI,?_⟩,fun s _=>by rw[hml]⟩
   rw[Nat.zero_mul]
  split at h
  ·have hlen:ay.size=cells.length:=by have:=hc.1;simp at this;exact this.symm
   have Cc:SimH E (H++[⟨0,cells.length,[cells]⟩]):=av.snoc rfl
   obtain⟨zu,tw⟩:=av.fresh H.length (Nat.le_refl _)
   obtain⟨E',aW,e2,cF,iA,hO,nI,EW,wM,_,hml⟩:=Ae (H:=H++[⟨0,cells.length,[cells]⟩]) (H':=H++[⟨0,cells.length,[cells]⟩]) (b:=H.length) (cap:=1) (blk:=⟨0,cells.length,[cells]⟩) Cc bC (ou.alloc E.w (.cells ay ty (0,0)))
    (by simp) (fun _ _=>rfl) (fun _=>rfl) (Nat.le_refl _) (.inl ⟨zu,tw.symm⟩) (by simp[hlen]) (by simp)
    ⟨fun i row ao=>by
      cases i with
      | zero=>simp at ao;subst ao;rfl
      | succ i=>simp at ao,
     fun i j row a ao al=>by
      cases i with
      | zero=>
       simp at ao;subst ao
       obtain⟨u,hu,hv⟩:=li.get al
       exact⟨u,by simpa using hu,hv⟩
      | succ i=>simp at ao⟩
   refine⟨_,_,_,E',h,aW,e2,cF,iA,.inr ⟨hO.symm,E.w.heap.size,nI,?_⟩,fun s _=>by rw[hml]⟩
   rw[Nat.zero_mul]
  ·cases ax:eB L t with
   | some x=>rw[ax] at h;exact h.elim
   | none=>
    rw[ax] at h
    have hm:=bC.none ax
    obtain⟨E',aW,e2,cF,iA,hO,_,hml⟩:=V_ (L:=(t,cells)::L) (t:=t) (cells:=cells) av (bC.cons hm) (ou.alloc E.w (.cells ay ty (0,0))) (by simp[eB]) hm li
    exact⟨_,_,_,E',h,aW,e2,cF,iA,hO,fun s hs=>hml s fun e=>hs (by rw[e])⟩
def nx:AV→AV
 | .aX rows _ fr=> .aX rows false fr
 | a=>a
theorem bZ.nx {E:Env} {a:AV} {v:Value} (h:bZ E a v):bZ E (nx a) v:=by
 cases a with
 | aX rows full fr=>
  have h:aY E.w E.PA E.PF (.aX rows full fr) v:=h
  cases h with
  | aX eW fl fK b9 dt hrel=>exact aY.aX eW fl (fun h=>by cases h) b9 dt hrel
 | _=>exact h
theorem af.nx {E:Env} {l:List AV} {m:List Value} (h:af (bZ E) l m):af (bZ E) (l.map nx) m:=by
 refine⟨by rw[List.length_map];exact h.1,fun i a v aG hv=> ?_⟩
 rw[List.getElem?_map] at aG
 cases aw:l[i]? with
 | none=>rw[aw] at aG;cases aG
 | some b=>rw[aw] at aG;cases aG;exact(h.2 i b v aw hv).nx
def Ac (P:Program) (t:TypeId) (l c:AV) (L:List (Nat×List AV)) (H:List Blk) (K:pU Prop):Prop:=
 cC (jp P t) fun e=>cC (oo P e) fun z=>if z.length=P.cellsOf e∧z.all jo=true then match l,c with
  | .int _ l,.int _ c=>0≤l∧l≤c∧(P.bytesOf e:Int)*c≤140737488355328∧c≤4611686018427387904∧K (.ref H.length 0 0 l.toNat false) L (H++[⟨0,z.length,List.replicate l.toNat (z.map nx)⟩])
  | _,_=>False
 else False
theorem ajm (z:Array Value) (n k:Nat) (hk:k<n):(madeCells z n)[k]?=some (z[k%z.size]!):=by
 simp[madeCells,hk]
theorem ajv {P:Program} {E:Env} {H:List Blk} {L:List (Nat×List AV)} {t:TypeId} {l c:AV} {Gw QI:Value} {K:AV→List (Nat×List AV)→List Blk→Prop}
  (av:SimH E H) (bC:SimL E L) (aw:V3 E l Gw) (hc:V3 E c QI) (h:Ac P t l c L H K):
  ∃v L' H' E' u,K v L' H'∧(Instr.makeSlice t Gw QI).run P E.w= .ok u E'.w∧Step E E'∧SimH E' H'∧SimL E' L'∧V3 E' v u∧E'.mL=E.mL:=by
 obtain⟨e,he,h⟩:=fs h
 obtain⟨z,aB,h⟩:=fs h
 split at h
 case isFalse=>exact h.elim
 case isTrue hb=>
 obtain⟨pA,afZ⟩:=hb
 cases l with
 | int z7 l=>
  cases c with
  | int fF c=>
   obtain⟨az,h1,h2,au,hK⟩:=(show 0≤l∧l≤c∧(P.bytesOf e:Int)*c≤140737488355328∧c≤4611686018427387904∧K (.ref H.length 0 0 l.toNat false) L (H++[⟨0,z.length,List.replicate l.toNat (z.map nx)⟩]) from h)
   obtain rfl:=aw.my
   obtain rfl:=hc.my
   obtain⟨i,v,q1,q2,q3,q4⟩:=yy (E:=E) aB
   have U:=(O9 afZ q4).nx
   have xf:v.cells.size=z.length:=by rw[q3];simp
   have zq:i.size=z.length:=by rw[pA];simp[Program.cellsOf,q1]
   have hby:P.bytesOf e=i.bytes:=by simp[Program.bytesOf,q1]
   have hu:=uT he
   have fa:=run_make (P:=P) E.w t e i v hu q1 q2 z7 fF l c az h1 (by rw[hby] at h2;omega) (by omega)
   have Cc:SimH E (H++[⟨0,z.length,List.replicate l.toNat (z.map nx)⟩]):=av.snoc rfl
   obtain⟨zu,tw⟩:=av.fresh H.length (Nat.le_refl _)
   have Sy:l.toNat≤c.toNat:=by omega
   obtain⟨E',aW,e2,cF,iA,hO,nI,EW,wM,_,hml⟩:=Ae (H:=H++[⟨0,z.length,List.replicate l.toNat (z.map nx)⟩]) (H':=H++[⟨0,z.length,List.replicate l.toNat (z.map nx)⟩]) (b:=H.length) (cap:=c.toNat) (blk:=⟨0,z.length,List.replicate l.toNat (z.map nx)⟩) Cc bC (ou.alloc E.w (.cells (madeCells v.cells (c.toNat*i.size)) e (0,0)))
    (by simp) (fun _ _=>rfl) (fun _=>rfl) (Nat.le_refl _) (.inl ⟨zu,tw.symm⟩) (by rw[size_madeCells,zq]) (by simpa using Sy)
    ⟨fun ji row ao=>by
      have ao:(List.replicate l.toNat (z.map nx))[ji]?=some row:=ao
      rw[List.getElem?_replicate] at ao
      split at ao
      ·cases ao;exact List.length_map ..
      ·exact absurd ao (fun h=>by cases h),
     fun ji j row a ao al=>by
      have ao:(List.replicate l.toNat (z.map nx))[ji]?=some row:=ao
      rw[List.getElem?_replicate] at ao
      split at ao
      ·rename_i hi
       cases ao
       have Co:=(List.getElem?_eq_some_iff.1 al).1
       rw[List.length_map] at Co
       obtain⟨u,hu,hv⟩:=U.get al
       refine⟨u,?_,hv⟩
       have aQ:ji*z.length+j<c.toNat*z.length:=by
        calc ji*z.length+j<ji*z.length+z.length:=by omega
         _=(ji+1)*z.length:=by rw[Nat.add_mul,Nat.one_mul]
         _≤c.toNat*z.length:=Nat.mul_le_mul_right _ (by omega)
       show(madeCells v.cells (c.toNat*i.size))[ji*z.length+j]?=_
       rw[zq,ajm _ _ _ aQ,xf,show(ji*z.length+j)%z.length=j by rw[Nat.mul_comm,Nat.mul_add_mod,Nat.mod_eq_of_lt Co],←hu,Array.getElem?_toList,getElem!_pos v.cells j (by omega),Array.getElem?_eq_getElem]
      ·exact absurd ao (fun h=>by cases h)⟩
   refine⟨_,_,_,E',_,hK,by rw[fa,aW],e2,cF,iA,.inr ⟨hO.symm,.inr ⟨E.w.heap.size,c.toNat,nI,by rw[Nat.zero_mul],Sy,(fun h=>by cases h),by rw[wM];omega⟩⟩,hml⟩
  | _=>exact h.elim
 | _=>exact h.elim
def xY:List Nat→Option Nat
 | []=>none
 | x::r=>match Nat.ble 1000000 x with
  | true=>some (x - 1000000)
  | false=>xY r
def ai_ (AG:Option Nat) (jV:Bool) (n sz:Nat) (rows:List (List AV)) (L:List (Nat×List AV)) (H:List Blk) (K:pU Prop):Prop:=match AG with
 | none=>K (.ref H.length 0 0 n jV) L (H++[⟨0,sz,rows⟩])
 | some j=>cC H[j]? fun blk=>K (.ref j (blk.bf+1) 0 n true) L (H.set j ⟨blk.bf+1,sz,rows⟩)
def wR (esc:List Nat) (dst:Option Nat):Bool:=match dst with
 | none=>false
 | some d=>esc.any fun x=>Nat.beq x (500000+d)
def wK (P:Program) (fr:Bool) (AG:Option Nat) (t:TypeId) (n:Nat) (parts:List (Nat×AV)) (L:List (Nat×List AV)) (H:List Blk) (K:pU Prop):Prop:=
 cC (jp P t) fun e=>cC (oo P e) fun z=>if z.length=P.cellsOf e∧n*z.length≤1000000∧n≤1000000 then
  cC (qR (fun i=>some (i*z.length,z.length)) ((List.range (n*z.length)).map fun i=>z.getD (i%z.length) .undef) parts) fun cells=>
   if(bif fr then false else cells.all jQ)=true then K (.aX (chunk z.length n (cells.map jL)) true (cells.all pt)) L H else
   if cells.all jo=true then ai_ AG (!fr) n z.length (chunk z.length n cells) L H K else False
 else False
theorem abY {size n i:Nat} {cells row:List AV} (aw:cells.length=n*size) (ao:(chunk size n cells)[i]?=some row):row.length=size:=by
 unfold chunk at ao
 rw[List.getElem?_map] at ao
 cases U:(List.range n)[i]? with
 | none=>rw[U] at ao;cases ao
 | some k=>
  have hk:=(List.getElem?_eq_some_iff.1 U).1
  have hi:k=i:=by have:=(List.getElem?_eq_some_iff.1 U).2;simpa using this.symm
  rw[U] at ao;cases ao
  simp only[List.length_take,List.length_drop]
  have b3:i<n:=by simpa using hk
  rw[aw,hi]
  have:(i+1)*size≤n*size:=Nat.mul_le_mul_right _ b3
  rw[Nat.add_mul,Nat.one_mul] at this
  omega
theorem abt {P:Program} {fr:Bool} {AG:Option Nat} {E:Env} {H:List Blk} {L:List (Nat×List AV)} {t:TypeId} {n:Nat} {parts:List (Nat×AV)} {kN:List (Nat×Value)} {K:AV→List (Nat×List AV)→List Blk→Prop} (av:SimH E H) (bC:SimL E L)
  (ae:af (fun a b=>a.1=b.1∧V2 E a.2 b.2) parts kN) (h:wK P fr AG t n parts L H K):
  ∃v u L' H' E',K v L' H'∧(Instr.buildSlice t n kN.toArray).run P E.w= .ok u E'.w∧Step E E'∧SimH E' H'∧SimL E' L'∧V3 E' v u∧E'.mL=E.mL:=by
 obtain⟨e,he,h⟩:=fs h
 obtain⟨z,aB,h⟩:=fs h
 split at h
 case isFalse=>exact h.elim
 case isTrue hb=>
 obtain⟨cells,hf,h⟩:=fs h
 split at h
 case isTrue hby=>
  have hby:cells.all jQ=true:=by cases fr with
   | true=>cases hby
   | false=>exact hby
  have hv:y0 P t n parts (fun r=>K r L H):=by
   refine ec he (ec aB ?_)
   rw[if_pos hb]
   refine ec hf ?_
   rw[if_pos hby];exact h
  obtain⟨r,u,E',hK,ao,U,au⟩:=Qq av ae hv
  exact⟨r,u,L,H,E',hK,ao,U.step,U.simH av,U.simL av bC,au,U.mL⟩
 case isFalse=>
 split at h
 case isFalse=>exact h.elim
 case isTrue hs=>
 obtain⟨hI,hrel,fa,hlen⟩:=abw ae he aB hb.1 hb.2 hf
 have pw:(chunk z.length n cells).length=n:=by simp[chunk]
 have Kh:hI.size=n*z.length:=by have:=hrel.1;simp at this;omega
 have qb:yL E z.length (chunk z.length n cells) hI:=⟨fun i row ao=>abY hlen ao,fun i j row a ao al=>by
   obtain⟨hi,Co,hc⟩:=Qz ao al
   obtain⟨u,hu,hv⟩:=hrel.get hc
   exact⟨u,by rw[Array.getElem?_toList] at hu;exact hu,hv⟩⟩
 cases AG with
 | none=>
  have Cc:SimH E (H++[⟨0,z.length,chunk z.length n cells⟩]):=av.snoc rfl
  obtain⟨zu,tw⟩:=av.fresh H.length (Nat.le_refl _)
  obtain⟨E',aW,e2,cF,iA,hO,nI,EW,wM,_,hml⟩:=Ae (H:=H++[⟨0,z.length,chunk z.length n cells⟩]) (H':=H++[⟨0,z.length,chunk z.length n cells⟩]) (b:=H.length) (cap:=n) (blk:=⟨0,z.length,chunk z.length n cells⟩) Cc bC (ou.alloc E.w (.cells hI e (0,0)))
   (by simp) (fun _ _=>rfl) (fun _=>rfl) (Nat.le_refl _) (.inl ⟨zu,tw.symm⟩) Kh (by rw[pw];exact Nat.le_refl _) qb
  exact⟨_,_,_,_,E',h,by rw[fa,aW],e2,cF,iA,.inr ⟨hO.symm,.inr ⟨E.w.heap.size,n,nI,by rw[Nat.zero_mul],Nat.le_refl _,(fun _=>rfl),by rw[wM];omega⟩⟩,hml⟩
 | some j=>
  obtain⟨blk,Cj,hK⟩:=fs (show cC H[j]? fun blk=>K (.ref j (blk.bf+1) 0 n true) L (H.set j ⟨blk.bf+1,z.length,chunk z.length n cells⟩) from h)
  have mY:=(List.getElem?_eq_some_iff.1 Cj).1
  have ae5:=av.eV j blk Cj
  obtain⟨E',aW,e2,cF,iA,hO,nI,EW,wM,_,hml⟩:=Ae (H:=H) (H':=H.set j ⟨blk.bf+1,z.length,chunk z.length n cells⟩) (b:=j) (cap:=n) (blk:=⟨blk.bf+1,z.length,chunk z.length n cells⟩) av bC (ou.alloc E.w (.cells hI e (0,0)))
   (by rw[List.getElem?_set];simp[mY]) (fun bS dL=>by rw[List.getElem?_set,if_neg (fun e=>dL e.symm)]) (fun _=>by simp) (by simp) (.inr (by show E.bf j<blk.bf+1;omega)) Kh (by rw[pw];exact Nat.le_refl _) qb
  exact⟨_,_,_,_,E',hK,by rw[fa,aW],e2,cF,iA,.inr ⟨hO.symm,.inr ⟨E.w.heap.size,n,nI,by rw[Nat.zero_mul],Nat.le_refl _,(fun _=>rfl),by rw[wM];omega⟩⟩,hml⟩
def rq:AV→Bool
 | .aX _ _ fr=>fr
 | .fp _ _ | .dh _ _ | .agg _ | .tup _ | .fn _ _=>false
 | _=>true
def iY (k:Nat):AV→AV
 | .ref b g o n f=> .ref (k+b) g o n f
 | .ptr b g r c=> .ptr (k+b) g r c
 | a=>a
def Am:AV→Bool
 | .agg l=>l.all rq
 | a=>rq a
def oZ (k:Nat):AV→AV
 | .agg l=> .agg (l.map (iY k))
 | a=>iY k a
def An:AV→Bool
 | .tup l=>l.all Am
 | a=>Am a
def nt (k:Nat):AV→AV
 | .tup l=> .tup (l.map (oZ k))
 | a=>oZ k a
def lF (k:Nat) (b:Blk):Blk:=⟨b.bf,b.sz,b.rows.map fun row=>row.map (iY k)⟩
def vB (H:List Blk):Bool:=H.all fun b=>b.rows.all fun row=>row.all rq
def Env.join (E E1:Env) (n:Nat):Env:=
 {w:=E1.w,PA:=fun c=>E.PA c∨E1.PF c,PF:=fun c=>E.PF c∨E1.PF c
  m:=fun b=>if b<n then E.m b else E1.m (b - n),bf:=fun b=>if b<n then E.bf b else E1.bf (b - n)
  sz:=fun b=>if b<n then E.sz b else E1.sz (b - n),cp:=fun b=>if b<n then E.cp b else E1.cp (b - n),mL:=E.mL}
section
variable {E E1:Env} {n:Nat}
theorem ahy {b:Nat} (h:b<n):(E.join E1 n).m b=E.m b∧(E.join E1 n).bf b=E.bf b∧(E.join E1 n).sz b=E.sz b∧(E.join E1 n).cp b=E.cp b:=⟨if_pos h,if_pos h,if_pos h,if_pos h⟩
theorem LP (b:Nat):(E.join E1 n).m (n+b)=E1.m b∧(E.join E1 n).bf (n+b)=E1.bf b∧(E.join E1 n).sz (n+b)=E1.sz b∧(E.join E1 n).cp (n+b)=E1.cp b:=by
 have h: ¬n+b<n:=by omega
 have e:n+b - n=b:=by omega
 refine⟨?_,?_,?_,?_⟩<;>(unfold Env.join;simp only[if_neg h,e])
theorem LQ {E':Env} (iB:E'=E.join E1 n) {a:AV} {v:Value} (ai:rq a=true) (hv:bZ E1 a v):bZ E' (iY n a) v:=by
 have nT: ∀{a:AV} {v:Value},rq a=true→aY E1.w E1.PA E1.PF a v→aY E'.w E'.PA E'.PF a v:=by
  intro a v ai h
  subst iB
  cases h with
  | undef=>exact .undef _
  | int=>exact .int _ _
  | bool=>exact .bool _
  | str=>exact .str _
  | fT=>exact .fT
  | gu=>exact .gu
  | @aX _ _ PB rows full fresh A cap sz vs eW fl fK b9 dt hrel=>
   have hf:fresh=true:=ai
   refine .aX (PB:=PB) (sz:=sz) (vs:=vs) (fun c hc=> ?_) fl fK b9 dt hrel
   have:=eW c hc
   rw[if_pos hf] at this ⊢
   exact .inr this
  | dh=>cases ai
  | fn=>cases ai
 cases a with
 | ref b g off m full=>
  subst iB
  obtain⟨fm,ba,pD,vm⟩:=LP (E:=E) (E1:=E1) (n:=n) b
  show e6 (E.join E1 n) (.ref (n+b) g off m full) v
  rcases(show e6 E1 (.ref b g off m full) v from hv) with⟨h,k⟩ | ⟨h,k⟩
  ·exact .inl ⟨by rw[ba];exact h,k⟩
  ·refine .inr ⟨by rw[ba];exact h,?_⟩
   rw[fm,pD,vm];exact k
 | ptr b g r c=>
  subst iB
  obtain⟨fm,ba,pD,vm⟩:=LP (E:=E) (E1:=E1) (n:=n) b
  show e6 (E.join E1 n) (.ptr (n+b) g r c) v
  rcases(show e6 E1 (.ptr b g r c) v from hv) with⟨h,k⟩ | ⟨h,k⟩
  ·exact .inl ⟨by rw[ba];exact h,k⟩
  ·refine .inr ⟨by rw[ba];exact h,?_⟩
   rw[fm,pD];exact k
 | fp t c=>cases ai
 | fn f c=>cases ai
 | agg l=>cases ai
 | tup l=>cases ai
 | dh l c=>cases ai
 | undef=>exact aY.undef _
 | int k m=>exact nT (a:= .int k m) rfl hv
 | bool b=>exact nT (a:= .bool b) rfl hv
 | str s=>exact nT (a:= .str s) rfl hv
 | aX rows full fr=>exact nT (a:= .aX rows full fr) ai hv
 | fT=>exact nT (a:= .fT) rfl hv
 | gu=>exact nT (a:= .gu) rfl hv
theorem UH {E':Env} (iB:E'=E.join E1 n) {a:AV} {v:Value} (ai:Am a=true) (hv:V2 E1 a v):V2 E' (oZ n a) v:=by
 by_cases hf: ∃l,a= .agg l
 ·obtain⟨l,rfl⟩:=hf
  obtain⟨vs,rfl,ae⟩:=hv
  refine⟨vs,rfl,by rw[List.length_map];exact ae.1,fun i x u hx hu=> ?_⟩
  rw[List.getElem?_map] at hx
  cases aw:l[i]? with
  | none=>simp[aw] at hx
  | some y=>
   simp[aw] at hx;subst hx
   exact LQ iB (List.all_eq_true.1 (show l.all rq=true from ai) y (List.mem_of_getElem? aw)) (ae.2 i y u aw hu)
 ·have aW:oZ n a=iY n a:=by cases a<;>first | rfl | exact absurd ⟨_,rfl⟩ hf
  have e2:Am a=rq a:=by cases a<;>first | rfl | exact absurd ⟨_,rfl⟩ hf
  rw[p1 fun l e=>hf ⟨l,e⟩] at hv
  rw[aW]
  exact lg (LQ iB (e2▸ai) hv)
theorem ahz {E':Env} (iB:E'=E.join E1 n) {a:AV} {v:Value} (ai:An a=true) (hv:V3 E1 a v):V3 E' (nt n a) v:=by
 by_cases hf: ∃l,a= .tup l
 ·obtain⟨l,rfl⟩:=hf
  obtain⟨vs,rfl,ae⟩:=hv
  refine⟨vs,rfl,by rw[List.length_map];exact ae.1,fun i x u hx hu=> ?_⟩
  rw[List.getElem?_map] at hx
  cases aw:l[i]? with
  | none=>simp[aw] at hx
  | some y=>
   simp[aw] at hx;subst hx
   exact UH iB (List.all_eq_true.1 (show l.all Am=true from ai) y (List.mem_of_getElem? aw)) (ae.2 i y u aw hu)
 ·have aW:nt n a=oZ n a:=by cases a<;>first | rfl | exact absurd ⟨_,rfl⟩ hf
  have e2:An a=Am a:=by cases a<;>first | rfl | exact absurd ⟨_,rfl⟩ hf
  rw[p2 fun l e=>hf ⟨l,e⟩] at hv
  rw[aW]
  exact me (UH iB (e2▸ai) hv)
end
theorem abM {P:Program} {f:FuncId} {args eg:List AV} {L:List (Nat×List AV)} {H:List Blk} {E:Env} {vs:List Value} {Q:AV→List Blk→Prop} (av:SimH E H) (bC:SimL E L)
  (aG:af (V2 E) args vs) (hs:af (cL L H) args eg) (h:c0 P f eg [] fun r e0=>An r=true∧vB e0=true∧Q r e0):
  Calls P f vs.toArray E.w fun e w'=> ∃r v e0 E',e= .returned v∧Q r e0∧E'.w=w'∧Step E E'∧SimH E' (H++e0.map (lF H.length))∧SimL E' L∧V3 E' (nt H.length r) v∧E'.mL=E.mL:=by
 have wT:af (V2 E.frozen) eg vs:=⟨hs.1▸aG.1,fun i x u hx hu=>by
  have aQ:i<args.length:=by have:=(List.getElem?_eq_some_iff.1 hx).1;have:=hs.1;omega
  have aw:=List.getElem?_eq_getElem aQ
  exact X7 (Sub.refl L H) av bC (hs.2 i _ x aw hx) (aG.2 i _ u aw hu)⟩
 refine(h.2 E.frozen vs (fun _=>rfl) (Rt av) wT).mono ?_
 rintro e w' ⟨r,v,e0,E1,rfl,⟨ai,Cw,ao⟩,rfl,ag,eP,hv,aS⟩
 have Cf: ∀c,E1.PF c→E.w.heap.size≤c∧c<E1.w.heap.size:=fun c hc=>⟨(aS.fz c hc).elim (fun h=>h.elim) id,eP.dP c (eP.dA c hc)⟩
 have zj: ∀c,E1.gq c→E.w.heap.size≤c∧c<E1.w.heap.size:=fun c hc=>⟨(aS.rf c hc).elim (fun⟨b,hb⟩=>by cases hb) id,eP.fq c hc⟩
 have nR: ∀c,c<E.w.heap.size→E1.w.heap[c]?=E.w.heap[c]?:=fun c hc=>aS.dF c hc (fun⟨b,hb⟩=>by cases hb) (fun⟨b,hb⟩=>by cases hb)
 have kB:=av.fq
 have kC:=av.gr
 generalize iB:E.join E1 H.length=E'
 have nZ: ∀b,b<H.length→E'.m b=E.m b∧E'.bf b=E.bf b∧E'.sz b=E.sz b∧E'.cp b=E.cp b:=fun b hb=>iB▸ahy hb
 have hD: ∀b,E'.m (H.length+b)=E1.m b∧E'.bf (H.length+b)=E1.bf b∧E'.sz (H.length+b)=E1.sz b∧E'.cp (H.length+b)=E1.cp b:=fun b=>iB▸LP b
 have n0:E'.w=E1.w:=by rw[←iB];rfl
 have z6: ∀c,E'.PA c↔E.PA c∨E1.PF c:=fun c=>by rw[←iB];exact Iff.rfl
 have Gp: ∀c,E'.PF c↔E.PF c∨E1.PF c:=fun c=>by rw[←iB];exact Iff.rfl
 have vn:E'.mL=E.mL:=by rw[←iB];rfl
 have split: ∀b,b<H.length∨ ∃k,b=H.length+k:=fun b=>by
  rcases Nat.lt_or_ge b H.length with h | h
  ·exact .inl h
  ·exact .inr ⟨b - H.length,by omega⟩
 have ajE: ∀b x,E.m b=some x→b<H.length:=fun b x hb=>by
  rcases Nat.lt_or_ge b H.length with h | h
  ·exact h
  ·rw[(av.fresh b h).1] at hb;cases hb
 have rh: ∀c,E'.gq c→E.gq c∨E1.gq c:=fun c ⟨b,hb⟩=>by
  rcases split b with h | ⟨k,rfl⟩
  ·exact .inl ⟨b,by rw[←(nZ b h).1];exact hb⟩
  ·exact .inr ⟨k,by rw[←(hD k).1];exact hb⟩
 have fy:Step E E':=
  {le:=⟨fun c hc=>(z6 c).2 (.inl hc),fun c hc=>(Gp c).2 (.inl hc),fun c hc=>by rw[n0];exact nR c (av.dP c hc),fun c hc=>by rw[n0];exact nR c (av.dP c (av.dA c hc)),fun b=>by
     rcases split b with h | ⟨k,rfl⟩
     ·rw[(nZ b h).2.1];exact Nat.le_refl _
     ·rw[(av.fresh (H.length+k) (by omega)).2];exact Nat.zero_le _,fun b x hx _=>by
     have h:=ajE b x hx
     exact⟨by rw[(nZ b h).1];exact hx,(nZ b h).2.2.1,(nZ b h).2.2.2⟩,fun t c h=>by rw[vn];exact h⟩
   os:=by rw[n0];exact aS.os
   tape:=by rw[n0];exact aS.tape
   output:=by rw[n0];exact aS.output
   size:=by rw[n0];exact aS.size
   dF:=fun c hc _ _=>by rw[n0];exact nR c hc
   jq:=fun b c hb=>by
    rcases split b with h | ⟨k,rfl⟩
    ·exact .inl (by rw[←(nZ b h).1];exact hb)
    ·exact .inr (zj c ⟨k,by rw[←(hD k).1];exact hb⟩).1
   jX:=fun c ⟨t,a6⟩=> .inl ⟨t,by rw[←vn];exact a6⟩
   fG:=fun c hc=>((z6 c).1 hc).elim .inl fun h=> .inr (Cf c h).1
   fz:=fun c hc=>((Gp c).1 hc).elim .inl fun h=> .inr (Cf c h).1}
 have Jw: ∀b,b<H.length→(H++e0.map (lF H.length))[b]?=H[b]?:=fun b hb=>List.getElem?_append_left hb
 have Jv: ∀k,(H++e0.map (lF H.length))[H.length+k]?=(e0[k]?).map (lF H.length):=fun k=>by
  rw[List.getElem?_append_right (by omega),List.getElem?_map];congr 2;omega
 refine⟨r,v,e0,E',rfl,ao,n0,fy,?_,?_,ahz iB.symm ai hv,vn⟩
 ·exact{
   heap:=fun b c hb=>by
    rcases split b with h | ⟨k,rfl⟩
    ·obtain⟨fm,ba,pD,vm⟩:=nZ b h
     rw[fm] at hb
     obtain⟨blk,ay,ty,q1,cH,q2,q3,q4,cs,cD⟩:=av.heap b c hb
     refine⟨blk,ay,ty,by rw[Jw b h];exact q1,by rw[pD];exact cH,by rw[n0,nR c (kB c ⟨b,hb⟩)];exact q2,by rw[pD,vm];exact q3,by rw[vm];exact q4,by rw[pD];exact cs,fun i j row a ao al=> ?_⟩
     obtain⟨u,hu,Kg⟩:=cD i j row a ao al
     exact⟨u,by rw[pD];exact hu,Kg.le fy.le.bL⟩
    ·obtain⟨fm,ba,pD,vm⟩:=hD k
     rw[fm] at hb
     obtain⟨blk,ay,ty,q1,cH,q2,q3,q4,cs,cD⟩:=eP.heap k c hb
     have afl: ∀row∈blk.rows,∀a∈row,rq a=true:=fun row ao a aG=>
      List.all_eq_true.1 (List.all_eq_true.1 (List.all_eq_true.1 Cw blk (List.mem_of_getElem? q1)) row ao) a aG
     refine⟨lF H.length blk,ay,ty,by rw[Jv k,q1];rfl,by rw[pD];exact cH,by rw[n0];exact q2,by rw[pD,vm];exact q3,by rw[vm];show(blk.rows.map _).length≤_;rw[List.length_map];exact q4,fun i row' ao=> ?_,fun i j row' ib ao al=> ?_⟩
     ·have ao:(blk.rows.map fun row=>row.map (iY H.length))[i]?=some row':=ao
      rw[List.getElem?_map] at ao
      cases U:blk.rows[i]? with
      | none=>simp[U] at ao
      | some row=>
       simp[U] at ao;subst ao
       rw[List.length_map,pD];exact cs i row U
     ·have ao:(blk.rows.map fun row=>row.map (iY H.length))[i]?=some row':=ao
      rw[List.getElem?_map] at ao
      cases U:blk.rows[i]? with
      | none=>simp[U] at ao
      | some row=>
       simp[U] at ao;subst ao
       rw[List.getElem?_map] at al
       cases ll:row[j]? with
       | none=>simp[ll] at al
       | some a=>
        simp[ll] at al;subst al
        obtain⟨u,hu,Kg⟩:=cD i j row a U ll
        refine⟨u,by rw[pD];exact hu,?_⟩
        have RQ:E'.bL=E.bL.join E1.bL H.length:=by rw[←iB];rfl
        exact LQ RQ (afl row (List.mem_of_getElem? U) a (List.mem_of_getElem? ll)) Kg
   eV:=fun b blk hb=>by
    rcases split b with h | ⟨k,rfl⟩
    ·rw[Jw b h] at hb;rw[(nZ b h).2.1];exact av.eV b blk hb
    ·rw[Jv k] at hb
     cases U:e0[k]? with
     | none=>simp[U] at hb
     | some y=>simp[U] at hb;subst hb;rw[(hD k).2.1];exact eP.eV k y U
   ha:=fun b hb=>by
    rcases split b with h | ⟨k,rfl⟩
    ·rw[(nZ b h).1] at hb
     obtain⟨blk,q1,q2⟩:=av.ha b hb
     exact⟨blk,by rw[Jw b h];exact q1,by rw[(nZ b h).2.2.1];exact q2⟩
    ·rw[(hD k).1] at hb
     obtain⟨blk,q1,q2⟩:=eP.ha k hb
     exact⟨lF H.length blk,by rw[Jv k,q1];rfl,by rw[(hD k).2.2.1];exact q2⟩
   fresh:=fun b hb=>by
    rw[List.length_append,List.length_map] at hb
    rcases split b with h | ⟨k,rfl⟩
    ·omega
    ·rw[(hD k).1,(hD k).2.1];exact eP.fresh k (by omega)
   hC:=fun b bS c h1 h2=>by
    rcases split b with h | ⟨k,rfl⟩<;>rcases split bS with h' | ⟨k2,rfl⟩
    ·rw[(nZ b h).1] at h1;rw[(nZ bS h').1] at h2;exact av.hC b bS c h1 h2
    ·rw[(nZ b h).1] at h1;rw[(hD k2).1] at h2
     have:=kB c ⟨b,h1⟩;have:=(zj c ⟨k2,h2⟩).1;omega
    ·rw[(hD k).1] at h1;rw[(nZ bS h').1] at h2
     have:=kB c ⟨bS,h2⟩;have:=(zj c ⟨k,h1⟩).1;omega
    ·rw[(hD k).1] at h1;rw[(hD k2).1] at h2;rw[eP.hC k k2 c h1 h2]
   jt:=fun t jG c h1 h2=>by rw[vn] at h1 h2;exact av.jt t jG c h1 h2
   gB:=fun b t c h1 h2=>by
    rw[vn] at h2
    rcases split b with h | ⟨k,rfl⟩
    ·rw[(nZ b h).1] at h1;exact av.gB b t c h1 h2
    ·rw[(hD k).1] at h1
     have:=kC c ⟨t,h2⟩;have:=(zj c ⟨k,h1⟩).1;omega
   hF:=fun c hc hi=>by
    rcases(z6 c).1 hc with h | h<;>rcases rh c hi with h' | h'
    ·exact av.hF c h h'
    ·have:=av.dP c h;have:=(zj c h').1;omega
    ·have:=kB c h';have:=(Cf c h).1;omega
    ·exact eP.hF c (eP.dA c h) h'
   ii:=fun c hc ⟨t,a6⟩=>by
    rw[vn] at a6
    rcases(z6 c).1 hc with h | h
    ·exact av.ii c h ⟨t,a6⟩
    ·have:=kC c ⟨t,a6⟩;have:=(Cf c h).1;omega
   dA:=fun c hc=>(z6 c).2 (((Gp c).1 hc).elim (fun h=> .inl (av.dA c h)) .inr)
   ft:=fun c hc=>by
    rw[n0]
    rcases(Gp c).1 hc with h | h
    ·exact(av.ft c h).same (nR c (av.dP c (av.dA c h)))
    ·exact eP.ft c h
   dP:=fun c hc=>by
    rw[n0]
    rcases(z6 c).1 hc with h | h
    ·exact Nat.lt_of_lt_of_le (av.dP c h) aS.size
    ·exact(Cf c h).2
   fq:=fun c hc=>by
    rw[n0]
    rcases rh c hc with h | h
    ·exact Nat.lt_of_lt_of_le (kB c h) aS.size
    ·exact(zj c h).2
   gr:=fun c ⟨t,a6⟩=>by
    rw[vn] at a6;rw[n0]
    exact Nat.lt_of_lt_of_le (kC c ⟨t,a6⟩) aS.size}
 ·intro t c hm
  rw[vn] at hm
  obtain⟨cells,ay,ty,q1,q2,q3⟩:=bC t c hm
  exact⟨cells,ay,ty,q1,by rw[n0,nR c (kC c ⟨t,hm⟩)];exact q2,q3.mono fun _ _ k=>k.le fy.le.bL⟩
theorem abJ {P:Program} {f:FuncId} {args:List AV} {L:List (Nat×List AV)} {H:List Blk} {E:Env} {vs:List Value} {Q:AV→List Blk→Prop} (av:SimH E H) (bC:SimL E L)
  (aG:af (V2 E) args vs) (ag:args.all kG=true) (h:c0 P f args H fun r H'=>Ag r=true∧Q r H'):
  Calls P f vs.toArray E.w fun e w'=> ∃r v H' E',e= .returned v∧Q r H'∧E'.w=w'∧Step E E'∧SimH E' H'∧SimL E' L∧V3 E' r v∧E'.mL=E.mL:=by
 have wT:af (V2 E.bL) args vs:=⟨aG.1,fun i a v h1 h2=>(aG.2 i a v h1 h2).bL (List.all_eq_true.1 ag a (List.mem_of_getElem? h1))⟩
 refine(h.2 E.bL vs (fun _=>rfl) av.bL wT).mono ?_
 rintro e w' ⟨r,v,H',E1,rfl,⟨afh,ao⟩,rfl,Ct,eP,hv,aS⟩
 let E':Env:={E1 with mL:=E.mL}
 have RQ:E'.bL=E1.bL:=rfl
 have kC:=av.gr
 have rf: ∀c,E1.gq c→E.gq c∨E.w.heap.size≤c:=aS.rf
 have ae8: ∀c,E.k1 c→E1.w.heap[c]?=E.w.heap[c]?:=fun c hc=>aS.dF c (kC c hc) (fun⟨b,hb⟩=>by
  obtain⟨t,a6⟩:=hc
  exact av.gB b t c hb a6) (fun⟨b,hb⟩=>by cases hb)
 have hle:E1.bL.gy E':=Env.GF E'
 have fy:Step E E':=
  {le:=⟨aS.le.fG,aS.le.fz,aS.le.wl,aS.le.wf,aS.le.bf,aS.le.m,fun _ _ h=>h⟩
   os:=aS.os,tape:=aS.tape,output:=aS.output,size:=aS.size
   dF:=fun c hc h1 h2=>aS.dF c hc h1 (fun⟨b,hb⟩=>by cases hb)
   jq:=aS.jq
   jX:=fun c h=> .inl h
   fG:=aS.fG
   fz:=aS.fz}
 refine⟨r,v,H',E',rfl,ao,rfl,fy,?_,?_,?_,rfl⟩
 ·exact{eP with
   jt:=av.jt
   gB:=fun b t c h1 h2=>by
    rcases rf c ⟨b,h1⟩ with⟨bS,h⟩ | h
    ·exact av.gB bS t c h h2
    ·have:=kC c ⟨t,h2⟩;omega
   ii:=fun c hc ⟨t,a6⟩=>by
    rcases aS.fG c hc with h | h
    ·exact av.ii c h ⟨t,a6⟩
    ·have h:E.w.heap.size≤c:=h
     have:=kC c ⟨t,a6⟩;omega
   gr:=fun c hc=>Nat.lt_of_lt_of_le (kC c hc) aS.size}
 ·intro t c hm
  obtain⟨cells,ay,ty,q1,q2,q3⟩:=bC t c hm
  exact⟨cells,ay,ty,q1,by show E1.w.heap[c]?=_;rw[ae8 c ⟨t,hm⟩];exact q2,q3.mono fun _ _ k=>k.le fy.le.bL⟩
 ·exact(hv.bL afh).le hle
end Go.Proofs.YtejmihecgodhnaaGreatDoor.Fw
