/- The framework, part A: abstract values, how they stand for Go's values in a world, and what stays as it is when the world grows. -/
import Derived.WalkKit
import Derived.KernelRfl
import Derived.Orders
import Derived.Laws.StructEq
import Derived.ChangeArms
import Derived.ChangeShapes
import Derived.SizedLaws
import Derived.Below
import Derived.JoinedOf
import Derived.Test.YtglpfccgmfhkdaaProg
import Derived.Lib.Hide
import Derived.Deep.RegionHeld3
import Derived.WalkSpells
set_option linter.unusedVariables false
namespace Go.Proofs.Ytglpfccgmfhkdaa.Fw
open Go
inductive AV where
 | undef
 | int (k:IntKind) (n:Int)
 | bool (b:Bool)
 | str (s:ByteArray)
 | av (rows:List (List AV)) (full fresh:Bool)
 | ref (b g off n:Nat) (full:Bool)
 | ptr (b g row col:Nat)
 | dn (t col:Nat)
 | cv (cells:List AV) (col:Nat)
 | dU
 | eh
 | agg (cells:List AV)
 | tup (vs:List AV)
 | fn (f:FuncId) (caps:List AV)
 deriving Inhabited
structure Blk where
 aE:Nat
 sz:Nat
 rows:List (List AV)
 deriving Inhabited
structure St where
 T:List AV
 L:List (Nat×List AV)
 H:List Blk
def aw {α β:Type} (R:α→β→Prop) (l:List α) (m:List β):Prop:=
 l.length=m.length∧ ∀(i:Nat) (a:α) (b:β),l[i]?=some a→m[i]?=some b→R a b
theorem aw.nil {α β:Type} {R:α→β→Prop}:aw R [] []:=⟨rfl,fun i a b h=>by simp at h⟩
theorem aw.cons {α β:Type} {R:α→β→Prop} {a:α} {b:β} {l:List α} {m:List β} (h:R a b) (k:aw R l m):aw R (a::l) (b::m):=
 ⟨by simp[k.1],fun i x y hx ax=>by
  cases i with
  | zero=>simp at hx ax;subst hx;subst ax;exact h
  | succ i=>exact k.2 i x y (by simpa using hx) (by simpa using ax)⟩
theorem aw.head {α β:Type} {R:α→β→Prop} {a:α} {b:β} {l:List α} {m:List β} (h:aw R (a::l) (b::m)):R a b:=h.2 0 a b rfl rfl
theorem aw.tail {α β:Type} {R:α→β→Prop} {a:α} {b:β} {l:List α} {m:List β} (h:aw R (a::l) (b::m)):aw R l m:=
 ⟨by simpa using h.1,fun i x y hx ax=>h.2 (i+1) x y (by simpa using hx) (by simpa using ax)⟩
theorem aw.mono {α β:Type} {R qU:α→β→Prop} {l:List α} {m:List β} (h:aw R l m) (aa: ∀a b,R a b→qU a b):aw qU l m:=
 ⟨h.1,fun i a b x y=>aa _ _ (h.2 i a b x y)⟩
theorem aw.get {α β:Type} {R:α→β→Prop} {l:List α} {m:List β} (h:aw R l m) {i:Nat} {a:α} (ai:l[i]?=some a): ∃b,m[i]?=some b∧R a b:=by
 have hi:i<l.length:=(List.getElem?_eq_some_iff.1 ai).1
 have hm:i<m.length:=h.1▸hi
 exact⟨m[i],List.getElem?_eq_getElem hm,h.2 i a _ ai (List.getElem?_eq_getElem hm)⟩
theorem aw.jZ {α β:Type} {R:α→β→Prop} {m:List β} (h:aw R [] m):m=[]:=by
 have:=h.1;exact List.eq_nil_of_length_eq_zero (by simpa using this.symm)
theorem aw.cons_inv {α β:Type} {R:α→β→Prop} {a:α} {l:List α} {m:List β} (h:aw R (a::l) m): ∃b dg,m=b::dg∧R a b∧aw R l dg:=by
 cases m with
 | nil=>have:=h.1;simp at this
 | cons b dg=>exact⟨b,dg,rfl,h.head,h.tail⟩
theorem aw.append {α β:Type} {R:α→β→Prop} {l dy:List α} {m dg:List β} (h:aw R l m) (k:aw R dy dg):aw R (l++dy) (m++dg):=by
 refine⟨by simp[h.1,k.1],fun i a b ai hb=> ?_⟩
 rcases Nat.lt_or_ge i l.length with hi | hi
 ·rw[List.getElem?_append_left hi] at ai
  rw[List.getElem?_append_left (h.1▸hi)] at hb
  exact h.2 i a b ai hb
 ·rw[List.getElem?_append_right hi] at ai
  rw[List.getElem?_append_right (h.1▸hi),←h.1] at hb
  exact k.2 _ a b ai hb
theorem aw.set {α β:Type} {R:α→β→Prop} {l:List α} {m:List β} (h:aw R l m) (i:Nat) {a:α} {b:β} (aa:R a b):aw R (l.set i a) (m.set i b):=by
 refine⟨by simp[h.1],fun j x y hx ax=> ?_⟩
 by_cases O:i=j
 ·subst O
  rw[List.getElem?_set_self'] at hx ax
  cases ak:l[i]? with
  | none=>simp[ak] at hx
  | some a0=>
   cases hm:m[i]? with
   | none=>simp[hm] at ax
   | some Bq=>simp[ak] at hx;simp[hm] at ax;subst hx;subst ax;exact aa
 ·rw[List.getElem?_set_ne O] at hx ax
  exact h.2 j x y hx ax
inductive ar (w:World):(Nat→Prop)→(Nat→Prop)→AV→Value→Prop where
 | undef {PA PF:Nat→Prop} (v:Value):ar w PA PF .undef v
 | int {PA PF:Nat→Prop} (k:IntKind) (n:Int):ar w PA PF (.int k n) (.int k n)
 | bool {PA PF:Nat→Prop} (b:Bool):ar w PA PF (.bool b) (.bool b)
 | str {PA PF:Nat→Prop} (s:ByteArray):ar w PA PF (.str s) (.string s)
 | av {PA PF PB:Nat→Prop} {rows:List (List AV)} {full fresh:Bool} {A:Option Addr} {cap sz:Nat} {vs:Nat→Nat→Value}
   (dc: ∀c,PB c→if fresh=true then PF c else PA c)
   (c2:rows.length≤cap∧rows.length≤4611686018427387904) (dS:full=true→cap=rows.length)
   (bz: ∀(i:Nat) (row:List AV),rows[i]?=some row→row.length=sz)
   (cA:0<rows.length→ ∃c o,A=some ⟨c,o,none⟩∧PB c∧ ∀i j,i<rows.length→j<sz→w.cell? ⟨c,o+(i*sz+j),none⟩=some (vs i j))
   (hrel: ∀(i j:Nat) (row:List AV) (a:AV),rows[i]?=some row→row[j]?=some a→ar w PB (fun _=>False) a (vs i j)):
   ar w PA PF (.av rows full fresh) (.slice A rows.length cap)
 | cv {PA PF:Nat→Prop} {cells:List AV} {col c o:Nat} {vs:Nat→Value} (hc:PA c)
   (cA: ∀j,j<cells.length→w.cell? ⟨c,o+j,none⟩=some (vs j))
   (hrel: ∀(j:Nat) (a:AV),cells[j]?=some a→ar w PA (fun _=>False) a (vs j)):ar w PA PF (.cv cells col) (.pointer (some ⟨c,o+col,none⟩))
 | dU {PA PF:Nat→Prop}:ar w PA PF .dU (.pointer none)
 | eh {PA PF:Nat→Prop}:ar w PA PF .eh .nilIface
 | fn {PA PF:Nat→Prop} {f:FuncId} {caps:List AV} {vs:List Value} (ak:caps.length=vs.length)
   (hrel: ∀(i:Nat) (a:AV) (v:Value),caps[i]?=some a→vs[i]?=some v→ar w PA (fun _=>False) a v):ar w PA PF (.fn f caps) (.func (.func f) #[] vs.toArray)
theorem BL {w w':World} {c o:Nat} (h:w'.heap[c]?=w.heap[c]?):w'.cell? ⟨c,o,none⟩=w.cell? ⟨c,o,none⟩:=by
 simp[World.cell?,h]
theorem ar.mono {w w':World} {PA PF:Nat→Prop} {a:AV} {v:Value} (h:ar w PA PF a v):
  ∀{qR qS:Nat→Prop},(∀c,PA c→w'.heap[c]?=w.heap[c]?)→(∀c,PF c→w'.heap[c]?=w.heap[c]?)→(∀c,PA c→qR c)→(∀c,PF c→qS c)→ar w' qR qS a v:=by
 induction h with
 | undef v=>intros;exact .undef v
 | int k n=>intros;exact .int k n
 | bool b=>intros;exact .bool b
 | str s=>intros;exact .str s
 | @av PA PF PB rows full fresh A cap sz vs dc c2 dS bz cA hrel aT=>
  intro qR qS hw yw ai hf
  have CV: ∀c,PB c→w'.heap[c]?=w.heap[c]?:=fun c hc=>by
   have:=dc c hc
   split at this
   ·exact yw c this
   ·exact hw c this
  refine .av (PB:=PB) (sz:=sz) (vs:=vs) (fun c hc=> ?_) c2 dS bz (fun af=> ?_) (fun i j row a aa O=> ?_)
  ·have:=dc c hc
   split
   ·rename_i h;rw[if_pos h] at this;exact hf c this
   ·rename_i h;rw[if_neg h] at this;exact ai c this
  ·obtain⟨c,o,e,hc,ew⟩:=cA af
   exact⟨c,o,e,hc,fun i j hi O=>by rw[BL (CV c hc)];exact ew i j hi O⟩
  ·exact aT i j row a aa O CV (fun c hc=>hc.elim) (fun c hc=>hc) (fun c hc=>hc)
 | @cv PA PF cells col c o vs hc cA hrel aT=>
  intro qR qS hw yw ai hf
  refine .cv (ai c hc) (vs:=vs) (fun j O=> ?_) (fun j a O=>aT j a O hw (fun c hc=>hc.elim) ai (fun c hc=>hc))
  rw[BL (hw c hc)];exact cA j O
 | dU=>intros;exact .dU
 | eh=>intros;exact .eh
 | fn ak hrel aT=>
  intro qR qS hw yw ai hf
  exact .fn ak (fun i a v h1 h2=>aT i a v h1 h2 hw (fun c hc=>hc.elim) ai (fun c hc=>hc))
theorem ar.one {w:World} {PA PF:Nat→Prop} {a:AV} {v:Value} (h:ar w PA PF a v) (hu:a≠ .undef):v.oneCell'=true:=by
 cases h<;>first | rfl | exact absurd rfl hu
structure Env where
 w:World
 PA:Nat→Prop
 PF:Nat→Prop
 m:Nat→Option (Option Nat)
 aE:Nat→Nat
 sz:Nat→Nat
 cp:Nat→Nat
 mL:Nat→Option Nat
def cY (E:Env):AV→Value→Prop
 | .ref b g off n full,v=>(g<E.aE b∧ ∃A cap,v= .slice A n cap)∨(g=E.aE b∧((E.m b=some none∧off=0∧n=0∧ ∃A,v= .slice A 0 0)∨
   ∃c cap,E.m b=some (some c)∧v= .slice (some ⟨c,off*E.sz b,none⟩) n cap∧n≤cap∧(full=true→cap=n)∧off+cap≤E.cp b))
 | .ptr b g r c,v=>(g<E.aE b∧ ∃bl o,v= .pointer (some ⟨bl,o,none⟩))∨(g=E.aE b∧ ∃bl,E.m b=some (some bl)∧v= .pointer (some ⟨bl,r*E.sz b+c,none⟩))
 | .dn t c,v=> ∃bl,E.mL t=some bl∧v= .pointer (some ⟨bl,c,none⟩)
 | a,v=>ar E.w E.PA E.PF a v
def be (E:Env):AV→Value→Prop
 | .fn f caps,v=> ∃vs:List Value,v= .func (.func f) #[] vs.toArray∧aw (cY E) caps vs
 | a,v=>cY E a v
def V2 (E:Env):AV→Value→Prop
 | .agg cells,v=> ∃vs:List Value,v= .agg vs.toArray∧aw (be E) cells vs
 | a,v=>be E a v
def V3 (E:Env):AV→Value→Prop
 | .tup l,v=> ∃vs:List Value,v= .tuple vs.toArray∧aw (V2 E) l vs
 | a,v=>V2 E a v
def Plain (w:World) (c:Nat):Prop:= ∃ad ty,w.heap[c]?=some (.cells ad ty (0,0))
theorem Plain.same {w w':World} {c:Nat} (h:Plain w c) (e:w'.heap[c]?=w.heap[c]?):Plain w' c:=by
 obtain⟨ad,ty,h⟩:=h;exact⟨ad,ty,e.trans h⟩
structure Env.ev (E E':Env):Prop where
 dC: ∀c,E.PA c→E'.PA c
 dr: ∀c,E.PF c→E'.PF c
 nC: ∀c,E.PA c→E'.w.heap[c]?=E.w.heap[c]?
 wf: ∀c,E.PF c→E'.w.heap[c]?=E.w.heap[c]?
 aE: ∀b,E.aE b≤E'.aE b
 m: ∀b x,E.m b=some x→E'.aE b=E.aE b→E'.m b=some x∧E'.sz b=E.sz b∧E'.cp b=E.cp b
 mL: ∀t c,E.mL t=some c→E'.mL t=some c
theorem Env.ev.refl (E:Env):E.ev E:=⟨fun _ h=>h,fun _ h=>h,fun _ _=>rfl,fun _ _=>rfl,fun _=>Nat.le_refl _,fun _ _ h _=>⟨h,rfl,rfl⟩,fun _ _ h=>h⟩
theorem Env.ev.trans {A B C:Env} (h:A.ev B) (k:B.ev C):A.ev C:=
 ⟨fun c x=>k.dC c (h.dC c x),fun c x=>k.dr c (h.dr c x),fun c x=>(k.nC c (h.dC c x)).trans (h.nC c x),fun c x=>(k.wf c (h.dr c x)).trans (h.wf c x),
  fun b=>Nat.le_trans (h.aE b) (k.aE b),fun b x hx aJ=>by
   have h1:B.aE b=A.aE b:=Nat.le_antisymm (aJ▸k.aE b) (h.aE b)
   have h2:C.aE b=B.aE b:=aJ.trans h1.symm
   obtain⟨a7,s1,aV⟩:=h.m b x hx h1
   obtain⟨bO,s2,aQ⟩:=k.m b x a7 h2
   exact⟨bO,s2.trans s1,aQ.trans aV⟩,
  fun t c x=>k.mL t c (h.mL t c x)⟩
theorem cY.le {E E':Env} (h:E.ev E') {a:AV} {v:Value} (hv:cY E a v):cY E' a v:=by
 have iY: ∀a v,ar E.w E.PA E.PF a v→ar E'.w E'.PA E'.PF a v:=fun a v k=>k.mono h.nC h.wf h.dC h.dr
 cases a with
 | ref b g off n full=>
  rcases hv with⟨hv,h1⟩ | ⟨aJ,hv⟩
  ·exact .inl ⟨Nat.lt_of_lt_of_le hv (h.aE b),h1⟩
  ·rcases Nat.lt_or_ge (E.aE b) (E'.aE b) with ay | eo
   ·refine .inl ⟨aJ▸ay,?_⟩
    rcases hv with⟨hm,br,rfl,A,rfl⟩ | ⟨c,cap,hm,rfl,h1,h2,ao⟩<;>exact⟨_,_,rfl⟩
   ·have he:E'.aE b=E.aE b:=Nat.le_antisymm eo (h.aE b)
    refine .inr ⟨by rw[he];exact aJ,?_⟩
    rcases hv with⟨hm,br,af,A,bG⟩ | ⟨c,cap,hm,e,h1,h2,ao⟩
    ·exact .inl ⟨(h.m b _ hm he).1,br,af,A,bG⟩
    ·obtain⟨a7,s1,aV⟩:=h.m b _ hm he
     exact .inr ⟨c,cap,a7,by rw[s1];exact e,h1,h2,by rw[aV];exact ao⟩
 | ptr b g r c=>
  rcases hv with⟨hv,h1⟩ | ⟨aJ,bl,hm,e⟩
  ·exact .inl ⟨Nat.lt_of_lt_of_le hv (h.aE b),h1⟩
  ·rcases Nat.lt_or_ge (E.aE b) (E'.aE b) with ay | eo
   ·exact .inl ⟨aJ▸ay,_,_,e⟩
   ·have he:E'.aE b=E.aE b:=Nat.le_antisymm eo (h.aE b)
    obtain⟨a7,s1,aV⟩:=h.m b _ hm he
    exact .inr ⟨by rw[he];exact aJ,bl,a7,by rw[s1];exact e⟩
 | dn t c=>
  obtain⟨bl,hm,e⟩:=hv
  exact⟨bl,h.mL _ _ hm,e⟩
 | _=>exact iY _ _ hv
theorem ln {E:Env} {a:AV} {v:Value} (h: ∀f caps,a≠ .fn f caps):be E a v=cY E a v:=by
 cases a<;>first | rfl | exact absurd rfl (h _ _)
theorem ka {E:Env} {a:AV} {v:Value} (h: ∀l,a≠ .agg l):V2 E a v=be E a v:=by
 cases a<;>first | rfl | exact absurd rfl (h _)
theorem kb {E:Env} {a:AV} {v:Value} (h: ∀l,a≠ .tup l):V3 E a v=V2 E a v:=by
 cases a<;>first | rfl | exact absurd rfl (h _)
theorem be.le {E E':Env} (h:E.ev E') {a:AV} {v:Value} (hv:be E a v):be E' a v:=by
 by_cases hf: ∃f caps,a= .fn f caps
 ·obtain⟨f,caps,rfl⟩:=hf
  obtain⟨vs,e,ab⟩:=hv
  exact⟨vs,e,ab.mono fun _ _ k=>k.le h⟩
 ·rw[ln fun f c e=>hf ⟨f,c,e⟩] at hv ⊢
  exact hv.le h
theorem V2.le {E E':Env} (h:E.ev E') {a:AV} {v:Value} (hv:V2 E a v):V2 E' a v:=by
 by_cases hf: ∃l,a= .agg l
 ·obtain⟨l,rfl⟩:=hf
  obtain⟨vs,e,ab⟩:=hv
  exact⟨vs,e,ab.mono fun _ _ k=>k.le h⟩
 ·rw[ka fun l e=>hf ⟨l,e⟩] at hv ⊢
  exact hv.le h
theorem V3.le {E E':Env} (h:E.ev E') {a:AV} {v:Value} (hv:V3 E a v):V3 E' a v:=by
 by_cases hf: ∃l,a= .tup l
 ·obtain⟨l,rfl⟩:=hf
  obtain⟨vs,e,ab⟩:=hv
  exact⟨vs,e,ab.mono fun _ _ k=>k.le h⟩
 ·rw[kb fun l e=>hf ⟨l,e⟩] at hv ⊢
  exact hv.le h
theorem ar.v0 {E:Env} {a:AV} {v:Value} (h:ar E.w E.PA E.PF a v):cY E a v:=by
 cases a<;>first | exact h | cases h
theorem ar.v1 {E:Env} {a:AV} {v:Value} (h:ar E.w E.PA E.PF a v):be E a v:=by
 by_cases hf: ∃f caps,a= .fn f caps
 ·obtain⟨f,caps,rfl⟩:=hf
  cases h with
  | fn ak hrel=>exact⟨_,rfl,ak,fun i a v h1 h2=>((hrel i a v h1 h2).mono (fun _ _=>rfl) (fun _ h=>h.elim) (fun _ h=>h) (fun _ h=>h.elim)).v0⟩
 ·rw[ln fun f c e=>hf ⟨f,c,e⟩]
  exact h.v0
theorem be.undef (E:Env) (v:Value):be E .undef v:=ar.undef v
theorem V3.undef (E:Env) (v:Value):V3 E .undef v:=ar.undef v
def AV.Jo:AV→Bool
 | .undef | .agg _ | .tup _=>false
 | _=>true
theorem be.one {E:Env} {a:AV} {v:Value} (h:be E a v) (hc:a.Jo=true):True:=trivial
def cG:List (Nat×List AV)→Nat→Option (List AV)
 | [],_=>none
 | (k,c)::l,t=>if t=k then some c else cG l t
def hL:List (Nat×List AV)→Nat→List AV→List (Nat×List AV)
 | [],_,_=>[]
 | (k,c)::l,t,d=>if t=k then(k,d)::l else(k,c)::hL l t d
def Env.dx (E:Env) (c:Nat):Prop:= ∃b,E.m b=some (some c)
def Env.hn (E:Env) (c:Nat):Prop:= ∃t,E.mL t=some c
def Env.aW (E:Env):Env:={E with mL:=fun _=>none}
theorem Env.uS (E:Env):E.aW.ev E:=⟨fun _ h=>h,fun _ h=>h,fun _ _=>rfl,fun _ _=>rfl,fun _=>Nat.le_refl _,fun _ _ h _=>⟨h,rfl,rfl⟩,fun _ _ h=>by cases h⟩
theorem Env.ev.aW {E E':Env} (h:E.ev E'):E.aW.ev E'.aW:=⟨h.dC,h.dr,h.nC,h.wf,h.aE,h.m,fun _ _ h=>by cases h⟩
def pf (E:Env) (sz:Nat) (rows:List (List AV)) (ad:Array Value):Prop:=
 (∀(i:Nat) (row:List AV),rows[i]?=some row→row.length=sz)∧
 ∀(i j:Nat) (row:List AV) (a:AV),rows[i]?=some row→row[j]?=some a→ ∃u,ad[i*sz+j]?=some u∧be E.aW a u
structure SimH (E:Env) (H:List Blk):Prop where
 heap: ∀b c,E.m b=some (some c)→ ∃blk ad ty,H[b]?=some blk∧E.sz b=blk.sz∧E.w.heap[c]?=some (.cells ad ty (0,0))∧ad.size=E.cp b*E.sz b∧blk.rows.length≤E.cp b∧pf E (E.sz b) blk.rows ad
 cS: ∀(b:Nat) (blk:Blk),H[b]?=some blk→E.aE b=blk.aE
 e0: ∀b,E.m b=some none→ ∃blk,H[b]?=some blk∧E.sz b=blk.sz
 fresh: ∀b,H.length≤b→E.m b=none∧E.aE b=0
 ee: ∀b bC c,E.m b=some (some c)→E.m bC=some (some c)→b=bC
 gk: ∀t fZ c,E.mL t=some c→E.mL fZ=some c→t=fZ
 ey: ∀b t c,E.m b=some (some c)→E.mL t=some c→False
 fm: ∀c,E.PA c→ ¬E.dx c
 fx: ∀c,E.PA c→ ¬E.hn c
 ck: ∀c,E.PF c→E.PA c
 dz: ∀c,E.PF c→Plain E.w c
 cu: ∀c,E.PA c→c<E.w.heap.size
 dB: ∀c,E.dx c→c<E.w.heap.size
 et: ∀c,E.hn c→c<E.w.heap.size
def SimL (E:Env) (L:List (Nat×List AV)):Prop:=
 ∀t c,E.mL t=some c→ ∃cells ad ty,cG L t=some cells∧E.w.heap[c]?=some (.cells ad ty (0,0))∧aw (be E.aW) cells ad.toList
structure nO (E:Env) (ac:St) (tmps:Array Value):Prop where
 h:SimH E ac.H
 l:SimL E ac.L
 fy: ∀t,V3 E (ac.T.getD t .undef) (tmps.getD t undef)
 size:ac.T.length=tmps.size
structure Step (E E':Env):Prop where
 le:E.ev E'
 os:E'.w.os=E.w.os
 tape:E'.w.tape=E.w.tape
 output:E'.w.output=E.w.output
 size:E.w.heap.size≤E'.w.heap.size
 b3: ∀c,c<E.w.heap.size→ ¬E.dx c→ ¬E.hn c→E'.w.heap[c]?=E.w.heap[c]?
 fV: ∀b c,E'.m b=some (some c)→E.m b=some (some c)∨E.w.heap.size≤c
 gj: ∀c,E'.hn c→E.hn c∨E.w.heap.size≤c
 dC: ∀c,E'.PA c→E.PA c∨E.w.heap.size≤c
 dr: ∀c,E'.PF c→E.PF c∨E.w.heap.size≤c
theorem Step.ko {E E':Env} (h:Step E E'): ∀c,E'.dx c→E.dx c∨E.w.heap.size≤c:=fun c ⟨b,hb⟩=>(h.fV b c hb).elim (fun h=> .inl ⟨b,h⟩) .inr
theorem Step.refl (E:Env):Step E E:=⟨.refl E,rfl,rfl,rfl,Nat.le_refl _,fun _ _ _ _=>rfl,fun _ _ h=> .inl h,fun _ h=> .inl h,fun _ h=> .inl h,fun _ h=> .inl h⟩
theorem Step.trans {A B C:Env} (h:Step A B) (k:Step B C):Step A C where
 le:=h.le.trans k.le
 os:=k.os.trans h.os
 tape:=k.tape.trans h.tape
 output:=k.output.trans h.output
 size:=Nat.le_trans h.size k.size
 b3:=fun c hc h1 h2=>by
  rw[k.b3 c (Nat.lt_of_lt_of_le hc h.size) (fun x=>(h.ko c x).elim h1 (fun y=>absurd hc (Nat.not_lt.2 y))) (fun x=>(h.gj c x).elim h2 (fun y=>absurd hc (Nat.not_lt.2 y)))]
  exact h.b3 c hc h1 h2
 fV:=fun b c x=>(k.fV b c x).elim (fun y=>h.fV b c y) (fun y=> .inr (Nat.le_trans h.size y))
 gj:=fun c x=>(k.gj c x).elim (fun y=>h.gj c y) (fun y=> .inr (Nat.le_trans h.size y))
 dC:=fun c x=>(k.dC c x).elim (fun y=>h.dC c y) (fun y=> .inr (Nat.le_trans h.size y))
 dr:=fun c x=>(k.dr c x).elim (fun y=>h.dr c y) (fun y=> .inr (Nat.le_trans h.size y))
class bF where
 n:Nat
structure Good [fQ:bF] (bx E:Env):Prop where
 r3: ∀b,fQ.n≤b→bx.m b=none∧bx.aE b=0
 aW: ∀t,bx.mL t=none
 le:bx.ev E
 os:E.w.os=bx.w.os
 tape:E.w.tape=bx.w.tape
 output:E.w.output=bx.w.output
 size:bx.w.heap.size≤E.w.heap.size
 b3: ∀c,c<bx.w.heap.size→ ¬bx.dx c→E.w.heap[c]?=bx.w.heap[c]?
 fV: ∀b c,E.m b=some (some c)→bx.m b=some (some c)∨bx.w.heap.size≤c
 gj: ∀c,E.hn c→bx.w.heap.size≤c
 dC: ∀c,E.PA c→bx.PA c∨bx.w.heap.size≤c
 dr: ∀c,E.PF c→bx.PF c∨bx.w.heap.size≤c
section
variable [fQ:bF]
theorem Good.ko {bx E:Env} (h:Good bx E): ∀c,E.dx c→bx.dx c∨bx.w.heap.size≤c:=fun c ⟨b,hb⟩=>(h.fV b c hb).elim (fun h=> .inl ⟨b,h⟩) .inr
theorem Good.refl {E:Env} (hu: ∀b,fQ.n≤b→E.m b=none∧E.aE b=0) (h: ∀t,E.mL t=none):Good E E:=
 ⟨hu,h,.refl E,rfl,rfl,rfl,Nat.le_refl _,fun _ _ _=>rfl,fun _ _ x=> .inl x,(fun c ⟨t,x⟩=>by rw[h t] at x;cases x),fun _ x=> .inl x,fun _ x=> .inl x⟩
theorem Good.step {bx E E':Env} (h:Good bx E) (k:Step E E'):Good bx E' where
 r3:=h.r3
 aW:=h.aW
 le:=h.le.trans k.le
 os:=k.os.trans h.os
 tape:=k.tape.trans h.tape
 output:=k.output.trans h.output
 size:=Nat.le_trans h.size k.size
 b3:=fun c hc h1=>by
  rw[k.b3 c (Nat.lt_of_lt_of_le hc h.size) (fun x=>(h.ko c x).elim h1 (fun y=>absurd hc (Nat.not_lt.2 y))) (fun x=>absurd hc (Nat.not_lt.2 (h.gj c x)))]
  exact h.b3 c hc h1
 fV:=fun b c x=>(k.fV b c x).elim (fun y=>h.fV b c y) (fun y=> .inr (Nat.le_trans h.size y))
 gj:=fun c x=>(k.gj c x).elim (fun y=>h.gj c y) (fun y=>Nat.le_trans h.size y)
 dC:=fun c x=>(k.dC c x).elim (fun y=>h.dC c y) (fun y=> .inr (Nat.le_trans h.size y))
 dr:=fun c x=>(k.dr c x).elim (fun y=>h.dr c y) (fun y=> .inr (Nat.le_trans h.size y))
end
def H4 (ex:Exit):Bool:=match ex with
 | .normal | .exit _ | .ret=>true
 | _=>false
def jn [bF] (bx:Env) (Q:Exit→St→Prop) (ex:Exit) (a:Act) (w:World):Prop:=
 H4 ex=true∧ ∃ac E,Q ex ac∧E.w=w∧Good bx E∧nO E ac a.tmps∧a.defers=[]
def WpS [bF] (P:Program) (c:Code) (Q:Exit→St→Prop) (ac:St):Prop:=
 ∀(bx E:Env) (a:Act),Good bx E→nO E ac a.tmps→a.defers=[]→c.wp P (jn bx Q) a E.w
def Weak [bF] (ac hM:St):Prop:= ∀(bx E:Env) (tmps:Array Value),Good bx E→nO E ac tmps→ ∃E',E'.w=E.w∧Good bx E'∧nO E' hM tmps
theorem Weak.refl [bF] (ac:St):Weak ac ac:=fun bx E tmps g h=>⟨E,rfl,g,h⟩
theorem Weak.trans [bF] {a b c:St} (h:Weak a b) (k:Weak b c):Weak a c:=fun bx E tmps g s=>by
 obtain⟨E1,aO,g1,s1⟩:=h bx E tmps g s
 obtain⟨l5,e2,g2,s2⟩:=k bx E1 tmps g1 s1
 exact⟨l5,e2.trans aO,g2,s2⟩
section
variable [bF] {P:Program} {Q pd:Exit→St→Prop} {ac:St}
theorem WpS.mono {c:Code} (h:WpS P c Q ac) (al: ∀e s,Q e s→pd e s):WpS P c pd ac:=fun bx E a g s d=>
 wp_mono (h bx E a g s d) fun e a w ⟨h1,ac,E,h2,ao⟩=>⟨h1,ac,E,al _ _ h2,ao⟩
theorem WpS.l2 {c:Code} {hM:St} (h:WpS P c Q hM) (k:Weak ac hM):WpS P c Q ac:=fun bx E a g s d=>by
 obtain⟨E1,aO,g1,s1⟩:=k bx E a.tmps g s
 exact aO▸h bx E1 a g1 s1 d
theorem WpS.skip (h:Q .normal ac):WpS P .skip Q ac:=fun bx E a g s d=>wp_skip ⟨rfl,ac,E,h,rfl,g,s,d⟩
theorem WpS.ret (h:Q .ret ac):WpS P .ret Q ac:=fun bx E a g s d=>wp_ret ⟨rfl,ac,E,h,rfl,g,s,d⟩
theorem WpS.exit {id:Nat} (h:Q (.exit id) ac):WpS P (.exit id) Q ac:=fun bx E a g s d=>wp_exit ⟨rfl,ac,E,h,rfl,g,s,d⟩
def hQ (P:Program) (y:Code) (Q:Exit→St→Prop) (ex:Exit) (s:St):Prop:=match ex with
 | .normal=>WpS P y Q s
 | ex=>Q ex s
theorem WpS.seq {x y:Code} (h:WpS P x (hQ P y Q) ac):WpS P (.seq x y) Q ac:=fun bx E a g s d=>
 wp_seq (wp_mono (h bx E a g s d) fun e fw w' ⟨h1,hM,E',h2,ao,a8,cw,cZ⟩=>by
  cases e with
  | normal=>subst ao;exact h2 bx E' fw a8 cw cZ
  | exit id=>exact⟨rfl,hM,E',h2,ao,a8,cw,cZ⟩
  | ret=>exact⟨rfl,hM,E',h2,ao,a8,cw,cZ⟩
  | _=>cases h1)
def hy (id:Nat) (Q:Exit→St→Prop) (ex:Exit) (s:St):Prop:=match ex with
 | .exit ed=>if ed=id then Q .normal s else Q (.exit ed) s
 | ex=>Q ex s
theorem WpS.block {id:Nat} {c:Code} (h:WpS P c (hy id Q) ac):WpS P (.block id c) Q ac:=fun bx E a g s d=>
 wp_block (wp_mono (h bx E a g s d) fun e fw w' ⟨h1,hM,E',h2,ao⟩=>by
  cases e with
  | normal=>exact⟨rfl,hM,E',h2,ao⟩
  | exit ed=>
   by_cases hid:ed=id
   ·subst hid
    have hW:(if ed=ed then Q .normal hM else Q (.exit ed) hM):=h2
    rw[if_pos rfl] at hW
    show(if ed=ed then _ else _)
    rw[if_pos rfl];exact⟨rfl,hM,E',hW,ao⟩
   ·have hW:(if ed=id then Q .normal hM else Q (.exit ed) hM):=h2
    rw[if_neg hid] at hW
    show(if ed=id then _ else _)
    rw[if_neg hid];exact⟨rfl,hM,E',hW,ao⟩
  | ret=>exact⟨rfl,hM,E',h2,ao⟩
  | _=>cases h1)
end
def ke:Value→AV
 | .int k n=> .int k n
 | .bool b=> .bool b
 | .string s=> .str s
 | .slice none 0 0=> .av [] true true
 | .pointer none=> .dU
 | .nilIface=> .eh
 | _=> .undef
def bt (T:List AV):Operand→AV
 | .tmp t=>T.getD t .undef
 | .const v=>ke v
 | .func f=> .fn f []
 | .global _=> .undef
theorem JP (E:Env) (v:Value):V3 E (ke v) v:=by
 unfold ke
 split
 ·exact ar.int _ _
 ·exact ar.bool _
 ·exact ar.str _
 ·exact ar.av (PB:=fun _=>False) (sz:=0) (vs:=fun _ _=>undef) (fun _ h=>h.elim) ⟨Nat.le_refl _,Nat.zero_le _⟩ (fun _=>rfl) (fun i row h=>by simp at h) (fun h=>by simp at h) (fun i j row a h=>by simp at h)
 ·exact ar.dU
 ·exact ar.eh
 ·exact ar.undef _
theorem opv_rel {E:Env} {T:List AV} {a:Act} (h: ∀t,V3 E (T.getD t .undef) (a.tmps.getD t undef)) (x:Operand):V3 E (bt T x) (a.eval x):=by
 cases x with
 | tmp t=>exact h t
 | const v=>exact JP E v
 | global g=>exact ar.undef _
 | func f=>exact⟨[],rfl,aw.nil⟩
def q5 (b:Bool) (x y:Prop):Prop:=(b=true→x)∧(b=false→y)
def kc (v:AV) (k:Bool→Prop):Prop:=match v with
 | .bool b=>k b
 | _=>False
theorem s5 {v:AV} {k:Bool→Prop} (h:kc v k): ∃b,v= .bool b∧k b:=by
 cases v<;>first | exact⟨_,rfl,h⟩ | exact h.elim
theorem V3.jD {E:Env} {b:Bool} {v:Value} (h:V3 E (.bool b) v):v= .bool b:=by
 have h':ar E.w E.PA E.PF (.bool b) v:=h
 cases h';rfl
theorem V3.jU {E:Env} {k:IntKind} {n:Int} {v:Value} (h:V3 E (.int k n) v):v= .int k n:=by
 have h':ar E.w E.PA E.PF (.int k n) v:=h
 cases h';rfl
theorem V3.qx {E:Env} {s:ByteArray} {v:Value} (h:V3 E (.str s) v):v= .string s:=by
 have h':ar E.w E.PA E.PF (.str s) v:=h
 cases h';rfl
section
variable [bF] {P:Program} {Q pd:Exit→St→Prop} {ac:St}
theorem WpS.cond {c:Operand} {x y:Code} (h:kc (bt ac.T c) fun b=>q5 b (WpS P x Q ac) (WpS P y Q ac)):WpS P (.cond c x y) Q ac:=fun bx E a g s d=>by
 obtain⟨b,hb,h1,h2⟩:=s5 h
 have hv:=opv_rel s.fy c
 rw[hb] at hv
 have he:a.eval c= .bool b:=V3.jD hv
 exact wp_cond_split he (fun e=>h1 e bx E a g s d) (fun e=>h2 e bx E a g s d)
def Ii (I:Nat→St→Prop) (n:Nat) (Q:Exit→St→Prop) (ex:Exit) (s:St):Prop:=match ex with
 | .normal=> ∃gm s',gm<n∧Weak s s'∧I gm s'
 | ex=>Q ex s
theorem WpS.loop {c:Code} (I:Nat→St→Prop) (n:Nat) (aA:I n ac) (round: ∀n s,I n s→WpS P c (Ii I n Q) s):WpS P (.loop c) Q ac:=by
 intro bx E a g s d b k ad
 have key: ∀n (a:Act) (E:Env) ac,I n ac→Good bx E→nO E ac a.tmps→a.defers=[]→
   ∃e fw w',jn bx Q e fw w'∧Arrives P (lone (b.at a (.code c:: .inLoop c::k)) ad E.w) b k ad e fw w':=by
  intro n
  induction n using Nat.strongRecOn with
  | _ n aT=>
   intro a E ac bK g s d
   obtain⟨e,s6,HY,al,rr⟩:=round n ac bK bx E a g s d b (.inLoop c::k) ad
   obtain⟨he,Hx,E1,al,hw,g1,s1,d1⟩:=al
   cases e with
   | normal=>
    obtain⟨gm,s',ay,M8,LV⟩:=al
    obtain⟨l5,e2,g2,s2⟩:=M8 bx E1 s6.tmps g1 s1
    obtain⟨Ko,IJ,Sy,MX,C5⟩:=aT gm ay s6 l5 s' LV g2 s2 d1
    rw[e2,hw] at C5
    exact⟨Ko,IJ,Sy,MX,.of_steps (Steps.trans rr (.one step_inLoop)) C5⟩
   | exit id=>exact⟨_,s6,HY,⟨rfl,Hx,E1,al,hw,g1,s1,d1⟩,.pass (x:= .inLoop c) rfl (fun _ _=> .inl (by simp)) rr⟩
   | ret=>exact⟨_,s6,HY,⟨rfl,Hx,E1,al,hw,g1,s1,d1⟩,.pass (x:= .inLoop c) rfl (fun _ _=> .inl (by simp)) rr⟩
   | _=>cases he
 obtain⟨e,fw,w',al,rr⟩:=key n a E ac aA g s d
 exact⟨e,fw,w',al,.of_steps (.one step_loop) rr⟩
end
def ci {α:Type} (o:Option α) (k:α→Prop):Prop:=match o with
 | some a=>k a
 | none=>False
theorem dp {α:Type} {o:Option α} {k:α→Prop} (h:ci o k): ∃a,o=some a∧k a:=by
 cases o with
 | none=>exact h.elim
 | some a=>exact⟨a,rfl,h⟩
theorem dq {α:Type} {o:Option α} {k:α→Prop} {a:α} (h:o=some a) (hk:k a):ci o k:=by rw[h];exact hk
def cQ (b:Bool) (x:Prop):Prop:=match b with
 | true=>x
 | false=>False
theorem k_ {b:Bool} {x:Prop} (h:cQ b x):b=true∧x:=by
 cases b with
 | true=>exact⟨rfl,h⟩
 | false=>exact h.elim
def p0 (P:Program) (t:TypeId):Bool:=match P.underlying t with
 | some (.struct _) | some (.array _ _)=>true
 | _=>false
def rT (P:Program) (t:TypeId):Bool:=(P.underlying t).isSome
theorem run_underlying {P:Program} {t:TypeId} {w:World} {d:TypeDesc} (h:P.underlying t=some d):(underlying t).run P w= .ok d w:=by
 simp[Go.underlying,h]
theorem GK {P:Program} {t:TypeId} {w:World} (h:rT P t=true):(isAgg t).run P w= .ok (p0 P t) w:=by
 unfold rT at h
 cases aL:P.underlying t with
 | none=>simp[aL] at h
 | some d=>
  simp only[Go.isAgg,Sem.run_bind,run_underlying aL,Result.andThen_ok,p0,aL]
  cases d<;>rfl
theorem run_sizeOf {P:Program} {t:TypeId} {w:World} (h:(P.info? t).isSome=true):(sizeOf t).run P w= .ok (P.cellsOf t) w:=by
 cases hi:P.info? t with
 | none=>simp[hi] at h
 | some i=>simp[Go.sizeOf,typeInfo,hi,Program.cellsOf]
theorem NV {P:Program} {t:TypeId} (h:rT P t=true):(P.info? t).isSome=true:=by
 unfold rT Program.underlying at h
 cases hi:P.info? t with
 | none=>simp[hi] at h
 | some i=>rfl
def jv (P:Program) (t:TypeId) (cells:List AV) (c:Nat) (K:AV→Prop):Prop:=
 if rT P t=true then
  (if p0 P t=true then(if c+P.cellsOf t≤cells.length then K (.agg ((cells.drop c).take (P.cellsOf t))) else False)
   else ci cells[c]? K)
 else False
def kq (P:Program) (t:TypeId) (x:AV) (L:List (Nat×List AV)) (H:List Blk) (K:AV→Prop):Prop:=match x with
 | .dn s c=>ci (cG L s) fun cells=>jv P t cells c K
 | .ptr b g r c=>ci H[b]? fun blk=>blk.aE=g∧ci blk.rows[r]? fun row=>jv P t row c K
 | .cv cells c=>jv P t cells c K
 | _=>False
theorem jB (c o n:Nat):(⟨c,o,none⟩:Addr).add n=⟨c,o+n,none⟩:=by
 unfold Addr.add;split
 ·subst_vars;rfl
 ·rfl
theorem Az {P:Program} {t:TypeId} {cells:List AV} {c bl o:Nat} {K:AV→Prop} {w:World} {R:AV→Value→Prop}
  (hc: ∀(j:Nat) (a:AV),cells[j]?=some a→ ∃u,w.cell? ⟨bl,o+j,none⟩=some u∧R a u) (h:jv P t cells c K):
  ∃a v,K a∧(loadVar t ⟨bl,o+c,none⟩).run P w= .ok v w∧
   ((∃l vs,a= .agg l∧v= .agg (List.toArray vs)∧aw R l vs)∨R a v):=by
 unfold jv at h
 split at h
 ·rename_i hk
  split at h
  ·rename_i ai
   split at h
   ·rename_i ak
    let n:=P.cellsOf t
    have ew: ∀j,j<n→ ∃a u,cells[c+j]?=some a∧w.cell? ⟨bl,o+(c+j),none⟩=some u∧R a u:=by
     intro j O
     have gr:c+j<cells.length:=by show c+j<cells.length;have:n=P.cellsOf t:=rfl;omega
     obtain⟨u,h1,h2⟩:=hc (c+j) _ (List.getElem?_eq_getElem gr)
     exact⟨_,u,List.getElem?_eq_getElem gr,h1,h2⟩
    let f:Nat→Value:=fun j=>(w.cell? ⟨bl,o+(c+j),none⟩).getD undef
    have hf: ∀j,j<n→w.cell? ((⟨bl,o+c,none⟩:Addr).add j)=some (f j):=by
     intro j O
     obtain⟨a,u,_,h1,_⟩:=ew j O
     rw[jB,Nat.add_assoc]
     show _=some ((w.cell? ⟨bl,o+(c+j),none⟩).getD undef)
     rw[h1];rfl
    refine⟨_,.agg ((List.range n).map f).toArray,h,?_,.inl ⟨_,(List.range n).map f,rfl,rfl,?_,?_⟩⟩
    ·simp only[loadVar,Sem.run_bind,GK hk,Result.andThen_ok,ai,if_true,run_sizeOf (NV hk)]
     rw[run_loadCells w _ n f hf]
     rfl
    ·simp only[List.length_take,List.length_drop,List.length_map,List.length_range];show min n _=n;have:n=P.cellsOf t:=rfl;omega
    ·intro i a b De pM
     have hi:i<n:=by have:=(List.getElem?_eq_some_iff.1 pM).1;simpa using this
     obtain⟨fw,u,h1,h2,ao⟩:=ew i hi
     rw[List.getElem?_take,if_pos (show i<P.cellsOf t from hi),List.getElem?_drop,h1] at De
     cases De
     rw[List.getElem?_map,List.getElem?_range hi] at pM
     simp only[Option.map_some,Option.some.injEq] at pM
     have:f i=u:=by show(w.cell? ⟨bl,o+(c+i),none⟩).getD undef=u;rw[h2];rfl
     rw[←pM,this];exact ao
   ·exact h.elim
  ·rename_i ai
   obtain⟨a,od,hK⟩:=dp h
   obtain⟨u,h1,h2⟩:=hc c a od
   refine⟨a,u,hK,?_,.inr h2⟩
   have L1:p0 P t=false:=by cases hx:p0 P t<;>simp_all
   simp only[loadVar,Sem.run_bind,GK hk,Result.andThen_ok,L1]
   simp[h1]
 ·exact h.elim
theorem be.up {E:Env} {a:AV} {v:Value} (h:be E.aW a v):be E a v:=h.le E.uS
theorem Ir {E:Env} {l:List AV} {v:Value} (h:be E (.agg l) v):False:=by
 have h':ar E.w E.PA E.PF (.agg l) v:=h
 cases h'
theorem Is {E:Env} {l:List AV} {v:Value} (h:be E (.tup l) v):False:=by
 have h':ar E.w E.PA E.PF (.tup l) v:=h
 cases h'
theorem h_ {E:Env} {a:AV} {v:Value} (h:be E a v):V2 E a v:=by
 by_cases hf: ∃l,a= .agg l
 ·obtain⟨l,rfl⟩:=hf;exact(Ir h).elim
 ·rw[ka fun l e=>hf ⟨l,e⟩];exact h
theorem It {E:Env} {l:List AV} {v:Value} (h:V2 E (.tup l) v):False:=Is (E:=E) (l:=l) (v:=v) h
theorem lq {E:Env} {a:AV} {v:Value} (h:V2 E a v):V3 E a v:=by
 by_cases hf: ∃l,a= .tup l
 ·obtain⟨l,rfl⟩:=hf;exact(It h).elim
 ·rw[kb fun l e=>hf ⟨l,e⟩];exact h
theorem wo {E:Env} {a:AV} {v:Value} (h:(∃l vs,a= .agg l∧v= .agg (List.toArray vs)∧aw (be E) l vs)∨be E a v):V2 E a v:=by
 rcases h with⟨l,vs,rfl,rfl,ab⟩ | h
 ·exact⟨vs,rfl,ab⟩
 ·exact h_ h
theorem V3.r0 {E:Env} {t c:Nat} {v:Value} (h:V3 E (.dn t c) v): ∃bl,E.mL t=some bl∧v= .pointer (some ⟨bl,c,none⟩):=h
theorem V3.u6 {E:Env} {b g r c:Nat} {v:Value} (h:V3 E (.ptr b g r c) v) (aJ:E.aE b=g): ∃bl,E.m b=some (some bl)∧v= .pointer (some ⟨bl,r*E.sz b+c,none⟩):=by
 rcases(h:cY E (.ptr b g r c) v) with⟨h,_⟩ | ⟨_,h⟩
 ·omega
 ·exact h
theorem cell_of {w:World} {c o:Nat} {ad:Array Value} {ty:TypeId} {CJ:Nat×Nat} {u:Value} (h:w.heap[c]?=some (.cells ad ty CJ)) (hu:ad[o]?=some u):w.cell? ⟨c,o,none⟩=some u:=by
 simp[World.cell?,h,hu]
structure Sub (L:List (Nat×List AV)) (H:List Blk) (gX:List (Nat×List AV)) (da:List Blk):Prop where
 l: ∀t c,cG L t=some c→cG gX t=some c
 h: ∀(b:Nat) (blk:Blk),H[b]?=some blk→da[b]?=some blk
theorem Sub.refl (L:List (Nat×List AV)) (H:List Blk):Sub L H L H:=⟨fun _ _ h=>h,fun _ _ h=>h⟩
theorem E9 {P:Program} {t:TypeId} {x:AV} {L gX:List (Nat×List AV)} {H da:List Blk} {K:AV→Prop} {E:Env} {v:Value}
  (sub:Sub L H gX da) (ag:SimH E da) (aY:SimL E gX) (hx:V3 E x v) (h:kq P t x L H K):
  ∃a cM,K a∧(Instr.loadAt t v).run P E.w= .ok cM E.w∧V2 E a cM:=by
 cases x with
 | dn s c=>
  obtain⟨bl,hm,rfl⟩:=hx.r0
  obtain⟨cells,ad,ty,aJ,hw,ab⟩:=aY s bl hm
  have h':ci (cG L s) fun cells=>jv P t cells c K:=h
  obtain⟨q_,rF,h'⟩:=dp h'
  obtain rfl:cells=q_:=by have:=sub.l _ _ rF;rw[aJ] at this;exact Option.some.inj this
  obtain⟨a,cM,hK,aa,hv⟩:=Az (o:=0) (bl:=bl) (w:=E.w) (R:=be E.aW) (fun j a O=>by
   obtain⟨u,hu,aa⟩:=ab.get O
   exact⟨u,by rw[Nat.zero_add];exact cell_of hw (by simpa using hu),aa⟩) h'
  rw[Nat.zero_add] at aa
  refine⟨a,cM,hK,?_,(wo hv).le E.uS⟩
  simp only[Instr.loadAt,Instr.sureAddr,Sem.run_bind,Sem.run_pure,Result.andThen_ok,aa]
 | ptr b g r c=>
  obtain⟨blk,hb,aJ,h2⟩:=dp (show ci H[b]? fun blk=>blk.aE=g∧ci blk.rows[r]? fun row=>jv P t row c K from h)
  obtain⟨row,di,ao⟩:=dp h2
  replace hb:=sub.h b blk hb
  have gN:=ag.cS b blk hb
  obtain⟨bl,hm,rfl⟩:=hx.u6 (gN.trans aJ)
  obtain⟨blk',ad,ty,e8,jr,hw,hY,hlen,ec⟩:=ag.heap b bl hm
  obtain rfl:blk=blk':=by rw[hb] at e8;exact Option.some.inj e8
  obtain⟨a,cM,hK,aa,hv⟩:=Az (o:=r*E.sz b) (bl:=bl) (w:=E.w) (R:=be E.aW) (fun j a O=>by
   obtain⟨u,hu,aa⟩:=ec.2 r j row a di O
   exact⟨u,cell_of hw hu,aa⟩) ao
  refine⟨a,cM,hK,?_,(wo hv).le E.uS⟩
  simp only[Instr.loadAt,Instr.sureAddr,Sem.run_bind,Sem.run_pure,Result.andThen_ok,aa]
 | cv cells c=>
  have gi:ar E.w E.PA E.PF (.cv cells c) v:=hx
  cases gi with
  | @cv _ _ _ _ bl o vs hc cA hrel=>
   have h':jv P t cells c K:=h
   obtain⟨a,cM,hK,aa,hv⟩:=Az (o:=o) (bl:=bl) (w:=E.w) (R:=ar E.w E.PA (fun _=>False)) (fun j a O=>
    ⟨vs j,cA j (List.getElem?_eq_some_iff.1 O).1,hrel j a O⟩) h'
   have up: ∀a v,ar E.w E.PA (fun _=>False) a v→be E a v:=fun a v aa=>(aa.mono (fun _ _=>rfl) (fun _ h=>h.elim) (fun _ h=>h) (fun _ h=>h.elim)).v1
   refine⟨a,cM,hK,?_,wo (hv.imp (fun⟨l,vs,h1,h2,ao⟩=>⟨l,vs,h1,h2,ao.mono up⟩) (up _ _))⟩
   simp only[Instr.loadAt,Instr.sureAddr,Sem.run_bind,Sem.run_pure,Result.andThen_ok,aa]
 | _=>exact h.elim
def oX:AV→Bool
 | .undef | .agg _ | .tup _ | .dn _ _ | .fn _ _=>false
 | _=>true
def fY:AV→Bool
 | .fn _ caps=>caps.all oX
 | a=>oX a
def c8:AV→List AV
 | .agg l=>l
 | a=>[a]
def fF (row:List AV) (c:Nat) (l:List AV):List AV:=row.take c++l++row.drop (c+l.length)
def iu (P:Program) (t:TypeId) (x v:AV) (L:List (Nat×List AV)) (H:List Blk) (K:List (Nat×List AV)→List Blk→Prop):Prop:=
 if(P.info? t).isSome=true∧(c8 v).length=P.cellsOf t∧(c8 v).all fY=true then
  match x with
  | .dn s c=>ci (cG L s) fun cells=>if c+(c8 v).length≤cells.length then K (hL L s (fF cells c (c8 v))) H else False
  | .ptr b g r c=>ci H[b]? fun blk=>blk.aE=g∧ci blk.rows[r]? fun row=>c+(c8 v).length≤row.length∧K L (H.set b {blk with rows:=blk.rows.set r (fF row c (c8 v))})
  | _=>False
 else False
theorem Hy {E:Env} {a:AV} {v:Value} (h:oX a=true) (hv:cY E a v):cY E.aW a v:=by
 cases a<;>first | exact hv | cases h
theorem As {E:Env} {a:AV} {v:Value} (h:fY a=true) (hv:be E a v):be E.aW a v:=by
 by_cases hf: ∃f caps,a= .fn f caps
 ·obtain⟨f,caps,rfl⟩:=hf
  obtain⟨vs,e,ab⟩:=hv
  refine⟨vs,e,ab.1,fun i x y hx ax=>Hy ?_ (ab.2 i x y hx ax)⟩
  have h':caps.all oX=true:=h
  exact List.all_eq_true.1 h' x (List.mem_of_getElem? hx)
 ·have aA:fY a=oX a:=by cases a<;>first | rfl | exact absurd ⟨_,_,rfl⟩ hf
  rw[ln fun f c e=>hf ⟨f,c,e⟩] at hv ⊢
  exact Hy (aA▸h) hv
theorem cY.one {E:Env} {a:AV} {v:Value} (h:oX a=true) (hv:cY E a v):v.oneCell'=true:=by
 cases a with
 | undef=>cases h
 | agg l=>cases h
 | tup l=>cases h
 | dn s c=>cases h
 | fn f c=>cases h
 | ref b g off n full=>
  rcases hv with⟨_,A,cap,rfl⟩ | ⟨_,⟨_,_,_,A,rfl⟩ | ⟨c,cap,_,rfl,_⟩⟩
  ·rfl
  ·rfl
  ·rfl
 | ptr b g r c=>
  rcases hv with⟨_,bl,o,rfl⟩ | ⟨_,bl,_,rfl⟩
  ·rfl
  ·rfl
 | _=>exact ar.one (show ar E.w E.PA E.PF _ v from hv) (by intro h;cases h)
theorem be.uY {E:Env} {a:AV} {v:Value} (h:fY a=true) (hv:be E a v):v.oneCell'=true:=by
 by_cases hf: ∃f caps,a= .fn f caps
 ·obtain⟨f,caps,rfl⟩:=hf
  obtain⟨vs,rfl,ab⟩:=hv
  rfl
 ·have aA:fY a=oX a:=by cases a<;>first | rfl | exact absurd ⟨_,_,rfl⟩ hf
  rw[ln fun f c e=>hf ⟨f,c,e⟩] at hv
  exact hv.one (aA▸h)
theorem Step.setRow {E:Env} {H:List Blk} (ag:SimH E H) {bl:Nat} (hb:E.dx bl∨E.hn bl) (ad:Array Value):Step E {E with w:=E.w.setRow bl ad}:=by
 have af: ∀c,E.PA c→c≠bl:=fun c hc e=>by
  subst e
  exact hb.elim (ag.fm _ hc) (ag.fx _ hc)
 have hk: ∀c,c≠bl→(E.w.setRow bl ad).heap[c]?=E.w.heap[c]?:=fun c hc=>setRow_other _ _ _ _ hc
 exact⟨⟨fun _ h=>h,fun _ h=>h,fun c hc=>hk c (af c hc),fun c hc=>hk c (af c (ag.ck c hc)),fun _=>Nat.le_refl _,fun _ _ h _=>⟨h,rfl,rfl⟩,fun _ _ h=>h⟩,rfl,rfl,rfl,
  by simp,fun c _ h1 h2=>hk c (fun e=>by subst e;exact hb.elim h1 h2),fun _ _ h=> .inl h,fun _ h=> .inl h,fun _ h=> .inl h,fun _ h=> .inl h⟩
theorem wU {E:Env} {v:AV} {u:Value} (hv:V2 E v u) (hs:(c8 v).all fY=true):aw (be E) (c8 v) u.cells.toList:=by
 by_cases hf: ∃l,v= .agg l
 ·obtain⟨l,rfl⟩:=hf
  obtain⟨vs,rfl,ab⟩:=hv
  exact ab
 ·have aA:c8 v=[v]:=by cases v<;>first | rfl | exact absurd ⟨_,rfl⟩ hf
  rw[ka fun l e=>hf ⟨l,e⟩] at hv
  rw[aA] at hs ⊢
  have h1:u.oneCell'=true:=hv.uY (by simpa using hs)
  have h2:u.cells= #[u]:=by cases u<;>first | rfl | cases h1
  rw[h2]
  exact aw.cons hv aw.nil
theorem GL {P:Program} {t:TypeId} {w:World} {bl o:Nat} {ad:Array Value} {ty:TypeId} {u:Value} (hi:(P.info? t).isSome=true) (an:u.cells.size=P.cellsOf t)
  (hw:w.heap[bl]?=some (.cells ad ty (0,0))) (br:o+u.cells.size≤ad.size) (h1: ∀x∈u.cells.toList,x.oneCell'=true):
  (Instr.storeAt t (.pointer (some ⟨bl,o,none⟩)) u).run P w= .ok () (w.setRow bl (ad.toList.take o++u.cells.toList++ad.toList.drop (o+u.cells.toList.length)).toArray):=by
 have:=run_storeCells_at (P:=P) bl o ty u.cells.toList 0 ad w hw (by simpa using br) h1
 simp only[Nat.add_zero] at this
 simp[Instr.storeAt,Instr.sureAddr,storeVar,run_sizeOf hi,an,this]
theorem qv {α:Type} {l m:List α} {c:Nat} (hc:c+m.length≤l.length) (j:Nat):
  (l.take c++m++l.drop (c+m.length))[j]?=if j<c then l[j]? else if j<c+m.length then m[j - c]? else l[j]?:=by
 by_cases h1:j<c
 ·rw[if_pos h1,List.append_assoc,List.getElem?_append_left (by simp;omega),List.getElem?_take,if_pos h1]
 ·rw[if_neg h1]
  by_cases h2:j<c+m.length
  ·rw[if_pos h2,List.getElem?_append_left (by simp;omega),List.getElem?_append_right (by simp;omega)]
   congr 1;simp;omega
  ·rw[if_neg h2,List.getElem?_append_right (by simp;omega),List.getElem?_drop]
   congr 1;simp;omega
theorem aw.fF {α β:Type} {R:α→β→Prop} {l m:List α} {dy dg:List β} (h:aw R l dy) (k:aw R m dg) {c:Nat} (hc:c+m.length≤l.length):
  aw R (l.take c++m++l.drop (c+m.length)) (dy.take c++dg++dy.drop (c+dg.length)):=by
 have h1:=h.1
 have df:=k.1
 refine⟨by simp;omega,fun i a b ai hb=> ?_⟩
 rw[qv hc] at ai
 rw[qv (by omega)] at hb
 rw[←df] at hb
 split at ai
 ·rename_i hi;rw[if_pos hi] at hb;exact h.2 i a b ai hb
 ·rename_i hi;rw[if_neg hi] at hb
  split at ai
  ·rename_i O;rw[if_pos O] at hb;exact k.2 _ a b ai hb
  ·rename_i O;rw[if_neg O] at hb;exact h.2 i a b ai hb
theorem ri (L:List (Nat×List AV)) (t s:Nat) (d:List AV):cG (hL L t d) s=if s=t then(cG L t).map (fun _=>d) else cG L s:=by
 induction L with
 | nil=>simp[hL,cG]
 | cons x L aT=>
  obtain⟨k,c⟩:=x
  by_cases h1:t=k
  ·subst h1
   by_cases h2:s=t
   ·simp[hL,cG,h2]
   ·simp[hL,cG,h2]
  ·by_cases h2:s=k
   ·subst h2
    have: ¬s=t:=fun e=>h1 e.symm
    simp[hL,cG,h1,this]
   ·simp only[hL,if_neg h1,cG,if_neg h2,aT]
theorem RU {P:Program} {t:TypeId} {x v:AV} {L:List (Nat×List AV)} {H:List Blk} {K:List (Nat×List AV)→List Blk→Prop} {E:Env} {fI iO:Value}
  (ag:SimH E H) (aY:SimL E L) (hx:V3 E x fI) (hv:V2 E v iO) (h:iu P t x v L H K):
  ∃L' H' E',K L' H'∧(Instr.storeAt t fI iO).run P E.w= .ok () E'.w∧Step E E'∧SimH E' H'∧SimL E' L'∧E'.mL=E.mL:=by
 unfold iu at h
 split at h
 case isFalse=>exact h.elim
 case isTrue hc=>
 obtain⟨hi,an,hs⟩:=hc
 have pL:=wU hv hs
 have af:aw (be E.aW) (c8 v) iO.cells.toList:=⟨pL.1,fun i a b ai hb=>As (List.all_eq_true.1 hs a (List.mem_of_getElem? ai)) (pL.2 i a b ai hb)⟩
 have h1: ∀y∈iO.cells.toList,y.oneCell'=true:=by
  intro y ax
  obtain⟨i,hi⟩:=List.mem_iff_getElem?.1 ax
  have tY:i<(c8 v).length:=by rw[pL.1];exact(List.getElem?_eq_some_iff.1 hi).1
  exact(pL.2 i _ y (List.getElem?_eq_getElem tY) hi).uY (List.all_eq_true.1 hs _ (List.getElem_mem tY))
 have bz:iO.cells.size=P.cellsOf t:=by rw[←an,pL.1];simp
 have hlen:iO.cells.toList.length=(c8 v).length:=pL.1.symm
 cases x with
 | dn s c=>
  obtain⟨bl,hm,rfl⟩:=hx.r0
  obtain⟨cells,ad,ty,aJ,hw,ab⟩:=aY s bl hm
  have h':ci (cG L s) fun cells=>if c+(c8 v).length≤cells.length then K (hL L s (fF cells c (c8 v))) H else False:=h
  rw[aJ] at h'
  have xS:if c+(c8 v).length≤cells.length then K (hL L s (fF cells c (c8 v))) H else False:=h'
  split at xS
  case isFalse=>exact xS.elim
  case isTrue hle=>
  have Md:cells.length=ad.size:=by rw[ab.1];simp
  have dH:=GL (P:=P) (t:=t) (o:=c) hi bz hw (by rw[←Md];have:iO.cells.size=(c8 v).length:=by rw[←hlen];simp
                                                omega) h1
  have ft:=Step.setRow ag (.inr ⟨s,hm⟩) (ad.toList.take c++iO.cells.toList++ad.toList.drop (c+iO.cells.toList.length)).toArray
  have bV: ∀b bB,E.m b=some (some bB)→bB≠bl:=fun b bB hb e=>by subst e;exact ag.ey b s bB hb hm
  refine⟨_,_,_,xS,dH,ft,?_,?_,rfl⟩
  ·exact{ag with
    dz:=fun bB hC=>(ag.dz bB hC).same (ft.le.wf bB hC)
    heap:=fun b bB hb=>by
     obtain⟨blk,ba,fz,q1,bJ,q2,q3,q4,cI,c4⟩:=ag.heap b bB hb
     refine⟨blk,ba,fz,q1,bJ,?_,q3,q4,cI,fun i j row a aa O=> ?_⟩
     ·show(E.w.setRow bl _).heap[bB]?=_
      rw[setRow_other _ _ _ _ (bV b bB hb)];exact q2
     ·obtain⟨u,hu,c0⟩:=c4 i j row a aa O
      exact⟨u,hu,c0.le ft.le.aW⟩
    cu:=fun bB hc=>by rw[show(E.w.setRow bl _).heap.size=_ from setRow_size _ _ _];exact ag.cu bB hc
    dB:=fun bB hc=>by rw[show(E.w.setRow bl _).heap.size=_ from setRow_size _ _ _];exact ag.dB bB hc
    et:=fun bB hc=>by rw[show(E.w.setRow bl _).heap.size=_ from setRow_size _ _ _];exact ag.et bB hc}
  ·intro fZ bB js
   by_cases he:fZ=s
   ·subst he
    obtain rfl:bB=bl:=by
     have:E.mL fZ=some bB:=js
     rw[hm] at this;exact(Option.some.inj this).symm
    refine⟨fF cells c (c8 v),_,ty,?_,setRow_heap _ _ _ _ _ _ hw,?_⟩
    ·rw[ri,if_pos rfl,aJ];rfl
    ·have:=aw.fF (ab.mono fun _ _ k=>k.le ft.le.aW) (af.mono fun _ _ k=>k.le ft.le.aW) hle
     simpa[fF] using this
   ·obtain⟨eE,ba,fz,q1,q2,q3⟩:=aY fZ bB js
    have yh:bB≠bl:=fun e=>by subst e;exact he (ag.gk fZ s bB js hm)
    refine⟨eE,ba,fz,by rw[ri,if_neg he];exact q1,?_,q3.mono fun _ _ k=>k.le ft.le.aW⟩
    show(E.w.setRow bl _).heap[bB]?=_
    rw[setRow_other _ _ _ _ yh];exact q2
 | ptr b g r c=>
  obtain⟨blk,hb,aJ,h2⟩:=dp (show ci H[b]? fun blk=>blk.aE=g∧ci blk.rows[r]? fun row=>c+(c8 v).length≤row.length∧K L (H.set b {blk with rows:=blk.rows.set r (fF row c (c8 v))}) from h)
  obtain⟨row,di,hle,hK⟩:=dp h2
  have gN:=ag.cS b blk hb
  obtain⟨bl,hm,rfl⟩:=hx.u6 (gN.trans aJ)
  obtain⟨blk',ad,ty,e8,jr,hw,hY,hX,ec⟩:=ag.heap b bl hm
  obtain rfl:blk=blk':=by rw[hb] at e8;exact Option.some.inj e8
  have lO:row.length=E.sz b:=ec.1 r row di
  have SW:r<blk.rows.length:=(List.getElem?_eq_some_iff.1 di).1
  have L8:r*E.sz b+E.sz b≤ad.size:=by
   rw[hY];calc r*E.sz b+E.sz b=(r+1)*E.sz b:=by rw[Nat.add_mul,Nat.one_mul]
    _≤E.cp b*E.sz b:=Nat.mul_le_mul_right _ (by omega)
  have lQ:iO.cells.size=(c8 v).length:=by rw[←hlen];simp
  have dH:=GL (P:=P) (t:=t) (o:=r*E.sz b+c) hi bz hw (by omega) h1
  have ft:=Step.setRow ag (.inl ⟨b,hm⟩) (ad.toList.take (r*E.sz b+c)++iO.cells.toList++ad.toList.drop (r*E.sz b+c+iO.cells.toList.length)).toArray
  have lK:b<H.length:=(List.getElem?_eq_some_iff.1 hb).1
  refine⟨_,_,_,hK,dH,ft,?_,?_,rfl⟩
  ·exact{ag with
    dz:=fun bB hC=>(ag.dz bB hC).same (ft.le.wf bB hC)
    heap:=fun cJ bB iC=>by
     by_cases he:cJ=b
     ·subst he
      obtain rfl:bB=bl:=by
       have:E.m cJ=some (some bB):=iC
       rw[hm] at this;exact(Option.some.inj (Option.some.inj this)).symm
      refine⟨{blk with rows:=blk.rows.set r (fF row c (c8 v))},_,ty,by rw[List.getElem?_set_self lK],jr,setRow_heap _ _ _ _ _ _ hw,?_,by simpa using hX,?_,?_⟩
      ·simp;omega
      ·intro i row' c0
       rw[List.getElem?_set] at c0
       split at c0
       ·rename_i ya
        cases c0
        simp[fF];omega
       ·exact ec.1 i row' c0
      ·intro i j row' a c0 ai
       have iD: ∀k,(ad.toList.take (r*E.sz cJ+c)++iO.cells.toList++ad.toList.drop (r*E.sz cJ+c+iO.cells.toList.length)).toArray[k]?=if k<r*E.sz cJ+c then ad.toList[k]? else if k<r*E.sz cJ+c+iO.cells.toList.length then iO.cells.toList[k - (r*E.sz cJ+c)]? else ad.toList[k]?:=by
        intro k
        rw[List.getElem?_toArray,qv (by simp;omega)]
       rw[List.getElem?_set] at c0
       split at c0
       ·rename_i ya
        cases c0
        subst ya
        have pS:=qv hle j
        unfold fF at ai
        rw[pS] at ai
        split at ai
        ·rename_i O
         obtain⟨u,hu,eL⟩:=ec.2 r j row a di ai
         refine⟨u,?_,eL.le ft.le.aW⟩
         show(List.toArray _)[r*E.sz cJ+j]?=_
         rw[iD,if_pos (by omega)];simpa using hu
        ·rename_i O
         split at ai
         ·rename_i m9
          obtain⟨u,hu,eL⟩:=af.get ai
          refine⟨u,?_,eL.le ft.le.aW⟩
          show(List.toArray _)[r*E.sz cJ+j]?=_
          rw[iD,if_neg (by omega),if_pos (by omega),show r*E.sz cJ+j - (r*E.sz cJ+c)=j - c by omega];exact hu
         ·rename_i m9
          obtain⟨u,hu,eL⟩:=ec.2 r j row a di ai
          refine⟨u,?_,eL.le ft.le.aW⟩
          show(List.toArray _)[r*E.sz cJ+j]?=_
          rw[iD,if_neg (by omega),if_neg (by omega)];simpa using hu
       ·rename_i ya
        have hZ:j<E.sz cJ:=by rw[←ec.1 i row' c0];exact(List.getElem?_eq_some_iff.1 ai).1
        obtain⟨u,hu,eL⟩:=ec.2 i j row' a c0 ai
        refine⟨u,?_,eL.le ft.le.aW⟩
        show(List.toArray _)[i*E.sz cJ+j]?=_
        rw[iD]
        rcases Nat.lt_or_ge i r with ay | eo
        ·have:i*E.sz cJ+E.sz cJ≤r*E.sz cJ:=by
          calc i*E.sz cJ+E.sz cJ=(i+1)*E.sz cJ:=by rw[Nat.add_mul,Nat.one_mul]
           _≤r*E.sz cJ:=Nat.mul_le_mul_right _ (by omega)
         rw[if_pos (by omega)];simpa using hu
        ·have:r*E.sz cJ+E.sz cJ≤i*E.sz cJ:=by
          calc r*E.sz cJ+E.sz cJ=(r+1)*E.sz cJ:=by rw[Nat.add_mul,Nat.one_mul]
           _≤i*E.sz cJ:=Nat.mul_le_mul_right _ (by omega)
         rw[if_neg (by omega),if_neg (by omega)];simpa using hu
     ·obtain⟨q8,pw,ty2,q1,bJ,q2,q3,q4,cI,c4⟩:=ag.heap cJ bB iC
      have bV:bB≠bl:=fun e=>by subst e;exact he (ag.ee cJ b bB iC hm)
      refine⟨q8,pw,ty2,by rw[List.getElem?_set_ne (fun e=>he e.symm)];exact q1,bJ,?_,q3,q4,cI,fun i j row a aa O=> ?_⟩
      ·show(E.w.setRow bl _).heap[bB]?=_
       rw[setRow_other _ _ _ _ bV];exact q2
      ·obtain⟨u,hu,c0⟩:=c4 i j row a aa O
       exact⟨u,hu,c0.le ft.le.aW⟩
    cS:=fun cJ q8 iC=>by
     by_cases he:b=cJ
     ·subst he
      rw[List.getElem?_set_self lK] at iC
      cases iC
      exact ag.cS b blk hb
     ·rw[List.getElem?_set_ne he] at iC
      exact ag.cS cJ q8 iC
    e0:=fun cJ iC=>by
     obtain⟨q8,q,gn⟩:=ag.e0 cJ iC
     by_cases he:b=cJ
     ·subst he
      rw[hm] at iC;cases iC
     ·exact⟨q8,by rw[List.getElem?_set_ne he];exact q,gn⟩
    fresh:=fun cJ iC=>ag.fresh cJ (by simpa using iC)
    cu:=fun bB hc=>by rw[show(E.w.setRow bl _).heap.size=_ from setRow_size _ _ _];exact ag.cu bB hc
    dB:=fun bB hc=>by rw[show(E.w.setRow bl _).heap.size=_ from setRow_size _ _ _];exact ag.dB bB hc
    et:=fun bB hc=>by rw[show(E.w.setRow bl _).heap.size=_ from setRow_size _ _ _];exact ag.et bB hc}
  ·intro fZ bB js
   obtain⟨eE,ba,fz,q1,q2,q3⟩:=aY fZ bB js
   have yh:bB≠bl:=fun e=>by subst e;exact ag.ey b fZ bB hm js
   refine⟨eE,ba,fz,q1,?_,q3.mono fun _ _ k=>k.le ft.le.aW⟩
   show(E.w.setRow bl _).heap[bB]?=_
   rw[setRow_other _ _ _ _ yh];exact q2
 | _=>exact h.elim
structure h9 (E E':Env):Prop where
 step:Step E E'
 m:E'.m=E.m
 mL:E'.mL=E.mL
 aE:E'.aE=E.aE
 sz:E'.sz=E.sz
 cp:E'.cp=E.cp
 b3: ∀c,c<E.w.heap.size→E'.w.heap[c]?=E.w.heap[c]?
 dC: ∀c,E'.PA c→E.PA c∨(E.w.heap.size≤c∧c<E'.w.heap.size)
 ck: ∀c,E'.PF c→E'.PA c
 dz: ∀c,E'.PF c→Plain E'.w c
theorem h9.refl {E:Env} {H:List Blk} (h:SimH E H):h9 E E:=⟨.refl E,rfl,rfl,rfl,rfl,rfl,fun _ _=>rfl,fun _ h=> .inl h,h.ck,h.dz⟩
theorem h9.simH {E E':Env} {H:List Blk} (q:h9 E E') (h:SimH E H):SimH E' H where
 heap:=fun b c hb=>by
  rw[q.m] at hb
  obtain⟨blk,ad,ty,q1,bJ,q2,q3,q4,cI,c4⟩:=h.heap b c hb
  refine⟨blk,ad,ty,q1,by rw[q.sz];exact bJ,?_,by rw[q.cp,q.sz];exact q3,by rw[q.cp];exact q4,by rw[q.sz];exact cI,fun i j row a aa O=> ?_⟩
  ·rw[q.b3 c (h.dB c ⟨b,hb⟩)];exact q2
  ·obtain⟨u,hu,c0⟩:=c4 i j row a aa O
   exact⟨u,by rw[q.sz];exact hu,c0.le q.step.le.aW⟩
 cS:=by rw[q.aE];exact h.cS
 e0:=by rw[q.m,q.sz];exact h.e0
 fresh:=by rw[q.m,q.aE];exact h.fresh
 ee:=by rw[q.m];exact h.ee
 gk:=by rw[q.mL];exact h.gk
 ey:=by rw[q.m,q.mL];exact h.ey
 fm:=fun c hc ⟨b,hb⟩=>by
  rw[q.m] at hb
  rcases q.dC c hc with hc | ⟨hc,_⟩
  ·exact h.fm c hc ⟨b,hb⟩
  ·have:=h.dB c ⟨b,hb⟩;omega
 fx:=fun c hc ⟨b,hb⟩=>by
  rw[q.mL] at hb
  rcases q.dC c hc with hc | ⟨hc,_⟩
  ·exact h.fx c hc ⟨b,hb⟩
  ·have:=h.et c ⟨b,hb⟩;omega
 ck:=q.ck
 dz:=q.dz
 cu:=fun c hc=>by
  rcases q.dC c hc with hc | ⟨_,hc⟩
  ·exact Nat.lt_of_lt_of_le (h.cu c hc) q.step.size
  ·exact hc
 dB:=fun c ⟨b,hb⟩=>by rw[q.m] at hb;exact Nat.lt_of_lt_of_le (h.dB c ⟨b,hb⟩) q.step.size
 et:=fun c ⟨b,hb⟩=>by rw[q.mL] at hb;exact Nat.lt_of_lt_of_le (h.et c ⟨b,hb⟩) q.step.size
theorem h9.simL {E E':Env} {H:List Blk} {L:List (Nat×List AV)} (q:h9 E E') (h:SimH E H) (l:SimL E L):SimL E' L:=fun t c hm=>by
 rw[q.mL] at hm
 obtain⟨cells,ad,ty,q1,q2,q3⟩:=l t c hm
 exact⟨cells,ad,ty,q1,by rw[q.b3 c (h.et c ⟨t,hm⟩)];exact q2,q3.mono fun _ _ k=>k.le q.step.le.aW⟩
def s_ (op:BinOp) (k:IntKind) (a b:Int) (K:AV→Prop):Prop:=match op with
 | .add=>K (.int k (k.wrap (a+b)))
 | .sub=>K (.int k (k.wrap (a - b)))
 | .mul=>K (.int k (k.wrap (a*b)))
 | .quo=>b≠0∧K (.int k (k.wrap (a.tdiv b)))
 | .rem=>b≠0∧K (.int k (a.tmod b))
 | .and=>K (.int k (k.wrap (BitVec.ofInt k.bits a&&&BitVec.ofInt k.bits b).toNat))
 | .eql=>K (.bool (a==b))
 | .neq=>K (.bool (a !=b))
 | .lss=>K (.bool (decide (a<b)))
 | .leq=>K (.bool (decide (a≤b)))
 | .gtr=>K (.bool (decide (a>b)))
 | .geq=>K (.bool (decide (a ≥ b)))
 | _=>False
def two (P:Program) (t:TypeId):Bool:=
 match P.underlying t with
 | some (.struct cF)=> !P.stoodInHeld t&& !P.eqGuardType P.depth t&&(match cF.toList with
  | [f,g]=>f.name != "_" &&g.name != "_" &&f.offset==0&&g.offset==1&&(P.underlying f.type matches some (.int .i64))&&(P.underlying g.type matches some (.int .i64))
  | _=>false)
 | _=>false
def ta (op:BinOp) (k:IntKind) (a:Int) (gl:IntKind) (b:Int) (K:AV→Prop):Prop:=match op with
 | .shl=>0≤b∧K (.int k (k.wrap (a*2 ^ (min b.toNat k.bits))))
 | .shr=>0≤b∧K (.int k (a.fdiv (2 ^ (min b.toNat k.bits))))
 | op=>if k=gl then s_ op k a b K else False
def Ea (P:Program) (t:TypeId):Bool:=match P.underlying t with
 | some .bool=>true
 | _=>false
def wB (P:Program) (op:BinOp) (t:TypeId) (a b:Bool) (K:AV→Prop):Prop:=if Ea P t=true then(match op with
  | .eql=>K (.bool (a==b))
  | .neq=>K (.bool (a !=b))
  | _=>False) else False
def wD (op:BinOp) (a b:ByteArray) (K:AV→Prop):Prop:=match op with
  | .add=>a.size+b.size≤9223372036854775807∧K (.str (a++b))
  | .eql=>K (.bool (a.toList==b.toList))
  | .neq=>K (.bool (!(a.toList==b.toList)))
  | _=>False
def wE (op:BinOp) (a b c d:Int) (K:AV→Prop):Prop:=match op with
  | .eql=>K (.bool (a==c&&b==d))
  | .neq=>K (.bool (!(a==c&&b==d)))
  | _=>False
def qA:List AV→Option (Int×Int)
 | [.int .i64 a,.int .i64 b]=>some (a,b)
 | _=>none
def fU (P:Program) (t:TypeId):Option TypeId:=match P.underlying t with
 | some (.slice e)=>some e
 | _=>none
def lS:Operand→Bool
 | .const (.slice none 0 0)=>true
 | _=>false
def wC (P:Program) (op:BinOp) (t:TypeId) (rows:List (List AV)) (mR:Bool) (K:AV→Prop):Prop:=
 if mR=true∧(fU P t).isSome=true then(match op with
  | .eql=>(rows≠[]→K (.bool false))∧(rows=[]→ ∀b,K (.bool b))
  | _=>False) else False
def mV (P:Program) (op:BinOp) (t:TypeId) (x y:AV) (mR:Bool) (K:AV→Prop):Prop:=match x with
 | .int k a=>(match y with
  | .int gl b=>ta op k a gl b K
  | _=>False)
 | .bool a=>(match y with
  | .bool b=>wB P op t a b K
  | _=>False)
 | .str a=>(match y with
  | .str b=>wD op a b K
  | _=>False)
 | .agg l=>(match y with
  | .agg m=>if two P t=true then ci (qA l) fun p=>ci (qA m) fun q=>wE op p.1 p.2 q.1 q.2 K else False
  | _=>False)
 | .av rows _ _=>wC P op t rows mR K
 | _=>False
theorem xq {op:BinOp} {t:TypeId} {x y:Operand} {k gl:IntKind} {a b:Int} {P:Program} {w:World}:(eqGuard op t x y (.int k a) (.int gl b)).run P w= .ok () w:=by
 unfold eqGuard;cases op<;>rfl
theorem B_ {op:BinOp} {t:TypeId} {x y:Operand} {a b:Bool} {P:Program} {w:World}:(eqGuard op t x y (.bool a) (.bool b)).run P w= .ok () w:=by
 unfold eqGuard;cases op<;>rfl
theorem xr {op:BinOp} {t:TypeId} {x y:Operand} {a b:ByteArray} {P:Program} {w:World}:(eqGuard op t x y (.string a) (.string b)).run P w= .ok () w:=by
 unfold eqGuard;cases op<;>rfl
theorem Ke {op:BinOp} {t:TypeId} {x y:Operand} {A B:Option Addr} {n m c d:Nat} {P:Program} {w:World}:(eqGuard op t x y (.slice A n c) (.slice B m d)).run P w= .ok () w:=by
 unfold eqGuard;cases op<;>rfl
theorem B9 {op:BinOp} {t:TypeId} {x y:Operand} {A B:Array Value} {P:Program} {w:World} (h:P.eqGuardType P.depth t=false):(eqGuard op t x y (.agg A) (.agg B)).run P w= .ok () w:=by
 unfold eqGuard;cases op<;>first | rfl | simp[h]
theorem Q2 {P:Program} {w:World} {op:BinOp} {t:TypeId} {k:IntKind} {a b:Int} {K:AV→Prop} (h:s_ op k a b K):
  ∃r u,K r∧(binOp op t (.int k a) (.int k b)).run P w= .ok u w∧ ∀E:Env,V3 E r u:=by
 cases op<;>simp only[s_] at h
 case add=>exact⟨_,_,h,by simp[binOp,Op.intArith],fun E=>ar.int _ _⟩
 case sub=>exact⟨_,_,h,by simp[binOp,Op.intArith],fun E=>ar.int _ _⟩
 case mul=>exact⟨_,_,h,by simp[binOp,Op.intArith],fun E=>ar.int _ _⟩
 case quo=>exact⟨_,_,h.2,by simp[binOp,Op.intDiv,h.1],fun E=>ar.int _ _⟩
 case rem=>exact⟨_,_,h.2,by simp[binOp,Op.intDiv,h.1],fun E=>ar.int _ _⟩
 case and=>exact⟨_,_,h,by simp[binOp,Op.intBits],fun E=>ar.int _ _⟩
 case eql=>exact⟨_,_,h,by simp[binOp,Op.intCmp],fun E=>ar.bool _⟩
 case neq=>exact⟨_,_,h,by simp[binOp,Op.intCmp],fun E=>ar.bool _⟩
 case lss=>exact⟨_,_,h,by simp[binOp,Op.intCmp],fun E=>ar.bool _⟩
 case leq=>exact⟨_,_,h,by simp[binOp,Op.intCmp],fun E=>ar.bool _⟩
 case gtr=>exact⟨_,_,h,by simp[binOp,Op.intCmp],fun E=>ar.bool _⟩
 case geq=>exact⟨_,_,h,by simp[binOp,Op.intCmp],fun E=>ar.bool _⟩
theorem HM {P:Program} {t:TypeId} (h:two P t=true): ∃f g:Field,P.underlying t=some (.struct (P.fieldsOf t))∧(P.fieldsOf t).toList=[f,g]∧P.stoodInHeld t=false∧P.eqGuardType P.depth t=false∧
  f.name≠ "_" ∧g.name≠ "_" ∧f.offset=0∧g.offset=1∧P.underlying f.type=some (.int .i64)∧P.underlying g.type=some (.int .i64):=by
 unfold two at h
 split at h
 ·rename_i cF jQ
  have hf:P.fieldsOf t=cF:=by simp[Program.fieldsOf,jQ]
  simp only[Bool.and_eq_true,Bool.not_eq_true'] at h
  obtain⟨⟨h1,h2⟩,ao⟩:=h
  split at ao
  ·rename_i f g ak
   simp only[Bool.and_eq_true,bne_iff_ne,ne_eq,beq_iff_eq] at ao
   obtain⟨⟨⟨⟨⟨q1,q2⟩,q3⟩,q4⟩,cI⟩,c4⟩:=ao
   refine⟨f,g,by rw[hf];exact jQ,by rw[hf];exact ak,h1,h2,q1,q2,q3,q4,?_,?_⟩
   ·split at cI
    ·assumption
    ·cases cI
   ·split at c4
    ·assumption
    ·cases c4
  ·cases ao
 ·cases h
theorem GM {P:Program} {t:TypeId} (h:two P t=true) (a b c d:Int) (w:World):
  (Op.equal t (.agg #[.int .i64 a,.int .i64 b]) (.agg #[.int .i64 c,.int .i64 d])).run P w= .ok (a==c&&b==d) w:=by
 obtain⟨f,g,h1,h2,ao,a8,cw,cZ,iT,mm,n7,rl⟩:=HM h
 show(Op.equalIn (9999+1) t _ _).run P w=_
 rw[run_equalIn_struct w 9999 t _ _ h1 ao,h2]
 have dr: ∀(fh:TypeId) (ad:Array Value) (o:Nat) (u:Value),P.underlying fh=some (.int .i64)→ad[o]?=some u→(part fh ad o).run P w= .ok u w:=by
  intro fh ad o u hu hc
  simp[part,Go.isAgg,run_underlying hu,hc]
 simp only[Op.eqFields,if_pos cw,if_pos cZ,iT,mm,Sem.run_bind]
 rw[dr f.type #[.int .i64 a,.int .i64 b] 0 (.int .i64 a) n7 rfl]
 simp only[Result.andThen_ok]
 rw[dr f.type #[.int .i64 c,.int .i64 d] 0 (.int .i64 c) n7 rfl]
 simp only[Result.andThen_ok]
 rw[show(9999:Nat)=9998+1 from rfl,run_equalIn_int w 9998 f.type .i64 .i64 a c n7]
 simp only[Result.andThen_ok]
 cases SK:(a==c)
 ·simp
 ·simp only[Bool.not_true,Bool.false_eq_true,if_false,Sem.run_bind]
  rw[dr g.type #[.int .i64 a,.int .i64 b] 1 (.int .i64 b) rl rfl]
  simp only[Result.andThen_ok]
  rw[dr g.type #[.int .i64 c,.int .i64 d] 1 (.int .i64 d) rl rfl]
  simp only[Result.andThen_ok]
  rw[run_equalIn_int w 9998 g.type .i64 .i64 b d rl]
  cases SM:(b==d)<;>simp
theorem V3.HL {E:Env} {a b:Int} {v:Value} (h:V3 E (.agg [.int .i64 a,.int .i64 b]) v):v= .agg #[.int .i64 a,.int .i64 b]:=by
 obtain⟨vs,rfl,ab⟩:=(h:V2 E (.agg [.int .i64 a,.int .i64 b]) v)
 obtain⟨x,vs,rfl,hx,ab⟩:=ab.cons_inv
 obtain⟨y,vs,rfl,ax,ab⟩:=ab.cons_inv
 obtain rfl:=ab.jZ
 have gi:ar E.w E.PA E.PF (.int .i64 a) x:=hx
 have Na:ar E.w E.PA E.PF (.int .i64 b) y:=ax
 cases gi;cases Na;rfl
theorem HK {l:List AV} {p:Int×Int} (h:qA l=some p):l=[.int .i64 p.1,.int .i64 p.2]:=by
 unfold qA at h
 split at h
 ·cases h;rfl
 ·cases h
theorem m0 {P:Program} {t e:TypeId} (h:fU P t=some e):P.underlying t=some (.slice e):=by
 unfold fU at h
 split at h
 ·cases h;assumption
 ·cases h
theorem IR {P:Program} {op:BinOp} {t:TypeId} {X Y:Operand} {AN qE:AV} {fI vL:Value} {E:Env} {K:AV→Prop}
  {mR:Bool} (hx:V3 E AN fI) (ax:V3 E qE vL) (yx:mR=true→vL= .slice none 0 0) (h:mV P op t AN qE mR K):
  ∃r u,K r∧(do eqGuard op t X Y fI vL;binOp op t fI vL:Sem Value).run P E.w= .ok u E.w∧V3 E r u:=by
 cases AN with
 | int k a=>
  cases qE with
  | int gl b=>
   replace h:ta op k a gl b K:=h
   obtain rfl:=hx.jU
   obtain rfl:=ax.jU
   cases op
   case shl=>
    obtain⟨hb,h⟩:=h
    have e8: ¬b<0:=by omega
    exact⟨_,_,h,by simp[xq,binOp,Op.shift,e8],ar.int _ _⟩
   case shr=>
    obtain⟨hb,h⟩:=h
    have e8: ¬b<0:=by omega
    exact⟨_,_,h,by simp[xq,binOp,Op.shift,e8],ar.int _ _⟩
   all_goals
    simp only[ta] at h
    split at h
    ·rename_i hk
     subst hk
     obtain⟨r,u,hK,aa,hv⟩:=Q2 (P:=P) (w:=E.w) (t:=t) h
     exact⟨r,u,hK,by simp only[Sem.run_bind,xq,Result.andThen_ok,aa],hv E⟩
    ·exact h.elim
  | _=>exact h.elim
 | bool a=>
  cases qE with
  | bool b=>
   replace h:wB P op t a b K:=h
   obtain rfl:=hx.jD
   obtain rfl:=ax.jD
   unfold wB at h
   split at h
   ·rename_i hu
    have jt:P.underlying t=some .bool:=by
     unfold Ea at hu
     split at hu
     ·assumption
     ·cases hu
    cases op<;>first | exact h.elim | skip
    case eql=>exact⟨_,_,h,by simp only[Sem.run_bind,B_,Result.andThen_ok,binOp,Op.equal];rw[show Op.maxDepth=9999+1 from rfl,run_equalIn_bool' E.w 9999 t a b jt];rfl,ar.bool _⟩
    case neq=>exact⟨_,_,h,by simp only[Sem.run_bind,B_,Result.andThen_ok,binOp,Op.equal];rw[show Op.maxDepth=9999+1 from rfl,run_equalIn_bool' E.w 9999 t a b jt];rfl,ar.bool _⟩
   ·exact h.elim
  | _=>exact h.elim
 | str a=>
  cases qE with
  | str b=>
   replace h:wD op a b K:=h
   obtain rfl:=hx.qx
   obtain rfl:=ax.qx
   cases op<;>first | exact h.elim | skip
   case add=>
    obtain⟨ak,h⟩:=h
    have: ¬((a.size+b.size:Nat):Int)>IntKind.i64.max:=by
     have:IntKind.i64.max=9223372036854775807:=by decide
     rw[this];omega
    exact⟨_,_,h,by simp only[Sem.run_bind,xr,Result.andThen_ok,binOp,Op.stringOp];rw[if_neg this];rfl,ar.str _⟩
   case eql=>exact⟨_,_,h,by simp only[Sem.run_bind,xr,Result.andThen_ok,binOp,Op.stringOp];rfl,ar.bool _⟩
   case neq=>exact⟨_,_,h,by simp only[Sem.run_bind,xr,Result.andThen_ok,binOp,Op.stringOp];rfl,ar.bool _⟩
  | _=>exact h.elim
 | agg l=>
  cases qE with
  | agg m=>
   replace h:if two P t=true then ci (qA l) fun p=>ci (qA m) fun q=>wE op p.1 p.2 q.1 q.2 K else False:=h
   split at h
   ·rename_i aC
    obtain⟨⟨a,b⟩,ab,h⟩:=dp h
    obtain⟨⟨c,d⟩,al,h⟩:=dp h
    obtain rfl:=HK ab
    obtain rfl:=HK al
    obtain rfl:=hx.HL
    obtain rfl:=ax.HL
    obtain⟨f,g,h1,h2,ao,a8,_⟩:=HM aC
    cases op<;>first | exact h.elim | skip
    case eql=>exact⟨_,_,h,by simp only[Sem.run_bind,B9 a8,Result.andThen_ok,binOp,GM aC];rfl,ar.bool _⟩
    case neq=>exact⟨_,_,h,by simp only[Sem.run_bind,B9 a8,Result.andThen_ok,binOp,GM aC];rfl,ar.bool _⟩
   ·exact h.elim
  | _=>exact h.elim
 | av rows cn fr=>
  replace h:wC P op t rows mR K:=h
  unfold wC at h
  split at h
  ·rename_i hc
   obtain⟨af,he⟩:=hc
   obtain⟨e,he⟩:=Option.isSome_iff_exists.1 he
   have hu:=m0 he
   obtain rfl:=yx af
   have gi:ar E.w E.PA E.PF (.av rows cn fr) fI:=hx
   cases gi with
   | @av _ _ _ _ _ _ A cap sz vs dc c2 dS bz cA hrel=>
   have dH:(do eqGuard op t X Y (.slice A rows.length cap) (.slice none 0 0);binOp .eql t (.slice A rows.length cap) (.slice none 0 0):Sem Value).run P E.w= .ok (.bool A.isNone) E.w:=by
    simp only[Sem.run_bind,Ke,Result.andThen_ok,binOp,Op.equal]
    rw[show Op.maxDepth=9999+1 from rfl]
    generalize 9999=d
    simp only[Op.equalIn,Sem.run_bind,run_underlying hu,Result.andThen_ok]
    cases A<;>rfl
   cases op<;>first | exact h.elim | skip
   case eql=>
    obtain⟨h1,h2⟩:=h
    by_cases aa:rows=[]
    ·exact⟨_,_,h2 aa A.isNone,dH,ar.bool _⟩
    ·have:0<rows.length:=by cases rows<;>simp_all
     obtain⟨c,o,rfl,_⟩:=cA this
     exact⟨_,_,h1 aa,dH,ar.bool _⟩
  ·exact h.elim
 | _=>exact h.elim
theorem CC (off:Nat): ∀(l:List Value) (k:Nat) (cells:Array Value),off+k+l.length≤cells.size→
  (((l.zipIdx k).foldl (fun ad (x:Value×Nat)=>ad.setIfInBounds (off+x.2) x.1) cells).size=cells.size∧
  ∀i,((l.zipIdx k).foldl (fun ad (x:Value×Nat)=>ad.setIfInBounds (off+x.2) x.1) cells)[i]?=if i<off+k then cells[i]? else if i<off+k+l.length then l[i - (off+k)]? else cells[i]?)
 | [],k,cells,_=>⟨rfl,fun i=>by simp;omega⟩
 | v::l,k,cells,h=>by
  have h':off+(k+1)+l.length≤(cells.setIfInBounds (off+k) v).size:=by simp at h ⊢;omega
  obtain⟨h1,h2⟩:=CC off l (k+1) (cells.setIfInBounds (off+k) v) h'
  refine⟨by simp only[List.zipIdx_cons,List.foldl_cons];rw[h1];simp,fun i=> ?_⟩
  simp only[List.zipIdx_cons,List.foldl_cons]
  rw[h2 i]
  simp only[Array.getElem?_setIfInBounds,List.length_cons] at*
  by_cases J:i<off+k
  ·rw[if_pos (by omega),if_neg (by omega),if_pos J]
  ·by_cases a2:i=off+k
   ·subst a2
    rw[if_pos (by omega),if_pos rfl,if_pos (by omega),if_neg (by omega),if_pos (by omega)]
    simp
   ·by_cases a3:i<off+(k+1)+l.length
    ·rw[if_neg (by omega),if_pos a3,if_neg J,if_pos (by omega),show i - (off+k)=(i - (off+(k+1)))+1 by omega]
     simp
    ·rw[if_neg (by omega),if_neg a3,if_neg (by omega),if_neg J,if_neg (by omega)]
def kN (pl:Nat→Option (Nat×Nat)) (cells:List AV):List (Nat×AV)→Option (List AV)
 | []=>some cells
 | (i,v)::rest=>match pl i with
  | none=>none
  | some (off,size)=>if(c8 v).length=size∧off+(c8 v).length≤cells.length∧(c8 v).all fY=true then kN pl (fF cells off (c8 v)) rest else none
theorem tJ {E:Env} {pl:Nat→Option (Nat×Nat)}: ∀{parts:List (Nat×AV)} {gU:List (Nat×Value)} {cells:List AV} {nA:Array Value} {r:List AV},
  aw (fun a b=>a.1=b.1∧V2 E a.2 b.2) parts gU→aw (be E.aW) cells nA.toList→kN pl cells parts=some r→ ∃fg,Instr.fill pl nA gU=some fg∧aw (be E.aW) r fg.toList
 | [],gU,cells,nA,r,ab,hc,h=>by
  obtain rfl:=ab.jZ
  cases h
  exact⟨nA,rfl,hc⟩
 | (i,v)::rest,gU,cells,nA,r,ab,hc,h=>by
  obtain⟨⟨gv,u⟩,S7,rfl,⟨hi,hv⟩,ul⟩:=ab.cons_inv
  simp only at hi hv
  subst hi
  unfold kN at h
  split at h
  ·cases h
  ·rename_i off size pQ
   split at h
   ·rename_i rz
    obtain⟨h1,h2,ao⟩:=rz
    have oe:=wU hv ao
    have Mc:aw (be E.aW) (c8 v) u.cells.toList:=⟨oe.1,fun i a b ai hb=>As (List.all_eq_true.1 ao a (List.mem_of_getElem? ai)) (oe.2 i a b ai hb)⟩
    have bz:u.cells.size=(c8 v).length:=by rw[oe.1];simp
    have hX:cells.length=nA.size:=by rw[hc.1];simp
    obtain⟨f1,f2⟩:=CC off u.cells.toList 0 nA (by simp;omega)
    simp only[Nat.add_zero] at f1 f2
    have pP:aw (be E.aW) (fF cells off (c8 v)) ((u.cells.toList.zipIdx).foldl (fun ad (x:Value×Nat)=>ad.setIfInBounds (off+x.2) x.1) nA).toList:=by
     have hs:=aw.fF hc Mc h2
     refine⟨?_,fun k a b ai hb=> ?_⟩
     ·simp only[Array.length_toList];rw[f1];simp[fF];omega
     ·refine hs.2 k a b ai ?_
      rw[qv (by simp;omega)]
      rw[Array.getElem?_toList,f2 k] at hb
      simpa using hb
    obtain⟨fg,aa,hrel⟩:=tJ ul pP h
    refine⟨fg,?_,hrel⟩
    unfold Instr.fill
    rw[pQ]
    simp only
    rw[if_neg (by simp;omega)]
    rw[←Array.foldl_toList,Array.toList_zipIdx]
    exact aa
   ·cases h
def jk (P:Program) (t:TypeId):Option (List AV):=((P.info? t).bind (·.zero)).map fun z=>z.cells.toList.map ke
theorem JQ (E:Env) (v:Value):be E (ke v) v:=by
 unfold ke
 split
 ·exact ar.int _ _
 ·exact ar.bool _
 ·exact ar.str _
 ·exact ar.av (PB:=fun _=>False) (sz:=0) (vs:=fun _ _=>undef) (fun _ h=>h.elim) ⟨Nat.le_refl _,Nat.zero_le _⟩ (fun _=>rfl) (fun i row h=>by simp at h) (fun h=>by simp at h) (fun i j row a h=>by simp at h)
 ·exact ar.dU
 ·exact ar.eh
 ·exact ar.undef _
theorem o6 {E:Env} {P:Program} {t:TypeId} {z:List AV} (h:jk P t=some z): ∃i v,P.info? t=some i∧i.zero=some v∧z=v.cells.toList.map ke∧aw (be E) z v.cells.toList:=by
 unfold jk at h
 cases hi:P.info? t with
 | none=>simp[hi] at h
 | some i=>
  cases an:i.zero with
  | none=>simp[hi,an] at h
  | some v=>
   simp[hi,an] at h
   subst h
   refine⟨i,v,rfl,an,rfl,by simp,fun k a b ai hb=> ?_⟩
   rw[List.getElem?_map,hb] at ai
   simp at ai;subst ai;exact JQ E b
def zv (P:Program) (t:TypeId):Option (List (Nat×Nat)):=match P.underlying t with
 | some (.struct cF)=>cF.toList.mapM (fun f=>(P.info? f.type).map fun i=>(f.offset,i.size))
 | _=>none
def wJ (P:Program) (t:TypeId) (parts:List (Nat×AV)) (K:AV→Prop):Prop:=
 ci (jk P t) fun z=>ci (zv P t) fun pl=>ci (kN (fun i=>pl[i]?) z parts) fun cells=>K (.agg cells)
theorem I5 {P:Program} {E:Env} {t:TypeId} {parts:List (Nat×AV)} {gU:List (Nat×Value)} {K:AV→Prop} (ab:aw (fun a b=>a.1=b.1∧V2 E a.2 b.2) parts gU) (h:wJ P t parts K):
  ∃r u,K r∧(Instr.build t gU.toArray).run P E.w= .ok u E.w∧V3 E r u:=by
 obtain⟨z,an,h⟩:=dp h
 obtain⟨pl,pQ,h⟩:=dp h
 obtain⟨cells,hf,h⟩:=dp h
 obtain⟨i,v,h1,h2,ao,a8⟩:=o6 (E:=E.aW) an
 obtain⟨fg,aa,hrel⟩:=tJ ab a8 hf
 refine⟨_,.agg fg,h,run_build E.w t gU.toArray fg ?_,fg.toList,by simp,hrel.mono fun _ _ k=>k.up⟩
 unfold zv at pQ
 split at pQ
 ·rename_i cF jQ
  unfold Program.built
  rw[h1,jQ]
  simp only[h2,pQ]
  simpa using aa
 ·cases pQ
def gb:AV→Bool
 | .int _ _ | .bool _ | .str _ | .av _ _ _ | .dU | .eh=>true
 | _=>false
def jM:AV→Bool
 | .av _ _ fr=>fr
 | _=>true
def fO:AV→AV
 | .av rows _ _=> .av rows false false
 | a=>a
def ky:AV→AV
 | .av rows full _=> .av rows full true
 | a=>a
theorem QQ {w:World} {PB PA PF:Nat→Prop} {a:AV} {v:Value} (h:ar w PB (fun _=>False) a v) (hb: ∀c,PB c→PF c) (yk: ∀c,PF c→PA c):ar w PA PF (ky a) v:=by
 have key:(∀rows full fr,a≠ .av rows full fr)→ar w PA PF (ky a) v:=fun bV=>by
  have e:ky a=a:=by cases a<;>first | rfl | exact absurd rfl (bV _ _ _)
  rw[e]
  exact h.mono (fun _ _=>rfl) (fun _ h=>h.elim) (fun c hc=>yk c (hb c hc)) (fun _ h=>h.elim)
 cases a with
 | av rows full fr=>
  cases h with
  | av dc c2 dS bz cA hrel=>
   exact .av (fun c hc=>by
    have:=dc c hc
    rw[if_pos rfl]
    split at this
    ·exact this.elim
    ·exact hb c this) c2 dS bz cA hrel
 | _=>exact key (fun _ _ _ e=>by cases e)
theorem AG {w:World} {PA PF PB:Nat→Prop} {a:AV} {v:Value} (ai:gb a=true) (h:ar w PA PF a v) (hb: ∀c,PA c→PB c) (yk: ∀c,PF c→PA c):ar w PB (fun _=>False) (fO a) v:=by
 cases h with
 | undef=>cases ai
 | int=>exact .int _ _
 | bool=>exact .bool _
 | str=>exact .str _
 | av dc c2 dS bz cA hrel=>
  exact .av (fun c hc=>by
   have:=dc c hc
   simp only[Bool.false_eq_true,if_false]
   split at this
   ·exact hb c (yk c this)
   ·exact hb c this) c2 (fun h=>by cases h) bz cA hrel
 | cv=>cases ai
 | dU=>exact .dU
 | eh=>exact .eh
 | fn=>cases ai
theorem HO {w:World} {PA PF:Nat→Prop} {a:AV} {v:Value} (ai:gb a=true) (hf:jM a=true) (h:ar w PA PF a v):ar w PF (fun _=>False) (fO a) v:=by
 cases h with
 | undef=>cases ai
 | int=>exact .int _ _
 | bool=>exact .bool _
 | str=>exact .str _
 | @av _ _ PB rows full fresh A cap sz vs dc c2 dS bz cA hrel=>
  have Mr:fresh=true:=hf
  subst Mr
  exact .av (fun c hc=>by simpa using dc c hc) c2 (fun h=>by cases h) bz cA hrel
 | cv=>cases ai
 | dU=>exact .dU
 | eh=>exact .eh
 | fn=>cases ai
def chunk (size n:Nat) (cells:List AV):List (List AV):=(List.range n).map fun i=>(cells.drop (i*size)).take size
def pq (P:Program) (t:TypeId) (n:Nat) (parts:List (Nat×AV)) (K:AV→Prop):Prop:=
 ci (fU P t) fun e=>ci (jk P e) fun z=>if z.length=P.cellsOf e∧n*z.length≤1000000∧n≤1000000 then
  ci (kN (fun i=>some (i*z.length,z.length)) ((List.range (n*z.length)).map fun i=>z.getD (i%z.length) .undef) parts) fun cells=>
   if cells.all gb=true then K (.av (chunk z.length n (cells.map fO)) true (cells.all jM)) else False
 else False
theorem te {E:Env} {a:AV} {v:Value} (ai:gb a=true) (h:be E a v):ar E.w E.PA E.PF a v:=by
 cases a<;>first | exact h | cases ai
theorem BO {size n i j:Nat} {cells row:List AV} {a:AV} (aa:(chunk size n cells)[i]?=some row) (O:row[j]?=some a):i<n∧j<size∧cells[i*size+j]?=some a:=by
 unfold chunk at aa
 rw[List.getElem?_map] at aa
 cases ol:(List.range n)[i]? with
 | none=>simp[ol] at aa
 | some k=>
  have hi:i<n:=by have:=(List.getElem?_eq_some_iff.1 ol).1;simpa using this
  rw[List.getElem?_range hi] at ol
  cases ol
  rw[List.getElem?_range hi] at aa
  simp at aa
  subst aa
  rw[List.getElem?_take] at O
  split at O
  ·rw[List.getElem?_drop] at O
   exact⟨hi,by assumption,O⟩
  ·cases O
theorem mb (w:World) (o:Obj) (c:Nat) (h:c<w.heap.size):(w.alloc o).heap[c]?=w.heap[c]?:=Go.RowKit.Below.heap_alloc w o c h
theorem nS (w:World) (o:Obj):(w.alloc o).heap[w.heap.size]?=some o:=by
 show(w.heap.push o)[w.heap.size]?=_
 simp
theorem h9.alloc {E:Env} {H:List Blk} (ag:SimH E H) {o:Obj} (br: ∃ad ty,o= .cells ad ty (0,0)):
  h9 E {E with w:=E.w.alloc o,PA:=fun c=>E.PA c∨c=E.w.heap.size,PF:=fun c=>E.PF c∨c=E.w.heap.size} where
 step:=⟨⟨fun _ h=> .inl h,fun _ h=> .inl h,fun c hc=>mb _ _ _ (ag.cu c hc),fun c hc=>mb _ _ _ (ag.cu c (ag.ck c hc)),fun _=>Nat.le_refl _,fun _ _ h _=>⟨h,rfl,rfl⟩,fun _ _ h=>h⟩,
  rfl,rfl,rfl,by simp,fun c hc _ _=>mb _ _ _ hc,fun _ _ h=> .inl h,fun _ h=> .inl h,fun c hc=>hc.elim .inl (fun e=> .inr (by omega)),fun c hc=>hc.elim .inl (fun e=> .inr (by omega))⟩
 m:=rfl
 mL:=rfl
 aE:=rfl
 sz:=rfl
 cp:=rfl
 b3:=fun c hc=>mb _ _ _ hc
 dC:=fun c hc=>hc.elim .inl (fun e=> .inr (by simp;omega))
 ck:=fun c hc=>hc.elim (fun h=> .inl (ag.ck c h)) .inr
 dz:=fun c hc=>hc.elim (fun h=>(ag.dz c h).same (mb _ _ _ (ag.cu c (ag.ck c h)))) fun e=>by
  obtain⟨ad,ty,rfl⟩:=br
  subst e;exact⟨ad,ty,nS _ _⟩
theorem I3 {P:Program} {E:Env} {t:TypeId} {e:TypeId} {n:Nat} {z:List AV} {parts:List (Nat×AV)} {gU:List (Nat×Value)} {cells:List AV} (ab:aw (fun a b=>a.1=b.1∧V2 E a.2 b.2) parts gU) (he:fU P t=some e) (an:jk P e=some z)
  (jS:z.length=P.cellsOf e) (L7:n*z.length≤1000000∧n≤1000000) (hf:kN (fun i=>some (i*z.length,z.length)) ((List.range (n*z.length)).map fun i=>z.getD (i%z.length) .undef) parts=some cells):
  ∃fg,aw (be E.aW) cells fg.toList∧(Instr.buildSlice t n gU.toArray).run P E.w= .ok (.slice (some ⟨E.w.heap.size,0,none⟩) n n) (E.w.alloc (.cells fg e))∧cells.length=n*z.length:=by
 obtain⟨i,v,h1,h2,ao,a8⟩:=o6 (E:=E.aW) an
 have ot:v.cells.size=z.length:=by rw[ao];simp
 have pN:i.size=z.length:=by rw[jS];simp[Program.cellsOf,h1]
 let hN:Array Value:=if n*z.length=0 then #[] else v.cells
 let base:Array Value:=(Array.range (n*z.length)).map (fun i=>hN[i%hN.size]!)
 have x0:aw (be E.aW) ((List.range (n*z.length)).map fun i=>z.getD (i%z.length) .undef) base.toList:=by
  refine⟨by simp[base],fun k a b ai hb=> ?_⟩
  rw[List.getElem?_map] at ai
  have hk:k<n*z.length:=by
   cases al:(List.range (n*z.length))[k]? with
   | none=>simp[al] at ai
   | some x=>have:=(List.getElem?_eq_some_iff.1 al).1;simpa using this
  rw[List.getElem?_range hk] at ai
  simp only[Option.map_some,Option.some.injEq] at ai
  have h0:0<z.length:=by
   rcases Nat.eq_zero_or_pos z.length with q | q
   ·rw[q,Nat.mul_zero] at hk;omega
   ·exact q
  have ay:k%z.length<z.length:=Nat.mod_lt _ h0
  have k0:hN=v.cells:=if_neg (by omega)
  have e8:base[k]?=some (v.cells[k%z.length]!):=by
   show((Array.range (n*z.length)).map (fun i=>hN[i%hN.size]!))[k]?=_
   rw[k0,ot]
   simp[hk]
  rw[Array.getElem?_toList,e8] at hb
  simp only[Option.some.injEq] at hb
  have lQ:v.cells.toList[k%z.length]?=some (v.cells[k%z.length]!):=by
   rw[Array.getElem?_toList,Array.getElem?_eq_getElem (by omega)]
   congr 1
   exact(getElem!_pos v.cells (k%z.length) (by omega)).symm
  have yy:z[k%z.length]?=some a:=by
   rw[←ai,List.getD_eq_getElem?_getD,List.getElem?_eq_getElem ay];rfl
  rw[←hb]
  exact a8.2 _ _ _ yy lQ
 obtain⟨fg,aa,hrel⟩:=tJ ab x0 hf
 have hu:=m0 he
 have dH:(Instr.buildSlice t n gU.toArray).run P E.w= .ok (.slice (some ⟨E.w.heap.size,0,none⟩) n n) (E.w.alloc (.cells fg e)):=by
  have xZ: ¬n*z.length>2 ^ 24:=by omega
  simp only[Instr.buildSlice,Sem.run_bind,run_underlying hu,Result.andThen_ok,run_sizeOf (show(P.info? e).isSome=true by rw[h1];rfl),←jS,if_neg xZ]
  have c0:Instr.fill (fun i=>some (i*z.length,z.length)) ((Array.range (n*z.length)).map (fun x=>hN[x%hN.size]!)) gU=some fg:=aa
  by_cases q:n*z.length=0
  ·have k0:hN= #[]:=if_pos q
   rw[if_pos q]
   simp only[Sem.run_bind,Sem.run_pure,Result.andThen_ok]
   rw[←k0,c0]
   simp[newRow]
  ·have k0:hN=v.cells:=if_neg q
   rw[if_neg q]
   simp only[Sem.run_bind,Sem.run_pure,Result.andThen_ok,zeroValue,typeInfo,h1,h2,run_program]
   rw[←k0,c0]
   simp[newRow]
 have hlen:cells.length=n*z.length:=by
  have q:=hrel.1
  have: ∀(parts:List (Nat×AV)) (c r:List AV),kN (fun i=>some (i*z.length,z.length)) c parts=some r→r.length=c.length:=by
   intro parts
   induction parts with
   | nil=>intro c r aX;cases aX;rfl
   | cons p ps aT=>
    intro c r aX
    obtain⟨a,b⟩:=p
    unfold kN at aX
    split at aX
    ·cases aX
    ·split at aX
     ·rename_i hc
      rw[aT _ _ aX];simp[fF];omega
     ·cases aX
  rw[this _ _ _ hf];simp
 exact⟨fg,hrel,dH,hlen⟩
theorem BD {P:Program} {E:Env} {H:List Blk} {t:TypeId} {n:Nat} {parts:List (Nat×AV)} {gU:List (Nat×Value)} {K:AV→Prop} (ag:SimH E H) (ab:aw (fun a b=>a.1=b.1∧V2 E a.2 b.2) parts gU) (h:pq P t n parts K):
  ∃r u E',K r∧(Instr.buildSlice t n gU.toArray).run P E.w= .ok u E'.w∧h9 E E'∧V3 E' r u:=by
 obtain⟨e,he,h⟩:=dp h
 obtain⟨z,an,h⟩:=dp h
 split at h
 case isFalse=>exact h.elim
 case isTrue hb=>
 obtain⟨jS,L7⟩:=hb
 obtain⟨cells,hf,h⟩:=dp h
 split at h
 case isFalse=>exact h.elim
 case isTrue hby=>
 obtain⟨i,v,h1,h2,ao,a8⟩:=o6 (E:=E.aW) an
 have ot:v.cells.size=z.length:=by rw[ao];simp
 have pN:i.size=z.length:=by rw[jS];simp[Program.cellsOf,h1]
 let hN:Array Value:=if n*z.length=0 then #[] else v.cells
 let base:Array Value:=(Array.range (n*z.length)).map (fun i=>hN[i%hN.size]!)
 have x0:aw (be E.aW) ((List.range (n*z.length)).map fun i=>z.getD (i%z.length) .undef) base.toList:=by
  refine⟨by simp[base],fun k a b ai hb=> ?_⟩
  rw[List.getElem?_map] at ai
  have hk:k<n*z.length:=by
   cases al:(List.range (n*z.length))[k]? with
   | none=>simp[al] at ai
   | some x=>have:=(List.getElem?_eq_some_iff.1 al).1;simpa using this
  rw[List.getElem?_range hk] at ai
  simp only[Option.map_some,Option.some.injEq] at ai
  have h0:0<z.length:=by
   rcases Nat.eq_zero_or_pos z.length with q | q
   ·rw[q,Nat.mul_zero] at hk;omega
   ·exact q
  have ay:k%z.length<z.length:=Nat.mod_lt _ h0
  have k0:hN=v.cells:=if_neg (by omega)
  have e8:base[k]?=some (v.cells[k%z.length]!):=by
   show((Array.range (n*z.length)).map (fun i=>hN[i%hN.size]!))[k]?=_
   rw[k0,ot]
   simp[hk]
  rw[Array.getElem?_toList,e8] at hb
  simp only[Option.some.injEq] at hb
  have lQ:v.cells.toList[k%z.length]?=some (v.cells[k%z.length]!):=by
   rw[Array.getElem?_toList,Array.getElem?_eq_getElem (by omega)]
   congr 1
   exact(getElem!_pos v.cells (k%z.length) (by omega)).symm
  have yy:z[k%z.length]?=some a:=by
   rw[←ai,List.getD_eq_getElem?_getD,List.getElem?_eq_getElem ay];rfl
  rw[←hb]
  exact a8.2 _ _ _ yy lQ
 obtain⟨fg,aa,hrel⟩:=tJ ab x0 hf
 have al:=h9.alloc ag (o:= .cells fg e) ⟨_,_,rfl⟩
 have hu:=m0 he
 have dH:(Instr.buildSlice t n gU.toArray).run P E.w= .ok (.slice (some ⟨E.w.heap.size,0,none⟩) n n) (E.w.alloc (.cells fg e)):=by
  have xZ: ¬n*z.length>2 ^ 24:=by omega
  simp only[Instr.buildSlice,Sem.run_bind,run_underlying hu,Result.andThen_ok,run_sizeOf (show(P.info? e).isSome=true by rw[h1];rfl),←jS,if_neg xZ]
  have c0:Instr.fill (fun i=>some (i*z.length,z.length)) ((Array.range (n*z.length)).map (fun x=>hN[x%hN.size]!)) gU=some fg:=aa
  by_cases q:n*z.length=0
  ·have k0:hN= #[]:=if_pos q
   rw[if_pos q]
   simp only[Sem.run_bind,Sem.run_pure,Result.andThen_ok]
   rw[←k0,c0]
   simp[newRow]
  ·have k0:hN=v.cells:=if_neg q
   rw[if_neg q]
   simp only[Sem.run_bind,Sem.run_pure,Result.andThen_ok,zeroValue,typeInfo,h1,h2,run_program]
   rw[←k0,c0]
   simp[newRow]
 have hlen:cells.length=n*z.length:=by
  have q:=hrel.1
  have: ∀(parts:List (Nat×AV)) (c r:List AV),kN (fun i=>some (i*z.length,z.length)) c parts=some r→r.length=c.length:=by
   intro parts
   induction parts with
   | nil=>intro c r aX;cases aX;rfl
   | cons p ps aT=>
    intro c r aX
    obtain⟨a,b⟩:=p
    unfold kN at aX
    split at aX
    ·cases aX
    ·split at aX
     ·rename_i hc
      rw[aT _ _ aX];simp[fF];omega
     ·cases aX
  rw[this _ _ _ hf];simp
 refine⟨_,_,_,h,dH,al,?_⟩
 have hX:(chunk z.length n (cells.map fO)).length=n:=by simp[chunk]
 show ar (E.w.alloc (.cells fg e)) (fun c=>E.PA c∨c=E.w.heap.size) (fun c=>E.PF c∨c=E.w.heap.size) _ _
 have key:=ar.av (w:=E.w.alloc (.cells fg e)) (PA:=fun c=>E.PA c∨c=E.w.heap.size) (PF:=fun c=>E.PF c∨c=E.w.heap.size)
  (PB:=if cells.all jM=true then(fun c=>E.PF c∨c=E.w.heap.size) else(fun c=>E.PA c∨c=E.w.heap.size))
  (rows:=chunk z.length n (cells.map fO)) (full:=true) (fresh:=cells.all jM) (A:=some ⟨E.w.heap.size,0,none⟩) (cap:=n) (sz:=z.length) (vs:=fun i j=>(fg[i*z.length+j]?).getD undef)
  (fun c hc=>by split at hc<;>(rename_i q;simp only[q];first | exact hc | simpa using hc)) (by omega) (fun _=>hX.symm)
  (fun i row aa=>by
   unfold chunk at aa
   rw[List.getElem?_map] at aa
   cases ol:(List.range n)[i]? with
   | none=>simp[ol] at aa
   | some k=>
    have hi:i<n:=by have:=(List.getElem?_eq_some_iff.1 ol).1;simpa using this
    rw[List.getElem?_range hi] at aa
    simp at aa
    subst aa
    have:i*z.length+z.length≤n*z.length:=by
     calc i*z.length+z.length=(i+1)*z.length:=by rw[Nat.add_mul,Nat.one_mul]
      _≤n*z.length:=Nat.mul_le_mul_right _ (by omega)
    simp;omega)
  (fun _=>⟨E.w.heap.size,0,rfl,by split<;>exact .inr rfl,fun i j hi O=>by
   rw[hX] at hi
   have:i*z.length+z.length≤n*z.length:=by
    calc i*z.length+z.length=(i+1)*z.length:=by rw[Nat.add_mul,Nat.one_mul]
     _≤n*z.length:=Nat.mul_le_mul_right _ (by omega)
   have yr:fg.size=n*z.length:=by rw[←hlen,hrel.1];simp
   rw[Nat.zero_add]
   have ay:i*z.length+j<fg.size:=by omega
   rw[World.cell?_alloc_new]
   simp[Array.getElem?_eq_getElem ay]⟩)
  (fun i j row a aa O=>by
   obtain⟨hi,SU,hc⟩:=BO aa O
   rw[List.getElem?_map] at hc
   cases od:cells[i*z.length+j]? with
   | none=>simp[od] at hc
   | some b=>
    simp[od] at hc
    subst hc
    obtain⟨u,hu,eL⟩:=hrel.get od
    have x1:gb b=true:=List.all_eq_true.1 hby b (List.mem_of_getElem? od)
    have iY:=te x1 eL.up
    have jt:(fg[i*z.length+j]?).getD undef=u:=by rw[Array.getElem?_toList] at hu;rw[hu];rfl
    rw[jt]
    by_cases ew:cells.all jM=true
    ·have Mp:jM b=true:=List.all_eq_true.1 ew b (List.mem_of_getElem? od)
     rw[if_pos ew]
     exact(HO x1 Mp iY).mono (fun c hc=>mb _ _ _ (ag.cu c (ag.ck c hc))) (fun c hc=>hc.elim) (fun c hc=> .inl hc) (fun c hc=>hc)
    ·rw[if_neg ew]
     exact(AG x1 iY (fun c hc=>hc) ag.ck).mono (fun c hc=>mb _ _ _ (ag.cu c hc)) (fun c hc=>hc.elim) (fun c hc=> .inl hc) (fun c hc=>hc))
 rw[hX] at key
 exact key
def tI (P:Program) (t:TypeId) (f:Nat):Option Field:=match P.underlying t with
 | some (.struct cF)=>cF.toList[f]?
 | _=>none
theorem Kx {P:Program} {t:TypeId} {f:Nat} {fd:Field} (h:tI P t f=some fd): ∃cF,P.underlying t=some (.struct cF)∧cF[f]?=some fd:=by
 unfold tI at h
 split at h
 ·rename_i cF jQ;exact⟨cF,jQ,by simpa using h⟩
 ·cases h
def xz (P:Program) (t:TypeId) (x:AV) (f:Nat) (K:AV→Prop):Prop:=
 ci (tI P t f) fun fd=>if(P.info? fd.type).isSome=true∧P.cellsOf fd.type≠0 then(match x with
  | .dn s c=>K (.dn s (c+fd.offset))
  | .ptr b g r c=>K (.ptr b g r (c+fd.offset))
  | .cv cells c=>K (.cv cells (c+fd.offset))
  | _=>False) else False
theorem Q4 {P:Program} {fd:Field} {w:World} {c o:Nat} (hi:(P.info? fd.type).isSome=true) (an:P.cellsOf fd.type≠0):
  (fieldPlace ⟨c,o,none⟩ fd).run P w= .ok ⟨c,o+fd.offset,none⟩ w:=by
 simp[fieldPlace,run_sizeOf hi,an,jB]
theorem Kv {P:Program} {t:TypeId} {x:AV} {f:Nat} {K:AV→Prop} {E:Env} {v:Value} (hx:V3 E x v)
  (h:xz P t x f K):
  ∃r u,K r∧(Instr.fieldAt t v f).run P E.w= .ok u E.w∧V3 E r u:=by
 obtain⟨fd,hf,h⟩:=dp h
 obtain⟨cF,hu,Mq⟩:=Kx hf
 split at h
 case isFalse=>exact h.elim
 case isTrue hc=>
 obtain⟨hi,an⟩:=hc
 have run: ∀bl o,(Instr.fieldAt t (.pointer (some ⟨bl,o,none⟩)) f).run P E.w= .ok (.pointer (some ⟨bl,o+fd.offset,none⟩)) E.w:=by
  intro bl o
  simp[Instr.fieldAt,run_underlying hu,Mq,Instr.sureAddr,Q4 hi an]
 cases x with
 | dn s c=>
  obtain⟨bl,hm,rfl⟩:=hx.r0
  exact⟨_,_,h,run bl c,bl,hm,rfl⟩
 | ptr b g r c=>
  rcases(show cY E (.ptr b g r c) v from hx) with⟨aJ,bl,o,rfl⟩ | ⟨aJ,bl,hm,rfl⟩
  ·exact⟨_,_,h,run bl o,.inl ⟨aJ,_,_,rfl⟩⟩
  ·exact⟨_,_,h,run bl _,.inr ⟨aJ,bl,hm,by rw[Nat.add_assoc]⟩⟩
 | cv cells c=>
  have gi:ar E.w E.PA E.PF (.cv cells c) v:=hx
  cases gi with
  | @cv _ _ _ _ bl o vs hc cA hrel=>
   exact⟨_,_,h,run bl _,by rw[Nat.add_assoc];exact ar.cv hc cA hrel⟩
 | _=>exact h.elim
def pW (P:Program) (t:TypeId) (x i:AV) (H:List Blk) (K:AV→Prop):Prop:=
 ci (fU P t) fun e=>if(P.info? e).isSome=true then(match i with
  | .int _ n=>(match x with
   | .av rows _ _=>0≤n∧ci rows[n.toNat]? fun row=>row.length=P.cellsOf e∧K (.cv row 0)
   | .ref b g off m _=>ci H[b]? fun blk=>blk.aE=g∧blk.sz=P.cellsOf e∧0≤n∧n<m∧K (.ptr b g (off+n.toNat) 0)
   | _=>False)
  | _=>False) else False
theorem Nl {P:Program} {t:TypeId} {x i:AV} {K:AV→Prop} {E:Env} {L gX:List (Nat×List AV)} {H da:List Blk} {v rS:Value} (sub:Sub L H gX da) (ag:SimH E da) (hx:V3 E x v) (hi:V3 E i rS)
  (h:pW P t x i H K): ∃r u,K r∧(Instr.indexAt t v rS).run P E.w= .ok u E.w∧V3 E r u:=by
 obtain⟨e,he,h⟩:=dp h
 have hu:=m0 he
 split at h
 case isFalse=>exact h.elim
 case isTrue hinf=>
 cases i with
 | int k n=>
  obtain rfl:=hi.jU
  cases x with
  | av rows full fresh=>
   obtain⟨aA,h⟩:=(show 0≤n∧ci rows[n.toNat]? fun row=>row.length=P.cellsOf e∧K (.cv row 0) from h)
   obtain⟨row,aa,ak,hK⟩:=dp h
   have ay:n.toNat<rows.length:=(List.getElem?_eq_some_iff.1 aa).1
   have gi:ar E.w E.PA E.PF (.av rows full fresh) v:=hx
   cases gi with
   | @av _ _ PB _ _ _ A cap sz vs dc c2 dS bz cA hrel=>
    obtain⟨c,o,rfl,hc,ew⟩:=cA (by omega)
    have rL:=bz _ _ aa
    refine⟨_,.pointer (some ⟨c,o+n.toNat*P.cellsOf e,none⟩),hK,?_,?_⟩
    ·simp only[Instr.indexAt,Sem.run_bind,asIntOf,Sem.run_pure,Result.andThen_ok,run_underlying hu]
     rw[if_pos ⟨aA,by omega⟩]
     simp[run_sizeOf hinf,jB]
    ·show ar _ _ _ _ _
     have:=ar.cv (w:=E.w) (PA:=E.PA) (PF:=E.PF) (cells:=row) (col:=0) (c:=c) (o:=o+n.toNat*P.cellsOf e) (vs:=vs n.toNat)
      (by have:=dc c hc;split at this;exact ag.ck c this;exact this)
      (fun j O=>by rw[Nat.add_assoc,←ak,rL];exact ew n.toNat j ay (by omega))
      (fun j a O=>(hrel n.toNat j row a aa O).mono (fun _ _=>rfl) (fun _ h=>h.elim) (fun d aL=>by
       have:=dc d aL;split at this;exact ag.ck d this;exact this) (fun _ h=>h))
     simpa using this
  | ref b g off m full=>
   obtain⟨blk,hb,aJ,jr,aA,h1,hK⟩:=dp (show ci H[b]? fun blk=>blk.aE=g∧blk.sz=P.cellsOf e∧0≤n∧n<m∧K (.ptr b g (off+n.toNat) 0) from h)
   have hb:=sub.h b blk hb
   have gN:=ag.cS b blk hb
   rcases(show cY E (.ref b g off m full) v from hx) with⟨aX,_⟩ | ⟨eo,aX⟩
   ·omega
   ·rcases aX with⟨_,_,mr,_⟩ | ⟨c,cap,hm,rfl,kk,kV,lL⟩
    ·omega
    ·obtain⟨blk',ad,ty,q1,bJ,_⟩:=ag.heap b c hm
     obtain rfl:blk=blk':=by rw[hb] at q1;exact Option.some.inj q1
     refine⟨_,.pointer (some ⟨c,(off+n.toNat)*E.sz b+0,none⟩),hK,?_,.inr ⟨eo,c,hm,rfl⟩⟩
     simp only[Instr.indexAt,Sem.run_bind,asIntOf,Sem.run_pure,Result.andThen_ok,run_underlying hu]
     rw[if_pos ⟨aA,h1⟩]
     simp[run_sizeOf hinf,jB,bJ,jr,Nat.add_mul]
  | _=>exact h.elim
 | _=>exact h.elim
def yB (P:Program) (t:TypeId) (x i:AV) (K:AV→Prop):Prop:=match x with
 | .str s=>(match i with
  | .int _ n=>(match P.underlying t with
   | some .string=>0≤n∧n<s.size∧K (.int .u8 (s.data.getD n.toNat 0).toNat)
   | _=>False)
  | _=>False)
 | _=>False
theorem Nt {P:Program} {t:TypeId} {x i:AV} {K:AV→Prop} {E:Env} {v rS:Value} (hx:V3 E x v) (hi:V3 E i rS) (h:yB P t x i K):
  ∃r u,K r∧(Instr.index t v rS).run P E.w= .ok u E.w∧V3 E r u:=by
 cases x with
 | str s=>
  cases i with
  | int k n=>
   obtain rfl:=hx.qx
   obtain rfl:=hi.jU
   have h:(match P.underlying t with
    | some .string=>0≤n∧n<s.size∧K (.int .u8 (s.data.getD n.toNat 0).toNat)
    | _=>False):=h
   split at h
   ·rename_i hu
    obtain⟨aA,h1,hK⟩:=h
    refine⟨_,.int .u8 (s.data.getD n.toNat 0).toNat,hK,?_,ar.int _ _⟩
    have ay:n.toNat<s.size:=by omega
    have yg:n.toNat<s.data.size:=ay
    have:s[n.toNat]?=some (s.data.getD n.toNat 0):=by
     rw[getElem?_pos s n.toNat ay]
     congr 1
     show s.data[n.toNat]=_
     rw[Array.getD_eq_getD_getElem?,Array.getElem?_eq_getElem yg];rfl
    simp only[Instr.index,Sem.run_bind,asIntOf,Sem.run_pure,Result.andThen_ok,run_underlying hu]
    rw[if_pos aA,this]
    rfl
   ·exact h.elim
  | _=>exact h.elim
 | _=>exact h.elim
def mE (x:AV) (K:AV→Prop):Prop:=match x with
 | .av rows _ _=>rows.length≤4611686018427387904→K (.int .i64 rows.length)
 | .str s=>K (.int .i64 s.size)
 | .ref _ _ _ n _=>K (.int .i64 n)
 | _=>False
def gy (P:Program) (t:TypeId) (x:AV):Bool:=match P.underlying t,x with
 | some .string,.str _=>true
 | some (.slice _),.av _ _ _=>true
 | some (.slice _),.ref _ _ _ _ _=>true
 | _,_=>false
theorem Pr {P:Program} {t ty:TypeId} {x:AV} {K:AV→Prop} {E:Env} {v:Value} (hx:V3 E x v)
  (aC:gy P t x=true) (h:mE x K): ∃r u,K r∧(Builtin.len_ #[t] ty #[v]).run P E.w= .ok u E.w∧V3 E r u:=by
 unfold gy at aC
 split at aC<;>try (cases aC;done)
 ·rename_i s hu
  obtain rfl:=hx.qx
  exact⟨_,_,h,by simp[Builtin.len_,run_underlying hu,goInt],ar.int _ _⟩
 ·rename_i e rows cn fr hu
  have gi:ar E.w E.PA E.PF (.av rows cn fr) v:=hx
  cases gi with
  | @av _ _ PB _ _ _ A cap sz vs dc c2 dS bz cA hrel=>
   have h:rows.length≤4611686018427387904→K (.int .i64 rows.length):=h
   exact⟨_,_,h c2.2,by simp[Builtin.len_,run_underlying hu,goInt],ar.int _ _⟩
 ·rename_i e b g off n cn hu
  have h:K (.int .i64 n):=h
  rcases(show cY E (.ref b g off n cn) v from hx) with⟨_,A,cap,rfl⟩ | ⟨eo,aX⟩
  ·exact⟨_,_,h,by simp[Builtin.len_,run_underlying hu,goInt],ar.int _ _⟩
  ·rcases aX with⟨_,_,rfl,A,rfl⟩ | ⟨c,cap,hm,rfl,kk,kV,lL⟩
   ·exact⟨_,_,h,by simp[Builtin.len_,run_underlying hu,goInt],ar.int _ _⟩
   ·exact⟨_,_,h,by simp[Builtin.len_,run_underlying hu,goInt],ar.int _ _⟩
def xx (x:AV) (i:Nat) (K:AV→Prop):Prop:=match x with
 | .tup l=>ci l[i]? K
 | _=>False
theorem Kn {P:Program} {x:AV} {i:Nat} {K:AV→Prop} {E:Env} {v:Value} (hx:V3 E x v) (h:xx x i K):
  ∃r u,K r∧(Instr.extract v i).run P E.w= .ok u E.w∧V3 E r u:=by
 cases x with
 | tup l=>
  obtain⟨vs,rfl,ab⟩:=hx
  obtain⟨a,ai,hK⟩:=dp (show ci l[i]? K from h)
  obtain⟨u,hu,aa⟩:=ab.get ai
  refine⟨a,u,hK,?_,lq aa⟩
  simp[Instr.extract,hu]
 | _=>exact h.elim
def vG (op:UnOp) (x:AV) (K:AV→Prop):Prop:=match op,x with
 | .not,.bool b=>K (.bool (!b))
 | .neg,.int k n=>K (.int k (k.wrap (0 - n)))
 | _,_=>False
theorem Se {P:Program} {op:UnOp} {x:AV} {K:AV→Prop} {E:Env} {v:Value} (hx:V3 E x v) (h:vG op x K):
  ∃r u,K r∧(Op.unary op v).run P E.w= .ok u E.w∧V3 E r u:=by
 unfold vG at h
 split at h
 ·obtain rfl:=hx.jD;exact⟨_,_,h,rfl,ar.bool _⟩
 ·obtain rfl:=hx.jU;exact⟨_,_,h,rfl,ar.int _ _⟩
 ·exact h.elim
def zm (x:AV) (K:AV→Prop):Prop:=match x with
 | .ptr _ _ _ _ | .dn _ _ | .cv _ _=>K x
 | _=>False
def pZ (P:Program) (t:TypeId):Option IntKind:=match P.underlying t with
 | some (.int k)=>some k
 | _=>none
theorem D_ {P:Program} {t:TypeId} {k:IntKind} (h:pZ P t=some k):P.underlying t=some (.int k):=by
 unfold pZ at h
 split at h
 ·cases h;assumption
 ·cases h
def xb (P:Program) (s d:TypeId) (x:AV) (K:AV→Prop):Prop:=match x with
 | .int _ n=>ci (pZ P s) fun _=>ci (pZ P d) fun k=>K (.int k (k.wrap n))
 | _=>False
theorem JS {P:Program} {s d:TypeId} {x:AV} {K:AV→Prop} {E:Env} {v:Value} (hx:V3 E x v) (h:xb P s d x K):
  ∃r u,K r∧(Go.convert s d v).run P E.w= .ok u E.w∧V3 E r u:=by
 cases x with
 | int cs n=>
  obtain⟨df,h1,h⟩:=dp (show ci (pZ P s) _ from h)
  obtain⟨fa,h2,h⟩:=dp h
  obtain rfl:=hx.jU
  refine⟨_,_,h,?_,ar.int _ _⟩
  simp only[Go.convert,Sem.run_bind,run_underlying (D_ h1),run_underlying (D_ h2),Result.andThen_ok]
  rfl
 | _=>exact h.elim
def iz (x:Option AV) (d:Nat) (K:Nat→Prop):Prop:=match x with
 | none=>K d
 | some (.int _ n)=>0≤n∧K n.toNat
 | some _=>False
def oU (P:Program) (t:TypeId) (x:AV) (lo hi:Option AV) (H:List Blk) (K:AV→Prop):Prop:=match x with
 | .str s=>(match P.underlying t with
  | some .string=>iz lo 0 fun l=>iz hi s.size fun h=>l≤h∧h≤s.size∧K (.str (s.extract l h))
  | _=>False)
 | .av rows _ fr=>ci (fU P t) fun e=>if(P.info? e).isSome=true then
   iz lo 0 fun l=>iz hi rows.length fun h=>l≤h∧h≤rows.length∧(∀(i:Nat) (row:List AV),rows[i]?=some row→row.length=P.cellsOf e)∧K (.av ((rows.drop l).take (h - l)) false fr) else False
 | .ref b g off n _=>ci (fU P t) fun e=>if(P.info? e).isSome=true then
   ci H[b]? fun blk=>blk.aE=g∧blk.sz=P.cellsOf e∧iz lo 0 fun l=>iz hi n fun h=>l≤h∧h≤n∧(l<h→K (.ref b g (off+l) (h - l) false))∧(l=h→K (.av [] false true)) else False
 | _=>False
def sU (E:Env) (x:Option AV) (v:Option Value):Prop:=match x,v with
  | none,none=>True
  | some a,some u=>V3 E a u
  | _,_=>False
theorem po {x:Option AV} {d:Nat} {K:Nat→Prop} {E:Env} {v:Option Value} (hx:sU E x v) (h:iz x d K): ∃n,K n∧((v=none∧n=d)∨ ∃k,v=some (.int k n)):=by
 cases x with
 | none=>
  cases v with
  | none=>exact⟨d,h,.inl ⟨rfl,rfl⟩⟩
  | some u=>exact hx.elim
 | some a=>
  cases v with
  | none=>exact hx.elim
  | some u=>
   cases a with
   | int k n=>
    obtain⟨aA,h⟩:=(show 0≤n∧K n.toNat from h)
    obtain rfl:=V3.jU hx
    exact⟨n.toNat,h,.inr ⟨k,by rw[Int.toNat_of_nonneg aA]⟩⟩
   | _=>exact h.elim
theorem z1 {P:Program} {w:World} {isS:Bool} {len cap l h:Nat} {lo hi:Option Value} (ak:(lo=none∧l=0)∨ ∃k,lo=some (.int k l)) (aX:(hi=none∧h=len)∨ ∃k,hi=some (.int k h))
  (h1:l≤h) (h2:h≤cap):(Instr.sliceBounds isS len cap lo hi none).run P w= .ok (l,h,cap) w:=by
 rcases ak with⟨rfl,rfl⟩ | ⟨p2,rfl⟩<;>rcases aX with⟨rfl,rfl⟩ | ⟨Ec,rfl⟩
 ·simp[Instr.sliceBounds]
 ·simp[Instr.sliceBounds,run_sliceBound (P:=P) w Ec (h:Int) cap _ (by omega) (by omega)]
 ·simp[Instr.sliceBounds,run_sliceBound (P:=P) w p2 (l:Int) _ _ (by omega) (show(l:Int)≤((_:Nat):Int) by exact Int.ofNat_le.2 h1)]
 ·simp[Instr.sliceBounds,run_sliceBound (P:=P) w Ec (h:Int) cap _ (by omega) (by omega),run_sliceBound (P:=P) w p2 (l:Int) h _ (by omega) (by omega)]
theorem Rf {P:Program} {t:TypeId} {x:AV} {lo hi:Option AV} {K:AV→Prop} {E:Env} {L gX:List (Nat×List AV)} {H da:List Blk} {v:Value} {AK AJ:Option Value} (sub:Sub L H gX da) (ag:SimH E da) (hx:V3 E x v)
  (yf:sU E lo AK) (x_:sU E hi AJ)
  (h:oU P t x lo hi H K): ∃r u,K r∧(Instr.sliceAt t v AK AJ none).run P E.w= .ok u E.w∧V3 E r u:=by
 cases x with
 | str s=>
  obtain rfl:=hx.qx
  have h:(match P.underlying t with
   | some .string=>iz lo 0 fun l=>iz hi s.size fun h=>l≤h∧h≤s.size∧K (.str (s.extract l h))
   | _=>False):=h
  split at h
  ·rename_i hu
   obtain⟨l,h,ak⟩:=po yf h
   obtain⟨q,⟨h1,h2,hK⟩,al⟩:=po x_ h
   refine⟨_,.string (s.extract l q),hK,?_,ar.str _⟩
   rw[run_sliceAt_string E.w t _ _ _ _ hu]
   simp only[Instr.slice,Sem.run_bind,run_underlying hu,Result.andThen_ok]
   simp only[Option.isSome_none,Bool.false_eq_true,if_false]
   simp only[Sem.run_bind,z1 (P:=P) (w:=E.w) (isS:=false) ak al h1 h2,Result.andThen_ok]
   rfl
  ·exact h.elim
 | av rows full fr=>
  obtain⟨e,he,h⟩:=dp (show ci (fU P t) fun e=>if(P.info? e).isSome=true then
   iz lo 0 fun l=>iz hi rows.length fun h=>l≤h∧h≤rows.length∧(∀(i:Nat) (row:List AV),rows[i]?=some row→row.length=P.cellsOf e)∧K (.av ((rows.drop l).take (h - l)) false fr) else False from h)
  have hu:=m0 he
  split at h
  case isFalse=>exact h.elim
  case isTrue hinf=>
  obtain⟨l,h,ak⟩:=po yf h
  obtain⟨q,⟨h1,h2,lO,hK⟩,al⟩:=po x_ h
  have gi:ar E.w E.PA E.PF (.av rows full fr) v:=hx
  cases gi with
  | @av _ _ PB _ _ _ A cap sz vs dc c2 dS bz cA hrel=>
   have og:P.elem t=e:=by simp[Program.elem,hu]
   have jt:P.underlying t=some (.slice (P.elem t)):=by rw[og];exact hu
   have hlen:((rows.drop l).take (q - l)).length=q - l:=by simp;omega
   refine⟨_,sliced A l q cap (P.cellsOf e),hK,?_,?_⟩
   ·rw[run_sliceAt_slice E.w t _ _ _ _ jt,run_slice_any E.w t A rows.length cap jt,z1 (P:=P) (w:=E.w) ak al h1 (by omega)]
    simp only[Result.andThen_ok,og,run_sizeOf hinf]
   ·show ar E.w E.PA E.PF _ (.slice _ (q - l) (cap - l))
    have key:=ar.av (w:=E.w) (PA:=E.PA) (PF:=E.PF) (PB:=PB) (rows:=(rows.drop l).take (q - l)) (full:=false) (fresh:=fr) (A:=if cap=l then A else A.map (·.add (l*P.cellsOf e))) (cap:=cap - l) (sz:=sz) (vs:=fun i j=>vs (l+i) j)
     dc (by rw[hlen];omega) (fun h=>by cases h)
     (fun i row aa=>by
      rw[List.getElem?_take] at aa
      split at aa
      ·rw[List.getElem?_drop] at aa;exact bz _ _ aa
      ·cases aa)
     (fun af=>by
      rw[hlen] at af
      obtain⟨c,o,rfl,hc,ew⟩:=cA (by omega)
      have M1:sz=P.cellsOf e:=by
       have ay:l<rows.length:=by omega
       rw[←bz l _ (List.getElem?_eq_getElem ay)];exact lO l _ (List.getElem?_eq_getElem ay)
      refine⟨c,o+l*P.cellsOf e,by rw[if_neg (by omega)];simp[jB],hc,fun i j hi O=> ?_⟩
      rw[hlen] at hi
      have:=ew (l+i) j (by omega) O
      rw[←this,M1]
      congr 2
      rw[Nat.add_mul];omega)
     (fun i j row a aa O=>by
      rw[List.getElem?_take] at aa
      split at aa
      ·rw[List.getElem?_drop] at aa;exact hrel _ _ _ _ aa O
      ·cases aa)
    rw[hlen] at key
    exact key
 | ref b g off n full=>
  obtain⟨e,he,h⟩:=dp (show ci (fU P t) fun e=>if(P.info? e).isSome=true then
   ci H[b]? fun blk=>blk.aE=g∧blk.sz=P.cellsOf e∧iz lo 0 fun l=>iz hi n fun h=>l≤h∧h≤n∧(l<h→K (.ref b g (off+l) (h - l) false))∧(l=h→K (.av [] false true)) else False from h)
  have hu:=m0 he
  split at h
  case isFalse=>exact h.elim
  case isTrue hinf=>
  obtain⟨blk,hb,aJ,jr,h⟩:=dp h
  obtain⟨l,h,ak⟩:=po yf h
  obtain⟨q,⟨h1,h2,LW,CU⟩,al⟩:=po x_ h
  have hb:=sub.h b blk hb
  have gN:=ag.cS b blk hb
  have og:P.elem t=e:=by simp[Program.elem,hu]
  have jt:P.underlying t=some (.slice (P.elem t)):=by rw[og];exact hu
  have run: ∀A cap,n≤cap→(Instr.sliceAt t (.slice A n cap) AK AJ none).run P E.w= .ok (sliced A l q cap (P.cellsOf e)) E.w:=by
   intro A cap hc
   rw[run_sliceAt_slice E.w t _ _ _ _ jt,run_slice_any E.w t A n cap jt,z1 (P:=P) (w:=E.w) ak al h1 (by omega)]
   simp only[Result.andThen_ok,og,run_sizeOf hinf]
  have empty: ∀A cap,l=q→V3 E (.av [] false true) (sliced A l q cap (P.cellsOf e)):=by
   intro A cap oj
   subst oj
   show ar E.w E.PA E.PF _ (.slice _ (l - l) (cap - l))
   rw[Nat.sub_self]
   exact ar.av (PB:=fun _=>False) (sz:=0) (vs:=fun _ _=>undef) (fun _ h=>h.elim) ⟨Nat.zero_le _,Nat.zero_le _⟩ (fun h=>by cases h) (fun i row h=>by simp at h) (fun h=>by simp at h) (fun i j row a h=>by simp at h)
  rcases(show cY E (.ref b g off n full) v from hx) with⟨aX,_⟩ | ⟨eo,aX⟩
  ·omega
  ·rcases aX with⟨_,_,rfl,A,rfl⟩ | ⟨c,cap,hm,rfl,kk,kV,lL⟩
   ·have oj:l=q:=by omega
    exact⟨_,_,CU oj,run A 0 (Nat.le_refl _),empty _ _ oj⟩
   ·rcases Nat.lt_or_ge l q with ay | tW
    ·refine⟨_,_,LW ay,run _ cap kk,.inr ⟨eo,.inr ⟨c,cap - l,hm,?_,by omega,(fun h=>by cases h),by omega⟩⟩⟩
     obtain⟨blk',ad,ty,q1,bJ,_⟩:=ag.heap b c hm
     obtain rfl:blk=blk':=by rw[hb] at q1;exact Option.some.inj q1
     simp only[sliced,if_neg (show ¬cap=l by omega),Option.map_some,jB,bJ,jr,Nat.add_mul]
    ·have oj:l=q:=by omega
     exact⟨_,_,CU oj,run _ cap kk,empty _ _ oj⟩
 | _=>exact h.elim
def nt (P:Program) (f:FuncId):Bool:=match P.funcs[f]? with
 | some fn=> !(fn.name== "runtime.NumGoroutine")&&fn.body.isSome
 | none=>false
def ej (P:Program) (f:FuncId) (args:List AV) (H:List Blk) (Q:AV→List Blk→Prop):Prop:=
 nt P f=true∧ ∀(E:Env) (vs:List Value),(∀t,E.mL t=none)→SimH E H→aw (V2 E) args vs→
  Calls P f vs.toArray E.w fun e w'=> ∃r v H' E',e= .returned v∧Q r H'∧E'.w=w'∧(∀t,E'.mL t=none)∧SimH E' H'∧V3 E' r v∧Step E E'
theorem ej.mono {P:Program} {f:FuncId} {args:List AV} {H:List Blk} {Q pd:AV→List Blk→Prop} (h:ej P f args H Q) (al: ∀r H',Q r H'→pd r H'):ej P f args H pd:=
 ⟨h.1,fun E vs a b c=>(h.2 E vs a b c).mono fun e w' ⟨r,v,H',E',h1,h2,ao⟩=>⟨r,v,H',E',h1,al _ _ h2,ao⟩⟩
def r4:AV→Bool
 | .dn _ _ | .agg _ | .tup _=>false
 | _=>true
def p9:AV→Bool
 | .fn _ caps=>caps.all r4
 | a=>r4 a
def h3:AV→Bool
 | .agg cells=>cells.all p9
 | a=>p9 a
def r5:AV→Bool
 | .tup l=>l.all h3
 | a=>h3 a
theorem cY.aW {E:Env} {a:AV} {v:Value} (h:r4 a=true) (hv:cY E a v):cY E.aW a v:=by
 cases a<;>first | exact hv | cases h
theorem be.aW {E:Env} {a:AV} {v:Value} (h:p9 a=true) (hv:be E a v):be E.aW a v:=by
 by_cases hf: ∃f caps,a= .fn f caps
 ·obtain⟨f,caps,rfl⟩:=hf
  obtain⟨vs,e,ab⟩:=hv
  exact⟨vs,e,ab.1,fun i x y hx ax=>(ab.2 i x y hx ax).aW (List.all_eq_true.1 (show caps.all r4=true from h) x (List.mem_of_getElem? hx))⟩
 ·have aA:p9 a=r4 a:=by cases a<;>first | rfl | exact absurd ⟨_,_,rfl⟩ hf
  rw[ln fun f c e=>hf ⟨f,c,e⟩] at hv ⊢
  exact hv.aW (aA▸h)
theorem V2.aW {E:Env} {a:AV} {v:Value} (h:h3 a=true) (hv:V2 E a v):V2 E.aW a v:=by
 by_cases hf: ∃l,a= .agg l
 ·obtain⟨l,rfl⟩:=hf
  obtain⟨vs,e,ab⟩:=hv
  exact⟨vs,e,ab.1,fun i x y hx ax=>(ab.2 i x y hx ax).aW (List.all_eq_true.1 (show l.all p9=true from h) x (List.mem_of_getElem? hx))⟩
 ·have aA:h3 a=p9 a:=by cases a<;>first | rfl | exact absurd ⟨_,rfl⟩ hf
  rw[ka fun l e=>hf ⟨l,e⟩] at hv ⊢
  exact hv.aW (aA▸h)
theorem V3.aW {E:Env} {a:AV} {v:Value} (h:r5 a=true) (hv:V3 E a v):V3 E.aW a v:=by
 by_cases hf: ∃l,a= .tup l
 ·obtain⟨l,rfl⟩:=hf
  obtain⟨vs,e,ab⟩:=hv
  exact⟨vs,e,ab.1,fun i x y hx ax=>(ab.2 i x y hx ax).aW (List.all_eq_true.1 (show l.all h3=true from h) x (List.mem_of_getElem? hx))⟩
 ·have aA:r5 a=h3 a:=by cases a<;>first | rfl | exact absurd ⟨_,rfl⟩ hf
  rw[kb fun l e=>hf ⟨l,e⟩] at hv ⊢
  exact hv.aW (aA▸h)
theorem SimH.aW {E:Env} {H:List Blk} (h:SimH E H):SimH E.aW H:=
 {h with
  gk:=fun t fZ c hm=>by cases hm
  ey:=fun b t c _ hm=>by cases hm
  fx:=fun c _ ⟨t,hm⟩=>by cases hm
  et:=fun c ⟨t,hm⟩=>by cases hm}
theorem Good.toStep [bF] {bx E:Env} (h:Good bx E):Step bx E.aW:=
 ⟨⟨h.le.dC,h.le.dr,h.le.nC,h.le.wf,h.le.aE,h.le.m,fun t c hm=>by rw[h.aW t] at hm;cases hm⟩,h.os,h.tape,h.output,h.size,fun c hc h1 _=>h.b3 c hc h1,h.fV,(fun c ⟨t,hm⟩=>by cases hm),h.dC,h.dr⟩
def nv (P:Program) (ac:St):List ResultVar→(List AV→Prop)→Prop
 | [],K=>K []
 | .tmp t::rs,K=>nv P ac rs fun l=>K (ac.T.getD t .undef::l)
 | .cell a t::rs,K=>kq P t (ac.T.getD a .undef) ac.L ac.H fun x=>nv P ac rs fun l=>K (x::l)
def qD:List AV→AV
 | [x]=>x
 | l=> .tup l
def qj (P:Program) (fn:Func) (ac:St) (Q:AV→List Blk→Prop):Prop:=nv P ac fn.results.toList fun l=>l.all h3=true∧Q (qD l) ac.H
theorem IH {E:Env} {P:Program} {t:TypeId} {x:AV} {L:List (Nat×List AV)} {H:List Blk} {K:AV→Prop} {v:Value} (ag:SimH E H) (aY:SimL E L) (hx:V3 E x v) (h:kq P t x L H K):
  ∃a cM,K a∧(do loadVar t (←asAddr v):Sem Value).run P E.w= .ok cM E.w∧V2 E a cM:=by
 obtain⟨a,cM,hK,aa,hv⟩:=E9 (Sub.refl L H) ag aY hx h
 refine⟨a,cM,hK,?_,hv⟩
 have: ∃ia,v= .pointer (some ia):=by
  cases x with
  | dn s c=>obtain⟨bl,_,rfl⟩:=hx.r0;exact⟨_,rfl⟩
  | ptr b g r c=>
   rcases(show cY E (.ptr b g r c) v from hx) with⟨_,bl,o,rfl⟩ | ⟨_,bl,_,rfl⟩<;>exact⟨_,rfl⟩
  | cv cells c=>
   have gi:ar E.w E.PA E.PF (.cv cells c) v:=hx
   cases gi;exact⟨_,rfl⟩
  | _=>exact h.elim
 obtain⟨ia,rfl⟩:=this
 simpa[Instr.loadAt,Instr.sureAddr,asAddr] using aa
theorem zT {P:Program} {ac:St} {E:Env} {tmps:Array Value} (hs:nO E ac tmps) {f:ResultVar→Sem Value} (f1: ∀t,f (.tmp t)=pure (tmps.getD t undef))
  (f2: ∀a t,f (.cell a t)=do loadVar t (←asAddr (tmps.getD a undef))): ∀(rs:List ResultVar) (K:List AV→Prop),nv P ac rs K→
  ∃l vs,K l∧(rs.mapM f).run P E.w= .ok vs E.w∧aw (V3 E) l vs
 | [],K,h=>⟨[],[],h,rfl,aw.nil⟩
 | .tmp t::rs,K,h=>by
  obtain⟨l,vs,hK,aa,ab⟩:=zT hs f1 f2 rs _ h
  exact⟨_,_,hK,by simp only[List.mapM_cons,f1,Sem.run_bind,Sem.run_pure,Result.andThen_ok,aa],aw.cons (hs.fy t) ab⟩
 | .cell a t::rs,K,h=>by
  obtain⟨x,cM,h2,ym,hv⟩:=IH hs.h hs.l (hs.fy a) h
  obtain⟨l,vs,hK,aa,ab⟩:=zT hs f1 f2 rs _ h2
  refine⟨_,_,hK,?_,aw.cons (lq hv) ab⟩
  simp only[List.mapM_cons,f2]
  rw[Sem.run_bind,ym]
  simp only[Result.andThen_ok,Sem.run_bind,aa,Sem.run_pure]
theorem QV (fn:Func) (tmps:Array Value): ∃f:ResultVar→Sem Value,results fn tmps=(fn.results.mapM f>>=fun vs=>pure (if h:vs.size=1 then vs[0] else .tuple vs))∧(∀t,f (.tmp t)=pure (tmps.getD t undef))∧
  ∀b t,f (.cell b t)=(asAddr (tmps.getD b undef)>>=fun a=>loadVar t a):=⟨_,rfl,fun _=>rfl,fun _ _=>rfl⟩
def qT (P:Program) (fn:Func) (Q:AV→List Blk→Prop) (ex:Exit) (ac:St):Prop:=match ex with
 | .normal | .ret=>qj P fn ac Q
 | _=>False
def uA (fn:Func) (args:List AV) (H:List Blk):St:=⟨args++List.replicate (fn.ntmps - args.length) .undef,[],H⟩
theorem Iu {E:Env} {a:AV} {v:Value} (h:h3 a=true) (hv:V3 E a v) (aC: ∀l,a≠ .tup l):V2 E.aW a v:=by
 rw[kb aC] at hv;exact hv.aW h
theorem ej.FO {P:Program} {f:FuncId} {fn:Func} {c:Code} {args:List AV} {H:List Blk} {Q:AV→List Blk→Prop} (hf:P.funcs[f]?=some fn) (hb:fn.body=some c) (af:(fn.name== "runtime.NumGoroutine")=false)
  (h: ∀fQ:bF,fQ.n=H.length→WpS P c (qT P fn Q) (uA fn args H)):ej P f args H Q:=by
 refine⟨by simp[nt,hf,hb,af],?_⟩
 intro E vs af ag ab
 letI:bF:=⟨H.length⟩
 refine calls_of_wp hf hb (wp_mono (h ⟨H.length⟩ rfl E E {tmps:=vs.toArray++Array.replicate (fn.ntmps - vs.toArray.size) undef,defers:=[]} (Good.refl ag.fresh af) ⟨ag,(fun t c hm=>by rw[af t] at hm;cases hm),fun t=> ?_,?_⟩ rfl) ?_)
 ·show V3 E ((args++List.replicate (fn.ntmps - args.length) AV.undef).getD t AV.undef) _
  rcases Nat.lt_or_ge t args.length with ay | eo
  ·have h1:args[t]?=some args[t]:=List.getElem?_eq_getElem ay
   obtain⟨v,hv,aa⟩:=ab.get h1
   have yg:t<vs.length:=ab.1▸ay
   have aO:(args++List.replicate (fn.ntmps - args.length) AV.undef).getD t .undef=args[t]:=by
    rw[List.getD_eq_getElem?_getD,List.getElem?_append_left ay,h1];rfl
   have e2:(vs.toArray++Array.replicate (fn.ntmps - vs.toArray.size) undef).getD t undef=v:=by
    rw[Array.getD_eq_getD_getElem?,Array.getElem?_append_left (by simpa using yg)]
    simp[hv]
   rw[aO,e2];exact lq aa
  ·have aO:(args++List.replicate (fn.ntmps - args.length) AV.undef).getD t .undef= .undef:=by
    rw[List.getD_eq_getElem?_getD,List.getElem?_append_right eo,List.getElem?_replicate];split<;>rfl
   rw[aO];exact V3.undef _ _
 ·simp[uA,ab.1]
 ·rintro e a w ⟨hex,ac,E',al,hw,aJ,hs,aL⟩
  have fin:qj P fn ac Q→a.defers=[]∧ ∃v,(results fn a.tmps).run P w= .ok v w∧ ∃r HS H' E',(Ending.returned v)= .returned HS∧Q r H'∧E'.w=w∧(∀t,E'.mL t=none)∧SimH E' H'∧V3 E' r HS∧Step E E':=by
   intro MY
   refine⟨aL,?_⟩
   subst hw
   have hm: ∀f:ResultVar→Sem Value,(∀t,f (.tmp t)=pure (a.tmps.getD t undef))→(∀b t,f (.cell b t)=do loadVar t (←asAddr (a.tmps.getD b undef)))→ ∃l dh,(l.all h3=true∧Q (qD l) ac.H)∧(fn.results.mapM f).run P E'.w= .ok (List.toArray dh) E'.w∧aw (V3 E') l dh:=by
    intro f f1 f2
    obtain⟨l,dh,h1,aa,h2⟩:=zT hs f1 f2 _ _ MY
    exact⟨l,dh,h1,by rw[Array.mapM_eq_mapM_toList,Sem.run_map,aa];rfl,h2⟩
   obtain⟨f,rC,rD,hf2⟩:=QV fn a.tmps
   obtain⟨l,dh,⟨Dm,LY⟩,aa,um⟩:=hm f rD hf2
   refine⟨if h:dh.toArray.size=1 then dh.toArray[0] else .tuple dh.toArray,?_,qD l,_,ac.H,E'.aW,rfl,LY,rfl,fun _=>rfl,hs.h.aW,?_,aJ.toStep⟩
   ·rw[rC,Sem.run_bind,aa];rfl
   ·cases l with
    | nil=>
     obtain rfl:=um.jZ
     exact⟨[],rfl,aw.nil⟩
    | cons x l=>
     obtain⟨u,S6,rfl,hx,Dt⟩:=um.cons_inv
     cases l with
     | nil=>
      obtain rfl:=Dt.jZ
      show V3 E'.aW x u
      have iH:h3 x=true:=by simpa using Dm
      exact hx.aW (by cases x<;>first | exact iH | (cases iH))
     | cons y l=>
      obtain⟨z,Sg,rfl,ax,SV⟩:=Dt.cons_inv
      have bz: ¬(List.toArray (u::z::Sg)).size=1:=by simp
      rw[dif_neg bz]
      refine⟨_,rfl,?_⟩
      refine⟨um.1,fun i p q Ds MW=> ?_⟩
      have hv:=um.2 i p q Ds MW
      have iH:h3 p=true:=List.all_eq_true.1 Dm p (List.mem_of_getElem? Ds)
      have aC: ∀l,p≠ .tup l:=by
       intro l e;subst e;cases iH
      exact Iu iH hv aC
  cases e with
  | normal=>exact fin al
  | ret=>exact fin al
  | exit id=>exact al.elim
  | _=>cases hex
inductive dQ (L:List (Nat×List AV)) (H:List Blk):AV→AV→Prop where
 | undef (a:AV):dQ L H a .undef
 | int (k:IntKind) (n:Int):dQ L H (.int k n) (.int k n)
 | bool (b:Bool):dQ L H (.bool b) (.bool b)
 | str (s:ByteArray):dQ L H (.str s) (.str s)
 | dU:dQ L H .dU .dU
 | eh:dQ L H .eh .eh
 | av (rows:List (List AV)) (full fr cn:Bool) (hw:cn=true→full=true):dQ L H (.av rows full fr) (.av rows cn false)
 | cv (cells:List AV) (c:Nat):dQ L H (.cv cells c) (.cv cells c)
 | dn {t c:Nat} {cells eE:List AV} (h:cG L t=some cells) (ak:cells.length=eE.length)
   (aa: ∀(j:Nat) (a b:AV),cells[j]?=some a→eE[j]?=some b→dQ L H a b):dQ L H (.dn t c) (.cv eE c)
 | ptr {b g r c:Nat} {blk:Blk} {row row':List AV} (hb:H[b]?=some blk) (aJ:blk.aE=g) (di:blk.rows[r]?=some row) (ak:row.length=row'.length)
   (aa: ∀(j:Nat) (a b:AV),row[j]?=some a→row'[j]?=some b→dQ L H a b):dQ L H (.ptr b g r c) (.cv row' c)
 | ref {b g off n:Nat} {full cn:Bool} {blk:Blk} {jg:List (List AV)} (hw:cn=true→full=true) (hb:H[b]?=some blk) (aJ:blk.aE=g) (af:jg.length=n) (dR:n≤4611686018427387904) (br:off+n≤blk.rows.length)
   (ak: ∀(i:Nat) (row row':List AV),blk.rows[off+i]?=some row→jg[i]?=some row'→row.length=row'.length)
   (aa: ∀(i j:Nat) (row row':List AV) (a c:AV),blk.rows[off+i]?=some row→jg[i]?=some row'→row[j]?=some a→row'[j]?=some c→dQ L H a c):
   dQ L H (.ref b g off n full) (.av jg cn false)
 | fn {f:FuncId} {caps q9:List AV} (ak:caps.length=q9.length) (aa: ∀(j:Nat) (a b:AV),caps[j]?=some a→q9[j]?=some b→dQ L H a b):dQ L H (.fn f caps) (.fn f q9)
def fB (L:List (Nat×List AV)) (H:List Blk) (a b:AV):Prop:=
 (∃l dy,a= .agg l∧b= .agg dy∧aw (dQ L H) l dy)∨dQ L H a b
def Env.frozen (E:Env):Env:={w:=E.w,PA:=fun c=>E.PA c∨E.dx c∨E.hn c,PF:=fun _=>False,m:=fun _=>none,aE:=fun _=>0,sz:=fun _=>0,cp:=fun _=>0,mL:=fun _=>none}
theorem CF {E:Env} {H:List Blk} (h:SimH E H):SimH E.frozen [] where
 heap:=fun b c hb=>by cases hb
 cS:=fun b blk hb=>by simp at hb
 e0:=fun b hb=>by cases hb
 fresh:=fun b _=>⟨rfl,rfl⟩
 ee:=fun b bC c hb=>by cases hb
 gk:=fun t fZ c hb=>by cases hb
 ey:=fun b t c hb=>by cases hb
 fm:=fun c _ ⟨b,hb⟩=>by cases hb
 fx:=fun c _ ⟨b,hb⟩=>by cases hb
 ck:=fun c hc=>hc.elim
 dz:=fun c hc=>hc.elim
 cu:=fun c hc=>hc.elim (h.cu c) fun hc=>hc.elim (h.dB c) (h.et c)
 dB:=fun c ⟨b,hb⟩=>by cases hb
 et:=fun c ⟨b,hb⟩=>by cases hb
theorem wm {E:Env} {a:AV} {v:Value} (h:cY E a v):be E a v:=by
 by_cases hf: ∃f caps,a= .fn f caps
 ·obtain⟨f,caps,rfl⟩:=hf
  exact ar.v1 h
 ·rw[ln fun f c e=>hf ⟨f,c,e⟩];exact h
theorem G6 {L gX:List (Nat×List AV)} {H da:List Blk} {E:Env} (sub:Sub L H gX da) (ag:SimH E da) (aY:SimL E gX) {a b:AV} (h:dQ L H a b):
  ∀{v:Value},be E a v→ar E.w (fun c=>E.PA c∨E.dx c∨E.hn c) (fun _=>False) b v:=by
 induction h with
 | undef a=>intro v _;exact .undef v
 | int k n=>intro v hv;have hv:ar E.w E.PA E.PF (.int k n) v:=hv;cases hv;exact .int _ _
 | bool k=>intro v hv;have hv:ar E.w E.PA E.PF (.bool k) v:=hv;cases hv;exact .bool _
 | str k=>intro v hv;have hv:ar E.w E.PA E.PF (.str k) v:=hv;cases hv;exact .str _
 | dU=>intro v hv;have hv:ar E.w E.PA E.PF .dU v:=hv;cases hv;exact .dU
 | eh=>intro v hv;have hv:ar E.w E.PA E.PF .eh v:=hv;cases hv;exact .eh
 | av rows full fr cn hw=>
  intro v hv
  have hv:ar E.w E.PA E.PF (.av rows full fr) v:=hv
  cases hv with
  | av dc c2 dS bz cA hrel=>
   exact .av (fun c hc=>by
    have:=dc c hc
    simp only[Bool.false_eq_true,if_false]
    split at this
    ·exact .inl (ag.ck c this)
    ·exact .inl this) c2 (fun h=>dS (hw h)) bz cA hrel
 | cv cells c=>
  intro v hv
  have hv:ar E.w E.PA E.PF (.cv cells c) v:=hv
  cases hv with
  | cv hc cA hrel=>exact .cv (.inl hc) cA fun j a O=>(hrel j a O).mono (fun _ _=>rfl) (fun _ h=>h.elim) (fun c hc=> .inl hc) (fun _ h=>h)
 | @dn t c cells eE aJ ak aa aT=>
  intro v hv
  obtain⟨bl,hm,rfl⟩:=(show ∃bl,E.mL t=some bl∧v= .pointer (some ⟨bl,c,none⟩) from hv)
  obtain⟨q_,ad,ty,rF,hw,ab⟩:=aY t bl hm
  obtain rfl:cells=q_:=by have:=sub.l _ _ aJ;rw[rF] at this;exact(Option.some.inj this).symm
  have key:=ar.cv (w:=E.w) (PA:=fun c=>E.PA c∨E.dx c∨E.hn c) (PF:=fun _=>False) (cells:=eE) (col:=c) (c:=bl) (o:=0) (vs:=fun j=>(ad[j]?).getD undef)
   (.inr (.inr ⟨t,hm⟩))
   (fun j O=>by
    have ay:j<ad.size:=by have:=ab.1;simp at this;omega
    rw[Nat.zero_add]
    rw[cell_of hw (Array.getElem?_eq_getElem ay)]
    simp[Array.getElem?_eq_getElem ay])
   (fun j b O=>by
    have ay:j<cells.length:=by have:=(List.getElem?_eq_some_iff.1 O).1;omega
    obtain⟨u,hu,eL⟩:=ab.get (List.getElem?_eq_getElem ay)
    have:(ad[j]?).getD undef=u:=by rw[Array.getElem?_toList] at hu;rw[hu];rfl
    rw[this]
    exact aT j _ b (List.getElem?_eq_getElem ay) O eL.up)
  rw[Nat.zero_add] at key
  exact key
 | @ptr b g r c blk row row' hb aJ di ak aa aT=>
  intro v hv
  have hb:=sub.h b blk hb
  have gN:=ag.cS b blk hb
  obtain⟨bl,hm,rfl⟩:=V3.u6 (E:=E) (v:=v) (show V3 E (.ptr b g r c) v from hv) (gN.trans aJ)
  obtain⟨blk',ad,ty,q1,bJ,hw,hY,hlen,ec⟩:=ag.heap b bl hm
  obtain rfl:blk=blk':=by rw[hb] at q1;exact Option.some.inj q1
  exact ar.cv (vs:=fun j=>(ad[r*E.sz b+j]?).getD undef) (.inr (.inl ⟨b,hm⟩))
   (fun j O=>by
    have ay:j<row.length:=by omega
    obtain⟨u,hu,_⟩:=ec.2 r j row _ di (List.getElem?_eq_getElem ay)
    rw[cell_of hw hu,hu];rfl)
   (fun j cJ O=>by
    have ay:j<row.length:=by have:=(List.getElem?_eq_some_iff.1 O).1;omega
    obtain⟨u,hu,eL⟩:=ec.2 r j row _ di (List.getElem?_eq_getElem ay)
    rw[hu]
    exact aT j _ cJ (List.getElem?_eq_getElem ay) O eL.up)
 | @ref b g off n full cn blk jg yv hb aJ af dR br ak aa aT=>
  intro v hv
  have hb:=sub.h b blk hb
  have gN:=ag.cS b blk hb
  rcases(show cY E (.ref b g off n full) v from hv) with⟨aX,_⟩ | ⟨eo,aX⟩
  ·omega
  ·rcases aX with⟨_,_,iG,A,rfl⟩ | ⟨c,cap,hm,rfl,kk,kV,lL⟩
   ·subst iG
    obtain rfl:jg=[]:=List.eq_nil_of_length_eq_zero af
    exact ar.av (rows:=[]) (PB:=fun _=>False) (sz:=0) (vs:=fun _ _=>undef) (fun _ h=>h.elim) ⟨Nat.le_refl _,Nat.zero_le _⟩ (fun _=>rfl) (fun i row h=>by simp at h) (fun h=>by simp at h) (fun i j row a h=>by simp at h)
   ·obtain⟨blk',ad,ty,q1,bJ,hw,hY,hlen,ec⟩:=ag.heap b c hm
    obtain rfl:blk=blk':=by rw[hb] at q1;exact Option.some.inj q1
    subst af
    have di: ∀i,i<jg.length→ ∃row,blk.rows[off+i]?=some row:=fun i hi=>⟨_,List.getElem?_eq_getElem (by omega)⟩
    refine ar.av (PB:=fun c=>E.PA c∨E.dx c∨E.hn c) (sz:=E.sz b) (vs:=fun i j=>(ad[(off+i)*E.sz b+j]?).getD undef) (fun c hc=>by simpa using hc) ⟨kk,dR⟩ (fun h=>kV (yv h))
     (fun i row' c0=> ?_) (fun h0=>⟨c,off*E.sz b,rfl,.inr (.inl ⟨b,hm⟩),fun i j hi O=> ?_⟩) (fun i j row' a c0 O=> ?_)
    ·obtain⟨row,gu⟩:=di i (List.getElem?_eq_some_iff.1 c0).1
     rw[←ak i row row' gu c0];exact ec.1 _ row gu
    ·obtain⟨row,gu⟩:=di i hi
     have ay:j<row.length:=by rw[ec.1 _ row gu];exact O
     obtain⟨u,hu,_⟩:=ec.2 (off+i) j row _ gu (List.getElem?_eq_getElem ay)
     rw[show off*E.sz b+(i*E.sz b+j)=(off+i)*E.sz b+j by rw[Nat.add_mul];omega,cell_of hw hu,hu];rfl
    ·obtain⟨row,gu⟩:=di i (List.getElem?_eq_some_iff.1 c0).1
     have ay:j<row.length:=by rw[ak i row row' gu c0];exact(List.getElem?_eq_some_iff.1 O).1
     obtain⟨u,hu,eL⟩:=ec.2 (off+i) j row _ gu (List.getElem?_eq_getElem ay)
     rw[hu]
     exact aT i j row row' _ a gu c0 (List.getElem?_eq_getElem ay) O eL.up
 | @fn f caps q9 ak aa aT=>
  intro v hv
  obtain⟨vs,rfl,ab⟩:=(show ∃vs:List Value,v= .func (.func f) #[] vs.toArray∧aw (cY E) caps vs from hv)
  exact .fn (ak▸ab.1) fun i b u hb hu=>by
   have ay:i<caps.length:=by have:=(List.getElem?_eq_some_iff.1 hb).1;omega
   exact aT i _ b (List.getElem?_eq_getElem ay) hb (wm (ab.2 i _ u (List.getElem?_eq_getElem ay) hu))
theorem G7 {L gX:List (Nat×List AV)} {H da:List Blk} {E:Env} (sub:Sub L H gX da) (ag:SimH E da) (aY:SimL E gX) {a b:AV} (h:fB L H a b) {v:Value} (hv:V2 E a v):V2 E.frozen b v:=by
 rcases h with⟨l,dy,rfl,rfl,ab⟩ | h
 ·obtain⟨vs,rfl,al⟩:=hv
  refine⟨vs,rfl,ab.1▸al.1,fun i x u hx hu=> ?_⟩
  have ay:i<l.length:=by have:=(List.getElem?_eq_some_iff.1 hx).1;have:=ab.1;omega
  have ak:=List.getElem?_eq_getElem ay
  exact ar.v1 (E:=E.frozen) (G6 sub ag aY (ab.2 i _ x ak hx) (al.2 i _ u ak hu))
 ·by_cases hf: ∃l,a= .agg l
  ·obtain⟨l,rfl⟩:=hf
   cases h with
   | undef=>exact ar.undef v
  ·rw[ka fun l e=>hf ⟨l,e⟩] at hv
   exact h_ (ar.v1 (E:=E.frozen) (G6 sub ag aY h hv))
inductive en (H:List Blk):AV→AV→Prop where
 | int (k:IntKind) (n:Int):en H (.int k n) (.int k n)
 | bool (b:Bool):en H (.bool b) (.bool b)
 | str (s:ByteArray):en H (.str s) (.str s)
 | dU:en H .dU .dU
 | eh:en H .eh .eh
 | av (rows:List (List AV)) (full cn:Bool) (hw:cn=true→full=true):en H (.av rows full true) (.av rows cn true)
 | Fl (full fr cn:Bool) (hw:cn=true→full=true):en H (.av [] full fr) (.av [] cn true)
 | ref {b g off n:Nat} {full cn:Bool} {blk:Blk} {jg:List (List AV)} (hw:cn=true→full=true) (ad:Nat→Nat→AV) (hb:H[b]?=some blk) (aJ:blk.aE=g) (af:jg.length=n) (dR:n≤4611686018427387904) (br:off+n≤blk.rows.length)
   (ak: ∀(i:Nat) (row row':List AV),blk.rows[off+i]?=some row→jg[i]?=some row'→row.length=row'.length)
   (aa: ∀(i j:Nat) (row:List AV) (a:AV),i<n→blk.rows[off+i]?=some row→row[j]?=some a→en H a (ad i j))
   (hc: ∀(i j:Nat) (row':List AV) (c:AV),jg[i]?=some row'→row'[j]?=some c→c=fO (ad i j)):
   en H (.ref b g off n full) (.av jg cn true)
def nP (H:List Blk) (a b:AV):Prop:=(∃l dy,a= .agg l∧b= .agg dy∧aw (en H) l dy)∨en H a b
def iy (H:List Blk) (a b:AV):Prop:=(∃l dy,a= .tup l∧b= .tup dy∧aw (nP H) l dy)∨nP H a b
theorem Rr {H:List Blk} {a b:AV} (h:en H a b):gb b=true:=by cases h<;>rfl
theorem G9 {H:List Blk} {E:Env} (ag:SimH E H) {a b:AV} (h:en H a b):
  ∀{v:Value},be E a v→ar E.w (fun c=>E.PF c∨E.dx c) (fun c=>E.PF c∨E.dx c) b v:=by
 induction h with
 | int k n=>intro v hv;have hv:ar E.w E.PA E.PF (.int k n) v:=hv;cases hv;exact .int _ _
 | bool k=>intro v hv;have hv:ar E.w E.PA E.PF (.bool k) v:=hv;cases hv;exact .bool _
 | str k=>intro v hv;have hv:ar E.w E.PA E.PF (.str k) v:=hv;cases hv;exact .str _
 | dU=>intro v hv;have hv:ar E.w E.PA E.PF .dU v:=hv;cases hv;exact .dU
 | eh=>intro v hv;have hv:ar E.w E.PA E.PF .eh v:=hv;cases hv;exact .eh
 | av rows full cn hw=>
  intro v hv
  have hv:ar E.w E.PA E.PF (.av rows full true) v:=hv
  cases hv with
  | av dc c2 dS bz cA hrel=>exact .av (fun c hc=>by have:=dc c hc;simp at this ⊢;exact .inl this) c2 (fun h=>dS (hw h)) bz cA hrel
 | Fl full fr cn hw=>
  intro v hv
  have hv:ar E.w E.PA E.PF (.av [] full fr) v:=hv
  cases hv with
  | av dc c2 dS bz cA hrel=>exact ar.av (rows:=[]) (PB:=fun _=>False) (sz:=0) (vs:=fun _ _=>undef) (fun _ h=>h.elim) c2 (fun h=>dS (hw h)) (fun i row h=>by simp at h) (fun h=>by simp at h) (fun i j row a h=>by simp at h)
 | @ref b g off n full cn blk jg yv ad hb aJ af dR br ak aa hc aT=>
  intro v hv
  have gN:=ag.cS b blk hb
  rcases(show cY E (.ref b g off n full) v from hv) with⟨aX,_⟩ | ⟨eo,aX⟩
  ·omega
  ·rcases aX with⟨_,_,iG,A,rfl⟩ | ⟨c,cap,hm,rfl,kk,kV,lL⟩
   ·subst iG
    obtain rfl:jg=[]:=List.eq_nil_of_length_eq_zero af
    exact ar.av (rows:=[]) (PB:=fun _=>False) (sz:=0) (vs:=fun _ _=>undef) (fun _ h=>h.elim) ⟨Nat.le_refl _,Nat.zero_le _⟩ (fun _=>rfl) (fun i row h=>by simp at h) (fun h=>by simp at h) (fun i j row a h=>by simp at h)
   ·obtain⟨blk',pv,ty,q1,bJ,hw,hY,hlen,ec⟩:=ag.heap b c hm
    obtain rfl:blk=blk':=by rw[hb] at q1;exact Option.some.inj q1
    subst af
    have di: ∀i,i<jg.length→ ∃row,blk.rows[off+i]?=some row:=fun i hi=>⟨_,List.getElem?_eq_getElem (by omega)⟩
    refine ar.av (PB:=fun c=>E.PF c∨E.dx c) (sz:=E.sz b) (vs:=fun i j=>(pv[(off+i)*E.sz b+j]?).getD undef) (fun c hc=>by simpa using hc) ⟨kk,dR⟩ (fun h=>kV (yv h))
     (fun i row' c0=> ?_) (fun h0=>⟨c,off*E.sz b,rfl,.inr ⟨b,hm⟩,fun i j hi O=> ?_⟩) (fun i j row' a c0 O=> ?_)
    ·obtain⟨row,gu⟩:=di i (List.getElem?_eq_some_iff.1 c0).1
     rw[←ak i row row' gu c0];exact ec.1 _ row gu
    ·obtain⟨row,gu⟩:=di i hi
     have ay:j<row.length:=by rw[ec.1 _ row gu];exact O
     obtain⟨u,hu,_⟩:=ec.2 (off+i) j row _ gu (List.getElem?_eq_getElem ay)
     rw[show off*E.sz b+(i*E.sz b+j)=(off+i)*E.sz b+j by rw[Nat.add_mul];omega,cell_of hw hu,hu];rfl
    ·have hi:=(List.getElem?_eq_some_iff.1 c0).1
     obtain⟨row,gu⟩:=di i hi
     have ay:j<row.length:=by rw[ak i row row' gu c0];exact(List.getElem?_eq_some_iff.1 O).1
     obtain⟨u,hu,eL⟩:=ec.2 (off+i) j row _ gu (List.getElem?_eq_getElem ay)
     have h1:=aT i j row _ hi gu (List.getElem?_eq_getElem ay) eL.up
     have h2:=Rr (aa i j row _ hi gu (List.getElem?_eq_getElem ay))
     rw[hu,hc i j row' a c0 O]
     exact AG h2 h1 (fun c hc=>hc) (fun c hc=>hc)
def bh (P:Program) (f:FuncId) (args:List AV) (t:AV):Prop:=ej P f args [] fun r da=>iy da r t
theorem BJ {P:Program} {f:FuncId} {args cR:List AV} {t:AV} {L gX:List (Nat×List AV)} {H da:List Blk} {E:Env} {vs:List Value} (sub:Sub L H gX da) (ag:SimH E da) (aY:SimL E gX)
  (ai:aw (V2 E) args vs) (hs:aw (fB L H) args cR) (h:bh P f cR t):
  Calls P f vs.toArray E.w fun e w'=> ∃v E',e= .returned v∧E'.w=w'∧h9 E E'∧V3 E' t v:=by
 have n9:aw (V2 E.frozen) cR vs:=⟨hs.1▸ai.1,fun i x u hx hu=>by
  have ay:i<args.length:=by have:=(List.getElem?_eq_some_iff.1 hx).1;have:=hs.1;omega
  have ak:=List.getElem?_eq_getElem ay
  exact G7 sub ag aY (hs.2 i _ x ak hx) (ai.2 i _ u ak hu)⟩
 refine(h.2 E.frozen vs (fun _=>rfl) (CF ag) n9).mono ?_
 rintro e w' ⟨r,v,H',E1,rfl,aa,rfl,af,cU,hv,aM⟩
 let N:Nat→Prop:=fun c=>E1.PF c∨E1.dx c
 have gh: ∀c,N c→E.w.heap.size≤c∧c<E1.w.heap.size:=by
  rintro c (hc | hc)
  ·exact⟨(aM.dr c hc).elim (fun h=>h.elim) id,cU.cu c (cU.ck c hc)⟩
  ·exact⟨(aM.ko c hc).elim (fun⟨b,hb⟩=>by cases hb) id,cU.dB c hc⟩
 have iW: ∀c,c<E.w.heap.size→E1.w.heap[c]?=E.w.heap[c]?:=fun c hc=>aM.b3 c hc (fun⟨b,hb⟩=>by cases hb) (fun⟨b,hb⟩=>by cases hb)
 let E':Env:={E with w:=E1.w,PA:=fun c=>E.PA c∨N c,PF:=fun c=>E.PF c∨N c}
 have al:h9 E E':=
  {step:=⟨⟨fun c hc=> .inl hc,fun c hc=> .inl hc,fun c hc=>iW c (ag.cu c hc),fun c hc=>iW c (ag.cu c (ag.ck c hc)),fun _=>Nat.le_refl _,fun _ _ h _=>⟨h,rfl,rfl⟩,fun _ _ h=>h⟩,
    aM.os,aM.tape,aM.output,aM.size,fun c hc _ _=>iW c hc,fun _ _ h=> .inl h,fun _ h=> .inl h,fun c hc=>hc.elim .inl (fun h=> .inr (gh c h).1),fun c hc=>hc.elim .inl (fun h=> .inr (gh c h).1)⟩
   m:=rfl,mL:=rfl,aE:=rfl,sz:=rfl,cp:=rfl
   b3:=iW
   dC:=fun c hc=>hc.elim .inl (fun h=> .inr (gh c h))
   ck:=fun c hc=>hc.elim (fun h=> .inl (ag.ck c h)) .inr
   dz:=fun c hc=>hc.elim (fun h=>(ag.dz c h).same (iW c (ag.cu c (ag.ck c h)))) (fun h=>by
    rcases h with h | ⟨b,hb⟩
    ·exact cU.dz c h
    ·obtain⟨_,ad,ty,_,_,q,_⟩:=cU.heap b c hb
     exact⟨ad,ty,q⟩)}
 have up: ∀{b:AV} {u:Value},ar E1.w N N b u→be E' b u:=fun h=>ar.v1 (E:=E') (h.mono (fun _ _=>rfl) (fun _ _=>rfl) (fun c hc=> .inr hc) (fun c hc=> .inr hc))
 have cL: ∀{a b:AV} {u:Value},en H' a b→be E1 a u→be E' b u:=fun ai hu=>up (G9 cU ai hu)
 have dd: ∀{a b:AV} {u:Value},nP H' a b→V2 E1 a u→V2 E' b u:=by
  rintro a b u (⟨l,dy,rfl,rfl,ab⟩ | h) hu
  ·obtain⟨dh,rfl,al⟩:=hu
   refine⟨dh,rfl,ab.1▸al.1,fun i x y hx ax=> ?_⟩
   have ay:i<l.length:=by have:=(List.getElem?_eq_some_iff.1 hx).1;have:=ab.1;omega
   have ak:=List.getElem?_eq_getElem ay
   exact cL (ab.2 i _ x ak hx) (al.2 i _ y ak ax)
  ·have:be E1 a u:=by cases h<;>exact hu
   exact h_ (cL h this)
 have ez: ∀{a b:AV} {u:Value},iy H' a b→V3 E1 a u→V3 E' b u:=by
  rintro a b u (⟨l,dy,rfl,rfl,ab⟩ | h) hu
  ·obtain⟨dh,rfl,al⟩:=hu
   refine⟨dh,rfl,ab.1▸al.1,fun i x y hx ax=> ?_⟩
   have ay:i<l.length:=by have:=(List.getElem?_eq_some_iff.1 hx).1;have:=ab.1;omega
   have ak:=List.getElem?_eq_getElem ay
   exact dd (ab.2 i _ x ak hx) (al.2 i _ y ak ax)
  ·have:V2 E1 a u:=by
    rcases h with⟨l,dy,rfl,rfl,ab⟩ | h
    ·exact hu
    ·cases h<;>exact hu
   exact lq (dd h this)
 exact⟨v,E',rfl,rfl,al,ez aa hv⟩
def wN:AV→Bool
 | .agg _ | .tup _ | .fn _ _=>false
 | _=>true
def r1 (fn:Fn) (first:Array Operand) (caps:List AV) (K:AV→Prop):Prop:=match fn with
 | .func f=>if first.isEmpty=true∧caps.all wN=true then K (.fn f caps) else False
 | _=>False
def c3:AV→Bool
 | .tup _=>false
 | _=>true
def ie (x:AV) (K:FuncId→List AV→Prop):Prop:=match x with
 | .fn f caps=>K f caps
 | _=>False
def kK (P:Program) (f:FuncId) (args:List AV) (L:List (Nat×List AV)) (H:List Blk) (K:AV→Prop):Prop:=
 args.all c3=true∧ ∃cR t,aw (fB L H) args cR∧bh P f cR t∧K t
def xv (P:Program) (c:Call) (aN:Operand→AV) (L:List (Nat×List AV)) (H:List Blk) (K:AV→Prop):Prop:=match c.callee with
 | .builtin .len=>(match c.args.toList,c.argTypes.toList with
  | [x],[t]=>cQ (gy P t (aN x)) (mE (aN x) K)
  | _,_=>False)
 | .value f=>ie (aN f) fun g caps=>kK P g (c.args.toList.map aN++caps) L H K
 | _=>False
def m2 (P:Program) (o:Oper) (aN:Operand→AV) (L:List (Nat×List AV)) (H:List Blk) (K:AV→Prop):Prop:=match o.op with
 | .move x=>K (aN x)
 | .assign x=>K (aN x)
 | .pick c a b=>kc (aN c) fun z=>q5 z (K (aN a)) (K (aN b))
 | .build t ps=>cQ (ps.toList.all fun p=>c3 (aN p.2)) (wJ P t (ps.toList.map fun p=>(p.1,aN p.2)) K)
 | .buildSlice t n ps=>cQ (ps.toList.all fun p=>c3 (aN p.2)) (pq P t n (ps.toList.map fun p=>(p.1,aN p.2)) K)
 | .load t a=>kq P t (aN a) L H K
 | .nilCheck x=>zm (aN x) K
 | .binOp op t x y _=>mV P op t (aN x) (aN y) (lS y) K
 | .unOp op _ x=>vG op (aN x) K
 | .convert s d x=>xb P s d (aN x) K
 | .makeFunc fn first caps=>r1 fn first (caps.toList.map aN) K
 | .fieldAddr t x f=>xz P t (aN x) f K
 | .indexAddr t x i=>pW P t (aN x) (aN i) H K
 | .index t x i=>yB P t (aN x) (aN i) K
 | .slice t x lo hi mx=>(match mx with
  | none=>oU P t (aN x) (lo.map aN) (hi.map aN) H K
  | some _=>False)
 | .extract x i=>xx (aN x) i K
 | .call c=>xv P c aN L H K
 | _=>False
theorem AH {P:Program} {o:Oper} {a:Act} {next:Act→World→Prop} {Q:Exit→Act→World→Prop} {s:Sem Value} {w w':World} {u:Value} (h:s.run P w= .ok u w') (k:next (a.put o.dst u) w'):
  o.upon P a next Q ((do pure (Next.value (←s)):Sem Next).run P w):=by
 rw[Sem.run_bind,h];exact k
theorem parts_eq (ps:Array (Nat×Operand)) (a:Act):(ps.toList.map fun p=>(p.1,a.eval p.2)).toArray=ps.map fun(i,x)=>(i,a.eval x):=by
 apply Array.ext'
 rw[Array.toList_map]
theorem zu {E:Env} {a:Act} {T:List AV} (bu: ∀t,V3 E (T.getD t .undef) (a.tmps.getD t undef)) (ps:List (Nat×Operand)) (af: ∀p∈ps,∀l,bt T p.2≠ .tup l):
  aw (fun(x:Nat×AV) (y:Nat×Value)=>x.1=y.1∧V2 E x.2 y.2) (ps.map fun p=>(p.1,bt T p.2)) (ps.map fun p=>(p.1,a.eval p.2)):=by
 refine⟨by simp,fun i x y hx ax=> ?_⟩
 rw[List.getElem?_map] at hx ax
 cases ab:ps[i]? with
 | none=>simp[ab] at hx
 | some p=>
  simp[ab] at hx ax
  subst hx;subst ax
  refine⟨rfl,?_⟩
  have:=opv_rel bu p.2
  rwa [kb (af p (List.mem_of_getElem? ab))] at this
theorem Bp {E:Env} {a:Act} {T:List AV} (bu: ∀t,V3 E (T.getD t .undef) (a.tmps.getD t undef)) (xs:List Operand) (af: ∀x∈xs,∀l,bt T x≠ .tup l):
  aw (V2 E) (xs.map (bt T)) (xs.map a.eval):=by
 refine⟨by simp,fun i x y hx ax=> ?_⟩
 rw[List.getElem?_map] at hx ax
 cases ab:xs[i]? with
 | none=>simp[ab] at hx
 | some p=>
  simp[ab] at hx ax
  subst hx;subst ax
  have:=opv_rel bu p
  rwa [kb (af p (List.mem_of_getElem? ab))] at this
theorem p_ {a:AV} (h:c3 a=true): ∀l,a≠ .tup l:=by
 intro l e;subst e;cases h
theorem FS {E:Env} {a:Act} {T:List AV} (bu: ∀t,V3 E (T.getD t .undef) (a.tmps.getD t undef)) (x:Option Operand):
  sU E (x.map (bt T)) (x.map a.eval):=by
 cases x with
 | none=>trivial
 | some x=>exact opv_rel bu x
theorem BK {E:Env} {a:Act} {T:List AV} (bu: ∀t,V3 E (T.getD t .undef) (a.tmps.getD t undef)) {f:Operand} {g:FuncId} {caps:List AV} (h:bt T f= .fn g caps):
  ∃vs:List Value,a.eval f= .func (.func g) #[] vs.toArray∧aw (V2 E) caps vs:=by
 have:=opv_rel bu f
 rw[h] at this
 obtain⟨vs,e,ab⟩:=(show ∃vs:List Value,a.eval f= .func (.func g) #[] vs.toArray∧aw (cY E) caps vs from this)
 exact⟨vs,e,ab.mono fun _ _ k=>h_ (wm k)⟩
theorem Q3 {P:Program} {f:FuncId} {w:World} {args:Array Value} (h:nt P f=true):(callFunc f args).run P w= .ok (.enter f args) w:=by
 unfold nt at h
 cases hf:P.funcs[f]? with
 | none=>simp[hf] at h
 | some fn=>
  simp[hf] at h
  obtain⟨h1,h2⟩:=h
  simp[callFunc,hf,h1]
  cases hb:fn.body with
  | none=>simp[hb] at h2
  | some c=>intro aX;cases aX
theorem GJ {P:Program} {c:Call} {a:Act} {ty:TypeId} {f:Operand} {g:FuncId} {vs:List Value} {w:World} (hc:c.callee= .value f) (hf:a.eval f= .func (.func g) #[] vs.toArray) (h:nt P g=true):
  (do let d ←resolve a.eval c ty;invoke d.target d.args:Sem Next).run P w= .ok (.enter g (c.args.toList.map a.eval++vs).toArray) w:=by
 unfold resolve
 rw[hc]
 simp only[hf,Deferred.ofValue,Sem.run_bind,Sem.run_pure,Result.andThen_ok,invoke]
 rw[Q3 h]
 simp
def qV (E:Env) (o:Oper) (a:Act) (K:AV→Prop):Act→World→Prop:=fun fw w'=> ∃v cM E',K v∧E'.w=w'∧h9 E E'∧V3 E' v cM∧fw=a.put o.dst cM
set_option maxHeartbeats 4000000 in
theorem Cj {P:Program} {o:Oper} {a:Act} {T:List AV} {E:Env} {L gX:List (Nat×List AV)} {H da:List Blk} {K:AV→Prop} {Q:Exit→Act→World→Prop}
  (bu: ∀t,V3 E (T.getD t .undef) (a.tmps.getD t undef)) (sub:Sub L H gX da) (ag:SimH E da) (aY:SimL E gX) (h:m2 P o (bt T) L H K):o.wp P a E.w (qV E o a K) Q:=by
 have fin: ∀{s:Sem Value},(execOp a.eval o=(do pure (Next.value (←s))))→(∃r u E',K r∧s.run P E.w= .ok u E'.w∧h9 E E'∧V3 E' r u)→o.wp P a E.w (qV E o a K) Q:=by
  rintro s hs ⟨r,u,E',hK,aa,al,hv⟩
  unfold Oper.wp
  rw[hs]
  exact AH aa ⟨r,u,E',hK,rfl,al,hv,rfl⟩
 have kP: ∀{s:Sem Value},(execOp a.eval o=(do pure (Next.value (←s))))→(∃r u,K r∧s.run P E.w= .ok u E.w∧V3 E r u)→o.wp P a E.w (qV E o a K) Q:=by
  rintro s hs ⟨r,u,hK,aa,hv⟩
  exact fin hs ⟨r,u,E,hK,aa,h9.refl ag,hv⟩
 have r2: ∀x,execOp a.eval o=pure (.value (a.eval x))→K (bt T x)→o.wp P a E.w (qV E o a K) Q:=by
  intro x hs hK
  unfold Oper.wp
  rw[hs]
  exact⟨_,_,E,hK,rfl,h9.refl ag,opv_rel bu x,rfl⟩
 obtain⟨dst,op,ty,pos,after,guard⟩:=o
 cases op with
 | move x=>exact r2 x rfl h
 | assign x=>exact r2 x rfl h
 | pick c x y=>
  obtain⟨b,hb,h1,h2⟩:=s5 (show kc (bt T c) fun z=>q5 z (K (bt T x)) (K (bt T y)) from h)
  have hv:=opv_rel bu c
  rw[hb] at hv
  have he:a.eval c= .bool b:=V3.jD hv
  cases b with
  | true=>exact r2 x (by simp[execOp,he,asBool]) (h1 rfl)
  | false=>exact r2 y (by simp[execOp,he,asBool]) (h2 rfl)
 | build t ps=>
  obtain⟨af,h⟩:=k_ h
  have:=I5 (P:=P) (zu bu ps.toList fun p ab=>p_ (List.all_eq_true.1 af p ab)) h
  exact kP (s:=Instr.build t (ps.toList.map fun p=>(p.1,a.eval p.2)).toArray) (by rw[parts_eq];rfl) this
 | buildSlice t n ps=>
  obtain⟨af,h⟩:=k_ h
  have:=BD (P:=P) ag (zu bu ps.toList fun p ab=>p_ (List.all_eq_true.1 af p ab)) h
  exact fin (s:=Instr.buildSlice t n (ps.toList.map fun p=>(p.1,a.eval p.2)).toArray) (by rw[parts_eq];rfl) this
 | load t x=>
  obtain⟨r,u,hK,aa,hv⟩:=E9 sub ag aY (opv_rel bu x) h
  exact kP (s:=Instr.loadAt t (a.eval x)) rfl ⟨r,u,hK,aa,lq hv⟩
 | nilCheck x=>
  have hx:=opv_rel bu x
  have h:zm (bt T x) K:=h
  have key: ∀ia,a.eval x= .pointer (some ia)→K (bt T x)→Oper.wp P ⟨dst,.nilCheck x,ty,pos,after,guard⟩ a E.w (qV E ⟨dst,.nilCheck x,ty,pos,after,guard⟩ a K) Q:=by
   intro ia he hK
   exact r2 x (by simp[execOp,he]) hK
  cases k1:bt T x with
  | dn s c=>
   rw[k1] at hx h
   obtain⟨bl,_,e⟩:=hx.r0
   exact key _ e (by rw[k1];exact h)
  | ptr b g r c=>
   rw[k1] at hx h
   rcases(show cY E (.ptr b g r c) _ from hx) with⟨_,bl,o,e⟩ | ⟨_,bl,_,e⟩<;>exact key _ e (by rw[k1];exact h)
  | cv cells c=>
   rw[k1] at hx h
   have gi:ar E.w E.PA E.PF (.cv cells c) (a.eval x):=hx
   generalize hv:a.eval x=v at gi
   cases gi;exact key _ hv (by rw[k1];exact h)
  | _=>rw[k1] at h;exact h.elim
 | binOp op t x y ty2=>
  have yx:lS y=true→a.eval y= .slice none 0 0:=by
   intro aX
   unfold lS at aX
   split at aX
   ·rfl
   ·cases aX
  exact kP (s:=do eqGuard op t x y (a.eval x) (a.eval y);binOp op t (a.eval x) (a.eval y)) rfl (IR (opv_rel bu x) (opv_rel bu y) yx h)
 | unOp op t x=>exact kP (s:=Op.unary op (a.eval x)) rfl (Se (opv_rel bu x) h)
 | convert s d x=>exact kP (s:=Go.convert s d (a.eval x)) rfl (JS (opv_rel bu x) h)
 | makeFunc fn first caps=>
  replace h:r1 fn first (caps.toList.map (bt T)) K:=h
  cases fn with
  | func f=>
   replace h:if first.isEmpty=true∧(caps.toList.map (bt T)).all wN=true then K (.fn f (caps.toList.map (bt T))) else False:=h
   split at h
   ·rename_i hc
    obtain⟨h1,h2⟩:=hc
    have hf:first= #[]:=by simpa using h1
    subst hf
    refine kP (s:=Instr.makeFunc (.func f) (Array.map a.eval #[]) (caps.map a.eval)) rfl ⟨_,.func (.func f) #[] (caps.map a.eval),h,by simp[Instr.makeFunc],(caps.toList.map a.eval),by rw[←Array.toList_map,Array.toArray_toList],by simp,fun i x y hx ax=> ?_⟩
    rw[List.getElem?_map] at hx ax
    cases ab:caps.toList[i]? with
    | none=>simp[ab] at hx
    | some p=>
     simp[ab] at hx ax
     subst hx;subst ax
     have hv:=opv_rel bu p
     have eQ:wN (bt T p)=true:=List.all_eq_true.1 h2 _ (List.mem_map.2 ⟨p,List.mem_of_getElem? ab,rfl⟩)
     cases al:bt T p<;>rw[al] at hv eQ<;>first | exact hv | cases eQ
   ·exact h.elim
  | _=>exact h.elim
 | fieldAddr t x f=>exact kP (s:=Instr.fieldAt t (a.eval x) f) rfl (Kv (opv_rel bu x) h)
 | indexAddr t x i=>exact kP (s:=Instr.indexAt t (a.eval x) (a.eval i)) rfl (Nl sub ag (opv_rel bu x) (opv_rel bu i) h)
 | index t x i=>exact kP (s:=Instr.index t (a.eval x) (a.eval i)) rfl (Nt (opv_rel bu x) (opv_rel bu i) h)
 | slice t x lo hi mx=>
  cases mx with
  | none=>exact kP (s:=Instr.sliceAt t (a.eval x) (lo.map a.eval) (hi.map a.eval) none) rfl (Rf sub ag (opv_rel bu x) (FS bu lo) (FS bu hi) h)
  | some m=>exact h.elim
 | extract x i=>exact kP (s:=Instr.extract (a.eval x) i) rfl (Kn (opv_rel bu x) h)
 | call c=>
  have h:xv P c (bt T) L H K:=h
  obtain⟨callee,args,argTypes⟩:=c
  cases callee with
  | builtin b=>
   cases b with
   | len=>
    have h:(match args.toList,argTypes.toList with
     | [x],[t]=>cQ (gy P t (bt T x)) (mE (bt T x) K)
     | _,_=>False):=h
    split at h
    ·rename_i x t h1 h2
     obtain⟨MJ,MK⟩:=k_ h
     obtain rfl:args= #[x]:=by rw[←Array.toArray_toList (xs:=args),h1]
     obtain rfl:argTypes= #[t]:=by rw[←Array.toArray_toList (xs:=argTypes),h2]
     obtain⟨r,u,hK,aa,hv⟩:=Pr (P:=P) (ty:=ty) (opv_rel bu x) MJ MK
     unfold Oper.wp
     have:(execOp a.eval ⟨dst,.call ⟨.builtin .len,#[x],#[t]⟩,ty,pos,after,guard⟩).run P E.w= .ok (.value u) E.w:=by
      simp only[execOp,resolve,Sem.run_bind,Sem.run_pure,Result.andThen_ok,invoke,builtin]
      have e:Array.map a.eval #[x]= #[a.eval x]:=by simp
      rw[e,aa];rfl
     rw[this]
     exact⟨r,u,E,hK,rfl,h9.refl ag,hv,rfl⟩
    ·exact h.elim
   | _=>exact h.elim
  | value f=>
   have h:ie (bt T f) fun g caps=>kK P g (args.toList.map (bt T)++caps) L H K:=h
   cases hf:bt T f with
   | fn g caps=>
    rw[hf] at h
    obtain⟨af,cR,t,hs,kW,hK⟩:=(show kK P g (args.toList.map (bt T)++caps) L H K from h)
    obtain⟨vs,he,oe⟩:=BK bu hf
    unfold Oper.wp
    rw[show execOp a.eval ⟨dst,.call ⟨.value f,args,argTypes⟩,ty,pos,after,guard⟩=(do let d ←resolve a.eval ⟨.value f,args,argTypes⟩ ty;invoke d.target d.args) from rfl]
    rw[GJ (P:=P) (ty:=ty) (w:=E.w) (c:=⟨.value f,args,argTypes⟩) rfl he kW.1]
    have xW:aw (V2 E) (args.toList.map (bt T)++caps) (args.toList.map a.eval++vs):=
     aw.append (Bp bu args.toList fun x hx=>p_ (List.all_eq_true.1 af _ (by simp;exact .inl ⟨x,by simpa using hx,rfl⟩))) oe
    refine(BJ sub ag aY xW hs kW).mono ?_
    rintro e w' ⟨v,E',rfl,rfl,al,hv⟩
    exact⟨t,v,E',hK,rfl,al,hv,rfl⟩
   | _=>rw[hf] at h;exact h.elim
  | _=>exact h.elim
 | _=>exact h.elim
theorem JY (w:World) (o:Obj) (c:Nat) (h:c<w.heap.size):(w.drew.alloc o).heap[c]?=w.heap[c]?:=mb w.drew o c h
structure jm (w w':World) (o:Obj):Prop where
 os:w'.os=w.os
 tape:w'.tape=w.tape
 output:w'.output=w.output
 size:w'.heap.size=w.heap.size+1
 io: ∀c,c<w.heap.size→w'.heap[c]?=w.heap[c]?
 new:w'.heap[w.heap.size]?=some o
theorem jm.alloc (w:World) (o:Obj):jm w (w.alloc o) o:=⟨rfl,rfl,rfl,by simp,fun c hc=>mb w o c hc,nS w o⟩
theorem jm.JX (w:World) (o:Obj):jm w (w.drew.alloc o) o:=⟨rfl,rfl,rfl,by simp,fun c hc=>JY w o c hc,nS w.drew o⟩
theorem SimH.ext {E:Env} {H H':List Blk} (h:SimH E H) (hs: ∀(b:Nat) (blk:Blk),H[b]?=some blk→H'[b]?=some blk) (ak:H.length≤H'.length) (aJ: ∀(b:Nat) (blk:Blk),H.length≤b→H'[b]?=some blk→blk.aE=0):SimH E H':=
 {h with
  heap:=fun b c hb=>by
   obtain⟨blk,ad,ty,q1,q⟩:=h.heap b c hb
   exact⟨blk,ad,ty,hs b blk q1,q⟩
  cS:=fun b blk hb=>by
   rcases Nat.lt_or_ge b H.length with ay | eo
   ·have h1:=List.getElem?_eq_getElem ay
    have h2:=hs b _ h1
    rw[hb] at h2
    cases h2
    exact h.cS b _ h1
   ·rw[(h.fresh b eo).2,aJ b blk eo hb]
  e0:=fun b hb=>by
   obtain⟨blk,q1,q⟩:=h.e0 b hb
   exact⟨blk,hs b blk q1,q⟩
  fresh:=fun b hb=>h.fresh b (Nat.le_trans ak hb)}
theorem SimH.snoc {E:Env} {H:List Blk} (h:SimH E H) {blk:Blk} (aJ:blk.aE=0):SimH E (H++[blk]):=
 h.ext (fun b x hb=>by rw[List.getElem?_append_left (List.getElem?_eq_some_iff.1 hb).1];exact hb) (by simp) (fun b x hb hx=>by
  rw[List.getElem?_append_right hb] at hx
  have:b - H.length=0:=by
   rcases Nat.eq_zero_or_pos (b - H.length) with q | q
   ·exact q
   ·rw[List.getElem?_eq_none (by simp;omega)] at hx;cases hx
  rw[this] at hx;cases hx;exact aJ)
theorem SimL.cons {E:Env} {L:List (Nat×List AV)} (h:SimL E L) {t:Nat} {cells:List AV} (af:E.mL t=none):SimL E ((t,cells)::L):=fun s c hm=>by
 have:s≠t:=fun e=>by subst e;rw[af] at hm;cases hm
 simp only[cG,if_neg this]
 exact h s c hm
theorem FF {E:Env} {H:List Blk} {L:List (Nat×List AV)} {w':World} {ad:Array Value} {ty:TypeId} {t:Nat} {cells:List AV} (ag:SimH E H) (aY:SimL E L) (hw:jm E.w w' (.cells ad ty (0,0)))
  (aC:cG L t=some cells) (hm:E.mL t=none) (hc:aw (be E.aW) cells ad.toList):
  ∃E',E'.w=w'∧Step E E'∧SimH E' H∧SimL E' L∧V3 E' (.dn t 0) (.pointer (some ⟨E.w.heap.size,0,none⟩))∧E'.m=E.m∧(∀s,s≠t→E'.mL s=E.mL s):=by
 let E':Env:={E with w:=w',mL:=fun s=>if s=t then some E.w.heap.size else E.mL s}
 have aM:Step E E':=
  {le:=⟨fun _ h=>h,fun _ h=>h,fun c hc=>hw.io c (ag.cu c hc),fun c hc=>hw.io c (ag.cu c (ag.ck c hc)),fun _=>Nat.le_refl _,fun _ _ h _=>⟨h,rfl,rfl⟩,fun s c h=>by
    show(if s=t then _ else _)=_
    rw[if_neg (fun e=>by subst e;rw[hm] at h;cases h)];exact h⟩
   os:=hw.os,tape:=hw.tape,output:=hw.output
   size:=by show E.w.heap.size≤w'.heap.size;rw[hw.size];omega
   b3:=fun c hc _ _=>hw.io c hc
   fV:=fun _ _ h=> .inl h
   gj:=fun c ⟨s,hs⟩=>by
    have hs:(if s=t then some E.w.heap.size else E.mL s)=some c:=hs
    split at hs
    ·cases hs;exact .inr (Nat.le_refl _)
    ·exact .inl ⟨s,hs⟩
   dC:=fun _ h=> .inl h
   dr:=fun _ h=> .inl h}
 have hml: ∀s c,E'.mL s=some c→(s=t∧c=E.w.heap.size)∨(s≠t∧E.mL s=some c):=by
  intro s c hs
  have hs:(if s=t then some E.w.heap.size else E.mL s)=some c:=hs
  split at hs
  ·rename_i e;cases hs;exact .inl ⟨e,rfl⟩
  ·rename_i e;exact .inr ⟨e,hs⟩
 have gO:=ag.dB
 have gP:=ag.et
 refine⟨E',rfl,aM,?_,?_,⟨E.w.heap.size,by show(if t=t then _ else _)=_;rw[if_pos rfl],rfl⟩,rfl,fun s hs=>if_neg hs⟩
 ·exact{
   heap:=fun b c hb=>by
    obtain⟨blk,ba,fz,q1,bJ,q2,q3,q4,cI,c4⟩:=ag.heap b c hb
    refine⟨blk,ba,fz,q1,bJ,?_,q3,q4,cI,fun i j row a aa O=> ?_⟩
    ·show w'.heap[c]?=_;rw[hw.io c (gO c ⟨b,hb⟩)];exact q2
    ·obtain⟨u,hu,c0⟩:=c4 i j row a aa O
     exact⟨u,hu,c0.le aM.le.aW⟩
   cS:=ag.cS
   e0:=ag.e0
   fresh:=ag.fresh
   ee:=ag.ee
   gk:=fun s s' c h1 h2=>by
    rcases hml s c h1 with⟨d1,aO⟩ | ⟨_,df⟩<;>rcases hml s' c h2 with⟨d2,e2⟩ | ⟨_,fa⟩
    ·rw[d1,d2]
    ·have:=gP c ⟨s',fa⟩;omega
    ·have:=gP c ⟨s,df⟩;omega
    ·exact ag.gk s s' c df fa
   ey:=fun b s c h1 h2=>by
    rcases hml s c h2 with⟨rfl,rfl⟩ | ⟨_,h2⟩
    ·have:=gO _ ⟨b,h1⟩;omega
    ·exact ag.ey b s c h1 h2
   fm:=ag.fm
   fx:=fun c hc ⟨s,hs⟩=>by
    rcases hml s c hs with⟨rfl,rfl⟩ | ⟨_,hs⟩
    ·have:=ag.cu _ hc;omega
    ·exact ag.fx c hc ⟨s,hs⟩
   ck:=ag.ck
   dz:=fun c hc=>(ag.dz c hc).same (hw.io c (ag.cu c (ag.ck c hc)))
   cu:=fun c hc=>Nat.lt_of_lt_of_le (ag.cu c hc) aM.size
   dB:=fun c hc=>Nat.lt_of_lt_of_le (gO c hc) aM.size
   et:=fun c ⟨s,hs⟩=>by
    rcases hml s c hs with⟨rfl,rfl⟩ | ⟨_,hs⟩
    ·show _<w'.heap.size;rw[hw.size];omega
    ·exact Nat.lt_of_lt_of_le (gP c ⟨s,hs⟩) aM.size}
 ·intro s c hs
  rcases hml s c hs with⟨rfl,rfl⟩ | ⟨_,hs⟩
  ·exact⟨cells,ad,ty,aC,hw.new,hc.mono fun _ _ k=>k.le aM.le.aW⟩
  ·obtain⟨eE,ba,fz,q1,q2,q3⟩:=aY s c hs
   exact⟨eE,ba,fz,q1,by show w'.heap[c]?=_;rw[hw.io c (gP c ⟨s,hs⟩)];exact q2,q3.mono fun _ _ k=>k.le aM.le.aW⟩
theorem p8 {E:Env} {H H':List Blk} {L:List (Nat×List AV)} {w':World} {ad:Array Value} {ty:TypeId} {b cap:Nat} {blk:Blk} (ag:SimH E H) (aY:SimL E L) (hw:jm E.w w' (.cells ad ty (0,0)))
  (hb:H'[b]?=some blk) (br: ∀bC,bC≠b→H'[bC]?=H[bC]?) (hlen:b<H.length→H'.length=H.length) (Dl:H.length≤H'.length)
  (gN:(E.m b=none∧blk.aE=E.aE b)∨E.aE b<blk.aE) (hY:ad.size=cap*blk.sz) (c2:blk.rows.length≤cap)
  (aa:pf E blk.sz blk.rows ad):
  ∃E',E'.w=w'∧Step E E'∧SimH E' H'∧SimL E' L∧E'.aE b=blk.aE∧E'.m b=some (some E.w.heap.size)∧E'.sz b=blk.sz∧E'.cp b=cap∧(∀bC,bC≠b→E'.m bC=E.m bC)∧E'.mL=E.mL:=by
 let E':Env:={E with w:=w',m:=fun bC=>if bC=b then some (some E.w.heap.size) else E.m bC,aE:=fun bC=>if bC=b then blk.aE else E.aE bC,sz:=fun bC=>if bC=b then blk.sz else E.sz bC,cp:=fun bC=>if bC=b then cap else E.cp bC}
 have aM:Step E E':=
  {le:=⟨fun _ h=>h,fun _ h=>h,fun c hc=>hw.io c (ag.cu c hc),fun c hc=>hw.io c (ag.cu c (ag.ck c hc)),fun bC=>by
     show _≤(if bC=b then _ else _)
     split
     ·rename_i e;subst e;rcases gN with⟨_,e⟩ | e<;>omega
     ·exact Nat.le_refl _,fun bC x hx aJ=>by
     have kX:(if bC=b then blk.aE else E.aE bC)=E.aE bC:=aJ
     have bV:bC≠b:=fun e=>by
      subst e
      rw[if_pos rfl] at kX
      rcases gN with⟨af,_⟩ | e
      ·rw[af] at hx;cases hx
      ·omega
     refine⟨?_,?_,?_⟩
     ·show(if bC=b then _ else _)=_;rw[if_neg bV];exact hx
     ·show(if bC=b then _ else _)=_;rw[if_neg bV]
     ·show(if bC=b then _ else _)=_;rw[if_neg bV],fun _ _ h=>h⟩
   os:=hw.os,tape:=hw.tape,output:=hw.output
   size:=by show E.w.heap.size≤w'.heap.size;rw[hw.size];omega
   b3:=fun c hc _ _=>hw.io c hc
   fV:=fun s c hs=>by
    have hs:(if s=b then some (some E.w.heap.size) else E.m s)=some (some c):=hs
    split at hs
    ·cases hs;exact .inr (Nat.le_refl _)
    ·exact .inl hs
   gj:=fun _ h=> .inl h
   dC:=fun _ h=> .inl h
   dr:=fun _ h=> .inl h}
 have hm: ∀s c,E'.m s=some (some c)→(s=b∧c=E.w.heap.size)∨(s≠b∧E.m s=some (some c)):=by
  intro s c hs
  have hs:(if s=b then some (some E.w.heap.size) else E.m s)=some (some c):=hs
  split at hs
  ·rename_i e;cases hs;exact .inl ⟨e,rfl⟩
  ·rename_i e;exact .inr ⟨e,hs⟩
 have gO:=ag.dB
 have gP:=ag.et
 have bz: ∀s,s≠b→E'.sz s=E.sz s:=fun s hs=>if_neg hs
 have lL: ∀s,s≠b→E'.cp s=E.cp s:=fun s hs=>if_neg hs
 have uq:E'.sz b=blk.sz:=if_pos rfl
 have x5:E'.cp b=cap:=if_pos rfl
 have Dc:E'.aE b=blk.aE:=if_pos rfl
 refine⟨E',rfl,aM,?_,?_,Dc,if_pos rfl,uq,x5,fun bC e8=>if_neg e8,rfl⟩
 ·exact{
   heap:=fun s c hs=>by
    rcases hm s c hs with⟨rfl,rfl⟩ | ⟨bV,hs⟩
    ·refine⟨blk,ad,ty,hb,uq,hw.new,by rw[x5,uq];exact hY,by rw[x5];exact c2,?_⟩
     rw[uq]
     exact⟨aa.1,fun i j row a h1 h2=>by obtain⟨u,hu,c0⟩:=aa.2 i j row a h1 h2;exact⟨u,hu,c0.le aM.le.aW⟩⟩
    ·obtain⟨blk',ba,fz,q1,bJ,q2,q3,q4,cI,c4⟩:=ag.heap s c hs
     refine⟨blk',ba,fz,by rw[br s bV];exact q1,by rw[bz s bV];exact bJ,?_,by rw[lL s bV,bz s bV];exact q3,by rw[lL s bV];exact q4,by rw[bz s bV];exact cI,fun i j row a aa O=> ?_⟩
     ·show w'.heap[c]?=_;rw[hw.io c (gO c ⟨s,hs⟩)];exact q2
     ·obtain⟨u,hu,c0⟩:=c4 i j row a aa O
      exact⟨u,by rw[bz s bV];exact hu,c0.le aM.le.aW⟩
   cS:=fun s x hs=>by
    by_cases e:s=b
    ·subst e;rw[hb] at hs;cases hs;exact Dc
    ·rw[br s e] at hs
     show(if s=b then _ else _)=_
     rw[if_neg e];exact ag.cS s x hs
   e0:=fun s hs=>by
    have hs:(if s=b then some (some E.w.heap.size) else E.m s)=some none:=hs
    split at hs
    ·cases hs
    ·rename_i e
     obtain⟨x,q1,q2⟩:=ag.e0 s hs
     exact⟨x,by rw[br s e];exact q1,by rw[bz s e];exact q2⟩
   fresh:=fun s hs=>by
    have ay:b<H'.length:=(List.getElem?_eq_some_iff.1 hb).1
    have e:s≠b:=by omega
    have:=ag.fresh s (by omega)
    exact⟨by show(if s=b then _ else _)=_;rw[if_neg e];exact this.1,by show(if s=b then _ else _)=_;rw[if_neg e];exact this.2⟩
   ee:=fun s s' c h1 h2=>by
    rcases hm s c h1 with⟨d1,aO⟩ | ⟨_,df⟩<;>rcases hm s' c h2 with⟨d2,e2⟩ | ⟨_,fa⟩
    ·rw[d1,d2]
    ·have:=gO c ⟨s',fa⟩;omega
    ·have:=gO c ⟨s,df⟩;omega
    ·exact ag.ee s s' c df fa
   gk:=ag.gk
   ey:=fun s t c h1 h2=>by
    rcases hm s c h1 with⟨rfl,rfl⟩ | ⟨_,h1⟩
    ·have:=gP _ ⟨t,h2⟩;omega
    ·exact ag.ey s t c h1 h2
   fm:=fun c hc ⟨s,hs⟩=>by
    rcases hm s c hs with⟨rfl,rfl⟩ | ⟨_,hs⟩
    ·have:=ag.cu _ hc;omega
    ·exact ag.fm c hc ⟨s,hs⟩
   fx:=ag.fx
   ck:=ag.ck
   dz:=fun c hc=>(ag.dz c hc).same (hw.io c (ag.cu c (ag.ck c hc)))
   cu:=fun c hc=>Nat.lt_of_lt_of_le (ag.cu c hc) aM.size
   dB:=fun c ⟨s,hs⟩=>by
    rcases hm s c hs with⟨rfl,rfl⟩ | ⟨_,hs⟩
    ·show _<w'.heap.size;rw[hw.size];omega
    ·exact Nat.lt_of_lt_of_le (gO c ⟨s,hs⟩) aM.size
   et:=fun c hc=>Nat.lt_of_lt_of_le (gP c hc) aM.size}
 ·intro s c hs
  obtain⟨eE,ba,fz,q1,q2,q3⟩:=aY s c hs
  exact⟨eE,ba,fz,q1,by show w'.heap[c]?=_;rw[hw.io c (gP c ⟨s,hs⟩)];exact q2,q3.mono fun _ _ k=>k.le aM.le.aW⟩
theorem Gy {E:Env} {H:List Blk} {L:List (Nat×List AV)} {w':World} {b:Nat} {x:Option Nat} {blk blk':Blk} (ag:SimH E H) (aY:SimL E L)
  (hm:E.m b=some x) (hb:H[b]?=some blk) (aJ:blk'.aE=blk.aE+1) (jr:blk'.sz=blk.sz)
  (br:w'.os=E.w.os) (M4:w'.tape=E.w.tape) (MN:w'.output=E.w.output) (bz:w'.heap.size=E.w.heap.size)
  (hw: ∀c,x≠some c→w'.heap[c]?=E.w.heap[c]?)
  (hx: ∀c,x=some c→ ∃ad ty,w'.heap[c]?=some (.cells ad ty (0,0))∧ad.size=E.cp b*E.sz b∧blk'.rows.length≤E.cp b∧pf E (E.sz b) blk'.rows ad):
  ∃E',E'.w=w'∧Step E E'∧SimH E' (H.set b blk')∧SimL E' L∧E'.aE b=blk'.aE∧E'.m=E.m∧E'.sz=E.sz∧E'.cp=E.cp∧E'.mL=E.mL:=by
 let E':Env:={E with w:=w',aE:=fun bC=>if bC=b then blk'.aE else E.aE bC}
 have gN:=ag.cS b blk hb
 have bV: ∀c,E.PA c→x≠some c:=fun c hc e=>ag.fm c hc ⟨b,by rw[hm,e]⟩
 have aM:Step E E':=
  {le:=⟨fun _ h=>h,fun _ h=>h,fun c hc=>hw c (bV c hc),fun c hc=>hw c (bV c (ag.ck c hc)),fun bC=>by
     show _≤(if bC=b then _ else _)
     split
     ·rename_i e;subst e;omega
     ·exact Nat.le_refl _,fun bC y ax Mv=>by
     have kX:(if bC=b then blk'.aE else E.aE bC)=E.aE bC:=Mv
     have pO:bC≠b:=fun e=>by subst e;rw[if_pos rfl] at kX;omega
     exact⟨ax,rfl,rfl⟩,fun _ _ h=>h⟩
   os:=br,tape:=M4,output:=MN
   size:=by show E.w.heap.size≤w'.heap.size;rw[bz];exact Nat.le_refl _
   b3:=fun c hc h1 _=>hw c (fun e=>h1 ⟨b,by rw[hm,e]⟩)
   fV:=fun _ _ h=> .inl h
   gj:=fun _ h=> .inl h
   dC:=fun _ h=> .inl h
   dr:=fun _ h=> .inl h}
 have lK:b<H.length:=(List.getElem?_eq_some_iff.1 hb).1
 refine⟨E',rfl,aM,?_,?_,if_pos rfl,rfl,rfl,rfl,rfl⟩
 ·exact{ag with
   dz:=fun bB hC=>(ag.dz bB hC).same (aM.le.wf bB hC)
   heap:=fun s c hs=>by
    by_cases e:s=b
    ·subst e
     have DF:x=some c:=by
      have:E.m s=some (some c):=hs
      rw[hm] at this;exact Option.some.inj this
     obtain⟨q7,SG,S2,q1,bJ,q⟩:=ag.heap s c (by rw[hm,DF])
     obtain rfl:blk=q7:=by rw[hb] at q1;exact Option.some.inj q1
     obtain⟨ad,ty,h1,h2,ao,a8⟩:=hx c DF
     exact⟨blk',ad,ty,by rw[List.getElem?_set_self lK],bJ.trans jr.symm,h1,h2,ao,a8.1,fun i j row a aa O=>by
      obtain⟨u,hu,c0⟩:=a8.2 i j row a aa O;exact⟨u,hu,c0.le aM.le.aW⟩⟩
    ·obtain⟨q7,ba,fz,q1,bJ,q2,q3,q4,cI,c4⟩:=ag.heap s c hs
     refine⟨q7,ba,fz,by rw[List.getElem?_set_ne (fun h=>e h.symm)];exact q1,bJ,?_,q3,q4,cI,fun i j row a aa O=> ?_⟩
     ·show w'.heap[c]?=_
      rw[hw c (fun h=>e (ag.ee s b c hs (by rw[hm,h])))];exact q2
     ·obtain⟨u,hu,c0⟩:=c4 i j row a aa O
      exact⟨u,hu,c0.le aM.le.aW⟩
   cS:=fun s y hs=>by
    by_cases e:s=b
    ·subst e;rw[List.getElem?_set_self lK] at hs;cases hs;exact if_pos rfl
    ·rw[List.getElem?_set_ne (fun h=>e h.symm)] at hs
     show(if s=b then _ else _)=_
     rw[if_neg e];exact ag.cS s y hs
   e0:=fun s hs=>by
    obtain⟨y,q1,q2⟩:=ag.e0 s hs
    by_cases e:s=b
    ·subst e
     obtain rfl:blk=y:=by rw[hb] at q1;exact Option.some.inj q1
     exact⟨blk',by rw[List.getElem?_set_self lK],q2.trans jr.symm⟩
    ·exact⟨y,by rw[List.getElem?_set_ne (fun h=>e h.symm)];exact q1,q2⟩
   fresh:=fun s hs=>by
    rw[List.length_set] at hs
    have e:s≠b:=by omega
    have:=ag.fresh s hs
    exact⟨this.1,by show(if s=b then _ else _)=_;rw[if_neg e];exact this.2⟩
   cu:=fun c hc=>Nat.lt_of_lt_of_le (ag.cu c hc) aM.size
   dB:=fun c hc=>Nat.lt_of_lt_of_le (ag.dB c hc) aM.size
   et:=fun c hc=>Nat.lt_of_lt_of_le (ag.et c hc) aM.size}
 ·intro s c hs
  obtain⟨eE,ba,fz,q1,q2,q3⟩:=aY s c hs
  refine⟨eE,ba,fz,q1,?_,q3.mono fun _ _ k=>k.le aM.le.aW⟩
  show w'.heap[c]?=_
  rw[hw c (fun e=>ag.ey b s c (by rw[hm,e]) hs)];exact q2
theorem uQ {E:Env} {H:List Blk} {L:List (Nat×List AV)} {blk:Blk} (ag:SimH E H) (aY:SimL E L) (aJ:blk.aE=0) (aa:blk.rows=[]):
  ∃E',E'.w=E.w∧Step E E'∧SimH E' (H++[blk])∧SimL E' L∧E'.aE H.length=0∧E'.m H.length=some none∧(∀b,b≠H.length→E'.m b=E.m b)∧E'.mL=E.mL:=by
 have hs:=ag.snoc aJ
 have af:=ag.fresh H.length (Nat.le_refl _)
 let E':Env:={E with m:=fun b=>if b=H.length then some none else E.m b,sz:=fun b=>if b=H.length then blk.sz else E.sz b}
 have ms: ∀b c,E'.m b=some (some c)→E.m b=some (some c)∧b≠H.length:=by
  intro b c h
  have h:(if b=H.length then some none else E.m b)=some (some c):=h
  split at h
  ·cases h
  ·exact⟨h,by assumption⟩
 have aM:Step E E':=
  {le:=⟨fun _ h=>h,fun _ h=>h,fun _ _=>rfl,fun _ _=>rfl,fun _=>Nat.le_refl _,fun b x hx _=>by
     have bV:b≠H.length:=fun e=>by subst e;rw[af.1] at hx;cases hx
     exact⟨by show(if b=H.length then _ else _)=_;rw[if_neg bV];exact hx,by show(if b=H.length then _ else _)=_;rw[if_neg bV],rfl⟩,fun _ _ h=>h⟩
   os:=rfl,tape:=rfl,output:=rfl,size:=Nat.le_refl _
   b3:=fun _ _ _ _=>rfl
   fV:=fun b c h=> .inl (ms b c h).1
   gj:=fun _ h=> .inl h
   dC:=fun _ h=> .inl h
   dr:=fun _ h=> .inl h}
 refine⟨E',rfl,aM,?_,fun s c hm=> ?_,af.2,if_pos rfl,fun b hb=>if_neg hb,rfl⟩
 ·exact{hs with
   heap:=fun b c h=>by
    obtain⟨h,bV⟩:=ms b c h
    obtain⟨q7,ba,fz,q1,bJ,q2,q3,q4,cI,c4⟩:=hs.heap b c h
    have bz:E'.sz b=E.sz b:=if_neg bV
    exact⟨q7,ba,fz,q1,by rw[bz];exact bJ,q2,by rw[bz];exact q3,q4,by rw[bz];exact cI,fun i j row a aa O=>by
     obtain⟨u,hu,c0⟩:=c4 i j row a aa O
     exact⟨u,by rw[bz];exact hu,c0.le aM.le.aW⟩⟩
   e0:=fun b h=>by
    by_cases e:b=H.length
    ·subst e
     exact⟨blk,by simp,if_pos rfl⟩
    ·have h:E.m b=some none:=by
      have h:(if b=H.length then some none else E.m b)=some none:=h
      rwa [if_neg e] at h
     obtain⟨y,q1,q2⟩:=hs.e0 b h
     exact⟨y,q1,by show(if b=H.length then _ else _)=_;rw[if_neg e];exact q2⟩
   fresh:=fun b h=>by
    have:=hs.fresh b h
    have e:b≠H.length:=by simp at h;omega
    exact⟨by show(if b=H.length then _ else _)=_;rw[if_neg e];exact this.1,this.2⟩
   ee:=fun b bC c h1 h2=>hs.ee b bC c (ms b c h1).1 (ms bC c h2).1
   ey:=fun b t c h1 h2=>hs.ey b t c (ms b c h1).1 h2
   fm:=fun c hc ⟨b,h⟩=>hs.fm c hc ⟨b,(ms b c h).1⟩
   dB:=fun c ⟨b,h⟩=>hs.dB c ⟨b,(ms b c h).1⟩}
 ·obtain⟨eE,ba,fz,q1,q2,q3⟩:=aY s c hm
  exact⟨eE,ba,fz,q1,q2,q3.mono fun _ _ k=>k.le aM.le.aW⟩
def sj (fr:Bool) (row:List AV):List AV:=match fr with
 | true=>row.map ky
 | false=>row
def kz (fr:Bool) (rows:List (List AV)):List (List AV):=match fr with
 | true=>rows.map fun row=>row.map ky
 | false=>rows
theorem QS (fr:Bool) (rows:List (List AV)):kz fr rows=rows.map (sj fr):=by
 cases fr
 ·show rows=rows.map fun row=>row
  simp
 ·rfl
theorem QR (fr:Bool) (row:List AV):(sj fr row).length=row.length:=by
 cases fr<;>simp[sj]
def rowsOf (H:List Blk) (x:AV):Option (List (List AV)):=match x with
 | .av rows _ fr=>some (kz fr rows)
 | .ref b g off n _=>(H[b]?).bind fun blk=>if blk.aE=g∧off+n≤blk.rows.length then some ((blk.rows.drop off).take n) else none
 | .str s=>some (s.data.toList.map fun c=>[.int .u8 c.toNat])
 | _=>none
def GH (H:List Blk) (x:AV) (K:List (List AV)→Prop):Prop:=match x with
 | .av rows _ fr=>K (kz fr rows)
 | .ref b g off n _=>ci H[b]? fun blk=>blk.aE=g∧off+n≤blk.rows.length∧K ((blk.rows.drop off).take n)
 | .str s=>K (s.data.toList.map fun c=>[.int .u8 c.toNat])
 | _=>False
theorem QZ {H:List Blk} {x:AV} {K:List (List AV)→Prop} (h:GH H x K): ∃bn,rowsOf H x=some bn∧K bn:=by
 cases x with
 | av rows full fr=>exact⟨_,rfl,h⟩
 | ref b g off n full=>
  obtain⟨blk,hb,h1,h2,ao⟩:=dp (show ci H[b]? fun blk=>blk.aE=g∧off+n≤blk.rows.length∧K ((blk.rows.drop off).take n) from h)
  exact⟨_,by show(H[b]?).bind _=_;rw[hb];show(if blk.aE=g∧off+n≤blk.rows.length then _ else _)=_;rw[if_pos ⟨h1,h2⟩],ao⟩
 | str s=>exact⟨_,rfl,h⟩
 | _=>exact h.elim
def nU (P:Program) (e t2:TypeId) (x:AV):Bool:=match x with
 | .str _=>(match P.underlying t2 with
  | some .string=>(match P.underlying e with
   | some (.int .u8)=>P.cellsOf e==1
   | _=>false)
  | _=>false)
 | _=>(match P.underlying t2 with
  | some (.slice e2)=>e2==e
  | _=>false)
def nx (n:Nat) (bn:List (List AV)):Prop:= ∀row∈bn,row.length=n∧ ∀a∈row,fY a=true
abbrev j4 (r:Type):Type:=AV→List (Nat×List AV)→List Blk→r
def nT (P:Program) (t t2:TypeId) (s x:AV) (L:List (Nat×List AV)) (H:List Blk) (K:j4 Prop):Prop:=
 ci (fU P t) fun e=>ci (jk P e) fun z=>if z.length=P.cellsOf e∧0<z.length∧nU P e t2 x=true then GH H x fun bn=>
  nx z.length bn∧(match s with
  | .av rows full fr=>full=true∧(∀row∈rows,row.length=z.length)∧(rows.length+bn.length)*P.bytesOf e≤140737488355328∧rows.length+bn.length≤4611686018427387904∧(rows≠[]→bn≠[])∧
    K (.ref H.length 0 0 (rows.length+bn.length) false) L (H++[⟨0,z.length,rows++bn⟩])
  | .ref b g off n full=>off=0∧ci H[b]? fun blk=>blk.aE=g∧blk.sz=z.length∧blk.rows.length=n∧(n+bn.length)*P.bytesOf e≤140737488355328∧n+bn.length≤4611686018427387904∧
    K (.ref b (g+1) 0 (n+bn.length) false) L (H.set b ⟨g+1,z.length,blk.rows++bn⟩)
  | _=>False)
 else False
structure sX (P:Program) (E:Env) (t2:TypeId) (size:Nat) (bn:List (List AV)) (fI:Value) (news:List Value):Prop where
 len:news.length=bn.length*size
 rel: ∀(i j:Nat) (row:List AV) (a:AV),bn[i]?=some row→row[j]?=some a→ ∃u,news[i*size+j]?=some u∧be E.aW a u∧u.oneCell'=true
 one: ∀u∈news,u.oneCell'=true
 num:(∃e2,P.underlying t2=some (.slice e2))∨P.underlying t2=some .string
 lenOf: ∀w,(Builtin.lenOf fI).run P w= .ok bn.length w
 cells: ∀w,(w=E.w∨w=E.w.drew)→(Builtin.firstCells size bn.length fI).run P w= .ok news.toArray w
theorem FP {size:Nat} {bn:List (List AV)} {news:List Value} {R:AV→Value→Prop} (eQ: ∀row∈bn,row.length=size) (len:news.length=bn.length*size)
  (rel: ∀(i j:Nat) (row:List AV) (a:AV),bn[i]?=some row→row[j]?=some a→ ∃u,news[i*size+j]?=some u∧R a u∧u.oneCell'=true): ∀u∈news,u.oneCell'=true:=by
 intro u hu
 obtain⟨k,hk⟩:=List.mem_iff_getElem?.1 hu
 have jR:k<bn.length*size:=by rw[←len];exact(List.getElem?_eq_some_iff.1 hk).1
 have h0:0<size:=by
  rcases Nat.eq_zero_or_pos size with q | q
  ·rw[q,Nat.mul_zero] at jR;omega
  ·exact q
 have hi:k / size<bn.length:=(Nat.div_lt_iff_lt_mul h0).2 jR
 have di:=List.getElem?_eq_getElem hi
 have hlen:(bn[k / size]).length=size:=eQ _ (List.getElem_mem hi)
 have O:k%size<(bn[k / size]).length:=by rw[hlen];exact Nat.mod_lt _ h0
 obtain⟨v,h1,h2,ao⟩:=rel (k / size) (k%size) _ _ di (List.getElem?_eq_getElem O)
 rw[Nat.div_add_mod' k size,hk] at h1
 cases h1;exact ao
theorem SA {P:Program} {e t2:TypeId} {x:AV} {bn:List (List AV)} {E:Env} {H:List Blk} {fI:Value} {size:Nat} (ag:SimH E H) (hx:V2 E x fI) (bz:size=P.cellsOf e) (aC:nU P e t2 x=true)
  (aa:rowsOf H x=some bn) (eQ:nx size bn): ∃news,sX P E t2 size bn fI news:=by
 have ud: ∀row∈bn,row.length=size:=fun row h=>(eQ row h).1
 cases x with
 | av rows full fr=>
  have iB:kz fr rows=bn:=Option.some.inj aa
  have aO:bn=rows.map (sj fr):=by rw[←iB];exact QS fr rows
  have uf:bn.length=rows.length:=by rw[aO,List.length_map]
  have lO: ∀row∈rows,row.length=size:=fun row h=>by
   rw[←QR fr row];exact ud _ (by rw[aO];exact List.mem_map_of_mem h)
  have hu: ∃e2,P.underlying t2=some (.slice e2):=by
   unfold nU at aC
   simp only at aC
   split at aC
   ·exact⟨_,by assumption⟩
   ·cases aC
  obtain⟨e2,hu⟩:=hu
  have gi:ar E.w E.PA E.PF (.av rows full fr) fI:=hx
  cases gi with
  | @av _ _ PB _ _ _ A cap sz vs dc c2 dS rL cA hrel=>
   let news:List Value:=(List.range (rows.length*size)).map fun k=>vs (k / size) (k%size)
   have iH:news.length=rows.length*size:=by simp[news]
   have eP: ∀i j,i<rows.length→j<size→news[i*size+j]?=some (vs i j):=by
    intro i j hi O
    have hk:i*size+j<rows.length*size:=by
     calc i*size+j<i*size+size:=by omega
      _=(i+1)*size:=by rw[Nat.add_mul,Nat.one_mul]
      _≤rows.length*size:=Nat.mul_le_mul_right _ (by omega)
    show((List.range (rows.length*size)).map _)[i*size+j]?=_
    rw[List.getElem?_map,List.getElem?_range hk]
    have h1:(i*size+j) / size=i:=by
     rw[Nat.add_comm,Nat.add_mul_div_right _ _ (by omega),Nat.div_eq_of_lt O];omega
    have h2:(i*size+j)%size=j:=by
     rw[Nat.add_comm,Nat.add_mul_mod_self_right,Nat.mod_eq_of_lt O]
    simp[h1,h2]
   have rel: ∀(i j:Nat) (row:List AV) (a:AV),bn[i]?=some row→row[j]?=some a→ ∃u,news[i*size+j]?=some u∧be E.aW a u∧u.oneCell'=true:=by
    intro i j row a h1 h2
    have rK:=eQ row (List.mem_of_getElem? h1)
    have O:j<size:=by rw[←rK.1];exact(List.getElem?_eq_some_iff.1 h2).1
    have hs:=rK.2 a (List.mem_of_getElem? h2)
    rw[aO,List.getElem?_map] at h1
    cases al:rows[i]? with
    | none=>rw[al] at h1;cases h1
    | some qm=>
     rw[al] at h1
     have h1:sj fr qm=row:=Option.some.inj h1
     have hE:be E.aW a (vs i j):=by
      cases fr with
      | false=>
       have h1:qm=row:=h1
       subst h1
       exact ar.v1 (E:=E.aW) ((hrel i j qm a al h2).mono (fun _ _=>rfl) (fun _ h=>h.elim) (fun c hc=>show E.PA c by have:=dc c hc;simpa using this) (fun _ h=>h.elim))
      | true=>
       have h1:qm.map ky=row:=h1
       subst h1
       rw[List.getElem?_map] at h2
       cases iX:qm[j]? with
       | none=>rw[iX] at h2;cases h2
       | some a0=>
        rw[iX] at h2
        have h2:ky a0=a:=Option.some.inj h2
        subst h2
        exact ar.v1 (E:=E.aW) (QQ (hrel i j qm a0 al iX) (fun c hc=>show E.PF c by have:=dc c hc;simpa using this) ag.ck)
     exact⟨_,eP i j (List.getElem?_eq_some_iff.1 al).1 O,hE,hE.uY hs⟩
   refine⟨news,by rw[uf];exact iH,rel,FP ud (by rw[uf];exact iH) rel,.inl ⟨_,hu⟩,fun w=>by rw[uf];rfl,fun w hw=> ?_⟩
   rw[uf]
   have x6: ∀a,w.cell? a=E.w.cell? a:=by rcases hw with rfl | rfl<;>intro a<;>rfl
   by_cases an:rows.length=0
   ·have af:news=[]:=List.eq_nil_of_length_eq_zero (by rw[iH,an,Nat.zero_mul])
    rw[af,an]
    cases A with
    | none=>exact run_firstCells_none w size 0 _ _
    | some ia=>
     have:=run_firstCells_some (P:=P) w size 0 ia 0 cap [] (by simp) (fun j v h=>by simp at h)
     exact this
   ·obtain⟨c,o,rfl,hc,ew⟩:=cA (by omega)
    refine run_firstCells_some (P:=P) w size rows.length ⟨c,o,none⟩ rows.length cap news iH (fun k v hk=> ?_)
    have jR:k<rows.length*size:=by rw[←iH];exact(List.getElem?_eq_some_iff.1 hk).1
    have h0:0<size:=by
     rcases Nat.eq_zero_or_pos size with q | q
     ·rw[q,Nat.mul_zero] at jR;omega
     ·exact q
    have hi:k / size<rows.length:=(Nat.div_lt_iff_lt_mul h0).2 jR
    have O:k%size<size:=Nat.mod_lt _ h0
    have Dz:sz=size:=by
     have:=rL _ _ (List.getElem?_eq_getElem hi)
     rw[←this];exact lO _ (List.getElem_mem hi)
    have h1:=ew (k / size) (k%size) hi (by rw[Dz];exact O)
    have h2:=eP (k / size) (k%size) hi O
    rw[Nat.div_add_mod' k size] at h2
    rw[hk] at h2
    cases h2
    rw[jB,x6]
    rw[Dz,Nat.div_add_mod' k size] at h1
    exact h1
 | ref b g off n full=>
  have hu: ∃e2,P.underlying t2=some (.slice e2):=by
   unfold nU at aC
   simp only at aC
   split at aC
   ·exact⟨_,by assumption⟩
   ·cases aC
  obtain⟨e2,hu⟩:=hu
  have aa:((H[b]?).bind fun blk=>if blk.aE=g∧off+n≤blk.rows.length then some ((blk.rows.drop off).take n) else none)=some bn:=aa
  cases hb:H[b]? with
  | none=>simp[hb] at aa
  | some blk=>
   simp only[hb,Option.bind_some] at aa
   split at aa
   case isFalse=>cases aa
   case isTrue hc=>
   obtain⟨aJ,nc⟩:=hc
   cases aa
   have gN:=ag.cS b blk hb
   have k2:((blk.rows.drop off).take n).length=n:=by simp;omega
   have M9: ∀i row,((blk.rows.drop off).take n)[i]?=some row→blk.rows[off+i]?=some row:=by
    intro i row h
    rw[List.getElem?_take] at h
    split at h
    ·rw[List.getElem?_drop] at h;exact h
    ·cases h
   rcases(show cY E (.ref b g off n full) fI from hx) with⟨aX,_⟩ | ⟨eo,aX⟩
   ·omega
   ·rcases aX with⟨_,_,iG,A,rfl⟩ | ⟨c,cap,hm,rfl,kk,kV,lL⟩
    ·subst iG
     refine⟨[],by simp,fun i j row a h=>by simp at h,(fun u hu=>by cases hu),.inl ⟨_,hu⟩,fun w=>by simp;rfl,fun w hw=> ?_⟩
     rw[k2]
     cases A with
     | none=>exact run_firstCells_none w size 0 _ _
     | some ia=>exact run_firstCells_some (P:=P) w size 0 ia 0 0 [] (by simp) (fun j v h=>by simp at h)
    ·obtain⟨blk',ad,ty,q1,bJ,hw,hY,hX,ec⟩:=ag.heap b c hm
     obtain rfl:blk=blk':=by rw[hb] at q1;exact Option.some.inj q1
     by_cases iG:n=0
     ·subst iG
      refine⟨[],by simp,fun i j row a h=>by simp at h,(fun u hu=>by cases hu),.inl ⟨_,hu⟩,fun w=>by simp;rfl,fun w hw=> ?_⟩
      rw[k2]
      exact run_firstCells_some (P:=P) w size 0 _ 0 cap [] (by simp) (fun j v h=>by simp at h)
     ·have yt:E.sz b=size:=by
       have ay:off<blk.rows.length:=by omega
       have aA:((blk.rows.drop off).take n)[0]?=some blk.rows[off]:=by
        rw[List.getElem?_take,if_pos (by omega),List.getElem?_drop,Nat.add_zero,List.getElem?_eq_getElem ay]
       rw[←ec.1 off _ (List.getElem?_eq_getElem ay)]
       exact ud _ (List.mem_of_getElem? aA)
      let news:List Value:=(ad.toList.drop (off*size)).take (n*size)
      have L8:off*size+n*size≤ad.size:=by
       rw[hY,yt,←Nat.add_mul];exact Nat.mul_le_mul_right _ (by omega)
      have iH:news.length=n*size:=by simp[news];omega
      have Dq: ∀k,k<n*size→news[k]?=ad[off*size+k]?:=by
       intro k hk
       show((ad.toList.drop (off*size)).take (n*size))[k]?=_
       rw[List.getElem?_take,if_pos hk,List.getElem?_drop,Array.getElem?_toList]
      have rel: ∀(i j:Nat) (row:List AV) (a:AV),((blk.rows.drop off).take n)[i]?=some row→row[j]?=some a→ ∃u,news[i*size+j]?=some u∧be E.aW a u∧u.oneCell'=true:=by
       intro i j row a h1 h2
       have rK:=eQ row (List.mem_of_getElem? h1)
       have O:j<size:=by rw[←rK.1];exact(List.getElem?_eq_some_iff.1 h2).1
       have hi:i<n:=by have:=(List.getElem?_eq_some_iff.1 h1).1;rw[k2] at this;exact this
       obtain⟨u,km,nd⟩:=ec.2 (off+i) j row a (M9 i row h1) h2
       have hk:i*size+j<n*size:=by
        calc i*size+j<i*size+size:=by omega
         _=(i+1)*size:=by rw[Nat.add_mul,Nat.one_mul]
         _≤n*size:=Nat.mul_le_mul_right _ (by omega)
       refine⟨u,?_,nd,nd.uY (rK.2 a (List.mem_of_getElem? h2))⟩
       rw[Dq _ hk,←km,yt]
       congr 1
       rw[Nat.add_mul];omega
      refine⟨news,by rw[k2];exact iH,rel,FP ud (by rw[k2];exact iH) rel,.inl ⟨_,hu⟩,fun w=>by rw[k2];rfl,fun w mA=> ?_⟩
      have x6: ∀a,w.cell? a=E.w.cell? a:=by rcases mA with rfl | rfl<;>intro a<;>rfl
      rw[k2]
      refine run_firstCells_some (P:=P) w size n _ n cap news iH (fun k v hk=> ?_)
      have jR:k<n*size:=by rw[←iH];exact(List.getElem?_eq_some_iff.1 hk).1
      rw[Dq k jR] at hk
      rw[jB,x6,yt]
      exact cell_of hw hk
 | str s=>
  obtain rfl:=V3.qx (lq hx)
  cases aa
  unfold nU at aC
  simp only at aC
  split at aC
  case h_2=>cases aC
  case h_1 hu=>
  split at aC
  case h_2=>cases aC
  case h_1 he=>
  have cU:size=1:=by rw[bz];simpa using aC
  subst cU
  have rM:s.data.toList.length=s.size:=by simp
  refine⟨s.data.toList.map fun c=> .int .u8 c.toNat,by simp,fun i j row a h1 h2=> ?_,fun u hu=> ?_,.inr hu,fun w=> ?_,fun w hw=> ?_⟩
  ·rw[List.getElem?_map] at h1
   cases hc:s.data.toList[i]? with
   | none=>rw[hc] at h1;cases h1
   | some c=>
    rw[hc] at h1
    cases h1
    have Mw:j=0:=by have:=(List.getElem?_eq_some_iff.1 h2).1;simp at this;omega
    subst Mw
    cases h2
    exact⟨.int .u8 c.toNat,by rw[List.getElem?_map,Nat.mul_one,Nat.add_zero,hc];rfl,ar.int _ _,rfl⟩
  ·obtain⟨c,_,rfl⟩:=List.mem_map.1 hu;rfl
  ·show Result.ok s.size w=_
   rw[List.length_map,rM]
  ·rw[List.length_map,rM]
   show Result.ok ((s.extract 0 s.size).data.map fun b=>Value.int .u8 b.toNat) w=_
   congr 1
   apply Array.ext'
   simp
 | _=>cases aa
section
variable {P:Program} {E:Env} {t t2 ty e:TypeId} {size:Nat} {bn:List (List AV)} {fI:Value} {news:List Value}
theorem GI (X:sX P E t2 size bn fI news) (aC:P.underlying t=some (.slice e)) (hi:(P.info? e).isSome=true) (bz:P.cellsOf e=size) {base:Option Addr} {sLen sCap:Nat} (af:bn.length=0) (hc:sLen≤sCap):
  (Builtin.append_ #[t,t2] ty #[.slice base sLen sCap,fI]).run P E.w= .ok (.slice base sLen sCap) E.w:=by
 have ak:=X.lenOf E.w
 have hf:=X.cells E.w (.inl rfl)
 have ME:news=[]:=List.eq_nil_of_length_eq_zero (by rw[X.len,af,Nat.zero_mul])
 subst ME
 rw[af] at ak hf
 rcases X.num with⟨e2,hu⟩ | hu<;>
  (simp[Builtin.append_,run_underlying aC,run_underlying hu,run_sizeOf hi,bz,ak,hc,hf]
   cases base<;>simp[storeCells])
theorem Q0 (X:sX P E t2 size bn fI news) (aC:P.underlying t=some (.slice e)) (hi:(P.info? e).isSome=true) (bz:P.cellsOf e=size) {g o sLen sCap:Nat} {eG:Array Value} {ce:TypeId}
  (aJ:E.w.heap[g]?=some (.cells eG ce (0,0))) (pR:sLen+bn.length≤sCap) (m8:o+sLen*size+news.length≤eG.size):
  (Builtin.append_ #[t,t2] ty #[.slice (some ⟨g,o,none⟩) sLen sCap,fI]).run P E.w= .ok (.slice (some ⟨g,o,none⟩) (sLen+bn.length) sCap) (E.w.setRow g (eG.toList.take (o+sLen*size)++news++eG.toList.drop (o+sLen*size+news.length)).toArray):=by
 have ak:=X.lenOf E.w
 have hf:=X.cells E.w (.inl rfl)
 have aM:=run_storeCells_at (P:=P) g (o+sLen*size) ce news 0 eG E.w aJ (by simpa using m8) X.one
 simp only[Nat.add_zero] at aM
 rcases X.num with⟨e2,hu⟩ | hu<;>
  simp[Builtin.append_,run_underlying aC,run_underlying hu,run_sizeOf hi,bz,ak,pR,hf,jB,aM]
theorem Q1 (X:sX P E t2 size bn fI news) (aC:P.underlying t=some (.slice e)) {i:TypeInfo} (hi:P.info? e=some i) (bz:i.size=size) {z:Value} (an:i.zero=some z) {base:Option Addr} {sLen sCap:Nat} {gQ:Array Value}
  (holds:(Builtin.firstCells size sLen (.slice base sLen sCap)).run P E.w.drew= .ok gQ E.w.drew) (aJ:sCap<sLen+bn.length) (pH:((sLen+bn.length:Nat):Int)≤9223372036854775807)
  (m8:Builtin.nextslicecap (sLen+bn.length) sCap*i.bytes≤281474976710656):
  (Builtin.append_ #[t,t2] ty #[.slice base sLen sCap,fI]).run P E.w= .ok (.slice (some ⟨E.w.heap.size,0,none⟩) (sLen+bn.length) (grownCap E.w (sLen+bn.length) sCap e))
   (E.w.drew.alloc (.cells (gQ++news.toArray++Builtin.zeroCells z.cells (grownCap E.w (sLen+bn.length) sCap e - (sLen+bn.length))) e)):=by
 have ak:=X.lenOf E.w
 have hf:=X.cells E.w.drew (.inr rfl)
 subst bz
 have af: ¬(sLen+bn.length≤sCap):=by omega
 have LP: ¬(9223372036854775807<((sLen:Int)+(bn.length:Int))):=by omega
 have LO: ¬(281474976710656<Builtin.nextslicecap (sLen+bn.length) sCap*i.bytes):=by omega
 rcases X.num with⟨e2,hu⟩ | hu<;>
  simp[Builtin.append_,run_underlying aC,run_underlying hu,sizeOf,typeInfo,zeroValue,hi,an,ak,af,LP,LO,Question.forced,hf,holds,newRow,grownCap]
end
theorem IF {P:Program} {t t2 ty:TypeId} {s x:AV} {L:List (Nat×List AV)} {H:List Blk} {K:AV→List (Nat×List AV)→List Blk→Prop} {E:Env} {qy fI:Value}
  (ag:SimH E H) (aY:SimL E L) (hs:V2 E s qy) (hx:V2 E x fI) (h:nT P t t2 s x L H K):
  ∃r u H' E',K r L H'∧(Builtin.append_ #[t,t2] ty #[qy,fI]).run P E.w= .ok u E'.w∧Step E E'∧SimH E' H'∧SimL E' L∧V3 E' r u∧E'.mL=E.mL:=by
 obtain⟨e,he,h⟩:=dp h
 obtain⟨z,an,h⟩:=dp h
 have aC:=m0 he
 split at h
 case isFalse=>exact h.elim
 case isTrue hc=>
 obtain⟨jS,h0,ru⟩:=hc
 obtain⟨bn,ur,eQ,h⟩:=QZ h
 obtain⟨i,o7,hi,ot,oq,rR⟩:=o6 (E:=E.aW) an
 obtain⟨news,X⟩:=SA ag hx jS ru ur eQ
 have rH:(P.info? e).isSome=true:=by rw[hi];rfl
 have pN:i.size=z.length:=by rw[jS];simp[Program.cellsOf,hi]
 have pM:i.bytes=P.bytesOf e:=by simp[Program.bytesOf,hi]
 have Ni:o7.cells.size=z.length:=by rw[oq];simp

 have out: ∀(base:Option Addr) (rows:List (List AV)) (sCap:Nat) (gQ:Array Value) (b g:Nat) (H':List Blk),qy= .slice base rows.length sCap→
   (Builtin.firstCells z.length rows.length (.slice base rows.length sCap)).run P E.w.drew= .ok gQ E.w.drew→gQ.size=rows.length*z.length→
   (∀row∈rows,row.length=z.length)→(∀(i j:Nat) (row:List AV) (a:AV),rows[i]?=some row→row[j]?=some a→ ∃u,gQ[i*z.length+j]?=some u∧be E.aW a u)→
   sCap<rows.length+bn.length→(rows.length+bn.length)*P.bytesOf e≤140737488355328→rows.length+bn.length≤4611686018427387904→
   H'[b]?=some ⟨g,z.length,rows++bn⟩→(∀bC,bC≠b→H'[bC]?=H[bC]?)→(b<H.length→H'.length=H.length)→H.length≤H'.length→((E.m b=none∧g=E.aE b)∨E.aE b<g)→
   K (.ref b g 0 (rows.length+bn.length) false) L H'→ ∃r u H' E',K r L H'∧(Builtin.append_ #[t,t2] ty #[qy,fI]).run P E.w= .ok u E'.w∧Step E E'∧SimH E' H'∧SimL E' L∧V3 E' r u∧E'.mL=E.mL:=by
  intro base rows sCap gQ b g H' M0 holds Dr lO MM pR hby dR e8 br hlen Dl gN hK
  subst M0
  have dH:=Q1 (ty:=ty) X aC hi pN ot holds pR (by omega) (growslice_fits (by omega) (by rw[pM];exact hby))
  have x3:=grownCap_ge E.w (rows.length+bn.length) sCap e
  let cap:=grownCap E.w (rows.length+bn.length) sCap e
  let ad:Array Value:=gQ++news.toArray++Builtin.zeroCells o7.cells (cap - (rows.length+bn.length))
  have hY:ad.size=cap*z.length:=by
   show(gQ++news.toArray++Builtin.zeroCells o7.cells (cap - (rows.length+bn.length))).size=_
   have aO:(gQ++news.toArray++Builtin.zeroCells o7.cells (cap - (rows.length+bn.length))).size=gQ.size+news.length+(Builtin.zeroCells o7.cells (cap - (rows.length+bn.length))).size:=by simp;omega
   rw[aO,size_zeroCells,Ni,Dr,X.len,←Nat.add_mul,←Nat.add_mul]
   congr 1
   have:rows.length+bn.length≤cap:=x3
   omega
  have ec:pf E z.length (rows++bn) ad:=by
   refine⟨fun k row aa=> ?_,fun k j row a aa O=> ?_⟩
   ·rcases Nat.lt_or_ge k rows.length with ay | eo
    ·rw[List.getElem?_append_left ay] at aa;exact lO row (List.mem_of_getElem? aa)
    ·rw[List.getElem?_append_right eo] at aa;exact(eQ row (List.mem_of_getElem? aa)).1
   ·rcases Nat.lt_or_ge k rows.length with ay | eo
    ·rw[List.getElem?_append_left ay] at aa
     obtain⟨u,hu,hv⟩:=MM k j row a aa O
     refine⟨u,?_,hv⟩
     have jR:=(Array.getElem?_eq_some_iff.1 hu).1
     show(gQ++news.toArray++_)[k*z.length+j]?=_
     rw[Array.getElem?_append_left (by rw[Array.size_append];omega),Array.getElem?_append_left jR];exact hu
    ·rw[List.getElem?_append_right eo] at aa
     obtain⟨u,hu,hv,_⟩:=X.rel _ j row a aa O
     refine⟨u,?_,hv⟩
     have jR:=(List.getElem?_eq_some_iff.1 hu).1
     have na:k*z.length+j=gQ.size+((k - rows.length)*z.length+j):=by
      rw[Dr,←Nat.add_assoc,←Nat.add_mul];congr 2;omega
     show(gQ++news.toArray++_)[k*z.length+j]?=_
     rw[na,Array.getElem?_append_left (by simp;omega),Array.getElem?_append_right (by omega),Nat.add_sub_cancel_left]
     simpa using hu
  obtain⟨E',hw,aM,mw,my,kX,js,kl,tS,_,hml⟩:=p8 (cap:=cap) (blk:=⟨g,z.length,rows++bn⟩) ag aY (jm.JX E.w (.cells ad e (0,0))) e8 br hlen Dl gN hY (by
   show(rows++bn).length≤cap
   rw[List.length_append];exact x3) ec
  refine⟨_,_,_,E',hK,by rw[hw];exact dH,aM,mw,my,.inr ⟨kX.symm,.inr ⟨_,_,js,?_,x3,(fun h=>by cases h),?_⟩⟩,hml⟩
  ·rw[Nat.zero_mul]
  ·rw[tS,Nat.zero_add];exact Nat.le_refl _
 cases s with
 | av rows full fr=>
  obtain⟨dS,lO,hby,dR,bV,hK⟩:=h
  subst dS
  have kl:ar E.w E.PA E.PF (.av rows true fr) qy:=hs
  cases kl with
  | @av _ _ PB _ _ _ A cap sz vs dc c2 dS bz cA hrel=>
   have Ma:=dS rfl
   subst Ma
   by_cases k1:bn.length=0
   ·have us:bn=[]:=List.eq_nil_of_length_eq_zero k1
    have lN:rows=[]:=Classical.byContradiction fun aX=>bV aX us
    subst lN;subst us
    obtain⟨E',hw,aM,mw,my,kX,js,_,hml⟩:=uQ (blk:=⟨0,z.length,[]++[]⟩) ag aY rfl rfl
    have dH:=GI (ty:=ty) X aC rH jS.symm (base:=A) (sLen:=0) (sCap:=0) rfl (Nat.le_refl _)
    exact⟨_,_,_,E',hK,by rw[hw];exact dH,aM,mw,my,.inr ⟨kX.symm,.inl ⟨js,rfl,rfl,A,rfl⟩⟩,hml⟩
   ·have M2:0<rows.length→sz=z.length:=fun ab=>by
     rw[←bz 0 _ (List.getElem?_eq_getElem ab)];exact lO _ (List.getElem_mem ab)
    let gQ:List Value:=(List.range (rows.length*z.length)).map fun k=>vs (k / z.length) (k%z.length)
    have uk:gQ.length=rows.length*z.length:=by simp[gQ]
    have eP: ∀i j,i<rows.length→j<z.length→gQ[i*z.length+j]?=some (vs i j):=by
     intro i j hi O
     have hk:i*z.length+j<rows.length*z.length:=by
      calc i*z.length+j<i*z.length+z.length:=by omega
       _=(i+1)*z.length:=by rw[Nat.add_mul,Nat.one_mul]
       _≤rows.length*z.length:=Nat.mul_le_mul_right _ (by omega)
     show((List.range (rows.length*z.length)).map _)[i*z.length+j]?=_
     rw[List.getElem?_map,List.getElem?_range hk]
     have h1:(i*z.length+j) / z.length=i:=by
      rw[Nat.add_comm,Nat.add_mul_div_right _ _ (by omega),Nat.div_eq_of_lt O];omega
     have h2:(i*z.length+j)%z.length=j:=by
      rw[Nat.add_comm,Nat.add_mul_mod_self_right,Nat.mod_eq_of_lt O]
     simp[h1,h2]
    refine out A rows rows.length gQ.toArray H.length 0 _ rfl ?_ (by simp[uk]) lO (fun i j row a h1 h2=> ?_) (by omega) hby dR (by simp) (fun bC e8=> ?_) (fun aX=>by omega) (by simp) (.inl ⟨(ag.fresh _ (Nat.le_refl _)).1,(ag.fresh _ (Nat.le_refl _)).2.symm⟩) hK
    ·by_cases lN:rows.length=0
     ·have aA:gQ=[]:=List.eq_nil_of_length_eq_zero (by rw[uk,lN,Nat.zero_mul])
      rw[aA,lN]
      cases A with
      | none=>exact run_firstCells_none _ _ _ _ _
      | some ia=>exact run_firstCells_some (P:=P) _ z.length 0 ia 0 0 [] (by simp) (fun j v h=>by simp at h)
     ·obtain⟨c,o,rfl,hc,ew⟩:=cA (by omega)
      refine run_firstCells_some (P:=P) E.w.drew z.length rows.length ⟨c,o,none⟩ rows.length rows.length gQ uk (fun k v hk=> ?_)
      have jR:k<rows.length*z.length:=by rw[←uk];exact(List.getElem?_eq_some_iff.1 hk).1
      have hi:k / z.length<rows.length:=(Nat.div_lt_iff_lt_mul h0).2 jR
      have O:k%z.length<z.length:=Nat.mod_lt _ h0
      have Dy:=M2 (by omega)
      have h1:=ew (k / z.length) (k%z.length) hi (by rw[Dy];exact O)
      have h2:=eP (k / z.length) (k%z.length) hi O
      rw[Nat.div_add_mod' k z.length] at h2
      rw[hk] at h2
      cases h2
      rw[Dy,Nat.div_add_mod' k z.length] at h1
      rw[jB]
      exact h1
    ·have hi:=(List.getElem?_eq_some_iff.1 h1).1
     have O:j<z.length:=by rw[←lO row (List.mem_of_getElem? h1)];exact(List.getElem?_eq_some_iff.1 h2).1
     refine⟨vs i j,by simpa using eP i j hi O,ar.v1 (E:=E.aW) ((hrel i j row a h1 h2).mono (fun _ _=>rfl) (fun _ h=>h.elim) (fun c hc=>by have:=dc c hc;split at this;exact ag.ck c this;exact this) (fun _ h=>h.elim))⟩
    ·rcases Nat.lt_or_ge bC H.length with ay | eo
     ·rw[List.getElem?_append_left ay]
     ·rw[List.getElem?_eq_none eo,List.getElem?_eq_none (by simp;omega)]
 | ref b g off n full=>
  replace h:off=0∧ci H[b]? fun blk=>blk.aE=g∧blk.sz=z.length∧blk.rows.length=n∧(n+bn.length)*P.bytesOf e≤140737488355328∧n+bn.length≤4611686018427387904∧
    K (.ref b (g+1) 0 (n+bn.length) false) L (H.set b ⟨g+1,z.length,blk.rows++bn⟩):=h
  obtain⟨MH,al⟩:=h
  obtain⟨blk,hb,aJ,jr,iV,hby,dR,hK⟩:=dp al
  clear al
  subst MH
  have gN:=ag.cS b blk hb
  have lK:b<H.length:=(List.getElem?_eq_some_iff.1 hb).1
  subst iV
  rcases(show cY E (.ref b g 0 blk.rows.length full) qy from hs) with⟨aX,_⟩ | ⟨eo,aX⟩
  ·omega
  ·rcases aX with⟨hm,_,iG,A,rfl⟩ | ⟨c,cap,hm,rfl,kk,kV,lL⟩
   ·
    by_cases k1:bn.length=0
    ·have us:bn=[]:=List.eq_nil_of_length_eq_zero k1
     subst us
     obtain⟨E',hw,aM,mw,my,kX,js,rL,tS,hml⟩:=Gy (w':=E.w) (x:=none) (blk':=⟨g+1,z.length,blk.rows++[]⟩) ag aY hm hb (by show g+1=_;rw[aJ]) jr.symm rfl rfl rfl rfl (fun _ _=>rfl) (fun c hc=>by cases hc)
     have dH:=GI (ty:=ty) X aC rH jS.symm (base:=A) (sLen:=0) (sCap:=0) rfl (Nat.le_refl _)
     refine⟨_,_,_,E',hK,by rw[hw];exact dH,aM,mw,my,.inr ⟨kX.symm,.inl ⟨by rw[js];exact hm,rfl,by simp[iG],A,rfl⟩⟩,hml⟩
    ·have lN:blk.rows=[]:=List.eq_nil_of_length_eq_zero iG
     refine out A blk.rows 0 #[] b (g+1) _ (by rw[lN];rfl) ?_ (by rw[lN];simp) (fun row aa=>by rw[lN] at aa;cases aa) (fun i j row a h1 h2=>by rw[lN] at h1;simp at h1) (by omega) hby dR (by rw[List.getElem?_set_self lK]) (fun bC e8=>List.getElem?_set_ne (fun h=>e8 h.symm)) (fun _=>by simp) (by simp) (.inr (by omega)) hK
     rw[lN]
     cases A with
     | none=>exact run_firstCells_none _ _ _ _ _
     | some ia=>exact run_firstCells_some (P:=P) _ z.length 0 ia 0 0 [] (by simp) (fun j v h=>by simp at h)
   ·obtain⟨blk',ad,fz,q1,bJ,hw,hY,hX,ec⟩:=ag.heap b c hm
    obtain rfl:blk=blk':=by rw[hb] at q1;exact Option.some.inj q1
    have bz:E.sz b=z.length:=by rw[bJ,jr]
    by_cases pR:blk.rows.length+bn.length≤cap
    ·
     have Me:ad.size=E.cp b*z.length:=by rw[hY,bz]
     have hle:(blk.rows.length+bn.length)*z.length≤ad.size:=by rw[Me];exact Nat.mul_le_mul_right _ (by omega)
     have Dk:blk.rows.length*z.length+news.length≤ad.size:=by rw[X.len,←Nat.add_mul];exact hle
     have dH:=Q0 (ty:=ty) (o:=0) X aC rH jS.symm hw pR (by rw[Nat.zero_add];exact Dk)
     rw[Nat.zero_add] at dH
     let ba:Array Value:=(ad.toList.take (blk.rows.length*z.length)++news++ad.toList.drop (blk.rows.length*z.length+news.length)).toArray
     have C_: ∀k,ba[k]?=if k<blk.rows.length*z.length then ad.toList[k]? else if k<blk.rows.length*z.length+news.length then news[k - blk.rows.length*z.length]? else ad.toList[k]?:=by
      intro k
      show(List.toArray _)[k]?=_
      rw[List.getElem?_toArray,qv (by simpa using Dk)]
     obtain⟨E',mA,aM,mw,my,kX,js,rL,tS,hml⟩:=Gy (w':=E.w.setRow c ba) (x:=some c) (blk':=⟨g+1,z.length,blk.rows++bn⟩) ag aY hm hb (by show g+1=_;rw[aJ]) jr.symm rfl rfl rfl (by simp)
      (fun bB hC=>setRow_other _ _ _ _ (fun e=>hC (by rw[e]))) (fun bB hC=>by
       cases hC
       refine⟨ba,fz,setRow_heap _ _ _ _ _ _ hw,?_,by show(blk.rows++bn).length≤_;rw[List.length_append];omega,fun k row aa=> ?_,fun k j row a aa O=> ?_⟩
       ·rw[←hY]
        show(List.toArray _).size=_
        simp;omega
       ·have aa:(blk.rows++bn)[k]?=some row:=aa
        rcases Nat.lt_or_ge k blk.rows.length with ay | tW
        ·rw[List.getElem?_append_left ay] at aa;exact ec.1 k row aa
        ·rw[List.getElem?_append_right tW] at aa;rw[bz];exact(eQ row (List.mem_of_getElem? aa)).1
       ·have aa:(blk.rows++bn)[k]?=some row:=aa
        rcases Nat.lt_or_ge k blk.rows.length with ay | tW
        ·rw[List.getElem?_append_left ay] at aa
         obtain⟨u,hu,hv⟩:=ec.2 k j row a aa O
         refine⟨u,?_,hv⟩
         have hZ:j<z.length:=by rw[←bz,←ec.1 k row aa];exact(List.getElem?_eq_some_iff.1 O).1
         have:k*z.length+j<blk.rows.length*z.length:=by
          calc k*z.length+j<k*z.length+z.length:=by omega
           _=(k+1)*z.length:=by rw[Nat.add_mul,Nat.one_mul]
           _≤blk.rows.length*z.length:=Nat.mul_le_mul_right _ (by omega)
         rw[bz] at hu ⊢
         rw[C_,if_pos this];simpa using hu
        ·rw[List.getElem?_append_right tW] at aa
         obtain⟨u,hu,hv,_⟩:=X.rel _ j row a aa O
         refine⟨u,?_,hv⟩
         have jR:=(List.getElem?_eq_some_iff.1 hu).1
         have na:k*z.length+j=blk.rows.length*z.length+((k - blk.rows.length)*z.length+j):=by
          rw[←Nat.add_assoc,←Nat.add_mul];congr 2;omega
         rw[bz,C_,na,if_neg (by omega),if_pos (by omega),Nat.add_sub_cancel_left];exact hu)
     refine⟨_,_,_,E',hK,by rw[mA];rw[Nat.zero_mul];exact dH,aM,mw,my,.inr ⟨kX.symm,.inr ⟨c,cap,by rw[js];exact hm,by simp,pR,(fun h=>by cases h),by rw[tS];omega⟩⟩,hml⟩
    ·
     refine out (some ⟨c,0,none⟩) blk.rows cap (ad.toList.take (blk.rows.length*z.length)).toArray b (g+1) _ (by rw[Nat.zero_mul]) ?_ ?_ (fun row aa=> ?_) (fun i j row a h1 h2=> ?_) (by omega) hby dR (by rw[List.getElem?_set_self lK]) (fun bC e8=>List.getElem?_set_ne (fun h=>e8 h.symm)) (fun _=>by simp) (by simp) (.inr (by omega)) hK
     ·refine run_firstCells_some (P:=P) E.w.drew z.length blk.rows.length ⟨c,0,none⟩ blk.rows.length cap _ ?_ (fun k v hk=> ?_)
      ·have:blk.rows.length*z.length≤ad.size:=by rw[hY,bz];exact Nat.mul_le_mul_right _ hX
       simp;omega
      ·rw[List.getElem?_take] at hk
       split at hk
       ·rw[jB,Nat.zero_add]
        exact cell_of (w:=E.w) hw (by simpa using hk)
       ·cases hk
     ·have:blk.rows.length*z.length≤ad.size:=by rw[hY,bz];exact Nat.mul_le_mul_right _ hX
      simp;omega
     ·obtain⟨k,hk⟩:=List.mem_iff_getElem?.1 aa
      rw[←bz];exact ec.1 k row hk
     ·obtain⟨u,hu,hv⟩:=ec.2 i j row a h1 h2
      refine⟨u,?_,hv⟩
      have hi:=(List.getElem?_eq_some_iff.1 h1).1
      have O:j<z.length:=by rw[←bz,←ec.1 i row h1];exact(List.getElem?_eq_some_iff.1 h2).1
      have:i*z.length+j<blk.rows.length*z.length:=by
       calc i*z.length+j<i*z.length+z.length:=by omega
        _=(i+1)*z.length:=by rw[Nat.add_mul,Nat.one_mul]
        _≤blk.rows.length*z.length:=Nat.mul_le_mul_right _ (by omega)
      rw[List.getElem?_toArray,List.getElem?_take,if_pos this,Array.getElem?_toList,←bz]
      exact hu
 | _=>exact h.elim
def vQ (E:Env) (o:Oper) (a:Act) (K:j4 Prop):Act→World→Prop:=fun fw w'=>
 ∃v u L' H' E',K v L' H'∧E'.w=w'∧Step E E'∧SimH E' H'∧SimL E' L'∧V3 E' v u∧fw=a.put o.dst u∧ ∀t,o.dst≠some t→E'.mL t=E.mL t
def tc:List Nat→Nat→Option Nat
 | [],_=>none
 | x::r,t=>match Nat.ble 2000000 x with
  | true=>(match Nat.beq ((x - 2000000)%1000) t with
   | true=>some ((x - 2000000) / 1000)
   | false=>tc r t)
  | false=>tc r t
def oD (esc:List Nat) (dst:Option Nat) (cells:List AV) (L:List (Nat×List AV)) (H:List Blk) (K:j4 Prop):Prop:=
 if cells.all fY=true then match dst with
  | none=>False
  | some t=>match tc esc t with
   | some j=>ci H[j]? fun blk=>K (.ptr j (blk.aE+1) 0 0) L (H.set j ⟨blk.aE+1,cells.length,[cells]⟩)
   | none=>if esc.contains t=true then K (.ptr H.length 0 0 0) L (H++[⟨0,cells.length,[cells]⟩]) else
    match cG L t with
    | none=>K (.dn t 0) ((t,cells)::L) H
    | some _=>False
 else False
theorem SimL.none {E:Env} {L:List (Nat×List AV)} (h:SimL E L) {t:Nat} (af:cG L t=none):E.mL t=none:=by
 cases hm:E.mL t with
 | none=>rfl
 | some c=>
  obtain⟨cells,ad,ty,h1,_⟩:=h t c hm
  rw[af] at h1;cases h1
theorem At {E:Env} {cells:List AV} {vs:List Value} (hs:cells.all fY=true) (h:aw (be E) cells vs):aw (be E.aW) cells vs:=
 ⟨h.1,fun i a v ai hv=>As (List.all_eq_true.1 hs a (List.mem_of_getElem? ai)) (h.2 i a v ai hv)⟩
theorem FG {E:Env} {H:List Blk} {L:List (Nat×List AV)} {esc:List Nat} {dst:Option Nat} {cells:List AV} {ad:Array Value} {ty:TypeId} {K:AV→List (Nat×List AV)→List Blk→Prop}
  (ag:SimH E H) (aY:SimL E L) (hc:aw (be E) cells ad.toList) (h:oD esc dst cells L H K):
  ∃v L' H' E',K v L' H'∧E'.w=E.w.alloc (.cells ad ty (0,0))∧Step E E'∧SimH E' H'∧SimL E' L'∧V3 E' v (.pointer (some ⟨E.w.heap.size,0,none⟩))∧ ∀s,dst≠some s→E'.mL s=E.mL s:=by
 unfold oD at h
 split at h
 case isFalse=>exact h.elim
 case isTrue hs=>
 have hC:=At hs hc
 cases dst with
 | none=>exact h.elim
 | some t=>
  have h:match tc esc t with
   | some j=>ci H[j]? fun blk=>K (.ptr j (blk.aE+1) 0 0) L (H.set j ⟨blk.aE+1,cells.length,[cells]⟩)
   | none=>if esc.contains t=true then K (.ptr H.length 0 0 0) L (H++[⟨0,cells.length,[cells]⟩]) else(match cG L t with
    | none=>K (.dn t 0) ((t,cells)::L) H
    | some _=>False):=h
  split at h
  ·rename_i j SN
   obtain⟨blk,rv,hK⟩:=dp h
   have hZ:=(List.getElem?_eq_some_iff.1 rv).1
   have Mu:=ag.cS j blk rv
   have hlen:ad.size=cells.length:=by have:=hc.1;simp at this;exact this.symm
   obtain⟨E',aO,e2,cg,eH,hA,kL,tv,n0,_,hml⟩:=p8 (H:=H) (H':=H.set j ⟨blk.aE+1,cells.length,[cells]⟩) (b:=j) (cap:=1) (blk:=⟨blk.aE+1,cells.length,[cells]⟩) ag aY (jm.alloc E.w (.cells ad ty (0,0)))
    (by rw[List.getElem?_set];simp[hZ]) (fun bC e8=>by rw[List.getElem?_set,if_neg (fun e=>e8 e.symm)]) (fun _=>by simp) (by simp) (.inr (by show E.aE j<blk.aE+1;omega)) (by simp[hlen]) (by simp)
    ⟨fun i row aa=>by
      cases i with
      | zero=>simp at aa;subst aa;rfl
      | succ i=>simp at aa,
     fun i j row a aa O=>by
      cases i with
      | zero=>
       simp at aa;subst aa
       obtain⟨u,hu,hv⟩:=hC.get O
       exact⟨u,by simpa using hu,hv⟩
      | succ i=>simp at aa⟩
   refine⟨_,_,_,E',hK,aO,e2,cg,eH,.inr ⟨hA.symm,E.w.heap.size,kL,?_⟩,fun s _=>by rw[hml]⟩
   rw[Nat.zero_mul]
  split at h
  ·have hlen:ad.size=cells.length:=by have:=hc.1;simp at this;exact this.symm
   have rm:SimH E (H++[⟨0,cells.length,[cells]⟩]):=ag.snoc rfl
   obtain⟨mr,oh⟩:=ag.fresh H.length (Nat.le_refl _)
   obtain⟨E',aO,e2,cg,eH,hA,kL,tv,n0,_,hml⟩:=p8 (H:=H++[⟨0,cells.length,[cells]⟩]) (H':=H++[⟨0,cells.length,[cells]⟩]) (b:=H.length) (cap:=1) (blk:=⟨0,cells.length,[cells]⟩) rm aY (jm.alloc E.w (.cells ad ty (0,0)))
    (by simp) (fun _ _=>rfl) (fun _=>rfl) (Nat.le_refl _) (.inl ⟨mr,oh.symm⟩) (by simp[hlen]) (by simp)
    ⟨fun i row aa=>by
      cases i with
      | zero=>simp at aa;subst aa;rfl
      | succ i=>simp at aa,
     fun i j row a aa O=>by
      cases i with
      | zero=>
       simp at aa;subst aa
       obtain⟨u,hu,hv⟩:=hC.get O
       exact⟨u,by simpa using hu,hv⟩
      | succ i=>simp at aa⟩
   refine⟨_,_,_,E',h,aO,e2,cg,eH,.inr ⟨hA.symm,E.w.heap.size,kL,?_⟩,fun s _=>by rw[hml]⟩
   rw[Nat.zero_mul]
  ·cases aJ:cG L t with
   | some x=>rw[aJ] at h;exact h.elim
   | none=>
    rw[aJ] at h
    have hm:=aY.none aJ
    obtain⟨E',aO,e2,cg,eH,hA,_,hml⟩:=FF (L:=(t,cells)::L) (t:=t) (cells:=cells) ag (aY.cons hm) (jm.alloc E.w (.cells ad ty (0,0))) (by simp[cG]) hm hC
    exact⟨_,_,_,E',h,aO,e2,cg,eH,hA,fun s hs=>hml s fun e=>hs (by rw[e])⟩
def iN:AV→AV
 | .av rows _ fr=> .av rows false fr
 | a=>a
theorem be.iN {E:Env} {a:AV} {v:Value} (h:be E a v):be E (iN a) v:=by
 cases a with
 | av rows full fr=>
  have h:ar E.w E.PA E.PF (.av rows full fr) v:=h
  cases h with
  | av dc c2 dS bz cA hrel=>exact ar.av dc c2 (fun h=>by cases h) bz cA hrel
 | _=>exact h
theorem aw.iN {E:Env} {l:List AV} {m:List Value} (h:aw (be E) l m):aw (be E) (l.map iN) m:=by
 refine⟨by rw[List.length_map];exact h.1,fun i a v ai hv=> ?_⟩
 rw[List.getElem?_map] at ai
 cases ak:l[i]? with
 | none=>rw[ak] at ai;cases ai
 | some b=>rw[ak] at ai;cases ai;exact(h.2 i b v ak hv).iN
def p7 (P:Program) (t:TypeId) (l c:AV) (L:List (Nat×List AV)) (H:List Blk) (K:j4 Prop):Prop:=
 ci (fU P t) fun e=>ci (jk P e) fun z=>if z.length=P.cellsOf e∧z.all fY=true then match l,c with
  | .int _ l,.int _ c=>0≤l∧l≤c∧(P.bytesOf e:Int)*c≤140737488355328∧c≤4611686018427387904∧K (.ref H.length 0 0 l.toNat false) L (H++[⟨0,z.length,List.replicate l.toNat (z.map iN)⟩])
  | _,_=>False
 else False
theorem PO (z:Array Value) (n k:Nat) (hk:k<n):(madeCells z n)[k]?=some (z[k%z.size]!):=by
 simp[madeCells,hk]
theorem P0 {P:Program} {E:Env} {H:List Blk} {L:List (Nat×List AV)} {t:TypeId} {l c:AV} {uJ B0:Value} {K:AV→List (Nat×List AV)→List Blk→Prop}
  (ag:SimH E H) (aY:SimL E L) (ak:V3 E l uJ) (hc:V3 E c B0) (h:p7 P t l c L H K):
  ∃v L' H' E' u,K v L' H'∧(Instr.makeSlice t uJ B0).run P E.w= .ok u E'.w∧Step E E'∧SimH E' H'∧SimL E' L'∧V3 E' v u∧E'.mL=E.mL:=by
 obtain⟨e,he,h⟩:=dp h
 obtain⟨z,an,h⟩:=dp h
 split at h
 case isFalse=>exact h.elim
 case isTrue hb=>
 obtain⟨jS,Nh⟩:=hb
 cases l with
 | int p2 l=>
  cases c with
  | int iJ c=>
   obtain⟨aA,h1,h2,ao,hK⟩:=(show 0≤l∧l≤c∧(P.bytesOf e:Int)*c≤140737488355328∧c≤4611686018427387904∧K (.ref H.length 0 0 l.toNat false) L (H++[⟨0,z.length,List.replicate l.toNat (z.map iN)⟩]) from h)
   obtain rfl:=ak.jU
   obtain rfl:=hc.jU
   obtain⟨i,v,q1,q2,q3,q4⟩:=o6 (E:=E) an
   have al:=(At Nh q4).iN
   have ot:v.cells.size=z.length:=by rw[q3];simp
   have pN:i.size=z.length:=by rw[jS];simp[Program.cellsOf,q1]
   have hby:P.bytesOf e=i.bytes:=by simp[Program.bytesOf,q1]
   have hu:=m0 he
   have dH:=run_make (P:=P) E.w t e i v hu q1 q2 p2 iJ l c aA h1 (by rw[hby] at h2;omega) (by omega)
   have rm:SimH E (H++[⟨0,z.length,List.replicate l.toNat (z.map iN)⟩]):=ag.snoc rfl
   obtain⟨mr,oh⟩:=ag.fresh H.length (Nat.le_refl _)
   have Dj:l.toNat≤c.toNat:=by omega
   obtain⟨E',aO,e2,cg,eH,hA,kL,tv,n0,_,hml⟩:=p8 (H:=H++[⟨0,z.length,List.replicate l.toNat (z.map iN)⟩]) (H':=H++[⟨0,z.length,List.replicate l.toNat (z.map iN)⟩]) (b:=H.length) (cap:=c.toNat) (blk:=⟨0,z.length,List.replicate l.toNat (z.map iN)⟩) rm aY (jm.alloc E.w (.cells (madeCells v.cells (c.toNat*i.size)) e (0,0)))
    (by simp) (fun _ _=>rfl) (fun _=>rfl) (Nat.le_refl _) (.inl ⟨mr,oh.symm⟩) (by rw[size_madeCells,pN]) (by simpa using Dj)
    ⟨fun gv row aa=>by
      have aa:(List.replicate l.toNat (z.map iN))[gv]?=some row:=aa
      rw[List.getElem?_replicate] at aa
      split at aa
      ·cases aa;exact List.length_map ..
      ·exact absurd aa (fun h=>by cases h),
     fun gv j row a aa O=>by
      have aa:(List.replicate l.toNat (z.map iN))[gv]?=some row:=aa
      rw[List.getElem?_replicate] at aa
      split at aa
      ·rename_i hi
       cases aa
       have m9:=(List.getElem?_eq_some_iff.1 O).1
       rw[List.length_map] at m9
       obtain⟨u,hu,hv⟩:=al.get O
       refine⟨u,?_,hv⟩
       have ay:gv*z.length+j<c.toNat*z.length:=by
        calc gv*z.length+j<gv*z.length+z.length:=by omega
         _=(gv+1)*z.length:=by rw[Nat.add_mul,Nat.one_mul]
         _≤c.toNat*z.length:=Nat.mul_le_mul_right _ (by omega)
       show(madeCells v.cells (c.toNat*i.size))[gv*z.length+j]?=_
       rw[pN,PO _ _ _ ay,ot,show(gv*z.length+j)%z.length=j by rw[Nat.mul_comm,Nat.mul_add_mod,Nat.mod_eq_of_lt m9],←hu,Array.getElem?_toList,getElem!_pos v.cells j (by omega),Array.getElem?_eq_getElem]
      ·exact absurd aa (fun h=>by cases h)⟩
   refine⟨_,_,_,E',_,hK,by rw[dH,aO],e2,cg,eH,.inr ⟨hA.symm,.inr ⟨E.w.heap.size,c.toNat,kL,by rw[Nat.zero_mul],Dj,(fun h=>by cases h),by rw[n0];omega⟩⟩,hml⟩
  | _=>exact h.elim
 | _=>exact h.elim
def oQ:List Nat→Option Nat
 | []=>none
 | x::r=>match Nat.ble 1000000 x with
  | true=>some (x - 1000000)
  | false=>oQ r
def PC (qs:Option Nat) (gg:Bool) (n sz:Nat) (rows:List (List AV)) (L:List (Nat×List AV)) (H:List Blk) (K:j4 Prop):Prop:=match qs with
 | none=>K (.ref H.length 0 0 n gg) L (H++[⟨0,sz,rows⟩])
 | some j=>ci H[j]? fun blk=>K (.ref j (blk.aE+1) 0 n true) L (H.set j ⟨blk.aE+1,sz,rows⟩)
def n6 (esc:List Nat) (dst:Option Nat):Bool:=match dst with
 | none=>false
 | some d=>esc.any fun x=>Nat.beq x (500000+d)
def nW (P:Program) (fr:Bool) (qs:Option Nat) (t:TypeId) (n:Nat) (parts:List (Nat×AV)) (L:List (Nat×List AV)) (H:List Blk) (K:j4 Prop):Prop:=
 ci (fU P t) fun e=>ci (jk P e) fun z=>if z.length=P.cellsOf e∧n*z.length≤1000000∧n≤1000000 then
  ci (kN (fun i=>some (i*z.length,z.length)) ((List.range (n*z.length)).map fun i=>z.getD (i%z.length) .undef) parts) fun cells=>
   if(bif fr then false else cells.all gb)=true then K (.av (chunk z.length n (cells.map fO)) true (cells.all jM)) L H else
   if cells.all fY=true then PC qs (!fr) n z.length (chunk z.length n cells) L H K else False
 else False
theorem Js {size n i:Nat} {cells row:List AV} (ak:cells.length=n*size) (aa:(chunk size n cells)[i]?=some row):row.length=size:=by
 unfold chunk at aa
 rw[List.getElem?_map] at aa
 cases al:(List.range n)[i]? with
 | none=>rw[al] at aa;cases aa
 | some k=>
  have hk:=(List.getElem?_eq_some_iff.1 al).1
  have hi:k=i:=by have:=(List.getElem?_eq_some_iff.1 al).2;simpa using this.symm
  rw[al] at aa;cases aa
  simp only[List.length_take,List.length_drop]
  have iE:i<n:=by simpa using hk
  rw[ak,hi]
  have:(i+1)*size≤n*size:=Nat.mul_le_mul_right _ iE
  rw[Nat.add_mul,Nat.one_mul] at this
  omega
theorem I0 {P:Program} {fr:Bool} {qs:Option Nat} {E:Env} {H:List Blk} {L:List (Nat×List AV)} {t:TypeId} {n:Nat} {parts:List (Nat×AV)} {gU:List (Nat×Value)} {K:AV→List (Nat×List AV)→List Blk→Prop} (ag:SimH E H) (aY:SimL E L)
  (ab:aw (fun a b=>a.1=b.1∧V2 E a.2 b.2) parts gU) (h:nW P fr qs t n parts L H K):
  ∃v u L' H' E',K v L' H'∧(Instr.buildSlice t n gU.toArray).run P E.w= .ok u E'.w∧Step E E'∧SimH E' H'∧SimL E' L'∧V3 E' v u∧E'.mL=E.mL:=by
 obtain⟨e,he,h⟩:=dp h
 obtain⟨z,an,h⟩:=dp h
 split at h
 case isFalse=>exact h.elim
 case isTrue hb=>
 obtain⟨cells,hf,h⟩:=dp h
 split at h
 case isTrue hby=>
  have hby:cells.all gb=true:=by cases fr with
   | true=>cases hby
   | false=>exact hby
  have hv:pq P t n parts (fun r=>K r L H):=by
   refine dq he (dq an ?_)
   rw[if_pos hb]
   refine dq hf ?_
   rw[if_pos hby];exact h
  obtain⟨r,u,E',hK,aa,al,ao⟩:=BD ag ab hv
  exact⟨r,u,L,H,E',hK,aa,al.step,al.simH ag,al.simL ag aY,ao,al.mL⟩
 case isFalse=>
 split at h
 case isFalse=>exact h.elim
 case isTrue hs=>
 obtain⟨fg,hrel,dH,hlen⟩:=I3 ab he an hb.1 hb.2 hf
 have hX:(chunk z.length n cells).length=n:=by simp[chunk]
 have yr:fg.size=n*z.length:=by have:=hrel.1;simp at this;omega
 have Du:pf E z.length (chunk z.length n cells) fg:=⟨fun i row aa=>Js hlen aa,fun i j row a aa O=>by
   obtain⟨hi,m9,hc⟩:=BO aa O
   obtain⟨u,hu,hv⟩:=hrel.get hc
   exact⟨u,by rw[Array.getElem?_toList] at hu;exact hu,hv⟩⟩
 cases qs with
 | none=>
  have rm:SimH E (H++[⟨0,z.length,chunk z.length n cells⟩]):=ag.snoc rfl
  obtain⟨mr,oh⟩:=ag.fresh H.length (Nat.le_refl _)
  obtain⟨E',aO,e2,cg,eH,hA,kL,tv,n0,_,hml⟩:=p8 (H:=H++[⟨0,z.length,chunk z.length n cells⟩]) (H':=H++[⟨0,z.length,chunk z.length n cells⟩]) (b:=H.length) (cap:=n) (blk:=⟨0,z.length,chunk z.length n cells⟩) rm aY (jm.alloc E.w (.cells fg e (0,0)))
   (by simp) (fun _ _=>rfl) (fun _=>rfl) (Nat.le_refl _) (.inl ⟨mr,oh.symm⟩) yr (by rw[hX];exact Nat.le_refl _) Du
  exact⟨_,_,_,_,E',h,by rw[dH,aO],e2,cg,eH,.inr ⟨hA.symm,.inr ⟨E.w.heap.size,n,kL,by rw[Nat.zero_mul],Nat.le_refl _,(fun _=>rfl),by rw[n0];omega⟩⟩,hml⟩
 | some j=>
  obtain⟨blk,rv,hK⟩:=dp (show ci H[j]? fun blk=>K (.ref j (blk.aE+1) 0 n true) L (H.set j ⟨blk.aE+1,z.length,chunk z.length n cells⟩) from h)
  have hZ:=(List.getElem?_eq_some_iff.1 rv).1
  have Mu:=ag.cS j blk rv
  obtain⟨E',aO,e2,cg,eH,hA,kL,tv,n0,_,hml⟩:=p8 (H:=H) (H':=H.set j ⟨blk.aE+1,z.length,chunk z.length n cells⟩) (b:=j) (cap:=n) (blk:=⟨blk.aE+1,z.length,chunk z.length n cells⟩) ag aY (jm.alloc E.w (.cells fg e (0,0)))
   (by rw[List.getElem?_set];simp[hZ]) (fun bC e8=>by rw[List.getElem?_set,if_neg (fun e=>e8 e.symm)]) (fun _=>by simp) (by simp) (.inr (by show E.aE j<blk.aE+1;omega)) yr (by rw[hX];exact Nat.le_refl _) Du
  exact⟨_,_,_,_,E',hK,by rw[dH,aO],e2,cg,eH,.inr ⟨hA.symm,.inr ⟨E.w.heap.size,n,kL,by rw[Nat.zero_mul],Nat.le_refl _,(fun _=>rfl),by rw[n0];omega⟩⟩,hml⟩
def lb:AV→Bool
 | .av _ _ fr=>fr
 | .dn _ _ | .cv _ _ | .agg _ | .tup _ | .fn _ _=>false
 | _=>true
def lZ (k:Nat):AV→AV
 | .ref b g o n f=> .ref (k+b) g o n f
 | .ptr b g r c=> .ptr (k+b) g r c
 | a=>a
def qd:AV→Bool
 | .agg l=>l.all lb
 | a=>lb a
def qu (k:Nat):AV→AV
 | .agg l=> .agg (l.map (lZ k))
 | a=>lZ k a
def sa:AV→Bool
 | .tup l=>l.all qd
 | a=>qd a
def oT (k:Nat):AV→AV
 | .tup l=> .tup (l.map (qu k))
 | a=>qu k a
def j3 (k:Nat) (b:Blk):Blk:=⟨b.aE,b.sz,b.rows.map fun row=>row.map (lZ k)⟩
def r9 (H:List Blk):Bool:=H.all fun b=>b.rows.all fun row=>row.all lb
def Env.join (E E1:Env) (n:Nat):Env:=
 {w:=E1.w,PA:=fun c=>E.PA c∨E1.PF c,PF:=fun c=>E.PF c∨E1.PF c
  m:=fun b=>if b<n then E.m b else E1.m (b - n),aE:=fun b=>if b<n then E.aE b else E1.aE (b - n)
  sz:=fun b=>if b<n then E.sz b else E1.sz (b - n),cp:=fun b=>if b<n then E.cp b else E1.cp (b - n),mL:=E.mL}
section
variable {E E1:Env} {n:Nat}
theorem NX {b:Nat} (h:b<n):(E.join E1 n).m b=E.m b∧(E.join E1 n).aE b=E.aE b∧(E.join E1 n).sz b=E.sz b∧(E.join E1 n).cp b=E.cp b:=⟨if_pos h,if_pos h,if_pos h,if_pos h⟩
theorem yU (b:Nat):(E.join E1 n).m (n+b)=E1.m b∧(E.join E1 n).aE (n+b)=E1.aE b∧(E.join E1 n).sz (n+b)=E1.sz b∧(E.join E1 n).cp (n+b)=E1.cp b:=by
 have h: ¬n+b<n:=by omega
 have e:n+b - n=b:=by omega
 refine⟨?_,?_,?_,?_⟩<;>(unfold Env.join;simp only[if_neg h,e])
theorem yV {E':Env} (hd:E'=E.join E1 n) {a:AV} {v:Value} (br:lb a=true) (hv:be E1 a v):be E' (lZ n a) v:=by
 have iY: ∀{a:AV} {v:Value},lb a=true→ar E1.w E1.PA E1.PF a v→ar E'.w E'.PA E'.PF a v:=by
  intro a v br h
  subst hd
  cases h with
  | undef=>exact .undef _
  | int=>exact .int _ _
  | bool=>exact .bool _
  | str=>exact .str _
  | dU=>exact .dU
  | eh=>exact .eh
  | @av _ _ PB rows full fresh A cap sz vs dc c2 dS bz cA hrel=>
   have hf:fresh=true:=br
   refine .av (PB:=PB) (sz:=sz) (vs:=vs) (fun c hc=> ?_) c2 dS bz cA hrel
   have:=dc c hc
   rw[if_pos hf] at this ⊢
   exact .inr this
  | cv=>cases br
  | fn=>cases br
 cases a with
 | ref b g off m full=>
  subst hd
  obtain⟨dZ,lU,jV,ng⟩:=yU (E:=E) (E1:=E1) (n:=n) b
  show cY (E.join E1 n) (.ref (n+b) g off m full) v
  rcases(show cY E1 (.ref b g off m full) v from hv) with⟨h,k⟩ | ⟨h,k⟩
  ·exact .inl ⟨by rw[lU];exact h,k⟩
  ·refine .inr ⟨by rw[lU];exact h,?_⟩
   rw[dZ,jV,ng];exact k
 | ptr b g r c=>
  subst hd
  obtain⟨dZ,lU,jV,ng⟩:=yU (E:=E) (E1:=E1) (n:=n) b
  show cY (E.join E1 n) (.ptr (n+b) g r c) v
  rcases(show cY E1 (.ptr b g r c) v from hv) with⟨h,k⟩ | ⟨h,k⟩
  ·exact .inl ⟨by rw[lU];exact h,k⟩
  ·refine .inr ⟨by rw[lU];exact h,?_⟩
   rw[dZ,jV];exact k
 | dn t c=>cases br
 | fn f c=>cases br
 | agg l=>cases br
 | tup l=>cases br
 | cv l c=>cases br
 | undef=>exact ar.undef _
 | int k m=>exact iY (a:= .int k m) rfl hv
 | bool b=>exact iY (a:= .bool b) rfl hv
 | str s=>exact iY (a:= .str s) rfl hv
 | av rows full fr=>exact iY (a:= .av rows full fr) br hv
 | dU=>exact iY (a:= .dU) rfl hv
 | eh=>exact iY (a:= .eh) rfl hv
theorem Eb {E':Env} (hd:E'=E.join E1 n) {a:AV} {v:Value} (br:qd a=true) (hv:V2 E1 a v):V2 E' (qu n a) v:=by
 by_cases hf: ∃l,a= .agg l
 ·obtain⟨l,rfl⟩:=hf
  obtain⟨vs,rfl,ab⟩:=hv
  refine⟨vs,rfl,by rw[List.length_map];exact ab.1,fun i x u hx hu=> ?_⟩
  rw[List.getElem?_map] at hx
  cases ak:l[i]? with
  | none=>simp[ak] at hx
  | some y=>
   simp[ak] at hx;subst hx
   exact yV hd (List.all_eq_true.1 (show l.all lb=true from br) y (List.mem_of_getElem? ak)) (ab.2 i y u ak hu)
 ·have aO:qu n a=lZ n a:=by cases a<;>first | rfl | exact absurd ⟨_,rfl⟩ hf
  have e2:qd a=lb a:=by cases a<;>first | rfl | exact absurd ⟨_,rfl⟩ hf
  rw[ka fun l e=>hf ⟨l,e⟩] at hv
  rw[aO]
  exact h_ (yV hd (e2▸br) hv)
theorem NY {E':Env} (hd:E'=E.join E1 n) {a:AV} {v:Value} (br:sa a=true) (hv:V3 E1 a v):V3 E' (oT n a) v:=by
 by_cases hf: ∃l,a= .tup l
 ·obtain⟨l,rfl⟩:=hf
  obtain⟨vs,rfl,ab⟩:=hv
  refine⟨vs,rfl,by rw[List.length_map];exact ab.1,fun i x u hx hu=> ?_⟩
  rw[List.getElem?_map] at hx
  cases ak:l[i]? with
  | none=>simp[ak] at hx
  | some y=>
   simp[ak] at hx;subst hx
   exact Eb hd (List.all_eq_true.1 (show l.all qd=true from br) y (List.mem_of_getElem? ak)) (ab.2 i y u ak hu)
 ·have aO:oT n a=qu n a:=by cases a<;>first | rfl | exact absurd ⟨_,rfl⟩ hf
  have e2:sa a=qd a:=by cases a<;>first | rfl | exact absurd ⟨_,rfl⟩ hf
  rw[kb fun l e=>hf ⟨l,e⟩] at hv
  rw[aO]
  exact lq (Eb hd (e2▸br) hv)
end
theorem Jh {P:Program} {f:FuncId} {args cR:List AV} {L:List (Nat×List AV)} {H:List Blk} {E:Env} {vs:List Value} {Q:AV→List Blk→Prop} (ag:SimH E H) (aY:SimL E L)
  (ai:aw (V2 E) args vs) (hs:aw (fB L H) args cR) (h:ej P f cR [] fun r da=>sa r=true∧r9 da=true∧Q r da):
  Calls P f vs.toArray E.w fun e w'=> ∃r v da E',e= .returned v∧Q r da∧E'.w=w'∧Step E E'∧SimH E' (H++da.map (j3 H.length))∧SimL E' L∧V3 E' (oT H.length r) v∧E'.mL=E.mL:=by
 have n9:aw (V2 E.frozen) cR vs:=⟨hs.1▸ai.1,fun i x u hx hu=>by
  have ay:i<args.length:=by have:=(List.getElem?_eq_some_iff.1 hx).1;have:=hs.1;omega
  have ak:=List.getElem?_eq_getElem ay
  exact G7 (Sub.refl L H) ag aY (hs.2 i _ x ak hx) (ai.2 i _ u ak hu)⟩
 refine(h.2 E.frozen vs (fun _=>rfl) (CF ag) n9).mono ?_
 rintro e w' ⟨r,v,da,E1,rfl,⟨br,yi,aa⟩,rfl,af,cU,hv,aM⟩
 have rp: ∀c,E1.PF c→E.w.heap.size≤c∧c<E1.w.heap.size:=fun c hc=>⟨(aM.dr c hc).elim (fun h=>h.elim) id,cU.cu c (cU.ck c hc)⟩
 have pI: ∀c,E1.dx c→E.w.heap.size≤c∧c<E1.w.heap.size:=fun c hc=>⟨(aM.ko c hc).elim (fun⟨b,hb⟩=>by cases hb) id,cU.dB c hc⟩
 have iW: ∀c,c<E.w.heap.size→E1.w.heap[c]?=E.w.heap[c]?:=fun c hc=>aM.b3 c hc (fun⟨b,hb⟩=>by cases hb) (fun⟨b,hb⟩=>by cases hb)
 have gO:=ag.dB
 have gP:=ag.et
 generalize hd:E.join E1 H.length=E'
 have ja: ∀b,b<H.length→E'.m b=E.m b∧E'.aE b=E.aE b∧E'.sz b=E.sz b∧E'.cp b=E.cp b:=fun b hb=>hd▸NX hb
 have e_: ∀b,E'.m (H.length+b)=E1.m b∧E'.aE (H.length+b)=E1.aE b∧E'.sz (H.length+b)=E1.sz b∧E'.cp (H.length+b)=E1.cp b:=fun b=>hd▸yU b
 have jb:E'.w=E1.w:=by rw[←hd];rfl
 have p1: ∀c,E'.PA c↔E.PA c∨E1.PF c:=fun c=>by rw[←hd];exact Iff.rfl
 have uD: ∀c,E'.PF c↔E.PF c∨E1.PF c:=fun c=>by rw[←hd];exact Iff.rfl
 have nh:E'.mL=E.mL:=by rw[←hd];rfl
 have split: ∀b,b<H.length∨ ∃k,b=H.length+k:=fun b=>by
  rcases Nat.lt_or_ge b H.length with h | h
  ·exact .inl h
  ·exact .inr ⟨b - H.length,by omega⟩
 have Qb: ∀b x,E.m b=some x→b<H.length:=fun b x hb=>by
  rcases Nat.lt_or_ge b H.length with h | h
  ·exact h
  ·rw[(ag.fresh b h).1] at hb;cases hb
 have k5: ∀c,E'.dx c→E.dx c∨E1.dx c:=fun c ⟨b,hb⟩=>by
  rcases split b with h | ⟨k,rfl⟩
  ·exact .inl ⟨b,by rw[←(ja b h).1];exact hb⟩
  ·exact .inr ⟨k,by rw[←(e_ k).1];exact hb⟩
 have ft:Step E E':=
  {le:=⟨fun c hc=>(p1 c).2 (.inl hc),fun c hc=>(uD c).2 (.inl hc),fun c hc=>by rw[jb];exact iW c (ag.cu c hc),fun c hc=>by rw[jb];exact iW c (ag.cu c (ag.ck c hc)),fun b=>by
     rcases split b with h | ⟨k,rfl⟩
     ·rw[(ja b h).2.1];exact Nat.le_refl _
     ·rw[(ag.fresh (H.length+k) (by omega)).2];exact Nat.zero_le _,fun b x hx _=>by
     have h:=Qb b x hx
     exact⟨by rw[(ja b h).1];exact hx,(ja b h).2.2.1,(ja b h).2.2.2⟩,fun t c h=>by rw[nh];exact h⟩
   os:=by rw[jb];exact aM.os
   tape:=by rw[jb];exact aM.tape
   output:=by rw[jb];exact aM.output
   size:=by rw[jb];exact aM.size
   b3:=fun c hc _ _=>by rw[jb];exact iW c hc
   fV:=fun b c hb=>by
    rcases split b with h | ⟨k,rfl⟩
    ·exact .inl (by rw[←(ja b h).1];exact hb)
    ·exact .inr (pI c ⟨k,by rw[←(e_ k).1];exact hb⟩).1
   gj:=fun c ⟨t,aC⟩=> .inl ⟨t,by rw[←nh];exact aC⟩
   dC:=fun c hc=>((p1 c).1 hc).elim .inl fun h=> .inr (rp c h).1
   dr:=fun c hc=>((uD c).1 hc).elim .inl fun h=> .inr (rp c h).1}
 have xP: ∀b,b<H.length→(H++da.map (j3 H.length))[b]?=H[b]?:=fun b hb=>List.getElem?_append_left hb
 have xO: ∀k,(H++da.map (j3 H.length))[H.length+k]?=(da[k]?).map (j3 H.length):=fun k=>by
  rw[List.getElem?_append_right (by omega),List.getElem?_map];congr 2;omega
 refine⟨r,v,da,E',rfl,aa,jb,ft,?_,?_,NY hd.symm br hv,nh⟩
 ·exact{
   heap:=fun b c hb=>by
    rcases split b with h | ⟨k,rfl⟩
    ·obtain⟨dZ,lU,jV,ng⟩:=ja b h
     rw[dZ] at hb
     obtain⟨blk,ad,ty,q1,bJ,q2,q3,q4,cI,c4⟩:=ag.heap b c hb
     refine⟨blk,ad,ty,by rw[xP b h];exact q1,by rw[jV];exact bJ,by rw[jb,iW c (gO c ⟨b,hb⟩)];exact q2,by rw[jV,ng];exact q3,by rw[ng];exact q4,by rw[jV];exact cI,fun i j row a aa O=> ?_⟩
     obtain⟨u,hu,yq⟩:=c4 i j row a aa O
     exact⟨u,by rw[jV];exact hu,yq.le ft.le.aW⟩
    ·obtain⟨dZ,lU,jV,ng⟩:=e_ k
     rw[dZ] at hb
     obtain⟨blk,ad,ty,q1,bJ,q2,q3,q4,cI,c4⟩:=cU.heap k c hb
     have MI: ∀row∈blk.rows,∀a∈row,lb a=true:=fun row aa a ai=>
      List.all_eq_true.1 (List.all_eq_true.1 (List.all_eq_true.1 yi blk (List.mem_of_getElem? q1)) row aa) a ai
     refine⟨j3 H.length blk,ad,ty,by rw[xO k,q1];rfl,by rw[jV];exact bJ,by rw[jb];exact q2,by rw[jV,ng];exact q3,by rw[ng];show(blk.rows.map _).length≤_;rw[List.length_map];exact q4,fun i row' aa=> ?_,fun i j row' fw aa O=> ?_⟩
     ·have aa:(blk.rows.map fun row=>row.map (lZ H.length))[i]?=some row':=aa
      rw[List.getElem?_map] at aa
      cases al:blk.rows[i]? with
      | none=>simp[al] at aa
      | some row=>
       simp[al] at aa;subst aa
       rw[List.length_map,jV];exact cI i row al
     ·have aa:(blk.rows.map fun row=>row.map (lZ H.length))[i]?=some row':=aa
      rw[List.getElem?_map] at aa
      cases al:blk.rows[i]? with
      | none=>simp[al] at aa
      | some row=>
       simp[al] at aa;subst aa
       rw[List.getElem?_map] at O
       cases iX:row[j]? with
       | none=>simp[iX] at O
       | some a=>
        simp[iX] at O;subst O
        obtain⟨u,hu,yq⟩:=c4 i j row a al iX
        refine⟨u,by rw[jV];exact hu,?_⟩
        have CT:E'.aW=E.aW.join E1.aW H.length:=by rw[←hd];rfl
        exact yV CT (MI row (List.mem_of_getElem? al) a (List.mem_of_getElem? iX)) yq
   cS:=fun b blk hb=>by
    rcases split b with h | ⟨k,rfl⟩
    ·rw[xP b h] at hb;rw[(ja b h).2.1];exact ag.cS b blk hb
    ·rw[xO k] at hb
     cases al:da[k]? with
     | none=>simp[al] at hb
     | some y=>simp[al] at hb;subst hb;rw[(e_ k).2.1];exact cU.cS k y al
   e0:=fun b hb=>by
    rcases split b with h | ⟨k,rfl⟩
    ·rw[(ja b h).1] at hb
     obtain⟨blk,q1,q2⟩:=ag.e0 b hb
     exact⟨blk,by rw[xP b h];exact q1,by rw[(ja b h).2.2.1];exact q2⟩
    ·rw[(e_ k).1] at hb
     obtain⟨blk,q1,q2⟩:=cU.e0 k hb
     exact⟨j3 H.length blk,by rw[xO k,q1];rfl,by rw[(e_ k).2.2.1];exact q2⟩
   fresh:=fun b hb=>by
    rw[List.length_append,List.length_map] at hb
    rcases split b with h | ⟨k,rfl⟩
    ·omega
    ·rw[(e_ k).1,(e_ k).2.1];exact cU.fresh k (by omega)
   ee:=fun b bC c h1 h2=>by
    rcases split b with h | ⟨k,rfl⟩<;>rcases split bC with h' | ⟨gl,rfl⟩
    ·rw[(ja b h).1] at h1;rw[(ja bC h').1] at h2;exact ag.ee b bC c h1 h2
    ·rw[(ja b h).1] at h1;rw[(e_ gl).1] at h2
     have:=gO c ⟨b,h1⟩;have:=(pI c ⟨gl,h2⟩).1;omega
    ·rw[(e_ k).1] at h1;rw[(ja bC h').1] at h2
     have:=gO c ⟨bC,h2⟩;have:=(pI c ⟨k,h1⟩).1;omega
    ·rw[(e_ k).1] at h1;rw[(e_ gl).1] at h2;rw[cU.ee k gl c h1 h2]
   gk:=fun t fZ c h1 h2=>by rw[nh] at h1 h2;exact ag.gk t fZ c h1 h2
   ey:=fun b t c h1 h2=>by
    rw[nh] at h2
    rcases split b with h | ⟨k,rfl⟩
    ·rw[(ja b h).1] at h1;exact ag.ey b t c h1 h2
    ·rw[(e_ k).1] at h1
     have:=gP c ⟨t,h2⟩;have:=(pI c ⟨k,h1⟩).1;omega
   fm:=fun c hc hi=>by
    rcases(p1 c).1 hc with h | h<;>rcases k5 c hi with h' | h'
    ·exact ag.fm c h h'
    ·have:=ag.cu c h;have:=(pI c h').1;omega
    ·have:=gO c h';have:=(rp c h).1;omega
    ·exact cU.fm c (cU.ck c h) h'
   fx:=fun c hc ⟨t,aC⟩=>by
    rw[nh] at aC
    rcases(p1 c).1 hc with h | h
    ·exact ag.fx c h ⟨t,aC⟩
    ·have:=gP c ⟨t,aC⟩;have:=(rp c h).1;omega
   ck:=fun c hc=>(p1 c).2 (((uD c).1 hc).elim (fun h=> .inl (ag.ck c h)) .inr)
   dz:=fun c hc=>by
    rw[jb]
    rcases(uD c).1 hc with h | h
    ·exact(ag.dz c h).same (iW c (ag.cu c (ag.ck c h)))
    ·exact cU.dz c h
   cu:=fun c hc=>by
    rw[jb]
    rcases(p1 c).1 hc with h | h
    ·exact Nat.lt_of_lt_of_le (ag.cu c h) aM.size
    ·exact(rp c h).2
   dB:=fun c hc=>by
    rw[jb]
    rcases k5 c hc with h | h
    ·exact Nat.lt_of_lt_of_le (gO c h) aM.size
    ·exact(pI c h).2
   et:=fun c ⟨t,aC⟩=>by
    rw[nh] at aC;rw[jb]
    exact Nat.lt_of_lt_of_le (gP c ⟨t,aC⟩) aM.size}
 ·intro t c hm
  rw[nh] at hm
  obtain⟨cells,ad,ty,q1,q2,q3⟩:=aY t c hm
  exact⟨cells,ad,ty,q1,by rw[jb,iW c (gP c ⟨t,hm⟩)];exact q2,q3.mono fun _ _ k=>k.le ft.le.aW⟩
theorem Je {P:Program} {f:FuncId} {args:List AV} {L:List (Nat×List AV)} {H:List Blk} {E:Env} {vs:List Value} {Q:AV→List Blk→Prop} (ag:SimH E H) (aY:SimL E L)
  (ai:aw (V2 E) args vs) (af:args.all h3=true) (h:ej P f args H fun r H'=>r5 r=true∧Q r H'):
  Calls P f vs.toArray E.w fun e w'=> ∃r v H' E',e= .returned v∧Q r H'∧E'.w=w'∧Step E E'∧SimH E' H'∧SimL E' L∧V3 E' r v∧E'.mL=E.mL:=by
 have n9:aw (V2 E.aW) args vs:=⟨ai.1,fun i a v h1 h2=>(ai.2 i a v h1 h2).aW (List.all_eq_true.1 af a (List.mem_of_getElem? h1))⟩
 refine(h.2 E.aW vs (fun _=>rfl) ag.aW n9).mono ?_
 rintro e w' ⟨r,v,H',E1,rfl,⟨MG,aa⟩,rfl,ui,cU,hv,aM⟩
 let E':Env:={E1 with mL:=E.mL}
 have CT:E'.aW=E1.aW:=rfl
 have gP:=ag.et
 have ko: ∀c,E1.dx c→E.dx c∨E.w.heap.size≤c:=aM.ko
 have My: ∀c,E.hn c→E1.w.heap[c]?=E.w.heap[c]?:=fun c hc=>aM.b3 c (gP c hc) (fun⟨b,hb⟩=>by
  obtain⟨t,aC⟩:=hc
  exact ag.ey b t c hb aC) (fun⟨b,hb⟩=>by cases hb)
 have hle:E1.aW.ev E':=Env.uS E'
 have ft:Step E E':=
  {le:=⟨aM.le.dC,aM.le.dr,aM.le.nC,aM.le.wf,aM.le.aE,aM.le.m,fun _ _ h=>h⟩
   os:=aM.os,tape:=aM.tape,output:=aM.output,size:=aM.size
   b3:=fun c hc h1 h2=>aM.b3 c hc h1 (fun⟨b,hb⟩=>by cases hb)
   fV:=aM.fV
   gj:=fun c h=> .inl h
   dC:=aM.dC
   dr:=aM.dr}
 refine⟨r,v,H',E',rfl,aa,rfl,ft,?_,?_,?_,rfl⟩
 ·exact{cU with
   gk:=ag.gk
   ey:=fun b t c h1 h2=>by
    rcases ko c ⟨b,h1⟩ with⟨bC,h⟩ | h
    ·exact ag.ey bC t c h h2
    ·have:=gP c ⟨t,h2⟩;omega
   fx:=fun c hc ⟨t,aC⟩=>by
    rcases aM.dC c hc with h | h
    ·exact ag.fx c h ⟨t,aC⟩
    ·have h:E.w.heap.size≤c:=h
     have:=gP c ⟨t,aC⟩;omega
   et:=fun c hc=>Nat.lt_of_lt_of_le (gP c hc) aM.size}
 ·intro t c hm
  obtain⟨cells,ad,ty,q1,q2,q3⟩:=aY t c hm
  exact⟨cells,ad,ty,q1,by show E1.w.heap[c]?=_;rw[My c ⟨t,hm⟩];exact q2,q3.mono fun _ _ k=>k.le ft.le.aW⟩
 ·exact(hv.aW MG).le hle
end Go.Proofs.Ytglpfccgmfhkdaa.Fw
