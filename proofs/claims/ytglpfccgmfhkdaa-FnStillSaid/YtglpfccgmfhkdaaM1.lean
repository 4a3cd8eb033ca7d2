/- The framework, part A: abstract values, how they stand for Go's values in a world, and what stays as it is when the world grows. -/
import Derived.WalkKit
import Derived.KernelRfl
import Derived.Orders
import Derived.Laws.StructEq
import Derived.ChangeArms
import Derived.ChangeShapes
import Derived.SizedLaws
import Derived.Below
import Derived.JoinedOf
import Derived.Test.YtglpfccgmfhkdaaProg
set_option linter.unusedVariables false
namespace Go.Proofs.Ytglpfccgmfhkdaa.Fw
open Go
inductive AV where
 | undef
 | int (k:IntKind) (n:Int)
 | bool (b:Bool)
 | str (s:ByteArray)
 | bC (rows:List (List AV)) (full fresh:Bool)
 | ref (b g off n:Nat) (full:Bool)
 | ptr (b g row col:Nat)
 | fH (t col:Nat)
 | dA (cells:List AV) (col:Nat)
 | gj
 | gE
 | agg (cells:List AV)
 | tup (vs:List AV)
 | fn (f:FuncId) (caps:List AV)
 deriving Inhabited
structure Blk where
 bF:Nat
 sz:Nat
 rows:List (List AV)
 deriving Inhabited
structure St where
 T:List AV
 L:List (Nat×List AV)
 H:List Blk
def aD {α β:Type} (R:α→β→Prop) (l:List α) (m:List β):Prop:=
 l.length=m.length∧ ∀(i:Nat) (a:α) (b:β),l[i]?=some a→m[i]?=some b→R a b
theorem aD.nil {α β:Type} {R:α→β→Prop}:aD R [] []:=⟨rfl,fun i a b h=>by simp at h⟩
theorem aD.cons {α β:Type} {R:α→β→Prop} {a:α} {b:β} {l:List α} {m:List β} (h:R a b) (k:aD R l m):aD R (a::l) (b::m):=
 ⟨by simp[k.1],fun i x y hx bm=>by
  cases i with
  | zero=>simp at hx bm;subst hx;subst bm;exact h
  | succ i=>exact k.2 i x y (by simpa using hx) (by simpa using bm)⟩
theorem aD.head {α β:Type} {R:α→β→Prop} {a:α} {b:β} {l:List α} {m:List β} (h:aD R (a::l) (b::m)):R a b:=h.2 0 a b rfl rfl
theorem aD.tail {α β:Type} {R:α→β→Prop} {a:α} {b:β} {l:List α} {m:List β} (h:aD R (a::l) (b::m)):aD R l m:=
 ⟨by simpa using h.1,fun i x y hx bm=>h.2 (i+1) x y (by simpa using hx) (by simpa using bm)⟩
theorem aD.mono {α β:Type} {R x6:α→β→Prop} {l:List α} {m:List β} (h:aD R l m) (aK: ∀a b,R a b→x6 a b):aD x6 l m:=
 ⟨h.1,fun i a b x y=>aK _ _ (h.2 i a b x y)⟩
theorem aD.get {α β:Type} {R:α→β→Prop} {l:List α} {m:List β} (h:aD R l m) {i:Nat} {a:α} (a3:l[i]?=some a): ∃b,m[i]?=some b∧R a b:=by
 have hi:i<l.length:=(List.getElem?_eq_some_iff.1 a3).1
 have hm:i<m.length:=h.1▸hi
 exact⟨m[i],List.getElem?_eq_getElem hm,h.2 i a _ a3 (List.getElem?_eq_getElem hm)⟩
theorem aD.w7 {α β:Type} {R:α→β→Prop} {m:List β} (h:aD R [] m):m=[]:=by
 have:=h.1;exact List.eq_nil_of_length_eq_zero (by simpa using this.symm)
theorem aD.cons_inv {α β:Type} {R:α→β→Prop} {a:α} {l:List α} {m:List β} (h:aD R (a::l) m): ∃b fB,m=b::fB∧R a b∧aD R l fB:=by
 cases m with
 | nil=>have:=h.1;simp at this
 | cons b fB=>exact⟨b,fB,rfl,h.head,h.tail⟩
theorem aD.append {α β:Type} {R:α→β→Prop} {l fu:List α} {m fB:List β} (h:aD R l m) (k:aD R fu fB):aD R (l++fu) (m++fB):=by
 refine⟨by simp[h.1,k.1],fun i a b a3 hb=> ?_⟩
 rcases Nat.lt_or_ge i l.length with hi | hi
 ·rw[List.getElem?_append_left hi] at a3
  rw[List.getElem?_append_left (h.1▸hi)] at hb
  exact h.2 i a b a3 hb
 ·rw[List.getElem?_append_right hi] at a3
  rw[List.getElem?_append_right (h.1▸hi),←h.1] at hb
  exact k.2 _ a b a3 hb
theorem aD.set {α β:Type} {R:α→β→Prop} {l:List α} {m:List β} (h:aD R l m) (i:Nat) {a:α} {b:β} (aK:R a b):aD R (l.set i a) (m.set i b):=by
 refine⟨by simp[h.1],fun j x y hx bm=> ?_⟩
 by_cases aN:i=j
 ·subst aN
  rw[List.getElem?_set_self'] at hx bm
  cases aL:l[i]? with
  | none=>simp[aL] at hx
  | some J=>
   cases hm:m[i]? with
   | none=>simp[hm] at bm
   | some yb=>simp[aL] at hx;simp[hm] at bm;subst hx;subst bm;exact aK
 ·rw[List.getElem?_set_ne aN] at hx bm
  exact h.2 j x y hx bm
inductive bH (w:World):(Nat→Prop)→(Nat→Prop)→AV→Value→Prop where
 | undef {PA PF:Nat→Prop} (v:Value):bH w PA PF .undef v
 | int {PA PF:Nat→Prop} (k:IntKind) (n:Int):bH w PA PF (.int k n) (.int k n)
 | bool {PA PF:Nat→Prop} (b:Bool):bH w PA PF (.bool b) (.bool b)
 | str {PA PF:Nat→Prop} (s:ByteArray):bH w PA PF (.str s) (.string s)
 | bC {PA PF PB:Nat→Prop} {rows:List (List AV)} {full fresh:Bool} {A:Option Addr} {cap sz:Nat} {vs:Nat→Nat→Value}
   (gq: ∀c,PB c→if fresh=true then PF c else PA c)
   (gR:rows.length≤cap∧rows.length≤4611686018427387904) (ht:full=true→cap=rows.length)
   (cY: ∀(i:Nat) (row:List AV),rows[i]?=some row→row.length=sz)
   (fl:0<rows.length→ ∃c o,A=some ⟨c,o,none⟩∧PB c∧ ∀i j,i<rows.length→j<sz→w.cell? ⟨c,o+(i*sz+j),none⟩=some (vs i j))
   (ec: ∀(i j:Nat) (row:List AV) (a:AV),rows[i]?=some row→row[j]?=some a→bH w PB (fun _=>False) a (vs i j)):
   bH w PA PF (.bC rows full fresh) (.slice A rows.length cap)
 | dA {PA PF:Nat→Prop} {cells:List AV} {col c o:Nat} {vs:Nat→Value} (hc:PA c)
   (fl: ∀j,j<cells.length→w.cell? ⟨c,o+j,none⟩=some (vs j))
   (ec: ∀(j:Nat) (a:AV),cells[j]?=some a→bH w PA (fun _=>False) a (vs j)):bH w PA PF (.dA cells col) (.pointer (some ⟨c,o+col,none⟩))
 | gj {PA PF:Nat→Prop}:bH w PA PF .gj (.pointer none)
 | gE {PA PF:Nat→Prop}:bH w PA PF .gE .nilIface
 | fn {PA PF:Nat→Prop} {f:FuncId} {caps:List AV} {vs:List Value} (aL:caps.length=vs.length)
   (ec: ∀(i:Nat) (a:AV) (v:Value),caps[i]?=some a→vs[i]?=some v→bH w PA (fun _=>False) a v):bH w PA PF (.fn f caps) (.func (.func f) #[] vs.toArray)
theorem Kh {w w':World} {c o:Nat} (h:w'.heap[c]?=w.heap[c]?):w'.cell? ⟨c,o,none⟩=w.cell? ⟨c,o,none⟩:=by
 simp[World.cell?,h]
theorem bH.mono {w w':World} {PA PF:Nat→Prop} {a:AV} {v:Value} (h:bH w PA PF a v):
  ∀{x4 x5:Nat→Prop},(∀c,PA c→w'.heap[c]?=w.heap[c]?)→(∀c,PF c→w'.heap[c]?=w.heap[c]?)→(∀c,PA c→x4 c)→(∀c,PF c→x5 c)→bH w' x4 x5 a v:=by
 induction h with
 | undef v=>intros;exact .undef v
 | int k n=>intros;exact .int k n
 | bool b=>intros;exact .bool b
 | str s=>intros;exact .str s
 | @bC PA PF PB rows full fresh A cap sz vs gq gR ht cY fl ec bQ=>
  intro x4 x5 hw wU a3 hf
  have LA: ∀c,PB c→w'.heap[c]?=w.heap[c]?:=fun c hc=>by
   have:=gq c hc
   split at this
   ·exact wU c this
   ·exact hw c this
  refine .bC (PB:=PB) (sz:=sz) (vs:=vs) (fun c hc=> ?_) gR ht cY (fun aG=> ?_) (fun i j row a aK aN=> ?_)
  ·have:=gq c hc
   split
   ·rename_i h;rw[if_pos h] at this;exact hf c this
   ·rename_i h;rw[if_neg h] at this;exact a3 c this
  ·obtain⟨c,o,e,hc,eK⟩:=fl aG
   exact⟨c,o,e,hc,fun i j hi aN=>by rw[Kh (LA c hc)];exact eK i j hi aN⟩
  ·exact bQ i j row a aK aN LA (fun c hc=>hc.elim) (fun c hc=>hc) (fun c hc=>hc)
 | @dA PA PF cells col c o vs hc fl ec bQ=>
  intro x4 x5 hw wU a3 hf
  refine .dA (a3 c hc) (vs:=vs) (fun j aN=> ?_) (fun j a aN=>bQ j a aN hw (fun c hc=>hc.elim) a3 (fun c hc=>hc))
  rw[Kh (hw c hc)];exact fl j aN
 | gj=>intros;exact .gj
 | gE=>intros;exact .gE
 | fn aL ec bQ=>
  intro x4 x5 hw wU a3 hf
  exact .fn aL (fun i a v h1 h2=>bQ i a v h1 h2 hw (fun c hc=>hc.elim) a3 (fun c hc=>hc))
theorem bH.one {w:World} {PA PF:Nat→Prop} {a:AV} {v:Value} (h:bH w PA PF a v) (hu:a≠ .undef):v.oneCell'=true:=by
 cases h<;>first | rfl | exact absurd rfl hu
structure Env where
 w:World
 PA:Nat→Prop
 PF:Nat→Prop
 m:Nat→Option (Option Nat)
 bF:Nat→Nat
 sz:Nat→Nat
 cp:Nat→Nat
 mL:Nat→Option Nat
def fx (E:Env):AV→Value→Prop
 | .ref b g off n full,v=>(g<E.bF b∧ ∃A cap,v= .slice A n cap)∨(g=E.bF b∧((E.m b=some none∧off=0∧n=0∧ ∃A,v= .slice A 0 0)∨
   ∃c cap,E.m b=some (some c)∧v= .slice (some ⟨c,off*E.sz b,none⟩) n cap∧n≤cap∧(full=true→cap=n)∧off+cap≤E.cp b))
 | .ptr b g r c,v=>(g<E.bF b∧ ∃bl o,v= .pointer (some ⟨bl,o,none⟩))∨(g=E.bF b∧ ∃bl,E.m b=some (some bl)∧v= .pointer (some ⟨bl,r*E.sz b+c,none⟩))
 | .fH t c,v=> ∃bl,E.mL t=some bl∧v= .pointer (some ⟨bl,c,none⟩)
 | a,v=>bH E.w E.PA E.PF a v
def cM (E:Env):AV→Value→Prop
 | .fn f caps,v=> ∃vs:List Value,v= .func (.func f) #[] vs.toArray∧aD (fx E) caps vs
 | a,v=>fx E a v
def V2 (E:Env):AV→Value→Prop
 | .agg cells,v=> ∃vs:List Value,v= .agg vs.toArray∧aD (cM E) cells vs
 | a,v=>cM E a v
def V3 (E:Env):AV→Value→Prop
 | .tup l,v=> ∃vs:List Value,v= .tuple vs.toArray∧aD (V2 E) l vs
 | a,v=>V2 E a v
structure Env.gP (E E':Env):Prop where
 fM: ∀c,E.PA c→E'.PA c
 fN: ∀c,E.PF c→E'.PF c
 tG: ∀c,E.PA c→E'.w.heap[c]?=E.w.heap[c]?
 wf: ∀c,E.PF c→E'.w.heap[c]?=E.w.heap[c]?
 bF: ∀b,E.bF b≤E'.bF b
 m: ∀b x,E.m b=some x→E'.bF b=E.bF b→E'.m b=some x∧E'.sz b=E.sz b∧E'.cp b=E.cp b
 mL: ∀t c,E.mL t=some c→E'.mL t=some c
theorem Env.gP.refl (E:Env):E.gP E:=⟨fun _ h=>h,fun _ h=>h,fun _ _=>rfl,fun _ _=>rfl,fun _=>Nat.le_refl _,fun _ _ h _=>⟨h,rfl,rfl⟩,fun _ _ h=>h⟩
theorem Env.gP.trans {A B C:Env} (h:A.gP B) (k:B.gP C):A.gP C:=
 ⟨fun c x=>k.fM c (h.fM c x),fun c x=>k.fN c (h.fN c x),fun c x=>(k.tG c (h.fM c x)).trans (h.tG c x),fun c x=>(k.wf c (h.fN c x)).trans (h.wf c x),
  fun b=>Nat.le_trans (h.bF b) (k.bF b),fun b x hx hg=>by
   have h1:B.bF b=A.bF b:=Nat.le_antisymm (hg▸k.bF b) (h.bF b)
   have h2:C.bF b=B.bF b:=hg.trans h1.symm
   obtain⟨aV,s1,nz⟩:=h.m b x hx h1
   obtain⟨bt,s2,lW⟩:=k.m b x aV h2
   exact⟨bt,s2.trans s1,lW.trans nz⟩,
  fun t c x=>k.mL t c (h.mL t c x)⟩
theorem fx.le {E E':Env} (h:E.gP E') {a:AV} {v:Value} (hv:fx E a v):fx E' a v:=by
 have ov: ∀a v,bH E.w E.PA E.PF a v→bH E'.w E'.PA E'.PF a v:=fun a v k=>k.mono h.tG h.wf h.fM h.fN
 cases a with
 | ref b g off n full=>
  rcases hv with⟨hv,h1⟩ | ⟨hg,hv⟩
  ·exact .inl ⟨Nat.lt_of_lt_of_le hv (h.bF b),h1⟩
  ·rcases Nat.lt_or_ge (E.bF b) (E'.bF b) with bf | fV
   ·refine .inl ⟨hg▸bf,?_⟩
    rcases hv with⟨hm,aC,rfl,A,rfl⟩ | ⟨c,cap,hm,rfl,h1,h2,aO⟩<;>exact⟨_,_,rfl⟩
   ·have he:E'.bF b=E.bF b:=Nat.le_antisymm fV (h.bF b)
    refine .inr ⟨by rw[he];exact hg,?_⟩
    rcases hv with⟨hm,aC,aG,A,iF⟩ | ⟨c,cap,hm,e,h1,h2,aO⟩
    ·exact .inl ⟨(h.m b _ hm he).1,aC,aG,A,iF⟩
    ·obtain⟨aV,s1,nz⟩:=h.m b _ hm he
     exact .inr ⟨c,cap,aV,by rw[s1];exact e,h1,h2,by rw[nz];exact aO⟩
 | ptr b g r c=>
  rcases hv with⟨hv,h1⟩ | ⟨hg,bl,hm,e⟩
  ·exact .inl ⟨Nat.lt_of_lt_of_le hv (h.bF b),h1⟩
  ·rcases Nat.lt_or_ge (E.bF b) (E'.bF b) with bf | fV
   ·exact .inl ⟨hg▸bf,_,_,e⟩
   ·have he:E'.bF b=E.bF b:=Nat.le_antisymm fV (h.bF b)
    obtain⟨aV,s1,nz⟩:=h.m b _ hm he
    exact .inr ⟨by rw[he];exact hg,bl,aV,by rw[s1];exact e⟩
 | fH t c=>
  obtain⟨bl,hm,e⟩:=hv
  exact⟨bl,h.mL _ _ hm,e⟩
 | _=>exact ov _ _ hv
theorem rD {E:Env} {a:AV} {v:Value} (h: ∀f caps,a≠ .fn f caps):cM E a v=fx E a v:=by
 cases a<;>first | rfl | exact absurd rfl (h _ _)
theorem pr {E:Env} {a:AV} {v:Value} (h: ∀l,a≠ .agg l):V2 E a v=cM E a v:=by
 cases a<;>first | rfl | exact absurd rfl (h _)
theorem oL {E:Env} {a:AV} {v:Value} (h: ∀l,a≠ .tup l):V3 E a v=V2 E a v:=by
 cases a<;>first | rfl | exact absurd rfl (h _)
theorem cM.le {E E':Env} (h:E.gP E') {a:AV} {v:Value} (hv:cM E a v):cM E' a v:=by
 by_cases hf: ∃f caps,a= .fn f caps
 ·obtain⟨f,caps,rfl⟩:=hf
  obtain⟨vs,e,aI⟩:=hv
  exact⟨vs,e,aI.mono fun _ _ k=>k.le h⟩
 ·rw[rD fun f c e=>hf ⟨f,c,e⟩] at hv ⊢
  exact hv.le h
theorem V2.le {E E':Env} (h:E.gP E') {a:AV} {v:Value} (hv:V2 E a v):V2 E' a v:=by
 by_cases hf: ∃l,a= .agg l
 ·obtain⟨l,rfl⟩:=hf
  obtain⟨vs,e,aI⟩:=hv
  exact⟨vs,e,aI.mono fun _ _ k=>k.le h⟩
 ·rw[pr fun l e=>hf ⟨l,e⟩] at hv ⊢
  exact hv.le h
theorem V3.le {E E':Env} (h:E.gP E') {a:AV} {v:Value} (hv:V3 E a v):V3 E' a v:=by
 by_cases hf: ∃l,a= .tup l
 ·obtain⟨l,rfl⟩:=hf
  obtain⟨vs,e,aI⟩:=hv
  exact⟨vs,e,aI.mono fun _ _ k=>k.le h⟩
 ·rw[oL fun l e=>hf ⟨l,e⟩] at hv ⊢
  exact hv.le h
theorem bH.h9 {E:Env} {a:AV} {v:Value} (h:bH E.w E.PA E.PF a v):fx E a v:=by
 cases a<;>first | exact h | cases h
theorem bH.v1 {E:Env} {a:AV} {v:Value} (h:bH E.w E.PA E.PF a v):cM E a v:=by
 by_cases hf: ∃f caps,a= .fn f caps
 ·obtain⟨f,caps,rfl⟩:=hf
  cases h with
  | fn aL ec=>exact⟨_,rfl,aL,fun i a v h1 h2=>((ec i a v h1 h2).mono (fun _ _=>rfl) (fun _ h=>h.elim) (fun _ h=>h) (fun _ h=>h.elim)).h9⟩
 ·rw[rD fun f c e=>hf ⟨f,c,e⟩]
  exact h.h9
theorem cM.undef (E:Env) (v:Value):cM E .undef v:=bH.undef v
theorem V3.undef (E:Env) (v:Value):V3 E .undef v:=bH.undef v
def AV.Ul:AV→Bool
 | .undef | .agg _ | .tup _=>false
 | _=>true
theorem cM.one {E:Env} {a:AV} {v:Value} (h:cM E a v) (hc:a.Ul=true):True:=trivial
def e0:List (Nat×List AV)→Nat→Option (List AV)
 | [],_=>none
 | (k,c)::l,t=>if t=k then some c else e0 l t
def lk:List (Nat×List AV)→Nat→List AV→List (Nat×List AV)
 | [],_,_=>[]
 | (k,c)::l,t,d=>if t=k then(k,d)::l else(k,c)::lk l t d
def Env.gT (E:Env) (c:Nat):Prop:= ∃b,E.m b=some (some c)
def Env.kQ (E:Env) (c:Nat):Prop:= ∃t,E.mL t=some c
def Env.ca (E:Env):Env:={E with mL:=fun _=>none}
theorem Env.Cd (E:Env):E.ca.gP E:=⟨fun _ h=>h,fun _ h=>h,fun _ _=>rfl,fun _ _=>rfl,fun _=>Nat.le_refl _,fun _ _ h _=>⟨h,rfl,rfl⟩,fun _ _ h=>by cases h⟩
theorem Env.gP.ca {E E':Env} (h:E.gP E'):E.ca.gP E'.ca:=⟨h.fM,h.fN,h.tG,h.wf,h.bF,h.m,fun _ _ h=>by cases h⟩
def vJ (E:Env) (sz:Nat) (rows:List (List AV)) (a_:Array Value):Prop:=
 (∀(i:Nat) (row:List AV),rows[i]?=some row→row.length=sz)∧
 ∀(i j:Nat) (row:List AV) (a:AV),rows[i]?=some row→row[j]?=some a→ ∃u,a_[i*sz+j]?=some u∧cM E.ca a u
structure SimH (E:Env) (H:List Blk):Prop where
 heap: ∀b c,E.m b=some (some c)→ ∃blk a_ ty,H[b]?=some blk∧E.sz b=blk.sz∧E.w.heap[c]?=some (.cells a_ ty (0,0))∧a_.size=E.cp b*E.sz b∧blk.rows.length≤E.cp b∧vJ E (E.sz b) blk.rows a_
 fh: ∀(b:Nat) (blk:Blk),H[b]?=some blk→E.bF b=blk.bF
 hz: ∀b,E.m b=some none→ ∃blk,H[b]?=some blk∧E.sz b=blk.sz
 fresh: ∀b,H.length≤b→E.m b=none∧E.bF b=0
 h0: ∀b cn c,E.m b=some (some c)→E.m cn=some (some c)→b=cn
 jS: ∀t jZ c,E.mL t=some c→E.mL jZ=some c→t=jZ
 gU: ∀b t c,E.m b=some (some c)→E.mL t=some c→False
 h3: ∀c,E.PA c→ ¬E.gT c
 iv: ∀c,E.PA c→ ¬E.kQ c
 e3: ∀c,E.PF c→E.PA c
 fe: ∀c,E.PA c→c<E.w.heap.size
 gD: ∀c,E.gT c→c<E.w.heap.size
 g9: ∀c,E.kQ c→c<E.w.heap.size
def SimL (E:Env) (L:List (Nat×List AV)):Prop:=
 ∀t c,E.mL t=some c→ ∃cells a_ ty,e0 L t=some cells∧E.w.heap[c]?=some (.cells a_ ty (0,0))∧aD (cM E.ca) cells a_.toList
structure tO (E:Env) (aJ:St) (tmps:Array Value):Prop where
 h:SimH E aJ.H
 l:SimL E aJ.L
 iA: ∀t,V3 E (aJ.T.getD t .undef) (tmps.getD t undef)
 size:aJ.T.length=tmps.size
structure Step (E E':Env):Prop where
 le:E.gP E'
 os:E'.w.os=E.w.os
 tape:E'.w.tape=E.w.tape
 output:E'.w.output=E.w.output
 size:E.w.heap.size≤E'.w.heap.size
 fi: ∀c,c<E.w.heap.size→ ¬E.gT c→ ¬E.kQ c→E'.w.heap[c]?=E.w.heap[c]?
 jx: ∀b c,E'.m b=some (some c)→E.m b=some (some c)∨E.w.heap.size≤c
 jR: ∀c,E'.kQ c→E.kQ c∨E.w.heap.size≤c
 fM: ∀c,E'.PA c→E.PA c∨E.w.heap.size≤c
 fN: ∀c,E'.PF c→E.PF c∨E.w.heap.size≤c
theorem Step.qO {E E':Env} (h:Step E E'): ∀c,E'.gT c→E.gT c∨E.w.heap.size≤c:=fun c ⟨b,hb⟩=>(h.jx b c hb).elim (fun h=> .inl ⟨b,h⟩) .inr
theorem Step.refl (E:Env):Step E E:=⟨.refl E,rfl,rfl,rfl,Nat.le_refl _,fun _ _ _ _=>rfl,fun _ _ h=> .inl h,fun _ h=> .inl h,fun _ h=> .inl h,fun _ h=> .inl h⟩
theorem Step.trans {A B C:Env} (h:Step A B) (k:Step B C):Step A C where
 le:=h.le.trans k.le
 os:=k.os.trans h.os
 tape:=k.tape.trans h.tape
 output:=k.output.trans h.output
 size:=Nat.le_trans h.size k.size
 fi:=fun c hc h1 h2=>by
  rw[k.fi c (Nat.lt_of_lt_of_le hc h.size) (fun x=>(h.qO c x).elim h1 (fun y=>absurd hc (Nat.not_lt.2 y))) (fun x=>(h.jR c x).elim h2 (fun y=>absurd hc (Nat.not_lt.2 y)))]
  exact h.fi c hc h1 h2
 jx:=fun b c x=>(k.jx b c x).elim (fun y=>h.jx b c y) (fun y=> .inr (Nat.le_trans h.size y))
 jR:=fun c x=>(k.jR c x).elim (fun y=>h.jR c y) (fun y=> .inr (Nat.le_trans h.size y))
 fM:=fun c x=>(k.fM c x).elim (fun y=>h.fM c y) (fun y=> .inr (Nat.le_trans h.size y))
 fN:=fun c x=>(k.fN c x).elim (fun y=>h.fN c y) (fun y=> .inr (Nat.le_trans h.size y))
class cL where
 n:Nat
structure Good [iX:cL] (cz E:Env):Prop where
 zn: ∀b,iX.n≤b→cz.m b=none∧cz.bF b=0
 ca: ∀t,cz.mL t=none
 le:cz.gP E
 os:E.w.os=cz.w.os
 tape:E.w.tape=cz.w.tape
 output:E.w.output=cz.w.output
 size:cz.w.heap.size≤E.w.heap.size
 fi: ∀c,c<cz.w.heap.size→ ¬cz.gT c→E.w.heap[c]?=cz.w.heap[c]?
 jx: ∀b c,E.m b=some (some c)→cz.m b=some (some c)∨cz.w.heap.size≤c
 jR: ∀c,E.kQ c→cz.w.heap.size≤c
 fM: ∀c,E.PA c→cz.PA c∨cz.w.heap.size≤c
 fN: ∀c,E.PF c→cz.PF c∨cz.w.heap.size≤c
section
variable [iX:cL]
theorem Good.qO {cz E:Env} (h:Good cz E): ∀c,E.gT c→cz.gT c∨cz.w.heap.size≤c:=fun c ⟨b,hb⟩=>(h.jx b c hb).elim (fun h=> .inl ⟨b,h⟩) .inr
theorem Good.refl {E:Env} (hu: ∀b,iX.n≤b→E.m b=none∧E.bF b=0) (h: ∀t,E.mL t=none):Good E E:=
 ⟨hu,h,.refl E,rfl,rfl,rfl,Nat.le_refl _,fun _ _ _=>rfl,fun _ _ x=> .inl x,(fun c ⟨t,x⟩=>by rw[h t] at x;cases x),fun _ x=> .inl x,fun _ x=> .inl x⟩
theorem Good.step {cz E E':Env} (h:Good cz E) (k:Step E E'):Good cz E' where
 zn:=h.zn
 ca:=h.ca
 le:=h.le.trans k.le
 os:=k.os.trans h.os
 tape:=k.tape.trans h.tape
 output:=k.output.trans h.output
 size:=Nat.le_trans h.size k.size
 fi:=fun c hc h1=>by
  rw[k.fi c (Nat.lt_of_lt_of_le hc h.size) (fun x=>(h.qO c x).elim h1 (fun y=>absurd hc (Nat.not_lt.2 y))) (fun x=>absurd hc (Nat.not_lt.2 (h.jR c x)))]
  exact h.fi c hc h1
 jx:=fun b c x=>(k.jx b c x).elim (fun y=>h.jx b c y) (fun y=> .inr (Nat.le_trans h.size y))
 jR:=fun c x=>(k.jR c x).elim (fun y=>h.jR c y) (fun y=>Nat.le_trans h.size y)
 fM:=fun c x=>(k.fM c x).elim (fun y=>h.fM c y) (fun y=> .inr (Nat.le_trans h.size y))
 fN:=fun c x=>(k.fN c x).elim (fun y=>h.fN c y) (fun y=> .inr (Nat.le_trans h.size y))
end
def To (ex:Exit):Bool:=match ex with
 | .normal | .exit _ | .ret=>true
 | _=>false
def nx [cL] (cz:Env) (Q:Exit→St→Prop) (ex:Exit) (a:Act) (w:World):Prop:=
 To ex=true∧ ∃aJ E,Q ex aJ∧E.w=w∧Good cz E∧tO E aJ a.tmps∧a.defers=[]
def WpS [cL] (P:Program) (c:Code) (Q:Exit→St→Prop) (aJ:St):Prop:=
 ∀(cz E:Env) (a:Act),Good cz E→tO E aJ a.tmps→a.defers=[]→c.wp P (nx cz Q) a E.w
def Weak [cL] (aJ lm:St):Prop:= ∀(cz E:Env) (tmps:Array Value),Good cz E→tO E aJ tmps→ ∃E',E'.w=E.w∧Good cz E'∧tO E' lm tmps
theorem Weak.refl [cL] (aJ:St):Weak aJ aJ:=fun cz E tmps g h=>⟨E,rfl,g,h⟩
theorem Weak.trans [cL] {a b c:St} (h:Weak a b) (k:Weak b c):Weak a c:=fun cz E tmps g s=>by
 obtain⟨E1,br,aR,s1⟩:=h cz E tmps g s
 obtain⟨rA,e2,a2,s2⟩:=k cz E1 tmps aR s1
 exact⟨rA,e2.trans br,a2,s2⟩
section
variable [cL] {P:Program} {Q vI:Exit→St→Prop} {aJ:St}
theorem WpS.mono {c:Code} (h:WpS P c Q aJ) (ak: ∀e s,Q e s→vI e s):WpS P c vI aJ:=fun cz E a g s d=>
 wp_mono (h cz E a g s d) fun e a w ⟨h1,aJ,E,h2,aO⟩=>⟨h1,aJ,E,ak _ _ h2,aO⟩
theorem WpS.mn {c:Code} {lm:St} (h:WpS P c Q lm) (k:Weak aJ lm):WpS P c Q aJ:=fun cz E a g s d=>by
 obtain⟨E1,br,aR,s1⟩:=k cz E a.tmps g s
 exact br▸h cz E1 a aR s1 d
theorem WpS.skip (h:Q .normal aJ):WpS P .skip Q aJ:=fun cz E a g s d=>wp_skip ⟨rfl,aJ,E,h,rfl,g,s,d⟩
theorem WpS.ret (h:Q .ret aJ):WpS P .ret Q aJ:=fun cz E a g s d=>wp_ret ⟨rfl,aJ,E,h,rfl,g,s,d⟩
theorem WpS.exit {id:Nat} (h:Q (.exit id) aJ):WpS P (.exit id) Q aJ:=fun cz E a g s d=>wp_exit ⟨rfl,aJ,E,h,rfl,g,s,d⟩
def eb (P:Program) (y:Code) (Q:Exit→St→Prop) (ex:Exit) (s:St):Prop:=match ex with
 | .normal=>WpS P y Q s
 | ex=>Q ex s
theorem WpS.seq {x y:Code} (h:WpS P x (eb P y Q) aJ):WpS P (.seq x y) Q aJ:=fun cz E a g s d=>
 wp_seq (wp_mono (h cz E a g s d) fun e ij w' ⟨h1,lm,E',h2,aO,bd,ch,cD⟩=>by
  cases e with
  | normal=>subst aO;exact h2 cz E' ij bd ch cD
  | exit id=>exact⟨rfl,lm,E',h2,aO,bd,ch,cD⟩
  | ret=>exact⟨rfl,lm,E',h2,aO,bd,ch,cD⟩
  | _=>cases h1)
def cm (id:Nat) (Q:Exit→St→Prop) (ex:Exit) (s:St):Prop:=match ex with
 | .exit gC=>if gC=id then Q .normal s else Q (.exit gC) s
 | ex=>Q ex s
theorem WpS.block {id:Nat} {c:Code} (h:WpS P c (cm id Q) aJ):WpS P (.block id c) Q aJ:=fun cz E a g s d=>
 wp_block (wp_mono (h cz E a g s d) fun e ij w' ⟨h1,lm,E',h2,aO⟩=>by
  cases e with
  | normal=>exact⟨rfl,lm,E',h2,aO⟩
  | exit gC=>
   by_cases gS:gC=id
   ·subst gS
    have yA:(if gC=gC then Q .normal lm else Q (.exit gC) lm):=h2
    rw[if_pos rfl] at yA
    show(if gC=gC then _ else _)
    rw[if_pos rfl];exact⟨rfl,lm,E',yA,aO⟩
   ·have yA:(if gC=id then Q .normal lm else Q (.exit gC) lm):=h2
    rw[if_neg gS] at yA
    show(if gC=id then _ else _)
    rw[if_neg gS];exact⟨rfl,lm,E',yA,aO⟩
  | ret=>exact⟨rfl,lm,E',h2,aO⟩
  | _=>cases h1)
end
def oQ:Value→AV
 | .int k n=> .int k n
 | .bool b=> .bool b
 | .string s=> .str s
 | .slice none 0 0=> .bC [] true true
 | .pointer none=> .gj
 | .nilIface=> .gE
 | _=> .undef
def cr (T:List AV):Operand→AV
 | .tmp t=>T.getD t .undef
 | .const v=>oQ v
 | .func f=> .fn f []
 | .global _=> .undef
theorem UG (E:Env) (v:Value):V3 E (oQ v) v:=by
 unfold oQ
 split
 ·exact bH.int _ _
 ·exact bH.bool _
 ·exact bH.str _
 ·exact bH.bC (PB:=fun _=>False) (sz:=0) (vs:=fun _ _=>undef) (fun _ h=>h.elim) ⟨Nat.le_refl _,Nat.zero_le _⟩ (fun _=>rfl) (fun i row h=>by simp at h) (fun h=>by simp at h) (fun i j row a h=>by simp at h)
 ·exact bH.gj
 ·exact bH.gE
 ·exact bH.undef _
theorem opv_rel {E:Env} {T:List AV} {a:Act} (h: ∀t,V3 E (T.getD t .undef) (a.tmps.getD t undef)) (x:Operand):V3 E (cr T x) (a.eval x):=by
 cases x with
 | tmp t=>exact h t
 | const v=>exact UG E v
 | global g=>exact bH.undef _
 | func f=>exact⟨[],rfl,aD.nil⟩
def yd (b:Bool) (x y:Prop):Prop:=(b=true→x)∧(b=false→y)
def oN (v:AV) (k:Bool→Prop):Prop:=match v with
 | .bool b=>k b
 | _=>False
theorem Av {v:AV} {k:Bool→Prop} (h:oN v k): ∃b,v= .bool b∧k b:=by
 cases v<;>first | exact⟨_,rfl,h⟩ | exact h.elim
theorem V3.rG {E:Env} {b:Bool} {v:Value} (h:V3 E (.bool b) v):v= .bool b:=by
 have h':bH E.w E.PA E.PF (.bool b) v:=h
 cases h';rfl
theorem V3.r8 {E:Env} {k:IntKind} {n:Int} {v:Value} (h:V3 E (.int k n) v):v= .int k n:=by
 have h':bH E.w E.PA E.PF (.int k n) v:=h
 cases h';rfl
theorem V3.xL {E:Env} {s:ByteArray} {v:Value} (h:V3 E (.str s) v):v= .string s:=by
 have h':bH E.w E.PA E.PF (.str s) v:=h
 cases h';rfl
section
variable [cL] {P:Program} {Q vI:Exit→St→Prop} {aJ:St}
theorem WpS.cond {c:Operand} {x y:Code} (h:oN (cr aJ.T c) fun b=>yd b (WpS P x Q aJ) (WpS P y Q aJ)):WpS P (.cond c x y) Q aJ:=fun cz E a g s d=>by
 obtain⟨b,hb,h1,h2⟩:=Av h
 have hv:=opv_rel s.iA c
 rw[hb] at hv
 have he:a.eval c= .bool b:=V3.rG hv
 exact wp_cond_split he (fun e=>h1 e cz E a g s d) (fun e=>h2 e cz E a g s d)
def Tq (I:Nat→St→Prop) (n:Nat) (Q:Exit→St→Prop) (ex:Exit) (s:St):Prop:=match ex with
 | .normal=> ∃pV s',pV<n∧Weak s s'∧I pV s'
 | ex=>Q ex s
theorem WpS.loop {c:Code} (I:Nat→St→Prop) (n:Nat) (aT:I n aJ) (round: ∀n s,I n s→WpS P c (Tq I n Q) s):WpS P (.loop c) Q aJ:=by
 intro cz E a g s d b k a_
 have key: ∀n (a:Act) (E:Env) aJ,I n aJ→Good cz E→tO E aJ a.tmps→a.defers=[]→
   ∃e ij w',nx cz Q e ij w'∧Arrives P (lone (b.at a (.code c:: .inLoop c::k)) a_ E.w) b k a_ e ij w':=by
  intro n
  induction n using Nat.strongRecOn with
  | _ n bQ=>
   intro a E aJ a0 g s d
   obtain⟨e,Aw,S3,ak,yI⟩:=round n aJ a0 cz E a g s d b (.inLoop c::k) a_
   obtain⟨he,Sv,E1,ak,hw,aR,s1,d1⟩:=ak
   cases e with
   | normal=>
    obtain⟨pV,s',bf,X4,yC⟩:=ak
    obtain⟨rA,e2,a2,s2⟩:=X4 cz E1 Aw.tmps aR s1
    obtain⟨Vh,TJ,afz,XS,LI⟩:=bQ pV bf Aw rA s' yC a2 s2 d1
    rw[e2,hw] at LI
    exact⟨Vh,TJ,afz,XS,.of_steps (Steps.trans yI (.one step_inLoop)) LI⟩
   | exit id=>exact⟨_,Aw,S3,⟨rfl,Sv,E1,ak,hw,aR,s1,d1⟩,.pass (x:= .inLoop c) rfl (fun _ _=> .inl (by simp)) yI⟩
   | ret=>exact⟨_,Aw,S3,⟨rfl,Sv,E1,ak,hw,aR,s1,d1⟩,.pass (x:= .inLoop c) rfl (fun _ _=> .inl (by simp)) yI⟩
   | _=>cases he
 obtain⟨e,ij,w',ak,yI⟩:=key n a E aJ aT g s d
 exact⟨e,ij,w',ak,.of_steps (.one step_loop) yI⟩
end
def c5 {α:Type} (o:Option α) (k:α→Prop):Prop:=match o with
 | some a=>k a
 | none=>False
theorem fC {α:Type} {o:Option α} {k:α→Prop} (h:c5 o k): ∃a,o=some a∧k a:=by
 cases o with
 | none=>exact h.elim
 | some a=>exact⟨a,rfl,h⟩
theorem et {α:Type} {o:Option α} {k:α→Prop} {a:α} (h:o=some a) (hk:k a):c5 o k:=by rw[h];exact hk
def e8 (b:Bool) (x:Prop):Prop:=match b with
 | true=>x
 | false=>False
theorem pY {b:Bool} {x:Prop} (h:e8 b x):b=true∧x:=by
 cases b with
 | true=>exact⟨rfl,h⟩
 | false=>exact h.elim
def w0 (P:Program) (t:TypeId):Bool:=match P.underlying t with
 | some (.struct _) | some (.array _ _)=>true
 | _=>false
def zc (P:Program) (t:TypeId):Bool:=(P.underlying t).isSome
theorem run_underlying {P:Program} {t:TypeId} {w:World} {d:TypeDesc} (h:P.underlying t=some d):(underlying t).run P w= .ok d w:=by
 simp[Go.underlying,h]
theorem PY {P:Program} {t:TypeId} {w:World} (h:zc P t=true):(isAgg t).run P w= .ok (w0 P t) w:=by
 unfold zc at h
 cases bh:P.underlying t with
 | none=>simp[bh] at h
 | some d=>
  simp only[Go.isAgg,Sem.run_bind,run_underlying bh,Result.andThen_ok,w0,bh]
  cases d<;>rfl
theorem run_sizeOf {P:Program} {t:TypeId} {w:World} (h:(P.info? t).isSome=true):(sizeOf t).run P w= .ok (P.cellsOf t) w:=by
 cases hi:P.info? t with
 | none=>simp[hi] at h
 | some i=>simp[Go.sizeOf,typeInfo,hi,Program.cellsOf]
theorem ZN {P:Program} {t:TypeId} (h:zc P t=true):(P.info? t).isSome=true:=by
 unfold zc Program.underlying at h
 cases hi:P.info? t with
 | none=>simp[hi] at h
 | some i=>rfl
def jI (P:Program) (t:TypeId) (cells:List AV) (c:Nat) (K:AV→Prop):Prop:=
 if zc P t=true then
  (if w0 P t=true then(if c+P.cellsOf t≤cells.length then K (.agg ((cells.drop c).take (P.cellsOf t))) else False)
   else c5 cells[c]? K)
 else False
def oZ (P:Program) (t:TypeId) (x:AV) (L:List (Nat×List AV)) (H:List Blk) (K:AV→Prop):Prop:=match x with
 | .fH s c=>c5 (e0 L s) fun cells=>jI P t cells c K
 | .ptr b g r c=>c5 H[b]? fun blk=>blk.bF=g∧c5 blk.rows[r]? fun row=>jI P t row c K
 | .dA cells c=>jI P t cells c K
 | _=>False
theorem n6 (c o n:Nat):(⟨c,o,none⟩:Addr).add n=⟨c,o+n,none⟩:=by
 unfold Addr.add;split
 ·subst_vars;rfl
 ·rfl
theorem Jc {P:Program} {t:TypeId} {cells:List AV} {c bl o:Nat} {K:AV→Prop} {w:World} {R:AV→Value→Prop}
  (hc: ∀(j:Nat) (a:AV),cells[j]?=some a→ ∃u,w.cell? ⟨bl,o+j,none⟩=some u∧R a u) (h:jI P t cells c K):
  ∃a v,K a∧(loadVar t ⟨bl,o+c,none⟩).run P w= .ok v w∧
   ((∃l vs,a= .agg l∧v= .agg (List.toArray vs)∧aD R l vs)∨R a v):=by
 unfold jI at h
 split at h
 ·rename_i hk
  split at h
  ·rename_i a3
   split at h
   ·rename_i aL
    let n:=P.cellsOf t
    have eK: ∀j,j<n→ ∃a u,cells[c+j]?=some a∧w.cell? ⟨bl,o+(c+j),none⟩=some u∧R a u:=by
     intro j aN
     have ot:c+j<cells.length:=by show c+j<cells.length;have:n=P.cellsOf t:=rfl;omega
     obtain⟨u,h1,h2⟩:=hc (c+j) _ (List.getElem?_eq_getElem ot)
     exact⟨_,u,List.getElem?_eq_getElem ot,h1,h2⟩
    let f:Nat→Value:=fun j=>(w.cell? ⟨bl,o+(c+j),none⟩).getD undef
    have hf: ∀j,j<n→w.cell? ((⟨bl,o+c,none⟩:Addr).add j)=some (f j):=by
     intro j aN
     obtain⟨a,u,_,h1,_⟩:=eK j aN
     rw[n6,Nat.add_assoc]
     show _=some ((w.cell? ⟨bl,o+(c+j),none⟩).getD undef)
     rw[h1];rfl
    refine⟨_,.agg ((List.range n).map f).toArray,h,?_,.inl ⟨_,(List.range n).map f,rfl,rfl,?_,?_⟩⟩
    ·simp only[loadVar,Sem.run_bind,PY hk,Result.andThen_ok,a3,if_true,run_sizeOf (ZN hk)]
     rw[run_loadCells w _ n f hf]
     rfl
    ·simp only[List.length_take,List.length_drop,List.length_map,List.length_range];show min n _=n;have:n=P.cellsOf t:=rfl;omega
    ·intro i a b LV wC
     have hi:i<n:=by have:=(List.getElem?_eq_some_iff.1 wC).1;simpa using this
     obtain⟨ij,u,h1,h2,aO⟩:=eK i hi
     rw[List.getElem?_take,if_pos (show i<P.cellsOf t from hi),List.getElem?_drop,h1] at LV
     cases LV
     rw[List.getElem?_map,List.getElem?_range hi] at wC
     simp only[Option.map_some,Option.some.injEq] at wC
     have:f i=u:=by show(w.cell? ⟨bl,o+(c+i),none⟩).getD undef=u;rw[h2];rfl
     rw[←wC,this];exact aO
   ·exact h.elim
  ·rename_i a3
   obtain⟨a,uk,hK⟩:=fC h
   obtain⟨u,h1,h2⟩:=hc c a uk
   refine⟨a,u,hK,?_,.inr h2⟩
   have WV:w0 P t=false:=by cases hx:w0 P t<;>simp_all
   simp only[loadVar,Sem.run_bind,PY hk,Result.andThen_ok,WV]
   simp[h1]
 ·exact h.elim
theorem cM.up {E:Env} {a:AV} {v:Value} (h:cM E.ca a v):cM E a v:=h.le E.Cd
theorem Ts {E:Env} {l:List AV} {v:Value} (h:cM E (.agg l) v):False:=by
 have h':bH E.w E.PA E.PF (.agg l) v:=h
 cases h'
theorem Tt {E:Env} {l:List AV} {v:Value} (h:cM E (.tup l) v):False:=by
 have h':bH E.w E.PA E.PF (.tup l) v:=h
 cases h'
theorem qe {E:Env} {a:AV} {v:Value} (h:cM E a v):V2 E a v:=by
 by_cases hf: ∃l,a= .agg l
 ·obtain⟨l,rfl⟩:=hf;exact(Ts h).elim
 ·rw[pr fun l e=>hf ⟨l,e⟩];exact h
theorem Tu {E:Env} {l:List AV} {v:Value} (h:V2 E (.tup l) v):False:=Tt (E:=E) (l:=l) (v:=v) h
theorem qf {E:Env} {a:AV} {v:Value} (h:V2 E a v):V3 E a v:=by
 by_cases hf: ∃l,a= .tup l
 ·obtain⟨l,rfl⟩:=hf;exact(Tu h).elim
 ·rw[oL fun l e=>hf ⟨l,e⟩];exact h
theorem Dq {E:Env} {a:AV} {v:Value} (h:(∃l vs,a= .agg l∧v= .agg (List.toArray vs)∧aD (cM E) l vs)∨cM E a v):V2 E a v:=by
 rcases h with⟨l,vs,rfl,rfl,aI⟩ | h
 ·exact⟨vs,rfl,aI⟩
 ·exact qe h
theorem V3.zj {E:Env} {t c:Nat} {v:Value} (h:V3 E (.fH t c) v): ∃bl,E.mL t=some bl∧v= .pointer (some ⟨bl,c,none⟩):=h
theorem V3.Cu {E:Env} {b g r c:Nat} {v:Value} (h:V3 E (.ptr b g r c) v) (hg:E.bF b=g): ∃bl,E.m b=some (some bl)∧v= .pointer (some ⟨bl,r*E.sz b+c,none⟩):=by
 rcases(h:fx E (.ptr b g r c) v) with⟨h,_⟩ | ⟨_,h⟩
 ·omega
 ·exact h
theorem cell_of {w:World} {c o:Nat} {a_:Array Value} {ty:TypeId} {We:Nat×Nat} {u:Value} (h:w.heap[c]?=some (.cells a_ ty We)) (hu:a_[o]?=some u):w.cell? ⟨c,o,none⟩=some u:=by
 simp[World.cell?,h,hu]
structure Sub (L:List (Nat×List AV)) (H:List Blk) (kJ:List (Nat×List AV)) (fg:List Blk):Prop where
 l: ∀t c,e0 L t=some c→e0 kJ t=some c
 h: ∀(b:Nat) (blk:Blk),H[b]?=some blk→fg[b]?=some blk
theorem Sub.refl (L:List (Nat×List AV)) (H:List Blk):Sub L H L H:=⟨fun _ _ h=>h,fun _ _ h=>h⟩
theorem Oe {P:Program} {t:TypeId} {x:AV} {L kJ:List (Nat×List AV)} {H fg:List Blk} {K:AV→Prop} {E:Env} {v:Value}
  (sub:Sub L H kJ fg) (aS:SimH E fg) (b1:SimL E kJ) (hx:V3 E x v) (h:oZ P t x L H K):
  ∃a e_,K a∧(Instr.loadAt t v).run P E.w= .ok e_ E.w∧V2 E a e_:=by
 cases x with
 | fH s c=>
  obtain⟨bl,hm,rfl⟩:=hx.zj
  obtain⟨cells,a_,ty,hg,hw,aI⟩:=b1 s bl hm
  have h':c5 (e0 L s) fun cells=>jI P t cells c K:=h
  obtain⟨AH,yP,h'⟩:=fC h'
  obtain rfl:cells=AH:=by have:=sub.l _ _ yP;rw[hg] at this;exact Option.some.inj this
  obtain⟨a,e_,hK,aK,hv⟩:=Jc (o:=0) (bl:=bl) (w:=E.w) (R:=cM E.ca) (fun j a aN=>by
   obtain⟨u,hu,aK⟩:=aI.get aN
   exact⟨u,by rw[Nat.zero_add];exact cell_of hw (by simpa using hu),aK⟩) h'
  rw[Nat.zero_add] at aK
  refine⟨a,e_,hK,?_,(Dq hv).le E.Cd⟩
  simp only[Instr.loadAt,Instr.sureAddr,Sem.run_bind,Sem.run_pure,Result.andThen_ok,aK]
 | ptr b g r c=>
  obtain⟨blk,hb,hg,h2⟩:=fC (show c5 H[b]? fun blk=>blk.bF=g∧c5 blk.rows[r]? fun row=>jI P t row c K from h)
  obtain⟨row,e1,aO⟩:=fC h2
  replace hb:=sub.h b blk hb
  have kr:=aS.fh b blk hb
  obtain⟨bl,hm,rfl⟩:=hx.Cu (kr.trans hg)
  obtain⟨blk',a_,ty,ek,m6,hw,mw,hlen,gB⟩:=aS.heap b bl hm
  obtain rfl:blk=blk':=by rw[hb] at ek;exact Option.some.inj ek
  obtain⟨a,e_,hK,aK,hv⟩:=Jc (o:=r*E.sz b) (bl:=bl) (w:=E.w) (R:=cM E.ca) (fun j a aN=>by
   obtain⟨u,hu,aK⟩:=gB.2 r j row a e1 aN
   exact⟨u,cell_of hw hu,aK⟩) aO
  refine⟨a,e_,hK,?_,(Dq hv).le E.Cd⟩
  simp only[Instr.loadAt,Instr.sureAddr,Sem.run_bind,Sem.run_pure,Result.andThen_ok,aK]
 | dA cells c=>
  have jQ:bH E.w E.PA E.PF (.dA cells c) v:=hx
  cases jQ with
  | @dA _ _ _ _ bl o vs hc fl ec=>
   have h':jI P t cells c K:=h
   obtain⟨a,e_,hK,aK,hv⟩:=Jc (o:=o) (bl:=bl) (w:=E.w) (R:=bH E.w E.PA (fun _=>False)) (fun j a aN=>
    ⟨vs j,fl j (List.getElem?_eq_some_iff.1 aN).1,ec j a aN⟩) h'
   have up: ∀a v,bH E.w E.PA (fun _=>False) a v→cM E a v:=fun a v aK=>(aK.mono (fun _ _=>rfl) (fun _ h=>h.elim) (fun _ h=>h) (fun _ h=>h.elim)).v1
   refine⟨a,e_,hK,?_,Dq (hv.imp (fun⟨l,vs,h1,h2,aO⟩=>⟨l,vs,h1,h2,aO.mono up⟩) (up _ _))⟩
   simp only[Instr.loadAt,Instr.sureAddr,Sem.run_bind,Sem.run_pure,Result.andThen_ok,aK]
 | _=>exact h.elim
def vp:AV→Bool
 | .undef | .agg _ | .tup _ | .fH _ _ | .fn _ _=>false
 | _=>true
def jk:AV→Bool
 | .fn _ caps=>caps.all vp
 | a=>vp a
def fj:AV→List AV
 | .agg l=>l
 | a=>[a]
def fp (row:List AV) (c:Nat) (l:List AV):List AV:=row.take c++l++row.drop (c+l.length)
def mh (P:Program) (t:TypeId) (x v:AV) (L:List (Nat×List AV)) (H:List Blk) (K:List (Nat×List AV)→List Blk→Prop):Prop:=
 if(P.info? t).isSome=true∧(fj v).length=P.cellsOf t∧(fj v).all jk=true then
  match x with
  | .fH s c=>c5 (e0 L s) fun cells=>if c+(fj v).length≤cells.length then K (lk L s (fp cells c (fj v))) H else False
  | .ptr b g r c=>c5 H[b]? fun blk=>blk.bF=g∧c5 blk.rows[r]? fun row=>c+(fj v).length≤row.length∧K L (H.set b {blk with rows:=blk.rows.set r (fp row c (fj v))})
  | _=>False
 else False
theorem SC {E:Env} {a:AV} {v:Value} (h:vp a=true) (hv:fx E a v):fx E.ca a v:=by
 cases a<;>first | exact hv | cases h
theorem I5 {E:Env} {a:AV} {v:Value} (h:jk a=true) (hv:cM E a v):cM E.ca a v:=by
 by_cases hf: ∃f caps,a= .fn f caps
 ·obtain⟨f,caps,rfl⟩:=hf
  obtain⟨vs,e,aI⟩:=hv
  refine⟨vs,e,aI.1,fun i x y hx bm=>SC ?_ (aI.2 i x y hx bm)⟩
  have h':caps.all vp=true:=h
  exact List.all_eq_true.1 h' x (List.mem_of_getElem? hx)
 ·have aT:jk a=vp a:=by cases a<;>first | rfl | exact absurd ⟨_,_,rfl⟩ hf
  rw[rD fun f c e=>hf ⟨f,c,e⟩] at hv ⊢
  exact SC (aT▸h) hv
theorem fx.one {E:Env} {a:AV} {v:Value} (h:vp a=true) (hv:fx E a v):v.oneCell'=true:=by
 cases a with
 | undef=>cases h
 | agg l=>cases h
 | tup l=>cases h
 | fH s c=>cases h
 | fn f c=>cases h
 | ref b g off n full=>
  rcases hv with⟨_,A,cap,rfl⟩ | ⟨_,⟨_,_,_,A,rfl⟩ | ⟨c,cap,_,rfl,_⟩⟩
  ·rfl
  ·rfl
  ·rfl
 | ptr b g r c=>
  rcases hv with⟨_,bl,o,rfl⟩ | ⟨_,bl,_,rfl⟩
  ·rfl
  ·rfl
 | _=>exact bH.one (show bH E.w E.PA E.PF _ v from hv) (by intro h;cases h)
theorem cM.Ci {E:Env} {a:AV} {v:Value} (h:jk a=true) (hv:cM E a v):v.oneCell'=true:=by
 by_cases hf: ∃f caps,a= .fn f caps
 ·obtain⟨f,caps,rfl⟩:=hf
  obtain⟨vs,rfl,aI⟩:=hv
  rfl
 ·have aT:jk a=vp a:=by cases a<;>first | rfl | exact absurd ⟨_,_,rfl⟩ hf
  rw[rD fun f c e=>hf ⟨f,c,e⟩] at hv
  exact hv.one (aT▸h)
theorem Step.setRow {E:Env} {H:List Blk} (aS:SimH E H) {bl:Nat} (hb:E.gT bl∨E.kQ bl) (a_:Array Value):Step E {E with w:=E.w.setRow bl a_}:=by
 have aG: ∀c,E.PA c→c≠bl:=fun c hc e=>by
  subst e
  exact hb.elim (aS.h3 _ hc) (aS.iv _ hc)
 have hk: ∀c,c≠bl→(E.w.setRow bl a_).heap[c]?=E.w.heap[c]?:=fun c hc=>setRow_other _ _ _ _ hc
 exact⟨⟨fun _ h=>h,fun _ h=>h,fun c hc=>hk c (aG c hc),fun c hc=>hk c (aG c (aS.e3 c hc)),fun _=>Nat.le_refl _,fun _ _ h _=>⟨h,rfl,rfl⟩,fun _ _ h=>h⟩,rfl,rfl,rfl,
  by simp,fun c _ h1 h2=>hk c (fun e=>by subst e;exact hb.elim h1 h2),fun _ _ h=> .inl h,fun _ h=> .inl h,fun _ h=> .inl h,fun _ h=> .inl h⟩
theorem DI {E:Env} {v:AV} {u:Value} (hv:V2 E v u) (hs:(fj v).all jk=true):aD (cM E) (fj v) u.cells.toList:=by
 by_cases hf: ∃l,v= .agg l
 ·obtain⟨l,rfl⟩:=hf
  obtain⟨vs,rfl,aI⟩:=hv
  exact aI
 ·have aT:fj v=[v]:=by cases v<;>first | rfl | exact absurd ⟨_,rfl⟩ hf
  rw[pr fun l e=>hf ⟨l,e⟩] at hv
  rw[aT] at hs ⊢
  have h1:u.oneCell'=true:=hv.Ci (by simpa using hs)
  have h2:u.cells= #[u]:=by cases u<;>first | rfl | cases h1
  rw[h2]
  exact aD.cons hv aD.nil
theorem P0 {P:Program} {t:TypeId} {w:World} {bl o:Nat} {a_:Array Value} {ty:TypeId} {u:Value} (hi:(P.info? t).isSome=true) (aP:u.cells.size=P.cellsOf t)
  (hw:w.heap[bl]?=some (.cells a_ ty (0,0))) (aC:o+u.cells.size≤a_.size) (h1: ∀x∈u.cells.toList,x.oneCell'=true):
  (Instr.storeAt t (.pointer (some ⟨bl,o,none⟩)) u).run P w= .ok () (w.setRow bl (a_.toList.take o++u.cells.toList++a_.toList.drop (o+u.cells.toList.length)).toArray):=by
 have:=run_storeCells_at (P:=P) bl o ty u.cells.toList 0 a_ w hw (by simpa using aC) h1
 simp only[Nat.add_zero] at this
 simp[Instr.storeAt,Instr.sureAddr,storeVar,run_sizeOf hi,aP,this]
theorem xJ {α:Type} {l m:List α} {c:Nat} (hc:c+m.length≤l.length) (j:Nat):
  (l.take c++m++l.drop (c+m.length))[j]?=if j<c then l[j]? else if j<c+m.length then m[j - c]? else l[j]?:=by
 by_cases h1:j<c
 ·rw[if_pos h1,List.append_assoc,List.getElem?_append_left (by simp;omega),List.getElem?_take,if_pos h1]
 ·rw[if_neg h1]
  by_cases h2:j<c+m.length
  ·rw[if_pos h2,List.getElem?_append_left (by simp;omega),List.getElem?_append_right (by simp;omega)]
   congr 1;simp;omega
  ·rw[if_neg h2,List.getElem?_append_right (by simp;omega),List.getElem?_drop]
   congr 1;simp;omega
theorem aD.fp {α β:Type} {R:α→β→Prop} {l m:List α} {fu fB:List β} (h:aD R l fu) (k:aD R m fB) {c:Nat} (hc:c+m.length≤l.length):
  aD R (l.take c++m++l.drop (c+m.length)) (fu.take c++fB++fu.drop (c+fB.length)):=by
 have h1:=h.1
 have da:=k.1
 refine⟨by simp;omega,fun i a b a3 hb=> ?_⟩
 rw[xJ hc] at a3
 rw[xJ (by omega)] at hb
 rw[←da] at hb
 split at a3
 ·rename_i hi;rw[if_pos hi] at hb;exact h.2 i a b a3 hb
 ·rename_i hi;rw[if_neg hi] at hb
  split at a3
  ·rename_i aN;rw[if_pos aN] at hb;exact k.2 _ a b a3 hb
  ·rename_i aN;rw[if_neg aN] at hb;exact h.2 i a b a3 hb
theorem yx (L:List (Nat×List AV)) (t s:Nat) (d:List AV):e0 (lk L t d) s=if s=t then(e0 L t).map (fun _=>d) else e0 L s:=by
 induction L with
 | nil=>simp[lk,e0]
 | cons x L bQ=>
  obtain⟨k,c⟩:=x
  by_cases h1:t=k
  ·subst h1
   by_cases h2:s=t
   ·simp[lk,e0,h2]
   ·simp[lk,e0,h2]
  ·by_cases h2:s=k
   ·subst h2
    have: ¬s=t:=fun e=>h1 e.symm
    simp[lk,e0,h1,this]
   ·simp only[lk,if_neg h1,e0,if_neg h2,bQ]
theorem ae0 {P:Program} {t:TypeId} {x v:AV} {L:List (Nat×List AV)} {H:List Blk} {K:List (Nat×List AV)→List Blk→Prop} {E:Env} {iV mU:Value}
  (aS:SimH E H) (b1:SimL E L) (hx:V3 E x iV) (hv:V2 E v mU) (h:mh P t x v L H K):
  ∃L' H' E',K L' H'∧(Instr.storeAt t iV mU).run P E.w= .ok () E'.w∧Step E E'∧SimH E' H'∧SimL E' L'∧E'.mL=E.mL:=by
 unfold mh at h
 split at h
 case isFalse=>exact h.elim
 case isTrue hc=>
 obtain⟨hi,aP,hs⟩:=hc
 have wy:=DI hv hs
 have aG:aD (cM E.ca) (fj v) mU.cells.toList:=⟨wy.1,fun i a b a3 hb=>I5 (List.all_eq_true.1 hs a (List.mem_of_getElem? a3)) (wy.2 i a b a3 hb)⟩
 have h1: ∀y∈mU.cells.toList,y.oneCell'=true:=by
  intro y bm
  obtain⟨i,hi⟩:=List.mem_iff_getElem?.1 bm
  have wD:i<(fj v).length:=by rw[wy.1];exact(List.getElem?_eq_some_iff.1 hi).1
  exact(wy.2 i _ y (List.getElem?_eq_getElem wD) hi).Ci (List.all_eq_true.1 hs _ (List.getElem_mem wD))
 have cY:mU.cells.size=P.cellsOf t:=by rw[←aP,wy.1];simp
 have hlen:mU.cells.toList.length=(fj v).length:=wy.1.symm
 cases x with
 | fH s c=>
  obtain⟨bl,hm,rfl⟩:=hx.zj
  obtain⟨cells,a_,ty,hg,hw,aI⟩:=b1 s bl hm
  have h':c5 (e0 L s) fun cells=>if c+(fj v).length≤cells.length then K (lk L s (fp cells c (fj v))) H else False:=h
  rw[hg] at h'
  have EM:if c+(fj v).length≤cells.length then K (lk L s (fp cells c (fj v))) H else False:=h'
  split at EM
  case isFalse=>exact EM.elim
  case isTrue hle=>
  have W9:cells.length=a_.size:=by rw[aI.1];simp
  have fX:=P0 (P:=P) (t:=t) (o:=c) hi cY hw (by rw[←W9];have:mU.cells.size=(fj v).length:=by rw[←hlen];simp
                                                omega) h1
  have g7:=Step.setRow aS (.inr ⟨s,hm⟩) (a_.toList.take c++mU.cells.toList++a_.toList.drop (c+mU.cells.toList.length)).toArray
  have cl: ∀b c',E.m b=some (some c')→c'≠bl:=fun b c' hb e=>by subst e;exact aS.gU b s c' hb hm
  refine⟨_,_,_,EM,fX,g7,?_,?_,rfl⟩
  ·exact{aS with
    heap:=fun b c' hb=>by
     obtain⟨blk,dF,j0,q1,dX,q2,q3,q4,cR,c6⟩:=aS.heap b c' hb
     refine⟨blk,dF,j0,q1,dX,?_,q3,q4,cR,fun i j row a aK aN=> ?_⟩
     ·show(E.w.setRow bl _).heap[c']?=_
      rw[setRow_other _ _ _ _ (cl b c' hb)];exact q2
     ·obtain⟨u,hu,fb⟩:=c6 i j row a aK aN
      exact⟨u,hu,fb.le g7.le.ca⟩
    fe:=fun c' hc=>by rw[show(E.w.setRow bl _).heap.size=_ from setRow_size _ _ _];exact aS.fe c' hc
    gD:=fun c' hc=>by rw[show(E.w.setRow bl _).heap.size=_ from setRow_size _ _ _];exact aS.gD c' hc
    g9:=fun c' hc=>by rw[show(E.w.setRow bl _).heap.size=_ from setRow_size _ _ _];exact aS.g9 c' hc}
  ·intro jZ c' nF
   by_cases he:jZ=s
   ·subst he
    obtain rfl:c'=bl:=by
     have:E.mL jZ=some c':=nF
     rw[hm] at this;exact(Option.some.inj this).symm
    refine⟨fp cells c (fj v),_,ty,?_,setRow_heap _ _ _ _ _ _ hw,?_⟩
    ·rw[yx,if_pos rfl,hg];rfl
    ·have:=aD.fp (aI.mono fun _ _ k=>k.le g7.le.ca) (aG.mono fun _ _ k=>k.le g7.le.ca) hle
     simpa[fp] using this
   ·obtain⟨g2,dF,j0,q1,q2,q3⟩:=b1 jZ c' nF
    have Fh:c'≠bl:=fun e=>by subst e;exact he (aS.jS jZ s c' nF hm)
    refine⟨g2,dF,j0,by rw[yx,if_neg he];exact q1,?_,q3.mono fun _ _ k=>k.le g7.le.ca⟩
    show(E.w.setRow bl _).heap[c']?=_
    rw[setRow_other _ _ _ _ Fh];exact q2
 | ptr b g r c=>
  obtain⟨blk,hb,hg,h2⟩:=fC (show c5 H[b]? fun blk=>blk.bF=g∧c5 blk.rows[r]? fun row=>c+(fj v).length≤row.length∧K L (H.set b {blk with rows:=blk.rows.set r (fp row c (fj v))}) from h)
  obtain⟨row,e1,hle,hK⟩:=fC h2
  have kr:=aS.fh b blk hb
  obtain⟨bl,hm,rfl⟩:=hx.Cu (kr.trans hg)
  obtain⟨blk',a_,ty,ek,m6,hw,mw,ol,gB⟩:=aS.heap b bl hm
  obtain rfl:blk=blk':=by rw[hb] at ek;exact Option.some.inj ek
  have lC:row.length=E.sz b:=gB.1 r row e1
  have agj:r<blk.rows.length:=(List.getElem?_eq_some_iff.1 e1).1
  have W2:r*E.sz b+E.sz b≤a_.size:=by
   rw[mw];calc r*E.sz b+E.sz b=(r+1)*E.sz b:=by rw[Nat.add_mul,Nat.one_mul]
    _≤E.cp b*E.sz b:=Nat.mul_le_mul_right _ (by omega)
  have pN:mU.cells.size=(fj v).length:=by rw[←hlen];simp
  have fX:=P0 (P:=P) (t:=t) (o:=r*E.sz b+c) hi cY hw (by omega) h1
  have g7:=Step.setRow aS (.inl ⟨b,hm⟩) (a_.toList.take (r*E.sz b+c)++mU.cells.toList++a_.toList.drop (r*E.sz b+c+mU.cells.toList.length)).toArray
  have qA:b<H.length:=(List.getElem?_eq_some_iff.1 hb).1
  refine⟨_,_,_,hK,fX,g7,?_,?_,rfl⟩
  ·exact{aS with
    heap:=fun dl c' j8=>by
     by_cases he:dl=b
     ·subst he
      obtain rfl:c'=bl:=by
       have:E.m dl=some (some c'):=j8
       rw[hm] at this;exact(Option.some.inj (Option.some.inj this)).symm
      refine⟨{blk with rows:=blk.rows.set r (fp row c (fj v))},_,ty,by rw[List.getElem?_set_self qA],m6,setRow_heap _ _ _ _ _ _ hw,?_,by simpa using ol,?_,?_⟩
      ·simp;omega
      ·intro i row' fb
       rw[List.getElem?_set] at fb
       split at fb
       ·rename_i E9
        cases fb
        simp[fp];omega
       ·exact gB.1 i row' fb
      ·intro i j row' a fb a3
       have nD: ∀k,(a_.toList.take (r*E.sz dl+c)++mU.cells.toList++a_.toList.drop (r*E.sz dl+c+mU.cells.toList.length)).toArray[k]?=if k<r*E.sz dl+c then a_.toList[k]? else if k<r*E.sz dl+c+mU.cells.toList.length then mU.cells.toList[k - (r*E.sz dl+c)]? else a_.toList[k]?:=by
        intro k
        rw[List.getElem?_toArray,xJ (by simp;omega)]
       rw[List.getElem?_set] at fb
       split at fb
       ·rename_i E9
        cases fb
        subst E9
        have wO:=xJ hle j
        unfold fp at a3
        rw[wO] at a3
        split at a3
        ·rename_i aN
         obtain⟨u,hu,g6⟩:=gB.2 r j row a e1 a3
         refine⟨u,?_,g6.le g7.le.ca⟩
         show(List.toArray _)[r*E.sz dl+j]?=_
         rw[nD,if_pos (by omega)];simpa using hu
        ·rename_i aN
         split at a3
         ·rename_i yT
          obtain⟨u,hu,g6⟩:=aG.get a3
          refine⟨u,?_,g6.le g7.le.ca⟩
          show(List.toArray _)[r*E.sz dl+j]?=_
          rw[nD,if_neg (by omega),if_pos (by omega),show r*E.sz dl+j - (r*E.sz dl+c)=j - c by omega];exact hu
         ·rename_i yT
          obtain⟨u,hu,g6⟩:=gB.2 r j row a e1 a3
          refine⟨u,?_,g6.le g7.le.ca⟩
          show(List.toArray _)[r*E.sz dl+j]?=_
          rw[nD,if_neg (by omega),if_neg (by omega)];simpa using hu
       ·rename_i E9
        have l5:j<E.sz dl:=by rw[←gB.1 i row' fb];exact(List.getElem?_eq_some_iff.1 a3).1
        obtain⟨u,hu,g6⟩:=gB.2 i j row' a fb a3
        refine⟨u,?_,g6.le g7.le.ca⟩
        show(List.toArray _)[i*E.sz dl+j]?=_
        rw[nD]
        rcases Nat.lt_or_ge i r with bf | fV
        ·have:i*E.sz dl+E.sz dl≤r*E.sz dl:=by
          calc i*E.sz dl+E.sz dl=(i+1)*E.sz dl:=by rw[Nat.add_mul,Nat.one_mul]
           _≤r*E.sz dl:=Nat.mul_le_mul_right _ (by omega)
         rw[if_pos (by omega)];simpa using hu
        ·have:r*E.sz dl+E.sz dl≤i*E.sz dl:=by
          calc r*E.sz dl+E.sz dl=(r+1)*E.sz dl:=by rw[Nat.add_mul,Nat.one_mul]
           _≤i*E.sz dl:=Nat.mul_le_mul_right _ (by omega)
         rw[if_neg (by omega),if_neg (by omega)];simpa using hu
     ·obtain⟨yg,DS,ty2,q1,dX,q2,q3,q4,cR,c6⟩:=aS.heap dl c' j8
      have cl:c'≠bl:=fun e=>by subst e;exact he (aS.h0 dl b c' j8 hm)
      refine⟨yg,DS,ty2,by rw[List.getElem?_set_ne (fun e=>he e.symm)];exact q1,dX,?_,q3,q4,cR,fun i j row a aK aN=> ?_⟩
      ·show(E.w.setRow bl _).heap[c']?=_
       rw[setRow_other _ _ _ _ cl];exact q2
      ·obtain⟨u,hu,fb⟩:=c6 i j row a aK aN
       exact⟨u,hu,fb.le g7.le.ca⟩
    fh:=fun dl yg j8=>by
     by_cases he:b=dl
     ·subst he
      rw[List.getElem?_set_self qA] at j8
      cases j8
      exact aS.fh b blk hb
     ·rw[List.getElem?_set_ne he] at j8
      exact aS.fh dl yg j8
    hz:=fun dl j8=>by
     obtain⟨yg,q,jX⟩:=aS.hz dl j8
     by_cases he:b=dl
     ·subst he
      rw[hm] at j8;cases j8
     ·exact⟨yg,by rw[List.getElem?_set_ne he];exact q,jX⟩
    fresh:=fun dl j8=>aS.fresh dl (by simpa using j8)
    fe:=fun c' hc=>by rw[show(E.w.setRow bl _).heap.size=_ from setRow_size _ _ _];exact aS.fe c' hc
    gD:=fun c' hc=>by rw[show(E.w.setRow bl _).heap.size=_ from setRow_size _ _ _];exact aS.gD c' hc
    g9:=fun c' hc=>by rw[show(E.w.setRow bl _).heap.size=_ from setRow_size _ _ _];exact aS.g9 c' hc}
  ·intro jZ c' nF
   obtain⟨g2,dF,j0,q1,q2,q3⟩:=b1 jZ c' nF
   have Fh:c'≠bl:=fun e=>by subst e;exact aS.gU b jZ c' hm nF
   refine⟨g2,dF,j0,q1,?_,q3.mono fun _ _ k=>k.le g7.le.ca⟩
   show(E.w.setRow bl _).heap[c']?=_
   rw[setRow_other _ _ _ _ Fh];exact q2
 | _=>exact h.elim
structure lT (E E':Env):Prop where
 step:Step E E'
 m:E'.m=E.m
 mL:E'.mL=E.mL
 bF:E'.bF=E.bF
 sz:E'.sz=E.sz
 cp:E'.cp=E.cp
 fi: ∀c,c<E.w.heap.size→E'.w.heap[c]?=E.w.heap[c]?
 fM: ∀c,E'.PA c→E.PA c∨(E.w.heap.size≤c∧c<E'.w.heap.size)
 e3: ∀c,E'.PF c→E'.PA c
theorem lT.refl {E:Env} {H:List Blk} (h:SimH E H):lT E E:=⟨.refl E,rfl,rfl,rfl,rfl,rfl,fun _ _=>rfl,fun _ h=> .inl h,h.e3⟩
theorem lT.simH {E E':Env} {H:List Blk} (q:lT E E') (h:SimH E H):SimH E' H where
 heap:=fun b c hb=>by
  rw[q.m] at hb
  obtain⟨blk,a_,ty,q1,dX,q2,q3,q4,cR,c6⟩:=h.heap b c hb
  refine⟨blk,a_,ty,q1,by rw[q.sz];exact dX,?_,by rw[q.cp,q.sz];exact q3,by rw[q.cp];exact q4,by rw[q.sz];exact cR,fun i j row a aK aN=> ?_⟩
  ·rw[q.fi c (h.gD c ⟨b,hb⟩)];exact q2
  ·obtain⟨u,hu,fb⟩:=c6 i j row a aK aN
   exact⟨u,by rw[q.sz];exact hu,fb.le q.step.le.ca⟩
 fh:=by rw[q.bF];exact h.fh
 hz:=by rw[q.m,q.sz];exact h.hz
 fresh:=by rw[q.m,q.bF];exact h.fresh
 h0:=by rw[q.m];exact h.h0
 jS:=by rw[q.mL];exact h.jS
 gU:=by rw[q.m,q.mL];exact h.gU
 h3:=fun c hc ⟨b,hb⟩=>by
  rw[q.m] at hb
  rcases q.fM c hc with hc | ⟨hc,_⟩
  ·exact h.h3 c hc ⟨b,hb⟩
  ·have:=h.gD c ⟨b,hb⟩;omega
 iv:=fun c hc ⟨b,hb⟩=>by
  rw[q.mL] at hb
  rcases q.fM c hc with hc | ⟨hc,_⟩
  ·exact h.iv c hc ⟨b,hb⟩
  ·have:=h.g9 c ⟨b,hb⟩;omega
 e3:=q.e3
 fe:=fun c hc=>by
  rcases q.fM c hc with hc | ⟨_,hc⟩
  ·exact Nat.lt_of_lt_of_le (h.fe c hc) q.step.size
  ·exact hc
 gD:=fun c ⟨b,hb⟩=>by rw[q.m] at hb;exact Nat.lt_of_lt_of_le (h.gD c ⟨b,hb⟩) q.step.size
 g9:=fun c ⟨b,hb⟩=>by rw[q.mL] at hb;exact Nat.lt_of_lt_of_le (h.g9 c ⟨b,hb⟩) q.step.size
theorem lT.simL {E E':Env} {H:List Blk} {L:List (Nat×List AV)} (q:lT E E') (h:SimH E H) (l:SimL E L):SimL E' L:=fun t c hm=>by
 rw[q.mL] at hm
 obtain⟨cells,a_,ty,q1,q2,q3⟩:=l t c hm
 exact⟨cells,a_,ty,q1,by rw[q.fi c (h.g9 c ⟨t,hm⟩)];exact q2,q3.mono fun _ _ k=>k.le q.step.le.ca⟩
def AB (op:BinOp) (k:IntKind) (a b:Int) (K:AV→Prop):Prop:=match op with
 | .add=>K (.int k (k.wrap (a+b)))
 | .sub=>K (.int k (k.wrap (a - b)))
 | .mul=>K (.int k (k.wrap (a*b)))
 | .quo=>b≠0∧K (.int k (k.wrap (a.tdiv b)))
 | .rem=>b≠0∧K (.int k (a.tmod b))
 | .and=>K (.int k (k.wrap (BitVec.ofInt k.bits a&&&BitVec.ofInt k.bits b).toNat))
 | .eql=>K (.bool (a==b))
 | .neq=>K (.bool (a !=b))
 | .lss=>K (.bool (decide (a<b)))
 | .leq=>K (.bool (decide (a≤b)))
 | .gtr=>K (.bool (decide (a>b)))
 | .geq=>K (.bool (decide (a ≥ b)))
 | _=>False
def two (P:Program) (t:TypeId):Bool:=
 match P.underlying t with
 | some (.struct fz)=> !P.stoodInHeld t&& !P.eqGuardType P.depth t&&(match fz.toList with
  | [f,g]=>f.name != "_" &&g.name != "_" &&f.offset==0&&g.offset==1&&(P.underlying f.type matches some (.int .i64))&&(P.underlying g.type matches some (.int .i64))
  | _=>false)
 | _=>false
def AC (op:BinOp) (k:IntKind) (a:Int) (kR:IntKind) (b:Int) (K:AV→Prop):Prop:=match op with
 | .shl=>0≤b∧K (.int k (k.wrap (a*2 ^ (min b.toNat k.bits))))
 | .shr=>0≤b∧K (.int k (a.fdiv (2 ^ (min b.toNat k.bits))))
 | op=>if k=kR then AB op k a b K else False
def NS (P:Program) (t:TypeId):Bool:=match P.underlying t with
 | some .bool=>true
 | _=>false
def Dv (P:Program) (op:BinOp) (t:TypeId) (a b:Bool) (K:AV→Prop):Prop:=if NS P t=true then(match op with
  | .eql=>K (.bool (a==b))
  | .neq=>K (.bool (a !=b))
  | _=>False) else False
def Dx (op:BinOp) (a b:ByteArray) (K:AV→Prop):Prop:=match op with
  | .add=>a.size+b.size≤9223372036854775807∧K (.str (a++b))
  | .eql=>K (.bool (a.toList==b.toList))
  | .neq=>K (.bool (!(a.toList==b.toList)))
  | _=>False
def Dy (op:BinOp) (a b c d:Int) (K:AV→Prop):Prop:=match op with
  | .eql=>K (.bool (a==c&&b==d))
  | .neq=>K (.bool (!(a==c&&b==d)))
  | _=>False
def xS:List AV→Option (Int×Int)
 | [.int .i64 a,.int .i64 b]=>some (a,b)
 | _=>none
def jv (P:Program) (t:TypeId):Option TypeId:=match P.underlying t with
 | some (.slice e)=>some e
 | _=>none
def qQ:Operand→Bool
 | .const (.slice none 0 0)=>true
 | _=>false
def Dw (P:Program) (op:BinOp) (t:TypeId) (rows:List (List AV)) (sx:Bool) (K:AV→Prop):Prop:=
 if sx=true∧(jv P t).isSome=true then(match op with
  | .eql=>(rows≠[]→K (.bool false))∧(rows=[]→ ∀b,K (.bool b))
  | _=>False) else False
def sG (P:Program) (op:BinOp) (t:TypeId) (x y:AV) (sx:Bool) (K:AV→Prop):Prop:=match x with
 | .int k a=>(match y with
  | .int kR b=>AC op k a kR b K
  | _=>False)
 | .bool a=>(match y with
  | .bool b=>Dv P op t a b K
  | _=>False)
 | .str a=>(match y with
  | .str b=>Dx op a b K
  | _=>False)
 | .agg l=>(match y with
  | .agg m=>if two P t=true then c5 (xS l) fun p=>c5 (xS m) fun q=>Dy op p.1 p.2 q.1 q.2 K else False
  | _=>False)
 | .bC rows _ _=>Dw P op t rows sx K
 | _=>False
theorem Ee {op:BinOp} {t:TypeId} {x y:Operand} {k kR:IntKind} {a b:Int} {P:Program} {w:World}:(eqGuard op t x y (.int k a) (.int kR b)).run P w= .ok () w:=by
 unfold eqGuard;cases op<;>rfl
theorem KE {op:BinOp} {t:TypeId} {x y:Operand} {a b:Bool} {P:Program} {w:World}:(eqGuard op t x y (.bool a) (.bool b)).run P w= .ok () w:=by
 unfold eqGuard;cases op<;>rfl
theorem Ef {op:BinOp} {t:TypeId} {x y:Operand} {a b:ByteArray} {P:Program} {w:World}:(eqGuard op t x y (.string a) (.string b)).run P w= .ok () w:=by
 unfold eqGuard;cases op<;>rfl
theorem U9 {op:BinOp} {t:TypeId} {x y:Operand} {A B:Option Addr} {n m c d:Nat} {P:Program} {w:World}:(eqGuard op t x y (.slice A n c) (.slice B m d)).run P w= .ok () w:=by
 unfold eqGuard;cases op<;>rfl
theorem KD {op:BinOp} {t:TypeId} {x y:Operand} {A B:Array Value} {P:Program} {w:World} (h:P.eqGuardType P.depth t=false):(eqGuard op t x y (.agg A) (.agg B)).run P w= .ok () w:=by
 unfold eqGuard;cases op<;>first | rfl | simp[h]
theorem abX {P:Program} {w:World} {op:BinOp} {t:TypeId} {k:IntKind} {a b:Int} {K:AV→Prop} (h:AB op k a b K):
  ∃r u,K r∧(binOp op t (.int k a) (.int k b)).run P w= .ok u w∧ ∀E:Env,V3 E r u:=by
 cases op<;>simp only[AB] at h
 case add=>exact⟨_,_,h,by simp[binOp,Op.intArith],fun E=>bH.int _ _⟩
 case sub=>exact⟨_,_,h,by simp[binOp,Op.intArith],fun E=>bH.int _ _⟩
 case mul=>exact⟨_,_,h,by simp[binOp,Op.intArith],fun E=>bH.int _ _⟩
 case quo=>exact⟨_,_,h.2,by simp[binOp,Op.intDiv,h.1],fun E=>bH.int _ _⟩
 case rem=>exact⟨_,_,h.2,by simp[binOp,Op.intDiv,h.1],fun E=>bH.int _ _⟩
 case and=>exact⟨_,_,h,by simp[binOp,Op.intBits],fun E=>bH.int _ _⟩
 case eql=>exact⟨_,_,h,by simp[binOp,Op.intCmp],fun E=>bH.bool _⟩
 case neq=>exact⟨_,_,h,by simp[binOp,Op.intCmp],fun E=>bH.bool _⟩
 case lss=>exact⟨_,_,h,by simp[binOp,Op.intCmp],fun E=>bH.bool _⟩
 case leq=>exact⟨_,_,h,by simp[binOp,Op.intCmp],fun E=>bH.bool _⟩
 case gtr=>exact⟨_,_,h,by simp[binOp,Op.intCmp],fun E=>bH.bool _⟩
 case geq=>exact⟨_,_,h,by simp[binOp,Op.intCmp],fun E=>bH.bool _⟩
theorem SO {P:Program} {t:TypeId} (h:two P t=true): ∃f g:Field,P.underlying t=some (.struct (P.fieldsOf t))∧(P.fieldsOf t).toList=[f,g]∧P.stoodInHeld t=false∧P.eqGuardType P.depth t=false∧
  f.name≠ "_" ∧g.name≠ "_" ∧f.offset=0∧g.offset=1∧P.underlying f.type=some (.int .i64)∧P.underlying g.type=some (.int .i64):=by
 unfold two at h
 split at h
 ·rename_i fz oq
  have hf:P.fieldsOf t=fz:=by simp[Program.fieldsOf,oq]
  simp only[Bool.and_eq_true,Bool.not_eq_true'] at h
  obtain⟨⟨h1,h2⟩,aO⟩:=h
  split at aO
  ·rename_i f g aL
   simp only[Bool.and_eq_true,bne_iff_ne,ne_eq,beq_iff_eq] at aO
   obtain⟨⟨⟨⟨⟨q1,q2⟩,q3⟩,q4⟩,cR⟩,c6⟩:=aO
   refine⟨f,g,by rw[hf];exact oq,by rw[hf];exact aL,h1,h2,q1,q2,q3,q4,?_,?_⟩
   ·split at cR
    ·assumption
    ·cases cR
   ·split at c6
    ·assumption
    ·cases c6
  ·cases aO
 ·cases h
theorem P1 {P:Program} {t:TypeId} (h:two P t=true) (a b c d:Int) (w:World):
  (Op.equal t (.agg #[.int .i64 a,.int .i64 b]) (.agg #[.int .i64 c,.int .i64 d])).run P w= .ok (a==c&&b==d) w:=by
 obtain⟨f,g,h1,h2,aO,bd,ch,cD,gp,oh,ue,yz⟩:=SO h
 show(Op.equalIn (9999+1) t _ _).run P w=_
 rw[run_equalIn_struct w 9999 t _ _ h1 aO,h2]
 have fN: ∀(hE:TypeId) (a_:Array Value) (o:Nat) (u:Value),P.underlying hE=some (.int .i64)→a_[o]?=some u→(part hE a_ o).run P w= .ok u w:=by
  intro hE a_ o u hu hc
  simp[part,Go.isAgg,run_underlying hu,hc]
 simp only[Op.eqFields,if_pos ch,if_pos cD,gp,oh,Sem.run_bind]
 rw[fN f.type #[.int .i64 a,.int .i64 b] 0 (.int .i64 a) ue rfl]
 simp only[Result.andThen_ok]
 rw[fN f.type #[.int .i64 c,.int .i64 d] 0 (.int .i64 c) ue rfl]
 simp only[Result.andThen_ok]
 rw[show(9999:Nat)=9998+1 from rfl,run_equalIn_int w 9998 f.type .i64 .i64 a c ue]
 simp only[Result.andThen_ok]
 cases af7:(a==c)
 ·simp
 ·simp only[Bool.not_true,Bool.false_eq_true,if_false,Sem.run_bind]
  rw[fN g.type #[.int .i64 a,.int .i64 b] 1 (.int .i64 b) yz rfl]
  simp only[Result.andThen_ok]
  rw[fN g.type #[.int .i64 c,.int .i64 d] 1 (.int .i64 d) yz rfl]
  simp only[Result.andThen_ok]
  rw[run_equalIn_int w 9998 g.type .i64 .i64 b d yz]
  cases af9:(b==d)<;>simp
theorem V3.SN {E:Env} {a b:Int} {v:Value} (h:V3 E (.agg [.int .i64 a,.int .i64 b]) v):v= .agg #[.int .i64 a,.int .i64 b]:=by
 obtain⟨vs,rfl,aI⟩:=(h:V2 E (.agg [.int .i64 a,.int .i64 b]) v)
 obtain⟨x,vs,rfl,hx,aI⟩:=aI.cons_inv
 obtain⟨y,vs,rfl,bm,aI⟩:=aI.cons_inv
 obtain rfl:=aI.w7
 have jQ:bH E.w E.PA E.PF (.int .i64 a) x:=hx
 have X8:bH E.w E.PA E.PF (.int .i64 b) y:=bm
 cases jQ;cases X8;rfl
theorem SM {l:List AV} {p:Int×Int} (h:xS l=some p):l=[.int .i64 p.1,.int .i64 p.2]:=by
 unfold xS at h
 split at h
 ·cases h;rfl
 ·cases h
theorem sM {P:Program} {t e:TypeId} (h:jv P t=some e):P.underlying t=some (.slice e):=by
 unfold jv at h
 split at h
 ·cases h;assumption
 ·cases h
theorem TQ {P:Program} {op:BinOp} {t:TypeId} {X Y:Operand} {Js x0:AV} {iV De:Value} {E:Env} {K:AV→Prop}
  {sx:Bool} (hx:V3 E Js iV) (bm:V3 E x0 De) (Fz:sx=true→De= .slice none 0 0) (h:sG P op t Js x0 sx K):
  ∃r u,K r∧(do eqGuard op t X Y iV De;binOp op t iV De:Sem Value).run P E.w= .ok u E.w∧V3 E r u:=by
 cases Js with
 | int k a=>
  cases x0 with
  | int kR b=>
   replace h:AC op k a kR b K:=h
   obtain rfl:=hx.r8
   obtain rfl:=bm.r8
   cases op
   case shl=>
    obtain⟨hb,h⟩:=h
    have ek: ¬b<0:=by omega
    exact⟨_,_,h,by simp[Ee,binOp,Op.shift,ek],bH.int _ _⟩
   case shr=>
    obtain⟨hb,h⟩:=h
    have ek: ¬b<0:=by omega
    exact⟨_,_,h,by simp[Ee,binOp,Op.shift,ek],bH.int _ _⟩
   all_goals
    simp only[AC] at h
    split at h
    ·rename_i hk
     subst hk
     obtain⟨r,u,hK,aK,hv⟩:=abX (P:=P) (w:=E.w) (t:=t) h
     exact⟨r,u,hK,by simp only[Sem.run_bind,Ee,Result.andThen_ok,aK],hv E⟩
    ·exact h.elim
  | _=>exact h.elim
 | bool a=>
  cases x0 with
  | bool b=>
   replace h:Dv P op t a b K:=h
   obtain rfl:=hx.rG
   obtain rfl:=bm.rG
   unfold Dv at h
   split at h
   ·rename_i hu
    have nI:P.underlying t=some .bool:=by
     unfold NS at hu
     split at hu
     ·assumption
     ·cases hu
    cases op<;>first | exact h.elim | skip
    case eql=>exact⟨_,_,h,by simp only[Sem.run_bind,KE,Result.andThen_ok,binOp,Op.equal];rw[show Op.maxDepth=9999+1 from rfl,run_equalIn_bool' E.w 9999 t a b nI];rfl,bH.bool _⟩
    case neq=>exact⟨_,_,h,by simp only[Sem.run_bind,KE,Result.andThen_ok,binOp,Op.equal];rw[show Op.maxDepth=9999+1 from rfl,run_equalIn_bool' E.w 9999 t a b nI];rfl,bH.bool _⟩
   ·exact h.elim
  | _=>exact h.elim
 | str a=>
  cases x0 with
  | str b=>
   replace h:Dx op a b K:=h
   obtain rfl:=hx.xL
   obtain rfl:=bm.xL
   cases op<;>first | exact h.elim | skip
   case add=>
    obtain⟨aL,h⟩:=h
    have: ¬((a.size+b.size:Nat):Int)>IntKind.i64.max:=by
     have:IntKind.i64.max=9223372036854775807:=by decide
     rw[this];omega
    exact⟨_,_,h,by simp only[Sem.run_bind,Ef,Result.andThen_ok,binOp,Op.stringOp];rw[if_neg this];rfl,bH.str _⟩
   case eql=>exact⟨_,_,h,by simp only[Sem.run_bind,Ef,Result.andThen_ok,binOp,Op.stringOp];rfl,bH.bool _⟩
   case neq=>exact⟨_,_,h,by simp only[Sem.run_bind,Ef,Result.andThen_ok,binOp,Op.stringOp];rfl,bH.bool _⟩
  | _=>exact h.elim
 | agg l=>
  cases x0 with
  | agg m=>
   replace h:if two P t=true then c5 (xS l) fun p=>c5 (xS m) fun q=>Dy op p.1 p.2 q.1 q.2 K else False:=h
   split at h
   ·rename_i bq
    obtain⟨⟨a,b⟩,aI,h⟩:=fC h
    obtain⟨⟨c,d⟩,ak,h⟩:=fC h
    obtain rfl:=SM aI
    obtain rfl:=SM ak
    obtain rfl:=hx.SN
    obtain rfl:=bm.SN
    obtain⟨f,g,h1,h2,aO,bd,_⟩:=SO bq
    cases op<;>first | exact h.elim | skip
    case eql=>exact⟨_,_,h,by simp only[Sem.run_bind,KD bd,Result.andThen_ok,binOp,P1 bq];rfl,bH.bool _⟩
    case neq=>exact⟨_,_,h,by simp only[Sem.run_bind,KD bd,Result.andThen_ok,binOp,P1 bq];rfl,bH.bool _⟩
   ·exact h.elim
  | _=>exact h.elim
 | bC rows eJ fr=>
  replace h:Dw P op t rows sx K:=h
  unfold Dw at h
  split at h
  ·rename_i hc
   obtain⟨aG,he⟩:=hc
   obtain⟨e,he⟩:=Option.isSome_iff_exists.1 he
   have hu:=sM he
   obtain rfl:=Fz aG
   have jQ:bH E.w E.PA E.PF (.bC rows eJ fr) iV:=hx
   cases jQ with
   | @bC _ _ _ _ _ _ A cap sz vs gq gR ht cY fl ec=>
   have fX:(do eqGuard op t X Y (.slice A rows.length cap) (.slice none 0 0);binOp .eql t (.slice A rows.length cap) (.slice none 0 0):Sem Value).run P E.w= .ok (.bool A.isNone) E.w:=by
    simp only[Sem.run_bind,U9,Result.andThen_ok,binOp,Op.equal]
    rw[show Op.maxDepth=9999+1 from rfl]
    generalize 9999=d
    simp only[Op.equalIn,Sem.run_bind,run_underlying hu,Result.andThen_ok]
    cases A<;>rfl
   cases op<;>first | exact h.elim | skip
   case eql=>
    obtain⟨h1,h2⟩:=h
    by_cases aK:rows=[]
    ·exact⟨_,_,h2 aK A.isNone,fX,bH.bool _⟩
    ·have:0<rows.length:=by cases rows<;>simp_all
     obtain⟨c,o,rfl,_⟩:=fl this
     exact⟨_,_,h1 aK,fX,bH.bool _⟩
  ·exact h.elim
 | _=>exact h.elim
theorem Lc (off:Nat): ∀(l:List Value) (k:Nat) (cells:Array Value),off+k+l.length≤cells.size→
  (((l.zipIdx k).foldl (fun a_ (x:Value×Nat)=>a_.setIfInBounds (off+x.2) x.1) cells).size=cells.size∧
  ∀i,((l.zipIdx k).foldl (fun a_ (x:Value×Nat)=>a_.setIfInBounds (off+x.2) x.1) cells)[i]?=if i<off+k then cells[i]? else if i<off+k+l.length then l[i - (off+k)]? else cells[i]?)
 | [],k,cells,_=>⟨rfl,fun i=>by simp;omega⟩
 | v::l,k,cells,h=>by
  have h':off+(k+1)+l.length≤(cells.setIfInBounds (off+k) v).size:=by simp at h ⊢;omega
  obtain⟨h1,h2⟩:=Lc off l (k+1) (cells.setIfInBounds (off+k) v) h'
  refine⟨by simp only[List.zipIdx_cons,List.foldl_cons];rw[h1];simp,fun i=> ?_⟩
  simp only[List.zipIdx_cons,List.foldl_cons]
  rw[h2 i]
  simp only[Array.getElem?_setIfInBounds,List.length_cons] at*
  by_cases M:i<off+k
  ·rw[if_pos (by omega),if_neg (by omega),if_pos M]
  ·by_cases U:i=off+k
   ·subst U
    rw[if_pos (by omega),if_pos rfl,if_pos (by omega),if_neg (by omega),if_pos (by omega)]
    simp
   ·by_cases db:i<off+(k+1)+l.length
    ·rw[if_neg (by omega),if_pos db,if_neg M,if_pos (by omega),show i - (off+k)=(i - (off+(k+1)))+1 by omega]
     simp
    ·rw[if_neg (by omega),if_neg db,if_neg (by omega),if_neg M,if_neg (by omega)]
def px (pl:Nat→Option (Nat×Nat)) (cells:List AV):List (Nat×AV)→Option (List AV)
 | []=>some cells
 | (i,v)::rest=>match pl i with
  | none=>none
  | some (off,size)=>if(fj v).length=size∧off+(fj v).length≤cells.length∧(fj v).all jk=true then px pl (fp cells off (fj v)) rest else none
theorem A8 {E:Env} {pl:Nat→Option (Nat×Nat)}: ∀{parts:List (Nat×AV)} {kF:List (Nat×Value)} {cells:List AV} {tE:Array Value} {r:List AV},
  aD (fun a b=>a.1=b.1∧V2 E a.2 b.2) parts kF→aD (cM E.ca) cells tE.toList→px pl cells parts=some r→ ∃hS,Instr.fill pl tE kF=some hS∧aD (cM E.ca) r hS.toList
 | [],kF,cells,tE,r,aI,hc,h=>by
  obtain rfl:=aI.w7
  cases h
  exact⟨tE,rfl,hc⟩
 | (i,v)::rest,kF,cells,tE,r,aI,hc,h=>by
  obtain⟨⟨jd,u⟩,agv,rfl,⟨hi,hv⟩,s4⟩:=aI.cons_inv
  simp only at hi hv
  subst hi
  unfold px at h
  split at h
  ·cases h
  ·rename_i off size io
   split at h
   ·rename_i oU
    obtain⟨h1,h2,aO⟩:=oU
    have ul:=DI hv aO
    have W8:aD (cM E.ca) (fj v) u.cells.toList:=⟨ul.1,fun i a b a3 hb=>I5 (List.all_eq_true.1 aO a (List.mem_of_getElem? a3)) (ul.2 i a b a3 hb)⟩
    have cY:u.cells.size=(fj v).length:=by rw[ul.1];simp
    have ol:cells.length=tE.size:=by rw[hc.1];simp
    obtain⟨f1,f2⟩:=Lc off u.cells.toList 0 tE (by simp;omega)
    simp only[Nat.add_zero] at f1 f2
    have wJ:aD (cM E.ca) (fp cells off (fj v)) ((u.cells.toList.zipIdx).foldl (fun a_ (x:Value×Nat)=>a_.setIfInBounds (off+x.2) x.1) tE).toList:=by
     have hs:=aD.fp hc W8 h2
     refine⟨?_,fun k a b a3 hb=> ?_⟩
     ·simp only[Array.length_toList];rw[f1];simp[fp];omega
     ·refine hs.2 k a b a3 ?_
      rw[xJ (by simp;omega)]
      rw[Array.getElem?_toList,f2 k] at hb
      simpa using hb
    obtain⟨hS,aK,ec⟩:=A8 s4 wJ h
    refine⟨hS,?_,ec⟩
    unfold Instr.fill
    rw[io]
    simp only
    rw[if_neg (by simp;omega)]
    rw[←Array.foldl_toList,Array.toList_zipIdx]
    exact aK
   ·cases h
def ns (P:Program) (t:TypeId):Option (List AV):=((P.info? t).bind (·.zero)).map fun z=>z.cells.toList.map oQ
theorem UH (E:Env) (v:Value):cM E (oQ v) v:=by
 unfold oQ
 split
 ·exact bH.int _ _
 ·exact bH.bool _
 ·exact bH.str _
 ·exact bH.bC (PB:=fun _=>False) (sz:=0) (vs:=fun _ _=>undef) (fun _ h=>h.elim) ⟨Nat.le_refl _,Nat.zero_le _⟩ (fun _=>rfl) (fun i row h=>by simp at h) (fun h=>by simp at h) (fun i j row a h=>by simp at h)
 ·exact bH.gj
 ·exact bH.gE
 ·exact bH.undef _
theorem vD {E:Env} {P:Program} {t:TypeId} {z:List AV} (h:ns P t=some z): ∃i v,P.info? t=some i∧i.zero=some v∧z=v.cells.toList.map oQ∧aD (cM E) z v.cells.toList:=by
 unfold ns at h
 cases hi:P.info? t with
 | none=>simp[hi] at h
 | some i=>
  cases aP:i.zero with
  | none=>simp[hi,aP] at h
  | some v=>
   simp[hi,aP] at h
   subst h
   refine⟨i,v,rfl,aP,rfl,by simp,fun k a b a3 hb=> ?_⟩
   rw[List.getElem?_map,hb] at a3
   simp at a3;subst a3;exact UH E b
def G8 (P:Program) (t:TypeId):Option (List (Nat×Nat)):=match P.underlying t with
 | some (.struct fz)=>fz.toList.mapM (fun f=>(P.info? f.type).map fun i=>(f.offset,i.size))
 | _=>none
def DB (P:Program) (t:TypeId) (parts:List (Nat×AV)) (K:AV→Prop):Prop:=
 c5 (ns P t) fun z=>c5 (G8 P t) fun pl=>c5 (px (fun i=>pl[i]?) z parts) fun cells=>K (.agg cells)
theorem T2 {P:Program} {E:Env} {t:TypeId} {parts:List (Nat×AV)} {kF:List (Nat×Value)} {K:AV→Prop} (aI:aD (fun a b=>a.1=b.1∧V2 E a.2 b.2) parts kF) (h:DB P t parts K):
  ∃r u,K r∧(Instr.build t kF.toArray).run P E.w= .ok u E.w∧V3 E r u:=by
 obtain⟨z,aP,h⟩:=fC h
 obtain⟨pl,io,h⟩:=fC h
 obtain⟨cells,hf,h⟩:=fC h
 obtain⟨i,v,h1,h2,aO,bd⟩:=vD (E:=E.ca) aP
 obtain⟨hS,aK,ec⟩:=A8 aI bd hf
 refine⟨_,.agg hS,h,run_build E.w t kF.toArray hS ?_,hS.toList,by simp,ec.mono fun _ _ k=>k.up⟩
 unfold G8 at io
 split at io
 ·rename_i fz oq
  unfold Program.built
  rw[h1,oq]
  simp only[h2,io]
  simpa using aK
 ·cases io
def jM:AV→Bool
 | .int _ _ | .bool _ | .str _ | .bC _ _ _ | .gj | .gE=>true
 | _=>false
def oe:AV→Bool
 | .bC _ _ fr=>fr
 | _=>true
def kD:AV→AV
 | .bC rows _ _=> .bC rows false false
 | a=>a
def pa:AV→AV
 | .bC rows full _=> .bC rows full true
 | a=>a
theorem abK {w:World} {PB PA PF:Nat→Prop} {a:AV} {v:Value} (h:bH w PB (fun _=>False) a v) (hb: ∀c,PB c→PF c) (Fi: ∀c,PF c→PA c):bH w PA PF (pa a) v:=by
 have key:(∀rows full fr,a≠ .bC rows full fr)→bH w PA PF (pa a) v:=fun cl=>by
  have e:pa a=a:=by cases a<;>first | rfl | exact absurd rfl (cl _ _ _)
  rw[e]
  exact h.mono (fun _ _=>rfl) (fun _ h=>h.elim) (fun c hc=>Fi c (hb c hc)) (fun _ h=>h.elim)
 cases a with
 | bC rows full fr=>
  cases h with
  | bC gq gR ht cY fl ec=>
   exact .bC (fun c hc=>by
    have:=gq c hc
    rw[if_pos rfl]
    split at this
    ·exact this.elim
    ·exact hb c this) gR ht cY fl ec
 | _=>exact key (fun _ _ _ e=>by cases e)
theorem Jk {w:World} {PA PF PB:Nat→Prop} {a:AV} {v:Value} (a3:jM a=true) (h:bH w PA PF a v) (hb: ∀c,PA c→PB c) (Fi: ∀c,PF c→PA c):bH w PB (fun _=>False) (kD a) v:=by
 cases h with
 | undef=>cases a3
 | int=>exact .int _ _
 | bool=>exact .bool _
 | str=>exact .str _
 | bC gq gR ht cY fl ec=>
  exact .bC (fun c hc=>by
   have:=gq c hc
   simp only[Bool.false_eq_true,if_false]
   split at this
   ·exact hb c (Fi c this)
   ·exact hb c this) gR (fun h=>by cases h) cY fl ec
 | dA=>cases a3
 | gj=>exact .gj
 | gE=>exact .gE
 | fn=>cases a3
theorem SQ {w:World} {PA PF:Nat→Prop} {a:AV} {v:Value} (a3:jM a=true) (hf:oe a=true) (h:bH w PA PF a v):bH w PF (fun _=>False) (kD a) v:=by
 cases h with
 | undef=>cases a3
 | int=>exact .int _ _
 | bool=>exact .bool _
 | str=>exact .str _
 | @bC _ _ PB rows full fresh A cap sz vs gq gR ht cY fl ec=>
  have sW:fresh=true:=hf
  subst sW
  exact .bC (fun c hc=>by simpa using gq c hc) gR (fun h=>by cases h) cY fl ec
 | dA=>cases a3
 | gj=>exact .gj
 | gE=>exact .gE
 | fn=>cases a3
def chunk (size n:Nat) (cells:List AV):List (List AV):=(List.range n).map fun i=>(cells.drop (i*size)).take size
def vU (P:Program) (t:TypeId) (n:Nat) (parts:List (Nat×AV)) (K:AV→Prop):Prop:=
 c5 (jv P t) fun e=>c5 (ns P e) fun z=>if z.length=P.cellsOf e∧n*z.length≤1000000∧n≤1000000 then
  c5 (px (fun i=>some (i*z.length,z.length)) ((List.range (n*z.length)).map fun i=>z.getD (i%z.length) .undef) parts) fun cells=>
   if cells.all jM=true then K (.bC (chunk z.length n (cells.map kD)) true (cells.all oe)) else False
 else False
theorem AG {E:Env} {a:AV} {v:Value} (a3:jM a=true) (h:cM E a v):bH E.w E.PA E.PF a v:=by
 cases a<;>first | exact h | cases a3
theorem Ki {size n i j:Nat} {cells row:List AV} {a:AV} (aK:(chunk size n cells)[i]?=some row) (aN:row[j]?=some a):i<n∧j<size∧cells[i*size+j]?=some a:=by
 unfold chunk at aK
 rw[List.getElem?_map] at aK
 cases uB:(List.range n)[i]? with
 | none=>simp[uB] at aK
 | some k=>
  have hi:i<n:=by have:=(List.getElem?_eq_some_iff.1 uB).1;simpa using this
  rw[List.getElem?_range hi] at uB
  cases uB
  rw[List.getElem?_range hi] at aK
  simp at aK
  subst aK
  rw[List.getElem?_take] at aN
  split at aN
  ·rw[List.getElem?_drop] at aN
   exact⟨hi,by assumption,aN⟩
  ·cases aN
theorem sC (w:World) (o:Obj) (c:Nat) (h:c<w.heap.size):(w.alloc o).heap[c]?=w.heap[c]?:=Go.RowKit.Below.heap_alloc w o c h
theorem JM (w:World) (o:Obj):(w.alloc o).heap[w.heap.size]?=some o:=by
 show(w.heap.push o)[w.heap.size]?=_
 simp
theorem lT.alloc {E:Env} {H:List Blk} (aS:SimH E H) (o:Obj):
  lT E {E with w:=E.w.alloc o,PA:=fun c=>E.PA c∨c=E.w.heap.size,PF:=fun c=>E.PF c∨c=E.w.heap.size} where
 step:=⟨⟨fun _ h=> .inl h,fun _ h=> .inl h,fun c hc=>sC _ _ _ (aS.fe c hc),fun c hc=>sC _ _ _ (aS.fe c (aS.e3 c hc)),fun _=>Nat.le_refl _,fun _ _ h _=>⟨h,rfl,rfl⟩,fun _ _ h=>h⟩,
  rfl,rfl,rfl,by simp,fun c hc _ _=>sC _ _ _ hc,fun _ _ h=> .inl h,fun _ h=> .inl h,fun c hc=>hc.elim .inl (fun e=> .inr (by omega)),fun c hc=>hc.elim .inl (fun e=> .inr (by omega))⟩
 m:=rfl
 mL:=rfl
 bF:=rfl
 sz:=rfl
 cp:=rfl
 fi:=fun c hc=>sC _ _ _ hc
 fM:=fun c hc=>hc.elim .inl (fun e=> .inr (by simp;omega))
 e3:=fun c hc=>hc.elim (fun h=> .inl (aS.e3 c h)) .inr
theorem T0 {P:Program} {E:Env} {t:TypeId} {e:TypeId} {n:Nat} {z:List AV} {parts:List (Nat×AV)} {kF:List (Nat×Value)} {cells:List AV} (aI:aD (fun a b=>a.1=b.1∧V2 E a.2 b.2) parts kF) (he:jv P t=some e) (aP:ns P e=some z)
  (ow:z.length=P.cellsOf e) (W1:n*z.length≤1000000∧n≤1000000) (hf:px (fun i=>some (i*z.length,z.length)) ((List.range (n*z.length)).map fun i=>z.getD (i%z.length) .undef) parts=some cells):
  ∃hS,aD (cM E.ca) cells hS.toList∧(Instr.buildSlice t n kF.toArray).run P E.w= .ok (.slice (some ⟨E.w.heap.size,0,none⟩) n n) (E.w.alloc (.cells hS e))∧cells.length=n*z.length:=by
 obtain⟨i,v,h1,h2,aO,bd⟩:=vD (E:=E.ca) aP
 have uH:v.cells.size=z.length:=by rw[aO];simp
 have wE:i.size=z.length:=by rw[ow];simp[Program.cellsOf,h1]
 let ln:Array Value:=if n*z.length=0 then #[] else v.cells
 let base:Array Value:=(Array.range (n*z.length)).map (fun i=>ln[i%ln.size]!)
 have pF:aD (cM E.ca) ((List.range (n*z.length)).map fun i=>z.getD (i%z.length) .undef) base.toList:=by
  refine⟨by simp[base],fun k a b a3 hb=> ?_⟩
  rw[List.getElem?_map] at a3
  have hk:k<n*z.length:=by
   cases ak:(List.range (n*z.length))[k]? with
   | none=>simp[ak] at a3
   | some x=>have:=(List.getElem?_eq_some_iff.1 ak).1;simpa using this
  rw[List.getElem?_range hk] at a3
  simp only[Option.map_some,Option.some.injEq] at a3
  have lB:0<z.length:=by
   rcases Nat.eq_zero_or_pos z.length with q | q
   ·rw[q,Nat.mul_zero] at hk;omega
   ·exact q
  have bf:k%z.length<z.length:=Nat.mod_lt _ lB
  have pO:ln=v.cells:=if_neg (by omega)
  have ek:base[k]?=some (v.cells[k%z.length]!):=by
   show((Array.range (n*z.length)).map (fun i=>ln[i%ln.size]!))[k]?=_
   rw[pO,uH]
   simp[hk]
  rw[Array.getElem?_toList,ek] at hb
  simp only[Option.some.injEq] at hb
  have pN:v.cells.toList[k%z.length]?=some (v.cells[k%z.length]!):=by
   rw[Array.getElem?_toList,Array.getElem?_eq_getElem (by omega)]
   congr 1
   exact(getElem!_pos v.cells (k%z.length) (by omega)).symm
  have FA:z[k%z.length]?=some a:=by
   rw[←a3,List.getD_eq_getElem?_getD,List.getElem?_eq_getElem bf];rfl
  rw[←hb]
  exact bd.2 _ _ _ FA pN
 obtain⟨hS,aK,ec⟩:=A8 aI pF hf
 have hu:=sM he
 have fX:(Instr.buildSlice t n kF.toArray).run P E.w= .ok (.slice (some ⟨E.w.heap.size,0,none⟩) n n) (E.w.alloc (.cells hS e)):=by
  have EV: ¬n*z.length>2 ^ 24:=by omega
  simp only[Instr.buildSlice,Sem.run_bind,run_underlying hu,Result.andThen_ok,run_sizeOf (show(P.info? e).isSome=true by rw[h1];rfl),←ow,if_neg EV]
  have fb:Instr.fill (fun i=>some (i*z.length,z.length)) ((Array.range (n*z.length)).map (fun x=>ln[x%ln.size]!)) kF=some hS:=aK
  by_cases q:n*z.length=0
  ·have pO:ln= #[]:=if_pos q
   rw[if_pos q]
   simp only[Sem.run_bind,Sem.run_pure,Result.andThen_ok]
   rw[←pO,fb]
   simp[newRow]
  ·have pO:ln=v.cells:=if_neg q
   rw[if_neg q]
   simp only[Sem.run_bind,Sem.run_pure,Result.andThen_ok,zeroValue,typeInfo,h1,h2,run_program]
   rw[←pO,fb]
   simp[newRow]
 have hlen:cells.length=n*z.length:=by
  have q:=ec.1
  have: ∀(parts:List (Nat×AV)) (c r:List AV),px (fun i=>some (i*z.length,z.length)) c parts=some r→r.length=c.length:=by
   intro parts
   induction parts with
   | nil=>intro c r b0;cases b0;rfl
   | cons p ps bQ=>
    intro c r b0
    obtain⟨a,b⟩:=p
    unfold px at b0
    split at b0
    ·cases b0
    ·split at b0
     ·rename_i hc
      rw[bQ _ _ b0];simp[fp];omega
     ·cases b0
  rw[this _ _ _ hf];simp
 exact⟨hS,ec,fX,hlen⟩
theorem J_ {P:Program} {E:Env} {H:List Blk} {t:TypeId} {n:Nat} {parts:List (Nat×AV)} {kF:List (Nat×Value)} {K:AV→Prop} (aS:SimH E H) (aI:aD (fun a b=>a.1=b.1∧V2 E a.2 b.2) parts kF) (h:vU P t n parts K):
  ∃r u E',K r∧(Instr.buildSlice t n kF.toArray).run P E.w= .ok u E'.w∧lT E E'∧V3 E' r u:=by
 obtain⟨e,he,h⟩:=fC h
 obtain⟨z,aP,h⟩:=fC h
 split at h
 case isFalse=>exact h.elim
 case isTrue hb=>
 obtain⟨ow,W1⟩:=hb
 obtain⟨cells,hf,h⟩:=fC h
 split at h
 case isFalse=>exact h.elim
 case isTrue hby=>
 obtain⟨i,v,h1,h2,aO,bd⟩:=vD (E:=E.ca) aP
 have uH:v.cells.size=z.length:=by rw[aO];simp
 have wE:i.size=z.length:=by rw[ow];simp[Program.cellsOf,h1]
 let ln:Array Value:=if n*z.length=0 then #[] else v.cells
 let base:Array Value:=(Array.range (n*z.length)).map (fun i=>ln[i%ln.size]!)
 have pF:aD (cM E.ca) ((List.range (n*z.length)).map fun i=>z.getD (i%z.length) .undef) base.toList:=by
  refine⟨by simp[base],fun k a b a3 hb=> ?_⟩
  rw[List.getElem?_map] at a3
  have hk:k<n*z.length:=by
   cases ak:(List.range (n*z.length))[k]? with
   | none=>simp[ak] at a3
   | some x=>have:=(List.getElem?_eq_some_iff.1 ak).1;simpa using this
  rw[List.getElem?_range hk] at a3
  simp only[Option.map_some,Option.some.injEq] at a3
  have lB:0<z.length:=by
   rcases Nat.eq_zero_or_pos z.length with q | q
   ·rw[q,Nat.mul_zero] at hk;omega
   ·exact q
  have bf:k%z.length<z.length:=Nat.mod_lt _ lB
  have pO:ln=v.cells:=if_neg (by omega)
  have ek:base[k]?=some (v.cells[k%z.length]!):=by
   show((Array.range (n*z.length)).map (fun i=>ln[i%ln.size]!))[k]?=_
   rw[pO,uH]
   simp[hk]
  rw[Array.getElem?_toList,ek] at hb
  simp only[Option.some.injEq] at hb
  have pN:v.cells.toList[k%z.length]?=some (v.cells[k%z.length]!):=by
   rw[Array.getElem?_toList,Array.getElem?_eq_getElem (by omega)]
   congr 1
   exact(getElem!_pos v.cells (k%z.length) (by omega)).symm
  have FA:z[k%z.length]?=some a:=by
   rw[←a3,List.getD_eq_getElem?_getD,List.getElem?_eq_getElem bf];rfl
  rw[←hb]
  exact bd.2 _ _ _ FA pN
 obtain⟨hS,aK,ec⟩:=A8 aI pF hf
 have ak:=lT.alloc aS (.cells hS e)
 have hu:=sM he
 have fX:(Instr.buildSlice t n kF.toArray).run P E.w= .ok (.slice (some ⟨E.w.heap.size,0,none⟩) n n) (E.w.alloc (.cells hS e)):=by
  have EV: ¬n*z.length>2 ^ 24:=by omega
  simp only[Instr.buildSlice,Sem.run_bind,run_underlying hu,Result.andThen_ok,run_sizeOf (show(P.info? e).isSome=true by rw[h1];rfl),←ow,if_neg EV]
  have fb:Instr.fill (fun i=>some (i*z.length,z.length)) ((Array.range (n*z.length)).map (fun x=>ln[x%ln.size]!)) kF=some hS:=aK
  by_cases q:n*z.length=0
  ·have pO:ln= #[]:=if_pos q
   rw[if_pos q]
   simp only[Sem.run_bind,Sem.run_pure,Result.andThen_ok]
   rw[←pO,fb]
   simp[newRow]
  ·have pO:ln=v.cells:=if_neg q
   rw[if_neg q]
   simp only[Sem.run_bind,Sem.run_pure,Result.andThen_ok,zeroValue,typeInfo,h1,h2,run_program]
   rw[←pO,fb]
   simp[newRow]
 have hlen:cells.length=n*z.length:=by
  have q:=ec.1
  have: ∀(parts:List (Nat×AV)) (c r:List AV),px (fun i=>some (i*z.length,z.length)) c parts=some r→r.length=c.length:=by
   intro parts
   induction parts with
   | nil=>intro c r b0;cases b0;rfl
   | cons p ps bQ=>
    intro c r b0
    obtain⟨a,b⟩:=p
    unfold px at b0
    split at b0
    ·cases b0
    ·split at b0
     ·rename_i hc
      rw[bQ _ _ b0];simp[fp];omega
     ·cases b0
  rw[this _ _ _ hf];simp
 refine⟨_,_,_,h,fX,ak,?_⟩
 have ol:(chunk z.length n (cells.map kD)).length=n:=by simp[chunk]
 show bH (E.w.alloc (.cells hS e)) (fun c=>E.PA c∨c=E.w.heap.size) (fun c=>E.PF c∨c=E.w.heap.size) _ _
 have key:=bH.bC (w:=E.w.alloc (.cells hS e)) (PA:=fun c=>E.PA c∨c=E.w.heap.size) (PF:=fun c=>E.PF c∨c=E.w.heap.size)
  (PB:=if cells.all oe=true then(fun c=>E.PF c∨c=E.w.heap.size) else(fun c=>E.PA c∨c=E.w.heap.size))
  (rows:=chunk z.length n (cells.map kD)) (full:=true) (fresh:=cells.all oe) (A:=some ⟨E.w.heap.size,0,none⟩) (cap:=n) (sz:=z.length) (vs:=fun i j=>(hS[i*z.length+j]?).getD undef)
  (fun c hc=>by split at hc<;>(rename_i q;simp only[q];first | exact hc | simpa using hc)) (by omega) (fun _=>ol.symm)
  (fun i row aK=>by
   unfold chunk at aK
   rw[List.getElem?_map] at aK
   cases uB:(List.range n)[i]? with
   | none=>simp[uB] at aK
   | some k=>
    have hi:i<n:=by have:=(List.getElem?_eq_some_iff.1 uB).1;simpa using this
    rw[List.getElem?_range hi] at aK
    simp at aK
    subst aK
    have:i*z.length+z.length≤n*z.length:=by
     calc i*z.length+z.length=(i+1)*z.length:=by rw[Nat.add_mul,Nat.one_mul]
      _≤n*z.length:=Nat.mul_le_mul_right _ (by omega)
    simp;omega)
  (fun _=>⟨E.w.heap.size,0,rfl,by split<;>exact .inr rfl,fun i j hi aN=>by
   rw[ol] at hi
   have:i*z.length+z.length≤n*z.length:=by
    calc i*z.length+z.length=(i+1)*z.length:=by rw[Nat.add_mul,Nat.one_mul]
     _≤n*z.length:=Nat.mul_le_mul_right _ (by omega)
   have Fq:hS.size=n*z.length:=by rw[←hlen,ec.1];simp
   rw[Nat.zero_add]
   have bf:i*z.length+j<hS.size:=by omega
   rw[World.cell?_alloc_new]
   simp[Array.getElem?_eq_getElem bf]⟩)
  (fun i j row a aK aN=>by
   obtain⟨hi,agc,hc⟩:=Ki aK aN
   rw[List.getElem?_map] at hc
   cases uk:cells[i*z.length+j]? with
   | none=>simp[uk] at hc
   | some b=>
    simp[uk] at hc
    subst hc
    obtain⟨u,hu,g6⟩:=ec.get uk
    have EX:jM b=true:=List.all_eq_true.1 hby b (List.mem_of_getElem? uk)
    have ov:=AG EX g6.up
    have nI:(hS[i*z.length+j]?).getD undef=u:=by rw[Array.getElem?_toList] at hu;rw[hu];rfl
    rw[nI]
    by_cases eK:cells.all oe=true
    ·have Xf:oe b=true:=List.all_eq_true.1 eK b (List.mem_of_getElem? uk)
     rw[if_pos eK]
     exact(SQ EX Xf ov).mono (fun c hc=>sC _ _ _ (aS.fe c (aS.e3 c hc))) (fun c hc=>hc.elim) (fun c hc=> .inl hc) (fun c hc=>hc)
    ·rw[if_neg eK]
     exact(Jk EX ov (fun c hc=>hc) aS.e3).mono (fun c hc=>sC _ _ _ (aS.fe c hc)) (fun c hc=>hc.elim) (fun c hc=> .inl hc) (fun c hc=>hc))
 rw[ol] at key
 exact key
def A7 (P:Program) (t:TypeId) (f:Nat):Option Field:=match P.underlying t with
 | some (.struct fz)=>fz.toList[f]?
 | _=>none
theorem Vm {P:Program} {t:TypeId} {f:Nat} {fd:Field} (h:A7 P t f=some fd): ∃fz,P.underlying t=some (.struct fz)∧fz[f]?=some fd:=by
 unfold A7 at h
 split at h
 ·rename_i fz oq;exact⟨fz,oq,by simpa using h⟩
 ·cases h
def Et (P:Program) (t:TypeId) (x:AV) (f:Nat) (K:AV→Prop):Prop:=
 c5 (A7 P t f) fun fd=>if(P.info? fd.type).isSome=true∧P.cellsOf fd.type≠0 then(match x with
  | .fH s c=>K (.fH s (c+fd.offset))
  | .ptr b g r c=>K (.ptr b g r (c+fd.offset))
  | .dA cells c=>K (.dA cells (c+fd.offset))
  | _=>False) else False
theorem abZ {P:Program} {fd:Field} {w:World} {c o:Nat} (hi:(P.info? fd.type).isSome=true) (aP:P.cellsOf fd.type≠0):
  (fieldPlace ⟨c,o,none⟩ fd).run P w= .ok ⟨c,o+fd.offset,none⟩ w:=by
 simp[fieldPlace,run_sizeOf hi,aP,n6]
theorem Vl {P:Program} {t:TypeId} {x:AV} {f:Nat} {K:AV→Prop} {E:Env} {v:Value} (hx:V3 E x v)
  (h:Et P t x f K):
  ∃r u,K r∧(Instr.fieldAt t v f).run P E.w= .ok u E.w∧V3 E r u:=by
 obtain⟨fd,hf,h⟩:=fC h
 obtain⟨fz,hu,Xg⟩:=Vm hf
 split at h
 case isFalse=>exact h.elim
 case isTrue hc=>
 obtain⟨hi,aP⟩:=hc
 have run: ∀bl o,(Instr.fieldAt t (.pointer (some ⟨bl,o,none⟩)) f).run P E.w= .ok (.pointer (some ⟨bl,o+fd.offset,none⟩)) E.w:=by
  intro bl o
  simp[Instr.fieldAt,run_underlying hu,Xg,Instr.sureAddr,abZ hi aP]
 cases x with
 | fH s c=>
  obtain⟨bl,hm,rfl⟩:=hx.zj
  exact⟨_,_,h,run bl c,bl,hm,rfl⟩
 | ptr b g r c=>
  rcases(show fx E (.ptr b g r c) v from hx) with⟨hg,bl,o,rfl⟩ | ⟨hg,bl,hm,rfl⟩
  ·exact⟨_,_,h,run bl o,.inl ⟨hg,_,_,rfl⟩⟩
  ·exact⟨_,_,h,run bl _,.inr ⟨hg,bl,hm,by rw[Nat.add_assoc]⟩⟩
 | dA cells c=>
  have jQ:bH E.w E.PA E.PF (.dA cells c) v:=hx
  cases jQ with
  | @dA _ _ _ _ bl o vs hc fl ec=>
   exact⟨_,_,h,run bl _,by rw[Nat.add_assoc];exact bH.dA hc fl ec⟩
 | _=>exact h.elim
def wV (P:Program) (t:TypeId) (x i:AV) (H:List Blk) (K:AV→Prop):Prop:=
 c5 (jv P t) fun e=>if(P.info? e).isSome=true then(match i with
  | .int _ n=>(match x with
   | .bC rows _ _=>0≤n∧c5 rows[n.toNat]? fun row=>row.length=P.cellsOf e∧K (.dA row 0)
   | .ref b g off m _=>c5 H[b]? fun blk=>blk.bF=g∧blk.sz=P.cellsOf e∧0≤n∧n<m∧K (.ptr b g (off+n.toNat) 0)
   | _=>False)
  | _=>False) else False
theorem Ye {P:Program} {t:TypeId} {x i:AV} {K:AV→Prop} {E:Env} {L kJ:List (Nat×List AV)} {H fg:List Blk} {v zb:Value} (sub:Sub L H kJ fg) (aS:SimH E fg) (hx:V3 E x v) (hi:V3 E i zb)
  (h:wV P t x i H K): ∃r u,K r∧(Instr.indexAt t v zb).run P E.w= .ok u E.w∧V3 E r u:=by
 obtain⟨e,he,h⟩:=fC h
 have hu:=sM he
 split at h
 case isFalse=>exact h.elim
 case isTrue hinf=>
 cases i with
 | int k n=>
  obtain rfl:=hi.r8
  cases x with
  | bC rows full fresh=>
   obtain⟨aT,h⟩:=(show 0≤n∧c5 rows[n.toNat]? fun row=>row.length=P.cellsOf e∧K (.dA row 0) from h)
   obtain⟨row,aK,aL,hK⟩:=fC h
   have bf:n.toNat<rows.length:=(List.getElem?_eq_some_iff.1 aK).1
   have jQ:bH E.w E.PA E.PF (.bC rows full fresh) v:=hx
   cases jQ with
   | @bC _ _ PB _ _ _ A cap sz vs gq gR ht cY fl ec=>
    obtain⟨c,o,rfl,hc,eK⟩:=fl (by omega)
    have y5:=cY _ _ aK
    refine⟨_,.pointer (some ⟨c,o+n.toNat*P.cellsOf e,none⟩),hK,?_,?_⟩
    ·simp only[Instr.indexAt,Sem.run_bind,asIntOf,Sem.run_pure,Result.andThen_ok,run_underlying hu]
     rw[if_pos ⟨aT,by omega⟩]
     simp[run_sizeOf hinf,n6]
    ·show bH _ _ _ _ _
     have:=bH.dA (w:=E.w) (PA:=E.PA) (PF:=E.PF) (cells:=row) (col:=0) (c:=c) (o:=o+n.toNat*P.cellsOf e) (vs:=vs n.toNat)
      (by have:=gq c hc;split at this;exact aS.e3 c this;exact this)
      (fun j aN=>by rw[Nat.add_assoc,←aL,y5];exact eK n.toNat j bf (by omega))
      (fun j a aN=>(ec n.toNat j row a aK aN).mono (fun _ _=>rfl) (fun _ h=>h.elim) (fun d bh=>by
       have:=gq d bh;split at this;exact aS.e3 d this;exact this) (fun _ h=>h))
     simpa using this
  | ref b g off m full=>
   obtain⟨blk,hb,hg,m6,aT,h1,hK⟩:=fC (show c5 H[b]? fun blk=>blk.bF=g∧blk.sz=P.cellsOf e∧0≤n∧n<m∧K (.ptr b g (off+n.toNat) 0) from h)
   have hb:=sub.h b blk hb
   have kr:=aS.fh b blk hb
   rcases(show fx E (.ref b g off m full) v from hx) with⟨b0,_⟩ | ⟨fV,b0⟩
   ·omega
   ·rcases b0 with⟨_,_,wH,_⟩ | ⟨c,cap,hm,rfl,oX,oo,qC⟩
    ·omega
    ·obtain⟨blk',a_,ty,q1,dX,_⟩:=aS.heap b c hm
     obtain rfl:blk=blk':=by rw[hb] at q1;exact Option.some.inj q1
     refine⟨_,.pointer (some ⟨c,(off+n.toNat)*E.sz b+0,none⟩),hK,?_,.inr ⟨fV,c,hm,rfl⟩⟩
     simp only[Instr.indexAt,Sem.run_bind,asIntOf,Sem.run_pure,Result.andThen_ok,run_underlying hu]
     rw[if_pos ⟨aT,h1⟩]
     simp[run_sizeOf hinf,n6,dX,m6,Nat.add_mul]
  | _=>exact h.elim
 | _=>exact h.elim
def FD (P:Program) (t:TypeId) (x i:AV) (K:AV→Prop):Prop:=match x with
 | .str s=>(match i with
  | .int _ n=>(match P.underlying t with
   | some .string=>0≤n∧n<s.size∧K (.int .u8 (s.data.getD n.toNat 0).toNat)
   | _=>False)
  | _=>False)
 | _=>False
theorem Yn {P:Program} {t:TypeId} {x i:AV} {K:AV→Prop} {E:Env} {v zb:Value} (hx:V3 E x v) (hi:V3 E i zb) (h:FD P t x i K):
  ∃r u,K r∧(Instr.index t v zb).run P E.w= .ok u E.w∧V3 E r u:=by
 cases x with
 | str s=>
  cases i with
  | int k n=>
   obtain rfl:=hx.xL
   obtain rfl:=hi.r8
   have h:(match P.underlying t with
    | some .string=>0≤n∧n<s.size∧K (.int .u8 (s.data.getD n.toNat 0).toNat)
    | _=>False):=h
   split at h
   ·rename_i hu
    obtain⟨aT,h1,hK⟩:=h
    refine⟨_,.int .u8 (s.data.getD n.toNat 0).toNat,hK,?_,bH.int _ _⟩
    have bf:n.toNat<s.size:=by omega
    have Ff:n.toNat<s.data.size:=bf
    have:s[n.toNat]?=some (s.data.getD n.toNat 0):=by
     rw[getElem?_pos s n.toNat bf]
     congr 1
     show s.data[n.toNat]=_
     rw[Array.getD_eq_getD_getElem?,Array.getElem?_eq_getElem Ff];rfl
    simp only[Instr.index,Sem.run_bind,asIntOf,Sem.run_pure,Result.andThen_ok,run_underlying hu]
    rw[if_pos aT,this]
    rfl
   ·exact h.elim
  | _=>exact h.elim
 | _=>exact h.elim
def r_ (x:AV) (K:AV→Prop):Prop:=match x with
 | .bC rows _ _=>rows.length≤4611686018427387904→K (.int .i64 rows.length)
 | .str s=>K (.int .i64 s.size)
 | .ref _ _ _ n _=>K (.int .i64 n)
 | _=>False
def kb (P:Program) (t:TypeId) (x:AV):Bool:=match P.underlying t,x with
 | some .string,.str _=>true
 | some (.slice _),.bC _ _ _=>true
 | some (.slice _),.ref _ _ _ _ _=>true
 | _,_=>false
theorem aae {P:Program} {t ty:TypeId} {x:AV} {K:AV→Prop} {E:Env} {v:Value} (hx:V3 E x v)
  (bq:kb P t x=true) (h:r_ x K): ∃r u,K r∧(Builtin.len_ #[t] ty #[v]).run P E.w= .ok u E.w∧V3 E r u:=by
 unfold kb at bq
 split at bq<;>try (cases bq;done)
 ·rename_i s hu
  obtain rfl:=hx.xL
  exact⟨_,_,h,by simp[Builtin.len_,run_underlying hu,goInt],bH.int _ _⟩
 ·rename_i e rows eJ fr hu
  have jQ:bH E.w E.PA E.PF (.bC rows eJ fr) v:=hx
  cases jQ with
  | @bC _ _ PB _ _ _ A cap sz vs gq gR ht cY fl ec=>
   have h:rows.length≤4611686018427387904→K (.int .i64 rows.length):=h
   exact⟨_,_,h gR.2,by simp[Builtin.len_,run_underlying hu,goInt],bH.int _ _⟩
 ·rename_i e b g off n eJ hu
  have h:K (.int .i64 n):=h
  rcases(show fx E (.ref b g off n eJ) v from hx) with⟨_,A,cap,rfl⟩ | ⟨fV,b0⟩
  ·exact⟨_,_,h,by simp[Builtin.len_,run_underlying hu,goInt],bH.int _ _⟩
  ·rcases b0 with⟨_,_,rfl,A,rfl⟩ | ⟨c,cap,hm,rfl,oX,oo,qC⟩
   ·exact⟨_,_,h,by simp[Builtin.len_,run_underlying hu,goInt],bH.int _ _⟩
   ·exact⟨_,_,h,by simp[Builtin.len_,run_underlying hu,goInt],bH.int _ _⟩
def Ep (x:AV) (i:Nat) (K:AV→Prop):Prop:=match x with
 | .tup l=>c5 l[i]? K
 | _=>False
theorem Vg {P:Program} {x:AV} {i:Nat} {K:AV→Prop} {E:Env} {v:Value} (hx:V3 E x v) (h:Ep x i K):
  ∃r u,K r∧(Instr.extract v i).run P E.w= .ok u E.w∧V3 E r u:=by
 cases x with
 | tup l=>
  obtain⟨vs,rfl,aI⟩:=hx
  obtain⟨a,a3,hK⟩:=fC (show c5 l[i]? K from h)
  obtain⟨u,hu,aK⟩:=aI.get a3
  refine⟨a,u,hK,?_,qf aK⟩
  simp[Instr.extract,hu]
 | _=>exact h.elim
def C9 (op:UnOp) (x:AV) (K:AV→Prop):Prop:=match op,x with
 | .not,.bool b=>K (.bool (!b))
 | .neg,.int k n=>K (.int k (k.wrap (0 - n)))
 | _,_=>False
theorem afk {P:Program} {op:UnOp} {x:AV} {K:AV→Prop} {E:Env} {v:Value} (hx:V3 E x v) (h:C9 op x K):
  ∃r u,K r∧(Op.unary op v).run P E.w= .ok u E.w∧V3 E r u:=by
 unfold C9 at h
 split at h
 ·obtain rfl:=hx.rG;exact⟨_,_,h,rfl,bH.bool _⟩
 ·obtain rfl:=hx.r8;exact⟨_,_,h,rfl,bH.int _ _⟩
 ·exact h.elim
def GX (x:AV) (K:AV→Prop):Prop:=match x with
 | .ptr _ _ _ _ | .fH _ _ | .dA _ _=>K x
 | _=>False
def wZ (P:Program) (t:TypeId):Option IntKind:=match P.underlying t with
 | some (.int k)=>some k
 | _=>none
theorem NR {P:Program} {t:TypeId} {k:IntKind} (h:wZ P t=some k):P.underlying t=some (.int k):=by
 unfold wZ at h
 split at h
 ·cases h;assumption
 ·cases h
def D0 (P:Program) (s d:TypeId) (x:AV) (K:AV→Prop):Prop:=match x with
 | .int _ n=>c5 (wZ P s) fun _=>c5 (wZ P d) fun k=>K (.int k (k.wrap n))
 | _=>False
theorem UJ {P:Program} {s d:TypeId} {x:AV} {K:AV→Prop} {E:Env} {v:Value} (hx:V3 E x v) (h:D0 P s d x K):
  ∃r u,K r∧(Go.convert s d v).run P E.w= .ok u E.w∧V3 E r u:=by
 cases x with
 | int a4 n=>
  obtain⟨da,h1,h⟩:=fC (show c5 (wZ P s) _ from h)
  obtain⟨ir,h2,h⟩:=fC h
  obtain rfl:=hx.r8
  refine⟨_,_,h,?_,bH.int _ _⟩
  simp only[Go.convert,Sem.run_bind,run_underlying (NR h1),run_underlying (NR h2),Result.andThen_ok]
  rfl
 | _=>exact h.elim
def mq (x:Option AV) (d:Nat) (K:Nat→Prop):Prop:=match x with
 | none=>K d
 | some (.int _ n)=>0≤n∧K n.toNat
 | some _=>False
def vj (P:Program) (t:TypeId) (x:AV) (lo hi:Option AV) (H:List Blk) (K:AV→Prop):Prop:=match x with
 | .str s=>(match P.underlying t with
  | some .string=>mq lo 0 fun l=>mq hi s.size fun h=>l≤h∧h≤s.size∧K (.str (s.extract l h))
  | _=>False)
 | .bC rows _ fr=>c5 (jv P t) fun e=>if(P.info? e).isSome=true then
   mq lo 0 fun l=>mq hi rows.length fun h=>l≤h∧h≤rows.length∧(∀(i:Nat) (row:List AV),rows[i]?=some row→row.length=P.cellsOf e)∧K (.bC ((rows.drop l).take (h - l)) false fr) else False
 | .ref b g off n _=>c5 (jv P t) fun e=>if(P.info? e).isSome=true then
   c5 H[b]? fun blk=>blk.bF=g∧blk.sz=P.cellsOf e∧mq lo 0 fun l=>mq hi n fun h=>l≤h∧h≤n∧(l<h→K (.ref b g (off+l) (h - l) false))∧(l=h→K (.bC [] false true)) else False
 | _=>False
def An (E:Env) (x:Option AV) (v:Option Value):Prop:=match x,v with
  | none,none=>True
  | some a,some u=>V3 E a u
  | _,_=>False
theorem vT {x:Option AV} {d:Nat} {K:Nat→Prop} {E:Env} {v:Option Value} (hx:An E x v) (h:mq x d K): ∃n,K n∧((v=none∧n=d)∨ ∃k,v=some (.int k n)):=by
 cases x with
 | none=>
  cases v with
  | none=>exact⟨d,h,.inl ⟨rfl,rfl⟩⟩
  | some u=>exact hx.elim
 | some a=>
  cases v with
  | none=>exact hx.elim
  | some u=>
   cases a with
   | int k n=>
    obtain⟨aT,h⟩:=(show 0≤n∧K n.toNat from h)
    obtain rfl:=V3.r8 hx
    exact⟨n.toNat,h,.inr ⟨k,by rw[Int.toNat_of_nonneg aT]⟩⟩
   | _=>exact h.elim
theorem HJ {P:Program} {w:World} {isS:Bool} {len cap l h:Nat} {lo hi:Option Value} (aL:(lo=none∧l=0)∨ ∃k,lo=some (.int k l)) (b0:(hi=none∧h=len)∨ ∃k,hi=some (.int k h))
  (h1:l≤h) (h2:h≤cap):(Instr.sliceBounds isS len cap lo hi none).run P w= .ok (l,h,cap) w:=by
 rcases aL with⟨rfl,rfl⟩ | ⟨l8,rfl⟩<;>rcases b0 with⟨rfl,rfl⟩ | ⟨NU,rfl⟩
 ·simp[Instr.sliceBounds]
 ·simp[Instr.sliceBounds,run_sliceBound (P:=P) w NU (h:Int) cap _ (by omega) (by omega)]
 ·simp[Instr.sliceBounds,run_sliceBound (P:=P) w l8 (l:Int) _ _ (by omega) (show(l:Int)≤((_:Nat):Int) by exact Int.ofNat_le.2 h1)]
 ·simp[Instr.sliceBounds,run_sliceBound (P:=P) w NU (h:Int) cap _ (by omega) (by omega),run_sliceBound (P:=P) w l8 (l:Int) h _ (by omega) (by omega)]
theorem acj {P:Program} {t:TypeId} {x:AV} {lo hi:Option AV} {K:AV→Prop} {E:Env} {L kJ:List (Nat×List AV)} {H fg:List Blk} {v:Value} {Jo Jn:Option Value} (sub:Sub L H kJ fg) (aS:SimH E fg) (hx:V3 E x v)
  (Fe:An E lo Jo) (E7:An E hi Jn)
  (h:vj P t x lo hi H K): ∃r u,K r∧(Instr.sliceAt t v Jo Jn none).run P E.w= .ok u E.w∧V3 E r u:=by
 cases x with
 | str s=>
  obtain rfl:=hx.xL
  have h:(match P.underlying t with
   | some .string=>mq lo 0 fun l=>mq hi s.size fun h=>l≤h∧h≤s.size∧K (.str (s.extract l h))
   | _=>False):=h
  split at h
  ·rename_i hu
   obtain⟨l,h,aL⟩:=vT Fe h
   obtain⟨q,⟨h1,h2,hK⟩,ak⟩:=vT E7 h
   refine⟨_,.string (s.extract l q),hK,?_,bH.str _⟩
   rw[run_sliceAt_string E.w t _ _ _ _ hu]
   simp only[Instr.slice,Sem.run_bind,run_underlying hu,Result.andThen_ok]
   simp only[Option.isSome_none,Bool.false_eq_true,if_false]
   simp only[Sem.run_bind,HJ (P:=P) (w:=E.w) (isS:=false) aL ak h1 h2,Result.andThen_ok]
   rfl
  ·exact h.elim
 | bC rows full fr=>
  obtain⟨e,he,h⟩:=fC (show c5 (jv P t) fun e=>if(P.info? e).isSome=true then
   mq lo 0 fun l=>mq hi rows.length fun h=>l≤h∧h≤rows.length∧(∀(i:Nat) (row:List AV),rows[i]?=some row→row.length=P.cellsOf e)∧K (.bC ((rows.drop l).take (h - l)) false fr) else False from h)
  have hu:=sM he
  split at h
  case isFalse=>exact h.elim
  case isTrue hinf=>
  obtain⟨l,h,aL⟩:=vT Fe h
  obtain⟨q,⟨h1,h2,lC,hK⟩,ak⟩:=vT E7 h
  have jQ:bH E.w E.PA E.PF (.bC rows full fr) v:=hx
  cases jQ with
  | @bC _ _ PB _ _ _ A cap sz vs gq gR ht cY fl ec=>
   have uo:P.elem t=e:=by simp[Program.elem,hu]
   have nI:P.underlying t=some (.slice (P.elem t)):=by rw[uo];exact hu
   have hlen:((rows.drop l).take (q - l)).length=q - l:=by simp;omega
   refine⟨_,sliced A l q cap (P.cellsOf e),hK,?_,?_⟩
   ·rw[run_sliceAt_slice E.w t _ _ _ _ nI,run_slice_any E.w t A rows.length cap nI,HJ (P:=P) (w:=E.w) aL ak h1 (by omega)]
    simp only[Result.andThen_ok,uo,run_sizeOf hinf]
   ·show bH E.w E.PA E.PF _ (.slice _ (q - l) (cap - l))
    have key:=bH.bC (w:=E.w) (PA:=E.PA) (PF:=E.PF) (PB:=PB) (rows:=(rows.drop l).take (q - l)) (full:=false) (fresh:=fr) (A:=if cap=l then A else A.map (·.add (l*P.cellsOf e))) (cap:=cap - l) (sz:=sz) (vs:=fun i j=>vs (l+i) j)
     gq (by rw[hlen];omega) (fun h=>by cases h)
     (fun i row aK=>by
      rw[List.getElem?_take] at aK
      split at aK
      ·rw[List.getElem?_drop] at aK;exact cY _ _ aK
      ·cases aK)
     (fun aG=>by
      rw[hlen] at aG
      obtain⟨c,o,rfl,hc,eK⟩:=fl (by omega)
      have XY:sz=P.cellsOf e:=by
       have bf:l<rows.length:=by omega
       rw[←cY l _ (List.getElem?_eq_getElem bf)];exact lC l _ (List.getElem?_eq_getElem bf)
      refine⟨c,o+l*P.cellsOf e,by rw[if_neg (by omega)];simp[n6],hc,fun i j hi aN=> ?_⟩
      rw[hlen] at hi
      have:=eK (l+i) j (by omega) aN
      rw[←this,XY]
      congr 2
      rw[Nat.add_mul];omega)
     (fun i j row a aK aN=>by
      rw[List.getElem?_take] at aK
      split at aK
      ·rw[List.getElem?_drop] at aK;exact ec _ _ _ _ aK aN
      ·cases aK)
    rw[hlen] at key
    exact key
 | ref b g off n full=>
  obtain⟨e,he,h⟩:=fC (show c5 (jv P t) fun e=>if(P.info? e).isSome=true then
   c5 H[b]? fun blk=>blk.bF=g∧blk.sz=P.cellsOf e∧mq lo 0 fun l=>mq hi n fun h=>l≤h∧h≤n∧(l<h→K (.ref b g (off+l) (h - l) false))∧(l=h→K (.bC [] false true)) else False from h)
  have hu:=sM he
  split at h
  case isFalse=>exact h.elim
  case isTrue hinf=>
  obtain⟨blk,hb,hg,m6,h⟩:=fC h
  obtain⟨l,h,aL⟩:=vT Fe h
  obtain⟨q,⟨h1,h2,WR,Lz⟩,ak⟩:=vT E7 h
  have hb:=sub.h b blk hb
  have kr:=aS.fh b blk hb
  have uo:P.elem t=e:=by simp[Program.elem,hu]
  have nI:P.underlying t=some (.slice (P.elem t)):=by rw[uo];exact hu
  have run: ∀A cap,n≤cap→(Instr.sliceAt t (.slice A n cap) Jo Jn none).run P E.w= .ok (sliced A l q cap (P.cellsOf e)) E.w:=by
   intro A cap hc
   rw[run_sliceAt_slice E.w t _ _ _ _ nI,run_slice_any E.w t A n cap nI,HJ (P:=P) (w:=E.w) aL ak h1 (by omega)]
   simp only[Result.andThen_ok,uo,run_sizeOf hinf]
  have empty: ∀A cap,l=q→V3 E (.bC [] false true) (sliced A l q cap (P.cellsOf e)):=by
   intro A cap uw
   subst uw
   show bH E.w E.PA E.PF _ (.slice _ (l - l) (cap - l))
   rw[Nat.sub_self]
   exact bH.bC (PB:=fun _=>False) (sz:=0) (vs:=fun _ _=>undef) (fun _ h=>h.elim) ⟨Nat.zero_le _,Nat.zero_le _⟩ (fun h=>by cases h) (fun i row h=>by simp at h) (fun h=>by simp at h) (fun i j row a h=>by simp at h)
  rcases(show fx E (.ref b g off n full) v from hx) with⟨b0,_⟩ | ⟨fV,b0⟩
  ·omega
  ·rcases b0 with⟨_,_,rfl,A,rfl⟩ | ⟨c,cap,hm,rfl,oX,oo,qC⟩
   ·have uw:l=q:=by omega
    exact⟨_,_,Lz uw,run A 0 (Nat.le_refl _),empty _ _ uw⟩
   ·rcases Nat.lt_or_ge l q with bf | Bq
    ·refine⟨_,_,WR bf,run _ cap oX,.inr ⟨fV,.inr ⟨c,cap - l,hm,?_,by omega,(fun h=>by cases h),by omega⟩⟩⟩
     obtain⟨blk',a_,ty,q1,dX,_⟩:=aS.heap b c hm
     obtain rfl:blk=blk':=by rw[hb] at q1;exact Option.some.inj q1
     simp only[sliced,if_neg (show ¬cap=l by omega),Option.map_some,n6,dX,m6,Nat.add_mul]
    ·have uw:l=q:=by omega
     exact⟨_,_,Lz uw,run _ cap oX,empty _ _ uw⟩
 | _=>exact h.elim
def uX (P:Program) (f:FuncId):Bool:=match P.funcs[f]? with
 | some fn=> !(fn.name== "runtime.NumGoroutine")&&fn.body.isSome
 | none=>false
def dH (P:Program) (f:FuncId) (args:List AV) (H:List Blk) (Q:AV→List Blk→Prop):Prop:=
 uX P f=true∧ ∀(E:Env) (vs:List Value),(∀t,E.mL t=none)→SimH E H→aD (V2 E) args vs→
  Calls P f vs.toArray E.w fun e w'=> ∃r v H' E',e= .returned v∧Q r H'∧E'.w=w'∧(∀t,E'.mL t=none)∧SimH E' H'∧V3 E' r v∧Step E E'
theorem dH.mono {P:Program} {f:FuncId} {args:List AV} {H:List Blk} {Q vI:AV→List Blk→Prop} (h:dH P f args H Q) (ak: ∀r H',Q r H'→vI r H'):dH P f args H vI:=
 ⟨h.1,fun E vs a b c=>(h.2 E vs a b c).mono fun e w' ⟨r,v,H',E',h1,h2,aO⟩=>⟨r,v,H',E',h1,ak _ _ h2,aO⟩⟩
def zo:AV→Bool
 | .fH _ _ | .agg _ | .tup _=>false
 | _=>true
def w8:AV→Bool
 | .fn _ caps=>caps.all zo
 | a=>zo a
def kc:AV→Bool
 | .agg cells=>cells.all w8
 | a=>w8 a
def w9:AV→Bool
 | .tup l=>l.all kc
 | a=>kc a
theorem fx.ca {E:Env} {a:AV} {v:Value} (h:zo a=true) (hv:fx E a v):fx E.ca a v:=by
 cases a<;>first | exact hv | cases h
theorem cM.ca {E:Env} {a:AV} {v:Value} (h:w8 a=true) (hv:cM E a v):cM E.ca a v:=by
 by_cases hf: ∃f caps,a= .fn f caps
 ·obtain⟨f,caps,rfl⟩:=hf
  obtain⟨vs,e,aI⟩:=hv
  exact⟨vs,e,aI.1,fun i x y hx bm=>(aI.2 i x y hx bm).ca (List.all_eq_true.1 (show caps.all zo=true from h) x (List.mem_of_getElem? hx))⟩
 ·have aT:w8 a=zo a:=by cases a<;>first | rfl | exact absurd ⟨_,_,rfl⟩ hf
  rw[rD fun f c e=>hf ⟨f,c,e⟩] at hv ⊢
  exact hv.ca (aT▸h)
theorem V2.ca {E:Env} {a:AV} {v:Value} (h:kc a=true) (hv:V2 E a v):V2 E.ca a v:=by
 by_cases hf: ∃l,a= .agg l
 ·obtain⟨l,rfl⟩:=hf
  obtain⟨vs,e,aI⟩:=hv
  exact⟨vs,e,aI.1,fun i x y hx bm=>(aI.2 i x y hx bm).ca (List.all_eq_true.1 (show l.all w8=true from h) x (List.mem_of_getElem? hx))⟩
 ·have aT:kc a=w8 a:=by cases a<;>first | rfl | exact absurd ⟨_,rfl⟩ hf
  rw[pr fun l e=>hf ⟨l,e⟩] at hv ⊢
  exact hv.ca (aT▸h)
theorem V3.ca {E:Env} {a:AV} {v:Value} (h:w9 a=true) (hv:V3 E a v):V3 E.ca a v:=by
 by_cases hf: ∃l,a= .tup l
 ·obtain⟨l,rfl⟩:=hf
  obtain⟨vs,e,aI⟩:=hv
  exact⟨vs,e,aI.1,fun i x y hx bm=>(aI.2 i x y hx bm).ca (List.all_eq_true.1 (show l.all kc=true from h) x (List.mem_of_getElem? hx))⟩
 ·have aT:w9 a=kc a:=by cases a<;>first | rfl | exact absurd ⟨_,rfl⟩ hf
  rw[oL fun l e=>hf ⟨l,e⟩] at hv ⊢
  exact hv.ca (aT▸h)
theorem SimH.ca {E:Env} {H:List Blk} (h:SimH E H):SimH E.ca H:=
 {h with
  jS:=fun t jZ c hm=>by cases hm
  gU:=fun b t c _ hm=>by cases hm
  iv:=fun c _ ⟨t,hm⟩=>by cases hm
  g9:=fun c ⟨t,hm⟩=>by cases hm}
theorem Good.toStep [cL] {cz E:Env} (h:Good cz E):Step cz E.ca:=
 ⟨⟨h.le.fM,h.le.fN,h.le.tG,h.le.wf,h.le.bF,h.le.m,fun t c hm=>by rw[h.ca t] at hm;cases hm⟩,h.os,h.tape,h.output,h.size,fun c hc h1 _=>h.fi c hc h1,h.jx,(fun c ⟨t,hm⟩=>by cases hm),h.fM,h.fN⟩
def q9 (P:Program) (aJ:St):List ResultVar→(List AV→Prop)→Prop
 | [],K=>K []
 | .tmp t::rs,K=>q9 P aJ rs fun l=>K (aJ.T.getD t .undef::l)
 | .cell a t::rs,K=>oZ P t (aJ.T.getD a .undef) aJ.L aJ.H fun x=>q9 P aJ rs fun l=>K (x::l)
def sv:List AV→AV
 | [x]=>x
 | l=> .tup l
def tr (P:Program) (fn:Func) (aJ:St) (Q:AV→List Blk→Prop):Prop:=q9 P aJ fn.results.toList fun l=>l.all kc=true∧Q (sv l) aJ.H
theorem TG {E:Env} {P:Program} {t:TypeId} {x:AV} {L:List (Nat×List AV)} {H:List Blk} {K:AV→Prop} {v:Value} (aS:SimH E H) (b1:SimL E L) (hx:V3 E x v) (h:oZ P t x L H K):
  ∃a e_,K a∧(do loadVar t (←asAddr v):Sem Value).run P E.w= .ok e_ E.w∧V2 E a e_:=by
 obtain⟨a,e_,hK,aK,hv⟩:=Oe (Sub.refl L H) aS b1 hx h
 refine⟨a,e_,hK,?_,hv⟩
 have: ∃lU,v= .pointer (some lU):=by
  cases x with
  | fH s c=>obtain⟨bl,_,rfl⟩:=hx.zj;exact⟨_,rfl⟩
  | ptr b g r c=>
   rcases(show fx E (.ptr b g r c) v from hx) with⟨_,bl,o,rfl⟩ | ⟨_,bl,_,rfl⟩<;>exact⟨_,rfl⟩
  | dA cells c=>
   have jQ:bH E.w E.PA E.PF (.dA cells c) v:=hx
   cases jQ;exact⟨_,rfl⟩
  | _=>exact h.elim
 obtain⟨lU,rfl⟩:=this
 simpa[Instr.loadAt,Instr.sureAddr,asAddr] using aK
theorem HD {P:Program} {aJ:St} {E:Env} {tmps:Array Value} (hs:tO E aJ tmps) {f:ResultVar→Sem Value} (f1: ∀t,f (.tmp t)=pure (tmps.getD t undef))
  (f2: ∀a t,f (.cell a t)=do loadVar t (←asAddr (tmps.getD a undef))): ∀(rs:List ResultVar) (K:List AV→Prop),q9 P aJ rs K→
  ∃l vs,K l∧(rs.mapM f).run P E.w= .ok vs E.w∧aD (V3 E) l vs
 | [],K,h=>⟨[],[],h,rfl,aD.nil⟩
 | .tmp t::rs,K,h=>by
  obtain⟨l,vs,hK,aK,aI⟩:=HD hs f1 f2 rs _ h
  exact⟨_,_,hK,by simp only[List.mapM_cons,f1,Sem.run_bind,Sem.run_pure,Result.andThen_ok,aK],aD.cons (hs.iA t) aI⟩
 | .cell a t::rs,K,h=>by
  obtain⟨x,e_,h2,BG,hv⟩:=TG hs.h hs.l (hs.iA a) h
  obtain⟨l,vs,hK,aK,aI⟩:=HD hs f1 f2 rs _ h2
  refine⟨_,_,hK,?_,aD.cons (qf hv) aI⟩
  simp only[List.mapM_cons,f2]
  rw[Sem.run_bind,BG]
  simp only[Result.andThen_ok,Sem.run_bind,aK,Sem.run_pure]
theorem abO (fn:Func) (tmps:Array Value): ∃f:ResultVar→Sem Value,results fn tmps=(fn.results.mapM f>>=fun vs=>pure (if h:vs.size=1 then vs[0] else .tuple vs))∧(∀t,f (.tmp t)=pure (tmps.getD t undef))∧
  ∀b t,f (.cell b t)=(asAddr (tmps.getD b undef)>>=fun a=>loadVar t a):=⟨_,rfl,fun _=>rfl,fun _ _=>rfl⟩
def tM (P:Program) (fn:Func) (Q:AV→List Blk→Prop) (ex:Exit) (aJ:St):Prop:=match ex with
 | .normal | .ret=>tr P fn aJ Q
 | _=>False
def za (fn:Func) (args:List AV) (H:List Blk):St:=⟨args++List.replicate (fn.ntmps - args.length) .undef,[],H⟩
theorem Tv {E:Env} {a:AV} {v:Value} (h:kc a=true) (hv:V3 E a v) (bq: ∀l,a≠ .tup l):V2 E.ca a v:=by
 rw[oL bq] at hv;exact hv.ca h
theorem dH.G3 {P:Program} {f:FuncId} {fn:Func} {c:Code} {args:List AV} {H:List Blk} {Q:AV→List Blk→Prop} (hf:P.funcs[f]?=some fn) (hb:fn.body=some c) (aG:(fn.name== "runtime.NumGoroutine")=false)
  (h: ∀iX:cL,iX.n=H.length→WpS P c (tM P fn Q) (za fn args H)):dH P f args H Q:=by
 refine⟨by simp[uX,hf,hb,aG],?_⟩
 intro E vs aG aS aI
 letI:cL:=⟨H.length⟩
 refine calls_of_wp hf hb (wp_mono (h ⟨H.length⟩ rfl E E {tmps:=vs.toArray++Array.replicate (fn.ntmps - vs.toArray.size) undef,defers:=[]} (Good.refl aS.fresh aG) ⟨aS,(fun t c hm=>by rw[aG t] at hm;cases hm),fun t=> ?_,?_⟩ rfl) ?_)
 ·show V3 E ((args++List.replicate (fn.ntmps - args.length) AV.undef).getD t AV.undef) _
  rcases Nat.lt_or_ge t args.length with bf | fV
  ·have h1:args[t]?=some args[t]:=List.getElem?_eq_getElem bf
   obtain⟨v,hv,aK⟩:=aI.get h1
   have Ff:t<vs.length:=aI.1▸bf
   have br:(args++List.replicate (fn.ntmps - args.length) AV.undef).getD t .undef=args[t]:=by
    rw[List.getD_eq_getElem?_getD,List.getElem?_append_left bf,h1];rfl
   have e2:(vs.toArray++Array.replicate (fn.ntmps - vs.toArray.size) undef).getD t undef=v:=by
    rw[Array.getD_eq_getD_getElem?,Array.getElem?_append_left (by simpa using Ff)]
    simp[hv]
   rw[br,e2];exact qf aK
  ·have br:(args++List.replicate (fn.ntmps - args.length) AV.undef).getD t .undef= .undef:=by
    rw[List.getD_eq_getElem?_getD,List.getElem?_append_right fV,List.getElem?_replicate];split<;>rfl
   rw[br];exact V3.undef _ _
 ·simp[za,aI.1]
 ·rintro e a w ⟨hex,aJ,E',ak,hw,hg,hs,bh⟩
  have fin:tr P fn aJ Q→a.defers=[]∧ ∃v,(results fn a.tmps).run P w= .ok v w∧ ∃r SX H' E',(Ending.returned v)= .returned SX∧Q r H'∧E'.w=w∧(∀t,E'.mL t=none)∧SimH E' H'∧V3 E' r SX∧Step E E':=by
   intro Fm
   refine⟨bh,?_⟩
   subst hw
   have hm: ∀f:ResultVar→Sem Value,(∀t,f (.tmp t)=pure (a.tmps.getD t undef))→(∀b t,f (.cell b t)=do loadVar t (←asAddr (a.tmps.getD b undef)))→ ∃l kE,(l.all kc=true∧Q (sv l) aJ.H)∧(fn.results.mapM f).run P E'.w= .ok (List.toArray kE) E'.w∧aD (V3 E') l kE:=by
    intro f f1 f2
    obtain⟨l,kE,h1,aK,h2⟩:=HD hs f1 f2 _ _ Fm
    exact⟨l,kE,h1,by rw[Array.mapM_eq_mapM_toList,Sem.run_map,aK];rfl,h2⟩
   obtain⟨f,Xd,Xe,hf2⟩:=abO fn a.tmps
   obtain⟨l,kE,⟨L7,WT⟩,aK,wM⟩:=hm f Xe hf2
   refine⟨if h:kE.toArray.size=1 then kE.toArray[0] else .tuple kE.toArray,?_,sv l,_,aJ.H,E'.ca,rfl,WT,rfl,fun _=>rfl,hs.h.ca,?_,hg.toStep⟩
   ·rw[Xd,Sem.run_bind,aK];rfl
   ·cases l with
    | nil=>
     obtain rfl:=wM.w7
     exact⟨[],rfl,aD.nil⟩
    | cons x l=>
     obtain⟨u,agu,rfl,hx,Mg⟩:=wM.cons_inv
     cases l with
     | nil=>
      obtain rfl:=Mg.w7
      show V3 E'.ca x u
      have mz:kc x=true:=by simpa using L7
      exact hx.ca (by cases x<;>first | exact mz | (cases mz))
     | cons y l=>
      obtain⟨z,afm,rfl,bm,agh⟩:=Mg.cons_inv
      have cY: ¬(List.toArray (u::z::afm)).size=1:=by simp
      rw[dif_neg cY]
      refine⟨_,rfl,?_⟩
      refine⟨wM.1,fun i p q Mf XR=> ?_⟩
      have hv:=wM.2 i p q Mf XR
      have mz:kc p=true:=List.all_eq_true.1 L7 p (List.mem_of_getElem? Mf)
      have bq: ∀l,p≠ .tup l:=by
       intro l e;subst e;cases mz
      exact Tv mz hv bq
  cases e with
  | normal=>exact fin ak
  | ret=>exact fin ak
  | exit id=>exact ak.elim
  | _=>cases hex
inductive gd (L:List (Nat×List AV)) (H:List Blk):AV→AV→Prop where
 | undef (a:AV):gd L H a .undef
 | int (k:IntKind) (n:Int):gd L H (.int k n) (.int k n)
 | bool (b:Bool):gd L H (.bool b) (.bool b)
 | str (s:ByteArray):gd L H (.str s) (.str s)
 | gj:gd L H .gj .gj
 | gE:gd L H .gE .gE
 | bC (rows:List (List AV)) (full fr eJ:Bool) (hw:eJ=true→full=true):gd L H (.bC rows full fr) (.bC rows eJ false)
 | dA (cells:List AV) (c:Nat):gd L H (.dA cells c) (.dA cells c)
 | fH {t c:Nat} {cells g2:List AV} (h:e0 L t=some cells) (aL:cells.length=g2.length)
   (aK: ∀(j:Nat) (a b:AV),cells[j]?=some a→g2[j]?=some b→gd L H a b):gd L H (.fH t c) (.dA g2 c)
 | ptr {b g r c:Nat} {blk:Blk} {row row':List AV} (hb:H[b]?=some blk) (hg:blk.bF=g) (e1:blk.rows[r]?=some row) (aL:row.length=row'.length)
   (aK: ∀(j:Nat) (a b:AV),row[j]?=some a→row'[j]?=some b→gd L H a b):gd L H (.ptr b g r c) (.dA row' c)
 | ref {b g off n:Nat} {full eJ:Bool} {blk:Blk} {iK:List (List AV)} (hw:eJ=true→full=true) (hb:H[b]?=some blk) (hg:blk.bF=g) (aG:iK.length=n) (g5:n≤4611686018427387904) (aC:off+n≤blk.rows.length)
   (aL: ∀(i:Nat) (row row':List AV),blk.rows[off+i]?=some row→iK[i]?=some row'→row.length=row'.length)
   (aK: ∀(i j:Nat) (row row':List AV) (a c:AV),blk.rows[off+i]?=some row→iK[i]?=some row'→row[j]?=some a→row'[j]?=some c→gd L H a c):
   gd L H (.ref b g off n full) (.bC iK eJ false)
 | fn {f:FuncId} {caps yj:List AV} (aL:caps.length=yj.length) (aK: ∀(j:Nat) (a b:AV),caps[j]?=some a→yj[j]?=some b→gd L H a b):gd L H (.fn f caps) (.fn f yj)
def dc (L:List (Nat×List AV)) (H:List Blk) (a b:AV):Prop:=
 (∃l fu,a= .agg l∧b= .agg fu∧aD (gd L H) l fu)∨gd L H a b
def Env.frozen (E:Env):Env:={w:=E.w,PA:=fun c=>E.PA c∨E.gT c∨E.kQ c,PF:=fun _=>False,m:=fun _=>none,bF:=fun _=>0,sz:=fun _=>0,cp:=fun _=>0,mL:=fun _=>none}
theorem Lg {E:Env} {H:List Blk} (h:SimH E H):SimH E.frozen [] where
 heap:=fun b c hb=>by cases hb
 fh:=fun b blk hb=>by simp at hb
 hz:=fun b hb=>by cases hb
 fresh:=fun b _=>⟨rfl,rfl⟩
 h0:=fun b cn c hb=>by cases hb
 jS:=fun t jZ c hb=>by cases hb
 gU:=fun b t c hb=>by cases hb
 h3:=fun c _ ⟨b,hb⟩=>by cases hb
 iv:=fun c _ ⟨b,hb⟩=>by cases hb
 e3:=fun c hc=>hc.elim
 fe:=fun c hc=>hc.elim (h.fe c) fun hc=>hc.elim (h.gD c) (h.g9 c)
 gD:=fun c ⟨b,hb⟩=>by cases hb
 g9:=fun c ⟨b,hb⟩=>by cases hb
theorem Dp {E:Env} {a:AV} {v:Value} (h:fx E a v):cM E a v:=by
 by_cases hf: ∃f caps,a= .fn f caps
 ·obtain⟨f,caps,rfl⟩:=hf
  exact bH.v1 h
 ·rw[rD fun f c e=>hf ⟨f,c,e⟩];exact h
theorem QA {L kJ:List (Nat×List AV)} {H fg:List Blk} {E:Env} (sub:Sub L H kJ fg) (aS:SimH E fg) (b1:SimL E kJ) {a b:AV} (h:gd L H a b):
  ∀{v:Value},cM E a v→bH E.w (fun c=>E.PA c∨E.gT c∨E.kQ c) (fun _=>False) b v:=by
 induction h with
 | undef a=>intro v _;exact .undef v
 | int k n=>intro v hv;have hv:bH E.w E.PA E.PF (.int k n) v:=hv;cases hv;exact .int _ _
 | bool k=>intro v hv;have hv:bH E.w E.PA E.PF (.bool k) v:=hv;cases hv;exact .bool _
 | str k=>intro v hv;have hv:bH E.w E.PA E.PF (.str k) v:=hv;cases hv;exact .str _
 | gj=>intro v hv;have hv:bH E.w E.PA E.PF .gj v:=hv;cases hv;exact .gj
 | gE=>intro v hv;have hv:bH E.w E.PA E.PF .gE v:=hv;cases hv;exact .gE
 | bC rows full fr eJ hw=>
  intro v hv
  have hv:bH E.w E.PA E.PF (.bC rows full fr) v:=hv
  cases hv with
  | bC gq gR ht cY fl ec=>
   exact .bC (fun c hc=>by
    have:=gq c hc
    simp only[Bool.false_eq_true,if_false]
    split at this
    ·exact .inl (aS.e3 c this)
    ·exact .inl this) gR (fun h=>ht (hw h)) cY fl ec
 | dA cells c=>
  intro v hv
  have hv:bH E.w E.PA E.PF (.dA cells c) v:=hv
  cases hv with
  | dA hc fl ec=>exact .dA (.inl hc) fl fun j a aN=>(ec j a aN).mono (fun _ _=>rfl) (fun _ h=>h.elim) (fun c hc=> .inl hc) (fun _ h=>h)
 | @fH t c cells g2 hg aL aK bQ=>
  intro v hv
  obtain⟨bl,hm,rfl⟩:=(show ∃bl,E.mL t=some bl∧v= .pointer (some ⟨bl,c,none⟩) from hv)
  obtain⟨AH,a_,ty,yP,hw,aI⟩:=b1 t bl hm
  obtain rfl:cells=AH:=by have:=sub.l _ _ hg;rw[yP] at this;exact(Option.some.inj this).symm
  have key:=bH.dA (w:=E.w) (PA:=fun c=>E.PA c∨E.gT c∨E.kQ c) (PF:=fun _=>False) (cells:=g2) (col:=c) (c:=bl) (o:=0) (vs:=fun j=>(a_[j]?).getD undef)
   (.inr (.inr ⟨t,hm⟩))
   (fun j aN=>by
    have bf:j<a_.size:=by have:=aI.1;simp at this;omega
    rw[Nat.zero_add]
    rw[cell_of hw (Array.getElem?_eq_getElem bf)]
    simp[Array.getElem?_eq_getElem bf])
   (fun j b aN=>by
    have bf:j<cells.length:=by have:=(List.getElem?_eq_some_iff.1 aN).1;omega
    obtain⟨u,hu,g6⟩:=aI.get (List.getElem?_eq_getElem bf)
    have:(a_[j]?).getD undef=u:=by rw[Array.getElem?_toList] at hu;rw[hu];rfl
    rw[this]
    exact bQ j _ b (List.getElem?_eq_getElem bf) aN g6.up)
  rw[Nat.zero_add] at key
  exact key
 | @ptr b g r c blk row row' hb hg e1 aL aK bQ=>
  intro v hv
  have hb:=sub.h b blk hb
  have kr:=aS.fh b blk hb
  obtain⟨bl,hm,rfl⟩:=V3.Cu (E:=E) (v:=v) (show V3 E (.ptr b g r c) v from hv) (kr.trans hg)
  obtain⟨blk',a_,ty,q1,dX,hw,mw,hlen,gB⟩:=aS.heap b bl hm
  obtain rfl:blk=blk':=by rw[hb] at q1;exact Option.some.inj q1
  exact bH.dA (vs:=fun j=>(a_[r*E.sz b+j]?).getD undef) (.inr (.inl ⟨b,hm⟩))
   (fun j aN=>by
    have bf:j<row.length:=by omega
    obtain⟨u,hu,_⟩:=gB.2 r j row _ e1 (List.getElem?_eq_getElem bf)
    rw[cell_of hw hu,hu];rfl)
   (fun j dl aN=>by
    have bf:j<row.length:=by have:=(List.getElem?_eq_some_iff.1 aN).1;omega
    obtain⟨u,hu,g6⟩:=gB.2 r j row _ e1 (List.getElem?_eq_getElem bf)
    rw[hu]
    exact bQ j _ dl (List.getElem?_eq_getElem bf) aN g6.up)
 | @ref b g off n full eJ blk iK Fv hb hg aG g5 aC aL aK bQ=>
  intro v hv
  have hb:=sub.h b blk hb
  have kr:=aS.fh b blk hb
  rcases(show fx E (.ref b g off n full) v from hv) with⟨b0,_⟩ | ⟨fV,b0⟩
  ·omega
  ·rcases b0 with⟨_,_,my,A,rfl⟩ | ⟨c,cap,hm,rfl,oX,oo,qC⟩
   ·subst my
    obtain rfl:iK=[]:=List.eq_nil_of_length_eq_zero aG
    exact bH.bC (rows:=[]) (PB:=fun _=>False) (sz:=0) (vs:=fun _ _=>undef) (fun _ h=>h.elim) ⟨Nat.le_refl _,Nat.zero_le _⟩ (fun _=>rfl) (fun i row h=>by simp at h) (fun h=>by simp at h) (fun i j row a h=>by simp at h)
   ·obtain⟨blk',a_,ty,q1,dX,hw,mw,hlen,gB⟩:=aS.heap b c hm
    obtain rfl:blk=blk':=by rw[hb] at q1;exact Option.some.inj q1
    subst aG
    have e1: ∀i,i<iK.length→ ∃row,blk.rows[off+i]?=some row:=fun i hi=>⟨_,List.getElem?_eq_getElem (by omega)⟩
    refine bH.bC (PB:=fun c=>E.PA c∨E.gT c∨E.kQ c) (sz:=E.sz b) (vs:=fun i j=>(a_[(off+i)*E.sz b+j]?).getD undef) (fun c hc=>by simpa using hc) ⟨oX,g5⟩ (fun h=>oo (Fv h))
     (fun i row' fb=> ?_) (fun lB=>⟨c,off*E.sz b,rfl,.inr (.inl ⟨b,hm⟩),fun i j hi aN=> ?_⟩) (fun i j row' a fb aN=> ?_)
    ·obtain⟨row,ib⟩:=e1 i (List.getElem?_eq_some_iff.1 fb).1
     rw[←aL i row row' ib fb];exact gB.1 _ row ib
    ·obtain⟨row,ib⟩:=e1 i hi
     have bf:j<row.length:=by rw[gB.1 _ row ib];exact aN
     obtain⟨u,hu,_⟩:=gB.2 (off+i) j row _ ib (List.getElem?_eq_getElem bf)
     rw[show off*E.sz b+(i*E.sz b+j)=(off+i)*E.sz b+j by rw[Nat.add_mul];omega,cell_of hw hu,hu];rfl
    ·obtain⟨row,ib⟩:=e1 i (List.getElem?_eq_some_iff.1 fb).1
     have bf:j<row.length:=by rw[aL i row row' ib fb];exact(List.getElem?_eq_some_iff.1 aN).1
     obtain⟨u,hu,g6⟩:=gB.2 (off+i) j row _ ib (List.getElem?_eq_getElem bf)
     rw[hu]
     exact bQ i j row row' _ a ib fb (List.getElem?_eq_getElem bf) aN g6.up
 | @fn f caps yj aL aK bQ=>
  intro v hv
  obtain⟨vs,rfl,aI⟩:=(show ∃vs:List Value,v= .func (.func f) #[] vs.toArray∧aD (fx E) caps vs from hv)
  exact .fn (aL▸aI.1) fun i b u hb hu=>by
   have bf:i<caps.length:=by have:=(List.getElem?_eq_some_iff.1 hb).1;omega
   exact bQ i _ b (List.getElem?_eq_getElem bf) hb (Dp (aI.2 i _ u (List.getElem?_eq_getElem bf) hu))
theorem QB {L kJ:List (Nat×List AV)} {H fg:List Blk} {E:Env} (sub:Sub L H kJ fg) (aS:SimH E fg) (b1:SimL E kJ) {a b:AV} (h:dc L H a b) {v:Value} (hv:V2 E a v):V2 E.frozen b v:=by
 rcases h with⟨l,fu,rfl,rfl,aI⟩ | h
 ·obtain⟨vs,rfl,ak⟩:=hv
  refine⟨vs,rfl,aI.1▸ak.1,fun i x u hx hu=> ?_⟩
  have bf:i<l.length:=by have:=(List.getElem?_eq_some_iff.1 hx).1;have:=aI.1;omega
  have aL:=List.getElem?_eq_getElem bf
  exact bH.v1 (E:=E.frozen) (QA sub aS b1 (aI.2 i _ x aL hx) (ak.2 i _ u aL hu))
 ·by_cases hf: ∃l,a= .agg l
  ·obtain⟨l,rfl⟩:=hf
   cases h with
   | undef=>exact bH.undef v
  ·rw[pr fun l e=>hf ⟨l,e⟩] at hv
   exact qe (bH.v1 (E:=E.frozen) (QA sub aS b1 h hv))
inductive gI (H:List Blk):AV→AV→Prop where
 | int (k:IntKind) (n:Int):gI H (.int k n) (.int k n)
 | bool (b:Bool):gI H (.bool b) (.bool b)
 | str (s:ByteArray):gI H (.str s) (.str s)
 | gj:gI H .gj .gj
 | gE:gI H .gE .gE
 | bC (rows:List (List AV)) (full eJ:Bool) (hw:eJ=true→full=true):gI H (.bC rows full true) (.bC rows eJ true)
 | Ot (full fr eJ:Bool) (hw:eJ=true→full=true):gI H (.bC [] full fr) (.bC [] eJ true)
 | ref {b g off n:Nat} {full eJ:Bool} {blk:Blk} {iK:List (List AV)} (hw:eJ=true→full=true) (a_:Nat→Nat→AV) (hb:H[b]?=some blk) (hg:blk.bF=g) (aG:iK.length=n) (g5:n≤4611686018427387904) (aC:off+n≤blk.rows.length)
   (aL: ∀(i:Nat) (row row':List AV),blk.rows[off+i]?=some row→iK[i]?=some row'→row.length=row'.length)
   (aK: ∀(i j:Nat) (row:List AV) (a:AV),i<n→blk.rows[off+i]?=some row→row[j]?=some a→gI H a (a_ i j))
   (hc: ∀(i j:Nat) (row':List AV) (c:AV),iK[i]?=some row'→row'[j]?=some c→c=kD (a_ i j)):
   gI H (.ref b g off n full) (.bC iK eJ true)
def sB (H:List Blk) (a b:AV):Prop:=(∃l fu,a= .agg l∧b= .agg fu∧aD (gI H) l fu)∨gI H a b
def ii (H:List Blk) (a b:AV):Prop:=(∃l fu,a= .tup l∧b= .tup fu∧aD (sB H) l fu)∨sB H a b
theorem acX {H:List Blk} {a b:AV} (h:gI H a b):jM b=true:=by cases h<;>rfl
theorem QD {H:List Blk} {E:Env} (aS:SimH E H) {a b:AV} (h:gI H a b):
  ∀{v:Value},cM E a v→bH E.w (fun c=>E.PF c∨E.gT c) (fun c=>E.PF c∨E.gT c) b v:=by
 induction h with
 | int k n=>intro v hv;have hv:bH E.w E.PA E.PF (.int k n) v:=hv;cases hv;exact .int _ _
 | bool k=>intro v hv;have hv:bH E.w E.PA E.PF (.bool k) v:=hv;cases hv;exact .bool _
 | str k=>intro v hv;have hv:bH E.w E.PA E.PF (.str k) v:=hv;cases hv;exact .str _
 | gj=>intro v hv;have hv:bH E.w E.PA E.PF .gj v:=hv;cases hv;exact .gj
 | gE=>intro v hv;have hv:bH E.w E.PA E.PF .gE v:=hv;cases hv;exact .gE
 | bC rows full eJ hw=>
  intro v hv
  have hv:bH E.w E.PA E.PF (.bC rows full true) v:=hv
  cases hv with
  | bC gq gR ht cY fl ec=>exact .bC (fun c hc=>by have:=gq c hc;simp at this ⊢;exact .inl this) gR (fun h=>ht (hw h)) cY fl ec
 | Ot full fr eJ hw=>
  intro v hv
  have hv:bH E.w E.PA E.PF (.bC [] full fr) v:=hv
  cases hv with
  | bC gq gR ht cY fl ec=>exact bH.bC (rows:=[]) (PB:=fun _=>False) (sz:=0) (vs:=fun _ _=>undef) (fun _ h=>h.elim) gR (fun h=>ht (hw h)) (fun i row h=>by simp at h) (fun h=>by simp at h) (fun i j row a h=>by simp at h)
 | @ref b g off n full eJ blk iK Fv a_ hb hg aG g5 aC aL aK hc bQ=>
  intro v hv
  have kr:=aS.fh b blk hb
  rcases(show fx E (.ref b g off n full) v from hv) with⟨b0,_⟩ | ⟨fV,b0⟩
  ·omega
  ·rcases b0 with⟨_,_,my,A,rfl⟩ | ⟨c,cap,hm,rfl,oX,oo,qC⟩
   ·subst my
    obtain rfl:iK=[]:=List.eq_nil_of_length_eq_zero aG
    exact bH.bC (rows:=[]) (PB:=fun _=>False) (sz:=0) (vs:=fun _ _=>undef) (fun _ h=>h.elim) ⟨Nat.le_refl _,Nat.zero_le _⟩ (fun _=>rfl) (fun i row h=>by simp at h) (fun h=>by simp at h) (fun i j row a h=>by simp at h)
   ·obtain⟨blk',vW,ty,q1,dX,hw,mw,hlen,gB⟩:=aS.heap b c hm
    obtain rfl:blk=blk':=by rw[hb] at q1;exact Option.some.inj q1
    subst aG
    have e1: ∀i,i<iK.length→ ∃row,blk.rows[off+i]?=some row:=fun i hi=>⟨_,List.getElem?_eq_getElem (by omega)⟩
    refine bH.bC (PB:=fun c=>E.PF c∨E.gT c) (sz:=E.sz b) (vs:=fun i j=>(vW[(off+i)*E.sz b+j]?).getD undef) (fun c hc=>by simpa using hc) ⟨oX,g5⟩ (fun h=>oo (Fv h))
     (fun i row' fb=> ?_) (fun lB=>⟨c,off*E.sz b,rfl,.inr ⟨b,hm⟩,fun i j hi aN=> ?_⟩) (fun i j row' a fb aN=> ?_)
    ·obtain⟨row,ib⟩:=e1 i (List.getElem?_eq_some_iff.1 fb).1
     rw[←aL i row row' ib fb];exact gB.1 _ row ib
    ·obtain⟨row,ib⟩:=e1 i hi
     have bf:j<row.length:=by rw[gB.1 _ row ib];exact aN
     obtain⟨u,hu,_⟩:=gB.2 (off+i) j row _ ib (List.getElem?_eq_getElem bf)
     rw[show off*E.sz b+(i*E.sz b+j)=(off+i)*E.sz b+j by rw[Nat.add_mul];omega,cell_of hw hu,hu];rfl
    ·have hi:=(List.getElem?_eq_some_iff.1 fb).1
     obtain⟨row,ib⟩:=e1 i hi
     have bf:j<row.length:=by rw[aL i row row' ib fb];exact(List.getElem?_eq_some_iff.1 aN).1
     obtain⟨u,hu,g6⟩:=gB.2 (off+i) j row _ ib (List.getElem?_eq_getElem bf)
     have h1:=bQ i j row _ hi ib (List.getElem?_eq_getElem bf) g6.up
     have h2:=acX (aK i j row _ hi ib (List.getElem?_eq_getElem bf))
     rw[hu,hc i j row' a fb aN]
     exact Jk h2 h1 (fun c hc=>hc) (fun c hc=>hc)
def b2 (P:Program) (f:FuncId) (args:List AV) (t:AV):Prop:=dH P f args [] fun r fg=>ii fg r t
theorem Kf {P:Program} {f:FuncId} {args ew:List AV} {t:AV} {L kJ:List (Nat×List AV)} {H fg:List Blk} {E:Env} {vs:List Value} (sub:Sub L H kJ fg) (aS:SimH E fg) (b1:SimL E kJ)
  (a3:aD (V2 E) args vs) (hs:aD (dc L H) args ew) (h:b2 P f ew t):
  Calls P f vs.toArray E.w fun e w'=> ∃v E',e= .returned v∧E'.w=w'∧lT E E'∧V3 E' t v:=by
 have ug:aD (V2 E.frozen) ew vs:=⟨hs.1▸a3.1,fun i x u hx hu=>by
  have bf:i<args.length:=by have:=(List.getElem?_eq_some_iff.1 hx).1;have:=hs.1;omega
  have aL:=List.getElem?_eq_getElem bf
  exact QB sub aS b1 (hs.2 i _ x aL hx) (a3.2 i _ u aL hu)⟩
 refine(h.2 E.frozen vs (fun _=>rfl) (Lg aS) ug).mono ?_
 rintro e w' ⟨r,v,H',E1,rfl,aK,rfl,aG,fL,hv,bk⟩
 let N:Nat→Prop:=fun c=>E1.PF c∨E1.gT c
 have kM: ∀c,N c→E.w.heap.size≤c∧c<E1.w.heap.size:=by
  rintro c (hc | hc)
  ·exact⟨(bk.fN c hc).elim (fun h=>h.elim) id,fL.fe c (fL.e3 c hc)⟩
  ·exact⟨(bk.qO c hc).elim (fun⟨b,hb⟩=>by cases hb) id,fL.gD c hc⟩
 have oV: ∀c,c<E.w.heap.size→E1.w.heap[c]?=E.w.heap[c]?:=fun c hc=>bk.fi c hc (fun⟨b,hb⟩=>by cases hb) (fun⟨b,hb⟩=>by cases hb)
 let E':Env:={E with w:=E1.w,PA:=fun c=>E.PA c∨N c,PF:=fun c=>E.PF c∨N c}
 have ak:lT E E':=
  {step:=⟨⟨fun c hc=> .inl hc,fun c hc=> .inl hc,fun c hc=>oV c (aS.fe c hc),fun c hc=>oV c (aS.fe c (aS.e3 c hc)),fun _=>Nat.le_refl _,fun _ _ h _=>⟨h,rfl,rfl⟩,fun _ _ h=>h⟩,
    bk.os,bk.tape,bk.output,bk.size,fun c hc _ _=>oV c hc,fun _ _ h=> .inl h,fun _ h=> .inl h,fun c hc=>hc.elim .inl (fun h=> .inr (kM c h).1),fun c hc=>hc.elim .inl (fun h=> .inr (kM c h).1)⟩
   m:=rfl,mL:=rfl,bF:=rfl,sz:=rfl,cp:=rfl
   fi:=oV
   fM:=fun c hc=>hc.elim .inl (fun h=> .inr (kM c h))
   e3:=fun c hc=>hc.elim (fun h=> .inl (aS.e3 c h)) .inr}
 have up: ∀{b:AV} {u:Value},bH E1.w N N b u→cM E' b u:=fun h=>bH.v1 (E:=E') (h.mono (fun _ _=>rfl) (fun _ _=>rfl) (fun c hc=> .inr hc) (fun c hc=> .inr hc))
 have fv: ∀{a b:AV} {u:Value},gI H' a b→cM E1 a u→cM E' b u:=fun a3 hu=>up (QD fL a3 hu)
 have fZ: ∀{a b:AV} {u:Value},sB H' a b→V2 E1 a u→V2 E' b u:=by
  rintro a b u (⟨l,fu,rfl,rfl,aI⟩ | h) hu
  ·obtain⟨kE,rfl,ak⟩:=hu
   refine⟨kE,rfl,aI.1▸ak.1,fun i x y hx bm=> ?_⟩
   have bf:i<l.length:=by have:=(List.getElem?_eq_some_iff.1 hx).1;have:=aI.1;omega
   have aL:=List.getElem?_eq_getElem bf
   exact fv (aI.2 i _ x aL hx) (ak.2 i _ y aL bm)
  ·have:cM E1 a u:=by cases h<;>exact hu
   exact qe (fv h this)
 have fE: ∀{a b:AV} {u:Value},ii H' a b→V3 E1 a u→V3 E' b u:=by
  rintro a b u (⟨l,fu,rfl,rfl,aI⟩ | h) hu
  ·obtain⟨kE,rfl,ak⟩:=hu
   refine⟨kE,rfl,aI.1▸ak.1,fun i x y hx bm=> ?_⟩
   have bf:i<l.length:=by have:=(List.getElem?_eq_some_iff.1 hx).1;have:=aI.1;omega
   have aL:=List.getElem?_eq_getElem bf
   exact fZ (aI.2 i _ x aL hx) (ak.2 i _ y aL bm)
  ·have:V2 E1 a u:=by
    rcases h with⟨l,fu,rfl,rfl,aI⟩ | h
    ·exact hu
    ·cases h<;>exact hu
   exact qf (fZ h this)
 exact⟨v,E',rfl,rfl,ak,fE aK hv⟩
def DF:AV→Bool
 | .agg _ | .tup _ | .fn _ _=>false
 | _=>true
def zl (fn:Fn) (first:Array Operand) (caps:List AV) (K:AV→Prop):Prop:=match fn with
 | .func f=>if first.isEmpty=true∧caps.all DF=true then K (.fn f caps) else False
 | _=>False
def e7:AV→Bool
 | .tup _=>false
 | _=>true
def lX (x:AV) (K:FuncId→List AV→Prop):Prop:=match x with
 | .fn f caps=>K f caps
 | _=>False
def oP (P:Program) (f:FuncId) (args:List AV) (L:List (Nat×List AV)) (H:List Blk) (K:AV→Prop):Prop:=
 args.all e7=true∧ ∃ew t,aD (dc L H) args ew∧b2 P f ew t∧K t
def El (P:Program) (c:Call) (bR:Operand→AV) (L:List (Nat×List AV)) (H:List Blk) (K:AV→Prop):Prop:=match c.callee with
 | .builtin .len=>(match c.args.toList,c.argTypes.toList with
  | [x],[t]=>e8 (kb P t (bR x)) (r_ (bR x) K)
  | _,_=>False)
 | .value f=>lX (bR f) fun g caps=>oP P g (c.args.toList.map bR++caps) L H K
 | _=>False
def sN (P:Program) (o:Oper) (bR:Operand→AV) (L:List (Nat×List AV)) (H:List Blk) (K:AV→Prop):Prop:=match o.op with
 | .move x=>K (bR x)
 | .assign x=>K (bR x)
 | .pick c a b=>oN (bR c) fun z=>yd z (K (bR a)) (K (bR b))
 | .build t ps=>e8 (ps.toList.all fun p=>e7 (bR p.2)) (DB P t (ps.toList.map fun p=>(p.1,bR p.2)) K)
 | .buildSlice t n ps=>e8 (ps.toList.all fun p=>e7 (bR p.2)) (vU P t n (ps.toList.map fun p=>(p.1,bR p.2)) K)
 | .load t a=>oZ P t (bR a) L H K
 | .nilCheck x=>GX (bR x) K
 | .binOp op t x y _=>sG P op t (bR x) (bR y) (qQ y) K
 | .unOp op _ x=>C9 op (bR x) K
 | .convert s d x=>D0 P s d (bR x) K
 | .makeFunc fn first caps=>zl fn first (caps.toList.map bR) K
 | .fieldAddr t x f=>Et P t (bR x) f K
 | .indexAddr t x i=>wV P t (bR x) (bR i) H K
 | .index t x i=>FD P t (bR x) (bR i) K
 | .slice t x lo hi mx=>(match mx with
  | none=>vj P t (bR x) (lo.map bR) (hi.map bR) H K
  | some _=>False)
 | .extract x i=>Ep (bR x) i K
 | .call c=>El P c bR L H K
 | _=>False
theorem Jm {P:Program} {o:Oper} {a:Act} {next:Act→World→Prop} {Q:Exit→Act→World→Prop} {s:Sem Value} {w w':World} {u:Value} (h:s.run P w= .ok u w') (k:next (a.put o.dst u) w'):
  o.upon P a next Q ((do pure (Next.value (←s)):Sem Next).run P w):=by
 rw[Sem.run_bind,h];exact k
theorem parts_eq (ps:Array (Nat×Operand)) (a:Act):(ps.toList.map fun p=>(p.1,a.eval p.2)).toArray=ps.map fun(i,x)=>(i,a.eval x):=by
 apply Array.ext'
 rw[Array.toList_map]
theorem G7 {E:Env} {a:Act} {T:List AV} (cu: ∀t,V3 E (T.getD t .undef) (a.tmps.getD t undef)) (ps:List (Nat×Operand)) (aG: ∀p∈ps,∀l,cr T p.2≠ .tup l):
  aD (fun(x:Nat×AV) (y:Nat×Value)=>x.1=y.1∧V2 E x.2 y.2) (ps.map fun p=>(p.1,cr T p.2)) (ps.map fun p=>(p.1,a.eval p.2)):=by
 refine⟨by simp,fun i x y hx bm=> ?_⟩
 rw[List.getElem?_map] at hx bm
 cases aI:ps[i]? with
 | none=>simp[aI] at hx
 | some p=>
  simp[aI] at hx bm
  subst hx;subst bm
  refine⟨rfl,?_⟩
  have:=opv_rel cu p.2
  rwa [oL (aG p (List.mem_of_getElem? aI))] at this
theorem JS {E:Env} {a:Act} {T:List AV} (cu: ∀t,V3 E (T.getD t .undef) (a.tmps.getD t undef)) (xs:List Operand) (aG: ∀x∈xs,∀l,cr T x≠ .tup l):
  aD (V2 E) (xs.map (cr T)) (xs.map a.eval):=by
 refine⟨by simp,fun i x y hx bm=> ?_⟩
 rw[List.getElem?_map] at hx bm
 cases aI:xs[i]? with
 | none=>simp[aI] at hx
 | some p=>
  simp[aI] at hx bm
  subst hx;subst bm
  have:=opv_rel cu p
  rwa [oL (aG p (List.mem_of_getElem? aI))] at this
theorem w_ {a:AV} (h:e7 a=true): ∀l,a≠ .tup l:=by
 intro l e;subst e;cases h
theorem OT {E:Env} {a:Act} {T:List AV} (cu: ∀t,V3 E (T.getD t .undef) (a.tmps.getD t undef)) (x:Option Operand):
  An E (x.map (cr T)) (x.map a.eval):=by
 cases x with
 | none=>trivial
 | some x=>exact opv_rel cu x
theorem Kg {E:Env} {a:Act} {T:List AV} (cu: ∀t,V3 E (T.getD t .undef) (a.tmps.getD t undef)) {f:Operand} {g:FuncId} {caps:List AV} (h:cr T f= .fn g caps):
  ∃vs:List Value,a.eval f= .func (.func g) #[] vs.toArray∧aD (V2 E) caps vs:=by
 have:=opv_rel cu f
 rw[h] at this
 obtain⟨vs,e,aI⟩:=(show ∃vs:List Value,a.eval f= .func (.func g) #[] vs.toArray∧aD (fx E) caps vs from this)
 exact⟨vs,e,aI.mono fun _ _ k=>qe (Dp k)⟩
theorem abY {P:Program} {f:FuncId} {w:World} {args:Array Value} (h:uX P f=true):(callFunc f args).run P w= .ok (.enter f args) w:=by
 unfold uX at h
 cases hf:P.funcs[f]? with
 | none=>simp[hf] at h
 | some fn=>
  simp[hf] at h
  obtain⟨h1,h2⟩:=h
  simp[callFunc,hf,h1]
  cases hb:fn.body with
  | none=>simp[hb] at h2
  | some c=>intro b0;cases b0
theorem PX {P:Program} {c:Call} {a:Act} {ty:TypeId} {f:Operand} {g:FuncId} {vs:List Value} {w:World} (hc:c.callee= .value f) (hf:a.eval f= .func (.func g) #[] vs.toArray) (h:uX P g=true):
  (do let d ←resolve a.eval c ty;invoke d.target d.args:Sem Next).run P w= .ok (.enter g (c.args.toList.map a.eval++vs).toArray) w:=by
 unfold resolve
 rw[hc]
 simp only[hf,Deferred.ofValue,Sem.run_bind,Sem.run_pure,Result.andThen_ok,invoke]
 rw[abY h]
 simp
def x7 (E:Env) (o:Oper) (a:Act) (K:AV→Prop):Act→World→Prop:=fun ij w'=> ∃v e_ E',K v∧E'.w=w'∧lT E E'∧V3 E' v e_∧ij=a.put o.dst e_
set_option maxHeartbeats 4000000 in
theorem KS {P:Program} {o:Oper} {a:Act} {T:List AV} {E:Env} {L kJ:List (Nat×List AV)} {H fg:List Blk} {K:AV→Prop} {Q:Exit→Act→World→Prop}
  (cu: ∀t,V3 E (T.getD t .undef) (a.tmps.getD t undef)) (sub:Sub L H kJ fg) (aS:SimH E fg) (b1:SimL E kJ) (h:sN P o (cr T) L H K):o.wp P a E.w (x7 E o a K) Q:=by
 have fin: ∀{s:Sem Value},(execOp a.eval o=(do pure (Next.value (←s))))→(∃r u E',K r∧s.run P E.w= .ok u E'.w∧lT E E'∧V3 E' r u)→o.wp P a E.w (x7 E o a K) Q:=by
  rintro s hs ⟨r,u,E',hK,aK,ak,hv⟩
  unfold Oper.wp
  rw[hs]
  exact Jm aK ⟨r,u,E',hK,rfl,ak,hv,rfl⟩
 have py: ∀{s:Sem Value},(execOp a.eval o=(do pure (Next.value (←s))))→(∃r u,K r∧s.run P E.w= .ok u E.w∧V3 E r u)→o.wp P a E.w (x7 E o a K) Q:=by
  rintro s hs ⟨r,u,hK,aK,hv⟩
  exact fin hs ⟨r,u,E,hK,aK,lT.refl aS,hv⟩
 have zm: ∀x,execOp a.eval o=pure (.value (a.eval x))→K (cr T x)→o.wp P a E.w (x7 E o a K) Q:=by
  intro x hs hK
  unfold Oper.wp
  rw[hs]
  exact⟨_,_,E,hK,rfl,lT.refl aS,opv_rel cu x,rfl⟩
 obtain⟨dst,op,ty,pos,after,guard⟩:=o
 cases op with
 | move x=>exact zm x rfl h
 | assign x=>exact zm x rfl h
 | pick c x y=>
  obtain⟨b,hb,h1,h2⟩:=Av (show oN (cr T c) fun z=>yd z (K (cr T x)) (K (cr T y)) from h)
  have hv:=opv_rel cu c
  rw[hb] at hv
  have he:a.eval c= .bool b:=V3.rG hv
  cases b with
  | true=>exact zm x (by simp[execOp,he,asBool]) (h1 rfl)
  | false=>exact zm y (by simp[execOp,he,asBool]) (h2 rfl)
 | build t ps=>
  obtain⟨aG,h⟩:=pY h
  have:=T2 (P:=P) (G7 cu ps.toList fun p aI=>w_ (List.all_eq_true.1 aG p aI)) h
  exact py (s:=Instr.build t (ps.toList.map fun p=>(p.1,a.eval p.2)).toArray) (by rw[parts_eq];rfl) this
 | buildSlice t n ps=>
  obtain⟨aG,h⟩:=pY h
  have:=J_ (P:=P) aS (G7 cu ps.toList fun p aI=>w_ (List.all_eq_true.1 aG p aI)) h
  exact fin (s:=Instr.buildSlice t n (ps.toList.map fun p=>(p.1,a.eval p.2)).toArray) (by rw[parts_eq];rfl) this
 | load t x=>
  obtain⟨r,u,hK,aK,hv⟩:=Oe sub aS b1 (opv_rel cu x) h
  exact py (s:=Instr.loadAt t (a.eval x)) rfl ⟨r,u,hK,aK,qf hv⟩
 | nilCheck x=>
  have hx:=opv_rel cu x
  have h:GX (cr T x) K:=h
  have key: ∀lU,a.eval x= .pointer (some lU)→K (cr T x)→Oper.wp P ⟨dst,.nilCheck x,ty,pos,after,guard⟩ a E.w (x7 E ⟨dst,.nilCheck x,ty,pos,after,guard⟩ a K) Q:=by
   intro lU he hK
   exact zm x (by simp[execOp,he]) hK
  cases hY:cr T x with
  | fH s c=>
   rw[hY] at hx h
   obtain⟨bl,_,e⟩:=hx.zj
   exact key _ e (by rw[hY];exact h)
  | ptr b g r c=>
   rw[hY] at hx h
   rcases(show fx E (.ptr b g r c) _ from hx) with⟨_,bl,o,e⟩ | ⟨_,bl,_,e⟩<;>exact key _ e (by rw[hY];exact h)
  | dA cells c=>
   rw[hY] at hx h
   have jQ:bH E.w E.PA E.PF (.dA cells c) (a.eval x):=hx
   generalize hv:a.eval x=v at jQ
   cases jQ;exact key _ hv (by rw[hY];exact h)
  | _=>rw[hY] at h;exact h.elim
 | binOp op t x y ty2=>
  have Fz:qQ y=true→a.eval y= .slice none 0 0:=by
   intro b0
   unfold qQ at b0
   split at b0
   ·rfl
   ·cases b0
  exact py (s:=do eqGuard op t x y (a.eval x) (a.eval y);binOp op t (a.eval x) (a.eval y)) rfl (TQ (opv_rel cu x) (opv_rel cu y) Fz h)
 | unOp op t x=>exact py (s:=Op.unary op (a.eval x)) rfl (afk (opv_rel cu x) h)
 | convert s d x=>exact py (s:=Go.convert s d (a.eval x)) rfl (UJ (opv_rel cu x) h)
 | makeFunc fn first caps=>
  replace h:zl fn first (caps.toList.map (cr T)) K:=h
  cases fn with
  | func f=>
   replace h:if first.isEmpty=true∧(caps.toList.map (cr T)).all DF=true then K (.fn f (caps.toList.map (cr T))) else False:=h
   split at h
   ·rename_i hc
    obtain⟨h1,h2⟩:=hc
    have hf:first= #[]:=by simpa using h1
    subst hf
    refine py (s:=Instr.makeFunc (.func f) (Array.map a.eval #[]) (caps.map a.eval)) rfl ⟨_,.func (.func f) #[] (caps.map a.eval),h,by simp[Instr.makeFunc],(caps.toList.map a.eval),by rw[←Array.toList_map,Array.toArray_toList],by simp,fun i x y hx bm=> ?_⟩
    rw[List.getElem?_map] at hx bm
    cases aI:caps.toList[i]? with
    | none=>simp[aI] at hx
    | some p=>
     simp[aI] at hx bm
     subst hx;subst bm
     have hv:=opv_rel cu p
     have fA:DF (cr T p)=true:=List.all_eq_true.1 h2 _ (List.mem_map.2 ⟨p,List.mem_of_getElem? aI,rfl⟩)
     cases ak:cr T p<;>rw[ak] at hv fA<;>first | exact hv | cases fA
   ·exact h.elim
  | _=>exact h.elim
 | fieldAddr t x f=>exact py (s:=Instr.fieldAt t (a.eval x) f) rfl (Vl (opv_rel cu x) h)
 | indexAddr t x i=>exact py (s:=Instr.indexAt t (a.eval x) (a.eval i)) rfl (Ye sub aS (opv_rel cu x) (opv_rel cu i) h)
 | index t x i=>exact py (s:=Instr.index t (a.eval x) (a.eval i)) rfl (Yn (opv_rel cu x) (opv_rel cu i) h)
 | slice t x lo hi mx=>
  cases mx with
  | none=>exact py (s:=Instr.sliceAt t (a.eval x) (lo.map a.eval) (hi.map a.eval) none) rfl (acj sub aS (opv_rel cu x) (OT cu lo) (OT cu hi) h)
  | some m=>exact h.elim
 | extract x i=>exact py (s:=Instr.extract (a.eval x) i) rfl (Vg (opv_rel cu x) h)
 | call c=>
  have h:El P c (cr T) L H K:=h
  obtain⟨callee,args,argTypes⟩:=c
  cases callee with
  | builtin b=>
   cases b with
   | len=>
    have h:(match args.toList,argTypes.toList with
     | [x],[t]=>e8 (kb P t (cr T x)) (r_ (cr T x) K)
     | _,_=>False):=h
    split at h
    ·rename_i x t h1 h2
     obtain⟨XB,XC⟩:=pY h
     obtain rfl:args= #[x]:=by rw[←Array.toArray_toList (xs:=args),h1]
     obtain rfl:argTypes= #[t]:=by rw[←Array.toArray_toList (xs:=argTypes),h2]
     obtain⟨r,u,hK,aK,hv⟩:=aae (P:=P) (ty:=ty) (opv_rel cu x) XB XC
     unfold Oper.wp
     have:(execOp a.eval ⟨dst,.call ⟨.builtin .len,#[x],#[t]⟩,ty,pos,after,guard⟩).run P E.w= .ok (.value u) E.w:=by
      simp only[execOp,resolve,Sem.run_bind,Sem.run_pure,Result.andThen_ok,invoke,builtin]
      have e:Array.map a.eval #[x]= #[a.eval x]:=by simp
      rw[e,aK];rfl
     rw[this]
     exact⟨r,u,E,hK,rfl,lT.refl aS,hv,rfl⟩
    ·exact h.elim
   | _=>exact h.elim
  | value f=>
   have h:lX (cr T f) fun g caps=>oP P g (args.toList.map (cr T)++caps) L H K:=h
   cases hf:cr T f with
   | fn g caps=>
    rw[hf] at h
    obtain⟨aG,ew,t,hs,pI,hK⟩:=(show oP P g (args.toList.map (cr T)++caps) L H K from h)
    obtain⟨vs,he,ul⟩:=Kg cu hf
    unfold Oper.wp
    rw[show execOp a.eval ⟨dst,.call ⟨.value f,args,argTypes⟩,ty,pos,after,guard⟩=(do let d ←resolve a.eval ⟨.value f,args,argTypes⟩ ty;invoke d.target d.args) from rfl]
    rw[PX (P:=P) (ty:=ty) (w:=E.w) (c:=⟨.value f,args,argTypes⟩) rfl he pI.1]
    have ET:aD (V2 E) (args.toList.map (cr T)++caps) (args.toList.map a.eval++vs):=
     aD.append (JS cu args.toList fun x hx=>w_ (List.all_eq_true.1 aG _ (by simp;exact .inl ⟨x,by simpa using hx,rfl⟩))) ul
    refine(Kf sub aS b1 ET hs pI).mono ?_
    rintro e w' ⟨v,E',rfl,rfl,ak,hv⟩
    exact⟨t,v,E',hK,rfl,ak,hv,rfl⟩
   | _=>rw[hf] at h;exact h.elim
  | _=>exact h.elim
 | _=>exact h.elim
theorem UR (w:World) (o:Obj) (c:Nat) (h:c<w.heap.size):(w.drew.alloc o).heap[c]?=w.heap[c]?:=sC w.drew o c h
structure nv (w w':World) (o:Obj):Prop where
 os:w'.os=w.os
 tape:w'.tape=w.tape
 output:w'.output=w.output
 size:w'.heap.size=w.heap.size+1
 nc: ∀c,c<w.heap.size→w'.heap[c]?=w.heap[c]?
 new:w'.heap[w.heap.size]?=some o
theorem nv.alloc (w:World) (o:Obj):nv w (w.alloc o) o:=⟨rfl,rfl,rfl,by simp,fun c hc=>sC w o c hc,JM w o⟩
theorem nv.UQ (w:World) (o:Obj):nv w (w.drew.alloc o) o:=⟨rfl,rfl,rfl,by simp,fun c hc=>UR w o c hc,JM w.drew o⟩
theorem SimH.ext {E:Env} {H H':List Blk} (h:SimH E H) (hs: ∀(b:Nat) (blk:Blk),H[b]?=some blk→H'[b]?=some blk) (aL:H.length≤H'.length) (hg: ∀(b:Nat) (blk:Blk),H.length≤b→H'[b]?=some blk→blk.bF=0):SimH E H':=
 {h with
  heap:=fun b c hb=>by
   obtain⟨blk,a_,ty,q1,q⟩:=h.heap b c hb
   exact⟨blk,a_,ty,hs b blk q1,q⟩
  fh:=fun b blk hb=>by
   rcases Nat.lt_or_ge b H.length with bf | fV
   ·have h1:=List.getElem?_eq_getElem bf
    have h2:=hs b _ h1
    rw[hb] at h2
    cases h2
    exact h.fh b _ h1
   ·rw[(h.fresh b fV).2,hg b blk fV hb]
  hz:=fun b hb=>by
   obtain⟨blk,q1,q⟩:=h.hz b hb
   exact⟨blk,hs b blk q1,q⟩
  fresh:=fun b hb=>h.fresh b (Nat.le_trans aL hb)}
theorem SimH.snoc {E:Env} {H:List Blk} (h:SimH E H) {blk:Blk} (hg:blk.bF=0):SimH E (H++[blk]):=
 h.ext (fun b x hb=>by rw[List.getElem?_append_left (List.getElem?_eq_some_iff.1 hb).1];exact hb) (by simp) (fun b x hb hx=>by
  rw[List.getElem?_append_right hb] at hx
  have:b - H.length=0:=by
   rcases Nat.eq_zero_or_pos (b - H.length) with q | q
   ·exact q
   ·rw[List.getElem?_eq_none (by simp;omega)] at hx;cases hx
  rw[this] at hx;cases hx;exact hg)
theorem SimL.cons {E:Env} {L:List (Nat×List AV)} (h:SimL E L) {t:Nat} {cells:List AV} (aG:E.mL t=none):SimL E ((t,cells)::L):=fun s c hm=>by
 have:s≠t:=fun e=>by subst e;rw[aG] at hm;cases hm
 simp only[e0,if_neg this]
 exact h s c hm
theorem OF {E:Env} {H:List Blk} {L:List (Nat×List AV)} {w':World} {a_:Array Value} {ty:TypeId} {t:Nat} {cells:List AV} (aS:SimH E H) (b1:SimL E L) (hw:nv E.w w' (.cells a_ ty (0,0)))
  (bq:e0 L t=some cells) (hm:E.mL t=none) (hc:aD (cM E.ca) cells a_.toList):
  ∃E',E'.w=w'∧Step E E'∧SimH E' H∧SimL E' L∧V3 E' (.fH t 0) (.pointer (some ⟨E.w.heap.size,0,none⟩))∧E'.m=E.m∧(∀s,s≠t→E'.mL s=E.mL s):=by
 let E':Env:={E with w:=w',mL:=fun s=>if s=t then some E.w.heap.size else E.mL s}
 have bk:Step E E':=
  {le:=⟨fun _ h=>h,fun _ h=>h,fun c hc=>hw.nc c (aS.fe c hc),fun c hc=>hw.nc c (aS.fe c (aS.e3 c hc)),fun _=>Nat.le_refl _,fun _ _ h _=>⟨h,rfl,rfl⟩,fun s c h=>by
    show(if s=t then _ else _)=_
    rw[if_neg (fun e=>by subst e;rw[hm] at h;cases h)];exact h⟩
   os:=hw.os,tape:=hw.tape,output:=hw.output
   size:=by show E.w.heap.size≤w'.heap.size;rw[hw.size];omega
   fi:=fun c hc _ _=>hw.nc c hc
   jx:=fun _ _ h=> .inl h
   jR:=fun c ⟨s,hs⟩=>by
    have hs:(if s=t then some E.w.heap.size else E.mL s)=some c:=hs
    split at hs
    ·cases hs;exact .inr (Nat.le_refl _)
    ·exact .inl ⟨s,hs⟩
   fM:=fun _ h=> .inl h
   fN:=fun _ h=> .inl h}
 have hml: ∀s c,E'.mL s=some c→(s=t∧c=E.w.heap.size)∨(s≠t∧E.mL s=some c):=by
  intro s c hs
  have hs:(if s=t then some E.w.heap.size else E.mL s)=some c:=hs
  split at hs
  ·rename_i e;cases hs;exact .inl ⟨e,rfl⟩
  ·rename_i e;exact .inr ⟨e,hs⟩
 have kt:=aS.gD
 have ku:=aS.g9
 refine⟨E',rfl,bk,?_,?_,⟨E.w.heap.size,by show(if t=t then _ else _)=_;rw[if_pos rfl],rfl⟩,rfl,fun s hs=>if_neg hs⟩
 ·exact{
   heap:=fun b c hb=>by
    obtain⟨blk,dF,j0,q1,dX,q2,q3,q4,cR,c6⟩:=aS.heap b c hb
    refine⟨blk,dF,j0,q1,dX,?_,q3,q4,cR,fun i j row a aK aN=> ?_⟩
    ·show w'.heap[c]?=_;rw[hw.nc c (kt c ⟨b,hb⟩)];exact q2
    ·obtain⟨u,hu,fb⟩:=c6 i j row a aK aN
     exact⟨u,hu,fb.le bk.le.ca⟩
   fh:=aS.fh
   hz:=aS.hz
   fresh:=aS.fresh
   h0:=aS.h0
   jS:=fun s s' c h1 h2=>by
    rcases hml s c h1 with⟨d1,br⟩ | ⟨_,da⟩<;>rcases hml s' c h2 with⟨d2,e2⟩ | ⟨_,ir⟩
    ·rw[d1,d2]
    ·have:=ku c ⟨s',ir⟩;omega
    ·have:=ku c ⟨s,da⟩;omega
    ·exact aS.jS s s' c da ir
   gU:=fun b s c h1 h2=>by
    rcases hml s c h2 with⟨rfl,rfl⟩ | ⟨_,h2⟩
    ·have:=kt _ ⟨b,h1⟩;omega
    ·exact aS.gU b s c h1 h2
   h3:=aS.h3
   iv:=fun c hc ⟨s,hs⟩=>by
    rcases hml s c hs with⟨rfl,rfl⟩ | ⟨_,hs⟩
    ·have:=aS.fe _ hc;omega
    ·exact aS.iv c hc ⟨s,hs⟩
   e3:=aS.e3
   fe:=fun c hc=>Nat.lt_of_lt_of_le (aS.fe c hc) bk.size
   gD:=fun c hc=>Nat.lt_of_lt_of_le (kt c hc) bk.size
   g9:=fun c ⟨s,hs⟩=>by
    rcases hml s c hs with⟨rfl,rfl⟩ | ⟨_,hs⟩
    ·show _<w'.heap.size;rw[hw.size];omega
    ·exact Nat.lt_of_lt_of_le (ku c ⟨s,hs⟩) bk.size}
 ·intro s c hs
  rcases hml s c hs with⟨rfl,rfl⟩ | ⟨_,hs⟩
  ·exact⟨cells,a_,ty,bq,hw.new,hc.mono fun _ _ k=>k.le bk.le.ca⟩
  ·obtain⟨g2,dF,j0,q1,q2,q3⟩:=b1 s c hs
   exact⟨g2,dF,j0,q1,by show w'.heap[c]?=_;rw[hw.nc c (ku c ⟨s,hs⟩)];exact q2,q3.mono fun _ _ k=>k.le bk.le.ca⟩
theorem w6 {E:Env} {H H':List Blk} {L:List (Nat×List AV)} {w':World} {a_:Array Value} {ty:TypeId} {b cap:Nat} {blk:Blk} (aS:SimH E H) (b1:SimL E L) (hw:nv E.w w' (.cells a_ ty (0,0)))
  (hb:H'[b]?=some blk) (aC: ∀cn,cn≠b→H'[cn]?=H[cn]?) (hlen:b<H.length→H'.length=H.length) (Bx:H.length≤H'.length)
  (kr:(E.m b=none∧blk.bF=E.bF b)∨E.bF b<blk.bF) (mw:a_.size=cap*blk.sz) (gR:blk.rows.length≤cap)
  (aK:vJ E blk.sz blk.rows a_):
  ∃E',E'.w=w'∧Step E E'∧SimH E' H'∧SimL E' L∧E'.bF b=blk.bF∧E'.m b=some (some E.w.heap.size)∧E'.sz b=blk.sz∧E'.cp b=cap∧(∀cn,cn≠b→E'.m cn=E.m cn)∧E'.mL=E.mL:=by
 let E':Env:={E with w:=w',m:=fun cn=>if cn=b then some (some E.w.heap.size) else E.m cn,bF:=fun cn=>if cn=b then blk.bF else E.bF cn,sz:=fun cn=>if cn=b then blk.sz else E.sz cn,cp:=fun cn=>if cn=b then cap else E.cp cn}
 have bk:Step E E':=
  {le:=⟨fun _ h=>h,fun _ h=>h,fun c hc=>hw.nc c (aS.fe c hc),fun c hc=>hw.nc c (aS.fe c (aS.e3 c hc)),fun cn=>by
     show _≤(if cn=b then _ else _)
     split
     ·rename_i e;subst e;rcases kr with⟨_,e⟩ | e<;>omega
     ·exact Nat.le_refl _,fun cn x hx hg=>by
     have pJ:(if cn=b then blk.bF else E.bF cn)=E.bF cn:=hg
     have cl:cn≠b:=fun e=>by
      subst e
      rw[if_pos rfl] at pJ
      rcases kr with⟨aG,_⟩ | e
      ·rw[aG] at hx;cases hx
      ·omega
     refine⟨?_,?_,?_⟩
     ·show(if cn=b then _ else _)=_;rw[if_neg cl];exact hx
     ·show(if cn=b then _ else _)=_;rw[if_neg cl]
     ·show(if cn=b then _ else _)=_;rw[if_neg cl],fun _ _ h=>h⟩
   os:=hw.os,tape:=hw.tape,output:=hw.output
   size:=by show E.w.heap.size≤w'.heap.size;rw[hw.size];omega
   fi:=fun c hc _ _=>hw.nc c hc
   jx:=fun s c hs=>by
    have hs:(if s=b then some (some E.w.heap.size) else E.m s)=some (some c):=hs
    split at hs
    ·cases hs;exact .inr (Nat.le_refl _)
    ·exact .inl hs
   jR:=fun _ h=> .inl h
   fM:=fun _ h=> .inl h
   fN:=fun _ h=> .inl h}
 have hm: ∀s c,E'.m s=some (some c)→(s=b∧c=E.w.heap.size)∨(s≠b∧E.m s=some (some c)):=by
  intro s c hs
  have hs:(if s=b then some (some E.w.heap.size) else E.m s)=some (some c):=hs
  split at hs
  ·rename_i e;cases hs;exact .inl ⟨e,rfl⟩
  ·rename_i e;exact .inr ⟨e,hs⟩
 have kt:=aS.gD
 have ku:=aS.g9
 have cY: ∀s,s≠b→E'.sz s=E.sz s:=fun s hs=>if_neg hs
 have qC: ∀s,s≠b→E'.cp s=E.cp s:=fun s hs=>if_neg hs
 have BK:E'.sz b=blk.sz:=if_pos rfl
 have E0:E'.cp b=cap:=if_pos rfl
 have LQ:E'.bF b=blk.bF:=if_pos rfl
 refine⟨E',rfl,bk,?_,?_,LQ,if_pos rfl,BK,E0,fun cn ek=>if_neg ek,rfl⟩
 ·exact{
   heap:=fun s c hs=>by
    rcases hm s c hs with⟨rfl,rfl⟩ | ⟨cl,hs⟩
    ·refine⟨blk,a_,ty,hb,BK,hw.new,by rw[E0,BK];exact mw,by rw[E0];exact gR,?_⟩
     rw[BK]
     exact⟨aK.1,fun i j row a h1 h2=>by obtain⟨u,hu,fb⟩:=aK.2 i j row a h1 h2;exact⟨u,hu,fb.le bk.le.ca⟩⟩
    ·obtain⟨blk',dF,j0,q1,dX,q2,q3,q4,cR,c6⟩:=aS.heap s c hs
     refine⟨blk',dF,j0,by rw[aC s cl];exact q1,by rw[cY s cl];exact dX,?_,by rw[qC s cl,cY s cl];exact q3,by rw[qC s cl];exact q4,by rw[cY s cl];exact cR,fun i j row a aK aN=> ?_⟩
     ·show w'.heap[c]?=_;rw[hw.nc c (kt c ⟨s,hs⟩)];exact q2
     ·obtain⟨u,hu,fb⟩:=c6 i j row a aK aN
      exact⟨u,by rw[cY s cl];exact hu,fb.le bk.le.ca⟩
   fh:=fun s x hs=>by
    by_cases e:s=b
    ·subst e;rw[hb] at hs;cases hs;exact LQ
    ·rw[aC s e] at hs
     show(if s=b then _ else _)=_
     rw[if_neg e];exact aS.fh s x hs
   hz:=fun s hs=>by
    have hs:(if s=b then some (some E.w.heap.size) else E.m s)=some none:=hs
    split at hs
    ·cases hs
    ·rename_i e
     obtain⟨x,q1,q2⟩:=aS.hz s hs
     exact⟨x,by rw[aC s e];exact q1,by rw[cY s e];exact q2⟩
   fresh:=fun s hs=>by
    have bf:b<H'.length:=(List.getElem?_eq_some_iff.1 hb).1
    have e:s≠b:=by omega
    have:=aS.fresh s (by omega)
    exact⟨by show(if s=b then _ else _)=_;rw[if_neg e];exact this.1,by show(if s=b then _ else _)=_;rw[if_neg e];exact this.2⟩
   h0:=fun s s' c h1 h2=>by
    rcases hm s c h1 with⟨d1,br⟩ | ⟨_,da⟩<;>rcases hm s' c h2 with⟨d2,e2⟩ | ⟨_,ir⟩
    ·rw[d1,d2]
    ·have:=kt c ⟨s',ir⟩;omega
    ·have:=kt c ⟨s,da⟩;omega
    ·exact aS.h0 s s' c da ir
   jS:=aS.jS
   gU:=fun s t c h1 h2=>by
    rcases hm s c h1 with⟨rfl,rfl⟩ | ⟨_,h1⟩
    ·have:=ku _ ⟨t,h2⟩;omega
    ·exact aS.gU s t c h1 h2
   h3:=fun c hc ⟨s,hs⟩=>by
    rcases hm s c hs with⟨rfl,rfl⟩ | ⟨_,hs⟩
    ·have:=aS.fe _ hc;omega
    ·exact aS.h3 c hc ⟨s,hs⟩
   iv:=aS.iv
   e3:=aS.e3
   fe:=fun c hc=>Nat.lt_of_lt_of_le (aS.fe c hc) bk.size
   gD:=fun c ⟨s,hs⟩=>by
    rcases hm s c hs with⟨rfl,rfl⟩ | ⟨_,hs⟩
    ·show _<w'.heap.size;rw[hw.size];omega
    ·exact Nat.lt_of_lt_of_le (kt c ⟨s,hs⟩) bk.size
   g9:=fun c hc=>Nat.lt_of_lt_of_le (ku c hc) bk.size}
 ·intro s c hs
  obtain⟨g2,dF,j0,q1,q2,q3⟩:=b1 s c hs
  exact⟨g2,dF,j0,q1,by show w'.heap[c]?=_;rw[hw.nc c (ku c ⟨s,hs⟩)];exact q2,q3.mono fun _ _ k=>k.le bk.le.ca⟩
theorem PM {E:Env} {H:List Blk} {L:List (Nat×List AV)} {w':World} {b:Nat} {x:Option Nat} {blk blk':Blk} (aS:SimH E H) (b1:SimL E L)
  (hm:E.m b=some x) (hb:H[b]?=some blk) (hg:blk'.bF=blk.bF+1) (m6:blk'.sz=blk.sz)
  (aC:w'.os=E.w.os) (X1:w'.tape=E.w.tape) (XH:w'.output=E.w.output) (cY:w'.heap.size=E.w.heap.size)
  (hw: ∀c,x≠some c→w'.heap[c]?=E.w.heap[c]?)
  (hx: ∀c,x=some c→ ∃a_ ty,w'.heap[c]?=some (.cells a_ ty (0,0))∧a_.size=E.cp b*E.sz b∧blk'.rows.length≤E.cp b∧vJ E (E.sz b) blk'.rows a_):
  ∃E',E'.w=w'∧Step E E'∧SimH E' (H.set b blk')∧SimL E' L∧E'.bF b=blk'.bF∧E'.m=E.m∧E'.sz=E.sz∧E'.cp=E.cp∧E'.mL=E.mL:=by
 let E':Env:={E with w:=w',bF:=fun cn=>if cn=b then blk'.bF else E.bF cn}
 have kr:=aS.fh b blk hb
 have cl: ∀c,E.PA c→x≠some c:=fun c hc e=>aS.h3 c hc ⟨b,by rw[hm,e]⟩
 have bk:Step E E':=
  {le:=⟨fun _ h=>h,fun _ h=>h,fun c hc=>hw c (cl c hc),fun c hc=>hw c (cl c (aS.e3 c hc)),fun cn=>by
     show _≤(if cn=b then _ else _)
     split
     ·rename_i e;subst e;omega
     ·exact Nat.le_refl _,fun cn y bm Xl=>by
     have pJ:(if cn=b then blk'.bF else E.bF cn)=E.bF cn:=Xl
     have wI:cn≠b:=fun e=>by subst e;rw[if_pos rfl] at pJ;omega
     exact⟨bm,rfl,rfl⟩,fun _ _ h=>h⟩
   os:=aC,tape:=X1,output:=XH
   size:=by show E.w.heap.size≤w'.heap.size;rw[cY];exact Nat.le_refl _
   fi:=fun c hc h1 _=>hw c (fun e=>h1 ⟨b,by rw[hm,e]⟩)
   jx:=fun _ _ h=> .inl h
   jR:=fun _ h=> .inl h
   fM:=fun _ h=> .inl h
   fN:=fun _ h=> .inl h}
 have qA:b<H.length:=(List.getElem?_eq_some_iff.1 hb).1
 refine⟨E',rfl,bk,?_,?_,if_pos rfl,rfl,rfl,rfl,rfl⟩
 ·exact{aS with
   heap:=fun s c hs=>by
    by_cases e:s=b
    ·subst e
     have Mr:x=some c:=by
      have:E.m s=some (some c):=hs
      rw[hm] at this;exact Option.some.inj this
     obtain⟨yf,af0,ags,q1,dX,q⟩:=aS.heap s c (by rw[hm,Mr])
     obtain rfl:blk=yf:=by rw[hb] at q1;exact Option.some.inj q1
     obtain⟨a_,ty,h1,h2,aO,bd⟩:=hx c Mr
     exact⟨blk',a_,ty,by rw[List.getElem?_set_self qA],dX.trans m6.symm,h1,h2,aO,bd.1,fun i j row a aK aN=>by
      obtain⟨u,hu,fb⟩:=bd.2 i j row a aK aN;exact⟨u,hu,fb.le bk.le.ca⟩⟩
    ·obtain⟨yf,dF,j0,q1,dX,q2,q3,q4,cR,c6⟩:=aS.heap s c hs
     refine⟨yf,dF,j0,by rw[List.getElem?_set_ne (fun h=>e h.symm)];exact q1,dX,?_,q3,q4,cR,fun i j row a aK aN=> ?_⟩
     ·show w'.heap[c]?=_
      rw[hw c (fun h=>e (aS.h0 s b c hs (by rw[hm,h])))];exact q2
     ·obtain⟨u,hu,fb⟩:=c6 i j row a aK aN
      exact⟨u,hu,fb.le bk.le.ca⟩
   fh:=fun s y hs=>by
    by_cases e:s=b
    ·subst e;rw[List.getElem?_set_self qA] at hs;cases hs;exact if_pos rfl
    ·rw[List.getElem?_set_ne (fun h=>e h.symm)] at hs
     show(if s=b then _ else _)=_
     rw[if_neg e];exact aS.fh s y hs
   hz:=fun s hs=>by
    obtain⟨y,q1,q2⟩:=aS.hz s hs
    by_cases e:s=b
    ·subst e
     obtain rfl:blk=y:=by rw[hb] at q1;exact Option.some.inj q1
     exact⟨blk',by rw[List.getElem?_set_self qA],q2.trans m6.symm⟩
    ·exact⟨y,by rw[List.getElem?_set_ne (fun h=>e h.symm)];exact q1,q2⟩
   fresh:=fun s hs=>by
    rw[List.length_set] at hs
    have e:s≠b:=by omega
    have:=aS.fresh s hs
    exact⟨this.1,by show(if s=b then _ else _)=_;rw[if_neg e];exact this.2⟩
   fe:=fun c hc=>Nat.lt_of_lt_of_le (aS.fe c hc) bk.size
   gD:=fun c hc=>Nat.lt_of_lt_of_le (aS.gD c hc) bk.size
   g9:=fun c hc=>Nat.lt_of_lt_of_le (aS.g9 c hc) bk.size}
 ·intro s c hs
  obtain⟨g2,dF,j0,q1,q2,q3⟩:=b1 s c hs
  refine⟨g2,dF,j0,q1,?_,q3.mono fun _ _ k=>k.le bk.le.ca⟩
  show w'.heap[c]?=_
  rw[hw c (fun e=>aS.gU b s c (by rw[hm,e]) hs)];exact q2
theorem Cb {E:Env} {H:List Blk} {L:List (Nat×List AV)} {blk:Blk} (aS:SimH E H) (b1:SimL E L) (hg:blk.bF=0) (aK:blk.rows=[]):
  ∃E',E'.w=E.w∧Step E E'∧SimH E' (H++[blk])∧SimL E' L∧E'.bF H.length=0∧E'.m H.length=some none∧(∀b,b≠H.length→E'.m b=E.m b)∧E'.mL=E.mL:=by
 have hs:=aS.snoc hg
 have aG:=aS.fresh H.length (Nat.le_refl _)
 let E':Env:={E with m:=fun b=>if b=H.length then some none else E.m b,sz:=fun b=>if b=H.length then blk.sz else E.sz b}
 have rY: ∀b c,E'.m b=some (some c)→E.m b=some (some c)∧b≠H.length:=by
  intro b c h
  have h:(if b=H.length then some none else E.m b)=some (some c):=h
  split at h
  ·cases h
  ·exact⟨h,by assumption⟩
 have bk:Step E E':=
  {le:=⟨fun _ h=>h,fun _ h=>h,fun _ _=>rfl,fun _ _=>rfl,fun _=>Nat.le_refl _,fun b x hx _=>by
     have cl:b≠H.length:=fun e=>by subst e;rw[aG.1] at hx;cases hx
     exact⟨by show(if b=H.length then _ else _)=_;rw[if_neg cl];exact hx,by show(if b=H.length then _ else _)=_;rw[if_neg cl],rfl⟩,fun _ _ h=>h⟩
   os:=rfl,tape:=rfl,output:=rfl,size:=Nat.le_refl _
   fi:=fun _ _ _ _=>rfl
   jx:=fun b c h=> .inl (rY b c h).1
   jR:=fun _ h=> .inl h
   fM:=fun _ h=> .inl h
   fN:=fun _ h=> .inl h}
 refine⟨E',rfl,bk,?_,fun s c hm=> ?_,aG.2,if_pos rfl,fun b hb=>if_neg hb,rfl⟩
 ·exact{hs with
   heap:=fun b c h=>by
    obtain⟨h,cl⟩:=rY b c h
    obtain⟨yf,dF,j0,q1,dX,q2,q3,q4,cR,c6⟩:=hs.heap b c h
    have cY:E'.sz b=E.sz b:=if_neg cl
    exact⟨yf,dF,j0,q1,by rw[cY];exact dX,q2,by rw[cY];exact q3,q4,by rw[cY];exact cR,fun i j row a aK aN=>by
     obtain⟨u,hu,fb⟩:=c6 i j row a aK aN
     exact⟨u,by rw[cY];exact hu,fb.le bk.le.ca⟩⟩
   hz:=fun b h=>by
    by_cases e:b=H.length
    ·subst e
     exact⟨blk,by simp,if_pos rfl⟩
    ·have h:E.m b=some none:=by
      have h:(if b=H.length then some none else E.m b)=some none:=h
      rwa [if_neg e] at h
     obtain⟨y,q1,q2⟩:=hs.hz b h
     exact⟨y,q1,by show(if b=H.length then _ else _)=_;rw[if_neg e];exact q2⟩
   fresh:=fun b h=>by
    have:=hs.fresh b h
    have e:b≠H.length:=by simp at h;omega
    exact⟨by show(if b=H.length then _ else _)=_;rw[if_neg e];exact this.1,this.2⟩
   h0:=fun b cn c h1 h2=>hs.h0 b cn c (rY b c h1).1 (rY cn c h2).1
   gU:=fun b t c h1 h2=>hs.gU b t c (rY b c h1).1 h2
   h3:=fun c hc ⟨b,h⟩=>hs.h3 c hc ⟨b,(rY b c h).1⟩
   gD:=fun c ⟨b,h⟩=>hs.gD c ⟨b,(rY b c h).1⟩}
 ·obtain⟨g2,dF,j0,q1,q2,q3⟩:=b1 s c hm
  exact⟨g2,dF,j0,q1,q2,q3.mono fun _ _ k=>k.le bk.le.ca⟩
def zI (fr:Bool) (row:List AV):List AV:=match fr with
 | true=>row.map pa
 | false=>row
def lJ (fr:Bool) (rows:List (List AV)):List (List AV):=match fr with
 | true=>rows.map fun row=>row.map pa
 | false=>rows
theorem abM (fr:Bool) (rows:List (List AV)):lJ fr rows=rows.map (zI fr):=by
 cases fr
 ·show rows=rows.map fun row=>row
  simp
 ·rfl
theorem abL (fr:Bool) (row:List AV):(zI fr row).length=row.length:=by
 cases fr<;>simp[zI]
def rowsOf (H:List Blk) (x:AV):Option (List (List AV)):=match x with
 | .bC rows _ fr=>some (lJ fr rows)
 | .ref b g off n _=>(H[b]?).bind fun blk=>if blk.bF=g∧off+n≤blk.rows.length then some ((blk.rows.drop off).take n) else none
 | .str s=>some (s.data.toList.map fun c=>[.int .u8 c.toNat])
 | _=>none
def PT (H:List Blk) (x:AV) (K:List (List AV)→Prop):Prop:=match x with
 | .bC rows _ fr=>K (lJ fr rows)
 | .ref b g off n _=>c5 H[b]? fun blk=>blk.bF=g∧off+n≤blk.rows.length∧K ((blk.rows.drop off).take n)
 | .str s=>K (s.data.toList.map fun c=>[.int .u8 c.toNat])
 | _=>False
theorem abT {H:List Blk} {x:AV} {K:List (List AV)→Prop} (h:PT H x K): ∃ck,rowsOf H x=some ck∧K ck:=by
 cases x with
 | bC rows full fr=>exact⟨_,rfl,h⟩
 | ref b g off n full=>
  obtain⟨blk,hb,h1,h2,aO⟩:=fC (show c5 H[b]? fun blk=>blk.bF=g∧off+n≤blk.rows.length∧K ((blk.rows.drop off).take n) from h)
  exact⟨_,by show(H[b]?).bind _=_;rw[hb];show(if blk.bF=g∧off+n≤blk.rows.length then _ else _)=_;rw[if_pos ⟨h1,h2⟩],aO⟩
 | str s=>exact⟨_,rfl,h⟩
 | _=>exact h.elim
def tS (P:Program) (e t2:TypeId) (x:AV):Bool:=match x with
 | .str _=>(match P.underlying t2 with
  | some .string=>(match P.underlying e with
   | some (.int .u8)=>P.cellsOf e==1
   | _=>false)
  | _=>false)
 | _=>(match P.underlying t2 with
  | some (.slice e2)=>e2==e
  | _=>false)
def q_ (n:Nat) (ck:List (List AV)):Prop:= ∀row∈ck,row.length=n∧ ∀a∈row,jk a=true
abbrev oF (r:Type):Type:=AV→List (Nat×List AV)→List Blk→r
def tR (P:Program) (t t2:TypeId) (s x:AV) (L:List (Nat×List AV)) (H:List Blk) (K:oF Prop):Prop:=
 c5 (jv P t) fun e=>c5 (ns P e) fun z=>if z.length=P.cellsOf e∧0<z.length∧tS P e t2 x=true then PT H x fun ck=>
  q_ z.length ck∧(match s with
  | .bC rows full fr=>full=true∧(∀row∈rows,row.length=z.length)∧(rows.length+ck.length)*P.bytesOf e≤140737488355328∧rows.length+ck.length≤4611686018427387904∧(rows≠[]→ck≠[])∧
    K (.ref H.length 0 0 (rows.length+ck.length) false) L (H++[⟨0,z.length,rows++ck⟩])
  | .ref b g off n full=>off=0∧c5 H[b]? fun blk=>blk.bF=g∧blk.sz=z.length∧blk.rows.length=n∧(n+ck.length)*P.bytesOf e≤140737488355328∧n+ck.length≤4611686018427387904∧
    K (.ref b (g+1) 0 (n+ck.length) false) L (H.set b ⟨g+1,z.length,blk.rows++ck⟩)
  | _=>False)
 else False
structure Ap (P:Program) (E:Env) (t2:TypeId) (size:Nat) (ck:List (List AV)) (iV:Value) (news:List Value):Prop where
 len:news.length=ck.length*size
 rel: ∀(i j:Nat) (row:List AV) (a:AV),ck[i]?=some row→row[j]?=some a→ ∃u,news[i*size+j]?=some u∧cM E.ca a u∧u.oneCell'=true
 one: ∀u∈news,u.oneCell'=true
 num:(∃e2,P.underlying t2=some (.slice e2))∨P.underlying t2=some .string
 lenOf: ∀w,(Builtin.lenOf iV).run P w= .ok ck.length w
 cells: ∀w,(w=E.w∨w=E.w.drew)→(Builtin.firstCells size ck.length iV).run P w= .ok news.toArray w
theorem OR {size:Nat} {ck:List (List AV)} {news:List Value} {R:AV→Value→Prop} (fA: ∀row∈ck,row.length=size) (len:news.length=ck.length*size)
  (rel: ∀(i j:Nat) (row:List AV) (a:AV),ck[i]?=some row→row[j]?=some a→ ∃u,news[i*size+j]?=some u∧R a u∧u.oneCell'=true): ∀u∈news,u.oneCell'=true:=by
 intro u hu
 obtain⟨k,hk⟩:=List.mem_iff_getElem?.1 hu
 have kO:k<ck.length*size:=by rw[←len];exact(List.getElem?_eq_some_iff.1 hk).1
 have lB:0<size:=by
  rcases Nat.eq_zero_or_pos size with q | q
  ·rw[q,Nat.mul_zero] at kO;omega
  ·exact q
 have hi:k / size<ck.length:=(Nat.div_lt_iff_lt_mul lB).2 kO
 have e1:=List.getElem?_eq_getElem hi
 have hlen:(ck[k / size]).length=size:=fA _ (List.getElem_mem hi)
 have aN:k%size<(ck[k / size]).length:=by rw[hlen];exact Nat.mod_lt _ lB
 obtain⟨v,h1,h2,aO⟩:=rel (k / size) (k%size) _ _ e1 (List.getElem?_eq_getElem aN)
 rw[Nat.div_add_mod' k size,hk] at h1
 cases h1;exact aO
theorem afB {P:Program} {e t2:TypeId} {x:AV} {ck:List (List AV)} {E:Env} {H:List Blk} {iV:Value} {size:Nat} (aS:SimH E H) (hx:V2 E x iV) (cY:size=P.cellsOf e) (bq:tS P e t2 x=true)
  (aK:rowsOf H x=some ck) (fA:q_ size ck): ∃news,Ap P E t2 size ck iV news:=by
 have By: ∀row∈ck,row.length=size:=fun row h=>(fA row h).1
 cases x with
 | bC rows full fr=>
  have il:lJ fr rows=ck:=Option.some.inj aK
  have br:ck=rows.map (zI fr):=by rw[←il];exact abM fr rows
  have BC:ck.length=rows.length:=by rw[br,List.length_map]
  have lC: ∀row∈rows,row.length=size:=fun row h=>by
   rw[←abL fr row];exact By _ (by rw[br];exact List.mem_map_of_mem h)
  have hu: ∃e2,P.underlying t2=some (.slice e2):=by
   unfold tS at bq
   simp only at bq
   split at bq
   ·exact⟨_,by assumption⟩
   ·cases bq
  obtain⟨e2,hu⟩:=hu
  have jQ:bH E.w E.PA E.PF (.bC rows full fr) iV:=hx
  cases jQ with
  | @bC _ _ PB _ _ _ A cap sz vs gq gR ht y5 fl ec=>
   let news:List Value:=(List.range (rows.length*size)).map fun k=>vs (k / size) (k%size)
   have mz:news.length=rows.length*size:=by simp[news]
   have ho: ∀i j,i<rows.length→j<size→news[i*size+j]?=some (vs i j):=by
    intro i j hi aN
    have hk:i*size+j<rows.length*size:=by
     calc i*size+j<i*size+size:=by omega
      _=(i+1)*size:=by rw[Nat.add_mul,Nat.one_mul]
      _≤rows.length*size:=Nat.mul_le_mul_right _ (by omega)
    show((List.range (rows.length*size)).map _)[i*size+j]?=_
    rw[List.getElem?_map,List.getElem?_range hk]
    have h1:(i*size+j) / size=i:=by
     rw[Nat.add_comm,Nat.add_mul_div_right _ _ (by omega),Nat.div_eq_of_lt aN];omega
    have h2:(i*size+j)%size=j:=by
     rw[Nat.add_comm,Nat.add_mul_mod_self_right,Nat.mod_eq_of_lt aN]
    simp[h1,h2]
   have rel: ∀(i j:Nat) (row:List AV) (a:AV),ck[i]?=some row→row[j]?=some a→ ∃u,news[i*size+j]?=some u∧cM E.ca a u∧u.oneCell'=true:=by
    intro i j row a h1 h2
    have y3:=fA row (List.mem_of_getElem? h1)
    have aN:j<size:=by rw[←y3.1];exact(List.getElem?_eq_some_iff.1 h2).1
    have hs:=y3.2 a (List.mem_of_getElem? h2)
    rw[br,List.getElem?_map] at h1
    cases ak:rows[i]? with
    | none=>rw[ak] at h1;cases h1
    | some xB=>
     rw[ak] at h1
     have h1:zI fr xB=row:=Option.some.inj h1
     have k_:cM E.ca a (vs i j):=by
      cases fr with
      | false=>
       have h1:xB=row:=h1
       subst h1
       exact bH.v1 (E:=E.ca) ((ec i j xB a ak h2).mono (fun _ _=>rfl) (fun _ h=>h.elim) (fun c hc=>show E.PA c by have:=gq c hc;simpa using this) (fun _ h=>h.elim))
      | true=>
       have h1:xB.map pa=row:=h1
       subst h1
       rw[List.getElem?_map] at h2
       cases kw:xB[j]? with
       | none=>rw[kw] at h2;cases h2
       | some J=>
        rw[kw] at h2
        have h2:pa J=a:=Option.some.inj h2
        subst h2
        exact bH.v1 (E:=E.ca) (abK (ec i j xB J ak kw) (fun c hc=>show E.PF c by have:=gq c hc;simpa using this) aS.e3)
     exact⟨_,ho i j (List.getElem?_eq_some_iff.1 ak).1 aN,k_,k_.Ci hs⟩
   refine⟨news,by rw[BC];exact mz,rel,OR By (by rw[BC];exact mz) rel,.inl ⟨_,hu⟩,fun w=>by rw[BC];rfl,fun w hw=> ?_⟩
   rw[BC]
   have E2: ∀a,w.cell? a=E.w.cell? a:=by rcases hw with rfl | rfl<;>intro a<;>rfl
   by_cases aP:rows.length=0
   ·have aG:news=[]:=List.eq_nil_of_length_eq_zero (by rw[mz,aP,Nat.zero_mul])
    rw[aG,aP]
    cases A with
    | none=>exact run_firstCells_none w size 0 _ _
    | some lU=>
     have:=run_firstCells_some (P:=P) w size 0 lU 0 cap [] (by simp) (fun j v h=>by simp at h)
     exact this
   ·obtain⟨c,o,rfl,hc,eK⟩:=fl (by omega)
    refine run_firstCells_some (P:=P) w size rows.length ⟨c,o,none⟩ rows.length cap news mz (fun k v hk=> ?_)
    have kO:k<rows.length*size:=by rw[←mz];exact(List.getElem?_eq_some_iff.1 hk).1
    have lB:0<size:=by
     rcases Nat.eq_zero_or_pos size with q | q
     ·rw[q,Nat.mul_zero] at kO;omega
     ·exact q
    have hi:k / size<rows.length:=(Nat.div_lt_iff_lt_mul lB).2 kO
    have aN:k%size<size:=Nat.mod_lt _ lB
    have Mm:sz=size:=by
     have:=y5 _ _ (List.getElem?_eq_getElem hi)
     rw[←this];exact lC _ (List.getElem_mem hi)
    have h1:=eK (k / size) (k%size) hi (by rw[Mm];exact aN)
    have h2:=ho (k / size) (k%size) hi aN
    rw[Nat.div_add_mod' k size] at h2
    rw[hk] at h2
    cases h2
    rw[n6,E2]
    rw[Mm,Nat.div_add_mod' k size] at h1
    exact h1
 | ref b g off n full=>
  have hu: ∃e2,P.underlying t2=some (.slice e2):=by
   unfold tS at bq
   simp only at bq
   split at bq
   ·exact⟨_,by assumption⟩
   ·cases bq
  obtain⟨e2,hu⟩:=hu
  have aK:((H[b]?).bind fun blk=>if blk.bF=g∧off+n≤blk.rows.length then some ((blk.rows.drop off).take n) else none)=some ck:=aK
  cases hb:H[b]? with
  | none=>simp[hb] at aK
  | some blk=>
   simp only[hb,Option.bind_some] at aK
   split at aK
   case isFalse=>cases aK
   case isTrue hc=>
   obtain⟨hg,s3⟩:=hc
   cases aK
   have kr:=aS.fh b blk hb
   have qL:((blk.rows.drop off).take n).length=n:=by simp;omega
   have X6: ∀i row,((blk.rows.drop off).take n)[i]?=some row→blk.rows[off+i]?=some row:=by
    intro i row h
    rw[List.getElem?_take] at h
    split at h
    ·rw[List.getElem?_drop] at h;exact h
    ·cases h
   rcases(show fx E (.ref b g off n full) iV from hx) with⟨b0,_⟩ | ⟨fV,b0⟩
   ·omega
   ·rcases b0 with⟨_,_,my,A,rfl⟩ | ⟨c,cap,hm,rfl,oX,oo,qC⟩
    ·subst my
     refine⟨[],by simp,fun i j row a h=>by simp at h,(fun u hu=>by cases hu),.inl ⟨_,hu⟩,fun w=>by simp;rfl,fun w hw=> ?_⟩
     rw[qL]
     cases A with
     | none=>exact run_firstCells_none w size 0 _ _
     | some lU=>exact run_firstCells_some (P:=P) w size 0 lU 0 0 [] (by simp) (fun j v h=>by simp at h)
    ·obtain⟨blk',a_,ty,q1,dX,hw,mw,ol,gB⟩:=aS.heap b c hm
     obtain rfl:blk=blk':=by rw[hb] at q1;exact Option.some.inj q1
     by_cases my:n=0
     ·subst my
      refine⟨[],by simp,fun i j row a h=>by simp at h,(fun u hu=>by cases hu),.inl ⟨_,hu⟩,fun w=>by simp;rfl,fun w hw=> ?_⟩
      rw[qL]
      exact run_firstCells_some (P:=P) w size 0 _ 0 cap [] (by simp) (fun j v h=>by simp at h)
     ·have Fu:E.sz b=size:=by
       have bf:off<blk.rows.length:=by omega
       have aT:((blk.rows.drop off).take n)[0]?=some blk.rows[off]:=by
        rw[List.getElem?_take,if_pos (by omega),List.getElem?_drop,Nat.add_zero,List.getElem?_eq_getElem bf]
       rw[←gB.1 off _ (List.getElem?_eq_getElem bf)]
       exact By _ (List.mem_of_getElem? aT)
      let news:List Value:=(a_.toList.drop (off*size)).take (n*size)
      have W2:off*size+n*size≤a_.size:=by
       rw[mw,Fu,←Nat.add_mul];exact Nat.mul_le_mul_right _ (by omega)
      have mz:news.length=n*size:=by simp[news];omega
      have L_: ∀k,k<n*size→news[k]?=a_[off*size+k]?:=by
       intro k hk
       show((a_.toList.drop (off*size)).take (n*size))[k]?=_
       rw[List.getElem?_take,if_pos hk,List.getElem?_drop,Array.getElem?_toList]
      have rel: ∀(i j:Nat) (row:List AV) (a:AV),((blk.rows.drop off).take n)[i]?=some row→row[j]?=some a→ ∃u,news[i*size+j]?=some u∧cM E.ca a u∧u.oneCell'=true:=by
       intro i j row a h1 h2
       have y3:=fA row (List.mem_of_getElem? h1)
       have aN:j<size:=by rw[←y3.1];exact(List.getElem?_eq_some_iff.1 h2).1
       have hi:i<n:=by have:=(List.getElem?_eq_some_iff.1 h1).1;rw[qL] at this;exact this
       obtain⟨u,wQ,wR⟩:=gB.2 (off+i) j row a (X6 i row h1) h2
       have hk:i*size+j<n*size:=by
        calc i*size+j<i*size+size:=by omega
         _=(i+1)*size:=by rw[Nat.add_mul,Nat.one_mul]
         _≤n*size:=Nat.mul_le_mul_right _ (by omega)
       refine⟨u,?_,wR,wR.Ci (y3.2 a (List.mem_of_getElem? h2))⟩
       rw[L_ _ hk,←wQ,Fu]
       congr 1
       rw[Nat.add_mul];omega
      refine⟨news,by rw[qL];exact mz,rel,OR By (by rw[qL];exact mz) rel,.inl ⟨_,hu⟩,fun w=>by rw[qL];rfl,fun w e4=> ?_⟩
      have E2: ∀a,w.cell? a=E.w.cell? a:=by rcases e4 with rfl | rfl<;>intro a<;>rfl
      rw[qL]
      refine run_firstCells_some (P:=P) w size n _ n cap news mz (fun k v hk=> ?_)
      have kO:k<n*size:=by rw[←mz];exact(List.getElem?_eq_some_iff.1 hk).1
      rw[L_ k kO] at hk
      rw[n6,E2,Fu]
      exact cell_of hw hk
 | str s=>
  obtain rfl:=V3.xL (qf hx)
  cases aK
  unfold tS at bq
  simp only at bq
  split at bq
  case h_2=>cases bq
  case h_1 hu=>
  split at bq
  case h_2=>cases bq
  case h_1 he=>
  have fL:size=1:=by rw[cY];simpa using bq
  subst fL
  have y6:s.data.toList.length=s.size:=by simp
  refine⟨s.data.toList.map fun c=> .int .u8 c.toNat,by simp,fun i j row a h1 h2=> ?_,fun u hu=> ?_,.inr hu,fun w=> ?_,fun w hw=> ?_⟩
  ·rw[List.getElem?_map] at h1
   cases hc:s.data.toList[i]? with
   | none=>rw[hc] at h1;cases h1
   | some c=>
    rw[hc] at h1
    cases h1
    have LY:j=0:=by have:=(List.getElem?_eq_some_iff.1 h2).1;simp at this;omega
    subst LY
    cases h2
    exact⟨.int .u8 c.toNat,by rw[List.getElem?_map,Nat.mul_one,Nat.add_zero,hc];rfl,bH.int _ _,rfl⟩
  ·obtain⟨c,_,rfl⟩:=List.mem_map.1 hu;rfl
  ·show Result.ok s.size w=_
   rw[List.length_map,y6]
  ·rw[List.length_map,y6]
   show Result.ok ((s.extract 0 s.size).data.map fun b=>Value.int .u8 b.toNat) w=_
   congr 1
   apply Array.ext'
   simp
 | _=>cases aK
section
variable {P:Program} {E:Env} {t t2 ty e:TypeId} {size:Nat} {ck:List (List AV)} {iV:Value} {news:List Value}
theorem PW (X:Ap P E t2 size ck iV news) (bq:P.underlying t=some (.slice e)) (hi:(P.info? e).isSome=true) (cY:P.cellsOf e=size) {base:Option Addr} {sLen sCap:Nat} (aG:ck.length=0) (hc:sLen≤sCap):
  (Builtin.append_ #[t,t2] ty #[.slice base sLen sCap,iV]).run P E.w= .ok (.slice base sLen sCap) E.w:=by
 have aL:=X.lenOf E.w
 have hf:=X.cells E.w (.inl rfl)
 have Xv:news=[]:=List.eq_nil_of_length_eq_zero (by rw[X.len,aG,Nat.zero_mul])
 subst Xv
 rw[aG] at aL hf
 rcases X.num with⟨e2,hu⟩ | hu<;>
  (simp[Builtin.append_,run_underlying bq,run_underlying hu,run_sizeOf hi,cY,aL,hc,hf]
   cases base<;>simp[storeCells])
theorem abV (X:Ap P E t2 size ck iV news) (bq:P.underlying t=some (.slice e)) (hi:(P.info? e).isSome=true) (cY:P.cellsOf e=size) {g o sLen sCap:Nat} {dd:Array Value} {ce:TypeId}
  (hg:E.w.heap[g]?=some (.cells dd ce (0,0))) (wN:sLen+ck.length≤sCap) (m7:o+sLen*size+news.length≤dd.size):
  (Builtin.append_ #[t,t2] ty #[.slice (some ⟨g,o,none⟩) sLen sCap,iV]).run P E.w= .ok (.slice (some ⟨g,o,none⟩) (sLen+ck.length) sCap) (E.w.setRow g (dd.toList.take (o+sLen*size)++news++dd.toList.drop (o+sLen*size+news.length)).toArray):=by
 have aL:=X.lenOf E.w
 have hf:=X.cells E.w (.inl rfl)
 have bk:=run_storeCells_at (P:=P) g (o+sLen*size) ce news 0 dd E.w hg (by simpa using m7) X.one
 simp only[Nat.add_zero] at bk
 rcases X.num with⟨e2,hu⟩ | hu<;>
  simp[Builtin.append_,run_underlying bq,run_underlying hu,run_sizeOf hi,cY,aL,wN,hf,n6,bk]
theorem abW (X:Ap P E t2 size ck iV news) (bq:P.underlying t=some (.slice e)) {i:TypeInfo} (hi:P.info? e=some i) (cY:i.size=size) {z:Value} (aP:i.zero=some z) {base:Option Addr} {sLen sCap:Nat} {kz:Array Value}
  (holds:(Builtin.firstCells size sLen (.slice base sLen sCap)).run P E.w.drew= .ok kz E.w.drew) (hg:sCap<sLen+ck.length) (Bi:((sLen+ck.length:Nat):Int)≤9223372036854775807)
  (m7:Builtin.nextslicecap (sLen+ck.length) sCap*i.bytes≤281474976710656):
  (Builtin.append_ #[t,t2] ty #[.slice base sLen sCap,iV]).run P E.w= .ok (.slice (some ⟨E.w.heap.size,0,none⟩) (sLen+ck.length) (grownCap E.w (sLen+ck.length) sCap e))
   (E.w.drew.alloc (.cells (kz++news.toArray++Builtin.zeroCells z.cells (grownCap E.w (sLen+ck.length) sCap e - (sLen+ck.length))) e)):=by
 have aL:=X.lenOf E.w
 have hf:=X.cells E.w.drew (.inr rfl)
 subst cY
 have aG: ¬(sLen+ck.length≤sCap):=by omega
 have WL: ¬(9223372036854775807<((sLen:Int)+(ck.length:Int))):=by omega
 have WJ: ¬(281474976710656<Builtin.nextslicecap (sLen+ck.length) sCap*i.bytes):=by omega
 rcases X.num with⟨e2,hu⟩ | hu<;>
  simp[Builtin.append_,run_underlying bq,run_underlying hu,sizeOf,typeInfo,zeroValue,hi,aP,aL,aG,WL,WJ,Question.forced,hf,holds,newRow,grownCap]
end
theorem TE {P:Program} {t t2 ty:TypeId} {s x:AV} {L:List (Nat×List AV)} {H:List Blk} {K:AV→List (Nat×List AV)→List Blk→Prop} {E:Env} {xM iV:Value}
  (aS:SimH E H) (b1:SimL E L) (hs:V2 E s xM) (hx:V2 E x iV) (h:tR P t t2 s x L H K):
  ∃r u H' E',K r L H'∧(Builtin.append_ #[t,t2] ty #[xM,iV]).run P E.w= .ok u E'.w∧Step E E'∧SimH E' H'∧SimL E' L∧V3 E' r u∧E'.mL=E.mL:=by
 obtain⟨e,he,h⟩:=fC h
 obtain⟨z,aP,h⟩:=fC h
 have bq:=sM he
 split at h
 case isFalse=>exact h.elim
 case isTrue hc=>
 obtain⟨ow,lB,pE⟩:=hc
 obtain⟨ck,BR,fA,h⟩:=abT h
 obtain⟨i,vE,hi,uH,uF,uG⟩:=vD (E:=E.ca) aP
 obtain⟨news,X⟩:=afB aS hx ow pE BR fA
 have yS:(P.info? e).isSome=true:=by rw[hi];rfl
 have wE:i.size=z.length:=by rw[ow];simp[Program.cellsOf,hi]
 have wC:i.bytes=P.bytesOf e:=by simp[Program.bytesOf,hi]
 have Yc:vE.cells.size=z.length:=by rw[uF];simp

 have out: ∀(base:Option Addr) (rows:List (List AV)) (sCap:Nat) (kz:Array Value) (b g:Nat) (H':List Blk),xM= .slice base rows.length sCap→
   (Builtin.firstCells z.length rows.length (.slice base rows.length sCap)).run P E.w.drew= .ok kz E.w.drew→kz.size=rows.length*z.length→
   (∀row∈rows,row.length=z.length)→(∀(i j:Nat) (row:List AV) (a:AV),rows[i]?=some row→row[j]?=some a→ ∃u,kz[i*z.length+j]?=some u∧cM E.ca a u)→
   sCap<rows.length+ck.length→(rows.length+ck.length)*P.bytesOf e≤140737488355328→rows.length+ck.length≤4611686018427387904→
   H'[b]?=some ⟨g,z.length,rows++ck⟩→(∀cn,cn≠b→H'[cn]?=H[cn]?)→(b<H.length→H'.length=H.length)→H.length≤H'.length→((E.m b=none∧g=E.bF b)∨E.bF b<g)→
   K (.ref b g 0 (rows.length+ck.length) false) L H'→ ∃r u H' E',K r L H'∧(Builtin.append_ #[t,t2] ty #[xM,iV]).run P E.w= .ok u E'.w∧Step E E'∧SimH E' H'∧SimL E' L∧V3 E' r u∧E'.mL=E.mL:=by
  intro base rows sCap kz b g H' XX holds Me lC XG wN hby g5 ek aC hlen Bx kr hK
  subst XX
  have fX:=abW (ty:=ty) X bq hi wE uH holds wN (by omega) (growslice_fits (by omega) (by rw[wC];exact hby))
  have EZ:=grownCap_ge E.w (rows.length+ck.length) sCap e
  let cap:=grownCap E.w (rows.length+ck.length) sCap e
  let a_:Array Value:=kz++news.toArray++Builtin.zeroCells vE.cells (cap - (rows.length+ck.length))
  have mw:a_.size=cap*z.length:=by
   show(kz++news.toArray++Builtin.zeroCells vE.cells (cap - (rows.length+ck.length))).size=_
   have br:(kz++news.toArray++Builtin.zeroCells vE.cells (cap - (rows.length+ck.length))).size=kz.size+news.length+(Builtin.zeroCells vE.cells (cap - (rows.length+ck.length))).size:=by simp;omega
   rw[br,size_zeroCells,Yc,Me,X.len,←Nat.add_mul,←Nat.add_mul]
   congr 1
   have:rows.length+ck.length≤cap:=EZ
   omega
  have gB:vJ E z.length (rows++ck) a_:=by
   refine⟨fun k row aK=> ?_,fun k j row a aK aN=> ?_⟩
   ·rcases Nat.lt_or_ge k rows.length with bf | fV
    ·rw[List.getElem?_append_left bf] at aK;exact lC row (List.mem_of_getElem? aK)
    ·rw[List.getElem?_append_right fV] at aK;exact(fA row (List.mem_of_getElem? aK)).1
   ·rcases Nat.lt_or_ge k rows.length with bf | fV
    ·rw[List.getElem?_append_left bf] at aK
     obtain⟨u,hu,hv⟩:=XG k j row a aK aN
     refine⟨u,?_,hv⟩
     have kO:=(Array.getElem?_eq_some_iff.1 hu).1
     show(kz++news.toArray++_)[k*z.length+j]?=_
     rw[Array.getElem?_append_left (by rw[Array.size_append];omega),Array.getElem?_append_left kO];exact hu
    ·rw[List.getElem?_append_right fV] at aK
     obtain⟨u,hu,hv,_⟩:=X.rel _ j row a aK aN
     refine⟨u,?_,hv⟩
     have kO:=(List.getElem?_eq_some_iff.1 hu).1
     have ou:k*z.length+j=kz.size+((k - rows.length)*z.length+j):=by
      rw[Me,←Nat.add_assoc,←Nat.add_mul];congr 2;omega
     show(kz++news.toArray++_)[k*z.length+j]?=_
     rw[ou,Array.getElem?_append_left (by simp;omega),Array.getElem?_append_right (by omega),Nat.add_sub_cancel_left]
     simpa using hu
  obtain⟨E',hw,bk,r0,r1,pJ,nF,l7,Bl,_,hml⟩:=w6 (cap:=cap) (blk:=⟨g,z.length,rows++ck⟩) aS b1 (nv.UQ E.w (.cells a_ e (0,0))) ek aC hlen Bx kr mw (by
   show(rows++ck).length≤cap
   rw[List.length_append];exact EZ) gB
  refine⟨_,_,_,E',hK,by rw[hw];exact fX,bk,r0,r1,.inr ⟨pJ.symm,.inr ⟨_,_,nF,?_,EZ,(fun h=>by cases h),?_⟩⟩,hml⟩
  ·rw[Nat.zero_mul]
  ·rw[Bl,Nat.zero_add];exact Nat.le_refl _
 cases s with
 | bC rows full fr=>
  obtain⟨ht,lC,hby,g5,cl,hK⟩:=h
  subst ht
  have l7:bH E.w E.PA E.PF (.bC rows true fr) xM:=hs
  cases l7 with
  | @bC _ _ PB _ _ _ A cap sz vs gq gR ht cY fl ec=>
   have W6:=ht rfl
   subst W6
   by_cases hY:ck.length=0
   ·have BS:ck=[]:=List.eq_nil_of_length_eq_zero hY
    have pM:rows=[]:=Classical.byContradiction fun b0=>cl b0 BS
    subst pM;subst BS
    obtain⟨E',hw,bk,r0,r1,pJ,nF,_,hml⟩:=Cb (blk:=⟨0,z.length,[]++[]⟩) aS b1 rfl rfl
    have fX:=PW (ty:=ty) X bq yS ow.symm (base:=A) (sLen:=0) (sCap:=0) rfl (Nat.le_refl _)
    exact⟨_,_,_,E',hK,by rw[hw];exact fX,bk,r0,r1,.inr ⟨pJ.symm,.inl ⟨nF,rfl,rfl,A,rfl⟩⟩,hml⟩
   ·have XZ:0<rows.length→sz=z.length:=fun aI=>by
     rw[←cY 0 _ (List.getElem?_eq_getElem aI)];exact lC _ (List.getElem_mem aI)
    let kz:List Value:=(List.range (rows.length*z.length)).map fun k=>vs (k / z.length) (k%z.length)
    have wK:kz.length=rows.length*z.length:=by simp[kz]
    have ho: ∀i j,i<rows.length→j<z.length→kz[i*z.length+j]?=some (vs i j):=by
     intro i j hi aN
     have hk:i*z.length+j<rows.length*z.length:=by
      calc i*z.length+j<i*z.length+z.length:=by omega
       _=(i+1)*z.length:=by rw[Nat.add_mul,Nat.one_mul]
       _≤rows.length*z.length:=Nat.mul_le_mul_right _ (by omega)
     show((List.range (rows.length*z.length)).map _)[i*z.length+j]?=_
     rw[List.getElem?_map,List.getElem?_range hk]
     have h1:(i*z.length+j) / z.length=i:=by
      rw[Nat.add_comm,Nat.add_mul_div_right _ _ (by omega),Nat.div_eq_of_lt aN];omega
     have h2:(i*z.length+j)%z.length=j:=by
      rw[Nat.add_comm,Nat.add_mul_mod_self_right,Nat.mod_eq_of_lt aN]
     simp[h1,h2]
    refine out A rows rows.length kz.toArray H.length 0 _ rfl ?_ (by simp[wK]) lC (fun i j row a h1 h2=> ?_) (by omega) hby g5 (by simp) (fun cn ek=> ?_) (fun b0=>by omega) (by simp) (.inl ⟨(aS.fresh _ (Nat.le_refl _)).1,(aS.fresh _ (Nat.le_refl _)).2.symm⟩) hK
    ·by_cases pM:rows.length=0
     ·have aT:kz=[]:=List.eq_nil_of_length_eq_zero (by rw[wK,pM,Nat.zero_mul])
      rw[aT,pM]
      cases A with
      | none=>exact run_firstCells_none _ _ _ _ _
      | some lU=>exact run_firstCells_some (P:=P) _ z.length 0 lU 0 0 [] (by simp) (fun j v h=>by simp at h)
     ·obtain⟨c,o,rfl,hc,eK⟩:=fl (by omega)
      refine run_firstCells_some (P:=P) E.w.drew z.length rows.length ⟨c,o,none⟩ rows.length rows.length kz wK (fun k v hk=> ?_)
      have kO:k<rows.length*z.length:=by rw[←wK];exact(List.getElem?_eq_some_iff.1 hk).1
      have hi:k / z.length<rows.length:=(Nat.div_lt_iff_lt_mul lB).2 kO
      have aN:k%z.length<z.length:=Nat.mod_lt _ lB
      have r4:=XZ (by omega)
      have h1:=eK (k / z.length) (k%z.length) hi (by rw[r4];exact aN)
      have h2:=ho (k / z.length) (k%z.length) hi aN
      rw[Nat.div_add_mod' k z.length] at h2
      rw[hk] at h2
      cases h2
      rw[r4,Nat.div_add_mod' k z.length] at h1
      rw[n6]
      exact h1
    ·have hi:=(List.getElem?_eq_some_iff.1 h1).1
     have aN:j<z.length:=by rw[←lC row (List.mem_of_getElem? h1)];exact(List.getElem?_eq_some_iff.1 h2).1
     refine⟨vs i j,by simpa using ho i j hi aN,bH.v1 (E:=E.ca) ((ec i j row a h1 h2).mono (fun _ _=>rfl) (fun _ h=>h.elim) (fun c hc=>by have:=gq c hc;split at this;exact aS.e3 c this;exact this) (fun _ h=>h.elim))⟩
    ·rcases Nat.lt_or_ge cn H.length with bf | fV
     ·rw[List.getElem?_append_left bf]
     ·rw[List.getElem?_eq_none fV,List.getElem?_eq_none (by simp;omega)]
 | ref b g off n full=>
  replace h:off=0∧c5 H[b]? fun blk=>blk.bF=g∧blk.sz=z.length∧blk.rows.length=n∧(n+ck.length)*P.bytesOf e≤140737488355328∧n+ck.length≤4611686018427387904∧
    K (.ref b (g+1) 0 (n+ck.length) false) L (H.set b ⟨g+1,z.length,blk.rows++ck⟩):=h
  obtain⟨Xz,ak⟩:=h
  obtain⟨blk,hb,hg,m6,hL,hby,g5,hK⟩:=fC ak
  clear ak
  subst Xz
  have kr:=aS.fh b blk hb
  have qA:b<H.length:=(List.getElem?_eq_some_iff.1 hb).1
  subst hL
  rcases(show fx E (.ref b g 0 blk.rows.length full) xM from hs) with⟨b0,_⟩ | ⟨fV,b0⟩
  ·omega
  ·rcases b0 with⟨hm,_,my,A,rfl⟩ | ⟨c,cap,hm,rfl,oX,oo,qC⟩
   ·
    by_cases hY:ck.length=0
    ·have BS:ck=[]:=List.eq_nil_of_length_eq_zero hY
     subst BS
     obtain⟨E',hw,bk,r0,r1,pJ,nF,y5,Bl,hml⟩:=PM (w':=E.w) (x:=none) (blk':=⟨g+1,z.length,blk.rows++[]⟩) aS b1 hm hb (by show g+1=_;rw[hg]) m6.symm rfl rfl rfl rfl (fun _ _=>rfl) (fun c hc=>by cases hc)
     have fX:=PW (ty:=ty) X bq yS ow.symm (base:=A) (sLen:=0) (sCap:=0) rfl (Nat.le_refl _)
     refine⟨_,_,_,E',hK,by rw[hw];exact fX,bk,r0,r1,.inr ⟨pJ.symm,.inl ⟨by rw[nF];exact hm,rfl,by simp[my],A,rfl⟩⟩,hml⟩
    ·have pM:blk.rows=[]:=List.eq_nil_of_length_eq_zero my
     refine out A blk.rows 0 #[] b (g+1) _ (by rw[pM];rfl) ?_ (by rw[pM];simp) (fun row aK=>by rw[pM] at aK;cases aK) (fun i j row a h1 h2=>by rw[pM] at h1;simp at h1) (by omega) hby g5 (by rw[List.getElem?_set_self qA]) (fun cn ek=>List.getElem?_set_ne (fun h=>ek h.symm)) (fun _=>by simp) (by simp) (.inr (by omega)) hK
     rw[pM]
     cases A with
     | none=>exact run_firstCells_none _ _ _ _ _
     | some lU=>exact run_firstCells_some (P:=P) _ z.length 0 lU 0 0 [] (by simp) (fun j v h=>by simp at h)
   ·obtain⟨blk',a_,j0,q1,dX,hw,mw,ol,gB⟩:=aS.heap b c hm
    obtain rfl:blk=blk':=by rw[hb] at q1;exact Option.some.inj q1
    have cY:E.sz b=z.length:=by rw[dX,m6]
    by_cases wN:blk.rows.length+ck.length≤cap
    ·
     have W_:a_.size=E.cp b*z.length:=by rw[mw,cY]
     have hle:(blk.rows.length+ck.length)*z.length≤a_.size:=by rw[W_];exact Nat.mul_le_mul_right _ (by omega)
     have L5:blk.rows.length*z.length+news.length≤a_.size:=by rw[X.len,←Nat.add_mul];exact hle
     have fX:=abV (ty:=ty) (o:=0) X bq yS ow.symm hw wN (by rw[Nat.zero_add];exact L5)
     rw[Nat.zero_add] at fX
     let dF:Array Value:=(a_.toList.take (blk.rows.length*z.length)++news++a_.toList.drop (blk.rows.length*z.length+news.length)).toArray
     have LL: ∀k,dF[k]?=if k<blk.rows.length*z.length then a_.toList[k]? else if k<blk.rows.length*z.length+news.length then news[k - blk.rows.length*z.length]? else a_.toList[k]?:=by
      intro k
      show(List.toArray _)[k]?=_
      rw[List.getElem?_toArray,xJ (by simpa using L5)]
     obtain⟨E',e4,bk,r0,r1,pJ,nF,y5,Bl,hml⟩:=PM (w':=E.w.setRow c dF) (x:=some c) (blk':=⟨g+1,z.length,blk.rows++ck⟩) aS b1 hm hb (by show g+1=_;rw[hg]) m6.symm rfl rfl rfl (by simp)
      (fun c' qB=>setRow_other _ _ _ _ (fun e=>qB (by rw[e]))) (fun c' qB=>by
       cases qB
       refine⟨dF,j0,setRow_heap _ _ _ _ _ _ hw,?_,by show(blk.rows++ck).length≤_;rw[List.length_append];omega,fun k row aK=> ?_,fun k j row a aK aN=> ?_⟩
       ·rw[←mw]
        show(List.toArray _).size=_
        simp;omega
       ·have aK:(blk.rows++ck)[k]?=some row:=aK
        rcases Nat.lt_or_ge k blk.rows.length with bf | Bq
        ·rw[List.getElem?_append_left bf] at aK;exact gB.1 k row aK
        ·rw[List.getElem?_append_right Bq] at aK;rw[cY];exact(fA row (List.mem_of_getElem? aK)).1
       ·have aK:(blk.rows++ck)[k]?=some row:=aK
        rcases Nat.lt_or_ge k blk.rows.length with bf | Bq
        ·rw[List.getElem?_append_left bf] at aK
         obtain⟨u,hu,hv⟩:=gB.2 k j row a aK aN
         refine⟨u,?_,hv⟩
         have l5:j<z.length:=by rw[←cY,←gB.1 k row aK];exact(List.getElem?_eq_some_iff.1 aN).1
         have:k*z.length+j<blk.rows.length*z.length:=by
          calc k*z.length+j<k*z.length+z.length:=by omega
           _=(k+1)*z.length:=by rw[Nat.add_mul,Nat.one_mul]
           _≤blk.rows.length*z.length:=Nat.mul_le_mul_right _ (by omega)
         rw[cY] at hu ⊢
         rw[LL,if_pos this];simpa using hu
        ·rw[List.getElem?_append_right Bq] at aK
         obtain⟨u,hu,hv,_⟩:=X.rel _ j row a aK aN
         refine⟨u,?_,hv⟩
         have kO:=(List.getElem?_eq_some_iff.1 hu).1
         have ou:k*z.length+j=blk.rows.length*z.length+((k - blk.rows.length)*z.length+j):=by
          rw[←Nat.add_assoc,←Nat.add_mul];congr 2;omega
         rw[cY,LL,ou,if_neg (by omega),if_pos (by omega),Nat.add_sub_cancel_left];exact hu)
     refine⟨_,_,_,E',hK,by rw[e4];rw[Nat.zero_mul];exact fX,bk,r0,r1,.inr ⟨pJ.symm,.inr ⟨c,cap,by rw[nF];exact hm,by simp,wN,(fun h=>by cases h),by rw[Bl];omega⟩⟩,hml⟩
    ·
     refine out (some ⟨c,0,none⟩) blk.rows cap (a_.toList.take (blk.rows.length*z.length)).toArray b (g+1) _ (by rw[Nat.zero_mul]) ?_ ?_ (fun row aK=> ?_) (fun i j row a h1 h2=> ?_) (by omega) hby g5 (by rw[List.getElem?_set_self qA]) (fun cn ek=>List.getElem?_set_ne (fun h=>ek h.symm)) (fun _=>by simp) (by simp) (.inr (by omega)) hK
     ·refine run_firstCells_some (P:=P) E.w.drew z.length blk.rows.length ⟨c,0,none⟩ blk.rows.length cap _ ?_ (fun k v hk=> ?_)
      ·have:blk.rows.length*z.length≤a_.size:=by rw[mw,cY];exact Nat.mul_le_mul_right _ ol
       simp;omega
      ·rw[List.getElem?_take] at hk
       split at hk
       ·rw[n6,Nat.zero_add]
        exact cell_of (w:=E.w) hw (by simpa using hk)
       ·cases hk
     ·have:blk.rows.length*z.length≤a_.size:=by rw[mw,cY];exact Nat.mul_le_mul_right _ ol
      simp;omega
     ·obtain⟨k,hk⟩:=List.mem_iff_getElem?.1 aK
      rw[←cY];exact gB.1 k row hk
     ·obtain⟨u,hu,hv⟩:=gB.2 i j row a h1 h2
      refine⟨u,?_,hv⟩
      have hi:=(List.getElem?_eq_some_iff.1 h1).1
      have aN:j<z.length:=by rw[←cY,←gB.1 i row h1];exact(List.getElem?_eq_some_iff.1 h2).1
      have:i*z.length+j<blk.rows.length*z.length:=by
       calc i*z.length+j<i*z.length+z.length:=by omega
        _=(i+1)*z.length:=by rw[Nat.add_mul,Nat.one_mul]
        _≤blk.rows.length*z.length:=Nat.mul_le_mul_right _ (by omega)
      rw[List.getElem?_toArray,List.getElem?_take,if_pos this,Array.getElem?_toList,←cY]
      exact hu
 | _=>exact h.elim
def Dk (E:Env) (o:Oper) (a:Act) (K:oF Prop):Act→World→Prop:=fun ij w'=>
 ∃v u L' H' E',K v L' H'∧E'.w=w'∧Step E E'∧SimH E' H'∧SimL E' L'∧V3 E' v u∧ij=a.put o.dst u∧ ∀t,o.dst≠some t→E'.mL t=E.mL t
def AE:List Nat→Nat→Option Nat
 | [],_=>none
 | x::r,t=>match Nat.ble 2000000 x with
  | true=>(match Nat.beq ((x - 2000000)%1000) t with
   | true=>some ((x - 2000000) / 1000)
   | false=>AE r t)
  | false=>AE r t
def uT (esc:List Nat) (dst:Option Nat) (cells:List AV) (L:List (Nat×List AV)) (H:List Blk) (K:oF Prop):Prop:=
 if cells.all jk=true then match dst with
  | none=>False
  | some t=>match AE esc t with
   | some j=>c5 H[j]? fun blk=>K (.ptr j (blk.bF+1) 0 0) L (H.set j ⟨blk.bF+1,cells.length,[cells]⟩)
   | none=>if esc.contains t=true then K (.ptr H.length 0 0 0) L (H++[⟨0,cells.length,[cells]⟩]) else
    match e0 L t with
    | none=>K (.fH t 0) ((t,cells)::L) H
    | some _=>False
 else False
theorem SimL.none {E:Env} {L:List (Nat×List AV)} (h:SimL E L) {t:Nat} (aG:e0 L t=none):E.mL t=none:=by
 cases hm:E.mL t with
 | none=>rfl
 | some c=>
  obtain⟨cells,a_,ty,h1,_⟩:=h t c hm
  rw[aG] at h1;cases h1
theorem I6 {E:Env} {cells:List AV} {vs:List Value} (hs:cells.all jk=true) (h:aD (cM E) cells vs):aD (cM E.ca) cells vs:=
 ⟨h.1,fun i a v a3 hv=>I5 (List.all_eq_true.1 hs a (List.mem_of_getElem? a3)) (h.2 i a v a3 hv)⟩
theorem OG {E:Env} {H:List Blk} {L:List (Nat×List AV)} {esc:List Nat} {dst:Option Nat} {cells:List AV} {a_:Array Value} {ty:TypeId} {K:AV→List (Nat×List AV)→List Blk→Prop}
  (aS:SimH E H) (b1:SimL E L) (hc:aD (cM E) cells a_.toList) (h:uT esc dst cells L H K):
  ∃v L' H' E',K v L' H'∧E'.w=E.w.alloc (.cells a_ ty (0,0))∧Step E E'∧SimH E' H'∧SimL E' L'∧V3 E' v (.pointer (some ⟨E.w.heap.size,0,none⟩))∧ ∀s,dst≠some s→E'.mL s=E.mL s:=by
 unfold uT at h
 split at h
 case isFalse=>exact h.elim
 case isTrue hs=>
 have qB:=I6 hs hc
 cases dst with
 | none=>exact h.elim
 | some t=>
  have h:match AE esc t with
   | some j=>c5 H[j]? fun blk=>K (.ptr j (blk.bF+1) 0 0) L (H.set j ⟨blk.bF+1,cells.length,[cells]⟩)
   | none=>if esc.contains t=true then K (.ptr H.length 0 0 0) L (H++[⟨0,cells.length,[cells]⟩]) else(match e0 L t with
    | none=>K (.fH t 0) ((t,cells)::L) H
    | some _=>False):=h
  split at h
  ·rename_i j W4
   obtain⟨blk,yJ,hK⟩:=fC h
   have l5:=(List.getElem?_eq_some_iff.1 yJ).1
   have Xj:=aS.fh j blk yJ
   have hlen:a_.size=cells.length:=by have:=hc.1;simp at this;exact this.symm
   obtain⟨E',br,e2,dW,i_,im,mX,AS,tZ,_,hml⟩:=w6 (H:=H) (H':=H.set j ⟨blk.bF+1,cells.length,[cells]⟩) (b:=j) (cap:=1) (blk:=⟨blk.bF+1,cells.length,[cells]⟩) aS b1 (nv.alloc E.w (.cells a_ ty (0,0)))
    (by rw[List.getElem?_set];simp[l5]) (fun cn ek=>by rw[List.getElem?_set,if_neg (fun e=>ek e.symm)]) (fun _=>by simp) (by simp) (.inr (by show E.bF j<blk.bF+1;omega)) (by simp[hlen]) (by simp)
    ⟨fun i row aK=>by
      cases i with
      | zero=>simp at aK;subst aK;rfl
      | succ i=>simp at aK,
     fun i j row a aK aN=>by
      cases i with
      | zero=>
       simp at aK;subst aK
       obtain⟨u,hu,hv⟩:=qB.get aN
       exact⟨u,by simpa using hu,hv⟩
      | succ i=>simp at aK⟩
   refine⟨_,_,_,E',hK,br,e2,dW,i_,.inr ⟨im.symm,E.w.heap.size,mX,?_⟩,fun s _=>by rw[hml]⟩
   rw[Nat.zero_mul]
  split at h
  ·have hlen:a_.size=cells.length:=by have:=hc.1;simp at this;exact this.symm
   have yB:SimH E (H++[⟨0,cells.length,[cells]⟩]):=aS.snoc rfl
   obtain⟨wH,pK⟩:=aS.fresh H.length (Nat.le_refl _)
   obtain⟨E',br,e2,dW,i_,im,mX,AS,tZ,_,hml⟩:=w6 (H:=H++[⟨0,cells.length,[cells]⟩]) (H':=H++[⟨0,cells.length,[cells]⟩]) (b:=H.length) (cap:=1) (blk:=⟨0,cells.length,[cells]⟩) yB b1 (nv.alloc E.w (.cells a_ ty (0,0)))
    (by simp) (fun _ _=>rfl) (fun _=>rfl) (Nat.le_refl _) (.inl ⟨wH,pK.symm⟩) (by simp[hlen]) (by simp)
    ⟨fun i row aK=>by
      cases i with
      | zero=>simp at aK;subst aK;rfl
      | succ i=>simp at aK,
     fun i j row a aK aN=>by
      cases i with
      | zero=>
       simp at aK;subst aK
       obtain⟨u,hu,hv⟩:=qB.get aN
       exact⟨u,by simpa using hu,hv⟩
      | succ i=>simp at aK⟩
   refine⟨_,_,_,E',h,br,e2,dW,i_,.inr ⟨im.symm,E.w.heap.size,mX,?_⟩,fun s _=>by rw[hml]⟩
   rw[Nat.zero_mul]
  ·cases hg:e0 L t with
   | some x=>rw[hg] at h;exact h.elim
   | none=>
    rw[hg] at h
    have hm:=b1.none hg
    obtain⟨E',br,e2,dW,i_,im,_,hml⟩:=OF (L:=(t,cells)::L) (t:=t) (cells:=cells) aS (b1.cons hm) (nv.alloc E.w (.cells a_ ty (0,0))) (by simp[e0]) hm qB
    exact⟨_,_,_,E',h,br,e2,dW,i_,im,fun s hs=>hml s fun e=>hs (by rw[e])⟩
def mR:AV→AV
 | .bC rows _ fr=> .bC rows false fr
 | a=>a
theorem cM.mR {E:Env} {a:AV} {v:Value} (h:cM E a v):cM E (mR a) v:=by
 cases a with
 | bC rows full fr=>
  have h:bH E.w E.PA E.PF (.bC rows full fr) v:=h
  cases h with
  | bC gq gR ht cY fl ec=>exact bH.bC gq gR (fun h=>by cases h) cY fl ec
 | _=>exact h
theorem aD.mR {E:Env} {l:List AV} {m:List Value} (h:aD (cM E) l m):aD (cM E) (l.map mR) m:=by
 refine⟨by rw[List.length_map];exact h.1,fun i a v a3 hv=> ?_⟩
 rw[List.getElem?_map] at a3
 cases aL:l[i]? with
 | none=>rw[aL] at a3;cases a3
 | some b=>rw[aL] at a3;cases a3;exact(h.2 i b v aL hv).mR
def w4 (P:Program) (t:TypeId) (l c:AV) (L:List (Nat×List AV)) (H:List Blk) (K:oF Prop):Prop:=
 c5 (jv P t) fun e=>c5 (ns P e) fun z=>if z.length=P.cellsOf e∧z.all jk=true then match l,c with
  | .int _ l,.int _ c=>0≤l∧l≤c∧(P.bytesOf e:Int)*c≤140737488355328∧c≤4611686018427387904∧K (.ref H.length 0 0 l.toNat false) L (H++[⟨0,z.length,List.replicate l.toNat (z.map mR)⟩])
  | _,_=>False
 else False
theorem aaz (z:Array Value) (n k:Nat) (hk:k<n):(madeCells z n)[k]?=some (z[k%z.size]!):=by
 simp[madeCells,hk]
theorem aaL {P:Program} {E:Env} {H:List Blk} {L:List (Nat×List AV)} {t:TypeId} {l c:AV} {B7 Ks:Value} {K:AV→List (Nat×List AV)→List Blk→Prop}
  (aS:SimH E H) (b1:SimL E L) (aL:V3 E l B7) (hc:V3 E c Ks) (h:w4 P t l c L H K):
  ∃v L' H' E' u,K v L' H'∧(Instr.makeSlice t B7 Ks).run P E.w= .ok u E'.w∧Step E E'∧SimH E' H'∧SimL E' L'∧V3 E' v u∧E'.mL=E.mL:=by
 obtain⟨e,he,h⟩:=fC h
 obtain⟨z,aP,h⟩:=fC h
 split at h
 case isFalse=>exact h.elim
 case isTrue hb=>
 obtain⟨ow,Yb⟩:=hb
 cases l with
 | int l8 l=>
  cases c with
  | int eL c=>
   obtain⟨aT,h1,h2,aO,hK⟩:=(show 0≤l∧l≤c∧(P.bytesOf e:Int)*c≤140737488355328∧c≤4611686018427387904∧K (.ref H.length 0 0 l.toNat false) L (H++[⟨0,z.length,List.replicate l.toNat (z.map mR)⟩]) from h)
   obtain rfl:=aL.r8
   obtain rfl:=hc.r8
   obtain⟨i,v,q1,q2,q3,q4⟩:=vD (E:=E) aP
   have ak:=(I6 Yb q4).mR
   have uH:v.cells.size=z.length:=by rw[q3];simp
   have wE:i.size=z.length:=by rw[ow];simp[Program.cellsOf,q1]
   have hby:P.bytesOf e=i.bytes:=by simp[Program.bytesOf,q1]
   have hu:=sM he
   have fX:=run_make (P:=P) E.w t e i v hu q1 q2 l8 eL l c aT h1 (by rw[hby] at h2;omega) (by omega)
   have yB:SimH E (H++[⟨0,z.length,List.replicate l.toNat (z.map mR)⟩]):=aS.snoc rfl
   obtain⟨wH,pK⟩:=aS.fresh H.length (Nat.le_refl _)
   have L4:l.toNat≤c.toNat:=by omega
   obtain⟨E',br,e2,dW,i_,im,mX,AS,tZ,_,hml⟩:=w6 (H:=H++[⟨0,z.length,List.replicate l.toNat (z.map mR)⟩]) (H':=H++[⟨0,z.length,List.replicate l.toNat (z.map mR)⟩]) (b:=H.length) (cap:=c.toNat) (blk:=⟨0,z.length,List.replicate l.toNat (z.map mR)⟩) yB b1 (nv.alloc E.w (.cells (madeCells v.cells (c.toNat*i.size)) e (0,0)))
    (by simp) (fun _ _=>rfl) (fun _=>rfl) (Nat.le_refl _) (.inl ⟨wH,pK.symm⟩) (by rw[size_madeCells,wE]) (by simpa using L4)
    ⟨fun jd row aK=>by
      have aK:(List.replicate l.toNat (z.map mR))[jd]?=some row:=aK
      rw[List.getElem?_replicate] at aK
      split at aK
      ·cases aK;exact List.length_map ..
      ·exact absurd aK (fun h=>by cases h),
     fun jd j row a aK aN=>by
      have aK:(List.replicate l.toNat (z.map mR))[jd]?=some row:=aK
      rw[List.getElem?_replicate] at aK
      split at aK
      ·rename_i hi
       cases aK
       have yT:=(List.getElem?_eq_some_iff.1 aN).1
       rw[List.length_map] at yT
       obtain⟨u,hu,hv⟩:=ak.get aN
       refine⟨u,?_,hv⟩
       have bf:jd*z.length+j<c.toNat*z.length:=by
        calc jd*z.length+j<jd*z.length+z.length:=by omega
         _=(jd+1)*z.length:=by rw[Nat.add_mul,Nat.one_mul]
         _≤c.toNat*z.length:=Nat.mul_le_mul_right _ (by omega)
       show(madeCells v.cells (c.toNat*i.size))[jd*z.length+j]?=_
       rw[wE,aaz _ _ _ bf,uH,show(jd*z.length+j)%z.length=j by rw[Nat.mul_comm,Nat.mul_add_mod,Nat.mod_eq_of_lt yT],←hu,Array.getElem?_toList,getElem!_pos v.cells j (by omega),Array.getElem?_eq_getElem]
      ·exact absurd aK (fun h=>by cases h)⟩
   refine⟨_,_,_,E',_,hK,by rw[fX,br],e2,dW,i_,.inr ⟨im.symm,.inr ⟨E.w.heap.size,c.toNat,mX,by rw[Nat.zero_mul],L4,(fun h=>by cases h),by rw[tZ];omega⟩⟩,hml⟩
  | _=>exact h.elim
 | _=>exact h.elim
def ve:List Nat→Option Nat
 | []=>none
 | x::r=>match Nat.ble 1000000 x with
  | true=>some (x - 1000000)
  | false=>ve r
def aao (xD:Option Nat) (jO:Bool) (n sz:Nat) (rows:List (List AV)) (L:List (Nat×List AV)) (H:List Blk) (K:oF Prop):Prop:=match xD with
 | none=>K (.ref H.length 0 0 n jO) L (H++[⟨0,sz,rows⟩])
 | some j=>c5 H[j]? fun blk=>K (.ref j (blk.bF+1) 0 n true) L (H.set j ⟨blk.bF+1,sz,rows⟩)
def ud (esc:List Nat) (dst:Option Nat):Bool:=match dst with
 | none=>false
 | some d=>esc.any fun x=>Nat.beq x (500000+d)
def tX (P:Program) (fr:Bool) (xD:Option Nat) (t:TypeId) (n:Nat) (parts:List (Nat×AV)) (L:List (Nat×List AV)) (H:List Blk) (K:oF Prop):Prop:=
 c5 (jv P t) fun e=>c5 (ns P e) fun z=>if z.length=P.cellsOf e∧n*z.length≤1000000∧n≤1000000 then
  c5 (px (fun i=>some (i*z.length,z.length)) ((List.range (n*z.length)).map fun i=>z.getD (i%z.length) .undef) parts) fun cells=>
   if(bif fr then false else cells.all jM)=true then K (.bC (chunk z.length n (cells.map kD)) true (cells.all oe)) L H else
   if cells.all jk=true then aao xD (!fr) n z.length (chunk z.length n cells) L H K else False
 else False
theorem Up {size n i:Nat} {cells row:List AV} (aL:cells.length=n*size) (aK:(chunk size n cells)[i]?=some row):row.length=size:=by
 unfold chunk at aK
 rw[List.getElem?_map] at aK
 cases ak:(List.range n)[i]? with
 | none=>rw[ak] at aK;cases aK
 | some k=>
  have hk:=(List.getElem?_eq_some_iff.1 ak).1
  have hi:k=i:=by have:=(List.getElem?_eq_some_iff.1 ak).2;simpa using this.symm
  rw[ak] at aK;cases aK
  simp only[List.length_take,List.length_drop]
  have b9:i<n:=by simpa using hk
  rw[aL,hi]
  have:(i+1)*size≤n*size:=Nat.mul_le_mul_right _ b9
  rw[Nat.add_mul,Nat.one_mul] at this
  omega
theorem TX {P:Program} {fr:Bool} {xD:Option Nat} {E:Env} {H:List Blk} {L:List (Nat×List AV)} {t:TypeId} {n:Nat} {parts:List (Nat×AV)} {kF:List (Nat×Value)} {K:AV→List (Nat×List AV)→List Blk→Prop} (aS:SimH E H) (b1:SimL E L)
  (aI:aD (fun a b=>a.1=b.1∧V2 E a.2 b.2) parts kF) (h:tX P fr xD t n parts L H K):
  ∃v u L' H' E',K v L' H'∧(Instr.buildSlice t n kF.toArray).run P E.w= .ok u E'.w∧Step E E'∧SimH E' H'∧SimL E' L'∧V3 E' v u∧E'.mL=E.mL:=by
 obtain⟨e,he,h⟩:=fC h
 obtain⟨z,aP,h⟩:=fC h
 split at h
 case isFalse=>exact h.elim
 case isTrue hb=>
 obtain⟨cells,hf,h⟩:=fC h
 split at h
 case isTrue hby=>
  have hby:cells.all jM=true:=by cases fr with
   | true=>cases hby
   | false=>exact hby
  have hv:vU P t n parts (fun r=>K r L H):=by
   refine et he (et aP ?_)
   rw[if_pos hb]
   refine et hf ?_
   rw[if_pos hby];exact h
  obtain⟨r,u,E',hK,aK,ak,aO⟩:=J_ aS aI hv
  exact⟨r,u,L,H,E',hK,aK,ak.step,ak.simH aS,ak.simL aS b1,aO,ak.mL⟩
 case isFalse=>
 split at h
 case isFalse=>exact h.elim
 case isTrue hs=>
 obtain⟨hS,ec,fX,hlen⟩:=T0 aI he aP hb.1 hb.2 hf
 have ol:(chunk z.length n cells).length=n:=by simp[chunk]
 have Fq:hS.size=n*z.length:=by have:=ec.1;simp at this;omega
 have uA:vJ E z.length (chunk z.length n cells) hS:=⟨fun i row aK=>Up hlen aK,fun i j row a aK aN=>by
   obtain⟨hi,yT,hc⟩:=Ki aK aN
   obtain⟨u,hu,hv⟩:=ec.get hc
   exact⟨u,by rw[Array.getElem?_toList] at hu;exact hu,hv⟩⟩
 cases xD with
 | none=>
  have yB:SimH E (H++[⟨0,z.length,chunk z.length n cells⟩]):=aS.snoc rfl
  obtain⟨wH,pK⟩:=aS.fresh H.length (Nat.le_refl _)
  obtain⟨E',br,e2,dW,i_,im,mX,AS,tZ,_,hml⟩:=w6 (H:=H++[⟨0,z.length,chunk z.length n cells⟩]) (H':=H++[⟨0,z.length,chunk z.length n cells⟩]) (b:=H.length) (cap:=n) (blk:=⟨0,z.length,chunk z.length n cells⟩) yB b1 (nv.alloc E.w (.cells hS e (0,0)))
   (by simp) (fun _ _=>rfl) (fun _=>rfl) (Nat.le_refl _) (.inl ⟨wH,pK.symm⟩) Fq (by rw[ol];exact Nat.le_refl _) uA
  exact⟨_,_,_,_,E',h,by rw[fX,br],e2,dW,i_,.inr ⟨im.symm,.inr ⟨E.w.heap.size,n,mX,by rw[Nat.zero_mul],Nat.le_refl _,(fun _=>rfl),by rw[tZ];omega⟩⟩,hml⟩
 | some j=>
  obtain⟨blk,yJ,hK⟩:=fC (show c5 H[j]? fun blk=>K (.ref j (blk.bF+1) 0 n true) L (H.set j ⟨blk.bF+1,z.length,chunk z.length n cells⟩) from h)
  have l5:=(List.getElem?_eq_some_iff.1 yJ).1
  have Xj:=aS.fh j blk yJ
  obtain⟨E',br,e2,dW,i_,im,mX,AS,tZ,_,hml⟩:=w6 (H:=H) (H':=H.set j ⟨blk.bF+1,z.length,chunk z.length n cells⟩) (b:=j) (cap:=n) (blk:=⟨blk.bF+1,z.length,chunk z.length n cells⟩) aS b1 (nv.alloc E.w (.cells hS e (0,0)))
   (by rw[List.getElem?_set];simp[l5]) (fun cn ek=>by rw[List.getElem?_set,if_neg (fun e=>ek e.symm)]) (fun _=>by simp) (by simp) (.inr (by show E.bF j<blk.bF+1;omega)) Fq (by rw[ol];exact Nat.le_refl _) uA
  exact⟨_,_,_,_,E',hK,by rw[fX,br],e2,dW,i_,.inr ⟨im.symm,.inr ⟨E.w.heap.size,n,mX,by rw[Nat.zero_mul],Nat.le_refl _,(fun _=>rfl),by rw[tZ];omega⟩⟩,hml⟩
def p0:AV→Bool
 | .bC _ _ fr=>fr
 | .fH _ _ | .dA _ _ | .agg _ | .tup _ | .fn _ _=>false
 | _=>true
def iM (k:Nat):AV→AV
 | .ref b g o n f=> .ref (k+b) g o n f
 | .ptr b g r c=> .ptr (k+b) g r c
 | a=>a
def xg:AV→Bool
 | .agg l=>l.all p0
 | a=>p0 a
def nU (k:Nat):AV→AV
 | .agg l=> .agg (l.map (iM k))
 | a=>iM k a
def xh:AV→Bool
 | .tup l=>l.all xg
 | a=>xg a
def mI (k:Nat):AV→AV
 | .tup l=> .tup (l.map (nU k))
 | a=>nU k a
def ll (k:Nat) (b:Blk):Blk:=⟨b.bF,b.sz,b.rows.map fun row=>row.map (iM k)⟩
def th (H:List Blk):Bool:=H.all fun b=>b.rows.all fun row=>row.all p0
def Env.join (E E1:Env) (n:Nat):Env:=
 {w:=E1.w,PA:=fun c=>E.PA c∨E1.PF c,PF:=fun c=>E.PF c∨E1.PF c
  m:=fun b=>if b<n then E.m b else E1.m (b - n),bF:=fun b=>if b<n then E.bF b else E1.bF (b - n)
  sz:=fun b=>if b<n then E.sz b else E1.sz (b - n),cp:=fun b=>if b<n then E.cp b else E1.cp (b - n),mL:=E.mL}
section
variable {E E1:Env} {n:Nat}
theorem ZR {b:Nat} (h:b<n):(E.join E1 n).m b=E.m b∧(E.join E1 n).bF b=E.bF b∧(E.join E1 n).sz b=E.sz b∧(E.join E1 n).cp b=E.cp b:=⟨if_pos h,if_pos h,if_pos h,if_pos h⟩
theorem Gw (b:Nat):(E.join E1 n).m (n+b)=E1.m b∧(E.join E1 n).bF (n+b)=E1.bF b∧(E.join E1 n).sz (n+b)=E1.sz b∧(E.join E1 n).cp (n+b)=E1.cp b:=by
 have h: ¬n+b<n:=by omega
 have e:n+b - n=b:=by omega
 refine⟨?_,?_,?_,?_⟩<;>(unfold Env.join;simp only[if_neg h,e])
theorem Gx {E':Env} (hW:E'=E.join E1 n) {a:AV} {v:Value} (aC:p0 a=true) (hv:cM E1 a v):cM E' (iM n a) v:=by
 have ov: ∀{a:AV} {v:Value},p0 a=true→bH E1.w E1.PA E1.PF a v→bH E'.w E'.PA E'.PF a v:=by
  intro a v aC h
  subst hW
  cases h with
  | undef=>exact .undef _
  | int=>exact .int _ _
  | bool=>exact .bool _
  | str=>exact .str _
  | gj=>exact .gj
  | gE=>exact .gE
  | @bC _ _ PB rows full fresh A cap sz vs gq gR ht cY fl ec=>
   have hf:fresh=true:=aC
   refine .bC (PB:=PB) (sz:=sz) (vs:=vs) (fun c hc=> ?_) gR ht cY fl ec
   have:=gq c hc
   rw[if_pos hf] at this ⊢
   exact .inr this
  | dA=>cases aC
  | fn=>cases aC
 cases a with
 | ref b g off m full=>
  subst hW
  obtain⟨e6,bb,ox,s9⟩:=Gw (E:=E) (E1:=E1) (n:=n) b
  show fx (E.join E1 n) (.ref (n+b) g off m full) v
  rcases(show fx E1 (.ref b g off m full) v from hv) with⟨h,k⟩ | ⟨h,k⟩
  ·exact .inl ⟨by rw[bb];exact h,k⟩
  ·refine .inr ⟨by rw[bb];exact h,?_⟩
   rw[e6,ox,s9];exact k
 | ptr b g r c=>
  subst hW
  obtain⟨e6,bb,ox,s9⟩:=Gw (E:=E) (E1:=E1) (n:=n) b
  show fx (E.join E1 n) (.ptr (n+b) g r c) v
  rcases(show fx E1 (.ptr b g r c) v from hv) with⟨h,k⟩ | ⟨h,k⟩
  ·exact .inl ⟨by rw[bb];exact h,k⟩
  ·refine .inr ⟨by rw[bb];exact h,?_⟩
   rw[e6,ox];exact k
 | fH t c=>cases aC
 | fn f c=>cases aC
 | agg l=>cases aC
 | tup l=>cases aC
 | dA l c=>cases aC
 | undef=>exact bH.undef _
 | int k m=>exact ov (a:= .int k m) rfl hv
 | bool b=>exact ov (a:= .bool b) rfl hv
 | str s=>exact ov (a:= .str s) rfl hv
 | bC rows full fr=>exact ov (a:= .bC rows full fr) aC hv
 | gj=>exact ov (a:= .gj) rfl hv
 | gE=>exact ov (a:= .gE) rfl hv
theorem NT {E':Env} (hW:E'=E.join E1 n) {a:AV} {v:Value} (aC:xg a=true) (hv:V2 E1 a v):V2 E' (nU n a) v:=by
 by_cases hf: ∃l,a= .agg l
 ·obtain⟨l,rfl⟩:=hf
  obtain⟨vs,rfl,aI⟩:=hv
  refine⟨vs,rfl,by rw[List.length_map];exact aI.1,fun i x u hx hu=> ?_⟩
  rw[List.getElem?_map] at hx
  cases aL:l[i]? with
  | none=>simp[aL] at hx
  | some y=>
   simp[aL] at hx;subst hx
   exact Gx hW (List.all_eq_true.1 (show l.all p0=true from aC) y (List.mem_of_getElem? aL)) (aI.2 i y u aL hu)
 ·have br:nU n a=iM n a:=by cases a<;>first | rfl | exact absurd ⟨_,rfl⟩ hf
  have e2:xg a=p0 a:=by cases a<;>first | rfl | exact absurd ⟨_,rfl⟩ hf
  rw[pr fun l e=>hf ⟨l,e⟩] at hv
  rw[br]
  exact qe (Gx hW (e2▸aC) hv)
theorem ZS {E':Env} (hW:E'=E.join E1 n) {a:AV} {v:Value} (aC:xh a=true) (hv:V3 E1 a v):V3 E' (mI n a) v:=by
 by_cases hf: ∃l,a= .tup l
 ·obtain⟨l,rfl⟩:=hf
  obtain⟨vs,rfl,aI⟩:=hv
  refine⟨vs,rfl,by rw[List.length_map];exact aI.1,fun i x u hx hu=> ?_⟩
  rw[List.getElem?_map] at hx
  cases aL:l[i]? with
  | none=>simp[aL] at hx
  | some y=>
   simp[aL] at hx;subst hx
   exact NT hW (List.all_eq_true.1 (show l.all xg=true from aC) y (List.mem_of_getElem? aL)) (aI.2 i y u aL hu)
 ·have br:mI n a=nU n a:=by cases a<;>first | rfl | exact absurd ⟨_,rfl⟩ hf
  have e2:xh a=xg a:=by cases a<;>first | rfl | exact absurd ⟨_,rfl⟩ hf
  rw[oL fun l e=>hf ⟨l,e⟩] at hv
  rw[br]
  exact qf (NT hW (e2▸aC) hv)
end
theorem Ue {P:Program} {f:FuncId} {args ew:List AV} {L:List (Nat×List AV)} {H:List Blk} {E:Env} {vs:List Value} {Q:AV→List Blk→Prop} (aS:SimH E H) (b1:SimL E L)
  (a3:aD (V2 E) args vs) (hs:aD (dc L H) args ew) (h:dH P f ew [] fun r fg=>xh r=true∧th fg=true∧Q r fg):
  Calls P f vs.toArray E.w fun e w'=> ∃r v fg E',e= .returned v∧Q r fg∧E'.w=w'∧Step E E'∧SimH E' (H++fg.map (ll H.length))∧SimL E' L∧V3 E' (mI H.length r) v∧E'.mL=E.mL:=by
 have ug:aD (V2 E.frozen) ew vs:=⟨hs.1▸a3.1,fun i x u hx hu=>by
  have bf:i<args.length:=by have:=(List.getElem?_eq_some_iff.1 hx).1;have:=hs.1;omega
  have aL:=List.getElem?_eq_getElem bf
  exact QB (Sub.refl L H) aS b1 (hs.2 i _ x aL hx) (a3.2 i _ u aL hu)⟩
 refine(h.2 E.frozen vs (fun _=>rfl) (Lg aS) ug).mono ?_
 rintro e w' ⟨r,v,fg,E1,rfl,⟨aC,yZ,aK⟩,rfl,aG,fL,hv,bk⟩
 have yF: ∀c,E1.PF c→E.w.heap.size≤c∧c<E1.w.heap.size:=fun c hc=>⟨(bk.fN c hc).elim (fun h=>h.elim) id,fL.fe c (fL.e3 c hc)⟩
 have wq: ∀c,E1.gT c→E.w.heap.size≤c∧c<E1.w.heap.size:=fun c hc=>⟨(bk.qO c hc).elim (fun⟨b,hb⟩=>by cases hb) id,fL.gD c hc⟩
 have oV: ∀c,c<E.w.heap.size→E1.w.heap[c]?=E.w.heap[c]?:=fun c hc=>bk.fi c hc (fun⟨b,hb⟩=>by cases hb) (fun⟨b,hb⟩=>by cases hb)
 have kt:=aS.gD
 have ku:=aS.g9
 generalize hW:E.join E1 H.length=E'
 have m_: ∀b,b<H.length→E'.m b=E.m b∧E'.bF b=E.bF b∧E'.sz b=E.sz b∧E'.cp b=E.cp b:=fun b hb=>hW▸ZR hb
 have hN: ∀b,E'.m (H.length+b)=E1.m b∧E'.bF (H.length+b)=E1.bF b∧E'.sz (H.length+b)=E1.sz b∧E'.cp (H.length+b)=E1.cp b:=fun b=>hW▸Gw b
 have nK:E'.w=E1.w:=by rw[←hW];rfl
 have w1: ∀c,E'.PA c↔E.PA c∨E1.PF c:=fun c=>by rw[←hW];exact Iff.rfl
 have Gu: ∀c,E'.PF c↔E.PF c∨E1.PF c:=fun c=>by rw[←hW];exact Iff.rfl
 have s_:E'.mL=E.mL:=by rw[←hW];rfl
 have split: ∀b,b<H.length∨ ∃k,b=H.length+k:=fun b=>by
  rcases Nat.lt_or_ge b H.length with h | h
  ·exact .inl h
  ·exact .inr ⟨b - H.length,by omega⟩
 have aaW: ∀b x,E.m b=some x→b<H.length:=fun b x hb=>by
  rcases Nat.lt_or_ge b H.length with h | h
  ·exact h
  ·rw[(aS.fresh b h).1] at hb;cases hb
 have pQ: ∀c,E'.gT c→E.gT c∨E1.gT c:=fun c ⟨b,hb⟩=>by
  rcases split b with h | ⟨k,rfl⟩
  ·exact .inl ⟨b,by rw[←(m_ b h).1];exact hb⟩
  ·exact .inr ⟨k,by rw[←(hN k).1];exact hb⟩
 have g7:Step E E':=
  {le:=⟨fun c hc=>(w1 c).2 (.inl hc),fun c hc=>(Gu c).2 (.inl hc),fun c hc=>by rw[nK];exact oV c (aS.fe c hc),fun c hc=>by rw[nK];exact oV c (aS.fe c (aS.e3 c hc)),fun b=>by
     rcases split b with h | ⟨k,rfl⟩
     ·rw[(m_ b h).2.1];exact Nat.le_refl _
     ·rw[(aS.fresh (H.length+k) (by omega)).2];exact Nat.zero_le _,fun b x hx _=>by
     have h:=aaW b x hx
     exact⟨by rw[(m_ b h).1];exact hx,(m_ b h).2.2.1,(m_ b h).2.2.2⟩,fun t c h=>by rw[s_];exact h⟩
   os:=by rw[nK];exact bk.os
   tape:=by rw[nK];exact bk.tape
   output:=by rw[nK];exact bk.output
   size:=by rw[nK];exact bk.size
   fi:=fun c hc _ _=>by rw[nK];exact oV c hc
   jx:=fun b c hb=>by
    rcases split b with h | ⟨k,rfl⟩
    ·exact .inl (by rw[←(m_ b h).1];exact hb)
    ·exact .inr (wq c ⟨k,by rw[←(hN k).1];exact hb⟩).1
   jR:=fun c ⟨t,bq⟩=> .inl ⟨t,by rw[←s_];exact bq⟩
   fM:=fun c hc=>((w1 c).1 hc).elim .inl fun h=> .inr (yF c h).1
   fN:=fun c hc=>((Gu c).1 hc).elim .inl fun h=> .inr (yF c h).1}
 have EH: ∀b,b<H.length→(H++fg.map (ll H.length))[b]?=H[b]?:=fun b hb=>List.getElem?_append_left hb
 have EG: ∀k,(H++fg.map (ll H.length))[H.length+k]?=(fg[k]?).map (ll H.length):=fun k=>by
  rw[List.getElem?_append_right (by omega),List.getElem?_map];congr 2;omega
 refine⟨r,v,fg,E',rfl,aK,nK,g7,?_,?_,ZS hW.symm aC hv,s_⟩
 ·exact{
   heap:=fun b c hb=>by
    rcases split b with h | ⟨k,rfl⟩
    ·obtain⟨e6,bb,ox,s9⟩:=m_ b h
     rw[e6] at hb
     obtain⟨blk,a_,ty,q1,dX,q2,q3,q4,cR,c6⟩:=aS.heap b c hb
     refine⟨blk,a_,ty,by rw[EH b h];exact q1,by rw[ox];exact dX,by rw[nK,oV c (kt c ⟨b,hb⟩)];exact q2,by rw[ox,s9];exact q3,by rw[s9];exact q4,by rw[ox];exact cR,fun i j row a aK aN=> ?_⟩
     obtain⟨u,hu,Fp⟩:=c6 i j row a aK aN
     exact⟨u,by rw[ox];exact hu,Fp.le g7.le.ca⟩
    ·obtain⟨e6,bb,ox,s9⟩:=hN k
     rw[e6] at hb
     obtain⟨blk,a_,ty,q1,dX,q2,q3,q4,cR,c6⟩:=fL.heap k c hb
     have XA: ∀row∈blk.rows,∀a∈row,p0 a=true:=fun row aK a a3=>
      List.all_eq_true.1 (List.all_eq_true.1 (List.all_eq_true.1 yZ blk (List.mem_of_getElem? q1)) row aK) a a3
     refine⟨ll H.length blk,a_,ty,by rw[EG k,q1];rfl,by rw[ox];exact dX,by rw[nK];exact q2,by rw[ox,s9];exact q3,by rw[s9];show(blk.rows.map _).length≤_;rw[List.length_map];exact q4,fun i row' aK=> ?_,fun i j row' ij aK aN=> ?_⟩
     ·have aK:(blk.rows.map fun row=>row.map (iM H.length))[i]?=some row':=aK
      rw[List.getElem?_map] at aK
      cases ak:blk.rows[i]? with
      | none=>simp[ak] at aK
      | some row=>
       simp[ak] at aK;subst aK
       rw[List.length_map,ox];exact cR i row ak
     ·have aK:(blk.rows.map fun row=>row.map (iM H.length))[i]?=some row':=aK
      rw[List.getElem?_map] at aK
      cases ak:blk.rows[i]? with
      | none=>simp[ak] at aK
      | some row=>
       simp[ak] at aK;subst aK
       rw[List.getElem?_map] at aN
       cases kw:row[j]? with
       | none=>simp[kw] at aN
       | some a=>
        simp[kw] at aN;subst aN
        obtain⟨u,hu,Fp⟩:=c6 i j row a ak kw
        refine⟨u,by rw[ox];exact hu,?_⟩
        have Lx:E'.ca=E.ca.join E1.ca H.length:=by rw[←hW];rfl
        exact Gx Lx (XA row (List.mem_of_getElem? ak) a (List.mem_of_getElem? kw)) Fp
   fh:=fun b blk hb=>by
    rcases split b with h | ⟨k,rfl⟩
    ·rw[EH b h] at hb;rw[(m_ b h).2.1];exact aS.fh b blk hb
    ·rw[EG k] at hb
     cases ak:fg[k]? with
     | none=>simp[ak] at hb
     | some y=>simp[ak] at hb;subst hb;rw[(hN k).2.1];exact fL.fh k y ak
   hz:=fun b hb=>by
    rcases split b with h | ⟨k,rfl⟩
    ·rw[(m_ b h).1] at hb
     obtain⟨blk,q1,q2⟩:=aS.hz b hb
     exact⟨blk,by rw[EH b h];exact q1,by rw[(m_ b h).2.2.1];exact q2⟩
    ·rw[(hN k).1] at hb
     obtain⟨blk,q1,q2⟩:=fL.hz k hb
     exact⟨ll H.length blk,by rw[EG k,q1];rfl,by rw[(hN k).2.2.1];exact q2⟩
   fresh:=fun b hb=>by
    rw[List.length_append,List.length_map] at hb
    rcases split b with h | ⟨k,rfl⟩
    ·omega
    ·rw[(hN k).1,(hN k).2.1];exact fL.fresh k (by omega)
   h0:=fun b cn c h1 h2=>by
    rcases split b with h | ⟨k,rfl⟩<;>rcases split cn with h' | ⟨kR,rfl⟩
    ·rw[(m_ b h).1] at h1;rw[(m_ cn h').1] at h2;exact aS.h0 b cn c h1 h2
    ·rw[(m_ b h).1] at h1;rw[(hN kR).1] at h2
     have:=kt c ⟨b,h1⟩;have:=(wq c ⟨kR,h2⟩).1;omega
    ·rw[(hN k).1] at h1;rw[(m_ cn h').1] at h2
     have:=kt c ⟨cn,h2⟩;have:=(wq c ⟨k,h1⟩).1;omega
    ·rw[(hN k).1] at h1;rw[(hN kR).1] at h2;rw[fL.h0 k kR c h1 h2]
   jS:=fun t jZ c h1 h2=>by rw[s_] at h1 h2;exact aS.jS t jZ c h1 h2
   gU:=fun b t c h1 h2=>by
    rw[s_] at h2
    rcases split b with h | ⟨k,rfl⟩
    ·rw[(m_ b h).1] at h1;exact aS.gU b t c h1 h2
    ·rw[(hN k).1] at h1
     have:=ku c ⟨t,h2⟩;have:=(wq c ⟨k,h1⟩).1;omega
   h3:=fun c hc hi=>by
    rcases(w1 c).1 hc with h | h<;>rcases pQ c hi with h' | h'
    ·exact aS.h3 c h h'
    ·have:=aS.fe c h;have:=(wq c h').1;omega
    ·have:=kt c h';have:=(yF c h).1;omega
    ·exact fL.h3 c (fL.e3 c h) h'
   iv:=fun c hc ⟨t,bq⟩=>by
    rw[s_] at bq
    rcases(w1 c).1 hc with h | h
    ·exact aS.iv c h ⟨t,bq⟩
    ·have:=ku c ⟨t,bq⟩;have:=(yF c h).1;omega
   e3:=fun c hc=>(w1 c).2 (((Gu c).1 hc).elim (fun h=> .inl (aS.e3 c h)) .inr)
   fe:=fun c hc=>by
    rw[nK]
    rcases(w1 c).1 hc with h | h
    ·exact Nat.lt_of_lt_of_le (aS.fe c h) bk.size
    ·exact(yF c h).2
   gD:=fun c hc=>by
    rw[nK]
    rcases pQ c hc with h | h
    ·exact Nat.lt_of_lt_of_le (kt c h) bk.size
    ·exact(wq c h).2
   g9:=fun c ⟨t,bq⟩=>by
    rw[s_] at bq;rw[nK]
    exact Nat.lt_of_lt_of_le (ku c ⟨t,bq⟩) bk.size}
 ·intro t c hm
  rw[s_] at hm
  obtain⟨cells,a_,ty,q1,q2,q3⟩:=b1 t c hm
  exact⟨cells,a_,ty,q1,by rw[nK,oV c (ku c ⟨t,hm⟩)];exact q2,q3.mono fun _ _ k=>k.le g7.le.ca⟩
theorem Ub {P:Program} {f:FuncId} {args:List AV} {L:List (Nat×List AV)} {H:List Blk} {E:Env} {vs:List Value} {Q:AV→List Blk→Prop} (aS:SimH E H) (b1:SimL E L)
  (a3:aD (V2 E) args vs) (aG:args.all kc=true) (h:dH P f args H fun r H'=>w9 r=true∧Q r H'):
  Calls P f vs.toArray E.w fun e w'=> ∃r v H' E',e= .returned v∧Q r H'∧E'.w=w'∧Step E E'∧SimH E' H'∧SimL E' L∧V3 E' r v∧E'.mL=E.mL:=by
 have ug:aD (V2 E.ca) args vs:=⟨a3.1,fun i a v h1 h2=>(a3.2 i a v h1 h2).ca (List.all_eq_true.1 aG a (List.mem_of_getElem? h1))⟩
 refine(h.2 E.ca vs (fun _=>rfl) aS.ca ug).mono ?_
 rintro e w' ⟨r,v,H',E1,rfl,⟨Xx,aK⟩,rfl,BD,fL,hv,bk⟩
 let E':Env:={E1 with mL:=E.mL}
 have Lx:E'.ca=E1.ca:=rfl
 have ku:=aS.g9
 have qO: ∀c,E1.gT c→E.gT c∨E.w.heap.size≤c:=bk.qO
 have Xo: ∀c,E.kQ c→E1.w.heap[c]?=E.w.heap[c]?:=fun c hc=>bk.fi c (ku c hc) (fun⟨b,hb⟩=>by
  obtain⟨t,bq⟩:=hc
  exact aS.gU b t c hb bq) (fun⟨b,hb⟩=>by cases hb)
 have hle:E1.ca.gP E':=Env.Cd E'
 have g7:Step E E':=
  {le:=⟨bk.le.fM,bk.le.fN,bk.le.tG,bk.le.wf,bk.le.bF,bk.le.m,fun _ _ h=>h⟩
   os:=bk.os,tape:=bk.tape,output:=bk.output,size:=bk.size
   fi:=fun c hc h1 h2=>bk.fi c hc h1 (fun⟨b,hb⟩=>by cases hb)
   jx:=bk.jx
   jR:=fun c h=> .inl h
   fM:=bk.fM
   fN:=bk.fN}
 refine⟨r,v,H',E',rfl,aK,rfl,g7,?_,?_,?_,rfl⟩
 ·exact{fL with
   jS:=aS.jS
   gU:=fun b t c h1 h2=>by
    rcases qO c ⟨b,h1⟩ with⟨cn,h⟩ | h
    ·exact aS.gU cn t c h h2
    ·have:=ku c ⟨t,h2⟩;omega
   iv:=fun c hc ⟨t,bq⟩=>by
    rcases bk.fM c hc with h | h
    ·exact aS.iv c h ⟨t,bq⟩
    ·have h:E.w.heap.size≤c:=h
     have:=ku c ⟨t,bq⟩;omega
   g9:=fun c hc=>Nat.lt_of_lt_of_le (ku c hc) bk.size}
 ·intro t c hm
  obtain⟨cells,a_,ty,q1,q2,q3⟩:=b1 t c hm
  exact⟨cells,a_,ty,q1,by show E1.w.heap[c]?=_;rw[Xo c ⟨t,hm⟩];exact q2,q3.mono fun _ _ k=>k.le g7.le.ca⟩
 ·exact(hv.ca Xx).le hle
end Go.Proofs.Ytglpfccgmfhkdaa.Fw
