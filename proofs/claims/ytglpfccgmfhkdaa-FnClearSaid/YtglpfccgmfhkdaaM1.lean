/- The framework, part A: abstract values, how they stand for Go's values in a world, and what stays as it is when the world grows. -/
import Derived.WalkKit
import Derived.KernelRfl
import Derived.Orders
import Derived.Laws.StructEq
import Derived.ChangeArms
import Derived.ChangeShapes
import Derived.SizedLaws
import Derived.Below
import Derived.JoinedOf
import Derived.Test.YtglpfccgmfhkdaaProg
set_option linter.unusedVariables false
namespace Go.Proofs.Ytglpfccgmfhkdaa.Fw
open Go
inductive AV where
 | undef
 | int (k:IntKind) (n:Int)
 | bool (b:Bool)
 | str (s:ByteArray)
 | bC (rows:List (List AV)) (full fresh:Bool)
 | ref (b g off n:Nat) (full:Bool)
 | ptr (b g row col:Nat)
 | fx (t col:Nat)
 | dr (cells:List AV) (col:Nat)
 | fW
 | gp
 | agg (cells:List AV)
 | tup (vs:List AV)
 | fn (f:FuncId) (caps:List AV)
 deriving Inhabited
structure Blk where
 bF:Nat
 sz:Nat
 rows:List (List AV)
 deriving Inhabited
structure St where
 T:List AV
 L:List (Nat×List AV)
 H:List Blk
def aD {α β:Type} (R:α→β→Prop) (l:List α) (m:List β):Prop:=
 l.length=m.length∧ ∀(i:Nat) (a:α) (b:β),l[i]?=some a→m[i]?=some b→R a b
theorem aD.nil {α β:Type} {R:α→β→Prop}:aD R [] []:=⟨rfl,fun i a b h=>by simp at h⟩
theorem aD.cons {α β:Type} {R:α→β→Prop} {a:α} {b:β} {l:List α} {m:List β} (h:R a b) (k:aD R l m):aD R (a::l) (b::m):=
 ⟨by simp[k.1],fun i x y hx bt=>by
  cases i with
  | zero=>simp at hx bt;subst hx;subst bt;exact h
  | succ i=>exact k.2 i x y (by simpa using hx) (by simpa using bt)⟩
theorem aD.head {α β:Type} {R:α→β→Prop} {a:α} {b:β} {l:List α} {m:List β} (h:aD R (a::l) (b::m)):R a b:=h.2 0 a b rfl rfl
theorem aD.tail {α β:Type} {R:α→β→Prop} {a:α} {b:β} {l:List α} {m:List β} (h:aD R (a::l) (b::m)):aD R l m:=
 ⟨by simpa using h.1,fun i x y hx bt=>h.2 (i+1) x y (by simpa using hx) (by simpa using bt)⟩
theorem aD.mono {α β:Type} {R xH:α→β→Prop} {l:List α} {m:List β} (h:aD R l m) (aK: ∀a b,R a b→xH a b):aD xH l m:=
 ⟨h.1,fun i a b x y=>aK _ _ (h.2 i a b x y)⟩
theorem aD.get {α β:Type} {R:α→β→Prop} {l:List α} {m:List β} (h:aD R l m) {i:Nat} {a:α} (a3:l[i]?=some a): ∃b,m[i]?=some b∧R a b:=by
 have hi:i<l.length:=(List.getElem?_eq_some_iff.1 a3).1
 have hm:i<m.length:=h.1▸hi
 exact⟨m[i],List.getElem?_eq_getElem hm,h.2 i a _ a3 (List.getElem?_eq_getElem hm)⟩
theorem aD.wK {α β:Type} {R:α→β→Prop} {m:List β} (h:aD R [] m):m=[]:=by
 have:=h.1;exact List.eq_nil_of_length_eq_zero (by simpa using this.symm)
theorem aD.cons_inv {α β:Type} {R:α→β→Prop} {a:α} {l:List α} {m:List β} (h:aD R (a::l) m): ∃b fq,m=b::fq∧R a b∧aD R l fq:=by
 cases m with
 | nil=>have:=h.1;simp at this
 | cons b fq=>exact⟨b,fq,rfl,h.head,h.tail⟩
theorem aD.append {α β:Type} {R:α→β→Prop} {l fh:List α} {m fq:List β} (h:aD R l m) (k:aD R fh fq):aD R (l++fh) (m++fq):=by
 refine⟨by simp[h.1,k.1],fun i a b a3 hb=> ?_⟩
 rcases Nat.lt_or_ge i l.length with hi | hi
 ·rw[List.getElem?_append_left hi] at a3
  rw[List.getElem?_append_left (h.1▸hi)] at hb
  exact h.2 i a b a3 hb
 ·rw[List.getElem?_append_right hi] at a3
  rw[List.getElem?_append_right (h.1▸hi),←h.1] at hb
  exact k.2 _ a b a3 hb
theorem aD.set {α β:Type} {R:α→β→Prop} {l:List α} {m:List β} (h:aD R l m) (i:Nat) {a:α} {b:β} (aK:R a b):aD R (l.set i a) (m.set i b):=by
 refine⟨by simp[h.1],fun j x y hx bt=> ?_⟩
 by_cases aM:i=j
 ·subst aM
  rw[List.getElem?_set_self'] at hx bt
  cases aL:l[i]? with
  | none=>simp[aL] at hx
  | some J=>
   cases hm:m[i]? with
   | none=>simp[hm] at bt
   | some xN=>simp[aL] at hx;simp[hm] at bt;subst hx;subst bt;exact aK
 ·rw[List.getElem?_set_ne aM] at hx bt
  exact h.2 j x y hx bt
inductive bH (w:World):(Nat→Prop)→(Nat→Prop)→AV→Value→Prop where
 | undef {PA PF:Nat→Prop} (v:Value):bH w PA PF .undef v
 | int {PA PF:Nat→Prop} (k:IntKind) (n:Int):bH w PA PF (.int k n) (.int k n)
 | bool {PA PF:Nat→Prop} (b:Bool):bH w PA PF (.bool b) (.bool b)
 | str {PA PF:Nat→Prop} (s:ByteArray):bH w PA PF (.str s) (.string s)
 | bC {PA PF PB:Nat→Prop} {rows:List (List AV)} {full fresh:Bool} {A:Option Addr} {cap sz:Nat} {vs:Nat→Nat→Value}
   (f_: ∀c,PB c→if fresh=true then PF c else PA c)
   (gK:rows.length≤cap∧rows.length≤4611686018427387904) (hl:full=true→cap=rows.length)
   (cQ: ∀(i:Nat) (row:List AV),rows[i]?=some row→row.length=sz)
   (e9:0<rows.length→ ∃c o,A=some ⟨c,o,none⟩∧PB c∧ ∀i j,i<rows.length→j<sz→w.cell? ⟨c,o+(i*sz+j),none⟩=some (vs i j))
   (dS: ∀(i j:Nat) (row:List AV) (a:AV),rows[i]?=some row→row[j]?=some a→bH w PB (fun _=>False) a (vs i j)):
   bH w PA PF (.bC rows full fresh) (.slice A rows.length cap)
 | dr {PA PF:Nat→Prop} {cells:List AV} {col c o:Nat} {vs:Nat→Value} (hc:PA c)
   (e9: ∀j,j<cells.length→w.cell? ⟨c,o+j,none⟩=some (vs j))
   (dS: ∀(j:Nat) (a:AV),cells[j]?=some a→bH w PA (fun _=>False) a (vs j)):bH w PA PF (.dr cells col) (.pointer (some ⟨c,o+col,none⟩))
 | fW {PA PF:Nat→Prop}:bH w PA PF .fW (.pointer none)
 | gp {PA PF:Nat→Prop}:bH w PA PF .gp .nilIface
 | fn {PA PF:Nat→Prop} {f:FuncId} {caps:List AV} {vs:List Value} (aL:caps.length=vs.length)
   (dS: ∀(i:Nat) (a:AV) (v:Value),caps[i]?=some a→vs[i]?=some v→bH w PA (fun _=>False) a v):bH w PA PF (.fn f caps) (.func (.func f) #[] vs.toArray)
theorem JL {w w':World} {c o:Nat} (h:w'.heap[c]?=w.heap[c]?):w'.cell? ⟨c,o,none⟩=w.cell? ⟨c,o,none⟩:=by
 simp[World.cell?,h]
theorem bH.mono {w w':World} {PA PF:Nat→Prop} {a:AV} {v:Value} (h:bH w PA PF a v):
  ∀{xF xG:Nat→Prop},(∀c,PA c→w'.heap[c]?=w.heap[c]?)→(∀c,PF c→w'.heap[c]?=w.heap[c]?)→(∀c,PA c→xF c)→(∀c,PF c→xG c)→bH w' xF xG a v:=by
 induction h with
 | undef v=>intros;exact .undef v
 | int k n=>intros;exact .int k n
 | bool b=>intros;exact .bool b
 | str s=>intros;exact .str s
 | @bC PA PF PB rows full fresh A cap sz vs f_ gK hl cQ e9 dS bR=>
  intro xF xG hw wx a3 hf
  have K0: ∀c,PB c→w'.heap[c]?=w.heap[c]?:=fun c hc=>by
   have:=f_ c hc
   split at this
   ·exact wx c this
   ·exact hw c this
  refine .bC (PB:=PB) (sz:=sz) (vs:=vs) (fun c hc=> ?_) gK hl cQ (fun aH=> ?_) (fun i j row a aK aM=> ?_)
  ·have:=f_ c hc
   split
   ·rename_i h;rw[if_pos h] at this;exact hf c this
   ·rename_i h;rw[if_neg h] at this;exact a3 c this
  ·obtain⟨c,o,e,hc,eo⟩:=e9 aH
   exact⟨c,o,e,hc,fun i j hi aM=>by rw[JL (K0 c hc)];exact eo i j hi aM⟩
  ·exact bR i j row a aK aM K0 (fun c hc=>hc.elim) (fun c hc=>hc) (fun c hc=>hc)
 | @dr PA PF cells col c o vs hc e9 dS bR=>
  intro xF xG hw wx a3 hf
  refine .dr (a3 c hc) (vs:=vs) (fun j aM=> ?_) (fun j a aM=>bR j a aM hw (fun c hc=>hc.elim) a3 (fun c hc=>hc))
  rw[JL (hw c hc)];exact e9 j aM
 | fW=>intros;exact .fW
 | gp=>intros;exact .gp
 | fn aL dS bR=>
  intro xF xG hw wx a3 hf
  exact .fn aL (fun i a v h1 h2=>bR i a v h1 h2 hw (fun c hc=>hc.elim) a3 (fun c hc=>hc))
theorem bH.one {w:World} {PA PF:Nat→Prop} {a:AV} {v:Value} (h:bH w PA PF a v) (hu:a≠ .undef):v.oneCell'=true:=by
 cases h<;>first | rfl | exact absurd rfl hu
structure Env where
 w:World
 PA:Nat→Prop
 PF:Nat→Prop
 m:Nat→Option (Option Nat)
 bF:Nat→Nat
 sz:Nat→Nat
 cp:Nat→Nat
 mL:Nat→Option Nat
def fl (E:Env):AV→Value→Prop
 | .ref b g off n full,v=>(g<E.bF b∧ ∃A cap,v= .slice A n cap)∨(g=E.bF b∧((E.m b=some none∧off=0∧n=0∧ ∃A,v= .slice A 0 0)∨
   ∃c cap,E.m b=some (some c)∧v= .slice (some ⟨c,off*E.sz b,none⟩) n cap∧n≤cap∧(full=true→cap=n)∧off+cap≤E.cp b))
 | .ptr b g r c,v=>(g<E.bF b∧ ∃bl o,v= .pointer (some ⟨bl,o,none⟩))∨(g=E.bF b∧ ∃bl,E.m b=some (some bl)∧v= .pointer (some ⟨bl,r*E.sz b+c,none⟩))
 | .fx t c,v=> ∃bl,E.mL t=some bl∧v= .pointer (some ⟨bl,c,none⟩)
 | a,v=>bH E.w E.PA E.PF a v
def cC (E:Env):AV→Value→Prop
 | .fn f caps,v=> ∃vs:List Value,v= .func (.func f) #[] vs.toArray∧aD (fl E) caps vs
 | a,v=>fl E a v
def V2 (E:Env):AV→Value→Prop
 | .agg cells,v=> ∃vs:List Value,v= .agg vs.toArray∧aD (cC E) cells vs
 | a,v=>cC E a v
def V3 (E:Env):AV→Value→Prop
 | .tup l,v=> ∃vs:List Value,v= .tuple vs.toArray∧aD (V2 E) l vs
 | a,v=>V2 E a v
structure Env.gI (E E':Env):Prop where
 fC: ∀c,E.PA c→E'.PA c
 fD: ∀c,E.PF c→E'.PF c
 tj: ∀c,E.PA c→E'.w.heap[c]?=E.w.heap[c]?
 wf: ∀c,E.PF c→E'.w.heap[c]?=E.w.heap[c]?
 bF: ∀b,E.bF b≤E'.bF b
 m: ∀b x,E.m b=some x→E'.bF b=E.bF b→E'.m b=some x∧E'.sz b=E.sz b∧E'.cp b=E.cp b
 mL: ∀t c,E.mL t=some c→E'.mL t=some c
theorem Env.gI.refl (E:Env):E.gI E:=⟨fun _ h=>h,fun _ h=>h,fun _ _=>rfl,fun _ _=>rfl,fun _=>Nat.le_refl _,fun _ _ h _=>⟨h,rfl,rfl⟩,fun _ _ h=>h⟩
theorem Env.gI.trans {A B C:Env} (h:A.gI B) (k:B.gI C):A.gI C:=
 ⟨fun c x=>k.fC c (h.fC c x),fun c x=>k.fD c (h.fD c x),fun c x=>(k.tj c (h.fC c x)).trans (h.tj c x),fun c x=>(k.wf c (h.fD c x)).trans (h.wf c x),
  fun b=>Nat.le_trans (h.bF b) (k.bF b),fun b x hx hg=>by
   have h1:B.bF b=A.bF b:=Nat.le_antisymm (hg▸k.bF b) (h.bF b)
   have h2:C.bF b=B.bF b:=hg.trans h1.symm
   obtain⟨aU,s1,nc⟩:=h.m b x hx h1
   obtain⟨bu,s2,lL⟩:=k.m b x aU h2
   exact⟨bu,s2.trans s1,lL.trans nc⟩,
  fun t c x=>k.mL t c (h.mL t c x)⟩
theorem fl.le {E E':Env} (h:E.gI E') {a:AV} {v:Value} (hv:fl E a v):fl E' a v:=by
 have n5: ∀a v,bH E.w E.PA E.PF a v→bH E'.w E'.PA E'.PF a v:=fun a v k=>k.mono h.tj h.wf h.fC h.fD
 cases a with
 | ref b g off n full=>
  rcases hv with⟨hv,h1⟩ | ⟨hg,hv⟩
  ·exact .inl ⟨Nat.lt_of_lt_of_le hv (h.bF b),h1⟩
  ·rcases Nat.lt_or_ge (E.bF b) (E'.bF b) with bf | fK
   ·refine .inl ⟨hg▸bf,?_⟩
    rcases hv with⟨hm,aC,rfl,A,rfl⟩ | ⟨c,cap,hm,rfl,h1,h2,aN⟩<;>exact⟨_,_,rfl⟩
   ·have he:E'.bF b=E.bF b:=Nat.le_antisymm fK (h.bF b)
    refine .inr ⟨by rw[he];exact hg,?_⟩
    rcases hv with⟨hm,aC,aH,A,ix⟩ | ⟨c,cap,hm,e,h1,h2,aN⟩
    ·exact .inl ⟨(h.m b _ hm he).1,aC,aH,A,ix⟩
    ·obtain⟨aU,s1,nc⟩:=h.m b _ hm he
     exact .inr ⟨c,cap,aU,by rw[s1];exact e,h1,h2,by rw[nc];exact aN⟩
 | ptr b g r c=>
  rcases hv with⟨hv,h1⟩ | ⟨hg,bl,hm,e⟩
  ·exact .inl ⟨Nat.lt_of_lt_of_le hv (h.bF b),h1⟩
  ·rcases Nat.lt_or_ge (E.bF b) (E'.bF b) with bf | fK
   ·exact .inl ⟨hg▸bf,_,_,e⟩
   ·have he:E'.bF b=E.bF b:=Nat.le_antisymm fK (h.bF b)
    obtain⟨aU,s1,nc⟩:=h.m b _ hm he
    exact .inr ⟨by rw[he];exact hg,bl,aU,by rw[s1];exact e⟩
 | fx t c=>
  obtain⟨bl,hm,e⟩:=hv
  exact⟨bl,h.mL _ _ hm,e⟩
 | _=>exact n5 _ _ hv
theorem ra {E:Env} {a:AV} {v:Value} (h: ∀f caps,a≠ .fn f caps):cC E a v=fl E a v:=by
 cases a<;>first | rfl | exact absurd rfl (h _ _)
theorem o4 {E:Env} {a:AV} {v:Value} (h: ∀l,a≠ .agg l):V2 E a v=cC E a v:=by
 cases a<;>first | rfl | exact absurd rfl (h _)
theorem ot {E:Env} {a:AV} {v:Value} (h: ∀l,a≠ .tup l):V3 E a v=V2 E a v:=by
 cases a<;>first | rfl | exact absurd rfl (h _)
theorem cC.le {E E':Env} (h:E.gI E') {a:AV} {v:Value} (hv:cC E a v):cC E' a v:=by
 by_cases hf: ∃f caps,a= .fn f caps
 ·obtain⟨f,caps,rfl⟩:=hf
  obtain⟨vs,e,aI⟩:=hv
  exact⟨vs,e,aI.mono fun _ _ k=>k.le h⟩
 ·rw[ra fun f c e=>hf ⟨f,c,e⟩] at hv ⊢
  exact hv.le h
theorem V2.le {E E':Env} (h:E.gI E') {a:AV} {v:Value} (hv:V2 E a v):V2 E' a v:=by
 by_cases hf: ∃l,a= .agg l
 ·obtain⟨l,rfl⟩:=hf
  obtain⟨vs,e,aI⟩:=hv
  exact⟨vs,e,aI.mono fun _ _ k=>k.le h⟩
 ·rw[o4 fun l e=>hf ⟨l,e⟩] at hv ⊢
  exact hv.le h
theorem V3.le {E E':Env} (h:E.gI E') {a:AV} {v:Value} (hv:V3 E a v):V3 E' a v:=by
 by_cases hf: ∃l,a= .tup l
 ·obtain⟨l,rfl⟩:=hf
  obtain⟨vs,e,aI⟩:=hv
  exact⟨vs,e,aI.mono fun _ _ k=>k.le h⟩
 ·rw[ot fun l e=>hf ⟨l,e⟩] at hv ⊢
  exact hv.le h
theorem bH.h0 {E:Env} {a:AV} {v:Value} (h:bH E.w E.PA E.PF a v):fl E a v:=by
 cases a<;>first | exact h | cases h
theorem bH.v1 {E:Env} {a:AV} {v:Value} (h:bH E.w E.PA E.PF a v):cC E a v:=by
 by_cases hf: ∃f caps,a= .fn f caps
 ·obtain⟨f,caps,rfl⟩:=hf
  cases h with
  | fn aL dS=>exact⟨_,rfl,aL,fun i a v h1 h2=>((dS i a v h1 h2).mono (fun _ _=>rfl) (fun _ h=>h.elim) (fun _ h=>h) (fun _ h=>h.elim)).h0⟩
 ·rw[ra fun f c e=>hf ⟨f,c,e⟩]
  exact h.h0
theorem cC.undef (E:Env) (v:Value):cC E .undef v:=bH.undef v
theorem V3.undef (E:Env) (v:Value):V3 E .undef v:=bH.undef v
def AV.Tr:AV→Bool
 | .undef | .agg _ | .tup _=>false
 | _=>true
theorem cC.one {E:Env} {a:AV} {v:Value} (h:cC E a v) (hc:a.Tr=true):True:=trivial
def eK:List (Nat×List AV)→Nat→Option (List AV)
 | [],_=>none
 | (k,c)::l,t=>if t=k then some c else eK l t
def k7:List (Nat×List AV)→Nat→List AV→List (Nat×List AV)
 | [],_,_=>[]
 | (k,c)::l,t,d=>if t=k then(k,d)::l else(k,c)::k7 l t d
def Env.gM (E:Env) (c:Nat):Prop:= ∃b,E.m b=some (some c)
def Env.kB (E:Env) (c:Nat):Prop:= ∃t,E.mL t=some c
def Env.b3 (E:Env):Env:={E with mL:=fun _=>none}
theorem Env.BI (E:Env):E.b3.gI E:=⟨fun _ h=>h,fun _ h=>h,fun _ _=>rfl,fun _ _=>rfl,fun _=>Nat.le_refl _,fun _ _ h _=>⟨h,rfl,rfl⟩,fun _ _ h=>by cases h⟩
theorem Env.gI.b3 {E E':Env} (h:E.gI E'):E.b3.gI E'.b3:=⟨h.fC,h.fD,h.tj,h.wf,h.bF,h.m,fun _ _ h=>by cases h⟩
def vm (E:Env) (sz:Nat) (rows:List (List AV)) (a7:Array Value):Prop:=
 (∀(i:Nat) (row:List AV),rows[i]?=some row→row.length=sz)∧
 ∀(i j:Nat) (row:List AV) (a:AV),rows[i]?=some row→row[j]?=some a→ ∃u,a7[i*sz+j]?=some u∧cC E.b3 a u
structure SimH (E:Env) (H:List Blk):Prop where
 heap: ∀b c,E.m b=some (some c)→ ∃blk a7 ty,H[b]?=some blk∧E.sz b=blk.sz∧E.w.heap[c]?=some (.cells a7 ty (0,0))∧a7.size=E.cp b*E.sz b∧blk.rows.length≤E.cp b∧vm E (E.sz b) blk.rows a7
 e4: ∀(b:Nat) (blk:Blk),H[b]?=some blk→E.bF b=blk.bF
 ho: ∀b,E.m b=some none→ ∃blk,H[b]?=some blk∧E.sz b=blk.sz
 fresh: ∀b,H.length≤b→E.m b=none∧E.bF b=0
 hR: ∀b cj c,E.m b=some (some c)→E.m cj=some (some c)→b=cj
 jB: ∀t jI c,E.mL t=some c→E.mL jI=some c→t=jI
 gN: ∀b t c,E.m b=some (some c)→E.mL t=some c→False
 hS: ∀c,E.PA c→ ¬E.gM c
 ij: ∀c,E.PA c→ ¬E.kB c
 eS: ∀c,E.PF c→E.PA c
 e0: ∀c,E.PA c→c<E.w.heap.size
 gn: ∀c,E.gM c→c<E.w.heap.size
 g2: ∀c,E.kB c→c<E.w.heap.size
def SimL (E:Env) (L:List (Nat×List AV)):Prop:=
 ∀t c,E.mL t=some c→ ∃cells a7 ty,eK L t=some cells∧E.w.heap[c]?=some (.cells a7 ty (0,0))∧aD (cC E.b3) cells a7.toList
structure tt (E:Env) (aJ:St) (tmps:Array Value):Prop where
 h:SimH E aJ.H
 l:SimL E aJ.L
 iq: ∀t,V3 E (aJ.T.getD t .undef) (tmps.getD t undef)
 size:aJ.T.length=tmps.size
structure Step (E E':Env):Prop where
 le:E.gI E'
 os:E'.w.os=E.w.os
 tape:E'.w.tape=E.w.tape
 output:E'.w.output=E.w.output
 size:E.w.heap.size≤E'.w.heap.size
 e7: ∀c,c<E.w.heap.size→ ¬E.gM c→ ¬E.kB c→E'.w.heap[c]?=E.w.heap[c]?
 ji: ∀b c,E'.m b=some (some c)→E.m b=some (some c)∨E.w.heap.size≤c
 jA: ∀c,E'.kB c→E.kB c∨E.w.heap.size≤c
 fC: ∀c,E'.PA c→E.PA c∨E.w.heap.size≤c
 fD: ∀c,E'.PF c→E.PF c∨E.w.heap.size≤c
theorem Step.qu {E E':Env} (h:Step E E'): ∀c,E'.gM c→E.gM c∨E.w.heap.size≤c:=fun c ⟨b,hb⟩=>(h.ji b c hb).elim (fun h=> .inl ⟨b,h⟩) .inr
theorem Step.refl (E:Env):Step E E:=⟨.refl E,rfl,rfl,rfl,Nat.le_refl _,fun _ _ _ _=>rfl,fun _ _ h=> .inl h,fun _ h=> .inl h,fun _ h=> .inl h,fun _ h=> .inl h⟩
theorem Step.trans {A B C:Env} (h:Step A B) (k:Step B C):Step A C where
 le:=h.le.trans k.le
 os:=k.os.trans h.os
 tape:=k.tape.trans h.tape
 output:=k.output.trans h.output
 size:=Nat.le_trans h.size k.size
 e7:=fun c hc h1 h2=>by
  rw[k.e7 c (Nat.lt_of_lt_of_le hc h.size) (fun x=>(h.qu c x).elim h1 (fun y=>absurd hc (Nat.not_lt.2 y))) (fun x=>(h.jA c x).elim h2 (fun y=>absurd hc (Nat.not_lt.2 y)))]
  exact h.e7 c hc h1 h2
 ji:=fun b c x=>(k.ji b c x).elim (fun y=>h.ji b c y) (fun y=> .inr (Nat.le_trans h.size y))
 jA:=fun c x=>(k.jA c x).elim (fun y=>h.jA c y) (fun y=> .inr (Nat.le_trans h.size y))
 fC:=fun c x=>(k.fC c x).elim (fun y=>h.fC c y) (fun y=> .inr (Nat.le_trans h.size y))
 fD:=fun c x=>(k.fD c x).elim (fun y=>h.fD c y) (fun y=> .inr (Nat.le_trans h.size y))
class cB where
 n:Nat
structure Good [iJ:cB] (cs E:Env):Prop where
 yX: ∀b,iJ.n≤b→cs.m b=none∧cs.bF b=0
 b3: ∀t,cs.mL t=none
 le:cs.gI E
 os:E.w.os=cs.w.os
 tape:E.w.tape=cs.w.tape
 output:E.w.output=cs.w.output
 size:cs.w.heap.size≤E.w.heap.size
 e7: ∀c,c<cs.w.heap.size→ ¬cs.gM c→E.w.heap[c]?=cs.w.heap[c]?
 ji: ∀b c,E.m b=some (some c)→cs.m b=some (some c)∨cs.w.heap.size≤c
 jA: ∀c,E.kB c→cs.w.heap.size≤c
 fC: ∀c,E.PA c→cs.PA c∨cs.w.heap.size≤c
 fD: ∀c,E.PF c→cs.PF c∨cs.w.heap.size≤c
section
variable [iJ:cB]
theorem Good.qu {cs E:Env} (h:Good cs E): ∀c,E.gM c→cs.gM c∨cs.w.heap.size≤c:=fun c ⟨b,hb⟩=>(h.ji b c hb).elim (fun h=> .inl ⟨b,h⟩) .inr
theorem Good.refl {E:Env} (hu: ∀b,iJ.n≤b→E.m b=none∧E.bF b=0) (h: ∀t,E.mL t=none):Good E E:=
 ⟨hu,h,.refl E,rfl,rfl,rfl,Nat.le_refl _,fun _ _ _=>rfl,fun _ _ x=> .inl x,(fun c ⟨t,x⟩=>by rw[h t] at x;cases x),fun _ x=> .inl x,fun _ x=> .inl x⟩
theorem Good.step {cs E E':Env} (h:Good cs E) (k:Step E E'):Good cs E' where
 yX:=h.yX
 b3:=h.b3
 le:=h.le.trans k.le
 os:=k.os.trans h.os
 tape:=k.tape.trans h.tape
 output:=k.output.trans h.output
 size:=Nat.le_trans h.size k.size
 e7:=fun c hc h1=>by
  rw[k.e7 c (Nat.lt_of_lt_of_le hc h.size) (fun x=>(h.qu c x).elim h1 (fun y=>absurd hc (Nat.not_lt.2 y))) (fun x=>absurd hc (Nat.not_lt.2 (h.jA c x)))]
  exact h.e7 c hc h1
 ji:=fun b c x=>(k.ji b c x).elim (fun y=>h.ji b c y) (fun y=> .inr (Nat.le_trans h.size y))
 jA:=fun c x=>(k.jA c x).elim (fun y=>h.jA c y) (fun y=>Nat.le_trans h.size y)
 fC:=fun c x=>(k.fC c x).elim (fun y=>h.fC c y) (fun y=> .inr (Nat.le_trans h.size y))
 fD:=fun c x=>(k.fD c x).elim (fun y=>h.fD c y) (fun y=> .inr (Nat.le_trans h.size y))
end
def Sv (ex:Exit):Bool:=match ex with
 | .normal | .exit _ | .ret=>true
 | _=>false
def na [cB] (cs:Env) (Q:Exit→St→Prop) (ex:Exit) (a:Act) (w:World):Prop:=
 Sv ex=true∧ ∃aJ E,Q ex aJ∧E.w=w∧Good cs E∧tt E aJ a.tmps∧a.defers=[]
def WpS [cB] (P:Program) (c:Code) (Q:Exit→St→Prop) (aJ:St):Prop:=
 ∀(cs E:Env) (a:Act),Good cs E→tt E aJ a.tmps→a.defers=[]→c.wp P (na cs Q) a E.w
def Weak [cB] (aJ k9:St):Prop:= ∀(cs E:Env) (tmps:Array Value),Good cs E→tt E aJ tmps→ ∃E',E'.w=E.w∧Good cs E'∧tt E' k9 tmps
theorem Weak.refl [cB] (aJ:St):Weak aJ aJ:=fun cs E tmps g h=>⟨E,rfl,g,h⟩
theorem Weak.trans [cB] {a b c:St} (h:Weak a b) (k:Weak b c):Weak a c:=fun cs E tmps g s=>by
 obtain⟨E1,bB,aQ,s1⟩:=h cs E tmps g s
 obtain⟨q9,e2,a1,s2⟩:=k cs E1 tmps aQ s1
 exact⟨q9,e2.trans bB,a1,s2⟩
section
variable [cB] {P:Program} {Q vl:Exit→St→Prop} {aJ:St}
theorem WpS.mono {c:Code} (h:WpS P c Q aJ) (ak: ∀e s,Q e s→vl e s):WpS P c vl aJ:=fun cs E a g s d=>
 wp_mono (h cs E a g s d) fun e a w ⟨h1,aJ,E,h2,aN⟩=>⟨h1,aJ,E,ak _ _ h2,aN⟩
theorem WpS.l8 {c:Code} {k9:St} (h:WpS P c Q k9) (k:Weak aJ k9):WpS P c Q aJ:=fun cs E a g s d=>by
 obtain⟨E1,bB,aQ,s1⟩:=k cs E a.tmps g s
 exact bB▸h cs E1 a aQ s1 d
theorem WpS.skip (h:Q .normal aJ):WpS P .skip Q aJ:=fun cs E a g s d=>wp_skip ⟨rfl,aJ,E,h,rfl,g,s,d⟩
theorem WpS.ret (h:Q .ret aJ):WpS P .ret Q aJ:=fun cs E a g s d=>wp_ret ⟨rfl,aJ,E,h,rfl,g,s,d⟩
theorem WpS.exit {id:Nat} (h:Q (.exit id) aJ):WpS P (.exit id) Q aJ:=fun cs E a g s d=>wp_exit ⟨rfl,aJ,E,h,rfl,g,s,d⟩
def dR (P:Program) (y:Code) (Q:Exit→St→Prop) (ex:Exit) (s:St):Prop:=match ex with
 | .normal=>WpS P y Q s
 | ex=>Q ex s
theorem WpS.seq {x y:Code} (h:WpS P x (dR P y Q) aJ):WpS P (.seq x y) Q aJ:=fun cs E a g s d=>
 wp_seq (wp_mono (h cs E a g s d) fun e ia w' ⟨h1,k9,E',h2,aN,be,ci,cK⟩=>by
  cases e with
  | normal=>subst aN;exact h2 cs E' ia be ci cK
  | exit id=>exact⟨rfl,k9,E',h2,aN,be,ci,cK⟩
  | ret=>exact⟨rfl,k9,E',h2,aN,be,ci,cK⟩
  | _=>cases h1)
def ch (id:Nat) (Q:Exit→St→Prop) (ex:Exit) (s:St):Prop:=match ex with
 | .exit gm=>if gm=id then Q .normal s else Q (.exit gm) s
 | ex=>Q ex s
theorem WpS.block {id:Nat} {c:Code} (h:WpS P c (ch id Q) aJ):WpS P (.block id c) Q aJ:=fun cs E a g s d=>
 wp_block (wp_mono (h cs E a g s d) fun e ia w' ⟨h1,k9,E',h2,aN⟩=>by
  cases e with
  | normal=>exact⟨rfl,k9,E',h2,aN⟩
  | exit gm=>
   by_cases gL:gm=id
   ·subst gL
    have ya:(if gm=gm then Q .normal k9 else Q (.exit gm) k9):=h2
    rw[if_pos rfl] at ya
    show(if gm=gm then _ else _)
    rw[if_pos rfl];exact⟨rfl,k9,E',ya,aN⟩
   ·have ya:(if gm=id then Q .normal k9 else Q (.exit gm) k9):=h2
    rw[if_neg gL] at ya
    show(if gm=id then _ else _)
    rw[if_neg gL];exact⟨rfl,k9,E',ya,aN⟩
  | ret=>exact⟨rfl,k9,E',h2,aN⟩
  | _=>cases h1)
end
def oy:Value→AV
 | .int k n=> .int k n
 | .bool b=> .bool b
 | .string s=> .str s
 | .slice none 0 0=> .bC [] true true
 | .pointer none=> .fW
 | .nilIface=> .gp
 | _=> .undef
def cm (T:List AV):Operand→AV
 | .tmp t=>T.getD t .undef
 | .const v=>oy v
 | .func f=> .fn f []
 | .global _=> .undef
theorem TN (E:Env) (v:Value):V3 E (oy v) v:=by
 unfold oy
 split
 ·exact bH.int _ _
 ·exact bH.bool _
 ·exact bH.str _
 ·exact bH.bC (PB:=fun _=>False) (sz:=0) (vs:=fun _ _=>undef) (fun _ h=>h.elim) ⟨Nat.le_refl _,Nat.zero_le _⟩ (fun _=>rfl) (fun i row h=>by simp at h) (fun h=>by simp at h) (fun i j row a h=>by simp at h)
 ·exact bH.fW
 ·exact bH.gp
 ·exact bH.undef _
theorem opv_rel {E:Env} {T:List AV} {a:Act} (h: ∀t,V3 E (T.getD t .undef) (a.tmps.getD t undef)) (x:Operand):V3 E (cm T x) (a.eval x):=by
 cases x with
 | tmp t=>exact h t
 | const v=>exact TN E v
 | global g=>exact bH.undef _
 | func f=>exact⟨[],rfl,aD.nil⟩
def xP (b:Bool) (x y:Prop):Prop:=(b=true→x)∧(b=false→y)
def ov (v:AV) (k:Bool→Prop):Prop:=match v with
 | .bool b=>k b
 | _=>False
theorem z4 {v:AV} {k:Bool→Prop} (h:ov v k): ∃b,v= .bool b∧k b:=by
 cases v<;>first | exact⟨_,rfl,h⟩ | exact h.elim
theorem V3.re {E:Env} {b:Bool} {v:Value} (h:V3 E (.bool b) v):v= .bool b:=by
 have h':bH E.w E.PA E.PF (.bool b) v:=h
 cases h';rfl
theorem V3.rM {E:Env} {k:IntKind} {n:Int} {v:Value} (h:V3 E (.int k n) v):v= .int k n:=by
 have h':bH E.w E.PA E.PF (.int k n) v:=h
 cases h';rfl
theorem V3.xm {E:Env} {s:ByteArray} {v:Value} (h:V3 E (.str s) v):v= .string s:=by
 have h':bH E.w E.PA E.PF (.str s) v:=h
 cases h';rfl
section
variable [cB] {P:Program} {Q vl:Exit→St→Prop} {aJ:St}
theorem WpS.cond {c:Operand} {x y:Code} (h:ov (cm aJ.T c) fun b=>xP b (WpS P x Q aJ) (WpS P y Q aJ)):WpS P (.cond c x y) Q aJ:=fun cs E a g s d=>by
 obtain⟨b,hb,h1,h2⟩:=z4 h
 have hv:=opv_rel s.iq c
 rw[hb] at hv
 have he:a.eval c= .bool b:=V3.re hv
 exact wp_cond_split he (fun e=>h1 e cs E a g s d) (fun e=>h2 e cs E a g s d)
def Sx (I:Nat→St→Prop) (n:Nat) (Q:Exit→St→Prop) (ex:Exit) (s:St):Prop:=match ex with
 | .normal=> ∃pA s',pA<n∧Weak s s'∧I pA s'
 | ex=>Q ex s
theorem WpS.loop {c:Code} (I:Nat→St→Prop) (n:Nat) (aT:I n aJ) (round: ∀n s,I n s→WpS P c (Sx I n Q) s):WpS P (.loop c) Q aJ:=by
 intro cs E a g s d b k a7
 have key: ∀n (a:Act) (E:Env) aJ,I n aJ→Good cs E→tt E aJ a.tmps→a.defers=[]→
   ∃e ia w',na cs Q e ia w'∧Arrives P (lone (b.at a (.code c:: .inLoop c::k)) a7 E.w) b k a7 e ia w':=by
  intro n
  induction n using Nat.strongRecOn with
  | _ n bR=>
   intro a E aJ aZ g s d
   obtain⟨e,z5,R9,ak,yh⟩:=round n aJ aZ cs E a g s d b (.inLoop c::k) a7
   obtain⟨he,RE,E1,ak,hw,aQ,s1,d1⟩:=ak
   cases e with
   | normal=>
    obtain⟨pA,s',bf,Xf,yc⟩:=ak
    obtain⟨q9,e2,a1,s2⟩:=Xf cs E1 z5.tmps aQ s1
    obtain⟨Up,SQ,aeH,W3,K7⟩:=bR pA bf z5 q9 s' yc a1 s2 d1
    rw[e2,hw] at K7
    exact⟨Up,SQ,aeH,W3,.of_steps (Steps.trans yh (.one step_inLoop)) K7⟩
   | exit id=>exact⟨_,z5,R9,⟨rfl,RE,E1,ak,hw,aQ,s1,d1⟩,.pass (x:= .inLoop c) rfl (fun _ _=> .inl (by simp)) yh⟩
   | ret=>exact⟨_,z5,R9,⟨rfl,RE,E1,ak,hw,aQ,s1,d1⟩,.pass (x:= .inLoop c) rfl (fun _ _=> .inl (by simp)) yh⟩
   | _=>cases he
 obtain⟨e,ia,w',ak,yh⟩:=key n a E aJ aT g s d
 exact⟨e,ia,w',ak,.of_steps (.one step_loop) yh⟩
end
def cU {α:Type} (o:Option α) (k:α→Prop):Prop:=match o with
 | some a=>k a
 | none=>False
theorem fs {α:Type} {o:Option α} {k:α→Prop} (h:cU o k): ∃a,o=some a∧k a:=by
 cases o with
 | none=>exact h.elim
 | some a=>exact⟨a,rfl,h⟩
theorem ed {α:Type} {o:Option α} {k:α→Prop} {a:α} (h:o=some a) (hk:k a):cU o k:=by rw[h];exact hk
def eR (b:Bool) (x:Prop):Prop:=match b with
 | true=>x
 | false=>False
theorem pE {b:Bool} {x:Prop} (h:eR b x):b=true∧x:=by
 cases b with
 | true=>exact⟨rfl,h⟩
 | false=>exact h.elim
def wD (P:Program) (t:TypeId):Bool:=match P.underlying t with
 | some (.struct _) | some (.array _ _)=>true
 | _=>false
def yM (P:Program) (t:TypeId):Bool:=(P.underlying t).isSome
theorem run_underlying {P:Program} {t:TypeId} {w:World} {d:TypeDesc} (h:P.underlying t=some d):(underlying t).run P w= .ok d w:=by
 simp[Go.underlying,h]
theorem O4 {P:Program} {t:TypeId} {w:World} (h:yM P t=true):(isAgg t).run P w= .ok (wD P t) w:=by
 unfold yM at h
 cases bi:P.underlying t with
 | none=>simp[bi] at h
 | some d=>
  simp only[Go.isAgg,Sem.run_bind,run_underlying bi,Result.andThen_ok,wD,bi]
  cases d<;>rfl
theorem run_sizeOf {P:Program} {t:TypeId} {w:World} (h:(P.info? t).isSome=true):(sizeOf t).run P w= .ok (P.cellsOf t) w:=by
 cases hi:P.info? t with
 | none=>simp[hi] at h
 | some i=>simp[Go.sizeOf,typeInfo,hi,Program.cellsOf]
theorem Y1 {P:Program} {t:TypeId} (h:yM P t=true):(P.info? t).isSome=true:=by
 unfold yM Program.underlying at h
 cases hi:P.info? t with
 | none=>simp[hi] at h
 | some i=>rfl
def js (P:Program) (t:TypeId) (cells:List AV) (c:Nat) (K:AV→Prop):Prop:=
 if yM P t=true then
  (if wD P t=true then(if c+P.cellsOf t≤cells.length then K (.agg ((cells.drop c).take (P.cellsOf t))) else False)
   else cU cells[c]? K)
 else False
def oI (P:Program) (t:TypeId) (x:AV) (L:List (Nat×List AV)) (H:List Blk) (K:AV→Prop):Prop:=match x with
 | .fx s c=>cU (eK L s) fun cells=>js P t cells c K
 | .ptr b g r c=>cU H[b]? fun blk=>blk.bF=g∧cU blk.rows[r]? fun row=>js P t row c K
 | .dr cells c=>js P t cells c K
 | _=>False
theorem nI (c o n:Nat):(⟨c,o,none⟩:Addr).add n=⟨c,o+n,none⟩:=by
 unfold Addr.add;split
 ·subst_vars;rfl
 ·rfl
theorem IJ {P:Program} {t:TypeId} {cells:List AV} {c bl o:Nat} {K:AV→Prop} {w:World} {R:AV→Value→Prop}
  (hc: ∀(j:Nat) (a:AV),cells[j]?=some a→ ∃u,w.cell? ⟨bl,o+j,none⟩=some u∧R a u) (h:js P t cells c K):
  ∃a v,K a∧(loadVar t ⟨bl,o+c,none⟩).run P w= .ok v w∧
   ((∃l vs,a= .agg l∧v= .agg (List.toArray vs)∧aD R l vs)∨R a v):=by
 unfold js at h
 split at h
 ·rename_i hk
  split at h
  ·rename_i a3
   split at h
   ·rename_i aL
    let n:=P.cellsOf t
    have eo: ∀j,j<n→ ∃a u,cells[c+j]?=some a∧w.cell? ⟨bl,o+(c+j),none⟩=some u∧R a u:=by
     intro j aM
     have n3:c+j<cells.length:=by show c+j<cells.length;have:n=P.cellsOf t:=rfl;omega
     obtain⟨u,h1,h2⟩:=hc (c+j) _ (List.getElem?_eq_getElem n3)
     exact⟨_,u,List.getElem?_eq_getElem n3,h1,h2⟩
    let f:Nat→Value:=fun j=>(w.cell? ⟨bl,o+(c+j),none⟩).getD undef
    have hf: ∀j,j<n→w.cell? ((⟨bl,o+c,none⟩:Addr).add j)=some (f j):=by
     intro j aM
     obtain⟨a,u,_,h1,_⟩:=eo j aM
     rw[nI,Nat.add_assoc]
     show _=some ((w.cell? ⟨bl,o+(c+j),none⟩).getD undef)
     rw[h1];rfl
    refine⟨_,.agg ((List.range n).map f).toArray,h,?_,.inl ⟨_,(List.range n).map f,rfl,rfl,?_,?_⟩⟩
    ·simp only[loadVar,Sem.run_bind,O4 hk,Result.andThen_ok,a3,if_true,run_sizeOf (Y1 hk)]
     rw[run_loadCells w _ n f hf]
     rfl
    ·simp only[List.length_take,List.length_drop,List.length_map,List.length_range];show min n _=n;have:n=P.cellsOf t:=rfl;omega
    ·intro i a b Li v9
     have hi:i<n:=by have:=(List.getElem?_eq_some_iff.1 v9).1;simpa using this
     obtain⟨ia,u,h1,h2,aN⟩:=eo i hi
     rw[List.getElem?_take,if_pos (show i<P.cellsOf t from hi),List.getElem?_drop,h1] at Li
     cases Li
     rw[List.getElem?_map,List.getElem?_range hi] at v9
     simp only[Option.map_some,Option.some.injEq] at v9
     have:f i=u:=by show(w.cell? ⟨bl,o+(c+i),none⟩).getD undef=u;rw[h2];rfl
     rw[←v9,this];exact aN
   ·exact h.elim
  ·rename_i a3
   obtain⟨a,tP,hK⟩:=fs h
   obtain⟨u,h1,h2⟩:=hc c a tP
   refine⟨a,u,hK,?_,.inr h2⟩
   have VZ:wD P t=false:=by cases hx:wD P t<;>simp_all
   simp only[loadVar,Sem.run_bind,O4 hk,Result.andThen_ok,VZ]
   simp[h1]
 ·exact h.elim
theorem cC.up {E:Env} {a:AV} {v:Value} (h:cC E.b3 a v):cC E a v:=h.le E.BI
theorem Sz {E:Env} {l:List AV} {v:Value} (h:cC E (.agg l) v):False:=by
 have h':bH E.w E.PA E.PF (.agg l) v:=h
 cases h'
theorem SA {E:Env} {l:List AV} {v:Value} (h:cC E (.tup l) v):False:=by
 have h':bH E.w E.PA E.PF (.tup l) v:=h
 cases h'
theorem pV {E:Env} {a:AV} {v:Value} (h:cC E a v):V2 E a v:=by
 by_cases hf: ∃l,a= .agg l
 ·obtain⟨l,rfl⟩:=hf;exact(Sz h).elim
 ·rw[o4 fun l e=>hf ⟨l,e⟩];exact h
theorem SB {E:Env} {l:List AV} {v:Value} (h:V2 E (.tup l) v):False:=SA (E:=E) (l:=l) (v:=v) h
theorem pW {E:Env} {a:AV} {v:Value} (h:V2 E a v):V3 E a v:=by
 by_cases hf: ∃l,a= .tup l
 ·obtain⟨l,rfl⟩:=hf;exact(SB h).elim
 ·rw[ot fun l e=>hf ⟨l,e⟩];exact h
theorem CU {E:Env} {a:AV} {v:Value} (h:(∃l vs,a= .agg l∧v= .agg (List.toArray vs)∧aD (cC E) l vs)∨cC E a v):V2 E a v:=by
 rcases h with⟨l,vs,rfl,rfl,aI⟩ | h
 ·exact⟨vs,rfl,aI⟩
 ·exact pV h
theorem V3.yT {E:Env} {t c:Nat} {v:Value} (h:V3 E (.fx t c) v): ∃bl,E.mL t=some bl∧v= .pointer (some ⟨bl,c,none⟩):=h
theorem V3.B0 {E:Env} {b g r c:Nat} {v:Value} (h:V3 E (.ptr b g r c) v) (hg:E.bF b=g): ∃bl,E.m b=some (some bl)∧v= .pointer (some ⟨bl,r*E.sz b+c,none⟩):=by
 rcases(h:fl E (.ptr b g r c) v) with⟨h,_⟩ | ⟨_,h⟩
 ·omega
 ·exact h
theorem cell_of {w:World} {c o:Nat} {a7:Array Value} {ty:TypeId} {Vj:Nat×Nat} {u:Value} (h:w.heap[c]?=some (.cells a7 ty Vj)) (hu:a7[o]?=some u):w.cell? ⟨c,o,none⟩=some u:=by
 simp[World.cell?,h,hu]
structure Sub (L:List (Nat×List AV)) (H:List Blk) (ku:List (Nat×List AV)) (e3:List Blk):Prop where
 l: ∀t c,eK L t=some c→eK ku t=some c
 h: ∀(b:Nat) (blk:Blk),H[b]?=some blk→e3[b]?=some blk
theorem Sub.refl (L:List (Nat×List AV)) (H:List Blk):Sub L H L H:=⟨fun _ _ h=>h,fun _ _ h=>h⟩
theorem Nt {P:Program} {t:TypeId} {x:AV} {L ku:List (Nat×List AV)} {H e3:List Blk} {K:AV→Prop} {E:Env} {v:Value}
  (sub:Sub L H ku e3) (aR:SimH E e3) (bY:SimL E ku) (hx:V3 E x v) (h:oI P t x L H K):
  ∃a eW,K a∧(Instr.loadAt t v).run P E.w= .ok eW E.w∧V2 E a eW:=by
 cases x with
 | fx s c=>
  obtain⟨bl,hm,rfl⟩:=hx.yT
  obtain⟨cells,a7,ty,hg,hw,aI⟩:=bY s bl hm
  have h':cU (eK L s) fun cells=>js P t cells c K:=h
  obtain⟨Ae,yo,h'⟩:=fs h'
  obtain rfl:cells=Ae:=by have:=sub.l _ _ yo;rw[hg] at this;exact Option.some.inj this
  obtain⟨a,eW,hK,aK,hv⟩:=IJ (o:=0) (bl:=bl) (w:=E.w) (R:=cC E.b3) (fun j a aM=>by
   obtain⟨u,hu,aK⟩:=aI.get aM
   exact⟨u,by rw[Nat.zero_add];exact cell_of hw (by simpa using hu),aK⟩) h'
  rw[Nat.zero_add] at aK
  refine⟨a,eW,hK,?_,(CU hv).le E.BI⟩
  simp only[Instr.loadAt,Instr.sureAddr,Sem.run_bind,Sem.run_pure,Result.andThen_ok,aK]
 | ptr b g r c=>
  obtain⟨blk,hb,hg,h2⟩:=fs (show cU H[b]? fun blk=>blk.bF=g∧cU blk.rows[r]? fun row=>js P t row c K from h)
  obtain⟨row,eL,aN⟩:=fs h2
  replace hb:=sub.h b blk hb
  have kc:=aR.e4 b blk hb
  obtain⟨bl,hm,rfl⟩:=hx.B0 (kc.trans hg)
  obtain⟨blk',a7,ty,dZ,mM,hw,mc,hlen,gl⟩:=aR.heap b bl hm
  obtain rfl:blk=blk':=by rw[hb] at dZ;exact Option.some.inj dZ
  obtain⟨a,eW,hK,aK,hv⟩:=IJ (o:=r*E.sz b) (bl:=bl) (w:=E.w) (R:=cC E.b3) (fun j a aM=>by
   obtain⟨u,hu,aK⟩:=gl.2 r j row a eL aM
   exact⟨u,cell_of hw hu,aK⟩) aN
  refine⟨a,eW,hK,?_,(CU hv).le E.BI⟩
  simp only[Instr.loadAt,Instr.sureAddr,Sem.run_bind,Sem.run_pure,Result.andThen_ok,aK]
 | dr cells c=>
  have jz:bH E.w E.PA E.PF (.dr cells c) v:=hx
  cases jz with
  | @dr _ _ _ _ bl o vs hc e9 dS=>
   have h':js P t cells c K:=h
   obtain⟨a,eW,hK,aK,hv⟩:=IJ (o:=o) (bl:=bl) (w:=E.w) (R:=bH E.w E.PA (fun _=>False)) (fun j a aM=>
    ⟨vs j,e9 j (List.getElem?_eq_some_iff.1 aM).1,dS j a aM⟩) h'
   have up: ∀a v,bH E.w E.PA (fun _=>False) a v→cC E a v:=fun a v aK=>(aK.mono (fun _ _=>rfl) (fun _ h=>h.elim) (fun _ h=>h) (fun _ h=>h.elim)).v1
   refine⟨a,eW,hK,?_,CU (hv.imp (fun⟨l,vs,h1,h2,aN⟩=>⟨l,vs,h1,h2,aN.mono up⟩) (up _ _))⟩
   simp only[Instr.loadAt,Instr.sureAddr,Sem.run_bind,Sem.run_pure,Result.andThen_ok,aK]
 | _=>exact h.elim
def u3:AV→Bool
 | .undef | .agg _ | .tup _ | .fx _ _ | .fn _ _=>false
 | _=>true
def iX:AV→Bool
 | .fn _ caps=>caps.all u3
 | a=>u3 a
def e8:AV→List AV
 | .agg l=>l
 | a=>[a]
def fa (row:List AV) (c:Nat) (l:List AV):List AV:=row.take c++l++row.drop (c+l.length)
def l4 (P:Program) (t:TypeId) (x v:AV) (L:List (Nat×List AV)) (H:List Blk) (K:List (Nat×List AV)→List Blk→Prop):Prop:=
 if(P.info? t).isSome=true∧(e8 v).length=P.cellsOf t∧(e8 v).all iX=true then
  match x with
  | .fx s c=>cU (eK L s) fun cells=>if c+(e8 v).length≤cells.length then K (k7 L s (fa cells c (e8 v))) H else False
  | .ptr b g r c=>cU H[b]? fun blk=>blk.bF=g∧cU blk.rows[r]? fun row=>c+(e8 v).length≤row.length∧K L (H.set b {blk with rows:=blk.rows.set r (fa row c (e8 v))})
  | _=>False
 else False
theorem RK {E:Env} {a:AV} {v:Value} (h:u3 a=true) (hv:fl E a v):fl E.b3 a v:=by
 cases a<;>first | exact hv | cases h
theorem Iy {E:Env} {a:AV} {v:Value} (h:iX a=true) (hv:cC E a v):cC E.b3 a v:=by
 by_cases hf: ∃f caps,a= .fn f caps
 ·obtain⟨f,caps,rfl⟩:=hf
  obtain⟨vs,e,aI⟩:=hv
  refine⟨vs,e,aI.1,fun i x y hx bt=>RK ?_ (aI.2 i x y hx bt)⟩
  have h':caps.all u3=true:=h
  exact List.all_eq_true.1 h' x (List.mem_of_getElem? hx)
 ·have aT:iX a=u3 a:=by cases a<;>first | rfl | exact absurd ⟨_,_,rfl⟩ hf
  rw[ra fun f c e=>hf ⟨f,c,e⟩] at hv ⊢
  exact RK (aT▸h) hv
theorem fl.one {E:Env} {a:AV} {v:Value} (h:u3 a=true) (hv:fl E a v):v.oneCell'=true:=by
 cases a with
 | undef=>cases h
 | agg l=>cases h
 | tup l=>cases h
 | fx s c=>cases h
 | fn f c=>cases h
 | ref b g off n full=>
  rcases hv with⟨_,A,cap,rfl⟩ | ⟨_,⟨_,_,_,A,rfl⟩ | ⟨c,cap,_,rfl,_⟩⟩
  ·rfl
  ·rfl
  ·rfl
 | ptr b g r c=>
  rcases hv with⟨_,bl,o,rfl⟩ | ⟨_,bl,_,rfl⟩
  ·rfl
  ·rfl
 | _=>exact bH.one (show bH E.w E.PA E.PF _ v from hv) (by intro h;cases h)
theorem cC.BM {E:Env} {a:AV} {v:Value} (h:iX a=true) (hv:cC E a v):v.oneCell'=true:=by
 by_cases hf: ∃f caps,a= .fn f caps
 ·obtain⟨f,caps,rfl⟩:=hf
  obtain⟨vs,rfl,aI⟩:=hv
  rfl
 ·have aT:iX a=u3 a:=by cases a<;>first | rfl | exact absurd ⟨_,_,rfl⟩ hf
  rw[ra fun f c e=>hf ⟨f,c,e⟩] at hv
  exact hv.one (aT▸h)
theorem Step.setRow {E:Env} {H:List Blk} (aR:SimH E H) {bl:Nat} (hb:E.gM bl∨E.kB bl) (a7:Array Value):Step E {E with w:=E.w.setRow bl a7}:=by
 have aH: ∀c,E.PA c→c≠bl:=fun c hc e=>by
  subst e
  exact hb.elim (aR.hS _ hc) (aR.ij _ hc)
 have hk: ∀c,c≠bl→(E.w.setRow bl a7).heap[c]?=E.w.heap[c]?:=fun c hc=>setRow_other _ _ _ _ hc
 exact⟨⟨fun _ h=>h,fun _ h=>h,fun c hc=>hk c (aH c hc),fun c hc=>hk c (aH c (aR.eS c hc)),fun _=>Nat.le_refl _,fun _ _ h _=>⟨h,rfl,rfl⟩,fun _ _ h=>h⟩,rfl,rfl,rfl,
  by simp,fun c _ h1 h2=>hk c (fun e=>by subst e;exact hb.elim h1 h2),fun _ _ h=> .inl h,fun _ h=> .inl h,fun _ h=> .inl h,fun _ h=> .inl h⟩
theorem Dc {E:Env} {v:AV} {u:Value} (hv:V2 E v u) (hs:(e8 v).all iX=true):aD (cC E) (e8 v) u.cells.toList:=by
 by_cases hf: ∃l,v= .agg l
 ·obtain⟨l,rfl⟩:=hf
  obtain⟨vs,rfl,aI⟩:=hv
  exact aI
 ·have aT:e8 v=[v]:=by cases v<;>first | rfl | exact absurd ⟨_,rfl⟩ hf
  rw[o4 fun l e=>hf ⟨l,e⟩] at hv
  rw[aT] at hs ⊢
  have h1:u.oneCell'=true:=hv.BM (by simpa using hs)
  have h2:u.cells= #[u]:=by cases u<;>first | rfl | cases h1
  rw[h2]
  exact aD.cons hv aD.nil
theorem O6 {P:Program} {t:TypeId} {w:World} {bl o:Nat} {a7:Array Value} {ty:TypeId} {u:Value} (hi:(P.info? t).isSome=true) (aP:u.cells.size=P.cellsOf t)
  (hw:w.heap[bl]?=some (.cells a7 ty (0,0))) (aC:o+u.cells.size≤a7.size) (h1: ∀x∈u.cells.toList,x.oneCell'=true):
  (Instr.storeAt t (.pointer (some ⟨bl,o,none⟩)) u).run P w= .ok () (w.setRow bl (a7.toList.take o++u.cells.toList++a7.toList.drop (o+u.cells.toList.length)).toArray):=by
 have:=run_storeCells_at (P:=P) bl o ty u.cells.toList 0 a7 w hw (by simpa using aC) h1
 simp only[Nat.add_zero] at this
 simp[Instr.storeAt,Instr.sureAddr,storeVar,run_sizeOf hi,aP,this]
theorem xk {α:Type} {l m:List α} {c:Nat} (hc:c+m.length≤l.length) (j:Nat):
  (l.take c++m++l.drop (c+m.length))[j]?=if j<c then l[j]? else if j<c+m.length then m[j - c]? else l[j]?:=by
 by_cases h1:j<c
 ·rw[if_pos h1,List.append_assoc,List.getElem?_append_left (by simp;omega),List.getElem?_take,if_pos h1]
 ·rw[if_neg h1]
  by_cases h2:j<c+m.length
  ·rw[if_pos h2,List.getElem?_append_left (by simp;omega),List.getElem?_append_right (by simp;omega)]
   congr 1;simp;omega
  ·rw[if_neg h2,List.getElem?_append_right (by simp;omega),List.getElem?_drop]
   congr 1;simp;omega
theorem aD.fa {α β:Type} {R:α→β→Prop} {l m:List α} {fh fq:List β} (h:aD R l fh) (k:aD R m fq) {c:Nat} (hc:c+m.length≤l.length):
  aD R (l.take c++m++l.drop (c+m.length)) (fh.take c++fq++fh.drop (c+fq.length)):=by
 have h1:=h.1
 have ei:=k.1
 refine⟨by simp;omega,fun i a b a3 hb=> ?_⟩
 rw[xk hc] at a3
 rw[xk (by omega)] at hb
 rw[←ei] at hb
 split at a3
 ·rename_i hi;rw[if_pos hi] at hb;exact h.2 i a b a3 hb
 ·rename_i hi;rw[if_neg hi] at hb
  split at a3
  ·rename_i aM;rw[if_pos aM] at hb;exact k.2 _ a b a3 hb
  ·rename_i aM;rw[if_neg aM] at hb;exact h.2 i a b a3 hb
theorem x8 (L:List (Nat×List AV)) (t s:Nat) (d:List AV):eK (k7 L t d) s=if s=t then(eK L t).map (fun _=>d) else eK L s:=by
 induction L with
 | nil=>simp[k7,eK]
 | cons x L bR=>
  obtain⟨k,c⟩:=x
  by_cases h1:t=k
  ·subst h1
   by_cases h2:s=t
   ·simp[k7,eK,h2]
   ·simp[k7,eK,h2]
  ·by_cases h2:s=k
   ·subst h2
    have: ¬s=t:=fun e=>h1 e.symm
    simp[k7,eK,h1,this]
   ·simp only[k7,if_neg h1,eK,if_neg h2,bR]
theorem ad_ {P:Program} {t:TypeId} {x v:AV} {L:List (Nat×List AV)} {H:List Blk} {K:List (Nat×List AV)→List Blk→Prop} {E:Env} {iH mB:Value}
  (aR:SimH E H) (bY:SimL E L) (hx:V3 E x iH) (hv:V2 E v mB) (h:l4 P t x v L H K):
  ∃L' H' E',K L' H'∧(Instr.storeAt t iH mB).run P E.w= .ok () E'.w∧Step E E'∧SimH E' H'∧SimL E' L'∧E'.mL=E.mL:=by
 unfold l4 at h
 split at h
 case isFalse=>exact h.elim
 case isTrue hc=>
 obtain⟨hi,aP,hs⟩:=hc
 have v3:=Dc hv hs
 have aH:aD (cC E.b3) (e8 v) mB.cells.toList:=⟨v3.1,fun i a b a3 hb=>Iy (List.all_eq_true.1 hs a (List.mem_of_getElem? a3)) (v3.2 i a b a3 hb)⟩
 have h1: ∀y∈mB.cells.toList,y.oneCell'=true:=by
  intro y bt
  obtain⟨i,hi⟩:=List.mem_iff_getElem?.1 bt
  have v_:i<(e8 v).length:=by rw[v3.1];exact(List.getElem?_eq_some_iff.1 hi).1
  exact(v3.2 i _ y (List.getElem?_eq_getElem v_) hi).BM (List.all_eq_true.1 hs _ (List.getElem_mem v_))
 have cQ:mB.cells.size=P.cellsOf t:=by rw[←aP,v3.1];simp
 have hlen:mB.cells.toList.length=(e8 v).length:=v3.1.symm
 cases x with
 | fx s c=>
  obtain⟨bl,hm,rfl⟩:=hx.yT
  obtain⟨cells,a7,ty,hg,hw,aI⟩:=bY s bl hm
  have h':cU (eK L s) fun cells=>if c+(e8 v).length≤cells.length then K (k7 L s (fa cells c (e8 v))) H else False:=h
  rw[hg] at h'
  have Ek:if c+(e8 v).length≤cells.length then K (k7 L s (fa cells c (e8 v))) H else False:=h'
  split at Ek
  case isFalse=>exact Ek.elim
  case isTrue hle=>
  have We:cells.length=a7.size:=by rw[aI.1];simp
  have fM:=O6 (P:=P) (t:=t) (o:=c) hi cQ hw (by rw[←We];have:mB.cells.size=(e8 v).length:=by rw[←hlen];simp
                                                omega) h1
  have g1:=Step.setRow aR (.inr ⟨s,hm⟩) (a7.toList.take c++mB.cells.toList++a7.toList.drop (c+mB.cells.toList.length)).toArray
  have ck: ∀b c',E.m b=some (some c')→c'≠bl:=fun b c' hb e=>by subst e;exact aR.gN b s c' hb hm
  refine⟨_,_,_,Ek,fM,g1,?_,?_,rfl⟩
  ·exact{aR with
    heap:=fun b c' hb=>by
     obtain⟨blk,dx,jJ,q1,dL,q2,q3,q4,cH,cV⟩:=aR.heap b c' hb
     refine⟨blk,dx,jJ,q1,dL,?_,q3,q4,cH,fun i j row a aK aM=> ?_⟩
     ·show(E.w.setRow bl _).heap[c']?=_
      rw[setRow_other _ _ _ _ (ck b c' hb)];exact q2
     ·obtain⟨u,hu,eY⟩:=cV i j row a aK aM
      exact⟨u,hu,eY.le g1.le.b3⟩
    e0:=fun c' hc=>by rw[show(E.w.setRow bl _).heap.size=_ from setRow_size _ _ _];exact aR.e0 c' hc
    gn:=fun c' hc=>by rw[show(E.w.setRow bl _).heap.size=_ from setRow_size _ _ _];exact aR.gn c' hc
    g2:=fun c' hc=>by rw[show(E.w.setRow bl _).heap.size=_ from setRow_size _ _ _];exact aR.g2 c' hc}
  ·intro jI c' nj
   by_cases he:jI=s
   ·subst he
    obtain rfl:c'=bl:=by
     have:E.mL jI=some c':=nj
     rw[hm] at this;exact(Option.some.inj this).symm
    refine⟨fa cells c (e8 v),_,ty,?_,setRow_heap _ _ _ _ _ _ hw,?_⟩
    ·rw[x8,if_pos rfl,hg];rfl
    ·have:=aD.fa (aI.mono fun _ _ k=>k.le g1.le.b3) (aH.mono fun _ _ k=>k.le g1.le.b3) hle
     simpa[fa] using this
   ·obtain⟨gV,dx,jJ,q1,q2,q3⟩:=bY jI c' nj
    have EP:c'≠bl:=fun e=>by subst e;exact he (aR.jB jI s c' nj hm)
    refine⟨gV,dx,jJ,by rw[x8,if_neg he];exact q1,?_,q3.mono fun _ _ k=>k.le g1.le.b3⟩
    show(E.w.setRow bl _).heap[c']?=_
    rw[setRow_other _ _ _ _ EP];exact q2
 | ptr b g r c=>
  obtain⟨blk,hb,hg,h2⟩:=fs (show cU H[b]? fun blk=>blk.bF=g∧cU blk.rows[r]? fun row=>c+(e8 v).length≤row.length∧K L (H.set b {blk with rows:=blk.rows.set r (fa row c (e8 v))}) from h)
  obtain⟨row,eL,hle,hK⟩:=fs h2
  have kc:=aR.e4 b blk hb
  obtain⟨bl,hm,rfl⟩:=hx.B0 (kc.trans hg)
  obtain⟨blk',a7,ty,dZ,mM,hw,mc,nY,gl⟩:=aR.heap b bl hm
  obtain rfl:blk=blk':=by rw[hb] at dZ;exact Option.some.inj dZ
  have ll:row.length=E.sz b:=gl.1 r row eL
  have afp:r<blk.rows.length:=(List.getElem?_eq_some_iff.1 eL).1
  have V8:r*E.sz b+E.sz b≤a7.size:=by
   rw[mc];calc r*E.sz b+E.sz b=(r+1)*E.sz b:=by rw[Nat.add_mul,Nat.one_mul]
    _≤E.cp b*E.sz b:=Nat.mul_le_mul_right _ (by omega)
  have pr:mB.cells.size=(e8 v).length:=by rw[←hlen];simp
  have fM:=O6 (P:=P) (t:=t) (o:=r*E.sz b+c) hi cQ hw (by omega) h1
  have g1:=Step.setRow aR (.inl ⟨b,hm⟩) (a7.toList.take (r*E.sz b+c)++mB.cells.toList++a7.toList.drop (r*E.sz b+c+mB.cells.toList.length)).toArray
  have qe:b<H.length:=(List.getElem?_eq_some_iff.1 hb).1
  refine⟨_,_,_,hK,fM,g1,?_,?_,rfl⟩
  ·exact{aR with
    heap:=fun db c' jS=>by
     by_cases he:db=b
     ·subst he
      obtain rfl:c'=bl:=by
       have:E.m db=some (some c'):=jS
       rw[hm] at this;exact(Option.some.inj (Option.some.inj this)).symm
      refine⟨{blk with rows:=blk.rows.set r (fa row c (e8 v))},_,ty,by rw[List.getElem?_set_self qe],mM,setRow_heap _ _ _ _ _ _ hw,?_,by simpa using nY,?_,?_⟩
      ·simp;omega
      ·intro i row' eY
       rw[List.getElem?_set] at eY
       split at eY
       ·rename_i EH
        cases eY
        simp[fa];omega
       ·exact gl.1 i row' eY
      ·intro i j row' a eY a3
       have nh: ∀k,(a7.toList.take (r*E.sz db+c)++mB.cells.toList++a7.toList.drop (r*E.sz db+c+mB.cells.toList.length)).toArray[k]?=if k<r*E.sz db+c then a7.toList[k]? else if k<r*E.sz db+c+mB.cells.toList.length then mB.cells.toList[k - (r*E.sz db+c)]? else a7.toList[k]?:=by
        intro k
        rw[List.getElem?_toArray,xk (by simp;omega)]
       rw[List.getElem?_set] at eY
       split at eY
       ·rename_i EH
        cases eY
        subst EH
        have wm:=xk hle j
        unfold fa at a3
        rw[wm] at a3
        split at a3
        ·rename_i aM
         obtain⟨u,hu,g0⟩:=gl.2 r j row a eL a3
         refine⟨u,?_,g0.le g1.le.b3⟩
         show(List.toArray _)[r*E.sz db+j]?=_
         rw[nh,if_pos (by omega)];simpa using hu
        ·rename_i aM
         split at a3
         ·rename_i yt
          obtain⟨u,hu,g0⟩:=aH.get a3
          refine⟨u,?_,g0.le g1.le.b3⟩
          show(List.toArray _)[r*E.sz db+j]?=_
          rw[nh,if_neg (by omega),if_pos (by omega),show r*E.sz db+j - (r*E.sz db+c)=j - c by omega];exact hu
         ·rename_i yt
          obtain⟨u,hu,g0⟩:=gl.2 r j row a eL a3
          refine⟨u,?_,g0.le g1.le.b3⟩
          show(List.toArray _)[r*E.sz db+j]?=_
          rw[nh,if_neg (by omega),if_neg (by omega)];simpa using hu
       ·rename_i EH
        have oD:j<E.sz db:=by rw[←gl.1 i row' eY];exact(List.getElem?_eq_some_iff.1 a3).1
        obtain⟨u,hu,g0⟩:=gl.2 i j row' a eY a3
        refine⟨u,?_,g0.le g1.le.b3⟩
        show(List.toArray _)[i*E.sz db+j]?=_
        rw[nh]
        rcases Nat.lt_or_ge i r with bf | fK
        ·have:i*E.sz db+E.sz db≤r*E.sz db:=by
          calc i*E.sz db+E.sz db=(i+1)*E.sz db:=by rw[Nat.add_mul,Nat.one_mul]
           _≤r*E.sz db:=Nat.mul_le_mul_right _ (by omega)
         rw[if_pos (by omega)];simpa using hu
        ·have:r*E.sz db+E.sz db≤i*E.sz db:=by
          calc r*E.sz db+E.sz db=(r+1)*E.sz db:=by rw[Nat.add_mul,Nat.one_mul]
           _≤i*E.sz db:=Nat.mul_le_mul_right _ (by omega)
         rw[if_neg (by omega),if_neg (by omega)];simpa using hu
     ·obtain⟨xS,Dm,ty2,q1,dL,q2,q3,q4,cH,cV⟩:=aR.heap db c' jS
      have ck:c'≠bl:=fun e=>by subst e;exact he (aR.hR db b c' jS hm)
      refine⟨xS,Dm,ty2,by rw[List.getElem?_set_ne (fun e=>he e.symm)];exact q1,dL,?_,q3,q4,cH,fun i j row a aK aM=> ?_⟩
      ·show(E.w.setRow bl _).heap[c']?=_
       rw[setRow_other _ _ _ _ ck];exact q2
      ·obtain⟨u,hu,eY⟩:=cV i j row a aK aM
       exact⟨u,hu,eY.le g1.le.b3⟩
    e4:=fun db xS jS=>by
     by_cases he:b=db
     ·subst he
      rw[List.getElem?_set_self qe] at jS
      cases jS
      exact aR.e4 b blk hb
     ·rw[List.getElem?_set_ne he] at jS
      exact aR.e4 db xS jS
    ho:=fun db jS=>by
     obtain⟨xS,q,jF⟩:=aR.ho db jS
     by_cases he:b=db
     ·subst he
      rw[hm] at jS;cases jS
     ·exact⟨xS,by rw[List.getElem?_set_ne he];exact q,jF⟩
    fresh:=fun db jS=>aR.fresh db (by simpa using jS)
    e0:=fun c' hc=>by rw[show(E.w.setRow bl _).heap.size=_ from setRow_size _ _ _];exact aR.e0 c' hc
    gn:=fun c' hc=>by rw[show(E.w.setRow bl _).heap.size=_ from setRow_size _ _ _];exact aR.gn c' hc
    g2:=fun c' hc=>by rw[show(E.w.setRow bl _).heap.size=_ from setRow_size _ _ _];exact aR.g2 c' hc}
  ·intro jI c' nj
   obtain⟨gV,dx,jJ,q1,q2,q3⟩:=bY jI c' nj
   have EP:c'≠bl:=fun e=>by subst e;exact aR.gN b jI c' hm nj
   refine⟨gV,dx,jJ,q1,?_,q3.mono fun _ _ k=>k.le g1.le.b3⟩
   show(E.w.setRow bl _).heap[c']?=_
   rw[setRow_other _ _ _ _ EP];exact q2
 | _=>exact h.elim
structure lI (E E':Env):Prop where
 step:Step E E'
 m:E'.m=E.m
 mL:E'.mL=E.mL
 bF:E'.bF=E.bF
 sz:E'.sz=E.sz
 cp:E'.cp=E.cp
 e7: ∀c,c<E.w.heap.size→E'.w.heap[c]?=E.w.heap[c]?
 fC: ∀c,E'.PA c→E.PA c∨(E.w.heap.size≤c∧c<E'.w.heap.size)
 eS: ∀c,E'.PF c→E'.PA c
theorem lI.refl {E:Env} {H:List Blk} (h:SimH E H):lI E E:=⟨.refl E,rfl,rfl,rfl,rfl,rfl,fun _ _=>rfl,fun _ h=> .inl h,h.eS⟩
theorem lI.simH {E E':Env} {H:List Blk} (q:lI E E') (h:SimH E H):SimH E' H where
 heap:=fun b c hb=>by
  rw[q.m] at hb
  obtain⟨blk,a7,ty,q1,dL,q2,q3,q4,cH,cV⟩:=h.heap b c hb
  refine⟨blk,a7,ty,q1,by rw[q.sz];exact dL,?_,by rw[q.cp,q.sz];exact q3,by rw[q.cp];exact q4,by rw[q.sz];exact cH,fun i j row a aK aM=> ?_⟩
  ·rw[q.e7 c (h.gn c ⟨b,hb⟩)];exact q2
  ·obtain⟨u,hu,eY⟩:=cV i j row a aK aM
   exact⟨u,by rw[q.sz];exact hu,eY.le q.step.le.b3⟩
 e4:=by rw[q.bF];exact h.e4
 ho:=by rw[q.m,q.sz];exact h.ho
 fresh:=by rw[q.m,q.bF];exact h.fresh
 hR:=by rw[q.m];exact h.hR
 jB:=by rw[q.mL];exact h.jB
 gN:=by rw[q.m,q.mL];exact h.gN
 hS:=fun c hc ⟨b,hb⟩=>by
  rw[q.m] at hb
  rcases q.fC c hc with hc | ⟨hc,_⟩
  ·exact h.hS c hc ⟨b,hb⟩
  ·have:=h.gn c ⟨b,hb⟩;omega
 ij:=fun c hc ⟨b,hb⟩=>by
  rw[q.mL] at hb
  rcases q.fC c hc with hc | ⟨hc,_⟩
  ·exact h.ij c hc ⟨b,hb⟩
  ·have:=h.g2 c ⟨b,hb⟩;omega
 eS:=q.eS
 e0:=fun c hc=>by
  rcases q.fC c hc with hc | ⟨_,hc⟩
  ·exact Nat.lt_of_lt_of_le (h.e0 c hc) q.step.size
  ·exact hc
 gn:=fun c ⟨b,hb⟩=>by rw[q.m] at hb;exact Nat.lt_of_lt_of_le (h.gn c ⟨b,hb⟩) q.step.size
 g2:=fun c ⟨b,hb⟩=>by rw[q.mL] at hb;exact Nat.lt_of_lt_of_le (h.g2 c ⟨b,hb⟩) q.step.size
theorem lI.simL {E E':Env} {H:List Blk} {L:List (Nat×List AV)} (q:lI E E') (h:SimH E H) (l:SimL E L):SimL E' L:=fun t c hm=>by
 rw[q.mL] at hm
 obtain⟨cells,a7,ty,q1,q2,q3⟩:=l t c hm
 exact⟨cells,a7,ty,q1,by rw[q.e7 c (h.g2 c ⟨t,hm⟩)];exact q2,q3.mono fun _ _ k=>k.le q.step.le.b3⟩
def z9 (op:BinOp) (k:IntKind) (a b:Int) (K:AV→Prop):Prop:=match op with
 | .add=>K (.int k (k.wrap (a+b)))
 | .sub=>K (.int k (k.wrap (a - b)))
 | .mul=>K (.int k (k.wrap (a*b)))
 | .quo=>b≠0∧K (.int k (k.wrap (a.tdiv b)))
 | .rem=>b≠0∧K (.int k (a.tmod b))
 | .and=>K (.int k (k.wrap (BitVec.ofInt k.bits a&&&BitVec.ofInt k.bits b).toNat))
 | .eql=>K (.bool (a==b))
 | .neq=>K (.bool (a !=b))
 | .lss=>K (.bool (decide (a<b)))
 | .leq=>K (.bool (decide (a≤b)))
 | .gtr=>K (.bool (decide (a>b)))
 | .geq=>K (.bool (decide (a ≥ b)))
 | _=>False
def two (P:Program) (t:TypeId):Bool:=
 match P.underlying t with
 | some (.struct fo)=> !P.stoodInHeld t&& !P.eqGuardType P.depth t&&(match fo.toList with
  | [f,g]=>f.name != "_" &&g.name != "_" &&f.offset==0&&g.offset==1&&(P.underlying f.type matches some (.int .i64))&&(P.underlying g.type matches some (.int .i64))
  | _=>false)
 | _=>false
def z_ (op:BinOp) (k:IntKind) (a:Int) (kC:IntKind) (b:Int) (K:AV→Prop):Prop:=match op with
 | .shl=>0≤b∧K (.int k (k.wrap (a*2 ^ (min b.toNat k.bits))))
 | .shr=>0≤b∧K (.int k (a.fdiv (2 ^ (min b.toNat k.bits))))
 | op=>if k=kC then z9 op k a b K else False
def Nb (P:Program) (t:TypeId):Bool:=match P.underlying t with
 | some .bool=>true
 | _=>false
def C0 (P:Program) (op:BinOp) (t:TypeId) (a b:Bool) (K:AV→Prop):Prop:=if Nb P t=true then(match op with
  | .eql=>K (.bool (a==b))
  | .neq=>K (.bool (a !=b))
  | _=>False) else False
def C2 (op:BinOp) (a b:ByteArray) (K:AV→Prop):Prop:=match op with
  | .add=>a.size+b.size≤9223372036854775807∧K (.str (a++b))
  | .eql=>K (.bool (a.toList==b.toList))
  | .neq=>K (.bool (!(a.toList==b.toList)))
  | _=>False
def C3 (op:BinOp) (a b c d:Int) (K:AV→Prop):Prop:=match op with
  | .eql=>K (.bool (a==c&&b==d))
  | .neq=>K (.bool (!(a==c&&b==d)))
  | _=>False
def xt:List AV→Option (Int×Int)
 | [.int .i64 a,.int .i64 b]=>some (a,b)
 | _=>none
def jf (P:Program) (t:TypeId):Option TypeId:=match P.underlying t with
 | some (.slice e)=>some e
 | _=>none
def qw:Operand→Bool
 | .const (.slice none 0 0)=>true
 | _=>false
def C1 (P:Program) (op:BinOp) (t:TypeId) (rows:List (List AV)) (r8:Bool) (K:AV→Prop):Prop:=
 if r8=true∧(jf P t).isSome=true then(match op with
  | .eql=>(rows≠[]→K (.bool false))∧(rows=[]→ ∀b,K (.bool b))
  | _=>False) else False
def sf (P:Program) (op:BinOp) (t:TypeId) (x y:AV) (r8:Bool) (K:AV→Prop):Prop:=match x with
 | .int k a=>(match y with
  | .int kC b=>z_ op k a kC b K
  | _=>False)
 | .bool a=>(match y with
  | .bool b=>C0 P op t a b K
  | _=>False)
 | .str a=>(match y with
  | .str b=>C2 op a b K
  | _=>False)
 | .agg l=>(match y with
  | .agg m=>if two P t=true then cU (xt l) fun p=>cU (xt m) fun q=>C3 op p.1 p.2 q.1 q.2 K else False
  | _=>False)
 | .bC rows _ _=>C1 P op t rows r8 K
 | _=>False
theorem DN {op:BinOp} {t:TypeId} {x y:Operand} {k kC:IntKind} {a b:Int} {P:Program} {w:World}:(eqGuard op t x y (.int k a) (.int kC b)).run P w= .ok () w:=by
 unfold eqGuard;cases op<;>rfl
theorem J7 {op:BinOp} {t:TypeId} {x y:Operand} {a b:Bool} {P:Program} {w:World}:(eqGuard op t x y (.bool a) (.bool b)).run P w= .ok () w:=by
 unfold eqGuard;cases op<;>rfl
theorem DO {op:BinOp} {t:TypeId} {x y:Operand} {a b:ByteArray} {P:Program} {w:World}:(eqGuard op t x y (.string a) (.string b)).run P w= .ok () w:=by
 unfold eqGuard;cases op<;>rfl
theorem Ug {op:BinOp} {t:TypeId} {x y:Operand} {A B:Option Addr} {n m c d:Nat} {P:Program} {w:World}:(eqGuard op t x y (.slice A n c) (.slice B m d)).run P w= .ok () w:=by
 unfold eqGuard;cases op<;>rfl
theorem J6 {op:BinOp} {t:TypeId} {x y:Operand} {A B:Array Value} {P:Program} {w:World} (h:P.eqGuardType P.depth t=false):(eqGuard op t x y (.agg A) (.agg B)).run P w= .ok () w:=by
 unfold eqGuard;cases op<;>first | rfl | simp[h]
theorem aa4 {P:Program} {w:World} {op:BinOp} {t:TypeId} {k:IntKind} {a b:Int} {K:AV→Prop} (h:z9 op k a b K):
  ∃r u,K r∧(binOp op t (.int k a) (.int k b)).run P w= .ok u w∧ ∀E:Env,V3 E r u:=by
 cases op<;>simp only[z9] at h
 case add=>exact⟨_,_,h,by simp[binOp,Op.intArith],fun E=>bH.int _ _⟩
 case sub=>exact⟨_,_,h,by simp[binOp,Op.intArith],fun E=>bH.int _ _⟩
 case mul=>exact⟨_,_,h,by simp[binOp,Op.intArith],fun E=>bH.int _ _⟩
 case quo=>exact⟨_,_,h.2,by simp[binOp,Op.intDiv,h.1],fun E=>bH.int _ _⟩
 case rem=>exact⟨_,_,h.2,by simp[binOp,Op.intDiv,h.1],fun E=>bH.int _ _⟩
 case and=>exact⟨_,_,h,by simp[binOp,Op.intBits],fun E=>bH.int _ _⟩
 case eql=>exact⟨_,_,h,by simp[binOp,Op.intCmp],fun E=>bH.bool _⟩
 case neq=>exact⟨_,_,h,by simp[binOp,Op.intCmp],fun E=>bH.bool _⟩
 case lss=>exact⟨_,_,h,by simp[binOp,Op.intCmp],fun E=>bH.bool _⟩
 case leq=>exact⟨_,_,h,by simp[binOp,Op.intCmp],fun E=>bH.bool _⟩
 case gtr=>exact⟨_,_,h,by simp[binOp,Op.intCmp],fun E=>bH.bool _⟩
 case geq=>exact⟨_,_,h,by simp[binOp,Op.intCmp],fun E=>bH.bool _⟩
theorem RW {P:Program} {t:TypeId} (h:two P t=true): ∃f g:Field,P.underlying t=some (.struct (P.fieldsOf t))∧(P.fieldsOf t).toList=[f,g]∧P.stoodInHeld t=false∧P.eqGuardType P.depth t=false∧
  f.name≠ "_" ∧g.name≠ "_" ∧f.offset=0∧g.offset=1∧P.underlying f.type=some (.int .i64)∧P.underlying g.type=some (.int .i64):=by
 unfold two at h
 split at h
 ·rename_i fo n1
  have hf:P.fieldsOf t=fo:=by simp[Program.fieldsOf,n1]
  simp only[Bool.and_eq_true,Bool.not_eq_true'] at h
  obtain⟨⟨h1,h2⟩,aN⟩:=h
  split at aN
  ·rename_i f g aL
   simp only[Bool.and_eq_true,bne_iff_ne,ne_eq,beq_iff_eq] at aN
   obtain⟨⟨⟨⟨⟨q1,q2⟩,q3⟩,q4⟩,cH⟩,cV⟩:=aN
   refine⟨f,g,by rw[hf];exact n1,by rw[hf];exact aL,h1,h2,q1,q2,q3,q4,?_,?_⟩
   ·split at cH
    ·assumption
    ·cases cH
   ·split at cV
    ·assumption
    ·cases cV
  ·cases aN
 ·cases h
theorem O7 {P:Program} {t:TypeId} (h:two P t=true) (a b c d:Int) (w:World):
  (Op.equal t (.agg #[.int .i64 a,.int .i64 b]) (.agg #[.int .i64 c,.int .i64 d])).run P w= .ok (a==c&&b==d) w:=by
 obtain⟨f,g,h1,h2,aN,be,ci,cK,gC,nV,tJ,x_⟩:=RW h
 show(Op.equalIn (9999+1) t _ _).run P w=_
 rw[run_equalIn_struct w 9999 t _ _ h1 aN,h2]
 have fD: ∀(ht:TypeId) (a7:Array Value) (o:Nat) (u:Value),P.underlying ht=some (.int .i64)→a7[o]?=some u→(part ht a7 o).run P w= .ok u w:=by
  intro ht a7 o u hu hc
  simp[part,Go.isAgg,run_underlying hu,hc]
 simp only[Op.eqFields,if_pos ci,if_pos cK,gC,nV,Sem.run_bind]
 rw[fD f.type #[.int .i64 a,.int .i64 b] 0 (.int .i64 a) tJ rfl]
 simp only[Result.andThen_ok]
 rw[fD f.type #[.int .i64 c,.int .i64 d] 0 (.int .i64 c) tJ rfl]
 simp only[Result.andThen_ok]
 rw[show(9999:Nat)=9998+1 from rfl,run_equalIn_int w 9998 f.type .i64 .i64 a c tJ]
 simp only[Result.andThen_ok]
 cases afd:(a==c)
 ·simp
 ·simp only[Bool.not_true,Bool.false_eq_true,if_false,Sem.run_bind]
  rw[fD g.type #[.int .i64 a,.int .i64 b] 1 (.int .i64 b) x_ rfl]
  simp only[Result.andThen_ok]
  rw[fD g.type #[.int .i64 c,.int .i64 d] 1 (.int .i64 d) x_ rfl]
  simp only[Result.andThen_ok]
  rw[run_equalIn_int w 9998 g.type .i64 .i64 b d x_]
  cases aff:(b==d)<;>simp
theorem V3.RV {E:Env} {a b:Int} {v:Value} (h:V3 E (.agg [.int .i64 a,.int .i64 b]) v):v= .agg #[.int .i64 a,.int .i64 b]:=by
 obtain⟨vs,rfl,aI⟩:=(h:V2 E (.agg [.int .i64 a,.int .i64 b]) v)
 obtain⟨x,vs,rfl,hx,aI⟩:=aI.cons_inv
 obtain⟨y,vs,rfl,bt,aI⟩:=aI.cons_inv
 obtain rfl:=aI.wK
 have jz:bH E.w E.PA E.PF (.int .i64 a) x:=hx
 have Xj:bH E.w E.PA E.PF (.int .i64 b) y:=bt
 cases jz;cases Xj;rfl
theorem RU {l:List AV} {p:Int×Int} (h:xt l=some p):l=[.int .i64 p.1,.int .i64 p.2]:=by
 unfold xt at h
 split at h
 ·cases h;rfl
 ·cases h
theorem sl {P:Program} {t e:TypeId} (h:jf P t=some e):P.underlying t=some (.slice e):=by
 unfold jf at h
 split at h
 ·cases h;assumption
 ·cases h
theorem SY {P:Program} {op:BinOp} {t:TypeId} {X Y:Operand} {IY xB:AV} {iH CJ:Value} {E:Env} {K:AV→Prop}
  {r8:Bool} (hx:V3 E IY iH) (bt:V3 E xB CJ) (E4:r8=true→CJ= .slice none 0 0) (h:sf P op t IY xB r8 K):
  ∃r u,K r∧(do eqGuard op t X Y iH CJ;binOp op t iH CJ:Sem Value).run P E.w= .ok u E.w∧V3 E r u:=by
 cases IY with
 | int k a=>
  cases xB with
  | int kC b=>
   replace h:z_ op k a kC b K:=h
   obtain rfl:=hx.rM
   obtain rfl:=bt.rM
   cases op
   case shl=>
    obtain⟨hb,h⟩:=h
    have dZ: ¬b<0:=by omega
    exact⟨_,_,h,by simp[DN,binOp,Op.shift,dZ],bH.int _ _⟩
   case shr=>
    obtain⟨hb,h⟩:=h
    have dZ: ¬b<0:=by omega
    exact⟨_,_,h,by simp[DN,binOp,Op.shift,dZ],bH.int _ _⟩
   all_goals
    simp only[z_] at h
    split at h
    ·rename_i hk
     subst hk
     obtain⟨r,u,hK,aK,hv⟩:=aa4 (P:=P) (w:=E.w) (t:=t) h
     exact⟨r,u,hK,by simp only[Sem.run_bind,DN,Result.andThen_ok,aK],hv E⟩
    ·exact h.elim
  | _=>exact h.elim
 | bool a=>
  cases xB with
  | bool b=>
   replace h:C0 P op t a b K:=h
   obtain rfl:=hx.re
   obtain rfl:=bt.re
   unfold C0 at h
   split at h
   ·rename_i hu
    have nl:P.underlying t=some .bool:=by
     unfold Nb at hu
     split at hu
     ·assumption
     ·cases hu
    cases op<;>first | exact h.elim | skip
    case eql=>exact⟨_,_,h,by simp only[Sem.run_bind,J7,Result.andThen_ok,binOp,Op.equal];rw[show Op.maxDepth=9999+1 from rfl,run_equalIn_bool' E.w 9999 t a b nl];rfl,bH.bool _⟩
    case neq=>exact⟨_,_,h,by simp only[Sem.run_bind,J7,Result.andThen_ok,binOp,Op.equal];rw[show Op.maxDepth=9999+1 from rfl,run_equalIn_bool' E.w 9999 t a b nl];rfl,bH.bool _⟩
   ·exact h.elim
  | _=>exact h.elim
 | str a=>
  cases xB with
  | str b=>
   replace h:C2 op a b K:=h
   obtain rfl:=hx.xm
   obtain rfl:=bt.xm
   cases op<;>first | exact h.elim | skip
   case add=>
    obtain⟨aL,h⟩:=h
    have: ¬((a.size+b.size:Nat):Int)>IntKind.i64.max:=by
     have:IntKind.i64.max=9223372036854775807:=by decide
     rw[this];omega
    exact⟨_,_,h,by simp only[Sem.run_bind,DO,Result.andThen_ok,binOp,Op.stringOp];rw[if_neg this];rfl,bH.str _⟩
   case eql=>exact⟨_,_,h,by simp only[Sem.run_bind,DO,Result.andThen_ok,binOp,Op.stringOp];rfl,bH.bool _⟩
   case neq=>exact⟨_,_,h,by simp only[Sem.run_bind,DO,Result.andThen_ok,binOp,Op.stringOp];rfl,bH.bool _⟩
  | _=>exact h.elim
 | agg l=>
  cases xB with
  | agg m=>
   replace h:if two P t=true then cU (xt l) fun p=>cU (xt m) fun q=>C3 op p.1 p.2 q.1 q.2 K else False:=h
   split at h
   ·rename_i br
    obtain⟨⟨a,b⟩,aI,h⟩:=fs h
    obtain⟨⟨c,d⟩,ak,h⟩:=fs h
    obtain rfl:=RU aI
    obtain rfl:=RU ak
    obtain rfl:=hx.RV
    obtain rfl:=bt.RV
    obtain⟨f,g,h1,h2,aN,be,_⟩:=RW br
    cases op<;>first | exact h.elim | skip
    case eql=>exact⟨_,_,h,by simp only[Sem.run_bind,J6 be,Result.andThen_ok,binOp,O7 br];rfl,bH.bool _⟩
    case neq=>exact⟨_,_,h,by simp only[Sem.run_bind,J6 be,Result.andThen_ok,binOp,O7 br];rfl,bH.bool _⟩
   ·exact h.elim
  | _=>exact h.elim
 | bC rows en fr=>
  replace h:C1 P op t rows r8 K:=h
  unfold C1 at h
  split at h
  ·rename_i hc
   obtain⟨aH,he⟩:=hc
   obtain⟨e,he⟩:=Option.isSome_iff_exists.1 he
   have hu:=sl he
   obtain rfl:=E4 aH
   have jz:bH E.w E.PA E.PF (.bC rows en fr) iH:=hx
   cases jz with
   | @bC _ _ _ _ _ _ A cap sz vs f_ gK hl cQ e9 dS=>
   have fM:(do eqGuard op t X Y (.slice A rows.length cap) (.slice none 0 0);binOp .eql t (.slice A rows.length cap) (.slice none 0 0):Sem Value).run P E.w= .ok (.bool A.isNone) E.w:=by
    simp only[Sem.run_bind,Ug,Result.andThen_ok,binOp,Op.equal]
    rw[show Op.maxDepth=9999+1 from rfl]
    generalize 9999=d
    simp only[Op.equalIn,Sem.run_bind,run_underlying hu,Result.andThen_ok]
    cases A<;>rfl
   cases op<;>first | exact h.elim | skip
   case eql=>
    obtain⟨h1,h2⟩:=h
    by_cases aK:rows=[]
    ·exact⟨_,_,h2 aK A.isNone,fM,bH.bool _⟩
    ·have:0<rows.length:=by cases rows<;>simp_all
     obtain⟨c,o,rfl,_⟩:=e9 this
     exact⟨_,_,h1 aK,fM,bH.bool _⟩
  ·exact h.elim
 | _=>exact h.elim
theorem KF (off:Nat): ∀(l:List Value) (k:Nat) (cells:Array Value),off+k+l.length≤cells.size→
  (((l.zipIdx k).foldl (fun a7 (x:Value×Nat)=>a7.setIfInBounds (off+x.2) x.1) cells).size=cells.size∧
  ∀i,((l.zipIdx k).foldl (fun a7 (x:Value×Nat)=>a7.setIfInBounds (off+x.2) x.1) cells)[i]?=if i<off+k then cells[i]? else if i<off+k+l.length then l[i - (off+k)]? else cells[i]?)
 | [],k,cells,_=>⟨rfl,fun i=>by simp;omega⟩
 | v::l,k,cells,h=>by
  have h':off+(k+1)+l.length≤(cells.setIfInBounds (off+k) v).size:=by simp at h ⊢;omega
  obtain⟨h1,h2⟩:=KF off l (k+1) (cells.setIfInBounds (off+k) v) h'
  refine⟨by simp only[List.zipIdx_cons,List.foldl_cons];rw[h1];simp,fun i=> ?_⟩
  simp only[List.zipIdx_cons,List.foldl_cons]
  rw[h2 i]
  simp only[Array.getElem?_setIfInBounds,List.length_cons] at*
  by_cases M:i<off+k
  ·rw[if_pos (by omega),if_neg (by omega),if_pos M]
  ·by_cases U:i=off+k
   ·subst U
    rw[if_pos (by omega),if_pos rfl,if_pos (by omega),if_neg (by omega),if_pos (by omega)]
    simp
   ·by_cases cZ:i<off+(k+1)+l.length
    ·rw[if_neg (by omega),if_pos cZ,if_neg M,if_pos (by omega),show i - (off+k)=(i - (off+(k+1)))+1 by omega]
     simp
    ·rw[if_neg (by omega),if_neg cZ,if_neg (by omega),if_neg M,if_neg (by omega)]
def o9 (pl:Nat→Option (Nat×Nat)) (cells:List AV):List (Nat×AV)→Option (List AV)
 | []=>some cells
 | (i,v)::rest=>match pl i with
  | none=>none
  | some (off,size)=>if(e8 v).length=size∧off+(e8 v).length≤cells.length∧(e8 v).all iX=true then o9 pl (fa cells off (e8 v)) rest else none
theorem AE {E:Env} {pl:Nat→Option (Nat×Nat)}: ∀{parts:List (Nat×AV)} {kq:List (Nat×Value)} {cells:List AV} {th:Array Value} {r:List AV},
  aD (fun a b=>a.1=b.1∧V2 E a.2 b.2) parts kq→aD (cC E.b3) cells th.toList→o9 pl cells parts=some r→ ∃hI,Instr.fill pl th kq=some hI∧aD (cC E.b3) r hI.toList
 | [],kq,cells,th,r,aI,hc,h=>by
  obtain rfl:=aI.wK
  cases h
  exact⟨th,rfl,hc⟩
 | (i,v)::rest,kq,cells,th,r,aI,hc,h=>by
  obtain⟨⟨iO,u⟩,afz,rfl,⟨hi,hv⟩,sD⟩:=aI.cons_inv
  simp only at hi hv
  subst hi
  unfold o9 at h
  split at h
  ·cases h
  ·rename_i off size jh
   split at h
   ·rename_i oC
    obtain⟨h1,h2,aN⟩:=oC
    have tQ:=Dc hv aN
    have Wd:aD (cC E.b3) (e8 v) u.cells.toList:=⟨tQ.1,fun i a b a3 hb=>Iy (List.all_eq_true.1 aN a (List.mem_of_getElem? a3)) (tQ.2 i a b a3 hb)⟩
    have cQ:u.cells.size=(e8 v).length:=by rw[tQ.1];simp
    have nY:cells.length=th.size:=by rw[hc.1];simp
    obtain⟨f1,f2⟩:=KF off u.cells.toList 0 th (by simp;omega)
    simp only[Nat.add_zero] at f1 f2
    have wh:aD (cC E.b3) (fa cells off (e8 v)) ((u.cells.toList.zipIdx).foldl (fun a7 (x:Value×Nat)=>a7.setIfInBounds (off+x.2) x.1) th).toList:=by
     have hs:=aD.fa hc Wd h2
     refine⟨?_,fun k a b a3 hb=> ?_⟩
     ·simp only[Array.length_toList];rw[f1];simp[fa];omega
     ·refine hs.2 k a b a3 ?_
      rw[xk (by simp;omega)]
      rw[Array.getElem?_toList,f2 k] at hb
      simpa using hb
    obtain⟨hI,aK,dS⟩:=AE sD wh h
    refine⟨hI,?_,dS⟩
    unfold Instr.fill
    rw[jh]
    simp only
    rw[if_neg (by simp;omega)]
    rw[←Array.foldl_toList,Array.toList_zipIdx]
    exact aK
   ·cases h
def m6 (P:Program) (t:TypeId):Option (List AV):=((P.info? t).bind (·.zero)).map fun z=>z.cells.toList.map oy
theorem TO (E:Env) (v:Value):cC E (oy v) v:=by
 unfold oy
 split
 ·exact bH.int _ _
 ·exact bH.bool _
 ·exact bH.str _
 ·exact bH.bC (PB:=fun _=>False) (sz:=0) (vs:=fun _ _=>undef) (fun _ h=>h.elim) ⟨Nat.le_refl _,Nat.zero_le _⟩ (fun _=>rfl) (fun i row h=>by simp at h) (fun h=>by simp at h) (fun i j row a h=>by simp at h)
 ·exact bH.fW
 ·exact bH.gp
 ·exact bH.undef _
theorem vg {E:Env} {P:Program} {t:TypeId} {z:List AV} (h:m6 P t=some z): ∃i v,P.info? t=some i∧i.zero=some v∧z=v.cells.toList.map oy∧aD (cC E) z v.cells.toList:=by
 unfold m6 at h
 cases hi:P.info? t with
 | none=>simp[hi] at h
 | some i=>
  cases aP:i.zero with
  | none=>simp[hi,aP] at h
  | some v=>
   simp[hi,aP] at h
   subst h
   refine⟨i,v,rfl,aP,rfl,by simp,fun k a b a3 hb=> ?_⟩
   rw[List.getElem?_map,hb] at a3
   simp at a3;subst a3;exact TO E b
def GH (P:Program) (t:TypeId):Option (List (Nat×Nat)):=match P.underlying t with
 | some (.struct fo)=>fo.toList.mapM (fun f=>(P.info? f.type).map fun i=>(f.offset,i.size))
 | _=>none
def C6 (P:Program) (t:TypeId) (parts:List (Nat×AV)) (K:AV→Prop):Prop:=
 cU (m6 P t) fun z=>cU (GH P t) fun pl=>cU (o9 (fun i=>pl[i]?) z parts) fun cells=>K (.agg cells)
theorem S8 {P:Program} {E:Env} {t:TypeId} {parts:List (Nat×AV)} {kq:List (Nat×Value)} {K:AV→Prop} (aI:aD (fun a b=>a.1=b.1∧V2 E a.2 b.2) parts kq) (h:C6 P t parts K):
  ∃r u,K r∧(Instr.build t kq.toArray).run P E.w= .ok u E.w∧V3 E r u:=by
 obtain⟨z,aP,h⟩:=fs h
 obtain⟨pl,jh,h⟩:=fs h
 obtain⟨cells,hf,h⟩:=fs h
 obtain⟨i,v,h1,h2,aN,be⟩:=vg (E:=E.b3) aP
 obtain⟨hI,aK,dS⟩:=AE aI be hf
 refine⟨_,.agg hI,h,run_build E.w t kq.toArray hI ?_,hI.toList,by simp,dS.mono fun _ _ k=>k.up⟩
 unfold GH at jh
 split at jh
 ·rename_i fo n1
  unfold Program.built
  rw[h1,n1]
  simp only[h2,jh]
  simpa using aK
 ·cases jh
def jv:AV→Bool
 | .int _ _ | .bool _ | .str _ | .bC _ _ _ | .fW | .gp=>true
 | _=>false
def nR:AV→Bool
 | .bC _ _ fr=>fr
 | _=>true
def ko:AV→AV
 | .bC rows _ _=> .bC rows false false
 | a=>a
def oS:AV→AV
 | .bC rows full _=> .bC rows full true
 | a=>a
theorem aaR {w:World} {PB PA PF:Nat→Prop} {a:AV} {v:Value} (h:bH w PB (fun _=>False) a v) (hb: ∀c,PB c→PF c) (EQ: ∀c,PF c→PA c):bH w PA PF (oS a) v:=by
 have key:(∀rows full fr,a≠ .bC rows full fr)→bH w PA PF (oS a) v:=fun ck=>by
  have e:oS a=a:=by cases a<;>first | rfl | exact absurd rfl (ck _ _ _)
  rw[e]
  exact h.mono (fun _ _=>rfl) (fun _ h=>h.elim) (fun c hc=>EQ c (hb c hc)) (fun _ h=>h.elim)
 cases a with
 | bC rows full fr=>
  cases h with
  | bC f_ gK hl cQ e9 dS=>
   exact .bC (fun c hc=>by
    have:=f_ c hc
    rw[if_pos rfl]
    split at this
    ·exact this.elim
    ·exact hb c this) gK hl cQ e9 dS
 | _=>exact key (fun _ _ _ e=>by cases e)
theorem IS {w:World} {PA PF PB:Nat→Prop} {a:AV} {v:Value} (a3:jv a=true) (h:bH w PA PF a v) (hb: ∀c,PA c→PB c) (EQ: ∀c,PF c→PA c):bH w PB (fun _=>False) (ko a) v:=by
 cases h with
 | undef=>cases a3
 | int=>exact .int _ _
 | bool=>exact .bool _
 | str=>exact .str _
 | bC f_ gK hl cQ e9 dS=>
  exact .bC (fun c hc=>by
   have:=f_ c hc
   simp only[Bool.false_eq_true,if_false]
   split at this
   ·exact hb c (EQ c this)
   ·exact hb c this) gK (fun h=>by cases h) cQ e9 dS
 | dr=>cases a3
 | fW=>exact .fW
 | gp=>exact .gp
 | fn=>cases a3
theorem RY {w:World} {PA PF:Nat→Prop} {a:AV} {v:Value} (a3:jv a=true) (hf:nR a=true) (h:bH w PA PF a v):bH w PF (fun _=>False) (ko a) v:=by
 cases h with
 | undef=>cases a3
 | int=>exact .int _ _
 | bool=>exact .bool _
 | str=>exact .str _
 | @bC _ _ PB rows full fresh A cap sz vs f_ gK hl cQ e9 dS=>
  have sv:fresh=true:=hf
  subst sv
  exact .bC (fun c hc=>by simpa using f_ c hc) gK (fun h=>by cases h) cQ e9 dS
 | dr=>cases a3
 | fW=>exact .fW
 | gp=>exact .gp
 | fn=>cases a3
def chunk (size n:Nat) (cells:List AV):List (List AV):=(List.range n).map fun i=>(cells.drop (i*size)).take size
def vy (P:Program) (t:TypeId) (n:Nat) (parts:List (Nat×AV)) (K:AV→Prop):Prop:=
 cU (jf P t) fun e=>cU (m6 P e) fun z=>if z.length=P.cellsOf e∧n*z.length≤1000000∧n≤1000000 then
  cU (o9 (fun i=>some (i*z.length,z.length)) ((List.range (n*z.length)).map fun i=>z.getD (i%z.length) .undef) parts) fun cells=>
   if cells.all jv=true then K (.bC (chunk z.length n (cells.map ko)) true (cells.all nR)) else False
 else False
theorem Ad {E:Env} {a:AV} {v:Value} (a3:jv a=true) (h:cC E a v):bH E.w E.PA E.PF a v:=by
 cases a<;>first | exact h | cases a3
theorem JM {size n i j:Nat} {cells row:List AV} {a:AV} (aK:(chunk size n cells)[i]?=some row) (aM:row[j]?=some a):i<n∧j<size∧cells[i*size+j]?=some a:=by
 unfold chunk at aK
 rw[List.getElem?_map] at aK
 cases ud:(List.range n)[i]? with
 | none=>simp[ud] at aK
 | some k=>
  have hi:i<n:=by have:=(List.getElem?_eq_some_iff.1 ud).1;simpa using this
  rw[List.getElem?_range hi] at ud
  cases ud
  rw[List.getElem?_range hi] at aK
  simp at aK
  subst aK
  rw[List.getElem?_take] at aM
  split at aM
  ·rw[List.getElem?_drop] at aM
   exact⟨hi,by assumption,aM⟩
  ·cases aM
theorem sb (w:World) (o:Obj) (c:Nat) (h:c<w.heap.size):(w.alloc o).heap[c]?=w.heap[c]?:=Go.RowKit.Below.heap_alloc w o c h
theorem Jg (w:World) (o:Obj):(w.alloc o).heap[w.heap.size]?=some o:=by
 show(w.heap.push o)[w.heap.size]?=_
 simp
theorem lI.alloc {E:Env} {H:List Blk} (aR:SimH E H) (o:Obj):
  lI E {E with w:=E.w.alloc o,PA:=fun c=>E.PA c∨c=E.w.heap.size,PF:=fun c=>E.PF c∨c=E.w.heap.size} where
 step:=⟨⟨fun _ h=> .inl h,fun _ h=> .inl h,fun c hc=>sb _ _ _ (aR.e0 c hc),fun c hc=>sb _ _ _ (aR.e0 c (aR.eS c hc)),fun _=>Nat.le_refl _,fun _ _ h _=>⟨h,rfl,rfl⟩,fun _ _ h=>h⟩,
  rfl,rfl,rfl,by simp,fun c hc _ _=>sb _ _ _ hc,fun _ _ h=> .inl h,fun _ h=> .inl h,fun c hc=>hc.elim .inl (fun e=> .inr (by omega)),fun c hc=>hc.elim .inl (fun e=> .inr (by omega))⟩
 m:=rfl
 mL:=rfl
 bF:=rfl
 sz:=rfl
 cp:=rfl
 e7:=fun c hc=>sb _ _ _ hc
 fC:=fun c hc=>hc.elim .inl (fun e=> .inr (by simp;omega))
 eS:=fun c hc=>hc.elim (fun h=> .inl (aR.eS c h)) .inr
theorem S6 {P:Program} {E:Env} {t:TypeId} {e:TypeId} {n:Nat} {z:List AV} {parts:List (Nat×AV)} {kq:List (Nat×Value)} {cells:List AV} (aI:aD (fun a b=>a.1=b.1∧V2 E a.2 b.2) parts kq) (he:jf P t=some e) (aP:m6 P e=some z)
  (n6:z.length=P.cellsOf e) (V7:n*z.length≤1000000∧n≤1000000) (hf:o9 (fun i=>some (i*z.length,z.length)) ((List.range (n*z.length)).map fun i=>z.getD (i%z.length) .undef) parts=some cells):
  ∃hI,aD (cC E.b3) cells hI.toList∧(Instr.buildSlice t n kq.toArray).run P E.w= .ok (.slice (some ⟨E.w.heap.size,0,none⟩) n n) (E.w.alloc (.cells hI e))∧cells.length=n*z.length:=by
 obtain⟨i,v,h1,h2,aN,be⟩:=vg (E:=E.b3) aP
 have uj:v.cells.size=z.length:=by rw[aN];simp
 have wa:i.size=z.length:=by rw[n6];simp[Program.cellsOf,h1]
 let k_:Array Value:=if n*z.length=0 then #[] else v.cells
 let base:Array Value:=(Array.range (n*z.length)).map (fun i=>k_[i%k_.size]!)
 have pg:aD (cC E.b3) ((List.range (n*z.length)).map fun i=>z.getD (i%z.length) .undef) base.toList:=by
  refine⟨by simp[base],fun k a b a3 hb=> ?_⟩
  rw[List.getElem?_map] at a3
  have hk:k<n*z.length:=by
   cases ak:(List.range (n*z.length))[k]? with
   | none=>simp[ak] at a3
   | some x=>have:=(List.getElem?_eq_some_iff.1 ak).1;simpa using this
  rw[List.getElem?_range hk] at a3
  simp only[Option.map_some,Option.some.injEq] at a3
  have lk:0<z.length:=by
   rcases Nat.eq_zero_or_pos z.length with q | q
   ·rw[q,Nat.mul_zero] at hk;omega
   ·exact q
  have bf:k%z.length<z.length:=Nat.mod_lt _ lk
  have pt:k_=v.cells:=if_neg (by omega)
  have dZ:base[k]?=some (v.cells[k%z.length]!):=by
   show((Array.range (n*z.length)).map (fun i=>k_[i%k_.size]!))[k]?=_
   rw[pt,uj]
   simp[hk]
  rw[Array.getElem?_toList,dZ] at hb
  simp only[Option.some.injEq] at hb
  have pr:v.cells.toList[k%z.length]?=some (v.cells[k%z.length]!):=by
   rw[Array.getElem?_toList,Array.getElem?_eq_getElem (by omega)]
   congr 1
   exact(getElem!_pos v.cells (k%z.length) (by omega)).symm
  have E5:z[k%z.length]?=some a:=by
   rw[←a3,List.getD_eq_getElem?_getD,List.getElem?_eq_getElem bf];rfl
  rw[←hb]
  exact be.2 _ _ _ E5 pr
 obtain⟨hI,aK,dS⟩:=AE aI pg hf
 have hu:=sl he
 have fM:(Instr.buildSlice t n kq.toArray).run P E.w= .ok (.slice (some ⟨E.w.heap.size,0,none⟩) n n) (E.w.alloc (.cells hI e)):=by
  have Eu: ¬n*z.length>2 ^ 24:=by omega
  simp only[Instr.buildSlice,Sem.run_bind,run_underlying hu,Result.andThen_ok,run_sizeOf (show(P.info? e).isSome=true by rw[h1];rfl),←n6,if_neg Eu]
  have eY:Instr.fill (fun i=>some (i*z.length,z.length)) ((Array.range (n*z.length)).map (fun x=>k_[x%k_.size]!)) kq=some hI:=aK
  by_cases q:n*z.length=0
  ·have pt:k_= #[]:=if_pos q
   rw[if_pos q]
   simp only[Sem.run_bind,Sem.run_pure,Result.andThen_ok]
   rw[←pt,eY]
   simp[newRow]
  ·have pt:k_=v.cells:=if_neg q
   rw[if_neg q]
   simp only[Sem.run_bind,Sem.run_pure,Result.andThen_ok,zeroValue,typeInfo,h1,h2,run_program]
   rw[←pt,eY]
   simp[newRow]
 have hlen:cells.length=n*z.length:=by
  have q:=dS.1
  have: ∀(parts:List (Nat×AV)) (c r:List AV),o9 (fun i=>some (i*z.length,z.length)) c parts=some r→r.length=c.length:=by
   intro parts
   induction parts with
   | nil=>intro c r bX;cases bX;rfl
   | cons p ps bR=>
    intro c r bX
    obtain⟨a,b⟩:=p
    unfold o9 at bX
    split at bX
    ·cases bX
    ·split at bX
     ·rename_i hc
      rw[bR _ _ bX];simp[fa];omega
     ·cases bX
  rw[this _ _ _ hf];simp
 exact⟨hI,dS,fM,hlen⟩
theorem JE {P:Program} {E:Env} {H:List Blk} {t:TypeId} {n:Nat} {parts:List (Nat×AV)} {kq:List (Nat×Value)} {K:AV→Prop} (aR:SimH E H) (aI:aD (fun a b=>a.1=b.1∧V2 E a.2 b.2) parts kq) (h:vy P t n parts K):
  ∃r u E',K r∧(Instr.buildSlice t n kq.toArray).run P E.w= .ok u E'.w∧lI E E'∧V3 E' r u:=by
 obtain⟨e,he,h⟩:=fs h
 obtain⟨z,aP,h⟩:=fs h
 split at h
 case isFalse=>exact h.elim
 case isTrue hb=>
 obtain⟨n6,V7⟩:=hb
 obtain⟨cells,hf,h⟩:=fs h
 split at h
 case isFalse=>exact h.elim
 case isTrue hby=>
 obtain⟨i,v,h1,h2,aN,be⟩:=vg (E:=E.b3) aP
 have uj:v.cells.size=z.length:=by rw[aN];simp
 have wa:i.size=z.length:=by rw[n6];simp[Program.cellsOf,h1]
 let k_:Array Value:=if n*z.length=0 then #[] else v.cells
 let base:Array Value:=(Array.range (n*z.length)).map (fun i=>k_[i%k_.size]!)
 have pg:aD (cC E.b3) ((List.range (n*z.length)).map fun i=>z.getD (i%z.length) .undef) base.toList:=by
  refine⟨by simp[base],fun k a b a3 hb=> ?_⟩
  rw[List.getElem?_map] at a3
  have hk:k<n*z.length:=by
   cases ak:(List.range (n*z.length))[k]? with
   | none=>simp[ak] at a3
   | some x=>have:=(List.getElem?_eq_some_iff.1 ak).1;simpa using this
  rw[List.getElem?_range hk] at a3
  simp only[Option.map_some,Option.some.injEq] at a3
  have lk:0<z.length:=by
   rcases Nat.eq_zero_or_pos z.length with q | q
   ·rw[q,Nat.mul_zero] at hk;omega
   ·exact q
  have bf:k%z.length<z.length:=Nat.mod_lt _ lk
  have pt:k_=v.cells:=if_neg (by omega)
  have dZ:base[k]?=some (v.cells[k%z.length]!):=by
   show((Array.range (n*z.length)).map (fun i=>k_[i%k_.size]!))[k]?=_
   rw[pt,uj]
   simp[hk]
  rw[Array.getElem?_toList,dZ] at hb
  simp only[Option.some.injEq] at hb
  have pr:v.cells.toList[k%z.length]?=some (v.cells[k%z.length]!):=by
   rw[Array.getElem?_toList,Array.getElem?_eq_getElem (by omega)]
   congr 1
   exact(getElem!_pos v.cells (k%z.length) (by omega)).symm
  have E5:z[k%z.length]?=some a:=by
   rw[←a3,List.getD_eq_getElem?_getD,List.getElem?_eq_getElem bf];rfl
  rw[←hb]
  exact be.2 _ _ _ E5 pr
 obtain⟨hI,aK,dS⟩:=AE aI pg hf
 have ak:=lI.alloc aR (.cells hI e)
 have hu:=sl he
 have fM:(Instr.buildSlice t n kq.toArray).run P E.w= .ok (.slice (some ⟨E.w.heap.size,0,none⟩) n n) (E.w.alloc (.cells hI e)):=by
  have Eu: ¬n*z.length>2 ^ 24:=by omega
  simp only[Instr.buildSlice,Sem.run_bind,run_underlying hu,Result.andThen_ok,run_sizeOf (show(P.info? e).isSome=true by rw[h1];rfl),←n6,if_neg Eu]
  have eY:Instr.fill (fun i=>some (i*z.length,z.length)) ((Array.range (n*z.length)).map (fun x=>k_[x%k_.size]!)) kq=some hI:=aK
  by_cases q:n*z.length=0
  ·have pt:k_= #[]:=if_pos q
   rw[if_pos q]
   simp only[Sem.run_bind,Sem.run_pure,Result.andThen_ok]
   rw[←pt,eY]
   simp[newRow]
  ·have pt:k_=v.cells:=if_neg q
   rw[if_neg q]
   simp only[Sem.run_bind,Sem.run_pure,Result.andThen_ok,zeroValue,typeInfo,h1,h2,run_program]
   rw[←pt,eY]
   simp[newRow]
 have hlen:cells.length=n*z.length:=by
  have q:=dS.1
  have: ∀(parts:List (Nat×AV)) (c r:List AV),o9 (fun i=>some (i*z.length,z.length)) c parts=some r→r.length=c.length:=by
   intro parts
   induction parts with
   | nil=>intro c r bX;cases bX;rfl
   | cons p ps bR=>
    intro c r bX
    obtain⟨a,b⟩:=p
    unfold o9 at bX
    split at bX
    ·cases bX
    ·split at bX
     ·rename_i hc
      rw[bR _ _ bX];simp[fa];omega
     ·cases bX
  rw[this _ _ _ hf];simp
 refine⟨_,_,_,h,fM,ak,?_⟩
 have nY:(chunk z.length n (cells.map ko)).length=n:=by simp[chunk]
 show bH (E.w.alloc (.cells hI e)) (fun c=>E.PA c∨c=E.w.heap.size) (fun c=>E.PF c∨c=E.w.heap.size) _ _
 have key:=bH.bC (w:=E.w.alloc (.cells hI e)) (PA:=fun c=>E.PA c∨c=E.w.heap.size) (PF:=fun c=>E.PF c∨c=E.w.heap.size)
  (PB:=if cells.all nR=true then(fun c=>E.PF c∨c=E.w.heap.size) else(fun c=>E.PA c∨c=E.w.heap.size))
  (rows:=chunk z.length n (cells.map ko)) (full:=true) (fresh:=cells.all nR) (A:=some ⟨E.w.heap.size,0,none⟩) (cap:=n) (sz:=z.length) (vs:=fun i j=>(hI[i*z.length+j]?).getD undef)
  (fun c hc=>by split at hc<;>(rename_i q;simp only[q];first | exact hc | simpa using hc)) (by omega) (fun _=>nY.symm)
  (fun i row aK=>by
   unfold chunk at aK
   rw[List.getElem?_map] at aK
   cases ud:(List.range n)[i]? with
   | none=>simp[ud] at aK
   | some k=>
    have hi:i<n:=by have:=(List.getElem?_eq_some_iff.1 ud).1;simpa using this
    rw[List.getElem?_range hi] at aK
    simp at aK
    subst aK
    have:i*z.length+z.length≤n*z.length:=by
     calc i*z.length+z.length=(i+1)*z.length:=by rw[Nat.add_mul,Nat.one_mul]
      _≤n*z.length:=Nat.mul_le_mul_right _ (by omega)
    simp;omega)
  (fun _=>⟨E.w.heap.size,0,rfl,by split<;>exact .inr rfl,fun i j hi aM=>by
   rw[nY] at hi
   have:i*z.length+z.length≤n*z.length:=by
    calc i*z.length+z.length=(i+1)*z.length:=by rw[Nat.add_mul,Nat.one_mul]
     _≤n*z.length:=Nat.mul_le_mul_right _ (by omega)
   have EX:hI.size=n*z.length:=by rw[←hlen,dS.1];simp
   rw[Nat.zero_add]
   have bf:i*z.length+j<hI.size:=by omega
   rw[World.cell?_alloc_new]
   simp[Array.getElem?_eq_getElem bf]⟩)
  (fun i j row a aK aM=>by
   obtain⟨hi,afj,hc⟩:=JM aK aM
   rw[List.getElem?_map] at hc
   cases tP:cells[i*z.length+j]? with
   | none=>simp[tP] at hc
   | some b=>
    simp[tP] at hc
    subst hc
    obtain⟨u,hu,g0⟩:=dS.get tP
    have Ew:jv b=true:=List.all_eq_true.1 hby b (List.mem_of_getElem? tP)
    have n5:=Ad Ew g0.up
    have nl:(hI[i*z.length+j]?).getD undef=u:=by rw[Array.getElem?_toList] at hu;rw[hu];rfl
    rw[nl]
    by_cases eo:cells.all nR=true
    ·have Wl:nR b=true:=List.all_eq_true.1 eo b (List.mem_of_getElem? tP)
     rw[if_pos eo]
     exact(RY Ew Wl n5).mono (fun c hc=>sb _ _ _ (aR.e0 c (aR.eS c hc))) (fun c hc=>hc.elim) (fun c hc=> .inl hc) (fun c hc=>hc)
    ·rw[if_neg eo]
     exact(IS Ew n5 (fun c hc=>hc) aR.eS).mono (fun c hc=>sb _ _ _ (aR.e0 c hc)) (fun c hc=>hc.elim) (fun c hc=> .inl hc) (fun c hc=>hc))
 rw[nY] at key
 exact key
def AD (P:Program) (t:TypeId) (f:Nat):Option Field:=match P.underlying t with
 | some (.struct fo)=>fo.toList[f]?
 | _=>none
theorem Uu {P:Program} {t:TypeId} {f:Nat} {fd:Field} (h:AD P t f=some fd): ∃fo,P.underlying t=some (.struct fo)∧fo[f]?=some fd:=by
 unfold AD at h
 split at h
 ·rename_i fo n1;exact⟨fo,n1,by simpa using h⟩
 ·cases h
def D2 (P:Program) (t:TypeId) (x:AV) (f:Nat) (K:AV→Prop):Prop:=
 cU (AD P t f) fun fd=>if(P.info? fd.type).isSome=true∧P.cellsOf fd.type≠0 then(match x with
  | .fx s c=>K (.fx s (c+fd.offset))
  | .ptr b g r c=>K (.ptr b g r (c+fd.offset))
  | .dr cells c=>K (.dr cells (c+fd.offset))
  | _=>False) else False
theorem aa6 {P:Program} {fd:Field} {w:World} {c o:Nat} (hi:(P.info? fd.type).isSome=true) (aP:P.cellsOf fd.type≠0):
  (fieldPlace ⟨c,o,none⟩ fd).run P w= .ok ⟨c,o+fd.offset,none⟩ w:=by
 simp[fieldPlace,run_sizeOf hi,aP,nI]
theorem Ut {P:Program} {t:TypeId} {x:AV} {f:Nat} {K:AV→Prop} {E:Env} {v:Value} (hx:V3 E x v)
  (h:D2 P t x f K):
  ∃r u,K r∧(Instr.fieldAt t v f).run P E.w= .ok u E.w∧V3 E r u:=by
 obtain⟨fd,hf,h⟩:=fs h
 obtain⟨fo,hu,Wm⟩:=Uu hf
 split at h
 case isFalse=>exact h.elim
 case isTrue hc=>
 obtain⟨hi,aP⟩:=hc
 have run: ∀bl o,(Instr.fieldAt t (.pointer (some ⟨bl,o,none⟩)) f).run P E.w= .ok (.pointer (some ⟨bl,o+fd.offset,none⟩)) E.w:=by
  intro bl o
  simp[Instr.fieldAt,run_underlying hu,Wm,Instr.sureAddr,aa6 hi aP]
 cases x with
 | fx s c=>
  obtain⟨bl,hm,rfl⟩:=hx.yT
  exact⟨_,_,h,run bl c,bl,hm,rfl⟩
 | ptr b g r c=>
  rcases(show fl E (.ptr b g r c) v from hx) with⟨hg,bl,o,rfl⟩ | ⟨hg,bl,hm,rfl⟩
  ·exact⟨_,_,h,run bl o,.inl ⟨hg,_,_,rfl⟩⟩
  ·exact⟨_,_,h,run bl _,.inr ⟨hg,bl,hm,by rw[Nat.add_assoc]⟩⟩
 | dr cells c=>
  have jz:bH E.w E.PA E.PF (.dr cells c) v:=hx
  cases jz with
  | @dr _ _ _ _ bl o vs hc e9 dS=>
   exact⟨_,_,h,run bl _,by rw[Nat.add_assoc];exact bH.dr hc e9 dS⟩
 | _=>exact h.elim
def wy (P:Program) (t:TypeId) (x i:AV) (H:List Blk) (K:AV→Prop):Prop:=
 cU (jf P t) fun e=>if(P.info? e).isSome=true then(match i with
  | .int _ n=>(match x with
   | .bC rows _ _=>0≤n∧cU rows[n.toNat]? fun row=>row.length=P.cellsOf e∧K (.dr row 0)
   | .ref b g off m _=>cU H[b]? fun blk=>blk.bF=g∧blk.sz=P.cellsOf e∧0≤n∧n<m∧K (.ptr b g (off+n.toNat) 0)
   | _=>False)
  | _=>False) else False
theorem Xq {P:Program} {t:TypeId} {x i:AV} {K:AV→Prop} {E:Env} {L ku:List (Nat×List AV)} {H e3:List Blk} {v yL:Value} (sub:Sub L H ku e3) (aR:SimH E e3) (hx:V3 E x v) (hi:V3 E i yL)
  (h:wy P t x i H K): ∃r u,K r∧(Instr.indexAt t v yL).run P E.w= .ok u E.w∧V3 E r u:=by
 obtain⟨e,he,h⟩:=fs h
 have hu:=sl he
 split at h
 case isFalse=>exact h.elim
 case isTrue hinf=>
 cases i with
 | int k n=>
  obtain rfl:=hi.rM
  cases x with
  | bC rows full fresh=>
   obtain⟨aT,h⟩:=(show 0≤n∧cU rows[n.toNat]? fun row=>row.length=P.cellsOf e∧K (.dr row 0) from h)
   obtain⟨row,aK,aL,hK⟩:=fs h
   have bf:n.toNat<rows.length:=(List.getElem?_eq_some_iff.1 aK).1
   have jz:bH E.w E.PA E.PF (.bC rows full fresh) v:=hx
   cases jz with
   | @bC _ _ PB _ _ _ A cap sz vs f_ gK hl cQ e9 dS=>
    obtain⟨c,o,rfl,hc,eo⟩:=e9 (by omega)
    have yE:=cQ _ _ aK
    refine⟨_,.pointer (some ⟨c,o+n.toNat*P.cellsOf e,none⟩),hK,?_,?_⟩
    ·simp only[Instr.indexAt,Sem.run_bind,asIntOf,Sem.run_pure,Result.andThen_ok,run_underlying hu]
     rw[if_pos ⟨aT,by omega⟩]
     simp[run_sizeOf hinf,nI]
    ·show bH _ _ _ _ _
     have:=bH.dr (w:=E.w) (PA:=E.PA) (PF:=E.PF) (cells:=row) (col:=0) (c:=c) (o:=o+n.toNat*P.cellsOf e) (vs:=vs n.toNat)
      (by have:=f_ c hc;split at this;exact aR.eS c this;exact this)
      (fun j aM=>by rw[Nat.add_assoc,←aL,yE];exact eo n.toNat j bf (by omega))
      (fun j a aM=>(dS n.toNat j row a aK aM).mono (fun _ _=>rfl) (fun _ h=>h.elim) (fun d bi=>by
       have:=f_ d bi;split at this;exact aR.eS d this;exact this) (fun _ h=>h))
     simpa using this
  | ref b g off m full=>
   obtain⟨blk,hb,hg,mM,aT,h1,hK⟩:=fs (show cU H[b]? fun blk=>blk.bF=g∧blk.sz=P.cellsOf e∧0≤n∧n<m∧K (.ptr b g (off+n.toNat) 0) from h)
   have hb:=sub.h b blk hb
   have kc:=aR.e4 b blk hb
   rcases(show fl E (.ref b g off m full) v from hx) with⟨bX,_⟩ | ⟨fK,bX⟩
   ·omega
   ·rcases bX with⟨_,_,we,_⟩ | ⟨c,cap,hm,rfl,oG,ng,qg⟩
    ·omega
    ·obtain⟨blk',a7,ty,q1,dL,_⟩:=aR.heap b c hm
     obtain rfl:blk=blk':=by rw[hb] at q1;exact Option.some.inj q1
     refine⟨_,.pointer (some ⟨c,(off+n.toNat)*E.sz b+0,none⟩),hK,?_,.inr ⟨fK,c,hm,rfl⟩⟩
     simp only[Instr.indexAt,Sem.run_bind,asIntOf,Sem.run_pure,Result.andThen_ok,run_underlying hu]
     rw[if_pos ⟨aT,h1⟩]
     simp[run_sizeOf hinf,nI,dL,mM,Nat.add_mul]
  | _=>exact h.elim
 | _=>exact h.elim
def E8 (P:Program) (t:TypeId) (x i:AV) (K:AV→Prop):Prop:=match x with
 | .str s=>(match i with
  | .int _ n=>(match P.underlying t with
   | some .string=>0≤n∧n<s.size∧K (.int .u8 (s.data.getD n.toNat 0).toNat)
   | _=>False)
  | _=>False)
 | _=>False
theorem Xz {P:Program} {t:TypeId} {x i:AV} {K:AV→Prop} {E:Env} {v yL:Value} (hx:V3 E x v) (hi:V3 E i yL) (h:E8 P t x i K):
  ∃r u,K r∧(Instr.index t v yL).run P E.w= .ok u E.w∧V3 E r u:=by
 cases x with
 | str s=>
  cases i with
  | int k n=>
   obtain rfl:=hx.xm
   obtain rfl:=hi.rM
   have h:(match P.underlying t with
    | some .string=>0≤n∧n<s.size∧K (.int .u8 (s.data.getD n.toNat 0).toNat)
    | _=>False):=h
   split at h
   ·rename_i hu
    obtain⟨aT,h1,hK⟩:=h
    refine⟨_,.int .u8 (s.data.getD n.toNat 0).toNat,hK,?_,bH.int _ _⟩
    have bf:n.toNat<s.size:=by omega
    have EN:n.toNat<s.data.size:=bf
    have:s[n.toNat]?=some (s.data.getD n.toNat 0):=by
     rw[getElem?_pos s n.toNat bf]
     congr 1
     show s.data[n.toNat]=_
     rw[Array.getD_eq_getD_getElem?,Array.getElem?_eq_getElem EN];rfl
    simp only[Instr.index,Sem.run_bind,asIntOf,Sem.run_pure,Result.andThen_ok,run_underlying hu]
    rw[if_pos aT,this]
    rfl
   ·exact h.elim
  | _=>exact h.elim
 | _=>exact h.elim
def rO (x:AV) (K:AV→Prop):Prop:=match x with
 | .bC rows _ _=>rows.length≤4611686018427387904→K (.int .i64 rows.length)
 | .str s=>K (.int .i64 s.size)
 | .ref _ _ _ n _=>K (.int .i64 n)
 | _=>False
def jW (P:Program) (t:TypeId) (x:AV):Bool:=match P.underlying t,x with
 | some .string,.str _=>true
 | some (.slice _),.bC _ _ _=>true
 | some (.slice _),.ref _ _ _ _ _=>true
 | _,_=>false
theorem Zq {P:Program} {t ty:TypeId} {x:AV} {K:AV→Prop} {E:Env} {v:Value} (hx:V3 E x v)
  (br:jW P t x=true) (h:rO x K): ∃r u,K r∧(Builtin.len_ #[t] ty #[v]).run P E.w= .ok u E.w∧V3 E r u:=by
 unfold jW at br
 split at br<;>try (cases br;done)
 ·rename_i s hu
  obtain rfl:=hx.xm
  exact⟨_,_,h,by simp[Builtin.len_,run_underlying hu,goInt],bH.int _ _⟩
 ·rename_i e rows en fr hu
  have jz:bH E.w E.PA E.PF (.bC rows en fr) v:=hx
  cases jz with
  | @bC _ _ PB _ _ _ A cap sz vs f_ gK hl cQ e9 dS=>
   have h:rows.length≤4611686018427387904→K (.int .i64 rows.length):=h
   exact⟨_,_,h gK.2,by simp[Builtin.len_,run_underlying hu,goInt],bH.int _ _⟩
 ·rename_i e b g off n en hu
  have h:K (.int .i64 n):=h
  rcases(show fl E (.ref b g off n en) v from hx) with⟨_,A,cap,rfl⟩ | ⟨fK,bX⟩
  ·exact⟨_,_,h,by simp[Builtin.len_,run_underlying hu,goInt],bH.int _ _⟩
  ·rcases bX with⟨_,_,rfl,A,rfl⟩ | ⟨c,cap,hm,rfl,oG,ng,qg⟩
   ·exact⟨_,_,h,by simp[Builtin.len_,run_underlying hu,goInt],bH.int _ _⟩
   ·exact⟨_,_,h,by simp[Builtin.len_,run_underlying hu,goInt],bH.int _ _⟩
def DY (x:AV) (i:Nat) (K:AV→Prop):Prop:=match x with
 | .tup l=>cU l[i]? K
 | _=>False
theorem Uo {P:Program} {x:AV} {i:Nat} {K:AV→Prop} {E:Env} {v:Value} (hx:V3 E x v) (h:DY x i K):
  ∃r u,K r∧(Instr.extract v i).run P E.w= .ok u E.w∧V3 E r u:=by
 cases x with
 | tup l=>
  obtain⟨vs,rfl,aI⟩:=hx
  obtain⟨a,a3,hK⟩:=fs (show cU l[i]? K from h)
  obtain⟨u,hu,aK⟩:=aI.get a3
  refine⟨a,u,hK,?_,pW aK⟩
  simp[Instr.extract,hu]
 | _=>exact h.elim
def CD (op:UnOp) (x:AV) (K:AV→Prop):Prop:=match op,x with
 | .not,.bool b=>K (.bool (!b))
 | .neg,.int k n=>K (.int k (k.wrap (0 - n)))
 | _,_=>False
theorem aeu {P:Program} {op:UnOp} {x:AV} {K:AV→Prop} {E:Env} {v:Value} (hx:V3 E x v) (h:CD op x K):
  ∃r u,K r∧(Op.unary op v).run P E.w= .ok u E.w∧V3 E r u:=by
 unfold CD at h
 split at h
 ·obtain rfl:=hx.re;exact⟨_,_,h,rfl,bH.bool _⟩
 ·obtain rfl:=hx.rM;exact⟨_,_,h,rfl,bH.int _ _⟩
 ·exact h.elim
def Gt (x:AV) (K:AV→Prop):Prop:=match x with
 | .ptr _ _ _ _ | .fx _ _ | .dr _ _=>K x
 | _=>False
def wC (P:Program) (t:TypeId):Option IntKind:=match P.underlying t with
 | some (.int k)=>some k
 | _=>none
theorem Na {P:Program} {t:TypeId} {k:IntKind} (h:wC P t=some k):P.underlying t=some (.int k):=by
 unfold wC at h
 split at h
 ·cases h;assumption
 ·cases h
def Dv (P:Program) (s d:TypeId) (x:AV) (K:AV→Prop):Prop:=match x with
 | .int _ n=>cU (wC P s) fun _=>cU (wC P d) fun k=>K (.int k (k.wrap n))
 | _=>False
theorem TQ {P:Program} {s d:TypeId} {x:AV} {K:AV→Prop} {E:Env} {v:Value} (hx:V3 E x v) (h:Dv P s d x K):
  ∃r u,K r∧(Go.convert s d v).run P E.w= .ok u E.w∧V3 E r u:=by
 cases x with
 | int ba n=>
  obtain⟨ei,h1,h⟩:=fs (show cU (wC P s) _ from h)
  obtain⟨ih,h2,h⟩:=fs h
  obtain rfl:=hx.rM
  refine⟨_,_,h,?_,bH.int _ _⟩
  simp only[Go.convert,Sem.run_bind,run_underlying (Na h1),run_underlying (Na h2),Result.andThen_ok]
  rfl
 | _=>exact h.elim
def l_ (x:Option AV) (d:Nat) (K:Nat→Prop):Prop:=match x with
 | none=>K d
 | some (.int _ n)=>0≤n∧K n.toNat
 | some _=>False
def uX (P:Program) (t:TypeId) (x:AV) (lo hi:Option AV) (H:List Blk) (K:AV→Prop):Prop:=match x with
 | .str s=>(match P.underlying t with
  | some .string=>l_ lo 0 fun l=>l_ hi s.size fun h=>l≤h∧h≤s.size∧K (.str (s.extract l h))
  | _=>False)
 | .bC rows _ fr=>cU (jf P t) fun e=>if(P.info? e).isSome=true then
   l_ lo 0 fun l=>l_ hi rows.length fun h=>l≤h∧h≤rows.length∧(∀(i:Nat) (row:List AV),rows[i]?=some row→row.length=P.cellsOf e)∧K (.bC ((rows.drop l).take (h - l)) false fr) else False
 | .ref b g off n _=>cU (jf P t) fun e=>if(P.info? e).isSome=true then
   cU H[b]? fun blk=>blk.bF=g∧blk.sz=P.cellsOf e∧l_ lo 0 fun l=>l_ hi n fun h=>l≤h∧h≤n∧(l<h→K (.ref b g (off+l) (h - l) false))∧(l=h→K (.bC [] false true)) else False
 | _=>False
def zW (E:Env) (x:Option AV) (v:Option Value):Prop:=match x,v with
  | none,none=>True
  | some a,some u=>V3 E a u
  | _,_=>False
theorem vx {x:Option AV} {d:Nat} {K:Nat→Prop} {E:Env} {v:Option Value} (hx:zW E x v) (h:l_ x d K): ∃n,K n∧((v=none∧n=d)∨ ∃k,v=some (.int k n)):=by
 cases x with
 | none=>
  cases v with
  | none=>exact⟨d,h,.inl ⟨rfl,rfl⟩⟩
  | some u=>exact hx.elim
 | some a=>
  cases v with
  | none=>exact hx.elim
  | some u=>
   cases a with
   | int k n=>
    obtain⟨aT,h⟩:=(show 0≤n∧K n.toNat from h)
    obtain rfl:=V3.rM hx
    exact⟨n.toNat,h,.inr ⟨k,by rw[Int.toNat_of_nonneg aT]⟩⟩
   | _=>exact h.elim
theorem Hg {P:Program} {w:World} {isS:Bool} {len cap l h:Nat} {lo hi:Option Value} (aL:(lo=none∧l=0)∨ ∃k,lo=some (.int k l)) (bX:(hi=none∧h=len)∨ ∃k,hi=some (.int k h))
  (h1:l≤h) (h2:h≤cap):(Instr.sliceBounds isS len cap lo hi none).run P w= .ok (l,h,cap) w:=by
 rcases aL with⟨rfl,rfl⟩ | ⟨lW,rfl⟩<;>rcases bX with⟨rfl,rfl⟩ | ⟨Nd,rfl⟩
 ·simp[Instr.sliceBounds]
 ·simp[Instr.sliceBounds,run_sliceBound (P:=P) w Nd (h:Int) cap _ (by omega) (by omega)]
 ·simp[Instr.sliceBounds,run_sliceBound (P:=P) w lW (l:Int) _ _ (by omega) (show(l:Int)≤((_:Nat):Int) by exact Int.ofNat_le.2 h1)]
 ·simp[Instr.sliceBounds,run_sliceBound (P:=P) w Nd (h:Int) cap _ (by omega) (by omega),run_sliceBound (P:=P) w lW (l:Int) h _ (by omega) (by omega)]
theorem abq {P:Program} {t:TypeId} {x:AV} {lo hi:Option AV} {K:AV→Prop} {E:Env} {L ku:List (Nat×List AV)} {H e3:List Blk} {v:Value} {IW IV:Option Value} (sub:Sub L H ku e3) (aR:SimH E e3) (hx:V3 E x v)
  (EM:zW E lo IW) (EF:zW E hi IV)
  (h:uX P t x lo hi H K): ∃r u,K r∧(Instr.sliceAt t v IW IV none).run P E.w= .ok u E.w∧V3 E r u:=by
 cases x with
 | str s=>
  obtain rfl:=hx.xm
  have h:(match P.underlying t with
   | some .string=>l_ lo 0 fun l=>l_ hi s.size fun h=>l≤h∧h≤s.size∧K (.str (s.extract l h))
   | _=>False):=h
  split at h
  ·rename_i hu
   obtain⟨l,h,aL⟩:=vx EM h
   obtain⟨q,⟨h1,h2,hK⟩,ak⟩:=vx EF h
   refine⟨_,.string (s.extract l q),hK,?_,bH.str _⟩
   rw[run_sliceAt_string E.w t _ _ _ _ hu]
   simp only[Instr.slice,Sem.run_bind,run_underlying hu,Result.andThen_ok]
   simp only[Option.isSome_none,Bool.false_eq_true,if_false]
   simp only[Sem.run_bind,Hg (P:=P) (w:=E.w) (isS:=false) aL ak h1 h2,Result.andThen_ok]
   rfl
  ·exact h.elim
 | bC rows full fr=>
  obtain⟨e,he,h⟩:=fs (show cU (jf P t) fun e=>if(P.info? e).isSome=true then
   l_ lo 0 fun l=>l_ hi rows.length fun h=>l≤h∧h≤rows.length∧(∀(i:Nat) (row:List AV),rows[i]?=some row→row.length=P.cellsOf e)∧K (.bC ((rows.drop l).take (h - l)) false fr) else False from h)
  have hu:=sl he
  split at h
  case isFalse=>exact h.elim
  case isTrue hinf=>
  obtain⟨l,h,aL⟩:=vx EM h
  obtain⟨q,⟨h1,h2,ll,hK⟩,ak⟩:=vx EF h
  have jz:bH E.w E.PA E.PF (.bC rows full fr) v:=hx
  cases jz with
  | @bC _ _ PB _ _ _ A cap sz vs f_ gK hl cQ e9 dS=>
   have tS:P.elem t=e:=by simp[Program.elem,hu]
   have nl:P.underlying t=some (.slice (P.elem t)):=by rw[tS];exact hu
   have hlen:((rows.drop l).take (q - l)).length=q - l:=by simp;omega
   refine⟨_,sliced A l q cap (P.cellsOf e),hK,?_,?_⟩
   ·rw[run_sliceAt_slice E.w t _ _ _ _ nl,run_slice_any E.w t A rows.length cap nl,Hg (P:=P) (w:=E.w) aL ak h1 (by omega)]
    simp only[Result.andThen_ok,tS,run_sizeOf hinf]
   ·show bH E.w E.PA E.PF _ (.slice _ (q - l) (cap - l))
    have key:=bH.bC (w:=E.w) (PA:=E.PA) (PF:=E.PF) (PB:=PB) (rows:=(rows.drop l).take (q - l)) (full:=false) (fresh:=fr) (A:=if cap=l then A else A.map (·.add (l*P.cellsOf e))) (cap:=cap - l) (sz:=sz) (vs:=fun i j=>vs (l+i) j)
     f_ (by rw[hlen];omega) (fun h=>by cases h)
     (fun i row aK=>by
      rw[List.getElem?_take] at aK
      split at aK
      ·rw[List.getElem?_drop] at aK;exact cQ _ _ aK
      ·cases aK)
     (fun aH=>by
      rw[hlen] at aH
      obtain⟨c,o,rfl,hc,eo⟩:=e9 (by omega)
      have W_:sz=P.cellsOf e:=by
       have bf:l<rows.length:=by omega
       rw[←cQ l _ (List.getElem?_eq_getElem bf)];exact ll l _ (List.getElem?_eq_getElem bf)
      refine⟨c,o+l*P.cellsOf e,by rw[if_neg (by omega)];simp[nI],hc,fun i j hi aM=> ?_⟩
      rw[hlen] at hi
      have:=eo (l+i) j (by omega) aM
      rw[←this,W_]
      congr 2
      rw[Nat.add_mul];omega)
     (fun i j row a aK aM=>by
      rw[List.getElem?_take] at aK
      split at aK
      ·rw[List.getElem?_drop] at aK;exact dS _ _ _ _ aK aM
      ·cases aK)
    rw[hlen] at key
    exact key
 | ref b g off n full=>
  obtain⟨e,he,h⟩:=fs (show cU (jf P t) fun e=>if(P.info? e).isSome=true then
   cU H[b]? fun blk=>blk.bF=g∧blk.sz=P.cellsOf e∧l_ lo 0 fun l=>l_ hi n fun h=>l≤h∧h≤n∧(l<h→K (.ref b g (off+l) (h - l) false))∧(l=h→K (.bC [] false true)) else False from h)
  have hu:=sl he
  split at h
  case isFalse=>exact h.elim
  case isTrue hinf=>
  obtain⟨blk,hb,hg,mM,h⟩:=fs h
  obtain⟨l,h,aL⟩:=vx EM h
  obtain⟨q,⟨h1,h2,VU,KZ⟩,ak⟩:=vx EF h
  have hb:=sub.h b blk hb
  have kc:=aR.e4 b blk hb
  have tS:P.elem t=e:=by simp[Program.elem,hu]
  have nl:P.underlying t=some (.slice (P.elem t)):=by rw[tS];exact hu
  have run: ∀A cap,n≤cap→(Instr.sliceAt t (.slice A n cap) IW IV none).run P E.w= .ok (sliced A l q cap (P.cellsOf e)) E.w:=by
   intro A cap hc
   rw[run_sliceAt_slice E.w t _ _ _ _ nl,run_slice_any E.w t A n cap nl,Hg (P:=P) (w:=E.w) aL ak h1 (by omega)]
   simp only[Result.andThen_ok,tS,run_sizeOf hinf]
  have empty: ∀A cap,l=q→V3 E (.bC [] false true) (sliced A l q cap (P.cellsOf e)):=by
   intro A cap tZ
   subst tZ
   show bH E.w E.PA E.PF _ (.slice _ (l - l) (cap - l))
   rw[Nat.sub_self]
   exact bH.bC (PB:=fun _=>False) (sz:=0) (vs:=fun _ _=>undef) (fun _ h=>h.elim) ⟨Nat.zero_le _,Nat.zero_le _⟩ (fun h=>by cases h) (fun i row h=>by simp at h) (fun h=>by simp at h) (fun i j row a h=>by simp at h)
  rcases(show fl E (.ref b g off n full) v from hx) with⟨bX,_⟩ | ⟨fK,bX⟩
  ·omega
  ·rcases bX with⟨_,_,rfl,A,rfl⟩ | ⟨c,cap,hm,rfl,oG,ng,qg⟩
   ·have tZ:l=q:=by omega
    exact⟨_,_,KZ tZ,run A 0 (Nat.le_refl _),empty _ _ tZ⟩
   ·rcases Nat.lt_or_ge l q with bf | AX
    ·refine⟨_,_,VU bf,run _ cap oG,.inr ⟨fK,.inr ⟨c,cap - l,hm,?_,by omega,(fun h=>by cases h),by omega⟩⟩⟩
     obtain⟨blk',a7,ty,q1,dL,_⟩:=aR.heap b c hm
     obtain rfl:blk=blk':=by rw[hb] at q1;exact Option.some.inj q1
     simp only[sliced,if_neg (show ¬cap=l by omega),Option.map_some,nI,dL,mM,Nat.add_mul]
    ·have tZ:l=q:=by omega
     exact⟨_,_,KZ tZ,run _ cap oG,empty _ _ tZ⟩
 | _=>exact h.elim
def uC (P:Program) (f:FuncId):Bool:=match P.funcs[f]? with
 | some fn=> !(fn.name== "runtime.NumGoroutine")&&fn.body.isSome
 | none=>false
def dz (P:Program) (f:FuncId) (args:List AV) (H:List Blk) (Q:AV→List Blk→Prop):Prop:=
 uC P f=true∧ ∀(E:Env) (vs:List Value),(∀t,E.mL t=none)→SimH E H→aD (V2 E) args vs→
  Calls P f vs.toArray E.w fun e w'=> ∃r v H' E',e= .returned v∧Q r H'∧E'.w=w'∧(∀t,E'.mL t=none)∧SimH E' H'∧V3 E' r v∧Step E E'
theorem dz.mono {P:Program} {f:FuncId} {args:List AV} {H:List Blk} {Q vl:AV→List Blk→Prop} (h:dz P f args H Q) (ak: ∀r H',Q r H'→vl r H'):dz P f args H vl:=
 ⟨h.1,fun E vs a b c=>(h.2 E vs a b c).mono fun e w' ⟨r,v,H',E',h1,h2,aN⟩=>⟨r,v,H',E',h1,ak _ _ h2,aN⟩⟩
def yY:AV→Bool
 | .fx _ _ | .agg _ | .tup _=>false
 | _=>true
def wL:AV→Bool
 | .fn _ caps=>caps.all yY
 | a=>yY a
def jX:AV→Bool
 | .agg cells=>cells.all wL
 | a=>wL a
def wM:AV→Bool
 | .tup l=>l.all jX
 | a=>jX a
theorem fl.b3 {E:Env} {a:AV} {v:Value} (h:yY a=true) (hv:fl E a v):fl E.b3 a v:=by
 cases a<;>first | exact hv | cases h
theorem cC.b3 {E:Env} {a:AV} {v:Value} (h:wL a=true) (hv:cC E a v):cC E.b3 a v:=by
 by_cases hf: ∃f caps,a= .fn f caps
 ·obtain⟨f,caps,rfl⟩:=hf
  obtain⟨vs,e,aI⟩:=hv
  exact⟨vs,e,aI.1,fun i x y hx bt=>(aI.2 i x y hx bt).b3 (List.all_eq_true.1 (show caps.all yY=true from h) x (List.mem_of_getElem? hx))⟩
 ·have aT:wL a=yY a:=by cases a<;>first | rfl | exact absurd ⟨_,_,rfl⟩ hf
  rw[ra fun f c e=>hf ⟨f,c,e⟩] at hv ⊢
  exact hv.b3 (aT▸h)
theorem V2.b3 {E:Env} {a:AV} {v:Value} (h:jX a=true) (hv:V2 E a v):V2 E.b3 a v:=by
 by_cases hf: ∃l,a= .agg l
 ·obtain⟨l,rfl⟩:=hf
  obtain⟨vs,e,aI⟩:=hv
  exact⟨vs,e,aI.1,fun i x y hx bt=>(aI.2 i x y hx bt).b3 (List.all_eq_true.1 (show l.all wL=true from h) x (List.mem_of_getElem? hx))⟩
 ·have aT:jX a=wL a:=by cases a<;>first | rfl | exact absurd ⟨_,rfl⟩ hf
  rw[o4 fun l e=>hf ⟨l,e⟩] at hv ⊢
  exact hv.b3 (aT▸h)
theorem V3.b3 {E:Env} {a:AV} {v:Value} (h:wM a=true) (hv:V3 E a v):V3 E.b3 a v:=by
 by_cases hf: ∃l,a= .tup l
 ·obtain⟨l,rfl⟩:=hf
  obtain⟨vs,e,aI⟩:=hv
  exact⟨vs,e,aI.1,fun i x y hx bt=>(aI.2 i x y hx bt).b3 (List.all_eq_true.1 (show l.all jX=true from h) x (List.mem_of_getElem? hx))⟩
 ·have aT:wM a=jX a:=by cases a<;>first | rfl | exact absurd ⟨_,rfl⟩ hf
  rw[ot fun l e=>hf ⟨l,e⟩] at hv ⊢
  exact hv.b3 (aT▸h)
theorem SimH.b3 {E:Env} {H:List Blk} (h:SimH E H):SimH E.b3 H:=
 {h with
  jB:=fun t jI c hm=>by cases hm
  gN:=fun b t c _ hm=>by cases hm
  ij:=fun c _ ⟨t,hm⟩=>by cases hm
  g2:=fun c ⟨t,hm⟩=>by cases hm}
theorem Good.toStep [cB] {cs E:Env} (h:Good cs E):Step cs E.b3:=
 ⟨⟨h.le.fC,h.le.fD,h.le.tj,h.le.wf,h.le.bF,h.le.m,fun t c hm=>by rw[h.b3 t] at hm;cases hm⟩,h.os,h.tape,h.output,h.size,fun c hc h1 _=>h.e7 c hc h1,h.ji,(fun c ⟨t,hm⟩=>by cases hm),h.fC,h.fD⟩
def qK (P:Program) (aJ:St):List ResultVar→(List AV→Prop)→Prop
 | [],K=>K []
 | .tmp t::rs,K=>qK P aJ rs fun l=>K (aJ.T.getD t .undef::l)
 | .cell a t::rs,K=>oI P t (aJ.T.getD a .undef) aJ.L aJ.H fun x=>qK P aJ rs fun l=>K (x::l)
def r7:List AV→AV
 | [x]=>x
 | l=> .tup l
def s5 (P:Program) (fn:Func) (aJ:St) (Q:AV→List Blk→Prop):Prop:=qK P aJ fn.results.toList fun l=>l.all jX=true∧Q (r7 l) aJ.H
theorem SN {E:Env} {P:Program} {t:TypeId} {x:AV} {L:List (Nat×List AV)} {H:List Blk} {K:AV→Prop} {v:Value} (aR:SimH E H) (bY:SimL E L) (hx:V3 E x v) (h:oI P t x L H K):
  ∃a eW,K a∧(do loadVar t (←asAddr v):Sem Value).run P E.w= .ok eW E.w∧V2 E a eW:=by
 obtain⟨a,eW,hK,aK,hv⟩:=Nt (Sub.refl L H) aR bY hx h
 refine⟨a,eW,hK,?_,hv⟩
 have: ∃lJ,v= .pointer (some lJ):=by
  cases x with
  | fx s c=>obtain⟨bl,_,rfl⟩:=hx.yT;exact⟨_,rfl⟩
  | ptr b g r c=>
   rcases(show fl E (.ptr b g r c) v from hx) with⟨_,bl,o,rfl⟩ | ⟨_,bl,_,rfl⟩<;>exact⟨_,rfl⟩
  | dr cells c=>
   have jz:bH E.w E.PA E.PF (.dr cells c) v:=hx
   cases jz;exact⟨_,rfl⟩
  | _=>exact h.elim
 obtain⟨lJ,rfl⟩:=this
 simpa[Instr.loadAt,Instr.sureAddr,asAddr] using aK
theorem Ha {P:Program} {aJ:St} {E:Env} {tmps:Array Value} (hs:tt E aJ tmps) {f:ResultVar→Sem Value} (f1: ∀t,f (.tmp t)=pure (tmps.getD t undef))
  (f2: ∀a t,f (.cell a t)=do loadVar t (←asAddr (tmps.getD a undef))): ∀(rs:List ResultVar) (K:List AV→Prop),qK P aJ rs K→
  ∃l vs,K l∧(rs.mapM f).run P E.w= .ok vs E.w∧aD (V3 E) l vs
 | [],K,h=>⟨[],[],h,rfl,aD.nil⟩
 | .tmp t::rs,K,h=>by
  obtain⟨l,vs,hK,aK,aI⟩:=Ha hs f1 f2 rs _ h
  exact⟨_,_,hK,by simp only[List.mapM_cons,f1,Sem.run_bind,Sem.run_pure,Result.andThen_ok,aK],aD.cons (hs.iq t) aI⟩
 | .cell a t::rs,K,h=>by
  obtain⟨x,eW,h2,Bb,hv⟩:=SN hs.h hs.l (hs.iq a) h
  obtain⟨l,vs,hK,aK,aI⟩:=Ha hs f1 f2 rs _ h2
  refine⟨_,_,hK,?_,aD.cons (pW hv) aI⟩
  simp only[List.mapM_cons,f2]
  rw[Sem.run_bind,Bb]
  simp only[Result.andThen_ok,Sem.run_bind,aK,Sem.run_pure]
theorem aaV (fn:Func) (tmps:Array Value): ∃f:ResultVar→Sem Value,results fn tmps=(fn.results.mapM f>>=fun vs=>pure (if h:vs.size=1 then vs[0] else .tuple vs))∧(∀t,f (.tmp t)=pure (tmps.getD t undef))∧
  ∀b t,f (.cell b t)=(asAddr (tmps.getD b undef)>>=fun a=>loadVar t a):=⟨_,rfl,fun _=>rfl,fun _ _=>rfl⟩
def tr (P:Program) (fn:Func) (Q:AV→List Blk→Prop) (ex:Exit) (aJ:St):Prop:=match ex with
 | .normal | .ret=>s5 P fn aJ Q
 | _=>False
def yK (fn:Func) (args:List AV) (H:List Blk):St:=⟨args++List.replicate (fn.ntmps - args.length) .undef,[],H⟩
theorem SC {E:Env} {a:AV} {v:Value} (h:jX a=true) (hv:V3 E a v) (br: ∀l,a≠ .tup l):V2 E.b3 a v:=by
 rw[ot br] at hv;exact hv.b3 h
theorem dz.Gz {P:Program} {f:FuncId} {fn:Func} {c:Code} {args:List AV} {H:List Blk} {Q:AV→List Blk→Prop} (hf:P.funcs[f]?=some fn) (hb:fn.body=some c) (aH:(fn.name== "runtime.NumGoroutine")=false)
  (h: ∀iJ:cB,iJ.n=H.length→WpS P c (tr P fn Q) (yK fn args H)):dz P f args H Q:=by
 refine⟨by simp[uC,hf,hb,aH],?_⟩
 intro E vs aH aR aI
 letI:cB:=⟨H.length⟩
 refine calls_of_wp hf hb (wp_mono (h ⟨H.length⟩ rfl E E {tmps:=vs.toArray++Array.replicate (fn.ntmps - vs.toArray.size) undef,defers:=[]} (Good.refl aR.fresh aH) ⟨aR,(fun t c hm=>by rw[aH t] at hm;cases hm),fun t=> ?_,?_⟩ rfl) ?_)
 ·show V3 E ((args++List.replicate (fn.ntmps - args.length) AV.undef).getD t AV.undef) _
  rcases Nat.lt_or_ge t args.length with bf | fK
  ·have h1:args[t]?=some args[t]:=List.getElem?_eq_getElem bf
   obtain⟨v,hv,aK⟩:=aI.get h1
   have EN:t<vs.length:=aI.1▸bf
   have bB:(args++List.replicate (fn.ntmps - args.length) AV.undef).getD t .undef=args[t]:=by
    rw[List.getD_eq_getElem?_getD,List.getElem?_append_left bf,h1];rfl
   have e2:(vs.toArray++Array.replicate (fn.ntmps - vs.toArray.size) undef).getD t undef=v:=by
    rw[Array.getD_eq_getD_getElem?,Array.getElem?_append_left (by simpa using EN)]
    simp[hv]
   rw[bB,e2];exact pW aK
  ·have bB:(args++List.replicate (fn.ntmps - args.length) AV.undef).getD t .undef= .undef:=by
    rw[List.getD_eq_getElem?_getD,List.getElem?_append_right fK,List.getElem?_replicate];split<;>rfl
   rw[bB];exact V3.undef _ _
 ·simp[yK,aI.1]
 ·rintro e a w ⟨hex,aJ,E',ak,hw,hg,hs,bi⟩
  have fin:s5 P fn aJ Q→a.defers=[]∧ ∃v,(results fn a.tmps).run P w= .ok v w∧ ∃r R4 H' E',(Ending.returned v)= .returned R4∧Q r H'∧E'.w=w∧(∀t,E'.mL t=none)∧SimH E' H'∧V3 E' r R4∧Step E E':=by
   intro EU
   refine⟨bi,?_⟩
   subst hw
   have hm: ∀f:ResultVar→Sem Value,(∀t,f (.tmp t)=pure (a.tmps.getD t undef))→(∀b t,f (.cell b t)=do loadVar t (←asAddr (a.tmps.getD b undef)))→ ∃l kp,(l.all jX=true∧Q (r7 l) aJ.H)∧(fn.results.mapM f).run P E'.w= .ok (List.toArray kp) E'.w∧aD (V3 E') l kp:=by
    intro f f1 f2
    obtain⟨l,kp,h1,aK,h2⟩:=Ha hs f1 f2 _ _ EU
    exact⟨l,kp,h1,by rw[Array.mapM_eq_mapM_toList,Sem.run_map,aK];rfl,h2⟩
   obtain⟨f,Wj,Wk,hf2⟩:=aaV fn a.tmps
   obtain⟨l,kp,⟨Lt,VW⟩,aK,wk⟩:=hm f Wk hf2
   refine⟨if h:kp.toArray.size=1 then kp.toArray[0] else .tuple kp.toArray,?_,r7 l,_,aJ.H,E'.b3,rfl,VW,rfl,fun _=>rfl,hs.h.b3,?_,hg.toStep⟩
   ·rw[Wj,Sem.run_bind,aK];rfl
   ·cases l with
    | nil=>
     obtain rfl:=wk.wK
     exact⟨[],rfl,aD.nil⟩
    | cons x l=>
     obtain⟨u,afy,rfl,hx,LD⟩:=wk.cons_inv
     cases l with
     | nil=>
      obtain rfl:=LD.wK
      show V3 E'.b3 x u
      have mf:jX x=true:=by simpa using Lt
      exact hx.b3 (by cases x<;>first | exact mf | (cases mf))
     | cons y l=>
      obtain⟨z,aew,rfl,bt,afn⟩:=LD.cons_inv
      have cQ: ¬(List.toArray (u::z::aew)).size=1:=by simp
      rw[dif_neg cQ]
      refine⟨_,rfl,?_⟩
      refine⟨wk.1,fun i p q LC W1=> ?_⟩
      have hv:=wk.2 i p q LC W1
      have mf:jX p=true:=List.all_eq_true.1 Lt p (List.mem_of_getElem? LC)
      have br: ∀l,p≠ .tup l:=by
       intro l e;subst e;cases mf
      exact SC mf hv br
  cases e with
  | normal=>exact fin ak
  | ret=>exact fin ak
  | exit id=>exact ak.elim
  | _=>cases hex
inductive fT (L:List (Nat×List AV)) (H:List Blk):AV→AV→Prop where
 | undef (a:AV):fT L H a .undef
 | int (k:IntKind) (n:Int):fT L H (.int k n) (.int k n)
 | bool (b:Bool):fT L H (.bool b) (.bool b)
 | str (s:ByteArray):fT L H (.str s) (.str s)
 | fW:fT L H .fW .fW
 | gp:fT L H .gp .gp
 | bC (rows:List (List AV)) (full fr en:Bool) (hw:en=true→full=true):fT L H (.bC rows full fr) (.bC rows en false)
 | dr (cells:List AV) (c:Nat):fT L H (.dr cells c) (.dr cells c)
 | fx {t c:Nat} {cells gV:List AV} (h:eK L t=some cells) (aL:cells.length=gV.length)
   (aK: ∀(j:Nat) (a b:AV),cells[j]?=some a→gV[j]?=some b→fT L H a b):fT L H (.fx t c) (.dr gV c)
 | ptr {b g r c:Nat} {blk:Blk} {row row':List AV} (hb:H[b]?=some blk) (hg:blk.bF=g) (eL:blk.rows[r]?=some row) (aL:row.length=row'.length)
   (aK: ∀(j:Nat) (a b:AV),row[j]?=some a→row'[j]?=some b→fT L H a b):fT L H (.ptr b g r c) (.dr row' c)
 | ref {b g off n:Nat} {full en:Bool} {blk:Blk} {iB:List (List AV)} (hw:en=true→full=true) (hb:H[b]?=some blk) (hg:blk.bF=g) (aH:iB.length=n) (gZ:n≤4611686018427387904) (aC:off+n≤blk.rows.length)
   (aL: ∀(i:Nat) (row row':List AV),blk.rows[off+i]?=some row→iB[i]?=some row'→row.length=row'.length)
   (aK: ∀(i j:Nat) (row row':List AV) (a c:AV),blk.rows[off+i]?=some row→iB[i]?=some row'→row[j]?=some a→row'[j]?=some c→fT L H a c):
   fT L H (.ref b g off n full) (.bC iB en false)
 | fn {f:FuncId} {caps xV:List AV} (aL:caps.length=xV.length) (aK: ∀(j:Nat) (a b:AV),caps[j]?=some a→xV[j]?=some b→fT L H a b):fT L H (.fn f caps) (.fn f xV)
def c3 (L:List (Nat×List AV)) (H:List Blk) (a b:AV):Prop:=
 (∃l fh,a= .agg l∧b= .agg fh∧aD (fT L H) l fh)∨fT L H a b
def Env.frozen (E:Env):Env:={w:=E.w,PA:=fun c=>E.PA c∨E.gM c∨E.kB c,PF:=fun _=>False,m:=fun _=>none,bF:=fun _=>0,sz:=fun _=>0,cp:=fun _=>0,mL:=fun _=>none}
theorem KH {E:Env} {H:List Blk} (h:SimH E H):SimH E.frozen [] where
 heap:=fun b c hb=>by cases hb
 e4:=fun b blk hb=>by simp at hb
 ho:=fun b hb=>by cases hb
 fresh:=fun b _=>⟨rfl,rfl⟩
 hR:=fun b cj c hb=>by cases hb
 jB:=fun t jI c hb=>by cases hb
 gN:=fun b t c hb=>by cases hb
 hS:=fun c _ ⟨b,hb⟩=>by cases hb
 ij:=fun c _ ⟨b,hb⟩=>by cases hb
 eS:=fun c hc=>hc.elim
 e0:=fun c hc=>hc.elim (h.e0 c) fun hc=>hc.elim (h.gn c) (h.g2 c)
 gn:=fun c ⟨b,hb⟩=>by cases hb
 g2:=fun c ⟨b,hb⟩=>by cases hb
theorem CT {E:Env} {a:AV} {v:Value} (h:fl E a v):cC E a v:=by
 by_cases hf: ∃f caps,a= .fn f caps
 ·obtain⟨f,caps,rfl⟩:=hf
  exact bH.v1 h
 ·rw[ra fun f c e=>hf ⟨f,c,e⟩];exact h
theorem PK {L ku:List (Nat×List AV)} {H e3:List Blk} {E:Env} (sub:Sub L H ku e3) (aR:SimH E e3) (bY:SimL E ku) {a b:AV} (h:fT L H a b):
  ∀{v:Value},cC E a v→bH E.w (fun c=>E.PA c∨E.gM c∨E.kB c) (fun _=>False) b v:=by
 induction h with
 | undef a=>intro v _;exact .undef v
 | int k n=>intro v hv;have hv:bH E.w E.PA E.PF (.int k n) v:=hv;cases hv;exact .int _ _
 | bool k=>intro v hv;have hv:bH E.w E.PA E.PF (.bool k) v:=hv;cases hv;exact .bool _
 | str k=>intro v hv;have hv:bH E.w E.PA E.PF (.str k) v:=hv;cases hv;exact .str _
 | fW=>intro v hv;have hv:bH E.w E.PA E.PF .fW v:=hv;cases hv;exact .fW
 | gp=>intro v hv;have hv:bH E.w E.PA E.PF .gp v:=hv;cases hv;exact .gp
 | bC rows full fr en hw=>
  intro v hv
  have hv:bH E.w E.PA E.PF (.bC rows full fr) v:=hv
  cases hv with
  | bC f_ gK hl cQ e9 dS=>
   exact .bC (fun c hc=>by
    have:=f_ c hc
    simp only[Bool.false_eq_true,if_false]
    split at this
    ·exact .inl (aR.eS c this)
    ·exact .inl this) gK (fun h=>hl (hw h)) cQ e9 dS
 | dr cells c=>
  intro v hv
  have hv:bH E.w E.PA E.PF (.dr cells c) v:=hv
  cases hv with
  | dr hc e9 dS=>exact .dr (.inl hc) e9 fun j a aM=>(dS j a aM).mono (fun _ _=>rfl) (fun _ h=>h.elim) (fun c hc=> .inl hc) (fun _ h=>h)
 | @fx t c cells gV hg aL aK bR=>
  intro v hv
  obtain⟨bl,hm,rfl⟩:=(show ∃bl,E.mL t=some bl∧v= .pointer (some ⟨bl,c,none⟩) from hv)
  obtain⟨Ae,a7,ty,yo,hw,aI⟩:=bY t bl hm
  obtain rfl:cells=Ae:=by have:=sub.l _ _ hg;rw[yo] at this;exact(Option.some.inj this).symm
  have key:=bH.dr (w:=E.w) (PA:=fun c=>E.PA c∨E.gM c∨E.kB c) (PF:=fun _=>False) (cells:=gV) (col:=c) (c:=bl) (o:=0) (vs:=fun j=>(a7[j]?).getD undef)
   (.inr (.inr ⟨t,hm⟩))
   (fun j aM=>by
    have bf:j<a7.size:=by have:=aI.1;simp at this;omega
    rw[Nat.zero_add]
    rw[cell_of hw (Array.getElem?_eq_getElem bf)]
    simp[Array.getElem?_eq_getElem bf])
   (fun j b aM=>by
    have bf:j<cells.length:=by have:=(List.getElem?_eq_some_iff.1 aM).1;omega
    obtain⟨u,hu,g0⟩:=aI.get (List.getElem?_eq_getElem bf)
    have:(a7[j]?).getD undef=u:=by rw[Array.getElem?_toList] at hu;rw[hu];rfl
    rw[this]
    exact bR j _ b (List.getElem?_eq_getElem bf) aM g0.up)
  rw[Nat.zero_add] at key
  exact key
 | @ptr b g r c blk row row' hb hg eL aL aK bR=>
  intro v hv
  have hb:=sub.h b blk hb
  have kc:=aR.e4 b blk hb
  obtain⟨bl,hm,rfl⟩:=V3.B0 (E:=E) (v:=v) (show V3 E (.ptr b g r c) v from hv) (kc.trans hg)
  obtain⟨blk',a7,ty,q1,dL,hw,mc,hlen,gl⟩:=aR.heap b bl hm
  obtain rfl:blk=blk':=by rw[hb] at q1;exact Option.some.inj q1
  exact bH.dr (vs:=fun j=>(a7[r*E.sz b+j]?).getD undef) (.inr (.inl ⟨b,hm⟩))
   (fun j aM=>by
    have bf:j<row.length:=by omega
    obtain⟨u,hu,_⟩:=gl.2 r j row _ eL (List.getElem?_eq_getElem bf)
    rw[cell_of hw hu,hu];rfl)
   (fun j db aM=>by
    have bf:j<row.length:=by have:=(List.getElem?_eq_some_iff.1 aM).1;omega
    obtain⟨u,hu,g0⟩:=gl.2 r j row _ eL (List.getElem?_eq_getElem bf)
    rw[hu]
    exact bR j _ db (List.getElem?_eq_getElem bf) aM g0.up)
 | @ref b g off n full en blk iB E0 hb hg aH gZ aC aL aK bR=>
  intro v hv
  have hb:=sub.h b blk hb
  have kc:=aR.e4 b blk hb
  rcases(show fl E (.ref b g off n full) v from hv) with⟨bX,_⟩ | ⟨fK,bX⟩
  ·omega
  ·rcases bX with⟨_,_,me,A,rfl⟩ | ⟨c,cap,hm,rfl,oG,ng,qg⟩
   ·subst me
    obtain rfl:iB=[]:=List.eq_nil_of_length_eq_zero aH
    exact bH.bC (rows:=[]) (PB:=fun _=>False) (sz:=0) (vs:=fun _ _=>undef) (fun _ h=>h.elim) ⟨Nat.le_refl _,Nat.zero_le _⟩ (fun _=>rfl) (fun i row h=>by simp at h) (fun h=>by simp at h) (fun i j row a h=>by simp at h)
   ·obtain⟨blk',a7,ty,q1,dL,hw,mc,hlen,gl⟩:=aR.heap b c hm
    obtain rfl:blk=blk':=by rw[hb] at q1;exact Option.some.inj q1
    subst aH
    have eL: ∀i,i<iB.length→ ∃row,blk.rows[off+i]?=some row:=fun i hi=>⟨_,List.getElem?_eq_getElem (by omega)⟩
    refine bH.bC (PB:=fun c=>E.PA c∨E.gM c∨E.kB c) (sz:=E.sz b) (vs:=fun i j=>(a7[(off+i)*E.sz b+j]?).getD undef) (fun c hc=>by simpa using hc) ⟨oG,gZ⟩ (fun h=>ng (E0 h))
     (fun i row' eY=> ?_) (fun lk=>⟨c,off*E.sz b,rfl,.inr (.inl ⟨b,hm⟩),fun i j hi aM=> ?_⟩) (fun i j row' a eY aM=> ?_)
    ·obtain⟨row,h5⟩:=eL i (List.getElem?_eq_some_iff.1 eY).1
     rw[←aL i row row' h5 eY];exact gl.1 _ row h5
    ·obtain⟨row,h5⟩:=eL i hi
     have bf:j<row.length:=by rw[gl.1 _ row h5];exact aM
     obtain⟨u,hu,_⟩:=gl.2 (off+i) j row _ h5 (List.getElem?_eq_getElem bf)
     rw[show off*E.sz b+(i*E.sz b+j)=(off+i)*E.sz b+j by rw[Nat.add_mul];omega,cell_of hw hu,hu];rfl
    ·obtain⟨row,h5⟩:=eL i (List.getElem?_eq_some_iff.1 eY).1
     have bf:j<row.length:=by rw[aL i row row' h5 eY];exact(List.getElem?_eq_some_iff.1 aM).1
     obtain⟨u,hu,g0⟩:=gl.2 (off+i) j row _ h5 (List.getElem?_eq_getElem bf)
     rw[hu]
     exact bR i j row row' _ a h5 eY (List.getElem?_eq_getElem bf) aM g0.up
 | @fn f caps xV aL aK bR=>
  intro v hv
  obtain⟨vs,rfl,aI⟩:=(show ∃vs:List Value,v= .func (.func f) #[] vs.toArray∧aD (fl E) caps vs from hv)
  exact .fn (aL▸aI.1) fun i b u hb hu=>by
   have bf:i<caps.length:=by have:=(List.getElem?_eq_some_iff.1 hb).1;omega
   exact bR i _ b (List.getElem?_eq_getElem bf) hb (CT (aI.2 i _ u (List.getElem?_eq_getElem bf) hu))
theorem PL {L ku:List (Nat×List AV)} {H e3:List Blk} {E:Env} (sub:Sub L H ku e3) (aR:SimH E e3) (bY:SimL E ku) {a b:AV} (h:c3 L H a b) {v:Value} (hv:V2 E a v):V2 E.frozen b v:=by
 rcases h with⟨l,fh,rfl,rfl,aI⟩ | h
 ·obtain⟨vs,rfl,ak⟩:=hv
  refine⟨vs,rfl,aI.1▸ak.1,fun i x u hx hu=> ?_⟩
  have bf:i<l.length:=by have:=(List.getElem?_eq_some_iff.1 hx).1;have:=aI.1;omega
  have aL:=List.getElem?_eq_getElem bf
  exact bH.v1 (E:=E.frozen) (PK sub aR bY (aI.2 i _ x aL hx) (ak.2 i _ u aL hu))
 ·by_cases hf: ∃l,a= .agg l
  ·obtain⟨l,rfl⟩:=hf
   cases h with
   | undef=>exact bH.undef v
  ·rw[o4 fun l e=>hf ⟨l,e⟩] at hv
   exact pV (bH.v1 (E:=E.frozen) (PK sub aR bY h hv))
inductive gv (H:List Blk):AV→AV→Prop where
 | int (k:IntKind) (n:Int):gv H (.int k n) (.int k n)
 | bool (b:Bool):gv H (.bool b) (.bool b)
 | str (s:ByteArray):gv H (.str s) (.str s)
 | fW:gv H .fW .fW
 | gp:gv H .gp .gp
 | bC (rows:List (List AV)) (full en:Bool) (hw:en=true→full=true):gv H (.bC rows full true) (.bC rows en true)
 | NE (full fr en:Bool) (hw:en=true→full=true):gv H (.bC [] full fr) (.bC [] en true)
 | ref {b g off n:Nat} {full en:Bool} {blk:Blk} {iB:List (List AV)} (hw:en=true→full=true) (a7:Nat→Nat→AV) (hb:H[b]?=some blk) (hg:blk.bF=g) (aH:iB.length=n) (gZ:n≤4611686018427387904) (aC:off+n≤blk.rows.length)
   (aL: ∀(i:Nat) (row row':List AV),blk.rows[off+i]?=some row→iB[i]?=some row'→row.length=row'.length)
   (aK: ∀(i j:Nat) (row:List AV) (a:AV),i<n→blk.rows[off+i]?=some row→row[j]?=some a→gv H a (a7 i j))
   (hc: ∀(i j:Nat) (row':List AV) (c:AV),iB[i]?=some row'→row'[j]?=some c→c=ko (a7 i j)):
   gv H (.ref b g off n full) (.bC iB en true)
def sa (H:List Blk) (a b:AV):Prop:=(∃l fh,a= .agg l∧b= .agg fh∧aD (gv H) l fh)∨gv H a b
def h_ (H:List Blk) (a b:AV):Prop:=(∃l fh,a= .tup l∧b= .tup fh∧aD (sa H) l fh)∨sa H a b
theorem ab3 {H:List Blk} {a b:AV} (h:gv H a b):jv b=true:=by cases h<;>rfl
theorem PN {H:List Blk} {E:Env} (aR:SimH E H) {a b:AV} (h:gv H a b):
  ∀{v:Value},cC E a v→bH E.w (fun c=>E.PF c∨E.gM c) (fun c=>E.PF c∨E.gM c) b v:=by
 induction h with
 | int k n=>intro v hv;have hv:bH E.w E.PA E.PF (.int k n) v:=hv;cases hv;exact .int _ _
 | bool k=>intro v hv;have hv:bH E.w E.PA E.PF (.bool k) v:=hv;cases hv;exact .bool _
 | str k=>intro v hv;have hv:bH E.w E.PA E.PF (.str k) v:=hv;cases hv;exact .str _
 | fW=>intro v hv;have hv:bH E.w E.PA E.PF .fW v:=hv;cases hv;exact .fW
 | gp=>intro v hv;have hv:bH E.w E.PA E.PF .gp v:=hv;cases hv;exact .gp
 | bC rows full en hw=>
  intro v hv
  have hv:bH E.w E.PA E.PF (.bC rows full true) v:=hv
  cases hv with
  | bC f_ gK hl cQ e9 dS=>exact .bC (fun c hc=>by have:=f_ c hc;simp at this ⊢;exact .inl this) gK (fun h=>hl (hw h)) cQ e9 dS
 | NE full fr en hw=>
  intro v hv
  have hv:bH E.w E.PA E.PF (.bC [] full fr) v:=hv
  cases hv with
  | bC f_ gK hl cQ e9 dS=>exact bH.bC (rows:=[]) (PB:=fun _=>False) (sz:=0) (vs:=fun _ _=>undef) (fun _ h=>h.elim) gK (fun h=>hl (hw h)) (fun i row h=>by simp at h) (fun h=>by simp at h) (fun i j row a h=>by simp at h)
 | @ref b g off n full en blk iB E0 a7 hb hg aH gZ aC aL aK hc bR=>
  intro v hv
  have kc:=aR.e4 b blk hb
  rcases(show fl E (.ref b g off n full) v from hv) with⟨bX,_⟩ | ⟨fK,bX⟩
  ·omega
  ·rcases bX with⟨_,_,me,A,rfl⟩ | ⟨c,cap,hm,rfl,oG,ng,qg⟩
   ·subst me
    obtain rfl:iB=[]:=List.eq_nil_of_length_eq_zero aH
    exact bH.bC (rows:=[]) (PB:=fun _=>False) (sz:=0) (vs:=fun _ _=>undef) (fun _ h=>h.elim) ⟨Nat.le_refl _,Nat.zero_le _⟩ (fun _=>rfl) (fun i row h=>by simp at h) (fun h=>by simp at h) (fun i j row a h=>by simp at h)
   ·obtain⟨blk',vA,ty,q1,dL,hw,mc,hlen,gl⟩:=aR.heap b c hm
    obtain rfl:blk=blk':=by rw[hb] at q1;exact Option.some.inj q1
    subst aH
    have eL: ∀i,i<iB.length→ ∃row,blk.rows[off+i]?=some row:=fun i hi=>⟨_,List.getElem?_eq_getElem (by omega)⟩
    refine bH.bC (PB:=fun c=>E.PF c∨E.gM c) (sz:=E.sz b) (vs:=fun i j=>(vA[(off+i)*E.sz b+j]?).getD undef) (fun c hc=>by simpa using hc) ⟨oG,gZ⟩ (fun h=>ng (E0 h))
     (fun i row' eY=> ?_) (fun lk=>⟨c,off*E.sz b,rfl,.inr ⟨b,hm⟩,fun i j hi aM=> ?_⟩) (fun i j row' a eY aM=> ?_)
    ·obtain⟨row,h5⟩:=eL i (List.getElem?_eq_some_iff.1 eY).1
     rw[←aL i row row' h5 eY];exact gl.1 _ row h5
    ·obtain⟨row,h5⟩:=eL i hi
     have bf:j<row.length:=by rw[gl.1 _ row h5];exact aM
     obtain⟨u,hu,_⟩:=gl.2 (off+i) j row _ h5 (List.getElem?_eq_getElem bf)
     rw[show off*E.sz b+(i*E.sz b+j)=(off+i)*E.sz b+j by rw[Nat.add_mul];omega,cell_of hw hu,hu];rfl
    ·have hi:=(List.getElem?_eq_some_iff.1 eY).1
     obtain⟨row,h5⟩:=eL i hi
     have bf:j<row.length:=by rw[aL i row row' h5 eY];exact(List.getElem?_eq_some_iff.1 aM).1
     obtain⟨u,hu,g0⟩:=gl.2 (off+i) j row _ h5 (List.getElem?_eq_getElem bf)
     have h1:=bR i j row _ hi h5 (List.getElem?_eq_getElem bf) g0.up
     have h2:=ab3 (aK i j row _ hi h5 (List.getElem?_eq_getElem bf))
     rw[hu,hc i j row' a eY aM]
     exact IS h2 h1 (fun c hc=>hc) (fun c hc=>hc)
def bZ (P:Program) (f:FuncId) (args:List AV) (t:AV):Prop:=dz P f args [] fun r e3=>h_ e3 r t
theorem JJ {P:Program} {f:FuncId} {args eh:List AV} {t:AV} {L ku:List (Nat×List AV)} {H e3:List Blk} {E:Env} {vs:List Value} (sub:Sub L H ku e3) (aR:SimH E e3) (bY:SimL E ku)
  (a3:aD (V2 E) args vs) (hs:aD (c3 L H) args eh) (h:bZ P f eh t):
  Calls P f vs.toArray E.w fun e w'=> ∃v E',e= .returned v∧E'.w=w'∧lI E E'∧V3 E' t v:=by
 have tL:aD (V2 E.frozen) eh vs:=⟨hs.1▸a3.1,fun i x u hx hu=>by
  have bf:i<args.length:=by have:=(List.getElem?_eq_some_iff.1 hx).1;have:=hs.1;omega
  have aL:=List.getElem?_eq_getElem bf
  exact PL sub aR bY (hs.2 i _ x aL hx) (a3.2 i _ u aL hu)⟩
 refine(h.2 E.frozen vs (fun _=>rfl) (KH aR) tL).mono ?_
 rintro e w' ⟨r,v,H',E1,rfl,aK,rfl,aH,fB,hv,bm⟩
 let N:Nat→Prop:=fun c=>E1.PF c∨E1.gM c
 have kx: ∀c,N c→E.w.heap.size≤c∧c<E1.w.heap.size:=by
  rintro c (hc | hc)
  ·exact⟨(bm.fD c hc).elim (fun h=>h.elim) id,fB.e0 c (fB.eS c hc)⟩
  ·exact⟨(bm.qu c hc).elim (fun⟨b,hb⟩=>by cases hb) id,fB.gn c hc⟩
 have oE: ∀c,c<E.w.heap.size→E1.w.heap[c]?=E.w.heap[c]?:=fun c hc=>bm.e7 c hc (fun⟨b,hb⟩=>by cases hb) (fun⟨b,hb⟩=>by cases hb)
 let E':Env:={E with w:=E1.w,PA:=fun c=>E.PA c∨N c,PF:=fun c=>E.PF c∨N c}
 have ak:lI E E':=
  {step:=⟨⟨fun c hc=> .inl hc,fun c hc=> .inl hc,fun c hc=>oE c (aR.e0 c hc),fun c hc=>oE c (aR.e0 c (aR.eS c hc)),fun _=>Nat.le_refl _,fun _ _ h _=>⟨h,rfl,rfl⟩,fun _ _ h=>h⟩,
    bm.os,bm.tape,bm.output,bm.size,fun c hc _ _=>oE c hc,fun _ _ h=> .inl h,fun _ h=> .inl h,fun c hc=>hc.elim .inl (fun h=> .inr (kx c h).1),fun c hc=>hc.elim .inl (fun h=> .inr (kx c h).1)⟩
   m:=rfl,mL:=rfl,bF:=rfl,sz:=rfl,cp:=rfl
   e7:=oE
   fC:=fun c hc=>hc.elim .inl (fun h=> .inr (kx c h))
   eS:=fun c hc=>hc.elim (fun h=> .inl (aR.eS c h)) .inr}
 have up: ∀{b:AV} {u:Value},bH E1.w N N b u→cC E' b u:=fun h=>bH.v1 (E:=E') (h.mono (fun _ _=>rfl) (fun _ _=>rfl) (fun c hc=> .inr hc) (fun c hc=> .inr hc))
 have fj: ∀{a b:AV} {u:Value},gv H' a b→cC E1 a u→cC E' b u:=fun a3 hu=>up (PN fB a3 hu)
 have fO: ∀{a b:AV} {u:Value},sa H' a b→V2 E1 a u→V2 E' b u:=by
  rintro a b u (⟨l,fh,rfl,rfl,aI⟩ | h) hu
  ·obtain⟨kp,rfl,ak⟩:=hu
   refine⟨kp,rfl,aI.1▸ak.1,fun i x y hx bt=> ?_⟩
   have bf:i<l.length:=by have:=(List.getElem?_eq_some_iff.1 hx).1;have:=aI.1;omega
   have aL:=List.getElem?_eq_getElem bf
   exact fj (aI.2 i _ x aL hx) (ak.2 i _ y aL bt)
  ·have:cC E1 a u:=by cases h<;>exact hu
   exact pV (fj h this)
 have fu: ∀{a b:AV} {u:Value},h_ H' a b→V3 E1 a u→V3 E' b u:=by
  rintro a b u (⟨l,fh,rfl,rfl,aI⟩ | h) hu
  ·obtain⟨kp,rfl,ak⟩:=hu
   refine⟨kp,rfl,aI.1▸ak.1,fun i x y hx bt=> ?_⟩
   have bf:i<l.length:=by have:=(List.getElem?_eq_some_iff.1 hx).1;have:=aI.1;omega
   have aL:=List.getElem?_eq_getElem bf
   exact fO (aI.2 i _ x aL hx) (ak.2 i _ y aL bt)
  ·have:V2 E1 a u:=by
    rcases h with⟨l,fh,rfl,rfl,aI⟩ | h
    ·exact hu
    ·cases h<;>exact hu
   exact pW (fO h this)
 exact⟨v,E',rfl,rfl,ak,fu aK hv⟩
def C_:AV→Bool
 | .agg _ | .tup _ | .fn _ _=>false
 | _=>true
def yV (fn:Fn) (first:Array Operand) (caps:List AV) (K:AV→Prop):Prop:=match fn with
 | .func f=>if first.isEmpty=true∧caps.all C_=true then K (.fn f caps) else False
 | _=>False
def eQ:AV→Bool
 | .tup _=>false
 | _=>true
def lM (x:AV) (K:FuncId→List AV→Prop):Prop:=match x with
 | .fn f caps=>K f caps
 | _=>False
def ox (P:Program) (f:FuncId) (args:List AV) (L:List (Nat×List AV)) (H:List Blk) (K:AV→Prop):Prop:=
 args.all eQ=true∧ ∃eh t,aD (c3 L H) args eh∧bZ P f eh t∧K t
def DU (P:Program) (c:Call) (bQ:Operand→AV) (L:List (Nat×List AV)) (H:List Blk) (K:AV→Prop):Prop:=match c.callee with
 | .builtin .len=>(match c.args.toList,c.argTypes.toList with
  | [x],[t]=>eR (jW P t (bQ x)) (rO (bQ x) K)
  | _,_=>False)
 | .value f=>lM (bQ f) fun g caps=>ox P g (c.args.toList.map bQ++caps) L H K
 | _=>False
def sm (P:Program) (o:Oper) (bQ:Operand→AV) (L:List (Nat×List AV)) (H:List Blk) (K:AV→Prop):Prop:=match o.op with
 | .move x=>K (bQ x)
 | .assign x=>K (bQ x)
 | .pick c a b=>ov (bQ c) fun z=>xP z (K (bQ a)) (K (bQ b))
 | .build t ps=>eR (ps.toList.all fun p=>eQ (bQ p.2)) (C6 P t (ps.toList.map fun p=>(p.1,bQ p.2)) K)
 | .buildSlice t n ps=>eR (ps.toList.all fun p=>eQ (bQ p.2)) (vy P t n (ps.toList.map fun p=>(p.1,bQ p.2)) K)
 | .load t a=>oI P t (bQ a) L H K
 | .nilCheck x=>Gt (bQ x) K
 | .binOp op t x y _=>sf P op t (bQ x) (bQ y) (qw y) K
 | .unOp op _ x=>CD op (bQ x) K
 | .convert s d x=>Dv P s d (bQ x) K
 | .makeFunc fn first caps=>yV fn first (caps.toList.map bQ) K
 | .fieldAddr t x f=>D2 P t (bQ x) f K
 | .indexAddr t x i=>wy P t (bQ x) (bQ i) H K
 | .index t x i=>E8 P t (bQ x) (bQ i) K
 | .slice t x lo hi mx=>(match mx with
  | none=>uX P t (bQ x) (lo.map bQ) (hi.map bQ) H K
  | some _=>False)
 | .extract x i=>DY (bQ x) i K
 | .call c=>DU P c bQ L H K
 | _=>False
theorem IU {P:Program} {o:Oper} {a:Act} {next:Act→World→Prop} {Q:Exit→Act→World→Prop} {s:Sem Value} {w w':World} {u:Value} (h:s.run P w= .ok u w') (k:next (a.put o.dst u) w'):
  o.upon P a next Q ((do pure (Next.value (←s)):Sem Next).run P w):=by
 rw[Sem.run_bind,h];exact k
theorem parts_eq (ps:Array (Nat×Operand)) (a:Act):(ps.toList.map fun p=>(p.1,a.eval p.2)).toArray=ps.map fun(i,x)=>(i,a.eval x):=by
 apply Array.ext'
 rw[Array.toList_map]
theorem GG {E:Env} {a:Act} {T:List AV} (cq: ∀t,V3 E (T.getD t .undef) (a.tmps.getD t undef)) (ps:List (Nat×Operand)) (aH: ∀p∈ps,∀l,cm T p.2≠ .tup l):
  aD (fun(x:Nat×AV) (y:Nat×Value)=>x.1=y.1∧V2 E x.2 y.2) (ps.map fun p=>(p.1,cm T p.2)) (ps.map fun p=>(p.1,a.eval p.2)):=by
 refine⟨by simp,fun i x y hx bt=> ?_⟩
 rw[List.getElem?_map] at hx bt
 cases aI:ps[i]? with
 | none=>simp[aI] at hx
 | some p=>
  simp[aI] at hx bt
  subst hx;subst bt
  refine⟨rfl,?_⟩
  have:=opv_rel cq p.2
  rwa [ot (aH p (List.mem_of_getElem? aI))] at this
theorem Jm {E:Env} {a:Act} {T:List AV} (cq: ∀t,V3 E (T.getD t .undef) (a.tmps.getD t undef)) (xs:List Operand) (aH: ∀x∈xs,∀l,cm T x≠ .tup l):
  aD (V2 E) (xs.map (cm T)) (xs.map a.eval):=by
 refine⟨by simp,fun i x y hx bt=> ?_⟩
 rw[List.getElem?_map] at hx bt
 cases aI:xs[i]? with
 | none=>simp[aI] at hx
 | some p=>
  simp[aI] at hx bt
  subst hx;subst bt
  have:=opv_rel cq p
  rwa [ot (aH p (List.mem_of_getElem? aI))] at this
theorem wN {a:AV} (h:eQ a=true): ∀l,a≠ .tup l:=by
 intro l e;subst e;cases h
theorem N0 {E:Env} {a:Act} {T:List AV} (cq: ∀t,V3 E (T.getD t .undef) (a.tmps.getD t undef)) (x:Option Operand):
  zW E (x.map (cm T)) (x.map a.eval):=by
 cases x with
 | none=>trivial
 | some x=>exact opv_rel cq x
theorem JK {E:Env} {a:Act} {T:List AV} (cq: ∀t,V3 E (T.getD t .undef) (a.tmps.getD t undef)) {f:Operand} {g:FuncId} {caps:List AV} (h:cm T f= .fn g caps):
  ∃vs:List Value,a.eval f= .func (.func g) #[] vs.toArray∧aD (V2 E) caps vs:=by
 have:=opv_rel cq f
 rw[h] at this
 obtain⟨vs,e,aI⟩:=(show ∃vs:List Value,a.eval f= .func (.func g) #[] vs.toArray∧aD (fl E) caps vs from this)
 exact⟨vs,e,aI.mono fun _ _ k=>pV (CT k)⟩
theorem aa5 {P:Program} {f:FuncId} {w:World} {args:Array Value} (h:uC P f=true):(callFunc f args).run P w= .ok (.enter f args) w:=by
 unfold uC at h
 cases hf:P.funcs[f]? with
 | none=>simp[hf] at h
 | some fn=>
  simp[hf] at h
  obtain⟨h1,h2⟩:=h
  simp[callFunc,hf,h1]
  cases hb:fn.body with
  | none=>simp[hb] at h2
  | some c=>intro bX;cases bX
theorem O3 {P:Program} {c:Call} {a:Act} {ty:TypeId} {f:Operand} {g:FuncId} {vs:List Value} {w:World} (hc:c.callee= .value f) (hf:a.eval f= .func (.func g) #[] vs.toArray) (h:uC P g=true):
  (do let d ←resolve a.eval c ty;invoke d.target d.args:Sem Next).run P w= .ok (.enter g (c.args.toList.map a.eval++vs).toArray) w:=by
 unfold resolve
 rw[hc]
 simp only[hf,Deferred.ofValue,Sem.run_bind,Sem.run_pure,Result.andThen_ok,invoke]
 rw[aa5 h]
 simp
def xI (E:Env) (o:Oper) (a:Act) (K:AV→Prop):Act→World→Prop:=fun ia w'=> ∃v eW E',K v∧E'.w=w'∧lI E E'∧V3 E' v eW∧ia=a.put o.dst eW
set_option maxHeartbeats 4000000 in
theorem Kk {P:Program} {o:Oper} {a:Act} {T:List AV} {E:Env} {L ku:List (Nat×List AV)} {H e3:List Blk} {K:AV→Prop} {Q:Exit→Act→World→Prop}
  (cq: ∀t,V3 E (T.getD t .undef) (a.tmps.getD t undef)) (sub:Sub L H ku e3) (aR:SimH E e3) (bY:SimL E ku) (h:sm P o (cm T) L H K):o.wp P a E.w (xI E o a K) Q:=by
 have fin: ∀{s:Sem Value},(execOp a.eval o=(do pure (Next.value (←s))))→(∃r u E',K r∧s.run P E.w= .ok u E'.w∧lI E E'∧V3 E' r u)→o.wp P a E.w (xI E o a K) Q:=by
  rintro s hs ⟨r,u,E',hK,aK,ak,hv⟩
  unfold Oper.wp
  rw[hs]
  exact IU aK ⟨r,u,E',hK,rfl,ak,hv,rfl⟩
 have o_: ∀{s:Sem Value},(execOp a.eval o=(do pure (Next.value (←s))))→(∃r u,K r∧s.run P E.w= .ok u E.w∧V3 E r u)→o.wp P a E.w (xI E o a K) Q:=by
  rintro s hs ⟨r,u,hK,aK,hv⟩
  exact fin hs ⟨r,u,E,hK,aK,lI.refl aR,hv⟩
 have yW: ∀x,execOp a.eval o=pure (.value (a.eval x))→K (cm T x)→o.wp P a E.w (xI E o a K) Q:=by
  intro x hs hK
  unfold Oper.wp
  rw[hs]
  exact⟨_,_,E,hK,rfl,lI.refl aR,opv_rel cq x,rfl⟩
 obtain⟨dst,op,ty,pos,after,guard⟩:=o
 cases op with
 | move x=>exact yW x rfl h
 | assign x=>exact yW x rfl h
 | pick c x y=>
  obtain⟨b,hb,h1,h2⟩:=z4 (show ov (cm T c) fun z=>xP z (K (cm T x)) (K (cm T y)) from h)
  have hv:=opv_rel cq c
  rw[hb] at hv
  have he:a.eval c= .bool b:=V3.re hv
  cases b with
  | true=>exact yW x (by simp[execOp,he,asBool]) (h1 rfl)
  | false=>exact yW y (by simp[execOp,he,asBool]) (h2 rfl)
 | build t ps=>
  obtain⟨aH,h⟩:=pE h
  have:=S8 (P:=P) (GG cq ps.toList fun p aI=>wN (List.all_eq_true.1 aH p aI)) h
  exact o_ (s:=Instr.build t (ps.toList.map fun p=>(p.1,a.eval p.2)).toArray) (by rw[parts_eq];rfl) this
 | buildSlice t n ps=>
  obtain⟨aH,h⟩:=pE h
  have:=JE (P:=P) aR (GG cq ps.toList fun p aI=>wN (List.all_eq_true.1 aH p aI)) h
  exact fin (s:=Instr.buildSlice t n (ps.toList.map fun p=>(p.1,a.eval p.2)).toArray) (by rw[parts_eq];rfl) this
 | load t x=>
  obtain⟨r,u,hK,aK,hv⟩:=Nt sub aR bY (opv_rel cq x) h
  exact o_ (s:=Instr.loadAt t (a.eval x)) rfl ⟨r,u,hK,aK,pW hv⟩
 | nilCheck x=>
  have hx:=opv_rel cq x
  have h:Gt (cm T x) K:=h
  have key: ∀lJ,a.eval x= .pointer (some lJ)→K (cm T x)→Oper.wp P ⟨dst,.nilCheck x,ty,pos,after,guard⟩ a E.w (xI E ⟨dst,.nilCheck x,ty,pos,after,guard⟩ a K) Q:=by
   intro lJ he hK
   exact yW x (by simp[execOp,he]) hK
  cases hP:cm T x with
  | fx s c=>
   rw[hP] at hx h
   obtain⟨bl,_,e⟩:=hx.yT
   exact key _ e (by rw[hP];exact h)
  | ptr b g r c=>
   rw[hP] at hx h
   rcases(show fl E (.ptr b g r c) _ from hx) with⟨_,bl,o,e⟩ | ⟨_,bl,_,e⟩<;>exact key _ e (by rw[hP];exact h)
  | dr cells c=>
   rw[hP] at hx h
   have jz:bH E.w E.PA E.PF (.dr cells c) (a.eval x):=hx
   generalize hv:a.eval x=v at jz
   cases jz;exact key _ hv (by rw[hP];exact h)
  | _=>rw[hP] at h;exact h.elim
 | binOp op t x y ty2=>
  have E4:qw y=true→a.eval y= .slice none 0 0:=by
   intro bX
   unfold qw at bX
   split at bX
   ·rfl
   ·cases bX
  exact o_ (s:=do eqGuard op t x y (a.eval x) (a.eval y);binOp op t (a.eval x) (a.eval y)) rfl (SY (opv_rel cq x) (opv_rel cq y) E4 h)
 | unOp op t x=>exact o_ (s:=Op.unary op (a.eval x)) rfl (aeu (opv_rel cq x) h)
 | convert s d x=>exact o_ (s:=Go.convert s d (a.eval x)) rfl (TQ (opv_rel cq x) h)
 | makeFunc fn first caps=>
  replace h:yV fn first (caps.toList.map (cm T)) K:=h
  cases fn with
  | func f=>
   replace h:if first.isEmpty=true∧(caps.toList.map (cm T)).all C_=true then K (.fn f (caps.toList.map (cm T))) else False:=h
   split at h
   ·rename_i hc
    obtain⟨h1,h2⟩:=hc
    have hf:first= #[]:=by simpa using h1
    subst hf
    refine o_ (s:=Instr.makeFunc (.func f) (Array.map a.eval #[]) (caps.map a.eval)) rfl ⟨_,.func (.func f) #[] (caps.map a.eval),h,by simp[Instr.makeFunc],(caps.toList.map a.eval),by rw[←Array.toList_map,Array.toArray_toList],by simp,fun i x y hx bt=> ?_⟩
    rw[List.getElem?_map] at hx bt
    cases aI:caps.toList[i]? with
    | none=>simp[aI] at hx
    | some p=>
     simp[aI] at hx bt
     subst hx;subst bt
     have hv:=opv_rel cq p
     have fg:C_ (cm T p)=true:=List.all_eq_true.1 h2 _ (List.mem_map.2 ⟨p,List.mem_of_getElem? aI,rfl⟩)
     cases ak:cm T p<;>rw[ak] at hv fg<;>first | exact hv | cases fg
   ·exact h.elim
  | _=>exact h.elim
 | fieldAddr t x f=>exact o_ (s:=Instr.fieldAt t (a.eval x) f) rfl (Ut (opv_rel cq x) h)
 | indexAddr t x i=>exact o_ (s:=Instr.indexAt t (a.eval x) (a.eval i)) rfl (Xq sub aR (opv_rel cq x) (opv_rel cq i) h)
 | index t x i=>exact o_ (s:=Instr.index t (a.eval x) (a.eval i)) rfl (Xz (opv_rel cq x) (opv_rel cq i) h)
 | slice t x lo hi mx=>
  cases mx with
  | none=>exact o_ (s:=Instr.sliceAt t (a.eval x) (lo.map a.eval) (hi.map a.eval) none) rfl (abq sub aR (opv_rel cq x) (N0 cq lo) (N0 cq hi) h)
  | some m=>exact h.elim
 | extract x i=>exact o_ (s:=Instr.extract (a.eval x) i) rfl (Uo (opv_rel cq x) h)
 | call c=>
  have h:DU P c (cm T) L H K:=h
  obtain⟨callee,args,argTypes⟩:=c
  cases callee with
  | builtin b=>
   cases b with
   | len=>
    have h:(match args.toList,argTypes.toList with
     | [x],[t]=>eR (jW P t (cm T x)) (rO (cm T x) K)
     | _,_=>False):=h
    split at h
    ·rename_i x t h1 h2
     obtain⟨WJ,WK⟩:=pE h
     obtain rfl:args= #[x]:=by rw[←Array.toArray_toList (xs:=args),h1]
     obtain rfl:argTypes= #[t]:=by rw[←Array.toArray_toList (xs:=argTypes),h2]
     obtain⟨r,u,hK,aK,hv⟩:=Zq (P:=P) (ty:=ty) (opv_rel cq x) WJ WK
     unfold Oper.wp
     have:(execOp a.eval ⟨dst,.call ⟨.builtin .len,#[x],#[t]⟩,ty,pos,after,guard⟩).run P E.w= .ok (.value u) E.w:=by
      simp only[execOp,resolve,Sem.run_bind,Sem.run_pure,Result.andThen_ok,invoke,builtin]
      have e:Array.map a.eval #[x]= #[a.eval x]:=by simp
      rw[e,aK];rfl
     rw[this]
     exact⟨r,u,E,hK,rfl,lI.refl aR,hv,rfl⟩
    ·exact h.elim
   | _=>exact h.elim
  | value f=>
   have h:lM (cm T f) fun g caps=>ox P g (args.toList.map (cm T)++caps) L H K:=h
   cases hf:cm T f with
   | fn g caps=>
    rw[hf] at h
    obtain⟨aH,eh,t,hs,pj,hK⟩:=(show ox P g (args.toList.map (cm T)++caps) L H K from h)
    obtain⟨vs,he,tQ⟩:=JK cq hf
    unfold Oper.wp
    rw[show execOp a.eval ⟨dst,.call ⟨.value f,args,argTypes⟩,ty,pos,after,guard⟩=(do let d ←resolve a.eval ⟨.value f,args,argTypes⟩ ty;invoke d.target d.args) from rfl]
    rw[O3 (P:=P) (ty:=ty) (w:=E.w) (c:=⟨.value f,args,argTypes⟩) rfl he pj.1]
    have Es:aD (V2 E) (args.toList.map (cm T)++caps) (args.toList.map a.eval++vs):=
     aD.append (Jm cq args.toList fun x hx=>wN (List.all_eq_true.1 aH _ (by simp;exact .inl ⟨x,by simpa using hx,rfl⟩))) tQ
    refine(JJ sub aR bY Es hs pj).mono ?_
    rintro e w' ⟨v,E',rfl,rfl,ak,hv⟩
    exact⟨t,v,E',hK,rfl,ak,hv,rfl⟩
   | _=>rw[hf] at h;exact h.elim
  | _=>exact h.elim
 | _=>exact h.elim
theorem T0 (w:World) (o:Obj) (c:Nat) (h:c<w.heap.size):(w.drew.alloc o).heap[c]?=w.heap[c]?:=sb w.drew o c h
structure m9 (w w':World) (o:Obj):Prop where
 os:w'.os=w.os
 tape:w'.tape=w.tape
 output:w'.output=w.output
 size:w'.heap.size=w.heap.size+1
 mS: ∀c,c<w.heap.size→w'.heap[c]?=w.heap[c]?
 new:w'.heap[w.heap.size]?=some o
theorem m9.alloc (w:World) (o:Obj):m9 w (w.alloc o) o:=⟨rfl,rfl,rfl,by simp,fun c hc=>sb w o c hc,Jg w o⟩
theorem m9.TZ (w:World) (o:Obj):m9 w (w.drew.alloc o) o:=⟨rfl,rfl,rfl,by simp,fun c hc=>T0 w o c hc,Jg w.drew o⟩
theorem SimH.ext {E:Env} {H H':List Blk} (h:SimH E H) (hs: ∀(b:Nat) (blk:Blk),H[b]?=some blk→H'[b]?=some blk) (aL:H.length≤H'.length) (hg: ∀(b:Nat) (blk:Blk),H.length≤b→H'[b]?=some blk→blk.bF=0):SimH E H':=
 {h with
  heap:=fun b c hb=>by
   obtain⟨blk,a7,ty,q1,q⟩:=h.heap b c hb
   exact⟨blk,a7,ty,hs b blk q1,q⟩
  e4:=fun b blk hb=>by
   rcases Nat.lt_or_ge b H.length with bf | fK
   ·have h1:=List.getElem?_eq_getElem bf
    have h2:=hs b _ h1
    rw[hb] at h2
    cases h2
    exact h.e4 b _ h1
   ·rw[(h.fresh b fK).2,hg b blk fK hb]
  ho:=fun b hb=>by
   obtain⟨blk,q1,q⟩:=h.ho b hb
   exact⟨blk,hs b blk q1,q⟩
  fresh:=fun b hb=>h.fresh b (Nat.le_trans aL hb)}
theorem SimH.snoc {E:Env} {H:List Blk} (h:SimH E H) {blk:Blk} (hg:blk.bF=0):SimH E (H++[blk]):=
 h.ext (fun b x hb=>by rw[List.getElem?_append_left (List.getElem?_eq_some_iff.1 hb).1];exact hb) (by simp) (fun b x hb hx=>by
  rw[List.getElem?_append_right hb] at hx
  have:b - H.length=0:=by
   rcases Nat.eq_zero_or_pos (b - H.length) with q | q
   ·exact q
   ·rw[List.getElem?_eq_none (by simp;omega)] at hx;cases hx
  rw[this] at hx;cases hx;exact hg)
theorem SimL.cons {E:Env} {L:List (Nat×List AV)} (h:SimL E L) {t:Nat} {cells:List AV} (aH:E.mL t=none):SimL E ((t,cells)::L):=fun s c hm=>by
 have:s≠t:=fun e=>by subst e;rw[aH] at hm;cases hm
 simp only[eK,if_neg this]
 exact h s c hm
theorem NO {E:Env} {H:List Blk} {L:List (Nat×List AV)} {w':World} {a7:Array Value} {ty:TypeId} {t:Nat} {cells:List AV} (aR:SimH E H) (bY:SimL E L) (hw:m9 E.w w' (.cells a7 ty (0,0)))
  (br:eK L t=some cells) (hm:E.mL t=none) (hc:aD (cC E.b3) cells a7.toList):
  ∃E',E'.w=w'∧Step E E'∧SimH E' H∧SimL E' L∧V3 E' (.fx t 0) (.pointer (some ⟨E.w.heap.size,0,none⟩))∧E'.m=E.m∧(∀s,s≠t→E'.mL s=E.mL s):=by
 let E':Env:={E with w:=w',mL:=fun s=>if s=t then some E.w.heap.size else E.mL s}
 have bm:Step E E':=
  {le:=⟨fun _ h=>h,fun _ h=>h,fun c hc=>hw.mS c (aR.e0 c hc),fun c hc=>hw.mS c (aR.e0 c (aR.eS c hc)),fun _=>Nat.le_refl _,fun _ _ h _=>⟨h,rfl,rfl⟩,fun s c h=>by
    show(if s=t then _ else _)=_
    rw[if_neg (fun e=>by subst e;rw[hm] at h;cases h)];exact h⟩
   os:=hw.os,tape:=hw.tape,output:=hw.output
   size:=by show E.w.heap.size≤w'.heap.size;rw[hw.size];omega
   e7:=fun c hc _ _=>hw.mS c hc
   ji:=fun _ _ h=> .inl h
   jA:=fun c ⟨s,hs⟩=>by
    have hs:(if s=t then some E.w.heap.size else E.mL s)=some c:=hs
    split at hs
    ·cases hs;exact .inr (Nat.le_refl _)
    ·exact .inl ⟨s,hs⟩
   fC:=fun _ h=> .inl h
   fD:=fun _ h=> .inl h}
 have hml: ∀s c,E'.mL s=some c→(s=t∧c=E.w.heap.size)∨(s≠t∧E.mL s=some c):=by
  intro s c hs
  have hs:(if s=t then some E.w.heap.size else E.mL s)=some c:=hs
  split at hs
  ·rename_i e;cases hs;exact .inl ⟨e,rfl⟩
  ·rename_i e;exact .inr ⟨e,hs⟩
 have ke:=aR.gn
 have kf:=aR.g2
 refine⟨E',rfl,bm,?_,?_,⟨E.w.heap.size,by show(if t=t then _ else _)=_;rw[if_pos rfl],rfl⟩,rfl,fun s hs=>if_neg hs⟩
 ·exact{
   heap:=fun b c hb=>by
    obtain⟨blk,dx,jJ,q1,dL,q2,q3,q4,cH,cV⟩:=aR.heap b c hb
    refine⟨blk,dx,jJ,q1,dL,?_,q3,q4,cH,fun i j row a aK aM=> ?_⟩
    ·show w'.heap[c]?=_;rw[hw.mS c (ke c ⟨b,hb⟩)];exact q2
    ·obtain⟨u,hu,eY⟩:=cV i j row a aK aM
     exact⟨u,hu,eY.le bm.le.b3⟩
   e4:=aR.e4
   ho:=aR.ho
   fresh:=aR.fresh
   hR:=aR.hR
   jB:=fun s s' c h1 h2=>by
    rcases hml s c h1 with⟨d1,bB⟩ | ⟨_,ei⟩<;>rcases hml s' c h2 with⟨d2,e2⟩ | ⟨_,ih⟩
    ·rw[d1,d2]
    ·have:=kf c ⟨s',ih⟩;omega
    ·have:=kf c ⟨s,ei⟩;omega
    ·exact aR.jB s s' c ei ih
   gN:=fun b s c h1 h2=>by
    rcases hml s c h2 with⟨rfl,rfl⟩ | ⟨_,h2⟩
    ·have:=ke _ ⟨b,h1⟩;omega
    ·exact aR.gN b s c h1 h2
   hS:=aR.hS
   ij:=fun c hc ⟨s,hs⟩=>by
    rcases hml s c hs with⟨rfl,rfl⟩ | ⟨_,hs⟩
    ·have:=aR.e0 _ hc;omega
    ·exact aR.ij c hc ⟨s,hs⟩
   eS:=aR.eS
   e0:=fun c hc=>Nat.lt_of_lt_of_le (aR.e0 c hc) bm.size
   gn:=fun c hc=>Nat.lt_of_lt_of_le (ke c hc) bm.size
   g2:=fun c ⟨s,hs⟩=>by
    rcases hml s c hs with⟨rfl,rfl⟩ | ⟨_,hs⟩
    ·show _<w'.heap.size;rw[hw.size];omega
    ·exact Nat.lt_of_lt_of_le (kf c ⟨s,hs⟩) bm.size}
 ·intro s c hs
  rcases hml s c hs with⟨rfl,rfl⟩ | ⟨_,hs⟩
  ·exact⟨cells,a7,ty,br,hw.new,hc.mono fun _ _ k=>k.le bm.le.b3⟩
  ·obtain⟨gV,dx,jJ,q1,q2,q3⟩:=bY s c hs
   exact⟨gV,dx,jJ,q1,by show w'.heap[c]?=_;rw[hw.mS c (kf c ⟨s,hs⟩)];exact q2,q3.mono fun _ _ k=>k.le bm.le.b3⟩
theorem wJ {E:Env} {H H':List Blk} {L:List (Nat×List AV)} {w':World} {a7:Array Value} {ty:TypeId} {b cap:Nat} {blk:Blk} (aR:SimH E H) (bY:SimL E L) (hw:m9 E.w w' (.cells a7 ty (0,0)))
  (hb:H'[b]?=some blk) (aC: ∀cj,cj≠b→H'[cj]?=H[cj]?) (hlen:b<H.length→H'.length=H.length) (A4:H.length≤H'.length)
  (kc:(E.m b=none∧blk.bF=E.bF b)∨E.bF b<blk.bF) (mc:a7.size=cap*blk.sz) (gK:blk.rows.length≤cap)
  (aK:vm E blk.sz blk.rows a7):
  ∃E',E'.w=w'∧Step E E'∧SimH E' H'∧SimL E' L∧E'.bF b=blk.bF∧E'.m b=some (some E.w.heap.size)∧E'.sz b=blk.sz∧E'.cp b=cap∧(∀cj,cj≠b→E'.m cj=E.m cj)∧E'.mL=E.mL:=by
 let E':Env:={E with w:=w',m:=fun cj=>if cj=b then some (some E.w.heap.size) else E.m cj,bF:=fun cj=>if cj=b then blk.bF else E.bF cj,sz:=fun cj=>if cj=b then blk.sz else E.sz cj,cp:=fun cj=>if cj=b then cap else E.cp cj}
 have bm:Step E E':=
  {le:=⟨fun _ h=>h,fun _ h=>h,fun c hc=>hw.mS c (aR.e0 c hc),fun c hc=>hw.mS c (aR.e0 c (aR.eS c hc)),fun cj=>by
     show _≤(if cj=b then _ else _)
     split
     ·rename_i e;subst e;rcases kc with⟨_,e⟩ | e<;>omega
     ·exact Nat.le_refl _,fun cj x hx hg=>by
     have pk:(if cj=b then blk.bF else E.bF cj)=E.bF cj:=hg
     have ck:cj≠b:=fun e=>by
      subst e
      rw[if_pos rfl] at pk
      rcases kc with⟨aH,_⟩ | e
      ·rw[aH] at hx;cases hx
      ·omega
     refine⟨?_,?_,?_⟩
     ·show(if cj=b then _ else _)=_;rw[if_neg ck];exact hx
     ·show(if cj=b then _ else _)=_;rw[if_neg ck]
     ·show(if cj=b then _ else _)=_;rw[if_neg ck],fun _ _ h=>h⟩
   os:=hw.os,tape:=hw.tape,output:=hw.output
   size:=by show E.w.heap.size≤w'.heap.size;rw[hw.size];omega
   e7:=fun c hc _ _=>hw.mS c hc
   ji:=fun s c hs=>by
    have hs:(if s=b then some (some E.w.heap.size) else E.m s)=some (some c):=hs
    split at hs
    ·cases hs;exact .inr (Nat.le_refl _)
    ·exact .inl hs
   jA:=fun _ h=> .inl h
   fC:=fun _ h=> .inl h
   fD:=fun _ h=> .inl h}
 have hm: ∀s c,E'.m s=some (some c)→(s=b∧c=E.w.heap.size)∨(s≠b∧E.m s=some (some c)):=by
  intro s c hs
  have hs:(if s=b then some (some E.w.heap.size) else E.m s)=some (some c):=hs
  split at hs
  ·rename_i e;cases hs;exact .inl ⟨e,rfl⟩
  ·rename_i e;exact .inr ⟨e,hs⟩
 have ke:=aR.gn
 have kf:=aR.g2
 have cQ: ∀s,s≠b→E'.sz s=E.sz s:=fun s hs=>if_neg hs
 have qg: ∀s,s≠b→E'.cp s=E.cp s:=fun s hs=>if_neg hs
 have Be:E'.sz b=blk.sz:=if_pos rfl
 have Ez:E'.cp b=cap:=if_pos rfl
 have Le:E'.bF b=blk.bF:=if_pos rfl
 refine⟨E',rfl,bm,?_,?_,Le,if_pos rfl,Be,Ez,fun cj dZ=>if_neg dZ,rfl⟩
 ·exact{
   heap:=fun s c hs=>by
    rcases hm s c hs with⟨rfl,rfl⟩ | ⟨ck,hs⟩
    ·refine⟨blk,a7,ty,hb,Be,hw.new,by rw[Ez,Be];exact mc,by rw[Ez];exact gK,?_⟩
     rw[Be]
     exact⟨aK.1,fun i j row a h1 h2=>by obtain⟨u,hu,eY⟩:=aK.2 i j row a h1 h2;exact⟨u,hu,eY.le bm.le.b3⟩⟩
    ·obtain⟨blk',dx,jJ,q1,dL,q2,q3,q4,cH,cV⟩:=aR.heap s c hs
     refine⟨blk',dx,jJ,by rw[aC s ck];exact q1,by rw[cQ s ck];exact dL,?_,by rw[qg s ck,cQ s ck];exact q3,by rw[qg s ck];exact q4,by rw[cQ s ck];exact cH,fun i j row a aK aM=> ?_⟩
     ·show w'.heap[c]?=_;rw[hw.mS c (ke c ⟨s,hs⟩)];exact q2
     ·obtain⟨u,hu,eY⟩:=cV i j row a aK aM
      exact⟨u,by rw[cQ s ck];exact hu,eY.le bm.le.b3⟩
   e4:=fun s x hs=>by
    by_cases e:s=b
    ·subst e;rw[hb] at hs;cases hs;exact Le
    ·rw[aC s e] at hs
     show(if s=b then _ else _)=_
     rw[if_neg e];exact aR.e4 s x hs
   ho:=fun s hs=>by
    have hs:(if s=b then some (some E.w.heap.size) else E.m s)=some none:=hs
    split at hs
    ·cases hs
    ·rename_i e
     obtain⟨x,q1,q2⟩:=aR.ho s hs
     exact⟨x,by rw[aC s e];exact q1,by rw[cQ s e];exact q2⟩
   fresh:=fun s hs=>by
    have bf:b<H'.length:=(List.getElem?_eq_some_iff.1 hb).1
    have e:s≠b:=by omega
    have:=aR.fresh s (by omega)
    exact⟨by show(if s=b then _ else _)=_;rw[if_neg e];exact this.1,by show(if s=b then _ else _)=_;rw[if_neg e];exact this.2⟩
   hR:=fun s s' c h1 h2=>by
    rcases hm s c h1 with⟨d1,bB⟩ | ⟨_,ei⟩<;>rcases hm s' c h2 with⟨d2,e2⟩ | ⟨_,ih⟩
    ·rw[d1,d2]
    ·have:=ke c ⟨s',ih⟩;omega
    ·have:=ke c ⟨s,ei⟩;omega
    ·exact aR.hR s s' c ei ih
   jB:=aR.jB
   gN:=fun s t c h1 h2=>by
    rcases hm s c h1 with⟨rfl,rfl⟩ | ⟨_,h1⟩
    ·have:=kf _ ⟨t,h2⟩;omega
    ·exact aR.gN s t c h1 h2
   hS:=fun c hc ⟨s,hs⟩=>by
    rcases hm s c hs with⟨rfl,rfl⟩ | ⟨_,hs⟩
    ·have:=aR.e0 _ hc;omega
    ·exact aR.hS c hc ⟨s,hs⟩
   ij:=aR.ij
   eS:=aR.eS
   e0:=fun c hc=>Nat.lt_of_lt_of_le (aR.e0 c hc) bm.size
   gn:=fun c ⟨s,hs⟩=>by
    rcases hm s c hs with⟨rfl,rfl⟩ | ⟨_,hs⟩
    ·show _<w'.heap.size;rw[hw.size];omega
    ·exact Nat.lt_of_lt_of_le (ke c ⟨s,hs⟩) bm.size
   g2:=fun c hc=>Nat.lt_of_lt_of_le (kf c hc) bm.size}
 ·intro s c hs
  obtain⟨gV,dx,jJ,q1,q2,q3⟩:=bY s c hs
  exact⟨gV,dx,jJ,q1,by show w'.heap[c]?=_;rw[hw.mS c (kf c ⟨s,hs⟩)];exact q2,q3.mono fun _ _ k=>k.le bm.le.b3⟩
theorem OS {E:Env} {H:List Blk} {L:List (Nat×List AV)} {w':World} {b:Nat} {x:Option Nat} {blk blk':Blk} (aR:SimH E H) (bY:SimL E L)
  (hm:E.m b=some x) (hb:H[b]?=some blk) (hg:blk'.bF=blk.bF+1) (mM:blk'.sz=blk.sz)
  (aC:w'.os=E.w.os) (Xc:w'.tape=E.w.tape) (WQ:w'.output=E.w.output) (cQ:w'.heap.size=E.w.heap.size)
  (hw: ∀c,x≠some c→w'.heap[c]?=E.w.heap[c]?)
  (hx: ∀c,x=some c→ ∃a7 ty,w'.heap[c]?=some (.cells a7 ty (0,0))∧a7.size=E.cp b*E.sz b∧blk'.rows.length≤E.cp b∧vm E (E.sz b) blk'.rows a7):
  ∃E',E'.w=w'∧Step E E'∧SimH E' (H.set b blk')∧SimL E' L∧E'.bF b=blk'.bF∧E'.m=E.m∧E'.sz=E.sz∧E'.cp=E.cp∧E'.mL=E.mL:=by
 let E':Env:={E with w:=w',bF:=fun cj=>if cj=b then blk'.bF else E.bF cj}
 have kc:=aR.e4 b blk hb
 have ck: ∀c,E.PA c→x≠some c:=fun c hc e=>aR.hS c hc ⟨b,by rw[hm,e]⟩
 have bm:Step E E':=
  {le:=⟨fun _ h=>h,fun _ h=>h,fun c hc=>hw c (ck c hc),fun c hc=>hw c (ck c (aR.eS c hc)),fun cj=>by
     show _≤(if cj=b then _ else _)
     split
     ·rename_i e;subst e;omega
     ·exact Nat.le_refl _,fun cj y bt Wr=>by
     have pk:(if cj=b then blk'.bF else E.bF cj)=E.bF cj:=Wr
     have wg:cj≠b:=fun e=>by subst e;rw[if_pos rfl] at pk;omega
     exact⟨bt,rfl,rfl⟩,fun _ _ h=>h⟩
   os:=aC,tape:=Xc,output:=WQ
   size:=by show E.w.heap.size≤w'.heap.size;rw[cQ];exact Nat.le_refl _
   e7:=fun c hc h1 _=>hw c (fun e=>h1 ⟨b,by rw[hm,e]⟩)
   ji:=fun _ _ h=> .inl h
   jA:=fun _ h=> .inl h
   fC:=fun _ h=> .inl h
   fD:=fun _ h=> .inl h}
 have qe:b<H.length:=(List.getElem?_eq_some_iff.1 hb).1
 refine⟨E',rfl,bm,?_,?_,if_pos rfl,rfl,rfl,rfl,rfl⟩
 ·exact{aR with
   heap:=fun s c hs=>by
    by_cases e:s=b
    ·subst e
     have LN:x=some c:=by
      have:E.m s=some (some c):=hs
      rw[hm] at this;exact Option.some.inj this
     obtain⟨xR,ae7,afw,q1,dL,q⟩:=aR.heap s c (by rw[hm,LN])
     obtain rfl:blk=xR:=by rw[hb] at q1;exact Option.some.inj q1
     obtain⟨a7,ty,h1,h2,aN,be⟩:=hx c LN
     exact⟨blk',a7,ty,by rw[List.getElem?_set_self qe],dL.trans mM.symm,h1,h2,aN,be.1,fun i j row a aK aM=>by
      obtain⟨u,hu,eY⟩:=be.2 i j row a aK aM;exact⟨u,hu,eY.le bm.le.b3⟩⟩
    ·obtain⟨xR,dx,jJ,q1,dL,q2,q3,q4,cH,cV⟩:=aR.heap s c hs
     refine⟨xR,dx,jJ,by rw[List.getElem?_set_ne (fun h=>e h.symm)];exact q1,dL,?_,q3,q4,cH,fun i j row a aK aM=> ?_⟩
     ·show w'.heap[c]?=_
      rw[hw c (fun h=>e (aR.hR s b c hs (by rw[hm,h])))];exact q2
     ·obtain⟨u,hu,eY⟩:=cV i j row a aK aM
      exact⟨u,hu,eY.le bm.le.b3⟩
   e4:=fun s y hs=>by
    by_cases e:s=b
    ·subst e;rw[List.getElem?_set_self qe] at hs;cases hs;exact if_pos rfl
    ·rw[List.getElem?_set_ne (fun h=>e h.symm)] at hs
     show(if s=b then _ else _)=_
     rw[if_neg e];exact aR.e4 s y hs
   ho:=fun s hs=>by
    obtain⟨y,q1,q2⟩:=aR.ho s hs
    by_cases e:s=b
    ·subst e
     obtain rfl:blk=y:=by rw[hb] at q1;exact Option.some.inj q1
     exact⟨blk',by rw[List.getElem?_set_self qe],q2.trans mM.symm⟩
    ·exact⟨y,by rw[List.getElem?_set_ne (fun h=>e h.symm)];exact q1,q2⟩
   fresh:=fun s hs=>by
    rw[List.length_set] at hs
    have e:s≠b:=by omega
    have:=aR.fresh s hs
    exact⟨this.1,by show(if s=b then _ else _)=_;rw[if_neg e];exact this.2⟩
   e0:=fun c hc=>Nat.lt_of_lt_of_le (aR.e0 c hc) bm.size
   gn:=fun c hc=>Nat.lt_of_lt_of_le (aR.gn c hc) bm.size
   g2:=fun c hc=>Nat.lt_of_lt_of_le (aR.g2 c hc) bm.size}
 ·intro s c hs
  obtain⟨gV,dx,jJ,q1,q2,q3⟩:=bY s c hs
  refine⟨gV,dx,jJ,q1,?_,q3.mono fun _ _ k=>k.le bm.le.b3⟩
  show w'.heap[c]?=_
  rw[hw c (fun e=>aR.gN b s c (by rw[hm,e]) hs)];exact q2
theorem BG {E:Env} {H:List Blk} {L:List (Nat×List AV)} {blk:Blk} (aR:SimH E H) (bY:SimL E L) (hg:blk.bF=0) (aK:blk.rows=[]):
  ∃E',E'.w=E.w∧Step E E'∧SimH E' (H++[blk])∧SimL E' L∧E'.bF H.length=0∧E'.m H.length=some none∧(∀b,b≠H.length→E'.m b=E.m b)∧E'.mL=E.mL:=by
 have hs:=aR.snoc hg
 have aH:=aR.fresh H.length (Nat.le_refl _)
 let E':Env:={E with m:=fun b=>if b=H.length then some none else E.m b,sz:=fun b=>if b=H.length then blk.sz else E.sz b}
 have rD: ∀b c,E'.m b=some (some c)→E.m b=some (some c)∧b≠H.length:=by
  intro b c h
  have h:(if b=H.length then some none else E.m b)=some (some c):=h
  split at h
  ·cases h
  ·exact⟨h,by assumption⟩
 have bm:Step E E':=
  {le:=⟨fun _ h=>h,fun _ h=>h,fun _ _=>rfl,fun _ _=>rfl,fun _=>Nat.le_refl _,fun b x hx _=>by
     have ck:b≠H.length:=fun e=>by subst e;rw[aH.1] at hx;cases hx
     exact⟨by show(if b=H.length then _ else _)=_;rw[if_neg ck];exact hx,by show(if b=H.length then _ else _)=_;rw[if_neg ck],rfl⟩,fun _ _ h=>h⟩
   os:=rfl,tape:=rfl,output:=rfl,size:=Nat.le_refl _
   e7:=fun _ _ _ _=>rfl
   ji:=fun b c h=> .inl (rD b c h).1
   jA:=fun _ h=> .inl h
   fC:=fun _ h=> .inl h
   fD:=fun _ h=> .inl h}
 refine⟨E',rfl,bm,?_,fun s c hm=> ?_,aH.2,if_pos rfl,fun b hb=>if_neg hb,rfl⟩
 ·exact{hs with
   heap:=fun b c h=>by
    obtain⟨h,ck⟩:=rD b c h
    obtain⟨xR,dx,jJ,q1,dL,q2,q3,q4,cH,cV⟩:=hs.heap b c h
    have cQ:E'.sz b=E.sz b:=if_neg ck
    exact⟨xR,dx,jJ,q1,by rw[cQ];exact dL,q2,by rw[cQ];exact q3,q4,by rw[cQ];exact cH,fun i j row a aK aM=>by
     obtain⟨u,hu,eY⟩:=cV i j row a aK aM
     exact⟨u,by rw[cQ];exact hu,eY.le bm.le.b3⟩⟩
   ho:=fun b h=>by
    by_cases e:b=H.length
    ·subst e
     exact⟨blk,by simp,if_pos rfl⟩
    ·have h:E.m b=some none:=by
      have h:(if b=H.length then some none else E.m b)=some none:=h
      rwa [if_neg e] at h
     obtain⟨y,q1,q2⟩:=hs.ho b h
     exact⟨y,q1,by show(if b=H.length then _ else _)=_;rw[if_neg e];exact q2⟩
   fresh:=fun b h=>by
    have:=hs.fresh b h
    have e:b≠H.length:=by simp at h;omega
    exact⟨by show(if b=H.length then _ else _)=_;rw[if_neg e];exact this.1,this.2⟩
   hR:=fun b cj c h1 h2=>hs.hR b cj c (rD b c h1).1 (rD cj c h2).1
   gN:=fun b t c h1 h2=>hs.gN b t c (rD b c h1).1 h2
   hS:=fun c hc ⟨b,h⟩=>hs.hS c hc ⟨b,(rD b c h).1⟩
   gn:=fun c ⟨b,h⟩=>hs.gn c ⟨b,(rD b c h).1⟩}
 ·obtain⟨gV,dx,jJ,q1,q2,q3⟩:=bY s c hm
  exact⟨gV,dx,jJ,q1,q2,q3.mono fun _ _ k=>k.le bm.le.b3⟩
def zh (fr:Bool) (row:List AV):List AV:=match fr with
 | true=>row.map oS
 | false=>row
def lv (fr:Bool) (rows:List (List AV)):List (List AV):=match fr with
 | true=>rows.map fun row=>row.map oS
 | false=>rows
theorem aaT (fr:Bool) (rows:List (List AV)):lv fr rows=rows.map (zh fr):=by
 cases fr
 ·show rows=rows.map fun row=>row
  simp
 ·rfl
theorem aaS (fr:Bool) (row:List AV):(zh fr row).length=row.length:=by
 cases fr<;>simp[zh]
def rowsOf (H:List Blk) (x:AV):Option (List (List AV)):=match x with
 | .bC rows _ fr=>some (lv fr rows)
 | .ref b g off n _=>(H[b]?).bind fun blk=>if blk.bF=g∧off+n≤blk.rows.length then some ((blk.rows.drop off).take n) else none
 | .str s=>some (s.data.toList.map fun c=>[.int .u8 c.toNat])
 | _=>none
def OZ (H:List Blk) (x:AV) (K:List (List AV)→Prop):Prop:=match x with
 | .bC rows _ fr=>K (lv fr rows)
 | .ref b g off n _=>cU H[b]? fun blk=>blk.bF=g∧off+n≤blk.rows.length∧K ((blk.rows.drop off).take n)
 | .str s=>K (s.data.toList.map fun c=>[.int .u8 c.toNat])
 | _=>False
theorem aa0 {H:List Blk} {x:AV} {K:List (List AV)→Prop} (h:OZ H x K): ∃cg,rowsOf H x=some cg∧K cg:=by
 cases x with
 | bC rows full fr=>exact⟨_,rfl,h⟩
 | ref b g off n full=>
  obtain⟨blk,hb,h1,h2,aN⟩:=fs (show cU H[b]? fun blk=>blk.bF=g∧off+n≤blk.rows.length∧K ((blk.rows.drop off).take n) from h)
  exact⟨_,by show(H[b]?).bind _=_;rw[hb];show(if blk.bF=g∧off+n≤blk.rows.length then _ else _)=_;rw[if_pos ⟨h1,h2⟩],aN⟩
 | str s=>exact⟨_,rfl,h⟩
 | _=>exact h.elim
def tx (P:Program) (e t2:TypeId) (x:AV):Bool:=match x with
 | .str _=>(match P.underlying t2 with
  | some .string=>(match P.underlying e with
   | some (.int .u8)=>P.cellsOf e==1
   | _=>false)
  | _=>false)
 | _=>(match P.underlying t2 with
  | some (.slice e2)=>e2==e
  | _=>false)
def qL (n:Nat) (cg:List (List AV)):Prop:= ∀row∈cg,row.length=n∧ ∀a∈row,iX a=true
abbrev oh (r:Type):Type:=AV→List (Nat×List AV)→List Blk→r
def tw (P:Program) (t t2:TypeId) (s x:AV) (L:List (Nat×List AV)) (H:List Blk) (K:oh Prop):Prop:=
 cU (jf P t) fun e=>cU (m6 P e) fun z=>if z.length=P.cellsOf e∧0<z.length∧tx P e t2 x=true then OZ H x fun cg=>
  qL z.length cg∧(match s with
  | .bC rows full fr=>full=true∧(∀row∈rows,row.length=z.length)∧(rows.length+cg.length)*P.bytesOf e≤140737488355328∧rows.length+cg.length≤4611686018427387904∧(rows≠[]→cg≠[])∧
    K (.ref H.length 0 0 (rows.length+cg.length) false) L (H++[⟨0,z.length,rows++cg⟩])
  | .ref b g off n full=>off=0∧cU H[b]? fun blk=>blk.bF=g∧blk.sz=z.length∧blk.rows.length=n∧(n+cg.length)*P.bytesOf e≤140737488355328∧n+cg.length≤4611686018427387904∧
    K (.ref b (g+1) 0 (n+cg.length) false) L (H.set b ⟨g+1,z.length,blk.rows++cg⟩)
  | _=>False)
 else False
structure zY (P:Program) (E:Env) (t2:TypeId) (size:Nat) (cg:List (List AV)) (iH:Value) (news:List Value):Prop where
 len:news.length=cg.length*size
 rel: ∀(i j:Nat) (row:List AV) (a:AV),cg[i]?=some row→row[j]?=some a→ ∃u,news[i*size+j]?=some u∧cC E.b3 a u∧u.oneCell'=true
 one: ∀u∈news,u.oneCell'=true
 num:(∃e2,P.underlying t2=some (.slice e2))∨P.underlying t2=some .string
 lenOf: ∀w,(Builtin.lenOf iH).run P w= .ok cg.length w
 cells: ∀w,(w=E.w∨w=E.w.drew)→(Builtin.firstCells size cg.length iH).run P w= .ok news.toArray w
theorem NY {size:Nat} {cg:List (List AV)} {news:List Value} {R:AV→Value→Prop} (fg: ∀row∈cg,row.length=size) (len:news.length=cg.length*size)
  (rel: ∀(i j:Nat) (row:List AV) (a:AV),cg[i]?=some row→row[j]?=some a→ ∃u,news[i*size+j]?=some u∧R a u∧u.oneCell'=true): ∀u∈news,u.oneCell'=true:=by
 intro u hu
 obtain⟨k,hk⟩:=List.mem_iff_getElem?.1 hu
 have kz:k<cg.length*size:=by rw[←len];exact(List.getElem?_eq_some_iff.1 hk).1
 have lk:0<size:=by
  rcases Nat.eq_zero_or_pos size with q | q
  ·rw[q,Nat.mul_zero] at kz;omega
  ·exact q
 have hi:k / size<cg.length:=(Nat.div_lt_iff_lt_mul lk).2 kz
 have eL:=List.getElem?_eq_getElem hi
 have hlen:(cg[k / size]).length=size:=fg _ (List.getElem_mem hi)
 have aM:k%size<(cg[k / size]).length:=by rw[hlen];exact Nat.mod_lt _ lk
 obtain⟨v,h1,h2,aN⟩:=rel (k / size) (k%size) _ _ eL (List.getElem?_eq_getElem aM)
 rw[Nat.div_add_mod' k size,hk] at h1
 cases h1;exact aN
theorem aeJ {P:Program} {e t2:TypeId} {x:AV} {cg:List (List AV)} {E:Env} {H:List Blk} {iH:Value} {size:Nat} (aR:SimH E H) (hx:V2 E x iH) (cQ:size=P.cellsOf e) (br:tx P e t2 x=true)
  (aK:rowsOf H x=some cg) (fg:qL size cg): ∃news,zY P E t2 size cg iH news:=by
 have A5: ∀row∈cg,row.length=size:=fun row h=>(fg row h).1
 cases x with
 | bC rows full fr=>
  have ie:lv fr rows=cg:=Option.some.inj aK
  have bB:cg=rows.map (zh fr):=by rw[←ie];exact aaT fr rows
  have A8:cg.length=rows.length:=by rw[bB,List.length_map]
  have ll: ∀row∈rows,row.length=size:=fun row h=>by
   rw[←aaS fr row];exact A5 _ (by rw[bB];exact List.mem_map_of_mem h)
  have hu: ∃e2,P.underlying t2=some (.slice e2):=by
   unfold tx at br
   simp only at br
   split at br
   ·exact⟨_,by assumption⟩
   ·cases br
  obtain⟨e2,hu⟩:=hu
  have jz:bH E.w E.PA E.PF (.bC rows full fr) iH:=hx
  cases jz with
  | @bC _ _ PB _ _ _ A cap sz vs f_ gK hl yE e9 dS=>
   let news:List Value:=(List.range (rows.length*size)).map fun k=>vs (k / size) (k%size)
   have mf:news.length=rows.length*size:=by simp[news]
   have g_: ∀i j,i<rows.length→j<size→news[i*size+j]?=some (vs i j):=by
    intro i j hi aM
    have hk:i*size+j<rows.length*size:=by
     calc i*size+j<i*size+size:=by omega
      _=(i+1)*size:=by rw[Nat.add_mul,Nat.one_mul]
      _≤rows.length*size:=Nat.mul_le_mul_right _ (by omega)
    show((List.range (rows.length*size)).map _)[i*size+j]?=_
    rw[List.getElem?_map,List.getElem?_range hk]
    have h1:(i*size+j) / size=i:=by
     rw[Nat.add_comm,Nat.add_mul_div_right _ _ (by omega),Nat.div_eq_of_lt aM];omega
    have h2:(i*size+j)%size=j:=by
     rw[Nat.add_comm,Nat.add_mul_mod_self_right,Nat.mod_eq_of_lt aM]
    simp[h1,h2]
   have rel: ∀(i j:Nat) (row:List AV) (a:AV),cg[i]?=some row→row[j]?=some a→ ∃u,news[i*size+j]?=some u∧cC E.b3 a u∧u.oneCell'=true:=by
    intro i j row a h1 h2
    have yB:=fg row (List.mem_of_getElem? h1)
    have aM:j<size:=by rw[←yB.1];exact(List.getElem?_eq_some_iff.1 h2).1
    have hs:=yB.2 a (List.mem_of_getElem? h2)
    rw[bB,List.getElem?_map] at h1
    cases ak:rows[i]? with
    | none=>rw[ak] at h1;cases h1
    | some xc=>
     rw[ak] at h1
     have h1:zh fr xc=row:=Option.some.inj h1
     have kY:cC E.b3 a (vs i j):=by
      cases fr with
      | false=>
       have h1:xc=row:=h1
       subst h1
       exact bH.v1 (E:=E.b3) ((dS i j xc a ak h2).mono (fun _ _=>rfl) (fun _ h=>h.elim) (fun c hc=>show E.PA c by have:=f_ c hc;simpa using this) (fun _ h=>h.elim))
      | true=>
       have h1:xc.map oS=row:=h1
       subst h1
       rw[List.getElem?_map] at h2
       cases kh:xc[j]? with
       | none=>rw[kh] at h2;cases h2
       | some J=>
        rw[kh] at h2
        have h2:oS J=a:=Option.some.inj h2
        subst h2
        exact bH.v1 (E:=E.b3) (aaR (dS i j xc J ak kh) (fun c hc=>show E.PF c by have:=f_ c hc;simpa using this) aR.eS)
     exact⟨_,g_ i j (List.getElem?_eq_some_iff.1 ak).1 aM,kY,kY.BM hs⟩
   refine⟨news,by rw[A8];exact mf,rel,NY A5 (by rw[A8];exact mf) rel,.inl ⟨_,hu⟩,fun w=>by rw[A8];rfl,fun w hw=> ?_⟩
   rw[A8]
   have EA: ∀a,w.cell? a=E.w.cell? a:=by rcases hw with rfl | rfl<;>intro a<;>rfl
   by_cases aP:rows.length=0
   ·have aH:news=[]:=List.eq_nil_of_length_eq_zero (by rw[mf,aP,Nat.zero_mul])
    rw[aH,aP]
    cases A with
    | none=>exact run_firstCells_none w size 0 _ _
    | some lJ=>
     have:=run_firstCells_some (P:=P) w size 0 lJ 0 cap [] (by simp) (fun j v h=>by simp at h)
     exact this
   ·obtain⟨c,o,rfl,hc,eo⟩:=e9 (by omega)
    refine run_firstCells_some (P:=P) w size rows.length ⟨c,o,none⟩ rows.length cap news mf (fun k v hk=> ?_)
    have kz:k<rows.length*size:=by rw[←mf];exact(List.getElem?_eq_some_iff.1 hk).1
    have lk:0<size:=by
     rcases Nat.eq_zero_or_pos size with q | q
     ·rw[q,Nat.mul_zero] at kz;omega
     ·exact q
    have hi:k / size<rows.length:=(Nat.div_lt_iff_lt_mul lk).2 kz
    have aM:k%size<size:=Nat.mod_lt _ lk
    have LJ:sz=size:=by
     have:=yE _ _ (List.getElem?_eq_getElem hi)
     rw[←this];exact ll _ (List.getElem_mem hi)
    have h1:=eo (k / size) (k%size) hi (by rw[LJ];exact aM)
    have h2:=g_ (k / size) (k%size) hi aM
    rw[Nat.div_add_mod' k size] at h2
    rw[hk] at h2
    cases h2
    rw[nI,EA]
    rw[LJ,Nat.div_add_mod' k size] at h1
    exact h1
 | ref b g off n full=>
  have hu: ∃e2,P.underlying t2=some (.slice e2):=by
   unfold tx at br
   simp only at br
   split at br
   ·exact⟨_,by assumption⟩
   ·cases br
  obtain⟨e2,hu⟩:=hu
  have aK:((H[b]?).bind fun blk=>if blk.bF=g∧off+n≤blk.rows.length then some ((blk.rows.drop off).take n) else none)=some cg:=aK
  cases hb:H[b]? with
  | none=>simp[hb] at aK
  | some blk=>
   simp only[hb,Option.bind_some] at aK
   split at aK
   case isFalse=>cases aK
   case isTrue hc=>
   obtain⟨hg,sC⟩:=hc
   cases aK
   have kc:=aR.e4 b blk hb
   have qq:((blk.rows.drop off).take n).length=n:=by simp;omega
   have Xh: ∀i row,((blk.rows.drop off).take n)[i]?=some row→blk.rows[off+i]?=some row:=by
    intro i row h
    rw[List.getElem?_take] at h
    split at h
    ·rw[List.getElem?_drop] at h;exact h
    ·cases h
   rcases(show fl E (.ref b g off n full) iH from hx) with⟨bX,_⟩ | ⟨fK,bX⟩
   ·omega
   ·rcases bX with⟨_,_,me,A,rfl⟩ | ⟨c,cap,hm,rfl,oG,ng,qg⟩
    ·subst me
     refine⟨[],by simp,fun i j row a h=>by simp at h,(fun u hu=>by cases hu),.inl ⟨_,hu⟩,fun w=>by simp;rfl,fun w hw=> ?_⟩
     rw[qq]
     cases A with
     | none=>exact run_firstCells_none w size 0 _ _
     | some lJ=>exact run_firstCells_some (P:=P) w size 0 lJ 0 0 [] (by simp) (fun j v h=>by simp at h)
    ·obtain⟨blk',a7,ty,q1,dL,hw,mc,nY,gl⟩:=aR.heap b c hm
     obtain rfl:blk=blk':=by rw[hb] at q1;exact Option.some.inj q1
     by_cases me:n=0
     ·subst me
      refine⟨[],by simp,fun i j row a h=>by simp at h,(fun u hu=>by cases hu),.inl ⟨_,hu⟩,fun w=>by simp;rfl,fun w hw=> ?_⟩
      rw[qq]
      exact run_firstCells_some (P:=P) w size 0 _ 0 cap [] (by simp) (fun j v h=>by simp at h)
     ·have EZ:E.sz b=size:=by
       have bf:off<blk.rows.length:=by omega
       have aT:((blk.rows.drop off).take n)[0]?=some blk.rows[off]:=by
        rw[List.getElem?_take,if_pos (by omega),List.getElem?_drop,Nat.add_zero,List.getElem?_eq_getElem bf]
       rw[←gl.1 off _ (List.getElem?_eq_getElem bf)]
       exact A5 _ (List.mem_of_getElem? aT)
      let news:List Value:=(a7.toList.drop (off*size)).take (n*size)
      have V8:off*size+n*size≤a7.size:=by
       rw[mc,EZ,←Nat.add_mul];exact Nat.mul_le_mul_right _ (by omega)
      have mf:news.length=n*size:=by simp[news];omega
      have Lw: ∀k,k<n*size→news[k]?=a7[off*size+k]?:=by
       intro k hk
       show((a7.toList.drop (off*size)).take (n*size))[k]?=_
       rw[List.getElem?_take,if_pos hk,List.getElem?_drop,Array.getElem?_toList]
      have rel: ∀(i j:Nat) (row:List AV) (a:AV),((blk.rows.drop off).take n)[i]?=some row→row[j]?=some a→ ∃u,news[i*size+j]?=some u∧cC E.b3 a u∧u.oneCell'=true:=by
       intro i j row a h1 h2
       have yB:=fg row (List.mem_of_getElem? h1)
       have aM:j<size:=by rw[←yB.1];exact(List.getElem?_eq_some_iff.1 h2).1
       have hi:i<n:=by have:=(List.getElem?_eq_some_iff.1 h1).1;rw[qq] at this;exact this
       obtain⟨u,wq,wu⟩:=gl.2 (off+i) j row a (Xh i row h1) h2
       have hk:i*size+j<n*size:=by
        calc i*size+j<i*size+size:=by omega
         _=(i+1)*size:=by rw[Nat.add_mul,Nat.one_mul]
         _≤n*size:=Nat.mul_le_mul_right _ (by omega)
       refine⟨u,?_,wu,wu.BM (yB.2 a (List.mem_of_getElem? h2))⟩
       rw[Lw _ hk,←wq,EZ]
       congr 1
       rw[Nat.add_mul];omega
      refine⟨news,by rw[qq];exact mf,rel,NY A5 (by rw[qq];exact mf) rel,.inl ⟨_,hu⟩,fun w=>by rw[qq];rfl,fun w eN=> ?_⟩
      have EA: ∀a,w.cell? a=E.w.cell? a:=by rcases eN with rfl | rfl<;>intro a<;>rfl
      rw[qq]
      refine run_firstCells_some (P:=P) w size n _ n cap news mf (fun k v hk=> ?_)
      have kz:k<n*size:=by rw[←mf];exact(List.getElem?_eq_some_iff.1 hk).1
      rw[Lw k kz] at hk
      rw[nI,EA,EZ]
      exact cell_of hw hk
 | str s=>
  obtain rfl:=V3.xm (pW hx)
  cases aK
  unfold tx at br
  simp only at br
  split at br
  case h_2=>cases br
  case h_1 hu=>
  split at br
  case h_2=>cases br
  case h_1 he=>
  have fB:size=1:=by rw[cQ];simpa using br
  subst fB
  have yF:s.data.toList.length=s.size:=by simp
  refine⟨s.data.toList.map fun c=> .int .u8 c.toNat,by simp,fun i j row a h1 h2=> ?_,fun u hu=> ?_,.inr hu,fun w=> ?_,fun w hw=> ?_⟩
  ·rw[List.getElem?_map] at h1
   cases hc:s.data.toList[i]? with
   | none=>rw[hc] at h1;cases h1
   | some c=>
    rw[hc] at h1
    cases h1
    have Ll:j=0:=by have:=(List.getElem?_eq_some_iff.1 h2).1;simp at this;omega
    subst Ll
    cases h2
    exact⟨.int .u8 c.toNat,by rw[List.getElem?_map,Nat.mul_one,Nat.add_zero,hc];rfl,bH.int _ _,rfl⟩
  ·obtain⟨c,_,rfl⟩:=List.mem_map.1 hu;rfl
  ·show Result.ok s.size w=_
   rw[List.length_map,yF]
  ·rw[List.length_map,yF]
   show Result.ok ((s.extract 0 s.size).data.map fun b=>Value.int .u8 b.toNat) w=_
   congr 1
   apply Array.ext'
   simp
 | _=>cases aK
section
variable {P:Program} {E:Env} {t t2 ty e:TypeId} {size:Nat} {cg:List (List AV)} {iH:Value} {news:List Value}
theorem O2 (X:zY P E t2 size cg iH news) (br:P.underlying t=some (.slice e)) (hi:(P.info? e).isSome=true) (cQ:P.cellsOf e=size) {base:Option Addr} {sLen sCap:Nat} (aH:cg.length=0) (hc:sLen≤sCap):
  (Builtin.append_ #[t,t2] ty #[.slice base sLen sCap,iH]).run P E.w= .ok (.slice base sLen sCap) E.w:=by
 have aL:=X.lenOf E.w
 have hf:=X.cells E.w (.inl rfl)
 have WC:news=[]:=List.eq_nil_of_length_eq_zero (by rw[X.len,aH,Nat.zero_mul])
 subst WC
 rw[aH] at aL hf
 rcases X.num with⟨e2,hu⟩ | hu<;>
  (simp[Builtin.append_,run_underlying br,run_underlying hu,run_sizeOf hi,cQ,aL,hc,hf]
   cases base<;>simp[storeCells])
theorem aa2 (X:zY P E t2 size cg iH news) (br:P.underlying t=some (.slice e)) (hi:(P.info? e).isSome=true) (cQ:P.cellsOf e=size) {g o sLen sCap:Nat} {c4:Array Value} {ce:TypeId}
  (hg:E.w.heap[g]?=some (.cells c4 ce (0,0))) (wl:sLen+cg.length≤sCap) (n0:o+sLen*size+news.length≤c4.size):
  (Builtin.append_ #[t,t2] ty #[.slice (some ⟨g,o,none⟩) sLen sCap,iH]).run P E.w= .ok (.slice (some ⟨g,o,none⟩) (sLen+cg.length) sCap) (E.w.setRow g (c4.toList.take (o+sLen*size)++news++c4.toList.drop (o+sLen*size+news.length)).toArray):=by
 have aL:=X.lenOf E.w
 have hf:=X.cells E.w (.inl rfl)
 have bm:=run_storeCells_at (P:=P) g (o+sLen*size) ce news 0 c4 E.w hg (by simpa using n0) X.one
 simp only[Nat.add_zero] at bm
 rcases X.num with⟨e2,hu⟩ | hu<;>
  simp[Builtin.append_,run_underlying br,run_underlying hu,run_sizeOf hi,cQ,aL,wl,hf,nI,bm]
theorem aa3 (X:zY P E t2 size cg iH news) (br:P.underlying t=some (.slice e)) {i:TypeInfo} (hi:P.info? e=some i) (cQ:i.size=size) {z:Value} (aP:i.zero=some z) {base:Option Addr} {sLen sCap:Nat} {kk:Array Value}
  (holds:(Builtin.firstCells size sLen (.slice base sLen sCap)).run P E.w.drew= .ok kk E.w.drew) (hg:sCap<sLen+cg.length) (AO:((sLen+cg.length:Nat):Int)≤9223372036854775807)
  (n0:Builtin.nextslicecap (sLen+cg.length) sCap*i.bytes≤281474976710656):
  (Builtin.append_ #[t,t2] ty #[.slice base sLen sCap,iH]).run P E.w= .ok (.slice (some ⟨E.w.heap.size,0,none⟩) (sLen+cg.length) (grownCap E.w (sLen+cg.length) sCap e))
   (E.w.drew.alloc (.cells (kk++news.toArray++Builtin.zeroCells z.cells (grownCap E.w (sLen+cg.length) sCap e - (sLen+cg.length))) e)):=by
 have aL:=X.lenOf E.w
 have hf:=X.cells E.w.drew (.inr rfl)
 subst cQ
 have aH: ¬(sLen+cg.length≤sCap):=by omega
 have VP: ¬(9223372036854775807<((sLen:Int)+(cg.length:Int))):=by omega
 have VN: ¬(281474976710656<Builtin.nextslicecap (sLen+cg.length) sCap*i.bytes):=by omega
 rcases X.num with⟨e2,hu⟩ | hu<;>
  simp[Builtin.append_,run_underlying br,run_underlying hu,sizeOf,typeInfo,zeroValue,hi,aP,aL,aH,VP,VN,Question.forced,hf,holds,newRow,grownCap]
end
theorem SL {P:Program} {t t2 ty:TypeId} {s x:AV} {L:List (Nat×List AV)} {H:List Blk} {K:AV→List (Nat×List AV)→List Blk→Prop} {E:Env} {xn iH:Value}
  (aR:SimH E H) (bY:SimL E L) (hs:V2 E s xn) (hx:V2 E x iH) (h:tw P t t2 s x L H K):
  ∃r u H' E',K r L H'∧(Builtin.append_ #[t,t2] ty #[xn,iH]).run P E.w= .ok u E'.w∧Step E E'∧SimH E' H'∧SimL E' L∧V3 E' r u∧E'.mL=E.mL:=by
 obtain⟨e,he,h⟩:=fs h
 obtain⟨z,aP,h⟩:=fs h
 have br:=sl he
 split at h
 case isFalse=>exact h.elim
 case isTrue hc=>
 obtain⟨n6,lk,pf⟩:=hc
 obtain⟨cg,Bl,fg,h⟩:=aa0 h
 obtain⟨i,vh,hi,uj,uh,ui⟩:=vg (E:=E.b3) aP
 obtain⟨news,X⟩:=aeJ aR hx n6 pf Bl fg
 have yr:(P.info? e).isSome=true:=by rw[hi];rfl
 have wa:i.size=z.length:=by rw[n6];simp[Program.cellsOf,hi]
 have v9:i.bytes=P.bytesOf e:=by simp[Program.bytesOf,hi]
 have Xo:vh.cells.size=z.length:=by rw[uh];simp

 have out: ∀(base:Option Addr) (rows:List (List AV)) (sCap:Nat) (kk:Array Value) (b g:Nat) (H':List Blk),xn= .slice base rows.length sCap→
   (Builtin.firstCells z.length rows.length (.slice base rows.length sCap)).run P E.w.drew= .ok kk E.w.drew→kk.size=rows.length*z.length→
   (∀row∈rows,row.length=z.length)→(∀(i j:Nat) (row:List AV) (a:AV),rows[i]?=some row→row[j]?=some a→ ∃u,kk[i*z.length+j]?=some u∧cC E.b3 a u)→
   sCap<rows.length+cg.length→(rows.length+cg.length)*P.bytesOf e≤140737488355328→rows.length+cg.length≤4611686018427387904→
   H'[b]?=some ⟨g,z.length,rows++cg⟩→(∀cj,cj≠b→H'[cj]?=H[cj]?)→(b<H.length→H'.length=H.length)→H.length≤H'.length→((E.m b=none∧g=E.bF b)∨E.bF b<g)→
   K (.ref b g 0 (rows.length+cg.length) false) L H'→ ∃r u H' E',K r L H'∧(Builtin.append_ #[t,t2] ty #[xn,iH]).run P E.w= .ok u E'.w∧Step E E'∧SimH E' H'∧SimL E' L∧V3 E' r u∧E'.mL=E.mL:=by
  intro base rows sCap kk b g H' W9 holds LB ll WO wl hby gZ dZ aC hlen A4 kc hK
  subst W9
  have fM:=aa3 (ty:=ty) X br hi wa uj holds wl (by omega) (growslice_fits (by omega) (by rw[v9];exact hby))
  have Ey:=grownCap_ge E.w (rows.length+cg.length) sCap e
  let cap:=grownCap E.w (rows.length+cg.length) sCap e
  let a7:Array Value:=kk++news.toArray++Builtin.zeroCells vh.cells (cap - (rows.length+cg.length))
  have mc:a7.size=cap*z.length:=by
   show(kk++news.toArray++Builtin.zeroCells vh.cells (cap - (rows.length+cg.length))).size=_
   have bB:(kk++news.toArray++Builtin.zeroCells vh.cells (cap - (rows.length+cg.length))).size=kk.size+news.length+(Builtin.zeroCells vh.cells (cap - (rows.length+cg.length))).size:=by simp;omega
   rw[bB,size_zeroCells,Xo,LB,X.len,←Nat.add_mul,←Nat.add_mul]
   congr 1
   have:rows.length+cg.length≤cap:=Ey
   omega
  have gl:vm E z.length (rows++cg) a7:=by
   refine⟨fun k row aK=> ?_,fun k j row a aK aM=> ?_⟩
   ·rcases Nat.lt_or_ge k rows.length with bf | fK
    ·rw[List.getElem?_append_left bf] at aK;exact ll row (List.mem_of_getElem? aK)
    ·rw[List.getElem?_append_right fK] at aK;exact(fg row (List.mem_of_getElem? aK)).1
   ·rcases Nat.lt_or_ge k rows.length with bf | fK
    ·rw[List.getElem?_append_left bf] at aK
     obtain⟨u,hu,hv⟩:=WO k j row a aK aM
     refine⟨u,?_,hv⟩
     have kz:=(Array.getElem?_eq_some_iff.1 hu).1
     show(kk++news.toArray++_)[k*z.length+j]?=_
     rw[Array.getElem?_append_left (by rw[Array.size_append];omega),Array.getElem?_append_left kz];exact hu
    ·rw[List.getElem?_append_right fK] at aK
     obtain⟨u,hu,hv,_⟩:=X.rel _ j row a aK aM
     refine⟨u,?_,hv⟩
     have kz:=(List.getElem?_eq_some_iff.1 hu).1
     have n4:k*z.length+j=kk.size+((k - rows.length)*z.length+j):=by
      rw[LB,←Nat.add_assoc,←Nat.add_mul];congr 2;omega
     show(kk++news.toArray++_)[k*z.length+j]?=_
     rw[n4,Array.getElem?_append_left (by simp;omega),Array.getElem?_append_right (by omega),Nat.add_sub_cancel_left]
     simpa using hu
  obtain⟨E',hw,bm,rF,rG,pk,nj,lV,AR,_,hml⟩:=wJ (cap:=cap) (blk:=⟨g,z.length,rows++cg⟩) aR bY (m9.TZ E.w (.cells a7 e (0,0))) dZ aC hlen A4 kc mc (by
   show(rows++cg).length≤cap
   rw[List.length_append];exact Ey) gl
  refine⟨_,_,_,E',hK,by rw[hw];exact fM,bm,rF,rG,.inr ⟨pk.symm,.inr ⟨_,_,nj,?_,Ey,(fun h=>by cases h),?_⟩⟩,hml⟩
  ·rw[Nat.zero_mul]
  ·rw[AR,Nat.zero_add];exact Nat.le_refl _
 cases s with
 | bC rows full fr=>
  obtain⟨hl,ll,hby,gZ,ck,hK⟩:=h
  subst hl
  have lV:bH E.w E.PA E.PF (.bC rows true fr) xn:=hs
  cases lV with
  | @bC _ _ PB _ _ _ A cap sz vs f_ gK hl cQ e9 dS=>
   have Wb:=hl rfl
   subst Wb
   by_cases hP:cg.length=0
   ·have Bm:cg=[]:=List.eq_nil_of_length_eq_zero hP
    have pq:rows=[]:=Classical.byContradiction fun bX=>ck bX Bm
    subst pq;subst Bm
    obtain⟨E',hw,bm,rF,rG,pk,nj,_,hml⟩:=BG (blk:=⟨0,z.length,[]++[]⟩) aR bY rfl rfl
    have fM:=O2 (ty:=ty) X br yr n6.symm (base:=A) (sLen:=0) (sCap:=0) rfl (Nat.le_refl _)
    exact⟨_,_,_,E',hK,by rw[hw];exact fM,bm,rF,rG,.inr ⟨pk.symm,.inl ⟨nj,rfl,rfl,A,rfl⟩⟩,hml⟩
   ·have Xa:0<rows.length→sz=z.length:=fun aI=>by
     rw[←cQ 0 _ (List.getElem?_eq_getElem aI)];exact ll _ (List.getElem_mem aI)
    let kk:List Value:=(List.range (rows.length*z.length)).map fun k=>vs (k / z.length) (k%z.length)
    have wi:kk.length=rows.length*z.length:=by simp[kk]
    have g_: ∀i j,i<rows.length→j<z.length→kk[i*z.length+j]?=some (vs i j):=by
     intro i j hi aM
     have hk:i*z.length+j<rows.length*z.length:=by
      calc i*z.length+j<i*z.length+z.length:=by omega
       _=(i+1)*z.length:=by rw[Nat.add_mul,Nat.one_mul]
       _≤rows.length*z.length:=Nat.mul_le_mul_right _ (by omega)
     show((List.range (rows.length*z.length)).map _)[i*z.length+j]?=_
     rw[List.getElem?_map,List.getElem?_range hk]
     have h1:(i*z.length+j) / z.length=i:=by
      rw[Nat.add_comm,Nat.add_mul_div_right _ _ (by omega),Nat.div_eq_of_lt aM];omega
     have h2:(i*z.length+j)%z.length=j:=by
      rw[Nat.add_comm,Nat.add_mul_mod_self_right,Nat.mod_eq_of_lt aM]
     simp[h1,h2]
    refine out A rows rows.length kk.toArray H.length 0 _ rfl ?_ (by simp[wi]) ll (fun i j row a h1 h2=> ?_) (by omega) hby gZ (by simp) (fun cj dZ=> ?_) (fun bX=>by omega) (by simp) (.inl ⟨(aR.fresh _ (Nat.le_refl _)).1,(aR.fresh _ (Nat.le_refl _)).2.symm⟩) hK
    ·by_cases pq:rows.length=0
     ·have aT:kk=[]:=List.eq_nil_of_length_eq_zero (by rw[wi,pq,Nat.zero_mul])
      rw[aT,pq]
      cases A with
      | none=>exact run_firstCells_none _ _ _ _ _
      | some lJ=>exact run_firstCells_some (P:=P) _ z.length 0 lJ 0 0 [] (by simp) (fun j v h=>by simp at h)
     ·obtain⟨c,o,rfl,hc,eo⟩:=e9 (by omega)
      refine run_firstCells_some (P:=P) E.w.drew z.length rows.length ⟨c,o,none⟩ rows.length rows.length kk wi (fun k v hk=> ?_)
      have kz:k<rows.length*z.length:=by rw[←wi];exact(List.getElem?_eq_some_iff.1 hk).1
      have hi:k / z.length<rows.length:=(Nat.div_lt_iff_lt_mul lk).2 kz
      have aM:k%z.length<z.length:=Nat.mod_lt _ lk
      have rJ:=Xa (by omega)
      have h1:=eo (k / z.length) (k%z.length) hi (by rw[rJ];exact aM)
      have h2:=g_ (k / z.length) (k%z.length) hi aM
      rw[Nat.div_add_mod' k z.length] at h2
      rw[hk] at h2
      cases h2
      rw[rJ,Nat.div_add_mod' k z.length] at h1
      rw[nI]
      exact h1
    ·have hi:=(List.getElem?_eq_some_iff.1 h1).1
     have aM:j<z.length:=by rw[←ll row (List.mem_of_getElem? h1)];exact(List.getElem?_eq_some_iff.1 h2).1
     refine⟨vs i j,by simpa using g_ i j hi aM,bH.v1 (E:=E.b3) ((dS i j row a h1 h2).mono (fun _ _=>rfl) (fun _ h=>h.elim) (fun c hc=>by have:=f_ c hc;split at this;exact aR.eS c this;exact this) (fun _ h=>h.elim))⟩
    ·rcases Nat.lt_or_ge cj H.length with bf | fK
     ·rw[List.getElem?_append_left bf]
     ·rw[List.getElem?_eq_none fK,List.getElem?_eq_none (by simp;omega)]
 | ref b g off n full=>
  replace h:off=0∧cU H[b]? fun blk=>blk.bF=g∧blk.sz=z.length∧blk.rows.length=n∧(n+cg.length)*P.bytesOf e≤140737488355328∧n+cg.length≤4611686018427387904∧
    K (.ref b (g+1) 0 (n+cg.length) false) L (H.set b ⟨g+1,z.length,blk.rows++cg⟩):=h
  obtain⟨WH,ak⟩:=h
  obtain⟨blk,hb,hg,mM,hC,hby,gZ,hK⟩:=fs ak
  clear ak
  subst WH
  have kc:=aR.e4 b blk hb
  have qe:b<H.length:=(List.getElem?_eq_some_iff.1 hb).1
  subst hC
  rcases(show fl E (.ref b g 0 blk.rows.length full) xn from hs) with⟨bX,_⟩ | ⟨fK,bX⟩
  ·omega
  ·rcases bX with⟨hm,_,me,A,rfl⟩ | ⟨c,cap,hm,rfl,oG,ng,qg⟩
   ·
    by_cases hP:cg.length=0
    ·have Bm:cg=[]:=List.eq_nil_of_length_eq_zero hP
     subst Bm
     obtain⟨E',hw,bm,rF,rG,pk,nj,yE,AR,hml⟩:=OS (w':=E.w) (x:=none) (blk':=⟨g+1,z.length,blk.rows++[]⟩) aR bY hm hb (by show g+1=_;rw[hg]) mM.symm rfl rfl rfl rfl (fun _ _=>rfl) (fun c hc=>by cases hc)
     have fM:=O2 (ty:=ty) X br yr n6.symm (base:=A) (sLen:=0) (sCap:=0) rfl (Nat.le_refl _)
     refine⟨_,_,_,E',hK,by rw[hw];exact fM,bm,rF,rG,.inr ⟨pk.symm,.inl ⟨by rw[nj];exact hm,rfl,by simp[me],A,rfl⟩⟩,hml⟩
    ·have pq:blk.rows=[]:=List.eq_nil_of_length_eq_zero me
     refine out A blk.rows 0 #[] b (g+1) _ (by rw[pq];rfl) ?_ (by rw[pq];simp) (fun row aK=>by rw[pq] at aK;cases aK) (fun i j row a h1 h2=>by rw[pq] at h1;simp at h1) (by omega) hby gZ (by rw[List.getElem?_set_self qe]) (fun cj dZ=>List.getElem?_set_ne (fun h=>dZ h.symm)) (fun _=>by simp) (by simp) (.inr (by omega)) hK
     rw[pq]
     cases A with
     | none=>exact run_firstCells_none _ _ _ _ _
     | some lJ=>exact run_firstCells_some (P:=P) _ z.length 0 lJ 0 0 [] (by simp) (fun j v h=>by simp at h)
   ·obtain⟨blk',a7,jJ,q1,dL,hw,mc,nY,gl⟩:=aR.heap b c hm
    obtain rfl:blk=blk':=by rw[hb] at q1;exact Option.some.inj q1
    have cQ:E.sz b=z.length:=by rw[dL,mM]
    by_cases wl:blk.rows.length+cg.length≤cap
    ·
     have Wf:a7.size=E.cp b*z.length:=by rw[mc,cQ]
     have hle:(blk.rows.length+cg.length)*z.length≤a7.size:=by rw[Wf];exact Nat.mul_le_mul_right _ (by omega)
     have Lr:blk.rows.length*z.length+news.length≤a7.size:=by rw[X.len,←Nat.add_mul];exact hle
     have fM:=aa2 (ty:=ty) (o:=0) X br yr n6.symm hw wl (by rw[Nat.zero_add];exact Lr)
     rw[Nat.zero_add] at fM
     let dx:Array Value:=(a7.toList.take (blk.rows.length*z.length)++news++a7.toList.drop (blk.rows.length*z.length+news.length)).toArray
     have K_: ∀k,dx[k]?=if k<blk.rows.length*z.length then a7.toList[k]? else if k<blk.rows.length*z.length+news.length then news[k - blk.rows.length*z.length]? else a7.toList[k]?:=by
      intro k
      show(List.toArray _)[k]?=_
      rw[List.getElem?_toArray,xk (by simpa using Lr)]
     obtain⟨E',eN,bm,rF,rG,pk,nj,yE,AR,hml⟩:=OS (w':=E.w.setRow c dx) (x:=some c) (blk':=⟨g+1,z.length,blk.rows++cg⟩) aR bY hm hb (by show g+1=_;rw[hg]) mM.symm rfl rfl rfl (by simp)
      (fun c' qf=>setRow_other _ _ _ _ (fun e=>qf (by rw[e]))) (fun c' qf=>by
       cases qf
       refine⟨dx,jJ,setRow_heap _ _ _ _ _ _ hw,?_,by show(blk.rows++cg).length≤_;rw[List.length_append];omega,fun k row aK=> ?_,fun k j row a aK aM=> ?_⟩
       ·rw[←mc]
        show(List.toArray _).size=_
        simp;omega
       ·have aK:(blk.rows++cg)[k]?=some row:=aK
        rcases Nat.lt_or_ge k blk.rows.length with bf | AX
        ·rw[List.getElem?_append_left bf] at aK;exact gl.1 k row aK
        ·rw[List.getElem?_append_right AX] at aK;rw[cQ];exact(fg row (List.mem_of_getElem? aK)).1
       ·have aK:(blk.rows++cg)[k]?=some row:=aK
        rcases Nat.lt_or_ge k blk.rows.length with bf | AX
        ·rw[List.getElem?_append_left bf] at aK
         obtain⟨u,hu,hv⟩:=gl.2 k j row a aK aM
         refine⟨u,?_,hv⟩
         have oD:j<z.length:=by rw[←cQ,←gl.1 k row aK];exact(List.getElem?_eq_some_iff.1 aM).1
         have:k*z.length+j<blk.rows.length*z.length:=by
          calc k*z.length+j<k*z.length+z.length:=by omega
           _=(k+1)*z.length:=by rw[Nat.add_mul,Nat.one_mul]
           _≤blk.rows.length*z.length:=Nat.mul_le_mul_right _ (by omega)
         rw[cQ] at hu ⊢
         rw[K_,if_pos this];simpa using hu
        ·rw[List.getElem?_append_right AX] at aK
         obtain⟨u,hu,hv,_⟩:=X.rel _ j row a aK aM
         refine⟨u,?_,hv⟩
         have kz:=(List.getElem?_eq_some_iff.1 hu).1
         have n4:k*z.length+j=blk.rows.length*z.length+((k - blk.rows.length)*z.length+j):=by
          rw[←Nat.add_assoc,←Nat.add_mul];congr 2;omega
         rw[cQ,K_,n4,if_neg (by omega),if_pos (by omega),Nat.add_sub_cancel_left];exact hu)
     refine⟨_,_,_,E',hK,by rw[eN];rw[Nat.zero_mul];exact fM,bm,rF,rG,.inr ⟨pk.symm,.inr ⟨c,cap,by rw[nj];exact hm,by simp,wl,(fun h=>by cases h),by rw[AR];omega⟩⟩,hml⟩
    ·
     refine out (some ⟨c,0,none⟩) blk.rows cap (a7.toList.take (blk.rows.length*z.length)).toArray b (g+1) _ (by rw[Nat.zero_mul]) ?_ ?_ (fun row aK=> ?_) (fun i j row a h1 h2=> ?_) (by omega) hby gZ (by rw[List.getElem?_set_self qe]) (fun cj dZ=>List.getElem?_set_ne (fun h=>dZ h.symm)) (fun _=>by simp) (by simp) (.inr (by omega)) hK
     ·refine run_firstCells_some (P:=P) E.w.drew z.length blk.rows.length ⟨c,0,none⟩ blk.rows.length cap _ ?_ (fun k v hk=> ?_)
      ·have:blk.rows.length*z.length≤a7.size:=by rw[mc,cQ];exact Nat.mul_le_mul_right _ nY
       simp;omega
      ·rw[List.getElem?_take] at hk
       split at hk
       ·rw[nI,Nat.zero_add]
        exact cell_of (w:=E.w) hw (by simpa using hk)
       ·cases hk
     ·have:blk.rows.length*z.length≤a7.size:=by rw[mc,cQ];exact Nat.mul_le_mul_right _ nY
      simp;omega
     ·obtain⟨k,hk⟩:=List.mem_iff_getElem?.1 aK
      rw[←cQ];exact gl.1 k row hk
     ·obtain⟨u,hu,hv⟩:=gl.2 i j row a h1 h2
      refine⟨u,?_,hv⟩
      have hi:=(List.getElem?_eq_some_iff.1 h1).1
      have aM:j<z.length:=by rw[←cQ,←gl.1 i row h1];exact(List.getElem?_eq_some_iff.1 h2).1
      have:i*z.length+j<blk.rows.length*z.length:=by
       calc i*z.length+j<i*z.length+z.length:=by omega
        _=(i+1)*z.length:=by rw[Nat.add_mul,Nat.one_mul]
        _≤blk.rows.length*z.length:=Nat.mul_le_mul_right _ (by omega)
      rw[List.getElem?_toArray,List.getElem?_take,if_pos this,Array.getElem?_toList,←cQ]
      exact hu
 | _=>exact h.elim
def CP (E:Env) (o:Oper) (a:Act) (K:oh Prop):Act→World→Prop:=fun ia w'=>
 ∃v u L' H' E',K v L' H'∧E'.w=w'∧Step E E'∧SimH E' H'∧SimL E' L'∧V3 E' v u∧ia=a.put o.dst u∧ ∀t,o.dst≠some t→E'.mL t=E.mL t
def Ab:List Nat→Nat→Option Nat
 | [],_=>none
 | x::r,t=>match Nat.ble 2000000 x with
  | true=>(match Nat.beq ((x - 2000000)%1000) t with
   | true=>some ((x - 2000000) / 1000)
   | false=>Ab r t)
  | false=>Ab r t
def uy (esc:List Nat) (dst:Option Nat) (cells:List AV) (L:List (Nat×List AV)) (H:List Blk) (K:oh Prop):Prop:=
 if cells.all iX=true then match dst with
  | none=>False
  | some t=>match Ab esc t with
   | some j=>cU H[j]? fun blk=>K (.ptr j (blk.bF+1) 0 0) L (H.set j ⟨blk.bF+1,cells.length,[cells]⟩)
   | none=>if esc.contains t=true then K (.ptr H.length 0 0 0) L (H++[⟨0,cells.length,[cells]⟩]) else
    match eK L t with
    | none=>K (.fx t 0) ((t,cells)::L) H
    | some _=>False
 else False
theorem SimL.none {E:Env} {L:List (Nat×List AV)} (h:SimL E L) {t:Nat} (aH:eK L t=none):E.mL t=none:=by
 cases hm:E.mL t with
 | none=>rfl
 | some c=>
  obtain⟨cells,a7,ty,h1,_⟩:=h t c hm
  rw[aH] at h1;cases h1
theorem Iz {E:Env} {cells:List AV} {vs:List Value} (hs:cells.all iX=true) (h:aD (cC E) cells vs):aD (cC E.b3) cells vs:=
 ⟨h.1,fun i a v a3 hv=>Iy (List.all_eq_true.1 hs a (List.mem_of_getElem? a3)) (h.2 i a v a3 hv)⟩
theorem NP {E:Env} {H:List Blk} {L:List (Nat×List AV)} {esc:List Nat} {dst:Option Nat} {cells:List AV} {a7:Array Value} {ty:TypeId} {K:AV→List (Nat×List AV)→List Blk→Prop}
  (aR:SimH E H) (bY:SimL E L) (hc:aD (cC E) cells a7.toList) (h:uy esc dst cells L H K):
  ∃v L' H' E',K v L' H'∧E'.w=E.w.alloc (.cells a7 ty (0,0))∧Step E E'∧SimH E' H'∧SimL E' L'∧V3 E' v (.pointer (some ⟨E.w.heap.size,0,none⟩))∧ ∀s,dst≠some s→E'.mL s=E.mL s:=by
 unfold uy at h
 split at h
 case isFalse=>exact h.elim
 case isTrue hs=>
 have qf:=Iz hs hc
 cases dst with
 | none=>exact h.elim
 | some t=>
  have h:match Ab esc t with
   | some j=>cU H[j]? fun blk=>K (.ptr j (blk.bF+1) 0 0) L (H.set j ⟨blk.bF+1,cells.length,[cells]⟩)
   | none=>if esc.contains t=true then K (.ptr H.length 0 0 0) L (H++[⟨0,cells.length,[cells]⟩]) else(match eK L t with
    | none=>K (.fx t 0) ((t,cells)::L) H
    | some _=>False):=h
  split at h
  ·rename_i j V_
   obtain⟨blk,yi,hK⟩:=fs h
   have oD:=(List.getElem?_eq_some_iff.1 yi).1
   have Wp:=aR.e4 j blk yi
   have hlen:a7.size=cells.length:=by have:=hc.1;simp at this;exact this.symm
   obtain⟨E',bB,e2,dK,iM,ig,mF,Ap,tE,_,hml⟩:=wJ (H:=H) (H':=H.set j ⟨blk.bF+1,cells.length,[cells]⟩) (b:=j) (cap:=1) (blk:=⟨blk.bF+1,cells.length,[cells]⟩) aR bY (m9.alloc E.w (.cells a7 ty (0,0)))
    (by rw[List.getElem?_set];simp[oD]) (fun cj dZ=>by rw[List.getElem?_set,if_neg (fun e=>dZ e.symm)]) (fun _=>by simp) (by simp) (.inr (by show E.bF j<blk.bF+1;omega)) (by simp[hlen]) (by simp)
    ⟨fun i row aK=>by
      cases i with
      | zero=>simp at aK;subst aK;rfl
      | succ i=>simp at aK,
     fun i j row a aK aM=>by
      cases i with
      | zero=>
       simp at aK;subst aK
       obtain⟨u,hu,hv⟩:=qf.get aM
       exact⟨u,by simpa using hu,hv⟩
      | succ i=>simp at aK⟩
   refine⟨_,_,_,E',hK,bB,e2,dK,iM,.inr ⟨ig.symm,E.w.heap.size,mF,?_⟩,fun s _=>by rw[hml]⟩
   rw[Nat.zero_mul]
  split at h
  ·have hlen:a7.size=cells.length:=by have:=hc.1;simp at this;exact this.symm
   have yb:SimH E (H++[⟨0,cells.length,[cells]⟩]):=aR.snoc rfl
   obtain⟨we,pn⟩:=aR.fresh H.length (Nat.le_refl _)
   obtain⟨E',bB,e2,dK,iM,ig,mF,Ap,tE,_,hml⟩:=wJ (H:=H++[⟨0,cells.length,[cells]⟩]) (H':=H++[⟨0,cells.length,[cells]⟩]) (b:=H.length) (cap:=1) (blk:=⟨0,cells.length,[cells]⟩) yb bY (m9.alloc E.w (.cells a7 ty (0,0)))
    (by simp) (fun _ _=>rfl) (fun _=>rfl) (Nat.le_refl _) (.inl ⟨we,pn.symm⟩) (by simp[hlen]) (by simp)
    ⟨fun i row aK=>by
      cases i with
      | zero=>simp at aK;subst aK;rfl
      | succ i=>simp at aK,
     fun i j row a aK aM=>by
      cases i with
      | zero=>
       simp at aK;subst aK
       obtain⟨u,hu,hv⟩:=qf.get aM
       exact⟨u,by simpa using hu,hv⟩
      | succ i=>simp at aK⟩
   refine⟨_,_,_,E',h,bB,e2,dK,iM,.inr ⟨ig.symm,E.w.heap.size,mF,?_⟩,fun s _=>by rw[hml]⟩
   rw[Nat.zero_mul]
  ·cases hg:eK L t with
   | some x=>rw[hg] at h;exact h.elim
   | none=>
    rw[hg] at h
    have hm:=bY.none hg
    obtain⟨E',bB,e2,dK,iM,ig,_,hml⟩:=NO (L:=(t,cells)::L) (t:=t) (cells:=cells) aR (bY.cons hm) (m9.alloc E.w (.cells a7 ty (0,0))) (by simp[eK]) hm qf
    exact⟨_,_,_,E',h,bB,e2,dK,iM,ig,fun s hs=>hml s fun e=>hs (by rw[e])⟩
def mz:AV→AV
 | .bC rows _ fr=> .bC rows false fr
 | a=>a
theorem cC.mz {E:Env} {a:AV} {v:Value} (h:cC E a v):cC E (mz a) v:=by
 cases a with
 | bC rows full fr=>
  have h:bH E.w E.PA E.PF (.bC rows full fr) v:=h
  cases h with
  | bC f_ gK hl cQ e9 dS=>exact bH.bC f_ gK (fun h=>by cases h) cQ e9 dS
 | _=>exact h
theorem aD.mz {E:Env} {l:List AV} {m:List Value} (h:aD (cC E) l m):aD (cC E) (l.map mz) m:=by
 refine⟨by rw[List.length_map];exact h.1,fun i a v a3 hv=> ?_⟩
 rw[List.getElem?_map] at a3
 cases aL:l[i]? with
 | none=>rw[aL] at a3;cases a3
 | some b=>rw[aL] at a3;cases a3;exact(h.2 i b v aL hv).mz
def wH (P:Program) (t:TypeId) (l c:AV) (L:List (Nat×List AV)) (H:List Blk) (K:oh Prop):Prop:=
 cU (jf P t) fun e=>cU (m6 P e) fun z=>if z.length=P.cellsOf e∧z.all iX=true then match l,c with
  | .int _ l,.int _ c=>0≤l∧l≤c∧(P.bytesOf e:Int)*c≤140737488355328∧c≤4611686018427387904∧K (.ref H.length 0 0 l.toNat false) L (H++[⟨0,z.length,List.replicate l.toNat (z.map mz)⟩])
  | _,_=>False
 else False
theorem ZK (z:Array Value) (n k:Nat) (hk:k<n):(madeCells z n)[k]?=some (z[k%z.size]!):=by
 simp[madeCells,hk]
theorem ZU {P:Program} {E:Env} {H:List Blk} {L:List (Nat×List AV)} {t:TypeId} {l c:AV} {BB JV:Value} {K:AV→List (Nat×List AV)→List Blk→Prop}
  (aR:SimH E H) (bY:SimL E L) (aL:V3 E l BB) (hc:V3 E c JV) (h:wH P t l c L H K):
  ∃v L' H' E' u,K v L' H'∧(Instr.makeSlice t BB JV).run P E.w= .ok u E'.w∧Step E E'∧SimH E' H'∧SimL E' L'∧V3 E' v u∧E'.mL=E.mL:=by
 obtain⟨e,he,h⟩:=fs h
 obtain⟨z,aP,h⟩:=fs h
 split at h
 case isFalse=>exact h.elim
 case isTrue hb=>
 obtain⟨n6,Xn⟩:=hb
 cases l with
 | int lW l=>
  cases c with
  | int e6 c=>
   obtain⟨aT,h1,h2,aN,hK⟩:=(show 0≤l∧l≤c∧(P.bytesOf e:Int)*c≤140737488355328∧c≤4611686018427387904∧K (.ref H.length 0 0 l.toNat false) L (H++[⟨0,z.length,List.replicate l.toNat (z.map mz)⟩]) from h)
   obtain rfl:=aL.rM
   obtain rfl:=hc.rM
   obtain⟨i,v,q1,q2,q3,q4⟩:=vg (E:=E) aP
   have ak:=(Iz Xn q4).mz
   have uj:v.cells.size=z.length:=by rw[q3];simp
   have wa:i.size=z.length:=by rw[n6];simp[Program.cellsOf,q1]
   have hby:P.bytesOf e=i.bytes:=by simp[Program.bytesOf,q1]
   have hu:=sl he
   have fM:=run_make (P:=P) E.w t e i v hu q1 q2 lW e6 l c aT h1 (by rw[hby] at h2;omega) (by omega)
   have yb:SimH E (H++[⟨0,z.length,List.replicate l.toNat (z.map mz)⟩]):=aR.snoc rfl
   obtain⟨we,pn⟩:=aR.fresh H.length (Nat.le_refl _)
   have Lq:l.toNat≤c.toNat:=by omega
   obtain⟨E',bB,e2,dK,iM,ig,mF,Ap,tE,_,hml⟩:=wJ (H:=H++[⟨0,z.length,List.replicate l.toNat (z.map mz)⟩]) (H':=H++[⟨0,z.length,List.replicate l.toNat (z.map mz)⟩]) (b:=H.length) (cap:=c.toNat) (blk:=⟨0,z.length,List.replicate l.toNat (z.map mz)⟩) yb bY (m9.alloc E.w (.cells (madeCells v.cells (c.toNat*i.size)) e (0,0)))
    (by simp) (fun _ _=>rfl) (fun _=>rfl) (Nat.le_refl _) (.inl ⟨we,pn.symm⟩) (by rw[size_madeCells,wa]) (by simpa using Lq)
    ⟨fun iO row aK=>by
      have aK:(List.replicate l.toNat (z.map mz))[iO]?=some row:=aK
      rw[List.getElem?_replicate] at aK
      split at aK
      ·cases aK;exact List.length_map ..
      ·exact absurd aK (fun h=>by cases h),
     fun iO j row a aK aM=>by
      have aK:(List.replicate l.toNat (z.map mz))[iO]?=some row:=aK
      rw[List.getElem?_replicate] at aK
      split at aK
      ·rename_i hi
       cases aK
       have yt:=(List.getElem?_eq_some_iff.1 aM).1
       rw[List.length_map] at yt
       obtain⟨u,hu,hv⟩:=ak.get aM
       refine⟨u,?_,hv⟩
       have bf:iO*z.length+j<c.toNat*z.length:=by
        calc iO*z.length+j<iO*z.length+z.length:=by omega
         _=(iO+1)*z.length:=by rw[Nat.add_mul,Nat.one_mul]
         _≤c.toNat*z.length:=Nat.mul_le_mul_right _ (by omega)
       show(madeCells v.cells (c.toNat*i.size))[iO*z.length+j]?=_
       rw[wa,ZK _ _ _ bf,uj,show(iO*z.length+j)%z.length=j by rw[Nat.mul_comm,Nat.mul_add_mod,Nat.mod_eq_of_lt yt],←hu,Array.getElem?_toList,getElem!_pos v.cells j (by omega),Array.getElem?_eq_getElem]
      ·exact absurd aK (fun h=>by cases h)⟩
   refine⟨_,_,_,E',_,hK,by rw[fM,bB],e2,dK,iM,.inr ⟨ig.symm,.inr ⟨E.w.heap.size,c.toNat,mF,by rw[Nat.zero_mul],Lq,(fun h=>by cases h),by rw[tE];omega⟩⟩,hml⟩
  | _=>exact h.elim
 | _=>exact h.elim
def uT:List Nat→Option Nat
 | []=>none
 | x::r=>match Nat.ble 1000000 x with
  | true=>some (x - 1000000)
  | false=>uT r
def ZA (xe:Option Nat) (jx:Bool) (n sz:Nat) (rows:List (List AV)) (L:List (Nat×List AV)) (H:List Blk) (K:oh Prop):Prop:=match xe with
 | none=>K (.ref H.length 0 0 n jx) L (H++[⟨0,sz,rows⟩])
 | some j=>cU H[j]? fun blk=>K (.ref j (blk.bF+1) 0 n true) L (H.set j ⟨blk.bF+1,sz,rows⟩)
def tI (esc:List Nat) (dst:Option Nat):Bool:=match dst with
 | none=>false
 | some d=>esc.any fun x=>Nat.beq x (500000+d)
def tC (P:Program) (fr:Bool) (xe:Option Nat) (t:TypeId) (n:Nat) (parts:List (Nat×AV)) (L:List (Nat×List AV)) (H:List Blk) (K:oh Prop):Prop:=
 cU (jf P t) fun e=>cU (m6 P e) fun z=>if z.length=P.cellsOf e∧n*z.length≤1000000∧n≤1000000 then
  cU (o9 (fun i=>some (i*z.length,z.length)) ((List.range (n*z.length)).map fun i=>z.getD (i%z.length) .undef) parts) fun cells=>
   if(bif fr then false else cells.all jv)=true then K (.bC (chunk z.length n (cells.map ko)) true (cells.all nR)) L H else
   if cells.all iX=true then ZA xe (!fr) n z.length (chunk z.length n cells) L H K else False
 else False
theorem Tv {size n i:Nat} {cells row:List AV} (aL:cells.length=n*size) (aK:(chunk size n cells)[i]?=some row):row.length=size:=by
 unfold chunk at aK
 rw[List.getElem?_map] at aK
 cases ak:(List.range n)[i]? with
 | none=>rw[ak] at aK;cases aK
 | some k=>
  have hk:=(List.getElem?_eq_some_iff.1 ak).1
  have hi:k=i:=by have:=(List.getElem?_eq_some_iff.1 ak).2;simpa using this.symm
  rw[ak] at aK;cases aK
  simp only[List.length_take,List.length_drop]
  have b9:i<n:=by simpa using hk
  rw[aL,hi]
  have:(i+1)*size≤n*size:=Nat.mul_le_mul_right _ b9
  rw[Nat.add_mul,Nat.one_mul] at this
  omega
theorem S3 {P:Program} {fr:Bool} {xe:Option Nat} {E:Env} {H:List Blk} {L:List (Nat×List AV)} {t:TypeId} {n:Nat} {parts:List (Nat×AV)} {kq:List (Nat×Value)} {K:AV→List (Nat×List AV)→List Blk→Prop} (aR:SimH E H) (bY:SimL E L)
  (aI:aD (fun a b=>a.1=b.1∧V2 E a.2 b.2) parts kq) (h:tC P fr xe t n parts L H K):
  ∃v u L' H' E',K v L' H'∧(Instr.buildSlice t n kq.toArray).run P E.w= .ok u E'.w∧Step E E'∧SimH E' H'∧SimL E' L'∧V3 E' v u∧E'.mL=E.mL:=by
 obtain⟨e,he,h⟩:=fs h
 obtain⟨z,aP,h⟩:=fs h
 split at h
 case isFalse=>exact h.elim
 case isTrue hb=>
 obtain⟨cells,hf,h⟩:=fs h
 split at h
 case isTrue hby=>
  have hby:cells.all jv=true:=by cases fr with
   | true=>cases hby
   | false=>exact hby
  have hv:vy P t n parts (fun r=>K r L H):=by
   refine ed he (ed aP ?_)
   rw[if_pos hb]
   refine ed hf ?_
   rw[if_pos hby];exact h
  obtain⟨r,u,E',hK,aK,ak,aN⟩:=JE aR aI hv
  exact⟨r,u,L,H,E',hK,aK,ak.step,ak.simH aR,ak.simL aR bY,aN,ak.mL⟩
 case isFalse=>
 split at h
 case isFalse=>exact h.elim
 case isTrue hs=>
 obtain⟨hI,dS,fM,hlen⟩:=S6 aI he aP hb.1 hb.2 hf
 have nY:(chunk z.length n cells).length=n:=by simp[chunk]
 have EX:hI.size=n*z.length:=by have:=dS.1;simp at this;omega
 have uc:vm E z.length (chunk z.length n cells) hI:=⟨fun i row aK=>Tv hlen aK,fun i j row a aK aM=>by
   obtain⟨hi,yt,hc⟩:=JM aK aM
   obtain⟨u,hu,hv⟩:=dS.get hc
   exact⟨u,by rw[Array.getElem?_toList] at hu;exact hu,hv⟩⟩
 cases xe with
 | none=>
  have yb:SimH E (H++[⟨0,z.length,chunk z.length n cells⟩]):=aR.snoc rfl
  obtain⟨we,pn⟩:=aR.fresh H.length (Nat.le_refl _)
  obtain⟨E',bB,e2,dK,iM,ig,mF,Ap,tE,_,hml⟩:=wJ (H:=H++[⟨0,z.length,chunk z.length n cells⟩]) (H':=H++[⟨0,z.length,chunk z.length n cells⟩]) (b:=H.length) (cap:=n) (blk:=⟨0,z.length,chunk z.length n cells⟩) yb bY (m9.alloc E.w (.cells hI e (0,0)))
   (by simp) (fun _ _=>rfl) (fun _=>rfl) (Nat.le_refl _) (.inl ⟨we,pn.symm⟩) EX (by rw[nY];exact Nat.le_refl _) uc
  exact⟨_,_,_,_,E',h,by rw[fM,bB],e2,dK,iM,.inr ⟨ig.symm,.inr ⟨E.w.heap.size,n,mF,by rw[Nat.zero_mul],Nat.le_refl _,(fun _=>rfl),by rw[tE];omega⟩⟩,hml⟩
 | some j=>
  obtain⟨blk,yi,hK⟩:=fs (show cU H[j]? fun blk=>K (.ref j (blk.bF+1) 0 n true) L (H.set j ⟨blk.bF+1,z.length,chunk z.length n cells⟩) from h)
  have oD:=(List.getElem?_eq_some_iff.1 yi).1
  have Wp:=aR.e4 j blk yi
  obtain⟨E',bB,e2,dK,iM,ig,mF,Ap,tE,_,hml⟩:=wJ (H:=H) (H':=H.set j ⟨blk.bF+1,z.length,chunk z.length n cells⟩) (b:=j) (cap:=n) (blk:=⟨blk.bF+1,z.length,chunk z.length n cells⟩) aR bY (m9.alloc E.w (.cells hI e (0,0)))
   (by rw[List.getElem?_set];simp[oD]) (fun cj dZ=>by rw[List.getElem?_set,if_neg (fun e=>dZ e.symm)]) (fun _=>by simp) (by simp) (.inr (by show E.bF j<blk.bF+1;omega)) EX (by rw[nY];exact Nat.le_refl _) uc
  exact⟨_,_,_,_,E',hK,by rw[fM,bB],e2,dK,iM,.inr ⟨ig.symm,.inr ⟨E.w.heap.size,n,mF,by rw[Nat.zero_mul],Nat.le_refl _,(fun _=>rfl),by rw[tE];omega⟩⟩,hml⟩
def pG:AV→Bool
 | .bC _ _ fr=>fr
 | .fx _ _ | .dr _ _ | .agg _ | .tup _ | .fn _ _=>false
 | _=>true
def iD (k:Nat):AV→AV
 | .ref b g o n f=> .ref (k+b) g o n f
 | .ptr b g r c=> .ptr (k+b) g r c
 | a=>a
def wV:AV→Bool
 | .agg l=>l.all pG
 | a=>pG a
def ny (k:Nat):AV→AV
 | .agg l=> .agg (l.map (iD k))
 | a=>iD k a
def wW:AV→Bool
 | .tup l=>l.all wV
 | a=>wV a
def mq (k:Nat):AV→AV
 | .tup l=> .tup (l.map (ny k))
 | a=>ny k a
def k8 (k:Nat) (b:Blk):Blk:=⟨b.bF,b.sz,b.rows.map fun row=>row.map (iD k)⟩
def sR (H:List Blk):Bool:=H.all fun b=>b.rows.all fun row=>row.all pG
def Env.join (E E1:Env) (n:Nat):Env:=
 {w:=E1.w,PA:=fun c=>E.PA c∨E1.PF c,PF:=fun c=>E.PF c∨E1.PF c
  m:=fun b=>if b<n then E.m b else E1.m (b - n),bF:=fun b=>if b<n then E.bF b else E1.bF (b - n)
  sz:=fun b=>if b<n then E.sz b else E1.sz (b - n),cp:=fun b=>if b<n then E.cp b else E1.cp (b - n),mL:=E.mL}
section
variable {E E1:Env} {n:Nat}
theorem Y6 {b:Nat} (h:b<n):(E.join E1 n).m b=E.m b∧(E.join E1 n).bF b=E.bF b∧(E.join E1 n).sz b=E.sz b∧(E.join E1 n).cp b=E.cp b:=⟨if_pos h,if_pos h,if_pos h,if_pos h⟩
theorem F4 (b:Nat):(E.join E1 n).m (n+b)=E1.m b∧(E.join E1 n).bF (n+b)=E1.bF b∧(E.join E1 n).sz (n+b)=E1.sz b∧(E.join E1 n).cp (n+b)=E1.cp b:=by
 have h: ¬n+b<n:=by omega
 have e:n+b - n=b:=by omega
 refine⟨?_,?_,?_,?_⟩<;>(unfold Env.join;simp only[if_neg h,e])
theorem F5 {E':Env} (hN:E'=E.join E1 n) {a:AV} {v:Value} (aC:pG a=true) (hv:cC E1 a v):cC E' (iD n a) v:=by
 have n5: ∀{a:AV} {v:Value},pG a=true→bH E1.w E1.PA E1.PF a v→bH E'.w E'.PA E'.PF a v:=by
  intro a v aC h
  subst hN
  cases h with
  | undef=>exact .undef _
  | int=>exact .int _ _
  | bool=>exact .bool _
  | str=>exact .str _
  | fW=>exact .fW
  | gp=>exact .gp
  | @bC _ _ PB rows full fresh A cap sz vs f_ gK hl cQ e9 dS=>
   have hf:fresh=true:=aC
   refine .bC (PB:=PB) (sz:=sz) (vs:=vs) (fun c hc=> ?_) gK hl cQ e9 dS
   have:=f_ c hc
   rw[if_pos hf] at this ⊢
   exact .inr this
  | dr=>cases aC
  | fn=>cases aC
 cases a with
 | ref b g off m full=>
  subst hN
  obtain⟨e5,a9,n7,sI⟩:=F4 (E:=E) (E1:=E1) (n:=n) b
  show fl (E.join E1 n) (.ref (n+b) g off m full) v
  rcases(show fl E1 (.ref b g off m full) v from hv) with⟨h,k⟩ | ⟨h,k⟩
  ·exact .inl ⟨by rw[a9];exact h,k⟩
  ·refine .inr ⟨by rw[a9];exact h,?_⟩
   rw[e5,n7,sI];exact k
 | ptr b g r c=>
  subst hN
  obtain⟨e5,a9,n7,sI⟩:=F4 (E:=E) (E1:=E1) (n:=n) b
  show fl (E.join E1 n) (.ptr (n+b) g r c) v
  rcases(show fl E1 (.ptr b g r c) v from hv) with⟨h,k⟩ | ⟨h,k⟩
  ·exact .inl ⟨by rw[a9];exact h,k⟩
  ·refine .inr ⟨by rw[a9];exact h,?_⟩
   rw[e5,n7];exact k
 | fx t c=>cases aC
 | fn f c=>cases aC
 | agg l=>cases aC
 | tup l=>cases aC
 | dr l c=>cases aC
 | undef=>exact bH.undef _
 | int k m=>exact n5 (a:= .int k m) rfl hv
 | bool b=>exact n5 (a:= .bool b) rfl hv
 | str s=>exact n5 (a:= .str s) rfl hv
 | bC rows full fr=>exact n5 (a:= .bC rows full fr) aC hv
 | fW=>exact n5 (a:= .fW) rfl hv
 | gp=>exact n5 (a:= .gp) rfl hv
theorem Nc {E':Env} (hN:E'=E.join E1 n) {a:AV} {v:Value} (aC:wV a=true) (hv:V2 E1 a v):V2 E' (ny n a) v:=by
 by_cases hf: ∃l,a= .agg l
 ·obtain⟨l,rfl⟩:=hf
  obtain⟨vs,rfl,aI⟩:=hv
  refine⟨vs,rfl,by rw[List.length_map];exact aI.1,fun i x u hx hu=> ?_⟩
  rw[List.getElem?_map] at hx
  cases aL:l[i]? with
  | none=>simp[aL] at hx
  | some y=>
   simp[aL] at hx;subst hx
   exact F5 hN (List.all_eq_true.1 (show l.all pG=true from aC) y (List.mem_of_getElem? aL)) (aI.2 i y u aL hu)
 ·have bB:ny n a=iD n a:=by cases a<;>first | rfl | exact absurd ⟨_,rfl⟩ hf
  have e2:wV a=pG a:=by cases a<;>first | rfl | exact absurd ⟨_,rfl⟩ hf
  rw[o4 fun l e=>hf ⟨l,e⟩] at hv
  rw[bB]
  exact pV (F5 hN (e2▸aC) hv)
theorem Y7 {E':Env} (hN:E'=E.join E1 n) {a:AV} {v:Value} (aC:wW a=true) (hv:V3 E1 a v):V3 E' (mq n a) v:=by
 by_cases hf: ∃l,a= .tup l
 ·obtain⟨l,rfl⟩:=hf
  obtain⟨vs,rfl,aI⟩:=hv
  refine⟨vs,rfl,by rw[List.length_map];exact aI.1,fun i x u hx hu=> ?_⟩
  rw[List.getElem?_map] at hx
  cases aL:l[i]? with
  | none=>simp[aL] at hx
  | some y=>
   simp[aL] at hx;subst hx
   exact Nc hN (List.all_eq_true.1 (show l.all wV=true from aC) y (List.mem_of_getElem? aL)) (aI.2 i y u aL hu)
 ·have bB:mq n a=ny n a:=by cases a<;>first | rfl | exact absurd ⟨_,rfl⟩ hf
  have e2:wW a=wV a:=by cases a<;>first | rfl | exact absurd ⟨_,rfl⟩ hf
  rw[ot fun l e=>hf ⟨l,e⟩] at hv
  rw[bB]
  exact pW (Nc hN (e2▸aC) hv)
end
theorem Tk {P:Program} {f:FuncId} {args eh:List AV} {L:List (Nat×List AV)} {H:List Blk} {E:Env} {vs:List Value} {Q:AV→List Blk→Prop} (aR:SimH E H) (bY:SimL E L)
  (a3:aD (V2 E) args vs) (hs:aD (c3 L H) args eh) (h:dz P f eh [] fun r e3=>wW r=true∧sR e3=true∧Q r e3):
  Calls P f vs.toArray E.w fun e w'=> ∃r v e3 E',e= .returned v∧Q r e3∧E'.w=w'∧Step E E'∧SimH E' (H++e3.map (k8 H.length))∧SimL E' L∧V3 E' (mq H.length r) v∧E'.mL=E.mL:=by
 have tL:aD (V2 E.frozen) eh vs:=⟨hs.1▸a3.1,fun i x u hx hu=>by
  have bf:i<args.length:=by have:=(List.getElem?_eq_some_iff.1 hx).1;have:=hs.1;omega
  have aL:=List.getElem?_eq_getElem bf
  exact PL (Sub.refl L H) aR bY (hs.2 i _ x aL hx) (a3.2 i _ u aL hu)⟩
 refine(h.2 E.frozen vs (fun _=>rfl) (KH aR) tL).mono ?_
 rintro e w' ⟨r,v,e3,E1,rfl,⟨aC,yy,aK⟩,rfl,aH,fB,hv,bm⟩
 have yf: ∀c,E1.PF c→E.w.heap.size≤c∧c<E1.w.heap.size:=fun c hc=>⟨(bm.fD c hc).elim (fun h=>h.elim) id,fB.e0 c (fB.eS c hc)⟩
 have vW: ∀c,E1.gM c→E.w.heap.size≤c∧c<E1.w.heap.size:=fun c hc=>⟨(bm.qu c hc).elim (fun⟨b,hb⟩=>by cases hb) id,fB.gn c hc⟩
 have oE: ∀c,c<E.w.heap.size→E1.w.heap[c]?=E.w.heap[c]?:=fun c hc=>bm.e7 c hc (fun⟨b,hb⟩=>by cases hb) (fun⟨b,hb⟩=>by cases hb)
 have ke:=aR.gn
 have kf:=aR.g2
 generalize hN:E.join E1 H.length=E'
 have mP: ∀b,b<H.length→E'.m b=E.m b∧E'.bF b=E.bF b∧E'.sz b=E.sz b∧E'.cp b=E.cp b:=fun b hb=>hN▸Y6 hb
 have hE: ∀b,E'.m (H.length+b)=E1.m b∧E'.bF (H.length+b)=E1.bF b∧E'.sz (H.length+b)=E1.sz b∧E'.cp (H.length+b)=E1.cp b:=fun b=>hN▸F4 b
 have nn:E'.w=E1.w:=by rw[←hN];rfl
 have wE: ∀c,E'.PA c↔E.PA c∨E1.PF c:=fun c=>by rw[←hN];exact Iff.rfl
 have F2: ∀c,E'.PF c↔E.PF c∨E1.PF c:=fun c=>by rw[←hN];exact Iff.rfl
 have sJ:E'.mL=E.mL:=by rw[←hN];rfl
 have split: ∀b,b<H.length∨ ∃k,b=H.length+k:=fun b=>by
  rcases Nat.lt_or_ge b H.length with h | h
  ·exact .inl h
  ·exact .inr ⟨b - H.length,by omega⟩
 have Z4: ∀b x,E.m b=some x→b<H.length:=fun b x hb=>by
  rcases Nat.lt_or_ge b H.length with h | h
  ·exact h
  ·rw[(aR.fresh b h).1] at hb;cases hb
 have pv: ∀c,E'.gM c→E.gM c∨E1.gM c:=fun c ⟨b,hb⟩=>by
  rcases split b with h | ⟨k,rfl⟩
  ·exact .inl ⟨b,by rw[←(mP b h).1];exact hb⟩
  ·exact .inr ⟨k,by rw[←(hE k).1];exact hb⟩
 have g1:Step E E':=
  {le:=⟨fun c hc=>(wE c).2 (.inl hc),fun c hc=>(F2 c).2 (.inl hc),fun c hc=>by rw[nn];exact oE c (aR.e0 c hc),fun c hc=>by rw[nn];exact oE c (aR.e0 c (aR.eS c hc)),fun b=>by
     rcases split b with h | ⟨k,rfl⟩
     ·rw[(mP b h).2.1];exact Nat.le_refl _
     ·rw[(aR.fresh (H.length+k) (by omega)).2];exact Nat.zero_le _,fun b x hx _=>by
     have h:=Z4 b x hx
     exact⟨by rw[(mP b h).1];exact hx,(mP b h).2.2.1,(mP b h).2.2.2⟩,fun t c h=>by rw[sJ];exact h⟩
   os:=by rw[nn];exact bm.os
   tape:=by rw[nn];exact bm.tape
   output:=by rw[nn];exact bm.output
   size:=by rw[nn];exact bm.size
   e7:=fun c hc _ _=>by rw[nn];exact oE c hc
   ji:=fun b c hb=>by
    rcases split b with h | ⟨k,rfl⟩
    ·exact .inl (by rw[←(mP b h).1];exact hb)
    ·exact .inr (vW c ⟨k,by rw[←(hE k).1];exact hb⟩).1
   jA:=fun c ⟨t,br⟩=> .inl ⟨t,by rw[←sJ];exact br⟩
   fC:=fun c hc=>((wE c).1 hc).elim .inl fun h=> .inr (yf c h).1
   fD:=fun c hc=>((F2 c).1 hc).elim .inl fun h=> .inr (yf c h).1}
 have Ef: ∀b,b<H.length→(H++e3.map (k8 H.length))[b]?=H[b]?:=fun b hb=>List.getElem?_append_left hb
 have Ee: ∀k,(H++e3.map (k8 H.length))[H.length+k]?=(e3[k]?).map (k8 H.length):=fun k=>by
  rw[List.getElem?_append_right (by omega),List.getElem?_map];congr 2;omega
 refine⟨r,v,e3,E',rfl,aK,nn,g1,?_,?_,Y7 hN.symm aC hv,sJ⟩
 ·exact{
   heap:=fun b c hb=>by
    rcases split b with h | ⟨k,rfl⟩
    ·obtain⟨e5,a9,n7,sI⟩:=mP b h
     rw[e5] at hb
     obtain⟨blk,a7,ty,q1,dL,q2,q3,q4,cH,cV⟩:=aR.heap b c hb
     refine⟨blk,a7,ty,by rw[Ef b h];exact q1,by rw[n7];exact dL,by rw[nn,oE c (ke c ⟨b,hb⟩)];exact q2,by rw[n7,sI];exact q3,by rw[sI];exact q4,by rw[n7];exact cH,fun i j row a aK aM=> ?_⟩
     obtain⟨u,hu,EW⟩:=cV i j row a aK aM
     exact⟨u,by rw[n7];exact hu,EW.le g1.le.b3⟩
    ·obtain⟨e5,a9,n7,sI⟩:=hE k
     rw[e5] at hb
     obtain⟨blk,a7,ty,q1,dL,q2,q3,q4,cH,cV⟩:=fB.heap k c hb
     have WI: ∀row∈blk.rows,∀a∈row,pG a=true:=fun row aK a a3=>
      List.all_eq_true.1 (List.all_eq_true.1 (List.all_eq_true.1 yy blk (List.mem_of_getElem? q1)) row aK) a a3
     refine⟨k8 H.length blk,a7,ty,by rw[Ee k,q1];rfl,by rw[n7];exact dL,by rw[nn];exact q2,by rw[n7,sI];exact q3,by rw[sI];show(blk.rows.map _).length≤_;rw[List.length_map];exact q4,fun i row' aK=> ?_,fun i j row' ia aK aM=> ?_⟩
     ·have aK:(blk.rows.map fun row=>row.map (iD H.length))[i]?=some row':=aK
      rw[List.getElem?_map] at aK
      cases ak:blk.rows[i]? with
      | none=>simp[ak] at aK
      | some row=>
       simp[ak] at aK;subst aK
       rw[List.length_map,n7];exact cH i row ak
     ·have aK:(blk.rows.map fun row=>row.map (iD H.length))[i]?=some row':=aK
      rw[List.getElem?_map] at aK
      cases ak:blk.rows[i]? with
      | none=>simp[ak] at aK
      | some row=>
       simp[ak] at aK;subst aK
       rw[List.getElem?_map] at aM
       cases kh:row[j]? with
       | none=>simp[kh] at aM
       | some a=>
        simp[kh] at aM;subst aM
        obtain⟨u,hu,EW⟩:=cV i j row a ak kh
        refine⟨u,by rw[n7];exact hu,?_⟩
        have KX:E'.b3=E.b3.join E1.b3 H.length:=by rw[←hN];rfl
        exact F5 KX (WI row (List.mem_of_getElem? ak) a (List.mem_of_getElem? kh)) EW
   e4:=fun b blk hb=>by
    rcases split b with h | ⟨k,rfl⟩
    ·rw[Ef b h] at hb;rw[(mP b h).2.1];exact aR.e4 b blk hb
    ·rw[Ee k] at hb
     cases ak:e3[k]? with
     | none=>simp[ak] at hb
     | some y=>simp[ak] at hb;subst hb;rw[(hE k).2.1];exact fB.e4 k y ak
   ho:=fun b hb=>by
    rcases split b with h | ⟨k,rfl⟩
    ·rw[(mP b h).1] at hb
     obtain⟨blk,q1,q2⟩:=aR.ho b hb
     exact⟨blk,by rw[Ef b h];exact q1,by rw[(mP b h).2.2.1];exact q2⟩
    ·rw[(hE k).1] at hb
     obtain⟨blk,q1,q2⟩:=fB.ho k hb
     exact⟨k8 H.length blk,by rw[Ee k,q1];rfl,by rw[(hE k).2.2.1];exact q2⟩
   fresh:=fun b hb=>by
    rw[List.length_append,List.length_map] at hb
    rcases split b with h | ⟨k,rfl⟩
    ·omega
    ·rw[(hE k).1,(hE k).2.1];exact fB.fresh k (by omega)
   hR:=fun b cj c h1 h2=>by
    rcases split b with h | ⟨k,rfl⟩<;>rcases split cj with h' | ⟨kC,rfl⟩
    ·rw[(mP b h).1] at h1;rw[(mP cj h').1] at h2;exact aR.hR b cj c h1 h2
    ·rw[(mP b h).1] at h1;rw[(hE kC).1] at h2
     have:=ke c ⟨b,h1⟩;have:=(vW c ⟨kC,h2⟩).1;omega
    ·rw[(hE k).1] at h1;rw[(mP cj h').1] at h2
     have:=ke c ⟨cj,h2⟩;have:=(vW c ⟨k,h1⟩).1;omega
    ·rw[(hE k).1] at h1;rw[(hE kC).1] at h2;rw[fB.hR k kC c h1 h2]
   jB:=fun t jI c h1 h2=>by rw[sJ] at h1 h2;exact aR.jB t jI c h1 h2
   gN:=fun b t c h1 h2=>by
    rw[sJ] at h2
    rcases split b with h | ⟨k,rfl⟩
    ·rw[(mP b h).1] at h1;exact aR.gN b t c h1 h2
    ·rw[(hE k).1] at h1
     have:=kf c ⟨t,h2⟩;have:=(vW c ⟨k,h1⟩).1;omega
   hS:=fun c hc hi=>by
    rcases(wE c).1 hc with h | h<;>rcases pv c hi with h' | h'
    ·exact aR.hS c h h'
    ·have:=aR.e0 c h;have:=(vW c h').1;omega
    ·have:=ke c h';have:=(yf c h).1;omega
    ·exact fB.hS c (fB.eS c h) h'
   ij:=fun c hc ⟨t,br⟩=>by
    rw[sJ] at br
    rcases(wE c).1 hc with h | h
    ·exact aR.ij c h ⟨t,br⟩
    ·have:=kf c ⟨t,br⟩;have:=(yf c h).1;omega
   eS:=fun c hc=>(wE c).2 (((F2 c).1 hc).elim (fun h=> .inl (aR.eS c h)) .inr)
   e0:=fun c hc=>by
    rw[nn]
    rcases(wE c).1 hc with h | h
    ·exact Nat.lt_of_lt_of_le (aR.e0 c h) bm.size
    ·exact(yf c h).2
   gn:=fun c hc=>by
    rw[nn]
    rcases pv c hc with h | h
    ·exact Nat.lt_of_lt_of_le (ke c h) bm.size
    ·exact(vW c h).2
   g2:=fun c ⟨t,br⟩=>by
    rw[sJ] at br;rw[nn]
    exact Nat.lt_of_lt_of_le (kf c ⟨t,br⟩) bm.size}
 ·intro t c hm
  rw[sJ] at hm
  obtain⟨cells,a7,ty,q1,q2,q3⟩:=bY t c hm
  exact⟨cells,a7,ty,q1,by rw[nn,oE c (kf c ⟨t,hm⟩)];exact q2,q3.mono fun _ _ k=>k.le g1.le.b3⟩
theorem Th {P:Program} {f:FuncId} {args:List AV} {L:List (Nat×List AV)} {H:List Blk} {E:Env} {vs:List Value} {Q:AV→List Blk→Prop} (aR:SimH E H) (bY:SimL E L)
  (a3:aD (V2 E) args vs) (aH:args.all jX=true) (h:dz P f args H fun r H'=>wM r=true∧Q r H'):
  Calls P f vs.toArray E.w fun e w'=> ∃r v H' E',e= .returned v∧Q r H'∧E'.w=w'∧Step E E'∧SimH E' H'∧SimL E' L∧V3 E' r v∧E'.mL=E.mL:=by
 have tL:aD (V2 E.b3) args vs:=⟨a3.1,fun i a v h1 h2=>(a3.2 i a v h1 h2).b3 (List.all_eq_true.1 aH a (List.mem_of_getElem? h1))⟩
 refine(h.2 E.b3 vs (fun _=>rfl) aR.b3 tL).mono ?_
 rintro e w' ⟨r,v,H',E1,rfl,⟨WE,aK⟩,rfl,A9,fB,hv,bm⟩
 let E':Env:={E1 with mL:=E.mL}
 have KX:E'.b3=E1.b3:=rfl
 have kf:=aR.g2
 have qu: ∀c,E1.gM c→E.gM c∨E.w.heap.size≤c:=bm.qu
 have Wu: ∀c,E.kB c→E1.w.heap[c]?=E.w.heap[c]?:=fun c hc=>bm.e7 c (kf c hc) (fun⟨b,hb⟩=>by
  obtain⟨t,br⟩:=hc
  exact aR.gN b t c hb br) (fun⟨b,hb⟩=>by cases hb)
 have hle:E1.b3.gI E':=Env.BI E'
 have g1:Step E E':=
  {le:=⟨bm.le.fC,bm.le.fD,bm.le.tj,bm.le.wf,bm.le.bF,bm.le.m,fun _ _ h=>h⟩
   os:=bm.os,tape:=bm.tape,output:=bm.output,size:=bm.size
   e7:=fun c hc h1 h2=>bm.e7 c hc h1 (fun⟨b,hb⟩=>by cases hb)
   ji:=bm.ji
   jA:=fun c h=> .inl h
   fC:=bm.fC
   fD:=bm.fD}
 refine⟨r,v,H',E',rfl,aK,rfl,g1,?_,?_,?_,rfl⟩
 ·exact{fB with
   jB:=aR.jB
   gN:=fun b t c h1 h2=>by
    rcases qu c ⟨b,h1⟩ with⟨cj,h⟩ | h
    ·exact aR.gN cj t c h h2
    ·have:=kf c ⟨t,h2⟩;omega
   ij:=fun c hc ⟨t,br⟩=>by
    rcases bm.fC c hc with h | h
    ·exact aR.ij c h ⟨t,br⟩
    ·have h:E.w.heap.size≤c:=h
     have:=kf c ⟨t,br⟩;omega
   g2:=fun c hc=>Nat.lt_of_lt_of_le (kf c hc) bm.size}
 ·intro t c hm
  obtain⟨cells,a7,ty,q1,q2,q3⟩:=bY t c hm
  exact⟨cells,a7,ty,q1,by show E1.w.heap[c]?=_;rw[Wu c ⟨t,hm⟩];exact q2,q3.mono fun _ _ k=>k.le g1.le.b3⟩
 ·exact(hv.b3 WE).le hle
end Go.Proofs.Ytglpfccgmfhkdaa.Fw
