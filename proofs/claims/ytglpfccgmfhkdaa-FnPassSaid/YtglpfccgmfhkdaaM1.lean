/- The framework, part A: abstract values, how they stand for Go's values in a world, and what stays as it is when the world grows. -/
import Derived.WalkKit
import Derived.KernelRfl
import Derived.Orders
import Derived.Laws.StructEq
import Derived.ChangeArms
import Derived.ChangeShapes
import Derived.SizedLaws
import Derived.Below
import Derived.JoinedOf
import Derived.Test.YtglpfccgmfhkdaaProg
set_option linter.unusedVariables false
namespace Go.Proofs.Ytglpfccgmfhkdaa.Fw
open Go
inductive AV where
 | undef
 | int (k:IntKind) (n:Int)
 | bool (b:Bool)
 | str (s:ByteArray)
 | be (rows:List (List AV)) (full fresh:Bool)
 | ref (b g off n:Nat) (full:Bool)
 | ptr (b g row col:Nat)
 | e6 (t col:Nat)
 | cZ (cells:List AV) (col:Nat)
 | fu
 | fP
 | agg (cells:List AV)
 | tup (vs:List AV)
 | fn (f:FuncId) (caps:List AV)
 deriving Inhabited
structure Blk where
 bI:Nat
 sz:Nat
 rows:List (List AV)
 deriving Inhabited
structure St where
 T:List AV
 L:List (Nat×List AV)
 H:List Blk
def av {α β:Type} (R:α→β→Prop) (l:List α) (m:List β):Prop:=
 l.length=m.length∧ ∀(i:Nat) (a:α) (b:β),l[i]?=some a→m[i]?=some b→R a b
theorem av.nil {α β:Type} {R:α→β→Prop}:av R [] []:=⟨rfl,fun i a b h=>by simp at h⟩
theorem av.cons {α β:Type} {R:α→β→Prop} {a:α} {b:β} {l:List α} {m:List β} (h:R a b) (k:av R l m):av R (a::l) (b::m):=
 ⟨by simp[k.1],fun i x y hx bA=>by
  cases i with
  | zero=>simp at hx bA;subst hx;subst bA;exact h
  | succ i=>exact k.2 i x y (by simpa using hx) (by simpa using bA)⟩
theorem av.head {α β:Type} {R:α→β→Prop} {a:α} {b:β} {l:List α} {m:List β} (h:av R (a::l) (b::m)):R a b:=h.2 0 a b rfl rfl
theorem av.tail {α β:Type} {R:α→β→Prop} {a:α} {b:β} {l:List α} {m:List β} (h:av R (a::l) (b::m)):av R l m:=
 ⟨by simpa using h.1,fun i x y hx bA=>h.2 (i+1) x y (by simpa using hx) (by simpa using bA)⟩
theorem av.mono {α β:Type} {R vi:α→β→Prop} {l:List α} {m:List β} (h:av R l m) (aJ: ∀a b,R a b→vi a b):av vi l m:=
 ⟨h.1,fun i a b x y=>aJ _ _ (h.2 i a b x y)⟩
theorem av.get {α β:Type} {R:α→β→Prop} {l:List α} {m:List β} (h:av R l m) {i:Nat} {a:α} (a6:l[i]?=some a): ∃b,m[i]?=some b∧R a b:=by
 have hi:i<l.length:=(List.getElem?_eq_some_iff.1 a6).1
 have hm:i<m.length:=h.1▸hi
 exact⟨m[i],List.getElem?_eq_getElem hm,h.2 i a _ a6 (List.getElem?_eq_getElem hm)⟩
theorem av.uq {α β:Type} {R:α→β→Prop} {m:List β} (h:av R [] m):m=[]:=by
 have:=h.1;exact List.eq_nil_of_length_eq_zero (by simpa using this.symm)
theorem av.cons_inv {α β:Type} {R:α→β→Prop} {a:α} {l:List α} {m:List β} (h:av R (a::l) m): ∃b ft,m=b::ft∧R a b∧av R l ft:=by
 cases m with
 | nil=>have:=h.1;simp at this
 | cons b ft=>exact⟨b,ft,rfl,h.head,h.tail⟩
theorem av.append {α β:Type} {R:α→β→Prop} {l eR:List α} {m ft:List β} (h:av R l m) (k:av R eR ft):av R (l++eR) (m++ft):=by
 refine⟨by simp[h.1,k.1],fun i a b a6 hb=> ?_⟩
 rcases Nat.lt_or_ge i l.length with hi | hi
 ·rw[List.getElem?_append_left hi] at a6
  rw[List.getElem?_append_left (h.1▸hi)] at hb
  exact h.2 i a b a6 hb
 ·rw[List.getElem?_append_right hi] at a6
  rw[List.getElem?_append_right (h.1▸hi),←h.1] at hb
  exact k.2 _ a b a6 hb
theorem av.set {α β:Type} {R:α→β→Prop} {l:List α} {m:List β} (h:av R l m) (i:Nat) {a:α} {b:β} (aJ:R a b):av R (l.set i a) (m.set i b):=by
 refine⟨by simp[h.1],fun j x y hx bA=> ?_⟩
 by_cases aP:i=j
 ·subst aP
  rw[List.getElem?_set_self'] at hx bA
  cases aI:l[i]? with
  | none=>simp[aI] at hx
  | some J=>
   cases hm:m[i]? with
   | none=>simp[hm] at bA
   | some ZE=>simp[aI] at hx;simp[hm] at bA;subst hx;subst bA;exact aJ
 ·rw[List.getElem?_set_ne aP] at hx bA
  exact h.2 j x y hx bA
inductive bD (w:World):(Nat→Prop)→(Nat→Prop)→AV→Value→Prop where
 | undef {PA PF:Nat→Prop} (v:Value):bD w PA PF .undef v
 | int {PA PF:Nat→Prop} (k:IntKind) (n:Int):bD w PA PF (.int k n) (.int k n)
 | bool {PA PF:Nat→Prop} (b:Bool):bD w PA PF (.bool b) (.bool b)
 | str {PA PF:Nat→Prop} (s:ByteArray):bD w PA PF (.str s) (.string s)
 | be {PA PF PB:Nat→Prop} {rows:List (List AV)} {full fresh:Bool} {A:Option Addr} {cap sz:Nat} {vs:Nat→Nat→Value}
   (fV: ∀c,PB c→if fresh=true then PF c else PA c)
   (gD:rows.length≤cap∧rows.length≤4611686018427387904) (gQ:full=true→cap=rows.length)
   (cH: ∀(i:Nat) (row:List AV),rows[i]?=some row→row.length=sz)
   (eP:0<rows.length→ ∃c o,A=some ⟨c,o,none⟩∧PB c∧ ∀i j,i<rows.length→j<sz→w.cell? ⟨c,o+(i*sz+j),none⟩=some (vs i j))
   (dB: ∀(i j:Nat) (row:List AV) (a:AV),rows[i]?=some row→row[j]?=some a→bD w PB (fun _=>False) a (vs i j)):
   bD w PA PF (.be rows full fresh) (.slice A rows.length cap)
 | cZ {PA PF:Nat→Prop} {cells:List AV} {col c o:Nat} {vs:Nat→Value} (hc:PA c)
   (eP: ∀j,j<cells.length→w.cell? ⟨c,o+j,none⟩=some (vs j))
   (dB: ∀(j:Nat) (a:AV),cells[j]?=some a→bD w PA (fun _=>False) a (vs j)):bD w PA PF (.cZ cells col) (.pointer (some ⟨c,o+col,none⟩))
 | fu {PA PF:Nat→Prop}:bD w PA PF .fu (.pointer none)
 | fP {PA PF:Nat→Prop}:bD w PA PF .fP .nilIface
 | fn {PA PF:Nat→Prop} {f:FuncId} {caps:List AV} {vs:List Value} (aI:caps.length=vs.length)
   (dB: ∀(i:Nat) (a:AV) (v:Value),caps[i]?=some a→vs[i]?=some v→bD w PA (fun _=>False) a v):bD w PA PF (.fn f caps) (.func (.func f) #[] vs.toArray)
theorem G0 {w w':World} {c o:Nat} (h:w'.heap[c]?=w.heap[c]?):w'.cell? ⟨c,o,none⟩=w.cell? ⟨c,o,none⟩:=by
 simp[World.cell?,h]
theorem bD.mono {w w':World} {PA PF:Nat→Prop} {a:AV} {v:Value} (h:bD w PA PF a v):
  ∀{vf vg:Nat→Prop},(∀c,PA c→w'.heap[c]?=w.heap[c]?)→(∀c,PF c→w'.heap[c]?=w.heap[c]?)→(∀c,PA c→vf c)→(∀c,PF c→vg c)→bD w' vf vg a v:=by
 induction h with
 | undef v=>intros;exact .undef v
 | int k n=>intros;exact .int k n
 | bool b=>intros;exact .bool b
 | str s=>intros;exact .str s
 | @be PA PF PB rows full fresh A cap sz vs fV gD gQ cH eP dB bO=>
  intro vf vg hw B2 a6 hf
  have If: ∀c,PB c→w'.heap[c]?=w.heap[c]?:=fun c hc=>by
   have:=fV c hc
   split at this
   ·exact B2 c this
   ·exact hw c this
  refine .be (PB:=PB) (sz:=sz) (vs:=vs) (fun c hc=> ?_) gD gQ cH (fun aC=> ?_) (fun i j row a aJ aP=> ?_)
  ·have:=fV c hc
   split
   ·rename_i h;rw[if_pos h] at this;exact hf c this
   ·rename_i h;rw[if_neg h] at this;exact a6 c this
  ·obtain⟨c,o,e,hc,dZ⟩:=eP aC
   exact⟨c,o,e,hc,fun i j hi aP=>by rw[G0 (If c hc)];exact dZ i j hi aP⟩
  ·exact bO i j row a aJ aP If (fun c hc=>hc.elim) (fun c hc=>hc) (fun c hc=>hc)
 | @cZ PA PF cells col c o vs hc eP dB bO=>
  intro vf vg hw B2 a6 hf
  refine .cZ (a6 c hc) (vs:=vs) (fun j aP=> ?_) (fun j a aP=>bO j a aP hw (fun c hc=>hc.elim) a6 (fun c hc=>hc))
  rw[G0 (hw c hc)];exact eP j aP
 | fu=>intros;exact .fu
 | fP=>intros;exact .fP
 | fn aI dB bO=>
  intro vf vg hw B2 a6 hf
  exact .fn aI (fun i a v h1 h2=>bO i a v h1 h2 hw (fun c hc=>hc.elim) a6 (fun c hc=>hc))
theorem bD.one {w:World} {PA PF:Nat→Prop} {a:AV} {v:Value} (h:bD w PA PF a v) (hu:a≠ .undef):v.oneCell'=true:=by
 cases h<;>first | rfl | exact absurd rfl hu
structure Env where
 w:World
 PA:Nat→Prop
 PF:Nat→Prop
 m:Nat→Option (Option Nat)
 bI:Nat→Nat
 sz:Nat→Nat
 cp:Nat→Nat
 mL:Nat→Option Nat
def fa (E:Env):AV→Value→Prop
 | .ref b g off n full,v=>(g<E.bI b∧ ∃A cap,v= .slice A n cap)∨(g=E.bI b∧((E.m b=some none∧off=0∧n=0∧ ∃A,v= .slice A 0 0)∨
   ∃c cap,E.m b=some (some c)∧v= .slice (some ⟨c,off*E.sz b,none⟩) n cap∧n≤cap∧(full=true→cap=n)∧off+cap≤E.cp b))
 | .ptr b g r c,v=>(g<E.bI b∧ ∃bl o,v= .pointer (some ⟨bl,o,none⟩))∨(g=E.bI b∧ ∃bl,E.m b=some (some bl)∧v= .pointer (some ⟨bl,r*E.sz b+c,none⟩))
 | .e6 t c,v=> ∃bl,E.mL t=some bl∧v= .pointer (some ⟨bl,c,none⟩)
 | a,v=>bD E.w E.PA E.PF a v
def cG (E:Env):AV→Value→Prop
 | .fn f caps,v=> ∃vs:List Value,v= .func (.func f) #[] vs.toArray∧av (fa E) caps vs
 | a,v=>fa E a v
def V2 (E:Env):AV→Value→Prop
 | .agg cells,v=> ∃vs:List Value,v= .agg vs.toArray∧av (cG E) cells vs
 | a,v=>cG E a v
def V3 (E:Env):AV→Value→Prop
 | .tup l,v=> ∃vs:List Value,v= .tuple vs.toArray∧av (V2 E) l vs
 | a,v=>V2 E a v
structure Env.gB (E E':Env):Prop where
 fE: ∀c,E.PA c→E'.PA c
 fF: ∀c,E.PF c→E'.PF c
 sY: ∀c,E.PA c→E'.w.heap[c]?=E.w.heap[c]?
 wf: ∀c,E.PF c→E'.w.heap[c]?=E.w.heap[c]?
 bI: ∀b,E.bI b≤E'.bI b
 m: ∀b x,E.m b=some x→E'.bI b=E.bI b→E'.m b=some x∧E'.sz b=E.sz b∧E'.cp b=E.cp b
 mL: ∀t c,E.mL t=some c→E'.mL t=some c
theorem Env.gB.refl (E:Env):E.gB E:=⟨fun _ h=>h,fun _ h=>h,fun _ _=>rfl,fun _ _=>rfl,fun _=>Nat.le_refl _,fun _ _ h _=>⟨h,rfl,rfl⟩,fun _ _ h=>h⟩
theorem Env.gB.trans {A B C:Env} (h:A.gB B) (k:B.gB C):A.gB C:=
 ⟨fun c x=>k.fE c (h.fE c x),fun c x=>k.fF c (h.fF c x),fun c x=>(k.sY c (h.fE c x)).trans (h.sY c x),fun c x=>(k.wf c (h.fF c x)).trans (h.wf c x),
  fun b=>Nat.le_trans (h.bI b) (k.bI b),fun b x hx aO=>by
   have h1:B.bI b=A.bI b:=Nat.le_antisymm (aO▸k.bI b) (h.bI b)
   have h2:C.bI b=B.bI b:=aO.trans h1.symm
   obtain⟨aX,s1,nK⟩:=h.m b x hx h1
   obtain⟨bE,s2,j3⟩:=k.m b x aX h2
   exact⟨bE,s2.trans s1,j3.trans nK⟩,
  fun t c x=>k.mL t c (h.mL t c x)⟩
theorem fa.le {E E':Env} (h:E.gB E') {a:AV} {v:Value} (hv:fa E a v):fa E' a v:=by
 have mV: ∀a v,bD E.w E.PA E.PF a v→bD E'.w E'.PA E'.PF a v:=fun a v k=>k.mono h.sY h.wf h.fE h.fF
 cases a with
 | ref b g off n full=>
  rcases hv with⟨hv,h1⟩ | ⟨aO,hv⟩
  ·exact .inl ⟨Nat.lt_of_lt_of_le hv (h.bI b),h1⟩
  ·rcases Nat.lt_or_ge (E.bI b) (E'.bI b) with bg | fN
   ·refine .inl ⟨aO▸bg,?_⟩
    rcases hv with⟨hm,ax,rfl,A,rfl⟩ | ⟨c,cap,hm,rfl,h1,h2,aS⟩<;>exact⟨_,_,rfl⟩
   ·have he:E'.bI b=E.bI b:=Nat.le_antisymm fN (h.bI b)
    refine .inr ⟨by rw[he];exact aO,?_⟩
    rcases hv with⟨hm,ax,aC,A,hB⟩ | ⟨c,cap,hm,e,h1,h2,aS⟩
    ·exact .inl ⟨(h.m b _ hm he).1,ax,aC,A,hB⟩
    ·obtain⟨aX,s1,nK⟩:=h.m b _ hm he
     exact .inr ⟨c,cap,aX,by rw[s1];exact e,h1,h2,by rw[nK];exact aS⟩
 | ptr b g r c=>
  rcases hv with⟨hv,h1⟩ | ⟨aO,bl,hm,e⟩
  ·exact .inl ⟨Nat.lt_of_lt_of_le hv (h.bI b),h1⟩
  ·rcases Nat.lt_or_ge (E.bI b) (E'.bI b) with bg | fN
   ·exact .inl ⟨aO▸bg,_,_,e⟩
   ·have he:E'.bI b=E.bI b:=Nat.le_antisymm fN (h.bI b)
    obtain⟨aX,s1,nK⟩:=h.m b _ hm he
    exact .inr ⟨by rw[he];exact aO,bl,aX,by rw[s1];exact e⟩
 | e6 t c=>
  obtain⟨bl,hm,e⟩:=hv
  exact⟨bl,h.mL _ _ hm,e⟩
 | _=>exact mV _ _ hv
theorem qg {E:Env} {a:AV} {v:Value} (h: ∀f caps,a≠ .fn f caps):cG E a v=fa E a v:=by
 cases a<;>first | rfl | exact absurd rfl (h _ _)
theorem om {E:Env} {a:AV} {v:Value} (h: ∀l,a≠ .agg l):V2 E a v=cG E a v:=by
 cases a<;>first | rfl | exact absurd rfl (h _)
theorem nF {E:Env} {a:AV} {v:Value} (h: ∀l,a≠ .tup l):V3 E a v=V2 E a v:=by
 cases a<;>first | rfl | exact absurd rfl (h _)
theorem cG.le {E E':Env} (h:E.gB E') {a:AV} {v:Value} (hv:cG E a v):cG E' a v:=by
 by_cases hf: ∃f caps,a= .fn f caps
 ·obtain⟨f,caps,rfl⟩:=hf
  obtain⟨vs,e,aF⟩:=hv
  exact⟨vs,e,aF.mono fun _ _ k=>k.le h⟩
 ·rw[qg fun f c e=>hf ⟨f,c,e⟩] at hv ⊢
  exact hv.le h
theorem V2.le {E E':Env} (h:E.gB E') {a:AV} {v:Value} (hv:V2 E a v):V2 E' a v:=by
 by_cases hf: ∃l,a= .agg l
 ·obtain⟨l,rfl⟩:=hf
  obtain⟨vs,e,aF⟩:=hv
  exact⟨vs,e,aF.mono fun _ _ k=>k.le h⟩
 ·rw[om fun l e=>hf ⟨l,e⟩] at hv ⊢
  exact hv.le h
theorem V3.le {E E':Env} (h:E.gB E') {a:AV} {v:Value} (hv:V3 E a v):V3 E' a v:=by
 by_cases hf: ∃l,a= .tup l
 ·obtain⟨l,rfl⟩:=hf
  obtain⟨vs,e,aF⟩:=hv
  exact⟨vs,e,aF.mono fun _ _ k=>k.le h⟩
 ·rw[nF fun l e=>hf ⟨l,e⟩] at hv ⊢
  exact hv.le h
theorem bD.g9 {E:Env} {a:AV} {v:Value} (h:bD E.w E.PA E.PF a v):fa E a v:=by
 cases a<;>first | exact h | cases h
theorem bD.v1 {E:Env} {a:AV} {v:Value} (h:bD E.w E.PA E.PF a v):cG E a v:=by
 by_cases hf: ∃f caps,a= .fn f caps
 ·obtain⟨f,caps,rfl⟩:=hf
  cases h with
  | fn aI dB=>exact⟨_,rfl,aI,fun i a v h1 h2=>((dB i a v h1 h2).mono (fun _ _=>rfl) (fun _ h=>h.elim) (fun _ h=>h) (fun _ h=>h.elim)).g9⟩
 ·rw[qg fun f c e=>hf ⟨f,c,e⟩]
  exact h.g9
theorem cG.undef (E:Env) (v:Value):cG E .undef v:=bD.undef v
theorem V3.undef (E:Env) (v:Value):V3 E .undef v:=bD.undef v
def AV.Pq:AV→Bool
 | .undef | .agg _ | .tup _=>false
 | _=>true
theorem cG.one {E:Env} {a:AV} {v:Value} (h:cG E a v) (hc:a.Pq=true):True:=trivial
end Go.Proofs.Ytglpfccgmfhkdaa.Fw
/- The framework, part B: a state of the abstract machine stands for a frame and a world; rules for the code between the regions. -/
set_option linter.unusedVariables false
namespace Go.Proofs.Ytglpfccgmfhkdaa.Fw
open Go
def ew:List (Nat×List AV)→Nat→Option (List AV)
 | [],_=>none
 | (k,c)::l,t=>if t=k then some c else ew l t
def lA:List (Nat×List AV)→Nat→List AV→List (Nat×List AV)
 | [],_,_=>[]
 | (k,c)::l,t,d=>if t=k then(k,d)::l else(k,c)::lA l t d
def Env.gg (E:Env) (c:Nat):Prop:= ∃b,E.m b=some (some c)
def Env.jN (E:Env) (c:Nat):Prop:= ∃t,E.mL t=some c
def Env.b6 (E:Env):Env:={E with mL:=fun _=>none}
theorem Env.yY (E:Env):E.b6.gB E:=⟨fun _ h=>h,fun _ h=>h,fun _ _=>rfl,fun _ _=>rfl,fun _=>Nat.le_refl _,fun _ _ h _=>⟨h,rfl,rfl⟩,fun _ _ h=>by cases h⟩
theorem Env.gB.b6 {E E':Env} (h:E.gB E'):E.b6.gB E'.b6:=⟨h.fE,h.fF,h.sY,h.wf,h.bI,h.m,fun _ _ h=>by cases h⟩
def s5 (E:Env) (sz:Nat) (rows:List (List AV)) (ba:Array Value):Prop:=
 (∀(i:Nat) (row:List AV),rows[i]?=some row→row.length=sz)∧
 ∀(i j:Nat) (row:List AV) (a:AV),rows[i]?=some row→row[j]?=some a→ ∃u,ba[i*sz+j]?=some u∧cG E.b6 a u
structure SimH (E:Env) (H:List Blk):Prop where
 heap: ∀b c,E.m b=some (some c)→ ∃blk ba ty,H[b]?=some blk∧E.sz b=blk.sz∧E.w.heap[c]?=some (.cells ba ty (0,0))∧ba.size=E.cp b*E.sz b∧blk.rows.length≤E.cp b∧s5 E (E.sz b) blk.rows ba
 eZ: ∀(b:Nat) (blk:Blk),H[b]?=some blk→E.bI b=blk.bI
 hE: ∀b,E.m b=some none→ ∃blk,H[b]?=some blk∧E.sz b=blk.sz
 fresh: ∀b,H.length≤b→E.m b=none∧E.bI b=0
 iq: ∀b ca c,E.m b=some (some c)→E.m ca=some (some c)→b=ca
 iH: ∀t iO c,E.mL t=some c→E.mL iO=some c→t=iO
 g2: ∀b t c,E.m b=some (some c)→E.mL t=some c→False
 h7: ∀c,E.PA c→ ¬E.gg c
 h8: ∀c,E.PA c→ ¬E.jN c
 ep: ∀c,E.PF c→E.PA c
 eG: ∀c,E.PA c→c<E.w.heap.size
 gF: ∀c,E.gg c→c<E.w.heap.size
 gu: ∀c,E.jN c→c<E.w.heap.size
def SimL (E:Env) (L:List (Nat×List AV)):Prop:=
 ∀t c,E.mL t=some c→ ∃cells ba ty,ew L t=some cells∧E.w.heap[c]?=some (.cells ba ty (0,0))∧av (cG E.b6) cells ba.toList
structure ry (E:Env) (aD:St) (tmps:Array Value):Prop where
 h:SimH E aD.H
 l:SimL E aD.L
 iM: ∀t,V3 E (aD.T.getD t .undef) (tmps.getD t undef)
 size:aD.T.length=tmps.size
structure Step (E E':Env):Prop where
 le:E.gB E'
 os:E'.w.os=E.w.os
 tape:E'.w.tape=E.w.tape
 output:E'.w.output=E.w.output
 size:E.w.heap.size≤E'.w.heap.size
 ey: ∀c,c<E.w.heap.size→ ¬E.gg c→ ¬E.jN c→E'.w.heap[c]?=E.w.heap[c]?
 hO: ∀c,E'.gg c→E.gg c∨E.w.heap.size≤c
 j9: ∀c,E'.jN c→E.jN c∨E.w.heap.size≤c
 fE: ∀c,E'.PA c→E.PA c∨E.w.heap.size≤c
 fF: ∀c,E'.PF c→E.PF c∨E.w.heap.size≤c
theorem Step.refl (E:Env):Step E E:=⟨.refl E,rfl,rfl,rfl,Nat.le_refl _,fun _ _ _ _=>rfl,fun _ h=> .inl h,fun _ h=> .inl h,fun _ h=> .inl h,fun _ h=> .inl h⟩
theorem Step.trans {A B C:Env} (h:Step A B) (k:Step B C):Step A C where
 le:=h.le.trans k.le
 os:=k.os.trans h.os
 tape:=k.tape.trans h.tape
 output:=k.output.trans h.output
 size:=Nat.le_trans h.size k.size
 ey:=fun c hc h1 h2=>by
  rw[k.ey c (Nat.lt_of_lt_of_le hc h.size) (fun x=>(h.hO c x).elim h1 (fun y=>absurd hc (Nat.not_lt.2 y))) (fun x=>(h.j9 c x).elim h2 (fun y=>absurd hc (Nat.not_lt.2 y)))]
  exact h.ey c hc h1 h2
 hO:=fun c x=>(k.hO c x).elim (fun y=>h.hO c y) (fun y=> .inr (Nat.le_trans h.size y))
 j9:=fun c x=>(k.j9 c x).elim (fun y=>h.j9 c y) (fun y=> .inr (Nat.le_trans h.size y))
 fE:=fun c x=>(k.fE c x).elim (fun y=>h.fE c y) (fun y=> .inr (Nat.le_trans h.size y))
 fF:=fun c x=>(k.fF c x).elim (fun y=>h.fF c y) (fun y=> .inr (Nat.le_trans h.size y))
structure Good (cM E:Env):Prop where
 b6: ∀t,cM.mL t=none
 le:cM.gB E
 os:E.w.os=cM.w.os
 tape:E.w.tape=cM.w.tape
 output:E.w.output=cM.w.output
 size:cM.w.heap.size≤E.w.heap.size
 ey: ∀c,c<cM.w.heap.size→ ¬cM.gg c→E.w.heap[c]?=cM.w.heap[c]?
 hO: ∀c,E.gg c→cM.gg c∨cM.w.heap.size≤c
 j9: ∀c,E.jN c→cM.w.heap.size≤c
 fE: ∀c,E.PA c→cM.PA c∨cM.w.heap.size≤c
 fF: ∀c,E.PF c→cM.PF c∨cM.w.heap.size≤c
theorem Good.refl {E:Env} (h: ∀t,E.mL t=none):Good E E:=
 ⟨h,.refl E,rfl,rfl,rfl,Nat.le_refl _,fun _ _ _=>rfl,fun _ x=> .inl x,(fun c ⟨t,x⟩=>by rw[h t] at x;cases x),fun _ x=> .inl x,fun _ x=> .inl x⟩
theorem Good.step {cM E E':Env} (h:Good cM E) (k:Step E E'):Good cM E' where
 b6:=h.b6
 le:=h.le.trans k.le
 os:=k.os.trans h.os
 tape:=k.tape.trans h.tape
 output:=k.output.trans h.output
 size:=Nat.le_trans h.size k.size
 ey:=fun c hc h1=>by
  rw[k.ey c (Nat.lt_of_lt_of_le hc h.size) (fun x=>(h.hO c x).elim h1 (fun y=>absurd hc (Nat.not_lt.2 y))) (fun x=>absurd hc (Nat.not_lt.2 (h.j9 c x)))]
  exact h.ey c hc h1
 hO:=fun c x=>(k.hO c x).elim (fun y=>h.hO c y) (fun y=> .inr (Nat.le_trans h.size y))
 j9:=fun c x=>(k.j9 c x).elim (fun y=>h.j9 c y) (fun y=>Nat.le_trans h.size y)
 fE:=fun c x=>(k.fE c x).elim (fun y=>h.fE c y) (fun y=> .inr (Nat.le_trans h.size y))
 fF:=fun c x=>(k.fF c x).elim (fun y=>h.fF c y) (fun y=> .inr (Nat.le_trans h.size y))
def Ou (ex:Exit):Bool:=match ex with
 | .normal | .exit _ | .ret=>true
 | _=>false
def l6 (cM:Env) (Q:Exit→St→Prop) (ex:Exit) (a:Act) (w:World):Prop:=
 Ou ex=true∧ ∃aD E,Q ex aD∧E.w=w∧Good cM E∧ry E aD a.tmps∧a.defers=[]
def WpS (P:Program) (c:Code) (Q:Exit→St→Prop) (aD:St):Prop:=
 ∀(cM E:Env) (a:Act),Good cM E→ry E aD a.tmps→a.defers=[]→c.wp P (l6 cM Q) a E.w
def Weak (aD kk:St):Prop:= ∀(cM E:Env) (tmps:Array Value),Good cM E→ry E aD tmps→ ∃E',E'.w=E.w∧Good cM E'∧ry E' kk tmps
theorem Weak.refl (aD:St):Weak aD aD:=fun cM E tmps g h=>⟨E,rfl,g,h⟩
theorem Weak.trans {a b c:St} (h:Weak a b) (k:Weak b c):Weak a c:=fun cM E tmps g s=>by
 obtain⟨E1,bF,a3,s1⟩:=h cM E tmps g s
 obtain⟨pn,e2,aY,s2⟩:=k cM E1 tmps a3 s1
 exact⟨pn,e2.trans bF,aY,s2⟩
section
variable {P:Program} {Q vh:Exit→St→Prop} {aD:St}
theorem WpS.mono {c:Code} (h:WpS P c Q aD) (aj: ∀e s,Q e s→vh e s):WpS P c vh aD:=fun cM E a g s d=>
 wp_mono (h cM E a g s d) fun e a w ⟨h1,aD,E,h2,aS⟩=>⟨h1,aD,E,aj _ _ h2,aS⟩
theorem WpS.jd {c:Code} {kk:St} (h:WpS P c Q kk) (k:Weak aD kk):WpS P c Q aD:=fun cM E a g s d=>by
 obtain⟨E1,bF,a3,s1⟩:=k cM E a.tmps g s
 exact bF▸h cM E1 a a3 s1 d
theorem WpS.skip (h:Q .normal aD):WpS P .skip Q aD:=fun cM E a g s d=>wp_skip ⟨rfl,aD,E,h,rfl,g,s,d⟩
theorem WpS.ret (h:Q .ret aD):WpS P .ret Q aD:=fun cM E a g s d=>wp_ret ⟨rfl,aD,E,h,rfl,g,s,d⟩
theorem WpS.exit {id:Nat} (h:Q (.exit id) aD):WpS P (.exit id) Q aD:=fun cM E a g s d=>wp_exit ⟨rfl,aD,E,h,rfl,g,s,d⟩
def c4 (P:Program) (y:Code) (Q:Exit→St→Prop) (ex:Exit) (s:St):Prop:=match ex with
 | .normal=>WpS P y Q s
 | ex=>Q ex s
theorem WpS.seq {x y:Code} (h:WpS P x (c4 P y Q) aD):WpS P (.seq x y) Q aD:=fun cM E a g s d=>
 wp_seq (wp_mono (h cM E a g s d) fun e hp w' ⟨h1,kk,E',h2,aS,bt,cb,cE⟩=>by
  cases e with
  | normal=>subst aS;exact h2 cM E' hp bt cb cE
  | exit id=>exact⟨rfl,kk,E',h2,aS,bt,cb,cE⟩
  | ret=>exact⟨rfl,kk,E',h2,aS,bt,cb,cE⟩
  | _=>cases h1)
def bZ (id:Nat) (Q:Exit→St→Prop) (ex:Exit) (s:St):Prop:=match ex with
 | .exit fO=>if fO=id then Q .normal s else Q (.exit fO) s
 | ex=>Q ex s
theorem WpS.block {id:Nat} {c:Code} (h:WpS P c (bZ id Q) aD):WpS P (.block id c) Q aD:=fun cM E a g s d=>
 wp_block (wp_mono (h cM E a g s d) fun e hp w' ⟨h1,kk,E',h2,aS⟩=>by
  cases e with
  | normal=>exact⟨rfl,kk,E',h2,aS⟩
  | exit fO=>
   by_cases gf:fO=id
   ·subst gf
    have vE:(if fO=fO then Q .normal kk else Q (.exit fO) kk):=h2
    rw[if_pos rfl] at vE
    show(if fO=fO then _ else _)
    rw[if_pos rfl];exact⟨rfl,kk,E',vE,aS⟩
   ·have vE:(if fO=id then Q .normal kk else Q (.exit fO) kk):=h2
    rw[if_neg gf] at vE
    show(if fO=id then _ else _)
    rw[if_neg gf];exact⟨rfl,kk,E',vE,aS⟩
  | ret=>exact⟨rfl,kk,E',h2,aS⟩
  | _=>cases h1)
def nc:Value→AV
 | .int k n=> .int k n
 | .bool b=> .bool b
 | .string s=> .str s
 | .slice none 0 0=> .be [] true true
 | .pointer none=> .fu
 | .nilIface=> .fP
 | _=> .undef
def cc (T:List AV):Operand→AV
 | .tmp t=>T.getD t .undef
 | .const v=>nc v
 | .func f=> .fn f []
 | .global _=> .undef
theorem PP (E:Env) (v:Value):V3 E (nc v) v:=by
 unfold nc
 split
 ·exact bD.int _ _
 ·exact bD.bool _
 ·exact bD.str _
 ·exact bD.be (PB:=fun _=>False) (sz:=0) (vs:=fun _ _=>undef) (fun _ h=>h.elim) ⟨Nat.le_refl _,Nat.zero_le _⟩ (fun _=>rfl) (fun i row h=>by simp at h) (fun h=>by simp at h) (fun i j row a h=>by simp at h)
 ·exact bD.fu
 ·exact bD.fP
 ·exact bD.undef _
theorem opv_rel {E:Env} {T:List AV} {a:Act} (h: ∀t,V3 E (T.getD t .undef) (a.tmps.getD t undef)) (x:Operand):V3 E (cc T x) (a.eval x):=by
 cases x with
 | tmp t=>exact h t
 | const v=>exact PP E v
 | global g=>exact bD.undef _
 | func f=>exact⟨[],rfl,av.nil⟩
def vn (b:Bool) (x y:Prop):Prop:=(b=true→x)∧(b=false→y)
def m9 (v:AV) (k:Bool→Prop):Prop:=match v with
 | .bool b=>k b
 | _=>False
theorem xr {v:AV} {k:Bool→Prop} (h:m9 v k): ∃b,v= .bool b∧k b:=by
 cases v<;>first | exact⟨_,rfl,h⟩ | exact h.elim
theorem V3.pt {E:Env} {b:Bool} {v:Value} (h:V3 E (.bool b) v):v= .bool b:=by
 have h':bD E.w E.PA E.PF (.bool b) v:=h
 cases h';rfl
theorem V3.pS {E:Env} {k:IntKind} {n:Int} {v:Value} (h:V3 E (.int k n) v):v= .int k n:=by
 have h':bD E.w E.PA E.PF (.int k n) v:=h
 cases h';rfl
theorem V3.u1 {E:Env} {s:ByteArray} {v:Value} (h:V3 E (.str s) v):v= .string s:=by
 have h':bD E.w E.PA E.PF (.str s) v:=h
 cases h';rfl
theorem WpS.cond {c:Operand} {x y:Code} (h:m9 (cc aD.T c) fun b=>vn b (WpS P x Q aD) (WpS P y Q aD)):WpS P (.cond c x y) Q aD:=fun cM E a g s d=>by
 obtain⟨b,hb,h1,h2⟩:=xr h
 have hv:=opv_rel s.iM c
 rw[hb] at hv
 have he:a.eval c= .bool b:=V3.pt hv
 exact wp_cond_split he (fun e=>h1 e cM E a g s d) (fun e=>h2 e cM E a g s d)
def Ox (I:Nat→St→Prop) (n:Nat) (Q:Exit→St→Prop) (ex:Exit) (s:St):Prop:=match ex with
 | .normal=> ∃n8 s',n8<n∧Weak s s'∧I n8 s'
 | ex=>Q ex s
theorem WpS.loop {c:Code} (I:Nat→St→Prop) (n:Nat) (a0:I n aD) (round: ∀n s,I n s→WpS P c (Ox I n Q) s):WpS P (.loop c) Q aD:=by
 intro cM E a g s d b k ba
 have key: ∀n (a:Act) (E:Env) aD,I n aD→Good cM E→ry E aD a.tmps→a.defers=[]→
   ∃e hp w',l6 cM Q e hp w'∧Arrives P (lone (b.at a (.code c:: .inLoop c::k)) ba E.w) b k ba e hp w':=by
  intro n
  induction n using Nat.strongRecOn with
  | _ n bO=>
   intro a E aD aM g s d
   obtain⟨e,xt,N7,aj,vL⟩:=round n aD aM cM E a g s d b (.inLoop c::k) ba
   obtain⟨he,NH,E1,aj,hw,a3,s1,d1⟩:=aj
   cases e with
   | normal=>
    obtain⟨n8,s',bg,SZ,vG⟩:=aj
    obtain⟨pn,e2,aY,s2⟩:=SZ cM E1 xt.tmps a3 s1
    obtain⟨Qj,OP,Zk,SO,Il⟩:=bO n8 bg xt pn s' vG aY s2 d1
    rw[e2,hw] at Il
    exact⟨Qj,OP,Zk,SO,.of_steps (Steps.trans vL (.one step_inLoop)) Il⟩
   | exit id=>exact⟨_,xt,N7,⟨rfl,NH,E1,aj,hw,a3,s1,d1⟩,.pass (x:= .inLoop c) rfl (fun _ _=> .inl (by simp)) vL⟩
   | ret=>exact⟨_,xt,N7,⟨rfl,NH,E1,aj,hw,a3,s1,d1⟩,.pass (x:= .inLoop c) rfl (fun _ _=> .inl (by simp)) vL⟩
   | _=>cases he
 obtain⟨e,hp,w',aj,vL⟩:=key n a E aD a0 g s d
 exact⟨e,hp,w',aj,.of_steps (.one step_loop) vL⟩
end
end Go.Proofs.Ytglpfccgmfhkdaa.Fw
/- The framework, part C: reading and writing cells; a function's begin and end. -/
set_option linter.unusedVariables false
namespace Go.Proofs.Ytglpfccgmfhkdaa.Fw
open Go
def cJ {α:Type} (o:Option α) (k:α→Prop):Prop:=match o with
 | some a=>k a
 | none=>False
theorem e3 {α:Type} {o:Option α} {k:α→Prop} (h:cJ o k): ∃a,o=some a∧k a:=by
 cases o with
 | none=>exact h.elim
 | some a=>exact⟨a,rfl,h⟩
theorem dG {α:Type} {o:Option α} {k:α→Prop} {a:α} (h:o=some a) (hk:k a):cJ o k:=by rw[h];exact hk
def ef (b:Bool) (x:Prop):Prop:=match b with
 | true=>x
 | false=>False
theorem ob {b:Bool} {x:Prop} (h:ef b x):b=true∧x:=by
 cases b with
 | true=>exact⟨rfl,h⟩
 | false=>exact h.elim
def uf (P:Program) (t:TypeId):Bool:=match P.underlying t with
 | some (.struct _) | some (.array _ _)=>true
 | _=>false
def we (P:Program) (t:TypeId):Bool:=(P.underlying t).isSome
theorem run_underlying {P:Program} {t:TypeId} {w:World} {d:TypeDesc} (h:P.underlying t=some d):(underlying t).run P w= .ok d w:=by
 simp[Go.underlying,h]
theorem LZ {P:Program} {t:TypeId} {w:World} (h:we P t=true):(isAgg t).run P w= .ok (uf P t) w:=by
 unfold we at h
 cases bp:P.underlying t with
 | none=>simp[bp] at h
 | some d=>
  simp only[Go.isAgg,Sem.run_bind,run_underlying bp,Result.andThen_ok,uf,bp]
  cases d<;>rfl
theorem run_sizeOf {P:Program} {t:TypeId} {w:World} (h:(P.info? t).isSome=true):(sizeOf t).run P w= .ok (P.cellsOf t) w:=by
 cases hi:P.info? t with
 | none=>simp[hi] at h
 | some i=>simp[Go.sizeOf,typeInfo,hi,Program.cellsOf]
theorem Ux {P:Program} {t:TypeId} (h:we P t=true):(P.info? t).isSome=true:=by
 unfold we Program.underlying at h
 cases hi:P.info? t with
 | none=>simp[hi] at h
 | some i=>rfl
def iB (P:Program) (t:TypeId) (cells:List AV) (c:Nat) (K:AV→Prop):Prop:=
 if we P t=true then
  (if uf P t=true then(if c+P.cellsOf t≤cells.length then K (.agg ((cells.drop c).take (P.cellsOf t))) else False)
   else cJ cells[c]? K)
 else False
def nm (P:Program) (t:TypeId) (x:AV) (L:List (Nat×List AV)) (H:List Blk) (K:AV→Prop):Prop:=match x with
 | .e6 s c=>cJ (ew L s) fun cells=>iB P t cells c K
 | .ptr b g r c=>cJ H[b]? fun blk=>blk.bI=g∧cJ blk.rows[r]? fun row=>iB P t row c K
 | .cZ cells c=>iB P t cells c K
 | _=>False
theorem mE (c o n:Nat):(⟨c,o,none⟩:Addr).add n=⟨c,o+n,none⟩:=by
 unfold Addr.add;split
 ·subst_vars;rfl
 ·rfl
theorem F2 {P:Program} {t:TypeId} {cells:List AV} {c bl o:Nat} {K:AV→Prop} {w:World} {R:AV→Value→Prop}
  (hc: ∀(j:Nat) (a:AV),cells[j]?=some a→ ∃u,w.cell? ⟨bl,o+j,none⟩=some u∧R a u) (h:iB P t cells c K):
  ∃a v,K a∧(loadVar t ⟨bl,o+c,none⟩).run P w= .ok v w∧
   ((∃l vs,a= .agg l∧v= .agg (List.toArray vs)∧av R l vs)∨R a v):=by
 unfold iB at h
 split at h
 ·rename_i hk
  split at h
  ·rename_i a6
   split at h
   ·rename_i aI
    let n:=P.cellsOf t
    have dZ: ∀j,j<n→ ∃a u,cells[c+j]?=some a∧w.cell? ⟨bl,o+(c+j),none⟩=some u∧R a u:=by
     intro j aP
     have nZ:c+j<cells.length:=by show c+j<cells.length;have:n=P.cellsOf t:=rfl;omega
     obtain⟨u,h1,h2⟩:=hc (c+j) _ (List.getElem?_eq_getElem nZ)
     exact⟨_,u,List.getElem?_eq_getElem nZ,h1,h2⟩
    let f:Nat→Value:=fun j=>(w.cell? ⟨bl,o+(c+j),none⟩).getD undef
    have hf: ∀j,j<n→w.cell? ((⟨bl,o+c,none⟩:Addr).add j)=some (f j):=by
     intro j aP
     obtain⟨a,u,_,h1,_⟩:=dZ j aP
     rw[mE,Nat.add_assoc]
     show _=some ((w.cell? ⟨bl,o+(c+j),none⟩).getD undef)
     rw[h1];rfl
    refine⟨_,.agg ((List.range n).map f).toArray,h,?_,.inl ⟨_,(List.range n).map f,rfl,rfl,?_,?_⟩⟩
    ·simp only[loadVar,Sem.run_bind,LZ hk,Result.andThen_ok,a6,if_true,run_sizeOf (Ux hk)]
     rw[run_loadCells w _ n f hf]
     rfl
    ·simp only[List.length_take,List.length_drop,List.length_map,List.length_range];show min n _=n;have:n=P.cellsOf t:=rfl;omega
    ·intro i a b IB tH
     have hi:i<n:=by have:=(List.getElem?_eq_some_iff.1 tH).1;simpa using this
     obtain⟨hp,u,h1,h2,aS⟩:=dZ i hi
     rw[List.getElem?_take,if_pos (show i<P.cellsOf t from hi),List.getElem?_drop,h1] at IB
     cases IB
     rw[List.getElem?_map,List.getElem?_range hi] at tH
     simp only[Option.map_some,Option.some.injEq] at tH
     have:f i=u:=by show(w.cell? ⟨bl,o+(c+i),none⟩).getD undef=u;rw[h2];rfl
     rw[←tH,this];exact aS
   ·exact h.elim
  ·rename_i a6
   obtain⟨a,rV,hK⟩:=e3 h
   obtain⟨u,h1,h2⟩:=hc c a rV
   refine⟨a,u,hK,?_,.inr h2⟩
   have RN:uf P t=false:=by cases hx:uf P t<;>simp_all
   simp only[loadVar,Sem.run_bind,LZ hk,Result.andThen_ok,RN]
   simp[h1]
 ·exact h.elim
theorem cG.up {E:Env} {a:AV} {v:Value} (h:cG E.b6 a v):cG E a v:=h.le E.yY
theorem Oy {E:Env} {l:List AV} {v:Value} (h:cG E (.agg l) v):False:=by
 have h':bD E.w E.PA E.PF (.agg l) v:=h
 cases h'
theorem Oz {E:Env} {l:List AV} {v:Value} (h:cG E (.tup l) v):False:=by
 have h':bD E.w E.PA E.PF (.tup l) v:=h
 cases h'
theorem oo {E:Env} {a:AV} {v:Value} (h:cG E a v):V2 E a v:=by
 by_cases hf: ∃l,a= .agg l
 ·obtain⟨l,rfl⟩:=hf;exact(Oy h).elim
 ·rw[om fun l e=>hf ⟨l,e⟩];exact h
theorem OA {E:Env} {l:List AV} {v:Value} (h:V2 E (.tup l) v):False:=Oz (E:=E) (l:=l) (v:=v) h
theorem oq {E:Env} {a:AV} {v:Value} (h:V2 E a v):V3 E a v:=by
 by_cases hf: ∃l,a= .tup l
 ·obtain⟨l,rfl⟩:=hf;exact(OA h).elim
 ·rw[nF fun l e=>hf ⟨l,e⟩];exact h
theorem z2 {E:Env} {a:AV} {v:Value} (h:(∃l vs,a= .agg l∧v= .agg (List.toArray vs)∧av (cG E) l vs)∨cG E a v):V2 E a v:=by
 rcases h with⟨l,vs,rfl,rfl,aF⟩ | h
 ·exact⟨vs,rfl,aF⟩
 ·exact oo h
theorem V3.wl {E:Env} {t c:Nat} {v:Value} (h:V3 E (.e6 t c) v): ∃bl,E.mL t=some bl∧v= .pointer (some ⟨bl,c,none⟩):=h
theorem V3.ze {E:Env} {b g r c:Nat} {v:Value} (h:V3 E (.ptr b g r c) v) (aO:E.bI b=g): ∃bl,E.m b=some (some bl)∧v= .pointer (some ⟨bl,r*E.sz b+c,none⟩):=by
 rcases(h:fa E (.ptr b g r c) v) with⟨h,_⟩ | ⟨_,h⟩
 ·omega
 ·exact h
theorem cell_of {w:World} {c o:Nat} {ba:Array Value} {ty:TypeId} {Q8:Nat×Nat} {u:Value} (h:w.heap[c]?=some (.cells ba ty Q8)) (hu:ba[o]?=some u):w.cell? ⟨c,o,none⟩=some u:=by
 simp[World.cell?,h,hu]
structure Sub (L:List (Nat×List AV)) (H:List Blk) (jF:List (Nat×List AV)) (eI:List Blk):Prop where
 l: ∀t c,ew L t=some c→ew jF t=some c
 h: ∀(b:Nat) (blk:Blk),H[b]?=some blk→eI[b]?=some blk
theorem Sub.refl (L:List (Nat×List AV)) (H:List Blk):Sub L H L H:=⟨fun _ _ h=>h,fun _ _ h=>h⟩
theorem Kx {P:Program} {t:TypeId} {x:AV} {L jF:List (Nat×List AV)} {H eI:List Blk} {K:AV→Prop} {E:Env} {v:Value}
  (sub:Sub L H jF eI) (aV:SimH E eI) (bT:SimL E jF) (hx:V3 E x v) (h:nm P t x L H K):
  ∃a eg,K a∧(Instr.loadAt t v).run P E.w= .ok eg E.w∧V2 E a eg:=by
 cases x with
 | e6 s c=>
  obtain⟨bl,hm,rfl⟩:=hx.wl
  obtain⟨cells,ba,ty,aO,hw,aF⟩:=bT s bl hm
  have h':cJ (ew L s) fun cells=>iB P t cells c K:=h
  obtain⟨xD,vP,h'⟩:=e3 h'
  obtain rfl:cells=xD:=by have:=sub.l _ _ vP;rw[aO] at this;exact Option.some.inj this
  obtain⟨a,eg,hK,aJ,hv⟩:=F2 (o:=0) (bl:=bl) (w:=E.w) (R:=cG E.b6) (fun j a aP=>by
   obtain⟨u,hu,aJ⟩:=aF.get aP
   exact⟨u,by rw[Nat.zero_add];exact cell_of hw (by simpa using hu),aJ⟩) h'
  rw[Nat.zero_add] at aJ
  refine⟨a,eg,hK,?_,(z2 hv).le E.yY⟩
  simp only[Instr.loadAt,Instr.sureAddr,Sem.run_bind,Sem.run_pure,Result.andThen_ok,aJ]
 | ptr b g r c=>
  obtain⟨blk,hb,aO,h2⟩:=e3 (show cJ H[b]? fun blk=>blk.bI=g∧cJ blk.rows[r]? fun row=>iB P t row c K from h)
  obtain⟨row,ek,aS⟩:=e3 h2
  replace hb:=sub.h b blk hb
  have jL:=aV.eZ b blk hb
  obtain⟨bl,hm,rfl⟩:=hx.ze (jL.trans aO)
  obtain⟨blk',ba,ty,dA,lO,hw,lq,hlen,gq⟩:=aV.heap b bl hm
  obtain rfl:blk=blk':=by rw[hb] at dA;exact Option.some.inj dA
  obtain⟨a,eg,hK,aJ,hv⟩:=F2 (o:=r*E.sz b) (bl:=bl) (w:=E.w) (R:=cG E.b6) (fun j a aP=>by
   obtain⟨u,hu,aJ⟩:=gq.2 r j row a ek aP
   exact⟨u,cell_of hw hu,aJ⟩) aS
  refine⟨a,eg,hK,?_,(z2 hv).le E.yY⟩
  simp only[Instr.loadAt,Instr.sureAddr,Sem.run_bind,Sem.run_pure,Result.andThen_ok,aJ]
 | cZ cells c=>
  have iG:bD E.w E.PA E.PF (.cZ cells c) v:=hx
  cases iG with
  | @cZ _ _ _ _ bl o vs hc eP dB=>
   have h':iB P t cells c K:=h
   obtain⟨a,eg,hK,aJ,hv⟩:=F2 (o:=o) (bl:=bl) (w:=E.w) (R:=bD E.w E.PA (fun _=>False)) (fun j a aP=>
    ⟨vs j,eP j (List.getElem?_eq_some_iff.1 aP).1,dB j a aP⟩) h'
   have up: ∀a v,bD E.w E.PA (fun _=>False) a v→cG E a v:=fun a v aJ=>(aJ.mono (fun _ _=>rfl) (fun _ h=>h.elim) (fun _ h=>h) (fun _ h=>h.elim)).v1
   refine⟨a,eg,hK,?_,z2 (hv.imp (fun⟨l,vs,h1,h2,aS⟩=>⟨l,vs,h1,h2,aS.mono up⟩) (up _ _))⟩
   simp only[Instr.loadAt,Instr.sureAddr,Sem.run_bind,Sem.run_pure,Result.andThen_ok,aJ]
 | _=>exact h.elim
end Go.Proofs.Ytglpfccgmfhkdaa.Fw
/- The framework, part D: writing cells. -/
set_option linter.unusedVariables false
namespace Go.Proofs.Ytglpfccgmfhkdaa.Fw
open Go
def sQ:AV→Bool
 | .undef | .agg _ | .tup _ | .e6 _ _ | .fn _ _=>false
 | _=>true
def ie:AV→Bool
 | .fn _ caps=>caps.all sQ
 | a=>sQ a
def eD:AV→List AV
 | .agg l=>l
 | a=>[a]
def eK (row:List AV) (c:Nat) (l:List AV):List AV:=row.take c++l++row.drop (c+l.length)
def lf (P:Program) (t:TypeId) (x v:AV) (L:List (Nat×List AV)) (H:List Blk) (K:List (Nat×List AV)→List Blk→Prop):Prop:=
 if(P.info? t).isSome=true∧(eD v).length=P.cellsOf t∧(eD v).all ie=true then
  match x with
  | .e6 s c=>cJ (ew L s) fun cells=>if c+(eD v).length≤cells.length then K (lA L s (eK cells c (eD v))) H else False
  | .ptr b g r c=>cJ H[b]? fun blk=>blk.bI=g∧cJ blk.rows[r]? fun row=>c+(eD v).length≤row.length∧K L (H.set b {blk with rows:=blk.rows.set r (eK row c (eD v))})
  | _=>False
 else False
theorem NL {E:Env} {a:AV} {v:Value} (h:sQ a=true) (hv:fa E a v):fa E.b6 a v:=by
 cases a<;>first | exact hv | cases h
theorem FQ {E:Env} {a:AV} {v:Value} (h:ie a=true) (hv:cG E a v):cG E.b6 a v:=by
 by_cases hf: ∃f caps,a= .fn f caps
 ·obtain⟨f,caps,rfl⟩:=hf
  obtain⟨vs,e,aF⟩:=hv
  refine⟨vs,e,aF.1,fun i x y hx bA=>NL ?_ (aF.2 i x y hx bA)⟩
  have h':caps.all sQ=true:=h
  exact List.all_eq_true.1 h' x (List.mem_of_getElem? hx)
 ·have a0:ie a=sQ a:=by cases a<;>first | rfl | exact absurd ⟨_,_,rfl⟩ hf
  rw[qg fun f c e=>hf ⟨f,c,e⟩] at hv ⊢
  exact NL (a0▸h) hv
theorem fa.one {E:Env} {a:AV} {v:Value} (h:sQ a=true) (hv:fa E a v):v.oneCell'=true:=by
 cases a with
 | undef=>cases h
 | agg l=>cases h
 | tup l=>cases h
 | e6 s c=>cases h
 | fn f c=>cases h
 | ref b g off n full=>
  rcases hv with⟨_,A,cap,rfl⟩ | ⟨_,⟨_,_,_,A,rfl⟩ | ⟨c,cap,_,rfl,_⟩⟩
  ·rfl
  ·rfl
  ·rfl
 | ptr b g r c=>
  rcases hv with⟨_,bl,o,rfl⟩ | ⟨_,bl,_,rfl⟩
  ·rfl
  ·rfl
 | _=>exact bD.one (show bD E.w E.PA E.PF _ v from hv) (by intro h;cases h)
theorem cG.y3 {E:Env} {a:AV} {v:Value} (h:ie a=true) (hv:cG E a v):v.oneCell'=true:=by
 by_cases hf: ∃f caps,a= .fn f caps
 ·obtain⟨f,caps,rfl⟩:=hf
  obtain⟨vs,rfl,aF⟩:=hv
  rfl
 ·have a0:ie a=sQ a:=by cases a<;>first | rfl | exact absurd ⟨_,_,rfl⟩ hf
  rw[qg fun f c e=>hf ⟨f,c,e⟩] at hv
  exact hv.one (a0▸h)
theorem Step.setRow {E:Env} {H:List Blk} (aV:SimH E H) {bl:Nat} (hb:E.gg bl∨E.jN bl) (ba:Array Value):Step E {E with w:=E.w.setRow bl ba}:=by
 have aC: ∀c,E.PA c→c≠bl:=fun c hc e=>by
  subst e
  exact hb.elim (aV.h7 _ hc) (aV.h8 _ hc)
 have hk: ∀c,c≠bl→(E.w.setRow bl ba).heap[c]?=E.w.heap[c]?:=fun c hc=>setRow_other _ _ _ _ hc
 exact⟨⟨fun _ h=>h,fun _ h=>h,fun c hc=>hk c (aC c hc),fun c hc=>hk c (aC c (aV.ep c hc)),fun _=>Nat.le_refl _,fun _ _ h _=>⟨h,rfl,rfl⟩,fun _ _ h=>h⟩,rfl,rfl,rfl,
  by simp,fun c _ h1 h2=>hk c (fun e=>by subst e;exact hb.elim h1 h2),fun _ h=> .inl h,fun _ h=> .inl h,fun _ h=> .inl h,fun _ h=> .inl h⟩
theorem Am {E:Env} {v:AV} {u:Value} (hv:V2 E v u) (hs:(eD v).all ie=true):av (cG E) (eD v) u.cells.toList:=by
 by_cases hf: ∃l,v= .agg l
 ·obtain⟨l,rfl⟩:=hf
  obtain⟨vs,rfl,aF⟩:=hv
  exact aF
 ·have a0:eD v=[v]:=by cases v<;>first | rfl | exact absurd ⟨_,rfl⟩ hf
  rw[om fun l e=>hf ⟨l,e⟩] at hv
  rw[a0] at hs ⊢
  have h1:u.oneCell'=true:=hv.y3 (by simpa using hs)
  have h2:u.cells= #[u]:=by cases u<;>first | rfl | cases h1
  rw[h2]
  exact av.cons hv av.nil
theorem L0 {P:Program} {t:TypeId} {w:World} {bl o:Nat} {ba:Array Value} {ty:TypeId} {u:Value} (hi:(P.info? t).isSome=true) (aQ:u.cells.size=P.cellsOf t)
  (hw:w.heap[bl]?=some (.cells ba ty (0,0))) (ax:o+u.cells.size≤ba.size) (h1: ∀x∈u.cells.toList,x.oneCell'=true):
  (Instr.storeAt t (.pointer (some ⟨bl,o,none⟩)) u).run P w= .ok () (w.setRow bl (ba.toList.take o++u.cells.toList++ba.toList.drop (o+u.cells.toList.length)).toArray):=by
 have:=run_storeCells_at (P:=P) bl o ty u.cells.toList 0 ba w hw (by simpa using ax) h1
 simp only[Nat.add_zero] at this
 simp[Instr.storeAt,Instr.sureAddr,storeVar,run_sizeOf hi,aQ,this]
theorem u0 {α:Type} {l m:List α} {c:Nat} (hc:c+m.length≤l.length) (j:Nat):
  (l.take c++m++l.drop (c+m.length))[j]?=if j<c then l[j]? else if j<c+m.length then m[j - c]? else l[j]?:=by
 by_cases h1:j<c
 ·rw[if_pos h1,List.append_assoc,List.getElem?_append_left (by simp;omega),List.getElem?_take,if_pos h1]
 ·rw[if_neg h1]
  by_cases h2:j<c+m.length
  ·rw[if_pos h2,List.getElem?_append_left (by simp;omega),List.getElem?_append_right (by simp;omega)]
   congr 1;simp;omega
  ·rw[if_neg h2,List.getElem?_append_right (by simp;omega),List.getElem?_drop]
   congr 1;simp;omega
theorem av.eK {α β:Type} {R:α→β→Prop} {l m:List α} {eR ft:List β} (h:av R l eR) (k:av R m ft) {c:Nat} (hc:c+m.length≤l.length):
  av R (l.take c++m++l.drop (c+m.length)) (eR.take c++ft++eR.drop (c+ft.length)):=by
 have h1:=h.1
 have eo:=k.1
 refine⟨by simp;omega,fun i a b a6 hb=> ?_⟩
 rw[u0 hc] at a6
 rw[u0 (by omega)] at hb
 rw[←eo] at hb
 split at a6
 ·rename_i hi;rw[if_pos hi] at hb;exact h.2 i a b a6 hb
 ·rename_i hi;rw[if_neg hi] at hb
  split at a6
  ·rename_i aP;rw[if_pos aP] at hb;exact k.2 _ a b a6 hb
  ·rename_i aP;rw[if_neg aP] at hb;exact h.2 i a b a6 hb
theorem ya (L:List (Nat×List AV)) (t s:Nat) (d:List AV):ew (lA L t d) s=if s=t then(ew L t).map (fun _=>d) else ew L s:=by
 induction L with
 | nil=>simp[lA,ew]
 | cons x L bO=>
  obtain⟨k,c⟩:=x
  by_cases h1:t=k
  ·subst h1
   by_cases h2:s=t
   ·simp[lA,ew,h2]
   ·simp[lA,ew,h2]
  ·by_cases h2:s=k
   ·subst h2
    have: ¬s=t:=fun e=>h1 e.symm
    simp[lA,ew,h1,this]
   ·simp only[lA,if_neg h1,ew,if_neg h2,bO]
theorem YQ {P:Program} {t:TypeId} {x v:AV} {L:List (Nat×List AV)} {H:List Blk} {K:List (Nat×List AV)→List Blk→Prop} {E:Env} {hX lF:Value}
  (aV:SimH E H) (bT:SimL E L) (hx:V3 E x hX) (hv:V2 E v lF) (h:lf P t x v L H K):
  ∃L' H' E',K L' H'∧(Instr.storeAt t hX lF).run P E.w= .ok () E'.w∧Step E E'∧SimH E' H'∧SimL E' L'∧E'.mL=E.mL:=by
 unfold lf at h
 split at h
 case isFalse=>exact h.elim
 case isTrue hc=>
 obtain⟨hi,aQ,hs⟩:=hc
 have tF:=Am hv hs
 have aC:av (cG E.b6) (eD v) lF.cells.toList:=⟨tF.1,fun i a b a6 hb=>FQ (List.all_eq_true.1 hs a (List.mem_of_getElem? a6)) (tF.2 i a b a6 hb)⟩
 have h1: ∀y∈lF.cells.toList,y.oneCell'=true:=by
  intro y bA
  obtain⟨i,hi⟩:=List.mem_iff_getElem?.1 bA
  have tI:i<(eD v).length:=by rw[tF.1];exact(List.getElem?_eq_some_iff.1 hi).1
  exact(tF.2 i _ y (List.getElem?_eq_getElem tI) hi).y3 (List.all_eq_true.1 hs _ (List.getElem_mem tI))
 have cH:lF.cells.size=P.cellsOf t:=by rw[←aQ,tF.1];simp
 have hlen:lF.cells.toList.length=(eD v).length:=tF.1.symm
 cases x with
 | e6 s c=>
  obtain⟨bl,hm,rfl⟩:=hx.wl
  obtain⟨cells,ba,ty,aO,hw,aF⟩:=bT s bl hm
  have h':cJ (ew L s) fun cells=>if c+(eD v).length≤cells.length then K (lA L s (eK cells c (eD v))) H else False:=h
  rw[aO] at h'
  have Bm:if c+(eD v).length≤cells.length then K (lA L s (eK cells c (eD v))) H else False:=h'
  split at Bm
  case isFalse=>exact Bm.elim
  case isTrue hle=>
  have R2:cells.length=ba.size:=by rw[aF.1];simp
  have fe:=L0 (P:=P) (t:=t) (o:=c) hi cH hw (by rw[←R2];have:lF.cells.size=(eD v).length:=by rw[←hlen];simp
                                                omega) h1
  have gr:=Step.setRow aV (.inr ⟨s,hm⟩) (ba.toList.take c++lF.cells.toList++ba.toList.drop (c+lF.cells.toList.length)).toArray
  have cO: ∀b ea,E.m b=some (some ea)→ea≠bl:=fun b ea hb e=>by subst e;exact aV.g2 b s ea hb hm
  refine⟨_,_,_,Bm,fe,gr,?_,?_,rfl⟩
  ·exact{aV with
    heap:=fun b ea hb=>by
     obtain⟨blk,dl,iP,q1,dX,q2,q3,q4,cx,cT⟩:=aV.heap b ea hb
     refine⟨blk,dl,iP,q1,dX,?_,q3,q4,cx,fun i j row a aJ aP=> ?_⟩
     ·show(E.w.setRow bl _).heap[ea]?=_
      rw[setRow_other _ _ _ _ (cO b ea hb)];exact q2
     ·obtain⟨u,hu,ej⟩:=cT i j row a aJ aP
      exact⟨u,hu,ej.le gr.le.b6⟩
    eG:=fun ea hc=>by rw[show(E.w.setRow bl _).heap.size=_ from setRow_size _ _ _];exact aV.eG ea hc
    gF:=fun ea hc=>by rw[show(E.w.setRow bl _).heap.size=_ from setRow_size _ _ _];exact aV.gF ea hc
    gu:=fun ea hc=>by rw[show(E.w.setRow bl _).heap.size=_ from setRow_size _ _ _];exact aV.gu ea hc}
  ·intro iO ea mf
   by_cases he:iO=s
   ·subst he
    obtain rfl:ea=bl:=by
     have:E.mL iO=some ea:=mf
     rw[hm] at this;exact(Option.some.inj this).symm
    refine⟨eK cells c (eD v),_,ty,?_,setRow_heap _ _ _ _ _ _ hw,?_⟩
    ·rw[ya,if_pos rfl,aO];rfl
    ·have:=av.eK (aF.mono fun _ _ k=>k.le gr.le.b6) (aC.mono fun _ _ k=>k.le gr.le.b6) hle
     simpa[eK] using this
   ·obtain⟨gP,dl,iP,q1,q2,q3⟩:=bT iO ea mf
    have BQ:ea≠bl:=fun e=>by subst e;exact he (aV.iH iO s ea mf hm)
    refine⟨gP,dl,iP,by rw[ya,if_neg he];exact q1,?_,q3.mono fun _ _ k=>k.le gr.le.b6⟩
    show(E.w.setRow bl _).heap[ea]?=_
    rw[setRow_other _ _ _ _ BQ];exact q2
 | ptr b g r c=>
  obtain⟨blk,hb,aO,h2⟩:=e3 (show cJ H[b]? fun blk=>blk.bI=g∧cJ blk.rows[r]? fun row=>c+(eD v).length≤row.length∧K L (H.set b {blk with rows:=blk.rows.set r (eK row c (eD v))}) from h)
  obtain⟨row,ek,hle,hK⟩:=e3 h2
  have jL:=aV.eZ b blk hb
  obtain⟨bl,hm,rfl⟩:=hx.ze (jL.trans aO)
  obtain⟨blk',ba,ty,dA,lO,hw,lq,mR,gq⟩:=aV.heap b bl hm
  obtain rfl:blk=blk':=by rw[hb] at dA;exact Option.some.inj dA
  have jo:row.length=E.sz b:=gq.1 r row ek
  have ZW:r<blk.rows.length:=(List.getElem?_eq_some_iff.1 ek).1
  have RV:r*E.sz b+E.sz b≤ba.size:=by
   rw[lq];calc r*E.sz b+E.sz b=(r+1)*E.sz b:=by rw[Nat.add_mul,Nat.one_mul]
    _≤E.cp b*E.sz b:=Nat.mul_le_mul_right _ (by omega)
  have n1:lF.cells.size=(eD v).length:=by rw[←hlen];simp
  have fe:=L0 (P:=P) (t:=t) (o:=r*E.sz b+c) hi cH hw (by omega) h1
  have gr:=Step.setRow aV (.inl ⟨b,hm⟩) (ba.toList.take (r*E.sz b+c)++lF.cells.toList++ba.toList.drop (r*E.sz b+c+lF.cells.toList.length)).toArray
  have pD:b<H.length:=(List.getElem?_eq_some_iff.1 hb).1
  refine⟨_,_,_,hK,fe,gr,?_,?_,rfl⟩
  ·exact{aV with
    heap:=fun c8 ea jK=>by
     by_cases he:c8=b
     ·subst he
      obtain rfl:ea=bl:=by
       have:E.m c8=some (some ea):=jK
       rw[hm] at this;exact(Option.some.inj (Option.some.inj this)).symm
      refine⟨{blk with rows:=blk.rows.set r (eK row c (eD v))},_,ty,by rw[List.getElem?_set_self pD],lO,setRow_heap _ _ _ _ _ _ hw,?_,by simpa using mR,?_,?_⟩
      ·simp;omega
      ·intro i row' ej
       rw[List.getElem?_set] at ej
       split at ej
       ·rename_i BI
        cases ej
        simp[eK];omega
       ·exact gq.1 i row' ej
      ·intro i j row' a ej a6
       have nh: ∀k,(ba.toList.take (r*E.sz c8+c)++lF.cells.toList++ba.toList.drop (r*E.sz c8+c+lF.cells.toList.length)).toArray[k]?=if k<r*E.sz c8+c then ba.toList[k]? else if k<r*E.sz c8+c+lF.cells.toList.length then lF.cells.toList[k - (r*E.sz c8+c)]? else ba.toList[k]?:=by
        intro k
        rw[List.getElem?_toArray,u0 (by simp;omega)]
       rw[List.getElem?_set] at ej
       split at ej
       ·rename_i BI
        cases ej
        subst BI
        have tV:=u0 hle j
        unfold eK at a6
        rw[tV] at a6
        split at a6
        ·rename_i aP
         obtain⟨u,hu,gH⟩:=gq.2 r j row a ek a6
         refine⟨u,?_,gH.le gr.le.b6⟩
         show(List.toArray _)[r*E.sz c8+j]?=_
         rw[nh,if_pos (by omega)];simpa using hu
        ·rename_i aP
         split at a6
         ·rename_i vT
          obtain⟨u,hu,gH⟩:=aC.get a6
          refine⟨u,?_,gH.le gr.le.b6⟩
          show(List.toArray _)[r*E.sz c8+j]?=_
          rw[nh,if_neg (by omega),if_pos (by omega),show r*E.sz c8+j - (r*E.sz c8+c)=j - c by omega];exact hu
         ·rename_i vT
          obtain⟨u,hu,gH⟩:=gq.2 r j row a ek a6
          refine⟨u,?_,gH.le gr.le.b6⟩
          show(List.toArray _)[r*E.sz c8+j]?=_
          rw[nh,if_neg (by omega),if_neg (by omega)];simpa using hu
       ·rename_i BI
        have ni:j<E.sz c8:=by rw[←gq.1 i row' ej];exact(List.getElem?_eq_some_iff.1 a6).1
        obtain⟨u,hu,gH⟩:=gq.2 i j row' a ej a6
        refine⟨u,?_,gH.le gr.le.b6⟩
        show(List.toArray _)[i*E.sz c8+j]?=_
        rw[nh]
        rcases Nat.lt_or_ge i r with bg | fN
        ·have:i*E.sz c8+E.sz c8≤r*E.sz c8:=by
          calc i*E.sz c8+E.sz c8=(i+1)*E.sz c8:=by rw[Nat.add_mul,Nat.one_mul]
           _≤r*E.sz c8:=Nat.mul_le_mul_right _ (by omega)
         rw[if_pos (by omega)];simpa using hu
        ·have:r*E.sz c8+E.sz c8≤i*E.sz c8:=by
          calc r*E.sz c8+E.sz c8=(r+1)*E.sz c8:=by rw[Nat.add_mul,Nat.one_mul]
           _≤i*E.sz c8:=Nat.mul_le_mul_right _ (by omega)
         rw[if_neg (by omega),if_neg (by omega)];simpa using hu
     ·obtain⟨vq,Aw,ty2,q1,dX,q2,q3,q4,cx,cT⟩:=aV.heap c8 ea jK
      have cO:ea≠bl:=fun e=>by subst e;exact he (aV.iq c8 b ea jK hm)
      refine⟨vq,Aw,ty2,by rw[List.getElem?_set_ne (fun e=>he e.symm)];exact q1,dX,?_,q3,q4,cx,fun i j row a aJ aP=> ?_⟩
      ·show(E.w.setRow bl _).heap[ea]?=_
       rw[setRow_other _ _ _ _ cO];exact q2
      ·obtain⟨u,hu,ej⟩:=cT i j row a aJ aP
       exact⟨u,hu,ej.le gr.le.b6⟩
    eZ:=fun c8 vq jK=>by
     by_cases he:b=c8
     ·subst he
      rw[List.getElem?_set_self pD] at jK
      cases jK
      exact aV.eZ b blk hb
     ·rw[List.getElem?_set_ne he] at jK
      exact aV.eZ c8 vq jK
    hE:=fun c8 jK=>by
     obtain⟨vq,q,iK⟩:=aV.hE c8 jK
     by_cases he:b=c8
     ·subst he
      rw[hm] at jK;cases jK
     ·exact⟨vq,by rw[List.getElem?_set_ne he];exact q,iK⟩
    fresh:=fun c8 jK=>aV.fresh c8 (by simpa using jK)
    eG:=fun ea hc=>by rw[show(E.w.setRow bl _).heap.size=_ from setRow_size _ _ _];exact aV.eG ea hc
    gF:=fun ea hc=>by rw[show(E.w.setRow bl _).heap.size=_ from setRow_size _ _ _];exact aV.gF ea hc
    gu:=fun ea hc=>by rw[show(E.w.setRow bl _).heap.size=_ from setRow_size _ _ _];exact aV.gu ea hc}
  ·intro iO ea mf
   obtain⟨gP,dl,iP,q1,q2,q3⟩:=bT iO ea mf
   have BQ:ea≠bl:=fun e=>by subst e;exact aV.g2 b iO ea hm mf
   refine⟨gP,dl,iP,q1,?_,q3.mono fun _ _ k=>k.le gr.le.b6⟩
   show(E.w.setRow bl _).heap[ea]?=_
   rw[setRow_other _ _ _ _ BQ];exact q2
 | _=>exact h.elim
end Go.Proofs.Ytglpfccgmfhkdaa.Fw
/- The framework, part E: operations that leave the abstract memory alone. -/
set_option linter.unusedVariables false
namespace Go.Proofs.Ytglpfccgmfhkdaa.Fw
open Go
structure kS (E E':Env):Prop where
 step:Step E E'
 m:E'.m=E.m
 mL:E'.mL=E.mL
 bI:E'.bI=E.bI
 sz:E'.sz=E.sz
 cp:E'.cp=E.cp
 ey: ∀c,c<E.w.heap.size→E'.w.heap[c]?=E.w.heap[c]?
 fE: ∀c,E'.PA c→E.PA c∨(E.w.heap.size≤c∧c<E'.w.heap.size)
 ep: ∀c,E'.PF c→E'.PA c
theorem kS.refl {E:Env} {H:List Blk} (h:SimH E H):kS E E:=⟨.refl E,rfl,rfl,rfl,rfl,rfl,fun _ _=>rfl,fun _ h=> .inl h,h.ep⟩
theorem kS.simH {E E':Env} {H:List Blk} (q:kS E E') (h:SimH E H):SimH E' H where
 heap:=fun b c hb=>by
  rw[q.m] at hb
  obtain⟨blk,ba,ty,q1,dX,q2,q3,q4,cx,cT⟩:=h.heap b c hb
  refine⟨blk,ba,ty,q1,by rw[q.sz];exact dX,?_,by rw[q.cp,q.sz];exact q3,by rw[q.cp];exact q4,by rw[q.sz];exact cx,fun i j row a aJ aP=> ?_⟩
  ·rw[q.ey c (h.gF c ⟨b,hb⟩)];exact q2
  ·obtain⟨u,hu,ej⟩:=cT i j row a aJ aP
   exact⟨u,by rw[q.sz];exact hu,ej.le q.step.le.b6⟩
 eZ:=by rw[q.bI];exact h.eZ
 hE:=by rw[q.m,q.sz];exact h.hE
 fresh:=by rw[q.m,q.bI];exact h.fresh
 iq:=by rw[q.m];exact h.iq
 iH:=by rw[q.mL];exact h.iH
 g2:=by rw[q.m,q.mL];exact h.g2
 h7:=fun c hc ⟨b,hb⟩=>by
  rw[q.m] at hb
  rcases q.fE c hc with hc | ⟨hc,_⟩
  ·exact h.h7 c hc ⟨b,hb⟩
  ·have:=h.gF c ⟨b,hb⟩;omega
 h8:=fun c hc ⟨b,hb⟩=>by
  rw[q.mL] at hb
  rcases q.fE c hc with hc | ⟨hc,_⟩
  ·exact h.h8 c hc ⟨b,hb⟩
  ·have:=h.gu c ⟨b,hb⟩;omega
 ep:=q.ep
 eG:=fun c hc=>by
  rcases q.fE c hc with hc | ⟨_,hc⟩
  ·exact Nat.lt_of_lt_of_le (h.eG c hc) q.step.size
  ·exact hc
 gF:=fun c ⟨b,hb⟩=>by rw[q.m] at hb;exact Nat.lt_of_lt_of_le (h.gF c ⟨b,hb⟩) q.step.size
 gu:=fun c ⟨b,hb⟩=>by rw[q.mL] at hb;exact Nat.lt_of_lt_of_le (h.gu c ⟨b,hb⟩) q.step.size
theorem kS.simL {E E':Env} {H:List Blk} {L:List (Nat×List AV)} (q:kS E E') (h:SimH E H) (l:SimL E L):SimL E' L:=fun t c hm=>by
 rw[q.mL] at hm
 obtain⟨cells,ba,ty,q1,q2,q3⟩:=l t c hm
 exact⟨cells,ba,ty,q1,by rw[q.ey c (h.gu c ⟨t,hm⟩)];exact q2,q3.mono fun _ _ k=>k.le q.step.le.b6⟩
def xx (op:BinOp) (k:IntKind) (a b:Int) (K:AV→Prop):Prop:=match op with
 | .add=>K (.int k (k.wrap (a+b)))
 | .sub=>K (.int k (k.wrap (a - b)))
 | .mul=>K (.int k (k.wrap (a*b)))
 | .quo=>b≠0∧K (.int k (k.wrap (a.tdiv b)))
 | .rem=>b≠0∧K (.int k (a.tmod b))
 | .and=>K (.int k (k.wrap (BitVec.ofInt k.bits a&&&BitVec.ofInt k.bits b).toNat))
 | .eql=>K (.bool (a==b))
 | .neq=>K (.bool (a !=b))
 | .lss=>K (.bool (decide (a<b)))
 | .leq=>K (.bool (decide (a≤b)))
 | .gtr=>K (.bool (decide (a>b)))
 | .geq=>K (.bool (decide (a ≥ b)))
 | _=>False
def two (P:Program) (t:TypeId):Bool:=
 match P.underlying t with
 | some (.struct eY)=> !P.stoodInHeld t&& !P.eqGuardType P.depth t&&(match eY.toList with
  | [f,g]=>f.name != "_" &&g.name != "_" &&f.offset==0&&g.offset==1&&(P.underlying f.type matches some (.int .i64))&&(P.underlying g.type matches some (.int .i64))
  | _=>false)
 | _=>false
def xy (op:BinOp) (k:IntKind) (a:Int) (jO:IntKind) (b:Int) (K:AV→Prop):Prop:=match op with
 | .shl=>0≤b∧K (.int k (k.wrap (a*2 ^ (min b.toNat k.bits))))
 | .shr=>0≤b∧K (.int k (a.fdiv (2 ^ (min b.toNat k.bits))))
 | op=>if k=jO then xx op k a b K else False
def Kb (P:Program) (t:TypeId):Bool:=match P.underlying t with
 | some .bool=>true
 | _=>false
def z8 (P:Program) (op:BinOp) (t:TypeId) (a b:Bool) (K:AV→Prop):Prop:=if Kb P t=true then(match op with
  | .eql=>K (.bool (a==b))
  | .neq=>K (.bool (a !=b))
  | _=>False) else False
def z_ (op:BinOp) (a b:ByteArray) (K:AV→Prop):Prop:=match op with
  | .add=>a.size+b.size≤9223372036854775807∧K (.str (a++b))
  | .eql=>K (.bool (a.toList==b.toList))
  | .neq=>K (.bool (!(a.toList==b.toList)))
  | _=>False
def Aa (op:BinOp) (a b c d:Int) (K:AV→Prop):Prop:=match op with
  | .eql=>K (.bool (a==c&&b==d))
  | .neq=>K (.bool (!(a==c&&b==d)))
  | _=>False
def u6:List AV→Option (Int×Int)
 | [.int .i64 a,.int .i64 b]=>some (a,b)
 | _=>none
def il (P:Program) (t:TypeId):Option TypeId:=match P.underlying t with
 | some (.slice e)=>some e
 | _=>none
def oU:Operand→Bool
 | .const (.slice none 0 0)=>true
 | _=>false
def z9 (P:Program) (op:BinOp) (t:TypeId) (rows:List (List AV)) (qd:Bool) (K:AV→Prop):Prop:=
 if qd=true∧(il P t).isSome=true then(match op with
  | .eql=>(rows≠[]→K (.bool false))∧(rows=[]→ ∀b,K (.bool b))
  | _=>False) else False
def qm (P:Program) (op:BinOp) (t:TypeId) (x y:AV) (qd:Bool) (K:AV→Prop):Prop:=match x with
 | .int k a=>(match y with
  | .int jO b=>xy op k a jO b K
  | _=>False)
 | .bool a=>(match y with
  | .bool b=>z8 P op t a b K
  | _=>False)
 | .str a=>(match y with
  | .str b=>z_ op a b K
  | _=>False)
 | .agg l=>(match y with
  | .agg m=>if two P t=true then cJ (u6 l) fun p=>cJ (u6 m) fun q=>Aa op p.1 p.2 q.1 q.2 K else False
  | _=>False)
 | .be rows _ _=>z9 P op t rows qd K
 | _=>False
theorem AS {op:BinOp} {t:TypeId} {x y:Operand} {k jO:IntKind} {a b:Int} {P:Program} {w:World}:(eqGuard op t x y (.int k a) (.int jO b)).run P w= .ok () w:=by
 unfold eqGuard;cases op<;>rfl
theorem Hk {op:BinOp} {t:TypeId} {x y:Operand} {a b:Bool} {P:Program} {w:World}:(eqGuard op t x y (.bool a) (.bool b)).run P w= .ok () w:=by
 unfold eqGuard;cases op<;>rfl
theorem AT {op:BinOp} {t:TypeId} {x y:Operand} {a b:ByteArray} {P:Program} {w:World}:(eqGuard op t x y (.string a) (.string b)).run P w= .ok () w:=by
 unfold eqGuard;cases op<;>rfl
theorem Qa {op:BinOp} {t:TypeId} {x y:Operand} {A B:Option Addr} {n m c d:Nat} {P:Program} {w:World}:(eqGuard op t x y (.slice A n c) (.slice B m d)).run P w= .ok () w:=by
 unfold eqGuard;cases op<;>rfl
theorem Hj {op:BinOp} {t:TypeId} {x y:Operand} {A B:Array Value} {P:Program} {w:World} (h:P.eqGuardType P.depth t=false):(eqGuard op t x y (.agg A) (.agg B)).run P w= .ok () w:=by
 unfold eqGuard;cases op<;>first | rfl | simp[h]
theorem Wz {P:Program} {w:World} {op:BinOp} {t:TypeId} {k:IntKind} {a b:Int} {K:AV→Prop} (h:xx op k a b K):
  ∃r u,K r∧(binOp op t (.int k a) (.int k b)).run P w= .ok u w∧ ∀E:Env,V3 E r u:=by
 cases op<;>simp only[xx] at h
 case add=>exact⟨_,_,h,by simp[binOp,Op.intArith],fun E=>bD.int _ _⟩
 case sub=>exact⟨_,_,h,by simp[binOp,Op.intArith],fun E=>bD.int _ _⟩
 case mul=>exact⟨_,_,h,by simp[binOp,Op.intArith],fun E=>bD.int _ _⟩
 case quo=>exact⟨_,_,h.2,by simp[binOp,Op.intDiv,h.1],fun E=>bD.int _ _⟩
 case rem=>exact⟨_,_,h.2,by simp[binOp,Op.intDiv,h.1],fun E=>bD.int _ _⟩
 case and=>exact⟨_,_,h,by simp[binOp,Op.intBits],fun E=>bD.int _ _⟩
 case eql=>exact⟨_,_,h,by simp[binOp,Op.intCmp],fun E=>bD.bool _⟩
 case neq=>exact⟨_,_,h,by simp[binOp,Op.intCmp],fun E=>bD.bool _⟩
 case lss=>exact⟨_,_,h,by simp[binOp,Op.intCmp],fun E=>bD.bool _⟩
 case leq=>exact⟨_,_,h,by simp[binOp,Op.intCmp],fun E=>bD.bool _⟩
 case gtr=>exact⟨_,_,h,by simp[binOp,Op.intCmp],fun E=>bD.bool _⟩
 case geq=>exact⟨_,_,h,by simp[binOp,Op.intCmp],fun E=>bD.bool _⟩
theorem NX {P:Program} {t:TypeId} (h:two P t=true): ∃f g:Field,P.underlying t=some (.struct (P.fieldsOf t))∧(P.fieldsOf t).toList=[f,g]∧P.stoodInHeld t=false∧P.eqGuardType P.depth t=false∧
  f.name≠ "_" ∧g.name≠ "_" ∧f.offset=0∧g.offset=1∧P.underlying f.type=some (.int .i64)∧P.underlying g.type=some (.int .i64):=by
 unfold two at h
 split at h
 ·rename_i eY mT
  have hf:P.fieldsOf t=eY:=by simp[Program.fieldsOf,mT]
  simp only[Bool.and_eq_true,Bool.not_eq_true'] at h
  obtain⟨⟨h1,h2⟩,aS⟩:=h
  split at aS
  ·rename_i f g aI
   simp only[Bool.and_eq_true,bne_iff_ne,ne_eq,beq_iff_eq] at aS
   obtain⟨⟨⟨⟨⟨q1,q2⟩,q3⟩,q4⟩,cx⟩,cT⟩:=aS
   refine⟨f,g,by rw[hf];exact mT,by rw[hf];exact aI,h1,h2,q1,q2,q3,q4,?_,?_⟩
   ·split at cx
    ·assumption
    ·cases cx
   ·split at cT
    ·assumption
    ·cases cT
  ·cases aS
 ·cases h
theorem L1 {P:Program} {t:TypeId} (h:two P t=true) (a b c d:Int) (w:World):
  (Op.equal t (.agg #[.int .i64 a,.int .i64 b]) (.agg #[.int .i64 c,.int .i64 d])).run P w= .ok (a==c&&b==d) w:=by
 obtain⟨f,g,h1,h2,aS,bt,cb,cE,gp,pB,rP,vD⟩:=NX h
 show(Op.equalIn (9999+1) t _ _).run P w=_
 rw[run_equalIn_struct w 9999 t _ _ h1 aS,h2]
 have fF: ∀(gW:TypeId) (ba:Array Value) (o:Nat) (u:Value),P.underlying gW=some (.int .i64)→ba[o]?=some u→(part gW ba o).run P w= .ok u w:=by
  intro gW ba o u hu hc
  simp[part,Go.isAgg,run_underlying hu,hc]
 simp only[Op.eqFields,if_pos cb,if_pos cE,gp,pB,Sem.run_bind]
 rw[fF f.type #[.int .i64 a,.int .i64 b] 0 (.int .i64 a) rP rfl]
 simp only[Result.andThen_ok]
 rw[fF f.type #[.int .i64 c,.int .i64 d] 0 (.int .i64 c) rP rfl]
 simp only[Result.andThen_ok]
 rw[show(9999:Nat)=9998+1 from rfl,run_equalIn_int w 9998 f.type .i64 .i64 a c rP]
 simp only[Result.andThen_ok]
 cases ZO:(a==c)
 ·simp
 ·simp only[Bool.not_true,Bool.false_eq_true,if_false,Sem.run_bind]
  rw[fF g.type #[.int .i64 a,.int .i64 b] 1 (.int .i64 b) vD rfl]
  simp only[Result.andThen_ok]
  rw[fF g.type #[.int .i64 c,.int .i64 d] 1 (.int .i64 d) vD rfl]
  simp only[Result.andThen_ok]
  rw[run_equalIn_int w 9998 g.type .i64 .i64 b d vD]
  cases ZQ:(b==d)<;>simp
theorem V3.NW {E:Env} {a b:Int} {v:Value} (h:V3 E (.agg [.int .i64 a,.int .i64 b]) v):v= .agg #[.int .i64 a,.int .i64 b]:=by
 obtain⟨vs,rfl,aF⟩:=(h:V2 E (.agg [.int .i64 a,.int .i64 b]) v)
 obtain⟨x,vs,rfl,hx,aF⟩:=aF.cons_inv
 obtain⟨y,vs,rfl,bA,aF⟩:=aF.cons_inv
 obtain rfl:=aF.uq
 have iG:bD E.w E.PA E.PF (.int .i64 a) x:=hx
 have S3:bD E.w E.PA E.PF (.int .i64 b) y:=bA
 cases iG;cases S3;rfl
theorem NV {l:List AV} {p:Int×Int} (h:u6 l=some p):l=[.int .i64 p.1,.int .i64 p.2]:=by
 unfold u6 at h
 split at h
 ·cases h;rfl
 ·cases h
theorem qs {P:Program} {t e:TypeId} (h:il P t=some e):P.underlying t=some (.slice e):=by
 unfold il at h
 split at h
 ·cases h;assumption
 ·cases h
theorem OW {P:Program} {op:BinOp} {t:TypeId} {X Y:Operand} {Gg vb:AV} {hX zQ:Value} {E:Env} {K:AV→Prop}
  {qd:Bool} (hx:V3 E Gg hX) (bA:V3 E vb zQ) (B5:qd=true→zQ= .slice none 0 0) (h:qm P op t Gg vb qd K):
  ∃r u,K r∧(do eqGuard op t X Y hX zQ;binOp op t hX zQ:Sem Value).run P E.w= .ok u E.w∧V3 E r u:=by
 cases Gg with
 | int k a=>
  cases vb with
  | int jO b=>
   replace h:xy op k a jO b K:=h
   obtain rfl:=hx.pS
   obtain rfl:=bA.pS
   cases op
   case shl=>
    obtain⟨hb,h⟩:=h
    have dA: ¬b<0:=by omega
    exact⟨_,_,h,by simp[AS,binOp,Op.shift,dA],bD.int _ _⟩
   case shr=>
    obtain⟨hb,h⟩:=h
    have dA: ¬b<0:=by omega
    exact⟨_,_,h,by simp[AS,binOp,Op.shift,dA],bD.int _ _⟩
   all_goals
    simp only[xy] at h
    split at h
    ·rename_i hk
     subst hk
     obtain⟨r,u,hK,aJ,hv⟩:=Wz (P:=P) (w:=E.w) (t:=t) h
     exact⟨r,u,hK,by simp only[Sem.run_bind,AS,Result.andThen_ok,aJ],hv E⟩
    ·exact h.elim
  | _=>exact h.elim
 | bool a=>
  cases vb with
  | bool b=>
   replace h:z8 P op t a b K:=h
   obtain rfl:=hx.pt
   obtain rfl:=bA.pt
   unfold z8 at h
   split at h
   ·rename_i hu
    have lS:P.underlying t=some .bool:=by
     unfold Kb at hu
     split at hu
     ·assumption
     ·cases hu
    cases op<;>first | exact h.elim | skip
    case eql=>exact⟨_,_,h,by simp only[Sem.run_bind,Hk,Result.andThen_ok,binOp,Op.equal];rw[show Op.maxDepth=9999+1 from rfl,run_equalIn_bool' E.w 9999 t a b lS];rfl,bD.bool _⟩
    case neq=>exact⟨_,_,h,by simp only[Sem.run_bind,Hk,Result.andThen_ok,binOp,Op.equal];rw[show Op.maxDepth=9999+1 from rfl,run_equalIn_bool' E.w 9999 t a b lS];rfl,bD.bool _⟩
   ·exact h.elim
  | _=>exact h.elim
 | str a=>
  cases vb with
  | str b=>
   replace h:z_ op a b K:=h
   obtain rfl:=hx.u1
   obtain rfl:=bA.u1
   cases op<;>first | exact h.elim | skip
   case add=>
    obtain⟨aI,h⟩:=h
    have: ¬((a.size+b.size:Nat):Int)>IntKind.i64.max:=by
     have:IntKind.i64.max=9223372036854775807:=by decide
     rw[this];omega
    exact⟨_,_,h,by simp only[Sem.run_bind,AT,Result.andThen_ok,binOp,Op.stringOp];rw[if_neg this];rfl,bD.str _⟩
   case eql=>exact⟨_,_,h,by simp only[Sem.run_bind,AT,Result.andThen_ok,binOp,Op.stringOp];rfl,bD.bool _⟩
   case neq=>exact⟨_,_,h,by simp only[Sem.run_bind,AT,Result.andThen_ok,binOp,Op.stringOp];rfl,bD.bool _⟩
  | _=>exact h.elim
 | agg l=>
  cases vb with
  | agg m=>
   replace h:if two P t=true then cJ (u6 l) fun p=>cJ (u6 m) fun q=>Aa op p.1 p.2 q.1 q.2 K else False:=h
   split at h
   ·rename_i bu
    obtain⟨⟨a,b⟩,aF,h⟩:=e3 h
    obtain⟨⟨c,d⟩,aj,h⟩:=e3 h
    obtain rfl:=NV aF
    obtain rfl:=NV aj
    obtain rfl:=hx.NW
    obtain rfl:=bA.NW
    obtain⟨f,g,h1,h2,aS,bt,_⟩:=NX bu
    cases op<;>first | exact h.elim | skip
    case eql=>exact⟨_,_,h,by simp only[Sem.run_bind,Hj bt,Result.andThen_ok,binOp,L1 bu];rfl,bD.bool _⟩
    case neq=>exact⟨_,_,h,by simp only[Sem.run_bind,Hj bt,Result.andThen_ok,binOp,L1 bu];rfl,bD.bool _⟩
   ·exact h.elim
  | _=>exact h.elim
 | be rows ei fr=>
  replace h:z9 P op t rows qd K:=h
  unfold z9 at h
  split at h
  ·rename_i hc
   obtain⟨aC,he⟩:=hc
   obtain⟨e,he⟩:=Option.isSome_iff_exists.1 he
   have hu:=qs he
   obtain rfl:=B5 aC
   have iG:bD E.w E.PA E.PF (.be rows ei fr) hX:=hx
   cases iG with
   | @be _ _ _ _ _ _ A cap sz vs fV gD gQ cH eP dB=>
   have fe:(do eqGuard op t X Y (.slice A rows.length cap) (.slice none 0 0);binOp .eql t (.slice A rows.length cap) (.slice none 0 0):Sem Value).run P E.w= .ok (.bool A.isNone) E.w:=by
    simp only[Sem.run_bind,Qa,Result.andThen_ok,binOp,Op.equal]
    rw[show Op.maxDepth=9999+1 from rfl]
    generalize 9999=d
    simp only[Op.equalIn,Sem.run_bind,run_underlying hu,Result.andThen_ok]
    cases A<;>rfl
   cases op<;>first | exact h.elim | skip
   case eql=>
    obtain⟨h1,h2⟩:=h
    by_cases aJ:rows=[]
    ·exact⟨_,_,h2 aJ A.isNone,fe,bD.bool _⟩
    ·have:0<rows.length:=by cases rows<;>simp_all
     obtain⟨c,o,rfl,_⟩:=eP this
     exact⟨_,_,h1 aJ,fe,bD.bool _⟩
  ·exact h.elim
 | _=>exact h.elim
end Go.Proofs.Ytglpfccgmfhkdaa.Fw
/- The framework, part F: structs and slices made of parts, addresses of fields and elements, pieces, lengths, conversions. -/
set_option linter.unusedVariables false
namespace Go.Proofs.Ytglpfccgmfhkdaa.Fw
open Go
theorem HR (off:Nat): ∀(l:List Value) (k:Nat) (cells:Array Value),off+k+l.length≤cells.size→
  (((l.zipIdx k).foldl (fun ba (x:Value×Nat)=>ba.setIfInBounds (off+x.2) x.1) cells).size=cells.size∧
  ∀i,((l.zipIdx k).foldl (fun ba (x:Value×Nat)=>ba.setIfInBounds (off+x.2) x.1) cells)[i]?=if i<off+k then cells[i]? else if i<off+k+l.length then l[i - (off+k)]? else cells[i]?)
 | [],k,cells,_=>⟨rfl,fun i=>by simp;omega⟩
 | v::l,k,cells,h=>by
  have h':off+(k+1)+l.length≤(cells.setIfInBounds (off+k) v).size:=by simp at h ⊢;omega
  obtain⟨h1,h2⟩:=HR off l (k+1) (cells.setIfInBounds (off+k) v) h'
  refine⟨by simp only[List.zipIdx_cons,List.foldl_cons];rw[h1];simp,fun i=> ?_⟩
  simp only[List.zipIdx_cons,List.foldl_cons]
  rw[h2 i]
  simp only[Array.getElem?_setIfInBounds,List.length_cons] at*
  by_cases M:i<off+k
  ·rw[if_pos (by omega),if_neg (by omega),if_pos M]
  ·by_cases O:i=off+k
   ·subst O
    rw[if_pos (by omega),if_pos rfl,if_pos (by omega),if_neg (by omega),if_pos (by omega)]
    simp
   ·by_cases dx:i<off+(k+1)+l.length
    ·rw[if_neg (by omega),if_pos dx,if_neg M,if_pos (by omega),show i - (off+k)=(i - (off+(k+1)))+1 by omega]
     simp
    ·rw[if_neg (by omega),if_neg dx,if_neg (by omega),if_neg M,if_neg (by omega)]
def nN (pl:Nat→Option (Nat×Nat)) (cells:List AV):List (Nat×AV)→Option (List AV)
 | []=>some cells
 | (i,v)::rest=>match pl i with
  | none=>none
  | some (off,size)=>if(eD v).length=size∧off+(eD v).length≤cells.length∧(eD v).all ie=true then nN pl (eK cells off (eD v)) rest else none
theorem x4 {E:Env} {pl:Nat→Option (Nat×Nat)}: ∀{parts:List (Nat×AV)} {jB:List (Nat×Value)} {cells:List AV} {rj:Array Value} {r:List AV},
  av (fun a b=>a.1=b.1∧V2 E a.2 b.2) parts jB→av (cG E.b6) cells rj.toList→nN pl cells parts=some r→ ∃gV,Instr.fill pl rj jB=some gV∧av (cG E.b6) r gV.toList
 | [],jB,cells,rj,r,aF,hc,h=>by
  obtain rfl:=aF.uq
  cases h
  exact⟨rj,rfl,hc⟩
 | (i,v)::rest,jB,cells,rj,r,aF,hc,h=>by
  obtain⟨⟨h4,u⟩,Z7,rfl,⟨hi,hv⟩,qJ⟩:=aF.cons_inv
  simp only at hi hv
  subst hi
  unfold nN at h
  split at h
  ·cases h
  ·rename_i off size io
   split at h
   ·rename_i ng
    obtain⟨h1,h2,aS⟩:=ng
    have rW:=Am hv aS
    have R1:av (cG E.b6) (eD v) u.cells.toList:=⟨rW.1,fun i a b a6 hb=>FQ (List.all_eq_true.1 aS a (List.mem_of_getElem? a6)) (rW.2 i a b a6 hb)⟩
    have cH:u.cells.size=(eD v).length:=by rw[rW.1];simp
    have mR:cells.length=rj.size:=by rw[hc.1];simp
    obtain⟨f1,f2⟩:=HR off u.cells.toList 0 rj (by simp;omega)
    simp only[Nat.add_zero] at f1 f2
    have tO:av (cG E.b6) (eK cells off (eD v)) ((u.cells.toList.zipIdx).foldl (fun ba (x:Value×Nat)=>ba.setIfInBounds (off+x.2) x.1) rj).toList:=by
     have hs:=av.eK hc R1 h2
     refine⟨?_,fun k a b a6 hb=> ?_⟩
     ·simp only[Array.length_toList];rw[f1];simp[eK];omega
     ·refine hs.2 k a b a6 ?_
      rw[u0 (by simp;omega)]
      rw[Array.getElem?_toList,f2 k] at hb
      simpa using hb
    obtain⟨gV,aJ,dB⟩:=x4 qJ tO h
    refine⟨gV,?_,dB⟩
    unfold Instr.fill
    rw[io]
    simp only
    rw[if_neg (by simp;omega)]
    rw[←Array.foldl_toList,Array.toList_zipIdx]
    exact aJ
   ·cases h
def l2 (P:Program) (t:TypeId):Option (List AV):=((P.info? t).bind (·.zero)).map fun z=>z.cells.toList.map nc
theorem PQ (E:Env) (v:Value):cG E (nc v) v:=by
 unfold nc
 split
 ·exact bD.int _ _
 ·exact bD.bool _
 ·exact bD.str _
 ·exact bD.be (PB:=fun _=>False) (sz:=0) (vs:=fun _ _=>undef) (fun _ h=>h.elim) ⟨Nat.le_refl _,Nat.zero_le _⟩ (fun _=>rfl) (fun i row h=>by simp at h) (fun h=>by simp at h) (fun i j row a h=>by simp at h)
 ·exact bD.fu
 ·exact bD.fP
 ·exact bD.undef _
theorem s0 {E:Env} {P:Program} {t:TypeId} {z:List AV} (h:l2 P t=some z): ∃i v,P.info? t=some i∧i.zero=some v∧z=v.cells.toList.map nc∧av (cG E) z v.cells.toList:=by
 unfold l2 at h
 cases hi:P.info? t with
 | none=>simp[hi] at h
 | some i=>
  cases aQ:i.zero with
  | none=>simp[hi,aQ] at h
  | some v=>
   simp[hi,aQ] at h
   subst h
   refine⟨i,v,rfl,aQ,rfl,by simp,fun k a b a6 hb=> ?_⟩
   rw[List.getElem?_map,hb] at a6
   simp at a6;subst a6;exact PQ E b
def DV (P:Program) (t:TypeId):Option (List (Nat×Nat)):=match P.underlying t with
 | some (.struct eY)=>eY.toList.mapM (fun f=>(P.info? f.type).map fun i=>(f.offset,i.size))
 | _=>none
def Ad (P:Program) (t:TypeId) (parts:List (Nat×AV)) (K:AV→Prop):Prop:=
 cJ (l2 P t) fun z=>cJ (DV P t) fun pl=>cJ (nN (fun i=>pl[i]?) z parts) fun cells=>K (.agg cells)
theorem O6 {P:Program} {E:Env} {t:TypeId} {parts:List (Nat×AV)} {jB:List (Nat×Value)} {K:AV→Prop} (aF:av (fun a b=>a.1=b.1∧V2 E a.2 b.2) parts jB) (h:Ad P t parts K):
  ∃r u,K r∧(Instr.build t jB.toArray).run P E.w= .ok u E.w∧V3 E r u:=by
 obtain⟨z,aQ,h⟩:=e3 h
 obtain⟨pl,io,h⟩:=e3 h
 obtain⟨cells,hf,h⟩:=e3 h
 obtain⟨i,v,h1,h2,aS,bt⟩:=s0 (E:=E.b6) aQ
 obtain⟨gV,aJ,dB⟩:=x4 aF bt hf
 refine⟨_,.agg gV,h,run_build E.w t jB.toArray gV ?_,gV.toList,by simp,dB.mono fun _ _ k=>k.up⟩
 unfold DV at io
 split at io
 ·rename_i eY mT
  unfold Program.built
  rw[h1,mT]
  simp only[h2,io]
  simpa using aJ
 ·cases io
def kV:AV→Bool
 | .int _ _ | .bool _ | .str _ | .be _ _ _ | .fu | .fP=>true
 | _=>false
def rO:AV→Bool
 | .be _ _ fr=>fr
 | _=>true
def m3:AV→AV
 | .be rows _ _=> .be rows false false
 | a=>a
def nx:AV→AV
 | .be rows full _=> .be rows full true
 | a=>a
theorem Wo {w:World} {PB PA PF:Nat→Prop} {a:AV} {v:Value} (h:bD w PB (fun _=>False) a v) (hb: ∀c,PB c→PF c) (BR: ∀c,PF c→PA c):bD w PA PF (nx a) v:=by
 have key:(∀rows full fr,a≠ .be rows full fr)→bD w PA PF (nx a) v:=fun cO=>by
  have e:nx a=a:=by cases a<;>first | rfl | exact absurd rfl (cO _ _ _)
  rw[e]
  exact h.mono (fun _ _=>rfl) (fun _ h=>h.elim) (fun c hc=>BR c (hb c hc)) (fun _ h=>h.elim)
 cases a with
 | be rows full fr=>
  cases h with
  | be fV gD gQ cH eP dB=>
   exact .be (fun c hc=>by
    have:=fV c hc
    rw[if_pos rfl]
    split at this
    ·exact this.elim
    ·exact hb c this) gD gQ cH eP dB
 | _=>exact key (fun _ _ _ e=>by cases e)
theorem F8 {w:World} {PA PF PB:Nat→Prop} {a:AV} {v:Value} (a6:kV a=true) (h:bD w PA PF a v) (hb: ∀c,PA c→PB c) (BR: ∀c,PF c→PA c):bD w PB (fun _=>False) (m3 a) v:=by
 cases h with
 | undef=>cases a6
 | int=>exact .int _ _
 | bool=>exact .bool _
 | str=>exact .str _
 | be fV gD gQ cH eP dB=>
  exact .be (fun c hc=>by
   have:=fV c hc
   simp only[Bool.false_eq_true,if_false]
   split at this
   ·exact hb c (BR c this)
   ·exact hb c this) gD (fun h=>by cases h) cH eP dB
 | cZ=>cases a6
 | fu=>exact .fu
 | fP=>exact .fP
 | fn=>cases a6
theorem Zb {w:World} {PA PF:Nat→Prop} {a:AV} {v:Value} (a6:kV a=true) (hf:rO a=true) (h:bD w PA PF a v):bD w PF (fun _=>False) (m3 a) v:=by
 cases h with
 | undef=>cases a6
 | int=>exact .int _ _
 | bool=>exact .bool _
 | str=>exact .str _
 | @be _ _ PB rows full fresh A cap sz vs fV gD gQ cH eP dB=>
  have qD:fresh=true:=hf
  subst qD
  exact .be (fun c hc=>by simpa using fV c hc) gD (fun h=>by cases h) cH eP dB
 | cZ=>cases a6
 | fu=>exact .fu
 | fP=>exact .fP
 | fn=>cases a6
def chunk (size n:Nat) (cells:List AV):List (List AV):=(List.range n).map fun i=>(cells.drop (i*size)).take size
def te (P:Program) (t:TypeId) (n:Nat) (parts:List (Nat×AV)) (K:AV→Prop):Prop:=
 cJ (il P t) fun e=>cJ (l2 P e) fun z=>if z.length=P.cellsOf e∧n*z.length≤1000000∧n≤1000000 then
  cJ (nN (fun i=>some (i*z.length,z.length)) ((List.range (n*z.length)).map fun i=>z.getD (i%z.length) .undef) parts) fun cells=>
   if cells.all kV=true then K (.be (chunk z.length n (cells.map m3)) true (cells.all rO)) else False
 else False
theorem Ae {E:Env} {a:AV} {v:Value} (a6:kV a=true) (h:cG E a v):bD E.w E.PA E.PF a v:=by
 cases a<;>first | exact h | cases a6
theorem G2 {size n i j:Nat} {cells row:List AV} {a:AV} (aJ:(chunk size n cells)[i]?=some row) (aP:row[j]?=some a):i<n∧j<size∧cells[i*size+j]?=some a:=by
 unfold chunk at aJ
 rw[List.getElem?_map] at aJ
 cases r6:(List.range n)[i]? with
 | none=>simp[r6] at aJ
 | some k=>
  have hi:i<n:=by have:=(List.getElem?_eq_some_iff.1 r6).1;simpa using this
  rw[List.getElem?_range hi] at r6
  cases r6
  rw[List.getElem?_range hi] at aJ
  simp at aJ
  subst aJ
  rw[List.getElem?_take] at aP
  split at aP
  ·rw[List.getElem?_drop] at aP
   exact⟨hi,by assumption,aP⟩
  ·cases aP
theorem qh (w:World) (o:Obj) (c:Nat) (h:c<w.heap.size):(w.alloc o).heap[c]?=w.heap[c]?:=Go.RowKit.Below.heap_alloc w o c h
theorem Gz (w:World) (o:Obj):(w.alloc o).heap[w.heap.size]?=some o:=by
 show(w.heap.push o)[w.heap.size]?=_
 simp
theorem kS.alloc {E:Env} {H:List Blk} (aV:SimH E H) (o:Obj):
  kS E {E with w:=E.w.alloc o,PA:=fun c=>E.PA c∨c=E.w.heap.size,PF:=fun c=>E.PF c∨c=E.w.heap.size} where
 step:=⟨⟨fun _ h=> .inl h,fun _ h=> .inl h,fun c hc=>qh _ _ _ (aV.eG c hc),fun c hc=>qh _ _ _ (aV.eG c (aV.ep c hc)),fun _=>Nat.le_refl _,fun _ _ h _=>⟨h,rfl,rfl⟩,fun _ _ h=>h⟩,
  rfl,rfl,rfl,by simp,fun c hc _ _=>qh _ _ _ hc,fun _ h=> .inl h,fun _ h=> .inl h,fun c hc=>hc.elim .inl (fun e=> .inr (by omega)),fun c hc=>hc.elim .inl (fun e=> .inr (by omega))⟩
 m:=rfl
 mL:=rfl
 bI:=rfl
 sz:=rfl
 cp:=rfl
 ey:=fun c hc=>qh _ _ _ hc
 fE:=fun c hc=>hc.elim .inl (fun e=> .inr (by simp;omega))
 ep:=fun c hc=>hc.elim (fun h=> .inl (aV.ep c h)) .inr
theorem O4 {P:Program} {E:Env} {t:TypeId} {e:TypeId} {n:Nat} {z:List AV} {parts:List (Nat×AV)} {jB:List (Nat×Value)} {cells:List AV} (aF:av (fun a b=>a.1=b.1∧V2 E a.2 b.2) parts jB) (he:il P t=some e) (aQ:l2 P e=some z)
  (mW:z.length=P.cellsOf e) (RU:n*z.length≤1000000∧n≤1000000) (hf:nN (fun i=>some (i*z.length,z.length)) ((List.range (n*z.length)).map fun i=>z.getD (i%z.length) .undef) parts=some cells):
  ∃gV,av (cG E.b6) cells gV.toList∧(Instr.buildSlice t n jB.toArray).run P E.w= .ok (.slice (some ⟨E.w.heap.size,0,none⟩) n n) (E.w.alloc (.cells gV e))∧cells.length=n*z.length:=by
 obtain⟨i,v,h1,h2,aS,bt⟩:=s0 (E:=E.b6) aQ
 have sa:v.cells.size=z.length:=by rw[aS];simp
 have tJ:i.size=z.length:=by rw[mW];simp[Program.cellsOf,h1]
 let kl:Array Value:=if n*z.length=0 then #[] else v.cells
 let base:Array Value:=(Array.range (n*z.length)).map (fun i=>kl[i%kl.size]!)
 have rT:av (cG E.b6) ((List.range (n*z.length)).map fun i=>z.getD (i%z.length) .undef) base.toList:=by
  refine⟨by simp[base],fun k a b a6 hb=> ?_⟩
  rw[List.getElem?_map] at a6
  have hk:k<n*z.length:=by
   cases aj:(List.range (n*z.length))[k]? with
   | none=>simp[aj] at a6
   | some x=>have:=(List.getElem?_eq_some_iff.1 aj).1;simpa using this
  rw[List.getElem?_range hk] at a6
  simp only[Option.map_some,Option.some.injEq] at a6
  have ky:0<z.length:=by
   rcases Nat.eq_zero_or_pos z.length with q | q
   ·rw[q,Nat.mul_zero] at hk;omega
   ·exact q
  have bg:k%z.length<z.length:=Nat.mod_lt _ ky
  have n3:kl=v.cells:=if_neg (by omega)
  have dA:base[k]?=some (v.cells[k%z.length]!):=by
   show((Array.range (n*z.length)).map (fun i=>kl[i%kl.size]!))[k]?=_
   rw[n3,sa]
   simp[hk]
  rw[Array.getElem?_toList,dA] at hb
  simp only[Option.some.injEq] at hb
  have n1:v.cells.toList[k%z.length]?=some (v.cells[k%z.length]!):=by
   rw[Array.getElem?_toList,Array.getElem?_eq_getElem (by omega)]
   congr 1
   exact(getElem!_pos v.cells (k%z.length) (by omega)).symm
  have B6:z[k%z.length]?=some a:=by
   rw[←a6,List.getD_eq_getElem?_getD,List.getElem?_eq_getElem bg];rfl
  rw[←hb]
  exact bt.2 _ _ _ B6 n1
 obtain⟨gV,aJ,dB⟩:=x4 aF rT hf
 have hu:=qs he
 have fe:(Instr.buildSlice t n jB.toArray).run P E.w= .ok (.slice (some ⟨E.w.heap.size,0,none⟩) n n) (E.w.alloc (.cells gV e)):=by
  have Bw: ¬n*z.length>2 ^ 24:=by omega
  simp only[Instr.buildSlice,Sem.run_bind,run_underlying hu,Result.andThen_ok,run_sizeOf (show(P.info? e).isSome=true by rw[h1];rfl),←mW,if_neg Bw]
  have ej:Instr.fill (fun i=>some (i*z.length,z.length)) ((Array.range (n*z.length)).map (fun x=>kl[x%kl.size]!)) jB=some gV:=aJ
  by_cases q:n*z.length=0
  ·have n3:kl= #[]:=if_pos q
   rw[if_pos q]
   simp only[Sem.run_bind,Sem.run_pure,Result.andThen_ok]
   rw[←n3,ej]
   simp[newRow]
  ·have n3:kl=v.cells:=if_neg q
   rw[if_neg q]
   simp only[Sem.run_bind,Sem.run_pure,Result.andThen_ok,zeroValue,typeInfo,h1,h2,run_program]
   rw[←n3,ej]
   simp[newRow]
 have hlen:cells.length=n*z.length:=by
  have q:=dB.1
  have: ∀(parts:List (Nat×AV)) (c r:List AV),nN (fun i=>some (i*z.length,z.length)) c parts=some r→r.length=c.length:=by
   intro parts
   induction parts with
   | nil=>intro c r bV;cases bV;rfl
   | cons p ps bO=>
    intro c r bV
    obtain⟨a,b⟩:=p
    unfold nN at bV
    split at bV
    ·cases bV
    ·split at bV
     ·rename_i hc
      rw[bO _ _ bV];simp[eK];omega
     ·cases bV
  rw[this _ _ _ hf];simp
 exact⟨gV,dB,fe,hlen⟩
theorem GS {P:Program} {E:Env} {H:List Blk} {t:TypeId} {n:Nat} {parts:List (Nat×AV)} {jB:List (Nat×Value)} {K:AV→Prop} (aV:SimH E H) (aF:av (fun a b=>a.1=b.1∧V2 E a.2 b.2) parts jB) (h:te P t n parts K):
  ∃r u E',K r∧(Instr.buildSlice t n jB.toArray).run P E.w= .ok u E'.w∧kS E E'∧V3 E' r u:=by
 obtain⟨e,he,h⟩:=e3 h
 obtain⟨z,aQ,h⟩:=e3 h
 split at h
 case isFalse=>exact h.elim
 case isTrue hb=>
 obtain⟨mW,RU⟩:=hb
 obtain⟨cells,hf,h⟩:=e3 h
 split at h
 case isFalse=>exact h.elim
 case isTrue hby=>
 obtain⟨i,v,h1,h2,aS,bt⟩:=s0 (E:=E.b6) aQ
 have sa:v.cells.size=z.length:=by rw[aS];simp
 have tJ:i.size=z.length:=by rw[mW];simp[Program.cellsOf,h1]
 let kl:Array Value:=if n*z.length=0 then #[] else v.cells
 let base:Array Value:=(Array.range (n*z.length)).map (fun i=>kl[i%kl.size]!)
 have rT:av (cG E.b6) ((List.range (n*z.length)).map fun i=>z.getD (i%z.length) .undef) base.toList:=by
  refine⟨by simp[base],fun k a b a6 hb=> ?_⟩
  rw[List.getElem?_map] at a6
  have hk:k<n*z.length:=by
   cases aj:(List.range (n*z.length))[k]? with
   | none=>simp[aj] at a6
   | some x=>have:=(List.getElem?_eq_some_iff.1 aj).1;simpa using this
  rw[List.getElem?_range hk] at a6
  simp only[Option.map_some,Option.some.injEq] at a6
  have ky:0<z.length:=by
   rcases Nat.eq_zero_or_pos z.length with q | q
   ·rw[q,Nat.mul_zero] at hk;omega
   ·exact q
  have bg:k%z.length<z.length:=Nat.mod_lt _ ky
  have n3:kl=v.cells:=if_neg (by omega)
  have dA:base[k]?=some (v.cells[k%z.length]!):=by
   show((Array.range (n*z.length)).map (fun i=>kl[i%kl.size]!))[k]?=_
   rw[n3,sa]
   simp[hk]
  rw[Array.getElem?_toList,dA] at hb
  simp only[Option.some.injEq] at hb
  have n1:v.cells.toList[k%z.length]?=some (v.cells[k%z.length]!):=by
   rw[Array.getElem?_toList,Array.getElem?_eq_getElem (by omega)]
   congr 1
   exact(getElem!_pos v.cells (k%z.length) (by omega)).symm
  have B6:z[k%z.length]?=some a:=by
   rw[←a6,List.getD_eq_getElem?_getD,List.getElem?_eq_getElem bg];rfl
  rw[←hb]
  exact bt.2 _ _ _ B6 n1
 obtain⟨gV,aJ,dB⟩:=x4 aF rT hf
 have aj:=kS.alloc aV (.cells gV e)
 have hu:=qs he
 have fe:(Instr.buildSlice t n jB.toArray).run P E.w= .ok (.slice (some ⟨E.w.heap.size,0,none⟩) n n) (E.w.alloc (.cells gV e)):=by
  have Bw: ¬n*z.length>2 ^ 24:=by omega
  simp only[Instr.buildSlice,Sem.run_bind,run_underlying hu,Result.andThen_ok,run_sizeOf (show(P.info? e).isSome=true by rw[h1];rfl),←mW,if_neg Bw]
  have ej:Instr.fill (fun i=>some (i*z.length,z.length)) ((Array.range (n*z.length)).map (fun x=>kl[x%kl.size]!)) jB=some gV:=aJ
  by_cases q:n*z.length=0
  ·have n3:kl= #[]:=if_pos q
   rw[if_pos q]
   simp only[Sem.run_bind,Sem.run_pure,Result.andThen_ok]
   rw[←n3,ej]
   simp[newRow]
  ·have n3:kl=v.cells:=if_neg q
   rw[if_neg q]
   simp only[Sem.run_bind,Sem.run_pure,Result.andThen_ok,zeroValue,typeInfo,h1,h2,run_program]
   rw[←n3,ej]
   simp[newRow]
 have hlen:cells.length=n*z.length:=by
  have q:=dB.1
  have: ∀(parts:List (Nat×AV)) (c r:List AV),nN (fun i=>some (i*z.length,z.length)) c parts=some r→r.length=c.length:=by
   intro parts
   induction parts with
   | nil=>intro c r bV;cases bV;rfl
   | cons p ps bO=>
    intro c r bV
    obtain⟨a,b⟩:=p
    unfold nN at bV
    split at bV
    ·cases bV
    ·split at bV
     ·rename_i hc
      rw[bO _ _ bV];simp[eK];omega
     ·cases bV
  rw[this _ _ _ hf];simp
 refine⟨_,_,_,h,fe,aj,?_⟩
 have mR:(chunk z.length n (cells.map m3)).length=n:=by simp[chunk]
 show bD (E.w.alloc (.cells gV e)) (fun c=>E.PA c∨c=E.w.heap.size) (fun c=>E.PF c∨c=E.w.heap.size) _ _
 have key:=bD.be (w:=E.w.alloc (.cells gV e)) (PA:=fun c=>E.PA c∨c=E.w.heap.size) (PF:=fun c=>E.PF c∨c=E.w.heap.size)
  (PB:=if cells.all rO=true then(fun c=>E.PF c∨c=E.w.heap.size) else(fun c=>E.PA c∨c=E.w.heap.size))
  (rows:=chunk z.length n (cells.map m3)) (full:=true) (fresh:=cells.all rO) (A:=some ⟨E.w.heap.size,0,none⟩) (cap:=n) (sz:=z.length) (vs:=fun i j=>(gV[i*z.length+j]?).getD undef)
  (fun c hc=>by split at hc<;>(rename_i q;simp only[q];first | exact hc | simpa using hc)) (by omega) (fun _=>mR.symm)
  (fun i row aJ=>by
   unfold chunk at aJ
   rw[List.getElem?_map] at aJ
   cases r6:(List.range n)[i]? with
   | none=>simp[r6] at aJ
   | some k=>
    have hi:i<n:=by have:=(List.getElem?_eq_some_iff.1 r6).1;simpa using this
    rw[List.getElem?_range hi] at aJ
    simp at aJ
    subst aJ
    have:i*z.length+z.length≤n*z.length:=by
     calc i*z.length+z.length=(i+1)*z.length:=by rw[Nat.add_mul,Nat.one_mul]
      _≤n*z.length:=Nat.mul_le_mul_right _ (by omega)
    simp;omega)
  (fun _=>⟨E.w.heap.size,0,rfl,by split<;>exact .inr rfl,fun i j hi aP=>by
   rw[mR] at hi
   have:i*z.length+z.length≤n*z.length:=by
    calc i*z.length+z.length=(i+1)*z.length:=by rw[Nat.add_mul,Nat.one_mul]
     _≤n*z.length:=Nat.mul_le_mul_right _ (by omega)
   have BX:gV.size=n*z.length:=by rw[←hlen,dB.1];simp
   rw[Nat.zero_add]
   have bg:i*z.length+j<gV.size:=by omega
   rw[World.cell?_alloc_new]
   simp[Array.getElem?_eq_getElem bg]⟩)
  (fun i j row a aJ aP=>by
   obtain⟨hi,ZU,hc⟩:=G2 aJ aP
   rw[List.getElem?_map] at hc
   cases rV:cells[i*z.length+j]? with
   | none=>simp[rV] at hc
   | some b=>
    simp[rV] at hc
    subst hc
    obtain⟨u,hu,gH⟩:=dB.get rV
    have Bx:kV b=true:=List.all_eq_true.1 hby b (List.mem_of_getElem? rV)
    have mV:=Ae Bx gH.up
    have lS:(gV[i*z.length+j]?).getD undef=u:=by rw[Array.getElem?_toList] at hu;rw[hu];rfl
    rw[lS]
    by_cases dZ:cells.all rO=true
    ·have R_:rO b=true:=List.all_eq_true.1 dZ b (List.mem_of_getElem? rV)
     rw[if_pos dZ]
     exact(Zb Bx R_ mV).mono (fun c hc=>qh _ _ _ (aV.eG c (aV.ep c hc))) (fun c hc=>hc.elim) (fun c hc=> .inl hc) (fun c hc=>hc)
    ·rw[if_neg dZ]
     exact(F8 Bx mV (fun c hc=>hc) aV.ep).mono (fun c hc=>qh _ _ _ (aV.eG c hc)) (fun c hc=>hc.elim) (fun c hc=> .inl hc) (fun c hc=>hc))
 rw[mR] at key
 exact key
end Go.Proofs.Ytglpfccgmfhkdaa.Fw
/- The framework, part G: addresses of fields and elements, pieces, lengths, conversions. -/
set_option linter.unusedVariables false
namespace Go.Proofs.Ytglpfccgmfhkdaa.Fw
open Go
def x3 (P:Program) (t:TypeId) (f:Nat):Option Field:=match P.underlying t with
 | some (.struct eY)=>eY.toList[f]?
 | _=>none
theorem Qo {P:Program} {t:TypeId} {f:Nat} {fd:Field} (h:x3 P t f=some fd): ∃eY,P.underlying t=some (.struct eY)∧eY[f]?=some fd:=by
 unfold x3 at h
 split at h
 ·rename_i eY mT;exact⟨eY,mT,by simpa using h⟩
 ·cases h
def A6 (P:Program) (t:TypeId) (x:AV) (f:Nat) (K:AV→Prop):Prop:=
 cJ (x3 P t f) fun fd=>if(P.info? fd.type).isSome=true∧P.cellsOf fd.type≠0 then(match x with
  | .e6 s c=>K (.e6 s (c+fd.offset))
  | .ptr b g r c=>K (.ptr b g r (c+fd.offset))
  | .cZ cells c=>K (.cZ cells (c+fd.offset))
  | _=>False) else False
theorem WB {P:Program} {fd:Field} {w:World} {c o:Nat} (hi:(P.info? fd.type).isSome=true) (aQ:P.cellsOf fd.type≠0):
  (fieldPlace ⟨c,o,none⟩ fd).run P w= .ok ⟨c,o+fd.offset,none⟩ w:=by
 simp[fieldPlace,run_sizeOf hi,aQ,mE]
theorem Qn {P:Program} {t:TypeId} {x:AV} {f:Nat} {K:AV→Prop} {E:Env} {v:Value} (hx:V3 E x v)
  (h:A6 P t x f K):
  ∃r u,K r∧(Instr.fieldAt t v f).run P E.w= .ok u E.w∧V3 E r u:=by
 obtain⟨fd,hf,h⟩:=e3 h
 obtain⟨eY,hu,Sa⟩:=Qo hf
 split at h
 case isFalse=>exact h.elim
 case isTrue hc=>
 obtain⟨hi,aQ⟩:=hc
 have run: ∀bl o,(Instr.fieldAt t (.pointer (some ⟨bl,o,none⟩)) f).run P E.w= .ok (.pointer (some ⟨bl,o+fd.offset,none⟩)) E.w:=by
  intro bl o
  simp[Instr.fieldAt,run_underlying hu,Sa,Instr.sureAddr,WB hi aQ]
 cases x with
 | e6 s c=>
  obtain⟨bl,hm,rfl⟩:=hx.wl
  exact⟨_,_,h,run bl c,bl,hm,rfl⟩
 | ptr b g r c=>
  rcases(show fa E (.ptr b g r c) v from hx) with⟨aO,bl,o,rfl⟩ | ⟨aO,bl,hm,rfl⟩
  ·exact⟨_,_,h,run bl o,.inl ⟨aO,_,_,rfl⟩⟩
  ·exact⟨_,_,h,run bl _,.inr ⟨aO,bl,hm,by rw[Nat.add_assoc]⟩⟩
 | cZ cells c=>
  have iG:bD E.w E.PA E.PF (.cZ cells c) v:=hx
  cases iG with
  | @cZ _ _ _ _ bl o vs hc eP dB=>
   exact⟨_,_,h,run bl _,by rw[Nat.add_assoc];exact bD.cZ hc eP dB⟩
 | _=>exact h.elim
def ua (P:Program) (t:TypeId) (x i:AV) (H:List Blk) (K:AV→Prop):Prop:=
 cJ (il P t) fun e=>if(P.info? e).isSome=true then(match i with
  | .int _ n=>(match x with
   | .be rows _ _=>0≤n∧cJ rows[n.toNat]? fun row=>row.length=P.cellsOf e∧K (.cZ row 0)
   | .ref b g off m _=>cJ H[b]? fun blk=>blk.bI=g∧blk.sz=P.cellsOf e∧0≤n∧n<m∧K (.ptr b g (off+n.toNat) 0)
   | _=>False)
  | _=>False) else False
theorem S9 {P:Program} {t:TypeId} {x i:AV} {K:AV→Prop} {E:Env} {L jF:List (Nat×List AV)} {H eI:List Blk} {v wc:Value} (sub:Sub L H jF eI) (aV:SimH E eI) (hx:V3 E x v) (hi:V3 E i wc)
  (h:ua P t x i H K): ∃r u,K r∧(Instr.indexAt t v wc).run P E.w= .ok u E.w∧V3 E r u:=by
 obtain⟨e,he,h⟩:=e3 h
 have hu:=qs he
 split at h
 case isFalse=>exact h.elim
 case isTrue hinf=>
 cases i with
 | int k n=>
  obtain rfl:=hi.pS
  cases x with
  | be rows full fresh=>
   obtain⟨a0,h⟩:=(show 0≤n∧cJ rows[n.toNat]? fun row=>row.length=P.cellsOf e∧K (.cZ row 0) from h)
   obtain⟨row,aJ,aI,hK⟩:=e3 h
   have bg:n.toNat<rows.length:=(List.getElem?_eq_some_iff.1 aJ).1
   have iG:bD E.w E.PA E.PF (.be rows full fresh) v:=hx
   cases iG with
   | @be _ _ PB _ _ _ A cap sz vs fV gD gQ cH eP dB=>
    obtain⟨c,o,rfl,hc,dZ⟩:=eP (by omega)
    have v7:=cH _ _ aJ
    refine⟨_,.pointer (some ⟨c,o+n.toNat*P.cellsOf e,none⟩),hK,?_,?_⟩
    ·simp only[Instr.indexAt,Sem.run_bind,asIntOf,Sem.run_pure,Result.andThen_ok,run_underlying hu]
     rw[if_pos ⟨a0,by omega⟩]
     simp[run_sizeOf hinf,mE]
    ·show bD _ _ _ _ _
     have:=bD.cZ (w:=E.w) (PA:=E.PA) (PF:=E.PF) (cells:=row) (col:=0) (c:=c) (o:=o+n.toNat*P.cellsOf e) (vs:=vs n.toNat)
      (by have:=fV c hc;split at this;exact aV.ep c this;exact this)
      (fun j aP=>by rw[Nat.add_assoc,←aI,v7];exact dZ n.toNat j bg (by omega))
      (fun j a aP=>(dB n.toNat j row a aJ aP).mono (fun _ _=>rfl) (fun _ h=>h.elim) (fun d bp=>by
       have:=fV d bp;split at this;exact aV.ep d this;exact this) (fun _ h=>h))
     simpa using this
  | ref b g off m full=>
   obtain⟨blk,hb,aO,lO,a0,h1,hK⟩:=e3 (show cJ H[b]? fun blk=>blk.bI=g∧blk.sz=P.cellsOf e∧0≤n∧n<m∧K (.ptr b g (off+n.toNat) 0) from h)
   have hb:=sub.h b blk hb
   have jL:=aV.eZ b blk hb
   rcases(show fa E (.ref b g off m full) v from hx) with⟨bV,_⟩ | ⟨fN,bV⟩
   ·omega
   ·rcases bV with⟨_,_,tM,_⟩ | ⟨c,cap,hm,rfl,oL,oI,pF⟩
    ·omega
    ·obtain⟨blk',ba,ty,q1,dX,_⟩:=aV.heap b c hm
     obtain rfl:blk=blk':=by rw[hb] at q1;exact Option.some.inj q1
     refine⟨_,.pointer (some ⟨c,(off+n.toNat)*E.sz b+0,none⟩),hK,?_,.inr ⟨fN,c,hm,rfl⟩⟩
     simp only[Instr.indexAt,Sem.run_bind,asIntOf,Sem.run_pure,Result.andThen_ok,run_underlying hu]
     rw[if_pos ⟨a0,h1⟩]
     simp[run_sizeOf hinf,mE,dX,lO,Nat.add_mul]
  | _=>exact h.elim
 | _=>exact h.elim
def B_ (P:Program) (t:TypeId) (x i:AV) (K:AV→Prop):Prop:=match x with
 | .str s=>(match i with
  | .int _ n=>(match P.underlying t with
   | some .string=>0≤n∧n<s.size∧K (.int .u8 ((s.data.getD n.toNat 0).toNat))
   | _=>False)
  | _=>False)
 | _=>False
theorem Tg {P:Program} {t:TypeId} {x i:AV} {K:AV→Prop} {E:Env} {v wc:Value} (hx:V3 E x v) (hi:V3 E i wc) (h:B_ P t x i K):
  ∃r u,K r∧(Instr.index t v wc).run P E.w= .ok u E.w∧V3 E r u:=by
 cases x with
 | str s=>
  cases i with
  | int k n=>
   obtain rfl:=hx.u1
   obtain rfl:=hi.pS
   have h:(match P.underlying t with
    | some .string=>0≤n∧n<s.size∧K (.int .u8 ((s.data.getD n.toNat 0).toNat))
    | _=>False):=h
   split at h
   ·rename_i hu
    obtain⟨a0,h1,hK⟩:=h
    refine⟨_,.int .u8 ((s.data.getD n.toNat 0).toNat),hK,?_,bD.int _ _⟩
    have bg:n.toNat<s.size:=by omega
    have BO:n.toNat<s.data.size:=bg
    have:s[n.toNat]?=some (s.data.getD n.toNat 0):=by
     rw[getElem?_pos s n.toNat bg]
     congr 1
     show s.data[n.toNat]=_
     rw[Array.getD_eq_getD_getElem?,Array.getElem?_eq_getElem BO];rfl
    simp only[Instr.index,Sem.run_bind,asIntOf,Sem.run_pure,Result.andThen_ok,run_underlying hu]
    rw[if_pos a0,this]
    rfl
   ·exact h.elim
  | _=>exact h.elim
 | _=>exact h.elim
def pV (x:AV) (K:AV→Prop):Prop:=match x with
 | .be rows _ _=>rows.length≤4611686018427387904→K (.int .i64 rows.length)
 | .str s=>K (.int .i64 s.size)
 | .ref _ _ _ n _=>K (.int .i64 n)
 | _=>False
def iW (P:Program) (t:TypeId) (x:AV):Bool:=match P.underlying t,x with
 | some .string,.str _=>true
 | some (.slice _),.be _ _ _=>true
 | some (.slice _),.ref _ _ _ _ _=>true
 | _,_=>false
theorem U7 {P:Program} {t ty:TypeId} {x:AV} {K:AV→Prop} {E:Env} {v:Value} (hx:V3 E x v)
  (bu:iW P t x=true) (h:pV x K): ∃r u,K r∧(Builtin.len_ #[t] ty #[v]).run P E.w= .ok u E.w∧V3 E r u:=by
 unfold iW at bu
 split at bu<;>try (cases bu;done)
 ·rename_i s hu
  obtain rfl:=hx.u1
  exact⟨_,_,h,by simp[Builtin.len_,run_underlying hu,goInt],bD.int _ _⟩
 ·rename_i e rows ei fr hu
  have iG:bD E.w E.PA E.PF (.be rows ei fr) v:=hx
  cases iG with
  | @be _ _ PB _ _ _ A cap sz vs fV gD gQ cH eP dB=>
   have h:rows.length≤4611686018427387904→K (.int .i64 rows.length):=h
   exact⟨_,_,h gD.2,by simp[Builtin.len_,run_underlying hu,goInt],bD.int _ _⟩
 ·rename_i e b g off n ei hu
  have h:K (.int .i64 n):=h
  rcases(show fa E (.ref b g off n ei) v from hx) with⟨_,A,cap,rfl⟩ | ⟨fN,bV⟩
  ·exact⟨_,_,h,by simp[Builtin.len_,run_underlying hu,goInt],bD.int _ _⟩
  ·rcases bV with⟨_,_,rfl,A,rfl⟩ | ⟨c,cap,hm,rfl,oL,oI,pF⟩
   ·exact⟨_,_,h,by simp[Builtin.len_,run_underlying hu,goInt],bD.int _ _⟩
   ·exact⟨_,_,h,by simp[Builtin.len_,run_underlying hu,goInt],bD.int _ _⟩
def A2 (x:AV) (i:Nat) (K:AV→Prop):Prop:=match x with
 | .tup l=>cJ l[i]? K
 | _=>False
theorem Qi {P:Program} {x:AV} {i:Nat} {K:AV→Prop} {E:Env} {v:Value} (hx:V3 E x v) (h:A2 x i K):
  ∃r u,K r∧(Instr.extract v i).run P E.w= .ok u E.w∧V3 E r u:=by
 cases x with
 | tup l=>
  obtain⟨vs,rfl,aF⟩:=hx
  obtain⟨a,a6,hK⟩:=e3 (show cJ l[i]? K from h)
  obtain⟨u,hu,aJ⟩:=aF.get a6
  refine⟨a,u,hK,?_,oq aJ⟩
  simp[Instr.extract,hu]
 | _=>exact h.elim
def zK (op:UnOp) (x:AV) (K:AV→Prop):Prop:=match op,x with
 | .not,.bool b=>K (.bool (!b))
 | .neg,.int k n=>K (.int k (k.wrap (0 - n)))
 | _,_=>False
theorem Za {P:Program} {op:UnOp} {x:AV} {K:AV→Prop} {E:Env} {v:Value} (hx:V3 E x v) (h:zK op x K):
  ∃r u,K r∧(Op.unary op v).run P E.w= .ok u E.w∧V3 E r u:=by
 unfold zK at h
 split at h
 ·obtain rfl:=hx.pt;exact⟨_,_,h,rfl,bD.bool _⟩
 ·obtain rfl:=hx.pS;exact⟨_,_,h,rfl,bD.int _ _⟩
 ·exact h.elim
def DL (x:AV) (K:AV→Prop):Prop:=match x with
 | .ptr _ _ _ _ | .e6 _ _ | .cZ _ _=>K x
 | _=>False
def ue (P:Program) (t:TypeId):Option IntKind:=match P.underlying t with
 | some (.int k)=>some k
 | _=>none
theorem Ka {P:Program} {t:TypeId} {k:IntKind} (h:ue P t=some k):P.underlying t=some (.int k):=by
 unfold ue at h
 split at h
 ·cases h;assumption
 ·cases h
def AE (P:Program) (s d:TypeId) (x:AV) (K:AV→Prop):Prop:=match x with
 | .int _ n=>cJ (ue P s) fun _=>cJ (ue P d) fun k=>K (.int k (k.wrap n))
 | _=>False
theorem PS {P:Program} {s d:TypeId} {x:AV} {K:AV→Prop} {E:Env} {v:Value} (hx:V3 E x v) (h:AE P s d x K):
  ∃r u,K r∧(Go.convert s d v).run P E.w= .ok u E.w∧V3 E r u:=by
 cases x with
 | int bf n=>
  obtain⟨eo,h1,h⟩:=e3 (show cJ (ue P s) _ from h)
  obtain⟨hD,h2,h⟩:=e3 h
  obtain rfl:=hx.pS
  refine⟨_,_,h,?_,bD.int _ _⟩
  simp only[Go.convert,Sem.run_bind,run_underlying (Ka h1),run_underlying (Ka h2),Result.andThen_ok]
  rfl
 | _=>exact h.elim
end Go.Proofs.Ytglpfccgmfhkdaa.Fw
/- The framework, part H: a piece of a slice or text; a function's call: what it says of the abstract memory; snapshots of what is handed over. -/
set_option linter.unusedVariables false
namespace Go.Proofs.Ytglpfccgmfhkdaa.Fw
open Go
def lk (x:Option AV) (d:Nat) (K:Nat→Prop):Prop:=match x with
 | none=>K d
 | some (.int _ n)=>0≤n∧K n.toNat
 | some _=>False
def sM (P:Program) (t:TypeId) (x:AV) (lo hi:Option AV) (H:List Blk) (K:AV→Prop):Prop:=match x with
 | .str s=>(match P.underlying t with
  | some .string=>lk lo 0 fun l=>lk hi s.size fun h=>l≤h∧h≤s.size∧K (.str (s.extract l h))
  | _=>False)
 | .be rows _ fr=>cJ (il P t) fun e=>if(P.info? e).isSome=true then
   lk lo 0 fun l=>lk hi rows.length fun h=>l≤h∧h≤rows.length∧(∀(i:Nat) (row:List AV),rows[i]?=some row→row.length=P.cellsOf e)∧K (.be ((rows.drop l).take (h - l)) false fr) else False
 | .ref b g off n _=>cJ (il P t) fun e=>if(P.info? e).isSome=true then
   cJ H[b]? fun blk=>blk.bI=g∧blk.sz=P.cellsOf e∧lk lo 0 fun l=>lk hi n fun h=>l≤h∧h≤n∧(l<h→K (.ref b g (off+l) (h - l) false))∧(l=h→K (.be [] false true)) else False
 | _=>False
def xh (E:Env) (x:Option AV) (v:Option Value):Prop:=match x,v with
  | none,none=>True
  | some a,some u=>V3 E a u
  | _,_=>False
theorem tc {x:Option AV} {d:Nat} {K:Nat→Prop} {E:Env} {v:Option Value} (hx:xh E x v) (h:lk x d K): ∃n,K n∧((v=none∧n=d)∨ ∃k,v=some (.int k n)):=by
 cases x with
 | none=>
  cases v with
  | none=>exact⟨d,h,.inl ⟨rfl,rfl⟩⟩
  | some u=>exact hx.elim
 | some a=>
  cases v with
  | none=>exact hx.elim
  | some u=>
   cases a with
   | int k n=>
    obtain⟨a0,h⟩:=(show 0≤n∧K n.toNat from h)
    obtain rfl:=V3.pS hx
    exact⟨n.toNat,h,.inr ⟨k,by rw[Int.toNat_of_nonneg a0]⟩⟩
   | _=>exact h.elim
theorem Ek {P:Program} {w:World} {isS:Bool} {len cap l h:Nat} {lo hi:Option Value} (aI:(lo=none∧l=0)∨ ∃k,lo=some (.int k l)) (bV:(hi=none∧h=len)∨ ∃k,hi=some (.int k h))
  (h1:l≤h) (h2:h≤cap):(Instr.sliceBounds isS len cap lo hi none).run P w= .ok (l,h,cap) w:=by
 rcases aI with⟨rfl,rfl⟩ | ⟨uh,rfl⟩<;>rcases bV with⟨rfl,rfl⟩ | ⟨Kd,rfl⟩
 ·simp[Instr.sliceBounds]
 ·simp[Instr.sliceBounds,run_sliceBound (P:=P) w Kd (h:Int) cap _ (by omega) (by omega)]
 ·simp[Instr.sliceBounds,run_sliceBound (P:=P) w uh (l:Int) _ _ (by omega) (show(l:Int)≤((_:Nat):Int) by exact Int.ofNat_le.2 h1)]
 ·simp[Instr.sliceBounds,run_sliceBound (P:=P) w Kd (h:Int) cap _ (by omega) (by omega),run_sliceBound (P:=P) w uh (l:Int) h _ (by omega) (by omega)]
theorem WX {P:Program} {t:TypeId} {x:AV} {lo hi:Option AV} {K:AV→Prop} {E:Env} {L jF:List (Nat×List AV)} {H eI:List Blk} {v:Value} {Gb Ga:Option Value} (sub:Sub L H jF eI) (aV:SimH E eI) (hx:V3 E x v)
  (BN:xh E lo Gb) (BG:xh E hi Ga)
  (h:sM P t x lo hi H K): ∃r u,K r∧(Instr.sliceAt t v Gb Ga none).run P E.w= .ok u E.w∧V3 E r u:=by
 cases x with
 | str s=>
  obtain rfl:=hx.u1
  have h:(match P.underlying t with
   | some .string=>lk lo 0 fun l=>lk hi s.size fun h=>l≤h∧h≤s.size∧K (.str (s.extract l h))
   | _=>False):=h
  split at h
  ·rename_i hu
   obtain⟨l,h,aI⟩:=tc BN h
   obtain⟨q,⟨h1,h2,hK⟩,aj⟩:=tc BG h
   refine⟨_,.string (s.extract l q),hK,?_,bD.str _⟩
   rw[run_sliceAt_string E.w t _ _ _ _ hu]
   simp only[Instr.slice,Sem.run_bind,run_underlying hu,Result.andThen_ok]
   simp only[Option.isSome_none,Bool.false_eq_true,if_false]
   simp only[Sem.run_bind,Ek (P:=P) (w:=E.w) (isS:=false) aI aj h1 h2,Result.andThen_ok]
   rfl
  ·exact h.elim
 | be rows full fr=>
  obtain⟨e,he,h⟩:=e3 (show cJ (il P t) fun e=>if(P.info? e).isSome=true then
   lk lo 0 fun l=>lk hi rows.length fun h=>l≤h∧h≤rows.length∧(∀(i:Nat) (row:List AV),rows[i]?=some row→row.length=P.cellsOf e)∧K (.be ((rows.drop l).take (h - l)) false fr) else False from h)
  have hu:=qs he
  split at h
  case isFalse=>exact h.elim
  case isTrue hinf=>
  obtain⟨l,h,aI⟩:=tc BN h
  obtain⟨q,⟨h1,h2,jo,hK⟩,aj⟩:=tc BG h
  have iG:bD E.w E.PA E.PF (.be rows full fr) v:=hx
  cases iG with
  | @be _ _ PB _ _ _ A cap sz vs fV gD gQ cH eP dB=>
   have rY:P.elem t=e:=by simp[Program.elem,hu]
   have lS:P.underlying t=some (.slice (P.elem t)):=by rw[rY];exact hu
   have hlen:((rows.drop l).take (q - l)).length=q - l:=by simp;omega
   refine⟨_,sliced A l q cap (P.cellsOf e),hK,?_,?_⟩
   ·rw[run_sliceAt_slice E.w t _ _ _ _ lS,run_slice_any E.w t A rows.length cap lS,Ek (P:=P) (w:=E.w) aI aj h1 (by omega)]
    simp only[Result.andThen_ok,rY,run_sizeOf hinf]
   ·show bD E.w E.PA E.PF _ (.slice _ (q - l) (cap - l))
    have key:=bD.be (w:=E.w) (PA:=E.PA) (PF:=E.PF) (PB:=PB) (rows:=(rows.drop l).take (q - l)) (full:=false) (fresh:=fr) (A:=if cap=l then A else A.map (·.add (l*P.cellsOf e))) (cap:=cap - l) (sz:=sz) (vs:=fun i j=>vs (l+i) j)
     fV (by rw[hlen];omega) (fun h=>by cases h)
     (fun i row aJ=>by
      rw[List.getElem?_take] at aJ
      split at aJ
      ·rw[List.getElem?_drop] at aJ;exact cH _ _ aJ
      ·cases aJ)
     (fun aC=>by
      rw[hlen] at aC
      obtain⟨c,o,rfl,hc,dZ⟩:=eP (by omega)
      have SU:sz=P.cellsOf e:=by
       have bg:l<rows.length:=by omega
       rw[←cH l _ (List.getElem?_eq_getElem bg)];exact jo l _ (List.getElem?_eq_getElem bg)
      refine⟨c,o+l*P.cellsOf e,by rw[if_neg (by omega)];simp[mE],hc,fun i j hi aP=> ?_⟩
      rw[hlen] at hi
      have:=dZ (l+i) j (by omega) aP
      rw[←this,SU]
      congr 2
      rw[Nat.add_mul];omega)
     (fun i j row a aJ aP=>by
      rw[List.getElem?_take] at aJ
      split at aJ
      ·rw[List.getElem?_drop] at aJ;exact dB _ _ _ _ aJ aP
      ·cases aJ)
    rw[hlen] at key
    exact key
 | ref b g off n full=>
  obtain⟨e,he,h⟩:=e3 (show cJ (il P t) fun e=>if(P.info? e).isSome=true then
   cJ H[b]? fun blk=>blk.bI=g∧blk.sz=P.cellsOf e∧lk lo 0 fun l=>lk hi n fun h=>l≤h∧h≤n∧(l<h→K (.ref b g (off+l) (h - l) false))∧(l=h→K (.be [] false true)) else False from h)
  have hu:=qs he
  split at h
  case isFalse=>exact h.elim
  case isTrue hinf=>
  obtain⟨blk,hb,aO,lO,h⟩:=e3 h
  obtain⟨l,h,aI⟩:=tc BN h
  obtain⟨q,⟨h1,h2,RI,Ie⟩,aj⟩:=tc BG h
  have hb:=sub.h b blk hb
  have jL:=aV.eZ b blk hb
  have rY:P.elem t=e:=by simp[Program.elem,hu]
  have lS:P.underlying t=some (.slice (P.elem t)):=by rw[rY];exact hu
  have run: ∀A cap,n≤cap→(Instr.sliceAt t (.slice A n cap) Gb Ga none).run P E.w= .ok (sliced A l q cap (P.cellsOf e)) E.w:=by
   intro A cap hc
   rw[run_sliceAt_slice E.w t _ _ _ _ lS,run_slice_any E.w t A n cap lS,Ek (P:=P) (w:=E.w) aI aj h1 (by omega)]
   simp only[Result.andThen_ok,rY,run_sizeOf hinf]
  have empty: ∀A cap,l=q→V3 E (.be [] false true) (sliced A l q cap (P.cellsOf e)):=by
   intro A cap r1
   subst r1
   show bD E.w E.PA E.PF _ (.slice _ (l - l) (cap - l))
   rw[Nat.sub_self]
   exact bD.be (PB:=fun _=>False) (sz:=0) (vs:=fun _ _=>undef) (fun _ h=>h.elim) ⟨Nat.zero_le _,Nat.zero_le _⟩ (fun h=>by cases h) (fun i row h=>by simp at h) (fun h=>by simp at h) (fun i j row a h=>by simp at h)
  rcases(show fa E (.ref b g off n full) v from hx) with⟨bV,_⟩ | ⟨fN,bV⟩
  ·omega
  ·rcases bV with⟨_,_,rfl,A,rfl⟩ | ⟨c,cap,hm,rfl,oL,oI,pF⟩
   ·have r1:l=q:=by omega
    exact⟨_,_,Ie r1,run A 0 (Nat.le_refl _),empty _ _ r1⟩
   ·rcases Nat.lt_or_ge l q with bg | yi
    ·refine⟨_,_,RI bg,run _ cap oL,.inr ⟨fN,.inr ⟨c,cap - l,hm,?_,by omega,(fun h=>by cases h),by omega⟩⟩⟩
     obtain⟨blk',ba,ty,q1,dX,_⟩:=aV.heap b c hm
     obtain rfl:blk=blk':=by rw[hb] at q1;exact Option.some.inj q1
     simp only[sliced,if_neg (show ¬cap=l by omega),Option.map_some,mE,dX,lO,Nat.add_mul]
    ·have r1:l=q:=by omega
     exact⟨_,_,Ie r1,run _ cap oL,empty _ _ r1⟩
 | _=>exact h.elim
end Go.Proofs.Ytglpfccgmfhkdaa.Fw
/- The framework, part I: what a call of a function does, told of abstract values; the function's own begin and end; a snapshot of what is handed over and of what comes back. -/
set_option linter.unusedVariables false
namespace Go.Proofs.Ytglpfccgmfhkdaa.Fw
open Go
def sp (P:Program) (f:FuncId):Bool:=match P.funcs[f]? with
 | some fn=> !(fn.name== "runtime.NumGoroutine")&&fn.body.isSome
 | none=>false
def dj (P:Program) (f:FuncId) (args:List AV) (H:List Blk) (Q:AV→List Blk→Prop):Prop:=
 sp P f=true∧ ∀(E:Env) (vs:List Value),(∀t,E.mL t=none)→SimH E H→av (V2 E) args vs→
  Calls P f vs.toArray E.w fun e w'=> ∃r v H' E',e= .returned v∧Q r H'∧E'.w=w'∧(∀t,E'.mL t=none)∧SimH E' H'∧V3 E' r v∧Step E E'
theorem dj.mono {P:Program} {f:FuncId} {args:List AV} {H:List Blk} {Q vh:AV→List Blk→Prop} (h:dj P f args H Q) (aj: ∀r H',Q r H'→vh r H'):dj P f args H vh:=
 ⟨h.1,fun E vs a b c=>(h.2 E vs a b c).mono fun e w' ⟨r,v,H',E',h1,h2,aS⟩=>⟨r,v,H',E',h1,aj _ _ h2,aS⟩⟩
def wu:AV→Bool
 | .e6 _ _ | .agg _ | .tup _=>false
 | _=>true
def ur:AV→Bool
 | .fn _ caps=>caps.all wu
 | a=>wu a
def jq:AV→Bool
 | .agg cells=>cells.all ur
 | a=>ur a
def us:AV→Bool
 | .tup l=>l.all jq
 | a=>jq a
theorem fa.b6 {E:Env} {a:AV} {v:Value} (h:wu a=true) (hv:fa E a v):fa E.b6 a v:=by
 cases a<;>first | exact hv | cases h
theorem cG.b6 {E:Env} {a:AV} {v:Value} (h:ur a=true) (hv:cG E a v):cG E.b6 a v:=by
 by_cases hf: ∃f caps,a= .fn f caps
 ·obtain⟨f,caps,rfl⟩:=hf
  obtain⟨vs,e,aF⟩:=hv
  exact⟨vs,e,aF.1,fun i x y hx bA=>(aF.2 i x y hx bA).b6 (List.all_eq_true.1 (show caps.all wu=true from h) x (List.mem_of_getElem? hx))⟩
 ·have a0:ur a=wu a:=by cases a<;>first | rfl | exact absurd ⟨_,_,rfl⟩ hf
  rw[qg fun f c e=>hf ⟨f,c,e⟩] at hv ⊢
  exact hv.b6 (a0▸h)
theorem V2.b6 {E:Env} {a:AV} {v:Value} (h:jq a=true) (hv:V2 E a v):V2 E.b6 a v:=by
 by_cases hf: ∃l,a= .agg l
 ·obtain⟨l,rfl⟩:=hf
  obtain⟨vs,e,aF⟩:=hv
  exact⟨vs,e,aF.1,fun i x y hx bA=>(aF.2 i x y hx bA).b6 (List.all_eq_true.1 (show l.all ur=true from h) x (List.mem_of_getElem? hx))⟩
 ·have a0:jq a=ur a:=by cases a<;>first | rfl | exact absurd ⟨_,rfl⟩ hf
  rw[om fun l e=>hf ⟨l,e⟩] at hv ⊢
  exact hv.b6 (a0▸h)
theorem V3.b6 {E:Env} {a:AV} {v:Value} (h:us a=true) (hv:V3 E a v):V3 E.b6 a v:=by
 by_cases hf: ∃l,a= .tup l
 ·obtain⟨l,rfl⟩:=hf
  obtain⟨vs,e,aF⟩:=hv
  exact⟨vs,e,aF.1,fun i x y hx bA=>(aF.2 i x y hx bA).b6 (List.all_eq_true.1 (show l.all jq=true from h) x (List.mem_of_getElem? hx))⟩
 ·have a0:us a=jq a:=by cases a<;>first | rfl | exact absurd ⟨_,rfl⟩ hf
  rw[nF fun l e=>hf ⟨l,e⟩] at hv ⊢
  exact hv.b6 (a0▸h)
theorem SimH.b6 {E:Env} {H:List Blk} (h:SimH E H):SimH E.b6 H:=
 {h with
  iH:=fun t iO c hm=>by cases hm
  g2:=fun b t c _ hm=>by cases hm
  h8:=fun c _ ⟨t,hm⟩=>by cases hm
  gu:=fun c ⟨t,hm⟩=>by cases hm}
theorem Good.toStep {cM E:Env} (h:Good cM E):Step cM E.b6:=
 ⟨⟨h.le.fE,h.le.fF,h.le.sY,h.le.wf,h.le.bI,h.le.m,fun t c hm=>by rw[h.b6 t] at hm;cases hm⟩,h.os,h.tape,h.output,h.size,fun c hc h1 _=>h.ey c hc h1,h.hO,(fun c ⟨t,hm⟩=>by cases hm),h.fE,h.fF⟩
def q9 (P:Program) (aD:St):List ResultVar→(List AV→Prop)→Prop
 | [],K=>K []
 | .tmp t::rs,K=>q9 P aD rs fun l=>K (aD.T.getD t .undef::l)
 | .cell a t::rs,K=>nm P t (aD.T.getD a .undef) aD.L aD.H fun x=>q9 P aD rs fun l=>K (x::l)
def rm:List AV→AV
 | [x]=>x
 | l=> .tup l
def uP (P:Program) (fn:Func) (aD:St) (Q:AV→List Blk→Prop):Prop:=q9 P aD fn.results.toList fun l=>l.all jq=true∧Q (rm l) aD.H
theorem OM {E:Env} {P:Program} {t:TypeId} {x:AV} {L:List (Nat×List AV)} {H:List Blk} {K:AV→Prop} {v:Value} (aV:SimH E H) (bT:SimL E L) (hx:V3 E x v) (h:nm P t x L H K):
  ∃a eg,K a∧(do loadVar t (←asAddr v):Sem Value).run P E.w= .ok eg E.w∧V2 E a eg:=by
 obtain⟨a,eg,hK,aJ,hv⟩:=Kx (Sub.refl L H) aV bT hx h
 refine⟨a,eg,hK,?_,hv⟩
 have: ∃kT,v= .pointer (some kT):=by
  cases x with
  | e6 s c=>obtain⟨bl,_,rfl⟩:=hx.wl;exact⟨_,rfl⟩
  | ptr b g r c=>
   rcases(show fa E (.ptr b g r c) v from hx) with⟨_,bl,o,rfl⟩ | ⟨_,bl,_,rfl⟩<;>exact⟨_,rfl⟩
  | cZ cells c=>
   have iG:bD E.w E.PA E.PF (.cZ cells c) v:=hx
   cases iG;exact⟨_,rfl⟩
  | _=>exact h.elim
 obtain⟨kT,rfl⟩:=this
 simpa[Instr.loadAt,Instr.sureAddr,asAddr] using aJ
theorem Ec {P:Program} {aD:St} {E:Env} {tmps:Array Value} (hs:ry E aD tmps) {f:ResultVar→Sem Value} (f1: ∀t,f (.tmp t)=pure (tmps.getD t undef))
  (f2: ∀a t,f (.cell a t)=do loadVar t (←asAddr (tmps.getD a undef))): ∀(rs:List ResultVar) (K:List AV→Prop),q9 P aD rs K→
  ∃l vs,K l∧(rs.mapM f).run P E.w= .ok vs E.w∧av (V3 E) l vs
 | [],K,h=>⟨[],[],h,rfl,av.nil⟩
 | .tmp t::rs,K,h=>by
  obtain⟨l,vs,hK,aJ,aF⟩:=Ec hs f1 f2 rs _ h
  exact⟨_,_,hK,by simp only[List.mapM_cons,f1,Sem.run_bind,Sem.run_pure,Result.andThen_ok,aJ],av.cons (hs.iM t) aF⟩
 | .cell a t::rs,K,h=>by
  obtain⟨x,eg,h2,tS,hv⟩:=OM hs.h hs.l (hs.iM a) h
  obtain⟨l,vs,hK,aJ,aF⟩:=Ec hs f1 f2 rs _ h2
  refine⟨_,_,hK,?_,av.cons (oq hv) aF⟩
  simp only[List.mapM_cons,f2]
  rw[Sem.run_bind,tS]
  simp only[Result.andThen_ok,Sem.run_bind,aJ,Sem.run_pure]
theorem Wt (fn:Func) (tmps:Array Value): ∃f:ResultVar→Sem Value,results fn tmps=(fn.results.mapM f>>=fun vs=>pure (if h:vs.size=1 then vs[0] else .tuple vs))∧(∀t,f (.tmp t)=pure (tmps.getD t undef))∧
  ∀b t,f (.cell b t)=(asAddr (tmps.getD b undef)>>=fun a=>loadVar t a):=⟨_,rfl,fun _=>rfl,fun _ _=>rfl⟩
def rv (P:Program) (fn:Func) (Q:AV→List Blk→Prop) (ex:Exit) (aD:St):Prop:=match ex with
 | .normal | .ret=>uP P fn aD Q
 | _=>False
def yM (fn:Func) (args:List AV) (H:List Blk):St:=⟨args++List.replicate (fn.ntmps - args.length) .undef,[],H⟩
theorem OB {E:Env} {a:AV} {v:Value} (h:jq a=true) (hv:V3 E a v) (bu: ∀l,a≠ .tup l):V2 E.b6 a v:=by
 rw[nF bu] at hv;exact hv.b6 h
theorem dj.K2 {P:Program} {f:FuncId} {fn:Func} {c:Code} {args:List AV} {H:List Blk} {Q:AV→List Blk→Prop} (hf:P.funcs[f]?=some fn) (hb:fn.body=some c) (aC:(fn.name== "runtime.NumGoroutine")=false)
  (h:WpS P c (rv P fn Q) (yM fn args H)):dj P f args H Q:=by
 refine⟨by simp[sp,hf,hb,aC],?_⟩
 intro E vs aC aV aF
 refine calls_of_wp hf hb (wp_mono (h E E {tmps:=vs.toArray++Array.replicate (fn.ntmps - vs.toArray.size) undef,defers:=[]} (Good.refl aC) ⟨aV,(fun t c hm=>by rw[aC t] at hm;cases hm),fun t=> ?_,?_⟩ rfl) ?_)
 ·show V3 E ((args++List.replicate (fn.ntmps - args.length) AV.undef).getD t AV.undef) _
  rcases Nat.lt_or_ge t args.length with bg | fN
  ·have h1:args[t]?=some args[t]:=List.getElem?_eq_getElem bg
   obtain⟨v,hv,aJ⟩:=aF.get h1
   have BO:t<vs.length:=aF.1▸bg
   have bF:(args++List.replicate (fn.ntmps - args.length) AV.undef).getD t .undef=args[t]:=by
    rw[List.getD_eq_getElem?_getD,List.getElem?_append_left bg,h1];rfl
   have e2:(vs.toArray++Array.replicate (fn.ntmps - vs.toArray.size) undef).getD t undef=v:=by
    rw[Array.getD_eq_getD_getElem?,Array.getElem?_append_left (by simpa using BO)]
    simp[hv]
   rw[bF,e2];exact oq aJ
  ·have bF:(args++List.replicate (fn.ntmps - args.length) AV.undef).getD t .undef= .undef:=by
    rw[List.getD_eq_getElem?_getD,List.getElem?_append_right fN,List.getElem?_replicate];split<;>rfl
   rw[bF];exact V3.undef _ _
 ·simp[yM,aF.1]
 ·rintro e a w ⟨hex,aD,E',aj,hw,aO,hs,bp⟩
  have fin:uP P fn aD Q→a.defers=[]∧ ∃v,(results fn a.tmps).run P w= .ok v w∧ ∃r N4 H' E',(Ending.returned v)= .returned N4∧Q r H'∧E'.w=w∧(∀t,E'.mL t=none)∧SimH E' H'∧V3 E' r N4∧Step E E':=by
   intro BV
   refine⟨bp,?_⟩
   subst hw
   have hm: ∀f:ResultVar→Sem Value,(∀t,f (.tmp t)=pure (a.tmps.getD t undef))→(∀b t,f (.cell b t)=do loadVar t (←asAddr (a.tmps.getD b undef)))→ ∃l jz,(l.all jq=true∧Q (rm l) aD.H)∧(fn.results.mapM f).run P E'.w= .ok (List.toArray jz) E'.w∧av (V3 E') l jz:=by
    intro f f1 f2
    obtain⟨l,jz,h1,aJ,h2⟩:=Ec hs f1 f2 _ _ BV
    exact⟨l,jz,h1,by rw[Array.mapM_eq_mapM_toList,Sem.run_map,aJ];rfl,h2⟩
   obtain⟨f,R8,R9,hf2⟩:=Wt fn a.tmps
   obtain⟨l,jz,⟨II,RK⟩,aJ,tR⟩:=hm f R9 hf2
   refine⟨if h:jz.toArray.size=1 then jz.toArray[0] else .tuple jz.toArray,?_,rm l,_,aD.H,E'.b6,rfl,RK,rfl,fun _=>rfl,hs.h.b6,?_,aO.toStep⟩
   ·rw[R8,Sem.run_bind,aJ];rfl
   ·cases l with
    | nil=>
     obtain rfl:=tR.uq
     exact⟨[],rfl,av.nil⟩
    | cons x l=>
     obtain⟨u,Z6,rfl,hx,IS⟩:=tR.cons_inv
     cases l with
     | nil=>
      obtain rfl:=IS.uq
      show V3 E'.b6 x u
      have kx:jq x=true:=by simpa using II
      exact hx.b6 (by cases x<;>first | exact kx | (cases kx))
     | cons y l=>
      obtain⟨z,Zc,rfl,bA,ZV⟩:=IS.cons_inv
      have cH: ¬(List.toArray (u::z::Zc)).size=1:=by simp
      rw[dif_neg cH]
      refine⟨_,rfl,?_⟩
      refine⟨tR.1,fun i p q IR SM=> ?_⟩
      have hv:=tR.2 i p q IR SM
      have kx:jq p=true:=List.all_eq_true.1 II p (List.mem_of_getElem? IR)
      have bu: ∀l,p≠ .tup l:=by
       intro l e;subst e;cases kx
      exact OB kx hv bu
  cases e with
  | normal=>exact fin aj
  | ret=>exact fin aj
  | exit id=>exact aj.elim
  | _=>cases hex
end Go.Proofs.Ytglpfccgmfhkdaa.Fw
/- The framework, part J: what is handed over is only read (a snapshot); what comes back is only read. -/
set_option linter.unusedVariables false
namespace Go.Proofs.Ytglpfccgmfhkdaa.Fw
open Go
inductive fo (L:List (Nat×List AV)) (H:List Blk):AV→AV→Prop where
 | undef (a:AV):fo L H a .undef
 | int (k:IntKind) (n:Int):fo L H (.int k n) (.int k n)
 | bool (b:Bool):fo L H (.bool b) (.bool b)
 | str (s:ByteArray):fo L H (.str s) (.str s)
 | fu:fo L H .fu .fu
 | fP:fo L H .fP .fP
 | be (rows:List (List AV)) (full fr ei:Bool) (hw:ei=true→full=true):fo L H (.be rows full fr) (.be rows ei false)
 | cZ (cells:List AV) (c:Nat):fo L H (.cZ cells c) (.cZ cells c)
 | e6 {t c:Nat} {cells gP:List AV} (h:ew L t=some cells) (aI:cells.length=gP.length)
   (aJ: ∀(j:Nat) (a b:AV),cells[j]?=some a→gP[j]?=some b→fo L H a b):fo L H (.e6 t c) (.cZ gP c)
 | ptr {b g r c:Nat} {blk:Blk} {row row':List AV} (hb:H[b]?=some blk) (aO:blk.bI=g) (ek:blk.rows[r]?=some row) (aI:row.length=row'.length)
   (aJ: ∀(j:Nat) (a b:AV),row[j]?=some a→row'[j]?=some b→fo L H a b):fo L H (.ptr b g r c) (.cZ row' c)
 | ref {b g off n:Nat} {full ei:Bool} {blk:Blk} {hS:List (List AV)} (hw:ei=true→full=true) (hb:H[b]?=some blk) (aO:blk.bI=g) (aC:hS.length=n) (hA:n≤4611686018427387904) (ax:off+n≤blk.rows.length)
   (aI: ∀(i:Nat) (row row':List AV),blk.rows[off+i]?=some row→hS[i]?=some row'→row.length=row'.length)
   (aJ: ∀(i j:Nat) (row row':List AV) (a c:AV),blk.rows[off+i]?=some row→hS[i]?=some row'→row[j]?=some a→row'[j]?=some c→fo L H a c):
   fo L H (.ref b g off n full) (.be hS ei false)
 | fn {f:FuncId} {caps vu:List AV} (aI:caps.length=vu.length) (aJ: ∀(j:Nat) (a b:AV),caps[j]?=some a→vu[j]?=some b→fo L H a b):fo L H (.fn f caps) (.fn f vu)
def ck (L:List (Nat×List AV)) (H:List Blk) (a b:AV):Prop:=
 (∃l eR,a= .agg l∧b= .agg eR∧av (fo L H) l eR)∨fo L H a b
def Env.frozen (E:Env):Env:={w:=E.w,PA:=fun c=>E.PA c∨E.gg c∨E.jN c,PF:=fun _=>False,m:=fun _=>none,bI:=fun _=>0,sz:=fun _=>0,cp:=fun _=>0,mL:=fun _=>none}
theorem HV {E:Env} {H:List Blk} (h:SimH E H):SimH E.frozen [] where
 heap:=fun b c hb=>by cases hb
 eZ:=fun b blk hb=>by simp at hb
 hE:=fun b hb=>by cases hb
 fresh:=fun b _=>⟨rfl,rfl⟩
 iq:=fun b ca c hb=>by cases hb
 iH:=fun t iO c hb=>by cases hb
 g2:=fun b t c hb=>by cases hb
 h7:=fun c _ ⟨b,hb⟩=>by cases hb
 h8:=fun c _ ⟨b,hb⟩=>by cases hb
 ep:=fun c hc=>hc.elim
 eG:=fun c hc=>hc.elim (h.eG c) fun hc=>hc.elim (h.gF c) (h.gu c)
 gF:=fun c ⟨b,hb⟩=>by cases hb
 gu:=fun c ⟨b,hb⟩=>by cases hb
theorem z1 {E:Env} {a:AV} {v:Value} (h:fa E a v):cG E a v:=by
 by_cases hf: ∃f caps,a= .fn f caps
 ·obtain⟨f,caps,rfl⟩:=hf
  exact bD.v1 h
 ·rw[qg fun f c e=>hf ⟨f,c,e⟩];exact h
theorem Mq {L jF:List (Nat×List AV)} {H eI:List Blk} {E:Env} (sub:Sub L H jF eI) (aV:SimH E eI) (bT:SimL E jF) {a b:AV} (h:fo L H a b):
  ∀{v:Value},cG E a v→bD E.w (fun c=>E.PA c∨E.gg c∨E.jN c) (fun _=>False) b v:=by
 induction h with
 | undef a=>intro v _;exact .undef v
 | int k n=>intro v hv;have hv:bD E.w E.PA E.PF (.int k n) v:=hv;cases hv;exact .int _ _
 | bool k=>intro v hv;have hv:bD E.w E.PA E.PF (.bool k) v:=hv;cases hv;exact .bool _
 | str k=>intro v hv;have hv:bD E.w E.PA E.PF (.str k) v:=hv;cases hv;exact .str _
 | fu=>intro v hv;have hv:bD E.w E.PA E.PF .fu v:=hv;cases hv;exact .fu
 | fP=>intro v hv;have hv:bD E.w E.PA E.PF .fP v:=hv;cases hv;exact .fP
 | be rows full fr ei hw=>
  intro v hv
  have hv:bD E.w E.PA E.PF (.be rows full fr) v:=hv
  cases hv with
  | be fV gD gQ cH eP dB=>
   exact .be (fun c hc=>by
    have:=fV c hc
    simp only[Bool.false_eq_true,if_false]
    split at this
    ·exact .inl (aV.ep c this)
    ·exact .inl this) gD (fun h=>gQ (hw h)) cH eP dB
 | cZ cells c=>
  intro v hv
  have hv:bD E.w E.PA E.PF (.cZ cells c) v:=hv
  cases hv with
  | cZ hc eP dB=>exact .cZ (.inl hc) eP fun j a aP=>(dB j a aP).mono (fun _ _=>rfl) (fun _ h=>h.elim) (fun c hc=> .inl hc) (fun _ h=>h)
 | @e6 t c cells gP aO aI aJ bO=>
  intro v hv
  obtain⟨bl,hm,rfl⟩:=(show ∃bl,E.mL t=some bl∧v= .pointer (some ⟨bl,c,none⟩) from hv)
  obtain⟨xD,ba,ty,vP,hw,aF⟩:=bT t bl hm
  obtain rfl:cells=xD:=by have:=sub.l _ _ aO;rw[vP] at this;exact(Option.some.inj this).symm
  have key:=bD.cZ (w:=E.w) (PA:=fun c=>E.PA c∨E.gg c∨E.jN c) (PF:=fun _=>False) (cells:=gP) (col:=c) (c:=bl) (o:=0) (vs:=fun j=>(ba[j]?).getD undef)
   (.inr (.inr ⟨t,hm⟩))
   (fun j aP=>by
    have bg:j<ba.size:=by have:=aF.1;simp at this;omega
    rw[Nat.zero_add]
    rw[cell_of hw (Array.getElem?_eq_getElem bg)]
    simp[Array.getElem?_eq_getElem bg])
   (fun j b aP=>by
    have bg:j<cells.length:=by have:=(List.getElem?_eq_some_iff.1 aP).1;omega
    obtain⟨u,hu,gH⟩:=aF.get (List.getElem?_eq_getElem bg)
    have:(ba[j]?).getD undef=u:=by rw[Array.getElem?_toList] at hu;rw[hu];rfl
    rw[this]
    exact bO j _ b (List.getElem?_eq_getElem bg) aP gH.up)
  rw[Nat.zero_add] at key
  exact key
 | @ptr b g r c blk row row' hb aO ek aI aJ bO=>
  intro v hv
  have hb:=sub.h b blk hb
  have jL:=aV.eZ b blk hb
  obtain⟨bl,hm,rfl⟩:=V3.ze (E:=E) (v:=v) (show V3 E (.ptr b g r c) v from hv) (jL.trans aO)
  obtain⟨blk',ba,ty,q1,dX,hw,lq,hlen,gq⟩:=aV.heap b bl hm
  obtain rfl:blk=blk':=by rw[hb] at q1;exact Option.some.inj q1
  exact bD.cZ (vs:=fun j=>(ba[r*E.sz b+j]?).getD undef) (.inr (.inl ⟨b,hm⟩))
   (fun j aP=>by
    have bg:j<row.length:=by omega
    obtain⟨u,hu,_⟩:=gq.2 r j row _ ek (List.getElem?_eq_getElem bg)
    rw[cell_of hw hu,hu];rfl)
   (fun j c8 aP=>by
    have bg:j<row.length:=by have:=(List.getElem?_eq_some_iff.1 aP).1;omega
    obtain⟨u,hu,gH⟩:=gq.2 r j row _ ek (List.getElem?_eq_getElem bg)
    rw[hu]
    exact bO j _ c8 (List.getElem?_eq_getElem bg) aP gH.up)
 | @ref b g off n full ei blk hS B1 hb aO aC hA ax aI aJ bO=>
  intro v hv
  have hb:=sub.h b blk hb
  have jL:=aV.eZ b blk hb
  rcases(show fa E (.ref b g off n full) v from hv) with⟨bV,_⟩ | ⟨fN,bV⟩
  ·omega
  ·rcases bV with⟨_,_,mg,A,rfl⟩ | ⟨c,cap,hm,rfl,oL,oI,pF⟩
   ·subst mg
    obtain rfl:hS=[]:=List.eq_nil_of_length_eq_zero aC
    exact bD.be (rows:=[]) (PB:=fun _=>False) (sz:=0) (vs:=fun _ _=>undef) (fun _ h=>h.elim) ⟨Nat.le_refl _,Nat.zero_le _⟩ (fun _=>rfl) (fun i row h=>by simp at h) (fun h=>by simp at h) (fun i j row a h=>by simp at h)
   ·obtain⟨blk',ba,ty,q1,dX,hw,lq,hlen,gq⟩:=aV.heap b c hm
    obtain rfl:blk=blk':=by rw[hb] at q1;exact Option.some.inj q1
    subst aC
    have ek: ∀i,i<hS.length→ ∃row,blk.rows[off+i]?=some row:=fun i hi=>⟨_,List.getElem?_eq_getElem (by omega)⟩
    refine bD.be (PB:=fun c=>E.PA c∨E.gg c∨E.jN c) (sz:=E.sz b) (vs:=fun i j=>(ba[(off+i)*E.sz b+j]?).getD undef) (fun c hc=>by simpa using hc) ⟨oL,hA⟩ (fun h=>oI (B1 h))
     (fun i row' ej=> ?_) (fun ky=>⟨c,off*E.sz b,rfl,.inr (.inl ⟨b,hm⟩),fun i j hi aP=> ?_⟩) (fun i j row' a ej aP=> ?_)
    ·obtain⟨row,hh⟩:=ek i (List.getElem?_eq_some_iff.1 ej).1
     rw[←aI i row row' hh ej];exact gq.1 _ row hh
    ·obtain⟨row,hh⟩:=ek i hi
     have bg:j<row.length:=by rw[gq.1 _ row hh];exact aP
     obtain⟨u,hu,_⟩:=gq.2 (off+i) j row _ hh (List.getElem?_eq_getElem bg)
     rw[show off*E.sz b+(i*E.sz b+j)=(off+i)*E.sz b+j by rw[Nat.add_mul];omega,cell_of hw hu,hu];rfl
    ·obtain⟨row,hh⟩:=ek i (List.getElem?_eq_some_iff.1 ej).1
     have bg:j<row.length:=by rw[aI i row row' hh ej];exact(List.getElem?_eq_some_iff.1 aP).1
     obtain⟨u,hu,gH⟩:=gq.2 (off+i) j row _ hh (List.getElem?_eq_getElem bg)
     rw[hu]
     exact bO i j row row' _ a hh ej (List.getElem?_eq_getElem bg) aP gH.up
 | @fn f caps vu aI aJ bO=>
  intro v hv
  obtain⟨vs,rfl,aF⟩:=(show ∃vs:List Value,v= .func (.func f) #[] vs.toArray∧av (fa E) caps vs from hv)
  exact .fn (aI▸aF.1) fun i b u hb hu=>by
   have bg:i<caps.length:=by have:=(List.getElem?_eq_some_iff.1 hb).1;omega
   exact bO i _ b (List.getElem?_eq_getElem bg) hb (z1 (aF.2 i _ u (List.getElem?_eq_getElem bg) hu))
theorem Mr {L jF:List (Nat×List AV)} {H eI:List Blk} {E:Env} (sub:Sub L H jF eI) (aV:SimH E eI) (bT:SimL E jF) {a b:AV} (h:ck L H a b) {v:Value} (hv:V2 E a v):V2 E.frozen b v:=by
 rcases h with⟨l,eR,rfl,rfl,aF⟩ | h
 ·obtain⟨vs,rfl,aj⟩:=hv
  refine⟨vs,rfl,aF.1▸aj.1,fun i x u hx hu=> ?_⟩
  have bg:i<l.length:=by have:=(List.getElem?_eq_some_iff.1 hx).1;have:=aF.1;omega
  have aI:=List.getElem?_eq_getElem bg
  exact bD.v1 (E:=E.frozen) (Mq sub aV bT (aF.2 i _ x aI hx) (aj.2 i _ u aI hu))
 ·by_cases hf: ∃l,a= .agg l
  ·obtain⟨l,rfl⟩:=hf
   cases h with
   | undef=>exact bD.undef v
  ·rw[om fun l e=>hf ⟨l,e⟩] at hv
   exact oo (bD.v1 (E:=E.frozen) (Mq sub aV bT h hv))
inductive fp (H:List Blk):AV→AV→Prop where
 | int (k:IntKind) (n:Int):fp H (.int k n) (.int k n)
 | bool (b:Bool):fp H (.bool b) (.bool b)
 | str (s:ByteArray):fp H (.str s) (.str s)
 | fu:fp H .fu .fu
 | fP:fp H .fP .fP
 | be (rows:List (List AV)) (full ei:Bool) (hw:ei=true→full=true):fp H (.be rows full true) (.be rows ei true)
 | KG (full fr ei:Bool) (hw:ei=true→full=true):fp H (.be [] full fr) (.be [] ei true)
 | ref {b g off n:Nat} {full ei:Bool} {blk:Blk} {hS:List (List AV)} (hw:ei=true→full=true) (ba:Nat→Nat→AV) (hb:H[b]?=some blk) (aO:blk.bI=g) (aC:hS.length=n) (hA:n≤4611686018427387904) (ax:off+n≤blk.rows.length)
   (aI: ∀(i:Nat) (row row':List AV),blk.rows[off+i]?=some row→hS[i]?=some row'→row.length=row'.length)
   (aJ: ∀(i j:Nat) (row:List AV) (a:AV),i<n→blk.rows[off+i]?=some row→row[j]?=some a→fp H a (ba i j))
   (hc: ∀(i j:Nat) (row':List AV) (c:AV),hS[i]?=some row'→row'[j]?=some c→c=m3 (ba i j)):
   fp H (.ref b g off n full) (.be hS ei true)
def rz (H:List Blk) (a b:AV):Prop:=(∃l eR,a= .agg l∧b= .agg eR∧av (fp H) l eR)∨fp H a b
def gd (H:List Blk) (a b:AV):Prop:=(∃l eR,a= .tup l∧b= .tup eR∧av (rz H) l eR)∨rz H a b
theorem Xk {H:List Blk} {a b:AV} (h:fp H a b):kV b=true:=by cases h<;>rfl
theorem Mt {H:List Blk} {E:Env} (aV:SimH E H) {a b:AV} (h:fp H a b):
  ∀{v:Value},cG E a v→bD E.w (fun c=>E.PF c∨E.gg c) (fun c=>E.PF c∨E.gg c) b v:=by
 induction h with
 | int k n=>intro v hv;have hv:bD E.w E.PA E.PF (.int k n) v:=hv;cases hv;exact .int _ _
 | bool k=>intro v hv;have hv:bD E.w E.PA E.PF (.bool k) v:=hv;cases hv;exact .bool _
 | str k=>intro v hv;have hv:bD E.w E.PA E.PF (.str k) v:=hv;cases hv;exact .str _
 | fu=>intro v hv;have hv:bD E.w E.PA E.PF .fu v:=hv;cases hv;exact .fu
 | fP=>intro v hv;have hv:bD E.w E.PA E.PF .fP v:=hv;cases hv;exact .fP
 | be rows full ei hw=>
  intro v hv
  have hv:bD E.w E.PA E.PF (.be rows full true) v:=hv
  cases hv with
  | be fV gD gQ cH eP dB=>exact .be (fun c hc=>by have:=fV c hc;simp at this ⊢;exact .inl this) gD (fun h=>gQ (hw h)) cH eP dB
 | KG full fr ei hw=>
  intro v hv
  have hv:bD E.w E.PA E.PF (.be [] full fr) v:=hv
  cases hv with
  | be fV gD gQ cH eP dB=>exact bD.be (rows:=[]) (PB:=fun _=>False) (sz:=0) (vs:=fun _ _=>undef) (fun _ h=>h.elim) gD (fun h=>gQ (hw h)) (fun i row h=>by simp at h) (fun h=>by simp at h) (fun i j row a h=>by simp at h)
 | @ref b g off n full ei blk hS B1 ba hb aO aC hA ax aI aJ hc bO=>
  intro v hv
  have jL:=aV.eZ b blk hb
  rcases(show fa E (.ref b g off n full) v from hv) with⟨bV,_⟩ | ⟨fN,bV⟩
  ·omega
  ·rcases bV with⟨_,_,mg,A,rfl⟩ | ⟨c,cap,hm,rfl,oL,oI,pF⟩
   ·subst mg
    obtain rfl:hS=[]:=List.eq_nil_of_length_eq_zero aC
    exact bD.be (rows:=[]) (PB:=fun _=>False) (sz:=0) (vs:=fun _ _=>undef) (fun _ h=>h.elim) ⟨Nat.le_refl _,Nat.zero_le _⟩ (fun _=>rfl) (fun i row h=>by simp at h) (fun h=>by simp at h) (fun i j row a h=>by simp at h)
   ·obtain⟨blk',tg,ty,q1,dX,hw,lq,hlen,gq⟩:=aV.heap b c hm
    obtain rfl:blk=blk':=by rw[hb] at q1;exact Option.some.inj q1
    subst aC
    have ek: ∀i,i<hS.length→ ∃row,blk.rows[off+i]?=some row:=fun i hi=>⟨_,List.getElem?_eq_getElem (by omega)⟩
    refine bD.be (PB:=fun c=>E.PF c∨E.gg c) (sz:=E.sz b) (vs:=fun i j=>(tg[(off+i)*E.sz b+j]?).getD undef) (fun c hc=>by simpa using hc) ⟨oL,hA⟩ (fun h=>oI (B1 h))
     (fun i row' ej=> ?_) (fun ky=>⟨c,off*E.sz b,rfl,.inr ⟨b,hm⟩,fun i j hi aP=> ?_⟩) (fun i j row' a ej aP=> ?_)
    ·obtain⟨row,hh⟩:=ek i (List.getElem?_eq_some_iff.1 ej).1
     rw[←aI i row row' hh ej];exact gq.1 _ row hh
    ·obtain⟨row,hh⟩:=ek i hi
     have bg:j<row.length:=by rw[gq.1 _ row hh];exact aP
     obtain⟨u,hu,_⟩:=gq.2 (off+i) j row _ hh (List.getElem?_eq_getElem bg)
     rw[show off*E.sz b+(i*E.sz b+j)=(off+i)*E.sz b+j by rw[Nat.add_mul];omega,cell_of hw hu,hu];rfl
    ·have hi:=(List.getElem?_eq_some_iff.1 ej).1
     obtain⟨row,hh⟩:=ek i hi
     have bg:j<row.length:=by rw[aI i row row' hh ej];exact(List.getElem?_eq_some_iff.1 aP).1
     obtain⟨u,hu,gH⟩:=gq.2 (off+i) j row _ hh (List.getElem?_eq_getElem bg)
     have h1:=bO i j row _ hi hh (List.getElem?_eq_getElem bg) gH.up
     have h2:=Xk (aJ i j row _ hi hh (List.getElem?_eq_getElem bg))
     rw[hu,hc i j row' a ej aP]
     exact F8 h2 h1 (fun c hc=>hc) (fun c hc=>hc)
def b3 (P:Program) (f:FuncId) (args:List AV) (t:AV):Prop:=dj P f args [] fun r eI=>gd eI r t
theorem GY {P:Program} {f:FuncId} {args dK:List AV} {t:AV} {L jF:List (Nat×List AV)} {H eI:List Blk} {E:Env} {vs:List Value} (sub:Sub L H jF eI) (aV:SimH E eI) (bT:SimL E jF)
  (a6:av (V2 E) args vs) (hs:av (ck L H) args dK) (h:b3 P f dK t):
  Calls P f vs.toArray E.w fun e w'=> ∃v E',e= .returned v∧E'.w=w'∧kS E E'∧V3 E' t v:=by
 have rQ:av (V2 E.frozen) dK vs:=⟨hs.1▸a6.1,fun i x u hx hu=>by
  have bg:i<args.length:=by have:=(List.getElem?_eq_some_iff.1 hx).1;have:=hs.1;omega
  have aI:=List.getElem?_eq_getElem bg
  exact Mr sub aV bT (hs.2 i _ x aI hx) (a6.2 i _ u aI hu)⟩
 refine(h.2 E.frozen vs (fun _=>rfl) (HV aV) rQ).mono ?_
 rintro e w' ⟨r,v,H',E1,rfl,aJ,rfl,aC,e9,hv,bd⟩
 let N:Nat→Prop:=fun c=>E1.PF c∨E1.gg c
 have gY: ∀c,N c→E.w.heap.size≤c∧c<E1.w.heap.size:=by
  rintro c (hc | hc)
  ·exact⟨(bd.fF c hc).elim (fun h=>h.elim) id,e9.eG c (e9.ep c hc)⟩
  ·exact⟨(bd.hO c hc).elim (fun⟨b,hb⟩=>by cases hb) id,e9.gF c hc⟩
 have nj: ∀c,c<E.w.heap.size→E1.w.heap[c]?=E.w.heap[c]?:=fun c hc=>bd.ey c hc (fun⟨b,hb⟩=>by cases hb) (fun⟨b,hb⟩=>by cases hb)
 let E':Env:={E with w:=E1.w,PA:=fun c=>E.PA c∨N c,PF:=fun c=>E.PF c∨N c}
 have aj:kS E E':=
  {step:=⟨⟨fun c hc=> .inl hc,fun c hc=> .inl hc,fun c hc=>nj c (aV.eG c hc),fun c hc=>nj c (aV.eG c (aV.ep c hc)),fun _=>Nat.le_refl _,fun _ _ h _=>⟨h,rfl,rfl⟩,fun _ _ h=>h⟩,
    bd.os,bd.tape,bd.output,bd.size,fun c hc _ _=>nj c hc,fun _ h=> .inl h,fun _ h=> .inl h,fun c hc=>hc.elim .inl (fun h=> .inr (gY c h).1),fun c hc=>hc.elim .inl (fun h=> .inr (gY c h).1)⟩
   m:=rfl,mL:=rfl,bI:=rfl,sz:=rfl,cp:=rfl
   ey:=nj
   fE:=fun c hc=>hc.elim .inl (fun h=> .inr (gY c h))
   ep:=fun c hc=>hc.elim (fun h=> .inl (aV.ep c h)) .inr}
 have up: ∀{b:AV} {u:Value},bD E1.w N N b u→cG E' b u:=fun h=>bD.v1 (E:=E') (h.mono (fun _ _=>rfl) (fun _ _=>rfl) (fun c hc=> .inr hc) (fun c hc=> .inr hc))
 have eS: ∀{a b:AV} {u:Value},fp H' a b→cG E1 a u→cG E' b u:=fun a6 hu=>up (Mt e9 a6 hu)
 have fY: ∀{a b:AV} {u:Value},rz H' a b→V2 E1 a u→V2 E' b u:=by
  rintro a b u (⟨l,eR,rfl,rfl,aF⟩ | h) hu
  ·obtain⟨jz,rfl,aj⟩:=hu
   refine⟨jz,rfl,aF.1▸aj.1,fun i x y hx bA=> ?_⟩
   have bg:i<l.length:=by have:=(List.getElem?_eq_some_iff.1 hx).1;have:=aF.1;omega
   have aI:=List.getElem?_eq_getElem bg
   exact eS (aF.2 i _ x aI hx) (aj.2 i _ y aI bA)
  ·have:cG E1 a u:=by cases h<;>exact hu
   exact oo (eS h this)
 have fg: ∀{a b:AV} {u:Value},gd H' a b→V3 E1 a u→V3 E' b u:=by
  rintro a b u (⟨l,eR,rfl,rfl,aF⟩ | h) hu
  ·obtain⟨jz,rfl,aj⟩:=hu
   refine⟨jz,rfl,aF.1▸aj.1,fun i x y hx bA=> ?_⟩
   have bg:i<l.length:=by have:=(List.getElem?_eq_some_iff.1 hx).1;have:=aF.1;omega
   have aI:=List.getElem?_eq_getElem bg
   exact fY (aF.2 i _ x aI hx) (aj.2 i _ y aI bA)
  ·have:V2 E1 a u:=by
    rcases h with⟨l,eR,rfl,rfl,aF⟩ | h
    ·exact hu
    ·cases h<;>exact hu
   exact oq (fY h this)
 exact⟨v,E',rfl,rfl,aj,fg aJ hv⟩
end Go.Proofs.Ytglpfccgmfhkdaa.Fw
/- The framework, part K: the operations that leave the abstract memory alone, as one. -/
set_option linter.unusedVariables false
namespace Go.Proofs.Ytglpfccgmfhkdaa.Fw
open Go
def Ak:AV→Bool
 | .agg _ | .tup _ | .fn _ _=>false
 | _=>true
def wo (fn:Fn) (first:Array Operand) (caps:List AV) (K:AV→Prop):Prop:=match fn with
 | .func f=>if first.isEmpty=true∧caps.all Ak=true then K (.fn f caps) else False
 | _=>False
def ed:AV→Bool
 | .tup _=>false
 | _=>true
def kW (x:AV) (K:FuncId→List AV→Prop):Prop:=match x with
 | .fn f caps=>K f caps
 | _=>False
def na (P:Program) (f:FuncId) (args:List AV) (L:List (Nat×List AV)) (H:List Blk) (K:AV→Prop):Prop:=
 args.all ed=true∧ ∃dK t,av (ck L H) args dK∧b3 P f dK t∧K t
def AZ (P:Program) (c:Call) (bJ:Operand→AV) (L:List (Nat×List AV)) (H:List Blk) (K:AV→Prop):Prop:=match c.callee with
 | .builtin .len=>(match c.args.toList,c.argTypes.toList with
  | [x],[t]=>ef (iW P t (bJ x)) (pV (bJ x) K)
  | _,_=>False)
 | .value f=>kW (bJ f) fun g caps=>na P g (c.args.toList.map bJ++caps) L H K
 | _=>False
def qw (P:Program) (o:Oper) (bJ:Operand→AV) (L:List (Nat×List AV)) (H:List Blk) (K:AV→Prop):Prop:=match o.op with
 | .move x=>K (bJ x)
 | .assign x=>K (bJ x)
 | .pick c a b=>m9 (bJ c) fun z=>vn z (K (bJ a)) (K (bJ b))
 | .build t ps=>ef (ps.toList.all fun p=>ed (bJ p.2)) (Ad P t (ps.toList.map fun p=>(p.1,bJ p.2)) K)
 | .buildSlice t n ps=>ef (ps.toList.all fun p=>ed (bJ p.2)) (te P t n (ps.toList.map fun p=>(p.1,bJ p.2)) K)
 | .load t a=>nm P t (bJ a) L H K
 | .nilCheck x=>DL (bJ x) K
 | .binOp op t x y _=>qm P op t (bJ x) (bJ y) (oU y) K
 | .unOp op _ x=>zK op (bJ x) K
 | .convert s d x=>AE P s d (bJ x) K
 | .makeFunc fn first caps=>wo fn first (caps.toList.map bJ) K
 | .fieldAddr t x f=>A6 P t (bJ x) f K
 | .indexAddr t x i=>ua P t (bJ x) (bJ i) H K
 | .index t x i=>B_ P t (bJ x) (bJ i) K
 | .slice t x lo hi mx=>(match mx with
  | none=>sM P t (bJ x) (lo.map bJ) (hi.map bJ) H K
  | some _=>False)
 | .extract x i=>A2 (bJ x) i K
 | .call c=>AZ P c bJ L H K
 | _=>False
theorem F_ {P:Program} {o:Oper} {a:Act} {next:Act→World→Prop} {Q:Exit→Act→World→Prop} {s:Sem Value} {w w':World} {u:Value} (h:s.run P w= .ok u w') (k:next (a.put o.dst u) w'):
  o.upon P a next Q ((do pure (Next.value (←s)):Sem Next).run P w):=by
 rw[Sem.run_bind,h];exact k
theorem parts_eq (ps:Array (Nat×Operand)) (a:Act):(ps.toList.map fun p=>(p.1,a.eval p.2)).toArray=ps.map fun(i,x)=>(i,a.eval x):=by
 apply Array.ext'
 rw[Array.toList_map]
theorem DU {E:Env} {a:Act} {T:List AV} (cs: ∀t,V3 E (T.getD t .undef) (a.tmps.getD t undef)) (ps:List (Nat×Operand)) (aC: ∀p∈ps,∀l,cc T p.2≠ .tup l):
  av (fun(x:Nat×AV) (y:Nat×Value)=>x.1=y.1∧V2 E x.2 y.2) (ps.map fun p=>(p.1,cc T p.2)) (ps.map fun p=>(p.1,a.eval p.2)):=by
 refine⟨by simp,fun i x y hx bA=> ?_⟩
 rw[List.getElem?_map] at hx bA
 cases aF:ps[i]? with
 | none=>simp[aF] at hx
 | some p=>
  simp[aF] at hx bA
  subst hx;subst bA
  refine⟨rfl,?_⟩
  have:=opv_rel cs p.2
  rwa [nF (aC p (List.mem_of_getElem? aF))] at this
theorem GG {E:Env} {a:Act} {T:List AV} (cs: ∀t,V3 E (T.getD t .undef) (a.tmps.getD t undef)) (xs:List Operand) (aC: ∀x∈xs,∀l,cc T x≠ .tup l):
  av (V2 E) (xs.map (cc T)) (xs.map a.eval):=by
 refine⟨by simp,fun i x y hx bA=> ?_⟩
 rw[List.getElem?_map] at hx bA
 cases aF:xs[i]? with
 | none=>simp[aF] at hx
 | some p=>
  simp[aF] at hx bA
  subst hx;subst bA
  have:=opv_rel cs p
  rwa [nF (aC p (List.mem_of_getElem? aF))] at this
theorem uu {a:AV} (h:ed a=true): ∀l,a≠ .tup l:=by
 intro l e;subst e;cases h
theorem K7 {E:Env} {a:Act} {T:List AV} (cs: ∀t,V3 E (T.getD t .undef) (a.tmps.getD t undef)) (x:Option Operand):
  xh E (x.map (cc T)) (x.map a.eval):=by
 cases x with
 | none=>trivial
 | some x=>exact opv_rel cs x
theorem GZ {E:Env} {a:Act} {T:List AV} (cs: ∀t,V3 E (T.getD t .undef) (a.tmps.getD t undef)) {f:Operand} {g:FuncId} {caps:List AV} (h:cc T f= .fn g caps):
  ∃vs:List Value,a.eval f= .func (.func g) #[] vs.toArray∧av (V2 E) caps vs:=by
 have:=opv_rel cs f
 rw[h] at this
 obtain⟨vs,e,aF⟩:=(show ∃vs:List Value,a.eval f= .func (.func g) #[] vs.toArray∧av (fa E) caps vs from this)
 exact⟨vs,e,aF.mono fun _ _ k=>oo (z1 k)⟩
theorem WA {P:Program} {f:FuncId} {w:World} {args:Array Value} (h:sp P f=true):(callFunc f args).run P w= .ok (.enter f args) w:=by
 unfold sp at h
 cases hf:P.funcs[f]? with
 | none=>simp[hf] at h
 | some fn=>
  simp[hf] at h
  obtain⟨h1,h2⟩:=h
  simp[callFunc,hf,h1]
  cases hb:fn.body with
  | none=>simp[hb] at h2
  | some c=>intro bV;cases bV
theorem LY {P:Program} {c:Call} {a:Act} {ty:TypeId} {f:Operand} {g:FuncId} {vs:List Value} {w:World} (hc:c.callee= .value f) (hf:a.eval f= .func (.func g) #[] vs.toArray) (h:sp P g=true):
  (do let d ←resolve a.eval c ty;invoke d.target d.args:Sem Next).run P w= .ok (.enter g ((c.args.toList.map a.eval++vs).toArray)) w:=by
 unfold resolve
 rw[hc]
 simp only[hf,Deferred.ofValue,Sem.run_bind,Sem.run_pure,Result.andThen_ok,invoke]
 rw[WA h]
 simp
def vj (E:Env) (o:Oper) (a:Act) (K:AV→Prop):Act→World→Prop:=fun hp w'=> ∃v eg E',K v∧E'.w=w'∧kS E E'∧V3 E' v eg∧hp=a.put o.dst eg
set_option maxHeartbeats 4000000 in
theorem Hz {P:Program} {o:Oper} {a:Act} {T:List AV} {E:Env} {L jF:List (Nat×List AV)} {H eI:List Blk} {K:AV→Prop} {Q:Exit→Act→World→Prop}
  (cs: ∀t,V3 E (T.getD t .undef) (a.tmps.getD t undef)) (sub:Sub L H jF eI) (aV:SimH E eI) (bT:SimL E jF) (h:qw P o (cc T) L H K):o.wp P a E.w (vj E o a K) Q:=by
 have fin: ∀{s:Sem Value},(execOp a.eval o=(do pure (Next.value (←s))))→(∃r u E',K r∧s.run P E.w= .ok u E'.w∧kS E E'∧V3 E' r u)→o.wp P a E.w (vj E o a K) Q:=by
  rintro s hs ⟨r,u,E',hK,aJ,aj,hv⟩
  unfold Oper.wp
  rw[hs]
  exact F_ aJ ⟨r,u,E',hK,rfl,aj,hv,rfl⟩
 have nO: ∀{s:Sem Value},(execOp a.eval o=(do pure (Next.value (←s))))→(∃r u,K r∧s.run P E.w= .ok u E.w∧V3 E r u)→o.wp P a E.w (vj E o a K) Q:=by
  rintro s hs ⟨r,u,hK,aJ,hv⟩
  exact fin hs ⟨r,u,E,hK,aJ,kS.refl aV,hv⟩
 have wq: ∀x,execOp a.eval o=pure (.value (a.eval x))→K (cc T x)→o.wp P a E.w (vj E o a K) Q:=by
  intro x hs hK
  unfold Oper.wp
  rw[hs]
  exact⟨_,_,E,hK,rfl,kS.refl aV,opv_rel cs x,rfl⟩
 obtain⟨dst,op,ty,pos,after,guard⟩:=o
 cases op with
 | move x=>exact wq x rfl h
 | assign x=>exact wq x rfl h
 | pick c x y=>
  obtain⟨b,hb,h1,h2⟩:=xr (show m9 (cc T c) fun z=>vn z (K (cc T x)) (K (cc T y)) from h)
  have hv:=opv_rel cs c
  rw[hb] at hv
  have he:a.eval c= .bool b:=V3.pt hv
  cases b with
  | true=>exact wq x (by simp[execOp,he,asBool]) (h1 rfl)
  | false=>exact wq y (by simp[execOp,he,asBool]) (h2 rfl)
 | build t ps=>
  obtain⟨aC,h⟩:=ob h
  have:=O6 (P:=P) (DU cs ps.toList fun p aF=>uu (List.all_eq_true.1 aC p aF)) h
  exact nO (s:=Instr.build t (ps.toList.map fun p=>(p.1,a.eval p.2)).toArray) (by rw[parts_eq];rfl) this
 | buildSlice t n ps=>
  obtain⟨aC,h⟩:=ob h
  have:=GS (P:=P) aV (DU cs ps.toList fun p aF=>uu (List.all_eq_true.1 aC p aF)) h
  exact fin (s:=Instr.buildSlice t n (ps.toList.map fun p=>(p.1,a.eval p.2)).toArray) (by rw[parts_eq];rfl) this
 | load t x=>
  obtain⟨r,u,hK,aJ,hv⟩:=Kx sub aV bT (opv_rel cs x) h
  exact nO (s:=Instr.loadAt t (a.eval x)) rfl ⟨r,u,hK,aJ,oq hv⟩
 | nilCheck x=>
  have hx:=opv_rel cs x
  have h:DL (cc T x) K:=h
  have key: ∀kT,a.eval x= .pointer (some kT)→K (cc T x)→Oper.wp P ⟨dst,.nilCheck x,ty,pos,after,guard⟩ a E.w (vj E ⟨dst,.nilCheck x,ty,pos,after,guard⟩ a K) Q:=by
   intro kT he hK
   exact wq x (by simp[execOp,he]) hK
  cases g0:cc T x with
  | e6 s c=>
   rw[g0] at hx h
   obtain⟨bl,_,e⟩:=hx.wl
   exact key _ e (by rw[g0];exact h)
  | ptr b g r c=>
   rw[g0] at hx h
   rcases(show fa E (.ptr b g r c) _ from hx) with⟨_,bl,o,e⟩ | ⟨_,bl,_,e⟩<;>exact key _ e (by rw[g0];exact h)
  | cZ cells c=>
   rw[g0] at hx h
   have iG:bD E.w E.PA E.PF (.cZ cells c) (a.eval x):=hx
   generalize hv:a.eval x=v at iG
   cases iG;exact key _ hv (by rw[g0];exact h)
  | _=>rw[g0] at h;exact h.elim
 | binOp op t x y ty2=>
  have B5:oU y=true→a.eval y= .slice none 0 0:=by
   intro bV
   unfold oU at bV
   split at bV
   ·rfl
   ·cases bV
  exact nO (s:=do eqGuard op t x y (a.eval x) (a.eval y);binOp op t (a.eval x) (a.eval y)) rfl (OW (opv_rel cs x) (opv_rel cs y) B5 h)
 | unOp op t x=>exact nO (s:=Op.unary op (a.eval x)) rfl (Za (opv_rel cs x) h)
 | convert s d x=>exact nO (s:=Go.convert s d (a.eval x)) rfl (PS (opv_rel cs x) h)
 | makeFunc fn first caps=>
  replace h:wo fn first (caps.toList.map (cc T)) K:=h
  cases fn with
  | func f=>
   replace h:if first.isEmpty=true∧(caps.toList.map (cc T)).all Ak=true then K (.fn f (caps.toList.map (cc T))) else False:=h
   split at h
   ·rename_i hc
    obtain⟨h1,h2⟩:=hc
    have hf:first= #[]:=by simpa using h1
    subst hf
    refine nO (s:=Instr.makeFunc (.func f) (Array.map a.eval #[]) (caps.map a.eval)) rfl ⟨_,.func (.func f) #[] (caps.map a.eval),h,by simp[Instr.makeFunc],(caps.toList.map a.eval),by rw[←Array.toList_map,Array.toArray_toList],by simp,fun i x y hx bA=> ?_⟩
    rw[List.getElem?_map] at hx bA
    cases aF:caps.toList[i]? with
    | none=>simp[aF] at hx
    | some p=>
     simp[aF] at hx bA
     subst hx;subst bA
     have hv:=opv_rel cs p
     have fq:Ak (cc T p)=true:=List.all_eq_true.1 h2 _ (List.mem_map.2 ⟨p,List.mem_of_getElem? aF,rfl⟩)
     cases aj:cc T p<;>rw[aj] at hv fq<;>first | exact hv | cases fq
   ·exact h.elim
  | _=>exact h.elim
 | fieldAddr t x f=>exact nO (s:=Instr.fieldAt t (a.eval x) f) rfl (Qn (opv_rel cs x) h)
 | indexAddr t x i=>exact nO (s:=Instr.indexAt t (a.eval x) (a.eval i)) rfl (S9 sub aV (opv_rel cs x) (opv_rel cs i) h)
 | index t x i=>exact nO (s:=Instr.index t (a.eval x) (a.eval i)) rfl (Tg (opv_rel cs x) (opv_rel cs i) h)
 | slice t x lo hi mx=>
  cases mx with
  | none=>exact nO (s:=Instr.sliceAt t (a.eval x) (lo.map a.eval) (hi.map a.eval) none) rfl (WX sub aV (opv_rel cs x) (K7 cs lo) (K7 cs hi) h)
  | some m=>exact h.elim
 | extract x i=>exact nO (s:=Instr.extract (a.eval x) i) rfl (Qi (opv_rel cs x) h)
 | call c=>
  have h:AZ P c (cc T) L H K:=h
  obtain⟨callee,args,argTypes⟩:=c
  cases callee with
  | builtin b=>
   cases b with
   | len=>
    have h:(match args.toList,argTypes.toList with
     | [x],[t]=>ef (iW P t (cc T x)) (pV (cc T x) K)
     | _,_=>False):=h
    split at h
    ·rename_i x t h1 h2
     obtain⟨Sx,Sy⟩:=ob h
     obtain rfl:args= #[x]:=by rw[←Array.toArray_toList (xs:=args),h1]
     obtain rfl:argTypes= #[t]:=by rw[←Array.toArray_toList (xs:=argTypes),h2]
     obtain⟨r,u,hK,aJ,hv⟩:=U7 (P:=P) (ty:=ty) (opv_rel cs x) Sx Sy
     unfold Oper.wp
     have:(execOp a.eval ⟨dst,.call ⟨.builtin .len,#[x],#[t]⟩,ty,pos,after,guard⟩).run P E.w= .ok (.value u) E.w:=by
      simp only[execOp,resolve,Sem.run_bind,Sem.run_pure,Result.andThen_ok,invoke,builtin]
      have e:Array.map a.eval #[x]= #[a.eval x]:=by simp
      rw[e,aJ];rfl
     rw[this]
     exact⟨r,u,E,hK,rfl,kS.refl aV,hv,rfl⟩
    ·exact h.elim
   | _=>exact h.elim
  | value f=>
   have h:kW (cc T f) fun g caps=>na P g (args.toList.map (cc T)++caps) L H K:=h
   cases hf:cc T f with
   | fn g caps=>
    rw[hf] at h
    obtain⟨aC,dK,t,hs,nX,hK⟩:=(show na P g (args.toList.map (cc T)++caps) L H K from h)
    obtain⟨vs,he,rW⟩:=GZ cs hf
    unfold Oper.wp
    rw[show execOp a.eval ⟨dst,.call ⟨.value f,args,argTypes⟩,ty,pos,after,guard⟩=(do let d ←resolve a.eval ⟨.value f,args,argTypes⟩ ty;invoke d.target d.args) from rfl]
    rw[LY (P:=P) (ty:=ty) (w:=E.w) (c:=⟨.value f,args,argTypes⟩) rfl he nX.1]
    have Bt:av (V2 E) (args.toList.map (cc T)++caps) (args.toList.map a.eval++vs):=
     av.append (GG cs args.toList fun x hx=>uu (List.all_eq_true.1 aC _ (by simp;exact .inl ⟨x,by simpa using hx,rfl⟩))) rW
    refine(GY sub aV bT Bt hs nX).mono ?_
    rintro e w' ⟨v,E',rfl,rfl,aj,hv⟩
    exact⟨t,v,E',hK,rfl,aj,hv,rfl⟩
   | _=>rw[hf] at h;exact h.elim
  | _=>exact h.elim
 | _=>exact h.elim
end Go.Proofs.Ytglpfccgmfhkdaa.Fw
/- The framework, part L: new blocks; append. -/
set_option linter.unusedVariables false
namespace Go.Proofs.Ytglpfccgmfhkdaa.Fw
open Go
theorem PY (w:World) (o:Obj) (c:Nat) (h:c<w.heap.size):(w.drew.alloc o).heap[c]?=w.heap[c]?:=qh w.drew o c h
structure l4 (w w':World) (o:Obj):Prop where
 os:w'.os=w.os
 tape:w'.tape=w.tape
 output:w'.output=w.output
 size:w'.heap.size=w.heap.size+1
 oY: ∀c,c<w.heap.size→w'.heap[c]?=w.heap[c]?
 new:w'.heap[w.heap.size]?=some o
theorem l4.alloc (w:World) (o:Obj):l4 w (w.alloc o) o:=⟨rfl,rfl,rfl,by simp,fun c hc=>qh w o c hc,Gz w o⟩
theorem l4.PX (w:World) (o:Obj):l4 w (w.drew.alloc o) o:=⟨rfl,rfl,rfl,by simp,fun c hc=>PY w o c hc,Gz w.drew o⟩
theorem SimH.ext {E:Env} {H H':List Blk} (h:SimH E H) (hs: ∀(b:Nat) (blk:Blk),H[b]?=some blk→H'[b]?=some blk) (aI:H.length≤H'.length) (aO: ∀(b:Nat) (blk:Blk),H.length≤b→H'[b]?=some blk→blk.bI=0):SimH E H':=
 {h with
  heap:=fun b c hb=>by
   obtain⟨blk,ba,ty,q1,q⟩:=h.heap b c hb
   exact⟨blk,ba,ty,hs b blk q1,q⟩
  eZ:=fun b blk hb=>by
   rcases Nat.lt_or_ge b H.length with bg | fN
   ·have h1:=List.getElem?_eq_getElem bg
    have h2:=hs b _ h1
    rw[hb] at h2
    cases h2
    exact h.eZ b _ h1
   ·rw[(h.fresh b fN).2,aO b blk fN hb]
  hE:=fun b hb=>by
   obtain⟨blk,q1,q⟩:=h.hE b hb
   exact⟨blk,hs b blk q1,q⟩
  fresh:=fun b hb=>h.fresh b (Nat.le_trans aI hb)}
theorem SimH.snoc {E:Env} {H:List Blk} (h:SimH E H) {blk:Blk} (aO:blk.bI=0):SimH E (H++[blk]):=
 h.ext (fun b x hb=>by rw[List.getElem?_append_left (List.getElem?_eq_some_iff.1 hb).1];exact hb) (by simp) (fun b x hb hx=>by
  rw[List.getElem?_append_right hb] at hx
  have:b - H.length=0:=by
   rcases Nat.eq_zero_or_pos (b - H.length) with q | q
   ·exact q
   ·rw[List.getElem?_eq_none (by simp;omega)] at hx;cases hx
  rw[this] at hx;cases hx;exact aO)
theorem SimL.cons {E:Env} {L:List (Nat×List AV)} (h:SimL E L) {t:Nat} {cells:List AV} (aC:E.mL t=none):SimL E ((t,cells)::L):=fun s c hm=>by
 have:s≠t:=fun e=>by subst e;rw[aC] at hm;cases hm
 simp only[ew,if_neg this]
 exact h s c hm
theorem KU {E:Env} {H:List Blk} {L:List (Nat×List AV)} {w':World} {ba:Array Value} {ty:TypeId} {t:Nat} {cells:List AV} (aV:SimH E H) (bT:SimL E L) (hw:l4 E.w w' (.cells ba ty (0,0)))
  (bu:ew L t=some cells) (hm:E.mL t=none) (hc:av (cG E.b6) cells ba.toList):
  ∃E',E'.w=w'∧Step E E'∧SimH E' H∧SimL E' L∧V3 E' (.e6 t 0) (.pointer (some ⟨E.w.heap.size,0,none⟩))∧E'.m=E.m∧(∀s,s≠t→E'.mL s=E.mL s):=by
 let E':Env:={E with w:=w',mL:=fun s=>if s=t then some E.w.heap.size else E.mL s}
 have bd:Step E E':=
  {le:=⟨fun _ h=>h,fun _ h=>h,fun c hc=>hw.oY c (aV.eG c hc),fun c hc=>hw.oY c (aV.eG c (aV.ep c hc)),fun _=>Nat.le_refl _,fun _ _ h _=>⟨h,rfl,rfl⟩,fun s c h=>by
    show(if s=t then _ else _)=_
    rw[if_neg (fun e=>by subst e;rw[hm] at h;cases h)];exact h⟩
   os:=hw.os,tape:=hw.tape,output:=hw.output
   size:=by show E.w.heap.size≤w'.heap.size;rw[hw.size];omega
   ey:=fun c hc _ _=>hw.oY c hc
   hO:=fun _ h=> .inl h
   j9:=fun c ⟨s,hs⟩=>by
    have hs:(if s=t then some E.w.heap.size else E.mL s)=some c:=hs
    split at hs
    ·cases hs;exact .inr (Nat.le_refl _)
    ·exact .inl ⟨s,hs⟩
   fE:=fun _ h=> .inl h
   fF:=fun _ h=> .inl h}
 have hml: ∀s c,E'.mL s=some c→(s=t∧c=E.w.heap.size)∨(s≠t∧E.mL s=some c):=by
  intro s c hs
  have hs:(if s=t then some E.w.heap.size else E.mL s)=some c:=hs
  split at hs
  ·rename_i e;cases hs;exact .inl ⟨e,rfl⟩
  ·rename_i e;exact .inr ⟨e,hs⟩
 have kw:=aV.gF
 have jm:=aV.gu
 refine⟨E',rfl,bd,?_,?_,⟨E.w.heap.size,by show(if t=t then _ else _)=_;rw[if_pos rfl],rfl⟩,rfl,fun s hs=>if_neg hs⟩
 ·exact{
   heap:=fun b c hb=>by
    obtain⟨blk,dl,iP,q1,dX,q2,q3,q4,cx,cT⟩:=aV.heap b c hb
    refine⟨blk,dl,iP,q1,dX,?_,q3,q4,cx,fun i j row a aJ aP=> ?_⟩
    ·show w'.heap[c]?=_;rw[hw.oY c (kw c ⟨b,hb⟩)];exact q2
    ·obtain⟨u,hu,ej⟩:=cT i j row a aJ aP
     exact⟨u,hu,ej.le bd.le.b6⟩
   eZ:=aV.eZ
   hE:=aV.hE
   fresh:=aV.fresh
   iq:=aV.iq
   iH:=fun s s' c h1 h2=>by
    rcases hml s c h1 with⟨d1,bF⟩ | ⟨_,eo⟩<;>rcases hml s' c h2 with⟨d2,e2⟩ | ⟨_,hD⟩
    ·rw[d1,d2]
    ·have:=jm c ⟨s',hD⟩;omega
    ·have:=jm c ⟨s,eo⟩;omega
    ·exact aV.iH s s' c eo hD
   g2:=fun b s c h1 h2=>by
    rcases hml s c h2 with⟨rfl,rfl⟩ | ⟨_,h2⟩
    ·have:=kw _ ⟨b,h1⟩;omega
    ·exact aV.g2 b s c h1 h2
   h7:=aV.h7
   h8:=fun c hc ⟨s,hs⟩=>by
    rcases hml s c hs with⟨rfl,rfl⟩ | ⟨_,hs⟩
    ·have:=aV.eG _ hc;omega
    ·exact aV.h8 c hc ⟨s,hs⟩
   ep:=aV.ep
   eG:=fun c hc=>Nat.lt_of_lt_of_le (aV.eG c hc) bd.size
   gF:=fun c hc=>Nat.lt_of_lt_of_le (kw c hc) bd.size
   gu:=fun c ⟨s,hs⟩=>by
    rcases hml s c hs with⟨rfl,rfl⟩ | ⟨_,hs⟩
    ·show _<w'.heap.size;rw[hw.size];omega
    ·exact Nat.lt_of_lt_of_le (jm c ⟨s,hs⟩) bd.size}
 ·intro s c hs
  rcases hml s c hs with⟨rfl,rfl⟩ | ⟨_,hs⟩
  ·exact⟨cells,ba,ty,bu,hw.new,hc.mono fun _ _ k=>k.le bd.le.b6⟩
  ·obtain⟨gP,dl,iP,q1,q2,q3⟩:=bT s c hs
   exact⟨gP,dl,iP,q1,by show w'.heap[c]?=_;rw[hw.oY c (jm c ⟨s,hs⟩)];exact q2,q3.mono fun _ _ k=>k.le bd.le.b6⟩
theorem uo {E:Env} {H H':List Blk} {L:List (Nat×List AV)} {w':World} {ba:Array Value} {ty:TypeId} {b cap:Nat} {blk:Blk} (aV:SimH E H) (bT:SimL E L) (hw:l4 E.w w' (.cells ba ty (0,0)))
  (hb:H'[b]?=some blk) (ax: ∀ca,ca≠b→H'[ca]?=H[ca]?) (hlen:b<H.length→H'.length=H.length) (yp:H.length≤H'.length)
  (jL:(E.m b=none∧blk.bI=E.bI b)∨E.bI b<blk.bI) (lq:ba.size=cap*blk.sz) (gD:blk.rows.length≤cap)
  (aJ:s5 E blk.sz blk.rows ba):
  ∃E',E'.w=w'∧Step E E'∧SimH E' H'∧SimL E' L∧E'.bI b=blk.bI∧E'.m b=some (some E.w.heap.size)∧E'.sz b=blk.sz∧E'.cp b=cap∧(∀ca,ca≠b→E'.m ca=E.m ca)∧E'.mL=E.mL:=by
 let E':Env:={E with w:=w',m:=fun ca=>if ca=b then some (some E.w.heap.size) else E.m ca,bI:=fun ca=>if ca=b then blk.bI else E.bI ca,sz:=fun ca=>if ca=b then blk.sz else E.sz ca,cp:=fun ca=>if ca=b then cap else E.cp ca}
 have bd:Step E E':=
  {le:=⟨fun _ h=>h,fun _ h=>h,fun c hc=>hw.oY c (aV.eG c hc),fun c hc=>hw.oY c (aV.eG c (aV.ep c hc)),fun ca=>by
     show _≤(if ca=b then _ else _)
     split
     ·rename_i e;subst e;rcases jL with⟨_,e⟩ | e<;>omega
     ·exact Nat.le_refl _,fun ca x hx aO=>by
     have nY:(if ca=b then blk.bI else E.bI ca)=E.bI ca:=aO
     have cO:ca≠b:=fun e=>by
      subst e
      rw[if_pos rfl] at nY
      rcases jL with⟨aC,_⟩ | e
      ·rw[aC] at hx;cases hx
      ·omega
     refine⟨?_,?_,?_⟩
     ·show(if ca=b then _ else _)=_;rw[if_neg cO];exact hx
     ·show(if ca=b then _ else _)=_;rw[if_neg cO]
     ·show(if ca=b then _ else _)=_;rw[if_neg cO],fun _ _ h=>h⟩
   os:=hw.os,tape:=hw.tape,output:=hw.output
   size:=by show E.w.heap.size≤w'.heap.size;rw[hw.size];omega
   ey:=fun c hc _ _=>hw.oY c hc
   hO:=fun c ⟨s,hs⟩=>by
    have hs:(if s=b then some (some E.w.heap.size) else E.m s)=some (some c):=hs
    split at hs
    ·cases hs;exact .inr (Nat.le_refl _)
    ·exact .inl ⟨s,hs⟩
   j9:=fun _ h=> .inl h
   fE:=fun _ h=> .inl h
   fF:=fun _ h=> .inl h}
 have hm: ∀s c,E'.m s=some (some c)→(s=b∧c=E.w.heap.size)∨(s≠b∧E.m s=some (some c)):=by
  intro s c hs
  have hs:(if s=b then some (some E.w.heap.size) else E.m s)=some (some c):=hs
  split at hs
  ·rename_i e;cases hs;exact .inl ⟨e,rfl⟩
  ·rename_i e;exact .inr ⟨e,hs⟩
 have kw:=aV.gF
 have jm:=aV.gu
 have cH: ∀s,s≠b→E'.sz s=E.sz s:=fun s hs=>if_neg hs
 have pF: ∀s,s≠b→E'.cp s=E.cp s:=fun s hs=>if_neg hs
 have yz:E'.sz b=blk.sz:=if_pos rfl
 have BA:E'.cp b=cap:=if_pos rfl
 have Ix:E'.bI b=blk.bI:=if_pos rfl
 refine⟨E',rfl,bd,?_,?_,Ix,if_pos rfl,yz,BA,fun ca dA=>if_neg dA,rfl⟩
 ·exact{
   heap:=fun s c hs=>by
    rcases hm s c hs with⟨rfl,rfl⟩ | ⟨cO,hs⟩
    ·refine⟨blk,ba,ty,hb,yz,hw.new,by rw[BA,yz];exact lq,by rw[BA];exact gD,?_⟩
     rw[yz]
     exact⟨aJ.1,fun i j row a h1 h2=>by obtain⟨u,hu,ej⟩:=aJ.2 i j row a h1 h2;exact⟨u,hu,ej.le bd.le.b6⟩⟩
    ·obtain⟨blk',dl,iP,q1,dX,q2,q3,q4,cx,cT⟩:=aV.heap s c hs
     refine⟨blk',dl,iP,by rw[ax s cO];exact q1,by rw[cH s cO];exact dX,?_,by rw[pF s cO,cH s cO];exact q3,by rw[pF s cO];exact q4,by rw[cH s cO];exact cx,fun i j row a aJ aP=> ?_⟩
     ·show w'.heap[c]?=_;rw[hw.oY c (kw c ⟨s,hs⟩)];exact q2
     ·obtain⟨u,hu,ej⟩:=cT i j row a aJ aP
      exact⟨u,by rw[cH s cO];exact hu,ej.le bd.le.b6⟩
   eZ:=fun s x hs=>by
    by_cases e:s=b
    ·subst e;rw[hb] at hs;cases hs;exact Ix
    ·rw[ax s e] at hs
     show(if s=b then _ else _)=_
     rw[if_neg e];exact aV.eZ s x hs
   hE:=fun s hs=>by
    have hs:(if s=b then some (some E.w.heap.size) else E.m s)=some none:=hs
    split at hs
    ·cases hs
    ·rename_i e
     obtain⟨x,q1,q2⟩:=aV.hE s hs
     exact⟨x,by rw[ax s e];exact q1,by rw[cH s e];exact q2⟩
   fresh:=fun s hs=>by
    have bg:b<H'.length:=(List.getElem?_eq_some_iff.1 hb).1
    have e:s≠b:=by omega
    have:=aV.fresh s (by omega)
    exact⟨by show(if s=b then _ else _)=_;rw[if_neg e];exact this.1,by show(if s=b then _ else _)=_;rw[if_neg e];exact this.2⟩
   iq:=fun s s' c h1 h2=>by
    rcases hm s c h1 with⟨d1,bF⟩ | ⟨_,eo⟩<;>rcases hm s' c h2 with⟨d2,e2⟩ | ⟨_,hD⟩
    ·rw[d1,d2]
    ·have:=kw c ⟨s',hD⟩;omega
    ·have:=kw c ⟨s,eo⟩;omega
    ·exact aV.iq s s' c eo hD
   iH:=aV.iH
   g2:=fun s t c h1 h2=>by
    rcases hm s c h1 with⟨rfl,rfl⟩ | ⟨_,h1⟩
    ·have:=jm _ ⟨t,h2⟩;omega
    ·exact aV.g2 s t c h1 h2
   h7:=fun c hc ⟨s,hs⟩=>by
    rcases hm s c hs with⟨rfl,rfl⟩ | ⟨_,hs⟩
    ·have:=aV.eG _ hc;omega
    ·exact aV.h7 c hc ⟨s,hs⟩
   h8:=aV.h8
   ep:=aV.ep
   eG:=fun c hc=>Nat.lt_of_lt_of_le (aV.eG c hc) bd.size
   gF:=fun c ⟨s,hs⟩=>by
    rcases hm s c hs with⟨rfl,rfl⟩ | ⟨_,hs⟩
    ·show _<w'.heap.size;rw[hw.size];omega
    ·exact Nat.lt_of_lt_of_le (kw c ⟨s,hs⟩) bd.size
   gu:=fun c hc=>Nat.lt_of_lt_of_le (jm c hc) bd.size}
 ·intro s c hs
  obtain⟨gP,dl,iP,q1,q2,q3⟩:=bT s c hs
  exact⟨gP,dl,iP,q1,by show w'.heap[c]?=_;rw[hw.oY c (jm c ⟨s,hs⟩)];exact q2,q3.mono fun _ _ k=>k.le bd.le.b6⟩
end Go.Proofs.Ytglpfccgmfhkdaa.Fw
/- The framework, part M: append. -/
set_option linter.unusedVariables false
namespace Go.Proofs.Ytglpfccgmfhkdaa.Fw
open Go
theorem LP {E:Env} {H:List Blk} {L:List (Nat×List AV)} {w':World} {b:Nat} {x:Option Nat} {blk blk':Blk} (aV:SimH E H) (bT:SimL E L)
  (hm:E.m b=some x) (hb:H[b]?=some blk) (aO:blk'.bI=blk.bI+1) (lO:blk'.sz=blk.sz)
  (ax:w'.os=E.w.os) (SX:w'.tape=E.w.tape) (SD:w'.output=E.w.output) (cH:w'.heap.size=E.w.heap.size)
  (hw: ∀c,x≠some c→w'.heap[c]?=E.w.heap[c]?)
  (hx: ∀c,x=some c→ ∃ba ty,w'.heap[c]?=some (.cells ba ty (0,0))∧ba.size=E.cp b*E.sz b∧blk'.rows.length≤E.cp b∧s5 E (E.sz b) blk'.rows ba):
  ∃E',E'.w=w'∧Step E E'∧SimH E' (H.set b blk')∧SimL E' L∧E'.bI b=blk'.bI∧E'.m=E.m∧E'.sz=E.sz∧E'.cp=E.cp∧E'.mL=E.mL:=by
 let E':Env:={E with w:=w',bI:=fun ca=>if ca=b then blk'.bI else E.bI ca}
 have jL:=aV.eZ b blk hb
 have cO: ∀c,E.PA c→x≠some c:=fun c hc e=>aV.h7 c hc ⟨b,by rw[hm,e]⟩
 have bd:Step E E':=
  {le:=⟨fun _ h=>h,fun _ h=>h,fun c hc=>hw c (cO c hc),fun c hc=>hw c (cO c (aV.ep c hc)),fun ca=>by
     show _≤(if ca=b then _ else _)
     split
     ·rename_i e;subst e;omega
     ·exact Nat.le_refl _,fun ca y bA Se=>by
     have nY:(if ca=b then blk'.bI else E.bI ca)=E.bI ca:=Se
     have tN:ca≠b:=fun e=>by subst e;rw[if_pos rfl] at nY;omega
     exact⟨bA,rfl,rfl⟩,fun _ _ h=>h⟩
   os:=ax,tape:=SX,output:=SD
   size:=by show E.w.heap.size≤w'.heap.size;rw[cH];exact Nat.le_refl _
   ey:=fun c hc h1 _=>hw c (fun e=>h1 ⟨b,by rw[hm,e]⟩)
   hO:=fun _ h=> .inl h
   j9:=fun _ h=> .inl h
   fE:=fun _ h=> .inl h
   fF:=fun _ h=> .inl h}
 have pD:b<H.length:=(List.getElem?_eq_some_iff.1 hb).1
 refine⟨E',rfl,bd,?_,?_,if_pos rfl,rfl,rfl,rfl,rfl⟩
 ·exact{aV with
   heap:=fun s c hs=>by
    by_cases e:s=b
    ·subst e
     have I5:x=some c:=by
      have:E.m s=some (some c):=hs
      rw[hm] at this;exact Option.some.inj this
     obtain⟨vp,ZH,Z1,q1,dX,q⟩:=aV.heap s c (by rw[hm,I5])
     obtain rfl:blk=vp:=by rw[hb] at q1;exact Option.some.inj q1
     obtain⟨ba,ty,h1,h2,aS,bt⟩:=hx c I5
     exact⟨blk',ba,ty,by rw[List.getElem?_set_self pD],dX.trans lO.symm,h1,h2,aS,bt.1,fun i j row a aJ aP=>by
      obtain⟨u,hu,ej⟩:=bt.2 i j row a aJ aP;exact⟨u,hu,ej.le bd.le.b6⟩⟩
    ·obtain⟨vp,dl,iP,q1,dX,q2,q3,q4,cx,cT⟩:=aV.heap s c hs
     refine⟨vp,dl,iP,by rw[List.getElem?_set_ne (fun h=>e h.symm)];exact q1,dX,?_,q3,q4,cx,fun i j row a aJ aP=> ?_⟩
     ·show w'.heap[c]?=_
      rw[hw c (fun h=>e (aV.iq s b c hs (by rw[hm,h])))];exact q2
     ·obtain⟨u,hu,ej⟩:=cT i j row a aJ aP
      exact⟨u,hu,ej.le bd.le.b6⟩
   eZ:=fun s y hs=>by
    by_cases e:s=b
    ·subst e;rw[List.getElem?_set_self pD] at hs;cases hs;exact if_pos rfl
    ·rw[List.getElem?_set_ne (fun h=>e h.symm)] at hs
     show(if s=b then _ else _)=_
     rw[if_neg e];exact aV.eZ s y hs
   hE:=fun s hs=>by
    obtain⟨y,q1,q2⟩:=aV.hE s hs
    by_cases e:s=b
    ·subst e
     obtain rfl:blk=y:=by rw[hb] at q1;exact Option.some.inj q1
     exact⟨blk',by rw[List.getElem?_set_self pD],q2.trans lO.symm⟩
    ·exact⟨y,by rw[List.getElem?_set_ne (fun h=>e h.symm)];exact q1,q2⟩
   fresh:=fun s hs=>by
    rw[List.length_set] at hs
    have e:s≠b:=by omega
    have:=aV.fresh s hs
    exact⟨this.1,by show(if s=b then _ else _)=_;rw[if_neg e];exact this.2⟩
   eG:=fun c hc=>Nat.lt_of_lt_of_le (aV.eG c hc) bd.size
   gF:=fun c hc=>Nat.lt_of_lt_of_le (aV.gF c hc) bd.size
   gu:=fun c hc=>Nat.lt_of_lt_of_le (aV.gu c hc) bd.size}
 ·intro s c hs
  obtain⟨gP,dl,iP,q1,q2,q3⟩:=bT s c hs
  refine⟨gP,dl,iP,q1,?_,q3.mono fun _ _ k=>k.le bd.le.b6⟩
  show w'.heap[c]?=_
  rw[hw c (fun e=>aV.g2 b s c (by rw[hm,e]) hs)];exact q2
theorem yX {E:Env} {H:List Blk} {L:List (Nat×List AV)} {blk:Blk} (aV:SimH E H) (bT:SimL E L) (aO:blk.bI=0) (aJ:blk.rows=[]):
  ∃E',E'.w=E.w∧Step E E'∧SimH E' (H++[blk])∧SimL E' L∧E'.bI H.length=0∧E'.m H.length=some none∧(∀b,b≠H.length→E'.m b=E.m b)∧E'.mL=E.mL:=by
 have hs:=aV.snoc aO
 have aC:=aV.fresh H.length (Nat.le_refl _)
 let E':Env:={E with m:=fun b=>if b=H.length then some none else E.m b,sz:=fun b=>if b=H.length then blk.sz else E.sz b}
 have r2: ∀b c,E'.m b=some (some c)→E.m b=some (some c)∧b≠H.length:=by
  intro b c h
  have h:(if b=H.length then some none else E.m b)=some (some c):=h
  split at h
  ·cases h
  ·exact⟨h,by assumption⟩
 have bd:Step E E':=
  {le:=⟨fun _ h=>h,fun _ h=>h,fun _ _=>rfl,fun _ _=>rfl,fun _=>Nat.le_refl _,fun b x hx _=>by
     have cO:b≠H.length:=fun e=>by subst e;rw[aC.1] at hx;cases hx
     exact⟨by show(if b=H.length then _ else _)=_;rw[if_neg cO];exact hx,by show(if b=H.length then _ else _)=_;rw[if_neg cO],rfl⟩,fun _ _ h=>h⟩
   os:=rfl,tape:=rfl,output:=rfl,size:=Nat.le_refl _
   ey:=fun _ _ _ _=>rfl
   hO:=fun c ⟨b,h⟩=> .inl ⟨b,(r2 b c h).1⟩
   j9:=fun _ h=> .inl h
   fE:=fun _ h=> .inl h
   fF:=fun _ h=> .inl h}
 refine⟨E',rfl,bd,?_,fun s c hm=> ?_,aC.2,if_pos rfl,fun b hb=>if_neg hb,rfl⟩
 ·exact{hs with
   heap:=fun b c h=>by
    obtain⟨h,cO⟩:=r2 b c h
    obtain⟨vp,dl,iP,q1,dX,q2,q3,q4,cx,cT⟩:=hs.heap b c h
    have cH:E'.sz b=E.sz b:=if_neg cO
    exact⟨vp,dl,iP,q1,by rw[cH];exact dX,q2,by rw[cH];exact q3,q4,by rw[cH];exact cx,fun i j row a aJ aP=>by
     obtain⟨u,hu,ej⟩:=cT i j row a aJ aP
     exact⟨u,by rw[cH];exact hu,ej.le bd.le.b6⟩⟩
   hE:=fun b h=>by
    by_cases e:b=H.length
    ·subst e
     exact⟨blk,by simp,if_pos rfl⟩
    ·have h:E.m b=some none:=by
      have h:(if b=H.length then some none else E.m b)=some none:=h
      rwa [if_neg e] at h
     obtain⟨y,q1,q2⟩:=hs.hE b h
     exact⟨y,q1,by show(if b=H.length then _ else _)=_;rw[if_neg e];exact q2⟩
   fresh:=fun b h=>by
    have:=hs.fresh b h
    have e:b≠H.length:=by simp at h;omega
    exact⟨by show(if b=H.length then _ else _)=_;rw[if_neg e];exact this.1,this.2⟩
   iq:=fun b ca c h1 h2=>hs.iq b ca c (r2 b c h1).1 (r2 ca c h2).1
   g2:=fun b t c h1 h2=>hs.g2 b t c (r2 b c h1).1 h2
   h7:=fun c hc ⟨b,h⟩=>hs.h7 c hc ⟨b,(r2 b c h).1⟩
   gF:=fun c ⟨b,h⟩=>hs.gF c ⟨b,(r2 b c h).1⟩}
 ·obtain⟨gP,dl,iP,q1,q2,q3⟩:=bT s c hm
  exact⟨gP,dl,iP,q1,q2,q3.mono fun _ _ k=>k.le bd.le.b6⟩
def wQ (fr:Bool) (row:List AV):List AV:=match fr with
 | true=>row.map nx
 | false=>row
def hR (fr:Bool) (rows:List (List AV)):List (List AV):=match fr with
 | true=>rows.map fun row=>row.map nx
 | false=>rows
theorem Wq (fr:Bool) (rows:List (List AV)):hR fr rows=rows.map (wQ fr):=by
 cases fr
 ·show rows=rows.map fun row=>row
  simp
 ·rfl
theorem Wp (fr:Bool) (row:List AV):(wQ fr row).length=row.length:=by
 cases fr<;>simp[wQ]
def rowsOf (H:List Blk) (x:AV):Option (List (List AV)):=match x with
 | .be rows _ fr=>some (hR fr rows)
 | .ref b g off n _=>(H[b]?).bind fun blk=>if blk.bI=g∧off+n≤blk.rows.length then some ((blk.rows.drop off).take n) else none
 | .str s=>some (s.data.toList.map fun c=>[.int .u8 c.toNat])
 | _=>none
def LW (H:List Blk) (x:AV) (K:List (List AV)→Prop):Prop:=match x with
 | .be rows _ fr=>K (hR fr rows)
 | .ref b g off n _=>cJ H[b]? fun blk=>blk.bI=g∧off+n≤blk.rows.length∧K ((blk.rows.drop off).take n)
 | .str s=>K (s.data.toList.map fun c=>[.int .u8 c.toNat])
 | _=>False
theorem Ww {H:List Blk} {x:AV} {K:List (List AV)→Prop} (h:LW H x K): ∃b9,rowsOf H x=some b9∧K b9:=by
 cases x with
 | be rows full fr=>exact⟨_,rfl,h⟩
 | ref b g off n full=>
  obtain⟨blk,hb,h1,h2,aS⟩:=e3 (show cJ H[b]? fun blk=>blk.bI=g∧off+n≤blk.rows.length∧K ((blk.rows.drop off).take n) from h)
  exact⟨_,by show(H[b]?).bind _=_;rw[hb];show(if blk.bI=g∧off+n≤blk.rows.length then _ else _)=_;rw[if_pos ⟨h1,h2⟩],aS⟩
 | str s=>exact⟨_,rfl,h⟩
 | _=>exact h.elim
def rC (P:Program) (e t2:TypeId) (x:AV):Bool:=match x with
 | .str _=>(match P.underlying t2 with
  | some .string=>(match P.underlying e with
   | some (.int .u8)=>P.cellsOf e==1
   | _=>false)
  | _=>false)
 | _=>(match P.underlying t2 with
  | some (.slice e2)=>e2==e
  | _=>false)
def pa (n:Nat) (b9:List (List AV)):Prop:= ∀row∈b9,row.length=n∧ ∀a∈row,ie a=true
def rB (P:Program) (t t2:TypeId) (s x:AV) (L:List (Nat×List AV)) (H:List Blk) (K:AV→List (Nat×List AV)→List Blk→Prop):Prop:=
 cJ (il P t) fun e=>cJ (l2 P e) fun z=>if z.length=P.cellsOf e∧0<z.length∧rC P e t2 x=true then LW H x fun b9=>
  pa z.length b9∧(match s with
  | .be rows full fr=>full=true∧(∀row∈rows,row.length=z.length)∧(rows.length+b9.length)*P.bytesOf e≤140737488355328∧rows.length+b9.length≤4611686018427387904∧(rows≠[]→b9≠[])∧
    K (.ref H.length 0 0 (rows.length+b9.length) false) L (H++[⟨0,z.length,rows++b9⟩])
  | .ref b g off n full=>off=0∧cJ H[b]? fun blk=>blk.bI=g∧blk.sz=z.length∧blk.rows.length=n∧(n+b9.length)*P.bytesOf e≤140737488355328∧n+b9.length≤4611686018427387904∧
    K (.ref b (g+1) 0 (n+b9.length) false) L (H.set b ⟨g+1,z.length,blk.rows++b9⟩)
  | _=>False)
 else False
structure xj (P:Program) (E:Env) (t2:TypeId) (size:Nat) (b9:List (List AV)) (hX:Value) (news:List Value):Prop where
 len:news.length=b9.length*size
 rel: ∀(i j:Nat) (row:List AV) (a:AV),b9[i]?=some row→row[j]?=some a→ ∃u,news[i*size+j]?=some u∧cG E.b6 a u∧u.oneCell'=true
 one: ∀u∈news,u.oneCell'=true
 num:(∃e2,P.underlying t2=some (.slice e2))∨P.underlying t2=some .string
 lenOf: ∀w,(Builtin.lenOf hX).run P w= .ok b9.length w
 cells: ∀w,(w=E.w∨w=E.w.drew)→(Builtin.firstCells size b9.length hX).run P w= .ok news.toArray w
theorem K5 {size:Nat} {b9:List (List AV)} {news:List Value} {R:AV→Value→Prop} (fq: ∀row∈b9,row.length=size) (len:news.length=b9.length*size)
  (rel: ∀(i j:Nat) (row:List AV) (a:AV),b9[i]?=some row→row[j]?=some a→ ∃u,news[i*size+j]?=some u∧R a u∧u.oneCell'=true): ∀u∈news,u.oneCell'=true:=by
 intro u hu
 obtain⟨k,hk⟩:=List.mem_iff_getElem?.1 hu
 have k5:k<b9.length*size:=by rw[←len];exact(List.getElem?_eq_some_iff.1 hk).1
 have ky:0<size:=by
  rcases Nat.eq_zero_or_pos size with q | q
  ·rw[q,Nat.mul_zero] at k5;omega
  ·exact q
 have hi:k / size<b9.length:=(Nat.div_lt_iff_lt_mul ky).2 k5
 have ek:=List.getElem?_eq_getElem hi
 have hlen:(b9[k / size]).length=size:=fq _ (List.getElem_mem hi)
 have aP:k%size<(b9[k / size]).length:=by rw[hlen];exact Nat.mod_lt _ ky
 obtain⟨v,h1,h2,aS⟩:=rel (k / size) (k%size) _ _ ek (List.getElem?_eq_getElem aP)
 rw[Nat.div_add_mod' k size,hk] at h1
 cases h1;exact aS
theorem Zm {P:Program} {e t2:TypeId} {x:AV} {b9:List (List AV)} {E:Env} {H:List Blk} {hX:Value} {size:Nat} (aV:SimH E H) (hx:V2 E x hX) (cH:size=P.cellsOf e) (bu:rC P e t2 x=true)
  (aJ:rowsOf H x=some b9) (fq:pa size b9): ∃news,xj P E t2 size b9 hX news:=by
 have yq: ∀row∈b9,row.length=size:=fun row h=>(fq row h).1
 cases x with
 | be rows full fr=>
  have jf:hR fr rows=b9:=Option.some.inj aJ
  have bF:b9=rows.map (wQ fr):=by rw[←jf];exact Wq fr rows
  have yu:b9.length=rows.length:=by rw[bF,List.length_map]
  have jo: ∀row∈rows,row.length=size:=fun row h=>by
   rw[←Wp fr row];exact yq _ (by rw[bF];exact List.mem_map_of_mem h)
  have hu: ∃e2,P.underlying t2=some (.slice e2):=by
   unfold rC at bu
   simp only at bu
   split at bu
   ·exact⟨_,by assumption⟩
   ·cases bu
  obtain⟨e2,hu⟩:=hu
  have iG:bD E.w E.PA E.PF (.be rows full fr) hX:=hx
  cases iG with
  | @be _ _ PB _ _ _ A cap sz vs fV gD gQ v7 eP dB=>
   let news:List Value:=(List.range (rows.length*size)).map fun k=>vs (k / size) (k%size)
   have kx:news.length=rows.length*size:=by simp[news]
   have gR: ∀i j,i<rows.length→j<size→news[i*size+j]?=some (vs i j):=by
    intro i j hi aP
    have hk:i*size+j<rows.length*size:=by
     calc i*size+j<i*size+size:=by omega
      _=(i+1)*size:=by rw[Nat.add_mul,Nat.one_mul]
      _≤rows.length*size:=Nat.mul_le_mul_right _ (by omega)
    show((List.range (rows.length*size)).map _)[i*size+j]?=_
    rw[List.getElem?_map,List.getElem?_range hk]
    have h1:(i*size+j) / size=i:=by
     rw[Nat.add_comm,Nat.add_mul_div_right _ _ (by omega),Nat.div_eq_of_lt aP];omega
    have h2:(i*size+j)%size=j:=by
     rw[Nat.add_comm,Nat.add_mul_mod_self_right,Nat.mod_eq_of_lt aP]
    simp[h1,h2]
   have rel: ∀(i j:Nat) (row:List AV) (a:AV),b9[i]?=some row→row[j]?=some a→ ∃u,news[i*size+j]?=some u∧cG E.b6 a u∧u.oneCell'=true:=by
    intro i j row a h1 h2
    have v3:=fq row (List.mem_of_getElem? h1)
    have aP:j<size:=by rw[←v3.1];exact(List.getElem?_eq_some_iff.1 h2).1
    have hs:=v3.2 a (List.mem_of_getElem? h2)
    rw[bF,List.getElem?_map] at h1
    cases aj:rows[i]? with
    | none=>rw[aj] at h1;cases h1
    | some uQ=>
     rw[aj] at h1
     have h1:wQ fr uQ=row:=Option.some.inj h1
     have lr:cG E.b6 a (vs i j):=by
      cases fr with
      | false=>
       have h1:uQ=row:=h1
       subst h1
       exact bD.v1 (E:=E.b6) ((dB i j uQ a aj h2).mono (fun _ _=>rfl) (fun _ h=>h.elim) (fun c hc=>show E.PA c by have:=fV c hc;simpa using this) (fun _ h=>h.elim))
      | true=>
       have h1:uQ.map nx=row:=h1
       subst h1
       rw[List.getElem?_map] at h2
       cases lR:uQ[j]? with
       | none=>rw[lR] at h2;cases h2
       | some J=>
        rw[lR] at h2
        have h2:nx J=a:=Option.some.inj h2
        subst h2
        exact bD.v1 (E:=E.b6) (Wo (dB i j uQ J aj lR) (fun c hc=>show E.PF c by have:=fV c hc;simpa using this) aV.ep)
     exact⟨_,gR i j (List.getElem?_eq_some_iff.1 aj).1 aP,lr,lr.y3 hs⟩
   refine⟨news,by rw[yu];exact kx,rel,K5 yq (by rw[yu];exact kx) rel,.inl ⟨_,hu⟩,fun w=>by rw[yu];rfl,fun w hw=> ?_⟩
   rw[yu]
   have BB: ∀a,w.cell? a=E.w.cell? a:=by rcases hw with rfl | rfl<;>intro a<;>rfl
   by_cases aQ:rows.length=0
   ·have aC:news=[]:=List.eq_nil_of_length_eq_zero (by rw[kx,aQ,Nat.zero_mul])
    rw[aC,aQ]
    cases A with
    | none=>exact run_firstCells_none w size 0 _ _
    | some kT=>
     have:=run_firstCells_some (P:=P) w size 0 kT 0 cap [] (by simp) (fun j v h=>by simp at h)
     exact this
   ·obtain⟨c,o,rfl,hc,dZ⟩:=eP (by omega)
    refine run_firstCells_some (P:=P) w size rows.length ⟨c,o,none⟩ rows.length cap news kx (fun k v hk=> ?_)
    have k5:k<rows.length*size:=by rw[←kx];exact(List.getElem?_eq_some_iff.1 hk).1
    have ky:0<size:=by
     rcases Nat.eq_zero_or_pos size with q | q
     ·rw[q,Nat.mul_zero] at k5;omega
     ·exact q
    have hi:k / size<rows.length:=(Nat.div_lt_iff_lt_mul ky).2 k5
    have aP:k%size<size:=Nat.mod_lt _ ky
    have IX:sz=size:=by
     have:=v7 _ _ (List.getElem?_eq_getElem hi)
     rw[←this];exact jo _ (List.getElem_mem hi)
    have h1:=dZ (k / size) (k%size) hi (by rw[IX];exact aP)
    have h2:=gR (k / size) (k%size) hi aP
    rw[Nat.div_add_mod' k size] at h2
    rw[hk] at h2
    cases h2
    rw[mE,BB]
    rw[IX,Nat.div_add_mod' k size] at h1
    exact h1
 | ref b g off n full=>
  have hu: ∃e2,P.underlying t2=some (.slice e2):=by
   unfold rC at bu
   simp only at bu
   split at bu
   ·exact⟨_,by assumption⟩
   ·cases bu
  obtain⟨e2,hu⟩:=hu
  have aJ:((H[b]?).bind fun blk=>if blk.bI=g∧off+n≤blk.rows.length then some ((blk.rows.drop off).take n) else none)=some b9:=aJ
  cases hb:H[b]? with
  | none=>simp[hb] at aJ
  | some blk=>
   simp only[hb,Option.bind_some] at aJ
   split at aJ
   case isFalse=>cases aJ
   case isTrue hc=>
   obtain⟨aO,qI⟩:=hc
   cases aJ
   have jL:=aV.eZ b blk hb
   have oQ:((blk.rows.drop off).take n).length=n:=by simp;omega
   have S1: ∀i row,((blk.rows.drop off).take n)[i]?=some row→blk.rows[off+i]?=some row:=by
    intro i row h
    rw[List.getElem?_take] at h
    split at h
    ·rw[List.getElem?_drop] at h;exact h
    ·cases h
   rcases(show fa E (.ref b g off n full) hX from hx) with⟨bV,_⟩ | ⟨fN,bV⟩
   ·omega
   ·rcases bV with⟨_,_,mg,A,rfl⟩ | ⟨c,cap,hm,rfl,oL,oI,pF⟩
    ·subst mg
     refine⟨[],by simp,fun i j row a h=>by simp at h,(fun u hu=>by cases hu),.inl ⟨_,hu⟩,fun w=>by simp;rfl,fun w hw=> ?_⟩
     rw[oQ]
     cases A with
     | none=>exact run_firstCells_none w size 0 _ _
     | some kT=>exact run_firstCells_some (P:=P) w size 0 kT 0 0 [] (by simp) (fun j v h=>by simp at h)
    ·obtain⟨blk',ba,ty,q1,dX,hw,lq,mR,gq⟩:=aV.heap b c hm
     obtain rfl:blk=blk':=by rw[hb] at q1;exact Option.some.inj q1
     by_cases mg:n=0
     ·subst mg
      refine⟨[],by simp,fun i j row a h=>by simp at h,(fun u hu=>by cases hu),.inl ⟨_,hu⟩,fun w=>by simp;rfl,fun w hw=> ?_⟩
      rw[oQ]
      exact run_firstCells_some (P:=P) w size 0 _ 0 cap [] (by simp) (fun j v h=>by simp at h)
     ·have B0:E.sz b=size:=by
       have bg:off<blk.rows.length:=by omega
       have a0:((blk.rows.drop off).take n)[0]?=some blk.rows[off]:=by
        rw[List.getElem?_take,if_pos (by omega),List.getElem?_drop,Nat.add_zero,List.getElem?_eq_getElem bg]
       rw[←gq.1 off _ (List.getElem?_eq_getElem bg)]
       exact yq _ (List.mem_of_getElem? a0)
      let news:List Value:=(ba.toList.drop (off*size)).take (n*size)
      have RV:off*size+n*size≤ba.size:=by
       rw[lq,B0,←Nat.add_mul];exact Nat.mul_le_mul_right _ (by omega)
      have kx:news.length=n*size:=by simp[news];omega
      have IK: ∀k,k<n*size→news[k]?=ba[off*size+k]?:=by
       intro k hk
       show((ba.toList.drop (off*size)).take (n*size))[k]?=_
       rw[List.getElem?_take,if_pos hk,List.getElem?_drop,Array.getElem?_toList]
      have rel: ∀(i j:Nat) (row:List AV) (a:AV),((blk.rows.drop off).take n)[i]?=some row→row[j]?=some a→ ∃u,news[i*size+j]?=some u∧cG E.b6 a u∧u.oneCell'=true:=by
       intro i j row a h1 h2
       have v3:=fq row (List.mem_of_getElem? h1)
       have aP:j<size:=by rw[←v3.1];exact(List.getElem?_eq_some_iff.1 h2).1
       have hi:i<n:=by have:=(List.getElem?_eq_some_iff.1 h1).1;rw[oQ] at this;exact this
       obtain⟨u,tX,tY⟩:=gq.2 (off+i) j row a (S1 i row h1) h2
       have hk:i*size+j<n*size:=by
        calc i*size+j<i*size+size:=by omega
         _=(i+1)*size:=by rw[Nat.add_mul,Nat.one_mul]
         _≤n*size:=Nat.mul_le_mul_right _ (by omega)
       refine⟨u,?_,tY,tY.y3 (v3.2 a (List.mem_of_getElem? h2))⟩
       rw[IK _ hk,←tX,B0]
       congr 1
       rw[Nat.add_mul];omega
      refine⟨news,by rw[oQ];exact kx,rel,K5 yq (by rw[oQ];exact kx) rel,.inl ⟨_,hu⟩,fun w=>by rw[oQ];rfl,fun w eb=> ?_⟩
      have BB: ∀a,w.cell? a=E.w.cell? a:=by rcases eb with rfl | rfl<;>intro a<;>rfl
      rw[oQ]
      refine run_firstCells_some (P:=P) w size n _ n cap news kx (fun k v hk=> ?_)
      have k5:k<n*size:=by rw[←kx];exact(List.getElem?_eq_some_iff.1 hk).1
      rw[IK k k5] at hk
      rw[mE,BB,B0]
      exact cell_of hw hk
 | str s=>
  obtain rfl:=V3.u1 (oq hx)
  cases aJ
  unfold rC at bu
  simp only at bu
  split at bu
  case h_2=>cases bu
  case h_1 hu=>
  split at bu
  case h_2=>cases bu
  case h_1 he=>
  have e9:size=1:=by rw[cH];simpa using bu
  subst e9
  have v8:s.data.toList.length=s.size:=by simp
  refine⟨s.data.toList.map fun c=> .int .u8 c.toNat,by simp,fun i j row a h1 h2=> ?_,fun u hu=> ?_,.inr hu,fun w=> ?_,fun w hw=> ?_⟩
  ·rw[List.getElem?_map] at h1
   cases hc:s.data.toList[i]? with
   | none=>rw[hc] at h1;cases h1
   | some c=>
    rw[hc] at h1
    cases h1
    have IC:j=0:=by have:=(List.getElem?_eq_some_iff.1 h2).1;simp at this;omega
    subst IC
    cases h2
    exact⟨.int .u8 c.toNat,by rw[List.getElem?_map,Nat.mul_one,Nat.add_zero,hc];rfl,bD.int _ _,rfl⟩
  ·obtain⟨c,_,rfl⟩:=List.mem_map.1 hu;rfl
  ·show Result.ok s.size w=_
   rw[List.length_map,v8]
  ·rw[List.length_map,v8]
   show Result.ok ((s.extract 0 s.size).data.map fun b=>Value.int .u8 b.toNat) w=_
   congr 1
   apply Array.ext'
   simp
 | _=>cases aJ
section
variable {P:Program} {E:Env} {t t2 ty e:TypeId} {size:Nat} {b9:List (List AV)} {hX:Value} {news:List Value}
theorem LX (X:xj P E t2 size b9 hX news) (bu:P.underlying t=some (.slice e)) (hi:(P.info? e).isSome=true) (cH:P.cellsOf e=size) {base:Option Addr} {sLen sCap:Nat} (aC:b9.length=0) (hc:sLen≤sCap):
  (Builtin.append_ #[t,t2] ty #[.slice base sLen sCap,hX]).run P E.w= .ok (.slice base sLen sCap) E.w:=by
 have aI:=X.lenOf E.w
 have hf:=X.cells E.w (.inl rfl)
 have Sr:news=[]:=List.eq_nil_of_length_eq_zero (by rw[X.len,aC,Nat.zero_mul])
 subst Sr
 rw[aC] at aI hf
 rcases X.num with⟨e2,hu⟩ | hu<;>
  (simp[Builtin.append_,run_underlying bu,run_underlying hu,run_sizeOf hi,cH,aI,hc,hf]
   cases base<;>simp[storeCells])
theorem Wx (X:xj P E t2 size b9 hX news) (bu:P.underlying t=some (.slice e)) (hi:(P.info? e).isSome=true) (cH:P.cellsOf e=size) {g o sLen sCap:Nat} {kX:Array Value} {ce:TypeId}
  (aO:E.w.heap[g]?=some (.cells kX ce (0,0))) (tU:sLen+b9.length≤sCap) (mS:o+sLen*size+news.length≤kX.size):
  (Builtin.append_ #[t,t2] ty #[.slice (some ⟨g,o,none⟩) sLen sCap,hX]).run P E.w= .ok (.slice (some ⟨g,o,none⟩) (sLen+b9.length) sCap) (E.w.setRow g (kX.toList.take (o+sLen*size)++news++kX.toList.drop (o+sLen*size+news.length)).toArray):=by
 have aI:=X.lenOf E.w
 have hf:=X.cells E.w (.inl rfl)
 have bd:=run_storeCells_at (P:=P) g (o+sLen*size) ce news 0 kX E.w aO (by simpa using mS) X.one
 simp only[Nat.add_zero] at bd
 rcases X.num with⟨e2,hu⟩ | hu<;>
  simp[Builtin.append_,run_underlying bu,run_underlying hu,run_sizeOf hi,cH,aI,tU,hf,mE,bd]
theorem Wy (X:xj P E t2 size b9 hX news) (bu:P.underlying t=some (.slice e)) {i:TypeInfo} (hi:P.info? e=some i) (cH:i.size=size) {z:Value} (aQ:i.zero=some z) {base:Option Addr} {sLen sCap:Nat} {jt:Array Value}
  (holds:(Builtin.firstCells size sLen (.slice base sLen sCap)).run P E.w.drew= .ok jt E.w.drew) (aO:sCap<sLen+b9.length) (yc:((sLen+b9.length:Nat):Int)≤9223372036854775807)
  (mS:Builtin.nextslicecap (sLen+b9.length) sCap*i.bytes≤281474976710656):
  (Builtin.append_ #[t,t2] ty #[.slice base sLen sCap,hX]).run P E.w= .ok (.slice (some ⟨E.w.heap.size,0,none⟩) (sLen+b9.length) (grownCap E.w (sLen+b9.length) sCap e))
   (E.w.drew.alloc (.cells (jt++news.toArray++Builtin.zeroCells z.cells (grownCap E.w (sLen+b9.length) sCap e - (sLen+b9.length))) e)):=by
 have aI:=X.lenOf E.w
 have hf:=X.cells E.w.drew (.inr rfl)
 subst cH
 have aC: ¬(sLen+b9.length≤sCap):=by omega
 have RC: ¬(9223372036854775807<((sLen:Int)+(b9.length:Int))):=by omega
 have RB: ¬(281474976710656<Builtin.nextslicecap (sLen+b9.length) sCap*i.bytes):=by omega
 rcases X.num with⟨e2,hu⟩ | hu<;>
  simp[Builtin.append_,run_underlying bu,run_underlying hu,sizeOf,typeInfo,zeroValue,hi,aQ,aI,aC,RC,RB,Question.forced,hf,holds,newRow,grownCap]
end
theorem OK {P:Program} {t t2 ty:TypeId} {s x:AV} {L:List (Nat×List AV)} {H:List Blk} {K:AV→List (Nat×List AV)→List Blk→Prop} {E:Env} {u2 hX:Value}
  (aV:SimH E H) (bT:SimL E L) (hs:V2 E s u2) (hx:V2 E x hX) (h:rB P t t2 s x L H K):
  ∃r u H' E',K r L H'∧(Builtin.append_ #[t,t2] ty #[u2,hX]).run P E.w= .ok u E'.w∧Step E E'∧SimH E' H'∧SimL E' L∧V3 E' r u∧E'.mL=E.mL:=by
 obtain⟨e,he,h⟩:=e3 h
 obtain⟨z,aQ,h⟩:=e3 h
 have bu:=qs he
 split at h
 case isFalse=>exact h.elim
 case isTrue hc=>
 obtain⟨mW,ky,nV⟩:=hc
 obtain⟨b9,yE,fq,h⟩:=Ww h
 obtain⟨i,s3,hi,sa,wb,yH⟩:=s0 (E:=E.b6) aQ
 obtain⟨news,X⟩:=Zm aV hx mW nV yE fq
 have vR:(P.info? e).isSome=true:=by rw[hi];rfl
 have tJ:i.size=z.length:=by rw[mW];simp[Program.cellsOf,hi]
 have tH:i.bytes=P.bytesOf e:=by simp[Program.bytesOf,hi]
 have S7:s3.cells.size=z.length:=by rw[wb];simp
 -- the new block, where there is no room
 have out: ∀(base:Option Addr) (rows:List (List AV)) (sCap:Nat) (jt:Array Value) (b g:Nat) (H':List Blk),u2= .slice base rows.length sCap→
   (Builtin.firstCells z.length rows.length (.slice base rows.length sCap)).run P E.w.drew= .ok jt E.w.drew→jt.size=rows.length*z.length→
   (∀row∈rows,row.length=z.length)→(∀(i j:Nat) (row:List AV) (a:AV),rows[i]?=some row→row[j]?=some a→ ∃u,jt[i*z.length+j]?=some u∧cG E.b6 a u)→
   sCap<rows.length+b9.length→(rows.length+b9.length)*P.bytesOf e≤140737488355328→rows.length+b9.length≤4611686018427387904→
   H'[b]?=some ⟨g,z.length,rows++b9⟩→(∀ca,ca≠b→H'[ca]?=H[ca]?)→(b<H.length→H'.length=H.length)→H.length≤H'.length→((E.m b=none∧g=E.bI b)∨E.bI b<g)→
   K (.ref b g 0 (rows.length+b9.length) false) L H'→ ∃r u H' E',K r L H'∧(Builtin.append_ #[t,t2] ty #[u2,hX]).run P E.w= .ok u E'.w∧Step E E'∧SimH E' H'∧SimL E' L∧V3 E' r u∧E'.mL=E.mL:=by
  intro base rows sCap jt b g H' SS holds IQ jo SC tU hby hA dA ax hlen yp jL hK
  subst SS
  have fe:=Wy (ty:=ty) X bu hi tJ sa holds tU (by omega) (growslice_fits (by omega) (by rw[tH];exact hby))
  have Bz:=grownCap_ge E.w (rows.length+b9.length) sCap e
  let cap:=grownCap E.w (rows.length+b9.length) sCap e
  let ba:Array Value:=jt++news.toArray++Builtin.zeroCells s3.cells (cap - (rows.length+b9.length))
  have lq:ba.size=cap*z.length:=by
   show(jt++news.toArray++Builtin.zeroCells s3.cells (cap - (rows.length+b9.length))).size=_
   have bF:(jt++news.toArray++Builtin.zeroCells s3.cells (cap - (rows.length+b9.length))).size=jt.size+news.length+(Builtin.zeroCells s3.cells (cap - (rows.length+b9.length))).size:=by simp;omega
   rw[bF,size_zeroCells,S7,IQ,X.len,←Nat.add_mul,←Nat.add_mul]
   congr 1
   have:rows.length+b9.length≤cap:=Bz
   omega
  have gq:s5 E z.length (rows++b9) ba:=by
   refine⟨fun k row aJ=> ?_,fun k j row a aJ aP=> ?_⟩
   ·rcases Nat.lt_or_ge k rows.length with bg | fN
    ·rw[List.getElem?_append_left bg] at aJ;exact jo row (List.mem_of_getElem? aJ)
    ·rw[List.getElem?_append_right fN] at aJ;exact(fq row (List.mem_of_getElem? aJ)).1
   ·rcases Nat.lt_or_ge k rows.length with bg | fN
    ·rw[List.getElem?_append_left bg] at aJ
     obtain⟨u,hu,hv⟩:=SC k j row a aJ aP
     refine⟨u,?_,hv⟩
     have k5:=(Array.getElem?_eq_some_iff.1 hu).1
     show(jt++news.toArray++_)[k*z.length+j]?=_
     rw[Array.getElem?_append_left (by rw[Array.size_append];omega),Array.getElem?_append_left k5];exact hu
    ·rw[List.getElem?_append_right fN] at aJ
     obtain⟨u,hu,hv,_⟩:=X.rel _ j row a aJ aP
     refine⟨u,?_,hv⟩
     have k5:=(List.getElem?_eq_some_iff.1 hu).1
     have mU:k*z.length+j=jt.size+((k - rows.length)*z.length+j):=by
      rw[IQ,←Nat.add_assoc,←Nat.add_mul];congr 2;omega
     show(jt++news.toArray++_)[k*z.length+j]?=_
     rw[mU,Array.getElem?_append_left (by simp;omega),Array.getElem?_append_right (by omega),Nat.add_sub_cancel_left]
     simpa using hu
  obtain⟨E',hw,bd,pK,pL,nY,mf,k7,yf,_,hml⟩:=uo (cap:=cap) (blk:=⟨g,z.length,rows++b9⟩) aV bT (l4.PX E.w (.cells ba e (0,0))) dA ax hlen yp jL lq (by
   show(rows++b9).length≤cap
   rw[List.length_append];exact Bz) gq
  refine⟨_,_,_,E',hK,by rw[hw];exact fe,bd,pK,pL,.inr ⟨nY.symm,.inr ⟨_,_,mf,?_,Bz,(fun h=>by cases h),?_⟩⟩,hml⟩
  ·rw[Nat.zero_mul]
  ·rw[yf,Nat.zero_add];exact Nat.le_refl _
 cases s with
 | be rows full fr=>
  obtain⟨gQ,jo,hby,hA,cO,hK⟩:=h
  subst gQ
  have k7:bD E.w E.PA E.PF (.be rows true fr) u2:=hs
  cases k7 with
  | @be _ _ PB _ _ _ A cap sz vs fV gD gQ cH eP dB=>
   have RZ:=gQ rfl
   subst RZ
   by_cases g0:b9.length=0
   ·have yF:b9=[]:=List.eq_nil_of_length_eq_zero g0
    have oN:rows=[]:=Classical.byContradiction fun bV=>cO bV yF
    subst oN;subst yF
    obtain⟨E',hw,bd,pK,pL,nY,mf,_,hml⟩:=yX (blk:=⟨0,z.length,[]++[]⟩) aV bT rfl rfl
    have fe:=LX (ty:=ty) X bu vR mW.symm (base:=A) (sLen:=0) (sCap:=0) rfl (Nat.le_refl _)
    exact⟨_,_,_,E',hK,by rw[hw];exact fe,bd,pK,pL,.inr ⟨nY.symm,.inl ⟨mf,rfl,rfl,A,rfl⟩⟩,hml⟩
   ·have SV:0<rows.length→sz=z.length:=fun aF=>by
     rw[←cH 0 _ (List.getElem?_eq_getElem aF)];exact jo _ (List.getElem_mem aF)
    let jt:List Value:=(List.range (rows.length*z.length)).map fun k=>vs (k / z.length) (k%z.length)
    have tP:jt.length=rows.length*z.length:=by simp[jt]
    have gR: ∀i j,i<rows.length→j<z.length→jt[i*z.length+j]?=some (vs i j):=by
     intro i j hi aP
     have hk:i*z.length+j<rows.length*z.length:=by
      calc i*z.length+j<i*z.length+z.length:=by omega
       _=(i+1)*z.length:=by rw[Nat.add_mul,Nat.one_mul]
       _≤rows.length*z.length:=Nat.mul_le_mul_right _ (by omega)
     show((List.range (rows.length*z.length)).map _)[i*z.length+j]?=_
     rw[List.getElem?_map,List.getElem?_range hk]
     have h1:(i*z.length+j) / z.length=i:=by
      rw[Nat.add_comm,Nat.add_mul_div_right _ _ (by omega),Nat.div_eq_of_lt aP];omega
     have h2:(i*z.length+j)%z.length=j:=by
      rw[Nat.add_comm,Nat.add_mul_mod_self_right,Nat.mod_eq_of_lt aP]
     simp[h1,h2]
    refine out A rows rows.length jt.toArray H.length 0 _ rfl ?_ (by simp[tP]) jo (fun i j row a h1 h2=> ?_) (by omega) hby hA (by simp) (fun ca dA=> ?_) (fun bV=>by omega) (by simp) (.inl ⟨(aV.fresh _ (Nat.le_refl _)).1,(aV.fresh _ (Nat.le_refl _)).2.symm⟩) hK
    ·by_cases oN:rows.length=0
     ·have a0:jt=[]:=List.eq_nil_of_length_eq_zero (by rw[tP,oN,Nat.zero_mul])
      rw[a0,oN]
      cases A with
      | none=>exact run_firstCells_none _ _ _ _ _
      | some kT=>exact run_firstCells_some (P:=P) _ z.length 0 kT 0 0 [] (by simp) (fun j v h=>by simp at h)
     ·obtain⟨c,o,rfl,hc,dZ⟩:=eP (by omega)
      refine run_firstCells_some (P:=P) E.w.drew z.length rows.length ⟨c,o,none⟩ rows.length rows.length jt tP (fun k v hk=> ?_)
      have k5:k<rows.length*z.length:=by rw[←tP];exact(List.getElem?_eq_some_iff.1 hk).1
      have hi:k / z.length<rows.length:=(Nat.div_lt_iff_lt_mul ky).2 k5
      have aP:k%z.length<z.length:=Nat.mod_lt _ ky
      have pP:=SV (by omega)
      have h1:=dZ (k / z.length) (k%z.length) hi (by rw[pP];exact aP)
      have h2:=gR (k / z.length) (k%z.length) hi aP
      rw[Nat.div_add_mod' k z.length] at h2
      rw[hk] at h2
      cases h2
      rw[pP,Nat.div_add_mod' k z.length] at h1
      rw[mE]
      exact h1
    ·have hi:=(List.getElem?_eq_some_iff.1 h1).1
     have aP:j<z.length:=by rw[←jo row (List.mem_of_getElem? h1)];exact(List.getElem?_eq_some_iff.1 h2).1
     refine⟨vs i j,by simpa using gR i j hi aP,bD.v1 (E:=E.b6) ((dB i j row a h1 h2).mono (fun _ _=>rfl) (fun _ h=>h.elim) (fun c hc=>by have:=fV c hc;split at this;exact aV.ep c this;exact this) (fun _ h=>h.elim))⟩
    ·rcases Nat.lt_or_ge ca H.length with bg | fN
     ·rw[List.getElem?_append_left bg]
     ·rw[List.getElem?_eq_none fN,List.getElem?_eq_none (by simp;omega)]
 | ref b g off n full=>
  replace h:off=0∧cJ H[b]? fun blk=>blk.bI=g∧blk.sz=z.length∧blk.rows.length=n∧(n+b9.length)*P.bytesOf e≤140737488355328∧n+b9.length≤4611686018427387904∧
    K (.ref b (g+1) 0 (n+b9.length) false) L (H.set b ⟨g+1,z.length,blk.rows++b9⟩):=h
  obtain⟨Sv,aj⟩:=h
  obtain⟨blk,hb,aO,lO,gZ,hby,hA,hK⟩:=e3 aj
  clear aj
  subst Sv
  have jL:=aV.eZ b blk hb
  have pD:b<H.length:=(List.getElem?_eq_some_iff.1 hb).1
  subst gZ
  rcases(show fa E (.ref b g 0 blk.rows.length full) u2 from hs) with⟨bV,_⟩ | ⟨fN,bV⟩
  ·omega
  ·rcases bV with⟨hm,_,mg,A,rfl⟩ | ⟨c,cap,hm,rfl,oL,oI,pF⟩
   ·-- nothing there yet
    by_cases g0:b9.length=0
    ·have yF:b9=[]:=List.eq_nil_of_length_eq_zero g0
     subst yF
     obtain⟨E',hw,bd,pK,pL,nY,mf,v7,yf,hml⟩:=LP (w':=E.w) (x:=none) (blk':=⟨g+1,z.length,blk.rows++[]⟩) aV bT hm hb (by show g+1=_;rw[aO]) lO.symm rfl rfl rfl rfl (fun _ _=>rfl) (fun c hc=>by cases hc)
     have fe:=LX (ty:=ty) X bu vR mW.symm (base:=A) (sLen:=0) (sCap:=0) rfl (Nat.le_refl _)
     refine⟨_,_,_,E',hK,by rw[hw];exact fe,bd,pK,pL,.inr ⟨nY.symm,.inl ⟨by rw[mf];exact hm,rfl,by simp[mg],A,rfl⟩⟩,hml⟩
    ·have oN:blk.rows=[]:=List.eq_nil_of_length_eq_zero mg
     refine out A blk.rows 0 #[] b (g+1) _ (by rw[oN];rfl) ?_ (by rw[oN];simp) (fun row aJ=>by rw[oN] at aJ;cases aJ) (fun i j row a h1 h2=>by rw[oN] at h1;simp at h1) (by omega) hby hA (by rw[List.getElem?_set_self pD]) (fun ca dA=>List.getElem?_set_ne (fun h=>dA h.symm)) (fun _=>by simp) (by simp) (.inr (by omega)) hK
     rw[oN]
     cases A with
     | none=>exact run_firstCells_none _ _ _ _ _
     | some kT=>exact run_firstCells_some (P:=P) _ z.length 0 kT 0 0 [] (by simp) (fun j v h=>by simp at h)
   ·obtain⟨blk',ba,iP,q1,dX,hw,lq,mR,gq⟩:=aV.heap b c hm
    obtain rfl:blk=blk':=by rw[hb] at q1;exact Option.some.inj q1
    have cH:E.sz b=z.length:=by rw[dX,lO]
    by_cases tU:blk.rows.length+b9.length≤cap
    ·-- there is room
     have R3:ba.size=E.cp b*z.length:=by rw[lq,cH]
     have hle:(blk.rows.length+b9.length)*z.length≤ba.size:=by rw[R3];exact Nat.mul_le_mul_right _ (by omega)
     have IH:blk.rows.length*z.length+news.length≤ba.size:=by rw[X.len,←Nat.add_mul];exact hle
     have fe:=Wx (ty:=ty) (o:=0) X bu vR mW.symm hw tU (by rw[Nat.zero_add];exact IH)
     rw[Nat.zero_add] at fe
     let dl:Array Value:=(ba.toList.take (blk.rows.length*z.length)++news++ba.toList.drop (blk.rows.length*z.length+news.length)).toArray
     have Ip: ∀k,dl[k]?=if k<blk.rows.length*z.length then ba.toList[k]? else if k<blk.rows.length*z.length+news.length then news[k - blk.rows.length*z.length]? else ba.toList[k]?:=by
      intro k
      show(List.toArray _)[k]?=_
      rw[List.getElem?_toArray,u0 (by simpa using IH)]
     obtain⟨E',eb,bd,pK,pL,nY,mf,v7,yf,hml⟩:=LP (w':=E.w.setRow c dl) (x:=some c) (blk':=⟨g+1,z.length,blk.rows++b9⟩) aV bT hm hb (by show g+1=_;rw[aO]) lO.symm rfl rfl rfl (by simp)
      (fun ea oH=>setRow_other _ _ _ _ (fun e=>oH (by rw[e]))) (fun ea oH=>by
       cases oH
       refine⟨dl,iP,setRow_heap _ _ _ _ _ _ hw,?_,by show(blk.rows++b9).length≤_;rw[List.length_append];omega,fun k row aJ=> ?_,fun k j row a aJ aP=> ?_⟩
       ·rw[←lq]
        show(List.toArray _).size=_
        simp;omega
       ·have aJ:(blk.rows++b9)[k]?=some row:=aJ
        rcases Nat.lt_or_ge k blk.rows.length with bg | yi
        ·rw[List.getElem?_append_left bg] at aJ;exact gq.1 k row aJ
        ·rw[List.getElem?_append_right yi] at aJ;rw[cH];exact(fq row (List.mem_of_getElem? aJ)).1
       ·have aJ:(blk.rows++b9)[k]?=some row:=aJ
        rcases Nat.lt_or_ge k blk.rows.length with bg | yi
        ·rw[List.getElem?_append_left bg] at aJ
         obtain⟨u,hu,hv⟩:=gq.2 k j row a aJ aP
         refine⟨u,?_,hv⟩
         have ni:j<z.length:=by rw[←cH,←gq.1 k row aJ];exact(List.getElem?_eq_some_iff.1 aP).1
         have:k*z.length+j<blk.rows.length*z.length:=by
          calc k*z.length+j<k*z.length+z.length:=by omega
           _=(k+1)*z.length:=by rw[Nat.add_mul,Nat.one_mul]
           _≤blk.rows.length*z.length:=Nat.mul_le_mul_right _ (by omega)
         rw[cH] at hu ⊢
         rw[Ip,if_pos this];simpa using hu
        ·rw[List.getElem?_append_right yi] at aJ
         obtain⟨u,hu,hv,_⟩:=X.rel _ j row a aJ aP
         refine⟨u,?_,hv⟩
         have k5:=(List.getElem?_eq_some_iff.1 hu).1
         have mU:k*z.length+j=blk.rows.length*z.length+((k - blk.rows.length)*z.length+j):=by
          rw[←Nat.add_assoc,←Nat.add_mul];congr 2;omega
         rw[cH,Ip,mU,if_neg (by omega),if_pos (by omega),Nat.add_sub_cancel_left];exact hu)
     refine⟨_,_,_,E',hK,by rw[eb];rw[Nat.zero_mul];exact fe,bd,pK,pL,.inr ⟨nY.symm,.inr ⟨c,cap,by rw[mf];exact hm,by simp,tU,(fun h=>by cases h),by rw[yf];omega⟩⟩,hml⟩
    ·-- there is none
     refine out (some ⟨c,0,none⟩) blk.rows cap (ba.toList.take (blk.rows.length*z.length)).toArray b (g+1) _ (by rw[Nat.zero_mul]) ?_ ?_ (fun row aJ=> ?_) (fun i j row a h1 h2=> ?_) (by omega) hby hA (by rw[List.getElem?_set_self pD]) (fun ca dA=>List.getElem?_set_ne (fun h=>dA h.symm)) (fun _=>by simp) (by simp) (.inr (by omega)) hK
     ·refine run_firstCells_some (P:=P) E.w.drew z.length blk.rows.length ⟨c,0,none⟩ blk.rows.length cap _ ?_ (fun k v hk=> ?_)
      ·have:blk.rows.length*z.length≤ba.size:=by rw[lq,cH];exact Nat.mul_le_mul_right _ mR
       simp;omega
      ·rw[List.getElem?_take] at hk
       split at hk
       ·rw[mE,Nat.zero_add]
        exact cell_of (w:=E.w) hw (by simpa using hk)
       ·cases hk
     ·have:blk.rows.length*z.length≤ba.size:=by rw[lq,cH];exact Nat.mul_le_mul_right _ mR
      simp;omega
     ·obtain⟨k,hk⟩:=List.mem_iff_getElem?.1 aJ
      rw[←cH];exact gq.1 k row hk
     ·obtain⟨u,hu,hv⟩:=gq.2 i j row a h1 h2
      refine⟨u,?_,hv⟩
      have hi:=(List.getElem?_eq_some_iff.1 h1).1
      have aP:j<z.length:=by rw[←cH,←gq.1 i row h1];exact(List.getElem?_eq_some_iff.1 h2).1
      have:i*z.length+j<blk.rows.length*z.length:=by
       calc i*z.length+j<i*z.length+z.length:=by omega
        _=(i+1)*z.length:=by rw[Nat.add_mul,Nat.one_mul]
        _≤blk.rows.length*z.length:=Nat.mul_le_mul_right _ (by omega)
      rw[List.getElem?_toArray,List.getElem?_take,if_pos this,Array.getElem?_toList,←cH]
      exact hu
 | _=>exact h.elim
end Go.Proofs.Ytglpfccgmfhkdaa.Fw
/- The framework, part N: variables and blocks that come to be; slices that are made; a call that answers with blocks of its own; a call that writes. -/
set_option linter.unusedVariables false
namespace Go.Proofs.Ytglpfccgmfhkdaa.Fw
open Go
def zX (E:Env) (o:Oper) (a:Act) (K:AV→List (Nat×List AV)→List Blk→Prop):Act→World→Prop:=fun hp w'=>
 ∃v u L' H' E',K v L' H'∧E'.w=w'∧Step E E'∧SimH E' H'∧SimL E' L'∧V3 E' v u∧hp=a.put o.dst u∧ ∀t,o.dst≠some t→E'.mL t=E.mL t
def xB:List Nat→Nat→Option Nat
 | [],_=>none
 | x::r,t=>match Nat.ble 2000000 x with
  | true=>(match Nat.beq ((x - 2000000)%1000) t with
   | true=>some ((x - 2000000) / 1000)
   | false=>xB r t)
  | false=>xB r t
def sn (esc:List Nat) (dst:Option Nat) (cells:List AV) (L:List (Nat×List AV)) (H:List Blk) (K:AV→List (Nat×List AV)→List Blk→Prop):Prop:=
 if cells.all ie=true then match dst with
  | none=>False
  | some t=>match xB esc t with
   | some j=>cJ H[j]? fun blk=>K (.ptr j (blk.bI+1) 0 0) L (H.set j ⟨blk.bI+1,cells.length,[cells]⟩)
   | none=>if esc.contains t=true then K (.ptr H.length 0 0 0) L (H++[⟨0,cells.length,[cells]⟩]) else
    match ew L t with
    | none=>K (.e6 t 0) ((t,cells)::L) H
    | some _=>False
 else False
theorem SimL.none {E:Env} {L:List (Nat×List AV)} (h:SimL E L) {t:Nat} (aC:ew L t=none):E.mL t=none:=by
 cases hm:E.mL t with
 | none=>rfl
 | some c=>
  obtain⟨cells,ba,ty,h1,_⟩:=h t c hm
  rw[aC] at h1;cases h1
theorem FR {E:Env} {cells:List AV} {vs:List Value} (hs:cells.all ie=true) (h:av (cG E) cells vs):av (cG E.b6) cells vs:=
 ⟨h.1,fun i a v a6 hv=>FQ (List.all_eq_true.1 hs a (List.mem_of_getElem? a6)) (h.2 i a v a6 hv)⟩
theorem KV {E:Env} {H:List Blk} {L:List (Nat×List AV)} {esc:List Nat} {dst:Option Nat} {cells:List AV} {ba:Array Value} {ty:TypeId} {K:AV→List (Nat×List AV)→List Blk→Prop}
  (aV:SimH E H) (bT:SimL E L) (hc:av (cG E) cells ba.toList) (h:sn esc dst cells L H K):
  ∃v L' H' E',K v L' H'∧E'.w=E.w.alloc (.cells ba ty (0,0))∧Step E E'∧SimH E' H'∧SimL E' L'∧V3 E' v (.pointer (some ⟨E.w.heap.size,0,none⟩))∧ ∀s,dst≠some s→E'.mL s=E.mL s:=by
 unfold sn at h
 split at h
 case isFalse=>exact h.elim
 case isTrue hs=>
 have oH:=FR hs hc
 cases dst with
 | none=>exact h.elim
 | some t=>
  have h:match xB esc t with
   | some j=>cJ H[j]? fun blk=>K (.ptr j (blk.bI+1) 0 0) L (H.set j ⟨blk.bI+1,cells.length,[cells]⟩)
   | none=>if esc.contains t=true then K (.ptr H.length 0 0 0) L (H++[⟨0,cells.length,[cells]⟩]) else(match ew L t with
    | none=>K (.e6 t 0) ((t,cells)::L) H
    | some _=>False):=h
  split at h
  ·rename_i j RX
   obtain⟨blk,vM,hK⟩:=e3 h
   have ni:=(List.getElem?_eq_some_iff.1 vM).1
   have Sd:=aV.eZ j blk vM
   have hlen:ba.size=cells.length:=by have:=hc.1;simp at this;exact this.symm
   obtain⟨E',bF,e2,dN,h0,hy,lL,xN,rH,_,hml⟩:=uo (H:=H) (H':=H.set j ⟨blk.bI+1,cells.length,[cells]⟩) (b:=j) (cap:=1) (blk:=⟨blk.bI+1,cells.length,[cells]⟩) aV bT (l4.alloc E.w (.cells ba ty (0,0)))
    (by rw[List.getElem?_set];simp[ni]) (fun ca dA=>by rw[List.getElem?_set,if_neg (fun e=>dA e.symm)]) (fun _=>by simp) (by simp) (.inr (by show E.bI j<blk.bI+1;omega)) (by simp[hlen]) (by simp)
    ⟨fun i row aJ=>by
      cases i with
      | zero=>simp at aJ;subst aJ;rfl
      | succ i=>simp at aJ,
     fun i j row a aJ aP=>by
      cases i with
      | zero=>
       simp at aJ;subst aJ
       obtain⟨u,hu,hv⟩:=oH.get aP
       exact⟨u,by simpa using hu,hv⟩
      | succ i=>simp at aJ⟩
   refine⟨_,_,_,E',hK,bF,e2,dN,h0,.inr ⟨hy.symm,E.w.heap.size,lL,?_⟩,fun s _=>by rw[hml]⟩
   rw[Nat.zero_mul]
  split at h
  ·have hlen:ba.size=cells.length:=by have:=hc.1;simp at this;exact this.symm
   have vF:SimH E (H++[⟨0,cells.length,[cells]⟩]):=aV.snoc rfl
   obtain⟨tM,pH⟩:=aV.fresh H.length (Nat.le_refl _)
   obtain⟨E',bF,e2,dN,h0,hy,lL,xN,rH,_,hml⟩:=uo (H:=H++[⟨0,cells.length,[cells]⟩]) (H':=H++[⟨0,cells.length,[cells]⟩]) (b:=H.length) (cap:=1) (blk:=⟨0,cells.length,[cells]⟩) vF bT (l4.alloc E.w (.cells ba ty (0,0)))
    (by simp) (fun _ _=>rfl) (fun _=>rfl) (Nat.le_refl _) (.inl ⟨tM,pH.symm⟩) (by simp[hlen]) (by simp)
    ⟨fun i row aJ=>by
      cases i with
      | zero=>simp at aJ;subst aJ;rfl
      | succ i=>simp at aJ,
     fun i j row a aJ aP=>by
      cases i with
      | zero=>
       simp at aJ;subst aJ
       obtain⟨u,hu,hv⟩:=oH.get aP
       exact⟨u,by simpa using hu,hv⟩
      | succ i=>simp at aJ⟩
   refine⟨_,_,_,E',h,bF,e2,dN,h0,.inr ⟨hy.symm,E.w.heap.size,lL,?_⟩,fun s _=>by rw[hml]⟩
   rw[Nat.zero_mul]
  ·cases aO:ew L t with
   | some x=>rw[aO] at h;exact h.elim
   | none=>
    rw[aO] at h
    have hm:=bT.none aO
    obtain⟨E',bF,e2,dN,h0,hy,_,hml⟩:=KU (L:=(t,cells)::L) (t:=t) (cells:=cells) aV (bT.cons hm) (l4.alloc E.w (.cells ba ty (0,0))) (by simp[ew]) hm oH
    exact⟨_,_,_,E',h,bF,e2,dN,h0,hy,fun s hs=>hml s fun e=>hs (by rw[e])⟩
def lC:AV→AV
 | .be rows _ fr=> .be rows false fr
 | a=>a
theorem cG.lC {E:Env} {a:AV} {v:Value} (h:cG E a v):cG E (lC a) v:=by
 cases a with
 | be rows full fr=>
  have h:bD E.w E.PA E.PF (.be rows full fr) v:=h
  cases h with
  | be fV gD gQ cH eP dB=>exact bD.be fV gD (fun h=>by cases h) cH eP dB
 | _=>exact h
theorem av.lC {E:Env} {l:List AV} {m:List Value} (h:av (cG E) l m):av (cG E) (l.map lC) m:=by
 refine⟨by rw[List.length_map];exact h.1,fun i a v a6 hv=> ?_⟩
 rw[List.getElem?_map] at a6
 cases aI:l[i]? with
 | none=>rw[aI] at a6;cases a6
 | some b=>rw[aI] at a6;cases a6;exact(h.2 i b v aI hv).lC
def um (P:Program) (t:TypeId) (l c:AV) (L:List (Nat×List AV)) (H:List Blk) (K:AV→List (Nat×List AV)→List Blk→Prop):Prop:=
 cJ (il P t) fun e=>cJ (l2 P e) fun z=>if z.length=P.cellsOf e∧z.all ie=true then match l,c with
  | .int _ l,.int _ c=>0≤l∧l≤c∧(P.bytesOf e:Int)*c≤140737488355328∧c≤4611686018427387904∧K (.ref H.length 0 0 l.toNat false) L (H++[⟨0,z.length,List.replicate l.toNat (z.map lC)⟩])
  | _,_=>False
 else False
theorem Vs (z:Array Value) (n k:Nat) (hk:k<n):(madeCells z n)[k]?=some (z[k%z.size]!):=by
 simp[madeCells,hk]
theorem VB {P:Program} {E:Env} {H:List Blk} {L:List (Nat×List AV)} {t:TypeId} {l c:AV} {yT G_:Value} {K:AV→List (Nat×List AV)→List Blk→Prop}
  (aV:SimH E H) (bT:SimL E L) (aI:V3 E l yT) (hc:V3 E c G_) (h:um P t l c L H K):
  ∃v L' H' E' u,K v L' H'∧(Instr.makeSlice t yT G_).run P E.w= .ok u E'.w∧Step E E'∧SimH E' H'∧SimL E' L'∧V3 E' v u∧E'.mL=E.mL:=by
 obtain⟨e,he,h⟩:=e3 h
 obtain⟨z,aQ,h⟩:=e3 h
 split at h
 case isFalse=>exact h.elim
 case isTrue hb=>
 obtain⟨mW,S6⟩:=hb
 cases l with
 | int uh l=>
  cases c with
  | int fB c=>
   obtain⟨a0,h1,h2,aS,hK⟩:=(show 0≤l∧l≤c∧(P.bytesOf e:Int)*c≤140737488355328∧c≤4611686018427387904∧K (.ref H.length 0 0 l.toNat false) L (H++[⟨0,z.length,List.replicate l.toNat (z.map lC)⟩]) from h)
   obtain rfl:=aI.pS
   obtain rfl:=hc.pS
   obtain⟨i,v,q1,q2,q3,q4⟩:=s0 (E:=E) aQ
   have aj:=(FR S6 q4).lC
   have sa:v.cells.size=z.length:=by rw[q3];simp
   have tJ:i.size=z.length:=by rw[mW];simp[Program.cellsOf,q1]
   have hby:P.bytesOf e=i.bytes:=by simp[Program.bytesOf,q1]
   have hu:=qs he
   have fe:=run_make (P:=P) E.w t e i v hu q1 q2 uh fB l c a0 h1 (by rw[hby] at h2;omega) (by omega)
   have vF:SimH E (H++[⟨0,z.length,List.replicate l.toNat (z.map lC)⟩]):=aV.snoc rfl
   obtain⟨tM,pH⟩:=aV.fresh H.length (Nat.le_refl _)
   have IG:l.toNat≤c.toNat:=by omega
   obtain⟨E',bF,e2,dN,h0,hy,lL,xN,rH,_,hml⟩:=uo (H:=H++[⟨0,z.length,List.replicate l.toNat (z.map lC)⟩]) (H':=H++[⟨0,z.length,List.replicate l.toNat (z.map lC)⟩]) (b:=H.length) (cap:=c.toNat) (blk:=⟨0,z.length,List.replicate l.toNat (z.map lC)⟩) vF bT (l4.alloc E.w (.cells (madeCells v.cells (c.toNat*i.size)) e (0,0)))
    (by simp) (fun _ _=>rfl) (fun _=>rfl) (Nat.le_refl _) (.inl ⟨tM,pH.symm⟩) (by rw[size_madeCells,tJ]) (by simpa using IG)
    ⟨fun h4 row aJ=>by
      have aJ:(List.replicate l.toNat (z.map lC))[h4]?=some row:=aJ
      rw[List.getElem?_replicate] at aJ
      split at aJ
      ·cases aJ;exact List.length_map ..
      ·exact absurd aJ (fun h=>by cases h),
     fun h4 j row a aJ aP=>by
      have aJ:(List.replicate l.toNat (z.map lC))[h4]?=some row:=aJ
      rw[List.getElem?_replicate] at aJ
      split at aJ
      ·rename_i hi
       cases aJ
       have vT:=(List.getElem?_eq_some_iff.1 aP).1
       rw[List.length_map] at vT
       obtain⟨u,hu,hv⟩:=aj.get aP
       refine⟨u,?_,hv⟩
       have bg:h4*z.length+j<c.toNat*z.length:=by
        calc h4*z.length+j<h4*z.length+z.length:=by omega
         _=(h4+1)*z.length:=by rw[Nat.add_mul,Nat.one_mul]
         _≤c.toNat*z.length:=Nat.mul_le_mul_right _ (by omega)
       show(madeCells v.cells (c.toNat*i.size))[h4*z.length+j]?=_
       rw[tJ,Vs _ _ _ bg,sa,show(h4*z.length+j)%z.length=j by rw[Nat.mul_comm,Nat.mul_add_mod,Nat.mod_eq_of_lt vT],←hu,Array.getElem?_toList,getElem!_pos v.cells j (by omega),Array.getElem?_eq_getElem]
      ·exact absurd aJ (fun h=>by cases h)⟩
   refine⟨_,_,_,E',_,hK,by rw[fe,bF],e2,dN,h0,.inr ⟨hy.symm,.inr ⟨E.w.heap.size,c.toNat,lL,by rw[Nat.zero_mul],IG,(fun h=>by cases h),by rw[rH];omega⟩⟩,hml⟩
  | _=>exact h.elim
 | _=>exact h.elim
def sH:List Nat→Option Nat
 | []=>none
 | x::r=>match Nat.ble 1000000 x with
  | true=>some (x - 1000000)
  | false=>sH r
def Vg (uS:Option Nat) (iE:Bool) (n sz:Nat) (rows:List (List AV)) (L:List (Nat×List AV)) (H:List Blk) (K:AV→List (Nat×List AV)→List Blk→Prop):Prop:=match uS with
 | none=>K (.ref H.length 0 0 n iE) L (H++[⟨0,sz,rows⟩])
 | some j=>cJ H[j]? fun blk=>K (.ref j (blk.bI+1) 0 n true) L (H.set j ⟨blk.bI+1,sz,rows⟩)
def rN (esc:List Nat) (dst:Option Nat):Bool:=match dst with
 | none=>false
 | some d=>esc.any fun x=>Nat.beq x (500000+d)
def rE (P:Program) (fr:Bool) (uS:Option Nat) (t:TypeId) (n:Nat) (parts:List (Nat×AV)) (L:List (Nat×List AV)) (H:List Blk) (K:AV→List (Nat×List AV)→List Blk→Prop):Prop:=
 cJ (il P t) fun e=>cJ (l2 P e) fun z=>if z.length=P.cellsOf e∧n*z.length≤1000000∧n≤1000000 then
  cJ (nN (fun i=>some (i*z.length,z.length)) ((List.range (n*z.length)).map fun i=>z.getD (i%z.length) .undef) parts) fun cells=>
   if(bif fr then false else cells.all kV)=true then K (.be (chunk z.length n (cells.map m3)) true (cells.all rO)) L H else
   if cells.all ie=true then Vg uS (!fr) n z.length (chunk z.length n cells) L H K else False
 else False
theorem Pv {size n i:Nat} {cells row:List AV} (aI:cells.length=n*size) (aJ:(chunk size n cells)[i]?=some row):row.length=size:=by
 unfold chunk at aJ
 rw[List.getElem?_map] at aJ
 cases aj:(List.range n)[i]? with
 | none=>rw[aj] at aJ;cases aJ
 | some k=>
  have hk:=(List.getElem?_eq_some_iff.1 aj).1
  have hi:k=i:=by have:=(List.getElem?_eq_some_iff.1 aj).2;simpa using this.symm
  rw[aj] at aJ;cases aJ
  simp only[List.length_take,List.length_drop]
  have b4:i<n:=by simpa using hk
  rw[aI,hi]
  have:(i+1)*size≤n*size:=Nat.mul_le_mul_right _ b4
  rw[Nat.add_mul,Nat.one_mul] at this
  omega
theorem O1 {P:Program} {fr:Bool} {uS:Option Nat} {E:Env} {H:List Blk} {L:List (Nat×List AV)} {t:TypeId} {n:Nat} {parts:List (Nat×AV)} {jB:List (Nat×Value)} {K:AV→List (Nat×List AV)→List Blk→Prop} (aV:SimH E H) (bT:SimL E L)
  (aF:av (fun a b=>a.1=b.1∧V2 E a.2 b.2) parts jB) (h:rE P fr uS t n parts L H K):
  ∃v u L' H' E',K v L' H'∧(Instr.buildSlice t n jB.toArray).run P E.w= .ok u E'.w∧Step E E'∧SimH E' H'∧SimL E' L'∧V3 E' v u∧E'.mL=E.mL:=by
 obtain⟨e,he,h⟩:=e3 h
 obtain⟨z,aQ,h⟩:=e3 h
 split at h
 case isFalse=>exact h.elim
 case isTrue hb=>
 obtain⟨cells,hf,h⟩:=e3 h
 split at h
 case isTrue hby=>
  have hby:cells.all kV=true:=by cases fr with
   | true=>cases hby
   | false=>exact hby
  have hv:te P t n parts (fun r=>K r L H):=by
   refine dG he (dG aQ ?_)
   rw[if_pos hb]
   refine dG hf ?_
   rw[if_pos hby];exact h
  obtain⟨r,u,E',hK,aJ,aj,aS⟩:=GS aV aF hv
  exact⟨r,u,L,H,E',hK,aJ,aj.step,aj.simH aV,aj.simL aV bT,aS,aj.mL⟩
 case isFalse=>
 split at h
 case isFalse=>exact h.elim
 case isTrue hs=>
 obtain⟨gV,dB,fe,hlen⟩:=O4 aF he aQ hb.1 hb.2 hf
 have mR:(chunk z.length n cells).length=n:=by simp[chunk]
 have BX:gV.size=n*z.length:=by have:=dB.1;simp at this;omega
 have nk:s5 E z.length (chunk z.length n cells) gV:=⟨fun i row aJ=>Pv hlen aJ,fun i j row a aJ aP=>by
   obtain⟨hi,vT,hc⟩:=G2 aJ aP
   obtain⟨u,hu,hv⟩:=dB.get hc
   exact⟨u,by rw[Array.getElem?_toList] at hu;exact hu,hv⟩⟩
 cases uS with
 | none=>
  have vF:SimH E (H++[⟨0,z.length,chunk z.length n cells⟩]):=aV.snoc rfl
  obtain⟨tM,pH⟩:=aV.fresh H.length (Nat.le_refl _)
  obtain⟨E',bF,e2,dN,h0,hy,lL,xN,rH,_,hml⟩:=uo (H:=H++[⟨0,z.length,chunk z.length n cells⟩]) (H':=H++[⟨0,z.length,chunk z.length n cells⟩]) (b:=H.length) (cap:=n) (blk:=⟨0,z.length,chunk z.length n cells⟩) vF bT (l4.alloc E.w (.cells gV e (0,0)))
   (by simp) (fun _ _=>rfl) (fun _=>rfl) (Nat.le_refl _) (.inl ⟨tM,pH.symm⟩) BX (by rw[mR];exact Nat.le_refl _) nk
  exact⟨_,_,_,_,E',h,by rw[fe,bF],e2,dN,h0,.inr ⟨hy.symm,.inr ⟨E.w.heap.size,n,lL,by rw[Nat.zero_mul],Nat.le_refl _,(fun _=>rfl),by rw[rH];omega⟩⟩,hml⟩
 | some j=>
  obtain⟨blk,vM,hK⟩:=e3 (show cJ H[j]? fun blk=>K (.ref j (blk.bI+1) 0 n true) L (H.set j ⟨blk.bI+1,z.length,chunk z.length n cells⟩) from h)
  have ni:=(List.getElem?_eq_some_iff.1 vM).1
  have Sd:=aV.eZ j blk vM
  obtain⟨E',bF,e2,dN,h0,hy,lL,xN,rH,_,hml⟩:=uo (H:=H) (H':=H.set j ⟨blk.bI+1,z.length,chunk z.length n cells⟩) (b:=j) (cap:=n) (blk:=⟨blk.bI+1,z.length,chunk z.length n cells⟩) aV bT (l4.alloc E.w (.cells gV e (0,0)))
   (by rw[List.getElem?_set];simp[ni]) (fun ca dA=>by rw[List.getElem?_set,if_neg (fun e=>dA e.symm)]) (fun _=>by simp) (by simp) (.inr (by show E.bI j<blk.bI+1;omega)) BX (by rw[mR];exact Nat.le_refl _) nk
  exact⟨_,_,_,_,E',hK,by rw[fe,bF],e2,dN,h0,.inr ⟨hy.symm,.inr ⟨E.w.heap.size,n,lL,by rw[Nat.zero_mul],Nat.le_refl _,(fun _=>rfl),by rw[rH];omega⟩⟩,hml⟩
end Go.Proofs.Ytglpfccgmfhkdaa.Fw
/- The framework, part O: a call that answers with blocks of its own; a call that writes. -/
set_option linter.unusedVariables false
namespace Go.Proofs.Ytglpfccgmfhkdaa.Fw
open Go
def od:AV→Bool
 | .be _ _ fr=>fr
 | .e6 _ _ | .cZ _ _ | .agg _ | .tup _ | .fn _ _=>false
 | _=>true
def hV (k:Nat):AV→AV
 | .ref b g o n f=> .ref (k+b) g o n f
 | .ptr b g r c=> .ptr (k+b) g r c
 | a=>a
def uy:AV→Bool
 | .agg l=>l.all od
 | a=>od a
def mu (k:Nat):AV→AV
 | .agg l=> .agg (l.map (hV k))
 | a=>hV k a
def uz:AV→Bool
 | .tup l=>l.all uy
 | a=>uy a
def lB (k:Nat):AV→AV
 | .tup l=> .tup (l.map (mu k))
 | a=>mu k a
def kj (k:Nat) (b:Blk):Blk:=⟨b.bI,b.sz,b.rows.map fun row=>row.map (hV k)⟩
def qX (H:List Blk):Bool:=H.all fun b=>b.rows.all fun row=>row.all od
def Env.join (E E1:Env) (n:Nat):Env:=
 {w:=E1.w,PA:=fun c=>E.PA c∨E1.PF c,PF:=fun c=>E.PF c∨E1.PF c
  m:=fun b=>if b<n then E.m b else E1.m (b - n),bI:=fun b=>if b<n then E.bI b else E1.bI (b - n)
  sz:=fun b=>if b<n then E.sz b else E1.sz (b - n),cp:=fun b=>if b<n then E.cp b else E1.cp (b - n),mL:=E.mL}
section
variable {E E1:Env} {n:Nat}
theorem Uz {b:Nat} (h:b<n):(E.join E1 n).m b=E.m b∧(E.join E1 n).bI b=E.bI b∧(E.join E1 n).sz b=E.sz b∧(E.join E1 n).cp b=E.cp b:=⟨if_pos h,if_pos h,if_pos h,if_pos h⟩
theorem C1 (b:Nat):(E.join E1 n).m (n+b)=E1.m b∧(E.join E1 n).bI (n+b)=E1.bI b∧(E.join E1 n).sz (n+b)=E1.sz b∧(E.join E1 n).cp (n+b)=E1.cp b:=by
 have h: ¬n+b<n:=by omega
 have e:n+b - n=b:=by omega
 refine⟨?_,?_,?_,?_⟩<;>(unfold Env.join;simp only[if_neg h,e])
theorem C2 {E':Env} (hC:E'=E.join E1 n) {a:AV} {v:Value} (ax:od a=true) (hv:cG E1 a v):cG E' (hV n a) v:=by
 have mV: ∀{a:AV} {v:Value},od a=true→bD E1.w E1.PA E1.PF a v→bD E'.w E'.PA E'.PF a v:=by
  intro a v ax h
  subst hC
  cases h with
  | undef=>exact .undef _
  | int=>exact .int _ _
  | bool=>exact .bool _
  | str=>exact .str _
  | fu=>exact .fu
  | fP=>exact .fP
  | @be _ _ PB rows full fresh A cap sz vs fV gD gQ cH eP dB=>
   have hf:fresh=true:=ax
   refine .be (PB:=PB) (sz:=sz) (vs:=vs) (fun c hc=> ?_) gD gQ cH eP dB
   have:=fV c hc
   rw[if_pos hf] at this ⊢
   exact .inr this
  | cZ=>cases ax
  | fn=>cases ax
 cases a with
 | ref b g off m full=>
  subst hC
  obtain⟨eQ,a7,mX,qO⟩:=C1 (E:=E) (E1:=E1) (n:=n) b
  show fa (E.join E1 n) (.ref (n+b) g off m full) v
  rcases(show fa E1 (.ref b g off m full) v from hv) with⟨h,k⟩ | ⟨h,k⟩
  ·exact .inl ⟨by rw[a7];exact h,k⟩
  ·refine .inr ⟨by rw[a7];exact h,?_⟩
   rw[eQ,mX,qO];exact k
 | ptr b g r c=>
  subst hC
  obtain⟨eQ,a7,mX,qO⟩:=C1 (E:=E) (E1:=E1) (n:=n) b
  show fa (E.join E1 n) (.ptr (n+b) g r c) v
  rcases(show fa E1 (.ptr b g r c) v from hv) with⟨h,k⟩ | ⟨h,k⟩
  ·exact .inl ⟨by rw[a7];exact h,k⟩
  ·refine .inr ⟨by rw[a7];exact h,?_⟩
   rw[eQ,mX];exact k
 | e6 t c=>cases ax
 | fn f c=>cases ax
 | agg l=>cases ax
 | tup l=>cases ax
 | cZ l c=>cases ax
 | undef=>exact bD.undef _
 | int k m=>exact mV (a:= .int k m) rfl hv
 | bool b=>exact mV (a:= .bool b) rfl hv
 | str s=>exact mV (a:= .str s) rfl hv
 | be rows full fr=>exact mV (a:= .be rows full fr) ax hv
 | fu=>exact mV (a:= .fu) rfl hv
 | fP=>exact mV (a:= .fP) rfl hv
theorem Kc {E':Env} (hC:E'=E.join E1 n) {a:AV} {v:Value} (ax:uy a=true) (hv:V2 E1 a v):V2 E' (mu n a) v:=by
 by_cases hf: ∃l,a= .agg l
 ·obtain⟨l,rfl⟩:=hf
  obtain⟨vs,rfl,aF⟩:=hv
  refine⟨vs,rfl,by rw[List.length_map];exact aF.1,fun i x u hx hu=> ?_⟩
  rw[List.getElem?_map] at hx
  cases aI:l[i]? with
  | none=>simp[aI] at hx
  | some y=>
   simp[aI] at hx;subst hx
   exact C2 hC (List.all_eq_true.1 (show l.all od=true from ax) y (List.mem_of_getElem? aI)) (aF.2 i y u aI hu)
 ·have bF:mu n a=hV n a:=by cases a<;>first | rfl | exact absurd ⟨_,rfl⟩ hf
  have e2:uy a=od a:=by cases a<;>first | rfl | exact absurd ⟨_,rfl⟩ hf
  rw[om fun l e=>hf ⟨l,e⟩] at hv
  rw[bF]
  exact oo (C2 hC (e2▸ax) hv)
theorem UA {E':Env} (hC:E'=E.join E1 n) {a:AV} {v:Value} (ax:uz a=true) (hv:V3 E1 a v):V3 E' (lB n a) v:=by
 by_cases hf: ∃l,a= .tup l
 ·obtain⟨l,rfl⟩:=hf
  obtain⟨vs,rfl,aF⟩:=hv
  refine⟨vs,rfl,by rw[List.length_map];exact aF.1,fun i x u hx hu=> ?_⟩
  rw[List.getElem?_map] at hx
  cases aI:l[i]? with
  | none=>simp[aI] at hx
  | some y=>
   simp[aI] at hx;subst hx
   exact Kc hC (List.all_eq_true.1 (show l.all uy=true from ax) y (List.mem_of_getElem? aI)) (aF.2 i y u aI hu)
 ·have bF:lB n a=mu n a:=by cases a<;>first | rfl | exact absurd ⟨_,rfl⟩ hf
  have e2:uz a=uy a:=by cases a<;>first | rfl | exact absurd ⟨_,rfl⟩ hf
  rw[nF fun l e=>hf ⟨l,e⟩] at hv
  rw[bF]
  exact oq (Kc hC (e2▸ax) hv)
end
theorem Pj {P:Program} {f:FuncId} {args dK:List AV} {L:List (Nat×List AV)} {H:List Blk} {E:Env} {vs:List Value} {Q:AV→List Blk→Prop} (aV:SimH E H) (bT:SimL E L)
  (a6:av (V2 E) args vs) (hs:av (ck L H) args dK) (h:dj P f dK [] fun r eI=>uz r=true∧qX eI=true∧Q r eI):
  Calls P f vs.toArray E.w fun e w'=> ∃r v eI E',e= .returned v∧Q r eI∧E'.w=w'∧Step E E'∧SimH E' (H++eI.map (kj H.length))∧SimL E' L∧V3 E' (lB H.length r) v∧E'.mL=E.mL:=by
 have rQ:av (V2 E.frozen) dK vs:=⟨hs.1▸a6.1,fun i x u hx hu=>by
  have bg:i<args.length:=by have:=(List.getElem?_eq_some_iff.1 hx).1;have:=hs.1;omega
  have aI:=List.getElem?_eq_getElem bg
  exact Mr (Sub.refl L H) aV bT (hs.2 i _ x aI hx) (a6.2 i _ u aI hu)⟩
 refine(h.2 E.frozen vs (fun _=>rfl) (HV aV) rQ).mono ?_
 rintro e w' ⟨r,v,eI,E1,rfl,⟨ax,vY,aJ⟩,rfl,aC,e9,hv,bd⟩
 have vJ: ∀c,E1.PF c→E.w.heap.size≤c∧c<E1.w.heap.size:=fun c hc=>⟨(bd.fF c hc).elim (fun h=>h.elim) id,e9.eG c (e9.ep c hc)⟩
 have tA: ∀c,E1.gg c→E.w.heap.size≤c∧c<E1.w.heap.size:=fun c hc=>⟨(bd.hO c hc).elim (fun⟨b,hb⟩=>by cases hb) id,e9.gF c hc⟩
 have nj: ∀c,c<E.w.heap.size→E1.w.heap[c]?=E.w.heap[c]?:=fun c hc=>bd.ey c hc (fun⟨b,hb⟩=>by cases hb) (fun⟨b,hb⟩=>by cases hb)
 have kw:=aV.gF
 have jm:=aV.gu
 generalize hC:E.join E1 H.length=E'
 have mi: ∀b,b<H.length→E'.m b=E.m b∧E'.bI b=E.bI b∧E'.sz b=E.sz b∧E'.cp b=E.cp b:=fun b hb=>hC▸Uz hb
 have g3: ∀b,E'.m (H.length+b)=E1.m b∧E'.bI (H.length+b)=E1.bI b∧E'.sz (H.length+b)=E1.sz b∧E'.cp (H.length+b)=E1.cp b:=fun b=>hC▸C1 b
 have mj:E'.w=E1.w:=by rw[←hC];rfl
 have ug: ∀c,E'.PA c↔E.PA c∨E1.PF c:=fun c=>by rw[←hC];exact Iff.rfl
 have C0: ∀c,E'.PF c↔E.PF c∨E1.PF c:=fun c=>by rw[←hC];exact Iff.rfl
 have qP:E'.mL=E.mL:=by rw[←hC];rfl
 have split: ∀b,b<H.length∨ ∃k,b=H.length+k:=fun b=>by
  rcases Nat.lt_or_ge b H.length with h | h
  ·exact .inl h
  ·exact .inr ⟨b - H.length,by omega⟩
 have VG: ∀b x,E.m b=some x→b<H.length:=fun b x hb=>by
  rcases Nat.lt_or_ge b H.length with h | h
  ·exact h
  ·rw[(aV.fresh b h).1] at hb;cases hb
 have nl: ∀c,E'.gg c→E.gg c∨E1.gg c:=fun c ⟨b,hb⟩=>by
  rcases split b with h | ⟨k,rfl⟩
  ·exact .inl ⟨b,by rw[←(mi b h).1];exact hb⟩
  ·exact .inr ⟨k,by rw[←(g3 k).1];exact hb⟩
 have gr:Step E E':=
  {le:=⟨fun c hc=>(ug c).2 (.inl hc),fun c hc=>(C0 c).2 (.inl hc),fun c hc=>by rw[mj];exact nj c (aV.eG c hc),fun c hc=>by rw[mj];exact nj c (aV.eG c (aV.ep c hc)),fun b=>by
     rcases split b with h | ⟨k,rfl⟩
     ·rw[(mi b h).2.1];exact Nat.le_refl _
     ·rw[(aV.fresh (H.length+k) (by omega)).2];exact Nat.zero_le _,fun b x hx _=>by
     have h:=VG b x hx
     exact⟨by rw[(mi b h).1];exact hx,(mi b h).2.2.1,(mi b h).2.2.2⟩,fun t c h=>by rw[qP];exact h⟩
   os:=by rw[mj];exact bd.os
   tape:=by rw[mj];exact bd.tape
   output:=by rw[mj];exact bd.output
   size:=by rw[mj];exact bd.size
   ey:=fun c hc _ _=>by rw[mj];exact nj c hc
   hO:=fun c hc=>(nl c hc).elim .inl fun h=> .inr (tA c h).1
   j9:=fun c ⟨t,bu⟩=> .inl ⟨t,by rw[←qP];exact bu⟩
   fE:=fun c hc=>((ug c).1 hc).elim .inl fun h=> .inr (vJ c h).1
   fF:=fun c hc=>((C0 c).1 hc).elim .inl fun h=> .inr (vJ c h).1}
 have Bh: ∀b,b<H.length→(H++eI.map (kj H.length))[b]?=H[b]?:=fun b hb=>List.getElem?_append_left hb
 have Bg: ∀k,(H++eI.map (kj H.length))[H.length+k]?=(eI[k]?).map (kj H.length):=fun k=>by
  rw[List.getElem?_append_right (by omega),List.getElem?_map];congr 2;omega
 refine⟨r,v,eI,E',rfl,aJ,mj,gr,?_,?_,UA hC.symm ax hv,qP⟩
 ·exact{
   heap:=fun b c hb=>by
    rcases split b with h | ⟨k,rfl⟩
    ·obtain⟨eQ,a7,mX,qO⟩:=mi b h
     rw[eQ] at hb
     obtain⟨blk,ba,ty,q1,dX,q2,q3,q4,cx,cT⟩:=aV.heap b c hb
     refine⟨blk,ba,ty,by rw[Bh b h];exact q1,by rw[mX];exact dX,by rw[mj,nj c (kw c ⟨b,hb⟩)];exact q2,by rw[mX,qO];exact q3,by rw[qO];exact q4,by rw[mX];exact cx,fun i j row a aJ aP=> ?_⟩
     obtain⟨u,hu,BW⟩:=cT i j row a aJ aP
     exact⟨u,by rw[mX];exact hu,BW.le gr.le.b6⟩
    ·obtain⟨eQ,a7,mX,qO⟩:=g3 k
     rw[eQ] at hb
     obtain⟨blk,ba,ty,q1,dX,q2,q3,q4,cx,cT⟩:=e9.heap k c hb
     have Sw: ∀row∈blk.rows,∀a∈row,od a=true:=fun row aJ a a6=>
      List.all_eq_true.1 (List.all_eq_true.1 (List.all_eq_true.1 vY blk (List.mem_of_getElem? q1)) row aJ) a a6
     refine⟨kj H.length blk,ba,ty,by rw[Bg k,q1];rfl,by rw[mX];exact dX,by rw[mj];exact q2,by rw[mX,qO];exact q3,by rw[qO];show(blk.rows.map _).length≤_;rw[List.length_map];exact q4,fun i row' aJ=> ?_,fun i j row' hp aJ aP=> ?_⟩
     ·have aJ:(blk.rows.map fun row=>row.map (hV H.length))[i]?=some row':=aJ
      rw[List.getElem?_map] at aJ
      cases aj:blk.rows[i]? with
      | none=>simp[aj] at aJ
      | some row=>
       simp[aj] at aJ;subst aJ
       rw[List.length_map,mX];exact cx i row aj
     ·have aJ:(blk.rows.map fun row=>row.map (hV H.length))[i]?=some row':=aJ
      rw[List.getElem?_map] at aJ
      cases aj:blk.rows[i]? with
      | none=>simp[aj] at aJ
      | some row=>
       simp[aj] at aJ;subst aJ
       rw[List.getElem?_map] at aP
       cases lR:row[j]? with
       | none=>simp[lR] at aP
       | some a=>
        simp[lR] at aP;subst aP
        obtain⟨u,hu,BW⟩:=cT i j row a aj lR
        refine⟨u,by rw[mX];exact hu,?_⟩
        have Ia:E'.b6=E.b6.join E1.b6 H.length:=by rw[←hC];rfl
        exact C2 Ia (Sw row (List.mem_of_getElem? aj) a (List.mem_of_getElem? lR)) BW
   eZ:=fun b blk hb=>by
    rcases split b with h | ⟨k,rfl⟩
    ·rw[Bh b h] at hb;rw[(mi b h).2.1];exact aV.eZ b blk hb
    ·rw[Bg k] at hb
     cases aj:eI[k]? with
     | none=>simp[aj] at hb
     | some y=>simp[aj] at hb;subst hb;rw[(g3 k).2.1];exact e9.eZ k y aj
   hE:=fun b hb=>by
    rcases split b with h | ⟨k,rfl⟩
    ·rw[(mi b h).1] at hb
     obtain⟨blk,q1,q2⟩:=aV.hE b hb
     exact⟨blk,by rw[Bh b h];exact q1,by rw[(mi b h).2.2.1];exact q2⟩
    ·rw[(g3 k).1] at hb
     obtain⟨blk,q1,q2⟩:=e9.hE k hb
     exact⟨kj H.length blk,by rw[Bg k,q1];rfl,by rw[(g3 k).2.2.1];exact q2⟩
   fresh:=fun b hb=>by
    rw[List.length_append,List.length_map] at hb
    rcases split b with h | ⟨k,rfl⟩
    ·omega
    ·rw[(g3 k).1,(g3 k).2.1];exact e9.fresh k (by omega)
   iq:=fun b ca c h1 h2=>by
    rcases split b with h | ⟨k,rfl⟩<;>rcases split ca with h' | ⟨jO,rfl⟩
    ·rw[(mi b h).1] at h1;rw[(mi ca h').1] at h2;exact aV.iq b ca c h1 h2
    ·rw[(mi b h).1] at h1;rw[(g3 jO).1] at h2
     have:=kw c ⟨b,h1⟩;have:=(tA c ⟨jO,h2⟩).1;omega
    ·rw[(g3 k).1] at h1;rw[(mi ca h').1] at h2
     have:=kw c ⟨ca,h2⟩;have:=(tA c ⟨k,h1⟩).1;omega
    ·rw[(g3 k).1] at h1;rw[(g3 jO).1] at h2;rw[e9.iq k jO c h1 h2]
   iH:=fun t iO c h1 h2=>by rw[qP] at h1 h2;exact aV.iH t iO c h1 h2
   g2:=fun b t c h1 h2=>by
    rw[qP] at h2
    rcases split b with h | ⟨k,rfl⟩
    ·rw[(mi b h).1] at h1;exact aV.g2 b t c h1 h2
    ·rw[(g3 k).1] at h1
     have:=jm c ⟨t,h2⟩;have:=(tA c ⟨k,h1⟩).1;omega
   h7:=fun c hc hi=>by
    rcases(ug c).1 hc with h | h<;>rcases nl c hi with h' | h'
    ·exact aV.h7 c h h'
    ·have:=aV.eG c h;have:=(tA c h').1;omega
    ·have:=kw c h';have:=(vJ c h).1;omega
    ·exact e9.h7 c (e9.ep c h) h'
   h8:=fun c hc ⟨t,bu⟩=>by
    rw[qP] at bu
    rcases(ug c).1 hc with h | h
    ·exact aV.h8 c h ⟨t,bu⟩
    ·have:=jm c ⟨t,bu⟩;have:=(vJ c h).1;omega
   ep:=fun c hc=>(ug c).2 (((C0 c).1 hc).elim (fun h=> .inl (aV.ep c h)) .inr)
   eG:=fun c hc=>by
    rw[mj]
    rcases(ug c).1 hc with h | h
    ·exact Nat.lt_of_lt_of_le (aV.eG c h) bd.size
    ·exact(vJ c h).2
   gF:=fun c hc=>by
    rw[mj]
    rcases nl c hc with h | h
    ·exact Nat.lt_of_lt_of_le (kw c h) bd.size
    ·exact(tA c h).2
   gu:=fun c ⟨t,bu⟩=>by
    rw[qP] at bu;rw[mj]
    exact Nat.lt_of_lt_of_le (jm c ⟨t,bu⟩) bd.size}
 ·intro t c hm
  rw[qP] at hm
  obtain⟨cells,ba,ty,q1,q2,q3⟩:=bT t c hm
  exact⟨cells,ba,ty,q1,by rw[mj,nj c (jm c ⟨t,hm⟩)];exact q2,q3.mono fun _ _ k=>k.le gr.le.b6⟩
theorem Pf {P:Program} {f:FuncId} {args:List AV} {L:List (Nat×List AV)} {H:List Blk} {E:Env} {vs:List Value} {Q:AV→List Blk→Prop} (aV:SimH E H) (bT:SimL E L)
  (a6:av (V2 E) args vs) (aC:args.all jq=true) (h:dj P f args H fun r H'=>us r=true∧Q r H'):
  Calls P f vs.toArray E.w fun e w'=> ∃r v H' E',e= .returned v∧Q r H'∧E'.w=w'∧Step E E'∧SimH E' H'∧SimL E' L∧V3 E' r v∧E'.mL=E.mL:=by
 have rQ:av (V2 E.b6) args vs:=⟨a6.1,fun i a v h1 h2=>(a6.2 i a v h1 h2).b6 (List.all_eq_true.1 aC a (List.mem_of_getElem? h1))⟩
 refine(h.2 E.b6 vs (fun _=>rfl) aV.b6 rQ).mono ?_
 rintro e w' ⟨r,v,H',E1,rfl,⟨Ss,aJ⟩,rfl,yv,e9,hv,bd⟩
 let E':Env:={E1 with mL:=E.mL}
 have Ia:E'.b6=E1.b6:=rfl
 have jm:=aV.gu
 have hO: ∀c,E1.gg c→E.gg c∨E.w.heap.size≤c:=bd.hO
 have Sh: ∀c,E.jN c→E1.w.heap[c]?=E.w.heap[c]?:=fun c hc=>bd.ey c (jm c hc) (fun⟨b,hb⟩=>by
  obtain⟨t,bu⟩:=hc
  exact aV.g2 b t c hb bu) (fun⟨b,hb⟩=>by cases hb)
 have hle:E1.b6.gB E':=Env.yY E'
 have gr:Step E E':=
  {le:=⟨bd.le.fE,bd.le.fF,bd.le.sY,bd.le.wf,bd.le.bI,bd.le.m,fun _ _ h=>h⟩
   os:=bd.os,tape:=bd.tape,output:=bd.output,size:=bd.size
   ey:=fun c hc h1 h2=>bd.ey c hc h1 (fun⟨b,hb⟩=>by cases hb)
   hO:=hO
   j9:=fun c h=> .inl h
   fE:=bd.fE
   fF:=bd.fF}
 refine⟨r,v,H',E',rfl,aJ,rfl,gr,?_,?_,?_,rfl⟩
 ·exact{e9 with
   iH:=aV.iH
   g2:=fun b t c h1 h2=>by
    rcases hO c ⟨b,h1⟩ with⟨ca,h⟩ | h
    ·exact aV.g2 ca t c h h2
    ·have:=jm c ⟨t,h2⟩;omega
   h8:=fun c hc ⟨t,bu⟩=>by
    rcases bd.fE c hc with h | h
    ·exact aV.h8 c h ⟨t,bu⟩
    ·have h:E.w.heap.size≤c:=h
     have:=jm c ⟨t,bu⟩;omega
   gu:=fun c hc=>Nat.lt_of_lt_of_le (jm c hc) bd.size}
 ·intro t c hm
  obtain⟨cells,ba,ty,q1,q2,q3⟩:=bT t c hm
  exact⟨cells,ba,ty,q1,by show E1.w.heap[c]?=_;rw[Sh c ⟨t,hm⟩];exact q2,q3.mono fun _ _ k=>k.le gr.le.b6⟩
 ·exact(hv.b6 Ss).le hle
end Go.Proofs.Ytglpfccgmfhkdaa.Fw
