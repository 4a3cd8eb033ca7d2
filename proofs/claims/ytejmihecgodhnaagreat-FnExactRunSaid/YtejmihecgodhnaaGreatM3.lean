/- The framework, part Fz: a block that is not written any more is told by its content; blocks at the end that nothing leads to are forgotten. -/
import Derived.Test.YtejmihecgodhnaaGreatM2
set_option linter.unusedVariables false
namespace Go.Proofs.YtejmihecgodhnaaGreat.Fw
open Go
theorem anR {H:List Blk} {b j:Nat} {x y:Blk} (h:(H.set b x)[j]?=some y):(j=b∧y=x)∨(j≠b∧H[j]?=some y):=by
 rw[List.getElem?_set] at h
 split at h
 ·rename_i e;subst e
  split at h
  ·cases h;exact .inl ⟨rfl,rfl⟩
  ·cases h
 ·rename_i e;exact .inr ⟨fun h=>e h.symm,h⟩
theorem Uo [j0:cL] {cj E:Env} {H:List Blk} {L:List (Nat×List AV)} (g:Good cj E) (aB:SimH E H) (bB:SimL E L) {b oE sz:Nat} {rows:List (List AV)} (hb:H[b]?=some ⟨oE,sz,rows⟩) (gN:j0.n≤b)
  (hk: ∀row∈rows,∀a∈row,kK a=true∧qt a=true) (eH:rows.length≤4611686018427387904):
  ∃E',E'.w=E.w∧Good cj E'∧SimH E' (H.set b ⟨oE+1,sz,[]⟩)∧SimL E' L∧E.hp E'∧E'.mL=E.mL∧ ∀v full,ft E (.ref b oE 0 rows.length full) v→a1 E'.w E'.PA E'.PF (.aP (rows.map fun row=>row.map kd) false true) v:=by
 have lv:E.bk b=oE:=aB.ff b _ hb
 have te:=(List.getElem?_eq_some_iff.1 hb).1
 let E':Env:={E with PA:=fun c=>E.PA c∨E.m b=some (some c),PF:=fun c=>E.PF c∨E.m b=some (some c),m:=fun j=>if j=b then none else E.m j,bk:=fun j=>if j=b then oE+1 else E.bk j}
 have hm: ∀{j:Nat} {x:Option Nat},E'.m j=some x→j≠b∧E.m j=some x:=fun{j x} h=>by
  have h:(if j=b then none else E.m j)=some x:=h
  split at h
  ·cases h
  ·rename_i e;exact⟨e,h⟩
 have az: ∀{j:Nat},j≠b→E'.bk j=E.bk j:=fun{j} h=>if_neg h
 have hle:E.hp E':=⟨fun _ h=> .inl h,fun _ h=> .inl h,fun _ _=>rfl,fun _ _=>rfl,fun j=>by
   show E.bk j≤(if j=b then oE+1 else E.bk j)
   split
   ·rename_i e;subst e;omega
   ·exact Nat.le_refl _,fun j x hx tg=>by
   have tg:(if j=b then oE+1 else E.bk j)=E.bk j:=tg
   have b7:j≠b:=fun e=>by subst e;rw[if_pos rfl] at tg;omega
   exact⟨by show(if j=b then none else E.m j)=_;rw[if_neg b7];exact hx,rfl,rfl⟩,fun _ _ h=>h⟩
 have cB: ∀c,E.m b=some (some c)→cj.w.heap.size≤c:=fun c hc=>(g.kl b c hc).elim (fun h=>by rw[(g.EJ b gN).1] at h;cases h) id
 have lz:=aB.gi
 refine⟨E',rfl,?_,?_,?_,hle,rfl,?_⟩
 ·exact{g with
   le:=g.le.trans hle
   kl:=fun j c h=>g.kl j c (hm h).2
   kR:=g.kR
   gn:=fun c hc=>hc.elim (g.gn c) fun h=> .inr (cB c h)
   fS:=fun c hc=>hc.elim (g.fS c) fun h=> .inr (cB c h)}
 ·exact{aB with
   heap:=fun j c h=>by
    obtain⟨b7,h⟩:=hm h
    obtain⟨blk,an,ty,q1,cG,q2,q3,q4,cQ,c0⟩:=aB.heap j c h
    refine⟨blk,an,ty,by rw[List.getElem?_set,if_neg (fun e=>b7 e.symm)];exact q1,cG,q2,q3,q4,cQ,fun i k row a h1 h2=> ?_⟩
    obtain⟨u,hu,ak⟩:=c0 i k row a h1 h2
    exact⟨u,hu,ak.le hle.bS⟩
   ff:=fun j blk h=>by
    rcases anR h with⟨rfl,rfl⟩ | ⟨b7,h⟩
    ·exact if_pos rfl
    ·rw[az b7];exact aB.ff j blk h
   h6:=fun j h=>by
    obtain⟨b7,h⟩:=hm h
    obtain⟨blk,q1,q2⟩:=aB.h6 j h
    exact⟨blk,by rw[List.getElem?_set,if_neg (fun e=>b7 e.symm)];exact q1,q2⟩
   fresh:=fun j h=>by
    rw[List.length_set] at h
    have:=aB.fresh j h
    have b7:j≠b:=by omega
    exact⟨by show(if j=b then none else E.m j)=none;rw[if_neg b7];exact this.1,by rw[az b7];exact this.2⟩
   gV:=fun j k c h1 h2=>aB.gV j k c (hm h1).2 (hm h2).2
   ht:=fun j t c h1 h2=>aB.ht j t c (hm h1).2 h2
   iG:=fun c hc ⟨j,ac⟩=>by
    obtain⟨b7,ac⟩:=hm ac
    rcases hc with hc | hc
    ·exact aB.iG c hc ⟨j,ac⟩
    ·exact b7 (aB.gV j b c ac hc)
   jv:=fun c hc ⟨t,aO⟩=>by
    rcases hc with hc | hc
    ·exact aB.jv c hc ⟨t,aO⟩
    ·exact aB.ht b t c hc aO
   dU:=fun c hc=>hc.elim (fun h=> .inl (aB.dU c h)) .inr
   ga:=fun c hc=>hc.elim (aB.ga c) fun h=>by
    obtain⟨_,an,ty,_,_,q,_⟩:=aB.heap b c h
    exact⟨an,ty,q⟩
   eh:=fun c hc=>hc.elim (aB.eh c) fun h=>lz c ⟨b,h⟩
   gi:=fun c ⟨j,ac⟩=>lz c ⟨j,(hm ac).2⟩}
 ·intro t c aO
  obtain⟨cells,an,ty,q1,q2,q3⟩:=bB t c aO
  exact⟨cells,an,ty,q1,q2,q3.mono fun _ _ k=>k.le hle.bS⟩
 ·intro v full hv
  rcases hv with⟨bt,_⟩ | ⟨gO,bt⟩
  ·omega
  ·rcases bt with⟨_,_,lY,A,rfl⟩ | ⟨c,cap,lX,rfl,rq,qA,tf⟩
   ·obtain rfl:rows=[]:=List.eq_nil_of_length_eq_zero lY
    exact a1.aP (rows:=[]) (PB:=fun _=>False) (sz:=0) (vs:=fun _ _=>undef) (fun _ h=>h.elim) ⟨Nat.le_refl _,Nat.zero_le _⟩ (fun _=>rfl) (fun i row h=>by simp at h) (fun h=>by simp at h) (fun i j row a h=>by simp at h)
   ·obtain⟨blk,an,ty,q1,cG,q2,q3,q4,cQ,c0⟩:=aB.heap b c lX
    rw[hb] at q1
    cases q1
    have key:=a1.aP (w:=E.w) (PA:=E'.PA) (PF:=E'.PF) (PB:=E'.PF) (rows:=rows.map fun row=>row.map kd) (full:=false) (fresh:=true) (A:=some ⟨c,0,none⟩) (cap:=cap) (sz:=E.sz b) (vs:=fun i j=>(an[i*E.sz b+j]?).getD undef)
     (fun c hc=>by simpa using hc) (by rw[List.length_map];exact⟨rq,eH⟩) (fun h=>by cases h) (fun i row' ak=> ?_) (fun m0=>⟨c,0,rfl,.inr lX,fun i j hi ac=> ?_⟩) (fun i j row' hB ak ac=> ?_)
    ·rw[List.length_map] at key
     show a1 E.w E'.PA E'.PF _ (.slice (some ⟨c,0*E.sz b,none⟩) rows.length cap)
     rw[Nat.zero_mul];exact key
    ·rw[List.getElem?_map] at ak
     cases U:rows[i]? with
     | none=>simp[U] at ak
     | some row=>simp[U] at ak;subst ak;rw[List.length_map];exact cQ i row U
    ·rw[List.length_map] at hi
     have ak:=List.getElem?_eq_getElem hi
     have au:=cQ i _ ak
     obtain⟨u,hu,_⟩:=c0 i j _ _ ak (List.getElem?_eq_getElem (by rw[au];exact ac))
     rw[Nat.zero_add,cell_of q2 hu,hu];rfl
    ·rw[List.getElem?_map] at ak
     cases U:rows[i]? with
     | none=>simp[U] at ak
     | some row=>
      simp[U] at ak;subst ak
      rw[List.getElem?_map] at ac
      cases mn:row[j]? with
      | none=>simp[mn] at ac
      | some a=>
       simp[mn] at ac;subst ac
       obtain⟨u,hu,hG⟩:=c0 i j row a U mn
       obtain⟨c_,hj⟩:=hk row (List.mem_of_getElem? U) a (List.mem_of_getElem? mn)
       rw[hu]
       exact(acz c_ hj (Gz c_ hG)).mono (fun _ _=>rfl) (fun _ h=>h.elim) (fun c hc=> .inl hc) (fun _ h=>h)
theorem Weak.agx [j0:cL] (i:Nat) {T:List AV} {L:List (Nat×List AV)} {H:List Blk} {b oE sz n:Nat} {full:Bool} {rows:List (List AV)} (cd:T.getD i .undef= .ref b oE 0 n full) (ag:n=rows.length) (hb:H[b]?=some ⟨oE,sz,rows⟩) (gN:j0.n≤b)
  (hk: ∀row∈rows,∀a∈row,kK a=true∧qt a=true) (eH:rows.length≤4611686018427387904):Weak ⟨T,L,H⟩ ⟨T.set i (.aP (rows.map fun row=>row.map kd) false true),L,H.set b ⟨oE+1,sz,[]⟩⟩:=fun cj E tmps g s=>by
 subst ag
 obtain⟨E',hw,az,h1,h2,hle,Vn,hv⟩:=Uo g s.h s.l hb gN hk eH
 refine⟨E',hw,az,h1,h2,fun t=> ?_,by simpa using s.size⟩
 show V3 E' ((T.set i _).getD t .undef) _
 rw[uJ]
 split
 ·rename_i U
  obtain⟨rfl,_⟩:=U
  have aA:V3 E (T.getD i .undef) (tmps.getD i undef):=s.jD i
  rw[cd] at aA
  exact hv _ full aA
 ·exact(s.jD t).le hle
theorem Weak.agw [j0:cL] (t i:Nat) {T:List AV} {L:List (Nat×List AV)} {H:List Blk} {cells:List AV} {b oE sz n:Nat} {full:Bool} {rows:List (List AV)} (hc:eV L t=some cells) (cd:cells.getD i .undef= .ref b oE 0 n full) (ag:n=rows.length) (hb:H[b]?=some ⟨oE,sz,rows⟩) (gN:j0.n≤b)
  (hk: ∀row∈rows,∀a∈row,kK a=true∧qt a=true) (eH:rows.length≤4611686018427387904):Weak ⟨T,L,H⟩ ⟨T,mH L t (cells.set i (.aP (rows.map fun row=>row.map kd) false true)),H.set b ⟨oE+1,sz,[]⟩⟩:=fun cj E tmps g s=>by
 subst ag
 obtain⟨E',hw,az,h1,h2,hle,Vn,hv⟩:=Uo g s.h s.l hb gN hk eH
 refine⟨E',hw,az,h1,fun u c hm=> ?_,fun t=>(s.jD t).le hle,s.size⟩
 rw[Vn] at hm
 obtain⟨hD,an,ty,q1,q2,q3⟩:=s.l u c hm
 show ∃K4 an ty,eV (mH L t _) u=some K4∧_
 rw[DD]
 by_cases hu:u=t
 ·subst hu
  rw[if_pos rfl]
  have EV:eV L u=some hD:=q1
  rw[hc] at EV
  cases EV
  refine⟨_,an,ty,by rw[hc];rfl,by rw[hw];exact q2,by simpa using q3.1,fun j x v hx lC=> ?_⟩
  rw[List.getElem?_set] at hx
  split at hx
  ·rename_i nY
   subst nY
   split at hx
   ·rename_i aQ
    cases hx
    have U_:=List.getElem?_eq_getElem aQ
    have he:cells.getD i .undef=cells[i]:=by rw[List.getD_eq_getElem?_getD,U_];rfl
    have mq:=q3.2 i _ v U_ lC
    rw[←he,cd] at mq
    exact a1.v1 (E:=E'.bS) (hv v full mq)
   ·cases hx
  ·exact(q3.2 j x v hx lC).le hle.bS
 ·rw[if_neg hu]
  exact⟨hD,an,ty,q1,by rw[hw];exact q2,q3.mono fun _ _ k=>k.le hle.bS⟩
def E4 (n:Nat):AV→Bool
 | .ref b _ _ _ _=>Nat.blt b n
 | .ptr b _ _ _=>Nat.blt b n
 | _=>true
def sD (n:Nat):AV→Bool
 | .fn _ caps=>caps.all (E4 n)
 | a=>E4 n a
def BX (n:Nat):AV→Bool
 | .agg l=>l.all (sD n)
 | a=>sD n a
def BY (n:Nat):AV→Bool
 | .tup l=>l.all (BX n)
 | a=>BX n a
def Env.cut (E:Env) (n:Nat):Env:={E with m:=fun j=>if j<n then E.m j else none,bk:=fun j=>if j<n then E.bk j else 0}
section
variable {E:Env} {n:Nat}
theorem Du {j:Nat} (h:j<n):(E.cut n).m j=E.m j∧(E.cut n).bk j=E.bk j:=⟨if_pos h,if_pos h⟩
theorem ft.cut {a:AV} {v:Value} (h:E4 n a=true) (hv:ft E a v):ft (E.cut n) a v:=by
 cases a with
 | ref b g o m f=>
  have hb:b<n:=by rw[←Nat.blt_eq];exact h
  obtain⟨aN,e2⟩:=Du (E:=E) hb
  have hv:(g<E.bk b∧_)∨(g=E.bk b∧_):=hv
  show(g<(E.cut n).bk b∧_)∨(g=(E.cut n).bk b∧_)
  rw[aN,e2];exact hv
 | ptr b g r c=>
  have hb:b<n:=by rw[←Nat.blt_eq];exact h
  obtain⟨aN,e2⟩:=Du (E:=E) hb
  have hv:(g<E.bk b∧_)∨(g=E.bk b∧_):=hv
  show(g<(E.cut n).bk b∧_)∨(g=(E.cut n).bk b∧_)
  rw[aN,e2];exact hv
 | _=>exact hv
theorem b6.cut {a:AV} {v:Value} (h:sD n a=true) (hv:b6 E a v):b6 (E.cut n) a v:=by
 by_cases hf: ∃f caps,a= .fn f caps
 ·obtain⟨f,caps,rfl⟩:=hf
  obtain⟨vs,e,ab⟩:=hv
  exact⟨vs,e,ab.1,fun i x y hx aU=>(ab.2 i x y hx aU).cut (List.all_eq_true.1 (show caps.all (E4 n)=true from h) x (List.mem_of_getElem? hx))⟩
 ·have aA:sD n a=E4 n a:=by cases a<;>first | rfl | exact absurd ⟨_,_,rfl⟩ hf
  rw[sS fun f c e=>hf ⟨f,c,e⟩] at hv ⊢
  exact hv.cut (aA▸h)
theorem V2.cut {a:AV} {v:Value} (h:BX n a=true) (hv:V2 E a v):V2 (E.cut n) a v:=by
 by_cases hf: ∃l,a= .agg l
 ·obtain⟨l,rfl⟩:=hf
  obtain⟨vs,e,ab⟩:=hv
  exact⟨vs,e,ab.1,fun i x y hx aU=>(ab.2 i x y hx aU).cut (List.all_eq_true.1 (show l.all (sD n)=true from h) x (List.mem_of_getElem? hx))⟩
 ·have aA:BX n a=sD n a:=by cases a<;>first | rfl | exact absurd ⟨_,rfl⟩ hf
  rw[rb fun l e=>hf ⟨l,e⟩] at hv ⊢
  exact hv.cut (aA▸h)
theorem V3.cut {a:AV} {v:Value} (h:BY n a=true) (hv:V3 E a v):V3 (E.cut n) a v:=by
 by_cases hf: ∃l,a= .tup l
 ·obtain⟨l,rfl⟩:=hf
  obtain⟨vs,e,ab⟩:=hv
  exact⟨vs,e,ab.1,fun i x y hx aU=>(ab.2 i x y hx aU).cut (List.all_eq_true.1 (show l.all (BX n)=true from h) x (List.mem_of_getElem? hx))⟩
 ·have aA:BY n a=BX n a:=by cases a<;>first | rfl | exact absurd ⟨_,rfl⟩ hf
  rw[rc fun l e=>hf ⟨l,e⟩] at hv ⊢
  exact hv.cut (aA▸h)
end
theorem Weak.cut [j0:cL] (n:Nat) {T:List AV} {L:List (Nat×List AV)} {H:List Blk} (gN:j0.n≤n) (cd: ∀t,BY n (T.getD t .undef)=true) (bB: ∀t cells,eV L t=some cells→cells.all (sD n)=true) (aB: ∀(b:Nat) (blk:Blk),b<n→H[b]?=some blk→ ∀row∈blk.rows,row.all (sD n)=true):
  Weak ⟨T,L,H⟩ ⟨T,L,H.take n⟩:=fun cj E tmps g s=>by
 have h9:SimH E H:=s.h
 have hm: ∀{j:Nat} {x:Option Nat},(E.cut n).m j=some x→j<n∧E.m j=some x:=fun{j x} h=>by
  have h:(if j<n then E.m j else none)=some x:=h
  split at h
  ·rename_i e;exact⟨e,h⟩
  ·cases h
 have get: ∀{j:Nat},j<n→(H.take n)[j]?=H[j]?:=fun{j} h=>by rw[List.getElem?_take,if_pos h]
 refine⟨E.cut n,rfl,?_,?_,?_,fun t=>(s.jD t).cut (cd t),s.size⟩
 ·exact{g with
   le:=⟨g.le.gn,g.le.fS,g.le.xC,g.le.wf,fun b=>by
     show cj.bk b≤(if b<n then E.bk b else 0)
     split
     ·exact g.le.bk b
     ·rw[(g.EJ b (by omega)).2];exact Nat.le_refl _,fun b x hx tg=>by
     have hb:b<n:=by
      rcases Nat.lt_or_ge b n with h | h
      ·exact h
      ·rw[(g.EJ b (by omega)).1] at hx;cases hx
     obtain⟨aN,e2⟩:=Du (E:=E) hb
     rw[e2] at tg
     rw[aN]
     exact g.le.m b x hx tg,g.le.mL⟩
   kl:=fun b c h=>g.kl b c (hm h).2
   kR:=g.kR}
 ·exact{h9 with
   heap:=fun j c h=>by
    obtain⟨ac,h⟩:=hm h
    obtain⟨blk,an,ty,q1,cG,q2,q3,q4,cQ,c0⟩:=h9.heap j c h
    refine⟨blk,an,ty,by rw[get ac];exact q1,cG,q2,q3,q4,cQ,fun i k row a h1 h2=> ?_⟩
    obtain⟨u,hu,ak⟩:=c0 i k row a h1 h2
    exact⟨u,hu,ak.cut (List.all_eq_true.1 (aB j blk ac q1 row (List.mem_of_getElem? h1)) a (List.mem_of_getElem? h2))⟩
   ff:=fun j blk h=>by
    have ac:j<n:=by
     rcases Nat.lt_or_ge j n with q | q
     ·exact q
     ·rw[List.getElem?_take,if_neg (by omega)] at h;cases h
    rw[(Du (E:=E) ac).2]
    rw[get ac] at h;exact h9.ff j blk h
   h6:=fun j h=>by
    obtain⟨ac,h⟩:=hm h
    obtain⟨blk,q1,q2⟩:=h9.h6 j h
    exact⟨blk,by rw[get ac];exact q1,q2⟩
   fresh:=fun j h=>by
    rw[List.length_take] at h
    rcases Nat.lt_or_ge j n with q | q
    ·obtain⟨aN,e2⟩:=Du (E:=E) q
     rw[aN,e2];exact h9.fresh j (by omega)
    ·exact⟨if_neg (by omega),if_neg (by omega)⟩
   gV:=fun j k c h1 h2=>h9.gV j k c (hm h1).2 (hm h2).2
   ht:=fun j t c h1 h2=>h9.ht j t c (hm h1).2 h2
   iG:=fun c hc ⟨j,ac⟩=>h9.iG c hc ⟨j,(hm ac).2⟩
   gi:=fun c ⟨j,ac⟩=>h9.gi c ⟨j,(hm ac).2⟩}
 ·intro t c aO
  obtain⟨cells,an,ty,q1,q2,q3⟩:=s.l t c aO
  exact⟨cells,an,ty,q1,q2,q3.1,fun i a u hx hu=>(q3.2 i a u hx hu).cut (List.all_eq_true.1 (bB t cells q1) a (List.mem_of_getElem? hx))⟩
inductive aX where
 | int | u64 | u8 | bool | str | bi | e6 | eO | fQ | e0 | held | frame | done | fault | stays | fU | unit | nat
 | l (e:aX)
 | ptr (e:aX)
 | j4 (f:Nat) (e:aX)
 deriving DecidableEq,Inhabited
@[reducible] def aX.T:aX→Type
 | .int=>Int
 | .u64=>Int
 | .u8=>UInt8
 | .bool=>Bool
 | .str=>ByteArray
 | .bi=>c9
 | .e6=>Way
 | .eO=>aL
 | .fQ=>Event
 | .e0=>bL
 | .held=>av
 | .frame=>Frame
 | .done=>fj
 | .fault=>rZ
 | .stays=>sR
 | .fU=>lj
 | .unit=>Unit
 | .nat=>Nat
 | .l e=>List e.T
 | .ptr e=>e.T
 | .j4 _ e=>e.T
@[reducible] def aX.yR:(e:aX)→Inhabited e.T
 | .int=>inferInstanceAs (Inhabited Int)
 | .u64=>inferInstanceAs (Inhabited Int)
 | .u8=>inferInstanceAs (Inhabited UInt8)
 | .bool=>inferInstanceAs (Inhabited Bool)
 | .str=>inferInstanceAs (Inhabited ByteArray)
 | .bi=>inferInstanceAs (Inhabited c9)
 | .e6=>inferInstanceAs (Inhabited Way)
 | .eO=>inferInstanceAs (Inhabited aL)
 | .fQ=>inferInstanceAs (Inhabited Event)
 | .e0=>inferInstanceAs (Inhabited bL)
 | .held=>inferInstanceAs (Inhabited av)
 | .frame=>inferInstanceAs (Inhabited Frame)
 | .done=>inferInstanceAs (Inhabited fj)
 | .fault=>inferInstanceAs (Inhabited rZ)
 | .stays=>inferInstanceAs (Inhabited sR)
 | .fU=>inferInstanceAs (Inhabited lj)
 | .unit=>inferInstanceAs (Inhabited Unit)
 | .nat=>inferInstanceAs (Inhabited Nat)
 | .l e=>inferInstanceAs (Inhabited (List e.T))
 | .ptr e=>e.yR
 | .j4 _ e=>e.yR
def wV (e:aX) (xs:List e.T) (i:Int):e.T:= @nth e.T e.yR xs i
def cD:List aX→Type
 | []=>Unit
 | e::r=>e.T×cD r
def aX.bN:aX→List aX
 | .bi=>[.int,.int]
 | .e6=>[.l .int,.l .bi,.l .bi,.l .int,.l .int]
 | .eO=>[.int,.l .int,.l .e6,.l (.l .bool),.int]
 | .fQ=>[.int,.int,.int]
 | .e0=>[.int,.int]
 | .held=>[.int,.int,.l .bool,.bool,.int]
 | .frame=>[.bool,.l .bool,.l .e0,.l .held]
 | .done=>[.int,.bool,.l .bool,.l .e0,.l .held]
 | .fault=>[.int,.int]
 | .stays=>[.l .int,.l .int,.l .int]
 | .fU=>[.l .u8,.int,.u64]
 | e=>[e]
def aX.isS:aX→Bool
 | .bi | .e6 | .eO | .fQ | .e0 | .held | .frame | .done | .fault | .stays | .fU=>true
 | _=>false
def aX.mk:(e:aX)→cD e.bN→e.T
 | .bi,(a,b,_)=>⟨a,b⟩
 | .e6,(a,b,c,d,e,_)=>⟨a,b,c,d,e⟩
 | .eO,(a,b,c,d,e,_)=>⟨a,b,c,d,e⟩
 | .fQ,(a,b,c,_)=>⟨a,b,c⟩
 | .e0,(a,b,_)=>⟨a,b⟩
 | .held,(a,b,c,d,e,_)=>⟨a,b,c,d,e⟩
 | .frame,(a,b,c,d,_)=>⟨a,b,c,d⟩
 | .done,(a,b,c,d,e,_)=>⟨a,⟨b,c,d,e⟩⟩
 | .fault,(a,b,_)=>⟨a,b⟩
 | .stays,(a,b,c,_)=>⟨a,b,c⟩
 | .fU,(a,b,c,_)=>⟨a,b,c⟩
 | .int,(a,_)=>a
 | .u64,(a,_)=>a
 | .u8,(a,_)=>a
 | .bool,(a,_)=>a
 | .str,(a,_)=>a
 | .unit,(a,_)=>a
 | .nat,(a,_)=>a
 | .l _,(a,_)=>a
 | .ptr _,(a,_)=>a
 | .j4 _ _,(a,_)=>a
def aX.un:(e:aX)→e.T→cD e.bN
 | .bi,x=>(x.bh,x.bi,())
 | .e6,x=>(x.ao,x.bI,x.cR,x.di,x.ek,())
 | .eO,x=>(x.ao,x.a7,x.O,x.bG,x.cB,())
 | .fQ,x=>(x.op,x.aG,x.bi,())
 | .e0,x=>(x.dR,x.bI,())
 | .held,x=>(x.aF,x.bc,x.ae,x.bW,x.bU,())
 | .frame,x=>(x.ok,x.aE,x.ay,x.O,())
 | .done,x=>(x.code,x.frame.ok,x.frame.aE,x.frame.ay,x.frame.O,())
 | .fault,x=>(x.code,x.pos,())
 | .stays,x=>(x.O,x.ao,x.ay,())
 | .fU,x=>(x.code,x.pos,x.E6,())
 | .int,x=>(x,())
 | .u64,x=>(x,())
 | .u8,x=>(x,())
 | .bool,x=>(x,())
 | .str,x=>(x,())
 | .unit,x=>(x,())
 | .nat,x=>(x,())
 | .l _,x=>(x,())
 | .ptr _,x=>(x,())
 | .j4 _ _,x=>(x,())
theorem aX.acx (e:aX) (x:cD e.bN):e.un (e.mk x)=x:=by cases e<;>rfl
def cE (fr:Bool):(e:aX)→e.T→List AV
 | .int,x=>cx x
 | .u64,x=>[.int .u64 x]
 | .u8,x=>GU x
 | .bool,x=>aR x
 | .str,x=>Lz x
 | .bi,x=>dd x
 | .e6,x=>dj fr x
 | .eO,x=>bD fr x
 | .fQ,x=>dL x
 | .e0,x=>ba x
 | .held,x=>gE fr x
 | .frame,x=>cq fr x
 | .done,x=>iy fr x
 | .fault,x=>Lx x
 | .stays,x=>GS fr x
 | .fU,x=>afk fr x
 | .l e,x=>[.aP (x.map (cE false e)) false fr]
 | .unit,_ | .nat,_ | .ptr _,_ | .j4 _ _,_=>[.undef]
def kM (fr:Bool):(e:aX)→e.T→AV
 | .int,x=> .int .i64 x
 | .u64,x=> .int .u64 x
 | .u8,x=> .int .u8 x.toNat
 | .bool,x=> .bool x
 | .str,x=> .str x
 | .l e,x=> .aP (x.map (cE false e)) false fr
 | _,_=> .undef
def j5 (fr:Bool):(es:List aX)→cD es→List AV
 | [],_=>[]
 | e::r,x=>kM fr e x.1::j5 fr r x.2
theorem pv (fr:Bool) (e:aX) (x:e.T):j5 fr e.bN (e.un x)=cE fr e x:=by
 cases e<;>first | rfl | (simp only[aX.bN,aX.un,j5,kM,cE];rfl)
def aX.nD:aX→Nat
 | .bi=>2
 | .e6=>5
 | .eO=>5
 | .fQ=>3
 | .e0=>2
 | .held=>5
 | .frame=>4
 | .done=>5
 | .fault=>2
 | .stays=>3
 | .fU=>3
 | _=>1
theorem x4 (fr:Bool) (e:aX) (x:e.T):(cE fr e x).length=e.nD:=by cases e<;>rfl
def aX.rC:aX→Bool
 | .unit | .nat | .ptr _ | .j4 _ _=>false
 | _=>true
theorem afs {fr:Bool} {e:aX} (h:e.rC=true) (x:e.T):(cE fr e x).all kb=true:=by cases e<;>first | rfl | cases h
inductive eK where
 | t | f
 | v (b:Bool)
 | at(i:Nat) (b:Bool)
 | n (x:eK)
 | cu (x y:eK)
 | or (x y:eK)
 | ite (c x y:eK)
 | Aq (x y:eK)
 | ne (x y:eK)
 deriving Inhabited
def eK.den:eK→Bool
 | .t=>true
 | .f=>false
 | .v b=>b
 | .at _ b=>b
 | .n x=> !x.den
 | .cu x y=>x.den&&y.den
 | .or x y=>x.den || y.den
 | .ite c x y=>bif c.den then x.den else y.den
 | .Aq x y=>x.den==y.den
 | .ne x y=>x.den !=y.den
def eK.not:eK→eK
 | .t=> .f
 | .f=> .t
 | x=> .n x
def eK.zc (b x y:eK):eK:=match x with
 | .t=>(match y with
  | .t=> .t
  | .f=>b
  | y=> .or b y)
 | .f=>(match y with
  | .f=> .f
  | .t=> .n b
  | y=> .cu (.n b) y)
 | x=>(match y with
  | .f=> .cu b x
  | .t=> .or (.n b) x
  | y=> .ite b x y)
theorem eK.ER (b x y:eK):(eK.zc b x y).den=bif b.den then x.den else y.den:=by
 cases x<;>cases y<;>simp only[eK.zc,eK.den]<;>cases b.den<;>simp
inductive TV where
 | u
 | i (k:IntKind) (n:Int)
 | b (x:eK)
 | s (x:ByteArray)
 | l (e:aX) (xs:List e.T) (full fr:Bool)
 | nil (full fr:Bool)
 | ref (b g n:Nat) (full:Bool)
 | ptr (b g:Nat) (i:Int) (n col:Nat)
 | lp (t col:Nat)
 | dv (e:aX) (x:e.T) (col:Nat)
 | agg (c:List TV)
 | tup (c:List TV)
 | fn (f:FuncId) (c:List TV)
 | o (a:AV)
 | blk (g:Nat) (e:aX) (xs:List e.T) (n:Nat) (h:xs.length=n)
 | fo (g:Nat) (c:List TV)
 | lP (g m:Nat) (ids:List Nat)
 | hF (V:List av) (ids:List Nat) (n:Nat) (h:V.length=n)
 | new (id:Nat) (xs:List Bool)
 | Ay (w:Int) (ids:List Nat) (m n:Nat)
 | Ax (w:Int) (ids:List Nat) (m:Nat) (j:Int)
 | EL (id m n:Nat)
 deriving Inhabited
class FZ where
 ws:List av
 bs:List (List Bool)
mutual
def TV.br:TV→AV
 | .u=> .undef
 | .i k n=> .int k n
 | .b x=> .bool x.den
 | .s x=> .str x
 | .l e xs full fr=> .aP (xs.map (cE false e)) full fr
 | .nil full fr=> .aP [] full fr
 | .ref b g n full=> .ref b g 0 n full
 | .ptr b g i _ c=> .ptr b g i.toNat c
 | .lp t c=> .fZ t c
 | .dv e x c=> .dv (cE false e x) c
 | .agg c=> .agg (cW c)
 | .tup c=> .tup (cW c)
 | .fn f c=> .fn f (cW c)
 | .o a=>a
 | .blk _ _ _ _ _=> .undef
 | .fo _ _=> .undef
 | .lP _ _ _=> .undef
 | .hF _ _ _ _=> .undef
 | .new _ _=> .undef
 | .Ay w ids m k=> .ref (nth ids w+m) 0 0 k false
 | .Ax w ids m j=> .ptr (nth ids w+m) 0 j.toNat 0
 | .EL id m k=> .ref (id+m) 0 0 k false
def cW:List TV→List AV
 | []=>[]
 | x::r=>x.br::cW r
end
theorem ql (l:List TV):cW l=l.map TV.br:=by
 induction l with
 | nil=>rfl
 | cons x r bp=>rw[cW,bp];rfl
def TV.eG [Z:FZ]:TV→Blk
 | .blk g e xs _ _=>⟨g,e.nD,xs.map (cE true e)⟩
 | .fo g c=>⟨g,c.length,[cW c]⟩
 | .lP g m ids=>⟨g,5,aW m Z.ws ids⟩
 | _=>⟨0,0,[]⟩
def FH (fr:Bool):(e:aX)→e.T→TV
 | .int,x=> .i .i64 x
 | .u64,x=> .i .u64 x
 | .u8,x=> .i .u8 x.toNat
 | .bool,x=> .b (.v x)
 | .str,x=> .s x
 | .l e,x=> .l e x false fr
 | _,_=> .u
def JX (fr:Bool):(es:List aX)→cD es→List TV
 | [],_=>[]
 | e::r,x=>FH fr e x.1::JX fr r x.2
theorem RZ (fr:Bool) (e:aX) (x:e.T):(FH fr e x).br=kM fr e x:=by cases e<;>rfl
theorem acr (fr:Bool): ∀(es:List aX) (x:cD es),cW (JX fr es x)=j5 fr es x
 | [],_=>rfl
 | e::r,x=>by rw[JX,cW,j5,RZ,acr fr r]
def kL (fr:Bool) (e:aX) (x:e.T):List TV:=JX fr e.bN (e.un x)
theorem GA (fr:Bool) (e:aX) (x:e.T):cW (kL fr e x)=cE fr e x:=by rw[kL,acr,pv]
structure TS where
 T:List (Nat×TV)
 B:List (Nat×TV)
 vs:List (Nat×Nat)
 be:Nat
 deriving Inhabited
def hS:List (Nat×TV)→Nat→TV→TV
 | [],_,d=>d
 | (k,v)::r,t,d=>match Nat.beq k t with
  | true=>v
  | false=>hS r t d
def h4 (v c:Nat):Nat:=1000010+(1000*v+c)
def dO:Nat:=1000000
def gG:Nat:=1000001
def bJ (b:Nat):Nat:=1000000000000+b
def TS.get (s:TS) (k:Nat):TV:=hS s.T k (hS s.B k .u)
def TS.put (s:TS) (k:Nat) (v:TV):TS:=⟨(k,v)::s.T,s.B,s.vs,s.be⟩
def ix (s:TS) (v:Nat):Nat→Nat→List TV
 | _,0=>[]
 | c,m+1=>s.get (h4 v c)::ix s v (c+1) m
def TS.tT (n:Nat) (s:TS):List AV:=(List.range n).map fun t=>(s.get t).br
def TS.cl (s:TS):List (Nat×List AV):=s.vs.map fun p=>(p.1,cW (ix s p.1 0 p.2))
def kp (s:TS):Bool:=match s.get dO with
 | .hF _ _ _ _=>false
 | _=>true
def h0 [Z:FZ] (s:TS):List Blk:=match kp s with
 | true=>[]
 | false=>Z.bs.map bj
def TS.gZ [FZ] (s:TS):List Blk:=(List.range s.be).map fun b=>(s.get (bJ b)).eG
def TS.ar [FZ] (n:Nat) (s:TS):St:=⟨s.tT n,s.cl,s.gZ++h0 s⟩
def Fits [Z:FZ] (s:TS):Prop:=
 (∀V ids n h,s.get dO= .hF V ids n h→gB Z.ws ids Z.bs∧view Z.ws ids Z.bs=V∧ ∀id xs,s.get gG= .new id xs→id<Z.bs.length∧Z.bs.getD id []=xs∧ ∀j:Nat,ids[j]?≠some id)
theorem Fits.congr [FZ] {s s':TS} (h:Fits s) (e: ∀k,1000000≤k→k<1000010→s'.get k=s.get k):Fits s':=fun V ids n h' nW=>by
 rw[e dO (by unfold dO;omega) (by unfold dO;omega)] at nW
 obtain⟨h1,h2,bg⟩:=h V ids n h' nW
 refine⟨h1,h2,fun id xs hi=>bg id xs ?_⟩
 rw[←hi,e gG (by unfold gG;omega) (by unfold gG;omega)]
theorem Fits.none [FZ] {s:TS} (h:kp s=true):Fits s:=fun V ids n h' nW=>by
 unfold kp at h;rw[nW] at h;cases h
theorem h5 (k:Nat) (v:TV) (r:List (Nat×TV)) (t:Nat) (d:TV):hS ((k,v)::r) t d=if k=t then v else hS r t d:=by
 show(match Nat.beq k t with
  | true=>v
  | false=>hS r t d)=_
 by_cases h:k=t
 ·subst h;rw[Nat.beq_refl,if_pos rfl]
 ·rw[if_neg h]
  cases hb:Nat.beq k t with
  | true=>exact absurd (Nat.eq_of_beq_eq_true hb) h
  | false=>rfl
theorem y1 (A B:List (Nat×TV)) (t:Nat) (d:TV):hS (A++B) t d=hS A t (hS B t d):=by
 induction A with
 | nil=>rfl
 | cons p r bp=>obtain⟨k,v⟩:=p;rw[List.cons_append,h5,h5,bp]
theorem wM {A:List (Nat×TV)} {t:Nat} {d:TV} (h: ∀v,(t,v) ∉ A):hS A t d=d:=by
 induction A with
 | nil=>rfl
 | cons p r bp=>
  obtain⟨k,v⟩:=p
  rw[h5,if_neg,bp fun w hw=>h w (List.mem_cons_of_mem _ hw)]
  rintro rfl;exact h v (List.mem_cons_self ..)
theorem TS.L8 (s:TS) (k:Nat) (v:TV) (t:Nat):(s.put k v).get t=if k=t then v else s.get t:=h5 ..
inductive aK:Type 1 where
 | l2 (ex:Exit) (s:TS)
 | iv
 | no
 | p (φ:Prop) (t:aK)
 | k9 (φ:Prop) (t:aK)
 | j7 (b:eK) (s:TS) (x y:aK)
 | two (x y:aK)
 | il (x:aK) (eU:List Prop) (b:eK) (y:aK)
 | all (α:Type) (f:α→aK)
 | eq {α:Type} (a b:α) (t:aK)
def s3:List Prop→Prop
 | []=>True
 | φ::r=>match r with
  | []=>φ
  | r=>φ∧s3 r
theorem Tq: ∀{l:List Prop},(∀φ∈l,φ)→s3 l
 | [],_=>trivial
 | [φ],h=>h φ (by simp)
 | φ::ψ::r,h=>⟨h φ (by simp),Tq (l:=ψ::r) fun x hx=>h x (List.mem_cons_of_mem _ hx)⟩
def At (eU:List Prop):eK→List Prop
 | .t=>eU
 | b=>eU++[b.den=true]
def Dw (eU:List Prop) (b:eK):Prop:=s3 (At eU b)
theorem afF {eU:List Prop} {b:eK} (h: ∀φ∈eU,φ) (hb:b.den=true):Dw eU b:=by
 unfold Dw
 refine Tq fun φ e9=> ?_
 unfold At at e9
 split at e9
 ·exact h φ e9
 ·rcases List.mem_append.1 e9 with q | q
  ·exact h φ q
  ·rw[List.mem_singleton.1 q];exact hb
def aK.den:aK→(Exit→TS→Prop)→Prop
 | .l2 ex s,R=>R ex s
 | .iv,_=>True
 | .no,_=>False
 | .p φ t,R=>φ∧t.den R
 | .k9 φ t,R=>φ→t.den R
 | .j7 b _ x y,R=>(b.den=true→x.den R)∧(b.den=false→y.den R)
 | .two x y,R=>x.den R∧y.den R
 | .il x eU b y,R=>x.den R∧(Dw eU b→y.den R)
 | .all _ f,R=> ∀a,(f a).den R
 | .eq a b t,R=>a=b∧t.den R
def aK.bind:aK→(Exit→TS→aK)→aK
 | .l2 ex s,K=>K ex s
 | .iv,_=> .iv
 | .no,_=> .no
 | .p φ t,K=> .p φ (t.bind K)
 | .k9 φ t,K=> .k9 φ (t.bind K)
 | .j7 b s x y,K=> .j7 b s (x.bind K) (y.bind K)
 | .two x y,K=> .two (x.bind K) (y.bind K)
 | .il x eU b y,K=> .il (x.bind K) eU b (y.bind K)
 | .all α f,K=> .all α fun a=>(f a).bind K
 | .eq a b t,K=> .eq a b (t.bind K)
theorem aK.ad4 (t:aK) (K:Exit→TS→aK) (R:Exit→TS→Prop):(t.bind K).den R=t.den fun ex s=>(K ex s).den R:=by
 induction t with
 | l2 ex s=>rfl
 | iv=>rfl
 | no=>rfl
 | p φ t bp=>simp only[aK.bind,aK.den,bp]
 | k9 φ t bp=>simp only[aK.bind,aK.den,bp]
 | j7 b s x y iD ij=>simp only[aK.bind,aK.den,iD,ij]
 | two x y iD ij=>simp only[aK.bind,aK.den,iD,ij]
 | il x eU b y iD ij=>simp only[aK.bind,aK.den,iD,ij]
 | all α f bp=>simp only[aK.bind,aK.den,bp]
 | eq a b t bp=>simp only[aK.bind,aK.den,bp]
theorem aK.uC {t:aK} {R Db:Exit→TS→Prop} (h:t.den R) (k: ∀ex s,R ex s→Db ex s):t.den Db:=by
 induction t with
 | l2 ex s=>exact k _ _ h
 | iv=>trivial
 | no=>exact h
 | p φ t bp=>exact⟨h.1,bp h.2⟩
 | k9 φ t bp=>exact fun q=>bp (h q)
 | j7 b s x y iD ij=>exact⟨fun q=>iD (h.1 q),fun q=>ij (h.2 q)⟩
 | two x y iD ij=>exact⟨iD h.1,ij h.2⟩
 | il x eU b y iD ij=>exact⟨iD h.1,fun q=>ij (h.2 q)⟩
 | all α f bp=>exact fun a=>bp a (h a)
 | eq a b t bp=>exact⟨h.1,bp h.2⟩
inductive gA:Type 1 where
 | iv
 | p (φ:Prop)
 | and (a b:gA)
 | k9 (φ:Prop) (c:gA)
 | all (α:Type) (f:α→gA)
def gA.and' (a b:gA):gA:=match a with
 | .iv=>b
 | a=>match b with
  | .iv=>a
  | b=> .and a b
def gA.A5 (φ:Prop) (c:gA):gA:=match c with
 | .iv=> .iv
 | c=> .k9 φ c
def gA.den:gA→Prop
 | .iv=>True
 | .p φ=>φ
 | .and a b=>a.den∧b.den
 | .k9 φ c=>φ→c.den
 | .all _ f=> ∀a,(f a).den
theorem gA.Gj (a b:gA):(gA.and' a b).den↔a.den∧b.den:=by
 cases a<;>cases b<;>simp[gA.and',gA.den]
theorem gA.H7 (φ:Prop) (c:gA):(gA.A5 φ c).den↔(φ→c.den):=by
 cases c<;>simp[gA.A5,gA.den]
def gA.fact (eU:List Prop) (b:eK) (c:gA):gA:=match At eU b with
 | []=>c
 | φ::r=> .A5 (s3 (φ::r)) c
theorem gA.afG (eU:List Prop) (b:eK) (c:gA):(gA.fact eU b c).den↔(Dw eU b→c.den):=by
 unfold gA.fact Dw
 split
 ·rename_i h;rw[h];simp[s3]
 ·rename_i h;rw[h];exact gA.H7 _ _
def aK.qn:aK→gA
 | .l2 _ _=> .iv
 | .iv=> .iv
 | .no=> .p False
 | .p φ t=> .and' (.p φ) t.qn
 | .k9 φ t=> .A5 φ t.qn
 | .j7 b _ x y=> .and' (.A5 (b.den=true) x.qn) (.A5 (b.den=false) y.qn)
 | .two x y=> .and' x.qn y.qn
 | .il x eU b y=> .and' x.qn (.fact eU b y.qn)
 | .all α f=> .all α fun a=>(f a).qn
 | .eq _ _ t=>t.qn
inductive uj:Type 1 where
 | u
 | v {α:Type} (a:α) (t:uj)
 | n (a b:uj)
 | f {α:Type} (g:α→uj)
def aK.lhs:aK→uj
 | .l2 _ _ | .iv | .no=> .u
 | .p _ t | .k9 _ t=>t.lhs
 | .j7 _ _ x y | .two x y | .il x _ _ y=> .n x.lhs y.lhs
 | .all _ f=> .f fun a=>(f a).lhs
 | .eq a _ t=> .v a t.lhs
def aK.rhs:aK→uj
 | .l2 _ _ | .iv | .no=> .u
 | .p _ t | .k9 _ t=>t.rhs
 | .j7 _ _ x y | .two x y | .il x _ _ y=> .n x.rhs y.rhs
 | .all _ f=> .f fun a=>(f a).rhs
 | .eq _ b t=> .v b t.rhs
theorem aK.full {t:aK} (h:t.qn.den) (e:t.lhs=t.rhs):t.den fun _ _=>True:=by
 induction t with
 | l2 ex s=>trivial
 | iv=>trivial
 | no=>exact h
 | p φ t bp=>
  have h:=(gA.Gj _ _).1 h
  exact⟨h.1,bp h.2 e⟩
 | k9 φ t bp=>exact fun q=>bp ((gA.H7 _ _).1 h q) e
 | j7 b s x y iD ij=>
  have h:=(gA.Gj _ _).1 h
  injection e with aN e2
  exact⟨fun q=>iD ((gA.H7 _ _).1 h.1 q) aN,fun q=>ij ((gA.H7 _ _).1 h.2 q) e2⟩
 | two x y iD ij=>
  have h:=(gA.Gj _ _).1 h
  injection e with aN e2
  exact⟨iD h.1 aN,ij h.2 e2⟩
 | il x eU b y iD ij=>
  have h:=(gA.Gj _ _).1 h
  injection e with aN e2
  exact⟨iD h.1 aN,fun q=>ij ((gA.afG _ _ _).1 h.2 q) e2⟩
 | all α f bp=>
  injection e with _ e
  exact fun a=>bp a (h a) (congrFun e a)
 | eq a b t bp=>
  injection e with _ aN e2
  exact⟨aN,bp h e2⟩
def zd (b:eK) (x y:TV):TV:=match x with
 | .i k n=>(match y with
  | .i kU m=>if k=kU then .i k (bif b.den then n else m) else .u
  | _=> .u)
 | .b x=>(match y with
  | .b y=> .b (eK.zc b x y)
  | _=> .u)
 | .s x=>(match y with
  | .s y=> .s (bif b.den then x else y)
  | _=> .u)
 | _=> .u
def eK.qL:eK→eK→Bool
 | .at i _,.at j _=>Nat.beq i j
 | .t,.t=>true
 | .f,.f=>true
 | .n x,.n y=>x.qL y
 | .cu x y,.cu z w=>x.qL z&&y.qL w
 | .or x y,.or z w=>x.qL z&&y.qL w
 | .ite c x y,.ite d z w=>c.qL d&&x.qL z&&y.qL w
 | .Aq x y,.Aq z w=>x.qL z&&y.qL w
 | .ne x y,.ne z w=>x.qL z&&y.qL w
 | _,_=>false
def OG (x y:TV):Bool:=match x with
 | .b x=>(match y with
  | .b y=>x.qL y
  | _=>false)
 | _=>false
def IL (b:eK) (x y:TV):TV:=match OG x y with
 | true=>x
 | false=>zd b x y
def yY (s s':TS):List (Nat×TV)→List (List (Nat×TV)×List (Nat×TV))
 | []=>[]
 | p::r=>match OG (s.get p.1) (s'.get p.1) with
  | true=>([(p.1,s.get p.1)],[(p.1,s'.get p.1)])::yY s s' r
  | false=>yY s s' r
inductive uq where
 | bad
 | none
 | some (s:TS) (k0:List (List (Nat×TV)×List (Nat×TV)))
def ns {e bX:aX} (h:bX=e) (xs:List bX.T):List e.T:=h▸xs
def L5:(e:aX)→TV→e.T
 | .int,.i _ m=>m
 | .u64,.i _ m=>m
 | .bool,.b x=>x.den
 | .str,.s x=>x
 | .l e,.l bX xs _ _=>if h:bX=e then ns h xs else[]
 | e,_=>e.yR.default
def sd:(es:List aX)→List TV→cD es
 | [],_=>()
 | e::r,v::vs=>(L5 e v,sd r vs)
 | e::r,[]=>(e.yR.default,sd r [])
def tH (c:List TV):lj:=aX.mk .fU (sd aX.fU.bN c)
def Iw:TV→Bool
 | .fo _ _=>true
 | _=>false
def BE (s s':TS):List (Nat×TV)→Bool
 | []=>true
 | (k,_)::r=>match Nat.blt k 1000000 with
  | true=>BE s s' r
  | false=>match Iw (s.get k)&&Iw (s'.get k)&&Nat.ble 1000010 k with
   | true=>BE s s' r
   | false=>false
def amj (b:eK) (x y:TV):TV:=match x with
 | .fo g c=>(match y with
  | .fo _ cv=> .fo g (kL false .fU (bif b.den then tH c else tH cv))
  | _=> .u)
 | _=> .u
def vf (b:eK) (k:Nat) (x y:TV):TV:=match Nat.blt k 1000000 with
 | true=>IL b x y
 | false=>amj b x y
def ane (x y:TV):List (List (Nat×TV)×List (Nat×TV)):=match x with
 | .fo g c=>(match y with
  | .fo dC cv=>[([(g,.agg c)],[(dC,.agg (kL false .fU (tH c)))]),([(0,.agg cv)],[(0,.agg (kL false .fU (tH cv)))])]
  | _=>[])
 | _=>[]
def zh (s s':TS):List (Nat×TV)→List (List (Nat×TV)×List (Nat×TV))
 | []=>[]
 | p::r=>match Nat.blt p.1 1000000 with
  | true=>zh s s' r
  | false=>ane (s.get p.1) (s'.get p.1)++zh s s' r
def G2:List (Nat×Nat)→List (Nat×Nat)→Bool
 | [],[]=>true
 | (a,b)::r,(c,d)::q=>Nat.beq a c&&Nat.beq b d&&G2 r q
 | _,_=>false
def uq.j7 (b:eK) (fb:TS) (x y:uq):uq:=match x with
 | .bad=> .bad
 | .none=>(match y with
  | .bad=> .bad
  | .none=> .none
  | .some s q=> .some ⟨s.T++fb.T,fb.B,s.vs,s.be⟩ ((s.B,fb.T++fb.B)::q))
 | .some s q=>(match y with
  | .bad=> .bad
  | .none=> .some ⟨s.T++fb.T,fb.B,s.vs,s.be⟩ ((s.B,fb.T++fb.B)::q)
  | .some s' vh=>match BE s s' (s.T++s'.T)&&G2 s.vs s'.vs&&Nat.beq s.be s'.be with
   | true=> .some ⟨(s.T++s'.T).map (fun p=>(p.1,vf b p.1 (s.get p.1) (s'.get p.1)))++fb.T,fb.B,s.vs,s.be⟩ ((s.B,fb.T++fb.B)::(s'.B,fb.T++fb.B)::(q++(vh++(yY s s' (s.T++s'.T)++zh s s' (s.T++s'.T)))))
   | false=> .bad)
def aK.oX:aK→uq
 | .l2 ex s=>(match ex with
  | .normal=> .some s []
  | _=> .none)
 | .iv | .no=> .none
 | .p _ t | .k9 _ t | .eq _ _ t=>t.oX
 | .j7 b s x y=>uq.j7 b s x.oX y.oX
 | .two _ _ | .all _ _=> .bad
 | .il x _ _ y=>(match x.oX with
  | .none=>y.oX
  | _=> .bad)
def aK.mX:aK→eK
 | .l2 ex _=>(match ex with
  | .normal=> .t
  | _=> .f)
 | .iv | .no=> .f
 | .p _ t | .k9 _ t | .eq _ _ t=>t.mX
 | .j7 b _ x y=>eK.zc b x.mX y.mX
 | .two _ _ | .all _ _=> .t
 | .il _ _ b y=>(match b with
  | .t=>y.mX
  | b=>eK.zc b y.mX .f)
def aK.facts:aK→List Prop
 | .l2 _ _ | .iv | .no | .two _ _ | .all _ _=>[]
 | .p _ t | .eq _ _ t=>t.facts
 | .k9 φ t=>φ::t.facts
 | .j7 _ _ x y=>(match x.mX with
  | .f=>y.facts
  | _=>match y.mX with
   | .f=>x.facts
   | _=>[])
 | .il _ eU _ y=>eU++y.facts
def SB (x y:TV):Prop:= ∃g c cv,x= .fo g c∧y= .fo g cv∧cW cv=cW c
structure TS.hp (s S:TS):Prop where
 vs:S.vs=s.vs
 be:S.be=s.be
 get: ∀k,S.get k=s.get k∨(k<1000000∧((S.get k).br=(s.get k).br∨(S.get k).br= .undef))∨(1000010≤k∧SB (s.get k) (S.get k))
theorem TS.hp.refl (s:TS):s.hp s:=⟨rfl,rfl,fun _=> .inl rfl⟩
theorem TS.hp.trans {a b c:TS} (h:a.hp b) (k:b.hp c):a.hp c:=⟨k.vs.trans h.vs,k.be.trans h.be,fun t=>by
 rcases k.get t with e | ⟨au,e⟩ | ⟨au,e⟩
 ·rw[e];exact h.get t
 ·refine .inr (.inl ⟨au,?_⟩)
  rcases e with e | e
  ·rcases h.get t with q | ⟨_,q⟩ | ⟨hb,_⟩
   ·rw[e,q];exact .inl rfl
   ·rw[e];exact q
   ·omega
  ·exact .inr e
 ·refine .inr (.inr ⟨au,?_⟩)
  rcases h.get t with q | ⟨hb,_⟩ | ⟨_,q⟩
  ·rw[←q];exact e
  ·omega
  ·obtain⟨g,x,y,aN,e2,dc⟩:=e
   obtain⟨dC,mO,aqA,f1,f2,f3⟩:=q
   rw[aN] at f2
   cases f2
   exact⟨g,mO,y,f1,e2,dc.trans f3⟩⟩
theorem amx {s s':TS} {l:List (Nat×TV)} (h:BE s s' l=true) {k:Nat} {v:TV} (hm:(k,v)∈l) (hk: ¬k<1000000):1000010≤k∧(∃g c,s.get k= .fo g c)∧ ∃g c,s'.get k= .fo g c:=by
 induction l with
 | nil=>cases hm
 | cons p r bp=>
  obtain⟨a,w⟩:=p
  unfold BE at h
  split at h
  ·rename_i aw
   rcases List.mem_cons.1 hm with e | hm
   ·cases e;exact absurd (by rw[←Nat.blt_eq];exact aw) hk
   ·exact bp h hm
  ·split at h
   ·rename_i hc
    rcases List.mem_cons.1 hm with e | hm
    ·cases e
     simp only[Bool.and_eq_true] at hc
     have ZT: ∀x:TV,Iw x=true→ ∃g c,x= .fo g c:=fun x hx=>by
      unfold Iw at hx
      split at hx
      ·exact⟨_,_,rfl⟩
      ·cases hx
     exact⟨Nat.le_of_ble_eq_true hc.2,ZT _ hc.1.1,ZT _ hc.1.2⟩
    ·exact bp h hm
   ·cases h
theorem ZR {s s':TS}: ∀{l:List (Nat×TV)},(∀p∈zh s s' l,p.1=p.2)→ ∀k v,(k,v)∈l→ ¬k<1000000→ ∀(g:Nat) (c:List TV) (dC:Nat) (cv:List TV),s.get k= .fo g c→s'.get k= .fo dC cv→g=dC∧c=kL false .fU (tH c)∧cv=kL false .fU (tH cv)
 | [],_,k,v,h,_=>by cases h
 | p::r,U,k,v,h,hk=>fun g c dC cv aN e2=>by
  unfold zh at U
  rcases List.mem_cons.1 h with e | h
  ·cases e
   have hb:Nat.blt k 1000000=false:=by
    cases hb:Nat.blt k 1000000 with
    | true=>rw[Nat.blt_eq] at hb;exact absurd hb hk
    | false=>rfl
   simp only[hb,aN,e2] at U
   have q1:=U _ (List.mem_append_left _ (List.mem_cons_self ..))
   have q2:=U _ (List.mem_append_left _ (List.mem_cons_of_mem _ (List.mem_cons_self ..)))
   injection q1 with J _
   injection q2 with a2 _
   have b1:=(Prod.mk.inj J)
   have b2:=(Prod.mk.inj a2)
   exact⟨b1.1,TV.agg.inj b1.2,TV.agg.inj b2.2⟩
  ·refine ZR (fun q hm=>U q ?_) k v h hk g c dC cv aN e2
   split
   ·exact hm
   ·exact List.mem_append_right _ hm
theorem TL: ∀{l m:List (Nat×Nat)},G2 l m=true→l=m
 | [],[],_=>rfl
 | [],_::_,h=>by cases h
 | _::_,[],h=>by cases h
 | (a,b)::r,(c,d)::q,h=>by
  simp only[G2,Bool.and_eq_true] at h
  rw[Nat.eq_of_beq_eq_true h.1.1,Nat.eq_of_beq_eq_true h.1.2,TL h.2]
theorem amT {b:eK} {x y:TV} (h:b.den=true):(zd b x y).br=x.br∨(zd b x y).br= .undef:=by
 unfold zd
 split
 ·split
  ·split
   ·left;simp[TV.br,h]
   ·exact .inr rfl
  ·exact .inr rfl
 ·split
  ·left;simp[TV.br,eK.ER,h]
  ·exact .inr rfl
 ·split
  ·left;simp[TV.br,h]
  ·exact .inr rfl
 ·exact .inr rfl
theorem amS {b:eK} {x y:TV} (h:b.den=false):(zd b x y).br=y.br∨(zd b x y).br= .undef:=by
 unfold zd
 split
 ·split
  ·split
   ·rename_i e;left;subst e;simp[TV.br,h]
   ·exact .inr rfl
  ·exact .inr rfl
 ·split
  ·left;simp[TV.br,eK.ER,h]
  ·exact .inr rfl
 ·split
  ·left;simp[TV.br,h]
  ·exact .inr rfl
 ·exact .inr rfl
theorem ani {s fb:TS} (h:s.B=fb.T++fb.B) (vs:List (Nat×Nat)) (be k:Nat):TS.get ⟨s.T++fb.T,fb.B,vs,be⟩ k=s.get k:=by
 unfold TS.get
 simp only
 rw[h,y1,y1]
theorem alV {l:List (Nat×TV)} {f:Nat→TV} {k:Nat} {d:TV}:((∃v,(k,v)∈l)∧hS (l.map fun p=>(p.1,f p.1)) k d=f k)∨((∀v,(k,v) ∉ l)∧hS (l.map fun p=>(p.1,f p.1)) k d=d):=by
 induction l with
 | nil=>exact .inr ⟨(fun v h=>by cases h),rfl⟩
 | cons p r bp=>
  obtain⟨a,w⟩:=p
  rw[List.map_cons,h5]
  by_cases e:a=k
  ·subst e;exact .inl ⟨⟨w,List.mem_cons_self ..⟩,if_pos rfl⟩
  ·rw[if_neg e]
   rcases bp with⟨⟨v,q⟩,h⟩ | ⟨q,h⟩
   ·exact .inl ⟨⟨v,List.mem_cons_of_mem _ q⟩,h⟩
   ·refine .inr ⟨fun v hv=> ?_,h⟩
    rcases List.mem_cons.1 hv with hv | hv
    ·cases hv;exact e rfl
    ·exact q v hv
theorem Yn {s s':TS}: ∀{l:List (Nat×TV)},(∀p∈yY s s' l,p.1=p.2)→ ∀k v,(k,v)∈l→OG (s.get k) (s'.get k)=true→s.get k=s'.get k
 | [],_,k,v,h,_=>by cases h
 | p::r,U,k,v,h,au=>by
  unfold yY at U
  rcases List.mem_cons.1 h with e | h
  ·cases e
   rw[au] at U
   have:=U _ (List.mem_cons_self ..)
   injection this with aN _
   exact(Prod.mk.inj aN).2
  ·refine Yn (fun q hm=>U q ?_) k v h au
   split
   ·exact List.mem_cons_of_mem _ hm
   ·exact hm
theorem al6 {b:eK} {fb s s':TS} (h1:s.B=fb.T++fb.B) (h2:s'.B=fb.T++fb.B) (c_:BE s s' (s.T++s'.T)=true) (hv:s.vs=s'.vs) (ag:s.be=s'.be) (U: ∀p∈yY s s' (s.T++s'.T)++zh s s' (s.T++s'.T),p.1=p.2):
  let S:TS:=⟨(s.T++s'.T).map (fun p=>(p.1,vf b p.1 (s.get p.1) (s'.get p.1)))++fb.T,fb.B,s.vs,s.be⟩
  (b.den=true→s.hp S)∧(b.den=false→s'.hp S):=by
 intro S
 have aif: ∀p∈yY s s' (s.T++s'.T),p.1=p.2:=fun p ab=>U p (List.mem_append_left _ ab)
 have mn: ∀p∈zh s s' (s.T++s'.T),p.1=p.2:=fun p ab=>U p (List.mem_append_right _ ab)
 have hQ: ∀k,((∃v,(k,v)∈s.T++s'.T)∧S.get k=vf b k (s.get k) (s'.get k))∨((∀v,(k,v) ∉ s.T++s'.T)∧S.get k=hS fb.T k (hS fb.B k .u)):=fun k=>by
  have e:S.get k=hS (List.map (fun p=>(p.1,(fun k=>vf b k (s.get k) (s'.get k)) p.1)) (s.T++s'.T)) k (hS fb.T k (hS fb.B k .u)):=by
   show hS (_++fb.T) k _=_
   rw[y1]
  rw[e];exact alV (f:=fun k=>vf b k (s.get k) (s'.get k))
 have base: ∀(x:TS),x.B=fb.T++fb.B→ ∀k,(∀v,(k,v) ∉ x.T)→x.get k=hS fb.T k (hS fb.B k .u):=fun x hx k hk=>by
  unfold TS.get;rw[wM hk,hx,y1]
 have aaF: ∀k,k<1000000→vf b k (s.get k) (s'.get k)=IL b (s.get k) (s'.get k):=fun k hk=>by
  unfold vf;rw[show Nat.blt k 1000000=true by rw[Nat.blt_eq];exact hk]
 have S1: ∀k v,(k,v)∈s.T++s'.T→ ¬k<1000000→1000010≤k∧ ∃g c cv,s.get k= .fo g c∧s'.get k= .fo g cv∧c=kL false .fU (tH c)∧cv=kL false .fU (tH cv)∧vf b k (s.get k) (s'.get k)= .fo g (kL false .fU (bif b.den then tH c else tH cv)):=fun k v hm hk=>by
  obtain⟨cG,⟨g,c,aN⟩,dC,cv,e2⟩:=amx c_ hm hk
  obtain⟨c5,dP,eJ⟩:=ZR mn k v hm hk _ _ _ _ aN e2
  subst c5
  refine⟨cG,g,c,cv,aN,e2,dP,eJ,?_⟩
  unfold vf
  have hb:Nat.blt k 1000000=false:=by
   cases hb:Nat.blt k 1000000 with
   | true=>rw[Nat.blt_eq] at hb;exact absurd hb hk
   | false=>rfl
  rw[hb,aN,e2];rfl
 refine⟨fun hb=>⟨rfl,rfl,fun k=> ?_⟩,fun hb=>⟨hv,ag,fun k=> ?_⟩⟩
 ·rcases hQ k with⟨⟨v,q⟩,h⟩ | ⟨q,h⟩
  ·by_cases hk:k<1000000
   ·rw[h,aaF k hk];refine .inr (.inl ⟨hk,?_⟩)
    unfold IL
    split
    ·exact .inl rfl
    ·exact amT hb
   ·obtain⟨cG,g,c,cv,aN,e2,dP,eJ,dc⟩:=S1 k v q hk
    refine .inr (.inr ⟨cG,g,c,_,aN,h.trans dc,?_⟩)
    rw[hb];exact congrArg cW dP.symm
  ·rw[h];exact .inl (base s h1 k fun v hv=>q v (List.mem_append_left _ hv)).symm
 ·rcases hQ k with⟨⟨v,q⟩,h⟩ | ⟨q,h⟩
  ·by_cases hk:k<1000000
   ·rw[h,aaF k hk];refine .inr (.inl ⟨hk,?_⟩)
    unfold IL
    split
    ·rename_i au;rw[Yn aif k v q au];exact .inl rfl
    ·exact amS hb
   ·obtain⟨cG,g,c,cv,aN,e2,dP,eJ,dc⟩:=S1 k v q hk
    refine .inr (.inr ⟨cG,g,cv,_,e2,h.trans dc,?_⟩)
    rw[hb];exact congrArg cW eJ.symm
  ·rw[h];exact .inl (base s' h2 k fun v hv=>q v (List.mem_append_right _ hv)).symm
theorem aK.YA: ∀{t:aK} {R:Exit→TS→Prop},t.oX= .none→t.den R→t.den fun ex s=>R ex s∧ex≠ .normal:=by
 intro t
 induction t with
 | l2 ex s=>
  intro R h d
  refine⟨d,?_⟩
  rintro rfl;cases h
 | iv=>intros;trivial
 | no=>intro R h d;exact d
 | p φ t bp=>intro R h d;exact⟨d.1,bp h d.2⟩
 | k9 φ t bp=>intro R h d;exact fun q=>bp h (d q)
 | eq a b t bp=>intro R h d;exact⟨d.1,bp h d.2⟩
 | two x y iD ij=>intro R h;cases h
 | all α f bp=>intro R h;cases h
 | il x eU b y iD ij=>
  intro R h d
  unfold aK.oX at h
  split at h
  ·rename_i hx;exact⟨iD hx d.1,fun q=>ij h (d.2 q)⟩
  ·cases h
 | j7 b s x y iD ij=>
  intro R h d
  have h:uq.j7 b s x.oX y.oX= .none:=h
  unfold uq.j7 at h
  split at h
  ·cases h
  ·rename_i hx
   split at h
   ·cases h
   ·rename_i aU;exact⟨fun q=>iD hx (d.1 q),fun q=>ij aU (d.2 q)⟩
   ·cases h
  ·split at h
   ·cases h
   ·cases h
   ·split at h<;>cases h
theorem aK.al9: ∀{t:aK} {R:Exit→TS→Prop} {S:TS} {k0:List (List (Nat×TV)×List (Nat×TV))},t.oX= .some S k0→(∀p∈k0,p.1=p.2)→t.den R→
  t.den fun ex s=>R ex s∧(ex= .normal→s.hp S∧t.mX.den=true∧ ∀φ∈t.facts,φ):=by
 intro t
 induction t with
 | l2 ex s=>
  intro R S k0 h U d
  refine⟨d,?_⟩
  rintro rfl
  cases h
  exact⟨.refl s,rfl,fun φ h=>by cases h⟩
 | iv=>intros;trivial
 | no=>intro R S k0 h U d;exact d
 | p φ t bp=>intro R S k0 h U d;exact⟨d.1,bp h U d.2⟩
 | k9 φ t bp=>
  intro R S k0 h U d q
  refine aK.uC (bp h U (d q)) fun ex s hs=>⟨hs.1,fun e=>⟨(hs.2 e).1,(hs.2 e).2.1,fun ψ M6=> ?_⟩⟩
  rcases List.mem_cons.1 M6 with rfl | M6
  ·exact q
  ·exact(hs.2 e).2.2 ψ M6
 | eq a b t bp=>intro R S k0 h U d;exact⟨d.1,bp h U d.2⟩
 | two x y iD ij=>intro R S k0 h;cases h
 | all α f bp=>intro R S k0 h;cases h
 | il x eU b y iD ij=>
  intro R S k0 h U d
  unfold aK.oX at h
  split at h
  ·rename_i hx
   refine⟨aK.uC (aK.YA hx d.1) fun ex s hs=>⟨hs.1,fun e=>absurd e hs.2⟩,fun q=>aK.uC (ij h U (d.2 q)) fun ex s hs=>⟨hs.1,fun e=> ?_⟩⟩
   obtain⟨h1,h2,aC⟩:=hs.2 e
   have eR: ∀(l:List Prop),s3 l→ ∀φ∈l,φ:=by
    intro l
    induction l with
    | nil=>intro _ φ e9;cases e9
    | cons a r bp=>
     intro hc φ e9
     cases r with
     | nil=>rw[List.mem_singleton.1 e9];exact hc
     | cons hB Jc=>
      have hc:a∧s3 (hB::Jc):=hc
      rcases List.mem_cons.1 e9 with rfl | e9
      ·exact hc.1
      ·exact bp hc.2 φ e9
   have eR:=eR _ q
   refine⟨h1,?_,fun φ e9=> ?_⟩
   ·unfold aK.mX
    split
    ·exact h2
    ·rename_i b7
     have hb:b.den=true:=eR _ (by
      unfold At
      split
      ·exact absurd rfl b7
      ·simp)
     rw[eK.ER,hb,h2];rfl
   ·rcases List.mem_append.1 e9 with e9 | e9
    ·have hm: ∀b:eK,φ∈At eU b:=fun b=>by
      unfold At
      split
      ·exact e9
      ·exact List.mem_append_left _ e9
     exact eR φ (hm b)
    ·exact aC φ e9
  ·cases h
 | j7 b fb x y iD ij=>
  intro R S k0 h U d
  have h:uq.j7 b fb x.oX y.oX= .some S k0:=h
  have YW: ∀{z:aK} {R:Exit→TS→Prop},z.oX= .none→z.den R→z.den fun ex s=>R ex s∧(ex= .normal→False):=fun aH afi=>aK.YA aH afi
  have Up:b.den=true→x.mX.den=true→(eK.zc b x.mX y.mX).den=true:=fun h1 h2=>by rw[eK.ER,h1,h2];rfl
  have Uq:b.den=false→y.mX.den=true→(eK.zc b x.mX y.mX).den=true:=fun h1 h2=>by rw[eK.ER,h1,h2];rfl
  have UB:x.mX.den=true→(∀φ∈x.facts,φ)→ ∀φ∈(aK.j7 b fb x y).facts,φ:=fun h1 h2 φ e9=>by
   unfold aK.facts at e9
   split at e9
   ·rename_i e;rw[e] at h1;cases h1
   ·split at e9
    ·exact h2 φ e9
    ·cases e9
  have UC:y.mX.den=true→(∀φ∈y.facts,φ)→ ∀φ∈(aK.j7 b fb x y).facts,φ:=fun h1 h2 φ e9=>by
   unfold aK.facts at e9
   split at e9
   ·exact h2 φ e9
   ·split at e9
    ·rename_i e;rw[e] at h1;cases h1
    ·cases e9
  have fo: ∀{s:TS},s.B=fb.T++fb.B→s.hp ⟨s.T++fb.T,fb.B,s.vs,s.be⟩:=fun dF=>⟨rfl,rfl,fun k=> .inl (ani dF _ _ k)⟩
  unfold uq.j7 at h
  split at h
  ·cases h
  ·rename_i hx
   split at h
   ·cases h
   ·cases h
   ·rename_i s q aU
    cases h
    have dF:=U _ (List.mem_cons_self ..)
    refine⟨fun hb=>aK.uC (YW hx (d.1 hb)) fun ex z aH=>⟨aH.1,fun e=>(aH.2 e).elim⟩,fun hb=>aK.uC (ij aU (fun p ab=>U p (List.mem_cons_of_mem _ ab)) (d.2 hb)) fun ex z aH=>⟨aH.1,fun e=> ?_⟩⟩
    obtain⟨h1,h2,aC⟩:=aH.2 e
    exact⟨h1.trans (fo dF),Uq hb h2,UC h2 aC⟩
  ·rename_i s q hx
   split at h
   ·cases h
   ·rename_i aU
    cases h
    have dF:=U _ (List.mem_cons_self ..)
    refine⟨fun hb=>aK.uC (iD hx (fun p ab=>U p (List.mem_cons_of_mem _ ab)) (d.1 hb)) fun ex z aH=>⟨aH.1,fun e=> ?_⟩,fun hb=>aK.uC (YW aU (d.2 hb)) fun ex z aH=>⟨aH.1,fun e=>(aH.2 e).elim⟩⟩
    obtain⟨h1,h2,aC⟩:=aH.2 e
    exact⟨h1.trans (fo dF),Up hb h2,UB h2 aC⟩
   ·rename_i s' vh aU
    split at h
    ·rename_i hc
     cases h
     simp only[Bool.and_eq_true] at hc
     obtain⟨⟨bz,ke⟩,mg⟩:=hc
     have ag6:=U _ (List.mem_cons_self ..)
     have ag7:=U _ (List.mem_cons_of_mem _ (List.mem_cons_self ..))
     obtain⟨a_,bw⟩:=al6 (b:=b) ag6 ag7 bz (TL ke) (Nat.eq_of_beq_eq_true mg) (fun p ab=>U p (List.mem_cons_of_mem _ (List.mem_cons_of_mem _ (List.mem_append_right _ (List.mem_append_right _ ab)))))
     refine⟨fun hb=>aK.uC (iD hx (fun p ab=>U p (List.mem_cons_of_mem _ (List.mem_cons_of_mem _ (List.mem_append_left _ ab)))) (d.1 hb)) fun ex z aH=>⟨aH.1,fun e=> ?_⟩,
      fun hb=>aK.uC (ij aU (fun p ab=>U p (List.mem_cons_of_mem _ (List.mem_cons_of_mem _ (List.mem_append_right _ (List.mem_append_left _ ab))))) (d.2 hb)) fun ex z aH=>⟨aH.1,fun e=> ?_⟩⟩
     ·obtain⟨h1,h2,aC⟩:=aH.2 e
      exact⟨h1.trans (a_ hb),Up hb h2,UB h2 aC⟩
     ·obtain⟨h1,h2,aC⟩:=aH.2 e
      exact⟨h1.trans (bw hb),Uq hb h2,UC h2 aC⟩
    ·cases h
def l3:List (Nat×Nat)→Nat→Option Nat
 | [],_=>none
 | (k,m)::r,t=>match Nat.beq k t with
  | true=>some m
  | false=>l3 r t
section
variable [FZ] {n:Nat} {s:TS}
theorem Fz (t:Nat):(s.ar n).T.getD t .undef=if t<n then(s.get t).br else .undef:=by
 show((List.range n).map fun t=>(s.get t).br).getD t .undef=_
 rw[List.getD_eq_getElem?_getD,List.getElem?_map]
 by_cases h:t<n
 ·rw[List.getElem?_range h,if_pos h];rfl
 ·rw[List.getElem?_eq_none (by simpa using h),if_neg h];rfl
theorem zB (v:Nat):eV (s.ar n).L v=(l3 s.vs v).map fun m=>cW (ix s v 0 m):=by
 show eV (s.vs.map fun p=>(p.1,cW (ix s p.1 0 p.2))) v=_
 induction s.vs with
 | nil=>rfl
 | cons p r bp=>
  obtain⟨k,m⟩:=p
  rw[List.map_cons]
  unfold eV l3
  by_cases h:v=k
  ·subst h;simp
  ·have:Nat.beq k v=false:=by
    cases hb:Nat.beq k v with
    | true=>exact absurd (Nat.eq_of_beq_eq_true hb).symm h
    | false=>rfl
   simp only[h,if_false,this];exact bp
theorem sK (b:Nat):s.gZ[b]?=if b<s.be then some (s.get (bJ b)).eG else none:=by
 show((List.range s.be).map fun b=>(s.get (bJ b)).eG)[b]?=_
 rw[List.getElem?_map]
 by_cases h:b<s.be
 ·rw[List.getElem?_range h,if_pos h];rfl
 ·rw[List.getElem?_eq_none (by simpa using h),if_neg h];rfl
theorem pf:s.gZ.length=s.be:=by show((List.range s.be).map _).length=_;simp
theorem vz {b:Nat} (h:b<s.be):(s.ar n).H[b]?=some (s.get (bJ b)).eG:=by
 show(s.gZ++h0 s)[b]?=_
 rw[List.getElem?_append_left (by rw[pf];exact h),sK,if_pos h]
theorem JN (h:kp s=true):(s.ar n).H.length=s.be:=by
 show(s.gZ++h0 s).length=_
 unfold h0;rw[h];simp[pf]
end
def GK:Value→TV
 | .int k n=> .i k n
 | .bool b=> .b (match b with
  | true=> .t
  | false=> .f)
 | .string x=> .s x
 | .slice none 0 0=> .nil true true
 | .pointer none=> .o .gH
 | .nilIface=> .o .gW
 | _=> .u
theorem ae4 (v:Value):(GK v).br=ri v:=by
 unfold GK ri
 split
 ·rfl
 ·rename_i b;cases b<;>rfl
 ·rfl
 ·rfl
 ·rfl
 ·rfl
 ·rename_i h1 h2 aC bg ch cy
  split
  ·exact absurd rfl (h1 _ _)
  ·exact absurd rfl (h2 _)
  ·exact absurd rfl (aC _)
  ·exact absurd rfl bg
  ·exact absurd rfl ch
  ·exact absurd rfl cy
  ·rfl
def cP (n:Nat) (s:TS):Operand→TV
 | .tmp t=>(match Nat.blt t n with
  | true=>s.get t
  | false=> .u)
 | .const v=>GK v
 | .func f=> .fn f []
 | .global _=> .u
theorem mw [FZ] (n:Nat) (s:TS):ci (s.ar n).T=fun x=>(cP n s x).br:=by
 funext x
 cases x with
 | tmp t=>
  show(s.ar n).T.getD t .undef=_
  rw[Fz]
  unfold cP
  by_cases h:t<n
  ·have hb:Nat.blt t n=true:=by rw[Nat.blt_eq];exact h
   simp only[if_pos h,hb]
  ·have hb:Nat.blt t n=false:=by
    cases hb:Nat.blt t n with
    | true=>rw[Nat.blt_eq] at hb;exact absurd hb h
    | false=>rfl
   simp only[if_neg h,hb];rfl
 | const v=>exact(ae4 v).symm
 | func f=>rfl
 | global g=>rfl
def Uh (x:eK) (K:eK→aK):aK:=match x with
 | .t=>K .t
 | .f=>K .f
 | .v p=>K (.v p)
 | .at i p=>K (.at i p)
 | .n p=>K (.n p)
 | .cu p q=>K (.cu p q)
 | .or p q=>K (.or p q)
 | .ite p q r=>K (.ite p q r)
 | .Aq p q=>K (.Aq p q)
 | .ne p q=>K (.ne p q)
theorem agt (x:eK) (K:eK→aK):Uh x K=K x:=by cases x<;>rfl
def sc (v:TV) (K:TV→aK):aK:=match v with
 | .u=>K .u
 | .i k m=>K (.i k m)
 | .b x=>Uh x fun x=>K (.b x)
 | .s x=>K (.s x)
 | .l e xs f r=>K (.l e xs f r)
 | .nil f r=>K (.nil f r)
 | .ref p g m f=>K (.ref p g m f)
 | .ptr p g j m c=>K (.ptr p g j m c)
 | .lp t c=>K (.lp t c)
 | .dv e x c=>K (.dv e x c)
 | .agg c=>K (.agg c)
 | .tup c=>K (.tup c)
 | .fn f c=>K (.fn f c)
 | .o a=>K (.o a)
 | .blk g e xs m h=>K (.blk g e xs m h)
 | .fo g c=>K (.fo g c)
 | .lP g m ids=>K (.lP g m ids)
 | .hF V ids n h=>K (.hF V ids n h)
 | .new id xs=>K (.new id xs)
 | .Ay w ids m n=>K (.Ay w ids m n)
 | .Ax w ids m j=>K (.Ax w ids m j)
 | .EL id m n=>K (.EL id m n)
theorem s_ (v:TV) (K:TV→aK):sc v K=K v:=by
 cases v with
 | b x=>exact agt x fun x=>K (.b x)
 | _=>rfl
def qs:(e:aX)→e.T→AV
 | .ptr e,x=> .dv (cE false e x) 0
 | .j4 f .unit,_=> .fn f []
 | .j4 f e,x=> .fn f [qs e x]
 | e,x=>match e.isS with
  | true=> .agg (cE false e x)
  | false=>kM false e x
def pw:(es:List aX)→cD es→List AV
 | [],_=>[]
 | e::r,x=>qs e x.1::pw r x.2
def px (e:aX) (x:e.T):AV:=match e.isS with
 | true=> .agg (cE true e x)
 | false=>kM true e x
def r8:(es:List aX)→cD es→List AV
 | [],_=>[]
 | e::r,x=>px e x.1::r8 r x.2
def s5:(es:List aX)→cD es→AV
 | [e],x=>px e x.1
 | es,x=> .tup (r8 es x)
def Jg (e:aX) (x:e.T):TV:=match e.isS with
 | true=> .agg (kL true e x)
 | false=>FH true e x
def Jh:(es:List aX)→cD es→List TV
 | [],_=>[]
 | e::r,x=>Jg e x.1::Jh r x.2
def Ji:(es:List aX)→cD es→TV
 | [e],x=>Jg e x.1
 | es,x=> .tup (Jh es x)
theorem Z6 (e:aX) (x:e.T):(Jg e x).br=px e x:=by
 unfold Jg px
 cases e.isS with
 | true=>show AV.agg (cW _)=_;rw[GA]
 | false=>exact RZ true e x
theorem Z7: ∀(es:List aX) (x:cD es),cW (Jh es x)=r8 es x
 | [],_=>rfl
 | e::r,x=>by rw[Jh,cW,r8,Z6,Z7 r]
theorem PD (es:List aX) (x:cD es):(Ji es x).br=s5 es x:=by
 match es,x with
 | [],x=>rfl
 | [e],x=>exact Z6 e x.1
 | e::bX::r,x=>show AV.tup (cW _)=_;rw[Z7];rfl
structure dJ (P:Program) where
 f:FuncId
 ps:List aX
 rs:List aX
 pre:Option (cD ps→Prop)
 fn:cD ps→cD rs
 ok: ∀x,(match pre with
  | none=>True
  | some p=>p x)→bn P f (pw ps x) (s5 rs (fn x))
def aev {e bX:aX} (h:bX=e) (x:bX.T):e.T:=h▸x
def GJ (a8:IntKind) (v:TV) (K:Int→List Prop→aK):aK:=match v with
 | .i k n=>if k=a8 then K n [] else .no
 | _=> .no
def Lk (v:TV) (K:Bool→List Prop→aK):aK:=match v with
 | .b x=>K x.den []
 | _=> .no
def Lo (v:TV) (K:ByteArray→List Prop→aK):aK:=match v with
 | .s x=>K x []
 | _=> .no
def Lj (e:aX) (g n:Nat) (v:TV) (K:List e.T→List Prop→aK):aK:=match v with
 | .blk dC bX xs kY _=>if h:bX=e then .eq dC g (.eq kY n (K (ns h xs) [xs.length≤4611686018427387904])) else .no
 | _=> .no
def Lp (s:TS) (e:aX) (g n:Nat) (v:TV) (K:List e.T→List Prop→aK):aK:=match v with
 | .lP dC m ids=>(match s.get dO with
  | .hF V df bQ _=>if h:aX.held=e then .eq df ids (.eq dC 0 (.eq g 0 (.eq n bQ (.eq m s.be (K (ns h V) [V.length≤4611686018427387904]))))) else .no
  | _=> .no)
 | v=>Lj e g n v K
def Lm (s:TS) (e:aX) (v:TV) (K:List e.T→List Prop→aK):aK:=match v with
 | .l bX xs _ _=>if h:bX=e then K (ns h xs) [] else .no
 | .nil _ _=>K [] []
 | .ref b g n _=>(match Nat.blt b s.be with
  | true=>Lp s e g n (s.get (bJ b)) K
  | false=> .no)
 | _=> .no
def qo (s:TS):(e:aX)→TV→(e.T→List Prop→aK)→aK
 | .int,v,K=>GJ .i64 v K
 | .u64,v,K=>GJ .u64 v K
 | .bool,v,K=>Lk v K
 | .str,v,K=>Lo v K
 | .l e,v,K=>Lm s e v K
 | _,_,_=> .no
def Dt (s:TS):(es:List aX)→List TV→(cD es→List Prop→aK)→aK
 | [],[],K=>K () []
 | e::r,v::vs,K=>qo s e v fun x o=>Dt s r vs fun y h7=>K (x,y) (o++h7)
 | _,_,_=> .no
def qp (s:TS) (e:aX) (v:TV) (K:e.T→List Prop→aK):aK:=match e.isS with
 | true=>(match v with
  | .agg c=>Dt s e.bN c fun x o=>K (e.mk x) o
  | _=> .no)
 | false=>qo s e v K
def Ln (s:TS) (e:aX) (v:TV) (K:e.T→List Prop→aK):aK:=match v with
 | .lp t c=>(match Nat.beq c 0 with
  | true=>(match l3 s.vs t with
   | some m=>Dt s e.bN (ix s t 0 m) fun x o=>K (e.mk x) o
   | none=> .no)
  | false=> .no)
 | .dv bX x c=>(match Nat.beq c 0 with
  | true=>if h:bX=e then K (aev h x) [] else .no
  | false=> .no)
 | _=> .no
def Ll (f:Nat) (v:TV) (K:Unit→List Prop→aK):aK:=match v with
 | .fn g c=>(match Nat.beq f g with
  | true=>(match c with
   | []=>K () []
   | _=> .no)
  | false=> .no)
 | _=> .no
def GI (f:Nat) (v:TV) (K:TV→aK):aK:=match v with
 | .fn g c=>(match Nat.beq f g with
  | true=>(match c with
   | [w]=>K w
   | _=> .no)
  | false=> .no)
 | _=> .no
def conv (s:TS):(e:aX)→TV→(e.T→List Prop→aK)→aK
 | .ptr e,v,K=>Ln s e v K
 | .j4 f .unit,v,K=>Ll f v K
 | .j4 f e,v,K=>GI f v fun w=>match e.isS with
  | true=> .no
  | false=>conv s e w K
 | .bi,v,K=>qp s .bi v K
 | .e6,v,K=>qp s .e6 v K
 | .eO,v,K=>qp s .eO v K
 | .fQ,v,K=>qp s .fQ v K
 | .e0,v,K=>qp s .e0 v K
 | .held,v,K=>qp s .held v K
 | .frame,v,K=>qp s .frame v K
 | .done,v,K=>qp s .done v K
 | .fault,v,K=>qp s .fault v K
 | .stays,v,K=>qp s .stays v K
 | .fU,v,K=>qp s .fU v K
 | .int,v,K=>qo s .int v K
 | .u64,v,K=>qo s .u64 v K
 | .u8,v,K=>qo s .u8 v K
 | .bool,v,K=>qo s .bool v K
 | .str,v,K=>qo s .str v K
 | .unit,v,K=>qo s .unit v K
 | .nat,v,K=>qo s .nat v K
 | .l e,v,K=>qo s (.l e) v K
def Le (s:TS):(es:List aX)→List TV→(cD es→List Prop→aK)→aK
 | [],[],K=>K () []
 | e::r,v::vs,K=>conv s e v fun x o=>Le s r vs fun y h7=>K (x,y) (o++h7)
 | _,_,_=> .no
section
variable {n:Nat} {s:TS} {R:Exit→TS→Prop}
theorem aey {L:List (Nat×List AV)} {H:List Blk} (e:aX) (x:e.T):q0 L H (cE true e x) (cE false e x):=by
 rw[←pv,←pv]
 have key: ∀(es:List aX) (y:cD es),q0 L H (j5 true es y) (j5 false es y):=by
  intro es
  induction es with
  | nil=>intro y;exact .nil
  | cons e r bp=>
   intro y
   refine .cons ?_ (bp y.2)
   cases e<;>first | exact .int _ _ | exact .bool _ | exact .str _ | exact cJ | exact .undef _
 exact key _ _
end
section
variable {n:Nat} {s:TS} {R:Exit→TS→Prop}
theorem Tz {k:IntKind} {v:TV} {K:Int→List Prop→aK} (h:(GJ k v K).den R): ∃m,v= .i k m∧(K m []).den R:=by
 unfold GJ at h
 split at h
 ·split at h
  ·rename_i e;subst e;exact⟨_,rfl,h⟩
  ·exact h.elim
 ·exact h.elim
end
section
variable {n:Nat} {s:TS} {R:Exit→TS→Prop}
theorem aeY {v:TV} {K:Bool→List Prop→aK} (h:(Lk v K).den R): ∃x,v= .b x∧(K x.den []).den R:=by
 unfold Lk at h
 split at h
 ·exact⟨_,rfl,h⟩
 ·exact h.elim
end
section
variable {n:Nat} {s:TS} {R:Exit→TS→Prop}
theorem ae3 {v:TV} {K:ByteArray→List Prop→aK} (h:(Lo v K).den R): ∃x,v= .s x∧(K x []).den R:=by
 unfold Lo at h
 split at h
 ·exact⟨_,rfl,h⟩
 ·exact h.elim
end
section
variable {n:Nat} {s:TS} {R:Exit→TS→Prop}
theorem aeX {e:aX} {g m:Nat} {v:TV} {K:List e.T→List Prop→aK} (h:(Lj e g m v K).den R): ∃xs,∃hx:xs.length=m,v= .blk g e xs m hx∧(K xs [xs.length≤4611686018427387904]).den R:=by
 unfold Lj at h
 split at h
 ·rename_i dC bX xs kY hx
  split at h
  ·rename_i bt
   subst bt
   obtain⟨h1,h2,h⟩:=h
   subst h1;subst h2
   exact⟨xs,hx,rfl,h⟩
  ·exact h.elim
 ·exact h.elim
end
section
variable {n:Nat} {s:TS} {R:Exit→TS→Prop}
theorem aoh {L:List (Nat×List AV)} {H:List Blk} {a b:AV} (h:c6 L H a b) (hb: ∀l,b≠ .agg l):gD L H a b:=by
 rcases h with⟨l,fH,_,e,_⟩ | h
 ·exact absurd e (hb fH)
 ·exact h
end
section
variable {n:Nat} {s:TS} {R:Exit→TS→Prop}
theorem afp (fr:Bool) (e:aX) (x:e.T): ∀l,kM fr e x≠ .agg l:=by
 intro l h;cases e<;>cases h
end
section
variable {n:Nat} {s:TS} {R:Exit→TS→Prop}
theorem aeZ {f:Nat} {v:TV} {K:Unit→List Prop→aK} (h:(Ll f v K).den R):v= .fn f []∧(K () []).den R:=by
 unfold Ll at h
 split at h
 ·split at h
  ·rename_i hf
   obtain rfl:=Nat.eq_of_beq_eq_true hf
   split at h
   ·exact⟨rfl,h⟩
   ·exact h.elim
  ·exact h.elim
 ·exact h.elim
end
section
variable {n:Nat} {s:TS} {R:Exit→TS→Prop}
theorem ae0 {f:Nat} {v:TV} {K:TV→aK} (h:(GI f v K).den R): ∃w,v= .fn f [w]∧(K w).den R:=by
 unfold GI at h
 split at h
 ·split at h
  ·rename_i hf
   obtain rfl:=Nat.eq_of_beq_eq_true hf
   split at h
   ·exact⟨_,rfl,h⟩
   ·exact h.elim
  ·exact h.elim
 ·exact h.elim
end
section
variable {n:Nat} {s:TS} {R:Exit→TS→Prop}
theorem aft {e:aX} (h:e.isS=false) (x:e.T): ∀l,qs e x≠ .agg l:=by
 intro l
 cases e with
 | j4 f e=>cases e<;>(intro h;cases h)
 | ptr e=>intro h;cases h
 | _=>first | (cases h;done) | exact afp false _ x l
end
section
variable [FZ] {n:Nat} {s:TS} {R:Exit→TS→Prop}
theorem uE {V:List av} {ids:List Nat} {bQ:Nat} {hv:V.length=bQ} (hk:s.get dO= .hF V ids bQ hv):(s.ar n).H=s.gZ++List.map bj ‹FZ›.bs:=by
 show s.gZ++h0 s=_
 unfold h0 kp
 rw[hk]
theorem T3 {V:List av} {ids:List Nat} {bQ:Nat} {hv:V.length=bQ} (hk:s.get dO= .hF V ids bQ hv) {id:Nat} {k:Blk} (h:(List.map bj ‹FZ›.bs)[id]?=some k):(s.ar n).H[id+s.be]?=some k:=by
 rw[uE hk,List.getElem?_append_right (by rw[pf];omega),pf,Nat.add_sub_cancel];exact h
variable (aH:Fits s)
include aH in
theorem ae5 {e:aX} {b g m:Nat} {ee:Bool} {K:List e.T→List Prop→aK} (hb:b<s.be) (h:(Lp s e g m (s.get (bJ b)) K).den R): ∃x o,(K x o).den R∧((∀φ∈o,φ)→gD (s.ar n).L (s.ar n).H (.ref b g 0 m ee) (.aP (List.map (cE false e) x) false false)):=by
 unfold Lp at h
 split at h
 ·rename_i dC im ids az
  split at h
  ·rename_i V df bQ lZ hk
   split at h
   ·rename_i he
    subst he
    obtain⟨h1,h2,aC,bg,ch,h⟩:=h
    subst h1;subst h2;subst aC;subst bg;subst ch;subst lZ
    refine⟨_,_,h,fun aj=> ?_⟩
    have au:=aj _ (List.mem_singleton.2 rfl)
    obtain⟨q1,q2,q3⟩:=aH V df _ _ hk
    have pI:V.length= ‹FZ›.ws.length:=by rw[←q2];exact jT q1.ok
    have:=xi (L:=(s.ar n).L) (H:=(s.ar n).H) (b:=b) (s:=s.be) (n:=V.length) (full:=ee) (ws:= ‹FZ›.ws) (ids:=df) (bs:= ‹FZ›.bs) pI (by rw[vz hb,az];rfl) (fun id k lx=>T3 hk lx) q1.ok (by omega) (fun x hx=>by have:=q1.len x hx;omega)
    rw[q2] at this
    exact this
   ·exact h.elim
  ·exact h.elim
 ·obtain⟨xs,hx,az,h'⟩:=aeX h
  subst hx
  refine⟨_,_,h',fun aj=> ?_⟩
  have au:=aj _ (List.mem_singleton.2 rfl)
  exact aan (eT:=cE true e) (by rw[vz hb,az];rfl) (fun x=>aey e x) au
include aH in
theorem ae1 {e:aX} {v:TV} {K:List e.T→List Prop→aK} (h:(Lm s e v K).den R): ∃x o,(K x o).den R∧((∀φ∈o,φ)→gD (s.ar n).L (s.ar n).H v.br (.aP (List.map (cE false e) x) false false)):=by
 unfold Lm at h
 split at h
 ·split at h
  ·rename_i bt;subst bt;exact⟨_,_,h,fun _=>cJ⟩
  ·exact h.elim
 ·exact⟨_,_,h,fun _=>by rw[List.map_nil];exact cJ⟩
 ·rename_i b g dG ee
  split at h
  ·rename_i hb
   exact ae5 aH (by rw[←Nat.blt_eq];exact hb) h
  ·exact h.elim
 ·exact h.elim
include aH in
theorem Ld {e:aX} {v:TV} {K:e.T→List Prop→aK} (h:(qo s e v K).den R): ∃x o,(K x o).den R∧((∀φ∈o,φ)→gD (s.ar n).L (s.ar n).H v.br (kM false e x)):=by
 cases e with
 | int=>obtain⟨m,rfl,h⟩:=Tz h;exact⟨m,_,h,fun _=> .int _ _⟩
 | u64=>obtain⟨m,rfl,h⟩:=Tz h;exact⟨m,_,h,fun _=> .int _ _⟩
 | bool=>obtain⟨x,rfl,h⟩:=aeY h;exact⟨_,_,h,fun _=> .bool _⟩
 | str=>obtain⟨x,rfl,h⟩:=ae3 h;exact⟨_,_,h,fun _=> .str _⟩
 | l e=>exact ae1 aH h
 | _=>exact h.elim
include aH in
theorem GG: ∀{es:List aX} {vs:List TV} {K:cD es→List Prop→aK},(Dt s es vs K).den R→ ∃x o,(K x o).den R∧((∀φ∈o,φ)→ah (gD (s.ar n).L (s.ar n).H) (cW vs) (j5 false es x))
 | [],[],K,h=>⟨(),[],h,fun _=>ah.nil⟩
 | e::r,v::vs,K,h=>by
  obtain⟨x,o,h,c_⟩:=Ld aH (n:=n) (show(qo s e v _).den R from h)
  obtain⟨y,h7,h,hj⟩:=GG h
  exact⟨(x,y),o++h7,h,fun aj=>ah.cons (c_ fun φ e9=>aj φ (List.mem_append_left _ e9)) (hj fun φ e9=>aj φ (List.mem_append_right _ e9))⟩
 | [],_::_,K,h=>h.elim
 | _::_,[],K,h=>h.elim
include aH in
theorem aeU {e:aX} {v:TV} {K:e.T→List Prop→aK} (h:(qp s e v K).den R): ∃x o,(K x o).den R∧((∀φ∈o,φ)→c6 (s.ar n).L (s.ar n).H v.br (match e.isS with
  | true=> .agg (cE false e x)
  | false=>kM false e x)):=by
 unfold qp at h
 cases dr:e.isS with
 | true=>
  rw[dr] at h
  simp only at h
  split at h
  ·rename_i c
   obtain⟨x,o,h,k⟩:=GG aH (n:=n) h
   refine⟨_,o,h,fun aj=> ?_⟩
   show c6 _ _ (.agg (cW c)) (.agg (cE false e (e.mk x)))
   rw[←pv,aX.acx]
   exact c6.agg (k aj)
  ·exact h.elim
 | false=>
  rw[dr] at h
  obtain⟨x,o,h,k⟩:=Ld aH (n:=n) (show(qo s e v K).den R from h)
  exact⟨x,o,h,fun aj=> .inr (k aj)⟩
include aH in
theorem ae2 {e:aX} {v:TV} {K:e.T→List Prop→aK} (h:(Ln s e v K).den R): ∃x o,(K x o).den R∧((∀φ∈o,φ)→c6 (s.ar n).L (s.ar n).H v.br (.dv (cE false e x) 0)):=by
 unfold Ln at h
 split at h
 ·rename_i t c
  split at h
  ·rename_i hc
   obtain rfl:=Nat.eq_of_beq_eq_true hc
   split at h
   ·rename_i m hm
    obtain⟨x,o,h,k⟩:=GG aH (n:=n) h
    refine⟨_,o,h,fun aj=> .inr ?_⟩
    have k:=k aj
    show gD _ _ (.fZ t 0) (.dv (cE false e (e.mk x)) 0)
    rw[←pv,aX.acx]
    exact .fZ (cells:=cW (ix s t 0 m)) (by rw[zB,hm];rfl) k.1 k.2
   ·exact h.elim
  ·exact h.elim
 ·rename_i bX x c
  split at h
  ·rename_i hc
   obtain rfl:=Nat.eq_of_beq_eq_true hc
   split at h
   ·rename_i bt;subst bt;exact⟨_,_,h,fun _=> .inr (.dv _ _)⟩
   ·exact h.elim
  ·exact h.elim
 ·exact h.elim
include aH in
theorem Lf: ∀{e:aX} {v:TV} {K:e.T→List Prop→aK},(conv s e v K).den R→ ∃x o,(K x o).den R∧((∀φ∈o,φ)→c6 (s.ar n).L (s.ar n).H v.br (qs e x)):=by
 intro e
 induction e with
 | ptr e bp=>intro v K h;exact ae2 aH h
 | j4 f e bp=>
  intro v K h
  have key:(∀x,qs (.j4 f e) x= .fn f [qs e x])→(GI f v fun w=>match e.isS with
   | true=> .no
   | false=>conv s e w K).den R→ ∃x o,(K x o).den R∧((∀φ∈o,φ)→c6 (s.ar n).L (s.ar n).H v.br (qs (.j4 f e) x)):=by
   intro he h
   obtain⟨w,rfl,h'⟩:=ae0 h
   cases dr:e.isS with
   | true=>rw[dr] at h';exact h'.elim
   | false=>
    rw[dr] at h'
    obtain⟨x,o,h2,k⟩:=bp h'
    refine⟨x,o,h2,fun aj=> .inr ?_⟩
    rw[he]
    refine gD.fn (caps:=[w.br]) rfl fun j a b h1 h2=> ?_
    cases j with
    | zero=>cases h1;cases h2;exact aoh (k aj) (aft dr x)
    | succ j=>cases h1
  cases e with
  | unit=>
   obtain⟨rfl,h'⟩:=aeZ h
   exact⟨(),[],h',fun _=> .inr (gD.fn (caps:=[]) rfl fun j a b h1 _=>by cases h1)⟩
  | _=>exact key (fun x=>rfl) h
 | _=>
  intro v K h
  first
  | exact aeU aH (n:=n) h
  | (obtain⟨x,o,h,k⟩:=Ld aH (n:=n) h;exact⟨x,o,h,fun aj=> .inr (k aj)⟩)
include aH in
theorem Ts: ∀{es:List aX} {vs:List TV} {K:cD es→List Prop→aK},(Le s es vs K).den R→ ∃x o,(K x o).den R∧((∀φ∈o,φ)→ah (c6 (s.ar n).L (s.ar n).H) (cW vs) (pw es x))
 | [],[],K,h=>⟨(),[],h,fun _=>ah.nil⟩
 | e::r,v::vs,K,h=>by
  obtain⟨x,o,h,c_⟩:=Lf aH (n:=n) (show(conv s e v _).den R from h)
  obtain⟨y,h7,h,hj⟩:=Ts h
  exact⟨(x,y),o++h7,h,fun aj=>ah.cons (c_ fun φ e9=>aj φ (List.mem_append_left _ e9)) (hj fun φ e9=>aj φ (List.mem_append_right _ e9))⟩
 | [],_::_,K,h=>h.elim
 | _::_,[],K,h=>h.elim
end
def IY (l:List Prop) (t:aK):aK:=match l with
 | []=>t
 | l=> .p (s3 l) t
theorem Tr: ∀{l:List Prop},s3 l→ ∀φ∈l,φ
 | [],_,φ,h=>by cases h
 | [a],hc,φ,h=>by rw[List.mem_singleton.1 h];exact hc
 | a::b::r,hc,φ,h=>by
  have hc:a∧s3 (b::r):=hc
  rcases List.mem_cons.1 h with rfl | h
  ·exact hc.1
  ·exact Tr hc.2 φ h
theorem Y7 {l:List Prop} {t:aK} {R:Exit→TS→Prop} (h:(IY l t).den R):(∀φ∈l,φ)∧t.den R:=by
 unfold IY at h
 split at h
 ·exact⟨(fun φ h=>by cases h),h⟩
 ·exact⟨Tr h.1,h.2⟩
def Hf {P:Program}:List (dJ P)→FuncId→(dJ P→aK)→aK
 | [],_,_=> .no
 | c::r,f,K=>match Nat.beq c.f f with
  | true=>K c
  | false=>Hf r f K
def BB:TV→Bool
 | .tup _=>false
 | .o a=>e_ a
 | _=>true
theorem IS {v:TV} (h:BB v=true):e_ v.br=true:=by cases v<;>first | rfl | exact h | cases h
def Pb {P:Program} (c:dJ P) (x:cD c.ps):List Prop:=match c.pre with
 | none=>[]
 | some p=>[p x]
def KZ {P:Program} (sL:List (dJ P)) (f:FuncId) (args:List TV) (s:TS) (K:TV→aK):aK:=match args.all BB with
 | false=> .no
 | true=>Hf sL f fun c=>Le s c.ps args fun x o=>IY (o++Pb c x) (K (Ji c.rs (c.fn x)))
theorem T_ {P:Program} {f:FuncId} {K:dJ P→aK} {R:Exit→TS→Prop}: ∀{sL:List (dJ P)},(Hf sL f K).den R→ ∃c,c.f=f∧(K c).den R
 | [],h=>h.elim
 | c::r,h=>by
  unfold Hf at h
  split at h
  ·rename_i hf;exact⟨c,Nat.eq_of_beq_eq_true hf,h⟩
  ·exact T_ h
theorem aet [FZ] {P:Program} {sL:List (dJ P)} {f:FuncId} {args:List TV} {s:TS} {K:TV→aK} {R:Exit→TS→Prop} {n:Nat} {Kp:AV→Prop} (aH:Fits s) (hK: ∀v,(K v).den R→Kp v.br) (h:(KZ sL f args s K).den R):
  rh P f (cW args) (s.ar n).L (s.ar n).H Kp:=by
 unfold KZ at h
 split at h
 ·exact h.elim
 ·rename_i ag
  obtain⟨c,rfl,h1⟩:=T_ h
  obtain⟨x,o,h2,k⟩:=Ts aH (n:=n) h1
  obtain⟨aj,aC⟩:=Y7 h2
  refine⟨?_,_,_,k fun φ e9=>aj φ (List.mem_append_left _ e9),c.ok x ?_,?_⟩
  ·rw[List.all_eq_true] at ag ⊢
   intro a aw
   rw[ql] at aw
   obtain⟨v,hv,rfl⟩:=List.mem_map.1 aw
   exact IS (ag v hv)
  ·have ab: ∀φ∈Pb c x,φ:=fun φ e9=>aj φ (List.mem_append_right _ e9)
   unfold Pb at ab
   revert ab
   cases c.pre with
   | none=>intro _;trivial
   | some p=>intro ab;exact ab _ (List.mem_singleton.2 rfl)
  ·rw[←PD];exact hK _ aC
inductive FQ:Type 1 where
 | no
 | v (x:TV)
 | c (φ:Prop) (x:TV)
 | bu (φ ψ:Prop) (x:TV)
def uL (F:List Blk→(AV→Prop)→Prop) (K:TV→aK):FQ→aK
 | .no=> .no
 | .v x=> .eq F (fun _ Q=>Q x.br) (sc x K)
 | .c φ x=> .eq F (fun _ Q=>φ∧Q x.br) (.p φ (sc x K))
 | .bu φ ψ x=> .eq F (fun _ Q=>φ∧ψ∧Q x.br) (.p (φ∧ψ) (sc x K))
theorem v_ {F:List Blk→(AV→Prop)→Prop} (H:List Blk) {K:TV→aK} {g:FQ} {R:Exit→TS→Prop} {Kp:AV→Prop} (hK: ∀v,(K v).den R→Kp v.br) (h:(uL F K g).den R):F H Kp:=by
 cases g with
 | no=>exact h.elim
 | v x=>obtain⟨e,h⟩:=h;rw[s_] at h;rw[e];exact hK _ h
 | c φ x=>obtain⟨e,h1,h⟩:=h;rw[s_] at h;rw[e];exact⟨h1,hK _ h⟩
 | bu φ ψ x=>obtain⟨e,h1,h⟩:=h;rw[s_] at h;rw[e];exact⟨h1.1,h1.2,hK _ h⟩
def s0:TV→List TV
 | .agg c=>c
 | v=>[v]
def zF (P:Program) (t:TypeId) (cells:List TV) (c:Nat):TV:=match Bn P t with
 | true=> .agg ((cells.drop c).take (P.cellsOf t))
 | false=>cells.getD c .u
def agK (op:BinOp) (x y:TV):FQ:=match x with
 | .i k a=>(match y with
  | .i _ b=>(match op with
   | .add=> .v (.i k (k.wrap (a+b)))
   | .sub=> .v (.i k (k.wrap (a - b)))
   | .mul=> .v (.i k (k.wrap (a*b)))
   | .quo=> .c (b≠0) (.i k (k.wrap (a.tdiv b)))
   | .rem=> .c (b≠0) (.i k (a.tmod b))
   | .and=> .v (.i k (k.wrap (BitVec.ofInt k.bits a&&&BitVec.ofInt k.bits b).toNat))
   | .shl=> .c (0≤b) (.i k (k.wrap (a*2 ^ (min b.toNat k.bits))))
   | .shr=> .c (0≤b) (.i k (a.fdiv (2 ^ (min b.toNat k.bits))))
   | .eql=> .v (.b (.v (a==b)))
   | .neq=> .v (.b (.v (a !=b)))
   | .lss=> .v (.b (.v (decide (a<b))))
   | .leq=> .v (.b (.v (decide (a≤b))))
   | .gtr=> .v (.b (.v (decide (a>b))))
   | .geq=> .v (.b (.v (decide (a ≥ b))))
   | _=> .no)
  | _=> .no)
 | .b p=>(match y with
  | .b q=>(match op with
   | .eql=> .v (.b (.Aq p q))
   | .neq=> .v (.b (.ne p q))
   | _=> .no)
  | _=> .no)
 | .s p=>(match y with
  | .s q=>(match op with
   | .add=> .c (p.size+q.size≤9223372036854775807) (.s (p++q))
   | .eql=> .v (.b (.v (p.toList==q.toList)))
   | .neq=> .v (.b (.v (!(p.toList==q.toList))))
   | _=> .no)
  | _=> .no)
 | .agg l=>(match y with
  | .agg m=>(match l,m with
   | [.i _ a,.i _ b],[.i _ c,.i _ d]=>(match op with
    | .eql=> .v (.b (.v (a==c&&b==d)))
    | .neq=> .v (.b (.v (!(a==c&&b==d))))
    | _=> .no)
   | _,_=> .no)
  | _=> .no)
 | _=> .no
def FM (P:Program) (t:TypeId):List TV:=match(P.info? t).bind (·.zero) with
 | some z=>z.cells.toList.map GK
 | none=>[]
def T4 (pl:List (Nat×Nat)) (cells:List TV):List (Nat×TV)→List TV
 | []=>cells
 | (i,v)::r=>match pl[i]? with
  | some p=>T4 pl (cells.take p.1++s0 v++cells.drop (p.1+(s0 v).length)) r
  | none=>cells
def agA (e:aX) (v:TV):e.T:=match e.isS with
 | true=>e.mk (sd e.bN (s0 v))
 | false=>L5 e v
def agv:TV→Bool
 | .l _ _ _ fr=>fr
 | .nil _ fr=>fr
 | .agg c=>c.all fun v=>match v with
  | .l _ _ _ fr=>fr
  | .nil _ fr=>fr
  | _=>true
 | _=>true
def Yp (e:aX) (xs:List e.T) (l:List TV):TV:=match l with
 | []=> .nil true true
 | l=> .l e xs true (l.all agv)
def ID (s:TS) (e:aX):List TV→(List e.T→aK)→aK
 | [],K=>K []
 | v::r,K=>conv s e v fun x _=>ID s e r fun xs=>K (x::xs)
theorem OI [FZ] {n:Nat} {s:TS} {e:aX} {R:Exit→TS→Prop} (aH:Fits s): ∀{l:List TV} {K:List e.T→aK},(ID s e l K).den R→ ∃xs,(K xs).den R
 | [],K,h=>⟨_,h⟩
 | v::r,K,h=>by
  obtain⟨x,o,h,_⟩:=Lf aH (n:=n) (show(conv s e v _).den R from h)
  obtain⟨xs,h⟩:=OI (n:=n) aH h
  exact⟨_,h⟩
def Bs:List (Nat×aX)→Nat→(aX→aK)→aK
 | [],_,_=> .no
 | (k,e)::r,t,K=>match Nat.beq k t with
  | true=>K e
  | false=>Bs r t K
structure hO (P:Program) where
 n:Nat
 kf:List (Nat×aX)
 sL:List (dJ P)
section
variable {P:Program} (cf:hO P) (s:TS)
def gs (P:Program) (n:Nat) (s:TS) (op:Op):FQ:=match op with
 | .nilCheck x=> .v (cP n s x)
 | .load t a=>(match cP n s a with
  | .lp v c=>(match l3 s.vs v with
   | some m=> .v (zF P t (ix s v 0 m) c)
   | none=> .no)
  | .dv e x c=> .v (zF P t (kL false e x) c)
  | _=> .no)
 | .fieldAddr t x f=>(match Ha P t f with
  | some fd=>(match cP n s x with
   | .lp v c=> .v (.lp v (c+fd.offset))
   | .dv e x c=> .v (.dv e x (c+fd.offset))
   | .ptr b g i m c=> .v (.ptr b g i m (c+fd.offset))
   | _=> .no)
  | none=> .no)
 | .unOp op _ x=>(match cP n s x with
  | .b z=>(match op with
   | .not=> .v (.b z.not)
   | _=> .no)
  | .i k m=>(match op with
   | .neg=> .v (.i k (k.wrap (0 - m)))
   | _=> .no)
  | _=> .no)
 | .convert _ d x=>(match cP n s x with
  | .i _ m=>(match Bm P d with
   | some k=> .v (.i k (k.wrap m))
   | none=> .no)
  | _=> .no)
 | .binOp op _ x y _=>agK op (cP n s x) (cP n s y)
 | .build t ps=>(match O8 P t with
  | some pl=> .v (.agg (T4 pl (FM P t) (ps.toList.map fun p=>(p.1,cP n s p.2))))
  | none=> .no)
 | .index _ x i=>(match cP n s x with
  | .s z=>(match cP n s i with
   | .i _ m=> .bu (0≤m) (m<z.size) (.i .u8 (z.data.getD m.toNat 0).toNat)
   | _=> .no)
  | _=> .no)
 | .extract x i=>(match cP n s x with
  | .tup l=> .v (l.getD i .u)
  | _=> .no)
 | .makeFunc fn _ caps=>(match fn with
  | .func f=> .v (.fn f (caps.toList.map (cP n s)))
  | _=> .no)
 | _=> .no
def wB (P:Program) (t:TypeId):Option Nat:=match kg P t with
 | some e=>(match(P.info? e).isSome with
  | true=>some (P.cellsOf e)
  | false=>none)
 | none=>none
theorem A3 {P:Program} {t:TypeId} {m:Nat} (h:wB P t=some m): ∃e,kg P t=some e∧(P.info? e).isSome=true∧P.cellsOf e=m:=by
 unfold wB at h
 split at h
 ·rename_i e he
  split at h
  ·rename_i hi;exact⟨e,he,hi,Option.some.inj h⟩
  ·cases h
 ·cases h
def uB (s:TS) (b g:Nat) (K:(e:aX)→(xs:List e.T)→(m:Nat)→xs.length=m→aK):aK:=match Nat.blt b s.be with
 | true=>(match s.get (bJ b) with
  | .blk dC e xs m h=> .eq dC g (K e xs m h)
  | _=> .no)
 | false=> .no
theorem Ac [FZ] {n:Nat} {s:TS} {b g:Nat} {K:(e:aX)→(xs:List e.T)→(m:Nat)→xs.length=m→aK} {R:Exit→TS→Prop} (h:(uB s b g K).den R):
  ∃e xs m hm,(K e xs m hm).den R∧b<s.be∧(s.ar n).H[b]?=some ⟨g,e.nD,xs.map (cE true e)⟩:=by
 unfold uB at h
 split at h
 ·rename_i hb
  have hb:b<s.be:=by rw[←Nat.blt_eq];exact hb
  split at h
  ·rename_i dC e xs m hm az
   obtain⟨h1,h⟩:=h
   subst h1
   exact⟨e,xs,m,hm,h,hb,by rw[vz hb,az];rfl⟩
  ·exact h.elim
 ·exact h.elim
def GC (V:List av) (ids:List Nat) (m:Nat) (i:Int):List TV:=[.i .i64 (nth V i).aF,.i .i64 (nth V i).bc,.Ay i ids m (nth V i).ae.length,.b (.v (nth V i).bW),.i .i64 (nth V i).bU]
theorem J1 {ws:List av} {ids:List Nat} {bs:List (List Bool)} {i:Int} (ok:ll ws ids bs) (h:i.toNat<(view ws ids bs).length):nth (view ws ids bs) i={nth ws i with ae:=bs.getD (nth ids i) []}:=by
 have au:=jT ok
 have h1:=hT (xs:=ws) (i:=i) (by omega)
 have h2:=hT (xs:=ids) (i:=i) (by have:=ok.len;omega)
 have:=xA (bs:=bs) h1 h2
 rw[hT h] at this
 exact Option.some.inj this
theorem ant [Z:FZ] {V:List av} {ids:List Nat} {m:Nat} {i:Int} (G:gB Z.ws ids Z.bs) (e:view Z.ws ids Z.bs=V) (h:i.toNat<V.length):(aW m Z.ws ids)[i.toNat]?=some (cW (GC V ids m i)):=by
 subst e
 have au:=jT G.ok
 have HE:=G.ok.len
 rw[dM HE (by omega)]
 have hb:=G.ok.ae i.toNat _ _ (hT (xs:=Z.ws) (i:=i) (by omega)) (hT (xs:=ids) (i:=i) (by omega))
 unfold GC
 rw[J1 G.ok h]
 show some (k6 m (nth Z.ws i) (nth ids i))=some _
 unfold k6
 rw[hb];rfl
def M9 (P:Program) (t:TypeId) (b g m:Nat) (i:Int) (s:TS) (v:TV) (K:TV→aK):aK:=match v with
 | .lP dC _ _=>(match Nat.blt b s.be with
  | true=> .eq dC g (.eq (wB P t) (some 5) (.p (0≤i∧i.toNat<m) (K (.ptr b g i m 0))))
  | false=> .no)
 | _=>uB s b g fun e _ _ _=> .eq (wB P t) (some e.nD) (.p (0≤i∧i.toNat<m) (K (.ptr b g i m 0)))
def M_ (P:Program) (t:TypeId) (w:Int) (ids:List Nat) (m k:Nat) (i:Int) (s:TS) (K:TV→aK):aK:=match s.get dO with
 | .hF V df _ _=> .eq df ids (.eq m s.be (.eq (wB P t) (some 1) (.p (w.toNat<V.length∧0≤i∧i.toNat<k) (K (.Ax w ids m i)))))
 | _=> .no
def Na (P:Program) (t:TypeId) (x i:TV) (s:TS) (K:TV→aK):aK:=match i with
 | .i _ i=>(match x with
  | .l e xs _ _=> .eq (wB P t) (some e.nD) (.p (0≤i∧i.toNat<xs.length) (K (.dv e (wV e xs i) 0)))
  | .ref b g m _=>M9 P t b g m i s (s.get (bJ b)) K
  | .Ay w ids m k=>M_ P t w ids m k i s K
  | _=> .no)
 | _=> .no
def OC (P:Program) (t:TypeId) (w:Int) (ids:List Nat) (m:Nat) (j:Int) (s:TS) (K:TV→aK):aK:=match s.get dO with
 | .hF V df _ _=> .eq df ids (.eq m s.be (.p (w.toNat<V.length∧j.toNat<(nth V w).ae.length) (uL (fun _ Q=>kB P t [AV.bool (nth (nth V w).ae j)] 0 Q) K (.v (zF P t [.b (.v (nth (nth V w).ae j))] 0)))))
 | _=> .no
def OD (P:Program) (t:TypeId) (b g:Nat) (i:Int) (m c:Nat) (s:TS) (K:TV→aK):aK:=match s.get (bJ b) with
 | .lP dC im ids=>(match Nat.blt b s.be with
  | true=>(match s.get dO with
   | .hF V df _ _=> .eq dC g (.eq df ids (.p (i.toNat<V.length) (uL (fun _ Q=>kB P t (cW (GC V ids im i)) c Q) K (.v (zF P t (GC V ids im i) c)))))
   | _=> .no)
  | false=> .no)
 | .fo dC an=>(match Nat.blt b s.be with
  | true=> .eq dC g (.eq i 0 (uL (fun _ Q=>kB P t (cW an) c Q) K (.v (zF P t an c))))
  | false=> .no)
 | _=>uB s b g fun e xs fM _=> .eq fM m (.p (i.toNat<m) (uL (fun _ Q=>kB P t (cE true e (wV e xs i)) c Q) K (.v (zF P t (kL true e (wV e xs i)) c))))
def PY (P:Program) (t:TypeId) (x:TV) (lo hi:Option TV) (K:TV→aK):aK:=match x with
 | .l e xs _ fr=>(match lo with
  | none=>(match hi with
   | some (.i _ b)=> .eq (wB P t) (some e.nD) (.p (0≤b∧b≤(xs.length:Int)) (K (.l e (xs.take b.toNat) false fr)))
   | _=> .no)
  | some (.i _ a)=>(match hi with
   | none=> .eq (wB P t) (some e.nD) (.p (0≤a∧a≤(xs.length:Int)) (K (.l e (xs.drop a.toNat) false fr)))
   | _=> .no)
  | _=> .no)
 | _=> .no
def OE (P:Program) (t:TypeId) (x:TV) (K:TV→aK):aK:=match x with
 | .l _ xs _ _=> .eq (lb P t x.br) true (K (.i .i64 xs.length))
 | .nil _ _=> .eq (lb P t x.br) true (K (.i .i64 (0:Nat)))
 | .s z=> .eq (lb P t x.br) true (K (.i .i64 z.size))
 | .ref _ _ m _=> .eq (lb P t x.br) true (K (.i .i64 m))
 | .Ay _ _ _ k=> .eq (lb P t x.br) true (K (.i .i64 k))
 | _=> .no
def vm (o:Oper) (K:TV→aK):aK:=match o.op with
 | .move x=>sc (cP cf.n s x) K
 | .assign x=>sc (cP cf.n s x) K
 | .indexAddr t x i=>Na P t (cP cf.n s x) (cP cf.n s i) s K
 | .load t a=>(match cP cf.n s a with
  | .ptr b g i m c=>OD P t b g i m c s K
  | .Ax w ids m j=>OC P t w ids m j s K
  | _=>uL (fun H Q=>k5 P o (fun x=>(cP cf.n s x).br) s.cl H Q) K (gs P cf.n s o.op))
 | .slice t x lo hi mx=>(match mx with
  | none=>PY P t (cP cf.n s x) (lo.map (cP cf.n s)) (hi.map (cP cf.n s)) K
  | some _=> .no)
 | .call c=>(match c.callee with
  | .builtin b=>(match b with
   | .len=>(match c.args.toList,c.argTypes.toList with
    | [x],[t]=>OE P t (cP cf.n s x) K
    | _,_=> .no)
   | _=> .no)
  | .value f=>(match cP cf.n s f with
   | .fn g caps=>KZ cf.sL g (c.args.toList.map (cP cf.n s)++caps) s K
   | _=> .no)
  | _=> .no)
 | .buildSlice t m ps=>Bs cf.kf t fun e=>ID s e (ps.toList.map fun p=>cP cf.n s p.2) fun xs=>uL (fun H Q=>k5 P o (fun x=>(cP cf.n s x).br) s.cl H Q) K (.v (Yp e xs (ps.toList.map fun p=>cP cf.n s p.2)))
 | op=>uL (fun H Q=>k5 P o (fun x=>(cP cf.n s x).br) s.cl H Q) K (gs P cf.n s op)
end
theorem OZ {e:aX} {xs:List e.T} {i:Int} (h:i.toNat<xs.length) (fr:Bool):(xs.map (cE fr e))[i.toNat]?=some (cE fr e (wV e xs i)):=by
 rw[List.getElem?_map]
 have:xs[i.toNat]?=some (wV e xs i):=by
  have:= @hT e.T e.yR xs i h
  exact this
 rw[this];rfl
section
variable {P:Program} {cf:hO P} {s:TS} {R:Exit→TS→Prop} {K:TV→aK} {Kp:AV→Prop}
theorem anX {t:TypeId} {x:TV} {lo hi:Option TV} {H:List Blk} (hK: ∀v,(K v).den R→Kp v.br) (h:(PY P t x lo hi K).den R):zo P t x.br (lo.map TV.br) (hi.map TV.br) H Kp:=by
 unfold PY at h
 split at h
 ·rename_i e xs ee fr
  have eM: ∀{m:Nat},m=e.nD→ ∀(i:Nat) (row:List AV),(List.map (cE false e) xs)[i]?=some row→row.length=m:=fun hm i row ak=>by
   rw[List.getElem?_map] at ak
   cases hx:xs[i]? with
   | none=>rw[hx] at ak;cases ak
   | some x=>rw[hx] at ak;cases ak;rw[x4,hm]
  split at h
  ·split at h
   ·rename_i k b
    obtain⟨h1,h2,h⟩:=h
    obtain⟨qb,q1,q2,q3⟩:=A3 h1
    refine ez q1 ?_
    rw[if_pos q2]
    refine⟨h2.1,Nat.zero_le _,by rw[List.length_map];omega,eM q3,?_⟩
    rw[List.drop_zero,Nat.sub_zero,←List.map_take];exact hK _ h
   ·exact h.elim
  ·split at h
   ·rename_i k a
    obtain⟨h1,h2,h⟩:=h
    obtain⟨qb,q1,q2,q3⟩:=A3 h1
    refine ez q1 ?_
    rw[if_pos q2]
    refine⟨h2.1,by rw[List.length_map];omega,Nat.le_refl _,eM q3,?_⟩
    rw[List.take_of_length_le (by rw[List.length_drop];omega),←List.map_drop];exact hK _ h
   ·exact h.elim
  ·exact h.elim
 ·exact h.elim
end
section
variable {P:Program} {cf:hO P} {s:TS} {R:Exit→TS→Prop} {K:TV→aK} {Kp:AV→Prop}
theorem alH {t:TypeId} {x:TV} (hK: ∀v,(K v).den R→Kp v.br) (h:(OE P t x K).den R):fa (lb P t x.br) (ve x.br Kp):=by
 unfold OE at h
 split at h
 ·obtain⟨h1,h⟩:=h
  rw[h1]
  show Kp (.int .i64 ((List.map _ _).length:Nat))
  rw[List.length_map];exact hK _ h
 ·obtain⟨h1,h⟩:=h;rw[h1];exact hK _ h
 ·obtain⟨h1,h⟩:=h;rw[h1];exact hK _ h
 ·obtain⟨h1,h⟩:=h;rw[h1];exact hK _ h
 ·obtain⟨h1,h⟩:=h;rw[h1];exact hK _ h
 ·exact h.elim
end
section
variable {P:Program} {cf:hO P} {s:TS} {R:Exit→TS→Prop} {K:TV→aK} {Kp:AV→Prop}
theorem OJ {l:List (Nat×aX)} {t:Nat} {K:aX→aK} (h:(Bs l t K).den R): ∃e,(K e).den R:=by
 induction l with
 | nil=>exact h.elim
 | cons p r bp=>
  obtain⟨k,e⟩:=p
  unfold Bs at h
  split at h
  ·exact⟨e,h⟩
  ·exact bp h
end
section
variable [FZ] {P:Program} {cf:hO P} {s:TS} {R:Exit→TS→Prop} {K:TV→aK} {Kp:AV→Prop}
variable (aH:Fits s)
theorem aiL {t:TypeId} {b g m:Nat} {i:Int} {k:IntKind} {ee:Bool} (hK: ∀v,(K v).den R→Kp v.br) (h:(M9 P t b g m i s (s.get (bJ b)) K).den R):A2 P t (.ref b g 0 m ee) (.int k i) (s.ar cf.n).H Kp:=by
 unfold M9 at h
 split at h
 ·rename_i dC im ids az
  split at h
  ·rename_i hb
   have hb:b<s.be:=by rw[←Nat.blt_eq];exact hb
   obtain⟨h1,h2,aC,h⟩:=h
   subst h1
   obtain⟨qb,q1,q2,q3⟩:=A3 h2
   refine ez q1 ?_
   rw[if_pos q2]
   refine ez (by rw[vz hb,az]) ⟨rfl,q3.symm,aC.1,by have:=aC.2;omega,?_⟩
   rw[Nat.zero_add];exact hK _ h
  ·exact h.elim
 ·obtain⟨e,xs,fM,hm,h,hb,aB⟩:=Ac (n:=cf.n) h
  obtain⟨h1,h2,h⟩:=h
  obtain⟨qb,q1,q2,q3⟩:=A3 h1
  refine ez q1 ?_
  rw[if_pos q2]
  refine ez aB ⟨rfl,q3.symm,h2.1,by have:=h2.2;omega,?_⟩
  rw[Nat.zero_add];exact hK _ h
include aH in
theorem LQ {V:List av} {ids:List Nat} {w:Int} {bQ:Nat} {hv:V.length=bQ} (hk:s.get dO= .hF V ids bQ hv) (hw:w.toNat<V.length):(s.ar cf.n).H[nth ids w+s.be]?=some (bj (nth V w).ae):=by
 obtain⟨G,e,_⟩:=aH V ids _ _ hk
 have au:=jT G.ok
 rw[e] at au
 have hid:=G.ok.lt w.toNat _ (hT (xs:=ids) (i:=w) (by have:=G.ok.len;omega))
 refine T3 hk ?_
 rw[s7 hid,←e,J1 G.ok (by rw[e];exact hw)]
include aH in
theorem aiM {t:TypeId} {w:Int} {ids:List Nat} {m c:Nat} {i:Int} {k:IntKind} (hK: ∀v,(K v).den R→Kp v.br) (h:(M_ P t w ids m c i s K).den R):A2 P t (.ref (nth ids w+m) 0 0 c false) (.int k i) (s.ar cf.n).H Kp:=by
 unfold M_ at h
 split at h
 ·rename_i V df bQ lZ hk
  obtain⟨h1,h2,aC,bg,h⟩:=h
  subst h1;subst h2
  obtain⟨qb,q1,q2,q3⟩:=A3 aC
  refine ez q1 ?_
  rw[if_pos q2]
  refine ez (LQ aH hk bg.1) ⟨rfl,q3.symm,bg.2.1,by have:=bg.2.2;omega,?_⟩
  rw[Nat.zero_add];exact hK _ h
 ·exact h.elim
include aH in
theorem aiP {t:TypeId} {x i:TV} (hK: ∀v,(K v).den R→Kp v.br) (h:(Na P t x i s K).den R):A2 P t x.br i.br (s.ar cf.n).H Kp:=by
 unfold Na at h
 split at h
 ·split at h
  ·obtain⟨h1,h2,h⟩:=h
   obtain⟨qb,q1,q2,q3⟩:=A3 h1
   refine ez q1 ?_
   rw[if_pos q2]
   exact⟨h2.1,ez (OZ h2.2 false) ⟨by rw[x4,q3],hK _ h⟩⟩
  ·exact aiL hK h
  ·exact aiM aH hK h
  ·exact h.elim
 ·exact h.elim
include aH in
theorem alx {t:TypeId} {w:Int} {ids:List Nat} {m:Nat} {j:Int} (hK: ∀v,(K v).den R→Kp v.br) (h:(OC P t w ids m j s K).den R):rz P t (.ptr (nth ids w+m) 0 j.toNat 0) (s.ar cf.n).L (s.ar cf.n).H Kp:=by
 unfold OC at h
 split at h
 ·rename_i V df bQ lZ hk
  obtain⟨h1,h2,aC,h⟩:=h
  subst h1;subst h2
  exact ez (LQ aH hk aC.1) ⟨rfl,ez (Dp aC.2) (v_ [] hK h)⟩
 ·exact h.elim
include aH in
theorem aly {t:TypeId} {b g m c:Nat} {i:Int} (hK: ∀v,(K v).den R→Kp v.br) (h:(OD P t b g i m c s K).den R):rz P t (.ptr b g i.toNat c) (s.ar cf.n).L (s.ar cf.n).H Kp:=by
 unfold OD at h
 split at h
 ·rename_i dC im ids az
  split at h
  ·rename_i hb
   have hb:b<s.be:=by rw[←Nat.blt_eq];exact hb
   split at h
   ·rename_i V df bQ lZ hk
    obtain⟨h1,h2,aC,h⟩:=h
    subst h1;subst h2
    obtain⟨G,e,_⟩:=aH V df _ _ hk
    exact ez (by rw[vz hb,az]) ⟨rfl,ez (ant G e aC) (v_ [] hK h)⟩
   ·exact h.elim
  ·exact h.elim
 ·rename_i dC an az
  split at h
  ·rename_i hb
   have hb:b<s.be:=by rw[←Nat.blt_eq];exact hb
   obtain⟨h1,h2,h⟩:=h
   subst h1;subst h2
   exact ez (by rw[vz hb,az]) ⟨rfl,ez (a:=cW an) rfl (v_ [] hK h)⟩
  ·exact h.elim
 ·obtain⟨e,xs,fM,hm,h,hb,aB⟩:=Ac (n:=cf.n) h
  obtain⟨h1,h2,h⟩:=h
  refine ez aB ⟨rfl,ez (OZ (by omega) true) ?_⟩
  exact v_ [] hK h
include aH in
theorem ZU {o:Oper} (hK: ∀v,(K v).den R→Kp v.br) (h:(vm cf s o K).den R):k5 P o (ci (s.ar cf.n).T) (s.ar cf.n).L (s.ar cf.n).H Kp:=by
 rw[mw]
 obtain⟨dst,op,ty,pos,after,guard⟩:=o
 unfold vm at h
 split at h
 ·rename_i x gx;cases gx;rw[s_] at h;exact hK _ h
 ·rename_i x gx;cases gx;rw[s_] at h;exact hK _ h
 ·rename_i t x i gx;cases gx;exact aiP aH hK h
 ·rename_i t a gx
  cases gx
  split at h
  ·rename_i b g i m c aw
   show rz P t (cP cf.n s a).br _ _ Kp
   rw[aw];exact aly aH hK h
  ·rename_i w ids m j aw
   show rz P t (cP cf.n s a).br _ _ Kp
   rw[aw];exact alx aH hK h
  ·exact v_ (F:=fun H Q=>k5 P _ _ _ H Q) _ hK h
 ·rename_i t x lo hi mx gx
  cases gx
  split at h
  ·have:=anX (H:=(s.ar cf.n).H) hK h
   show zo P t _ (lo.map _) (hi.map _) _ Kp
   rw[Option.map_map,Option.map_map] at this
   exact this
  ·exact h.elim
 ·rename_i c gx
  cases gx
  obtain⟨callee,args,argTypes⟩:=c
  split at h
  ·rename_i b hb
   cases hb
   split at h
   ·show(match args.toList,argTypes.toList with
     | [x],[t]=>fa (lb P t ((fun x=>(cP cf.n s x).br) x)) (ve ((fun x=>(cP cf.n s x).br) x) Kp)
     | _,_=>False)
    split at h
    ·rename_i x t h1 h2
     simp only at h1 h2
     simp only[h1,h2];exact alH hK h
    ·exact h.elim
   ·exact h.elim
  ·rename_i f hf
   cases hf
   show nr (cP cf.n s f).br fun g caps=>rh P g (args.toList.map (fun x=>(cP cf.n s x).br)++caps) _ _ Kp
   split at h
   ·rename_i g caps hc
    rw[hc]
    have:=aet (n:=cf.n) aH hK h
    rw[ql,List.map_append,List.map_map] at this
    show rh P g (_++cW caps) _ _ Kp
    rw[ql];exact this
   ·exact h.elim
  ·exact h.elim
 ·rename_i t m ps gx
  cases gx
  obtain⟨e,h⟩:=OJ h
  obtain⟨xs,h⟩:=OI (n:=cf.n) aH h
  exact v_ (F:=fun H Q=>k5 P _ _ _ H Q) _ hK h
 ·exact v_ (F:=fun H Q=>k5 P _ _ _ H Q) _ hK h
end
theorem jH {n:Int} (h1: -9223372036854775808≤n) (h2:n≤9223372036854775807):IntKind.i64.wrap n=n:=by
 rw[IntKind.wrap_i64];omega
def ca (x a b:Int):Bool:=decide (a≤x)&&decide (x≤b)
theorem ms {x a b:Int}:ca x a b=true↔a≤x∧x≤b:=by simp[ca]
theorem gX {α:Type} [Inhabited α] {xs:List α} {i:Int} (h:i.toNat<xs.length):nth xs i=xs[i.toNat]:=by
 have:=hT h
 rw[List.getElem?_eq_getElem h] at this
 exact(Option.some.inj this).symm
theorem dT {α:Type} [Inhabited α] {xs:List α} {i:Int} (h:i.toNat<xs.length):nth xs i∈xs:=by rw[gX h];exact List.getElem_mem h
theorem kq {α:Type} [Inhabited α] {xs:List α} {i:Nat} (h:i<xs.length):nth xs (i:Int)=xs[i]:=by rw[gX (by simpa using h)];simp
def first {α:Type} (xs:List α) (p:α→Bool):Option Nat:=xs.findIdx? p
theorem afQ {α:Type} {xs:List α} {p:α→Bool} (h: ∀x∈xs,p x=false):first xs p=none:=by
 unfold first;rw[List.findIdx?_eq_none_iff];exact h
theorem afR {α:Type} [Inhabited α] {xs:List α} {p:α→Bool} {i:Int} (h: ∀x∈xs.take i.toNat,p x=false) (hi:i.toNat<xs.length) (ab:p (nth xs i)=true):first xs p=some i.toNat:=by
 unfold first
 rw[List.findIdx?_eq_some_iff_getElem]
 refine⟨hi,by rw[←gX hi];exact ab,fun j ac=> ?_⟩
 have:=h xs[j] (by rw[List.mem_take_iff_getElem];exact⟨j,by omega,rfl⟩)
 simp[this]
def O1 (o:Option Nat):Int:=match o with
 | some i=>i
 | none=> -1
def pK (xs:List Int) (v:Int):Int:=O1 (first xs (fun x=>v==x))
def hh (xs:List Int) (v:Int):Bool:=xs.contains v
def sh (xs:List Bool) (v:Bool):Bool:=xs.contains v
def aV {α:Type} (x:α):α:=x
def meets (a b:List Int):Bool:=a.any fun x=>b.contains x
def dup (l:List Int):Bool:= !decide l.Nodup
def bV (w:Way):List c9:=w.bI++w.cR
def je (l:List Int) (n:Int):Bool:=decide (l.length≤30)&&l.all (fun x=>ca x 0 (n - 1))&&decide l.Nodup
def n_ (p:aL) (l:List c9):Bool:=decide (l.length≤30)&&l.all (fun x=>ca x.bh 0 (p.a7.length - 1)&&ca x.bi 1 2)&&decide (l.map (·.bh)).Nodup
def iS (p:aL) (w:Way):Bool:=
 decide (w.ao≠[])&&je w.ao p.ao&&je w.di p.ao&&je w.ek p.ao&&n_ p w.bI&&n_ p w.cR&&
 decide ((bV w).map (·.bh)).Nodup&&w.bI.all (fun x=>w.ao.contains (nth p.a7 x.bh))&& !meets w.ao w.di
def vS (p:aL) (i k:Nat):Bool:=nth (nth p.bG i) k
def r5 (p:aL) (i k:Nat):Bool:=(vS p i k !=vS p k i) || (decide (i≠k)&& !vS p i k&&meets (nth p.O i).ao (nth p.O k).ao)
def rD (p:aL):rZ:=if p.bG.length=p.O.length then
  match first p.bG (fun b=>decide (b.length≠p.O.length)) with
  | some k=>⟨4,k⟩
  | none=>match first (List.range p.O.length) (fun i=>(List.range p.O.length).any fun k=>r5 p i k) with
   | some k=>⟨5,k⟩
   | none=>⟨0,0⟩
 else⟨4,0⟩
def BM (p:aL):rZ:=match first p.O (fun w=> !iS p w) with
 | some k=>⟨3,k⟩
 | none=>rD p
def BL (p:aL):rZ:=match first p.a7 (fun s=> !ca s 0 (p.ao - 1)) with
 | some k=>⟨2,k⟩
 | none=>BM p
def iJ (p:aL):rZ:=if ca p.ao 1 60&&ca p.cB 1 300&&decide (p.a7.length≤40)&&decide (p.O.length≤100) then BL p else⟨1,0⟩
def eD (p:aL):Bool:=decide (iJ p=⟨0,0⟩)
def fD (p:aL) (e:Event):Bool:=
 if e.op=1∨e.op=2 then ca e.aG 0 (p.O.length - 1)&&decide (e.bi=0)
 else if e.op=3∨e.op=4 then ca e.aG 0 (p.ao - 1)&&decide (e.bi=0)
 else if e.op=5 then ca e.aG 0 (p.a7.length - 1)&&ca e.bi 0 2
 else if e.op=6 then ca e.aG 0 (p.a7.length - 1)&&ca e.bi 1 2
 else if e.op=7 then decide (e.aG=0)&&decide (e.bi=0)
 else false
def fR (n:Nat) (left:Int):Int:=if left<n then -1 else left - n
def vE (w:Way):Nat:=w.ao.length+w.bI.length+w.cR.length+w.di.length+w.ek.length
def CU (ws:List Way):Nat:=ws.length+(ws.map vE).sum
def xY (bs:List (List Bool)):Nat:=bs.length+(bs.map List.length).sum
def mz (p:aL):Nat:=p.a7.length+CU p.O+xY p.bG
theorem Yj {n m:Nat} {left:Int} (aA:0≤left):fR (n+m) left=if fR n left<0 then -1 else fR m (fR n left):=by
 unfold fR
 split<;>split<;>(try split)<;>(try split)<;>omega
def fc {α:Type} (a:List α) (left:Int):Int:=fR a.length left
def uc (w:Way) (left:Int):Int:=fR (vE w) left
def Cx (w:List Way) (left:Int):Int:=fR (CU w) left
def xx (w:List (List Bool)) (left:Int):Int:=fR (xY w) left
def sI (p:aL) (left:Int):Int:=fR (mz p) left
def jw {α:Type} (a:α) (left:Int):Prop:=0≤left∧left≤1048576
def small {α:Type} (a:List α):Prop:=a.length≤1048576
def Ff (w:Way):Prop:=vE w≤1048576
def Jt (w:List Way):Prop:=CU w≤1048576
def Js (w:List (List Bool)):Prop:=xY w≤1048576
def P6 (p:aL):Prop:=mz p≤1048576
def eqv {α:Type} [DecidableEq α] (a b:α):Bool:=decide (a=b)
def uh {α:Type} (a:α):Bool:=true
def ES (l:List Int) (n:Int):Prop:= -9223372036854775808<n∧n≤9223372036854775807
def Pc (p:aL) (w:Way):Prop:= -9223372036854775808<p.ao∧p.ao≤9223372036854775807
def Zu (p:aL) (e:Event):Prop:= -9223372036854775808<p.ao∧p.ao≤9223372036854775807
def BN (w:Way):Prop:=w.bI.length≤1048576∧w.cR.length≤1048576
def s8 {α β:Type} (a:List α) (f:α→β) (d:β) (i:Int):List β:=(a.take i.toNat).map f++List.replicate (a.length - i.toNat) d
theorem afL {α β:Type} (a:List α) (f:α→β) (d:β):s8 a f d 0=List.replicate a.length d:=by simp[s8]
theorem LS {α β:Type} {a:List α} {f:α→β} {d:β} {i:Int} (h:i≤a.length):(s8 a f d i).length=a.length:=by
 simp[s8];omega
theorem afM {α β:Type} [Inhabited α] {a:List α} {f:α→β} {d:β} {i:Int} (aA:0≤i) (h:i.toNat<a.length):(s8 a f d i).set i.toNat (f (nth a i))=s8 a f d (i+1):=by
 unfold s8
 rw[show(i+1).toNat=i.toNat+1 by omega,List.take_succ_eq_append_getElem h,List.set_append_right _ _ (by simp;omega)]
 have:List.replicate (a.length - i.toNat) d=d::List.replicate (a.length - (i.toNat+1)) d:=by
  rw[←List.replicate_succ];congr 1;omega
 rw[this,gX h]
 have au:((a.take i.toNat).map f).length=i.toNat:=by simp;omega
 rw[au]
 simp
 rw[←List.map_take,←List.map_take,List.take_succ_eq_append_getElem h,List.map_append]
 simp
theorem afK {α β:Type} {a:List α} {f:α→β} {d:β} {i:Int} (h:(a.length:Int)≤i):s8 a f d i=a.map f:=by
 unfold s8
 rw[List.take_of_length_le (by omega),show a.length - i.toNat=0 by omega]
 simp
def cr (N:Int) (p:Int→Bool) (v:Int):Prop:=0≤v∧v≤N∧ ∀j:Int,0≤j→j<v→p j=false
def cM (N:Int) (v:Int):Nat:=(N - v).toNat
theorem dA {N:Int} {p:Int→Bool} (h:0≤N):cr N p 0:=⟨Int.le_refl _,h,fun j aA h1=>by omega⟩
theorem kH {N v:Int} (ag:N≤4611686018427387904) (aA:0≤v) (hv:v<N):IntKind.i64.wrap (v+1)=v+1:=jH (by omega) (by omega)
theorem da {N v:Int} {p:Int→Bool} (ag:N≤4611686018427387904) (h:cr N p v) (hv:decide (v<N)=true) (ab:p v=false):cr N p (IntKind.i64.wrap (v+1))∧cM N (IntKind.i64.wrap (v+1))<cM N v:=by
 obtain⟨aA,h1,h2⟩:=h
 have hv:v<N:=by simpa using hv
 rw[kH ag aA hv]
 refine⟨⟨by omega,by omega,fun j cF fX=> ?_⟩,by unfold cM;omega⟩
 rcases Int.lt_or_eq_of_le (show j≤v by omega) with au | rfl
 ·exact h2 j cF au
 ·exact ab
theorem hV {N v:Int} {p:Int→Bool} (h:cr N p v) (hv:decide (v<N)=false): ∀j:Int,0≤j→j<N→p j=false:=by
 obtain⟨aA,h1,h2⟩:=h
 have hv: ¬v<N:=by simpa using hv
 exact fun j cF fX=>h2 j cF (by omega)
theorem cC {α:Type} {xs:List α} {v:Int} {p:Int→Bool} (h:cr xs.length p v) (hv:decide (v<(xs.length:Int))=true):0≤v∧v.toNat<xs.length:=by
 have hv:v<(xs.length:Int):=by simpa using hv
 exact⟨h.1,by have:=h.1;omega⟩
theorem cO {α:Type} {xs:List α} (h:xs.length≤4611686018427387904):(xs.length:Int)≤4611686018427387904:=by omega
theorem dp {α:Type} (xs:List α):0≤(xs.length:Int):=by omega
theorem oo {α:Type} [Inhabited α] {xs:List α} {q:α→Bool} (h: ∀j:Int,0≤j→j<xs.length→q (nth xs j)=false): ∀x∈xs,q x=false:=fun x hx=>by
 obtain⟨i,hi,rfl⟩:=List.mem_iff_getElem.1 hx
 have:=h i (by omega) (by omega)
 rwa [kq hi] at this
theorem ud {α:Type} [Inhabited α] {xs:List α} {q:α→Bool} {v:Int} (h:cr xs.length (fun j=>q (nth xs j)) v) (hv:decide (v<(xs.length:Int))=true) (ab:q (nth xs v)=true):first xs q=some v.toNat:=by
 have hi:=cC h hv
 refine afR (fun x hx=> ?_) hi.2 ab
 obtain⟨i,eI,rfl⟩:=List.mem_take_iff_getElem.1 hx
 have:q (nth xs (i:Int))=false:=h.2.2 i (by omega) (by omega)
 rwa [kq (by omega)] at this
theorem ue {α:Type} [Inhabited α] {xs:List α} {q:α→Bool} {v:Int} (h:cr xs.length (fun j=>q (nth xs j)) v) (hv:decide (v<(xs.length:Int))=false):first xs q=none:=
 afQ (oo (hV h hv))
theorem JZ {α:Type} [Inhabited α] {xs:List α} {q:α→Bool} {v:Int} (h:cr xs.length (fun j=>q (nth xs j)) v) (hv:decide (v<(xs.length:Int))=true) (ab:q (nth xs v)=true):xs.any q=true:=by
 rw[List.any_eq_true];exact⟨_,dT (cC h hv).2,ab⟩
theorem FJ {α:Type} [Inhabited α] {xs:List α} {q:α→Bool} {v:Int} (h:cr xs.length (fun j=>q (nth xs j)) v) (hv:decide (v<(xs.length:Int))=false):xs.any q=false:=by
 rw[List.any_eq_false]
 intro x hx
 rw[oo (hV h hv) x hx];simp
theorem not_eq {b:Bool} (h:(!b)=true):b=false:=by simpa using h
theorem PQ {α:Type} [Inhabited α] {a b:List α} (au:a.length=b.length) (h: ∀j:Int,0≤j→j<a.length→nth a j=nth b j):a=b:=by
 apply List.ext_getElem au
 intro i h1 h2
 have:=h i (by omega) (by omega)
 rwa [kq h1,kq h2] at this
theorem uD {α:Type} [Inhabited α] [DecidableEq α] {a b:List α} {ne:Int→Bool} (b7: ∀v,ne v=true↔nth a v≠nth b v):
  ((a.length≤4611686018427387904)∧(b.length≤4611686018427387904)→((a.length:Int) !=(b.length:Int))=true→false=eqv a b)∧((a.length≤4611686018427387904)∧(b.length≤4611686018427387904)∧((!((a.length:Int) !=(b.length:Int)))=true)→
   cr a.length ne 0∧ ∀(v:Int),cr a.length ne v→(((decide (v<(a.length:Int)))=false→true=eqv a b)∧((decide (v<(a.length:Int)))=true→(((0≤v∧v.toNat<a.length)∧(0≤v∧v.toNat<b.length))∧((ne v)=true→false=eqv a b))∧
    ((!(ne v))=true→cr a.length ne (IntKind.i64.wrap (v+1))∧cM a.length (IntKind.i64.wrap (v+1))<cM a.length v)))):=by
 refine⟨fun _ h=> ?_,fun⟨h1,h2,aC⟩=> ?_⟩
 ·have:a≠b:=fun e=>by subst e;simp at h
  simp[eqv,this]
 ·have au:a.length=b.length:=by have:(a.length:Int)=b.length:=by simpa using aC
                                omega
  refine⟨dA (dp a),fun v aT=>⟨fun hv=> ?_,fun hv=>⟨⟨⟨cC aT hv,by rw[←au];exact cC aT hv⟩,fun ag=> ?_⟩,fun ag=>da (cO h1) aT hv (not_eq ag)⟩⟩⟩
  ·have:a=b:=PQ au fun j cF fX=>by
    have U:=hV aT hv j cF fX
    by_cases he:nth a j=nth b j
    ·exact he
    ·rw[(b7 j).2 he] at U;cases U
   simp[eqv,this]
  ·have:a≠b:=fun e=>(b7 v).1 ag (by rw[e])
   simp[eqv,this]
def rj {α β:Type} (a:List α) (f:α→β) (d:β) (x:List β) (v:Int):Prop:=0≤v∧v≤a.length∧x=s8 a f d v
def r_ {α β:Type} (a:List α) (x:List β) (v:Int):Nat:=(a.length - v).toNat
theorem LU {α β:Type} [Inhabited α] {a:List α} {f:α→β} {d:β} {aa:List β} {φ:Int→Prop} (hs:a.length≤4611686018427387904) (ak:a.map f=aa) (e9: ∀v:Int,0≤v→v.toNat<a.length→φ v):
  rj a f d (List.replicate (a.length:Int).toNat d) 0∧ ∀(x:List β) (v:Int),rj a f d x v→(((decide (v<(a.length:Int)))=false→x.length≤4611686018427387904∧x=aa)∧((decide (v<(a.length:Int)))=true→((0≤v∧v.toNat<a.length)∧(φ v∧((0≤v∧v.toNat<x.length)∧v.toNat<x.length)))∧
   (rj a f d (x.set v.toNat (f (nth a v))) (IntKind.i64.wrap (v+1))∧r_ a (x.set v.toNat (f (nth a v))) (IntKind.i64.wrap (v+1))<r_ a x v))):=by
 refine⟨⟨Int.le_refl _,dp a,by rw[afL];simp⟩,fun x v ⟨aA,h1,hx⟩=>⟨fun hv=> ?_,fun hv=> ?_⟩⟩
 ·have hv: ¬v<(a.length:Int):=by simpa using hv
  subst hx
  exact⟨by rw[LS h1];exact hs,by rw[afK (by omega)];exact ak⟩
 ·have hv:v<(a.length:Int):=by simpa using hv
  have aQ:v.toNat<a.length:=by omega
  subst hx
  refine⟨⟨⟨aA,aQ⟩,e9 v aA aQ,⟨aA,by rw[LS h1];exact aQ⟩,by rw[LS h1];exact aQ⟩,?_⟩
  rw[kH (cO hs) aA hv]
  exact⟨⟨by omega,by omega,afM aA aQ⟩,by unfold r_;omega⟩
theorem Hb {α β:Type} [Inhabited α] {a:List α} {f:α→β} {d:β} {aa:List β} (hs:a.length≤4611686018427387904) (ak:a.map f=aa):
  rj a f d (List.replicate (a.length:Int).toNat d) 0∧ ∀(x:List β) (v:Int),rj a f d x v→(((decide (v<(a.length:Int)))=false→x.length≤4611686018427387904∧x=aa)∧((decide (v<(a.length:Int)))=true→((0≤v∧v.toNat<a.length)∧((0≤v∧v.toNat<x.length)∧v.toNat<x.length))∧
   (rj a f d (x.set v.toNat (f (nth a v))) (IntKind.i64.wrap (v+1))∧r_ a (x.set v.toNat (f (nth a v))) (IntKind.i64.wrap (v+1))<r_ a x v))):=by
 obtain⟨h1,h2⟩:=LU (φ:=fun _=>True) (d:=d) hs ak fun _ _ _=>trivial
 exact⟨h1,fun x v aT=>⟨(h2 x v aT).1,fun hv=>⟨⟨((h2 x v aT).2 hv).1.1,((h2 x v aT).2 hv).1.2.2⟩,((h2 x v aT).2 hv).2⟩⟩⟩
theorem Yl {n:Nat} {left:Int} (aA:0≤left) (h1:left≤1048576) (h: ¬fR n left<0):0≤fR n left∧fR n left≤1048576:=by
 refine⟨by omega,?_⟩
 unfold fR at h ⊢
 split<;>omega
theorem Yk {n m:Nat} {left:Int} (aA:0≤left) (h:fR n left<0):fR (n+m) left= -1:=by
 rw[Yj aA,if_pos h]
theorem yW {n m:Nat} {left:Int} (aA:0≤left) (h: ¬fR n left<0):fR m (fR n left)=fR (n+m) left:=by
 rw[Yj aA,if_neg h]
theorem acK {α:Type} {xs:List α} {left:Int} (ag:xs.length≤4611686018427387904) (h:0≤left∧left≤1048576):IntKind.i64.wrap (left - (xs.length:Int))=left - xs.length:=jH (by omega) (by omega)
theorem JQ {α:Type} {a:List α} {left:Int} (ab:0≤left∧left≤1048576) (ag:a.length≤4611686018427387904):
  ((decide ((IntKind.i64.wrap (left - (a.length:Int)))<0))=true→(-1)=fc a left)∧((!(decide ((IntKind.i64.wrap (left - (a.length:Int)))<0)))=true→(IntKind.i64.wrap (left - (a.length:Int)))=fc a left):=by
 rw[acK ag ab]
 unfold fc fR
 constructor<;>intro h<;>split<;>simp_all<;>omega
def FB {α:Type} (a:List α) (f:α→Nat) (alB:Int) (left v:Int):Prop:=0≤v∧v≤a.length∧0≤left∧left≤1048576∧left=fR (a.length+((a.take v.toNat).map f).sum) alB
def FC {α:Type} (a:List α) (left v:Int):Nat:=(a.length - v).toNat
theorem aci {α:Type} [Inhabited α] {a:List α} {f:α→Nat} {g:α→Int→Int} {left:Int} (az: ∀x l,g x l=fR (f x) l) (ab:0≤left∧left≤1048576) (ag:a.length≤4611686018427387904):
  ((decide ((IntKind.i64.wrap (left - (a.length:Int)))<0))=true→(-1)=fR (a.length+(a.map f).sum) left)∧((!(decide ((IntKind.i64.wrap (left - (a.length:Int)))<0)))=true→
   FB a f left (IntKind.i64.wrap (left - (a.length:Int))) 0∧ ∀(w:Int) (v:Int),FB a f left w v→(((decide (v<(a.length:Int)))=false→w=fR (a.length+(a.map f).sum) left)∧((decide (v<(a.length:Int)))=true→
    (((0≤v∧v.toNat<a.length)∧(jw (nth a v) w))∧((decide ((g (nth a v) w)<0))=true→(-1)=fR (a.length+(a.map f).sum) left))∧((!(decide ((g (nth a v) w)<0)))=true→FB a f left (g (nth a v) w) (IntKind.i64.wrap (v+1))∧FC a (g (nth a v) w) (IntKind.i64.wrap (v+1))<FC a w v)))):=by
 rw[acK ag ab]
 refine⟨fun h=> ?_,fun h=>⟨⟨Int.le_refl _,dp a,?_⟩,fun w v ⟨v0,v1,aS,bq,hw⟩=>⟨fun hv=> ?_,fun hv=> ?_⟩⟩⟩
 ·have h:left - a.length<0:=by simpa using h
  unfold fR;rw[if_pos (by omega)]
 ·have h: ¬left - a.length<0:=by simpa using h
  refine⟨by omega,by omega,?_⟩
  simp only[Int.toNat_zero,List.take_zero,List.map_nil,List.sum_nil,Nat.add_zero]
  unfold fR;rw[if_neg (by omega)]
 ·have hv: ¬v<(a.length:Int):=by simpa using hv
  rw[hw,List.take_of_length_le (by omega)]
 ·have hv:v<(a.length:Int):=by simpa using hv
  have aQ:v.toNat<a.length:=by omega
  have hs:((a.take (v+1).toNat).map f).sum=((a.take v.toNat).map f).sum+f (nth a v):=by
   rw[show(v+1).toNat=v.toNat+1 by omega,List.take_succ_eq_append_getElem aQ,List.map_append,List.sum_append,gX aQ];simp
  have oK: ¬fR (a.length+((a.take v.toNat).map f).sum) left<0:=by omega
  have gh:g (nth a v) w=fR (a.length+((a.take (v+1).toNat).map f).sum) left:=by
   rw[az,hw,yW ab.1 oK,hs,Nat.add_assoc]
  refine⟨⟨⟨⟨v0,aQ⟩,aS,bq⟩,fun h=> ?_⟩,fun h=> ?_⟩
  ·have h:g (nth a v) w<0:=by simpa using h
   rw[gh] at h
   have aY:(a.map f).sum=((a.take (v+1).toNat).map f).sum+((a.drop (v+1).toNat).map f).sum:=by
    rw[←List.sum_append,←List.map_append,List.take_append_drop]
   rw[aY,←Nat.add_assoc,Yk ab.1 h]
  ·have h: ¬g (nth a v) w<0:=by simpa using h
   rw[kH (cO ag) v0 hv]
   have:=Yl ab.1 ab.2 (gh▸h)
   refine⟨⟨by omega,by omega,by rw[gh];exact this.1,by rw[gh];exact this.2,gh⟩,by unfold FC;omega⟩
theorem xy {n m T:Nat} {left:Int} {R:Prop} (ab:0≤left∧left≤1048576) (cd:T=n+m) (h: ¬fR n left<0→0≤fR n left∧fR n left≤1048576→R):
  ((decide (fR n left<0))=true→(-1)=fR T left)∧((!(decide (fR n left<0)))=true→R):=by
 refine⟨fun aY=> ?_,fun aY=> ?_⟩
 ·have aY:fR n left<0:=by simpa using aY
  rw[cd,Yk ab.1 aY]
 ·have aY: ¬fR n left<0:=by simpa using aY
  exact h aY (Yl ab.1 ab.2 aY)
theorem IG {α:Type} (l:List α):l.map aV=aV l:=by
 show l.map (fun x=>x)=l
 simp
theorem OR {α:Type} (f:α→Nat) {x:α}: ∀{l:List α},x∈l→f x≤(l.map f).sum
 | [],h=>by cases h
 | y::l,h=>by
  rw[List.map_cons,List.sum_cons]
  rcases List.mem_cons.1 h with rfl | h
  ·omega
  ·have:=OR f h;omega
theorem ye {xs:List Int} {x:Int}:hh xs x=true↔x∈xs:=by unfold hh;simp
theorem ahi {xs:List Int} {x k:Int} (hk:k.toNat<xs.length) (h:(x==nth xs k)=true):hh xs x=true:=by
 rw[ye,show x=nth xs k by simpa using h];exact dT hk
theorem ahg {xs:List Int} {x:Int} (h: ∀j:Int,0≤j→j<xs.length→(x==nth xs j)=false):hh xs x=false:=by
 rw[←Bool.not_eq_true,ye]
 intro hm
 have:=oo (q:=fun y=>x==y) h x hm
 simp at this
theorem aiN (xs:List Int) (x:Int):(decide (pK xs x ≥ 0))=hh xs x:=by
 unfold pK
 cases h:first xs (fun y=>x==y) with
 | none=>
  unfold first at h
  rw[List.findIdx?_eq_none_iff] at h
  have:hh xs x=false:=by
   rw[←Bool.not_eq_true,ye]
   intro hm
   have:=h x hm
   simp at this
  rw[this];rfl
 | some i=>
  unfold first at h
  rw[List.findIdx?_eq_some_iff_getElem] at h
  obtain⟨hi,ab,_⟩:=h
  have:hh xs x=true:=by rw[ye,show x=xs[i] by simpa using ab];exact List.getElem_mem hi
  rw[this]
  show decide ((i:Int) ≥ 0)=true
  simp
theorem afh {xs:List Int} {v:Int} (aA:0≤v) (hv:v.toNat<xs.length) (h:hh (xs.take v.toNat) (nth xs v)=true):dup xs=true:=by
 rw[ye] at h
 unfold dup
 simp only[Bool.not_eq_true',decide_eq_false_iff_not]
 intro ag
 obtain⟨i,hi,he⟩:=List.mem_take_iff_getElem.1 h
 rw[gX hv] at he
 exact(List.pairwise_iff_getElem.1 ag) i v.toNat (by omega) hv (by omega) he
theorem TD {xs:List Int} (h: ∀j:Int,0≤j→j<xs.length→hh (xs.take j.toNat) (nth xs j)=false):dup xs=false:=by
 unfold dup
 simp only[Bool.not_eq_false',decide_eq_true_eq]
 unfold List.Nodup
 rw[List.pairwise_iff_getElem]
 intro i j hi ac aQ he
 have:=h j (by omega) (by omega)
 rw[←Bool.not_eq_true,ye,kq ac] at this
 exact this (by rw[List.mem_take_iff_getElem];exact⟨i,by omega,he⟩)
theorem PH (x n:Int):(decide (x<0) || decide (x ≥ n))= !ca x 0 (n - 1):=by
 rw[Bool.eq_iff_iff]
 simp[ca]
 omega
theorem YL {α:Type} {l:List α} (k:Nat):decide ((l.length:Int)≤(k:Int))=decide (l.length≤k):=decide_eq_decide.2 (by omega)
theorem amp {α:Type} [Inhabited α] {β:Type} [DecidableEq β] {l:List α} {f:α→β} (h: ∀i j:Int,0≤i→i<j→j<l.length→f (nth l i)≠f (nth l j)):(l.map f).Nodup:=by
 unfold List.Nodup
 rw[List.pairwise_iff_getElem]
 intro i j hi ac aQ
 simp only[List.length_map] at hi ac
 rw[List.getElem_map,List.getElem_map]
 have:=h i j (by omega) (by omega) (by omega)
 rwa [kq hi,kq ac] at this
theorem YU {α:Type} [Inhabited α] {β:Type} [DecidableEq β] {l:List α} {f:α→β} {i j:Int} (aA:0≤i) (h1:i<j) (h2:j<l.length) (he:f (nth l i)=f (nth l j)): ¬(l.map f).Nodup:=by
 intro ag
 have:=(List.pairwise_iff_getElem.1 ag) i.toNat j.toNat (by simp;omega) (by simp;omega) (by omega)
 rw[List.getElem_map,List.getElem_map,←gX (by omega),←gX (by omega)] at this
 exact this he
theorem map_id' {α:Type} (l:List α):l.map (fun x=>x)=l:=by simp
theorem yZ {l:List Int} {n:Int}:je l n=true↔l.length≤30∧(∀x∈l,ca x 0 (n - 1)=true)∧l.Nodup:=by
 unfold je;simp[and_assoc]
theorem alQ {l:List Int} {n:Int} (h: ∀j:Int,0≤j→j<l.length→(!ca (nth l j) 0 (n - 1) || hh (l.take j.toNat) (nth l j))=false):je l n=decide (l.length≤30):=by
 have h1: ∀x∈l,ca x 0 (n - 1)=true:=fun x hx=>by
  have:=oo (q:=fun x=> !ca x 0 (n - 1)) (fun j cF fX=>(Bool.or_eq_false_iff.1 (h j cF fX)).1) x hx
  simpa using this
 have h2:dup l=false:=TD fun j cF fX=>(Bool.or_eq_false_iff.1 (h j cF fX)).2
 have h2:l.Nodup:=by unfold dup at h2;simpa using h2
 rw[Bool.eq_iff_iff,yZ]
 simp only[decide_eq_true_eq]
 exact⟨fun h=>h.1,fun h=>⟨h,h1,h2⟩⟩
theorem Yo {l:List Int} {n:Int} {v:Int} (hv:v.toNat<l.length) (h:(!ca (nth l v) 0 (n - 1))=true):je l n=false:=by
 rw[←Bool.not_eq_true,yZ]
 intro bt
 have:=bt.2.1 _ (dT hv)
 simp[this] at h
theorem alP {l:List Int} {n:Int} {i j:Int} (aA:0≤i) (h1:i<j) (h2:j<l.length) (he:(nth l i==nth l j)=true):je l n=false:=by
 rw[←Bool.not_eq_true,yZ]
 intro bt
 have:=YU (f:=fun x=>x) aA h1 h2 (by simpa using he)
 rw[map_id'] at this
 exact this bt.2.2
theorem ahh {l:List Int} {v:Int} (aA:0≤v) (hv:v<l.length) (h: ∀j:Int,0≤j→j<v→(nth l j==nth l v)=false):hh (l.take v.toNat) (nth l v)=false:=by
 rw[←Bool.not_eq_true,ye]
 intro hm
 obtain⟨i,hi,he⟩:=List.mem_take_iff_getElem.1 hm
 have:=h i (by omega) (by omega)
 rw[kq (by omega),he] at this
 simp at this
theorem pQ {p:aL} {l:List c9}:n_ p l=true↔l.length≤30∧(∀x∈l,(ca x.bh 0 (p.a7.length - 1)&&ca x.bi 1 2)=true)∧(l.map (·.bh)).Nodup:=by
 unfold n_;simp[and_assoc]
def rA (p:aL) (x:c9):Bool:=(!ca x.bh 0 (p.a7.length - 1)) || (!ca x.bi 1 2)
theorem EA (p:aL) (x:c9):rA p x= !(ca x.bh 0 (p.a7.length - 1)&&ca x.bi 1 2):=by unfold rA;rw[Bool.not_and]
def EB (l:List c9) (j:Int):Bool:=(l.take j.toNat).any fun y=>y.bh==(nth l j).bh
theorem alN {p:aL} {l:List c9} (h: ∀j:Int,0≤j→j<l.length→(rA p (nth l j) || EB l j)=false):n_ p l=decide (l.length≤30):=by
 have h1: ∀x∈l,(ca x.bh 0 (p.a7.length - 1)&&ca x.bi 1 2)=true:=fun x hx=>by
  have:=oo (q:=rA p) (fun j cF fX=>(Bool.or_eq_false_iff.1 (h j cF fX)).1) x hx
  rw[EA] at this
  simpa using this
 have h2:(l.map (·.bh)).Nodup   :=amp fun i j aA h1 ac=>by
  have:=(Bool.or_eq_false_iff.1 (h j (by omega) ac)).2
  unfold EB at this
  rw[List.any_eq_false] at this
  have:=this (nth l i) (by rw[gX (by omega)];exact List.mem_take_iff_getElem.2 ⟨i.toNat,by omega,rfl⟩)
  simpa using this
 rw[Bool.eq_iff_iff,pQ]
 simp only[decide_eq_true_eq]
 exact⟨fun h=>h.1,fun h=>⟨h,h1,h2⟩⟩
theorem alO {p:aL} {l:List c9} {v:Int} (hv:v.toNat<l.length) (h:rA p (nth l v)=true):n_ p l=false:=by
 rw[←Bool.not_eq_true,pQ]
 intro bt
 rw[EA,bt.2.1 _ (dT hv)] at h
 cases h
theorem alM {p:aL} {l:List c9} {i j:Int} (aA:0≤i) (h1:i<j) (h2:j<l.length) (he:((nth l i).bh==(nth l j).bh)=true):n_ p l=false:=by
 rw[←Bool.not_eq_true,pQ]
 exact fun bt=>YU (f:=fun x:c9=>x.bh) aA h1 h2 (by simpa using he) bt.2.2
theorem alK {l:List c9} {v:Int} (aA:0≤v) (hv:v<l.length) (h: ∀j:Int,0≤j→j<v→((nth l j).bh==(nth l v).bh)=false):EB l v=false:=by
 unfold EB
 rw[List.any_eq_false]
 intro y aU
 obtain⟨i,hi,rfl⟩:=List.mem_take_iff_getElem.1 aU
 have:=h i (by omega) (by omega)
 rw[kq (by omega)] at this
 rw[this];simp
theorem al7 (a b:List Int):meets a b=meets b a:=by
 unfold meets
 rw[Bool.eq_iff_iff]
 simp only[List.any_eq_true,List.contains_iff_mem]
 exact⟨fun⟨x,h1,h2⟩=>⟨x,h2,h1⟩,fun⟨x,h1,h2⟩=>⟨x,h2,h1⟩⟩
theorem Bt (x:Int) (b:List Int):meets [x] b=b.contains x:=by unfold meets;simp
theorem rY {p:aL} {w:Way}:iS p w=true↔w.ao≠[]∧je w.ao p.ao=true∧je w.di p.ao=true∧je w.ek p.ao=true∧n_ p w.bI=true∧n_ p w.cR=true∧
  ((bV w).map (·.bh)).Nodup∧(∀x∈w.bI,w.ao.contains (nth p.a7 x.bh)=true)∧meets w.ao w.di=false:=by
 unfold iS;simp[and_assoc]
theorem OW {w:Way}:((bV w).map (·.bh)).Nodup↔(w.bI.map (·.bh)).Nodup∧(w.cR.map (·.bh)).Nodup∧ ∀x∈w.bI,∀y∈w.cR,x.bh≠y.bh:=by
 unfold bV
 rw[List.map_append,List.nodup_append]
 simp only[List.mem_map]
 constructor
 ·rintro⟨h1,h2,aC⟩;exact⟨h1,h2,fun x hx y aU=>aC _ ⟨x,hx,rfl⟩ _ ⟨y,aU,rfl⟩⟩
 ·rintro⟨h1,h2,aC⟩
  refine⟨h1,h2,?_⟩
  rintro a ⟨x,hx,rfl⟩ b ⟨y,aU,rfl⟩
  exact aC x hx y aU
def my (p:aL):Bool:=ca p.ao 1 60&&ca p.cB 1 300&&decide (p.a7.length≤40)&&decide (p.O.length≤100)
theorem O9 {p:aL} (h:my p=false):iJ p=⟨1,0⟩:=by
 unfold iJ;unfold my at h;rw[if_neg (by rw[h];simp)]
theorem O_ {p:aL} (h:my p=true):iJ p=BL p:=by
 unfold iJ;unfold my at h;rw[if_pos h]
theorem Zq {p:aL} {k:Nat} (hb:my p=true) (h:first p.a7 (fun s=> !ca s 0 (p.ao - 1))=some k):iJ p=⟨2,k⟩:=by rw[O_ hb];unfold BL;rw[h]
theorem Zt {p:aL} (hb:my p=true) (h:first p.a7 (fun s=> !ca s 0 (p.ao - 1))=none):iJ p=BM p:=by rw[O_ hb];unfold BL;rw[h]
theorem Zr {p:aL} {k:Nat} (hb:my p=true) (h:first p.a7 (fun s=> !ca s 0 (p.ao - 1))=none) (hw:first p.O (fun w=> !iS p w)=some k):iJ p=⟨3,k⟩:=by rw[Zt hb h];unfold BM;rw[hw]
theorem Zs {p:aL} (hb:my p=true) (h:first p.a7 (fun s=> !ca s 0 (p.ao - 1))=none) (hw:first p.O (fun w=> !iS p w)=none):iJ p=rD p:=by rw[Zt hb h];unfold BM;rw[hw]
theorem Zp {p:aL} (h:p.bG.length≠p.O.length):rD p=⟨4,0⟩:=by unfold rD;rw[if_neg h]
theorem Zn {p:aL} {k:Nat} (h:p.bG.length=p.O.length) (hb:first p.bG (fun b=>decide (b.length≠p.O.length))=some k):rD p=⟨4,k⟩:=by unfold rD;rw[if_pos h,hb]
theorem Zo {p:aL} {k:Nat} (h:p.bG.length=p.O.length) (hb:first p.bG (fun b=>decide (b.length≠p.O.length))=none) (U:first (List.range p.O.length) (fun i=>(List.range p.O.length).any fun k=>r5 p i k)=some k):rD p=⟨5,k⟩:=by
 unfold rD;rw[if_pos h,hb];simp only;rw[U]
theorem Zm {p:aL} (h:p.bG.length=p.O.length) (hb:first p.bG (fun b=>decide (b.length≠p.O.length))=none) (U:first (List.range p.O.length) (fun i=>(List.range p.O.length).any fun k=>r5 p i k)=none):rD p=⟨0,0⟩:=by
 unfold rD;rw[if_pos h,hb];simp only;rw[U]
theorem w2 {p:aL}:my p=true↔(1≤p.ao∧p.ao≤60)∧(1≤p.cB∧p.cB≤300)∧p.a7.length≤40∧p.O.length≤100:=by
 unfold my ca;simp[and_assoc]
theorem Ud {n:Nat} {q:Nat→Bool} {v:Int} (aA:0≤v) (hv:v<n) (h: ∀j:Int,0≤j→j<v→q j.toNat=false) (U:q v.toNat=true):first (List.range n) q=some v.toNat:=by
 unfold first
 rw[List.findIdx?_eq_some_iff_getElem]
 refine⟨by simp;omega,by simpa using U,fun j ac=> ?_⟩
 have:=h j (by omega) (by omega)
 simpa using this
theorem Uc {n:Nat} {q:Nat→Bool} (h: ∀j:Int,0≤j→j<n→q j.toNat=false):first (List.range n) q=none:=by
 unfold first
 rw[List.findIdx?_eq_none_iff]
 intro x hx
 have:=h x (by omega) (by have:=List.mem_range.1 hx;omega)
 simpa using this
theorem SQ {n:Nat} {q:Nat→Bool} {v:Int} (aA:0≤v) (hv:v<n) (h:q v.toNat=true):(List.range n).any q=true:=by
 rw[List.any_eq_true];exact⟨v.toNat,List.mem_range.2 (by omega),h⟩
theorem YK {n:Nat} {q:Nat→Bool} (h: ∀j:Int,0≤j→j<n→q j.toNat=false):(List.range n).any q=false:=by
 rw[List.any_eq_false]
 intro x hx
 have:=h x (by omega) (by have:=List.mem_range.1 hx;omega)
 simp only[Int.toNat_natCast] at this
 rw[this];simp
theorem lG {α:Type} [Inhabited α] {xs:List α} {i:Int} (h:0≤i):nth xs (i.toNat:Int)=nth xs i:=by rw[Int.toNat_of_nonneg h]
theorem alJ (p:aL) (x:c9):((decide (x.bh<0)) || ((decide (x.bh ≥ (p.a7.length:Int))) || ((x.bi !=1)&&(x.bi !=2))))=rA p x:=by
 unfold rA
 rw[←PH,Bool.or_assoc]
 congr 2
 rw[Bool.eq_iff_iff]
 simp[ca]
 omega
def su (p:aL) (w:Way) (j:Int):Bool:=rA p (nth (bV w) j) || (decide (j<(w.bI.length:Int))&& !(hh w.ao (nth p.a7 (nth (bV w) j).bh)))
theorem YM {w:Way} {j:Int} (aA:0≤j) (h:j<w.bI.length):nth (bV w) j=nth w.bI j:=by
 rw[gX (xs:=w.bI) (by omega),gX (by unfold bV;rw[List.length_append];omega)]
 unfold bV
 rw[List.getElem_append_left]
theorem agH {p:aL} {w:Way} (h:iS p w=true): ∀l∈[w.ao,w.di,w.ek],je l p.ao=true:=by
 obtain⟨-,h1,h2,aC,-⟩:=rY.1 h
 intro l au
 simp only[List.mem_cons,List.not_mem_nil,or_false] at au
 rcases au with rfl | rfl | rfl
 ·exact h1
 ·exact h2
 ·exact aC
theorem agI {p:aL} {w:Way} (h:iS p w=true) {j:Int} (aA:0≤j) (ac:j.toNat<(bV w).length):su p w j=false:=by
 obtain⟨-,-,-,-,bg,ch,-,cy,-⟩:=rY.1 h
 have hm:=dT ac
 have hb:rA p (nth (bV w) j)=false:=by
  rw[EA]
  unfold bV at hm ⊢
  rcases List.mem_append.1 hm with hm | hm
  ·rw[(pQ.1 bg).2.1 _ hm];rfl
  ·rw[(pQ.1 ch).2.1 _ hm];rfl
 unfold su
 rw[hb,Bool.false_or]
 by_cases au:j<(w.bI.length:Int)
 ·rw[YM aA au]
  have:hh w.ao (nth p.a7 (nth w.bI j).bh)=true:=cy _ (dT (by omega))
  rw[this];simp
 ·simp[au]
theorem agG {p:aL} {w:Way} (h1:w.ao≠[]) (au: ∀l∈[w.ao,w.di,w.ek],je l p.ao=true) (aC:w.bI.length≤30) (bg:w.cR.length≤30)
  (ag: ∀j:Int,0≤j→j<(bV w).length→su p w j=false):((!(dup ((bV w).map (·.bh))))&&(!(meets w.ao w.di)))=iS p w:=by
 have hb: ∀x∈bV w,(ca x.bh 0 (p.a7.length - 1)&&ca x.bi 1 2)=true:=fun x hx=>by
  have:=oo (q:=rA p) (fun j cF fX=>by have:=ag j cF fX;unfold su at this;exact(Bool.or_eq_false_iff.1 this).1) x hx
  rw[EA] at this
  simpa using this
 have hc: ∀x∈w.bI,w.ao.contains (nth p.a7 x.bh)=true:=fun x hx=>by
  have:=oo (q:=fun x=> !(hh w.ao (nth p.a7 x.bh))) (fun j cF fX=>by
   have:=ag j cF (by unfold bV;rw[List.length_append];omega)
   unfold su at this
   have:=(Bool.or_eq_false_iff.1 this).2
   rw[YM cF fX] at this
   simpa[fX] using this) x hx
  simp only[Bool.not_eq_false'] at this
  exact this
 rw[Bool.eq_iff_iff,rY]
 simp only[Bool.and_eq_true,Bool.not_eq_true',dup,Bool.not_eq_false',decide_eq_true_eq]
 constructor
 ·rintro⟨aY,hm⟩
  have pD:=OW.1 aY
  exact⟨h1,au _ (by simp),au _ (by simp),au _ (by simp),pQ.2 ⟨aC,fun x hx=>hb x (by unfold bV;exact List.mem_append_left _ hx),pD.1⟩,pQ.2 ⟨bg,fun x hx=>hb x (by unfold bV;exact List.mem_append_right _ hx),pD.2.1⟩,aY,hc,hm⟩
 ·rintro⟨-,-,-,-,-,-,aY,-,hm⟩
  exact⟨aY,hm⟩
theorem SZ {p:aL} {i k:Int} (aA:0≤i) (h1:0≤k):(((nth (nth p.bG i) k) !=(nth (nth p.bG k) i)) || ((i !=k)&&((!(nth (nth p.bG i) k))&&(meets (nth p.O i).ao (nth p.O k).ao))))=r5 p i.toNat k.toNat:=by
 unfold r5 vS
 rw[Int.toNat_of_nonneg aA,Int.toNat_of_nonneg h1]
 have:(i !=k)=decide (i.toNat≠k.toNat):=by
  rw[Bool.eq_iff_iff];simp;omega
 rw[this,Bool.and_assoc]
def tC (n:Int) (e:Event):Bool:=decide (e.aG ≥ 0)&&decide (e.aG<n)
theorem EO (x a b:Int):(bif (x==a) then(x==a) else(x==b))=decide (x=a∨x=b):=by
 by_cases h:x=a
 ·simp[h]
 ·have h1:(x==a)=false:=by simp[h]
  rw[h1,Bool.eq_iff_iff]
  simp[h]
theorem LG {p:aL} {e:Event} (h:e.op=1∨e.op=2):fD p e=(ca e.aG 0 (p.O.length - 1)&&decide (e.bi=0)):=by unfold fD;rw[if_pos h]
theorem LH {p:aL} {e:Event} (h1: ¬(e.op=1∨e.op=2)) (h:e.op=3∨e.op=4):fD p e=(ca e.aG 0 (p.ao - 1)&&decide (e.bi=0)):=by unfold fD;rw[if_neg h1,if_pos h]
theorem G3 {p:aL} {e:Event} (h:e.op=5):fD p e=(ca e.aG 0 (p.a7.length - 1)&&ca e.bi 0 2):=by unfold fD;simp[h]
theorem G4 {p:aL} {e:Event} (h:e.op=6):fD p e=(ca e.aG 0 (p.a7.length - 1)&&ca e.bi 1 2):=by unfold fD;simp[h]
theorem TP {p:aL} {e:Event} (h:e.op=7):fD p e=(decide (e.aG=0)&&decide (e.bi=0)):=by unfold fD;simp[h]
theorem TR {p:aL} {e:Event} (h1: ¬(e.op=1∨e.op=2)) (aC: ¬(e.op=3∨e.op=4)) (ch:e.op≠5) (cy:e.op≠6) (hr:e.op≠7):fD p e=false:=by unfold fD;rw[if_neg h1,if_neg aC,if_neg ch,if_neg cy,if_neg hr]
theorem sV (x y:Int):(x==y)=decide (x=y):=by rw[Bool.eq_iff_iff];simp
theorem RT (n:Int) (e:Event):tC n e=ca e.aG 0 (n - 1):=by
 unfold tC ca
 rw[Bool.eq_iff_iff];simp;omega
theorem amY (p:aL):((iJ p).code==0)=eD p:=by
 have key:(iJ p).code=0→(iJ p).pos=0:=by
  unfold iJ BL BM rD
  split
  ·split
   ·intro h;cases h
   ·split
    ·intro h;cases h
    ·split
     ·split
      ·intro h;cases h
      ·split
       ·intro h;cases h
       ·intro _;rfl
     ·intro h;cases h
  ·intro h;cases h
 unfold eD
 rw[Bool.eq_iff_iff]
 simp only[beq_iff_eq,decide_eq_true_eq]
 constructor
 ·intro h
  have:=key h
  cases U:iJ p with
  | mk c q=>rw[U] at h this;simp at h this;rw[h,this]
 ·intro h;rw[h]
theorem amX (p:aL):((iJ p).code==0&&(iJ p).pos==0)=eD p:=by
 unfold eD
 rw[Bool.eq_iff_iff]
 simp only[Bool.and_eq_true,beq_iff_eq,decide_eq_true_eq]
 constructor
 ·rintro⟨h1,h2⟩
  cases U:iJ p with
  | mk c q=>rw[U] at h1 h2;simp at h1 h2;rw[h1,h2]
 ·intro h;rw[h];exact⟨rfl,rfl⟩
theorem amW {p:aL} (h:eD p=true):my p=true:=by
 cases hb:my p with
 | true=>rfl
 | false=>unfold eD at h;rw[O9 hb] at h;simp at h
def iu (f:Frame):Prop:=f.aE.length≤1048576∧f.ay.length≤1048576∧f.O.length≤1048576∧ ∀h∈f.O,h.ae.length≤1048576
structure us (p:aL):Prop where
 cY:0≤p.ao∧p.ao≤60
 O:p.O.length≤100
 bh:p.a7.length≤40
 ao: ∀w∈p.O,w.ao≠[]∧w.ao.length≤30∧ ∀x∈w.ao,0≤x∧x<p.ao
 di: ∀w∈p.O,w.di.length≤30∧ ∀x∈w.di,0≤x∧x<p.ao
 ek: ∀w∈p.O,w.ek.length≤30∧ ∀x∈w.ek,0≤x∧x<p.ao
 bI: ∀w∈p.O,w.bI.length≤30∧w.cR.length≤30∧ ∀x∈bV w,0≤x.bh∧x.bh<p.a7.length
 a7: ∀x∈p.a7,0≤x∧x<p.ao
structure iT (p:aL) (f:Frame):Prop where
 aE:(f.aE.length:Int)=p.ao
 ay:f.ay.length=p.a7.length
 O:f.O.length=p.O.length
 ae: ∀(i:Nat) (h:av) (w:Way),f.O[i]?=some h→p.O[i]?=some w→h.ae.length=w.ao.length
 bc: ∀h∈f.O,0≤h.bc∧h.bc≤h.ae.length
def ey (f:Frame) (x:Int):Bool:=nth f.aE x
def hU (f:Frame) (l:List Int):Bool:=l.any (ey f)
def zp (f:Frame) (l:List Int):Prop:= ∀x∈l,0≤x∧x<f.aE.length
def hn (p:aL) (f:Frame) (i:Int):Bool:=
 (bV (nth p.O i)).all (fun l=>decide (nth f.ay l.bh=⟨l.bi,l.bi⟩))&& !hU f (nth p.O i).ao&& !hU f (nth p.O i).di
def BO (p:aL) (f:Frame) (i:Int):Prop:=us p∧iT p f∧0≤i∧i<p.O.length
def hR (n:Nat):av:=⟨0,0,List.replicate n false,false,0⟩
def c7 (p:aL) (i:Int):av:=hR (nth p.O i).ao.length
def A4 (p:aL) (i:Int):Prop:=us p∧0≤i∧i<p.O.length
def hg (s:List Int) (f:Frame) (ae:List Bool):Nat→Nat→Nat
 | 0,g=>g
 | n+1,g=>if g<s.length∧ae.getD g false=true∧ey f (s.getD g 0)=false∧(g+1=s.length∨ae.getD (g+1) false=true) then hg s f ae n (g+1) else g
def iI (s:List Int) (f:Frame) (h:av):av:=
 let ae:=List.zipWith (fun b x=>b || ey f x) h.ae s
 let g:=hg s f ae s.length h.bc.toNat
 if g=s.length then hR s.length else{h with ae:=ae,bc:=g}
def nN (p:aL) (f:Frame) (i:Nat):av:=
 let h:=nth f.O i
 let s:=(nth p.O i).ao
 if h.aF=0 then h else
 let h:=if h.aF≠4∧ey f (nth s 0)=true then{h with aF:=4,bU:=0} else h
 let h:=if h.aF=1∨h.aF=2 then(if hn p f i=true then{h with aF:=2,bW:=true} else{h with aF:=1}) else h
 if h.aF=4 then iI s f h else h
def jC (p:aL):Nat→Frame→Frame
 | 0,f=>f
 | n+1,f=>let g:=jC p n f;{g with O:=g.O.set n (nN p g n)}
def dV (p:aL) (f:Frame):Frame:=jC p f.O.length f
def Jp (p:aL) (f:Frame):Prop:=us p∧iT p f
structure dl (V:List av) (ids:List Nat) (v:Int) (h:av) (ws:List av) (bs:List (List Bool)):Prop where
 ok:ll ws ids bs
 lE: ∀i j k:Nat,ids[i]?=some k→ids[j]?=some k→i=j
 lt:v.toNat<ws.length
 ib:view ws ids bs=V.set v.toNat h
 len: ∀b∈bs,b.length≤1048576
section
variable {V:List av} {ids:List Nat} {v:Int} {h:av} {ws:List av} {bs:List (List Bool)}
theorem dl.fY (F:dl V ids v h ws bs):ws.length=ids.length∧v.toNat<ws.length:=⟨F.ok.len,F.lt⟩
theorem dl.xB (F:dl V ids v h ws bs):V.length=ws.length:=by
 have:=congrArg List.length F.ib
 rw[jT F.ok,List.length_set] at this;exact this.symm
theorem dl.id (F:dl V ids v h ws bs):ids[v.toNat]?=some (nth ids v):=hT (by rw[←F.ok.len];exact F.lt)
theorem dl.tt (F:dl V ids v h ws bs):nth ids v<bs.length:=F.ok.lt _ _ F.id
theorem dl.row (F:dl V ids v h ws bs):h={nth ws v with ae:=bs.getD (nth ids v) []}:=by
 have h1:=xA (bs:=bs) (hT F.lt) F.id
 rw[F.ib,List.getElem?_set_self (by rw[F.xB];exact F.lt)] at h1
 exact Option.some.inj h1
theorem dl.aF (F:dl V ids v h ws bs):(nth ws v).aF=h.aF:=by rw[F.row]
theorem dl.bc (F:dl V ids v h ws bs):(nth ws v).bc=h.bc:=by rw[F.row]
theorem dl.bW (F:dl V ids v h ws bs):(nth ws v).bW=h.bW:=by rw[F.row]
theorem dl.bU (F:dl V ids v h ws bs):(nth ws v).bU=h.bU:=by rw[F.row]
theorem dl.ae (F:dl V ids v h ws bs):bs.getD (nth ids v) []=h.ae:=by rw[F.row]
theorem dl.sW (F:dl V ids v h ws bs):(nth ws v).ae.length=h.ae.length:=by
 rw[←F.ae];exact F.ok.ae _ _ _ (hT F.lt) F.id
theorem dl.start (ok:ll ws ids bs) (lE: ∀i j k:Nat,ids[i]?=some k→ids[j]?=some k→i=j) (lt:v.toNat<ws.length) (ib:view ws ids bs=V) (len: ∀b∈bs,b.length≤1048576):dl V ids v (nth V v) ws bs:=by
 have au:v.toNat<V.length:=by rw[←ib,jT ok];exact lt
 exact⟨ok,lE,lt,by rw[ib,gX au];exact(List.set_getElem_self _).symm,len⟩
theorem dl.tU (F:dl V ids v h ws bs) (x:av) (hx:x.ae.length=h.ae.length):dl V ids v {x with ae:=h.ae} (ws.set v.toNat x) bs where
 ok:=⟨by rw[List.length_set];exact F.ok.len,F.ok.lt,fun i id y h1 h2=>by
  rw[List.getElem?_set] at h1
  split at h1
  ·rename_i e;subst e
   rw[if_pos F.lt] at h1;cases h1
   rw[F.id] at h2;cases h2
   rw[hx,F.ae]
  ·exact F.ok.ae i id y h1 h2⟩
 lE:=F.lE
 lt:=by rw[List.length_set];exact F.lt
 ib:=by
  apply List.ext_getElem?
  intro j
  have ac:=congrArg (·[j]?) F.ib
  simp only[view,List.getElem?_zipWith,List.getElem?_set] at ac ⊢
  by_cases e:v.toNat=j
  ·subst e
   have hv:=F.xB
   have:=F.lt
   rw[if_pos rfl,if_pos rfl,if_pos this,if_pos (by omega),F.id]
   show some _=some _
   rw[F.ae]
  ·rw[if_neg e] at ac ⊢
   rw[if_neg e];exact ac
 len:=F.len
theorem dl.setState (F:dl V ids v h ws bs) (x:Int):dl V ids v {h with aF:=x} (ws.set v.toNat ({aF:=x,bc:=(nth ws v).bc,ae:=(nth ws v).ae,bW:=(nth ws v).bW,bU:=(nth ws v).bU}:av)) bs:=by
 have:=F.tU ({aF:=x,bc:=(nth ws v).bc,ae:=(nth ws v).ae,bW:=(nth ws v).bW,bU:=(nth ws v).bU}:av) F.sW
 simpa only[F.bc,F.bW,F.bU] using this
theorem dl.aaq (F:dl V ids v h ws bs) (x:Int):dl V ids v {h with bc:=x} (ws.set v.toNat ({aF:=(nth ws v).aF,bc:=x,ae:=(nth ws v).ae,bW:=(nth ws v).bW,bU:=(nth ws v).bU}:av)) bs:=by
 have:=F.tU ({aF:=(nth ws v).aF,bc:=x,ae:=(nth ws v).ae,bW:=(nth ws v).bW,bU:=(nth ws v).bU}:av) F.sW
 simpa only[F.aF,F.bW,F.bU] using this
theorem dl.aau (F:dl V ids v h ws bs) (x:Bool):dl V ids v {h with bW:=x} (ws.set v.toNat ({aF:=(nth ws v).aF,bc:=(nth ws v).bc,ae:=(nth ws v).ae,bW:=x,bU:=(nth ws v).bU}:av)) bs:=by
 have:=F.tU ({aF:=(nth ws v).aF,bc:=(nth ws v).bc,ae:=(nth ws v).ae,bW:=x,bU:=(nth ws v).bU}:av) F.sW
 simpa only[F.aF,F.bc,F.bU] using this
theorem dl.B3 (F:dl V ids v h ws bs) (x:Int):dl V ids v {h with bU:=x} (ws.set v.toNat ({aF:=(nth ws v).aF,bc:=(nth ws v).bc,ae:=(nth ws v).ae,bW:=(nth ws v).bW,bU:=x}:av)) bs:=by
 have:=F.tU ({aF:=(nth ws v).aF,bc:=(nth ws v).bc,ae:=(nth ws v).ae,bW:=(nth ws v).bW,bU:=x}:av) F.sW
 simpa only[F.aF,F.bc,F.bW] using this
theorem dl.PS (F:dl V ids v h ws bs) (b:List Bool) (hb:b.length=h.ae.length):dl V ids v {h with ae:=b} ws (bs.set (nth ids v) b) where
 ok:=⟨F.ok.len,fun i id hi=>by rw[List.length_set];exact F.ok.lt i id hi,fun i id y h1 h2=>by
  rw[F.ok.ae i id y h1 h2,List.getD_eq_getElem?_getD,List.getD_eq_getElem?_getD,List.getElem?_set]
  split
  ·rename_i e;subst e
   rw[if_pos F.tt,←List.getD_eq_getElem?_getD,F.ae];exact hb.symm
  ·rfl⟩
 lE:=F.lE
 lt:=F.lt
 ib:=by
  apply List.ext_getElem?
  intro j
  have ac:=congrArg (·[j]?) F.ib
  simp only[view,List.getElem?_zipWith,List.getElem?_set] at ac ⊢
  by_cases e:v.toNat=j
  ·subst e
   have hv:=F.xB
   have:=F.lt
   rw[if_pos rfl,if_pos (by omega),F.id,hT F.lt]
   simp only[List.getD_eq_getElem?_getD,List.getElem?_set,if_pos F.tt]
   rw[F.row];simp
  ·rw[if_neg e] at ac ⊢
   rw[←ac]
   cases h1:ws[j]? with
   | none=>rfl
   | some y=>
    cases h2:ids[j]? with
    | none=>rfl
    | some id=>
     have b7:nth ids v≠id:=fun hid=>by
      have aC:=F.id
      rw[hid] at aC
      exact e (F.lE _ _ _ aC h2)
     simp only[List.getD_eq_getElem?_getD,List.getElem?_set,if_neg b7]
 len:=fun x hx=>by
  rcases List.mem_or_eq_of_mem_set hx with hx | rfl
  ·exact F.len x hx
  ·rw[hb,←F.ae,List.getD_eq_getElem?_getD,List.getElem?_eq_getElem F.tt];exact F.len _ (List.getElem_mem F.tt)
theorem dl.new (F:dl V ids v h ws bs) (x:av) (hx:x.ae.length≤1048576):dl V (ids.set v.toNat bs.length) v x (ws.set v.toNat x) (bs++[x.ae]) where
 ok:=⟨by rw[List.length_set,List.length_set];exact F.ok.len,fun i id hi=>by
   rw[List.getElem?_set] at hi
   rw[List.length_append,List.length_singleton]
   split at hi
   ·split at hi
    ·cases hi;omega
    ·cases hi
   ·have:=F.ok.lt i id hi;omega,fun i id y h1 h2=>by
   rw[List.getElem?_set] at h1 h2
   split at h1
   ·rename_i e;subst e
    have:=F.ok.len
    have:=F.lt
    rw[if_pos F.lt] at h1;rw[if_pos rfl,if_pos (by omega)] at h2
    cases h1;cases h2;simp
   ·rename_i e
    rw[if_neg e] at h2
    rw[F.ok.ae i id y h1 h2,List.getD_eq_getElem?_getD,List.getD_eq_getElem?_getD,List.getElem?_append_left (F.ok.lt i id h2)]⟩
 lE:=fun i j k hi ac=>by
  rw[List.getElem?_set] at hi ac
  have aQ: ∀q,ids[q]?≠some bs.length:=fun q U=>by have:=F.ok.lt q _ U;omega
  split at hi
  ·rename_i e;subst e
   split at hi
   ·cases hi
    split at ac
    ·rename_i e;exact e
    ·exact absurd ac (aQ j)
   ·cases hi
  ·split at ac
   ·rename_i e;subst e
    split at ac
    ·cases ac;exact absurd hi (aQ i)
    ·cases ac
   ·exact F.lE i j k hi ac
 lt:=by rw[List.length_set];exact F.lt
 ib:=by
  apply List.ext_getElem?
  intro j
  have ac:=congrArg (·[j]?) F.ib
  simp only[view,List.getElem?_zipWith,List.getElem?_set] at ac ⊢
  by_cases e:v.toNat=j
  ·subst e
   have hv:=F.xB
   have:=F.lt
   have:=F.ok.len
   rw[if_pos rfl,if_pos rfl,if_pos rfl,if_pos F.lt,if_pos (by omega),if_pos (by omega)]
   simp
  ·rw[if_neg e] at ac ⊢
   rw[if_neg e,if_neg e,←ac]
   cases h1:ws[j]? with
   | none=>rfl
   | some y=>
    cases h2:ids[j]? with
    | none=>rfl
    | some id=>
     simp only
     rw[List.getD_eq_getElem?_getD,List.getD_eq_getElem?_getD,List.getElem?_append_left (F.ok.lt j id h2)]
 len:=fun b hb=>by
  rcases List.mem_append.1 hb with hb | hb
  ·exact F.len b hb
  ·rw[List.mem_singleton.1 hb];exact hx
end
theorem x5 (ws:List av):ll ws (List.range ws.length) (ws.map av.ae)∧(∀i j k:Nat,(List.range ws.length)[i]?=some k→(List.range ws.length)[j]?=some k→i=j)∧view ws (List.range ws.length) (ws.map av.ae)=ws:=by
 refine⟨⟨by simp,fun i id h=> ?_,fun i id h h1 h2=> ?_⟩,fun i j k h1 h2=> ?_,?_⟩
 ·obtain⟨hi,rfl⟩:=List.getElem?_eq_some_iff.1 h
  simpa using hi
 ·obtain⟨hi,rfl⟩:=List.getElem?_eq_some_iff.1 h2
  simp[h1]
 ·obtain⟨hi,rfl⟩:=List.getElem?_eq_some_iff.1 h1
  obtain⟨ac,e⟩:=List.getElem?_eq_some_iff.1 h2
  simpa using e.symm
 ·apply List.ext_getElem?
  intro j
  unfold view
  rw[List.getElem?_zipWith]
  rcases Nat.lt_or_ge j ws.length with ac | ac
  ·rw[List.getElem?_range ac,List.getElem?_eq_getElem ac]
   simp[ac]
  ·rw[List.getElem?_eq_none ac]
theorem vr (p:aL) (f:Frame): ∀n,(jC p n f).ok=f.ok∧(jC p n f).aE=f.aE∧(jC p n f).ay=f.ay
 | 0=>⟨rfl,rfl,rfl⟩
 | n+1=>vr p f n
theorem L_ {s:List Int} {f:Frame} {ae:List Bool}: ∀(n g:Nat),g≤s.length→g≤hg s f ae n g∧hg s f ae n g≤s.length
 | 0,g,h=>⟨Nat.le_refl _,h⟩
 | n+1,g,h=>by
  unfold hg
  split
  ·rename_i hc
   have:=L_ (f:=f) (ae:=ae) n (g+1) hc.1
   exact⟨by omega,this.2⟩
  ·exact⟨Nat.le_refl _,h⟩
theorem amN {s:List Int} {f:Frame} {h:av} (hb:h.ae.length=s.length) (az:0≤h.bc∧h.bc≤h.ae.length):(iI s f h).ae.length=s.length∧0≤(iI s f h).bc∧(iI s f h).bc≤(iI s f h).ae.length:=by
 unfold iI
 simp only
 have au:(List.zipWith (fun b x=>b || ey f x) h.ae s).length=s.length:=by rw[List.length_zipWith];omega
 have bt:=(L_ (s:=s) (f:=f) (ae:=List.zipWith (fun b x=>b || ey f x) h.ae s) s.length h.bc.toNat (by omega)).2
 split
 ·simp[hR]
 ·exact⟨au,Int.natCast_nonneg _,by simp only;rw[au];omega⟩
theorem apL {p:aL} {f:Frame} {i:Nat} (hb:(nth f.O i).ae.length=(nth p.O i).ao.length) (az:0≤(nth f.O i).bc∧(nth f.O i).bc≤(nth f.O i).ae.length):
  (nN p f i).ae.length=(nth p.O i).ao.length∧0≤(nN p f i).bc∧(nN p f i).bc≤(nN p f i).ae.length:=by
 unfold nN
 simp only
 split
 ·exact⟨hb,az⟩
 ·have h1: ∀(c:Prop) [Decidable c] (x y:av),x.ae=y.ae→x.bc=y.bc→(if c then x else y).ae=y.ae∧(if c then x else y).bc=y.bc:=fun c _ x y aN e2=>by
   split
   ·exact⟨aN,e2⟩
   ·exact⟨rfl,rfl⟩
  generalize cm:(if(nth f.O i).aF≠4∧ey f (nth (nth p.O i).ao 0)=true then{nth f.O i with aF:=4,bU:=0} else nth f.O i)=A
  have oG:A.ae=(nth f.O i).ae∧A.bc=(nth f.O i).bc:=by rw[←cm];exact h1 _ _ _ rfl rfl
  generalize dF:(if A.aF=1∨A.aF=2 then(if hn p f i=true then{A with aF:=2,bW:=true} else{A with aF:=1}) else A)=B
  have Md:B.ae=(nth f.O i).ae∧B.bc=(nth f.O i).bc:=by
   rw[←dF,←oG.1,←oG.2]
   exact h1 _ _ _ (by split<;>rfl) (by split<;>rfl)
  have aN:B.ae.length=(nth p.O i).ao.length:=by rw[Md.1];exact hb
  have e2:0≤B.bc∧B.bc≤B.ae.length:=by rw[Md.1,Md.2];exact az
  split
  ·exact amN aN e2
  ·exact⟨aN,e2⟩
theorem zm {p:aL} {f:Frame} (h:iT p f): ∀n,iT p (jC p n f)
 | 0=>h
 | n+1=>by
  have bp:=zm h n
  show iT p {jC p n f with O:=(jC p n f).O.set n (nN p (jC p n f) n)}
  have key:n<(jC p n f).O.length→(nN p (jC p n f) n).ae.length=(nth p.O n).ao.length∧0≤(nN p (jC p n f) n).bc∧(nN p (jC p n f) n).bc≤(nN p (jC p n f) n).ae.length:=fun ag=>by
   have hw:=bp.O
   have h1:(jC p n f).O[n]?=some (nth (jC p n f).O n):=by rw[kq ag];exact List.getElem?_eq_getElem ag
   have h2:p.O[n]?=some (nth p.O n):=by rw[kq (by omega)];exact List.getElem?_eq_getElem (by omega)
   exact apL (bp.ae n _ _ h1 h2) (bp.bc _ (List.mem_of_getElem? h1))
  refine⟨bp.aE,bp.ay,by rw[List.length_set];exact bp.O,fun i x w h1 h2=> ?_,fun x hx=> ?_⟩
  ·replace h1:((jC p n f).O.set n (nN p (jC p n f) n))[i]?=some x:=h1
   rw[List.getElem?_set] at h1
   split at h1
   ·rename_i e;subst e
    split at h1
    ·rename_i ag
     cases h1
     have hw:=bp.O
     rw[(key ag).1,kq (by omega)]
     rw[List.getElem?_eq_getElem (by omega)] at h2
     cases h2;rfl
    ·cases h1
   ·exact bp.ae i x w h1 h2
  ·rcases List.mem_or_eq_of_mem_set hx with hx | rfl
   ·exact bp.bc x hx
   ·by_cases ag:n<(jC p n f).O.length
    ·exact(key ag).2
    ·rw[List.set_eq_of_length_le (by omega)] at hx
     exact bp.bc _ hx
theorem rJ (p:aL) (f:Frame): ∀n,(jC p n f).O.length=f.O.length
 | 0=>rfl
 | n+1=>by show((jC p n f).O.set n _).length=_;rw[List.length_set];exact rJ p f n
theorem Pe {p:aL} {f g:Frame} {i:Int} (h1:f.aE=g.aE) (h2:f.ay=g.ay):hn p f i=hn p g i:=by
 unfold hn hU ey
 rw[h1,h2]
def lg (s:List Int) (f:Frame) (b:List Bool) (v:Nat):List Bool:=List.zipWith (fun b x=>b || ey f x) (b.take v) (s.take v)++b.drop v
theorem R3 {s:List Int} {f:Frame} {b:List Bool} {v:Nat} (au:b.length=s.length) (hv:v≤s.length):(lg s f b v).length=b.length:=by
 unfold lg
 rw[List.length_append,List.length_zipWith,List.length_take,List.length_take,List.length_drop];omega
theorem acA (s:List Int) (f:Frame) (b:List Bool):lg s f b 0=b:=by simp[lg]
theorem acC {s:List Int} {f:Frame} {b:List Bool} {v:Nat} (au:b.length=s.length) (hv:s.length≤v):lg s f b v=List.zipWith (fun b x=>b || ey f x) b s:=by
 unfold lg
 rw[List.take_of_length_le (by omega),List.take_of_length_le hv,List.drop_of_length_le (by omega),List.append_nil]
theorem acB {s:List Int} {f:Frame} {b:List Bool} {v:Nat} (au:b.length=s.length) (hv:v<s.length):nth (lg s f b v) v=b[v]:=by
 rw[kq (by rw[R3 au (by omega)];omega)]
 unfold lg
 rw[List.getElem_append_right (by rw[List.length_zipWith,List.length_take,List.length_take];omega)]
 simp only[List.length_zipWith,List.length_take,List.getElem_drop]
 congr 1;omega
theorem acD {s:List Int} {f:Frame} {b:List Bool} {v:Nat} (au:b.length=s.length) (hv:v<s.length):(lg s f b v).set v (b[v] || ey f s[v])=lg s f b (v+1):=by
 unfold lg
 have hlen:(List.zipWith (fun b x=>b || ey f x) (b.take v) (s.take v)).length=v:=by rw[List.length_zipWith,List.length_take,List.length_take];omega
 rw[List.set_append_right _ _ (by omega),hlen,Nat.sub_self,List.take_succ_eq_append_getElem (by omega),List.take_succ_eq_append_getElem hv,List.zipWith_append (by rw[List.length_take,List.length_take];omega),List.append_assoc]
 congr 1
 rw[List.drop_eq_getElem_cons (by omega:v<b.length)]
 rfl
def pA (s:List Int) (f:Frame) (ae:List Bool) (g:Int):Bool:=
 decide (g<(s.length:Int))&&(nth ae g&&((!(nth f.aE (nth s g)))&&((g==IntKind.i64.wrap ((s.length:Int) - 1)) || nth ae (IntKind.i64.wrap (g+1)))))
theorem Uv {s:List Int} {f:Frame} {ae:List Bool} {g:Nat} (hs:s.length≤1048576) (az:g≤s.length):
  pA s f ae g=true↔g<s.length∧ae.getD g false=true∧ey f (s.getD g 0)=false∧(g+1=s.length∨ae.getD (g+1) false=true):=by
 unfold pA
 rw[jH (by omega) (by omega),jH (by omega) (by omega)]
 have aN:nth ae (g:Int)=ae.getD g false:=rfl
 have e2:nth ae ((g:Int)+1)=ae.getD (g+1) false:=rfl
 have dc:nth s (g:Int)=s.getD g 0:=rfl
 rw[aN,e2,dc]
 simp only[Bool.and_eq_true,Bool.or_eq_true,decide_eq_true_eq,Bool.not_eq_true',beq_iff_eq]
 constructor
 ·rintro⟨h1,h2,aC,bg⟩;exact⟨by omega,h2,aC,bg.imp (fun h=>by omega) _root_.id⟩
 ·rintro⟨h1,h2,aC,bg⟩;exact⟨by omega,h2,aC,bg.imp (fun h=>by omega) _root_.id⟩
def Az (s:List Int) (f:Frame) (ae:List Bool) (g0 g:Int):Prop:=0≤g∧g≤s.length∧hg s f ae s.length g0.toNat=hg s f ae (s.length - g.toNat) g.toNat
theorem Hj {s:List Int} {f:Frame} {ae:List Bool} {n g:Nat} (h: ¬(g<s.length∧ae.getD g false=true∧ey f (s.getD g 0)=false∧(g+1=s.length∨ae.getD (g+1) false=true))):hg s f ae n g=g:=by
 cases n with
 | zero=>rfl
 | succ n=>unfold hg;rw[if_neg h]
theorem Uz {s:List Int} {f:Frame} {ae:List Bool}: ∀(n m g:Nat),s.length≤n+g→s.length≤m+g→hg s f ae n g=hg s f ae m g
 | 0,m,g,h1,h2=>by
  rw[Hj (n:=m) fun h=>by omega];rfl
 | n+1,0,g,h1,h2=>by rw[Hj (n:=n+1) fun h=>by omega];rfl
 | n+1,m+1,g,h1,h2=>by
  unfold hg
  split
  ·exact Uz n m (g+1) (by omega) (by omega)
  ·rfl
theorem Uw {s:List Int} {f:Frame} {ae:List Bool} {g:Int} (aA:0≤g) (h1:g≤s.length):Az s f ae g g:=⟨aA,h1,Uz _ _ _ (by omega) (by omega)⟩
theorem Ux {s:List Int} {f:Frame} {ae:List Bool} {g0 g:Int} (hs:s.length≤1048576) (h:Az s f ae g0 g) (hc:pA s f ae g=true):Az s f ae g0 (IntKind.i64.wrap (g+1))∧g<s.length:=by
 obtain⟨aA,h1,h2⟩:=h
 obtain⟨k,rfl⟩:=Int.eq_ofNat_of_zero_le aA
 have hc:=(Uv hs (by omega)).1 hc
 rw[jH (by omega) (by omega)]
 refine⟨⟨by omega,by omega,?_⟩,by omega⟩
 rw[h2]
 simp only[Int.toNat_natCast]
 rw[show((k:Int)+1).toNat=k+1 by omega,show s.length - k=(s.length - (k+1))+1 by omega]
 conv=>lhs;unfold hg
 rw[if_pos hc]
theorem L9 {s:List Int} {f:Frame} {ae:List Bool} {g0 g:Int} (hs:s.length≤1048576) (h:Az s f ae g0 g) (hc:pA s f ae g=false):(hg s f ae s.length g0.toNat:Int)=g:=by
 obtain⟨aA,h1,h2⟩:=h
 obtain⟨k,rfl⟩:=Int.eq_ofNat_of_zero_le aA
 rw[h2]
 simp only[Int.toNat_natCast]
 rw[Hj fun bt=>by rw[(Uv hs (by omega)).2 bt] at hc;cases hc]
def PU (p:aL) (f:Frame) (bs:List (List Bool)) (ids:List Nat) (v:Int) (ws:List av):Prop:=
 cr f.O.length (fun _=>false) v∧ll ws ids bs∧(∀i j k:Nat,ids[i]?=some k→ids[j]?=some k→i=j)∧view ws ids bs=(jC p v.toNat f).O∧ ∀b∈bs,b.length≤1048576
def dS (p:aL) (f:Frame) (v:Int):Frame:=jC p v.toNat f
def cY (p:aL) (v:Int):List Int:=(nth p.O v).ao
def iK (p:aL) (f:Frame) (v:Int):av:=
 let G:=dS p f v
 let h:=nth G.O v
 if h.aF≠4∧ey G (nth (cY p v) 0)=true then{h with aF:=4,bU:=0} else h
def gY (p:aL) (f:Frame) (v:Int):av:=
 let h:=iK p f v
 if h.aF=1∨h.aF=2 then(if hn p (dS p f v) v=true then{h with aF:=2,bW:=true} else{h with aF:=1}) else h
def sU (p:aL) (f:Frame) (v:Int):List Bool:=List.zipWith (fun b x=>b || ey (dS p f v) x) (gY p f v).ae (cY p v)
theorem acb {p:aL} {f:Frame} {v:Int} (aA:0≤v):nN p (dS p f v) v.toNat=if(nth (dS p f v).O v).aF=0 then nth (dS p f v).O v else if(gY p f v).aF=4 then iI (cY p v) (dS p f v) (gY p f v) else gY p f v:=by
 unfold nN gY iK cY
 rw[lG aA,lG aA,Int.toNat_of_nonneg aA]
theorem w5 {p:aL} {f:Frame} {v:Int}:(iK p f v).ae=(nth (dS p f v).O v).ae∧(iK p f v).bc=(nth (dS p f v).O v).bc:=by
 unfold iK;simp only;split<;>exact⟨rfl,rfl⟩
theorem I2 {p:aL} {f:Frame} {v:Int}:(gY p f v).ae=(nth (dS p f v).O v).ae∧(gY p f v).bc=(nth (dS p f v).O v).bc:=by
 rw[←w5.1,←w5.2]
 unfold gY;simp only;split
 ·split<;>exact⟨rfl,rfl⟩
 ·exact⟨rfl,rfl⟩
theorem zl {p:aL} {f:Frame} {v:Int} {h:av} {ws:List av} {ids:List Nat} {bs:List (List Bool)} (ag:(f.O.length:Int)≤4611686018427387904) (aT:cr f.O.length (fun _=>false) v) (hv:decide (v<(f.O.length:Int))=true)
  (F:dl (dS p f v).O ids v h ws bs) (bt:h=nN p (dS p f v) v.toNat):PU p f bs ids (IntKind.i64.wrap (v+1)) ws∧cM f.O.length (IntKind.i64.wrap (v+1))<cM f.O.length v:=by
 have a6:=da ag aT hv rfl
 refine⟨⟨a6.1,F.ok,F.lE,?_,F.len⟩,a6.2⟩
 have aA:=aT.1
 have hv:v<(f.O.length:Int):=by simpa using hv
 rw[kH ag aA hv,show(v+1).toNat=v.toNat+1 by omega,F.ib,bt]
 rfl
def H5 (j:Int) (k:Bool) (o:List Bool) (q:List bL) (w:List av) (i:List Nat) (b:List (List Bool)):Prop:=gB w i b∧0≤j∧j<w.length
def yB (j:Int) (k:Bool) (o:List Bool) (q:List bL) (w:List av) (i:List Nat) (b:List (List Bool)) (h7:List Bool) (vh:List bL) (w':List av) (e4:List Nat) (b4:List (List Bool)):Prop:=
 gB w' e4 b4∧view w' e4 b4=(view w i b).set j.toNat (hR (nth (view w i b) j).ae.length)
def c1 (k:Bool) (o:List Bool) (q:List bL) (w:List av) (i:List Nat) (b:List (List Bool)):Frame:=⟨k,o,q,view w i b⟩
def Zk (s:Way) (j:Int) (k:Bool) (o:List Bool) (q:List bL) (w:List av) (i:List Nat) (b:List (List Bool)):Prop:=
 gB w i b∧0≤j∧j<w.length∧s.ao.length≤1048576∧(∀x∈s.ao,0≤x∧x<o.length)∧(nth (view w i b) j).ae.length=s.ao.length∧0≤(nth (view w i b) j).bc∧(nth (view w i b) j).bc≤s.ao.length
def EQ (s:Way) (j:Int) (k:Bool) (o:List Bool) (q:List bL) (w:List av) (i:List Nat) (b:List (List Bool)) (h7:List Bool) (vh:List bL) (w':List av) (e4:List Nat) (b4:List (List Bool)):Prop:=
 gB w' e4 b4∧view w' e4 b4=(view w i b).set j.toNat (iI s.ao (c1 k o q w i b) (nth (view w i b) j))
def PV (p:aL) (k:Bool) (o:List Bool) (q:List bL) (w:List av) (i:List Nat) (b:List (List Bool)):Prop:=gB w i b∧Jp p (c1 k o q w i b)
def Fb (p:aL) (k:Bool) (o:List Bool) (q:List bL) (w:List av) (i:List Nat) (b:List (List Bool)) (h7:List Bool) (vh:List bL) (w':List av) (e4:List Nat) (b4:List (List Bool)):Prop:=
 gB w' e4 b4∧view w' e4 b4=(dV p (c1 k o q w i b)).O
def aao (f g:Frame):Prop:=f.O.length=g.O.length∧iu f∧iu g∧ ∀(i:Nat) (x y:av),f.O[i]?=some x→g.O[i]?=some y→x.ae.length=y.ae.length
def qS (f g:Frame):Bool:=decide (f.O=g.O)
def U4 (p:aL) (f:Frame) (i:Int):Prop:=us p∧iu f∧f.O.length=p.O.length∧0≤i∧i<p.O.length
def i_ (p:aL) (f:Frame) (i:Int):Bool:=
 let h:=nth f.O i
 let n:=(nth p.O i).ao.length
 ca h.aF 0 4&&decide (h.ae.length=n)&&ca h.bc 0 ((n:Int) - 1)&&(decide (h.aF=4) || (decide (h.bc=0)&&h.ae.all (fun b=> !b)))&&(h.ae.take h.bc.toNat).all (fun b=>b)&&
 (if h.aF=3 then h.bW&&ca h.bU 1 p.cB else decide (h.bU=0)&&(decide (h.aF≠0) || !h.bW)&&(decide (h.aF≠2) || h.bW))
def KO (p:aL) (f:Frame):Bool:=(List.range f.O.length).all fun i=>(List.range f.O.length).all fun k=>decide (i=k) || !vS p i k || decide ((nth f.O i).aF=0) || decide ((nth f.O k).aF=0)
def kh (p:aL) (f:Frame):Bool:=
 eD p&&f.ok&&decide ((f.aE.length:Int)=p.ao)&&decide (f.ay.length=p.a7.length)&&decide (f.O.length=p.O.length)&&
 f.ay.all (fun x=>ca x.dR 1 2&&ca x.bI 0 2)&&(List.range f.O.length).all (fun i=>i_ p f i)&&KO p f&&qS f (dV p f)
def Ul (p:aL) (f:Frame):Prop:=iu f
theorem Ho {xs:List Bool} {b:Bool}:sh xs b=true↔b∈xs:=by unfold sh;simp
def tG (f:Frame) (l:c9):Bool:=((nth f.ay l.bh).dR !=l.bi) || ((nth f.ay l.bh).bI !=l.bi)
def Zy (p:aL) (f:Frame) (i:Int):Prop:= ∀l∈bV (nth p.O i),tG f l=false
theorem Pd (p:aL) (f:Frame) (i:Int):hn p f i=((bV (nth p.O i)).all (fun l=> !tG f l)&& !hU f (nth p.O i).ao&& !hU f (nth p.O i).di):=by
 have U: ∀l:c9,decide (nth f.ay l.bh=⟨l.bi,l.bi⟩)= !tG f l:=fun l=>by
  unfold tG
  rcases nth f.ay l.bh with⟨x,y⟩
  rw[Bool.eq_iff_iff];simp
 unfold hn
 simp only[U]
theorem R0 {α:Type} {x y:α} {v:Int} (aA:0≤v) (h1:v.toNat<[x,y].length):v=0∨v=1:=by simp at h1;omega
theorem gB.uz {w:List av} {i:List Nat} {b:List (List Bool)} {j:Int} (F:gB w i b) (h:j.toNat<w.length):dl (view w i b) i j (nth (view w i b) j) w b:=dl.start F.ok F.lE h rfl F.len
section
variable {V:List av} {ids df:List Nat} {v:Int} {h x:av} {ws lQ:List av} {bs nT:List (List Bool)}
theorem dl.G (F:dl V ids v h ws bs):gB ws ids bs:=⟨F.ok,F.lE,F.len⟩
theorem dl.BD (F:dl V ids v h ws bs):nth (view ws ids bs) v=h:=by
 rw[gX (by rw[jT F.ok];exact F.lt)]
 simp only[F.ib,List.getElem_set_self]
theorem dl.again (F:dl V ids v h ws bs) (G:gB lQ df nT) (e:view lQ df nT=(view ws ids bs).set v.toNat x):dl V df v x lQ nT where
 ok:=G.ok
 lE:=G.lE
 lt:=by
  have:=congrArg List.length e
  rw[jT G.ok,List.length_set,jT F.ok] at this
  have:=F.lt;omega
 ib:=by rw[e,F.ib,List.set_set]
 len:=G.len
end
theorem Zj {s:List Int} {f g:Frame} {h:av} (e:f.aE=g.aE):iI s f h=iI s g h:=by
 have aj:ey f=ey g:=by funext x;unfold ey;rw[e]
 have az: ∀(ae:List Bool) (n q:Nat),hg s f ae n q=hg s g ae n q:=fun ae n=>by
  induction n with
  | zero=>intro q;rfl
  | succ n bp=>intro q;unfold hg;rw[aj,bp]
 unfold iI
 simp only[aj,az]
def pU (s:List Int) (f:Frame) (h:av):List Bool:=List.zipWith (fun b x=>b || ey f x) h.ae s
theorem Zi (s:List Int) (f:Frame) (h:av):iI s f h=if hg s f (pU s f h) s.length h.bc.toNat=s.length then hR s.length else{h with ae:=pU s f h,bc:=hg s f (pU s f h) s.length h.bc.toNat}:=rfl
def amP (s:List Int) (f:Frame) (V:List av) (ids:List Nat) (j:Int) (ws:List av) (bs:List (List Bool)) (k:Int):Prop:=
 cr s.length (fun _=>false) k∧dl V ids j {nth V j with ae:=lg s f (nth V j).ae k.toNat} ws bs
def amQ (s:List Int) (f:Frame) (V:List av) (ids:List Nat) (j:Int) (bs:List (List Bool)) (ws:List av):Prop:=
 ∃g,Az s f (pU s f (nth V j)) (nth V j).bc g∧dl V ids j {nth V j with ae:=pU s f (nth V j),bc:=g} ws bs
theorem apT {s:List Int} {f:Frame} {ae:List Bool} {g:Int} (hs:s.length≤1048576) (h:decide (g<(s.length:Int))=true):
  ((!(nth ae g)) || ((nth f.aE (nth s g)) || ((decide (g<(IntKind.i64.wrap ((s.length:Int) - 1))))&&(!(nth ae (IntKind.i64.wrap (g+1)))))))= !pA s f ae g:=by
 unfold pA
 rw[h,Bool.true_and,jH (n:=(s.length:Int) - 1) (by omega) (by omega)]
 have:(g==(s.length:Int) - 1)= !decide (g<(s.length:Int) - 1):=by
  have h:g<(s.length:Int):=by simpa using h
  rw[Bool.eq_iff_iff];simp;omega
 rw[this]
 cases nth ae g<;>cases nth f.aE (nth s g)<;>cases decide (g<(s.length:Int) - 1)<;>cases nth ae (IntKind.i64.wrap (g+1))<;>rfl
def r6:List (Nat×TV)→Bool
 | []=>true
 | (k,_)::r=>match Nat.ble 1000010 k&&Nat.blt k 1000000000000 with
  | true=>r6 r
  | false=>false
theorem Gt {l:List (Nat×TV)} (h:r6 l=true) {k:Nat} (hk:k<1000010∨1000000000000≤k): ∀v,(k,v) ∉ l:=by
 induction l with
 | nil=>intro v hv;cases hv
 | cons p r bp=>
  obtain⟨a,w⟩:=p
  unfold r6 at h
  split at h
  ·rename_i aw
   rw[Bool.and_eq_true,Nat.blt_eq] at aw
   intro v hv
   rcases List.mem_cons.1 hv with e | hv
   ·cases e;have:=Nat.le_of_ble_eq_true aw.1;have:=aw.2;omega
   ·exact bp h v hv
  ·cases h
def TS.add (s:TS) (l:List (Nat×TV)) (vs:List (Nat×Nat)) (be:Nat):TS:=⟨l++s.T,s.B,vs,be⟩
theorem TS.j1 (s:TS) (l:List (Nat×TV)) (vs:List (Nat×Nat)) (be k:Nat):(s.add l vs be).get k=hS l k (s.get k):=by
 unfold TS.get TS.add;exact y1 ..
theorem Dg {n:Nat} {s:TS} {l:List (Nat×TV)} {vs:List (Nat×Nat)} {be:Nat} (ag:n≤1000000) (h:r6 l=true):(s.add l vs be).tT n=s.tT n:=by
 show(List.range n).map _=(List.range n).map _
 refine List.map_congr_left fun t aO=> ?_
 have aO:t<n:=List.mem_range.1 aO
 rw[TS.j1,wM (Gt h (.inl (by omega)))]
theorem IP {s s':TS} (e:s'.get dO=s.get dO):kp s'=kp s:=by unfold kp;rw[e]
theorem RE [FZ] {n:Nat} {s s':TS} (hb:s'.be=s.be) (e: ∀b,s'.get (bJ b)=s.get (bJ b)) (bX:s'.get dO=s.get dO):(s'.ar n).H=(s.ar n).H:=by
 show s'.gZ++h0 s'=s.gZ++h0 s
 unfold TS.gZ h0
 rw[IP bX,hb]
 simp only[e]
theorem Df [FZ] {n:Nat} {s:TS} {l:List (Nat×TV)} {vs:List (Nat×Nat)} (h:r6 l=true):((s.add l vs s.be).ar n).H=(s.ar n).H:=
 RE rfl (fun b=>by rw[TS.j1,wM (Gt h (.inr (by unfold bJ;omega)))]) (by rw[TS.j1,wM (Gt h (.inl (by unfold dO;omega)))])
theorem Dh [FZ] {s:TS} {l:List (Nat×TV)} {vs:List (Nat×Nat)} {be:Nat} (h:r6 l=true) (f:Fits s):Fits (s.add l vs be):=
 f.congr fun k _ h2=>by rw[TS.j1,wM (Gt h (.inl h2))]
def x2 (v:Nat):Nat→List TV→List (Nat×TV)
 | _,[]=>[]
 | c,a::r=>(h4 v c,a)::x2 v (c+1) r
def TS.hC (s:TS) (b be:Nat) (v:TV):TS:=s.add [(bJ b,v)] s.vs be
theorem KV (s:TS) {b be:Nat} {v:TV} {k:Nat} (h:k<1000000000000):(s.hC b be v).get k=s.get k:=by
 unfold TS.hC
 rw[TS.j1,h5,if_neg (by unfold bJ;omega)];rfl
theorem sX {n:Nat} {s:TS} {b be:Nat} {v:TV} (ag:n≤1000000):(s.hC b be v).tT n=s.tT n:=by
 show(List.range n).map _=(List.range n).map _
 refine List.map_congr_left fun t aO=> ?_
 have aO:t<n:=List.mem_range.1 aO
 rw[KV s (by omega)]
theorem sY [FZ] {s:TS} {b be:Nat} {v:TV} (f:Fits s):Fits (s.hC b be v):=f.congr fun k _ h2=>KV s (by omega)
theorem S6 {s:TS} {b be:Nat} {v:TV}:kp (s.hC b be v)=kp s:=IP (KV s (by unfold dO;omega))
theorem S5 (s:TS) (b be:Nat) (v:TV) (b4:Nat):(s.hC b be v).get (bJ b4)=if b=b4 then v else s.get (bJ b4):=by
 unfold TS.hC
 rw[TS.j1,h5]
 by_cases h:b=b4
 ·subst h;rw[if_pos rfl,if_pos rfl]
 ·rw[if_neg h,if_neg (by unfold bJ;omega)];rfl
theorem Ab [FZ] {n:Nat} {s:TS} {b:Nat} {v:TV} (h:b<s.be):((s.hC b s.be v).ar n).H=(s.ar n).H.set b v.eG:=by
 show(s.hC b s.be v).gZ++h0 (s.hC b s.be v)=(s.gZ++h0 s).set b v.eG
 rw[List.set_append_left _ _ (by rw[pf];exact h)]
 have e2:h0 (s.hC b s.be v)=h0 s:=by unfold h0;rw[S6]
 rw[e2]
 congr 1
 apply List.ext_getElem?
 intro i
 rw[sK,List.getElem?_set,sK,pf,S5]
 show(if i<s.be then _ else _)=_
 by_cases hi:b=i
 ·subst hi;simp[h]
 ·simp[hi]
theorem Gw [FZ] {n:Nat} {s:TS} {v:TV} (dn:kp s=true):((s.hC s.be (s.be+1) v).ar n).H=(s.ar n).H++[v.eG]:=by
 show(s.hC s.be (s.be+1) v).gZ++h0 (s.hC s.be (s.be+1) v)=(s.gZ++h0 s)++[v.eG]
 unfold h0
 rw[S6,dn]
 show(s.hC s.be (s.be+1) v).gZ++[]=(s.gZ++[])++[v.eG]
 rw[List.append_nil,List.append_nil]
 apply List.ext_getElem?
 intro i
 rw[sK,S5]
 show(if i<s.be+1 then _ else _)=_
 rcases Nat.lt_trichotomy i s.be with h | h | h
 ·rw[if_pos (by omega),if_neg (by omega),List.getElem?_append_left (by rw[pf];exact h),sK,if_pos h]
 ·subst h
  rw[if_pos (by omega),if_pos rfl,List.getElem?_append_right (by rw[pf];exact Nat.le_refl _),pf];simp
 ·rw[if_neg (by omega),List.getElem?_eq_none (by rw[List.length_append,pf];simp;omega)]
def zA (P:Program) (t:TypeId) (v:AV):Bool:=(P.info? t).isSome&&Nat.beq (fC v).length (P.cellsOf t)&&(fC v).all kb
theorem JL {P:Program} {t:TypeId} {v:AV} (h:zA P t v=true):(P.info? t).isSome=true∧(fC v).length=P.cellsOf t∧(fC v).all kb=true:=by
 simp only[zA,Bool.and_eq_true] at h
 exact⟨h.1.1,Nat.eq_of_beq_eq_true h.1.2,h.2⟩
def RF (P:Program) (n:Nat) (t:TypeId) (b g:Nat) (i:Int) (m c:Nat) (v:TV) (s:TS) (K:TS→aK):aK:=match BB v with
 | false=> .no
 | true=>uB s b g fun e xs fM h=>Dt s e.bN ((kL true e (wV e xs i)).take c++s0 v++(kL true e (wV e xs i)).drop (c+(s0 v).length)) fun fq _=>
  let y:=e.mk fq
  let s':=s.hC b s.be (.blk g e (xs.set i.toNat y) fM (by rw[List.length_set];exact h))
  .eq fM m (.eq (zA P t v.br) true (.eq (Nat.ble (c+(fC v.br).length) e.nD) true (.eq (fI (cE true e (wV e xs i)) c (fC v.br)) (cE true e y) (.eq s'.cl s.cl (.p (i.toNat<m) (K s'))))))
def II (P:Program) (t:TypeId):Option (List AV×Nat):=match kg P t with
 | some e=>(match pi P e with
  | some z=>(match Nat.beq z.length (P.cellsOf e)&&z.all kb with
   | true=>some (z.map om,P.bytesOf e)
   | false=>none)
  | none=>none)
 | none=>none
theorem YC {P:Program} {t:TypeId} {acN:List AV} {B:Nat} (h:II P t=some (acN,B)): ∃e z,kg P t=some e∧pi P e=some z∧z.length=P.cellsOf e∧z.all kb=true∧acN=z.map om∧B=P.bytesOf e:=by
 unfold II at h
 split at h
 ·rename_i e he
  split at h
  ·rename_i z aH
   split at h
   ·rename_i hc
    simp only[Bool.and_eq_true] at hc
    cases h
    exact⟨e,z,he,aH,Nat.eq_of_beq_eq_true hc.1,hc.2,rfl,rfl⟩
   ·cases h
  ·cases h
 ·cases h
def s4 (P:Program) (t:TypeId):Nat:=match kg P t with
 | some e=>P.bytesOf e
 | none=>0
def agB (e:aX) (c:List TV):e.T:=match e.isS with
 | true=>e.mk (sd e.bN c)
 | false=>L5 e (c.getD 0 .u)
def OU (P:Program) (n:Nat) (t:TypeId) (e:aX) (l c:TV) (s:TS) (K:TV→TS→aK):aK:=match l with
 | .i _ l=>(match c with
  | .i _ c=>
   let aI:=agB e (match kg P t with
    | some qb=>FM P qb
    | none=>[])
   let xs:=List.replicate l.toNat aI
   let s':=s.hC s.be (s.be+1) (.blk 0 e xs xs.length rfl)
   .eq (II P t) (some (cE true e aI,s4 P t)) (.eq l c (.eq s'.cl s.cl (.eq (kp s) true (.p (0≤l∧(s4 P t:Int)*l≤140737488355328∧l≤4611686018427387904) (K (.ref s.be 0 xs.length false) s')))))
  | _=> .no)
 | _=> .no
def Gk (P:Program) (t t2:TypeId) (x:AV):Option (Nat×Nat):=match kg P t with
 | some e=>(match pi P e with
  | some z=>(match Nat.beq z.length (P.cellsOf e)&&Nat.blt 0 z.length&&xX P e t2 x with
   | true=>some (z.length,P.bytesOf e)
   | false=>none)
  | none=>none)
 | none=>none
theorem SS {P:Program} {t t2:TypeId} {x:AV} {m B:Nat} (h:Gk P t t2 x=some (m,B)): ∃e z,kg P t=some e∧pi P e=some z∧(z.length=P.cellsOf e∧0<z.length∧xX P e t2 x=true)∧m=z.length∧B=P.bytesOf e:=by
 unfold Gk at h
 split at h
 ·rename_i e he
  split at h
  ·rename_i z aH
   split at h
   ·rename_i hc
    simp only[Bool.and_eq_true] at hc
    cases h
    exact⟨e,z,he,aH,⟨Nat.eq_of_beq_eq_true hc.1.1,by rw[←Nat.blt_eq];exact hc.1.2,hc.2⟩,rfl,rfl⟩
   ·cases h
  ·cases h
 ·cases h
def aX.flat:aX→Bool
 | .int | .u64 | .u8 | .bool | .str | .bi | .fQ | .e0 | .fault=>true
 | _=>false
theorem afS {e:aX} (h:e.flat=true) (x:e.T):cE false e x=cE true e x:=by cases e<;>first | rfl | cases h
theorem ank (e:aX) (x:e.T):(cE false e x).map rH=cE true e x:=by
 rw[←pv,←pv]
 have key: ∀(es:List aX) (y:cD es),(j5 false es y).map rH=j5 true es y:=by
  intro es
  induction es with
  | nil=>intro y;rfl
  | cons e r bp=>
   intro y
   show rH (kM false e y.1)::(j5 false r y.2).map rH=_
   rw[bp,j5]
   congr 1
   cases e<;>rfl
 exact key _ _
theorem ZY {e:aX} {fr:Bool} (h:(fr || e.flat)=true) (xs:List e.T):m9 fr (xs.map (cE false e))=xs.map (cE true e):=by
 cases fr with
 | true=>
  show(xs.map (cE false e)).map (fun row=>row.map rH)=_
  rw[List.map_map]
  exact List.map_congr_left fun x _=>ank e x
 | false=>exact List.map_congr_left fun x _=>afS h x
def KN (P:Program) (n:Nat) (t t2:TypeId) (v x:TV) (s:TS) (K:TV→TS→aK):aK:=match x with
 | .l e ys kO fr=>(match(fr || e.flat)&&e.rC with
  | false=> .no
  | true=>(match v with
   | .nil full _=>(match full with
    | true=>
     let s':=s.hC s.be (s.be+1) (.blk 0 e ys ys.length rfl)
     .eq (Gk P t t2 (TV.l e ys kO fr).br) (some (e.nD,s4 P t)) (.eq s'.cl s.cl (.eq (kp s) true (.p (ys.length*s4 P t≤140737488355328∧ys.length≤4611686018427387904) (K (.ref s.be 0 ys.length false) s'))))
    | false=> .no)
   | .ref b g m _=>uB s b g fun bX xs fM h=>if he:e=bX then
     let jI:=xs++ns he ys
     let s':=s.hC b s.be (.blk (g+1) bX jI jI.length rfl)
     .eq fM m (.eq (Gk P t t2 (TV.l e ys kO fr).br) (some (e.nD,s4 P t)) (.eq s'.cl s.cl (.p ((xs.length+ys.length)*s4 P t≤140737488355328∧xs.length+ys.length≤4611686018427387904) (K (.ref b (g+1) jI.length false) s'))))
    else .no
   | _=> .no))
 | _=> .no
section
variable {P:Program} (cf:hO P) (s:TS)
def DE (o:Oper) (v:TV) (l:List (Nat×TV)) (vs:List (Nat×Nat)) (K:TV→TS→aK):aK:=match r6 l with
 | true=> .eq (fun H Q=>lr P [] o (fun x=>(cP cf.n s x).br) s.cl H Q) (fun H Q=>Q v.br (s.add l vs s.be).cl H) (K v (s.add l vs s.be))
 | false=> .no
end
section
variable {P:Program} {cf:hO P} {s:TS} {R:Exit→TS→Prop}
variable {K:TV→TS→aK} {Kp:AV→List (Nat×List AV)→List Blk→Prop}
theorem IV {b:Bool} {x:Prop} (h:b=true) (k:x):fa b x:=by subst h;exact k
end
section
variable {P:Program} {cf:hO P} {s:TS} {R:Exit→TS→Prop}
variable {K:TV→TS→aK} {Kp:AV→List (Nat×List AV)→List Blk→Prop}
theorem ad9 {t:TypeId} {m:Nat} {parts:List (Nat×AV)} {L:List (Nat×List AV)} {H:List Blk} {d:Option Nat} (h:Ah P t m parts fun r=>Kp r L H):xZ P (x8 [] d) (zj []) t m parts L H Kp:=by
 obtain⟨e,he,h⟩:=f_ h
 obtain⟨z,aH,h⟩:=f_ h
 refine ez he (ez aH ?_)
 split at h
 ·rename_i hc
  rw[if_pos hc]
  obtain⟨cells,hf,h⟩:=f_ h
  refine ez hf ?_
  split at h
  ·rename_i hb
   have:x8 [] d=false:=by cases d<;>rfl
   rw[this]
   show if cells.all kK=true then _ else _
   rw[if_pos hb];exact h
  ·exact h.elim
 ·exact h.elim
end
section
variable {P:Program} {cf:hO P} {s:TS} {R:Exit→TS→Prop}
variable {K:TV→TS→aK} {Kp:AV→List (Nat×List AV)→List Blk→Prop}
theorem ZV {o:Oper} {bF:Operand→AV} {L:List (Nat×List AV)} {H:List Blk} (h:k5 P o bF L H fun r=>Kp r L H) (hc: ∀c,o.op≠ .call c) (hb: ∀t m ps,o.op≠ .buildSlice t m ps):lr P [] o bF L H Kp:=by
 have h':=G6 h
 obtain⟨dst,op,ty,pos,after,guard⟩:=o
 cases op<;>first | exact h' | exact h'.elim | exact absurd rfl (hc _) | exact absurd rfl (hb _ _ _)
end
section
variable {P:Program} {cf:hO P} {s:TS} {R:Exit→TS→Prop}
variable {K:TV→TS→aK} {Kp:AV→List (Nat×List AV)→List Blk→Prop}
theorem Pw {o:Oper} {c:Call} {bF:Operand→AV} {L:List (Nat×List AV)} {H:List Blk} (aj:o.op= .call c) (h:k5 P o bF L H fun r=>Kp r L H):lr P [] o bF L H Kp:=by
 have h':=G6 h
 obtain⟨dst,op,ty,pos,after,guard⟩:=o
 cases aj
 obtain⟨callee,args,argTypes⟩:=c
 cases callee with
 | builtin b=>
  cases b with
  | len=>exact h'
  | _=>exact h'.elim
 | value f=>
  have h':nr (bF f) fun g caps=>rh P g (args.toList.map bF++caps) L H fun r=>Kp r L H:=h'
  show nr (bF f) fun g caps=>mU P g (args.toList.map bF++caps) L H Kp
  cases hf:bF f with
  | fn g caps=>rw[hf] at h';exact .inl h'
  | _=>rw[hf] at h';exact h'.elim
 | _=>exact h'.elim
end
section
variable {P:Program} {cf:hO P} {s:TS} {R:Exit→TS→Prop}
variable {K:TV→TS→aK} {Kp:AV→List (Nat×List AV)→List Blk→Prop}
theorem ang {o:Oper} {t:TypeId} {m:Nat} {ps:Array (Nat×Operand)} {bF:Operand→AV} {L:List (Nat×List AV)} {H:List Blk} (aj:o.op= .buildSlice t m ps) (h:k5 P o bF L H fun r=>Kp r L H):lr P [] o bF L H Kp:=by
 have h':=G6 h
 obtain⟨dst,op,ty,pos,after,guard⟩:=o
 cases aj
 obtain⟨h1,h2⟩:=sv (show fa (ps.toList.all fun p=>e_ (bF p.2)) (Ah P t m (ps.toList.map fun p=>(p.1,bF p.2)) fun r=>Kp r L H) from h')
 show fa (ps.toList.all fun p=>e_ (bF p.2)) (xZ P (x8 [] dst) (zj []) t m (ps.toList.map fun p=>(p.1,bF p.2)) L H Kp)
 rw[h1];exact ad9 h2
end
section
variable [Z:FZ] {P:Program} {cf:hO P} {s:TS} {R:Exit→TS→Prop}
def z6 (cf:hO P) (s:TS) (R:Exit→TS→Prop) (K:TV→TS→aK) (Kp:qY Prop):Prop:=
 ∀v s' (Z':FZ),(K v s').den R→ @Fits Z' s'→s'.tT cf.n=s.tT cf.n→Kp v.br s'.cl (@TS.ar Z' cf.n s').H
variable {K:TV→TS→aK} {Kp:AV→List (Nat×List AV)→List Blk→Prop}
theorem apK (ag:cf.n≤1000000) {t:TypeId} {b g m c:Nat} {i:Int} {v:TV} {K:TS→aK} {Kp:List (Nat×List AV)→List Blk→Prop} (aH:Fits s) (hK: ∀s' (Z':FZ),(K s').den R→ @Fits Z' s'→s'.tT cf.n=s.tT cf.n→Kp s'.cl (@TS.ar Z' cf.n s').H) (h:(RF P cf.n t b g i m c v s K).den R):
  fa (e_ v.br) (nM P t (.ptr b g i.toNat c) v.br (s.ar cf.n).L (s.ar cf.n).H Kp):=by
 unfold RF at h
 split at h
 ·exact h.elim
 ·rename_i hv
  obtain⟨e,xs,fM,hm,h,hb,aB⟩:=Ac (n:=cf.n) h
  obtain⟨fq,o,h,_⟩:=GG aH (n:=cf.n) h
  obtain⟨h1,h2,aC,bg,ch,cy,h⟩:=h
  refine IV (IS hv) ?_
  have aQ:i.toNat<xs.length:=by omega
  have hs:=JL h2
  unfold nM
  rw[if_pos hs]
  refine ez aB ⟨rfl,ez (OZ aQ true) ⟨?_,?_⟩⟩
  ·rw[x4];exact Nat.le_of_ble_eq_true aC
  ·have:=hK _ Z h (sY aH) (sX ag)
   rw[Ab hb,ch] at this
   rw[bg]
   have aN: ∀y:e.T,(xs.map (cE true e)).set i.toNat (cE true e y)=(xs.set i.toNat y).map (cE true e):=fun y=>by rw[List.map_set]
   rw[aN];exact this
theorem amh (ag:cf.n≤1000000) (aH:Fits s) {t:TypeId} {e:aX} {l c:TV} (hK:z6 cf s R K Kp) (h:(OU P cf.n t e l c s K).den R):Bv P t l.br c.br (s.ar cf.n).L (s.ar cf.n).H Kp:=by
 unfold OU at h
 split at h
 ·split at h
  ·obtain⟨h1,h2,aC,dn,bg,h⟩:=h
   rename_i IF Bp l ri aj6 c
   subst h2
   obtain⟨qb,z,q1,q2,q3,q4,cQ,c0⟩:=YC h1
   refine ez q1 (ez q2 ?_)
   rw[if_pos ⟨q3,q4⟩]
   refine⟨bg.1,Int.le_refl _,by rw[←c0];exact bg.2.1,bg.2.2,?_⟩
   have:=hK _ _ Z h (sY aH) (sX ag)
   rw[Gw dn,aC] at this
   rw[JN dn,←cQ]
   have aH:z.length=e.nD:=by
    have:=congrArg List.length cQ
    rw[List.length_map,x4] at this;exact this.symm
   rw[aH]
   have au: ∀aI:e.T,(List.replicate l.toNat aI).length=l.toNat:=fun aI=>List.length_replicate
   show Kp (.ref s.be 0 0 l.toNat false) _ ((s.ar cf.n).H++[⟨0,e.nD,List.replicate l.toNat (cE true e _)⟩])
   rw[←List.map_replicate]
   have this:Kp (.ref s.be 0 0 (List.replicate l.toNat _).length false) (s.ar cf.n).L ((s.ar cf.n).H++[⟨0,e.nD,(List.replicate l.toNat _).map (cE true e)⟩]):=this
   rw[au] at this
   exact this
  ·exact h.elim
 ·exact h.elim
theorem adO (ag:cf.n≤1000000) (aH:Fits s) {t t2:TypeId} {v x:TV} (hK:z6 cf s R K Kp) (h:(KN P cf.n t t2 v x s K).den R):e_ v.br=true∧e_ x.br=true∧xW P t t2 v.br x.br (s.ar cf.n).L (s.ar cf.n).H Kp:=by
 unfold KN at h
 split at h
 ·rename_i e ys kO fr
  split at h
  ·exact h.elim
  ·rename_i hc
   simp only[Bool.and_eq_true] at hc
   have eM: ∀(jI:List e.T) (k:Nat),e.nD=k→tR k (jI.map (cE true e)):=fun jI k hk row ak=>by
    obtain⟨y,_,rfl⟩:=List.mem_map.1 ak
    refine⟨by rw[x4,hk],fun a aw=>List.all_eq_true.1 (afs (fr:=true) hc.2 y) a aw⟩
   have dF: ∀{qb},kg P t=some qb→s4 P t=P.bytesOf qb:=fun h=>by unfold s4;rw[h]
   split at h
   ·split at h
    ·rename_i full aq4
     obtain⟨h1,h2,dn,aC,h⟩:=h
     obtain⟨qb,z,q1,q2,q3,q4,cQ⟩:=SS h1
     refine⟨rfl,rfl,ez q1 (ez q2 ?_)⟩
     rw[if_pos q3]
     show _∧_
     have hx:m9 fr (List.map (cE false e) ys)=ys.map (cE true e):=ZY hc.1 ys
     rw[hx]
     refine⟨eM ys _ q4,rfl,(fun row h=>by cases h),?_,?_,(fun h=>absurd rfl h),?_⟩
     ·rw[List.length_map,←dF q1];simpa using aC.1
     ·rw[List.length_map];simpa using aC.2
     ·have:=hK _ _ Z h (sY aH) (sX ag)
      rw[Gw dn,h2] at this
      rw[JN dn,←q4,List.length_map]
      simp only[List.length_nil,Nat.zero_add,List.nil_append]
      exact this
    ·exact h.elim
   ·rename_i b g m ee
    obtain⟨bX,xs,fM,hm,h,hb,aB⟩:=Ac (n:=cf.n) h
    split at h
    ·rename_i he
     subst he
     obtain⟨h1,h2,aC,bg,x_⟩:=h
     subst h1
     obtain⟨qb,z,q1,q2,q3,q4,cQ⟩:=SS h2
     refine⟨rfl,rfl,ez q1 (ez q2 ?_)⟩
     rw[if_pos q3]
     show _∧_
     have hx:m9 fr (List.map (cE false e) ys)=ys.map (cE true e):=ZY hc.1 ys
     rw[hx]
     refine⟨eM ys _ q4,rfl,ez aB ⟨rfl,q4,by rw[List.length_map];exact hm,?_,?_,?_⟩⟩
     ·rw[List.length_map,←hm,←dF q1];exact bg.1
     ·rw[List.length_map,←hm];exact bg.2
     ·have:=hK _ _ Z x_ (sY aH) (sX ag)
      rw[Ab hb,aC] at this
      rw[←q4,List.length_map,←hm,←List.map_append,←List.length_append]
      exact this
    ·exact h.elim
   ·exact h.elim
 ·exact h.elim
theorem Mb (ag:cf.n≤1000000) (aH:Fits s) {o:Oper} {v:TV} {l:List (Nat×TV)} {vs:List (Nat×Nat)} (hK:z6 cf s R K Kp) (h:(DE cf s o v l vs K).den R):lr P [] o (ci (s.ar cf.n).T) (s.ar cf.n).L (s.ar cf.n).H Kp:=by
 unfold DE at h
 split at h
 ·rename_i hb
  obtain⟨e,h⟩:=h
  rw[mw,show(fun x=>(cP cf.n s x).br)=(fun x=>(cP cf.n s x).br) from rfl]
  have e:=congrFun (congrFun e (s.ar cf.n).H) Kp
  have e:lr P [] o (fun x=>(cP cf.n s x).br) (s.ar cf.n).L (s.ar cf.n).H Kp=_:=e
  rw[e]
  have:=hK _ _ Z h (Dh hb aH) (Dg ag hb)
  rw[Df hb] at this;exact this
 ·exact h.elim
end
def Oq:TV→Bool
 | .lP _ _ _=>true
 | _=>false
theorem ad5 {Z Z':FZ} {v:TV} (h:Oq v=false): @TV.eG Z' v= @TV.eG Z v:=by cases v<;>first | rfl | cases h
def EN (s:TS) (b:Nat):Nat→Bool
 | 0=>true
 | k+1=>(Nat.beq k b || !Oq (s.get (bJ k)))&&EN s b k
theorem Y4 {s:TS} {b:Nat}: ∀{n:Nat},EN s b n=true→ ∀k,k<n→k≠b→Oq (s.get (bJ k))=false
 | 0,_,k,h,_=>by omega
 | n+1,h,k,hk,b7=>by
  simp only[EN,Bool.and_eq_true,Bool.or_eq_true,Bool.not_eq_true'] at h
  rcases Nat.lt_or_ge k n with q | q
  ·exact Y4 h.2 k q b7
  ·have:k=n:=by omega
   subst this
   rcases h.1 with e | e
   ·exact absurd (Nat.eq_of_beq_eq_true e) b7
   ·exact e
theorem aqr {Z Z':FZ} {n:Nat} {s s':TS} {b g m:Nat} {ids:List Nat} {V SD:List av} {aiK:List Nat} {bQ YZ:Nat} {hv:V.length=bQ} {lC:SD.length=YZ} (hb:b<s.be) (AQ:s'.be=s.be) (he: ∀k,k≠b→s'.get (bJ k)=s.get (bJ k)) (az:s'.get (bJ b)= .lP g m ids) (hw:EN s b s.be=true)
  (h1:s.get dO= .hF V aiK bQ hv) (h2:s'.get dO= .hF SD ids YZ lC):(@TS.ar Z' n s').H=(@TS.gZ Z s).set b ⟨g,5,aW m Z'.ws ids⟩++List.map bj Z'.bs:=by
 rw[uE h2]
 congr 1
 apply List.ext_getElem?
 intro i
 rw[@sK Z' s' i,List.getElem?_set,@sK Z s i,@pf Z s,AQ]
 by_cases hi:b=i
 ·subst hi;rw[if_pos hb,if_pos rfl,if_pos hb,az];rfl
 ·rw[if_neg hi,he i (fun e=>hi e.symm)]
  by_cases h:i<s.be
  ·rw[if_pos h,if_pos h,ad5 (Z:=Z) (Y4 hw i h (fun e=>hi e.symm))]
  ·rw[if_neg h,if_neg h]
theorem Fy {n:Nat} {s:TS} {l:List (Nat×TV)} (ag:n≤1000000) (h: ∀p∈l,1000000≤p.1):(s.add l s.vs s.be).tT n=s.tT n:=by
 show(List.range n).map _=(List.range n).map _
 refine List.map_congr_left fun t aO=> ?_
 have aO:t<n:=List.mem_range.1 aO
 rw[TS.j1,wM fun v hv=>by have:=h _ hv;simp only at this;omega]
def PT (c:Nat) (v:TV) (h:av) (K:av→aK):aK:=match v with
 | .i k x=>if k= .i64 then(match c with
  | 0=>K {h with aF:=x}
  | 1=>K {h with bc:=x}
  | 4=>K {h with bU:=x}
  | _=> .no) else .no
 | .b x=>(match c with
  | 3=>K {h with bW:=x.den}
  | _=> .no)
 | _=> .no
theorem aar {c:Nat} {v:TV} {w:av} {b:List Bool} {K:av→aK} {R:Exit→TS→Prop} (h:(PT c v {w with ae:=b} K).den R):
  ∃x:av,x.ae=w.ae∧(K {x with ae:=b}).den R∧(∀m id,fI (k6 m w id) c (fC v.br)=k6 m x id)∧c+(fC v.br).length≤5:=by
 unfold PT at h
 split at h
 ·rename_i k x
  split at h
  ·rename_i hk
   subst hk
   split at h
   ·exact⟨{w with aF:=x},rfl,h,fun m id=>rfl,(show(0+1:Nat)≤5 by decide)⟩
   ·exact⟨{w with bc:=x},rfl,h,fun m id=>rfl,(show(1+1:Nat)≤5 by decide)⟩
   ·exact⟨{w with bU:=x},rfl,h,fun m id=>rfl,(show(4+1:Nat)≤5 by decide)⟩
   ·exact h.elim
  ·exact h.elim
 ·rename_i x
  split at h
  ·exact⟨{w with bW:=x.den},rfl,h,fun m id=>rfl,(show(3+1:Nat)≤5 by decide)⟩
  ·exact h.elim
 ·exact h.elim
theorem gB.alA {ws:List av} {ids:List Nat} {bs:List (List Bool)} (G:gB ws ids bs) {i id:Nat} {x:av} (hi:i<ws.length) (h1:id<bs.length) (h2:bs.getD id []=x.ae) (aC: ∀j:Nat,ids[j]?≠some id):
  gB (ws.set i x) (ids.set i id) bs∧view (ws.set i x) (ids.set i id) bs=(view ws ids bs).set i x:=by
 have au:=G.ok.len
 refine⟨⟨⟨by rw[List.length_set,List.length_set];exact au,fun j k hk=> ?_,fun j k h aw hk=> ?_⟩,fun a b k aw hb=> ?_,G.len⟩,?_⟩
 ·rw[List.getElem?_set] at hk
  split at hk
  ·split at hk
   ·cases hk;exact h1
   ·cases hk
  ·exact G.ok.lt j k hk
 ·rw[List.getElem?_set] at aw hk
  split at aw
  ·rename_i e;subst e
   rw[if_pos rfl,if_pos (by omega)] at hk
   cases aw;cases hk;rw[h2]
  ·rename_i e
   rw[if_neg e] at hk
   exact G.ok.ae j k h aw hk
 ·rw[List.getElem?_set] at aw hb
  split at aw
  ·split at aw
   ·cases aw
    split at hb
    ·rename_i aN _ e2;omega
    ·exact absurd hb (aC b)
   ·cases aw
  ·split at hb
   ·split at hb
    ·cases hb;exact absurd aw (aC a)
    ·cases hb
   ·exact G.lE a b k aw hb
 ·apply List.ext_getElem?
  intro j
  unfold view
  rw[List.getElem?_zipWith,List.getElem?_set,List.getElem?_set,List.getElem?_set,List.getElem?_zipWith,List.length_zipWith]
  by_cases e:i=j
  ·subst e
   rw[if_pos rfl,if_pos rfl,if_pos rfl,if_pos hi,if_pos (by omega),if_pos (by omega)]
   show some ({x with ae:=bs.getD id []}:av)=some x
   rw[h2]
  ·rw[if_neg e,if_neg e,if_neg e]
theorem gB.snoc {ws:List av} {ids:List Nat} {bs:List (List Bool)} (G:gB ws ids bs) {xs:List Bool} (hx:xs.length≤1048576):gB ws ids (bs++[xs])∧view ws ids (bs++[xs])=view ws ids bs:=by
 have az: ∀id,id<bs.length→(bs++[xs]).getD id []=bs.getD id []:=fun id h=>by
  rw[List.getD_eq_getElem?_getD,List.getD_eq_getElem?_getD,List.getElem?_append_left h]
 refine⟨⟨⟨G.ok.len,fun i id h=>by have:=G.ok.lt i id h;rw[List.length_append];omega,fun i id h h1 h2=>by rw[az id (G.ok.lt i id h2)];exact G.ok.ae i id h h1 h2⟩,G.lE,fun b hb=> ?_⟩,?_⟩
 ·rcases List.mem_append.1 hb with hb | hb
  ·exact G.len b hb
  ·rw[List.mem_singleton.1 hb];exact hx
 ·apply List.ext_getElem?
  intro j
  unfold view
  rw[List.getElem?_zipWith,List.getElem?_zipWith]
  cases h1:ws[j]? with
  | none=>rfl
  | some w=>
   cases h2:ids[j]? with
   | none=>rfl
   | some id=>simp only[az id (G.ok.lt j id h2)]
def RJ (P:Program) (t:TypeId) (b g:Nat) (i:Int) (c:Nat) (v:TV) (s:TS) (dC im:Nat) (ids:List Nat) (K:TS→aK):aK:=match s.get dO with
 | .hF V df bQ hv=> .eq dC g (.eq df ids (.eq (Nat.blt b s.be&&EN s b s.be&&zA P t v.br) true (match v with
  | .agg l=>(match l with
   | [.i c_ ar,.i hj go,.EL id m k,.b h9,.i n9 rQ]=>(match s.get gG with
    | .new gm xs=>
     let s':=s.add [(dO,.hF (V.set i.toNat (av.mk ar go xs h9.den rQ)) (ids.set i.toNat id) bQ ((List.length_set ..).trans hv)),(bJ b,.lP g im (ids.set i.toNat id)),(gG,.u)] s.vs s.be
     .eq c 0 (.eq (c_,hj,n9) (IntKind.i64,IntKind.i64,IntKind.i64) (.eq gm id (.eq m im (.eq k xs.length (.eq s'.cl s.cl (.p (i.toNat<V.length) (K s')))))))
    | _=> .no)
   | _=> .no)
  | v=>PT c v (nth V i) fun y=>
   let s':=s.add [(dO,.hF (V.set i.toNat y) ids bQ ((List.length_set ..).trans hv))] s.vs s.be
   .eq s'.cl s.cl (.p (i.toNat<V.length) (K s')))))
 | _=> .no
section
variable [Z:FZ] {P:Program} {cf:hO P} {s:TS} {R:Exit→TS→Prop}
theorem apW (ag:cf.n≤1000000) {t:TypeId} {b g c dC im:Nat} {ids:List Nat} {i:Int} {v:TV} {K:TS→aK} {Kp:List (Nat×List AV)→List Blk→Prop} (aH:Fits s) (az:s.get (bJ b)= .lP dC im ids)
  (hK: ∀s' (Z':FZ),(K s').den R→ @Fits Z' s'→s'.tT cf.n=s.tT cf.n→Kp s'.cl (@TS.ar Z' cf.n s').H) (h:(RJ P t b g i c v s dC im ids K).den R):
  nM P t (.ptr b g i.toNat c) v.br (s.ar cf.n).L (s.ar cf.n).H Kp:=by
 unfold RJ at h
 split at h
 ·rename_i V df bQ lZ hk
  obtain⟨h1,h2,aC,h⟩:=h
  subst h1;subst h2
  simp only[Bool.and_eq_true] at aC
  obtain⟨⟨hb,hw⟩,a6⟩:=aC
  have hb:b<s.be:=by rw[←Nat.blt_eq];exact hb
  obtain⟨G,e,iY⟩:=aH V df _ _ hk
  have hs:=JL a6
  have pI:=jT G.ok
  rw[e] at pI
  have aB:(s.ar cf.n).H[b]?=some ⟨dC,5,aW im Z.ws df⟩:=by rw[vz hb,az];rfl
  have ag9:(s.ar cf.n).H=s.gZ++List.map bj Z.bs:=uE hk
  unfold nM
  rw[if_pos hs]
  have fin: ∀{s':TS} {ws2:List av} {ids2:List Nat} {V2:List av} {n2:Nat} {hv2:V2.length=n2} {cells row':List AV},i.toNat<V.length→c+cells.length≤5→fI (k6 im (nth Z.ws i) (nth df i)) c cells=row'→(aW im Z.ws df).set i.toNat row'=aW im ws2 ids2→s'.be=s.be→(∀k,k≠b→s'.get (bJ k)=s.get (bJ k))→s'.get (bJ b)= .lP dC im ids2→s'.get dO= .hF V2 ids2 n2 hv2→
    s'.cl=s.cl→(K s').den R→ @Fits ⟨ws2,Z.bs⟩ s'→s'.tT cf.n=s.tT cf.n→(cZ (s.ar cf.n).H[b]? fun blk=>blk.bk=dC∧cZ blk.rows[i.toNat]? fun row=>c+cells.length≤row.length∧Kp (s.ar cf.n).L ((s.ar cf.n).H.set b {blk with rows:=blk.rows.set i.toNat (fI row c cells)})):=by
   intro s' ws2 ids2 V2 n2 hv2 cells row' hi hc AX mo AQ mY nZ HA bB aha hf cd
   refine ez aB ⟨rfl,ez (dM G.ok.len (by omega)) ⟨hc,?_⟩⟩
   have:=hK s' ⟨ws2,Z.bs⟩ aha hf cd
   rw[bB,aqr (Z:=Z) (Z':=⟨ws2,Z.bs⟩) hb AQ mY nZ hw hk HA] at this
   rw[ag9,List.set_append_left _ _ (by rw[pf];exact hb),AX]
   show Kp s.cl (s.gZ.set b ⟨dC,5,(aW im Z.ws df).set i.toNat row'⟩++_)
   rw[mo];exact this
  split at h
  ·split at h
   ·rename_i c_ ar hj go id m k h9 n9 rQ
    split at h
    ·rename_i gm xs AR
     obtain⟨h1,h2,bg,ch,cy,hr,uM,h⟩:=h
     subst h1;subst bg;subst ch;subst cy
     cases h2
     obtain⟨dG,n2,nC⟩:=iY _ _ AR
     obtain⟨qd,bX⟩:=G.alA (i:=i.toNat) (id:=gm) (x:=av.mk ar go xs h9.den rQ) (by omega) dG n2 nC
     refine fin (s':=s.add [(dO,.hF (V.set i.toNat (av.mk ar go xs h9.den rQ)) (df.set i.toNat gm) bQ ((List.length_set ..).trans lZ)),(bJ b,.lP dC m (df.set i.toNat gm)),(gG,.u)] s.vs s.be) (ws2:=Z.ws.set i.toNat (av.mk ar go xs h9.den rQ)) (V2:=V.set i.toNat (av.mk ar go xs h9.den rQ)) (n2:=bQ) (hv2:=(List.length_set ..).trans lZ) (ids2:=df.set i.toNat gm) (row':=k6 m (av.mk ar go xs h9.den rQ) gm) uM (Nat.le_refl 5) ?_ (AD G.ok.len) rfl (fun k hk=> ?_) ?_ ?_ hr h ?_ (Fy ag ?_)
     ·rfl
     ·rw[TS.j1,h5,if_neg (by unfold dO bJ;omega),h5,if_neg (by unfold bJ;omega),h5,if_neg (by unfold gG bJ;omega)];rfl
     ·rw[TS.j1,h5,if_neg (by unfold dO bJ;omega),h5,if_pos rfl]
     ·rw[TS.j1,h5,if_pos rfl]
     ·intro V3 H6 nC HN aC
      rw[TS.j1,h5,if_pos rfl] at aC
      cases aC
      refine⟨qd,by rw[←e];exact bX,fun id xs hx=> ?_⟩
      rw[TS.j1,h5,if_neg (by unfold dO gG;omega),h5,if_neg (by unfold bJ gG;omega),h5,if_pos rfl] at hx
      cases hx
     ·intro p ab
      simp only[List.mem_cons,List.not_mem_nil,or_false] at ab
      rcases ab with rfl | rfl | rfl
      ·exact Nat.le_refl _
      ·show 1000000≤bJ b;unfold bJ;omega
      ·show 1000000≤gG;unfold gG;omega
    ·exact h.elim
   ·exact h.elim
  ·have MB:i.toNat<V.length∨ ¬i.toNat<V.length:=by omega
   by_cases hi:i.toNat<V.length
   ·have hv:=J1 G.ok (i:=i) (by rw[e];exact hi)
    rw[e] at hv
    rw[hv] at h
    obtain⟨x,ax,h,bC,acM⟩:=aar h
    obtain⟨hr,uM,h⟩:=h
    have F:=(G.uz (j:=i) (by omega)).tU x (by rw[ax];have:=(G.uz (j:=i) (by omega)).sW;exact this)
    have lW:(nth (view Z.ws df Z.bs) i).ae=Z.bs.getD (nth df i) []:=by rw[e,hv]
    rw[lW,e] at F
    refine fin (s':=s.add [(dO,.hF (V.set i.toNat {x with ae:=Z.bs.getD (nth df i) []}) df bQ ((List.length_set ..).trans lZ))] s.vs s.be) (ws2:=Z.ws.set i.toNat x) (ids2:=df) (V2:=V.set i.toNat {x with ae:=Z.bs.getD (nth df i) []}) (n2:=bQ) (hv2:=(List.length_set ..).trans lZ) uM acM (bC im (nth df i)) (lu G.ok.len (by omega)) rfl (fun k hk=> ?_) ?_ ?_ hr h ?_ (Fy ag ?_)
    ·rw[TS.j1,h5,if_neg (by unfold dO bJ;omega)];rfl
    ·rw[TS.j1,h5,if_neg (by unfold dO bJ;omega)];exact az
    ·rw[TS.j1,h5,if_pos rfl]
    ·intro V3 H6 nC HN aC
     rw[TS.j1,h5,if_pos rfl] at aC
     cases aC
     refine⟨F.G,F.ib,fun id xs hx=> ?_⟩
     rw[TS.j1,h5,if_neg (by unfold dO gG;omega)] at hx
     exact iY id xs hx
    ·intro p ab
     rw[List.mem_singleton.1 ab];exact Nat.le_refl _
   ·obtain⟨x,ax,h,_⟩:=aar (w:=nth V i) (b:=(nth V i).ae) h
    exact absurd h.2.1 hi
 ·exact h.elim
def FA (P:Program) (t:TypeId) (w:Int) (ids:List Nat) (m:Nat) (j:Int) (v:TV) (s:TS) (K:TS→aK):aK:=match s.get dO with
 | .hF V df bQ hv=> .eq df ids (.eq m s.be (.eq (zA P t v.br) true (match v with
  | .b x=>
   let s':=s.add [(dO,.hF (V.set w.toNat {nth V w with ae:=(nth V w).ae.set j.toNat x.den}) ids bQ ((List.length_set ..).trans hv))] s.vs s.be
   .eq s'.cl s.cl (.p (w.toNat<V.length∧j.toNat<(nth V w).ae.length) (K s'))
  | _=> .no)))
 | _=> .no
theorem apS (ag:cf.n≤1000000) {t:TypeId} {m:Nat} {ids:List Nat} {w j:Int} {v:TV} {K:TS→aK} {Kp:List (Nat×List AV)→List Blk→Prop} (aH:Fits s)
  (hK: ∀s' (Z':FZ),(K s').den R→ @Fits Z' s'→s'.tT cf.n=s.tT cf.n→Kp s'.cl (@TS.ar Z' cf.n s').H) (h:(FA P t w ids m j v s K).den R):
  nM P t (.ptr (nth ids w+m) 0 j.toNat 0) v.br (s.ar cf.n).L (s.ar cf.n).H Kp:=by
 unfold FA at h
 split at h
 ·rename_i V df bQ lZ hk
  obtain⟨h1,h2,aC,h⟩:=h
  subst h1;subst h2
  have hs:=JL aC
  unfold nM
  rw[if_pos hs]
  split at h
  ·rename_i x
   obtain⟨bg,ch,h⟩:=h
   obtain⟨G,e,iY⟩:=aH V df _ _ hk
   have pI:=jT G.ok
   rw[e] at pI
   have hv:=J1 G.ok (i:=w) (by rw[e];exact ch.1)
   rw[e] at hv
   have cV:=G.uz (j:=w) (by omega)
   have F:=cV.PS ((nth V w).ae.set j.toNat x.den) (by rw[List.length_set,e])
   rw[e] at F
   have hid:=G.ok.lt w.toNat _ (hT (xs:=df) (i:=w) (by have:=G.ok.len;omega))
   refine ez (LQ aH hk ch.1) ⟨rfl,ez (Dp ch.2) ⟨Nat.le_refl 1,?_⟩⟩
   have cd:=Fy (n:=cf.n) (s:=s) (l:=[(dO,TV.hF (V.set w.toNat {nth V w with ae:=(nth V w).ae.set j.toNat x.den}) df bQ ((List.length_set ..).trans lZ))]) ag (fun p ab=>by rw[List.mem_singleton.1 ab];exact Nat.le_refl _)
   have sj: @Fits ⟨Z.ws,Z.bs.set (nth df w) ((nth V w).ae.set j.toNat x.den)⟩ (s.add [(dO,TV.hF (V.set w.toNat {nth V w with ae:=(nth V w).ae.set j.toNat x.den}) df bQ ((List.length_set ..).trans lZ))] s.vs s.be):=by
    intro V3 H6 nC HN aC
    rw[TS.j1,h5,if_pos rfl] at aC
    cases aC
    refine⟨F.G,F.ib,fun id xs hx=> ?_⟩
    rw[TS.j1,h5,if_neg (by unfold dO gG;omega)] at hx
    obtain⟨dG,n2,nC⟩:=iY id xs hx
    refine⟨by show id<(Z.bs.set (nth df w) ((nth V w).ae.set j.toNat x.den)).length;rw[List.length_set];exact dG,?_,nC⟩
    show(Z.bs.set (nth df w) ((nth V w).ae.set j.toNat x.den)).getD id []=xs
    have b7:nth df w≠id:=fun q=>nC w.toNat (by rw[hT (xs:=df) (i:=w) (by have:=G.ok.len;omega),q])
    rw[List.getD_eq_getElem?_getD,List.getElem?_set,if_neg b7,←List.getD_eq_getElem?_getD];exact n2
   have:=hK _ ⟨Z.ws,Z.bs.set (nth df w) ((nth V w).ae.set j.toNat x.den)⟩ h sj cd
   rw[bg] at this
   have Hk:(s.ar cf.n).H=s.gZ++List.map bj Z.bs:=uE hk
   have dr: ∀Z':FZ,Z'.ws=Z.ws→ @TS.gZ Z' (s.add [(dO,TV.hF (V.set w.toNat {nth V w with ae:=(nth V w).ae.set j.toNat x.den}) df bQ ((List.length_set ..).trans lZ))] s.vs s.be)= @TS.gZ Z s:=fun Z' hw=>by
    show(List.range s.be).map _=(List.range s.be).map _
    refine List.map_congr_left fun b _=> ?_
    rw[TS.j1,h5,if_neg (by unfold dO bJ;omega)]
    show @TV.eG Z' (s.get (bJ b))= @TV.eG Z (s.get (bJ b))
    cases s.get (bJ b)<;>first | rfl | (simp only[TV.eG,hw])
   have Me:= @uE ⟨Z.ws,Z.bs.set (nth df w) ((nth V w).ae.set j.toNat x.den)⟩ cf.n (s.add [(dO,TV.hF (V.set w.toNat {nth V w with ae:=(nth V w).ae.set j.toNat x.den}) df bQ ((List.length_set ..).trans lZ))] s.vs s.be) (V.set w.toNat {nth V w with ae:=(nth V w).ae.set j.toNat x.den}) df bQ ((List.length_set ..).trans lZ) (by rw[TS.j1,h5,if_pos rfl])
   rw[Me,dr ⟨Z.ws,Z.bs.set (nth df w) ((nth V w).ae.set j.toNat x.den)⟩ rfl] at this
   rw[Hk,List.set_append_right _ _ (by rw[pf];omega),pf,Nat.add_sub_cancel]
   have jr:({bj (nth V w).ae with rows:=(bj (nth V w).ae).rows.set j.toNat (fI (aR (nth (nth V w).ae j)) 0 (fC (TV.b x).br))}:Blk)=bj ((nth V w).ae.set j.toNat x.den):=by
    show(⟨0,1,(List.map aR (nth V w).ae).set j.toNat (aR x.den)⟩:Blk)=⟨0,1,_⟩
    rw[KW]
   show Kp s.cl (s.gZ++(List.map bj Z.bs).set (nth df w) {bj (nth V w).ae with rows:=(bj (nth V w).ae).rows.set j.toNat (fI (aR (nth (nth V w).ae j)) 0 (fC (TV.b x).br))})
   rw[jr,LR]
   exact this
  ·exact h.elim
 ·exact h.elim
def OT (P:Program) (t:TypeId) (l c:TV) (s:TS) (K:TV→TS→aK):aK:=match l with
 | .i _ l=>(match c with
  | .i _ c=>(match s.get dO with
   | .hF V ids _ _=> .all Nat fun id=>
    let s':=s.add [(gG,.new id (List.replicate l.toNat false))] s.vs s.be
    .eq (II P t) (some ([AV.bool false],s4 P t)) (.eq l c (.eq s'.cl s.cl (.p (0≤l∧(s4 P t:Int)*l≤140737488355328∧l≤1048576) (K (.EL id s.be (List.replicate l.toNat false).length) s'))))
   | _=> .no)
  | _=> .no)
 | _=> .no
theorem ama (ag:cf.n≤1000000) (aH:Fits s) {t:TypeId} {l c:TV} {K:TV→TS→aK} {Kp:AV→List (Nat×List AV)→List Blk→Prop} (hK:z6 cf s R K Kp) (h:(OT P t l c s K).den R):Bv P t l.br c.br (s.ar cf.n).L (s.ar cf.n).H Kp:=by
 unfold OT at h
 split at h
 ·split at h
  ·split at h
   ·rename_i IF Bp l ri aj6 c arH V ids bQ lZ hk
    obtain⟨h1,h2,aC,bg,bt⟩:=h Z.bs.length
    subst h2
    obtain⟨qb,z,q1,q2,q3,q4,cQ,c0⟩:=YC h1
    refine ez q1 (ez q2 ?_)
    rw[if_pos ⟨q3,q4⟩]
    refine⟨bg.1,Int.le_refl _,by rw[←c0];exact bg.2.1,by have:=bg.2.2;omega,?_⟩
    obtain⟨G,e,iY⟩:=aH V ids _ _ hk
    have qC:(List.replicate l.toNat false).length≤1048576:=by rw[List.length_replicate];have:=bg.2.2;omega
    obtain⟨qd,bX⟩:=G.snoc qC
    have cd:=Fy (n:=cf.n) (s:=s) (l:=[(gG,TV.new Z.bs.length (List.replicate l.toNat false))]) ag (fun p ab=>by rw[List.mem_singleton.1 ab];show 1000000≤gG;unfold gG;omega)
    have Vg:(s.add [(gG,TV.new Z.bs.length (List.replicate l.toNat false))] s.vs s.be).get dO= .hF V ids bQ lZ:=by rw[TS.j1,h5,if_neg (by unfold dO gG;omega)];exact hk
    have sj: @Fits ⟨Z.ws,Z.bs++[List.replicate l.toNat false]⟩ (s.add [(gG,TV.new Z.bs.length (List.replicate l.toNat false))] s.vs s.be):=by
     intro V3 H6 nC HN aC
     rw[Vg] at aC
     cases aC
     refine⟨qd,bX.trans e,fun id xs hx=> ?_⟩
     rw[TS.j1,h5,if_pos rfl] at hx
     cases hx
     refine⟨by show Z.bs.length<(Z.bs++[List.replicate l.toNat false]).length;rw[List.length_append];simp,by show(Z.bs++[List.replicate l.toNat false]).getD Z.bs.length []=_;rw[List.getD_eq_getElem?_getD,List.getElem?_append_right (Nat.le_refl _)];simp,fun j ac=> ?_⟩
     have:=G.ok.lt j _ ac;omega
    have:=hK _ _ ⟨Z.ws,Z.bs++[List.replicate l.toNat false]⟩ bt sj cd
    rw[aC] at this
    have Hk:(s.ar cf.n).H=s.gZ++List.map bj Z.bs:=uE hk
    have Me:= @uE ⟨Z.ws,Z.bs++[List.replicate l.toNat false]⟩ cf.n _ V ids bQ lZ Vg
    have dr: @TS.gZ ⟨Z.ws,Z.bs++[List.replicate l.toNat false]⟩ (s.add [(gG,TV.new Z.bs.length (List.replicate l.toNat false))] s.vs s.be)= @TS.gZ Z s:=by
     show(List.range s.be).map _=(List.range s.be).map _
     refine List.map_congr_left fun b _=> ?_
     rw[TS.j1,h5,if_neg (by unfold gG bJ;omega)]
     show @TV.eG _ (s.get (bJ b))= @TV.eG Z (s.get (bJ b))
     cases s.get (bJ b)<;>rfl
    rw[Me,dr] at this
    have hlen:(s.ar cf.n).H.length=Z.bs.length+s.be:=by rw[Hk,List.length_append,pf,List.length_map];omega
    have qD:z.length=1:=by have:=congrArg List.length cQ;simpa using this.symm
    rw[hlen,qD,←cQ,Hk]
    show Kp (.ref (Z.bs.length+s.be) 0 0 l.toNat false) s.cl (s.gZ++List.map bj Z.bs++[⟨0,1,List.replicate l.toNat [AV.bool false]⟩])
    rw[show List.replicate l.toNat [AV.bool false]=List.map aR (List.replicate l.toNat false) by rw[List.map_replicate];rfl,List.append_assoc,uF]
    have afj:(List.replicate l.toNat false).length=l.toNat:=List.length_replicate
    rw[afj] at this
    exact this
   ·exact h.elim
  ·exact h.elim
 ·exact h.elim
def acf (P:Program) (t:TypeId) (b g:Nat) (i:Int) (c:Nat) (v:TV) (s:TS) (dC:Nat) (an:List TV) (K:TS→aK):aK:=
 let b5:=an.take c++s0 v++an.drop (c+(s0 v).length)
 let s':=s.hC b s.be (.fo g b5)
 .eq dC g (.eq i 0 (.eq (Nat.blt b s.be&&BB v&&zA P t v.br&&Nat.ble (c+(fC v.br).length) an.length) true (.eq (fI (cW an) c (fC v.br)) (cW b5) (.eq b5.length an.length (.eq s'.cl s.cl (K s'))))))
theorem apV (ag:cf.n≤1000000) {t:TypeId} {b g c dC:Nat} {an:List TV} {i:Int} {v:TV} {K:TS→aK} {Kp:List (Nat×List AV)→List Blk→Prop} (aH:Fits s) (az:s.get (bJ b)= .fo dC an)
  (hK: ∀s' (Z':FZ),(K s').den R→ @Fits Z' s'→s'.tT cf.n=s.tT cf.n→Kp s'.cl (@TS.ar Z' cf.n s').H) (h:(acf P t b g i c v s dC an K).den R):
  nM P t (.ptr b g i.toNat c) v.br (s.ar cf.n).L (s.ar cf.n).H Kp:=by
 obtain⟨h1,h2,aC,bg,ch,cy,h⟩:=h
 subst h1;subst h2
 simp only[Bool.and_eq_true] at aC
 obtain⟨⟨⟨hb,_⟩,a6⟩,hle⟩:=aC
 have hb:b<s.be:=by rw[←Nat.blt_eq];exact hb
 have hs:=JL a6
 unfold nM
 rw[if_pos hs]
 refine ez (by rw[vz hb,az]) ⟨rfl,ez (a:=cW an) rfl ⟨by rw[ql,List.length_map];exact Nat.le_of_ble_eq_true hle,?_⟩⟩
 have:=hK _ Z h (sY aH) (sX ag)
 rw[Ab hb,cy] at this
 show Kp s.cl ((s.ar cf.n).H.set b ⟨dC,an.length,[fI (cW an) c (fC v.br)]⟩)
 rw[bg,←ch]
 exact this
end
inductive qh where
 | v (e:aX)
 | fr
 | w
def qh.es:List qh→List aX
 | []=>[]
 | .v e::r=>e::qh.es r
 | .fr::r=>qh.es r
 | .w::r=> .int::qh.es r
def Dv (az:Nat):(l:List qh)→cD (qh.es l)→List AV
 | [],_=>[]
 | .v e::r,x=>qs e x.1::Dv az r x.2
 | .fr::r,x=> .ptr 0 az 0 0::Dv az r x
 | .w::r,x=> .ptr 3 0 (show Int from x.1).toNat 0::Dv az r x.2
def Jk (F:Frame):List TV:=[.b (.v F.ok),.ref 1 0 F.aE.length false,.ref 2 0 F.ay.length false,.ref 3 0 F.O.length false]
def L1 [Z:FZ] (az:Nat) (ids:List Nat) (F:Frame):List Blk:=
 [⟨az,4,[cW (Jk F)]⟩,⟨0,1,F.aE.map (cE true .bool)⟩,⟨0,2,F.ay.map (cE true .e0)⟩,⟨0,5,aW 4 Z.ws ids⟩]++Z.bs.map bj
def Kb [Z:FZ] (ids:List Nat) (F:Frame):Prop:=gB Z.ws ids Z.bs∧view Z.ws ids Z.bs=F.O
def ada (P:Program) (f:FuncId) (az:Nat) (args:List AV) (F:Frame) (Sk:Frame) (v:AV):Prop:=
 ∀(Z:FZ) (ids:List Nat),@Kb Z ids F→c8 P f args (@L1 Z az ids F) fun r H'=>r=v∧ ∃(Z':FZ) (df:List Nat),@Kb Z' df Sk∧H'= @L1 Z' az df Sk
def Bu (az:Nat) (ids:List Nat) (F:Frame):List (Nat×TV):=
 [(bJ 0,.fo az (Jk F)),(bJ 1,.blk 0 .bool F.aE F.aE.length rfl),(bJ 2,.blk 0 .e0 F.ay F.ay.length rfl),(bJ 3,.lP 0 4 ids),(dO,.hF F.O ids F.O.length rfl)]
def L0 (s:TS) (K:Nat→Frame→List Nat→aK):aK:=match s.get (bJ 0) with
 | .fo g an=>(match an with
  | [.b k,.ref b1 g1 dG f1,.ref b2 g2 n2 f2,.ref r4 g3 nC f3]=>(match s.get (bJ 1) with
   | .blk h1 aN o a_ _=>if q1:aN=aX.bool then(match s.get (bJ 2) with
    | .blk h2 e2 q bw _=>if q2:e2=aX.e0 then(match s.get (bJ 3) with
     | .lP aC im ids=>(match s.get dO with
      | .hF V df bQ _=> .eq s.be 4 (.eq (b1,g1,dG,f1) (1,0,a_,false) (.eq (b2,g2,n2,f2) (2,0,bw,false) (.eq (r4,g3,nC,f3) (3,0,bQ,false) (.eq (h1,h2,aC,im) (0,0,0,4)
       (.eq df ids (K g ⟨k.den,ns q1 o,ns q2 q,V⟩ ids))))))
      | _=> .no)
     | _=> .no) else .no
    | _=> .no) else .no
   | _=> .no)
  | _=> .no)
 | _=> .no
theorem agu [Z:FZ] {n:Nat} {s:TS} {K:Nat→Frame→List Nat→aK} {R:Exit→TS→Prop} (aH:Fits s) (h:(L0 s K).den R): ∃g F ids,(K g F ids).den R∧Kb ids F∧(s.ar n).H=L1 g ids F∧s.be=4∧s.get dO= .hF F.O ids F.O.length rfl:=by
 unfold L0 at h
 split at h
 ·rename_i g an uQ
  split at h
  ·split at h
   ·rename_i h1 aN o a_ HL nw
    split at h
    ·rename_i q1
     subst q1
     split at h
     ·rename_i h2 e2 q bw kj DS
      split at h
      ·rename_i q2
       subst q2
       split at h
       ·rename_i aC im ids ahL
        split at h
        ·rename_i V df bQ lZ hk
         obtain⟨a8,c_,hj,n9,Ov,Ow,h⟩:=h
         cases c_;cases hj;cases n9;cases Ov;subst Ow;subst HL;subst kj;subst lZ
         obtain⟨G,e,_⟩:=aH V df _ _ hk
         refine⟨_,_,_,h,⟨G,e⟩,?_,a8,hk⟩
         rw[uE hk]
         have hE:s.gZ=[(s.get (bJ 0)).eG,(s.get (bJ 1)).eG,(s.get (bJ 2)).eG,(s.get (bJ 3)).eG]:=by unfold TS.gZ;rw[a8];rfl
         rw[hE,uQ,nw,DS,ahL];rfl
        ·exact h.elim
       ·exact h.elim
      ·exact h.elim
     ·exact h.elim
    ·exact h.elim
   ·exact h.elim
  ·exact h.elim
 ·exact h.elim
structure vG (P:Program) where
 f:FuncId
 ks:List qh
 rs:List aX
 pre:cD (qh.es ks)→Frame→Prop
 fn:cD (qh.es ks)→Frame→Frame
 cu:cD (qh.es ks)→Frame→cD rs
 ok: ∀az x F,pre x F→ada P f az (Dv az ks x) F (fn x F) (s5 rs (cu x F))
def np:(l:List qh)→List TV→cD (qh.es l)
 | [],_=>()
 | .v e::r,v::vs=>(agA e v,np r vs)
 | .fr::r,_::vs=>np r vs
 | .w::r,v::vs=>((match v with
  | .ptr _ _ i _ _=>i
  | _=>(0:Int)),np r vs)
 | .v e::r,[]=>(e.yR.default,np r [])
 | .fr::r,[]=>np r []
 | .w::r,[]=>((0:Int),np r [])
def Hg {P:Program}:List (vG P)→FuncId→(vG P→aK)→aK→aK
 | [],_,_,t=>t
 | c::r,f,K,t=>match Nat.beq c.f f with
  | true=>K c
  | false=>Hg r f K t
def La {P:Program} (c:vG P) (args:List TV) (s:TS) (K:TV→TS→aK):aK:=L0 s fun g F ids=>
 .eq (cW args) (Dv g c.ks (np c.ks args)) (.eq ((cW args).all e_&&(cW args).all lF) true (.p (c.pre (np c.ks args) F) (.all (List Nat) fun df=>
  let s':=s.add ((gG,.u)::Bu g df (c.fn (np c.ks args) F)) s.vs s.be
  .eq s'.cl s.cl (.eq (Bz (s5 c.rs (c.cu (np c.ks args) F))) true (K (Ji c.rs (c.cu (np c.ks args) F)) s')))))
theorem al8 (az:Nat) (ids:List Nat) (F:Frame) (s:TS):let s':=s.add ((gG,.u)::Bu az ids F) s.vs s.be
  s'.get (bJ 0)= .fo az (Jk F)∧s'.get (bJ 1)= .blk 0 .bool F.aE F.aE.length rfl∧s'.get (bJ 2)= .blk 0 .e0 F.ay F.ay.length rfl∧s'.get (bJ 3)= .lP 0 4 ids∧s'.get dO= .hF F.O ids F.O.length rfl∧s'.get gG= .u:=by
 intro s'
 have aA:gG≠bJ 0∧gG≠bJ 1∧gG≠bJ 2∧gG≠bJ 3∧gG≠dO:=by unfold gG bJ dO;omega
 have e: ∀k,s'.get k=hS ((gG,.u)::Bu az ids F) k (s.get k):=fun k=>TS.j1 ..
 refine⟨?_,?_,?_,?_,?_,?_⟩<;>rw[e]<;>rfl
theorem aeP [Z:FZ] {P:Program} {n:Nat} (ag:n≤1000000) {c:vG P} {args:List TV} {s:TS} {K:TV→TS→aK} {R:Exit→TS→Prop} {Kp:AV→List (Nat×List AV)→List Blk→Prop} (aH:Fits s)
  (hK: ∀v s' (Z':FZ),(K v s').den R→ @Fits Z' s'→s'.tT n=s.tT n→Kp v.br s'.cl (@TS.ar Z' n s').H) (h:(La c args s K).den R):mU P c.f (cW args) (s.ar n).L (s.ar n).H Kp:=by
 unfold La at h
 obtain⟨g,F,ids,bt,h1,h2,aC,_⟩:=agu (n:=n) aH h
 obtain⟨c_,hj,n9,hk⟩:=bt
 simp only[Bool.and_eq_true] at hj
 refine .inr (.inr (.inl ⟨hj.1,hj.2,?_⟩))
 rw[h2,c_]
 refine(c.ok g _ F n9 Z ids h1).mono fun r H' U=> ?_
 obtain⟨rfl,Z',df,q1,rfl⟩:=U
 obtain⟨Ow,aj5,hk⟩:=hk df
 refine⟨aj5,?_⟩
 obtain⟨al,a_,bw,cX,eZ,al4⟩:=al8 g df (c.fn (np c.ks args) F) s
 have sj: @Fits Z' (s.add ((gG,.u)::Bu g df (c.fn (np c.ks args) F)) s.vs s.be):=by
  intro V3 H6 nC HN aC
  rw[eZ] at aC
  cases aC
  refine⟨q1.1,q1.2,fun id xs hx=> ?_⟩
  rw[al4] at hx;cases hx
 have:=hK _ _ Z' hk sj (Fy ag fun p ab=>by
  simp only[Bu,List.mem_cons,List.not_mem_nil,or_false] at ab
  rcases ab with rfl | rfl | rfl | rfl | rfl | rfl
  ·show 1000000≤gG;unfold gG;omega
  ·show 1000000≤bJ 0;unfold bJ;omega
  ·show 1000000≤bJ 1;unfold bJ;omega
  ·show 1000000≤bJ 2;unfold bJ;omega
  ·show 1000000≤bJ 3;unfold bJ;omega
  ·exact Nat.le_refl _)
 rw[Ow,PD,@uE Z' n _ _ _ _ _ eZ] at this
 have hE: @TS.gZ Z' (s.add ((gG,.u)::Bu g df (c.fn (np c.ks args) F)) s.vs s.be)=[@TV.eG Z' (.fo g (Jk (c.fn (np c.ks args) F))),@TV.eG Z' (.blk 0 .bool (c.fn (np c.ks args) F).aE _ rfl),@TV.eG Z' (.blk 0 .e0 (c.fn (np c.ks args) F).ay _ rfl),@TV.eG Z' (.lP 0 4 df)]:=by
  rw[←al,←a_,←bw,←cX]
  show(List.range s.be).map _=_
  rw[aC];rfl
 rw[hE] at this
 exact this
inductive nR where
 | v (e:aX)
 | p
def nR.es:List nR→List aX
 | []=>[]
 | .v e::r=>e::nR.es r
 | .p::r=>nR.es r
def G1 (g:Nat):(l:List nR)→cD (nR.es l)→List AV
 | [],_=>[]
 | .v e::r,x=>qs e x.1::G1 g r x.2
 | .p::r,x=> .ptr 0 g 0 0::G1 g r x
structure sP (P:Program) where
 f:FuncId
 ce:aX
 ks:List nR
 rs:List aX
 pre:cD (nR.es ks)→ce.T→Prop
 fn:cD (nR.es ks)→ce.T→ce.T
 cu:cD (nR.es ks)→ce.T→cD rs
 ok: ∀g x c,pre x c→xG P f g (G1 g ks x) (cE false ce c) (cE false ce (fn x c)) (s5 rs (cu x c))
def Zz:List nR→List TV→TV
 | .p::_,v::_=>v
 | .v _::r,_::vs=>Zz r vs
 | _,_=> .u
def Mk:List nR→Bool
 | []=>false
 | .p::_=>true
 | .v _::r=>Mk r
def PM:TS:=⟨[],[],[],0⟩
def GH (p:AV):(l:List nR)→List TV→(cD (nR.es l)→List Prop→aK)→aK
 | [],[],K=>K () []
 | .v e::r,v::vs,K=>conv PM e v fun x o=>GH p r vs fun y h7=>K (x,y) (o++h7)
 | .p::r,v::vs,K=> .eq v.br p (GH p r vs K)
 | _,_,_=> .no
def amw (e:aX):Bool:=e.rC
def Lh {P:Program} (c:sP P) (args:List TV) (p:AV) (cells:List TV) (K:TV→c.ce.T→aK):aK:=
 .eq (cW cells) (cE false c.ce (c.ce.mk (sd c.ce.bN cells))) (.eq (Mk c.ks&&amw c.ce&&(cW args).all e_) true (GH p c.ks args fun x o=>
  IY (o++[c.pre x (c.ce.mk (sd c.ce.bN cells))]) (K (Ji c.rs (c.cu x (c.ce.mk (sd c.ce.bN cells)))) (c.fn x (c.ce.mk (sd c.ce.bN cells))))))
def Li {P:Program} (c:sP P) (args:List TV) (s:TS) (K:TV→TS→aK):aK:=match Zz c.ks args with
 | .ptr b g _ _ _=>(match s.get (bJ b) with
  | .fo dC cells=>(match Nat.blt b s.be with
   | true=> .eq dC g (Lh c args (.ptr b g 0 0) cells fun v y=>
     let s':=s.hC b s.be (.fo g (kL false c.ce y))
     .eq s'.cl s.cl (K v s'))
   | false=> .no)
  | _=> .no)
 | .lp v _=>(match l3 s.vs v with
  | some m=>Lh c args (.fZ v 0) (ix s v 0 m) fun w y=>
    let s':=s.add (x2 v 0 (kL false c.ce y)) s.vs s.be
    .eq s'.cl (mH s.cl v (cE false c.ce y)) (.eq (r6 (x2 v 0 (kL false c.ce y))) true (K w s'))
  | none=> .no)
 | _=> .no
def Hh {P:Program}:List (sP P)→FuncId→(sP P→aK)→aK→aK
 | [],_,_,t=>t
 | c::r,f,K,t=>match Nat.beq c.f f with
  | true=>K c
  | false=>Hh r f K t
theorem Ub {P:Program} {f:FuncId} {K:sP P→aK} {t:aK} {R:Exit→TS→Prop}: ∀{sL:List (sP P)},(Hh sL f K t).den R→(∃m,m.f=f∧(K m).den R)∨t.den R
 | [],h=> .inr h
 | c::r,h=>by
  unfold Hh at h
  split at h
  ·rename_i hf;exact .inl ⟨c,Nat.eq_of_beq_eq_true hf,h⟩
  ·exact Ub h
theorem GZ {e:aX} (h:e.rC=true) (x:e.T):(cE false e x).all yS=true∧(cE false e x).all kK=true:=by cases e<;>first | exact⟨rfl,rfl⟩ | cases h
theorem Lg {p:AV} {g:Nat} {R:Exit→TS→Prop}: ∀{l:List nR} {vs:List TV} {K:cD (nR.es l)→List Prop→aK},(GH p l vs K).den R→ ∃x o,(K x o).den R∧((∀φ∈o,φ)→ah (xE p (.ptr 0 g 0 0)) (cW vs) (G1 g l x))∧(Mk l=true→p∈cW vs)
 | [],[],K,h=>⟨(),[],h,fun _=>ah.nil,fun h=>by cases h⟩
 | .v e::r,v::vs,K,h=>by
  letI Z:FZ:=⟨[],[]⟩
  obtain⟨x,o,h,c_⟩:=Lf (n:=0) (Fits.none (s:=PM) rfl) (show(conv PM e v _).den R from h)
  obtain⟨y,h7,h,hj,n9⟩:=Lg (l:=r) h
  exact⟨(x,y),o++h7,h,fun aj=>ah.cons (.inr (c_ fun φ e9=>aj φ (List.mem_append_left _ e9))) (hj fun φ e9=>aj φ (List.mem_append_right _ e9)),fun ab=>List.mem_cons_of_mem _ (n9 ab)⟩
 | .p::r,v::vs,K,h=>by
  obtain⟨e,h⟩:=h
  obtain⟨y,h7,h,hj,n9⟩:=Lg (l:=r) h
  exact⟨y,h7,h,fun aj=>ah.cons (.inl ⟨e,rfl⟩) (hj aj),fun _=>by rw[cW,e];exact List.mem_cons_self ..⟩
 | [],_::_,K,h=>h.elim
 | .v _::_,[],K,h=>h.elim
 | .p::_,[],K,h=>h.elim
theorem Tu {P:Program} {c:sP P} {args:List TV} {p:AV} {cells:List TV} {K:TV→c.ce.T→aK} {R:Exit→TS→Prop} (g:Nat) (h:(Lh c args p cells K).den R):
  ∃eE x y t,(K t y).den R∧(cW args).all e_=true∧cW cells=cE false c.ce x∧c.ce.rC=true∧p∈cW args∧ah (xE p (.ptr 0 g 0 0)) (cW args) eE∧xG P c.f g eE (cE false c.ce x) (cE false c.ce y) t.br:=by
 obtain⟨h1,h2,h⟩:=h
 simp only[Bool.and_eq_true] at h2
 obtain⟨x,o,h,hj,n9⟩:=Lg (g:=g) h
 obtain⟨aj,h⟩:=Y7 h
 refine⟨_,_,_,_,h,h2.2,h1,h2.1.2,n9 h2.1.1,hj fun φ e9=>aj φ (List.mem_append_left _ e9),?_⟩
 rw[PD]
 exact c.ok g x _ (aj _ (List.mem_append_right _ (List.mem_singleton.2 rfl)))
theorem ZS {c:List TV} {e:aX} {x:e.T} (h:cW c=cE false e x):c.length=(cE false e x).length:=by rw[←h,ql,List.length_map]
theorem aeV [Z:FZ] {P:Program} {n:Nat} (ag:n≤1000000) {c:sP P} {args:List TV} {s:TS} {K:TV→TS→aK} {R:Exit→TS→Prop} {Kp:AV→List (Nat×List AV)→List Blk→Prop} (aH:Fits s)
  (hK: ∀v s' (Z':FZ),(K v s').den R→ @Fits Z' s'→s'.tT n=s.tT n→Kp v.br s'.cl (@TS.ar Z' n s').H) (h:(Li c args s K).den R):mU P c.f (cW args) (s.ar n).L (s.ar n).H Kp:=by
 unfold Li at h
 split at h
 ·rename_i b g i m col ab
  split at h
  ·rename_i dC cells az
   split at h
   ·rename_i hb
    have hb:b<s.be:=by rw[←Nat.blt_eq];exact hb
    obtain⟨e,h⟩:=h
    subst e
    obtain⟨eE,x,y,t,bt,h1,h2,aC,bg,ch,cy⟩:=Tu dC h
    obtain⟨bB,bt⟩:=bt
    refine .inr (.inr (.inr ⟨h1,eE,cE false c.ce x,cE false c.ce y,t.br,(GZ aC x).1,(GZ aC y).2,.inl ⟨b,dC,?_,bg,ch,cy,?_⟩⟩))
    ·rw[vz hb,az]
     show some (Blk.mk dC cells.length [cW cells])=_
     rw[ZS h2,h2]
    ·have:=hK _ _ Z bt (sY aH) (sX ag)
     rw[bB,Ab hb] at this
     have aN:TV.eG (.fo dC (kL false c.ce y))=Blk.mk dC (cE false c.ce x).length [cE false c.ce y]:=by
      show Blk.mk dC (kL false c.ce y).length [cW (kL false c.ce y)]=_
      rw[ZS (GA false c.ce y),GA,x4,x4]
     rw[aN] at this
     exact this
   ·exact h.elim
  ·exact h.elim
 ·rename_i v col ab
  split at h
  ·rename_i m hm
   obtain⟨eE,x,y,t,bt,h1,h2,aC,bg,ch,cy⟩:=Tu 0 h
   obtain⟨bB,hb,bt⟩:=bt
   refine .inr (.inr (.inr ⟨h1,eE,cE false c.ce x,cE false c.ce y,t.br,(GZ aC x).1,(GZ aC y).2,.inr ⟨v,?_,bg,ch,cy,?_⟩⟩))
   ·rw[zB,hm,←h2];rfl
   ·have:=hK _ _ Z bt (Dh hb aH) (Dg ag hb)
    rw[bB,Df hb] at this
    exact this
  ·exact h.elim
 ·exact h.elim
structure sQ (P:Program) where
 len:List Nat
 rQ:List (vG P)
 JW:List (sP P)
def RI (P:Program) (n:Nat) (t:TypeId) (b g:Nat) (i:Int) (m c:Nat) (v:TV) (s:TS) (w:TV) (K:TS→aK):aK:=match w with
 | .lP dC im ids=>(match BB v with
  | true=>RJ P t b g i c v s dC im ids K
  | false=> .no)
 | .fo dC an=>acf P t b g i c v s dC an K
 | _=>RF P n t b g i m c v s K
section
variable {P:Program} (cf:hO P) (s:TS)
def J2 (eN:sQ P) (o:Oper) (K:TV→TS→aK):aK:=match o.op with
 | .store t a v=>(match cP cf.n s a with
  | .lp x c=>sc (cP cf.n s v) fun w=>DE cf s o (.tup []) (x2 x c (s0 w)) s.vs K
  | .ptr b g i m c=>sc (cP cf.n s v) fun w=>RI P cf.n t b g i m c w s (s.get (bJ b)) fun s'=>K (.tup []) s'
  | .Ax w ids m j=>sc (cP cf.n s v) fun x=>FA P t w ids m j x s fun s'=>K (.tup []) s'
  | _=> .no)
 | .alloc e=>(match o.dst with
  | some d=>DE cf s o (.lp d 0) (x2 d 0 (FM P e)) ((d,(FM P e).length)::s.vs) K
  | none=> .no)
 | .box _ x=>(match o.dst with
  | some d=>sc (cP cf.n s x) fun w=>DE cf s o (.lp d 0) (x2 d 0 (s0 w)) ((d,(s0 w).length)::s.vs) K
  | none=> .no)
 | .makeSlice t l c=>(match kp s with
  | true=>Bs cf.kf t fun e=>OU P cf.n t e (cP cf.n s l) (cP cf.n s c) s K
  | false=>OT P t (cP cf.n s l) (cP cf.n s c) s K)
 | .buildSlice t m ps=>Bs cf.kf t fun e=>ID s e (ps.toList.map fun p=>cP cf.n s p.2) fun xs=>uL (fun H Q=>k5 P o (fun x=>(cP cf.n s x).br) s.cl H Q) (fun v=>K v s) (.v (Yp e xs (ps.toList.map fun p=>cP cf.n s p.2)))
 | .binOp op t x y _=>(match cP cf.n s x with
  | .l e xs _ _=>(match op with
   | .eql=> .eq (tD y&&(kg P t).isSome) true (.two (.k9 (xs≠[]) (K (.b .f) s)) (.k9 (xs=[]) (.all Bool fun b=>K (.b (.v b)) s)))
   | _=> .no)
  | _=>vm cf s o fun v=>K v s)
 | .call c=>(match c.callee with
  | .builtin b=>(match b with
   | .len=>(match c.args.toList,c.argTypes.toList with
    | [x],[t]=>(match cP cf.n s x with
     | .l e xs ee fr=>(match o.dst with
      | some d=>(match eN.len.any (Nat.beq d) with
       | true=>vm cf s o fun v=>K v s
       | false=> .eq (lb P t (TV.l e xs ee fr).br) true (.k9 (xs.length≤4611686018427387904) (K (.i .i64 xs.length) s)))
      | none=> .no)
     | _=>vm cf s o fun v=>K v s)
    | _,_=> .no)
   | .append=>(match c.args.toList,c.argTypes.toList with
    | [x,y],[t,t2]=>KN P cf.n t t2 (cP cf.n s x) (cP cf.n s y) s K
    | _,_=> .no)
   | _=> .no)
  | .value f=>(match cP cf.n s f with
   | .fn g caps=>Hg eN.rQ g (fun m=>La m (c.args.toList.map (cP cf.n s)++caps) s K) (Hh eN.JW g (fun m=>Li m (c.args.toList.map (cP cf.n s)++caps) s K) (vm cf s o fun v=>K v s))
   | _=> .no)
  | _=> .no)
 | _=>vm cf s o fun v=>K v s
end
section
variable {P:Program} {cf:hO P} {s:TS} {R:Exit→TS→Prop}
variable {K:TV→TS→aK} {Kp:AV→List (Nat×List AV)→List Blk→Prop}
theorem apR {t:TypeId} {m:Nat} {ids:List Nat} {w j:Int} {v:TV} {K:TS→aK} (h:(FA P t w ids m j v s K).den R):e_ v.br=true:=by
 unfold FA at h
 split at h
 ·obtain⟨_,_,_,h⟩:=h
  split at h
  ·rfl
  ·exact h.elim
 ·exact h.elim
end
section
variable {P:Program} {cf:hO P} {s:TS} {R:Exit→TS→Prop}
variable {K:TV→TS→aK} {Kp:AV→List (Nat×List AV)→List Blk→Prop}
theorem Ua {f:FuncId} {K:vG P→aK} {t:aK}: ∀{sL:List (vG P)},(Hg sL f K t).den R→(∃m,m.f=f∧(K m).den R)∨t.den R
 | [],h=> .inr h
 | c::r,h=>by
  unfold Hg at h
  split at h
  ·rename_i hf;exact .inl ⟨c,Nat.eq_of_beq_eq_true hf,h⟩
  ·exact Ua h
end
section
variable [Z:FZ] {P:Program} {cf:hO P} {s:TS} {R:Exit→TS→Prop}
variable {K:TV→TS→aK} {Kp:AV→List (Nat×List AV)→List Blk→Prop}
theorem apU (ag:cf.n≤1000000) (aH:Fits s) {t:TypeId} {b g m c:Nat} {i:Int} {v:TV} {K:TS→aK} {Kp:List (Nat×List AV)→List Blk→Prop} (hK: ∀s' (Z':FZ),(K s').den R→ @Fits Z' s'→s'.tT cf.n=s.tT cf.n→Kp s'.cl (@TS.ar Z' cf.n s').H)
  (h:(RI P cf.n t b g i m c v s (s.get (bJ b)) K).den R):fa (e_ v.br) (nM P t (.ptr b g i.toNat c) v.br (s.ar cf.n).L (s.ar cf.n).H Kp):=by
 unfold RI at h
 split at h
 ·rename_i dC im ids az
  split at h
  ·rename_i hv
   exact IV (IS hv) (apW ag aH az hK h)
  ·exact h.elim
 ·rename_i dC an az
  have aC:(Nat.blt b s.be&&BB v&&zA P t v.br&&Nat.ble (c+(fC v.br).length) an.length)=true:=h.2.2.1
  simp only[Bool.and_eq_true] at aC
  exact IV (IS aC.1.1.2) (apV ag aH az hK h)
 ·exact apK ag aH hK h
theorem acJ (ag:cf.n≤1000000) (aH:Fits s) {eN:sQ P} {o:Oper} (hK:z6 cf s R K Kp) (h:(J2 cf s eN o K).den R):lr P [] o (ci (s.ar cf.n).T) (s.ar cf.n).L (s.ar cf.n).H Kp:=by
 have E2: ∀v,(K v s).den R→Kp v.br (s.ar cf.n).L (s.ar cf.n).H:=fun v hv=>hK v s Z hv aH rfl
 have rd:(vm cf s o fun v=>K v s).den R→k5 P o (ci (s.ar cf.n).T) (s.ar cf.n).L (s.ar cf.n).H fun r=>Kp r (s.ar cf.n).L (s.ar cf.n).H:=fun h=>ZU aH (Kp:=fun r=>Kp r (s.ar cf.n).L (s.ar cf.n).H) E2 h
 unfold J2 at h
 split at h
 ·rename_i t a v gx
  split at h
  ·rw[s_] at h;exact Mb ag aH hK h
  ·rename_i b g i m c aw
   rw[s_] at h
   obtain⟨dst,op,ty,pos,after,guard⟩:=o
   cases gx
   show fa (e_ (ci (s.ar cf.n).T v)) (nM P t (ci (s.ar cf.n).T a) (ci (s.ar cf.n).T v) _ _ _)
   rw[mw]
   show fa (e_ (cP cf.n s v).br) (nM P t (cP cf.n s a).br (cP cf.n s v).br _ _ _)
   rw[aw]
   exact apU ag aH (fun s' Z' h1 hf h2=>hK (.tup []) s' Z' h1 hf h2) h
  ·rename_i w ids m j aw
   rw[s_] at h
   obtain⟨dst,op,ty,pos,after,guard⟩:=o
   cases gx
   show fa (e_ (ci (s.ar cf.n).T v)) (nM P t (ci (s.ar cf.n).T a) (ci (s.ar cf.n).T v) _ _ _)
   rw[mw]
   show fa (e_ (cP cf.n s v).br) (nM P t (cP cf.n s a).br (cP cf.n s v).br _ _ _)
   rw[aw]
   refine IV ?_ (apS ag aH (fun s' Z' h1 hf h2=>hK (.tup []) s' Z' h1 hf h2) h)
   exact apR h
  ·exact h.elim
 ·split at h
  ·exact Mb ag aH hK h
  ·exact h.elim
 ·split at h
  ·rw[s_] at h;exact Mb ag aH hK h
  ·exact h.elim
 ·rename_i t l c gx
  obtain⟨dst,op,ty,pos,after,guard⟩:=o
  cases gx
  show Bv P t (ci (s.ar cf.n).T l) (ci (s.ar cf.n).T c) _ _ _
  rw[mw]
  split at h
  ·obtain⟨e,h⟩:=OJ h
   exact amh ag aH hK h
  ·exact ama ag aH hK h
 ·rename_i t m ps gx
  obtain⟨e,h⟩:=OJ h
  obtain⟨xs,h⟩:=OI (n:=cf.n) aH h
  refine ang gx ?_
  rw[mw]
  exact v_ (F:=fun H Q=>k5 P o _ _ H Q) (s.ar cf.n).H (Kp:=fun r=>Kp r (s.ar cf.n).L (s.ar cf.n).H) E2 h
 ·rename_i op t x y ty2 gx
  split at h
  ·rename_i e xs ee fr hx
   split at h
   ·obtain⟨h1,h2,aC⟩:=h
    obtain⟨dst,op,ty,pos,after,guard⟩:=o
    cases gx
    show vT P .eql t (ci (s.ar cf.n).T x) _ (tD y) _
    rw[mw]
    show vT P .eql t (cP cf.n s x).br _ (tD y) _
    rw[hx]
    show if tD y=true∧(kg P t).isSome=true then _ else _
    rw[if_pos (by simpa using h1)]
    refine⟨fun b7=> ?_,fun he b=> ?_⟩
    ·exact E2 (.b .f) (h2 fun e=>b7 (by rw[e];rfl))
    ·exact E2 (.b (.v b)) (aC (by simpa using he) b)
   ·exact h.elim
  ·refine ZV (rd h) (fun c=>by rw[gx];intro e;cases e) (fun t m ps=>by rw[gx];intro e;cases e)
 ·rename_i c gx
  obtain⟨callee,args,argTypes⟩:=c
  split at h
  ·rename_i b hb
   cases hb
   split at h
   ·split at h
    ·rename_i x t h1 h2
     simp only at h1 h2
     split at h
     ·rename_i e xs ee fr hx
      split at h
      ·split at h
       ·exact Pw gx (rd h)
       ·obtain⟨aN,h⟩:=h
        obtain⟨dst,op,ty,pos,after,guard⟩:=o
        cases gx
        show(match args.toList,argTypes.toList with
         | [x],[t]=>fa (lb P t (ci (s.ar cf.n).T x)) (vd (ci (s.ar cf.n).T x) fun r=>Kp r _ _)
         | _,_=>False)
        simp only[h1,h2]
        rw[mw]
        show fa (lb P t (cP cf.n s x).br) (vd (cP cf.n s x).br _)
        rw[hx,aN]
        show(List.map _ _).length≤_→Kp (.int .i64 ((List.map _ _).length:Nat)) _ _
        rw[List.length_map]
        exact fun au=>E2 _ (h au)
      ·exact h.elim
     ·exact Pw gx (rd h)
    ·exact h.elim
   ·split at h
    ·rename_i x y t t2 h1 h2
     simp only at h1 h2
     obtain⟨dst,op,ty,pos,after,guard⟩:=o
     cases gx
     show(match args.toList,argTypes.toList with
      | [s',x],[t,t2]=>e_ (ci (s.ar cf.n).T s')=true∧e_ (ci (s.ar cf.n).T x)=true∧xW P t t2 (ci (s.ar cf.n).T s') (ci (s.ar cf.n).T x) _ _ _
      | _,_=>False)
     simp only[h1,h2]
     rw[mw]
     exact adO ag aH hK h
    ·exact h.elim
   ·exact h.elim
  ·rename_i f hf
   cases hf
   split at h
   ·rename_i g caps hc
    rcases Ua h with⟨m,e,hm⟩ | hm
    ·subst e
     obtain⟨dst,op,ty,pos,after,guard⟩:=o
     cases gx
     show nr (ci (s.ar cf.n).T f) fun g caps=>mU P g (args.toList.map (ci (s.ar cf.n).T)++caps) _ _ Kp
     rw[mw]
     show nr (cP cf.n s f).br fun g caps=>mU P g (args.toList.map (fun x=>(cP cf.n s x).br)++caps) _ _ Kp
     rw[hc]
     have:=aeP (n:=cf.n) ag aH (fun v s' Z' h1 h2 aC=>hK v s' Z' h1 h2 aC) hm
     rw[ql,List.map_append,List.map_map] at this
     show mU P m.f (_++cW caps) _ _ Kp
     rw[ql];exact this
    ·rcases Ub hm with⟨m,e,ab⟩ | hm
     ·subst e
      obtain⟨dst,op,ty,pos,after,guard⟩:=o
      cases gx
      show nr (ci (s.ar cf.n).T f) fun g caps=>mU P g (args.toList.map (ci (s.ar cf.n).T)++caps) _ _ Kp
      rw[mw]
      show nr (cP cf.n s f).br fun g caps=>mU P g (args.toList.map (fun x=>(cP cf.n s x).br)++caps) _ _ Kp
      rw[hc]
      have:=aeV (n:=cf.n) (Kp:=Kp) ag aH (fun v s' Z' h1 h2 aC=>hK v s' Z' h1 h2 aC) ab
      rw[ql,List.map_append,List.map_map] at this
      show mU P m.f (_++cW caps) _ _ Kp
      rw[ql];exact this
     ·exact Pw gx (rd hm)
   ·exact h.elim
  ·exact h.elim
 ·rename_i h1 h2 aC bg ch cy hr
  exact ZV (rd h) (fun c=>hr c) (fun t m ps=>ch t m ps)
end
def y0 (b:Bool):TV:= .b (match b with
 | true=> .t
 | false=> .f)
theorem Yq (b:Bool):(y0 b).br= .bool b:=by cases b<;>rfl
def JJ (x:eK) (s:TS) (K:Bool→TS→aK):aK:=match x with
 | .t=>K true s
 | .f=>K false s
 | x=> .j7 x s (K true ⟨[],s.T++s.B,s.vs,s.be⟩) (K false ⟨[],s.T++s.B,s.vs,s.be⟩)
def JT (d:Nat) (v:TV):TV:=match v with
 | .b x=>(match x with
  | .v p=> .b (.at d p)
  | x=> .b x)
 | v=>v
theorem ap3 (d:Nat) (v:TV):(JT d v).br=v.br:=by
 unfold JT
 split
 ·split<;>rfl
 ·rfl
def lK (n:Nat) (s:TS) (d:Option Nat) (v:TV):TS:=match d with
 | none=>s
 | some d=>match Nat.blt d n with
  | true=>s.put d (JT d v)
  | false=>s
theorem apI [FZ] {n:Nat} {s s':TS} (hv:s'.vs=s.vs) (hb:s'.be=s.be) (h: ∀k,s'.get k=s.get k):s'.ar n=s.ar n:=by
 have hc: ∀v c m,ix s' v c m=ix s v c m:=by
  intro v c m
  induction m generalizing c with
  | zero=>rfl
  | succ m bp=>rw[ix,ix,h _,bp]
 have aB:=RE (n:=n) hb (fun b=>h _) (h dO)
 have cd:s'.tT n=s.tT n:=by unfold TS.tT;simp only[h]
 have bB:s'.cl=s.cl:=by unfold TS.cl;simp only[hv,hc]
 show(⟨s'.tT n,s'.cl,(s'.ar n).H⟩:St)=_
 rw[cd,bB,aB];rfl
theorem ab8 (s:TS) (k:Nat):TS.get ⟨[],s.T++s.B,s.vs,s.be⟩ k=s.get k:=by unfold TS.get;simp only;rw[y1];rfl
theorem apE [FZ] {n:Nat} (s:TS):TS.ar n ⟨[],s.T++s.B,s.vs,s.be⟩=s.ar n:=apI rfl rfl (ab8 s)
theorem RD [FZ] {n:Nat} {x:eK} {s:TS} {K:Bool→TS→aK} {R:Exit→TS→Prop} (h:(JJ x s K).den R): ∃s',s'.ar n=s.ar n∧(∀k,s'.get k=s.get k)∧(K x.den s').den R:=by
 have key:(aK.j7 x s (K true ⟨[],s.T++s.B,s.vs,s.be⟩) (K false ⟨[],s.T++s.B,s.vs,s.be⟩)).den R→ ∃s',s'.ar n=s.ar n∧(∀k,s'.get k=s.get k)∧(K x.den s').den R:=fun h=>by
  refine⟨_,apE s,ab8 s,?_⟩
  ·cases hx:x.den with
   | true=>exact h.1 hx
   | false=>exact h.2 hx
 cases x with
 | t=>exact⟨s,rfl,fun _=>rfl,h⟩
 | f=>exact⟨s,rfl,fun _=>rfl,h⟩
 | _=>exact key h
theorem I6 {s:TS} {d k:Nat} {v:TV} (h:d<1000000) (hk:1000000≤k):(s.put d v).get k=s.get k:=by rw[TS.L8,if_neg (by omega)]
theorem Pf [FZ] {s:TS} {d:Nat} {v:TV} (h:d<1000000) (f:Fits s):Fits (s.put d v):=f.congr fun k h1 _=>I6 h h1
theorem ZC {s:TS} {d:Nat} {v:TV} (h:d<1000000):(s.put d v).cl=s.cl:=by
 have hc: ∀ea c m,ix (s.put d v) ea c m=ix s ea c m:=by
  intro ea c m
  induction m generalizing c with
  | zero=>rfl
  | succ m bp=>rw[ix,ix,I6 h (by unfold h4;omega),bp]
 show s.vs.map _=s.vs.map _
 simp only[hc]
theorem ZB [FZ] {n:Nat} {s:TS} {d:Nat} {v:TV} (h:d<1000000):((s.put d v).ar n).H=(s.ar n).H:=RE rfl (fun b=>I6 h (by unfold bJ;omega)) (I6 h (by unfold dO;omega))
theorem EU [FZ] {n:Nat} (ag:n≤1000000) (s:TS) (d:Option Nat) (v:TV):(lK n s d v).ar n=⟨putA (s.ar n).T d v.br,(s.ar n).L,(s.ar n).H⟩:=by
 cases d with
 | none=>rfl
 | some d=>
  unfold lK
  simp only
  split
  ·rename_i aY
   have aY:d<n:=by rw[←Nat.blt_eq];exact aY
   rw[←ap3 d v]
   generalize JT d v=v
   have cd:(s.put d v).tT n=(s.tT n).set d v.br:=by
    apply List.ext_getElem?
    intro t
    show((List.range n).map fun t=>((s.put d v).get t).br)[t]?=(((List.range n).map fun t=>(s.get t).br).set d v.br)[t]?
    rw[List.getElem?_set]
    simp only[List.getElem?_map,List.length_map,List.length_range]
    rcases Nat.lt_or_ge t n with h | h
    ·rw[List.getElem?_range h]
     simp only[Option.map_some]
     rw[TS.L8]
     by_cases e:d=t
     ·simp[e,h]
     ·simp[e]
    ·rw[List.getElem?_eq_none (l:=List.range n) (by simpa using h)]
     by_cases e:d=t
     ·omega
     ·simp[e]
   have bB:=ZC (s:=s) (v:=v) (show d<1000000 by omega)
   have aB:=ZB (n:=n) (s:=s) (v:=v) (show d<1000000 by omega)
   show(⟨(s.put d v).tT n,(s.put d v).cl,((s.put d v).ar n).H⟩:St)=_
   rw[cd,bB,aB];rfl
  ·rename_i aY
   have aY: ¬d<n:=fun h=>by rw[←Nat.blt_eq] at h;rw[h] at aY;cases aY
   show s.ar n=⟨(s.ar n).T.set d v.br,_,_⟩
   rw[List.set_eq_of_length_le]
   show((List.range n).map _).length≤d
   simp;omega
theorem ET [FZ] {n:Nat} (ag:n≤1000000) {s:TS} {d:Option Nat} {v:TV} (f:Fits s):Fits (lK n s d v):=by
 unfold lK
 split
 ·exact f
 ·split
  ·rename_i aY
   exact Pf (by rw[Nat.blt_eq] at aY;omega) f
  ·exact f
theorem ZF [FZ] {n:Nat} {s:TS} {t:Nat} {v:TV} (aO:t<1000000) (h:(s.get t).br=v.br):(s.put t v).ar n=s.ar n:=by
 have cd:(s.put t v).tT n=s.tT n:=by
  unfold TS.tT
  refine List.map_congr_left fun k _=> ?_
  rw[TS.L8];split
  ·rename_i e;subst e;exact h.symm
  ·rfl
 have bB:=ZC (s:=s) (v:=v) aO
 have aB:=ZB (n:=n) (s:=s) (v:=v) aO
 show(⟨(s.put t v).tT n,(s.put t v).cl,((s.put t v).ar n).H⟩:St)=_
 rw[cd,bB,aB];rfl
section
variable {P:Program} (cf:hO P)
def I0 (c x y:Operand) (s:TS) (K:TV→TS→aK):aK:=match cP cf.n s c with
 | .b z=>JJ z s fun b s=>
  let s:=match c with
   | .tmp t=>s.put t (y0 b)
   | _=>s
  sc (cP cf.n s (bif b then x else y)) fun v=>K v s
 | _=> .no
def Hi (ops:Array Oper) (o:Oper) (s:TS) (run skip:TS→aK):aK:=match o.guard with
 | none=>run s
 | some g=>match(ops[g.1]?).bind (·.dst) with
  | none=> .no
  | some t=>match cP cf.n s (.tmp t) with
   | .b z=>JJ z s fun b s=>bif b==g.2 then run (s.put t (y0 b)) else skip (s.put t (y0 b))
   | .tup c=>match c with
    | []=>skip s
    | _=> .no
   | _=> .no
def stepT (eN:sQ P) (o:Oper) (s:TS) (K:TV→TS→aK):aK:=match o.op with
 | .pick c x y=>I0 cf c x y s K
 | _=>J2 cf s eN o K
def Jj (eN:sQ P) (ops:Array Oper):List Oper→TS→(TS→aK)→aK
 | [],s,K=>K s
 | o::r,s,K=>Hi cf ops o s (fun s=>stepT cf eN o s fun v s=>Jj eN ops r (lK cf.n s o.dst v) K) (fun s=>Jj eN ops r (lK cf.n s o.dst (.tup [])) K)
def LZ (ops:Array Oper) (s:TS):List Nat→aK→aK
 | [],k=>k
 | i::r,k=> .eq ((opI ops i).guard.isNone&&(opI ops i).dst.isSome) true (.eq (fun(Z:FZ) H Q=>mV P (opI ops i) (fun x=>(cP cf.n s x).br) s.cl (@TS.gZ Z s++H) Q) (fun _ _ Q=>Q (match(opI ops i).dst with
  | some d=>(cP cf.n s (.tmp d)).br
  | none=> .undef)) (LZ ops s r k))
def xc (eN:sQ P) (ops:Array Oper):List Item→TS→(TS→aK)→aK
 | [],s,K=>K s
 | x::r,s,K=>Hi cf ops (opI ops x.i) s
   (fun s=>match x.q with
    | true=>(match st (opI ops x.i) with
     | true=>(match(opI ops x.i).dst with
      | some d=> .eq (fun H Q=>mV P (opI ops x.i) (fun x=>(cP cf.n s x).br) s.cl H Q) (fun _ Q=>Q (.fZ d 0)) (xc eN ops r (lK cf.n s (opI ops x.i).dst (.lp d 0)) K)
      | none=> .no)
     | false=>(match(opI ops x.i).op with
      | .pick c a b=>I0 cf c a b s fun v s=>xc eN ops r (lK cf.n s (opI ops x.i).dst v) K
      | _=>vm cf s (opI ops x.i) fun v=>xc eN ops r (lK cf.n s (opI ops x.i).dst v) K))
    | false=>(match(opI ops x.i).op with
     | .pick _ _ _=> .no
     | _=>J2 cf s eN (opI ops x.i) fun v s=>LZ cf ops s x.kO (xc eN ops r (lK cf.n s (opI ops x.i).dst v) K)))
   (fun s=>xc eN ops r (lK cf.n s (opI ops x.i).dst (.tup [])) K)
def FN (P:Program) (ops:Array Oper):List Item→List (Nat×List TV)
 | []=>[]
 | x::r=>match x.q with
  | true=>(match(opI ops x.i).op with
   | .alloc e=>(match(opI ops x.i).dst with
    | some d=>(d,FM P e)::FN P ops r
    | none=>FN P ops r)
   | _=>FN P ops r)
  | false=>FN P ops r
def Sh:List (Nat×List TV)→List (Nat×TV)
 | []=>[]
 | (d,c)::r=>x2 d 0 c++Sh r
def Lt (eN:sQ P) (ops:Array Oper) (ord:List Item) (li:List (List Nat)) (s:TS) (K:TS→aK):aK:=
 let jI:=FN P ops ord
 let s':=s.add (Sh jI) (jI.map (fun p=>(p.1,p.2.length))++s.vs) s.be
 match r6 (Sh jI) with
 | false=> .no
 | true=> .eq (P.follows .mixedOrders) true (.eq li.length ops.size (.eq (Al ops ord (Di li)) true (.eq (ord.all (·.lit)) true (.eq s'.cl (jI.map (fun p=>(p.1,cW p.2))++s.cl)
  (.eq (x6 (jI.map fun p=>(p.1,cW p.2)) s.cl) true (.eq (xV ops s.cl ord) true (xc cf eN ops ord s' K)))))))
end
section
variable {P:Program} {cf:hO P} {R:Exit→TS→Prop}
theorem ON {n t:Nat} {s:TS} {v:TV} (h:cP n s (.tmp t)=v) (hv:v≠ .u):t<n∧s.get t=v:=by
 have h:(match Nat.blt t n with
  | true=>s.get t
  | false=>TV.u)=v:=h
 split at h
 ·rename_i hb;exact⟨by rw[←Nat.blt_eq];exact hb,h⟩
 ·exact absurd h.symm hv
end
section
variable {P:Program} {cf:hO P} {R:Exit→TS→Prop}
theorem anS {T:List AV} {t:Nat} {a:AV} (h:T.getD t .undef=a):T.set t a=T∨a= .undef:=by
 by_cases au:t<T.length
 ·left
  rw[List.getD_eq_getElem?_getD,List.getElem?_eq_getElem au] at h
  have h:T[t]=a:=h
  rw[←h];exact List.set_getElem_self ..
 ·right;rw[←h,List.getD_eq_getElem?_getD,List.getElem?_eq_none (by omega)];rfl
end
section
variable {P:Program} {cf:hO P} {R:Exit→TS→Prop}
theorem amU {o:Oper} {T:List AV} {K:AV→Prop} {GX:Prop} (h: ∀c x y,o.op≠ .pick c x y):ze true o T K GX=GX:=by
 unfold ze
 split
 ·rename_i c x y e;exact absurd e (h c x y)
 ·rfl
end
section
variable [Z:FZ] {P:Program} {cf:hO P} {R:Exit→TS→Prop}
theorem Ut (ag:cf.n≤1000000) {ops:Array Oper} {o:Oper} {s:TS} {run skip:TS→aK} {x y:List AV→Prop} (aH:Fits s) (hx: ∀s',Fits s'→s'.ar cf.n=s.ar cf.n→(run s').den R→x (s.ar cf.n).T) (aU: ∀s',Fits s'→s'.ar cf.n=s.ar cf.n→(skip s').den R→y (s.ar cf.n).T)
  (h:(Hi cf ops o s run skip).den R):qu ops true o (s.ar cf.n).T x y:=by
 unfold Hi at h
 unfold qu
 split at h
 ·rename_i az;rw[az];exact hx s aH rfl h
 ·rename_i g az
  obtain⟨j,dR⟩:=g
  rw[az]
  simp only at h ⊢
  split at h
  ·exact h.elim
  ·rename_i t aO
   rw[aO]
   simp only
   have cd:(s.ar cf.n).T.getD t .undef=(cP cf.n s (.tmp t)).br:=by
    have:=congrFun (mw cf.n s) (.tmp t);exact this
   split at h
   ·rename_i z ts
    rw[ts] at cd
    rw[cd]
    show r7 true z.den _ _
    obtain⟨au,hQ⟩:=ON ts (fun e=>by cases e)
    obtain⟨s',aN,e2,h⟩:=RD (n:=cf.n) h
    have qB:Fits (s'.put t (y0 z.den)):=Pf (by omega) (aH.congr fun k _ _=>e2 k)
    have uV:(s'.put t (y0 z.den)).ar cf.n=s.ar cf.n:=by
     rw[ZF (by omega) (by rw[e2,hQ,Yq];rfl),aN]
    have mo: ∀b,z.den=b→(s.ar cf.n).T.set t (.bool b)=(s.ar cf.n).T:=fun b hb=>by
     rcases anS (show(s.ar cf.n).T.getD t .undef= .bool b by rw[cd,←hb];rfl) with q | q
     ·exact q
     ·cases q
    cases sp:z.den with
    | true=>
     rw[sp] at h uV qB
     show if dR=true then _ else _
     rw[mo true sp]
     cases dR with
     | true=>rw[if_pos rfl];exact hx _ qB uV h
     | false=>rw[if_neg (by simp)];exact aU _ qB uV h
    | false=>
     rw[sp] at h uV qB
     show if dR=true then _ else _
     rw[mo false sp]
     cases dR with
     | true=>rw[if_pos rfl];exact aU _ qB uV h
     | false=>rw[if_neg (by simp)];exact hx _ qB uV h
   ·rename_i c ts
    rw[ts] at cd
    split at h
    ·rw[cd];exact aU s aH rfl h
    ·exact h.elim
   ·exact h.elim
theorem Zl (ag:cf.n≤1000000) {c x y:Operand} {s:TS} {K:TV→TS→aK} {Kp:AV→Prop} (aH:Fits s) (hK: ∀v s',Fits s'→s'.ar cf.n=s.ar cf.n→(K v s').den R→Kp v.br) (h:(I0 cf c x y s K).den R):
  rf (ci (s.ar cf.n).T c) fun z=>r7 true z (Kp (ci (s.ar cf.n).T x)) (Kp (ci (s.ar cf.n).T y)):=by
 unfold I0 at h
 split at h
 ·rename_i z ts
  obtain⟨s',aN,e2,h⟩:=RD (n:=cf.n) h
  simp only at h
  rw[s_] at h
  generalize ww:(match c with
   | .tmp t=>s'.put t (y0 z.den)
   | _=>s')=s2 at h
  have dc:s2.ar cf.n=s.ar cf.n:=by
   rw[←ww,←aN]
   split
   ·rename_i t
    obtain⟨au,hQ⟩:=ON ts (fun e=>by cases e)
    exact ZF (by omega) (by rw[e2,hQ,Yq];rfl)
   ·rfl
  have hf2:Fits s2:=by
   rw[←ww]
   split
   ·rename_i t
    obtain⟨au,hQ⟩:=ON ts (fun e=>by cases e)
    exact Pf (by omega) (aH.congr fun k _ _=>e2 k)
   ·exact aH.congr fun k _ _=>e2 k
  have:=hK _ _ hf2 dc h
  have aj: ∀o,(cP cf.n s2 o).br=ci (s.ar cf.n).T o:=fun o=>by rw[←dc,mw]
  rw[aj] at this
  have hc:ci (s.ar cf.n).T c= .bool z.den:=by
   have:=congrFun (mw cf.n s) c
   rw[this]
   show(cP cf.n s c).br=_
   rw[ts];rfl
  rw[hc]
  show r7 true z.den _ _
  cases sp:z.den with
  | true=>rw[sp] at this;exact this
  | false=>rw[sp] at this;exact this
 ·exact h.elim
theorem apN (ag:cf.n≤1000000) {eN:sQ P} {o:Oper} {s:TS} {K:TV→TS→aK} {Kp:AV→List (Nat×List AV)→List Blk→Prop} (aH:Fits s) (hK:z6 cf s R K Kp) (h:(stepT cf eN o s K).den R):
  ze true o (s.ar cf.n).T (fun v=>Kp v (s.ar cf.n).L (s.ar cf.n).H) (lr P [] o (ci (s.ar cf.n).T) (s.ar cf.n).L (s.ar cf.n).H Kp):=by
 unfold stepT at h
 split at h
 ·rename_i c x y gx
  unfold ze
  rw[gx]
  exact Zl ag (Kp:=fun v=>Kp v (s.ar cf.n).L (s.ar cf.n).H) aH (fun v s' hf e hv=>by
   have eT:s'.tT cf.n=s.tT cf.n:=congrArg St.T e
   have hq:s'.cl=s.cl:=congrArg St.L e
   have:=hK v s' Z hv hf eT
   rw[hq,e] at this;exact this) h
 ·rename_i b7
  rw[amU fun c x y=>b7 c x y]
  exact acJ ag aH hK h
end
section
variable {P:Program} {cf:hO P} {R:Exit→TS→Prop}
theorem PG (ag:cf.n≤1000000) {eN:sQ P} {ops:Array Oper} {K:TS→aK} {Kp:List AV→List (Nat×List AV)→List Blk→Prop} (hK: ∀s (Z:FZ),(K s).den R→ @Fits Z s→Kp (s.tT cf.n) s.cl (@TS.ar Z cf.n s).H): ∀(l:List Oper) (Z:FZ) (s:TS),@Fits Z s→(Jj cf eN ops l s K).den R→
  evOps P [] ops (l.map fun o=>(o,true)) (s.tT cf.n) s.cl (@TS.ar Z cf.n s).H Kp
 | [],Z,s,aH,h=>hK s Z h aH
 | o::r,Z,s,aH,h=>by
  refine Ut (Z:=Z) ag aH (fun s' hf e h=> ?_) (fun s' hf e h=> ?_) h
  ·have hq:s'.cl=s.cl:=congrArg St.L e
   rw[←e,←hq]
   exact apN (Z:=Z) ag (Kp:=fun v L' H'=>evOps P [] ops (r.map fun o=>(o,true)) (putA (s'.tT cf.n) o.dst v) L' H' Kp) hf (fun v s2 Z2 hv hf2 e2=>by
    have:=PG ag hK r Z2 _ (@ET Z2 _ ag _ _ _ hf2) hv
    have dc:= @EU Z2 cf.n ag s2 o.dst v
    have eT:(lK cf.n s2 o.dst v).tT cf.n=putA (s2.tT cf.n) o.dst v.br:=congrArg St.T dc
    have Ly:(lK cf.n s2 o.dst v).cl=s2.cl:=congrArg St.L dc
    rw[eT,Ly,dc] at this
    rw[←e2];exact this) h
  ·have:=PG ag hK r Z _ (ET ag hf) h
   have dc:= @EU Z cf.n ag s' o.dst (.tup [])
   have eT:(lK cf.n s' o.dst (.tup [])).tT cf.n=putA (s'.tT cf.n) o.dst (.tup []):=congrArg St.T dc
   have Ly:(lK cf.n s' o.dst (.tup [])).cl=s'.cl:=congrArg St.L dc
   rw[eT,Ly,dc] at this
   have hE:s'.tT cf.n=s.tT cf.n:=congrArg St.T e
   have jr:s'.cl=s.cl:=congrArg St.L e
   rw[hE,jr,e] at this
   exact this
end
section
variable [Z:FZ] {P:Program} {cf:hO P} {R:Exit→TS→Prop}
theorem Ue {ops:Array Oper} {s:TS} {k:aK}: ∀{kO:List Nat},(LZ cf ops s kO k).den R→uI P ops kO (s.ar cf.n).T (s.ar cf.n).L (s.ar cf.n).H∧k.den R
 | [],h=>⟨trivial,h⟩
 | i::r,h=>by
  obtain⟨h1,h2,aC⟩:=h
  simp only[Bool.and_eq_true] at h1
  obtain⟨q1,q2⟩:=Ue aC
  refine⟨⟨⟨h1.1,h1.2,?_⟩,q1⟩,q2⟩
  rw[mw]
  have:=congrFun (congrFun (congrFun h2 Z) (h0 s)) (fun v=>v=vX (opI ops i) (s.ar cf.n).T)
  have this:mV P (opI ops i) (fun x=>(cP cf.n s x).br) (s.ar cf.n).L (s.ar cf.n).H (fun v=>v=vX (opI ops i) (s.ar cf.n).T)=_:=this
  rw[this]
  unfold vX
  cases(opI ops i).dst with
  | none=>rfl
  | some d=>
   have:=congrFun (mw cf.n s) (.tmp d)
   exact this.symm
end
section
variable {P:Program} {cf:hO P} {R:Exit→TS→Prop}
theorem am1 (Z:FZ) (ag:cf.n≤1000000) (s:TS) (d:Option Nat) (v:TV):(lK cf.n s d v).tT cf.n=putA (s.tT cf.n) d v.br∧(lK cf.n s d v).cl=s.cl∧(@TS.ar Z cf.n (lK cf.n s d v)).H=(@TS.ar Z cf.n s).H:=by
 have dc:= @EU Z cf.n ag s d v
 exact⟨congrArg St.T dc,congrArg St.L dc,by rw[dc]⟩
theorem Z8 (ag:cf.n≤1000000) {eN:sQ P} {ops:Array Oper} {K:TS→aK} {Kp:List AV→List (Nat×List AV)→List Blk→Prop} (hK: ∀s (Z:FZ),(K s).den R→ @Fits Z s→Kp (s.tT cf.n) s.cl (@TS.ar Z cf.n s).H): ∀(l:List Item) (Z:FZ) (s:TS),@Fits Z s→l.all (·.lit)=true→(xc cf eN ops l s K).den R→
  ls P [] ops l (s.tT cf.n) s.cl (@TS.ar Z cf.n s).H Kp
 | [],Z,s,aH,_,h=>hK s Z h aH
 | x::r,Z,s,aH,au,h=>by
  simp only[List.all_cons,Bool.and_eq_true] at au
  show qu ops x.lit (opI ops x.i) _ _ _
  rw[au.1]
  have next: ∀(s' s2:TS) (Z2:FZ) (v:TV),@Fits Z2 s2→s2.tT cf.n=s'.tT cf.n→(xc cf eN ops r (lK cf.n s2 (opI ops x.i).dst v) K).den R→ls P [] ops r (putA (s'.tT cf.n) (opI ops x.i).dst v.br) s2.cl (@TS.ar Z2 cf.n s2).H Kp:=fun s' s2 Z2 v hf e hv=>by
   have:=Z8 ag hK r Z2 _ (@ET Z2 _ ag _ _ _ hf) au.2 hv
   obtain⟨q1,q2,q3⟩:=am1 (cf:=cf) Z2 ag s2 (opI ops x.i).dst v
   rw[q1,q2,q3] at this
   rw[←e];exact this
  refine Ut (Z:=Z) ag aH (fun s' hf e h=> ?_) (fun s' hf e h=> ?_) h
  ·have hq:s'.cl=s.cl:=congrArg St.L e
   rw[←e,←hq]
   cases U:x.q with
   | true=>
    rw[U] at h
    show mV P (opI ops x.i) (ci (s'.ar cf.n).T) (s'.ar cf.n).L (s'.ar cf.n).H _
    cases aw:st (opI ops x.i) with
    | true=>
     rw[aw] at h
     simp only at h
     split at h
     ·rename_i d aY
      obtain⟨h1,h2⟩:=h
      rw[mw]
      have:=congrFun (congrFun h1 (s'.ar cf.n).H) (fun v=>ls P [] ops r (putA (s'.ar cf.n).T (opI ops x.i).dst v) (s'.ar cf.n).L (s'.ar cf.n).H Kp)
      have this:mV P (opI ops x.i) (fun x=>(cP cf.n s' x).br) (s'.ar cf.n).L (s'.ar cf.n).H (fun v=>ls P [] ops r (putA (s'.ar cf.n).T (opI ops x.i).dst v) (s'.ar cf.n).L (s'.ar cf.n).H Kp)=_:=this
      refine Eq.mpr this ?_
      exact next s' s' Z (.lp d 0) hf rfl h2
     ·exact h.elim
    | false=>
     rw[aw] at h
     rw[Ar aw]
     simp only at h
     split at h
     ·rename_i c a b gx
      have:=Zl (Z:=Z) ag (Kp:=fun v=>ls P [] ops r (putA (s'.ar cf.n).T (opI ops x.i).dst v) (s'.ar cf.n).L (s'.ar cf.n).H Kp) hf (fun v s2 hf2 e2 hv=>by
       have:=next s' s2 Z v hf2 (congrArg St.T e2) hv
       have dc:s2.cl=s'.cl:=congrArg St.L e2
       rw[dc,e2] at this;exact this) h
      unfold k5
      rw[gx];exact this
     ·exact ZU hf (Kp:=fun v=>ls P [] ops r (putA (s'.ar cf.n).T (opI ops x.i).dst v) (s'.ar cf.n).L (s'.ar cf.n).H Kp) (fun v hv=>next s' s' Z v hf rfl hv) h
   | false=>
    rw[U] at h
    simp only at h
    split at h
    ·exact h.elim
    ·exact acJ (Z:=Z) ag hf (Kp:=fun v L' H'=>uI P ops x.kO (s'.tT cf.n) L' H'∧ls P [] ops r (putA (s'.tT cf.n) (opI ops x.i).dst v) L' H' Kp) (fun v s2 Z2 hv hf2 e2=>by
      obtain⟨q1,q2⟩:=Ue (Z:=Z2) hv
      have q1:uI P ops x.kO (s2.tT cf.n) s2.cl (@TS.ar Z2 cf.n s2).H:=q1
      rw[e2] at q1
      exact⟨q1,next s' s2 Z2 v hf2 e2 q2⟩) h
  ·have:=next s' s' Z (.tup []) hf rfl h
   have hE:s'.tT cf.n=s.tT cf.n:=congrArg St.T e
   have jr:s'.cl=s.cl:=congrArg St.L e
   rw[hE,jr,e] at this
   exact this
end
end Go.Proofs.YtejmihecgodhnaaGreat.Fw
