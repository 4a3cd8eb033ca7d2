/- The framework, part Fz: a block that is not written any more is told by its content; blocks at the end that nothing leads to are forgotten. -/
import Derived.Test.YtejmihecgodhnaaGreatM2
set_option linter.unusedVariables false
namespace Go.Proofs.YtejmihecgodhnaaGreat.Fw
open Go
theorem al4 {H:List Blk} {b j:Nat} {x y:Blk} (h:(H.set b x)[j]?=some y):(j=b∧y=x)∨(j≠b∧H[j]?=some y):=by
 rw[List.getElem?_set] at h
 split at h
 ·rename_i e;subst e
  split at h
  ·cases h;exact .inl ⟨rfl,rfl⟩
  ·cases h
 ·rename_i e;exact .inr ⟨fun h=>e h.symm,h⟩
theorem Ss [jR:cH] {cr E:Env} {H:List Blk} {L:List (Nat×List AV)} (g:Good cr E) (ax:SimH E H) (bJ:SimL E L) {b oz sz:Nat} {rows:List (List AV)} (hb:H[b]?=some ⟨oz,sz,rows⟩) (gX:jR.n≤b)
  (hk: ∀row∈rows,∀a∈row,ky a=true∧p_ a=true) (fo:rows.length≤4611686018427387904):
  ∃E',E'.w=E.w∧Good cr E'∧SimH E' (H.set b ⟨oz+1,sz,[]⟩)∧SimL E' L∧E.hJ E'∧E'.mL=E.mL∧ ∀v full,fu E (.ref b oz 0 rows.length full) v→aP E'.w E'.PA E'.PF (.aZ (rows.map fun row=>row.map j4) false true) v:=by
 have lq:E.bm b=oz:=ax.fc b _ hb
 have sP:=(List.getElem?_eq_some_iff.1 hb).1
 let E':Env:={E with PA:=fun c=>E.PA c∨E.m b=some (some c),PF:=fun c=>E.PF c∨E.m b=some (some c),m:=fun j=>if j=b then none else E.m j,bm:=fun j=>if j=b then oz+1 else E.bm j}
 have hm: ∀{j:Nat} {x:Option Nat},E'.m j=some x→j≠b∧E.m j=some x:=fun{j x} h=>by
  have h:(if j=b then none else E.m j)=some x:=h
  split at h
  ·cases h
  ·rename_i e;exact⟨e,h⟩
 have aE: ∀{j:Nat},j≠b→E'.bm j=E.bm j:=fun{j} h=>if_neg h
 have hle:E.hJ E':=⟨fun _ h=> .inl h,fun _ h=> .inl h,fun _ _=>rfl,fun _ _=>rfl,fun j=>by
   show E.bm j≤(if j=b then oz+1 else E.bm j)
   split
   ·rename_i e;subst e;omega
   ·exact Nat.le_refl _,fun j x hx sR=>by
   have sR:(if j=b then oz+1 else E.bm j)=E.bm j:=sR
   have bq:j≠b:=fun e=>by subst e;rw[if_pos rfl] at sR;omega
   exact⟨by show(if j=b then none else E.m j)=_;rw[if_neg bq];exact hx,rfl,rfl⟩,fun _ _ h=>h⟩
 have cv: ∀c,E.m b=some (some c)→cr.w.heap.size≤c:=fun c hc=>(g.kd b c hc).elim (fun h=>by rw[(g.D1 b gX).1] at h;cases h) id
 have ls:=ax.gD
 refine⟨E',rfl,?_,?_,?_,hle,rfl,?_⟩
 ·exact{g with
   le:=g.le.trans hle
   kd:=fun j c h=>g.kd j c (hm h).2
   kF:=g.kF
   gF:=fun c hc=>hc.elim (g.gF c) fun h=> .inr (cv c h)
   fU:=fun c hc=>hc.elim (g.fU c) fun h=> .inr (cv c h)}
 ·exact{ax with
   heap:=fun j c h=>by
    obtain⟨bq,h⟩:=hm h
    obtain⟨blk,al,ty,q1,b6,q2,q3,q4,cN,c2⟩:=ax.heap j c h
    refine⟨blk,al,ty,by rw[List.getElem?_set,if_neg (fun e=>bq e.symm)];exact q1,b6,q2,q3,q4,cN,fun i k row a h1 h2=> ?_⟩
    obtain⟨u,hu,aj⟩:=c2 i k row a h1 h2
    exact⟨u,hu,aj.le hle.bQ⟩
   fc:=fun j blk h=>by
    rcases al4 h with⟨rfl,rfl⟩ | ⟨bq,h⟩
    ·exact if_pos rfl
    ·rw[aE bq];exact ax.fc j blk h
   ii:=fun j h=>by
    obtain⟨bq,h⟩:=hm h
    obtain⟨blk,q1,q2⟩:=ax.ii j h
    exact⟨blk,by rw[List.getElem?_set,if_neg (fun e=>bq e.symm)];exact q1,q2⟩
   fresh:=fun j h=>by
    rw[List.length_set] at h
    have:=ax.fresh j h
    have bq:j≠b:=by omega
    exact⟨by show(if j=b then none else E.m j)=none;rw[if_neg bq];exact this.1,by rw[aE bq];exact this.2⟩
   hr:=fun j k c h1 h2=>ax.hr j k c (hm h1).2 (hm h2).2
   hN:=fun j t c h1 h2=>ax.hN j t c (hm h1).2 h2
   iM:=fun c hc ⟨j,ah⟩=>by
    obtain⟨bq,ah⟩:=hm ah
    rcases hc with hc | hc
    ·exact ax.iM c hc ⟨j,ah⟩
    ·exact bq (ax.hr j b c ah hc)
   jr:=fun c hc ⟨t,aY⟩=>by
    rcases hc with hc | hc
    ·exact ax.jr c hc ⟨t,aY⟩
    ·exact ax.hN b t c hc aY
   dU:=fun c hc=>hc.elim (fun h=> .inl (ax.dU c h)) .inr
   ga:=fun c hc=>hc.elim (ax.ga c) fun h=>by
    obtain⟨_,al,ty,_,_,q,_⟩:=ax.heap b c h
    exact⟨al,ty,q⟩
   ea:=fun c hc=>hc.elim (ax.ea c) fun h=>ls c ⟨b,h⟩
   gD:=fun c ⟨j,ah⟩=>ls c ⟨j,(hm ah).2⟩}
 ·intro t c aY
  obtain⟨cells,al,ty,q1,q2,q3⟩:=bJ t c aY
  exact⟨cells,al,ty,q1,q2,q3.mono fun _ _ k=>k.le hle.bQ⟩
 ·intro v full hv
  rcases hv with⟨bw,_⟩ | ⟨gY,bw⟩
  ·omega
  ·rcases bw with⟨_,_,nW,A,rfl⟩ | ⟨c,cap,lW,rfl,qS,rQ,sQ⟩
   ·obtain rfl:rows=[]:=List.eq_nil_of_length_eq_zero nW
    exact aP.aZ (rows:=[]) (PB:=fun _=>False) (sz:=0) (vs:=fun _ _=>undef) (fun _ h=>h.elim) ⟨Nat.le_refl _,Nat.zero_le _⟩ (fun _=>rfl) (fun i row h=>by simp at h) (fun h=>by simp at h) (fun i j row a h=>by simp at h)
   ·obtain⟨blk,al,ty,q1,b6,q2,q3,q4,cN,c2⟩:=ax.heap b c lW
    rw[hb] at q1
    cases q1
    have key:=aP.aZ (w:=E.w) (PA:=E'.PA) (PF:=E'.PF) (PB:=E'.PF) (rows:=rows.map fun row=>row.map j4) (full:=false) (fresh:=true) (A:=some ⟨c,0,none⟩) (cap:=cap) (sz:=E.sz b) (vs:=fun i j=>(al[i*E.sz b+j]?).getD undef)
     (fun c hc=>by simpa using hc) (by rw[List.length_map];exact⟨qS,fo⟩) (fun h=>by cases h) (fun i row' aj=> ?_) (fun mV=>⟨c,0,rfl,.inr lW,fun i j hi ah=> ?_⟩) (fun i j row' hL aj ah=> ?_)
    ·rw[List.length_map] at key
     show aP E.w E'.PA E'.PF _ (.slice (some ⟨c,0*E.sz b,none⟩) rows.length cap)
     rw[Nat.zero_mul];exact key
    ·rw[List.getElem?_map] at aj
     cases U:rows[i]? with
     | none=>simp[U] at aj
     | some row=>simp[U] at aj;subst aj;rw[List.length_map];exact cN i row U
    ·rw[List.length_map] at hi
     have aj:=List.getElem?_eq_getElem hi
     have aw:=cN i _ aj
     obtain⟨u,hu,_⟩:=c2 i j _ _ aj (List.getElem?_eq_getElem (by rw[aw];exact ah))
     rw[Nat.zero_add,cell_of q2 hu,hu];rfl
    ·rw[List.getElem?_map] at aj
     cases U:rows[i]? with
     | none=>simp[U] at aj
     | some row=>
      simp[U] at aj;subst aj
      rw[List.getElem?_map] at ah
      cases lx:row[j]? with
      | none=>simp[lx] at ah
      | some a=>
       simp[lx] at ah;subst ah
       obtain⟨u,hu,hX⟩:=c2 i j row a U lx
       obtain⟨dA,g_⟩:=hk row (List.mem_of_getElem? U) a (List.mem_of_getElem? lx)
       rw[hu]
       exact(aay dA g_ (Fy dA hX)).mono (fun _ _=>rfl) (fun _ h=>h.elim) (fun c hc=> .inl hc) (fun _ h=>h)
theorem Weak.aeo [jR:cH] (i:Nat) {T:List AV} {L:List (Nat×List AV)} {H:List Blk} {b oz sz n:Nat} {full:Bool} {rows:List (List AV)} (ci:T.getD i .undef= .ref b oz 0 n full) (af:n=rows.length) (hb:H[b]?=some ⟨oz,sz,rows⟩) (gX:jR.n≤b)
  (hk: ∀row∈rows,∀a∈row,ky a=true∧p_ a=true) (fo:rows.length≤4611686018427387904):Weak ⟨T,L,H⟩ ⟨T.set i (.aZ (rows.map fun row=>row.map j4) false true),L,H.set b ⟨oz+1,sz,[]⟩⟩:=fun cr E tmps g s=>by
 subst af
 obtain⟨E',hw,aE,h1,h2,hle,Ti,hv⟩:=Ss g s.h s.l hb gX hk fo
 refine⟨E',hw,aE,h1,h2,fun t=> ?_,by simpa using s.size⟩
 show V3 E' ((T.set i _).getD t .undef) _
 rw[tX]
 split
 ·rename_i U
  obtain⟨rfl,_⟩:=U
  have aA:V3 E (T.getD i .undef) (tmps.getD i undef):=s.jt i
  rw[ci] at aA
  exact hv _ full aA
 ·exact(s.jt t).le hle
theorem Weak.aen [jR:cH] (t i:Nat) {T:List AV} {L:List (Nat×List AV)} {H:List Blk} {cells:List AV} {b oz sz n:Nat} {full:Bool} {rows:List (List AV)} (hc:eR L t=some cells) (ci:cells.getD i .undef= .ref b oz 0 n full) (af:n=rows.length) (hb:H[b]?=some ⟨oz,sz,rows⟩) (gX:jR.n≤b)
  (hk: ∀row∈rows,∀a∈row,ky a=true∧p_ a=true) (fo:rows.length≤4611686018427387904):Weak ⟨T,L,H⟩ ⟨T,mw L t (cells.set i (.aZ (rows.map fun row=>row.map j4) false true)),H.set b ⟨oz+1,sz,[]⟩⟩:=fun cr E tmps g s=>by
 subst af
 obtain⟨E',hw,aE,h1,h2,hle,Ti,hv⟩:=Ss g s.h s.l hb gX hk fo
 refine⟨E',hw,aE,h1,fun u c hm=> ?_,fun t=>(s.jt t).le hle,s.size⟩
 rw[Ti] at hm
 obtain⟨hU,al,ty,q1,q2,q3⟩:=s.l u c hm
 show ∃Jz al ty,eR (mw L t _) u=some Jz∧_
 rw[C0]
 by_cases hu:u=t
 ·subst hu
  rw[if_pos rfl]
  have Ed:eR L u=some hU:=q1
  rw[hc] at Ed
  cases Ed
  refine⟨_,al,ty,by rw[hc];rfl,by rw[hw];exact q2,by simpa using q3.1,fun j x v hx ly=> ?_⟩
  rw[List.getElem?_set] at hx
  split at hx
  ·rename_i nU
   subst nU
   split at hx
   ·rename_i aM
    cases hx
    have S5:=List.getElem?_eq_getElem aM
    have he:cells.getD i .undef=cells[i]:=by rw[List.getD_eq_getElem?_getD,S5];rfl
    have mi:=q3.2 i _ v S5 ly
    rw[←he,ci] at mi
    exact aP.v1 (E:=E'.bQ) (hv v full mi)
   ·cases hx
  ·exact(q3.2 j x v hx ly).le hle.bQ
 ·rw[if_neg hu]
  exact⟨hU,al,ty,q1,by rw[hw];exact q2,q3.mono fun _ _ k=>k.le hle.bQ⟩
def El (n:Nat):AV→Bool
 | .ref b _ _ _ _=>Nat.blt b n
 | .ptr b _ _ _=>Nat.blt b n
 | _=>true
def sc (n:Nat):AV→Bool
 | .fn _ caps=>caps.all (El n)
 | a=>El n a
def Bk (n:Nat):AV→Bool
 | .agg l=>l.all (sc n)
 | a=>sc n a
def Bl (n:Nat):AV→Bool
 | .tup l=>l.all (Bk n)
 | a=>Bk n a
def Env.cut (E:Env) (n:Nat):Env:={E with m:=fun j=>if j<n then E.m j else none,bm:=fun j=>if j<n then E.bm j else 0}
section
variable {E:Env} {n:Nat}
theorem CP {j:Nat} (h:j<n):(E.cut n).m j=E.m j∧(E.cut n).bm j=E.bm j:=⟨if_pos h,if_pos h⟩
theorem fu.cut {a:AV} {v:Value} (h:El n a=true) (hv:fu E a v):fu (E.cut n) a v:=by
 cases a with
 | ref b g o m f=>
  have hb:b<n:=by rw[←Nat.blt_eq];exact h
  obtain⟨aG,e2⟩:=CP (E:=E) hb
  have hv:(g<E.bm b∧_)∨(g=E.bm b∧_):=hv
  show(g<(E.cut n).bm b∧_)∨(g=(E.cut n).bm b∧_)
  rw[aG,e2];exact hv
 | ptr b g r c=>
  have hb:b<n:=by rw[←Nat.blt_eq];exact h
  obtain⟨aG,e2⟩:=CP (E:=E) hb
  have hv:(g<E.bm b∧_)∨(g=E.bm b∧_):=hv
  show(g<(E.cut n).bm b∧_)∨(g=(E.cut n).bm b∧_)
  rw[aG,e2];exact hv
 | _=>exact hv
theorem b4.cut {a:AV} {v:Value} (h:sc n a=true) (hv:b4 E a v):b4 (E.cut n) a v:=by
 by_cases hf: ∃f caps,a= .fn f caps
 ·obtain⟨f,caps,rfl⟩:=hf
  obtain⟨vs,e,ab⟩:=hv
  exact⟨vs,e,ab.1,fun i x y hx aX=>(ab.2 i x y hx aX).cut (List.all_eq_true.1 (show caps.all (El n)=true from h) x (List.mem_of_getElem? hx))⟩
 ·have aA:sc n a=El n a:=by cases a<;>first | rfl | exact absurd ⟨_,_,rfl⟩ hf
  rw[sv fun f c e=>hf ⟨f,c,e⟩] at hv ⊢
  exact hv.cut (aA▸h)
theorem V2.cut {a:AV} {v:Value} (h:Bk n a=true) (hv:V2 E a v):V2 (E.cut n) a v:=by
 by_cases hf: ∃l,a= .agg l
 ·obtain⟨l,rfl⟩:=hf
  obtain⟨vs,e,ab⟩:=hv
  exact⟨vs,e,ab.1,fun i x y hx aX=>(ab.2 i x y hx aX).cut (List.all_eq_true.1 (show l.all (sc n)=true from h) x (List.mem_of_getElem? hx))⟩
 ·have aA:Bk n a=sc n a:=by cases a<;>first | rfl | exact absurd ⟨_,rfl⟩ hf
  rw[qG fun l e=>hf ⟨l,e⟩] at hv ⊢
  exact hv.cut (aA▸h)
theorem V3.cut {a:AV} {v:Value} (h:Bl n a=true) (hv:V3 E a v):V3 (E.cut n) a v:=by
 by_cases hf: ∃l,a= .tup l
 ·obtain⟨l,rfl⟩:=hf
  obtain⟨vs,e,ab⟩:=hv
  exact⟨vs,e,ab.1,fun i x y hx aX=>(ab.2 i x y hx aX).cut (List.all_eq_true.1 (show l.all (Bk n)=true from h) x (List.mem_of_getElem? hx))⟩
 ·have aA:Bl n a=Bk n a:=by cases a<;>first | rfl | exact absurd ⟨_,rfl⟩ hf
  rw[qH fun l e=>hf ⟨l,e⟩] at hv ⊢
  exact hv.cut (aA▸h)
end
theorem Weak.cut [jR:cH] (n:Nat) {T:List AV} {L:List (Nat×List AV)} {H:List Blk} (gX:jR.n≤n) (ci: ∀t,Bl n (T.getD t .undef)=true) (bJ: ∀t cells,eR L t=some cells→cells.all (sc n)=true) (ax: ∀(b:Nat) (blk:Blk),b<n→H[b]?=some blk→ ∀row∈blk.rows,row.all (sc n)=true):
  Weak ⟨T,L,H⟩ ⟨T,L,H.take n⟩:=fun cr E tmps g s=>by
 have ik:SimH E H:=s.h
 have hm: ∀{j:Nat} {x:Option Nat},(E.cut n).m j=some x→j<n∧E.m j=some x:=fun{j x} h=>by
  have h:(if j<n then E.m j else none)=some x:=h
  split at h
  ·rename_i e;exact⟨e,h⟩
  ·cases h
 have get: ∀{j:Nat},j<n→(H.take n)[j]?=H[j]?:=fun{j} h=>by rw[List.getElem?_take,if_pos h]
 refine⟨E.cut n,rfl,?_,?_,?_,fun t=>(s.jt t).cut (ci t),s.size⟩
 ·exact{g with
   le:=⟨g.le.gF,g.le.fU,g.le.wV,g.le.wf,fun b=>by
     show cr.bm b≤(if b<n then E.bm b else 0)
     split
     ·exact g.le.bm b
     ·rw[(g.D1 b (by omega)).2];exact Nat.le_refl _,fun b x hx sR=>by
     have hb:b<n:=by
      rcases Nat.lt_or_ge b n with h | h
      ·exact h
      ·rw[(g.D1 b (by omega)).1] at hx;cases hx
     obtain⟨aG,e2⟩:=CP (E:=E) hb
     rw[e2] at sR
     rw[aG]
     exact g.le.m b x hx sR,g.le.mL⟩
   kd:=fun b c h=>g.kd b c (hm h).2
   kF:=g.kF}
 ·exact{ik with
   heap:=fun j c h=>by
    obtain⟨ah,h⟩:=hm h
    obtain⟨blk,al,ty,q1,b6,q2,q3,q4,cN,c2⟩:=ik.heap j c h
    refine⟨blk,al,ty,by rw[get ah];exact q1,b6,q2,q3,q4,cN,fun i k row a h1 h2=> ?_⟩
    obtain⟨u,hu,aj⟩:=c2 i k row a h1 h2
    exact⟨u,hu,aj.cut (List.all_eq_true.1 (ax j blk ah q1 row (List.mem_of_getElem? h1)) a (List.mem_of_getElem? h2))⟩
   fc:=fun j blk h=>by
    have ah:j<n:=by
     rcases Nat.lt_or_ge j n with q | q
     ·exact q
     ·rw[List.getElem?_take,if_neg (by omega)] at h;cases h
    rw[(CP (E:=E) ah).2]
    rw[get ah] at h;exact ik.fc j blk h
   ii:=fun j h=>by
    obtain⟨ah,h⟩:=hm h
    obtain⟨blk,q1,q2⟩:=ik.ii j h
    exact⟨blk,by rw[get ah];exact q1,q2⟩
   fresh:=fun j h=>by
    rw[List.length_take] at h
    rcases Nat.lt_or_ge j n with q | q
    ·obtain⟨aG,e2⟩:=CP (E:=E) q
     rw[aG,e2];exact ik.fresh j (by omega)
    ·exact⟨if_neg (by omega),if_neg (by omega)⟩
   hr:=fun j k c h1 h2=>ik.hr j k c (hm h1).2 (hm h2).2
   hN:=fun j t c h1 h2=>ik.hN j t c (hm h1).2 h2
   iM:=fun c hc ⟨j,ah⟩=>ik.iM c hc ⟨j,(hm ah).2⟩
   gD:=fun c ⟨j,ah⟩=>ik.gD c ⟨j,(hm ah).2⟩}
 ·intro t c aY
  obtain⟨cells,al,ty,q1,q2,q3⟩:=s.l t c aY
  exact⟨cells,al,ty,q1,q2,q3.1,fun i a u hx hu=>(q3.2 i a u hx hu).cut (List.all_eq_true.1 (bJ t cells q1) a (List.mem_of_getElem? hx))⟩
inductive aR where
 | int | u64 | u8 | bool | str | a1 | e6 | eL | ll | dx | held | frame | done | fault | stays | hV | unit | nat
 | l (e:aR)
 | ptr (e:aR)
 | jj (f:Nat) (e:aR)
 deriving DecidableEq,Inhabited
@[reducible] def aR.T:aR→Type
 | .int=>Int
 | .u64=>Int
 | .u8=>UInt8
 | .bool=>Bool
 | .str=>ByteArray
 | .a1=>c8
 | .e6=>Way
 | .eL=>aQ
 | .ll=>Event
 | .dx=>bP
 | .held=>av
 | .frame=>Frame
 | .done=>jO
 | .fault=>rv
 | .stays=>su
 | .hV=>lc
 | .unit=>Unit
 | .nat=>Nat
 | .l e=>List e.T
 | .ptr e=>e.T
 | .jj _ e=>e.T
@[reducible] def aR.yb:(e:aR)→Inhabited e.T
 | .int=>inferInstanceAs (Inhabited Int)
 | .u64=>inferInstanceAs (Inhabited Int)
 | .u8=>inferInstanceAs (Inhabited UInt8)
 | .bool=>inferInstanceAs (Inhabited Bool)
 | .str=>inferInstanceAs (Inhabited ByteArray)
 | .a1=>inferInstanceAs (Inhabited c8)
 | .e6=>inferInstanceAs (Inhabited Way)
 | .eL=>inferInstanceAs (Inhabited aQ)
 | .ll=>inferInstanceAs (Inhabited Event)
 | .dx=>inferInstanceAs (Inhabited bP)
 | .held=>inferInstanceAs (Inhabited av)
 | .frame=>inferInstanceAs (Inhabited Frame)
 | .done=>inferInstanceAs (Inhabited jO)
 | .fault=>inferInstanceAs (Inhabited rv)
 | .stays=>inferInstanceAs (Inhabited su)
 | .hV=>inferInstanceAs (Inhabited lc)
 | .unit=>inferInstanceAs (Inhabited Unit)
 | .nat=>inferInstanceAs (Inhabited Nat)
 | .l e=>inferInstanceAs (Inhabited (List e.T))
 | .ptr e=>e.yb
 | .jj _ e=>e.yb
def v_ (e:aR) (xs:List e.T) (i:Int):e.T:= @nth e.T e.yb xs i
def cL:List aR→Type
 | []=>Unit
 | e::r=>e.T×cL r
def aR.bV:aR→List aR
 | .a1=>[.int,.int]
 | .e6=>[.l .int,.l .a1,.l .a1,.l .int,.l .int]
 | .eL=>[.int,.l .int,.l .e6,.l (.l .bool),.int]
 | .ll=>[.int,.int,.int]
 | .dx=>[.int,.int]
 | .held=>[.int,.int,.l .bool,.bool,.int]
 | .frame=>[.bool,.l .bool,.l .dx,.l .held]
 | .done=>[.int,.bool,.l .bool,.l .dx,.l .held]
 | .fault=>[.int,.int]
 | .stays=>[.l .int,.l .int,.l .int]
 | .hV=>[.l .u8,.int,.u64]
 | e=>[e]
def aR.isS:aR→Bool
 | .a1 | .e6 | .eL | .ll | .dx | .held | .frame | .done | .fault | .stays | .hV=>true
 | _=>false
def aR.mk:(e:aR)→cL e.bV→e.T
 | .a1,(a,b,_)=>⟨a,b⟩
 | .e6,(a,b,c,d,e,_)=>⟨a,b,c,d,e⟩
 | .eL,(a,b,c,d,e,_)=>⟨a,b,c,d,e⟩
 | .ll,(a,b,c,_)=>⟨a,b,c⟩
 | .dx,(a,b,_)=>⟨a,b⟩
 | .held,(a,b,c,d,e,_)=>⟨a,b,c,d,e⟩
 | .frame,(a,b,c,d,_)=>⟨a,b,c,d⟩
 | .done,(a,b,c,d,e,_)=>⟨a,⟨b,c,d,e⟩⟩
 | .fault,(a,b,_)=>⟨a,b⟩
 | .stays,(a,b,c,_)=>⟨a,b,c⟩
 | .hV,(a,b,c,_)=>⟨a,b,c⟩
 | .int,(a,_)=>a
 | .u64,(a,_)=>a
 | .u8,(a,_)=>a
 | .bool,(a,_)=>a
 | .str,(a,_)=>a
 | .unit,(a,_)=>a
 | .nat,(a,_)=>a
 | .l _,(a,_)=>a
 | .ptr _,(a,_)=>a
 | .jj _ _,(a,_)=>a
def aR.un:(e:aR)→e.T→cL e.bV
 | .a1,x=>(x.bi,x.a1,())
 | .e6,x=>(x.ao,x.bA,x.cO,x.dk,x.eb,())
 | .eL,x=>(x.ao,x.a_,x.O,x.bu,x.cv,())
 | .ll,x=>(x.op,x.aC,x.a1,())
 | .dx,x=>(x.c6,x.bA,())
 | .held,x=>(x.aJ,x.ba,x.ae,x.bS,x.bR,())
 | .frame,x=>(x.ok,x.aB,x.au,x.O,())
 | .done,x=>(x.code,x.frame.ok,x.frame.aB,x.frame.au,x.frame.O,())
 | .fault,x=>(x.code,x.pos,())
 | .stays,x=>(x.O,x.ao,x.au,())
 | .hV,x=>(x.code,x.pos,x.En,())
 | .int,x=>(x,())
 | .u64,x=>(x,())
 | .u8,x=>(x,())
 | .bool,x=>(x,())
 | .str,x=>(x,())
 | .unit,x=>(x,())
 | .nat,x=>(x,())
 | .l _,x=>(x,())
 | .ptr _,x=>(x,())
 | .jj _ _,x=>(x,())
theorem aR.aax (e:aR) (x:cL e.bV):e.un (e.mk x)=x:=by cases e<;>rfl
def cy (fr:Bool):(e:aR)→e.T→List AV
 | .int,x=>cB x
 | .u64,x=>[.int .u64 x]
 | .u8,x=>FP x
 | .bool,x=>aT x
 | .str,x=>J6 x
 | .a1,x=>c9 x
 | .e6,x=>dS fr x
 | .eL,x=>bH fr x
 | .ll,x=>ie x
 | .dx,x=>bh x
 | .held,x=>e3 fr x
 | .frame,x=>b9 fr x
 | .done,x=>ir fr x
 | .fault,x=>J4 x
 | .stays,x=>FO fr x
 | .hV,x=>ade fr x
 | .l e,x=>[.aZ (x.map (cy false e)) false fr]
 | .unit,_ | .nat,_ | .ptr _,_ | .jj _ _,_=>[.undef]
def kA (fr:Bool):(e:aR)→e.T→AV
 | .int,x=> .int .i64 x
 | .u64,x=> .int .u64 x
 | .u8,x=> .int .u8 x.toNat
 | .bool,x=> .bool x
 | .str,x=> .str x
 | .l e,x=> .aZ (x.map (cy false e)) false fr
 | _,_=> .undef
def jV (fr:Bool):(es:List aR)→cL es→List AV
 | [],_=>[]
 | e::r,x=>kA fr e x.1::jV fr r x.2
theorem pf (fr:Bool) (e:aR) (x:e.T):jV fr e.bV (e.un x)=cy fr e x:=by
 cases e<;>first | rfl | (simp only[aR.bV,aR.un,jV,kA,cy];rfl)
def aR.kK:aR→Nat
 | .a1=>2
 | .e6=>5
 | .eL=>5
 | .ll=>3
 | .dx=>2
 | .held=>5
 | .frame=>4
 | .done=>5
 | .fault=>2
 | .stays=>3
 | .hV=>3
 | _=>1
theorem xf (fr:Bool) (e:aR) (x:e.T):(cy fr e x).length=e.kK:=by cases e<;>rfl
def aR.q5:aR→Bool
 | .unit | .nat | .ptr _ | .jj _ _=>false
 | _=>true
theorem adm {fr:Bool} {e:aR} (h:e.q5=true) (x:e.T):(cy fr e x).all kR=true:=by cases e<;>first | rfl | cases h
inductive ey where
 | t | f
 | v (b:Bool)
 | at(i:Nat) (b:Bool)
 | n (x:ey)
 | c7 (x y:ey)
 | or (x y:ey)
 | ite (c x y:ey)
 | zM (x y:ey)
 | ne (x y:ey)
 deriving Inhabited
def ey.den:ey→Bool
 | .t=>true
 | .f=>false
 | .v b=>b
 | .at _ b=>b
 | .n x=> !x.den
 | .c7 x y=>x.den&&y.den
 | .or x y=>x.den || y.den
 | .ite c x y=>bif c.den then x.den else y.den
 | .zM x y=>x.den==y.den
 | .ne x y=>x.den !=y.den
def ey.not:ey→ey
 | .t=> .f
 | .f=> .t
 | x=> .n x
def ey.yB (b x y:ey):ey:=match x with
 | .t=>(match y with
  | .t=> .t
  | .f=>b
  | y=> .or b y)
 | .f=>(match y with
  | .f=> .f
  | .t=> .n b
  | y=> .c7 (.n b) y)
 | x=>(match y with
  | .f=> .c7 b x
  | .t=> .or (.n b) x
  | y=> .ite b x y)
theorem ey.D9 (b x y:ey):(ey.yB b x y).den=bif b.den then x.den else y.den:=by
 cases x<;>cases y<;>simp only[ey.yB,ey.den]<;>cases b.den<;>simp
inductive TV where
 | u
 | i (k:IntKind) (n:Int)
 | b (x:ey)
 | s (x:ByteArray)
 | l (e:aR) (xs:List e.T) (full fr:Bool)
 | nil (full fr:Bool)
 | ref (b g n:Nat) (full:Bool)
 | ptr (b g:Nat) (i:Int) (n col:Nat)
 | lp (t col:Nat)
 | dz (e:aR) (x:e.T) (col:Nat)
 | agg (c:List TV)
 | tup (c:List TV)
 | fn (f:FuncId) (c:List TV)
 | o (a:AV)
 | blk (g:Nat) (e:aR) (xs:List e.T) (n:Nat) (h:xs.length=n)
 | dr (g:Nat) (c:List TV)
 | lK (g m:Nat) (ids:List Nat)
 | hW (V:List av) (ids:List Nat) (n:Nat) (h:V.length=n)
 | new (id:Nat) (xs:List Bool)
 | zT (w:Int) (ids:List Nat) (m n:Nat)
 | zR (w:Int) (ids:List Nat) (m:Nat) (j:Int)
 | D3 (id m n:Nat)
 deriving Inhabited
class FZ where
 ws:List av
 bs:List (List Bool)
mutual
def TV.bp:TV→AV
 | .u=> .undef
 | .i k n=> .int k n
 | .b x=> .bool x.den
 | .s x=> .str x
 | .l e xs full fr=> .aZ (xs.map (cy false e)) full fr
 | .nil full fr=> .aZ [] full fr
 | .ref b g n full=> .ref b g 0 n full
 | .ptr b g i _ c=> .ptr b g i.toNat c
 | .lp t c=> .fS t c
 | .dz e x c=> .dz (cy false e x) c
 | .agg c=> .agg (cU c)
 | .tup c=> .tup (cU c)
 | .fn f c=> .fn f (cU c)
 | .o a=>a
 | .blk _ _ _ _ _=> .undef
 | .dr _ _=> .undef
 | .lK _ _ _=> .undef
 | .hW _ _ _ _=> .undef
 | .new _ _=> .undef
 | .zT w ids m k=> .ref (nth ids w+m) 0 0 k false
 | .zR w ids m j=> .ptr (nth ids w+m) 0 j.toNat 0
 | .D3 id m k=> .ref (id+m) 0 0 k false
def cU:List TV→List AV
 | []=>[]
 | x::r=>x.bp::cU r
end
theorem p1 (l:List TV):cU l=l.map TV.bp:=by
 induction l with
 | nil=>rfl
 | cons x r bz=>rw[cU,bz];rfl
def TV.eE [Z:FZ]:TV→Blk
 | .blk g e xs _ _=>⟨g,e.kK,xs.map (cy true e)⟩
 | .dr g c=>⟨g,c.length,[cU c]⟩
 | .lK g m ids=>⟨g,5,aU m Z.ws ids⟩
 | _=>⟨0,0,[]⟩
def EO (fr:Bool):(e:aR)→e.T→TV
 | .int,x=> .i .i64 x
 | .u64,x=> .i .u64 x
 | .u8,x=> .i .u8 x.toNat
 | .bool,x=> .b (.v x)
 | .str,x=> .s x
 | .l e,x=> .l e x false fr
 | _,_=> .u
def IA (fr:Bool):(es:List aR)→cL es→List TV
 | [],_=>[]
 | e::r,x=>EO fr e x.1::IA fr r x.2
theorem Qk (fr:Bool) (e:aR) (x:e.T):(EO fr e x).bp=kA fr e x:=by cases e<;>rfl
theorem aas (fr:Bool): ∀(es:List aR) (x:cL es),cU (IA fr es x)=jV fr es x
 | [],_=>rfl
 | e::r,x=>by rw[IA,cU,jV,Qk,aas fr r]
def kz (fr:Bool) (e:aR) (x:e.T):List TV:=IA fr e.bV (e.un x)
theorem FA (fr:Bool) (e:aR) (x:e.T):cU (kz fr e x)=cy fr e x:=by rw[kz,aas,pf]
structure TS where
 T:List (Nat×TV)
 B:List (Nat×TV)
 vs:List (Nat×Nat)
 be:Nat
 deriving Inhabited
def h6:List (Nat×TV)→Nat→TV→TV
 | [],_,d=>d
 | (k,v)::r,t,d=>match Nat.beq k t with
  | true=>v
  | false=>h6 r t d
def kI (v c:Nat):Nat:=1000010+(1000*v+c)
def dM:Nat:=1000000
def gQ:Nat:=1000001
def bI (b:Nat):Nat:=1000000000000+b
def TS.get (s:TS) (k:Nat):TV:=h6 s.T k (h6 s.B k .u)
def TS.put (s:TS) (k:Nat) (v:TV):TS:=⟨(k,v)::s.T,s.B,s.vs,s.be⟩
def iI (s:TS) (v:Nat):Nat→Nat→List TV
 | _,0=>[]
 | c,m+1=>s.get (kI v c)::iI s v (c+1) m
def TS.tT (n:Nat) (s:TS):List AV:=(List.range n).map fun t=>(s.get t).bp
def TS.cj (s:TS):List (Nat×List AV):=s.vs.map fun p=>(p.1,cU (iI s p.1 0 p.2))
def kg (s:TS):Bool:=match s.get dM with
 | .hW _ _ _ _=>false
 | _=>true
def ig [Z:FZ] (s:TS):List Blk:=match kg s with
 | true=>[]
 | false=>Z.bs.map br
def TS.hA [FZ] (s:TS):List Blk:=(List.range s.be).map fun b=>(s.get (bI b)).eE
def TS.ap [FZ] (n:Nat) (s:TS):St:=⟨s.tT n,s.cj,s.hA++ig s⟩
def Fits [Z:FZ] (s:TS):Prop:=
 (∀V ids n h,s.get dM= .hW V ids n h→gL Z.ws ids Z.bs∧view Z.ws ids Z.bs=V∧ ∀id xs,s.get gQ= .new id xs→id<Z.bs.length∧Z.bs.getD id []=xs∧ ∀j:Nat,ids[j]?≠some id)
theorem Fits.congr [FZ] {s s':TS} (h:Fits s) (e: ∀k,1000000≤k→k<1000010→s'.get k=s.get k):Fits s':=fun V ids n h' nS=>by
 rw[e dM (by unfold dM;omega) (by unfold dM;omega)] at nS
 obtain⟨h1,h2,bj⟩:=h V ids n h' nS
 refine⟨h1,h2,fun id xs hi=>bj id xs ?_⟩
 rw[←hi,e gQ (by unfold gQ;omega) (by unfold gQ;omega)]
theorem Fits.none [FZ] {s:TS} (h:kg s=true):Fits s:=fun V ids n h' nS=>by
 unfold kg at h;rw[nS] at h;cases h
theorem ih (k:Nat) (v:TV) (r:List (Nat×TV)) (t:Nat) (d:TV):h6 ((k,v)::r) t d=if k=t then v else h6 r t d:=by
 show(match Nat.beq k t with
  | true=>v
  | false=>h6 r t d)=_
 by_cases h:k=t
 ·subst h;rw[Nat.beq_refl,if_pos rfl]
 ·rw[if_neg h]
  cases hb:Nat.beq k t with
  | true=>exact absurd (Nat.eq_of_beq_eq_true hb) h
  | false=>rfl
theorem ym (A B:List (Nat×TV)) (t:Nat) (d:TV):h6 (A++B) t d=h6 A t (h6 B t d):=by
 induction A with
 | nil=>rfl
 | cons p r bz=>obtain⟨k,v⟩:=p;rw[List.cons_append,ih,ih,bz]
theorem vS {A:List (Nat×TV)} {t:Nat} {d:TV} (h: ∀v,(t,v) ∉ A):h6 A t d=d:=by
 induction A with
 | nil=>rfl
 | cons p r bz=>
  obtain⟨k,v⟩:=p
  rw[ih,if_neg,bz fun w hw=>h w (List.mem_cons_of_mem _ hw)]
  rintro rfl;exact h v (List.mem_cons_self ..)
theorem TS.KF (s:TS) (k:Nat) (v:TV) (t:Nat):(s.put k v).get t=if k=t then v else s.get t:=ih ..
inductive aI:Type 1 where
 | l2 (ex:Exit) (s:TS)
 | iE
 | no
 | p (φ:Prop) (t:aI)
 | kY (φ:Prop) (t:aI)
 | jX (b:ey) (s:TS) (x y:aI)
 | two (x y:aI)
 | iz (x:aI) (eQ:List Prop) (b:ey) (y:aI)
 | all (α:Type) (f:α→aI)
 | eq {α:Type} (a b:α) (t:aI)
def sF:List Prop→Prop
 | []=>True
 | φ::r=>match r with
  | []=>φ
  | r=>φ∧sF r
theorem Ry: ∀{l:List Prop},(∀φ∈l,φ)→sF l
 | [],_=>trivial
 | [φ],h=>h φ (by simp)
 | φ::ψ::r,h=>⟨h φ (by simp),Ry (l:=ψ::r) fun x hx=>h x (List.mem_cons_of_mem _ hx)⟩
def zO (eQ:List Prop):ey→List Prop
 | .t=>eQ
 | b=>eQ++[b.den=true]
def CS (eQ:List Prop) (b:ey):Prop:=sF (zO eQ b)
theorem ady {eQ:List Prop} {b:ey} (h: ∀φ∈eQ,φ) (hb:b.den=true):CS eQ b:=by
 unfold CS
 refine Ry fun φ e7=> ?_
 unfold zO at e7
 split at e7
 ·exact h φ e7
 ·rcases List.mem_append.1 e7 with q | q
  ·exact h φ q
  ·rw[List.mem_singleton.1 q];exact hb
def aI.den:aI→(Exit→TS→Prop)→Prop
 | .l2 ex s,R=>R ex s
 | .iE,_=>True
 | .no,_=>False
 | .p φ t,R=>φ∧t.den R
 | .kY φ t,R=>φ→t.den R
 | .jX b _ x y,R=>(b.den=true→x.den R)∧(b.den=false→y.den R)
 | .two x y,R=>x.den R∧y.den R
 | .iz x eQ b y,R=>x.den R∧(CS eQ b→y.den R)
 | .all _ f,R=> ∀a,(f a).den R
 | .eq a b t,R=>a=b∧t.den R
def aI.bind:aI→(Exit→TS→aI)→aI
 | .l2 ex s,K=>K ex s
 | .iE,_=> .iE
 | .no,_=> .no
 | .p φ t,K=> .p φ (t.bind K)
 | .kY φ t,K=> .kY φ (t.bind K)
 | .jX b s x y,K=> .jX b s (x.bind K) (y.bind K)
 | .two x y,K=> .two (x.bind K) (y.bind K)
 | .iz x eQ b y,K=> .iz (x.bind K) eQ b (y.bind K)
 | .all α f,K=> .all α fun a=>(f a).bind K
 | .eq a b t,K=> .eq a b (t.bind K)
theorem aI.abV (t:aI) (K:Exit→TS→aI) (R:Exit→TS→Prop):(t.bind K).den R=t.den fun ex s=>(K ex s).den R:=by
 induction t with
 | l2 ex s=>rfl
 | iE=>rfl
 | no=>rfl
 | p φ t bz=>simp only[aI.bind,aI.den,bz]
 | kY φ t bz=>simp only[aI.bind,aI.den,bz]
 | jX b s x y iK ix=>simp only[aI.bind,aI.den,iK,ix]
 | two x y iK ix=>simp only[aI.bind,aI.den,iK,ix]
 | iz x eQ b y iK ix=>simp only[aI.bind,aI.den,iK,ix]
 | all α f bz=>simp only[aI.bind,aI.den,bz]
 | eq a b t bz=>simp only[aI.bind,aI.den,bz]
theorem aI.tP {t:aI} {R Cz:Exit→TS→Prop} (h:t.den R) (k: ∀ex s,R ex s→Cz ex s):t.den Cz:=by
 induction t with
 | l2 ex s=>exact k _ _ h
 | iE=>trivial
 | no=>exact h
 | p φ t bz=>exact⟨h.1,bz h.2⟩
 | kY φ t bz=>exact fun q=>bz (h q)
 | jX b s x y iK ix=>exact⟨fun q=>iK (h.1 q),fun q=>ix (h.2 q)⟩
 | two x y iK ix=>exact⟨iK h.1,ix h.2⟩
 | iz x eQ b y iK ix=>exact⟨iK h.1,fun q=>ix (h.2 q)⟩
 | all α f bz=>exact fun a=>bz a (h a)
 | eq a b t bz=>exact⟨h.1,bz h.2⟩
inductive gK:Type 1 where
 | iE
 | p (φ:Prop)
 | and (a b:gK)
 | kY (φ:Prop) (c:gK)
 | all (α:Type) (f:α→gK)
def gK.and' (a b:gK):gK:=match a with
 | .iE=>b
 | a=>match b with
  | .iE=>a
  | b=> .and a b
def gK.Av (φ:Prop) (c:gK):gK:=match c with
 | .iE=> .iE
 | c=> .kY φ c
def gK.den:gK→Prop
 | .iE=>True
 | .p φ=>φ
 | .and a b=>a.den∧b.den
 | .kY φ c=>φ→c.den
 | .all _ f=> ∀a,(f a).den
theorem gK.Fg (a b:gK):(gK.and' a b).den↔a.den∧b.den:=by
 cases a<;>cases b<;>simp[gK.and',gK.den]
theorem gK.GN (φ:Prop) (c:gK):(gK.Av φ c).den↔(φ→c.den):=by
 cases c<;>simp[gK.Av,gK.den]
def gK.fact (eQ:List Prop) (b:ey) (c:gK):gK:=match zO eQ b with
 | []=>c
 | φ::r=> .Av (sF (φ::r)) c
theorem gK.adz (eQ:List Prop) (b:ey) (c:gK):(gK.fact eQ b c).den↔(CS eQ b→c.den):=by
 unfold gK.fact CS
 split
 ·rename_i h;rw[h];simp[sF]
 ·rename_i h;rw[h];exact gK.GN _ _
def aI.p3:aI→gK
 | .l2 _ _=> .iE
 | .iE=> .iE
 | .no=> .p False
 | .p φ t=> .and' (.p φ) t.p3
 | .kY φ t=> .Av φ t.p3
 | .jX b _ x y=> .and' (.Av (b.den=true) x.p3) (.Av (b.den=false) y.p3)
 | .two x y=> .and' x.p3 y.p3
 | .iz x eQ b y=> .and' x.p3 (.fact eQ b y.p3)
 | .all α f=> .all α fun a=>(f a).p3
 | .eq _ _ t=>t.p3
inductive tD:Type 1 where
 | u
 | v {α:Type} (a:α) (t:tD)
 | n (a b:tD)
 | f {α:Type} (g:α→tD)
def aI.lhs:aI→tD
 | .l2 _ _ | .iE | .no=> .u
 | .p _ t | .kY _ t=>t.lhs
 | .jX _ _ x y | .two x y | .iz x _ _ y=> .n x.lhs y.lhs
 | .all _ f=> .f fun a=>(f a).lhs
 | .eq a _ t=> .v a t.lhs
def aI.rhs:aI→tD
 | .l2 _ _ | .iE | .no=> .u
 | .p _ t | .kY _ t=>t.rhs
 | .jX _ _ x y | .two x y | .iz x _ _ y=> .n x.rhs y.rhs
 | .all _ f=> .f fun a=>(f a).rhs
 | .eq _ b t=> .v b t.rhs
theorem aI.full {t:aI} (h:t.p3.den) (e:t.lhs=t.rhs):t.den fun _ _=>True:=by
 induction t with
 | l2 ex s=>trivial
 | iE=>trivial
 | no=>exact h
 | p φ t bz=>
  have h:=(gK.Fg _ _).1 h
  exact⟨h.1,bz h.2 e⟩
 | kY φ t bz=>exact fun q=>bz ((gK.GN _ _).1 h q) e
 | jX b s x y iK ix=>
  have h:=(gK.Fg _ _).1 h
  injection e with aG e2
  exact⟨fun q=>iK ((gK.GN _ _).1 h.1 q) aG,fun q=>ix ((gK.GN _ _).1 h.2 q) e2⟩
 | two x y iK ix=>
  have h:=(gK.Fg _ _).1 h
  injection e with aG e2
  exact⟨iK h.1 aG,ix h.2 e2⟩
 | iz x eQ b y iK ix=>
  have h:=(gK.Fg _ _).1 h
  injection e with aG e2
  exact⟨iK h.1 aG,fun q=>ix ((gK.adz _ _ _).1 h.2 q) e2⟩
 | all α f bz=>
  injection e with _ e
  exact fun a=>bz a (h a) (congrFun e a)
 | eq a b t bz=>
  injection e with _ aG e2
  exact⟨aG,bz h e2⟩
def yC (b:ey) (x y:TV):TV:=match x with
 | .i k n=>(match y with
  | .i kH m=>if k=kH then .i k (bif b.den then n else m) else .u
  | _=> .u)
 | .b x=>(match y with
  | .b y=> .b (ey.yB b x y)
  | _=> .u)
 | .s x=>(match y with
  | .s y=> .s (bif b.den then x else y)
  | _=> .u)
 | _=> .u
def ey.qk:ey→ey→Bool
 | .at i _,.at j _=>Nat.beq i j
 | .t,.t=>true
 | .f,.f=>true
 | .n x,.n y=>x.qk y
 | .c7 x y,.c7 z w=>x.qk z&&y.qk w
 | .or x y,.or z w=>x.qk z&&y.qk w
 | .ite c x y,.ite d z w=>c.qk d&&x.qk z&&y.qk w
 | .zM x y,.zM z w=>x.qk z&&y.qk w
 | .ne x y,.ne z w=>x.qk z&&y.qk w
 | _,_=>false
def Nj (x y:TV):Bool:=match x with
 | .b x=>(match y with
  | .b y=>x.qk y
  | _=>false)
 | _=>false
def Hj (b:ey) (x y:TV):TV:=match Nj x y with
 | true=>x
 | false=>yC b x y
def yj (s s':TS):List (Nat×TV)→List (List (Nat×TV)×List (Nat×TV))
 | []=>[]
 | p::r=>match Nj (s.get p.1) (s'.get p.1) with
  | true=>([(p.1,s.get p.1)],[(p.1,s'.get p.1)])::yj s s' r
  | false=>yj s s' r
inductive tJ where
 | bad
 | none
 | some (s:TS) (kO:List (List (Nat×TV)×List (Nat×TV)))
def ni {e bZ:aR} (h:bZ=e) (xs:List bZ.T):List e.T:=h▸xs
def KC:(e:aR)→TV→e.T
 | .int,.i _ m=>m
 | .u64,.i _ m=>m
 | .bool,.b x=>x.den
 | .str,.s x=>x
 | .l e,.l bZ xs _ _=>if h:bZ=e then ni h xs else[]
 | e,_=>e.yb.default
def rH:(es:List aR)→List TV→cL es
 | [],_=>()
 | e::r,v::vs=>(KC e v,rH r vs)
 | e::r,[]=>(e.yb.default,rH r [])
def tg (c:List TV):lc:=aR.mk .hV (rH aR.hV.bV c)
def G7:TV→Bool
 | .dr _ _=>true
 | _=>false
def A1 (s s':TS):List (Nat×TV)→Bool
 | []=>true
 | (k,_)::r=>match Nat.blt k 1000000 with
  | true=>A1 s s' r
  | false=>match G7 (s.get k)&&G7 (s'.get k)&&Nat.ble 1000010 k with
   | true=>A1 s s' r
   | false=>false
def akt (b:ey) (x y:TV):TV:=match x with
 | .dr g c=>(match y with
  | .dr _ ct=> .dr g (kz false .hV (bif b.den then tg c else tg ct))
  | _=> .u)
 | _=> .u
def uJ (b:ey) (k:Nat) (x y:TV):TV:=match Nat.blt k 1000000 with
 | true=>Hj b x y
 | false=>akt b x y
def alt (x y:TV):List (List (Nat×TV)×List (Nat×TV)):=match x with
 | .dr g c=>(match y with
  | .dr dD ct=>[([(g,.agg c)],[(dD,.agg (kz false .hV (tg c)))]),([(0,.agg ct)],[(0,.agg (kz false .hV (tg ct)))])]
  | _=>[])
 | _=>[]
def yH (s s':TS):List (Nat×TV)→List (List (Nat×TV)×List (Nat×TV))
 | []=>[]
 | p::r=>match Nat.blt p.1 1000000 with
  | true=>yH s s' r
  | false=>alt (s.get p.1) (s'.get p.1)++yH s s' r
def FW:List (Nat×Nat)→List (Nat×Nat)→Bool
 | [],[]=>true
 | (a,b)::r,(c,d)::q=>Nat.beq a c&&Nat.beq b d&&FW r q
 | _,_=>false
def tJ.jX (b:ey) (eU:TS) (x y:tJ):tJ:=match x with
 | .bad=> .bad
 | .none=>(match y with
  | .bad=> .bad
  | .none=> .none
  | .some s q=> .some ⟨s.T++eU.T,eU.B,s.vs,s.be⟩ ((s.B,eU.T++eU.B)::q))
 | .some s q=>(match y with
  | .bad=> .bad
  | .none=> .some ⟨s.T++eU.T,eU.B,s.vs,s.be⟩ ((s.B,eU.T++eU.B)::q)
  | .some s' wj=>match A1 s s' (s.T++s'.T)&&FW s.vs s'.vs&&Nat.beq s.be s'.be with
   | true=> .some ⟨(s.T++s'.T).map (fun p=>(p.1,uJ b p.1 (s.get p.1) (s'.get p.1)))++eU.T,eU.B,s.vs,s.be⟩ ((s.B,eU.T++eU.B)::(s'.B,eU.T++eU.B)::(q++(wj++(yj s s' (s.T++s'.T)++yH s s' (s.T++s'.T)))))
   | false=> .bad)
def aI.oO:aI→tJ
 | .l2 ex s=>(match ex with
  | .normal=> .some s []
  | _=> .none)
 | .iE | .no=> .none
 | .p _ t | .kY _ t | .eq _ _ t=>t.oO
 | .jX b s x y=>tJ.jX b s x.oO y.oO
 | .two _ _ | .all _ _=> .bad
 | .iz x _ _ y=>(match x.oO with
  | .none=>y.oO
  | _=> .bad)
def aI.mM:aI→ey
 | .l2 ex _=>(match ex with
  | .normal=> .t
  | _=> .f)
 | .iE | .no=> .f
 | .p _ t | .kY _ t | .eq _ _ t=>t.mM
 | .jX b _ x y=>ey.yB b x.mM y.mM
 | .two _ _ | .all _ _=> .t
 | .iz _ _ b y=>(match b with
  | .t=>y.mM
  | b=>ey.yB b y.mM .f)
def aI.facts:aI→List Prop
 | .l2 _ _ | .iE | .no | .two _ _ | .all _ _=>[]
 | .p _ t | .eq _ _ t=>t.facts
 | .kY φ t=>φ::t.facts
 | .jX _ _ x y=>(match x.mM with
  | .f=>y.facts
  | _=>match y.mM with
   | .f=>x.facts
   | _=>[])
 | .iz _ eQ _ y=>eQ++y.facts
def QN (x y:TV):Prop:= ∃g c ct,x= .dr g c∧y= .dr g ct∧cU ct=cU c
structure TS.hJ (s S:TS):Prop where
 vs:S.vs=s.vs
 be:S.be=s.be
 get: ∀k,S.get k=s.get k∨(k<1000000∧((S.get k).bp=(s.get k).bp∨(S.get k).bp= .undef))∨(1000010≤k∧QN (s.get k) (S.get k))
theorem TS.hJ.refl (s:TS):s.hJ s:=⟨rfl,rfl,fun _=> .inl rfl⟩
theorem TS.hJ.trans {a b c:TS} (h:a.hJ b) (k:b.hJ c):a.hJ c:=⟨k.vs.trans h.vs,k.be.trans h.be,fun t=>by
 rcases k.get t with e | ⟨aw,e⟩ | ⟨aw,e⟩
 ·rw[e];exact h.get t
 ·refine .inr (.inl ⟨aw,?_⟩)
  rcases e with e | e
  ·rcases h.get t with q | ⟨_,q⟩ | ⟨hb,_⟩
   ·rw[e,q];exact .inl rfl
   ·rw[e];exact q
   ·omega
  ·exact .inr e
 ·refine .inr (.inr ⟨aw,?_⟩)
  rcases h.get t with q | ⟨hb,_⟩ | ⟨_,q⟩
  ·rw[←q];exact e
  ·omega
  ·obtain⟨g,x,y,aG,e2,dg⟩:=e
   obtain⟨dD,iX,aaN,f1,f2,f3⟩:=q
   rw[aG] at f2
   cases f2
   exact⟨g,iX,y,f1,e2,dg.trans f3⟩⟩
theorem akJ {s s':TS} {l:List (Nat×TV)} (h:A1 s s' l=true) {k:Nat} {v:TV} (hm:(k,v)∈l) (hk: ¬k<1000000):1000010≤k∧(∃g c,s.get k= .dr g c)∧ ∃g c,s'.get k= .dr g c:=by
 induction l with
 | nil=>cases hm
 | cons p r bz=>
  obtain⟨a,w⟩:=p
  unfold A1 at h
  split at h
  ·rename_i ar
   rcases List.mem_cons.1 hm with e | hm
   ·cases e;exact absurd (by rw[←Nat.blt_eq];exact ar) hk
   ·exact bz h hm
  ·split at h
   ·rename_i hc
    rcases List.mem_cons.1 hm with e | hm
    ·cases e
     simp only[Bool.and_eq_true] at hc
     have X5: ∀x:TV,G7 x=true→ ∃g c,x= .dr g c:=fun x hx=>by
      unfold G7 at hx
      split at hx
      ·exact⟨_,_,rfl⟩
      ·cases hx
     exact⟨Nat.le_of_ble_eq_true hc.2,X5 _ hc.1.1,X5 _ hc.1.2⟩
    ·exact bz h hm
   ·cases h
theorem X3 {s s':TS}: ∀{l:List (Nat×TV)},(∀p∈yH s s' l,p.1=p.2)→ ∀k v,(k,v)∈l→ ¬k<1000000→ ∀(g:Nat) (c:List TV) (dD:Nat) (ct:List TV),s.get k= .dr g c→s'.get k= .dr dD ct→g=dD∧c=kz false .hV (tg c)∧ct=kz false .hV (tg ct)
 | [],_,k,v,h,_=>by cases h
 | p::r,U,k,v,h,hk=>fun g c dD ct aG e2=>by
  unfold yH at U
  rcases List.mem_cons.1 h with e | h
  ·cases e
   have hb:Nat.blt k 1000000=false:=by
    cases hb:Nat.blt k 1000000 with
    | true=>rw[Nat.blt_eq] at hb;exact absurd hb hk
    | false=>rfl
   simp only[hb,aG,e2] at U
   have q1:=U _ (List.mem_append_left _ (List.mem_cons_self ..))
   have q2:=U _ (List.mem_append_left _ (List.mem_cons_of_mem _ (List.mem_cons_self ..)))
   injection q1 with J _
   injection q2 with a2 _
   have b1:=(Prod.mk.inj J)
   have b2:=(Prod.mk.inj a2)
   exact⟨b1.1,TV.agg.inj b1.2,TV.agg.inj b2.2⟩
  ·refine X3 (fun q hm=>U q ?_) k v h hk g c dD ct aG e2
   split
   ·exact hm
   ·exact List.mem_append_right _ hm
theorem RT: ∀{l m:List (Nat×Nat)},FW l m=true→l=m
 | [],[],_=>rfl
 | [],_::_,h=>by cases h
 | _::_,[],h=>by cases h
 | (a,b)::r,(c,d)::q,h=>by
  simp only[FW,Bool.and_eq_true] at h
  rw[Nat.eq_of_beq_eq_true h.1.1,Nat.eq_of_beq_eq_true h.1.2,RT h.2]
theorem ak8 {b:ey} {x y:TV} (h:b.den=true):(yC b x y).bp=x.bp∨(yC b x y).bp= .undef:=by
 unfold yC
 split
 ·split
  ·split
   ·left;simp[TV.bp,h]
   ·exact .inr rfl
  ·exact .inr rfl
 ·split
  ·left;simp[TV.bp,ey.D9,h]
  ·exact .inr rfl
 ·split
  ·left;simp[TV.bp,h]
  ·exact .inr rfl
 ·exact .inr rfl
theorem ak7 {b:ey} {x y:TV} (h:b.den=false):(yC b x y).bp=y.bp∨(yC b x y).bp= .undef:=by
 unfold yC
 split
 ·split
  ·split
   ·rename_i e;left;subst e;simp[TV.bp,h]
   ·exact .inr rfl
  ·exact .inr rfl
 ·split
  ·left;simp[TV.bp,ey.D9,h]
  ·exact .inr rfl
 ·split
  ·left;simp[TV.bp,h]
  ·exact .inr rfl
 ·exact .inr rfl
theorem alx {s eU:TS} (h:s.B=eU.T++eU.B) (vs:List (Nat×Nat)) (be k:Nat):TS.get ⟨s.T++eU.T,eU.B,vs,be⟩ k=s.get k:=by
 unfold TS.get
 simp only
 rw[h,ym,ym]
theorem aj2 {l:List (Nat×TV)} {f:Nat→TV} {k:Nat} {d:TV}:((∃v,(k,v)∈l)∧h6 (l.map fun p=>(p.1,f p.1)) k d=f k)∨((∀v,(k,v) ∉ l)∧h6 (l.map fun p=>(p.1,f p.1)) k d=d):=by
 induction l with
 | nil=>exact .inr ⟨(fun v h=>by cases h),rfl⟩
 | cons p r bz=>
  obtain⟨a,w⟩:=p
  rw[List.map_cons,ih]
  by_cases e:a=k
  ·subst e;exact .inl ⟨⟨w,List.mem_cons_self ..⟩,if_pos rfl⟩
  ·rw[if_neg e]
   rcases bz with⟨⟨v,q⟩,h⟩ | ⟨q,h⟩
   ·exact .inl ⟨⟨v,List.mem_cons_of_mem _ q⟩,h⟩
   ·refine .inr ⟨fun v hv=> ?_,h⟩
    rcases List.mem_cons.1 hv with hv | hv
    ·cases hv;exact e rfl
    ·exact q v hv
theorem Ww {s s':TS}: ∀{l:List (Nat×TV)},(∀p∈yj s s' l,p.1=p.2)→ ∀k v,(k,v)∈l→Nj (s.get k) (s'.get k)=true→s.get k=s'.get k
 | [],_,k,v,h,_=>by cases h
 | p::r,U,k,v,h,aw=>by
  unfold yj at U
  rcases List.mem_cons.1 h with e | h
  ·cases e
   rw[aw] at U
   have:=U _ (List.mem_cons_self ..)
   injection this with aG _
   exact(Prod.mk.inj aG).2
  ·refine Ww (fun q hm=>U q ?_) k v h aw
   split
   ·exact List.mem_cons_of_mem _ hm
   ·exact hm
theorem akd {b:ey} {eU s s':TS} (h1:s.B=eU.T++eU.B) (h2:s'.B=eU.T++eU.B) (dA:A1 s s' (s.T++s'.T)=true) (hv:s.vs=s'.vs) (af:s.be=s'.be) (U: ∀p∈yj s s' (s.T++s'.T)++yH s s' (s.T++s'.T),p.1=p.2):
  let S:TS:=⟨(s.T++s'.T).map (fun p=>(p.1,uJ b p.1 (s.get p.1) (s'.get p.1)))++eU.T,eU.B,s.vs,s.be⟩
  (b.den=true→s.hJ S)∧(b.den=false→s'.hJ S):=by
 intro S
 have Ln: ∀p∈yj s s' (s.T++s'.T),p.1=p.2:=fun p ab=>U p (List.mem_append_left _ ab)
 have lx: ∀p∈yH s s' (s.T++s'.T),p.1=p.2:=fun p ab=>U p (List.mem_append_right _ ab)
 have h5: ∀k,((∃v,(k,v)∈s.T++s'.T)∧S.get k=uJ b k (s.get k) (s'.get k))∨((∀v,(k,v) ∉ s.T++s'.T)∧S.get k=h6 eU.T k (h6 eU.B k .u)):=fun k=>by
  have e:S.get k=h6 (List.map (fun p=>(p.1,(fun k=>uJ b k (s.get k) (s'.get k)) p.1)) (s.T++s'.T)) k (h6 eU.T k (h6 eU.B k .u)):=by
   show h6 (_++eU.T) k _=_
   rw[ym]
  rw[e];exact aj2 (f:=fun k=>uJ b k (s.get k) (s'.get k))
 have base: ∀(x:TS),x.B=eU.T++eU.B→ ∀k,(∀v,(k,v) ∉ x.T)→x.get k=h6 eU.T k (h6 eU.B k .u):=fun x hx k hk=>by
  unfold TS.get;rw[vS hk,hx,ym]
 have YW: ∀k,k<1000000→uJ b k (s.get k) (s'.get k)=Hj b (s.get k) (s'.get k):=fun k hk=>by
  unfold uJ;rw[show Nat.blt k 1000000=true by rw[Nat.blt_eq];exact hk]
 have Q8: ∀k v,(k,v)∈s.T++s'.T→ ¬k<1000000→1000010≤k∧ ∃g c ct,s.get k= .dr g c∧s'.get k= .dr g ct∧c=kz false .hV (tg c)∧ct=kz false .hV (tg ct)∧uJ b k (s.get k) (s'.get k)= .dr g (kz false .hV (bif b.den then tg c else tg ct)):=fun k v hm hk=>by
  obtain⟨b6,⟨g,c,aG⟩,dD,ct,e2⟩:=akJ dA hm hk
  obtain⟨cP,dd,dV⟩:=X3 lx k v hm hk _ _ _ _ aG e2
  subst cP
  refine⟨b6,g,c,ct,aG,e2,dd,dV,?_⟩
  unfold uJ
  have hb:Nat.blt k 1000000=false:=by
   cases hb:Nat.blt k 1000000 with
   | true=>rw[Nat.blt_eq] at hb;exact absurd hb hk
   | false=>rfl
  rw[hb,aG,e2];rfl
 refine⟨fun hb=>⟨rfl,rfl,fun k=> ?_⟩,fun hb=>⟨hv,af,fun k=> ?_⟩⟩
 ·rcases h5 k with⟨⟨v,q⟩,h⟩ | ⟨q,h⟩
  ·by_cases hk:k<1000000
   ·rw[h,YW k hk];refine .inr (.inl ⟨hk,?_⟩)
    unfold Hj
    split
    ·exact .inl rfl
    ·exact ak8 hb
   ·obtain⟨b6,g,c,ct,aG,e2,dd,dV,dg⟩:=Q8 k v q hk
    refine .inr (.inr ⟨b6,g,c,_,aG,h.trans dg,?_⟩)
    rw[hb];exact congrArg cU dd.symm
  ·rw[h];exact .inl (base s h1 k fun v hv=>q v (List.mem_append_left _ hv)).symm
 ·rcases h5 k with⟨⟨v,q⟩,h⟩ | ⟨q,h⟩
  ·by_cases hk:k<1000000
   ·rw[h,YW k hk];refine .inr (.inl ⟨hk,?_⟩)
    unfold Hj
    split
    ·rename_i aw;rw[Ww Ln k v q aw];exact .inl rfl
    ·exact ak7 hb
   ·obtain⟨b6,g,c,ct,aG,e2,dd,dV,dg⟩:=Q8 k v q hk
    refine .inr (.inr ⟨b6,g,ct,_,e2,h.trans dg,?_⟩)
    rw[hb];exact congrArg cU dV.symm
  ·rw[h];exact .inl (base s' h2 k fun v hv=>q v (List.mem_append_right _ hv)).symm
theorem aI.WJ: ∀{t:aI} {R:Exit→TS→Prop},t.oO= .none→t.den R→t.den fun ex s=>R ex s∧ex≠ .normal:=by
 intro t
 induction t with
 | l2 ex s=>
  intro R h d
  refine⟨d,?_⟩
  rintro rfl;cases h
 | iE=>intros;trivial
 | no=>intro R h d;exact d
 | p φ t bz=>intro R h d;exact⟨d.1,bz h d.2⟩
 | kY φ t bz=>intro R h d;exact fun q=>bz h (d q)
 | eq a b t bz=>intro R h d;exact⟨d.1,bz h d.2⟩
 | two x y iK ix=>intro R h;cases h
 | all α f bz=>intro R h;cases h
 | iz x eQ b y iK ix=>
  intro R h d
  unfold aI.oO at h
  split at h
  ·rename_i hx;exact⟨iK hx d.1,fun q=>ix h (d.2 q)⟩
  ·cases h
 | jX b s x y iK ix=>
  intro R h d
  have h:tJ.jX b s x.oO y.oO= .none:=h
  unfold tJ.jX at h
  split at h
  ·cases h
  ·rename_i hx
   split at h
   ·cases h
   ·rename_i aX;exact⟨fun q=>iK hx (d.1 q),fun q=>ix aX (d.2 q)⟩
   ·cases h
  ·split at h
   ·cases h
   ·cases h
   ·split at h<;>cases h
theorem aI.akg: ∀{t:aI} {R:Exit→TS→Prop} {S:TS} {kO:List (List (Nat×TV)×List (Nat×TV))},t.oO= .some S kO→(∀p∈kO,p.1=p.2)→t.den R→
  t.den fun ex s=>R ex s∧(ex= .normal→s.hJ S∧t.mM.den=true∧ ∀φ∈t.facts,φ):=by
 intro t
 induction t with
 | l2 ex s=>
  intro R S kO h U d
  refine⟨d,?_⟩
  rintro rfl
  cases h
  exact⟨.refl s,rfl,fun φ h=>by cases h⟩
 | iE=>intros;trivial
 | no=>intro R S kO h U d;exact d
 | p φ t bz=>intro R S kO h U d;exact⟨d.1,bz h U d.2⟩
 | kY φ t bz=>
  intro R S kO h U d q
  refine aI.tP (bz h U (d q)) fun ex s hs=>⟨hs.1,fun e=>⟨(hs.2 e).1,(hs.2 e).2.1,fun ψ LJ=> ?_⟩⟩
  rcases List.mem_cons.1 LJ with rfl | LJ
  ·exact q
  ·exact(hs.2 e).2.2 ψ LJ
 | eq a b t bz=>intro R S kO h U d;exact⟨d.1,bz h U d.2⟩
 | two x y iK ix=>intro R S kO h;cases h
 | all α f bz=>intro R S kO h;cases h
 | iz x eQ b y iK ix=>
  intro R S kO h U d
  unfold aI.oO at h
  split at h
  ·rename_i hx
   refine⟨aI.tP (aI.WJ hx d.1) fun ex s hs=>⟨hs.1,fun e=>absurd e hs.2⟩,fun q=>aI.tP (ix h U (d.2 q)) fun ex s hs=>⟨hs.1,fun e=> ?_⟩⟩
   obtain⟨h1,h2,aD⟩:=hs.2 e
   have eG: ∀(l:List Prop),sF l→ ∀φ∈l,φ:=by
    intro l
    induction l with
    | nil=>intro _ φ e7;cases e7
    | cons a r bz=>
     intro hc φ e7
     cases r with
     | nil=>rw[List.mem_singleton.1 e7];exact hc
     | cons hL HO=>
      have hc:a∧sF (hL::HO):=hc
      rcases List.mem_cons.1 e7 with rfl | e7
      ·exact hc.1
      ·exact bz hc.2 φ e7
   have eG:=eG _ q
   refine⟨h1,?_,fun φ e7=> ?_⟩
   ·unfold aI.mM
    split
    ·exact h2
    ·rename_i bq
     have hb:b.den=true:=eG _ (by
      unfold zO
      split
      ·exact absurd rfl bq
      ·simp)
     rw[ey.D9,hb,h2];rfl
   ·rcases List.mem_append.1 e7 with e7 | e7
    ·have hm: ∀b:ey,φ∈zO eQ b:=fun b=>by
      unfold zO
      split
      ·exact e7
      ·exact List.mem_append_left _ e7
     exact eG φ (hm b)
    ·exact aD φ e7
  ·cases h
 | jX b eU x y iK ix=>
  intro R S kO h U d
  have h:tJ.jX b eU x.oO y.oO= .some S kO:=h
  have Xb: ∀{z:aI} {R:Exit→TS→Prop},z.oO= .none→z.den R→z.den fun ex s=>R ex s∧(ex= .normal→False):=fun az ac_=>aI.WJ az ac_
  have Su:b.den=true→x.mM.den=true→(ey.yB b x.mM y.mM).den=true:=fun h1 h2=>by rw[ey.D9,h1,h2];rfl
  have Sv:b.den=false→y.mM.den=true→(ey.yB b x.mM y.mM).den=true:=fun h1 h2=>by rw[ey.D9,h1,h2];rfl
  have SF:x.mM.den=true→(∀φ∈x.facts,φ)→ ∀φ∈(aI.jX b eU x y).facts,φ:=fun h1 h2 φ e7=>by
   unfold aI.facts at e7
   split at e7
   ·rename_i e;rw[e] at h1;cases h1
   ·split at e7
    ·exact h2 φ e7
    ·cases e7
  have SG:y.mM.den=true→(∀φ∈y.facts,φ)→ ∀φ∈(aI.jX b eU x y).facts,φ:=fun h1 h2 φ e7=>by
   unfold aI.facts at e7
   split at e7
   ·exact h2 φ e7
   ·split at e7
    ·rename_i e;rw[e] at h1;cases h1
    ·cases e7
  have dr: ∀{s:TS},s.B=eU.T++eU.B→s.hJ ⟨s.T++eU.T,eU.B,s.vs,s.be⟩:=fun dq=>⟨rfl,rfl,fun k=> .inl (alx dq _ _ k)⟩
  unfold tJ.jX at h
  split at h
  ·cases h
  ·rename_i hx
   split at h
   ·cases h
   ·cases h
   ·rename_i s q aX
    cases h
    have dq:=U _ (List.mem_cons_self ..)
    refine⟨fun hb=>aI.tP (Xb hx (d.1 hb)) fun ex z az=>⟨az.1,fun e=>(az.2 e).elim⟩,fun hb=>aI.tP (ix aX (fun p ab=>U p (List.mem_cons_of_mem _ ab)) (d.2 hb)) fun ex z az=>⟨az.1,fun e=> ?_⟩⟩
    obtain⟨h1,h2,aD⟩:=az.2 e
    exact⟨h1.trans (dr dq),Sv hb h2,SG h2 aD⟩
  ·rename_i s q hx
   split at h
   ·cases h
   ·rename_i aX
    cases h
    have dq:=U _ (List.mem_cons_self ..)
    refine⟨fun hb=>aI.tP (iK hx (fun p ab=>U p (List.mem_cons_of_mem _ ab)) (d.1 hb)) fun ex z az=>⟨az.1,fun e=> ?_⟩,fun hb=>aI.tP (Xb aX (d.2 hb)) fun ex z az=>⟨az.1,fun e=>(az.2 e).elim⟩⟩
    obtain⟨h1,h2,aD⟩:=az.2 e
    exact⟨h1.trans (dr dq),Su hb h2,SF h2 aD⟩
   ·rename_i s' wj aX
    split at h
    ·rename_i hc
     cases h
     simp only[Bool.and_eq_true] at hc
     obtain⟨⟨bk,ic⟩,lR⟩:=hc
     have aeU:=U _ (List.mem_cons_self ..)
     have aeV:=U _ (List.mem_cons_of_mem _ (List.mem_cons_self ..))
     obtain⟨a6,bx⟩:=akd (b:=b) aeU aeV bk (RT ic) (Nat.eq_of_beq_eq_true lR) (fun p ab=>U p (List.mem_cons_of_mem _ (List.mem_cons_of_mem _ (List.mem_append_right _ (List.mem_append_right _ ab)))))
     refine⟨fun hb=>aI.tP (iK hx (fun p ab=>U p (List.mem_cons_of_mem _ (List.mem_cons_of_mem _ (List.mem_append_left _ ab)))) (d.1 hb)) fun ex z az=>⟨az.1,fun e=> ?_⟩,
      fun hb=>aI.tP (ix aX (fun p ab=>U p (List.mem_cons_of_mem _ (List.mem_cons_of_mem _ (List.mem_append_right _ (List.mem_append_left _ ab))))) (d.2 hb)) fun ex z az=>⟨az.1,fun e=> ?_⟩⟩
     ·obtain⟨h1,h2,aD⟩:=az.2 e
      exact⟨h1.trans (a6 hb),Su hb h2,SF h2 aD⟩
     ·obtain⟨h1,h2,aD⟩:=az.2 e
      exact⟨h1.trans (bx hb),Sv hb h2,SG h2 aD⟩
    ·cases h
def l3:List (Nat×Nat)→Nat→Option Nat
 | [],_=>none
 | (k,m)::r,t=>match Nat.beq k t with
  | true=>some m
  | false=>l3 r t
section
variable [FZ] {n:Nat} {s:TS}
theorem EK (t:Nat):(s.ap n).T.getD t .undef=if t<n then(s.get t).bp else .undef:=by
 show((List.range n).map fun t=>(s.get t).bp).getD t .undef=_
 rw[List.getD_eq_getElem?_getD,List.getElem?_map]
 by_cases h:t<n
 ·rw[List.getElem?_range h,if_pos h];rfl
 ·rw[List.getElem?_eq_none (by simpa using h),if_neg h];rfl
theorem yZ (v:Nat):eR (s.ap n).L v=(l3 s.vs v).map fun m=>cU (iI s v 0 m):=by
 show eR (s.vs.map fun p=>(p.1,cU (iI s p.1 0 p.2))) v=_
 induction s.vs with
 | nil=>rfl
 | cons p r bz=>
  obtain⟨k,m⟩:=p
  rw[List.map_cons]
  unfold eR l3
  by_cases h:v=k
  ·subst h;simp
  ·have:Nat.beq k v=false:=by
    cases hb:Nat.beq k v with
    | true=>exact absurd (Nat.eq_of_beq_eq_true hb).symm h
    | false=>rfl
   simp only[h,if_false,this];exact bz
theorem si (b:Nat):s.hA[b]?=if b<s.be then some (s.get (bI b)).eE else none:=by
 show((List.range s.be).map fun b=>(s.get (bI b)).eE)[b]?=_
 rw[List.getElem?_map]
 by_cases h:b<s.be
 ·rw[List.getElem?_range h,if_pos h];rfl
 ·rw[List.getElem?_eq_none (by simpa using h),if_neg h];rfl
theorem o3:s.hA.length=s.be:=by show((List.range s.be).map _).length=_;simp
theorem u3 {b:Nat} (h:b<s.be):(s.ap n).H[b]?=some (s.get (bI b)).eE:=by
 show(s.hA++ig s)[b]?=_
 rw[List.getElem?_append_left (by rw[o3];exact h),si,if_pos h]
theorem Iq (h:kg s=true):(s.ap n).H.length=s.be:=by
 show(s.hA++ig s).length=_
 unfold ig;rw[h];simp[o3]
end
def FJ:Value→TV
 | .int k n=> .i k n
 | .bool b=> .b (match b with
  | true=> .t
  | false=> .f)
 | .string x=> .s x
 | .slice none 0 0=> .nil true true
 | .pointer none=> .o .gR
 | .nilIface=> .o .ht
 | _=> .u
theorem acV (v:Value):(FJ v).bp=qL v:=by
 unfold FJ qL
 split
 ·rfl
 ·rename_i b;cases b<;>rfl
 ·rfl
 ·rfl
 ·rfl
 ·rfl
 ·rename_i h1 h2 aD bj cl cC
  split
  ·exact absurd rfl (h1 _ _)
  ·exact absurd rfl (h2 _)
  ·exact absurd rfl (aD _)
  ·exact absurd rfl bj
  ·exact absurd rfl cl
  ·exact absurd rfl cC
  ·rfl
def cM (n:Nat) (s:TS):Operand→TV
 | .tmp t=>(match Nat.blt t n with
  | true=>s.get t
  | false=> .u)
 | .const v=>FJ v
 | .func f=> .fn f []
 | .global _=> .u
theorem mm [FZ] (n:Nat) (s:TS):ch (s.ap n).T=fun x=>(cM n s x).bp:=by
 funext x
 cases x with
 | tmp t=>
  show(s.ap n).T.getD t .undef=_
  rw[EK]
  unfold cM
  by_cases h:t<n
  ·have hb:Nat.blt t n=true:=by rw[Nat.blt_eq];exact h
   simp only[if_pos h,hb]
  ·have hb:Nat.blt t n=false:=by
    cases hb:Nat.blt t n with
    | true=>rw[Nat.blt_eq] at hb;exact absurd hb h
    | false=>rfl
   simp only[if_neg h,hb];rfl
 | const v=>exact(acV v).symm
 | func f=>rfl
 | global g=>rfl
def Sn (x:ey) (K:ey→aI):aI:=match x with
 | .t=>K .t
 | .f=>K .f
 | .v p=>K (.v p)
 | .at i p=>K (.at i p)
 | .n p=>K (.n p)
 | .c7 p q=>K (.c7 p q)
 | .or p q=>K (.or p q)
 | .ite p q r=>K (.ite p q r)
 | .zM p q=>K (.zM p q)
 | .ne p q=>K (.ne p q)
theorem aek (x:ey) (K:ey→aI):Sn x K=K x:=by cases x<;>rfl
def rF (v:TV) (K:TV→aI):aI:=match v with
 | .u=>K .u
 | .i k m=>K (.i k m)
 | .b x=>Sn x fun x=>K (.b x)
 | .s x=>K (.s x)
 | .l e xs f r=>K (.l e xs f r)
 | .nil f r=>K (.nil f r)
 | .ref p g m f=>K (.ref p g m f)
 | .ptr p g j m c=>K (.ptr p g j m c)
 | .lp t c=>K (.lp t c)
 | .dz e x c=>K (.dz e x c)
 | .agg c=>K (.agg c)
 | .tup c=>K (.tup c)
 | .fn f c=>K (.fn f c)
 | .o a=>K (.o a)
 | .blk g e xs m h=>K (.blk g e xs m h)
 | .dr g c=>K (.dr g c)
 | .lK g m ids=>K (.lK g m ids)
 | .hW V ids n h=>K (.hW V ids n h)
 | .new id xs=>K (.new id xs)
 | .zT w ids m n=>K (.zT w ids m n)
 | .zR w ids m j=>K (.zR w ids m j)
 | .D3 id m n=>K (.D3 id m n)
theorem sM (v:TV) (K:TV→aI):rF v K=K v:=by
 cases v with
 | b x=>exact aek x fun x=>K (.b x)
 | _=>rfl
def p7:(e:aR)→e.T→AV
 | .ptr e,x=> .dz (cy false e x) 0
 | .jj f .unit,_=> .fn f []
 | .jj f e,x=> .fn f [p7 e x]
 | e,x=>match e.isS with
  | true=> .agg (cy false e x)
  | false=>kA false e x
def pg:(es:List aR)→cL es→List AV
 | [],_=>[]
 | e::r,x=>p7 e x.1::pg r x.2
def p8 (e:aR) (x:e.T):AV:=match e.isS with
 | true=> .agg (cy true e x)
 | false=>kA true e x
def rC:(es:List aR)→cL es→List AV
 | [],_=>[]
 | e::r,x=>p8 e x.1::rC r x.2
def sH:(es:List aR)→cL es→AV
 | [e],x=>p8 e x.1
 | es,x=> .tup (rC es x)
def HS (e:aR) (x:e.T):TV:=match e.isS with
 | true=> .agg (kz true e x)
 | false=>EO true e x
def HT:(es:List aR)→cL es→List TV
 | [],_=>[]
 | e::r,x=>HS e x.1::HT r x.2
def HU:(es:List aR)→cL es→TV
 | [e],x=>HS e x.1
 | es,x=> .tup (HT es x)
theorem Yh (e:aR) (x:e.T):(HS e x).bp=p8 e x:=by
 unfold HS p8
 cases e.isS with
 | true=>show AV.agg (cU _)=_;rw[FA]
 | false=>exact Qk true e x
theorem Yi: ∀(es:List aR) (x:cL es),cU (HT es x)=rC es x
 | [],_=>rfl
 | e::r,x=>by rw[HT,cU,rC,Yh,Yi r]
theorem Oc (es:List aR) (x:cL es):(HU es x).bp=sH es x:=by
 match es,x with
 | [],x=>rfl
 | [e],x=>exact Yh e x.1
 | e::bZ::r,x=>show AV.tup (cU _)=_;rw[Yi];rfl
structure dl (P:Program) where
 f:FuncId
 ps:List aR
 rs:List aR
 pre:Option (cL ps→Prop)
 fn:cL ps→cL rs
 ok: ∀x,(match pre with
  | none=>True
  | some p=>p x)→bf P f (pg ps x) (sH rs (fn x))
def aco {e bZ:aR} (h:bZ=e) (x:bZ.T):e.T:=h▸x
def FI (bc:IntKind) (v:TV) (K:Int→List Prop→aI):aI:=match v with
 | .i k n=>if k=bc then K n [] else .no
 | _=> .no
def JR (v:TV) (K:Bool→List Prop→aI):aI:=match v with
 | .b x=>K x.den []
 | _=> .no
def JV (v:TV) (K:ByteArray→List Prop→aI):aI:=match v with
 | .s x=>K x []
 | _=> .no
def JQ (e:aR) (g n:Nat) (v:TV) (K:List e.T→List Prop→aI):aI:=match v with
 | .blk dD bZ xs kJ _=>if h:bZ=e then .eq dD g (.eq kJ n (K (ni h xs) [xs.length≤4611686018427387904])) else .no
 | _=> .no
def JW (s:TS) (e:aR) (g n:Nat) (v:TV) (K:List e.T→List Prop→aI):aI:=match v with
 | .lK dD m ids=>(match s.get dM with
  | .hW V dc bO _=>if h:aR.held=e then .eq dc ids (.eq dD 0 (.eq g 0 (.eq n bO (.eq m s.be (K (ni h V) [V.length≤4611686018427387904]))))) else .no
  | _=> .no)
 | v=>JQ e g n v K
def JT (s:TS) (e:aR) (v:TV) (K:List e.T→List Prop→aI):aI:=match v with
 | .l bZ xs _ _=>if h:bZ=e then K (ni h xs) [] else .no
 | .nil _ _=>K [] []
 | .ref b g n _=>(match Nat.blt b s.be with
  | true=>JW s e g n (s.get (bI b)) K
  | false=> .no)
 | _=> .no
def p4 (s:TS):(e:aR)→TV→(e.T→List Prop→aI)→aI
 | .int,v,K=>FI .i64 v K
 | .u64,v,K=>FI .u64 v K
 | .bool,v,K=>JR v K
 | .str,v,K=>JV v K
 | .l e,v,K=>JT s e v K
 | _,_,_=> .no
def CO (s:TS):(es:List aR)→List TV→(cL es→List Prop→aI)→aI
 | [],[],K=>K () []
 | e::r,v::vs,K=>p4 s e v fun x o=>CO s r vs fun y ij=>K (x,y) (o++ij)
 | _,_,_=> .no
def p5 (s:TS) (e:aR) (v:TV) (K:e.T→List Prop→aI):aI:=match e.isS with
 | true=>(match v with
  | .agg c=>CO s e.bV c fun x o=>K (e.mk x) o
  | _=> .no)
 | false=>p4 s e v K
def JU (s:TS) (e:aR) (v:TV) (K:e.T→List Prop→aI):aI:=match v with
 | .lp t c=>(match Nat.beq c 0 with
  | true=>(match l3 s.vs t with
   | some m=>CO s e.bV (iI s t 0 m) fun x o=>K (e.mk x) o
   | none=> .no)
  | false=> .no)
 | .dz bZ x c=>(match Nat.beq c 0 with
  | true=>if h:bZ=e then K (aco h x) [] else .no
  | false=> .no)
 | _=> .no
def JS (f:Nat) (v:TV) (K:Unit→List Prop→aI):aI:=match v with
 | .fn g c=>(match Nat.beq f g with
  | true=>(match c with
   | []=>K () []
   | _=> .no)
  | false=> .no)
 | _=> .no
def FH (f:Nat) (v:TV) (K:TV→aI):aI:=match v with
 | .fn g c=>(match Nat.beq f g with
  | true=>(match c with
   | [w]=>K w
   | _=> .no)
  | false=> .no)
 | _=> .no
def conv (s:TS):(e:aR)→TV→(e.T→List Prop→aI)→aI
 | .ptr e,v,K=>JU s e v K
 | .jj f .unit,v,K=>JS f v K
 | .jj f e,v,K=>FH f v fun w=>match e.isS with
  | true=> .no
  | false=>conv s e w K
 | .a1,v,K=>p5 s .a1 v K
 | .e6,v,K=>p5 s .e6 v K
 | .eL,v,K=>p5 s .eL v K
 | .ll,v,K=>p5 s .ll v K
 | .dx,v,K=>p5 s .dx v K
 | .held,v,K=>p5 s .held v K
 | .frame,v,K=>p5 s .frame v K
 | .done,v,K=>p5 s .done v K
 | .fault,v,K=>p5 s .fault v K
 | .stays,v,K=>p5 s .stays v K
 | .hV,v,K=>p5 s .hV v K
 | .int,v,K=>p4 s .int v K
 | .u64,v,K=>p4 s .u64 v K
 | .u8,v,K=>p4 s .u8 v K
 | .bool,v,K=>p4 s .bool v K
 | .str,v,K=>p4 s .str v K
 | .unit,v,K=>p4 s .unit v K
 | .nat,v,K=>p4 s .nat v K
 | .l e,v,K=>p4 s (.l e) v K
def JL (s:TS):(es:List aR)→List TV→(cL es→List Prop→aI)→aI
 | [],[],K=>K () []
 | e::r,v::vs,K=>conv s e v fun x o=>JL s r vs fun y ij=>K (x,y) (o++ij)
 | _,_,_=> .no
section
variable {n:Nat} {s:TS} {R:Exit→TS→Prop}
theorem acs {L:List (Nat×List AV)} {H:List Blk} (e:aR) (x:e.T):qC L H (cy true e x) (cy false e x):=by
 rw[←pf,←pf]
 have key: ∀(es:List aR) (y:cL es),qC L H (jV true es y) (jV false es y):=by
  intro es
  induction es with
  | nil=>intro y;exact .nil
  | cons e r bz=>
   intro y
   refine .cons ?_ (bz y.2)
   cases e<;>first | exact .int _ _ | exact .bool _ | exact .str _ | exact cW | exact .undef _
 exact key _ _
end
section
variable {n:Nat} {s:TS} {R:Exit→TS→Prop}
theorem RG {k:IntKind} {v:TV} {K:Int→List Prop→aI} (h:(FI k v K).den R): ∃m,v= .i k m∧(K m []).den R:=by
 unfold FI at h
 split at h
 ·split at h
  ·rename_i e;subst e;exact⟨_,rfl,h⟩
  ·exact h.elim
 ·exact h.elim
end
section
variable {n:Nat} {s:TS} {R:Exit→TS→Prop}
theorem acP {v:TV} {K:Bool→List Prop→aI} (h:(JR v K).den R): ∃x,v= .b x∧(K x.den []).den R:=by
 unfold JR at h
 split at h
 ·exact⟨_,rfl,h⟩
 ·exact h.elim
end
section
variable {n:Nat} {s:TS} {R:Exit→TS→Prop}
theorem acU {v:TV} {K:ByteArray→List Prop→aI} (h:(JV v K).den R): ∃x,v= .s x∧(K x []).den R:=by
 unfold JV at h
 split at h
 ·exact⟨_,rfl,h⟩
 ·exact h.elim
end
section
variable {n:Nat} {s:TS} {R:Exit→TS→Prop}
theorem acO {e:aR} {g m:Nat} {v:TV} {K:List e.T→List Prop→aI} (h:(JQ e g m v K).den R): ∃xs,∃hx:xs.length=m,v= .blk g e xs m hx∧(K xs [xs.length≤4611686018427387904]).den R:=by
 unfold JQ at h
 split at h
 ·rename_i dD bZ xs kJ hx
  split at h
  ·rename_i bw
   subst bw
   obtain⟨h1,h2,h⟩:=h
   subst h1;subst h2
   exact⟨xs,hx,rfl,h⟩
  ·exact h.elim
 ·exact h.elim
end
section
variable {n:Nat} {s:TS} {R:Exit→TS→Prop}
theorem amH {L:List (Nat×List AV)} {H:List Blk} {a b:AV} (h:df L H a b) (hb: ∀l,b≠ .agg l):gN L H a b:=by
 rcases h with⟨l,fQ,_,e,_⟩ | h
 ·exact absurd e (hb fQ)
 ·exact h
end
section
variable {n:Nat} {s:TS} {R:Exit→TS→Prop}
theorem adj (fr:Bool) (e:aR) (x:e.T): ∀l,kA fr e x≠ .agg l:=by
 intro l h;cases e<;>cases h
end
section
variable {n:Nat} {s:TS} {R:Exit→TS→Prop}
theorem acQ {f:Nat} {v:TV} {K:Unit→List Prop→aI} (h:(JS f v K).den R):v= .fn f []∧(K () []).den R:=by
 unfold JS at h
 split at h
 ·split at h
  ·rename_i hf
   obtain rfl:=Nat.eq_of_beq_eq_true hf
   split at h
   ·exact⟨rfl,h⟩
   ·exact h.elim
  ·exact h.elim
 ·exact h.elim
end
section
variable {n:Nat} {s:TS} {R:Exit→TS→Prop}
theorem acR {f:Nat} {v:TV} {K:TV→aI} (h:(FH f v K).den R): ∃w,v= .fn f [w]∧(K w).den R:=by
 unfold FH at h
 split at h
 ·split at h
  ·rename_i hf
   obtain rfl:=Nat.eq_of_beq_eq_true hf
   split at h
   ·exact⟨_,rfl,h⟩
   ·exact h.elim
  ·exact h.elim
 ·exact h.elim
end
section
variable {n:Nat} {s:TS} {R:Exit→TS→Prop}
theorem adn {e:aR} (h:e.isS=false) (x:e.T): ∀l,p7 e x≠ .agg l:=by
 intro l
 cases e with
 | jj f e=>cases e<;>(intro h;cases h)
 | ptr e=>intro h;cases h
 | _=>first | (cases h;done) | exact adj false _ x l
end
section
variable [FZ] {n:Nat} {s:TS} {R:Exit→TS→Prop}
theorem tQ {V:List av} {ids:List Nat} {bO:Nat} {hv:V.length=bO} (hk:s.get dM= .hW V ids bO hv):(s.ap n).H=s.hA++List.map br ‹FZ›.bs:=by
 show s.hA++ig s=_
 unfold ig kg
 rw[hk]
theorem R8 {V:List av} {ids:List Nat} {bO:Nat} {hv:V.length=bO} (hk:s.get dM= .hW V ids bO hv) {id:Nat} {k:Blk} (h:(List.map br ‹FZ›.bs)[id]?=some k):(s.ap n).H[id+s.be]?=some k:=by
 rw[tQ hk,List.getElem?_append_right (by rw[o3];omega),o3,Nat.add_sub_cancel];exact h
variable (az:Fits s)
include az in
theorem acW {e:aR} {b g m:Nat} {dP:Bool} {K:List e.T→List Prop→aI} (hb:b<s.be) (h:(JW s e g m (s.get (bI b)) K).den R): ∃x o,(K x o).den R∧((∀φ∈o,φ)→gN (s.ap n).L (s.ap n).H (.ref b g 0 m dP) (.aZ (List.map (cy false e) x) false false)):=by
 unfold JW at h
 split at h
 ·rename_i dD iA ids aE
  split at h
  ·rename_i V dc bO lY hk
   split at h
   ·rename_i he
    subst he
    obtain⟨h1,h2,aD,bj,cl,h⟩:=h
    subst h1;subst h2;subst aD;subst bj;subst cl;subst lY
    refine⟨_,_,h,fun an=> ?_⟩
    have aw:=an _ (List.mem_singleton.2 rfl)
    obtain⟨q1,q2,q3⟩:=az V dc _ _ hk
    have pt:V.length= ‹FZ›.ws.length:=by rw[←q2];exact jJ q1.ok
    have:=wC (L:=(s.ap n).L) (H:=(s.ap n).H) (b:=b) (s:=s.be) (n:=V.length) (full:=dP) (ws:= ‹FZ›.ws) (ids:=dc) (bs:= ‹FZ›.bs) pt (by rw[u3 hb,aE];rfl) (fun id k kC=>R8 hk kC) q1.ok (by omega) (fun x hx=>by have:=q1.len x hx;omega)
    rw[q2] at this
    exact this
   ·exact h.elim
  ·exact h.elim
 ·obtain⟨xs,hx,aE,h'⟩:=acO h
  subst hx
  refine⟨_,_,h',fun an=> ?_⟩
  have aw:=an _ (List.mem_singleton.2 rfl)
  exact Yz (eT:=cy true e) (by rw[u3 hb,aE];rfl) (fun x=>acs e x) aw
include az in
theorem acS {e:aR} {v:TV} {K:List e.T→List Prop→aI} (h:(JT s e v K).den R): ∃x o,(K x o).den R∧((∀φ∈o,φ)→gN (s.ap n).L (s.ap n).H v.bp (.aZ (List.map (cy false e) x) false false)):=by
 unfold JT at h
 split at h
 ·split at h
  ·rename_i bw;subst bw;exact⟨_,_,h,fun _=>cW⟩
  ·exact h.elim
 ·exact⟨_,_,h,fun _=>by rw[List.map_nil];exact cW⟩
 ·rename_i b g b5 dP
  split at h
  ·rename_i hb
   exact acW az (by rw[←Nat.blt_eq];exact hb) h
  ·exact h.elim
 ·exact h.elim
include az in
theorem JK {e:aR} {v:TV} {K:e.T→List Prop→aI} (h:(p4 s e v K).den R): ∃x o,(K x o).den R∧((∀φ∈o,φ)→gN (s.ap n).L (s.ap n).H v.bp (kA false e x)):=by
 cases e with
 | int=>obtain⟨m,rfl,h⟩:=RG h;exact⟨m,_,h,fun _=> .int _ _⟩
 | u64=>obtain⟨m,rfl,h⟩:=RG h;exact⟨m,_,h,fun _=> .int _ _⟩
 | bool=>obtain⟨x,rfl,h⟩:=acP h;exact⟨_,_,h,fun _=> .bool _⟩
 | str=>obtain⟨x,rfl,h⟩:=acU h;exact⟨_,_,h,fun _=> .str _⟩
 | l e=>exact acS az h
 | _=>exact h.elim
include az in
theorem FF: ∀{es:List aR} {vs:List TV} {K:cL es→List Prop→aI},(CO s es vs K).den R→ ∃x o,(K x o).den R∧((∀φ∈o,φ)→ak (gN (s.ap n).L (s.ap n).H) (cU vs) (jV false es x))
 | [],[],K,h=>⟨(),[],h,fun _=>ak.nil⟩
 | e::r,v::vs,K,h=>by
  obtain⟨x,o,h,dA⟩:=JK az (n:=n) (show(p4 s e v _).den R from h)
  obtain⟨y,ij,h,g_⟩:=FF h
  exact⟨(x,y),o++ij,h,fun an=>ak.cons (dA fun φ e7=>an φ (List.mem_append_left _ e7)) (g_ fun φ e7=>an φ (List.mem_append_right _ e7))⟩
 | [],_::_,K,h=>h.elim
 | _::_,[],K,h=>h.elim
include az in
theorem acL {e:aR} {v:TV} {K:e.T→List Prop→aI} (h:(p5 s e v K).den R): ∃x o,(K x o).den R∧((∀φ∈o,φ)→df (s.ap n).L (s.ap n).H v.bp (match e.isS with
  | true=> .agg (cy false e x)
  | false=>kA false e x)):=by
 unfold p5 at h
 cases ds:e.isS with
 | true=>
  rw[ds] at h
  simp only at h
  split at h
  ·rename_i c
   obtain⟨x,o,h,k⟩:=FF az (n:=n) h
   refine⟨_,o,h,fun an=> ?_⟩
   show df _ _ (.agg (cU c)) (.agg (cy false e (e.mk x)))
   rw[←pf,aR.aax]
   exact df.agg (k an)
  ·exact h.elim
 | false=>
  rw[ds] at h
  obtain⟨x,o,h,k⟩:=JK az (n:=n) (show(p4 s e v K).den R from h)
  exact⟨x,o,h,fun an=> .inr (k an)⟩
include az in
theorem acT {e:aR} {v:TV} {K:e.T→List Prop→aI} (h:(JU s e v K).den R): ∃x o,(K x o).den R∧((∀φ∈o,φ)→df (s.ap n).L (s.ap n).H v.bp (.dz (cy false e x) 0)):=by
 unfold JU at h
 split at h
 ·rename_i t c
  split at h
  ·rename_i hc
   obtain rfl:=Nat.eq_of_beq_eq_true hc
   split at h
   ·rename_i m hm
    obtain⟨x,o,h,k⟩:=FF az (n:=n) h
    refine⟨_,o,h,fun an=> .inr ?_⟩
    have k:=k an
    show gN _ _ (.fS t 0) (.dz (cy false e (e.mk x)) 0)
    rw[←pf,aR.aax]
    exact .fS (cells:=cU (iI s t 0 m)) (by rw[yZ,hm];rfl) k.1 k.2
   ·exact h.elim
  ·exact h.elim
 ·rename_i bZ x c
  split at h
  ·rename_i hc
   obtain rfl:=Nat.eq_of_beq_eq_true hc
   split at h
   ·rename_i bw;subst bw;exact⟨_,_,h,fun _=> .inr (.dz _ _)⟩
   ·exact h.elim
  ·exact h.elim
 ·exact h.elim
include az in
theorem JM: ∀{e:aR} {v:TV} {K:e.T→List Prop→aI},(conv s e v K).den R→ ∃x o,(K x o).den R∧((∀φ∈o,φ)→df (s.ap n).L (s.ap n).H v.bp (p7 e x)):=by
 intro e
 induction e with
 | ptr e bz=>intro v K h;exact acT az h
 | jj f e bz=>
  intro v K h
  have key:(∀x,p7 (.jj f e) x= .fn f [p7 e x])→(FH f v fun w=>match e.isS with
   | true=> .no
   | false=>conv s e w K).den R→ ∃x o,(K x o).den R∧((∀φ∈o,φ)→df (s.ap n).L (s.ap n).H v.bp (p7 (.jj f e) x)):=by
   intro he h
   obtain⟨w,rfl,h'⟩:=acR h
   cases ds:e.isS with
   | true=>rw[ds] at h';exact h'.elim
   | false=>
    rw[ds] at h'
    obtain⟨x,o,h2,k⟩:=bz h'
    refine⟨x,o,h2,fun an=> .inr ?_⟩
    rw[he]
    refine gN.fn (caps:=[w.bp]) rfl fun j a b h1 h2=> ?_
    cases j with
    | zero=>cases h1;cases h2;exact amH (k an) (adn ds x)
    | succ j=>cases h1
  cases e with
  | unit=>
   obtain⟨rfl,h'⟩:=acQ h
   exact⟨(),[],h',fun _=> .inr (gN.fn (caps:=[]) rfl fun j a b h1 _=>by cases h1)⟩
  | _=>exact key (fun x=>rfl) h
 | _=>
  intro v K h
  first
  | exact acL az (n:=n) h
  | (obtain⟨x,o,h,k⟩:=JK az (n:=n) h;exact⟨x,o,h,fun an=> .inr (k an)⟩)
include az in
theorem RA: ∀{es:List aR} {vs:List TV} {K:cL es→List Prop→aI},(JL s es vs K).den R→ ∃x o,(K x o).den R∧((∀φ∈o,φ)→ak (df (s.ap n).L (s.ap n).H) (cU vs) (pg es x))
 | [],[],K,h=>⟨(),[],h,fun _=>ak.nil⟩
 | e::r,v::vs,K,h=>by
  obtain⟨x,o,h,dA⟩:=JM az (n:=n) (show(conv s e v _).den R from h)
  obtain⟨y,ij,h,g_⟩:=RA h
  exact⟨(x,y),o++ij,h,fun an=>ak.cons (dA fun φ e7=>an φ (List.mem_append_left _ e7)) (g_ fun φ e7=>an φ (List.mem_append_right _ e7))⟩
 | [],_::_,K,h=>h.elim
 | _::_,[],K,h=>h.elim
end
def HA (l:List Prop) (t:aI):aI:=match l with
 | []=>t
 | l=> .p (sF l) t
theorem Rz: ∀{l:List Prop},sF l→ ∀φ∈l,φ
 | [],_,φ,h=>by cases h
 | [a],hc,φ,h=>by rw[List.mem_singleton.1 h];exact hc
 | a::b::r,hc,φ,h=>by
  have hc:a∧sF (b::r):=hc
  rcases List.mem_cons.1 h with rfl | h
  ·exact hc.1
  ·exact Rz hc.2 φ h
theorem Xm {l:List Prop} {t:aI} {R:Exit→TS→Prop} (h:(HA l t).den R):(∀φ∈l,φ)∧t.den R:=by
 unfold HA at h
 split at h
 ·exact⟨(fun φ h=>by cases h),h⟩
 ·exact⟨Rz h.1,h.2⟩
def F_ {P:Program}:List (dl P)→FuncId→(dl P→aI)→aI
 | [],_,_=> .no
 | c::r,f,K=>match Nat.beq c.f f with
  | true=>K c
  | false=>F_ r f K
def AY:TV→Bool
 | .tup _=>false
 | .o a=>e9 a
 | _=>true
theorem Hs {v:TV} (h:AY v=true):e9 v.bp=true:=by cases v<;>first | rfl | exact h | cases h
def NQ {P:Program} (c:dl P) (x:cL c.ps):List Prop:=match c.pre with
 | none=>[]
 | some p=>[p x]
def Jr {P:Program} (nH:List (dl P)) (f:FuncId) (args:List TV) (s:TS) (K:TV→aI):aI:=match args.all AY with
 | false=> .no
 | true=>F_ nH f fun c=>JL s c.ps args fun x o=>HA (o++NQ c x) (K (HU c.rs (c.fn x)))
theorem Se {P:Program} {f:FuncId} {K:dl P→aI} {R:Exit→TS→Prop}: ∀{nH:List (dl P)},(F_ nH f K).den R→ ∃c,c.f=f∧(K c).den R
 | [],h=>h.elim
 | c::r,h=>by
  unfold F_ at h
  split at h
  ·rename_i hf;exact⟨c,Nat.eq_of_beq_eq_true hf,h⟩
  ·exact Se h
theorem acm [FZ] {P:Program} {nH:List (dl P)} {f:FuncId} {args:List TV} {s:TS} {K:TV→aI} {R:Exit→TS→Prop} {n:Nat} {Kp:AV→Prop} (az:Fits s) (hK: ∀v,(K v).den R→Kp v.bp) (h:(Jr nH f args s K).den R):
  qK P f (cU args) (s.ap n).L (s.ap n).H Kp:=by
 unfold Jr at h
 split at h
 ·exact h.elim
 ·rename_i af
  obtain⟨c,rfl,h1⟩:=Se h
  obtain⟨x,o,h2,k⟩:=RA az (n:=n) h1
  obtain⟨an,aD⟩:=Xm h2
  refine⟨?_,_,_,k fun φ e7=>an φ (List.mem_append_left _ e7),c.ok x ?_,?_⟩
  ·rw[List.all_eq_true] at af ⊢
   intro a ar
   rw[p1] at ar
   obtain⟨v,hv,rfl⟩:=List.mem_map.1 ar
   exact Hs (af v hv)
  ·have ab: ∀φ∈NQ c x,φ:=fun φ e7=>an φ (List.mem_append_right _ e7)
   unfold NQ at ab
   revert ab
   cases c.pre with
   | none=>intro _;trivial
   | some p=>intro ab;exact ab _ (List.mem_singleton.2 rfl)
  ·rw[←Oc];exact hK _ aD
inductive EY:Type 1 where
 | no
 | v (x:TV)
 | c (φ:Prop) (x:TV)
 | bg (φ ψ:Prop) (x:TV)
def tY (F:List Blk→(AV→Prop)→Prop) (K:TV→aI):EY→aI
 | .no=> .no
 | .v x=> .eq F (fun _ Q=>Q x.bp) (rF x K)
 | .c φ x=> .eq F (fun _ Q=>φ∧Q x.bp) (.p φ (rF x K))
 | .bg φ ψ x=> .eq F (fun _ Q=>φ∧ψ∧Q x.bp) (.p (φ∧ψ) (rF x K))
theorem vr {F:List Blk→(AV→Prop)→Prop} (H:List Blk) {K:TV→aI} {g:EY} {R:Exit→TS→Prop} {Kp:AV→Prop} (hK: ∀v,(K v).den R→Kp v.bp) (h:(tY F K g).den R):F H Kp:=by
 cases g with
 | no=>exact h.elim
 | v x=>obtain⟨e,h⟩:=h;rw[sM] at h;rw[e];exact hK _ h
 | c φ x=>obtain⟨e,h1,h⟩:=h;rw[sM] at h;rw[e];exact⟨h1,hK _ h⟩
 | bg φ ψ x=>obtain⟨e,h1,h⟩:=h;rw[sM] at h;rw[e];exact⟨h1.1,h1.2,hK _ h⟩
def sE:TV→List TV
 | .agg c=>c
 | v=>[v]
def y4 (P:Program) (t:TypeId) (cells:List TV) (c:Nat):TV:=match AM P t with
 | true=> .agg ((cells.drop c).take (P.cellsOf t))
 | false=>cells.getD c .u
def aex (op:BinOp) (x y:TV):EY:=match x with
 | .i k a=>(match y with
  | .i _ b=>(match op with
   | .add=> .v (.i k (k.wrap (a+b)))
   | .sub=> .v (.i k (k.wrap (a - b)))
   | .mul=> .v (.i k (k.wrap (a*b)))
   | .quo=> .c (b≠0) (.i k (k.wrap (a.tdiv b)))
   | .rem=> .c (b≠0) (.i k (a.tmod b))
   | .and=> .v (.i k (k.wrap (BitVec.ofInt k.bits a&&&BitVec.ofInt k.bits b).toNat))
   | .shl=> .c (0≤b) (.i k (k.wrap (a*2 ^ (min b.toNat k.bits))))
   | .shr=> .c (0≤b) (.i k (a.fdiv (2 ^ (min b.toNat k.bits))))
   | .eql=> .v (.b (.v (a==b)))
   | .neq=> .v (.b (.v (a !=b)))
   | .lss=> .v (.b (.v (decide (a<b))))
   | .leq=> .v (.b (.v (decide (a≤b))))
   | .gtr=> .v (.b (.v (decide (a>b))))
   | .geq=> .v (.b (.v (decide (a ≥ b))))
   | _=> .no)
  | _=> .no)
 | .b p=>(match y with
  | .b q=>(match op with
   | .eql=> .v (.b (.zM p q))
   | .neq=> .v (.b (.ne p q))
   | _=> .no)
  | _=> .no)
 | .s p=>(match y with
  | .s q=>(match op with
   | .add=> .c (p.size+q.size≤9223372036854775807) (.s (p++q))
   | .eql=> .v (.b (.v (p.toList==q.toList)))
   | .neq=> .v (.b (.v (!(p.toList==q.toList))))
   | _=> .no)
  | _=> .no)
 | .agg l=>(match y with
  | .agg m=>(match l,m with
   | [.i _ a,.i _ b],[.i _ c,.i _ d]=>(match op with
    | .eql=> .v (.b (.v (a==c&&b==d)))
    | .neq=> .v (.b (.v (!(a==c&&b==d))))
    | _=> .no)
   | _,_=> .no)
  | _=> .no)
 | _=> .no
def EU (P:Program) (t:TypeId):List TV:=match(P.info? t).bind (·.zero) with
 | some z=>z.cells.toList.map FJ
 | none=>[]
def R_ (pl:List (Nat×Nat)) (cells:List TV):List (Nat×TV)→List TV
 | []=>cells
 | (i,v)::r=>match pl[i]? with
  | some p=>R_ pl (cells.take p.1++sE v++cells.drop (p.1+(sE v).length)) r
  | none=>cells
def aeq (e:aR) (v:TV):e.T:=match e.isS with
 | true=>e.mk (rH e.bV (sE v))
 | false=>KC e v
def aem:TV→Bool
 | .l _ _ _ fr=>fr
 | .nil _ fr=>fr
 | .agg c=>c.all fun v=>match v with
  | .l _ _ _ fr=>fr
  | .nil _ fr=>fr
  | _=>true
 | _=>true
def Wy (e:aR) (xs:List e.T) (l:List TV):TV:=match l with
 | []=> .nil true true
 | l=> .l e xs true (l.all aem)
def Hb (s:TS) (e:aR):List TV→(List e.T→aI)→aI
 | [],K=>K []
 | v::r,K=>conv s e v fun x _=>Hb s e r fun xs=>K (x::xs)
theorem Nl [FZ] {n:Nat} {s:TS} {e:aR} {R:Exit→TS→Prop} (az:Fits s): ∀{l:List TV} {K:List e.T→aI},(Hb s e l K).den R→ ∃xs,(K xs).den R
 | [],K,h=>⟨_,h⟩
 | v::r,K,h=>by
  obtain⟨x,o,h,_⟩:=JM az (n:=n) (show(conv s e v _).den R from h)
  obtain⟨xs,h⟩:=Nl (n:=n) az h
  exact⟨_,h⟩
def AP:List (Nat×aR)→Nat→(aR→aI)→aI
 | [],_,_=> .no
 | (k,e)::r,t,K=>match Nat.beq k t with
  | true=>K e
  | false=>AP r t K
structure h0 (P:Program) where
 n:Nat
 J7:List (Nat×aR)
 nH:List (dl P)
section
variable {P:Program} (cf:h0 P) (s:TS)
def gs (P:Program) (n:Nat) (s:TS) (op:Op):EY:=match op with
 | .nilCheck x=> .v (cM n s x)
 | .load t a=>(match cM n s a with
  | .lp v c=>(match l3 s.vs v with
   | some m=> .v (y4 P t (iI s v 0 m) c)
   | none=> .no)
  | .dz e x c=> .v (y4 P t (kz false e x) c)
  | _=> .no)
 | .fieldAddr t x f=>(match F4 P t f with
  | some fd=>(match cM n s x with
   | .lp v c=> .v (.lp v (c+fd.offset))
   | .dz e x c=> .v (.dz e x (c+fd.offset))
   | .ptr b g i m c=> .v (.ptr b g i m (c+fd.offset))
   | _=> .no)
  | none=> .no)
 | .unOp op _ x=>(match cM n s x with
  | .b z=>(match op with
   | .not=> .v (.b z.not)
   | _=> .no)
  | .i k m=>(match op with
   | .neg=> .v (.i k (k.wrap (0 - m)))
   | _=> .no)
  | _=> .no)
 | .convert _ d x=>(match cM n s x with
  | .i _ m=>(match AL P d with
   | some k=> .v (.i k (k.wrap m))
   | none=> .no)
  | _=> .no)
 | .binOp op _ x y _=>aex op (cM n s x) (cM n s y)
 | .build t ps=>(match NL P t with
  | some pl=> .v (.agg (R_ pl (EU P t) (ps.toList.map fun p=>(p.1,cM n s p.2))))
  | none=> .no)
 | .index _ x i=>(match cM n s x with
  | .s z=>(match cM n s i with
   | .i _ m=> .bg (0≤m) (m<z.size) (.i .u8 (z.data.getD m.toNat 0).toNat)
   | _=> .no)
  | _=> .no)
 | .extract x i=>(match cM n s x with
  | .tup l=> .v (l.getD i .u)
  | _=> .no)
 | .makeFunc fn _ caps=>(match fn with
  | .func f=> .v (.fn f (caps.toList.map (cM n s)))
  | _=> .no)
 | _=> .no
def vH (P:Program) (t:TypeId):Option Nat:=match j_ P t with
 | some e=>(match(P.info? e).isSome with
  | true=>some (P.cellsOf e)
  | false=>none)
 | none=>none
theorem Au {P:Program} {t:TypeId} {m:Nat} (h:vH P t=some m): ∃e,j_ P t=some e∧(P.info? e).isSome=true∧P.cellsOf e=m:=by
 unfold vH at h
 split at h
 ·rename_i e he
  split at h
  ·rename_i hi;exact⟨e,he,hi,Option.some.inj h⟩
  ·cases h
 ·cases h
def tO (s:TS) (b g:Nat) (K:(e:aR)→(xs:List e.T)→(m:Nat)→xs.length=m→aI):aI:=match Nat.blt b s.be with
 | true=>(match s.get (bI b) with
  | .blk dD e xs m h=> .eq dD g (K e xs m h)
  | _=> .no)
 | false=> .no
theorem zy [FZ] {n:Nat} {s:TS} {b g:Nat} {K:(e:aR)→(xs:List e.T)→(m:Nat)→xs.length=m→aI} {R:Exit→TS→Prop} (h:(tO s b g K).den R):
  ∃e xs m hm,(K e xs m hm).den R∧b<s.be∧(s.ap n).H[b]?=some ⟨g,e.kK,xs.map (cy true e)⟩:=by
 unfold tO at h
 split at h
 ·rename_i hb
  have hb:b<s.be:=by rw[←Nat.blt_eq];exact hb
  split at h
  ·rename_i dD e xs m hm aE
   obtain⟨h1,h⟩:=h
   subst h1
   exact⟨e,xs,m,hm,h,hb,by rw[u3 hb,aE];rfl⟩
  ·exact h.elim
 ·exact h.elim
def FC (V:List av) (ids:List Nat) (m:Nat) (i:Int):List TV:=[.i .i64 (nth V i).aJ,.i .i64 (nth V i).ba,.zT i ids m (nth V i).ae.length,.b (.v (nth V i).bS),.i .i64 (nth V i).bR]
theorem IE {ws:List av} {ids:List Nat} {bs:List (List Bool)} {i:Int} (ok:me ws ids bs) (h:i.toNat<(view ws ids bs).length):nth (view ws ids bs) i={nth ws i with ae:=bs.getD (nth ids i) []}:=by
 have aw:=jJ ok
 have h1:=h7 (xs:=ws) (i:=i) (by omega)
 have h2:=h7 (xs:=ids) (i:=i) (by have:=ok.len;omega)
 have:=wS (bs:=bs) h1 h2
 rw[h7 h] at this
 exact Option.some.inj this
theorem alJ [Z:FZ] {V:List av} {ids:List Nat} {m:Nat} {i:Int} (G:gL Z.ws ids Z.bs) (e:view Z.ws ids Z.bs=V) (h:i.toNat<V.length):(aU m Z.ws ids)[i.toNat]?=some (cU (FC V ids m i)):=by
 subst e
 have aw:=jJ G.ok
 have afG:=G.ok.len
 rw[dK afG (by omega)]
 have hb:=G.ok.ae i.toNat _ _ (h7 (xs:=Z.ws) (i:=i) (by omega)) (h7 (xs:=ids) (i:=i) (by omega))
 unfold FC
 rw[IE G.ok h]
 show some (mQ m (nth Z.ws i) (nth ids i))=some _
 unfold mQ
 rw[hb];rfl
def LL (P:Program) (t:TypeId) (b g m:Nat) (i:Int) (s:TS) (v:TV) (K:TV→aI):aI:=match v with
 | .lK dD _ _=>(match Nat.blt b s.be with
  | true=> .eq dD g (.eq (vH P t) (some 5) (.p (0≤i∧i.toNat<m) (K (.ptr b g i m 0))))
  | false=> .no)
 | _=>tO s b g fun e _ _ _=> .eq (vH P t) (some e.kK) (.p (0≤i∧i.toNat<m) (K (.ptr b g i m 0)))
def LM (P:Program) (t:TypeId) (w:Int) (ids:List Nat) (m k:Nat) (i:Int) (s:TS) (K:TV→aI):aI:=match s.get dM with
 | .hW V dc _ _=> .eq dc ids (.eq m s.be (.eq (vH P t) (some 1) (.p (w.toNat<V.length∧0≤i∧i.toNat<k) (K (.zR w ids m i)))))
 | _=> .no
def LN (P:Program) (t:TypeId) (x i:TV) (s:TS) (K:TV→aI):aI:=match i with
 | .i _ i=>(match x with
  | .l e xs _ _=> .eq (vH P t) (some e.kK) (.p (0≤i∧i.toNat<xs.length) (K (.dz e (v_ e xs i) 0)))
  | .ref b g m _=>LL P t b g m i s (s.get (bI b)) K
  | .zT w ids m k=>LM P t w ids m k i s K
  | _=> .no)
 | _=> .no
def Nd (P:Program) (t:TypeId) (w:Int) (ids:List Nat) (m:Nat) (j:Int) (s:TS) (K:TV→aI):aI:=match s.get dM with
 | .hW V dc _ _=> .eq dc ids (.eq m s.be (.p (w.toNat<V.length∧j.toNat<(nth V w).ae.length) (tY (fun _ Q=>ko P t [AV.bool (nth (nth V w).ae j)] 0 Q) K (.v (y4 P t [.b (.v (nth (nth V w).ae j))] 0)))))
 | _=> .no
def Nf (P:Program) (t:TypeId) (b g:Nat) (i:Int) (m c:Nat) (s:TS) (K:TV→aI):aI:=match s.get (bI b) with
 | .lK dD iA ids=>(match Nat.blt b s.be with
  | true=>(match s.get dM with
   | .hW V dc _ _=> .eq dD g (.eq dc ids (.p (i.toNat<V.length) (tY (fun _ Q=>ko P t (cU (FC V ids iA i)) c Q) K (.v (y4 P t (FC V ids iA i) c)))))
   | _=> .no)
  | false=> .no)
 | .dr dD al=>(match Nat.blt b s.be with
  | true=> .eq dD g (.eq i 0 (tY (fun _ Q=>ko P t (cU al) c Q) K (.v (y4 P t al c))))
  | false=> .no)
 | _=>tO s b g fun e xs fK _=> .eq fK m (.p (i.toNat<m) (tY (fun _ Q=>ko P t (cy true e (v_ e xs i)) c Q) K (.v (y4 P t (kz true e (v_ e xs i)) c))))
def Ox (P:Program) (t:TypeId) (x:TV) (lo hi:Option TV) (K:TV→aI):aI:=match x with
 | .l e xs _ fr=>(match lo with
  | none=>(match hi with
   | some (.i _ b)=> .eq (vH P t) (some e.kK) (.p (0≤b∧b≤(xs.length:Int)) (K (.l e (xs.take b.toNat) false fr)))
   | _=> .no)
  | some (.i _ a)=>(match hi with
   | none=> .eq (vH P t) (some e.kK) (.p (0≤a∧a≤(xs.length:Int)) (K (.l e (xs.drop a.toNat) false fr)))
   | _=> .no)
  | _=> .no)
 | _=> .no
def Ng (P:Program) (t:TypeId) (x:TV) (K:TV→aI):aI:=match x with
 | .l _ xs _ _=> .eq (k1 P t x.bp) true (K (.i .i64 xs.length))
 | .nil _ _=> .eq (k1 P t x.bp) true (K (.i .i64 (0:Nat)))
 | .s z=> .eq (k1 P t x.bp) true (K (.i .i64 z.size))
 | .ref _ _ m _=> .eq (k1 P t x.bp) true (K (.i .i64 m))
 | .zT _ _ _ k=> .eq (k1 P t x.bp) true (K (.i .i64 k))
 | _=> .no
def uQ (o:Oper) (K:TV→aI):aI:=match o.op with
 | .move x=>rF (cM cf.n s x) K
 | .assign x=>rF (cM cf.n s x) K
 | .indexAddr t x i=>LN P t (cM cf.n s x) (cM cf.n s i) s K
 | .load t a=>(match cM cf.n s a with
  | .ptr b g i m c=>Nf P t b g i m c s K
  | .zR w ids m j=>Nd P t w ids m j s K
  | _=>tY (fun H Q=>kU P o (fun x=>(cM cf.n s x).bp) s.cj H Q) K (gs P cf.n s o.op))
 | .slice t x lo hi mx=>(match mx with
  | none=>Ox P t (cM cf.n s x) (lo.map (cM cf.n s)) (hi.map (cM cf.n s)) K
  | some _=> .no)
 | .call c=>(match c.callee with
  | .builtin b=>(match b with
   | .len=>(match c.args.toList,c.argTypes.toList with
    | [x],[t]=>Ng P t (cM cf.n s x) K
    | _,_=> .no)
   | _=> .no)
  | .value f=>(match cM cf.n s f with
   | .fn g caps=>Jr cf.nH g (c.args.toList.map (cM cf.n s)++caps) s K
   | _=> .no)
  | _=> .no)
 | .buildSlice t m ps=>AP cf.J7 t fun e=>Hb s e (ps.toList.map fun p=>cM cf.n s p.2) fun xs=>tY (fun H Q=>kU P o (fun x=>(cM cf.n s x).bp) s.cj H Q) K (.v (Wy e xs (ps.toList.map fun p=>cM cf.n s p.2)))
 | op=>tY (fun H Q=>kU P o (fun x=>(cM cf.n s x).bp) s.cj H Q) K (gs P cf.n s op)
end
theorem ND {e:aR} {xs:List e.T} {i:Int} (h:i.toNat<xs.length) (fr:Bool):(xs.map (cy fr e))[i.toNat]?=some (cy fr e (v_ e xs i)):=by
 rw[List.getElem?_map]
 have:xs[i.toNat]?=some (v_ e xs i):=by
  have:= @h7 e.T e.yb xs i h
  exact this
 rw[this];rfl
section
variable {P:Program} {cf:h0 P} {s:TS} {R:Exit→TS→Prop} {K:TV→aI} {Kp:AV→Prop}
theorem al9 {t:TypeId} {x:TV} {lo hi:Option TV} {H:List Blk} (hK: ∀v,(K v).den R→Kp v.bp) (h:(Ox P t x lo hi K).den R):yP P t x.bp (lo.map TV.bp) (hi.map TV.bp) H Kp:=by
 unfold Ox at h
 split at h
 ·rename_i e xs dP fr
  have ew: ∀{m:Nat},m=e.kK→ ∀(i:Nat) (row:List AV),(List.map (cy false e) xs)[i]?=some row→row.length=m:=fun hm i row aj=>by
   rw[List.getElem?_map] at aj
   cases hx:xs[i]? with
   | none=>rw[hx] at aj;cases aj
   | some x=>rw[hx] at aj;cases aj;rw[xf,hm]
  split at h
  ·split at h
   ·rename_i k b
    obtain⟨h1,h2,h⟩:=h
    obtain⟨pS,q1,q2,q3⟩:=Au h1
    refine ei q1 ?_
    rw[if_pos q2]
    refine⟨h2.1,Nat.zero_le _,by rw[List.length_map];omega,ew q3,?_⟩
    rw[List.drop_zero,Nat.sub_zero,←List.map_take];exact hK _ h
   ·exact h.elim
  ·split at h
   ·rename_i k a
    obtain⟨h1,h2,h⟩:=h
    obtain⟨pS,q1,q2,q3⟩:=Au h1
    refine ei q1 ?_
    rw[if_pos q2]
    refine⟨h2.1,by rw[List.length_map];omega,Nat.le_refl _,ew q3,?_⟩
    rw[List.take_of_length_le (by rw[List.length_drop];omega),←List.map_drop];exact hK _ h
   ·exact h.elim
  ·exact h.elim
 ·exact h.elim
end
section
variable {P:Program} {cf:h0 P} {s:TS} {R:Exit→TS→Prop} {K:TV→aI} {Kp:AV→Prop}
theorem ajO {t:TypeId} {x:TV} (hK: ∀v,(K v).den R→Kp v.bp) (h:(Ng P t x K).den R):e_ (k1 P t x.bp) (uG x.bp Kp):=by
 unfold Ng at h
 split at h
 ·obtain⟨h1,h⟩:=h
  rw[h1]
  show Kp (.int .i64 ((List.map _ _).length:Nat))
  rw[List.length_map];exact hK _ h
 ·obtain⟨h1,h⟩:=h;rw[h1];exact hK _ h
 ·obtain⟨h1,h⟩:=h;rw[h1];exact hK _ h
 ·obtain⟨h1,h⟩:=h;rw[h1];exact hK _ h
 ·obtain⟨h1,h⟩:=h;rw[h1];exact hK _ h
 ·exact h.elim
end
section
variable {P:Program} {cf:h0 P} {s:TS} {R:Exit→TS→Prop} {K:TV→aI} {Kp:AV→Prop}
theorem Nn {l:List (Nat×aR)} {t:Nat} {K:aR→aI} (h:(AP l t K).den R): ∃e,(K e).den R:=by
 induction l with
 | nil=>exact h.elim
 | cons p r bz=>
  obtain⟨k,e⟩:=p
  unfold AP at h
  split at h
  ·exact⟨e,h⟩
  ·exact bz h
end
section
variable [FZ] {P:Program} {cf:h0 P} {s:TS} {R:Exit→TS→Prop} {K:TV→aI} {Kp:AV→Prop}
variable (az:Fits s)
theorem agJ {t:TypeId} {b g m:Nat} {i:Int} {k:IntKind} {dP:Bool} (hK: ∀v,(K v).den R→Kp v.bp) (h:(LL P t b g m i s (s.get (bI b)) K).den R):At P t (.ref b g 0 m dP) (.int k i) (s.ap cf.n).H Kp:=by
 unfold LL at h
 split at h
 ·rename_i dD iA ids aE
  split at h
  ·rename_i hb
   have hb:b<s.be:=by rw[←Nat.blt_eq];exact hb
   obtain⟨h1,h2,aD,h⟩:=h
   subst h1
   obtain⟨pS,q1,q2,q3⟩:=Au h2
   refine ei q1 ?_
   rw[if_pos q2]
   refine ei (by rw[u3 hb,aE]) ⟨rfl,q3.symm,aD.1,by have:=aD.2;omega,?_⟩
   rw[Nat.zero_add];exact hK _ h
  ·exact h.elim
 ·obtain⟨e,xs,fK,hm,h,hb,ax⟩:=zy (n:=cf.n) h
  obtain⟨h1,h2,h⟩:=h
  obtain⟨pS,q1,q2,q3⟩:=Au h1
  refine ei q1 ?_
  rw[if_pos q2]
  refine ei ax ⟨rfl,q3.symm,h2.1,by have:=h2.2;omega,?_⟩
  rw[Nat.zero_add];exact hK _ h
include az in
theorem Ko {V:List av} {ids:List Nat} {w:Int} {bO:Nat} {hv:V.length=bO} (hk:s.get dM= .hW V ids bO hv) (hw:w.toNat<V.length):(s.ap cf.n).H[nth ids w+s.be]?=some (br (nth V w).ae):=by
 obtain⟨G,e,_⟩:=az V ids _ _ hk
 have aw:=jJ G.ok
 rw[e] at aw
 have hid:=G.ok.lt w.toNat _ (h7 (xs:=ids) (i:=w) (by have:=G.ok.len;omega))
 refine R8 hk ?_
 rw[sJ hid,←e,IE G.ok (by rw[e];exact hw)]
include az in
theorem agL {t:TypeId} {w:Int} {ids:List Nat} {m c:Nat} {i:Int} {k:IntKind} (hK: ∀v,(K v).den R→Kp v.bp) (h:(LM P t w ids m c i s K).den R):At P t (.ref (nth ids w+m) 0 0 c false) (.int k i) (s.ap cf.n).H Kp:=by
 unfold LM at h
 split at h
 ·rename_i V dc bO lY hk
  obtain⟨h1,h2,aD,bj,h⟩:=h
  subst h1;subst h2
  obtain⟨pS,q1,q2,q3⟩:=Au aD
  refine ei q1 ?_
  rw[if_pos q2]
  refine ei (Ko az hk bj.1) ⟨rfl,q3.symm,bj.2.1,by have:=bj.2.2;omega,?_⟩
  rw[Nat.zero_add];exact hK _ h
 ·exact h.elim
include az in
theorem agO {t:TypeId} {x i:TV} (hK: ∀v,(K v).den R→Kp v.bp) (h:(LN P t x i s K).den R):At P t x.bp i.bp (s.ap cf.n).H Kp:=by
 unfold LN at h
 split at h
 ·split at h
  ·obtain⟨h1,h2,h⟩:=h
   obtain⟨pS,q1,q2,q3⟩:=Au h1
   refine ei q1 ?_
   rw[if_pos q2]
   exact⟨h2.1,ei (ND h2.2 false) ⟨by rw[xf,q3],hK _ h⟩⟩
  ·exact agJ hK h
  ·exact agL az hK h
  ·exact h.elim
 ·exact h.elim
include az in
theorem ajE {t:TypeId} {w:Int} {ids:List Nat} {m:Nat} {j:Int} (hK: ∀v,(K v).den R→Kp v.bp) (h:(Nd P t w ids m j s K).den R):qY P t (.ptr (nth ids w+m) 0 j.toNat 0) (s.ap cf.n).L (s.ap cf.n).H Kp:=by
 unfold Nd at h
 split at h
 ·rename_i V dc bO lY hk
  obtain⟨h1,h2,aD,h⟩:=h
  subst h1;subst h2
  exact ei (Ko az hk aD.1) ⟨rfl,ei (CK aD.2) (vr [] hK h)⟩
 ·exact h.elim
include az in
theorem ajF {t:TypeId} {b g m c:Nat} {i:Int} (hK: ∀v,(K v).den R→Kp v.bp) (h:(Nf P t b g i m c s K).den R):qY P t (.ptr b g i.toNat c) (s.ap cf.n).L (s.ap cf.n).H Kp:=by
 unfold Nf at h
 split at h
 ·rename_i dD iA ids aE
  split at h
  ·rename_i hb
   have hb:b<s.be:=by rw[←Nat.blt_eq];exact hb
   split at h
   ·rename_i V dc bO lY hk
    obtain⟨h1,h2,aD,h⟩:=h
    subst h1;subst h2
    obtain⟨G,e,_⟩:=az V dc _ _ hk
    exact ei (by rw[u3 hb,aE]) ⟨rfl,ei (alJ G e aD) (vr [] hK h)⟩
   ·exact h.elim
  ·exact h.elim
 ·rename_i dD al aE
  split at h
  ·rename_i hb
   have hb:b<s.be:=by rw[←Nat.blt_eq];exact hb
   obtain⟨h1,h2,h⟩:=h
   subst h1;subst h2
   exact ei (by rw[u3 hb,aE]) ⟨rfl,ei (a:=cU al) rfl (vr [] hK h)⟩
  ·exact h.elim
 ·obtain⟨e,xs,fK,hm,h,hb,ax⟩:=zy (n:=cf.n) h
  obtain⟨h1,h2,h⟩:=h
  refine ei ax ⟨rfl,ei (ND (by omega) true) ?_⟩
  exact vr [] hK h
include az in
theorem X6 {o:Oper} (hK: ∀v,(K v).den R→Kp v.bp) (h:(uQ cf s o K).den R):kU P o (ch (s.ap cf.n).T) (s.ap cf.n).L (s.ap cf.n).H Kp:=by
 rw[mm]
 obtain⟨dst,op,ty,pos,after,guard⟩:=o
 unfold uQ at h
 split at h
 ·rename_i x gH;cases gH;rw[sM] at h;exact hK _ h
 ·rename_i x gH;cases gH;rw[sM] at h;exact hK _ h
 ·rename_i t x i gH;cases gH;exact agO az hK h
 ·rename_i t a gH
  cases gH
  split at h
  ·rename_i b g i m c ar
   show qY P t (cM cf.n s a).bp _ _ Kp
   rw[ar];exact ajF az hK h
  ·rename_i w ids m j ar
   show qY P t (cM cf.n s a).bp _ _ Kp
   rw[ar];exact ajE az hK h
  ·exact vr (F:=fun H Q=>kU P _ _ _ H Q) _ hK h
 ·rename_i t x lo hi mx gH
  cases gH
  split at h
  ·have:=al9 (H:=(s.ap cf.n).H) hK h
   show yP P t _ (lo.map _) (hi.map _) _ Kp
   rw[Option.map_map,Option.map_map] at this
   exact this
  ·exact h.elim
 ·rename_i c gH
  cases gH
  obtain⟨callee,args,argTypes⟩:=c
  split at h
  ·rename_i b hb
   cases hb
   split at h
   ·show(match args.toList,argTypes.toList with
     | [x],[t]=>e_ (k1 P t ((fun x=>(cM cf.n s x).bp) x)) (uG ((fun x=>(cM cf.n s x).bp) x) Kp)
     | _,_=>False)
    split at h
    ·rename_i x t h1 h2
     simp only at h1 h2
     simp only[h1,h2];exact ajO hK h
    ·exact h.elim
   ·exact h.elim
  ·rename_i f hf
   cases hf
   show nh (cM cf.n s f).bp fun g caps=>qK P g (args.toList.map (fun x=>(cM cf.n s x).bp)++caps) _ _ Kp
   split at h
   ·rename_i g caps hc
    rw[hc]
    have:=acm (n:=cf.n) az hK h
    rw[p1,List.map_append,List.map_map] at this
    show qK P g (_++cU caps) _ _ Kp
    rw[p1];exact this
   ·exact h.elim
  ·exact h.elim
 ·rename_i t m ps gH
  cases gH
  obtain⟨e,h⟩:=Nn h
  obtain⟨xs,h⟩:=Nl (n:=cf.n) az h
  exact vr (F:=fun H Q=>kU P _ _ _ H Q) _ hK h
 ·exact vr (F:=fun H Q=>kU P _ _ _ H Q) _ hK h
end
theorem jK {n:Int} (h1: -9223372036854775808≤n) (h2:n≤9223372036854775807):IntKind.i64.wrap n=n:=by
 rw[IntKind.wrap_i64];omega
def cb (x a b:Int):Bool:=decide (a≤x)&&decide (x≤b)
theorem uC {x a b:Int}:cb x a b=true↔a≤x∧x≤b:=by simp[cb]
theorem iN {α:Type} [Inhabited α] {xs:List α} {i:Int} (h:i.toNat<xs.length):nth xs i=xs[i.toNat]:=by
 have:=h7 h
 rw[List.getElem?_eq_getElem h] at this
 exact(Option.some.inj this).symm
theorem ee {α:Type} [Inhabited α] {xs:List α} {i:Int} (h:i.toNat<xs.length):nth xs i∈xs:=by rw[iN h];exact List.getElem_mem h
theorem k2 {α:Type} [Inhabited α] {xs:List α} {i:Nat} (h:i<xs.length):nth xs (i:Int)=xs[i]:=by rw[iN (by simpa using h)];simp
def first {α:Type} (xs:List α) (p:α→Bool):Option Nat:=xs.findIdx? p
theorem adI {α:Type} {xs:List α} {p:α→Bool} (h: ∀x∈xs,p x=false):first xs p=none:=by
 unfold first;rw[List.findIdx?_eq_none_iff];exact h
theorem adJ {α:Type} [Inhabited α] {xs:List α} {p:α→Bool} {i:Int} (h: ∀x∈xs.take i.toNat,p x=false) (hi:i.toNat<xs.length) (ab:p (nth xs i)=true):first xs p=some i.toNat:=by
 unfold first
 rw[List.findIdx?_eq_some_iff_getElem]
 refine⟨hi,by rw[←iN hi];exact ab,fun j ah=> ?_⟩
 have:=h xs[j] (by rw[List.mem_take_iff_getElem];exact⟨j,by omega,rfl⟩)
 simp[this]
def Hy (o:Option Nat):Int:=match o with
 | some i=>i
 | none=> -1
def pv (xs:List Int) (v:Int):Int:=Hy (first xs (fun x=>v==x))
def hF (xs:List Int) (v:Int):Bool:=xs.contains v
def ur (xs:List Bool) (v:Bool):Int:=Hy (first xs (fun x=>v==x))
def lU (xs:List Bool) (v:Bool):Bool:=xs.contains v
def aK {α:Type} (x:α):α:=x
def meets (a b:List Int):Bool:=a.any fun x=>b.contains x
def dup (l:List Int):Bool:= !decide l.Nodup
def bY (w:Way):List c8:=w.bA++w.cO
def jb (l:List Int) (n:Int):Bool:=decide (l.length≤30)&&l.all (fun x=>cb x 0 (n - 1))&&decide l.Nodup
def n7 (p:aQ) (l:List c8):Bool:=decide (l.length≤30)&&l.all (fun x=>cb x.bi 0 (p.a_.length - 1)&&cb x.a1 1 2)&&decide (l.map (·.bi)).Nodup
def iW (p:aQ) (w:Way):Bool:=
 decide (w.ao≠[])&&jb w.ao p.ao&&jb w.dk p.ao&&jb w.eb p.ao&&n7 p w.bA&&n7 p w.cO&&
 decide ((bY w).map (·.bi)).Nodup&&w.bA.all (fun x=>w.ao.contains (nth p.a_ x.bi))&& !meets w.ao w.dk
def vg (p:aQ) (i k:Nat):Bool:=nth (nth p.bu i) k
def rz (p:aQ) (i k:Nat):Bool:=(vg p i k !=vg p k i) || (decide (i≠k)&& !vg p i k&&meets (nth p.O i).ao (nth p.O k).ao)
def q6 (p:aQ):rv:=if p.bu.length=p.O.length then
  match first p.bu (fun b=>decide (b.length≠p.O.length)) with
  | some k=>⟨4,k⟩
  | none=>match first (List.range p.O.length) (fun i=>(List.range p.O.length).any fun k=>rz p i k) with
   | some k=>⟨5,k⟩
   | none=>⟨0,0⟩
 else⟨4,0⟩
def A9 (p:aQ):rv:=match first p.O (fun w=> !iW p w) with
 | some k=>⟨3,k⟩
 | none=>q6 p
def A8 (p:aQ):rv:=match first p.a_ (fun s=> !cb s 0 (p.ao - 1)) with
 | some k=>⟨2,k⟩
 | none=>A9 p
def iO (p:aQ):rv:=if cb p.ao 1 60&&cb p.cv 1 300&&decide (p.a_.length≤40)&&decide (p.O.length≤100) then A8 p else⟨1,0⟩
def iB (p:aQ):Bool:=decide (iO p=⟨0,0⟩)
def hE (p:aQ) (e:Event):Bool:=
 if e.op=1∨e.op=2 then cb e.aC 0 (p.O.length - 1)&&decide (e.a1=0)
 else if e.op=3∨e.op=4 then cb e.aC 0 (p.ao - 1)&&decide (e.a1=0)
 else if e.op=5 then cb e.aC 0 (p.a_.length - 1)&&cb e.a1 0 2
 else if e.op=6 then cb e.aC 0 (p.a_.length - 1)&&cb e.a1 1 2
 else if e.op=7 then decide (e.aC=0)&&decide (e.a1=0)
 else false
def fD (n:Nat) (left:Int):Int:=if left<n then -1 else left - n
def u_ (w:Way):Nat:=w.ao.length+w.bA.length+w.cO.length+w.dk.length+w.eb.length
def Ci (ws:List Way):Nat:=ws.length+(ws.map u_).sum
def xb (bs:List (List Bool)):Nat:=bs.length+(bs.map List.length).sum
def mo (p:aQ):Nat:=p.a_.length+Ci p.O+xb p.bu
def xE (ws:List av):Nat:=ws.length+(ws.map fun h=>h.ae.length).sum
def rG (f:Frame):Nat:=f.aB.length+f.au.length+xE f.O
theorem Ws {n m:Nat} {left:Int} (aA:0≤left):fD (n+m) left=if fD n left<0 then -1 else fD m (fD n left):=by
 unfold fD
 split<;>split<;>(try split)<;>(try split)<;>omega
def eA {α:Type} (a:List α) (left:Int):Int:=fD a.length left
def tx (w:Way) (left:Int):Int:=fD (u_ w) left
def BX (w:List Way) (left:Int):Int:=fD (Ci w) left
def wP (w:List (List Bool)) (left:Int):Int:=fD (xb w) left
def sg (p:aQ) (left:Int):Int:=fD (mo p) left
def tw (h:av) (left:Int):Int:=fD h.ae.length left
def wQ (h:List av) (left:Int):Int:=fD (xE h) left
def u5 (f:Frame) (left:Int):Int:=fD (rG f) left
def gS {α:Type} (a:α) (left:Int):Prop:=0≤left∧left≤1048576
def small {α:Type} (a:List α):Prop:=a.length≤1048576
def Ey (w:Way):Prop:=u_ w≤1048576
def H5 (w:List Way):Prop:=Ci w≤1048576
def H2 (w:List (List Bool)):Prop:=xb w≤1048576
def OF (p:aQ):Prop:=mo p≤1048576
def eqv {α:Type} [DecidableEq α] (a b:α):Bool:=decide (a=b)
def tC {α:Type} (a:α):Bool:=true
def Ea (l:List Int) (n:Int):Prop:= -9223372036854775808<n∧n≤9223372036854775807
def NR (p:aQ) (w:Way):Prop:= -9223372036854775808<p.ao∧p.ao≤9223372036854775807
def XI (p:aQ) (e:Event):Prop:= -9223372036854775808<p.ao∧p.ao≤9223372036854775807
def A_ (w:Way):Prop:=w.bA.length≤1048576∧w.cO.length≤1048576
def sK {α β:Type} (a:List α) (f:α→β) (d:β) (i:Int):List β:=(a.take i.toNat).map f++List.replicate (a.length - i.toNat) d
theorem adE {α β:Type} (a:List α) (f:α→β) (d:β):sK a f d 0=List.replicate a.length d:=by simp[sK]
theorem Kr {α β:Type} {a:List α} {f:α→β} {d:β} {i:Int} (h:i≤a.length):(sK a f d i).length=a.length:=by
 simp[sK];omega
theorem adF {α β:Type} [Inhabited α] {a:List α} {f:α→β} {d:β} {i:Int} (aA:0≤i) (h:i.toNat<a.length):(sK a f d i).set i.toNat (f (nth a i))=sK a f d (i+1):=by
 unfold sK
 rw[show(i+1).toNat=i.toNat+1 by omega,List.take_succ_eq_append_getElem h,List.set_append_right _ _ (by simp;omega)]
 have:List.replicate (a.length - i.toNat) d=d::List.replicate (a.length - (i.toNat+1)) d:=by
  rw[←List.replicate_succ];congr 1;omega
 rw[this,iN h]
 have aw:((a.take i.toNat).map f).length=i.toNat:=by simp;omega
 rw[aw]
 simp
 rw[←List.map_take,←List.map_take,List.take_succ_eq_append_getElem h,List.map_append]
 simp
theorem adD {α β:Type} {a:List α} {f:α→β} {d:β} {i:Int} (h:(a.length:Int)≤i):sK a f d i=a.map f:=by
 unfold sK
 rw[List.take_of_length_le (by omega),show a.length - i.toNat=0 by omega]
 simp
def cq (N:Int) (p:Int→Bool) (v:Int):Prop:=0≤v∧v≤N∧ ∀j:Int,0≤j→j<v→p j=false
def cI (N:Int) (v:Int):Nat:=(N - v).toNat
theorem dB {N:Int} {p:Int→Bool} (h:0≤N):cq N p 0:=⟨Int.le_refl _,h,fun j aA h1=>by omega⟩
theorem mE {N v:Int} (af:N≤4611686018427387904) (aA:0≤v) (hv:v<N):IntKind.i64.wrap (v+1)=v+1:=jK (by omega) (by omega)
theorem dn {N v:Int} {p:Int→Bool} (af:N≤4611686018427387904) (h:cq N p v) (hv:decide (v<N)=true) (ab:p v=false):cq N p (IntKind.i64.wrap (v+1))∧cI N (IntKind.i64.wrap (v+1))<cI N v:=by
 obtain⟨aA,h1,h2⟩:=h
 have hv:v<N:=by simpa using hv
 rw[mE af aA hv]
 refine⟨⟨by omega,by omega,fun j cg eX=> ?_⟩,by unfold cI;omega⟩
 rcases Int.lt_or_eq_of_le (show j≤v by omega) with aw | rfl
 ·exact h2 j cg aw
 ·exact ab
theorem hI {N v:Int} {p:Int→Bool} (h:cq N p v) (hv:decide (v<N)=false): ∀j:Int,0≤j→j<N→p j=false:=by
 obtain⟨aA,h1,h2⟩:=h
 have hv: ¬v<N:=by simpa using hv
 exact fun j cg eX=>h2 j cg (by omega)
theorem cA {α:Type} {xs:List α} {v:Int} {p:Int→Bool} (h:cq xs.length p v) (hv:decide (v<(xs.length:Int))=true):0≤v∧v.toNat<xs.length:=by
 have hv:v<(xs.length:Int):=by simpa using hv
 exact⟨h.1,by have:=h.1;omega⟩
theorem c_ {α:Type} {xs:List α} (h:xs.length≤4611686018427387904):(xs.length:Int)≤4611686018427387904:=by omega
theorem dt {α:Type} (xs:List α):0≤(xs.length:Int):=by omega
theorem nI {α:Type} [Inhabited α] {xs:List α} {q:α→Bool} (h: ∀j:Int,0≤j→j<xs.length→q (nth xs j)=false): ∀x∈xs,q x=false:=fun x hx=>by
 obtain⟨i,hi,rfl⟩:=List.mem_iff_getElem.1 hx
 have:=h i (by omega) (by omega)
 rwa [k2 hi] at this
theorem sj {α:Type} [Inhabited α] {xs:List α} {q:α→Bool} {v:Int} (h:cq xs.length (fun j=>q (nth xs j)) v) (hv:decide (v<(xs.length:Int))=true) (ab:q (nth xs v)=true):first xs q=some v.toNat:=by
 have hi:=cA h hv
 refine adJ (fun x hx=> ?_) hi.2 ab
 obtain⟨i,fx,rfl⟩:=List.mem_take_iff_getElem.1 hx
 have:q (nth xs (i:Int))=false:=h.2.2 i (by omega) (by omega)
 rwa [k2 (by omega)] at this
theorem sk {α:Type} [Inhabited α] {xs:List α} {q:α→Bool} {v:Int} (h:cq xs.length (fun j=>q (nth xs j)) v) (hv:decide (v<(xs.length:Int))=false):first xs q=none:=
 adI (nI (hI h hv))
theorem IC {α:Type} [Inhabited α] {xs:List α} {q:α→Bool} {v:Int} (h:cq xs.length (fun j=>q (nth xs j)) v) (hv:decide (v<(xs.length:Int))=true) (ab:q (nth xs v)=true):xs.any q=true:=by
 rw[List.any_eq_true];exact⟨_,ee (cA h hv).2,ab⟩
theorem ES {α:Type} [Inhabited α] {xs:List α} {q:α→Bool} {v:Int} (h:cq xs.length (fun j=>q (nth xs j)) v) (hv:decide (v<(xs.length:Int))=false):xs.any q=false:=by
 rw[List.any_eq_false]
 intro x hx
 rw[nI (hI h hv) x hx];simp
theorem not_eq {b:Bool} (h:(!b)=true):b=false:=by simpa using h
theorem Om {α:Type} [Inhabited α] {a b:List α} (aw:a.length=b.length) (h: ∀j:Int,0≤j→j<a.length→nth a j=nth b j):a=b:=by
 apply List.ext_getElem aw
 intro i h1 h2
 have:=h i (by omega) (by omega)
 rwa [k2 h1,k2 h2] at this
theorem sI {α:Type} [Inhabited α] [DecidableEq α] {a b:List α} {ne:Int→Bool} (bq: ∀v,ne v=true↔nth a v≠nth b v):
  ((a.length≤4611686018427387904)∧(b.length≤4611686018427387904)→((a.length:Int) !=(b.length:Int))=true→false=eqv a b)∧((a.length≤4611686018427387904)∧(b.length≤4611686018427387904)∧((!((a.length:Int) !=(b.length:Int)))=true)→
   cq a.length ne 0∧ ∀(v:Int),cq a.length ne v→(((decide (v<(a.length:Int)))=false→true=eqv a b)∧((decide (v<(a.length:Int)))=true→(((0≤v∧v.toNat<a.length)∧(0≤v∧v.toNat<b.length))∧((ne v)=true→false=eqv a b))∧
    ((!(ne v))=true→cq a.length ne (IntKind.i64.wrap (v+1))∧cI a.length (IntKind.i64.wrap (v+1))<cI a.length v)))):=by
 refine⟨fun _ h=> ?_,fun⟨h1,h2,aD⟩=> ?_⟩
 ·have:a≠b:=fun e=>by subst e;simp at h
  simp[eqv,this]
 ·have aw:a.length=b.length:=by have:(a.length:Int)=b.length:=by simpa using aD
                                omega
  refine⟨dB (dt a),fun v aN=>⟨fun hv=> ?_,fun hv=>⟨⟨⟨cA aN hv,by rw[←aw];exact cA aN hv⟩,fun af=> ?_⟩,fun af=>dn (c_ h1) aN hv (not_eq af)⟩⟩⟩
  ·have:a=b:=Om aw fun j cg eX=>by
    have U:=hI aN hv j cg eX
    by_cases he:nth a j=nth b j
    ·exact he
    ·rw[(bq j).2 he] at U;cases U
   simp[eqv,this]
  ·have:a≠b:=fun e=>(bq v).1 af (by rw[e])
   simp[eqv,this]
def p9 {α β:Type} (a:List α) (f:α→β) (d:β) (x:List β) (v:Int):Prop:=0≤v∧v≤a.length∧x=sK a f d v
def qM {α β:Type} (a:List α) (x:List β) (v:Int):Nat:=(a.length - v).toNat
theorem F5 {α β:Type} [Inhabited α] {a:List α} {f:α→β} {d:β} {aa:List β} {φ:Int→Prop} (hs:a.length≤4611686018427387904) (aj:a.map f=aa) (e7: ∀v:Int,0≤v→v.toNat<a.length→φ v):
  p9 a f d (List.replicate (a.length:Int).toNat d) 0∧ ∀(x:List β) (v:Int),p9 a f d x v→(((decide (v<(a.length:Int)))=false→x.length≤4611686018427387904∧x=aa)∧((decide (v<(a.length:Int)))=true→((0≤v∧v.toNat<a.length)∧(φ v∧((0≤v∧v.toNat<x.length)∧v.toNat<x.length)))∧
   (p9 a f d (x.set v.toNat (f (nth a v))) (IntKind.i64.wrap (v+1))∧qM a (x.set v.toNat (f (nth a v))) (IntKind.i64.wrap (v+1))<qM a x v))):=by
 refine⟨⟨Int.le_refl _,dt a,by rw[adE];simp⟩,fun x v ⟨aA,h1,hx⟩=>⟨fun hv=> ?_,fun hv=> ?_⟩⟩
 ·have hv: ¬v<(a.length:Int):=by simpa using hv
  subst hx
  exact⟨by rw[Kr h1];exact hs,by rw[adD (by omega)];exact aj⟩
 ·have hv:v<(a.length:Int):=by simpa using hv
  have aM:v.toNat<a.length:=by omega
  subst hx
  refine⟨⟨⟨aA,aM⟩,e7 v aA aM,⟨aA,by rw[Kr h1];exact aM⟩,by rw[Kr h1];exact aM⟩,?_⟩
  rw[mE (c_ hs) aA hv]
  exact⟨⟨by omega,by omega,adF aA aM⟩,by unfold qM;omega⟩
theorem F6 {α β:Type} [Inhabited α] {a:List α} {f:α→β} {d:β} {aa:List β} (hs:a.length≤4611686018427387904) (aj:a.map f=aa):
  p9 a f d (List.replicate (a.length:Int).toNat d) 0∧ ∀(x:List β) (v:Int),p9 a f d x v→(((decide (v<(a.length:Int)))=false→x.length≤4611686018427387904∧x=aa)∧((decide (v<(a.length:Int)))=true→((0≤v∧v.toNat<a.length)∧((0≤v∧v.toNat<x.length)∧v.toNat<x.length))∧
   (p9 a f d (x.set v.toNat (f (nth a v))) (IntKind.i64.wrap (v+1))∧qM a (x.set v.toNat (f (nth a v))) (IntKind.i64.wrap (v+1))<qM a x v))):=by
 obtain⟨h1,h2⟩:=F5 (φ:=fun _=>True) (d:=d) hs aj fun _ _ _=>trivial
 exact⟨h1,fun x v aN=>⟨(h2 x v aN).1,fun hv=>⟨⟨((h2 x v aN).2 hv).1.1,((h2 x v aN).2 hv).1.2.2⟩,((h2 x v aN).2 hv).2⟩⟩⟩
theorem Wu {n:Nat} {left:Int} (aA:0≤left) (h1:left≤1048576) (h: ¬fD n left<0):0≤fD n left∧fD n left≤1048576:=by
 refine⟨by omega,?_⟩
 unfold fD at h ⊢
 split<;>omega
theorem Wt {n m:Nat} {left:Int} (aA:0≤left) (h:fD n left<0):fD (n+m) left= -1:=by
 rw[Ws aA,if_pos h]
theorem uH {n m:Nat} {left:Int} (aA:0≤left) (h: ¬fD n left<0):fD m (fD n left)=fD (n+m) left:=by
 rw[Ws aA,if_neg h]
theorem aaK {α:Type} {xs:List α} {left:Int} (af:xs.length≤4611686018427387904) (h:0≤left∧left≤1048576):IntKind.i64.wrap (left - (xs.length:Int))=left - xs.length:=jK (by omega) (by omega)
theorem Is {α:Type} {a:List α} {left:Int} (ab:0≤left∧left≤1048576) (af:a.length≤4611686018427387904):
  ((decide ((IntKind.i64.wrap (left - (a.length:Int)))<0))=true→(-1)=eA a left)∧((!(decide ((IntKind.i64.wrap (left - (a.length:Int)))<0)))=true→(IntKind.i64.wrap (left - (a.length:Int)))=eA a left):=by
 rw[aaK af ab]
 unfold eA fD
 constructor<;>intro h<;>split<;>simp_all<;>omega
def BU {α:Type} (a:List α) (f:α→Nat) (ajI:Int) (left v:Int):Prop:=0≤v∧v≤a.length∧0≤left∧left≤1048576∧left=fD (a.length+((a.take v.toNat).map f).sum) ajI
def BV {α:Type} (a:List α) (left v:Int):Nat:=(a.length - v).toNat
theorem Qa {α:Type} [Inhabited α] {a:List α} {f:α→Nat} {g:α→Int→Int} {left:Int} (aE: ∀x l,g x l=fD (f x) l) (ab:0≤left∧left≤1048576) (af:a.length≤4611686018427387904):
  ((decide ((IntKind.i64.wrap (left - (a.length:Int)))<0))=true→(-1)=fD (a.length+(a.map f).sum) left)∧((!(decide ((IntKind.i64.wrap (left - (a.length:Int)))<0)))=true→
   BU a f left (IntKind.i64.wrap (left - (a.length:Int))) 0∧ ∀(w:Int) (v:Int),BU a f left w v→(((decide (v<(a.length:Int)))=false→w=fD (a.length+(a.map f).sum) left)∧((decide (v<(a.length:Int)))=true→
    (((0≤v∧v.toNat<a.length)∧(gS (nth a v) w))∧((decide ((g (nth a v) w)<0))=true→(-1)=fD (a.length+(a.map f).sum) left))∧((!(decide ((g (nth a v) w)<0)))=true→BU a f left (g (nth a v) w) (IntKind.i64.wrap (v+1))∧BV a (g (nth a v) w) (IntKind.i64.wrap (v+1))<BV a w v)))):=by
 rw[aaK af ab]
 refine⟨fun h=> ?_,fun h=>⟨⟨Int.le_refl _,dt a,?_⟩,fun w v ⟨v0,v1,aL,bn,hw⟩=>⟨fun hv=> ?_,fun hv=> ?_⟩⟩⟩
 ·have h:left - a.length<0:=by simpa using h
  unfold fD;rw[if_pos (by omega)]
 ·have h: ¬left - a.length<0:=by simpa using h
  refine⟨by omega,by omega,?_⟩
  simp only[Int.toNat_zero,List.take_zero,List.map_nil,List.sum_nil,Nat.add_zero]
  unfold fD;rw[if_neg (by omega)]
 ·have hv: ¬v<(a.length:Int):=by simpa using hv
  rw[hw,List.take_of_length_le (by omega)]
 ·have hv:v<(a.length:Int):=by simpa using hv
  have aM:v.toNat<a.length:=by omega
  have hs:((a.take (v+1).toNat).map f).sum=((a.take v.toNat).map f).sum+f (nth a v):=by
   rw[show(v+1).toNat=v.toNat+1 by omega,List.take_succ_eq_append_getElem aM,List.map_append,List.sum_append,iN aM];simp
  have qf: ¬fD (a.length+((a.take v.toNat).map f).sum) left<0:=by omega
  have fY:g (nth a v) w=fD (a.length+((a.take (v+1).toNat).map f).sum) left:=by
   rw[aE,hw,uH ab.1 qf,hs,Nat.add_assoc]
  refine⟨⟨⟨⟨v0,aM⟩,aL,bn⟩,fun h=> ?_⟩,fun h=> ?_⟩
  ·have h:g (nth a v) w<0:=by simpa using h
   rw[fY] at h
   have aW:(a.map f).sum=((a.take (v+1).toNat).map f).sum+((a.drop (v+1).toNat).map f).sum:=by
    rw[←List.sum_append,←List.map_append,List.take_append_drop]
   rw[aW,←Nat.add_assoc,Wt ab.1 h]
  ·have h: ¬g (nth a v) w<0:=by simpa using h
   rw[mE (c_ af) v0 hv]
   have:=Wu ab.1 ab.2 (fY▸h)
   refine⟨⟨by omega,by omega,by rw[fY];exact this.1,by rw[fY];exact this.2,fY⟩,by unfold BV;omega⟩
theorem rj {n m T:Nat} {left:Int} {R:Prop} (ab:0≤left∧left≤1048576) (ci:T=n+m) (h: ¬fD n left<0→0≤fD n left∧fD n left≤1048576→R):
  ((decide (fD n left<0))=true→(-1)=fD T left)∧((!(decide (fD n left<0)))=true→R):=by
 refine⟨fun aW=> ?_,fun aW=> ?_⟩
 ·have aW:fD n left<0:=by simpa using aW
  rw[ci,Wt ab.1 aW]
 ·have aW: ¬fD n left<0:=by simpa using aW
  exact h aW (Wu ab.1 ab.2 aW)
theorem DX {α:Type} (l:List α):l.map aK=aK l:=by
 show l.map (fun x=>x)=l
 simp
theorem DY {α:Type} (f:α→Nat) {x:α}: ∀{l:List α},x∈l→f x≤(l.map f).sum
 | [],h=>by cases h
 | y::l,h=>by
  rw[List.map_cons,List.sum_cons]
  rcases List.mem_cons.1 h with rfl | h
  ·omega
  ·have:=DY f h;omega
theorem xr {xs:List Int} {x:Int}:hF xs x=true↔x∈xs:=by unfold hF;simp
theorem ae9 {xs:List Int} {x k:Int} (hk:k.toNat<xs.length) (h:(x==nth xs k)=true):hF xs x=true:=by
 rw[xr,show x=nth xs k by simpa using h];exact ee hk
theorem ae7 {xs:List Int} {x:Int} (h: ∀j:Int,0≤j→j<xs.length→(x==nth xs j)=false):hF xs x=false:=by
 rw[←Bool.not_eq_true,xr]
 intro hm
 have:=nI (q:=fun y=>x==y) h x hm
 simp at this
theorem agM (xs:List Int) (x:Int):(decide (pv xs x ≥ 0))=hF xs x:=by
 unfold pv
 cases h:first xs (fun y=>x==y) with
 | none=>
  unfold first at h
  rw[List.findIdx?_eq_none_iff] at h
  have:hF xs x=false:=by
   rw[←Bool.not_eq_true,xr]
   intro hm
   have:=h x hm
   simp at this
  rw[this];rfl
 | some i=>
  unfold first at h
  rw[List.findIdx?_eq_some_iff_getElem] at h
  obtain⟨hi,ab,_⟩:=h
  have:hF xs x=true:=by rw[xr,show x=xs[i] by simpa using ab];exact List.getElem_mem hi
  rw[this]
  show decide ((i:Int) ≥ 0)=true
  simp
theorem ac9 {xs:List Int} {v:Int} (aA:0≤v) (hv:v.toNat<xs.length) (h:hF (xs.take v.toNat) (nth xs v)=true):dup xs=true:=by
 rw[xr] at h
 unfold dup
 simp only[Bool.not_eq_true',decide_eq_false_iff_not]
 intro af
 obtain⟨i,hi,he⟩:=List.mem_take_iff_getElem.1 h
 rw[iN hv] at he
 exact(List.pairwise_iff_getElem.1 af) i v.toNat (by omega) hv (by omega) he
theorem RL {xs:List Int} (h: ∀j:Int,0≤j→j<xs.length→hF (xs.take j.toNat) (nth xs j)=false):dup xs=false:=by
 unfold dup
 simp only[Bool.not_eq_false',decide_eq_true_eq]
 unfold List.Nodup
 rw[List.pairwise_iff_getElem]
 intro i j hi ah aM he
 have:=h j (by omega) (by omega)
 rw[←Bool.not_eq_true,xr,k2 ah] at this
 exact this (by rw[List.mem_take_iff_getElem];exact⟨i,by omega,he⟩)
theorem Of (x n:Int):(decide (x<0) || decide (x ≥ n))= !cb x 0 (n - 1):=by
 rw[Bool.eq_iff_iff]
 simp[cb]
 omega
theorem WT {α:Type} {l:List α} (k:Nat):decide ((l.length:Int)≤(k:Int))=decide (l.length≤k):=decide_eq_decide.2 (by omega)
theorem akB {α:Type} [Inhabited α] {β:Type} [DecidableEq β] {l:List α} {f:α→β} (h: ∀i j:Int,0≤i→i<j→j<l.length→f (nth l i)≠f (nth l j)):(l.map f).Nodup:=by
 unfold List.Nodup
 rw[List.pairwise_iff_getElem]
 intro i j hi ah aM
 simp only[List.length_map] at hi ah
 rw[List.getElem_map,List.getElem_map]
 have:=h i j (by omega) (by omega) (by omega)
 rwa [k2 hi,k2 ah] at this
theorem W_ {α:Type} [Inhabited α] {β:Type} [DecidableEq β] {l:List α} {f:α→β} {i j:Int} (aA:0≤i) (h1:i<j) (h2:j<l.length) (he:f (nth l i)=f (nth l j)): ¬(l.map f).Nodup:=by
 intro af
 have:=(List.pairwise_iff_getElem.1 af) i.toNat j.toNat (by simp;omega) (by simp;omega) (by omega)
 rw[List.getElem_map,List.getElem_map,←iN (by omega),←iN (by omega)] at this
 exact this he
theorem map_id' {α:Type} (l:List α):l.map (fun x=>x)=l:=by simp
theorem yk {l:List Int} {n:Int}:jb l n=true↔l.length≤30∧(∀x∈l,cb x 0 (n - 1)=true)∧l.Nodup:=by
 unfold jb;simp[and_assoc]
theorem ajX {l:List Int} {n:Int} (h: ∀j:Int,0≤j→j<l.length→(!cb (nth l j) 0 (n - 1) || hF (l.take j.toNat) (nth l j))=false):jb l n=decide (l.length≤30):=by
 have h1: ∀x∈l,cb x 0 (n - 1)=true:=fun x hx=>by
  have:=nI (q:=fun x=> !cb x 0 (n - 1)) (fun j cg eX=>(Bool.or_eq_false_iff.1 (h j cg eX)).1) x hx
  simpa using this
 have h2:dup l=false:=RL fun j cg eX=>(Bool.or_eq_false_iff.1 (h j cg eX)).2
 have h2:l.Nodup:=by unfold dup at h2;simpa using h2
 rw[Bool.eq_iff_iff,yk]
 simp only[decide_eq_true_eq]
 exact⟨fun h=>h.1,fun h=>⟨h,h1,h2⟩⟩
theorem Wx {l:List Int} {n:Int} {v:Int} (hv:v.toNat<l.length) (h:(!cb (nth l v) 0 (n - 1))=true):jb l n=false:=by
 rw[←Bool.not_eq_true,yk]
 intro bw
 have:=bw.2.1 _ (ee hv)
 simp[this] at h
theorem ajW {l:List Int} {n:Int} {i j:Int} (aA:0≤i) (h1:i<j) (h2:j<l.length) (he:(nth l i==nth l j)=true):jb l n=false:=by
 rw[←Bool.not_eq_true,yk]
 intro bw
 have:=W_ (f:=fun x=>x) aA h1 h2 (by simpa using he)
 rw[map_id'] at this
 exact this bw.2.2
theorem ae8 {l:List Int} {v:Int} (aA:0≤v) (hv:v<l.length) (h: ∀j:Int,0≤j→j<v→(nth l j==nth l v)=false):hF (l.take v.toNat) (nth l v)=false:=by
 rw[←Bool.not_eq_true,xr]
 intro hm
 obtain⟨i,hi,he⟩:=List.mem_take_iff_getElem.1 hm
 have:=h i (by omega) (by omega)
 rw[k2 (by omega),he] at this
 simp at this
theorem pA {p:aQ} {l:List c8}:n7 p l=true↔l.length≤30∧(∀x∈l,(cb x.bi 0 (p.a_.length - 1)&&cb x.a1 1 2)=true)∧(l.map (·.bi)).Nodup:=by
 unfold n7;simp[and_assoc]
def qZ (p:aQ) (x:c8):Bool:=(!cb x.bi 0 (p.a_.length - 1)) || (!cb x.a1 1 2)
theorem DR (p:aQ) (x:c8):qZ p x= !(cb x.bi 0 (p.a_.length - 1)&&cb x.a1 1 2):=by unfold qZ;rw[Bool.not_and]
def DS (l:List c8) (j:Int):Bool:=(l.take j.toNat).any fun y=>y.bi==(nth l j).bi
theorem ajU {p:aQ} {l:List c8} (h: ∀j:Int,0≤j→j<l.length→(qZ p (nth l j) || DS l j)=false):n7 p l=decide (l.length≤30):=by
 have h1: ∀x∈l,(cb x.bi 0 (p.a_.length - 1)&&cb x.a1 1 2)=true:=fun x hx=>by
  have:=nI (q:=qZ p) (fun j cg eX=>(Bool.or_eq_false_iff.1 (h j cg eX)).1) x hx
  rw[DR] at this
  simpa using this
 have h2:(l.map (·.bi)).Nodup   :=akB fun i j aA h1 ah=>by
  have:=(Bool.or_eq_false_iff.1 (h j (by omega) ah)).2
  unfold DS at this
  rw[List.any_eq_false] at this
  have:=this (nth l i) (by rw[iN (by omega)];exact List.mem_take_iff_getElem.2 ⟨i.toNat,by omega,rfl⟩)
  simpa using this
 rw[Bool.eq_iff_iff,pA]
 simp only[decide_eq_true_eq]
 exact⟨fun h=>h.1,fun h=>⟨h,h1,h2⟩⟩
theorem ajV {p:aQ} {l:List c8} {v:Int} (hv:v.toNat<l.length) (h:qZ p (nth l v)=true):n7 p l=false:=by
 rw[←Bool.not_eq_true,pA]
 intro bw
 rw[DR,bw.2.1 _ (ee hv)] at h
 cases h
theorem ajT {p:aQ} {l:List c8} {i j:Int} (aA:0≤i) (h1:i<j) (h2:j<l.length) (he:((nth l i).bi==(nth l j).bi)=true):n7 p l=false:=by
 rw[←Bool.not_eq_true,pA]
 exact fun bw=>W_ (f:=fun x:c8=>x.bi) aA h1 h2 (by simpa using he) bw.2.2
theorem ajR {l:List c8} {v:Int} (aA:0≤v) (hv:v<l.length) (h: ∀j:Int,0≤j→j<v→((nth l j).bi==(nth l v).bi)=false):DS l v=false:=by
 unfold DS
 rw[List.any_eq_false]
 intro y aX
 obtain⟨i,hi,rfl⟩:=List.mem_take_iff_getElem.1 aX
 have:=h i (by omega) (by omega)
 rw[k2 (by omega)] at this
 rw[this];simp
theorem ake (a b:List Int):meets a b=meets b a:=by
 unfold meets
 rw[Bool.eq_iff_iff]
 simp only[List.any_eq_true,List.contains_iff_mem]
 exact⟨fun⟨x,h1,h2⟩=>⟨x,h2,h1⟩,fun⟨x,h1,h2⟩=>⟨x,h2,h1⟩⟩
theorem AQ (x:Int) (b:List Int):meets [x] b=b.contains x:=by unfold meets;simp
theorem ru {p:aQ} {w:Way}:iW p w=true↔w.ao≠[]∧jb w.ao p.ao=true∧jb w.dk p.ao=true∧jb w.eb p.ao=true∧n7 p w.bA=true∧n7 p w.cO=true∧
  ((bY w).map (·.bi)).Nodup∧(∀x∈w.bA,w.ao.contains (nth p.a_ x.bi)=true)∧meets w.ao w.dk=false:=by
 unfold iW;simp[and_assoc]
theorem Nz {w:Way}:((bY w).map (·.bi)).Nodup↔(w.bA.map (·.bi)).Nodup∧(w.cO.map (·.bi)).Nodup∧ ∀x∈w.bA,∀y∈w.cO,x.bi≠y.bi:=by
 unfold bY
 rw[List.map_append,List.nodup_append]
 simp only[List.mem_map]
 constructor
 ·rintro⟨h1,h2,aD⟩;exact⟨h1,h2,fun x hx y aX=>aD _ ⟨x,hx,rfl⟩ _ ⟨y,aX,rfl⟩⟩
 ·rintro⟨h1,h2,aD⟩
  refine⟨h1,h2,?_⟩
  rintro a ⟨x,hx,rfl⟩ b ⟨y,aX,rfl⟩
  exact aD x hx y aX
def mn (p:aQ):Bool:=cb p.ao 1 60&&cb p.cv 1 300&&decide (p.a_.length≤40)&&decide (p.O.length≤100)
theorem NN {p:aQ} (h:mn p=false):iO p=⟨1,0⟩:=by
 unfold iO;unfold mn at h;rw[if_neg (by rw[h];simp)]
theorem NO {p:aQ} (h:mn p=true):iO p=A8 p:=by
 unfold iO;unfold mn at h;rw[if_pos h]
theorem XE {p:aQ} {k:Nat} (hb:mn p=true) (h:first p.a_ (fun s=> !cb s 0 (p.ao - 1))=some k):iO p=⟨2,k⟩:=by rw[NO hb];unfold A8;rw[h]
theorem XH {p:aQ} (hb:mn p=true) (h:first p.a_ (fun s=> !cb s 0 (p.ao - 1))=none):iO p=A9 p:=by rw[NO hb];unfold A8;rw[h]
theorem XF {p:aQ} {k:Nat} (hb:mn p=true) (h:first p.a_ (fun s=> !cb s 0 (p.ao - 1))=none) (hw:first p.O (fun w=> !iW p w)=some k):iO p=⟨3,k⟩:=by rw[XH hb h];unfold A9;rw[hw]
theorem XG {p:aQ} (hb:mn p=true) (h:first p.a_ (fun s=> !cb s 0 (p.ao - 1))=none) (hw:first p.O (fun w=> !iW p w)=none):iO p=q6 p:=by rw[XH hb h];unfold A9;rw[hw]
theorem XD {p:aQ} (h:p.bu.length≠p.O.length):q6 p=⟨4,0⟩:=by unfold q6;rw[if_neg h]
theorem XB {p:aQ} {k:Nat} (h:p.bu.length=p.O.length) (hb:first p.bu (fun b=>decide (b.length≠p.O.length))=some k):q6 p=⟨4,k⟩:=by unfold q6;rw[if_pos h,hb]
theorem XC {p:aQ} {k:Nat} (h:p.bu.length=p.O.length) (hb:first p.bu (fun b=>decide (b.length≠p.O.length))=none) (U:first (List.range p.O.length) (fun i=>(List.range p.O.length).any fun k=>rz p i k)=some k):q6 p=⟨5,k⟩:=by
 unfold q6;rw[if_pos h,hb];simp only;rw[U]
theorem XA {p:aQ} (h:p.bu.length=p.O.length) (hb:first p.bu (fun b=>decide (b.length≠p.O.length))=none) (U:first (List.range p.O.length) (fun i=>(List.range p.O.length).any fun k=>rz p i k)=none):q6 p=⟨0,0⟩:=by
 unfold q6;rw[if_pos h,hb];simp only;rw[U]
theorem yE {p:aQ}:mn p=true↔(1≤p.ao∧p.ao≤60)∧(1≤p.cv∧p.cv≤300)∧p.a_.length≤40∧p.O.length≤100:=by
 unfold mn cb;simp[and_assoc]
theorem Si {n:Nat} {q:Nat→Bool} {v:Int} (aA:0≤v) (hv:v<n) (h: ∀j:Int,0≤j→j<v→q j.toNat=false) (U:q v.toNat=true):first (List.range n) q=some v.toNat:=by
 unfold first
 rw[List.findIdx?_eq_some_iff_getElem]
 refine⟨by simp;omega,by simpa using U,fun j ah=> ?_⟩
 have:=h j (by omega) (by omega)
 simpa using this
theorem Sh {n:Nat} {q:Nat→Bool} (h: ∀j:Int,0≤j→j<n→q j.toNat=false):first (List.range n) q=none:=by
 unfold first
 rw[List.findIdx?_eq_none_iff]
 intro x hx
 have:=h x (by omega) (by have:=List.mem_range.1 hx;omega)
 simpa using this
theorem QZ {n:Nat} {q:Nat→Bool} {v:Int} (aA:0≤v) (hv:v<n) (h:q v.toNat=true):(List.range n).any q=true:=by
 rw[List.any_eq_true];exact⟨v.toNat,List.mem_range.2 (by omega),h⟩
theorem WS {n:Nat} {q:Nat→Bool} (h: ∀j:Int,0≤j→j<n→q j.toNat=false):(List.range n).any q=false:=by
 rw[List.any_eq_false]
 intro x hx
 have:=h x (by omega) (by have:=List.mem_range.1 hx;omega)
 simp only[Int.toNat_natCast] at this
 rw[this];simp
theorem ml {α:Type} [Inhabited α] {xs:List α} {i:Int} (h:0≤i):nth xs (i.toNat:Int)=nth xs i:=by rw[Int.toNat_of_nonneg h]
theorem ajQ (p:aQ) (x:c8):((decide (x.bi<0)) || ((decide (x.bi ≥ (p.a_.length:Int))) || ((x.a1 !=1)&&(x.a1 !=2))))=qZ p x:=by
 unfold qZ
 rw[←Of,Bool.or_assoc]
 congr 2
 rw[Bool.eq_iff_iff]
 simp[cb]
 omega
def r2 (p:aQ) (w:Way) (j:Int):Bool:=qZ p (nth (bY w) j) || (decide (j<(w.bA.length:Int))&& !(hF w.ao (nth p.a_ (nth (bY w) j).bi)))
theorem W0 {w:Way} {j:Int} (aA:0≤j) (h:j<w.bA.length):nth (bY w) j=nth w.bA j:=by
 rw[iN (xs:=w.bA) (by omega),iN (by unfold bY;rw[List.length_append];omega)]
 unfold bY
 rw[List.getElem_append_left]
theorem aev {p:aQ} {w:Way} (h:iW p w=true): ∀l∈[w.ao,w.dk,w.eb],jb l p.ao=true:=by
 obtain⟨-,h1,h2,aD,-⟩:=ru.1 h
 intro l aw
 simp only[List.mem_cons,List.not_mem_nil,or_false] at aw
 rcases aw with rfl | rfl | rfl
 ·exact h1
 ·exact h2
 ·exact aD
theorem aew {p:aQ} {w:Way} (h:iW p w=true) {j:Int} (aA:0≤j) (ah:j.toNat<(bY w).length):r2 p w j=false:=by
 obtain⟨-,-,-,-,bj,cl,-,cC,-⟩:=ru.1 h
 have hm:=ee ah
 have hb:qZ p (nth (bY w) j)=false:=by
  rw[DR]
  unfold bY at hm ⊢
  rcases List.mem_append.1 hm with hm | hm
  ·rw[(pA.1 bj).2.1 _ hm];rfl
  ·rw[(pA.1 cl).2.1 _ hm];rfl
 unfold r2
 rw[hb,Bool.false_or]
 by_cases aw:j<(w.bA.length:Int)
 ·rw[W0 aA aw]
  have:hF w.ao (nth p.a_ (nth w.bA j).bi)=true:=cC _ (ee (by omega))
  rw[this];simp
 ·simp[aw]
theorem aeu {p:aQ} {w:Way} (h1:w.ao≠[]) (aw: ∀l∈[w.ao,w.dk,w.eb],jb l p.ao=true) (aD:w.bA.length≤30) (bj:w.cO.length≤30)
  (af: ∀j:Int,0≤j→j<(bY w).length→r2 p w j=false):((!(dup ((bY w).map (·.bi))))&&(!(meets w.ao w.dk)))=iW p w:=by
 have hb: ∀x∈bY w,(cb x.bi 0 (p.a_.length - 1)&&cb x.a1 1 2)=true:=fun x hx=>by
  have:=nI (q:=qZ p) (fun j cg eX=>by have:=af j cg eX;unfold r2 at this;exact(Bool.or_eq_false_iff.1 this).1) x hx
  rw[DR] at this
  simpa using this
 have hc: ∀x∈w.bA,w.ao.contains (nth p.a_ x.bi)=true:=fun x hx=>by
  have:=nI (q:=fun x=> !(hF w.ao (nth p.a_ x.bi))) (fun j cg eX=>by
   have:=af j cg (by unfold bY;rw[List.length_append];omega)
   unfold r2 at this
   have:=(Bool.or_eq_false_iff.1 this).2
   rw[W0 cg eX] at this
   simpa[eX] using this) x hx
  simp only[Bool.not_eq_false'] at this
  exact this
 rw[Bool.eq_iff_iff,ru]
 simp only[Bool.and_eq_true,Bool.not_eq_true',dup,Bool.not_eq_false',decide_eq_true_eq]
 constructor
 ·rintro⟨aW,hm⟩
  have pk:=Nz.1 aW
  exact⟨h1,aw _ (by simp),aw _ (by simp),aw _ (by simp),pA.2 ⟨aD,fun x hx=>hb x (by unfold bY;exact List.mem_append_left _ hx),pk.1⟩,pA.2 ⟨bj,fun x hx=>hb x (by unfold bY;exact List.mem_append_right _ hx),pk.2.1⟩,aW,hc,hm⟩
 ·rintro⟨-,-,-,-,-,-,aW,-,hm⟩
  exact⟨aW,hm⟩
theorem Q7 {p:aQ} {i k:Int} (aA:0≤i) (h1:0≤k):(((nth (nth p.bu i) k) !=(nth (nth p.bu k) i)) || ((i !=k)&&((!(nth (nth p.bu i) k))&&(meets (nth p.O i).ao (nth p.O k).ao))))=rz p i.toNat k.toNat:=by
 unfold rz vg
 rw[Int.toNat_of_nonneg aA,Int.toNat_of_nonneg h1]
 have:(i !=k)=decide (i.toNat≠k.toNat):=by
  rw[Bool.eq_iff_iff];simp;omega
 rw[this,Bool.and_assoc]
def tb (n:Int) (e:Event):Bool:=decide (e.aC ≥ 0)&&decide (e.aC<n)
theorem D6 (x a b:Int):(bif (x==a) then(x==a) else(x==b))=decide (x=a∨x=b):=by
 by_cases h:x=a
 ·simp[h]
 ·have h1:(x==a)=false:=by simp[h]
  rw[h1,Bool.eq_iff_iff]
  simp[h]
theorem Kc {p:aQ} {e:Event} (h:e.op=1∨e.op=2):hE p e=(cb e.aC 0 (p.O.length - 1)&&decide (e.a1=0)):=by unfold hE;rw[if_pos h]
theorem Kd {p:aQ} {e:Event} (h1: ¬(e.op=1∨e.op=2)) (h:e.op=3∨e.op=4):hE p e=(cb e.aC 0 (p.ao - 1)&&decide (e.a1=0)):=by unfold hE;rw[if_neg h1,if_pos h]
theorem Ke {p:aQ} {e:Event} (h:e.op=5):hE p e=(cb e.aC 0 (p.a_.length - 1)&&cb e.a1 0 2):=by unfold hE;simp[h]
theorem Kf {p:aQ} {e:Event} (h:e.op=6):hE p e=(cb e.aC 0 (p.a_.length - 1)&&cb e.a1 1 2):=by unfold hE;simp[h]
theorem RX {p:aQ} {e:Event} (h:e.op=7):hE p e=(decide (e.aC=0)&&decide (e.a1=0)):=by unfold hE;simp[h]
theorem RZ {p:aQ} {e:Event} (h1: ¬(e.op=1∨e.op=2)) (aD: ¬(e.op=3∨e.op=4)) (cl:e.op≠5) (cC:e.op≠6) (hM:e.op≠7):hE p e=false:=by unfold hE;rw[if_neg h1,if_neg aD,if_neg cl,if_neg cC,if_neg hM]
theorem sA (x y:Int):(x==y)=decide (x=y):=by rw[Bool.eq_iff_iff];simp
theorem Qe (n:Int) (e:Event):tb n e=cb e.aC 0 (n - 1):=by
 unfold tb cb
 rw[Bool.eq_iff_iff];simp;omega
theorem alc (p:aQ):((iO p).code==0)=iB p:=by
 have key:(iO p).code=0→(iO p).pos=0:=by
  unfold iO A8 A9 q6
  split
  ·split
   ·intro h;cases h
   ·split
    ·intro h;cases h
    ·split
     ·split
      ·intro h;cases h
      ·split
       ·intro h;cases h
       ·intro _;rfl
     ·intro h;cases h
  ·intro h;cases h
 unfold iB
 rw[Bool.eq_iff_iff]
 simp only[beq_iff_eq,decide_eq_true_eq]
 constructor
 ·intro h
  have:=key h
  cases U:iO p with
  | mk c q=>rw[U] at h this;simp at h this;rw[h,this]
 ·intro h;rw[h]
theorem alb (p:aQ):((iO p).code==0&&(iO p).pos==0)=iB p:=by
 unfold iB
 rw[Bool.eq_iff_iff]
 simp only[Bool.and_eq_true,beq_iff_eq,decide_eq_true_eq]
 constructor
 ·rintro⟨h1,h2⟩
  cases U:iO p with
  | mk c q=>rw[U] at h1 h2;simp at h1 h2;rw[h1,h2]
 ·intro h;rw[h];exact⟨rfl,rfl⟩
theorem ala {p:aQ} (h:iB p=true):mn p=true:=by
 cases hb:mn p with
 | true=>rfl
 | false=>unfold iB at h;rw[NN hb] at h;simp at h
def my (f:Frame):Prop:=f.aB.length≤1048576∧f.au.length≤1048576∧f.O.length≤1048576∧ ∀h∈f.O,h.ae.length≤1048576
structure tL (p:aQ):Prop where
 c0:0≤p.ao∧p.ao≤60
 O:p.O.length≤100
 bi:p.a_.length≤40
 ao: ∀w∈p.O,w.ao≠[]∧w.ao.length≤30∧ ∀x∈w.ao,0≤x∧x<p.ao
 dk: ∀w∈p.O,w.dk.length≤30∧ ∀x∈w.dk,0≤x∧x<p.ao
 eb: ∀w∈p.O,w.eb.length≤30∧ ∀x∈w.eb,0≤x∧x<p.ao
 bA: ∀w∈p.O,w.bA.length≤30∧w.cO.length≤30∧ ∀x∈bY w,0≤x.bi∧x.bi<p.a_.length
 a_: ∀x∈p.a_,0≤x∧x<p.ao
structure iG (p:aQ) (f:Frame):Prop where
 aB:(f.aB.length:Int)=p.ao
 au:f.au.length=p.a_.length
 O:f.O.length=p.O.length
 ae: ∀(i:Nat) (h:av) (w:Way),f.O[i]?=some h→p.O[i]?=some w→h.ae.length=w.ao.length
 ba: ∀h∈f.O,0≤h.ba∧h.ba≤h.ae.length
def gE (f:Frame) (x:Int):Bool:=nth f.aB x
def h8 (f:Frame) (l:List Int):Bool:=l.any (gE f)
def yQ (f:Frame) (l:List Int):Prop:= ∀x∈l,0≤x∧x<f.aB.length
def jd (p:aQ) (f:Frame) (i:Int):Bool:=
 (bY (nth p.O i)).all (fun l=>decide (nth f.au l.bi=⟨l.a1,l.a1⟩))&& !h8 f (nth p.O i).ao&& !h8 f (nth p.O i).dk
def Ba (p:aQ) (f:Frame) (i:Int):Prop:=tL p∧iG p f∧0≤i∧i<p.O.length
def pu (n:Nat):av:=⟨0,0,List.replicate n false,false,0⟩
def dE (p:aQ) (i:Int):av:=pu (nth p.O i).ao.length
def DB (p:aQ) (i:Int):Prop:=tL p∧0≤i∧i<p.O.length
def lm (s:List Int) (f:Frame) (ae:List Bool):Nat→Nat→Nat
 | 0,g=>g
 | n+1,g=>if g<s.length∧ae.getD g false=true∧gE f (s.getD g 0)=false∧(g+1=s.length∨ae.getD (g+1) false=true) then lm s f ae n (g+1) else g
def pD (s:List Int) (f:Frame) (h:av):av:=
 let ae:=List.zipWith (fun b x=>b || gE f x) h.ae s
 let g:=lm s f ae s.length h.ba.toNat
 if g=s.length then pu s.length else{h with ae:=ae,ba:=g}
def o2 (p:aQ) (f:Frame) (i:Nat):av:=
 let h:=nth f.O i
 let s:=(nth p.O i).ao
 if h.aJ=0 then h else
 let h:=if h.aJ≠4∧gE f (nth s 0)=true then{h with aJ:=4,bR:=0} else h
 let h:=if h.aJ=1∨h.aJ=2 then(if jd p f i=true then{h with aJ:=2,bS:=true} else{h with aJ:=1}) else h
 if h.aJ=4 then pD s f h else h
def kl (p:aQ):Nat→Frame→Frame
 | 0,f=>f
 | n+1,f=>let g:=kl p n f;{g with O:=g.O.set n (o2 p g n)}
def eJ (p:aQ) (f:Frame):Frame:=kl p f.O.length f
def yN (p:aQ) (f:Frame):Prop:=tL p∧iG p f
structure dp (V:List av) (ids:List Nat) (v:Int) (h:av) (ws:List av) (bs:List (List Bool)):Prop where
 ok:me ws ids bs
 lD: ∀i j k:Nat,ids[i]?=some k→ids[j]?=some k→i=j
 lt:v.toNat<ws.length
 io:view ws ids bs=V.set v.toNat h
 len: ∀b∈bs,b.length≤1048576
section
variable {V:List av} {ids:List Nat} {v:Int} {h:av} {ws:List av} {bs:List (List Bool)}
theorem dp.fR (F:dp V ids v h ws bs):ws.length=ids.length∧v.toNat<ws.length:=⟨F.ok.len,F.lt⟩
theorem dp.wT (F:dp V ids v h ws bs):V.length=ws.length:=by
 have:=congrArg List.length F.io
 rw[jJ F.ok,List.length_set] at this;exact this.symm
theorem dp.id (F:dp V ids v h ws bs):ids[v.toNat]?=some (nth ids v):=h7 (by rw[←F.ok.len];exact F.lt)
theorem dp.s4 (F:dp V ids v h ws bs):nth ids v<bs.length:=F.ok.lt _ _ F.id
theorem dp.row (F:dp V ids v h ws bs):h={nth ws v with ae:=bs.getD (nth ids v) []}:=by
 have h1:=wS (bs:=bs) (h7 F.lt) F.id
 rw[F.io,List.getElem?_set_self (by rw[F.wT];exact F.lt)] at h1
 exact Option.some.inj h1
theorem dp.aJ (F:dp V ids v h ws bs):(nth ws v).aJ=h.aJ:=by rw[F.row]
theorem dp.ba (F:dp V ids v h ws bs):(nth ws v).ba=h.ba:=by rw[F.row]
theorem dp.bS (F:dp V ids v h ws bs):(nth ws v).bS=h.bS:=by rw[F.row]
theorem dp.bR (F:dp V ids v h ws bs):(nth ws v).bR=h.bR:=by rw[F.row]
theorem dp.ae (F:dp V ids v h ws bs):bs.getD (nth ids v) []=h.ae:=by rw[F.row]
theorem dp.sB (F:dp V ids v h ws bs):(nth ws v).ae.length=h.ae.length:=by
 rw[←F.ae];exact F.ok.ae _ _ _ (h7 F.lt) F.id
theorem dp.start (ok:me ws ids bs) (lD: ∀i j k:Nat,ids[i]?=some k→ids[j]?=some k→i=j) (lt:v.toNat<ws.length) (io:view ws ids bs=V) (len: ∀b∈bs,b.length≤1048576):dp V ids v (nth V v) ws bs:=by
 have aw:v.toNat<V.length:=by rw[←io,jJ ok];exact lt
 exact⟨ok,lD,lt,by rw[io,iN aw];exact(List.set_getElem_self _).symm,len⟩
theorem dp.tq (F:dp V ids v h ws bs) (x:av) (hx:x.ae.length=h.ae.length):dp V ids v {x with ae:=h.ae} (ws.set v.toNat x) bs where
 ok:=⟨by rw[List.length_set];exact F.ok.len,F.ok.lt,fun i id y h1 h2=>by
  rw[List.getElem?_set] at h1
  split at h1
  ·rename_i e;subst e
   rw[if_pos F.lt] at h1;cases h1
   rw[F.id] at h2;cases h2
   rw[hx,F.ae]
  ·exact F.ok.ae i id y h1 h2⟩
 lD:=F.lD
 lt:=by rw[List.length_set];exact F.lt
 io:=by
  apply List.ext_getElem?
  intro j
  have ah:=congrArg (·[j]?) F.io
  simp only[view,List.getElem?_zipWith,List.getElem?_set] at ah ⊢
  by_cases e:v.toNat=j
  ·subst e
   have hv:=F.wT
   have:=F.lt
   rw[if_pos rfl,if_pos rfl,if_pos this,if_pos (by omega),F.id]
   show some _=some _
   rw[F.ae]
  ·rw[if_neg e] at ah ⊢
   rw[if_neg e];exact ah
 len:=F.len
theorem dp.setState (F:dp V ids v h ws bs) (x:Int):dp V ids v {h with aJ:=x} (ws.set v.toNat ({aJ:=x,ba:=(nth ws v).ba,ae:=(nth ws v).ae,bS:=(nth ws v).bS,bR:=(nth ws v).bR}:av)) bs:=by
 have:=F.tq ({aJ:=x,ba:=(nth ws v).ba,ae:=(nth ws v).ae,bS:=(nth ws v).bS,bR:=(nth ws v).bR}:av) F.sB
 simpa only[F.ba,F.bS,F.bR] using this
theorem dp.YB (F:dp V ids v h ws bs) (x:Int):dp V ids v {h with ba:=x} (ws.set v.toNat ({aJ:=(nth ws v).aJ,ba:=x,ae:=(nth ws v).ae,bS:=(nth ws v).bS,bR:=(nth ws v).bR}:av)) bs:=by
 have:=F.tq ({aJ:=(nth ws v).aJ,ba:=x,ae:=(nth ws v).ae,bS:=(nth ws v).bS,bR:=(nth ws v).bR}:av) F.sB
 simpa only[F.aJ,F.bS,F.bR] using this
theorem dp.YE (F:dp V ids v h ws bs) (x:Bool):dp V ids v {h with bS:=x} (ws.set v.toNat ({aJ:=(nth ws v).aJ,ba:=(nth ws v).ba,ae:=(nth ws v).ae,bS:=x,bR:=(nth ws v).bR}:av)) bs:=by
 have:=F.tq ({aJ:=(nth ws v).aJ,ba:=(nth ws v).ba,ae:=(nth ws v).ae,bS:=x,bR:=(nth ws v).bR}:av) F.sB
 simpa only[F.aJ,F.ba,F.bR] using this
theorem dp.Bs (F:dp V ids v h ws bs) (x:Int):dp V ids v {h with bR:=x} (ws.set v.toNat ({aJ:=(nth ws v).aJ,ba:=(nth ws v).ba,ae:=(nth ws v).ae,bS:=(nth ws v).bS,bR:=x}:av)) bs:=by
 have:=F.tq ({aJ:=(nth ws v).aJ,ba:=(nth ws v).ba,ae:=(nth ws v).ae,bS:=(nth ws v).bS,bR:=x}:av) F.sB
 simpa only[F.aJ,F.ba,F.bS] using this
theorem dp.Oo (F:dp V ids v h ws bs) (b:List Bool) (hb:b.length=h.ae.length):dp V ids v {h with ae:=b} ws (bs.set (nth ids v) b) where
 ok:=⟨F.ok.len,fun i id hi=>by rw[List.length_set];exact F.ok.lt i id hi,fun i id y h1 h2=>by
  rw[F.ok.ae i id y h1 h2,List.getD_eq_getElem?_getD,List.getD_eq_getElem?_getD,List.getElem?_set]
  split
  ·rename_i e;subst e
   rw[if_pos F.s4,←List.getD_eq_getElem?_getD,F.ae];exact hb.symm
  ·rfl⟩
 lD:=F.lD
 lt:=F.lt
 io:=by
  apply List.ext_getElem?
  intro j
  have ah:=congrArg (·[j]?) F.io
  simp only[view,List.getElem?_zipWith,List.getElem?_set] at ah ⊢
  by_cases e:v.toNat=j
  ·subst e
   have hv:=F.wT
   have:=F.lt
   rw[if_pos rfl,if_pos (by omega),F.id,h7 F.lt]
   simp only[List.getD_eq_getElem?_getD,List.getElem?_set,if_pos F.s4]
   rw[F.row];simp
  ·rw[if_neg e] at ah ⊢
   rw[←ah]
   cases h1:ws[j]? with
   | none=>rfl
   | some y=>
    cases h2:ids[j]? with
    | none=>rfl
    | some id=>
     have bq:nth ids v≠id:=fun hid=>by
      have aD:=F.id
      rw[hid] at aD
      exact e (F.lD _ _ _ aD h2)
     simp only[List.getD_eq_getElem?_getD,List.getElem?_set,if_neg bq]
 len:=fun x hx=>by
  rcases List.mem_or_eq_of_mem_set hx with hx | rfl
  ·exact F.len x hx
  ·rw[hb,←F.ae,List.getD_eq_getElem?_getD,List.getElem?_eq_getElem F.s4];exact F.len _ (List.getElem_mem F.s4)
theorem dp.new (F:dp V ids v h ws bs) (x:av) (hx:x.ae.length≤1048576):dp V (ids.set v.toNat bs.length) v x (ws.set v.toNat x) (bs++[x.ae]) where
 ok:=⟨by rw[List.length_set,List.length_set];exact F.ok.len,fun i id hi=>by
   rw[List.getElem?_set] at hi
   rw[List.length_append,List.length_singleton]
   split at hi
   ·split at hi
    ·cases hi;omega
    ·cases hi
   ·have:=F.ok.lt i id hi;omega,fun i id y h1 h2=>by
   rw[List.getElem?_set] at h1 h2
   split at h1
   ·rename_i e;subst e
    have:=F.ok.len
    have:=F.lt
    rw[if_pos F.lt] at h1;rw[if_pos rfl,if_pos (by omega)] at h2
    cases h1;cases h2;simp
   ·rename_i e
    rw[if_neg e] at h2
    rw[F.ok.ae i id y h1 h2,List.getD_eq_getElem?_getD,List.getD_eq_getElem?_getD,List.getElem?_append_left (F.ok.lt i id h2)]⟩
 lD:=fun i j k hi ah=>by
  rw[List.getElem?_set] at hi ah
  have aM: ∀q,ids[q]?≠some bs.length:=fun q U=>by have:=F.ok.lt q _ U;omega
  split at hi
  ·rename_i e;subst e
   split at hi
   ·cases hi
    split at ah
    ·rename_i e;exact e
    ·exact absurd ah (aM j)
   ·cases hi
  ·split at ah
   ·rename_i e;subst e
    split at ah
    ·cases ah;exact absurd hi (aM i)
    ·cases ah
   ·exact F.lD i j k hi ah
 lt:=by rw[List.length_set];exact F.lt
 io:=by
  apply List.ext_getElem?
  intro j
  have ah:=congrArg (·[j]?) F.io
  simp only[view,List.getElem?_zipWith,List.getElem?_set] at ah ⊢
  by_cases e:v.toNat=j
  ·subst e
   have hv:=F.wT
   have:=F.lt
   have:=F.ok.len
   rw[if_pos rfl,if_pos rfl,if_pos rfl,if_pos F.lt,if_pos (by omega),if_pos (by omega)]
   simp
  ·rw[if_neg e] at ah ⊢
   rw[if_neg e,if_neg e,←ah]
   cases h1:ws[j]? with
   | none=>rfl
   | some y=>
    cases h2:ids[j]? with
    | none=>rfl
    | some id=>
     simp only
     rw[List.getD_eq_getElem?_getD,List.getD_eq_getElem?_getD,List.getElem?_append_left (F.ok.lt j id h2)]
 len:=fun b hb=>by
  rcases List.mem_append.1 hb with hb | hb
  ·exact F.len b hb
  ·rw[List.mem_singleton.1 hb];exact hx
end
theorem CT (ws:List av):me ws (List.range ws.length) (ws.map av.ae)∧(∀i j k:Nat,(List.range ws.length)[i]?=some k→(List.range ws.length)[j]?=some k→i=j)∧view ws (List.range ws.length) (ws.map av.ae)=ws:=by
 refine⟨⟨by simp,fun i id h=> ?_,fun i id h h1 h2=> ?_⟩,fun i j k h1 h2=> ?_,?_⟩
 ·obtain⟨hi,rfl⟩:=List.getElem?_eq_some_iff.1 h
  simpa using hi
 ·obtain⟨hi,rfl⟩:=List.getElem?_eq_some_iff.1 h2
  simp[h1]
 ·obtain⟨hi,rfl⟩:=List.getElem?_eq_some_iff.1 h1
  obtain⟨ah,e⟩:=List.getElem?_eq_some_iff.1 h2
  simpa using e.symm
 ·apply List.ext_getElem?
  intro j
  unfold view
  rw[List.getElem?_zipWith]
  rcases Nat.lt_or_ge j ws.length with ah | ah
  ·rw[List.getElem?_range ah,List.getElem?_eq_getElem ah]
   simp[ah]
  ·rw[List.getElem?_eq_none ah]
theorem Bu (p:aQ) (f:Frame): ∀n,(kl p n f).ok=f.ok∧(kl p n f).aB=f.aB∧(kl p n f).au=f.au
 | 0=>⟨rfl,rfl,rfl⟩
 | n+1=>Bu p f n
theorem SE {s:List Int} {f:Frame} {ae:List Bool}: ∀(n g:Nat),g≤s.length→g≤lm s f ae n g∧lm s f ae n g≤s.length
 | 0,g,h=>⟨Nat.le_refl _,h⟩
 | n+1,g,h=>by
  unfold lm
  split
  ·rename_i hc
   have:=SE (f:=f) (ae:=ae) n (g+1) hc.1
   exact⟨by omega,this.2⟩
  ·exact⟨Nat.le_refl _,h⟩
theorem ak2 {s:List Int} {f:Frame} {h:av} (hb:h.ae.length=s.length) (aE:0≤h.ba∧h.ba≤h.ae.length):(pD s f h).ae.length=s.length∧0≤(pD s f h).ba∧(pD s f h).ba≤(pD s f h).ae.length:=by
 unfold pD
 simp only
 have aw:(List.zipWith (fun b x=>b || gE f x) h.ae s).length=s.length:=by rw[List.length_zipWith];omega
 have bw:=(SE (s:=s) (f:=f) (ae:=List.zipWith (fun b x=>b || gE f x) h.ae s) s.length h.ba.toNat (by omega)).2
 split
 ·simp[pu]
 ·exact⟨aw,Int.natCast_nonneg _,by simp only;rw[aw];omega⟩
theorem an2 {p:aQ} {f:Frame} {i:Nat} (hb:(nth f.O i).ae.length=(nth p.O i).ao.length) (aE:0≤(nth f.O i).ba∧(nth f.O i).ba≤(nth f.O i).ae.length):
  (o2 p f i).ae.length=(nth p.O i).ao.length∧0≤(o2 p f i).ba∧(o2 p f i).ba≤(o2 p f i).ae.length:=by
 unfold o2
 simp only
 split
 ·exact⟨hb,aE⟩
 ·have h1: ∀(c:Prop) [Decidable c] (x y:av),x.ae=y.ae→x.ba=y.ba→(if c then x else y).ae=y.ae∧(if c then x else y).ba=y.ba:=fun c _ x y aG e2=>by
   split
   ·exact⟨aG,e2⟩
   ·exact⟨rfl,rfl⟩
  generalize cu:(if(nth f.O i).aJ≠4∧gE f (nth (nth p.O i).ao 0)=true then{nth f.O i with aJ:=4,bR:=0} else nth f.O i)=A
  have oA:A.ae=(nth f.O i).ae∧A.ba=(nth f.O i).ba:=by rw[←cu];exact h1 _ _ _ rfl rfl
  generalize dq:(if A.aJ=1∨A.aJ=2 then(if jd p f i=true then{A with aJ:=2,bS:=true} else{A with aJ:=1}) else A)=B
  have KM:B.ae=(nth f.O i).ae∧B.ba=(nth f.O i).ba:=by
   rw[←dq,←oA.1,←oA.2]
   exact h1 _ _ _ (by split<;>rfl) (by split<;>rfl)
  have aG:B.ae.length=(nth p.O i).ao.length:=by rw[KM.1];exact hb
  have e2:0≤B.ba∧B.ba≤B.ae.length:=by rw[KM.1,KM.2];exact aE
  split
  ·exact ak2 aG e2
  ·exact⟨aG,e2⟩
theorem Bt {p:aQ} {f:Frame} (h:iG p f): ∀n,iG p (kl p n f)
 | 0=>h
 | n+1=>by
  have bz:=Bt h n
  show iG p {kl p n f with O:=(kl p n f).O.set n (o2 p (kl p n f) n)}
  have key:n<(kl p n f).O.length→(o2 p (kl p n f) n).ae.length=(nth p.O n).ao.length∧0≤(o2 p (kl p n f) n).ba∧(o2 p (kl p n f) n).ba≤(o2 p (kl p n f) n).ae.length:=fun af=>by
   have hw:=bz.O
   have h1:(kl p n f).O[n]?=some (nth (kl p n f).O n):=by rw[k2 af];exact List.getElem?_eq_getElem af
   have h2:p.O[n]?=some (nth p.O n):=by rw[k2 (by omega)];exact List.getElem?_eq_getElem (by omega)
   exact an2 (bz.ae n _ _ h1 h2) (bz.ba _ (List.mem_of_getElem? h1))
  refine⟨bz.aB,bz.au,by rw[List.length_set];exact bz.O,fun i x w h1 h2=> ?_,fun x hx=> ?_⟩
  ·replace h1:((kl p n f).O.set n (o2 p (kl p n f) n))[i]?=some x:=h1
   rw[List.getElem?_set] at h1
   split at h1
   ·rename_i e;subst e
    split at h1
    ·rename_i af
     cases h1
     have hw:=bz.O
     rw[(key af).1,k2 (by omega)]
     rw[List.getElem?_eq_getElem (by omega)] at h2
     cases h2;rfl
    ·cases h1
   ·exact bz.ae i x w h1 h2
  ·rcases List.mem_or_eq_of_mem_set hx with hx | rfl
   ·exact bz.ba x hx
   ·by_cases af:n<(kl p n f).O.length
    ·exact(key af).2
    ·rw[List.set_eq_of_length_le (by omega)] at hx
     exact bz.ba _ hx
theorem wD (p:aQ) (f:Frame): ∀n,(kl p n f).O.length=f.O.length
 | 0=>rfl
 | n+1=>by show((kl p n f).O.set n _).length=_;rw[List.length_set];exact wD p f n
theorem XK {p:aQ} {f g:Frame} {i:Int} (h1:f.aB=g.aB) (h2:f.au=g.au):jd p f i=jd p g i:=by
 unfold jd h8 gE
 rw[h1,h2]
def k9 (s:List Int) (f:Frame) (b:List Bool) (v:Nat):List Bool:=List.zipWith (fun b x=>b || gE f x) (b.take v) (s.take v)++b.drop v
theorem Qo {s:List Int} {f:Frame} {b:List Bool} {v:Nat} (aw:b.length=s.length) (hv:v≤s.length):(k9 s f b v).length=b.length:=by
 unfold k9
 rw[List.length_append,List.length_zipWith,List.length_take,List.length_take,List.length_drop];omega
theorem aaz (s:List Int) (f:Frame) (b:List Bool):k9 s f b 0=b:=by simp[k9]
theorem aaB {s:List Int} {f:Frame} {b:List Bool} {v:Nat} (aw:b.length=s.length) (hv:s.length≤v):k9 s f b v=List.zipWith (fun b x=>b || gE f x) b s:=by
 unfold k9
 rw[List.take_of_length_le (by omega),List.take_of_length_le hv,List.drop_of_length_le (by omega),List.append_nil]
theorem aaA {s:List Int} {f:Frame} {b:List Bool} {v:Nat} (aw:b.length=s.length) (hv:v<s.length):nth (k9 s f b v) v=b[v]:=by
 rw[k2 (by rw[Qo aw (by omega)];omega)]
 unfold k9
 rw[List.getElem_append_right (by rw[List.length_zipWith,List.length_take,List.length_take];omega)]
 simp only[List.length_zipWith,List.length_take,List.getElem_drop]
 congr 1;omega
theorem aaC {s:List Int} {f:Frame} {b:List Bool} {v:Nat} (aw:b.length=s.length) (hv:v<s.length):(k9 s f b v).set v (b[v] || gE f s[v])=k9 s f b (v+1):=by
 unfold k9
 have hlen:(List.zipWith (fun b x=>b || gE f x) (b.take v) (s.take v)).length=v:=by rw[List.length_zipWith,List.length_take,List.length_take];omega
 rw[List.set_append_right _ _ (by omega),hlen,Nat.sub_self,List.take_succ_eq_append_getElem (by omega),List.take_succ_eq_append_getElem hv,List.zipWith_append (by rw[List.length_take,List.length_take];omega),List.append_assoc]
 congr 1
 rw[List.drop_eq_getElem_cons (by omega:v<b.length)]
 rfl
def pi (s:List Int) (f:Frame) (ae:List Bool) (g:Int):Bool:=
 decide (g<(s.length:Int))&&(nth ae g&&((!(nth f.aB (nth s g)))&&((g==IntKind.i64.wrap ((s.length:Int) - 1)) || nth ae (IntKind.i64.wrap (g+1)))))
theorem SA {s:List Int} {f:Frame} {ae:List Bool} {g:Nat} (hs:s.length≤1048576) (aE:g≤s.length):
  pi s f ae g=true↔g<s.length∧ae.getD g false=true∧gE f (s.getD g 0)=false∧(g+1=s.length∨ae.getD (g+1) false=true):=by
 unfold pi
 rw[jK (by omega) (by omega),jK (by omega) (by omega)]
 have aG:nth ae (g:Int)=ae.getD g false:=rfl
 have e2:nth ae ((g:Int)+1)=ae.getD (g+1) false:=rfl
 have dg:nth s (g:Int)=s.getD g 0:=rfl
 rw[aG,e2,dg]
 simp only[Bool.and_eq_true,Bool.or_eq_true,decide_eq_true_eq,Bool.not_eq_true',beq_iff_eq]
 constructor
 ·rintro⟨h1,h2,aD,bj⟩;exact⟨by omega,h2,aD,bj.imp (fun h=>by omega) _root_.id⟩
 ·rintro⟨h1,h2,aD,bj⟩;exact⟨by omega,h2,aD,bj.imp (fun h=>by omega) _root_.id⟩
def zU (s:List Int) (f:Frame) (ae:List Bool) (g0 g:Int):Prop:=0≤g∧g≤s.length∧lm s f ae s.length g0.toNat=lm s f ae (s.length - g.toNat) g.toNat
theorem KH {s:List Int} {f:Frame} {ae:List Bool} {n g:Nat} (h: ¬(g<s.length∧ae.getD g false=true∧gE f (s.getD g 0)=false∧(g+1=s.length∨ae.getD (g+1) false=true))):lm s f ae n g=g:=by
 cases n with
 | zero=>rfl
 | succ n=>unfold lm;rw[if_neg h]
theorem SD {s:List Int} {f:Frame} {ae:List Bool}: ∀(n m g:Nat),s.length≤n+g→s.length≤m+g→lm s f ae n g=lm s f ae m g
 | 0,m,g,h1,h2=>by
  rw[KH (n:=m) fun h=>by omega];rfl
 | n+1,0,g,h1,h2=>by rw[KH (n:=n+1) fun h=>by omega];rfl
 | n+1,m+1,g,h1,h2=>by
  unfold lm
  split
  ·exact SD n m (g+1) (by omega) (by omega)
  ·rfl
theorem SB {s:List Int} {f:Frame} {ae:List Bool} {g:Int} (aA:0≤g) (h1:g≤s.length):zU s f ae g g:=⟨aA,h1,SD _ _ _ (by omega) (by omega)⟩
theorem SC {s:List Int} {f:Frame} {ae:List Bool} {g0 g:Int} (hs:s.length≤1048576) (h:zU s f ae g0 g) (hc:pi s f ae g=true):zU s f ae g0 (IntKind.i64.wrap (g+1))∧g<s.length:=by
 obtain⟨aA,h1,h2⟩:=h
 obtain⟨k,rfl⟩:=Int.eq_ofNat_of_zero_le aA
 have hc:=(SA hs (by omega)).1 hc
 rw[jK (by omega) (by omega)]
 refine⟨⟨by omega,by omega,?_⟩,by omega⟩
 rw[h2]
 simp only[Int.toNat_natCast]
 rw[show((k:Int)+1).toNat=k+1 by omega,show s.length - k=(s.length - (k+1))+1 by omega]
 conv=>lhs;unfold lm
 rw[if_pos hc]
theorem KG {s:List Int} {f:Frame} {ae:List Bool} {g0 g:Int} (hs:s.length≤1048576) (h:zU s f ae g0 g) (hc:pi s f ae g=false):(lm s f ae s.length g0.toNat:Int)=g:=by
 obtain⟨aA,h1,h2⟩:=h
 obtain⟨k,rfl⟩:=Int.eq_ofNat_of_zero_le aA
 rw[h2]
 simp only[Int.toNat_natCast]
 rw[KH fun bw=>by rw[(SA hs (by omega)).2 bw] at hc;cases hc]
def Ot (p:aQ) (f:Frame) (bs:List (List Bool)) (ids:List Nat) (v:Int) (ws:List av):Prop:=
 cq f.O.length (fun _=>false) v∧me ws ids bs∧(∀i j k:Nat,ids[i]?=some k→ids[j]?=some k→i=j)∧view ws ids bs=(kl p v.toNat f).O∧ ∀b∈bs,b.length≤1048576
def dO (p:aQ) (f:Frame) (v:Int):Frame:=kl p v.toNat f
def c0 (p:aQ) (v:Int):List Int:=(nth p.O v).ao
def iP (p:aQ) (f:Frame) (v:Int):av:=
 let G:=dO p f v
 let h:=nth G.O v
 if h.aJ≠4∧gE G (nth (c0 p v) 0)=true then{h with aJ:=4,bR:=0} else h
def hy (p:aQ) (f:Frame) (v:Int):av:=
 let h:=iP p f v
 if h.aJ=1∨h.aJ=2 then(if jd p (dO p f v) v=true then{h with aJ:=2,bS:=true} else{h with aJ:=1}) else h
def sy (p:aQ) (f:Frame) (v:Int):List Bool:=List.zipWith (fun b x=>b || gE (dO p f v) x) (hy p f v).ae (c0 p v)
theorem aah {p:aQ} {f:Frame} {v:Int} (aA:0≤v):o2 p (dO p f v) v.toNat=if(nth (dO p f v).O v).aJ=0 then nth (dO p f v).O v else if(hy p f v).aJ=4 then pD (c0 p v) (dO p f v) (hy p f v) else hy p f v:=by
 unfold o2 hy iP c0
 rw[ml aA,ml aA,Int.toNat_of_nonneg aA]
theorem wi {p:aQ} {f:Frame} {v:Int}:(iP p f v).ae=(nth (dO p f v).O v).ae∧(iP p f v).ba=(nth (dO p f v).O v).ba:=by
 unfold iP;simp only;split<;>exact⟨rfl,rfl⟩
theorem HE {p:aQ} {f:Frame} {v:Int}:(hy p f v).ae=(nth (dO p f v).O v).ae∧(hy p f v).ba=(nth (dO p f v).O v).ba:=by
 rw[←wi.1,←wi.2]
 unfold hy;simp only;split
 ·split<;>exact⟨rfl,rfl⟩
 ·exact⟨rfl,rfl⟩
theorem yM {p:aQ} {f:Frame} {v:Int} {h:av} {ws:List av} {ids:List Nat} {bs:List (List Bool)} (af:(f.O.length:Int)≤4611686018427387904) (aN:cq f.O.length (fun _=>false) v) (hv:decide (v<(f.O.length:Int))=true)
  (F:dp (dO p f v).O ids v h ws bs) (bw:h=o2 p (dO p f v) v.toNat):Ot p f bs ids (IntKind.i64.wrap (v+1)) ws∧cI f.O.length (IntKind.i64.wrap (v+1))<cI f.O.length v:=by
 have a7:=dn af aN hv rfl
 refine⟨⟨a7.1,F.ok,F.lD,?_,F.len⟩,a7.2⟩
 have aA:=aN.1
 have hv:v<(f.O.length:Int):=by simpa using hv
 rw[mE af aA hv,show(v+1).toNat=v.toNat+1 by omega,F.io,bw]
 rfl
def GL (j:Int) (k:Bool) (o:List Bool) (q:List bP) (w:List av) (i:List Nat) (b:List (List Bool)):Prop:=gL w i b∧0≤j∧j<w.length
def xW (j:Int) (k:Bool) (o:List Bool) (q:List bP) (w:List av) (i:List Nat) (b:List (List Bool)) (ij:List Bool) (wj:List bP) (w':List av) (gZ:List Nat) (bU:List (List Bool)):Prop:=
 gL w' gZ bU∧view w' gZ bU=(view w i b).set j.toNat (pu (nth (view w i b) j).ae.length)
def cX (k:Bool) (o:List Bool) (q:List bP) (w:List av) (i:List Nat) (b:List (List Bool)):Frame:=⟨k,o,q,view w i b⟩
def Xy (s:Way) (j:Int) (k:Bool) (o:List Bool) (q:List bP) (w:List av) (i:List Nat) (b:List (List Bool)):Prop:=
 gL w i b∧0≤j∧j<w.length∧s.ao.length≤1048576∧(∀x∈s.ao,0≤x∧x<o.length)∧(nth (view w i b) j).ae.length=s.ao.length∧0≤(nth (view w i b) j).ba∧(nth (view w i b) j).ba≤s.ao.length
def D8 (s:Way) (j:Int) (k:Bool) (o:List Bool) (q:List bP) (w:List av) (i:List Nat) (b:List (List Bool)) (ij:List Bool) (wj:List bP) (w':List av) (gZ:List Nat) (bU:List (List Bool)):Prop:=
 gL w' gZ bU∧view w' gZ bU=(view w i b).set j.toNat (pD s.ao (cX k o q w i b) (nth (view w i b) j))
def Ou (p:aQ) (k:Bool) (o:List Bool) (q:List bP) (w:List av) (i:List Nat) (b:List (List Bool)):Prop:=gL w i b∧yN p (cX k o q w i b)
def Eu (p:aQ) (k:Bool) (o:List Bool) (q:List bP) (w:List av) (i:List Nat) (b:List (List Bool)) (ij:List Bool) (wj:List bP) (w':List av) (gZ:List Nat) (bU:List (List Bool)):Prop:=
 gL w' gZ bU∧view w' gZ bU=(eJ p (cX k o q w i b)).O
def YA (f g:Frame):Prop:=f.O.length=g.O.length∧my f∧my g∧ ∀(i:Nat) (x y:av),f.O[i]?=some x→g.O[i]?=some y→x.ae.length=y.ae.length
def qu (f g:Frame):Bool:=decide (f.O=g.O)
def S1 (p:aQ) (f:Frame) (i:Int):Prop:=tL p∧my f∧f.O.length=p.O.length∧0≤i∧i<p.O.length
def h4 (p:aQ) (f:Frame) (i:Int):Bool:=
 let h:=nth f.O i
 let n:=(nth p.O i).ao.length
 cb h.aJ 0 4&&decide (h.ae.length=n)&&cb h.ba 0 ((n:Int) - 1)&&(decide (h.aJ=4) || (decide (h.ba=0)&&h.ae.all (fun b=> !b)))&&(h.ae.take h.ba.toNat).all (fun b=>b)&&
 (if h.aJ=3 then h.bS&&cb h.bR 1 p.cv else decide (h.bR=0)&&(decide (h.aJ≠0) || !h.bS)&&(decide (h.aJ≠2) || h.bS))
def Jj (p:aQ) (f:Frame):Bool:=(List.range f.O.length).all fun i=>(List.range f.O.length).all fun k=>decide (i=k) || !vg p i k || decide ((nth f.O i).aJ=0) || decide ((nth f.O k).aJ=0)
def h3 (p:aQ) (f:Frame):Bool:=
 iB p&&f.ok&&decide ((f.aB.length:Int)=p.ao)&&decide (f.au.length=p.a_.length)&&decide (f.O.length=p.O.length)&&
 f.au.all (fun x=>cb x.c6 1 2&&cb x.bA 0 2)&&(List.range f.O.length).all (fun i=>h4 p f i)&&Jj p f&&qu f (eJ p f)
def tW (p:aQ) (f:Frame):Prop:=my f
theorem z1 {xs:List Bool} {b:Bool}:lU xs b=true↔b∈xs:=by unfold lU;simp
theorem agK (xs:List Bool) (x:Bool):(decide (ur xs x ≥ 0))=lU xs x:=by
 unfold ur
 cases h:first xs (fun y=>x==y) with
 | none=>
  unfold first at h
  rw[List.findIdx?_eq_none_iff] at h
  have:lU xs x=false:=by
   rw[←Bool.not_eq_true,z1]
   intro hm
   have:=h x hm
   simp at this
  rw[this];rfl
 | some i=>
  unfold first at h
  rw[List.findIdx?_eq_some_iff_getElem] at h
  obtain⟨hi,hx,_⟩:=h
  have:lU xs x=true:=by
   rw[z1]
   have hx:x=xs[i]:=by simpa using hx
   rw[hx];exact List.getElem_mem hi
  rw[this]
  show decide ((i:Int) ≥ 0)=true
  simp
def yJ (a b:Frame):Bool:=eqv a.aB b.aB&&eqv a.au b.au&&eqv a.O b.O
def zL (a b:List av) (_:Unit):Bool:=eqv a b
def tf (f:Frame) (l:c8):Bool:=((nth f.au l.bi).c6 !=l.a1) || ((nth f.au l.bi).bA !=l.a1)
def XJ (p:aQ) (f:Frame) (i:Int):Prop:= ∀l∈bY (nth p.O i),tf f l=false
theorem NS (p:aQ) (f:Frame) (i:Int):jd p f i=((bY (nth p.O i)).all (fun l=> !tf f l)&& !h8 f (nth p.O i).ao&& !h8 f (nth p.O i).dk):=by
 have U: ∀l:c8,decide (nth f.au l.bi=⟨l.a1,l.a1⟩)= !tf f l:=fun l=>by
  unfold tf
  rcases nth f.au l.bi with⟨x,y⟩
  rw[Bool.eq_iff_iff];simp
 unfold jd
 simp only[U]
theorem Ql {α:Type} {x y:α} {v:Int} (aA:0≤v) (h1:v.toNat<[x,y].length):v=0∨v=1:=by simp at h1;omega
theorem gL.tN {w:List av} {i:List Nat} {b:List (List Bool)} {j:Int} (F:gL w i b) (h:j.toNat<w.length):dp (view w i b) i j (nth (view w i b) j) w b:=dp.start F.ok F.lD h rfl F.len
section
variable {V:List av} {ids dc:List Nat} {v:Int} {h x:av} {ws lL:List av} {bs nQ:List (List Bool)}
theorem dp.G (F:dp V ids v h ws bs):gL ws ids bs:=⟨F.ok,F.lD,F.len⟩
theorem dp.AZ (F:dp V ids v h ws bs):nth (view ws ids bs) v=h:=by
 rw[iN (by rw[jJ F.ok];exact F.lt)]
 simp only[F.io,List.getElem_set_self]
theorem dp.again (F:dp V ids v h ws bs) (G:gL lL dc nQ) (e:view lL dc nQ=(view ws ids bs).set v.toNat x):dp V dc v x lL nQ where
 ok:=G.ok
 lD:=G.lD
 lt:=by
  have:=congrArg List.length e
  rw[jJ G.ok,List.length_set,jJ F.ok] at this
  have:=F.lt;omega
 io:=by rw[e,F.io,List.set_set]
 len:=G.len
end
theorem ak3 {s:List Int} {f g:Frame} {h:av} (e:f.aB=g.aB):pD s f h=pD s g h:=by
 have an:gE f=gE g:=by funext x;unfold gE;rw[e]
 have aE: ∀(ae:List Bool) (n q:Nat),lm s f ae n q=lm s g ae n q:=fun ae n=>by
  induction n with
  | zero=>intro q;rfl
  | succ n bz=>intro q;unfold lm;rw[an,bz]
 unfold pD
 simp only[an,aE]
def pC (s:List Int) (f:Frame) (h:av):List Bool:=List.zipWith (fun b x=>b || gE f x) h.ae s
theorem Xx (s:List Int) (f:Frame) (h:av):pD s f h=if lm s f (pC s f h) s.length h.ba.toNat=s.length then pu s.length else{h with ae:=pC s f h,ba:=lm s f (pC s f h) s.length h.ba.toNat}:=rfl
def ak4 (s:List Int) (f:Frame) (V:List av) (ids:List Nat) (j:Int) (ws:List av) (bs:List (List Bool)) (k:Int):Prop:=
 cq s.length (fun _=>false) k∧dp V ids j {nth V j with ae:=k9 s f (nth V j).ae k.toNat} ws bs
def ak5 (s:List Int) (f:Frame) (V:List av) (ids:List Nat) (j:Int) (bs:List (List Bool)) (ws:List av):Prop:=
 ∃g,zU s f (pC s f (nth V j)) (nth V j).ba g∧dp V ids j {nth V j with ae:=pC s f (nth V j),ba:=g} ws bs
theorem an6 {s:List Int} {f:Frame} {ae:List Bool} {g:Int} (hs:s.length≤1048576) (h:decide (g<(s.length:Int))=true):
  ((!(nth ae g)) || ((nth f.aB (nth s g)) || ((decide (g<(IntKind.i64.wrap ((s.length:Int) - 1))))&&(!(nth ae (IntKind.i64.wrap (g+1)))))))= !pi s f ae g:=by
 unfold pi
 rw[h,Bool.true_and,jK (n:=(s.length:Int) - 1) (by omega) (by omega)]
 have:(g==(s.length:Int) - 1)= !decide (g<(s.length:Int) - 1):=by
  have h:g<(s.length:Int):=by simpa using h
  rw[Bool.eq_iff_iff];simp;omega
 rw[this]
 cases nth ae g<;>cases nth f.aB (nth s g)<;>cases decide (g<(s.length:Int) - 1)<;>cases nth ae (IntKind.i64.wrap (g+1))<;>rfl
def rA:List (Nat×TV)→Bool
 | []=>true
 | (k,_)::r=>match Nat.ble 1000010 k&&Nat.blt k 1000000000000 with
  | true=>rA r
  | false=>false
theorem Fp {l:List (Nat×TV)} (h:rA l=true) {k:Nat} (hk:k<1000010∨1000000000000≤k): ∀v,(k,v) ∉ l:=by
 induction l with
 | nil=>intro v hv;cases hv
 | cons p r bz=>
  obtain⟨a,w⟩:=p
  unfold rA at h
  split at h
  ·rename_i ar
   rw[Bool.and_eq_true,Nat.blt_eq] at ar
   intro v hv
   rcases List.mem_cons.1 hv with e | hv
   ·cases e;have:=Nat.le_of_ble_eq_true ar.1;have:=ar.2;omega
   ·exact bz h v hv
  ·cases h
def TS.add (s:TS) (l:List (Nat×TV)) (vs:List (Nat×Nat)) (be:Nat):TS:=⟨l++s.T,s.B,vs,be⟩
theorem TS.jS (s:TS) (l:List (Nat×TV)) (vs:List (Nat×Nat)) (be k:Nat):(s.add l vs be).get k=h6 l k (s.get k):=by
 unfold TS.get TS.add;exact ym ..
theorem CD {n:Nat} {s:TS} {l:List (Nat×TV)} {vs:List (Nat×Nat)} {be:Nat} (af:n≤1000000) (h:rA l=true):(s.add l vs be).tT n=s.tT n:=by
 show(List.range n).map _=(List.range n).map _
 refine List.map_congr_left fun t aY=> ?_
 have aY:t<n:=List.mem_range.1 aY
 rw[TS.jS,vS (Fp h (.inl (by omega)))]
theorem Hp {s s':TS} (e:s'.get dM=s.get dM):kg s'=kg s:=by unfold kg;rw[e]
theorem P5 [FZ] {n:Nat} {s s':TS} (hb:s'.be=s.be) (e: ∀b,s'.get (bI b)=s.get (bI b)) (bZ:s'.get dM=s.get dM):(s'.ap n).H=(s.ap n).H:=by
 show s'.hA++ig s'=s.hA++ig s
 unfold TS.hA ig
 rw[Hp bZ,hb]
 simp only[e]
theorem CC [FZ] {n:Nat} {s:TS} {l:List (Nat×TV)} {vs:List (Nat×Nat)} (h:rA l=true):((s.add l vs s.be).ap n).H=(s.ap n).H:=
 P5 rfl (fun b=>by rw[TS.jS,vS (Fp h (.inr (by unfold bI;omega)))]) (by rw[TS.jS,vS (Fp h (.inl (by unfold dM;omega)))])
theorem CE [FZ] {s:TS} {l:List (Nat×TV)} {vs:List (Nat×Nat)} {be:Nat} (h:rA l=true) (f:Fits s):Fits (s.add l vs be):=
 f.congr fun k _ h2=>by rw[TS.jS,vS (Fp h (.inl h2))]
def xd (v:Nat):Nat→List TV→List (Nat×TV)
 | _,[]=>[]
 | c,a::r=>(kI v c,a)::xd v (c+1) r
def TS.hT (s:TS) (b be:Nat) (v:TV):TS:=s.add [(bI b,v)] s.vs be
theorem Jo (s:TS) {b be:Nat} {v:TV} {k:Nat} (h:k<1000000000000):(s.hT b be v).get k=s.get k:=by
 unfold TS.hT
 rw[TS.jS,ih,if_neg (by unfold bI;omega)];rfl
theorem sC {n:Nat} {s:TS} {b be:Nat} {v:TV} (af:n≤1000000):(s.hT b be v).tT n=s.tT n:=by
 show(List.range n).map _=(List.range n).map _
 refine List.map_congr_left fun t aY=> ?_
 have aY:t<n:=List.mem_range.1 aY
 rw[Jo s (by omega)]
theorem sD [FZ] {s:TS} {b be:Nat} {v:TV} (f:Fits s):Fits (s.hT b be v):=f.congr fun k _ h2=>Jo s (by omega)
theorem Rc {s:TS} {b be:Nat} {v:TV}:kg (s.hT b be v)=kg s:=Hp (Jo s (by unfold dM;omega))
theorem Rb (s:TS) (b be:Nat) (v:TV) (bU:Nat):(s.hT b be v).get (bI bU)=if b=bU then v else s.get (bI bU):=by
 unfold TS.hT
 rw[TS.jS,ih]
 by_cases h:b=bU
 ·subst h;rw[if_pos rfl,if_pos rfl]
 ·rw[if_neg h,if_neg (by unfold bI;omega)];rfl
theorem zx [FZ] {n:Nat} {s:TS} {b:Nat} {v:TV} (h:b<s.be):((s.hT b s.be v).ap n).H=(s.ap n).H.set b v.eE:=by
 show(s.hT b s.be v).hA++ig (s.hT b s.be v)=(s.hA++ig s).set b v.eE
 rw[List.set_append_left _ _ (by rw[o3];exact h)]
 have e2:ig (s.hT b s.be v)=ig s:=by unfold ig;rw[Rc]
 rw[e2]
 congr 1
 apply List.ext_getElem?
 intro i
 rw[si,List.getElem?_set,si,o3,Rb]
 show(if i<s.be then _ else _)=_
 by_cases hi:b=i
 ·subst hi;simp[h]
 ·simp[hi]
theorem Ft [FZ] {n:Nat} {s:TS} {v:TV} (dj:kg s=true):((s.hT s.be (s.be+1) v).ap n).H=(s.ap n).H++[v.eE]:=by
 show(s.hT s.be (s.be+1) v).hA++ig (s.hT s.be (s.be+1) v)=(s.hA++ig s)++[v.eE]
 unfold ig
 rw[Rc,dj]
 show(s.hT s.be (s.be+1) v).hA++[]=(s.hA++[])++[v.eE]
 rw[List.append_nil,List.append_nil]
 apply List.ext_getElem?
 intro i
 rw[si,Rb]
 show(if i<s.be+1 then _ else _)=_
 rcases Nat.lt_trichotomy i s.be with h | h | h
 ·rw[if_pos (by omega),if_neg (by omega),List.getElem?_append_left (by rw[o3];exact h),si,if_pos h]
 ·subst h
  rw[if_pos (by omega),if_pos rfl,List.getElem?_append_right (by rw[o3];exact Nat.le_refl _),o3];simp
 ·rw[if_neg (by omega),List.getElem?_eq_none (by rw[List.length_append,o3];simp;omega)]
def yY (P:Program) (t:TypeId) (v:AV):Bool:=(P.info? t).isSome&&Nat.beq (fC v).length (P.cellsOf t)&&(fC v).all kR
theorem Io {P:Program} {t:TypeId} {v:AV} (h:yY P t v=true):(P.info? t).isSome=true∧(fC v).length=P.cellsOf t∧(fC v).all kR=true:=by
 simp only[yY,Bool.and_eq_true] at h
 exact⟨h.1.1,Nat.eq_of_beq_eq_true h.1.2,h.2⟩
def P6 (P:Program) (n:Nat) (t:TypeId) (b g:Nat) (i:Int) (m c:Nat) (v:TV) (s:TS) (K:TS→aI):aI:=match AY v with
 | false=> .no
 | true=>tO s b g fun e xs fK h=>CO s e.bV ((kz true e (v_ e xs i)).take c++sE v++(kz true e (v_ e xs i)).drop (c+(sE v).length)) fun eg _=>
  let y:=e.mk eg
  let s':=s.hT b s.be (.blk g e (xs.set i.toNat y) fK (by rw[List.length_set];exact h))
  .eq fK m (.eq (yY P t v.bp) true (.eq (Nat.ble (c+(fC v.bp).length) e.kK) true (.eq (fI (cy true e (v_ e xs i)) c (fC v.bp)) (cy true e y) (.eq s'.cj s.cj (.p (i.toNat<m) (K s'))))))
def Hg (P:Program) (t:TypeId):Option (List AV×Nat):=match j_ P t with
 | some e=>(match o6 P e with
  | some z=>(match Nat.beq z.length (P.cellsOf e)&&z.all kR with
   | true=>some (z.map oj,P.bytesOf e)
   | false=>none)
  | none=>none)
 | none=>none
theorem WK {P:Program} {t:TypeId} {aaO:List AV} {B:Nat} (h:Hg P t=some (aaO,B)): ∃e z,j_ P t=some e∧o6 P e=some z∧z.length=P.cellsOf e∧z.all kR=true∧aaO=z.map oj∧B=P.bytesOf e:=by
 unfold Hg at h
 split at h
 ·rename_i e he
  split at h
  ·rename_i z az
   split at h
   ·rename_i hc
    simp only[Bool.and_eq_true] at hc
    cases h
    exact⟨e,z,he,az,Nat.eq_of_beq_eq_true hc.1,hc.2,rfl,rfl⟩
   ·cases h
  ·cases h
 ·cases h
def sG (P:Program) (t:TypeId):Nat:=match j_ P t with
 | some e=>P.bytesOf e
 | none=>0
def aer (e:aR) (c:List TV):e.T:=match e.isS with
 | true=>e.mk (rH e.bV c)
 | false=>KC e (c.getD 0 .u)
def Ny (P:Program) (n:Nat) (t:TypeId) (e:aR) (l c:TV) (s:TS) (K:TV→TS→aI):aI:=match l with
 | .i _ l=>(match c with
  | .i _ c=>
   let aF:=aer e (match j_ P t with
    | some pS=>EU P pS
    | none=>[])
   let xs:=List.replicate l.toNat aF
   let s':=s.hT s.be (s.be+1) (.blk 0 e xs xs.length rfl)
   .eq (Hg P t) (some (cy true e aF,sG P t)) (.eq l c (.eq s'.cj s.cj (.eq (kg s) true (.p (0≤l∧(sG P t:Int)*l≤140737488355328∧l≤4611686018427387904) (K (.ref s.be 0 xs.length false) s')))))
  | _=> .no)
 | _=> .no
def Fh (P:Program) (t t2:TypeId) (x:AV):Option (Nat×Nat):=match j_ P t with
 | some e=>(match o6 P e with
  | some z=>(match Nat.beq z.length (P.cellsOf e)&&Nat.blt 0 z.length&&w_ P e t2 x with
   | true=>some (z.length,P.bytesOf e)
   | false=>none)
  | none=>none)
 | none=>none
theorem Q1 {P:Program} {t t2:TypeId} {x:AV} {m B:Nat} (h:Fh P t t2 x=some (m,B)): ∃e z,j_ P t=some e∧o6 P e=some z∧(z.length=P.cellsOf e∧0<z.length∧w_ P e t2 x=true)∧m=z.length∧B=P.bytesOf e:=by
 unfold Fh at h
 split at h
 ·rename_i e he
  split at h
  ·rename_i z az
   split at h
   ·rename_i hc
    simp only[Bool.and_eq_true] at hc
    cases h
    exact⟨e,z,he,az,⟨Nat.eq_of_beq_eq_true hc.1.1,by rw[←Nat.blt_eq];exact hc.1.2,hc.2⟩,rfl,rfl⟩
   ·cases h
  ·cases h
 ·cases h
def aR.flat:aR→Bool
 | .int | .u64 | .u8 | .bool | .str | .a1 | .ll | .dx | .fault=>true
 | _=>false
theorem adK {e:aR} (h:e.flat=true) (x:e.T):cy false e x=cy true e x:=by cases e<;>first | rfl | cases h
theorem alz (e:aR) (x:e.T):(cy false e x).map ra=cy true e x:=by
 rw[←pf,←pf]
 have key: ∀(es:List aR) (y:cL es),(jV false es y).map ra=jV true es y:=by
  intro es
  induction es with
  | nil=>intro y;rfl
  | cons e r bz=>
   intro y
   show ra (kA false e y.1)::(jV false r y.2).map ra=_
   rw[bz,jV]
   congr 1
   cases e<;>rfl
 exact key _ _
theorem Ya {e:aR} {fr:Bool} (h:(fr || e.flat)=true) (xs:List e.T):od fr (xs.map (cy false e))=xs.map (cy true e):=by
 cases fr with
 | true=>
  show(xs.map (cy false e)).map (fun row=>row.map ra)=_
  rw[List.map_map]
  exact List.map_congr_left fun x _=>alz e x
 | false=>exact List.map_congr_left fun x _=>adK h x
def Je (P:Program) (n:Nat) (t t2:TypeId) (v x:TV) (s:TS) (K:TV→TS→aI):aI:=match x with
 | .l e ys kB fr=>(match(fr || e.flat)&&e.q5 with
  | false=> .no
  | true=>(match v with
   | .nil full _=>(match full with
    | true=>
     let s':=s.hT s.be (s.be+1) (.blk 0 e ys ys.length rfl)
     .eq (Fh P t t2 (TV.l e ys kB fr).bp) (some (e.kK,sG P t)) (.eq s'.cj s.cj (.eq (kg s) true (.p (ys.length*sG P t≤140737488355328∧ys.length≤4611686018427387904) (K (.ref s.be 0 ys.length false) s'))))
    | false=> .no)
   | .ref b g m _=>tO s b g fun bZ xs fK h=>if he:e=bZ then
     let jw:=xs++ni he ys
     let s':=s.hT b s.be (.blk (g+1) bZ jw jw.length rfl)
     .eq fK m (.eq (Fh P t t2 (TV.l e ys kB fr).bp) (some (e.kK,sG P t)) (.eq s'.cj s.cj (.p ((xs.length+ys.length)*sG P t≤140737488355328∧xs.length+ys.length≤4611686018427387904) (K (.ref b (g+1) jw.length false) s'))))
    else .no
   | _=> .no))
 | _=> .no
section
variable {P:Program} (cf:h0 P) (s:TS)
def C1 (o:Oper) (v:TV) (l:List (Nat×TV)) (vs:List (Nat×Nat)) (K:TV→TS→aI):aI:=match rA l with
 | true=> .eq (fun H Q=>lj P [] o (fun x=>(cM cf.n s x).bp) s.cj H Q) (fun H Q=>Q v.bp (s.add l vs s.be).cj H) (K v (s.add l vs s.be))
 | false=> .no
end
section
variable {P:Program} {cf:h0 P} {s:TS} {R:Exit→TS→Prop}
variable {K:TV→TS→aI} {Kp:AV→List (Nat×List AV)→List Blk→Prop}
theorem Hw {b:Bool} {x:Prop} (h:b=true) (k:x):e_ b x:=by subst h;exact k
end
section
variable {P:Program} {cf:h0 P} {s:TS} {R:Exit→TS→Prop}
variable {K:TV→TS→aI} {Kp:AV→List (Nat×List AV)→List Blk→Prop}
theorem ab0 {t:TypeId} {m:Nat} {parts:List (Nat×AV)} {L:List (Nat×List AV)} {H:List Blk} {d:Option Nat} (h:zD P t m parts fun r=>Kp r L H):xc P (xk [] d) (yK []) t m parts L H Kp:=by
 obtain⟨e,he,h⟩:=fT h
 obtain⟨z,az,h⟩:=fT h
 refine ei he (ei az ?_)
 split at h
 ·rename_i hc
  rw[if_pos hc]
  obtain⟨cells,hf,h⟩:=fT h
  refine ei hf ?_
  split at h
  ·rename_i hb
   have:xk [] d=false:=by cases d<;>rfl
   rw[this]
   show if cells.all ky=true then _ else _
   rw[if_pos hb];exact h
  ·exact h.elim
 ·exact h.elim
end
section
variable {P:Program} {cf:h0 P} {s:TS} {R:Exit→TS→Prop}
variable {K:TV→TS→aI} {Kp:AV→List (Nat×List AV)→List Blk→Prop}
theorem X7 {o:Oper} {bD:Operand→AV} {L:List (Nat×List AV)} {H:List Blk} (h:kU P o bD L H fun r=>Kp r L H) (hc: ∀c,o.op≠ .call c) (hb: ∀t m ps,o.op≠ .buildSlice t m ps):lj P [] o bD L H Kp:=by
 have h':=FY h
 obtain⟨dst,op,ty,pos,after,guard⟩:=o
 cases op<;>first | exact h' | exact h'.elim | exact absurd rfl (hc _) | exact absurd rfl (hb _ _ _)
end
section
variable {P:Program} {cf:h0 P} {s:TS} {R:Exit→TS→Prop}
variable {K:TV→TS→aI} {Kp:AV→List (Nat×List AV)→List Blk→Prop}
theorem N9 {o:Oper} {c:Call} {bD:Operand→AV} {L:List (Nat×List AV)} {H:List Blk} (an:o.op= .call c) (h:kU P o bD L H fun r=>Kp r L H):lj P [] o bD L H Kp:=by
 have h':=FY h
 obtain⟨dst,op,ty,pos,after,guard⟩:=o
 cases an
 obtain⟨callee,args,argTypes⟩:=c
 cases callee with
 | builtin b=>
  cases b with
  | len=>exact h'
  | _=>exact h'.elim
 | value f=>
  have h':nh (bD f) fun g caps=>qK P g (args.toList.map bD++caps) L H fun r=>Kp r L H:=h'
  show nh (bD f) fun g caps=>mJ P g (args.toList.map bD++caps) L H Kp
  cases hf:bD f with
  | fn g caps=>rw[hf] at h';exact .inl h'
  | _=>rw[hf] at h';exact h'.elim
 | _=>exact h'.elim
end
section
variable {P:Program} {cf:h0 P} {s:TS} {R:Exit→TS→Prop}
variable {K:TV→TS→aI} {Kp:AV→List (Nat×List AV)→List Blk→Prop}
theorem alv {o:Oper} {t:TypeId} {m:Nat} {ps:Array (Nat×Operand)} {bD:Operand→AV} {L:List (Nat×List AV)} {H:List Blk} (an:o.op= .buildSlice t m ps) (h:kU P o bD L H fun r=>Kp r L H):lj P [] o bD L H Kp:=by
 have h':=FY h
 obtain⟨dst,op,ty,pos,after,guard⟩:=o
 cases an
 obtain⟨h1,h2⟩:=r4 (show e_ (ps.toList.all fun p=>e9 (bD p.2)) (zD P t m (ps.toList.map fun p=>(p.1,bD p.2)) fun r=>Kp r L H) from h')
 show e_ (ps.toList.all fun p=>e9 (bD p.2)) (xc P (xk [] dst) (yK []) t m (ps.toList.map fun p=>(p.1,bD p.2)) L H Kp)
 rw[h1];exact ab0 h2
end
section
variable [Z:FZ] {P:Program} {cf:h0 P} {s:TS} {R:Exit→TS→Prop}
def zp (cf:h0 P) (s:TS) (R:Exit→TS→Prop) (K:TV→TS→aI) (Kp:qA Prop):Prop:=
 ∀v s' (Z':FZ),(K v s').den R→ @Fits Z' s'→s'.tT cf.n=s.tT cf.n→Kp v.bp s'.cj (@TS.ap Z' cf.n s').H
variable {K:TV→TS→aI} {Kp:AV→List (Nat×List AV)→List Blk→Prop}
theorem an1 (af:cf.n≤1000000) {t:TypeId} {b g m c:Nat} {i:Int} {v:TV} {K:TS→aI} {Kp:List (Nat×List AV)→List Blk→Prop} (az:Fits s) (hK: ∀s' (Z':FZ),(K s').den R→ @Fits Z' s'→s'.tT cf.n=s.tT cf.n→Kp s'.cj (@TS.ap Z' cf.n s').H) (h:(P6 P cf.n t b g i m c v s K).den R):
  e_ (e9 v.bp) (nG P t (.ptr b g i.toNat c) v.bp (s.ap cf.n).L (s.ap cf.n).H Kp):=by
 unfold P6 at h
 split at h
 ·exact h.elim
 ·rename_i hv
  obtain⟨e,xs,fK,hm,h,hb,ax⟩:=zy (n:=cf.n) h
  obtain⟨eg,o,h,_⟩:=FF az (n:=cf.n) h
  obtain⟨h1,h2,aD,bj,cl,cC,h⟩:=h
  refine Hw (Hs hv) ?_
  have aM:i.toNat<xs.length:=by omega
  have hs:=Io h2
  unfold nG
  rw[if_pos hs]
  refine ei ax ⟨rfl,ei (ND aM true) ⟨?_,?_⟩⟩
  ·rw[xf];exact Nat.le_of_ble_eq_true aD
  ·have:=hK _ Z h (sD az) (sC af)
   rw[zx hb,cl] at this
   rw[bj]
   have aG: ∀y:e.T,(xs.map (cy true e)).set i.toNat (cy true e y)=(xs.set i.toNat y).map (cy true e):=fun y=>by rw[List.map_set]
   rw[aG];exact this
theorem akr (af:cf.n≤1000000) (az:Fits s) {t:TypeId} {e:aR} {l c:TV} (hK:zp cf s R K Kp) (h:(Ny P cf.n t e l c s K).den R):AS P t l.bp c.bp (s.ap cf.n).L (s.ap cf.n).H Kp:=by
 unfold Ny at h
 split at h
 ·split at h
  ·obtain⟨h1,h2,aD,dj,bj,h⟩:=h
   rename_i Hd AO l qL ah_ c
   subst h2
   obtain⟨pS,z,q1,q2,q3,q4,cN,c2⟩:=WK h1
   refine ei q1 (ei q2 ?_)
   rw[if_pos ⟨q3,q4⟩]
   refine⟨bj.1,Int.le_refl _,by rw[←c2];exact bj.2.1,bj.2.2,?_⟩
   have:=hK _ _ Z h (sD az) (sC af)
   rw[Ft dj,aD] at this
   rw[Iq dj,←cN]
   have az:z.length=e.kK:=by
    have:=congrArg List.length cN
    rw[List.length_map,xf] at this;exact this.symm
   rw[az]
   have aw: ∀aF:e.T,(List.replicate l.toNat aF).length=l.toNat:=fun aF=>List.length_replicate
   show Kp (.ref s.be 0 0 l.toNat false) _ ((s.ap cf.n).H++[⟨0,e.kK,List.replicate l.toNat (cy true e _)⟩])
   rw[←List.map_replicate]
   have this:Kp (.ref s.be 0 0 (List.replicate l.toNat _).length false) (s.ap cf.n).L ((s.ap cf.n).H++[⟨0,e.kK,(List.replicate l.toNat _).map (cy true e)⟩]):=this
   rw[aw] at this
   exact this
  ·exact h.elim
 ·exact h.elim
theorem abH (af:cf.n≤1000000) (az:Fits s) {t t2:TypeId} {v x:TV} (hK:zp cf s R K Kp) (h:(Je P cf.n t t2 v x s K).den R):e9 v.bp=true∧e9 x.bp=true∧w9 P t t2 v.bp x.bp (s.ap cf.n).L (s.ap cf.n).H Kp:=by
 unfold Je at h
 split at h
 ·rename_i e ys kB fr
  split at h
  ·exact h.elim
  ·rename_i hc
   simp only[Bool.and_eq_true] at hc
   have ew: ∀(jw:List e.T) (k:Nat),e.kK=k→wx k (jw.map (cy true e)):=fun jw k hk row aj=>by
    obtain⟨y,_,rfl⟩:=List.mem_map.1 aj
    refine⟨by rw[xf,hk],fun a ar=>List.all_eq_true.1 (adm (fr:=true) hc.2 y) a ar⟩
   have dq: ∀{pS},j_ P t=some pS→sG P t=P.bytesOf pS:=fun h=>by unfold sG;rw[h]
   split at h
   ·split at h
    ·rename_i full apt
     obtain⟨h1,h2,dj,aD,h⟩:=h
     obtain⟨pS,z,q1,q2,q3,q4,cN⟩:=Q1 h1
     refine⟨rfl,rfl,ei q1 (ei q2 ?_)⟩
     rw[if_pos q3]
     show _∧_
     have hx:od fr (List.map (cy false e) ys)=ys.map (cy true e):=Ya hc.1 ys
     rw[hx]
     refine⟨ew ys _ q4,rfl,(fun row h=>by cases h),?_,?_,(fun h=>absurd rfl h),?_⟩
     ·rw[List.length_map,←dq q1];simpa using aD.1
     ·rw[List.length_map];simpa using aD.2
     ·have:=hK _ _ Z h (sD az) (sC af)
      rw[Ft dj,h2] at this
      rw[Iq dj,←q4,List.length_map]
      simp only[List.length_nil,Nat.zero_add,List.nil_append]
      exact this
    ·exact h.elim
   ·rename_i b g m dP
    obtain⟨bZ,xs,fK,hm,h,hb,ax⟩:=zy (n:=cf.n) h
    split at h
    ·rename_i he
     subst he
     obtain⟨h1,h2,aD,bj,xl⟩:=h
     subst h1
     obtain⟨pS,z,q1,q2,q3,q4,cN⟩:=Q1 h2
     refine⟨rfl,rfl,ei q1 (ei q2 ?_)⟩
     rw[if_pos q3]
     show _∧_
     have hx:od fr (List.map (cy false e) ys)=ys.map (cy true e):=Ya hc.1 ys
     rw[hx]
     refine⟨ew ys _ q4,rfl,ei ax ⟨rfl,q4,by rw[List.length_map];exact hm,?_,?_,?_⟩⟩
     ·rw[List.length_map,←hm,←dq q1];exact bj.1
     ·rw[List.length_map,←hm];exact bj.2
     ·have:=hK _ _ Z xl (sD az) (sC af)
      rw[zx hb,aD] at this
      rw[←q4,List.length_map,←hm,←List.map_append,←List.length_append]
      exact this
    ·exact h.elim
   ·exact h.elim
 ·exact h.elim
theorem KI (af:cf.n≤1000000) (az:Fits s) {o:Oper} {v:TV} {l:List (Nat×TV)} {vs:List (Nat×Nat)} (hK:zp cf s R K Kp) (h:(C1 cf s o v l vs K).den R):lj P [] o (ch (s.ap cf.n).T) (s.ap cf.n).L (s.ap cf.n).H Kp:=by
 unfold C1 at h
 split at h
 ·rename_i hb
  obtain⟨e,h⟩:=h
  rw[mm,show(fun x=>(cM cf.n s x).bp)=(fun x=>(cM cf.n s x).bp) from rfl]
  have e:=congrFun (congrFun e (s.ap cf.n).H) Kp
  have e:lj P [] o (fun x=>(cM cf.n s x).bp) (s.ap cf.n).L (s.ap cf.n).H Kp=_:=e
  rw[e]
  have:=hK _ _ Z h (CE hb az) (CD af hb)
  rw[CC hb] at this;exact this
 ·exact h.elim
end
def M2:TV→Bool
 | .lK _ _ _=>true
 | _=>false
theorem abW {Z Z':FZ} {v:TV} (h:M2 v=false): @TV.eE Z' v= @TV.eE Z v:=by cases v<;>first | rfl | cases h
def D4 (s:TS) (b:Nat):Nat→Bool
 | 0=>true
 | k+1=>(Nat.beq k b || !M2 (s.get (bI k)))&&D4 s b k
theorem Xj {s:TS} {b:Nat}: ∀{n:Nat},D4 s b n=true→ ∀k,k<n→k≠b→M2 (s.get (bI k))=false
 | 0,_,k,h,_=>by omega
 | n+1,h,k,hk,bq=>by
  simp only[D4,Bool.and_eq_true,Bool.or_eq_true,Bool.not_eq_true'] at h
  rcases Nat.lt_or_ge k n with q | q
  ·exact Xj h.2 k q bq
  ·have:k=n:=by omega
   subst this
   rcases h.1 with e | e
   ·exact absurd (Nat.eq_of_beq_eq_true e) bq
   ·exact e
theorem aoN {Z Z':FZ} {n:Nat} {s s':TS} {b g m:Nat} {ids:List Nat} {V QR:List av} {agI:List Nat} {bO Xf:Nat} {hv:V.length=bO} {ly:QR.length=Xf} (hb:b<s.be) (Ah:s'.be=s.be) (he: ∀k,k≠b→s'.get (bI k)=s.get (bI k)) (aE:s'.get (bI b)= .lK g m ids) (hw:D4 s b s.be=true)
  (h1:s.get dM= .hW V agI bO hv) (h2:s'.get dM= .hW QR ids Xf ly):(@TS.ap Z' n s').H=(@TS.hA Z s).set b ⟨g,5,aU m Z'.ws ids⟩++List.map br Z'.bs:=by
 rw[tQ h2]
 congr 1
 apply List.ext_getElem?
 intro i
 rw[@si Z' s' i,List.getElem?_set,@si Z s i,@o3 Z s,Ah]
 by_cases hi:b=i
 ·subst hi;rw[if_pos hb,if_pos rfl,if_pos hb,aE];rfl
 ·rw[if_neg hi,he i (fun e=>hi e.symm)]
  by_cases h:i<s.be
  ·rw[if_pos h,if_pos h,abW (Z:=Z) (Xj hw i h (fun e=>hi e.symm))]
  ·rw[if_neg h,if_neg h]
theorem EJ {n:Nat} {s:TS} {l:List (Nat×TV)} (af:n≤1000000) (h: ∀p∈l,1000000≤p.1):(s.add l s.vs s.be).tT n=s.tT n:=by
 show(List.range n).map _=(List.range n).map _
 refine List.map_congr_left fun t aY=> ?_
 have aY:t<n:=List.mem_range.1 aY
 rw[TS.jS,vS fun v hv=>by have:=h _ hv;simp only at this;omega]
def Oq (c:Nat) (v:TV) (h:av) (K:av→aI):aI:=match v with
 | .i k x=>if k= .i64 then(match c with
  | 0=>K {h with aJ:=x}
  | 1=>K {h with ba:=x}
  | 4=>K {h with bR:=x}
  | _=> .no) else .no
 | .b x=>(match c with
  | 3=>K {h with bS:=x.den}
  | _=> .no)
 | _=> .no
theorem YC {c:Nat} {v:TV} {w:av} {b:List Bool} {K:av→aI} {R:Exit→TS→Prop} (h:(Oq c v {w with ae:=b} K).den R):
  ∃x:av,x.ae=w.ae∧(K {x with ae:=b}).den R∧(∀m id,fI (mQ m w id) c (fC v.bp)=mQ m x id)∧c+(fC v.bp).length≤5:=by
 unfold Oq at h
 split at h
 ·rename_i k x
  split at h
  ·rename_i hk
   subst hk
   split at h
   ·exact⟨{w with aJ:=x},rfl,h,fun m id=>rfl,(show(0+1:Nat)≤5 by decide)⟩
   ·exact⟨{w with ba:=x},rfl,h,fun m id=>rfl,(show(1+1:Nat)≤5 by decide)⟩
   ·exact⟨{w with bR:=x},rfl,h,fun m id=>rfl,(show(4+1:Nat)≤5 by decide)⟩
   ·exact h.elim
  ·exact h.elim
 ·rename_i x
  split at h
  ·exact⟨{w with bS:=x.den},rfl,h,fun m id=>rfl,(show(3+1:Nat)≤5 by decide)⟩
  ·exact h.elim
 ·exact h.elim
theorem gL.ajH {ws:List av} {ids:List Nat} {bs:List (List Bool)} (G:gL ws ids bs) {i id:Nat} {x:av} (hi:i<ws.length) (h1:id<bs.length) (h2:bs.getD id []=x.ae) (aD: ∀j:Nat,ids[j]?≠some id):
  gL (ws.set i x) (ids.set i id) bs∧view (ws.set i x) (ids.set i id) bs=(view ws ids bs).set i x:=by
 have aw:=G.ok.len
 refine⟨⟨⟨by rw[List.length_set,List.length_set];exact aw,fun j k hk=> ?_,fun j k h ar hk=> ?_⟩,fun a b k ar hb=> ?_,G.len⟩,?_⟩
 ·rw[List.getElem?_set] at hk
  split at hk
  ·split at hk
   ·cases hk;exact h1
   ·cases hk
  ·exact G.ok.lt j k hk
 ·rw[List.getElem?_set] at ar hk
  split at ar
  ·rename_i e;subst e
   rw[if_pos rfl,if_pos (by omega)] at hk
   cases ar;cases hk;rw[h2]
  ·rename_i e
   rw[if_neg e] at hk
   exact G.ok.ae j k h ar hk
 ·rw[List.getElem?_set] at ar hb
  split at ar
  ·split at ar
   ·cases ar
    split at hb
    ·rename_i aG _ e2;omega
    ·exact absurd hb (aD b)
   ·cases ar
  ·split at hb
   ·split at hb
    ·cases hb;exact absurd ar (aD a)
    ·cases hb
   ·exact G.lD a b k ar hb
 ·apply List.ext_getElem?
  intro j
  unfold view
  rw[List.getElem?_zipWith,List.getElem?_set,List.getElem?_set,List.getElem?_set,List.getElem?_zipWith,List.length_zipWith]
  by_cases e:i=j
  ·subst e
   rw[if_pos rfl,if_pos rfl,if_pos rfl,if_pos hi,if_pos (by omega),if_pos (by omega)]
   show some ({x with ae:=bs.getD id []}:av)=some x
   rw[h2]
  ·rw[if_neg e,if_neg e,if_neg e]
theorem gL.snoc {ws:List av} {ids:List Nat} {bs:List (List Bool)} (G:gL ws ids bs) {xs:List Bool} (hx:xs.length≤1048576):gL ws ids (bs++[xs])∧view ws ids (bs++[xs])=view ws ids bs:=by
 have aE: ∀id,id<bs.length→(bs++[xs]).getD id []=bs.getD id []:=fun id h=>by
  rw[List.getD_eq_getElem?_getD,List.getD_eq_getElem?_getD,List.getElem?_append_left h]
 refine⟨⟨⟨G.ok.len,fun i id h=>by have:=G.ok.lt i id h;rw[List.length_append];omega,fun i id h h1 h2=>by rw[aE id (G.ok.lt i id h2)];exact G.ok.ae i id h h1 h2⟩,G.lD,fun b hb=> ?_⟩,?_⟩
 ·rcases List.mem_append.1 hb with hb | hb
  ·exact G.len b hb
  ·rw[List.mem_singleton.1 hb];exact hx
 ·apply List.ext_getElem?
  intro j
  unfold view
  rw[List.getElem?_zipWith,List.getElem?_zipWith]
  cases h1:ws[j]? with
  | none=>rfl
  | some w=>
   cases h2:ids[j]? with
   | none=>rfl
   | some id=>simp only[aE id (G.ok.lt j id h2)]
def P_ (P:Program) (t:TypeId) (b g:Nat) (i:Int) (c:Nat) (v:TV) (s:TS) (dD iA:Nat) (ids:List Nat) (K:TS→aI):aI:=match s.get dM with
 | .hW V dc bO hv=> .eq dD g (.eq dc ids (.eq (Nat.blt b s.be&&D4 s b s.be&&yY P t v.bp) true (match v with
  | .agg l=>(match l with
   | [.i dA ap,.i g_ go,.D3 id m k,.b ik,.i pz rk]=>(match s.get gQ with
    | .new gC xs=>
     let s':=s.add [(dM,.hW (V.set i.toNat (av.mk ap go xs ik.den rk)) (ids.set i.toNat id) bO ((List.length_set ..).trans hv)),(bI b,.lK g iA (ids.set i.toNat id)),(gQ,.u)] s.vs s.be
     .eq c 0 (.eq (dA,g_,pz) (IntKind.i64,IntKind.i64,IntKind.i64) (.eq gC id (.eq m iA (.eq k xs.length (.eq s'.cj s.cj (.p (i.toNat<V.length) (K s')))))))
    | _=> .no)
   | _=> .no)
  | v=>Oq c v (nth V i) fun y=>
   let s':=s.add [(dM,.hW (V.set i.toNat y) ids bO ((List.length_set ..).trans hv))] s.vs s.be
   .eq s'.cj s.cj (.p (i.toNat<V.length) (K s')))))
 | _=> .no
section
variable [Z:FZ] {P:Program} {cf:h0 P} {s:TS} {R:Exit→TS→Prop}
theorem an9 (af:cf.n≤1000000) {t:TypeId} {b g c dD iA:Nat} {ids:List Nat} {i:Int} {v:TV} {K:TS→aI} {Kp:List (Nat×List AV)→List Blk→Prop} (az:Fits s) (aE:s.get (bI b)= .lK dD iA ids)
  (hK: ∀s' (Z':FZ),(K s').den R→ @Fits Z' s'→s'.tT cf.n=s.tT cf.n→Kp s'.cj (@TS.ap Z' cf.n s').H) (h:(P_ P t b g i c v s dD iA ids K).den R):
  nG P t (.ptr b g i.toNat c) v.bp (s.ap cf.n).L (s.ap cf.n).H Kp:=by
 unfold P_ at h
 split at h
 ·rename_i V dc bO lY hk
  obtain⟨h1,h2,aD,h⟩:=h
  subst h1;subst h2
  simp only[Bool.and_eq_true] at aD
  obtain⟨⟨hb,hw⟩,a7⟩:=aD
  have hb:b<s.be:=by rw[←Nat.blt_eq];exact hb
  obtain⟨G,e,jW⟩:=az V dc _ _ hk
  have hs:=Io a7
  have pt:=jJ G.ok
  rw[e] at pt
  have ax:(s.ap cf.n).H[b]?=some ⟨dD,5,aU iA Z.ws dc⟩:=by rw[u3 hb,aE];rfl
  have aeX:(s.ap cf.n).H=s.hA++List.map br Z.bs:=tQ hk
  unfold nG
  rw[if_pos hs]
  have fin: ∀{s':TS} {ws2:List av} {ids2:List Nat} {V2:List av} {n2:Nat} {hv2:V2.length=n2} {cells row':List AV},i.toNat<V.length→c+cells.length≤5→fI (mQ iA (nth Z.ws i) (nth dc i)) c cells=row'→(aU iA Z.ws dc).set i.toNat row'=aU iA ws2 ids2→s'.be=s.be→(∀k,k≠b→s'.get (bI k)=s.get (bI k))→s'.get (bI b)= .lK dD iA ids2→s'.get dM= .hW V2 ids2 n2 hv2→
    s'.cj=s.cj→(K s').den R→ @Fits ⟨ws2,Z.bs⟩ s'→s'.tT cf.n=s.tT cf.n→(cV (s.ap cf.n).H[b]? fun blk=>blk.bm=dD∧cV blk.rows[i.toNat]? fun row=>c+cells.length≤row.length∧Kp (s.ap cf.n).L ((s.ap cf.n).H.set b {blk with rows:=blk.rows.set i.toNat (fI row c cells)})):=by
   intro s' ws2 ids2 V2 n2 hv2 cells row' hi hc Ao oE Ah mT nV Gq bJ aeZ hf ci
   refine ei ax ⟨rfl,ei (dK G.ok.len (by omega)) ⟨hc,?_⟩⟩
   have:=hK s' ⟨ws2,Z.bs⟩ aeZ hf ci
   rw[bJ,aoN (Z:=Z) (Z':=⟨ws2,Z.bs⟩) hb Ah mT nV hw hk Gq] at this
   rw[aeX,List.set_append_left _ _ (by rw[o3];exact hb),Ao]
   show Kp s.cj (s.hA.set b ⟨dD,5,(aU iA Z.ws dc).set i.toNat row'⟩++_)
   rw[oE];exact this
  split at h
  ·split at h
   ·rename_i dA ap g_ go id m k ik pz rk
    split at h
    ·rename_i gC xs Ai
     obtain⟨h1,h2,bj,cl,cC,hM,tZ,h⟩:=h
     subst h1;subst bj;subst cl;subst cC
     cases h2
     obtain⟨b5,n2,nu⟩:=jW _ _ Ai
     obtain⟨pV,bZ⟩:=G.ajH (i:=i.toNat) (id:=gC) (x:=av.mk ap go xs ik.den rk) (by omega) b5 n2 nu
     refine fin (s':=s.add [(dM,.hW (V.set i.toNat (av.mk ap go xs ik.den rk)) (dc.set i.toNat gC) bO ((List.length_set ..).trans lY)),(bI b,.lK dD m (dc.set i.toNat gC)),(gQ,.u)] s.vs s.be) (ws2:=Z.ws.set i.toNat (av.mk ap go xs ik.den rk)) (V2:=V.set i.toNat (av.mk ap go xs ik.den rk)) (n2:=bO) (hv2:=(List.length_set ..).trans lY) (ids2:=dc.set i.toNat gC) (row':=mQ m (av.mk ap go xs ik.den rk) gC) tZ (Nat.le_refl 5) ?_ (zY G.ok.len) rfl (fun k hk=> ?_) ?_ ?_ hM h ?_ (EJ af ?_)
     ·rfl
     ·rw[TS.jS,ih,if_neg (by unfold dM bI;omega),ih,if_neg (by unfold bI;omega),ih,if_neg (by unfold gQ bI;omega)];rfl
     ·rw[TS.jS,ih,if_neg (by unfold dM bI;omega),ih,if_pos rfl]
     ·rw[TS.jS,ih,if_pos rfl]
     ·intro V3 GM nu xL aD
      rw[TS.jS,ih,if_pos rfl] at aD
      cases aD
      refine⟨pV,by rw[←e];exact bZ,fun id xs hx=> ?_⟩
      rw[TS.jS,ih,if_neg (by unfold dM gQ;omega),ih,if_neg (by unfold bI gQ;omega),ih,if_pos rfl] at hx
      cases hx
     ·intro p ab
      simp only[List.mem_cons,List.not_mem_nil,or_false] at ab
      rcases ab with rfl | rfl | rfl
      ·exact Nat.le_refl _
      ·show 1000000≤bI b;unfold bI;omega
      ·show 1000000≤gQ;unfold gQ;omega
    ·exact h.elim
   ·exact h.elim
  ·have apD:i.toNat<V.length∨ ¬i.toNat<V.length:=by omega
   by_cases hi:i.toNat<V.length
   ·have hv:=IE G.ok (i:=i) (by rw[e];exact hi)
    rw[e] at hv
    rw[hv] at h
    obtain⟨x,aO,h,bC,aaM⟩:=YC h
    obtain⟨hM,tZ,h⟩:=h
    have F:=(G.tN (j:=i) (by omega)).tq x (by rw[aO];have:=(G.tN (j:=i) (by omega)).sB;exact this)
    have lV:(nth (view Z.ws dc Z.bs) i).ae=Z.bs.getD (nth dc i) []:=by rw[e,hv]
    rw[lV,e] at F
    refine fin (s':=s.add [(dM,.hW (V.set i.toNat {x with ae:=Z.bs.getD (nth dc i) []}) dc bO ((List.length_set ..).trans lY))] s.vs s.be) (ws2:=Z.ws.set i.toNat x) (ids2:=dc) (V2:=V.set i.toNat {x with ae:=Z.bs.getD (nth dc i) []}) (n2:=bO) (hv2:=(List.length_set ..).trans lY) tZ aaM (bC iA (nth dc i)) (ln G.ok.len (by omega)) rfl (fun k hk=> ?_) ?_ ?_ hM h ?_ (EJ af ?_)
    ·rw[TS.jS,ih,if_neg (by unfold dM bI;omega)];rfl
    ·rw[TS.jS,ih,if_neg (by unfold dM bI;omega)];exact aE
    ·rw[TS.jS,ih,if_pos rfl]
    ·intro V3 GM nu xL aD
     rw[TS.jS,ih,if_pos rfl] at aD
     cases aD
     refine⟨F.G,F.io,fun id xs hx=> ?_⟩
     rw[TS.jS,ih,if_neg (by unfold dM gQ;omega)] at hx
     exact jW id xs hx
    ·intro p ab
     rw[List.mem_singleton.1 ab];exact Nat.le_refl _
   ·obtain⟨x,aO,h,_⟩:=YC (w:=nth V i) (b:=(nth V i).ae) h
    exact absurd h.2.1 hi
 ·exact h.elim
def EL (P:Program) (t:TypeId) (w:Int) (ids:List Nat) (m:Nat) (j:Int) (v:TV) (s:TS) (K:TS→aI):aI:=match s.get dM with
 | .hW V dc bO hv=> .eq dc ids (.eq m s.be (.eq (yY P t v.bp) true (match v with
  | .b x=>
   let s':=s.add [(dM,.hW (V.set w.toNat {nth V w with ae:=(nth V w).ae.set j.toNat x.den}) ids bO ((List.length_set ..).trans hv))] s.vs s.be
   .eq s'.cj s.cj (.p (w.toNat<V.length∧j.toNat<(nth V w).ae.length) (K s'))
  | _=> .no)))
 | _=> .no
theorem an5 (af:cf.n≤1000000) {t:TypeId} {m:Nat} {ids:List Nat} {w j:Int} {v:TV} {K:TS→aI} {Kp:List (Nat×List AV)→List Blk→Prop} (az:Fits s)
  (hK: ∀s' (Z':FZ),(K s').den R→ @Fits Z' s'→s'.tT cf.n=s.tT cf.n→Kp s'.cj (@TS.ap Z' cf.n s').H) (h:(EL P t w ids m j v s K).den R):
  nG P t (.ptr (nth ids w+m) 0 j.toNat 0) v.bp (s.ap cf.n).L (s.ap cf.n).H Kp:=by
 unfold EL at h
 split at h
 ·rename_i V dc bO lY hk
  obtain⟨h1,h2,aD,h⟩:=h
  subst h1;subst h2
  have hs:=Io aD
  unfold nG
  rw[if_pos hs]
  split at h
  ·rename_i x
   obtain⟨bj,cl,h⟩:=h
   obtain⟨G,e,jW⟩:=az V dc _ _ hk
   have pt:=jJ G.ok
   rw[e] at pt
   have hv:=IE G.ok (i:=w) (by rw[e];exact cl.1)
   rw[e] at hv
   have bW:=G.tN (j:=w) (by omega)
   have F:=bW.Oo ((nth V w).ae.set j.toNat x.den) (by rw[List.length_set,e])
   rw[e] at F
   have hid:=G.ok.lt w.toNat _ (h7 (xs:=dc) (i:=w) (by have:=G.ok.len;omega))
   refine ei (Ko az hk cl.1) ⟨rfl,ei (CK cl.2) ⟨Nat.le_refl 1,?_⟩⟩
   have ci:=EJ (n:=cf.n) (s:=s) (l:=[(dM,TV.hW (V.set w.toNat {nth V w with ae:=(nth V w).ae.set j.toNat x.den}) dc bO ((List.length_set ..).trans lY))]) af (fun p ab=>by rw[List.mem_singleton.1 ab];exact Nat.le_refl _)
   have vu: @Fits ⟨Z.ws,Z.bs.set (nth dc w) ((nth V w).ae.set j.toNat x.den)⟩ (s.add [(dM,TV.hW (V.set w.toNat {nth V w with ae:=(nth V w).ae.set j.toNat x.den}) dc bO ((List.length_set ..).trans lY))] s.vs s.be):=by
    intro V3 GM nu xL aD
    rw[TS.jS,ih,if_pos rfl] at aD
    cases aD
    refine⟨F.G,F.io,fun id xs hx=> ?_⟩
    rw[TS.jS,ih,if_neg (by unfold dM gQ;omega)] at hx
    obtain⟨b5,n2,nu⟩:=jW id xs hx
    refine⟨by show id<(Z.bs.set (nth dc w) ((nth V w).ae.set j.toNat x.den)).length;rw[List.length_set];exact b5,?_,nu⟩
    show(Z.bs.set (nth dc w) ((nth V w).ae.set j.toNat x.den)).getD id []=xs
    have bq:nth dc w≠id:=fun q=>nu w.toNat (by rw[h7 (xs:=dc) (i:=w) (by have:=G.ok.len;omega),q])
    rw[List.getD_eq_getElem?_getD,List.getElem?_set,if_neg bq,←List.getD_eq_getElem?_getD];exact n2
   have:=hK _ ⟨Z.ws,Z.bs.set (nth dc w) ((nth V w).ae.set j.toNat x.den)⟩ h vu ci
   rw[bj] at this
   have Ge:(s.ap cf.n).H=s.hA++List.map br Z.bs:=tQ hk
   have ds: ∀Z':FZ,Z'.ws=Z.ws→ @TS.hA Z' (s.add [(dM,TV.hW (V.set w.toNat {nth V w with ae:=(nth V w).ae.set j.toNat x.den}) dc bO ((List.length_set ..).trans lY))] s.vs s.be)= @TS.hA Z s:=fun Z' hw=>by
    show(List.range s.be).map _=(List.range s.be).map _
    refine List.map_congr_left fun b _=> ?_
    rw[TS.jS,ih,if_neg (by unfold dM bI;omega)]
    show @TV.eE Z' (s.get (bI b))= @TV.eE Z (s.get (bI b))
    cases s.get (bI b)<;>first | rfl | (simp only[TV.eE,hw])
   have KN:= @tQ ⟨Z.ws,Z.bs.set (nth dc w) ((nth V w).ae.set j.toNat x.den)⟩ cf.n (s.add [(dM,TV.hW (V.set w.toNat {nth V w with ae:=(nth V w).ae.set j.toNat x.den}) dc bO ((List.length_set ..).trans lY))] s.vs s.be) (V.set w.toNat {nth V w with ae:=(nth V w).ae.set j.toNat x.den}) dc bO ((List.length_set ..).trans lY) (by rw[TS.jS,ih,if_pos rfl])
   rw[KN,ds ⟨Z.ws,Z.bs.set (nth dc w) ((nth V w).ae.set j.toNat x.den)⟩ rfl] at this
   rw[Ge,List.set_append_right _ _ (by rw[o3];omega),o3,Nat.add_sub_cancel]
   have jk:({br (nth V w).ae with rows:=(br (nth V w).ae).rows.set j.toNat (fI (aT (nth (nth V w).ae j)) 0 (fC (TV.b x).bp))}:Blk)=br ((nth V w).ae.set j.toNat x.den):=by
    show(⟨0,1,(List.map aT (nth V w).ae).set j.toNat (aT x.den)⟩:Blk)=⟨0,1,_⟩
    rw[Jp]
   show Kp s.cj (s.hA++(List.map br Z.bs).set (nth dc w) {br (nth V w).ae with rows:=(br (nth V w).ae).rows.set j.toNat (fI (aT (nth (nth V w).ae j)) 0 (fC (TV.b x).bp))})
   rw[jk,Kq]
   exact this
  ·exact h.elim
 ·exact h.elim
def Nw (P:Program) (t:TypeId) (l c:TV) (s:TS) (K:TV→TS→aI):aI:=match l with
 | .i _ l=>(match c with
  | .i _ c=>(match s.get dM with
   | .hW V ids _ _=> .all Nat fun id=>
    let s':=s.add [(gQ,.new id (List.replicate l.toNat false))] s.vs s.be
    .eq (Hg P t) (some ([AV.bool false],sG P t)) (.eq l c (.eq s'.cj s.cj (.p (0≤l∧(sG P t:Int)*l≤140737488355328∧l≤1048576) (K (.D3 id s.be (List.replicate l.toNat false).length) s'))))
   | _=> .no)
  | _=> .no)
 | _=> .no
theorem akj (af:cf.n≤1000000) (az:Fits s) {t:TypeId} {l c:TV} {K:TV→TS→aI} {Kp:AV→List (Nat×List AV)→List Blk→Prop} (hK:zp cf s R K Kp) (h:(Nw P t l c s K).den R):AS P t l.bp c.bp (s.ap cf.n).L (s.ap cf.n).H Kp:=by
 unfold Nw at h
 split at h
 ·split at h
  ·split at h
   ·rename_i Hd AO l qL ah_ c aqa V ids bO lY hk
    obtain⟨h1,h2,aD,bj,bw⟩:=h Z.bs.length
    subst h2
    obtain⟨pS,z,q1,q2,q3,q4,cN,c2⟩:=WK h1
    refine ei q1 (ei q2 ?_)
    rw[if_pos ⟨q3,q4⟩]
    refine⟨bj.1,Int.le_refl _,by rw[←c2];exact bj.2.1,by have:=bj.2.2;omega,?_⟩
    obtain⟨G,e,jW⟩:=az V ids _ _ hk
    have rV:(List.replicate l.toNat false).length≤1048576:=by rw[List.length_replicate];have:=bj.2.2;omega
    obtain⟨pV,bZ⟩:=G.snoc rV
    have ci:=EJ (n:=cf.n) (s:=s) (l:=[(gQ,TV.new Z.bs.length (List.replicate l.toNat false))]) af (fun p ab=>by rw[List.mem_singleton.1 ab];show 1000000≤gQ;unfold gQ;omega)
    have Ta:(s.add [(gQ,TV.new Z.bs.length (List.replicate l.toNat false))] s.vs s.be).get dM= .hW V ids bO lY:=by rw[TS.jS,ih,if_neg (by unfold dM gQ;omega)];exact hk
    have vu: @Fits ⟨Z.ws,Z.bs++[List.replicate l.toNat false]⟩ (s.add [(gQ,TV.new Z.bs.length (List.replicate l.toNat false))] s.vs s.be):=by
     intro V3 GM nu xL aD
     rw[Ta] at aD
     cases aD
     refine⟨pV,bZ.trans e,fun id xs hx=> ?_⟩
     rw[TS.jS,ih,if_pos rfl] at hx
     cases hx
     refine⟨by show Z.bs.length<(Z.bs++[List.replicate l.toNat false]).length;rw[List.length_append];simp,by show(Z.bs++[List.replicate l.toNat false]).getD Z.bs.length []=_;rw[List.getD_eq_getElem?_getD,List.getElem?_append_right (Nat.le_refl _)];simp,fun j ah=> ?_⟩
     have:=G.ok.lt j _ ah;omega
    have:=hK _ _ ⟨Z.ws,Z.bs++[List.replicate l.toNat false]⟩ bw vu ci
    rw[aD] at this
    have Ge:(s.ap cf.n).H=s.hA++List.map br Z.bs:=tQ hk
    have KN:= @tQ ⟨Z.ws,Z.bs++[List.replicate l.toNat false]⟩ cf.n _ V ids bO lY Ta
    have ds: @TS.hA ⟨Z.ws,Z.bs++[List.replicate l.toNat false]⟩ (s.add [(gQ,TV.new Z.bs.length (List.replicate l.toNat false))] s.vs s.be)= @TS.hA Z s:=by
     show(List.range s.be).map _=(List.range s.be).map _
     refine List.map_congr_left fun b _=> ?_
     rw[TS.jS,ih,if_neg (by unfold gQ bI;omega)]
     show @TV.eE _ (s.get (bI b))= @TV.eE Z (s.get (bI b))
     cases s.get (bI b)<;>rfl
    rw[KN,ds] at this
    have hlen:(s.ap cf.n).H.length=Z.bs.length+s.be:=by rw[Ge,List.length_append,o3,List.length_map];omega
    have s3:z.length=1:=by have:=congrArg List.length cN;simpa using this.symm
    rw[hlen,s3,←cN,Ge]
    show Kp (.ref (Z.bs.length+s.be) 0 0 l.toNat false) s.cj (s.hA++List.map br Z.bs++[⟨0,1,List.replicate l.toNat [AV.bool false]⟩])
    rw[show List.replicate l.toNat [AV.bool false]=List.map aT (List.replicate l.toNat false) by rw[List.map_replicate];rfl,List.append_assoc,xh]
    have adb:(List.replicate l.toNat false).length=l.toNat:=List.length_replicate
    rw[adb] at this
    exact this
   ·exact h.elim
  ·exact h.elim
 ·exact h.elim
def aaj (P:Program) (t:TypeId) (b g:Nat) (i:Int) (c:Nat) (v:TV) (s:TS) (dD:Nat) (al:List TV) (K:TS→aI):aI:=
 let b3:=al.take c++sE v++al.drop (c+(sE v).length)
 let s':=s.hT b s.be (.dr g b3)
 .eq dD g (.eq i 0 (.eq (Nat.blt b s.be&&AY v&&yY P t v.bp&&Nat.ble (c+(fC v.bp).length) al.length) true (.eq (fI (cU al) c (fC v.bp)) (cU b3) (.eq b3.length al.length (.eq s'.cj s.cj (K s'))))))
theorem an8 (af:cf.n≤1000000) {t:TypeId} {b g c dD:Nat} {al:List TV} {i:Int} {v:TV} {K:TS→aI} {Kp:List (Nat×List AV)→List Blk→Prop} (az:Fits s) (aE:s.get (bI b)= .dr dD al)
  (hK: ∀s' (Z':FZ),(K s').den R→ @Fits Z' s'→s'.tT cf.n=s.tT cf.n→Kp s'.cj (@TS.ap Z' cf.n s').H) (h:(aaj P t b g i c v s dD al K).den R):
  nG P t (.ptr b g i.toNat c) v.bp (s.ap cf.n).L (s.ap cf.n).H Kp:=by
 obtain⟨h1,h2,aD,bj,cl,cC,h⟩:=h
 subst h1;subst h2
 simp only[Bool.and_eq_true] at aD
 obtain⟨⟨⟨hb,_⟩,a7⟩,hle⟩:=aD
 have hb:b<s.be:=by rw[←Nat.blt_eq];exact hb
 have hs:=Io a7
 unfold nG
 rw[if_pos hs]
 refine ei (by rw[u3 hb,aE]) ⟨rfl,ei (a:=cU al) rfl ⟨by rw[p1,List.length_map];exact Nat.le_of_ble_eq_true hle,?_⟩⟩
 have:=hK _ Z h (sD az) (sC af)
 rw[zx hb,cC] at this
 show Kp s.cj ((s.ap cf.n).H.set b ⟨dD,al.length,[fI (cU al) c (fC v.bp)]⟩)
 rw[bj,←cl]
 exact this
end
inductive pX where
 | v (e:aR)
 | fr
 | w
def pX.es:List pX→List aR
 | []=>[]
 | .v e::r=>e::pX.es r
 | .fr::r=>pX.es r
 | .w::r=> .int::pX.es r
def CR (aE:Nat):(l:List pX)→cL (pX.es l)→List AV
 | [],_=>[]
 | .v e::r,x=>p7 e x.1::CR aE r x.2
 | .fr::r,x=> .ptr 0 aE 0 0::CR aE r x
 | .w::r,x=> .ptr 3 0 (show Int from x.1).toNat 0::CR aE r x.2
def HW (F:Frame):List TV:=[.b (.v F.ok),.ref 1 0 F.aB.length false,.ref 2 0 F.au.length false,.ref 3 0 F.O.length false]
def Ky [Z:FZ] (aE:Nat) (ids:List Nat) (F:Frame):List Blk:=
 [⟨aE,4,[cU (HW F)]⟩,⟨0,1,F.aB.map (cy true .bool)⟩,⟨0,2,F.au.map (cy true .dx)⟩,⟨0,5,aU 4 Z.ws ids⟩]++Z.bs.map br
def IQ [Z:FZ] (ids:List Nat) (F:Frame):Prop:=gL Z.ws ids Z.bs∧view Z.ws ids Z.bs=F.O
def abb (P:Program) (f:FuncId) (aE:Nat) (args:List AV) (F:Frame) (Qz:Frame) (v:AV):Prop:=
 ∀(Z:FZ) (ids:List Nat),@IQ Z ids F→de P f args (@Ky Z aE ids F) fun r H'=>r=v∧ ∃(Z':FZ) (dc:List Nat),@IQ Z' dc Qz∧H'= @Ky Z' aE dc Qz
def AR (aE:Nat) (ids:List Nat) (F:Frame):List (Nat×TV):=
 [(bI 0,.dr aE (HW F)),(bI 1,.blk 0 .bool F.aB F.aB.length rfl),(bI 2,.blk 0 .dx F.au F.au.length rfl),(bI 3,.lK 0 4 ids),(dM,.hW F.O ids F.O.length rfl)]
def Kx (s:TS) (K:Nat→Frame→List Nat→aI):aI:=match s.get (bI 0) with
 | .dr g al=>(match al with
  | [.b k,.ref b1 g1 b5 f1,.ref b2 g2 n2 f2,.ref xa g3 nu f3]=>(match s.get (bI 1) with
   | .blk h1 aG o a6 _=>if q1:aG=aR.bool then(match s.get (bI 2) with
    | .blk h2 e2 q bx _=>if q2:e2=aR.dx then(match s.get (bI 3) with
     | .lK aD iA ids=>(match s.get dM with
      | .hW V dc bO _=> .eq s.be 4 (.eq (b1,g1,b5,f1) (1,0,a6,false) (.eq (b2,g2,n2,f2) (2,0,bx,false) (.eq (xa,g3,nu,f3) (3,0,bO,false) (.eq (h1,h2,aD,iA) (0,0,0,4)
       (.eq dc ids (K g ⟨k.den,ni q1 o,ni q2 q,V⟩ ids))))))
      | _=> .no)
     | _=> .no) else .no
    | _=> .no) else .no
   | _=> .no)
  | _=> .no)
 | _=> .no
theorem ael [Z:FZ] {n:Nat} {s:TS} {K:Nat→Frame→List Nat→aI} {R:Exit→TS→Prop} (az:Fits s) (h:(Kx s K).den R): ∃g F ids,(K g F ids).den R∧IQ ids F∧(s.ap n).H=Ky g ids F∧s.be=4∧s.get dM= .hW F.O ids F.O.length rfl:=by
 unfold Kx at h
 split at h
 ·rename_i g al ue
  split at h
  ·split at h
   ·rename_i h1 aG o a6 Gz nm
    split at h
    ·rename_i q1
     subst q1
     split at h
     ·rename_i h2 e2 q bx kb De
      split at h
      ·rename_i q2
       subst q2
       split at h
       ·rename_i aD iA ids afA
        split at h
        ·rename_i V dc bO lY hk
         obtain⟨bc,dA,g_,pz,ah8,M5,h⟩:=h
         cases dA;cases g_;cases pz;cases ah8;subst M5;subst Gz;subst kb;subst lY
         obtain⟨G,e,_⟩:=az V dc _ _ hk
         refine⟨_,_,_,h,⟨G,e⟩,?_,bc,hk⟩
         rw[tQ hk]
         have hD:s.hA=[(s.get (bI 0)).eE,(s.get (bI 1)).eE,(s.get (bI 2)).eE,(s.get (bI 3)).eE]:=by unfold TS.hA;rw[bc];rfl
         rw[hD,ue,nm,De,afA];rfl
        ·exact h.elim
       ·exact h.elim
      ·exact h.elim
     ·exact h.elim
    ·exact h.elim
   ·exact h.elim
  ·exact h.elim
 ·exact h.elim
structure vb (P:Program) where
 f:FuncId
 kh:List pX
 rs:List aR
 pre:cL (pX.es kh)→Frame→Prop
 fn:cL (pX.es kh)→Frame→Frame
 c7:cL (pX.es kh)→Frame→cL rs
 ok: ∀aE x F,pre x F→abb P f aE (CR aE kh x) F (fn x F) (sH rs (c7 x F))
def nd:(l:List pX)→List TV→cL (pX.es l)
 | [],_=>()
 | .v e::r,v::vs=>(aeq e v,nd r vs)
 | .fr::r,_::vs=>nd r vs
 | .w::r,v::vs=>((match v with
  | .ptr _ _ i _ _=>i
  | _=>(0:Int)),nd r vs)
 | .v e::r,[]=>(e.yb.default,nd r [])
 | .fr::r,[]=>nd r []
 | .w::r,[]=>((0:Int),nd r [])
def Ga {P:Program}:List (vb P)→FuncId→(vb P→aI)→aI→aI
 | [],_,_,t=>t
 | c::r,f,K,t=>match Nat.beq c.f f with
  | true=>K c
  | false=>Ga r f K t
def JH {P:Program} (c:vb P) (args:List TV) (s:TS) (K:TV→TS→aI):aI:=Kx s fun g F ids=>
 .eq (cU args) (CR g c.kh (nd c.kh args)) (.eq ((cU args).all e9&&(cU args).all lE) true (.p (c.pre (nd c.kh args) F) (.all (List Nat) fun dc=>
  let s':=s.add ((gQ,.u)::AR g dc (c.fn (nd c.kh args) F)) s.vs s.be
  .eq s'.cj s.cj (.eq (AW (sH c.rs (c.c7 (nd c.kh args) F))) true (K (HU c.rs (c.c7 (nd c.kh args) F)) s')))))
theorem akf (aE:Nat) (ids:List Nat) (F:Frame) (s:TS):let s':=s.add ((gQ,.u)::AR aE ids F) s.vs s.be
  s'.get (bI 0)= .dr aE (HW F)∧s'.get (bI 1)= .blk 0 .bool F.aB F.aB.length rfl∧s'.get (bI 2)= .blk 0 .dx F.au F.au.length rfl∧s'.get (bI 3)= .lK 0 4 ids∧s'.get dM= .hW F.O ids F.O.length rfl∧s'.get gQ= .u:=by
 intro s'
 have aA:gQ≠bI 0∧gQ≠bI 1∧gQ≠bI 2∧gQ≠bI 3∧gQ≠dM:=by unfold gQ bI dM;omega
 have e: ∀k,s'.get k=h6 ((gQ,.u)::AR aE ids F) k (s.get k):=fun k=>TS.jS ..
 refine⟨?_,?_,?_,?_,?_,?_⟩<;>rw[e]<;>rfl
theorem acH [Z:FZ] {P:Program} {n:Nat} (af:n≤1000000) {c:vb P} {args:List TV} {s:TS} {K:TV→TS→aI} {R:Exit→TS→Prop} {Kp:AV→List (Nat×List AV)→List Blk→Prop} (az:Fits s)
  (hK: ∀v s' (Z':FZ),(K v s').den R→ @Fits Z' s'→s'.tT n=s.tT n→Kp v.bp s'.cj (@TS.ap Z' n s').H) (h:(JH c args s K).den R):mJ P c.f (cU args) (s.ap n).L (s.ap n).H Kp:=by
 unfold JH at h
 obtain⟨g,F,ids,bw,h1,h2,aD,_⟩:=ael (n:=n) az h
 obtain⟨dA,g_,pz,hk⟩:=bw
 simp only[Bool.and_eq_true] at g_
 refine .inr (.inr (.inl ⟨g_.1,g_.2,?_⟩))
 rw[h2,dA]
 refine(c.ok g _ F pz Z ids h1).mono fun r H' U=> ?_
 obtain⟨rfl,Z',dc,q1,rfl⟩:=U
 obtain⟨M5,ah9,hk⟩:=hk dc
 refine⟨ah9,?_⟩
 obtain⟨ag,a6,bx,dF,f_,akb⟩:=akf g dc (c.fn (nd c.kh args) F) s
 have vu: @Fits Z' (s.add ((gQ,.u)::AR g dc (c.fn (nd c.kh args) F)) s.vs s.be):=by
  intro V3 GM nu xL aD
  rw[f_] at aD
  cases aD
  refine⟨q1.1,q1.2,fun id xs hx=> ?_⟩
  rw[akb] at hx;cases hx
 have:=hK _ _ Z' hk vu (EJ af fun p ab=>by
  simp only[AR,List.mem_cons,List.not_mem_nil,or_false] at ab
  rcases ab with rfl | rfl | rfl | rfl | rfl | rfl
  ·show 1000000≤gQ;unfold gQ;omega
  ·show 1000000≤bI 0;unfold bI;omega
  ·show 1000000≤bI 1;unfold bI;omega
  ·show 1000000≤bI 2;unfold bI;omega
  ·show 1000000≤bI 3;unfold bI;omega
  ·exact Nat.le_refl _)
 rw[M5,Oc,@tQ Z' n _ _ _ _ _ f_] at this
 have hD: @TS.hA Z' (s.add ((gQ,.u)::AR g dc (c.fn (nd c.kh args) F)) s.vs s.be)=[@TV.eE Z' (.dr g (HW (c.fn (nd c.kh args) F))),@TV.eE Z' (.blk 0 .bool (c.fn (nd c.kh args) F).aB _ rfl),@TV.eE Z' (.blk 0 .dx (c.fn (nd c.kh args) F).au _ rfl),@TV.eE Z' (.lK 0 4 dc)]:=by
  rw[←ag,←a6,←bx,←dF]
  show(List.range s.be).map _=_
  rw[aD];rfl
 rw[hD] at this
 exact this
inductive nM where
 | v (e:aR)
 | p
def nM.es:List nM→List aR
 | []=>[]
 | .v e::r=>e::nM.es r
 | .p::r=>nM.es r
def FV (g:Nat):(l:List nM)→cL (nM.es l)→List AV
 | [],_=>[]
 | .v e::r,x=>p7 e x.1::FV g r x.2
 | .p::r,x=> .ptr 0 g 0 0::FV g r x
structure sq (P:Program) where
 f:FuncId
 ce:aR
 kh:List nM
 rs:List aR
 pre:cL (nM.es kh)→ce.T→Prop
 fn:cL (nM.es kh)→ce.T→ce.T
 c7:cL (nM.es kh)→ce.T→cL rs
 ok: ∀g x c,pre x c→w0 P f g (FV g kh x) (cy false ce c) (cy false ce (fn x c)) (sH rs (c7 x c))
def XL:List nM→List TV→TV
 | .p::_,v::_=>v
 | .v _::r,_::vs=>XL r vs
 | _,_=> .u
def KR:List nM→Bool
 | []=>false
 | .p::_=>true
 | .v _::r=>KR r
def Oj:TS:=⟨[],[],[],0⟩
def FG (p:AV):(l:List nM)→List TV→(cL (nM.es l)→List Prop→aI)→aI
 | [],[],K=>K () []
 | .v e::r,v::vs,K=>conv Oj e v fun x o=>FG p r vs fun y ij=>K (x,y) (o++ij)
 | .p::r,v::vs,K=> .eq v.bp p (FG p r vs K)
 | _,_,_=> .no
def akI (e:aR):Bool:=e.q5
def JO {P:Program} (c:sq P) (args:List TV) (p:AV) (cells:List TV) (K:TV→c.ce.T→aI):aI:=
 .eq (cU cells) (cy false c.ce (c.ce.mk (rH c.ce.bV cells))) (.eq (KR c.kh&&akI c.ce&&(cU args).all e9) true (FG p c.kh args fun x o=>
  HA (o++[c.pre x (c.ce.mk (rH c.ce.bV cells))]) (K (HU c.rs (c.c7 x (c.ce.mk (rH c.ce.bV cells)))) (c.fn x (c.ce.mk (rH c.ce.bV cells))))))
def JP {P:Program} (c:sq P) (args:List TV) (s:TS) (K:TV→TS→aI):aI:=match XL c.kh args with
 | .ptr b g _ _ _=>(match s.get (bI b) with
  | .dr dD cells=>(match Nat.blt b s.be with
   | true=> .eq dD g (JO c args (.ptr b g 0 0) cells fun v y=>
     let s':=s.hT b s.be (.dr g (kz false c.ce y))
     .eq s'.cj s.cj (K v s'))
   | false=> .no)
  | _=> .no)
 | .lp v _=>(match l3 s.vs v with
  | some m=>JO c args (.fS v 0) (iI s v 0 m) fun w y=>
    let s':=s.add (xd v 0 (kz false c.ce y)) s.vs s.be
    .eq s'.cj (mw s.cj v (cy false c.ce y)) (.eq (rA (xd v 0 (kz false c.ce y))) true (K w s'))
  | none=> .no)
 | _=> .no
def Gb {P:Program}:List (sq P)→FuncId→(sq P→aI)→aI→aI
 | [],_,_,t=>t
 | c::r,f,K,t=>match Nat.beq c.f f with
  | true=>K c
  | false=>Gb r f K t
theorem Sg {P:Program} {f:FuncId} {K:sq P→aI} {t:aI} {R:Exit→TS→Prop}: ∀{nH:List (sq P)},(Gb nH f K t).den R→(∃m,m.f=f∧(K m).den R)∨t.den R
 | [],h=> .inr h
 | c::r,h=>by
  unfold Gb at h
  split at h
  ·rename_i hf;exact .inl ⟨c,Nat.eq_of_beq_eq_true hf,h⟩
  ·exact Sg h
theorem FT {e:aR} (h:e.q5=true) (x:e.T):(cy false e x).all yc=true∧(cy false e x).all ky=true:=by cases e<;>first | exact⟨rfl,rfl⟩ | cases h
theorem JN {p:AV} {g:Nat} {R:Exit→TS→Prop}: ∀{l:List nM} {vs:List TV} {K:cL (nM.es l)→List Prop→aI},(FG p l vs K).den R→ ∃x o,(K x o).den R∧((∀φ∈o,φ)→ak (wY p (.ptr 0 g 0 0)) (cU vs) (FV g l x))∧(KR l=true→p∈cU vs)
 | [],[],K,h=>⟨(),[],h,fun _=>ak.nil,fun h=>by cases h⟩
 | .v e::r,v::vs,K,h=>by
  letI Z:FZ:=⟨[],[]⟩
  obtain⟨x,o,h,dA⟩:=JM (n:=0) (Fits.none (s:=Oj) rfl) (show(conv Oj e v _).den R from h)
  obtain⟨y,ij,h,g_,pz⟩:=JN (l:=r) h
  exact⟨(x,y),o++ij,h,fun an=>ak.cons (.inr (dA fun φ e7=>an φ (List.mem_append_left _ e7))) (g_ fun φ e7=>an φ (List.mem_append_right _ e7)),fun ab=>List.mem_cons_of_mem _ (pz ab)⟩
 | .p::r,v::vs,K,h=>by
  obtain⟨e,h⟩:=h
  obtain⟨y,ij,h,g_,pz⟩:=JN (l:=r) h
  exact⟨y,ij,h,fun an=>ak.cons (.inl ⟨e,rfl⟩) (g_ an),fun _=>by rw[cU,e];exact List.mem_cons_self ..⟩
 | [],_::_,K,h=>h.elim
 | .v _::_,[],K,h=>h.elim
 | .p::_,[],K,h=>h.elim
theorem RC {P:Program} {c:sq P} {args:List TV} {p:AV} {cells:List TV} {K:TV→c.ce.T→aI} {R:Exit→TS→Prop} (g:Nat) (h:(JO c args p cells K).den R):
  ∃eu x y t,(K t y).den R∧(cU args).all e9=true∧cU cells=cy false c.ce x∧c.ce.q5=true∧p∈cU args∧ak (wY p (.ptr 0 g 0 0)) (cU args) eu∧w0 P c.f g eu (cy false c.ce x) (cy false c.ce y) t.bp:=by
 obtain⟨h1,h2,h⟩:=h
 simp only[Bool.and_eq_true] at h2
 obtain⟨x,o,h,g_,pz⟩:=JN (g:=g) h
 obtain⟨an,h⟩:=Xm h
 refine⟨_,_,_,_,h,h2.2,h1,h2.1.2,pz h2.1.1,g_ fun φ e7=>an φ (List.mem_append_left _ e7),?_⟩
 rw[Oc]
 exact c.ok g x _ (an _ (List.mem_append_right _ (List.mem_singleton.2 rfl)))
theorem X4 {c:List TV} {e:aR} {x:e.T} (h:cU c=cy false e x):c.length=(cy false e x).length:=by rw[←h,p1,List.length_map]
theorem acM [Z:FZ] {P:Program} {n:Nat} (af:n≤1000000) {c:sq P} {args:List TV} {s:TS} {K:TV→TS→aI} {R:Exit→TS→Prop} {Kp:AV→List (Nat×List AV)→List Blk→Prop} (az:Fits s)
  (hK: ∀v s' (Z':FZ),(K v s').den R→ @Fits Z' s'→s'.tT n=s.tT n→Kp v.bp s'.cj (@TS.ap Z' n s').H) (h:(JP c args s K).den R):mJ P c.f (cU args) (s.ap n).L (s.ap n).H Kp:=by
 unfold JP at h
 split at h
 ·rename_i b g i m col ab
  split at h
  ·rename_i dD cells aE
   split at h
   ·rename_i hb
    have hb:b<s.be:=by rw[←Nat.blt_eq];exact hb
    obtain⟨e,h⟩:=h
    subst e
    obtain⟨eu,x,y,t,bw,h1,h2,aD,bj,cl,cC⟩:=RC dD h
    obtain⟨bJ,bw⟩:=bw
    refine .inr (.inr (.inr ⟨h1,eu,cy false c.ce x,cy false c.ce y,t.bp,(FT aD x).1,(FT aD y).2,.inl ⟨b,dD,?_,bj,cl,cC,?_⟩⟩))
    ·rw[u3 hb,aE]
     show some (Blk.mk dD cells.length [cU cells])=_
     rw[X4 h2,h2]
    ·have:=hK _ _ Z bw (sD az) (sC af)
     rw[bJ,zx hb] at this
     have aG:TV.eE (.dr dD (kz false c.ce y))=Blk.mk dD (cy false c.ce x).length [cy false c.ce y]:=by
      show Blk.mk dD (kz false c.ce y).length [cU (kz false c.ce y)]=_
      rw[X4 (FA false c.ce y),FA,xf,xf]
     rw[aG] at this
     exact this
   ·exact h.elim
  ·exact h.elim
 ·rename_i v col ab
  split at h
  ·rename_i m hm
   obtain⟨eu,x,y,t,bw,h1,h2,aD,bj,cl,cC⟩:=RC 0 h
   obtain⟨bJ,hb,bw⟩:=bw
   refine .inr (.inr (.inr ⟨h1,eu,cy false c.ce x,cy false c.ce y,t.bp,(FT aD x).1,(FT aD y).2,.inr ⟨v,?_,bj,cl,cC,?_⟩⟩))
   ·rw[yZ,hm,←h2];rfl
   ·have:=hK _ _ Z bw (CE hb az) (CD af hb)
    rw[bJ,CC hb] at this
    exact this
  ·exact h.elim
 ·exact h.elim
structure st (P:Program) where
 len:List Nat
 rk:List (vb P)
 Iz:List (sq P)
def P9 (P:Program) (n:Nat) (t:TypeId) (b g:Nat) (i:Int) (m c:Nat) (v:TV) (s:TS) (w:TV) (K:TS→aI):aI:=match w with
 | .lK dD iA ids=>(match AY v with
  | true=>P_ P t b g i c v s dD iA ids K
  | false=> .no)
 | .dr dD al=>aaj P t b g i c v s dD al K
 | _=>P6 P n t b g i m c v s K
section
variable {P:Program} (cf:h0 P) (s:TS)
def IG (eI:st P) (o:Oper) (K:TV→TS→aI):aI:=match o.op with
 | .store t a v=>(match cM cf.n s a with
  | .lp x c=>rF (cM cf.n s v) fun w=>C1 cf s o (.tup []) (xd x c (sE w)) s.vs K
  | .ptr b g i m c=>rF (cM cf.n s v) fun w=>P9 P cf.n t b g i m c w s (s.get (bI b)) fun s'=>K (.tup []) s'
  | .zR w ids m j=>rF (cM cf.n s v) fun x=>EL P t w ids m j x s fun s'=>K (.tup []) s'
  | _=> .no)
 | .alloc e=>(match o.dst with
  | some d=>C1 cf s o (.lp d 0) (xd d 0 (EU P e)) ((d,(EU P e).length)::s.vs) K
  | none=> .no)
 | .box _ x=>(match o.dst with
  | some d=>rF (cM cf.n s x) fun w=>C1 cf s o (.lp d 0) (xd d 0 (sE w)) ((d,(sE w).length)::s.vs) K
  | none=> .no)
 | .makeSlice t l c=>(match kg s with
  | true=>AP cf.J7 t fun e=>Ny P cf.n t e (cM cf.n s l) (cM cf.n s c) s K
  | false=>Nw P t (cM cf.n s l) (cM cf.n s c) s K)
 | .buildSlice t m ps=>AP cf.J7 t fun e=>Hb s e (ps.toList.map fun p=>cM cf.n s p.2) fun xs=>tY (fun H Q=>kU P o (fun x=>(cM cf.n s x).bp) s.cj H Q) (fun v=>K v s) (.v (Wy e xs (ps.toList.map fun p=>cM cf.n s p.2)))
 | .binOp op t x y _=>(match cM cf.n s x with
  | .l e xs _ _=>(match op with
   | .eql=> .eq (tc y&&(j_ P t).isSome) true (.two (.kY (xs≠[]) (K (.b .f) s)) (.kY (xs=[]) (.all Bool fun b=>K (.b (.v b)) s)))
   | _=> .no)
  | _=>uQ cf s o fun v=>K v s)
 | .call c=>(match c.callee with
  | .builtin b=>(match b with
   | .len=>(match c.args.toList,c.argTypes.toList with
    | [x],[t]=>(match cM cf.n s x with
     | .l e xs dP fr=>(match o.dst with
      | some d=>(match eI.len.any (Nat.beq d) with
       | true=>uQ cf s o fun v=>K v s
       | false=> .eq (k1 P t (TV.l e xs dP fr).bp) true (.kY (xs.length≤4611686018427387904) (K (.i .i64 xs.length) s)))
      | none=> .no)
     | _=>uQ cf s o fun v=>K v s)
    | _,_=> .no)
   | .append=>(match c.args.toList,c.argTypes.toList with
    | [x,y],[t,t2]=>Je P cf.n t t2 (cM cf.n s x) (cM cf.n s y) s K
    | _,_=> .no)
   | _=> .no)
  | .value f=>(match cM cf.n s f with
   | .fn g caps=>Ga eI.rk g (fun m=>JH m (c.args.toList.map (cM cf.n s)++caps) s K) (Gb eI.Iz g (fun m=>JP m (c.args.toList.map (cM cf.n s)++caps) s K) (uQ cf s o fun v=>K v s))
   | _=> .no)
  | _=> .no)
 | _=>uQ cf s o fun v=>K v s
end
section
variable {P:Program} {cf:h0 P} {s:TS} {R:Exit→TS→Prop}
variable {K:TV→TS→aI} {Kp:AV→List (Nat×List AV)→List Blk→Prop}
theorem an4 {t:TypeId} {m:Nat} {ids:List Nat} {w j:Int} {v:TV} {K:TS→aI} (h:(EL P t w ids m j v s K).den R):e9 v.bp=true:=by
 unfold EL at h
 split at h
 ·obtain⟨_,_,_,h⟩:=h
  split at h
  ·rfl
  ·exact h.elim
 ·exact h.elim
end
section
variable {P:Program} {cf:h0 P} {s:TS} {R:Exit→TS→Prop}
variable {K:TV→TS→aI} {Kp:AV→List (Nat×List AV)→List Blk→Prop}
theorem Sf {f:FuncId} {K:vb P→aI} {t:aI}: ∀{nH:List (vb P)},(Ga nH f K t).den R→(∃m,m.f=f∧(K m).den R)∨t.den R
 | [],h=> .inr h
 | c::r,h=>by
  unfold Ga at h
  split at h
  ·rename_i hf;exact .inl ⟨c,Nat.eq_of_beq_eq_true hf,h⟩
  ·exact Sf h
end
section
variable [Z:FZ] {P:Program} {cf:h0 P} {s:TS} {R:Exit→TS→Prop}
variable {K:TV→TS→aI} {Kp:AV→List (Nat×List AV)→List Blk→Prop}
theorem an7 (af:cf.n≤1000000) (az:Fits s) {t:TypeId} {b g m c:Nat} {i:Int} {v:TV} {K:TS→aI} {Kp:List (Nat×List AV)→List Blk→Prop} (hK: ∀s' (Z':FZ),(K s').den R→ @Fits Z' s'→s'.tT cf.n=s.tT cf.n→Kp s'.cj (@TS.ap Z' cf.n s').H)
  (h:(P9 P cf.n t b g i m c v s (s.get (bI b)) K).den R):e_ (e9 v.bp) (nG P t (.ptr b g i.toNat c) v.bp (s.ap cf.n).L (s.ap cf.n).H Kp):=by
 unfold P9 at h
 split at h
 ·rename_i dD iA ids aE
  split at h
  ·rename_i hv
   exact Hw (Hs hv) (an9 af az aE hK h)
  ·exact h.elim
 ·rename_i dD al aE
  have aD:(Nat.blt b s.be&&AY v&&yY P t v.bp&&Nat.ble (c+(fC v.bp).length) al.length)=true:=h.2.2.1
  simp only[Bool.and_eq_true] at aD
  exact Hw (Hs aD.1.1.2) (an8 af az aE hK h)
 ·exact an1 af az hK h
theorem aaJ (af:cf.n≤1000000) (az:Fits s) {eI:st P} {o:Oper} (hK:zp cf s R K Kp) (h:(IG cf s eI o K).den R):lj P [] o (ch (s.ap cf.n).T) (s.ap cf.n).L (s.ap cf.n).H Kp:=by
 have Ej: ∀v,(K v s).den R→Kp v.bp (s.ap cf.n).L (s.ap cf.n).H:=fun v hv=>hK v s Z hv az rfl
 have rd:(uQ cf s o fun v=>K v s).den R→kU P o (ch (s.ap cf.n).T) (s.ap cf.n).L (s.ap cf.n).H fun r=>Kp r (s.ap cf.n).L (s.ap cf.n).H:=fun h=>X6 az (Kp:=fun r=>Kp r (s.ap cf.n).L (s.ap cf.n).H) Ej h
 unfold IG at h
 split at h
 ·rename_i t a v gH
  split at h
  ·rw[sM] at h;exact KI af az hK h
  ·rename_i b g i m c ar
   rw[sM] at h
   obtain⟨dst,op,ty,pos,after,guard⟩:=o
   cases gH
   show e_ (e9 (ch (s.ap cf.n).T v)) (nG P t (ch (s.ap cf.n).T a) (ch (s.ap cf.n).T v) _ _ _)
   rw[mm]
   show e_ (e9 (cM cf.n s v).bp) (nG P t (cM cf.n s a).bp (cM cf.n s v).bp _ _ _)
   rw[ar]
   exact an7 af az (fun s' Z' h1 hf h2=>hK (.tup []) s' Z' h1 hf h2) h
  ·rename_i w ids m j ar
   rw[sM] at h
   obtain⟨dst,op,ty,pos,after,guard⟩:=o
   cases gH
   show e_ (e9 (ch (s.ap cf.n).T v)) (nG P t (ch (s.ap cf.n).T a) (ch (s.ap cf.n).T v) _ _ _)
   rw[mm]
   show e_ (e9 (cM cf.n s v).bp) (nG P t (cM cf.n s a).bp (cM cf.n s v).bp _ _ _)
   rw[ar]
   refine Hw ?_ (an5 af az (fun s' Z' h1 hf h2=>hK (.tup []) s' Z' h1 hf h2) h)
   exact an4 h
  ·exact h.elim
 ·split at h
  ·exact KI af az hK h
  ·exact h.elim
 ·split at h
  ·rw[sM] at h;exact KI af az hK h
  ·exact h.elim
 ·rename_i t l c gH
  obtain⟨dst,op,ty,pos,after,guard⟩:=o
  cases gH
  show AS P t (ch (s.ap cf.n).T l) (ch (s.ap cf.n).T c) _ _ _
  rw[mm]
  split at h
  ·obtain⟨e,h⟩:=Nn h
   exact akr af az hK h
  ·exact akj af az hK h
 ·rename_i t m ps gH
  obtain⟨e,h⟩:=Nn h
  obtain⟨xs,h⟩:=Nl (n:=cf.n) az h
  refine alv gH ?_
  rw[mm]
  exact vr (F:=fun H Q=>kU P o _ _ H Q) (s.ap cf.n).H (Kp:=fun r=>Kp r (s.ap cf.n).L (s.ap cf.n).H) Ej h
 ·rename_i op t x y ty2 gH
  split at h
  ·rename_i e xs dP fr hx
   split at h
   ·obtain⟨h1,h2,aD⟩:=h
    obtain⟨dst,op,ty,pos,after,guard⟩:=o
    cases gH
    show vh P .eql t (ch (s.ap cf.n).T x) _ (tc y) _
    rw[mm]
    show vh P .eql t (cM cf.n s x).bp _ (tc y) _
    rw[hx]
    show if tc y=true∧(j_ P t).isSome=true then _ else _
    rw[if_pos (by simpa using h1)]
    refine⟨fun bq=> ?_,fun he b=> ?_⟩
    ·exact Ej (.b .f) (h2 fun e=>bq (by rw[e];rfl))
    ·exact Ej (.b (.v b)) (aD (by simpa using he) b)
   ·exact h.elim
  ·refine X7 (rd h) (fun c=>by rw[gH];intro e;cases e) (fun t m ps=>by rw[gH];intro e;cases e)
 ·rename_i c gH
  obtain⟨callee,args,argTypes⟩:=c
  split at h
  ·rename_i b hb
   cases hb
   split at h
   ·split at h
    ·rename_i x t h1 h2
     simp only at h1 h2
     split at h
     ·rename_i e xs dP fr hx
      split at h
      ·split at h
       ·exact N9 gH (rd h)
       ·obtain⟨aG,h⟩:=h
        obtain⟨dst,op,ty,pos,after,guard⟩:=o
        cases gH
        show(match args.toList,argTypes.toList with
         | [x],[t]=>e_ (k1 P t (ch (s.ap cf.n).T x)) (uF (ch (s.ap cf.n).T x) fun r=>Kp r _ _)
         | _,_=>False)
        simp only[h1,h2]
        rw[mm]
        show e_ (k1 P t (cM cf.n s x).bp) (uF (cM cf.n s x).bp _)
        rw[hx,aG]
        show(List.map _ _).length≤_→Kp (.int .i64 ((List.map _ _).length:Nat)) _ _
        rw[List.length_map]
        exact fun aw=>Ej _ (h aw)
      ·exact h.elim
     ·exact N9 gH (rd h)
    ·exact h.elim
   ·split at h
    ·rename_i x y t t2 h1 h2
     simp only at h1 h2
     obtain⟨dst,op,ty,pos,after,guard⟩:=o
     cases gH
     show(match args.toList,argTypes.toList with
      | [s',x],[t,t2]=>e9 (ch (s.ap cf.n).T s')=true∧e9 (ch (s.ap cf.n).T x)=true∧w9 P t t2 (ch (s.ap cf.n).T s') (ch (s.ap cf.n).T x) _ _ _
      | _,_=>False)
     simp only[h1,h2]
     rw[mm]
     exact abH af az hK h
    ·exact h.elim
   ·exact h.elim
  ·rename_i f hf
   cases hf
   split at h
   ·rename_i g caps hc
    rcases Sf h with⟨m,e,hm⟩ | hm
    ·subst e
     obtain⟨dst,op,ty,pos,after,guard⟩:=o
     cases gH
     show nh (ch (s.ap cf.n).T f) fun g caps=>mJ P g (args.toList.map (ch (s.ap cf.n).T)++caps) _ _ Kp
     rw[mm]
     show nh (cM cf.n s f).bp fun g caps=>mJ P g (args.toList.map (fun x=>(cM cf.n s x).bp)++caps) _ _ Kp
     rw[hc]
     have:=acH (n:=cf.n) af az (fun v s' Z' h1 h2 aD=>hK v s' Z' h1 h2 aD) hm
     rw[p1,List.map_append,List.map_map] at this
     show mJ P m.f (_++cU caps) _ _ Kp
     rw[p1];exact this
    ·rcases Sg hm with⟨m,e,ab⟩ | hm
     ·subst e
      obtain⟨dst,op,ty,pos,after,guard⟩:=o
      cases gH
      show nh (ch (s.ap cf.n).T f) fun g caps=>mJ P g (args.toList.map (ch (s.ap cf.n).T)++caps) _ _ Kp
      rw[mm]
      show nh (cM cf.n s f).bp fun g caps=>mJ P g (args.toList.map (fun x=>(cM cf.n s x).bp)++caps) _ _ Kp
      rw[hc]
      have:=acM (n:=cf.n) (Kp:=Kp) af az (fun v s' Z' h1 h2 aD=>hK v s' Z' h1 h2 aD) ab
      rw[p1,List.map_append,List.map_map] at this
      show mJ P m.f (_++cU caps) _ _ Kp
      rw[p1];exact this
     ·exact N9 gH (rd hm)
   ·exact h.elim
  ·exact h.elim
 ·rename_i h1 h2 aD bj cl cC hM
  exact X7 (rd h) (fun c=>hM c) (fun t m ps=>cl t m ps)
end
def yl (b:Bool):TV:= .b (match b with
 | true=> .t
 | false=> .f)
theorem Wz (b:Bool):(yl b).bp= .bool b:=by cases b<;>rfl
def Ik (x:ey) (s:TS) (K:Bool→TS→aI):aI:=match x with
 | .t=>K true s
 | .f=>K false s
 | x=> .jX x s (K true ⟨[],s.T++s.B,s.vs,s.be⟩) (K false ⟨[],s.T++s.B,s.vs,s.be⟩)
def Iv (d:Nat) (v:TV):TV:=match v with
 | .b x=>(match x with
  | .v p=> .b (.at d p)
  | x=> .b x)
 | v=>v
theorem aop (d:Nat) (v:TV):(Iv d v).bp=v.bp:=by
 unfold Iv
 split
 ·split<;>rfl
 ·rfl
def lI (n:Nat) (s:TS) (d:Option Nat) (v:TV):TS:=match d with
 | none=>s
 | some d=>match Nat.blt d n with
  | true=>s.put d (Iv d v)
  | false=>s
theorem anZ [FZ] {n:Nat} {s s':TS} (hv:s'.vs=s.vs) (hb:s'.be=s.be) (h: ∀k,s'.get k=s.get k):s'.ap n=s.ap n:=by
 have hc: ∀v c m,iI s' v c m=iI s v c m:=by
  intro v c m
  induction m generalizing c with
  | zero=>rfl
  | succ m bz=>rw[iI,iI,h _,bz]
 have ax:=P5 (n:=n) hb (fun b=>h _) (h dM)
 have ci:s'.tT n=s.tT n:=by unfold TS.tT;simp only[h]
 have bJ:s'.cj=s.cj:=by unfold TS.cj;simp only[hv,hc]
 show(⟨s'.tT n,s'.cj,(s'.ap n).H⟩:St)=_
 rw[ci,bJ,ax];rfl
theorem aad (s:TS) (k:Nat):TS.get ⟨[],s.T++s.B,s.vs,s.be⟩ k=s.get k:=by unfold TS.get;simp only;rw[ym];rfl
theorem anV [FZ] {n:Nat} (s:TS):TS.ap n ⟨[],s.T++s.B,s.vs,s.be⟩=s.ap n:=anZ rfl rfl (aad s)
theorem P3 [FZ] {n:Nat} {x:ey} {s:TS} {K:Bool→TS→aI} {R:Exit→TS→Prop} (h:(Ik x s K).den R): ∃s',s'.ap n=s.ap n∧(∀k,s'.get k=s.get k)∧(K x.den s').den R:=by
 have key:(aI.jX x s (K true ⟨[],s.T++s.B,s.vs,s.be⟩) (K false ⟨[],s.T++s.B,s.vs,s.be⟩)).den R→ ∃s',s'.ap n=s.ap n∧(∀k,s'.get k=s.get k)∧(K x.den s').den R:=fun h=>by
  refine⟨_,anV s,aad s,?_⟩
  ·cases hx:x.den with
   | true=>exact h.1 hx
   | false=>exact h.2 hx
 cases x with
 | t=>exact⟨s,rfl,fun _=>rfl,h⟩
 | f=>exact⟨s,rfl,fun _=>rfl,h⟩
 | _=>exact key h
theorem HH {s:TS} {d k:Nat} {v:TV} (h:d<1000000) (hk:1000000≤k):(s.put d v).get k=s.get k:=by rw[TS.KF,if_neg (by omega)]
theorem NT [FZ] {s:TS} {d:Nat} {v:TV} (h:d<1000000) (f:Fits s):Fits (s.put d v):=f.congr fun k h1 _=>HH h h1
theorem XO {s:TS} {d:Nat} {v:TV} (h:d<1000000):(s.put d v).cj=s.cj:=by
 have hc: ∀eM c m,iI (s.put d v) eM c m=iI s eM c m:=by
  intro eM c m
  induction m generalizing c with
  | zero=>rfl
  | succ m bz=>rw[iI,iI,HH h (by unfold kI;omega),bz]
 show s.vs.map _=s.vs.map _
 simp only[hc]
theorem XN [FZ] {n:Nat} {s:TS} {d:Nat} {v:TV} (h:d<1000000):((s.put d v).ap n).H=(s.ap n).H:=P5 rfl (fun b=>HH h (by unfold bI;omega)) (HH h (by unfold dM;omega))
theorem Ec [FZ] {n:Nat} (af:n≤1000000) (s:TS) (d:Option Nat) (v:TV):(lI n s d v).ap n=⟨putA (s.ap n).T d v.bp,(s.ap n).L,(s.ap n).H⟩:=by
 cases d with
 | none=>rfl
 | some d=>
  unfold lI
  simp only
  split
  ·rename_i aW
   have aW:d<n:=by rw[←Nat.blt_eq];exact aW
   rw[←aop d v]
   generalize Iv d v=v
   have ci:(s.put d v).tT n=(s.tT n).set d v.bp:=by
    apply List.ext_getElem?
    intro t
    show((List.range n).map fun t=>((s.put d v).get t).bp)[t]?=(((List.range n).map fun t=>(s.get t).bp).set d v.bp)[t]?
    rw[List.getElem?_set]
    simp only[List.getElem?_map,List.length_map,List.length_range]
    rcases Nat.lt_or_ge t n with h | h
    ·rw[List.getElem?_range h]
     simp only[Option.map_some]
     rw[TS.KF]
     by_cases e:d=t
     ·simp[e,h]
     ·simp[e]
    ·rw[List.getElem?_eq_none (l:=List.range n) (by simpa using h)]
     by_cases e:d=t
     ·omega
     ·simp[e]
   have bJ:=XO (s:=s) (v:=v) (show d<1000000 by omega)
   have ax:=XN (n:=n) (s:=s) (v:=v) (show d<1000000 by omega)
   show(⟨(s.put d v).tT n,(s.put d v).cj,((s.put d v).ap n).H⟩:St)=_
   rw[ci,bJ,ax];rfl
  ·rename_i aW
   have aW: ¬d<n:=fun h=>by rw[←Nat.blt_eq] at h;rw[h] at aW;cases aW
   show s.ap n=⟨(s.ap n).T.set d v.bp,_,_⟩
   rw[List.set_eq_of_length_le]
   show((List.range n).map _).length≤d
   simp;omega
theorem Eb [FZ] {n:Nat} (af:n≤1000000) {s:TS} {d:Option Nat} {v:TV} (f:Fits s):Fits (lI n s d v):=by
 unfold lI
 split
 ·exact f
 ·split
  ·rename_i aW
   exact NT (by rw[Nat.blt_eq] at aW;omega) f
  ·exact f
theorem XR [FZ] {n:Nat} {s:TS} {t:Nat} {v:TV} (aY:t<1000000) (h:(s.get t).bp=v.bp):(s.put t v).ap n=s.ap n:=by
 have ci:(s.put t v).tT n=s.tT n:=by
  unfold TS.tT
  refine List.map_congr_left fun k _=> ?_
  rw[TS.KF];split
  ·rename_i e;subst e;exact h.symm
  ·rfl
 have bJ:=XO (s:=s) (v:=v) aY
 have ax:=XN (n:=n) (s:=s) (v:=v) aY
 show(⟨(s.put t v).tT n,(s.put t v).cj,((s.put t v).ap n).H⟩:St)=_
 rw[ci,bJ,ax];rfl
section
variable {P:Program} (cf:h0 P)
def HC (c x y:Operand) (s:TS) (K:TV→TS→aI):aI:=match cM cf.n s c with
 | .b z=>Ik z s fun b s=>
  let s:=match c with
   | .tmp t=>s.put t (yl b)
   | _=>s
  rF (cM cf.n s (bif b then x else y)) fun v=>K v s
 | _=> .no
def Gd (ops:Array Oper) (o:Oper) (s:TS) (run skip:TS→aI):aI:=match o.guard with
 | none=>run s
 | some g=>match(ops[g.1]?).bind (·.dst) with
  | none=> .no
  | some t=>match cM cf.n s (.tmp t) with
   | .b z=>Ik z s fun b s=>bif b==g.2 then run (s.put t (yl b)) else skip (s.put t (yl b))
   | .tup c=>match c with
    | []=>skip s
    | _=> .no
   | _=> .no
def stepT (eI:st P) (o:Oper) (s:TS) (K:TV→TS→aI):aI:=match o.op with
 | .pick c x y=>HC cf c x y s K
 | _=>IG cf s eI o K
def HV (eI:st P) (ops:Array Oper):List Oper→TS→(TS→aI)→aI
 | [],s,K=>K s
 | o::r,s,K=>Gd cf ops o s (fun s=>stepT cf eI o s fun v s=>HV eI ops r (lI cf.n s o.dst v) K) (fun s=>HV eI ops r (lI cf.n s o.dst (.tup [])) K)
def Kw (ops:Array Oper) (s:TS):List Nat→aI→aI
 | [],k=>k
 | i::r,k=> .eq ((opI ops i).guard.isNone&&(opI ops i).dst.isSome) true (.eq (fun(Z:FZ) H Q=>mK P (opI ops i) (fun x=>(cM cf.n s x).bp) s.cj (@TS.hA Z s++H) Q) (fun _ _ Q=>Q (match(opI ops i).dst with
  | some d=>(cM cf.n s (.tmp d)).bp
  | none=> .undef)) (Kw ops s r k))
def ww (eI:st P) (ops:Array Oper):List Item→TS→(TS→aI)→aI
 | [],s,K=>K s
 | x::r,s,K=>Gd cf ops (opI ops x.i) s
   (fun s=>match x.q with
    | true=>(match r0 (opI ops x.i) with
     | true=>(match(opI ops x.i).dst with
      | some d=> .eq (fun H Q=>mK P (opI ops x.i) (fun x=>(cM cf.n s x).bp) s.cj H Q) (fun _ Q=>Q (.fS d 0)) (ww eI ops r (lI cf.n s (opI ops x.i).dst (.lp d 0)) K)
      | none=> .no)
     | false=>(match(opI ops x.i).op with
      | .pick c a b=>HC cf c a b s fun v s=>ww eI ops r (lI cf.n s (opI ops x.i).dst v) K
      | _=>uQ cf s (opI ops x.i) fun v=>ww eI ops r (lI cf.n s (opI ops x.i).dst v) K))
    | false=>(match(opI ops x.i).op with
     | .pick _ _ _=> .no
     | _=>IG cf s eI (opI ops x.i) fun v s=>Kw cf ops s x.kB (ww eI ops r (lI cf.n s (opI ops x.i).dst v) K)))
   (fun s=>ww eI ops r (lI cf.n s (opI ops x.i).dst (.tup [])) K)
def EV (P:Program) (ops:Array Oper):List Item→List (Nat×List TV)
 | []=>[]
 | x::r=>match x.q with
  | true=>(match(opI ops x.i).op with
   | .alloc e=>(match(opI ops x.i).dst with
    | some d=>(d,EU P e)::EV P ops r
    | none=>EV P ops r)
   | _=>EV P ops r)
  | false=>EV P ops r
def Qx:List (Nat×List TV)→List (Nat×TV)
 | []=>[]
 | (d,c)::r=>xd d 0 c++Qx r
def J0 (eI:st P) (ops:Array Oper) (ord:List Item) (lb:List (List Nat)) (s:TS) (K:TS→aI):aI:=
 let jw:=EV P ops ord
 let s':=s.add (Qx jw) (jw.map (fun p=>(p.1,p.2.length))++s.vs) s.be
 match rA (Qx jw) with
 | false=> .no
 | true=> .eq (P.follows .mixedOrders) true (.eq lb.length ops.size (.eq (zH ops ord (CF lb)) true (.eq (ord.all (·.lit)) true (.eq s'.cj (jw.map (fun p=>(p.1,cU p.2))++s.cj)
  (.eq (xj (jw.map fun p=>(p.1,cU p.2)) s.cj) true (.eq (w8 ops s.cj ord) true (ww cf eI ops ord s' K)))))))
end
section
variable {P:Program} {cf:h0 P} {R:Exit→TS→Prop}
theorem Nr {n t:Nat} {s:TS} {v:TV} (h:cM n s (.tmp t)=v) (hv:v≠ .u):t<n∧s.get t=v:=by
 have h:(match Nat.blt t n with
  | true=>s.get t
  | false=>TV.u)=v:=h
 split at h
 ·rename_i hb;exact⟨by rw[←Nat.blt_eq];exact hb,h⟩
 ·exact absurd h.symm hv
end
section
variable {P:Program} {cf:h0 P} {R:Exit→TS→Prop}
theorem al5 {T:List AV} {t:Nat} {a:AV} (h:T.getD t .undef=a):T.set t a=T∨a= .undef:=by
 by_cases aw:t<T.length
 ·left
  rw[List.getD_eq_getElem?_getD,List.getElem?_eq_getElem aw] at h
  have h:T[t]=a:=h
  rw[←h];exact List.set_getElem_self ..
 ·right;rw[←h,List.getD_eq_getElem?_getD,List.getElem?_eq_none (by omega)];rfl
end
section
variable {P:Program} {cf:h0 P} {R:Exit→TS→Prop}
theorem ak9 {o:Oper} {T:List AV} {K:AV→Prop} {FR:Prop} (h: ∀c x y,o.op≠ .pick c x y):yD true o T K FR=FR:=by
 unfold yD
 split
 ·rename_i c x y e;exact absurd e (h c x y)
 ·rfl
end
section
variable [Z:FZ] {P:Program} {cf:h0 P} {R:Exit→TS→Prop}
theorem Sy (af:cf.n≤1000000) {ops:Array Oper} {o:Oper} {s:TS} {run skip:TS→aI} {x y:List AV→Prop} (az:Fits s) (hx: ∀s',Fits s'→s'.ap cf.n=s.ap cf.n→(run s').den R→x (s.ap cf.n).T) (aX: ∀s',Fits s'→s'.ap cf.n=s.ap cf.n→(skip s').den R→y (s.ap cf.n).T)
  (h:(Gd cf ops o s run skip).den R):qa ops true o (s.ap cf.n).T x y:=by
 unfold Gd at h
 unfold qa
 split at h
 ·rename_i aE;rw[aE];exact hx s az rfl h
 ·rename_i g aE
  obtain⟨j,c6⟩:=g
  rw[aE]
  simp only at h ⊢
  split at h
  ·exact h.elim
  ·rename_i t aY
   rw[aY]
   simp only
   have ci:(s.ap cf.n).T.getD t .undef=(cM cf.n s (.tmp t)).bp:=by
    have:=congrFun (mm cf.n s) (.tmp t);exact this
   split at h
   ·rename_i z s0
    rw[s0] at ci
    rw[ci]
    show rB true z.den _ _
    obtain⟨aw,h5⟩:=Nr s0 (fun e=>by cases e)
    obtain⟨s',aG,e2,h⟩:=P3 (n:=cf.n) h
    have qe:Fits (s'.put t (yl z.den)):=NT (by omega) (az.congr fun k _ _=>e2 k)
    have uk:(s'.put t (yl z.den)).ap cf.n=s.ap cf.n:=by
     rw[XR (by omega) (by rw[e2,h5,Wz];rfl),aG]
    have oE: ∀b,z.den=b→(s.ap cf.n).T.set t (.bool b)=(s.ap cf.n).T:=fun b hb=>by
     rcases al5 (show(s.ap cf.n).T.getD t .undef= .bool b by rw[ci,←hb];rfl) with q | q
     ·exact q
     ·cases q
    cases rW:z.den with
    | true=>
     rw[rW] at h uk qe
     show if c6=true then _ else _
     rw[oE true rW]
     cases c6 with
     | true=>rw[if_pos rfl];exact hx _ qe uk h
     | false=>rw[if_neg (by simp)];exact aX _ qe uk h
    | false=>
     rw[rW] at h uk qe
     show if c6=true then _ else _
     rw[oE false rW]
     cases c6 with
     | true=>rw[if_pos rfl];exact aX _ qe uk h
     | false=>rw[if_neg (by simp)];exact hx _ qe uk h
   ·rename_i c s0
    rw[s0] at ci
    split at h
    ·rw[ci];exact aX s az rfl h
    ·exact h.elim
   ·exact h.elim
theorem Xz (af:cf.n≤1000000) {c x y:Operand} {s:TS} {K:TV→TS→aI} {Kp:AV→Prop} (az:Fits s) (hK: ∀v s',Fits s'→s'.ap cf.n=s.ap cf.n→(K v s').den R→Kp v.bp) (h:(HC cf c x y s K).den R):
  qJ (ch (s.ap cf.n).T c) fun z=>rB true z (Kp (ch (s.ap cf.n).T x)) (Kp (ch (s.ap cf.n).T y)):=by
 unfold HC at h
 split at h
 ·rename_i z s0
  obtain⟨s',aG,e2,h⟩:=P3 (n:=cf.n) h
  simp only at h
  rw[sM] at h
  generalize vD:(match c with
   | .tmp t=>s'.put t (yl z.den)
   | _=>s')=s2 at h
  have dg:s2.ap cf.n=s.ap cf.n:=by
   rw[←vD,←aG]
   split
   ·rename_i t
    obtain⟨aw,h5⟩:=Nr s0 (fun e=>by cases e)
    exact XR (by omega) (by rw[e2,h5,Wz];rfl)
   ·rfl
  have hf2:Fits s2:=by
   rw[←vD]
   split
   ·rename_i t
    obtain⟨aw,h5⟩:=Nr s0 (fun e=>by cases e)
    exact NT (by omega) (az.congr fun k _ _=>e2 k)
   ·exact az.congr fun k _ _=>e2 k
  have:=hK _ _ hf2 dg h
  have an: ∀o,(cM cf.n s2 o).bp=ch (s.ap cf.n).T o:=fun o=>by rw[←dg,mm]
  rw[an] at this
  have hc:ch (s.ap cf.n).T c= .bool z.den:=by
   have:=congrFun (mm cf.n s) c
   rw[this]
   show(cM cf.n s c).bp=_
   rw[s0];rfl
  rw[hc]
  show rB true z.den _ _
  cases rW:z.den with
  | true=>rw[rW] at this;exact this
  | false=>rw[rW] at this;exact this
 ·exact h.elim
theorem an3 (af:cf.n≤1000000) {eI:st P} {o:Oper} {s:TS} {K:TV→TS→aI} {Kp:AV→List (Nat×List AV)→List Blk→Prop} (az:Fits s) (hK:zp cf s R K Kp) (h:(stepT cf eI o s K).den R):
  yD true o (s.ap cf.n).T (fun v=>Kp v (s.ap cf.n).L (s.ap cf.n).H) (lj P [] o (ch (s.ap cf.n).T) (s.ap cf.n).L (s.ap cf.n).H Kp):=by
 unfold stepT at h
 split at h
 ·rename_i c x y gH
  unfold yD
  rw[gH]
  exact Xz af (Kp:=fun v=>Kp v (s.ap cf.n).L (s.ap cf.n).H) az (fun v s' hf e hv=>by
   have eT:s'.tT cf.n=s.tT cf.n:=congrArg St.T e
   have gO:s'.cj=s.cj:=congrArg St.L e
   have:=hK v s' Z hv hf eT
   rw[gO,e] at this;exact this) h
 ·rename_i bq
  rw[ak9 fun c x y=>bq c x y]
  exact aaJ af az hK h
end
section
variable {P:Program} {cf:h0 P} {R:Exit→TS→Prop}
theorem Oe (af:cf.n≤1000000) {eI:st P} {ops:Array Oper} {K:TS→aI} {Kp:List AV→List (Nat×List AV)→List Blk→Prop} (hK: ∀s (Z:FZ),(K s).den R→ @Fits Z s→Kp (s.tT cf.n) s.cj (@TS.ap Z cf.n s).H): ∀(l:List Oper) (Z:FZ) (s:TS),@Fits Z s→(HV cf eI ops l s K).den R→
  evOps P [] ops (l.map fun o=>(o,true)) (s.tT cf.n) s.cj (@TS.ap Z cf.n s).H Kp
 | [],Z,s,az,h=>hK s Z h az
 | o::r,Z,s,az,h=>by
  refine Sy (Z:=Z) af az (fun s' hf e h=> ?_) (fun s' hf e h=> ?_) h
  ·have gO:s'.cj=s.cj:=congrArg St.L e
   rw[←e,←gO]
   exact an3 (Z:=Z) af (Kp:=fun v L' H'=>evOps P [] ops (r.map fun o=>(o,true)) (putA (s'.tT cf.n) o.dst v) L' H' Kp) hf (fun v s2 Z2 hv hf2 e2=>by
    have:=Oe af hK r Z2 _ (@Eb Z2 _ af _ _ _ hf2) hv
    have dg:= @Ec Z2 cf.n af s2 o.dst v
    have eT:(lI cf.n s2 o.dst v).tT cf.n=putA (s2.tT cf.n) o.dst v.bp:=congrArg St.T dg
    have J5:(lI cf.n s2 o.dst v).cj=s2.cj:=congrArg St.L dg
    rw[eT,J5,dg] at this
    rw[←e2];exact this) h
  ·have:=Oe af hK r Z _ (Eb af hf) h
   have dg:= @Ec Z cf.n af s' o.dst (.tup [])
   have eT:(lI cf.n s' o.dst (.tup [])).tT cf.n=putA (s'.tT cf.n) o.dst (.tup []):=congrArg St.T dg
   have J5:(lI cf.n s' o.dst (.tup [])).cj=s'.cj:=congrArg St.L dg
   rw[eT,J5,dg] at this
   have hD:s'.tT cf.n=s.tT cf.n:=congrArg St.T e
   have jk:s'.cj=s.cj:=congrArg St.L e
   rw[hD,jk,e] at this
   exact this
end
section
variable [Z:FZ] {P:Program} {cf:h0 P} {R:Exit→TS→Prop}
theorem Sk {ops:Array Oper} {s:TS} {k:aI}: ∀{kB:List Nat},(Kw cf ops s kB k).den R→tU P ops kB (s.ap cf.n).T (s.ap cf.n).L (s.ap cf.n).H∧k.den R
 | [],h=>⟨trivial,h⟩
 | i::r,h=>by
  obtain⟨h1,h2,aD⟩:=h
  simp only[Bool.and_eq_true] at h1
  obtain⟨q1,q2⟩:=Sk aD
  refine⟨⟨⟨h1.1,h1.2,?_⟩,q1⟩,q2⟩
  rw[mm]
  have:=congrFun (congrFun (congrFun h2 Z) (ig s)) (fun v=>v=vm (opI ops i) (s.ap cf.n).T)
  have this:mK P (opI ops i) (fun x=>(cM cf.n s x).bp) (s.ap cf.n).L (s.ap cf.n).H (fun v=>v=vm (opI ops i) (s.ap cf.n).T)=_:=this
  rw[this]
  unfold vm
  cases(opI ops i).dst with
  | none=>rfl
  | some d=>
   have:=congrFun (mm cf.n s) (.tmp d)
   exact this.symm
end
section
variable {P:Program} {cf:h0 P} {R:Exit→TS→Prop}
theorem alf (Z:FZ) (af:cf.n≤1000000) (s:TS) (d:Option Nat) (v:TV):(lI cf.n s d v).tT cf.n=putA (s.tT cf.n) d v.bp∧(lI cf.n s d v).cj=s.cj∧(@TS.ap Z cf.n (lI cf.n s d v)).H=(@TS.ap Z cf.n s).H:=by
 have dg:= @Ec Z cf.n af s d v
 exact⟨congrArg St.T dg,congrArg St.L dg,by rw[dg]⟩
theorem Yj (af:cf.n≤1000000) {eI:st P} {ops:Array Oper} {K:TS→aI} {Kp:List AV→List (Nat×List AV)→List Blk→Prop} (hK: ∀s (Z:FZ),(K s).den R→ @Fits Z s→Kp (s.tT cf.n) s.cj (@TS.ap Z cf.n s).H): ∀(l:List Item) (Z:FZ) (s:TS),@Fits Z s→l.all (·.lit)=true→(ww cf eI ops l s K).den R→
  lk P [] ops l (s.tT cf.n) s.cj (@TS.ap Z cf.n s).H Kp
 | [],Z,s,az,_,h=>hK s Z h az
 | x::r,Z,s,az,aw,h=>by
  simp only[List.all_cons,Bool.and_eq_true] at aw
  show qa ops x.lit (opI ops x.i) _ _ _
  rw[aw.1]
  have next: ∀(s' s2:TS) (Z2:FZ) (v:TV),@Fits Z2 s2→s2.tT cf.n=s'.tT cf.n→(ww cf eI ops r (lI cf.n s2 (opI ops x.i).dst v) K).den R→lk P [] ops r (putA (s'.tT cf.n) (opI ops x.i).dst v.bp) s2.cj (@TS.ap Z2 cf.n s2).H Kp:=fun s' s2 Z2 v hf e hv=>by
   have:=Yj af hK r Z2 _ (@Eb Z2 _ af _ _ _ hf) aw.2 hv
   obtain⟨q1,q2,q3⟩:=alf (cf:=cf) Z2 af s2 (opI ops x.i).dst v
   rw[q1,q2,q3] at this
   rw[←e];exact this
  refine Sy (Z:=Z) af az (fun s' hf e h=> ?_) (fun s' hf e h=> ?_) h
  ·have gO:s'.cj=s.cj:=congrArg St.L e
   rw[←e,←gO]
   cases U:x.q with
   | true=>
    rw[U] at h
    show mK P (opI ops x.i) (ch (s'.ap cf.n).T) (s'.ap cf.n).L (s'.ap cf.n).H _
    cases ar:r0 (opI ops x.i) with
    | true=>
     rw[ar] at h
     simp only at h
     split at h
     ·rename_i d aW
      obtain⟨h1,h2⟩:=h
      rw[mm]
      have:=congrFun (congrFun h1 (s'.ap cf.n).H) (fun v=>lk P [] ops r (putA (s'.ap cf.n).T (opI ops x.i).dst v) (s'.ap cf.n).L (s'.ap cf.n).H Kp)
      have this:mK P (opI ops x.i) (fun x=>(cM cf.n s' x).bp) (s'.ap cf.n).L (s'.ap cf.n).H (fun v=>lk P [] ops r (putA (s'.ap cf.n).T (opI ops x.i).dst v) (s'.ap cf.n).L (s'.ap cf.n).H Kp)=_:=this
      refine Eq.mpr this ?_
      exact next s' s' Z (.lp d 0) hf rfl h2
     ·exact h.elim
    | false=>
     rw[ar] at h
     rw[zN ar]
     simp only at h
     split at h
     ·rename_i c a b gH
      have:=Xz (Z:=Z) af (Kp:=fun v=>lk P [] ops r (putA (s'.ap cf.n).T (opI ops x.i).dst v) (s'.ap cf.n).L (s'.ap cf.n).H Kp) hf (fun v s2 hf2 e2 hv=>by
       have:=next s' s2 Z v hf2 (congrArg St.T e2) hv
       have dg:s2.cj=s'.cj:=congrArg St.L e2
       rw[dg,e2] at this;exact this) h
      unfold kU
      rw[gH];exact this
     ·exact X6 hf (Kp:=fun v=>lk P [] ops r (putA (s'.ap cf.n).T (opI ops x.i).dst v) (s'.ap cf.n).L (s'.ap cf.n).H Kp) (fun v hv=>next s' s' Z v hf rfl hv) h
   | false=>
    rw[U] at h
    simp only at h
    split at h
    ·exact h.elim
    ·exact aaJ (Z:=Z) af hf (Kp:=fun v L' H'=>tU P ops x.kB (s'.tT cf.n) L' H'∧lk P [] ops r (putA (s'.tT cf.n) (opI ops x.i).dst v) L' H' Kp) (fun v s2 Z2 hv hf2 e2=>by
      obtain⟨q1,q2⟩:=Sk (Z:=Z2) hv
      have q1:tU P ops x.kB (s2.tT cf.n) s2.cj (@TS.ap Z2 cf.n s2).H:=q1
      rw[e2] at q1
      exact⟨q1,next s' s2 Z2 v hf2 e2 q2⟩) h
  ·have:=next s' s' Z (.tup []) hf rfl h
   have hD:s'.tT cf.n=s.tT cf.n:=congrArg St.T e
   have jk:s'.cj=s.cj:=congrArg St.L e
   rw[hD,jk,e] at this
   exact this
end
end Go.Proofs.YtejmihecgodhnaaGreat.Fw
