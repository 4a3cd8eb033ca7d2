/- Values by their kinds alone, and what marks leave as it is. -/
import Derived.Test.YtglpfccgmfhkdaaM2
set_option linter.unusedVariables false
namespace Go.Proofs.Ytglpfccgmfhkdaa.Fw
open Go
def bW (f:Nat→Nat):Nat→Nat
 | 0=>0
 | n+1=>bW f n+f n
theorem AC {f:Nat→Nat} {c:Nat}: ∀{n:Nat},(∀i,i<n→f i=c)→bW f n=n*c
 | 0,_=>by simp[bW]
 | n+1,h=>by
  show bW f n+f n=_
  rw[AC fun i hi=>h i (by omega),h n (by omega),Nat.succ_mul]
theorem AD {f:Nat→Nat}: ∀{n k:Nat},k≤n→bW f k≤bW f n
 | 0,k,h=>by obtain rfl:k=0:=by omega
             exact Nat.le_refl _
 | n+1,k,h=>by
  by_cases e:k=n+1
  ·subst e;exact Nat.le_refl _
  ·exact Nat.le_trans (AD (n:=n) (by omega)) (Nat.le_add_right _ _)
inductive cO (w:World) (S:Nat→Prop):aq→Nat→Value→Prop where
 | int (n:Int):cO w S .int 1 (.int .i64 n)
 | bool (b:Bool):cO w S .bool 1 (.bool b)
 | av {e:aq} {n cap:Nat} {A:Option Addr} {bH:Nat→Nat→Nat} {vs:Nat→Nat→Value} (h1:n≤cap∧n≤4611686018427387904)
   (hc:0<n→ ∃c o ad ty,A=some ⟨c,o,none⟩∧S c∧w.heap[c]?=some (.cells ad ty (0,0))∧ ∀i j,i<n→j<e.a6.length→ad[o+(i*e.a6.length+j)]?=some (vs i j))
   (aa: ∀i j bf,i<n→e.a6[j]?=some bf→cO w S bf (bH i j) (vs i j)):cO w S (.l e) (bW (fun i=>bW (bH i) e.a6.length) n) (.slice A n cap)
theorem cO.jU {w:World} {S:Nat→Prop} {e:aq} {m:Nat} {n:Int} (h:cO w S e m (.int .i64 n)):e= .int∧m=1:=by cases h;exact⟨rfl,rfl⟩
theorem cO.jD {w:World} {S:Nat→Prop} {e:aq} {m:Nat} {b:Bool} (h:cO w S e m (.bool b)):e= .bool∧m=1:=by cases h;exact⟨rfl,rfl⟩
theorem cO.of_int {w:World} {S:Nat→Prop} {m:Nat} {v:Value} (h:cO w S .int m v):m=1∧ ∃n,v= .int .i64 n:=by cases h;exact⟨rfl,_,rfl⟩
theorem cO.of_bool {w:World} {S:Nat→Prop} {m:Nat} {v:Value} (h:cO w S .bool m v):m=1∧ ∃b,v= .bool b:=by cases h;exact⟨rfl,_,rfl⟩
theorem cO.ju {w:World} {S:Nat→Prop} {e:aq} {m:Nat} {v:Value} (h:cO w S (.l e) m v): ∃A n cap,v= .slice A n cap:=by cases h;exact⟨_,_,_,rfl⟩
theorem cO.sub {w:World} {S S':Nat→Prop} {e:aq} {m:Nat} {v:Value} (h:cO w S e m v) (hs: ∀c,S c→S' c):cO w S' e m v:=by
 induction h with
 | int n=>exact .int n
 | bool b=>exact .bool b
 | av h1 hc aa aT=>
  refine .av h1 (fun af=> ?_) aT
  obtain⟨c,o,ad,ty,q1,q2,q3⟩:=hc af
  exact⟨c,o,ad,ty,q1,hs c q2,q3⟩
def jA (a b:Option Value):Prop:=b=a∨(∃n m,a=some (.int .i64 n)∧b=some (.int .i64 m))∨ ∃x y,a=some (.bool x)∧b=some (.bool y)
theorem jA.trans {a b c:Option Value} (h:jA a b) (k:jA b c):jA a c:=by
 rcases h with rfl | ⟨n,m,rfl,rfl⟩ | ⟨x,y,rfl,rfl⟩
 ·exact k
 ·rcases k with rfl | ⟨gm,dg,h1,rfl⟩ | ⟨x,y,h1,rfl⟩
  ·exact .inr (.inl ⟨_,_,rfl,rfl⟩)
  ·exact .inr (.inl ⟨_,_,rfl,rfl⟩)
  ·cases h1
 ·rcases k with rfl | ⟨gm,dg,h1,rfl⟩ | ⟨AM,SB,h1,rfl⟩
  ·exact .inr (.inr ⟨_,_,rfl,rfl⟩)
  ·cases h1
  ·exact .inr (.inr ⟨_,_,rfl,rfl⟩)
structure cy (S:Nat→Prop) (w w':World):Prop where
 os:w'.os=w.os
 tape:w'.tape=w.tape
 output:w'.output=w.output
 size:w.heap.size≤w'.heap.size
 other: ∀c,c<w.heap.size→ ¬S c→w'.heap[c]?=w.heap[c]?
 mD: ∀(c:Nat) (ad:Array Value) (ty:TypeId),S c→w.heap[c]?=some (.cells ad ty (0,0))→ ∃ba:Array Value,w'.heap[c]?=some (.cells ba ty (0,0))∧ba.size=ad.size∧ ∀j:Nat,jA ad[j]? ba[j]?
theorem cy.refl (S:Nat→Prop) (w:World):cy S w w:=⟨rfl,rfl,rfl,Nat.le_refl _,fun _ _ _=>rfl,fun c ad ty _ h=>⟨ad,h,rfl,fun _=> .inl rfl⟩⟩
theorem tU {w:World} {c:Nat} {o:Obj} (h:w.heap[c]?=some o):c<w.heap.size:=by
 rcases Nat.lt_or_ge c w.heap.size with h' | h'
 ·exact h'
 ·simp[Array.getElem?_eq_none h'] at h
theorem cy.trans {S:Nat→Prop} {a b c:World} (h:cy S a b) (k:cy S b c):cy S a c where
 os:=k.os.trans h.os
 tape:=k.tape.trans h.tape
 output:=k.output.trans h.output
 size:=Nat.le_trans h.size k.size
 other:=fun x hx hs=>(k.other x (Nat.lt_of_lt_of_le hx h.size) hs).trans (h.other x hx hs)
 mD:=fun x ad ty hs hx=>by
  obtain⟨JF,q1,q2,q3⟩:=h.mD x ad ty hs hx
  obtain⟨pw,cL,dd,ez⟩:=k.mD x JF ty hs q1
  exact⟨pw,cL,dd.trans q2,fun j=>(q3 j).trans (ez j)⟩
theorem cy.sub {S S':Nat→Prop} {w w':World} (h:cy S w w') (hs: ∀c,S c→S' c):cy S' w w' where
 os:=h.os
 tape:=h.tape
 output:=h.output
 size:=h.size
 other:=fun c hc af=>h.other c hc fun k=>af (hs c k)
 mD:=fun c ad ty hc hx=>by
  by_cases k:S c
  ·exact h.mD c ad ty k hx
  ·exact⟨ad,(h.other c (tU hx) k).trans hx,rfl,fun _=> .inl rfl⟩
theorem cy.below {S:Nat→Prop} {w w':World} (h:RowKit.Below w.heap.size w w'):cy S w w':=
 ⟨h.os,h.tape,h.output,h.size,fun c hc _=>h.block c hc,fun c ad ty _ hx=>⟨ad,(h.block c (tU hx)).trans hx,rfl,fun _=> .inl rfl⟩⟩
theorem cy.at {S:Nat→Prop} {w w':World} (h:cy S w w') {c:Nat} {ad:Array Value} {ty:TypeId} (hx:w.heap[c]?=some (.cells ad ty (0,0))): ∃ba:Array Value,w'.heap[c]?=some (.cells ba ty (0,0))∧ba.size=ad.size∧ ∀j:Nat,jA ad[j]? ba[j]?:=by
 by_cases k:S c
 ·exact h.mD c ad ty k hx
 ·exact⟨ad,(h.other c (tU hx) k).trans hx,rfl,fun _=> .inl rfl⟩
theorem cO.dj {w w':World} {S S':Nat→Prop} (hw:cy S' w w') {e:aq} {m:Nat} {v:Value} (h:cO w S e m v):cO w' S e m v:=by
 induction h with
 | int n=>exact .int n
 | bool b=>exact .bool b
 | @av e n cap A bH vs h1 hc aa aT=>
  by_cases af:0<n
  ·obtain⟨c,o,ad,ty,bG,b5,aX,hv⟩:=hc af
   obtain⟨ba,q1,q2,q3⟩:=hw.at aX
   have key: ∀i j,i<n→j<e.a6.length→ ∃u,ba[o+(i*e.a6.length+j)]?=some u:=fun i j hi O=>by
    rcases q3 (o+(i*e.a6.length+j)) with q | ⟨_,_,_,q⟩ | ⟨_,_,_,q⟩
    ·exact⟨_,q.trans (hv i j hi O)⟩
    ·exact⟨_,q⟩
    ·exact⟨_,q⟩
   refine .av (vs:=fun i j=>(ba[o+(i*e.a6.length+j)]?).getD undef) h1 (fun _=>⟨c,o,ba,ty,bG,b5,q1,fun i j hi O=> ?_⟩) fun i j bf hi O=> ?_
   ·obtain⟨u,hu⟩:=key i j hi O
    rw[hu];rfl
   ·have hZ:j<e.a6.length:=(List.getElem?_eq_some_iff.1 O).1
    have hk:=aa i j bf hi O
    have om:=hv i j hi hZ
    show cO w' S bf (bH i j) ((ba[o+(i*e.a6.length+j)]?).getD undef)
    rcases q3 (o+(i*e.a6.length+j)) with q | ⟨a,b,iq,oF⟩ | ⟨a,b,iq,oF⟩
    ·rw[q,om];exact aT i j bf hi O
    ·rw[om] at iq
     rw[Option.some.inj iq] at hk
     obtain⟨rfl,hm⟩:=hk.jU
     rw[oF,hm];exact .int b
    ·rw[om] at iq
     rw[Option.some.inj iq] at hk
     obtain⟨rfl,hm⟩:=hk.jD
     rw[oF,hm];exact .bool b
  ·exact .av (vs:=vs) h1 (fun h=>absurd h af) fun i j bf hi _=>absurd (Nat.lt_of_le_of_lt (Nat.zero_le _) hi) af
theorem cy.head {S:Nat→Prop} {w w':World} (h:cy S w w') {c o:Nat} {ad:Array Value} {ty:TypeId} (hx:w.heap[c]?=some (.cells ad ty (0,0))) {A:Option Addr} {n cap:Nat} (hv:ad[o]?=some (.slice A n cap)):w'.cell? ⟨c,o,none⟩=some (.slice A n cap):=by
 obtain⟨ba,q1,q2,q3⟩:=h.at hx
 rcases q3 o with q | ⟨a,b,iq,_⟩ | ⟨a,b,iq,_⟩
 ·simp only[World.cell?,q1];rw[q];exact hv
 ·rw[hv] at iq;cases iq
 ·rw[hv] at iq;cases iq
theorem cy.setCell {S:Nat→Prop} {w:World} {c o:Nat} {ad:Array Value} {ty:TypeId} {v:Value} (hx:w.heap[c]?=some (.cells ad ty (0,0))) (b5:S c) (hv:jA ad[o]? (some v)):cy S w (w.setCell ⟨c,o,none⟩ v) where
 os:=rfl
 tape:=rfl
 output:=rfl
 size:=by simp
 other:=fun b _ hs=>RowKit.Below.heap_setCell _ _ _ _ (fun e=>by subst e;exact hs b5)
 mD:=fun b ba fz hs hb=>by
  by_cases e:b=c
  ·subst e
   rw[hx] at hb
   cases hb
   refine⟨ad.setIfInBounds o v,by simp[World.setCell,Array.getElem?_modify,hx],by simp,fun j=> ?_⟩
   rw[Array.getElem?_setIfInBounds]
   by_cases O:o=j
   ·subst O
    rw[if_pos rfl]
    split
    ·exact hv
    ·rename_i ay;rw[Array.getElem?_eq_none (by omega)];exact .inl rfl
   ·rw[if_neg O];exact .inl rfl
  ·exact⟨ba,by rw[RowKit.Below.heap_setCell _ _ _ _ e];exact hb,rfl,fun _=> .inl rfl⟩
structure gY (w w':World) (c o n:Nat) (val:Nat→Value):Prop where
 os:w'.os=w.os
 tape:w'.tape=w.tape
 output:w'.output=w.output
 size:w'.heap.size=w.heap.size
 other: ∀b,b≠c→w'.heap[b]?=w.heap[b]?
 blk: ∀ad ty,w.heap[c]?=some (.cells ad ty (0,0))→ ∃ba:Array Value,w'.heap[c]?=some (.cells ba ty (0,0))∧ba.size=ad.size∧ ∀j,j<ad.size→ba[j]?=if o≤j∧j<o+n then some (val (j - o)) else ad[j]?
theorem gY.refl (w:World) (c o:Nat) (val:Nat→Value):gY w w c o 0 val:=
 ⟨rfl,rfl,rfl,rfl,fun _ _=>rfl,fun ad ty h=>⟨ad,h,rfl,fun j _=>by rw[if_neg (by omega)]⟩⟩
theorem gY.snoc {w w':World} {c o n:Nat} {val:Nat→Value} (h:gY w w' c o n val) {v:Value} (hv:v=val n):gY w (w'.setCell ⟨c,o+n,none⟩ v) c o (n+1) val where
 os:=h.os
 tape:=h.tape
 output:=h.output
 size:=by rw[←h.size];simp
 other:=fun b hb=>by rw[RowKit.Below.heap_setCell _ _ _ _ hb];exact h.other b hb
 blk:=fun ad ty hY=>by
  obtain⟨ba,h1,h2,ao⟩:=h.blk ad ty hY
  refine⟨ba.setIfInBounds (o+n) v,?_,by simp[h2],fun j O=> ?_⟩
  ·simp[World.setCell,Array.getElem?_modify,h1]
  ·rw[Array.getElem?_setIfInBounds]
   by_cases e:o+n=j
   ·subst e
    rw[if_pos rfl,if_pos (by rw[h2];exact O),if_pos ⟨by omega,by omega⟩,hv]
    simp
   ·rw[if_neg e,ao j O]
    by_cases a8:o≤j∧j<o+n
    ·rw[if_pos a8,if_pos ⟨a8.1,by omega⟩]
    ·rw[if_neg a8,if_neg (by omega)]
theorem gY.cell {w w':World} {c o n:Nat} {val:Nat→Value} (h:gY w w' c o n val) {ad:Array Value} {ty:TypeId} (hw:w.heap[c]?=some (.cells ad ty (0,0))) {j:Nat} (O:j<ad.size): ∃u,w'.cell? ⟨c,j,none⟩=some u∧w'.frozen? ⟨c,j,none⟩=false:=by
 obtain⟨ba,h1,h2,ao⟩:=h.blk ad ty hw
 have ak:j<ba.size:=by omega
 exact⟨ba[j],by simp[World.cell?,h1,ak],by simp[World.frozen?,h1]⟩
theorem gY.dj {w w':World} {c o n:Nat} {val:Nat→Value} {S:Nat→Prop} (h:gY w w' c o n val) (b5:S c) (hk: ∀ad ty i,w.heap[c]?=some (.cells ad ty (0,0))→i<n→jA ad[o+i]? (some (val i))):cy S w w' where
 os:=h.os
 tape:=h.tape
 output:=h.output
 size:=by rw[h.size];exact Nat.le_refl _
 other:=fun b _ hs=>h.other b fun e=>by subst e;exact hs b5
 mD:=fun b ad ty hs hb=>by
  by_cases e:b=c
  ·subst e
   obtain⟨ba,h1,h2,ao⟩:=h.blk ad ty hb
   refine⟨ba,h1,h2,fun j=> ?_⟩
   rcases Nat.lt_or_ge j ad.size with O | O
   ·rw[ao j O]
    split
    ·rename_i hi
     have:=hk ad ty (j - o) hb (by omega)
     rw[show o+(j - o)=j by omega] at this
     exact this
    ·exact .inl rfl
   ·rw[Array.getElem?_eq_none (xs:=ba) (by omega),Array.getElem?_eq_none (xs:=ad) O];exact .inl rfl
  ·exact⟨ad,(h.other b e).trans hb,rfl,fun _=> .inl rfl⟩
theorem gY.uE {w w':World} {o n:Nat} {val:Nat→Value} {S:Nat→Prop} (h:gY w w' w.heap.size o n val):cy S w w' where
 os:=h.os
 tape:=h.tape
 output:=h.output
 size:=by rw[h.size];exact Nat.le_refl _
 other:=fun b hb _=>h.other b (by omega)
 mD:=fun b ad ty _ hb=>⟨ad,(h.other b (by have:=tU hb;omega)).trans hb,rfl,fun _=> .inl rfl⟩
def lT (k:Int) (i:Nat):Value:= .int .i64 (k+i)
def BE (k:Int) (i:Nat):Value:= .bool ((k+i)%3==0)
theorem cO.cells {w:World} {S:Nat→Prop} {e:aq} {m n cap:Nat} {A:Option Addr} (h:cO w S (.l e) m (.slice A n cap)) (af:0<n):
  ∃(c o:Nat) (ad:Array Value) (ty:TypeId) (bH:Nat→Nat→Nat),A=some ⟨c,o,none⟩∧S c∧w.heap[c]?=some (.cells ad ty (0,0))∧m=bW (fun i=>bW (bH i) e.a6.length) n∧(0<e.a6.length→o+n*e.a6.length≤ad.size)∧
   ∀i j bf,i<n→e.a6[j]?=some bf→ ∃u,ad[o+(i*e.a6.length+j)]?=some u∧cO w S bf (bH i j) u:=by
 cases h with
 | @av _ _ _ _ bH vs h1 hc aa=>
  obtain⟨c,o,ad,ty,bG,b5,aX,hv⟩:=hc af
  refine⟨c,o,ad,ty,bH,bG,b5,aX,rfl,fun ak=> ?_,fun i j bf hi O=>⟨_,hv i j hi (List.getElem?_eq_some_iff.1 O).1,aa i j bf hi O⟩⟩
  have:=hv (n - 1) (e.a6.length - 1) (by omega) (by omega)
  have ay:=(Array.getElem?_eq_some_iff.1 this).1
  have aO:(n - 1)*e.a6.length+e.a6.length=n*e.a6.length:=by
   rw[←Nat.succ_mul];congr 1;omega
  omega
theorem cO.zero {w:World} {S:Nat→Prop} {e:aq} {m cap:Nat} {A:Option Addr} (h:cO w S (.l e) m (.slice A 0 cap)):m=0:=by
 cases h;rfl
theorem cO.elem {w:World} {S:Nat→Prop} {e:aq} {m n cap:Nat} {A:Option Addr} (h:cO w S (.l e) m (.slice A n cap)):
  n≤4611686018427387904∧ ∃(c o:Nat) (bH:Nat→Nat→Nat),(0<n→A=some ⟨c,o,none⟩)∧m=bW (fun i=>bW (bH i) e.a6.length) n∧
   (∀i j bf,i<n→e.a6[j]?=some (.l bf)→ ∃b9 gm iQ,∀wr,cy S w wr→wr.cell? ⟨c,o+(i*e.a6.length+j),none⟩=some (.slice b9 gm iQ)∧cO wr S (.l bf) (bH i j) (.slice b9 gm iQ))∧
   (∀i j,i<n→e.a6[j]?=some .int→bH i j=1∧ ∀wr,cy S w wr→ ∃u,wr.cell? ⟨c,o+(i*e.a6.length+j),none⟩=some u∧wr.frozen? ⟨c,o+(i*e.a6.length+j),none⟩=false∧ ∀x,cy S w (wr.setCell ⟨c,o+(i*e.a6.length+j),none⟩ (.int .i64 x)))∧
   ∀i j,i<n→e.a6[j]?=some .bool→bH i j=1∧ ∀wr,cy S w wr→ ∃u,wr.cell? ⟨c,o+(i*e.a6.length+j),none⟩=some u∧wr.frozen? ⟨c,o+(i*e.a6.length+j),none⟩=false∧ ∀x,cy S w (wr.setCell ⟨c,o+(i*e.a6.length+j),none⟩ (.bool x)):=by
 refine⟨by cases h with | av h1=>exact h1.2,?_⟩
 by_cases af:0<n
 ·obtain⟨c,o,ad,ty,bH,bG,b5,aX,hm,_,hv⟩:=h.cells af
  refine⟨c,o,bH,fun _=>bG,hm,fun i j bf hi O=> ?_,fun i j hi O=> ?_,fun i j hi O=> ?_⟩
  ·obtain⟨u,hu,hk⟩:=hv i j _ hi O
   obtain⟨b9,gm,iQ,rfl⟩:=hk.ju
   exact⟨b9,gm,iQ,fun wr hw=>⟨hw.head aX hu,hk.dj hw⟩⟩
  ·obtain⟨u,hu,hk⟩:=hv i j _ hi O
   obtain⟨h1,bL,rfl⟩:=hk.of_int
   refine⟨h1,fun wr hw=> ?_⟩
   obtain⟨ba,q1,q2,q3⟩:=hw.at aX
   have al:=q3 (o+(i*e.a6.length+j))
   rw[hu] at al
   have hs: ∃y,ba[o+(i*e.a6.length+j)]?=some (.int .i64 y):=by
    rcases al with q | ⟨_,y,_,q⟩ | ⟨_,_,q,_⟩
    ·exact⟨_,q⟩
    ·exact⟨_,q⟩
    ·cases q
   obtain⟨y,ax⟩:=hs
   exact⟨_,by simp only[World.cell?,q1];exact ax,by simp[World.frozen?,q1],fun x=>hw.trans (cy.setCell q1 b5 (by rw[ax];exact .inr (.inl ⟨_,_,rfl,rfl⟩)))⟩
  ·obtain⟨u,hu,hk⟩:=hv i j _ hi O
   obtain⟨h1,bL,rfl⟩:=hk.of_bool
   refine⟨h1,fun wr hw=> ?_⟩
   obtain⟨ba,q1,q2,q3⟩:=hw.at aX
   have al:=q3 (o+(i*e.a6.length+j))
   rw[hu] at al
   have hs: ∃y,ba[o+(i*e.a6.length+j)]?=some (.bool y):=by
    rcases al with q | ⟨_,_,q,_⟩ | ⟨_,y,_,q⟩
    ·exact⟨_,q⟩
    ·cases q
    ·exact⟨_,q⟩
   obtain⟨y,ax⟩:=hs
   exact⟨_,by simp only[World.cell?,q1];exact ax,by simp[World.frozen?,q1],fun x=>hw.trans (cy.setCell q1 b5 (by rw[ax];exact .inr (.inr ⟨_,_,rfl,rfl⟩)))⟩
 ·obtain rfl:n=0:=by omega
  exact⟨0,0,fun _ _=>0,fun h=>absurd h af,h.zero,fun i j bf hi=>by omega,fun i j hi=>by omega,fun i j hi=>by omega⟩
def qP (P:Program) (f:FuncId) (e:aq):Prop:= ∀(w:World) (S:Nat→Prop) (m:Nat) (v:Value) (k:Int),cO w S e m v→0≤k→k+m≤4611686018427387904→
 Calls P f #[v,.int .i64 k] w fun fK w'=>fK= .returned (.int .i64 (k+m))∧cy S w w'
theorem Sb {α:Type} (g:α→Nat): ∀(xs:List α) (f:Nat→Nat),(∀(i:Nat) (x:α),xs[i]?=some x→f i=g x)→bW f xs.length=(xs.map g).sum:=by
 intro xs f h
 have key: ∀(n:Nat),n≤xs.length→bW f n=((xs.take n).map g).sum:=by
  intro n
  induction n with
  | zero=>intro _;simp[bW]
  | succ n aT=>
   intro af
   show bW f n+f n=_
   rw[List.take_succ_eq_append_getElem (by omega),List.map_append,List.sum_append,aT (by omega),h n _ (List.getElem?_eq_getElem (by omega))]
   simp
 have:=key xs.length (Nat.le_refl _)
 rw[List.take_length] at this
 exact this
theorem rU {w:World} {S PA PF:Nat→Prop} {e:aq} {xs:List e.T} {cn fr:Bool} {v:Value} (vN:e.T→Nat→Nat) (h:ar w PA PF (.av (xs.map (bD false e)) cn fr) v) (h1: ∀c,PA c→S c∧Plain w c) (h2: ∀c,PF c→S c∧Plain w c)
  (ak: ∀x∈xs,∀(PB:Nat→Prop) j bf a u,(∀c,PB c→S c∧Plain w c)→e.a6[j]?=some bf→(bD false e x)[j]?=some a→ar w PB (fun _=>False) a u→cO w S bf (vN x j) u):
  cO w S (.l e) (xs.map fun x=>bW (vN x) e.a6.length).sum v:=by
 cases h with
 | @av _ _ PB _ _ _ A cap sz vs dc c2 dS bz cA hrel=>
  have cH: ∀c,PB c→S c∧Plain w c:=fun c hc=>by
   have:=dc c hc
   split at this
   ·exact h2 c this
   ·exact h1 c this
  have row: ∀i (hi:i<xs.length),(xs.map (bD false e))[i]?=some (bD false e xs[i]):=fun i hi=>by rw[List.getElem?_map,List.getElem?_eq_getElem hi];rfl
  have B7: ∀x:e.T,(bD false e x).length=e.a6.length:=fun x=>by
   rw[←jo]
   have: ∀(es:List aq) (y:bR es),(fL false es y).length=es.length:=by
    intro es
    induction es with
    | nil=>intro _;rfl
    | cons e r aT=>intro y;show((_:List AV)).length=_;rw[fL,List.length_cons,aT y.2];rfl
   exact this _ _
  rw[←Sb (fun x=>bW (vN x) e.a6.length) xs (fun i=>bW (fun j=>match xs[i]? with
   | some x=>vN x j
   | none=>0) e.a6.length) fun i x hx=>by simp only[hx]]
  rw[List.length_map] at c2 cA ⊢
  refine .av (vs:=vs) c2 (fun af=> ?_) fun i j bf hi O=> ?_
  ·obtain⟨c,o,q1,q2,q3⟩:=cA af
   obtain⟨ad,ty,ab⟩:=(cH c q2).2
   have an:sz=e.a6.length:=by rw[←bz 0 _ (row 0 af),B7]
   subst an
   refine⟨c,o,ad,ty,q1,(cH c q2).1,ab,fun i j hi O=> ?_⟩
   have:=q3 i j hi O
   simp only[World.cell?,ab] at this
   simpa using this
  ·have hZ:=(List.getElem?_eq_some_iff.1 O).1
   have ai:(bD false e xs[i])[j]?=some ((bD false e xs[i])[j]'(by rw[B7];exact hZ)):=List.getElem?_eq_getElem _
   rw[List.getElem?_eq_getElem hi]
   exact ak xs[i] (List.getElem_mem hi) PB j bf _ _ cH O ai (hrel i j _ _ (row i hi) ai)
theorem vy {α:Type} (c:Nat): ∀xs:List α,(xs.map fun _=>c).sum=xs.length*c
 | []=>by simp
 | x::r=>by rw[List.map_cons,List.sum_cons,vy c r,List.length_cons,Nat.succ_mul];omega
section
variable {w:World} {S PA PF:Nat→Prop} {v:Value} {cn fr:Bool}
theorem yY {PB:Nat→Prop} {n:Int} {u:Value} (h:ar w PB (fun _=>False) (.int .i64 n) u):cO w S .int 1 u:=by cases h;exact .int _
theorem N5 {PB:Nat→Prop} {n:Bool} {u:Value} (h:ar w PB (fun _=>False) (.bool n) u):cO w S .bool 1 u:=by cases h;exact .bool _
theorem uG {xs:List Int} (h:ar w PA PF (.av (xs.map c1) cn fr) v) (h1: ∀c,PA c→S c∧Plain w c) (h2: ∀c,PF c→S c∧Plain w c):cO w S (.l .int) xs.length v:=by
 have:=rU (e:= .int) (fun _ _=>1) h h1 h2 fun x _ PB j bf a u _ O ai aa=>by
  match j,O,ai with
  | 0,O,ai=>cases O;cases ai;exact yY aa
 have e:(xs.map fun x=>bW (fun _=>1) (aq.a6 .int).length).sum=xs.length:=by
  show(xs.map fun _=>1).sum=_
  rw[vy,Nat.mul_one]
 rw[e] at this;exact this
theorem N6 {xs:List Bool} (h:ar w PA PF (.av (xs.map bm) cn fr) v) (h1: ∀c,PA c→S c∧Plain w c) (h2: ∀c,PF c→S c∧Plain w c):cO w S (.l .bool) xs.length v:=by
 have:=rU (e:= .bool) (fun _ _=>1) h h1 h2 fun x _ PB j bf a u _ O ai aa=>by
  match j,O,ai with
  | 0,O,ai=>cases O;cases ai;exact N5 aa
 have e:(xs.map fun x=>bW (fun _=>1) (aq.a6 .bool).length).sum=xs.length:=by
  show(xs.map fun _=>1).sum=_
  rw[vy,Nat.mul_one]
 rw[e] at this;exact this
theorem Ef {xs:List cm} (h:ar w PA PF (.av (xs.map cK) cn fr) v) (h1: ∀c,PA c→S c∧Plain w c) (h2: ∀c,PF c→S c∧Plain w c):cO w S (.l .bZ) (xs.length*2) v:=by
 have:=rU (e:= .bZ) (fun _ _=>1) h h1 h2 fun x _ PB j bf a u _ O ai aa=>by
  match j,O,ai with
  | 0,O,ai=>cases O;cases ai;exact yY aa
  | 1,O,ai=>cases O;cases ai;exact yY aa
 have e:(xs.map fun x=>bW (fun _=>1) (aq.a6 .bZ).length).sum=xs.length*2:=vy 2 xs
 rw[e] at this;exact this
def oC (x:Way):Nat:=x.ae.length+x.bA.length*2+x.ca.length*2+x.b8.length+x.ct.length
theorem N7 {xs:List Way} (h:ar w PA PF (.av (xs.map (cE false)) cn fr) v) (h1: ∀c,PA c→S c∧Plain w c) (h2: ∀c,PF c→S c∧Plain w c):cO w S (.l .cN) (xs.map oC).sum v:=by
 have:=rU (e:= .cN) (fun x j=>[x.ae.length,x.bA.length*2,x.ca.length*2,x.b8.length,x.ct.length].getD j 0) h h1 h2 fun x _ PB j bf a u cH O ai aa=>by
  match j,O,ai with
  | 0,O,ai=>cases O;cases ai;exact uG aa cH (fun _ h=>h.elim)
  | 1,O,ai=>cases O;cases ai;exact Ef aa cH (fun _ h=>h.elim)
  | 2,O,ai=>cases O;cases ai;exact Ef aa cH (fun _ h=>h.elim)
  | 3,O,ai=>cases O;cases ai;exact uG aa cH (fun _ h=>h.elim)
  | 4,O,ai=>cases O;cases ai;exact uG aa cH (fun _ h=>h.elim)
 have e:(xs.map fun x:Way=>bW (fun j=>[x.ae.length,x.bA.length*2,x.ca.length*2,x.b8.length,x.ct.length].getD j 0) (aq.a6 .cN).length).sum=(xs.map oC).sum:=by
  congr 1
  refine List.map_congr_left fun x _=> ?_
  show 0+x.ae.length+x.bA.length*2+x.ca.length*2+x.b8.length+x.ct.length=oC x
  unfold oC;omega
 rw[e] at this;exact this
theorem N4 {xs:List (List Bool)} (h:ar w PA PF (.av (xs.map (eV bm false)) cn fr) v) (h1: ∀c,PA c→S c∧Plain w c) (h2: ∀c,PF c→S c∧Plain w c):cO w S (.l (.l .bool)) (xs.map List.length).sum v:=by
 have:=rU (e:= .l .bool) (fun x j=>x.length) h h1 h2 fun x _ PB j bf a u cH O ai aa=>by
  match j,O,ai with
  | 0,O,ai=>cases O;cases ai;exact N6 aa cH (fun _ h=>h.elim)
 have e:(xs.map fun x:List Bool=>bW (fun j=>x.length) (aq.a6 (.l .bool)).length).sum=(xs.map List.length).sum:=by
  congr 1
  refine List.map_congr_left fun x _=> ?_
  show 0+x.length=_
  omega
 rw[e] at this;exact this
end
def oI (b:cz) (x y:TV):TV:=match x with
 | .i k n=>(match y with
  | .i gl m=>if k=gl then .i k (bif b.den then n else m) else .u
  | _=> .u)
 | .b x=>(match y with
  | .b y=> .b (cz.oH b x y)
  | _=> .u)
 | .s x=>(match y with
  | .s y=> .s (bif b.den then x else y)
  | _=> .u)
 | _=> .u
def cz.jY:cz→cz→Bool
 | .at i _,.at j _=>Nat.beq i j
 | .t,.t=>true
 | .f,.f=>true
 | .n x,.n y=>x.jY y
 | .aK x y,.aK z w=>x.jY z&&y.jY w
 | .or x y,.or z w=>x.jY z&&y.jY w
 | .ite c x y,.ite d z w=>c.jY d&&x.jY z&&y.jY w
 | .pA x y,.pA z w=>x.jY z&&y.jY w
 | .ne x y,.ne z w=>x.jY z&&y.jY w
 | _,_=>false
def y4 (x y:TV):Bool:=match x with
 | .b x=>(match y with
  | .b y=>x.jY y
  | _=>false)
 | _=>false
def uO (b:cz) (x y:TV):TV:=match y4 x y with
 | true=>x
 | false=>oI b x y
def ox (s s':TS):List (Nat×TV)→List (List (Nat×TV)×List (Nat×TV))
 | []=>[]
 | p::r=>match y4 (s.get p.1) (s'.get p.1) with
  | true=>([(p.1,s.get p.1)],[(p.1,s'.get p.1)])::ox s s' r
  | false=>ox s s' r
inductive l7 where
 | bad
 | none
 | some (s:TS) (gn:List (List (Nat×TV)×List (Nat×TV)))
def ig {e bf:aq} (h:bf=e) (xs:List bf.T):List e.T:=h▸xs
def xN:(e:aq)→TV→e.T
 | .int,.i _ m=>m
 | .u64,.i _ m=>m
 | .bool,.b x=>x.den
 | .str,.s x=>x
 | .l e,.l bf xs _ _=>if h:bf=e then ig h xs else[]
 | e,_=>e.ou.default
def kR:(es:List aq)→List TV→bR es
 | [],_=>()
 | e::r,v::vs=>(xN e v,kR r vs)
 | e::r,[]=>(e.ou.default,kR r [])
def lV (c:List TV):sB:=aq.mk .eG (kR aq.eG.a6 c)
def uC:TV→Bool
 | .ds _ _=>true
 | _=>false
def qb (s s':TS):List (Nat×TV)→Bool
 | []=>true
 | (k,_)::r=>match Nat.blt k 1000000 with
  | true=>qb s s' r
  | false=>match uC (s.get k)&&uC (s'.get k)&&Nat.ble 1000010 k with
   | true=>qb s s' r
   | false=>false
def P1 (b:cz) (x y:TV):TV:=match x with
 | .ds g c=>(match y with
  | .ds _ bB=> .ds g (gd false .eG (bif b.den then lV c else lV bB))
  | _=> .u)
 | _=> .u
def mG (b:cz) (k:Nat) (x y:TV):TV:=match Nat.blt k 1000000 with
 | true=>uO b x y
 | false=>P1 b x y
def QK (x y:TV):List (List (Nat×TV)×List (Nat×TV)):=match x with
 | .ds g c=>(match y with
  | .ds cc bB=>[([(g,.agg c)],[(cc,.agg (gd false .eG (lV c)))]),([(0,.agg bB)],[(0,.agg (gd false .eG (lV bB)))])]
  | _=>[])
 | _=>[]
def oN (s s':TS):List (Nat×TV)→List (List (Nat×TV)×List (Nat×TV))
 | []=>[]
 | p::r=>match Nat.blt p.1 1000000 with
  | true=>oN s s' r
  | false=>QK (s.get p.1) (s'.get p.1)++oN s s' r
def tC:List (Nat×Nat)→List (Nat×Nat)→Bool
 | [],[]=>true
 | (a,b)::r,(c,d)::q=>Nat.beq a c&&Nat.beq b d&&tC r q
 | _,_=>false
def l7.fM (b:cz) (cX:TS) (x y:l7):l7:=match x with
 | .bad=> .bad
 | .none=>(match y with
  | .bad=> .bad
  | .none=> .none
  | .some s q=> .some ⟨s.T++cX.T,cX.B,s.vs,s.aB⟩ ((s.B,cX.T++cX.B)::q))
 | .some s q=>(match y with
  | .bad=> .bad
  | .none=> .some ⟨s.T++cX.T,cX.B,s.vs,s.aB⟩ ((s.B,cX.T++cX.B)::q)
  | .some s' Gi=>match qb s s' (s.T++s'.T)&&tC s.vs s'.vs&&Nat.beq s.aB s'.aB with
   | true=> .some ⟨(s.T++s'.T).map (fun p=>(p.1,mG b p.1 (s.get p.1) (s'.get p.1)))++cX.T,cX.B,s.vs,s.aB⟩ ((s.B,cX.T++cX.B)::(s'.B,cX.T++cX.B)::(q++(Gi++(ox s s' (s.T++s'.T)++oN s s' (s.T++s'.T)))))
   | false=> .bad)
def aj.jd:aj→l7
 | .ho ex s=>(match ex with
  | .normal=> .some s []
  | _=> .none)
 | .fh | .no=> .none
 | .p _ t | .gw _ t | .eq _ _ t=>t.jd
 | .fM b s x y=>l7.fM b s x.jd y.jd
 | .two _ _ | .all _ _=> .bad
 | .e_ x _ _ y=>(match x.jd with
  | .none=>y.jd
  | _=> .bad)
def aj.hV:aj→cz
 | .ho ex _=>(match ex with
  | .normal=> .t
  | _=> .f)
 | .fh | .no=> .f
 | .p _ t | .gw _ t | .eq _ _ t=>t.hV
 | .fM b _ x y=>cz.oH b x.hV y.hV
 | .two _ _ | .all _ _=> .t
 | .e_ _ _ b y=>(match b with
  | .t=>y.hV
  | b=>cz.oH b y.hV .f)
def aj.facts:aj→List Prop
 | .ho _ _ | .fh | .no | .two _ _ | .all _ _=>[]
 | .p _ t | .eq _ _ t=>t.facts
 | .gw φ t=>φ::t.facts
 | .fM _ _ x y=>(match x.hV with
  | .f=>y.facts
  | _=>match y.hV with
   | .f=>x.facts
   | _=>[])
 | .e_ _ cF _ y=>cF++y.facts
def A_ (x y:TV):Prop:= ∃g c bB,x= .ds g c∧y= .ds g bB∧bN bB=bN c
structure TS.ev (s S:TS):Prop where
 vs:S.vs=s.vs
 aB:S.aB=s.aB
 get: ∀k,S.get k=s.get k∨(k<1000000∧((S.get k).aH=(s.get k).aH∨(S.get k).aH= .undef))∨(1000010≤k∧A_ (s.get k) (S.get k))
theorem TS.ev.refl (s:TS):s.ev s:=⟨rfl,rfl,fun _=> .inl rfl⟩
theorem TS.ev.trans {a b c:TS} (h:a.ev b) (k:b.ev c):a.ev c:=⟨k.vs.trans h.vs,k.aB.trans h.aB,fun t=>by
 rcases k.get t with e | ⟨ak,e⟩ | ⟨ak,e⟩
 ·rw[e];exact h.get t
 ·refine .inr (.inl ⟨ak,?_⟩)
  rcases e with e | e
  ·rcases h.get t with q | ⟨_,q⟩ | ⟨hb,_⟩
   ·rw[e,q];exact .inl rfl
   ·rw[e];exact q
   ·omega
  ·exact .inr e
 ·refine .inr (.inr ⟨ak,?_⟩)
  rcases h.get t with q | ⟨hb,_⟩ | ⟨_,q⟩
  ·rw[←q];exact e
  ·omega
  ·obtain⟨g,x,y,aO,e2,cg⟩:=e
   obtain⟨cc,AM,SB,f1,f2,f3⟩:=q
   rw[aO] at f2
   cases f2
   exact⟨g,AM,y,f1,e2,cg.trans f3⟩⟩
theorem Qa {s s':TS} {l:List (Nat×TV)} (h:qb s s' l=true) {k:Nat} {v:TV} (hm:(k,v)∈l) (hk: ¬k<1000000):1000010≤k∧(∃g c,s.get k= .ds g c)∧ ∃g c,s'.get k= .ds g c:=by
 induction l with
 | nil=>cases hm
 | cons p r aT=>
  obtain⟨a,w⟩:=p
  unfold qb at h
  split at h
  ·rename_i ai
   rcases List.mem_cons.1 hm with e | hm
   ·cases e;exact absurd (by rw[←Nat.blt_eq];exact ai) hk
   ·exact aT h hm
  ·split at h
   ·rename_i hc
    rcases List.mem_cons.1 hm with e | hm
    ·cases e
     simp only[Bool.and_eq_true] at hc
     have Gr: ∀x:TV,uC x=true→ ∃g c,x= .ds g c:=fun x hx=>by
      unfold uC at hx
      split at hx
      ·exact⟨_,_,rfl⟩
      ·cases hx
     exact⟨Nat.le_of_ble_eq_true hc.2,Gr _ hc.1.1,Gr _ hc.1.2⟩
    ·exact aT h hm
   ·cases h
theorem Gp {s s':TS}: ∀{l:List (Nat×TV)},(∀p∈oN s s' l,p.1=p.2)→ ∀k v,(k,v)∈l→ ¬k<1000000→ ∀(g:Nat) (c:List TV) (cc:Nat) (bB:List TV),s.get k= .ds g c→s'.get k= .ds cc bB→g=cc∧c=gd false .eG (lV c)∧bB=gd false .eG (lV bB)
 | [],_,k,v,h,_=>by cases h
 | p::r,al,k,v,h,hk=>fun g c cc bB aO e2=>by
  unfold oN at al
  rcases List.mem_cons.1 h with e | h
  ·cases e
   have hb:Nat.blt k 1000000=false:=by
    cases hb:Nat.blt k 1000000 with
    | true=>rw[Nat.blt_eq] at hb;exact absurd hb hk
    | false=>rfl
   simp only[hb,aO,e2] at al
   have q1:=al _ (List.mem_append_left _ (List.mem_cons_self ..))
   have q2:=al _ (List.mem_append_left _ (List.mem_cons_of_mem _ (List.mem_cons_self ..)))
   injection q1 with J _
   injection q2 with a2 _
   have pi:=(Prod.mk.inj J)
   have cJ:=(Prod.mk.inj a2)
   exact⟨pi.1,TV.agg.inj pi.2,TV.agg.inj cJ.2⟩
  ·refine Gp (fun q hm=>al q ?_) k v h hk g c cc bB aO e2
   split
   ·exact hm
   ·exact List.mem_append_right _ hm
theorem Ca: ∀{l m:List (Nat×Nat)},tC l m=true→l=m
 | [],[],_=>rfl
 | [],_::_,h=>by cases h
 | _::_,[],h=>by cases h
 | (a,b)::r,(c,d)::q,h=>by
  simp only[tC,Bool.and_eq_true] at h
  rw[Nat.eq_of_beq_eq_true h.1.1,Nat.eq_of_beq_eq_true h.1.2,Ca h.2]
theorem Qu {b:cz} {x y:TV} (h:b.den=true):(oI b x y).aH=x.aH∨(oI b x y).aH= .undef:=by
 unfold oI
 split
 ·split
  ·split
   ·left;simp[TV.aH,h]
   ·exact .inr rfl
  ·exact .inr rfl
 ·split
  ·left;simp[TV.aH,cz.sb,h]
  ·exact .inr rfl
 ·split
  ·left;simp[TV.aH,h]
  ·exact .inr rfl
 ·exact .inr rfl
theorem Qt {b:cz} {x y:TV} (h:b.den=false):(oI b x y).aH=y.aH∨(oI b x y).aH= .undef:=by
 unfold oI
 split
 ·split
  ·split
   ·rename_i e;left;subst e;simp[TV.aH,h]
   ·exact .inr rfl
  ·exact .inr rfl
 ·split
  ·left;simp[TV.aH,cz.sb,h]
  ·exact .inr rfl
 ·split
  ·left;simp[TV.aH,h]
  ·exact .inr rfl
 ·exact .inr rfl
theorem QO {s cX:TS} (h:s.B=cX.T++cX.B) (vs:List (Nat×Nat)) (aB k:Nat):TS.get ⟨s.T++cX.T,cX.B,vs,aB⟩ k=s.get k:=by
 unfold TS.get
 simp only
 rw[h,oz,oz]
theorem PG {l:List (Nat×TV)} {f:Nat→TV} {k:Nat} {d:TV}:((∃v,(k,v)∈l)∧eS (l.map fun p=>(p.1,f p.1)) k d=f k)∨((∀v,(k,v) ∉ l)∧eS (l.map fun p=>(p.1,f p.1)) k d=d):=by
 induction l with
 | nil=>exact .inr ⟨(fun v h=>by cases h),rfl⟩
 | cons p r aT=>
  obtain⟨a,w⟩:=p
  rw[List.map_cons,eZ]
  by_cases e:a=k
  ·subst e;exact .inl ⟨⟨w,List.mem_cons_self ..⟩,if_pos rfl⟩
  ·rw[if_neg e]
   rcases aT with⟨⟨v,q⟩,h⟩ | ⟨q,h⟩
   ·exact .inl ⟨⟨v,List.mem_cons_of_mem _ q⟩,h⟩
   ·refine .inr ⟨fun v hv=> ?_,h⟩
    rcases List.mem_cons.1 hv with hv | hv
    ·cases hv;exact e rfl
    ·exact q v hv
theorem Fc {s s':TS}: ∀{l:List (Nat×TV)},(∀p∈ox s s' l,p.1=p.2)→ ∀k v,(k,v)∈l→y4 (s.get k) (s'.get k)=true→s.get k=s'.get k
 | [],_,k,v,h,_=>by cases h
 | p::r,al,k,v,h,ak=>by
  unfold ox at al
  rcases List.mem_cons.1 h with e | h
  ·cases e
   rw[ak] at al
   have:=al _ (List.mem_cons_self ..)
   injection this with aO _
   exact(Prod.mk.inj aO).2
  ·refine Fc (fun q hm=>al q ?_) k v h ak
   split
   ·exact List.mem_cons_of_mem _ hm
   ·exact hm
theorem PP {b:cz} {cX s s':TS} (h1:s.B=cX.T++cX.B) (h2:s'.B=cX.T++cX.B) (df:qb s s' (s.T++s'.T)=true) (hv:s.vs=s'.vs) (af:s.aB=s'.aB) (al: ∀p∈ox s s' (s.T++s'.T)++oN s s' (s.T++s'.T),p.1=p.2):
  let S:TS:=⟨(s.T++s'.T).map (fun p=>(p.1,mG b p.1 (s.get p.1) (s'.get p.1)))++cX.T,cX.B,s.vs,s.aB⟩
  (b.den=true→s.ev S)∧(b.den=false→s'.ev S):=by
 intro S
 have MV: ∀p∈ox s s' (s.T++s'.T),p.1=p.2:=fun p ab=>al p (List.mem_append_left _ ab)
 have iX: ∀p∈oN s s' (s.T++s'.T),p.1=p.2:=fun p ab=>al p (List.mem_append_right _ ab)
 have eP: ∀k,((∃v,(k,v)∈s.T++s'.T)∧S.get k=mG b k (s.get k) (s'.get k))∨((∀v,(k,v) ∉ s.T++s'.T)∧S.get k=eS cX.T k (eS cX.B k .u)):=fun k=>by
  have e:S.get k=eS (List.map (fun p=>(p.1,(fun k=>mG b k (s.get k) (s'.get k)) p.1)) (s.T++s'.T)) k (eS cX.T k (eS cX.B k .u)):=by
   show eS (_++cX.T) k _=_
   rw[oz]
  rw[e];exact PG (f:=fun k=>mG b k (s.get k) (s'.get k))
 have base: ∀(x:TS),x.B=cX.T++cX.B→ ∀k,(∀v,(k,v) ∉ x.T)→x.get k=eS cX.T k (eS cX.B k .u):=fun x hx k hk=>by
  unfold TS.get;rw[ni hk,hx,oz]
 have G4: ∀k,k<1000000→mG b k (s.get k) (s'.get k)=uO b (s.get k) (s'.get k):=fun k hk=>by
  unfold mG;rw[show Nat.blt k 1000000=true by rw[Nat.blt_eq];exact hk]
 have Bw: ∀k v,(k,v)∈s.T++s'.T→ ¬k<1000000→1000010≤k∧ ∃g c bB,s.get k= .ds g c∧s'.get k= .ds g bB∧c=gd false .eG (lV c)∧bB=gd false .eG (lV bB)∧mG b k (s.get k) (s'.get k)= .ds g (gd false .eG (bif b.den then lV c else lV bB)):=fun k v hm hk=>by
  obtain⟨bJ,⟨g,c,aO⟩,cc,bB,e2⟩:=Qa df hm hk
  obtain⟨cL,dd,ez⟩:=Gp iX k v hm hk _ _ _ _ aO e2
  subst cL
  refine⟨bJ,g,c,bB,aO,e2,dd,ez,?_⟩
  unfold mG
  have hb:Nat.blt k 1000000=false:=by
   cases hb:Nat.blt k 1000000 with
   | true=>rw[Nat.blt_eq] at hb;exact absurd hb hk
   | false=>rfl
  rw[hb,aO,e2];rfl
 refine⟨fun hb=>⟨rfl,rfl,fun k=> ?_⟩,fun hb=>⟨hv,af,fun k=> ?_⟩⟩
 ·rcases eP k with⟨⟨v,q⟩,h⟩ | ⟨q,h⟩
  ·by_cases hk:k<1000000
   ·rw[h,G4 k hk];refine .inr (.inl ⟨hk,?_⟩)
    unfold uO
    split
    ·exact .inl rfl
    ·exact Qu hb
   ·obtain⟨bJ,g,c,bB,aO,e2,dd,ez,cg⟩:=Bw k v q hk
    refine .inr (.inr ⟨bJ,g,c,_,aO,h.trans cg,?_⟩)
    rw[hb];exact congrArg bN dd.symm
  ·rw[h];exact .inl (base s h1 k fun v hv=>q v (List.mem_append_left _ hv)).symm
 ·rcases eP k with⟨⟨v,q⟩,h⟩ | ⟨q,h⟩
  ·by_cases hk:k<1000000
   ·rw[h,G4 k hk];refine .inr (.inl ⟨hk,?_⟩)
    unfold uO
    split
    ·rename_i ak;rw[Fc MV k v q ak];exact .inl rfl
    ·exact Qt hb
   ·obtain⟨bJ,g,c,bB,aO,e2,dd,ez,cg⟩:=Bw k v q hk
    refine .inr (.inr ⟨bJ,g,bB,_,e2,h.trans cg,?_⟩)
    rw[hb];exact congrArg bN ez.symm
  ·rw[h];exact .inl (base s' h2 k fun v hv=>q v (List.mem_append_right _ hv)).symm
theorem aj.Ft: ∀{t:aj} {R:Exit→TS→Prop},t.jd= .none→t.den R→t.den fun ex s=>R ex s∧ex≠ .normal:=by
 intro t
 induction t with
 | ho ex s=>
  intro R h d
  refine⟨d,?_⟩
  rintro rfl;cases h
 | fh=>intros;trivial
 | no=>intro R h d;exact d
 | p φ t aT=>intro R h d;exact⟨d.1,aT h d.2⟩
 | gw φ t aT=>intro R h d;exact fun q=>aT h (d q)
 | eq a b t aT=>intro R h d;exact⟨d.1,aT h d.2⟩
 | two x y fl e9=>intro R h;cases h
 | all α f aT=>intro R h;cases h
 | e_ x cF b y fl e9=>
  intro R h d
  unfold aj.jd at h
  split at h
  ·rename_i hx;exact⟨fl hx d.1,fun q=>e9 h (d.2 q)⟩
  ·cases h
 | fM b s x y fl e9=>
  intro R h d
  have h:l7.fM b s x.jd y.jd= .none:=h
  unfold l7.fM at h
  split at h
  ·cases h
  ·rename_i hx
   split at h
   ·cases h
   ·rename_i ax;exact⟨fun q=>fl hx (d.1 q),fun q=>e9 ax (d.2 q)⟩
   ·cases h
  ·split at h
   ·cases h
   ·cases h
   ·split at h<;>cases h
theorem aj.PS: ∀{t:aj} {R:Exit→TS→Prop} {S:TS} {gn:List (List (Nat×TV)×List (Nat×TV))},t.jd= .some S gn→(∀p∈gn,p.1=p.2)→t.den R→
  t.den fun ex s=>R ex s∧(ex= .normal→s.ev S∧t.hV.den=true∧ ∀φ∈t.facts,φ):=by
 intro t
 induction t with
 | ho ex s=>
  intro R S gn h al d
  refine⟨d,?_⟩
  rintro rfl
  cases h
  exact⟨.refl s,rfl,fun φ h=>by cases h⟩
 | fh=>intros;trivial
 | no=>intro R S gn h al d;exact d
 | p φ t aT=>intro R S gn h al d;exact⟨d.1,aT h al d.2⟩
 | gw φ t aT=>
  intro R S gn h al d q
  refine aj.mg (aT h al (d q)) fun ex s hs=>⟨hs.1,fun e=>⟨(hs.2 e).1,(hs.2 e).2.1,fun ψ yz=> ?_⟩⟩
  rcases List.mem_cons.1 yz with rfl | yz
  ·exact q
  ·exact(hs.2 e).2.2 ψ yz
 | eq a b t aT=>intro R S gn h al d;exact⟨d.1,aT h al d.2⟩
 | two x y fl e9=>intro R S gn h;cases h
 | all α f aT=>intro R S gn h;cases h
 | e_ x cF b y fl e9=>
  intro R S gn h al d
  unfold aj.jd at h
  split at h
  ·rename_i hx
   refine⟨aj.mg (aj.Ft hx d.1) fun ex s hs=>⟨hs.1,fun e=>absurd e hs.2⟩,fun q=>aj.mg (e9 h al (d.2 q)) fun ex s hs=>⟨hs.1,fun e=> ?_⟩⟩
   obtain⟨h1,h2,ao⟩:=hs.2 e
   have ew: ∀(l:List Prop),lE l→ ∀φ∈l,φ:=by
    intro l
    induction l with
    | nil=>intro _ φ cP;cases cP
    | cons a r aT=>
     intro hc φ cP
     cases r with
     | nil=>rw[List.mem_singleton.1 cP];exact hc
     | cons fw vc=>
      have hc:a∧lE (fw::vc):=hc
      rcases List.mem_cons.1 cP with rfl | cP
      ·exact hc.1
      ·exact aT hc.2 φ cP
   have ew:=ew _ q
   refine⟨h1,?_,fun φ cP=> ?_⟩
   ·unfold aj.hV
    split
    ·exact h2
    ·rename_i bV
     have hb:b.den=true:=ew _ (by
      unfold pD
      split
      ·exact absurd rfl bV
      ·simp)
     rw[cz.sb,hb,h2];rfl
   ·rcases List.mem_append.1 cP with cP | cP
    ·have hm: ∀b:cz,φ∈pD cF b:=fun b=>by
      unfold pD
      split
      ·exact cP
      ·exact List.mem_append_left _ cP
     exact ew φ (hm b)
    ·exact ao φ cP
  ·cases h
 | fM b cX x y fl e9=>
  intro R S gn h al d
  have h:l7.fM b cX x.jd y.jd= .some S gn:=h
  have FK: ∀{z:aj} {R:Exit→TS→Prop},z.jd= .none→z.den R→z.den fun ex s=>R ex s∧(ex= .normal→False):=fun an J1=>aj.Ft an J1
  have CH:b.den=true→x.hV.den=true→(cz.oH b x.hV y.hV).den=true:=fun h1 h2=>by rw[cz.sb,h1,h2];rfl
  have CI:b.den=false→y.hV.den=true→(cz.oH b x.hV y.hV).den=true:=fun h1 h2=>by rw[cz.sb,h1,h2];rfl
  have CN:x.hV.den=true→(∀φ∈x.facts,φ)→ ∀φ∈(aj.fM b cX x y).facts,φ:=fun h1 h2 φ cP=>by
   unfold aj.facts at cP
   split at cP
   ·rename_i e;rw[e] at h1;cases h1
   ·split at cP
    ·exact h2 φ cP
    ·cases cP
  have CO:y.hV.den=true→(∀φ∈y.facts,φ)→ ∀φ∈(aj.fM b cX x y).facts,φ:=fun h1 h2 φ cP=>by
   unfold aj.facts at cP
   split at cP
   ·exact h2 φ cP
   ·split at cP
    ·rename_i e;rw[e] at h1;cases h1
    ·cases cP
  have ds: ∀{s:TS},s.B=cX.T++cX.B→s.ev ⟨s.T++cX.T,cX.B,s.vs,s.aB⟩:=fun cH=>⟨rfl,rfl,fun k=> .inl (QO cH _ _ k)⟩
  unfold l7.fM at h
  split at h
  ·cases h
  ·rename_i hx
   split at h
   ·cases h
   ·cases h
   ·rename_i s q ax
    cases h
    have cH:=al _ (List.mem_cons_self ..)
    refine⟨fun hb=>aj.mg (FK hx (d.1 hb)) fun ex z an=>⟨an.1,fun e=>(an.2 e).elim⟩,fun hb=>aj.mg (e9 ax (fun p ab=>al p (List.mem_cons_of_mem _ ab)) (d.2 hb)) fun ex z an=>⟨an.1,fun e=> ?_⟩⟩
    obtain⟨h1,h2,ao⟩:=an.2 e
    exact⟨h1.trans (ds cH),CI hb h2,CO h2 ao⟩
  ·rename_i s q hx
   split at h
   ·cases h
   ·rename_i ax
    cases h
    have cH:=al _ (List.mem_cons_self ..)
    refine⟨fun hb=>aj.mg (fl hx (fun p ab=>al p (List.mem_cons_of_mem _ ab)) (d.1 hb)) fun ex z an=>⟨an.1,fun e=> ?_⟩,fun hb=>aj.mg (FK ax (d.2 hb)) fun ex z an=>⟨an.1,fun e=>(an.2 e).elim⟩⟩
    obtain⟨h1,h2,ao⟩:=an.2 e
    exact⟨h1.trans (ds cH),CH hb h2,CN h2 ao⟩
   ·rename_i s' Gi ax
    split at h
    ·rename_i hc
     cases h
     simp only[Bool.and_eq_true] at hc
     obtain⟨⟨aV,hz⟩,jE⟩:=hc
     have LQ:=al _ (List.mem_cons_self ..)
     have LR:=al _ (List.mem_cons_of_mem _ (List.mem_cons_self ..))
     obtain⟨a7,bO⟩:=PP (b:=b) LQ LR aV (Ca hz) (Nat.eq_of_beq_eq_true jE) (fun p ab=>al p (List.mem_cons_of_mem _ (List.mem_cons_of_mem _ (List.mem_append_right _ (List.mem_append_right _ ab)))))
     refine⟨fun hb=>aj.mg (fl hx (fun p ab=>al p (List.mem_cons_of_mem _ (List.mem_cons_of_mem _ (List.mem_append_left _ ab)))) (d.1 hb)) fun ex z an=>⟨an.1,fun e=> ?_⟩,
      fun hb=>aj.mg (e9 ax (fun p ab=>al p (List.mem_cons_of_mem _ (List.mem_cons_of_mem _ (List.mem_append_right _ (List.mem_append_left _ ab))))) (d.2 hb)) fun ex z an=>⟨an.1,fun e=> ?_⟩⟩
     ·obtain⟨h1,h2,ao⟩:=an.2 e
      exact⟨h1.trans (a7 hb),CH hb h2,CN h2 ao⟩
     ·obtain⟨h1,h2,ao⟩:=an.2 e
      exact⟨h1.trans (bO hb),CI hb h2,CO h2 ao⟩
    ·cases h
def hp:List (Nat×Nat)→Nat→Option Nat
 | [],_=>none
 | (k,m)::r,t=>match Nat.beq k t with
  | true=>some m
  | false=>hp r t
section
variable [FZ] {n:Nat} {s:TS}
theorem sq (t:Nat):(s.ac n).T.getD t .undef=if t<n then(s.get t).aH else .undef:=by
 show((List.range n).map fun t=>(s.get t).aH).getD t .undef=_
 rw[List.getD_eq_getElem?_getD,List.getElem?_map]
 by_cases h:t<n
 ·rw[List.getElem?_range h,if_pos h];rfl
 ·rw[List.getElem?_eq_none (by simpa using h),if_neg h];rfl
theorem oW (v:Nat):cG (s.ac n).L v=(hp s.vs v).map fun m=>bN (fk s v 0 m):=by
 show cG (s.vs.map fun p=>(p.1,bN (fk s p.1 0 p.2))) v=_
 induction s.vs with
 | nil=>rfl
 | cons p r aT=>
  obtain⟨k,m⟩:=p
  rw[List.map_cons]
  unfold cG hp
  by_cases h:v=k
  ·subst h;simp
  ·have:Nat.beq k v=false:=by
    cases hb:Nat.beq k v with
    | true=>exact absurd (Nat.eq_of_beq_eq_true hb).symm h
    | false=>rfl
   simp only[h,if_false,this];exact aT
theorem lf (b:Nat):s.ei[b]?=if b<s.aB then some (s.get (bc b)).dv else none:=by
 show((List.range s.aB).map fun b=>(s.get (bc b)).dv)[b]?=_
 rw[List.getElem?_map]
 by_cases h:b<s.aB
 ·rw[List.getElem?_range h,if_pos h];rfl
 ·rw[List.getElem?_eq_none (by simpa using h),if_neg h];rfl
theorem ji:s.ei.length=s.aB:=by show((List.range s.aB).map _).length=_;simp
theorem mN {b:Nat} (h:b<s.aB):(s.ac n).H[b]?=some (s.get (bc b)).dv:=by
 show(s.ei++eW s)[b]?=_
 rw[List.getElem?_append_left (by rw[ji];exact h),lf,if_pos h]
theorem vw (h:fW s=true):(s.ac n).H.length=s.aB:=by
 show(s.ei++eW s).length=_
 unfold eW;rw[h];simp[ji]
end
def tt:Value→TV
 | .int k n=> .i k n
 | .bool b=> .b (match b with
  | true=> .t
  | false=> .f)
 | .string x=> .s x
 | .slice none 0 0=> .nil true true
 | .pointer none=> .o .dU
 | .nilIface=> .o .eh
 | _=> .u
theorem JN (v:Value):(tt v).aH=ke v:=by
 unfold tt ke
 split
 ·rfl
 ·rename_i b;cases b<;>rfl
 ·rfl
 ·rfl
 ·rfl
 ·rfl
 ·rename_i h1 h2 ao a8 cw cZ
  split
  ·exact absurd rfl (h1 _ _)
  ·exact absurd rfl (h2 _)
  ·exact absurd rfl (ao _)
  ·exact absurd rfl a8
  ·exact absurd rfl cw
  ·exact absurd rfl cZ
  ·rfl
def bI (n:Nat) (s:TS):Operand→TV
 | .tmp t=>(match Nat.blt t n with
  | true=>s.get t
  | false=> .u)
 | .const v=>tt v
 | .func f=> .fn f []
 | .global _=> .u
theorem hH [FZ] (n:Nat) (s:TS):bt (s.ac n).T=fun x=>(bI n s x).aH:=by
 funext x
 cases x with
 | tmp t=>
  show(s.ac n).T.getD t .undef=_
  rw[sq]
  unfold bI
  by_cases h:t<n
  ·have hb:Nat.blt t n=true:=by rw[Nat.blt_eq];exact h
   simp only[if_pos h,hb]
  ·have hb:Nat.blt t n=false:=by
    cases hb:Nat.blt t n with
    | true=>rw[Nat.blt_eq] at hb;exact absurd hb h
    | false=>rfl
   simp only[if_neg h,hb];rfl
 | const v=>exact(JN v).symm
 | func f=>rfl
 | global g=>rfl
def CB (x:cz) (K:cz→aj):aj:=match x with
 | .t=>K .t
 | .f=>K .f
 | .v p=>K (.v p)
 | .at i p=>K (.at i p)
 | .n p=>K (.n p)
 | .aK p q=>K (.aK p q)
 | .or p q=>K (.or p q)
 | .ite p q r=>K (.ite p q r)
 | .pA p q=>K (.pA p q)
 | .ne p q=>K (.ne p q)
theorem Le (x:cz) (K:cz→aj):CB x K=K x:=by cases x<;>rfl
def kQ (v:TV) (K:TV→aj):aj:=match v with
 | .u=>K .u
 | .i k m=>K (.i k m)
 | .b x=>CB x fun x=>K (.b x)
 | .s x=>K (.s x)
 | .l e xs f r=>K (.l e xs f r)
 | .nil f r=>K (.nil f r)
 | .ref p g m f=>K (.ref p g m f)
 | .ptr p g j m c=>K (.ptr p g j m c)
 | .lp t c=>K (.lp t c)
 | .cv e x c=>K (.cv e x c)
 | .agg c=>K (.agg c)
 | .tup c=>K (.tup c)
 | .fn f c=>K (.fn f c)
 | .o a=>K (.o a)
 | .blk g e xs m h=>K (.blk g e xs m h)
 | .ds g c=>K (.ds g c)
 | .gV g m ids=>K (.gV g m ids)
 | .eI V ids n h=>K (.eI V ids n h)
 | .new id xs=>K (.new id xs)
 | .pG w ids m n=>K (.pG w ids m n)
 | .pF w ids m j=>K (.pF w ids m j)
 | .r6 id m n=>K (.r6 id m n)
theorem lI (v:TV) (K:TV→aj):kQ v K=K v:=by
 cases v with
 | b x=>exact Le x fun x=>K (.b x)
 | _=>rfl
def jI:(e:aq)→e.T→AV
 | .ptr e,x=> .cv (bD false e x) 0
 | .gK f .unit,_=> .fn f []
 | .gK f e,x=> .fn f [jI e x]
 | e,x=>match e.isS with
  | true=> .agg (bD false e x)
  | false=>gf false e x
def jJ:(es:List aq)→bR es→List AV
 | [],_=>[]
 | e::r,x=>jI e x.1::jJ r x.2
def jK (e:aq) (x:e.T):AV:=match e.isS with
 | true=> .agg (bD true e x)
 | false=>gf true e x
def kM:(es:List aq)→bR es→List AV
 | [],_=>[]
 | e::r,x=>jK e x.1::kM r x.2
def m1:(es:List aq)→bR es→AV
 | [e],x=>jK e x.1
 | es,x=> .tup (kM es x)
def ve (e:aq) (x:e.T):TV:=match e.isS with
 | true=> .agg (gd true e x)
 | false=>sv true e x
def vf:(es:List aq)→bR es→List TV
 | [],_=>[]
 | e::r,x=>ve e x.1::vf r x.2
def vg:(es:List aq)→bR es→TV
 | [e],x=>ve e x.1
 | es,x=> .tup (vf es x)
theorem GB (e:aq) (x:e.T):(ve e x).aH=jK e x:=by
 unfold ve jK
 cases e.isS with
 | true=>show AV.agg (bN _)=_;rw[tk]
 | false=>exact AE true e x
theorem GC: ∀(es:List aq) (x:bR es),bN (vf es x)=kM es x
 | [],_=>rfl
 | e::r,x=>by rw[vf,bN,kM,GB,GC r]
theorem zU (es:List aq) (x:bR es):(vg es x).aH=m1 es x:=by
 match es,x with
 | [],x=>rfl
 | [e],x=>exact GB e x.1
 | e::bf::r,x=>show AV.tup (bN _)=_;rw[GC];rfl
structure c_ (P:Program) where
 f:FuncId
 ps:List aq
 rs:List aq
 pre:Option (bR ps→Prop)
 fn:bR ps→bR rs
 ok: ∀x,(match pre with
  | none=>True
  | some p=>p x)→bh P f (jJ ps x) (m1 rs (fn x))
def Jn {e bf:aq} (h:bf=e) (x:bf.T):e.T:=h▸x
def ts (cs:IntKind) (v:TV) (K:Int→List Prop→aj):aj:=match v with
 | .i k n=>if k=cs then K n [] else .no
 | _=> .no
def w6 (v:TV) (K:Bool→List Prop→aj):aj:=match v with
 | .b x=>K x.den []
 | _=> .no
def w_ (v:TV) (K:ByteArray→List Prop→aj):aj:=match v with
 | .s x=>K x []
 | _=> .no
def w5 (e:aq) (g n:Nat) (v:TV) (K:List e.T→List Prop→aj):aj:=match v with
 | .blk cc bf xs gm _=>if h:bf=e then .eq cc g (.eq gm n (K (ig h xs) [xs.length≤4611686018427387904])) else .no
 | _=> .no
def xa (s:TS) (e:aq) (g n:Nat) (v:TV) (K:List e.T→List Prop→aj):aj:=match v with
 | .gV cc m ids=>(match s.get ch with
  | .eI V b6 bg _=>if h:aq.held=e then .eq b6 ids (.eq cc 0 (.eq g 0 (.eq n bg (.eq m s.aB (K (ig h V) [V.length≤4611686018427387904]))))) else .no
  | _=> .no)
 | v=>w5 e g n v K
def w8 (s:TS) (e:aq) (v:TV) (K:List e.T→List Prop→aj):aj:=match v with
 | .l bf xs _ _=>if h:bf=e then K (ig h xs) [] else .no
 | .nil _ _=>K [] []
 | .ref b g n _=>(match Nat.blt b s.aB with
  | true=>xa s e g n (s.get (bc b)) K
  | false=> .no)
 | _=> .no
def jF (s:TS):(e:aq)→TV→(e.T→List Prop→aj)→aj
 | .int,v,K=>ts .i64 v K
 | .u64,v,K=>ts .u64 v K
 | .bool,v,K=>w6 v K
 | .str,v,K=>w_ v K
 | .l e,v,K=>w8 s e v K
 | _,_,_=> .no
def ra (s:TS):(es:List aq)→List TV→(bR es→List Prop→aj)→aj
 | [],[],K=>K () []
 | e::r,v::vs,K=>jF s e v fun x o=>ra s r vs fun y fD=>K (x,y) (o++fD)
 | _,_,_=> .no
def jG (s:TS) (e:aq) (v:TV) (K:e.T→List Prop→aj):aj:=match e.isS with
 | true=>(match v with
  | .agg c=>ra s e.a6 c fun x o=>K (e.mk x) o
  | _=> .no)
 | false=>jF s e v K
def w9 (s:TS) (e:aq) (v:TV) (K:e.T→List Prop→aj):aj:=match v with
 | .lp t c=>(match Nat.beq c 0 with
  | true=>(match hp s.vs t with
   | some m=>ra s e.a6 (fk s t 0 m) fun x o=>K (e.mk x) o
   | none=> .no)
  | false=> .no)
 | .cv bf x c=>(match Nat.beq c 0 with
  | true=>if h:bf=e then K (Jn h x) [] else .no
  | false=> .no)
 | _=> .no
def w7 (f:Nat) (v:TV) (K:Unit→List Prop→aj):aj:=match v with
 | .fn g c=>(match Nat.beq f g with
  | true=>(match c with
   | []=>K () []
   | _=> .no)
  | false=> .no)
 | _=> .no
def tr (f:Nat) (v:TV) (K:TV→aj):aj:=match v with
 | .fn g c=>(match Nat.beq f g with
  | true=>(match c with
   | [w]=>K w
   | _=> .no)
  | false=> .no)
 | _=> .no
def conv (s:TS):(e:aq)→TV→(e.T→List Prop→aj)→aj
 | .ptr e,v,K=>w9 s e v K
 | .gK f .unit,v,K=>w7 f v K
 | .gK f e,v,K=>tr f v fun w=>match e.isS with
  | true=> .no
  | false=>conv s e w K
 | .bZ,v,K=>jG s .bZ v K
 | .cN,v,K=>jG s .cN v K
 | .fe,v,K=>jG s .fe v K
 | .jL,v,K=>jG s .jL v K
 | .eu,v,K=>jG s .eu v K
 | .held,v,K=>jG s .held v K
 | .frame,v,K=>jG s .frame v K
 | .done,v,K=>jG s .done v K
 | .fault,v,K=>jG s .fault v K
 | .stays,v,K=>jG s .stays v K
 | .eG,v,K=>jG s .eG v K
 | .int,v,K=>jF s .int v K
 | .u64,v,K=>jF s .u64 v K
 | .u8,v,K=>jF s .u8 v K
 | .bool,v,K=>jF s .bool v K
 | .str,v,K=>jF s .str v K
 | .unit,v,K=>jF s .unit v K
 | .nat,v,K=>jF s .nat v K
 | .l e,v,K=>jF s (.l e) v K
def w0 (s:TS):(es:List aq)→List TV→(bR es→List Prop→aj)→aj
 | [],[],K=>K () []
 | e::r,v::vs,K=>conv s e v fun x o=>w0 s r vs fun y fD=>K (x,y) (o++fD)
 | _,_,_=> .no
section
variable {n:Nat} {s:TS} {R:Exit→TS→Prop}
theorem Jp {L:List (Nat×List AV)} {H:List Blk} (e:aq) (x:e.T):kE L H (bD true e x) (bD false e x):=by
 rw[←jo,←jo]
 have key: ∀(es:List aq) (y:bR es),kE L H (fL true es y) (fL false es y):=by
  intro es
  induction es with
  | nil=>intro y;exact .nil
  | cons e r aT=>
   intro y
   refine .cons ?_ (aT y.2)
   cases e<;>first | exact .int _ _ | exact .bool _ | exact .str _ | exact j2 | exact .undef _
 exact key _ _
end
section
variable {n:Nat} {s:TS} {R:Exit→TS→Prop}
theorem B1 {k:IntKind} {v:TV} {K:Int→List Prop→aj} (h:(ts k v K).den R): ∃m,v= .i k m∧(K m []).den R:=by
 unfold ts at h
 split at h
 ·split at h
  ·rename_i e;subst e;exact⟨_,rfl,h⟩
  ·exact h.elim
 ·exact h.elim
end
section
variable {n:Nat} {s:TS} {R:Exit→TS→Prop}
theorem JH {v:TV} {K:Bool→List Prop→aj} (h:(w6 v K).den R): ∃x,v= .b x∧(K x.den []).den R:=by
 unfold w6 at h
 split at h
 ·exact⟨_,rfl,h⟩
 ·exact h.elim
end
section
variable {n:Nat} {s:TS} {R:Exit→TS→Prop}
theorem JM {v:TV} {K:ByteArray→List Prop→aj} (h:(w_ v K).den R): ∃x,v= .s x∧(K x []).den R:=by
 unfold w_ at h
 split at h
 ·exact⟨_,rfl,h⟩
 ·exact h.elim
end
section
variable {n:Nat} {s:TS} {R:Exit→TS→Prop}
theorem JG {e:aq} {g m:Nat} {v:TV} {K:List e.T→List Prop→aj} (h:(w5 e g m v K).den R): ∃xs,∃hx:xs.length=m,v= .blk g e xs m hx∧(K xs [xs.length≤4611686018427387904]).den R:=by
 unfold w5 at h
 split at h
 ·rename_i cc bf xs gm hx
  split at h
  ·rename_i aX
   subst aX
   obtain⟨h1,h2,h⟩:=h
   subst h1;subst h2
   exact⟨xs,hx,rfl,h⟩
  ·exact h.elim
 ·exact h.elim
end
section
variable {n:Nat} {s:TS} {R:Exit→TS→Prop}
theorem Rp {L:List (Nat×List AV)} {H:List Blk} {a b:AV} (h:fB L H a b) (hb: ∀l,b≠ .agg l):dQ L H a b:=by
 rcases h with⟨l,dy,_,e,_⟩ | h
 ·exact absurd e (hb dy)
 ·exact h
end
section
variable {n:Nat} {s:TS} {R:Exit→TS→Prop}
theorem J_ (fr:Bool) (e:aq) (x:e.T): ∀l,gf fr e x≠ .agg l:=by
 intro l h;cases e<;>cases h
end
section
variable {n:Nat} {s:TS} {R:Exit→TS→Prop}
theorem JI {f:Nat} {v:TV} {K:Unit→List Prop→aj} (h:(w7 f v K).den R):v= .fn f []∧(K () []).den R:=by
 unfold w7 at h
 split at h
 ·split at h
  ·rename_i hf
   obtain rfl:=Nat.eq_of_beq_eq_true hf
   split at h
   ·exact⟨rfl,h⟩
   ·exact h.elim
  ·exact h.elim
 ·exact h.elim
end
section
variable {n:Nat} {s:TS} {R:Exit→TS→Prop}
theorem JJ {f:Nat} {v:TV} {K:TV→aj} (h:(tr f v K).den R): ∃w,v= .fn f [w]∧(K w).den R:=by
 unfold tr at h
 split at h
 ·split at h
  ·rename_i hf
   obtain rfl:=Nat.eq_of_beq_eq_true hf
   split at h
   ·exact⟨_,rfl,h⟩
   ·exact h.elim
  ·exact h.elim
 ·exact h.elim
end
section
variable {n:Nat} {s:TS} {R:Exit→TS→Prop}
theorem Kd {e:aq} (h:e.isS=false) (x:e.T): ∀l,jI e x≠ .agg l:=by
 intro l
 cases e with
 | gK f e=>cases e<;>(intro h;cases h)
 | ptr e=>intro h;cases h
 | _=>first | (cases h;done) | exact J_ false _ x l
end
section
variable [FZ] {n:Nat} {s:TS} {R:Exit→TS→Prop}
theorem mh {V:List aI} {ids:List Nat} {bg:Nat} {hv:V.length=bg} (hk:s.get ch= .eI V ids bg hv):(s.ac n).H=s.ei++List.map cj ‹FZ›.bs:=by
 show s.ei++eW s=_
 unfold eW fW
 rw[hk]
theorem Cl {V:List aI} {ids:List Nat} {bg:Nat} {hv:V.length=bg} (hk:s.get ch= .eI V ids bg hv) {id:Nat} {k:Blk} (h:(List.map cj ‹FZ›.bs)[id]?=some k):(s.ac n).H[id+s.aB]?=some k:=by
 rw[mh hk,List.getElem?_append_right (by rw[ji];omega),ji,Nat.add_sub_cancel];exact h
variable (an:Fits s)
include an in
theorem JO {e:aq} {b g m:Nat} {cn:Bool} {K:List e.T→List Prop→aj} (hb:b<s.aB) (h:(xa s e g m (s.get (bc b)) K).den R): ∃x o,(K x o).den R∧((∀φ∈o,φ)→dQ (s.ac n).L (s.ac n).H (.ref b g 0 m cn) (.av (List.map (bD false e) x) false false)):=by
 unfold xa at h
 split at h
 ·rename_i cc fc ids aJ
  split at h
  ·rename_i V b6 bg hj hk
   split at h
   ·rename_i he
    subst he
    obtain⟨h1,h2,ao,a8,cw,h⟩:=h
    subst h1;subst h2;subst ao;subst a8;subst cw;subst hj
    refine⟨_,_,h,fun br=> ?_⟩
    have ak:=br _ (List.mem_singleton.2 rfl)
    obtain⟨q1,q2,q3⟩:=an V b6 _ _ hk
    have lQ:V.length= ‹FZ›.ws.length:=by rw[←q2];exact kD q1.ok
    have:=Q7 (L:=(s.ac n).L) (H:=(s.ac n).H) (b:=b) (s:=s.aB) (n:=V.length) (full:=cn) (ws:= ‹FZ›.ws) (ids:=b6) (bs:= ‹FZ›.bs) lQ (by rw[mN hb,aJ];rfl) (fun id k iF=>Cl hk iF) q1.ok (by omega) (fun x hx=>by have:=q1.len x hx;omega)
    rw[q2] at this
    exact this
   ·exact h.elim
  ·exact h.elim
 ·obtain⟨xs,hx,aJ,h'⟩:=JG h
  subst hx
  refine⟨_,_,h',fun br=> ?_⟩
  have ak:=br _ (List.mem_singleton.2 rfl)
  exact GV (eT:=bD true e) (by rw[mN hb,aJ];rfl) (fun x=>Jp e x) ak
include an in
theorem JK {e:aq} {v:TV} {K:List e.T→List Prop→aj} (h:(w8 s e v K).den R): ∃x o,(K x o).den R∧((∀φ∈o,φ)→dQ (s.ac n).L (s.ac n).H v.aH (.av (List.map (bD false e) x) false false)):=by
 unfold w8 at h
 split at h
 ·split at h
  ·rename_i aX;subst aX;exact⟨_,_,h,fun _=>j2⟩
  ·exact h.elim
 ·exact⟨_,_,h,fun _=>by rw[List.map_nil];exact j2⟩
 ·rename_i b g bU cn
  split at h
  ·rename_i hb
   exact JO an (by rw[←Nat.blt_eq];exact hb) h
  ·exact h.elim
 ·exact h.elim
include an in
theorem wZ {e:aq} {v:TV} {K:e.T→List Prop→aj} (h:(jF s e v K).den R): ∃x o,(K x o).den R∧((∀φ∈o,φ)→dQ (s.ac n).L (s.ac n).H v.aH (gf false e x)):=by
 cases e with
 | int=>obtain⟨m,rfl,h⟩:=B1 h;exact⟨m,_,h,fun _=> .int _ _⟩
 | u64=>obtain⟨m,rfl,h⟩:=B1 h;exact⟨m,_,h,fun _=> .int _ _⟩
 | bool=>obtain⟨x,rfl,h⟩:=JH h;exact⟨_,_,h,fun _=> .bool _⟩
 | str=>obtain⟨x,rfl,h⟩:=JM h;exact⟨_,_,h,fun _=> .str _⟩
 | l e=>exact JK an h
 | _=>exact h.elim
include an in
theorem tp: ∀{es:List aq} {vs:List TV} {K:bR es→List Prop→aj},(ra s es vs K).den R→ ∃x o,(K x o).den R∧((∀φ∈o,φ)→aw (dQ (s.ac n).L (s.ac n).H) (bN vs) (fL false es x))
 | [],[],K,h=>⟨(),[],h,fun _=>aw.nil⟩
 | e::r,v::vs,K,h=>by
  obtain⟨x,o,h,df⟩:=wZ an (n:=n) (show(jF s e v _).den R from h)
  obtain⟨y,fD,h,fa⟩:=tp h
  exact⟨(x,y),o++fD,h,fun br=>aw.cons (df fun φ cP=>br φ (List.mem_append_left _ cP)) (fa fun φ cP=>br φ (List.mem_append_right _ cP))⟩
 | [],_::_,K,h=>h.elim
 | _::_,[],K,h=>h.elim
include an in
theorem JD {e:aq} {v:TV} {K:e.T→List Prop→aj} (h:(jG s e v K).den R): ∃x o,(K x o).den R∧((∀φ∈o,φ)→fB (s.ac n).L (s.ac n).H v.aH (match e.isS with
  | true=> .agg (bD false e x)
  | false=>gf false e x)):=by
 unfold jG at h
 cases b5:e.isS with
 | true=>
  rw[b5] at h
  simp only at h
  split at h
  ·rename_i c
   obtain⟨x,o,h,k⟩:=tp an (n:=n) h
   refine⟨_,o,h,fun br=> ?_⟩
   show fB _ _ (.agg (bN c)) (.agg (bD false e (e.mk x)))
   rw[←jo,aq.HN]
   exact fB.agg (k br)
  ·exact h.elim
 | false=>
  rw[b5] at h
  obtain⟨x,o,h,k⟩:=wZ an (n:=n) (show(jF s e v K).den R from h)
  exact⟨x,o,h,fun br=> .inr (k br)⟩
include an in
theorem JL {e:aq} {v:TV} {K:e.T→List Prop→aj} (h:(w9 s e v K).den R): ∃x o,(K x o).den R∧((∀φ∈o,φ)→fB (s.ac n).L (s.ac n).H v.aH (.cv (bD false e x) 0)):=by
 unfold w9 at h
 split at h
 ·rename_i t c
  split at h
  ·rename_i hc
   obtain rfl:=Nat.eq_of_beq_eq_true hc
   split at h
   ·rename_i m hm
    obtain⟨x,o,h,k⟩:=tp an (n:=n) h
    refine⟨_,o,h,fun br=> .inr ?_⟩
    have k:=k br
    show dQ _ _ (.dn t 0) (.cv (bD false e (e.mk x)) 0)
    rw[←jo,aq.HN]
    exact .dn (cells:=bN (fk s t 0 m)) (by rw[oW,hm];rfl) k.1 k.2
   ·exact h.elim
  ·exact h.elim
 ·rename_i bf x c
  split at h
  ·rename_i hc
   obtain rfl:=Nat.eq_of_beq_eq_true hc
   split at h
   ·rename_i aX;subst aX;exact⟨_,_,h,fun _=> .inr (.cv _ _)⟩
   ·exact h.elim
  ·exact h.elim
 ·exact h.elim
include an in
theorem w1: ∀{e:aq} {v:TV} {K:e.T→List Prop→aj},(conv s e v K).den R→ ∃x o,(K x o).den R∧((∀φ∈o,φ)→fB (s.ac n).L (s.ac n).H v.aH (jI e x)):=by
 intro e
 induction e with
 | ptr e aT=>intro v K h;exact JL an h
 | gK f e aT=>
  intro v K h
  have key:(∀x,jI (.gK f e) x= .fn f [jI e x])→(tr f v fun w=>match e.isS with
   | true=> .no
   | false=>conv s e w K).den R→ ∃x o,(K x o).den R∧((∀φ∈o,φ)→fB (s.ac n).L (s.ac n).H v.aH (jI (.gK f e) x)):=by
   intro he h
   obtain⟨w,rfl,h'⟩:=JJ h
   cases b5:e.isS with
   | true=>rw[b5] at h';exact h'.elim
   | false=>
    rw[b5] at h'
    obtain⟨x,o,h2,k⟩:=aT h'
    refine⟨x,o,h2,fun br=> .inr ?_⟩
    rw[he]
    refine dQ.fn (caps:=[w.aH]) rfl fun j a b h1 h2=> ?_
    cases j with
    | zero=>cases h1;cases h2;exact Rp (k br) (Kd b5 x)
    | succ j=>cases h1
  cases e with
  | unit=>
   obtain⟨rfl,h'⟩:=JI h
   exact⟨(),[],h',fun _=> .inr (dQ.fn (caps:=[]) rfl fun j a b h1 _=>by cases h1)⟩
  | _=>exact key (fun x=>rfl) h
 | _=>
  intro v K h
  first
  | exact JD an (n:=n) h
  | (obtain⟨x,o,h,k⟩:=wZ an (n:=n) h;exact⟨x,o,h,fun br=> .inr (k br)⟩)
include an in
theorem BV: ∀{es:List aq} {vs:List TV} {K:bR es→List Prop→aj},(w0 s es vs K).den R→ ∃x o,(K x o).den R∧((∀φ∈o,φ)→aw (fB (s.ac n).L (s.ac n).H) (bN vs) (jJ es x))
 | [],[],K,h=>⟨(),[],h,fun _=>aw.nil⟩
 | e::r,v::vs,K,h=>by
  obtain⟨x,o,h,df⟩:=w1 an (n:=n) (show(conv s e v _).den R from h)
  obtain⟨y,fD,h,fa⟩:=BV h
  exact⟨(x,y),o++fD,h,fun br=>aw.cons (df fun φ cP=>br φ (List.mem_append_left _ cP)) (fa fun φ cP=>br φ (List.mem_append_right _ cP))⟩
 | [],_::_,K,h=>h.elim
 | _::_,[],K,h=>h.elim
end
def u1 (l:List Prop) (t:aj):aj:=match l with
 | []=>t
 | l=> .p (lE l) t
theorem BU: ∀{l:List Prop},lE l→ ∀φ∈l,φ
 | [],_,φ,h=>by cases h
 | [a],hc,φ,h=>by rw[List.mem_singleton.1 h];exact hc
 | a::b::r,hc,φ,h=>by
  have hc:a∧lE (b::r):=hc
  rcases List.mem_cons.1 h with rfl | h
  ·exact hc.1
  ·exact BU hc.2 φ h
theorem FU {l:List Prop} {t:aj} {R:Exit→TS→Prop} (h:(u1 l t).den R):(∀φ∈l,φ)∧t.den R:=by
 unfold u1 at h
 split at h
 ·exact⟨(fun φ h=>by cases h),h⟩
 ·exact⟨BU h.1,h.2⟩
def tM {P:Program}:List (c_ P)→FuncId→(c_ P→aj)→aj
 | [],_,_=> .no
 | c::r,f,K=>match Nat.beq c.f f with
  | true=>K c
  | false=>tM r f K
def qa:TV→Bool
 | .tup _=>false
 | .o a=>c3 a
 | _=>true
theorem uU {v:TV} (h:qa v=true):c3 v.aH=true:=by cases v<;>first | rfl | exact h | cases h
def zz {P:Program} (c:c_ P) (x:bR c.ps):List Prop:=match c.pre with
 | none=>[]
 | some p=>[p x]
def wM {P:Program} (lg:List (c_ P)) (f:FuncId) (args:List TV) (s:TS) (K:TV→aj):aj:=match args.all qa with
 | false=> .no
 | true=>tM lg f fun c=>w0 s c.ps args fun x o=>u1 (o++zz c x) (K (vg c.rs (c.fn x)))
theorem Ct {P:Program} {f:FuncId} {K:c_ P→aj} {R:Exit→TS→Prop}: ∀{lg:List (c_ P)},(tM lg f K).den R→ ∃c,c.f=f∧(K c).den R
 | [],h=>h.elim
 | c::r,h=>by
  unfold tM at h
  split at h
  ·rename_i hf;exact⟨c,Nat.eq_of_beq_eq_true hf,h⟩
  ·exact Ct h
theorem Jl [FZ] {P:Program} {lg:List (c_ P)} {f:FuncId} {args:List TV} {s:TS} {K:TV→aj} {R:Exit→TS→Prop} {n:Nat} {Kp:AV→Prop} (an:Fits s) (hK: ∀v,(K v).den R→Kp v.aH) (h:(wM lg f args s K).den R):
  kK P f (bN args) (s.ac n).L (s.ac n).H Kp:=by
 unfold wM at h
 split at h
 ·exact h.elim
 ·rename_i af
  obtain⟨c,rfl,h1⟩:=Ct h
  obtain⟨x,o,h2,k⟩:=BV an (n:=n) h1
  obtain⟨br,ao⟩:=FU h2
  refine⟨?_,_,_,k fun φ cP=>br φ (List.mem_append_left _ cP),c.ok x ?_,?_⟩
  ·rw[List.all_eq_true] at af ⊢
   intro a ai
   rw[jC] at ai
   obtain⟨v,hv,rfl⟩:=List.mem_map.1 ai
   exact uU (af v hv)
  ·have ab: ∀φ∈zz c x,φ:=fun φ cP=>br φ (List.mem_append_right _ cP)
   unfold zz at ab
   revert ab
   cases c.pre with
   | none=>intro _;trivial
   | some p=>intro ab;exact ab _ (List.mem_singleton.2 rfl)
  ·rw[←zU];exact hK _ ao
inductive sG:Type 1 where
 | no
 | v (x:TV)
 | c (φ:Prop) (x:TV)
 | aQ (φ ψ:Prop) (x:TV)
def ml (F:List Blk→(AV→Prop)→Prop) (K:TV→aj):sG→aj
 | .no=> .no
 | .v x=> .eq F (fun _ Q=>Q x.aH) (kQ x K)
 | .c φ x=> .eq F (fun _ Q=>φ∧Q x.aH) (.p φ (kQ x K))
 | .aQ φ ψ x=> .eq F (fun _ Q=>φ∧ψ∧Q x.aH) (.p (φ∧ψ) (kQ x K))
theorem m5 {F:List Blk→(AV→Prop)→Prop} (H:List Blk) {K:TV→aj} {g:sG} {R:Exit→TS→Prop} {Kp:AV→Prop} (hK: ∀v,(K v).den R→Kp v.aH) (h:(ml F K g).den R):F H Kp:=by
 cases g with
 | no=>exact h.elim
 | v x=>obtain⟨e,h⟩:=h;rw[lI] at h;rw[e];exact hK _ h
 | c φ x=>obtain⟨e,h1,h⟩:=h;rw[lI] at h;rw[e];exact⟨h1,hK _ h⟩
 | aQ φ ψ x=>obtain⟨e,h1,h⟩:=h;rw[lI] at h;rw[e];exact⟨h1.1,h1.2,hK _ h⟩
def lD:TV→List TV
 | .agg c=>c
 | v=>[v]
def oY (P:Program) (t:TypeId) (cells:List TV) (c:Nat):TV:=match p0 P t with
 | true=> .agg ((cells.drop c).take (P.cellsOf t))
 | false=>cells.getD c .u
def Lr (op:BinOp) (x y:TV):sG:=match x with
 | .i k a=>(match y with
  | .i _ b=>(match op with
   | .add=> .v (.i k (k.wrap (a+b)))
   | .sub=> .v (.i k (k.wrap (a - b)))
   | .mul=> .v (.i k (k.wrap (a*b)))
   | .quo=> .c (b≠0) (.i k (k.wrap (a.tdiv b)))
   | .rem=> .c (b≠0) (.i k (a.tmod b))
   | .and=> .v (.i k (k.wrap (BitVec.ofInt k.bits a&&&BitVec.ofInt k.bits b).toNat))
   | .shl=> .c (0≤b) (.i k (k.wrap (a*2 ^ (min b.toNat k.bits))))
   | .shr=> .c (0≤b) (.i k (a.fdiv (2 ^ (min b.toNat k.bits))))
   | .eql=> .v (.b (.v (a==b)))
   | .neq=> .v (.b (.v (a !=b)))
   | .lss=> .v (.b (.v (decide (a<b))))
   | .leq=> .v (.b (.v (decide (a≤b))))
   | .gtr=> .v (.b (.v (decide (a>b))))
   | .geq=> .v (.b (.v (decide (a ≥ b))))
   | _=> .no)
  | _=> .no)
 | .b p=>(match y with
  | .b q=>(match op with
   | .eql=> .v (.b (.pA p q))
   | .neq=> .v (.b (.ne p q))
   | _=> .no)
  | _=> .no)
 | .s p=>(match y with
  | .s q=>(match op with
   | .add=> .c (p.size+q.size≤9223372036854775807) (.s (p++q))
   | .eql=> .v (.b (.v (p.toList==q.toList)))
   | .neq=> .v (.b (.v (!(p.toList==q.toList))))
   | _=> .no)
  | _=> .no)
 | .agg l=>(match y with
  | .agg m=>(match l,m with
   | [.i _ a,.i _ b],[.i _ c,.i _ d]=>(match op with
    | .eql=> .v (.b (.v (a==c&&b==d)))
    | .neq=> .v (.b (.v (!(a==c&&b==d))))
    | _=> .no)
   | _,_=> .no)
  | _=> .no)
 | _=> .no
def sy (P:Program) (t:TypeId):List TV:=match(P.info? t).bind (·.zero) with
 | some z=>z.cells.toList.map tt
 | none=>[]
def Co (pl:List (Nat×Nat)) (cells:List TV):List (Nat×TV)→List TV
 | []=>cells
 | (i,v)::r=>match pl[i]? with
  | some p=>Co pl (cells.take p.1++lD v++cells.drop (p.1+(lD v).length)) r
  | none=>cells
def Lk (e:aq) (v:TV):e.T:=match e.isS with
 | true=>e.mk (kR e.a6 (lD v))
 | false=>xN e v
def Lg:TV→Bool
 | .l _ _ _ fr=>fr
 | .nil _ fr=>fr
 | .agg c=>c.all fun v=>match v with
  | .l _ _ _ fr=>fr
  | .nil _ fr=>fr
  | _=>true
 | _=>true
def Ff (e:aq) (xs:List e.T) (l:List TV):TV:=match l with
 | []=> .nil true true
 | l=> .l e xs true (l.all Lg)
def uH (s:TS) (e:aq):List TV→(List e.T→aj)→aj
 | [],K=>K []
 | v::r,K=>conv s e v fun x _=>uH s e r fun xs=>K (x::xs)
theorem y6 [FZ] {n:Nat} {s:TS} {e:aq} {R:Exit→TS→Prop} (an:Fits s): ∀{l:List TV} {K:List e.T→aj},(uH s e l K).den R→ ∃xs,(K xs).den R
 | [],K,h=>⟨_,h⟩
 | v::r,K,h=>by
  obtain⟨x,o,h,_⟩:=w1 an (n:=n) (show(conv s e v _).den R from h)
  obtain⟨xs,h⟩:=y6 (n:=n) an h
  exact⟨_,h⟩
def p4:List (Nat×aq)→Nat→(aq→aj)→aj
 | [],_,_=> .no
 | (k,e)::r,t,K=>match Nat.beq k t with
  | true=>K e
  | false=>p4 r t K
structure e7 (P:Program) where
 n:Nat
 xn:List (Nat×aq)
 lg:List (c_ P)
section
variable {P:Program} (cf:e7 P) (s:TS)
def gs (P:Program) (n:Nat) (s:TS) (op:Op):sG:=match op with
 | .nilCheck x=> .v (bI n s x)
 | .load t a=>(match bI n s a with
  | .lp v c=>(match hp s.vs v with
   | some m=> .v (oY P t (fk s v 0 m) c)
   | none=> .no)
  | .cv e x c=> .v (oY P t (gd false e x) c)
  | _=> .no)
 | .fieldAddr t x f=>(match tI P t f with
  | some fd=>(match bI n s x with
   | .lp v c=> .v (.lp v (c+fd.offset))
   | .cv e x c=> .v (.cv e x (c+fd.offset))
   | .ptr b g i m c=> .v (.ptr b g i m (c+fd.offset))
   | _=> .no)
  | none=> .no)
 | .unOp op _ x=>(match bI n s x with
  | .b z=>(match op with
   | .not=> .v (.b z.not)
   | _=> .no)
  | .i k m=>(match op with
   | .neg=> .v (.i k (k.wrap (0 - m)))
   | _=> .no)
  | _=> .no)
 | .convert _ d x=>(match bI n s x with
  | .i _ m=>(match pZ P d with
   | some k=> .v (.i k (k.wrap m))
   | none=> .no)
  | _=> .no)
 | .binOp op _ x y _=>Lr op (bI n s x) (bI n s y)
 | .build t ps=>(match zv P t with
  | some pl=> .v (.agg (Co pl (sy P t) (ps.toList.map fun p=>(p.1,bI n s p.2))))
  | none=> .no)
 | .index _ x i=>(match bI n s x with
  | .s z=>(match bI n s i with
   | .i _ m=> .aQ (0≤m) (m<z.size) (.i .u8 (z.data.getD m.toNat 0).toNat)
   | _=> .no)
  | _=> .no)
 | .extract x i=>(match bI n s x with
  | .tup l=> .v (l.getD i .u)
  | _=> .no)
 | .makeFunc fn _ caps=>(match fn with
  | .func f=> .v (.fn f (caps.toList.map (bI n s)))
  | _=> .no)
 | _=> .no
def nf (P:Program) (t:TypeId):Option Nat:=match fU P t with
 | some e=>(match(P.info? e).isSome with
  | true=>some (P.cellsOf e)
  | false=>none)
 | none=>none
theorem pX {P:Program} {t:TypeId} {m:Nat} (h:nf P t=some m): ∃e,fU P t=some e∧(P.info? e).isSome=true∧P.cellsOf e=m:=by
 unfold nf at h
 split at h
 ·rename_i e he
  split at h
  ·rename_i hi;exact⟨e,he,hi,Option.some.inj h⟩
  ·cases h
 ·cases h
def mc (s:TS) (b g:Nat) (K:(e:aq)→(xs:List e.T)→(m:Nat)→xs.length=m→aj):aj:=match Nat.blt b s.aB with
 | true=>(match s.get (bc b) with
  | .blk cc e xs m h=> .eq cc g (K e xs m h)
  | _=> .no)
 | false=> .no
theorem pk [FZ] {n:Nat} {s:TS} {b g:Nat} {K:(e:aq)→(xs:List e.T)→(m:Nat)→xs.length=m→aj} {R:Exit→TS→Prop} (h:(mc s b g K).den R):
  ∃e xs m hm,(K e xs m hm).den R∧b<s.aB∧(s.ac n).H[b]?=some ⟨g,e.im,xs.map (bD true e)⟩:=by
 unfold mc at h
 split at h
 ·rename_i hb
  have hb:b<s.aB:=by rw[←Nat.blt_eq];exact hb
  split at h
  ·rename_i cc e xs m hm aJ
   obtain⟨h1,h⟩:=h
   subst h1
   exact⟨e,xs,m,hm,h,hb,by rw[mN hb,aJ];rfl⟩
  ·exact h.elim
 ·exact h.elim
def tm (V:List aI) (ids:List Nat) (m:Nat) (i:Int):List TV:=[.i .i64 (nth V i).dW,.i .i64 (nth V i).cT,.pG i ids m (nth V i).aF.length,.b (.v (nth V i).dV),.i .i64 (nth V i).dX]
theorem vI {ws:List aI} {ids:List Nat} {bs:List (List Bool)} {i:Int} (ok:lk ws ids bs) (h:i.toNat<(view ws ids bs).length):nth (view ws ids bs) i={nth ws i with aF:=bs.getD (nth ids i) []}:=by
 have ak:=kD ok
 have h1:=hG (xs:=ws) (i:=i) (by omega)
 have h2:=hG (xs:=ids) (i:=i) (by have:=ok.len;omega)
 have:=o1 (bs:=bs) h1 h2
 rw[hG h] at this
 exact Option.some.inj this
theorem QY [Z:FZ] {V:List aI} {ids:List Nat} {m:Nat} {i:Int} (G:jx Z.ws ids Z.bs) (e:view Z.ws ids Z.bs=V) (h:i.toNat<V.length):(cd m Z.ws ids)[i.toNat]?=some (bN (tm V ids m i)):=by
 subst e
 have ak:=kD G.ok
 have MA:=G.ok.len
 rw[CW MA (by omega)]
 have hb:=G.ok.aF i.toNat _ _ (hG (xs:=Z.ws) (i:=i) (by omega)) (hG (xs:=ids) (i:=i) (by omega))
 unfold tm
 rw[vI G.ok h]
 show some (hB m (nth Z.ws i) (nth ids i))=some _
 unfold hB
 rw[hb];rfl
def yC (P:Program) (t:TypeId) (b g m:Nat) (i:Int) (s:TS) (v:TV) (K:TV→aj):aj:=match v with
 | .gV cc _ _=>(match Nat.blt b s.aB with
  | true=> .eq cc g (.eq (nf P t) (some 5) (.p (0≤i∧i.toNat<m) (K (.ptr b g i m 0))))
  | false=> .no)
 | _=>mc s b g fun e _ _ _=> .eq (nf P t) (some e.im) (.p (0≤i∧i.toNat<m) (K (.ptr b g i m 0)))
def yD (P:Program) (t:TypeId) (w:Int) (ids:List Nat) (m k:Nat) (i:Int) (s:TS) (K:TV→aj):aj:=match s.get ch with
 | .eI V b6 _ _=> .eq b6 ids (.eq m s.aB (.eq (nf P t) (some 1) (.p (w.toNat<V.length∧0≤i∧i.toNat<k) (K (.pF w ids m i)))))
 | _=> .no
def yE (P:Program) (t:TypeId) (x i:TV) (s:TS) (K:TV→aj):aj:=match i with
 | .i _ i=>(match x with
  | .l e xs _ _=> .eq (nf P t) (some e.im) (.p (0≤i∧i.toNat<xs.length) (K (.cv e (ns e xs i) 0)))
  | .ref b g m _=>yC P t b g m i s (s.get (bc b)) K
  | .pG w ids m k=>yD P t w ids m k i s K
  | _=> .no)
 | _=> .no
def y1 (P:Program) (t:TypeId) (w:Int) (ids:List Nat) (m:Nat) (j:Int) (s:TS) (K:TV→aj):aj:=match s.get ch with
 | .eI V b6 _ _=> .eq b6 ids (.eq m s.aB (.p (w.toNat<V.length∧j.toNat<(nth V w).aF.length) (ml (fun _ Q=>jv P t [AV.bool (nth (nth V w).aF j)] 0 Q) K (.v (oY P t [.b (.v (nth (nth V w).aF j))] 0)))))
 | _=> .no
def y2 (P:Program) (t:TypeId) (b g:Nat) (i:Int) (m c:Nat) (s:TS) (K:TV→aj):aj:=match s.get (bc b) with
 | .gV cc fc ids=>(match Nat.blt b s.aB with
  | true=>(match s.get ch with
   | .eI V b6 _ _=> .eq cc g (.eq b6 ids (.p (i.toNat<V.length) (ml (fun _ Q=>jv P t (bN (tm V ids fc i)) c Q) K (.v (oY P t (tm V ids fc i) c)))))
   | _=> .no)
  | false=> .no)
 | .ds cc ad=>(match Nat.blt b s.aB with
  | true=> .eq cc g (.eq i 0 (ml (fun _ Q=>jv P t (bN ad) c Q) K (.v (oY P t ad c))))
  | false=> .no)
 | _=>mc s b g fun e xs dg _=> .eq dg m (.p (i.toNat<m) (ml (fun _ Q=>jv P t (bD true e (ns e xs i)) c Q) K (.v (oY P t (gd true e (ns e xs i)) c))))
def Ac (P:Program) (t:TypeId) (x:TV) (lo hi:Option TV) (K:TV→aj):aj:=match x with
 | .l e xs _ fr=>(match lo with
  | none=>(match hi with
   | some (.i _ b)=> .eq (nf P t) (some e.im) (.p (0≤b∧b≤(xs.length:Int)) (K (.l e (xs.take b.toNat) false fr)))
   | _=> .no)
  | some (.i _ a)=>(match hi with
   | none=> .eq (nf P t) (some e.im) (.p (0≤a∧a≤(xs.length:Int)) (K (.l e (xs.drop a.toNat) false fr)))
   | _=> .no)
  | _=> .no)
 | _=> .no
def y3 (P:Program) (t:TypeId) (x:TV) (K:TV→aj):aj:=match x with
 | .l _ xs _ _=> .eq (gy P t x.aH) true (K (.i .i64 xs.length))
 | .nil _ _=> .eq (gy P t x.aH) true (K (.i .i64 (0:Nat)))
 | .s z=> .eq (gy P t x.aH) true (K (.i .i64 z.size))
 | .ref _ _ m _=> .eq (gy P t x.aH) true (K (.i .i64 m))
 | .pG _ _ _ k=> .eq (gy P t x.aH) true (K (.i .i64 k))
 | _=> .no
def mK (o:Oper) (K:TV→aj):aj:=match o.op with
 | .move x=>kQ (bI cf.n s x) K
 | .assign x=>kQ (bI cf.n s x) K
 | .indexAddr t x i=>yE P t (bI cf.n s x) (bI cf.n s i) s K
 | .load t a=>(match bI cf.n s a with
  | .ptr b g i m c=>y2 P t b g i m c s K
  | .pF w ids m j=>y1 P t w ids m j s K
  | _=>ml (fun H Q=>gp P o (fun x=>(bI cf.n s x).aH) s.bw H Q) K (gs P cf.n s o.op))
 | .slice t x lo hi mx=>(match mx with
  | none=>Ac P t (bI cf.n s x) (lo.map (bI cf.n s)) (hi.map (bI cf.n s)) K
  | some _=> .no)
 | .call c=>(match c.callee with
  | .builtin b=>(match b with
   | .len=>(match c.args.toList,c.argTypes.toList with
    | [x],[t]=>y3 P t (bI cf.n s x) K
    | _,_=> .no)
   | _=> .no)
  | .value f=>(match bI cf.n s f with
   | .fn g caps=>wM cf.lg g (c.args.toList.map (bI cf.n s)++caps) s K
   | _=> .no)
  | _=> .no)
 | .buildSlice t m ps=>p4 cf.xn t fun e=>uH s e (ps.toList.map fun p=>bI cf.n s p.2) fun xs=>ml (fun H Q=>gp P o (fun x=>(bI cf.n s x).aH) s.bw H Q) K (.v (Ff e xs (ps.toList.map fun p=>bI cf.n s p.2)))
 | op=>ml (fun H Q=>gp P o (fun x=>(bI cf.n s x).aH) s.bw H Q) K (gs P cf.n s op)
end
theorem zn {e:aq} {xs:List e.T} {i:Int} (h:i.toNat<xs.length) (fr:Bool):(xs.map (bD fr e))[i.toNat]?=some (bD fr e (ns e xs i)):=by
 rw[List.getElem?_map]
 have:xs[i.toNat]?=some (ns e xs i):=by
  have:= @hG e.T e.ou xs i h
  exact this
 rw[this];rfl
section
variable {P:Program} {cf:e7 P} {s:TS} {R:Exit→TS→Prop} {K:TV→aj} {Kp:AV→Prop}
theorem Rd {t:TypeId} {x:TV} {lo hi:Option TV} {H:List Blk} (hK: ∀v,(K v).den R→Kp v.aH) (h:(Ac P t x lo hi K).den R):oU P t x.aH (lo.map TV.aH) (hi.map TV.aH) H Kp:=by
 unfold Ac at h
 split at h
 ·rename_i e xs cn fr
  have di: ∀{m:Nat},m=e.im→ ∀(i:Nat) (row:List AV),(List.map (bD false e) xs)[i]?=some row→row.length=m:=fun hm i row aa=>by
   rw[List.getElem?_map] at aa
   cases hx:xs[i]? with
   | none=>rw[hx] at aa;cases aa
   | some x=>rw[hx] at aa;cases aa;rw[n1,hm]
  split at h
  ·split at h
   ·rename_i k b
    obtain⟨h1,h2,h⟩:=h
    obtain⟨jw,q1,q2,q3⟩:=pX h1
    refine dq q1 ?_
    rw[if_pos q2]
    refine⟨h2.1,Nat.zero_le _,by rw[List.length_map];omega,di q3,?_⟩
    rw[List.drop_zero,Nat.sub_zero,←List.map_take];exact hK _ h
   ·exact h.elim
  ·split at h
   ·rename_i k a
    obtain⟨h1,h2,h⟩:=h
    obtain⟨jw,q1,q2,q3⟩:=pX h1
    refine dq q1 ?_
    rw[if_pos q2]
    refine⟨h2.1,by rw[List.length_map];omega,Nat.le_refl _,di q3,?_⟩
    rw[List.take_of_length_le (by rw[List.length_drop];omega),←List.map_drop];exact hK _ h
   ·exact h.elim
  ·exact h.elim
 ·exact h.elim
end
section
variable {P:Program} {cf:e7 P} {s:TS} {R:Exit→TS→Prop} {K:TV→aj} {Kp:AV→Prop}
theorem Pq {t:TypeId} {x:TV} (hK: ∀v,(K v).den R→Kp v.aH) (h:(y3 P t x K).den R):cQ (gy P t x.aH) (mF x.aH Kp):=by
 unfold y3 at h
 split at h
 ·obtain⟨h1,h⟩:=h
  rw[h1]
  show Kp (.int .i64 ((List.map _ _).length:Nat))
  rw[List.length_map];exact hK _ h
 ·obtain⟨h1,h⟩:=h;rw[h1];exact hK _ h
 ·obtain⟨h1,h⟩:=h;rw[h1];exact hK _ h
 ·obtain⟨h1,h⟩:=h;rw[h1];exact hK _ h
 ·obtain⟨h1,h⟩:=h;rw[h1];exact hK _ h
 ·exact h.elim
end
section
variable {P:Program} {cf:e7 P} {s:TS} {R:Exit→TS→Prop} {K:TV→aj} {Kp:AV→Prop}
theorem y7 {l:List (Nat×aq)} {t:Nat} {K:aq→aj} (h:(p4 l t K).den R): ∃e,(K e).den R:=by
 induction l with
 | nil=>exact h.elim
 | cons p r aT=>
  obtain⟨k,e⟩:=p
  unfold p4 at h
  split at h
  ·exact⟨e,h⟩
  ·exact aT h
end
section
variable [FZ] {P:Program} {cf:e7 P} {s:TS} {R:Exit→TS→Prop} {K:TV→aj} {Kp:AV→Prop}
variable (an:Fits s)
theorem No {t:TypeId} {b g m:Nat} {i:Int} {k:IntKind} {cn:Bool} (hK: ∀v,(K v).den R→Kp v.aH) (h:(yC P t b g m i s (s.get (bc b)) K).den R):pW P t (.ref b g 0 m cn) (.int k i) (s.ac cf.n).H Kp:=by
 unfold yC at h
 split at h
 ·rename_i cc fc ids aJ
  split at h
  ·rename_i hb
   have hb:b<s.aB:=by rw[←Nat.blt_eq];exact hb
   obtain⟨h1,h2,ao,h⟩:=h
   subst h1
   obtain⟨jw,q1,q2,q3⟩:=pX h2
   refine dq q1 ?_
   rw[if_pos q2]
   refine dq (by rw[mN hb,aJ]) ⟨rfl,q3.symm,ao.1,by have:=ao.2;omega,?_⟩
   rw[Nat.zero_add];exact hK _ h
  ·exact h.elim
 ·obtain⟨e,xs,dg,hm,h,hb,ag⟩:=pk (n:=cf.n) h
  obtain⟨h1,h2,h⟩:=h
  obtain⟨jw,q1,q2,q3⟩:=pX h1
  refine dq q1 ?_
  rw[if_pos q2]
  refine dq ag ⟨rfl,q3.symm,h2.1,by have:=h2.2;omega,?_⟩
  rw[Nat.zero_add];exact hK _ h
include an in
theorem xB {V:List aI} {ids:List Nat} {w:Int} {bg:Nat} {hv:V.length=bg} (hk:s.get ch= .eI V ids bg hv) (hw:w.toNat<V.length):(s.ac cf.n).H[nth ids w+s.aB]?=some (cj (nth V w).aF):=by
 obtain⟨G,e,_⟩:=an V ids _ _ hk
 have ak:=kD G.ok
 rw[e] at ak
 have hid:=G.ok.lt w.toNat _ (hG (xs:=ids) (i:=w) (by have:=G.ok.len;omega))
 refine Cl hk ?_
 rw[xA hid,←e,vI G.ok (by rw[e];exact hw)]
include an in
theorem Np {t:TypeId} {w:Int} {ids:List Nat} {m c:Nat} {i:Int} {k:IntKind} (hK: ∀v,(K v).den R→Kp v.aH) (h:(yD P t w ids m c i s K).den R):pW P t (.ref (nth ids w+m) 0 0 c false) (.int k i) (s.ac cf.n).H Kp:=by
 unfold yD at h
 split at h
 ·rename_i V b6 bg hj hk
  obtain⟨h1,h2,ao,a8,h⟩:=h
  subst h1;subst h2
  obtain⟨jw,q1,q2,q3⟩:=pX ao
  refine dq q1 ?_
  rw[if_pos q2]
  refine dq (xB an hk a8.1) ⟨rfl,q3.symm,a8.2.1,by have:=a8.2.2;omega,?_⟩
  rw[Nat.zero_add];exact hK _ h
 ·exact h.elim
include an in
theorem Nr {t:TypeId} {x i:TV} (hK: ∀v,(K v).den R→Kp v.aH) (h:(yE P t x i s K).den R):pW P t x.aH i.aH (s.ac cf.n).H Kp:=by
 unfold yE at h
 split at h
 ·split at h
  ·obtain⟨h1,h2,h⟩:=h
   obtain⟨jw,q1,q2,q3⟩:=pX h1
   refine dq q1 ?_
   rw[if_pos q2]
   exact⟨h2.1,dq (zn h2.2 false) ⟨by rw[n1,q3],hK _ h⟩⟩
  ·exact No hK h
  ·exact Np an hK h
  ·exact h.elim
 ·exact h.elim
include an in
theorem Pf {t:TypeId} {w:Int} {ids:List Nat} {m:Nat} {j:Int} (hK: ∀v,(K v).den R→Kp v.aH) (h:(y1 P t w ids m j s K).den R):kq P t (.ptr (nth ids w+m) 0 j.toNat 0) (s.ac cf.n).L (s.ac cf.n).H Kp:=by
 unfold y1 at h
 split at h
 ·rename_i V b6 bg hj hk
  obtain⟨h1,h2,ao,h⟩:=h
  subst h1;subst h2
  exact dq (xB an hk ao.1) ⟨rfl,dq (BB ao.2) (m5 [] hK h)⟩
 ·exact h.elim
include an in
theorem Pg {t:TypeId} {b g m c:Nat} {i:Int} (hK: ∀v,(K v).den R→Kp v.aH) (h:(y2 P t b g i m c s K).den R):kq P t (.ptr b g i.toNat c) (s.ac cf.n).L (s.ac cf.n).H Kp:=by
 unfold y2 at h
 split at h
 ·rename_i cc fc ids aJ
  split at h
  ·rename_i hb
   have hb:b<s.aB:=by rw[←Nat.blt_eq];exact hb
   split at h
   ·rename_i V b6 bg hj hk
    obtain⟨h1,h2,ao,h⟩:=h
    subst h1;subst h2
    obtain⟨G,e,_⟩:=an V b6 _ _ hk
    exact dq (by rw[mN hb,aJ]) ⟨rfl,dq (QY G e ao) (m5 [] hK h)⟩
   ·exact h.elim
  ·exact h.elim
 ·rename_i cc ad aJ
  split at h
  ·rename_i hb
   have hb:b<s.aB:=by rw[←Nat.blt_eq];exact hb
   obtain⟨h1,h2,h⟩:=h
   subst h1;subst h2
   exact dq (by rw[mN hb,aJ]) ⟨rfl,dq (a:=bN ad) rfl (m5 [] hK h)⟩
  ·exact h.elim
 ·obtain⟨e,xs,dg,hm,h,hb,ag⟩:=pk (n:=cf.n) h
  obtain⟨h1,h2,h⟩:=h
  refine dq ag ⟨rfl,dq (zn (by omega) true) ?_⟩
  exact m5 [] hK h
include an in
theorem Gs {o:Oper} (hK: ∀v,(K v).den R→Kp v.aH) (h:(mK cf s o K).den R):gp P o (bt (s.ac cf.n).T) (s.ac cf.n).L (s.ac cf.n).H Kp:=by
 rw[hH]
 obtain⟨dst,op,ty,pos,after,guard⟩:=o
 unfold mK at h
 split at h
 ·rename_i x dG;cases dG;rw[lI] at h;exact hK _ h
 ·rename_i x dG;cases dG;rw[lI] at h;exact hK _ h
 ·rename_i t x i dG;cases dG;exact Nr an hK h
 ·rename_i t a dG
  cases dG
  split at h
  ·rename_i b g i m c ai
   show kq P t (bI cf.n s a).aH _ _ Kp
   rw[ai];exact Pg an hK h
  ·rename_i w ids m j ai
   show kq P t (bI cf.n s a).aH _ _ Kp
   rw[ai];exact Pf an hK h
  ·exact m5 (F:=fun H Q=>gp P _ _ _ H Q) _ hK h
 ·rename_i t x lo hi mx dG
  cases dG
  split at h
  ·have:=Rd (H:=(s.ac cf.n).H) hK h
   show oU P t _ (lo.map _) (hi.map _) _ Kp
   rw[Option.map_map,Option.map_map] at this
   exact this
  ·exact h.elim
 ·rename_i c dG
  cases dG
  obtain⟨callee,args,argTypes⟩:=c
  split at h
  ·rename_i b hb
   cases hb
   split at h
   ·show(match args.toList,argTypes.toList with
     | [x],[t]=>cQ (gy P t ((fun x=>(bI cf.n s x).aH) x)) (mF ((fun x=>(bI cf.n s x).aH) x) Kp)
     | _,_=>False)
    split at h
    ·rename_i x t h1 h2
     simp only at h1 h2
     simp only[h1,h2];exact Pq hK h
    ·exact h.elim
   ·exact h.elim
  ·rename_i f hf
   cases hf
   show ie (bI cf.n s f).aH fun g caps=>kK P g (args.toList.map (fun x=>(bI cf.n s x).aH)++caps) _ _ Kp
   split at h
   ·rename_i g caps hc
    rw[hc]
    have:=Jl (n:=cf.n) an hK h
    rw[jC,List.map_append,List.map_map] at this
    show kK P g (_++bN caps) _ _ Kp
    rw[jC];exact this
   ·exact h.elim
  ·exact h.elim
 ·rename_i t m ps dG
  cases dG
  obtain⟨e,h⟩:=y7 h
  obtain⟨xs,h⟩:=y6 (n:=cf.n) an h
  exact m5 (F:=fun H Q=>gp P _ _ _ H Q) _ hK h
 ·exact m5 (F:=fun H Q=>gp P _ _ _ H Q) _ hK h
end
theorem o2 {n:Int} (h1: -9223372036854775808≤n) (h2:n≤9223372036854775807):IntKind.i64.wrap n=n:=by
 rw[IntKind.wrap_i64];omega
def cr (x a b:Int):Bool:=decide (a≤x)&&decide (x≤b)
theorem yQ {x a b:Int}:cr x a b=true↔a≤x∧x≤b:=by simp[cr]
theorem jf {α:Type} [Inhabited α] {xs:List α} {i:Int} (h:i.toNat<xs.length):nth xs i=xs[i.toNat]:=by
 have:=hG h
 rw[List.getElem?_eq_getElem h] at this
 exact(Option.some.inj this).symm
theorem iL {α:Type} [Inhabited α] {xs:List α} {i:Int} (h:i.toNat<xs.length):nth xs i∈xs:=by rw[jf h];exact List.getElem_mem h
theorem kt {α:Type} [Inhabited α] {xs:List α} {i:Nat} (h:i<xs.length):nth xs (i:Int)=xs[i]:=by rw[jf (by simpa using h)];simp
def first {α:Type} (xs:List α) (p:α→Bool):Option Nat:=xs.findIdx? p
theorem KC {α:Type} {xs:List α} {p:α→Bool} (h: ∀x∈xs,p x=false):first xs p=none:=by
 unfold first;rw[List.findIdx?_eq_none_iff];exact h
theorem KD {α:Type} [Inhabited α] {xs:List α} {p:α→Bool} {i:Int} (h: ∀x∈xs.take i.toNat,p x=false) (hi:i.toNat<xs.length) (ab:p (nth xs i)=true):first xs p=some i.toNat:=by
 unfold first
 rw[List.findIdx?_eq_some_iff_getElem]
 refine⟨hi,by rw[←jf hi];exact ab,fun j O=> ?_⟩
 have:=h xs[j] (by rw[List.mem_take_iff_getElem];exact⟨j,by omega,rfl⟩)
 simp[this]
def Qg (o:Option Nat):Int:=match o with
 | some i=>i
 | none=> -1
def mB (xs:List Int) (v:Int):Int:=Qg (first xs (fun x=>v==x))
def eK (xs:List Int) (v:Int):Bool:=xs.contains v
def b7 {α:Type} (x:α):α:=x
def meets (a b:List Int):Bool:=a.any fun x=>b.contains x
def dup (l:List Int):Bool:= !decide l.Nodup
def cB (w:Way):List cm:=w.bA++w.ca
def eY (l:List Int) (n:Int):Bool:=decide (l.length≤30)&&l.all (fun x=>cr x 0 (n - 1))&&decide l.Nodup
def il (p:aS) (l:List cm):Bool:=decide (l.length≤30)&&l.all (fun x=>cr x.bE 0 (p.aR.length - 1)&&cr x.bZ 1 2)&&decide (l.map (·.bE)).Nodup
def fq (p:aS) (w:Way):Bool:=
 decide (w.ae≠[])&&eY w.ae p.ae&&eY w.b8 p.ae&&eY w.ct p.ae&&il p w.bA&&il p w.ca&&
 decide ((cB w).map (·.bE)).Nodup&&w.bA.all (fun x=>w.ae.contains (nth p.aR x.bE))&& !meets w.ae w.b8
def s7 (p:aS) (i k:Nat):Bool:=nth (nth p.a_ i) k
def ly (p:aS) (i k:Nat):Bool:=(s7 p i k !=s7 p k i) || (decide (i≠k)&& !s7 p i k&&meets (nth p.U i).ae (nth p.U k).ae)
def kw (p:aS):fP:=if p.a_.length=p.U.length then
  match first p.a_ (fun b=>decide (b.length≠p.U.length)) with
  | some k=>⟨4,k⟩
  | none=>match first (List.range p.U.length) (fun i=>(List.range p.U.length).any fun k=>ly p i k) with
   | some k=>⟨5,k⟩
   | none=>⟨0,0⟩
 else⟨4,0⟩
def qh (p:aS):fP:=match first p.U (fun w=> !fq p w) with
 | some k=>⟨3,k⟩
 | none=>kw p
def qg (p:aS):fP:=match first p.aR (fun s=> !cr s 0 (p.ae - 1)) with
 | some k=>⟨2,k⟩
 | none=>qh p
def fo (p:aS):fP:=if cr p.ae 1 60&&cr p.dw 1 300&&decide (p.aR.length≤40)&&decide (p.U.length≤100) then qg p else⟨1,0⟩
def e1 (p:aS):Bool:=decide (fo p=⟨0,0⟩)
def dA (n:Nat) (left:Int):Int:=if left<n then -1 else left - n
def mQ (w:Way):Nat:=w.ae.length+w.bA.length+w.ca.length+w.b8.length+w.ct.length
def qB (ws:List Way):Nat:=ws.length+(ws.map mQ).sum
def nV (bs:List (List Bool)):Nat:=bs.length+(bs.map List.length).sum
def lY (p:aS):Nat:=p.aR.length+qB p.U+nV p.a_
theorem E_ {n m:Nat} {left:Int} (aA:0≤left):dA (n+m) left=if dA n left<0 then -1 else dA m (dA n left):=by
 unfold dA
 split<;>split<;>(try split)<;>(try split)<;>omega
def b0 {α:Type} (a:List α) (left:Int):Int:=dA a.length left
def l0 (w:Way) (left:Int):Int:=dA (mQ w) left
def ld (w:List Way) (left:Int):Int:=dA (qB w) left
def ny (w:List (List Bool)) (left:Int):Int:=dA (nV w) left
def mO (p:aS) (left:Int):Int:=dA (lY p) left
def fN {α:Type} (a:α) (left:Int):Prop:=0≤left∧left≤1048576
def small {α:Type} (a:List α):Prop:=a.length≤1048576
def so (w:Way):Prop:=mQ w≤1048576
def vp (w:List Way):Prop:=qB w≤1048576
def vo (w:List (List Bool)):Prop:=nV w≤1048576
def Af (p:aS):Prop:=lY p≤1048576
def eqv {α:Type} [DecidableEq α] (a b:α):Bool:=decide (a=b)
def nE {α:Type} (a:α):Bool:=true
def sc (l:List Int) (n:Int):Prop:= -9223372036854775808<n∧n≤9223372036854775807
def zB (p:aS) (w:Way):Prop:= -9223372036854775808<p.ae∧p.ae≤9223372036854775807
def zA (w:Way):Prop:=w.bA.length≤1048576∧w.ca.length≤1048576
def lG {α β:Type} (a:List α) (f:α→β) (d:β) (i:Int):List β:=(a.take i.toNat).map f++List.replicate (a.length - i.toNat) d
theorem Kz {α β:Type} (a:List α) (f:α→β) (d:β):lG a f d 0=List.replicate a.length d:=by simp[lG]
theorem xD {α β:Type} {a:List α} {f:α→β} {d:β} {i:Int} (h:i≤a.length):(lG a f d i).length=a.length:=by
 simp[lG];omega
theorem KA {α β:Type} [Inhabited α] {a:List α} {f:α→β} {d:β} {i:Int} (aA:0≤i) (h:i.toNat<a.length):(lG a f d i).set i.toNat (f (nth a i))=lG a f d (i+1):=by
 unfold lG
 rw[show(i+1).toNat=i.toNat+1 by omega,List.take_succ_eq_append_getElem h,List.set_append_right _ _ (by simp;omega)]
 have:List.replicate (a.length - i.toNat) d=d::List.replicate (a.length - (i.toNat+1)) d:=by
  rw[←List.replicate_succ];congr 1;omega
 rw[this,jf h]
 have ak:((a.take i.toNat).map f).length=i.toNat:=by simp;omega
 rw[ak]
 simp[List.map_append]
 rw[←List.map_take,←List.map_take,List.take_succ_eq_append_getElem h,List.map_append]
 simp
theorem Ky {α β:Type} {a:List α} {f:α→β} {d:β} {i:Int} (h:(a.length:Int)≤i):lG a f d i=a.map f:=by
 unfold lG
 rw[List.take_of_length_le (by omega),show a.length - i.toNat=0 by omega]
 simp
def c5 (N:Int) (p:Int→Bool) (v:Int):Prop:=0≤v∧v≤N∧ ∀j:Int,0≤j→j<v→p j=false
def dD (N:Int) (v:Int):Nat:=(N - v).toNat
theorem fp {N:Int} {p:Int→Bool} (h:0≤N):c5 N p 0:=⟨Int.le_refl _,h,fun j aA h1=>by omega⟩
theorem o3 {N v:Int} (af:N≤4611686018427387904) (aA:0≤v) (hv:v<N):IntKind.i64.wrap (v+1)=v+1:=o2 (by omega) (by omega)
theorem eM {N v:Int} {p:Int→Bool} (af:N≤4611686018427387904) (h:c5 N p v) (hv:decide (v<N)=true) (ab:p v=false):c5 N p (IntKind.i64.wrap (v+1))∧dD N (IntKind.i64.wrap (v+1))<dD N v:=by
 obtain⟨aA,h1,h2⟩:=h
 have hv:v<N:=by simpa using hv
 rw[o3 af aA hv]
 refine⟨⟨by omega,by omega,fun j eX dZ=> ?_⟩,by unfold dD;omega⟩
 rcases Int.lt_or_eq_of_le (show j≤v by omega) with ak | rfl
 ·exact h2 j eX ak
 ·exact ab
theorem hq {N v:Int} {p:Int→Bool} (h:c5 N p v) (hv:decide (v<N)=false): ∀j:Int,0≤j→j<N→p j=false:=by
 obtain⟨aA,h1,h2⟩:=h
 have hv: ¬v<N:=by simpa using hv
 exact fun j eX dZ=>h2 j eX (by omega)
theorem ea {α:Type} {xs:List α} {v:Int} {p:Int→Bool} (h:c5 xs.length p v) (hv:decide (v<(xs.length:Int))=true):0≤v∧v.toNat<xs.length:=by
 have hv:v<(xs.length:Int):=by simpa using hv
 exact⟨h.1,by have:=h.1;omega⟩
theorem eR {α:Type} {xs:List α} (h:xs.length≤4611686018427387904):(xs.length:Int)≤4611686018427387904:=by omega
theorem ep {α:Type} (xs:List α):0≤(xs.length:Int):=by omega
theorem kB {α:Type} [Inhabited α] {xs:List α} {q:α→Bool} (h: ∀j:Int,0≤j→j<xs.length→q (nth xs j)=false): ∀x∈xs,q x=false:=fun x hx=>by
 obtain⟨i,hi,rfl⟩:=List.mem_iff_getElem.1 hx
 have:=h i (by omega) (by omega)
 rwa [kt hi] at this
theorem oZ {α:Type} [Inhabited α] {xs:List α} {q:α→Bool} {v:Int} (h:c5 xs.length (fun j=>q (nth xs j)) v) (hv:decide (v<(xs.length:Int))=true) (ab:q (nth xs v)=true):first xs q=some v.toNat:=by
 have hi:=ea h hv
 refine KD (fun x hx=> ?_) hi.2 ab
 obtain⟨i,kY,rfl⟩:=List.mem_take_iff_getElem.1 hx
 have:q (nth xs (i:Int))=false:=h.2.2 i (by omega) (by omega)
 rwa [kt (by omega)] at this
theorem o0 {α:Type} [Inhabited α] {xs:List α} {q:α→Bool} {v:Int} (h:c5 xs.length (fun j=>q (nth xs j)) v) (hv:decide (v<(xs.length:Int))=false):first xs q=none:=
 KC (kB (hq h hv))
theorem HP {α:Type} [Inhabited α] {xs:List α} {q:α→Bool} {v:Int} (h:c5 xs.length (fun j=>q (nth xs j)) v) (hv:decide (v<(xs.length:Int))=true) (ab:q (nth xs v)=true):xs.any q=true:=by
 rw[List.any_eq_true];exact⟨_,iL (ea h hv).2,ab⟩
theorem HQ {α:Type} [Inhabited α] {xs:List α} {q:α→Bool} {v:Int} (h:c5 xs.length (fun j=>q (nth xs j)) v) (hv:decide (v<(xs.length:Int))=false):xs.any q=false:=by
 rw[List.any_eq_false]
 intro x hx
 rw[kB (hq h hv) x hx];simp
theorem not_eq {b:Bool} (h:(!b)=true):b=false:=by simpa using h
theorem Q9 {α:Type} [Inhabited α] {a b:List α} (ak:a.length=b.length) (h: ∀j:Int,0≤j→j<a.length→nth a j=nth b j):a=b:=by
 apply List.ext_getElem ak
 intro i h1 h2
 have:=h i (by omega) (by omega)
 rwa [kt h1,kt h2] at this
theorem n3 {α:Type} [Inhabited α] [DecidableEq α] {a b:List α} {ne:Int→Bool} (bV: ∀v,ne v=true↔nth a v≠nth b v):
  ((a.length≤4611686018427387904)∧(b.length≤4611686018427387904)→((a.length:Int) !=(b.length:Int))=true→false=eqv a b)∧((a.length≤4611686018427387904)∧(b.length≤4611686018427387904)∧((!((a.length:Int) !=(b.length:Int)))=true)→
   c5 a.length ne 0∧ ∀(v:Int),c5 a.length ne v→(((decide (v<(a.length:Int)))=false→true=eqv a b)∧((decide (v<(a.length:Int)))=true→(((0≤v∧v.toNat<a.length)∧(0≤v∧v.toNat<b.length))∧((ne v)=true→false=eqv a b))∧
    ((!(ne v))=true→c5 a.length ne (IntKind.i64.wrap (v+1))∧dD a.length (IntKind.i64.wrap (v+1))<dD a.length v)))):=by
 refine⟨fun _ h=> ?_,fun⟨h1,h2,ao⟩=> ?_⟩
 ·have:a≠b:=fun e=>by subst e;simp at h
  simp[eqv,this]
 ·have ak:a.length=b.length:=by have:(a.length:Int)=b.length:=by simpa using ao
                                omega
  refine⟨fp (ep a),fun v bK=>⟨fun hv=> ?_,fun hv=>⟨⟨⟨ea bK hv,by rw[←ak];exact ea bK hv⟩,fun af=> ?_⟩,fun af=>eM (eR h1) bK hv (not_eq af)⟩⟩⟩
  ·have:a=b:=Q9 ak fun j eX dZ=>by
    have al:=hq bK hv j eX dZ
    by_cases he:nth a j=nth b j
    ·exact he
    ·rw[(bV j).2 he] at al;cases al
   simp[eqv,this]
  ·have:a≠b:=fun e=>(bV v).1 af (by rw[e])
   simp[eqv,this]
def kO {α β:Type} (a:List α) (f:α→β) (d:β) (x:List β) (v:Int):Prop:=0≤v∧v≤a.length∧x=lG a f d v
def lH {α β:Type} (a:List α) (x:List β) (v:Int):Nat:=(a.length - v).toNat
theorem xE {α β:Type} [Inhabited α] {a:List α} {f:α→β} {d:β} {ah:List β} {φ:Int→Prop} (hs:a.length≤4611686018427387904) (aa:a.map f=ah) (cP: ∀v:Int,0≤v→v.toNat<a.length→φ v):
  kO a f d (List.replicate (a.length:Int).toNat d) 0∧ ∀(x:List β) (v:Int),kO a f d x v→(((decide (v<(a.length:Int)))=false→x.length≤4611686018427387904∧x=ah)∧((decide (v<(a.length:Int)))=true→((0≤v∧v.toNat<a.length)∧(φ v∧((0≤v∧v.toNat<x.length)∧v.toNat<x.length)))∧
   (kO a f d (x.set v.toNat (f (nth a v))) (IntKind.i64.wrap (v+1))∧lH a (x.set v.toNat (f (nth a v))) (IntKind.i64.wrap (v+1))<lH a x v))):=by
 refine⟨⟨Int.le_refl _,ep a,by rw[Kz];simp⟩,fun x v ⟨aA,h1,hx⟩=>⟨fun hv=> ?_,fun hv=> ?_⟩⟩
 ·have hv: ¬v<(a.length:Int):=by simpa using hv
  subst hx
  exact⟨by rw[xD h1];exact hs,by rw[Ky (by omega)];exact aa⟩
 ·have hv:v<(a.length:Int):=by simpa using hv
  have ay:v.toNat<a.length:=by omega
  subst hx
  refine⟨⟨⟨aA,ay⟩,cP v aA ay,⟨aA,by rw[xD h1];exact ay⟩,by rw[xD h1];exact ay⟩,?_⟩
  rw[o3 (eR hs) aA hv]
  exact⟨⟨by omega,by omega,KA aA ay⟩,by unfold lH;omega⟩
theorem xF {α β:Type} [Inhabited α] {a:List α} {f:α→β} {d:β} {ah:List β} (hs:a.length≤4611686018427387904) (aa:a.map f=ah):
  kO a f d (List.replicate (a.length:Int).toNat d) 0∧ ∀(x:List β) (v:Int),kO a f d x v→(((decide (v<(a.length:Int)))=false→x.length≤4611686018427387904∧x=ah)∧((decide (v<(a.length:Int)))=true→((0≤v∧v.toNat<a.length)∧((0≤v∧v.toNat<x.length)∧v.toNat<x.length))∧
   (kO a f d (x.set v.toNat (f (nth a v))) (IntKind.i64.wrap (v+1))∧lH a (x.set v.toNat (f (nth a v))) (IntKind.i64.wrap (v+1))<lH a x v))):=by
 obtain⟨h1,h2⟩:=xE (φ:=fun _=>True) (d:=d) hs aa fun _ _ _=>trivial
 exact⟨h1,fun x v bK=>⟨(h2 x v bK).1,fun hv=>⟨⟨((h2 x v bK).2 hv).1.1,((h2 x v bK).2 hv).1.2.2⟩,((h2 x v bK).2 hv).2⟩⟩⟩
theorem Fb {n:Nat} {left:Int} (aA:0≤left) (h1:left≤1048576) (h: ¬dA n left<0):0≤dA n left∧dA n left≤1048576:=by
 refine⟨by omega,?_⟩
 unfold dA at h ⊢
 split<;>omega
theorem Fa {n m:Nat} {left:Int} (aA:0≤left) (h:dA n left<0):dA (n+m) left= -1:=by
 rw[E_ aA,if_pos h]
theorem ow {n m:Nat} {left:Int} (aA:0≤left) (h: ¬dA n left<0):dA m (dA n left)=dA (n+m) left:=by
 rw[E_ aA,if_neg h]
theorem HX {α:Type} {xs:List α} {left:Int} (af:xs.length≤4611686018427387904) (h:0≤left∧left≤1048576):IntKind.i64.wrap (left - (xs.length:Int))=left - xs.length:=o2 (by omega) (by omega)
theorem Ax {α:Type} {a:List α} {left:Int} (ab:0≤left∧left≤1048576) (af:a.length≤4611686018427387904):
  ((decide ((IntKind.i64.wrap (left - (a.length:Int)))<0))=true→(-1)=b0 a left)∧((!(decide ((IntKind.i64.wrap (left - (a.length:Int)))<0)))=true→(IntKind.i64.wrap (left - (a.length:Int)))=b0 a left):=by
 rw[HX af ab]
 unfold b0 dA
 constructor<;>intro h<;>split<;>simp_all<;>omega
def st {α:Type} (a:List α) (f:α→Nat) (Pk:Int) (left v:Int):Prop:=0≤v∧v≤a.length∧0≤left∧left≤1048576∧left=dA (a.length+((a.take v.toNat).map f).sum) Pk
def su {α:Type} (a:List α) (left v:Int):Nat:=(a.length - v).toNat
theorem HD {α:Type} [Inhabited α] {a:List α} {f:α→Nat} {g:α→Int→Int} {left:Int} (aJ: ∀x l,g x l=dA (f x) l) (ab:0≤left∧left≤1048576) (af:a.length≤4611686018427387904):
  ((decide ((IntKind.i64.wrap (left - (a.length:Int)))<0))=true→(-1)=dA (a.length+(a.map f).sum) left)∧((!(decide ((IntKind.i64.wrap (left - (a.length:Int)))<0)))=true→
   st a f left (IntKind.i64.wrap (left - (a.length:Int))) 0∧ ∀(w:Int) (v:Int),st a f left w v→(((decide (v<(a.length:Int)))=false→w=dA (a.length+(a.map f).sum) left)∧((decide (v<(a.length:Int)))=true→
    (((0≤v∧v.toNat<a.length)∧(fN (nth a v) w))∧((decide ((g (nth a v) w)<0))=true→(-1)=dA (a.length+(a.map f).sum) left))∧((!(decide ((g (nth a v) w)<0)))=true→st a f left (g (nth a v) w) (IntKind.i64.wrap (v+1))∧su a (g (nth a v) w) (IntKind.i64.wrap (v+1))<su a w v)))):=by
 rw[HX af ab]
 refine⟨fun h=> ?_,fun h=>⟨⟨Int.le_refl _,ep a,?_⟩,fun w v ⟨v0,v1,bi,bX,hw⟩=>⟨fun hv=> ?_,fun hv=> ?_⟩⟩⟩
 ·have h:left - a.length<0:=by simpa using h
  unfold dA;rw[if_pos (by omega)]
 ·have h: ¬left - a.length<0:=by simpa using h
  refine⟨by omega,by omega,?_⟩
  simp only[Int.toNat_zero,List.take_zero,List.map_nil,List.sum_nil,Nat.add_zero]
  unfold dA;rw[if_neg (by omega)]
 ·have hv: ¬v<(a.length:Int):=by simpa using hv
  rw[hw,List.take_of_length_le (by omega)]
 ·have hv:v<(a.length:Int):=by simpa using hv
  have ay:v.toNat<a.length:=by omega
  have hs:((a.take (v+1).toNat).map f).sum=((a.take v.toNat).map f).sum+f (nth a v):=by
   rw[show(v+1).toNat=v.toNat+1 by omega,List.take_succ_eq_append_getElem ay,List.map_append,List.sum_append,jf ay];simp
  have mu: ¬dA (a.length+((a.take v.toNat).map f).sum) left<0:=by omega
  have ft:g (nth a v) w=dA (a.length+((a.take (v+1).toNat).map f).sum) left:=by
   rw[aJ,hw,ow ab.1 mu,hs,Nat.add_assoc]
  refine⟨⟨⟨⟨v0,ay⟩,bi,bX⟩,fun h=> ?_⟩,fun h=> ?_⟩
  ·have h:g (nth a v) w<0:=by simpa using h
   rw[ft] at h
   have aL:(a.map f).sum=((a.take (v+1).toNat).map f).sum+((a.drop (v+1).toNat).map f).sum:=by
    rw[←List.sum_append,←List.map_append,List.take_append_drop]
   rw[aL,←Nat.add_assoc,Fa ab.1 h]
  ·have h: ¬g (nth a v) w<0:=by simpa using h
   rw[o3 (eR af) v0 hv]
   have:=Fb ab.1 ab.2 (ft▸h)
   refine⟨⟨by omega,by omega,by rw[ft];exact this.1,by rw[ft];exact this.2,ft⟩,by unfold su;omega⟩
theorem nz {n m T:Nat} {left:Int} {R:Prop} (ab:0≤left∧left≤1048576) (bu:T=n+m) (h: ¬dA n left<0→0≤dA n left∧dA n left≤1048576→R):
  ((decide (dA n left<0))=true→(-1)=dA T left)∧((!(decide (dA n left<0)))=true→R):=by
 refine⟨fun aL=> ?_,fun aL=> ?_⟩
 ·have aL:dA n left<0:=by simpa using aL
  rw[bu,Fa ab.1 aL]
 ·have aL: ¬dA n left<0:=by simpa using aL
  exact h aL (Fb ab.1 ab.2 aL)
theorem zf {α:Type} (l:List α):l.map b7=b7 l:=by
 show l.map (fun x=>x)=l
 simp
theorem zg {α:Type} (f:α→Nat) {x:α}: ∀{l:List α},x∈l→f x≤(l.map f).sum
 | [],h=>by cases h
 | y::l,h=>by
  rw[List.map_cons,List.sum_cons]
  rcases List.mem_cons.1 h with rfl | h
  ·omega
  ·have:=zg f h;omega
theorem oa {xs:List Int} {x:Int}:eK xs x=true↔x∈xs:=by unfold eK;simp
theorem L5 {xs:List Int} {x k:Int} (hk:k.toNat<xs.length) (h:(x==nth xs k)=true):eK xs x=true:=by
 rw[oa,show x=nth xs k by simpa using h];exact iL hk
theorem L3 {xs:List Int} {x:Int} (h: ∀j:Int,0≤j→j<xs.length→(x==nth xs j)=false):eK xs x=false:=by
 rw[←Bool.not_eq_true,oa]
 intro hm
 have:=kB (q:=fun y=>x==y) h x hm
 simp at this
theorem Nq (xs:List Int) (x:Int):(decide (mB xs x ≥ 0))=eK xs x:=by
 unfold mB
 cases h:first xs (fun y=>x==y) with
 | none=>
  unfold first at h
  rw[List.findIdx?_eq_none_iff] at h
  have:eK xs x=false:=by
   rw[←Bool.not_eq_true,oa]
   intro hm
   have:=h x hm
   simp at this
  rw[this];rfl
 | some i=>
  unfold first at h
  rw[List.findIdx?_eq_some_iff_getElem] at h
  obtain⟨hi,ab,_⟩:=h
  have:eK xs x=true:=by rw[oa,show x=xs[i] by simpa using ab];exact List.getElem_mem hi
  rw[this]
  show decide ((i:Int) ≥ 0)=true
  simp
theorem J0 {xs:List Int} {v:Int} (aA:0≤v) (hv:v.toNat<xs.length) (h:eK (xs.take v.toNat) (nth xs v)=true):dup xs=true:=by
 rw[oa] at h
 unfold dup
 simp only[Bool.not_eq_true',decide_eq_false_iff_not]
 intro af
 obtain⟨i,hi,he⟩:=List.mem_take_iff_getElem.1 h
 rw[jf hv] at he
 exact(List.pairwise_iff_getElem.1 af) i v.toNat (by omega) hv (by omega) he
theorem B5 {xs:List Int} (h: ∀j:Int,0≤j→j<xs.length→eK (xs.take j.toNat) (nth xs j)=false):dup xs=false:=by
 unfold dup
 simp only[Bool.not_eq_false',decide_eq_true_eq]
 unfold List.Nodup
 rw[List.pairwise_iff_getElem]
 intro i j hi O ay he
 have:=h j (by omega) (by omega)
 rw[←Bool.not_eq_true,oa,kt O] at this
 exact this (by rw[List.mem_take_iff_getElem];exact⟨i,by omega,he⟩)
theorem zX (x n:Int):(decide (x<0) || decide (x ≥ n))= !cr x 0 (n - 1):=by
 rw[Bool.eq_iff_iff]
 simp[cr]
 omega
theorem FB {α:Type} {l:List α} (k:Nat):decide ((l.length:Int)≤(k:Int))=decide (l.length≤k):=decide_eq_decide.2 (by omega)
theorem P6 {α:Type} [Inhabited α] {β:Type} [DecidableEq β] {l:List α} {f:α→β} (h: ∀i j:Int,0≤i→i<j→j<l.length→f (nth l i)≠f (nth l j)):(l.map f).Nodup:=by
 unfold List.Nodup
 rw[List.pairwise_iff_getElem]
 intro i j hi O ay
 simp only[List.length_map] at hi O
 rw[List.getElem_map,List.getElem_map]
 have:=h i j (by omega) (by omega) (by omega)
 rwa [kt hi,kt O] at this
theorem FI {α:Type} [Inhabited α] {β:Type} [DecidableEq β] {l:List α} {f:α→β} {i j:Int} (aA:0≤i) (h1:i<j) (h2:j<l.length) (he:f (nth l i)=f (nth l j)): ¬(l.map f).Nodup:=by
 intro af
 have:=(List.pairwise_iff_getElem.1 af) i.toNat j.toNat (by simp;omega) (by simp;omega) (by omega)
 rw[List.getElem_map,List.getElem_map,←jf (by omega),←jf (by omega)] at this
 exact this he
theorem map_id' {α:Type} (l:List α):l.map (fun x=>x)=l:=by simp
theorem p3 {l:List Int} {n:Int}:eY l n=true↔l.length≤30∧(∀x∈l,cr x 0 (n - 1)=true)∧l.Nodup:=by
 unfold eY;simp[and_assoc]
theorem Py {l:List Int} {n:Int} (h: ∀j:Int,0≤j→j<l.length→(!cr (nth l j) 0 (n - 1) || eK (l.take j.toNat) (nth l j))=false):eY l n=decide (l.length≤30):=by
 have h1: ∀x∈l,cr x 0 (n - 1)=true:=fun x hx=>by
  have:=kB (q:=fun x=> !cr x 0 (n - 1)) (fun j eX dZ=>(Bool.or_eq_false_iff.1 (h j eX dZ)).1) x hx
  simpa using this
 have h2:dup l=false:=B5 fun j eX dZ=>(Bool.or_eq_false_iff.1 (h j eX dZ)).2
 have h2:l.Nodup:=by unfold dup at h2;simpa using h2
 rw[Bool.eq_iff_iff,p3]
 simp only[decide_eq_true_eq]
 exact⟨fun h=>h.1,fun h=>⟨h,h1,h2⟩⟩
theorem Fe {l:List Int} {n:Int} {v:Int} (hv:v.toNat<l.length) (h:(!cr (nth l v) 0 (n - 1))=true):eY l n=false:=by
 rw[←Bool.not_eq_true,p3]
 intro aX
 have:=aX.2.1 _ (iL hv)
 simp[this] at h
theorem Px {l:List Int} {n:Int} {i j:Int} (aA:0≤i) (h1:i<j) (h2:j<l.length) (he:(nth l i==nth l j)=true):eY l n=false:=by
 rw[←Bool.not_eq_true,p3]
 intro aX
 have:=FI (f:=fun x=>x) aA h1 h2 (by simpa using he)
 rw[map_id'] at this
 exact this aX.2.2
theorem L4 {l:List Int} {v:Int} (aA:0≤v) (hv:v<l.length) (h: ∀j:Int,0≤j→j<v→(nth l j==nth l v)=false):eK (l.take v.toNat) (nth l v)=false:=by
 rw[←Bool.not_eq_true,oa]
 intro hm
 obtain⟨i,hi,he⟩:=List.mem_take_iff_getElem.1 hm
 have:=h i (by omega) (by omega)
 rw[kt (by omega),he] at this
 simp at this
theorem jX {p:aS} {l:List cm}:il p l=true↔l.length≤30∧(∀x∈l,(cr x.bE 0 (p.aR.length - 1)&&cr x.bZ 1 2)=true)∧(l.map (·.bE)).Nodup:=by
 unfold il;simp[and_assoc]
def kr (p:aS) (x:cm):Bool:=(!cr x.bE 0 (p.aR.length - 1)) || (!cr x.bZ 1 2)
theorem rW (p:aS) (x:cm):kr p x= !(cr x.bE 0 (p.aR.length - 1)&&cr x.bZ 1 2):=by unfold kr;rw[Bool.not_and]
def rX (l:List cm) (j:Int):Bool:=(l.take j.toNat).any fun y=>y.bE==(nth l j).bE
theorem Pv {p:aS} {l:List cm} (h: ∀j:Int,0≤j→j<l.length→(kr p (nth l j) || rX l j)=false):il p l=decide (l.length≤30):=by
 have h1: ∀x∈l,(cr x.bE 0 (p.aR.length - 1)&&cr x.bZ 1 2)=true:=fun x hx=>by
  have:=kB (q:=kr p) (fun j eX dZ=>(Bool.or_eq_false_iff.1 (h j eX dZ)).1) x hx
  rw[rW] at this
  simpa using this
 have h2:(l.map (·.bE)).Nodup   :=P6 fun i j aA h1 O=>by
  have:=(Bool.or_eq_false_iff.1 (h j (by omega) O)).2
  unfold rX at this
  rw[List.any_eq_false] at this
  have:=this (nth l i) (by rw[jf (by omega)];exact List.mem_take_iff_getElem.2 ⟨i.toNat,by omega,rfl⟩)
  simpa using this
 rw[Bool.eq_iff_iff,jX]
 simp only[decide_eq_true_eq]
 exact⟨fun h=>h.1,fun h=>⟨h,h1,h2⟩⟩
theorem Pw {p:aS} {l:List cm} {v:Int} (hv:v.toNat<l.length) (h:kr p (nth l v)=true):il p l=false:=by
 rw[←Bool.not_eq_true,jX]
 intro aX
 rw[rW,aX.2.1 _ (iL hv)] at h
 cases h
theorem Pu {p:aS} {l:List cm} {i j:Int} (aA:0≤i) (h1:i<j) (h2:j<l.length) (he:((nth l i).bE==(nth l j).bE)=true):il p l=false:=by
 rw[←Bool.not_eq_true,jX]
 exact fun aX=>FI (f:=fun x:cm=>x.bE) aA h1 h2 (by simpa using he) aX.2.2
theorem Pt {l:List cm} {v:Int} (aA:0≤v) (hv:v<l.length) (h: ∀j:Int,0≤j→j<v→((nth l j).bE==(nth l v).bE)=false):rX l v=false:=by
 unfold rX
 rw[List.any_eq_false]
 intro y ax
 obtain⟨i,hi,rfl⟩:=List.mem_take_iff_getElem.1 ax
 have:=h i (by omega) (by omega)
 rw[kt (by omega)] at this
 rw[this];simp
theorem PQ (a b:List Int):meets a b=meets b a:=by
 unfold meets
 rw[Bool.eq_iff_iff]
 simp only[List.any_eq_true,List.contains_iff_mem]
 exact⟨fun⟨x,h1,h2⟩=>⟨x,h2,h1⟩,fun⟨x,h1,h2⟩=>⟨x,h2,h1⟩⟩
theorem Fs (x:Int) (b:List Int):meets [x] b=b.contains x:=by unfold meets;simp
theorem mP {p:aS} {w:Way}:fq p w=true↔w.ae≠[]∧eY w.ae p.ae=true∧eY w.b8 p.ae=true∧eY w.ct p.ae=true∧il p w.bA=true∧il p w.ca=true∧
  ((cB w).map (·.bE)).Nodup∧(∀x∈w.bA,w.ae.contains (nth p.aR x.bE)=true)∧meets w.ae w.b8=false:=by
 unfold fq;simp[and_assoc]
theorem zl {w:Way}:((cB w).map (·.bE)).Nodup↔(w.bA.map (·.bE)).Nodup∧(w.ca.map (·.bE)).Nodup∧ ∀x∈w.bA,∀y∈w.ca,x.bE≠y.bE:=by
 unfold cB
 rw[List.map_append,List.nodup_append]
 simp only[List.mem_map]
 constructor
 ·rintro⟨h1,h2,ao⟩;exact⟨h1,h2,fun x hx y ax=>ao _ ⟨x,hx,rfl⟩ _ ⟨y,ax,rfl⟩⟩
 ·rintro⟨h1,h2,ao⟩
  refine⟨h1,h2,?_⟩
  rintro a ⟨x,hx,rfl⟩ b ⟨y,ax,rfl⟩
  exact ao x hx y ax
def hJ (p:aS):Bool:=cr p.ae 1 60&&cr p.dw 1 300&&decide (p.aR.length≤40)&&decide (p.U.length≤100)
theorem zw {p:aS} (h:hJ p=false):fo p=⟨1,0⟩:=by
 unfold fo;unfold hJ at h;rw[if_neg (by rw[h];simp)]
theorem zx {p:aS} (h:hJ p=true):fo p=qg p:=by
 unfold fo;unfold hJ at h;rw[if_pos h]
theorem F5 {p:aS} {k:Nat} (hb:hJ p=true) (h:first p.aR (fun s=> !cr s 0 (p.ae - 1))=some k):fo p=⟨2,k⟩:=by rw[zx hb];unfold qg;rw[h]
theorem F8 {p:aS} (hb:hJ p=true) (h:first p.aR (fun s=> !cr s 0 (p.ae - 1))=none):fo p=qh p:=by rw[zx hb];unfold qg;rw[h]
theorem F6 {p:aS} {k:Nat} (hb:hJ p=true) (h:first p.aR (fun s=> !cr s 0 (p.ae - 1))=none) (hw:first p.U (fun w=> !fq p w)=some k):fo p=⟨3,k⟩:=by rw[F8 hb h];unfold qh;rw[hw]
theorem F7 {p:aS} (hb:hJ p=true) (h:first p.aR (fun s=> !cr s 0 (p.ae - 1))=none) (hw:first p.U (fun w=> !fq p w)=none):fo p=kw p:=by rw[F8 hb h];unfold qh;rw[hw]
theorem F4 {p:aS} (h:p.a_.length≠p.U.length):kw p=⟨4,0⟩:=by unfold kw;rw[if_neg h]
theorem F2 {p:aS} {k:Nat} (h:p.a_.length=p.U.length) (hb:first p.a_ (fun b=>decide (b.length≠p.U.length))=some k):kw p=⟨4,k⟩:=by unfold kw;rw[if_pos h,hb]
theorem F3 {p:aS} {k:Nat} (h:p.a_.length=p.U.length) (hb:first p.a_ (fun b=>decide (b.length≠p.U.length))=none) (al:first (List.range p.U.length) (fun i=>(List.range p.U.length).any fun k=>ly p i k)=some k):kw p=⟨5,k⟩:=by
 unfold kw;rw[if_pos h,hb];simp only;rw[al]
theorem F1 {p:aS} (h:p.a_.length=p.U.length) (hb:first p.a_ (fun b=>decide (b.length≠p.U.length))=none) (al:first (List.range p.U.length) (fun i=>(List.range p.U.length).any fun k=>ly p i k)=none):kw p=⟨0,0⟩:=by
 unfold kw;rw[if_pos h,hb];simp only;rw[al]
theorem oK {p:aS}:hJ p=true↔(1≤p.ae∧p.ae≤60)∧(1≤p.dw∧p.dw≤300)∧p.aR.length≤40∧p.U.length≤100:=by
 unfold hJ cr;simp[and_assoc]
theorem Cx {n:Nat} {q:Nat→Bool} {v:Int} (aA:0≤v) (hv:v<n) (h: ∀j:Int,0≤j→j<v→q j.toNat=false) (al:q v.toNat=true):first (List.range n) q=some v.toNat:=by
 unfold first
 rw[List.findIdx?_eq_some_iff_getElem]
 refine⟨by simp;omega,by simpa using al,fun j O=> ?_⟩
 have:=h j (by omega) (by omega)
 simpa using this
theorem Cw {n:Nat} {q:Nat→Bool} (h: ∀j:Int,0≤j→j<n→q j.toNat=false):first (List.range n) q=none:=by
 unfold first
 rw[List.findIdx?_eq_none_iff]
 intro x hx
 have:=h x (by omega) (by have:=List.mem_range.1 hx;omega)
 simpa using this
theorem Bl {n:Nat} {q:Nat→Bool} {v:Int} (aA:0≤v) (hv:v<n) (h:q v.toNat=true):(List.range n).any q=true:=by
 rw[List.any_eq_true];exact⟨v.toNat,List.mem_range.2 (by omega),h⟩
theorem FA {n:Nat} {q:Nat→Bool} (h: ∀j:Int,0≤j→j<n→q j.toNat=false):(List.range n).any q=false:=by
 rw[List.any_eq_false]
 intro x hx
 have:=h x (by omega) (by have:=List.mem_range.1 hx;omega)
 simp only[Int.toNat_natCast] at this
 rw[this];simp
theorem Ps (p:aS) (x:cm):((decide (x.bE<0)) || ((decide (x.bE ≥ (p.aR.length:Int))) || ((x.bZ !=1)&&(x.bZ !=2))))=kr p x:=by
 unfold kr
 rw[←zX,Bool.or_assoc]
 congr 2
 rw[Bool.eq_iff_iff]
 simp[cr]
 omega
def k8 (p:aS) (w:Way) (j:Int):Bool:=kr p (nth (cB w) j) || (decide (j<(w.bA.length:Int))&& !(eK w.ae (nth p.aR (nth (cB w) j).bE)))
theorem FD {w:Way} {j:Int} (aA:0≤j) (h:j<w.bA.length):nth (cB w) j=nth w.bA j:=by
 rw[jf (xs:=w.bA) (by omega),jf (by unfold cB;rw[List.length_append];omega)]
 unfold cB
 rw[List.getElem_append_left]
theorem Lp {p:aS} {w:Way} (h:fq p w=true): ∀l∈[w.ae,w.b8,w.ct],eY l p.ae=true:=by
 obtain⟨-,h1,h2,ao,-⟩:=mP.1 h
 intro l ak
 simp only[List.mem_cons,List.not_mem_nil,or_false] at ak
 rcases ak with rfl | rfl | rfl
 ·exact h1
 ·exact h2
 ·exact ao
theorem Lq {p:aS} {w:Way} (h:fq p w=true) {j:Int} (aA:0≤j) (O:j.toNat<(cB w).length):k8 p w j=false:=by
 obtain⟨-,-,-,-,a8,cw,-,cZ,-⟩:=mP.1 h
 have hm:=iL O
 have hb:kr p (nth (cB w) j)=false:=by
  rw[rW]
  unfold cB at hm ⊢
  rcases List.mem_append.1 hm with hm | hm
  ·rw[(jX.1 a8).2.1 _ hm];rfl
  ·rw[(jX.1 cw).2.1 _ hm];rfl
 unfold k8
 rw[hb,Bool.false_or]
 by_cases ak:j<(w.bA.length:Int)
 ·rw[FD aA ak]
  have:eK w.ae (nth p.aR (nth w.bA j).bE)=true:=cZ _ (iL (by omega))
  rw[this];simp
 ·simp[ak]
theorem Lo {p:aS} {w:Way} (h1:w.ae≠[]) (ak: ∀l∈[w.ae,w.b8,w.ct],eY l p.ae=true) (ao:w.bA.length≤30) (a8:w.ca.length≤30)
  (af: ∀j:Int,0≤j→j<(cB w).length→k8 p w j=false):((!(dup ((cB w).map (·.bE))))&&(!(meets w.ae w.b8)))=fq p w:=by
 have hb: ∀x∈cB w,(cr x.bE 0 (p.aR.length - 1)&&cr x.bZ 1 2)=true:=fun x hx=>by
  have:=kB (q:=kr p) (fun j eX dZ=>by have:=af j eX dZ;unfold k8 at this;exact(Bool.or_eq_false_iff.1 this).1) x hx
  rw[rW] at this
  simpa using this
 have hc: ∀x∈w.bA,w.ae.contains (nth p.aR x.bE)=true:=fun x hx=>by
  have:=kB (q:=fun x=> !(eK w.ae (nth p.aR x.bE))) (fun j eX dZ=>by
   have:=af j eX (by unfold cB;rw[List.length_append];omega)
   unfold k8 at this
   have:=(Bool.or_eq_false_iff.1 this).2
   rw[FD eX dZ] at this
   simpa[dZ] using this) x hx
  simp only[Bool.not_eq_false'] at this
  exact this
 rw[Bool.eq_iff_iff,mP]
 simp only[Bool.and_eq_true,Bool.not_eq_true',dup,Bool.not_eq_false',decide_eq_true_eq]
 constructor
 ·rintro⟨aL,hm⟩
  have m7:=zl.1 aL
  exact⟨h1,ak _ (by simp),ak _ (by simp),ak _ (by simp),jX.2 ⟨ao,fun x hx=>hb x (by unfold cB;exact List.mem_append_left _ hx),m7.1⟩,jX.2 ⟨a8,fun x hx=>hb x (by unfold cB;exact List.mem_append_right _ hx),m7.2.1⟩,aL,hc,hm⟩
 ·rintro⟨-,-,-,-,-,-,aL,-,hm⟩
  exact⟨aL,hm⟩
theorem Bt {p:aS} {i k:Int} (aA:0≤i) (h1:0≤k):(((nth (nth p.a_ i) k) !=(nth (nth p.a_ k) i)) || ((i !=k)&&((!(nth (nth p.a_ i) k))&&(meets (nth p.U i).ae (nth p.U k).ae))))=ly p i.toNat k.toNat:=by
 unfold ly s7
 rw[Int.toNat_of_nonneg aA,Int.toNat_of_nonneg h1]
 have:(i !=k)=decide (i.toNat≠k.toNat):=by
  rw[Bool.eq_iff_iff];simp;omega
 rw[this,Bool.and_assoc]
theorem Qz (p:aS):((fo p).code==0)=e1 p:=by
 have key:(fo p).code=0→(fo p).pos=0:=by
  unfold fo qg qh kw
  split
  ·split
   ·intro h;cases h
   ·split
    ·intro h;cases h
    ·split
     ·split
      ·intro h;cases h
      ·split
       ·intro h;cases h
       ·intro _;rfl
     ·intro h;cases h
  ·intro h;cases h
 unfold e1
 rw[Bool.eq_iff_iff]
 simp only[beq_iff_eq,decide_eq_true_eq]
 constructor
 ·intro h
  have:=key h
  cases al:fo p with
  | mk c q=>rw[al] at h this;simp at h this;rw[h,this]
 ·intro h;rw[h]
theorem Qy (p:aS):((fo p).code==0&&(fo p).pos==0)=e1 p:=by
 unfold e1
 rw[Bool.eq_iff_iff]
 simp only[Bool.and_eq_true,beq_iff_eq,decide_eq_true_eq]
 constructor
 ·rintro⟨h1,h2⟩
  cases al:fo p with
  | mk c q=>rw[al] at h1 h2;simp at h1 h2;rw[h1,h2]
 ·intro h;rw[h];exact⟨rfl,rfl⟩
theorem Qw {p:aS} (h:e1 p=true):hJ p=true:=by
 cases hb:hJ p with
 | true=>rfl
 | false=>unfold e1 at h;rw[zw hb] at h;simp at h
structure wh (p:aS):Prop where
 vj:0≤p.ae∧p.ae≤60
 U:p.U.length≤100
 bE:p.aR.length≤40
 ae: ∀w∈p.U,w.ae≠[]∧w.ae.length≤30∧ ∀x∈w.ae,0≤x∧x<p.ae
 b8: ∀w∈p.U,w.b8.length≤30∧ ∀x∈w.b8,0≤x∧x<p.ae
 ct: ∀w∈p.U,w.ct.length≤30∧ ∀x∈w.ct,0≤x∧x<p.ae
 bA: ∀w∈p.U,w.bA.length≤30∧w.ca.length≤30∧ ∀x∈cB w,0≤x.bE∧x.bE<p.aR.length
 aR: ∀x∈p.aR,0≤x∧x<p.ae
structure l6 (p:aS) (f:Frame):Prop where
 bM:(f.bM.length:Int)=p.ae
 bP:f.bP.length=p.aR.length
 U:f.U.length=p.U.length
 aF: ∀(i:Nat) (h:aI) (w:Way),f.U[i]?=some h→p.U[i]?=some w→h.aF.length=w.ae.length
 cT: ∀h∈f.U,0≤h.cT∧h.cT≤h.aF.length
def jT (n:Nat):aI:=⟨0,0,List.replicate n false,false,0⟩
def bb (p:aS) (i:Int):aI:=jT (nth p.U i).ae.length
def DJ (p:aS) (i:Int):Prop:=wh p∧0≤i∧i<p.U.length
structure dN (V:List aI) (ids:List Nat) (v:Int) (h:aI) (ws:List aI) (bs:List (List Bool)):Prop where
 ok:lk ws ids bs
 iK: ∀i j k:Nat,ids[i]?=some k→ids[j]?=some k→i=j
 lt:v.toNat<ws.length
 jj:view ws ids bs=V.set v.toNat h
 len: ∀b∈bs,b.length≤1048576
section
variable {V:List aI} {ids:List Nat} {v:Int} {h:aI} {ws:List aI} {bs:List (List Bool)}
theorem dN.vJ (F:dN V ids v h ws bs):V.length=ws.length:=by
 have:=congrArg List.length F.jj
 rw[kD F.ok,List.length_set] at this;exact this.symm
theorem dN.id (F:dN V ids v h ws bs):ids[v.toNat]?=some (nth ids v):=hG (by rw[←F.ok.len];exact F.lt)
theorem dN.uw (F:dN V ids v h ws bs):nth ids v<bs.length:=F.ok.lt _ _ F.id
theorem dN.row (F:dN V ids v h ws bs):h={nth ws v with aF:=bs.getD (nth ids v) []}:=by
 have h1:=o1 (bs:=bs) (hG F.lt) F.id
 rw[F.jj,List.getElem?_set_self (by rw[F.vJ];exact F.lt)] at h1
 exact Option.some.inj h1
theorem dN.dW (F:dN V ids v h ws bs):(nth ws v).dW=h.dW:=by rw[F.row]
theorem dN.cT (F:dN V ids v h ws bs):(nth ws v).cT=h.cT:=by rw[F.row]
theorem dN.dV (F:dN V ids v h ws bs):(nth ws v).dV=h.dV:=by rw[F.row]
theorem dN.dX (F:dN V ids v h ws bs):(nth ws v).dX=h.dX:=by rw[F.row]
theorem dN.aF (F:dN V ids v h ws bs):bs.getD (nth ids v) []=h.aF:=by rw[F.row]
theorem dN.IX (F:dN V ids v h ws bs):(nth ws v).aF.length=h.aF.length:=by
 rw[←F.aF];exact F.ok.aF _ _ _ (hG F.lt) F.id
theorem dN.start (ok:lk ws ids bs) (iK: ∀i j k:Nat,ids[i]?=some k→ids[j]?=some k→i=j) (lt:v.toNat<ws.length) (jj:view ws ids bs=V) (len: ∀b∈bs,b.length≤1048576):dN V ids v (nth V v) ws bs:=by
 have ak:v.toNat<V.length:=by rw[←jj,kD ok];exact lt
 exact⟨ok,iK,lt,by rw[jj,jf ak];exact(List.set_getElem_self _).symm,len⟩
theorem dN.GY (F:dN V ids v h ws bs) (x:aI) (hx:x.aF.length=h.aF.length):dN V ids v {x with aF:=h.aF} (ws.set v.toNat x) bs where
 ok:=⟨by rw[List.length_set];exact F.ok.len,F.ok.lt,fun i id y h1 h2=>by
  rw[List.getElem?_set] at h1
  split at h1
  ·rename_i e;subst e
   rw[if_pos F.lt] at h1;cases h1
   rw[F.id] at h2;cases h2
   rw[hx,F.aF]
  ·exact F.ok.aF i id y h1 h2⟩
 iK:=F.iK
 lt:=by rw[List.length_set];exact F.lt
 jj:=by
  apply List.ext_getElem?
  intro j
  have O:=congrArg (·[j]?) F.jj
  simp only[view,List.getElem?_zipWith,List.getElem?_set] at O ⊢
  by_cases e:v.toNat=j
  ·subst e
   have hv:=F.vJ
   have:=F.lt
   rw[if_pos rfl,if_pos rfl,if_pos this,if_pos (by omega),F.id]
   show some _=some _
   rw[F.aF]
  ·rw[if_neg e] at O ⊢
   rw[if_neg e];exact O
 len:=F.len
theorem dN.Q_ (F:dN V ids v h ws bs) (b:List Bool) (hb:b.length=h.aF.length):dN V ids v {h with aF:=b} ws (bs.set (nth ids v) b) where
 ok:=⟨F.ok.len,fun i id hi=>by rw[List.length_set];exact F.ok.lt i id hi,fun i id y h1 h2=>by
  rw[F.ok.aF i id y h1 h2,List.getD_eq_getElem?_getD,List.getD_eq_getElem?_getD,List.getElem?_set]
  split
  ·rename_i e;subst e
   rw[if_pos F.uw,←List.getD_eq_getElem?_getD,F.aF];exact hb.symm
  ·rfl⟩
 iK:=F.iK
 lt:=F.lt
 jj:=by
  apply List.ext_getElem?
  intro j
  have O:=congrArg (·[j]?) F.jj
  simp only[view,List.getElem?_zipWith,List.getElem?_set] at O ⊢
  by_cases e:v.toNat=j
  ·subst e
   have hv:=F.vJ
   have:=F.lt
   rw[if_pos rfl,if_pos (by omega),F.id,hG F.lt]
   simp only[List.getD_eq_getElem?_getD,List.getElem?_set,if_pos F.uw]
   rw[F.row];simp
  ·rw[if_neg e] at O ⊢
   rw[←O]
   cases h1:ws[j]? with
   | none=>rfl
   | some y=>
    cases h2:ids[j]? with
    | none=>rfl
    | some id=>
     have bV:nth ids v≠id:=fun hid=>by
      have ao:=F.id
      rw[hid] at ao
      exact e (F.iK _ _ _ ao h2)
     simp only[List.getD_eq_getElem?_getD,List.getElem?_set,if_neg bV]
 len:=fun x hx=>by
  rcases List.mem_or_eq_of_mem_set hx with hx | rfl
  ·exact F.len x hx
  ·rw[hb,←F.aF,List.getD_eq_getElem?_getD,List.getElem?_eq_getElem F.uw];exact F.len _ (List.getElem_mem F.uw)
theorem dN.new (F:dN V ids v h ws bs) (x:aI) (hx:x.aF.length≤1048576):dN V (ids.set v.toNat bs.length) v x (ws.set v.toNat x) (bs++[x.aF]) where
 ok:=⟨by rw[List.length_set,List.length_set];exact F.ok.len,fun i id hi=>by
   rw[List.getElem?_set] at hi
   rw[List.length_append,List.length_singleton]
   split at hi
   ·split at hi
    ·cases hi;omega
    ·cases hi
   ·have:=F.ok.lt i id hi;omega,fun i id y h1 h2=>by
   rw[List.getElem?_set] at h1 h2
   split at h1
   ·rename_i e;subst e
    have:=F.ok.len
    have:=F.lt
    rw[if_pos F.lt] at h1;rw[if_pos rfl,if_pos (by omega)] at h2
    cases h1;cases h2;simp
   ·rename_i e
    rw[if_neg e] at h2
    rw[F.ok.aF i id y h1 h2,List.getD_eq_getElem?_getD,List.getD_eq_getElem?_getD,List.getElem?_append_left (F.ok.lt i id h2)]⟩
 iK:=fun i j k hi O=>by
  rw[List.getElem?_set] at hi O
  have ay: ∀q,ids[q]?≠some bs.length:=fun q al=>by have:=F.ok.lt q _ al;omega
  split at hi
  ·rename_i e;subst e
   split at hi
   ·cases hi
    split at O
    ·rename_i e;exact e
    ·exact absurd O (ay j)
   ·cases hi
  ·split at O
   ·rename_i e;subst e
    split at O
    ·cases O;exact absurd hi (ay i)
    ·cases O
   ·exact F.iK i j k hi O
 lt:=by rw[List.length_set];exact F.lt
 jj:=by
  apply List.ext_getElem?
  intro j
  have O:=congrArg (·[j]?) F.jj
  simp only[view,List.getElem?_zipWith,List.getElem?_set] at O ⊢
  by_cases e:v.toNat=j
  ·subst e
   have hv:=F.vJ
   have:=F.lt
   have:=F.ok.len
   rw[if_pos rfl,if_pos rfl,if_pos rfl,if_pos F.lt,if_pos (by omega),if_pos (by omega)]
   simp
  ·rw[if_neg e] at O ⊢
   rw[if_neg e,if_neg e,←O]
   cases h1:ws[j]? with
   | none=>rfl
   | some y=>
    cases h2:ids[j]? with
    | none=>rfl
    | some id=>
     simp only
     rw[List.getD_eq_getElem?_getD,List.getD_eq_getElem?_getD,List.getElem?_append_left (F.ok.lt j id h2)]
 len:=fun b hb=>by
  rcases List.mem_append.1 hb with hb | hb
  ·exact F.len b hb
  ·rw[List.mem_singleton.1 hb];exact hx
end
theorem Cm (ws:List aI):lk ws (List.range ws.length) (ws.map aI.aF)∧(∀i j k:Nat,(List.range ws.length)[i]?=some k→(List.range ws.length)[j]?=some k→i=j)∧view ws (List.range ws.length) (ws.map aI.aF)=ws:=by
 refine⟨⟨by simp,fun i id h=> ?_,fun i id h h1 h2=> ?_⟩,fun i j k h1 h2=> ?_,?_⟩
 ·obtain⟨hi,rfl⟩:=List.getElem?_eq_some_iff.1 h
  simpa using hi
 ·obtain⟨hi,rfl⟩:=List.getElem?_eq_some_iff.1 h2
  simp[h1]
 ·obtain⟨hi,rfl⟩:=List.getElem?_eq_some_iff.1 h1
  obtain⟨O,e⟩:=List.getElem?_eq_some_iff.1 h2
  simpa using e.symm
 ·apply List.ext_getElem?
  intro j
  unfold view
  rw[List.getElem?_zipWith]
  rcases Nat.lt_or_ge j ws.length with O | O
  ·rw[List.getElem?_range O,List.getElem?_eq_getElem O]
   simp[O]
  ·rw[List.getElem?_eq_none O]
def vj (p:aS) (v:Int):List Int:=(nth p.U v).ae
theorem jx.wx {w:List aI} {i:List Nat} {b:List (List Bool)} {j:Int} (F:jx w i b) (h:j.toNat<w.length):dN (view w i b) i j (nth (view w i b) j) w b:=dN.start F.ok F.iK h rfl F.len
section
variable {V:List aI} {ids b6:List Nat} {v:Int} {h x:aI} {ws AL:List aI} {bs wI:List (List Bool)}
theorem dN.G (F:dN V ids v h ws bs):jx ws ids bs:=⟨F.ok,F.iK,F.len⟩
theorem dN.again (F:dN V ids v h ws bs) (G:jx AL b6 wI) (e:view AL b6 wI=(view ws ids bs).set v.toNat x):dN V b6 v x AL wI where
 ok:=G.ok
 iK:=G.iK
 lt:=by
  have:=congrArg List.length e
  rw[kD G.ok,List.length_set,kD F.ok] at this
  have:=F.lt;omega
 jj:=by rw[e,F.jj,List.set_set]
 len:=G.len
end
def kI:List (Nat×TV)→Bool
 | []=>true
 | (k,_)::r=>match Nat.ble 1000010 k&&Nat.blt k 1000000000000 with
  | true=>kI r
  | false=>false
theorem s9 {l:List (Nat×TV)} (h:kI l=true) {k:Nat} (hk:k<1000010∨1000000000000≤k): ∀v,(k,v) ∉ l:=by
 induction l with
 | nil=>intro v hv;cases hv
 | cons p r aT=>
  obtain⟨a,w⟩:=p
  unfold kI at h
  split at h
  ·rename_i ai
   rw[Bool.and_eq_true,Nat.blt_eq] at ai
   intro v hv
   rcases List.mem_cons.1 hv with e | hv
   ·cases e;have:=Nat.le_of_ble_eq_true ai.1;have:=ai.2;omega
   ·exact aT h v hv
  ·cases h
def TS.add (s:TS) (l:List (Nat×TV)) (vs:List (Nat×Nat)) (aB:Nat):TS:=⟨l++s.T,s.B,vs,aB⟩
theorem TS.fJ (s:TS) (l:List (Nat×TV)) (vs:List (Nat×Nat)) (aB k:Nat):(s.add l vs aB).get k=eS l k (s.get k):=by
 unfold TS.get TS.add;exact oz ..
theorem qX {n:Nat} {s:TS} {l:List (Nat×TV)} {vs:List (Nat×Nat)} {aB:Nat} (af:n≤1000000) (h:kI l=true):(s.add l vs aB).tT n=s.tT n:=by
 show(List.range n).map _=(List.range n).map _
 refine List.map_congr_left fun t aC=> ?_
 have aC:t<n:=List.mem_range.1 aC
 rw[TS.fJ,ni (s9 h (.inl (by omega)))]
theorem uR {s s':TS} (e:s'.get ch=s.get ch):fW s'=fW s:=by unfold fW;rw[e]
theorem Aq [FZ] {n:Nat} {s s':TS} (hb:s'.aB=s.aB) (e: ∀b,s'.get (bc b)=s.get (bc b)) (bf:s'.get ch=s.get ch):(s'.ac n).H=(s.ac n).H:=by
 show s'.ei++eW s'=s.ei++eW s
 unfold TS.ei eW
 rw[uR bf,hb]
 simp only[e]
theorem qW [FZ] {n:Nat} {s:TS} {l:List (Nat×TV)} {vs:List (Nat×Nat)} (h:kI l=true):((s.add l vs s.aB).ac n).H=(s.ac n).H:=
 Aq rfl (fun b=>by rw[TS.fJ,ni (s9 h (.inr (by unfold bc;omega)))]) (by rw[TS.fJ,ni (s9 h (.inl (by unfold ch;omega)))])
theorem qY [FZ] {s:TS} {l:List (Nat×TV)} {vs:List (Nat×Nat)} {aB:Nat} (h:kI l=true) (f:Fits s):Fits (s.add l vs aB):=
 f.congr fun k _ h2=>by rw[TS.fJ,ni (s9 h (.inl h2))]
def nZ (v:Nat):Nat→List TV→List (Nat×TV)
 | _,[]=>[]
 | c,a::r=>(iJ v c,a)::nZ v (c+1) r
def TS.eD (s:TS) (b aB:Nat) (v:TV):TS:=s.add [(bc b,v)] s.vs aB
theorem wF (s:TS) {b aB:Nat} {v:TV} {k:Nat} (h:k<1000000000000):(s.eD b aB v).get k=s.get k:=by
 unfold TS.eD
 rw[TS.fJ,eZ,if_neg (by unfold bc;omega)];rfl
theorem lz {n:Nat} {s:TS} {b aB:Nat} {v:TV} (af:n≤1000000):(s.eD b aB v).tT n=s.tT n:=by
 show(List.range n).map _=(List.range n).map _
 refine List.map_congr_left fun t aC=> ?_
 have aC:t<n:=List.mem_range.1 aC
 rw[wF s (by omega)]
theorem lA [FZ] {s:TS} {b aB:Nat} {v:TV} (f:Fits s):Fits (s.eD b aB v):=f.congr fun k _ h2=>wF s (by omega)
theorem Bz {s:TS} {b aB:Nat} {v:TV}:fW (s.eD b aB v)=fW s:=uR (wF s (by unfold ch;omega))
theorem By (s:TS) (b aB:Nat) (v:TV) (bC:Nat):(s.eD b aB v).get (bc bC)=if b=bC then v else s.get (bc bC):=by
 unfold TS.eD
 rw[TS.fJ,eZ]
 by_cases h:b=bC
 ·subst h;rw[if_pos rfl,if_pos rfl]
 ·rw[if_neg h,if_neg (by unfold bc;omega)];rfl
theorem pj [FZ] {n:Nat} {s:TS} {b:Nat} {v:TV} (h:b<s.aB):((s.eD b s.aB v).ac n).H=(s.ac n).H.set b v.dv:=by
 show(s.eD b s.aB v).ei++eW (s.eD b s.aB v)=(s.ei++eW s).set b v.dv
 rw[List.set_append_left _ _ (by rw[ji];exact h)]
 have e2:eW (s.eD b s.aB v)=eW s:=by unfold eW;rw[Bz]
 rw[e2]
 congr 1
 apply List.ext_getElem?
 intro i
 rw[lf,List.getElem?_set,lf,ji,By]
 show(if i<s.aB then _ else _)=_
 by_cases hi:b=i
 ·subst hi;simp[h]
 ·simp[hi]
theorem tb [FZ] {n:Nat} {s:TS} {v:TV} (eJ:fW s=true):((s.eD s.aB (s.aB+1) v).ac n).H=(s.ac n).H++[v.dv]:=by
 show(s.eD s.aB (s.aB+1) v).ei++eW (s.eD s.aB (s.aB+1) v)=(s.ei++eW s)++[v.dv]
 unfold eW
 rw[Bz,eJ]
 show(s.eD s.aB (s.aB+1) v).ei++[]=(s.ei++[])++[v.dv]
 rw[List.append_nil,List.append_nil]
 apply List.ext_getElem?
 intro i
 rw[lf,By]
 show(if i<s.aB+1 then _ else _)=_
 rcases Nat.lt_trichotomy i s.aB with h | h | h
 ·rw[if_pos (by omega),if_neg (by omega),List.getElem?_append_left (by rw[ji];exact h),lf,if_pos h]
 ·subst h
  rw[if_pos (by omega),if_pos rfl,List.getElem?_append_right (by rw[ji];exact Nat.le_refl _),ji];simp
 ·rw[if_neg (by omega),List.getElem?_eq_none (by rw[List.length_append,ji];simp;omega)]
def oV (P:Program) (t:TypeId) (v:AV):Bool:=(P.info? t).isSome&&Nat.beq (c8 v).length (P.cellsOf t)&&(c8 v).all fY
theorem vu {P:Program} {t:TypeId} {v:AV} (h:oV P t v=true):(P.info? t).isSome=true∧(c8 v).length=P.cellsOf t∧(c8 v).all fY=true:=by
 simp only[oV,Bool.and_eq_true] at h
 exact⟨h.1.1,Nat.eq_of_beq_eq_true h.1.2,h.2⟩
def Ar (P:Program) (n:Nat) (t:TypeId) (b g:Nat) (i:Int) (m c:Nat) (v:TV) (s:TS) (K:TS→aj):aj:=match qa v with
 | false=> .no
 | true=>mc s b g fun e xs dg h=>ra s e.a6 ((gd true e (ns e xs i)).take c++lD v++(gd true e (ns e xs i)).drop (c+(lD v).length)) fun l4 _=>
  let y:=e.mk l4
  let s':=s.eD b s.aB (.blk g e (xs.set i.toNat y) dg (by rw[List.length_set];exact h))
  .eq dg m (.eq (oV P t v.aH) true (.eq (Nat.ble (c+(c8 v.aH).length) e.im) true (.eq (fF (bD true e (ns e xs i)) c (c8 v.aH)) (bD true e y) (.eq s'.bw s.bw (.p (i.toNat<m) (K s'))))))
def uL (P:Program) (t:TypeId):Option (List AV×Nat):=match fU P t with
 | some e=>(match jk P e with
  | some z=>(match Nat.beq z.length (P.cellsOf e)&&z.all fY with
   | true=>some (z.map iN,P.bytesOf e)
   | false=>none)
  | none=>none)
 | none=>none
theorem Fu {P:Program} {t:TypeId} {HZ:List AV} {B:Nat} (h:uL P t=some (HZ,B)): ∃e z,fU P t=some e∧jk P e=some z∧z.length=P.cellsOf e∧z.all fY=true∧HZ=z.map iN∧B=P.bytesOf e:=by
 unfold uL at h
 split at h
 ·rename_i e he
  split at h
  ·rename_i z an
   split at h
   ·rename_i hc
    simp only[Bool.and_eq_true] at hc
    cases h
    exact⟨e,z,he,an,Nat.eq_of_beq_eq_true hc.1,hc.2,rfl,rfl⟩
   ·cases h
  ·cases h
 ·cases h
def lF (P:Program) (t:TypeId):Nat:=match fU P t with
 | some e=>P.bytesOf e
 | none=>0
def Ll (e:aq) (c:List TV):e.T:=match e.isS with
 | true=>e.mk (kR e.a6 c)
 | false=>xN e (c.getD 0 .u)
def zj (P:Program) (n:Nat) (t:TypeId) (e:aq) (l c:TV) (s:TS) (K:TV→TS→aj):aj:=match l with
 | .i _ l=>(match c with
  | .i _ c=>
   let bL:=Ll e (match fU P t with
    | some jw=>sy P jw
    | none=>[])
   let xs:=List.replicate l.toNat bL
   let s':=s.eD s.aB (s.aB+1) (.blk 0 e xs xs.length rfl)
   .eq (uL P t) (some (bD true e bL,lF P t)) (.eq l c (.eq s'.bw s.bw (.eq (fW s) true (.p (0≤l∧(lF P t:Int)*l≤140737488355328∧l≤4611686018427387904) (K (.ref s.aB 0 xs.length false) s')))))
  | _=> .no)
 | _=> .no
def s3 (P:Program) (t t2:TypeId) (x:AV):Option (Nat×Nat):=match fU P t with
 | some e=>(match jk P e with
  | some z=>(match Nat.beq z.length (P.cellsOf e)&&Nat.blt 0 z.length&&nU P e t2 x with
   | true=>some (z.length,P.bytesOf e)
   | false=>none)
  | none=>none)
 | none=>none
theorem Bn {P:Program} {t t2:TypeId} {x:AV} {m B:Nat} (h:s3 P t t2 x=some (m,B)): ∃e z,fU P t=some e∧jk P e=some z∧(z.length=P.cellsOf e∧0<z.length∧nU P e t2 x=true)∧m=z.length∧B=P.bytesOf e:=by
 unfold s3 at h
 split at h
 ·rename_i e he
  split at h
  ·rename_i z an
   split at h
   ·rename_i hc
    simp only[Bool.and_eq_true] at hc
    cases h
    exact⟨e,z,he,an,⟨Nat.eq_of_beq_eq_true hc.1.1,by rw[←Nat.blt_eq];exact hc.1.2,hc.2⟩,rfl,rfl⟩
   ·cases h
  ·cases h
 ·cases h
def aq.flat:aq→Bool
 | .int | .u64 | .u8 | .bool | .str | .bZ | .jL | .eu | .fault=>true
 | _=>false
theorem KE {e:aq} (h:e.flat=true) (x:e.T):bD false e x=bD true e x:=by cases e<;>first | rfl | cases h
theorem QP (e:aq) (x:e.T):(bD false e x).map ky=bD true e x:=by
 rw[←jo,←jo]
 have key: ∀(es:List aq) (y:bR es),(fL false es y).map ky=fL true es y:=by
  intro es
  induction es with
  | nil=>intro y;rfl
  | cons e r aT=>
   intro y
   show ky (gf false e y.1)::(fL false r y.2).map ky=_
   rw[aT,fL]
   congr 1
   cases e<;>rfl
 exact key _ _
theorem Gx {e:aq} {fr:Bool} (h:(fr || e.flat)=true) (xs:List e.T):kz fr (xs.map (bD false e))=xs.map (bD true e):=by
 cases fr with
 | true=>
  show(xs.map (bD false e)).map (fun row=>row.map ky)=_
  rw[List.map_map]
  exact List.map_congr_left fun x _=>QP e x
 | false=>exact List.map_congr_left fun x _=>KE h x
def ww (P:Program) (n:Nat) (t t2:TypeId) (v x:TV) (s:TS) (K:TV→TS→aj):aj:=match x with
 | .l e ys gg fr=>(match(fr || e.flat)&&e.ku with
  | false=> .no
  | true=>(match v with
   | .nil full _=>(match full with
    | true=>
     let s':=s.eD s.aB (s.aB+1) (.blk 0 e ys ys.length rfl)
     .eq (s3 P t t2 (TV.l e ys gg fr).aH) (some (e.im,lF P t)) (.eq s'.bw s.bw (.eq (fW s) true (.p (ys.length*lF P t≤140737488355328∧ys.length≤4611686018427387904) (K (.ref s.aB 0 ys.length false) s'))))
    | false=> .no)
   | .ref b g m _=>mc s b g fun bf xs dg h=>if he:e=bf then
     let fA:=xs++ig he ys
     let s':=s.eD b s.aB (.blk (g+1) bf fA fA.length rfl)
     .eq dg m (.eq (s3 P t t2 (TV.l e ys gg fr).aH) (some (e.im,lF P t)) (.eq s'.bw s.bw (.p ((xs.length+ys.length)*lF P t≤140737488355328∧xs.length+ys.length≤4611686018427387904) (K (.ref b (g+1) fA.length false) s'))))
    else .no
   | _=> .no))
 | _=> .no
section
variable {P:Program} (cf:e7 P) (s:TS)
def rk (o:Oper) (v:TV) (l:List (Nat×TV)) (vs:List (Nat×Nat)) (K:TV→TS→aj):aj:=match kI l with
 | true=> .eq (fun H Q=>gL P [] o (fun x=>(bI cf.n s x).aH) s.bw H Q) (fun H Q=>Q v.aH (s.add l vs s.aB).bw H) (K v (s.add l vs s.aB))
 | false=> .no
end
section
variable {P:Program} {cf:e7 P} {s:TS} {R:Exit→TS→Prop}
variable {K:TV→TS→aj} {Kp:AV→List (Nat×List AV)→List Blk→Prop}
theorem uX {b:Bool} {x:Prop} (h:b=true) (k:x):cQ b x:=by subst h;exact k
end
section
variable {P:Program} {cf:e7 P} {s:TS} {R:Exit→TS→Prop}
variable {K:TV→TS→aj} {Kp:AV→List (Nat×List AV)→List Blk→Prop}
theorem I1 {t:TypeId} {m:Nat} {parts:List (Nat×AV)} {L:List (Nat×List AV)} {H:List Blk} {d:Option Nat} (h:pq P t m parts fun r=>Kp r L H):nW P (n6 [] d) (oQ []) t m parts L H Kp:=by
 obtain⟨e,he,h⟩:=dp h
 obtain⟨z,an,h⟩:=dp h
 refine dq he (dq an ?_)
 split at h
 ·rename_i hc
  rw[if_pos hc]
  obtain⟨cells,hf,h⟩:=dp h
  refine dq hf ?_
  split at h
  ·rename_i hb
   have:n6 [] d=false:=by cases d<;>rfl
   rw[this]
   show if cells.all gb=true then _ else _
   rw[if_pos hb];exact h
  ·exact h.elim
 ·exact h.elim
end
section
variable {P:Program} {cf:e7 P} {s:TS} {R:Exit→TS→Prop}
variable {K:TV→TS→aj} {Kp:AV→List (Nat×List AV)→List Blk→Prop}
theorem Gt {o:Oper} {aN:Operand→AV} {L:List (Nat×List AV)} {H:List Blk} (h:gp P o aN L H fun r=>Kp r L H) (hc: ∀c,o.op≠ .call c) (hb: ∀t m ps,o.op≠ .buildSlice t m ps):gL P [] o aN L H Kp:=by
 have h':=tE h
 obtain⟨dst,op,ty,pos,after,guard⟩:=o
 cases op<;>first | exact h' | exact h'.elim | exact absurd rfl (hc _) | exact absurd rfl (hb _ _ _)
end
section
variable {P:Program} {cf:e7 P} {s:TS} {R:Exit→TS→Prop}
variable {K:TV→TS→aj} {Kp:AV→List (Nat×List AV)→List Blk→Prop}
theorem zQ {o:Oper} {c:Call} {aN:Operand→AV} {L:List (Nat×List AV)} {H:List Blk} (br:o.op= .call c) (h:gp P o aN L H fun r=>Kp r L H):gL P [] o aN L H Kp:=by
 have h':=tE h
 obtain⟨dst,op,ty,pos,after,guard⟩:=o
 cases br
 obtain⟨callee,args,argTypes⟩:=c
 cases callee with
 | builtin b=>
  cases b with
  | len=>exact h'
  | _=>exact h'.elim
 | value f=>
  have h':ie (aN f) fun g caps=>kK P g (args.toList.map aN++caps) L H fun r=>Kp r L H:=h'
  show ie (aN f) fun g caps=>iA P g (args.toList.map aN++caps) L H Kp
  cases hf:aN f with
  | fn g caps=>rw[hf] at h';exact .inl h'
  | _=>rw[hf] at h';exact h'.elim
 | _=>exact h'.elim
end
section
variable {P:Program} {cf:e7 P} {s:TS} {R:Exit→TS→Prop}
variable {K:TV→TS→aj} {Kp:AV→List (Nat×List AV)→List Blk→Prop}
theorem QM {o:Oper} {t:TypeId} {m:Nat} {ps:Array (Nat×Operand)} {aN:Operand→AV} {L:List (Nat×List AV)} {H:List Blk} (br:o.op= .buildSlice t m ps) (h:gp P o aN L H fun r=>Kp r L H):gL P [] o aN L H Kp:=by
 have h':=tE h
 obtain⟨dst,op,ty,pos,after,guard⟩:=o
 cases br
 obtain⟨h1,h2⟩:=k_ (show cQ (ps.toList.all fun p=>c3 (aN p.2)) (pq P t m (ps.toList.map fun p=>(p.1,aN p.2)) fun r=>Kp r L H) from h')
 show cQ (ps.toList.all fun p=>c3 (aN p.2)) (nW P (n6 [] dst) (oQ []) t m (ps.toList.map fun p=>(p.1,aN p.2)) L H Kp)
 rw[h1];exact I1 h2
end
section
variable [Z:FZ] {P:Program} {cf:e7 P} {s:TS} {R:Exit→TS→Prop}
def pg (cf:e7 P) (s:TS) (R:Exit→TS→Prop) (K:TV→TS→aj) (Kp:j4 Prop):Prop:=
 ∀v s' (Z':FZ),(K v s').den R→ @Fits Z' s'→s'.tT cf.n=s.tT cf.n→Kp v.aH s'.bw (@TS.ac Z' cf.n s').H
variable {K:TV→TS→aj} {Kp:AV→List (Nat×List AV)→List Blk→Prop}
theorem RV (af:cf.n≤1000000) {t:TypeId} {b g m c:Nat} {i:Int} {v:TV} {K:TS→aj} {Kp:List (Nat×List AV)→List Blk→Prop} (an:Fits s) (hK: ∀s' (Z':FZ),(K s').den R→ @Fits Z' s'→s'.tT cf.n=s.tT cf.n→Kp s'.bw (@TS.ac Z' cf.n s').H) (h:(Ar P cf.n t b g i m c v s K).den R):
  cQ (c3 v.aH) (iu P t (.ptr b g i.toNat c) v.aH (s.ac cf.n).L (s.ac cf.n).H Kp):=by
 unfold Ar at h
 split at h
 ·exact h.elim
 ·rename_i hv
  obtain⟨e,xs,dg,hm,h,hb,ag⟩:=pk (n:=cf.n) h
  obtain⟨l4,o,h,_⟩:=tp an (n:=cf.n) h
  obtain⟨h1,h2,ao,a8,cw,cZ,h⟩:=h
  refine uX (uU hv) ?_
  have ay:i.toNat<xs.length:=by omega
  have hs:=vu h2
  unfold iu
  rw[if_pos hs]
  refine dq ag ⟨rfl,dq (zn ay true) ⟨?_,?_⟩⟩
  ·rw[n1];exact Nat.le_of_ble_eq_true ao
  ·have:=hK _ Z h (lA an) (lz af)
   rw[pj hb,cw] at this
   rw[a8]
   have aO: ∀y:e.T,(xs.map (bD true e)).set i.toNat (bD true e y)=(xs.set i.toNat y).map (bD true e):=fun y=>by rw[List.map_set]
   rw[aO];exact this
theorem PZ (af:cf.n≤1000000) (an:Fits s) {t:TypeId} {e:aq} {l c:TV} (hK:pg cf s R K Kp) (h:(zj P cf.n t e l c s K).den R):p7 P t l.aH c.aH (s.ac cf.n).L (s.ac cf.n).H Kp:=by
 unfold zj at h
 split at h
 ·split at h
  ·obtain⟨h1,h2,ao,eJ,a8,h⟩:=h
   rename_i uJ p2 l ke N2 c
   subst h2
   obtain⟨jw,z,q1,q2,q3,q4,cI,c4⟩:=Fu h1
   refine dq q1 (dq q2 ?_)
   rw[if_pos ⟨q3,q4⟩]
   refine⟨a8.1,Int.le_refl _,by rw[←c4];exact a8.2.1,a8.2.2,?_⟩
   have:=hK _ _ Z h (lA an) (lz af)
   rw[tb eJ,ao] at this
   rw[vw eJ,←cI]
   have an:z.length=e.im:=by
    have:=congrArg List.length cI
    rw[List.length_map,n1] at this;exact this.symm
   rw[an]
   have ak: ∀bL:e.T,(List.replicate l.toNat bL).length=l.toNat:=fun bL=>List.length_replicate
   show Kp (.ref s.aB 0 0 l.toNat false) _ ((s.ac cf.n).H++[⟨0,e.im,List.replicate l.toNat (bD true e _)⟩])
   rw[←List.map_replicate]
   have this:Kp (.ref s.aB 0 0 (List.replicate l.toNat _).length false) (s.ac cf.n).L ((s.ac cf.n).H++[⟨0,e.im,(List.replicate l.toNat _).map (bD true e)⟩]):=this
   rw[ak] at this
   exact this
  ·exact h.elim
 ·exact h.elim
theorem IE (af:cf.n≤1000000) (an:Fits s) {t t2:TypeId} {v x:TV} (hK:pg cf s R K Kp) (h:(ww P cf.n t t2 v x s K).den R):c3 v.aH=true∧c3 x.aH=true∧nT P t t2 v.aH x.aH (s.ac cf.n).L (s.ac cf.n).H Kp:=by
 unfold ww at h
 split at h
 ·rename_i e ys gg fr
  split at h
  ·exact h.elim
  ·rename_i hc
   simp only[Bool.and_eq_true] at hc
   have di: ∀(fA:List e.T) (k:Nat),e.im=k→nx k (fA.map (bD true e)):=fun fA k hk row aa=>by
    obtain⟨y,_,rfl⟩:=List.mem_map.1 aa
    refine⟨by rw[n1,hk],fun a ai=>List.all_eq_true.1 (Kc (fr:=true) hc.2 y) a ai⟩
   have cH: ∀{jw},fU P t=some jw→lF P t=P.bytesOf jw:=fun h=>by unfold lF;rw[h]
   split at h
   ·split at h
    ·rename_i full SI
     obtain⟨h1,h2,eJ,ao,h⟩:=h
     obtain⟨jw,z,q1,q2,q3,q4,cI⟩:=Bn h1
     refine⟨rfl,rfl,dq q1 (dq q2 ?_)⟩
     rw[if_pos q3]
     show _∧_
     have hx:kz fr (List.map (bD false e) ys)=ys.map (bD true e):=Gx hc.1 ys
     rw[hx]
     refine⟨di ys _ q4,rfl,(fun row h=>by cases h),?_,?_,(fun h=>absurd rfl h),?_⟩
     ·rw[List.length_map,←cH q1];simpa using ao.1
     ·rw[List.length_map];simpa using ao.2
     ·have:=hK _ _ Z h (lA an) (lz af)
      rw[tb eJ,h2] at this
      rw[vw eJ,←q4,List.length_map]
      simp only[List.length_nil,Nat.zero_add,List.nil_append]
      exact this
    ·exact h.elim
   ·rename_i b g m cn
    obtain⟨bf,xs,dg,hm,h,hb,ag⟩:=pk (n:=cf.n) h
    split at h
    ·rename_i he
     subst he
     obtain⟨h1,h2,ao,a8,n7⟩:=h
     subst h1
     obtain⟨jw,z,q1,q2,q3,q4,cI⟩:=Bn h2
     refine⟨rfl,rfl,dq q1 (dq q2 ?_)⟩
     rw[if_pos q3]
     show _∧_
     have hx:kz fr (List.map (bD false e) ys)=ys.map (bD true e):=Gx hc.1 ys
     rw[hx]
     refine⟨di ys _ q4,rfl,dq ag ⟨rfl,q4,by rw[List.length_map];exact hm,?_,?_,?_⟩⟩
     ·rw[List.length_map,←hm,←cH q1];exact a8.1
     ·rw[List.length_map,←hm];exact a8.2
     ·have:=hK _ _ Z n7 (lA an) (lz af)
      rw[pj hb,ao] at this
      rw[←q4,List.length_map,←hm,←List.map_append,←List.length_append]
      exact this
    ·exact h.elim
   ·exact h.elim
 ·exact h.elim
theorem xR (af:cf.n≤1000000) (an:Fits s) {o:Oper} {v:TV} {l:List (Nat×TV)} {vs:List (Nat×Nat)} (hK:pg cf s R K Kp) (h:(rk cf s o v l vs K).den R):gL P [] o (bt (s.ac cf.n).T) (s.ac cf.n).L (s.ac cf.n).H Kp:=by
 unfold rk at h
 split at h
 ·rename_i hb
  obtain⟨e,h⟩:=h
  rw[hH,show(fun x=>(bI cf.n s x).aH)=(fun x=>(bI cf.n s x).aH) from rfl]
  have e:=congrFun (congrFun e (s.ac cf.n).H) Kp
  have e:gL P [] o (fun x=>(bI cf.n s x).aH) (s.ac cf.n).L (s.ac cf.n).H Kp=_:=e
  rw[e]
  have:=hK _ _ Z h (qY hb an) (qX af hb)
  rw[qW hb] at this;exact this
 ·exact h.elim
end
def yT:TV→Bool
 | .gV _ _ _=>true
 | _=>false
theorem IV {Z Z':FZ} {v:TV} (h:yT v=false): @TV.dv Z' v= @TV.dv Z v:=by cases v<;>first | rfl | cases h
def r8 (s:TS) (b:Nat):Nat→Bool
 | 0=>true
 | k+1=>(Nat.beq k b || !yT (s.get (bc k)))&&r8 s b k
theorem FQ {s:TS} {b:Nat}: ∀{n:Nat},r8 s b n=true→ ∀k,k<n→k≠b→yT (s.get (bc k))=false
 | 0,_,k,h,_=>by omega
 | n+1,h,k,hk,bV=>by
  simp only[r8,Bool.and_eq_true,Bool.or_eq_true,Bool.not_eq_true'] at h
  rcases Nat.lt_or_ge k n with q | q
  ·exact FQ h.2 k q bV
  ·have:k=n:=by omega
   subst this
   rcases h.1 with e | e
   ·exact absurd (Nat.eq_of_beq_eq_true e) bV
   ·exact e
theorem Sq {Z Z':FZ} {n:Nat} {s s':TS} {b g m:Nat} {ids:List Nat} {V Bd:List aI} {Nn:List Nat} {bg FM:Nat} {hv:V.length=bg} {rN:Bd.length=FM} (hb:b<s.aB) (pO:s'.aB=s.aB) (he: ∀k,k≠b→s'.get (bc k)=s.get (bc k)) (aJ:s'.get (bc b)= .gV g m ids) (hw:r8 s b s.aB=true)
  (h1:s.get ch= .eI V Nn bg hv) (h2:s'.get ch= .eI Bd ids FM rN):(@TS.ac Z' n s').H=(@TS.ei Z s).set b ⟨g,5,cd m Z'.ws ids⟩++List.map cj Z'.bs:=by
 rw[mh h2]
 congr 1
 apply List.ext_getElem?
 intro i
 rw[@lf Z' s' i,List.getElem?_set,@lf Z s i,@ji Z s,pO]
 by_cases hi:b=i
 ·subst hi;rw[if_pos hb,if_pos rfl,if_pos hb,aJ];rfl
 ·rw[if_neg hi,he i (fun e=>hi e.symm)]
  by_cases h:i<s.aB
  ·rw[if_pos h,if_pos h,IV (Z:=Z) (FQ hw i h (fun e=>hi e.symm))]
  ·rw[if_neg h,if_neg h]
theorem sp {n:Nat} {s:TS} {l:List (Nat×TV)} (af:n≤1000000) (h: ∀p∈l,1000000≤p.1):(s.add l s.vs s.aB).tT n=s.tT n:=by
 show(List.range n).map _=(List.range n).map _
 refine List.map_congr_left fun t aC=> ?_
 have aC:t<n:=List.mem_range.1 aC
 rw[TS.fJ,ni fun v hv=>by have:=h _ hv;simp only at this;omega]
def Aa (c:Nat) (v:TV) (h:aI) (K:aI→aj):aj:=match v with
 | .i k x=>if k= .i64 then(match c with
  | 0=>K {h with dW:=x}
  | 1=>K {h with cT:=x}
  | 4=>K {h with dX:=x}
  | _=> .no) else .no
 | .b x=>(match c with
  | 3=>K {h with dV:=x.den}
  | _=> .no)
 | _=> .no
theorem GX {c:Nat} {v:TV} {w:aI} {b:List Bool} {K:aI→aj} {R:Exit→TS→Prop} (h:(Aa c v {w with aF:=b} K).den R):
  ∃x:aI,x.aF=w.aF∧(K {x with aF:=b}).den R∧(∀m id,fF (hB m w id) c (c8 v.aH)=hB m x id)∧c+(c8 v.aH).length≤5:=by
 unfold Aa at h
 split at h
 ·rename_i k x
  split at h
  ·rename_i hk
   subst hk
   split at h
   ·exact⟨{w with dW:=x},rfl,h,fun m id=>rfl,(show(0+1:Nat)≤5 by decide)⟩
   ·exact⟨{w with cT:=x},rfl,h,fun m id=>rfl,(show(1+1:Nat)≤5 by decide)⟩
   ·exact⟨{w with dX:=x},rfl,h,fun m id=>rfl,(show(4+1:Nat)≤5 by decide)⟩
   ·exact h.elim
  ·exact h.elim
 ·rename_i x
  split at h
  ·exact⟨{w with dV:=x.den},rfl,h,fun m id=>rfl,(show(3+1:Nat)≤5 by decide)⟩
  ·exact h.elim
 ·exact h.elim
theorem jx.Pj {ws:List aI} {ids:List Nat} {bs:List (List Bool)} (G:jx ws ids bs) {i id:Nat} {x:aI} (hi:i<ws.length) (h1:id<bs.length) (h2:bs.getD id []=x.aF) (ao: ∀j:Nat,ids[j]?≠some id):
  jx (ws.set i x) (ids.set i id) bs∧view (ws.set i x) (ids.set i id) bs=(view ws ids bs).set i x:=by
 have ak:=G.ok.len
 refine⟨⟨⟨by rw[List.length_set,List.length_set];exact ak,fun j k hk=> ?_,fun j k h ai hk=> ?_⟩,fun a b k ai hb=> ?_,G.len⟩,?_⟩
 ·rw[List.getElem?_set] at hk
  split at hk
  ·split at hk
   ·cases hk;exact h1
   ·cases hk
  ·exact G.ok.lt j k hk
 ·rw[List.getElem?_set] at ai hk
  split at ai
  ·rename_i e;subst e
   rw[if_pos rfl,if_pos (by omega)] at hk
   cases ai;cases hk;rw[h2]
  ·rename_i e
   rw[if_neg e] at hk
   exact G.ok.aF j k h ai hk
 ·rw[List.getElem?_set] at ai hb
  split at ai
  ·split at ai
   ·cases ai
    split at hb
    ·rename_i aO _ e2;omega
    ·exact absurd hb (ao b)
   ·cases ai
  ·split at hb
   ·split at hb
    ·cases hb;exact absurd ai (ao a)
    ·cases hb
   ·exact G.iK a b k ai hb
 ·apply List.ext_getElem?
  intro j
  unfold view
  rw[List.getElem?_zipWith,List.getElem?_set,List.getElem?_set,List.getElem?_set,List.getElem?_zipWith,List.length_zipWith]
  by_cases e:i=j
  ·subst e
   rw[if_pos rfl,if_pos rfl,if_pos rfl,if_pos hi,if_pos (by omega),if_pos (by omega)]
   show some ({x with aF:=bs.getD id []}:aI)=some x
   rw[h2]
  ·rw[if_neg e,if_neg e,if_neg e]
theorem jx.snoc {ws:List aI} {ids:List Nat} {bs:List (List Bool)} (G:jx ws ids bs) {xs:List Bool} (hx:xs.length≤1048576):jx ws ids (bs++[xs])∧view ws ids (bs++[xs])=view ws ids bs:=by
 have aJ: ∀id,id<bs.length→(bs++[xs]).getD id []=bs.getD id []:=fun id h=>by
  rw[List.getD_eq_getElem?_getD,List.getD_eq_getElem?_getD,List.getElem?_append_left h]
 refine⟨⟨⟨G.ok.len,fun i id h=>by have:=G.ok.lt i id h;rw[List.length_append];omega,fun i id h h1 h2=>by rw[aJ id (G.ok.lt i id h2)];exact G.ok.aF i id h h1 h2⟩,G.iK,fun b hb=> ?_⟩,?_⟩
 ·rcases List.mem_append.1 hb with hb | hb
  ·exact G.len b hb
  ·rw[List.mem_singleton.1 hb];exact hx
 ·apply List.ext_getElem?
  intro j
  unfold view
  rw[List.getElem?_zipWith,List.getElem?_zipWith]
  cases h1:ws[j]? with
  | none=>rfl
  | some w=>
   cases h2:ids[j]? with
   | none=>rfl
   | some id=>simp only[aJ id (G.ok.lt j id h2)]
def Aw (P:Program) (t:TypeId) (b g:Nat) (i:Int) (c:Nat) (v:TV) (s:TS) (cc fc:Nat) (ids:List Nat) (K:TS→aj):aj:=match s.get ch with
 | .eI V b6 bg hv=> .eq cc g (.eq b6 ids (.eq (Nat.blt b s.aB&&r8 s b s.aB&&oV P t v.aH) true (match v with
  | .agg l=>(match l with
   | [.i df ac,.i fa go,.r6 id m k,.b e3,.i kp kA]=>(match s.get dT with
    | .new ed xs=>
     let s':=s.add [(ch,.eI (V.set i.toNat (aI.mk ac go xs e3.den kA)) (ids.set i.toNat id) bg ((List.length_set ..).trans hv)),(bc b,.gV g fc (ids.set i.toNat id)),(dT,.u)] s.vs s.aB
     .eq c 0 (.eq (df,fa,kp) (IntKind.i64,IntKind.i64,IntKind.i64) (.eq ed id (.eq m fc (.eq k xs.length (.eq s'.bw s.bw (.p (i.toNat<V.length) (K s')))))))
    | _=> .no)
   | _=> .no)
  | v=>Aa c v (nth V i) fun y=>
   let s':=s.add [(ch,.eI (V.set i.toNat y) ids bg ((List.length_set ..).trans hv))] s.vs s.aB
   .eq s'.bw s.bw (.p (i.toNat<V.length) (K s')))))
 | _=> .no
section
variable [Z:FZ] {P:Program} {cf:e7 P} {s:TS} {R:Exit→TS→Prop}
theorem R1 (af:cf.n≤1000000) {t:TypeId} {b g c cc fc:Nat} {ids:List Nat} {i:Int} {v:TV} {K:TS→aj} {Kp:List (Nat×List AV)→List Blk→Prop} (an:Fits s) (aJ:s.get (bc b)= .gV cc fc ids)
  (hK: ∀s' (Z':FZ),(K s').den R→ @Fits Z' s'→s'.tT cf.n=s.tT cf.n→Kp s'.bw (@TS.ac Z' cf.n s').H) (h:(Aw P t b g i c v s cc fc ids K).den R):
  iu P t (.ptr b g i.toNat c) v.aH (s.ac cf.n).L (s.ac cf.n).H Kp:=by
 unfold Aw at h
 split at h
 ·rename_i V b6 bg hj hk
  obtain⟨h1,h2,ao,h⟩:=h
  subst h1;subst h2
  simp only[Bool.and_eq_true] at ao
  obtain⟨⟨hb,hw⟩,aM⟩:=ao
  have hb:b<s.aB:=by rw[←Nat.blt_eq];exact hb
  obtain⟨G,e,gh⟩:=an V b6 _ _ hk
  have hs:=vu aM
  have lQ:=kD G.ok
  rw[e] at lQ
  have ag:(s.ac cf.n).H[b]?=some ⟨cc,5,cd fc Z.ws b6⟩:=by rw[mN hb,aJ];rfl
  have LU:(s.ac cf.n).H=s.ei++List.map cj Z.bs:=mh hk
  unfold iu
  rw[if_pos hs]
  have fin: ∀{s':TS} {ws2:List aI} {ids2:List Nat} {V2:List aI} {n2:Nat} {hv2:V2.length=n2} {cells row':List AV},i.toNat<V.length→c+cells.length≤5→fF (hB fc (nth Z.ws i) (nth b6 i)) c cells=row'→(cd fc Z.ws b6).set i.toNat row'=cd fc ws2 ids2→s'.aB=s.aB→(∀k,k≠b→s'.get (bc k)=s.get (bc k))→s'.get (bc b)= .gV cc fc ids2→s'.get ch= .eI V2 ids2 n2 hv2→
    s'.bw=s.bw→(K s').den R→ @Fits ⟨ws2,Z.bs⟩ s'→s'.tT cf.n=s.tT cf.n→(ci (s.ac cf.n).H[b]? fun blk=>blk.aE=cc∧ci blk.rows[i.toNat]? fun row=>c+cells.length≤row.length∧Kp (s.ac cf.n).L ((s.ac cf.n).H.set b {blk with rows:=blk.rows.set i.toNat (fF row c cells)})):=by
   intro s' ws2 ids2 V2 n2 hv2 cells row' hi hc pS uo pO ua na Mx aY LX hf bu
   refine dq ag ⟨rfl,dq (CW G.ok.len (by omega)) ⟨hc,?_⟩⟩
   have:=hK s' ⟨ws2,Z.bs⟩ LX hf bu
   rw[aY,Sq (Z:=Z) (Z':=⟨ws2,Z.bs⟩) hb pO ua na hw hk Mx] at this
   rw[LU,List.set_append_left _ _ (by rw[ji];exact hb),pS]
   show Kp s.bw (s.ei.set b ⟨cc,5,(cd fc Z.ws b6).set i.toNat row'⟩++_)
   rw[uo];exact this
  split at h
  ·split at h
   ·rename_i df ac fa go id m k e3 kp kA
    split at h
    ·rename_i ed xs pP
     obtain⟨h1,h2,a8,cw,cZ,iT,mm,h⟩:=h
     subst h1;subst a8;subst cw;subst cZ
     cases h2
     obtain⟨bU,n2,je⟩:=gh _ _ pP
     obtain⟨vS,bf⟩:=G.Pj (i:=i.toNat) (id:=ed) (x:=aI.mk ac go xs e3.den kA) (by omega) bU n2 je
     refine fin (s':=s.add [(ch,.eI (V.set i.toNat (aI.mk ac go xs e3.den kA)) (b6.set i.toNat ed) bg ((List.length_set ..).trans hj)),(bc b,.gV cc m (b6.set i.toNat ed)),(dT,.u)] s.vs s.aB) (ws2:=Z.ws.set i.toNat (aI.mk ac go xs e3.den kA)) (V2:=V.set i.toNat (aI.mk ac go xs e3.den kA)) (n2:=bg) (hv2:=(List.length_set ..).trans hj) (ids2:=b6.set i.toNat ed) (row':=hB m (aI.mk ac go xs e3.den kA) ed) mm (Nat.le_refl 5) ?_ (CX G.ok.len) rfl (fun k hk=> ?_) ?_ ?_ iT h ?_ (sp af ?_)
     ·rfl
     ·rw[TS.fJ,eZ,if_neg (by unfold ch bc;omega),eZ,if_neg (by unfold bc;omega),eZ,if_neg (by unfold dT bc;omega)];rfl
     ·rw[TS.fJ,eZ,if_neg (by unfold ch bc;omega),eZ,if_pos rfl]
     ·rw[TS.fJ,eZ,if_pos rfl]
     ·intro V3 ux je uj ao
      rw[TS.fJ,eZ,if_pos rfl] at ao
      cases ao
      refine⟨vS,by rw[←e];exact bf,fun id xs hx=> ?_⟩
      rw[TS.fJ,eZ,if_neg (by unfold ch dT;omega),eZ,if_neg (by unfold bc dT;omega),eZ,if_pos rfl] at hx
      cases hx
     ·intro p ab
      simp only[List.mem_cons,List.not_mem_nil,or_false] at ab
      rcases ab with rfl | rfl | rfl
      ·exact Nat.le_refl _
      ·show 1000000≤bc b;unfold bc;omega
      ·show 1000000≤dT;unfold dT;omega
    ·exact h.elim
   ·exact h.elim
  ·have SS:i.toNat<V.length∨ ¬i.toNat<V.length:=by omega
   by_cases hi:i.toNat<V.length
   ·have hv:=vI G.ok (i:=i) (by rw[e];exact hi)
    rw[e] at hv
    rw[hv] at h
    obtain⟨x,aU,h,li,Sz⟩:=GX h
    obtain⟨iT,mm,h⟩:=h
    have F:=(G.wx (j:=i) (by omega)).GY x (by rw[aU];have:=(G.wx (j:=i) (by omega)).IX;exact this)
    have iC:(nth (view Z.ws b6 Z.bs) i).aF=Z.bs.getD (nth b6 i) []:=by rw[e,hv]
    rw[iC,e] at F
    refine fin (s':=s.add [(ch,.eI (V.set i.toNat {x with aF:=Z.bs.getD (nth b6 i) []}) b6 bg ((List.length_set ..).trans hj))] s.vs s.aB) (ws2:=Z.ws.set i.toNat x) (ids2:=b6) (V2:=V.set i.toNat {x with aF:=Z.bs.getD (nth b6 i) []}) (n2:=bg) (hv2:=(List.length_set ..).trans hj) mm Sz (li fc (nth b6 i)) (LZ G.ok.len (by omega)) rfl (fun k hk=> ?_) ?_ ?_ iT h ?_ (sp af ?_)
    ·rw[TS.fJ,eZ,if_neg (by unfold ch bc;omega)];rfl
    ·rw[TS.fJ,eZ,if_neg (by unfold ch bc;omega)];exact aJ
    ·rw[TS.fJ,eZ,if_pos rfl]
    ·intro V3 ux je uj ao
     rw[TS.fJ,eZ,if_pos rfl] at ao
     cases ao
     refine⟨F.G,F.jj,fun id xs hx=> ?_⟩
     rw[TS.fJ,eZ,if_neg (by unfold ch dT;omega)] at hx
     exact gh id xs hx
    ·intro p ab
     rw[List.mem_singleton.1 ab];exact Nat.le_refl _
   ·obtain⟨x,aU,h,_⟩:=GX (w:=nth V i) (b:=(nth V i).aF) h
    exact absurd h.2.1 hi
 ·exact h.elim
def sr (P:Program) (t:TypeId) (w:Int) (ids:List Nat) (m:Nat) (j:Int) (v:TV) (s:TS) (K:TS→aj):aj:=match s.get ch with
 | .eI V b6 bg hv=> .eq b6 ids (.eq m s.aB (.eq (oV P t v.aH) true (match v with
  | .b x=>
   let s':=s.add [(ch,.eI (V.set w.toNat {nth V w with aF:=(nth V w).aF.set j.toNat x.den}) ids bg ((List.length_set ..).trans hv))] s.vs s.aB
   .eq s'.bw s.bw (.p (w.toNat<V.length∧j.toNat<(nth V w).aF.length) (K s'))
  | _=> .no)))
 | _=> .no
theorem RY (af:cf.n≤1000000) {t:TypeId} {m:Nat} {ids:List Nat} {w j:Int} {v:TV} {K:TS→aj} {Kp:List (Nat×List AV)→List Blk→Prop} (an:Fits s)
  (hK: ∀s' (Z':FZ),(K s').den R→ @Fits Z' s'→s'.tT cf.n=s.tT cf.n→Kp s'.bw (@TS.ac Z' cf.n s').H) (h:(sr P t w ids m j v s K).den R):
  iu P t (.ptr (nth ids w+m) 0 j.toNat 0) v.aH (s.ac cf.n).L (s.ac cf.n).H Kp:=by
 unfold sr at h
 split at h
 ·rename_i V b6 bg hj hk
  obtain⟨h1,h2,ao,h⟩:=h
  subst h1;subst h2
  have hs:=vu ao
  unfold iu
  rw[if_pos hs]
  split at h
  ·rename_i x
   obtain⟨a8,cw,h⟩:=h
   obtain⟨G,e,gh⟩:=an V b6 _ _ hk
   have lQ:=kD G.ok
   rw[e] at lQ
   have hv:=vI G.ok (i:=w) (by rw[e];exact cw.1)
   rw[e] at hv
   have o8:=G.wx (j:=w) (by omega)
   have F:=o8.Q_ ((nth V w).aF.set j.toNat x.den) (by rw[List.length_set,e])
   rw[e] at F
   have hid:=G.ok.lt w.toNat _ (hG (xs:=b6) (i:=w) (by have:=G.ok.len;omega))
   refine dq (xB an hk cw.1) ⟨rfl,dq (BB cw.2) ⟨Nat.le_refl 1,?_⟩⟩
   have bu:=sp (n:=cf.n) (s:=s) (l:=[(ch,TV.eI (V.set w.toNat {nth V w with aF:=(nth V w).aF.set j.toNat x.den}) b6 bg ((List.length_set ..).trans hj))]) af (fun p ab=>by rw[List.mem_singleton.1 ab];exact Nat.le_refl _)
   have m8: @Fits ⟨Z.ws,Z.bs.set (nth b6 w) ((nth V w).aF.set j.toNat x.den)⟩ (s.add [(ch,TV.eI (V.set w.toNat {nth V w with aF:=(nth V w).aF.set j.toNat x.den}) b6 bg ((List.length_set ..).trans hj))] s.vs s.aB):=by
    intro V3 ux je uj ao
    rw[TS.fJ,eZ,if_pos rfl] at ao
    cases ao
    refine⟨F.G,F.jj,fun id xs hx=> ?_⟩
    rw[TS.fJ,eZ,if_neg (by unfold ch dT;omega)] at hx
    obtain⟨bU,n2,je⟩:=gh id xs hx
    refine⟨by show id<(Z.bs.set (nth b6 w) ((nth V w).aF.set j.toNat x.den)).length;rw[List.length_set];exact bU,?_,je⟩
    show(Z.bs.set (nth b6 w) ((nth V w).aF.set j.toNat x.den)).getD id []=xs
    have bV:nth b6 w≠id:=fun q=>je w.toNat (by rw[hG (xs:=b6) (i:=w) (by have:=G.ok.len;omega),q])
    rw[List.getD_eq_getElem?_getD,List.getElem?_set,if_neg bV,←List.getD_eq_getElem?_getD];exact n2
   have:=hK _ ⟨Z.ws,Z.bs.set (nth b6 w) ((nth V w).aF.set j.toNat x.den)⟩ h m8 bu
   rw[a8] at this
   have tR:(s.ac cf.n).H=s.ei++List.map cj Z.bs:=mh hk
   have b5: ∀Z':FZ,Z'.ws=Z.ws→ @TS.ei Z' (s.add [(ch,TV.eI (V.set w.toNat {nth V w with aF:=(nth V w).aF.set j.toNat x.den}) b6 bg ((List.length_set ..).trans hj))] s.vs s.aB)= @TS.ei Z s:=fun Z' hw=>by
    show(List.range s.aB).map _=(List.range s.aB).map _
    refine List.map_congr_left fun b _=> ?_
    rw[TS.fJ,eZ,if_neg (by unfold ch bc;omega)]
    show @TV.dv Z' (s.get (bc b))= @TV.dv Z (s.get (bc b))
    cases s.get (bc b)<;>first | rfl | (simp only[TV.dv,hw])
   have xT:= @mh ⟨Z.ws,Z.bs.set (nth b6 w) ((nth V w).aF.set j.toNat x.den)⟩ cf.n (s.add [(ch,TV.eI (V.set w.toNat {nth V w with aF:=(nth V w).aF.set j.toNat x.den}) b6 bg ((List.length_set ..).trans hj))] s.vs s.aB) (V.set w.toNat {nth V w with aF:=(nth V w).aF.set j.toNat x.den}) b6 bg ((List.length_set ..).trans hj) (by rw[TS.fJ,eZ,if_pos rfl])
   rw[xT,b5 ⟨Z.ws,Z.bs.set (nth b6 w) ((nth V w).aF.set j.toNat x.den)⟩ rfl] at this
   rw[tR,List.set_append_right _ _ (by rw[ji];omega),ji,Nat.add_sub_cancel]
   have hA:({cj (nth V w).aF with rows:=(cj (nth V w).aF).rows.set j.toNat (fF (bm (nth (nth V w).aF j)) 0 (c8 (TV.b x).aH))}:Blk)=cj ((nth V w).aF.set j.toNat x.den):=by
    show(⟨0,1,(List.map bm (nth V w).aF).set j.toNat (bm x.den)⟩:Blk)=⟨0,1,_⟩
    rw[IZ]
   show Kp s.bw (s.ei++(List.map cj Z.bs).set (nth b6 w) {cj (nth V w).aF with rows:=(cj (nth V w).aF).rows.set j.toNat (fF (bm (nth (nth V w).aF j)) 0 (c8 (TV.b x).aH))})
   rw[hA,Kw]
   exact this
  ·exact h.elim
 ·exact h.elim
def zi (P:Program) (t:TypeId) (l c:TV) (s:TS) (K:TV→TS→aj):aj:=match l with
 | .i _ l=>(match c with
  | .i _ c=>(match s.get ch with
   | .eI V ids _ _=> .all Nat fun id=>
    let s':=s.add [(dT,.new id (List.replicate l.toNat false))] s.vs s.aB
    .eq (uL P t) (some ([AV.bool false],lF P t)) (.eq l c (.eq s'.bw s.bw (.p (0≤l∧(lF P t:Int)*l≤140737488355328∧l≤1048576) (K (.r6 id s.aB (List.replicate l.toNat false).length) s'))))
   | _=> .no)
  | _=> .no)
 | _=> .no
theorem PT (af:cf.n≤1000000) (an:Fits s) {t:TypeId} {l c:TV} {K:TV→TS→aj} {Kp:AV→List (Nat×List AV)→List Blk→Prop} (hK:pg cf s R K Kp) (h:(zi P t l c s K).den R):p7 P t l.aH c.aH (s.ac cf.n).L (s.ac cf.n).H Kp:=by
 unfold zi at h
 split at h
 ·split at h
  ·split at h
   ·rename_i uJ p2 l ke N2 c Ta V ids bg hj hk
    obtain⟨h1,h2,ao,a8,aX⟩:=h Z.bs.length
    subst h2
    obtain⟨jw,z,q1,q2,q3,q4,cI,c4⟩:=Fu h1
    refine dq q1 (dq q2 ?_)
    rw[if_pos ⟨q3,q4⟩]
    refine⟨a8.1,Int.le_refl _,by rw[←c4];exact a8.2.1,by have:=a8.2.2;omega,?_⟩
    obtain⟨G,e,gh⟩:=an V ids _ _ hk
    have k2:(List.replicate l.toNat false).length≤1048576:=by rw[List.length_replicate];have:=a8.2.2;omega
    obtain⟨vS,bf⟩:=G.snoc k2
    have bu:=sp (n:=cf.n) (s:=s) (l:=[(dT,TV.new Z.bs.length (List.replicate l.toNat false))]) af (fun p ab=>by rw[List.mem_singleton.1 ab];show 1000000≤dT;unfold dT;omega)
    have Df:(s.add [(dT,TV.new Z.bs.length (List.replicate l.toNat false))] s.vs s.aB).get ch= .eI V ids bg hj:=by rw[TS.fJ,eZ,if_neg (by unfold ch dT;omega)];exact hk
    have m8: @Fits ⟨Z.ws,Z.bs++[List.replicate l.toNat false]⟩ (s.add [(dT,TV.new Z.bs.length (List.replicate l.toNat false))] s.vs s.aB):=by
     intro V3 ux je uj ao
     rw[Df] at ao
     cases ao
     refine⟨vS,bf.trans e,fun id xs hx=> ?_⟩
     rw[TS.fJ,eZ,if_pos rfl] at hx
     cases hx
     refine⟨by show Z.bs.length<(Z.bs++[List.replicate l.toNat false]).length;rw[List.length_append];simp,by show(Z.bs++[List.replicate l.toNat false]).getD Z.bs.length []=_;rw[List.getD_eq_getElem?_getD,List.getElem?_append_right (Nat.le_refl _)];simp,fun j O=> ?_⟩
     have:=G.ok.lt j _ O;omega
    have:=hK _ _ ⟨Z.ws,Z.bs++[List.replicate l.toNat false]⟩ aX m8 bu
    rw[ao] at this
    have tR:(s.ac cf.n).H=s.ei++List.map cj Z.bs:=mh hk
    have xT:= @mh ⟨Z.ws,Z.bs++[List.replicate l.toNat false]⟩ cf.n _ V ids bg hj Df
    have b5: @TS.ei ⟨Z.ws,Z.bs++[List.replicate l.toNat false]⟩ (s.add [(dT,TV.new Z.bs.length (List.replicate l.toNat false))] s.vs s.aB)= @TS.ei Z s:=by
     show(List.range s.aB).map _=(List.range s.aB).map _
     refine List.map_congr_left fun b _=> ?_
     rw[TS.fJ,eZ,if_neg (by unfold dT bc;omega)]
     show @TV.dv _ (s.get (bc b))= @TV.dv Z (s.get (bc b))
     cases s.get (bc b)<;>rfl
    rw[xT,b5] at this
    have hlen:(s.ac cf.n).H.length=Z.bs.length+s.aB:=by rw[tR,List.length_append,ji,List.length_map];omega
    have oq:z.length=1:=by have:=congrArg List.length cI;simpa using this.symm
    rw[hlen,oq,←cI,tR]
    show Kp (.ref (Z.bs.length+s.aB) 0 0 l.toNat false) s.bw (s.ei++List.map cj Z.bs++[⟨0,1,List.replicate l.toNat [AV.bool false]⟩])
    rw[show List.replicate l.toNat [AV.bool false]=List.map bm (List.replicate l.toNat false) by rw[List.map_replicate];rfl,List.append_assoc,xC]
    have J2:(List.replicate l.toNat false).length=l.toNat:=List.length_replicate
    rw[J2] at this
    exact this
   ·exact h.elim
  ·exact h.elim
 ·exact h.elim
def Hz (P:Program) (t:TypeId) (b g:Nat) (i:Int) (c:Nat) (v:TV) (s:TS) (cc:Nat) (ad:List TV) (K:TS→aj):aj:=
 let ba:=ad.take c++lD v++ad.drop (c+(lD v).length)
 let s':=s.eD b s.aB (.ds g ba)
 .eq cc g (.eq i 0 (.eq (Nat.blt b s.aB&&qa v&&oV P t v.aH&&Nat.ble (c+(c8 v.aH).length) ad.length) true (.eq (fF (bN ad) c (c8 v.aH)) (bN ba) (.eq ba.length ad.length (.eq s'.bw s.bw (K s'))))))
theorem R0 (af:cf.n≤1000000) {t:TypeId} {b g c cc:Nat} {ad:List TV} {i:Int} {v:TV} {K:TS→aj} {Kp:List (Nat×List AV)→List Blk→Prop} (an:Fits s) (aJ:s.get (bc b)= .ds cc ad)
  (hK: ∀s' (Z':FZ),(K s').den R→ @Fits Z' s'→s'.tT cf.n=s.tT cf.n→Kp s'.bw (@TS.ac Z' cf.n s').H) (h:(Hz P t b g i c v s cc ad K).den R):
  iu P t (.ptr b g i.toNat c) v.aH (s.ac cf.n).L (s.ac cf.n).H Kp:=by
 obtain⟨h1,h2,ao,a8,cw,cZ,h⟩:=h
 subst h1;subst h2
 simp only[Bool.and_eq_true] at ao
 obtain⟨⟨⟨hb,_⟩,aM⟩,hle⟩:=ao
 have hb:b<s.aB:=by rw[←Nat.blt_eq];exact hb
 have hs:=vu aM
 unfold iu
 rw[if_pos hs]
 refine dq (by rw[mN hb,aJ]) ⟨rfl,dq (a:=bN ad) rfl ⟨by rw[jC,List.length_map];exact Nat.le_of_ble_eq_true hle,?_⟩⟩
 have:=hK _ Z h (lA an) (lz af)
 rw[pj hb,cZ] at this
 show Kp s.bw ((s.ac cf.n).H.set b ⟨cc,ad.length,[fF (bN ad) c (c8 v.aH)]⟩)
 rw[a8,←cw]
 exact this
end
inductive jz where
 | v (e:aq)
 | fr
 | w
def jz.es:List jz→List aq
 | []=>[]
 | .v e::r=>e::jz.es r
 | .fr::r=>jz.es r
 | .w::r=> .int::jz.es r
def rc (aJ:Nat):(l:List jz)→bR (jz.es l)→List AV
 | [],_=>[]
 | .v e::r,x=>jI e x.1::rc aJ r x.2
 | .fr::r,x=> .ptr 0 aJ 0 0::rc aJ r x
 | .w::r,x=> .ptr 3 0 (show Int from x.1).toNat 0::rc aJ r x.2
def vi (F:Frame):List TV:=[.b (.v F.ok),.ref 1 0 F.bM.length false,.ref 2 0 F.bP.length false,.ref 3 0 F.U.length false]
def xK [Z:FZ] (aJ:Nat) (ids:List Nat) (F:Frame):List Blk:=
 [⟨aJ,4,[bN (vi F)]⟩,⟨0,1,F.bM.map (bD true .bool)⟩,⟨0,2,F.bP.map (bD true .eu)⟩,⟨0,5,cd 4 Z.ws ids⟩]++Z.bs.map cj
def vR [Z:FZ] (ids:List Nat) (F:Frame):Prop:=jx Z.ws ids Z.bs∧view Z.ws ids Z.bs=F.U
def H7 (P:Program) (f:FuncId) (aJ:Nat) (args:List AV) (F:Frame) (AU:Frame) (v:AV):Prop:=
 ∀(Z:FZ) (ids:List Nat),@vR Z ids F→ej P f args (@xK Z aJ ids F) fun r H'=>r=v∧ ∃(Z':FZ) (b6:List Nat),@vR Z' b6 AU∧H'= @xK Z' aJ b6 AU
def p6 (aJ:Nat) (ids:List Nat) (F:Frame):List (Nat×TV):=
 [(bc 0,.ds aJ (vi F)),(bc 1,.blk 0 .bool F.bM F.bM.length rfl),(bc 2,.blk 0 .eu F.bP F.bP.length rfl),(bc 3,.gV 0 4 ids),(ch,.eI F.U ids F.U.length rfl)]
def xJ (s:TS) (K:Nat→Frame→List Nat→aj):aj:=match s.get (bc 0) with
 | .ds g ad=>(match ad with
  | [.b k,.ref pi g1 bU f1,.ref cJ g2 n2 f2,.ref wz g3 je f3]=>(match s.get (bc 1) with
   | .blk h1 aO o a7 _=>if q1:aO=aq.bool then(match s.get (bc 2) with
    | .blk h2 e2 q bO _=>if q2:e2=aq.eu then(match s.get (bc 3) with
     | .gV ao fc ids=>(match s.get ch with
      | .eI V b6 bg _=> .eq s.aB 4 (.eq (pi,g1,bU,f1) (1,0,a7,false) (.eq (cJ,g2,n2,f2) (2,0,bO,false) (.eq (wz,g3,je,f3) (3,0,bg,false) (.eq (h1,h2,ao,fc) (0,0,0,4)
       (.eq b6 ids (K g ⟨k.den,ig q1 o,ig q2 q,V⟩ ids))))))
      | _=> .no)
     | _=> .no) else .no
    | _=> .no) else .no
   | _=> .no)
  | _=> .no)
 | _=> .no
theorem Lf [Z:FZ] {n:Nat} {s:TS} {K:Nat→Frame→List Nat→aj} {R:Exit→TS→Prop} (an:Fits s) (h:(xJ s K).den R): ∃g F ids,(K g F ids).den R∧vR ids F∧(s.ac n).H=xK g ids F∧s.aB=4∧s.get ch= .eI F.U ids F.U.length rfl:=by
 unfold xJ at h
 split at h
 ·rename_i g ad oh
  split at h
  ·split at h
   ·rename_i h1 aO o a7 ug mq
    split at h
    ·rename_i q1
     subst q1
     split at h
     ·rename_i h2 e2 q bO kj rF
      split at h
      ·rename_i q2
       subst q2
       split at h
       ·rename_i ao fc ids Mt
        split at h
        ·rename_i V b6 bg hj hk
         obtain⟨cs,df,fa,kp,N0,yW,h⟩:=h
         cases df;cases fa;cases kp;cases N0;subst yW;subst ug;subst kj;subst hj
         obtain⟨G,e,_⟩:=an V b6 _ _ hk
         refine⟨_,_,_,h,⟨G,e⟩,?_,cs,hk⟩
         rw[mh hk]
         have eH:s.ei=[(s.get (bc 0)).dv,(s.get (bc 1)).dv,(s.get (bc 2)).dv,(s.get (bc 3)).dv]:=by unfold TS.ei;rw[cs];rfl
         rw[eH,oh,mq,rF,Mt];rfl
        ·exact h.elim
       ·exact h.elim
      ·exact h.elim
     ·exact h.elim
    ·exact h.elim
   ·exact h.elim
  ·exact h.elim
 ·exact h.elim
structure mS (P:Program) where
 f:FuncId
 fX:List jz
 rs:List aq
 pre:bR (jz.es fX)→Frame→Prop
 fn:bR (jz.es fX)→Frame→Frame
 aK:bR (jz.es fX)→Frame→bR rs
 ok: ∀aJ x F,pre x F→H7 P f aJ (rc aJ fX x) F (fn x F) (m1 rs (aK x F))
def ib:(l:List jz)→List TV→bR (jz.es l)
 | [],_=>()
 | .v e::r,v::vs=>(Lk e v,ib r vs)
 | .fr::r,_::vs=>ib r vs
 | .w::r,v::vs=>((match v with
  | .ptr _ _ i _ _=>i
  | _=>(0:Int)),ib r vs)
 | .v e::r,[]=>(e.ou.default,ib r [])
 | .fr::r,[]=>ib r []
 | .w::r,[]=>((0:Int),ib r [])
def tN {P:Program}:List (mS P)→FuncId→(mS P→aj)→aj→aj
 | [],_,_,t=>t
 | c::r,f,K,t=>match Nat.beq c.f f with
  | true=>K c
  | false=>tN r f K t
def wW {P:Program} (c:mS P) (args:List TV) (s:TS) (K:TV→TS→aj):aj:=xJ s fun g F ids=>
 .eq (bN args) (rc g c.fX (ib c.fX args)) (.eq ((bN args).all c3&&(bN args).all h3) true (.p (c.pre (ib c.fX args) F) (.all (List Nat) fun b6=>
  let s':=s.add ((dT,.u)::p6 g b6 (c.fn (ib c.fX args) F)) s.vs s.aB
  .eq s'.bw s.bw (.eq (r5 (m1 c.rs (c.aK (ib c.fX args) F))) true (K (vg c.rs (c.aK (ib c.fX args) F)) s')))))
theorem PR (aJ:Nat) (ids:List Nat) (F:Frame) (s:TS):let s':=s.add ((dT,.u)::p6 aJ ids F) s.vs s.aB
  s'.get (bc 0)= .ds aJ (vi F)∧s'.get (bc 1)= .blk 0 .bool F.bM F.bM.length rfl∧s'.get (bc 2)= .blk 0 .eu F.bP F.bP.length rfl∧s'.get (bc 3)= .gV 0 4 ids∧s'.get ch= .eI F.U ids F.U.length rfl∧s'.get dT= .u:=by
 intro s'
 have aA:dT≠bc 0∧dT≠bc 1∧dT≠bc 2∧dT≠bc 3∧dT≠ch:=by unfold dT bc ch;omega
 have e: ∀k,s'.get k=eS ((dT,.u)::p6 aJ ids F) k (s.get k):=fun k=>TS.fJ ..
 refine⟨?_,?_,?_,?_,?_,?_⟩<;>rw[e]<;>rfl
theorem Jz [Z:FZ] {P:Program} {n:Nat} (af:n≤1000000) {c:mS P} {args:List TV} {s:TS} {K:TV→TS→aj} {R:Exit→TS→Prop} {Kp:AV→List (Nat×List AV)→List Blk→Prop} (an:Fits s)
  (hK: ∀v s' (Z':FZ),(K v s').den R→ @Fits Z' s'→s'.tT n=s.tT n→Kp v.aH s'.bw (@TS.ac Z' n s').H) (h:(wW c args s K).den R):iA P c.f (bN args) (s.ac n).L (s.ac n).H Kp:=by
 unfold wW at h
 obtain⟨g,F,ids,aX,h1,h2,ao,_⟩:=Lf (n:=n) an h
 obtain⟨df,fa,kp,hk⟩:=aX
 simp only[Bool.and_eq_true] at fa
 refine .inr (.inr (.inl ⟨fa.1,fa.2,?_⟩))
 rw[h2,df]
 refine(c.ok g _ F kp Z ids h1).mono fun r H' al=> ?_
 obtain⟨rfl,Z',b6,q1,rfl⟩:=al
 obtain⟨yW,N1,hk⟩:=hk b6
 refine⟨N1,?_⟩
 obtain⟨au,a7,bO,ef,eg,PN⟩:=PR g b6 (c.fn (ib c.fX args) F) s
 have m8: @Fits Z' (s.add ((dT,.u)::p6 g b6 (c.fn (ib c.fX args) F)) s.vs s.aB):=by
  intro V3 ux je uj ao
  rw[eg] at ao
  cases ao
  refine⟨q1.1,q1.2,fun id xs hx=> ?_⟩
  rw[PN] at hx;cases hx
 have:=hK _ _ Z' hk m8 (sp af fun p ab=>by
  simp only[p6,List.mem_cons,List.not_mem_nil,or_false] at ab
  rcases ab with rfl | rfl | rfl | rfl | rfl | rfl
  ·show 1000000≤dT;unfold dT;omega
  ·show 1000000≤bc 0;unfold bc;omega
  ·show 1000000≤bc 1;unfold bc;omega
  ·show 1000000≤bc 2;unfold bc;omega
  ·show 1000000≤bc 3;unfold bc;omega
  ·exact Nat.le_refl _)
 rw[yW,zU,@mh Z' n _ _ _ _ _ eg] at this
 have eH: @TS.ei Z' (s.add ((dT,.u)::p6 g b6 (c.fn (ib c.fX args) F)) s.vs s.aB)=[@TV.dv Z' (.ds g (vi (c.fn (ib c.fX args) F))),@TV.dv Z' (.blk 0 .bool (c.fn (ib c.fX args) F).bM _ rfl),@TV.dv Z' (.blk 0 .eu (c.fn (ib c.fX args) F).bP _ rfl),@TV.dv Z' (.gV 0 4 b6)]:=by
  rw[←au,←a7,←bO,←ef]
  show(List.range s.aB).map _=_
  rw[ao];rfl
 rw[eH] at this
 exact this
inductive iw where
 | v (e:aq)
 | p
def iw.es:List iw→List aq
 | []=>[]
 | .v e::r=>e::iw.es r
 | .p::r=>iw.es r
def tB (g:Nat):(l:List iw)→bR (iw.es l)→List AV
 | [],_=>[]
 | .v e::r,x=>jI e x.1::tB g r x.2
 | .p::r,x=> .ptr 0 g 0 0::tB g r x
structure lj (P:Program) where
 f:FuncId
 ce:aq
 fX:List iw
 rs:List aq
 pre:bR (iw.es fX)→ce.T→Prop
 fn:bR (iw.es fX)→ce.T→ce.T
 aK:bR (iw.es fX)→ce.T→bR rs
 ok: ∀g x c,pre x c→nL P f g (tB g fX x) (bD false ce c) (bD false ce (fn x c)) (m1 rs (aK x c))
def F9:List iw→List TV→TV
 | .p::_,v::_=>v
 | .v _::r,_::vs=>F9 r vs
 | _,_=> .u
def xX:List iw→Bool
 | []=>false
 | .p::_=>true
 | .v _::r=>xX r
def z6:TS:=⟨[],[],[],0⟩
def tq (p:AV):(l:List iw)→List TV→(bR (iw.es l)→List Prop→aj)→aj
 | [],[],K=>K () []
 | .v e::r,v::vs,K=>conv z6 e v fun x o=>tq p r vs fun y fD=>K (x,y) (o++fD)
 | .p::r,v::vs,K=> .eq v.aH p (tq p r vs K)
 | _,_,_=> .no
def P_ (e:aq):Bool:=e.ku
def w3 {P:Program} (c:lj P) (args:List TV) (p:AV) (cells:List TV) (K:TV→c.ce.T→aj):aj:=
 .eq (bN cells) (bD false c.ce (c.ce.mk (kR c.ce.a6 cells))) (.eq (xX c.fX&&P_ c.ce&&(bN args).all c3) true (tq p c.fX args fun x o=>
  u1 (o++[c.pre x (c.ce.mk (kR c.ce.a6 cells))]) (K (vg c.rs (c.aK x (c.ce.mk (kR c.ce.a6 cells)))) (c.fn x (c.ce.mk (kR c.ce.a6 cells))))))
def w4 {P:Program} (c:lj P) (args:List TV) (s:TS) (K:TV→TS→aj):aj:=match F9 c.fX args with
 | .ptr b g _ _ _=>(match s.get (bc b) with
  | .ds cc cells=>(match Nat.blt b s.aB with
   | true=> .eq cc g (w3 c args (.ptr b g 0 0) cells fun v y=>
     let s':=s.eD b s.aB (.ds g (gd false c.ce y))
     .eq s'.bw s.bw (K v s'))
   | false=> .no)
  | _=> .no)
 | .lp v _=>(match hp s.vs v with
  | some m=>w3 c args (.dn v 0) (fk s v 0 m) fun w y=>
    let s':=s.add (nZ v 0 (gd false c.ce y)) s.vs s.aB
    .eq s'.bw (hL s.bw v (bD false c.ce y)) (.eq (kI (nZ v 0 (gd false c.ce y))) true (K w s'))
  | none=> .no)
 | _=> .no
def tO {P:Program}:List (lj P)→FuncId→(lj P→aj)→aj→aj
 | [],_,_,t=>t
 | c::r,f,K,t=>match Nat.beq c.f f with
  | true=>K c
  | false=>tO r f K t
theorem Cv {P:Program} {f:FuncId} {K:lj P→aj} {t:aj} {R:Exit→TS→Prop}: ∀{lg:List (lj P)},(tO lg f K t).den R→(∃m,m.f=f∧(K m).den R)∨t.den R
 | [],h=> .inr h
 | c::r,h=>by
  unfold tO at h
  split at h
  ·rename_i hf;exact .inl ⟨c,Nat.eq_of_beq_eq_true hf,h⟩
  ·exact Cv h
theorem tz {e:aq} (h:e.ku=true) (x:e.T):(bD false e x).all ov=true∧(bD false e x).all gb=true:=by cases e<;>first | exact⟨rfl,rfl⟩ | cases h
theorem w2 {p:AV} {g:Nat} {R:Exit→TS→Prop}: ∀{l:List iw} {vs:List TV} {K:bR (iw.es l)→List Prop→aj},(tq p l vs K).den R→ ∃x o,(K x o).den R∧((∀φ∈o,φ)→aw (nJ p (.ptr 0 g 0 0)) (bN vs) (tB g l x))∧(xX l=true→p∈bN vs)
 | [],[],K,h=>⟨(),[],h,fun _=>aw.nil,fun h=>by cases h⟩
 | .v e::r,v::vs,K,h=>by
  letI Z:FZ:=⟨[],[]⟩
  obtain⟨x,o,h,df⟩:=w1 (n:=0) (Fits.none (s:=z6) rfl) (show(conv z6 e v _).den R from h)
  obtain⟨y,fD,h,fa,kp⟩:=w2 (l:=r) h
  exact⟨(x,y),o++fD,h,fun br=>aw.cons (.inr (df fun φ cP=>br φ (List.mem_append_left _ cP))) (fa fun φ cP=>br φ (List.mem_append_right _ cP)),fun ab=>List.mem_cons_of_mem _ (kp ab)⟩
 | .p::r,v::vs,K,h=>by
  obtain⟨e,h⟩:=h
  obtain⟨y,fD,h,fa,kp⟩:=w2 (l:=r) h
  exact⟨y,fD,h,fun br=>aw.cons (.inl ⟨e,rfl⟩) (fa br),fun _=>by rw[bN,e];exact List.mem_cons_self ..⟩
 | [],_::_,K,h=>h.elim
 | .v _::_,[],K,h=>h.elim
 | .p::_,[],K,h=>h.elim
theorem BX {P:Program} {c:lj P} {args:List TV} {p:AV} {cells:List TV} {K:TV→c.ce.T→aj} {R:Exit→TS→Prop} (g:Nat) (h:(w3 c args p cells K).den R):
  ∃cR x y t,(K t y).den R∧(bN args).all c3=true∧bN cells=bD false c.ce x∧c.ce.ku=true∧p∈bN args∧aw (nJ p (.ptr 0 g 0 0)) (bN args) cR∧nL P c.f g cR (bD false c.ce x) (bD false c.ce y) t.aH:=by
 obtain⟨h1,h2,h⟩:=h
 simp only[Bool.and_eq_true] at h2
 obtain⟨x,o,h,fa,kp⟩:=w2 (g:=g) h
 obtain⟨br,h⟩:=FU h
 refine⟨_,_,_,_,h,h2.2,h1,h2.1.2,kp h2.1.1,fa fun φ cP=>br φ (List.mem_append_left _ cP),?_⟩
 rw[zU]
 exact c.ok g x _ (br _ (List.mem_append_right _ (List.mem_singleton.2 rfl)))
theorem Gq {c:List TV} {e:aq} {x:e.T} (h:bN c=bD false e x):c.length=(bD false e x).length:=by rw[←h,jC,List.length_map]
theorem JE [Z:FZ] {P:Program} {n:Nat} (af:n≤1000000) {c:lj P} {args:List TV} {s:TS} {K:TV→TS→aj} {R:Exit→TS→Prop} {Kp:AV→List (Nat×List AV)→List Blk→Prop} (an:Fits s)
  (hK: ∀v s' (Z':FZ),(K v s').den R→ @Fits Z' s'→s'.tT n=s.tT n→Kp v.aH s'.bw (@TS.ac Z' n s').H) (h:(w4 c args s K).den R):iA P c.f (bN args) (s.ac n).L (s.ac n).H Kp:=by
 unfold w4 at h
 split at h
 ·rename_i b g i m col ab
  split at h
  ·rename_i cc cells aJ
   split at h
   ·rename_i hb
    have hb:b<s.aB:=by rw[←Nat.blt_eq];exact hb
    obtain⟨e,h⟩:=h
    subst e
    obtain⟨cR,x,y,t,aX,h1,h2,ao,a8,cw,cZ⟩:=BX cc h
    obtain⟨aY,aX⟩:=aX
    refine .inr (.inr (.inr ⟨h1,cR,bD false c.ce x,bD false c.ce y,t.aH,(tz ao x).1,(tz ao y).2,.inl ⟨b,cc,?_,a8,cw,cZ,?_⟩⟩))
    ·rw[mN hb,aJ]
     show some (Blk.mk cc cells.length [bN cells])=_
     rw[Gq h2,h2]
    ·have:=hK _ _ Z aX (lA an) (lz af)
     rw[aY,pj hb] at this
     have aO:TV.dv (.ds cc (gd false c.ce y))=Blk.mk cc (bD false c.ce x).length [bD false c.ce y]:=by
      show Blk.mk cc (gd false c.ce y).length [bN (gd false c.ce y)]=_
      rw[Gq (tk false c.ce y),tk,n1,n1]
     rw[aO] at this
     exact this
   ·exact h.elim
  ·exact h.elim
 ·rename_i v col ab
  split at h
  ·rename_i m hm
   obtain⟨cR,x,y,t,aX,h1,h2,ao,a8,cw,cZ⟩:=BX 0 h
   obtain⟨aY,hb,aX⟩:=aX
   refine .inr (.inr (.inr ⟨h1,cR,bD false c.ce x,bD false c.ce y,t.aH,(tz ao x).1,(tz ao y).2,.inr ⟨v,?_,a8,cw,cZ,?_⟩⟩))
   ·rw[oW,hm,←h2];rfl
   ·have:=hK _ _ Z aX (qY hb an) (qX af hb)
    rw[aY,qW hb] at this
    exact this
  ·exact h.elim
 ·exact h.elim
structure lm (P:Program) where
 len:List Nat
 kA:List (mS P)
 vC:List (lj P)
def Au (P:Program) (n:Nat) (t:TypeId) (b g:Nat) (i:Int) (m c:Nat) (v:TV) (s:TS) (w:TV) (K:TS→aj):aj:=match w with
 | .gV cc fc ids=>(match qa v with
  | true=>Aw P t b g i c v s cc fc ids K
  | false=> .no)
 | .ds cc ad=>Hz P t b g i c v s cc ad K
 | _=>Ar P n t b g i m c v s K
section
variable {P:Program} (cf:e7 P) (s:TS)
def vK (cW:lm P) (o:Oper) (K:TV→TS→aj):aj:=match o.op with
 | .store t a v=>(match bI cf.n s a with
  | .lp x c=>kQ (bI cf.n s v) fun w=>rk cf s o (.tup []) (nZ x c (lD w)) s.vs K
  | .ptr b g i m c=>kQ (bI cf.n s v) fun w=>Au P cf.n t b g i m c w s (s.get (bc b)) fun s'=>K (.tup []) s'
  | .pF w ids m j=>kQ (bI cf.n s v) fun x=>sr P t w ids m j x s fun s'=>K (.tup []) s'
  | _=> .no)
 | .alloc e=>(match o.dst with
  | some d=>rk cf s o (.lp d 0) (nZ d 0 (sy P e)) ((d,(sy P e).length)::s.vs) K
  | none=> .no)
 | .box _ x=>(match o.dst with
  | some d=>kQ (bI cf.n s x) fun w=>rk cf s o (.lp d 0) (nZ d 0 (lD w)) ((d,(lD w).length)::s.vs) K
  | none=> .no)
 | .makeSlice t l c=>(match fW s with
  | true=>p4 cf.xn t fun e=>zj P cf.n t e (bI cf.n s l) (bI cf.n s c) s K
  | false=>zi P t (bI cf.n s l) (bI cf.n s c) s K)
 | .buildSlice t m ps=>p4 cf.xn t fun e=>uH s e (ps.toList.map fun p=>bI cf.n s p.2) fun xs=>ml (fun H Q=>gp P o (fun x=>(bI cf.n s x).aH) s.bw H Q) (fun v=>K v s) (.v (Ff e xs (ps.toList.map fun p=>bI cf.n s p.2)))
 | .binOp op t x y _=>(match bI cf.n s x with
  | .l e xs _ _=>(match op with
   | .eql=> .eq (lS y&&(fU P t).isSome) true (.two (.gw (xs≠[]) (K (.b .f) s)) (.gw (xs=[]) (.all Bool fun b=>K (.b (.v b)) s)))
   | _=> .no)
  | _=>mK cf s o fun v=>K v s)
 | .call c=>(match c.callee with
  | .builtin b=>(match b with
   | .len=>(match c.args.toList,c.argTypes.toList with
    | [x],[t]=>(match bI cf.n s x with
     | .l e xs cn fr=>(match o.dst with
      | some d=>(match cW.len.any (Nat.beq d) with
       | true=>mK cf s o fun v=>K v s
       | false=> .eq (gy P t (TV.l e xs cn fr).aH) true (.gw (xs.length≤4611686018427387904) (K (.i .i64 xs.length) s)))
      | none=> .no)
     | _=>mK cf s o fun v=>K v s)
    | _,_=> .no)
   | .append=>(match c.args.toList,c.argTypes.toList with
    | [x,y],[t,t2]=>ww P cf.n t t2 (bI cf.n s x) (bI cf.n s y) s K
    | _,_=> .no)
   | _=> .no)
  | .value f=>(match bI cf.n s f with
   | .fn g caps=>tN cW.kA g (fun m=>wW m (c.args.toList.map (bI cf.n s)++caps) s K) (tO cW.vC g (fun m=>w4 m (c.args.toList.map (bI cf.n s)++caps) s K) (mK cf s o fun v=>K v s))
   | _=> .no)
  | _=> .no)
 | _=>mK cf s o fun v=>K v s
end
section
variable {P:Program} {cf:e7 P} {s:TS} {R:Exit→TS→Prop}
variable {K:TV→TS→aj} {Kp:AV→List (Nat×List AV)→List Blk→Prop}
theorem RX {t:TypeId} {m:Nat} {ids:List Nat} {w j:Int} {v:TV} {K:TS→aj} (h:(sr P t w ids m j v s K).den R):c3 v.aH=true:=by
 unfold sr at h
 split at h
 ·obtain⟨_,_,_,h⟩:=h
  split at h
  ·rfl
  ·exact h.elim
 ·exact h.elim
end
section
variable {P:Program} {cf:e7 P} {s:TS} {R:Exit→TS→Prop}
variable {K:TV→TS→aj} {Kp:AV→List (Nat×List AV)→List Blk→Prop}
theorem Cu {f:FuncId} {K:mS P→aj} {t:aj}: ∀{lg:List (mS P)},(tN lg f K t).den R→(∃m,m.f=f∧(K m).den R)∨t.den R
 | [],h=> .inr h
 | c::r,h=>by
  unfold tN at h
  split at h
  ·rename_i hf;exact .inl ⟨c,Nat.eq_of_beq_eq_true hf,h⟩
  ·exact Cu h
end
section
variable [Z:FZ] {P:Program} {cf:e7 P} {s:TS} {R:Exit→TS→Prop}
variable {K:TV→TS→aj} {Kp:AV→List (Nat×List AV)→List Blk→Prop}
theorem RZ (af:cf.n≤1000000) (an:Fits s) {t:TypeId} {b g m c:Nat} {i:Int} {v:TV} {K:TS→aj} {Kp:List (Nat×List AV)→List Blk→Prop} (hK: ∀s' (Z':FZ),(K s').den R→ @Fits Z' s'→s'.tT cf.n=s.tT cf.n→Kp s'.bw (@TS.ac Z' cf.n s').H)
  (h:(Au P cf.n t b g i m c v s (s.get (bc b)) K).den R):cQ (c3 v.aH) (iu P t (.ptr b g i.toNat c) v.aH (s.ac cf.n).L (s.ac cf.n).H Kp):=by
 unfold Au at h
 split at h
 ·rename_i cc fc ids aJ
  split at h
  ·rename_i hv
   exact uX (uU hv) (R1 af an aJ hK h)
  ·exact h.elim
 ·rename_i cc ad aJ
  have ao:(Nat.blt b s.aB&&qa v&&oV P t v.aH&&Nat.ble (c+(c8 v.aH).length) ad.length)=true:=h.2.2.1
  simp only[Bool.and_eq_true] at ao
  exact uX (uU ao.1.1.2) (R0 af an aJ hK h)
 ·exact RV af an hK h
theorem HW (af:cf.n≤1000000) (an:Fits s) {cW:lm P} {o:Oper} (hK:pg cf s R K Kp) (h:(vK cf s cW o K).den R):gL P [] o (bt (s.ac cf.n).T) (s.ac cf.n).L (s.ac cf.n).H Kp:=by
 have si: ∀v,(K v s).den R→Kp v.aH (s.ac cf.n).L (s.ac cf.n).H:=fun v hv=>hK v s Z hv an rfl
 have rd:(mK cf s o fun v=>K v s).den R→gp P o (bt (s.ac cf.n).T) (s.ac cf.n).L (s.ac cf.n).H fun r=>Kp r (s.ac cf.n).L (s.ac cf.n).H:=fun h=>Gs an (Kp:=fun r=>Kp r (s.ac cf.n).L (s.ac cf.n).H) si h
 unfold vK at h
 split at h
 ·rename_i t a v dG
  split at h
  ·rw[lI] at h;exact xR af an hK h
  ·rename_i b g i m c ai
   rw[lI] at h
   obtain⟨dst,op,ty,pos,after,guard⟩:=o
   cases dG
   show cQ (c3 (bt (s.ac cf.n).T v)) (iu P t (bt (s.ac cf.n).T a) (bt (s.ac cf.n).T v) _ _ _)
   rw[hH]
   show cQ (c3 (bI cf.n s v).aH) (iu P t (bI cf.n s a).aH (bI cf.n s v).aH _ _ _)
   rw[ai]
   exact RZ af an (fun s' Z' h1 hf h2=>hK (.tup []) s' Z' h1 hf h2) h
  ·rename_i w ids m j ai
   rw[lI] at h
   obtain⟨dst,op,ty,pos,after,guard⟩:=o
   cases dG
   show cQ (c3 (bt (s.ac cf.n).T v)) (iu P t (bt (s.ac cf.n).T a) (bt (s.ac cf.n).T v) _ _ _)
   rw[hH]
   show cQ (c3 (bI cf.n s v).aH) (iu P t (bI cf.n s a).aH (bI cf.n s v).aH _ _ _)
   rw[ai]
   refine uX ?_ (RY af an (fun s' Z' h1 hf h2=>hK (.tup []) s' Z' h1 hf h2) h)
   exact RX h
  ·exact h.elim
 ·split at h
  ·exact xR af an hK h
  ·exact h.elim
 ·split at h
  ·rw[lI] at h;exact xR af an hK h
  ·exact h.elim
 ·rename_i t l c dG
  obtain⟨dst,op,ty,pos,after,guard⟩:=o
  cases dG
  show p7 P t (bt (s.ac cf.n).T l) (bt (s.ac cf.n).T c) _ _ _
  rw[hH]
  split at h
  ·obtain⟨e,h⟩:=y7 h
   exact PZ af an hK h
  ·exact PT af an hK h
 ·rename_i t m ps dG
  obtain⟨e,h⟩:=y7 h
  obtain⟨xs,h⟩:=y6 (n:=cf.n) an h
  refine QM dG ?_
  rw[hH]
  exact m5 (F:=fun H Q=>gp P o _ _ H Q) (s.ac cf.n).H (Kp:=fun r=>Kp r (s.ac cf.n).L (s.ac cf.n).H) si h
 ·rename_i op t x y ty2 dG
  split at h
  ·rename_i e xs cn fr hx
   split at h
   ·obtain⟨h1,h2,ao⟩:=h
    obtain⟨dst,op,ty,pos,after,guard⟩:=o
    cases dG
    show mV P .eql t (bt (s.ac cf.n).T x) _ (lS y) _
    rw[hH]
    show mV P .eql t (bI cf.n s x).aH _ (lS y) _
    rw[hx]
    show if lS y=true∧(fU P t).isSome=true then _ else _
    rw[if_pos (by simpa using h1)]
    refine⟨fun bV=> ?_,fun he b=> ?_⟩
    ·exact si (.b .f) (h2 fun e=>bV (by rw[e];rfl))
    ·exact si (.b (.v b)) (ao (by simpa using he) b)
   ·exact h.elim
  ·refine Gt (rd h) (fun c=>by rw[dG];intro e;cases e) (fun t m ps=>by rw[dG];intro e;cases e)
 ·rename_i c dG
  obtain⟨callee,args,argTypes⟩:=c
  split at h
  ·rename_i b hb
   cases hb
   split at h
   ·split at h
    ·rename_i x t h1 h2
     simp only at h1 h2
     split at h
     ·rename_i e xs cn fr hx
      split at h
      ·split at h
       ·exact zQ dG (rd h)
       ·obtain⟨aO,h⟩:=h
        obtain⟨dst,op,ty,pos,after,guard⟩:=o
        cases dG
        show(match args.toList,argTypes.toList with
         | [x],[t]=>cQ (gy P t (bt (s.ac cf.n).T x)) (mE (bt (s.ac cf.n).T x) fun r=>Kp r _ _)
         | _,_=>False)
        simp only[h1,h2]
        rw[hH]
        show cQ (gy P t (bI cf.n s x).aH) (mE (bI cf.n s x).aH _)
        rw[hx,aO]
        show(List.map _ _).length≤_→Kp (.int .i64 ((List.map _ _).length:Nat)) _ _
        rw[List.length_map]
        exact fun ak=>si _ (h ak)
      ·exact h.elim
     ·exact zQ dG (rd h)
    ·exact h.elim
   ·split at h
    ·rename_i x y t t2 h1 h2
     simp only at h1 h2
     obtain⟨dst,op,ty,pos,after,guard⟩:=o
     cases dG
     show(match args.toList,argTypes.toList with
      | [s',x],[t,t2]=>c3 (bt (s.ac cf.n).T s')=true∧c3 (bt (s.ac cf.n).T x)=true∧nT P t t2 (bt (s.ac cf.n).T s') (bt (s.ac cf.n).T x) _ _ _
      | _,_=>False)
     simp only[h1,h2]
     rw[hH]
     exact IE af an hK h
    ·exact h.elim
   ·exact h.elim
  ·rename_i f hf
   cases hf
   split at h
   ·rename_i g caps hc
    rcases Cu h with⟨m,e,hm⟩ | hm
    ·subst e
     obtain⟨dst,op,ty,pos,after,guard⟩:=o
     cases dG
     show ie (bt (s.ac cf.n).T f) fun g caps=>iA P g (args.toList.map (bt (s.ac cf.n).T)++caps) _ _ Kp
     rw[hH]
     show ie (bI cf.n s f).aH fun g caps=>iA P g (args.toList.map (fun x=>(bI cf.n s x).aH)++caps) _ _ Kp
     rw[hc]
     have:=Jz (n:=cf.n) af an (fun v s' Z' h1 h2 ao=>hK v s' Z' h1 h2 ao) hm
     rw[jC,List.map_append,List.map_map] at this
     show iA P m.f (_++bN caps) _ _ Kp
     rw[jC];exact this
    ·rcases Cv hm with⟨m,e,ab⟩ | hm
     ·subst e
      obtain⟨dst,op,ty,pos,after,guard⟩:=o
      cases dG
      show ie (bt (s.ac cf.n).T f) fun g caps=>iA P g (args.toList.map (bt (s.ac cf.n).T)++caps) _ _ Kp
      rw[hH]
      show ie (bI cf.n s f).aH fun g caps=>iA P g (args.toList.map (fun x=>(bI cf.n s x).aH)++caps) _ _ Kp
      rw[hc]
      have:=JE (n:=cf.n) (Kp:=Kp) af an (fun v s' Z' h1 h2 ao=>hK v s' Z' h1 h2 ao) ab
      rw[jC,List.map_append,List.map_map] at this
      show iA P m.f (_++bN caps) _ _ Kp
      rw[jC];exact this
     ·exact zQ dG (rd hm)
   ·exact h.elim
  ·exact h.elim
 ·rename_i h1 h2 ao a8 cw cZ iT
  exact Gt (rd h) (fun c=>iT c) (fun t m ps=>cw t m ps)
end
def oy (b:Bool):TV:= .b (match b with
 | true=> .t
 | false=> .f)
theorem Fg (b:Bool):(oy b).aH= .bool b:=by cases b<;>rfl
def vq (x:cz) (s:TS) (K:Bool→TS→aj):aj:=match x with
 | .t=>K true s
 | .f=>K false s
 | x=> .fM x s (K true ⟨[],s.T++s.B,s.vs,s.aB⟩) (K false ⟨[],s.T++s.B,s.vs,s.aB⟩)
def vA (d:Nat) (v:TV):TV:=match v with
 | .b x=>(match x with
  | .v p=> .b (.at d p)
  | x=> .b x)
 | v=>v
theorem R9 (d:Nat) (v:TV):(vA d v).aH=v.aH:=by
 unfold vA
 split
 ·split<;>rfl
 ·rfl
def gR (n:Nat) (s:TS) (d:Option Nat) (v:TV):TS:=match d with
 | none=>s
 | some d=>match Nat.blt d n with
  | true=>s.put d (vA d v)
  | false=>s
theorem RT [FZ] {n:Nat} {s s':TS} (hv:s'.vs=s.vs) (hb:s'.aB=s.aB) (h: ∀k,s'.get k=s.get k):s'.ac n=s.ac n:=by
 have hc: ∀v c m,fk s' v c m=fk s v c m:=by
  intro v c m
  induction m generalizing c with
  | zero=>rfl
  | succ m aT=>rw[fk,fk,h _,aT]
 have ag:=Aq (n:=n) hb (fun b=>h _) (h ch)
 have bu:s'.tT n=s.tT n:=by unfold TS.tT;simp only[h]
 have aY:s'.bw=s.bw:=by unfold TS.bw;simp only[hv,hc]
 show(⟨s'.tT n,s'.bw,(s'.ac n).H⟩:St)=_
 rw[bu,aY,ag];rfl
theorem Ht (s:TS) (k:Nat):TS.get ⟨[],s.T++s.B,s.vs,s.aB⟩ k=s.get k:=by unfold TS.get;simp only;rw[oz];rfl
theorem RP [FZ] {n:Nat} (s:TS):TS.ac n ⟨[],s.T++s.B,s.vs,s.aB⟩=s.ac n:=RT rfl rfl (Ht s)
theorem Ap [FZ] {n:Nat} {x:cz} {s:TS} {K:Bool→TS→aj} {R:Exit→TS→Prop} (h:(vq x s K).den R): ∃s',s'.ac n=s.ac n∧(∀k,s'.get k=s.get k)∧(K x.den s').den R:=by
 have key:(aj.fM x s (K true ⟨[],s.T++s.B,s.vs,s.aB⟩) (K false ⟨[],s.T++s.B,s.vs,s.aB⟩)).den R→ ∃s',s'.ac n=s.ac n∧(∀k,s'.get k=s.get k)∧(K x.den s').den R:=fun h=>by
  refine⟨_,RP s,Ht s,?_⟩
  ·cases hx:x.den with
   | true=>exact h.1 hx
   | false=>exact h.2 hx
 cases x with
 | t=>exact⟨s,rfl,fun _=>rfl,h⟩
 | f=>exact⟨s,rfl,fun _=>rfl,h⟩
 | _=>exact key h
theorem u9 {s:TS} {d k:Nat} {v:TV} (h:d<1000000) (hk:1000000≤k):(s.put d v).get k=s.get k:=by rw[TS.xQ,if_neg (by omega)]
theorem zC [FZ] {s:TS} {d:Nat} {v:TV} (h:d<1000000) (f:Fits s):Fits (s.put d v):=f.congr fun k h1 _=>u9 h h1
theorem Gb {s:TS} {d:Nat} {v:TV} (h:d<1000000):(s.put d v).bw=s.bw:=by
 have hc: ∀cM c m,fk (s.put d v) cM c m=fk s cM c m:=by
  intro cM c m
  induction m generalizing c with
  | zero=>rfl
  | succ m aT=>rw[fk,fk,u9 h (by unfold iJ;omega),aT]
 show s.vs.map _=s.vs.map _
 simp only[hc]
theorem Ga [FZ] {n:Nat} {s:TS} {d:Nat} {v:TV} (h:d<1000000):((s.put d v).ac n).H=(s.ac n).H:=Aq rfl (fun b=>u9 h (by unfold bc;omega)) (u9 h (by unfold ch;omega))
theorem sf [FZ] {n:Nat} (af:n≤1000000) (s:TS) (d:Option Nat) (v:TV):(gR n s d v).ac n=⟨putA (s.ac n).T d v.aH,(s.ac n).L,(s.ac n).H⟩:=by
 cases d with
 | none=>rfl
 | some d=>
  unfold gR
  simp only
  split
  ·rename_i aL
   have aL:d<n:=by rw[←Nat.blt_eq];exact aL
   rw[←R9 d v]
   generalize vA d v=v
   have bu:(s.put d v).tT n=(s.tT n).set d v.aH:=by
    apply List.ext_getElem?
    intro t
    show((List.range n).map fun t=>((s.put d v).get t).aH)[t]?=(((List.range n).map fun t=>(s.get t).aH).set d v.aH)[t]?
    rw[List.getElem?_set]
    simp only[List.getElem?_map,List.length_map,List.length_range]
    rcases Nat.lt_or_ge t n with h | h
    ·rw[List.getElem?_range h]
     simp only[Option.map_some]
     rw[TS.xQ]
     by_cases e:d=t
     ·simp[e,h]
     ·simp[e]
    ·rw[List.getElem?_eq_none (l:=List.range n) (by simpa using h)]
     by_cases e:d=t
     ·omega
     ·simp[e]
   have aY:=Gb (s:=s) (v:=v) (show d<1000000 by omega)
   have ag:=Ga (n:=n) (s:=s) (v:=v) (show d<1000000 by omega)
   show(⟨(s.put d v).tT n,(s.put d v).bw,((s.put d v).ac n).H⟩:St)=_
   rw[bu,aY,ag];rfl
  ·rename_i aL
   have aL: ¬d<n:=fun h=>by rw[←Nat.blt_eq] at h;rw[h] at aL;cases aL
   show s.ac n=⟨(s.ac n).T.set d v.aH,_,_⟩
   rw[List.set_eq_of_length_le]
   show((List.range n).map _).length≤d
   simp;omega
theorem se [FZ] {n:Nat} (af:n≤1000000) {s:TS} {d:Option Nat} {v:TV} (f:Fits s):Fits (gR n s d v):=by
 unfold gR
 split
 ·exact f
 ·split
  ·rename_i aL
   exact zC (by rw[Nat.blt_eq] at aL;omega) f
  ·exact f
theorem Ge [FZ] {n:Nat} {s:TS} {t:Nat} {v:TV} (aC:t<1000000) (h:(s.get t).aH=v.aH):(s.put t v).ac n=s.ac n:=by
 have bu:(s.put t v).tT n=s.tT n:=by
  unfold TS.tT
  refine List.map_congr_left fun k _=> ?_
  rw[TS.xQ];split
  ·rename_i e;subst e;exact h.symm
  ·rfl
 have aY:=Gb (s:=s) (v:=v) aC
 have ag:=Ga (n:=n) (s:=s) (v:=v) aC
 show(⟨(s.put t v).tT n,(s.put t v).bw,((s.put t v).ac n).H⟩:St)=_
 rw[bu,aY,ag];rfl
section
variable {P:Program} (cf:e7 P)
def u4 (c x y:Operand) (s:TS) (K:TV→TS→aj):aj:=match bI cf.n s c with
 | .b z=>vq z s fun b s=>
  let s:=match c with
   | .tmp t=>s.put t (oy b)
   | _=>s
  kQ (bI cf.n s (bif b then x else y)) fun v=>K v s
 | _=> .no
def tQ (ops:Array Oper) (o:Oper) (s:TS) (run skip:TS→aj):aj:=match o.guard with
 | none=>run s
 | some g=>match(ops[g.1]?).bind (·.dst) with
  | none=> .no
  | some t=>match bI cf.n s (.tmp t) with
   | .b z=>vq z s fun b s=>bif b==g.2 then run (s.put t (oy b)) else skip (s.put t (oy b))
   | .tup c=>match c with
    | []=>skip s
    | _=> .no
   | _=> .no
def stepT (cW:lm P) (o:Oper) (s:TS) (K:TV→TS→aj):aj:=match o.op with
 | .pick c x y=>u4 cf c x y s K
 | _=>vK cf s cW o K
def vh (cW:lm P) (ops:Array Oper):List Oper→TS→(TS→aj)→aj
 | [],s,K=>K s
 | o::r,s,K=>tQ cf ops o s (fun s=>stepT cf cW o s fun v s=>vh cW ops r (gR cf.n s o.dst v) K) (fun s=>vh cW ops r (gR cf.n s o.dst (.tup [])) K)
def xI (ops:Array Oper) (s:TS):List Nat→aj→aj
 | [],k=>k
 | i::r,k=> .eq ((opI ops i).guard.isNone&&(opI ops i).dst.isSome) true (.eq (fun(Z:FZ) H Q=>hU P (opI ops i) (fun x=>(bI cf.n s x).aH) s.bw (@TS.ei Z s++H) Q) (fun _ _ Q=>Q (match(opI ops i).dst with
  | some d=>(bI cf.n s (.tmp d)).aH
  | none=> .undef)) (xI ops s r k))
def nw (cW:lm P) (ops:Array Oper):List Item→TS→(TS→aj)→aj
 | [],s,K=>K s
 | x::r,s,K=>tQ cf ops (opI ops x.i) s
   (fun s=>match x.q with
    | true=>(match k7 (opI ops x.i) with
     | true=>(match(opI ops x.i).dst with
      | some d=> .eq (fun H Q=>hU P (opI ops x.i) (fun x=>(bI cf.n s x).aH) s.bw H Q) (fun _ Q=>Q (.dn d 0)) (nw cW ops r (gR cf.n s (opI ops x.i).dst (.lp d 0)) K)
      | none=> .no)
     | false=>(match(opI ops x.i).op with
      | .pick c a b=>u4 cf c a b s fun v s=>nw cW ops r (gR cf.n s (opI ops x.i).dst v) K
      | _=>mK cf s (opI ops x.i) fun v=>nw cW ops r (gR cf.n s (opI ops x.i).dst v) K))
    | false=>(match(opI ops x.i).op with
     | .pick _ _ _=> .no
     | _=>vK cf s cW (opI ops x.i) fun v s=>xI cf ops s x.gg (nw cW ops r (gR cf.n s (opI ops x.i).dst v) K)))
   (fun s=>nw cW ops r (gR cf.n s (opI ops x.i).dst (.tup [])) K)
def sA (P:Program) (ops:Array Oper):List Item→List (Nat×List TV)
 | []=>[]
 | x::r=>match x.q with
  | true=>(match(opI ops x.i).op with
   | .alloc e=>(match(opI ops x.i).dst with
    | some d=>(d,sy P e)::sA P ops r
    | none=>sA P ops r)
   | _=>sA P ops r)
  | false=>sA P ops r
def AS:List (Nat×List TV)→List (Nat×TV)
 | []=>[]
 | (d,c)::r=>nZ d 0 c++AS r
def xe (cW:lm P) (ops:Array Oper) (ord:List Item) (gD:List (List Nat)) (s:TS) (K:TS→aj):aj:=
 let fA:=sA P ops ord
 let s':=s.add (AS fA) (fA.map (fun p=>(p.1,p.2.length))++s.vs) s.aB
 match kI (AS fA) with
 | false=> .no
 | true=> .eq (P.follows .mixedOrders) true (.eq gD.length ops.size (.eq (px ops ord (q0 gD)) true (.eq (ord.all (·.lit)) true (.eq s'.bw (fA.map (fun p=>(p.1,bN p.2))++s.bw)
  (.eq (n5 (fA.map fun p=>(p.1,bN p.2)) s.bw) true (.eq (nR ops s.bw ord) true (nw cf cW ops ord s' K)))))))
end
section
variable {P:Program} {cf:e7 P} {R:Exit→TS→Prop}
theorem za {n t:Nat} {s:TS} {v:TV} (h:bI n s (.tmp t)=v) (hv:v≠ .u):t<n∧s.get t=v:=by
 have h:(match Nat.blt t n with
  | true=>s.get t
  | false=>TV.u)=v:=h
 split at h
 ·rename_i hb;exact⟨by rw[←Nat.blt_eq];exact hb,h⟩
 ·exact absurd h.symm hv
end
section
variable {P:Program} {cf:e7 P} {R:Exit→TS→Prop}
theorem Rb {T:List AV} {t:Nat} {a:AV} (h:T.getD t .undef=a):T.set t a=T∨a= .undef:=by
 by_cases ak:t<T.length
 ·left
  rw[List.getD_eq_getElem?_getD,List.getElem?_eq_getElem ak] at h
  have h:T[t]=a:=h
  rw[←h];exact List.set_getElem_self ..
 ·right;rw[←h,List.getD_eq_getElem?_getD,List.getElem?_eq_none (by omega)];rfl
end
section
variable {P:Program} {cf:e7 P} {R:Exit→TS→Prop}
theorem Qv {o:Oper} {T:List AV} {K:AV→Prop} {tx:Prop} (h: ∀c x y,o.op≠ .pick c x y):oJ true o T K tx=tx:=by
 unfold oJ
 split
 ·rename_i c x y e;exact absurd e (h c x y)
 ·rfl
end
section
variable [Z:FZ] {P:Program} {cf:e7 P} {R:Exit→TS→Prop}
theorem CL (af:cf.n≤1000000) {ops:Array Oper} {o:Oper} {s:TS} {run skip:TS→aj} {x y:List AV→Prop} (an:Fits s) (hx: ∀s',Fits s'→s'.ac cf.n=s.ac cf.n→(run s').den R→x (s.ac cf.n).T) (ax: ∀s',Fits s'→s'.ac cf.n=s.ac cf.n→(skip s').den R→y (s.ac cf.n).T)
  (h:(tQ cf ops o s run skip).den R):jN ops true o (s.ac cf.n).T x y:=by
 unfold tQ at h
 unfold jN
 split at h
 ·rename_i aJ;rw[aJ];exact hx s an rfl h
 ·rename_i g aJ
  obtain⟨j,e6⟩:=g
  rw[aJ]
  simp only at h ⊢
  split at h
  ·exact h.elim
  ·rename_i t aC
   rw[aC]
   simp only
   have bu:(s.ac cf.n).T.getD t .undef=(bI cf.n s (.tmp t)).aH:=by
    have:=congrFun (hH cf.n s) (.tmp t);exact this
   split at h
   ·rename_i z lR
    rw[lR] at bu
    rw[bu]
    show kJ true z.den _ _
    obtain⟨ak,eP⟩:=za lR (fun e=>by cases e)
    obtain⟨s',aO,e2,h⟩:=Ap (n:=cf.n) h
    have jQ:Fits (s'.put t (oy z.den)):=zC (by omega) (an.congr fun k _ _=>e2 k)
    have mz:(s'.put t (oy z.den)).ac cf.n=s.ac cf.n:=by
     rw[Ge (by omega) (by rw[e2,eP,Fg];rfl),aO]
    have uo: ∀b,z.den=b→(s.ac cf.n).T.set t (.bool b)=(s.ac cf.n).T:=fun b hb=>by
     rcases Rb (show(s.ac cf.n).T.getD t .undef= .bool b by rw[bu,←hb];rfl) with q | q
     ·exact q
     ·cases q
    cases k3:z.den with
    | true=>
     rw[k3] at h mz jQ
     show if e6=true then _ else _
     rw[uo true k3]
     cases e6 with
     | true=>rw[if_pos rfl];exact hx _ jQ mz h
     | false=>rw[if_neg (by simp)];exact ax _ jQ mz h
    | false=>
     rw[k3] at h mz jQ
     show if e6=true then _ else _
     rw[uo false k3]
     cases e6 with
     | true=>rw[if_pos rfl];exact ax _ jQ mz h
     | false=>rw[if_neg (by simp)];exact hx _ jQ mz h
   ·rename_i c lR
    rw[lR] at bu
    split at h
    ·rw[bu];exact ax s an rfl h
    ·exact h.elim
   ·exact h.elim
theorem F0 (af:cf.n≤1000000) {c x y:Operand} {s:TS} {K:TV→TS→aj} {Kp:AV→Prop} (an:Fits s) (hK: ∀v s',Fits s'→s'.ac cf.n=s.ac cf.n→(K v s').den R→Kp v.aH) (h:(u4 cf c x y s K).den R):
  kc (bt (s.ac cf.n).T c) fun z=>kJ true z (Kp (bt (s.ac cf.n).T x)) (Kp (bt (s.ac cf.n).T y)):=by
 unfold u4 at h
 split at h
 ·rename_i z lR
  obtain⟨s',aO,e2,h⟩:=Ap (n:=cf.n) h
  simp only at h
  rw[lI] at h
  generalize Dv:(match c with
   | .tmp t=>s'.put t (oy z.den)
   | _=>s')=s2 at h
  have cg:s2.ac cf.n=s.ac cf.n:=by
   rw[←Dv,←aO]
   split
   ·rename_i t
    obtain⟨ak,eP⟩:=za lR (fun e=>by cases e)
    exact Ge (by omega) (by rw[e2,eP,Fg];rfl)
   ·rfl
  have hf2:Fits s2:=by
   rw[←Dv]
   split
   ·rename_i t
    obtain⟨ak,eP⟩:=za lR (fun e=>by cases e)
    exact zC (by omega) (an.congr fun k _ _=>e2 k)
   ·exact an.congr fun k _ _=>e2 k
  have:=hK _ _ hf2 cg h
  have br: ∀o,(bI cf.n s2 o).aH=bt (s.ac cf.n).T o:=fun o=>by rw[←cg,hH]
  rw[br] at this
  have hc:bt (s.ac cf.n).T c= .bool z.den:=by
   have:=congrFun (hH cf.n s) c
   rw[this]
   show(bI cf.n s c).aH=_
   rw[lR];rfl
  rw[hc]
  show kJ true z.den _ _
  cases k3:z.den with
  | true=>rw[k3] at this;exact this
  | false=>rw[k3] at this;exact this
 ·exact h.elim
theorem RW (af:cf.n≤1000000) {cW:lm P} {o:Oper} {s:TS} {K:TV→TS→aj} {Kp:AV→List (Nat×List AV)→List Blk→Prop} (an:Fits s) (hK:pg cf s R K Kp) (h:(stepT cf cW o s K).den R):
  oJ true o (s.ac cf.n).T (fun v=>Kp v (s.ac cf.n).L (s.ac cf.n).H) (gL P [] o (bt (s.ac cf.n).T) (s.ac cf.n).L (s.ac cf.n).H Kp):=by
 unfold stepT at h
 split at h
 ·rename_i c x y dG
  unfold oJ
  rw[dG]
  exact F0 af (Kp:=fun v=>Kp v (s.ac cf.n).L (s.ac cf.n).H) an (fun v s' hf e hv=>by
   have eT:s'.tT cf.n=s.tT cf.n:=congrArg St.T e
   have eV:s'.bw=s.bw:=congrArg St.L e
   have:=hK v s' Z hv hf eT
   rw[eV,e] at this;exact this) h
 ·rename_i bV
  rw[Qv fun c x y=>bV c x y]
  exact HW af an hK h
end
section
variable {P:Program} {cf:e7 P} {R:Exit→TS→Prop}
theorem zW (af:cf.n≤1000000) {cW:lm P} {ops:Array Oper} {K:TS→aj} {Kp:List AV→List (Nat×List AV)→List Blk→Prop} (hK: ∀s (Z:FZ),(K s).den R→ @Fits Z s→Kp (s.tT cf.n) s.bw (@TS.ac Z cf.n s).H): ∀(l:List Oper) (Z:FZ) (s:TS),@Fits Z s→(vh cf cW ops l s K).den R→
  evOps P [] ops (l.map fun o=>(o,true)) (s.tT cf.n) s.bw (@TS.ac Z cf.n s).H Kp
 | [],Z,s,an,h=>hK s Z h an
 | o::r,Z,s,an,h=>by
  refine CL (Z:=Z) af an (fun s' hf e h=> ?_) (fun s' hf e h=> ?_) h
  ·have eV:s'.bw=s.bw:=congrArg St.L e
   rw[←e,←eV]
   exact RW (Z:=Z) af (Kp:=fun v L' H'=>evOps P [] ops (r.map fun o=>(o,true)) (putA (s'.tT cf.n) o.dst v) L' H' Kp) hf (fun v s2 Z2 hv hf2 e2=>by
    have:=zW af hK r Z2 _ (@se Z2 _ af _ _ _ hf2) hv
    have cg:= @sf Z2 cf.n af s2 o.dst v
    have eT:(gR cf.n s2 o.dst v).tT cf.n=putA (s2.tT cf.n) o.dst v.aH:=congrArg St.T cg
    have xl:(gR cf.n s2 o.dst v).bw=s2.bw:=congrArg St.L cg
    rw[eT,xl,cg] at this
    rw[←e2];exact this) h
  ·have:=zW af hK r Z _ (se af hf) h
   have cg:= @sf Z cf.n af s' o.dst (.tup [])
   have eT:(gR cf.n s' o.dst (.tup [])).tT cf.n=putA (s'.tT cf.n) o.dst (.tup []):=congrArg St.T cg
   have xl:(gR cf.n s' o.dst (.tup [])).bw=s'.bw:=congrArg St.L cg
   rw[eT,xl,cg] at this
   have eH:s'.tT cf.n=s.tT cf.n:=congrArg St.T e
   have hA:s'.bw=s.bw:=congrArg St.L e
   rw[eH,hA,e] at this
   exact this
end
section
variable [Z:FZ] {P:Program} {cf:e7 P} {R:Exit→TS→Prop}
theorem Cy {ops:Array Oper} {s:TS} {k:aj}: ∀{gg:List Nat},(xI cf ops s gg k).den R→mi P ops gg (s.ac cf.n).T (s.ac cf.n).L (s.ac cf.n).H∧k.den R
 | [],h=>⟨trivial,h⟩
 | i::r,h=>by
  obtain⟨h1,h2,ao⟩:=h
  simp only[Bool.and_eq_true] at h1
  obtain⟨q1,q2⟩:=Cy ao
  refine⟨⟨⟨h1.1,h1.2,?_⟩,q1⟩,q2⟩
  rw[hH]
  have:=congrFun (congrFun (congrFun h2 Z) (eW s)) (fun v=>v=mZ (opI ops i) (s.ac cf.n).T)
  have this:hU P (opI ops i) (fun x=>(bI cf.n s x).aH) (s.ac cf.n).L (s.ac cf.n).H (fun v=>v=mZ (opI ops i) (s.ac cf.n).T)=_:=this
  rw[this]
  unfold mZ
  cases(opI ops i).dst with
  | none=>rfl
  | some d=>
   have:=congrFun (hH cf.n s) (.tmp d)
   exact this.symm
end
section
variable {P:Program} {cf:e7 P} {R:Exit→TS→Prop}
theorem QB (Z:FZ) (af:cf.n≤1000000) (s:TS) (d:Option Nat) (v:TV):(gR cf.n s d v).tT cf.n=putA (s.tT cf.n) d v.aH∧(gR cf.n s d v).bw=s.bw∧(@TS.ac Z cf.n (gR cf.n s d v)).H=(@TS.ac Z cf.n s).H:=by
 have cg:= @sf Z cf.n af s d v
 exact⟨congrArg St.T cg,congrArg St.L cg,by rw[cg]⟩
theorem GF (af:cf.n≤1000000) {cW:lm P} {ops:Array Oper} {K:TS→aj} {Kp:List AV→List (Nat×List AV)→List Blk→Prop} (hK: ∀s (Z:FZ),(K s).den R→ @Fits Z s→Kp (s.tT cf.n) s.bw (@TS.ac Z cf.n s).H): ∀(l:List Item) (Z:FZ) (s:TS),@Fits Z s→l.all (·.lit)=true→(nw cf cW ops l s K).den R→
  gM P [] ops l (s.tT cf.n) s.bw (@TS.ac Z cf.n s).H Kp
 | [],Z,s,an,_,h=>hK s Z h an
 | x::r,Z,s,an,ak,h=>by
  simp only[List.all_cons,Bool.and_eq_true] at ak
  show jN ops x.lit (opI ops x.i) _ _ _
  rw[ak.1]
  have next: ∀(s' s2:TS) (Z2:FZ) (v:TV),@Fits Z2 s2→s2.tT cf.n=s'.tT cf.n→(nw cf cW ops r (gR cf.n s2 (opI ops x.i).dst v) K).den R→gM P [] ops r (putA (s'.tT cf.n) (opI ops x.i).dst v.aH) s2.bw (@TS.ac Z2 cf.n s2).H Kp:=fun s' s2 Z2 v hf e hv=>by
   have:=GF af hK r Z2 _ (@se Z2 _ af _ _ _ hf) ak.2 hv
   obtain⟨q1,q2,q3⟩:=QB (cf:=cf) Z2 af s2 (opI ops x.i).dst v
   rw[q1,q2,q3] at this
   rw[←e];exact this
  refine CL (Z:=Z) af an (fun s' hf e h=> ?_) (fun s' hf e h=> ?_) h
  ·have eV:s'.bw=s.bw:=congrArg St.L e
   rw[←e,←eV]
   cases al:x.q with
   | true=>
    rw[al] at h
    show hU P (opI ops x.i) (bt (s'.ac cf.n).T) (s'.ac cf.n).L (s'.ac cf.n).H _
    cases ai:k7 (opI ops x.i) with
    | true=>
     rw[ai] at h
     simp only at h
     split at h
     ·rename_i d aL
      obtain⟨h1,h2⟩:=h
      rw[hH]
      have:=congrFun (congrFun h1 (s'.ac cf.n).H) (fun v=>gM P [] ops r (putA (s'.ac cf.n).T (opI ops x.i).dst v) (s'.ac cf.n).L (s'.ac cf.n).H Kp)
      have this:hU P (opI ops x.i) (fun x=>(bI cf.n s' x).aH) (s'.ac cf.n).L (s'.ac cf.n).H (fun v=>gM P [] ops r (putA (s'.ac cf.n).T (opI ops x.i).dst v) (s'.ac cf.n).L (s'.ac cf.n).H Kp)=_:=this
      refine Eq.mpr this ?_
      exact next s' s' Z (.lp d 0) hf rfl h2
     ·exact h.elim
    | false=>
     rw[ai] at h
     rw[pB ai]
     simp only at h
     split at h
     ·rename_i c a b dG
      have:=F0 (Z:=Z) af (Kp:=fun v=>gM P [] ops r (putA (s'.ac cf.n).T (opI ops x.i).dst v) (s'.ac cf.n).L (s'.ac cf.n).H Kp) hf (fun v s2 hf2 e2 hv=>by
       have:=next s' s2 Z v hf2 (congrArg St.T e2) hv
       have cg:s2.bw=s'.bw:=congrArg St.L e2
       rw[cg,e2] at this;exact this) h
      unfold gp
      rw[dG];exact this
     ·exact Gs hf (Kp:=fun v=>gM P [] ops r (putA (s'.ac cf.n).T (opI ops x.i).dst v) (s'.ac cf.n).L (s'.ac cf.n).H Kp) (fun v hv=>next s' s' Z v hf rfl hv) h
   | false=>
    rw[al] at h
    simp only at h
    split at h
    ·exact h.elim
    ·exact HW (Z:=Z) af hf (Kp:=fun v L' H'=>mi P ops x.gg (s'.tT cf.n) L' H'∧gM P [] ops r (putA (s'.tT cf.n) (opI ops x.i).dst v) L' H' Kp) (fun v s2 Z2 hv hf2 e2=>by
      obtain⟨q1,q2⟩:=Cy (Z:=Z2) hv
      have q1:mi P ops x.gg (s2.tT cf.n) s2.bw (@TS.ac Z2 cf.n s2).H:=q1
      rw[e2] at q1
      exact⟨q1,next s' s2 Z2 v hf2 e2 q2⟩) h
  ·have:=next s' s' Z (.tup []) hf rfl h
   have eH:s'.tT cf.n=s.tT cf.n:=congrArg St.T e
   have hA:s'.bw=s.bw:=congrArg St.L e
   rw[eH,hA,e] at this
   exact this
end
end Go.Proofs.Ytglpfccgmfhkdaa.Fw
