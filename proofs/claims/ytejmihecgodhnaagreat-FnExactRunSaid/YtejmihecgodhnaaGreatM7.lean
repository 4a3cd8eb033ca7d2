/- What the laws call, told of whole worlds. -/
import Derived.Test.YtejmihecgodhnaaGreatM6
set_option linter.unusedVariables false
namespace Go.Proofs.YtejmihecgodhnaaGreat.Fw
open Go Go.RowKit
theorem K_ {p:aL} {l:Int} (hk:jw p l) {w:World} {v:Value} (h:V2 (Env.at w) (.agg (bD false p)) v):
    Calls Tryz.prog 6 #[v,.int .i64 l] w fun e w'=>e= .returned (.int .i64 (sI p l))∧Below w.heap.size w w':=
  bn.int (vs:=[v,.int .i64 l]) (ak9 p l hk) (.cons h (.cons (a1.int _ _) .nil))
theorem JV {p:aL} {w:World} {B:Nat→Prop} {v:Value} (h:ep w B (.agg (bD false p)) v): ∃bR bE bO bz bM bu,v= .agg #[.int .i64 p.ao,.slice bR p.a7.length bE,.slice bO p.O.length bz,.slice bM p.bG.length bu,.int .i64 p.cB]∧
    a1 w B (fun _=>False) (.aP (p.a7.map cx) false false) (.slice bR p.a7.length bE)∧a1 w B (fun _=>False) (.aP (p.O.map (dj false)) false false) (.slice bO p.O.length bz)∧a1 w B (fun _=>False) (.aP (p.bG.map (hq aR false)) false false) (.slice bM p.bG.length bu):=by
  obtain⟨vs,rfl,ab⟩:=(show ∃vs:List Value,v= .agg vs.toArray∧ah (b6 (Env.ro w B)) (bD false p) vs from h)
  obtain⟨a,vs,rfl,aw,ab⟩:=ab.cons_inv
  obtain⟨b,vs,rfl,hb,ab⟩:=ab.cons_inv
  obtain⟨c,vs,rfl,hc,ab⟩:=ab.cons_inv
  obtain⟨d,vs,rfl,aY,ab⟩:=ab.cons_inv
  obtain⟨e,vs,rfl,he,ab⟩:=ab.cons_inv
  obtain rfl:=ab.pT
  have aw:a1 w _ _ (.int .i64 p.ao) a:=aw
  have he:a1 w _ _ (.int .i64 p.cB) e:=he
  cases aw;cases he
  obtain⟨bR,bE,rfl,fA⟩:=vB (mS hb)
  obtain⟨bO,bz,rfl,c5⟩:=vB (mS hc)
  obtain⟨bM,bu,rfl,dP⟩:=vB (mS aY)
  rw[List.length_map] at fA c5 dP
  exact⟨bR,bE,bO,bz,bM,bu,by simp,fA,c5,dP⟩
theorem ap6 {p:Frame} {w:World} {B:Nat→Prop} {v:Value} (h:ep w B (.agg (cq false p)) v): ∃bR bE bO bz bM bu,v= .agg #[.bool p.ok,.slice bR p.aE.length bE,.slice bO p.ay.length bz,.slice bM p.O.length bu]∧
    a1 w B (fun _=>False) (.aP (p.aE.map aR) false false) (.slice bR p.aE.length bE)∧a1 w B (fun _=>False) (.aP (p.ay.map ba) false false) (.slice bO p.ay.length bz)∧a1 w B (fun _=>False) (.aP (p.O.map (gE false)) false false) (.slice bM p.O.length bu):=by
  obtain⟨vs,rfl,ab⟩:=(show ∃vs:List Value,v= .agg vs.toArray∧ah (b6 (Env.ro w B)) (cq false p) vs from h)
  obtain⟨a,vs,rfl,aw,ab⟩:=ab.cons_inv
  obtain⟨b,vs,rfl,hb,ab⟩:=ab.cons_inv
  obtain⟨c,vs,rfl,hc,ab⟩:=ab.cons_inv
  obtain⟨d,vs,rfl,aY,ab⟩:=ab.cons_inv
  obtain rfl:=ab.pT
  have aw:a1 w _ _ (.bool p.ok) a:=aw
  cases aw
  obtain⟨bR,bE,rfl,fA⟩:=vB (mS hb)
  obtain⟨bO,bz,rfl,c5⟩:=vB (mS hc)
  obtain⟨bM,bu,rfl,dP⟩:=vB (mS aY)
  rw[List.length_map] at fA c5 dP
  exact⟨bR,bE,bO,bz,bM,bu,by simp,fA,c5,dP⟩
theorem GF {p:aL} (ab:P6 p) {w:World} {v:Value} (h:V2 (Env.at w) (.agg (bD false p)) v):
    Calls Tryz.prog 9 #[v] w fun e w'=> ∃bR bE bO bz bM bu,e= .returned (.agg #[.int .i64 p.ao,.slice bR p.a7.length bE,.slice bO p.O.length bz,.slice bM p.bG.length bu,.int .i64 p.cB])∧Below w.heap.size w w'∧
      ep w' (ec w w') (.agg (bD false p)) (.agg #[.int .i64 p.ao,.slice bR p.a7.length bE,.slice bO p.O.length bz,.slice bM p.bG.length bu,.int .i64 p.cB]):=
  (bn.CA (e:= .eO) (x:=p) (vs:=[v]) (als p ab) (.cons h .nil)).mono fun e w' ⟨ea,h1,h2,aC⟩=>by
    obtain⟨bR,bE,bO,bz,bM,bu,rfl,_⟩:=JV aC
    exact⟨bR,bE,bO,bz,bM,bu,h1,h2,aC⟩
theorem aeF {p:aL} {w:World} {v u:Value} (h:V2 (Env.at w) (.agg (bD false p)) v) (k:V2 (Env.at w) (.agg (bD false p)) u):
    Calls Tryz.prog 13 #[v,u] w fun e w'=>e= .returned (.bool true)∧Below w.heap.size w w':=by
  have:=bn.bool (vs:=[v,u]) (akO p p) (.cons h (.cons k .nil))
  unfold eqv at this
  rw[decide_eq_true rfl] at this
  exact this
def wS (p:aL):Nat:=p.a7.length+(p.O.map y3).sum+(p.bG.map List.length).sum
theorem aeL {p:aL} {w:World} {B:Nat→Prop} {v:Value} {k:Int} (h:ep w B (.agg (bD false p)) v) (dF: ∀c,B c→Plain w c) (aA:0≤k) (h1:k+wS p≤4611686018427387904):
    Calls Tryz.prog 15 #[v,.int .i64 k] w fun e w'=>e= .returned (.int .i64 (k+(wS p:Nat)))∧dY B w w':=by
  obtain⟨bR,bE,bO,bz,bM,bu,rfl,fA,c5,dP⟩:=JV h
  have hb: ∀c,B c→B c∧Plain w c:=fun c hc=>⟨hc,dF c hc⟩
  refine(amf w B p.ao p.cB bR bO bM _ _ _ _ _ _ _ _ _ k (IA fA hb (fun _ h=>h.elim)) (aka c5 hb (fun _ h=>h.elim)) (aj8 dP hb (fun _ h=>h.elim)) aA (by unfold wS at h1;omega)).mono ?_
  rintro e w' ⟨rfl,hk⟩
  exact⟨by congr 2;unfold wS;omega,hk⟩
theorem ach {α:Type} {f g:α→Nat} (c:Nat) (h: ∀x,f x≤c*g x): ∀xs:List α,(xs.map f).sum≤c*(xs.map g).sum
  | []=>by simp
  | x::r=>by
    rw[List.map_cons,List.map_cons,List.sum_cons,List.sum_cons,Nat.mul_add]
    have:=h x
    have:=ach c h r
    omega
theorem amk (p:aL):wS p≤2*mz p:=by
  unfold wS mz CU xY
  have:=ach (f:=y3) (g:=vE) 2 (fun x=>by unfold y3 vE;omega) p.O
  omega
theorem pu {w:World} {b:Nat} {bE bz bu ke mg:Value} {ty:TypeId} (h:w.heap[b]?=some (.cells #[bE,bz,bu,ke,mg] ty (0,0))):w.cell? ⟨b,0,none⟩=some bE∧w.cell? ⟨b,1,none⟩=some bz∧w.cell? ⟨b,2,none⟩=some bu∧w.cell? ⟨b,3,none⟩=some ke∧w.cell? ⟨b,4,none⟩=some mg:=by
  refine⟨?_,?_,?_,?_,?_⟩<;>simp[World.cell?,h]
theorem y6 {aS w:World} {a:AV} {v:Value} (h:ep w (ec aS w) a v):V2 (Env.at w) a v:=h.at fun c hc=>hc.2.1
theorem aah {W w:World} {l:List dE} (h:cI W w l) (i j:Nat) {b b4:Nat} {bE bz bu ke mg f0 f1 f2 f3 f4:Value} {t kc:TypeId} (e:l[i]?=some (pJ b #[bE,bz,bu,ke,mg] t):=by rfl) (bX:l[j]?=some (pJ b4 #[f0,f1,f2,f3,f4] kc):=by rfl):
    cI W w l∧w.cell? ⟨b,0,none⟩=some bE∧w.cell? ⟨b,1,none⟩=some bz∧w.cell? ⟨b,2,none⟩=some bu∧w.cell? ⟨b,3,none⟩=some ke∧w.cell? ⟨b,4,none⟩=some mg∧w.cell? ⟨b4,0,none⟩=some f0∧w.cell? ⟨b4,1,none⟩=some f1∧w.cell? ⟨b4,2,none⟩=some f2∧w.cell? ⟨b4,3,none⟩=some f3∧w.cell? ⟨b4,4,none⟩=some f4:=by
  obtain⟨a0,J,a2,a3,a4⟩:=pu (h.get i e)
  obtain⟨b0,b1,b2,r4,uA⟩:=pu (h.get j bX)
  exact⟨h,a0,J,a2,a3,a4,b0,b1,b2,r4,uA⟩
open Go
abbrev dm:=List (Nat×Nat×Bool)
def bY (f:Nat→dm):Nat→dm
 | 0=>[]
 | n+1=>bY f n++f n
theorem Dr {f:Nat→dm}: ∀{n j:Nat},j≤n→ ∃r,bY f n=bY f j++r
 | 0,j,h=>⟨[],by obtain rfl:j=0:=by omega
                 rfl⟩
 | n+1,j,h=>by
  by_cases e:j=n+1
  ·subst e;exact⟨[],(List.append_nil _).symm⟩
  ·obtain⟨r,ak⟩:=Dr (f:=f) (n:=n) (j:=j) (by omega)
   exact⟨r++f n,by rw[←List.append_assoc,←ak];rfl⟩
def wR:Bool→Int→Value
 | true,k=> .bool (k%3==0)
 | false,k=> .int .i64 k
def kJ (L:dm):Prop:=L.Pairwise fun x y=> ¬(x.1=y.1∧x.2.1=y.2.1)
def e8 (w:World):dm→Int→Prop
 | [],_=>True
 | x::L,k=>w.cell? ⟨x.1,x.2.1,none⟩=some (wR x.2.2 k)∧e8 w L (k+1)
theorem e8.qk {w:World} {M:dm}: ∀{L:dm} {k:Int},e8 w (L++M) k↔e8 w L k∧e8 w M (k+(L.length:Nat))
 | [],k=>by simp[e8]
 | x::L,k=>by
  show(_∧e8 w (L++M) (k+1))↔(_∧e8 w L (k+1))∧_
  rw[e8.qk (L:=L),and_assoc,show k+1+(L.length:Nat)=k+((x::L).length:Nat) by simp;omega]
theorem e8.cT {w w':World}: ∀{L:dm} {k:Int},e8 w L k→(∀x∈L,(∃u,w.cell? ⟨x.1,x.2.1,none⟩=some u)→w'.cell? ⟨x.1,x.2.1,none⟩=w.cell? ⟨x.1,x.2.1,none⟩)→e8 w' L k
 | [],k,_,_=>trivial
 | x::L,k,h,hk=>⟨(hk x (List.mem_cons_self ..) ⟨_,h.1⟩).trans h.1,e8.cT h.2 fun y aU=>hk y (List.mem_cons_of_mem _ aU)⟩
theorem e8.here {w:World}: ∀{L:dm} {k:Int},e8 w L k→ ∀x∈L,∃u,w.cell? ⟨x.1,x.2.1,none⟩=some u
 | x::L,k,h,y,aU=>by
  rcases List.mem_cons.1 aU with rfl | aU
  ·exact⟨_,h.1⟩
  ·exact e8.here h.2 y aU
theorem x1 {w:World} {b o:Nat} {u:Value} (h:w.cell? ⟨b,o,none⟩=some u):b<w.heap.size:=by
 rcases Nat.lt_or_ge b w.heap.size with h' | h'
 ·exact h'
 ·simp[World.cell?,Array.getElem?_eq_none h'] at h
inductive dZ (w:World) (S:Nat→Prop):aX→Nat→Nat→dm→Value→Prop where
 | int (c o:Nat) (n:Int):dZ w S .int c o [(c,o,false)] (.int .i64 n)
 | bool (c o:Nat) (b:Bool):dZ w S .bool c o [(c,o,true)] (.bool b)
 | aP {e:aX} {a b n cap:Nat} {A:Option Addr} {Ls:Nat→Nat→dm} {vs:Nat→Nat→Value} (c o:Nat) (h1:n≤cap∧n≤4611686018427387904)
   (hc:0<n→ ∃an ty,A=some ⟨c,o,none⟩∧S c∧w.heap[c]?=some (.cells an ty (0,0))∧ ∀i j,i<n→j<e.bN.length→an[o+(i*e.bN.length+j)]?=some (vs i j))
   (ak: ∀i j bX,i<n→e.bN[j]?=some bX→dZ w S bX c (o+(i*e.bN.length+j)) (Ls i j) (vs i j)):dZ w S (.l e) a b (bY (fun i=>bY (Ls i) e.bN.length) n) (.slice A n cap)
theorem dZ.nE {w:World} {S:Nat→Prop} {e:aX} {a b:Nat} {L:dm} {v:Value} (h:dZ w S (.l e) a b L v): ∃A n cap,v= .slice A n cap:=by cases h;exact⟨_,_,_,rfl⟩
theorem dZ.of_int {w:World} {S:Nat→Prop} {a b:Nat} {L:dm} {v:Value} (h:dZ w S .int a b L v):L=[(a,b,false)]∧ ∃n,v= .int .i64 n:=by cases h;exact⟨rfl,_,rfl⟩
theorem dZ.of_bool {w:World} {S:Nat→Prop} {a b:Nat} {L:dm} {v:Value} (h:dZ w S .bool a b L v):L=[(a,b,true)]∧ ∃n,v= .bool n:=by cases h;exact⟨rfl,_,rfl⟩
theorem dZ.qJ {w:World} {S:Nat→Prop} {e:aX} {a b:Nat} {L:dm} {n:Int} (h:dZ w S e a b L (.int .i64 n)):e= .int∧L=[(a,b,false)]:=by cases h;exact⟨rfl,rfl⟩
theorem dZ.qm {w:World} {S:Nat→Prop} {e:aX} {a b:Nat} {L:dm} {n:Bool} (h:dZ w S e a b L (.bool n)):e= .bool∧L=[(a,b,true)]:=by cases h;exact⟨rfl,rfl⟩
theorem dZ.Px {w:World} {S:Nat→Prop} {e:aX} {a b:Nat} {L:dm} {v:Value} (h:dZ w S (.l e) a b L v) (hB b4:Nat):dZ w S (.l e) hB b4 L v:=by
 cases h with
 | aP c o h1 hc ak=>exact .aP c o h1 hc ak
theorem dZ.zero {w:World} {S:Nat→Prop} {e:aX} {a b cap:Nat} {A:Option Addr} {L:dm} (h:dZ w S (.l e) a b L (.slice A 0 cap)):L=[]:=by
 cases h;rfl
theorem dZ.cT {w w':World} {S nm:Nat→Prop} (hk: ∀c,S c→w'.heap[c]?=w.heap[c]?) (hs: ∀c,S c→nm c) {e:aX} {a b:Nat} {L:dm} {v:Value} (h:dZ w S e a b L v):dZ w' nm e a b L v:=by
 induction h with
 | int c o n=>exact .int c o n
 | bool c o b=>exact .bool c o b
 | aP c o h1 hc ak bp=>
  refine .aP c o h1 (fun ag=> ?_) bp
  obtain⟨an,ty,q1,q2,q3,q4⟩:=hc ag
  exact⟨an,ty,q1,hs c q2,(hk c q2).trans q3,q4⟩
theorem dZ.fL {w w':World} {S nm:Nat→Prop} (hw:dY nm w w') {e:aX} {a b:Nat} {L:dm} {v:Value} (h:dZ w S e a b L v):dZ w' S e a b L v:=by
 induction h with
 | int c o n=>exact .int c o n
 | bool c o b=>exact .bool c o b
 | @aP e a b n cap A Ls vs c o h1 hc ak bp=>
  by_cases ag:0<n
  ·obtain⟨an,ty,cm,dr,bt,hv⟩:=hc ag
   obtain⟨b5,q1,q2,q3⟩:=hw.at bt
   have key: ∀i j,i<n→j<e.bN.length→ ∃u,b5[o+(i*e.bN.length+j)]?=some u:=fun i j hi ac=>by
    rcases q3 (o+(i*e.bN.length+j)) with q | ⟨_,_,_,q⟩ | ⟨_,_,_,q⟩
    ·exact⟨_,q.trans (hv i j hi ac)⟩
    ·exact⟨_,q⟩
    ·exact⟨_,q⟩
   refine .aP (vs:=fun i j=>(b5[o+(i*e.bN.length+j)]?).getD undef) c o h1 (fun _=>⟨b5,ty,cm,dr,q1,fun i j hi ac=> ?_⟩) fun i j bX hi ac=> ?_
   ·obtain⟨u,hu⟩:=key i j hi ac
    rw[hu];rfl
   ·have ki:j<e.bN.length:=(List.getElem?_eq_some_iff.1 ac).1
    have hk:=ak i j bX hi ac
    have tp:=hv i j hi ki
    show dZ w' S bX c _ (Ls i j) ((b5[o+(i*e.bN.length+j)]?).getD undef)
    rcases q3 (o+(i*e.bN.length+j)) with q | ⟨x,y,jO,oa⟩ | ⟨x,y,jO,oa⟩
    ·rw[q,tp];exact bp i j bX hi ac
    ·rw[tp] at jO
     rw[Option.some.inj jO] at hk
     obtain⟨rfl,hm⟩:=hk.qJ
     rw[oa,hm];exact .int _ _ y
    ·rw[tp] at jO
     rw[Option.some.inj jO] at hk
     obtain⟨rfl,hm⟩:=hk.qm
     rw[oa,hm];exact .bool _ _ y
  ·exact .aP (vs:=vs) c o h1 (fun h=>absurd h ag) fun i j bX hi _=>absurd (Nat.lt_of_le_of_lt (Nat.zero_le _) hi) ag
theorem dZ.elem {w:World} {S:Nat→Prop} {e:aX} {a b n cap:Nat} {A:Option Addr} {L:dm} (h:dZ w S (.l e) a b L (.slice A n cap)):
  n≤4611686018427387904∧ ∃(c o:Nat) (Ls:Nat→Nat→dm),(0<n→A=some ⟨c,o,none⟩)∧L=bY (fun i=>bY (Ls i) e.bN.length) n∧
   (∀i j bX,i<n→e.bN[j]?=some (.l bX)→ ∃A' kY oC,∀wr,dY S w wr→wr.cell? ⟨c,o+(i*e.bN.length+j),none⟩=some (.slice A' kY oC)∧dZ wr S (.l bX) 0 0 (Ls i j) (.slice A' kY oC))∧
   (∀i j,i<n→e.bN[j]?=some .int→Ls i j=[(c,o+(i*e.bN.length+j),false)]∧ ∀wr,dY S w wr→(∃u,wr.cell? ⟨c,o+(i*e.bN.length+j),none⟩=some u)∧wr.frozen? ⟨c,o+(i*e.bN.length+j),none⟩=false∧ ∀x,dY S w (wr.setCell ⟨c,o+(i*e.bN.length+j),none⟩ (.int .i64 x)))∧
   ∀i j,i<n→e.bN[j]?=some .bool→Ls i j=[(c,o+(i*e.bN.length+j),true)]∧ ∀wr,dY S w wr→(∃u,wr.cell? ⟨c,o+(i*e.bN.length+j),none⟩=some u)∧wr.frozen? ⟨c,o+(i*e.bN.length+j),none⟩=false∧ ∀x,dY S w (wr.setCell ⟨c,o+(i*e.bN.length+j),none⟩ (.bool x)):=by
 cases h with
 | @aP _ _ _ _ _ _ Ls vs c o h1 hc ak=>
 refine⟨h1.2,c,o,Ls,fun ag=> ?_,rfl,fun i j bX hi ac=> ?_,fun i j hi ac=> ?_,fun i j hi ac=> ?_⟩
 ·obtain⟨an,ty,cm,_⟩:=hc ag
  exact cm
 ·obtain⟨an,ty,cm,dr,bt,hv⟩:=hc (by omega)
  have hk:=ak i j _ hi ac
  have hu:=hv i j hi (List.getElem?_eq_some_iff.1 ac).1
  obtain⟨A',kY,oC,aN⟩:=hk.nE
  rw[aN] at hk hu
  exact⟨A',kY,oC,fun wr hw=>⟨hw.head bt hu,(hk.fL hw).Px 0 0⟩⟩
 ·obtain⟨an,ty,cm,dr,bt,hv⟩:=hc (by omega)
  have hk:=ak i j _ hi ac
  have hu:=hv i j hi (List.getElem?_eq_some_iff.1 ac).1
  obtain⟨h1,aI,aN⟩:=hk.of_int
  refine⟨h1,fun wr hw=> ?_⟩
  obtain⟨b5,q1,q2,q3⟩:=hw.at bt
  have U:=q3 (o+(i*e.bN.length+j))
  rw[hu,aN] at U
  have hs: ∃y,b5[o+(i*e.bN.length+j)]?=some (.int .i64 y):=by
   rcases U with q | ⟨_,y,_,q⟩ | ⟨_,_,q,_⟩
   ·exact⟨_,q⟩
   ·exact⟨_,q⟩
   ·cases q
  obtain⟨y,aU⟩:=hs
  exact⟨⟨_,by simp only[World.cell?,q1];exact aU⟩,by simp[World.frozen?,q1],fun x=>hw.trans (dY.setCell q1 dr (by rw[aU];exact .inr (.inl ⟨_,_,rfl,rfl⟩)))⟩
 ·obtain⟨an,ty,cm,dr,bt,hv⟩:=hc (by omega)
  have hk:=ak i j _ hi ac
  have hu:=hv i j hi (List.getElem?_eq_some_iff.1 ac).1
  obtain⟨h1,aI,aN⟩:=hk.of_bool
  refine⟨h1,fun wr hw=> ?_⟩
  obtain⟨b5,q1,q2,q3⟩:=hw.at bt
  have U:=q3 (o+(i*e.bN.length+j))
  rw[hu,aN] at U
  have hs: ∃y,b5[o+(i*e.bN.length+j)]?=some (.bool y):=by
   rcases U with q | ⟨_,_,q,_⟩ | ⟨_,y,_,q⟩
   ·exact⟨_,q⟩
   ·cases q
   ·exact⟨_,q⟩
  obtain⟨y,aU⟩:=hs
  exact⟨⟨_,by simp only[World.cell?,q1];exact aU⟩,by simp[World.frozen?,q1],fun x=>hw.trans (dY.setCell q1 dr (by rw[aU];exact .inr (.inr ⟨_,_,rfl,rfl⟩)))⟩
structure gC (w w':World) (S:Nat→Prop) (L:dm) (k:Int):Prop where
 fL:dY S w w'
 wZ: ∀c o,c<w.heap.size→(∀x∈L,¬(x.1=c∧x.2.1=o))→w'.cell? ⟨c,o,none⟩=w.cell? ⟨c,o,none⟩
 pR:e8 w' L k
theorem gC.nil (w:World) (S:Nat→Prop) (k:Int):gC w w S [] k:=⟨.refl _ _,fun _ _ _ _=>rfl,trivial⟩
theorem kJ.left {L M:dm} (h:kJ (L++M)):kJ L:=(List.pairwise_append.1 h).1
theorem kJ.right {L M:dm} (h:kJ (L++M)):kJ M:=(List.pairwise_append.1 h).2.1
theorem gC.bY {w bq bo:World} {S:Nat→Prop} {L M:dm} {k kU:Int} (h:gC w bq S L k) (g:gC bq bo S M kU) (ja:kJ (L++M)) (e:kU=k+(L.length:Nat)):gC w bo S (L++M) k where
 fL:=h.fL.trans g.fL
 wZ:=fun c o hc hx=>(g.wZ c o (Nat.lt_of_lt_of_le hc h.fL.size) fun x hm=>hx x (List.mem_append.2 (.inr hm))).trans (h.wZ c o hc fun x hm=>hx x (List.mem_append.2 (.inl hm)))
 pR:=by
  subst e
  refine e8.qk.2 ⟨h.pR.cT fun x hx ⟨u,hu⟩=>g.wZ _ _ (x1 hu) fun y aU e=> ?_,g.pR⟩
  exact(List.pairwise_append.1 ja).2.2 x hx y aU ⟨e.1.symm,e.2.symm⟩
theorem Tk {w:World} {b o:Nat} {u v:Value} (h:w.cell? ⟨b,o,none⟩=some u):(w.setCell ⟨b,o,none⟩ v).cell? ⟨b,o,none⟩=some v:=by
 unfold World.cell? at h ⊢
 simp only at h ⊢
 cases hb:w.heap[b]? with
 | none=>rw[hb] at h;simp at h
 | some x=>
  rw[hb] at h
  cases x with
  | cells an ty Ur=>
   simp only at h
   have au:=(Array.getElem?_eq_some_iff.1 h).1
   simp[World.setCell,Array.getElem?_modify,hb,au]
  | _=>simp at h
theorem K3 {w:World} {b o c q:Nat} {v:Value} (h: ¬(b=c∧o=q)):(w.setCell ⟨b,o,none⟩ v).cell? ⟨c,q,none⟩=w.cell? ⟨c,q,none⟩:=by
 by_cases e:b=c
 ·subst e
  have e2:o≠q:=fun e=>h ⟨rfl,e⟩
  unfold World.cell?
  simp only[World.setCell,Array.getElem?_modify,if_pos]
  cases hb:w.heap[b]? with
  | none=>simp
  | some x=>cases x<;>simp[e2]
 ·unfold World.cell?
  rw[RowKit.Below.heap_setCell _ _ _ _ (fun bX=>e bX.symm)]
theorem gC.one {w:World} {S:Nat→Prop} {c o:Nat} {b:Bool} {v:Value} {k:Int} (hc: ∃u,w.cell? ⟨c,o,none⟩=some u) (hk:dY S w (w.setCell ⟨c,o,none⟩ v)) (hv:v=wR b k):gC w (w.setCell ⟨c,o,none⟩ v) S [(c,o,b)] k where
 fL:=hk
 wZ:=fun cv h7 _ hx=>K3 (hx _ (List.mem_singleton.2 rfl))
 pR:=by subst hv;obtain⟨u,hu⟩:=hc;exact⟨Tk hu,trivial⟩
theorem gC.below {w bq bo:World} {S:Nat→Prop} {L:dm} {k:Int} (hb:RowKit.Below w.heap.size w bq) (h:gC bq bo S L k):gC w bo S L k:=
 ⟨(dY.below hb).trans h.fL,fun c o hc hx=>(h.wZ c o (Nat.lt_of_lt_of_le hc hb.size) hx).trans (by simp only[World.cell?,hb.block c hc]),h.pR⟩
theorem gC.snoc {w wr:World} {S:Nat→Prop} {L:dm} {k:Int} (h:gC w wr S L k) {c o:Nat} {b:Bool} {v:Value} (hc: ∃u,wr.cell? ⟨c,o,none⟩=some u) (hk:dY S w (wr.setCell ⟨c,o,none⟩ v)) (ja:kJ (L++[(c,o,b)])) (hv:v=wR b (k+(L.length:Nat))):gC w (wr.setCell ⟨c,o,none⟩ v) S (L++[(c,o,b)]) k where
 fL:=hk
 wZ:=fun cv h7 au hx=>(K3 (hx _ (List.mem_append.2 (.inr (List.mem_singleton.2 rfl))))).trans (h.wZ cv h7 au fun x hm=>hx x (List.mem_append.2 (.inl hm)))
 pR:=by
  subst hv
  obtain⟨u,hu⟩:=hc
  refine e8.qk.2 ⟨h.pR.cT fun x hx _=>K3 fun e=> ?_,Tk hu,trivial⟩
  exact(List.pairwise_append.1 ja).2.2 x hx _ (List.mem_singleton.2 rfl) ⟨e.1.symm,e.2.symm⟩
def row (c o:Nat) (b:Bool):Nat→dm
 | 0=>[]
 | m+1=>row c o b m++[(c,o+m,b)]
theorem vp (c o:Nat) (b:Bool): ∀m,(row c o b m).length=m
 | 0=>rfl
 | m+1=>by show(row c o b m++_).length=_;rw[List.length_append,vp c o b m];rfl
theorem Z9 (c o:Nat) (b:Bool) (m:Nat): ∀n,row c o b (m+n)=row c o b m++row c (o+m) b n
 | 0=>(List.append_nil _).symm
 | n+1=>by
  show row c o b (m+n)++[(c,o+(m+n),b)]=_++(row c (o+m) b n++[(c,o+m+n,b)])
  rw[Z9 c o b m n,List.append_assoc,Nat.add_assoc]
theorem zi {c o:Nat} {b:Bool} {x:Nat×Nat×Bool}: ∀{m},x∈row c o b m↔ ∃i,i<m∧x=(c,o+i,b)
 | 0=>by simp[row]
 | m+1=>by
  show x∈row c o b m++_↔_
  rw[List.mem_append,zi (m:=m),List.mem_singleton]
  constructor
  ·rintro(⟨i,h1,h2⟩ | h)
   ·exact⟨i,by omega,h2⟩
   ·exact⟨m,by omega,h⟩
  ·rintro⟨i,h1,h2⟩
   by_cases e:i=m
   ·subst e;exact .inr h2
   ·exact .inl ⟨i,by omega,h2⟩
theorem e8.row {w:World} {c o:Nat} {b:Bool} {k:Int}: ∀{m:Nat},e8 w (Fw.row c o b m) k↔ ∀i,i<m→w.cell? ⟨c,o+i,none⟩=some (wR b (k+(i:Nat)))
 | 0=>⟨fun _ i h=>by omega,fun _=>trivial⟩
 | m+1=>by
  show e8 w (Fw.row c o b m++_) k↔_
  rw[e8.qk,e8.row (m:=m),vp]
  constructor
  ·rintro⟨h1,h2,_⟩ i hi
   by_cases e:i=m
   ·subst e;exact h2
   ·exact h1 i (by omega)
  ·intro h
   exact⟨fun i hi=>h i (by omega),h m (by omega),trivial⟩
theorem K2 {g:Nat→dm} {c o:Nat} {b:Bool}: ∀{m:Nat},(∀j,j<m→g j=[(c,o+j,b)])→Fw.bY g m=row c o b m
 | 0,_=>rfl
 | m+1,h=>by show Fw.bY g m++g m=_;rw[K2 fun j ac=>h j (by omega),h m (by omega)];rfl
theorem K1 {g:Nat→dm} {c o q:Nat} {b:Bool}: ∀{m:Nat},(∀j,j<m→g j=row c (o+j*q) b q)→Fw.bY g m=row c o b (m*q)
 | 0,_=>by rw[Nat.zero_mul];rfl
 | m+1,h=>by show Fw.bY g m++g m=_;rw[K1 fun j ac=>h j (by omega),h m (by omega),←Z9,Nat.succ_mul]
theorem dZ.flat {w:World} {S:Nat→Prop} {κ e:aX} {nq:Bool} {q n cap a b:Nat} {A:Option Addr} {L:dm} (A1:κ= .int∧nq=false∨κ= .bool∧nq=true) (bB:e.bN=List.replicate q κ) (h:dZ w S (.l e) a b L (.slice A n cap)):
  n≤4611686018427387904∧ ∃c o:Nat,(0<n→A=some ⟨c,o,none⟩)∧L=row c o nq (n*q)∧
   (0<n→S c∧ ∃(an:Array Value) (ty:TypeId),w.heap[c]?=some (.cells an ty (0,0))∧(0<q→o+n*q≤an.size)∧ ∀i,i<n*q→ ∃u,an[o+i]?=some u∧ ∀z,qi (some u) (some (wR nq z))):=by
 cases h with
 | @aP _ _ _ _ _ _ Ls vs c o h1 hc ak=>
 have au:e.bN.length=q:=by rw[bB,List.length_replicate]
 rw[au] at hc ak ⊢
 have ac: ∀j,j<q→e.bN[j]?=some κ:=fun j ac=>by rw[bB,List.getElem?_replicate,if_pos ac]
 have one: ∀i j,i<n→j<q→Ls i j=[(c,o+i*q+j,nq)]∧ ∀z,qi (some (vs i j)) (some (wR nq z)):=fun i j hi js=>by
  have hk:=ak i j κ hi (ac j js)
  rw[show o+(i*q+j)=o+i*q+j by omega] at hk
  rcases A1 with⟨rfl,rfl⟩ | ⟨rfl,rfl⟩
  ·obtain⟨aN,m,e2⟩:=hk.of_int
   exact⟨aN,fun z=> .inr (.inl ⟨_,_,by rw[e2],rfl⟩)⟩
  ·obtain⟨aN,m,e2⟩:=hk.of_bool
   exact⟨aN,fun z=> .inr (.inr ⟨_,_,by rw[e2],rfl⟩)⟩
 refine⟨h1.2,c,o,fun ag=> ?_,K1 fun i hi=>K2 fun j js=>(one i j hi js).1,fun ag=> ?_⟩
 ·obtain⟨an,ty,cm,_⟩:=hc ag
  exact cm
 ·obtain⟨an,ty,cm,dr,bt,hv⟩:=hc ag
  refine⟨dr,an,ty,bt,fun aA=> ?_,fun i hi=> ?_⟩
  ·have:=(Array.getElem?_eq_some_iff.1 (hv (n - 1) (q - 1) (by omega) (by omega))).1
   have aN:(n - 1)*q+q=n*q:=by rw[←Nat.succ_mul];congr 1;omega
   omega
  ·have aA:0<q:=by
    rcases Nat.eq_zero_or_pos q with e | e
    ·subst e;simp at hi
    ·exact e
   have h1:i / q<n:=(Nat.div_lt_iff_lt_mul aA).2 hi
   have hu:=hv (i / q) (i%q) h1 (Nat.mod_lt _ aA)
   rw[Nat.mul_comm,Nat.div_add_mod] at hu
   exact⟨_,hu,(one (i / q) (i%q) h1 (Nat.mod_lt _ aA)).2⟩
theorem gC.IU {w w':World} {S:Nat→Prop} {c o m:Nat} {b:Bool} {k:Int} {val:Nat→Value} (h:lS w w' c o m val) (hv: ∀i,val i=wR b (k+(i:Nat))) (hc:0<m→S c∧ ∃(an:Array Value) (ty:TypeId),w.heap[c]?=some (.cells an ty (0,0))∧o+m≤an.size∧ ∀i,i<m→ ∃u,an[o+i]?=some u∧ ∀z,qi (some u) (some (wR b z))) (aA:m=0→c=w.heap.size):gC w w' S (Fw.row c o b m) k:=by
 by_cases hm:0<m
 ·obtain⟨dr,an,ty,bt,aH,hu⟩:=hc hm
  obtain⟨b5,q1,q2,q3⟩:=h.blk an ty bt
  refine⟨h.fL dr fun Aj ty2 i hx hi=> ?_,fun cv h7 au hx=> ?_,e8.row.2 fun i hi=> ?_⟩
  ·rw[bt] at hx;cases hx
   obtain⟨u,h1,h2⟩:=hu i hi
   rw[h1,hv];exact h2 _
  ·by_cases e:cv=c
   ·subst e
    have j6: ¬(o≤h7∧h7<o+m):=fun bt=>hx (cv,o+(h7 - o),b) (zi.2 ⟨h7 - o,by omega,rfl⟩) ⟨rfl,by show o+(h7 - o)=h7;omega⟩
    simp only[World.cell?,bt,q1]
    rcases Nat.lt_or_ge h7 an.size with ac | ac
    ·rw[q3 h7 ac,if_neg j6]
    ·rw[Array.getElem?_eq_none (by omega),Array.getElem?_eq_none ac]
   ·simp only[World.cell?,h.other cv e]
  ·have e:b5[o+i]?=some (val (o+i - o)):=(q3 (o+i) (by omega)).trans (if_pos ⟨by omega,by omega⟩)
   rw[show o+i - o=i by omega,hv] at e
   simp only[World.cell?,q1]
   exact e
 ·obtain rfl:m=0:=by omega
  obtain rfl:=aA rfl
  exact⟨h.Iy,fun cv h7 au _=>by simp only[World.cell?,h.other cv (by omega)],trivial⟩
def F7 (P:Program) (f:FuncId) (e:aX):Prop:= ∀(w:World) (S:Nat→Prop) (L:dm) (v:Value) (k:Int),dZ w S e 0 0 L v→kJ L→0≤k→k+(L.length:Nat)≤4611686018427387904→
 Calls P f #[v,.int .i64 k] w fun fV w'=>fV= .returned (.int .i64 (k+(L.length:Nat)))∧gC w w' S L k
def F6 (P:Program) (f:FuncId) (e:aX):Prop:= ∀(w:World) (S:Nat→Prop) (L:dm) (v:Value) (k:Int),dZ w S e 0 0 L v→e8 w L k→0≤k→k+(L.length:Nat)≤4611686018427387904→
 Calls P f #[v,.int .i64 k] w fun fV w'=>fV= .returned (.int .i64 (k+(L.length:Nat)))∧RowKit.Below w.heap.size w w'
theorem G_ (ws:List av):ll ws (List.range ws.length) (ws.map av.ae)∧view ws (List.range ws.length) (ws.map av.ae)=ws:=by
 have hb: ∀i (h:av),ws[i]?=some h→(ws.map av.ae).getD i []=h.ae:=fun i h e=>by
  rw[List.getD_eq_getElem?_getD,List.getElem?_map,e];rfl
 constructor
 ·refine⟨by simp,fun i id h=> ?_,fun i id h h1 h2=> ?_⟩
  ·obtain⟨h1,h2⟩:=List.getElem?_eq_some_iff.1 h
   rw[List.getElem_range] at h2
   simp at h1 ⊢;omega
  ·obtain⟨q1,q2⟩:=List.getElem?_eq_some_iff.1 h2
   rw[List.getElem_range] at q2
   subst q2
   rw[hb i h h1]
 ·refine List.ext_getElem? fun i=> ?_
  cases e:ws[i]? with
  | none=>
   rw[List.getElem?_eq_none]
   rw[List.getElem?_eq_none_iff] at e
   unfold view;rw[List.length_zipWith];simp;omega
  | some h=>
   have au:=(List.getElem?_eq_some_iff.1 e).1
   rw[xA e (List.getElem?_range au),hb i h e]
section
variable {E:Env} {H:List Blk} {F:Frame}
def fB (E:Env) (j:Nat):Nat:=match E.m j with
 | some (some c)=>c
 | _=>0
theorem ZX {j:Nat} (az:E.bk j=0) {n:Nat} {v:Value} (h:b6 E (.ref j 0 0 n false) v): ∃A cap,v= .slice A n cap∧n≤cap∧(0<n→E.m j=some (some (fB E j))∧A=some ⟨fB E j,0,none⟩):=by
 rcases(show ft E (.ref j 0 0 n false) v from h) with⟨h,_⟩ | ⟨_,⟨_,_,e,A,rfl⟩ | ⟨c,cap,hm,rfl,h1,_,_⟩⟩
 ·omega
 ·subst e;exact⟨A,0,rfl,Nat.le_refl _,fun h=>absurd h (by omega)⟩
 ·have e:fB E j=c:=by unfold fB;rw[hm]
  exact⟨_,cap,rfl,h1,fun _=>⟨by rw[e];exact hm,by rw[e,Nat.zero_mul]⟩⟩
theorem mem_row {c o m:Nat} {b:Bool} {x:Nat×Nat×Bool} (h:x∈row c o b m):x.1=c∧o≤x.2.1∧x.2.1<o+m:=by
 obtain⟨i,hi,rfl⟩:=zi.1 h
 exact⟨rfl,Nat.le_add_right _ _,by show o+i<_;omega⟩
theorem IM (c o:Nat) (b:Bool): ∀m,kJ (row c o b m)
 | 0=>List.Pairwise.nil
 | m+1=>List.pairwise_append.2 ⟨IM c o b m,List.pairwise_singleton _ _,fun x hx y aU=>by
   have h1:=mem_row hx
   rw[List.mem_singleton.1 aU]
   intro e
   have h2:x.2.1=o+m:=e.2
   omega⟩
theorem wP {f:Nat→dm} {x:Nat×Nat×Bool}: ∀{n:Nat},x∈bY f n→ ∃i,i<n∧x∈f i
 | n+1,h=>by
  rcases List.mem_append.1 h with h | h
  ·obtain⟨i,h1,h2⟩:=wP h
   exact⟨i,by omega,h2⟩
  ·exact⟨n,by omega,h⟩
theorem OV {f:Nat→dm}: ∀{n:Nat},(∀i,i<n→kJ (f i))→(∀i e4,i<n→e4<n→i≠e4→ ∀x∈f i,∀y∈f e4,¬(x.1=y.1∧x.2.1=y.2.1))→kJ (bY f n)
 | 0,_,_=>List.Pairwise.nil
 | n+1,h1,h2=>List.pairwise_append.2 ⟨OV (fun i hi=>h1 i (by omega)) (fun i e4 hi eI=>h2 i e4 (by omega) (by omega)),h1 n (by omega),fun x hx y aU=>by
   obtain⟨i,hi,hx⟩:=wP hx
   exact h2 i n (by omega) (by omega) (by omega) x hx y aU⟩
theorem O5 {α:Type} {enc:α→List AV} {q:Nat} {e κ:aX} {nq:Bool} (A1:κ= .int∧nq=false∨κ= .bool∧nq=true) (bB:e.bN=List.replicate q κ) (hs:SimH E H) {S:Nat→Prop} (dr: ∀c,E.fW c→S c) {j:Nat} {xs:List α}
  (hb:H[j]?=some ⟨0,q,List.map enc xs⟩) (ahG: ∀(x:α) (i:Nat) (a:AV),(enc x)[i]?=some a→(κ= .int∧ ∃n,a= .int .i64 n)∨κ= .bool∧ ∃n,a= .bool n) (hlen: ∀x,(enc x).length=q) (eH:xs.length≤4611686018427387904) {v:Value} (h:b6 E (.ref j 0 0 xs.length false) v):
  ∃A cap,v= .slice A xs.length cap∧(0<xs.length→E.m j=some (some (fB E j)))∧dZ E.w S (.l e) 0 0 (row (fB E j) 0 nq (xs.length*q)) v:=by
 have az:E.bk j=0:=hs.ff j _ hb
 obtain⟨A,cap,rfl,fl,cm⟩:=ZX az h
 refine⟨A,cap,rfl,fun h=>(cm h).1,?_⟩
 have au:e.bN.length=q:=by rw[bB,List.length_replicate]
 have ahs:row (fB E j) 0 nq (xs.length*q)=bY (fun i=>bY (fun la=>[(fB E j,i*q+la,nq)]) e.bN.length) xs.length:=by
  rw[au]
  exact(K1 fun i hi=>K2 fun la js=>by rw[Nat.zero_add]).symm
 rw[ahs]
 by_cases ag:0<xs.length
 ·obtain⟨hm,rfl⟩:=cm ag
  obtain⟨blk,an,ty,h1,h2,aC,bg,ch,cy⟩:=hs.heap j _ hm
  rw[hb] at h1
  cases h1
  have h2:E.sz j=q:=h2
  rw[h2] at cy
  have cell: ∀i la,i<xs.length→la<q→ ∃u,an[i*q+la]?=some u∧dZ E.w S κ (fB E j) (i*q+la) [(fB E j,i*q+la,nq)] u:=fun i la hi js=>by
   have ak:(List.map enc xs)[i]?=some (enc xs[i]):=by rw[List.getElem?_map,List.getElem?_eq_getElem hi];rfl
   obtain⟨a,aw⟩: ∃a,(enc xs[i])[la]?=some a:=⟨(enc xs[i])[la]'(by rw[hlen];exact js),List.getElem?_eq_getElem _⟩
   obtain⟨u,hu,hv⟩:=cy.2 i la _ _ ak aw
   refine⟨u,hu,?_⟩
   rcases ahG _ _ _ aw with⟨rfl,n,e⟩ | ⟨rfl,n,e⟩
   ·rw[e] at hv
    have hv:a1 E.bS.w E.bS.PA E.bS.PF (.int .i64 n) u:=hv
    cases hv
    rcases A1 with⟨_,rfl⟩ | ⟨bt,_⟩
    ·exact .int _ _ n
    ·cases bt
   ·rw[e] at hv
    have hv:a1 E.bS.w E.bS.PA E.bS.PF (.bool n) u:=hv
    cases hv
    rcases A1 with⟨bt,_⟩ | ⟨_,rfl⟩
    ·cases bt
    ·exact .bool _ _ n
  refine .aP (vs:=fun i la=>(an[i*q+la]?).getD undef) (fB E j) 0 ⟨fl,eH⟩ (fun _=>⟨an,ty,rfl,dr _ ⟨j,hm⟩,aC,fun i la hi js=> ?_⟩) fun i la bX hi js=> ?_
  ·rw[au] at js ⊢
   obtain⟨u,hu,_⟩:=cell i la hi js
   rw[Nat.zero_add,hu];rfl
  ·rw[au]
   have wl:la<q:=by rw[←au];exact(List.getElem?_eq_some_iff.1 js).1
   have aN:bX=κ:=by rw[bB,List.getElem?_replicate,if_pos wl] at js;exact(Option.some.inj js).symm
   subst aN
   obtain⟨u,hu,hk⟩:=cell i la hi wl
   rw[Nat.zero_add,hu];exact hk
 ·have aH:xs.length=0:=by omega
  rw[aH]
  exact .aP (Ls:=fun i la=>[(fB E j,i*q+la,nq)]) (vs:=fun _ _=>undef) 0 0 ⟨Nat.zero_le _,Nat.zero_le _⟩ (fun h=>absurd h (by omega)) fun i la bX hi _=>by omega
def oW (E:Env) (ws:List av) (b s i j:Nat):dm:=match j with
 | 0=>[(fB E b,i*5,false)]
 | 1=>[(fB E b,i*5+1,false)]
 | 2=>row (fB E (i+s)) 0 true (((ws[i]?).map fun h=>h.ae.length).getD 0*1)
 | 3=>[(fB E b,i*5+3,true)]
 | 4=>[(fB E b,i*5+4,false)]
 | _=>[]
theorem TE (x:Bool) (i:Nat) (a:AV) (h:(aR x)[i]?=some a):((aX.bool:aX)= .int∧ ∃n,a= .int .i64 n)∨(aX.bool:aX)= .bool∧ ∃n,a= .bool n:=by
 match i,h with
 | 0,h=>cases h;exact .inr ⟨rfl,_,rfl⟩
theorem afl (x:bL) (i:Nat) (a:AV) (h:(ba x)[i]?=some a):((aX.int:aX)= .int∧ ∃n,a= .int .i64 n)∨(aX.int:aX)= .bool∧ ∃n,a= .bool n:=by
 match i,h with
 | 0,h=>cases h;exact .inl ⟨rfl,_,rfl⟩
 | 1,h=>cases h;exact .inl ⟨rfl,_,rfl⟩
theorem amI (hs:SimH E H) {S:Nat→Prop} (dr: ∀c,E.fW c→S c) {b s:Nat} {ws:List av}
  (hb:H[b]?=some ⟨0,5,aW s ws (List.range ws.length)⟩) (hf: ∀(i:Nat) (h:av),ws[i]?=some h→H[i+s]?=some (bj h.ae)) (eH:ws.length≤4611686018427387904) (AA: ∀h∈ws,h.ae.length≤4611686018427387904) {v:Value} (h:b6 E (.ref b 0 0 ws.length false) v):
  ∃A cap,v= .slice A ws.length cap∧(0<ws.length→E.m b=some (some (fB E b)))∧(∀(i:Nat) (h:av),ws[i]?=some h→0<h.ae.length→E.m (i+s)=some (some (fB E (i+s))))∧dZ E.w S (.l .held) 0 0 (bY (fun i=>bY (oW E ws b s i) 5) ws.length) v:=by
 have az:E.bk b=0:=hs.ff b _ hb
 obtain⟨A,cap,rfl,fl,cm⟩:=ZX az h
 by_cases ag:0<ws.length
 ·obtain⟨hm,rfl⟩:=cm ag
  obtain⟨blk,an,ty,h1,h2,aC,bg,ch,cy⟩:=hs.heap b _ hm
  rw[hb] at h1
  cases h1
  have h2:E.sz b=5:=h2
  rw[h2] at cy
  have eM: ∀i (hi:i<ws.length),(aW s ws (List.range ws.length))[i]?=some (k6 s ws[i] i):=fun i hi=>by
   unfold aW
   rw[List.getElem?_zipWith,List.getElem?_eq_getElem hi,List.getElem?_range hi]
  have ae: ∀i (hi:i<ws.length),∃u,an[i*5+2]?=some u∧ ∃A' oC,u= .slice A' ws[i].ae.length oC∧(0<ws[i].ae.length→E.m (i+s)=some (some (fB E (i+s))))∧dZ E.w S (.l .bool) 0 0 (row (fB E (i+s)) 0 true (ws[i].ae.length*1)) u:=fun i hi=>by
   obtain⟨u,hu,hv⟩:=cy.2 i 2 _ _ (eM i hi) rfl
   have hv:b6 E (.ref (i+s) 0 0 ws[i].ae.length false) u:=hv
   obtain⟨A',oC,aN,e2,dc⟩:=O5 (e:= .bool) (κ:= .bool) (.inr ⟨rfl,rfl⟩) (q:=1) rfl hs dr (hf i _ (List.getElem?_eq_getElem hi)) TE (fun _=>rfl) (AA _ (List.getElem_mem hi)) hv
   exact⟨u,hu,A',oC,aN,e2,dc⟩
  have cell: ∀i j bX,i<ws.length→(aX.bN .held)[j]?=some bX→ ∃u,an[i*5+j]?=some u∧dZ E.w S bX (fB E b) (i*5+j) (oW E ws b s i j) u:=fun i j bX hi ac=>by
   match j,ac with
   | 0,ac=>
    cases ac
    obtain⟨u,hu,hv⟩:=cy.2 i 0 _ _ (eM i hi) rfl
    have hv:a1 E.bS.w E.bS.PA E.bS.PF (.int .i64 ws[i].aF) u:=hv
    cases hv
    exact⟨_,hu,.int _ _ _⟩
   | 1,ac=>
    cases ac
    obtain⟨u,hu,hv⟩:=cy.2 i 1 _ _ (eM i hi) rfl
    have hv:a1 E.bS.w E.bS.PA E.bS.PF (.int .i64 ws[i].bc) u:=hv
    cases hv
    exact⟨_,hu,.int _ _ _⟩
   | 2,ac=>
    cases ac
    obtain⟨u,hu,A',oC,aN,e2,dc⟩:=ae i hi
    refine⟨u,hu,?_⟩
    show dZ E.w S (.l .bool) _ _ (row (fB E (i+s)) 0 true (((ws[i]?).map fun h=>h.ae.length).getD 0*1)) u
    rw[List.getElem?_eq_getElem hi]
    exact dc.Px _ _
   | 3,ac=>
    cases ac
    obtain⟨u,hu,hv⟩:=cy.2 i 3 _ _ (eM i hi) rfl
    have hv:a1 E.bS.w E.bS.PA E.bS.PF (.bool ws[i].bW) u:=hv
    cases hv
    exact⟨_,hu,.bool _ _ _⟩
   | 4,ac=>
    cases ac
    obtain⟨u,hu,hv⟩:=cy.2 i 4 _ _ (eM i hi) rfl
    have hv:a1 E.bS.w E.bS.PA E.bS.PF (.int .i64 ws[i].bU) u:=hv
    cases hv
    exact⟨_,hu,.int _ _ _⟩
   | j+5,ac=>exact absurd ac (by simp[aX.bN])
  refine⟨_,cap,rfl,fun _=>hm,fun i h hi=> ?_,.aP (e:= .held) (Ls:=oW E ws b s) (vs:=fun i j=>(an[i*5+j]?).getD undef) (fB E b) 0 ⟨fl,eH⟩ (fun _=>⟨an,ty,rfl,dr _ ⟨b,hm⟩,aC,fun i j hi ac=> ?_⟩) fun i j bX hi ac=> ?_⟩
  ·obtain⟨q1,q2⟩:=List.getElem?_eq_some_iff.1 hi
   obtain⟨u,hu,A',oC,aN,e2,dc⟩:=ae i q1
   subst q2;exact e2
  ·obtain⟨u,hu,_⟩:=cell i j _ hi (List.getElem?_eq_getElem ac)
   rw[show 0+(i*(aX.bN .held).length+j)=i*5+j from by show 0+(i*5+j)=_;omega,hu];rfl
  ·obtain⟨u,hu,hk⟩:=cell i j bX hi ac
   rw[show 0+(i*(aX.bN .held).length+j)=i*5+j from by show 0+(i*5+j)=_;omega,hu]
   exact hk
 ·have aH:ws.length=0:=by omega
  refine⟨A,cap,rfl,fun h=>absurd h ag,fun i h hi=> ?_,?_⟩
  ·rw[List.eq_nil_of_length_eq_zero aH] at hi;simp at hi
  ·rw[aH]
   exact .aP (e:= .held) (Ls:=oW E ws b s) (vs:=fun _ _=>undef) 0 0 ⟨Nat.zero_le _,Nat.zero_le _⟩ (fun h=>absurd h (by omega)) fun i la bX hi _=>by omega
theorem OO (ws:List av) (b s:Nat) (hb:0<ws.length→E.m b=some (some (fB E b))) (hf: ∀(i:Nat) (h:av),ws[i]?=some h→0<h.ae.length→E.m (i+s)=some (some (fB E (i+s)))) {i:Nat} (hi:i<ws.length) {x:Nat×Nat×Bool} (hx:x∈bY (oW E ws b s i) 5):
  (E.m b=some (some x.1)∧i*5≤x.2.1∧x.2.1<i*5+5)∨E.m (i+s)=some (some x.1):=by
 have dF:=hb (by omega)
 have key: ∀o,i*5≤o→o<i*5+5→ ∀nq,x∈[((fB E b,o,nq):Nat×Nat×Bool)]→(E.m b=some (some x.1)∧i*5≤x.2.1∧x.2.1<i*5+5)∨E.m (i+s)=some (some x.1):=fun o h1 h2 nq h=>by
  obtain rfl:=List.mem_singleton.1 h
  exact .inl ⟨dF,h1,h2⟩
 obtain⟨j,ac,hx⟩:=wP hx
 match j,ac,hx with
 | 0,_,hx=>exact key _ (by omega) (by omega) _ hx
 | 1,_,hx=>exact key _ (by omega) (by omega) _ hx
 | 3,_,hx=>exact key _ (by omega) (by omega) _ hx
 | 4,_,hx=>exact key _ (by omega) (by omega) _ hx
 | 2,_,hx=>
  have hx:x∈row (fB E (i+s)) 0 true (((ws[i]?).map fun h=>h.ae.length).getD 0*1):=hx
  rw[List.getElem?_eq_getElem hi] at hx
  have hx:x∈row (fB E (i+s)) 0 true (ws[i].ae.length*1):=hx
  obtain⟨q,U,e⟩:=zi.1 hx
  have:=hf i _ (List.getElem?_eq_getElem hi) (by omega)
  subst e
  exact .inr this
theorem aml (hs:SimH E H) {ws:List av} {b s:Nat} (nX:b<s) (hb:0<ws.length→E.m b=some (some (fB E b))) (hf: ∀(i:Nat) (h:av),ws[i]?=some h→0<h.ae.length→E.m (i+s)=some (some (fB E (i+s)))):kJ (bY (fun i=>bY (oW E ws b s i) 5) ws.length):=by
 refine OV (fun i hi=> ?_) fun i e4 hi eI b7 x hx y aU e=> ?_
 ·have dF:=hb (by omega)
  have eM: ∀x∈oW E ws b s i 2,E.m (i+s)=some (some x.1):=fun x hx=>by
   have hx:x∈row (fB E (i+s)) 0 true (((ws[i]?).map fun h=>h.ae.length).getD 0*1):=hx
   rw[List.getElem?_eq_getElem hi] at hx
   have hx:x∈row (fB E (i+s)) 0 true (ws[i].ae.length*1):=hx
   obtain⟨q,U,e⟩:=zi.1 hx
   subst e
   exact hf i _ (List.getElem?_eq_getElem hi) (by omega)
  have j6: ∀x∈oW E ws b s i 2,x.1≠fB E b:=fun x hx e=>by
   have h1:=eM x hx
   rw[e] at h1
   have:=hs.gV _ _ _ h1 dF
   omega
  have aN:bY (oW E ws b s i) 5=[(fB E b,i*5,false),(fB E b,i*5+1,false)]++oW E ws b s i 2++[(fB E b,i*5+3,true),(fB E b,i*5+4,false)]:=by
   show(((((([]:dm)++_)++_)++_)++_)++_)=_
   show(((((([]:dm)++[(fB E b,i*5,false)])++[(fB E b,i*5+1,false)])++oW E ws b s i 2)++[(fB E b,i*5+3,true)])++[(fB E b,i*5+4,false)])=_
   simp only[List.append_assoc,List.nil_append,List.cons_append]
  rw[aN]
  refine List.pairwise_append.2 ⟨List.pairwise_append.2 ⟨?_,IM _ _ _ _,fun x hx y aU e=> ?_⟩,?_,fun x hx y aU e=> ?_⟩
  ·refine List.pairwise_cons.2 ⟨fun y aU e=> ?_,List.pairwise_singleton _ _⟩
   obtain rfl:=List.mem_singleton.1 aU
   have h2:i*5=i*5+1:=e.2
   omega
  ·refine j6 y aU ?_
   rcases List.mem_cons.1 hx with rfl | hx
   ·exact e.1.symm
   ·obtain rfl:=List.mem_singleton.1 hx;exact e.1.symm
  ·refine List.pairwise_cons.2 ⟨fun y aU e=> ?_,List.pairwise_singleton _ _⟩
   obtain rfl:=List.mem_singleton.1 aU
   have h2:i*5+3=i*5+4:=e.2
   omega
  ·have aiB:y.1=fB E b∧i*5+3≤y.2.1:=by
    rcases List.mem_cons.1 aU with rfl | aU
    ·exact⟨rfl,Nat.le_refl _⟩
    ·obtain rfl:=List.mem_singleton.1 aU;exact⟨rfl,by show _≤i*5+4;omega⟩
   rcases List.mem_append.1 hx with hx | hx
   ·have ark:x.2.1≤i*5+1:=by
     rcases List.mem_cons.1 hx with rfl | hx
     ·show i*5≤_;omega
     ·obtain rfl:=List.mem_singleton.1 hx;exact Nat.le_refl _
    have:=e.2
    omega
   ·exact j6 x hx (e.1.trans aiB.1)
 ·rcases OO ws b s hb hf hi hx with⟨h1,h2,aC⟩ | h1<;>rcases OO ws b s hb hf eI aU with⟨c_,hj,n9⟩ | c_
  ·have:=e.2
   omega
  ·rw[←e.1] at c_
   have:=hs.gV _ _ _ h1 c_
   omega
  ·rw[←e.1] at c_
   have:=hs.gV _ _ _ h1 c_
   omega
  ·rw[←e.1] at c_
   have:=hs.gV _ _ _ h1 c_
   omega
end
theorem dZ.It {w:World} {S:Nat→Prop} {e:aX} {a b:Nat} {L:dm} {v:Value} (h:dZ w S e a b L v): ∀x∈L,x.1=a∨S x.1:=by
 induction h with
 | int c o n=>intro x hx;rw[List.mem_singleton.1 hx];exact .inl rfl
 | bool c o b=>intro x hx;rw[List.mem_singleton.1 hx];exact .inl rfl
 | @aP e a b n cap A Ls vs c o h1 hc ak bp=>
  intro x hx
  obtain⟨i,hi,hx⟩:=wP hx
  obtain⟨j,ac,hx⟩:=wP hx
  obtain⟨an,ty,_,dr,_⟩:=hc (by omega)
  rcases bp i j _ hi (List.getElem?_eq_getElem ac) x hx with h | h
  ·rw[h];exact .inr dr
  ·exact .inr h
theorem dZ.Is {w:World} {S:Nat→Prop} {e:aX} {a b:Nat} {L:dm} {v:Value} (h:dZ w S (.l e) a b L v): ∀x∈L,S x.1:=by
 cases h with
 | @aP _ _ _ _ _ _ Ls vs c o h1 hc ak=>
  intro x hx
  obtain⟨i,hi,hx⟩:=wP hx
  obtain⟨j,ac,hx⟩:=wP hx
  obtain⟨an,ty,_,dr,_⟩:=hc (by omega)
  rcases(ak i j _ hi (List.getElem?_eq_getElem ac)).It x hx with h | h
  ·rw[h];exact dr
  ·exact h
def jY (eg aN e2:aX) (w:World) (S:Nat→Prop) (bR bO bM:Option Addr) (ct bE dG bz n2 bu:Nat) (L:dm):Prop:=
 ∃q7 q8 q9,L=q7++q8++q9∧dZ w S (.l eg) 0 0 q7 (.slice bR ct bE)∧dZ w S (.l aN) 0 0 q8 (.slice bO dG bz)∧dZ w S (.l e2) 0 0 q9 (.slice bM n2 bu)
theorem jY.cT {eg aN e2:aX} {w w':World} {S nm:Nat→Prop} {bR bO bM:Option Addr} {ct bE dG bz n2 bu:Nat} {L:dm} (h:jY eg aN e2 w S bR bO bM ct bE dG bz n2 bu L) (hk: ∀c,S c→w'.heap[c]?=w.heap[c]?) (hs: ∀c,S c→nm c):jY eg aN e2 w' nm bR bO bM ct bE dG bz n2 bu L:=by
 obtain⟨q7,q8,q9,rfl,aA,h1,h2⟩:=h
 exact⟨q7,q8,q9,rfl,aA.cT hk hs,h1.cT hk hs,h2.cT hk hs⟩
theorem jY.fL {eg aN e2:aX} {w w':World} {S nm:Nat→Prop} {bR bO bM:Option Addr} {ct bE dG bz n2 bu:Nat} {L:dm} (h:jY eg aN e2 w S bR bO bM ct bE dG bz n2 bu L) (hk:dY nm w w'):jY eg aN e2 w' S bR bO bM ct bE dG bz n2 bu L:=by
 obtain⟨q7,q8,q9,rfl,aA,h1,h2⟩:=h
 exact⟨q7,q8,q9,rfl,aA.fL hk,h1.fL hk,h2.fL hk⟩
theorem jY.It {eg aN e2:aX} {w:World} {S:Nat→Prop} {bR bO bM:Option Addr} {ct bE dG bz n2 bu:Nat} {L:dm} (h:jY eg aN e2 w S bR bO bM ct bE dG bz n2 bu L): ∀x∈L,S x.1:=by
 obtain⟨q7,q8,q9,rfl,aA,h1,h2⟩:=h
 intro x hx
 rcases List.mem_append.1 hx with hx | hx
 ·rcases List.mem_append.1 hx with hx | hx
  ·exact aA.Is x hx
  ·exact h1.Is x hx
 ·exact h2.Is x hx
theorem e8.same {w w':World} {L:dm} {k:Int} {S:Nat→Prop} (h:e8 w L k) (bB: ∀x∈L,S x.1) (hk: ∀c,S c→w'.heap[c]?=w.heap[c]?):e8 w' L k:=
 h.cT fun x hx _=>by simp only[World.cell?,hk _ (bB x hx)]
def Eg (eg aN e2:aX) (lo hi:Nat) (a:AV) (v:Value) (bR bO bM:Option Addr) (ct bE dG bz n2 bu:Nat) (L:dm):dE where
 lo:=lo
 hi:=hi
 P:=fun w=>ep w (jX w lo hi) a v∧jY eg aN e2 w (jX w lo hi) bR bO bM ct bE dG bz n2 bu L
 ar:=fun w w' h ab=>⟨ab.1.cT (fun c hc=>h c hc.1 hc.2.1) fun c hc=>⟨hc.1,hc.2.1,hc.2.2.same (h c hc.1 hc.2.1)⟩,ab.2.cT (fun c hc=>h c hc.1 hc.2.1) fun c hc=>⟨hc.1,hc.2.1,hc.2.2.same (h c hc.1 hc.2.1)⟩⟩
theorem cI.own {eg aN e2:aX} {W w w':World} {l:List dE} {a:AV} {v:Value} {bR bO bM:Option Addr} {ct bE dG bz n2 bu:Nat} {L:dm} (h:cI W w l) (hb:RowKit.Below w.heap.size w w') (aO:ep w' (ec w w') a v) (hf:jY eg aN e2 w' (ec w w') bR bO bM ct bE dG bz n2 bu L):cI W w' (l++[Eg eg aN e2 w.heap.size w'.heap.size a v bR bO bM ct bE dG bz n2 bu L]):=
 h.made hb (Eg eg aN e2 w.heap.size w'.heap.size a v bR bO bM ct bE dG bz n2 bu L) rfl rfl ⟨aO,hf⟩
theorem Eg.at {eg aN e2:aX} {W w:World} {l:List dE} (h:cI W w l) (j:Nat) {lo hi:Nat} {a:AV} {v:Value} {bR bO bM:Option Addr} {ct bE dG bz n2 bu:Nat} {L:dm} (e:l[j]?=some (Eg eg aN e2 lo hi a v bR bO bM ct bE dG bz n2 bu L):=by rfl):V2 (Env.at w) a v:=
 (h.get j e).1.at fun c hc=>Nat.lt_of_lt_of_le hc.2.1 (h.hi j e)
theorem acq {e:aX} {x:e.T} {w:World} {H':List Blk} {E':Env} {r:AV} {v:Value} (hs:SimH E' H') (ak:ie H' r (px e x)) (hv:V3 E' r v) (iY: ∀c,E'.PF c∨E'.fW c→ec w E'.w c):ep E'.w (ec w E'.w) (G0 e x) v:=by
 have l0:V3 {Env.ro E'.w (ec w E'.w) with PF:=ec w E'.w} (px e x) v:=P7 (E':={Env.ro E'.w (ec w E'.w) with PF:=ec w E'.w}) hs rfl (fun c hc=>⟨iY c hc,iY c hc⟩) ak hv
 unfold G0
 unfold px at l0
 cases dr:e.isS with
 | true=>
  rw[dr] at l0
  obtain⟨eX,rfl,ab⟩:=(show ∃eX:List Value,v= .agg eX.toArray∧ah (b6 _) (cE true e x) eX from l0)
  refine⟨eX,rfl,?_⟩
  rw[←pv] at ab ⊢
  exact R1 (fun _ h=>h) (fun _ h=>h) (J0 ab)
 | false=>
  rw[dr] at l0
  have l0:V3 {Env.ro E'.w (ec w E'.w) with PF:=ec w E'.w} (kM true e x) v:=l0
  have h1:b6 {Env.ro E'.w (ec w E'.w) with PF:=ec w E'.w} (kM true e x) v:=by cases e<;>first | exact l0 | cases dr
  have:=a1.kd (B:=ec w E'.w) (fun _ h=>h) (fun _ h=>h) (R5 h1)
  exact mS (a1.v1 (E:=Env.ro E'.w (ec w E'.w)) this)
theorem Zc {E:Env} {F:Frame} (hs:SimH E (jy F)) {S:Nat→Prop} (dr: ∀c,E.fW c→S c) (eH:F.aE.length≤4611686018427387904∧F.ay.length≤4611686018427387904∧F.O.length≤4611686018427387904∧ ∀h∈F.O,h.ae.length≤4611686018427387904) {v0 v1 v2:Value}
  (aA:b6 E (.ref 0 0 0 F.aE.length false) v0) (h1:b6 E (.ref 1 0 0 F.ay.length false) v1) (h2:b6 E (.ref 2 0 0 F.O.length false) v2):
  ∃bR bE bO bz bM bu L,v0= .slice bR F.aE.length bE∧v1= .slice bO F.ay.length bz∧v2= .slice bM F.O.length bu∧jY .bool .e0 .held E.w S bR bO bM F.aE.length bE F.ay.length bz F.O.length bu L∧kJ L∧L.length=F.aE.length+F.ay.length*2+(F.O.map fun h=>4+h.ae.length).sum:=by
 have hf: ∀(i:Nat) (h:av),F.O[i]?=some h→(jy F)[i+3]?=some (bj h.ae):=fun i h e=>by
  show(List.map bj (List.map av.ae F.O))[i]?=_
  rw[List.getElem?_map,List.getElem?_map,e];rfl
 obtain⟨bR,bE,rfl,al,fb⟩:=O5 (e:= .bool) (κ:= .bool) (.inr ⟨rfl,rfl⟩) (q:=1) rfl hs dr (j:=0) (xs:=F.aE) rfl TE (fun _=>rfl) eH.1 aA
 obtain⟨bO,bz,rfl,a_,s1⟩:=O5 (e:= .e0) (κ:= .int) (.inl ⟨rfl,rfl⟩) (q:=2) rfl hs dr (j:=1) (xs:=F.ay) rfl afl (fun _=>rfl) eH.2.1 h1
 obtain⟨bM,bu,rfl,bw,cX,s2⟩:=amI hs dr (b:=2) (s:=3) (ws:=F.O) rfl hf eH.2.2.1 eH.2.2.2 h2
 refine⟨bR,bE,bO,bz,bM,bu,_,rfl,rfl,rfl,⟨_,_,_,rfl,fb,s1,s2⟩,?_,?_⟩
 ·have i0: ∀x∈row (fB E 0) 0 true (F.aE.length*1),E.m 0=some (some x.1):=fun x hx=>by
   obtain⟨i,hi,rfl⟩:=zi.1 hx
   exact al (by omega)
  have i1: ∀x∈row (fB E 1) 0 false (F.ay.length*2),E.m 1=some (some x.1):=fun x hx=>by
   obtain⟨i,hi,rfl⟩:=zi.1 hx
   exact a_ (by omega)
  have i2: ∀x∈bY (fun i=>bY (oW E F.O 2 3 i) 5) F.O.length,∃j,2≤j∧E.m j=some (some x.1):=fun x hx=>by
   obtain⟨i,hi,hx⟩:=wP hx
   rcases OO F.O 2 3 bw cX hi hx with⟨h,_⟩ | h
   ·exact⟨2,by omega,h⟩
   ·exact⟨i+3,by omega,h⟩
  refine List.pairwise_append.2 ⟨List.pairwise_append.2 ⟨IM _ _ _ _,IM _ _ _ _,fun x hx y aU e=> ?_⟩,aml hs (by omega) bw cX,fun x hx y aU e=> ?_⟩
  ·have h1:=i0 x hx
   have h2:=i1 y aU
   rw[←e.1] at h2
   have:=hs.gV _ _ _ h1 h2
   omega
  ·obtain⟨j,ac,h2⟩:=i2 y aU
   rw[←e.1] at h2
   rcases List.mem_append.1 hx with hx | hx
   ·have:=hs.gV _ _ _ (i0 x hx) h2
    omega
   ·have:=hs.gV _ _ _ (i1 x hx) h2
    omega
 ·rw[List.length_append,List.length_append,vp,vp,Nat.mul_one]
  congr 1
  have key: ∀n,n≤F.O.length→(bY (fun i=>bY (oW E F.O 2 3 i) 5) n).length=((F.O.take n).map fun h=>4+h.ae.length).sum:=fun n=>by
   induction n with
   | zero=>intro _;rfl
   | succ n bp=>
    intro ag
    show(bY (fun i=>bY (oW E F.O 2 3 i) 5) n++bY (oW E F.O 2 3 n) 5).length=_
    rw[List.length_append,bp (by omega),List.take_add_one,List.getElem?_eq_getElem (by omega:n<F.O.length),List.map_append,List.sum_append]
    congr 1
    show((((([]:dm)++[_])++[_])++row (fB E (n+3)) 0 true (((F.O[n]?).map fun h:av=>h.ae.length).getD 0*1))++[_]++[_]).length=_
    rw[List.getElem?_eq_getElem (by omega:n<F.O.length)]
    simp only[List.length_append,List.length_cons,List.length_nil,vp,Option.map_some,Option.getD_some,Option.toList,List.map_cons,List.map_nil,List.sum_cons,List.sum_nil]
    omega
  have:=key F.O.length (Nat.le_refl _)
  rw[List.take_length] at this
  exact this
open Go Go.RowKit
set_option maxHeartbeats 1000000
set_option maxRecDepth 100000
theorem acj:F7 Tryz.prog 61 (.l .bool):=fun w S L v k h ja aA h1=>by
  obtain⟨A,n,cap,rfl⟩:=h.nE
  obtain⟨oK,c,o,cm,rfl,hc⟩:=h.flat (.inr ⟨rfl,rfl⟩) (q:=1) rfl
  rw[vp] at h1 ⊢
  have h2:k+n≤4611686018427387904:=by omega
  have ak:(Ending.returned (.int .i64 (k+n)):Ending)= .returned (.int .i64 (k+((n*1:Nat):Int))):=by congr 2;omega
  rw[←ak]
  by_cases ag:0<n
  · obtain⟨dr,an,ty,bt,aH,hu⟩:=hc ag
    refine(IH A c o n cap k w an ty (fun _=>⟨cm ag,bt,by have:=aH (by omega);omega⟩) aA h2).mono ?_
    rintro e w' ⟨rfl,hm⟩
    refine⟨rfl,?_⟩
    rw[Nat.mul_one] at aH hu ⊢
    exact .IU hm (fun i=>rfl) (fun _=>⟨dr,an,ty,bt,aH (by omega),hu⟩) (fun e=>by omega)
  · obtain rfl:n=0:=by omega
    refine(IH A w.heap.size 0 0 cap k w #[] 0 (fun h=>absurd h ag) aA h2).mono ?_
    rintro e w' ⟨rfl,hm⟩
    exact⟨rfl,show gC w w' S (row w.heap.size 0 true 0) k from gC.IU (m:=0) hm (fun i=>rfl) (fun h=>by omega) (fun _=>rfl)⟩
theorem apZ:F7 Tryz.prog 62 (.l .e0):=fun w S L v k h ja aA h1=>by
  obtain⟨A,n,cap,rfl⟩:=h.nE
  obtain⟨oK,c,o,cm,rfl,hc⟩:=h.flat (.inl ⟨rfl,rfl⟩) (q:=2) rfl
  rw[vp] at h1 ⊢
  have h2:k+2*n≤4611686018427387904:=by omega
  have ak:(Ending.returned (.int .i64 (k+2*n)):Ending)= .returned (.int .i64 (k+((n*2:Nat):Int))):=by congr 2;omega
  rw[←ak]
  by_cases ag:0<n
  · obtain⟨dr,an,ty,bt,aH,hu⟩:=hc ag
    refine(Yz A c o n cap k w an ty (fun _=>⟨cm ag,bt,by have:=aH (by omega);omega⟩) aA h2).mono ?_
    rintro e w' ⟨rfl,hm⟩
    refine⟨rfl,?_⟩
    skip
    exact .IU hm (fun i=>rfl) (fun _=>⟨dr,an,ty,bt,aH (by omega),hu⟩) (fun e=>by omega)
  · obtain rfl:n=0:=by omega
    refine(Yz A w.heap.size 0 0 cap k w #[] 0 (fun h=>absurd h ag) aA h2).mono ?_
    rintro e w' ⟨rfl,hm⟩
    exact⟨rfl,show gC w w' S (row w.heap.size 0 false 0) k from gC.IU (m:=0) hm (fun i=>rfl) (fun h=>by omega) (fun _=>rfl)⟩
theorem apY:F7 Tryz.prog 63 (.l .held):=fun w S L v k h ja aA h1=>by
  obtain⟨A,n,cap,rfl⟩:=h.nE
  obtain⟨oK,c,o,Ls,cm,rfl,au,hi,hb⟩:=h.elem
  have H1:Hid (k+((bY (fun i=>bY (Ls i) 5) n).length:Nat)≤4611686018427387904):=h1
  have uk:Hid (kJ (bY (fun i=>bY (Ls i) 5) n)):=ja
  have jp:=Lib.hid cm;clear cm
  have cD:=Lib.hid au;clear au
  have oy:=Lib.hid hi;clear hi
  have xH:=Lib.hid hb;clear hb
  clear h h1 ja
  show Calls _ _ _ _ fun fV w'=>fV= .returned (.int .i64 (k+((bY (fun i=>bY (Ls i) 5) n).length:Nat)))∧gC w w' S (bY (fun i=>bY (Ls i) 5) n) k
  go_enter Tryz.func63,Tryz.ntmps63
  go_wp2
  go_loopw [1,5] (fun q i wr=> ∃j:Nat,j≤n∧i= .int .i64 j∧q= .int .i64 (k+((bY (fun i=>bY (Ls i) 5) j).length:Nat))∧gC w wr S (bY (fun i=>bY (Ls i) 5) j) k) (fun _ i _=>n - (intOf i).toNat)
  case atStart=>exact⟨0,Nat.zero_le _,rfl,by simp[bY],.nil _ _ _⟩
  case round=>
    obtain⟨j,ac,rfl,rfl,hm⟩:=hrel
    have ej:=Lib.hid hm;clear hm
    by_cases aQ:j<n
    · obtain rfl:=jp.out (by omega)
      obtain⟨eg,cV⟩:=oy.out j 0 aQ rfl
      rw[show o+(j*(aX.bN .held).length+0)=o+j*5 from by show o+(j*5+0)=_;omega] at eg cV
      have cV:=Lib.hid cV
      obtain⟨aN,dt⟩:=oy.out j 1 aQ rfl
      rw[show o+(j*(aX.bN .held).length+1)=o+j*5+1 from by show o+(j*5+1)=_;omega] at aN dt
      have dt:=Lib.hid dt
      obtain⟨hE,mb⟩:=oy.out j 4 aQ rfl
      rw[show o+(j*(aX.bN .held).length+4)=o+j*5+4 from by show o+(j*5+4)=_;omega] at hE mb
      have mb:=Lib.hid mb
      obtain⟨dc,ma⟩:=xH.out j 3 aQ rfl
      rw[show o+(j*(aX.bN .held).length+3)=o+j*5+3 from by show o+(j*5+3)=_;omega] at dc ma
      have ma:=Lib.hid ma
      obtain⟨bM,n2,bu,iX⟩:=cD.out j 2 .bool aQ rfl
      rw[show o+(j*(aX.bN .held).length+2)=o+j*5+2 from by show o+(j*5+2)=_;omega] at iX
      have aO:bY (fun i=>bY (Ls i) 5) (j+1)=bY (fun i=>bY (Ls i) 5) j++[(c,o+j*5,false)]++[(c,o+j*5+1,false)]++Ls j 2++[(c,o+j*5+3,true)]++[(c,o+j*5+4,false)]:=by
        show _++(((((([]:dm)++Ls j 0)++Ls j 1)++Ls j 2)++Ls j 3)++Ls j 4)=_
        rw[eg,aN,dc,hE];simp only[List.append_assoc,List.nil_append]
      obtain⟨P,bZ⟩: ∃P,bY (fun i=>bY (Ls i) 5) j=P:=⟨_,rfl⟩
      obtain⟨fP,oH⟩: ∃fP,Ls j 2=fP:=⟨_,rfl⟩
      obtain⟨r,ak⟩:=Dr (f:=fun i=>bY (Ls i) 5) (n:=n) (j:=j+1) (by omega)
      have h3:=uk.out
      have h1:k+((bY (fun i=>bY (Ls i) 5) n).length:Nat)≤4611686018427387904:=H1.out
      have ul:Hid (gC w wr S P k):=bZ▸ej.out
      rw[bZ,oH] at aO
      rw[oH] at iX
      rw[ak,aO] at h3 h1
      have gM:=Lib.hid iX;clear iX
      have qg:=Lib.hid aO;clear aO
      have oA:=Lib.hid h3.left;clear h3
      rw[List.length_append,List.length_append,List.length_append,List.length_append,List.length_append,List.length_append] at h1
      obtain⟨y,aU⟩: ∃y:Int,k+(P.length:Nat)=y:=⟨_,rfl⟩
      obtain⟨bw,kj⟩: ∃bw:Nat,fP.length=bw:=⟨_,rfl⟩
      have pB:k+(P.length+1+1+fP.length+1+1:Nat)≤4611686018427387904:=by
        simp only[List.length_cons,List.length_nil] at h1
        omega
      have H0:0≤y:=by omega
      have yx:y+bw+4≤4611686018427387904:=by omega
      have xT:Hid (k+((P++[(c,o+j*5,false)]).length:Nat)=y+1):=by unfold Hid;rw[List.length_append,List.length_singleton];omega
      have KJ:Hid (k+((P++[(c,o+j*5,false)]++[(c,o+j*5+1,false)]).length:Nat)=y+1+1):=by unfold Hid;rw[List.length_append,List.length_append,List.length_singleton,List.length_singleton];omega
      have KK:Hid (k+((P++[(c,o+j*5,false)]++[(c,o+j*5+1,false)]++fP).length:Nat)=y+1+1+bw):=by unfold Hid;rw[List.length_append,List.length_append,List.length_append,List.length_singleton,List.length_singleton];omega
      have KL:Hid (k+((P++[(c,o+j*5,false)]++[(c,o+j*5+1,false)]++fP++[(c,o+j*5+3,true)]).length:Nat)=y+1+1+bw+1):=by unfold Hid;rw[List.length_append,List.length_append,List.length_append,List.length_append,List.length_singleton,List.length_singleton,List.length_singleton];omega
      have ux:Hid (k+((P++[(c,o+j*5,false)]++[(c,o+j*5+1,false)]++fP++[(c,o+j*5+3,true)]++[(c,o+j*5+4,false)]).length:Nat)=y+1+1+bw+1+1):=by unfold Hid;rw[List.length_append,List.length_append,List.length_append,List.length_append,List.length_append,List.length_singleton,List.length_singleton,List.length_singleton,List.length_singleton];omega
      have uw:=Lib.hid aU
      rw[bZ,aU]
      have nj:Hid (0≤y+1+1∧y+1+1+(fP.length:Nat)≤4611686018427387904):=by unfold Hid;omega
      have xN:=Lib.hid kj
      clear h1 pB ak eg aN dc hE aU kj ej bZ oH
      obtain⟨rr,we,r1⟩:=cV.out wr ul.out.fL
      obtain⟨nz,wg,_⟩:=dt.out wr ul.out.fL
      obtain⟨sn,_⟩:=gM.out wr ul.out.fL
      have vM:Hid (gC w (wr.setCell ⟨c,o+j*5,none⟩ (.int .i64 y)) S (P++[(c,o+j*5,false)]) k):=ul.out.snoc rr (r1 y) oA.out.left.left.left.left (by rw[uw.out];rfl)
      have vN:Hid (gC w ((wr.setCell ⟨c,o+j*5,none⟩ (.int .i64 y)).setCell ⟨c,o+j*5+1,none⟩ (.int .i64 (y+1))) S (P++[(c,o+j*5,false)]++[(c,o+j*5+1,false)]) k):=by
        obtain⟨g0,g1,r2⟩:=dt.out _ vM.out.fL
        exact vM.out.snoc g0 (r2 (y+1)) oA.out.left.left.left (by rw[xT.out];rfl)
      obtain⟨hJ,rr⟩:=rr
      obtain⟨hL,nz⟩:=nz
      clear r1
      go_wp2_with (go_at_call 61;refine(acj _ S fP _ _ (gM.out _ vN.out.fL).2 oA.out.left.left.right nj.out.1 nj.out.2).mono ?_)
      rw[xN.out]
      first
      | (rintro e bq rfl hb)
      | (rintro e bq ⟨rfl,hb⟩)
      have uu:Hid (gC w bq S (P++[(c,o+j*5,false)]++[(c,o+j*5+1,false)]++fP) k):=vN.out.bY hb oA.out.left.left KJ.out.symm
      clear hb rr we nz wg sn
      obtain⟨Ec,U5,zT⟩:=ma.out bq uu.out.fL
      obtain⟨HU,ard,_⟩:=mb.out bq uu.out.fL
      have zZ:Hid (gC w (bq.setCell ⟨c,o+j*5+3,none⟩ (.bool ((y+1+1+bw)%3==0))) S (P++[(c,o+j*5,false)]++[(c,o+j*5+1,false)]++fP++[(c,o+j*5+3,true)]) k):=uu.out.snoc Ec (zT _) oA.out.left (by rw[KK.out];rfl)
      have Kz:Hid (gC w ((bq.setCell ⟨c,o+j*5+3,none⟩ (.bool ((y+1+1+bw)%3==0))).setCell ⟨c,o+j*5+4,none⟩ (.int .i64 (y+1+1+bw+1))) S (P++[(c,o+j*5,false)]++[(c,o+j*5+1,false)]++fP++[(c,o+j*5+3,true)]++[(c,o+j*5+4,false)]) k):=by
        obtain⟨g0,g1,ads⟩:=mb.out _ zZ.out.fL
        exact zZ.out.snoc g0 (ads _) oA.out (by rw[KL.out];rfl)
      obtain⟨arv,Ec⟩:=Ec
      obtain⟨arw,HU⟩:=HU
      clear zT
      go_wp2
      go_roundw
      case rel=>exact⟨j+1,by omega,by go_num,by rw[qg.out,ux.out],by rw[qg.out];exact Kz.out⟩
      case measure=>simp[intOf];omega
    · have e:j=n:=by omega
      subst e
      go_wp2
      go_ret
      exact⟨rfl,ej.out⟩
open Go Go.RowKit
theorem S9 (b:Bool):(b !=b)=false:=by cases b<;>rfl
theorem ahE (A:Option Addr) (c o n cap:Nat) (k:Int) (w:World) (cm:0<n→A=some ⟨c,o,none⟩) (hv: ∀i:Nat,i<n→w.cell? ⟨c,o+i,none⟩=some (.bool ((k+i)%3==0))) (aA:0≤k) (h1:k+n≤4611686018427387904):
    Calls Tryz.prog 74 #[.slice A n cap,.int .i64 k] w fun e w'=>e= .returned (.int .i64 (k+n))∧w'=w:=by
  have jp:=Lib.hid cm;clear cm
  replace hv:=Lib.hid hv
  go_enter Tryz.func74,Tryz.ntmps74
  go_wp2
  go_loopw [1,5] (fun q i wr=> ∃j:Nat,j≤n∧i= .int .i64 j∧q= .int .i64 (k+j)∧wr=w) (fun _ i _=>n - (intOf i).toNat)
  case atStart=>exact⟨0,Nat.zero_le _,rfl,by simp,rfl⟩
  case round=>
    obtain⟨j,ac,rfl,rfl,rfl⟩:=hrel
    by_cases aQ:j<n
    · obtain rfl:=jp.out (by omega)
      have xK:=hv.out j aQ
      have qf: ∀b:Bool,(b !=b)=false:=S9
      go_wp2
      go_roundw
      case rel=>exact⟨j+1,by omega,by go_num,by go_num,trivial⟩
      case measure=>simp[intOf];omega
    · have e:j=n:=by omega
      subst e
      go_wp2
      go_ret
      exact⟨rfl,rfl⟩
theorem ahF (A:Option Addr) (c o n cap:Nat) (k:Int) (w:World) (cm:0<n→A=some ⟨c,o,none⟩) (hv: ∀i:Nat,i<n→w.cell? ⟨c,o+i*2,none⟩=some (.int .i64 (k+2*i))∧w.cell? ⟨c,o+i*2+1,none⟩=some (.int .i64 (k+2*i+1))) (aA:0≤k) (h1:k+2*n≤4611686018427387904):
    Calls Tryz.prog 75 #[.slice A n cap,.int .i64 k] w fun e w'=>e= .returned (.int .i64 (k+2*n))∧w'=w:=by
  have jp:=Lib.hid cm;clear cm
  replace hv:=Lib.hid hv
  go_enter Tryz.func75,Tryz.ntmps75
  go_wp2
  go_loopw [1,5] (fun q i wr=> ∃j:Nat,j≤n∧i= .int .i64 j∧q= .int .i64 (k+2*j)∧wr=w) (fun _ i _=>n - (intOf i).toNat)
  case atStart=>exact⟨0,Nat.zero_le _,rfl,by simp,rfl⟩
  case round=>
    obtain⟨j,ac,rfl,rfl,rfl⟩:=hrel
    by_cases aQ:j<n
    · obtain rfl:=jp.out (by omega)
      obtain⟨xK,zR⟩:=hv.out j aQ
      have qf: ∀b:Bool,(b !=b)=false:=S9
      go_wp2
      go_roundw
      case rel=>exact⟨j+1,by omega,by go_num,by go_num,trivial⟩
      case measure=>simp[intOf];omega
    · have e:j=n:=by omega
      subst e
      go_wp2
      go_ret
      exact⟨rfl,rfl⟩
theorem UX:F6 Tryz.prog 74 (.l .bool):=fun w S L v k h hm aA h1=>by
  obtain⟨A,n,cap,rfl⟩:=h.nE
  obtain⟨oK,c,o,cm,rfl,hc⟩:=h.flat (.inr ⟨rfl,rfl⟩) (q:=1) rfl
  rw[vp] at h1 ⊢
  have h2:k+n≤4611686018427387904:=by omega
  have ak:(Ending.returned (.int .i64 (k+n)):Ending)= .returned (.int .i64 (k+((n*1:Nat):Int))):=by congr 2;omega
  rw[←ak]
  have hv:=e8.row.1 hm
  refine(ahE A c o n cap k w cm (fun i hi=>hv i (by omega)) aA h2).mono ?_
  rintro e w' ⟨rfl,rfl⟩
  exact⟨rfl,.refl _ _⟩
theorem ahA:F6 Tryz.prog 75 (.l .e0):=fun w S L v k h hm aA h1=>by
  obtain⟨A,n,cap,rfl⟩:=h.nE
  obtain⟨oK,c,o,cm,rfl,hc⟩:=h.flat (.inl ⟨rfl,rfl⟩) (q:=2) rfl
  rw[vp] at h1 ⊢
  have h2:k+2*n≤4611686018427387904:=by omega
  have ak:(Ending.returned (.int .i64 (k+2*n)):Ending)= .returned (.int .i64 (k+((n*2:Nat):Int))):=by congr 2;omega
  rw[←ak]
  have hv:=e8.row.1 hm
  refine(ahF A c o n cap k w cm (fun i hi=>⟨(hv (i*2) (by omega)).trans (by show some (Value.int .i64 (k+((i*2:Nat):Int)))=_;congr 2;omega),(by rw[Nat.add_assoc];exact(hv (i*2+1) (by omega)).trans (by show some (Value.int .i64 (k+((i*2+1:Nat):Int)))=_;congr 2;omega))⟩) aA h2).mono ?_
  rintro e w' ⟨rfl,rfl⟩
  exact⟨rfl,.refl _ _⟩
theorem ahz:F6 Tryz.prog 76 (.l .held):=fun w S L v k h D0 aA h1=>by
  obtain⟨A,n,cap,rfl⟩:=h.nE
  obtain⟨oK,c,o,Ls,cm,rfl,au,hi,hb⟩:=h.elem
  have H1:Hid (k+((bY (fun i=>bY (Ls i) 5) n).length:Nat)≤4611686018427387904):=h1
  have uk:Hid (e8 w (bY (fun i=>bY (Ls i) 5) n) k):=D0
  have jp:=Lib.hid cm;clear cm
  have cD:=Lib.hid au;clear au
  have oy:=Lib.hid hi;clear hi
  have xH:=Lib.hid hb;clear hb
  clear h h1 D0
  show Calls _ _ _ _ fun fV w'=>fV= .returned (.int .i64 (k+((bY (fun i=>bY (Ls i) 5) n).length:Nat)))∧Below w.heap.size w w'
  go_enter Tryz.func76,Tryz.ntmps76
  go_wp2
  go_loopw [1,5] (fun q i wr=> ∃j:Nat,j≤n∧i= .int .i64 j∧q= .int .i64 (k+((bY (fun i=>bY (Ls i) 5) j).length:Nat))∧Below w.heap.size w wr) (fun _ i _=>n - (intOf i).toNat)
  case atStart=>exact⟨0,Nat.zero_le _,rfl,by simp[bY],.refl _ _⟩
  case round=>
    obtain⟨j,ac,rfl,rfl,hm⟩:=hrel
    have ej:=Lib.hid hm;clear hm
    by_cases aQ:j<n
    · obtain rfl:=jp.out (by omega)
      obtain⟨eg,-⟩:=oy.out j 0 aQ rfl
      rw[show o+(j*(aX.bN .held).length+0)=o+j*5 from by show o+(j*5+0)=_;omega] at eg
      obtain⟨aN,-⟩:=oy.out j 1 aQ rfl
      rw[show o+(j*(aX.bN .held).length+1)=o+j*5+1 from by show o+(j*5+1)=_;omega] at aN
      obtain⟨hE,-⟩:=oy.out j 4 aQ rfl
      rw[show o+(j*(aX.bN .held).length+4)=o+j*5+4 from by show o+(j*5+4)=_;omega] at hE
      obtain⟨dc,-⟩:=xH.out j 3 aQ rfl
      rw[show o+(j*(aX.bN .held).length+3)=o+j*5+3 from by show o+(j*5+3)=_;omega] at dc
      obtain⟨bM,n2,bu,iX⟩:=cD.out j 2 .bool aQ rfl
      rw[show o+(j*(aX.bN .held).length+2)=o+j*5+2 from by show o+(j*5+2)=_;omega] at iX
      have aO:bY (fun i=>bY (Ls i) 5) (j+1)=bY (fun i=>bY (Ls i) 5) j++([(c,o+j*5,false),(c,o+j*5+1,false)]++(Ls j 2++[(c,o+j*5+3,true),(c,o+j*5+4,false)])):=by
        show _++(((((([]:dm)++Ls j 0)++Ls j 1)++Ls j 2)++Ls j 3)++Ls j 4)=_
        rw[eg,aN,dc,hE];simp only[List.append_assoc,List.nil_append,List.cons_append]
      obtain⟨P,bZ⟩: ∃P,bY (fun i=>bY (Ls i) 5) j=P:=⟨_,rfl⟩
      obtain⟨fP,oH⟩: ∃fP,Ls j 2=fP:=⟨_,rfl⟩
      obtain⟨r,ak⟩:=Dr (f:=fun i=>bY (Ls i) 5) (n:=n) (j:=j+1) (by omega)
      have h3:=uk.out
      have h1:k+((bY (fun i=>bY (Ls i) 5) n).length:Nat)≤4611686018427387904:=H1.out
      rw[bZ,oH] at aO
      rw[oH] at iX
      rw[ak,aO] at h3 h1
      have gM:=Lib.hid iX;clear iX
      have qg:=Lib.hid aO;clear aO
      obtain⟨y,aU⟩: ∃y:Int,k+(P.length:Nat)=y:=⟨_,rfl⟩
      obtain⟨bw,kj⟩: ∃bw:Nat,fP.length=bw:=⟨_,rfl⟩
      have h3:=(e8.qk.1 (e8.qk.1 h3).1).2
      rw[aU] at h3
      obtain⟨⟨d0,d1,-⟩,h3⟩:=e8.qk.1 h3
      obtain⟨d2,d3,d4,-⟩:=e8.qk.1 h3
      rw[show(([(c,o+j*5,false),(c,o+j*5+1,false)]:dm).length:Nat)=2 from rfl] at d2 d3 d4
      rw[kj] at d3 d4
      have pB:k+(P.length+2+fP.length+2:Nat)≤4611686018427387904:=by
        simp only[List.length_append,List.length_cons,List.length_nil] at h1
        omega
      have H0:0≤y:=by omega
      have yx:y+bw+4≤4611686018427387904:=by omega
      have iZ:=x1 d0
      have fA:w.cell? ⟨c,o+j*5,none⟩=some (.int .i64 y):=d0
      have c5:w.cell? ⟨c,o+j*5+1,none⟩=some (.int .i64 (y+1)):=d1
      have eJ:w.cell? ⟨c,o+j*5+3,none⟩=some (.bool ((y+1+1+bw)%3==0)):=by
        refine d3.trans ?_
        show some (Value.bool ((y+(2:Nat)+bw)%3==0))=_
        rw[show y+((2:Nat):Int)=y+1+1 by omega]
      have m8:w.cell? ⟨c,o+j*5+4,none⟩=some (.int .i64 (y+1+1+bw+1)):=by
        refine d4.trans ?_
        show some (Value.int .i64 (y+(2:Nat)+bw+1))=_
        rw[show y+((2:Nat):Int)=y+1+1 by omega]
      have ady:=Lib.hid eJ;clear eJ
      have adz:=Lib.hid m8;clear m8
      have iw:Hid (e8 w fP (y+1+1)):=by rw[show y+((2:Nat):Int)=y+1+1 by omega] at d2;exact d2
      have ux:Hid (k+((P++([(c,o+j*5,false),(c,o+j*5+1,false)]++(fP++[(c,o+j*5+3,true),(c,o+j*5+4,false)]))).length:Nat)=y+1+1+bw+1+1):=by
        unfold Hid;simp only[List.length_append,List.length_cons,List.length_nil];omega
      rw[bZ,aU]
      have nj:Hid (0≤y+1+1∧y+1+1+(fP.length:Nat)≤4611686018427387904):=by unfold Hid;omega
      have xN:=Lib.hid kj
      have Kf:=Lib.hid iZ
      have cG:wr.cell? ⟨c,o+j*5,none⟩=some (.int .i64 y):=by simp only[World.cell?,ej.out.block c iZ];exact fA
      have q1:wr.cell? ⟨c,o+j*5+1,none⟩=some (.int .i64 (y+1)):=by simp only[World.cell?,ej.out.block c iZ];exact c5
      obtain⟨q2,_⟩:=gM.out wr (dY.below ej.out)
      have g1:decide (y+1+1+(bw:Int)<0)=false:=decide_eq_false (by omega)
      clear h1 pB ak eg aN dc hE aU kj bZ oH fA c5 d0 d1 d2 d3 d4 h3 iZ
      go_wp2_with (go_at_call 74;refine(UX _ S fP _ _ (gM.out _ (dY.below ej.out)).2 (iw.out.cT fun x hx ⟨u,hu⟩=>by simp only[World.cell?,ej.out.block _ (x1 hu)]) nj.out.1 nj.out.2).mono ?_)
      rw[xN.out]
      first
      | (rintro e bq rfl hb)
      | (rintro e bq ⟨rfl,hb⟩)
      have um:=Lib.hid (ej.out.trans (hb.mono ej.out.size));clear hb cG q1 q2
      have q3:bq.cell? ⟨c,o+j*5+3,none⟩=some (.bool ((y+1+1+bw)%3==0)):=by simp only[World.cell?,um.out.block c Kf.out];exact ady.out
      have q4:bq.cell? ⟨c,o+j*5+4,none⟩=some (.int .i64 (y+1+1+bw+1)):=by simp only[World.cell?,um.out.block c Kf.out];exact adz.out
      go_wp2
      go_roundw
      case rel=>exact⟨j+1,by omega,by go_num,by rw[qg.out,ux.out],um.out⟩
      case measure=>simp[intOf];omega
    · have e:j=n:=by omega
      subst e
      go_wp2
      go_ret
      exact⟨rfl,ej.out⟩
open Go Go.RowKit
theorem KY {w:World} {b:Nat} {bE bz bu ke:Value} {ty:TypeId} (h:w.heap[b]?=some (.cells #[bE,bz,bu,ke] ty (0,0))):w.cell? ⟨b,0,none⟩=some bE∧w.cell? ⟨b,1,none⟩=some bz∧w.cell? ⟨b,2,none⟩=some bu∧w.cell? ⟨b,3,none⟩=some ke:=by
  refine⟨?_,?_,?_,?_⟩<;>simp[World.cell?,h]
open Go Go.RowKit
def mv (F:Frame):Nat:=F.aE.length+F.ay.length*2+(F.O.map fun h=>4+h.ae.length).sum
def P5 (F:Frame):Prop:=F.aE.length≤4611686018427387904∧F.ay.length≤4611686018427387904∧F.O.length≤4611686018427387904∧ ∀h∈F.O,h.ae.length≤4611686018427387904
theorem aeM {P:Program} {f:FuncId} {args:List AV} {F:Frame} (h:c8 P f args [] fun r H=>r= .agg [aq F.ok,ap 0 0 F.aE.length,ap 1 0 F.ay.length,ap 2 0 F.O.length]∧H=jy F) (eH:P5 F) {w:World} {vs:List Value} (aw:ah (V2 (Env.at w)) args vs):
    Calls P f vs.toArray w fun e w'=> ∃bR bE bO bz bM bu L,e= .returned (.agg #[.bool F.ok,.slice bR F.aE.length bE,.slice bO F.ay.length bz,.slice bM F.O.length bu])∧Below w.heap.size w w'∧ep w' (ec w w') (.agg (cq false F)) (.agg #[.bool F.ok,.slice bR F.aE.length bE,.slice bO F.ay.length bz,.slice bM F.O.length bu])∧jY .bool .e0 .held w' (ec w w') bR bO bM F.aE.length bE F.ay.length bz F.O.length bu L∧kJ L∧L.length=mv F:=by
  refine(h.2 (Env.at w) vs (fun _=>rfl) (Gn w) aw).mono ?_
  rintro fV w' ⟨r,v,H',E',rfl,⟨rfl,rfl⟩,rfl,ag,hs,hv,a6⟩
  have hb:RowKit.Below w.heap.size w E'.w:=⟨a6.os,a6.tape,a6.output,a6.size,fun k hk=>a6.cT k hk (fun⟨b,hb⟩=>by cases hb) (fun⟨b,hb⟩=>by cases hb)⟩
  have iY: ∀c,E'.PF c∨E'.fW c→ec w E'.w c:=fun c hc=>by
    rcases hc with hc | hc
    · exact⟨(a6.fS c hc).elim (fun h=>h.elim) id,hs.eh c (hs.dU c hc),hs.ga c hc⟩
    · exact⟨(a6.qH c hc).elim (fun⟨b,hb⟩=>by cases hb) id,hs.gi c hc,hs.Nb hc⟩
  have ak:ie (jy F) (.agg [aq F.ok,ap 0 0 F.aE.length,ap 1 0 F.ay.length,ap 2 0 F.O.length]) (px .frame F):=by
    refine ie.agg (ah.cons (pe rfl) (ah.cons (p_ (sz:=1) rfl rfl vU ⟨eH.1,rfl⟩) (ah.cons (p_ (sz:=2) rfl rfl x0 ⟨eH.2.1,rfl⟩) (ah.cons (Cs (s:=3) (ws:=F.O) (ids:=List.range F.O.length) (bs:=F.O.map av.ae) rfl rfl (fun id k h=>h) ⟨(G_ F.O).1,eH.2.2.1,fun x hx=> ?_,(G_ F.O).2⟩) ah.nil))))
    obtain⟨q,U,rfl⟩:=List.mem_map.1 hx
    exact eH.2.2.2 q U
  have aO:=acq (e:= .frame) (x:=F) hs ak hv iY
  obtain⟨eX,rfl,ab⟩:=(show ∃eX:List Value,v= .agg eX.toArray∧ah (b6 E') [aq F.ok,ap 0 0 F.aE.length,ap 1 0 F.ay.length,ap 2 0 F.O.length] eX from hv)
  obtain⟨R6,eX,rfl,si,ab⟩:=ab.cons_inv
  obtain⟨v0,eX,rfl,aA,ab⟩:=ab.cons_inv
  obtain⟨v1,eX,rfl,h1,ab⟩:=ab.cons_inv
  obtain⟨v2,eX,rfl,h2,ab⟩:=ab.cons_inv
  obtain rfl:=ab.pT
  have si:a1 E'.w E'.PA E'.PF (.bool F.ok) R6:=si
  cases si
  obtain⟨bR,bE,bO,bz,bM,bu,L,rfl,rfl,rfl,hf,aY,au⟩:=Zc hs (S:=ec w E'.w) (fun c hc=>iY c (.inr hc)) eH aA h1 h2
  exact⟨bR,bE,bO,bz,bM,bu,L,rfl,hb,aO,hf,aY,au⟩
theorem aeH {P:Program} {f:FuncId} {args:List AV} {F:Frame} (h:bn P f args (.agg (cq true F))) {w:World} {vs:List Value} (aw:ah (V2 (Env.at w)) args vs):
    Calls P f vs.toArray w fun e w'=> ∃bR bE bO bz bM bu,e= .returned (.agg #[.bool F.ok,.slice bR F.aE.length bE,.slice bO F.ay.length bz,.slice bM F.O.length bu])∧Below w.heap.size w w'∧ep w' (ec w w') (.agg (cq false F)) (.agg #[.bool F.ok,.slice bR F.aE.length bE,.slice bO F.ay.length bz,.slice bM F.O.length bu]):=
  (bn.CA (e:= .frame) (x:=F) h aw).mono fun e w' ⟨ea,h1,h2,aC⟩=>by
    obtain⟨bR,bE,bO,bz,bM,bu,rfl,_⟩:=ap6 aC
    exact⟨bR,bE,bO,bz,bM,bu,h1,h2,aC⟩
theorem RK {α:Type} {f:α→Nat} {c:Nat}: ∀{xs:List α},(∀x∈xs,f x≤c)→(xs.map f).sum≤xs.length*c
  | [],_=>by simp
  | x::r,h=>by
    rw[List.map_cons,List.sum_cons,List.length_cons,Nat.succ_mul]
    have:=h x (List.mem_cons_self ..)
    have:=RK (xs:=r) fun y aU=>h y (List.mem_cons_of_mem _ aU)
    omega
theorem YJ {p:aL} {f:Frame} (bZ:us p) (h:iT p f):mv f≤1000000:=by
  have h1:=h.aE
  have h2:=h.ay
  have aC:=h.O
  have bg:=bZ.cY
  have ch:=bZ.bh
  have cy:=bZ.O
  have hr:=RK (f:=fun h:av=>4+h.ae.length) (c:=34) (xs:=f.O) fun x hx=>by
    obtain⟨i,hi,rfl⟩:=List.mem_iff_getElem.1 hx
    have eI:i<p.O.length:=by omega
    have:=h.ae i _ _ (List.getElem?_eq_getElem hi) (List.getElem?_eq_getElem eI)
    have:=(bZ.ao _ (List.getElem_mem eI)).2.1
    show 4+(f.O[i]).ae.length≤34
    omega
  unfold mv
  omega
end Go.Proofs.YtejmihecgodhnaaGreat.Fw
set_option linter.unusedVariables false
set_option maxRecDepth 100000
set_option maxHeartbeats 4000000
set_option linter.unusedSimpArgs false
namespace Go.Proofs.YtejmihecgodhnaaGreat.Fw
open Go
attribute [local irreducible] evS evSD WpS Weak Oper.looksAt
section
variable (a0 J:fj) (aa:Bool)
def Xr:Prop:=
 ((a0.code !=J.code)=true→false=aa)∧((!(a0.code !=J.code))=true→((!(eqv a0.frame J.frame))=true→false=aa)∧((!(!(eqv a0.frame J.frame)))=true→true=aa))
theorem akq:bn Tryz.prog 31 [.agg (iy false a0),.agg (iy false J)] (aq (eqv a0 J)):=(fun(h:Xr a0 J (eqv a0 J))=>bn.run (ps:=[.done,.done]) (rs:=[.bool]) (x:=(a0,J,())) (r:=((eqv a0 J),())) ⟨16,dy,[aky]⟩ ⟨[],[],[],[],[]⟩ .nil Tryz.func31 h) (by
 unfold Xr
 obtain⟨a,b⟩:=a0
 obtain⟨hB,b4⟩:=J
 simp[eqv]
 intros
 simp_all)
def akr:dJ Tryz.prog:=⟨31,[.done,.done],[.bool],none,fun x=>((eqv x.1 x.2.1),()),fun x h=>akq x.1 x.2.1⟩
end
end Go.Proofs.YtejmihecgodhnaaGreat.Fw
set_option linter.unusedVariables false
namespace Go.Proofs.YtejmihecgodhnaaGreat.Fw
open Go Go.RowKit
theorem aeN {P:Program} {f:FuncId} {args:List AV} {s:fj} (h:c8 P f args [] fun r H=>r= .agg [ad s.code,aq s.frame.ok,ap 0 0 s.frame.aE.length,ap 1 0 s.frame.ay.length,ap 2 0 s.frame.O.length]∧H=jy s.frame) (eH:P5 s.frame) {w:World} {vs:List Value} (aw:ah (V2 (Env.at w)) args vs):
    Calls P f vs.toArray w fun e w'=> ∃bR bE bO bz bM bu L,e= .returned (.agg #[.int .i64 s.code,.bool s.frame.ok,.slice bR s.frame.aE.length bE,.slice bO s.frame.ay.length bz,.slice bM s.frame.O.length bu])∧Below w.heap.size w w'∧ep w' (ec w w') (.agg (iy false s)) (.agg #[.int .i64 s.code,.bool s.frame.ok,.slice bR s.frame.aE.length bE,.slice bO s.frame.ay.length bz,.slice bM s.frame.O.length bu])∧jY .bool .e0 .held w' (ec w w') bR bO bM s.frame.aE.length bE s.frame.ay.length bz s.frame.O.length bu L∧kJ L∧L.length=mv s.frame:=by
  refine(h.2 (Env.at w) vs (fun _=>rfl) (Gn w) aw).mono ?_
  rintro fV w' ⟨r,v,H',E',rfl,⟨rfl,rfl⟩,rfl,ag,hs,hv,a6⟩
  have hb:RowKit.Below w.heap.size w E'.w:=⟨a6.os,a6.tape,a6.output,a6.size,fun k hk=>a6.cT k hk (fun⟨b,hb⟩=>by cases hb) (fun⟨b,hb⟩=>by cases hb)⟩
  have iY: ∀c,E'.PF c∨E'.fW c→ec w E'.w c:=fun c hc=>by
    rcases hc with hc | hc
    · exact⟨(a6.fS c hc).elim (fun h=>h.elim) id,hs.eh c (hs.dU c hc),hs.ga c hc⟩
    · exact⟨(a6.qH c hc).elim (fun⟨b,hb⟩=>by cases hb) id,hs.gi c hc,hs.Nb hc⟩
  have ak:ie (jy s.frame) (.agg [ad s.code,aq s.frame.ok,ap 0 0 s.frame.aE.length,ap 1 0 s.frame.ay.length,ap 2 0 s.frame.O.length]) (px .done s):=by
    refine ie.agg (ah.cons (Ct rfl) (ah.cons (pe rfl) (ah.cons (p_ (sz:=1) rfl rfl vU ⟨eH.1,rfl⟩) (ah.cons (p_ (sz:=2) rfl rfl x0 ⟨eH.2.1,rfl⟩) (ah.cons (Cs (s:=3) (ws:=s.frame.O) (ids:=List.range s.frame.O.length) (bs:=s.frame.O.map av.ae) rfl rfl (fun id k h=>h) ⟨(G_ s.frame.O).1,eH.2.2.1,fun x hx=> ?_,(G_ s.frame.O).2⟩) ah.nil)))))
    obtain⟨q,U,rfl⟩:=List.mem_map.1 hx
    exact eH.2.2.2 q U
  have aO:=acq (e:= .done) (x:=s) hs ak hv iY
  obtain⟨eX,rfl,ab⟩:=(show ∃eX:List Value,v= .agg eX.toArray∧ah (b6 E') [ad s.code,aq s.frame.ok,ap 0 0 s.frame.aE.length,ap 1 0 s.frame.ay.length,ap 2 0 s.frame.O.length] eX from hv)
  obtain⟨aqf,eX,rfl,ii,ab⟩:=ab.cons_inv
  obtain⟨R6,eX,rfl,si,ab⟩:=ab.cons_inv
  obtain⟨v0,eX,rfl,aA,ab⟩:=ab.cons_inv
  obtain⟨v1,eX,rfl,h1,ab⟩:=ab.cons_inv
  obtain⟨v2,eX,rfl,h2,ab⟩:=ab.cons_inv
  obtain rfl:=ab.pT
  have ii:a1 E'.w E'.PA E'.PF (.int .i64 s.code) aqf:=ii
  have si:a1 E'.w E'.PA E'.PF (.bool s.frame.ok) R6:=si
  cases ii;cases si
  obtain⟨bR,bE,bO,bz,bM,bu,L,rfl,rfl,rfl,hf,aY,au⟩:=Zc hs (S:=ec w E'.w) (fun c hc=>iY c (.inr hc)) eH aA h1 h2
  exact⟨bR,bE,bO,bz,bM,bu,L,rfl,hb,aO,hf,aY,au⟩
def Sj (w:World) (s:fj) (e:Ending) (w':World):Prop:= ∃bR bE bO bz bM bu L,e= .returned (.agg #[.int .i64 s.code,.bool s.frame.ok,.slice bR s.frame.aE.length bE,.slice bO s.frame.ay.length bz,.slice bM s.frame.O.length bu])∧Below w.heap.size w w'∧ep w' (ec w w') (.agg (iy false s)) (.agg #[.int .i64 s.code,.bool s.frame.ok,.slice bR s.frame.aE.length bE,.slice bO s.frame.ay.length bz,.slice bM s.frame.O.length bu])∧jY .bool .e0 .held w' (ec w w') bR bO bM s.frame.aE.length bE s.frame.ay.length bz s.frame.O.length bu L∧kJ L∧L.length=mv s.frame
theorem KQ {w:World} {b:Nat} {bE bz bu ke mg:Value} {ty:TypeId} (h:w.heap[b]?=some (.cells #[bE,bz,bu,ke,mg] ty (0,0))):w.frozen? ⟨b,0,none⟩=false∧w.frozen? ⟨b,1,none⟩=false∧w.frozen? ⟨b,2,none⟩=false∧w.frozen? ⟨b,3,none⟩=false∧w.frozen? ⟨b,4,none⟩=false:=by
  refine⟨?_,?_,?_,?_,?_⟩<;>simp[World.frozen?,h]
theorem cI.aap {W w:World} {l:List dE} (h:cI W w l) {b:Nat} (v0 v1 v2 v3 v4:Value) (hb:W.heap.size≤b:=by omega):Below W.heap.size W (((((w.setCell ⟨b,0,none⟩ v0).setCell ⟨b,1,none⟩ v1).setCell ⟨b,2,none⟩ v2).setCell ⟨b,3,none⟩ v3).setCell ⟨b,4,none⟩ v4):=
  ((((h.end.setCell hb _).setCell hb _).setCell hb _).setCell hb _).setCell hb _
theorem aeG {p:aL} {gF:Event} {w:World} {v u:Value} (h:V2 (Env.at w) (.agg (bD false p)) v) (h':V2 (Env.at w) (.agg (dL gF)) u):
    Calls Tryz.prog 71 #[v,u] w fun e w'=>e= .returned (.bool (fD p gF))∧Below w.heap.size w w':=
  bn.bool (vs:=[v,u]) (ajl p gF) (.cons h (.cons h' .nil))
theorem aaG {f:Frame} (h:iu f):P5 f:=⟨by have:=h.1;omega,by have:=h.2.1;omega,by have:=h.2.2.1;omega,fun x hx=>by have:=h.2.2.2 x hx;omega⟩
theorem ae_ {p:aL} {f:Frame} {e:Event} (h:GN p f e):iT p (ih p f e).frame:=by
  unfold ih
  split
  · exact h.1.fr
  · exact zm (GM h.1.fr (s6 h.2)) _
theorem aeI {p:aL} {f:Frame} {gF:Event} (ab:GN p f gF) {w:World} {v u x:Value} (h:V2 (Env.at w) (.agg (bD false p)) v) (h':V2 (Env.at w) (.agg (cq false f)) u) (h2:V2 (Env.at w) (.agg (dL gF)) x):
    Calls Tryz.prog 72 #[v,u,x] w (Sj w (ih p f gF)):=
  aeN (vs:=[v,u,x]) (aja p f gF ab) (aaG (Av ⟨ab.1.oF,ae_ ab⟩)) (.cons h (.cons h' (.cons h2 .nil)))
theorem V2.below {a:AV} {v:Value} {w w':World} (h:V2 (Env.at w) a v) (hb:Below w.heap.size w w'):V2 (Env.at w') a v:=
  V2.le (E:=Env.at w) (E':=Env.at w') ⟨fun c hc=>Nat.lt_of_lt_of_le hc hb.size,fun _ h=>h.elim,fun c hc=>hb.block c hc,fun _ h=>h.elim,fun _=>Nat.le_refl _,(fun _ _ h _=>by cases h),(fun _ _ h=>by cases h)⟩ h
theorem Tc {w:World} {b:Nat} {bE bz bu:Value} {ty:TypeId} (h:w.heap[b]?=some (.cells #[bE,bz,bu] ty (0,0))):w.cell? ⟨b,0,none⟩=some bE∧w.cell? ⟨b,1,none⟩=some bz∧w.cell? ⟨b,2,none⟩=some bu:=by
  refine⟨?_,?_,?_⟩<;>simp[World.cell?,h]
set_option maxHeartbeats 4000000
set_option maxRecDepth 100000
end Go.Proofs.YtejmihecgodhnaaGreat.Fw
set_option linter.unusedVariables false
set_option maxRecDepth 100000
set_option maxHeartbeats 4000000
set_option linter.unusedSimpArgs false
namespace Go.Proofs.YtejmihecgodhnaaGreat.Fw
open Go
attribute [local irreducible] evS evSD WpS Weak Oper.looksAt
section
abbrev rU (r:Type):Type:=Nat→(List bL)→Int→r
abbrev rV (r:Type):Type:=Nat→(List bL)→Int→List (List Bool)→Nat→Nat→List Nat→Int→List av→r
variable (ai:rU Prop) (al:rU Nat) (bb:rV Prop) (a_:rV Nat) (a0:aL) (aa:Frame) (g1:Nat) (ax:(List bL)) (dh:Int) (aM:List (List Bool)) (g2 g3:Nat) (aD:List Nat) (v28:Int) (ws2:List av)
abbrev u1:=av.mk (c7 a0 v28).aF (c7 a0 v28).bc (c7 a0 v28).ae (c7 a0 v28).bW (c7 a0 v28).bU
abbrev Eh:List AV:=[ad (c7 a0 v28).aF,ad (c7 a0 v28).bc,ap (aM.length+4) 0 (c7 a0 v28).ae.length,aq (c7 a0 v28).bW,ad (c7 a0 v28).bU]
abbrev iE:=List.replicate a0.ao.toNat false
abbrev Ek:=bm 41 [(1,aJ 1 0),(2,aJ 2 0),(3,aJ 3 0),(27,ad (a0.O.length:Int)),(28,ad 0)]
abbrev pM:List AV:=[aq false,cu,cu,cu]
abbrev wC:=IntKind.i64.wrap (v28+1)
abbrev VR:=bm 41 [(28,ad (wC v28)),(39,ad (wC v28)),(1,aJ 1 0),(2,aJ 2 0),(3,aJ 3 0),(27,ad (a0.O.length:Int))]
abbrev u2:=aM++[(c7 a0 v28).ae]
abbrev Nn:List Blk:=(⟨0,1,List.map aR (iE a0)⟩::⟨g1,2,List.map ba ax⟩::⟨(g2+1),5,aW 4 (ws2++[(u1 a0 v28)]) (aD++[aM.length])⟩::⟨(g3+1),5,[(Eh a0 aM v28)]⟩::List.map bj (u2 a0 aM v28))
abbrev A7:List AV:=[aq true,ap 0 0 (iE a0).length,ap 1 g1 ax.length,ap 2 g2 ws2.length]
abbrev kS:=bD false a0
abbrev No:List (Nat×List AV):=[(3,[aq true,ap 0 0 (iE a0).length,ap 1 g1 ax.length,ap 2 (g2+1) (ws2++[(u1 a0 v28)]).length]),(2,pM),(1,(kS a0))]
abbrev Nk:List (Nat×List AV):=[(3,[aq true,ap 0 0 (iE a0).length,ap 1 g1 ax.length,ap 2 0 ([]:List av).length]),(2,pM),(1,(kS a0))]
abbrev qI:=[(bL.mk 1 1)]
abbrev VM:List Blk:=(⟨0,1,List.map aR (iE a0)⟩::⟨g1,2,List.map ba ax⟩::⟨g2,5,aW 4 ws2 aD⟩::⟨(g3+1),5,[(Eh a0 aM v28)]⟩::List.map bj (u2 a0 aM v28))
abbrev pL:=[1000003]
abbrev VN:=bm 41 [(15,ad (a0.a7.length:Int)),(16,ad 0),(3,aJ 3 0),(2,aJ 2 0),(1,aJ 1 0)]
abbrev H8:List AV:=[aq true,ap 0 0 (iE a0).length,cu,cu]
abbrev VO:List Blk:=[⟨0,1,List.map aR (iE a0)⟩,⟨g1,2,List.map ba ax⟩,⟨0,5,aW 4 ([]:List av) ([]:List Nat)⟩]
abbrev Nl:List AV:=[aq true,ap 0 0 (iE a0).length,ap 1 g1 ax.length,cu]
abbrev VP:=true=true∧true=true∧((aJ 3 3:AV)=aJ 3 3)
abbrev VQ:=true=true∧true=true∧((ap 2 g2 ws2.length:AV)=ap 2 g2 ws2.length)
abbrev Ei:=decide (dh<(a0.a7.length:Int))
abbrev Ej:=decide (v28<(a0.O.length:Int))
abbrev A6:=IntKind.i64.wrap (dh+1)
noncomputable def Nj:Code:=jK Tryz.f69
def aiU:List Item:=[cz 0,cz 1,cz 2,cz 3,⟨4,true,false,[0,1]⟩,⟨5,true,false,[0,1]⟩,⟨6,true,false,[]⟩,cz 7,⟨8,true,false,[]⟩]
def aiV:List (List Nat):=[[],[0],[],[],[2,3],[2,3,4],rg 0 6,rg 0 7,rg 0 8]
def Nf:Prop:=
  bb g1 ax dh (u2 a0 aM v28) (g2+1) (g3+1) (aD++[aM.length]) (wC v28) (ws2++[(u1 a0 v28)])∧a_ g1 ax dh (u2 a0 aM v28) (g2+1) (g3+1) (aD++[aM.length]) (wC v28) (ws2++[(u1 a0 v28)])<a_ g1 ax dh aM g2 g3 aD v28 ws2
def Ng:Prop:=
  ((Ej a0 v28)=false→(true=aa.ok)∧((iE a0).length≤4611686018427387904∧(iE a0)=aa.aE)∧(ax.length≤4611686018427387904∧ax=aa.ay)∧(ll ws2 aD aM∧ws2.length≤4611686018427387904∧(∀x∈aM,List.length x≤4611686018427387904)∧view ws2 aD aM=aa.O))∧((Ej a0 v28)=true→((A4 a0 v28)∧(ws2.length=aD.length∧((ws2.length+1)*56≤140737488355328∧ws2.length+1≤4611686018427387904)))∧(Nf bb a_ a0 g1 ax dh aM g2 g3 aD v28 ws2))
def Nh:Prop:=
  ((Ei a0 dh)=false→a0.O.length≤4611686018427387904→bb g1 ax dh ([]:List (List Bool)) 0 0 ([]:List Nat) 0 ([]:List av)∧ ∀(aM:List (List Bool)) (g2:Nat) (g3:Nat) (aD:List Nat) (v28:Int) (ws2:List av),bb g1 ax dh aM g2 g3 aD v28 ws2→(Ng bb a_ a0 aa g1 ax dh aM g2 g3 aD v28 ws2))∧((Ei a0 dh)=true→((ax.length+qI.length)*16≤140737488355328∧ax.length+qI.length≤4611686018427387904)∧(ai (g1+1) (ax++qI) (A6 dh)∧al (g1+1) (ax++qI) (A6 dh)<al g1 ax dh))
def Ni:Prop:=
  ((!(eD a0))=true→(false=aa.ok)∧([]=aa.aE)∧([]=aa.ay)∧([]=aa.O))∧((!(!(eD a0)))=true→(0≤a0.ao∧1*a0.ao≤140737488355328∧a0.ao≤4611686018427387904)∧(a0.a7.length≤4611686018427387904→ai 0 ([]:List bL) 0∧ ∀(g1:Nat) (ax:(List bL)) (dh:Int),ai g1 ax dh→(Nh ai al bb a_ a0 aa g1 ax dh)))
def Nd (a0:aL) (aa:Frame) (ai:rU Prop) (al:rU Nat) (bb:rV Prop) (a_:rV Nat):Prop:=
 Ni ai al bb a_ a0 aa
theorem aiW (a0:aL) (aa:Frame) (ai:rU Prop) (al:rU Nat) (bb:rV Prop) (a_:rV Nat) (h:Nd a0 aa ai al bb a_):bn Tryz.prog 69 [.agg (kS a0)] (.agg (cq true aa)):=by
 unfold Nd at h
 refine c8.go (fn:=Tryz.f69) [(0,.agg (kS a0))] Tryz.func69 (fun _ _=> ?_)
 show WpS _ (bQ Nj 1) _ ⟨bm 41 [(0,.agg (kS a0))],[],[]⟩
 refine sZ pL 0 [(2,aJ 2 0),(1,aJ 1 0)] [2] [] [(2,pM),(1,(kS a0))] [] ?_
 unfold Ni at h
 obtain⟨mA,h⟩:=h
 refine cw [] [2] ((!(!(eD a0)))=true) ?_ (fun q2=> ?_)
 ·
  replace h:=mA
  refine cw [(7,aq (!(eD a0)))] [2] (True) ?_ (fun q3=> ?_)
  ·
   refine bx pL 1 ?_
   refine o7 2 (some 6) [(5,.agg (kS a0))] [.agg (kS a0)] (WH a0) (ah.cons (c6.agg (ah.cons (.int _ _) (ah.cons cJ (ah.cons cJ (ah.cons cJ (ah.cons (.int _ _) ah.nil)))))) ah.nil) ?_
   exact b3 [(7,aq (!(eD a0)))] trivial
  refine dB (fun q4=> ?_) (fun q4=> ?_)
  ·
   replace h:=h q4
   refine et pL 2 [(8,.agg pM)] [] [0,1,1] ?_
   exact hZ (b_.ret (rI (.agg pM) (ie.agg (ah.cons (pe h.1) (ah.cons (ub h.2.1) (ah.cons (ub h.2.2.1) (ah.cons (ub h.2.2.2) ah.nil)))))))
  ·
   refine ew ?_
   exact b_.normal (by simp only[q4]<;>rfl) ei
 replace h:=h q2
 obtain⟨ku,h⟩:=h
 refine fk [(3,aJ 3 0)] [2] (fun L=>(3,(H8 a0))::L) (fun _=>[⟨0,1,List.map aR (iE a0)⟩]) (True) ?_ (fun c0=> ?_)
 ·
  replace h:=ku
  refine bx pL 3 ?_
  have gp:=h
  refine PO 3 (some 11) [(10,ad a0.ao),(9,aJ 1 0)] aR 1 [aq false] 0 (fun r=>[⟨0,1,r⟩]) false gp ?_
  exact b3 [(3,aJ 3 0),(12,.agg (H8 a0))] trivial
 refine ig ?_
 refine cw [(15,ad (a0.a7.length:Int)),(16,ad 0)] [3] (a0.a7.length≤4611686018427387904) ?_ (fun gb=> ?_)
 ·
  refine bx pL 4 ?_
  refine sLen 3 (some 15) [(14,bA cx a0.a7),(13,aJ 1 1)] cx a0.a7 (fun jP=> ?_)
  exact b3 [(16,ad 0)] jP
 replace h:=h gb
 refine fJ 0 ?_
 refine WpS.nQ ?_ (hX (s'':=⟨(VN a0),[(3,[aq true,ap 0 0 (iE a0).length,ap 1 0 ([]:List bL).length,cu]),(2,pM),(1,(kS a0))],[⟨0,1,List.map aR (iE a0)⟩,⟨0,2,List.map ba ([]:List bL)⟩]⟩) (Weak.xU (T:=(VN a0)) (L:=[(3,(H8 a0)),(2,pM),(1,(kS a0))]) (H:=[⟨0,1,List.map aR (iE a0)⟩]) (cells:=(H8 a0)) 3 2 2 (by kernel_rfl) (by kernel_rfl)) (by kernel_rfl))
 obtain⟨o0,h⟩:=h
 refine ln (fun(v:Nat×(List bL)×Int)=>(⟨(bm 41 [(1,aJ 1 0),(2,aJ 2 0),(3,aJ 3 0),(15,ad (a0.a7.length:Int)),(16,ad (v.2.2))]),[(3,[aq true,ap 0 0 (iE a0).length,ap 1 (v.1) (v.2.1).length,cu]),(2,pM),(1,(kS a0))],[⟨0,1,List.map aR (iE a0)⟩,⟨(v.1),2,List.map ba (v.2.1)⟩]⟩:St)) (fun(v:Nat×(List bL)×Int)=>ai (v.1) (v.2.1) (v.2.2)) (fun(v:Nat×(List bL)×Int)=>al (v.1) (v.2.1) (v.2.2)) (0,([]:List bL),0) (dw []) o0 (fun v aT=> ?_)
 obtain⟨g1,ax,dh⟩:=v
 replace h:=h g1 ax dh aT
 dsimp only
 refine et pL 5 [(17,aq (Ei a0 dh))] [1] [5] ?_
 unfold Nh at h
 obtain⟨pW,h⟩:=h
 refine cw [] [0,1,5] ((Ei a0 dh)=true) ?_ (fun jz=> ?_)
 ·
  replace h:=pW
  refine dB (fun iL=> ?_) (fun iL=> ?_)
  ·
   refine ew ?_
   exact b_.normal (by simp only[q2,iL]<;>rfl) ei
  ·
   replace h:=h iL
   refine j3 0 ?_
   refine b_.exit ?_
   refine ed.exit ?_
   refine cc.here ?_
   refine ef.normal ?_
   refine ig ?_
   refine k4 ⟨(Ek a0),[(3,(Nl a0 g1 ax)),(2,pM),(1,(kS a0))],[⟨0,1,List.map aR (iE a0)⟩,⟨g1,2,List.map ba ax⟩]⟩ (a0.O.length≤4611686018427387904) ?_ (fun gj=> ?_)
   ·
    refine bx pL 8 ?_
    refine sLen 3 (some 27) [(26,bA (dj false) a0.O),(25,aJ 1 2)] (dj false) a0.O (fun tM=> ?_)
    exact b3 [(28,ad 0)] tM
   replace h:=h gj
   refine fJ 2 ?_
   refine WpS.nQ ?_ (hX (s'':=⟨(Ek a0),(Nk a0 g1 ax),(VO a0 g1 ax)⟩) (Weak.xU (T:=(Ek a0)) (L:=[(3,(Nl a0 g1 ax)),(2,pM),(1,(kS a0))]) (H:=[⟨0,1,List.map aR (iE a0)⟩,⟨g1,2,List.map ba ax⟩]) (cells:=(Nl a0 g1 ax)) 3 3 5 (by kernel_rfl) (by kernel_rfl)) (by kernel_rfl))
   refine WpS.nQ ?_ (hX (s'':=⟨(Ek a0),(Nk a0 g1 ax),(⟨0,1,List.map aR (iE a0)⟩::⟨g1,2,List.map ba ax⟩::⟨0,5,aW 4 ([]:List av) ([]:List Nat)⟩::⟨0,5,[]⟩::List.map bj ([]:List (List Bool)))⟩) (Weak.Bw (T:=(Ek a0)) (L:=(Nk a0 g1 ax)) (H:=(VO a0 g1 ax)) 5) (by kernel_rfl))
   obtain⟨jB,h⟩:=h
   refine ln (fun(v:List (List Bool)×Nat×Nat×List Nat×Int×List av)=>(⟨(bm 41 [(1,aJ 1 0),(2,aJ 2 0),(3,aJ 3 0),(27,ad (a0.O.length:Int)),(28,ad (v.2.2.2.2.1))]),[(3,[aq true,ap 0 0 (iE a0).length,ap 1 g1 ax.length,ap 2 (v.2.1) (v.2.2.2.2.2).length]),(2,pM),(1,(kS a0))],(⟨0,1,List.map aR (iE a0)⟩::⟨g1,2,List.map ba ax⟩::⟨(v.2.1),5,aW 4 (v.2.2.2.2.2) (v.2.2.2.1)⟩::⟨(v.2.2.1),5,[]⟩::List.map bj (v.1))⟩:St)) (fun(v:List (List Bool)×Nat×Nat×List Nat×Int×List av)=>bb g1 ax dh (v.1) (v.2.1) (v.2.2.1) (v.2.2.2.1) (v.2.2.2.2.1) (v.2.2.2.2.2)) (fun(v:List (List Bool)×Nat×Nat×List Nat×Int×List av)=>a_ g1 ax dh (v.1) (v.2.1) (v.2.2.1) (v.2.2.2.1) (v.2.2.2.2.1) (v.2.2.2.2.2)) (([]:List (List Bool)),0,0,([]:List Nat),0,([]:List av)) (dw []) jB (fun v aT=> ?_)
   obtain⟨aM,g2,g3,aD,v28,ws2⟩:=v
   replace h:=h aM g2 g3 aD v28 ws2 aT
   dsimp only
   refine et pL 9 [(29,aq (Ej a0 v28))] [1] [5] ?_
   unfold Ng at h
   obtain⟨hH,h⟩:=h
   refine cw [] [0,1,5] ((Ej a0 v28)=true) ?_ (fun ld=> ?_)
   ·
    replace h:=hH
    refine dB (fun io=> ?_) (fun io=> ?_)
    ·
     refine ew ?_
     exact b_.normal (by simp only[q2,iL,io]<;>rfl) ei
    ·
     replace h:=h io
     refine j3 2 ?_
     refine b_.exit ?_
     refine ed.exit ?_
     refine cc.here ?_
     refine ef.normal ?_
     refine k4 ⟨(bm 41 [(2,aJ 2 0)]),[(3,(A7 a0 g1 ax g2 ws2)),(2,(A7 a0 g1 ax g2 ws2)),(1,(kS a0))],(⟨0,1,List.map aR (iE a0)⟩::⟨g1,2,List.map ba ax⟩::⟨g2,5,aW 4 ws2 aD⟩::⟨g3,5,[]⟩::List.map bj aM)⟩ (True) ?_ (fun nF=> ?_)
     ·
      refine bx pL 13 ?_
      exact b3 [(40,.agg (A7 a0 g1 ax g2 ws2))] trivial
     exact hZ (rI (.agg (A7 a0 g1 ax g2 ws2)) (ie.agg (ah.cons (pe h.1) (ah.cons (p_ (sz:=1) (by simp) rfl (vU) h.2.1) (ah.cons (p_ (sz:=2) (by simp) rfl (x0) h.2.2.1) (ah.cons (Cs (s:=4) (ws:=ws2) (ids:=aD) (bs:=aM) (by simp) rfl (fun id k h=>by simpa using h) h.2.2.2) ah.nil))))))
   replace h:=h ld
   obtain⟨jg,h⟩:=h
   refine fk [] [5] (fun L=>iz 0 3 (ap 2 (g2+1) (ws2++[(u1 a0 v28)]).length) L) (fun _=>(Nn a0 g1 ax aM g2 g3 aD v28 ws2)) (True) ?_ (fun h8=> ?_)
   ·
    replace h:=jg
    refine fJ 3 ?_
    refine et pL 10 [(4,ad v28),(30,ad v28)] [1] [5] ?_
    refine o5 pL 11 aiU aiV [] ?_
    obtain⟨lL,h⟩:=h
    refine JS 5 (some 35) [(34,ad v28),(33,.agg (kS a0)),(32,ap 2 g2 ws2.length),(31,aJ 3 3)] [.agg (kS a0),ad v28] (fun L H=>sb Tryz.prog (j_ Nj 16025) [0,1] [(34,ad v28),(33,.agg (kS a0)),(32,ap 2 g2 ws2.length),(31,aJ 3 3),(4,ad v28),(1,aJ 1 0),(2,aJ 2 0),(3,aJ 3 0),(27,ad (a0.O.length:Int)),(28,ad v28)] L H) (.agg (Eh a0 aM v28)) (⟨0,1,List.map aR (iE a0)⟩::⟨g1,2,List.map ba ax⟩::⟨g2,5,aW 4 ws2 aD⟩::⟨g3,5,[]⟩::List.map bj (u2 a0 aM v28)) (Ii a0 v28 lL) (ah.cons (c6.agg (ah.cons (.int _ _) (ah.cons cJ (ah.cons cJ (ah.cons cJ (ah.cons (.int _ _) ah.nil)))))) (ah.cons (c6.iH (.int _ _)) ah.nil)) (tK (fun _=>rfl) rfl) (tW (tV (fun _=>rfl) rfl) (by simp only[List.cons_append,List.map_nil,uF])) (wW (ψ:=(VP∧((VQ g2 ws2)∧True))) (by kernel_rfl) ⟨⟨rfl,rfl,rfl⟩,⟨⟨rfl,rfl,rfl⟩,trivial⟩⟩) ?_ (er:=by simp[oh,p1,ji])
    refine FE 1 [(36,.ref 3 (g3+1) 0 1 true)] [(3,(A7 a0 g1 ax g2 ws2)),(2,pM),(1,(kS a0))] (VM a0 g1 ax aM g2 g3 aD v28 ws2) (φ:=sb Tryz.prog (j_ Nj 16025) [0,1] [(35,.agg (Eh a0 aM v28)),(34,ad v28),(33,.agg (kS a0)),(32,ap 2 g2 ws2.length),(31,aJ 3 3),(4,ad v28),(1,aJ 1 0),(2,aJ 2 0),(3,aJ 3 0),(27,ad (a0.O.length:Int)),(28,ad v28)] [(3,(A7 a0 g1 ax g2 ws2)),(2,pM),(1,(kS a0))] (VM a0 g1 ax aM g2 g3 aD v28 ws2)) (wW (ψ:=(VP∧((VQ g2 ws2)∧True))) (by kernel_rfl) ⟨⟨rfl,rfl,rfl⟩,⟨⟨rfl,rfl,rfl⟩,trivial⟩⟩) ?_
    have kZ:=h
    refine acm 1 (some 37) [] 4 2 g2 (g3+1) 56 ws2 aD (u1 a0 v28) aM.length (fun _=>True) (fun r=>(⟨0,1,List.map aR (iE a0)⟩::⟨g1,2,List.map ba ax⟩::⟨(g2+1),5,r⟩::⟨(g3+1),5,[(Eh a0 aM v28)]⟩::List.map bj (u2 a0 aM v28))) kZ.1 kZ.2 trivial ?_
    refine FE 2 [(38,aJ 3 3)] (No a0 g1 ax g2 v28 ws2) (Nn a0 g1 ax aM g2 g3 aD v28 ws2) (φ:=True) trivial ?_
    refine Cy [] ?_
    refine cc.normal ?_
    exact b_.normal trivial ei
   unfold Nf at h
   refine bx pL 12 ?_
   refine d_ [(28,ad (wC v28)),(39,ad (wC v28))] ?_
   exact ed.again ((u2 a0 aM v28),(g2+1),(g3+1),(aD++[aM.length]),(wC v28),(ws2++[(u1 a0 v28)])) h ((Weak.clear 3 rfl:Weak ⟨(VR a0 v28),(No a0 g1 ax g2 v28 ws2),(Nn a0 g1 ax aM g2 g3 aD v28 ws2)⟩ ⟨(VR a0 v28),(No a0 g1 ax g2 v28 ws2),(⟨0,1,List.map aR (iE a0)⟩::⟨g1,2,List.map ba ax⟩::⟨(g2+1),5,aW 4 (ws2++[(u1 a0 v28)]) (aD++[aM.length])⟩::⟨(g3+1),5,[]⟩::List.map bj (u2 a0 aM v28))⟩).trans (dw []))
 replace h:=h jz
 obtain⟨ob,h⟩:=h
 refine fk [] [5] (fun L=>iz 0 2 (ap 1 (g1+1) (ax++qI).length) L) (fun H=>eG 1 ⟨(g1+1),2,List.map ba (ax++qI)⟩ H) (True) ?_ (fun jh=> ?_)
 ·
  replace h:=ob
  refine fJ 1 ?_
  refine bx pL 6 ?_
  have lM:=h
  refine aai 5 (some 22) [(21,.aP (List.map ba qI) true true),(20,.agg [ad 1,ad 1]),(19,ap 1 g1 ax.length),(18,aJ 3 2)] ba ax qI (m9 true (List.map ba qI)) 1 g1 2 16 (fun r=>[⟨0,1,List.map aR (iE a0)⟩,⟨(g1+1),2,r⟩]) rfl lM ?_
  refine Jm [(23,aJ 3 2)] [(3,[aq true,ap 0 0 (iE a0).length,ap 1 (g1+1) (ax++qI).length,cu]),(2,pM),(1,(kS a0))] [⟨0,1,List.map aR (iE a0)⟩,⟨(g1+1),2,List.map ba (ax++qI)⟩] ?_
  refine cc.normal ?_
  exact b_.normal trivial ei
 refine bx pL 7 ?_
 refine d_ [(16,ad (A6 dh)),(24,ad (A6 dh))] ?_
 exact ed.again ((g1+1),(ax++qI),(A6 dh)) h (dw [])
theorem aiT:bn Tryz.prog 69 [.agg (kS a0)] (.agg (cq true (cA a0))):=aiW a0 (cA a0) (fun _ x v=>cr a0.a7.length (fun _=>false) v∧x=List.replicate v.toNat (bL.mk 1 1)) (fun _ _ v=>cM a0.a7.length v) (fun _ x _ bs _ _ is v ws=>x=List.replicate a0.a7.length (bL.mk 1 1)∧cr a0.O.length (fun _=>false) v∧ws=(a0.O.take v.toNat).map (fun w=>hR w.ao.length)∧is=List.range ws.length∧bs=ws.map av.ae) (fun _ _ _ _ _ _ _ v _=>cM a0.O.length v) (by
 unfold Nd Ni
 refine⟨fun h=> ?_,fun h=> ?_⟩
 ·have h:eD a0=false:=by simpa using h
  unfold cA;rw[if_neg (by rw[h];simp)];exact⟨rfl,rfl,rfl,rfl⟩
 have h:eD a0=true:=by simpa using h
 have bZ:=w3 h
 have h1:=bZ.cY
 have h2:=bZ.bh
 have aC:=bZ.O
 have e:cA a0=⟨true,List.replicate a0.ao.toNat false,List.replicate a0.a7.length ⟨1,1⟩,a0.O.map fun w=>hR w.ao.length⟩:=by unfold cA;rw[if_pos h]
 rw[e]
 refine⟨⟨by omega,by omega,by omega⟩,fun ag=>⟨⟨dA (dp _),rfl⟩,fun g x v aT=> ?_⟩⟩
 obtain⟨aT,rfl⟩:=aT
 have A0:=aT.2.1
 unfold Nh A6 Ei qI
 refine⟨fun hv hm=>⟨⟨?_,dA (dp _),rfl,rfl,rfl⟩,fun bs g2 g3 is k ws dq=> ?_⟩,fun hv=>⟨⟨?_,?_⟩,⟨(da (cO ag) aT hv rfl).1,?_⟩,(da (cO ag) aT hv rfl).2⟩⟩
 ·have: ¬v<(a0.a7.length:Int):=by simpa using hv
  rw[show v.toNat=a0.a7.length by omega]
 ·obtain⟨hx,dq,rfl,rfl,rfl⟩:=dq
  have ti:=dq.2.1
  have wm:=dq.1
  have au:((a0.O.take k.toNat).map fun w=>hR w.ao.length).length=k.toNat:=by rw[List.length_map,List.length_take];omega
  obtain⟨c5,dP,eJ⟩:=x5 ((a0.O.take k.toNat).map fun w=>hR w.ao.length)
  unfold Ng Nf Ej u2 wC iE u1
  refine⟨fun hk=>⟨rfl,⟨by rw[List.length_replicate];omega,rfl⟩,⟨by rw[List.length_replicate];omega,hx⟩,c5,by omega,fun b hb=> ?_,?_⟩,fun hk=>⟨⟨⟨bZ,wm,by simpa using hk⟩,by rw[List.length_range],by omega,by omega⟩,⟨hx,(da (cO hm) dq hk rfl).1,?_,?_,?_⟩,(da (cO hm) dq hk rfl).2⟩⟩
  ·obtain⟨y,aU,rfl⟩:=List.mem_map.1 hb
   obtain⟨w,hw,rfl⟩:=List.mem_map.1 aU
   have:=(bZ.ao w (List.mem_of_mem_take hw)).2.1
   simp[hR];omega
  ·rw[eJ]
   have: ¬k<(a0.O.length:Int):=by simpa using hk
   rw[List.take_of_length_le (by omega)]
  ·have ck:=cC dq hk
   rw[kH (cO hm) wm (by simpa using hk),show(k+1).toNat=k.toNat+1 by omega,List.take_succ_eq_append_getElem ck.2,←gX ck.2,List.map_append];rfl
  ·rw[List.length_append,List.length_singleton,List.range_succ,List.length_map]
   simp
  ·rw[List.map_append];rfl
 ·rw[List.length_replicate,List.length_singleton];omega
 ·rw[List.length_replicate,List.length_singleton];omega
 ·rw[kH (cO ag) aT.1 (by simpa using hv),show(v+1).toNat=v.toNat+1 by have:=aT.1;omega,List.replicate_succ'])
end
end Go.Proofs.YtejmihecgodhnaaGreat.Fw
set_option linter.unusedVariables false
namespace Go.Proofs.YtejmihecgodhnaaGreat.Fw
open Go
def pq (w:World) (lo hi b c:Nat):Prop:=jX w lo hi c∧c≠b
theorem pq.cT {w w':World} {lo hi b c:Nat} (h: ∀c,lo≤c→c<hi→w'.heap[c]?=w.heap[c]?) (hc:pq w lo hi b c):pq w' lo hi b c:=
 ⟨⟨hc.1.1,hc.1.2.1,hc.1.2.2.same (h c hc.1.1 hc.1.2.1)⟩,hc.2⟩
def wA (lo hi b:Nat) (an:Array Value) (ty:TypeId) (a:AV) (v:Value) (bR bO bM:Option Addr) (ct bE dG bz n2 bu:Nat) (L:dm):dE where
 lo:=lo
 hi:=hi
 P:=fun w=>lo≤b∧b<hi∧w.heap[b]?=some (.cells an ty (0,0))∧ep w (pq w lo hi b) a v∧jY .bool .e0 .held w (pq w lo hi b) bR bO bM ct bE dG bz n2 bu L
 ar:=fun w w' h ab=>⟨ab.1,ab.2.1,(h b ab.1 ab.2.1).trans ab.2.2.1,ab.2.2.2.1.cT (fun c hc=>h c hc.1.1 hc.1.2.1) (fun c hc=>pq.cT h hc),ab.2.2.2.2.cT (fun c hc=>h c hc.1.1 hc.1.2.1) (fun c hc=>pq.cT h hc)⟩
def H4 (lo hi b:Nat) (an:Array Value) (ty:TypeId) (bR bO bM:Option Addr) (ct bE dG bz n2 bu:Nat) (L:dm) (k:Int):dE where
 lo:=lo
 hi:=hi
 P:=fun w=>lo≤b∧b<hi∧w.heap[b]?=some (.cells an ty (0,0))∧jY .bool .e0 .held w (pq w lo hi b) bR bO bM ct bE dG bz n2 bu L∧e8 w L k
 ar:=fun w w' h ab=>⟨ab.1,ab.2.1,(h b ab.1 ab.2.1).trans ab.2.2.1,ab.2.2.2.1.cT (fun c hc=>h c hc.1.1 hc.1.2.1) (fun c hc=>pq.cT h hc),ab.2.2.2.2.same ab.2.2.2.1.It fun c hc=>h c hc.1.1 hc.1.2.1⟩
section
variable {W w w':World} {l:List dE} {lo hi b:Nat} {an:Array Value} {ty:TypeId} {a:AV} {v:Value} {bR bO bM:Option Addr} {ct bE dG bz n2 bu:Nat} {L:dm} {k:Int}
theorem cI.ro (h:cI W w l) (hb:RowKit.Below w.heap.size w w') (b:Nat) (h1:w.heap.size≤b) (h2:b<w'.heap.size) (hc:w'.heap[b]?=some (.cells an ty (0,0))) (aO:ep w' (pq w' w.heap.size w'.heap.size b) a v) (hf:jY .bool .e0 .held w' (pq w' w.heap.size w'.heap.size b) bR bO bM ct bE dG bz n2 bu L):cI W w' (l++[wA w.heap.size w'.heap.size b an ty a v bR bO bM ct bE dG bz n2 bu L]):=
 h.made hb (wA w.heap.size w'.heap.size b an ty a v bR bO bM ct bE dG bz n2 bu L) rfl rfl ⟨h1,h2,hc,aO,hf⟩
theorem wA.at (h:cI W w l) (j:Nat) (e:l[j]?=some (wA lo hi b an ty a v bR bO bM ct bE dG bz n2 bu L):=by rfl):V2 (Env.at w) a v:=
 (h.get j e).2.2.2.1.at fun c hc=>Nat.lt_of_lt_of_le hc.1.2.1 (h.hi j e)
theorem wA.box (h:cI W w l) (j:Nat) (e:l[j]?=some (wA lo hi b an ty a v bR bO bM ct bE dG bz n2 bu L)):w.heap[b]?=some (.cells an ty (0,0)):=(h.get j e).2.2.1
theorem wA.own (h:cI W w l) (j:Nat) (e:l[j]?=some (wA lo hi b an ty a v bR bO bM ct bE dG bz n2 bu L)):jY .bool .e0 .held w (pq w lo hi b) bR bO bM ct bE dG bz n2 bu L:=(h.get j e).2.2.2.2
theorem H4.box (h:cI W w l) (j:Nat) (e:l[j]?=some (H4 lo hi b an ty bR bO bM ct bE dG bz n2 bu L k)):w.heap[b]?=some (.cells an ty (0,0)):=(h.get j e).2.2.1
theorem H4.pR (h:cI W w l) (j:Nat) (e:l[j]?=some (H4 lo hi b an ty bR bO bM ct bE dG bz n2 bu L k)):jY .bool .e0 .held w (pq w lo hi b) bR bO bM ct bE dG bz n2 bu L∧e8 w L k:=(h.get j e).2.2.2
end
theorem jY.fo {aS w w':World} {lo b:Nat} {bR bO bM:Option Addr} {ct bE dG bz n2 bu:Nat} {L:dm} (h:jY .bool .e0 .held w (ec aS w) bR bO bM ct bE dG bz n2 bu L) (pG:lo≤aS.heap.size) (hs:w.heap.size≤w'.heap.size) (hb:aS.heap.size≤b→w.heap.size≤b) (hk: ∀c,c<w.heap.size→c≠b→w'.heap[c]?=w.heap[c]?):jY .bool .e0 .held w' (pq w' lo w'.heap.size b) bR bO bM ct bE dG bz n2 bu L:=by
 have b7: ∀c,ec aS w c→c≠b:=fun c hc e=>by
  subst e
  have h1:=hc.1
  have h2:=hc.2.1
  have:=hb h1
  omega
 refine h.cT (fun c hc=>hk c hc.2.1 (b7 c hc)) fun c hc=> ?_
 have h1:=hc.1
 have h2:=hc.2.1
 exact⟨⟨by omega,by omega,hc.2.2.same (hk c hc.2.1 (b7 c hc))⟩,b7 c hc⟩
theorem cI.sub {W w:World} {l fH:List dE} (h:cI W w l) (hs:fH.Sublist l):cI W w fH:=
 {h with ord:=h.ord.sublist hs,all:=fun i hi=>h.all i (hs.subset hi)}
theorem cI.mem {W w:World} {l:List dE} (h:cI W w l) {i:dE} (hi:i∈l):i.P w:=(h.all i hi).2
theorem cI.grown {W w w':World} {l:List dE} {row:Option Nat} (h:cI W w l) (az:w.grownBy w' row) (ak: ∀g,row=some g→W.heap.size≤g∧ ∀i∈l,¬(i.lo≤g∧g<i.hi)):cI W w' l where
 os:=az.os.trans h.os
 tape:=az.tape.trans h.tape
 output:=az.output.trans h.output
 size:=Nat.le_trans h.size az.size
 jx:=fun c hc=>(az.block c (Nat.lt_of_lt_of_le hc h.size) fun e=>by have:=(ak c e.symm).1;omega).trans (h.jx c hc)
 ord:=h.ord
 all:=fun i hi=>⟨Nat.le_trans (h.all i hi).1 az.size,i.ar w w' (fun c h1 h2=>az.block c (Nat.lt_of_lt_of_le h2 (h.all i hi).1) fun e=>(ak c e.symm).2 i hi ⟨h1,h2⟩) (h.all i hi).2⟩
theorem uK (w:World) (b o:Nat) (v:Value):w.grownBy (w.setCell ⟨b,o,none⟩ v) (some b):=
 ⟨rfl,rfl,rfl,by simp,fun k _ b7=>RowKit.Below.heap_setCell _ _ _ _ fun e=>b7 (by rw[e])⟩
theorem x9 {a b c:World} {row:Option Nat} (h:a.grownBy b row) (k:b.grownBy c row):a.grownBy c row:=
 ⟨k.os.trans h.os,k.tape.trans h.tape,k.output.trans h.output,Nat.le_trans h.size k.size,fun x hx b7=>(k.block x (Nat.lt_of_lt_of_le hx h.size) b7).trans (h.block x hx b7)⟩
theorem Ma (w:World) (b o:Nat) (v0 v1 v2 v3:Value):w.grownBy ((((w.setCell ⟨b,o,none⟩ v0).setCell ⟨b,o+1,none⟩ v1).setCell ⟨b,o+2,none⟩ v2).setCell ⟨b,o+3,none⟩ v3) (some b):=
 x9 (x9 (x9 (uK _ _ _ _) (uK _ _ _ _)) (uK _ _ _ _)) (uK _ _ _ _)
theorem agJ (w:World) (b:Nat) (v0 v1 v2 v3 v4:Value):w.grownBy (((((w.setCell ⟨b,0,none⟩ v0).setCell ⟨b,1,none⟩ v1).setCell ⟨b,2,none⟩ v2).setCell ⟨b,3,none⟩ v3).setCell ⟨b,4,none⟩ v4) (some b):=
 x9 (x9 (x9 (x9 (uK _ _ _ _) (uK _ _ _ _)) (uK _ _ _ _)) (uK _ _ _ _)) (uK _ _ _ _)
structure eL where
 lo:Nat
 hi:Nat
 d:fj
 bR:Option Addr
 bO:Option Addr
 bM:Option Addr
 bE:Nat
 bz:Nat
 bu:Nat
 L:dm
def eL.it (x:eL):dE:=Eg .bool .e0 .held x.lo x.hi (.agg (cq false x.d.frame)) (.agg #[.bool x.d.frame.ok,.slice x.bR x.d.frame.aE.length x.bE,.slice x.bO x.d.frame.ay.length x.bz,.slice x.bM x.d.frame.O.length x.bu]) x.bR x.bO x.bM x.d.frame.aE.length x.bE x.d.frame.ay.length x.bz x.d.frame.O.length x.bu x.L
def eL.an (x:eL):List Value:=[.int .i64 x.d.code,.bool x.d.frame.ok,.slice x.bR x.d.frame.aE.length x.bE,.slice x.bO x.d.frame.ay.length x.bz,.slice x.bM x.d.frame.O.length x.bu]
def eL.fit (mv:Frame→Nat) (x:eL):Prop:=kJ x.L∧x.L.length=mv x.d.frame
theorem ap4 {w:World} {B:Nat→Prop} {f:Frame} {bR bO bM:Option Addr} {bE bz bu:Nat} (h:ep w B (.agg (cq false f)) (.agg #[.bool f.ok,.slice bR f.aE.length bE,.slice bO f.ay.length bz,.slice bM f.O.length bu])):
  a1 w B (fun _=>False) (.aP (f.aE.map aR) false false) (.slice bR f.aE.length bE)∧a1 w B (fun _=>False) (.aP (f.ay.map ba) false false) (.slice bO f.ay.length bz)∧a1 w B (fun _=>False) (.aP (f.O.map (gE false)) false false) (.slice bM f.O.length bu):=by
 obtain⟨vs,e,ab⟩:=(show ∃vs:List Value,Value.agg #[.bool f.ok,.slice bR f.aE.length bE,.slice bO f.ay.length bz,.slice bM f.O.length bu]= .agg vs.toArray∧ah (b6 (Env.ro w B)) (cq false f) vs from h)
 have e2:vs=[.bool f.ok,.slice bR f.aE.length bE,.slice bO f.ay.length bz,.slice bM f.O.length bu]:=by
  have:=congrArg Array.toList (Value.agg.inj e)
  simpa using this.symm
 subst e2
 obtain⟨a,vs,e,aw,ab⟩:=ab.cons_inv
 cases e
 obtain⟨b,vs,e,hb,ab⟩:=ab.cons_inv
 cases e
 obtain⟨c,vs,e,hc,ab⟩:=ab.cons_inv
 cases e
 obtain⟨d,vs,e,aY,ab⟩:=ab.cons_inv
 cases e
 exact⟨hb,hc,aY⟩
theorem ap5 {w:World} {B:Nat→Prop} {s:fj} {bR bO bM:Option Addr} {bE bz bu:Nat} (h:ep w B (.agg (iy false s)) (.agg #[.int .i64 s.code,.bool s.frame.ok,.slice bR s.frame.aE.length bE,.slice bO s.frame.ay.length bz,.slice bM s.frame.O.length bu])):
  ep w B (.agg (cq false s.frame)) (.agg #[.bool s.frame.ok,.slice bR s.frame.aE.length bE,.slice bO s.frame.ay.length bz,.slice bM s.frame.O.length bu]):=by
 obtain⟨vs,e,ab⟩:=(show ∃vs:List Value,Value.agg #[.int .i64 s.code,.bool s.frame.ok,.slice bR s.frame.aE.length bE,.slice bO s.frame.ay.length bz,.slice bM s.frame.O.length bu]= .agg vs.toArray∧ah (b6 (Env.ro w B)) (iy false s) vs from h)
 have e2:vs=[.int .i64 s.code,.bool s.frame.ok,.slice bR s.frame.aE.length bE,.slice bO s.frame.ay.length bz,.slice bM s.frame.O.length bu]:=by
  have:=congrArg Array.toList (Value.agg.inj e)
  simpa using this.symm
 subst e2
 obtain⟨a,vs,e,aw,ab⟩:=ab.cons_inv
 cases e
 exact⟨[.bool s.frame.ok,.slice bR s.frame.aE.length bE,.slice bO s.frame.ay.length bz,.slice bM s.frame.O.length bu],rfl,ab⟩
theorem aeA {fr:List eL}: ∀{i j:Nat} {x:eL},fr[i]?=some x→j<5→(fr.flatMap eL.an)[i*5+j]?=x.an[j]?:=by
 induction fr with
 | nil=>intro i j x h;simp at h
 | cons y r bp=>
  intro i j x h ac
  rw[List.flatMap_cons]
  have au:y.an.length=5:=rfl
  cases i with
  | zero=>
   simp at h;subst h
   rw[Nat.zero_mul,Nat.zero_add,List.getElem?_append_left (by omega)]
  | succ i=>
   rw[List.getElem?_append_right (by omega),au,show(i+1)*5+j - 5=i*5+j by omega]
   exact bp (by simpa using h) ac
theorem jY.lists {w:World} {S:Nat→Prop} {bR bO bM:Option Addr} {ct bE dG bz n2 bu:Nat} {L:dm} (h:jY .bool .e0 .held w S bR bO bM ct bE dG bz n2 bu L):
  ∃q7 q8 q9,L=q7++q8++q9∧dZ w S (.l .bool) 0 0 q7 (.slice bR ct bE)∧dZ w S (.l .e0) 0 0 q8 (.slice bO dG bz)∧dZ w S (.l .held) 0 0 q9 (.slice bM n2 bu):=h
def Ak (c:Nat) (fr:List eL) (M:eL→Nat→dm) (i j:Nat):dm:=match j with
 | 0=>[(c,i*5,false)]
 | 1=>[(c,i*5+1,true)]
 | j+2=>((fr[i]?).map fun x=>M x j).getD []
theorem anA {W w:World} {l:List dE} {fr:List eL} {bf:Nat} {ty:TypeId} {v:Value} {nO:Frame→Nat} (bB:cI W w l) (hs:(fr.map eL.it).Sublist l) (hf: ∀x∈fr,x.fit nO) (pG: ∀i∈l,W.heap.size≤i.lo) (Hn:W.heap.size≤bf) (aj:w.ownsRow bf ty 5 v fr.length (fr.flatMap eL.an)) (az: ∀g,v.ownBlock=some g→ ∀i∈l,¬(i.lo≤g∧g<i.hi)) (eH:fr.length≤4611686018427387904):
  ∃A cap L,v= .slice A fr.length cap∧ep w (ec W w) (.aP ((fr.map eL.d).map (iy false)) false false) v∧dZ w (ec W w) (.l .done) 0 0 L v∧kJ L∧L.length=(fr.map fun x=>2+nO x.d.frame).sum:=by
 have dr:=bB.sub hs
 rcases aj.2 with⟨rfl,ag⟩ | ⟨g,cap,fU,rfl,aq_,AI,Vo,arb,mj,aiq⟩
 ·have e:=List.eq_nil_of_length_eq_zero ag
  subst e
  exact⟨none,0,[],rfl,a1.aP (rows:=[]) (PB:=fun _=>False) (sz:=0) (vs:=fun _ _=>undef) (fun _ h=>h.elim) ⟨Nat.zero_le _,Nat.zero_le _⟩ (fun h=>by cases h) (fun i row h=>by simp at h) (fun h=>by simp at h) (fun i j row a h=>by simp at h),
   .aP (e:= .done) (n:=0) (Ls:=fun _ _=>[]) (vs:=fun _ _=>undef) 0 0 ⟨Nat.zero_le _,Nat.zero_le _⟩ (fun h=>absurd h (by omega)) (fun i j bX hi _=>by omega),List.Pairwise.nil,rfl⟩
 ·have wj:g<w.heap.size:=rn AI
  have U8:ec W w g:=⟨by omega,wj,_,_,AI⟩
  have ym: ∀x∈fr,x.it.P w∧W.heap.size≤x.lo∧x.hi≤w.heap.size∧ ¬(x.lo≤g∧g<x.hi):=fun x hx=>by
   have hm:x.it∈l:=hs.subset (List.mem_map.2 ⟨x,hx,rfl⟩)
   exact⟨bB.mem hm,pG _ hm,(bB.all _ hm).1,az g rfl _ hm⟩
  have UJ: ∀x∈fr,∀c,jX w x.lo x.hi c→ec W w c:=fun x hx c hc=>by
   obtain⟨_,h1,h2,_⟩:=ym x hx
   exact⟨Nat.le_trans h1 hc.1,Nat.lt_of_lt_of_le hc.2.1 h2,hc.2.2⟩
  have dz: ∀i j (x:eL),fr[i]?=some x→j<5→fU[i*5+j]?=x.an[j]?:=fun i j x hx ac=>by
   have hi:=(List.getElem?_eq_some_iff.1 hx).1
   have h1:=aeA (j:=j) hx ac
   rw[←aiq,List.getElem?_take,if_pos (by omega),Array.getElem?_toList] at h1
   exact h1

  have hex: ∀x:eL,∃M:Nat→dm,x∈fr→(x.L=M 0++M 1++M 2∧dZ w (jX w x.lo x.hi) (.l .bool) 0 0 (M 0) (.slice x.bR x.d.frame.aE.length x.bE)∧dZ w (jX w x.lo x.hi) (.l .e0) 0 0 (M 1) (.slice x.bO x.d.frame.ay.length x.bz)∧dZ w (jX w x.lo x.hi) (.l .held) 0 0 (M 2) (.slice x.bM x.d.frame.O.length x.bu)):=fun x=>by
   by_cases hx:x∈fr
   ·obtain⟨q7,q8,q9,h1,h2,aC,bg⟩:=(ym x hx).1.2
    exact⟨fun j=>[q7,q8,q9].getD j [],fun _=>⟨h1,h2,aC,bg⟩⟩
   ·exact⟨fun _=>[],fun h=>absurd h hx⟩
  obtain⟨M,tb⟩:=Classical.axiomOfChoice hex
  have Hm: ∀i (x:eL),fr[i]?=some x→bY (Ak g fr M i) 5=[(g,i*5,false),(g,i*5+1,true)]++x.L:=fun i x hx=>by
   have hm:=List.mem_of_getElem? hx
   show(((((([]:dm)++[(g,i*5,false)])++[(g,i*5+1,true)])++((fr[i]?).map fun x=>M x 0).getD [])++((fr[i]?).map fun x=>M x 1).getD [])++((fr[i]?).map fun x=>M x 2).getD [])=_
   rw[hx,(tb x hm).1]
   simp only[Option.map_some,Option.getD_some,List.append_assoc,List.nil_append,List.cons_append]
  refine⟨_,cap,bY (fun i=>bY (Ak g fr M i) 5) fr.length,rfl,?_,?_,?_,?_⟩
  ·have key:a1 w (ec W w) (fun _=>False) (.aP ((fr.map eL.d).map (iy false)) false false) (.slice (some ⟨g,0,none⟩) ((fr.map eL.d).map (iy false)).length cap):=by
    refine .aP (PB:=ec W w) (sz:=5) (vs:=fun i j=>(fU[i*5+j]?).getD undef) (fun c hc=>by simpa using hc) ⟨by simpa using Vo,by simpa using eH⟩ (fun h=>by cases h) (fun i row ak=> ?_) (fun _=>⟨g,0,rfl,U8,fun i j hi ac=> ?_⟩) (fun i j row a ak aw=> ?_)
    ·rw[List.getElem?_map,List.getElem?_map] at ak
     cases hx:fr[i]? with
     | none=>rw[hx] at ak;cases ak
     | some x=>rw[hx] at ak;cases ak;rfl
    ·have eI:i<fr.length:=by simpa using hi
     have:=dz i j _ (List.getElem?_eq_getElem eI) ac
     have au:j<(fr[i]).an.length:=ac
     simp only[World.cell?,AI]
     rw[Nat.zero_add,this,List.getElem?_eq_getElem au];rfl
    ·rw[List.getElem?_map,List.getElem?_map] at ak
     cases hx:fr[i]? with
     | none=>rw[hx] at ak;cases ak
     | some x=>
      rw[hx] at ak;cases ak
      have hm:=List.mem_of_getElem? hx
      obtain⟨fA,c5,dP⟩:=ap4 (ym x hm).1.1
      have up: ∀{b:AV} {u:Value},a1 w (jX w x.lo x.hi) (fun _=>False) b u→a1 w (ec W w) (fun _=>False) b u:=fun h=>h.mono (fun _ _=>rfl) (fun _ _=>rfl) (UJ x hm) (fun _ h=>h)
      match j,aw with
      | 0,aw=>cases aw;rw[dz i 0 x hx (by omega)];exact .int _ _
      | 1,aw=>cases aw;rw[dz i 1 x hx (by omega)];exact .bool _
      | 2,aw=>cases aw;rw[dz i 2 x hx (by omega)];exact up fA
      | 3,aw=>cases aw;rw[dz i 3 x hx (by omega)];exact up c5
      | 4,aw=>cases aw;rw[dz i 4 x hx (by omega)];exact up dP
   rw[List.length_map,List.length_map] at key
   exact key
  ·refine .aP (e:= .done) (Ls:=Ak g fr M) (vs:=fun i j=>(fU[i*5+j]?).getD undef) g 0 ⟨Vo,eH⟩ (fun _=>⟨fU,ty,rfl,U8,AI,fun i j hi ac=> ?_⟩) fun i j bX hi ac=> ?_
   ·have ac:j<5:=ac
    have:=dz i j _ (List.getElem?_eq_getElem hi) ac
    have au:j<(fr[i]).an.length:=ac
    show fU[0+(i*5+j)]?=some ((fU[i*5+j]?).getD undef)
    rw[Nat.zero_add,this,List.getElem?_eq_getElem au];rfl
   ·have hx:=List.getElem?_eq_getElem hi
    have hm:=List.getElem_mem hi
    obtain⟨_,al,a_,bw⟩:=tb _ hm
    have up: ∀{e:aX} {L:dm} {u:Value},dZ w (jX w (fr[i]).lo (fr[i]).hi) (.l e) 0 0 L u→ ∀a b,dZ w (ec W w) (.l e) a b L u:=fun h a b=>(h.cT (fun _ _=>rfl) (UJ _ hm)).Px a b
    have h3: ∀j,((fr[i]?).map fun x=>M x j).getD []=M fr[i] j:=fun j=>by rw[hx];rfl
    rw[show 0+(i*(aX.bN .done).length+j)=i*5+j from by show 0+(i*5+j)=_;omega]
    match j,ac with
    | 0,ac=>cases ac;rw[dz i 0 _ hx (by omega)];exact .int _ _ _
    | 1,ac=>cases ac;rw[dz i 1 _ hx (by omega)];exact .bool _ _ _
    | 2,ac=>cases ac;rw[dz i 2 _ hx (by omega)];show dZ _ _ _ _ _ (((fr[i]?).map fun x=>M x 0).getD []) _;rw[h3];exact up al _ _
    | 3,ac=>cases ac;rw[dz i 3 _ hx (by omega)];show dZ _ _ _ _ _ (((fr[i]?).map fun x=>M x 1).getD []) _;rw[h3];exact up a_ _ _
    | 4,ac=>cases ac;rw[dz i 4 _ hx (by omega)];show dZ _ _ _ _ _ (((fr[i]?).map fun x=>M x 2).getD []) _;rw[h3];exact up bw _ _
    | j+5,ac=>exact absurd ac (by simp[aX.bN])
  ·have ck: ∀x∈fr,∀y∈x.L,x.lo≤y.1∧y.1<x.hi:=fun x hx y aU=>by
    have:=(ym x hx).1.2.It y aU
    exact⟨this.1,this.2.1⟩
   refine OV (fun i hi=> ?_) fun i e4 hi eI b7 x hx y aU e=> ?_
   ·have hx:=List.getElem?_eq_getElem hi
    have hm:=List.getElem_mem hi
    rw[Hm i _ hx]
    refine List.pairwise_append.2 ⟨List.pairwise_cons.2 ⟨fun y aU e=> ?_,List.pairwise_singleton _ _⟩,(hf _ hm).1,fun x hx y aU e=> ?_⟩
    ·rw[List.mem_singleton.1 aU] at e
     have:i*5=i*5+1:=e.2
     omega
    ·have h1:=ck _ hm y aU
     have h2:x.1=g:=by
      rcases List.mem_cons.1 hx with rfl | hx
      ·rfl
      ·rw[List.mem_singleton.1 hx]
     rw[h2] at e
     rw[←e.1] at h1
     exact(ym _ hm).2.2.2 h1
   ·rw[Hm i _ (List.getElem?_eq_getElem hi)] at hx
    rw[Hm e4 _ (List.getElem?_eq_getElem eI)] at aU
    have hm:=List.getElem_mem hi
    have mZ:=List.getElem_mem eI
    rcases List.mem_append.1 hx with hx | hx
    ·have aiw:x.1=g∧i*5≤x.2.1∧x.2.1<i*5+5:=by
      rcases List.mem_cons.1 hx with rfl | hx
      ·exact⟨rfl,by show i*5≤i*5;omega,by show i*5<_;omega⟩
      ·rw[List.mem_singleton.1 hx];exact⟨rfl,by show i*5≤i*5+1;omega,by show i*5+1<_;omega⟩
     rcases List.mem_append.1 aU with aU | aU
     ·have VG:e4*5≤y.2.1∧y.2.1<e4*5+5:=by
       rcases List.mem_cons.1 aU with rfl | aU
       ·exact⟨by show e4*5≤e4*5;omega,by show e4*5<_;omega⟩
       ·rw[List.mem_singleton.1 aU];exact⟨by show e4*5≤e4*5+1;omega,by show e4*5+1<_;omega⟩
      have:=e.2
      omega
     ·have:=ck _ mZ y aU
      rw[←e.1,aiw.1] at this
      exact(ym _ mZ).2.2.2 this
    ·have h1:=ck _ hm x hx
     rcases List.mem_append.1 aU with aU | aU
     ·have VG:y.1=g:=by
       rcases List.mem_cons.1 aU with rfl | aU
       ·rfl
       ·rw[List.mem_singleton.1 aU]
      rw[e.1,VG] at h1
      exact(ym _ hm).2.2.2 h1
     ·have h2:=ck _ mZ y aU
      rw[←e.1] at h2
      have aj:=List.pairwise_iff_getElem.1 dr.ord
      rcases Nat.lt_or_gt_of_ne b7 with aQ | pE
      ·have:=aj i e4 (by simpa using hi) (by simpa using eI) aQ
       simp only[List.getElem_map] at this
       have:(fr[i]).hi≤(fr[e4]).lo:=this
       omega
      ·have:=aj e4 i (by simpa using eI) (by simpa using hi) pE
       simp only[List.getElem_map] at this
       have:(fr[e4]).hi≤(fr[i]).lo:=this
       omega
  ·have key: ∀n,n≤fr.length→(bY (fun i=>bY (Ak g fr M i) 5) n).length=((fr.take n).map fun x=>2+nO x.d.frame).sum:=fun n=>by
    induction n with
    | zero=>intro _;rfl
    | succ n bp=>
     intro ag
     show(bY (fun i=>bY (Ak g fr M i) 5) n++bY (Ak g fr M n) 5).length=_
     have hx:fr[n]?=some fr[n]:=List.getElem?_eq_getElem (by omega)
     rw[List.length_append,bp (by omega),Hm n _ hx,List.take_add_one,hx,List.map_append,List.sum_append,List.length_append,(hf _ (List.getElem_mem (by omega))).2]
     simp
   have:=key fr.length (Nat.le_refl _)
   rw[List.take_length] at this
   exact this
set_option linter.unusedSimpArgs false
open Go Go.RowKit
theorem K9 {p:aL} {w:World} {v:Value} (h:V2 (Env.at w) (.agg (bD false p)) v):
    Calls Tryz.prog 68 #[v] w fun e w'=>e= .returned (.bool (eD p))∧Below w.heap.size w w':=
  bn.bool (vs:=[v]) (WH p) (.cons h .nil)
theorem aeD {p:aL} {w:World} {v:Value} (h:V2 (Env.at w) (.agg (bD false p)) v):
    Calls Tryz.prog 69 #[v] w fun e w'=> ∃bR bE bO bz bM bu,e= .returned (.agg #[.bool (cA p).ok,.slice bR (cA p).aE.length bE,.slice bO (cA p).ay.length bz,.slice bM (cA p).O.length bu])∧Below w.heap.size w w'∧ep w' (ec w w') (.agg (cq false (cA p))) (.agg #[.bool (cA p).ok,.slice bR (cA p).aE.length bE,.slice bO (cA p).ay.length bz,.slice bM (cA p).O.length bu]):=
  aeH (F:=cA p) (vs:=[v]) (aiT p) (.cons h .nil)
def ac8 (w:World) (f:Frame) (e:Ending) (w':World):Prop:= ∃bR bE bO bz bM bu L,e= .returned (.agg #[.bool f.ok,.slice bR f.aE.length bE,.slice bO f.ay.length bz,.slice bM f.O.length bu])∧Below w.heap.size w w'∧ep w' (ec w w') (.agg (cq false f)) (.agg #[.bool f.ok,.slice bR f.aE.length bE,.slice bO f.ay.length bz,.slice bM f.O.length bu])∧jY .bool .e0 .held w' (ec w w') bR bO bM f.aE.length bE f.ay.length bz f.O.length bu L∧kJ L∧L.length=mv f
theorem K7 {f:Frame} (hf:iu f) {w:World} {v:Value} (h:V2 (Env.at w) (.agg (cq false f)) v):
    Calls Tryz.prog 70 #[v] w (ac8 w f):=
  aeM (F:=f) (vs:=[v]) (H9 f hf) (aaG hf) (.cons h .nil)
theorem aj0:(Tryz.prog.info? 67).map (fun i=>(i.zero,i.size,i.bytes))=some (some (.agg #[.int .i64 0,.bool false,.slice none 0 0,.slice none 0 0,.slice none 0 0]),5,88):=by kernel_rfl
theorem acy:Tryz.prog.underlying 55=some (.slice 67):=by kernel_rfl
structure jZ (W wr w:World) (L:List dE) (v:Value):Prop where
  ko:cI W w L
  sz:wr.heap.size≤w.heap.size
  wX: ∀g,v.ownBlock=some g→g<wr.heap.size∧w.heap[g]?=wr.heap[g]?
theorem jZ.below {W wr w w':World} {L:List dE} {v:Value} (h:jZ W wr w L v) (hb:Below w.heap.size w w'):jZ W wr w' L v:=
  ⟨h.ko.below hb,Nat.le_trans h.sz hb.size,fun g az=>⟨(h.wX g az).1,(hb.block g (Nat.lt_of_lt_of_le (h.wX g az).1 h.sz)).trans (h.wX g az).2⟩⟩
theorem jZ.made {W wr w w':World} {L:List dE} {v:Value} (h:jZ W wr w L v) (hb:Below w.heap.size w w') (i:dE) (aA:i.lo=w.heap.size) (h1:i.hi=w'.heap.size) (h2:i.P w'):jZ W wr w' (L++[i]) v:=
  {h.below hb with ko:=h.ko.made hb i aA h1 h2}
theorem jZ.grown {W wr w w':World} {L:List dE} {v:Value} {b:Nat} (h:jZ W wr w L v) (az:w.grownBy w' (some b)) (aA:W.heap.size≤b) (h1: ∀i∈L,¬(i.lo≤b∧b<i.hi)) (h2: ∀g,v.ownBlock=some g→g≠b):jZ W wr w' L v:=
  ⟨h.ko.grown az fun g e=>by cases e;exact⟨aA,h1⟩,Nat.le_trans h.sz az.size,fun g e=>⟨(h.wX g e).1,(az.block g (Nat.lt_of_lt_of_le (h.wX g e).1 h.sz) fun bX=>h2 g e (Option.some.inj bX)).trans (h.wX g e).2⟩⟩
theorem jZ.own {W wr w:World} {L:List dE} {v:Value} {B n:Nat} {ty:TypeId} {xs:List Value} (h:jZ W wr w L v) (aj:wr.ownsRow B ty 5 v n xs):w.ownsRow B ty 5 v n xs:=by
  refine⟨aj.1,?_⟩
  rcases aj.2 with ag | ⟨g,cap,fU,rfl,hb,AI,rest⟩
  · exact .inl ag
  · exact .inr ⟨g,cap,fU,rfl,hb,(h.wX g rfl).2.trans AI,rest⟩
def q_ (W:World) (base:List dE) (bf:Nat) (p:aL) (es:List Event) (k:Nat) (v:Value) (wr:World):Prop:=
  ∃(f:Frame) (bR bO bM:Option Addr) (bE bz bu:Nat) (l:List dE) (xs:List eL) (lo hi:Nat),
   cI W wr (base++l)∧wr.heap[bf]?=some (.cells #[.bool f.ok,.slice bR f.aE.length bE,.slice bO f.ay.length bz,.slice bM f.O.length bu] 44 (0,0))∧
   gl lo hi (.agg (cq false f)) (.agg #[.bool f.ok,.slice bR f.aE.length bE,.slice bO f.ay.length bz,.slice bM f.O.length bu])∈base++l∧(∀i∈l,bf<i.lo)∧
   (xs.map eL.it).Sublist l∧(∀x∈xs,x.fit mv)∧xs.map eL.d=lN p (cA p) (es.take k)∧f=kW p (cA p) (es.take k)∧
   wr.ownsRow (bf+1) 67 5 v xs.length (xs.flatMap eL.an)∧ ∀g,v.ownBlock=some g→ ∀i∈l,¬(i.lo≤g∧g<i.hi)
def zY (w:World) (de:List fj) (e:Ending) (w':World):Prop:=
  ∃A cap L,e= .returned (.slice A de.length cap)∧Below w.heap.size w w'∧ep w' (ec w w') (.aP (de.map (iy false)) false false) (.slice A de.length cap)∧dZ w' (ec w w') (.l .done) 0 0 L (.slice A de.length cap)∧kJ L∧L.length=(de.map fun d=>2+mv d.frame).sum
theorem q_.step {W wr fi nP:World} {base l kV:List dE} {bf:Nat} {p:aL} {es:List Event} {k:Nat} {v ea:Value} {xs:List eL} {x:eL} {f:Frame} {bR bO bM:Option Addr} {bE bz bu lo hi:Nat} (hk:k<es.length) (cd:jZ W wr fi (base++l++kV++[x.it]) v) (wb:fi.heap[bf]?=some (.cells #[.bool f.ok,.slice bR f.aE.length bE,.slice bO f.ay.length bz,.slice bM f.O.length bu] 44 (0,0)))
    (hm:gl lo hi (.agg (cq false f)) (.agg #[.bool f.ok,.slice bR f.aE.length bE,.slice bO f.ay.length bz,.slice bM f.O.length bu])∈base++l++kV) (pG: ∀i∈l,bf<i.lo) (HE: ∀i∈kV,wr.heap.size≤i.lo) (arj:wr.heap.size≤x.lo) (ara:bf<wr.heap.size) (aq6:W.heap.size≤bf)
    (uO: ∀i∈base,i.hi≤bf) (hs:(xs.map eL.it).Sublist l) (hf: ∀x∈xs,x.fit mv) (My:x.fit mv) (aY:xs.map eL.d=lN p (cA p) (es.take k)) (az: ∀g,v.ownBlock=some g→ ∀i∈l,¬(i.lo≤g∧g<i.hi))
    (ahC:x.d=if fD p es[k]=true then ih p (kW p (cA p) (es.take k)) es[k] else⟨1,kW p (cA p) (es.take k)⟩) (qA:f=if fD p es[k]=true then(ih p (kW p (cA p) (es.take k)) es[k]).frame else kW p (cA p) (es.take k))
    (ML:wr.ownsRow (bf+1) 67 5 v xs.length (xs.flatMap eL.an)) (aj:nP.ownsRow (bf+1) 67 5 ea (xs.length+1) (xs.flatMap eL.an++x.an)) (Va:fi.grownBy nP v.ownBlock) (mh:ea.ownBlock=v.ownBlock∨ea.ownBlock=some fi.heap.size):q_ W base bf p es (k+1) ea nP:=by
  have yw:es.take (k+1)=es.take k++[es[k]]:=List.take_succ_eq_append_getElem hk
  have tm:=aaa p es[k] (es.take k) (cA p)
  have wj: ∀g,v.ownBlock=some g→bf+1≤g∧g<wr.heap.size:=fun g e=>ML.lt g e
  have Vq: ∀g,v.ownBlock=some g→ ∀i∈base++l++kV++[x.it],¬(i.lo≤g∧g<i.hi):=fun g e i hi h=>by
    have h1:=wj g e
    rcases List.mem_append.1 hi with hi | hi
    · rcases List.mem_append.1 hi with hi | hi
      · rcases List.mem_append.1 hi with hi | hi
        · have:=uO i hi;omega
        · exact az g e i hi h
      · have:=HE i hi;omega
    · rw[List.mem_singleton.1 hi] at h
      have:x.lo≤g:=h.1
      omega
  have bB:=cd.ko.grown Va fun g e=>⟨by have:=wj g e;omega,Vq g e⟩
  refine⟨f,bR,bO,bM,bE,bz,bu,l++kV++[x.it],xs++[x],lo,hi,?_,?_,?_,?_,?_,?_,?_,?_,?_,?_⟩
  · simpa only[List.append_assoc] using bB
  · exact(Va.block bf (rn wb) fun e=>by have:=wj bf e.symm;omega).trans wb
  · rw[←List.append_assoc,←List.append_assoc];exact List.mem_append.2 (.inl hm)
  · intro i hi
    rcases List.mem_append.1 hi with hi | hi
    · rcases List.mem_append.1 hi with hi | hi
      · exact pG i hi
      · have:=HE i hi;omega
    · rw[List.mem_singleton.1 hi];show bf<x.lo;omega
  · rw[List.map_append]
    exact(hs.trans (List.sublist_append_left _ _)).append (.refl _)
  · intro y aU
    rcases List.mem_append.1 aU with aU | aU
    · exact hf y aU
    · rw[List.mem_singleton.1 aU];exact My
  · rw[List.map_append,aY,yw,tm.1,←ahC];rfl
  · rw[yw,tm.2];exact qA
  · rw[List.length_append,List.flatMap_append];simpa using aj
  · intro g e i hi h
    have eI:i∈base++l++kV++[x.it]:=by
      simp only[List.mem_append] at hi ⊢
      rcases hi with(hi | hi) | hi
      · exact .inl (.inl (.inr hi))
      · exact .inl (.inr hi)
      · exact .inr hi
    rcases mh with q | q
    · exact Vq g (q▸e) i eI h
    · rw[q] at e
      cases e
      have:=(cd.ko.all i eI).1
      omega
abbrev nU (p:aL) (w bq bo:World) (fu fv fw hY jW gM:Option Addr) (aI ax bC g0 g1 g2:Nat):List dE:=[qG w.heap.size (.agg (bD false p)) (.agg #[.int .i64 p.ao,.slice fu p.a7.length aI,.slice fv p.O.length ax,.slice fw p.bG.length bC,.int .i64 p.cB]),pJ w.heap.size #[.int .i64 p.ao,.slice fu p.a7.length aI,.slice fv p.O.length ax,.slice fw p.bG.length bC,.int .i64 p.cB] 39,gl bq.heap.size bo.heap.size (.agg (cq false (cA p))) (.agg #[.bool (cA p).ok,.slice hY (cA p).aE.length g0,.slice jW (cA p).ay.length g1,.slice gM (cA p).O.length g2])]
theorem q_.start {W bo:World} {base:List dE} {p:aL} {es:List Event} {bR bO bM:Option Addr} {bE bz bu lo hi:Nat} (bB:cI W (bo.alloc (.cells #[.bool (cA p).ok,.slice bR (cA p).aE.length bE,.slice bO (cA p).ay.length bz,.slice bM (cA p).O.length bu] 44)) base) (hm:gl lo hi (.agg (cq false (cA p))) (.agg #[.bool (cA p).ok,.slice bR (cA p).aE.length bE,.slice bO (cA p).ay.length bz,.slice bM (cA p).O.length bu])∈base):
    q_ W base bo.heap.size p es 0 (.slice none 0 0) (bo.alloc (.cells #[.bool (cA p).ok,.slice bR (cA p).aE.length bE,.slice bO (cA p).ay.length bz,.slice bM (cA p).O.length bu] 44)):=
  ⟨cA p,bR,bO,bM,bE,bz,bu,[],[],lo,hi,by rw[List.append_nil];exact bB,vO _ _,by rw[List.append_nil];exact hm,fun i h=>(List.not_mem_nil h).elim,.refl _,fun x h=>(List.not_mem_nil h).elim,rfl,rfl,World.ownsRow_nil _ _ _ _,fun g h=>by cases h⟩
theorem q_.fin {W wr:World} {base:List dE} {bf:Nat} {p:aL} {es:List Event} {v:Value} (h:q_ W base bf p es es.length v wr) (Hn:W.heap.size≤bf) (ag:es.length≤1000):zY W (lN p (cA p) es) (.returned v) wr:=by
  obtain⟨f,bR,bO,bM,bE,bz,bu,l,xs,lo,hi,bB,wb,hm,pG,hs,hf,aY,HF,aj,az⟩:=h
  rw[List.take_length] at aY
  have au:xs.length=es.length:=by
    have:=congrArg List.length aY
    rw[List.length_map,xe] at this;exact this
  obtain⟨A,cap,L,rfl,q1,q2,q3,q4⟩:=anA (bf:=bf+1) (nO:=mv) (bB.sub (List.sublist_append_right base l)) hs hf (fun i hi=>by have:=pG i hi;omega) (by omega) aj az (by omega)
  rw[aY] at q1
  refine⟨A,cap,L,by rw[xe,au],bB.end,by rw[xe,←au];exact q1,by rw[xe,←au];exact q2,q3,?_⟩
  rw[q4,←aY,List.map_map];rfl
theorem jZ.val {W wr w:World} {L:List dE} {v:Value} (h:jZ W wr w L v) {lo hi:Nat} {a:AV} {u:Value} (hm:gl lo hi a u∈L):V2 (Env.at w) a u:=
  (show ep w (jX w lo hi) a u from h.ko.mem hm).at fun c hc=>Nat.lt_of_lt_of_le hc.2.1 (h.ko.all _ hm).1
theorem aeJ {p:aL} {f:Frame} {gF:Event} {s:fj} (hs:ih p f gF=s) (ab:GN p f gF) {w:World} {v u x:Value} (h:V2 (Env.at w) (.agg (bD false p)) v) (h':V2 (Env.at w) (.agg (cq false f)) u) (h2:V2 (Env.at w) (.agg (dL gF)) x):
    Calls Tryz.prog 72 #[v,u,x] w (Sj w s):=by subst hs;exact aeI ab h h' h2
theorem adZ {w:World} {b:Nat} {bE bz bu ke:Value} {ty:TypeId} (h:w.heap[b]?=some (.cells #[bE,bz,bu,ke] ty (0,0))):w.frozen? ⟨b,0,none⟩=false∧w.frozen? ⟨b,1,none⟩=false∧w.frozen? ⟨b,2,none⟩=false∧w.frozen? ⟨b,3,none⟩=false:=by
  refine⟨?_,?_,?_,?_⟩<;>simp[World.frozen?,h]
theorem pC {w w':World} {b:Nat} {x:Obj} (h:w.heap[b]?=some x) (hb:Below w.heap.size w w'):w'.heap[b]?=some x:=(hb.block _ (rn h)).trans h
theorem anP {w:World} {b:Nat} {a0 J a2 a3 v0 v1 v2 v3:Value} {ty:TypeId} (h:w.heap[b]?=some (.cells #[a0,J,a2,a3] ty (0,0))):((((w.setCell ⟨b,0,none⟩ v0).setCell ⟨b,1,none⟩ v1).setCell ⟨b,2,none⟩ v2).setCell ⟨b,3,none⟩ v3).heap[b]?=some (.cells #[v0,v1,v2,v3] ty (0,0)):=
  vq (vq (vq (vq h)))
theorem T1 (gF:Event) (w:World):V2 (Env.at w) (.agg (dL gF)) (.agg #[.int .i64 gF.op,.int .i64 gF.aG,.int .i64 gF.bi]):=⟨[.int .i64 gF.op,.int .i64 gF.aG,.int .i64 gF.bi],rfl,.cons (a1.int _ _) (.cons (a1.int _ _) (.cons (a1.int _ _) .nil))⟩
theorem afA {W:World} {es:List Event} {B:Nat→Prop} {v:Value} (h:ep W B (.aP (es.map dL) false false) v): ∃A cap c o,v= .slice A es.length cap∧(0<es.length→A=some ⟨c,o,none⟩∧B c∧ ∀k (hk:k<es.length),W.cell? ⟨c,o+k*3,none⟩=some (.int .i64 es[k].op)∧W.cell? ⟨c,o+k*3+1,none⟩=some (.int .i64 es[k].aG)∧W.cell? ⟨c,o+k*3+2,none⟩=some (.int .i64 es[k].bi)):=by
  have h:a1 W B (fun _=>False) (.aP (es.map dL) false false) v:=h
  cases h with
  | @aP _ _ PB _ _ _ A cap sz vs fx fl gw cn dz hrel=>
    rw[List.length_map] at dz ⊢
    by_cases ag:0<es.length
    · obtain⟨c,o,rfl,hc,eR⟩:=dz ag
      have dc:sz=3:=(cn 0 (dL es[0]) (by rw[List.getElem?_map,List.getElem?_eq_getElem ag];rfl)).symm
      subst dc
      refine⟨_,cap,c,o,rfl,fun _=>⟨rfl,by simpa using fx c hc,fun k hk=> ?_⟩⟩
      have ak:(es.map dL)[k]?=some (dL es[k]):=by rw[List.getElem?_map,List.getElem?_eq_getElem hk];rfl
      have g: ∀j (n:Int),j<3→(dL es[k])[j]?=some (.int .i64 n)→W.cell? ⟨c,o+(k*3+j),none⟩=some (.int .i64 n):=fun j n ac aw=>by
        have h1:=eR k j hk ac
        have h2:=hrel k j _ _ ak aw
        rw[h1]
        generalize vs k j=u at h2
        cases h2;rfl
      exact⟨g 0 _ (by omega) rfl,g 1 _ (by omega) rfl,g 2 _ (by omega) rfl⟩
    · exact⟨A,cap,0,0,rfl,fun h=>absurd h ag⟩
theorem Tw (x:eL): ∀u∈x.an,u.oneCell'=true:=fun u hu=>by
  simp only[eL.an,List.mem_cons,List.not_mem_nil,or_false] at hu
  rcases hu with rfl | rfl | rfl | rfl | rfl<;>rfl
theorem YQ {w:World} {ty:TypeId} {b:Nat} (hb:w.heap.size=b) (x:eL): ∀j u,x.an[j]?=some u→(w.alloc (.cells #[.int .i64 x.d.code,.bool x.d.frame.ok,.slice x.bR x.d.frame.aE.length x.bE,.slice x.bO x.d.frame.ay.length x.bz,.slice x.bM x.d.frame.O.length x.bu] ty)).cell? ((⟨b,0,none⟩:Addr).add j)=some u:=fun j u ac=>by
  subst hb
  have e:(⟨w.heap.size,0,none⟩:Addr).add j=⟨w.heap.size,j,none⟩:=by unfold Addr.add;split<;>simp_all
  rw[e]
  simp only[World.cell?,vO]
  match j,ac with
  | 0,ac=>exact ac
  | 1,ac=>exact ac
  | 2,ac=>exact ac
  | 3,ac=>exact ac
  | 4,ac=>exact ac
  | j+5,ac=>simp[eL.an] at ac
set_option maxHeartbeats 4000000
set_option maxRecDepth 100000
theorem aqo (p:aL) (es:List Event) (w:World) (fu fv fw lk:Option Addr) (aI ax bC kf ce lI:Nat) (bZ:eD p=true) (ag:es.length≤1000)
    (h1:ep w (fun c=>c<w.heap.size) (.agg (bD false p)) (.agg #[.int .i64 p.ao,.slice fu p.a7.length aI,.slice fv p.O.length ax,.slice fw p.bG.length bC,.int .i64 p.cB]))
    (hP:0<es.length→lk=some ⟨ce,lI,none⟩∧ce<w.heap.size∧ ∀k (hk:k<es.length),w.cell? ⟨ce,lI+k*3,none⟩=some (.int .i64 es[k].op)∧w.cell? ⟨ce,lI+k*3+1,none⟩=some (.int .i64 es[k].aG)∧w.cell? ⟨ce,lI+k*3+2,none⟩=some (.int .i64 es[k].bi)):
    Calls Tryz.prog 22 #[.agg #[.int .i64 p.ao,.slice fu p.a7.length aI,.slice fv p.O.length ax,.slice fw p.bG.length bC,.int .i64 p.cB],.slice lk es.length kf] w (zY w (lN p (cA p) es)):=by
  have C7:=Lib.hid bZ;clear bZ
  have qf:=Lib.hid ag
  have ade:=Lib.hid hP;clear hP
  have r0:Hid (cI w w [qG w.heap.size (.agg (bD false p)) (.agg #[.int .i64 p.ao,.slice fu p.a7.length aI,.slice fv p.O.length ax,.slice fw p.bG.length bC,.int .i64 p.cB])]):=(cI.start w).add (qG w.heap.size _ _) (Nat.le_refl _) h1 (fun j h=>by cases h)
  have mQ:=Lib.hid (r0.out.box #[.int .i64 p.ao,.slice fu p.a7.length aI,.slice fv p.O.length ax,.slice fw p.bG.length bC,.int .i64 p.cB] 39)
  clear r0 h1
  obtain⟨i0,MB,H3,qD,qE⟩:=info_parts aj0
  have agE:(es.length:Int)≤1000:=by omega
  go_enter Tryz.func22,Tryz.ntmps22
  go_wp2_with (go_at_call 68;refine(K9 (qG.at mQ.out 0)).mono ?_)
  rw[C7.out]
  first
  | (rintro e bq rfl hb)
  | (rintro e bq ⟨rfl,hb⟩)
  have oz:=Lib.hid (mQ.out.below hb);clear hb mQ
  obtain⟨cG,q1,q2,q3,q4⟩:=pu (oz.out.get 1)
  go_wp2_with (go_at_call 69;refine(aeD (qG.at oz.out 0)).mono ?_)
  first
  | (rintro e bo hY g0 jW g1 gM g2 rfl hb aO)
  | (rintro e bo ⟨hY,g0,jW,g1,gM,g2,rfl,hb,aO⟩)
  have q5:=Lib.hid (oz.out.EM hb aO);clear hb aO cG q1 q2 q3 q4
  have zQ:=Lib.hid (q5.out.below ((Below.refl _ _).alloc (Nat.le_refl _) (.cells #[.bool (cA p).ok,.slice hY (cA p).aE.length g0,.slice jW (cA p).ay.length g1,.slice gM (cA p).O.length g2] 44)))
  have Kc:Hid (∀i∈(nU p w bq bo fu fv fw hY jW gM aI ax bC g0 g1 g2),i.hi≤bo.heap.size):=by
    have aA:=q5.out.size
    have h1:=q5.out.hi 1
    intro i hi
    exact(q5.out.all i hi).1
  have F5:Hid (w.heap.size≤bo.heap.size):=q5.out.size
  have C8:=Lib.hid (q_.start (es:=es) zQ.out (List.mem_cons_of_mem _ (List.mem_cons_of_mem _ (List.mem_cons_self ..))))
  clear zQ
  go_wp2
  go_loopw [6,22] (fun q i wr=> ∃(k:Nat) (v:Value),k≤es.length∧i= .int .i64 k∧q=v∧q_ w (nU p w bq bo fu fv fw hY jW gM aI ax bC g0 g1 g2) bo.heap.size p es k v wr) (fun _ i _=>es.length - (intOf i).toNat)
  case atStart=>exact⟨0,_,Nat.zero_le _,rfl,rfl,C8.out⟩
  case round=>
    obtain⟨k,v,hk,rfl,U,Mf⟩:=hrel
    obtain rfl:=U.symm
    by_cases aQ:k<es.length
    · obtain⟨f,bR,bO,bM,bE,bz,bu,l,xs,lo,hi,bB,wb,hm,pG,hs,hf,aY,HF,aj,az⟩:=Mf
      obtain⟨rfl,iZ,UU⟩:=ade.out (by omega)
      obtain⟨gF,rp⟩: ∃x,es[k]=x:=⟨_,rfl⟩
      have hc:=UU k aQ
      rw[rp] at hc
      obtain⟨eg,aN,e2⟩:=hc
      have hJ:wr.cell? ⟨ce,lI+k*3,none⟩=some (.int .i64 gF.op):=by simp only[World.cell?,bB.jx ce iZ];exact eg
      have hL:wr.cell? ⟨ce,lI+k*3+1,none⟩=some (.int .i64 gF.aG):=by simp only[World.cell?,bB.jx ce iZ];exact aN
      have iQ:wr.cell? ⟨ce,lI+k*3+2,none⟩=some (.int .i64 gF.bi):=by simp only[World.cell?,bB.jx ce iZ];exact e2
      have FR:=Lib.hid rp
      have sj:Fit p f:=by rw[HF];exact OA _ (Gs C7.out)
      have Kg:=Lib.hid sj;clear sj
      have Sv:Hid (iu f):=Av Kg.out
      have qC:xs.length=k:=by
        have:=congrArg List.length aY
        rw[List.length_map,xe,List.length_take] at this;omega
      have qf:Hid (xs.length+1≤1000):=by unfold Hid;omega
      clear qC
      have SC:jZ w wr wr ((nU p w bq bo fu fv fw hY jW gM aI ax bC g0 g1 g2)++l) v:=⟨bB,Nat.le_refl _,fun g az=>⟨(aj.lt g az).2,rfl⟩⟩
      have lT:=Lib.hid (SC.below ((Below.refl _ _).alloc (Nat.le_refl _) (.cells #[.int .i64 gF.op,.int .i64 gF.aG,.int .i64 gF.bi] 69)));clear SC
      have zS:=Lib.hid wb;clear wb
      have xI:Hid (bo.heap.size<wr.heap.size):=rn zS.out
      have ej:=Lib.hid hm;clear hm
      have Kl:=Lib.hid pG;clear pG
      have vL:=Lib.hid hs;clear hs
      have Sn:=Lib.hid hf;clear hf
      have Sm:=Lib.hid aY;clear aY
      have F3:=Lib.hid HF;clear HF
      have C6:=Lib.hid aj;clear aj
      have So:=Lib.hid az;clear az
      have aqU:=Lib.hid bB.size
      clear bB UU eg aN e2 iZ
      obtain⟨fq,gf,hN,FL⟩:=KY zS.out
      have arl:bo.heap.size<wr.heap.size:=xI.out
      go_wp2_with (go_at_call 70;refine(K7 Sv.out (lT.out.val ej.out)).mono ?_)
      rintro e bK ⟨ui,z0,CY,kI,CZ,z2,aqV,rfl,yf,Ea,U5,ahx,DX⟩
      have z1:=Lib.hid (lT.out.below yf)
      have SH:=Lib.hid (pC (pC zS.out ((Below.refl _ _).alloc (Nat.le_refl _) (.cells #[.int .i64 gF.op,.int .i64 gF.aG,.int .i64 gF.bi] 69))) yf)
      have Gf:=Lib.hid (YP yf)
      have Sx:Hid (V2 (Env.at bK) (.agg (cq false f)) (.agg #[.bool f.ok,.slice ui f.aE.length z0,.slice CY f.ay.length kI,.slice CZ f.O.length z2])):=y6 Ea
      have Ke:Hid (wr.heap.size<bK.heap.size):=rn Gf.out
      have zP:Hid (w.heap.size≤bK.heap.size∧ ∀g,v.ownBlock=some g→g≠bK.heap.size):=⟨z1.out.ko.size,fun g e=>by have:=(z1.out.wX g e).1;have:=Ke.out;omega⟩
      have Ss:Hid (∀i∈(nU p w bq bo fu fv fw hY jW gM aI ax bC g0 g1 g2)++l,¬(i.lo≤bK.heap.size∧bK.heap.size<i.hi)):=fun i hi h=>by have:=(z1.out.ko.all i hi).1;omega
      have mc:Hid (bo.heap.size≠bK.heap.size):=by have:=xI.out;have:=Ke.out;unfold Hid;omega
      clear hJ hL iQ fq gf hN FL yf Ea U5 ahx DX lT
      have KI:=Lib.hid (z1.out.ko.get 1)
      obtain⟨cG,q1,q2,q3,q4⟩:=pu KI.out
      obtain⟨fA,c5,dP⟩:=Tc Gf.out
      have aiE:w.heap.size<bK.heap.size:=rn KI.out
      have aiD:wr.heap.size<bK.heap.size:=Ke.out
      have KB:=Lib.hid (z1.out.below ((Below.refl _ _).alloc (Nat.le_refl _) (.cells #[.int .i64 1,.bool f.ok,.slice ui f.aE.length z0,.slice CY f.ay.length kI,.slice CZ f.O.length z2] 67)))
      go_wp2_with (go_at_call 71;refine(aeG (qG.at KB.out.ko 0) (T1 gF _)).mono ?_)
      first
      | (rintro e fF rfl tc)
      | (rintro e fF ⟨rfl,tc⟩)
      have uv:=Lib.hid (KB.out.below tc)
      have Ge:=Lib.hid (YP tc)
      have KG:=Lib.hid (pC (pC SH.out ((Below.refl _ _).alloc (Nat.le_refl _) (.cells #[.int .i64 1,.bool f.ok,.slice ui f.aE.length z0,.slice CY f.ay.length kI,.slice CZ f.O.length z2] 67))) tc)
      have adF:=Lib.hid (pC (pC Gf.out ((Below.refl _ _).alloc (Nat.le_refl _) (.cells #[.int .i64 1,.bool f.ok,.slice ui f.aE.length z0,.slice CY f.ay.length kI,.slice CZ f.O.length z2] 67))) tc)
      have adr:Hid (V2 (Env.at fF) (.agg (cq false f)) (.agg #[.bool f.ok,.slice ui f.aE.length z0,.slice CY f.ay.length kI,.slice CZ f.O.length z2])):=V2.below (V2.below Sx.out ((Below.refl _ _).alloc (Nat.le_refl _) _)) tc
      have Kd:Hid (bK.heap.size<fF.heap.size):=rn Ge.out
      clear cG q1 q2 q3 q4 fA c5 dP aiE aiD tc z1 KB SH Gf KI Sx
      cases Hv:fD p gF with
      | false=>
        have xJ:=Lib.hid Hv;clear Hv
        obtain⟨cG,q1,q2,q3,q4⟩:=pu Ge.out
        go_wp2_with (go_at_call 70;refine(K7 Sv.out adr.out).mono ?_)
        rintro e fi ⟨jl,hJ,jm,hL,jn,iQ,uo,rfl,td,Eb,Hs,Mu,AL⟩
        have xS:=Lib.hid (pC Ge.out td)
        have Dd:=Lib.hid (pC KG.out td)
        have KC:Hid (jZ w wr fi ((nU p w bq bo fu fv fw hY jW gM aI ax bC g0 g1 g2)++l++[]++[eL.it (⟨fF.heap.size,fi.heap.size,⟨1,f⟩,jl,jm,jn,hJ,hL,iQ,uo⟩:eL)]) v):=by
          rw[List.append_nil]
          exact uv.out.made td (eL.it (⟨fF.heap.size,fi.heap.size,⟨1,f⟩,jl,jm,jn,hJ,hL,iQ,uo⟩:eL)) rfl rfl ⟨Eb,Hs⟩
        have adj:Hid (∀i∈(nU p w bq bo fu fv fw hY jW gM aI ax bC g0 g1 g2)++l++[],¬(i.lo≤bK.heap.size∧bK.heap.size<i.hi)):=by rw[List.append_nil];exact Ss.out
        have adi:Hid (gl lo hi (.agg (cq false f)) (.agg #[.bool f.ok,.slice bR f.aE.length bE,.slice bO f.ay.length bz,.slice bM f.O.length bu])∈(nU p w bq bo fu fv fw hY jW gM aI ax bC g0 g1 g2)++l++[]):=by rw[List.append_nil];exact ej.out
        clear cG q1 q2 q3 q4 td Eb Hs
        obtain⟨fA,c5,dP,eJ,m8⟩:=pu xS.out
        obtain⟨a8,c_,hj,n9,Ov⟩:=KQ xS.out
        have xR:Hid (jZ w wr (((((fi.setCell ⟨bK.heap.size,1,none⟩ (.bool f.ok)).setCell ⟨bK.heap.size,2,none⟩ (.slice jl f.aE.length hJ)).setCell ⟨bK.heap.size,3,none⟩ (.slice jm f.ay.length hL)).setCell ⟨bK.heap.size,4,none⟩ (.slice jn f.O.length iQ)).alloc (.cells #[.int .i64 1,.bool f.ok,.slice jl f.aE.length hJ,.slice jm f.ay.length hL,.slice jn f.O.length iQ] 67)) ((nU p w bq bo fu fv fw hY jW gM aI ax bC g0 g1 g2)++l++[]++[eL.it (⟨fF.heap.size,fi.heap.size,⟨1,f⟩,jl,jm,jn,hJ,hL,iQ,uo⟩:eL)]) v):=jZ.below (jZ.grown KC.out (Ma _ _ 1 _ _ _ _) zP.out.1 (fun i hi h=>by
          rcases List.mem_append.1 hi with hi | hi
          · exact adj.out i hi h
          · rw[List.mem_singleton.1 hi] at h
            have h2:fF.heap.size≤bK.heap.size:=h.1
            have:=Kd.out
            omega) zP.out.2) ((Below.refl _ _).alloc (Nat.le_refl _) _)
        have KH:Hid (((((((fi.setCell ⟨bK.heap.size,1,none⟩ (.bool f.ok)).setCell ⟨bK.heap.size,2,none⟩ (.slice jl f.aE.length hJ)).setCell ⟨bK.heap.size,3,none⟩ (.slice jm f.ay.length hL)).setCell ⟨bK.heap.size,4,none⟩ (.slice jn f.O.length iQ)).alloc (.cells #[.int .i64 1,.bool f.ok,.slice jl f.aE.length hJ,.slice jm f.ay.length hL,.slice jn f.O.length iQ] 67))).heap[bo.heap.size]?=some (.cells #[.bool f.ok,.slice bR f.aE.length bE,.slice bO f.ay.length bz,.slice bM f.O.length bu] 44 (0,0))):=pC ((by rw[Below.heap_setCell _ _ _ _ mc.out,Below.heap_setCell _ _ _ _ mc.out,Below.heap_setCell _ _ _ _ mc.out,Below.heap_setCell _ _ _ _ mc.out]:(((((fi.setCell ⟨bK.heap.size,1,none⟩ (.bool f.ok)).setCell ⟨bK.heap.size,2,none⟩ (.slice jl f.aE.length hJ)).setCell ⟨bK.heap.size,3,none⟩ (.slice jm f.ay.length hL)).setCell ⟨bK.heap.size,4,none⟩ (.slice jn f.O.length iQ))).heap[bo.heap.size]?=fi.heap[bo.heap.size]?).trans Dd.out) ((Below.refl _ _).alloc (Nat.le_refl _) _)
        go_wp2_with (at_builtin;go_loud (refine wpList_append_own_at _ rfl _ _ 55 rfl (bo.heap.size+1) 67 i0 (.agg #[.int .i64 0,.bool false,.slice none 0 0,.slice none 0 0,.slice none 0 0]) 5 88 acy MB H3 qD qE rfl (by decide) _ _ _ rfl (xR.out.own C6.out) ⟨fi.heap.size,0,none⟩ 1 1 (eL.an (⟨fF.heap.size,fi.heap.size,⟨1,f⟩,jl,jm,jn,hJ,hL,iQ,uo⟩:eL)) rfl rfl (YQ (by simp only[World.size_setCell]) (⟨fF.heap.size,fi.heap.size,⟨1,f⟩,jl,jm,jn,hJ,hL,iQ,uo⟩:eL)) (Tw (⟨fF.heap.size,fi.heap.size,⟨1,f⟩,jl,jm,jn,hJ,hL,iQ,uo⟩:eL)) (by have:=qf.out;unfold maxLen;omega) (by have:=qf.out;omega) (Nat.le_trans (Nat.succ_le_of_lt xI.out) xR.out.sz) ?_))
        intro ea nP D5 DU _ mh
        have Ko:Hid (q_ w (nU p w bq bo fu fv fw hY jW gM aI ax bC g0 g1 g2) bo.heap.size p es (k+1) ea nP):=q_.step (x:=(⟨fF.heap.size,fi.heap.size,⟨1,f⟩,jl,jm,jn,hJ,hL,iQ,uo⟩:eL)) aQ xR.out KH.out adi.out Kl.out (fun i h=>(List.not_mem_nil h).elim) (by have:=uv.out.sz;exact this) xI.out F5.out Kc.out vL.out Sn.out ⟨Mu,AL⟩ Sm.out So.out (by rw[FR.out,xJ.out,←F3.out];rfl) (by rw[FR.out,xJ.out,←F3.out];rfl) C6.out D5 DU (by simp only[World.size_alloc,World.size_setCell];exact mh)
        clear D5 DU mh
        go_wp2
        go_roundw
        case rel=>exact⟨k+1,_,by omega,by go_num,rfl,Ko.out⟩
        case measure=>simp[intOf];omega
      | true=>
        have xJ:=Lib.hid Hv;clear Hv
        obtain⟨s,HQ⟩: ∃s,ih p f gF=s:=⟨_,rfl⟩
        have F4:=Lib.hid HQ;clear HQ
        have adq:Hid (iu s.frame):=by rw[←F4.out];exact Av (GO Kg.out xJ.out)
        have SJ:=Lib.hid (uv.out.ko.get 1)
        obtain⟨cG,q1,q2,q3,q4⟩:=pu SJ.out
        obtain⟨fA,c5,dP⟩:=Tc adF.out
        obtain⟨Sa,Sb,Sc,Sd⟩:=KY KG.out
        go_wp2_with (go_at_call 72;refine(aeJ F4.out ⟨Kg.out,xJ.out⟩ (qG.at uv.out.ko 0) (uv.out.val ej.out) (T1 gF _)).mono ?_)
        rintro e fi ⟨jo,fq,jV,gf,iw,hN,uo,rfl,td,Eb,Hs,Mu,AL⟩
        have xS:=Lib.hid (pC Ge.out td)
        have Dd:=Lib.hid (pC KG.out td)
        have KC:Hid (jZ w wr fi ((nU p w bq bo fu fv fw hY jW gM aI ax bC g0 g1 g2)++l++[gl fF.heap.size fi.heap.size (.agg (cq false s.frame)) (.agg #[.bool s.frame.ok,.slice jo s.frame.aE.length fq,.slice jV s.frame.ay.length gf,.slice iw s.frame.O.length hN])]) v):=uv.out.made td (gl fF.heap.size fi.heap.size (.agg (cq false s.frame)) (.agg #[.bool s.frame.ok,.slice jo s.frame.aE.length fq,.slice jV s.frame.ay.length gf,.slice iw s.frame.O.length hN])) rfl rfl (ap5 Eb)
        have aqT:Hid (bK.heap.size<fi.heap.size):=rn xS.out
        have adp:=Lib.hid td.size
        clear cG q1 q2 q3 q4 fA c5 dP Sa Sb Sc Sd td Eb Hs Mu AL uo SJ
        have Su:Hid (∀i∈(nU p w bq bo fu fv fw hY jW gM aI ax bC g0 g1 g2)++l++[gl fF.heap.size fi.heap.size (.agg (cq false s.frame)) (.agg #[.bool s.frame.ok,.slice jo s.frame.aE.length fq,.slice jV s.frame.ay.length gf,.slice iw s.frame.O.length hN])],¬(i.lo≤bK.heap.size∧bK.heap.size<i.hi)):=fun i hi h=>by
          rcases List.mem_append.1 hi with hi | hi
          · exact Ss.out i hi h
          · rw[List.mem_singleton.1 hi] at h
            have h2:fF.heap.size≤bK.heap.size:=h.1
            have:=Kd.out
            omega
        have adk:Hid (∀i∈(nU p w bq bo fu fv fw hY jW gM aI ax bC g0 g1 g2)++l++[gl fF.heap.size fi.heap.size (.agg (cq false s.frame)) (.agg #[.bool s.frame.ok,.slice jo s.frame.aE.length fq,.slice jV s.frame.ay.length gf,.slice iw s.frame.O.length hN])],¬(i.lo≤bo.heap.size∧bo.heap.size<i.hi)):=fun i hi h=>by
          rcases List.mem_append.1 hi with hi | hi
          · rcases List.mem_append.1 hi with hi | hi
            · have:=Kc.out i hi;omega
            · have:=Kl.out i hi;omega
          · rw[List.mem_singleton.1 hi] at h
            have h2:fF.heap.size≤bo.heap.size:=h.1
            have:=uv.out.sz
            have:=xI.out
            omega
        have KD:Hid (jZ w wr (((((((((fi.setCell ⟨bK.heap.size,0,none⟩ (.int .i64 s.code)).setCell ⟨bK.heap.size,1,none⟩ (.bool s.frame.ok)).setCell ⟨bK.heap.size,2,none⟩ (.slice jo s.frame.aE.length fq)).setCell ⟨bK.heap.size,3,none⟩ (.slice jV s.frame.ay.length gf)).setCell ⟨bK.heap.size,4,none⟩ (.slice iw s.frame.O.length hN)).setCell ⟨bo.heap.size,0,none⟩ (.bool s.frame.ok)).setCell ⟨bo.heap.size,1,none⟩ (.slice jo s.frame.aE.length fq)).setCell ⟨bo.heap.size,2,none⟩ (.slice jV s.frame.ay.length gf)).setCell ⟨bo.heap.size,3,none⟩ (.slice iw s.frame.O.length hN)) ((nU p w bq bo fu fv fw hY jW gM aI ax bC g0 g1 g2)++l++[gl fF.heap.size fi.heap.size (.agg (cq false s.frame)) (.agg #[.bool s.frame.ok,.slice jo s.frame.aE.length fq,.slice jV s.frame.ay.length gf,.slice iw s.frame.O.length hN])]) v):=(KC.out.grown (agJ _ _ _ _ _ _ _) zP.out.1 Su.out zP.out.2).grown (Ma _ _ 0 _ _ _ _) F5.out adk.out (fun g e=>by have:=C6.out.lt g e;omega)
        have SF:Hid (((((((((((fi.setCell ⟨bK.heap.size,0,none⟩ (.int .i64 s.code)).setCell ⟨bK.heap.size,1,none⟩ (.bool s.frame.ok)).setCell ⟨bK.heap.size,2,none⟩ (.slice jo s.frame.aE.length fq)).setCell ⟨bK.heap.size,3,none⟩ (.slice jV s.frame.ay.length gf)).setCell ⟨bK.heap.size,4,none⟩ (.slice iw s.frame.O.length hN)).setCell ⟨bo.heap.size,0,none⟩ (.bool s.frame.ok)).setCell ⟨bo.heap.size,1,none⟩ (.slice jo s.frame.aE.length fq)).setCell ⟨bo.heap.size,2,none⟩ (.slice jV s.frame.ay.length gf)).setCell ⟨bo.heap.size,3,none⟩ (.slice iw s.frame.O.length hN))).heap[bK.heap.size]?=some (.cells #[.int .i64 s.code,.bool s.frame.ok,.slice jo s.frame.aE.length fq,.slice jV s.frame.ay.length gf,.slice iw s.frame.O.length hN] 67 (0,0))):=(by rw[Below.heap_setCell _ _ _ _ (fun e=>mc.out e.symm),Below.heap_setCell _ _ _ _ (fun e=>mc.out e.symm),Below.heap_setCell _ _ _ _ (fun e=>mc.out e.symm),Below.heap_setCell _ _ _ _ (fun e=>mc.out e.symm)]:((((((((((fi.setCell ⟨bK.heap.size,0,none⟩ (.int .i64 s.code)).setCell ⟨bK.heap.size,1,none⟩ (.bool s.frame.ok)).setCell ⟨bK.heap.size,2,none⟩ (.slice jo s.frame.aE.length fq)).setCell ⟨bK.heap.size,3,none⟩ (.slice jV s.frame.ay.length gf)).setCell ⟨bK.heap.size,4,none⟩ (.slice iw s.frame.O.length hN)).setCell ⟨bo.heap.size,0,none⟩ (.bool s.frame.ok)).setCell ⟨bo.heap.size,1,none⟩ (.slice jo s.frame.aE.length fq)).setCell ⟨bo.heap.size,2,none⟩ (.slice jV s.frame.ay.length gf)).setCell ⟨bo.heap.size,3,none⟩ (.slice iw s.frame.O.length hN))).heap[bK.heap.size]?=((((((fi.setCell ⟨bK.heap.size,0,none⟩ (.int .i64 s.code)).setCell ⟨bK.heap.size,1,none⟩ (.bool s.frame.ok)).setCell ⟨bK.heap.size,2,none⟩ (.slice jo s.frame.aE.length fq)).setCell ⟨bK.heap.size,3,none⟩ (.slice jV s.frame.ay.length gf)).setCell ⟨bK.heap.size,4,none⟩ (.slice iw s.frame.O.length hN))).heap[bK.heap.size]?).trans (aap xS.out)
        have SI:Hid (((((((((((fi.setCell ⟨bK.heap.size,0,none⟩ (.int .i64 s.code)).setCell ⟨bK.heap.size,1,none⟩ (.bool s.frame.ok)).setCell ⟨bK.heap.size,2,none⟩ (.slice jo s.frame.aE.length fq)).setCell ⟨bK.heap.size,3,none⟩ (.slice jV s.frame.ay.length gf)).setCell ⟨bK.heap.size,4,none⟩ (.slice iw s.frame.O.length hN)).setCell ⟨bo.heap.size,0,none⟩ (.bool s.frame.ok)).setCell ⟨bo.heap.size,1,none⟩ (.slice jo s.frame.aE.length fq)).setCell ⟨bo.heap.size,2,none⟩ (.slice jV s.frame.ay.length gf)).setCell ⟨bo.heap.size,3,none⟩ (.slice iw s.frame.O.length hN))).heap[bo.heap.size]?=some (.cells #[.bool s.frame.ok,.slice jo s.frame.aE.length fq,.slice jV s.frame.ay.length gf,.slice iw s.frame.O.length hN] 44 (0,0))):=anP ((by rw[Below.heap_setCell _ _ _ _ mc.out,Below.heap_setCell _ _ _ _ mc.out,Below.heap_setCell _ _ _ _ mc.out,Below.heap_setCell _ _ _ _ mc.out,Below.heap_setCell _ _ _ _ mc.out]:((((((fi.setCell ⟨bK.heap.size,0,none⟩ (.int .i64 s.code)).setCell ⟨bK.heap.size,1,none⟩ (.bool s.frame.ok)).setCell ⟨bK.heap.size,2,none⟩ (.slice jo s.frame.aE.length fq)).setCell ⟨bK.heap.size,3,none⟩ (.slice jV s.frame.ay.length gf)).setCell ⟨bK.heap.size,4,none⟩ (.slice iw s.frame.O.length hN))).heap[bo.heap.size]?=fi.heap[bo.heap.size]?).trans Dd.out)
        obtain⟨cG,q1,q2,q3,q4⟩:=pu xS.out
        obtain⟨fA,c5,dP,eJ,m8⟩:=KQ xS.out
        obtain⟨Sa,Sb,Sc,Sd⟩:=KY Dd.out
        obtain⟨t0,t1,t2,t3⟩:=adZ Dd.out
        have b7:bo.heap.size≠bK.heap.size:=mc.out
        have ahV:bK.heap.size≠bo.heap.size:=fun e=>mc.out e.symm
        have Sz:Hid (V2 (Env.at (((((((((fi.setCell ⟨bK.heap.size,0,none⟩ (.int .i64 s.code)).setCell ⟨bK.heap.size,1,none⟩ (.bool s.frame.ok)).setCell ⟨bK.heap.size,2,none⟩ (.slice jo s.frame.aE.length fq)).setCell ⟨bK.heap.size,3,none⟩ (.slice jV s.frame.ay.length gf)).setCell ⟨bK.heap.size,4,none⟩ (.slice iw s.frame.O.length hN)).setCell ⟨bo.heap.size,0,none⟩ (.bool s.frame.ok)).setCell ⟨bo.heap.size,1,none⟩ (.slice jo s.frame.aE.length fq)).setCell ⟨bo.heap.size,2,none⟩ (.slice jV s.frame.ay.length gf)).setCell ⟨bo.heap.size,3,none⟩ (.slice iw s.frame.O.length hN))) (.agg (cq false s.frame)) (.agg #[.bool s.frame.ok,.slice jo s.frame.aE.length fq,.slice jV s.frame.ay.length gf,.slice iw s.frame.O.length hN])):=KD.out.val (List.mem_append.2 (.inr (List.mem_singleton.2 rfl)))
        go_wp2_with (go_at_call 70;refine(K7 adq.out Sz.out).mono ?_)
        rintro e hW ⟨jl,hJ,jm,hL,jn,iQ,xM,rfl,DM,MZ,Mw,ahy,MG⟩
        clear cG q1 q2 q3 q4 fA c5 dP eJ m8 Sa Sb Sc Sd t0 t1 t2 t3 b7 ahV Sz
        generalize VC:(((((((((fi.setCell ⟨bK.heap.size,0,none⟩ (.int .i64 s.code)).setCell ⟨bK.heap.size,1,none⟩ (.bool s.frame.ok)).setCell ⟨bK.heap.size,2,none⟩ (.slice jo s.frame.aE.length fq)).setCell ⟨bK.heap.size,3,none⟩ (.slice jV s.frame.ay.length gf)).setCell ⟨bK.heap.size,4,none⟩ (.slice iw s.frame.O.length hN)).setCell ⟨bo.heap.size,0,none⟩ (.bool s.frame.ok)).setCell ⟨bo.heap.size,1,none⟩ (.slice jo s.frame.aE.length fq)).setCell ⟨bo.heap.size,2,none⟩ (.slice jV s.frame.ay.length gf)).setCell ⟨bo.heap.size,3,none⟩ (.slice iw s.frame.O.length hN))=vD at DM MZ Mw KD SF SI
        have Sw:Hid (fF.heap.size≤vD.heap.size):=by rw[←VC];simp only[World.size_setCell];exact adp.out
        clear VC
        have SG:=Lib.hid (pC SF.out DM)
        have adG:=Lib.hid (pC SI.out DM)
        have adA:Hid (jZ w wr hW ((nU p w bq bo fu fv fw hY jW gM aI ax bC g0 g1 g2)++l++[gl fF.heap.size fi.heap.size (.agg (cq false s.frame)) (.agg #[.bool s.frame.ok,.slice jo s.frame.aE.length fq,.slice jV s.frame.ay.length gf,.slice iw s.frame.O.length hN])]++[eL.it (⟨vD.heap.size,hW.heap.size,s,jl,jm,jn,hJ,hL,iQ,xM⟩:eL)]) v):=KD.out.made DM (eL.it (⟨vD.heap.size,hW.heap.size,s,jl,jm,jn,hJ,hL,iQ,xM⟩:eL)) rfl rfl ⟨MZ,Mw⟩
        clear DM MZ Mw
        obtain⟨fA,c5,dP,eJ,m8⟩:=pu SG.out
        obtain⟨a8,c_,hj,n9,Ov⟩:=KQ SG.out
        have xR:Hid (jZ w wr (((((hW.setCell ⟨bK.heap.size,1,none⟩ (.bool s.frame.ok)).setCell ⟨bK.heap.size,2,none⟩ (.slice jl s.frame.aE.length hJ)).setCell ⟨bK.heap.size,3,none⟩ (.slice jm s.frame.ay.length hL)).setCell ⟨bK.heap.size,4,none⟩ (.slice jn s.frame.O.length iQ)).alloc (.cells #[.int .i64 s.code,.bool s.frame.ok,.slice jl s.frame.aE.length hJ,.slice jm s.frame.ay.length hL,.slice jn s.frame.O.length iQ] 67)) ((nU p w bq bo fu fv fw hY jW gM aI ax bC g0 g1 g2)++l++[gl fF.heap.size fi.heap.size (.agg (cq false s.frame)) (.agg #[.bool s.frame.ok,.slice jo s.frame.aE.length fq,.slice jV s.frame.ay.length gf,.slice iw s.frame.O.length hN])]++[eL.it (⟨vD.heap.size,hW.heap.size,s,jl,jm,jn,hJ,hL,iQ,xM⟩:eL)]) v):=jZ.below (jZ.grown adA.out (Ma _ _ 1 _ _ _ _) zP.out.1 (fun i hi h=>by
          rcases List.mem_append.1 hi with hi | hi
          · exact Su.out i hi h
          · rw[List.mem_singleton.1 hi] at h
            have h2:vD.heap.size≤bK.heap.size:=h.1
            have:=Nat.lt_of_lt_of_le Kd.out Sw.out
            omega) zP.out.2) ((Below.refl _ _).alloc (Nat.le_refl _) _)
        have KH:Hid (((((((hW.setCell ⟨bK.heap.size,1,none⟩ (.bool s.frame.ok)).setCell ⟨bK.heap.size,2,none⟩ (.slice jl s.frame.aE.length hJ)).setCell ⟨bK.heap.size,3,none⟩ (.slice jm s.frame.ay.length hL)).setCell ⟨bK.heap.size,4,none⟩ (.slice jn s.frame.O.length iQ)).alloc (.cells #[.int .i64 s.code,.bool s.frame.ok,.slice jl s.frame.aE.length hJ,.slice jm s.frame.ay.length hL,.slice jn s.frame.O.length iQ] 67))).heap[bo.heap.size]?=some (.cells #[.bool s.frame.ok,.slice jo s.frame.aE.length fq,.slice jV s.frame.ay.length gf,.slice iw s.frame.O.length hN] 44 (0,0))):=pC ((by rw[Below.heap_setCell _ _ _ _ mc.out,Below.heap_setCell _ _ _ _ mc.out,Below.heap_setCell _ _ _ _ mc.out,Below.heap_setCell _ _ _ _ mc.out]:(((((hW.setCell ⟨bK.heap.size,1,none⟩ (.bool s.frame.ok)).setCell ⟨bK.heap.size,2,none⟩ (.slice jl s.frame.aE.length hJ)).setCell ⟨bK.heap.size,3,none⟩ (.slice jm s.frame.ay.length hL)).setCell ⟨bK.heap.size,4,none⟩ (.slice jn s.frame.O.length iQ))).heap[bo.heap.size]?=hW.heap[bo.heap.size]?).trans adG.out) ((Below.refl _ _).alloc (Nat.le_refl _) _)
        go_wp2_with (at_builtin;go_loud (refine wpList_append_own_at _ rfl _ _ 55 rfl (bo.heap.size+1) 67 i0 (.agg #[.int .i64 0,.bool false,.slice none 0 0,.slice none 0 0,.slice none 0 0]) 5 88 acy MB H3 qD qE rfl (by decide) _ _ _ rfl (xR.out.own C6.out) ⟨hW.heap.size,0,none⟩ 1 1 (eL.an (⟨vD.heap.size,hW.heap.size,s,jl,jm,jn,hJ,hL,iQ,xM⟩:eL)) rfl rfl (YQ (by simp only[World.size_setCell]) (⟨vD.heap.size,hW.heap.size,s,jl,jm,jn,hJ,hL,iQ,xM⟩:eL)) (Tw (⟨vD.heap.size,hW.heap.size,s,jl,jm,jn,hJ,hL,iQ,xM⟩:eL)) (by have:=qf.out;unfold maxLen;omega) (by have:=qf.out;omega) (Nat.le_trans (Nat.succ_le_of_lt xI.out) xR.out.sz) ?_))
        intro ea nP D5 DU _ mh
        have Ko:Hid (q_ w (nU p w bq bo fu fv fw hY jW gM aI ax bC g0 g1 g2) bo.heap.size p es (k+1) ea nP):=q_.step (x:=(⟨vD.heap.size,hW.heap.size,s,jl,jm,jn,hJ,hL,iQ,xM⟩:eL)) aQ xR.out KH.out (List.mem_append.2 (.inr (List.mem_singleton.2 rfl))) Kl.out (fun i h=>by rw[List.mem_singleton.1 h];exact uv.out.sz) (Nat.le_trans uv.out.sz Sw.out) xI.out F5.out Kc.out vL.out Sn.out ⟨ahy,MG⟩ Sm.out So.out (by rw[FR.out,xJ.out,←F3.out,F4.out];rfl) (by rw[FR.out,xJ.out,←F3.out,F4.out];rfl) C6.out D5 DU (by simp only[World.size_alloc,World.size_setCell];exact mh)
        clear D5 DU mh
        go_wp2
        go_roundw
        case rel=>exact⟨k+1,_,by omega,by go_num,rfl,Ko.out⟩
        case measure=>simp[intOf];omega
    · have e:k=es.length:=by omega
      subst e
      have adn:=Lib.hid Mf;clear Mf
      go_wp2
      go_ret
      exact adn.out.fin F5.out qf.out
theorem zY.nil {w w':World} (hb:Below w.heap.size w w'):zY w [] (.returned (.slice none 0 0)) w':=
  ⟨none,0,[],rfl,hb,a1.aP (rows:=[]) (PB:=fun _=>False) (sz:=0) (vs:=fun _ _=>undef) (fun _ h=>h.elim) ⟨Nat.zero_le _,Nat.zero_le _⟩ (fun h=>by cases h) (fun i row h=>by simp at h) (fun h=>by simp at h) (fun i j row a h=>by simp at h),
    .aP (e:= .done) (n:=0) (Ls:=fun _ _=>[]) (vs:=fun _ _=>undef) 0 0 ⟨Nat.zero_le _,Nat.zero_le _⟩ (fun h=>absurd h (by omega)) (fun i j bX hi _=>by omega),List.Pairwise.nil,rfl⟩
theorem aqp (p:aL) (n:Nat) (w:World) (fu fv fw lk:Option Addr) (aI ax bC kf:Nat) (b:Bool) (bZ:eD p=b) (ag:b=true→1000<n)
    (h1:ep w (fun c=>c<w.heap.size) (.agg (bD false p)) (.agg #[.int .i64 p.ao,.slice fu p.a7.length aI,.slice fv p.O.length ax,.slice fw p.bG.length bC,.int .i64 p.cB])):
    Calls Tryz.prog 22 #[.agg #[.int .i64 p.ao,.slice fu p.a7.length aI,.slice fv p.O.length ax,.slice fw p.bG.length bC,.int .i64 p.cB],.slice lk n kf] w (zY w []):=by
  have C7:=Lib.hid bZ;clear bZ
  have r0:Hid (cI w w [qG w.heap.size (.agg (bD false p)) (.agg #[.int .i64 p.ao,.slice fu p.a7.length aI,.slice fv p.O.length ax,.slice fw p.bG.length bC,.int .i64 p.cB])]):=(cI.start w).add (qG w.heap.size _ _) (Nat.le_refl _) h1 (fun j h=>by cases h)
  have mQ:=Lib.hid (r0.out.box #[.int .i64 p.ao,.slice fu p.a7.length aI,.slice fv p.O.length ax,.slice fw p.bG.length bC,.int .i64 p.cB] 39)
  clear r0 h1
  cases b with
  | false=>
    clear ag
    go_enter Tryz.func22,Tryz.ntmps22
    go_wp2_with (go_at_call 68;refine(K9 (qG.at mQ.out 0)).mono ?_)
    rw[C7.out]
    first
    | (rintro e bq rfl hb)
    | (rintro e bq ⟨rfl,hb⟩)
    have oz:=Lib.hid (mQ.out.below hb);clear hb mQ
    go_wp2
    go_ret
    exact .nil oz.out.end
  | true=>
    have agE:(1000:Int)<(n:Int):=by have:=ag rfl;omega
    clear ag
    go_enter Tryz.func22,Tryz.ntmps22
    go_wp2_with (go_at_call 68;refine(K9 (qG.at mQ.out 0)).mono ?_)
    rw[C7.out]
    first
    | (rintro e bq rfl hb)
    | (rintro e bq ⟨rfl,hb⟩)
    have oz:=Lib.hid (mQ.out.below hb);clear hb mQ
    go_wp2
    go_ret
    exact .nil oz.out.end
theorem Tn {p:aL} {es:List Event} {de:List fj} (rm:xd p es=de) {w:World} {v u:Value} (h1:V2 (Env.at w) (.agg (bD false p)) v) (h2:V2 (Env.at w) (.aP (es.map dL) false false) u):
    Calls Tryz.prog 22 #[v,u] w (zY w de):=by
  subst rm
  have t1:ep w (fun c=>c<w.heap.size) (.agg (bD false p)) v:=h1
  have t2:ep w (fun c=>c<w.heap.size) (.aP (es.map dL) false false) u:=h2
  obtain⟨fu,aI,fv,ax,fw,bC,rfl,_⟩:=JV t1
  obtain⟨lk,kf,ce,lI,rfl,hP⟩:=afA t2
  unfold xd
  by_cases h:eD p=true∧es.length≤1000
  · rw[if_pos h]
    exact aqo p es w fu fv fw lk aI ax bC kf ce lI h.1 h.2 t1 hP
  · rw[if_neg h]
    exact aqp p es.length w fu fv fw lk aI ax bC kf _ rfl (fun hb=>by
      have: ¬es.length≤1000:=fun au=>h ⟨hb,au⟩
      omega) t1
end Go.Proofs.YtejmihecgodhnaaGreat.Fw
set_option linter.unusedVariables false
set_option maxRecDepth 100000
set_option maxHeartbeats 4000000
set_option linter.unusedSimpArgs false
namespace Go.Proofs.YtejmihecgodhnaaGreat.Fw
open Go
attribute [local irreducible] evS evSD WpS Weak Oper.looksAt
section
variable (a0:(List Event)) (J aa:Int)
def XS:Prop:=
 a0.length≤4611686018427387904→((decide ((IntKind.i64.wrap (J - (a0.length:Int)))<0))=true→(-1)=aa)∧((!(decide ((IntKind.i64.wrap (J - (a0.length:Int)))<0)))=true→(IntKind.i64.wrap (J - (a0.length:Int)))=aa)
theorem ak5 (ab:jw a0 J):bn Tryz.prog 19 [bA dL a0,ad J] (ad (fc a0 J)):=(fun(h:XS a0 J (fc a0 J))=>bn.run (ps:=[(.l .fQ),.int]) (rs:=[.int]) (x:=(a0,J,())) (r:=((fc a0 J),())) ⟨12,dy,[]⟩ ⟨[],[],[],[],[]⟩ .nil Tryz.func19 h) (by
 unfold XS
 exact fun ag=>JQ ab ag)
end
section
variable (ai:(List Event)→Int→Prop) (al:(List Event)→Int→Nat) (a0 aa:(List Event))
def X8:Prop:=
  ai (List.replicate (a0.length:Int).toNat ({op:=(0:Int),aG:=(0:Int),bi:=(0:Int)}:Event)) 0∧ ∀(aI:(List Event)) (v4:Int),ai aI v4→(((decide (v4<(a0.length:Int)))=false→aI.length≤4611686018427387904∧aI=aa)∧((decide (v4<(a0.length:Int)))=true→((0≤v4∧v4.toNat<a0.length)∧((0≤v4∧v4.toNat<aI.length)∧(v4.toNat<aI.length)))∧(ai (aI.set v4.toNat (aV (nth a0 v4))) (IntKind.i64.wrap (v4+1))∧al (aI.set v4.toNat (aV (nth a0 v4))) (IntKind.i64.wrap (v4+1))<al aI v4)))
def X7 (a0:(List Event)) (aa:(List Event)) (ai:(List Event)→Int→Prop) (al:(List Event)→Int→Nat):Prop:=
 (a0.length≤4611686018427387904→0≤(a0.length:Int)∧24*(a0.length:Int)≤140737488355328∧(a0.length:Int)≤4611686018427387904)∧(a0.length≤4611686018427387904→X8 ai al a0 aa)
theorem alh (ab:small a0):bn Tryz.prog 21 [bA dL a0] (pt dL (aV a0)):=(fun(ai:(List Event)→Int→Prop) (al:(List Event)→Int→Nat) (h:X7 a0 (aV a0) ai al)=>bn.run (ps:=[(.l .fQ)]) (rs:=[(.l .fQ)]) (x:=(a0,())) (r:=((aV a0),())) ⟨23,dy,[alk]⟩ ⟨[10],[],[],[],[]⟩ (.lp [] [0] [] [(.l .fQ),.int] [bJ 0,4] (fun aS=>[(3,.ref 0 0 aS.1.length false),(4,.i .i64 aS.2.1),(bJ 0,.blk 0 .fQ aS.1 _ rfl)]) (fun aS=>ai aS.1 aS.2.1) (fun aS=>al aS.1 aS.2.1) fun _=> .nil) Tryz.func21 h) (rj a0 aV ({op:=(0:Int),aG:=(0:Int),bi:=(0:Int)}:Event)) (r_ a0) (by
 unfold X7 X8
 have ab:a0.length≤1048576:=ab
 exact⟨fun ag=>⟨dp _,by omega,by omega⟩,fun ag=>Hb (f:=aV) ag (IG _)⟩)
end
section
variable (a0 J:Event) (aa:Bool)
def Xu:Prop:=
 ((a0.op !=J.op)=true→false=aa)∧((!(a0.op !=J.op))=true→((a0.aG !=J.aG)=true→false=aa)∧((!(a0.aG !=J.aG))=true→((a0.bi !=J.bi)=true→false=aa)∧((!(a0.bi !=J.bi))=true→true=aa)))
theorem akv:bn Tryz.prog 73 [.agg (dL a0),.agg (dL J)] (aq (eqv a0 J)):=(fun(h:Xu a0 J (eqv a0 J))=>bn.run (ps:=[.fQ,.fQ]) (rs:=[.bool]) (x:=(a0,J,())) (r:=((eqv a0 J),())) ⟨20,dy,[]⟩ ⟨[],[],[],[],[]⟩ .nil Tryz.func73 h) (by
 unfold Xu
 obtain⟨c,p,q⟩:=a0
 obtain⟨cv,y_,vh⟩:=J
 simp[eqv]
 intros
 simp_all)
def akw:dJ Tryz.prog:=⟨73,[.fQ,.fQ],[.bool],none,fun x=>((eqv x.1 x.2.1),()),fun x h=>akv x.1 x.2.1⟩
end
section
variable (ai:Int→Prop) (al:Int→Nat) (a0 J:(List Event)) (aa:Bool)
def akt:List Item:=(List.range 10).map cz
def aku:List (List Nat):=[[],[],[0,1],[0,1,2],[],[],[4,5],[4,5,6],rg 0 8,rg 0 9]
def Xt:Prop:=
  ((a0.length≤4611686018427387904)∧(J.length≤4611686018427387904)→((a0.length:Int) !=(J.length:Int))=true→false=aa)∧((a0.length≤4611686018427387904)∧(J.length≤4611686018427387904)∧((!((a0.length:Int) !=(J.length:Int)))=true)→ai 0∧ ∀(v5:Int),ai v5→(((decide (v5<(a0.length:Int)))=false→true=aa)∧((decide (v5<(a0.length:Int)))=true→(((0≤v5∧v5.toNat<a0.length)∧(0≤v5∧v5.toNat<J.length))∧((!(eqv (nth a0 v5) (nth J v5)))=true→false=aa))∧((!(!(eqv (nth a0 v5) (nth J v5))))=true→ai (IntKind.i64.wrap (v5+1))∧al (IntKind.i64.wrap (v5+1))<al v5))))
def Xs (a0:(List Event)) (J:(List Event)) (aa:Bool) (ai:Int→Prop) (al:Int→Nat):Prop:=
 Xt ai al a0 J aa
theorem aks:bn Tryz.prog 24 [bA dL a0,bA dL J] (aq (eqv a0 J)):=(fun(ai:Int→Prop) (al:Int→Nat) (h:Xs a0 J (eqv a0 J) ai al)=>bn.run (ps:=[(.l .fQ),(.l .fQ)]) (rs:=[.bool]) (x:=(a0,J,())) (r:=((eqv a0 J),())) ⟨27,dy,[akw]⟩ ⟨[13],[(6,akt,aku)],[],[],[]⟩ (fz [0,1] [] 5 ai al fun _=> .nil) Tryz.func24 h) (cr a0.length (fun v=> !(eqv (nth a0 v) (nth J v)))) (cM a0.length) (by
 unfold Xs Xt
 exact uD (ne:=fun v=> !(eqv (nth a0 v) (nth J v))) (fun v=>by simp[eqv]))
end
section
variable (ai:Int→Prop) (al:Int→Nat) (a0 J:(List fj)) (aa:Bool)
def ako:List Item:=(List.range 10).map cz
def akp:List (List Nat):=[[],[],[0,1],[0,1,2],[],[],[4,5],[4,5,6],rg 0 8,rg 0 9]
def Xq:Prop:=
  ((a0.length≤4611686018427387904)∧(J.length≤4611686018427387904)→((a0.length:Int) !=(J.length:Int))=true→false=aa)∧((a0.length≤4611686018427387904)∧(J.length≤4611686018427387904)∧((!((a0.length:Int) !=(J.length:Int)))=true)→ai 0∧ ∀(v5:Int),ai v5→(((decide (v5<(a0.length:Int)))=false→true=aa)∧((decide (v5<(a0.length:Int)))=true→(((0≤v5∧v5.toNat<a0.length)∧(0≤v5∧v5.toNat<J.length))∧((!(eqv (nth a0 v5) (nth J v5)))=true→false=aa))∧((!(!(eqv (nth a0 v5) (nth J v5))))=true→ai (IntKind.i64.wrap (v5+1))∧al (IntKind.i64.wrap (v5+1))<al v5))))
def Xp (a0:(List fj)) (J:(List fj)) (aa:Bool) (ai:Int→Prop) (al:Int→Nat):Prop:=
 Xq ai al a0 J aa
theorem akn:bn Tryz.prog 23 [bA (iy false) a0,bA (iy false) J] (aq (eqv a0 J)):=(fun(ai:Int→Prop) (al:Int→Nat) (h:Xp a0 J (eqv a0 J) ai al)=>bn.run (ps:=[(.l .done),(.l .done)]) (rs:=[.bool]) (x:=(a0,J,())) (r:=((eqv a0 J),())) ⟨27,dy,[akr]⟩ ⟨[13],[(6,ako,akp)],[],[],[]⟩ (fz [0,1] [] 5 ai al fun _=> .nil) Tryz.func23 h) (cr a0.length (fun v=> !(eqv (nth a0 v) (nth J v)))) (cM a0.length) (by
 unfold Xp Xq
 exact uD (ne:=fun v=> !(eqv (nth a0 v) (nth J v))) (fun v=>by simp[eqv]))
end
end Go.Proofs.YtejmihecgodhnaaGreat.Fw
set_option linter.unusedVariables false
namespace Go.Proofs.YtejmihecgodhnaaGreat.Fw
open Go Go.RowKit
set_option maxHeartbeats 2000000
set_option maxRecDepth 100000
theorem apX:F7 Tryz.prog 26 (.l .done):=fun w S L v k h ja aA h1=>by
  obtain⟨A,n,cap,rfl⟩:=h.nE
  obtain⟨oK,c,o,Ls,cm,rfl,au,hi,hb⟩:=h.elem
  have H1:Hid (k+((bY (fun i=>bY (Ls i) 5) n).length:Nat)≤4611686018427387904):=h1
  have uk:Hid (kJ (bY (fun i=>bY (Ls i) 5) n)):=ja
  have jp:=Lib.hid cm;clear cm
  have cD:=Lib.hid au;clear au
  have oy:=Lib.hid hi;clear hi
  have xH:=Lib.hid hb;clear hb
  clear h h1 ja
  show Calls _ _ _ _ fun fV w'=>fV= .returned (.int .i64 (k+((bY (fun i=>bY (Ls i) 5) n).length:Nat)))∧gC w w' S (bY (fun i=>bY (Ls i) 5) n) k
  go_enter Tryz.func26,Tryz.ntmps26
  go_wp2
  go_loopw [1,5] (fun q i wr=> ∃j:Nat,j≤n∧i= .int .i64 j∧q= .int .i64 (k+((bY (fun i=>bY (Ls i) 5) j).length:Nat))∧gC w wr S (bY (fun i=>bY (Ls i) 5) j) k) (fun _ i _=>n - (intOf i).toNat)
  case atStart=>exact⟨0,Nat.zero_le _,rfl,by simp[bY],.nil _ _ _⟩
  case round=>
    obtain⟨j,ac,rfl,rfl,hm⟩:=hrel
    have ej:=Lib.hid hm;clear hm
    by_cases aQ:j<n
    · obtain rfl:=jp.out (by omega)
      obtain⟨eg,cV⟩:=oy.out j 0 aQ rfl
      rw[show o+(j*(aX.bN .done).length+0)=o+j*5 from by show o+(j*5+0)=_;omega] at eg cV
      have cV:=Lib.hid cV
      obtain⟨aN,dt⟩:=xH.out j 1 aQ rfl
      rw[show o+(j*(aX.bN .done).length+1)=o+j*5+1 from by show o+(j*5+1)=_;omega] at aN dt
      have dt:=Lib.hid dt
      obtain⟨bM,n2,bu,iX⟩:=cD.out j 2 .bool aQ rfl
      rw[show o+(j*(aX.bN .done).length+2)=o+j*5+2 from by show o+(j*5+2)=_;omega] at iX
      obtain⟨J6,nC,ke,qw⟩:=cD.out j 3 .e0 aQ rfl
      rw[show o+(j*(aX.bN .done).length+3)=o+j*5+3 from by show o+(j*5+3)=_;omega] at qw
      obtain⟨J7,EI,mg,qx⟩:=cD.out j 4 .held aQ rfl
      rw[show o+(j*(aX.bN .done).length+4)=o+j*5+4 from by show o+(j*5+4)=_;omega] at qx
      have aO:bY (fun i=>bY (Ls i) 5) (j+1)=bY (fun i=>bY (Ls i) 5) j++[(c,o+j*5,false)]++[(c,o+j*5+1,true)]++Ls j 2++Ls j 3++Ls j 4:=by
        show _++(((((([]:dm)++Ls j 0)++Ls j 1)++Ls j 2)++Ls j 3)++Ls j 4)=_
        rw[eg,aN];simp only[List.append_assoc,List.nil_append]
      obtain⟨P,bZ⟩: ∃P,bY (fun i=>bY (Ls i) 5) j=P:=⟨_,rfl⟩
      obtain⟨fP,oH⟩: ∃fP,Ls j 2=fP:=⟨_,rfl⟩
      obtain⟨mf,yb⟩: ∃mf,Ls j 3=mf:=⟨_,rfl⟩
      obtain⟨nk,ya⟩: ∃nk,Ls j 4=nk:=⟨_,rfl⟩
      obtain⟨r,ak⟩:=Dr (f:=fun i=>bY (Ls i) 5) (n:=n) (j:=j+1) (by omega)
      have h3:=uk.out
      have h1:k+((bY (fun i=>bY (Ls i) 5) n).length:Nat)≤4611686018427387904:=H1.out
      have ul:Hid (gC w wr S P k):=bZ▸ej.out
      rw[bZ,oH,yb,ya] at aO
      rw[oH] at iX
      rw[yb] at qw
      rw[ya] at qx
      rw[ak,aO] at h3 h1
      have gM:=Lib.hid iX;clear iX
      have vH:=Lib.hid qw;clear qw
      have vI:=Lib.hid qx;clear qx
      have qg:=Lib.hid aO;clear aO
      have oA:=Lib.hid h3.left;clear h3
      rw[List.length_append,List.length_append,List.length_append,List.length_append,List.length_append,List.length_append] at h1
      obtain⟨y,aU⟩: ∃y:Int,k+(P.length:Nat)=y:=⟨_,rfl⟩
      obtain⟨bw,kj⟩: ∃bw:Nat,fP.length=bw:=⟨_,rfl⟩
      obtain⟨cX,AP⟩: ∃cX:Nat,mf.length=cX:=⟨_,rfl⟩
      obtain⟨eZ,DZ⟩: ∃eZ:Nat,nk.length=eZ:=⟨_,rfl⟩
      have pB:k+(P.length+1+1+fP.length+mf.length+nk.length:Nat)≤4611686018427387904:=by
        simp only[List.length_cons,List.length_nil] at h1
        omega
      have H0:0≤y:=by omega
      have yx:y+bw+cX+eZ+2≤4611686018427387904:=by omega
      have xT:Hid (k+((P++[(c,o+j*5,false)]).length:Nat)=y+1):=by unfold Hid;rw[List.length_append,List.length_singleton];omega
      have KJ:Hid (k+((P++[(c,o+j*5,false)]++[(c,o+j*5+1,true)]).length:Nat)=y+1+1):=by unfold Hid;rw[List.length_append,List.length_append,List.length_singleton,List.length_singleton];omega
      have KK:Hid (k+((P++[(c,o+j*5,false)]++[(c,o+j*5+1,true)]++fP).length:Nat)=y+1+1+bw):=by unfold Hid;rw[List.length_append,List.length_append,List.length_append,List.length_singleton,List.length_singleton];omega
      have KL:Hid (k+((P++[(c,o+j*5,false)]++[(c,o+j*5+1,true)]++fP++mf).length:Nat)=y+1+1+bw+cX):=by unfold Hid;rw[List.length_append,List.length_append,List.length_append,List.length_append,List.length_singleton,List.length_singleton];omega
      have ux:Hid (k+((P++[(c,o+j*5,false)]++[(c,o+j*5+1,true)]++fP++mf++nk).length:Nat)=y+1+1+bw+cX+eZ):=by unfold Hid;rw[List.length_append,List.length_append,List.length_append,List.length_append,List.length_append,List.length_singleton,List.length_singleton];omega
      have uw:=Lib.hid aU
      rw[bZ,aU]
      have nj:Hid (0≤y+1+1∧y+1+1+(fP.length:Nat)≤4611686018427387904):=by unfold Hid;omega
      have vJ:Hid (0≤y+1+1+bw∧y+1+1+bw+(mf.length:Nat)≤4611686018427387904):=by unfold Hid;omega
      have vK:Hid (0≤y+1+1+bw+cX∧y+1+1+bw+cX+(nk.length:Nat)≤4611686018427387904):=by unfold Hid;omega
      have xN:=Lib.hid kj
      have Kv:=Lib.hid AP
      have Kw:=Lib.hid DZ
      clear h1 pB ak eg aN aU kj AP DZ ej bZ oH yb ya
      obtain⟨rr,we,r1⟩:=cV.out wr ul.out.fL
      obtain⟨nz,wg,_⟩:=dt.out wr ul.out.fL
      obtain⟨sn,_⟩:=gM.out wr ul.out.fL
      have vM:Hid (gC w (wr.setCell ⟨c,o+j*5,none⟩ (.int .i64 y)) S (P++[(c,o+j*5,false)]) k):=ul.out.snoc rr (r1 y) oA.out.left.left.left.left (by rw[uw.out];rfl)
      have vN:Hid (gC w ((wr.setCell ⟨c,o+j*5,none⟩ (.int .i64 y)).setCell ⟨c,o+j*5+1,none⟩ (.bool ((y+1)%3==0))) S (P++[(c,o+j*5,false)]++[(c,o+j*5+1,true)]) k):=by
        obtain⟨g0,g1,r2⟩:=dt.out _ vM.out.fL
        exact vM.out.snoc g0 (r2 _) oA.out.left.left.left (by rw[xT.out];rfl)
      obtain⟨hJ,rr⟩:=rr
      obtain⟨hL,nz⟩:=nz
      clear r1
      go_wp2_with (go_at_call 61;refine(acj _ S fP _ _ (gM.out _ vN.out.fL).2 oA.out.left.left.right nj.out.1 nj.out.2).mono ?_)
      rw[xN.out]
      first
      | (rintro e bq rfl hb)
      | (rintro e bq ⟨rfl,hb⟩)
      have uu:Hid (gC w bq S (P++[(c,o+j*5,false)]++[(c,o+j*5+1,true)]++fP) k):=vN.out.bY hb oA.out.left.left KJ.out.symm
      clear hb rr we nz wg sn
      obtain⟨Ec,_⟩:=vH.out bq uu.out.fL
      go_wp2_with (go_at_call 62;refine(apZ _ S mf _ _ (vH.out _ uu.out.fL).2 oA.out.left.right vJ.out.1 vJ.out.2).mono ?_)
      rw[Kv.out]
      first
      | (rintro e bo rfl hb)
      | (rintro e bo ⟨rfl,hb⟩)
      have zZ:Hid (gC w bo S (P++[(c,o+j*5,false)]++[(c,o+j*5+1,true)]++fP++mf) k):=uu.out.bY hb oA.out.left KK.out.symm
      clear hb Ec
      obtain⟨HU,_⟩:=vI.out bo zZ.out.fL
      go_wp2_with (go_at_call 63;refine(apY _ S nk _ _ (vI.out _ zZ.out.fL).2 oA.out.right vK.out.1 vK.out.2).mono ?_)
      rw[Kw.out]
      first
      | (rintro e bK rfl hb)
      | (rintro e bK ⟨rfl,hb⟩)
      have Kz:Hid (gC w bK S (P++[(c,o+j*5,false)]++[(c,o+j*5+1,true)]++fP++mf++nk) k):=zZ.out.bY hb oA.out KL.out.symm
      clear hb HU
      go_wp2
      go_roundw
      case rel=>exact⟨j+1,by omega,by go_num,by rw[qg.out,ux.out],by rw[qg.out];exact Kz.out⟩
      case measure=>simp[intOf];omega
    · have e:j=n:=by omega
      subst e
      go_wp2
      go_ret
      exact⟨rfl,ej.out⟩
theorem UY:F6 Tryz.prog 27 (.l .done):=fun w S L v k h D0 aA h1=>by
  obtain⟨A,n,cap,rfl⟩:=h.nE
  obtain⟨oK,c,o,Ls,cm,rfl,au,hi,hb⟩:=h.elem
  have H1:Hid (k+((bY (fun i=>bY (Ls i) 5) n).length:Nat)≤4611686018427387904):=h1
  have uk:Hid (e8 w (bY (fun i=>bY (Ls i) 5) n) k):=D0
  have jp:=Lib.hid cm;clear cm
  have cD:=Lib.hid au;clear au
  have oy:=Lib.hid hi;clear hi
  have xH:=Lib.hid hb;clear hb
  clear h h1 D0
  show Calls _ _ _ _ fun fV w'=>fV= .returned (.int .i64 (k+((bY (fun i=>bY (Ls i) 5) n).length:Nat)))∧Below w.heap.size w w'
  go_enter Tryz.func27,Tryz.ntmps27
  go_wp2
  go_loopw [1,5] (fun q i wr=> ∃j:Nat,j≤n∧i= .int .i64 j∧q= .int .i64 (k+((bY (fun i=>bY (Ls i) 5) j).length:Nat))∧Below w.heap.size w wr) (fun _ i _=>n - (intOf i).toNat)
  case atStart=>exact⟨0,Nat.zero_le _,rfl,by simp[bY],.refl _ _⟩
  case round=>
    obtain⟨j,ac,rfl,rfl,hm⟩:=hrel
    have ej:=Lib.hid hm;clear hm
    by_cases aQ:j<n
    · obtain rfl:=jp.out (by omega)
      obtain⟨eg,-⟩:=oy.out j 0 aQ rfl
      rw[show o+(j*(aX.bN .done).length+0)=o+j*5 from by show o+(j*5+0)=_;omega] at eg
      obtain⟨aN,-⟩:=xH.out j 1 aQ rfl
      rw[show o+(j*(aX.bN .done).length+1)=o+j*5+1 from by show o+(j*5+1)=_;omega] at aN
      obtain⟨bM,n2,bu,iX⟩:=cD.out j 2 .bool aQ rfl
      rw[show o+(j*(aX.bN .done).length+2)=o+j*5+2 from by show o+(j*5+2)=_;omega] at iX
      obtain⟨J6,nC,ke,qw⟩:=cD.out j 3 .e0 aQ rfl
      rw[show o+(j*(aX.bN .done).length+3)=o+j*5+3 from by show o+(j*5+3)=_;omega] at qw
      obtain⟨J7,EI,mg,qx⟩:=cD.out j 4 .held aQ rfl
      rw[show o+(j*(aX.bN .done).length+4)=o+j*5+4 from by show o+(j*5+4)=_;omega] at qx
      have aO:bY (fun i=>bY (Ls i) 5) (j+1)=bY (fun i=>bY (Ls i) 5) j++([(c,o+j*5,false),(c,o+j*5+1,true)]++(Ls j 2++(Ls j 3++Ls j 4))):=by
        show _++(((((([]:dm)++Ls j 0)++Ls j 1)++Ls j 2)++Ls j 3)++Ls j 4)=_
        rw[eg,aN];simp only[List.append_assoc,List.nil_append,List.cons_append]
      obtain⟨P,bZ⟩: ∃P,bY (fun i=>bY (Ls i) 5) j=P:=⟨_,rfl⟩
      obtain⟨fP,oH⟩: ∃fP,Ls j 2=fP:=⟨_,rfl⟩
      obtain⟨mf,yb⟩: ∃mf,Ls j 3=mf:=⟨_,rfl⟩
      obtain⟨nk,ya⟩: ∃nk,Ls j 4=nk:=⟨_,rfl⟩
      obtain⟨r,ak⟩:=Dr (f:=fun i=>bY (Ls i) 5) (n:=n) (j:=j+1) (by omega)
      have h3:=uk.out
      have h1:k+((bY (fun i=>bY (Ls i) 5) n).length:Nat)≤4611686018427387904:=H1.out
      rw[bZ,oH,yb,ya] at aO
      rw[oH] at iX
      rw[yb] at qw
      rw[ya] at qx
      rw[ak,aO] at h3 h1
      have gM:=Lib.hid iX;clear iX
      have vH:=Lib.hid qw;clear qw
      have vI:=Lib.hid qx;clear qx
      have qg:=Lib.hid aO;clear aO
      obtain⟨y,aU⟩: ∃y:Int,k+(P.length:Nat)=y:=⟨_,rfl⟩
      obtain⟨bw,kj⟩: ∃bw:Nat,fP.length=bw:=⟨_,rfl⟩
      obtain⟨cX,AP⟩: ∃cX:Nat,mf.length=cX:=⟨_,rfl⟩
      obtain⟨eZ,DZ⟩: ∃eZ:Nat,nk.length=eZ:=⟨_,rfl⟩
      have h3:=(e8.qk.1 (e8.qk.1 h3).1).2
      rw[aU] at h3
      obtain⟨⟨d0,d1,-⟩,h3⟩:=e8.qk.1 h3
      obtain⟨d2,h3⟩:=e8.qk.1 h3
      obtain⟨d3,d4⟩:=e8.qk.1 h3
      rw[show(([(c,o+j*5,false),(c,o+j*5+1,true)]:dm).length:Nat)=2 from rfl] at d2 d3 d4
      rw[kj] at d3 d4
      rw[AP] at d4
      have pB:k+(P.length+2+fP.length+mf.length+nk.length:Nat)≤4611686018427387904:=by
        simp only[List.length_append,List.length_cons,List.length_nil] at h1
        omega
      have H0:0≤y:=by omega
      have yx:y+bw+cX+eZ+2≤4611686018427387904:=by omega
      have iZ:=x1 d0
      have fA:w.cell? ⟨c,o+j*5,none⟩=some (.int .i64 y):=d0
      have c5:w.cell? ⟨c,o+j*5+1,none⟩=some (.bool ((y+1)%3==0)):=d1
      have iw:Hid (e8 w fP (y+1+1)):=by rw[show y+((2:Nat):Int)=y+1+1 by omega] at d2;exact d2
      have ac9:Hid (e8 w mf (y+1+1+bw)):=by rw[show y+((2:Nat):Int)=y+1+1 by omega] at d3;exact d3
      have ac_:Hid (e8 w nk (y+1+1+bw+cX)):=by rw[show y+((2:Nat):Int)=y+1+1 by omega] at d4;exact d4
      have ux:Hid (k+((P++([(c,o+j*5,false),(c,o+j*5+1,true)]++(fP++(mf++nk)))).length:Nat)=y+1+1+bw+cX+eZ):=by
        unfold Hid;simp only[List.length_append,List.length_cons,List.length_nil];omega
      rw[bZ,aU]
      have nj:Hid (0≤y+1+1∧y+1+1+(fP.length:Nat)≤4611686018427387904):=by unfold Hid;omega
      have vJ:Hid (0≤y+1+1+bw∧y+1+1+bw+(mf.length:Nat)≤4611686018427387904):=by unfold Hid;omega
      have vK:Hid (0≤y+1+1+bw+cX∧y+1+1+bw+cX+(nk.length:Nat)≤4611686018427387904):=by unfold Hid;omega
      have xN:=Lib.hid kj
      have Kv:=Lib.hid AP
      have Kw:=Lib.hid DZ
      have Kf:=Lib.hid iZ
      have cG:wr.cell? ⟨c,o+j*5,none⟩=some (.int .i64 y):=by simp only[World.cell?,ej.out.block c iZ];exact fA
      have q1:wr.cell? ⟨c,o+j*5+1,none⟩=some (.bool ((y+1)%3==0)):=by simp only[World.cell?,ej.out.block c iZ];exact c5
      obtain⟨q2,_⟩:=gM.out wr (dY.below ej.out)
      have g1:decide (y+1+1+(bw:Int)<0)=false:=decide_eq_false (by omega)
      have g2:decide (y+1+1+(bw:Int)+(cX:Int)<0)=false:=decide_eq_false (by omega)
      have g3:decide (y+1+1+(bw:Int)+(cX:Int)+(eZ:Int)<0)=false:=decide_eq_false (by omega)
      clear h1 pB ak eg aN aU kj AP DZ bZ oH yb ya fA c5 d0 d1 d2 d3 d4 h3 iZ
      go_wp2_with (go_at_call 74;refine(UX _ S fP _ _ (gM.out _ (dY.below ej.out)).2 (iw.out.cT fun x hx ⟨u,hu⟩=>by simp only[World.cell?,ej.out.block _ (x1 hu)]) nj.out.1 nj.out.2).mono ?_)
      rw[xN.out]
      first
      | (rintro e bq rfl hb)
      | (rintro e bq ⟨rfl,hb⟩)
      have um:=Lib.hid (ej.out.trans (hb.mono ej.out.size));clear hb cG q1 q2
      obtain⟨q3,_⟩:=vH.out bq (dY.below um.out)
      go_wp2_with (go_at_call 75;refine(ahA _ S mf _ _ (vH.out _ (dY.below um.out)).2 (ac9.out.cT fun x hx ⟨u,hu⟩=>by simp only[World.cell?,um.out.block _ (x1 hu)]) vJ.out.1 vJ.out.2).mono ?_)
      rw[Kv.out]
      first
      | (rintro e bo rfl hb)
      | (rintro e bo ⟨rfl,hb⟩)
      have C5:=Lib.hid (um.out.trans (hb.mono um.out.size));clear hb q3
      obtain⟨q4,_⟩:=vI.out bo (dY.below C5.out)
      go_wp2_with (go_at_call 76;refine(ahz _ S nk _ _ (vI.out _ (dY.below C5.out)).2 (ac_.out.cT fun x hx ⟨u,hu⟩=>by simp only[World.cell?,C5.out.block _ (x1 hu)]) vK.out.1 vK.out.2).mono ?_)
      rw[Kw.out]
      first
      | (rintro e bK rfl hb)
      | (rintro e bK ⟨rfl,hb⟩)
      have adh:=Lib.hid (C5.out.trans (hb.mono C5.out.size));clear hb q4
      go_wp2
      go_roundw
      case rel=>exact⟨j+1,by omega,by go_num,by rw[qg.out,ux.out],adh.out⟩
      case measure=>simp[intOf];omega
    · have e:j=n:=by omega
      subst e
      go_wp2
      go_ret
      exact⟨rfl,ej.out⟩
theorem ame:zV Tryz.prog 25 (.l .fQ):=fun w S m v k h aA h1=>by
  obtain⟨A,n,cap,rfl⟩:=h.nE
  obtain⟨oK,c,o,cs,cm,rfl,au,hi,_⟩:=h.elem
  have HL: ∀i,i<n→cU (cs i) 3=3:=fun i eI=>by
    show 0+cs i 0+cs i 1+cs i 2=3
    rw[(hi i 0 eI rfl).1,(hi i 1 eI rfl).1,(hi i 2 eI rfl).1]
  have aO: ∀j,j≤n→cU (fun i=>cU (cs i) 3) j=3*j:=fun j=>by
    induction j with
    | zero=>intro _;rfl
    | succ j bp=>intro ac;show cU _ j+cU (cs j) 3=_;rw[bp (by omega),HL j (by omega)];omega
  have h1:k+(cU (fun i=>cU (cs i) 3) n:Nat)≤4611686018427387904:=h1
  show Calls _ _ _ _ fun fV w'=>fV= .returned (.int .i64 (k+(cU (fun i=>cU (cs i) 3) n:Nat)))∧dY S w w'
  rw[aO n (Nat.le_refl _)] at h1 ⊢
  have jp:=Lib.hid cm;clear cm
  have oy:=Lib.hid hi;clear hi
  clear h au HL aO
  go_enter Tryz.func25,Tryz.ntmps25
  go_wp2
  go_loopw [1,5] (fun q i wr=> ∃j:Nat,j≤n∧i= .int .i64 j∧q= .int .i64 (k+(3*j:Nat))∧dY S w wr) (fun _ i _=>n - (intOf i).toNat)
  case atStart=>exact⟨0,Nat.zero_le _,rfl,by simp,.refl _ _⟩
  case round=>
    obtain⟨j,ac,rfl,rfl,hm⟩:=hrel
    have ej:=Lib.hid hm;clear hm
    by_cases aQ:j<n
    · obtain rfl:=jp.out (by omega)
      obtain⟨_,cV⟩:=oy.out j 0 aQ rfl
      rw[show o+(j*(aX.bN .fQ).length+0)=o+j*3 from by show o+(j*3+0)=_;omega] at cV
      obtain⟨_,dt⟩:=oy.out j 1 aQ rfl
      rw[show o+(j*(aX.bN .fQ).length+1)=o+j*3+1 from by show o+(j*3+1)=_;omega] at dt
      obtain⟨_,fT⟩:=oy.out j 2 aQ rfl
      rw[show o+(j*(aX.bN .fQ).length+2)=o+j*3+2 from by show o+(j*3+2)=_;omega] at fT
      obtain⟨y,aU⟩: ∃y:Int,k+(3*j:Nat)=y:=⟨_,rfl⟩
      have H0:0≤y:=by omega
      have yx:y+3≤4611686018427387904:=by omega
      have ux:Hid (k+(3*(j+1):Nat)=y+1+1+1):=by unfold Hid;omega
      obtain⟨hJ,rr,we,r1⟩:=cV wr ej.out
      obtain⟨hL,nz,wg,_⟩:=dt wr ej.out
      obtain⟨iQ,sn,hf2,_⟩:=fT wr ej.out
      have vM:=r1 y
      obtain⟨_,_,_,r2⟩:=dt _ vM
      have vN:=r2 (y+1)
      obtain⟨_,_,_,xL⟩:=fT _ vN
      have uu:=Lib.hid (xL (y+1+1))
      rw[aU]
      clear cV dt fT r1 r2 xL vM vN aU
      go_wp2
      go_roundw
      case rel=>exact⟨j+1,by omega,by go_num,by rw[ux.out],uu.out⟩
      case measure=>simp[intOf];omega
    · have e:j=n:=by omega
      subst e
      go_wp2
      go_ret
      exact⟨rfl,ej.out⟩
open Go
theorem aoZ (a0:Frame) (ab:iu a0):bn Tryz.prog 67 [.agg (cq false a0)] (.agg (cq true (aV a0))):=
  bn.amu (F:=a0) (l:=[]) (QZ a0 ab) (by have:=ab.1;omega) (by have:=ab.2.1;omega) (by have:=ab.2.2.1;omega) fun h bt=>by have:=ab.2.2.2 h bt;omega
def ao0:dJ Tryz.prog:=⟨67,[.frame],[.frame],some fun x=>iu x.1,fun x=>((aV x.1),()),fun x h=>aoZ x.1 h⟩
end Go.Proofs.YtejmihecgodhnaaGreat.Fw
