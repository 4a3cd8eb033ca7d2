/- What the laws call, told of whole worlds. -/
import Derived.Test.YtejmihecgodhnaaGreatM6
set_option linter.unusedVariables false
namespace Go.Proofs.YtejmihecgodhnaaGreat.Fw
open Go Go.RowKit
theorem JF {p:aQ} {l:Int} (hk:gS p l) {w:World} {v:Value} (h:V2 (Env.at w) (.agg (bH false p)) v):
    Calls Tryz.prog 6 #[v,.int .i64 l] w fun e w'=>e= .returned (.int .i64 (sg p l))∧Below w.heap.size w w':=
  bf.int (vs:=[v,.int .i64 l]) (ai7 p l hk) (.cons h (.cons (aP.int _ _) .nil))
theorem Rw {p:Frame} {l:Int} (hk:gS p l) {w:World} {v:Value} (h:V2 (Env.at w) (.agg (b9 false p)) v):
    Calls Tryz.prog 7 #[v,.int .i64 l] w fun e w'=>e= .returned (.int .i64 (u5 p l))∧Below w.heap.size w w':=
  bf.int (vs:=[v,.int .i64 l]) (aiZ p l hk) (.cons h (.cons (aP.int _ _) .nil))
theorem Ix {p:aQ} {w:World} {B:Nat→Prop} {v:Value} (h:et w B (.agg (bH false p)) v): ∃bL bo bG bk bF bg,v= .agg #[.int .i64 p.ao,.slice bL p.a_.length bo,.slice bG p.O.length bk,.slice bF p.bu.length bg,.int .i64 p.cv]∧
    aP w B (fun _=>False) (.aZ (p.a_.map cB) false false) (.slice bL p.a_.length bo)∧aP w B (fun _=>False) (.aZ (p.O.map (dS false)) false false) (.slice bG p.O.length bk)∧aP w B (fun _=>False) (.aZ (p.bu.map (gO aT false)) false false) (.slice bF p.bu.length bg):=by
  obtain⟨vs,rfl,ab⟩:=(show ∃vs:List Value,v= .agg vs.toArray∧ak (b4 (Env.ro w B)) (bH false p) vs from h)
  obtain⟨a,vs,rfl,ar,ab⟩:=ab.cons_inv
  obtain⟨b,vs,rfl,hb,ab⟩:=ab.cons_inv
  obtain⟨c,vs,rfl,hc,ab⟩:=ab.cons_inv
  obtain⟨d,vs,rfl,aW,ab⟩:=ab.cons_inv
  obtain⟨e,vs,rfl,he,ab⟩:=ab.cons_inv
  obtain rfl:=ab.n8
  have ar:aP w _ _ (.int .i64 p.ao) a:=ar
  have he:aP w _ _ (.int .i64 p.cv) e:=he
  cases ar;cases he
  obtain⟨bL,bo,rfl,ep⟩:=u7 (lP hb)
  obtain⟨bG,bk,rfl,cP⟩:=u7 (lP hc)
  obtain⟨bF,bg,rfl,dd⟩:=u7 (lP aW)
  rw[List.length_map] at ep cP dd
  exact⟨bL,bo,bG,bk,bF,bg,by simp,ep,cP,dd⟩
theorem Iw {p:Frame} {w:World} {B:Nat→Prop} {v:Value} (h:et w B (.agg (b9 false p)) v): ∃bL bo bG bk bF bg,v= .agg #[.bool p.ok,.slice bL p.aB.length bo,.slice bG p.au.length bk,.slice bF p.O.length bg]∧
    aP w B (fun _=>False) (.aZ (p.aB.map aT) false false) (.slice bL p.aB.length bo)∧aP w B (fun _=>False) (.aZ (p.au.map bh) false false) (.slice bG p.au.length bk)∧aP w B (fun _=>False) (.aZ (p.O.map (e3 false)) false false) (.slice bF p.O.length bg):=by
  obtain⟨vs,rfl,ab⟩:=(show ∃vs:List Value,v= .agg vs.toArray∧ak (b4 (Env.ro w B)) (b9 false p) vs from h)
  obtain⟨a,vs,rfl,ar,ab⟩:=ab.cons_inv
  obtain⟨b,vs,rfl,hb,ab⟩:=ab.cons_inv
  obtain⟨c,vs,rfl,hc,ab⟩:=ab.cons_inv
  obtain⟨d,vs,rfl,aW,ab⟩:=ab.cons_inv
  obtain rfl:=ab.n8
  have ar:aP w _ _ (.bool p.ok) a:=ar
  cases ar
  obtain⟨bL,bo,rfl,ep⟩:=u7 (lP hb)
  obtain⟨bG,bk,rfl,cP⟩:=u7 (lP hc)
  obtain⟨bF,bg,rfl,dd⟩:=u7 (lP aW)
  rw[List.length_map] at ep cP dd
  exact⟨bL,bo,bG,bk,bF,bg,by simp,ep,cP,dd⟩
theorem FE {p:aQ} (ab:OF p) {w:World} {v:Value} (h:V2 (Env.at w) (.agg (bH false p)) v):
    Calls Tryz.prog 9 #[v] w fun e w'=> ∃bL bo bG bk bF bg,e= .returned (.agg #[.int .i64 p.ao,.slice bL p.a_.length bo,.slice bG p.O.length bk,.slice bF p.bu.length bg,.int .i64 p.cv])∧Below w.heap.size w w'∧
      et w' (fG w w') (.agg (bH false p)) (.agg #[.int .i64 p.ao,.slice bL p.a_.length bo,.slice bG p.O.length bk,.slice bF p.bu.length bg,.int .i64 p.cv]):=
  (bf.BZ (e:= .eL) (x:=p) (vs:=[v]) (aju p ab) (.cons h .nil)).mono fun e w' ⟨eM,h1,h2,aD⟩=>by
    obtain⟨bL,bo,bG,bk,bF,bg,rfl,_⟩:=Ix aD
    exact⟨bL,bo,bG,bk,bF,bg,h1,h2,aD⟩
theorem FD {p:Frame} (ab:H3 p) {w:World} {v:Value} (h:V2 (Env.at w) (.agg (b9 false p)) v):
    Calls Tryz.prog 10 #[v] w fun e w'=> ∃bL bo bG bk bF bg,e= .returned (.agg #[.bool p.ok,.slice bL p.aB.length bo,.slice bG p.au.length bk,.slice bF p.O.length bg])∧Below w.heap.size w w'∧
      et w' (fG w w') (.agg (b9 false p)) (.agg #[.bool p.ok,.slice bL p.aB.length bo,.slice bG p.au.length bk,.slice bF p.O.length bg]):=
  (bf.BZ (e:= .frame) (x:=p) (vs:=[v]) (aji p ab) (.cons h .nil)).mono fun e w' ⟨eM,h1,h2,aD⟩=>by
    obtain⟨bL,bo,bG,bk,bF,bg,rfl,_⟩:=Iw aD
    exact⟨bL,bo,bG,bk,bF,bg,h1,h2,aD⟩
theorem acy {p:aQ} {w:World} {v u:Value} (h:V2 (Env.at w) (.agg (bH false p)) v) (k:V2 (Env.at w) (.agg (bH false p)) u):
    Calls Tryz.prog 13 #[v,u] w fun e w'=>e= .returned (.bool true)∧Below w.heap.size w w':=by
  have:=bf.bool (vs:=[v,u]) (aiJ p p) (.cons h (.cons k .nil))
  unfold eqv at this
  rw[decide_eq_true rfl] at this
  exact this
theorem acx {p:Frame} {w:World} {v u:Value} (h:V2 (Env.at w) (.agg (b9 false p)) v) (k:V2 (Env.at w) (.agg (b9 false p)) u):
    Calls Tryz.prog 14 #[v,u] w fun e w'=>e= .returned (.bool true)∧Below w.heap.size w w':=by
  have:=bf.bool (vs:=[v,u]) (Vt p p) (.cons h (.cons k .nil))
  unfold eqv at this
  rw[decide_eq_true rfl] at this
  exact this
def vZ (p:aQ):Nat:=p.a_.length+(p.O.map yp).sum+(p.bu.map List.length).sum
def vY (f:Frame):Nat:=f.aB.length+f.au.length*2+(f.O.map yo).sum
theorem acE {p:aQ} {w:World} {B:Nat→Prop} {v:Value} {k:Int} (h:et w B (.agg (bH false p)) v) (dq: ∀c,B c→Plain w c) (aA:0≤k) (h1:k+vZ p≤4611686018427387904):
    Calls Tryz.prog 15 #[v,.int .i64 k] w fun e w'=>e= .returned (.int .i64 (k+(vZ p:Nat)))∧dC B w w':=by
  obtain⟨bL,bo,bG,bk,bF,bg,rfl,ep,cP,dd⟩:=Ix h
  have hb: ∀c,B c→B c∧Plain w c:=fun c hc=>⟨hc,dq c hc⟩
  refine(ako w B p.ao p.cv bL bG bF _ _ _ _ _ _ _ _ _ k (G_ ep hb (fun _ h=>h.elim)) (aie cP hb (fun _ h=>h.elim)) (aib dd hb (fun _ h=>h.elim)) aA (by unfold vZ at h1;omega)).mono ?_
  rintro e w' ⟨rfl,hk⟩
  exact⟨by congr 2;unfold vZ;omega,hk⟩
theorem acC {p:Frame} {w:World} {B:Nat→Prop} {v:Value} {k:Int} (h:et w B (.agg (b9 false p)) v) (dq: ∀c,B c→Plain w c) (aA:0≤k) (h1:k+vY p≤4611686018427387904):
    Calls Tryz.prog 16 #[v,.int .i64 k] w fun e w'=>e= .returned (.int .i64 (k+(vY p:Nat)))∧dC B w w':=by
  obtain⟨bL,bo,bG,bk,bF,bg,rfl,ep,cP,dd⟩:=Iw h
  have hb: ∀c,B c→B c∧Plain w c:=fun c hc=>⟨hc,dq c hc⟩
  refine(akm w B p.ok bL bG bF _ _ _ _ _ _ _ _ _ k (M7 ep hb (fun _ h=>h.elim)) (aid cP hb (fun _ h=>h.elim)) (aic dd hb (fun _ h=>h.elim)) aA (by unfold vY at h1;omega)).mono ?_
  rintro e w' ⟨rfl,hk⟩
  exact⟨by congr 2;unfold vY;omega,hk⟩
theorem aam {α:Type} {f g:α→Nat} (c:Nat) (h: ∀x,f x≤c*g x): ∀xs:List α,(xs.map f).sum≤c*(xs.map g).sum
  | []=>by simp
  | x::r=>by
    rw[List.map_cons,List.map_cons,List.sum_cons,List.sum_cons,Nat.mul_add]
    have:=h x
    have:=aam c h r
    omega
theorem akw (p:aQ):vZ p≤2*mo p:=by
  unfold vZ mo Ci xb
  have:=aam (f:=yp) (g:=u_) 2 (fun x=>by unfold yp u_;omega) p.O
  omega
theorem aku (f:Frame):vY f≤4*rG f:=by
  unfold vY rG xE
  have h1:(f.O.map yo).sum≤4*f.O.length+(f.O.map fun h=>h.ae.length).sum:=by
    generalize f.O=l
    induction l with
    | nil=>simp
    | cons x r bz=>rw[List.map_cons,List.map_cons,List.sum_cons,List.sum_cons,List.length_cons];unfold yo at bz ⊢;omega
  omega
theorem vi {w:World} {b:Nat} {bo bk bg ic:Value} {ty:TypeId} (h:w.heap[b]?=some (.cells #[bo,bk,bg,ic] ty (0,0))):w.cell? ⟨b,0,none⟩=some bo∧w.cell? ⟨b,1,none⟩=some bk∧w.cell? ⟨b,2,none⟩=some bg∧w.cell? ⟨b,3,none⟩=some ic:=by
  refine⟨?_,?_,?_,?_⟩<;>simp[World.cell?,h]
theorem kx {w:World} {b:Nat} {bo bk bg ic lR:Value} {ty:TypeId} (h:w.heap[b]?=some (.cells #[bo,bk,bg,ic,lR] ty (0,0))):w.cell? ⟨b,0,none⟩=some bo∧w.cell? ⟨b,1,none⟩=some bk∧w.cell? ⟨b,2,none⟩=some bg∧w.cell? ⟨b,3,none⟩=some ic∧w.cell? ⟨b,4,none⟩=some lR:=by
  refine⟨?_,?_,?_,?_,?_⟩<;>simp[World.cell?,h]
theorem A0 {aL w:World} {a:AV} {v:Value} (h:et w (fG aL w) a v):V2 (Env.at w) a v:=h.at fun c hc=>hc.2.1
theorem Yt {W w:World} {l:List fF} (h:b8 W w l) (i j:Nat) {b bU:Nat} {bo bk bg ic lR f0 f1 f2 f3 f4:Value} {t iU:TypeId} (e:l[i]?=some (dm b #[bo,bk,bg,ic,lR] t):=by rfl) (bZ:l[j]?=some (dm bU #[f0,f1,f2,f3,f4] iU):=by rfl):
    b8 W w l∧w.cell? ⟨b,0,none⟩=some bo∧w.cell? ⟨b,1,none⟩=some bk∧w.cell? ⟨b,2,none⟩=some bg∧w.cell? ⟨b,3,none⟩=some ic∧w.cell? ⟨b,4,none⟩=some lR∧w.cell? ⟨bU,0,none⟩=some f0∧w.cell? ⟨bU,1,none⟩=some f1∧w.cell? ⟨bU,2,none⟩=some f2∧w.cell? ⟨bU,3,none⟩=some f3∧w.cell? ⟨bU,4,none⟩=some f4:=by
  obtain⟨a0,J,a2,a3,a4⟩:=kx (h.get i e)
  obtain⟨b0,b1,b2,xa,Jh⟩:=kx (h.get j bZ)
  exact⟨h,a0,J,a2,a3,a4,b0,b1,b2,xa,Jh⟩
theorem Ys {W w:World} {l:List fF} (h:b8 W w l) (i j:Nat) {b bU:Nat} {bo bk bg ic f0 f1 f2 f3:Value} {t iU:TypeId} (e:l[i]?=some (dm b #[bo,bk,bg,ic] t):=by rfl) (bZ:l[j]?=some (dm bU #[f0,f1,f2,f3] iU):=by rfl):
    b8 W w l∧w.cell? ⟨b,0,none⟩=some bo∧w.cell? ⟨b,1,none⟩=some bk∧w.cell? ⟨b,2,none⟩=some bg∧w.cell? ⟨b,3,none⟩=some ic∧w.cell? ⟨bU,0,none⟩=some f0∧w.cell? ⟨bU,1,none⟩=some f1∧w.cell? ⟨bU,2,none⟩=some f2∧w.cell? ⟨bU,3,none⟩=some f3:=by
  obtain⟨a0,J,a2,a3⟩:=vi (h.get i e)
  obtain⟨b0,b1,b2,xa⟩:=vi (h.get j bZ)
  exact⟨h,a0,J,a2,a3,b0,b1,b2,xa⟩
open Go
abbrev dJ:=List (Nat×Nat×Bool)
def dv (f:Nat→dJ):Nat→dJ
 | 0=>[]
 | n+1=>dv f n++f n
theorem Jv {f:Nat→dJ}: ∀{n j:Nat},j≤n→ ∃r,dv f n=dv f j++r
 | 0,j,h=>⟨[],by obtain rfl:j=0:=by omega
                 rfl⟩
 | n+1,j,h=>by
  by_cases e:j=n+1
  ·subst e;exact⟨[],(List.append_nil _).symm⟩
  ·obtain⟨r,aj⟩:=Jv (f:=f) (n:=n) (j:=j) (by omega)
   exact⟨r++f n,by rw[←List.append_assoc,←aj];rfl⟩
def vX:Bool→Int→Value
 | true,k=> .bool (k%3==0)
 | false,k=> .int .i64 k
def lf (L:dJ):Prop:=L.Pairwise fun x y=> ¬(x.1=y.1∧x.2.1=y.2.1)
def ft (w:World):dJ→Int→Prop
 | [],_=>True
 | x::L,k=>w.cell? ⟨x.1,x.2.1,none⟩=some (vX x.2.2 k)∧ft w L (k+1)
theorem ft.sx {w:World} {M:dJ}: ∀{L:dJ} {k:Int},ft w (L++M) k↔ft w L k∧ft w M (k+(L.length:Nat))
 | [],k=>by simp[ft]
 | x::L,k=>by
  show(_∧ft w (L++M) (k+1))↔(_∧ft w L (k+1))∧_
  rw[ft.sx (L:=L),and_assoc,show k+1+(L.length:Nat)=k+((x::L).length:Nat) by simp;omega]
theorem ft.cZ {w w':World}: ∀{L:dJ} {k:Int},ft w L k→(∀x∈L,(∃u,w.cell? ⟨x.1,x.2.1,none⟩=some u)→w'.cell? ⟨x.1,x.2.1,none⟩=w.cell? ⟨x.1,x.2.1,none⟩)→ft w' L k
 | [],k,_,_=>trivial
 | x::L,k,h,hk=>⟨(hk x (List.mem_cons_self ..) ⟨_,h.1⟩).trans h.1,ft.cZ h.2 fun y aX=>hk y (List.mem_cons_of_mem _ aX)⟩
theorem ft.here {w:World}: ∀{L:dJ} {k:Int},ft w L k→ ∀x∈L,∃u,w.cell? ⟨x.1,x.2.1,none⟩=some u
 | x::L,k,h,y,aX=>by
  rcases List.mem_cons.1 aX with rfl | aX
  ·exact⟨_,h.1⟩
  ·exact ft.here h.2 y aX
theorem CN {w:World} {b o:Nat} {u:Value} (h:w.cell? ⟨b,o,none⟩=some u):b<w.heap.size:=by
 rcases Nat.lt_or_ge b w.heap.size with h' | h'
 ·exact h'
 ·simp[World.cell?,Array.getElem?_eq_none h'] at h
inductive eD (w:World) (S:Nat→Prop):aR→Nat→Nat→dJ→Value→Prop where
 | int (c o:Nat) (n:Int):eD w S .int c o [(c,o,false)] (.int .i64 n)
 | bool (c o:Nat) (b:Bool):eD w S .bool c o [(c,o,true)] (.bool b)
 | aZ {e:aR} {a b n cap:Nat} {A:Option Addr} {Ls:Nat→Nat→dJ} {vs:Nat→Nat→Value} (c o:Nat) (h1:n≤cap∧n≤4611686018427387904)
   (hc:0<n→ ∃al ty,A=some ⟨c,o,none⟩∧S c∧w.heap[c]?=some (.cells al ty (0,0))∧ ∀i j,i<n→j<e.bV.length→al[o+(i*e.bV.length+j)]?=some (vs i j))
   (aj: ∀i j bZ,i<n→e.bV[j]?=some bZ→eD w S bZ c (o+(i*e.bV.length+j)) (Ls i j) (vs i j)):eD w S (.l e) a b (dv (fun i=>dv (Ls i) e.bV.length) n) (.slice A n cap)
theorem eD.n9 {w:World} {S:Nat→Prop} {e:aR} {a b:Nat} {L:dJ} {v:Value} (h:eD w S (.l e) a b L v): ∃A n cap,v= .slice A n cap:=by cases h;exact⟨_,_,_,rfl⟩
theorem eD.of_int {w:World} {S:Nat→Prop} {a b:Nat} {L:dJ} {v:Value} (h:eD w S .int a b L v):L=[(a,b,false)]∧ ∃n,v= .int .i64 n:=by cases h;exact⟨rfl,_,rfl⟩
theorem eD.of_bool {w:World} {S:Nat→Prop} {a b:Nat} {L:dJ} {v:Value} (h:eD w S .bool a b L v):L=[(a,b,true)]∧ ∃n,v= .bool n:=by cases h;exact⟨rfl,_,rfl⟩
theorem eD.qi {w:World} {S:Nat→Prop} {e:aR} {a b:Nat} {L:dJ} {n:Int} (h:eD w S e a b L (.int .i64 n)):e= .int∧L=[(a,b,false)]:=by cases h;exact⟨rfl,rfl⟩
theorem eD.p2 {w:World} {S:Nat→Prop} {e:aR} {a b:Nat} {L:dJ} {n:Bool} (h:eD w S e a b L (.bool n)):e= .bool∧L=[(a,b,true)]:=by cases h;exact⟨rfl,rfl⟩
theorem eD.X8 {w:World} {S:Nat→Prop} {e:aR} {a b:Nat} {L:dJ} {v:Value} (h:eD w S (.l e) a b L v) (hL bU:Nat):eD w S (.l e) hL bU L v:=by
 cases h with
 | aZ c o h1 hc aj=>exact .aZ c o h1 hc aj
theorem eD.zero {w:World} {S:Nat→Prop} {e:aR} {a b cap:Nat} {A:Option Addr} {L:dJ} (h:eD w S (.l e) a b L (.slice A 0 cap)):L=[]:=by
 cases h;rfl
theorem eD.cZ {w w':World} {S S':Nat→Prop} (hk: ∀c,S c→w'.heap[c]?=w.heap[c]?) (hs: ∀c,S c→S' c) {e:aR} {a b:Nat} {L:dJ} {v:Value} (h:eD w S e a b L v):eD w' S' e a b L v:=by
 induction h with
 | int c o n=>exact .int c o n
 | bool c o b=>exact .bool c o b
 | aZ c o h1 hc aj bz=>
  refine .aZ c o h1 (fun af=> ?_) bz
  obtain⟨al,ty,q1,q2,q3,q4⟩:=hc af
  exact⟨al,ty,q1,hs c q2,(hk c q2).trans q3,q4⟩
theorem eD.e8 {w w':World} {S S':Nat→Prop} (hw:dC S' w w') {e:aR} {a b:Nat} {L:dJ} {v:Value} (h:eD w S e a b L v):eD w' S e a b L v:=by
 induction h with
 | int c o n=>exact .int c o n
 | bool c o b=>exact .bool c o b
 | @aZ e a b n cap A Ls vs c o h1 hc aj bz=>
  by_cases af:0<n
  ·obtain⟨al,ty,cu,ds,bw,hv⟩:=hc af
   obtain⟨b3,q1,q2,q3⟩:=hw.at bw
   have key: ∀i j,i<n→j<e.bV.length→ ∃u,b3[o+(i*e.bV.length+j)]?=some u:=fun i j hi ah=>by
    rcases q3 (o+(i*e.bV.length+j)) with q | ⟨_,_,_,q⟩ | ⟨_,_,_,q⟩
    ·exact⟨_,q.trans (hv i j hi ah)⟩
    ·exact⟨_,q⟩
    ·exact⟨_,q⟩
   refine .aZ (vs:=fun i j=>(b3[o+(i*e.bV.length+j)]?).getD undef) c o h1 (fun _=>⟨b3,ty,cu,ds,q1,fun i j hi ah=> ?_⟩) fun i j bZ hi ah=> ?_
   ·obtain⟨u,hu⟩:=key i j hi ah
    rw[hu];rfl
   ·have lX:j<e.bV.length:=(List.getElem?_eq_some_iff.1 ah).1
    have hk:=aj i j bZ hi ah
    have sY:=hv i j hi lX
    show eD w' S bZ c _ (Ls i j) ((b3[o+(i*e.bV.length+j)]?).getD undef)
    rcases q3 (o+(i*e.bV.length+j)) with q | ⟨x,y,jE,m0⟩ | ⟨x,y,jE,m0⟩
    ·rw[q,sY];exact bz i j bZ hi ah
    ·rw[sY] at jE
     rw[Option.some.inj jE] at hk
     obtain⟨rfl,hm⟩:=hk.qi
     rw[m0,hm];exact .int _ _ y
    ·rw[sY] at jE
     rw[Option.some.inj jE] at hk
     obtain⟨rfl,hm⟩:=hk.p2
     rw[m0,hm];exact .bool _ _ y
  ·exact .aZ (vs:=vs) c o h1 (fun h=>absurd h af) fun i j bZ hi _=>absurd (Nat.lt_of_le_of_lt (Nat.zero_le _) hi) af
theorem eD.elem {w:World} {S:Nat→Prop} {e:aR} {a b n cap:Nat} {A:Option Addr} {L:dJ} (h:eD w S (.l e) a b L (.slice A n cap)):
  n≤4611686018427387904∧ ∃(c o:Nat) (Ls:Nat→Nat→dJ),(0<n→A=some ⟨c,o,none⟩)∧L=dv (fun i=>dv (Ls i) e.bV.length) n∧
   (∀i j bZ,i<n→e.bV[j]?=some (.l bZ)→ ∃A' kJ ox,∀wr,dC S w wr→wr.cell? ⟨c,o+(i*e.bV.length+j),none⟩=some (.slice A' kJ ox)∧eD wr S (.l bZ) 0 0 (Ls i j) (.slice A' kJ ox))∧
   (∀i j,i<n→e.bV[j]?=some .int→Ls i j=[(c,o+(i*e.bV.length+j),false)]∧ ∀wr,dC S w wr→(∃u,wr.cell? ⟨c,o+(i*e.bV.length+j),none⟩=some u)∧wr.frozen? ⟨c,o+(i*e.bV.length+j),none⟩=false∧ ∀x,dC S w (wr.setCell ⟨c,o+(i*e.bV.length+j),none⟩ (.int .i64 x)))∧
   ∀i j,i<n→e.bV[j]?=some .bool→Ls i j=[(c,o+(i*e.bV.length+j),true)]∧ ∀wr,dC S w wr→(∃u,wr.cell? ⟨c,o+(i*e.bV.length+j),none⟩=some u)∧wr.frozen? ⟨c,o+(i*e.bV.length+j),none⟩=false∧ ∀x,dC S w (wr.setCell ⟨c,o+(i*e.bV.length+j),none⟩ (.bool x)):=by
 cases h with
 | @aZ _ _ _ _ _ _ Ls vs c o h1 hc aj=>
 refine⟨h1.2,c,o,Ls,fun af=> ?_,rfl,fun i j bZ hi ah=> ?_,fun i j hi ah=> ?_,fun i j hi ah=> ?_⟩
 ·obtain⟨al,ty,cu,_⟩:=hc af
  exact cu
 ·obtain⟨al,ty,cu,ds,bw,hv⟩:=hc (by omega)
  have hk:=aj i j _ hi ah
  have hu:=hv i j hi (List.getElem?_eq_some_iff.1 ah).1
  obtain⟨A',kJ,ox,aG⟩:=hk.n9
  rw[aG] at hk hu
  exact⟨A',kJ,ox,fun wr hw=>⟨hw.head bw hu,(hk.e8 hw).X8 0 0⟩⟩
 ·obtain⟨al,ty,cu,ds,bw,hv⟩:=hc (by omega)
  have hk:=aj i j _ hi ah
  have hu:=hv i j hi (List.getElem?_eq_some_iff.1 ah).1
  obtain⟨h1,aF,aG⟩:=hk.of_int
  refine⟨h1,fun wr hw=> ?_⟩
  obtain⟨b3,q1,q2,q3⟩:=hw.at bw
  have U:=q3 (o+(i*e.bV.length+j))
  rw[hu,aG] at U
  have hs: ∃y,b3[o+(i*e.bV.length+j)]?=some (.int .i64 y):=by
   rcases U with q | ⟨_,y,_,q⟩ | ⟨_,_,q,_⟩
   ·exact⟨_,q⟩
   ·exact⟨_,q⟩
   ·cases q
  obtain⟨y,aX⟩:=hs
  exact⟨⟨_,by simp only[World.cell?,q1];exact aX⟩,by simp[World.frozen?,q1],fun x=>hw.trans (dC.setCell q1 ds (by rw[aX];exact .inr (.inl ⟨_,_,rfl,rfl⟩)))⟩
 ·obtain⟨al,ty,cu,ds,bw,hv⟩:=hc (by omega)
  have hk:=aj i j _ hi ah
  have hu:=hv i j hi (List.getElem?_eq_some_iff.1 ah).1
  obtain⟨h1,aF,aG⟩:=hk.of_bool
  refine⟨h1,fun wr hw=> ?_⟩
  obtain⟨b3,q1,q2,q3⟩:=hw.at bw
  have U:=q3 (o+(i*e.bV.length+j))
  rw[hu,aG] at U
  have hs: ∃y,b3[o+(i*e.bV.length+j)]?=some (.bool y):=by
   rcases U with q | ⟨_,_,q,_⟩ | ⟨_,y,_,q⟩
   ·exact⟨_,q⟩
   ·cases q
   ·exact⟨_,q⟩
  obtain⟨y,aX⟩:=hs
  exact⟨⟨_,by simp only[World.cell?,q1];exact aX⟩,by simp[World.frozen?,q1],fun x=>hw.trans (dC.setCell q1 ds (by rw[aX];exact .inr (.inr ⟨_,_,rfl,rfl⟩)))⟩
structure hR (w w':World) (S:Nat→Prop) (L:dJ) (k:Int):Prop where
 e8:dC S w w'
 wb: ∀c o,c<w.heap.size→(∀x∈L,¬(x.1=c∧x.2.1=o))→w'.cell? ⟨c,o,none⟩=w.cell? ⟨c,o,none⟩
 r1:ft w' L k
theorem hR.nil (w:World) (S:Nat→Prop) (k:Int):hR w w S [] k:=⟨.refl _ _,fun _ _ _ _=>rfl,trivial⟩
theorem lf.left {L M:dJ} (h:lf (L++M)):lf L:=(List.pairwise_append.1 h).1
theorem lf.right {L M:dJ} (h:lf (L++M)):lf M:=(List.pairwise_append.1 h).2.1
theorem hR.dv {w bn bK:World} {S:Nat→Prop} {L M:dJ} {k kH:Int} (h:hR w bn S L k) (g:hR bn bK S M kH) (iY:lf (L++M)) (e:kH=k+(L.length:Nat)):hR w bK S (L++M) k where
 e8:=h.e8.trans g.e8
 wb:=fun c o hc hx=>(g.wb c o (Nat.lt_of_lt_of_le hc h.e8.size) fun x hm=>hx x (List.mem_append.2 (.inr hm))).trans (h.wb c o hc fun x hm=>hx x (List.mem_append.2 (.inl hm)))
 r1:=by
  subst e
  refine ft.sx.2 ⟨h.r1.cZ fun x hx ⟨u,hu⟩=>g.wb _ _ (CN hu) fun y aX e=> ?_,g.r1⟩
  exact(List.pairwise_append.1 iY).2.2 x hx y aX ⟨e.1.symm,e.2.symm⟩
theorem Jw {w:World} {b o:Nat} {u v:Value} (h:w.cell? ⟨b,o,none⟩=some u):(w.setCell ⟨b,o,none⟩ v).cell? ⟨b,o,none⟩=some v:=by
 unfold World.cell? at h ⊢
 simp only at h ⊢
 cases hb:w.heap[b]? with
 | none=>rw[hb] at h;simp at h
 | some x=>
  rw[hb] at h
  cases x with
  | cells al ty Sw=>
   simp only at h
   have aw:=(Array.getElem?_eq_some_iff.1 h).1
   simp[World.setCell,Array.getElem?_modify,hb,aw]
  | _=>simp at h
theorem Jy {w:World} {b o c q:Nat} {v:Value} (h: ¬(b=c∧o=q)):(w.setCell ⟨b,o,none⟩ v).cell? ⟨c,q,none⟩=w.cell? ⟨c,q,none⟩:=by
 by_cases e:b=c
 ·subst e
  have e2:o≠q:=fun e=>h ⟨rfl,e⟩
  unfold World.cell?
  simp only[World.setCell,Array.getElem?_modify,if_pos]
  cases hb:w.heap[b]? with
  | none=>simp
  | some x=>cases x<;>simp[e2]
 ·unfold World.cell?
  rw[RowKit.Below.heap_setCell _ _ _ _ (fun bZ=>e bZ.symm)]
theorem hR.one {w:World} {S:Nat→Prop} {c o:Nat} {b:Bool} {v:Value} {k:Int} (hc: ∃u,w.cell? ⟨c,o,none⟩=some u) (hk:dC S w (w.setCell ⟨c,o,none⟩ v)) (hv:v=vX b k):hR w (w.setCell ⟨c,o,none⟩ v) S [(c,o,b)] k where
 e8:=hk
 wb:=fun ct ij _ hx=>Jy (hx _ (List.mem_singleton.2 rfl))
 r1:=by subst hv;obtain⟨u,hu⟩:=hc;exact⟨Jw hu,trivial⟩
theorem hR.below {w bn bK:World} {S:Nat→Prop} {L:dJ} {k:Int} (hb:RowKit.Below w.heap.size w bn) (h:hR bn bK S L k):hR w bK S L k:=
 ⟨(dC.below hb).trans h.e8,fun c o hc hx=>(h.wb c o (Nat.lt_of_lt_of_le hc hb.size) hx).trans (by simp only[World.cell?,hb.block c hc]),h.r1⟩
theorem hR.snoc {w wr:World} {S:Nat→Prop} {L:dJ} {k:Int} (h:hR w wr S L k) {c o:Nat} {b:Bool} {v:Value} (hc: ∃u,wr.cell? ⟨c,o,none⟩=some u) (hk:dC S w (wr.setCell ⟨c,o,none⟩ v)) (iY:lf (L++[(c,o,b)])) (hv:v=vX b (k+(L.length:Nat))):hR w (wr.setCell ⟨c,o,none⟩ v) S (L++[(c,o,b)]) k where
 e8:=hk
 wb:=fun ct ij aw hx=>(Jy (hx _ (List.mem_append.2 (.inr (List.mem_singleton.2 rfl))))).trans (h.wb ct ij aw fun x hm=>hx x (List.mem_append.2 (.inl hm)))
 r1:=by
  subst hv
  obtain⟨u,hu⟩:=hc
  refine ft.sx.2 ⟨h.r1.cZ fun x hx _=>Jy fun e=> ?_,Jw hu,trivial⟩
  exact(List.pairwise_append.1 iY).2.2 x hx _ (List.mem_singleton.2 rfl) ⟨e.1.symm,e.2.symm⟩
def row (c o:Nat) (b:Bool):Nat→dJ
 | 0=>[]
 | m+1=>row c o b m++[(c,o+m,b)]
theorem uT (c o:Nat) (b:Bool): ∀m,(row c o b m).length=m
 | 0=>rfl
 | m+1=>by show(row c o b m++_).length=_;rw[List.length_append,uT c o b m];rfl
theorem Yk (c o:Nat) (b:Bool) (m:Nat): ∀n,row c o b (m+n)=row c o b m++row c (o+m) b n
 | 0=>(List.append_nil _).symm
 | n+1=>by
  show row c o b (m+n)++[(c,o+(m+n),b)]=_++(row c (o+m) b n++[(c,o+m+n,b)])
  rw[Yk c o b m n,List.append_assoc,Nat.add_assoc]
theorem yI {c o:Nat} {b:Bool} {x:Nat×Nat×Bool}: ∀{m},x∈row c o b m↔ ∃i,i<m∧x=(c,o+i,b)
 | 0=>by simp[row]
 | m+1=>by
  show x∈row c o b m++_↔_
  rw[List.mem_append,yI (m:=m),List.mem_singleton]
  constructor
  ·rintro(⟨i,h1,h2⟩ | h)
   ·exact⟨i,by omega,h2⟩
   ·exact⟨m,by omega,h⟩
  ·rintro⟨i,h1,h2⟩
   by_cases e:i=m
   ·subst e;exact .inr h2
   ·exact .inl ⟨i,by omega,h2⟩
theorem ft.row {w:World} {c o:Nat} {b:Bool} {k:Int}: ∀{m:Nat},ft w (Fw.row c o b m) k↔ ∀i,i<m→w.cell? ⟨c,o+i,none⟩=some (vX b (k+(i:Nat)))
 | 0=>⟨fun _ i h=>by omega,fun _=>trivial⟩
 | m+1=>by
  show ft w (Fw.row c o b m++_) k↔_
  rw[ft.sx,ft.row (m:=m),uT]
  constructor
  ·rintro⟨h1,h2,_⟩ i hi
   by_cases e:i=m
   ·subst e;exact h2
   ·exact h1 i (by omega)
  ·intro h
   exact⟨fun i hi=>h i (by omega),h m (by omega),trivial⟩
theorem Ju {g:Nat→dJ} {c o:Nat} {b:Bool}: ∀{m:Nat},(∀j,j<m→g j=[(c,o+j,b)])→Fw.dv g m=row c o b m
 | 0,_=>rfl
 | m+1,h=>by show Fw.dv g m++g m=_;rw[Ju fun j ah=>h j (by omega),h m (by omega)];rfl
theorem Jt {g:Nat→dJ} {c o q:Nat} {b:Bool}: ∀{m:Nat},(∀j,j<m→g j=row c (o+j*q) b q)→Fw.dv g m=row c o b (m*q)
 | 0,_=>by rw[Nat.zero_mul];rfl
 | m+1,h=>by show Fw.dv g m++g m=_;rw[Jt fun j ah=>h j (by omega),h m (by omega),←Yk,Nat.succ_mul]
theorem eD.flat {w:World} {S:Nat→Prop} {κ e:aR} {nf:Bool} {q n cap a b:Nat} {A:Option Addr} {L:dJ} (Ar:κ= .int∧nf=false∨κ= .bool∧nf=true) (bJ:e.bV=List.replicate q κ) (h:eD w S (.l e) a b L (.slice A n cap)):
  n≤4611686018427387904∧ ∃c o:Nat,(0<n→A=some ⟨c,o,none⟩)∧L=row c o nf (n*q)∧
   (0<n→S c∧ ∃(al:Array Value) (ty:TypeId),w.heap[c]?=some (.cells al ty (0,0))∧(0<q→o+n*q≤al.size)∧ ∀i,i<n*q→ ∃u,al[o+i]?=some u∧ ∀z,pY (some u) (some (vX nf z))):=by
 cases h with
 | @aZ _ _ _ _ _ _ Ls vs c o h1 hc aj=>
 have aw:e.bV.length=q:=by rw[bJ,List.length_replicate]
 rw[aw] at hc aj ⊢
 have ah: ∀j,j<q→e.bV[j]?=some κ:=fun j ah=>by rw[bJ,List.getElem?_replicate,if_pos ah]
 have one: ∀i j,i<n→j<q→Ls i j=[(c,o+i*q+j,nf)]∧ ∀z,pY (some (vs i j)) (some (vX nf z)):=fun i j hi jn=>by
  have hk:=aj i j κ hi (ah j jn)
  rw[show o+(i*q+j)=o+i*q+j by omega] at hk
  rcases Ar with⟨rfl,rfl⟩ | ⟨rfl,rfl⟩
  ·obtain⟨aG,m,e2⟩:=hk.of_int
   exact⟨aG,fun z=> .inr (.inl ⟨_,_,by rw[e2],rfl⟩)⟩
  ·obtain⟨aG,m,e2⟩:=hk.of_bool
   exact⟨aG,fun z=> .inr (.inr ⟨_,_,by rw[e2],rfl⟩)⟩
 refine⟨h1.2,c,o,fun af=> ?_,Jt fun i hi=>Ju fun j jn=>(one i j hi jn).1,fun af=> ?_⟩
 ·obtain⟨al,ty,cu,_⟩:=hc af
  exact cu
 ·obtain⟨al,ty,cu,ds,bw,hv⟩:=hc af
  refine⟨ds,al,ty,bw,fun aA=> ?_,fun i hi=> ?_⟩
  ·have:=(Array.getElem?_eq_some_iff.1 (hv (n - 1) (q - 1) (by omega) (by omega))).1
   have aG:(n - 1)*q+q=n*q:=by rw[←Nat.succ_mul];congr 1;omega
   omega
  ·have aA:0<q:=by
    rcases Nat.eq_zero_or_pos q with e | e
    ·subst e;simp at hi
    ·exact e
   have h1:i / q<n:=(Nat.div_lt_iff_lt_mul aA).2 hi
   have hu:=hv (i / q) (i%q) h1 (Nat.mod_lt _ aA)
   rw[Nat.mul_comm,Nat.div_add_mod] at hu
   exact⟨_,hu,(one (i / q) (i%q) h1 (Nat.mod_lt _ aA)).2⟩
theorem hR.Hu {w w':World} {S:Nat→Prop} {c o m:Nat} {b:Bool} {k:Int} {val:Nat→Value} (h:lO w w' c o m val) (hv: ∀i,val i=vX b (k+(i:Nat))) (hc:0<m→S c∧ ∃(al:Array Value) (ty:TypeId),w.heap[c]?=some (.cells al ty (0,0))∧o+m≤al.size∧ ∀i,i<m→ ∃u,al[o+i]?=some u∧ ∀z,pY (some u) (some (vX b z))) (aA:m=0→c=w.heap.size):hR w w' S (Fw.row c o b m) k:=by
 by_cases hm:0<m
 ·obtain⟨ds,al,ty,bw,az,hu⟩:=hc hm
  obtain⟨b3,q1,q2,q3⟩:=h.blk al ty bw
  refine⟨h.e8 ds fun zG ty2 i hx hi=> ?_,fun ct ij aw hx=> ?_,ft.row.2 fun i hi=> ?_⟩
  ·rw[bw] at hx;cases hx
   obtain⟨u,h1,h2⟩:=hu i hi
   rw[h1,hv];exact h2 _
  ·by_cases e:ct=c
   ·subst e
    have kW: ¬(o≤ij∧ij<o+m):=fun bw=>hx (ct,o+(ij - o),b) (yI.2 ⟨ij - o,by omega,rfl⟩) ⟨rfl,by show o+(ij - o)=ij;omega⟩
    simp only[World.cell?,bw,q1]
    rcases Nat.lt_or_ge ij al.size with ah | ah
    ·rw[q3 ij ah,if_neg kW]
    ·rw[Array.getElem?_eq_none (by omega),Array.getElem?_eq_none ah]
   ·simp only[World.cell?,h.other ct e]
  ·have e:b3[o+i]?=some (val (o+i - o)):=(q3 (o+i) (by omega)).trans (if_pos ⟨by omega,by omega⟩)
   rw[show o+i - o=i by omega,hv] at e
   simp only[World.cell?,q1]
   exact e
 ·obtain rfl:m=0:=by omega
  obtain rfl:=aA rfl
  exact⟨h.DN,fun ct ij aw _=>by simp only[World.cell?,h.other ct (by omega)],trivial⟩
def I4 (P:Program) (f:FuncId) (e:aR):Prop:= ∀(w:World) (S:Nat→Prop) (L:dJ) (v:Value) (k:Int),eD w S e 0 0 L v→lf L→0≤k→k+(L.length:Nat)≤4611686018427387904→
 Calls P f #[v,.int .i64 k] w fun jl w'=>jl= .returned (.int .i64 (k+(L.length:Nat)))∧hR w w' S L k
def IZ (P:Program) (f:FuncId) (e:aR):Prop:= ∀(w:World) (S:Nat→Prop) (L:dJ) (v:Value) (k:Int),eD w S e 0 0 L v→ft w L k→0≤k→k+(L.length:Nat)≤4611686018427387904→
 Calls P f #[v,.int .i64 k] w fun jl w'=>jl= .returned (.int .i64 (k+(L.length:Nat)))∧RowKit.Below w.heap.size w w'
theorem R9 (ws:List av):me ws (List.range ws.length) (ws.map av.ae)∧view ws (List.range ws.length) (ws.map av.ae)=ws:=by
 have hb: ∀i (h:av),ws[i]?=some h→(ws.map av.ae).getD i []=h.ae:=fun i h e=>by
  rw[List.getD_eq_getElem?_getD,List.getElem?_map,e];rfl
 constructor
 ·refine⟨by simp,fun i id h=> ?_,fun i id h h1 h2=> ?_⟩
  ·obtain⟨h1,h2⟩:=List.getElem?_eq_some_iff.1 h
   rw[List.getElem_range] at h2
   simp at h1 ⊢;omega
  ·obtain⟨q1,q2⟩:=List.getElem?_eq_some_iff.1 h2
   rw[List.getElem_range] at q2
   subst q2
   rw[hb i h h1]
 ·refine List.ext_getElem? fun i=> ?_
  cases e:ws[i]? with
  | none=>
   rw[List.getElem?_eq_none]
   rw[List.getElem?_eq_none_iff] at e
   unfold view;rw[List.length_zipWith];simp;omega
  | some h=>
   have aw:=(List.getElem?_eq_some_iff.1 e).1
   rw[wS e (List.getElem?_range aw),hb i h e]
section
variable {E:Env} {H:List Blk} {F:Frame}
def fB (E:Env) (j:Nat):Nat:=match E.m j with
 | some (some c)=>c
 | _=>0
theorem X_ {j:Nat} (aE:E.bm j=0) {n:Nat} {v:Value} (h:b4 E (.ref j 0 0 n false) v): ∃A cap,v= .slice A n cap∧n≤cap∧(0<n→E.m j=some (some (fB E j))∧A=some ⟨fB E j,0,none⟩):=by
 rcases(show fu E (.ref j 0 0 n false) v from h) with⟨h,_⟩ | ⟨_,⟨_,_,e,A,rfl⟩ | ⟨c,cap,hm,rfl,h1,_,_⟩⟩
 ·omega
 ·subst e;exact⟨A,0,rfl,Nat.le_refl _,fun h=>absurd h (by omega)⟩
 ·have e:fB E j=c:=by unfold fB;rw[hm]
  exact⟨_,cap,rfl,h1,fun _=>⟨by rw[e];exact hm,by rw[e,Nat.zero_mul]⟩⟩
theorem mem_row {c o m:Nat} {b:Bool} {x:Nat×Nat×Bool} (h:x∈row c o b m):x.1=c∧o≤x.2.1∧x.2.1<o+m:=by
 obtain⟨i,hi,rfl⟩:=yI.1 h
 exact⟨rfl,Nat.le_add_right _ _,by show o+i<_;omega⟩
theorem Hl (c o:Nat) (b:Bool): ∀m,lf (row c o b m)
 | 0=>List.Pairwise.nil
 | m+1=>List.pairwise_append.2 ⟨Hl c o b m,List.pairwise_singleton _ _,fun x hx y aX=>by
   have h1:=mem_row hx
   rw[List.mem_singleton.1 aX]
   intro e
   have h2:x.2.1=o+m:=e.2
   omega⟩
theorem vV {f:Nat→dJ} {x:Nat×Nat×Bool}: ∀{n:Nat},x∈dv f n→ ∃i,i<n∧x∈f i
 | n+1,h=>by
  rcases List.mem_append.1 h with h | h
  ·obtain⟨i,h1,h2⟩:=vV h
   exact⟨i,by omega,h2⟩
  ·exact⟨n,by omega,h⟩
theorem WZ {f:Nat→dJ}: ∀{n:Nat},(∀i,i<n→lf (f i))→(∀i gZ,i<n→gZ<n→i≠gZ→ ∀x∈f i,∀y∈f gZ,¬(x.1=y.1∧x.2.1=y.2.1))→lf (dv f n)
 | 0,_,_=>List.Pairwise.nil
 | n+1,h1,h2=>List.pairwise_append.2 ⟨WZ (fun i hi=>h1 i (by omega)) (fun i gZ hi fx=>h2 i gZ (by omega) (by omega)),h1 n (by omega),fun x hx y aX=>by
   obtain⟨i,hi,hx⟩:=vV hx
   exact h2 i n (by omega) (by omega) (by omega) x hx y aX⟩
theorem NI {α:Type} {enc:α→List AV} {q:Nat} {e κ:aR} {nf:Bool} (Ar:κ= .int∧nf=false∨κ= .bool∧nf=true) (bJ:e.bV=List.replicate q κ) (hs:SimH E H) {S:Nat→Prop} (ds: ∀c,E.fZ c→S c) {j:Nat} {xs:List α}
  (hb:H[j]?=some ⟨0,q,List.map enc xs⟩) (afs: ∀(x:α) (i:Nat) (a:AV),(enc x)[i]?=some a→(κ= .int∧ ∃n,a= .int .i64 n)∨κ= .bool∧ ∃n,a= .bool n) (hlen: ∀x,(enc x).length=q) (fo:xs.length≤4611686018427387904) {v:Value} (h:b4 E (.ref j 0 0 xs.length false) v):
  ∃A cap,v= .slice A xs.length cap∧(0<xs.length→E.m j=some (some (fB E j)))∧eD E.w S (.l e) 0 0 (row (fB E j) 0 nf (xs.length*q)) v:=by
 have aE:E.bm j=0:=hs.fc j _ hb
 obtain⟨A,cap,rfl,fw,cu⟩:=X_ aE h
 refine⟨A,cap,rfl,fun h=>(cu h).1,?_⟩
 have aw:e.bV.length=q:=by rw[bJ,List.length_replicate]
 have afh:row (fB E j) 0 nf (xs.length*q)=dv (fun i=>dv (fun k0=>[(fB E j,i*q+k0,nf)]) e.bV.length) xs.length:=by
  rw[aw]
  exact(Jt fun i hi=>Ju fun k0 jn=>by rw[Nat.zero_add]).symm
 rw[afh]
 by_cases af:0<xs.length
 ·obtain⟨hm,rfl⟩:=cu af
  obtain⟨blk,al,ty,h1,h2,aD,bj,cl,cC⟩:=hs.heap j _ hm
  rw[hb] at h1
  cases h1
  have h2:E.sz j=q:=h2
  rw[h2] at cC
  have cell: ∀i k0,i<xs.length→k0<q→ ∃u,al[i*q+k0]?=some u∧eD E.w S κ (fB E j) (i*q+k0) [(fB E j,i*q+k0,nf)] u:=fun i k0 hi jn=>by
   have aj:(List.map enc xs)[i]?=some (enc xs[i]):=by rw[List.getElem?_map,List.getElem?_eq_getElem hi];rfl
   obtain⟨a,ar⟩: ∃a,(enc xs[i])[k0]?=some a:=⟨(enc xs[i])[k0]'(by rw[hlen];exact jn),List.getElem?_eq_getElem _⟩
   obtain⟨u,hu,hv⟩:=cC.2 i k0 _ _ aj ar
   refine⟨u,hu,?_⟩
   rcases afs _ _ _ ar with⟨rfl,n,e⟩ | ⟨rfl,n,e⟩
   ·rw[e] at hv
    have hv:aP E.bQ.w E.bQ.PA E.bQ.PF (.int .i64 n) u:=hv
    cases hv
    rcases Ar with⟨_,rfl⟩ | ⟨bw,_⟩
    ·exact .int _ _ n
    ·cases bw
   ·rw[e] at hv
    have hv:aP E.bQ.w E.bQ.PA E.bQ.PF (.bool n) u:=hv
    cases hv
    rcases Ar with⟨bw,_⟩ | ⟨_,rfl⟩
    ·cases bw
    ·exact .bool _ _ n
  refine .aZ (vs:=fun i k0=>(al[i*q+k0]?).getD undef) (fB E j) 0 ⟨fw,fo⟩ (fun _=>⟨al,ty,rfl,ds _ ⟨j,hm⟩,aD,fun i k0 hi jn=> ?_⟩) fun i k0 bZ hi jn=> ?_
  ·rw[aw] at jn ⊢
   obtain⟨u,hu,_⟩:=cell i k0 hi jn
   rw[Nat.zero_add,hu];rfl
  ·rw[aw]
   have vx:k0<q:=by rw[←aw];exact(List.getElem?_eq_some_iff.1 jn).1
   have aG:bZ=κ:=by rw[bJ,List.getElem?_replicate,if_pos vx] at jn;exact(Option.some.inj jn).symm
   subst aG
   obtain⟨u,hu,hk⟩:=cell i k0 hi vx
   rw[Nat.zero_add,hu];exact hk
 ·have az:xs.length=0:=by omega
  rw[az]
  exact .aZ (Ls:=fun i k0=>[(fB E j,i*q+k0,nf)]) (vs:=fun _ _=>undef) 0 0 ⟨Nat.zero_le _,Nat.zero_le _⟩ (fun h=>absurd h (by omega)) fun i k0 bZ hi _=>by omega
def oN (E:Env) (ws:List av) (b s i j:Nat):dJ:=match j with
 | 0=>[(fB E b,i*5,false)]
 | 1=>[(fB E b,i*5+1,false)]
 | 2=>row (fB E (i+s)) 0 true (((ws[i]?).map fun h=>h.ae.length).getD 0*1)
 | 3=>[(fB E b,i*5+3,true)]
 | 4=>[(fB E b,i*5+4,false)]
 | _=>[]
theorem RM (x:Bool) (i:Nat) (a:AV) (h:(aT x)[i]?=some a):((aR.bool:aR)= .int∧ ∃n,a= .int .i64 n)∨(aR.bool:aR)= .bool∧ ∃n,a= .bool n:=by
 match i,h with
 | 0,h=>cases h;exact .inr ⟨rfl,_,rfl⟩
theorem adf (x:bP) (i:Nat) (a:AV) (h:(bh x)[i]?=some a):((aR.int:aR)= .int∧ ∃n,a= .int .i64 n)∨(aR.int:aR)= .bool∧ ∃n,a= .bool n:=by
 match i,h with
 | 0,h=>cases h;exact .inl ⟨rfl,_,rfl⟩
 | 1,h=>cases h;exact .inl ⟨rfl,_,rfl⟩
theorem akW (hs:SimH E H) {S:Nat→Prop} (ds: ∀c,E.fZ c→S c) {b s:Nat} {ws:List av}
  (hb:H[b]?=some ⟨0,5,aU s ws (List.range ws.length)⟩) (hf: ∀(i:Nat) (h:av),ws[i]?=some h→H[i+s]?=some (br h.ae)) (fo:ws.length≤4611686018427387904) (zV: ∀h∈ws,h.ae.length≤4611686018427387904) {v:Value} (h:b4 E (.ref b 0 0 ws.length false) v):
  ∃A cap,v= .slice A ws.length cap∧(0<ws.length→E.m b=some (some (fB E b)))∧(∀(i:Nat) (h:av),ws[i]?=some h→0<h.ae.length→E.m (i+s)=some (some (fB E (i+s))))∧eD E.w S (.l .held) 0 0 (dv (fun i=>dv (oN E ws b s i) 5) ws.length) v:=by
 have aE:E.bm b=0:=hs.fc b _ hb
 obtain⟨A,cap,rfl,fw,cu⟩:=X_ aE h
 by_cases af:0<ws.length
 ·obtain⟨hm,rfl⟩:=cu af
  obtain⟨blk,al,ty,h1,h2,aD,bj,cl,cC⟩:=hs.heap b _ hm
  rw[hb] at h1
  cases h1
  have h2:E.sz b=5:=h2
  rw[h2] at cC
  have ew: ∀i (hi:i<ws.length),(aU s ws (List.range ws.length))[i]?=some (mQ s ws[i] i):=fun i hi=>by
   unfold aU
   rw[List.getElem?_zipWith,List.getElem?_eq_getElem hi,List.getElem?_range hi]
  have ae: ∀i (hi:i<ws.length),∃u,al[i*5+2]?=some u∧ ∃A' ox,u= .slice A' ws[i].ae.length ox∧(0<ws[i].ae.length→E.m (i+s)=some (some (fB E (i+s))))∧eD E.w S (.l .bool) 0 0 (row (fB E (i+s)) 0 true (ws[i].ae.length*1)) u:=fun i hi=>by
   obtain⟨u,hu,hv⟩:=cC.2 i 2 _ _ (ew i hi) rfl
   have hv:b4 E (.ref (i+s) 0 0 ws[i].ae.length false) u:=hv
   obtain⟨A',ox,aG,e2,dg⟩:=NI (e:= .bool) (κ:= .bool) (.inr ⟨rfl,rfl⟩) (q:=1) rfl hs ds (hf i _ (List.getElem?_eq_getElem hi)) RM (fun _=>rfl) (zV _ (List.getElem_mem hi)) hv
   exact⟨u,hu,A',ox,aG,e2,dg⟩
  have cell: ∀i j bZ,i<ws.length→(aR.bV .held)[j]?=some bZ→ ∃u,al[i*5+j]?=some u∧eD E.w S bZ (fB E b) (i*5+j) (oN E ws b s i j) u:=fun i j bZ hi ah=>by
   match j,ah with
   | 0,ah=>
    cases ah
    obtain⟨u,hu,hv⟩:=cC.2 i 0 _ _ (ew i hi) rfl
    have hv:aP E.bQ.w E.bQ.PA E.bQ.PF (.int .i64 ws[i].aJ) u:=hv
    cases hv
    exact⟨_,hu,.int _ _ _⟩
   | 1,ah=>
    cases ah
    obtain⟨u,hu,hv⟩:=cC.2 i 1 _ _ (ew i hi) rfl
    have hv:aP E.bQ.w E.bQ.PA E.bQ.PF (.int .i64 ws[i].ba) u:=hv
    cases hv
    exact⟨_,hu,.int _ _ _⟩
   | 2,ah=>
    cases ah
    obtain⟨u,hu,A',ox,aG,e2,dg⟩:=ae i hi
    refine⟨u,hu,?_⟩
    show eD E.w S (.l .bool) _ _ (row (fB E (i+s)) 0 true (((ws[i]?).map fun h=>h.ae.length).getD 0*1)) u
    rw[List.getElem?_eq_getElem hi]
    exact dg.X8 _ _
   | 3,ah=>
    cases ah
    obtain⟨u,hu,hv⟩:=cC.2 i 3 _ _ (ew i hi) rfl
    have hv:aP E.bQ.w E.bQ.PA E.bQ.PF (.bool ws[i].bS) u:=hv
    cases hv
    exact⟨_,hu,.bool _ _ _⟩
   | 4,ah=>
    cases ah
    obtain⟨u,hu,hv⟩:=cC.2 i 4 _ _ (ew i hi) rfl
    have hv:aP E.bQ.w E.bQ.PA E.bQ.PF (.int .i64 ws[i].bR) u:=hv
    cases hv
    exact⟨_,hu,.int _ _ _⟩
   | j+5,ah=>exact absurd ah (by simp[aR.bV])
  refine⟨_,cap,rfl,fun _=>hm,fun i h hi=> ?_,.aZ (e:= .held) (Ls:=oN E ws b s) (vs:=fun i j=>(al[i*5+j]?).getD undef) (fB E b) 0 ⟨fw,fo⟩ (fun _=>⟨al,ty,rfl,ds _ ⟨b,hm⟩,aD,fun i j hi ah=> ?_⟩) fun i j bZ hi ah=> ?_⟩
  ·obtain⟨q1,q2⟩:=List.getElem?_eq_some_iff.1 hi
   obtain⟨u,hu,A',ox,aG,e2,dg⟩:=ae i q1
   subst q2;exact e2
  ·obtain⟨u,hu,_⟩:=cell i j _ hi (List.getElem?_eq_getElem ah)
   rw[show 0+(i*(aR.bV .held).length+j)=i*5+j from by show 0+(i*5+j)=_;omega,hu];rfl
  ·obtain⟨u,hu,hk⟩:=cell i j bZ hi ah
   rw[show 0+(i*(aR.bV .held).length+j)=i*5+j from by show 0+(i*5+j)=_;omega,hu]
   exact hk
 ·have az:ws.length=0:=by omega
  refine⟨A,cap,rfl,fun h=>absurd h af,fun i h hi=> ?_,?_⟩
  ·rw[List.eq_nil_of_length_eq_zero az] at hi;simp at hi
  ·rw[az]
   exact .aZ (e:= .held) (Ls:=oN E ws b s) (vs:=fun _ _=>undef) 0 0 ⟨Nat.zero_le _,Nat.zero_le _⟩ (fun h=>absurd h (by omega)) fun i k0 bZ hi _=>by omega
theorem Ns (ws:List av) (b s:Nat) (hb:0<ws.length→E.m b=some (some (fB E b))) (hf: ∀(i:Nat) (h:av),ws[i]?=some h→0<h.ae.length→E.m (i+s)=some (some (fB E (i+s)))) {i:Nat} (hi:i<ws.length) {x:Nat×Nat×Bool} (hx:x∈dv (oN E ws b s i) 5):
  (E.m b=some (some x.1)∧i*5≤x.2.1∧x.2.1<i*5+5)∨E.m (i+s)=some (some x.1):=by
 have dq:=hb (by omega)
 have key: ∀o,i*5≤o→o<i*5+5→ ∀nf,x∈[((fB E b,o,nf):Nat×Nat×Bool)]→(E.m b=some (some x.1)∧i*5≤x.2.1∧x.2.1<i*5+5)∨E.m (i+s)=some (some x.1):=fun o h1 h2 nf h=>by
  obtain rfl:=List.mem_singleton.1 h
  exact .inl ⟨dq,h1,h2⟩
 obtain⟨j,ah,hx⟩:=vV hx
 match j,ah,hx with
 | 0,_,hx=>exact key _ (by omega) (by omega) _ hx
 | 1,_,hx=>exact key _ (by omega) (by omega) _ hx
 | 3,_,hx=>exact key _ (by omega) (by omega) _ hx
 | 4,_,hx=>exact key _ (by omega) (by omega) _ hx
 | 2,_,hx=>
  have hx:x∈row (fB E (i+s)) 0 true (((ws[i]?).map fun h=>h.ae.length).getD 0*1):=hx
  rw[List.getElem?_eq_getElem hi] at hx
  have hx:x∈row (fB E (i+s)) 0 true (ws[i].ae.length*1):=hx
  obtain⟨q,U,e⟩:=yI.1 hx
  have:=hf i _ (List.getElem?_eq_getElem hi) (by omega)
  subst e
  exact .inr this
theorem akx (hs:SimH E H) {ws:List av} {b s:Nat} (nT:b<s) (hb:0<ws.length→E.m b=some (some (fB E b))) (hf: ∀(i:Nat) (h:av),ws[i]?=some h→0<h.ae.length→E.m (i+s)=some (some (fB E (i+s)))):lf (dv (fun i=>dv (oN E ws b s i) 5) ws.length):=by
 refine WZ (fun i hi=> ?_) fun i gZ hi fx bq x hx y aX e=> ?_
 ·have dq:=hb (by omega)
  have ew: ∀x∈oN E ws b s i 2,E.m (i+s)=some (some x.1):=fun x hx=>by
   have hx:x∈row (fB E (i+s)) 0 true (((ws[i]?).map fun h=>h.ae.length).getD 0*1):=hx
   rw[List.getElem?_eq_getElem hi] at hx
   have hx:x∈row (fB E (i+s)) 0 true (ws[i].ae.length*1):=hx
   obtain⟨q,U,e⟩:=yI.1 hx
   subst e
   exact hf i _ (List.getElem?_eq_getElem hi) (by omega)
  have kW: ∀x∈oN E ws b s i 2,x.1≠fB E b:=fun x hx e=>by
   have h1:=ew x hx
   rw[e] at h1
   have:=hs.hr _ _ _ h1 dq
   omega
  have aG:dv (oN E ws b s i) 5=[(fB E b,i*5,false),(fB E b,i*5+1,false)]++oN E ws b s i 2++[(fB E b,i*5+3,true),(fB E b,i*5+4,false)]:=by
   show(((((([]:dJ)++_)++_)++_)++_)++_)=_
   show(((((([]:dJ)++[(fB E b,i*5,false)])++[(fB E b,i*5+1,false)])++oN E ws b s i 2)++[(fB E b,i*5+3,true)])++[(fB E b,i*5+4,false)])=_
   simp only[List.append_assoc,List.nil_append,List.cons_append]
  rw[aG]
  refine List.pairwise_append.2 ⟨List.pairwise_append.2 ⟨?_,Hl _ _ _ _,fun x hx y aX e=> ?_⟩,?_,fun x hx y aX e=> ?_⟩
  ·refine List.pairwise_cons.2 ⟨fun y aX e=> ?_,List.pairwise_singleton _ _⟩
   obtain rfl:=List.mem_singleton.1 aX
   have h2:i*5=i*5+1:=e.2
   omega
  ·refine kW y aX ?_
   rcases List.mem_cons.1 hx with rfl | hx
   ·exact e.1.symm
   ·obtain rfl:=List.mem_singleton.1 hx;exact e.1.symm
  ·refine List.pairwise_cons.2 ⟨fun y aX e=> ?_,List.pairwise_singleton _ _⟩
   obtain rfl:=List.mem_singleton.1 aX
   have h2:i*5+3=i*5+4:=e.2
   omega
  ·have agA:y.1=fB E b∧i*5+3≤y.2.1:=by
    rcases List.mem_cons.1 aX with rfl | aX
    ·exact⟨rfl,Nat.le_refl _⟩
    ·obtain rfl:=List.mem_singleton.1 aX;exact⟨rfl,by show _≤i*5+4;omega⟩
   rcases List.mem_append.1 hx with hx | hx
   ·have apJ:x.2.1≤i*5+1:=by
     rcases List.mem_cons.1 hx with rfl | hx
     ·show i*5≤_;omega
     ·obtain rfl:=List.mem_singleton.1 hx;exact Nat.le_refl _
    have:=e.2
    omega
   ·exact kW x hx (e.1.trans agA.1)
 ·rcases Ns ws b s hb hf hi hx with⟨h1,h2,aD⟩ | h1<;>rcases Ns ws b s hb hf fx aX with⟨dA,g_,pz⟩ | dA
  ·have:=e.2
   omega
  ·rw[←e.1] at dA
   have:=hs.hr _ _ _ h1 dA
   omega
  ·rw[←e.1] at dA
   have:=hs.hr _ _ _ h1 dA
   omega
  ·rw[←e.1] at dA
   have:=hs.hr _ _ _ h1 dA
   omega
end
theorem eD.MZ {w:World} {S:Nat→Prop} {e:aR} {a b:Nat} {L:dJ} {v:Value} (h:eD w S e a b L v): ∀x∈L,x.1=a∨S x.1:=by
 induction h with
 | int c o n=>intro x hx;rw[List.mem_singleton.1 hx];exact .inl rfl
 | bool c o b=>intro x hx;rw[List.mem_singleton.1 hx];exact .inl rfl
 | @aZ e a b n cap A Ls vs c o h1 hc aj bz=>
  intro x hx
  obtain⟨i,hi,hx⟩:=vV hx
  obtain⟨j,ah,hx⟩:=vV hx
  obtain⟨al,ty,_,ds,_⟩:=hc (by omega)
  rcases bz i j _ hi (List.getElem?_eq_getElem ah) x hx with h | h
  ·rw[h];exact .inr ds
  ·exact .inr h
theorem eD.MY {w:World} {S:Nat→Prop} {e:aR} {a b:Nat} {L:dJ} {v:Value} (h:eD w S (.l e) a b L v): ∀x∈L,S x.1:=by
 cases h with
 | @aZ _ _ _ _ _ _ Ls vs c o h1 hc aj=>
  intro x hx
  obtain⟨i,hi,hx⟩:=vV hx
  obtain⟨j,ah,hx⟩:=vV hx
  obtain⟨al,ty,_,ds,_⟩:=hc (by omega)
  rcases(aj i j _ hi (List.getElem?_eq_getElem ah)).MZ x hx with h | h
  ·rw[h];exact ds
  ·exact h
def ib (cx aG e2:aR) (w:World) (S:Nat→Prop) (bL bG bF:Option Addr) (bM bo b5 bk n2 bg:Nat) (L:dJ):Prop:=
 ∃fJ gM ia,L=fJ++gM++ia∧eD w S (.l cx) 0 0 fJ (.slice bL bM bo)∧eD w S (.l aG) 0 0 gM (.slice bG b5 bk)∧eD w S (.l e2) 0 0 ia (.slice bF n2 bg)
theorem ib.cZ {cx aG e2:aR} {w w':World} {S S':Nat→Prop} {bL bG bF:Option Addr} {bM bo b5 bk n2 bg:Nat} {L:dJ} (h:ib cx aG e2 w S bL bG bF bM bo b5 bk n2 bg L) (hk: ∀c,S c→w'.heap[c]?=w.heap[c]?) (hs: ∀c,S c→S' c):ib cx aG e2 w' S' bL bG bF bM bo b5 bk n2 bg L:=by
 obtain⟨fJ,gM,ia,rfl,aA,h1,h2⟩:=h
 exact⟨fJ,gM,ia,rfl,aA.cZ hk hs,h1.cZ hk hs,h2.cZ hk hs⟩
theorem ib.e8 {cx aG e2:aR} {w w':World} {S S':Nat→Prop} {bL bG bF:Option Addr} {bM bo b5 bk n2 bg:Nat} {L:dJ} (h:ib cx aG e2 w S bL bG bF bM bo b5 bk n2 bg L) (hk:dC S' w w'):ib cx aG e2 w' S bL bG bF bM bo b5 bk n2 bg L:=by
 obtain⟨fJ,gM,ia,rfl,aA,h1,h2⟩:=h
 exact⟨fJ,gM,ia,rfl,aA.e8 hk,h1.e8 hk,h2.e8 hk⟩
theorem ib.MZ {cx aG e2:aR} {w:World} {S:Nat→Prop} {bL bG bF:Option Addr} {bM bo b5 bk n2 bg:Nat} {L:dJ} (h:ib cx aG e2 w S bL bG bF bM bo b5 bk n2 bg L): ∀x∈L,S x.1:=by
 obtain⟨fJ,gM,ia,rfl,aA,h1,h2⟩:=h
 intro x hx
 rcases List.mem_append.1 hx with hx | hx
 ·rcases List.mem_append.1 hx with hx | hx
  ·exact aA.MY x hx
  ·exact h1.MY x hx
 ·exact h2.MY x hx
theorem ft.same {w w':World} {L:dJ} {k:Int} {S:Nat→Prop} (h:ft w L k) (bJ: ∀x∈L,S x.1) (hk: ∀c,S c→w'.heap[c]?=w.heap[c]?):ft w' L k:=
 h.cZ fun x hx _=>by simp only[World.cell?,hk _ (bJ x hx)]
def GK (cx aG e2:aR) (lo hi:Nat) (a:AV) (v:Value) (bL bG bF:Option Addr) (bM bo b5 bk n2 bg:Nat) (L:dJ):fF where
 lo:=lo
 hi:=hi
 P:=fun w=>et w (qE w lo hi) a v∧ib cx aG e2 w (qE w lo hi) bL bG bF bM bo b5 bk n2 bg L
 ap:=fun w w' h ab=>⟨ab.1.cZ (fun c hc=>h c hc.1 hc.2.1) fun c hc=>⟨hc.1,hc.2.1,hc.2.2.same (h c hc.1 hc.2.1)⟩,ab.2.cZ (fun c hc=>h c hc.1 hc.2.1) fun c hc=>⟨hc.1,hc.2.1,hc.2.2.same (h c hc.1 hc.2.1)⟩⟩
theorem b8.own {cx aG e2:aR} {W w w':World} {l:List fF} {a:AV} {v:Value} {bL bG bF:Option Addr} {bM bo b5 bk n2 bg:Nat} {L:dJ} (h:b8 W w l) (hb:RowKit.Below w.heap.size w w') (aY:et w' (fG w w') a v) (hf:ib cx aG e2 w' (fG w w') bL bG bF bM bo b5 bk n2 bg L):b8 W w' (l++[GK cx aG e2 w.heap.size w'.heap.size a v bL bG bF bM bo b5 bk n2 bg L]):=
 h.made hb (GK cx aG e2 w.heap.size w'.heap.size a v bL bG bF bM bo b5 bk n2 bg L) rfl rfl ⟨aY,hf⟩
theorem GK.at {cx aG e2:aR} {W w:World} {l:List fF} (h:b8 W w l) (j:Nat) {lo hi:Nat} {a:AV} {v:Value} {bL bG bF:Option Addr} {bM bo b5 bk n2 bg:Nat} {L:dJ} (e:l[j]?=some (GK cx aG e2 lo hi a v bL bG bF bM bo b5 bk n2 bg L):=by rfl):V2 (Env.at w) a v:=
 (h.get j e).1.at fun c hc=>Nat.lt_of_lt_of_le hc.2.1 (h.hi j e)
theorem aor {e:aR} {x:e.T} {w:World} {H':List Blk} {E':Env} {r:AV} {v:Value} (hs:SimH E' H') (aj:j7 H' r (p8 e x)) (hv:V3 E' r v) (jW: ∀c,E'.PF c∨E'.fZ c→fG w E'.w c):et E'.w (fG w E'.w) (FU e x) v:=by
 have lZ:V3 {Env.ro E'.w (fG w E'.w) with PF:=fG w E'.w} (p8 e x) v:=OG (E':={Env.ro E'.w (fG w E'.w) with PF:=fG w E'.w}) hs rfl (fun c hc=>⟨jW c hc,jW c hc⟩) aj hv
 unfold FU
 unfold p8 at lZ
 cases ds:e.isS with
 | true=>
  rw[ds] at lZ
  obtain⟨eZ,rfl,ab⟩:=(show ∃eZ:List Value,v= .agg eZ.toArray∧ak (b4 _) (cy true e x) eZ from lZ)
  refine⟨eZ,rfl,?_⟩
  rw[←pf] at ab ⊢
  exact Qm (fun _ h=>h) (fun _ h=>h) (ID ab)
 | false=>
  rw[ds] at lZ
  have lZ:V3 {Env.ro E'.w (fG w E'.w) with PF:=fG w E'.w} (kA true e x) v:=lZ
  have h1:b4 {Env.ro E'.w (fG w E'.w) with PF:=fG w E'.w} (kA true e x) v:=by cases e<;>first | exact lZ | cases ds
  have:=aP.j4 (B:=fG w E'.w) (fun _ h=>h) (fun _ h=>h) (Qq h1)
  exact lP (aP.v1 (E:=Env.ro E'.w (fG w E'.w)) this)
theorem akX {E:Env} {F:Frame} (hs:SimH E (j0 F)) {S:Nat→Prop} (ds: ∀c,E.fZ c→S c) (fo:F.aB.length≤4611686018427387904∧F.au.length≤4611686018427387904∧F.O.length≤4611686018427387904∧ ∀h∈F.O,h.ae.length≤4611686018427387904) {v0 v1 v2:Value}
  (aA:b4 E (.ref 0 0 0 F.aB.length false) v0) (h1:b4 E (.ref 1 0 0 F.au.length false) v1) (h2:b4 E (.ref 2 0 0 F.O.length false) v2):
  ∃bL bo bG bk bF bg L,v0= .slice bL F.aB.length bo∧v1= .slice bG F.au.length bk∧v2= .slice bF F.O.length bg∧ib .bool .dx .held E.w S bL bG bF F.aB.length bo F.au.length bk F.O.length bg L∧lf L∧L.length=F.aB.length+F.au.length*2+(F.O.map fun h=>4+h.ae.length).sum:=by
 have hf: ∀(i:Nat) (h:av),F.O[i]?=some h→(j0 F)[i+3]?=some (br h.ae):=fun i h e=>by
  show(List.map br (List.map av.ae F.O))[i]?=_
  rw[List.getElem?_map,List.getElem?_map,e];rfl
 obtain⟨bL,bo,rfl,ag,eU⟩:=NI (e:= .bool) (κ:= .bool) (.inr ⟨rfl,rfl⟩) (q:=1) rfl hs ds (j:=0) (xs:=F.aB) rfl RM (fun _=>rfl) fo.1 aA
 obtain⟨bG,bk,rfl,a6,s1⟩:=NI (e:= .dx) (κ:= .int) (.inl ⟨rfl,rfl⟩) (q:=2) rfl hs ds (j:=1) (xs:=F.au) rfl adf (fun _=>rfl) fo.2.1 h1
 obtain⟨bF,bg,rfl,bx,dF,s2⟩:=akW hs ds (b:=2) (s:=3) (ws:=F.O) rfl hf fo.2.2.1 fo.2.2.2 h2
 refine⟨bL,bo,bG,bk,bF,bg,_,rfl,rfl,rfl,⟨_,_,_,rfl,eU,s1,s2⟩,?_,?_⟩
 ·have i0: ∀x∈row (fB E 0) 0 true (F.aB.length*1),E.m 0=some (some x.1):=fun x hx=>by
   obtain⟨i,hi,rfl⟩:=yI.1 hx
   exact ag (by omega)
  have i1: ∀x∈row (fB E 1) 0 false (F.au.length*2),E.m 1=some (some x.1):=fun x hx=>by
   obtain⟨i,hi,rfl⟩:=yI.1 hx
   exact a6 (by omega)
  have i2: ∀x∈dv (fun i=>dv (oN E F.O 2 3 i) 5) F.O.length,∃j,2≤j∧E.m j=some (some x.1):=fun x hx=>by
   obtain⟨i,hi,hx⟩:=vV hx
   rcases Ns F.O 2 3 bx dF hi hx with⟨h,_⟩ | h
   ·exact⟨2,by omega,h⟩
   ·exact⟨i+3,by omega,h⟩
  refine List.pairwise_append.2 ⟨List.pairwise_append.2 ⟨Hl _ _ _ _,Hl _ _ _ _,fun x hx y aX e=> ?_⟩,akx hs (by omega) bx dF,fun x hx y aX e=> ?_⟩
  ·have h1:=i0 x hx
   have h2:=i1 y aX
   rw[←e.1] at h2
   have:=hs.hr _ _ _ h1 h2
   omega
  ·obtain⟨j,ah,h2⟩:=i2 y aX
   rw[←e.1] at h2
   rcases List.mem_append.1 hx with hx | hx
   ·have:=hs.hr _ _ _ (i0 x hx) h2
    omega
   ·have:=hs.hr _ _ _ (i1 x hx) h2
    omega
 ·rw[List.length_append,List.length_append,uT,uT,Nat.mul_one]
  congr 1
  have key: ∀n,n≤F.O.length→(dv (fun i=>dv (oN E F.O 2 3 i) 5) n).length=((F.O.take n).map fun h=>4+h.ae.length).sum:=fun n=>by
   induction n with
   | zero=>intro _;rfl
   | succ n bz=>
    intro af
    show(dv (fun i=>dv (oN E F.O 2 3 i) 5) n++dv (oN E F.O 2 3 n) 5).length=_
    rw[List.length_append,bz (by omega),List.take_add_one,List.getElem?_eq_getElem (by omega:n<F.O.length),List.map_append,List.sum_append]
    congr 1
    show((((([]:dJ)++[_])++[_])++row (fB E (n+3)) 0 true (((F.O[n]?).map fun h:av=>h.ae.length).getD 0*1))++[_]++[_]).length=_
    rw[List.getElem?_eq_getElem (by omega:n<F.O.length)]
    simp only[List.length_append,List.length_cons,List.length_nil,uT,Option.map_some,Option.getD_some,Option.toList,List.map_cons,List.map_nil,List.sum_cons,List.sum_nil]
    omega
  have:=key F.O.length (Nat.le_refl _)
  rw[List.take_length] at this
  exact this
open Go Go.RowKit
set_option maxHeartbeats 1000000
set_option maxRecDepth 100000
theorem aan:I4 Tryz.prog 61 (.l .bool):=fun w S L v k h iY aA h1=>by
  obtain⟨A,n,cap,rfl⟩:=h.n9
  obtain⟨qf,c,o,cu,rfl,hc⟩:=h.flat (.inr ⟨rfl,rfl⟩) (q:=1) rfl
  rw[uT] at h1 ⊢
  have h2:k+n≤4611686018427387904:=by omega
  have aj:(Ending.returned (.int .i64 (k+n)):Ending)= .returned (.int .i64 (k+((n*1:Nat):Int))):=by congr 2;omega
  rw[←aj]
  by_cases af:0<n
  · obtain⟨ds,al,ty,bw,az,hu⟩:=hc af
    refine(He A c o n cap k w al ty (fun _=>⟨cu af,bw,by have:=az (by omega);omega⟩) aA h2).mono ?_
    rintro e w' ⟨rfl,hm⟩
    refine⟨rfl,?_⟩
    rw[Nat.mul_one] at az hu ⊢
    exact .Hu hm (fun i=>rfl) (fun _=>⟨ds,al,ty,bw,az (by omega),hu⟩) (fun e=>by omega)
  · obtain rfl:n=0:=by omega
    refine(He A w.heap.size 0 0 cap k w #[] 0 (fun h=>absurd h af) aA h2).mono ?_
    rintro e w' ⟨rfl,hm⟩
    exact⟨rfl,show hR w w' S (row w.heap.size 0 true 0) k from hR.Hu (m:=0) hm (fun i=>rfl) (fun h=>by omega) (fun _=>rfl)⟩
theorem aob:I4 Tryz.prog 62 (.l .dx):=fun w S L v k h iY aA h1=>by
  obtain⟨A,n,cap,rfl⟩:=h.n9
  obtain⟨qf,c,o,cu,rfl,hc⟩:=h.flat (.inl ⟨rfl,rfl⟩) (q:=2) rfl
  rw[uT] at h1 ⊢
  have h2:k+2*n≤4611686018427387904:=by omega
  have aj:(Ending.returned (.int .i64 (k+2*n)):Ending)= .returned (.int .i64 (k+((n*2:Nat):Int))):=by congr 2;omega
  rw[←aj]
  by_cases af:0<n
  · obtain⟨ds,al,ty,bw,az,hu⟩:=hc af
    refine(Hf A c o n cap k w al ty (fun _=>⟨cu af,bw,by have:=az (by omega);omega⟩) aA h2).mono ?_
    rintro e w' ⟨rfl,hm⟩
    refine⟨rfl,?_⟩
    skip
    exact .Hu hm (fun i=>rfl) (fun _=>⟨ds,al,ty,bw,az (by omega),hu⟩) (fun e=>by omega)
  · obtain rfl:n=0:=by omega
    refine(Hf A w.heap.size 0 0 cap k w #[] 0 (fun h=>absurd h af) aA h2).mono ?_
    rintro e w' ⟨rfl,hm⟩
    exact⟨rfl,show hR w w' S (row w.heap.size 0 false 0) k from hR.Hu (m:=0) hm (fun i=>rfl) (fun h=>by omega) (fun _=>rfl)⟩
theorem aoa:I4 Tryz.prog 63 (.l .held):=fun w S L v k h iY aA h1=>by
  obtain⟨A,n,cap,rfl⟩:=h.n9
  obtain⟨qf,c,o,Ls,cu,rfl,aw,hi,hb⟩:=h.elem
  have H1:Hid (k+((dv (fun i=>dv (Ls i) 5) n).length:Nat)≤4611686018427387904):=h1
  have w1:Hid (lf (dv (fun i=>dv (Ls i) 5) n)):=iY
  have ku:=Lib.hid cu;clear cu
  have cL:=Lib.hid aw;clear aw
  have ou:=Lib.hid hi;clear hi
  have Cn:=Lib.hid hb;clear hb
  clear h h1 iY
  show Calls _ _ _ _ fun jl w'=>jl= .returned (.int .i64 (k+((dv (fun i=>dv (Ls i) 5) n).length:Nat)))∧hR w w' S (dv (fun i=>dv (Ls i) 5) n) k
  go_enter Tryz.func63,Tryz.ntmps63
  go_wp2
  go_loopw [1,5] (fun q i wr=> ∃j:Nat,j≤n∧i= .int .i64 j∧q= .int .i64 (k+((dv (fun i=>dv (Ls i) 5) j).length:Nat))∧hR w wr S (dv (fun i=>dv (Ls i) 5) j) k) (fun _ i _=>n - (intOf i).toNat)
  case atStart=>exact⟨0,Nat.zero_le _,rfl,by simp[dv],.nil _ _ _⟩
  case round=>
    obtain⟨j,ah,rfl,rfl,hm⟩:=hrel
    have fA:=Lib.hid hm;clear hm
    by_cases aM:j<n
    · obtain rfl:=ku.out (by omega)
      obtain⟨cx,bW⟩:=ou.out j 0 aM rfl
      rw[show o+(j*(aR.bV .held).length+0)=o+j*5 from by show o+(j*5+0)=_;omega] at cx bW
      have bW:=Lib.hid bW
      obtain⟨aG,b7⟩:=ou.out j 1 aM rfl
      rw[show o+(j*(aR.bV .held).length+1)=o+j*5+1 from by show o+(j*5+1)=_;omega] at aG b7
      have b7:=Lib.hid b7
      obtain⟨hD,jP⟩:=ou.out j 4 aM rfl
      rw[show o+(j*(aR.bV .held).length+4)=o+j*5+4 from by show o+(j*5+4)=_;omega] at hD jP
      have jP:=Lib.hid jP
      obtain⟨dg,j6⟩:=Cn.out j 3 aM rfl
      rw[show o+(j*(aR.bV .held).length+3)=o+j*5+3 from by show o+(j*5+3)=_;omega] at dg j6
      have j6:=Lib.hid j6
      obtain⟨bF,n2,bg,kV⟩:=cL.out j 2 .bool aM rfl
      rw[show o+(j*(aR.bV .held).length+2)=o+j*5+2 from by show o+(j*5+2)=_;omega] at kV
      have aY:dv (fun i=>dv (Ls i) 5) (j+1)=dv (fun i=>dv (Ls i) 5) j++[(c,o+j*5,false)]++[(c,o+j*5+1,false)]++Ls j 2++[(c,o+j*5+3,true)]++[(c,o+j*5+4,false)]:=by
        show _++(((((([]:dJ)++Ls j 0)++Ls j 1)++Ls j 2)++Ls j 3)++Ls j 4)=_
        rw[cx,aG,dg,hD];simp only[List.append_assoc,List.nil_append]
      obtain⟨P,cF⟩: ∃P,dv (fun i=>dv (Ls i) 5) j=P:=⟨_,rfl⟩
      obtain⟨ld,xm⟩: ∃ld,Ls j 2=ld:=⟨_,rfl⟩
      obtain⟨r,aj⟩:=Jv (f:=fun i=>dv (Ls i) 5) (n:=n) (j:=j+1) (by omega)
      have qO:=w1.out
      have h1:k+((dv (fun i=>dv (Ls i) 5) n).length:Nat)≤4611686018427387904:=H1.out
      have E6:Hid (hR w wr S P k):=cF▸fA.out
      rw[cF,xm] at aY
      rw[xm] at kV
      rw[aj,aY] at qO h1
      have fz:=Lib.hid kV;clear kV
      have qD:=Lib.hid aY;clear aY
      have zl:=Lib.hid qO.left;clear qO
      rw[List.length_append,List.length_append,List.length_append,List.length_append,List.length_append,List.length_append] at h1
      obtain⟨y,aX⟩: ∃y:Int,k+(P.length:Nat)=y:=⟨_,rfl⟩
      obtain⟨bx,kb⟩: ∃bx:Nat,ld.length=bx:=⟨_,rfl⟩
      have sN:k+(P.length+1+1+ld.length+1+1:Nat)≤4611686018427387904:=by
        simp only[List.length_cons,List.length_nil] at h1
        omega
      have TD:0≤y:=by omega
      have DA:y+bx+4≤4611686018427387904:=by omega
      have fv:Hid (k+((P++[(c,o+j*5,false)]).length:Nat)=y+1):=by unfold Hid;rw[List.length_append,List.length_singleton];omega
      have fP:Hid (k+((P++[(c,o+j*5,false)]++[(c,o+j*5+1,false)]).length:Nat)=y+1+1):=by unfold Hid;rw[List.length_append,List.length_append,List.length_singleton,List.length_singleton];omega
      have aby:Hid (k+((P++[(c,o+j*5,false)]++[(c,o+j*5+1,false)]++ld).length:Nat)=y+1+1+bx):=by unfold Hid;rw[List.length_append,List.length_append,List.length_append,List.length_singleton,List.length_singleton];omega
      have abz:Hid (k+((P++[(c,o+j*5,false)]++[(c,o+j*5+1,false)]++ld++[(c,o+j*5+3,true)]).length:Nat)=y+1+1+bx+1):=by unfold Hid;rw[List.length_append,List.length_append,List.length_append,List.length_append,List.length_singleton,List.length_singleton,List.length_singleton];omega
      have Jb:Hid (k+((P++[(c,o+j*5,false)]++[(c,o+j*5+1,false)]++ld++[(c,o+j*5+3,true)]++[(c,o+j*5+4,false)]).length:Nat)=y+1+1+bx+1+1):=by unfold Hid;rw[List.length_append,List.length_append,List.length_append,List.length_append,List.length_append,List.length_singleton,List.length_singleton,List.length_singleton,List.length_singleton];omega
      have fO:=Lib.hid aX
      rw[cF,aX]
      have kv:Hid (0≤y+1+1∧y+1+1+(ld.length:Nat)≤4611686018427387904):=by unfold Hid;omega
      have I3:=Lib.hid kb
      clear h1 sN aj cx aG dg hD aX kb fA cF xm
      obtain⟨vE,xF,m_⟩:=bW.out wr E6.out.e8
      obtain⟨pr,xG,_⟩:=b7.out wr E6.out.e8
      obtain⟨sW,_⟩:=fz.out wr E6.out.e8
      have QO:Hid (hR w (wr.setCell ⟨c,o+j*5,none⟩ (.int .i64 y)) S (P++[(c,o+j*5,false)]) k):=E6.out.snoc vE (m_ y) zl.out.left.left.left.left (by rw[fO.out];rfl)
      have QP:Hid (hR w ((wr.setCell ⟨c,o+j*5,none⟩ (.int .i64 y)).setCell ⟨c,o+j*5+1,none⟩ (.int .i64 (y+1))) S (P++[(c,o+j*5,false)]++[(c,o+j*5+1,false)]) k):=by
        obtain⟨g0,g1,na⟩:=b7.out _ QO.out.e8
        exact QO.out.snoc g0 (na (y+1)) zl.out.left.left.left (by rw[fv.out];rfl)
      obtain⟨EP,vE⟩:=vE
      obtain⟨EQ,pr⟩:=pr
      clear m_
      go_wp2_with (go_at_call 61;refine(aan _ S ld _ _ (fz.out _ QP.out.e8).2 zl.out.left.left.right kv.out.1 kv.out.2).mono ?_)
      rw[I3.out]
      first
      | (rintro e bn rfl hb)
      | (rintro e bn ⟨rfl,hb⟩)
      have I8:Hid (hR w bn S (P++[(c,o+j*5,false)]++[(c,o+j*5+1,false)]++ld) k):=QP.out.dv hb zl.out.left.left fP.out.symm
      clear hb vE xF pr xG sW
      obtain⟨GD,afv,tI⟩:=j6.out bn I8.out.e8
      obtain⟨LA,afw,_⟩:=jP.out bn I8.out.e8
      have QQ:Hid (hR w (bn.setCell ⟨c,o+j*5+3,none⟩ (.bool ((y+1+1+bx)%3==0))) S (P++[(c,o+j*5,false)]++[(c,o+j*5+1,false)]++ld++[(c,o+j*5+3,true)]) k):=I8.out.snoc GD (tI _) zl.out.left (by rw[aby.out];rfl)
      have abq:Hid (hR w ((bn.setCell ⟨c,o+j*5+3,none⟩ (.bool ((y+1+1+bx)%3==0))).setCell ⟨c,o+j*5+4,none⟩ (.int .i64 (y+1+1+bx+1))) S (P++[(c,o+j*5,false)]++[(c,o+j*5+1,false)]++ld++[(c,o+j*5+3,true)]++[(c,o+j*5+4,false)]) k):=by
        obtain⟨g0,g1,I0⟩:=jP.out _ QQ.out.e8
        exact QQ.out.snoc g0 (I0 _) zl.out (by rw[abz.out];rfl)
      obtain⟨aow,GD⟩:=GD
      obtain⟨aox,LA⟩:=LA
      clear tI
      go_wp2
      go_roundw
      case rel=>exact⟨j+1,by omega,by go_num,by rw[qD.out,Jb.out],by rw[qD.out];exact abq.out⟩
      case measure=>simp[intOf];omega
    · have e:j=n:=by omega
      subst e
      go_wp2
      go_ret
      exact⟨rfl,fA.out⟩
open Go Go.RowKit
theorem Rf (b:Bool):(b !=b)=false:=by cases b<;>rfl
theorem afq (A:Option Addr) (c o n cap:Nat) (k:Int) (w:World) (cu:0<n→A=some ⟨c,o,none⟩) (hv: ∀i:Nat,i<n→w.cell? ⟨c,o+i,none⟩=some (.bool ((k+i)%3==0))) (aA:0≤k) (h1:k+n≤4611686018427387904):
    Calls Tryz.prog 74 #[.slice A n cap,.int .i64 k] w fun e w'=>e= .returned (.int .i64 (k+n))∧w'=w:=by
  have ku:=Lib.hid cu;clear cu
  replace hv:=Lib.hid hv
  go_enter Tryz.func74,Tryz.ntmps74
  go_wp2
  go_loopw [1,5] (fun q i wr=> ∃j:Nat,j≤n∧i= .int .i64 j∧q= .int .i64 (k+j)∧wr=w) (fun _ i _=>n - (intOf i).toNat)
  case atStart=>exact⟨0,Nat.zero_le _,rfl,by simp,rfl⟩
  case round=>
    obtain⟨j,ah,rfl,rfl,rfl⟩:=hrel
    by_cases aM:j<n
    · obtain rfl:=ku.out (by omega)
      have abe:=hv.out j aM
      have zj: ∀b:Bool,(b !=b)=false:=Rf
      go_wp2
      go_roundw
      case rel=>exact⟨j+1,by omega,by go_num,by go_num,trivial⟩
      case measure=>simp[intOf];omega
    · have e:j=n:=by omega
      subst e
      go_wp2
      go_ret
      exact⟨rfl,rfl⟩
theorem afr (A:Option Addr) (c o n cap:Nat) (k:Int) (w:World) (cu:0<n→A=some ⟨c,o,none⟩) (hv: ∀i:Nat,i<n→w.cell? ⟨c,o+i*2,none⟩=some (.int .i64 (k+2*i))∧w.cell? ⟨c,o+i*2+1,none⟩=some (.int .i64 (k+2*i+1))) (aA:0≤k) (h1:k+2*n≤4611686018427387904):
    Calls Tryz.prog 75 #[.slice A n cap,.int .i64 k] w fun e w'=>e= .returned (.int .i64 (k+2*n))∧w'=w:=by
  have ku:=Lib.hid cu;clear cu
  replace hv:=Lib.hid hv
  go_enter Tryz.func75,Tryz.ntmps75
  go_wp2
  go_loopw [1,5] (fun q i wr=> ∃j:Nat,j≤n∧i= .int .i64 j∧q= .int .i64 (k+2*j)∧wr=w) (fun _ i _=>n - (intOf i).toNat)
  case atStart=>exact⟨0,Nat.zero_le _,rfl,by simp,rfl⟩
  case round=>
    obtain⟨j,ah,rfl,rfl,rfl⟩:=hrel
    by_cases aM:j<n
    · obtain rfl:=ku.out (by omega)
      obtain⟨abe,apo⟩:=hv.out j aM
      have zj: ∀b:Bool,(b !=b)=false:=Rf
      go_wp2
      go_roundw
      case rel=>exact⟨j+1,by omega,by go_num,by go_num,trivial⟩
      case measure=>simp[intOf];omega
    · have e:j=n:=by omega
      subst e
      go_wp2
      go_ret
      exact⟨rfl,rfl⟩
theorem SZ:IZ Tryz.prog 74 (.l .bool):=fun w S L v k h hm aA h1=>by
  obtain⟨A,n,cap,rfl⟩:=h.n9
  obtain⟨qf,c,o,cu,rfl,hc⟩:=h.flat (.inr ⟨rfl,rfl⟩) (q:=1) rfl
  rw[uT] at h1 ⊢
  have h2:k+n≤4611686018427387904:=by omega
  have aj:(Ending.returned (.int .i64 (k+n)):Ending)= .returned (.int .i64 (k+((n*1:Nat):Int))):=by congr 2;omega
  rw[←aj]
  have hv:=ft.row.1 hm
  refine(afq A c o n cap k w cu (fun i hi=>hv i (by omega)) aA h2).mono ?_
  rintro e w' ⟨rfl,rfl⟩
  exact⟨rfl,.refl _ _⟩
theorem afn:IZ Tryz.prog 75 (.l .dx):=fun w S L v k h hm aA h1=>by
  obtain⟨A,n,cap,rfl⟩:=h.n9
  obtain⟨qf,c,o,cu,rfl,hc⟩:=h.flat (.inl ⟨rfl,rfl⟩) (q:=2) rfl
  rw[uT] at h1 ⊢
  have h2:k+2*n≤4611686018427387904:=by omega
  have aj:(Ending.returned (.int .i64 (k+2*n)):Ending)= .returned (.int .i64 (k+((n*2:Nat):Int))):=by congr 2;omega
  rw[←aj]
  have hv:=ft.row.1 hm
  refine(afr A c o n cap k w cu (fun i hi=>⟨(hv (i*2) (by omega)).trans (by show some (Value.int .i64 (k+((i*2:Nat):Int)))=_;congr 2;omega),(by rw[Nat.add_assoc];exact(hv (i*2+1) (by omega)).trans (by show some (Value.int .i64 (k+((i*2+1:Nat):Int)))=_;congr 2;omega))⟩) aA h2).mono ?_
  rintro e w' ⟨rfl,rfl⟩
  exact⟨rfl,.refl _ _⟩
theorem afm:IZ Tryz.prog 76 (.l .held):=fun w S L v k h Tj aA h1=>by
  obtain⟨A,n,cap,rfl⟩:=h.n9
  obtain⟨qf,c,o,Ls,cu,rfl,aw,hi,hb⟩:=h.elem
  have H1:Hid (k+((dv (fun i=>dv (Ls i) 5) n).length:Nat)≤4611686018427387904):=h1
  have w1:Hid (ft w (dv (fun i=>dv (Ls i) 5) n) k):=Tj
  have ku:=Lib.hid cu;clear cu
  have cL:=Lib.hid aw;clear aw
  have ou:=Lib.hid hi;clear hi
  have Cn:=Lib.hid hb;clear hb
  clear h h1 Tj
  show Calls _ _ _ _ fun jl w'=>jl= .returned (.int .i64 (k+((dv (fun i=>dv (Ls i) 5) n).length:Nat)))∧Below w.heap.size w w'
  go_enter Tryz.func76,Tryz.ntmps76
  go_wp2
  go_loopw [1,5] (fun q i wr=> ∃j:Nat,j≤n∧i= .int .i64 j∧q= .int .i64 (k+((dv (fun i=>dv (Ls i) 5) j).length:Nat))∧Below w.heap.size w wr) (fun _ i _=>n - (intOf i).toNat)
  case atStart=>exact⟨0,Nat.zero_le _,rfl,by simp[dv],.refl _ _⟩
  case round=>
    obtain⟨j,ah,rfl,rfl,hm⟩:=hrel
    have fA:=Lib.hid hm;clear hm
    by_cases aM:j<n
    · obtain rfl:=ku.out (by omega)
      obtain⟨cx,-⟩:=ou.out j 0 aM rfl
      rw[show o+(j*(aR.bV .held).length+0)=o+j*5 from by show o+(j*5+0)=_;omega] at cx
      obtain⟨aG,-⟩:=ou.out j 1 aM rfl
      rw[show o+(j*(aR.bV .held).length+1)=o+j*5+1 from by show o+(j*5+1)=_;omega] at aG
      obtain⟨hD,-⟩:=ou.out j 4 aM rfl
      rw[show o+(j*(aR.bV .held).length+4)=o+j*5+4 from by show o+(j*5+4)=_;omega] at hD
      obtain⟨dg,-⟩:=Cn.out j 3 aM rfl
      rw[show o+(j*(aR.bV .held).length+3)=o+j*5+3 from by show o+(j*5+3)=_;omega] at dg
      obtain⟨bF,n2,bg,kV⟩:=cL.out j 2 .bool aM rfl
      rw[show o+(j*(aR.bV .held).length+2)=o+j*5+2 from by show o+(j*5+2)=_;omega] at kV
      have aY:dv (fun i=>dv (Ls i) 5) (j+1)=dv (fun i=>dv (Ls i) 5) j++([(c,o+j*5,false),(c,o+j*5+1,false)]++(Ls j 2++[(c,o+j*5+3,true),(c,o+j*5+4,false)])):=by
        show _++(((((([]:dJ)++Ls j 0)++Ls j 1)++Ls j 2)++Ls j 3)++Ls j 4)=_
        rw[cx,aG,dg,hD];simp only[List.append_assoc,List.nil_append,List.cons_append]
      obtain⟨P,cF⟩: ∃P,dv (fun i=>dv (Ls i) 5) j=P:=⟨_,rfl⟩
      obtain⟨ld,xm⟩: ∃ld,Ls j 2=ld:=⟨_,rfl⟩
      obtain⟨r,aj⟩:=Jv (f:=fun i=>dv (Ls i) 5) (n:=n) (j:=j+1) (by omega)
      have qO:=w1.out
      have h1:k+((dv (fun i=>dv (Ls i) 5) n).length:Nat)≤4611686018427387904:=H1.out
      rw[cF,xm] at aY
      rw[xm] at kV
      rw[aj,aY] at qO h1
      have fz:=Lib.hid kV;clear kV
      have qD:=Lib.hid aY;clear aY
      obtain⟨y,aX⟩: ∃y:Int,k+(P.length:Nat)=y:=⟨_,rfl⟩
      obtain⟨bx,kb⟩: ∃bx:Nat,ld.length=bx:=⟨_,rfl⟩
      have qO:=(ft.sx.1 (ft.sx.1 qO).1).2
      rw[aX] at qO
      obtain⟨⟨d0,d1,-⟩,qO⟩:=ft.sx.1 qO
      obtain⟨d2,d3,d4,-⟩:=ft.sx.1 qO
      rw[show(([(c,o+j*5,false),(c,o+j*5+1,false)]:dJ).length:Nat)=2 from rfl] at d2 d3 d4
      rw[kb] at d3 d4
      have sN:k+(P.length+2+ld.length+2:Nat)≤4611686018427387904:=by
        simp only[List.length_append,List.length_cons,List.length_nil] at h1
        omega
      have TD:0≤y:=by omega
      have DA:y+bx+4≤4611686018427387904:=by omega
      have mR:=CN d0
      have ep:w.cell? ⟨c,o+j*5,none⟩=some (.int .i64 y):=d0
      have cP:w.cell? ⟨c,o+j*5+1,none⟩=some (.int .i64 (y+1)):=d1
      have dV:w.cell? ⟨c,o+j*5+3,none⟩=some (.bool ((y+1+1+bx)%3==0)):=by
        refine d3.trans ?_
        show some (Value.bool ((y+(2:Nat)+bx)%3==0))=_
        rw[show y+((2:Nat):Int)=y+1+1 by omega]
      have j3:w.cell? ⟨c,o+j*5+4,none⟩=some (.int .i64 (y+1+1+bx+1)):=by
        refine d4.trans ?_
        show some (Value.int .i64 (y+(2:Nat)+bx+1))=_
        rw[show y+((2:Nat):Int)=y+1+1 by omega]
      have abo:=Lib.hid dV;clear dV
      have abp:=Lib.hid j3;clear j3
      have IN:Hid (ft w ld (y+1+1)):=by rw[show y+((2:Nat):Int)=y+1+1 by omega] at d2;exact d2
      have Jb:Hid (k+((P++([(c,o+j*5,false),(c,o+j*5+1,false)]++(ld++[(c,o+j*5+3,true),(c,o+j*5+4,false)]))).length:Nat)=y+1+1+bx+1+1):=by
        unfold Hid;simp only[List.length_append,List.length_cons,List.length_nil];omega
      rw[cF,aX]
      have kv:Hid (0≤y+1+1∧y+1+1+(ld.length:Nat)≤4611686018427387904):=by unfold Hid;omega
      have I3:=Lib.hid kb
      have QG:=Lib.hid mR
      have b6:wr.cell? ⟨c,o+j*5,none⟩=some (.int .i64 y):=by simp only[World.cell?,fA.out.block c mR];exact ep
      have q1:wr.cell? ⟨c,o+j*5+1,none⟩=some (.int .i64 (y+1)):=by simp only[World.cell?,fA.out.block c mR];exact cP
      obtain⟨q2,_⟩:=fz.out wr (dC.below fA.out)
      have g1:decide (y+1+1+(bx:Int)<0)=false:=decide_eq_false (by omega)
      clear h1 sN aj cx aG dg hD aX kb cF xm ep cP d0 d1 d2 d3 d4 qO mR
      go_wp2_with (go_at_call 74;refine(SZ _ S ld _ _ (fz.out _ (dC.below fA.out)).2 (IN.out.cZ fun x hx ⟨u,hu⟩=>by simp only[World.cell?,fA.out.block _ (CN hu)]) kv.out.1 kv.out.2).mono ?_)
      rw[I3.out]
      first
      | (rintro e bn rfl hb)
      | (rintro e bn ⟨rfl,hb⟩)
      have IU:=Lib.hid (fA.out.trans (hb.mono fA.out.size));clear hb b6 q1 q2
      have q3:bn.cell? ⟨c,o+j*5+3,none⟩=some (.bool ((y+1+1+bx)%3==0)):=by simp only[World.cell?,IU.out.block c QG.out];exact abo.out
      have q4:bn.cell? ⟨c,o+j*5+4,none⟩=some (.int .i64 (y+1+1+bx+1)):=by simp only[World.cell?,IU.out.block c QG.out];exact abp.out
      go_wp2
      go_roundw
      case rel=>exact⟨j+1,by omega,by go_num,by rw[qD.out,Jb.out],IU.out⟩
      case measure=>simp[intOf];omega
    · have e:j=n:=by omega
      subst e
      go_wp2
      go_ret
      exact⟨rfl,fA.out⟩
open Go Go.RowKit
theorem Rk {w:World} {b:Nat} {bo bk bg ic:Value} {ty:TypeId} (h:w.heap[b]?=some (.cells #[bo,bk,bg,ic] ty (0,0))):w.cell? ⟨b,0,none⟩=some bo∧w.cell? ⟨b,1,none⟩=some bk∧w.cell? ⟨b,2,none⟩=some bg∧w.cell? ⟨b,3,none⟩=some ic:=by
  refine⟨?_,?_,?_,?_⟩<;>simp[World.cell?,h]
theorem an_ (w:World) (S:Nat→Prop) (ok:Bool) (bL bG bF:Option Addr) (bM bo b5 bk n2 bg:Nat) (fJ gM ia:dJ) (k:Int) (m_:eD w S (.l .bool) 0 0 fJ (.slice bL bM bo)) (na:eD w S (.l .dx) 0 0 gM (.slice bG b5 bk)) (pW:eD w S (.l .held) 0 0 ia (.slice bF n2 bg)) (iY:lf (fJ++gM++ia)) (aA:0≤k) (h1:k+(fJ.length:Nat)+(gM.length:Nat)+(ia.length:Nat)≤4611686018427387904):
    Calls Tryz.prog 16 #[.agg #[.bool ok,.slice bL bM bo,.slice bG b5 bk,.slice bF n2 bg],.int .i64 k] w fun jl w'=>jl= .returned (.int .i64 (k+(fJ.length:Nat)+(gM.length:Nat)+(ia.length:Nat)))∧hR w w' S (fJ++gM++ia) k:=by
  have jQ:Hid (dC S w (w.alloc (.cells #[.bool ok,.slice bL bM bo,.slice bG b5 bk,.slice bF n2 bg] 44))):=dC.below ((Below.refl _ _).alloc (Nat.le_refl _) _)
  have o_:Hid (Below w.heap.size w (w.alloc (.cells #[.bool ok,.slice bL bM bo,.slice bG b5 bk,.slice bF n2 bg] 44))):=(Below.refl _ _).alloc (Nat.le_refl _) _
  have ss:Hid ((w.alloc (.cells #[.bool ok,.slice bL bM bo,.slice bG b5 bk,.slice bF n2 bg] 44)).heap[w.heap.size]?=some (.cells #[.bool ok,.slice bL bM bo,.slice bG b5 bk,.slice bF n2 bg] 44 (0,0))):=p0 _ _
  have hl:=Lib.hid m_;clear m_
  have hn:=Lib.hid na;clear na
  have fz:=Lib.hid pW;clear pW
  have Cw:=Lib.hid iY;clear iY
  go_enter Tryz.func16,Tryz.ntmps16
  have o8:Hid (0≤k∧k+(fJ.length:Nat)≤4611686018427387904):=by unfold Hid;omega
  go_wp2_with (go_at_call 61;refine(aan _ S fJ _ _ (hl.out.e8 jQ.out) Cw.out.left.left o8.out.1 o8.out.2).mono ?_)
  first
  | (rintro e bn rfl hb)
  | (rintro e bn ⟨rfl,hb⟩)
  have nK:=Lib.hid hb;clear hb
  have rP:bn.cell? ⟨w.heap.size,2,none⟩=some (.slice bG b5 bk):=nK.out.e8.head ss.out rfl
  have o9:Hid (0≤k+(fJ.length:Nat)∧k+(fJ.length:Nat)+(gM.length:Nat)≤4611686018427387904):=by unfold Hid;omega
  go_wp2_with (go_at_call 62;refine(aob _ S gM _ _ (hn.out.e8 (jQ.out.trans nK.out.e8)) Cw.out.left.right o9.out.1 o9.out.2).mono ?_)
  first
  | (rintro e bK rfl hb)
  | (rintro e bK ⟨rfl,hb⟩)
  have nL:=Lib.hid (nK.out.dv hb Cw.out.left rfl);clear hb rP
  have ub:bK.cell? ⟨w.heap.size,3,none⟩=some (.slice bF n2 bg):=nL.out.e8.head ss.out rfl
  have kv:Hid (0≤k+(fJ.length:Nat)+(gM.length:Nat)∧k+(fJ.length:Nat)+(gM.length:Nat)+(ia.length:Nat)≤4611686018427387904):=by unfold Hid;omega
  go_wp2_with (go_at_call 63;refine(aoa _ S ia _ _ (fz.out.e8 (jQ.out.trans nL.out.e8)) Cw.out.right kv.out.1 kv.out.2).mono ?_)
  first
  | (rintro e da rfl hb)
  | (rintro e da ⟨rfl,hb⟩)
  have w3:=Lib.hid (nL.out.dv hb Cw.out (by rw[List.length_append];omega));clear hb ub
  go_wp2
  go_ret
  exact⟨rfl,.below o_.out w3.out⟩
theorem afl (w:World) (S:Nat→Prop) (ok:Bool) (bL bG bF:Option Addr) (bM bo b5 bk n2 bg:Nat) (fJ gM ia:dJ) (k:Int) (m_:eD w S (.l .bool) 0 0 fJ (.slice bL bM bo)) (na:eD w S (.l .dx) 0 0 gM (.slice bG b5 bk)) (pW:eD w S (.l .held) 0 0 ia (.slice bF n2 bg)) (hm:ft w (fJ++gM++ia) k) (aA:0≤k) (h1:k+(fJ.length:Nat)+(gM.length:Nat)+(ia.length:Nat)≤4611686018427387904):
    Calls Tryz.prog 84 #[.agg #[.bool ok,.slice bL bM bo,.slice bG b5 bk,.slice bF n2 bg],.int .i64 k] w fun jl w'=>jl= .returned (.int .i64 (k+(fJ.length:Nat)+(gM.length:Nat)+(ia.length:Nat)))∧Below w.heap.size w w':=by
  have o_:Hid (Below w.heap.size w (w.alloc (.cells #[.bool ok,.slice bL bM bo,.slice bG b5 bk,.slice bF n2 bg] 44))):=(Below.refl _ _).alloc (Nat.le_refl _) _
  have ss:Hid ((w.alloc (.cells #[.bool ok,.slice bL bM bo,.slice bG b5 bk,.slice bF n2 bg] 44)).heap[w.heap.size]?=some (.cells #[.bool ok,.slice bL bM bo,.slice bG b5 bk,.slice bF n2 bg] 44 (0,0))):=p0 _ _
  have hl:=Lib.hid m_;clear m_
  have hn:=Lib.hid na;clear na
  have fz:=Lib.hid pW;clear pW
  obtain⟨hm,kb⟩:=ft.sx.1 hm
  obtain⟨uf,Gz⟩:=ft.sx.1 hm
  clear hm
  rw[List.length_append,show k+((fJ.length+gM.length:Nat):Int)=k+(fJ.length:Nat)+(gM.length:Nat) by omega] at kb
  have aa_:=Lib.hid uf;clear uf
  have aba:=Lib.hid Gz;clear Gz
  have IN:=Lib.hid kb;clear kb
  have Cp:Hid (∀(L:dJ) (k:Int) (w':World),Below w.heap.size w w'→ft w L k→ft w' L k):=fun L k w' hb h=>h.cZ fun x hx ⟨u,hu⟩=>by simp only[World.cell?,hb.block _ (CN hu)]
  have IR:Hid (∀{w':World},Below w.heap.size w w'→ ∀{e:aR} {L:dJ} {v:Value},eD w S e 0 0 L v→eD w' S e 0 0 L v):=fun hb _ _ _ h=>h.e8 (S':=S) (dC.below hb)
  have ry:Hid ((w.alloc (.cells #[.bool ok,.slice bL bM bo,.slice bG b5 bk,.slice bF n2 bg] 44)).heap.size=w.heap.size+1):=by unfold Hid;simp
  go_enter Tryz.func84,Tryz.ntmps84
  have o8:Hid (0≤k∧k+(fJ.length:Nat)≤4611686018427387904):=by unfold Hid;omega
  have g1:decide (k+(fJ.length:Nat)<0)=false:=decide_eq_false (by omega)
  have g2:decide (k+(fJ.length:Nat)+(gM.length:Nat)<0)=false:=decide_eq_false (by omega)
  have g3:decide (k+(fJ.length:Nat)+(gM.length:Nat)+(ia.length:Nat)<0)=false:=decide_eq_false (by omega)
  go_wp2_with (go_at_call 74;go_loud (refine(SZ _ S fJ (.slice bL bM bo) k (IR.out o_.out hl.out) (Cp.out fJ k _ o_.out aa_.out) o8.out.1 o8.out.2).mono ?_))
  first
  | (rintro e bn rfl hb)
  | (rintro e bn ⟨rfl,hb⟩)
  have qg:bn.heap[w.heap.size]?=some (.cells #[.bool ok,.slice bL bM bo,.slice bG b5 bk,.slice bF n2 bg] 44 (0,0)):=(hb.block _ (by rw[ry.out];omega)).trans ss.out
  have fe:w.heap.size<bn.heap.size:=Nat.lt_of_lt_of_le (by rw[ry.out];omega) hb.size
  have QJ:=Lib.hid qg;clear qg
  have Cv:=Lib.hid fe;clear fe
  have nK:=Lib.hid (o_.out.trans (hb.mono o_.out.size));clear hb
  obtain⟨-,-,rP,-⟩:=Rk QJ.out
  have o9:Hid (0≤k+(fJ.length:Nat)∧k+(fJ.length:Nat)+(gM.length:Nat)≤4611686018427387904):=by unfold Hid;omega
  go_wp2_with (go_at_call 75;refine(afn _ S gM _ _ (IR.out nK.out hn.out) (Cp.out _ _ _ nK.out aba.out) o9.out.1 o9.out.2).mono ?_)
  first
  | (rintro e bK rfl hb)
  | (rintro e bK ⟨rfl,hb⟩)
  have TA:bK.heap[w.heap.size]?=some (.cells #[.bool ok,.slice bL bM bo,.slice bG b5 bk,.slice bF n2 bg] 44 (0,0)):=(hb.block _ Cv.out).trans QJ.out
  have abf:=Lib.hid TA;clear TA
  have nL:=Lib.hid (nK.out.trans (hb.mono nK.out.size));clear hb rP
  obtain⟨-,-,-,ub⟩:=Rk abf.out
  have kv:Hid (0≤k+(fJ.length:Nat)+(gM.length:Nat)∧k+(fJ.length:Nat)+(gM.length:Nat)+(ia.length:Nat)≤4611686018427387904):=by unfold Hid;omega
  go_wp2_with (go_at_call 76;refine(afm _ S ia _ _ (IR.out nL.out fz.out) (Cp.out _ _ _ nL.out IN.out) kv.out.1 kv.out.2).mono ?_)
  first
  | (rintro e da rfl hb)
  | (rintro e da ⟨rfl,hb⟩)
  have w3:=Lib.hid (nL.out.trans (hb.mono nL.out.size));clear hb ub
  go_wp2
  go_ret
  exact⟨rfl,w3.out⟩
open Go Go.RowKit
def ti (F:Frame):Nat:=F.aB.length+F.au.length*2+(F.O.map fun h=>4+h.ae.length).sum
def YX (F:Frame):Prop:=F.aB.length≤4611686018427387904∧F.au.length≤4611686018427387904∧F.O.length≤4611686018427387904∧ ∀h∈F.O,h.ae.length≤4611686018427387904
theorem acD {w:World} {S:Nat→Prop} {ok:Bool} {bL bG bF:Option Addr} {bM bo b5 bk n2 bg:Nat} {L:dJ} {k:Int} (h:ib .bool .dx .held w S bL bG bF bM bo b5 bk n2 bg L) (aW:lf L) (aA:0≤k) (h1:k+(L.length:Nat)≤4611686018427387904):
    Calls Tryz.prog 16 #[.agg #[.bool ok,.slice bL bM bo,.slice bG b5 bk,.slice bF n2 bg],.int .i64 k] w fun e w'=>e= .returned (.int .i64 (k+(L.length:Nat)))∧hR w w' S L k:=by
  obtain⟨fJ,gM,ia,rfl,eU,s1,s2⟩:=h
  have aG:k+((fJ++gM++ia).length:Nat)=k+(fJ.length:Nat)+(gM.length:Nat)+(ia.length:Nat):=by rw[List.length_append,List.length_append];omega
  rw[aG] at h1 ⊢
  exact an_ w S ok bL bG bF bM bo b5 bk n2 bg fJ gM ia k eU s1 s2 aW aA h1
theorem acz {w:World} {S:Nat→Prop} {ok:Bool} {bL bG bF:Option Addr} {bM bo b5 bk n2 bg:Nat} {L:dJ} {k:Int} (h:ib .bool .dx .held w S bL bG bF bM bo b5 bk n2 bg L∧ft w L k) (aA:0≤k) (h1:k+(L.length:Nat)≤4611686018427387904):
    Calls Tryz.prog 84 #[.agg #[.bool ok,.slice bL bM bo,.slice bG b5 bk,.slice bF n2 bg],.int .i64 k] w fun e w'=>e= .returned (.int .i64 (k+(L.length:Nat)))∧Below w.heap.size w w':=by
  obtain⟨⟨fJ,gM,ia,rfl,eU,s1,s2⟩,hm⟩:=h
  have aG:k+((fJ++gM++ia).length:Nat)=k+(fJ.length:Nat)+(gM.length:Nat)+(ia.length:Nat):=by rw[List.length_append,List.length_append];omega
  rw[aG] at h1 ⊢
  exact afl w S ok bL bG bF bM bo b5 bk n2 bg fJ gM ia k eU s1 s2 hm aA h1
theorem aal {α:Type} {f:α→Nat} {c:Nat}: ∀{xs:List α},(∀x∈xs,f x≤c)→(xs.map f).sum≤xs.length*c
  | [],_=>by simp
  | x::r,h=>by
    rw[List.map_cons,List.sum_cons,List.length_cons,Nat.succ_mul]
    have:=h x (List.mem_cons_self ..)
    have:=aal (xs:=r) fun y aX=>h y (List.mem_cons_of_mem _ aX)
    omega
end Go.Proofs.YtejmihecgodhnaaGreat.Fw
set_option linter.unusedVariables false
set_option maxRecDepth 100000
set_option maxHeartbeats 4000000
set_option linter.unusedSimpArgs false
namespace Go.Proofs.YtejmihecgodhnaaGreat.Fw
open Go
attribute [local irreducible] evS evSD WpS Weak Oper.looksAt
section
variable (a0 J:jO) (aa:Bool)
def Vr:Prop:=
 ((a0.code !=J.code)=true→false=aa)∧((!(a0.code !=J.code))=true→((!(eqv a0.frame J.frame))=true→false=aa)∧((!(!(eqv a0.frame J.frame)))=true→true=aa))
theorem ais:bf Tryz.prog 31 [.agg (ir false a0),.agg (ir false J)] (aq (eqv a0 J)):=(fun(h:Vr a0 J (eqv a0 J))=>bf.run (ps:=[.done,.done]) (rs:=[.bool]) (x:=(a0,J,())) (r:=((eqv a0 J),())) ⟨16,c5,[ait]⟩ ⟨[],[],[],[],[]⟩ .nil Tryz.func31 h) (by
 unfold Vr
 obtain⟨a,b⟩:=a0
 obtain⟨hL,bU⟩:=J
 simp[eqv]
 intros
 simp_all)
end
end Go.Proofs.YtejmihecgodhnaaGreat.Fw
set_option linter.unusedVariables false
namespace Go.Proofs.YtejmihecgodhnaaGreat.Fw
open Go Go.RowKit
theorem aoq {s:jO} {w:World} {B:Nat→Prop} {v:Value} (h:et w B (.agg (ir false s)) v): ∃bL bo bG bk bF bg,v= .agg #[.int .i64 s.code,.bool s.frame.ok,.slice bL s.frame.aB.length bo,.slice bG s.frame.au.length bk,.slice bF s.frame.O.length bg]:=by
  obtain⟨vs,rfl,ab⟩:=(show ∃vs:List Value,v= .agg vs.toArray∧ak (b4 (Env.ro w B)) (ir false s) vs from h)
  obtain⟨z,vs,rfl,az,ab⟩:=ab.cons_inv
  obtain⟨a,vs,rfl,ar,ab⟩:=ab.cons_inv
  obtain⟨b,vs,rfl,hb,ab⟩:=ab.cons_inv
  obtain⟨c,vs,rfl,hc,ab⟩:=ab.cons_inv
  obtain⟨d,vs,rfl,aW,ab⟩:=ab.cons_inv
  obtain rfl:=ab.n8
  have az:aP w _ _ (.int .i64 s.code) z:=az
  have ar:aP w _ _ (.bool s.frame.ok) a:=ar
  cases az;cases ar
  obtain⟨bL,bo,rfl,ep⟩:=u7 (lP hb)
  obtain⟨bG,bk,rfl,cP⟩:=u7 (lP hc)
  obtain⟨bF,bg,rfl,dd⟩:=u7 (lP aW)
  simp only[List.length_map]
  exact⟨bL,bo,bG,bk,bF,bg,rfl⟩
theorem acF {P:Program} {f:FuncId} {args:List AV} {s:jO} (h:de P f args [] fun r H=>r= .agg [ai s.code,aq s.frame.ok,ay 0 0 s.frame.aB.length,ay 1 0 s.frame.au.length,ay 2 0 s.frame.O.length]∧H=j0 s.frame) (fo:YX s.frame) {w:World} {vs:List Value} (ar:ak (V2 (Env.at w)) args vs):
    Calls P f vs.toArray w fun e w'=> ∃bL bo bG bk bF bg L,e= .returned (.agg #[.int .i64 s.code,.bool s.frame.ok,.slice bL s.frame.aB.length bo,.slice bG s.frame.au.length bk,.slice bF s.frame.O.length bg])∧Below w.heap.size w w'∧et w' (fG w w') (.agg (ir false s)) (.agg #[.int .i64 s.code,.bool s.frame.ok,.slice bL s.frame.aB.length bo,.slice bG s.frame.au.length bk,.slice bF s.frame.O.length bg])∧ib .bool .dx .held w' (fG w w') bL bG bF s.frame.aB.length bo s.frame.au.length bk s.frame.O.length bg L∧lf L∧L.length=ti s.frame:=by
  refine(h.2 (Env.at w) vs (fun _=>rfl) (Jg w) ar).mono ?_
  rintro jl w' ⟨r,v,H',E',rfl,⟨rfl,rfl⟩,rfl,af,hs,hv,a7⟩
  have hb:RowKit.Below w.heap.size w E'.w:=⟨a7.os,a7.tape,a7.output,a7.size,fun k hk=>a7.cZ k hk (fun⟨b,hb⟩=>by cases hb) (fun⟨b,hb⟩=>by cases hb)⟩
  have jW: ∀c,E'.PF c∨E'.fZ c→fG w E'.w c:=fun c hc=>by
    rcases hc with hc | hc
    · exact⟨(a7.fU c hc).elim (fun h=>h.elim) id,hs.ea c (hs.dU c hc),hs.ga c hc⟩
    · exact⟨(a7.qU c hc).elim (fun⟨b,hb⟩=>by cases hb) id,hs.gD c hc,hs.TJ hc⟩
  have aj:j7 (j0 s.frame) (.agg [ai s.code,aq s.frame.ok,ay 0 0 s.frame.aB.length,ay 1 0 s.frame.au.length,ay 2 0 s.frame.O.length]) (p8 .done s):=by
    refine j7.agg (ak.cons (BS rfl) (ak.cons (tv rfl) (ak.cons (wN (sz:=1) rfl rfl CL ⟨fo.1,rfl⟩) (ak.cons (wN (sz:=2) rfl rfl Fz ⟨fo.2.1,rfl⟩) (ak.cons (P4 (s:=3) (ws:=s.frame.O) (ids:=List.range s.frame.O.length) (bs:=s.frame.O.map av.ae) rfl rfl (fun id k h=>h) ⟨(R9 s.frame.O).1,fo.2.2.1,fun x hx=> ?_,(R9 s.frame.O).2⟩) ak.nil)))))
    obtain⟨q,U,rfl⟩:=List.mem_map.1 hx
    exact fo.2.2.2 q U
  have aY:=aor (e:= .done) (x:=s) hs aj hv jW
  obtain⟨eZ,rfl,ab⟩:=(show ∃eZ:List Value,v= .agg eZ.toArray∧ak (b4 E') [ai s.code,aq s.frame.ok,ay 0 0 s.frame.aB.length,ay 1 0 s.frame.au.length,ay 2 0 s.frame.O.length] eZ from hv)
  obtain⟨aoF,eZ,rfl,iv,ab⟩:=ab.cons_inv
  obtain⟨aoE,eZ,rfl,xt,ab⟩:=ab.cons_inv
  obtain⟨v0,eZ,rfl,aA,ab⟩:=ab.cons_inv
  obtain⟨v1,eZ,rfl,h1,ab⟩:=ab.cons_inv
  obtain⟨v2,eZ,rfl,h2,ab⟩:=ab.cons_inv
  obtain rfl:=ab.n8
  have iv:aP E'.w E'.PA E'.PF (.int .i64 s.code) aoF:=iv
  have xt:aP E'.w E'.PA E'.PF (.bool s.frame.ok) aoE:=xt
  cases iv;cases xt
  obtain⟨bL,bo,bG,bk,bF,bg,L,rfl,rfl,rfl,hf,aW,aw⟩:=akX hs (S:=fG w E'.w) (fun c hc=>jW c (.inr hc)) fo aA h1 h2
  exact⟨bL,bo,bG,bk,bF,bg,L,rfl,hb,aY,hf,aW,aw⟩
def zd (w:World) (s:jO) (e:Ending) (w':World):Prop:= ∃bL bo bG bk bF bg L,e= .returned (.agg #[.int .i64 s.code,.bool s.frame.ok,.slice bL s.frame.aB.length bo,.slice bG s.frame.au.length bk,.slice bF s.frame.O.length bg])∧Below w.heap.size w w'∧et w' (fG w w') (.agg (ir false s)) (.agg #[.int .i64 s.code,.bool s.frame.ok,.slice bL s.frame.aB.length bo,.slice bG s.frame.au.length bk,.slice bF s.frame.O.length bg])∧ib .bool .dx .held w' (fG w w') bL bG bF s.frame.aB.length bo s.frame.au.length bk s.frame.O.length bg L∧lf L∧L.length=ti s.frame
theorem zw {w:World} {b:Nat} {bo bk bg ic lR:Value} {ty:TypeId} (h:w.heap[b]?=some (.cells #[bo,bk,bg,ic,lR] ty (0,0))):w.frozen? ⟨b,0,none⟩=false∧w.frozen? ⟨b,1,none⟩=false∧w.frozen? ⟨b,2,none⟩=false∧w.frozen? ⟨b,3,none⟩=false∧w.frozen? ⟨b,4,none⟩=false:=by
  refine⟨?_,?_,?_,?_,?_⟩<;>simp[World.frozen?,h]
theorem b8.pK {W w:World} {l:List fF} (h:b8 W w l) {b:Nat} (v0 v1 v2 v3 v4:Value) (hb:W.heap.size≤b:=by omega):Below W.heap.size W (((((w.setCell ⟨b,0,none⟩ v0).setCell ⟨b,1,none⟩ v1).setCell ⟨b,2,none⟩ v2).setCell ⟨b,3,none⟩ v3).setCell ⟨b,4,none⟩ v4):=
  ((((h.end.setCell hb _).setCell hb _).setCell hb _).setCell hb _).setCell hb _
theorem Ho (w:World) (B:Nat→Prop):et w B (.agg (ir false ⟨1,⟨false,[],[],[]⟩⟩)) (.agg #[.int .i64 1,.bool false,.slice none 0 0,.slice none 0 0,.slice none 0 0])∧ib .bool .dx .held w B none none none 0 0 0 0 0 0 []:=by
  have r:b4 (Env.ro w B) (.aZ [] false false) (.slice none 0 0):=aP.aZ (rows:=[]) (PB:=fun _=>False) (sz:=0) (vs:=fun _ _=>undef) (fun _ h=>h.elim) ⟨Nat.zero_le _,Nat.zero_le _⟩ (fun h=>by cases h) (fun i row h=>by simp at h) (fun h=>by simp at h) (fun i j row a h=>by simp at h)
  have s: ∀e:aR,eD w B (.l e) 0 0 [] (.slice none 0 0):=fun e=> .aZ (e:=e) (n:=0) (Ls:=fun _ _=>[]) (vs:=fun _ _=>undef) 0 0 ⟨Nat.zero_le _,Nat.zero_le _⟩ (fun h=>absurd h (by omega)) (fun i j bZ hi _=>by omega)
  exact⟨⟨[.int .i64 1,.bool false,.slice none 0 0,.slice none 0 0,.slice none 0 0],rfl,.cons (aP.int _ _) (.cons (aP.bool _) (.cons r (.cons r (.cons r .nil))))⟩,[],[],[],rfl,s _,s _,s _⟩
theorem JE {p:aQ} {f:Frame} (ab:tW p f) {w:World} {v u:Value} (h:V2 (Env.at w) (.agg (bH false p)) v) (h':V2 (Env.at w) (.agg (b9 false f)) u):
    Calls Tryz.prog 49 #[v,u] w fun e w'=>e= .returned (.bool (h3 p f))∧Below w.heap.size w w':=
  bf.bool (vs:=[v,u]) (agR p f ab) (.cons h (.cons h' .nil))
theorem Rt {p:aQ} {ev:Event} {w:World} {v u:Value} (h:V2 (Env.at w) (.agg (bH false p)) v) (h':V2 (Env.at w) (.agg (ie ev)) u):
    Calls Tryz.prog 71 #[v,u] w fun e w'=>e= .returned (.bool (hE p ev))∧Below w.heap.size w w':=
  bf.bool (vs:=[v,u]) (ahi p ev) (.cons h (.cons h' .nil))
theorem amF {f:Frame} (h:my f):YX f:=⟨by have:=h.1;omega,by have:=h.2.1;omega,by have:=h.2.2.1;omega,fun x hx=>by have:=h.2.2.2 x hx;omega⟩
theorem RJ {p:aQ} {f:Frame} {e:Event} (h:FK p f e):iG p (lT p f e).frame:=by
  unfold lT
  split
  · exact h.1.fr
  · exact Bt (JZ h.1.fr (xg h.2)) _
theorem acA {p:aQ} {f:Frame} {ev:Event} (ab:FK p f ev) {w:World} {v u x:Value} (h:V2 (Env.at w) (.agg (bH false p)) v) (h':V2 (Env.at w) (.agg (b9 false f)) u) (h2:V2 (Env.at w) (.agg (ie ev)) x):
    Calls Tryz.prog 72 #[v,u,x] w (zd w (lT p f ev)):=
  acF (vs:=[v,u,x]) (ag8 p f ev ab) (amF (Sj ⟨ab.1.qb,RJ ab⟩)) (.cons h (.cons h' (.cons h2 .nil)))
theorem V2.below {a:AV} {v:Value} {w w':World} (h:V2 (Env.at w) a v) (hb:Below w.heap.size w w'):V2 (Env.at w') a v:=
  V2.le (E:=Env.at w) (E':=Env.at w') ⟨fun c hc=>Nat.lt_of_lt_of_le hc hb.size,fun _ h=>h.elim,fun c hc=>hb.block c hc,fun _ h=>h.elim,fun _=>Nat.le_refl _,(fun _ _ h _=>by cases h),(fun _ _ h=>by cases h)⟩ h
theorem Fx {w:World} {b:Nat} {bo bk bg:Value} {ty:TypeId} (h:w.heap[b]?=some (.cells #[bo,bk,bg] ty (0,0))):w.cell? ⟨b,0,none⟩=some bo∧w.cell? ⟨b,1,none⟩=some bk∧w.cell? ⟨b,2,none⟩=some bg:=by
  refine⟨?_,?_,?_⟩<;>simp[World.cell?,h]
theorem Jx {w:World} {b o:Nat} {v:Value} (h:(w.cell? ⟨b,o,none⟩).isSome=true):(w.setCell ⟨b,o,none⟩ v).cell? ⟨b,o,none⟩=some v:=by
  obtain⟨u,hu⟩:=Option.isSome_iff_exists.1 h
  exact Jw hu
set_option maxHeartbeats 4000000
set_option maxRecDepth 100000
theorem aoJ (p:aQ) (f:Frame) (ev:Event) (ab:tW p f) (w:World) (fk fl fm fO fv fP:Option Addr) (aF aO bC eg d_ eW:Nat)
    (h1:V2 (Env.at w) (.agg (bH false p)) (.agg #[.int .i64 p.ao,.slice fk p.a_.length aF,.slice fl p.O.length aO,.slice fm p.bu.length bC,.int .i64 p.cv]))
    (h2:V2 (Env.at w) (.agg (b9 false f)) (.agg #[.bool f.ok,.slice fO f.aB.length eg,.slice fv f.au.length d_,.slice fP f.O.length eW])) (U:h3 p f=false):
    Calls Tryz.prog 30 #[.agg #[.int .i64 p.ao,.slice fk p.a_.length aF,.slice fl p.O.length aO,.slice fm p.bu.length bC,.int .i64 p.cv],.agg #[.bool f.ok,.slice fO f.aB.length eg,.slice fv f.au.length d_,.slice fP f.O.length eW],.agg #[.int .i64 ev.op,.int .i64 ev.aC,.int .i64 ev.a1]] w (zd w ⟨1,⟨false,[],[],[]⟩⟩):=by
  have Cu:=Lib.hid U;clear U
  have H1:=Lib.hid h1;clear h1
  have h_:=Lib.hid h2;clear h2
  have tF:=Lib.hid ab;clear ab
  have kS:Hid (b8 w ((((w.alloc (.cells #[.int .i64 p.ao,.slice fk p.a_.length aF,.slice fl p.O.length aO,.slice fm p.bu.length bC,.int .i64 p.cv] 39)).alloc (.cells #[.bool f.ok,.slice fO f.aB.length eg,.slice fv f.au.length d_,.slice fP f.O.length eW] 44)).alloc (.cells #[.int .i64 ev.op,.int .i64 ev.aC,.int .i64 ev.a1] 69)).alloc (.cells #[.int .i64 0,.bool false,.slice none 0 0,.slice none 0 0,.slice none 0 0] 67)) [dm w.heap.size #[.int .i64 p.ao,.slice fk p.a_.length aF,.slice fl p.O.length aO,.slice fm p.bu.length bC,.int .i64 p.cv] 39,dm (w.heap.size+1) #[.bool f.ok,.slice fO f.aB.length eg,.slice fv f.au.length d_,.slice fP f.O.length eW] 44,dm (w.heap.size+1+1) #[.int .i64 ev.op,.int .i64 ev.aC,.int .i64 ev.a1] 69,dm (w.heap.size+1+1+1) #[.int .i64 0,.bool false,.slice none 0 0,.slice none 0 0,.slice none 0 0] 67]):=by
    have:=((((b8.start w).box #[.int .i64 p.ao,.slice fk p.a_.length aF,.slice fl p.O.length aO,.slice fm p.bu.length bC,.int .i64 p.cv] 39).box #[.bool f.ok,.slice fO f.aB.length eg,.slice fv f.au.length d_,.slice fP f.O.length eW] 44).box #[.int .i64 ev.op,.int .i64 ev.aC,.int .i64 ev.a1] 69).box #[.int .i64 0,.bool false,.slice none 0 0,.slice none 0 0,.slice none 0 0] 67
    simp only[World.size_alloc] at this
    exact this
  have w2:Hid (V2 (Env.at w) (.agg (ie ev)) (.agg #[.int .i64 ev.op,.int .i64 ev.aC,.int .i64 ev.a1])):=⟨[.int .i64 ev.op,.int .i64 ev.aC,.int .i64 ev.a1],rfl,.cons (aP.int _ _) (.cons (aP.int _ _) (.cons (aP.int _ _) .nil))⟩
  go_enter Tryz.func30,Tryz.ntmps30
  go_wp2_with (go_at_call 49;refine(JE tF.out (H1.out.below kS.out.end) (h_.out.below kS.out.end)).mono ?_)
  rw[Cu.out]
  first
  | (rintro e bn rfl hb)
  | (rintro e bn ⟨rfl,hb⟩)
  have iq:=Lib.hid (kS.out.below hb);clear hb kS
  obtain⟨ep,cP,dd,dV,j3⟩:=zw (iq.out.get 3)
  obtain⟨b6,q1,q2,q3,q4⟩:=kx (iq.out.get 3)
  go_wp2
  (try simp only[Exit.inBlock,Exit.then])
  refine bodyPost_ret (by simp[results,Tryz.results30,go_sem,Jx,b6,q1,q2,q3,q4];try rfl) rfl ?_
  exact⟨none,0,none,0,none,0,[],rfl,iq.out.pK _ _ _ _ _,(Ho _ _).1,(Ho _ _).2,List.Pairwise.nil,rfl⟩
theorem aoK (p:aQ) (f:Frame) (ev:Event) (ab:tW p f) (w:World) (fk fl fm fO fv fP:Option Addr) (aF aO bC eg d_ eW:Nat)
    (h1:V2 (Env.at w) (.agg (bH false p)) (.agg #[.int .i64 p.ao,.slice fk p.a_.length aF,.slice fl p.O.length aO,.slice fm p.bu.length bC,.int .i64 p.cv]))
    (h2:V2 (Env.at w) (.agg (b9 false f)) (.agg #[.bool f.ok,.slice fO f.aB.length eg,.slice fv f.au.length d_,.slice fP f.O.length eW])) (U:h3 p f=true) (hi:hE p ev=false):
    Calls Tryz.prog 30 #[.agg #[.int .i64 p.ao,.slice fk p.a_.length aF,.slice fl p.O.length aO,.slice fm p.bu.length bC,.int .i64 p.cv],.agg #[.bool f.ok,.slice fO f.aB.length eg,.slice fv f.au.length d_,.slice fP f.O.length eW],.agg #[.int .i64 ev.op,.int .i64 ev.aC,.int .i64 ev.a1]] w (zd w ⟨1,⟨false,[],[],[]⟩⟩):=by
  have Cu:=Lib.hid U;clear U
  have ou:=Lib.hid hi;clear hi
  have H1:=Lib.hid h1;clear h1
  have h_:=Lib.hid h2;clear h2
  have tF:=Lib.hid ab;clear ab
  have kS:Hid (b8 w ((((w.alloc (.cells #[.int .i64 p.ao,.slice fk p.a_.length aF,.slice fl p.O.length aO,.slice fm p.bu.length bC,.int .i64 p.cv] 39)).alloc (.cells #[.bool f.ok,.slice fO f.aB.length eg,.slice fv f.au.length d_,.slice fP f.O.length eW] 44)).alloc (.cells #[.int .i64 ev.op,.int .i64 ev.aC,.int .i64 ev.a1] 69)).alloc (.cells #[.int .i64 0,.bool false,.slice none 0 0,.slice none 0 0,.slice none 0 0] 67)) [dm w.heap.size #[.int .i64 p.ao,.slice fk p.a_.length aF,.slice fl p.O.length aO,.slice fm p.bu.length bC,.int .i64 p.cv] 39,dm (w.heap.size+1) #[.bool f.ok,.slice fO f.aB.length eg,.slice fv f.au.length d_,.slice fP f.O.length eW] 44,dm (w.heap.size+1+1) #[.int .i64 ev.op,.int .i64 ev.aC,.int .i64 ev.a1] 69,dm (w.heap.size+1+1+1) #[.int .i64 0,.bool false,.slice none 0 0,.slice none 0 0,.slice none 0 0] 67]):=by
    have:=((((b8.start w).box #[.int .i64 p.ao,.slice fk p.a_.length aF,.slice fl p.O.length aO,.slice fm p.bu.length bC,.int .i64 p.cv] 39).box #[.bool f.ok,.slice fO f.aB.length eg,.slice fv f.au.length d_,.slice fP f.O.length eW] 44).box #[.int .i64 ev.op,.int .i64 ev.aC,.int .i64 ev.a1] 69).box #[.int .i64 0,.bool false,.slice none 0 0,.slice none 0 0,.slice none 0 0] 67
    simp only[World.size_alloc] at this
    exact this
  have w2:Hid (V2 (Env.at w) (.agg (ie ev)) (.agg #[.int .i64 ev.op,.int .i64 ev.aC,.int .i64 ev.a1])):=⟨[.int .i64 ev.op,.int .i64 ev.aC,.int .i64 ev.a1],rfl,.cons (aP.int _ _) (.cons (aP.int _ _) (.cons (aP.int _ _) .nil))⟩
  go_enter Tryz.func30,Tryz.ntmps30
  go_wp2_with (go_at_call 49;refine(JE tF.out (H1.out.below kS.out.end) (h_.out.below kS.out.end)).mono ?_)
  rw[Cu.out]
  first
  | (rintro e bn rfl hb)
  | (rintro e bn ⟨rfl,hb⟩)
  have kw:=Lib.hid (kS.out.below hb);clear hb kS
  obtain⟨b6,q1,q2,q3,q4⟩:=kx (kw.out.get 0)
  obtain⟨ep,cP,dd⟩:=Fx (kw.out.get 2)
  go_wp2_with (go_at_call 71;refine(Rt (H1.out.below kw.out.end) (w2.out.below kw.out.end)).mono ?_)
  rw[ou.out]
  first
  | (rintro e bK rfl hb)
  | (rintro e bK ⟨rfl,hb⟩)
  have iq:=Lib.hid (kw.out.below hb);clear hb kw b6 q1 q2 q3 q4 ep cP dd
  obtain⟨ep,cP,dd,dV,j3⟩:=zw (iq.out.get 3)
  obtain⟨b6,q1,q2,q3,q4⟩:=kx (iq.out.get 3)
  go_wp2
  (try simp only[Exit.inBlock,Exit.then])
  refine bodyPost_ret (by simp[results,Tryz.results30,go_sem,Jx,b6,q1,q2,q3,q4];try rfl) rfl ?_
  exact⟨none,0,none,0,none,0,[],rfl,iq.out.pK _ _ _ _ _,(Ho _ _).1,(Ho _ _).2,List.Pairwise.nil,rfl⟩
theorem aoL (p:aQ) (f:Frame) (ev:Event) (ab:tW p f) (w:World) (fk fl fm fO fv fP:Option Addr) (aF aO bC eg d_ eW:Nat)
    (h1:V2 (Env.at w) (.agg (bH false p)) (.agg #[.int .i64 p.ao,.slice fk p.a_.length aF,.slice fl p.O.length aO,.slice fm p.bu.length bC,.int .i64 p.cv]))
    (h2:V2 (Env.at w) (.agg (b9 false f)) (.agg #[.bool f.ok,.slice fO f.aB.length eg,.slice fv f.au.length d_,.slice fP f.O.length eW])) (hw:FK p f ev) (U:h3 p f=true) (hi:hE p ev=true):
    Calls Tryz.prog 30 #[.agg #[.int .i64 p.ao,.slice fk p.a_.length aF,.slice fl p.O.length aO,.slice fm p.bu.length bC,.int .i64 p.cv],.agg #[.bool f.ok,.slice fO f.aB.length eg,.slice fv f.au.length d_,.slice fP f.O.length eW],.agg #[.int .i64 ev.op,.int .i64 ev.aC,.int .i64 ev.a1]] w (zd w (lT p f ev)):=by
  have Cu:=Lib.hid U;clear U
  have ou:=Lib.hid hi;clear hi
  have jQ:=Lib.hid hw;clear hw
  have H1:=Lib.hid h1;clear h1
  have h_:=Lib.hid h2;clear h2
  have tF:=Lib.hid ab;clear ab
  have kS:Hid (b8 w ((((w.alloc (.cells #[.int .i64 p.ao,.slice fk p.a_.length aF,.slice fl p.O.length aO,.slice fm p.bu.length bC,.int .i64 p.cv] 39)).alloc (.cells #[.bool f.ok,.slice fO f.aB.length eg,.slice fv f.au.length d_,.slice fP f.O.length eW] 44)).alloc (.cells #[.int .i64 ev.op,.int .i64 ev.aC,.int .i64 ev.a1] 69)).alloc (.cells #[.int .i64 0,.bool false,.slice none 0 0,.slice none 0 0,.slice none 0 0] 67)) [dm w.heap.size #[.int .i64 p.ao,.slice fk p.a_.length aF,.slice fl p.O.length aO,.slice fm p.bu.length bC,.int .i64 p.cv] 39,dm (w.heap.size+1) #[.bool f.ok,.slice fO f.aB.length eg,.slice fv f.au.length d_,.slice fP f.O.length eW] 44,dm (w.heap.size+1+1) #[.int .i64 ev.op,.int .i64 ev.aC,.int .i64 ev.a1] 69,dm (w.heap.size+1+1+1) #[.int .i64 0,.bool false,.slice none 0 0,.slice none 0 0,.slice none 0 0] 67]):=by
    have:=((((b8.start w).box #[.int .i64 p.ao,.slice fk p.a_.length aF,.slice fl p.O.length aO,.slice fm p.bu.length bC,.int .i64 p.cv] 39).box #[.bool f.ok,.slice fO f.aB.length eg,.slice fv f.au.length d_,.slice fP f.O.length eW] 44).box #[.int .i64 ev.op,.int .i64 ev.aC,.int .i64 ev.a1] 69).box #[.int .i64 0,.bool false,.slice none 0 0,.slice none 0 0,.slice none 0 0] 67
    simp only[World.size_alloc] at this
    exact this
  have w2:Hid (V2 (Env.at w) (.agg (ie ev)) (.agg #[.int .i64 ev.op,.int .i64 ev.aC,.int .i64 ev.a1])):=⟨[.int .i64 ev.op,.int .i64 ev.aC,.int .i64 ev.a1],rfl,.cons (aP.int _ _) (.cons (aP.int _ _) (.cons (aP.int _ _) .nil))⟩
  go_enter Tryz.func30,Tryz.ntmps30
  go_wp2_with (go_at_call 49;refine(JE tF.out (H1.out.below kS.out.end) (h_.out.below kS.out.end)).mono ?_)
  rw[Cu.out]
  first
  | (rintro e bn rfl hb)
  | (rintro e bn ⟨rfl,hb⟩)
  have kw:=Lib.hid (kS.out.below hb);clear hb kS
  obtain⟨b6,q1,q2,q3,q4⟩:=kx (kw.out.get 0)
  obtain⟨ep,cP,dd⟩:=Fx (kw.out.get 2)
  go_wp2_with (go_at_call 71;refine(Rt (H1.out.below kw.out.end) (w2.out.below kw.out.end)).mono ?_)
  rw[ou.out]
  first
  | (rintro e bK rfl hb)
  | (rintro e bK ⟨rfl,hb⟩)
  have iq:=Lib.hid (kw.out.below hb);clear hb kw b6 q1 q2 q3 q4 ep cP dd
  obtain⟨b6,q1,q2,q3,q4⟩:=kx (iq.out.get 0)
  obtain⟨ep,cP,dd,dV⟩:=vi (iq.out.get 1)
  obtain⟨eU,s1,s2⟩:=Fx (iq.out.get 2)
  go_wp2_with (go_at_call 72;refine(acA jQ.out (H1.out.below iq.out.end) (h_.out.below iq.out.end) (w2.out.below iq.out.end)).mono ?_)
  unfold zd
  first
  | (rintro e da bL bo bG bk bF bg L rfl hb aY hf aW aw)
  | (rintro e da ⟨bL,bo,bG,bk,bF,bg,L,rfl,hb,aY,hf,aW,aw⟩)
  clear b6 q1 q2 q3 q4 ep cP dd dV eU s1 s2
  have IS:=Lib.hid (iq.out.below hb)
  have o7:=Lib.hid hb;clear hb
  have qD:=Lib.hid aY;clear aY
  have Co:=Lib.hid hf;clear hf
  have abg:Hid (w.heap.size+1+1+1<bK.heap.size):=iq.out.Rg 3 rfl
  obtain⟨ep,cP,dd,dV,j3⟩:=zw (IS.out.get 3)
  obtain⟨b6,q1,q2,q3,q4⟩:=kx (IS.out.get 3)
  go_wp2
  (try simp only[Exit.inBlock,Exit.then])
  refine bodyPost_ret (by simp[results,Tryz.results30,go_sem,Jx,b6,q1,q2,q3,q4];try rfl) rfl ?_
  have hk: ∀v0 v1 v2 v3 v4:Value,∀c,fG bK da c→(((((da.setCell ⟨w.heap.size+1+1+1,0,none⟩ v0).setCell ⟨w.heap.size+1+1+1,1,none⟩ v1).setCell ⟨w.heap.size+1+1+1,2,none⟩ v2).setCell ⟨w.heap.size+1+1+1,3,none⟩ v3).setCell ⟨w.heap.size+1+1+1,4,none⟩ v4).heap[c]?=da.heap[c]?:=fun v0 v1 v2 v3 v4 c hc=>by
    have bq:c≠w.heap.size+1+1+1:=by have:=hc.1;have:=abg.out;omega
    rw[Below.heap_setCell _ _ _ _ bq,Below.heap_setCell _ _ _ _ bq,Below.heap_setCell _ _ _ _ bq,Below.heap_setCell _ _ _ _ bq,Below.heap_setCell _ _ _ _ bq]
  have af: ∀v0 v1 v2 v3 v4:Value,∀c,fG bK da c→fG w (((((da.setCell ⟨w.heap.size+1+1+1,0,none⟩ v0).setCell ⟨w.heap.size+1+1+1,1,none⟩ v1).setCell ⟨w.heap.size+1+1+1,2,none⟩ v2).setCell ⟨w.heap.size+1+1+1,3,none⟩ v3).setCell ⟨w.heap.size+1+1+1,4,none⟩ v4) c:=fun v0 v1 v2 v3 v4 c hc=>
    ⟨Nat.le_trans iq.out.size hc.1,by simp only[World.size_setCell];exact hc.2.1,hc.2.2.same (hk v0 v1 v2 v3 v4 c hc)⟩
  exact⟨bL,bo,bG,bk,bF,bg,L,rfl,IS.out.pK _ _ _ _ _,qD.out.cZ (hk _ _ _ _ _) (af _ _ _ _ _),Co.out.cZ (hk _ _ _ _ _) (af _ _ _ _ _),aW,aw⟩
theorem Rv {p:aQ} {f:Frame} {ev:Event} {s:jO} (hs:vc p f ev=s) (ab:tW p f) {w:World} {v u:Value} (h1:V2 (Env.at w) (.agg (bH false p)) v) (h2:V2 (Env.at w) (.agg (b9 false f)) u):
    Calls Tryz.prog 30 #[v,u,.agg #[.int .i64 ev.op,.int .i64 ev.aC,.int .i64 ev.a1]] w (zd w s):=by
  subst hs
  have t1:et w (fun c=>c<w.heap.size) (.agg (bH false p)) v:=h1
  have t2:et w (fun c=>c<w.heap.size) (.agg (b9 false f)) u:=h2
  obtain⟨fk,aF,fl,aO,fm,bC,rfl,_⟩:=Ix t1
  obtain⟨fO,eg,fv,d_,fP,eW,rfl,_⟩:=Iw t2
  unfold vc
  cases U:h3 p f with
  | false=>exact aoJ p f ev ab w fk fl fm fO fv fP aF aO bC eg d_ eW h1 h2 U
  | true=>
    cases hi:hE p ev with
    | false=>exact aoK p f ev ab w fk fl fm fO fv fP aF aO bC eg d_ eW h1 h2 U hi
    | true=>exact aoL p f ev ab w fk fl fm fO fv fP aF aO bC eg d_ eW h1 h2 ⟨Gc U,hi⟩ U hi
end Go.Proofs.YtejmihecgodhnaaGreat.Fw
set_option linter.unusedVariables false
set_option maxRecDepth 100000
set_option maxHeartbeats 4000000
set_option linter.unusedSimpArgs false
namespace Go.Proofs.YtejmihecgodhnaaGreat.Fw
open Go
attribute [local irreducible] evS evSD WpS Weak Oper.looksAt
section
abbrev Ca (r:Type):Type:=(List bP)→Int→(List bP)→Int→r
variable (ad:(List bP)→Int→Prop) (ag:(List bP)→Int→Nat) (bd:Ca Prop) (a6:Ca Nat) (a0:aQ) (a2:Int) (hk:Bool) (an:List Bool) (U:List bP) (hw:List av) (hi:List Nat) (hb:List (List Bool)) (bC:(List bP)) (c4 dh:Int) (fE:(List bP)) (aE:Nat)
abbrev mA:=[(nth a0.O a2).bA,(nth a0.O a2).cO]
abbrev se:=hw.set a2.toNat (av.mk 1 (nth hw a2).ba (nth hw a2).ae (nth hw a2).bS (nth hw a2).bR)
abbrev PJ:List Blk:=(⟨aE,4,[[aq hk,ay 1 0 an.length,ay 2 0 U.length,ay 3 0 hw.length]]⟩::⟨0,1,List.map aT an⟩::⟨0,2,List.map bh U⟩::⟨0,5,aU 4 hw hi⟩::List.map br hb)
abbrev yU:=IntKind.i64.wrap (c4+1)
abbrev yV:=gO c9 false
abbrev BP:=IntKind.i64.wrap (dh+1)
abbrev mB:=nth (mA a0 a2) dh
abbrev og:=nth (mB a0 a2 dh) c4
abbrev wL:=fE.set (og a0 a2 c4 dh).bi.toNat (bP.mk (og a0 a2 c4 dh).a1 (nth fE (og a0 a2 c4 dh).bi).bA)
abbrev PK:List (Nat×AV):=[(1,.ptr 0 aE 0 0),(27,.aZ (List.map yV (mA a0 a2)) true false),(28,ai ((mA a0 a2).length:Int)),(29,ai dh),(33,bB c9 (mB a0 a2 dh)),(34,ai ((mB a0 a2 dh).length:Int)),(35,ai (yU c4))]
abbrev EH:=decide (c4<((mB a0 a2 dh).length:Int))
abbrev EG:=decide (dh<((mA a0 a2).length:Int))
noncomputable def anw:Code:=j8 Tryz.f79
def anx:List Item:=[cS 0,cS 1,cS 2,cS 3,cS 4,cS 5,cS 6,cS 7,cS 8,cS 9,⟨10,true,false,[]⟩]
def anz:List (List Nat):=[[],[0],[0,1],[0,1,2],[],[4],[],[6],rg 0 8,rg 0 9,rg 0 10]
def PG:Prop:=
  bd bC dh (wL a0 a2 c4 dh fE) (yU c4)∧a6 bC dh (wL a0 a2 c4 dh fE) (yU c4)<a6 bC dh fE c4
def PH:Prop:=
  ((EH a0 a2 c4 dh)=false→ad fE (BP dh)∧ag fE (BP dh)<ag bC dh)∧((EH a0 a2 c4 dh)=true→((0≤c4∧c4.toNat<(mB a0 a2 dh).length)∧(0≤(og a0 a2 c4 dh).bi∧(og a0 a2 c4 dh).bi.toNat<fE.length))∧(PG bd a6 a0 a2 bC c4 dh fE))
def PI:Prop:=
  ((EG a0 a2 dh)=false→Ha a0 a2 hk an U hw hi hb an bC (se a2 hw) hi hb)∧((EG a0 a2 dh)=true→(0≤dh∧dh.toNat<(mA a0 a2).length)∧((mB a0 a2 dh).length≤4611686018427387904→bd bC dh bC 0∧ ∀(fE:(List bP)) (c4:Int),bd bC dh fE c4→(PH ad ag bd a6 a0 a2 bC c4 dh fE)))
def PE (a0:aQ) (a2:Int) (aE:Nat) (hk:Bool) (an:List Bool) (U:List bP) (hw:List av) (hi:List Nat) (hb:List (List Bool)) (ad:(List bP)→Int→Prop) (ag:(List bP)→Int→Nat) (bd:Ca Prop) (a6:Ca Nat):Prop:=
 (0≤a2∧a2.toNat<a0.O.length)∧(((0≤a2∧a2.toNat<hw.length)∧(hw.length=hi.length∧a2.toNat<hw.length))∧((mA a0 a2).length≤4611686018427387904→ad U 0∧ ∀(bC:(List bP)) (dh:Int),ad bC dh→(PI ad ag bd a6 a0 a2 hk an U hw hi hb bC dh)))
theorem anA (a0:aQ) (a2:Int) (aE:Nat) (hk:Bool) (an:List Bool) (U:List bP) (hw:List av) (hi:List Nat) (hb:List (List Bool)) (ad:(List bP)→Int→Prop) (ag:(List bP)→Int→Nat) (bd:Ca Prop) (a6:Ca Nat) (h:PE a0 a2 aE hk an U hw hi hb ad ag bd a6):de Tryz.prog 79 [.agg (bH false a0),.ptr 0 aE 0 0,ai a2] (PJ hk an U hw hi hb aE) (fun r H'=> ∃(xO:List bP) (e4:List av),r= .tup []∧H'=(⟨aE,4,[[aq hk,ay 1 0 an.length,ay 2 0 xO.length,ay 3 0 e4.length]]⟩::⟨0,1,List.map aT an⟩::⟨0,2,List.map bh xO⟩::⟨0,5,aU 4 e4 hi⟩::List.map br hb)∧Ha a0 a2 hk an U hw hi hb an xO e4 hi hb):=by
 unfold PE at h
 refine de.go (fn:=Tryz.f79) [(0,.agg (bH false a0)),(1,.ptr 0 aE 0 0),(2,ai a2)] Tryz.func79 (fun _ _=> ?_)
 show WpS _ (bO anw 1) _ ⟨bt 51 [(0,.agg (bH false a0)),(1,.ptr 0 aE 0 0),(2,ai a2)],[],(PJ hk an U hw hi hb aE)⟩
 refine vk [] 0 [(3,aS 3 0)] [1] [0,1,2] (fun L=>(3,(bH false a0))::L) id ?_
 obtain⟨r7,h⟩:=h
 refine fX [(6,aS 6 0)] [0,1,2] (fun L=>(6,(dS false (nth a0.O a2)))::L) id (True) ?_ (fun q2=> ?_)
 ·
  replace h:=r7
  refine bE [] 1 ?_
  have q3:=h
  refine m5 4 (some 14) [(13,ai a2),(12,bB (dS false) a0.O),(11,aS 3 2)] (dS false) a0.O 5 q3 ?_
  exact ca [(6,aS 6 0),(15,.agg (dS false (nth a0.O a2)))] trivial
 obtain⟨q7,h⟩:=h
 refine fX [] [2] id (fun H=>eE 3 ⟨0,5,aU 4 (se a2 hw) hi⟩ H) (True) ?_ (fun q4=> ?_)
 ·
  replace h:=q7
  refine bE [] 2 ?_
  refine pI 4 (some 19) (ay 3 0 hw.length) [(18,.ptr 0 aE 0 3),(17,.ptr 0 aE 0 0),(16,.ptr 0 aE 0 0)] (φ:=aE=aE) rfl ?_
  obtain⟨ao4,h⟩:=h
  refine m4 2 (some 21) [(20,ai a2)] 3 0 5 ao4 ?_
  have cN:=h
  refine k8 2 none [(22,.ptr 3 0 (0+a2.toNat) 0)] (aU 4 hw hi) a2 0 1 0 [ai 1] 3 (aU 4 (se a2 hw) hi) (dK cN.1 cN.2) (ln cN.1 cN.2) ?_
  exact ca [] trivial
 refine cR [(27,.aZ (List.map yV (mA a0 a2)) true false),(28,ai ((mA a0 a2).length:Int)),(29,ai 0)] [0,1,1] ((mA a0 a2).length≤4611686018427387904) ?_ (fun c2=> ?_)
 ·
  refine bE [] 3 ?_
  refine sLen 6 (some 28) [(27,.aZ (List.map yV (mA a0 a2)) true false),(26,bB c9 (nth a0.O a2).cO),(25,aS 6 2),(24,bB c9 (nth a0.O a2).bA),(23,aS 6 1)] yV (mA a0 a2) (fun hz=> ?_)
  exact ca [(29,ai 0)] hz
 replace h:=h c2
 refine hp 0 ?_
 obtain⟨nw,h⟩:=h
 refine ng (fun(v:(List bP)×Int)=>(⟨(bt 51 [(1,.ptr 0 aE 0 0),(27,.aZ (List.map yV (mA a0 a2)) true false),(28,ai ((mA a0 a2).length:Int)),(29,ai (v.2))]),[],(⟨aE,4,[[aq hk,ay 1 0 an.length,ay 2 0 (v.1).length,ay 3 0 hw.length]]⟩::⟨0,1,List.map aT an⟩::⟨0,2,List.map bh (v.1)⟩::⟨0,5,aU 4 (se a2 hw) hi⟩::List.map br hb)⟩:St)) (fun(v:(List bP)×Int)=>ad (v.1) (v.2)) (fun(v:(List bP)×Int)=>ag (v.1) (v.2)) (U,0) (dX [6,3]) nw (fun v aN=> ?_)
 obtain⟨bC,dh⟩:=v
 replace h:=h bC dh aN
 dsimp only
 refine eO [] 4 [(30,aq (EG a0 a2 dh))] [1] [4] ?_
 unfold PI at h
 obtain⟨j2,h⟩:=h
 refine cR [] [0,1,4] ((EG a0 a2 dh)=true) ?_ (fun k7=> ?_)
 ·
  replace h:=j2
  refine dZ (fun hO=> ?_) (fun hO=> ?_)
  ·
   refine eP ?_
   exact cE.normal (by simp only[hO]<;>rfl) e1
  ·
   replace h:=h hO
   refine lh 0 ?_
   refine cE.exit ?_
   refine eC.exit ?_
   refine cs.here ?_
   refine FS (t0) [] ?_
   exact⟨bC,(se a2 hw),rfl,(by rw[show hw.length=(se a2 hw).length by simp]<;>rfl),h⟩
 replace h:=h k7
 refine jx ?_
 refine hp 1 ?_
 obtain⟨kN,h⟩:=h
 refine cR [(8,bB c9 (mB a0 a2 dh))] [4] (True) ?_ (fun kL=> ?_)
 ·
  replace h:=kN
  refine bE [] 5 ?_
  have mr:=h
  refine m5 1 (some 31) [] yV (mA a0 a2) 1 mr ?_
  exact ca [(8,bB c9 (mB a0 a2 dh)),(32,bB c9 (mB a0 a2 dh))] trivial
 refine cR [(33,bB c9 (mB a0 a2 dh)),(34,ai ((mB a0 a2 dh).length:Int)),(35,ai 0)] [0,1,4] ((mB a0 a2 dh).length≤4611686018427387904) ?_ (fun hd=> ?_)
 ·
  refine bE [] 6 ?_
  refine sLen 2 (some 34) [(33,bB c9 (mB a0 a2 dh))] c9 (mB a0 a2 dh) (fun Bd=> ?_)
  exact ca [(35,ai 0)] Bd
 replace h:=h hd
 refine hp 2 ?_
 obtain⟨iR,h⟩:=h
 refine ng (fun(v:(List bP)×Int)=>(⟨(bt 51 [(1,.ptr 0 aE 0 0),(27,.aZ (List.map yV (mA a0 a2)) true false),(28,ai ((mA a0 a2).length:Int)),(29,ai dh),(33,bB c9 (mB a0 a2 dh)),(34,ai ((mB a0 a2 dh).length:Int)),(35,ai (v.2))]),[],(⟨aE,4,[[aq hk,ay 1 0 an.length,ay 2 0 (v.1).length,ay 3 0 hw.length]]⟩::⟨0,1,List.map aT an⟩::⟨0,2,List.map bh (v.1)⟩::⟨0,5,aU 4 (se a2 hw) hi⟩::List.map br hb)⟩:St)) (fun(v:(List bP)×Int)=>bd bC dh (v.1) (v.2)) (fun(v:(List bP)×Int)=>a6 bC dh (v.1) (v.2)) (bC,0) (dX []) iR (fun v aN=> ?_)
 obtain⟨fE,c4⟩:=v
 replace h:=h fE c4 aN
 dsimp only
 refine eO [] 7 [(36,aq (EH a0 a2 c4 dh))] [1] [7] ?_
 unfold PH at h
 obtain⟨kM,h⟩:=h
 refine cR [] [0,1,7] ((EH a0 a2 c4 dh)=true) ?_ (fun m1=> ?_)
 ·
  replace h:=kM
  refine dZ (fun k5=> ?_) (fun k5=> ?_)
  ·
   refine eP ?_
   exact cE.normal (by simp only[k7,k5]<;>rfl) e1
  ·
   replace h:=h k5
   refine lh 2 ?_
   refine cE.exit ?_
   refine eC.exit ?_
   refine cs.here ?_
   refine cs.normal ?_
   refine ej.normal ?_
   refine bE [] 11 ?_
   refine ef [(29,ai (BP dh)),(50,ai (BP dh))] ?_
   exact eC.again (fE,(BP dh)) h (dX [])
 replace h:=h m1
 obtain⟨l5,h⟩:=h
 refine fX [] [7] (fun L=>(10,(c9 (og a0 a2 c4 dh)))::L) (fun H=>eE 2 ⟨0,2,List.map bh (wL a0 a2 c4 dh fE)⟩ H) (True) ?_ (fun oQ=> ?_)
 ·
  replace h:=l5
  refine hp 3 ?_
  obtain⟨nv,h⟩:=h
  refine fX [(10,aS 10 0)] [7] (fun L=>(10,(c9 (og a0 a2 c4 dh)))::L) id (True) ?_ (fun iQ=> ?_)
  ·
   replace h:=nv
   refine bE [] 8 ?_
   have jF:=h
   refine m5 1 (some 37) [] c9 (mB a0 a2 dh) 2 jF ?_
   exact ca [(10,aS 10 0),(38,.agg (c9 (og a0 a2 c4 dh)))] trivial
  refine qq [] 9 anx anz [] ?_
  refine It 4 (some 42) (ay 2 0 fE.length) [(41,.ptr 0 aE 0 2),(40,.ptr 0 aE 0 0),(39,.ptr 0 aE 0 0)] (φ:=aE=aE) rfl ?_
  have aaZ:=h
  refine y2 5 (some 47) [(46,ai (og a0 a2 c4 dh).a1),(45,aS 10 1),(44,ai (og a0 a2 c4 dh).bi),(43,aS 10 0)] 2 0 2 aaZ ?_
  refine aoo 2 none [(48,.ptr 2 0 (0+(og a0 a2 c4 dh).bi.toNat) 0)] bh fE (og a0 a2 c4 dh).bi 0 1 0 [ai (og a0 a2 c4 dh).a1] (fun _=>True) (fun r=>(⟨aE,4,[[aq hk,ay 1 0 an.length,ay 2 0 fE.length,ay 3 0 hw.length]]⟩::⟨0,1,List.map aT an⟩::⟨0,2,r⟩::⟨0,5,aU 4 (se a2 hw) hi⟩::List.map br hb)) (bP.mk (og a0 a2 c4 dh).a1 (nth fE (og a0 a2 c4 dh).bi).bA) (by simpa using aaZ.2) trivial ?_
  refine Iu [] ?_
  refine cs.normal ?_
  exact cE.normal trivial e1
 unfold PG at h
 refine bE [] 10 ?_
 refine ef [(35,ai (yU c4)),(49,ai (yU c4))] ?_
 exact eC.again ((wL a0 a2 c4 dh fE),(yU c4)) h (jM (s':=⟨(bt 51 (PK a0 a2 c4 dh aE)),[],(⟨aE,4,[[aq hk,ay 1 0 an.length,ay 2 0 fE.length,ay 3 0 hw.length]]⟩::⟨0,1,List.map aT an⟩::⟨0,2,List.map bh (wL a0 a2 c4 dh fE)⟩::⟨0,5,aU 4 (se a2 hw) hi⟩::List.map br hb)⟩) (dX (n:=51) (A':=(PK a0 a2 c4 dh aE)) (L':=[]) [10]) (congrArg (fun z=>(⟨(bt 51 (PK a0 a2 c4 dh aE)),[],(⟨aE,4,[[aq hk,ay 1 0 an.length,ay 2 0 z,ay 3 0 hw.length]]⟩::⟨0,1,List.map aT an⟩::⟨0,2,List.map bh (wL a0 a2 c4 dh fE)⟩::⟨0,5,aU 4 (se a2 hw) hi⟩::List.map br hb)⟩:St)) (show fE.length=(wL a0 a2 c4 dh fE).length by simp)))
theorem anv (a0:aQ) (a2:Int) (aE:Nat) (hk:Bool) (an:List Bool) (U:List bP) (hw:List av) (hi:List Nat) (hb:List (List Bool)) (ab:Vl a0 a2 hk an U hw hi hb):de Tryz.prog 79 [.agg (bH false a0),.ptr 0 aE 0 0,ai a2] (PJ hk an U hw hi hb aE) (fun r H'=> ∃(xO:List bP) (e4:List av),r= .tup []∧H'=(⟨aE,4,[[aq hk,ay 1 0 an.length,ay 2 0 xO.length,ay 3 0 e4.length]]⟩::⟨0,1,List.map aT an⟩::⟨0,2,List.map bh xO⟩::⟨0,5,aU 4 e4 hi⟩::List.map br hb)∧Ha a0 a2 hk an U hw hi hb an xO e4 hi hb):=anA a0 a2 aE hk an U hw hi hb (fun x v=>cq ((mb (nth a0.O a2)).length:Int) (fun _=>false) v∧x=l8 ((mb (nth a0.O a2)).take v.toNat).flatten U) (fun _ v=>cI ((mb (nth a0.O a2)).length:Int) v) (fun x v y k=>cq ((nth (mb (nth a0.O a2)) v).length:Int) (fun _=>false) k∧y=l8 ((nth (mb (nth a0.O a2)) v).take k.toNat) x) (fun _ v _ k=>cI ((nth (mb (nth a0.O a2)) v).length:Int) k) (by
 unfold PE mA
 obtain⟨G,cF,t0,t1,t2,af_⟩:=ab
 have aM:a2.toNat<hw.length:=by omega
 have kc:a2.toNat<a0.O.length:=by omega
 have bJ:=cF.bA _ (ee kc)
 have Ap:=cF.bi
 have bW:=G.tN aM
 have b7:=bW.setState 1
 refine⟨⟨t0,kc⟩,⟨⟨t0,aM⟩,bW.fR⟩,fun af=>⟨⟨dB (dt _),rfl⟩,fun x v aN=> ?_⟩⟩
 obtain⟨aN,rfl⟩:=aN
 unfold PI EG mB se mA
 refine⟨fun hv=> ?_,fun hv=>⟨cA aN hv,fun hm=>⟨⟨dB (dt _),rfl⟩,fun y k eh=> ?_⟩⟩⟩
 ·have ly: ¬v<((mb (nth a0.O a2)).length:Int):=by simpa[mb] using hv
  have h1:=aN.2.1
  refine⟨?_,b7.G,b7.io⟩
  rw[List.take_of_length_le (by omega),aat]
 ·obtain⟨eh,rfl⟩:=eh
  have cz:=cA aN hv
  unfold PH PG EH wL og mB BP yU mA
  refine⟨fun hk=>⟨⟨(dn (c_ af) aN hv rfl).1,?_⟩,(dn (c_ af) aN hv rfl).2⟩,fun hk=>⟨⟨cA eh hk,?_⟩,⟨(dn (c_ hm) eh hk rfl).1,?_⟩,(dn (c_ hm) eh hk rfl).2⟩⟩
  ·have kC: ¬k<((nth (mb (nth a0.O a2)) v).length:Int):=of_decide_eq_false hk
   have h1:=eh.2.1
   rw[mE (c_ af) cz.1 (by simpa using hv),show(v+1).toNat=v.toNat+1 by omega,aot cz.2,List.take_of_length_le (by omega),iN cz.2]
  ·have hx:=bJ.2.2 _ (aou cz.2 (ee (cA eh hk).2))
   have e:(l8 (List.take k.toNat (nth (mb (nth a0.O a2)) v)) (l8 (List.take v.toNat (mb (nth a0.O a2))).flatten U)).length=U.length:=by rw[HY,HY]
   exact⟨hx.1,by rw[e];have:=hx.2;show(nth (nth (mb (nth a0.O a2)) v) k).bi.toNat<_;omega⟩
  ·have vy:=cA eh hk
   rw[mE (c_ hm) eh.1 (by simpa using hk),show(k+1).toNat=k.toNat+1 by omega,YD vy.2,←iN vy.2]
   rfl)
end
section
variable (ad:Int→Prop) (ag:Int→Nat) (a0:aQ) (a2:Int) (hk:Bool) (an:List Bool) (U:List bP) (hw:List av) (hi:List Nat) (hb:List (List Bool)) (c4:Int) (aE:Nat)
abbrev sd:=hw.set a2.toNat (av.mk 3 (nth hw a2).ba (nth hw a2).ae (nth hw a2).bS (nth hw a2).bR)
abbrev H9:List Blk:=(⟨aE,4,[[aq hk,ay 1 0 an.length,ay 2 0 U.length,ay 3 0 hw.length]]⟩::⟨0,1,List.map aT an⟩::⟨0,2,List.map bh U⟩::⟨0,5,aU 4 hw hi⟩::List.map br hb)
abbrev jI:=(nth a0.O a2).eb
abbrev re:=((nth hw a2).aJ !=1)&&((nth hw a2).aJ !=2)
abbrev l_:=0+a2.toNat
abbrev BI:=IntKind.i64.wrap (c4+1)
abbrev BJ:=(sd a2 hw).set a2.toNat (av.mk (nth (sd a2 hw) a2).aJ (nth (sd a2 hw) a2).ba (nth (sd a2 hw) a2).ae (nth (sd a2 hw) a2).bS a0.cv)
abbrev qx:=(nth an (nth (jI a0 a2) c4))&&(nth hw a2).bS
abbrev ED:=decide (c4<((jI a0 a2).length:Int))
noncomputable def anb:Code:=j8 Tryz.f80
def Pc:Prop:=
  ye a0 a2 hk an U hw hi hb an U (BJ a0 a2 hw) hi hb 0
def Pd:Prop:=
  (qx a0 a2 an hw c4)=true→(hw.length=hi.length∧a2.toNat<hw.length)∧(((sd a2 hw).length=hi.length∧a2.toNat<(sd a2 hw).length)∧(Pc a0 a2 hk an U hw hi hb))
def Pe:Prop:=
  ((0≤c4∧c4.toNat<(jI a0 a2).length)∧(((0≤(nth (jI a0 a2) c4)∧(nth (jI a0 a2) c4).toNat<an.length)∧((nth an (nth (jI a0 a2) c4))=true→hw.length=hi.length∧a2.toNat<hw.length))∧(Pd a0 a2 hk an U hw hi hb c4)))∧((!(qx a0 a2 an hw c4))=true→ad (BI c4)∧ag (BI c4)<ag c4)
def Pf:Prop:=
  ad 0∧ ∀(c4:Int),ad c4→(((ED a0 a2 c4)=false→(GL a2 hk an U hw hi hb)∧(∀(u9:List av) (i18:List Nat) (zt:List (List Bool)),xW a2 hk an U hw hi hb an U u9 i18 zt→(ye a0 a2 hk an U hw hi hb an U u9 i18 zt 0)))∧((ED a0 a2 c4)=true→Pe ad ag a0 a2 hk an U hw hi hb c4))
def Pg:Prop:=
  (((hw.length=hi.length∧a2.toNat<hw.length)∧(((nth hw a2).aJ !=1)=true→hw.length=hi.length∧a2.toNat<hw.length))∧((re a2 hw)=true→ye a0 a2 hk an U hw hi hb an U hw hi hb 2))∧((!(re a2 hw))=true→(0≤a2∧a2.toNat<a0.O.length)∧((jI a0 a2).length≤4611686018427387904→Pf ad ag a0 a2 hk an U hw hi hb))
def Pb (a0:aQ) (a2:Int) (aE:Nat) (hk:Bool) (an:List Bool) (U:List bP) (hw:List av) (hi:List Nat) (hb:List (List Bool)) (ad:Int→Prop) (ag:Int→Nat):Prop:=
 (0≤a2∧a2.toNat<hw.length)∧(Pg ad ag a0 a2 hk an U hw hi hb)
theorem anc (a0:aQ) (a2:Int) (aE:Nat) (hk:Bool) (an:List Bool) (U:List bP) (hw:List av) (hi:List Nat) (hb:List (List Bool)) (ad:Int→Prop) (ag:Int→Nat) (h:Pb a0 a2 aE hk an U hw hi hb ad ag):de Tryz.prog 80 [.agg (bH false a0),.ptr 0 aE 0 0,ai a2] (H9 hk an U hw hi hb aE) (fun r H'=> ∃(e4:List av) (fx:List Nat) (dT:List (List Bool)) (aa:Int),r=ai aa∧H'=(⟨aE,4,[[aq hk,ay 1 0 an.length,ay 2 0 U.length,ay 3 0 e4.length]]⟩::⟨0,1,List.map aT an⟩::⟨0,2,List.map bh U⟩::⟨0,5,aU 4 e4 fx⟩::List.map br dT)∧ye a0 a2 hk an U hw hi hb an U e4 fx dT aa):=by
 unfold Pb at h
 refine de.go (fn:=Tryz.f80) [(0,.agg (bH false a0)),(1,.ptr 0 aE 0 0),(2,ai a2)] Tryz.func80 (fun _ _=> ?_)
 show WpS _ (bO anb 1) _ ⟨bt 63 [(0,.agg (bH false a0)),(1,.ptr 0 aE 0 0),(2,ai a2)],[],(H9 hk an U hw hi hb aE)⟩
 refine vk [] 0 [(6,ai 0),(3,aS 3 0)] [0,1,1] [0,1,2] (fun L=>(3,(bH false a0))::L) id ?_
 obtain⟨nA,h⟩:=h
 refine cR [(7,.ptr 3 0 (l_ a2) 0)] [3] (True) ?_ (fun q2=> ?_)
 ·
  replace h:=nA
  refine bE [] 1 ?_
  refine pI 4 (some 13) (ay 3 0 hw.length) [(12,.ptr 0 aE 0 3),(11,.ptr 0 aE 0 0),(10,.ptr 0 aE 0 0)] (φ:=aE=aE) rfl ?_
  have aoZ:=h
  refine m4 2 (some 15) [(14,ai a2)] 3 0 5 aoZ ?_
  exact ca [(7,.ptr 3 0 (l_ a2) 0)] trivial
 unfold Pg at h
 obtain⟨ms,h⟩:=h
 refine cR [] [4] ((!(re a2 hw))=true) ?_ (fun q3=> ?_)
 ·
  replace h:=ms
  obtain⟨hO,h⟩:=h
  refine cR [(27,aq (re a2 hw))] [4] (True) ?_ (fun q4=> ?_)
  ·
   replace h:=hO
   refine bE [] 2 ?_
   obtain⟨hz,h⟩:=h
   refine jH 4 (some 19) [(18,.ptr 3 0 (l_ a2) 0),(17,.ptr 3 0 (l_ a2) 0),(16,.ptr 3 0 (l_ a2) 0)] (aU 4 hw hi) a2 3 0 0 (ai (nth hw a2).aJ) (dK hz.1 hz.2) ?_
   refine pJ 2 21 ((nth hw a2).aJ !=1) [(20,aq ((nth hw a2).aJ !=1))] (fun cN=> ?_) (fun cN=> ?_)
   ·
    replace h:=h cN
    have c2:=h
    refine jH 4 (some 25) [(24,.ptr 3 0 (l_ a2) 0),(23,.ptr 3 0 (l_ a2) 0),(22,.ptr 3 0 (l_ a2) 0)] (aU 4 hw hi) a2 3 0 0 (ai (nth hw a2).aJ) (dK c2.1 c2.2) ?_
    exact ca [(27,aq ((nth hw a2).aJ !=2)),(26,aq ((nth hw a2).aJ !=2))] trivial (by simp only[cN,qx,re]<;>kernel_rfl)
   ·
    exact ca ([(27,aq false)]++hg [26,25,24,23,22]) trivial (by simp only[cN,qx,re]<;>kernel_rfl)
  refine dZ (fun gT=> ?_) (fun gT=> ?_)
  ·
   replace h:=h gT
   refine eO [] 3 [(6,ai 2)] [1] [] ?_
   refine ji ?_
   refine cE.ret ?_
   refine mu (ai 2) [ai 2] ?_
   exact⟨hw,hi,hb,2,rfl,rfl,h⟩
  ·
   refine eP ?_
   exact cE.normal (by simp only[gT,qx,re]<;>rfl) e1
 replace h:=h q3
 refine jx ?_
 obtain⟨nz,h⟩:=h
 refine cR [(33,bB cB (jI a0 a2)),(34,ai ((jI a0 a2).length:Int)),(35,ai 0)] [3] ((jI a0 a2).length≤4611686018427387904) ?_ (fun kL=> ?_)
 ·
  replace h:=nz
  refine bE [] 4 ?_
  have hd:=h
  refine m5 4 (some 31) [(30,ai a2),(29,bB (dS false) a0.O),(28,aS 3 2)] (dS false) a0.O 5 hd ?_
  refine sLen 3 (some 34) [(33,bB cB (jI a0 a2)),(32,.dz (dS false (nth a0.O a2)) 4)] cB (jI a0 a2) (fun mr=> ?_)
  exact ca [(35,ai 0)] mr
 replace h:=h kL
 unfold Pf at h
 refine hp 0 ?_
 obtain⟨pG,h⟩:=h
 refine ng (fun(v:Int)=>(⟨(bt 63 [(1,.ptr 0 aE 0 0),(3,aS 3 0),(7,.ptr 3 0 (l_ a2) 0),(33,bB cB (jI a0 a2)),(34,ai ((jI a0 a2).length:Int)),(35,ai v)]),[(3,(bH false a0))],(H9 hk an U hw hi hb aE)⟩:St)) (fun(v:Int)=>ad v) (fun(v:Int)=>ag v) 0 (dX []) pG (fun c4 aN=> ?_)
 replace h:=h c4 aN
 refine eO [] 5 [(36,aq (ED a0 a2 c4))] [1] [6] ?_
 obtain⟨kj,h⟩:=h
 refine cR [] [0,1,6] ((ED a0 a2 c4)=true) ?_ (fun j1=> ?_)
 ·
  replace h:=kj
  refine dZ (fun m1=> ?_) (fun m1=> ?_)
  ·
   refine eP ?_
   exact cE.normal (by simp only[q3,m1,qx,re]<;>rfl) e1
  ·
   replace h:=h m1
   refine lh 0 ?_
   refine cE.exit ?_
   refine eC.exit ?_
   refine cs.here ?_
   refine ej.normal ?_
   refine jx ?_
   refine bE [] 12 ?_
   obtain⟨nv,h⟩:=h
   refine wA 2 (some 62) [(61,.ptr 3 0 (l_ a2) 0)] [.ptr 3 0 (l_ a2) 0] _ (Ps a2 aE hk an U hw hi hb nv) (fun r H' U=>by obtain⟨_,_,_,rfl,_⟩:=U;rfl) ?_
   rintro r H' ⟨u9,i18,zt,rfl,rfl,l5⟩
   replace h:=h u9 i18 zt l5
   refine ef [] ?_
   refine ej.normal ?_
   refine mI ⟨(bt 63 [(6,ai 0)]),[(3,(bH false a0))],(⟨aE,4,[[aq hk,ay 1 0 an.length,ay 2 0 U.length,ay 3 0 u9.length]]⟩::⟨0,1,List.map aT an⟩::⟨0,2,List.map bh U⟩::⟨0,5,aU 4 u9 i18⟩::List.map br zt)⟩ (True) ?_ (fun jF=> ?_)
   ·
    refine bE [] 13 ?_
    exact ca [(6,ai 0)] trivial
   refine ji ?_
   refine mu (ai 0) [ai 0] ?_
   exact⟨u9,i18,zt,0,rfl,rfl,h⟩
 replace h:=h j1
 unfold Pe at h
 obtain⟨r9,h⟩:=h
 refine cR [] [6] ((!(qx a0 a2 an hw c4))=true) ?_ (fun kM=> ?_)
 ·
  replace h:=r9
  refine hp 1 ?_
  obtain⟨m2,h⟩:=h
  refine cR [(9,ai (nth (jI a0 a2) c4))] [6] (True) ?_ (fun iR=> ?_)
  ·
   replace h:=m2
   refine bE [] 6 ?_
   have kN:=h
   refine m5 1 (some 37) [] cB (jI a0 a2) 1 kN ?_
   exact ca [(9,ai (nth (jI a0 a2) c4)),(38,ai (nth (jI a0 a2) c4))] trivial
  obtain⟨q8,h⟩:=h
  refine cR [(51,aq (qx a0 a2 an hw c4))] [0,1,6] (True) ?_ (fun j2=> ?_)
  ·
   replace h:=q8
   refine bE [] 7 ?_
   refine pI 4 (some 42) (ay 1 0 an.length) [(41,.ptr 0 aE 0 1),(40,.ptr 0 aE 0 0),(39,.ptr 0 aE 0 0)] (φ:=aE=aE) rfl ?_
   obtain⟨aaX,h⟩:=h
   refine m4 2 (some 44) [(43,ai (nth (jI a0 a2) c4))] 1 0 1 aaX ?_
   refine Yw 1 (some 45) [] aT an (nth (jI a0 a2) c4) 4 0 0 (aq (nth an (nth (jI a0 a2) c4))) (by simpa using aaX.2) ?_
   refine pJ 1 46 (nth an (nth (jI a0 a2) c4)) [] (fun nw=> ?_) (fun nw=> ?_)
   ·
    replace h:=h nw
    have q7:=h
    refine jH 4 (some 50) [(49,.ptr 3 0 (l_ a2) 3),(48,.ptr 3 0 (l_ a2) 0),(47,.ptr 3 0 (l_ a2) 0)] (aU 4 hw hi) a2 4 3 0 (aq (nth hw a2).bS) (dK q7.1 q7.2) ?_
    exact ca [(51,aq (nth hw a2).bS)] trivial (by simp only[q3,j1,nw,qx,re]<;>kernel_rfl)
   ·
    exact ca ([(51,aq false)]++hg [50,49,48,47]) trivial (by simp only[q3,j1,nw,qx,re]<;>kernel_rfl)
  unfold Pd at h
  refine dZ (fun r7=> ?_) (fun r7=> ?_)
  ·
   replace h:=h r7
   obtain⟨hY,h⟩:=h
   refine fX [] [0,2,2] id (fun H=>eE 3 ⟨0,5,aU 4 (sd a2 hw) hi⟩ H) (True) ?_ (fun r8=> ?_)
   ·
    replace h:=hY
    refine bE [] 8 ?_
    have l6:=h
    refine k8 4 none [(54,.ptr 3 0 (l_ a2) 0),(53,.ptr 3 0 (l_ a2) 0),(52,.ptr 3 0 (l_ a2) 0)] (aU 4 hw hi) a2 0 1 0 [ai 3] 3 (aU 4 (sd a2 hw) hi) (dK l6.1 l6.2) (ln l6.1 l6.2) ?_
    exact ca [] trivial
   obtain⟨ny,h⟩:=h
   refine fX [] [] id (fun H=>eE 3 ⟨0,5,aU 4 (BJ a0 a2 hw) hi⟩ H) (True) ?_ (fun oR=> ?_)
   ·
    replace h:=ny
    refine bE [] 9 ?_
    have k6:=h
    refine k8 6 none [(59,.ptr 3 0 (l_ a2) 4),(58,.ptr 3 0 (l_ a2) 0),(57,ai a0.cv),(56,aS 3 4),(55,.ptr 3 0 (l_ a2) 0)] (aU 4 (sd a2 hw) hi) a2 4 1 0 [ai a0.cv] 3 (aU 4 (BJ a0 a2 hw) hi) (dK k6.1 k6.2) (ln k6.1 k6.2) ?_
    exact ca [] trivial
   refine eO [] 10 [(6,ai 0)] [1] [] ?_
   unfold Pc at h
   refine ji ?_
   refine cs.ret ?_
   refine cE.ret ?_
   refine eC.ret ?_
   refine cs.ret ?_
   refine ej.ret ?_
   refine mu (ai 0) [ai 0] ?_
   exact⟨(BJ a0 a2 hw),hi,hb,0,rfl,(by rw[show hw.length=(BJ a0 a2 hw).length by simp]<;>rfl),h⟩
  ·
   refine eP ?_
   refine cs.normal ?_
   exact cE.normal (by simp only[q3,j1,r7,qx,re]<;>rfl) e1
 replace h:=h kM
 refine bE [] 11 ?_
 refine ef [(35,ai (BI c4)),(60,ai (BI c4))] ?_
 exact eC.again (BI c4) h (dX [])
theorem ana (a0:aQ) (a2:Int) (aE:Nat) (hk:Bool) (an:List Bool) (U:List bP) (hw:List av) (hi:List Nat) (hb:List (List Bool)) (ab:Vk a0 a2 hk an U hw hi hb):de Tryz.prog 80 [.agg (bH false a0),.ptr 0 aE 0 0,ai a2] (H9 hk an U hw hi hb aE) (fun r H'=> ∃(e4:List av) (fx:List Nat) (dT:List (List Bool)) (aa:Int),r=ai aa∧H'=(⟨aE,4,[[aq hk,ay 1 0 an.length,ay 2 0 U.length,ay 3 0 e4.length]]⟩::⟨0,1,List.map aT an⟩::⟨0,2,List.map bh U⟩::⟨0,5,aU 4 e4 fx⟩::List.map br dT)∧ye a0 a2 hk an U hw hi hb an U e4 fx dT aa):=anc a0 a2 aE hk an U hw hi hb (cq ((nth a0.O a2).eb.length:Int) (fun k=>nth an (nth (nth a0.O a2).eb k)&&(nth hw a2).bS)) (cI ((nth a0.O a2).eb.length:Int)) (by
 unfold Pb
 obtain⟨G,cF,t0,t1,t2,Aj⟩:=ab
 have aM:a2.toNat<hw.length:=by omega
 have kc:a2.toNat<a0.O.length:=by omega
 have jW:=cF.eb _ (ee kc)
 have ul:=cF.c0
 have bW:=G.tN aM
 have adg:(nth hw a2).aJ=(nth (cX hk an U hw hi hb).O a2).aJ:=bW.aJ
 have zJ:(nth hw a2).bS=(nth (cX hk an U hw hi hb).O a2).bS:=bW.bS
 have qP:(((nth hw a2).aJ !=1)&&((nth hw a2).aJ !=2))=decide ((nth (cX hk an U hw hi hb).O a2).aJ≠1∧(nth (cX hk an U hw hi hb).O a2).aJ≠2):=by
  rw[Bool.eq_iff_iff,adg];simp
 unfold Pg re jI
 rw[qP]
 refine⟨⟨t0,aM⟩,⟨⟨bW.fR,fun _=>bW.fR⟩,fun hc=> ?_⟩,fun hc=>⟨⟨t0,kc⟩,fun af=> ?_⟩⟩
 ·have hc:=of_decide_eq_true hc
  have e:vf (cX hk an U hw hi hb) a2=2:=by unfold vf;rw[if_pos hc]
  exact⟨G,e.symm,by rw[e];rfl⟩
 have hc: ¬_:=of_decide_eq_false (by simpa only[Bool.not_eq_true'] using hc)
 have cx:vf (cX hk an U hw hi hb) a2=0:=by unfold vf;rw[if_neg hc]
 unfold Pf ED jI
 refine⟨dB (dt _),fun v aN=>⟨fun hv=>⟨⟨G,t0,t1⟩,fun w i b lv=> ?_⟩,fun hv=> ?_⟩⟩
 ·obtain⟨pV,ly⟩:=lv
  refine⟨pV,cx.symm,?_⟩
  rw[if_pos cx,ly]
  have kW:((nth (cX hk an U hw hi hb).O a2).bS&&h8 (cX hk an U hw hi hb) (nth a0.O a2).eb)=false:=by
   rw[←zJ]
   have eG:=nI (q:=fun x=>nth an x&&(nth hw a2).bS) (hI aN hv)
   cases hs:(nth hw a2).bS with
   | false=>rfl
   | true=>
    rw[Bool.true_and]
    unfold h8
    rw[List.any_eq_false]
    intro x hx
    have:=eG x hx
    simp only[hs,Bool.and_true] at this
    show ¬(nth an x=true)
    rw[this];simp
  unfold Fl
  rw[if_neg (by rw[kW];simp)];rfl
 ·unfold Pe qx BI jI
  have cz:=cA aN hv
  have hx:=jW.2 _ (ee cz.2)
  refine⟨⟨cz,⟨⟨hx.1,by omega⟩,fun _=>bW.fR⟩,?_⟩,fun dT=>dn (c_ af) aN hv (not_eq dT)⟩
  unfold Pd Pc qx BJ jI sd
  intro dT
  have b7:=bW.setState 3
  refine⟨bW.fR,b7.fR,?_⟩
  have cY:=b7.Bs a0.cv
  refine⟨cY.G,cx.symm,?_⟩
  rw[if_pos cx]
  have lV:nth an (nth (nth a0.O a2).eb v)=true∧(nth hw a2).bS=true:=by simpa using dT
  have ae6:h8 (cX hk an U hw hi hb) (nth a0.O a2).eb=true:=by
   unfold h8;rw[List.any_eq_true];exact⟨_,ee cz.2,lV.1⟩
  unfold Fl
  rw[if_pos (by rw[ae6,←zJ,lV.2];rfl)]
  exact cY.io)
end
section
variable (ad:kq Prop) (ag:kq Nat) (dY:B_ Prop) (a0:aQ) (J:Frame) (a2:Event) (aa:jO) (bb:List (List Bool)) (b_:List Nat) (cd:Int) (aV:List av) (aO:(List Bool)) (bC:(List bP)) (cT:Int) (o5:List av)
abbrev l9:=aV.set cd.toNat (av.mk (nth aV cd).aJ (nth aV cd).ba (nth aV cd).ae (nth aV cd).bS (IntKind.i64.wrap ((nth aV cd).bR - 1)))
abbrev ff:=(aK J).O
abbrev fM:=List.map av.ae (ff J)
abbrev nD:List (Nat×List AV):=[(6,[ai 0,aq false,c7,c7,c7]),(3,(bH false a0))]
abbrev fN:=List.range (ff J).length
abbrev EB:List (Nat×AV):=[(3,aS 3 0),(6,aS 6 0),(7,.ptr 0 1 0 0),(8,ai 0)]
abbrev iS:=(aK J).ok
abbrev dN:=(aK J).au
abbrev dQ:=(aK J).aB
abbrev BA:List AV:=[aq (iS J),ay 1 0 (dQ J).length,ay 2 0 (dN J).length,ay 3 0 (ff J).length]
abbrev gU:=[2000007]
abbrev qw:=IntKind.i64.wrap (cd+1)
abbrev uX:=((ff J).length:Int)
abbrev OU:List (Nat×AV):=[(3,aS 3 0),(6,aS 6 0),(7,.ptr 0 1 0 0),(8,ai 0),(100,ai (uX J)),(101,ai (qw cd))]
abbrev H6:List (Nat×AV):=[(0,.agg (bH false a0)),(1,.agg (b9 false J)),(2,.agg (ie a2))]
abbrev Bv:=(dN J).set a2.aC.toNat (bP.mk (nth (dN J) a2.aC).c6 a2.a1)
abbrev Bw:=(dN J).set a2.aC.toNat (bP.mk a2.a1 (nth (dN J) a2.aC).bA)
abbrev Ez:=decide (((ki a0 J a2.aC).length:Int)>0)
abbrev OV:List AV:=[ai cT,aq (iS J),ay 1 0 aO.length,ay 2 0 bC.length,ay 3 0 o5.length]
abbrev Y3:List Blk:=(⟨1,4,[(BA J)]⟩::⟨0,1,List.map aT (dQ J)⟩::⟨0,2,List.map bh (dN J)⟩::⟨0,5,aU 4 (ff J) (fN J)⟩::List.map br (fM J))
abbrev wE:=bt 133 EB
abbrev EA:=(nth (l9 cd aV) cd).bR==0
abbrev Bx:=(dQ J).set a2.aC.toNat false
abbrev By:=(dQ J).set a2.aC.toNat true
abbrev tr:=(!(h3 a0 J)) || (!(hE a0 a2))
abbrev OW:List (Nat×AV):=[(101,ai (qw cd)),(127,ai (qw cd))]
abbrev oY:=0+cd.toNat
abbrev Bz:=(nth aV cd).aJ !=3
abbrev Y4:List (Nat×List AV):=[(6,[ai 0,aq false,c7,c7,c7]),(5,(ie a2)),(4,(b9 false J)),(3,(bH false a0))]
noncomputable def amM:Code:=j8 Tryz.f28
def amN:List Item:=(List.range 10).map cS
def amO:List (List Nat):=[[],[0],[],[2],[],[4],rg 2 6,rg 2 7,rg 0 8,rg 0 9]
def OI:Prop:=
  (((h9 a0 J a2.aC)==0)=true→(Vl a0 a2.aC (iS J) (dQ J) (dN J) (ff J) (fN J) (fM J))∧(∀(jF:List bP) (pU:List av),Ha a0 a2.aC (iS J) (dQ J) (dN J) (ff J) (fN J) (fM J) (dQ J) jF pU (fN J) (fM J)→(dY (fM J) (dQ J) jF (fN J) (h9 a0 J a2.aC) pU)))∧(((h9 a0 J a2.aC)==0)=false→dY (fM J) (dQ J) (dN J) (fN J) (h9 a0 J a2.aC) (ff J))
def OM:Prop:=
  ((nth J.aB (nth a0.a_ a2.aC))=true→dY (fM J) (dQ J) (dN J) (fN J) 3 (ff J))∧((nth J.aB (nth a0.a_ a2.aC))=false→(0≤a2.aC∧a2.aC.toNat<(dN J).length)∧(dY (fM J) (dQ J) (Bw J a2) (fN J) 0 (ff J)))
def ON:Prop:=
  ((Ez a0 J a2)=true→dY (fM J) (dQ J) (dN J) (fN J) 2 (ff J))∧((Ez a0 J a2)=false→((0≤a2.aC∧a2.aC.toNat<a0.a_.length)∧(0≤(nth a0.a_ a2.aC)∧(nth a0.a_ a2.aC).toNat<J.aB.length))∧(OM dY a0 J a2))
def OO:Prop:=
  ((EA cd aV)=true→(GL cd (iS J) (dQ J) (dN J) (l9 cd aV) b_ bb)∧(∀(Ch:List av) (i71:List Nat) (zv:List (List Bool)),xW cd (iS J) (dQ J) (dN J) (l9 cd aV) b_ bb (dQ J) (dN J) Ch i71 zv→(ad zv i71 (qw cd) Ch∧ag zv i71 (qw cd) Ch<ag bb b_ cd aV)))∧((EA cd aV)=false→ad bb b_ (qw cd) (l9 cd aV)∧ag bb b_ (qw cd) (l9 cd aV)<ag bb b_ cd aV)
def OP:Prop:=
  ((l9 cd aV).length=b_.length∧cd.toNat<(l9 cd aV).length)∧(OO ad ag J bb b_ cd aV)
def OQ:Prop:=
  ((aV.length=b_.length∧cd.toNat<aV.length)∧((Bz cd aV)=true→ad bb b_ (qw cd) aV∧ag bb b_ (qw cd) aV<ag bb b_ cd aV))∧((!(Bz cd aV))=true→((aV.length=b_.length∧cd.toNat<aV.length)∧(aV.length=b_.length∧cd.toNat<aV.length))∧(OP ad ag J bb b_ cd aV))
def OR:Prop:=
  ad (fM J) (fN J) 0 (ff J)∧ ∀(bb:List (List Bool)) (b_:List Nat) (cd:Int) (aV:List av),ad bb b_ cd aV→(((decide (cd<(uX J)))=false→dY bb (dQ J) (dN J) b_ 0 aV)∧((decide (cd<(uX J)))=true→(0≤cd∧cd.toNat<aV.length)∧(OQ ad ag J bb b_ cd aV)))
def OS:Prop:=
  ((a2.op==5)=true→(0≤a2.aC∧a2.aC.toNat<(dN J).length)∧(dY (fM J) (dQ J) (Bv J a2) (fN J) 0 (ff J)))∧((a2.op==5)=false→((a2.op==6)=true→(wh a0 J a2.aC)∧((ki a0 J a2.aC).length≤4611686018427387904→ON dY a0 J a2))∧((a2.op==6)=false→((a2.op==7)=true→OR ad ag dY J)∧((a2.op==7)=false→dY (fM J) (dQ J) (dN J) (fN J) 0 (ff J))))
def OT:Prop:=
  ((a2.op==3)=true→(0≤a2.aC∧a2.aC.toNat<(dQ J).length)∧(dY (fM J) (By J a2) (dN J) (fN J) 0 (ff J)))∧((a2.op==3)=false→((a2.op==4)=true→(0≤a2.aC∧a2.aC.toNat<(dQ J).length)∧(dY (fM J) (Bx J a2) (dN J) (fN J) 0 (ff J)))∧((a2.op==4)=false→OS ad ag dY a0 J a2))
def OJ:Prop:=
  ((a2.op==2)=true→(Vk a0 a2.aC (iS J) (dQ J) (dN J) (ff J) (fN J) (fM J))∧(∀(fg:List av) (i28:List Nat) (lg:List (List Bool)) (Bj:Int),ye a0 a2.aC (iS J) (dQ J) (dN J) (ff J) (fN J) (fM J) (dQ J) (dN J) fg i28 lg Bj→(dY lg (dQ J) (dN J) i28 Bj fg)))∧((a2.op==2)=false→OT ad ag dY a0 J a2)
def OK:Prop:=
  (Ou a0 (iS J) aO bC aV b_ bb)∧(∀(o5:List av) (i82:List Nat) (ve:List (List Bool)),Eu a0 (iS J) aO bC aV b_ bb aO bC o5 i82 ve→((cT=aa.code)∧((aK J).ok=aa.frame.ok)∧(aO.length≤4611686018427387904∧aO=aa.frame.aB)∧(bC.length≤4611686018427387904∧bC=aa.frame.au)∧(me o5 i82 ve∧o5.length≤4611686018427387904∧(∀x∈ve,List.length x≤4611686018427387904)∧view o5 i82 ve=aa.frame.O)))
def OL:Prop:=
  (((tW a0 J)∧((!(h3 a0 J))=false→XI a0 a2))∧((tr a0 J a2)=true→(1=aa.code)∧(false=aa.frame.ok)∧([]=aa.frame.aB)∧([]=aa.frame.au)∧([]=aa.frame.O)))∧((!(tr a0 J a2))=true→(my J)∧((((a2.op==1)=true→(sp a0 J a2.aC)∧(OI dY a0 J a2))∧((a2.op==1)=false→OJ ad ag dY a0 J a2))∧(∀(bb:List (List Bool)) (aO:(List Bool)) (bC:(List bP)) (b_:List Nat) (cT:Int) (aV:List av),dY bb aO bC b_ cT aV→(OK a0 J aa bb b_ aV aO bC cT))))
def OH (a0:aQ) (J:Frame) (a2:Event) (aa:jO) (ad:kq Prop) (ag:kq Nat) (dY:B_ Prop):Prop:=
 OL ad ag dY a0 J a2 aa
theorem amP (a0:aQ) (J:Frame) (a2:Event) (aa:jO) (ad:kq Prop) (ag:kq Nat) (dY:B_ Prop) (h:OH a0 J a2 aa ad ag dY):bf Tryz.prog 28 [.agg (bH false a0),.agg (b9 false J),.agg (ie a2)] (.agg (ir true aa)):=by
 unfold OH at h
 refine de.go (fn:=Tryz.f28) (H6 a0 J a2) Tryz.func28 (fun _ _=> ?_)
 show WpS _ (bO amM 1) _ ⟨bt 133 (H6 a0 J a2),[],[]⟩
 refine WpS.so ?_ (jM (s'':=⟨(bt 133 (H6 a0 J a2)),[],[⟨0,4,[]⟩]⟩) (Weak.Hm (T:=(bt 133 (H6 a0 J a2))) (L:=[]) (H:=[]) 4) (by kernel_rfl))
 refine vl gU 0 [(6,aS 6 0),(5,aS 5 0),(4,aS 4 0),(3,aS 3 0)] [4] [] (Y4 a0 J a2) [⟨0,4,[]⟩] ?_
 unfold OL at h
 obtain⟨sb,h⟩:=h
 refine cR [] [4] ((!(tr a0 J a2))=true) ?_ (fun q2=> ?_)
 ·
  replace h:=sb
  obtain⟨k7,h⟩:=h
  refine cR [(20,aq (tr a0 J a2))] [4] (True) ?_ (fun q3=> ?_)
  ·
   replace h:=k7
   refine bE gU 1 ?_
   obtain⟨q4,h⟩:=h
   refine qt 3 (some 13) [(12,.agg (b9 false J)),(11,.agg (bH false a0))] [.agg (bH false a0),.agg (b9 false J)] (amQ a0 J q4) (ak.cons (df.agg (ak.cons (.int _ _) (ak.cons cW (ak.cons cW (ak.cons cW (ak.cons (.int _ _) ak.nil)))))) (ak.cons (df.agg (ak.cons (.bool _) (ak.cons cW (ak.cons cW (ak.cons cW ak.nil))))) ak.nil)) ?_
   refine pJ 2 15 (!(h3 a0 J)) [(14,aq (!(h3 a0 J)))] (fun cN=> ?_) (fun cN=> ?_)
   ·
    exact ca ([(20,aq true)]++hg [19,18,17,16]) trivial (by simp only[cN,tr]<;>kernel_rfl)
   ·
    replace h:=h cN
    have c2:=h
    refine qt 3 (some 18) [(17,.agg (ie a2)),(16,.agg (bH false a0))] [.agg (bH false a0),.agg (ie a2)] (ang a0 a2 c2) (ak.cons (df.agg (ak.cons (.int _ _) (ak.cons cW (ak.cons cW (ak.cons cW (ak.cons (.int _ _) ak.nil)))))) (ak.cons (df.agg (ak.cons (.int _ _) (ak.cons (.int _ _) (ak.cons (.int _ _) ak.nil)))) ak.nil)) ?_
    exact ca [(20,aq (!(hE a0 a2))),(19,aq (!(hE a0 a2)))] trivial (by simp only[cN,tr]<;>kernel_rfl)
  refine dZ (fun hz=> ?_) (fun hz=> ?_)
  ·
   replace h:=h hz
   refine vk gU 2 [(21,.agg [ai 1,aq false,c7,c7,c7])] [] [0,1,1] (fun L=>jU 0 0 (ai 1) L) id ?_
   exact ji (cE.ret (wy (.agg [ai 1,aq false,c7,c7,c7]) (j7.agg (ak.cons (BS h.1) (ak.cons (tv h.2.1) (ak.cons (Il h.2.2.1) (ak.cons (Il h.2.2.2.1) (ak.cons (Il h.2.2.2.2) ak.nil))))))))
  ·
   refine eP ?_
   exact cE.normal (by simp only[hz,tr]<;>rfl) e1
 replace h:=h q2
 obtain⟨N5,h⟩:=h
 refine fX [(7,.ptr 0 1 0 0)] [4] id (fun _=>(Y3 J)) (True) ?_ (fun hO=> ?_)
 ·
  replace h:=N5
  refine bE gU 3 ?_
  have kL:=h
  refine tp 2 (some 23) [(22,.agg (b9 false J))] [.agg (b9 false J)] (.agg (BA J)) (⟨0,4,[]⟩::⟨0,1,List.map aT (dQ J)⟩::⟨0,2,List.map bh (dN J)⟩::⟨0,5,aU 4 (ff J) (fN J)⟩::List.map br (fM J)) (Zp J kL) (ak.cons (df.agg (ak.cons (.bool _) (ak.cons cW (ak.cons cW (ak.cons cW ak.nil))))) ak.nil) A2 (uV YG (by kernel_rfl)) ?_ (er:=by simp[oX,qv,js])
  refine HX 1 [(7,.ptr 0 1 0 0)] (Y4 a0 J a2) (⟨1,4,[[aq false,c7,c7,c7]]⟩::⟨0,1,List.map aT (dQ J)⟩::⟨0,2,List.map bh (dN J)⟩::⟨0,5,aU 4 (ff J) (fN J)⟩::List.map br (fM J)) ?_
  refine Yy 1 [] (Y3 J) (φ:=1=1) (ψ:=4≤4) rfl (by decide) ?_
  exact ca [] trivial
 refine eO gU 4 [(8,ai 0)] [1] [5] ?_
 refine jx ?_
 refine eO gU 5 [(25,ai a2.op),(24,aS 5 0)] [1] [6] ?_
 obtain⟨uP,h⟩:=h
 refine Rl 0 (fun(v:List (List Bool)×(List Bool)×(List bP)×List Nat×Int×List av)=>(⟨(bt 133 [(3,aS 3 0),(6,aS 6 0),(7,.ptr 0 1 0 0),(8,ai (v.2.2.2.2.1))]),(nD a0),(⟨1,4,[[aq (iS J),ay 1 0 (v.2.1).length,ay 2 0 (v.2.2.1).length,ay 3 0 (v.2.2.2.2.2).length]]⟩::⟨0,1,List.map aT (v.2.1)⟩::⟨0,2,List.map bh (v.2.2.1)⟩::⟨0,5,aU 4 (v.2.2.2.2.2) (v.2.2.2.1)⟩::List.map br (v.1))⟩:St)) (fun v=>dY (v.1) (v.2.1) (v.2.2.1) (v.2.2.2.1) (v.2.2.2.2.1) (v.2.2.2.2.2)) ?_ (fun v eh=> ?_)
 ·
  replace h:=uP
  refine eO gU 6 [(26,aq (a2.op==1)),(27,aq (a2.op==1))] [1] [7] ?_
  refine dZ (fun j1=> ?_) (fun j1=> ?_)
  ·
   replace h:=h.1 j1
   obtain⟨iR,h⟩:=h
   refine cR [(8,ai (h9 a0 J a2.aC))] [0,3,3,1,1] (True) ?_ (fun m1=> ?_)
   ·
    replace h:=iR
    refine bE gU 7 ?_
    have k5:=h
    refine qt 5 (some 32) [(31,ai a2.aC),(30,aS 5 1),(29,.agg (b9 false J)),(28,.agg (bH false a0))] [.agg (bH false a0),.agg (b9 false J),ai a2.aC] (anU a0 J a2.aC k5) (ak.cons (df.agg (ak.cons (.int _ _) (ak.cons cW (ak.cons cW (ak.cons cW (ak.cons (.int _ _) ak.nil)))))) (ak.cons (df.agg (ak.cons (.bool _) (ak.cons cW (ak.cons cW (ak.cons cW ak.nil))))) (ak.cons (df.jc (.int _ _)) ak.nil))) ?_
    exact ca [(8,ai (h9 a0 J a2.aC))] trivial
   refine eO gU 8 [(34,aq ((h9 a0 J a2.aC)==0)),(33,ai (h9 a0 J a2.aC))] [1] [5] ?_
   unfold OI at h
   refine dZ (fun iQ=> ?_) (fun iQ=> ?_)
   ·
    replace h:=h.1 iQ
    refine bE gU 9 ?_
    obtain⟨l5,h⟩:=h
    refine wA 4 (some 38) [(37,ai a2.aC),(36,aS 5 1),(35,.agg (bH false a0))] [.agg (bH false a0),.ptr 0 1 0 0,ai a2.aC] _ (anv a0 a2.aC 1 (iS J) (dQ J) (dN J) (ff J) (fN J) (fM J) l5) (fun r H' U=>by obtain⟨_,_,rfl,_⟩:=U;rfl) ?_
    rintro r H' ⟨jF,pU,rfl,rfl,kM⟩
    replace h:=h jF pU kM
    refine ef [] ?_
    refine cs.normal ?_
    exact hS.normal ((fM J),(dQ J),jF,(fN J),(h9 a0 J a2.aC),pU) h (dX [5,4])
   ·
    replace h:=h.2 iQ
    refine eP ?_
    refine cs.normal ?_
    exact hS.normal ((fM J),(dQ J),(dN J),(fN J),(h9 a0 J a2.aC),(ff J)) h (dX [5,4])
  ·
   replace h:=h.2 j1
   refine eO gU 10 [(39,aq (a2.op==2)),(40,aq (a2.op==2))] [1] [0,1,7] ?_
   unfold OJ at h
   refine dZ (fun j2=> ?_) (fun j2=> ?_)
   ·
    replace h:=h.1 j2
    refine bE gU 11 ?_
    obtain⟨l6,h⟩:=h
    refine wA 4 (some 44) [(43,ai a2.aC),(42,aS 5 1),(41,.agg (bH false a0))] [.agg (bH false a0),.ptr 0 1 0 0,ai a2.aC] _ (ana a0 a2.aC 1 (iS J) (dQ J) (dN J) (ff J) (fN J) (fM J) l6) (fun r H' U=>by obtain⟨_,_,_,_,rfl,_⟩:=U;rfl) ?_
    rintro r H' ⟨fg,i28,lg,Bj,rfl,rfl,oR⟩
    replace h:=h fg i28 lg Bj oR
    refine ef [(8,ai Bj)] ?_
    refine cs.normal ?_
    exact hS.normal (lg,(dQ J),(dN J),i28,Bj,fg) h (dX [5,4])
   ·
    replace h:=h.2 j2
    refine eO gU 12 [(45,aq (a2.op==3)),(46,aq (a2.op==3))] [1] [0,1,7] ?_
    unfold OT at h
    refine dZ (fun nx=> ?_) (fun nx=> ?_)
    ·
     replace h:=h.1 nx
     refine bE gU 13 ?_
     refine pI 2 (some 48) (ay 1 0 (dQ J).length) [(47,.ptr 0 1 0 1)] (φ:=1=1) rfl ?_
     obtain⟨aa0,h⟩:=h
     refine m4 3 (some 51) [(50,ai a2.aC),(49,aS 5 1)] 1 0 1 aa0 ?_
     refine wB 1 none [] aT (dQ J) a2.aC 0 1 0 [aq true] 1 true (by simpa using aa0.2) ?_
     refine ef [] ?_
     refine cs.normal ?_
     exact hS.normal ((fM J),(By J a2),(dN J),(fN J),0,(ff J)) h (jM (s':=⟨wE,(nD a0),(⟨1,4,[(BA J)]⟩::⟨0,1,List.map aT (By J a2)⟩::⟨0,2,List.map bh (dN J)⟩::⟨0,5,aU 4 (ff J) (fN J)⟩::List.map br (fM J))⟩) (dX (n:=133) (A':=EB) (L':=(nD a0)) [5,4]) (congrArg (fun z=>(⟨wE,(nD a0),(⟨1,4,[[aq (iS J),ay 1 0 z,ay 2 0 (dN J).length,ay 3 0 (ff J).length]]⟩::⟨0,1,List.map aT (By J a2)⟩::⟨0,2,List.map bh (dN J)⟩::⟨0,5,aU 4 (ff J) (fN J)⟩::List.map br (fM J))⟩:St)) (show(dQ J).length=(By J a2).length by simp)))
    ·
     replace h:=h.2 nx
     refine eO gU 14 [(52,aq (a2.op==4)),(53,aq (a2.op==4))] [1] [0,1,7] ?_
     refine dZ (fun hY=> ?_) (fun hY=> ?_)
     ·
      replace h:=h.1 hY
      refine bE gU 15 ?_
      refine pI 2 (some 55) (ay 1 0 (dQ J).length) [(54,.ptr 0 1 0 1)] (φ:=1=1) rfl ?_
      obtain⟨aa2,h⟩:=h
      refine m4 3 (some 58) [(57,ai a2.aC),(56,aS 5 1)] 1 0 1 aa2 ?_
      refine wB 1 none [] aT (dQ J) a2.aC 0 1 0 [aq false] 1 false (by simpa using aa2.2) ?_
      refine ef [] ?_
      refine cs.normal ?_
      exact hS.normal ((fM J),(Bx J a2),(dN J),(fN J),0,(ff J)) h (jM (s':=⟨wE,(nD a0),(⟨1,4,[(BA J)]⟩::⟨0,1,List.map aT (Bx J a2)⟩::⟨0,2,List.map bh (dN J)⟩::⟨0,5,aU 4 (ff J) (fN J)⟩::List.map br (fM J))⟩) (dX (n:=133) (A':=EB) (L':=(nD a0)) [5,4]) (congrArg (fun z=>(⟨wE,(nD a0),(⟨1,4,[[aq (iS J),ay 1 0 z,ay 2 0 (dN J).length,ay 3 0 (ff J).length]]⟩::⟨0,1,List.map aT (Bx J a2)⟩::⟨0,2,List.map bh (dN J)⟩::⟨0,5,aU 4 (ff J) (fN J)⟩::List.map br (fM J))⟩:St)) (show(dQ J).length=(Bx J a2).length by simp)))
     ·
      replace h:=h.2 hY
      refine eO gU 16 [(59,aq (a2.op==5)),(60,aq (a2.op==5))] [1] [0,1,7] ?_
      unfold OS at h
      refine dZ (fun m2=> ?_) (fun m2=> ?_)
      ·
       replace h:=h.1 m2
       refine bE gU 17 ?_
       refine pI 2 (some 62) (ay 2 0 (dN J).length) [(61,.ptr 0 1 0 2)] (φ:=1=1) rfl ?_
       obtain⟨aa4,h⟩:=h
       refine m4 5 (some 67) [(66,ai a2.a1),(65,aS 5 2),(64,ai a2.aC),(63,aS 5 1)] 2 0 2 aa4 ?_
       refine wB 2 none [(68,.ptr 2 0 (0+a2.aC.toNat) 1)] bh (dN J) a2.aC 1 1 0 [ai a2.a1] 2 (bP.mk (nth (dN J) a2.aC).c6 a2.a1) (by simpa using aa4.2) ?_
       refine ef [] ?_
       refine cs.normal ?_
       exact hS.normal ((fM J),(dQ J),(Bv J a2),(fN J),0,(ff J)) h (jM (s':=⟨wE,(nD a0),(⟨1,4,[(BA J)]⟩::⟨0,1,List.map aT (dQ J)⟩::⟨0,2,List.map bh (Bv J a2)⟩::⟨0,5,aU 4 (ff J) (fN J)⟩::List.map br (fM J))⟩) (dX (n:=133) (A':=EB) (L':=(nD a0)) [5,4]) (congrArg (fun z=>(⟨wE,(nD a0),(⟨1,4,[[aq (iS J),ay 1 0 (dQ J).length,ay 2 0 z,ay 3 0 (ff J).length]]⟩::⟨0,1,List.map aT (dQ J)⟩::⟨0,2,List.map bh (Bv J a2)⟩::⟨0,5,aU 4 (ff J) (fN J)⟩::List.map br (fM J))⟩:St)) (show(dN J).length=(Bv J a2).length by simp)))
      ·
       replace h:=h.2 m2
       refine eO gU 18 [(69,aq (a2.op==6)),(70,aq (a2.op==6))] [1] [0,1,7] ?_
       refine dZ (fun kj=> ?_) (fun kj=> ?_)
       ·
        replace h:=h.1 kj
        obtain⟨kk,h⟩:=h
        refine cR [(77,aq (Ez a0 J a2))] [0,2,6] ((ki a0 J a2.aC).length≤4611686018427387904) ?_ (fun pG=> ?_)
        ·
         replace h:=kk
         refine bE gU 19 ?_
         have nz:=h
         refine qt 5 (some 75) [(74,ai a2.aC),(73,aS 5 1),(72,.agg (b9 false J)),(71,.agg (bH false a0))] [.agg (bH false a0),.agg (b9 false J),ai a2.aC] (ZU a0 J a2.aC nz) (ak.cons (df.agg (ak.cons (.int _ _) (ak.cons cW (ak.cons cW (ak.cons cW (ak.cons (.int _ _) ak.nil)))))) (ak.cons (df.agg (ak.cons (.bool _) (ak.cons cW (ak.cons cW (ak.cons cW ak.nil))))) (ak.cons (df.jc (.int _ _)) ak.nil))) ?_
         refine sLen 1 (some 76) [] cB (ki a0 J a2.aC) (fun ms=> ?_)
         exact ca [(77,aq (Ez a0 J a2))] ms
        replace h:=h pG
        unfold ON at h
        refine dZ (fun nA=> ?_) (fun nA=> ?_)
        ·
         replace h:=h.1 nA
         refine bE gU 20 ?_
         refine ef [(8,ai 2)] ?_
         refine cs.normal ?_
         exact hS.normal ((fM J),(dQ J),(dN J),(fN J),2,(ff J)) h (dX [5,4])
        ·
         replace h:=h.2 nA
         obtain⟨nB,h⟩:=h
         refine cR [(87,aq (nth J.aB (nth a0.a_ a2.aC)))] [0,1,4,1,1] (True) ?_ (fun n_=> ?_)
         ·
          replace h:=nB
          refine qq gU 21 amN amO [] ?_
          obtain⟨oT,h⟩:=h
          refine u6 7 (some 84) [(83,ai a2.aC),(82,aS 5 1),(81,bB cB a0.a_),(80,aS 3 1),(79,bB aT J.aB),(78,aS 4 1)] cB a0.a_ 1 oT ?_
          have oS:=h
          refine u6 2 (some 86) [(85,ai (nth a0.a_ a2.aC))] aT J.aB 1 oS ?_
          exact ma [(87,aq (nth J.aB (nth a0.a_ a2.aC)))] trivial
         unfold OM at h
         refine dZ (fun r_=> ?_) (fun r_=> ?_)
         ·
          replace h:=h.1 r_
          refine bE gU 22 ?_
          refine ef [(8,ai 3)] ?_
          refine cs.normal ?_
          exact hS.normal ((fM J),(dQ J),(dN J),(fN J),3,(ff J)) h (dX [5,4])
         ·
          replace h:=h.2 r_
          refine bE gU 23 ?_
          refine pI 2 (some 89) (ay 2 0 (dN J).length) [(88,.ptr 0 1 0 2)] (φ:=1=1) rfl ?_
          obtain⟨aa5,h⟩:=h
          refine m4 5 (some 94) [(93,ai a2.a1),(92,aS 5 2),(91,ai a2.aC),(90,aS 5 1)] 2 0 2 aa5 ?_
          refine wB 2 none [(95,.ptr 2 0 (0+a2.aC.toNat) 0)] bh (dN J) a2.aC 0 1 0 [ai a2.a1] 2 (bP.mk a2.a1 (nth (dN J) a2.aC).bA) (by simpa using aa5.2) ?_
          refine ef [] ?_
          refine cs.normal ?_
          exact hS.normal ((fM J),(dQ J),(Bw J a2),(fN J),0,(ff J)) h (jM (s':=⟨wE,(nD a0),(⟨1,4,[(BA J)]⟩::⟨0,1,List.map aT (dQ J)⟩::⟨0,2,List.map bh (Bw J a2)⟩::⟨0,5,aU 4 (ff J) (fN J)⟩::List.map br (fM J))⟩) (dX (n:=133) (A':=EB) (L':=(nD a0)) [5,4]) (congrArg (fun z=>(⟨wE,(nD a0),(⟨1,4,[[aq (iS J),ay 1 0 (dQ J).length,ay 2 0 z,ay 3 0 (ff J).length]]⟩::⟨0,1,List.map aT (dQ J)⟩::⟨0,2,List.map bh (Bw J a2)⟩::⟨0,5,aU 4 (ff J) (fN J)⟩::List.map br (fM J))⟩:St)) (show(dN J).length=(Bw J a2).length by simp)))
       ·
        replace h:=h.2 kj
        refine eO gU 24 [(96,aq (a2.op==7)),(97,aq (a2.op==7))] [1] [0,2,3,2,1] ?_
        refine dZ (fun m3=> ?_) (fun m3=> ?_)
        ·
         replace h:=h.1 m3
         refine cR [(100,ai (uX J)),(101,ai 0)] [0,1,4] (True) ?_ (fun oa=> ?_)
         ·
          refine bE gU 25 ?_
          refine pI 2 (some 99) (ay 3 0 (ff J).length) [(98,.ptr 0 1 0 3)] (φ:=1=1) rfl ?_
          exact ca [(101,ai 0),(100,ai (uX J))] trivial
         unfold OR at h
         refine hp 1 ?_
         obtain⟨oV,h⟩:=h
         refine ng (fun(v:List (List Bool)×List Nat×Int×List av)=>(⟨(bt 133 [(3,aS 3 0),(6,aS 6 0),(7,.ptr 0 1 0 0),(8,ai 0),(100,ai (uX J)),(101,ai (v.2.2.1))]),(nD a0),(⟨1,4,[[aq (iS J),ay 1 0 (dQ J).length,ay 2 0 (dN J).length,ay 3 0 (v.2.2.2).length]]⟩::⟨0,1,List.map aT (dQ J)⟩::⟨0,2,List.map bh (dN J)⟩::⟨0,5,aU 4 (v.2.2.2) (v.2.1)⟩::List.map br (v.1))⟩:St)) (fun(v:List (List Bool)×List Nat×Int×List av)=>ad (v.1) (v.2.1) (v.2.2.1) (v.2.2.2)) (fun(v:List (List Bool)×List Nat×Int×List av)=>ag (v.1) (v.2.1) (v.2.2.1) (v.2.2.2)) ((fM J),(fN J),0,(aK J).O) (dX [5,4]) oV (fun v aN=> ?_)
         obtain⟨bb,b_,cd,aV⟩:=v
         replace h:=h bb b_ cd aV aN
         dsimp only
         refine eO gU 26 [(102,aq (decide (cd<(uX J))))] [1] [6] ?_
         obtain⟨Bg,h⟩:=h
         refine cR [] [0,1,6] ((decide (cd<(uX J)))=true) ?_ (fun ob=> ?_)
         ·
          replace h:=Bg
          refine dZ (fun q_=> ?_) (fun q_=> ?_)
          ·
           refine eP ?_
           exact cE.normal (by simp only[q2,j1,j2,nx,hY,m2,kj,m3,q_,tr]<;>rfl) e1
          ·
           replace h:=h q_
           refine lh 1 ?_
           refine cE.exit ?_
           refine eC.exit ?_
           refine cs.here ?_
           refine cs.normal ?_
           exact hS.normal (bb,(dQ J),(dN J),b_,0,aV) h (dX [])
         replace h:=h ob
         refine jx ?_
         refine hp 2 ?_
         refine eO gU 27 [(9,ai cd),(103,ai cd)] [1] [6] ?_
         obtain⟨wq,h⟩:=h
         refine cR [(10,.ptr 3 0 (oY cd) 0)] [0,1,6] (True) ?_ (fun tk=> ?_)
         ·
          replace h:=wq
          refine bE gU 28 ?_
          refine pI 2 (some 105) (ay 3 0 aV.length) [(104,.ptr 0 1 0 3)] (φ:=1=1) rfl ?_
          have aoX:=h
          refine m4 2 (some 107) [(106,ai cd)] 3 0 5 aoX ?_
          exact ca [(10,.ptr 3 0 (oY cd) 0)] trivial
         unfold OQ at h
         obtain⟨wo,h⟩:=h
         refine cR [] [7] ((!(Bz cd aV))=true) ?_ (fun oc=> ?_)
         ·
          replace h:=wo
          obtain⟨qp,h⟩:=h
          refine cR [(112,aq (Bz cd aV))] [7] (True) ?_ (fun Be=> ?_)
          ·
           replace h:=qp
           refine bE gU 29 ?_
           have qn:=h
           refine jH 4 (some 111) [(110,.ptr 3 0 (oY cd) 0),(109,.ptr 3 0 (oY cd) 0),(108,.ptr 3 0 (oY cd) 0)] (aU 4 aV b_) cd 3 0 0 (ai (nth aV cd).aJ) (dK qn.1 qn.2) ?_
           exact ca [(112,aq (Bz cd aV))] trivial
          refine dZ (fun qo=> ?_) (fun qo=> ?_)
          ·
           replace h:=h qo
           refine lh 2 ?_
           refine cE.exit ?_
           refine cs.here ?_
           refine ej.normal ?_
           refine bE gU 33 ?_
           refine ef (OW cd) ?_
           exact eC.again (bb,b_,(qw cd),aV) h (dX [])
          ·
           refine eP ?_
           exact cE.normal (by simp only[q2,j1,j2,nx,hY,m2,kj,m3,ob,qo,tr]<;>rfl) e1
         replace h:=h oc
         obtain⟨wm,h⟩:=h
         refine fX [] [7] id (fun H=>eE 3 ⟨0,5,aU 4 (l9 cd aV) b_⟩ H) (True) ?_ (fun pH=> ?_)
         ·
          replace h:=wm
          refine bE gU 30 ?_
          obtain⟨l7,h⟩:=h
          refine jH 4 (some 116) [(115,.ptr 3 0 (oY cd) 4),(114,.ptr 3 0 (oY cd) 0),(113,.ptr 3 0 (oY cd) 0)] (aU 4 aV b_) cd 3 4 0 (ai (nth aV cd).bR) (dK l7.1 l7.2) ?_
          have oU:=h
          refine k8 4 none [(119,.ptr 3 0 (oY cd) 4),(118,.ptr 3 0 (oY cd) 0),(117,ai (IntKind.i64.wrap ((nth aV cd).bR - 1)))] (aU 4 aV b_) cd 4 1 0 [ai (IntKind.i64.wrap ((nth aV cd).bR - 1))] 3 (aU 4 (l9 cd aV) b_) (dK oU.1 oU.2) (ln oU.1 oU.2) ?_
          exact ca [] trivial
         unfold OP at h
         obtain⟨tl,h⟩:=h
         refine cR [(124,aq (EA cd aV))] [7] (True) ?_ (fun HL=> ?_)
         ·
          replace h:=tl
          refine bE gU 31 ?_
          have sa:=h
          refine jH 4 (some 123) [(122,.ptr 3 0 (oY cd) 4),(121,.ptr 3 0 (oY cd) 0),(120,.ptr 3 0 (oY cd) 0)] (aU 4 (l9 cd aV) b_) cd 3 4 0 (ai (nth (l9 cd aV) cd).bR) (dK sa.1 sa.2) ?_
          exact ca [(124,aq (EA cd aV))] trivial
         unfold OO at h
         refine dZ (fun uN=> ?_) (fun uN=> ?_)
         ·
          replace h:=h.1 uN
          refine bE gU 32 ?_
          obtain⟨uO,h⟩:=h
          refine Yx (⟨1,4,[[aq (iS J),ay 1 0 (dQ J).length,ay 2 0 (dN J).length,ay 3 0 (l9 cd aV).length]]⟩::⟨0,1,List.map aT (dQ J)⟩::⟨0,2,List.map bh (dN J)⟩::⟨0,5,aU 4 (l9 cd aV) b_⟩::List.map br bb) (by rw[show aV.length=(l9 cd aV).length by simp]<;>rfl) ?_
          refine wA 2 (some 126) [(125,.ptr 3 0 (oY cd) 0)] [.ptr 3 0 (oY cd) 0] _ (Ps cd 1 (iS J) (dQ J) (dN J) (l9 cd aV) b_ bb uO) (fun r H' U=>by obtain⟨_,_,_,rfl,_⟩:=U;rfl) ?_
          rintro r H' ⟨Ch,i71,zv,rfl,rfl,wl⟩
          replace h:=h Ch i71 zv wl
          refine ef [] ?_
          refine cs.normal ?_
          refine ej.normal ?_
          refine bE gU 33 ?_
          refine ef (OW cd) ?_
          exact eC.again (zv,i71,(qw cd),Ch) h (dX [])
         ·
          replace h:=h.2 uN
          refine eP ?_
          refine cs.normal ?_
          refine ej.normal ?_
          refine bE gU 33 ?_
          refine ef (OW cd) ?_
          exact eC.again (bb,b_,(qw cd),(l9 cd aV)) h (jM (s':=⟨(bt 133 (OU J cd)),(nD a0),(⟨1,4,[[aq (iS J),ay 1 0 (dQ J).length,ay 2 0 (dN J).length,ay 3 0 aV.length]]⟩::⟨0,1,List.map aT (dQ J)⟩::⟨0,2,List.map bh (dN J)⟩::⟨0,5,aU 4 (l9 cd aV) b_⟩::List.map br bb)⟩) (dX (n:=133) (A':=(OU J cd)) (L':=(nD a0)) []) (congrArg (fun z=>(⟨(bt 133 (OU J cd)),(nD a0),(⟨1,4,[[aq (iS J),ay 1 0 (dQ J).length,ay 2 0 (dN J).length,ay 3 0 z]]⟩::⟨0,1,List.map aT (dQ J)⟩::⟨0,2,List.map bh (dN J)⟩::⟨0,5,aU 4 (l9 cd aV) b_⟩::List.map br bb)⟩:St)) (show aV.length=(l9 cd aV).length by simp)))
        ·
         replace h:=h.2 m3
         refine eP ?_
         refine cs.normal ?_
         exact hS.normal ((fM J),(dQ J),(dN J),(fN J),0,(ff J)) h (dX [5,4])
 obtain⟨bb,aO,bC,b_,cT,aV⟩:=v
 replace h:=h bb aO bC b_ cT aV eh
 dsimp only
 unfold OK at h
 refine jx ?_
 refine bE gU 34 ?_
 obtain⟨HM,h⟩:=h
 refine wA 2 (some 129) [(128,.agg (bH false a0))] [.agg (bH false a0),.ptr 0 1 0 0] _ (ZO a0 1 (iS J) aO bC aV b_ bb HM) (fun r H' U=>by obtain⟨_,_,_,rfl,_⟩:=U;rfl) ?_
 rintro r H' ⟨o5,i82,ve,rfl,rfl,Eh⟩
 replace h:=h o5 i82 ve Eh
 refine ef [] ?_
 refine ej.normal ?_
 refine mI ⟨(bt 133 [(6,aS 6 0)]),[(6,(OV J aO bC cT o5)),(3,(bH false a0))],(⟨1,4,[[aq (iS J),ay 1 0 aO.length,ay 2 0 bC.length,ay 3 0 o5.length]]⟩::⟨0,1,List.map aT aO⟩::⟨0,2,List.map bh bC⟩::⟨0,5,aU 4 o5 i82⟩::List.map br ve)⟩ (True) ?_ (fun wu=> ?_)
 ·
  refine bE gU 35 ?_
  refine pI 2 (some 131) (.agg [aq (iS J),ay 1 0 aO.length,ay 2 0 bC.length,ay 3 0 o5.length]) [(130,ai cT)] (φ:=1=1) rfl ?_
  exact ca [(132,.agg (OV J aO bC cT o5))] trivial
 exact ji (wy (.agg (OV J aO bC cT o5)) (j7.agg (ak.cons (BS h.1) (ak.cons (tv h.2.1) (ak.cons (wN (sz:=1) (by simp) rfl (CL) h.2.2.1) (ak.cons (wN (sz:=2) (by simp) rfl (Fz) h.2.2.2.1) (ak.cons (P4 (s:=4) (ws:=o5) (ids:=i82) (bs:=ve) (by simp) rfl (fun id k h=>by simpa using h) h.2.2.2.2) ak.nil)))))))
theorem amL (ab:Ok a0 J a2):bf Tryz.prog 28 [.agg (bH false a0),.agg (b9 false J),.agg (ie a2)] (.agg (ir true (uW a0 J a2))):=amP a0 J a2 (uW a0 J a2) (fun bs is v ws=>cq J.O.length (fun _=>false) v∧gL ws is bs∧view ws is bs=kp a0 v.toNat J.O) (fun _ _ v _=>cI J.O.length v) (fun bs o q is c ws=>gL ws is bs∧c=gb a0 J a2∧Frame.mk J.ok o q (view ws is bs)=lC a0 J a2) (by
 unfold OH OL tr
 have hs:my J:=ab
 have nr:=hs
 obtain⟨lM,z2,z3,z4⟩:=nr
 refine⟨⟨⟨hs,fun hk=> ?_⟩,fun hc=> ?_⟩,fun hc=> ?_⟩
 ·have hk:h3 a0 J=true:=by simpa using hk
  have h1:=(Gc hk).in.c0
  exact⟨by omega,by omega⟩
 ·have hc: ¬(h3 a0 J&&hE a0 a2)=true:=by
   intro h;rw[Bool.and_eq_true] at h;rw[h.1,h.2] at hc;cases hc
  have e:uW a0 J a2=⟨1,⟨false,[],[],[]⟩⟩:=by unfold uW;rw[if_neg hc]
  rw[e];exact⟨rfl,rfl,rfl,rfl,rfl⟩
 have hc:h3 a0 J=true∧hE a0 a2=true:=by simpa using hc
 obtain⟨hk,he⟩:=hc
 have hf:=Gc hk
 have cF:=hf.in
 have dj:=hf.fr
 have aw:=dj.O
 have sU:=dj.aB
 have mh:=dj.au
 have Dn:=cF.O
 have ul:=cF.c0
 have Ap:=cF.bi
 have Lr:uW a0 J a2=⟨gb a0 J a2,eJ a0 (lC a0 J a2)⟩:=by unfold uW;rw[if_pos (by rw[hk,he];rfl)]
 obtain⟨cP,dd,dV⟩:=CT J.O
 have pj:gL J.O (List.range J.O.length) (J.O.map av.ae):=⟨cP,dd,fun b hb=>by
  obtain⟨h,bw,rfl⟩:=List.mem_map.1 hb;exact z4 h bw⟩
 have GC:cX (aK J).ok (aK J).aB (aK J).au (aK J).O (List.range (aK J).O.length) (List.map av.ae (aK J).O)=J:=by
  show Frame.mk J.ok J.aB J.au (view J.O (List.range J.O.length) (List.map av.ae J.O))=J
  rw[dV]
 have sY:view (aK J).O (List.range (aK J).O.length) (List.map av.ae (aK J).O)=J.O:=dV
 have kW: ∀c:Int,c=gb a0 J a2→c≠0→gL J.O (List.range J.O.length) (J.O.map av.ae)∧c=gb a0 J a2∧Frame.mk J.ok J.aB J.au (view J.O (List.range J.O.length) (J.O.map av.ae))=lC a0 J a2:=fun c hc bq=>⟨pj,hc,by
  unfold lC;rw[if_neg (by rw[←hc];exact bq),dV]⟩
 have Le:gb a0 J a2=0→lC a0 J a2=jy a0 J a2:=fun h=>by unfold lC;rw[if_pos h]
 refine⟨hs,⟨fun h1=> ?_,fun h1=> ?_⟩,fun bs o q is c ws eh=> ?_⟩
 ·have h1:a2.op=1:=by simpa using h1
  have aY:=xg he (.inl h1)
  have uc:gb a0 J a2=h9 a0 J a2.aC:=by unfold gb;rw[if_pos h1]
  unfold OI dQ dN iS fN fM ff
  refine⟨⟨hf,aY.1,aY.2⟩,fun az=>⟨⟨pj,cF,aY.1,by show a2.aC<(J.O.length:Int);omega,aY.2,mh⟩,fun q w lv=> ?_⟩,fun az=> ?_⟩
  ·have az:h9 a0 J a2.aC=0:=by simpa using az
   obtain⟨U,G,hv⟩:=lv
   rw[sY] at hv
   refine⟨G,uc.symm,?_⟩
   rw[Le (by rw[uc,az])]
   unfold jy
   rw[if_pos h1,hv,U];rfl
  ·have az: ¬h9 a0 J a2.aC=0:=by simpa using az
   exact kW _ uc.symm az
 ·have h1: ¬a2.op=1:=by simpa using h1
  unfold OJ dQ dN iS fN fM ff
  refine⟨fun h2=> ?_,fun h2=> ?_⟩
  ·have h2:a2.op=2:=by simpa using h2
   have aY:=xg he (.inr h2)
   refine⟨⟨pj,cF,aY.1,by show a2.aC<(J.O.length:Int);omega,aY.2,sU⟩,fun w i b r lv=> ?_⟩
   unfold ye at lv
   rw[GC,sY] at lv
   obtain⟨G,aj,hv⟩:=lv
   have uc:gb a0 J a2=vf J a2.aC:=by unfold gb;rw[if_neg h1,if_pos h2];rfl
   refine⟨G,aj.trans uc.symm,?_⟩
   unfold lC
   rw[uc,hv]
   by_cases az:vf J a2.aC=0
   ·rw[if_pos az,if_pos az]
    unfold jy Fl
    rw[if_neg h1,if_pos h2,TF dj aY.1 aY.2]
    split<;>rfl
   ·rw[if_neg az,if_neg az];rfl
  have h2: ¬a2.op=2:=by simpa using h2
  have ok: ∀(o:List Bool) (q:List bP),gb a0 J a2=0→jy a0 J a2={J with aB:=o,au:=q}→gL J.O (List.range J.O.length) (J.O.map av.ae)∧0=gb a0 J a2∧Frame.mk J.ok o q (view J.O (List.range J.O.length) (J.O.map av.ae))=lC a0 J a2:=fun o q hc aW=>⟨pj,hc.symm,by rw[Le hc,dV,aW]⟩
  unfold OT By Bx dQ dN fN fM ff
  refine⟨fun aD=> ?_,fun aD=>⟨fun bj=> ?_,fun bj=> ?_⟩⟩
  ·have aD:a2.op=3:=by simpa using aD
   have aY:=Ki he (.inl aD)
   refine⟨⟨aY.1,by show a2.aC.toNat<J.aB.length;omega⟩,ok _ _ ?_ ?_⟩
   ·unfold gb;rw[if_neg h1,if_neg h2,if_neg (by omega)]
   ·unfold jy;rw[if_neg h1,if_neg h2,if_pos (.inl aD),aD];rfl
  ·have bj:a2.op=4:=by simpa using bj
   have aY:=Ki he (.inr bj)
   refine⟨⟨aY.1,by show a2.aC.toNat<J.aB.length;omega⟩,ok _ _ ?_ ?_⟩
   ·unfold gb;rw[if_neg h1,if_neg h2,if_neg (by omega)]
   ·unfold jy;rw[if_neg h1,if_neg h2,if_pos (.inr bj),bj];rfl
  have KK: ¬a2.op=3:=by simpa using aD
  have KL: ¬a2.op=4:=by simpa using bj
  have aD: ¬(a2.op=3∨a2.op=4):=by omega
  unfold OS Bv dQ dN fN fM ff
  refine⟨fun cl=> ?_,fun cl=> ?_⟩
  ·have cl:a2.op=5:=by simpa using cl
   have aY:=F0 he (.inl cl)
   refine⟨⟨aY.1,by show a2.aC.toNat<J.au.length;omega⟩,ok _ _ ?_ ?_⟩
   ·unfold gb;rw[if_neg h1,if_neg h2,if_neg (by omega)]
   ·unfold jy;rw[if_neg h1,if_neg h2,if_neg aD,if_pos cl];rfl
  have cl: ¬a2.op=5:=by simpa using cl
  refine⟨fun cC=> ?_,fun cC=>⟨fun hM=> ?_,fun hM=> ?_⟩⟩
  ·have cC:a2.op=6:=by simpa using cC
   have aY:=F0 he (.inr cC)
   have iv:gb a0 J a2=if jZ a0 J a2.aC=true then 2 else if lF a0 J a2.aC=true then 3 else 0:=by unfold gb;rw[if_neg h1,if_neg h2,if_pos cC]
   refine⟨⟨hf,aY.1,aY.2⟩,fun _=> ?_⟩
   unfold ON OM Ez Bw dQ dN fN fM ff
   have Lx:=cF.a_ _ (ee (show a2.aC.toNat<a0.a_.length by omega))
   refine⟨fun hc=> ?_,fun hc=>⟨⟨⟨aY.1,by omega⟩,Lx.1,by omega⟩,fun an=> ?_,fun an=>⟨⟨aY.1,by show _<J.au.length;omega⟩,ok _ _ ?_ ?_⟩⟩⟩
   ·rw[if_pos (show jZ a0 J a2.aC=true from hc)] at iv
    exact kW 2 iv.symm (by decide)
   ·rw[if_neg (show ¬jZ a0 J a2.aC=true by rw[show jZ a0 J a2.aC=false from hc];simp),if_pos (show lF a0 J a2.aC=true from an)] at iv
    exact kW 3 iv.symm (by decide)
   ·rw[if_neg (show ¬jZ a0 J a2.aC=true by rw[show jZ a0 J a2.aC=false from hc];simp),if_neg (show ¬lF a0 J a2.aC=true by rw[show lF a0 J a2.aC=false from an];simp)] at iv
    exact iv
   ·unfold jy;rw[if_neg h1,if_neg h2,if_neg aD,if_neg cl,if_pos cC];rfl
  ·have cC: ¬a2.op=6:=by simpa using cC
   have hM:a2.op=7:=by simpa using hM
   have iv:gb a0 J a2=0:=by unfold gb;rw[if_neg h1,if_neg h2,if_neg cC]
   unfold OR uX dQ dN fN fM ff
   refine⟨⟨dB (dt _),pj,dV⟩,fun bs is v ws aN=> ?_⟩
   obtain⟨aN,G,kX⟩:=aN
   have GG:ws.length=J.O.length:=by rw[←jJ G.ok,kX,Qg]
   refine⟨fun hv=>⟨G,iv.symm,?_⟩,fun hv=> ?_⟩
   ·have ly: ¬v<(J.O.length:Int):=of_decide_eq_false hv
    have ar:=aN.1
    have hb:=aN.2.1
    rw[Le iv,kX,show v.toNat=J.O.length by omega]
    unfold jy;rw[if_neg h1,if_neg h2,if_neg aD,if_neg cl,if_neg cC,if_pos hM];rfl
   ·have cz:=cA aN hv
    have aM:v.toNat<ws.length:=by omega
    have Af:v.toNat<a0.O.length:=by omega
    have bW:dp (kp a0 v.toNat J.O) is v (nth (kp a0 v.toNat J.O) v) ws bs:=dp.start G.ok G.lD aM kX G.len
    have a7:=dn (by omega) aN hv rfl
    have sZ:=mE (show(J.O.length:Int)≤4611686018427387904 by omega) aN.1 (of_decide_eq_true hv)
    have b7:=bW.Bs (IntKind.i64.wrap ((nth ws v).bR - 1))
    have fin: ∀{dc:List Nat} {lL:List av} {nQ:List (List Bool)} {x:av},dp (kp a0 v.toNat J.O) dc v x lL nQ→x=qz a0 v.toNat (nth (kp a0 v.toNat J.O) v)→(cq J.O.length (fun _=>false) (IntKind.i64.wrap (v+1))∧gL lL dc nQ∧view lL dc nQ=kp a0 (IntKind.i64.wrap (v+1)).toNat J.O)∧cI J.O.length (IntKind.i64.wrap (v+1))<cI J.O.length v:=fun F hx=>by
     refine⟨⟨a7.1,F.G,?_⟩,a7.2⟩
     rw[F.io,hx,sZ,show(v+1).toNat=v.toNat+1 by omega]
     show _=(kp a0 v.toNat J.O).set v.toNat (qz a0 v.toNat (nth (kp a0 v.toNat J.O) (v.toNat:Int)))
     rw[ml cz.1]
    have aY:(nth (ws.set v.toNat (av.mk (nth ws v).aJ (nth ws v).ba (nth ws v).ae (nth ws v).bS (IntKind.i64.wrap ((nth ws v).bR - 1)))) v).bR=IntKind.i64.wrap ((nth ws v).bR - 1):=b7.bR
    have K8:dE a0 (v.toNat:Int)=dE a0 v:=by rw[Int.toNat_of_nonneg cz.1]
    unfold OQ OP OO Bz EA qw dQ dN iS l9
    rw[aY,bW.bR,bW.aJ]
    rw[bW.bR,bW.aJ] at b7
    refine⟨⟨cz.1,aM⟩,⟨bW.fR,fun aD=>fin bW ?_⟩,fun aD=>⟨⟨bW.fR,bW.fR⟩,b7.fR,fun aA=>⟨⟨b7.G,cz.1,by have:=b7.lt;omega⟩,fun w i b lv=> ?_⟩,fun aA=>fin b7 ?_⟩⟩
    ·unfold qz;rw[if_neg (by simpa using aD)]
    ·obtain⟨pV,ly⟩:=lv
     refine fin (b7.again pV ly) ?_
     have hb:=Qf dj v.toNat
     have dT:=TF hb cz.1 (by omega)
     unfold qz
     rw[if_pos (by simpa using aD),if_pos (by simpa using aA),K8,←dT,b7.AZ]
    ·unfold qz;rw[if_pos (by simpa using aD),if_neg (by simpa using aA)]
  ·have cC: ¬a2.op=6:=by simpa using cC
   have hM: ¬a2.op=7:=by simpa using hM
   refine ok _ _ ?_ ?_
   ·unfold gb;rw[if_neg h1,if_neg h2,if_neg cC]
   ·unfold jy;rw[if_neg h1,if_neg h2,if_neg aD,if_neg cl,if_neg cC,if_neg hM];rfl
 ·obtain⟨G,hc,aW⟩:=eh
  have cz:=akh dj he
  have pk:cX (aK J).ok o q ws is bs=lC a0 J a2:=aW
  have oE:=Bu a0 (lC a0 J a2) (lC a0 J a2).O.length
  unfold OK iS
  refine⟨⟨G,cF,by rw[pk];exact cz⟩,fun w i b lv=> ?_⟩
  obtain⟨pV,ly⟩:=lv
  rw[pk] at ly
  rw[←aW] at cz
  have an:=cz.aB
  have U:=cz.au
  replace an:(o.length:Int)=a0.ao:=an
  replace U:q.length=a0.a_.length:=U
  have GG:w.length=(lC a0 J a2).O.length:=by rw[←jJ pV.ok,ly];exact wD _ _ _
  have hml:(lC a0 J a2).O.length=a0.O.length:=by rw[←aW];exact cz.O
  rw[Lr]
  refine⟨hc,?_,⟨by omega,?_⟩,⟨by omega,?_⟩,pV.ok,by omega,fun x hx=>by have:=pV.len x hx;omega,ly⟩
  ·show J.ok=(eJ a0 (lC a0 J a2)).ok
   unfold eJ;rw[oE.1,←aW]
  ·show o=(eJ a0 (lC a0 J a2)).aB
   unfold eJ;rw[oE.2.1,←aW]
  ·show q=(eJ a0 (lC a0 J a2)).au
   unfold eJ;rw[oE.2.2,←aW])
end
end Go.Proofs.YtejmihecgodhnaaGreat.Fw
set_option linter.unusedVariables false
namespace Go.Proofs.YtejmihecgodhnaaGreat.Fw
open Go Go.RowKit
theorem amK (p:aQ) (f:Frame) (e:Event):uW p f e=vc p f e:=by
  unfold uW vc
  by_cases h:(h3 p f&&hE p e)=true
  · rw[if_pos h,if_pos h]
    rw[Bool.and_eq_true] at h
    exact aki h.1
  · rw[if_neg h,if_neg h]
theorem JG {ev:Event} {w:World}:Calls Tryz.prog 29 #[.agg #[.int .i64 ev.op,.int .i64 ev.aC,.int .i64 ev.a1]] w fun e w'=>e= .returned (.agg #[.int .i64 ev.op,.int .i64 ev.aC,.int .i64 ev.a1])∧Below w.heap.size w w':=by
  have hv:V2 (Env.at w) (.agg (ie ev)) (.agg #[.int .i64 ev.op,.int .i64 ev.aC,.int .i64 ev.a1]):=⟨[.int .i64 ev.op,.int .i64 ev.aC,.int .i64 ev.a1],rfl,.cons (aP.int _ _) (.cons (aP.int _ _) (.cons (aP.int _ _) .nil))⟩
  refine(bf.BZ (e:= .ll) (x:=ev) (vs:=[.agg #[.int .i64 ev.op,.int .i64 ev.aC,.int .i64 ev.a1]]) (ajh ev) (.cons hv .nil)).mono ?_
  rintro e w' ⟨eM,rfl,hb,aD⟩
  obtain⟨vs,rfl,ab⟩:=(show ∃vs:List Value,eM= .agg vs.toArray∧ak (b4 (Env.ro w' (fG w w'))) (ie ev) vs from aD)
  obtain⟨a,vs,rfl,ar,ab⟩:=ab.cons_inv
  obtain⟨b,vs,rfl,dT,ab⟩:=ab.cons_inv
  obtain⟨c,vs,rfl,hc,ab⟩:=ab.cons_inv
  obtain rfl:=ab.n8
  have ar:aP w' _ _ (.int .i64 ev.op) a:=ar
  have dT:aP w' _ _ (.int .i64 ev.aC) b:=dT
  have hc:aP w' _ _ (.int .i64 ev.a1) c:=hc
  cases ar;cases dT;cases hc
  exact⟨rfl,hb⟩
theorem acG {p:aQ} {f:Frame} {ev:Event} {s:jO} (hs:vc p f ev=s) (ab:Ok p f ev) {w:World} {v u:Value} (h:V2 (Env.at w) (.agg (bH false p)) v) (h':V2 (Env.at w) (.agg (b9 false f)) u):
    Calls Tryz.prog 28 #[v,u,.agg #[.int .i64 ev.op,.int .i64 ev.aC,.int .i64 ev.a1]] w fun e w'=> ∃bL bo bG bk bF bg,e= .returned (.agg #[.int .i64 s.code,.bool s.frame.ok,.slice bL s.frame.aB.length bo,.slice bG s.frame.au.length bk,.slice bF s.frame.O.length bg])∧Below w.heap.size w w'∧et w' (fG w w') (.agg (ir false s)) (.agg #[.int .i64 s.code,.bool s.frame.ok,.slice bL s.frame.aB.length bo,.slice bG s.frame.au.length bk,.slice bF s.frame.O.length bg]):=by
  subst hs
  rw[←amK]
  have hv:V2 (Env.at w) (.agg (ie ev)) (.agg #[.int .i64 ev.op,.int .i64 ev.aC,.int .i64 ev.a1]):=⟨[.int .i64 ev.op,.int .i64 ev.aC,.int .i64 ev.a1],rfl,.cons (aP.int _ _) (.cons (aP.int _ _) (.cons (aP.int _ _) .nil))⟩
  refine(bf.BZ (e:= .done) (x:=uW p f ev) (vs:=[v,u,.agg #[.int .i64 ev.op,.int .i64 ev.aC,.int .i64 ev.a1]]) (amL p f ev ab) (.cons h (.cons h' (.cons hv .nil)))).mono ?_
  rintro e w' ⟨eM,h1,h2,aD⟩
  obtain⟨bL,bo,bG,bk,bF,bg,rfl⟩:=aoq aD
  exact⟨bL,bo,bG,bk,bF,bg,h1,h2,aD⟩
theorem JD {s:jO} {w:World} {v u:Value} (h:V2 (Env.at w) (.agg (ir false s)) v) (k:V2 (Env.at w) (.agg (ir false s)) u):
    Calls Tryz.prog 31 #[v,u] w fun e w'=>e= .returned (.bool true)∧Below w.heap.size w w':=by
  have:=bf.bool (vs:=[v,u]) (ais s s) (.cons h (.cons k .nil))
  unfold eqv at this
  rw[decide_eq_true rfl] at this
  exact this
set_option maxHeartbeats 1000000
set_option maxRecDepth 100000
theorem acB {w:World} {S:Nat→Prop} {c:Int} {ok:Bool} {bL bG bF:Option Addr} {bM bo b5 bk n2 bg:Nat} {L:dJ} {k:Int} (h:ib .bool .dx .held w S bL bG bF bM bo b5 bk n2 bg L) (aW:lf L) (aA:0≤k) (h1:k+(L.length:Nat)≤4611686018427387904):
    Calls Tryz.prog 32 #[.agg #[.int .i64 c,.bool ok,.slice bL bM bo,.slice bG b5 bk,.slice bF n2 bg],.int .i64 k] w fun e w'=>e= .returned (.int .i64 (k+(L.length:Nat)))∧hR w w' S L k:=by
  have o_:Hid (Below w.heap.size w (w.alloc (.cells #[.int .i64 c,.bool ok,.slice bL bM bo,.slice bG b5 bk,.slice bF n2 bg] 67))):=(Below.refl _ _).alloc (Nat.le_refl _) _
  have Co:Hid (ib .bool .dx .held (w.alloc (.cells #[.int .i64 c,.bool ok,.slice bL bM bo,.slice bG b5 bk,.slice bF n2 bg] 67)) S bL bG bF bM bo b5 bk n2 bg L):=h.e8 (S':=S) (dC.below o_.out)
  have w1:=Lib.hid aW;clear aW
  go_enter Tryz.func32,Tryz.ntmps32
  go_wp2_with (go_at_call 16;refine(acD Co.out w1.out aA h1).mono ?_)
  first
  | (rintro e bn rfl hb)
  | (rintro e bn ⟨rfl,hb⟩)
  have tF:=Lib.hid hb;clear hb
  go_wp2
  go_ret
  exact⟨rfl,.below o_.out tF.out⟩
theorem Ru {w:World} {S:Nat→Prop} {c:Int} {ok:Bool} {bL bG bF:Option Addr} {bM bo b5 bk n2 bg:Nat} {L:dJ} {k:Int} (h:ib .bool .dx .held w S bL bG bF bM bo b5 bk n2 bg L∧ft w L k) (aA:0≤k) (h1:k+(L.length:Nat)≤4611686018427387904):
    Calls Tryz.prog 33 #[.agg #[.int .i64 c,.bool ok,.slice bL bM bo,.slice bG b5 bk,.slice bF n2 bg],.int .i64 k] w fun e w'=>e= .returned (.int .i64 (k+(L.length:Nat)))∧Below w.heap.size w w':=by
  have o_:Hid (Below w.heap.size w (w.alloc (.cells #[.int .i64 c,.bool ok,.slice bL bM bo,.slice bG b5 bk,.slice bF n2 bg] 67))):=(Below.refl _ _).alloc (Nat.le_refl _) _
  have Co:Hid (ib .bool .dx .held (w.alloc (.cells #[.int .i64 c,.bool ok,.slice bL bM bo,.slice bG b5 bk,.slice bF n2 bg] 67)) S bL bG bF bM bo b5 bk n2 bg L):=h.1.e8 (S':=S) (dC.below o_.out)
  have fA:Hid (ft (w.alloc (.cells #[.int .i64 c,.bool ok,.slice bL bM bo,.slice bG b5 bk,.slice bF n2 bg] 67)) L k):=h.2.cZ fun x hx ⟨u,hu⟩=>by simp only[World.cell?,o_.out.block _ (CN hu)]
  have g1:decide (k+(L.length:Nat)<0)=false:=decide_eq_false (by omega)
  go_enter Tryz.func33,Tryz.ntmps33
  go_wp2_with (go_at_call 84;refine(acz ⟨Co.out,fA.out⟩ aA h1).mono ?_)
  first
  | (rintro e bn rfl hb)
  | (rintro e bn ⟨rfl,hb⟩)
  have tF:=Lib.hid (o_.out.trans (hb.mono o_.out.size));clear hb
  go_wp2
  go_ret
  exact⟨rfl,tF.out⟩
theorem akv {p:aQ} {f:Frame} (cF:tL p) (h:iG p f):ti f≤1000000:=by
  have h1:=h.aB
  have h2:=h.au
  have aD:=h.O
  have bj:=cF.c0
  have cl:=cF.bi
  have cC:=cF.O
  have hM:=aal (f:=fun h:av=>4+h.ae.length) (c:=34) (xs:=f.O) fun x hx=>by
    obtain⟨i,hi,rfl⟩:=List.mem_iff_getElem.1 hx
    have fx:i<p.O.length:=by omega
    have:=h.ae i _ _ (List.getElem?_eq_getElem hi) (List.getElem?_eq_getElem fx)
    have:=(cF.ao _ (List.getElem_mem fx)).2.1
    show 4+(f.O[i]).ae.length≤34
    omega
  unfold ti
  omega
theorem ac1 (p:aQ) (f:Frame) (ev:Event):ti (vc p f ev).frame≤1000000:=by
  unfold vc
  split
  · rename_i h
    rw[Bool.and_eq_true] at h
    have hk:=Gc h.1
    exact akv hk.in (RJ ⟨hk,h.2⟩)
  · exact Nat.zero_le _
open Go
def nN (w:World) (lo hi b c:Nat):Prop:=qE w lo hi c∧c≠b
theorem nN.cZ {w w':World} {lo hi b c:Nat} (h: ∀c,lo≤c→c<hi→w'.heap[c]?=w.heap[c]?) (hc:nN w lo hi b c):nN w' lo hi b c:=
 ⟨⟨hc.1.1,hc.1.2.1,hc.1.2.2.same (h c hc.1.1 hc.1.2.1)⟩,hc.2⟩
def l0 (lo hi b:Nat) (al:Array Value) (ty:TypeId) (a:AV) (v:Value) (bL bG bF:Option Addr) (bM bo b5 bk n2 bg:Nat) (L:dJ):fF where
 lo:=lo
 hi:=hi
 P:=fun w=>lo≤b∧b<hi∧w.heap[b]?=some (.cells al ty (0,0))∧et w (nN w lo hi b) a v∧ib .bool .dx .held w (nN w lo hi b) bL bG bF bM bo b5 bk n2 bg L
 ap:=fun w w' h ab=>⟨ab.1,ab.2.1,(h b ab.1 ab.2.1).trans ab.2.2.1,ab.2.2.2.1.cZ (fun c hc=>h c hc.1.1 hc.1.2.1) (fun c hc=>nN.cZ h hc),ab.2.2.2.2.cZ (fun c hc=>h c hc.1.1 hc.1.2.1) (fun c hc=>nN.cZ h hc)⟩
def qT (lo hi b:Nat) (al:Array Value) (ty:TypeId) (bL bG bF:Option Addr) (bM bo b5 bk n2 bg:Nat) (L:dJ) (k:Int):fF where
 lo:=lo
 hi:=hi
 P:=fun w=>lo≤b∧b<hi∧w.heap[b]?=some (.cells al ty (0,0))∧ib .bool .dx .held w (nN w lo hi b) bL bG bF bM bo b5 bk n2 bg L∧ft w L k
 ap:=fun w w' h ab=>⟨ab.1,ab.2.1,(h b ab.1 ab.2.1).trans ab.2.2.1,ab.2.2.2.1.cZ (fun c hc=>h c hc.1.1 hc.1.2.1) (fun c hc=>nN.cZ h hc),ab.2.2.2.2.same ab.2.2.2.1.MZ fun c hc=>h c hc.1.1 hc.1.2.1⟩
section
variable {W w w':World} {l:List fF} {lo hi b:Nat} {al:Array Value} {ty:TypeId} {a:AV} {v:Value} {bL bG bF:Option Addr} {bM bo b5 bk n2 bg:Nat} {L:dJ} {k:Int}
theorem b8.ro (h:b8 W w l) (hb:RowKit.Below w.heap.size w w') (b:Nat) (h1:w.heap.size≤b) (h2:b<w'.heap.size) (hc:w'.heap[b]?=some (.cells al ty (0,0))) (aY:et w' (nN w' w.heap.size w'.heap.size b) a v) (hf:ib .bool .dx .held w' (nN w' w.heap.size w'.heap.size b) bL bG bF bM bo b5 bk n2 bg L):b8 W w' (l++[l0 w.heap.size w'.heap.size b al ty a v bL bG bF bM bo b5 bk n2 bg L]):=
 h.made hb (l0 w.heap.size w'.heap.size b al ty a v bL bG bF bM bo b5 bk n2 bg L) rfl rfl ⟨h1,h2,hc,aY,hf⟩
theorem l0.at (h:b8 W w l) (j:Nat) (e:l[j]?=some (l0 lo hi b al ty a v bL bG bF bM bo b5 bk n2 bg L):=by rfl):V2 (Env.at w) a v:=
 (h.get j e).2.2.2.1.at fun c hc=>Nat.lt_of_lt_of_le hc.1.2.1 (h.hi j e)
theorem l0.box (h:b8 W w l) (j:Nat) (e:l[j]?=some (l0 lo hi b al ty a v bL bG bF bM bo b5 bk n2 bg L)):w.heap[b]?=some (.cells al ty (0,0)):=(h.get j e).2.2.1
theorem l0.own (h:b8 W w l) (j:Nat) (e:l[j]?=some (l0 lo hi b al ty a v bL bG bF bM bo b5 bk n2 bg L)):ib .bool .dx .held w (nN w lo hi b) bL bG bF bM bo b5 bk n2 bg L:=(h.get j e).2.2.2.2
theorem qT.box (h:b8 W w l) (j:Nat) (e:l[j]?=some (qT lo hi b al ty bL bG bF bM bo b5 bk n2 bg L k)):w.heap[b]?=some (.cells al ty (0,0)):=(h.get j e).2.2.1
theorem qT.r1 (h:b8 W w l) (j:Nat) (e:l[j]?=some (qT lo hi b al ty bL bG bF bM bo b5 bk n2 bg L k)):ib .bool .dx .held w (nN w lo hi b) bL bG bF bM bo b5 bk n2 bg L∧ft w L k:=(h.get j e).2.2.2
theorem b8.alI (h:b8 W w l) (j:Nat) (e:l[j]?=some (l0 lo hi b al ty a v bL bG bF bM bo b5 bk n2 bg L)) (ah:W.heap.size≤lo) (hm:hR w w' (nN w lo hi b) L k):b8 W w' (l.set j (qT lo hi b al ty bL bG bF bM bo b5 bk n2 bg L k)):=by
 have ab:=h.get j e
 refine h.mark j _ e ah (S:=nN w lo hi b) (fun c hc=>⟨hc.1.1,hc.1.2.1⟩) hm.e8 (qT lo hi b al ty bL bG bF bM bo b5 bk n2 bg L k) rfl rfl ⟨ab.1,ab.2.1,(hm.e8.other b (qQ ab.2.2.1) fun hs=>hs.2 rfl).trans ab.2.2.1,(ab.2.2.2.2.e8 hm.e8).cZ (fun _ _=>rfl) (fun c hc=> ?_),hm.r1⟩
 obtain⟨al,ty,hx⟩:=hc.1.2.2
 obtain⟨b3,h1,_⟩:=hm.e8.at hx
 exact⟨⟨hc.1.1,hc.1.2.1,b3,ty,h1⟩,hc.2⟩
end
theorem ib.dr {aL w w':World} {lo b:Nat} {bL bG bF:Option Addr} {bM bo b5 bk n2 bg:Nat} {L:dJ} (h:ib .bool .dx .held w (fG aL w) bL bG bF bM bo b5 bk n2 bg L) (Dk:lo≤aL.heap.size) (hs:w.heap.size≤w'.heap.size) (hb:aL.heap.size≤b→w.heap.size≤b) (hk: ∀c,c<w.heap.size→c≠b→w'.heap[c]?=w.heap[c]?):ib .bool .dx .held w' (nN w' lo w'.heap.size b) bL bG bF bM bo b5 bk n2 bg L:=by
 have bq: ∀c,fG aL w c→c≠b:=fun c hc e=>by
  subst e
  have h1:=hc.1
  have h2:=hc.2.1
  have:=hb h1
  omega
 refine h.cZ (fun c hc=>hk c hc.2.1 (bq c hc)) fun c hc=> ?_
 have h1:=hc.1
 have h2:=hc.2.1
 exact⟨⟨by omega,by omega,hc.2.2.same (hk c hc.2.1 (bq c hc))⟩,bq c hc⟩
end Go.Proofs.YtejmihecgodhnaaGreat.Fw
