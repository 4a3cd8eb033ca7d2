/- The machine, part H: what a function answers; functions. -/
import Derived.Test.YtglpfccgmfhkdaaM3
set_option linter.unusedVariables false
namespace Go.Proofs.Ytglpfccgmfhkdaa.Fw
open Go
def uA:(e:bN)→e.T→TV
 | .ptr e,x=> .cZ e x 0
 | .hZ f .unit,_=> .fn f []
 | .hZ f e,x=> .fn f [uA e x]
 | e,x=>match e.isS with
  | true=> .agg (lK false e x)
  | false=>w5 false e x
theorem VR: ∀(e:bN) (x:e.T),(uA e x).bz=mJ e x:=by
 have bI: ∀(e:bN) (x:e.T),(match e.isS with
  | true=>TV.agg (lK false e x)
  | false=>w5 false e x).bz=match e.isS with
  | true=> .agg (c_ false e x)
  | false=>nL false e x:=fun e x=>by
  cases e.isS with
  | true=>show AV.agg (dd _)=_;rw[xE]
  | false=>exact F6 false e x
 intro e
 induction e with
 | hZ f e bO=>
  intro x
  have key:uA (.hZ f e) x= .fn f [uA e x]→mJ (.hZ f e) x= .fn f [mJ e x]→(uA (.hZ f e) x).bz=mJ (.hZ f e) x:=fun h1 h2=>by
   rw[h1,h2,←bO x];rfl
  cases e with
  | unit=>rfl
  | _=>exact key rfl rfl
 | ptr e bO=>intro x;rfl
 | _=>intro x;exact bI _ x
def ss:Nat→(es:List bN)→dr es→List (Nat×TV)
 | _,[],_=>[]
 | i,e::r,x=>(i,uA e x.1)::ss (i+1) r x.2
def n5 (ps:List bN) (x:dr ps):TS:=⟨ss 0 ps x,[],[],0⟩
theorem Lb: ∀(es:List bN) (x:dr es) (i t:Nat),(hj (ss i es x) t .u).bz=if t<i then .undef else(mK es x).getD (t - i) .undef
 | [],x,i,t=>by
  show AV.undef=_
  split<;>simp[mK]
 | e::r,x,i,t=>by
  rw[ss,gJ,mK]
  by_cases h:i=t
  ·subst h
   rw[if_pos rfl,if_neg (by omega),Nat.sub_self,VR];rfl
  ·rw[if_neg h,Lb r x.2 (i+1) t]
   by_cases h2:t<i
   ·rw[if_pos (by omega),if_pos h2]
   ·rw[if_neg (by omega),if_neg h2,show t - i=(t - (i+1))+1 by omega];rfl
theorem Hi: ∀(es:List bN) (x:dr es),(mK es x).length=es.length
 | [],_=>rfl
 | e::r,x=>by rw[mK,List.length_cons,List.length_cons,Hi r]
theorem J_ (ps:List bN) (x:dr ps) (h:ps.length≤1000000):iX (n5 ps x)=true:=by
 have key: ∀(es:List bN) (y:dr es) (i:Nat),i+es.length≤1000000→ ∀v,(dE,v) ∉ ss i es y:=by
  intro es
  induction es with
  | nil=>intro y i _ v hv;cases hv
  | cons e r bO=>
   intro y i hi v hv
   simp only[List.length_cons] at hi
   rcases List.mem_cons.1 hv with e | hv
   ·injection e with e _;unfold dE at e;omega
   ·exact bO y.2 (i+1) (by omega) v hv
 unfold iX
 have:(n5 ps x).get dE= .u:=by
  show hj (ss 0 ps x) dE (hj [] dE .u)=_
  rw[sk (key ps x 0 (by omega))];rfl
 rw[this]
theorem Uy [FZ] {fn:Func} {ps:List bN} {x:dr ps} (h:ps.length≤fn.ntmps) (aI:ps.length≤1000000):yM fn (mK ps x) []=(n5 ps x).aD fn.ntmps:=by
 have cs:mK ps x++List.replicate (fn.ntmps - (mK ps x).length) AV.undef=((n5 ps x).aD fn.ntmps).T:=by
  apply List.ext_getElem?
  intro t
  show _=((List.range fn.ntmps).map fun t=>((n5 ps x).get t).bz)[t]?
  rw[List.getElem?_map]
  rcases Nat.lt_or_ge t fn.ntmps with aI | aI
  ·rw[List.getElem?_range aI]
   show _=some (hj (ss 0 ps x) t .u).bz
   rw[Lb,if_neg (by omega),Nat.sub_zero]
   rcases Nat.lt_or_ge t (mK ps x).length with h1 | h1
   ·rw[List.getElem?_append_left h1,List.getD_eq_getElem?_getD,List.getElem?_eq_getElem h1];rfl
   ·rw[List.getElem?_append_right h1,List.getElem?_replicate,if_pos (by omega),List.getD_eq_getElem?_getD,List.getElem?_eq_none h1];rfl
  ·rw[List.getElem?_eq_none (l:=List.range fn.ntmps) (by simpa using aI),List.getElem?_eq_none]
   ·rfl
   ·rw[List.length_append,List.length_replicate,Hi];omega
 have aV:((n5 ps x).aD fn.ntmps).H=[]:=by
  show(n5 ps x).gi++h3 (n5 ps x)=[]
  unfold h3;rw[J_ ps x aI];rfl
 show(⟨_,[],[]⟩:St)=⟨((n5 ps x).aD fn.ntmps).T,[],((n5 ps x).aD fn.ntmps).H⟩
 rw[cs,aV]
def x5 (s:TS):(e:bN)→TV→e.T→aU→aU
 | .int,v,r,t=>(match v with
  | .i k m=>if k= .i64 then .p (m=r) t else .no
  | _=> .no)
 | .u64,v,r,t=>(match v with
  | .i k m=>if k= .u64 then .p (m=r) t else .no
  | _=> .no)
 | .bool,v,r,t=>(match v with
  | .b x=> .p (x.den=r) t
  | _=> .no)
 | .str,v,r,t=>(match v with
  | .s x=> .p (x=r) t
  | _=> .no)
 | .l e,v,r,t=>(match v with
  | .l dI xs _ fr=>(match fr with
   | true=>if h:dI=e then .p (lm h xs=r) t else .no
   | false=> .no)
  | .nil _ _=> .p ([]=r) t
  | .ref b g m _=>qp s b g fun dI xs ft _=>if h:dI=e then .eq e.qW true (.eq ft m (.p (xs.length≤4611686018427387904∧lm h xs=r) t)) else .no
  | _=> .no)
 | _,_,_,_=> .no
def A_ (s:TS):(es:List bN)→List TV→dr es→aU→aU
 | [],[],_,t=>t
 | e::r,v::vs,x,t=>x5 s e v x.1 (A_ s r vs x.2 t)
 | _,_,_,_=> .no
def x6 (s:TS) (e:bN) (v:TV) (r:e.T) (t:aU):aU:=match e.isS with
 | true=>(match v with
  | .agg c=>A_ s e.lu c (e.un r) t
  | _=> .no)
 | false=>x5 s e v r t
def A9 (s:TS):(es:List bN)→List TV→dr es→aU→aU
 | [],[],_,t=>t
 | e::r,v::vs,x,t=>x6 s e v x.1 (A9 s r vs x.2 t)
 | _,_,_,_=> .no
def Ws (P:Program) (n:Nat) (s:TS):ResultVar→TV
 | .tmp t=>cv n s (.tmp t)
 | .cell a t=>(match cv n s (.tmp a) with
  | .lp v c=>(match kA s.vs v with
   | some m=>sT P t (hN s v 0 m) c
   | none=> .u)
  | _=> .u)
def tt (P:Program) (n:Nat) (fn:Func) (rs:List bN) (r:dr rs) (s:TS):aU:=
 let vs:=fn.results.toList.map (Ws P n s)
 .eq (fun H Q=>q9 P ⟨s.tT n,s.cy,H⟩ fn.results.toList Q) (fun _ Q=>Q (dd vs)) (.eq ((dd vs).all jq) true (A9 s rs vs r .gW))
section
variable {n:Nat} {s:TS} {R:Exit→TS→Prop} {t:aU}
theorem Pt {H:List Blk} (e:bN) (x:e.T) (h:e.qW=true):j0 H (c_ true e x) (c_ false e x):=by
 cases e with
 | int=>exact Ah x
 | u64=>exact .cons (.int _ _) rfl .nil
 | u8=>exact Pb x
 | bool=>exact rF x
 | str=>exact Pa x
 | bx=>exact Ai x
 | km=>exact Pc x
 | dW=>exact .cons (.int _ _) rfl (.cons (jH _) rfl (.cons (jH _) rfl (.cons (jH _) rfl (.cons (.int _ _) rfl .nil))))
 | iS=>exact O8 x
 | g6=>exact tf x
 | held=>exact O9 x
 | frame=>exact .cons (.bool _) rfl (.cons (jH _) rfl (.cons (jH _) rfl (.cons (jH _) rfl .nil)))
 | done=>exact O7 x
 | fault=>exact .cons (.int _ _) rfl (.cons (.int _ _) rfl .nil)
 | stays=>exact .cons (jH _) rfl (.cons (jH _) rfl (.cons (jH _) rfl .nil))
 | kX=>exact .cons (jH _) rfl (.cons (.int _ _) rfl (.cons (.int _ _) rfl .nil))
 | l e=>exact .cons (jH _) rfl .nil
 | _=>cases h
end
section
variable [FZ] {n:Nat} {s:TS} {R:Exit→TS→Prop} {t:aU}
theorem HE {e:bN} {v:TV} {r:e.T} (h:(x5 s e v r t).den R):fp (s.aD n).H v.bz (nL true e r)∧t.den R:=by
 cases e with
 | int=>
  have h:(match v with
   | .i k m=>if k=IntKind.i64 then aU.p (m=r) t else .no
   | _=> .no).den R:=h
  split at h
  ·split at h
   ·rename_i hk;subst hk;exact⟨rh h.1,h.2⟩
   ·exact h.elim
  ·exact h.elim
 | u64=>
  have h:(match v with
   | .i k m=>if k=IntKind.u64 then aU.p (m=r) t else .no
   | _=> .no).den R:=h
  split at h
  ·split at h
   ·rename_i hk;subst hk;exact⟨rh h.1,h.2⟩
   ·exact h.elim
  ·exact h.elim
 | bool=>
  have h:(match v with
   | .b x=>aU.p (x.den=r) t
   | _=> .no).den R:=h
  split at h
  ·exact⟨iN h.1,h.2⟩
  ·exact h.elim
 | str=>
  have h:(match v with
   | .s x=>aU.p (x=r) t
   | _=> .no).den R:=h
  split at h
  ·exact⟨YO h.1,h.2⟩
  ·exact h.elim
 | l e=>
  have h:(match v with
   | .l dI xs _ fr=>(match fr with
    | true=>if h:dI=e then aU.p (lm h xs=r) t else .no
    | false=> .no)
   | .nil _ _=> .p ([]=r) t
   | .ref b g m _=>qp s b g fun dI xs ft _=>if h:dI=e then .eq e.qW true (.eq ft m (.p (xs.length≤4611686018427387904∧lm h xs=r) t)) else .no
   | _=> .no).den R:=h
  split at h
  ·split at h
   ·split at h
    ·rename_i he;subst he;exact⟨p8 (e:=c_ false _) h.1,h.2⟩
    ·exact h.elim
   ·exact h.elim
  ·exact⟨nA (e:=c_ false e) h.1,h.2⟩
  ·rename_i b g m ei
   obtain⟨dI,xs,ft,hm,h,hb,aV⟩:=vr (n:=n) h
   split at h
   ·rename_i he
    subst he
    obtain⟨a0,h1,h2,aS⟩:=h
    subst h1
    subst hm
    exact⟨NG (eT:=c_ true dI) (eF:=c_ false dI) aV (fun x=>Pt dI x a0) h2,aS⟩
   ·exact h.elim
  ·exact h.elim
 | _=>exact h.elim
theorem HG: ∀{es:List bN} {vs:List TV} {r:dr es},(A_ s es vs r t).den R→av (fp (s.aD n).H) (dd vs) (mI true es r)∧t.den R
 | [],[],_,h=>⟨av.nil,h⟩
 | e::r,v::vs,x,h=>by
  obtain⟨h1,h2⟩:=HE (n:=n) (show(x5 s e v x.1 _).den R from h)
  obtain⟨aS,bt⟩:=HG h2
  exact⟨av.cons h1 aS,bt⟩
 | [],_::_,_,h=>h.elim
 | _::_,[],_,h=>h.elim
theorem Qr {e:bN} {v:TV} {r:e.T} (h:(x6 s e v r t).den R):rz (s.aD n).H v.bz (tm e r)∧t.den R:=by
 unfold x6 at h
 unfold tm
 cases mQ:e.isS with
 | true=>
  rw[mQ] at h
  simp only at h
  split at h
  ·rename_i c
   obtain⟨h1,h2⟩:=HG (n:=n) h
   refine⟨.inl ⟨dd c,c_ true e r,rfl,rfl,?_⟩,h2⟩
   rw[←qt];exact h1
  ·exact h.elim
 | false=>
  rw[mQ] at h
  obtain⟨h1,h2⟩:=HE (n:=n) h
  exact⟨.inr h1,h2⟩
theorem HF: ∀{es:List bN} {vs:List TV} {r:dr es},(A9 s es vs r t).den R→av (rz (s.aD n).H) (dd vs) (nM es r)∧t.den R
 | [],[],_,h=>⟨av.nil,h⟩
 | e::r,v::vs,x,h=>by
  obtain⟨h1,h2⟩:=Qr (n:=n) (show(x6 s e v x.1 _).den R from h)
  obtain⟨aS,bt⟩:=HF h2
  exact⟨av.cons h1 aS,bt⟩
 | [],_::_,_,h=>h.elim
 | _::_,[],_,h=>h.elim
theorem HH {P:Program} {fn:Func} {rs:List bN} {r:dr rs} (h:(tt P n fn rs r s).den R):uP P fn (s.aD n) fun v H=>gd H v (qu rs r):=by
 unfold tt at h
 simp only at h
 obtain⟨h1,h2,aS⟩:=h
 unfold uP
 have Rh:q9 P (s.aD n) fn.results.toList=_:=congrFun h1 (s.aD n).H
 rw[congrFun Rh]
 refine⟨h2,?_⟩
 obtain⟨bt,_⟩:=HF (n:=n) aS
 have key: ∀(rs:List bN) (r:dr rs) (l:List AV),av (rz (s.aD n).H) l (nM rs r)→gd (s.aD n).H (rm l) (qu rs r):=by
  intro rs r l aF
  match rs,r,l with
  | [],_,[]=>exact .inl ⟨[],[],rfl,rfl,av.nil⟩
  | [],_,_::_=>have:=aF.1;simp[nM] at this
  | [e],r,[]=>have:=aF.1;simp[nM] at this
  | [e],r,[v]=>exact .inr aF.head
  | [e],r,_::_::_=>have:=aF.1;simp[nM] at this
  | e::dI::rs,r,[]=>have:=aF.1;simp[nM] at this
  | e::dI::rs,r,[v]=>have:=aF.1;simp[nM] at this
  | e::dI::rs,r,v::w::l=>exact .inl ⟨_,_,rfl,rfl,aF⟩
 exact key rs r _ bt
end
def F5 {P:Program} (cf:gO P) (ez:xf P) (fn:Func) (ps rs:List bN) (x:dr ps) (r:dr rs) (a:lh):aU:=jC cf ez (hM fn) (n5 ps x) a fun ex s _=>match ex with
 | .normal=>tt P cf.n fn rs r s
 | .ret=>tt P cf.n fn rs r s
 | _=> .no
theorem b3.run {P:Program} {f:FuncId} {fn:Func} {ps rs:List bN} {x:dr ps} {r:dr rs} (cf:gO P) (ez:xf P) (a:lh) {C:Prop} (hf:P.funcs[f]?=some fn) (h:C) (e:C=(F5 cf ez fn ps rs x r a).nb.den:=by kernel_rfl)
  (e2:(F5 cf ez fn ps rs x r a).lhs=(F5 cf ez fn ps rs x r a).rhs:=by kernel_rfl) (hb:fn.body=some (hM fn):=by kernel_rfl) (hm:(fn.name== "runtime.NumGoroutine")=false:=by kernel_rfl)
  (aC:(Nat.beq cf.n fn.ntmps&&Nat.ble cf.n 1000000&&Nat.ble ps.length cf.n)=true:=by kernel_rfl):b3 P f (mK ps x) (qu rs r):=by
 simp only[Bool.and_eq_true] at aC
 have h1:=Nat.eq_of_beq_eq_true aC.1.1
 have h2:=Nat.le_of_ble_eq_true aC.1.2
 have aS:=Nat.le_of_ble_eq_true aC.2
 refine dj.K2 hf hb hm ?_
 rw[@Uy ⟨[],[]⟩ fn ps x (by rw[←h1];exact aS) (by omega),←h1]
 refine Zj h2 (hM fn) (R:=fun _ _=>True) (K:=fun ex s _=>match ex with
  | .normal=>tt P cf.n fn rs r s
  | .ret=>tt P cf.n fn rs r s
  | _=> .no) (fun ex s _ Z hs hf=> ?_) ⟨[],[]⟩ (@Fits.none ⟨[],[]⟩ _ (J_ ps x (by omega))) (aU.full (e▸h) e2)
 cases ex with
 | normal=>exact HH hs
 | ret=>exact HH hs
 | _=>exact hs.elim
end Go.Proofs.Ytglpfccgmfhkdaa.Fw
/- The kinds of the elements of the program's slice types. -/
namespace Go.Proofs.Ytglpfccgmfhkdaa.Fw
def eN:List (Nat×bN):=[(23,.u8),(25,.int),(26,.km),(27,(.l .bool)),(33,.done),(35,.iS),(36,.bool),(37,.g6),(38,.held),(46,.km),(66,.g6),(67,.held),(78,.bx),(138,.bx),(144,(.l .int)),(161,(.l .bx)),(170,.str)]
end Go.Proofs.Ytglpfccgmfhkdaa.Fw
/- What a right plan is, what a right frame is, told part by part. -/
set_option linter.unusedVariables false
namespace Go.Proofs.Ytglpfccgmfhkdaa.Fw
open Go
theorem py {α:Type} {xs:List α} {q:α→Bool} (h:first xs q=none): ∀x∈xs,q x=false:=by
 unfold first at h;rwa [List.findIdx?_eq_none_iff] at h
theorem uB {p:aB} (h:dv p=true):kc p=true∧(∀s∈p.bh,b1 s 0 (p.ai - 1)=true)∧(∀w∈p.ways,hd p w=true)∧p.bars.length=p.ways.length∧
  (∀b∈p.bars,b.length=p.ways.length)∧ ∀i k:Nat,i<p.ways.length→k<p.ways.length→nI p i k=false:=by
 have hb:=V5 h
 have a0:g5 p=⟨0,0⟩:=by simpa[dv] using h
 rw[DX hb] at a0
 unfold uC at a0
 split at a0
 ·cases a0
 rename_i h1
 unfold uD at a0
 split at a0
 ·cases a0
 rename_i h2
 unfold nq at a0
 split at a0
 ·rename_i aS
  split at a0
  ·cases a0
  rename_i bt
  split at a0
  ·cases a0
  rename_i cb
  refine⟨hb,fun s hs=>by simpa using py h1 s hs,fun w hw=>by simpa using py h2 w hw,aS,fun b aj=>by simpa using py bt b aj,fun i k hi hk=> ?_⟩
  have:=py cb i (List.mem_range.2 hi)
  rw[List.any_eq_false] at this
  simpa using this k (List.mem_range.2 hk)
 ·cases a0
def kp (p:aB) (i k:Int):Bool:=nth (nth p.bars i) k
structure Ow (p:aB):Prop where
 len:p.bars.length=p.ways.length
 row: ∀i:Int,0≤i→i<p.ways.length→(nth p.bars i).length=p.ways.length
 sym: ∀i k:Int,0≤i→i<p.ways.length→0≤k→k<p.ways.length→kp p i k=kp p k i
 ZZ: ∀i k:Int,0≤i→i<p.ways.length→0≤k→k<p.ways.length→i≠k→meets (nth p.ways i).ai (nth p.ways k).ai=true→kp p i k=true
theorem qN {x n:Int} (h:b1 x 0 (n - 1)=true):0≤x∧x<n:=by have:=j_.1 h;omega
theorem Dy {l:List Int} {n:Int} (h:gI l n=true):l.length≤30∧ ∀x∈l,0≤x∧x<n:=by
 have:=si.1 h
 exact⟨this.1,fun x hx=>qN (this.2.1 x hx)⟩
theorem sw {p:aB} (h:dv p=true):qf p:=by
 obtain⟨h1,h2,aS,bt,cb,cE⟩:=uB h
 have hb:=qZ.1 h1
 have hw: ∀w∈p.ways,_:=fun w hw=>nD.1 (aS w hw)
 refine⟨by omega,hb.2.2.2,hb.2.2.1,fun w m=>⟨(hw w m).1,Dy (hw w m).2.1⟩,fun w m=>Dy (hw w m).2.2.1,fun w m=>Dy (hw w m).2.2.2.1,fun w m=> ?_,fun x hx=>qN (h2 x hx)⟩
 have aI:=ml.1 (hw w m).2.2.2.2.1
 have hf:=ml.1 (hw w m).2.2.2.2.2.1
 refine⟨aI.1,hf.1,fun x hx=> ?_⟩
 rcases List.mem_append.1 hx with hx | hx
 ·have:=aI.2.1 x hx
  rw[Bool.and_eq_true] at this;exact qN this.1
 ·have:=hf.2.1 x hx
  rw[Bool.and_eq_true] at this;exact qN this.1
theorem zb {p:aB} (h:dv p=true):Ow p:=by
 obtain⟨h1,h2,aS,bt,cb,cE⟩:=uB h
 have key: ∀i k:Int,0≤i→i<p.ways.length→0≤k→k<p.ways.length→kp p i k=kp p k i∧(i≠k→meets (nth p.ways i).ai (nth p.ways k).ai=true→kp p i k=true):=fun i k i0 i1 bf eo=>by
  have:=cE i.toNat k.toNat (by omega) (by omega)
  unfold nI ql at this
  rw[jr i0,jr bf,jr i0,jr bf,jr i0,jr bf] at this
  rw[Bool.or_eq_false_iff] at this
  refine⟨by unfold kp;simpa using this.1,fun cO hm=> ?_⟩
  have h2:=this.2
  rw[hm,Bool.and_true] at h2
  have bp:decide (i.toNat≠k.toNat)=true:=by simpa using(show i.toNat≠k.toNat by omega)
  rw[bp] at h2
  unfold kp
  simpa using h2
 exact⟨bt,fun i i0 i1=>cb _ (dt (by omega)),fun i k i0 i1 bf eo=>(key i k i0 i1 bf eo).1,fun i k i0 i1 bf eo=>(key i k i0 i1 bf eo).2⟩
def yg (p:aB) (f:Frame) (i:Int):Bool:= !((decide ((nth f.ways i).state<0)) || ((decide ((nth f.ways i).state>4)) || ((((nth f.ways i).been.length:Int) !=((nth p.ways i).ai.length:Int)) || ((decide ((nth f.ways i).gone<0)) || (decide ((nth f.ways i).gone ≥ ((nth p.ways i).ai.length:Int)))))))
def Iq (f:Frame) (i:Int):Bool:=bif ((nth f.ways i).state !=4) then(!(((nth f.ways i).gone !=0) || (nU (nth f.ways i).been true))) else(!(nU ((nth f.ways i).been.take (nth f.ways i).gone.toNat) false))
def Ir (p:aB) (f:Frame) (i:Int):Bool:=bif ((nth f.ways i).state==3) then(!((decide ((nth f.ways i).timer<1)) || (decide ((nth f.ways i).timer>p.hold)))) else(!((nth f.ways i).timer !=0))
def Is (f:Frame) (i:Int):Bool:=bif ((nth f.ways i).state==0) then(!(nth f.ways i).shown) else(!(bif ((nth f.ways i).state==2) then((nth f.ways i).state==2) else((nth f.ways i).state==3)) || (!(!(nth f.ways i).shown)))
theorem It (p:aB) (f:Frame) (i:Int):hg p f i=(yg p f i&&(Iq f i&&(Ir p f i&&Is f i))):=by
 unfold hg yg Iq Ir Is
 simp only
 generalize nth f.ways i=h
 generalize (nth p.ways i).ai.length=n
 rcases h with⟨s,g,b,d,t⟩
 have bF:b.all (fun x=> !x)= !nU b true:=by
  cases h:nU b true with
  | true=>
   rw[List.all_eq_false.2 ⟨true,ye.1 h,by simp⟩];rfl
  | false=>
   rw[List.all_eq_true.2 fun x hx=>by
    cases x with
    | false=>rfl
    | true=>rw[ye.2 hx] at h;cases h];rfl
 have e2:(b.take g.toNat).all (fun x=>x)= !nU (b.take g.toNat) false:=by
  cases h:nU (b.take g.toNat) false with
  | true=>
   rw[List.all_eq_false.2 ⟨false,ye.1 h,by simp⟩];rfl
  | false=>
   rw[List.all_eq_true.2 fun x hx=>by
    cases x with
    | true=>rfl
    | false=>rw[ye.2 hx] at h;cases h];rfl
 simp only
 rw[bF,e2]
 have eS:b1 s 0 4= !((decide (s<0)) || (decide (s>4))):=by unfold b1;rw[Bool.eq_iff_iff];simp
 have fY:decide (b.length=n)= !((b.length:Int) !=(n:Int)):=by rw[Bool.eq_iff_iff];simp;omega
 have fg:b1 g 0 ((n:Int) - 1)= !((decide (g<0)) || (decide (g ≥ (n:Int)))):=by unfold b1;rw[Bool.eq_iff_iff];simp;omega
 have sD:b1 t 1 p.hold= !((decide (t<1)) || (decide (t>p.hold))):=by unfold b1;rw[Bool.eq_iff_iff];simp
 rw[eS,fY,fg,sD]
 generalize nU b true=B
 have aO:g=0→nU (b.take g.toNat) false=false:=fun h=>by subst h;rfl
 generalize nU (b.take g.toNat) false=C at aO
 generalize (decide (s<0))=aL
 generalize (decide (s>4))=bQ
 generalize ((b.length:Int) !=(n:Int))=Gf
 generalize (decide (g<0))=Z_
 generalize (decide (g ≥ (n:Int)))=aaa
 generalize (decide (t<1))=aab
 generalize (decide (t>p.hold))=aac
 have hs:s=0∨s=2∨s=3∨s=4∨(s≠0∧s≠2∧s≠3∧s≠4):=by omega
 have bp:decide (t=0)= !(t !=0):=by rw[Bool.eq_iff_iff];simp
 have rX:decide (g=0)= !(g !=0):=by rw[Bool.eq_iff_iff];simp
 rw[bp,rX]
 cases Iz:(g !=0) with
 | false=>
  have:C=false:=aO (by simpa using Iz)
  subst this
  generalize (t !=0)=Zl
  rcases hs with rfl | rfl | rfl | rfl | ⟨a0,h2,aS,bt⟩
  ·cases B<;>cases d<;>simp[Bool.and_assoc]
  ·cases B<;>cases d<;>simp[Bool.and_assoc]
  ·cases B<;>cases d<;>simp[Bool.and_assoc]
  ·cases B<;>cases d<;>simp[Bool.and_assoc]
  ·have Gj:(s==0)=false:=by simpa using a0
   have m6:(s==2)=false:=by simpa using h2
   have w_:(s==3)=false:=by simpa using aS
   have sZ:(s !=4)=true:=by simpa using bt
   rw[Gj,m6,w_,sZ]
   simp only[a0,h2,aS,bt,if_false,decide_false,decide_true,ne_eq,not_false_eq_true]
   cases B<;>cases d<;>simp[Bool.and_assoc]
 | true=>
  clear aO Iz
  generalize (t !=0)=Zl
  rcases hs with rfl | rfl | rfl | rfl | ⟨a0,h2,aS,bt⟩
  ·cases B<;>cases C<;>cases d<;>simp[Bool.and_assoc]
  ·cases B<;>cases C<;>cases d<;>simp[Bool.and_assoc]
  ·cases B<;>cases C<;>cases d<;>simp[Bool.and_assoc]
  ·cases B<;>cases C<;>cases d<;>simp[Bool.and_assoc]
  ·have Gj:(s==0)=false:=by simpa using a0
   have m6:(s==2)=false:=by simpa using h2
   have w_:(s==3)=false:=by simpa using aS
   have sZ:(s !=4)=true:=by simpa using bt
   rw[Gj,m6,w_,sZ]
   simp only[a0,h2,aS,bt,if_false,decide_false,decide_true,ne_eq,not_false_eq_true]
   cases B<;>cases C<;>cases d<;>simp[Bool.and_assoc]
def kC (x:aN):Bool:=b1 x.want 1 2&&b1 x.aZ 0 2
def lJ (p:aB) (f:Frame) (i k:Int):Bool:=(i !=k)&&(kp p i k&&(((nth f.ways i).state !=0)&&((nth f.ways k).state !=0)))
def rM (p:aB) (f:Frame):Bool:= !((!(dv p)) || ((!f.ok) || (((f.al.length:Int) !=p.ai) || (((f.ak.length:Int) !=(p.bh.length:Int)) || ((f.ways.length:Int) !=(p.ways.length:Int))))))
theorem l_ {p:aB} {f:Frame}:rM p f=true↔dv p=true∧f.ok=true∧(f.al.length:Int)=p.ai∧f.ak.length=p.bh.length∧f.ways.length=p.ways.length:=by
 unfold rM
 simp only[Bool.not_eq_true',Bool.or_eq_false_iff,Bool.not_eq_false',bne_eq_false_iff_eq]
 constructor
 ·rintro⟨a,b,c,d,e⟩;exact⟨a,b,c,by omega,by omega⟩
 ·rintro⟨a,b,c,d,e⟩;exact⟨a,b,c,by omega,by omega⟩
theorem OQ {p:aB} {f:Frame}:z6 p f=true↔ ∀i k:Int,0≤i→i<f.ways.length→0≤k→k<f.ways.length→lJ p f i k=false:=by
 unfold z6
 rw[List.all_eq_true]
 have key: ∀i k:Nat,(decide (i=k) || !ql p i k || decide ((nth f.ways i).state=0) || decide ((nth f.ways k).state=0))= !lJ p f i k:=fun i k=>by
  unfold lJ kp ql
  have bF:decide (i=k)= !((i:Int) !=(k:Int)):=by rw[Bool.eq_iff_iff];simp;omega
  have e2: ∀x:Int,decide (x=0)= !(x !=0):=fun x=>by rw[Bool.eq_iff_iff];simp
  rw[bF,e2,e2]
  cases((i:Int) !=(k:Int))<;>cases nth (nth p.bars (i:Int)) (k:Int)<;>cases((nth f.ways (i:Int)).state !=0)<;>cases((nth f.ways (k:Int)).state !=0)<;>rfl
 constructor
 ·intro h i k i0 i1 bf eo
  have h1:=h i.toNat (List.mem_range.2 (by omega))
  rw[List.all_eq_true] at h1
  have h2:=h1 k.toNat (List.mem_range.2 (by omega))
  rw[key,Int.toNat_of_nonneg i0,Int.toNat_of_nonneg bf] at h2
  simpa using h2
 ·intro h i hi
  rw[List.all_eq_true]
  intro k hk
  rw[key,h i k (by omega) (by have:=List.mem_range.1 hi;omega) (by omega) (by have:=List.mem_range.1 hk;omega)];rfl
theorem vA {p:aB} {f:Frame}:hz p f=true↔rM p f=true∧(∀x∈f.ak,kC x=true)∧(∀i:Int,0≤i→i<f.ways.length→hg p f i=true)∧
  (∀i k:Int,0≤i→i<f.ways.length→0≤k→k<f.ways.length→lJ p f i k=false)∧f.ways=(dQ p f).ways:=by
 unfold hz m2
 rw[l_,←OQ]
 simp only[Bool.and_eq_true,decide_eq_true_eq,List.all_eq_true,List.mem_range]
 constructor
 ·rintro⟨⟨⟨⟨⟨⟨⟨⟨a,b⟩,c⟩,d⟩,e⟩,g⟩,h⟩,i⟩,j⟩
  refine⟨⟨a,b,c,d,e⟩,fun x hx=>by unfold kC;rw[Bool.and_eq_true];exact g x hx,fun q dX q1=> ?_,i,j⟩
  have:=h q.toNat (by omega)
  rwa [Int.toNat_of_nonneg dX] at this
 ·rintro⟨⟨a,b,c,d,e⟩,g,h,i,j⟩
  exact⟨⟨⟨⟨⟨⟨⟨⟨a,b⟩,c⟩,d⟩,e⟩,fun x hx=>by have:=g x hx;unfold kC at this;rwa [Bool.and_eq_true] at this⟩,fun q aj=>h q (by omega) (by omega)⟩,i⟩,j⟩
theorem HU {p:aB} {f:Frame} (hb:rM p f=true) (bV: ∀i:Int,0≤i→i<f.ways.length→yg p f i=true):hJ p f:=by
 obtain⟨h1,h2,aS,bt,cb⟩:=l_.1 hb
 have key: ∀i:Nat,i<f.ways.length→((nth f.ways i).been.length:Int)=((nth p.ways i).ai.length:Int)∧0≤(nth f.ways i).gone∧(nth f.ways i).gone<((nth p.ways i).ai.length:Int):=fun i hi=>by
  have:=bV i (by omega) (by omega)
  unfold yg at this
  simp only[Bool.not_eq_true',Bool.or_eq_false_iff,bne_eq_false_iff_eq,decide_eq_false_iff_not] at this
  exact⟨this.2.2.1,by omega,by omega⟩
 refine⟨aS,bt,cb,fun i h w bF e2=> ?_,fun h hm=> ?_⟩
 ·have hi:=(List.getElem?_eq_some_iff.1 bF).1
  have aP:=(List.getElem?_eq_some_iff.1 e2).1
  have:=(key i hi).1
  rw[iu hi,iu aP,(List.getElem?_eq_some_iff.1 bF).2,(List.getElem?_eq_some_iff.1 e2).2] at this
  omega
 ·obtain⟨i,hi,rfl⟩:=List.mem_iff_getElem.1 hm
  have:=key i hi
  rw[iu hi] at this
  omega
def Ei (p:aB) (f:Frame) (n:Nat) (i:Int):Bool:=(List.range n).any fun k=>lJ p f i k
end Go.Proofs.Ytglpfccgmfhkdaa.Fw
/- Who holds what. -/
set_option linter.unusedVariables false
namespace Go.Proofs.Ytglpfccgmfhkdaa.Fw
open Go
structure Fit (p:aB) (f:Frame):Prop where
 k1:dv p=true
 fr:hJ p f
theorem Be {p:aB} {f:Frame} (h:hz p f=true):Fit p f:=by
 obtain⟨h1,h2,aS,bt,cb⟩:=vA.1 h
 refine⟨(l_.1 h1).1,HU h1 fun i i0 i1=> ?_⟩
 have:=aS i i0 i1
 rw[It,Bool.and_eq_true] at this;exact this.1
theorem Fit.in {p:aB} {f:Frame} (h:Fit p f):qf p:=sw h.k1
def im (p:aB) (f:Frame) (i s:Int):Bool:=((nth f.ways i).state !=0)&&((nth p.ways i).ai.drop (nth f.ways i).gone.toNat).contains s
def tQ (p:aB) (f:Frame) (i s:Int):Prop:=Fit p f∧0≤i∧i<p.ways.length
theorem WK {p:aB} (h:dv p=true) {w:Way} (hw:w∈p.ways):w.ai.Nodup:=(si.1 (nD.1 ((uB h).2.2.1 w hw)).2.1).2.2
theorem xM {l:List Int} {g:Nat} {s:Int}:(l.drop g).contains s=true↔ ∃k,g≤k∧ ∃h:k<l.length,l[k]=s:=by
 rw[List.contains_iff_mem,List.mem_iff_getElem]
 constructor
 ·rintro⟨i,hi,he⟩
  rw[List.length_drop] at hi
  rw[List.getElem_drop] at he
  exact⟨g+i,by omega,by omega,he⟩
 ·rintro⟨k,aO,hk,he⟩
  refine⟨k - g,by rw[List.length_drop];omega,?_⟩
  rw[List.getElem_drop]
  simp only[show g+(k - g)=k by omega];exact he
theorem has_eq {l:List Int} (aC:l.Nodup) {g s:Int} (a0:0≤g):(decide (mh l s ≥ g)&&decide (mh l s ≥ 0))=(l.drop g.toNat).contains s:=by
 unfold mh
 cases h:first l (fun x=>s==x) with
 | none=>
  have:(l.drop g.toNat).contains s=false:=by
   rw[←Bool.not_eq_true,xM]
   rintro⟨k,_,hk,he⟩
   have:=py h _ (List.getElem_mem hk)
   rw[he] at this;simp at this
  rw[this];simp[DQ]
 | some i=>
  unfold first at h
  rw[List.findIdx?_eq_some_iff_getElem] at h
  obtain⟨hi,hx,_⟩:=h
  have hx:s=l[i]:=by simpa using hx
  have hx:=hx.symm
  rw[Bool.eq_iff_iff,xM]
  show(decide ((i:Int) ≥ g)&&decide ((i:Int) ≥ 0))=true↔_
  simp only[Bool.and_eq_true,decide_eq_true_eq]
  constructor
  ·intro h;exact⟨i,by omega,hi,hx⟩
  ·rintro⟨k,aO,hk,he⟩
   have:k=i:=by
    exact(List.getElem_inj aC).1 (he.trans hx.symm)
   omega
end Go.Proofs.Ytglpfccgmfhkdaa.Fw
/- Why a way can't be set, and who keeps it from being set. -/
set_option linter.unusedVariables false
namespace Go.Proofs.Ytglpfccgmfhkdaa.Fw
open Go
def dz (q:Int→Bool) (v:Int):List Int:=((List.range v.toNat).filter fun i=>q (i:Nat)).map fun i=>((i:Nat):Int)
theorem Qp (q:Int→Bool):dz q 0=[]:=rfl
theorem vy {q:Int→Bool} {v:Int} (h:0≤v):dz q (v+1)=if q v=true then dz q v++[v] else dz q v:=by
 unfold dz
 rw[show(v+1).toNat=v.toNat+1 by omega,List.range_succ,List.filter_append,List.map_append]
 have hv:((v.toNat:Nat):Int)=v:=by omega
 cases aj:q v with
 | true=>simp[hv,aj]
 | false=>simp[hv,aj]
theorem qy (q:Int→Bool) (v:Int):(dz q v).length≤v.toNat:=by
 unfold dz
 rw[List.length_map]
 exact Nat.le_trans (List.length_filter_le _ _) (by simp)
theorem HD {q:Int→Bool} {v x:Int}:x∈dz q v↔0≤x∧x<v∧q x=true:=by
 unfold dz
 rw[List.mem_map]
 constructor
 ·rintro⟨i,hi,rfl⟩
  rw[List.mem_filter,List.mem_range] at hi
  exact⟨by omega,by omega,hi.2⟩
 ·rintro⟨a0,h1,h2⟩
  refine⟨x.toNat,?_,by omega⟩
  rw[List.mem_filter,List.mem_range,Int.toNat_of_nonneg a0]
  exact⟨by omega,h2⟩
theorem Qq {q:Int→Bool} {v:Int}:dz q v=[]↔ ∀x:Int,0≤x→x<v→q x=false:=by
 constructor
 ·intro h x a0 h1
  cases aj:q x with
  | false=>rfl
  | true=>have:=HD.2 ⟨a0,h1,aj⟩;rw[h] at this;cases this
 ·intro h
  rw[List.eq_nil_iff_forall_not_mem]
  intro x hx
  have:=HD.1 hx
  rw[h x this.1 this.2.1] at this;cases this.2.2
def sh (x:ch) (k:Int):Bool:=x.bb==k
def pR (l:List ch) (k:Int):Int:=DQ (first l (fun x=>x.bb==k))
def jQ (l:List ch) (k:Int):Bool:=l.any fun x=>x.bb==k
theorem Td (l:List ch) (k:Int):(decide (pR l k ≥ 0))=jQ l k:=by
 unfold pR jQ
 cases h:first l (fun x=>x.bb==k) with
 | none=>
  rw[List.any_eq_false.2 fun x hx=>by rw[py h x hx];simp];rfl
 | some i=>
  unfold first at h
  rw[List.findIdx?_eq_some_iff_getElem] at h
  obtain⟨hi,hx,_⟩:=h
  rw[List.any_eq_true.2 ⟨_,List.getElem_mem hi,hx⟩]
  show decide ((i:Int) ≥ 0)=true
  simp
def lG (p:aB) (f:Frame) (i k:Int):Bool:=((nth f.ways i).state !=0)&&(jQ (nth p.ways i).br k || (jQ (nth p.ways i).aZ k&&im p f i (nth p.bh k)))
def fQ (p:aB) (f:Frame) (k:Int):List Int:=dz (fun i=>lG p f i k) p.ways.length
def q0 (p:aB) (f:Frame) (k:Int):Prop:=Fit p f∧0≤k∧k<p.bh.length
def nC (p:aB) (f:Frame) (i k:Int):Int:=if(nth f.ways i).state=0 then 0 else match first (nth p.ways i).br (fun x=>x.bb==k) with
 | some j=>(nth (nth p.ways i).br j).bx
 | none=>match first (nth p.ways i).aZ (fun x=>x.bb==k&&im p f i (nth p.bh k)) with
  | some j=>(nth (nth p.ways i).aZ j).bx
  | none=>0
def Gd (p:aB) (f:Frame) (i k:Int):Prop:=Fit p f∧0≤i∧i<p.ways.length∧0≤k∧k<p.bh.length
theorem yQ {p:aB} (h:dv p=true) {w:Way} (hw:w∈p.ways) {l:ch} (aI:l∈bq w):l.bx=1∨l.bx=2:=by
 have aO:=nD.1 ((uB h).2.2.1 w hw)
 have key: ∀{pY:List ch},kz p pY=true→ ∀x∈pY,x.bx=1∨x.bx=2:=fun h x hx=>by
  have:=(ml.1 h).2.1 x hx
  rw[Bool.and_eq_true] at this
  have:=j_.1 this.2
  omega
 rcases List.mem_append.1 aI with aI | aI
 ·exact key aO.2.2.2.2.1 l aI
 ·exact key aO.2.2.2.2.2.1 l aI
theorem Ba {α:Type} [Inhabited α] {xs:List α} {q:α→Bool} {j:Nat} (h:first xs q=some j):nth xs j∈xs∧q (nth xs j)=true:=by
 unfold first at h
 rw[List.findIdx?_eq_some_iff_getElem] at h
 obtain⟨hi,hx,_⟩:=h
 rw[iu hi]
 exact⟨List.getElem_mem hi,hx⟩
theorem Ze {p:aB} {f:Frame} {i k:Int} (h:dv p=true) (hi:i.toNat<p.ways.length):decide (nC p f i k>0)=lG p f i k:=by
 unfold nC lG jQ
 by_cases hs:(nth f.ways i).state=0
 ·rw[if_pos hs,show((nth f.ways i).state !=0)=false by simpa using hs];rfl
 ·rw[if_neg hs,show((nth f.ways i).state !=0)=true by simpa using hs,Bool.true_and]
  have hm:=dt hi
  cases h1:first (nth p.ways i).br (fun x=>x.bb==k) with
  | some j=>
   have:=Ba h1
   rw[List.any_eq_true.2 ⟨_,this⟩,Bool.true_or]
   have:=yQ h hm (List.mem_append_right _ this.1)
   simp only[decide_eq_true_eq];omega
  | none=>
   rw[List.any_eq_false.2 fun x hx=>by rw[py h1 x hx];simp,Bool.false_or]
   cases h2:first (nth p.ways i).aZ (fun x=>x.bb==k&&im p f i (nth p.bh k)) with
   | some j=>
    have:=Ba h2
    have aS:=this.2
    rw[Bool.and_eq_true] at aS
    rw[List.any_eq_true.2 ⟨_,this.1,aS.1⟩,aS.2,Bool.true_and]
    have:=yQ h hm (List.mem_append_left _ this.1)
    simp only[decide_eq_true_eq];omega
   | none=>
    have:((nth p.ways i).aZ.any (fun x=>x.bb==k)&&im p f i (nth p.bh k))=false:=by
     rw[Bool.and_eq_false_iff]
     cases bV:im p f i (nth p.bh k) with
     | false=>exact .inr rfl
     | true=>
      refine .inl (List.any_eq_false.2 fun x hx=> ?_)
      have:=py h2 x hx
      rw[bV,Bool.and_true] at this
      rw[this];simp
    rw[this];rfl
def j7 (p:aB) (f:Frame) (w k:Int):Bool:=(k !=w)&&(((nth f.ways k).state !=0)&&(kp p w k || (meets (nth p.ways w).ai (nth p.ways k).cw || meets (nth p.ways w).cw (nth p.ways k).ai)))
def mc (p:aB) (f:Frame) (w s:Int):Bool:=nth f.al s&&(fb (nth p.ways w).ai s || fb (nth p.ways w).cw s)
def jS (p:aB) (f:Frame) (w k:Int):Bool:=(bq (nth p.ways w)).any fun l=>l.bb==k&& !((nth f.ak k).want==l.bx)
def h6 (p:aB) (f:Frame) (k:Int):Bool:=decide (((fQ p f k).length:Int)>0)
def js (p:aB) (f:Frame) (k:Int):Bool:=nth f.al (nth p.bh k)
def j6 (p:aB) (f:Frame) (w k:Int):Bool:=jS p f w k&&(h6 p f k || js p f k)
def kL (p:aB) (f:Frame) (w:Int):l7:=⟨dz (j7 p f w) p.ways.length,dz (mc p f w) p.ai,dz (j6 p f w) p.bh.length⟩
def vz (p:aB) (f:Frame) (w:Int):Bool:= !(dz (fun k=>jS p f w k&&h6 p f k) p.bh.length).isEmpty
def zx (p:aB) (f:Frame) (w:Int):Bool:= !(dz (fun k=>jS p f w k&&js p f k) p.bh.length).isEmpty
def hL (p:aB) (f:Frame) (w:Int):l7×Bool×Bool:=(kL p f w,vz p f w,zx p f w)
def codeF (p:aB) (f:Frame) (w:Int):Int:=if(kL p f w).ways≠[] then 3 else if(kL p f w).ai≠[] then 4 else if vz p f w=true then 5 else if zx p f w=true then 6 else 0
def ri (p:aB) (f:Frame) (w:Int):l7×Int:=(kL p f w,codeF p f w)
def d_ (p:aB) (f:Frame) (w:Int):Int:=if(nth f.ways w).state≠0 then 2 else codeF p f w
def pj (p:aB) (f:Frame) (w:Int):Prop:=Fit p f∧0≤w∧w<p.ways.length
theorem oB {q:Int→Bool} {N v:Int} (aC:N≤4611686018427387904) (aM:cg N (fun _=>false) v) (hv:decide (v<N)=true):
  (q v=true→dz q v++[v]=dz q (IntKind.i64.wrap (v+1)))∧(q v=false→dz q v=dz q (IntKind.i64.wrap (v+1)))∧(!(dz q (IntKind.i64.wrap (v+1))).isEmpty)=(!(dz q v).isEmpty || q v):=by
 rw[ho aC aM.1 (by simpa using hv),vy aM.1]
 refine⟨fun h=>by rw[if_pos h],fun h=>by rw[if_neg (by rw[h];simp)],?_⟩
 cases h:q v with
 | true=>simp
 | false=>simp
theorem ts {q:Int→Bool} {N v:Int} (aM:cg N (fun _=>false) v) (hv:decide (v<N)=false):dz q v=dz q N:=by
 have: ¬v<N:=by simpa using hv
 have h1:=aM.2.1
 rw[show v=N by omega]
def mm (p:aB) (f:Frame) (w k:Int) (j:Nat):Bool:=((bq (nth p.ways w)).take j).any fun l=>l.bb==k&& !((nth f.ak k).want==l.bx)
theorem WL (p:aB) (f:Frame) (w k:Int) {j:Nat} (h:(bq (nth p.ways w)).length≤j):mm p f w k j=jS p f w k:=by
 unfold mm jS;rw[List.take_of_length_le h]
theorem WN {p:aB} {f:Frame} {w k:Int} {j:Nat} (h:j<(bq (nth p.ways w)).length):mm p f w k (j+1)=(mm p f w k j || ((bq (nth p.ways w))[j].bb==k&& !((nth f.ak k).want==(bq (nth p.ways w))[j].bx))):=by
 unfold mm;rw[List.take_succ_eq_append_getElem h,List.any_append];simp
theorem DK {p:aB} (h:dv p=true) {w:Way} (hw:w∈p.ways):((bq w).map (·.bb)).Nodup:=(nD.1 ((uB h).2.2.1 w hw)).2.2.2.2.2.2.1
theorem WM {p:aB} {f:Frame} {w k:Int} {j:Nat} (aC:((bq (nth p.ways w)).map (·.bb)).Nodup) (h:j<(bq (nth p.ways w)).length) (hk:((bq (nth p.ways w))[j].bb==k)=true):mm p f w k j=false:=by
 unfold mm
 rw[List.any_eq_false]
 intro l aI
 obtain⟨i,hi,rfl⟩:=List.mem_take_iff_getElem.1 aI
 have fz:i<(bq (nth p.ways w)).length:=by omega
 intro hc
 rw[Bool.and_eq_true] at hc
 have bF:(bq (nth p.ways w))[i].bb=k:=by simpa using hc.1
 have e2:(bq (nth p.ways w))[j].bb=k:=by simpa using hk
 have:=(List.getElem_inj (xs:=(bq (nth p.ways w)).map (·.bb)) (i:=i) (j:=j) (h₀:=by simpa using fz) (h₁:=by simpa using h) aC).1 (by simp[bF,e2])
 omega
def O0 (p:aB) (f:Frame) (w k:Int) (x:List Int) (a b:Bool) (lH:List Int) (j:Int) (hp ca:Bool):Prop:=
 cg (bq (nth p.ways w)).length (fun _=>false) j∧lH=(if(mm p f w k j.toNat&&(h6 p f k || js p f k))=true then x++[k] else x)∧hp=(a || (mm p f w k j.toNat&&h6 p f k))∧ca=(b || (mm p f w k j.toNat&&js p f k))
def tv (p:aB) (f:Frame) (w v:Int):Bool:= !(dz (fun k=>jS p f w k&&h6 p f k) v).isEmpty
def wW (p:aB) (f:Frame) (w v:Int):Bool:= !(dz (fun k=>jS p f w k&&js p f k) v).isEmpty
def tG (p:aB) (f:Frame) (w v:Int):Int:=if tv p f w v=true then 5 else if wW p f w v=true then 6 else 0
def oV (a:Int) (l:List ch) (k:Int):Int:=l.foldl (fun a x=>bif x.bb==k then x.bx else a) a
theorem Ky {l:List ch} {k:Int} (h: ∀x∈l,(x.bb==k)=false): ∀a,oV a l k=a:=by
 induction l with
 | nil=>intro a;rfl
 | cons x l bO=>
  intro a
  show oV (bif x.bb==k then x.bx else a) l k=a
  rw[h x List.mem_cons_self]
  exact bO (fun y bA=>h y (List.mem_cons_of_mem _ bA)) a
theorem Dw {l:List ch} {k:Int} (aC:(l.map (·.bb)).Nodup) {x:ch} (hx:x∈l) (hk:(x.bb==k)=true): ∀a,oV a l k=x.bx:=by
 induction l with
 | nil=>cases hx
 | cons y l bO=>
  intro a
  show oV (bif y.bb==k then y.bx else a) l k=x.bx
  rw[List.map_cons,List.nodup_cons] at aC
  rcases List.mem_cons.1 hx with rfl | hx
  ·rw[hk]
   refine Ky (fun z aQ=> ?_) _
   have hk:x.bb=k:=by simpa using hk
   rw[←hk,beq_eq_false_iff_ne]
   intro e
   exact aC.1 (List.mem_map.2 ⟨z,aQ,e⟩)
  ·exact bO aC.2 hx _
theorem U_ {p:aB} {f:Frame} {w k:Int} (h:dv p=true) (hw:w.toNat<p.ways.length):((oV 0 (bq (nth p.ways w)) k==0) || (oV 0 (bq (nth p.ways w)) k==(nth f.ak k).want))= !jS p f w k:=by
 have hm:=dt hw
 have aC:=DK h hm
 cases hf:first (bq (nth p.ways w)) (fun x=>x.bb==k) with
 | none=>
  have dZ:=py hf
  rw[Ky dZ,show jS p f w k=false from List.any_eq_false.2 fun x hx=>by rw[dZ x hx];simp];rfl
 | some j=>
  obtain⟨h1,h2⟩:=Ba hf
  have aI:=yQ h hm h1
  rw[Dw aC h1 h2]
  have z:((nth (bq (nth p.ways w)) (j:Int)).bx==0)=false:=by rw[beq_eq_false_iff_ne];omega
  rw[z,Bool.false_or]
  have ax:jS p f w k= !((nth f.ak k).want==(nth (bq (nth p.ways w)) (j:Int)).bx):=by
   cases hb:((nth f.ak k).want==(nth (bq (nth p.ways w)) (j:Int)).bx) with
   | false=>exact List.any_eq_true.2 ⟨_,h1,by rw[h2,hb];rfl⟩
   | true=>
    refine List.any_eq_false.2 fun x hx hc=> ?_
    rw[Bool.and_eq_true] at hc
    have bF:=Dw aC hx hc.1 0
    rw[Dw aC h1 h2] at bF
    rw[bF] at hb
    rw[hb] at hc;cases hc.2
  rw[ax,Bool.not_not,Bool.eq_iff_iff,beq_iff_eq,beq_iff_eq]
  exact⟨Eq.symm,Eq.symm⟩
end Go.Proofs.Ytglpfccgmfhkdaa.Fw
/- What an event does; a run. -/
set_option linter.unusedVariables false
namespace Go.Proofs.Ytglpfccgmfhkdaa.Fw
open Go
def dn (p:aB):Frame:=if dv p=true then⟨true,List.replicate p.ai.toNat false,List.replicate p.bh.length ⟨1,1⟩,p.ways.map fun w=>gE w.ai.length⟩ else⟨false,[],[],[]⟩
def iL (l:List ch) (q:List aN):List aN:=l.foldl (fun q x=>q.set x.bb.toNat ⟨x.bx,(nth q x.bb).aZ⟩) q
theorem wV (l:List ch): ∀q:List aN,(iL l q).length=q.length:=by
 induction l with
 | nil=>intro q;rfl
 | cons x l bO=>intro q;show(iL l _).length=_;rw[bO,List.length_set]
theorem Mb {l:List ch} {q:List aN} {j:Nat} (h:j<l.length):iL (l.take (j+1)) q=(iL (l.take j) q).set l[j].bb.toNat ⟨l[j].bx,(nth (iL (l.take j) q) l[j].bb).aZ⟩:=by
 unfold iL
 rw[List.take_succ_eq_append_getElem h,List.foldl_append];rfl
def kM (p:aB) (i:Nat) (h:aa):aa:=if h.state=3 then(if IntKind.i64.wrap (h.timer - 1)=0 then a2 p i else{h with timer:=IntKind.i64.wrap (h.timer - 1)}) else h
def g8 (p:aB):Nat→List aa→List aa
 | 0,ws=>ws
 | n+1,ws=>let g:=g8 p n ws;g.set n (kM p n (nth g n))
theorem w4 (p:aB) (ws:List aa): ∀n,(g8 p n ws).length=ws.length
 | 0=>rfl
 | n+1=>by show(List.set _ _ _).length=_;rw[List.length_set];exact w4 p ws n
def eM (p:aB) (f:Frame) (e:Event):Int:=
 if e.op=1 then d_ p f e.ag
 else if e.op=2 then(if(nth f.ways e.ag).state≠1∧(nth f.ways e.ag).state≠2 then 2 else 0)
 else if e.op=6 then(if h6 p f e.ag=true then 2 else if js p f e.ag=true then 3 else 0)
 else 0
def ht (p:aB) (f:Frame) (e:Event):Frame:=
 if e.op=1 then{f with ak:=iL (bq (nth p.ways e.ag)) f.ak,ways:=f.ways.set e.ag.toNat {nth f.ways e.ag with state:=1}}
 else if e.op=2 then(if((nth f.ways e.ag).shown&&fZ f (nth p.ways e.ag).ct)=true then{f with ways:=f.ways.set e.ag.toNat {nth f.ways e.ag with state:=3,timer:=p.hold}} else{f with ways:=f.ways.set e.ag.toNat (a2 p e.ag)})
 else if e.op=3∨e.op=4 then{f with al:=f.al.set e.ag.toNat (e.op==3)}
 else if e.op=5 then{f with ak:=f.ak.set e.ag.toNat ⟨(nth f.ak e.ag).want,e.bx⟩}
 else if e.op=6 then{f with ak:=f.ak.set e.ag.toNat ⟨e.bx,(nth f.ak e.ag).aZ⟩}
 else if e.op=7 then{f with ways:=g8 p f.ways.length f.ways}
 else f
def gC (p:aB) (f:Frame) (e:Event):cP:=if eM p f e≠0 then⟨eM p f e,f⟩ else⟨0,dQ p (ht p f e)⟩
def AH (p:aB) (f:Frame) (e:Event):Prop:=Fit p f∧eh p e=true
theorem hJ.pd {p:aB} {f:Frame} (h:hJ p f) {i:Nat} {x:aa} (hx:i<f.ways.length→x.been.length=(nth p.ways i).ai.length∧0≤x.gone∧x.gone≤x.been.length):hJ p {f with ways:=f.ways.set i x}:=by
 refine⟨h.al,h.ak,by rw[List.length_set];exact h.ways,fun j y w h1 h2=> ?_,fun y bA=> ?_⟩
 ·replace h1:(f.ways.set i x)[j]?=some y:=h1
  rw[List.getElem?_set] at h1
  split at h1
  ·rename_i e;subst e
   split at h1
   ·rename_i aC
    cases h1
    rw[(hx aC).1,iu (by have:=h.ways;omega)]
    rw[List.getElem?_eq_getElem (by have:=h.ways;omega)] at h2
    cases h2;rfl
   ·cases h1
  ·exact h.been j y w h1 h2
 ·rcases List.mem_or_eq_of_mem_set bA with bA | rfl
  ·exact h.gone y bA
  ·by_cases aC:i<f.ways.length
   ·exact(hx aC).2
   ·rw[List.set_eq_of_length_le (by omega)] at bA
    exact h.gone _ bA
theorem hJ.at {p:aB} {f:Frame} (h:hJ p f) {i:Nat} (hi:i<f.ways.length):(nth f.ways i).been.length=(nth p.ways i).ai.length∧0≤(nth f.ways i).gone∧(nth f.ways i).gone≤(nth f.ways i).been.length:=by
 have aP:i<p.ways.length:=by have:=h.ways;omega
 refine⟨h.been i _ _ ?_ ?_,h.gone _ (dt (by simpa using hi))⟩
 ·rw[iu hi];exact List.getElem?_eq_getElem hi
 ·rw[iu aP];exact List.getElem?_eq_getElem aP
theorem B9 (n:Nat):(gE n).been.length=n∧0≤(gE n).gone∧(gE n).gone≤(gE n).been.length:=by simp[gE]
theorem F4 {p:aB} {f:Frame} (h:hJ p f): ∀n,hJ p {f with ways:=g8 p n f.ways}
 | 0=>h
 | n+1=>by
  have bO:=F4 h n
  show hJ p {f with ways:=(g8 p n f.ways).set n (kM p n (nth (g8 p n f.ways) n))}
  refine hJ.pd bO (i:=n) fun aC=> ?_
  have a6:=bO.at aC
  unfold kM
  split
  ·split
   ·exact B9 _
   ·exact a6
  ·exact a6
theorem hJ.iw {p:aB} {f:Frame} (h:hJ p f) {o:List Bool} {q:List aN} (ax:o.length=f.al.length) (aj:q.length=f.ak.length):hJ p {f with al:=o,ak:=q}:=
 ⟨by show(o.length:Int)=_;rw[ax];exact h.al,by show q.length=_;rw[aj];exact h.ak,h.ways,h.been,h.gone⟩
theorem AG {p:aB} {f:Frame} {e:Event} (h:hJ p f) (a0:e.op=1∨e.op=2→0≤e.ag∧e.ag<p.ways.length):hJ p (ht p f e):=by
 unfold ht
 split
 ·rename_i ax
  have bu:=a0 (.inl ax)
  have aI:=h.ways
  have a6:=h.at (i:=e.ag.toNat) (by omega)
  rw[jr bu.1] at a6
  exact hJ.pd (h.iw rfl (wV _ _)) fun _=>a6
 ·split
  ·rename_i ax
   have bu:=a0 (.inr ax)
   have aI:=h.ways
   have a6:=h.at (i:=e.ag.toNat) (by omega)
   rw[jr bu.1] at a6
   split
   ·exact h.pd fun _=>a6
   ·refine h.pd fun _=> ?_
    have:=B9 (nth p.ways e.ag).ai.length
    rw[jr bu.1];exact this
  ·split
   ·exact h.iw (List.length_set) rfl
   ·split
    ·exact h.iw rfl (List.length_set)
    ·split
     ·exact h.iw rfl (List.length_set)
     ·split
      ·exact F4 h _
      ·exact h
theorem pw {p:aB} {e:Event} (h:eh p e=true) (ax:e.op=1∨e.op=2):0≤e.ag∧e.ag<p.ways.length:=by
 rw[AX ax,Bool.and_eq_true] at h
 exact qN h.1
theorem A1 {p:aB} {e:Event} (h:eh p e=true) (ax:e.op=3∨e.op=4):0≤e.ag∧e.ag<p.ai:=by
 rw[AY (by omega) ax,Bool.and_eq_true] at h
 exact qN h.1
theorem tq {p:aB} {e:Event} (h:eh p e=true) (ax:e.op=5∨e.op=6):0≤e.ag∧e.ag<p.bh.length:=by
 rcases ax with ax | ax
 ·rw[xX ax,Bool.and_eq_true] at h;exact qN h.1
 ·rw[xY ax,Bool.and_eq_true] at h;exact qN h.1
theorem tu {p:aB} {f:Frame} (h:Fit p f):gK f:=by
 have cA:=h.in
 have da:=h.fr
 have h1:=cA.cK
 have h2:=cA.bb
 have aS:=cA.ways
 have bt:=da.al
 have cb:=da.ak
 have cE:=da.ways
 refine⟨by omega,by omega,by omega,fun x hx=> ?_⟩
 obtain⟨i,hi,rfl⟩:=List.mem_iff_getElem.1 hx
 have aP:i<p.ways.length:=by omega
 have:=(cA.ai _ (List.getElem_mem aP)).2.1
 rw[da.been i _ _ (List.getElem?_eq_getElem hi) (List.getElem?_eq_getElem aP)];omega
theorem Hd {p:aB} {f:Frame} {e:Event} (h:Fit p f) (he:eh p e=true):Fit p (gC p f e).frame:=by
 unfold gC
 split
 ·exact h
 ·exact⟨h.k1,uZ (AG h.fr (pw he)) _⟩
theorem z7 {p:aB} (h:dv p=true):Fit p (dn p):=by
 have cA:=sw h
 have h1:=cA.cK
 unfold dn
 rw[if_pos h]
 refine⟨h,by show((List.replicate _ _).length:Int)=_;rw[List.length_replicate];omega,by show(List.replicate _ _).length=_;rw[List.length_replicate],by show(List.map _ _).length=_;rw[List.length_map],fun i x w bF e2=> ?_,fun x hx=> ?_⟩
 ·replace bF:(List.map _ _)[i]?=some x:=bF
  rw[List.getElem?_map,e2] at bF
  cases bF;simp[gE]
 ·obtain⟨w,_,rfl⟩:=List.mem_map.1 hx
  exact(B9 _).2
def ja (p:aB):Frame→List Event→List cP
 | _,[]=>[]
 | f,e::es=>if eh p e=true then gC p f e::ja p (gC p f e).frame es else⟨1,f⟩::ja p f es
def iI (p:aB):Frame→List Event→Frame
 | f,[]=>f
 | f,e::es=>iI p (if eh p e=true then(gC p f e).frame else f) es
def bw (p:aB) (es:List Event):List cP:=if dv p=true∧es.length≤1000 then ja p (dn p) es else[]
theorem Ej (p:aB) (e:Event): ∀(es:List Event) (f:Frame),ja p f (es++[e])=ja p f es++[if eh p e=true then gC p (iI p f es) e else⟨1,iI p f es⟩]∧iI p f (es++[e])=(if eh p e=true then(gC p (iI p f es) e).frame else iI p f es)
 | [],f=>by
  show(if eh p e=true then _ else _)=_∧_
  constructor
  ·by_cases h:eh p e=true
   ·rw[if_pos h];simp[ja,iI,h]
   ·rw[if_neg h];simp[ja,iI,h]
  ·rfl
 | d::es,f=>by
  have bO:=fun g=>Ej p e es g
  by_cases h:eh p d=true
  ·simp only[List.cons_append,ja,iI,if_pos h]
   exact⟨by rw[(bO _).1],(bO _).2⟩
  ·simp only[List.cons_append,ja,iI,if_neg h]
   exact⟨by rw[(bO _).1],(bO _).2⟩
theorem C7 {p:aB}: ∀(es:List Event) {f:Frame},Fit p f→Fit p (iI p f es)
 | [],f,h=>h
 | e::es,f,h=>by
  unfold iI
  by_cases he:eh p e=true
  ·rw[if_pos he];exact C7 es (Hd h he)
  ·rw[if_neg he];exact C7 es h
theorem sF (p:aB): ∀(es:List Event) (f:Frame),(ja p f es).length=es.length
 | [],f=>rfl
 | e::es,f=>by
  unfold ja
  split
  ·rw[List.length_cons,sF p es];rfl
  ·rw[List.length_cons,sF p es];rfl
end Go.Proofs.Ytglpfccgmfhkdaa.Fw
/- A step: bools made behind a family, ahead of what is told already. -/
set_option linter.unusedVariables false
namespace Go.Proofs.Ytglpfccgmfhkdaa.Fw
open Go
section
variable {P:Program} {esc:List Nat} {ops:Array Oper} {n:Nat} {X:List Item} {i0:Nat} {A:List (Nat×AV)} {L:List (Nat×List AV)} {H:List Blk} {K:List (Nat×AV)→List (Nat×List AV)→List Blk→Prop}
theorem Y5 (bf:Nat) (d:Option Nat) (N:List (Nat×AV)) {i:Int} (B:Int) (z:List AV) (F:List Blk→Prop) (m:Nat) (j1:List Blk) (a0:0≤i∧B*i≤140737488355328∧i≤4611686018427387904) (aI:H.length=m) (hx:H++[⟨0,1,List.map aH (List.replicate i.toNat false)⟩]=j1) (da:F j1)
  (h:evSD P esc ops n (X.drop (i0+bf)) (cY d (.ref m 0 0 (List.replicate i.toNat false).length false) N A) L j1 K) (aQ:z=aH false:=by rfl)
  (e: ∀K,evSD P esc ops n ((X.drop i0).take bf) A L H K=(0≤i∧i≤i∧B*i≤140737488355328∧i≤4611686018427387904∧F (H++[⟨0,1,List.replicate i.toNat z⟩])∧K (cY d (.ref H.length 0 0 i.toNat false) N A) L (H++[⟨0,1,List.replicate i.toNat z⟩])):=by intro K;kernel_rfl):evSD P esc ops n (X.drop i0) A L H K:=by
 rw[ks X i0 bf,e]
 subst aI;subst hx;subst aQ
 rw[List.length_replicate,List.map_replicate] at h
 rw[List.map_replicate] at da
 exact⟨a0.1,Int.le_refl _,a0.2.1,a0.2.2,⟨da,h⟩⟩
end
theorem WO (a b:List ch) (q:List aN):iL (a++b) q=iL b (iL a q):=by unfold iL;rw[List.foldl_append]
def jZ (w:Way):List (List ch):=[w.aZ,w.br]
theorem NU (w:Way):(jZ w).flatten=bq w:=by simp[jZ,bq]
theorem Y8 {w:Way} {j:Nat} {q:List aN} (h:j<(jZ w).length):iL ((jZ w).take (j+1)).flatten q=iL (jZ w)[j] (iL ((jZ w).take j).flatten q):=by
 rw[List.take_succ_eq_append_getElem h,List.flatten_append,WO];simp
theorem Y9 {w:Way} {v:Int} {x:ch} (h:v.toNat<(jZ w).length) (hx:x∈nth (jZ w) v):x∈bq w:=by
 rw[←NU];exact List.mem_flatten.2 ⟨_,dt h,hx⟩
def Ki (p:aB) (t:Int) (k:Bool) (o:List Bool) (q:List aN) (w:List aa) (i:List Nat) (b:List (List Bool)):Prop:=
 fL w i b∧qf p∧0≤t∧t<w.length∧t<p.ways.length∧q.length=p.bh.length
def yP (p:aB) (t:Int) (k:Bool) (o:List Bool) (q:List aN) (w:List aa) (i:List Nat) (b:List (List Bool)) (kB:List Bool) (q6:List aN) (w':List aa) (h4:List Nat) (ca:List (List Bool)):Prop:=
 q6=iL (bq (nth p.ways t)) q∧fL w' h4 ca∧view w' h4 ca=(view w i b).set t.toNat {nth (view w i b) t with state:=1}
def Kh (p:aB) (t:Int) (k:Bool) (o:List Bool) (q:List aN) (w:List aa) (i:List Nat) (b:List (List Bool)):Prop:=
 fL w i b∧qf p∧0≤t∧t<w.length∧t<p.ways.length∧(o.length:Int)=p.ai
def xu (p:aB) (f:Frame) (t:Int):aa:=
 if((nth f.ways t).shown&&fZ f (nth p.ways t).ct)=true then{nth f.ways t with state:=3,timer:=p.hold} else gE (nth f.ways t).been.length
def qk (f:Frame) (t:Int):Int:=if(nth f.ways t).state≠1∧(nth f.ways t).state≠2 then 2 else 0
def sg (p:aB) (t:Int) (k:Bool) (o:List Bool) (q:List aN) (w:List aa) (i:List Nat) (b:List (List Bool)) (kB:List Bool) (q6:List aN) (w':List aa) (h4:List Nat) (ca:List (List Bool)) (r:Int):Prop:=
 fL w' h4 ca∧r=qk (cL k o q w i b) t∧view w' h4 ca=(if qk (cL k o q w i b) t=0 then(view w i b).set t.toNat (xu p (cL k o q w i b) t) else view w i b)
def iJ (p:aB) (f:Frame) (e:Event):Frame:=if eM p f e=0 then ht p f e else f
def f_ (p:aB) (f:Frame) (e:Event):cP:=if(hz p f&&eh p e)=true then⟨eM p f e,dQ p (iJ p f e)⟩ else⟨1,⟨false,[],[],[]⟩⟩
def Eo (p:aB) (f:Frame) (e:Event):Prop:=gK f
theorem KK {p:aB} {f:Frame} {e:Event} (h:hJ p f) (he:eh p e=true):hJ p (iJ p f e):=by
 unfold iJ
 split
 ·exact AG h (pw he)
 ·exact h
theorem I7 {p:aB} {f:Frame} (h:hJ p f) {t:Int} (a0:0≤t) (h1:t<p.ways.length):gE (nth f.ways t).been.length=a2 p t:=by
 have aI:=h.ways
 have a6:=h.at (i:=t.toNat) (by omega)
 rw[jr a0,jr a0] at a6
 unfold a2;rw[a6.1]
def lZ (p:aB) (f:Frame) (e:Event):cP:=if(f_ p f e).code=1 then⟨(f_ p f e).code,f⟩ else f_ p f e
def mv (p:aB):Frame→List Event→List cP
 | _,[]=>[]
 | f,e::es=>lZ p f e::mv p (lZ p f e).frame es
def kK (p:aB):Frame→List Event→Frame
 | f,[]=>f
 | f,e::es=>kK p (lZ p f e).frame es
def lY (p:aB) (es:List Event):List cP:=if dv p=true∧es.length≤1000 then mv p (dn p) es else[]
theorem Xm {p:aB} {f:Frame} {e:Event} (hf:gK f):gK (f_ p f e).frame:=by
 unfold f_
 split
 ·rename_i h
  rw[Bool.and_eq_true] at h
  have hk:=Be h.1
  exact tu ⟨hk.k1,uZ (KK hk.fr h.2) _⟩
 ·exact⟨Nat.zero_le _,Nat.zero_le _,Nat.zero_le _,fun h bV=>by cases bV⟩
theorem Xo {p:aB} {f:Frame} {e:Event} (hf:gK f):gK (lZ p f e).frame:=by
 unfold lZ
 split
 ·exact hf
 ·exact Xm hf
theorem Mv {p:aB}: ∀(es:List Event) {f:Frame},gK f→gK (kK p f es)
 | [],f,h=>h
 | e::es,f,h=>Mv es (Xo h)
theorem E6 (p:aB) (e:Event): ∀(es:List Event) (f:Frame),mv p f (es++[e])=mv p f es++[lZ p (kK p f es) e]∧kK p f (es++[e])=(lZ p (kK p f es) e).frame
 | [],f=>⟨rfl,rfl⟩
 | d::es,f=>⟨by
   show lZ p f d::mv p _ (es++[e])=_
   rw[(E6 p e es _).1];rfl,by
   show kK p _ (es++[e])=_
   rw[(E6 p e es _).2];rfl⟩
theorem Mu (p:aB): ∀(es:List Event) (f:Frame),(mv p f es).length=es.length
 | [],f=>rfl
 | e::es,f=>by show(mv p _ es).length+1=_;rw[Mu p es];rfl
end Go.Proofs.Ytglpfccgmfhkdaa.Fw
/- A run's frames are right: what the program runs and what the specification runs is the same. -/
set_option linter.unusedVariables false
namespace Go.Proofs.Ytglpfccgmfhkdaa.Fw
open Go
def iA (p:aB) (f:Frame) (i:Nat) (h:aa):aa:=
 let s:=(nth p.ways i).ai
 if h.state=0 then h else
 let h:=if h.state≠4∧dF f (nth s 0)=true then{h with state:=4,timer:=0} else h
 let h:=if h.state=1∨h.state=2 then(if fG p f i=true then{h with state:=2,shown:=true} else{h with state:=1}) else h
 if h.state=4 then g4 s f h else h
theorem YT (p:aB) (f:Frame) (i:Nat):lg p f i=iA p f i (nth f.ways i):=rfl
theorem NK {p:aB} {f g:Frame} {i:Nat} {h:aa} (h1:f.al=g.al) (h2:f.ak=g.ak):iA p f i h=iA p g i h:=by
 have bF: ∀x,dF f x=dF g x:=fun x=>by unfold dF;rw[h1]
 have e2: ∀s x,g4 s f x=g4 s g x:=fun s x=>Ld h1
 have dN:fG p f i=fG p g i:=D2 h1 h2
 unfold iA
 simp only[bF,e2,dN]
section
variable {p:aB} {f:Frame} {i:Nat} {h:aa}
theorem u3 (a0:h.state=0):iA p f i h=h:=by unfold iA;simp[a0]
theorem FU (a0:h.state=4):iA p f i h=g4 (nth p.ways i).ai f h:=by unfold iA;simp[a0]
theorem NO (a0:h.state≠0) (bt:h.state≠4) (ax:dF f (nth (nth p.ways i).ai 0)=true):iA p f i h=g4 (nth p.ways i).ai f {h with state:=4,timer:=0}:=by unfold iA;simp[a0,bt,ax]
theorem FW (a0:h.state=1∨h.state=2) (ax:dF f (nth (nth p.ways i).ai 0)=false) (aF:fG p f i=true):iA p f i h={h with state:=2,shown:=true}:=by
 unfold iA
 rcases a0 with a0 | a0<;>simp[a0,ax,aF]
theorem FV (a0:h.state=1∨h.state=2) (ax:dF f (nth (nth p.ways i).ai 0)=false) (aF:fG p f i=false):iA p f i h={h with state:=1}:=by
 unfold iA
 rcases a0 with a0 | a0<;>simp[a0,ax,aF]
theorem FX (h1:h.state≠1) (h2:h.state≠2) (bt:h.state≠4) (ax:dF f (nth (nth p.ways i).ai 0)=false):iA p f i h=h:=by
 unfold iA
 simp[h1,h2,bt,ax]
end
theorem Ot (f:Frame): ∀(b:List Bool) (s:List Int),List.zipWith (fun b x=>b || dF f x) (List.zipWith (fun b x=>b || dF f x) b s) s=List.zipWith (fun b x=>b || dF f x) b s
 | [],s=>rfl
 | b::bs,[]=>rfl
 | b::bs,x::s=>by
  simp only[List.zipWith_cons_cons,Ot f bs s]
  cases b<;>cases dF f x<;>rfl
theorem H5 {s:List Int} {f:Frame} {been:List Bool}: ∀(n g:Nat),s.length≤n+g→ ¬(fU s f been n g<s.length∧been.getD (fU s f been n g) false=true∧dF f (s.getD (fU s f been n g) 0)=false∧(fU s f been n g+1=s.length∨been.getD (fU s f been n g+1) false=true))
 | 0,g,h=>fun bV=>by have:=bV.1;unfold fU at this;omega
 | n+1,g,h=>by
  by_cases hc:g<s.length∧been.getD g false=true∧dF f (s.getD g 0)=false∧(g+1=s.length∨been.getD (g+1) false=true)
  ·have e:fU s f been (n+1) g=fU s f been n (g+1):=if_pos hc
   rw[e];exact H5 n (g+1) (by omega)
  ·have e:fU s f been (n+1) g=g:=if_neg hc
   rw[e];exact hc
theorem Rc {s:List Int} {f:Frame} {been:List Bool} {n m g:Nat} (h:s.length≤n+g):fU s f been m (fU s f been n g)=fU s f been n g:=yb (H5 n g h)
theorem H7 {s:List Int} {f:Frame} {been:List Bool}: ∀(n g:Nat),(∀j,j<g→been.getD j false=true)→ ∀j,j<fU s f been n g→been.getD j false=true
 | 0,g,h=>h
 | n+1,g,h=>by
  unfold fU
  split
  ·rename_i hc
   refine H7 n (g+1) fun j aP=> ?_
   by_cases e:j=g
   ·subst e;exact hc.2.1
   ·exact h j (by omega)
  ·exact h
theorem VT (s:List Int) (f:Frame) (h:aa) (bt:h.state=4):(g4 s f h=gE s.length)∨((g4 s f h).state=4∧g4 s f (g4 s f h)=g4 s f h):=by
 unfold g4
 simp only
 split
 ·exact .inl rfl
 ·rename_i aO
  refine .inr ⟨bt,?_⟩
  simp only[Ot,Int.toNat_natCast]
  rw[Rc (by omega),if_neg aO]
theorem YV (p:aB) (f:Frame) (i:Nat) (h:aa):iA p f i (iA p f i h)=iA p f i h:=by
 have key: ∀x:aa,x.state=4→iA p f i (g4 (nth p.ways i).ai f x)=g4 (nth p.ways i).ai f x:=fun x hx=>by
  rcases VT (nth p.ways i).ai f x hx with e | ⟨bF,e2⟩
  ·rw[e];exact u3 rfl
  ·rw[FU bF,e2]
 by_cases a0:h.state=0
 ·rw[u3 a0,u3 a0]
 by_cases bt:h.state=4
 ·rw[FU bt];exact key h bt
 cases ax:dF f (nth (nth p.ways i).ai 0) with
 | true=>rw[NO a0 bt ax];exact key _ rfl
 | false=>
  by_cases mN:h.state=1∨h.state=2
  ·cases aF:fG p f i with
   | true=>rw[FW mN ax aF,FW (.inr rfl) ax aF]
   | false=>rw[FV mN ax aF,FV (.inl rfl) ax aF]
  ·rw[FX (fun e=>mN (.inl e)) (fun e=>mN (.inr e)) bt ax,FX (fun e=>mN (.inl e)) (fun e=>mN (.inr e)) bt ax]
theorem uY (p:aB) (f:Frame): ∀(n j:Nat),(hF p n f).ways[j]?=(f.ways[j]?).map fun h=>if j<n then iA p f j h else h
 | 0,j=>by
  show f.ways[j]?=_
  cases f.ways[j]?<;>simp
 | n+1,j=>by
  show((hF p n f).ways.set n (lg p (hF p n f) n))[j]?=_
  rw[List.getElem?_set]
  have s:=p7 p f n
  split
  ·rename_i e;subst e
   have aI:=ny p f n
   by_cases aC:n<f.ways.length
   ·rw[if_pos (by omega),YT,NK s.2.1 s.2.2]
    have bO:=uY p f n n
    rw[List.getElem?_eq_getElem aC,List.getElem?_eq_getElem (by omega)] at bO
    have Th:(hF p n f).ways[n]=f.ways[n]:=by simpa using bO
    rw[iu (by omega),Th,List.getElem?_eq_getElem aC]
    simp
   ·rw[if_neg (by omega),List.getElem?_eq_none (by omega)];rfl
  ·rename_i cO
   rw[uY p f n j]
   congr 1
   funext h
   by_cases aP:j<n
   ·rw[if_pos aP,if_pos (by omega)]
   ·rw[if_neg aP,if_neg (by omega)]
theorem Me {p:aB} {f:Frame} {i:Int} (a0:0≤i) (h1:i<f.ways.length):nth (dQ p f).ways i=iA p f i.toNat (nth f.ways i):=by
 have e:=uY p f f.ways.length i.toNat
 have aI:=ny p f f.ways.length
 rw[List.getElem?_eq_getElem (by omega),List.getElem?_eq_getElem (show i.toNat<f.ways.length by omega)] at e
 unfold dQ
 rw[fv (by omega),fv (show i.toNat<f.ways.length by omega)]
 simpa[show i.toNat<f.ways.length by omega] using e
theorem WR (p:aB) (f:Frame):(dQ p (dQ p f)).ways=(dQ p f).ways:=by
 apply List.ext_getElem?
 intro j
 have s:=p7 p f f.ways.length
 have aI:=ny p f f.ways.length
 unfold dQ
 rw[uY,uY,aI]
 cases h:f.ways[j]? with
 | none=>rfl
 | some x=>
  have aP:=(List.getElem?_eq_some_iff.1 h).1
  simp only[Option.map_some,if_pos aP]
  rw[NK s.2.1 s.2.2,YV]
structure m7 (n:Nat) (hold:Int) (h:aa):Prop where
 aD:0≤h.state∧h.state≤4
 len:h.been.length=n
 gone:0≤h.gone∧h.gone<n
 still:h.state≠4→h.gone=0∧ ∀b∈h.been,b=false
 been: ∀j,j<h.gone.toNat→h.been.getD j false=true
 t3:h.state=3→h.shown=true∧1≤h.timer∧h.timer≤hold
 t:h.state≠3→h.timer=0
 eu:h.state=0→h.shown=false
 s2:h.state=2→h.shown=true
theorem IM {p:aB} {f:Frame} {i:Int}:hg p f i=true↔m7 (nth p.ways i).ai.length p.hold (nth f.ways i):=by
 unfold hg
 simp only
 generalize nth f.ways i=h
 generalize (nth p.ways i).ai.length=n
 have eT: ∀(l:List Bool) (k:Nat),k≤l.length→((l.take k).all (fun b=>b)=true↔ ∀j,j<k→l.getD j false=true):=fun l k hk=>by
  rw[List.all_eq_true]
  constructor
  ·intro h j aP
   have:l[j]'(by omega)=true:=h _ (List.mem_take_iff_getElem.2 ⟨j,by omega,rfl⟩)
   rw[List.getD_eq_getElem?_getD,List.getElem?_eq_getElem (by omega)];exact this
  ·intro h x hx
   obtain⟨j,aP,rfl⟩:=List.mem_take_iff_getElem.1 hx
   have:=h j (by omega)
   rw[List.getD_eq_getElem?_getD,List.getElem?_eq_getElem (by omega)] at this;exact this
 rw[Bool.and_eq_true,Bool.and_eq_true,Bool.and_eq_true,Bool.and_eq_true,Bool.and_eq_true,j_,j_,decide_eq_true_eq,Bool.or_eq_true,Bool.and_eq_true,decide_eq_true_eq,decide_eq_true_eq,List.all_eq_true]
 constructor
 ·rintro⟨⟨⟨⟨⟨h1,h2⟩,aS⟩,bt⟩,cb⟩,cE⟩
  refine⟨h1,h2,by omega,fun aC=> ?_,(eT _ _ (by omega)).1 cb,fun e=> ?_,fun e=> ?_,fun e=> ?_,fun e=> ?_⟩
  ·rcases bt with bt | bt
   ·exact absurd bt aC
   ·exact⟨bt.1,fun b hb=>by have:=bt.2 b hb;simpa using this⟩
  ·rw[if_pos e,Bool.and_eq_true,j_] at cE;exact cE
  ·rw[if_neg e] at cE;simp only[Bool.and_eq_true,decide_eq_true_eq] at cE;exact cE.1.1
  ·rw[if_neg (by omega)] at cE;simp only[Bool.and_eq_true,decide_eq_true_eq,Bool.or_eq_true,Bool.not_eq_true'] at cE
   rcases cE.1.2 with h | h
   ·exact absurd e h
   ·exact h
  ·rw[if_neg (by omega)] at cE;simp only[Bool.and_eq_true,decide_eq_true_eq,Bool.or_eq_true,Bool.not_eq_true'] at cE
   rcases cE.2 with h | h
   ·exact absurd e h
   ·exact h
 ·intro H
  have aO:=H.gone
  have aI:=H.len
  refine⟨⟨⟨⟨⟨H.aD,H.len⟩,by omega⟩,?_⟩,(eT _ _ (by omega)).2 H.been⟩,?_⟩
  ·by_cases bt:h.state=4
   ·exact .inl bt
   ·exact .inr ⟨(H.still bt).1,fun b hb=>by rw[(H.still bt).2 b hb];rfl⟩
  ·by_cases aS:h.state=3
   ·rw[if_pos aS,Bool.and_eq_true,j_];exact H.t3 aS
   ·rw[if_neg aS];simp only[Bool.and_eq_true,decide_eq_true_eq,Bool.or_eq_true,Bool.not_eq_true']
    refine⟨⟨H.t aS,?_⟩,?_⟩
    ·by_cases a0:h.state=0
     ·exact .inr (H.eu a0)
     ·exact .inl a0
    ·by_cases a0:h.state=2
     ·exact .inr (H.s2 a0)
     ·exact .inl a0
theorem yx {n:Nat} {hold:Int} (h:0<n):m7 n hold (gE n) where
 aD:=⟨show(0:Int)≤0 by decide,show(0:Int)≤4 by decide⟩
 len:=by simp[gE]
 gone:=⟨Int.le_refl _,show(0:Int)<n by omega⟩
 still:=fun _=>⟨rfl,fun b hb=>(List.mem_replicate.1 hb).2⟩
 been:=fun j aP=>absurd aP (Nat.not_lt_zero _)
 t3:=fun e=>absurd e (show ¬(0:Int)=3 by decide)
 t:=fun _=>rfl
 eu:=fun _=>rfl
 s2:=fun e=>absurd e (show ¬(0:Int)=2 by decide)
theorem IN {n:Nat} {hold:Int} {s:List Int} {f:Frame} {h:aa} (aC:s.length=n) (a0:0<n) (H:m7 n hold h) (bt:h.state=4):m7 n hold (g4 s f h):=by
 subst aC
 have aQ:(List.zipWith (fun b x=>b || dF f x) h.been s).length=s.length:=by rw[List.length_zipWith,H.len];omega
 have aO:=H.gone
 have qF:=(Bk (s:=s) (f:=f) (been:=List.zipWith (fun b x=>b || dF f x) h.been s) s.length h.gone.toNat (by omega)).2
 have yH: ∀j,h.been.getD j false=true→(List.zipWith (fun b x=>b || dF f x) h.been s).getD j false=true:=fun j aP=>by
  have ni:j<h.been.length:=by
   by_cases ni:j<h.been.length
   ·exact ni
   ·rw[List.getD_eq_getElem?_getD,List.getElem?_eq_none (by omega)] at aP;cases aP
  have aI:=H.len
  rw[List.getD_eq_getElem?_getD,List.getElem?_eq_getElem ni] at aP
  rw[List.getD_eq_getElem?_getD,List.getElem?_eq_getElem (by omega),List.getElem_zipWith]
  have aP:h.been[j]=true:=aP
  rw[aP];rfl
 unfold g4
 simp only
 split
 ·exact yx a0
 ·rename_i cO
  exact⟨H.aD,aQ,⟨Int.natCast_nonneg _,by simp only;omega⟩,fun e=>absurd bt e,by
   simp only[Int.toNat_natCast]
   exact H7 _ _ fun j aP=>yH j (H.been j aP),H.t3,H.t,H.eu,H.s2⟩
theorem SA {p:aB} {f:Frame} {i:Nat} {h:aa} {n:Nat} (aC:(nth p.ways i).ai.length=n) (a0:0<n) (H:m7 n p.hold h):m7 n p.hold (iA p f i h):=by
 by_cases jf:h.state=0
 ·rw[u3 jf];exact H
 by_cases bt:h.state=4
 ·rw[FU bt];exact IN aC a0 H bt
 have bd:=H.aD
 cases ax:dF f (nth (nth p.ways i).ai 0) with
 | true=>
  rw[NO jf bt ax]
  refine IN aC a0 ⟨⟨show(0:Int)≤4 by decide,show(4:Int)≤4 by decide⟩,H.len,H.gone,fun e=>absurd rfl e,H.been,fun e=>absurd e (show ¬(4:Int)=3 by decide),fun _=>rfl,fun e=>absurd e (show ¬(4:Int)=0 by decide),fun e=>absurd e (show ¬(4:Int)=2 by decide)⟩ rfl
 | false=>
  by_cases mN:h.state=1∨h.state=2
  ·have hs:=H.still bt
   have bu:=H.t (by omega)
   cases aF:fG p f i with
   | true=>
    rw[FW mN ax aF]
    exact⟨⟨show(0:Int)≤2 by decide,show(2:Int)≤4 by decide⟩,H.len,H.gone,fun _=>hs,H.been,fun e=>absurd e (show ¬(2:Int)=3 by decide),fun _=>bu,fun e=>absurd e (show ¬(2:Int)=0 by decide),fun _=>rfl⟩
   | false=>
    rw[FV mN ax aF]
    exact⟨⟨show(0:Int)≤1 by decide,show(1:Int)≤4 by decide⟩,H.len,H.gone,fun _=>hs,H.been,fun e=>absurd e (show ¬(1:Int)=3 by decide),fun _=>bu,fun e=>absurd e (show ¬(1:Int)=0 by decide),fun e=>absurd e (show ¬(1:Int)=2 by decide)⟩
  ·rw[FX (fun e=>mN (.inl e)) (fun e=>mN (.inr e)) bt ax];exact H
theorem YX {p:aB} {f:Frame} {i:Nat} {h:aa} (hs:(iA p f i h).state≠0):h.state≠0:=fun e=>hs (by rw[u3 e];exact e)
structure nE (p:aB) (f:Frame):Prop where
 base:rM p f=true
 iw: ∀x∈f.ak,kC x=true
 held: ∀i:Int,0≤i→i<f.ways.length→m7 (nth p.ways i).ai.length p.hold (nth f.ways i)
 bars: ∀i k:Int,0≤i→i<f.ways.length→0≤k→k<f.ways.length→lJ p f i k=false
theorem K3 {p:aB} {f:Frame} (h:hz p f=true):nE p f∧dQ p f=f:=by
 obtain⟨a,b,c,d,e⟩:=vA.1 h
 refine⟨⟨a,b,fun i i0 i1=>IM.1 (c i i0 i1),d⟩,?_⟩
 have s:=p7 p f f.ways.length
 have h1:(dQ p f).ok=f.ok:=s.1
 have h2:(dQ p f).al=f.al:=s.2.1
 have aS:(dQ p f).ak=f.ak:=s.2.2
 generalize dQ p f=g at e h1 h2 aS
 cases g;cases f
 simp only at e h1 h2 aS
 subst e;subst h1;subst h2;subst aS;rfl
theorem GK {p:aB} {f g:Frame} (aI:g.ways.length=f.ways.length) (hs: ∀i:Int,0≤i→i<f.ways.length→(nth g.ways i).state≠0→(nth f.ways i).state≠0)
  (h: ∀i k:Int,0≤i→i<f.ways.length→0≤k→k<f.ways.length→lJ p f i k=false): ∀i k:Int,0≤i→i<g.ways.length→0≤k→k<g.ways.length→lJ p g i k=false:=fun i k i0 i1 bf eo=>by
 have h1:=h i k i0 (by omega) bf (by omega)
 cases hb:lJ p g i k with
 | false=>rfl
 | true=>
  unfold lJ at hb h1
  simp only[Bool.and_eq_true,bne_iff_ne,ne_eq] at hb
  have s1:=hs i i0 (by omega) hb.2.2.1
  have s2:=hs k bf (by omega) hb.2.2.2
  rw[show(i !=k)=true by simpa using hb.1,hb.2.1,show((nth f.ways i).state !=0)=true by simpa using s1,show((nth f.ways k).state !=0)=true by simpa using s2] at h1
  cases h1
theorem zv {p:aB} (h:dv p=true) {i:Int} (i0:0≤i) (i1:i<p.ways.length):0<(nth p.ways i).ai.length:=
 List.length_pos_iff.2 ((sw h).ai _ (dt (by omega))).1
theorem Lp {p:aB} {f:Frame} (h:nE p f):hz p (dQ p f)=true:=by
 obtain⟨ko,c8,pr,rD,qi⟩:=l_.1 h.base
 have s:=p7 p f f.ways.length
 have aI:(dQ p f).ways.length=f.ways.length:=ny p f f.ways.length
 have h1:(dQ p f).ok=f.ok:=s.1
 have h2:(dQ p f).al=f.al:=s.2.1
 have aS:(dQ p f).ak=f.ak:=s.2.2
 refine vA.2 ⟨l_.2 ⟨ko,by rw[h1];exact c8,by rw[h2];exact pr,by rw[aS];exact rD,by rw[aI];exact qi⟩,by rw[aS];exact h.iw,fun i i0 i1=> ?_,GK aI (fun i i0 i1 hs=> ?_) h.bars,(WR p f).symm⟩
 ·have I6:i<f.ways.length:=by omega
  rw[IM,Me i0 I6]
  exact SA (by rw[jr i0]) (zv ko i0 (by omega)) (h.held i i0 I6)
 ·rw[Me i0 i1] at hs;exact YX hs
theorem y1 {α:Type} [Inhabited α] {l:List α} {t i:Int} {x:α} (t0:0≤t) (i0:0≤i) (i1:i<l.length):nth (l.set t.toNat x) i=if i=t then x else nth l i:=by
 rw[fv (by rw[List.length_set];omega),fv (show i.toNat<l.length by omega),List.getElem_set]
 by_cases e:i=t
 ·rw[if_pos (by omega),if_pos e]
 ·rw[if_neg (by omega),if_neg e]
theorem zH {p:aB} {ws:List aa} {i:Int} (i0:0≤i) (i1:i<ws.length): ∀n:Nat,nth (g8 p n ws) i=if i<n then kM p i.toNat (nth ws i) else nth ws i
 | 0=>by rw[if_neg (by omega)];rfl
 | n+1=>by
  show nth ((g8 p n ws).set n (kM p n (nth (g8 p n ws) n))) i=_
  have aI:=w4 p ws n
  have e:=y1 (l:=g8 p n ws) (t:=(n:Int)) (i:=i) (x:=kM p n (nth (g8 p n ws) n)) (by omega) i0 (by omega)
  rw[Int.toNat_natCast] at e
  rw[e]
  by_cases aC:i=n
  ·subst aC
   rw[if_pos rfl,if_pos (by omega),zH i0 i1 n,if_neg (by omega),Int.toNat_natCast]
  ·rw[if_neg aC,zH i0 i1 n]
   by_cases hi:i<n
   ·rw[if_pos hi,if_pos (by omega)]
   ·rw[if_neg hi,if_neg (by omega)]
theorem SB {p:aB} (h:dv p=true):1≤p.hold∧p.hold≤300:=(qZ.1 (uB h).1).2.1
theorem Ma: ∀(l:List ch) (q:List aN),(∀x∈l,0≤x.bb∧x.bb<q.length∧(x.bx=1∨x.bx=2))→(∀x∈q,kC x=true)→ ∀x∈iL l q,kC x=true
 | [],q,_,h=>h
 | y::l,q,aI,h=>by
  show ∀x∈iL l (q.set y.bb.toNat ⟨y.bx,(nth q y.bb).aZ⟩),kC x=true
  have bA:=aI y (List.mem_cons_self ..)
  refine Ma l _ (fun x hx=>by rw[List.length_set];exact aI x (List.mem_cons_of_mem _ hx)) fun x hx=> ?_
  rcases List.mem_or_eq_of_mem_set hx with hx | rfl
  ·exact h x hx
  ·have:=h _ (dt (show y.bb.toNat<q.length by omega))
   unfold kC at this ⊢
   rw[Bool.and_eq_true,j_,j_] at this ⊢
   exact⟨by show 1≤y.bx∧y.bx≤2;omega,this.2⟩
theorem Lr {p:aB} {f:Frame} (h:nE p f) {ws:List aa} (aI:ws.length=f.ways.length) (hk: ∀i:Int,0≤i→i<f.ways.length→m7 (nth p.ways i).ai.length p.hold (nth ws i))
  (hs: ∀i:Int,0≤i→i<f.ways.length→(nth ws i).state≠0→(nth f.ways i).state≠0):nE p {f with ways:=ws}:=by
 obtain⟨ko,c8,pr,rD,qi⟩:=l_.1 h.base
 exact⟨l_.2 ⟨ko,c8,pr,rD,by show(ws.length:Nat)=_;omega⟩,h.iw,fun i i0 i1=>hk i i0 (by rw[←aI];exact i1),GK (f:=f) aI hs h.bars⟩
theorem Lq {p:aB} {f:Frame} (h:nE p f) {t:Int} {x:aa} (t0:0≤t) (hk:m7 (nth p.ways t).ai.length p.hold x) (hs:x.state≠0→(nth f.ways t).state≠0):nE p {f with ways:=f.ways.set t.toNat x}:=by
 refine Lr h (List.length_set ..) (fun i i0 i1=> ?_) fun i i0 i1=> ?_
 ·rw[y1 t0 i0 i1]
  split
  ·rename_i e;rw[e];exact hk
  ·exact h.held i i0 i1
 ·rw[y1 t0 i0 i1]
  split
  ·rename_i e;rw[e];exact hs
  ·exact _root_.id
theorem zd {p:aB} {f:Frame} (h:nE p f) {o:List Bool} {q:List aN} (ax:o.length=f.al.length) (aj:q.length=f.ak.length) (aF: ∀x∈q,kC x=true):nE p {f with al:=o,ak:=q}:=by
 obtain⟨ko,c8,pr,rD,qi⟩:=l_.1 h.base
 exact⟨l_.2 ⟨ko,c8,by show(o.length:Int)=_;rw[ax];exact pr,by show q.length=_;rw[aj];exact rD,qi⟩,aF,h.held,h.bars⟩
theorem Md {q:List aN} {k:Nat} {x:aN} (h: ∀x∈q,kC x=true) (hx:kC x=true): ∀y∈q.set k x,kC y=true:=fun y bA=>by
 rcases List.mem_or_eq_of_mem_set bA with bA | rfl
 ·exact h y bA
 ·exact hx
theorem Sz {n:Nat} {hold:Int} {h:aa} (H:m7 n hold h) {x:Int} (bt:h.state≠4) (hx:x=1) (aS:h.state≠3):m7 n hold {h with state:=x}:=by
 subst hx
 exact⟨⟨show(0:Int)≤1 by decide,show(1:Int)≤4 by decide⟩,H.len,H.gone,fun _=>H.still bt,H.been,fun e=>absurd e (show ¬(1:Int)=3 by decide),fun _=>H.t aS,fun e=>absurd e (show ¬(1:Int)=0 by decide),fun e=>absurd e (show ¬(1:Int)=2 by decide)⟩
theorem V9 {p:aB} {f:Frame} {e:Event} (h:nE p f) (he:eh p e=true):nE p (iJ p f e):=by
 obtain⟨ko,c8,pr,rD,qi⟩:=l_.1 h.base
 have cA:=sw ko
 have eO:=zb ko
 have aV:=SB ko
 unfold iJ
 split
 case isFalse=>exact h
 rename_i hc
 unfold ht
 split
 ·rename_i h1
  obtain⟨t0,t1⟩:=pw he (.inl h1)
  have FY:e.ag<f.ways.length:=by omega
  have hw:d_ p f e.ag=0:=by unfold eM at hc;rwa [if_pos h1] at hc
  have bd:(nth f.ways e.ag).state=0:=by
   unfold d_ at hw
   by_cases a0:(nth f.ways e.ag).state=0
   ·exact a0
   ·rw[if_pos a0] at hw;cases hw
  have R0:(kL p f e.ag).ways=[]:=by
   unfold d_ at hw
   rw[if_neg (by rw[bd];simp)] at hw
   unfold codeF at hw
   by_cases aj:(kL p f e.ag).ways=[]
   ·exact aj
   ·rw[if_pos aj] at hw;cases hw
  have k6:=Qq.1 (show dz (j7 p f e.ag) p.ways.length=[] from R0)
  have hk:=Sz (x:=1) (h.held e.ag t0 FY) (by omega) rfl (by omega)
  have Ig:=zd h (o:=f.al) (q:=iL (bq (nth p.ways e.ag)) f.ak) rfl (wV _ _) (Ma _ _ (fun x hx=>by
   have:=(cA.aZ _ (dt (show e.ag.toNat<p.ways.length by omega))).2.2 x hx
   exact⟨this.1,by omega,yQ ko (dt (by omega)) hx⟩) h.iw)
  have j8: ∀i:Int,0≤i→i<f.ways.length→nth (f.ways.set e.ag.toNat {nth f.ways e.ag with state:=1}) i=if i=e.ag then{nth f.ways e.ag with state:=1} else nth f.ways i:=fun i i0 i1=>y1 t0 i0 i1
  obtain⟨nK,j3,Af,Ag,ZF⟩:=l_.1 Ig.base
  have IP: ∀k:Int,0≤k→k<f.ways.length→k≠e.ag→kp p e.ag k=true→(nth f.ways k).state≠0→False:=fun k bf eo cO hb hs=>by
   have:=k6 k bf (by omega)
   unfold j7 at this
   rw[show(k !=e.ag)=true by simpa using cO,hb,show((nth f.ways k).state !=0)=true by simpa using hs] at this
   cases this
  refine⟨l_.2 ⟨nK,j3,Af,Ag,by show(f.ways.set _ _).length=_;rw[List.length_set];exact qi⟩,Ig.iw,fun i i0 i1=> ?_,fun i k i0 i1 bf eo=> ?_⟩
  ·have i1:i<f.ways.length:=by
    have i1:i<((f.ways.set e.ag.toNat {nth f.ways e.ag with state:=1}).length:Int):=i1
    rw[List.length_set] at i1;exact i1
   show m7 _ _ (nth (f.ways.set e.ag.toNat {nth f.ways e.ag with state:=1}) i)
   rw[j8 i i0 i1]
   split
   ·rename_i dI;rw[dI];exact hk
   ·exact h.held i i0 i1
  ·have i1:i<f.ways.length:=by
    have i1:i<((f.ways.set e.ag.toNat {nth f.ways e.ag with state:=1}).length:Int):=i1
    rw[List.length_set] at i1;exact i1
   have eo:k<f.ways.length:=by
    have eo:k<((f.ways.set e.ag.toNat {nth f.ways e.ag with state:=1}).length:Int):=eo
    rw[List.length_set] at eo;exact eo
   have hold:=h.bars i k i0 i1 bf eo
   unfold lJ at hold ⊢
   show((i !=k)&&(kp p i k&&(((nth (f.ways.set e.ag.toNat {nth f.ways e.ag with state:=1}) i).state !=0)&&((nth (f.ways.set e.ag.toNat {nth f.ways e.ag with state:=1}) k).state !=0))))=false
   rw[j8 i i0 i1,j8 k bf eo]
   by_cases xO:i=e.ag
   ·by_cases tk:k=e.ag
    ·rw[xO,tk];simp
    ·rw[if_neg tk]
     cases hb:kp p i k with
     | false=>simp
     | true=>
      cases hs:((nth f.ways k).state !=0) with
      | false=>simp
      | true=>exact(IP k bf eo tk (by rw[←xO];exact hb) (by simpa using hs)).elim
   ·rw[if_neg xO]
    by_cases tk:k=e.ag
    ·cases hb:kp p i k with
     | false=>simp
     | true=>
      cases hs:((nth f.ways i).state !=0) with
      | false=>simp
      | true=>exact(IP i i0 i1 xO (by rw[←tk,eO.sym k i bf (by omega) i0 (by omega)];exact hb) (by simpa using hs)).elim
    ·rw[if_neg tk];exact hold
 rename_i h1
 split
 ·rename_i h2
  obtain⟨t0,t1⟩:=pw he (.inr h2)
  have FY:e.ag<f.ways.length:=by omega
  have bd: ¬((nth f.ways e.ag).state≠1∧(nth f.ways e.ag).state≠2):=by
   unfold eM at hc
   rw[if_neg h1,if_pos h2] at hc
   intro bV;rw[if_pos bV] at hc;cases hc
  have bd:(nth f.ways e.ag).state=1∨(nth f.ways e.ag).state=2:=by omega
  have H:=h.held e.ag t0 FY
  split
  ·rename_i aj
   rw[Bool.and_eq_true] at aj
   refine Lq h t0 ⟨⟨show(0:Int)≤3 by decide,show(3:Int)≤4 by decide⟩,H.len,H.gone,fun _=>H.still (by omega),H.been,fun _=>⟨aj.1,aV.1,Int.le_refl _⟩,fun e=>absurd rfl e,fun e=>absurd e (show ¬(3:Int)=0 by decide),fun e=>absurd e (show ¬(3:Int)=2 by decide)⟩ (fun _=>by omega)
  ·exact Lq h t0 (yx (zv ko t0 t1)) (fun bV=>absurd rfl bV)
 rename_i h2
 split
 ·exact zd h (List.length_set ..) rfl h.iw
 rename_i aS
 split
 ·rename_i cb
  obtain⟨t0,t1⟩:=tq he (.inl cb)
  rw[xX cb,Bool.and_eq_true,j_,j_] at he
  refine zd h rfl (List.length_set ..) (Md h.iw ?_)
  have:=h.iw _ (dt (show e.ag.toNat<f.ak.length by omega))
  unfold kC at this ⊢
  rw[Bool.and_eq_true,j_,j_] at this ⊢
  exact⟨this.1,he.2⟩
 rename_i cb
 split
 ·rename_i cE
  obtain⟨t0,t1⟩:=tq he (.inr cE)
  rw[xY cE,Bool.and_eq_true,j_,j_] at he
  refine zd h rfl (List.length_set ..) (Md h.iw ?_)
  have:=h.iw _ (dt (show e.ag.toNat<f.ak.length by omega))
  unfold kC at this ⊢
  rw[Bool.and_eq_true,j_,j_] at this ⊢
  exact⟨he.2,this.2⟩
 rename_i cE
 split
 ·refine Lr h (w4 _ _ _) (fun i i0 i1=> ?_) fun i i0 i1=> ?_
  ·rw[zH i0 i1,if_pos i1]
   have H:=h.held i i0 i1
   unfold kM
   split
   ·rename_i hs
    have bu:=H.t3 hs
    have hw:IntKind.i64.wrap ((nth f.ways i).timer - 1)=(nth f.ways i).timer - 1:=gb (by omega) (by omega)
    rw[hw]
    split
    ·unfold a2;rw[jr i0];exact yx (zv ko i0 (by omega))
    ·exact⟨H.aD,H.len,H.gone,H.still,H.been,fun _=>⟨bu.1,by simp only;omega,by simp only;omega⟩,fun e=>absurd hs e,H.eu,H.s2⟩
   ·exact H
  ·rw[zH i0 i1,if_pos i1]
   unfold kM
   split
   ·rename_i hs
    split
    ·exact fun bV=>absurd rfl bV
    ·exact _root_.id
   ·exact _root_.id
 ·exact h
theorem OS {p:aB} (h:dv p=true):hz p (dn p)=true:=by
 have hf:=z7 h
 have aI:=hf.fr.ways
 have e:dn p=⟨true,List.replicate p.ai.toNat false,List.replicate p.bh.length ⟨1,1⟩,p.ways.map fun w=>gE w.ai.length⟩:=by unfold dn;rw[if_pos h]
 have hw: ∀i:Int,0≤i→i<(dn p).ways.length→nth (dn p).ways i=gE (nth p.ways i).ai.length:=fun i i0 i1=>by
  rw[fv (by omega),fv (show i.toNat<p.ways.length by omega)]
  simp only[e,List.getElem_map]
 have kv:nE p (dn p):=by
  refine⟨l_.2 ⟨h,by rw[e],hf.fr.al,hf.fr.ak,aI⟩,fun x hx=> ?_,fun i i0 i1=> ?_,fun i k i0 i1 bf eo=> ?_⟩
  ·rw[e] at hx;rw[(List.mem_replicate.1 hx).2];decide
  ·rw[hw i i0 i1];exact yx (zv h i0 (by omega))
  ·unfold lJ
   rw[hw i i0 i1];simp[gE]
 have hs:dQ p (dn p)=dn p:=by
  have s:=p7 p (dn p) (dn p).ways.length
  have yD:(dQ p (dn p)).ways=(dn p).ways:=by
   apply List.ext_getElem?
   intro j
   unfold dQ
   rw[uY]
   cases hx:(dn p).ways[j]? with
   | none=>rfl
   | some x=>
    have aP:=(List.getElem?_eq_some_iff.1 hx)
    have r0:=aP.1
    have:=hw j (by omega) (by omega)
    rw[iu aP.1,aP.2] at this
    simp only[Option.map_some,if_pos aP.1]
    rw[u3 (by rw[this];rfl)]
  have h1:(dQ p (dn p)).ok=(dn p).ok:=s.1
  have h2:(dQ p (dn p)).al=(dn p).al:=s.2.1
  have aS:(dQ p (dn p)).ak=(dn p).ak:=s.2.2
  generalize dQ p (dn p)=g at yD h1 h2 aS
  generalize dn p=b at yD h1 h2 aS
  cases g;cases b
  simp only at yD h1 h2 aS
  subst yD;subst h1;subst h2;subst aS;rfl
 rw[←hs];exact Lp kv
theorem Py (p:aB) (f:Frame) (e:Event):eM p f e≠1:=by
 unfold eM d_ codeF
 repeat' split
 all_goals decide
theorem Vx {p:aB} {f:Frame} {e:Event} (h:hz p f=true):cP.mk (eM p f e) (dQ p (iJ p f e))=gC p f e:=by
 unfold gC iJ
 by_cases hc:eM p f e=0
 ·rw[if_pos hc,if_neg (by rw[hc];simp),hc]
 ·rw[if_neg hc,if_pos hc,(K3 h).2]
theorem YW {p:aB} {f:Frame} {e:Event} (h:hz p f=true):lZ p f e=(if eh p e=true then gC p f e else⟨1,f⟩)∧hz p (lZ p f e).frame=true:=by
 unfold lZ f_
 rw[h,Bool.true_and]
 by_cases he:eh p e=true
 ·simp only[if_pos he]
  rw[if_neg (Py p f e)]
  exact⟨Vx h,Lp (V9 (K3 h).1 he)⟩
 ·simp only[if_neg he]
  exact⟨rfl,h⟩
theorem El {p:aB}: ∀(es:List Event) {f:Frame},hz p f=true→mv p f es=ja p f es∧kK p f es=iI p f es∧hz p (iI p f es)=true
 | [],f,h=>⟨rfl,rfl,h⟩
 | e::es,f,h=>by
  obtain⟨h1,h2⟩:=YW (e:=e) h
  by_cases he:eh p e=true
  ·rw[if_pos he] at h1
   rw[h1] at h2
   obtain⟨a,b,c⟩:=El es h2
   refine⟨?_,?_,?_⟩
   ·unfold mv ja
    rw[if_pos he,h1,a]
   ·unfold kK iI
    rw[if_pos he,h1,b]
   ·unfold iI
    rw[if_pos he];exact c
  ·rw[if_neg he] at h1
   rw[h1] at h2
   obtain⟨a,b,c⟩:=El es h2
   refine⟨?_,?_,?_⟩
   ·unfold mv ja
    rw[if_neg he,h1]
    show _::mv p f es=_
    rw[a]
   ·unfold kK iI
    rw[if_neg he,h1]
    exact b
   ·unfold iI
    rw[if_neg he];exact c
theorem Xn (p:aB) (es:List Event):lY p es=bw p es:=by
 unfold lY bw
 by_cases h:dv p=true∧es.length≤1000
 ·rw[if_pos h,if_pos h];exact(El es (OS h.1)).1
 ·rw[if_neg h,if_neg h]
end Go.Proofs.Ytglpfccgmfhkdaa.Fw
/- A way that is made; a way that is taken back. -/
set_option linter.unusedVariables false
namespace Go.Proofs.Ytglpfccgmfhkdaa.Fw
open Go
def ints (n:Nat):List Int:=(List.range n).map Int.ofNat
theorem CX (n:Nat):ints (n+1)=ints n++[(n:Int)]:=by unfold ints;rw[List.range_succ,List.map_append];rfl
theorem pT (n:Nat):(ints n).length=n:=by unfold ints;rw[List.length_map,List.length_range]
def bk (n m h:Int):aB:=⟨IntKind.i64.wrap (n+1),ints m.toNat,[⟨ints n.toNat,(ints m.toNat).map fun i=>⟨i,2⟩,[],[],[n]⟩],[[true]],h⟩
def KH (n m h:Int):Prop:=0≤n∧n≤1048576∧0≤m∧m≤1048576
def af (c:List UInt8) (i:Int):Int:=if c=[] then 0 else((nth c (i.tmod c.length)).toNat:Int)
def zN (c:List UInt8) (i:Int):Prop:=c.length≤1048576∧0≤i
theorem Gc (c:List UInt8) (i:Int):0≤af c i∧af c i≤255:=by
 unfold af
 split
 ·omega
 ·have:=(nth c (i.tmod c.length)).toNat_lt
  omega
def NI (h i v:Nat):Int:=if v=0 then 0 else if v=1 then 2 else if v<3+i∧ ¬(i=h∧v=2+h) then 3 else if i<h then 4 else 0
def zU (h i:Nat) (D:List cP):Prop:= ∀(v:Nat) (d:cP),D[v]?=some d→ ∃w,d.frame.ways=[w]∧w.state=NI h i v
theorem zU.more {h i:Nat} {D:List cP} (k:zU h i D) {w:aa} {c:Int} {o:Bool} {a:List Bool} {b:List aN} {n:Nat} (aC:D.length=n) (hw:w.state=NI h i n):zU h i (D++[⟨c,o,a,b,[w]⟩]):=fun v d bp=>by
 rcases Nat.lt_or_ge v D.length with aI | aI
 ·rw[List.getElem?_append_left aI] at bp;exact k v d bp
 ·rw[List.getElem?_append_right aI] at bp
  cases hv:v - D.length with
  | zero=>rw[hv] at bp;cases bp;exact⟨w,rfl,by rw[hw,show v=n by omega]⟩
  | succ m=>rw[hv] at bp;simp at bp
def Gi (c:List UInt8):Bool:=true
end Go.Proofs.Ytglpfccgmfhkdaa.Fw
/- A train passes. -/
set_option linter.unusedVariables false
namespace Go.Proofs.Ytglpfccgmfhkdaa.Fw
open Go
theorem xV {α:Type} [DecidableEq α] {a b:α} (h:a≠b):false=eqv a b:=by simp[eqv,h]
theorem Hn {α:Type} [DecidableEq α] {a b:α} (h:a=b):true=eqv a b:=by simp[eqv,h]
theorem KS {x y:aN}:(!((x.want==y.want)&&(x.aZ==y.aZ)))=true↔x≠y:=by
 rcases x with⟨a,b⟩;rcases y with⟨c,d⟩
 by_cases h1:a=c<;>simp[h1]
theorem KR {x y:aa}:((x.state !=y.state) || ((x.gone !=y.gone) || ((x.shown !=y.shown) || ((x.timer !=y.timer) || (!(eqv x.been y.been))))))=true↔x≠y:=by
 rcases x with⟨a,b,c,d,e⟩;rcases y with⟨hp,ca,ea,Hb,dI⟩
 simp only[eqv,Bool.or_eq_true,bne_iff_ne,ne_eq,Bool.not_eq_true',decide_eq_false_iff_not,aa.mk.injEq]
 by_cases h1:a=hp<;>by_cases h2:b=ca<;>by_cases aS:c=ea<;>by_cases bt:d=Hb<;>by_cases cb:e=dI<;>simp[h1,h2,aS,bt,cb]
theorem KQ {x y:cP}:((x.code !=y.code) || (!(eqv x.frame y.frame)))=true↔x≠y:=by
 rcases x with⟨a,b⟩;rcases y with⟨c,d⟩
 simp only[eqv,Bool.or_eq_true,bne_iff_ne,ne_eq,Bool.not_eq_true',decide_eq_false_iff_not,cP.mk.injEq,not_and]
 by_cases h1:a=c
 ·by_cases h2:b=d<;>simp[h1,h2]
 ·simp[h1]
def nd (m:Nat):Nat→List Event
 | 0=>[⟨1,0,0⟩]
 | j+1=>nd m j++[⟨5,(m:Int) - 1 - j,2⟩]
def jI (n m l:Nat):Nat→List Event
 | 0=>nd m m
 | k+1=>let y:=if k<n then jI n m l k++[⟨3,k,0⟩] else jI n m l k
  if l≤k then y++[⟨4,(k:Int) - l,0⟩] else y
def DP (d:cP) (s:Int):Bool:=d.code==0&&(match d.frame.ways with | [h]=>h.state==s | _=>false)
def y4 (f:Frame) (s g:Int):Bool:=match f.ways with | [h]=>h.state==s&&h.gone==g | _=>false
def y_ (n m l:Nat):Bool:=
 let p:=bk n m 5
 dv p&&(List.range (m+1)).all (fun u=>match(ja p (dn p) (nd m m))[u]? with | some d=>DP d (if u=m then 2 else 1) | none=>false)&&
 (List.range (n+l)).all (fun k=>if k+1=n+l then y4 (iI p (dn p) (jI n m l (k+1))) 0 0 else y4 (iI p (dn p) (jI n m l (k+1))) 4 ((k+1 - l:Nat):Int))
theorem VW:((List.range 7).all fun n=>(List.range (n+3)).all fun m=>y_ (n+2) m 1&&y_ (n+2) m 2)=true:=by kernel_rfl
theorem VX {n m l:Nat} (h1:2≤n) (h2:n≤8) (hm:m≤n) (aI:l=1∨l=2):y_ n m l=true:=by
 have a:=List.all_eq_true.1 VW (n - 2) (List.mem_range.2 (by omega))
 have b:=List.all_eq_true.1 a m (List.mem_range.2 (by omega))
 rw[show n - 2+2=n by omega,Bool.and_eq_true] at b
 rcases aI with rfl | rfl
 ·exact b.1
 ·exact b.2
theorem qv (m:Nat): ∀j,(nd m j).length=j+1
 | 0=>rfl
 | j+1=>by unfold nd;rw[List.length_append,qv m j];rfl
theorem xW (n m l:Nat): ∀k,0<(jI n m l k).length∧(jI n m l k).length≤m+1+2*k
 | 0=>by unfold jI;rw[qv];omega
 | k+1=>by
  have:=xW n m l k
  unfold jI
  split<;>split<;>simp only[List.length_append,List.length_singleton]<;>omega
theorem WC {p:aB} {es:List Event} {f:Frame} (h:0<es.length):(nth (ja p f es) ((es.length:Int) - 1)).frame=iI p f es:=by
 obtain⟨xs,e,rfl⟩: ∃xs e,es=xs++[e]:=⟨es.dropLast,es.getLast (List.length_pos_iff.1 h),(List.dropLast_concat_getLast _).symm⟩
 obtain⟨a,b⟩:=Ej p e xs f
 rw[a,b,List.length_append,List.length_singleton]
 have aI:=sF p xs f
 rw[fv (by rw[List.length_append,aI,List.length_singleton];omega)]
 have bF:(((xs.length+1:Nat):Int) - 1).toNat=(ja p f xs).length:=by rw[aI];omega
 simp only[bF,List.getElem_concat_length]
 split<;>rfl
theorem VH {d:cP} {s:Int} (h:DP d s=true):d.code=0∧ ∃x,d.frame.ways=[x]∧x.state=s:=by
 unfold DP at h
 rw[Bool.and_eq_true] at h
 refine⟨by simpa using h.1,?_⟩
 have h2:=h.2
 split at h2
 ·rename_i x e;exact⟨x,e,by simpa using h2⟩
 ·cases h2
theorem K4 {f:Frame} {s g:Int} (h:y4 f s g=true): ∃x,f.ways=[x]∧x.state=s∧x.gone=g:=by
 unfold y4 at h
 split at h
 ·rename_i x e;rw[Bool.and_eq_true] at h;exact⟨x,e,by simpa using h.1,by simpa using h.2⟩
 ·cases h
structure Passes (n m l:Nat):Prop where
 k1:dv (bk n m 5)=true
 one: ∀u:Int,0≤u→u≤m→(nth (bw (bk n m 5) (nd m m)) u).code=0∧ ∃x,(nth (bw (bk n m 5) (nd m m)) u).frame.ways=[x]∧x.state=if u=m then 2 else 1
 two: ∀k:Nat,k<n+l→ ∃x,(nth (bw (bk n m 5) (jI n m l (k+1))) (((jI n m l (k+1)).length:Int) - 1)).frame.ways=[x]∧x.state=(if k+1=n+l then 0 else 4)∧(k+1<n+l→x.gone=((k+1 - l:Nat):Int))
theorem zu {p:aB} {es:List Event} (h:dv p=true) (aI:es.length≤1000):bw p es=ja p (dn p) es:=by unfold bw;rw[if_pos ⟨h,aI⟩]
theorem VY {n m l:Nat} (h1:2≤n) (h2:n≤8) (hm:m≤n) (aI:l=1∨l=2):Passes n m l:=by
 have h:=VX h1 h2 hm aI
 unfold y_ at h
 simp only at h
 rw[Bool.and_eq_true,Bool.and_eq_true] at h
 obtain⟨⟨aO,eO⟩,RF⟩:=h
 refine⟨aO,fun u Z4 Z5=> ?_,fun k hk=> ?_⟩
 ·have hb:=List.all_eq_true.1 eO u.toNat (List.mem_range.2 (by omega))
  rw[zu aO (by rw[qv];omega)]
  have bg:u.toNat<(ja (bk n m 5) (dn (bk n m 5)) (nd m m)).length:=by rw[sF,qv];omega
  rw[gv bg] at hb
  have:=VH hb
  refine⟨this.1,?_⟩
  obtain⟨x,bF,e2⟩:=this.2
  refine⟨x,bF,?_⟩
  rw[e2]
  by_cases e:u=m
  ·rw[if_pos e,if_pos (by omega)]
  ·rw[if_neg e,if_neg (by omega)]
 ·have hc:=List.all_eq_true.1 RF k (List.mem_range.2 hk)
  have hlen:=xW n m l (k+1)
  rw[zu aO (by omega),WC hlen.1]
  by_cases e:k+1=n+l
  ·rw[if_pos e] at hc
   obtain⟨x,bF,e2,dN⟩:=K4 hc
   exact⟨x,bF,by rw[if_pos e];exact e2,fun h=>by omega⟩
  ·rw[if_neg e] at hc
   obtain⟨x,bF,e2,dN⟩:=K4 hc
   exact⟨x,bF,by rw[if_neg e];exact e2,fun _=>dN⟩
def k_ (c:List UInt8):Int:=IntKind.i64.wrap (2+(af c 0).tmod 7)
def k9 (c:List UInt8):Int:=(af c 1).tmod (IntKind.i64.wrap (k_ c+1))
def o1 (c:List UInt8):Int:=IntKind.i64.wrap (1+(af c 2).tmod 2)
theorem VQ (c:List UInt8): ∃n m l:Nat,k_ c=n∧k9 c=m∧o1 c=l∧2≤n∧n≤8∧m≤n∧(l=1∨l=2):=by
 have hx:=Gc c 0
 have bA:=Gc c 1
 have aQ:=Gc c 2
 have gY:k_ c=2+af c 0%7:=by unfold k_;rw[Int.tmod_eq_emod_of_nonneg hx.1];exact gb (by omega) (by omega)
 have j5:k9 c=af c 1%(k_ c+1):=by
  unfold k9;rw[Int.tmod_eq_emod_of_nonneg bA.1,show IntKind.i64.wrap (k_ c+1)=k_ c+1 from gb (by omega) (by omega)]
 have bT:o1 c=1+af c 2%2:=by unfold o1;rw[Int.tmod_eq_emod_of_nonneg aQ.1];exact gb (by omega) (by omega)
 have h1:=Int.emod_nonneg (af c 1) (show k_ c+1≠0 by omega)
 have h2:=Int.emod_lt_of_pos (af c 1) (show(0:Int)<k_ c+1 by omega)
 exact⟨(k_ c).toNat,(k9 c).toNat,(o1 c).toNat,by omega,by omega,by omega,by omega,by omega,by omega,by omega⟩
end Go.Proofs.Ytglpfccgmfhkdaa.Fw
/- Walks and summaries of functions, printed by a program of mine (tools/mk2.py), with the proofs of what they owe. -/
set_option linter.unusedVariables false
set_option maxRecDepth 100000
set_option maxHeartbeats 4000000
set_option linter.unusedSimpArgs false
namespace Go.Proofs.Ytglpfccgmfhkdaa.Fw
open Go
attribute [local irreducible] evS evSD WpS Weak Oper.looksAt
def XL (J:Int) (M:Int) (O:Int) (ar:Bool):Prop:=
 ((decide (J ≥ M))&&(decide (J≤O)))=ar
theorem E7 (J:Int) (M:Int) (O:Int):b3 Try.prog 67 [ac J,ac M,ac O] (ah (b1 J M O)):=(fun(h:XL J M O (b1 J M O))=>b3.run (ps:=[.int,.int,.int]) (rs:=[.bool]) (x:=(J,M,O,())) (r:=((b1 J M O),())) ⟨15,eN,[]⟩ ⟨[],[],[],[]⟩ .nil Try.func67 h) (by
 rfl)
def wX:ev Try.prog:=⟨67,[.int,.int,.int],[.bool],none,fun x=>((b1 x.1 x.2.1 x.2.2.1),()),fun x h=>E7 x.1 x.2.1 x.2.2.1⟩
def MR (aw:Int→Prop) (ay:Int→Nat) (aW:Int→Int→Prop) (aX:Int→Int→Nat) (J M:(List Int)) (ar:Bool) (v11:Int):Prop:=
  aW v11 0∧ ∀(fh:Int),aW v11 fh→(((decide (fh<(M.length:Int)))=false→aw (IntKind.i64.wrap (v11+1))∧ay (IntKind.i64.wrap (v11+1))<ay v11)∧((decide (fh<(M.length:Int)))=true→((0≤fh∧fh.toNat<M.length)∧(((nth J v11)==(nth M fh))=true→true=ar))∧((!((nth J v11)==(nth M fh)))=true→aW v11 (IntKind.i64.wrap (fh+1))∧aX v11 (IntKind.i64.wrap (fh+1))<aX v11 fh)))
def MQ (J:(List Int)) (M:(List Int)) (ar:Bool) (aw:Int→Prop) (ay:Int→Nat) (aW:Int→Int→Prop) (aX:Int→Int→Nat):Prop:=
 J.length≤4611686018427387904→aw 0∧ ∀(v11:Int),aw v11→(((decide (v11<(J.length:Int)))=false→false=ar)∧((decide (v11<(J.length:Int)))=true→(0≤v11∧v11.toNat<J.length)∧(M.length≤4611686018427387904→MR aw ay aW aX J M ar v11)))
theorem XS (J:(List Int)) (M:(List Int)):b3 Try.prog 69 [bo bW J,bo bW M] (ah (meets J M)):=(fun(aw:Int→Prop) (ay:Int→Nat) (aW:Int→Int→Prop) (aX:Int→Int→Nat) (h:MQ J M (meets J M) aw ay aW aX)=>b3.run (ps:=[(.l .int),(.l .int)]) (rs:=[.bool]) (x:=(J,M,())) (r:=((meets J M),())) ⟨26,eN,[]⟩ ⟨[],[],[],[]⟩ (e1 [1,9,10] [] 11 aw ay fun a_=>(e1 [1,6,9,10,11,15,16] [] 17 (aW a_) (aX a_) fun _=> .nil)) Try.func69 h) (cg J.length (fun j=>fb M (nth J j))) (cn J.length) (fun v=>cg M.length (fun k=>nth J v==nth M k)) (fun v=>cn M.length) (by
 unfold MQ MR
 intro aC
 refine⟨cS (de _),fun v aM=>⟨fun hv=> ?_,fun hv=>⟨b8 aM hv,fun hm=>⟨cS (de _),fun k hK=>⟨fun hk=> ?_,fun hk=>⟨⟨b8 hK hk,fun aF=> ?_⟩,fun aF=>cq (ci hm) hK hk (not_eq aF)⟩⟩⟩⟩⟩⟩
 ·exact(w7 (q:=fun x=>fb M x) aM hv).symm
 ·exact cq (ci aC) aM hv (RP (ga hK hk))
 ·exact(zL (q:=fun x=>fb M x) aM hv (RR (b8 hK hk).2 aF)).symm)
def E8:ev Try.prog:=⟨69,[(.l .int),(.l .int)],[.bool],none,fun x=>((meets x.1 x.2.1),()),fun x h=>XS x.1 x.2.1⟩
def Mm (J:(List Int)) (M:Int) (ar:Int) (aw:Int→Prop) (ay:Int→Nat):Prop:=
 J.length≤4611686018427387904→aw 0∧ ∀(bP:Int),aw bP→(((decide (bP<(J.length:Int)))=false→(-1)=ar)∧((decide (bP<(J.length:Int)))=true→((0≤bP∧bP.toNat<J.length)∧((M==(nth J bP))=true→bP=ar))∧((!(M==(nth J bP)))=true→aw (IntKind.i64.wrap (bP+1))∧ay (IntKind.i64.wrap (bP+1))<ay bP)))
theorem Xf (J:(List Int)) (M:Int):b3 Try.prog 161 [bo bW J,ac M] (ac (mh J M)):=(fun(aw:Int→Prop) (ay:Int→Nat) (h:Mm J M (mh J M) aw ay)=>b3.run (ps:=[(.l .int),.int]) (rs:=[.int]) (x:=(J,M,())) (r:=((mh J M),())) ⟨19,eN,[]⟩ ⟨[],[],[],[]⟩ (e1 [0,1,7] [] 8 aw ay fun _=> .nil) Try.func161 h) (cg J.length (fun j=>M==nth J j)) (cn J.length) (by
 unfold Mm
 intro aC
 refine⟨cS (de _),fun v aM=>⟨fun hv=> ?_,fun hv=>⟨⟨b8 aM hv,fun aF=> ?_⟩,fun aF=>cq (ci aC) aM hv (not_eq aF)⟩⟩⟩
 ·unfold mh;rw[ph (q:=fun x=>M==x) aM hv];rfl
 ·unfold mh;rw[pg (q:=fun x=>M==x) aM hv aF]
  have:=aM.1
  show v=(v.toNat:Int)
  omega)
def Mn:ev Try.prog:=⟨161,[(.l .int),.int],[.int],none,fun x=>((mh x.1 x.2.1),()),fun x h=>Xf x.1 x.2.1⟩
def Mk (J:(List Int)) (M:Int) (ar:Bool):Prop:=
 (decide ((mh J M) ≥ 0))=ar
theorem Xc (J:(List Int)) (M:Int):b3 Try.prog 130 [bo bW J,ac M] (ah (fb J M)):=(fun(h:Mk J M (fb J M))=>b3.run (ps:=[(.l .int),.int]) (rs:=[.bool]) (x:=(J,M,())) (r:=((fb J M),())) ⟨9,eN,[Mn]⟩ ⟨[],[],[],[]⟩ .nil Try.func130 h) (by
 unfold Mk
 exact Tc J M)
def zy:ev Try.prog:=⟨130,[(.l .int),.int],[.bool],none,fun x=>((fb x.1 x.2.1),()),fun x h=>Xc x.1 x.2.1⟩
def JH (J:(List Int)) (M:(List Int)) (ar:Bool) (aw:Int→Prop) (ay:Int→Nat):Prop:=
 J.length≤4611686018427387904→aw 0∧ ∀(bU:Int),aw bU→(((decide (bU<(J.length:Int)))=false→false=ar)∧((decide (bU<(J.length:Int)))=true→((0≤bU∧bU.toNat<J.length)∧((fb M (nth J bU))=true→true=ar))∧((!(fb M (nth J bU)))=true→aw (IntKind.i64.wrap (bU+1))∧ay (IntKind.i64.wrap (bU+1))<ay bU)))
theorem T3 (J:(List Int)) (M:(List Int)):b3 Try.prog 74 [bo bW J,bo bW M] (ah (meets J M)):=(fun(aw:Int→Prop) (ay:Int→Nat) (h:JH J M (meets J M) aw ay)=>b3.run (ps:=[(.l .int),(.l .int)]) (rs:=[.bool]) (x:=(J,M,())) (r:=((meets J M),())) ⟨17,eN,[zy]⟩ ⟨[],[],[],[]⟩ (e1 [1,7,8] [] 9 aw ay fun _=> .nil) Try.func74 h) (cg J.length (fun j=>fb M (nth J j))) (cn J.length) (by
 unfold JH
 intro aC
 refine⟨cS (de _),fun v aM=>⟨fun hv=> ?_,fun hv=>⟨⟨b8 aM hv,fun aF=> ?_⟩,fun aF=>cq (ci aC) aM hv (not_eq aF)⟩⟩⟩
 ·exact(w7 (q:=fun x=>fb M x) aM hv).symm
 ·exact(zL (q:=fun x=>fb M x) aM hv aF).symm)
def CH:ev Try.prog:=⟨74,[(.l .int),(.l .int)],[.bool],none,fun x=>((meets x.1 x.2.1),()),fun x h=>T3 x.1 x.2.1⟩
noncomputable def WZ:Code:=hM Try.f158
def Ez (J:(List ch)) (ar:(List ch)):Prop:=
 (J≠[]→(J.length*16≤140737488355328∧J.length≤4611686018427387904)∧(J=ar))∧(J=[]→ ∀c8:Bool,(c8=true→[]=ar)∧(c8=false→(J.length*16≤140737488355328∧J.length≤4611686018427387904)∧(J=ar)))
theorem W0 (J:(List ch)) (ar:(List ch)) (h:Ez J ar):dj Try.prog 158 [bo cD J] [] (fun r H=>r=ae 0 0 ar.length∧H=[⟨0,2,List.map cD ar⟩]):=by
 refine dj.toOwn ?_
 unfold Ez at h
 refine dj.go (fn:=Try.f158) [(0,bo cD J)] Try.func158 ?_
 show WpS _ (bK WZ 1) _ ⟨a4 8 [(0,bo cD J)],[],[]⟩
 refine cQ [] 0 [(2,ao)] [] [1] ?_
 refine fy ?_
 refine fy ?_
 refine bm [] 1 ?_
 refine Er 2 (some 4) [(3,bo cD J)] cD J (fun hx=> ?_) (fun hx c8=> ?_)
 ·
  replace h:=h.1 hx
  refine df [] ?_
  refine c4.normal ?_
  refine pu (.tmp 4) false (fun q3=> ?_) (fun q3=> ?_)
  ·
   cases q3
  ·
   refine c6 ?_
   refine c4.normal ?_
   obtain⟨cT,h⟩:=h
   refine gX ⟨(a4 8 [(2,ae 0 0 J.length)]),[],[⟨0,2,List.map cD J⟩]⟩ (True) ?_ (fun q4=> ?_)
   ·
    replace h:=cT
    refine bm [] 3 ?_
    have cx:=h
    refine pc 3 (some 7) [(6,bo cD J),(5,ao)] cD J (hR false (List.map cD J)) 0 2 16 (fun r=>[⟨0,2,r⟩]) rfl cx ?_
    exact bL [(2,ae 0 0 J.length)] trivial
   refine e8 ?_
   refine lz (ae 0 0 J.length) [ae 0 0 J.length] ?_
   exact⟨nz [some 0],o0 [some 0] rfl (by decide) ⟨rfl,(pb (b:=0) (g:=0) (sz:=2) (xs:=J) (ys:=ar) rfl K1 h),trivial⟩,(.inr (sr (by simp) rfl rfl (by have:=congrArg List.length h;simpa using this)))⟩
 ·
  replace h:=h.2 hx c8
  refine df [] ?_
  refine c4.normal ?_
  refine pu (.tmp 4) c8 (fun et=> ?_) (fun et=> ?_)
  ·
   replace h:=h.1 et
   refine gX ⟨(a4 8 [(2,ao)]),[],[]⟩ (True) ?_ (fun eB=> ?_)
   ·
    refine bm [] 2 ?_
    exact bL [(2,ao)] trivial
   refine e8 ?_
   refine c4.ret ?_
   refine lz (ao) [ao] ?_
   exact⟨nz [none],o0 [none] rfl (by decide) ⟨rfl,trivial,trivial⟩,(.inr (DS (by simp) rfl rfl (by rw[←h];rfl)))⟩
  ·
   replace h:=h.2 et
   refine c6 ?_
   refine c4.normal ?_
   obtain⟨fI,h⟩:=h
   refine gX ⟨(a4 8 [(2,ae 0 0 J.length)]),[],[⟨0,2,List.map cD J⟩]⟩ (True) ?_ (fun gU=> ?_)
   ·
    replace h:=fI
    refine bm [] 3 ?_
    have fH:=h
    refine pc 3 (some 7) [(6,bo cD J),(5,ao)] cD J (hR false (List.map cD J)) 0 2 16 (fun r=>[⟨0,2,r⟩]) rfl fH ?_
    exact bL [(2,ae 0 0 J.length)] trivial
   refine e8 ?_
   refine lz (ae 0 0 J.length) [ae 0 0 J.length] ?_
   exact⟨nz [some 0],o0 [some 0] rfl (by decide) ⟨rfl,(pb (b:=0) (g:=0) (sz:=2) (xs:=J) (ys:=ar) rfl K1 h),trivial⟩,(.inr (sr (by simp) rfl rfl (by have:=congrArg List.length h;simpa using this)))⟩
theorem WY (J:(List ch)) (aF:small J):dj Try.prog 158 [bo cD J] [] (fun r H=>r=ae 0 0 ((U J).length)∧H=[⟨0,2,List.map cD (U J)⟩]):=W0 J (U J) (by
 have aF:J.length≤1048576:=aF
 unfold Ez
 refine⟨fun h=>⟨⟨by omega,by omega⟩,rfl⟩,fun h b=>⟨fun _=> ?_,fun _=>⟨⟨by omega,by omega⟩,rfl⟩⟩⟩
 exact h.symm)
noncomputable def JJ:Code:=hM Try.f123
def T4:List Item:=[au 0,au 1,au 3,au 4,⟨2,true,false,[3,4]⟩,⟨5,true,false,[]⟩,au 6]
def T5:List (List Nat):=[[],[0],[0,1],[],[3],rg 0 5,rg 0 6]
def CI (J:Way) (ar:(List ch)):Prop:=
 ((small J.aZ)∧(((U J.aZ).length+J.br.length)*16≤140737488355328∧(U J.aZ).length+J.br.length≤4611686018427387904))∧(((U J.aZ)++J.br).length≤4611686018427387904∧((U J.aZ)++J.br)=ar)
theorem T6 (J:Way) (ar:(List ch)) (h:CI J ar):b3 Try.prog 123 [.agg (c9 false J)] (eJ cD ar):=by
 unfold CI at h
 refine dj.go (fn:=Try.f123) [(0,.agg (c9 false J))] Try.func123 ?_
 show WpS _ (bK JJ 1) _ ⟨a4 9 [(0,.agg (c9 false J))],[],[]⟩
 refine m_ [] 0 [(2,ao),(1,an 1 0)] [0,1,1] [] [(1,(c9 false J))] [] ?_
 obtain⟨cx,h⟩:=h
 refine dD [(2,ae 0 1 (((U J.aZ)++J.br).length))] [] id (fun _=>[⟨1,2,List.map cD ((U J.aZ)++J.br)⟩]) (True) ?_ (fun q2=> ?_)
 ·
  replace h:=cx
  refine lW [] 1 T4 T5 [] ?_
  obtain⟨q3,h⟩:=h
  refine zF 5 (some 5) [(7,bo cD J.br),(6,an 1 2),(4,bo cD J.aZ),(3,an 1 1)] [bo cD J.aZ] (fun L H=>nP Try.prog (h9 JJ 6) [3,4] [(7,bo cD J.br),(6,an 1 2),(4,bo cD J.aZ),(3,an 1 1),(1,an 1 0)] L H) (ae 0 0 ((U J.aZ).length)) [⟨0,2,List.map cD (U J.aZ)⟩] (WY J.aZ q3) (av.cons (ck.ee b7) av.nil) (oZ (fun _=>rfl) rfl) (pf (pe (fun _=>rfl) rfl) (by kernel_rfl)) (qV (ψ:=((true=true∧true=true∧((an 1 2:AV)=an 1 2))∧((true=true∧true=true∧((bo cD J.br:AV)=bo cD J.br))∧True))) (by kernel_rfl) ⟨⟨rfl,rfl,rfl⟩,⟨⟨rfl,rfl,rfl⟩,trivial⟩⟩) ?_
  have q4:=h
  refine Y4 1 (some 8) [] cD (U J.aZ) J.br (hR false (List.map cD J.br)) 0 0 2 16 (fun _=>True) (fun r=>[⟨1,2,r⟩]) rfl q4 trivial ?_
  exact jY [(2,ae 0 1 (((U J.aZ)++J.br).length))] trivial
 exact e8 (iz (ae 0 1 (((U J.aZ)++J.br).length)) (gd.ee (l0 (sz:=2) (by simp) rfl (Ai) h)))
theorem JI (J:Way) (aF:uE J):b3 Try.prog 123 [.agg (c9 false J)] (eJ cD (bq J)):=T6 J (bq J) (by
 obtain⟨h1,h2⟩:=aF
 unfold CI U small
 exact⟨⟨h1,by omega,by omega⟩,by rw[List.length_append];omega,rfl⟩)
def CJ:ev Try.prog:=⟨123,[.km],[(.l .bx)],some fun x=>uE x.1,fun x=>((bq x.1),()),fun x h=>JI x.1 h⟩
def Uq:List Item:=[au 0,au 1,au 2,au 3,au 4,au 5,au 6,au 7]
def Ur:List (List Nat):=[[],[],[0,1],[],[],[3,4],[3,4,5],rg 0 7]
def JX (aw:Int→Prop) (ay:Int→Nat) (J:(List Int)) (ar:Bool):Prop:=
  J.length≤4611686018427387904→aw 0∧ ∀(v6:Int),aw v6→(((decide (v6<(J.length:Int)))=false→false=ar)∧((decide (v6<(J.length:Int)))=true→(((0≤v6∧v6≤(J.length:Int))∧(0≤v6∧v6.toNat<J.length))∧((fb (J.take v6.toNat) (nth J v6))=true→true=ar))∧((!(fb (J.take v6.toNat) (nth J v6)))=true→aw (IntKind.i64.wrap (v6+1))∧ay (IntKind.i64.wrap (v6+1))<ay v6)))
def JW (J:(List Int)) (ar:Bool) (aw:Int→Prop) (ay:Int→Nat):Prop:=
 JX aw ay J ar
theorem Uo (J:(List Int)):b3 Try.prog 129 [bo bW J] (ah (dup J)):=(fun(aw:Int→Prop) (ay:Int→Nat) (h:JW J (dup J) aw ay)=>b3.run (ps:=[(.l .int)]) (rs:=[.bool]) (x:=(J,())) (r:=((dup J),())) ⟨18,eN,[zy]⟩ ⟨[],[(4,Uq,Ur)],[],[]⟩ (e1 [0,5] [] 6 aw ay fun _=> .nil) Try.func129 h) (cg J.length (fun j=>fb (J.take j.toNat) (nth J j))) (cn J.length) (by
 unfold JW JX
 intro aC
 refine⟨cS (de _),fun v aM=>⟨fun hv=> ?_,fun hv=>⟨⟨⟨⟨aM.1,aM.2.1⟩,b8 aM hv⟩,fun aF=> ?_⟩,fun aF=>cq (ci aC) aM hv (not_eq aF)⟩⟩⟩
 ·exact(Hf (ga aM hv)).symm
 ·exact(P0 (b8 aM hv).1 (b8 aM hv).2 aF).symm)
def Up:ev Try.prog:=⟨129,[(.l .int)],[.bool],none,fun x=>((dup x.1),()),fun x h=>Uo x.1⟩
end Go.Proofs.Ytglpfccgmfhkdaa.Fw
/- Walks and summaries of functions, printed by a program of mine (tools/mk2.py), with the proofs of what they owe. -/
set_option linter.unusedVariables false
set_option maxRecDepth 100000
set_option maxHeartbeats 4000000
set_option linter.unusedSimpArgs false
namespace Go.Proofs.Ytglpfccgmfhkdaa.Fw
open Go
attribute [local irreducible] evS evSD WpS Weak Oper.looksAt
def MP (aw:Int→Prop) (ay:Int→Nat) (aW:Int→Int→Prop) (aX:Int→Int→Nat) (J:(List Int)) (M:Int) (ar:Bool) (v10:Int):Prop:=
  ((!(b1 (nth J v10) 0 (IntKind.i64.wrap (M - 1))))=true→false=ar)∧((!(!(b1 (nth J v10) 0 (IntKind.i64.wrap (M - 1)))))=true→aW v10 0∧ ∀(eL:Int),aW v10 eL→(((decide (eL<v10))=false→aw (IntKind.i64.wrap (v10+1))∧ay (IntKind.i64.wrap (v10+1))<ay v10)∧((decide (eL<v10))=true→((0≤eL∧eL.toNat<J.length)∧(((nth J eL)==(nth J v10))=true→false=ar))∧((!((nth J eL)==(nth J v10)))=true→aW v10 (IntKind.i64.wrap (eL+1))∧aX v10 (IntKind.i64.wrap (eL+1))<aX v10 eL))))
def MO (J:(List Int)) (M:Int) (ar:Bool) (aw:Int→Prop) (ay:Int→Nat) (aW:Int→Int→Prop) (aX:Int→Int→Nat):Prop:=
 J.length≤4611686018427387904→aw 0∧ ∀(v10:Int),aw v10→(((decide (v10<(J.length:Int)))=false→(decide ((J.length:Int)≤30))=ar)∧((decide (v10<(J.length:Int)))=true→(0≤v10∧v10.toNat<J.length)∧(MP aw ay aW aX J M ar v10)))
theorem XQ (J:(List Int)) (M:Int) (aF:wD J M):b3 Try.prog 126 [bo bW J,ac M] (ah (gI J M)):=(fun(aw:Int→Prop) (ay:Int→Nat) (aW:Int→Int→Prop) (aX:Int→Int→Nat) (h:MO J M (gI J M) aw ay aW aX)=>b3.run (ps:=[(.l .int),.int]) (rs:=[.bool]) (x:=(J,M,())) (r:=((gI J M),())) ⟨35,eN,[wX]⟩ ⟨[33],[],[],[]⟩ (e1 [0,1,8,9] [] 10 aw ay fun a_=>(e1 [0,1,5,6,8,9,10] [] 7 (aW a_) (aX a_) fun _=> .nil)) Try.func126 h) (cg J.length (fun j=> !b1 (nth J j) 0 (M - 1) || fb (J.take j.toNat) (nth J j))) (cn J.length) (fun v=>cg v (fun k=>nth J k==nth J v)) (fun v=>cn v) (by
 have aF: -9223372036854775808<M∧M≤9223372036854775807:=aF
 unfold MO MP
 intro aC
 refine⟨cS (de _),fun v aM=>⟨fun hv=> ?_,fun hv=>⟨b8 aM hv,?_⟩⟩⟩
 ·exact(KP 30).trans (Ve (ga aM hv)).symm
 ·have hi:=b8 aM hv
  rw[gb (by omega) (by omega)]
  refine⟨fun h=>(KA hi.2 h).symm,fun aJ=>⟨cS aM.1,fun k hK=>⟨fun hk=> ?_,fun hk=> ?_⟩⟩⟩
  ·refine cq (ci aC) aM hv ?_
   rw[RQ aM.1 (by simpa using hv) (ga hK hk),Bool.or_false]
   exact not_eq aJ
  ·have iF:k<v:=by simpa using hk
   have:=hK.1
   exact⟨⟨⟨by omega,by omega⟩,fun he=>(Vd hK.1 iF (by omega) he).symm⟩,fun he=>cq (by omega) hK hk (not_eq he)⟩)
def XR:ev Try.prog:=⟨126,[(.l .int),.int],[.bool],some fun x=>wD x.1 x.2.1,fun x=>((gI x.1 x.2.1),()),fun x h=>XQ x.1 x.2.1 h⟩
def XO:List Item:=[au 0,au 1,au 2,au 3,au 4,au 5,au 6,au 7]
def XP:List (List Nat):=[[],[],[0,1],[0,1,2],rg 0 4,[],[5],rg 0 7]
def MM (aw:Int→Prop) (ay:Int→Nat) (aW:Int→Int→Prop) (aX:Int→Int→Nat) (M:(List ch)) (ar:Bool) (v10:Int):Prop:=
  aW v10 0∧ ∀(eL:Int),aW v10 eL→(((decide (eL<v10))=false→aw (IntKind.i64.wrap (v10+1))∧ay (IntKind.i64.wrap (v10+1))<ay v10)∧((decide (eL<v10))=true→((0≤eL∧eL.toNat<M.length)∧((((nth M eL).bb)==((nth M v10).bb))=true→false=ar))∧((!(((nth M eL).bb)==((nth M v10).bb)))=true→aW v10 (IntKind.i64.wrap (eL+1))∧aX v10 (IntKind.i64.wrap (eL+1))<aX v10 eL)))
def MN (aw:Int→Prop) (ay:Int→Nat) (aW:Int→Int→Prop) (aX:Int→Int→Nat) (J:aB) (M:(List ch)) (ar:Bool) (v10:Int):Prop:=
  (J.bh.length≤4611686018427387904→((!(b1 ((nth M v10).bb) 0 (IntKind.i64.wrap ((J.bh.length:Int) - 1)))) || (!(b1 ((nth M v10).bx) 1 2)))=true→false=ar)∧((J.bh.length≤4611686018427387904)∧((!((!(b1 ((nth M v10).bb) 0 (IntKind.i64.wrap ((J.bh.length:Int) - 1)))) || (!(b1 ((nth M v10).bx) 1 2))))=true)→MM aw ay aW aX M ar v10)
def ML (J:aB) (M:(List ch)) (ar:Bool) (aw:Int→Prop) (ay:Int→Nat) (aW:Int→Int→Prop) (aX:Int→Int→Nat):Prop:=
 M.length≤4611686018427387904→aw 0∧ ∀(v10:Int),aw v10→(((decide (v10<(M.length:Int)))=false→(decide ((M.length:Int)≤30))=ar)∧((decide (v10<(M.length:Int)))=true→(0≤v10∧v10.toNat<M.length)∧(MN aw ay aW aX J M ar v10)))
theorem XM (J:aB) (M:(List ch)):b3 Try.prog 127 [.agg (a8 false J),bo cD M] (ah (kz J M)):=(fun(aw:Int→Prop) (ay:Int→Nat) (aW:Int→Int→Prop) (aX:Int→Int→Nat) (h:ML J M (kz J M) aw ay aW aX)=>b3.run (ps:=[.dW,(.l .bx)]) (rs:=[.bool]) (x:=(J,M,())) (r:=((kz J M),())) ⟨46,eN,[wX]⟩ ⟨[44],[(9,XO,XP)],[],[]⟩ (e1 [1,2,8,9] [(2,5)] 10 aw ay fun a_=>(e1 [1,2,5,6,8,9,10] [(6,2),(2,5)] 7 (aW a_) (aX a_) fun _=> .nil)) Try.func127 h) (cg M.length (fun j=>nn J (nth M j) || wi M j)) (cn M.length) (fun v=>cg v (fun k=>(nth M k).bb==(nth M v).bb)) (fun v=>cn v) (by
 unfold ML MN MM
 intro aC
 refine⟨cS (de _),fun v aM=>⟨fun hv=> ?_,fun hv=>⟨b8 aM hv,?_⟩⟩⟩
 ·exact(KP 30).trans (Vb (ga aM hv)).symm
 ·have hi:=b8 aM hv
  refine⟨fun hs h=> ?_,fun⟨hs,aJ⟩=>⟨cS aM.1,fun k hK=>⟨fun hk=> ?_,fun hk=> ?_⟩⟩⟩
  ·rw[gb (by omega) (by omega)] at h
   exact(Vc hi.2 h).symm
  ·rw[gb (by omega) (by omega)] at aJ
   refine cq (ci aC) aM hv ?_
   rw[U9 aM.1 (by simpa using hv) (ga hK hk),Bool.or_false]
   exact not_eq aJ
  ·have iF:k<v:=by simpa using hk
   have:=hK.1
   exact⟨⟨⟨by omega,by omega⟩,fun he=>(Va hK.1 iF (by omega) he).symm⟩,fun he=>cq (by omega) hK hk (not_eq he)⟩)
def XN:ev Try.prog:=⟨127,[.dW,(.l .bx)],[.bool],none,fun x=>((kz x.1 x.2.1),()),fun x h=>XM x.1 x.2.1⟩
def XX:List Item:=[au 0,au 1,au 2,au 3,au 4,au 5,au 6,au 7,au 8,au 9,au 10]
def XY:List (List Nat):=[[],[0],[],[2],rg 0 4,rg 0 5,rg 0 6,[],[7],rg 0 9,rg 0 10]
def MT (aw:Int→Prop) (ay:Int→Nat) (aW:Int→Int→Prop) (aX:Int→Int→Nat) (J:aB) (M:Way) (ar:Bool) (eC fw:Int):Prop:=
  ((decide (eC<(M.br.length:Int)))=false→(0≤((nth M.aZ fw).bb)∧((nth M.aZ fw).bb).toNat<J.bh.length)∧(((!(meets [(nth J.bh ((nth M.aZ fw).bb))] M.ai))=true→false=ar)∧((!(meets [(nth J.bh ((nth M.aZ fw).bb))] M.ai))=false→aw (IntKind.i64.wrap (fw+1))∧ay (IntKind.i64.wrap (fw+1))<ay fw)))∧((decide (eC<(M.br.length:Int)))=true→((0≤eC∧eC.toNat<M.br.length)∧((((nth M.aZ fw).bb)==((nth M.br eC).bb))=true→false=ar))∧((!(((nth M.aZ fw).bb)==((nth M.br eC).bb)))=true→aW fw (IntKind.i64.wrap (eC+1))∧aX fw (IntKind.i64.wrap (eC+1))<aX fw eC))
def MU (aw:Int→Prop) (ay:Int→Nat) (aW:Int→Int→Prop) (aX:Int→Int→Nat) (J:aB) (M:Way) (ar:Bool):Prop:=
  ((M.ai.length≤4611686018427387904→((M.ai.length:Int)==0)=false→(wD M.ai J.ai)∧((!(gI M.ai J.ai))=false→(wD M.cw J.ai)∧((!(gI M.cw J.ai))=false→wD M.ct J.ai)))∧(M.ai.length≤4611686018427387904→(((M.ai.length:Int)==0) || ((!(gI M.ai J.ai)) || ((!(gI M.cw J.ai)) || ((!(gI M.ct J.ai)) || ((!(kz J M.aZ)) || (!(kz J M.br)))))))=true→false=ar))∧((M.ai.length≤4611686018427387904)∧((!(((M.ai.length:Int)==0) || ((!(gI M.ai J.ai)) || ((!(gI M.cw J.ai)) || ((!(gI M.ct J.ai)) || ((!(kz J M.aZ)) || (!(kz J M.br))))))))=true)→M.aZ.length≤4611686018427387904→aw 0∧ ∀(fw:Int),aw fw→(((decide (fw<(M.aZ.length:Int)))=false→(!(meets M.cw M.ai))=ar)∧((decide (fw<(M.aZ.length:Int)))=true→(0≤fw∧fw.toNat<M.aZ.length)∧(M.br.length≤4611686018427387904→aW fw 0∧ ∀(eC:Int),aW fw eC→(MT aw ay aW aX J M ar eC fw)))))
def MS (J:aB) (M:Way) (ar:Bool) (aw:Int→Prop) (ay:Int→Nat) (aW:Int→Int→Prop) (aX:Int→Int→Nat):Prop:=
 MU aw ay aW aX J M ar
theorem XV (J:aB) (M:Way) (aF:D0 J M):b3 Try.prog 68 [.agg (a8 false J),.agg (c9 false M)] (ah (hd J M)):=(fun(aw:Int→Prop) (ay:Int→Nat) (aW:Int→Int→Prop) (aX:Int→Int→Nat) (h:MS J M (hd J M) aw ay aW aX)=>b3.run (ps:=[.dW,.km]) (rs:=[.bool]) (x:=(J,M,())) (r:=((hd J M),())) ⟨89,eN,[XR,XN,E8]⟩ ⟨[],[(12,XX,XY)],[],[]⟩ (e1 [2,3,52,53] [(3,5),(2,5)] 54 aw ay fun a_=>(e1 [2,3,6,52,53,54,59,60] [(6,2),(3,5),(2,5)] 61 (aW a_) (aX a_) fun _=> .nil)) Try.func68 h) (cg M.aZ.length (fun j=>M.br.any (fun y=>(nth M.aZ j).bb==y.bb) || !(M.ai.contains (nth J.bh (nth M.aZ j).bb)))) (cn M.aZ.length) (fun v=>cg M.br.length (fun k=>(nth M.aZ v).bb==(nth M.br k).bb)) (fun v=>cn M.br.length) (by
 unfold MS MU MT
 refine⟨⟨fun _ _=>⟨aF,fun _=>⟨aF,fun _=>aF⟩⟩,fun aC h=> ?_⟩,fun⟨aC,h⟩ aI=> ?_⟩
 ·symm
  rw[←Bool.not_eq_true,nD]
  rintro⟨h1,h2,aS,bt,cb,cE,-⟩
  have aQ:M.ai.length≠0:=fun e=>h1 (List.eq_nil_of_length_eq_zero e)
  simp only[h2,aS,bt,cb,cE,Bool.not_true,Bool.or_false] at h
  simp at h
  exact h1 h
 ·simp only[Bool.not_eq_true',Bool.or_eq_false_iff,Bool.not_eq_false'] at h
  obtain⟨h1,h2,aS,bt,cb,cE⟩:=h
  have h1:M.ai≠[]:=fun e=>by rw[e] at h1;simp at h1
  have IE:=ml.1 cb
  have Sk:=ml.1 cE
  refine⟨cS (de _),fun v aM=>⟨fun hv=> ?_,fun hv=>⟨b8 aM hv,fun hf=>⟨cS (de _),fun k hK=>⟨fun hk=> ?_,fun hk=>⟨⟨b8 hK hk,fun he=> ?_⟩,fun he=>cq (ci hf) hK hk (not_eq he)⟩⟩⟩⟩⟩⟩
  ·have dZ:=ga aM hv
   have bp:((bq M).map (·.bb)).Nodup:=by
    rw[DJ]
    refine⟨IE.2.2,Sk.2.2,fun x hx y bA he=> ?_⟩
    have:=lD (q:=fun x=>M.br.any (fun y=>x.bb==y.bb) || !(M.ai.contains (nth J.bh x.bb))) dZ x hx
    simp only[Bool.or_eq_false_iff] at this
    have:=this.1
    rw[List.any_eq_false] at this
    exact this y bA (by simpa using he)
   have hc: ∀x∈M.aZ,M.ai.contains (nth J.bh x.bb)=true:=fun x hx=>by
    have:=lD (q:=fun x=>M.br.any (fun y=>x.bb==y.bb) || !(M.ai.contains (nth J.bh x.bb))) dZ x hx
    simp only[Bool.or_eq_false_iff] at this
    simpa using this.2
   rw[Vu,Bool.eq_iff_iff,nD]
   constructor
   ·intro hm;exact⟨h1,h2,aS,bt,cb,cE,bp,hc,by simpa using hm⟩
   ·rintro⟨-,-,-,-,-,-,-,-,hm⟩;rw[hm];rfl
  ·have b4:=IE.2.1 _ (dt (b8 aM hv).2)
   rw[Bool.and_eq_true,j_] at b4
   refine⟨⟨b4.1.1,by omega⟩,fun hm=> ?_,fun hm=> ?_⟩
   ·symm
    rw[←Bool.not_eq_true,nD]
    rintro⟨-,-,-,-,-,-,-,hc,-⟩
    rw[yU,hc _ (dt (b8 aM hv).2)] at hm
    cases hm
   ·refine cq (ci aI) aM hv ?_
    rw[yU] at hm
    rw[hm,Bool.or_false]
    have:=lD (q:=fun y:ch=>(nth M.aZ v).bb==y.bb) (ga hK hk)
    rw[List.any_eq_false]
    intro y bA
    rw[this y bA];simp
  ·symm
   rw[←Bool.not_eq_true,nD]
   rintro⟨-,-,-,-,-,-,bp,-,-⟩
   exact(DJ.1 bp).2.2 _ (dt (b8 aM hv).2) _ (dt (b8 hK hk).2) (by simpa using he))
def XW:ev Try.prog:=⟨68,[.dW,.km],[.bool],some fun x=>D0 x.1 x.2.1,fun x=>((hd x.1 x.2.1),()),fun x h=>XV x.1 x.2.1 h⟩
def Uu:List Item:=[au 0,au 1,au 2,au 3,au 4,au 5,au 6,au 7,au 8,au 9,au 10,au 11,au 12,au 13,au 14,au 15,au 16]
def Uv:List (List Nat):=[[],[],[1],[1,2],rg 0 4,rg 0 5,rg 0 6,rg 0 7,rg 0 6,rg 0 6++[8],rg 0 6,rg 0 6++[10],rg 0 6++rg 8 12,rg 0 6++rg 8 13,rg 0 14,rg 0 15,rg 0 16]
def JZ (J:aB) (M:Way) (ar:Bool) (aA:(List Int)) (fj:Int):Prop:=
  (((decide (fj<(M.aZ.length:Int)))=true→0≤((nth (bq M) fj).bb)∧((nth (bq M) fj).bb).toNat<J.bh.length)∧(((decide (fj<(M.aZ.length:Int)))&&(!(fb M.ai (nth J.bh ((nth (bq M) fj).bb)))))=true→false=ar))∧((!((decide (fj<(M.aZ.length:Int)))&&(!(fb M.ai (nth J.bh ((nth (bq M) fj).bb))))))=true→(aA.length+[(nth (bq M) fj).bb].length)*8≤140737488355328∧aA.length+[(nth (bq M) fj).bb].length≤4611686018427387904)
def J0 (J:aB) (M:Way) (ar:Bool) (aA:(List Int)) (fj:Int):Prop:=
  (((decide (((nth (bq M) fj).bb)<0)) || ((decide (((nth (bq M) fj).bb) ≥ (J.bh.length:Int))) || ((((nth (bq M) fj).bx) !=1)&&(((nth (bq M) fj).bx) !=2))))=true→false=ar)∧((!((decide (((nth (bq M) fj).bb)<0)) || ((decide (((nth (bq M) fj).bb) ≥ (J.bh.length:Int))) || ((((nth (bq M) fj).bx) !=1)&&(((nth (bq M) fj).bx) !=2)))))=true→JZ J M ar aA fj)
def J1 (aW:Int→Nat→(List Int)→Int→Prop) (aX:Int→Nat→(List Int)→Int→Nat) (J:aB) (M:Way) (ar:Bool) (fi:Int) (aR:Nat) (aA:(List Int)) (fj:Int):Prop:=
  ((0≤fj∧fj.toNat<(bq M).length)∧(J0 J M ar aA fj))∧(((!((decide (((nth (bq M) fj).bb)<0)) || ((decide (((nth (bq M) fj).bb) ≥ (J.bh.length:Int))) || ((((nth (bq M) fj).bx) !=1)&&(((nth (bq M) fj).bx) !=2)))))&&(!((decide (fj<(M.aZ.length:Int)))&&(!(fb M.ai (nth J.bh ((nth (bq M) fj).bb)))))))=true→aW fi (aR+1) (aA++[(nth (bq M) fj).bb]) (IntKind.i64.wrap (fj+1))∧aX fi (aR+1) (aA++[(nth (bq M) fj).bb]) (IntKind.i64.wrap (fj+1))<aX fi aR aA fj)
def J2 (aW:Int→Nat→(List Int)→Int→Prop) (aX:Int→Nat→(List Int)→Int→Nat) (J:aB) (M:Way) (ar:Bool) (fi:Int):Prop:=
  (uE M)∧((bq M).length≤4611686018427387904→aW fi 0 ([]:List Int) 0∧ ∀(aR:Nat) (aA:(List Int)) (fj:Int),aW fi aR aA fj→(((decide (fj<((bq M).length:Int)))=false→(aA.length≤4611686018427387904)∧(((!(dup aA))&&(!(meets M.ai M.cw)))=ar))∧((decide (fj<((bq M).length:Int)))=true→J1 aW aX J M ar fi aR aA fj)))
def J3 (bG:Int→Int→Prop) (bE:Int→Int→Nat) (J:aB) (M:Way) (ar:Bool) (gj fi:Int):Prop:=
  ((0≤gj∧gj.toNat<(nth [M.ai,M.cw,M.ct] fi).length)∧(((decide ((nth (nth [M.ai,M.cw,M.ct] fi) gj)<0)) || (decide ((nth (nth [M.ai,M.cw,M.ct] fi) gj) ≥ J.ai)))=true→false=ar))∧((!((decide ((nth (nth [M.ai,M.cw,M.ct] fi) gj)<0)) || (decide ((nth (nth [M.ai,M.cw,M.ct] fi) gj) ≥ J.ai))))=true→bG fi (IntKind.i64.wrap (gj+1))∧bE fi (IntKind.i64.wrap (gj+1))<bE fi gj)
def J4 (aw:Int→Prop) (ay:Int→Nat) (bG:Int→Int→Prop) (bE:Int→Int→Nat) (J:aB) (M:Way) (ar:Bool) (fi:Int):Prop:=
  ((nth [M.ai,M.cw,M.ct] fi).length≤4611686018427387904→((decide (((nth [M.ai,M.cw,M.ct] fi).length:Int)>30)) || (dup (nth [M.ai,M.cw,M.ct] fi)))=true→false=ar)∧(((nth [M.ai,M.cw,M.ct] fi).length≤4611686018427387904)∧((!((decide (((nth [M.ai,M.cw,M.ct] fi).length:Int)>30)) || (dup (nth [M.ai,M.cw,M.ct] fi))))=true)→bG fi 0∧ ∀(gj:Int),bG fi gj→(((decide (gj<((nth [M.ai,M.cw,M.ct] fi).length:Int)))=false→aw (IntKind.i64.wrap (fi+1))∧ay (IntKind.i64.wrap (fi+1))<ay fi)∧((decide (gj<((nth [M.ai,M.cw,M.ct] fi).length:Int)))=true→J3 bG bE J M ar gj fi)))
def J5 (aw:Int→Prop) (ay:Int→Nat) (aW:Int→Nat→(List Int)→Int→Prop) (aX:Int→Nat→(List Int)→Int→Nat) (bG:Int→Int→Prop) (bE:Int→Int→Nat) (J:aB) (M:Way) (ar:Bool):Prop:=
  (M.ai.length≤4611686018427387904→(((M.ai.length:Int)==0) || ((decide ((M.aZ.length:Int)>30)) || (decide ((M.br.length:Int)>30))))=true→false=ar)∧((M.ai.length≤4611686018427387904)∧((!(((M.ai.length:Int)==0) || ((decide ((M.aZ.length:Int)>30)) || (decide ((M.br.length:Int)>30)))))=true)→[M.ai,M.cw,M.ct].length≤4611686018427387904→aw 0∧ ∀(fi:Int),aw fi→(((decide (fi<([M.ai,M.cw,M.ct].length:Int)))=false→J2 aW aX J M ar fi)∧((decide (fi<([M.ai,M.cw,M.ct].length:Int)))=true→(0≤fi∧fi.toNat<[M.ai,M.cw,M.ct].length)∧(J4 aw ay bG bE J M ar fi))))
def JY (J:aB) (M:Way) (ar:Bool) (aw:Int→Prop) (ay:Int→Nat) (aW:Int→Nat→(List Int)→Int→Prop) (aX:Int→Nat→(List Int)→Int→Nat) (bG:Int→Int→Prop) (bE:Int→Int→Nat):Prop:=
 J5 aw ay aW aX bG bE J M ar
theorem Us (J:aB) (M:Way):b3 Try.prog 73 [.agg (a8 false J),.agg (c9 false M)] (ah (hd J M)):=(fun(aw:Int→Prop) (ay:Int→Nat) (aW:Int→Nat→(List Int)→Int→Prop) (aX:Int→Nat→(List Int)→Int→Nat) (bG:Int→Int→Prop) (bE:Int→Int→Nat) (h:JY J M (hd J M) aw ay aW aX bG bE)=>b3.run (ps:=[.dW,.km]) (rs:=[.bool]) (x:=(J,M,())) (r:=((hd J M),())) ⟨126,eN,[CJ,Up,CH,zy]⟩ ⟨[48],[(21,Uu,Uv)],[],[]⟩ (e1 [2,3,34,35] [(3,5),(2,5)] 36 aw ay fun a_=>(.td (.lp [(0,9,.int)] [2,3,64,65] [(3,5),(2,5)] [.nat,(.l .int),.int] [bY 0,bY 0,66] (fun b_=>[(9,.ref 0 b_.1 b_.2.1.length false),(66,.i .i64 b_.2.2.1),(bY 0,.blk b_.1 .int b_.2.1 _ rfl)]) (fun b_=>aW a_ b_.1 b_.2.1 b_.2.2.1) (fun b_=>aX a_ b_.1 b_.2.1 b_.2.2.1) fun _=> .nil) (e1 [2,3,34,35,36,47,48] [(3,5),(2,5)] 49 (bG a_) (bE a_) fun _=> .nil))) Try.func73 h) (cg ([M.ai,M.cw,M.ct].length:Int) (fun k=> !gI (nth [M.ai,M.cw,M.ct] k) J.ai)) (cn ([M.ai,M.cw,M.ct].length:Int)) (fun _ _ x v=>cg (bq M).length (n_ J M) v∧x=((bq M).take v.toNat).map (·.bb)) (fun _ _ _ v=>cn (bq M).length v) (fun i=>cg (nth [M.ai,M.cw,M.ct] i).length (fun j=> !b1 (nth (nth [M.ai,M.cw,M.ct] i) j) 0 (J.ai - 1))) (fun i=>cn (nth [M.ai,M.cw,M.ct] i).length) (by
 unfold JY J5
 have hlen:M.aZ.length≤30→M.br.length≤30→(bq M).length≤60:=by unfold bq;rw[List.length_append];omega
 refine⟨fun aC h=> ?_,fun⟨aC,h⟩ bT=> ?_⟩
 ·symm
  rw[←Bool.not_eq_true,nD]
  rintro⟨h1,-,-,-,cb,cE,-⟩
  have:=(ml.1 cb).1
  have:=(ml.1 cE).1
  simp at h
  rcases h with h | h | h
  ·exact h1 h
  ·omega
  ·omega
 ·simp at h
  obtain⟨h1,h2,aS⟩:=h
  have h2:M.aZ.length≤30:=by omega
  have aS:M.br.length≤30:=by omega
  have ZN:=hlen h2 aS
  refine⟨cS (de _),fun i aM=>⟨fun hi=> ?_,fun hi=>⟨b8 aM hi,?_⟩⟩⟩
  ·have dZ: ∀l∈[M.ai,M.cw,M.ct],gI l J.ai=true:=fun l aI=>by
    have:=lD (q:=fun l=> !gI l J.ai) (ga aM hi) l aI
    simpa using this
   unfold J2
   refine⟨⟨by omega,by omega⟩,fun gY=>⟨⟨cS (de _),rfl⟩,fun g x v ⟨cu,hx⟩=>⟨fun hv=> ?_,fun hv=> ?_⟩⟩⟩
   ·have jp: ¬v<((bq M).length:Int):=by simpa using hv
    rw[List.take_of_length_le (by have:=cu.1;omega)] at hx
    subst hx
    exact⟨by rw[List.length_map];omega,Rd h1 dZ h2 aS (ga cu hv)⟩
   ·have b4:=b8 cu hv
    have oQ:x.length≤60:=by rw[hx,List.length_map,List.length_take];omega
    have bad:n_ J M v=true→false=hd J M:=fun hb=>by
     symm
     rw[←Bool.not_eq_true]
     intro aO
     rw[Rf aO b4.1 b4.2] at hb
     cases hb
    unfold J1 J0 JZ
    rw[U8]
    refine⟨⟨b4,fun hb=>bad (by unfold n_;rw[hb];rfl),fun hb=>⟨⟨fun aI=> ?_,fun hc=>bad (by unfold n_;rw[hc,Bool.or_true])⟩,fun _=> ?_⟩⟩,fun hb=> ?_⟩
    ·have hb:nn J (nth (bq M) v)=false:=not_eq hb
     rw[wh] at hb
     simp only[Bool.not_eq_false',Bool.and_eq_true,j_] at hb
     exact⟨hb.1.1,by omega⟩
    ·simp only[List.length_cons,List.length_nil];omega
    ·have hb:n_ J M v=false:=by
      unfold n_
      rw[Bool.and_eq_true] at hb
      rw[not_eq hb.1,not_eq hb.2];rfl
     have bd:=cq (ci gY) cu hv hb
     have hw:IntKind.i64.wrap (v+1)=v+1:=gb (by omega) (by omega)
     refine⟨⟨bd.1,?_⟩,bd.2⟩
     rw[hw,hx,show(v+1).toNat=v.toNat+1 by omega,List.take_succ_eq_append_getElem b4.2,List.map_append,←fv b4.2]
     rfl
  ·have vR:=b8 aM hi
   have GH:gI (nth [M.ai,M.cw,M.ct] i) J.ai=false→false=hd J M:=fun hb=>by
    symm
    rw[←Bool.not_eq_true]
    intro aO
    rw[Re aO _ (dt vR.2)] at hb
    cases hb
   unfold J4 J3
   refine⟨fun aC h=>GH ?_,fun⟨aC,h⟩=>⟨cS (de _),fun v ln=>⟨fun hv=> ?_,fun hv=> ?_⟩⟩⟩
   ·rw[←Bool.not_eq_true,si]
    rintro⟨q1,-,q3⟩
    simp only[Bool.or_eq_true,decide_eq_true_eq] at h
    rcases h with h | h
    ·omega
    ·unfold dup at h;simp[q3] at h
   ·refine cq (by simp) aM hi ?_
    simp only[Bool.not_eq_true',Bool.or_eq_false_iff,decide_eq_false_iff_not] at h
    have bp:(nth [M.ai,M.cw,M.ct] i).Nodup:=by have:=h.2;unfold dup at this;simpa using this
    have:gI (nth [M.ai,M.cw,M.ct] i) J.ai=true:=by
     rw[si]
     refine⟨by omega,fun x hx=> ?_,bp⟩
     have:=lD (q:=fun x=> !b1 x 0 (J.ai - 1)) (ga ln hv) x hx
     simpa using this
    rw[this];rfl
   ·rw[Eg]
    exact⟨⟨b8 ln hv,fun h=>GH (KA (b8 ln hv).2 h)⟩,fun h=>cq (ci aC) ln hv (not_eq h)⟩)
def Ut:ev Try.prog:=⟨73,[.dW,.km],[.bool],none,fun x=>((hd x.1 x.2.1),()),fun x h=>Us x.1 x.2.1⟩
def Tp:List Item:=[au 0,au 1,au 2,au 3,au 4,au 5,au 6,au 7,au 8,au 9,au 10,au 11,au 12,au 13,au 14,au 15,au 16,au 17,au 18,au 19,au 20,au 21,au 22,au 23,au 24,au 25,au 26,au 27,au 28,au 29,au 30,au 31,au 32,au 33,au 34,au 35,au 36,au 37,au 38,au 39,au 40,au 41,au 42,au 43,au 44,au 45,au 46,au 47]
def Tq:List (List Nat):=[[],[0],[],[0,1,2],rg 0 4,[],rg 0 6,rg 0 7,[],[8],[],[8,9,10],rg 8 12,[],rg 8 14,rg 8 15,rg 0 16,rg 0 17,rg 0 18,rg 0 18,rg 0 20,rg 0 21,rg 0 22,rg 0 23,rg 0 22,rg 0 25,rg 0 26,rg 0 22,rg 0 28,rg 0 29,rg 0 30,rg 0 31,rg 0 32,rg 0 33,rg 0 34,rg 0 33,rg 0 36,rg 0 37,rg 0 38,rg 0 33,rg 0 33++[39],rg 0 33,rg 0 33++[39,40,41],rg 0 33++rg 39 43,rg 0 33++rg 39 44,rg 0 45,rg 0 46,rg 0 47]
def Ja (J:aB) (ar:ij) (gA e_:Int):Prop:=
  ((0≤e_∧e_.toNat<J.bars.length)∧((0≤gA∧gA.toNat<(nth J.bars e_).length)∧((0≤gA∧gA.toNat<J.bars.length)∧((0≤e_∧e_.toNat<(nth J.bars gA).length)∧(((nth (nth J.bars e_) gA) !=(nth (nth J.bars gA) e_))=false→(e_ !=gA)=true→(0≤e_∧e_.toNat<J.bars.length)∧((0≤gA∧gA.toNat<(nth J.bars e_).length)∧((!(nth (nth J.bars e_) gA))=true→(0≤e_∧e_.toNat<J.ways.length)∧(0≤gA∧gA.toNat<J.ways.length))))))))∧((((nth (nth J.bars e_) gA) !=(nth (nth J.bars gA) e_)) || ((e_ !=gA)&&((!(nth (nth J.bars e_) gA))&&(meets ((nth J.ways e_).ai) ((nth J.ways gA).ai)))))=true→(5=ar.code)∧(e_=ar.pos))
def Jb (cF:Int→Int→Int→Int→Prop) (cI:Int→Int→Int→Int→Nat) (dL:Int→Int→Int→Int→Int→Prop) (dO:Int→Int→Int→Int→Int→Nat) (J:aB) (ar:ij) (dJ gk ha gA e_:Int):Prop:=
  ((decide (gA<(J.ways.length:Int)))=false→cF dJ gk ha (IntKind.i64.wrap (e_+1))∧cI dJ gk ha (IntKind.i64.wrap (e_+1))<cI dJ gk ha e_)∧((decide (gA<(J.ways.length:Int)))=true→(Ja J ar gA e_)∧((!(((nth (nth J.bars e_) gA) !=(nth (nth J.bars gA) e_)) || ((e_ !=gA)&&((!(nth (nth J.bars e_) gA))&&(meets ((nth J.ways e_).ai) ((nth J.ways gA).ai))))))=true→dL dJ gk ha e_ (IntKind.i64.wrap (gA+1))∧dO dJ gk ha e_ (IntKind.i64.wrap (gA+1))<dO dJ gk ha e_ gA))
def Jc (bG:Int→Int→Int→Prop) (bE:Int→Int→Int→Nat) (J:aB) (ar:ij) (dJ gk ha:Int):Prop:=
  ((0≤ha∧ha.toNat<J.bars.length)∧((nth J.bars ha).length≤4611686018427387904→(((nth J.bars ha).length:Int) !=(J.ways.length:Int))=true→(4=ar.code)∧(ha=ar.pos)))∧(((nth J.bars ha).length≤4611686018427387904)∧((!(((nth J.bars ha).length:Int) !=(J.ways.length:Int)))=true)→bG dJ gk (IntKind.i64.wrap (ha+1))∧bE dJ gk (IntKind.i64.wrap (ha+1))<bE dJ gk ha)
def Jd (bG:Int→Int→Int→Prop) (bE:Int→Int→Int→Nat) (cF:Int→Int→Int→Int→Prop) (cI:Int→Int→Int→Int→Nat) (dL:Int→Int→Int→Int→Int→Prop) (dO:Int→Int→Int→Int→Int→Nat) (J:aB) (ar:ij) (dJ gk ha:Int):Prop:=
  ((decide (ha<(J.bars.length:Int)))=false→cF dJ gk ha 0∧ ∀(e_:Int),cF dJ gk ha e_→(((decide (e_<(J.ways.length:Int)))=false→(0=ar.code)∧(0=ar.pos))∧((decide (e_<(J.ways.length:Int)))=true→dL dJ gk ha e_ 0∧ ∀(gA:Int),dL dJ gk ha e_ gA→(Jb cF cI dL dO J ar dJ gk ha gA e_))))∧((decide (ha<(J.bars.length:Int)))=true→Jc bG bE J ar dJ gk ha)
def Je (aW:Int→Int→Prop) (aX:Int→Int→Nat) (bG:Int→Int→Int→Prop) (bE:Int→Int→Int→Nat) (cF:Int→Int→Int→Int→Prop) (cI:Int→Int→Int→Int→Nat) (dL:Int→Int→Int→Int→Int→Prop) (dO:Int→Int→Int→Int→Int→Nat) (J:aB) (ar:ij) (dJ gk:Int):Prop:=
  ((decide (gk<(J.ways.length:Int)))=false→(J.bars.length≤4611686018427387904→((J.bars.length:Int) !=(J.ways.length:Int))=true→(4=ar.code)∧(0=ar.pos))∧((J.bars.length≤4611686018427387904)∧((!((J.bars.length:Int) !=(J.ways.length:Int)))=true)→bG dJ gk 0∧ ∀(ha:Int),bG dJ gk ha→(Jd bG bE cF cI dL dO J ar dJ gk ha)))∧((decide (gk<(J.ways.length:Int)))=true→((0≤gk∧gk.toNat<J.ways.length)∧((!(hd J (nth J.ways gk)))=true→(3=ar.code)∧(gk=ar.pos)))∧((!(!(hd J (nth J.ways gk))))=true→aW dJ (IntKind.i64.wrap (gk+1))∧aX dJ (IntKind.i64.wrap (gk+1))<aX dJ gk))
def Jf (aw:Int→Prop) (ay:Int→Nat) (aW:Int→Int→Prop) (aX:Int→Int→Nat) (bG:Int→Int→Int→Prop) (bE:Int→Int→Int→Nat) (cF:Int→Int→Int→Int→Prop) (cI:Int→Int→Int→Int→Nat) (dL:Int→Int→Int→Int→Int→Prop) (dO:Int→Int→Int→Int→Int→Nat) (J:aB) (ar:ij) (dJ:Int):Prop:=
  ((decide (dJ<(J.bh.length:Int)))=false→J.ways.length≤4611686018427387904→aW dJ 0∧ ∀(gk:Int),aW dJ gk→(Je aW aX bG bE cF cI dL dO J ar dJ gk))∧((decide (dJ<(J.bh.length:Int)))=true→((0≤dJ∧dJ.toNat<J.bh.length)∧(((decide ((nth J.bh dJ)<0)) || (decide ((nth J.bh dJ) ≥ J.ai)))=true→(2=ar.code)∧(dJ=ar.pos)))∧((!((decide ((nth J.bh dJ)<0)) || (decide ((nth J.bh dJ) ≥ J.ai))))=true→aw (IntKind.i64.wrap (dJ+1))∧ay (IntKind.i64.wrap (dJ+1))<ay dJ))
def Jg (aw:Int→Prop) (ay:Int→Nat) (aW:Int→Int→Prop) (aX:Int→Int→Nat) (bG:Int→Int→Int→Prop) (bE:Int→Int→Int→Nat) (cF:Int→Int→Int→Int→Prop) (cI:Int→Int→Int→Int→Nat) (dL:Int→Int→Int→Int→Int→Prop) (dO:Int→Int→Int→Int→Int→Nat) (J:aB) (ar:ij):Prop:=
  (((decide (J.ai<1)) || ((decide (J.ai>60)) || ((decide (J.hold<1)) || ((decide (J.hold>300)) || ((decide ((J.bh.length:Int)>40)) || (decide ((J.ways.length:Int)>100)))))))=true→(1=ar.code)∧(0=ar.pos))∧((!((decide (J.ai<1)) || ((decide (J.ai>60)) || ((decide (J.hold<1)) || ((decide (J.hold>300)) || ((decide ((J.bh.length:Int)>40)) || (decide ((J.ways.length:Int)>100))))))))=true→J.bh.length≤4611686018427387904→aw 0∧ ∀(dJ:Int),aw dJ→(Jf aw ay aW aX bG bE cF cI dL dO J ar dJ))
def I_ (J:aB) (ar:ij) (aw:Int→Prop) (ay:Int→Nat) (aW:Int→Int→Prop) (aX:Int→Int→Nat) (bG:Int→Int→Int→Prop) (bE:Int→Int→Int→Nat) (cF:Int→Int→Int→Int→Prop) (cI:Int→Int→Int→Int→Nat) (dL:Int→Int→Int→Int→Int→Prop) (dO:Int→Int→Int→Int→Int→Nat):Prop:=
 Jg aw ay aW aX bG bE cF cI dL dO J ar
theorem Tn (J:aB):b3 Try.prog 26 [.agg (a8 false J)] (.agg (AM (g5 J))):=(fun(aw:Int→Prop) (ay:Int→Nat) (aW:Int→Int→Prop) (aX:Int→Int→Nat) (bG:Int→Int→Int→Prop) (bE:Int→Int→Int→Nat) (cF:Int→Int→Int→Int→Prop) (cI:Int→Int→Int→Int→Nat) (dL:Int→Int→Int→Int→Int→Prop) (dO:Int→Int→Int→Int→Int→Nat) (h:I_ J (g5 J) aw ay aW aX bG bE cF cI dL dO)=>b3.run (ps:=[.dW]) (rs:=[.fault]) (x:=(J,())) (r:=((g5 J),())) ⟨166,eN,[CH,Ut]⟩ ⟨[81,86,96,103,109],[(29,Tp,Tq)],[],[]⟩ (e1 [1,2,43,44] [(2,2),(1,5)] 45 aw ay fun a_=>(e1 [1,2,62,63] [(2,2),(1,5)] 64 (aW a_) (aX a_) fun b_=>(e1 [1,2,85,86] [(2,2),(1,5)] 87 (bG a_ b_) (bE a_ b_) fun cR=>(e1 [1,2,103] [(2,2),(1,5)] 104 (cF a_ b_ cR) (cI a_ b_ cR) fun e7=>(e1 [1,2,9,103,104,109] [(2,2),(1,5)] 110 (dL a_ b_ cR e7) (dO a_ b_ cR e7) fun _=> .nil))))) Try.func26 h) (cg J.bh.length (fun j=> !b1 (nth J.bh j) 0 (J.ai - 1))) (cn J.bh.length) (fun _=>cg J.ways.length (fun j=> !hd J (nth J.ways j))) (fun _=>cn J.ways.length) (fun _ _=>cg J.bars.length (fun j=>decide ((nth J.bars j).length≠J.ways.length))) (fun _ _=>cn J.bars.length) (fun _ _ _=>cg J.ways.length (fun i=>(List.range J.ways.length).any fun k=>nI J i.toNat k)) (fun _ _ _=>cn J.ways.length) (fun _ _ _ i=>cg J.ways.length (fun k=>nI J i.toNat k.toNat)) (fun _ _ _ _=>cn J.ways.length) (by
 unfold I_ Jg
 refine⟨fun h=> ?_,fun h mg=> ?_⟩
 ·have hb:kc J=false:=by
   rw[←Bool.not_eq_true,qZ]
   intro hb
   simp[kc] at h
   omega
  rw[DW hb];exact⟨rfl,rfl⟩
 ·have hb:kc J=true:=by
   rw[qZ]
   simp[kc] at h
   omega
  have eO:=qZ.1 hb
  refine⟨cS (de _),fun g9 nR=> ?_⟩
  unfold Jf
  refine⟨fun jf yv=> ?_,fun fA=> ?_⟩
  case refine_2=>
   rw[Eg]
   refine⟨⟨b8 nR fA,fun lN=> ?_⟩,fun fq=>cq (ci mg) nR fA (not_eq fq)⟩
   rw[Lk hb (pg (q:=fun s=> !b1 s 0 (J.ai - 1)) nR fA lN)]
   have:=nR.1
   exact⟨rfl,by show g9=(g9.toNat:Int);omega⟩
  have f0:=ph (q:=fun s=> !b1 s 0 (J.ai - 1)) nR jf
  refine⟨cS (de _),fun v1 nS=> ?_⟩
  unfold Je
  refine⟨fun bF=> ?_,fun lr=> ?_⟩
  case refine_2=>
   refine⟨⟨b8 nS lr,  fun lN=> ?_⟩,fun fq=>cq (ci yv) nS lr (not_eq fq)⟩
   rw[Ll hb f0 (pg (q:=fun w=> !hd J w) nS lr lN)]
   have:=nS.1
   exact⟨rfl,by show v1=(v1.toNat:Int);omega⟩
  have f1:=ph (q:=fun w=> !hd J w) nS bF
  rw[Lm hb f0 f1]
  refine⟨fun hm cO=> ?_,fun⟨hm,cO⟩=> ?_⟩
  ·have cO:J.bars.length≠J.ways.length:=by
    intro e;rw[e] at cO;simp at cO
   rw[Lj cO];exact⟨rfl,rfl⟩
  have aI:J.bars.length=J.ways.length:=by
   have:(J.bars.length:Int)=J.ways.length:=by simpa using cO
   omega
  refine⟨cS (de _),fun v2 mO=> ?_⟩
  unfold Jd
  refine⟨fun e2=> ?_,fun hv2=> ?_⟩
  case refine_2=>
   have ng:(((nth J.bars v2).length:Int) !=(J.ways.length:Int))=decide ((nth J.bars v2).length≠J.ways.length):=by
    rw[Bool.eq_iff_iff];simp;omega
   unfold Jc
   rw[ng]
   refine⟨⟨b8 mO hv2,fun aJ lN=> ?_⟩,fun⟨aJ,fq⟩=>cq (ci hm) mO hv2 (not_eq fq)⟩
   rw[Lh aI (pg (q:=fun b=>decide (b.length≠J.ways.length)) mO hv2 lN)]
   have:=mO.1
   exact⟨rfl,by show v2=(v2.toNat:Int);omega⟩
  have f2:=ph (q:=fun b:List Bool=>decide (b.length≠J.ways.length)) mO e2
  have wR: ∀i:Int,0≤i→i<J.ways.length→(nth J.bars i).length=J.ways.length:=fun i i0 i1=>by
   have:=ga mO e2 i i0 (by omega)
   simpa using this
  refine⟨cS (de _),fun m4 mP=>⟨fun dN=> ?_,fun yC=> ?_⟩⟩
  ·skip
   rw[Lg aI f2 (HL fun j cr eQ=>ga mP dN j cr eQ)]
   exact⟨rfl,rfl⟩
  ·have tZ:m4<(J.ways.length:Int):=by simpa using yC
   have nf:=mP.1
   refine⟨cS (de _),fun v4 nT=> ?_⟩
   unfold Jb Ja
   rw[GJ mP.1 nT.1]
   have oD:=nT.1
   refine⟨fun h0=>cq (by omega) mP yC (KO fun j cr eQ=>ga nT h0 j cr eQ),fun v9=> ?_⟩
   have v_:v4<(J.ways.length:Int):=by simpa using v9
   have fg:=wR m4 mP.1 tZ
   have sD:=wR v4 nT.1 v_
   refine⟨⟨⟨⟨nf,by omega⟩,⟨oD,by omega⟩,⟨oD,by omega⟩,⟨nf,by omega⟩,fun _ _=>⟨⟨nf,by omega⟩,⟨oD,by omega⟩,fun _=>⟨⟨nf,by omega⟩,⟨oD,by omega⟩⟩⟩⟩,fun lN=> ?_⟩,fun fq=>cq (by omega) nT v9 (not_eq fq)⟩
   rw[Li aI f2 (HM nf tZ (fun j cr eQ=>mP.2.2 j cr eQ) (GB oD v_ lN))]
   exact⟨rfl,by show m4=(m4.toNat:Int);omega⟩)
def To:ev Try.prog:=⟨26,[.dW],[.fault],none,fun x=>((g5 x.1),()),fun x h=>Tn x.1⟩
end Go.Proofs.Ytglpfccgmfhkdaa.Fw
/- Walks and summaries of functions, printed by a program of mine (tools/mk2.py), with the proofs of what they owe. -/
set_option linter.unusedVariables false
set_option maxRecDepth 100000
set_option maxHeartbeats 4000000
set_option linter.unusedSimpArgs false
namespace Go.Proofs.Ytglpfccgmfhkdaa.Fw
open Go
attribute [local irreducible] evS evSD WpS Weak Oper.looksAt
def XI:List Item:=[au 0,au 1,au 2,au 3,au 4,au 5,au 6,au 7,au 8,au 9,au 10,au 11,au 12,au 13,au 14,au 15,au 16,au 17,au 18,au 19,au 20,au 21,au 22,au 23,au 24,au 25,au 26,au 27,au 28,au 29,au 30,au 31,au 32,au 33]
def XJ:List (List Nat):=[[],[],[1],[],[1,2,3],rg 1 5,[],rg 1 7,rg 1 8,rg 0 9,rg 0 10,rg 0 11,rg 0 11,rg 0 13,rg 0 14,rg 0 15,rg 0 16,rg 0 17,rg 0 18,rg 0 19,rg 0 20,rg 0 19,rg 0 22,rg 0 23,rg 0 24,rg 0 19,rg 0 19++[25],rg 0 19,rg 0 19++[25,26,27],rg 0 19++rg 25 29,rg 0 19++rg 25 30,rg 0 31,rg 0 32,rg 0 33]
def My (J:aB) (ar:ij) (gL e5:Int):Prop:=
  ((0≤gL∧gL.toNat<J.bars.length)∧((0≤e5∧e5.toNat<(nth J.bars gL).length)∧(((nth (nth J.bars e5) gL) !=(nth (nth J.bars gL) e5))=false→(e5 !=gL)=true→(!(nth (nth J.bars e5) gL))=true→(0≤e5∧e5.toNat<J.ways.length)∧(0≤gL∧gL.toNat<J.ways.length))))∧((((nth (nth J.bars e5) gL) !=(nth (nth J.bars gL) e5)) || ((e5 !=gL)&&((!(nth (nth J.bars e5) gL))&&(meets ((nth J.ways e5).ai) ((nth J.ways gL).ai)))))=true→(5=ar.code)∧(e5=ar.pos))
def Mz (dL:Int→Int→Int→Int→Int→Prop) (dO:Int→Int→Int→Int→Int→Nat) (J:aB) (ar:ij) (eW fJ gM gL e5:Int):Prop:=
  ((0≤gL∧gL.toNat<(nth J.bars e5).length)∧(My J ar gL e5))∧((!(((nth (nth J.bars e5) gL) !=(nth (nth J.bars gL) e5)) || ((e5 !=gL)&&((!(nth (nth J.bars e5) gL))&&(meets ((nth J.ways e5).ai) ((nth J.ways gL).ai))))))=true→dL eW fJ gM e5 (IntKind.i64.wrap (gL+1))∧dO eW fJ gM e5 (IntKind.i64.wrap (gL+1))<dO eW fJ gM e5 gL)
def MA (cF:Int→Int→Int→Int→Prop) (cI:Int→Int→Int→Int→Nat) (dL:Int→Int→Int→Int→Int→Prop) (dO:Int→Int→Int→Int→Int→Nat) (J:aB) (ar:ij) (eW fJ gM e5:Int):Prop:=
  (nth J.bars e5).length≤4611686018427387904→dL eW fJ gM e5 0∧ ∀(gL:Int),dL eW fJ gM e5 gL→(((decide (gL<((nth J.bars e5).length:Int)))=false→cF eW fJ gM (IntKind.i64.wrap (e5+1))∧cI eW fJ gM (IntKind.i64.wrap (e5+1))<cI eW fJ gM e5)∧((decide (gL<((nth J.bars e5).length:Int)))=true→Mz dL dO J ar eW fJ gM gL e5))
def MB (bG:Int→Int→Int→Prop) (bE:Int→Int→Int→Nat) (J:aB) (ar:ij) (eW fJ gM:Int):Prop:=
  ((0≤gM∧gM.toNat<J.bars.length)∧((nth J.bars gM).length≤4611686018427387904→(((nth J.bars gM).length:Int) !=(J.ways.length:Int))=true→(4=ar.code)∧(gM=ar.pos)))∧(((nth J.bars gM).length≤4611686018427387904)∧((!(((nth J.bars gM).length:Int) !=(J.ways.length:Int)))=true)→bG eW fJ (IntKind.i64.wrap (gM+1))∧bE eW fJ (IntKind.i64.wrap (gM+1))<bE eW fJ gM)
def MC (bG:Int→Int→Int→Prop) (bE:Int→Int→Int→Nat) (cF:Int→Int→Int→Int→Prop) (cI:Int→Int→Int→Int→Nat) (dL:Int→Int→Int→Int→Int→Prop) (dO:Int→Int→Int→Int→Int→Nat) (J:aB) (ar:ij) (eW fJ gM:Int):Prop:=
  ((decide (gM<(J.bars.length:Int)))=false→cF eW fJ gM 0∧ ∀(e5:Int),cF eW fJ gM e5→(((decide (e5<(J.bars.length:Int)))=false→(0=ar.code)∧(0=ar.pos))∧((decide (e5<(J.bars.length:Int)))=true→(0≤e5∧e5.toNat<J.bars.length)∧(MA cF cI dL dO J ar eW fJ gM e5))))∧((decide (gM<(J.bars.length:Int)))=true→MB bG bE J ar eW fJ gM)
def MD (aW:Int→Int→Prop) (aX:Int→Int→Nat) (bG:Int→Int→Int→Prop) (bE:Int→Int→Int→Nat) (cF:Int→Int→Int→Int→Prop) (cI:Int→Int→Int→Int→Nat) (dL:Int→Int→Int→Int→Int→Prop) (dO:Int→Int→Int→Int→Int→Nat) (J:aB) (ar:ij) (eW fJ:Int):Prop:=
  ((decide (fJ<(J.ways.length:Int)))=false→(J.bars.length≤4611686018427387904→((J.bars.length:Int) !=(J.ways.length:Int))=true→(4=ar.code)∧(0=ar.pos))∧((J.bars.length≤4611686018427387904)∧((!((J.bars.length:Int) !=(J.ways.length:Int)))=true)→bG eW fJ 0∧ ∀(gM:Int),bG eW fJ gM→(MC bG bE cF cI dL dO J ar eW fJ gM)))∧((decide (fJ<(J.ways.length:Int)))=true→((0≤fJ∧fJ.toNat<J.ways.length)∧((D0 J (nth J.ways fJ))∧((!(hd J (nth J.ways fJ)))=true→(3=ar.code)∧(fJ=ar.pos))))∧((!(!(hd J (nth J.ways fJ))))=true→aW eW (IntKind.i64.wrap (fJ+1))∧aX eW (IntKind.i64.wrap (fJ+1))<aX eW fJ))
def ME (aw:Int→Prop) (ay:Int→Nat) (aW:Int→Int→Prop) (aX:Int→Int→Nat) (bG:Int→Int→Int→Prop) (bE:Int→Int→Int→Nat) (cF:Int→Int→Int→Int→Prop) (cI:Int→Int→Int→Int→Nat) (dL:Int→Int→Int→Int→Int→Prop) (dO:Int→Int→Int→Int→Int→Nat) (J:aB) (ar:ij) (eW:Int):Prop:=
  ((decide (eW<(J.bh.length:Int)))=false→J.ways.length≤4611686018427387904→aW eW 0∧ ∀(fJ:Int),aW eW fJ→(MD aW aX bG bE cF cI dL dO J ar eW fJ))∧((decide (eW<(J.bh.length:Int)))=true→((0≤eW∧eW.toNat<J.bh.length)∧((!(b1 (nth J.bh eW) 0 (IntKind.i64.wrap (J.ai - 1))))=true→(2=ar.code)∧(eW=ar.pos)))∧((!(!(b1 (nth J.bh eW) 0 (IntKind.i64.wrap (J.ai - 1)))))=true→aw (IntKind.i64.wrap (eW+1))∧ay (IntKind.i64.wrap (eW+1))<ay eW))
def MF (aw:Int→Prop) (ay:Int→Nat) (aW:Int→Int→Prop) (aX:Int→Int→Nat) (bG:Int→Int→Int→Prop) (bE:Int→Int→Int→Nat) (cF:Int→Int→Int→Int→Prop) (cI:Int→Int→Int→Int→Nat) (dL:Int→Int→Int→Int→Int→Prop) (dO:Int→Int→Int→Int→Int→Nat) (J:aB) (ar:ij):Prop:=
  (((!(b1 J.ai 1 60)) || ((decide ((J.bh.length:Int)>40)) || ((decide ((J.ways.length:Int)>100)) || (!(b1 J.hold 1 300)))))=true→(1=ar.code)∧(0=ar.pos))∧((!((!(b1 J.ai 1 60)) || ((decide ((J.bh.length:Int)>40)) || ((decide ((J.ways.length:Int)>100)) || (!(b1 J.hold 1 300))))))=true→J.bh.length≤4611686018427387904→aw 0∧ ∀(eW:Int),aw eW→(ME aw ay aW aX bG bE cF cI dL dO J ar eW))
def Mx (J:aB) (ar:ij) (aw:Int→Prop) (ay:Int→Nat) (aW:Int→Int→Prop) (aX:Int→Int→Nat) (bG:Int→Int→Int→Prop) (bE:Int→Int→Int→Nat) (cF:Int→Int→Int→Int→Prop) (cI:Int→Int→Int→Int→Nat) (dL:Int→Int→Int→Int→Int→Prop) (dO:Int→Int→Int→Int→Int→Nat):Prop:=
 MF aw ay aW aX bG bE cF cI dL dO J ar
theorem XG (J:aB):b3 Try.prog 24 [.agg (a8 false J)] (.agg (AM (g5 J))):=(fun(aw:Int→Prop) (ay:Int→Nat) (aW:Int→Int→Prop) (aX:Int→Int→Nat) (bG:Int→Int→Int→Prop) (bE:Int→Int→Int→Nat) (cF:Int→Int→Int→Int→Prop) (cI:Int→Int→Int→Int→Nat) (dL:Int→Int→Int→Int→Int→Prop) (dO:Int→Int→Int→Int→Int→Nat) (h:Mx J (g5 J) aw ay aW aX bG bE cF cI dL dO)=>b3.run (ps:=[.dW]) (rs:=[.fault]) (x:=(J,())) (r:=((g5 J),())) ⟨147,eN,[wX,E8,XW]⟩ ⟨[73,78,88,95],[(29,XI,XJ)],[],[]⟩ (e1 [1,2,37,38] [(2,2),(1,5)] 39 aw ay fun a_=>(e1 [1,2,54,55] [(2,2),(1,5)] 56 (aW a_) (aX a_) fun b_=>(e1 [1,2,77,78] [(2,2),(1,5)] 79 (bG a_ b_) (bE a_ b_) fun cR=>(e1 [1,2,94,95] [(2,2),(1,5)] 96 (cF a_ b_ cR) (cI a_ b_ cR) fun e7=>(e1 [1,2,9,94,95,96,101,102] [(2,2),(1,5)] 103 (dL a_ b_ cR e7) (dO a_ b_ cR e7) fun _=> .nil))))) Try.func24 h) (cg J.bh.length (fun j=> !b1 (nth J.bh j) 0 (J.ai - 1))) (cn J.bh.length) (fun _=>cg J.ways.length (fun j=> !hd J (nth J.ways j))) (fun _=>cn J.ways.length) (fun _ _=>cg J.bars.length (fun j=>decide ((nth J.bars j).length≠J.ways.length))) (fun _ _=>cn J.bars.length) (fun _ _ _=>cg J.ways.length (fun i=>(List.range J.ways.length).any fun k=>nI J i.toNat k)) (fun _ _ _=>cn J.ways.length) (fun _ _ _ i=>cg J.ways.length (fun k=>nI J i.toNat k.toNat)) (fun _ _ _ _=>cn J.ways.length) (by
 unfold Mx MF
 refine⟨fun h=> ?_,fun h mg=> ?_⟩
 ·have hb:kc J=false:=by
   rw[←Bool.not_eq_true,qZ]
   intro hb
   simp[b1] at h
   omega
  rw[DW hb];exact⟨rfl,rfl⟩
 ·have hb:kc J=true:=by
   rw[qZ]
   simp[b1] at h
   omega
  have eO:=qZ.1 hb
  refine⟨cS (de _),fun g9 nR=> ?_⟩
  unfold ME
  refine⟨fun jf yv=> ?_,fun fA=> ?_⟩
  case refine_2=>
   rw[gb (n:=J.ai - 1) (by omega) (by omega)]
   refine⟨⟨b8 nR fA,fun lN=> ?_⟩,fun fq=>cq (ci mg) nR fA (not_eq fq)⟩
   rw[Lk hb (pg (q:=fun s=> !b1 s 0 (J.ai - 1)) nR fA lN)]
   have:=nR.1
   exact⟨rfl,by show g9=(g9.toNat:Int);omega⟩
  have f0:=ph (q:=fun s=> !b1 s 0 (J.ai - 1)) nR jf
  refine⟨cS (de _),fun v1 nS=> ?_⟩
  unfold MD
  refine⟨fun bF=> ?_,fun lr=> ?_⟩
  case refine_2=>
   refine⟨⟨b8 nS lr,⟨by omega,by omega⟩,fun lN=> ?_⟩,fun fq=>cq (ci yv) nS lr (not_eq fq)⟩
   rw[Ll hb f0 (pg (q:=fun w=> !hd J w) nS lr lN)]
   have:=nS.1
   exact⟨rfl,by show v1=(v1.toNat:Int);omega⟩
  have f1:=ph (q:=fun w=> !hd J w) nS bF
  rw[Lm hb f0 f1]
  refine⟨fun hm cO=> ?_,fun⟨hm,cO⟩=> ?_⟩
  ·have cO:J.bars.length≠J.ways.length:=by
    intro e;rw[e] at cO;simp at cO
   rw[Lj cO];exact⟨rfl,rfl⟩
  have aI:J.bars.length=J.ways.length:=by
   have:(J.bars.length:Int)=J.ways.length:=by simpa using cO
   omega
  refine⟨cS (de _),fun v2 mO=> ?_⟩
  unfold MC
  refine⟨fun e2=> ?_,fun hv2=> ?_⟩
  case refine_2=>
   have ng:(((nth J.bars v2).length:Int) !=(J.ways.length:Int))=decide ((nth J.bars v2).length≠J.ways.length):=by
    rw[Bool.eq_iff_iff];simp;omega
   unfold MB
   rw[ng]
   refine⟨⟨b8 mO hv2,fun aJ lN=> ?_⟩,fun⟨aJ,fq⟩=>cq (ci hm) mO hv2 (not_eq fq)⟩
   rw[Lh aI (pg (q:=fun b=>decide (b.length≠J.ways.length)) mO hv2 lN)]
   have:=mO.1
   exact⟨rfl,by show v2=(v2.toNat:Int);omega⟩
  have f2:=ph (q:=fun b:List Bool=>decide (b.length≠J.ways.length)) mO e2
  have wR: ∀i:Int,0≤i→i<J.ways.length→(nth J.bars i).length=J.ways.length:=fun i i0 i1=>by
   have:=ga mO e2 i i0 (by omega)
   simpa using this
  refine⟨cS (de _),fun m4 mP=>⟨fun dN=> ?_,fun yC=> ?_⟩⟩
  ·have dN:decide (m4<(J.ways.length:Int))=false:=by rw[←aI];exact dN
   rw[Lg aI f2 (HL fun j cr eQ=>ga mP dN j cr eQ)]
   exact⟨rfl,rfl⟩
  ·have tZ:m4<(J.ways.length:Int):=by rw[←aI];simpa using yC
   have nf:=mP.1
   have fg:=wR m4 mP.1 tZ
   refine⟨⟨nf,by omega⟩,?_⟩
   unfold MA
   rw[fg]
   intro _
   refine⟨cS (de _),fun v4 nT=> ?_⟩
   unfold Mz My
   rw[GJ mP.1 nT.1,fg]
   have oD:=nT.1
   refine⟨fun h0=>cq (by omega) mP (by simpa using tZ) (KO fun j cr eQ=>ga nT h0 j cr eQ),fun v9=> ?_⟩
   have v_:v4<(J.ways.length:Int):=by simpa using v9
   have sD:=wR v4 nT.1 v_
   refine⟨⟨⟨oD,by omega⟩,⟨⟨oD,by omega⟩,⟨nf,by omega⟩,fun _ _ _=>⟨⟨nf,by omega⟩,⟨oD,by omega⟩⟩⟩,fun lN=> ?_⟩,fun fq=>cq (by omega) nT v9 (not_eq fq)⟩
   rw[Li aI f2 (HM nf tZ (fun j cr eQ=>mP.2.2 j cr eQ) (GB oD v_ lN))]
   exact⟨rfl,by show m4=(m4.toNat:Int);omega⟩)
def XH:ev Try.prog:=⟨24,[.dW],[.fault],none,fun x=>((g5 x.1),()),fun x h=>XG x.1⟩
end Go.Proofs.Ytglpfccgmfhkdaa.Fw
/- Walks and summaries of functions, printed by a program of mine (tools/mk2.py), with the proofs of what they owe. -/
set_option linter.unusedVariables false
set_option maxRecDepth 100000
set_option maxHeartbeats 4000000
set_option linter.unusedSimpArgs false
namespace Go.Proofs.Ytglpfccgmfhkdaa.Fw
open Go
attribute [local irreducible] evS evSD WpS Weak Oper.looksAt
def XT (J:aB) (ar:Bool):Prop:=
 (((g5 J).code)==0)=ar
theorem E9 (J:aB):b3 Try.prog 77 [.agg (a8 false J)] (ah (dv J)):=(fun(h:XT J (dv J))=>b3.run (ps:=[.dW]) (rs:=[.bool]) (x:=(J,())) (r:=((dv J),())) ⟨9,eN,[XH]⟩ ⟨[],[],[],[]⟩ .nil Try.func77 h) (by
 exact V7 J)
def XU:ev Try.prog:=⟨77,[.dW],[.bool],none,fun x=>((dv x.1),()),fun x h=>E9 x.1⟩
def MX (J:aB) (M:Event) (ar:Bool):Prop:=
  ((M.op==5)=true→J.bh.length≤4611686018427387904→((b1 M.ag 0 (IntKind.i64.wrap ((J.bh.length:Int) - 1)))&&(b1 M.bx 0 2))=ar)∧((M.op==5)=false→((M.op==6)=true→J.bh.length≤4611686018427387904→((b1 M.ag 0 (IntKind.i64.wrap ((J.bh.length:Int) - 1)))&&(b1 M.bx 1 2))=ar)∧((M.op==6)=false→(M.op==7)=true→((M.ag==0)&&(M.bx==0))=ar))
def MY (J:aB) (M:Event) (ar:Bool):Prop:=
  ((bif (M.op==1) then(M.op==1) else(M.op==2))=true→J.ways.length≤4611686018427387904→((b1 M.ag 0 (IntKind.i64.wrap ((J.ways.length:Int) - 1)))&&(M.bx==0))=ar)∧((bif (M.op==1) then(M.op==1) else(M.op==2))=false→((bif (M.op==3) then(M.op==3) else(M.op==4))=true→((b1 M.ag 0 (IntKind.i64.wrap (J.ai - 1)))&&(M.bx==0))=ar)∧((bif (M.op==3) then(M.op==3) else(M.op==4))=false→MX J M ar))
def MW (J:aB) (M:Event) (ar:Bool):Prop:=
 (MY J M ar)∧((!(bif (M.op==1) then(M.op==1) else(M.op==2))&&(!(bif (M.op==3) then(M.op==3) else(M.op==4))&&(!(M.op==5)&&(!(M.op==6)&&(!(M.op==7))))))=true→false=ar)
theorem X8 (J:aB) (M:Event) (aF:Lo J M):b3 Try.prog 78 [.agg (a8 false J),.agg (eE M)] (ah (eh J M)):=(fun(h:MW J M (eh J M))=>b3.run (ps:=[.dW,.iS]) (rs:=[.bool]) (x:=(J,M,())) (r:=((eh J M),())) ⟨74,eN,[wX]⟩ ⟨[],[],[],[]⟩ .nil Try.func78 h) (by
 have aF: -9223372036854775808<J.ai∧J.ai≤9223372036854775807:=aF
 unfold MW MY MX
 rw[wy,wy,ou,ou,ou,ou,ou]
 simp only[decide_eq_true_eq,decide_eq_false_iff_not]
 refine⟨⟨fun h aI=> ?_,fun h1=>⟨fun h=> ?_,fun aS=>⟨fun h aI=> ?_,fun cb=>⟨fun h aI=> ?_,fun cE h=> ?_⟩⟩⟩⟩,fun h=> ?_⟩
 ·rw[gb (by omega) (by omega),AX h]
 ·rw[gb (by omega) (by omega),AY h1 h]
 ·rw[gb (by omega) (by omega),xX h]
 ·rw[gb (by omega) (by omega),xY h]
 ·rw[Hq h]
 ·simp only[Bool.and_eq_true,Bool.not_eq_true',decide_eq_false_iff_not] at h
  exact(Hs h.1 h.2.1 h.2.2.1 h.2.2.2.1 h.2.2.2.2).symm)
def Uc (J:aB) (ar:Bool):Prop:=
 (((g5 J).code)==0&&((g5 J).pos)==0)=ar
theorem JR (J:aB):b3 Try.prog 60 [.agg (a8 false J)] (ah (dv J)):=(fun(h:Uc J (dv J))=>b3.run (ps:=[.dW]) (rs:=[.bool]) (x:=(J,())) (r:=((dv J),())) ⟨7,eN,[To]⟩ ⟨[],[],[],[]⟩ .nil Try.func60 h) (by
 exact V6 J)
def Ud:ev Try.prog:=⟨60,[.dW],[.bool],none,fun x=>((dv x.1),()),fun x h=>JR x.1⟩
def TM (J:Int) (M:Event) (ar:Bool):Prop:=
 ((decide (M.ag ≥ 0))&&(decide (M.ag<J)))=ar
theorem TN (J:Int) (M:Event):b3 Try.prog 122 [ac J,.cZ (eE M) 0] (ah (oT J M)):=(fun(h:TM J M (oT J M))=>b3.run (ps:=[.int,(.ptr .iS)]) (rs:=[.bool]) (x:=(J,M,())) (r:=((oT J M),())) ⟨13,eN,[]⟩ ⟨[],[],[],[]⟩ .nil Try.func122 h) (by
 rfl)
def TO:ev Try.prog:=⟨122,[.int,(.ptr .iS)],[.bool],none,fun x=>((oT x.1 x.2.1),()),fun x h=>TN x.1 x.2.1⟩
def JE (J:aB) (M:Event) (ar:Bool):Prop:=
  ((M.op==5)=true→J.bh.length≤4611686018427387904→((oT (J.bh.length:Int) M)&&((decide (M.bx ≥ 0))&&(decide (M.bx≤2))))=ar)∧((M.op==5)=false→((M.op==6)=true→J.bh.length≤4611686018427387904→((oT (J.bh.length:Int) M)&&((decide (M.bx ≥ 1))&&(decide (M.bx≤2))))=ar)∧((M.op==6)=false→(M.op==7)=true→((M.ag==0)&&(M.bx==0))=ar))
def JF (J:aB) (M:Event) (ar:Bool):Prop:=
  ((bif (M.op==1) then(M.op==1) else(M.op==2))=true→J.ways.length≤4611686018427387904→((oT (J.ways.length:Int) M)&&(M.bx==0))=ar)∧((bif (M.op==1) then(M.op==1) else(M.op==2))=false→((bif (M.op==3) then(M.op==3) else(M.op==4))=true→((oT J.ai M)&&(M.bx==0))=ar)∧((bif (M.op==3) then(M.op==3) else(M.op==4))=false→JE J M ar))
def JD (J:aB) (M:Event) (ar:Bool):Prop:=
 (JF J M ar)∧((!(bif (M.op==1) then(M.op==1) else(M.op==2))&&(!(bif (M.op==3) then(M.op==3) else(M.op==4))&&(!(M.op==5)&&(!(M.op==6)&&(!(M.op==7))))))=true→false=ar)
theorem TP (J:aB) (M:Event):b3 Try.prog 62 [.agg (a8 false J),.agg (eE M)] (ah (eh J M)):=(fun(h:JD J M (eh J M))=>b3.run (ps:=[.dW,.iS]) (rs:=[.bool]) (x:=(J,M,())) (r:=((eh J M),())) ⟨78,eN,[TO]⟩ ⟨[],[],[],[]⟩ .nil Try.func62 h) (by
 unfold JD JF JE
 rw[wy,wy,ou,ou,ou,ou,ou,F3,F3,F3]
 simp only[decide_eq_true_eq,decide_eq_false_iff_not]
 refine⟨⟨fun h aI=> ?_,fun h1=>⟨fun h=> ?_,fun aS=>⟨fun h aI=> ?_,fun cb=>⟨fun h aI=> ?_,fun cE h=> ?_⟩⟩⟩⟩,fun h=> ?_⟩
 ·rw[AX h]
 ·rw[AY h1 h]
 ·rw[xX h];rfl
 ·rw[xY h];rfl
 ·rw[Hq h]
 ·simp only[Bool.and_eq_true,Bool.not_eq_true',decide_eq_false_iff_not] at h
  exact(Hs h.1 h.2.1 h.2.2.1 h.2.2.2.1 h.2.2.2.2).symm)
def TQ:ev Try.prog:=⟨62,[.dW,.iS],[.bool],none,fun x=>((eh x.1 x.2.1),()),fun x h=>TP x.1 x.2.1⟩
end Go.Proofs.Ytglpfccgmfhkdaa.Fw
/- Walks and summaries of functions, printed by a program of mine (tools/mk2.py), with the proofs of what they owe. -/
set_option linter.unusedVariables false
set_option maxRecDepth 100000
set_option maxHeartbeats 4000000
set_option linter.unusedSimpArgs false
namespace Go.Proofs.Ytglpfccgmfhkdaa.Fw
open Go
attribute [local irreducible] evS evSD WpS Weak Oper.looksAt
noncomputable def W6:Code:=hM Try.f120
def EB (J:(List Bool)) (ar:(List Bool)):Prop:=
 (J≠[]→(J.length*1≤140737488355328∧J.length≤4611686018427387904)∧(J=ar))∧(J=[]→ ∀c8:Bool,(c8=true→[]=ar)∧(c8=false→(J.length*1≤140737488355328∧J.length≤4611686018427387904)∧(J=ar)))
theorem W7 (J:(List Bool)) (ar:(List Bool)) (h:EB J ar):dj Try.prog 120 [bo aH J] [] (fun r H=>r=ae 0 0 ar.length∧H=[⟨0,1,List.map aH ar⟩]):=by
 refine dj.toOwn ?_
 unfold EB at h
 refine dj.go (fn:=Try.f120) [(0,bo aH J)] Try.func120 ?_
 show WpS _ (bK W6 1) _ ⟨a4 8 [(0,bo aH J)],[],[]⟩
 refine cQ [] 0 [(2,ao)] [] [1] ?_
 refine fy ?_
 refine fy ?_
 refine bm [] 1 ?_
 refine Er 2 (some 4) [(3,bo aH J)] aH J (fun hx=> ?_) (fun hx c8=> ?_)
 ·
  replace h:=h.1 hx
  refine df [] ?_
  refine c4.normal ?_
  refine pu (.tmp 4) false (fun q3=> ?_) (fun q3=> ?_)
  ·
   cases q3
  ·
   refine c6 ?_
   refine c4.normal ?_
   obtain⟨cT,h⟩:=h
   refine gX ⟨(a4 8 [(2,ae 0 0 J.length)]),[],[⟨0,1,List.map aH J⟩]⟩ (True) ?_ (fun q4=> ?_)
   ·
    replace h:=cT
    refine bm [] 3 ?_
    have cx:=h
    refine pc 3 (some 7) [(6,bo aH J),(5,ao)] aH J (hR false (List.map aH J)) 0 1 1 (fun r=>[⟨0,1,r⟩]) rfl cx ?_
    exact bL [(2,ae 0 0 J.length)] trivial
   refine e8 ?_
   refine lz (ae 0 0 J.length) [ae 0 0 J.length] ?_
   exact⟨nz [some 0],o0 [some 0] rfl (by decide) ⟨rfl,(pb (b:=0) (g:=0) (sz:=1) (xs:=J) (ys:=ar) rfl ww h),trivial⟩,(.inr (sr (by simp) rfl rfl (by have:=congrArg List.length h;simpa using this)))⟩
 ·
  replace h:=h.2 hx c8
  refine df [] ?_
  refine c4.normal ?_
  refine pu (.tmp 4) c8 (fun et=> ?_) (fun et=> ?_)
  ·
   replace h:=h.1 et
   refine gX ⟨(a4 8 [(2,ao)]),[],[]⟩ (True) ?_ (fun eB=> ?_)
   ·
    refine bm [] 2 ?_
    exact bL [(2,ao)] trivial
   refine e8 ?_
   refine c4.ret ?_
   refine lz (ao) [ao] ?_
   exact⟨nz [none],o0 [none] rfl (by decide) ⟨rfl,trivial,trivial⟩,(.inr (DS (by simp) rfl rfl (by rw[←h];rfl)))⟩
  ·
   replace h:=h.2 et
   refine c6 ?_
   refine c4.normal ?_
   obtain⟨fI,h⟩:=h
   refine gX ⟨(a4 8 [(2,ae 0 0 J.length)]),[],[⟨0,1,List.map aH J⟩]⟩ (True) ?_ (fun gU=> ?_)
   ·
    replace h:=fI
    refine bm [] 3 ?_
    have fH:=h
    refine pc 3 (some 7) [(6,bo aH J),(5,ao)] aH J (hR false (List.map aH J)) 0 1 1 (fun r=>[⟨0,1,r⟩]) rfl fH ?_
    exact bL [(2,ae 0 0 J.length)] trivial
   refine e8 ?_
   refine lz (ae 0 0 J.length) [ae 0 0 J.length] ?_
   exact⟨nz [some 0],o0 [some 0] rfl (by decide) ⟨rfl,(pb (b:=0) (g:=0) (sz:=1) (xs:=J) (ys:=ar) rfl ww h),trivial⟩,(.inr (sr (by simp) rfl rfl (by have:=congrArg List.length h;simpa using this)))⟩
theorem Mi (J:(List Bool)) (aF:small J):dj Try.prog 120 [bo aH J] [] (fun r H=>r=ae 0 0 ((U J).length)∧H=[⟨0,1,List.map aH (U J)⟩]):=W7 J (U J) (by
 have aF:J.length≤1048576:=aF
 unfold EB
 exact⟨fun h=>⟨⟨by omega,by omega⟩,rfl⟩,fun h b=>⟨fun _=>h.symm,fun _=>⟨⟨by omega,by omega⟩,rfl⟩⟩⟩)
noncomputable def W2:Code:=hM Try.f121
def EA (J:(List aN)) (ar:(List aN)):Prop:=
 (J≠[]→(J.length*16≤140737488355328∧J.length≤4611686018427387904)∧(J=ar))∧(J=[]→ ∀c8:Bool,(c8=true→[]=ar)∧(c8=false→(J.length*16≤140737488355328∧J.length≤4611686018427387904)∧(J=ar)))
theorem W3 (J:(List aN)) (ar:(List aN)) (h:EA J ar):dj Try.prog 121 [bo a1 J] [] (fun r H=>r=ae 0 0 ar.length∧H=[⟨0,2,List.map a1 ar⟩]):=by
 refine dj.toOwn ?_
 unfold EA at h
 refine dj.go (fn:=Try.f121) [(0,bo a1 J)] Try.func121 ?_
 show WpS _ (bK W2 1) _ ⟨a4 8 [(0,bo a1 J)],[],[]⟩
 refine cQ [] 0 [(2,ao)] [] [1] ?_
 refine fy ?_
 refine fy ?_
 refine bm [] 1 ?_
 refine Er 2 (some 4) [(3,bo a1 J)] a1 J (fun hx=> ?_) (fun hx c8=> ?_)
 ·
  replace h:=h.1 hx
  refine df [] ?_
  refine c4.normal ?_
  refine pu (.tmp 4) false (fun q3=> ?_) (fun q3=> ?_)
  ·
   cases q3
  ·
   refine c6 ?_
   refine c4.normal ?_
   obtain⟨cT,h⟩:=h
   refine gX ⟨(a4 8 [(2,ae 0 0 J.length)]),[],[⟨0,2,List.map a1 J⟩]⟩ (True) ?_ (fun q4=> ?_)
   ·
    replace h:=cT
    refine bm [] 3 ?_
    have cx:=h
    refine pc 3 (some 7) [(6,bo a1 J),(5,ao)] a1 J (hR false (List.map a1 J)) 0 2 16 (fun r=>[⟨0,2,r⟩]) rfl cx ?_
    exact bL [(2,ae 0 0 J.length)] trivial
   refine e8 ?_
   refine lz (ae 0 0 J.length) [ae 0 0 J.length] ?_
   exact⟨nz [some 0],o0 [some 0] rfl (by decide) ⟨rfl,(pb (b:=0) (g:=0) (sz:=2) (xs:=J) (ys:=ar) rfl DO h),trivial⟩,(.inr (sr (by simp) rfl rfl (by have:=congrArg List.length h;simpa using this)))⟩
 ·
  replace h:=h.2 hx c8
  refine df [] ?_
  refine c4.normal ?_
  refine pu (.tmp 4) c8 (fun et=> ?_) (fun et=> ?_)
  ·
   replace h:=h.1 et
   refine gX ⟨(a4 8 [(2,ao)]),[],[]⟩ (True) ?_ (fun eB=> ?_)
   ·
    refine bm [] 2 ?_
    exact bL [(2,ao)] trivial
   refine e8 ?_
   refine c4.ret ?_
   refine lz (ao) [ao] ?_
   exact⟨nz [none],o0 [none] rfl (by decide) ⟨rfl,trivial,trivial⟩,(.inr (DS (by simp) rfl rfl (by rw[←h];rfl)))⟩
  ·
   replace h:=h.2 et
   refine c6 ?_
   refine c4.normal ?_
   obtain⟨fI,h⟩:=h
   refine gX ⟨(a4 8 [(2,ae 0 0 J.length)]),[],[⟨0,2,List.map a1 J⟩]⟩ (True) ?_ (fun gU=> ?_)
   ·
    replace h:=fI
    refine bm [] 3 ?_
    have fH:=h
    refine pc 3 (some 7) [(6,bo a1 J),(5,ao)] a1 J (hR false (List.map a1 J)) 0 2 16 (fun r=>[⟨0,2,r⟩]) rfl fH ?_
    exact bL [(2,ae 0 0 J.length)] trivial
   refine e8 ?_
   refine lz (ae 0 0 J.length) [ae 0 0 J.length] ?_
   exact⟨nz [some 0],o0 [some 0] rfl (by decide) ⟨rfl,(pb (b:=0) (g:=0) (sz:=2) (xs:=J) (ys:=ar) rfl DO h),trivial⟩,(.inr (sr (by simp) rfl rfl (by have:=congrArg List.length h;simpa using this)))⟩
theorem W1 (J:(List aN)) (aF:small J):dj Try.prog 121 [bo a1 J] [] (fun r H=>r=ae 0 0 ((U J).length)∧H=[⟨0,2,List.map a1 (U J)⟩]):=W3 J (U J) (by
 have aF:J.length≤1048576:=aF
 unfold EA
 exact⟨fun h=>⟨⟨by omega,by omega⟩,rfl⟩,fun h b=>⟨fun _=>h.symm,fun _=>⟨⟨by omega,by omega⟩,rfl⟩⟩⟩)
def Mj (J:(List Bool)) (ar:(List Bool)):Prop:=
 (J≠[]→(J.length*1≤140737488355328∧J.length≤4611686018427387904)∧(J.length≤4611686018427387904∧J=ar))∧(J=[]→ ∀c8:Bool,(c8=true→[]=ar)∧(c8=false→(J.length*1≤140737488355328∧J.length≤4611686018427387904)∧(J.length≤4611686018427387904∧J=ar)))
theorem W8 (J:(List Bool)) (aF:small J):b3 Try.prog 120 [bo aH J] (eJ aH (U J)):=(fun(h:Mj J (U J))=>b3.run (ps:=[(.l .bool)]) (rs:=[(.l .bool)]) (x:=(J,())) (r:=((U J),())) ⟨8,eN,[]⟩ ⟨[],[],[],[]⟩ .nil Try.func120 h) (by
 have aF:J.length≤1048576:=aF
 unfold Mj
 exact⟨fun h=>⟨⟨by omega,by omega⟩,by omega,rfl⟩,fun h b=>⟨fun _=>h.symm,fun _=>⟨⟨by omega,by omega⟩,by omega,rfl⟩⟩⟩)
def W9:ev Try.prog:=⟨120,[(.l .bool)],[(.l .bool)],some fun x=>small x.1,fun x=>((U x.1),()),fun x h=>W8 x.1 h⟩
def Mh (J:(List aN)) (ar:(List aN)):Prop:=
 (J≠[]→(J.length*16≤140737488355328∧J.length≤4611686018427387904)∧(J.length≤4611686018427387904∧J=ar))∧(J=[]→ ∀c8:Bool,(c8=true→[]=ar)∧(c8=false→(J.length*16≤140737488355328∧J.length≤4611686018427387904)∧(J.length≤4611686018427387904∧J=ar)))
theorem W4 (J:(List aN)) (aF:small J):b3 Try.prog 121 [bo a1 J] (eJ a1 (U J)):=(fun(h:Mh J (U J))=>b3.run (ps:=[(.l .g6)]) (rs:=[(.l .g6)]) (x:=(J,())) (r:=((U J),())) ⟨8,eN,[]⟩ ⟨[],[],[],[]⟩ .nil Try.func121 h) (by
 have aF:J.length≤1048576:=aF
 unfold Mh
 exact⟨fun h=>⟨⟨by omega,by omega⟩,by omega,rfl⟩,fun h b=>⟨fun _=>h.symm,fun _=>⟨⟨by omega,by omega⟩,by omega,rfl⟩⟩⟩)
def W5:ev Try.prog:=⟨121,[(.l .g6)],[(.l .g6)],some fun x=>small x.1,fun x=>((U x.1),()),fun x h=>W4 x.1 h⟩
noncomputable def Cn:Code:=hM Try.f61
def Tx:List Item:=[au 0,au 1,au 2,au 3,au 5,au 6,au 9,⟨4,true,false,[0,1,5,6,9]⟩,⟨7,true,false,[0,1,9]⟩,au 8,⟨10,true,false,[]⟩]
def Ty:List (List Nat):=[[],[0],[],[2],[2,3],[],[5],rg 2 7,rg 0 8,[],rg 0 10]
def Cl (aw:List (List Bool)→Nat→Nat→List Nat→Int→List aa→Prop) (ay:List (List Bool)→Nat→Nat→List Nat→Int→List aa→Nat) (J:Frame) (aG:List (List Bool)) (aY bX:Nat) (aE:List Nat) (bj:Int) (ws2:List aa):Prop:=
  aw (aG++[(U ((nth J.ways bj).been))]) (aY+1) (bX+1) (aE++[aG.length]) (IntKind.i64.wrap (bj+1)) (ws2++[(aa.mk ((nth J.ways bj).state) ((nth J.ways bj).gone) (U ((nth J.ways bj).been)) ((nth J.ways bj).shown) ((nth J.ways bj).timer))])∧ay (aG++[(U ((nth J.ways bj).been))]) (aY+1) (bX+1) (aE++[aG.length]) (IntKind.i64.wrap (bj+1)) (ws2++[(aa.mk ((nth J.ways bj).state) ((nth J.ways bj).gone) (U ((nth J.ways bj).been)) ((nth J.ways bj).shown) ((nth J.ways bj).timer))])<ay aG aY bX aE bj ws2
def Cm (aw:List (List Bool)→Nat→Nat→List Nat→Int→List aa→Prop) (ay:List (List Bool)→Nat→Nat→List Nat→Int→List aa→Nat) (J ar:Frame) (aG:List (List Bool)) (aY bX:Nat) (aE:List Nat) (bj:Int) (ws2:List aa):Prop:=
  ((decide (bj<(J.ways.length:Int)))=false→J.ok=ar.ok∧(U J.al)=ar.al∧(U J.ak)=ar.ak∧ws2=ar.ways∧aE=List.range ws2.length∧aG=ws2.map aa.been)∧((decide (bj<(J.ways.length:Int)))=true→((0≤bj∧bj.toNat<J.ways.length)∧((small ((nth J.ways bj).been))∧(ws2.length=aE.length∧((ws2.length+1)*56≤140737488355328∧ws2.length+1≤4611686018427387904))))∧(Cl aw ay J aG aY bX aE bj ws2))
def Ck (J:Frame) (ar:Frame) (aw:List (List Bool)→Nat→Nat→List Nat→Int→List aa→Prop) (ay:List (List Bool)→Nat→Nat→List Nat→Int→List aa→Nat):Prop:=
 ((small J.al)∧(small J.ak))∧(J.ways.length≤4611686018427387904→aw ([]:List (List Bool)) 0 0 ([]:List Nat) 0 ([]:List aa)∧ ∀(aG:List (List Bool)) (aY:Nat) (bX:Nat) (aE:List Nat) (bj:Int) (ws2:List aa),aw aG aY bX aE bj ws2→(Cm aw ay J ar aG aY bX aE bj ws2))
theorem Tz (J:Frame) (ar:Frame) (aw:List (List Bool)→Nat→Nat→List Nat→Int→List aa→Prop) (ay:List (List Bool)→Nat→Nat→List Nat→Int→List aa→Nat) (h:Ck J ar aw ay):dj Try.prog 61 [.agg (bS false J)] [] (fun r H=>r= .agg [ah ar.ok,ae 0 0 ar.al.length,ae 1 0 ar.ak.length,ae 2 0 ar.ways.length]∧H=(⟨0,1,List.map aH ar.al⟩::⟨0,2,List.map a1 ar.ak⟩::⟨0,5,aT 3 ar.ways (List.range ar.ways.length)⟩::List.map bc (List.map aa.been ar.ways))):=by
 refine dj.toOwn ?_
 unfold Ck at h
 refine dj.go (fn:=Try.f61) [(0,.agg (bS false J))] Try.func61 ?_
 show WpS _ (bK Cn 1) _ ⟨a4 34 [(0,.agg (bS false J))],[],[]⟩
 refine m_ [1000003] 0 [(2,an 2 0),(1,an 1 0)] [2] [] [(2,[ah false,ao,ao,ao]),(1,(bS false J))] [] ?_
 obtain⟨eA,h⟩:=h
 refine dD [(3,an 3 0)] [2] (fun L=>(3,[ah J.ok,ae 0 0 ((U J.al).length),ae 1 0 ((U J.ak).length),ao])::L) (fun _=>[⟨0,1,List.map aH (U J.al)⟩,⟨0,2,List.map a1 (U J.ak)⟩]) (True) ?_ (fun q2=> ?_)
 ·
  replace h:=eA
  refine lW [1000003] 1 Tx Ty [(3,[ah false,ao,ao,ao])] ?_
  obtain⟨q3,h⟩:=h
  refine zF 8 (some 10) [(3,an 3 0),(12,bo a1 J.ak),(11,an 1 2),(9,bo aH J.al),(8,an 1 1),(7,ah J.ok),(6,an 1 0)] [bo aH J.al] (fun L H=>nP Try.prog (h9 Cn 6) [0,1,5,6,9] [(3,an 3 0),(12,bo a1 J.ak),(11,an 1 2),(9,bo aH J.al),(8,an 1 1),(7,ah J.ok),(6,an 1 0),(2,an 2 0),(1,an 1 0)] L H) (ae 0 0 ((U J.al).length)) [⟨0,1,List.map aH (U J.al)⟩] (Mi J.al q3) (av.cons (ck.ee b7) av.nil) (oZ (fun _=>rfl) rfl) (pf (pe (fun _=>rfl) rfl) (by kernel_rfl)) (qV (ψ:=((true=true∧true=true∧((an 1 0:AV)=an 1 0))∧((true=true∧true=true∧((ah J.ok:AV)=ah J.ok))∧((true=true∧true=true∧((an 1 2:AV)=an 1 2))∧((true=true∧true=true∧((bo a1 J.ak:AV)=bo a1 J.ak))∧((true=true∧true=true∧((an 3 0:AV)=an 3 0))∧True)))))) (by kernel_rfl) ⟨⟨rfl,rfl,rfl⟩,⟨⟨rfl,rfl,rfl⟩,⟨⟨rfl,rfl,rfl⟩,⟨⟨rfl,rfl,rfl⟩,⟨⟨rfl,rfl,rfl⟩,trivial⟩⟩⟩⟩⟩) ?_
  have q4:=h
  refine zF 1 (some 13) [] [bo a1 J.ak] (fun L H=>nP Try.prog (h9 Cn 6) [0,1,9] [(10,ae 0 0 ((U J.al).length)),(3,an 3 0),(12,bo a1 J.ak),(11,an 1 2),(9,bo aH J.al),(8,an 1 1),(7,ah J.ok),(6,an 1 0),(2,an 2 0),(1,an 1 0)] L H) (ae 1 0 ((U J.ak).length)) [⟨0,1,List.map aH (U J.al)⟩,⟨0,2,List.map a1 (U J.ak)⟩] (W1 J.ak q4) (av.cons (ck.ee b7) av.nil) (oZ (fun _=>rfl) rfl) (pf (pe (fun _=>rfl) rfl) (by kernel_rfl)) (qV (ψ:=((true=true∧true=true∧((an 1 0:AV)=an 1 0))∧((true=true∧true=true∧((ah J.ok:AV)=ah J.ok))∧((true=true∧true=true∧((an 3 0:AV)=an 3 0))∧True)))) (by kernel_rfl) ⟨⟨rfl,rfl,rfl⟩,⟨⟨rfl,rfl,rfl⟩,⟨⟨rfl,rfl,rfl⟩,trivial⟩⟩⟩) ?_
  refine w2 2 [(14,.agg [ah J.ok,ae 0 0 ((U J.al).length),ae 1 0 ((U J.ak).length),ao])] [(3,[ah J.ok,ae 0 0 ((U J.al).length),ae 1 0 ((U J.ak).length),ao]),(2,[ah false,ao,ao,ao]),(1,(bS false J))] [⟨0,1,List.map aH (U J.al)⟩,⟨0,2,List.map a1 (U J.ak)⟩] (φ:=True) trivial ?_
  exact jY [] trivial
 refine fy ?_
 refine b0 [(16,bo (cd false) J.ways),(17,ac (J.ways.length:Int)),(18,ac 0)] [2] (J.ways.length≤4611686018427387904) ?_ (fun cx=> ?_)
 ·
  refine bm [1000003] 2 ?_
  refine sLen 3 (some 17) [(16,bo (cd false) J.ways),(15,an 1 3)] (cd false) J.ways (fun cT=> ?_)
  exact bL [(18,ac 0)] cT
 replace h:=h cx
 refine dM 0 ?_
 refine WpS.jd ?_ (fK (s'':=⟨(a4 34 [(16,bo (cd false) J.ways),(17,ac (J.ways.length:Int)),(18,ac 0),(3,an 3 0),(2,an 2 0)]),[(3,[ah J.ok,ae 0 0 ((U J.al).length),ae 1 0 ((U J.ak).length),ae 2 0 (([]:List aa).length)]),(2,[ah false,ao,ao,ao]),(1,(bS false J))],[⟨0,1,List.map aH (U J.al)⟩,⟨0,2,List.map a1 (U J.ak)⟩,⟨0,5,aT 4 ([]:List aa) ([]:List Nat)⟩]⟩) (Weak.nG (T:=(a4 34 [(16,bo (cd false) J.ways),(17,ac (J.ways.length:Int)),(18,ac 0),(3,an 3 0),(2,an 2 0)])) (L:=[(3,[ah J.ok,ae 0 0 ((U J.al).length),ae 1 0 ((U J.ak).length),ao]),(2,[ah false,ao,ao,ao]),(1,(bS false J))]) (H:=[⟨0,1,List.map aH (U J.al)⟩,⟨0,2,List.map a1 (U J.ak)⟩]) (cells:=[ah J.ok,ae 0 0 ((U J.al).length),ae 1 0 ((U J.ak).length),ao]) 3 3 5 (by kernel_rfl) (by kernel_rfl)) (by kernel_rfl))
 refine WpS.jd ?_ (fK (s'':=⟨(a4 34 [(16,bo (cd false) J.ways),(17,ac (J.ways.length:Int)),(18,ac 0),(3,an 3 0),(2,an 2 0)]),[(3,[ah J.ok,ae 0 0 ((U J.al).length),ae 1 0 ((U J.ak).length),ae 2 0 (([]:List aa).length)]),(2,[ah false,ao,ao,ao]),(1,(bS false J))],(⟨0,1,List.map aH (U J.al)⟩::⟨0,2,List.map a1 (U J.ak)⟩::⟨0,5,aT 4 ([]:List aa) ([]:List Nat)⟩::⟨0,5,[]⟩::List.map bc ([]:List (List Bool)))⟩) (Weak.so (T:=(a4 34 [(16,bo (cd false) J.ways),(17,ac (J.ways.length:Int)),(18,ac 0),(3,an 3 0),(2,an 2 0)])) (L:=[(3,[ah J.ok,ae 0 0 ((U J.al).length),ae 1 0 ((U J.ak).length),ae 2 0 (([]:List aa).length)]),(2,[ah false,ao,ao,ao]),(1,(bS false J))]) (H:=[⟨0,1,List.map aH (U J.al)⟩,⟨0,2,List.map a1 (U J.ak)⟩,⟨0,5,aT 4 ([]:List aa) ([]:List Nat)⟩]) 5) (by kernel_rfl))
 obtain⟨ia,h⟩:=h
 refine hr (fun(v:List (List Bool)×Nat×Nat×List Nat×Int×List aa)=>(⟨(a4 34 [(2,an 2 0),(3,an 3 0),(16,bo (cd false) J.ways),(17,ac (J.ways.length:Int)),(18,ac (v.2.2.2.2.1))]),[(3,[ah J.ok,ae 0 0 ((U J.al).length),ae 1 0 ((U J.ak).length),ae 2 (v.2.1) ((v.2.2.2.2.2).length)]),(2,[ah false,ao,ao,ao])],(⟨0,1,List.map aH (U J.al)⟩::⟨0,2,List.map a1 (U J.ak)⟩::⟨(v.2.1),5,aT 4 (v.2.2.2.2.2) (v.2.2.2.1)⟩::⟨(v.2.2.1),5,[]⟩::List.map bc (v.1))⟩:St)) (fun(v:List (List Bool)×Nat×Nat×List Nat×Int×List aa)=>aw (v.1) (v.2.1) (v.2.2.1) (v.2.2.2.1) (v.2.2.2.2.1) (v.2.2.2.2.2)) (fun(v:List (List Bool)×Nat×Nat×List Nat×Int×List aa)=>ay (v.1) (v.2.1) (v.2.2.1) (v.2.2.2.1) (v.2.2.2.2.1) (v.2.2.2.2.2)) (([]:List (List Bool)),0,0,([]:List Nat),0,([]:List aa)) (cC [1]) ia (fun v aM=> ?_)
 obtain⟨aG,aY,bX,aE,bj,ws2⟩:=v
 replace h:=h aG aY bX aE bj ws2 aM
 dsimp only
 refine cQ [1000003] 3 [(19,ah (decide (bj<(J.ways.length:Int))))] [1] [5] ?_
 unfold Cm at h
 obtain⟨gx,h⟩:=h
 refine b0 [] [0,1,5] ((decide (bj<(J.ways.length:Int)))=true) ?_ (fun eB=> ?_)
 ·
  replace h:=gx
  refine cN (fun gU=> ?_) (fun gU=> ?_)
  ·
   refine c6 ?_
   exact bR.normal (by simp only[gU]<;>rfl) cW
  ·
   replace h:=h gU
   refine gG 0 ?_
   refine bR.exit ?_
   refine cU.exit ?_
   refine bZ.here ?_
   refine c4.normal ?_
   refine gX ⟨(a4 34 [(2,an 2 0)]),[(3,[ah J.ok,ae 0 0 ((U J.al).length),ae 1 0 ((U J.ak).length),ae 2 aY ws2.length]),(2,[ah J.ok,ae 0 0 ((U J.al).length),ae 1 0 ((U J.ak).length),ae 2 aY ws2.length])],(⟨0,1,List.map aH (U J.al)⟩::⟨0,2,List.map a1 (U J.ak)⟩::⟨aY,5,aT 4 ws2 aE⟩::⟨bX,5,[]⟩::List.map bc aG)⟩ (True) ?_ (fun fH=> ?_)
   ·
    refine bm [1000003] 8 ?_
    exact bL [(33,.agg [ah J.ok,ae 0 0 ((U J.al).length),ae 1 0 ((U J.ak).length),ae 2 aY ws2.length])] trivial
   refine e8 ?_
   refine lz (.agg [ah J.ok,ae 0 0 ((U J.al).length),ae 1 0 ((U J.ak).length),ae 2 aY ws2.length]) [.agg [ah J.ok,ae 0 0 ((U J.al).length),ae 1 0 ((U J.ak).length),ae 2 aY ws2.length]] ?_
   exact K9 h rfl rfl rfl rfl
 replace h:=h eB
 obtain⟨fS,h⟩:=h
 refine dD [] [5] (fun L=>(5,[ac ((nth J.ways bj).state),ac ((nth J.ways bj).gone),ae (aG.length+4) 0 ((U ((nth J.ways bj).been)).length),ah ((nth J.ways bj).shown),ac ((nth J.ways bj).timer)])::fM 0 3 (ae 2 (aY+1) ((ws2++[(aa.mk ((nth J.ways bj).state) ((nth J.ways bj).gone) (U ((nth J.ways bj).been)) ((nth J.ways bj).shown) ((nth J.ways bj).timer))]).length)) L) (fun _=>(⟨0,1,List.map aH (U J.al)⟩::⟨0,2,List.map a1 (U J.ak)⟩::⟨(aY+1),5,aT 4 (ws2++[(aa.mk ((nth J.ways bj).state) ((nth J.ways bj).gone) (U ((nth J.ways bj).been)) ((nth J.ways bj).shown) ((nth J.ways bj).timer))]) (aE++[aG.length])⟩::⟨(bX+1),5,[[ac ((nth J.ways bj).state),ac ((nth J.ways bj).gone),ae (aG.length+4) 0 ((U ((nth J.ways bj).been)).length),ah ((nth J.ways bj).shown),ac ((nth J.ways bj).timer)]]⟩::List.map bc (aG++[(U ((nth J.ways bj).been))]))) (True) ?_ (fun fI=> ?_)
 ·
  replace h:=fS
  refine dM 1 ?_
  obtain⟨ju,h⟩:=h
  refine dD [(5,an 5 0)] [5] (fun L=>(5,(cd false (nth J.ways bj)))::L) id (True) ?_ (fun gw=> ?_)
  ·
   replace h:=ju
   refine bm [1000003] 4 ?_
   have eU:=h
   refine hT 1 (some 20) [] (cd false) J.ways 5 eU ?_
   exact bL [(5,an 5 0),(21,.agg (cd false (nth J.ways bj)))] trivial
  obtain⟨fX,h⟩:=h
  refine dD [] [6] (fun L=>er 0 [ac ((nth J.ways bj).state),ac ((nth J.ways bj).gone),ae (aG.length+4) 0 ((U ((nth J.ways bj).been)).length),ah ((nth J.ways bj).shown),ac ((nth J.ways bj).timer)] L) (fun _=>(⟨0,1,List.map aH (U J.al)⟩::⟨0,2,List.map a1 (U J.ak)⟩::⟨aY,5,aT 4 ws2 aE⟩::⟨bX,5,[]⟩::List.map bc (aG++[(U ((nth J.ways bj).been))]))) (True) ?_ (fun mq=> ?_)
  ·
   replace h:=fX
   refine bm [1000003] 5 ?_
   have gT:=h
   refine rc 3 (some 24) [(23,bo aH ((nth J.ways bj).been)),(22,an 5 2)] [bo aH ((nth J.ways bj).been)] (ae (aG.length+4) 0 ((U ((nth J.ways bj).been)).length)) (⟨0,1,List.map aH (U J.al)⟩::⟨0,2,List.map a1 (U J.ak)⟩::⟨aY,5,aT 4 ws2 aE⟩::⟨bX,5,[]⟩::List.map bc (aG++[(U ((nth J.ways bj).been))])) (Mi ((nth J.ways bj).been) gT) (av.cons (ck.ee b7) av.nil) (oZ (fun _=>rfl) rfl) (pf (pe (fun _=>rfl) rfl) (by simp only[List.cons_append,List.map_nil,oA])) ?_ (er:=by simp[lB,mu,hV])
   exact bL [(25,an 5 2)] trivial
  refine bm [1000003] 6 ?_
  refine wS 4 [(29,.ref 3 (bX+1) 0 1 true),(28,.agg [ac ((nth J.ways bj).state),ac ((nth J.ways bj).gone),ae (aG.length+4) 0 ((U ((nth J.ways bj).been)).length),ah ((nth J.ways bj).shown),ac ((nth J.ways bj).timer)]),(27,ae 2 aY ws2.length),(26,an 3 3)] [(5,[ac ((nth J.ways bj).state),ac ((nth J.ways bj).gone),ae (aG.length+4) 0 ((U ((nth J.ways bj).been)).length),ah ((nth J.ways bj).shown),ac ((nth J.ways bj).timer)]),(3,[ah J.ok,ae 0 0 ((U J.al).length),ae 1 0 ((U J.ak).length),ae 2 aY ws2.length]),(2,[ah false,ao,ao,ao])] (⟨0,1,List.map aH (U J.al)⟩::⟨0,2,List.map a1 (U J.ak)⟩::⟨aY,5,aT 4 ws2 aE⟩::⟨(bX+1),5,[[ac ((nth J.ways bj).state),ac ((nth J.ways bj).gone),ae (aG.length+4) 0 ((U ((nth J.ways bj).been)).length),ah ((nth J.ways bj).shown),ac ((nth J.ways bj).timer)]]⟩::List.map bc (aG++[(U ((nth J.ways bj).been))])) ?_
  have h_:=h
  refine En 1 (some 30) [] 4 2 aY (bX+1) 56 ws2 aE (aa.mk ((nth J.ways bj).state) ((nth J.ways bj).gone) (U ((nth J.ways bj).been)) ((nth J.ways bj).shown) ((nth J.ways bj).timer)) aG.length (fun r=>(⟨0,1,List.map aH (U J.al)⟩::⟨0,2,List.map a1 (U J.ak)⟩::⟨(aY+1),5,r⟩::⟨(bX+1),5,[[ac ((nth J.ways bj).state),ac ((nth J.ways bj).gone),ae (aG.length+4) 0 ((U ((nth J.ways bj).been)).length),ah ((nth J.ways bj).shown),ac ((nth J.ways bj).timer)]]⟩::List.map bc (aG++[(U ((nth J.ways bj).been))]))) h_.1 h_.2 ?_
  refine sG [(31,an 3 3)] [(5,[ac ((nth J.ways bj).state),ac ((nth J.ways bj).gone),ae (aG.length+4) 0 ((U ((nth J.ways bj).been)).length),ah ((nth J.ways bj).shown),ac ((nth J.ways bj).timer)]),(3,[ah J.ok,ae 0 0 ((U J.al).length),ae 1 0 ((U J.ak).length),ae 2 (aY+1) ((ws2++[(aa.mk ((nth J.ways bj).state) ((nth J.ways bj).gone) (U ((nth J.ways bj).been)) ((nth J.ways bj).shown) ((nth J.ways bj).timer))]).length)]),(2,[ah false,ao,ao,ao])] (⟨0,1,List.map aH (U J.al)⟩::⟨0,2,List.map a1 (U J.ak)⟩::⟨(aY+1),5,aT 4 (ws2++[(aa.mk ((nth J.ways bj).state) ((nth J.ways bj).gone) (U ((nth J.ways bj).been)) ((nth J.ways bj).shown) ((nth J.ways bj).timer))]) (aE++[aG.length])⟩::⟨(bX+1),5,[[ac ((nth J.ways bj).state),ac ((nth J.ways bj).gone),ae (aG.length+4) 0 ((U ((nth J.ways bj).been)).length),ah ((nth J.ways bj).shown),ac ((nth J.ways bj).timer)]]⟩::List.map bc (aG++[(U ((nth J.ways bj).been))])) ?_
  refine bZ.normal ?_
  exact bR.normal trivial cW
 unfold Cl at h
 refine bm [1000003] 7 ?_
 refine df [(18,ac (IntKind.i64.wrap (bj+1))),(32,ac (IntKind.i64.wrap (bj+1)))] ?_
 exact cU.again ((aG++[(U ((nth J.ways bj).been))]),(aY+1),(bX+1),(aE++[aG.length]),(IntKind.i64.wrap (bj+1)),(ws2++[(aa.mk ((nth J.ways bj).state) ((nth J.ways bj).gone) (U ((nth J.ways bj).been)) ((nth J.ways bj).shown) ((nth J.ways bj).timer))])) h ((Weak.clear 3 rfl:Weak ⟨(a4 34 [(18,ac (IntKind.i64.wrap (bj+1))),(32,ac (IntKind.i64.wrap (bj+1))),(2,an 2 0),(3,an 3 0),(16,bo (cd false) J.ways),(17,ac (J.ways.length:Int))]),[(5,[ac ((nth J.ways bj).state),ac ((nth J.ways bj).gone),ae (aG.length+4) 0 ((U ((nth J.ways bj).been)).length),ah ((nth J.ways bj).shown),ac ((nth J.ways bj).timer)]),(3,[ah J.ok,ae 0 0 ((U J.al).length),ae 1 0 ((U J.ak).length),ae 2 (aY+1) ((ws2++[(aa.mk ((nth J.ways bj).state) ((nth J.ways bj).gone) (U ((nth J.ways bj).been)) ((nth J.ways bj).shown) ((nth J.ways bj).timer))]).length)]),(2,[ah false,ao,ao,ao])],(⟨0,1,List.map aH (U J.al)⟩::⟨0,2,List.map a1 (U J.ak)⟩::⟨(aY+1),5,aT 4 (ws2++[(aa.mk ((nth J.ways bj).state) ((nth J.ways bj).gone) (U ((nth J.ways bj).been)) ((nth J.ways bj).shown) ((nth J.ways bj).timer))]) (aE++[aG.length])⟩::⟨(bX+1),5,[[ac ((nth J.ways bj).state),ac ((nth J.ways bj).gone),ae (aG.length+4) 0 ((U ((nth J.ways bj).been)).length),ah ((nth J.ways bj).shown),ac ((nth J.ways bj).timer)]]⟩::List.map bc (aG++[(U ((nth J.ways bj).been))]))⟩ ⟨(a4 34 [(18,ac (IntKind.i64.wrap (bj+1))),(32,ac (IntKind.i64.wrap (bj+1))),(2,an 2 0),(3,an 3 0),(16,bo (cd false) J.ways),(17,ac (J.ways.length:Int))]),[(5,[ac ((nth J.ways bj).state),ac ((nth J.ways bj).gone),ae (aG.length+4) 0 ((U ((nth J.ways bj).been)).length),ah ((nth J.ways bj).shown),ac ((nth J.ways bj).timer)]),(3,[ah J.ok,ae 0 0 ((U J.al).length),ae 1 0 ((U J.ak).length),ae 2 (aY+1) ((ws2++[(aa.mk ((nth J.ways bj).state) ((nth J.ways bj).gone) (U ((nth J.ways bj).been)) ((nth J.ways bj).shown) ((nth J.ways bj).timer))]).length)]),(2,[ah false,ao,ao,ao])],(⟨0,1,List.map aH (U J.al)⟩::⟨0,2,List.map a1 (U J.ak)⟩::⟨(aY+1),5,aT 4 (ws2++[(aa.mk ((nth J.ways bj).state) ((nth J.ways bj).gone) (U ((nth J.ways bj).been)) ((nth J.ways bj).shown) ((nth J.ways bj).timer))]) (aE++[aG.length])⟩::⟨(bX+1),5,[]⟩::List.map bc (aG++[(U ((nth J.ways bj).been))]))⟩).trans (cC [5]))
theorem Jw (J:Frame) (aF:gK J):dj Try.prog 61 [.agg (bS false J)] [] (fun r H=>r= .agg [ah ((U J).ok),ae 0 0 (((U J).al).length),ae 1 0 (((U J).ak).length),ae 2 0 (((U J).ways).length)]∧H=(⟨0,1,List.map aH ((U J).al)⟩::⟨0,2,List.map a1 ((U J).ak)⟩::⟨0,5,aT 3 ((U J).ways) (List.range ((U J).ways).length)⟩::List.map bc (List.map aa.been ((U J).ways)))):=Tz J (U J) (fun bs _ _ is v ws=>cg J.ways.length (fun _=>false) v∧ws=J.ways.take v.toNat∧is=List.range ws.length∧bs=ws.map aa.been) (fun _ _ _ _ v _=>cn J.ways.length v) (by
 unfold Ck
 obtain⟨wz,wA,DT,qY⟩:=aF
 refine⟨⟨wz,wA⟩,fun aC=>⟨⟨cS (de _),rfl,rfl,rfl⟩,fun bs aY bX is v ws aM=> ?_⟩⟩
 unfold Cm Cl
 obtain⟨aM,rfl,hi,hb⟩:=aM
 refine⟨fun hv=> ?_,fun hv=>⟨⟨b8 aM hv,qY _ (dt (b8 aM hv).2),?_,?_,?_⟩,⟨(cq (ci aC) aM hv rfl).1,?_,?_,?_⟩,(cq (ci aC) aM hv rfl).2⟩⟩
 ·have: ¬v<(J.ways.length:Int):=by simpa using hv
  have h1:=aM.1
  rw[List.take_of_length_le (by omega)] at hi hb ⊢
  exact⟨rfl,rfl,rfl,rfl,hi,hb⟩
 ·rw[hi];simp
 ·rw[List.length_take];omega
 ·rw[List.length_take];omega
 ·have b4:=b8 aM hv
  rw[ho (ci aC) b4.1 (by omega),show(v+1).toNat=v.toNat+1 by omega,List.take_succ_eq_append_getElem b4.2,←fv b4.2];rfl
 ·rw[hi,hb];simp[List.range_succ]
 ·rw[hb,List.map_append];rfl)
def TB:List Item:=[au 0,au 1,au 2,au 3,au 4,au 5,au 6,au 7,au 8,au 9,⟨10,true,false,[]⟩]
def TC:List (List Nat):=[[],[0],[],[2],[2,3],[],[5],rg 2 7,rg 0 8,[],rg 0 10]
def Jy (J:Frame) (aA:(List aa)) (bj:Int):Prop:=
  (small ((nth J.ways bj).been))∧((aA.length+[(aa.mk ((nth J.ways bj).state) ((nth J.ways bj).gone) (U ((nth J.ways bj).been)) ((nth J.ways bj).shown) ((nth J.ways bj).timer))].length)*56≤140737488355328∧aA.length+[(aa.mk ((nth J.ways bj).state) ((nth J.ways bj).gone) (U ((nth J.ways bj).been)) ((nth J.ways bj).shown) ((nth J.ways bj).timer))].length≤4611686018427387904)
def Jz (aw:Nat→(List aa)→Int→Prop) (ay:Nat→(List aa)→Int→Nat) (J:Frame) (aR:Nat) (aA:(List aa)) (bj:Int):Prop:=
  aw (aR+1) (aA++[(aa.mk ((nth J.ways bj).state) ((nth J.ways bj).gone) (U ((nth J.ways bj).been)) ((nth J.ways bj).shown) ((nth J.ways bj).timer))]) (IntKind.i64.wrap (bj+1))∧ay (aR+1) (aA++[(aa.mk ((nth J.ways bj).state) ((nth J.ways bj).gone) (U ((nth J.ways bj).been)) ((nth J.ways bj).shown) ((nth J.ways bj).timer))]) (IntKind.i64.wrap (bj+1))<ay aR aA bj
def JA (aw:Nat→(List aa)→Int→Prop) (ay:Nat→(List aa)→Int→Nat) (J ar:Frame):Prop:=
  aw 0 ([]:List aa) 0∧ ∀(aR:Nat) (aA:(List aa)) (bj:Int),aw aR aA bj→(((decide (bj<(J.ways.length:Int)))=false→(J.ok=ar.ok)∧((U J.al)=ar.al)∧((U J.ak)=ar.ak)∧(aA.length≤4611686018427387904∧aA=ar.ways))∧((decide (bj<(J.ways.length:Int)))=true→((0≤bj∧bj.toNat<J.ways.length)∧(Jy J aA bj))∧(Jz aw ay J aR aA bj)))
def Jx (J:Frame) (ar:Frame) (aw:Nat→(List aa)→Int→Prop) (ay:Nat→(List aa)→Int→Nat):Prop:=
 ((small J.al)∧(small J.ak))∧(J.ways.length≤4611686018427387904→JA aw ay J ar)
theorem JB (J:Frame) (aF:gK J):b3 Try.prog 61 [.agg (bS false J)] (.agg (bS true (U J))):=(fun(aw:Nat→(List aa)→Int→Prop) (ay:Nat→(List aa)→Int→Nat) (h:Jx J (U J) aw ay)=>b3.run (ps:=[.frame]) (rs:=[.frame]) (x:=(J,())) (r:=((U J),())) ⟨34,eN,[W9,W5]⟩ ⟨[],[(1,TB,TC)],[],[]⟩ (.lp [(4,3,.held)] [2,3,16,17] [(3,4),(2,4)] [.nat,(.l .held),.int] [bY 0,bY 0,18] (fun a_=>[(18,.i .i64 a_.2.2.1),(fB 3 3,.ref 0 a_.1 a_.2.1.length false),(bY 0,.blk a_.1 .held a_.2.1 _ rfl)]) (fun a_=>aw a_.1 a_.2.1 a_.2.2.1) (fun a_=>ay a_.1 a_.2.1 a_.2.2.1) fun _=> .nil) Try.func61 h) (fun _ x v=>cg J.ways.length (fun _=>false) v∧x=J.ways.take v.toNat) (fun _ _ v=>cn J.ways.length v) (by
 unfold Jx
 obtain⟨wz,wA,DT,qY⟩:=aF
 refine⟨⟨wz,wA⟩,fun aC=> ?_⟩
 unfold JA
 refine⟨⟨cS (de _),rfl⟩,fun aR aA v aM=> ?_⟩
 unfold Jz Jy
 obtain⟨aM,rfl⟩:=aM
 refine⟨fun hv=> ?_,fun hv=>⟨⟨b8 aM hv,qY _ (dt (b8 aM hv).2),?_,?_⟩,⟨(cq (ci aC) aM hv rfl).1,?_⟩,(cq (ci aC) aM hv rfl).2⟩⟩
 ·have: ¬v<(J.ways.length:Int):=by simpa using hv
  have h1:=aM.1
  rw[List.take_of_length_le (by omega)]
  exact⟨rfl,rfl,rfl,by omega,rfl⟩
 ·rw[List.length_take];simp only[List.length_cons,List.length_nil];omega
 ·rw[List.length_take];simp only[List.length_cons,List.length_nil];omega
 ·have b4:=b8 aM hv
  rw[ho (ci aC) b4.1 (by omega),show(v+1).toNat=v.toNat+1 by omega,List.take_succ_eq_append_getElem b4.2,←fv b4.2];rfl)
def TA:ev Try.prog:=⟨61,[.frame],[.frame],some fun x=>gK x.1,fun x=>((U x.1),()),fun x h=>JB x.1 h⟩
noncomputable def TU:Code:=hM Try.f79
def CG (J:aB) (M:Int) (ar:aa):Prop:=
  ((0≤M∧M.toNat<J.ways.length)∧(((nth J.ways M).ai).length≤4611686018427387904→0≤(((nth J.ways M).ai).length:Int)∧1*(((nth J.ways M).ai).length:Int)≤140737488355328∧(((nth J.ways M).ai).length:Int)≤4611686018427387904))∧(((nth J.ways M).ai).length≤4611686018427387904→(0=ar.state)∧(0=ar.gone)∧((List.replicate (((nth J.ways M).ai).length:Int).toNat false)=ar.been)∧(false=ar.shown)∧(0=ar.timer))
def CF (J:aB) (M:Int) (ar:aa):Prop:=
 CG J M ar
theorem TW (J:aB) (M:Int) (ar:aa) (h:CF J M ar):dj Try.prog 79 [.agg (a8 false J),ac M] [] (fun r H=>r= .agg [ac ar.state,ac ar.gone,ae 0 0 ar.been.length,ah ar.shown,ac ar.timer]∧H=[⟨0,1,List.map aH ar.been⟩]):=by
 refine dj.toOwn ?_
 unfold CF at h
 refine dj.go (fn:=Try.f79) [(0,.agg (a8 false J)),(1,ac M)] Try.func79 ?_
 show WpS _ (bK TU 1) _ ⟨a4 14 [(0,.agg (a8 false J)),(1,ac M)],[],[]⟩
 refine m_ [] 0 [(4,an 4 0),(2,an 2 0)] [2] [0,1,1] [(4,[ac 0,ac 0,ao,ah false,ac 0]),(2,(a8 false J))] [] ?_
 unfold CG at h
 obtain⟨cT,h⟩:=h
 refine dD [] [1] (fun L=>fM 0 2 (ae 0 0 ((List.replicate (((nth J.ways M).ai).length:Int).toNat false).length)) L) (fun _=>[⟨0,1,List.map aH (List.replicate (((nth J.ways M).ai).length:Int).toNat false)⟩]) (((nth J.ways M).ai).length≤4611686018427387904) ?_ (fun q2=> ?_)
 ·
  replace h:=cT
  refine bm [] 1 ?_
  obtain⟨cx,h⟩:=h
  refine hT 4 (some 8) [(7,ac M),(6,bo (c9 false) J.ways),(5,an 2 2)] (c9 false) J.ways 5 cx ?_
  refine sLen 3 (some 11) [(10,bo bW ((nth J.ways M).ai)),(9,.cZ (c9 false (nth J.ways M)) 0)] bW ((nth J.ways M).ai) (fun q3=> ?_)
  replace h:=h q3
  have q4:=h
  refine Ep 1 (some 12) [] aH 1 [ah false] 0 (fun r=>[⟨0,1,r⟩]) false q4 ?_
  exact bL [(13,.agg [ac 0,ac 0,ae 0 0 ((List.replicate (((nth J.ways M).ai).length:Int).toNat false).length),ah false,ac 0])] q3
 replace h:=h q2
 refine e8 ?_
 refine lz (.agg [ac 0,ac 0,ae 0 0 ((List.replicate (((nth J.ways M).ai).length:Int).toNat false).length),ah false,ac 0]) [.agg [ac 0,ac 0,ae 0 0 ((List.replicate (((nth J.ways M).ai).length:Int).toNat false).length),ah false,ac 0]] ?_
 exact⟨nz [some 0],o0 [some 0] rfl (by decide) ⟨rfl,(pb (b:=0) (g:=0) (sz:=1) (xs:=(List.replicate (((nth J.ways M).ai).length:Int).toNat false)) (ys:=ar.been) rfl ww (h.2.2.1)),trivial⟩,(.inl ⟨_,_,rfl,rfl,(av.cons (DR (a:=0) (b:=ar.state) (h.1)) (av.cons (DR (a:=0) (b:=ar.gone) (h.2.1)) (av.cons (sr (by simp) rfl rfl (by have:=congrArg List.length (h.2.2.1);simpa using this)) (av.cons (VL (a:=false) (b:=ar.shown) (h.2.2.2.1)) (av.cons (DR (a:=0) (b:=ar.timer) (h.2.2.2.2)) av.nil)))))⟩)⟩
theorem yL (J:aB) (M:Int) (aF:uc J M):dj Try.prog 79 [.agg (a8 false J),ac M] [] (fun r H=>r= .agg [ac ((a2 J M).state),ac ((a2 J M).gone),ae 0 0 (((a2 J M).been).length),ah ((a2 J M).shown),ac ((a2 J M).timer)]∧H=[⟨0,1,List.map aH ((a2 J M).been)⟩]):=TW J M (a2 J M) (by
 unfold CF CG
 obtain⟨cA,a0,h1⟩:=aF
 have bg:M.toNat<J.ways.length:=by omega
 have:=(cA.ai _ (dt bg)).2.1
 exact⟨⟨⟨a0,bg⟩,fun _=>⟨de _,by omega,by omega⟩⟩,fun _=>⟨rfl,rfl,by show List.replicate _ _=List.replicate _ _;simp,rfl,rfl⟩⟩)
def JU (aw:Int→Prop) (ay:Int→Nat) (J:Frame) (M:(List Int)) (ar:Bool):Prop:=
  M.length≤4611686018427387904→aw 0∧ ∀(bU:Int),aw bU→(((decide (bU<(M.length:Int)))=false→false=ar)∧((decide (bU<(M.length:Int)))=true→((0≤bU∧bU.toNat<M.length)∧((0≤(nth M bU)∧(nth M bU).toNat<J.al.length)∧((nth J.al (nth M bU))=true→true=ar)))∧((!(nth J.al (nth M bU)))=true→aw (IntKind.i64.wrap (bU+1))∧ay (IntKind.i64.wrap (bU+1))<ay bU)))
def JT (J:Frame) (M:(List Int)) (ar:Bool) (aw:Int→Prop) (ay:Int→Nat):Prop:=
 JU aw ay J M ar
theorem JV (J:Frame) (M:(List Int)) (aF:sO J M):b3 Try.prog 124 [.agg (bS false J),bo bW M] (ah (fZ J M)):=(fun(aw:Int→Prop) (ay:Int→Nat) (h:JT J M (fZ J M) aw ay)=>b3.run (ps:=[.frame,(.l .int)]) (rs:=[.bool]) (x:=(J,M,())) (r:=((fZ J M),())) ⟨19,eN,[]⟩ ⟨[],[],[],[]⟩ (e1 [2,7,8] [(2,4)] 9 aw ay fun _=> .nil) Try.func124 h) (cg M.length (fun j=>dF J (nth M j))) (cn M.length) (by
 unfold JT JU
 intro aC
 refine⟨cS (de _),fun v aM=>⟨fun hv=> ?_,fun hv=>⟨⟨b8 aM hv,?_,fun hb=> ?_⟩,fun hb=>cq (ci aC) aM hv (not_eq hb)⟩⟩⟩
 ·exact(w7 (q:=fun x=>dF J x) aM hv).symm
 ·have:=aF _ (dt (b8 aM hv).2)
  exact⟨this.1,by omega⟩
 ·exact(zL (q:=fun x=>dF J x) aM hv hb).symm)
def Un:ev Try.prog:=⟨124,[.frame,(.l .int)],[.bool],some fun x=>sO x.1 x.2.1,fun x=>((fZ x.1 x.2.1),()),fun x h=>JV x.1 x.2.1 h⟩
def Ua:List Item:=[au 0,au 1,au 2,au 3,au 4,au 5,au 6,au 7,au 8,au 9,au 10,au 11]
def Ub:List (List Nat):=[[],[0],[],[2],rg 0 4,rg 0 5,[],[6],[],[8],rg 6 10,rg 0 11]
def JP (aw:Int→Prop) (ay:Int→Nat) (J:aB) (M:Frame) (O:Int) (ar:Bool) (bj:Int):Prop:=
  ((0≤bj∧bj.toNat<(bq (nth J.ways O)).length)∧((0≤((nth (bq (nth J.ways O)) bj).bb)∧((nth (bq (nth J.ways O)) bj).bb).toNat<M.ak.length)∧((!(((nth M.ak ((nth (bq (nth J.ways O)) bj).bb)).want)==((nth (bq (nth J.ways O)) bj).bx)&&((nth M.ak ((nth (bq (nth J.ways O)) bj).bb)).aZ)==((nth (bq (nth J.ways O)) bj).bx)))=true→false=ar)))∧((!(!(((nth M.ak ((nth (bq (nth J.ways O)) bj).bb)).want)==((nth (bq (nth J.ways O)) bj).bx)&&((nth M.ak ((nth (bq (nth J.ways O)) bj).bb)).aZ)==((nth (bq (nth J.ways O)) bj).bx))))=true→aw (IntKind.i64.wrap (bj+1))∧ay (IntKind.i64.wrap (bj+1))<ay bj)
def JQ (aw:Int→Prop) (ay:Int→Nat) (J:aB) (M:Frame) (O:Int) (ar:Bool) (bj:Int):Prop:=
  ((decide (bj<((bq (nth J.ways O)).length:Int)))=false→((sO M ((nth J.ways O).ai))∧((!(fZ M ((nth J.ways O).ai)))=true→sO M ((nth J.ways O).cw)))∧(((!(fZ M ((nth J.ways O).ai)))&&(!(fZ M ((nth J.ways O).cw))))=ar))∧((decide (bj<((bq (nth J.ways O)).length:Int)))=true→JP aw ay J M O ar bj)
def JO (J:aB) (M:Frame) (O:Int) (ar:Bool) (aw:Int→Prop) (ay:Int→Nat):Prop:=
 (0≤O∧O.toNat<J.ways.length)∧((uE (nth J.ways O))∧((bq (nth J.ways O)).length≤4611686018427387904→aw 0∧ ∀(bj:Int),aw bj→(JQ aw ay J M O ar bj)))
theorem T_ (J:aB) (M:Frame) (O:Int) (aF:uF J M O):b3 Try.prog 108 [.agg (a8 false J),.agg (bS false M),ac O] (ah (fG J M O)):=(fun(aw:Int→Prop) (ay:Int→Nat) (h:JO J M O (fG J M O) aw ay)=>b3.run (ps:=[.dW,.frame,.int]) (rs:=[.bool]) (x:=(J,M,O,())) (r:=((fG J M O),())) ⟨47,eN,[CJ,Un]⟩ ⟨[],[(5,Ua,Ub)],[],[]⟩ (e1 [4,7,16,17] [(7,5),(4,4)] 18 aw ay fun _=> .nil) Try.func108 h) (cg (bq (nth J.ways O)).length (fun j=> !((nth M.ak (nth (bq (nth J.ways O)) j).bb).want==(nth (bq (nth J.ways O)) j).bx&&(nth M.ak (nth (bq (nth J.ways O)) j).bb).aZ==(nth (bq (nth J.ways O)) j).bx))) (cn (bq (nth J.ways O)).length) (by
 unfold JO
 obtain⟨cA,da,a0,h1⟩:=aF
 have bg:O.toNat<J.ways.length:=by omega
 have hw:=dt bg
 obtain⟨sf,lT,C6⟩:=cA.aZ _ hw
 have oM:=da.al
 have pN:sO M (nth J.ways O).ai:=fun x hx=>by have:=(cA.ai _ hw).2.2 x hx;omega
 have SE:sO M (nth J.ways O).cw:=fun x hx=>by have:=(cA.cw _ hw).2 x hx;omega
 refine⟨⟨a0,bg⟩,⟨by omega,by omega⟩,fun aC=>⟨cS (de _),fun v aM=> ?_⟩⟩
 unfold JQ JP
 have aj: ∀l:ch,decide (nth M.ak l.bb=⟨l.bx,l.bx⟩)=((nth M.ak l.bb).want==l.bx&&(nth M.ak l.bb).aZ==l.bx):=fun l=>by
  rcases nth M.ak l.bb with⟨x,y⟩
  rw[Bool.eq_iff_iff];simp
 refine⟨fun hv=>⟨⟨pN,fun _=>SE⟩,?_⟩,fun hv=>⟨⟨b8 aM hv,?_,fun hb=> ?_⟩,fun hb=> ?_⟩⟩
 ·have dZ:=lD (q:=fun l:ch=> !((nth M.ak l.bb).want==l.bx&&(nth M.ak l.bb).aZ==l.bx)) (ga aM hv)
  unfold fG
  have:(bq (nth J.ways O)).all (fun l=>decide (nth M.ak l.bb=⟨l.bx,l.bx⟩))=true:=by
   rw[List.all_eq_true]
   intro l aI
   rw[aj]
   simpa using dZ l aI
  rw[this,Bool.true_and]
 ·have:=C6 _ (dt (b8 aM hv).2)
  have h2:=da.ak
  exact⟨this.1,by omega⟩
 ·unfold fG
  have:(bq (nth J.ways O)).all (fun l=>decide (nth M.ak l.bb=⟨l.bx,l.bx⟩))=false:=by
   rw[←Bool.not_eq_true,List.all_eq_true]
   intro a6
   have:=a6 _ (dt (b8 aM hv).2)
   rw[aj] at this
   rw[this] at hb;cases hb
  rw[this];rfl
 ·exact cq (ci aC) aM hv (not_eq hb))
end Go.Proofs.Ytglpfccgmfhkdaa.Fw
