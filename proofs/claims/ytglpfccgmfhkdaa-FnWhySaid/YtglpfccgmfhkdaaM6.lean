/- Walks and summaries of functions, printed by a program of mine (tools/mk2.py), with the proofs of what they owe. -/
import Derived.Test.YtglpfccgmfhkdaaM5
set_option linter.unusedVariables false
set_option maxRecDepth 100000
set_option maxHeartbeats 4000000
set_option linter.unusedSimpArgs false
namespace Go.Proofs.Ytglpfccgmfhkdaa.Fw
open Go
attribute [local irreducible] evS evSD WpS Weak Oper.looksAt
noncomputable def acR:Code:=iz Try.f41
def Qe (J:az) (M:Frame) (al:Bool):Prop:=
  (HD J (aa M).ok (aa M).au (aa M).an (aa M).O (List.range (aa M).O.length) (List.map ad.ac (aa M).O))∧(∀(fj:List ad) (i28:List Nat) (kV:List (List Bool)),zM J (aa M).ok (aa M).au (aa M).an (aa M).O (List.range (aa M).O.length) (List.map ad.ac (aa M).O) (aa M).au (aa M).an fj i28 kV→(((aa M).au.length≤4611686018427387904∧(aa M).an.length≤4611686018427387904∧(j_ fj i28 kV∧fj.length≤4611686018427387904∧(∀x∈kV,List.length x≤4611686018427387904))∧PD M (Frame.mk (aa M).ok (aa M).au (aa M).an (view fj i28 kV)))∧((oq M (Frame.mk (aa M).ok (aa M).au (aa M).an (view fj i28 kV)))=al)))
def H8 (J:az) (M:Frame) (al:Bool) (cy dw:Int):Prop:=
  ((dw !=cy)=true→(0≤dw∧dw.toNat<J.bU.length)∧((0≤cy∧cy.toNat<(nth J.bU dw).length)∧((nth (nth J.bU dw) cy)=true→(0≤dw∧dw.toNat<M.O.length)∧(((nth M.O dw).aq !=0)=true→0≤cy∧cy.toNat<M.O.length))))∧(((dw !=cy)&&((nth (nth J.bU dw) cy)&&(((nth M.O dw).aq !=0)&&((nth M.O cy).aq !=0))))=true→false=al)
def H9 (aY:Int→Int→Prop) (a0:Int→Int→Nat) (bG:dM Prop) (bD:dM Nat) (J:az) (M:Frame) (al:Bool) (eP cy dw:Int):Prop:=
  ((decide (cy<(M.O.length:Int)))=false→aY eP (IntKind.i64.wrap (dw+1))∧a0 eP (IntKind.i64.wrap (dw+1))<a0 eP dw)∧((decide (cy<(M.O.length:Int)))=true→(H8 J M al cy dw)∧((!((dw !=cy)&&((nth (nth J.bU dw) cy)&&(((nth M.O dw).aq !=0)&&((nth M.O cy).aq !=0)))))=true→bG eP dw (IntKind.i64.wrap (cy+1))∧bD eP dw (IntKind.i64.wrap (cy+1))<bD eP dw cy))
def H_ (ay:Int→Prop) (aA:Int→Nat) (aY:Int→Int→Prop) (a0:Int→Int→Nat) (bG:dM Prop) (bD:dM Nat) (J:az) (M:Frame) (al:Bool) (eP:Int):Prop:=
  ((decide (eP<(M.an.length:Int)))=false→M.O.length≤4611686018427387904→aY eP 0∧ ∀(dw:Int),aY eP dw→(((decide (dw<(M.O.length:Int)))=false→(hM M)∧(Qe J M al))∧((decide (dw<(M.O.length:Int)))=true→((Lz J M dw)∧((!(ha J M dw))=true→false=al))∧((!(!(ha J M dw)))=true→bG eP dw 0∧ ∀(cy:Int),bG eP dw cy→(H9 aY a0 bG bD J M al eP cy dw)))))∧((decide (eP<(M.an.length:Int)))=true→((0≤eP∧eP.toNat<M.an.length)∧(((!(bY (nth M.an eP).cC 1 2)) || (!(bY (nth M.an eP).a2 0 2)))=true→false=al))∧((!((!(bY (nth M.an eP).cC 1 2)) || (!(bY (nth M.an eP).a2 0 2))))=true→ay (IntKind.i64.wrap (eP+1))∧aA (IntKind.i64.wrap (eP+1))<aA eP))
def Ia (ay:Int→Prop) (aA:Int→Nat) (aY:Int→Int→Prop) (a0:Int→Int→Nat) (bG:dM Prop) (bD:dM Nat) (J:az) (M:Frame) (al:Bool):Prop:=
  (((!(ek J)) || ((!M.ok) || (((M.au.length:Int) !=J.ai) || (((M.an.length:Int) !=(J.be.length:Int)) || ((M.O.length:Int) !=(J.O.length:Int))))))=true→false=al)∧((!((!(ek J)) || ((!M.ok) || (((M.au.length:Int) !=J.ai) || (((M.an.length:Int) !=(J.be.length:Int)) || ((M.O.length:Int) !=(J.O.length:Int)))))))=true→M.an.length≤4611686018427387904→ay 0∧ ∀(eP:Int),ay eP→(H_ ay aA aY a0 bG bD J M al eP))
def H7 (J:az) (M:Frame) (al:Bool) (ay:Int→Prop) (aA:Int→Nat) (aY:Int→Int→Prop) (a0:Int→Int→Nat) (bG:dM Prop) (bD:dM Nat):Prop:=
 Ia ay aA aY a0 bG bD J M al
theorem acT (J:az) (M:Frame) (al:Bool) (ay:Int→Prop) (aA:Int→Nat) (aY:Int→Int→Prop) (a0:Int→Int→Nat) (bG:dM Prop) (bD:dM Nat) (h:H7 J M al ay aA aY a0 bG bD):bX Try.prog 41 [.agg (bq false J),.agg (bS false M)] (ao al):=by
 unfold H7 at h
 refine dF.go (fn:=Try.f41) [(0,.agg (bq false J)),(1,.agg (bS false M))] Try.func41 (fun _ _=> ?_)
 show WpS _ (bT acR 1) _ ⟨bf 119 [(0,.agg (bq false J)),(1,.agg (bS false M))],[],[]⟩
 refine WpS.mF ?_ (hB (s'':=⟨(bf 119 [(0,.agg (bq false J)),(1,.agg (bS false M))]),[],[⟨0,4,[]⟩]⟩) (Weak.wY (T:=(bf 119 [(0,.agg (bq false J)),(1,.agg (bS false M))])) (L:=[]) (H:=[]) 4) (by kernel_rfl))
 refine qf [2000009] 0 [(4,ao false),(3,aB 3 0),(2,aB 2 0)] [0,1,2] [] [(3,(bS false M)),(2,(bq false J))] [⟨0,4,[]⟩] ?_
 unfold Ia at h
 obtain⟨O4,h⟩:=h
 refine cB [] [2] ((!((!(ek J)) || ((!M.ok) || (((M.au.length:Int) !=J.ai) || (((M.an.length:Int) !=(J.be.length:Int)) || ((M.O.length:Int) !=(J.O.length:Int)))))))=true) ?_ (fun q2=> ?_)
 ·
  replace h:=O4
  refine cB [(43,ao ((!(ek J)) || ((!M.ok) || (((M.au.length:Int) !=J.ai) || (((M.an.length:Int) !=(J.be.length:Int)) || ((M.O.length:Int) !=(J.O.length:Int)))))))] [2] (True) ?_ (fun q3=> ?_)
  ·
   refine bJ [2000009] 1 ?_
   refine mu 2 (some 11) [(10,.agg (bq false J))] [.agg (bq false J)] (Ie J) (aE.cons (dc.agg (aE.cons (.int _ _) (aE.cons cW (aE.cons cW (aE.cons cW (aE.cons (.int _ _) aE.nil)))))) aE.nil) ?_
   refine nB 2 13 (!(ek J)) [(12,ao (!(ek J)))] (fun q4=> ?_) (fun q4=> ?_)
   ·
    exact b1 ([(43,ao true)]++gp [42,41,40,39,38,37,36]++[(35,ao true),(34,ao true)]++gp [33,32,31,30,29,28,27]++[(26,ao true),(25,ao true)]++gp [24,23,22,21,20,19]++[(18,ao true),(17,ao true)]++gp [16,15,14]) trivial (by simp only[q4]<;>kernel_rfl)
   ·
    refine nB 5 18 (!M.ok) [(17,ao (!M.ok)),(16,ao (!M.ok)),(15,ao M.ok),(14,aB 3 0)] (fun cL=> ?_) (fun cL=> ?_)
    ·
     exact b1 ([(43,ao true)]++gp [42,41,40,39,38,37,36]++[(35,ao true),(34,ao true)]++gp [33,32,31,30,29,28,27]++[(26,ao true),(25,ao true)]++gp [24,23,22,21,20,19]) trivial (by simp only[q4,cL]<;>kernel_rfl)
    ·
     refine sLen 3 (some 21) [(20,bE aW M.au),(19,aB 3 1)] aW M.au (fun cY=> ?_)
     refine nB 5 26 ((M.au.length:Int) !=J.ai) [(25,ao ((M.au.length:Int) !=J.ai)),(24,ao ((M.au.length:Int) !=J.ai)),(23,ag J.ai),(22,aB 2 0)] (fun fL=> ?_) (fun fL=> ?_)
     ·
      exact b1 ([(43,ao true)]++gp [42,41,40,39,38,37,36]++[(35,ao true),(34,ao true)]++gp [33,32,31,30,29,28,27]) trivial (by simp only[q4,cL,fL]<;>kernel_rfl)
     ·
      refine sLen 3 (some 29) [(28,bE a5 M.an),(27,aB 3 2)] a5 M.an (fun fB=> ?_)
      refine sLen 3 (some 32) [(31,bE db J.be),(30,aB 2 1)] db J.be (fun jr=> ?_)
      refine nB 3 35 ((M.an.length:Int) !=(J.be.length:Int)) [(34,ao ((M.an.length:Int) !=(J.be.length:Int))),(33,ao ((M.an.length:Int) !=(J.be.length:Int)))] (fun gB=> ?_) (fun gB=> ?_)
      ·
       exact b1 ([(43,ao true)]++gp [42,41,40,39,38,37,36]) trivial (by simp only[q4,cL,fL,gB]<;>kernel_rfl)
      ·
       refine sLen 3 (some 38) [(37,bE (cX false) M.O),(36,aB 3 3)] (cX false) M.O (fun hY=> ?_)
       refine sLen 3 (some 41) [(40,bE (dx false) J.O),(39,aB 2 2)] (dx false) J.O (fun iV=> ?_)
       exact b1 [(43,ao ((M.O.length:Int) !=(J.O.length:Int))),(42,ao ((M.O.length:Int) !=(J.O.length:Int)))] trivial (by simp only[q4,cL,fL,gB]<;>kernel_rfl)
  refine dJ (fun fK=> ?_) (fun fK=> ?_)
  ·
   replace h:=h fK
   refine ev [2000009] 2 [(4,ao false)] [1] [] ?_
   exact hC (ck.ret (nz (ao false) (iy.ia (nD h))))
  ·
   refine ew ?_
   exact ck.normal (by simp only[fK]<;>rfl) eo
 replace h:=h q2
 refine hP ?_
 refine cB [(45,bE a5 M.an),(46,ag (M.an.length:Int)),(47,ag 0)] [2] (M.an.length≤4611686018427387904) ?_ (fun io=> ?_)
 ·
  refine bJ [2000009] 3 ?_
  refine sLen 3 (some 46) [(45,bE a5 M.an),(44,aB 3 2)] a5 M.an (fun kO=> ?_)
  exact b1 [(47,ag 0)] kO
 replace h:=h io
 refine fw 0 ?_
 obtain⟨m3,h⟩:=h
 refine kz (fun(v:Int)=>(⟨(bf 119 [(2,aB 2 0),(3,aB 3 0),(45,bE a5 M.an),(46,ag (M.an.length:Int)),(47,ag v)]),[(3,(bS false M)),(2,(bq false J))],[⟨0,4,[]⟩]⟩:St)) (fun(v:Int)=>ay v) (fun(v:Int)=>aA v) 0 (dE []) m3 (fun eP aX=> ?_)
 replace h:=h eP aX
 refine ev [2000009] 4 [(48,ao (decide (eP<(M.an.length:Int))))] [1] [5] ?_
 unfold H_ at h
 obtain⟨xm,h⟩:=h
 refine cB [] [0,1,5] ((decide (eP<(M.an.length:Int)))=true) ?_ (fun lx=> ?_)
 ·
  replace h:=xm
  refine dJ (fun g5=> ?_) (fun g5=> ?_)
  ·
   refine ew ?_
   exact ck.normal (by simp only[q2,g5]<;>rfl) eo
  ·
   replace h:=h g5
   refine je 0 ?_
   refine ck.exit ?_
   refine eb.exit ?_
   refine cn.here ?_
   refine ec.normal ?_
   refine hP ?_
   refine ka ⟨(bf 119 [(2,aB 2 0),(3,aB 3 0),(64,ag (M.O.length:Int)),(65,ag 0)]),[(3,(bS false M)),(2,(bq false J))],[⟨0,4,[]⟩]⟩ (M.O.length≤4611686018427387904) ?_ (fun hZ=> ?_)
   ·
    refine bJ [2000009] 9 ?_
    refine sLen 3 (some 64) [(63,bE (cX false) M.O),(62,aB 3 3)] (cX false) M.O (fun kp=> ?_)
    exact b1 [(65,ag 0)] kp
   replace h:=h hZ
   refine fw 2 ?_
   obtain⟨r9,h⟩:=h
   refine kz (fun(v:Int)=>(⟨(bf 119 [(2,aB 2 0),(3,aB 3 0),(64,ag (M.O.length:Int)),(65,ag v)]),[(3,(bS false M)),(2,(bq false J))],[⟨0,4,[]⟩]⟩:St)) (fun(v:Int)=>aY eP v) (fun(v:Int)=>a0 eP v) 0 (dE []) r9 (fun dw aX=> ?_)
   replace h:=h dw aX
   refine ev [2000009] 10 [(66,ao (decide (dw<(M.O.length:Int))))] [1] [4] ?_
   obtain⟨pR,h⟩:=h
   refine cB [] [0,1,4] ((decide (dw<(M.O.length:Int)))=true) ?_ (fun ib=> ?_)
   ·
    replace h:=pR
    refine dJ (fun g6=> ?_) (fun g6=> ?_)
    ·
     refine ew ?_
     exact ck.normal (by simp only[q2,g5,g6]<;>rfl) eo
    ·
     replace h:=h g6
     refine je 2 ?_
     refine ck.exit ?_
     refine eb.exit ?_
     refine cn.here ?_
     refine ec.normal ?_
     obtain⟨ly,h⟩:=h
     refine ka ⟨(bf 119 [(2,aB 2 0),(3,aB 3 0),(9,.ptr 0 1 0 0)]),[(3,(bS false M)),(2,(bq false J))],(⟨1,4,[[ao (aa M).ok,ak 1 0 (aa M).au.length,ak 2 0 (aa M).an.length,ak 3 0 (aa M).O.length]]⟩::⟨0,1,List.map aW (aa M).au⟩::⟨0,2,List.map a5 (aa M).an⟩::⟨0,5,aZ 4 (aa M).O (List.range (aa M).O.length)⟩::List.map bi (List.map ad.ac (aa M).O))⟩ (True) ?_ (fun ir=> ?_)
     ·
      replace h:=ly
      refine bJ [2000009] 21 ?_
      have h0:=h
      refine tk 2 (some 113) [(112,.agg (bS false M))] [.agg (bS false M)] (.agg [ao (aa M).ok,ak 1 0 (aa M).au.length,ak 2 0 (aa M).an.length,ak 3 0 (aa M).O.length]) (⟨0,4,[]⟩::⟨0,1,List.map aW (aa M).au⟩::⟨0,2,List.map a5 (aa M).an⟩::⟨0,5,aZ 4 (aa M).O (List.range (aa M).O.length)⟩::List.map bi (List.map ad.ac (aa M).O)) (QF M h0) (aE.cons (dc.agg (aE.cons (.bool _) (aE.cons cW (aE.cons cW (aE.cons cW aE.nil))))) aE.nil) B_ (sf PN (by kernel_rfl)) ?_ (er:=by simp[m6,ot,iW])
      refine zF 1 [(9,.ptr 0 1 0 0)] [(3,(bS false M)),(2,(bq false J))] (⟨1,4,[[ao false,aH,aH,aH]]⟩::⟨0,1,List.map aW (aa M).au⟩::⟨0,2,List.map a5 (aa M).an⟩::⟨0,5,aZ 4 (aa M).O (List.range (aa M).O.length)⟩::List.map bi (List.map ad.ac (aa M).O)) ?_
      refine Pz 1 [] (⟨1,4,[[ao (aa M).ok,ak 1 0 (aa M).au.length,ak 2 0 (aa M).an.length,ak 3 0 (aa M).O.length]]⟩::⟨0,1,List.map aW (aa M).au⟩::⟨0,2,List.map a5 (aa M).an⟩::⟨0,5,aZ 4 (aa M).O (List.range (aa M).O.length)⟩::List.map bi (List.map ad.ac (aa M).O)) (φ:=1=1) (ψ:=4≤4) rfl (by decide) ?_
      exact b1 [] trivial
     unfold Qe at h
     refine hP ?_
     refine bJ [2000009] 22 ?_
     obtain⟨g7,h⟩:=h
     refine tj 2 (some 115) [(114,.agg (bq false J))] [.agg (bq false J),.ptr 0 1 0 0] _ (Q0 J 1 (aa M).ok (aa M).au (aa M).an (aa M).O (List.range (aa M).O.length) (List.map ad.ac (aa M).O) g7) (fun r H' aj=>by obtain⟨_,_,_,rfl,_⟩:=aj;rfl) ?_
     rintro r H' ⟨fj,i28,kV,rfl,rfl,oZ⟩
     replace h:=h fj i28 kV oZ
     refine dX [] ?_
     refine ec.normal ?_
     obtain⟨k6,h⟩:=h
     refine ka ⟨(bf 119 [(4,ao (oq M (Frame.mk (aa M).ok (aa M).au (aa M).an (view fj i28 kV))))]),[(3,(bS false M)),(2,(bq false J))],(⟨1,4,[[ao (aa M).ok,ak 1 0 (aa M).au.length,ak 2 0 (aa M).an.length,ak 3 0 fj.length]]⟩::⟨0,1,List.map aW (aa M).au⟩::⟨0,2,List.map a5 (aa M).an⟩::⟨0,5,aZ 4 fj i28⟩::List.map bi kV)⟩ (True) ?_ (fun oi=> ?_)
     ·
      replace h:=k6
      refine bJ [2000009] 23 ?_
      refine nA 2 (some 117) (.agg [ao (aa M).ok,ak 1 0 (aa M).au.length,ak 2 0 (aa M).an.length,ak 3 0 fj.length]) [(116,.agg (bS false M))] (φ:=1=1) rfl ?_
      obtain⟨j2,l2,jo,k5⟩:=h
      refine mu 1 (some 118) [] [.agg (bS false M),.agg [ao (aa M).ok,ak 1 0 (aa M).au.length,ak 2 0 (aa M).an.length,ak 3 0 fj.length]] (adC M (Frame.mk (aa M).ok (aa M).au (aa M).an (view fj i28 kV)) k5) (aE.cons (dc.agg (aE.cons (.bool _) (aE.cons cW (aE.cons cW (aE.cons cW aE.nil))))) (aE.cons (dc.agg (aE.cons (.bool _) (aE.cons (m5 (sz:=1) (by simp) rfl (sT) j2) (aE.cons (m5 (sz:=2) (by simp) rfl (uy) l2) (aE.cons (tn (s:=4) (ws:=fj) (ids:=i28) (bs:=kV) (by simp) rfl (fun id k h=>by simpa using h) jo.1 jo.2.1 jo.2.2) aE.nil))))) aE.nil)) ?_
      exact b1 [(4,ao (oq M (Frame.mk (aa M).ok (aa M).au (aa M).an (view fj i28 kV))))] trivial
     exact hC (nz (ao (oq M (Frame.mk (aa M).ok (aa M).au (aa M).an (view fj i28 kV)))) (iy.ia (nD h)))
   replace h:=h ib
   refine hP ?_
   refine fw 3 ?_
   refine ev [2000009] 11 [(7,ag dw),(67,ag dw)] [1] [4] ?_
   obtain⟨Cn,h⟩:=h
   refine cB [] [5] ((!(!(ha J M dw)))=true) ?_ (fun jp=> ?_)
   ·
    replace h:=Cn
    obtain⟨mn,h⟩:=h
    refine cB [(72,ao (!(ha J M dw)))] [5] (True) ?_ (fun nw=> ?_)
    ·
     replace h:=mn
     refine bJ [2000009] 12 ?_
     have l3:=h
     refine mu 4 (some 71) [(70,ag dw),(69,.agg (bS false M)),(68,.agg (bq false J))] [.agg (bq false J),.agg (bS false M),ag dw] (adr J M dw l3) (aE.cons (dc.agg (aE.cons (.int _ _) (aE.cons cW (aE.cons cW (aE.cons cW (aE.cons (.int _ _) aE.nil)))))) (aE.cons (dc.agg (aE.cons (.bool _) (aE.cons cW (aE.cons cW (aE.cons cW aE.nil))))) (aE.cons (dc.ia (.int _ _)) aE.nil))) ?_
     exact b1 [(72,ao (!(ha J M dw)))] trivial
    refine dJ (fun k7=> ?_) (fun k7=> ?_)
    ·
     replace h:=h k7
     refine ev [2000009] 13 [(4,ao false)] [1] [] ?_
     exact hC (ck.ret (cn.ret (ec.ret (eb.ret (cn.ret (ec.ret (nz (ao false) (iy.ia (nD h)))))))))
    ·
     refine ew ?_
     exact ck.normal (by simp only[q2,g5,ib,k7]<;>rfl) eo
   replace h:=h jp
   refine cB [(75,ag (M.O.length:Int)),(76,ag 0)] [5] (True) ?_ (fun m0=> ?_)
   ·
    refine bJ [2000009] 14 ?_
    refine sLen 3 (some 75) [(74,bE (cX false) M.O),(73,aB 3 3)] (cX false) M.O (fun m1=> ?_)
    exact b1 [(76,ag 0)] trivial
   refine fw 4 ?_
   obtain⟨kP,h⟩:=h
   refine kz (fun(v:Int)=>(⟨(bf 119 [(2,aB 2 0),(3,aB 3 0),(7,ag dw),(64,ag (M.O.length:Int)),(65,ag dw),(75,ag (M.O.length:Int)),(76,ag v)]),[(3,(bS false M)),(2,(bq false J))],[⟨0,4,[]⟩]⟩:St)) (fun(v:Int)=>bG eP dw v) (fun(v:Int)=>bD eP dw v) 0 (dE []) kP (fun cy aX=> ?_)
   replace h:=h cy aX
   refine ev [2000009] 15 [(77,ao (decide (cy<(M.O.length:Int))))] [1] [7] ?_
   unfold H9 at h
   obtain⟨m2,h⟩:=h
   refine cB [] [0,1,7] ((decide (cy<(M.O.length:Int)))=true) ?_ (fun l5=> ?_)
   ·
    replace h:=m2
    refine dJ (fun jq=> ?_) (fun jq=> ?_)
    ·
     refine ew ?_
     exact ck.normal (by simp only[q2,g5,ib,jp,jq]<;>rfl) eo
    ·
     replace h:=h jq
     refine je 4 ?_
     refine ck.exit ?_
     refine eb.exit ?_
     refine cn.here ?_
     refine cn.normal ?_
     refine ec.normal ?_
     refine bJ [2000009] 20 ?_
     refine dX [(65,ag (IntKind.i64.wrap (dw+1))),(111,ag (IntKind.i64.wrap (dw+1)))] ?_
     exact eb.again (IntKind.i64.wrap (dw+1)) h (dE [])
   replace h:=h l5
   obtain⟨nx,h⟩:=h
   refine cB [] [7] ((!((dw !=cy)&&((nth (nth J.bU dw) cy)&&(((nth M.O dw).aq !=0)&&((nth M.O cy).aq !=0)))))=true) ?_ (fun r8=> ?_)
   ·
    replace h:=nx
    refine fw 5 ?_
    refine ev [2000009] 16 [(8,ag cy),(78,ag cy)] [1] [7] ?_
    unfold H8 at h
    obtain⟨om,h⟩:=h
    refine cB [(109,ao ((dw !=cy)&&((nth (nth J.bU dw) cy)&&(((nth M.O dw).aq !=0)&&((nth M.O cy).aq !=0)))))] [0,1,7] (True) ?_ (fun mo=> ?_)
    ·
     replace h:=om
     refine bJ [2000009] 17 ?_
     refine nB 4 82 (dw !=cy) [(81,ao (dw !=cy)),(80,ag cy),(79,ag dw)] (fun o0=> ?_) (fun o0=> ?_)
     ·
      replace h:=h o0
      obtain⟨xk,h⟩:=h
      refine kQ 4 (some 86) [(85,ag dw),(84,bE (iO aW false) J.bU),(83,aB 2 3)] (iO aW false) J.bU 1 xk ?_
      obtain⟨mr,h⟩:=h
      refine kQ 3 (some 89) [(88,ag cy),(87,bE aW (nth J.bU dw))] aW (nth J.bU dw) 1 mr ?_
      refine nB 3 92 (nth (nth J.bU dw) cy) [(91,ao (nth (nth J.bU dw) cy)),(90,ao (nth (nth J.bU dw) cy))] (fun mq=> ?_) (fun mq=> ?_)
      ·
       replace h:=h mq
       obtain⟨qO,h⟩:=h
       refine kQ 4 (some 96) [(95,ag dw),(94,bE (cX false) M.O),(93,aB 3 3)] (cX false) M.O 5 qO ?_
       refine nB 5 101 ((nth M.O dw).aq !=0) [(100,ao ((nth M.O dw).aq !=0)),(99,ao ((nth M.O dw).aq !=0)),(98,ag (nth M.O dw).aq),(97,.dv (cX false (nth M.O dw)) 0)] (fun o1=> ?_) (fun o1=> ?_)
       ·
        replace h:=h o1
        have zv:=h
        refine kQ 4 (some 105) [(104,ag cy),(103,bE (cX false) M.O),(102,aB 3 3)] (cX false) M.O 5 zv ?_
        exact b1 [(109,ao ((nth M.O cy).aq !=0)),(108,ao ((nth M.O cy).aq !=0)),(107,ag (nth M.O cy).aq),(106,.dv (cX false (nth M.O cy)) 0)] trivial (by simp only[q2,g5,ib,jp,l5,o0,mq,o1]<;>kernel_rfl)
       ·
        exact b1 ([(109,ao false)]++gp [108,107,106,105,104,103,102]) trivial (by simp only[q2,g5,ib,jp,l5,o0,mq,o1]<;>kernel_rfl)
      ·
       exact b1 ([(109,ao false)]++gp [108,107,106,105,104,103,102]++[(101,ao false),(100,ao false)]++gp [99,98,97,96,95,94,93]) trivial (by simp only[q2,g5,ib,jp,l5,o0,mq]<;>kernel_rfl)
     ·
      exact b1 ([(109,ao false)]++gp [108,107,106,105,104,103,102]++[(101,ao false),(100,ao false)]++gp [99,98,97,96,95,94,93]++[(92,ao false),(91,ao false)]++gp [90,89,88,87,86,85,84,83]) trivial (by simp only[q2,g5,ib,jp,l5,o0]<;>kernel_rfl)
    refine dJ (fun oj=> ?_) (fun oj=> ?_)
    ·
     replace h:=h oj
     refine ev [2000009] 18 [(4,ao false)] [1] [] ?_
     exact hC (cn.ret (ck.ret (eb.ret (cn.ret (cn.ret (ec.ret (eb.ret (cn.ret (ec.ret (nz (ao false) (iy.ia (nD h))))))))))))
    ·
     refine ew ?_
     refine cn.normal ?_
     exact ck.normal (by simp only[q2,g5,ib,jp,l5,oj]<;>rfl) eo
   replace h:=h r8
   refine bJ [2000009] 19 ?_
   refine dX [(76,ag (IntKind.i64.wrap (cy+1))),(110,ag (IntKind.i64.wrap (cy+1)))] ?_
   exact eb.again (IntKind.i64.wrap (cy+1)) h (dE [])
 replace h:=h lx
 obtain⟨tf,h⟩:=h
 refine e0 [] [5] (fun L=>(6,(a5 (nth M.an eP)))::L) id ((!((!(bY (nth M.an eP).cC 1 2)) || (!(bY (nth M.an eP).a2 0 2))))=true) ?_ (fun tb=> ?_)
 ·
  replace h:=tf
  refine fw 1 ?_
  obtain⟨te,h⟩:=h
  refine e0 [(6,aB 6 0)] [5] (fun L=>(6,(a5 (nth M.an eP)))::L) id (True) ?_ (fun zw=> ?_)
  ·
   replace h:=te
   refine bJ [2000009] 5 ?_
   have xl:=h
   refine kQ 1 (some 49) [] a5 M.an 2 xl ?_
   exact b1 [(6,aB 6 0),(50,.agg (a5 (nth M.an eP)))] trivial
  refine cB [(60,ao ((!(bY (nth M.an eP).cC 1 2)) || (!(bY (nth M.an eP).a2 0 2))))] [0,1,5] (True) ?_ (fun r_=> ?_)
  ·
   refine bJ [2000009] 6 ?_
   refine mu 3 (some 53) [(52,ag (nth M.an eP).cC),(51,aB 6 0)] [ag (nth M.an eP).cC,ag 1,ag 2] (Ic (nth M.an eP).cC 1 2) (aE.cons (dc.ia (.int _ _)) (aE.cons (dc.ia (.int _ _)) (aE.cons (dc.ia (.int _ _)) aE.nil))) ?_
   refine nB 2 55 (!(bY (nth M.an eP).cC 1 2)) [(54,ao (!(bY (nth M.an eP).cC 1 2)))] (fun tc=> ?_) (fun tc=> ?_)
   ·
    exact b1 ([(60,ao true)]++gp [59,58,57,56]) trivial (by simp only[q2,lx,tc]<;>kernel_rfl)
   ·
    refine mu 3 (some 58) [(57,ag (nth M.an eP).a2),(56,aB 6 1)] [ag (nth M.an eP).a2,ag 0,ag 2] (Ic (nth M.an eP).a2 0 2) (aE.cons (dc.ia (.int _ _)) (aE.cons (dc.ia (.int _ _)) (aE.cons (dc.ia (.int _ _)) aE.nil))) ?_
    exact b1 [(60,ao (!(bY (nth M.an eP).a2 0 2))),(59,ao (!(bY (nth M.an eP).a2 0 2)))] trivial (by simp only[q2,lx,tc]<;>kernel_rfl)
  refine dJ (fun qP=> ?_) (fun qP=> ?_)
  ·
   replace h:=h qP
   refine ev [2000009] 7 [(4,ao false)] [1] [] ?_
   exact hC (cn.ret (ck.ret (eb.ret (cn.ret (ec.ret (nz (ao false) (iy.ia (nD h))))))))
  ·
   refine ew ?_
   refine cn.normal ?_
   exact ck.normal (by simp only[q2,lx,qP]<;>rfl) eo
 replace h:=h tb
 refine bJ [2000009] 8 ?_
 refine dX [(47,ag (IntKind.i64.wrap (eP+1))),(61,ag (IntKind.i64.wrap (eP+1)))] ?_
 exact eb.again (IntKind.i64.wrap (eP+1)) h (dE [6])
theorem Qf (J:az) (M:Frame) (aG:rC J M):bX Try.prog 41 [.agg (bq false J),.agg (bS false M)] (ao (dy J M)):=acT J M (dy J M) (cv M.an.length (fun j=>(!(bY (nth M.an j).cC 1 2)) || (!(bY (nth M.an j).a2 0 2)))) (cG M.an.length) (fun _ i=>(∀x∈M.an,jm x=true)∧cv M.O.length (fun i=> !(ha J M i) || xv J M M.O.length i) i) (fun _=>cG M.O.length) (fun _ i=>cv M.O.length (fun k=>jd J M i k)) (fun _ _=>cG M.O.length) (by
 unfold H7 Ia
 have hs:hM M:=aG
 have no: ∀φ:Prop,(dy J M=true→φ)→ ¬φ→false=dy J M:=fun φ h1 h2=>by
  cases h:dy J M with
  | false=>rfl
  | true=>exact absurd (h1 h) h2
 have D:=fun h=>(tS (p:=J) (f:=M)).1 h
 refine⟨fun aj=>no _ D (fun bg=>by have:=bg.1;unfold rB at this;rw[aj] at this;cases this),fun aj aF=>⟨di (dt _),fun v aX=> ?_⟩⟩
 have pu:rB J M=true:=aj
 obtain⟨jc,dg,p8,jP,ju⟩:=mK.1 pu
 have cF:=uZ jc
 have ed:=zo jc
 unfold H_
 refine⟨fun hv hm=> ?_,fun hv=>⟨⟨ch aX hv,fun hb=>no _ D fun bg=> ?_⟩,fun hb=>c0 (cD aF) aX hv (not_eq hb)⟩⟩
 ·have kZ: ∀x∈M.an,jm x=true:=fun x hx=>by
   have:=l9 (q:=fun x:bd=>(!(bY x.cC 1 2)) || (!(bY x.a2 0 2))) (gL aX hv) x hx
   unfold jm
   simpa[Bool.and_eq_true] using this
  refine⟨⟨kZ,di (dt _)⟩,fun i ds=>⟨fun hi=> ?_,fun hi=> ?_⟩⟩
  ·have eC:=gL ds.2 hi
   have yF: ∀i:Int,0≤i→i<M.O.length→ha J M i=true:=fun i i0 i1=>by
    have:=eC i i0 i1
    rw[Bool.or_eq_false_iff] at this
    simpa using this.1
   have EL: ∀i k:Int,0≤i→i<M.O.length→0≤k→k<M.O.length→jd J M i k=false:=fun i k i0 i1 a_ dP=>by
    have:=eC i i0 i1
    rw[Bool.or_eq_false_iff] at this
    have h2:=this.2
    unfold xv at h2
    rw[List.any_eq_false] at h2
    have:=h2 k.toNat (List.mem_range.2 (by omega))
    rw[Int.toNat_of_nonneg a_] at this
    simpa using this
   have c_:ig J M:=Es pu fun i i0 i1=>by
    have:=yF i i0 i1
    rw[Bf,Bool.and_eq_true] at this;exact this.1
   obtain⟨fq,fV,fC⟩:=v9 M.O
   have lm:gr M.O (List.range M.O.length) (M.O.map ad.ac):=⟨fq,fV,fun b hb=>by
    obtain⟨h,bV,rfl⟩:=List.mem_map.1 hb;exact hs.2.2.2 h bV⟩
   have BA:c4 M.ok M.au M.an M.O (List.range M.O.length) (M.O.map ad.ac)=M:=by unfold c4;rw[fC]
   refine⟨hs,⟨lm,?_⟩,fun w i b kj=> ?_⟩
   ·show tq J (c4 M.ok M.au M.an M.O (List.range M.O.length) (M.O.map ad.ac))
    rw[BA];exact⟨cF,c_⟩
   ·obtain⟨G,hv⟩:=kj
    replace hv:view w i b=(ee J (c4 M.ok M.au M.an M.O (List.range M.O.length) (M.O.map ad.ac))).O:=hv
    rw[BA] at hv
    have aL:w.length=M.O.length:=by rw[←ja G.ok,hv];exact o3 _ _ _
    have Ll:=zO c_ M.O.length
    obtain⟨s1,s2,l6,abz⟩:=hs
    have pC:(ee J M).O.length=M.O.length:=o3 _ _ _
    have wm: ∀h∈(ee J M).O,h.ac.length≤1048576:=fun h bV=>by
     obtain⟨j,aM,rfl⟩:=List.mem_iff_getElem.1 bV
     have:=Ll.ac j _ _ (List.getElem?_eq_getElem aM) (List.getElem?_eq_getElem (by omega))
     rw[this]
     have:=(cF.ai _ (List.getElem_mem (show j<J.O.length by omega))).2.1
     omega
    refine⟨⟨by show M.au.length≤_;omega,by show M.an.length≤_;omega,⟨G.ok,by omega,fun x hx=>by have:=G.len x hx;omega⟩,?_,⟨s1,s2,l6,abz⟩,⟨s1,s2,?_,?_⟩,fun j x y bx e2=> ?_⟩,?_⟩
    ·show M.O.length=(view w i b).length;rw[ja G.ok,aL]
    ·show(view w i b).length≤_;rw[ja G.ok];omega
    ·show ∀h∈view w i b,_
     rw[hv];exact wm
    ·replace e2:(view w i b)[j]?=some y:=e2
     rw[hv] at e2
     have aM:=(List.getElem?_eq_some_iff.1 bx).1
     have hw:=List.getElem?_eq_getElem (show j<J.O.length by omega)
     rw[c_.ac j _ _ bx hw,Ll.ac j _ _ e2 hw]
    ·unfold oq
     show decide (M.O=view w i b)=_
     rw[hv]
     by_cases h:M.O=(ee J M).O
     ·rw[decide_eq_true h,tS.2 ⟨pu,kZ,yF,EL,h⟩]
     ·rw[decide_eq_false h]
      exact no _ D fun bg=>h bg.2.2.2.2
  ·have ca:=ch ds.2 hi
   refine⟨⟨⟨cF,hs,ju,ca.1,by omega⟩,fun hb=>no _ D fun bg=> ?_⟩,fun hb=>⟨di (dt _),fun k hK=> ?_⟩⟩
   ·rw[bg.2.2.1 i ca.1 (by omega)] at hb;cases hb
   ·have hb:ha J M i=true:=by simpa using hb
    unfold H9
    refine⟨fun hk=> ?_,fun hk=>⟨?_,fun aj=>c0 (cD hm) hK hk (not_eq aj)⟩⟩
    ·have:=c0 (cD hm) ds.2 hi (show(!(ha J M i) || xv J M M.O.length i)=false by
      rw[hb]
      exact List.any_eq_false.2 fun k jz=>by rw[gL hK hk k (by omega) (by have:=List.mem_range.1 jz;omega)];simp)
     exact⟨⟨kZ,this.1⟩,this.2⟩
    ·have rL:=ch hK hk
     have hE:=ed.len
     have eV:=ed.row i ca.1 (by omega)
     unfold H8
     refine⟨fun _=>⟨⟨ca.1,by omega⟩,⟨rL.1,by omega⟩,fun _=>⟨ca,fun _=>rL⟩⟩,fun aj=>no _ D fun bg=> ?_⟩
     have:=bg.2.2.2.1 i k ca.1 (by omega) rL.1 (by omega)
     have aj:jd J M i k=true:=aj
     rw[this] at aj;cases aj
 ·have:=bg.2.1 _ (dC (ch aX hv).2)
  unfold jm at this
  rw[Bool.and_eq_true] at this
  rw[this.1,this.2] at hb;cases hb)
def acS:dY Try.prog:=⟨41,[.c8,.frame],[.bool],some fun x=>rC x.1 x.2.1,fun x=>((dy x.1 x.2.1),()),fun x h=>Qf x.1 x.2.1 h⟩
def X_:List Item:=[av 0,av 1,av 2,av 3,av 4,av 5]
def Ya:List (List Nat):=[[],[],[],[1,2],rg 0 4,rg 0 5]
def Mk (bG:dM Prop) (bD:dM Nat) (J:az) (M:Frame) (al:Bool) (fs l_ c1:Int):Prop:=
  ((((nth M.O c1).aq !=0)=true→(0≤l_∧l_.toNat<M.O.length)∧(((nth M.O l_).aq !=0)=true→(0≤c1∧c1.toNat<J.bU.length)∧(0≤l_∧l_.toNat<(nth J.bU c1).length)))∧((((nth M.O c1).aq !=0)&&(((nth M.O l_).aq !=0)&&(nth (nth J.bU c1) l_)))=true→false=al))∧((!(((nth M.O c1).aq !=0)&&(((nth M.O l_).aq !=0)&&(nth (nth J.bU c1) l_))))=true→bG fs c1 (IntKind.i64.wrap (l_+1))∧bD fs c1 (IntKind.i64.wrap (l_+1))<bD fs c1 l_)
def Ml (aY:Int→Int→Prop) (a0:Int→Int→Nat) (bG:dM Prop) (bD:dM Nat) (J:az) (M:Frame) (al:Bool) (fs c1:Int):Prop:=
  ((((nth M.O c1).aq==0)=true→(nth M.O c1).ap=true→false=al)∧(((nth M.O c1).aq==0)=false→(bif ((nth M.O c1).aq==2) then((nth M.O c1).aq==2) else((nth M.O c1).aq==3))=true→(!(nth M.O c1).ap)=true→false=al))∧((bif ((nth M.O c1).aq==0) then(!(nth M.O c1).ap) else(!(bif ((nth M.O c1).aq==2) then((nth M.O c1).aq==2) else((nth M.O c1).aq==3)) || (!(!(nth M.O c1).ap))))=true→bG fs c1 0∧ ∀(l_:Int),bG fs c1 l_→(((decide (l_<c1))=false→aY fs (IntKind.i64.wrap (c1+1))∧a0 fs (IntKind.i64.wrap (c1+1))<a0 fs c1)∧((decide (l_<c1))=true→Mk bG bD J M al fs l_ c1)))
def Mm (aY:Int→Int→Prop) (a0:Int→Int→Nat) (bG:dM Prop) (bD:dM Nat) (J:az) (M:Frame) (al:Bool) (fs c1:Int):Prop:=
  ((((nth M.O c1).aq==3)=true→((decide ((nth M.O c1).ar<1)) || (decide ((nth M.O c1).ar>J.dn)))=true→false=al)∧(((nth M.O c1).aq==3)=false→((nth M.O c1).ar !=0)=true→false=al))∧((bif ((nth M.O c1).aq==3) then(!((decide ((nth M.O c1).ar<1)) || (decide ((nth M.O c1).ar>J.dn)))) else(!((nth M.O c1).ar !=0)))=true→Ml aY a0 bG bD J M al fs c1)
def Mn (aY:Int→Int→Prop) (a0:Int→Int→Nat) (bG:dM Prop) (bD:dM Nat) (J:az) (M:Frame) (al:Bool) (fs c1:Int):Prop:=
  ((((nth M.O c1).aq !=4)=true→(((nth M.O c1).af !=0) || (jS (nth M.O c1).ac true))=true→false=al)∧(((nth M.O c1).aq !=4)=false→(0≤(nth M.O c1).af∧(nth M.O c1).af≤((nth M.O c1).ac.length:Int))∧((jS ((nth M.O c1).ac.take (nth M.O c1).af.toNat) false)=true→false=al)))∧((bif ((nth M.O c1).aq !=4) then(!(((nth M.O c1).af !=0) || (jS (nth M.O c1).ac true))) else(!(jS ((nth M.O c1).ac.take (nth M.O c1).af.toNat) false)))=true→Mm aY a0 bG bD J M al fs c1)
def Mo (aY:Int→Int→Prop) (a0:Int→Int→Nat) (bG:dM Prop) (bD:dM Nat) (J:az) (M:Frame) (al:Bool) (fs c1:Int):Prop:=
  (((decide ((nth M.O c1).aq<0)) || ((decide ((nth M.O c1).aq>4)) || ((((nth M.O c1).ac.length:Int) !=((nth J.O c1).ai.length:Int)) || ((decide ((nth M.O c1).af<0)) || (decide ((nth M.O c1).af ≥ ((nth J.O c1).ai.length:Int)))))))=true→false=al)∧((!((decide ((nth M.O c1).aq<0)) || ((decide ((nth M.O c1).aq>4)) || ((((nth M.O c1).ac.length:Int) !=((nth J.O c1).ai.length:Int)) || ((decide ((nth M.O c1).af<0)) || (decide ((nth M.O c1).af ≥ ((nth J.O c1).ai.length:Int))))))))=true→Mn aY a0 bG bD J M al fs c1)
def Mp (ay:Int→Prop) (aA:Int→Nat) (M:Frame) (al:Bool) (fs:Int):Prop:=
  ((0≤fs∧fs.toNat<M.an.length)∧((bif ((nth M.an fs).cC !=1) then(((nth M.an fs).cC !=2) || ((decide ((nth M.an fs).a2<0)) || (decide ((nth M.an fs).a2>2)))) else((decide ((nth M.an fs).a2<0)) || (decide ((nth M.an fs).a2>2))))=true→false=al))∧((!(bif ((nth M.an fs).cC !=1) then(((nth M.an fs).cC !=2) || ((decide ((nth M.an fs).a2<0)) || (decide ((nth M.an fs).a2>2)))) else((decide ((nth M.an fs).a2<0)) || (decide ((nth M.an fs).a2>2)))))=true→ay (IntKind.i64.wrap (fs+1))∧aA (IntKind.i64.wrap (fs+1))<aA fs)
def Mq (ay:Int→Prop) (aA:Int→Nat) (aY:Int→Int→Prop) (a0:Int→Int→Nat) (bG:dM Prop) (bD:dM Nat) (J:az) (M:Frame) (al:Bool) (fs:Int):Prop:=
  ((decide (fs<(M.an.length:Int)))=false→M.O.length≤4611686018427387904→aY fs 0∧ ∀(c1:Int),aY fs c1→(((decide (c1<(M.O.length:Int)))=false→(tq J M)∧((u5 M (ee J M))=al))∧((decide (c1<(M.O.length:Int)))=true→(0≤c1∧c1.toNat<M.O.length)∧((0≤c1∧c1.toNat<J.O.length)∧((nth J.O c1).ai.length≤4611686018427387904→Mo aY a0 bG bD J M al fs c1)))))∧((decide (fs<(M.an.length:Int)))=true→Mp ay aA M al fs)
def Mr (ay:Int→Prop) (aA:Int→Nat) (aY:Int→Int→Prop) (a0:Int→Int→Nat) (bG:dM Prop) (bD:dM Nat) (J:az) (M:Frame) (al:Bool):Prop:=
  (((!(ek J)) || ((!M.ok) || (((M.au.length:Int) !=J.ai) || (((M.an.length:Int) !=(J.be.length:Int)) || ((M.O.length:Int) !=(J.O.length:Int))))))=true→false=al)∧((!((!(ek J)) || ((!M.ok) || (((M.au.length:Int) !=J.ai) || (((M.an.length:Int) !=(J.be.length:Int)) || ((M.O.length:Int) !=(J.O.length:Int)))))))=true→M.an.length≤4611686018427387904→ay 0∧ ∀(fs:Int),ay fs→(Mq ay aA aY a0 bG bD J M al fs))
def Mj (J:az) (M:Frame) (al:Bool) (ay:Int→Prop) (aA:Int→Nat) (aY:Int→Int→Prop) (a0:Int→Int→Nat) (bG:dM Prop) (bD:dM Nat):Prop:=
 Mr ay aA aY a0 bG bD J M al
theorem X9 (J:az) (M:Frame) (aG:rC J M):bX Try.prog 43 [.agg (bq false J),.agg (bS false M)] (ao (dy J M)):=(fun(ay:Int→Prop) (aA:Int→Nat) (aY:Int→Int→Prop) (a0:Int→Int→Nat) (bG:dM Prop) (bD:dM Nat) (h:Mj J M (dy J M) ay aA aY a0 bG bD)=>bX.run (ps:=[.c8,.frame]) (rs:=[.bool]) (x:=(J,M,())) (r:=((dy J M),())) ⟨190,dZ,[Y3,Y9,Y7,ab_]⟩ ⟨[],[(40,X_,Ya)],[],[],[]⟩ (e8 [2,3,46,47] [(3,4),(2,5)] 48 ay aA fun aS=>(e8 [2,3,72,73] [(3,4),(2,5)] 74 (aY aS) (a0 aS) fun bN=>(e8 [2,3,7,8,72,73,74,157] [(8,5),(3,4),(2,5)] 158 (bG aS bN) (bD aS bN) fun _=> .nil))) Try.func43 h) (cv M.an.length (fun j=> !jm (nth M.an j))) (cG M.an.length) (fun _ i=>(∀x∈M.an,jm x=true)∧cv M.O.length (fun i=> !(ha J M i) || xv J M i.toNat i) i) (fun _=>cG M.O.length) (fun _ i=>cv i (fun k=>jd J M i k)) (fun _ i=>cG i) (by
 unfold Mj Mr
 have hs:hM M:=aG
 have no: ∀φ:Prop,(dy J M=true→φ)→ ¬φ→false=dy J M:=fun φ h1 h2=>by
  cases h:dy J M with
  | false=>rfl
  | true=>exact absurd (h1 h) h2
 have D:=fun h=>(tS (p:=J) (f:=M)).1 h
 refine⟨fun aj=>no _ D (fun bg=>by have:=bg.1;unfold rB at this;rw[aj] at this;cases this),fun aj aF=>⟨di (dt _),fun v aX=> ?_⟩⟩
 have pu:rB J M=true:=aj
 obtain⟨jc,dg,p8,jP,ju⟩:=mK.1 pu
 have cF:=uZ jc
 have ed:=zo jc
 unfold Mq
 refine⟨fun hv hm=> ?_,fun hv=> ?_⟩
 ·have kZ: ∀x∈M.an,jm x=true:=fun x hx=>by
   simpa using l9 (q:=fun x:bd=> !jm x) (gL aX hv) x hx
  refine⟨⟨kZ,di (dt _)⟩,fun i ds=>⟨fun hi=> ?_,fun hi=> ?_⟩⟩
  ·have eC:=gL ds.2 hi
   have yF: ∀i:Int,0≤i→i<M.O.length→ha J M i=true:=fun i i0 i1=>by
    have:=eC i i0 i1
    rw[Bool.or_eq_false_iff] at this
    simpa using this.1
   have LR: ∀i k:Int,0≤i→i<M.O.length→0≤k→k<i→jd J M i k=false:=fun i k i0 i1 a_ dP=>by
    have:=eC i i0 i1
    rw[Bool.or_eq_false_iff] at this
    have h2:=this.2
    unfold xv at h2
    rw[List.any_eq_false] at h2
    have:=h2 k.toNat (List.mem_range.2 (by omega))
    rw[Int.toNat_of_nonneg a_] at this
    simpa using this
   have EL: ∀i k:Int,0≤i→i<M.O.length→0≤k→k<M.O.length→jd J M i k=false:=fun i k i0 i1 a_ dP=>by
    rcases Int.lt_trichotomy k i with h | h | h
    ·exact LR i k i0 i1 a_ h
    ·unfold jd;rw[h];simp
    ·rw[Tn ed ju i0 i1 a_ dP];exact LR k i a_ dP i0 h
   have c_:ig J M:=Es pu fun i i0 i1=>by
    have:=yF i i0 i1
    rw[Bf,Bool.and_eq_true] at this;exact this.1
   refine⟨⟨cF,c_⟩,?_⟩
   obtain⟨s1,s2,l6⟩:=qY J M M.O.length
   unfold u5
   rw[show(ee J M).au=M.au from s2,show(ee J M).an=M.an from l6]
   unfold eqv
   by_cases h:M.O=(ee J M).O
   ·rw[decide_eq_true h,tS.2 ⟨pu,kZ,yF,EL,h⟩];simp
   ·rw[decide_eq_false h,Bool.and_false]
    exact no _ D fun bg=>h bg.2.2.2.2
  ·have ca:=ch ds.2 hi
   have ga:i<(M.O.length:Int):=by simpa using hi
   have uK: ∀c:Bool,c=false→(ha J M i=true→c=true)→false=dy J M:=fun c hc h=>no _ D fun bg=>by
    have:=h (bg.2.2.1 i ca.1 (by omega));rw[hc] at this;cases this
   have P:=Bf J M i
   refine⟨ca,⟨ca.1,by omega⟩,fun sS=> ?_⟩
   unfold Mo
   refine⟨fun aj=>uK (sJ J M i) (by unfold sJ;rw[aj];rfl) fun h=>by rw[P,Bool.and_eq_true] at h;exact h.1,fun E9=> ?_⟩
   have h1:sJ J M i=true:=E9
   rw[h1,Bool.true_and] at P
   have WV:0≤(nth M.O i).af∧(nth M.O i).af≤((nth M.O i).ac.length:Int):=by
    unfold sJ at h1
    simp only[Bool.not_eq_true',Bool.or_eq_false_iff,bne_eq_false_iff_eq,decide_eq_false_iff_not] at h1
    omega
   unfold Mn
   refine⟨⟨fun bb aj=>uK (ue M i) (by unfold ue;rw[bb,aj];rfl) fun h=>by rw[P,Bool.and_eq_true] at h;exact h.1,
    fun bb=>⟨WV,fun aj=>uK (ue M i) (by unfold ue;rw[bb,aj];rfl) fun h=>by rw[P,Bool.and_eq_true] at h;exact h.1⟩⟩,fun kk=> ?_⟩
   have h2:ue M i=true:=kk
   rw[h2,Bool.true_and] at P
   unfold Mm
   refine⟨⟨fun bb aj=>uK (uf J M i) (by unfold uf;rw[bb,aj];rfl) fun h=>by rw[P,Bool.and_eq_true] at h;exact h.1,
    fun bb aj=>uK (uf J M i) (by unfold uf;rw[bb,aj];rfl) fun h=>by rw[P,Bool.and_eq_true] at h;exact h.1⟩,fun Xt=> ?_⟩
   have aO:uf J M i=true:=Xt
   rw[aO,Bool.true_and] at P
   unfold Ml
   refine⟨⟨fun bb aj=>uK (ug M i) (by unfold ug;rw[bb,aj];rfl) fun h=>by rw[P] at h;exact h,
    fun bb hc aj=>uK (ug M i) (by unfold ug;rw[bb,hc,aj];rfl) fun h=>by rw[P] at h;exact h⟩,fun Xu=> ?_⟩
   have bb:ug M i=true:=Xu
   rw[bb] at P
   refine⟨di ca.1,fun k hK=>⟨fun hk=> ?_,fun hk=> ?_⟩⟩
   ·have:=c0 (cD hm) ds.2 hi (show(!(ha J M i) || xv J M i.toNat i)=false by
     rw[P]
     exact List.any_eq_false.2 fun k jz=>by rw[gL hK hk k (by omega) (by have:=List.mem_range.1 jz;omega)];simp)
    exact⟨⟨kZ,this.1⟩,this.2⟩
   ·have af1:k<i:=by simpa using hk
    have wz:=hK.1
    have hE:=ed.len
    have eV:=ed.row i ca.1 (by omega)
    have hc:(((nth M.O i).aq !=0)&&(((nth M.O k).aq !=0)&&(nth (nth J.bU i) k)))=jd J M i k:=by
     unfold jd kW
     rw[show(i !=k)=true by simpa using(show i≠k by omega)]
     cases((nth M.O i).aq !=0)<;>cases((nth M.O k).aq !=0)<;>cases(nth (nth J.bU i) k)<;>rfl
    unfold Mk
    rw[hc]
    refine⟨⟨fun _=>⟨⟨wz,by omega⟩,fun _=>⟨⟨ca.1,by omega⟩,wz,by omega⟩⟩,fun aj=>no _ D fun bg=> ?_⟩,fun aj=>c0 (by omega) hK hk (not_eq aj)⟩
    have:=bg.2.2.2.1 i k ca.1 (by omega) wz (by omega)
    rw[this] at aj;cases aj
 ·unfold Mp
  rw[aaU]
  refine⟨⟨ch aX hv,fun hb=>no _ D fun bg=> ?_⟩,fun hb=>c0 (cD aF) aX hv (not_eq hb)⟩
  have:=bg.2.1 _ (dC (ch aX hv).2)
  rw[this] at hb;cases hb)
def Fx:dY Try.prog:=⟨43,[.c8,.frame],[.bool],some fun x=>rC x.1 x.2.1,fun x=>((dy x.1 x.2.1),()),fun x h=>X9 x.1 x.2.1 h⟩
def MV (J:Int) (M:Int) (al:Bool):Prop:=
 ((decide (J ≥ 0))&&(decide (J<M)))=al
theorem YQ (J:Int) (M:Int):bX Try.prog 107 [ag J,ag M] (ao (jk J M)):=(fun(h:MV J M (jk J M))=>bX.run (ps:=[.int,.int]) (rs:=[.bool]) (x:=(J,M,())) (r:=((jk J M),())) ⟨12,dZ,[]⟩ ⟨[],[],[],[],[]⟩ .nil Try.func107 h) (by
 unfold MV jk
 rfl)
def MW:dY Try.prog:=⟨107,[.int,.int],[.bool],none,fun x=>((jk x.1 x.2.1),()),fun x h=>YQ x.1 x.2.1⟩
def Q2 (ay:Int→Prop) (aA:Int→Nat) (J:az) (M:Frame) (U c7:Int) (al:Bool) (aQ:Int):Prop:=
  ((0≤aQ∧aQ.toNat<(nth J.O U).ai.length)∧((((nth (nth J.O U).ai aQ)==c7)=true→0≤U∧U.toNat<M.O.length)∧((((nth (nth J.O U).ai aQ)==c7)&&(decide (aQ ≥ (nth M.O U).af)))=true→true=al)))∧((!(((nth (nth J.O U).ai aQ)==c7)&&(decide (aQ ≥ (nth M.O U).af))))=true→ay (IntKind.i64.wrap (aQ+1))∧aA (IntKind.i64.wrap (aQ+1))<aA aQ)
def Q3 (ay:Int→Prop) (aA:Int→Nat) (J:az) (M:Frame) (U c7:Int) (al:Bool):Prop:=
  ((0≤U∧U.toNat<M.O.length)∧(((nth M.O U).aq==0)=true→false=al))∧((!((nth M.O U).aq==0))=true→(0≤U∧U.toNat<J.O.length)∧((nth J.O U).ai.length≤4611686018427387904→ay 0∧ ∀(aQ:Int),ay aQ→(((decide (aQ<((nth J.O U).ai.length:Int)))=false→false=al)∧((decide (aQ<((nth J.O U).ai.length:Int)))=true→Q2 ay aA J M U c7 al aQ))))
def Q1 (J:az) (M:Frame) (U:Int) (c7:Int) (al:Bool) (ay:Int→Prop) (aA:Int→Nat):Prop:=
 Q3 ay aA J M U c7 al
theorem adQ (J:az) (M:Frame) (U:Int) (c7:Int) (aG:wG J M U c7):bX Try.prog 111 [.agg (bq false J),.agg (bS false M),ag U,ag c7] (ao (jh J M U c7)):=(fun(ay:Int→Prop) (aA:Int→Nat) (h:Q1 J M U c7 (jh J M U c7) ay aA)=>bX.run (ps:=[.c8,.frame,.int,.int]) (rs:=[.bool]) (x:=(J,M,U,c7,())) (r:=((jh J M U c7),())) ⟨44,dZ,[]⟩ ⟨[],[],[],[],[]⟩ (e8 [2,3,5,23,24] [(5,4)] 25 ay aA fun _=> .nil) Try.func111 h) (cv (nth J.O U).ai.length (fun k=>((nth (nth J.O U).ai k)==c7)&&(decide (k ≥ (nth M.O U).af)))) (cG (nth J.O U).ai.length) (by
 unfold Q1 Q3
 obtain⟨hf,aT,h1⟩:=aG
 have hw:=hf.fr.O
 have bc:U.toNat<J.O.length:=by omega
 have qu:U.toNat<M.O.length:=by omega
 have hg:=hf.fr.af _ (dC qu)
 refine⟨⟨⟨aT,qu⟩,fun h=> ?_⟩,fun h=>⟨⟨aT,bc⟩,fun aF=>⟨di (dt _),fun v aX=>⟨fun hv=> ?_,fun hv=> ?_⟩⟩⟩⟩
 ·unfold jh
  rw[show((nth M.O U).aq !=0)=false by simpa using h];rfl
 ·have hs:((nth M.O U).aq !=0)=true:=by simpa using h
  unfold jh
  rw[hs,Bool.true_and,eq_comm,←Bool.not_eq_true,AH]
  rintro⟨k,hk,aL,he⟩
  have:=gL aX hv k (by omega) (by omega)
  rw[iT aL,he] at this
  simp at this
  omega
 ·have hs:((nth M.O U).aq !=0)=true:=by simpa using h
  have ca:=ch aX hv
  unfold Q2
  refine⟨⟨ca,fun _=>⟨aT,qu⟩,fun hb=> ?_⟩,fun hb=>c0 (cD aF) aX hv (not_eq hb)⟩
  unfold jh
  rw[hs,Bool.true_and,eq_comm,AH]
  simp only[Bool.and_eq_true,beq_iff_eq,decide_eq_true_eq] at hb
  exact⟨v.toNat,by omega,ca.2,by rw[←gH ca.2];exact hb.1⟩)
def adR:dY Try.prog:=⟨111,[.c8,.frame,.int,.int],[.bool],some fun x=>wG x.1 x.2.1 x.2.2.1 x.2.2.2.1,fun x=>((jh x.1 x.2.1 x.2.2.1 x.2.2.2.1),()),fun x h=>adQ x.1 x.2.1 x.2.2.1 x.2.2.2.1 h⟩
def MU (J:az) (M:Frame) (U:Int) (c7:Int) (al:Bool):Prop:=
 (0≤U∧U.toNat<J.O.length)∧(((0≤U∧U.toNat<M.O.length)∧(((nth M.O U).aq !=0)=true→0≤U∧U.toNat<M.O.length))∧((((nth M.O U).aq !=0)&&((decide ((nq (nth J.O U).ai c7) ≥ (nth M.O U).af))&&(decide ((nq (nth J.O U).ai c7) ≥ 0))))=al))
theorem YG (J:az) (M:Frame) (U:Int) (c7:Int) (aG:wG J M U c7):bX Try.prog 152 [.agg (bq false J),.agg (bS false M),ag U,ag c7] (ao (jh J M U c7)):=(fun(h:MU J M U c7 (jh J M U c7))=>bX.run (ps:=[.c8,.frame,.int,.int]) (rs:=[.bool]) (x:=(J,M,U,c7,())) (r:=((jh J M U c7),())) ⟨39,dZ,[P3]⟩ ⟨[],[],[],[],[]⟩ .nil Try.func152 h) (by
 unfold MU
 obtain⟨hf,aT,h1⟩:=aG
 have hw:=hf.fr.O
 have bc:U.toNat<J.O.length:=by omega
 have qu:U.toNat<M.O.length:=by omega
 have hg:=hf.fr.af _ (dC qu)
 refine⟨⟨aT,bc⟩,⟨⟨aT,qu⟩,fun _=>⟨aT,qu⟩⟩,?_⟩
 unfold jh
 rw[has_eq (abG hf.nk (dC bc)) hg.1])
def YH:dY Try.prog:=⟨152,[.c8,.frame,.int,.int],[.bool],some fun x=>wG x.1 x.2.1 x.2.2.1 x.2.2.2.1,fun x=>((jh x.1 x.2.1 x.2.2.1 x.2.2.2.1),()),fun x h=>YG x.1 x.2.1 x.2.2.1 x.2.2.2.1 h⟩
def YK (J:cx) (M:Int) (al:Bool):Prop:=
 (J.sw==M)=al
theorem YL (J:cx) (M:Int):bX Try.prog 166 [.agg (dj J),.dv [ag M] 0] (ao (uE J M)):=(fun(h:YK J M (uE J M))=>bX.run (ps:=[.bk,(.ptr .int)]) (rs:=[.bool]) (x:=(J,M,())) (r:=((uE J M),())) ⟨8,dZ,[]⟩ ⟨[],[],[],[],[]⟩ .nil Try.func166 h) (by
 exact rfl)
def YM:dY Try.prog:=⟨166,[.bk,(.ptr .int)],[.bool],none,fun x=>((uE x.1 x.2.1),()),fun x h=>YL x.1 x.2.1⟩
def P0 (J:(List cx)) (M:Int) (al:Int) (ay:Int→Prop) (aA:Int→Nat):Prop:=
 J.length≤4611686018427387904→ay 0∧ ∀(c2:Int),ay c2→(((decide (c2<(J.length:Int)))=false→(-1)=al)∧((decide (c2<(J.length:Int)))=true→((0≤c2∧c2.toNat<J.length)∧((uE (nth J c2) M)=true→c2=al))∧((!(uE (nth J c2) M))=true→ay (IntKind.i64.wrap (c2+1))∧aA (IntKind.i64.wrap (c2+1))<aA c2)))
theorem acm (J:(List cx)) (M:Int):bX Try.prog 170 [bE dj J,.fn 166 [.dv [ag M] 0]] (ag (rV J M)):=(fun(ay:Int→Prop) (aA:Int→Nat) (h:P0 J M (rV J M) ay aA)=>bX.run (ps:=[(.l .bk),(.ii 166 (.ptr .int))]) (rs:=[.int]) (x:=(J,M,())) (r:=((rV J M),())) ⟨19,dZ,[YM]⟩ ⟨[],[],[],[],[]⟩ (e8 [0,1,7] [] 8 ay aA fun _=> .nil) Try.func170 h) (cv J.length (fun j=>uE (nth J j) M)) (cG J.length) (by
 unfold P0
 intro aF
 refine⟨di (dt _),fun v aX=>⟨fun hv=> ?_,fun hv=>⟨⟨ch aX hv,fun aG=> ?_⟩,fun aG=>c0 (cD aF) aX hv (not_eq aG)⟩⟩⟩
 ·unfold rV;rw[p1 (q:=fun x:cx=>x.sw==M) aX hv];rfl
 ·unfold rV;rw[p0 (q:=fun x:cx=>x.sw==M) aX hv aG]
  have:=aX.1
  show v=(v.toNat:Int)
  omega)
def acn:dY Try.prog:=⟨170,[(.l .bk),(.ii 166 (.ptr .int))],[.int],none,fun x=>((rV x.1 x.2.1),()),fun x h=>acm x.1 x.2.1⟩
def ab6 (J:(List cx)) (M:Int) (al:Bool):Prop:=
 (decide ((rV J M) ≥ 0))=al
theorem ab7 (J:(List cx)) (M:Int):bX Try.prog 165 [bE dj J,.fn 166 [.dv [ag M] 0]] (ao (kK J M)):=(fun(h:ab6 J M (kK J M))=>bX.run (ps:=[(.l .bk),(.ii 166 (.ptr .int))]) (rs:=[.bool]) (x:=(J,M,())) (r:=((kK J M),())) ⟨9,dZ,[acn]⟩ ⟨[],[],[],[],[]⟩ .nil Try.func165 h) (by
 exact X0 J M)
def ab8:dY Try.prog:=⟨165,[(.l .bk),(.ii 166 (.ptr .int))],[.bool],none,fun x=>((kK x.1 x.2.1),()),fun x h=>ab7 x.1 x.2.1⟩
def YN (J:(List cx)) (M:Int) (al:Bool):Prop:=
 (kK J M)=al
theorem YO (J:(List cx)) (M:Int):bX Try.prog 153 [bE dj J,ag M] (ao (kK J M)):=(fun(h:YN J M (kK J M))=>bX.run (ps:=[(.l .bk),.int]) (rs:=[.bool]) (x:=(J,M,())) (r:=((kK J M),())) ⟨8,dZ,[ab8]⟩ ⟨[],[],[],[],[]⟩ .nil Try.func153 h) (by
 exact rfl)
def YP:dY Try.prog:=⟨153,[(.l .bk),.int],[.bool],none,fun x=>((kK x.1 x.2.1),()),fun x h=>YO x.1 x.2.1⟩
def YW:List Item:=[av 0,av 1,av 2,av 3,av 4,av 5,av 6,av 7,av 8,av 9,av 10,av 11,av 12,av 13,av 14,av 15,av 16,av 17,av 18,av 19,av 20]
def YX:List (List Nat):=[[],[0],[],[0,1,2],rg 0 4,rg 0 5,rg 0 6,rg 0 5,rg 0 8,rg 0 9,rg 0 10,rg 0 10,rg 0 10,rg 0 10,rg 0 10++[13],rg 0 10,rg 0 10++[13,14,15],rg 0 10++rg 13 17,rg 0 18,rg 0 19,rg 0 20]
abbrev j4 (r:Type):Type:=Nat→(List Int)→Int→r
def M1 (ay:j4 Prop) (aA:j4 Nat) (J:az) (M:Frame) (U:Int) (bt:Nat) (a8:(List Int)) (b9:Int):Prop:=
  (((kK (nth J.O b9).bw U) || ((kK (nth J.O b9).a2 U)&&(jh J M b9 (nth J.be U))))=true→((a8.length+[b9].length)*8≤140737488355328∧a8.length+[b9].length≤4611686018427387904)∧(ay (bt+1) (a8++[b9]) (IntKind.i64.wrap (b9+1))∧aA (bt+1) (a8++[b9]) (IntKind.i64.wrap (b9+1))<aA bt a8 b9))∧(((kK (nth J.O b9).bw U) || ((kK (nth J.O b9).a2 U)&&(jh J M b9 (nth J.be U))))=false→ay bt a8 (IntKind.i64.wrap (b9+1))∧aA bt a8 (IntKind.i64.wrap (b9+1))<aA bt a8 b9)
def M2 (ay:j4 Prop) (aA:j4 Nat) (J:az) (M:Frame) (U:Int) (bt:Nat) (a8:(List Int)) (b9:Int):Prop:=
  ((0≤b9∧b9.toNat<M.O.length)∧(((nth M.O b9).aq==0)=true→ay bt a8 (IntKind.i64.wrap (b9+1))∧aA bt a8 (IntKind.i64.wrap (b9+1))<aA bt a8 b9))∧((!((nth M.O b9).aq==0))=true→((kK (nth J.O b9).bw U)=false→(kK (nth J.O b9).a2 U)=true→(0≤U∧U.toNat<J.be.length)∧(wG J M b9 (nth J.be U)))∧(M1 ay aA J M U bt a8 b9))
def M0 (J:az) (M:Frame) (U:Int) (al:(List Int)) (ay:j4 Prop) (aA:j4 Nat):Prop:=
 J.O.length≤4611686018427387904→ay 0 ([]:List Int) 0∧ ∀(bt:Nat) (a8:(List Int)) (b9:Int),ay bt a8 b9→(((decide (b9<(J.O.length:Int)))=false→a8.length≤4611686018427387904∧a8=al)∧((decide (b9<(J.O.length:Int)))=true→(0≤b9∧b9.toNat<J.O.length)∧(M2 ay aA J M U bt a8 b9)))
theorem M3 (J:az) (M:Frame) (U:Int) (aG:s8 J M U):bX Try.prog 113 [.agg (bq false J),.agg (bS false M),ag U] (hh db (gz J M U)):=(fun(ay:j4 Prop) (aA:j4 Nat) (h:M0 J M U (gz J M U) ay aA)=>bX.run (ps:=[.c8,.frame,.int]) (rs:=[(.l .int)]) (x:=(J,M,U,())) (r:=((gz J M U),())) ⟨52,dZ,[YP,YH]⟩ ⟨[],[(6,YW,YX)],[],[],[]⟩ (.lp [(0,7,.int)] [2,3,4,11,12] [(4,4),(3,5)] [.nat,(.l .int),.int] [bA 0,bA 0,13] (fun aS=>[(7,.ref 0 aS.1 aS.2.1.length false),(13,.i .i64 aS.2.2.1),(bA 0,.blk aS.1 .int aS.2.1 _ rfl)]) (fun aS=>ay aS.1 aS.2.1 aS.2.2.1) (fun aS=>aA aS.1 aS.2.1 aS.2.2.1) fun _=> .nil) Try.func113 h) (fun _ x v=>cv J.O.length (fun _=>false) v∧x=eg (fun i=>mE J M i U) v) (fun _ _ v=>cG J.O.length v) (by
 unfold M0
 obtain⟨hf,aT,h1⟩:=aG
 have hw:=hf.fr.O
 have yL:=hf.in.O
 have sP:=hf.in.be
 intro aF
 refine⟨⟨di (dt _),rfl⟩,fun g x v aX=> ?_⟩
 obtain⟨aX,rfl⟩:=aX
 have hS:=aX.1
 have hlen:=pj (fun i=>mE J M i U) v
 have yW:=aX.2.1
 refine⟨fun hv=>⟨by omega,?_⟩,fun hv=>⟨ch aX hv,?_⟩⟩
 ·have: ¬v<(J.O.length:Int):=by simpa using hv
  rw[show v=(J.O.length:Int) by omega];rfl
 have ca:=ch aX hv
 have bj:=c0 (cD aF) aX hv rfl
 have qy:IntKind.i64.wrap (v+1)=v+1:=jM (cD aF) hS (by simpa using hv)
 have rf:mE J M v U=true→(cv J.O.length (fun _=>false) (IntKind.i64.wrap (v+1))∧eg (fun i=>mE J M i U) v++[v]=eg (fun i=>mE J M i U) (IntKind.i64.wrap (v+1))):=fun h=>⟨bj.1,by rw[qy,yi hS,if_pos h]⟩
 have no:mE J M v U=false→(cv J.O.length (fun _=>false) (IntKind.i64.wrap (v+1))∧eg (fun i=>mE J M i U) v=eg (fun i=>mE J M i U) (IntKind.i64.wrap (v+1))):=fun h=>⟨bj.1,by rw[qy,yi hS,if_neg (by rw[h];simp)]⟩
 unfold M2 M1
 refine⟨⟨⟨hS,by omega⟩,fun aN=>⟨no ?_,bj.2⟩⟩,fun aN=>⟨fun _ _=>⟨⟨aT,by omega⟩,hf,hS,by omega⟩,⟨fun aj=>⟨⟨?_,?_⟩,rf ?_,bj.2⟩,fun aj=>⟨no ?_,bj.2⟩⟩⟩⟩
 ·unfold mE
  rw[show((nth M.O v).aq !=0)=false by simpa using aN];rfl
 ·simp only[List.length_singleton];omega
 ·simp only[List.length_singleton];omega
 ·unfold mE
  rw[show((nth M.O v).aq !=0)=true by simpa using aN];exact aj
 ·unfold mE
  rw[show((nth M.O v).aq !=0)=true by simpa using aN];exact aj)
def YV:dY Try.prog:=⟨113,[.c8,.frame,.int],[(.l .int)],some fun x=>s8 x.1 x.2.1 x.2.2.1,fun x=>((gz x.1 x.2.1 x.2.2.1),()),fun x h=>M3 x.1 x.2.1 x.2.2.1 h⟩
def ad1:List Item:=[av 0,av 1,av 2,av 3,av 4,av 5,av 6,av 7,av 8,av 9,av 10,av 11,av 12,av 13,av 14]
def ad2:List (List Nat):=[[],[0],[],[0,1,2],rg 0 4,rg 0 5,rg 0 5,rg 0 5,rg 0 5,rg 0 5++[8],rg 0 5,rg 0 5++[8,9,10],rg 0 5++rg 8 12,rg 0 13,rg 0 14]
def Rl (aY:Int→Int→Prop) (a0:Int→Int→Nat) (J:az) (M:Frame) (U c7 al cu et:Int):Prop:=
  ((0≤et∧et.toNat<(nth J.O U).a2.length)∧((((nth (nth J.O U).a2 et).sw==c7)=true→(0≤c7∧c7.toNat<J.be.length)∧(wG J M U (nth J.be c7)))∧((((nth (nth J.O U).a2 et).sw==c7)&&(jh J M U (nth J.be c7)))=true→(nth (nth J.O U).a2 et).bk=al)))∧((!(((nth (nth J.O U).a2 et).sw==c7)&&(jh J M U (nth J.be c7))))=true→aY cu (IntKind.i64.wrap (et+1))∧a0 cu (IntKind.i64.wrap (et+1))<a0 cu et)
def Rm (ay:Int→Prop) (aA:Int→Nat) (aY:Int→Int→Prop) (a0:Int→Int→Nat) (J:az) (M:Frame) (U c7 al cu:Int):Prop:=
  ((decide (cu<((nth J.O U).bw.length:Int)))=false→(0≤U∧U.toNat<J.O.length)∧((nth J.O U).a2.length≤4611686018427387904→aY cu 0∧ ∀(et:Int),aY cu et→(((decide (et<((nth J.O U).a2.length:Int)))=false→0=al)∧((decide (et<((nth J.O U).a2.length:Int)))=true→Rl aY a0 J M U c7 al cu et))))∧((decide (cu<((nth J.O U).bw.length:Int)))=true→((0≤cu∧cu.toNat<(nth J.O U).bw.length)∧(((nth (nth J.O U).bw cu).sw==c7)=true→(nth (nth J.O U).bw cu).bk=al))∧((!((nth (nth J.O U).bw cu).sw==c7))=true→ay (IntKind.i64.wrap (cu+1))∧aA (IntKind.i64.wrap (cu+1))<aA cu))
def Rk (J:az) (M:Frame) (U:Int) (c7:Int) (al:Int) (ay:Int→Prop) (aA:Int→Nat) (aY:Int→Int→Prop) (a0:Int→Int→Nat):Prop:=
 ((0≤U∧U.toNat<M.O.length)∧(((nth M.O U).aq==0)=true→0=al))∧((!((nth M.O U).aq==0))=true→(0≤U∧U.toNat<J.O.length)∧((nth J.O U).bw.length≤4611686018427387904→ay 0∧ ∀(cu:Int),ay cu→(Rm ay aA aY a0 J M U c7 al cu)))
theorem adZ (J:az) (M:Frame) (U:Int) (c7:Int) (aG:Ji J M U c7):bX Try.prog 155 [.agg (bq false J),.agg (bS false M),ag U,ag c7] (ag (pa J M U c7)):=(fun(ay:Int→Prop) (aA:Int→Nat) (aY:Int→Int→Prop) (a0:Int→Int→Nat) (h:Rk J M U c7 (pa J M U c7) ay aA aY a0)=>bX.run (ps:=[.c8,.frame,.int,.int]) (rs:=[.int]) (x:=(J,M,U,c7,())) (r:=((pa J M U c7),())) ⟨67,dZ,[adR]⟩ ⟨[],[(12,ad1,ad2)],[],[],[]⟩ (e8 [2,3,4,5,25,26] [(5,4),(4,5)] 27 ay aA fun aS=>(e8 [2,3,4,5,43,44] [(5,4),(4,5)] 45 (aY aS) (a0 aS) fun _=> .nil)) Try.func155 h) (cv (nth J.O U).bw.length (fun j=>(nth (nth J.O U).bw j).sw==c7)) (cG (nth J.O U).bw.length) (fun _=>cv (nth J.O U).a2.length (fun j=>(nth (nth J.O U).a2 j).sw==c7&&jh J M U (nth J.be c7))) (fun _=>cG (nth J.O U).a2.length) (by
 unfold Rk
 obtain⟨hf,aT,h1,h2,aO⟩:=aG
 have hw:=hf.fr.O
 refine⟨⟨⟨aT,by omega⟩,fun aN=> ?_⟩,fun aN=>⟨⟨aT,by omega⟩,fun aF=>⟨di (dt _),fun v aX=> ?_⟩⟩⟩
 ·unfold pa;rw[if_pos (by simpa using aN)]
 have aN: ¬(nth M.O U).aq=0:=by simpa using aN
 unfold Rm
 refine⟨fun hv=>⟨⟨aT,by omega⟩,fun hm=>⟨di (dt _),fun k hK=> ?_⟩⟩,fun hv=>⟨⟨ch aX hv,fun hb=> ?_⟩,fun hb=>c0 (cD aF) aX hv (not_eq hb)⟩⟩
 ·have bx:=p1 (q:=fun x:cx=>x.sw==c7) aX hv
  unfold Rl
  refine⟨fun hk=> ?_,fun hk=>⟨⟨ch hK hk,fun _=>⟨⟨h2,by omega⟩,hf,aT,h1⟩,fun hb=> ?_⟩,fun hb=>c0 (cD hm) hK hk (not_eq hb)⟩⟩
  ·unfold pa
   rw[if_neg aN,bx]
   simp only
   rw[p1 (q:=fun x:cx=>x.sw==c7&&jh J M U (nth J.be c7)) hK hk]
  ·unfold pa
   rw[if_neg aN,bx]
   simp only
   rw[p0 (q:=fun x:cx=>x.sw==c7&&jh J M U (nth J.be c7)) hK hk hb]
   simp only[iU hK.1]
 ·unfold pa
  rw[if_neg aN,p0 (q:=fun x:cx=>x.sw==c7) aX hv hb]
  simp only[iU aX.1])
def ad0:dY Try.prog:=⟨155,[.c8,.frame,.int,.int],[.int],some fun x=>Ji x.1 x.2.1 x.2.2.1 x.2.2.2.1,fun x=>((pa x.1 x.2.1 x.2.2.1 x.2.2.2.1),()),fun x h=>adZ x.1 x.2.1 x.2.2.1 x.2.2.2.1 h⟩
def Q5 (ay:j4 Prop) (aA:j4 Nat) (J:az) (M:Frame) (U:Int) (bt:Nat) (a8:(List Int)) (ae:Int):Prop:=
  ((decide ((pa J M ae U)>0))=true→((a8.length+[ae].length)*8≤140737488355328∧a8.length+[ae].length≤4611686018427387904)∧(ay (bt+1) (a8++[ae]) (IntKind.i64.wrap (ae+1))∧aA (bt+1) (a8++[ae]) (IntKind.i64.wrap (ae+1))<aA bt a8 ae))∧((decide ((pa J M ae U)>0))=false→ay bt a8 (IntKind.i64.wrap (ae+1))∧aA bt a8 (IntKind.i64.wrap (ae+1))<aA bt a8 ae)
def Q4 (J:az) (M:Frame) (U:Int) (al:(List Int)) (ay:j4 Prop) (aA:j4 Nat):Prop:=
 J.O.length≤4611686018427387904→ay 0 ([]:List Int) 0∧ ∀(bt:Nat) (a8:(List Int)) (ae:Int),ay bt a8 ae→(((decide (ae<(J.O.length:Int)))=false→a8.length≤4611686018427387904∧a8=al)∧((decide (ae<(J.O.length:Int)))=true→(Ji J M ae U)∧(Q5 ay aA J M U bt a8 ae)))
theorem Q6 (J:az) (M:Frame) (U:Int) (aG:s8 J M U):bX Try.prog 117 [.agg (bq false J),.agg (bS false M),ag U] (hh db (gz J M U)):=(fun(ay:j4 Prop) (aA:j4 Nat) (h:Q4 J M U (gz J M U) ay aA)=>bX.run (ps:=[.c8,.frame,.int]) (rs:=[(.l .int)]) (x:=(J,M,U,())) (r:=((gz J M U),())) ⟨27,dZ,[ad0]⟩ ⟨[],[],[],[],[]⟩ (.lp [(0,7,.int)] [2,3,4,11] [(4,4),(3,5)] [.nat,(.l .int),.int] [bA 0,bA 0,12] (fun aS=>[(7,.ref 0 aS.1 aS.2.1.length false),(12,.i .i64 aS.2.2.1),(bA 0,.blk aS.1 .int aS.2.1 _ rfl)]) (fun aS=>ay aS.1 aS.2.1 aS.2.2.1) (fun aS=>aA aS.1 aS.2.1 aS.2.2.1) fun _=> .nil) Try.func117 h) (fun _ x v=>cv J.O.length (fun _=>false) v∧x=eg (fun i=>mE J M i U) v) (fun _ _ v=>cG J.O.length v) (by
 unfold Q4
 obtain⟨hf,aT,h1⟩:=aG
 have yL:=hf.in.O
 intro aF
 refine⟨⟨di (dt _),rfl⟩,fun g x v aX=> ?_⟩
 obtain⟨aX,rfl⟩:=aX
 have hS:=aX.1
 have hlen:=pj (fun i=>mE J M i U) v
 have yW:=aX.2.1
 refine⟨fun hv=>⟨by omega,?_⟩,fun hv=>⟨⟨hf,hS,by have:=ch aX hv;omega,aT,h1⟩,?_⟩⟩
 ·have: ¬v<(J.O.length:Int):=by simpa using hv
  rw[show v=(J.O.length:Int) by omega];rfl
 have bj:=c0 (cD aF) aX hv rfl
 have qy:IntKind.i64.wrap (v+1)=v+1:=jM (cD aF) hS (by simpa using hv)
 unfold Q5
 rw[afa hf.nk (ch aX hv).2]
 refine⟨fun aj=>⟨⟨?_,?_⟩,⟨bj.1,by rw[qy,yi hS,if_pos aj]⟩,bj.2⟩,fun aj=>⟨⟨bj.1,by rw[qy,yi hS,if_neg (by rw[aj];simp)]⟩,bj.2⟩⟩
 ·simp only[List.length_singleton];omega
 ·simp only[List.length_singleton];omega)
def adS:dY Try.prog:=⟨117,[.c8,.frame,.int],[(.l .int)],some fun x=>s8 x.1 x.2.1 x.2.2.1,fun x=>((gz x.1 x.2.1 x.2.2.1),()),fun x h=>Q6 x.1 x.2.1 x.2.2.1 h⟩
def Yi:List Item:=[av 0,av 1,av 2,av 3,av 4,av 5,av 6,av 7,av 8,av 9,av 10,av 11,av 12,av 13,av 14]
def Yj:List (List Nat):=[[],[0],[],[0,1,2],rg 0 4,rg 0 5,rg 0 6,rg 0 5,rg 0 8,rg 0 9,rg 0 10,rg 0 5,rg 0 5++[11],rg 0 13,rg 0 14]
def Yk:List Item:=[av 0,av 1,av 2,av 3,av 4,av 5,av 6,av 7,av 8,av 9]
def Yl:List (List Nat):=[[],[0],[],[2],[],[2,3,4],rg 2 6,rg 0 7,rg 0 8,rg 0 9]
abbrev mw (r:Type):Type:=Nat→(List Int)→Int→Nat→(List Int)→Int→Nat→(List Int)→Int→Bool→Bool→Nat→(List Int)→Int→Bool→Bool→r
def MC (cg:mw Prop) (cd:mw Nat) (J:az) (M:Frame) (bt:Nat) (a8:(List Int)) (dz:Int) (a3:Nat) (aK:(List Int)) (cy:Int) (a1:Nat) (bo:(List Int)) (iZ:Int) (fl c2:Bool) (eM:Int) (kY:Nat) (eR:(List Int)) (lI lJ:Bool):Prop:=
  (((decide (((gz J M eM).length:Int)>0)) || (nth M.au (nth J.be eM)))=true→((eR.length+[eM].length)*8≤140737488355328∧eR.length+[eM].length≤4611686018427387904)∧(cg bt a8 dz a3 aK cy a1 bo eM fl c2 (kY+1) (eR++[eM]) (IntKind.i64.wrap (iZ+1)) (lI || (decide (((gz J M eM).length:Int)>0))) (lJ || (nth M.au (nth J.be eM)))∧cd bt a8 dz a3 aK cy a1 bo eM fl c2 (kY+1) (eR++[eM]) (IntKind.i64.wrap (iZ+1)) (lI || (decide (((gz J M eM).length:Int)>0))) (lJ || (nth M.au (nth J.be eM)))<cd bt a8 dz a3 aK cy a1 bo eM fl c2 kY eR iZ lI lJ))∧(((decide (((gz J M eM).length:Int)>0)) || (nth M.au (nth J.be eM)))=false→cg bt a8 dz a3 aK cy a1 bo eM fl c2 kY eR (IntKind.i64.wrap (iZ+1)) (lI || (decide (((gz J M eM).length:Int)>0))) (lJ || (nth M.au (nth J.be eM)))∧cd bt a8 dz a3 aK cy a1 bo eM fl c2 kY eR (IntKind.i64.wrap (iZ+1)) (lI || (decide (((gz J M eM).length:Int)>0))) (lJ || (nth M.au (nth J.be eM)))<cd bt a8 dz a3 aK cy a1 bo eM fl c2 kY eR iZ lI lJ)
def MD (cg:mw Prop) (cd:mw Nat) (J:az) (M:Frame) (U:Int) (bt:Nat) (a8:(List Int)) (dz:Int) (a3:Nat) (aK:(List Int)) (cy:Int) (a1:Nat) (bo:(List Int)) (iZ:Int) (fl c2:Bool) (eM:Int) (kY:Nat) (eR:(List Int)) (lI lJ:Bool):Prop:=
  ((((nth (bu (nth J.O U)) iZ).sw !=eM)=false→0≤eM∧eM.toNat<M.an.length)∧((((nth (bu (nth J.O U)) iZ).sw !=eM) || ((nth M.an eM).cC==(nth (bu (nth J.O U)) iZ).bk))=true→cg bt a8 dz a3 aK cy a1 bo eM fl c2 kY eR (IntKind.i64.wrap (iZ+1)) lI lJ∧cd bt a8 dz a3 aK cy a1 bo eM fl c2 kY eR (IntKind.i64.wrap (iZ+1)) lI lJ<cd bt a8 dz a3 aK cy a1 bo eM fl c2 kY eR iZ lI lJ))∧((!(((nth (bu (nth J.O U)) iZ).sw !=eM) || ((nth M.an eM).cC==(nth (bu (nth J.O U)) iZ).bk)))=true→(s8 J M eM)∧((gz J M eM).length≤4611686018427387904→((0≤eM∧eM.toNat<J.be.length)∧(0≤(nth J.be eM)∧(nth J.be eM).toNat<M.au.length))∧(MC cg cd J M bt a8 dz a3 aK cy a1 bo iZ fl c2 eM kY eR lI lJ)))
abbrev o6 (r:Type):Type:=Nat→(List Int)→Int→Nat→(List Int)→Int→Nat→(List Int)→Int→Bool→Bool→r
def ME (bG:o6 Prop) (bD:o6 Nat) (cg:mw Prop) (cd:mw Nat) (J:az) (M:Frame) (U:Int) (bt:Nat) (a8:(List Int)) (dz:Int) (a3:Nat) (aK:(List Int)) (cy:Int) (a1:Nat) (bo:(List Int)) (iZ:Int) (fl c2:Bool) (eM:Int) (kY:Nat) (eR:(List Int)) (lI lJ:Bool):Prop:=
  ((decide (iZ<((bu (nth J.O U)).length:Int)))=false→bG bt a8 dz a3 aK cy kY eR (IntKind.i64.wrap (eM+1)) lI lJ∧bD bt a8 dz a3 aK cy kY eR (IntKind.i64.wrap (eM+1)) lI lJ<bD bt a8 dz a3 aK cy a1 bo eM fl c2)∧((decide (iZ<((bu (nth J.O U)).length:Int)))=true→(0≤iZ∧iZ.toNat<(bu (nth J.O U)).length)∧(MD cg cd J M U bt a8 dz a3 aK cy a1 bo iZ fl c2 eM kY eR lI lJ))
def MF (bG:o6 Prop) (bD:o6 Nat) (cg:mw Prop) (cd:mw Nat) (J:az) (M:Frame) (U:Int) (al:ma×Bool×Bool) (bt:Nat) (a8:(List Int)) (dz:Int) (a3:Nat) (aK:(List Int)) (cy:Int) (a1:Nat) (bo:(List Int)) (fl c2:Bool) (eM:Int):Prop:=
  ((decide (eM<(J.be.length:Int)))=false→(a8.length≤4611686018427387904∧a8=al.1.O)∧(aK.length≤4611686018427387904∧aK=al.1.ai)∧(bo.length≤4611686018427387904∧bo=al.1.an)∧(fl=al.2.1)∧(c2=al.2.2))∧((decide (eM<(J.be.length:Int)))=true→(xg (nth J.O U))∧((bu (nth J.O U)).length≤4611686018427387904→cg bt a8 dz a3 aK cy a1 bo eM fl c2 a1 bo 0 fl c2∧ ∀(kY:Nat) (eR:(List Int)) (iZ:Int) (lI:Bool) (lJ:Bool),cg bt a8 dz a3 aK cy a1 bo eM fl c2 kY eR iZ lI lJ→(ME bG bD cg cd J M U bt a8 dz a3 aK cy a1 bo iZ fl c2 eM kY eR lI lJ)))
abbrev q8 (r:Type):Type:=Nat→(List Int)→Int→Nat→(List Int)→Int→r
def MG (aY:q8 Prop) (a0:q8 Nat) (J:az) (M:Frame) (U:Int) (bt:Nat) (a8:(List Int)) (dz:Int) (a3:Nat) (aK:(List Int)) (cy:Int):Prop:=
  (((nth M.au cy)&&((fQ (nth J.O U).ai cy) || (fQ (nth J.O U).cO cy)))=true→((aK.length+[cy].length)*8≤140737488355328∧aK.length+[cy].length≤4611686018427387904)∧(aY bt a8 dz (a3+1) (aK++[cy]) (IntKind.i64.wrap (cy+1))∧a0 bt a8 dz (a3+1) (aK++[cy]) (IntKind.i64.wrap (cy+1))<a0 bt a8 dz a3 aK cy))∧(((nth M.au cy)&&((fQ (nth J.O U).ai cy) || (fQ (nth J.O U).cO cy)))=false→aY bt a8 dz a3 aK (IntKind.i64.wrap (cy+1))∧a0 bt a8 dz a3 aK (IntKind.i64.wrap (cy+1))<a0 bt a8 dz a3 aK cy)
def MH (aY:q8 Prop) (a0:q8 Nat) (bG:o6 Prop) (bD:o6 Nat) (cg:mw Prop) (cd:mw Nat) (J:az) (M:Frame) (U:Int) (al:ma×Bool×Bool) (bt:Nat) (a8:(List Int)) (dz:Int) (a3:Nat) (aK:(List Int)) (cy:Int):Prop:=
  ((decide (cy<J.ai))=false→J.be.length≤4611686018427387904→bG bt a8 dz a3 aK cy 0 ([]:List Int) 0 false false∧ ∀(a1:Nat) (bo:(List Int)) (eM:Int) (fl:Bool) (c2:Bool),bG bt a8 dz a3 aK cy a1 bo eM fl c2→(MF bG bD cg cd J M U al bt a8 dz a3 aK cy a1 bo fl c2 eM))∧((decide (cy<J.ai))=true→(0≤cy∧cy.toNat<M.au.length)∧(MG aY a0 J M U bt a8 dz a3 aK cy))
def MI (ay:j4 Prop) (aA:j4 Nat) (J:az) (M:Frame) (U:Int) (bt:Nat) (a8:(List Int)) (dz:Int):Prop:=
  (((dz !=U)&&(((nth M.O dz).aq !=0)&&((nth (nth J.bU U) dz) || ((meets (nth J.O U).ai (nth J.O dz).cO) || (meets (nth J.O U).cO (nth J.O dz).ai)))))=true→((a8.length+[dz].length)*8≤140737488355328∧a8.length+[dz].length≤4611686018427387904)∧(ay (bt+1) (a8++[dz]) (IntKind.i64.wrap (dz+1))∧aA (bt+1) (a8++[dz]) (IntKind.i64.wrap (dz+1))<aA bt a8 dz))∧(((dz !=U)&&(((nth M.O dz).aq !=0)&&((nth (nth J.bU U) dz) || ((meets (nth J.O U).ai (nth J.O dz).cO) || (meets (nth J.O U).cO (nth J.O dz).ai)))))=false→ay bt a8 (IntKind.i64.wrap (dz+1))∧aA bt a8 (IntKind.i64.wrap (dz+1))<aA bt a8 dz)
def MJ (ay:j4 Prop) (aA:j4 Nat) (aY:q8 Prop) (a0:q8 Nat) (bG:o6 Prop) (bD:o6 Nat) (cg:mw Prop) (cd:mw Nat) (J:az) (M:Frame) (U:Int) (al:ma×Bool×Bool) (bt:Nat) (a8:(List Int)) (dz:Int):Prop:=
  ((decide (dz<(J.O.length:Int)))=false→aY bt a8 dz 0 ([]:List Int) 0∧ ∀(a3:Nat) (aK:(List Int)) (cy:Int),aY bt a8 dz a3 aK cy→(MH aY a0 bG bD cg cd J M U al bt a8 dz a3 aK cy))∧((decide (dz<(J.O.length:Int)))=true→(0≤dz∧dz.toNat<J.O.length)∧(((dz !=U)=true→(0≤dz∧dz.toNat<M.O.length)∧(((nth M.O dz).aq !=0)=true→(0≤U∧U.toNat<J.bU.length)∧(0≤dz∧dz.toNat<(nth J.bU U).length)))∧(MI ay aA J M U bt a8 dz)))
def MB (J:az) (M:Frame) (U:Int) (al:ma×Bool×Bool) (ay:j4 Prop) (aA:j4 Nat) (aY:q8 Prop) (a0:q8 Nat) (bG:o6 Prop) (bD:o6 Nat) (cg:mw Prop) (cd:mw Nat):Prop:=
 (0≤U∧U.toNat<J.O.length)∧(J.O.length≤4611686018427387904→ay 0 ([]:List Int) 0∧ ∀(bt:Nat) (a8:(List Int)) (dz:Int),ay bt a8 dz→(MJ ay aA aY a0 bG bD cg cd J M U al bt a8 dz))
theorem Yh (J:az) (M:Frame) (U:Int) (aG:m9 J M U):bX Try.prog 115 [.agg (bq false J),.agg (bS false M),ag U] (.tup [.agg (AK true ((hO J M U).1)),ao ((hO J M U).2.1),ao ((hO J M U).2.2)]):=(fun(ay:j4 Prop) (aA:j4 Nat) (aY:q8 Prop) (a0:q8 Nat) (bG:o6 Prop) (bD:o6 Nat) (cg:mw Prop) (cd:mw Nat) (h:MB J M U (hO J M U) ay aA aY a0 bG bD cg cd)=>bX.run (ps:=[.c8,.frame,.int]) (rs:=[.stays,.bool,.bool]) (x:=(J,M,U,())) (r:=((hO J M U).1,(hO J M U).2.1,(hO J M U).2.2,())) ⟨169,dZ,[FY,YV,CD,FW]⟩ ⟨[],[(20,Yi,Yj),(22,Yk,Yl)],[],[],[]⟩ (.lp [(7,0,.int)] [2,3,4,6,7,8,9,24,25] [(9,5),(6,3),(4,4),(3,5)] [.nat,(.l .int),.int] [bA 0,bA 0,26] (fun aS=>[(26,.i .i64 aS.2.2.1),(eD 6 0,.ref 0 aS.1 aS.2.1.length false),(bA 0,.blk aS.1 .int aS.2.1 _ rfl)]) (fun aS=>ay aS.1 aS.2.1 aS.2.2.1) (fun aS=>aA aS.1 aS.2.1 aS.2.2.1) fun aS=>(.lp [(7,1,.int)] [3,4,6,7,8,9,75] [(9,5),(6,3),(4,4),(3,5)] [.nat,(.l .int),.int] [bA 1,bA 1,76] (fun bN=>[(76,.i .i64 bN.2.2.1),(eD 6 1,.ref 1 bN.1 bN.2.1.length false),(bA 1,.blk bN.1 .int bN.2.1 _ rfl)]) (fun bN=>aY aS.1 aS.2.1 aS.2.2.1 bN.1 bN.2.1 bN.2.2.1) (fun bN=>a0 aS.1 aS.2.1 aS.2.2.1 bN.1 bN.2.1 bN.2.2.1) fun bN=>(.lp [(7,2,.int)] [3,4,6,9,105] [(9,5),(6,3),(4,4),(3,5)] [.nat,(.l .int),.int,.bool,.bool] [bA 2,bA 2,106,7,8] (fun cc=>[(7,.b (.v cc.2.2.2.1)),(8,.b (.v cc.2.2.2.2.1)),(106,.i .i64 cc.2.2.1),(eD 6 2,.ref 2 cc.1 cc.2.1.length false),(bA 2,.blk cc.1 .int cc.2.1 _ rfl)]) (fun cc=>bG aS.1 aS.2.1 aS.2.2.1 bN.1 bN.2.1 bN.2.2.1 cc.1 cc.2.1 cc.2.2.1 cc.2.2.2.1 cc.2.2.2.2.1) (fun cc=>bD aS.1 aS.2.1 aS.2.2.1 bN.1 bN.2.1 bN.2.2.1 cc.1 cc.2.1 cc.2.2.1 cc.2.2.2.1 cc.2.2.2.2.1) fun cc=>(.lp [] [3,4,6,9,13,105,106,110,111] [(9,5),(6,3),(4,4),(3,5)] [.nat,(.l .int),.int,.bool,.bool] [bA 2,bA 2,112,7,8] (fun eQ=>[(7,.b (.v eQ.2.2.2.1)),(8,.b (.v eQ.2.2.2.2.1)),(112,.i .i64 eQ.2.2.1),(eD 6 2,.ref 2 eQ.1 eQ.2.1.length false),(bA 2,.blk eQ.1 .int eQ.2.1 _ rfl)]) (fun eQ=>cg aS.1 aS.2.1 aS.2.2.1 bN.1 bN.2.1 bN.2.2.1 cc.1 cc.2.1 cc.2.2.1 cc.2.2.2.1 cc.2.2.2.2.1 eQ.1 eQ.2.1 eQ.2.2.1 eQ.2.2.2.1 eQ.2.2.2.2.1) (fun eQ=>cd aS.1 aS.2.1 aS.2.2.1 bN.1 bN.2.1 bN.2.2.1 cc.1 cc.2.1 cc.2.2.1 cc.2.2.2.1 cc.2.2.2.2.1 eQ.1 eQ.2.1 eQ.2.2.1 eQ.2.2.2.1 eQ.2.2.2.2.1) fun _=> .nil)))) Try.func115 h) (fun _ x v=>cv J.O.length (fun _=>false) v∧x=eg (kD J M U) v) (fun _ _ v=>cG J.O.length v) (fun _ a8 _ _ aK v=>a8=eg (kD J M U) J.O.length∧cv J.ai (fun _=>false) v∧aK=eg (mR J M U) v) (fun _ _ _ _ _ v=>cG J.ai v) (fun _ a8 _ _ aK _ _ bo v a b=>a8=eg (kD J M U) J.O.length∧aK=eg (mR J M U) J.ai∧cv J.be.length (fun _=>false) v∧bo=eg (jy J M U) v∧a=wc J M U v∧b=zP J M U v) (fun _ _ _ _ _ _ _ _ v _ _=>cG J.be.length v) (fun _ _ _ _ _ _ _ x k a b _ ld j ih cl=>Tx J M U k x a b ld j ih cl) (fun _ _ _ _ _ _ _ _ _ _ _ _ _ j _ _=>cG (bu (nth J.O U)).length j) (by
 unfold MB
 obtain⟨hf,aT,h1⟩:=aG
 have hw:=hf.fr.O
 have kZ:=hf.fr.an
 have qw:=hf.fr.au
 have cF:=hf.in
 have yL:=cF.O
 have wK:=cF.sw
 have nn:=cF.cZ
 have ed:=zo hf.nk
 have bc:U.toNat<J.O.length:=by omega
 have yK:=dC bc
 have mT:=GC hf.nk yK
 refine⟨⟨aT,bc⟩,fun aF=>⟨⟨di (dt _),rfl⟩,fun g x v aX=> ?_⟩⟩
 obtain⟨aX,rfl⟩:=aX
 have hlen:=pj (kD J M U) v
 have yW:=aX.2.1
 unfold MJ
 refine⟨fun hv=>⟨⟨v_ aX hv,di nn.1,rfl⟩,fun a3 aK s ds=> ?_⟩,fun hv=>⟨ch aX hv,⟨fun _=> ?_,?_⟩⟩⟩
 ·obtain⟨hT,ds,rfl⟩:=ds
  have W1:=pj (mR J M U) s
  have XA:=ds.2.1
  unfold MH
  refine⟨fun hs hm=>⟨⟨hT,v_ ds hs,di (dt _),rfl,rfl,rfl⟩,fun a1 bo k a b hK=> ?_⟩,fun hs=> ?_⟩
  ·obtain⟨_,qz,hK,rfl,rfl,rfl⟩:=hK
   have Bo:=pj (jy J M U) k
   have rL:=hK.2.1
   unfold MF
   refine⟨fun hk=> ?_,fun hk=>⟨⟨by have:=(cF.a2 _ yK).1;omega,by have:=(cF.a2 _ yK).2.1;omega⟩,fun LX=> ?_⟩⟩
   ·have bx:=v_ (q:=jy J M U) hK hk
    have e:k=J.be.length:=by
     have: ¬k<(J.be.length:Int):=by simpa using hk
     omega
    refine⟨⟨by omega,hT⟩,⟨by omega,qz⟩,⟨by omega,bx⟩,?_,?_⟩
    ·rw[e];rfl
    ·rw[e];rfl
   ·have yI:=ch hK hk
    have mS:=c0 (cD hm) hK hk rfl
    refine⟨⟨di (dt _),by simp[ns],by simp[ns],by simp[ns]⟩,fun kY eR j ih cl b0=> ?_⟩
    obtain⟨b0,rfl,rfl,rfl⟩:=b0
    unfold ME
    refine⟨fun aM=> ?_,fun aM=>⟨ch b0 aM,?_⟩⟩
    ·have n8: ¬j<((bu (nth J.O U)).length:Int):=by simpa using aM
     rw[abH _ _ _ _ (j:=j.toNat) (by omega)]
     have s1:=ql (q:=jy J M U) (cD hm) hK hk
     have s2:=(ql (q:=fun k=>jE J M U k&&iR J M k) (cD hm) hK hk).2.2
     have l6:=(ql (q:=fun k=>jE J M U k&&km J M k) (cD hm) hK hk).2.2
     refine⟨⟨hT,qz,mS.1,?_,s2.symm,l6.symm⟩,mS.2⟩
     cases aj:jy J M U k with
     | true=>rw[if_pos (show(jE J M U k&&(iR J M k || km J M k))=true from aj)];exact s1.1 aj
     | false=>rw[if_neg (by rw[show(jE J M U k&&(iR J M k || km J M k))=false from aj];simp)];exact s1.2.1 aj
    ·have Bk:=ch b0 aM
     have ui:=c0 (cD LX) b0 aM rfl
     have AM:(IntKind.i64.wrap (j+1)).toNat=j.toNat+1:=by rw[jM (cD LX) b0.1 (by simpa using aM)];omega
     have rT:=abJ (f:=M) (k:=k) Bk.2
     have Xa:nth (bu (nth J.O U)) j=(bu (nth J.O U))[j.toNat]'Bk.2:=gH Bk.2
     have Ff:=cF.be _ (dC yI.2)
     have EN: ∀(c:Prop) [Decidable c],(if c then eg (jy J M U) k++[k] else eg (jy J M U) k).length≤41:=fun c _=>by
      split
      ·rw[List.length_append,List.length_singleton];omega
      ·omega
     unfold MD
     rw[Xa]
     refine⟨⟨fun _=>⟨hK.1,by omega⟩,fun aj=> ?_⟩,fun aj=>⟨⟨hf,hK.1,by omega⟩,fun ji=>⟨⟨⟨hK.1,yI.2⟩,Ff.1,by omega⟩,?_⟩⟩⟩
     ·have:((bu (nth J.O U))[j.toNat].sw==k&& !((nth M.an k).cC==(bu (nth J.O U))[j.toNat].bk))=false:=by
       revert aj
       rw[show((bu (nth J.O U))[j.toNat].sw !=k)= !((bu (nth J.O U))[j.toNat].sw==k) from rfl]
       cases((bu (nth J.O U))[j.toNat].sw==k)<;>cases((nth M.an k).cC==(bu (nth J.O U))[j.toNat].bk)<;>simp
      rw[this,Bool.or_false] at rT
      exact⟨⟨ui.1,by rw[AM,rT],by rw[AM,rT],by rw[AM,rT]⟩,ui.2⟩
     ·have kk:((bu (nth J.O U))[j.toNat].sw==k)=true∧((nth M.an k).cC==(bu (nth J.O U))[j.toNat].bk)=false:=by
       revert aj
       rw[show((bu (nth J.O U))[j.toNat].sw !=k)= !((bu (nth J.O U))[j.toNat].sw==k) from rfl]
       cases((bu (nth J.O U))[j.toNat].sw==k)<;>cases((nth M.an k).cC==(bu (nth J.O U))[j.toNat].bk)<;>simp
      have lY:=abI (f:=M) mT Bk.2 kk.1
      rw[lY,kk.1,kk.2] at rT
      rw[lY]
      unfold MC
      have ij:(decide (((gz J M k).length:Int)>0))=iR J M k:=rfl
      have mI:nth M.au (nth J.be k)=km J M k:=rfl
      rw[ij,mI]
      simp only[Bool.false_and,Bool.or_false,if_false,Bool.false_eq_true]
      have E: ∀c:Bool,(ns J M U k (IntKind.i64.wrap (j+1)).toNat&&c)=c:=fun c=>by rw[AM,rT];rfl
      refine⟨fun hc=>⟨⟨by simp only[List.length_singleton];omega,by simp only[List.length_singleton];omega⟩,⟨ui.1,?_,by rw[E],by rw[E]⟩,ui.2⟩,fun hc=>⟨⟨ui.1,?_,by rw[E],by rw[E]⟩,ui.2⟩⟩
      ·rw[E,if_pos hc]
      ·rw[E,if_neg (by rw[hc];simp)]
  ·have rR:0≤s∧s<J.ai:=⟨ds.1,by simpa using hs⟩
   have bj:=c0 (N:=J.ai) (by omega) ds hs rfl
   have s1:=ql (q:=mR J M U) (N:=J.ai) (by omega) ds hs
   refine⟨⟨ds.1,by omega⟩,?_⟩
   unfold MG
   exact⟨fun aj=>⟨⟨by simp only[List.length_singleton];omega,by simp only[List.length_singleton];omega⟩,⟨hT,bj.1,s1.1 aj⟩,bj.2⟩,fun aj=>⟨⟨hT,bj.1,s1.2.1 aj⟩,bj.2⟩⟩
 ·have ca:=ch aX hv
  have hE:=ed.len
  have eV:=ed.row U aT h1
  exact⟨⟨ca.1,by omega⟩,fun _=>⟨⟨aT,by omega⟩,ca.1,by omega⟩⟩
 ·have bj:=c0 (cD aF) aX hv rfl
  have s1:=ql (q:=kD J M U) (cD aF) aX hv
  unfold MI
  exact⟨fun aj=>⟨⟨by simp only[List.length_singleton];omega,by simp only[List.length_singleton];omega⟩,⟨bj.1,s1.1 aj⟩,bj.2⟩,fun aj=>⟨⟨bj.1,s1.2.1 aj⟩,bj.2⟩⟩)
def MK:dY Try.prog:=⟨115,[.c8,.frame,.int],[.stays,.bool,.bool],some fun x=>m9 x.1 x.2.1 x.2.2.1,fun x=>((hO x.1 x.2.1 x.2.2.1).1,(hO x.1 x.2.1 x.2.2.1).2.1,(hO x.1 x.2.1 x.2.2.1).2.2,()),fun x h=>Yh x.1 x.2.1 x.2.2.1 h⟩
def adX:List Item:=[av 0,av 1,av 2,av 3,av 4,av 5,av 6,av 7,av 8,av 9,av 10,av 11,av 12,av 13,av 14,av 15,av 16,av 17,av 18,av 19,av 20,av 21,av 22,av 23,av 24,av 25,av 26,av 27,av 28,av 29,av 30,av 31,av 32,av 33,av 34,av 35,av 36,av 37,av 38,av 39,av 40,av 41,av 42,av 43]
def adY:List (List Nat):=[[],[],[0,1],[0,1,2],rg 0 4,rg 0 5,rg 0 4,rg 0 7,rg 0 8,rg 0 9,rg 0 10,rg 0 11,rg 0 12,rg 0 13,rg 0 14,rg 0 13,rg 0 16,rg 0 17,rg 0 13,rg 0 19,rg 0 20,rg 0 21,rg 0 22,rg 0 23,rg 0 22,rg 0 22++[24],rg 0 22,rg 0 22++[24,25,26],rg 0 22++rg 24 28,rg 0 22++rg 24 29,rg 0 30,rg 0 31,rg 0 32,rg 0 33,rg 0 34,rg 0 33,rg 0 33++[35],rg 0 33,rg 0 33++[35,36,37],rg 0 33++rg 35 39,rg 0 33++rg 35 40,rg 0 41,rg 0 42,rg 0 43]
def adV:List Item:=[av 0,av 1,av 2,av 3,av 4,av 5,av 6,av 7,av 8]
def adW:List (List Nat):=[[],[0],[],[2],[],[2,3,4],rg 2 6,rg 0 7,rg 0 8]
abbrev lF (r:Type):Type:=Nat→(List Int)→Int→Int→Nat→(List Int)→Int→Int→Nat→(List Int)→Int→Int→r
def Q8 (bG:lF Prop) (bD:lF Nat) (bt:Nat) (a8:(List Int)) (cA b7:Int) (a3:Nat) (aK:(List Int)) (ae en:Int) (a1:Nat) (bo:(List Int)) (dD b9:Int):Prop:=
  ((b9==0)=true→bG bt a8 cA b7 a3 aK ae en (a1+1) (bo++[dD]) (IntKind.i64.wrap (dD+1)) 6∧bD bt a8 cA b7 a3 aK ae en (a1+1) (bo++[dD]) (IntKind.i64.wrap (dD+1)) 6<bD bt a8 cA b7 a3 aK ae en a1 bo dD b9)∧((b9==0)=false→bG bt a8 cA b7 a3 aK ae en (a1+1) (bo++[dD]) (IntKind.i64.wrap (dD+1)) b9∧bD bt a8 cA b7 a3 aK ae en (a1+1) (bo++[dD]) (IntKind.i64.wrap (dD+1)) b9<bD bt a8 cA b7 a3 aK ae en a1 bo dD b9)
def Rc (bG:lF Prop) (bD:lF Nat) (J:az) (M:Frame) (bt:Nat) (a8:(List Int)) (cA b7:Int) (a3:Nat) (aK:(List Int)) (ae en:Int) (a1:Nat) (bo:(List Int)) (dD b9:Int):Prop:=
  ((nth M.au (nth J.be dD))=true→((bo.length+[dD].length)*8≤140737488355328∧bo.length+[dD].length≤4611686018427387904)∧(Q8 bG bD bt a8 cA b7 a3 aK ae en a1 bo dD b9))∧((nth M.au (nth J.be dD))=false→bG bt a8 cA b7 a3 aK ae en a1 bo (IntKind.i64.wrap (dD+1)) b9∧bD bt a8 cA b7 a3 aK ae en a1 bo (IntKind.i64.wrap (dD+1)) b9<bD bt a8 cA b7 a3 aK ae en a1 bo dD b9)
def Rd (bG:lF Prop) (bD:lF Nat) (J:az) (M:Frame) (bt:Nat) (a8:(List Int)) (cA b7:Int) (a3:Nat) (aK:(List Int)) (ae en:Int) (a1:Nat) (bo:(List Int)) (dD b9:Int):Prop:=
  ((decide (((gz J M dD).length:Int)>0))=true→((bo.length+[dD].length)*8≤140737488355328∧bo.length+[dD].length≤4611686018427387904)∧(bG bt a8 cA b7 a3 aK ae en (a1+1) (bo++[dD]) (IntKind.i64.wrap (dD+1)) 5∧bD bt a8 cA b7 a3 aK ae en (a1+1) (bo++[dD]) (IntKind.i64.wrap (dD+1)) 5<bD bt a8 cA b7 a3 aK ae en a1 bo dD b9))∧((decide (((gz J M dD).length:Int)>0))=false→((0≤dD∧dD.toNat<J.be.length)∧(0≤(nth J.be dD)∧(nth J.be dD).toNat<M.au.length))∧(Rc bG bD J M bt a8 cA b7 a3 aK ae en a1 bo dD b9))
abbrev lG (r:Type):Type:=Nat→(List Int)→Int→Int→Nat→(List Int)→Int→Int→Nat→(List Int)→Int→Int→Int→Int→Int→Int→r
def Re (dr:lG Prop) (du:lG Nat) (J:az) (U:Int) (bt:Nat) (a8:(List Int)) (cA b7:Int) (a3:Nat) (aK:(List Int)) (ae en mC c6 h6 re:Int) (a1:Nat) (bo:(List Int)) (dD b9:Int):Prop:=
  dr bt a8 cA b7 a3 aK ae en a1 bo dD b9 h6 c6 (IntKind.i64.wrap (mC+1)) (bif ((nth (nth [(nth J.O U).a2,(nth J.O U).bw] h6) mC).sw==dD) then(nth (nth [(nth J.O U).a2,(nth J.O U).bw] h6) mC).bk else re)∧du bt a8 cA b7 a3 aK ae en a1 bo dD b9 h6 c6 (IntKind.i64.wrap (mC+1)) (bif ((nth (nth [(nth J.O U).a2,(nth J.O U).bw] h6) mC).sw==dD) then(nth (nth [(nth J.O U).a2,(nth J.O U).bw] h6) mC).bk else re)<du bt a8 cA b7 a3 aK ae en a1 bo dD b9 h6 c6 mC re
abbrev my (r:Type):Type:=Nat→(List Int)→Int→Int→Nat→(List Int)→Int→Int→Nat→(List Int)→Int→Int→Int→Int→r
def Rf (cg:my Prop) (cd:my Nat) (dr:lG Prop) (du:lG Nat) (J:az) (U:Int) (bt:Nat) (a8:(List Int)) (cA b7:Int) (a3:Nat) (aK:(List Int)) (ae en mC c6 h6 re:Int) (a1:Nat) (bo:(List Int)) (dD b9:Int):Prop:=
  ((decide (mC<((nth [(nth J.O U).a2,(nth J.O U).bw] h6).length:Int)))=false→cg bt a8 cA b7 a3 aK ae en a1 bo dD b9 (IntKind.i64.wrap (h6+1)) re∧cd bt a8 cA b7 a3 aK ae en a1 bo dD b9 (IntKind.i64.wrap (h6+1)) re<cd bt a8 cA b7 a3 aK ae en a1 bo dD b9 h6 c6)∧((decide (mC<((nth [(nth J.O U).a2,(nth J.O U).bw] h6).length:Int)))=true→(0≤mC∧mC.toNat<(nth [(nth J.O U).a2,(nth J.O U).bw] h6).length)∧(Re dr du J U bt a8 cA b7 a3 aK ae en mC c6 h6 re a1 bo dD b9))
def Rg (cg:my Prop) (cd:my Nat) (dr:lG Prop) (du:lG Nat) (J:az) (U:Int) (bt:Nat) (a8:(List Int)) (cA b7:Int) (a3:Nat) (aK:(List Int)) (ae en c6 h6:Int) (a1:Nat) (bo:(List Int)) (dD b9:Int):Prop:=
  (0≤h6∧h6.toNat<[(nth J.O U).a2,(nth J.O U).bw].length)∧((nth [(nth J.O U).a2,(nth J.O U).bw] h6).length≤4611686018427387904→dr bt a8 cA b7 a3 aK ae en a1 bo dD b9 h6 c6 0 c6∧ ∀(mC:Int) (re:Int),dr bt a8 cA b7 a3 aK ae en a1 bo dD b9 h6 c6 mC re→(Rf cg cd dr du J U bt a8 cA b7 a3 aK ae en mC c6 h6 re a1 bo dD b9))
def Rh (bG:lF Prop) (bD:lF Nat) (cg:my Prop) (cd:my Nat) (dr:lG Prop) (du:lG Nat) (J:az) (M:Frame) (U:Int) (bt:Nat) (a8:(List Int)) (cA b7:Int) (a3:Nat) (aK:(List Int)) (ae en c6 h6:Int) (a1:Nat) (bo:(List Int)) (dD b9:Int):Prop:=
  ((decide (h6<([(nth J.O U).a2,(nth J.O U).bw].length:Int)))=false→(((c6==0)=false→0≤dD∧dD.toNat<M.an.length)∧(((c6==0) || (c6==(nth M.an dD).cC))=true→bG bt a8 cA b7 a3 aK ae en a1 bo (IntKind.i64.wrap (dD+1)) b9∧bD bt a8 cA b7 a3 aK ae en a1 bo (IntKind.i64.wrap (dD+1)) b9<bD bt a8 cA b7 a3 aK ae en a1 bo dD b9))∧((!((c6==0) || (c6==(nth M.an dD).cC)))=true→(s8 J M dD)∧((gz J M dD).length≤4611686018427387904→Rd bG bD J M bt a8 cA b7 a3 aK ae en a1 bo dD b9)))∧((decide (h6<([(nth J.O U).a2,(nth J.O U).bw].length:Int)))=true→Rg cg cd dr du J U bt a8 cA b7 a3 aK ae en c6 h6 a1 bo dD b9)
def Ri (bG:lF Prop) (bD:lF Nat) (cg:my Prop) (cd:my Nat) (dr:lG Prop) (du:lG Nat) (J:az) (M:Frame) (U:Int) (al:ma×Int) (bt:Nat) (a8:(List Int)) (cA b7:Int) (a3:Nat) (aK:(List Int)) (ae en:Int) (a1:Nat) (bo:(List Int)) (dD b9:Int):Prop:=
  ((decide (dD<(J.be.length:Int)))=false→(a8.length≤4611686018427387904∧a8=al.1.O)∧(aK.length≤4611686018427387904∧aK=al.1.ai)∧(bo.length≤4611686018427387904∧bo=al.1.an)∧((bif (en==0) then b9 else en)=al.2))∧((decide (dD<(J.be.length:Int)))=true→[(nth J.O U).a2,(nth J.O U).bw].length≤4611686018427387904→cg bt a8 cA b7 a3 aK ae en a1 bo dD b9 0 0∧ ∀(h6:Int) (c6:Int),cg bt a8 cA b7 a3 aK ae en a1 bo dD b9 h6 c6→(Rh bG bD cg cd dr du J M U bt a8 cA b7 a3 aK ae en c6 h6 a1 bo dD b9))
abbrev q9 (r:Type):Type:=Nat→(List Int)→Int→Int→Nat→(List Int)→Int→Int→r
def Rj (aY:q9 Prop) (a0:q9 Nat) (J:az) (M:Frame) (U:Int) (bt:Nat) (a8:(List Int)) (cA b7:Int) (a3:Nat) (aK:(List Int)) (ae en:Int):Prop:=
  (((nth M.au ae)&&((meets [ae] (nth J.O U).ai) || (meets [ae] (nth J.O U).cO)))=true→((aK.length+[ae].length)*8≤140737488355328∧aK.length+[ae].length≤4611686018427387904)∧(((en==0)=true→aY bt a8 cA b7 (a3+1) (aK++[ae]) (IntKind.i64.wrap (ae+1)) 4∧a0 bt a8 cA b7 (a3+1) (aK++[ae]) (IntKind.i64.wrap (ae+1)) 4<a0 bt a8 cA b7 a3 aK ae en)∧((en==0)=false→aY bt a8 cA b7 (a3+1) (aK++[ae]) (IntKind.i64.wrap (ae+1)) en∧a0 bt a8 cA b7 (a3+1) (aK++[ae]) (IntKind.i64.wrap (ae+1)) en<a0 bt a8 cA b7 a3 aK ae en)))∧(((nth M.au ae)&&((meets [ae] (nth J.O U).ai) || (meets [ae] (nth J.O U).cO)))=false→aY bt a8 cA b7 a3 aK (IntKind.i64.wrap (ae+1)) en∧a0 bt a8 cA b7 a3 aK (IntKind.i64.wrap (ae+1)) en<a0 bt a8 cA b7 a3 aK ae en)
def Q9 (aY:q9 Prop) (a0:q9 Nat) (bG:lF Prop) (bD:lF Nat) (cg:my Prop) (cd:my Nat) (dr:lG Prop) (du:lG Nat) (J:az) (M:Frame) (U:Int) (al:ma×Int) (bt:Nat) (a8:(List Int)) (cA b7:Int) (a3:Nat) (aK:(List Int)) (ae en:Int):Prop:=
  ((decide (ae<J.ai))=false→J.be.length≤4611686018427387904→bG bt a8 cA b7 a3 aK ae en 0 ([]:List Int) 0 0∧ ∀(a1:Nat) (bo:(List Int)) (dD:Int) (b9:Int),bG bt a8 cA b7 a3 aK ae en a1 bo dD b9→(Ri bG bD cg cd dr du J M U al bt a8 cA b7 a3 aK ae en a1 bo dD b9))∧((decide (ae<J.ai))=true→(0≤ae∧ae.toNat<M.au.length)∧(Rj aY a0 J M U bt a8 cA b7 a3 aK ae en))
abbrev q_ (r:Type):Type:=Nat→(List Int)→Int→Int→r
def Q_ (ay:q_ Prop) (aA:q_ Nat) (J:az) (M:Frame) (U:Int) (bt:Nat) (a8:(List Int)) (cA b7:Int):Prop:=
  (((cA !=U)&&(((nth M.O cA).aq !=0)&&((nth (nth J.bU U) cA) || ((meets (nth J.O U).ai (nth J.O cA).cO) || (meets (nth J.O U).cO (nth J.O cA).ai)))))=true→((a8.length+[cA].length)*8≤140737488355328∧a8.length+[cA].length≤4611686018427387904)∧(ay (bt+1) (a8++[cA]) (IntKind.i64.wrap (cA+1)) 3∧aA (bt+1) (a8++[cA]) (IntKind.i64.wrap (cA+1)) 3<aA bt a8 cA b7))∧(((cA !=U)&&(((nth M.O cA).aq !=0)&&((nth (nth J.bU U) cA) || ((meets (nth J.O U).ai (nth J.O cA).cO) || (meets (nth J.O U).cO (nth J.O cA).ai)))))=false→ay bt a8 (IntKind.i64.wrap (cA+1)) b7∧aA bt a8 (IntKind.i64.wrap (cA+1)) b7<aA bt a8 cA b7)
def Ra (ay:q_ Prop) (aA:q_ Nat) (J:az) (M:Frame) (U:Int) (bt:Nat) (a8:(List Int)) (cA b7:Int):Prop:=
  ((cA !=U)=true→(0≤cA∧cA.toNat<M.O.length)∧(((nth M.O cA).aq !=0)=true→(0≤U∧U.toNat<J.bU.length)∧((0≤cA∧cA.toNat<(nth J.bU U).length)∧((nth (nth J.bU U) cA)=false→(0≤cA∧cA.toNat<J.O.length)∧((meets (nth J.O U).ai (nth J.O cA).cO)=false→0≤cA∧cA.toNat<J.O.length)))))∧(Q_ ay aA J M U bt a8 cA b7)
def Rb (ay:q_ Prop) (aA:q_ Nat) (aY:q9 Prop) (a0:q9 Nat) (bG:lF Prop) (bD:lF Nat) (cg:my Prop) (cd:my Nat) (dr:lG Prop) (du:lG Nat) (J:az) (M:Frame) (U:Int) (al:ma×Int):Prop:=
  ay 0 ([]:List Int) 0 0∧ ∀(bt:Nat) (a8:(List Int)) (cA:Int) (b7:Int),ay bt a8 cA b7→(((decide (cA<(J.O.length:Int)))=false→aY bt a8 cA b7 0 ([]:List Int) 0 b7∧ ∀(a3:Nat) (aK:(List Int)) (ae:Int) (en:Int),aY bt a8 cA b7 a3 aK ae en→(Q9 aY a0 bG bD cg cd dr du J M U al bt a8 cA b7 a3 aK ae en))∧((decide (cA<(J.O.length:Int)))=true→Ra ay aA J M U bt a8 cA b7))
def Q7 (J:az) (M:Frame) (U:Int) (al:ma×Int) (ay:q_ Prop) (aA:q_ Nat) (aY:q9 Prop) (a0:q9 Nat) (bG:lF Prop) (bD:lF Nat) (cg:my Prop) (cd:my Nat) (dr:lG Prop) (du:lG Nat):Prop:=
 (0≤U∧U.toNat<J.O.length)∧(J.O.length≤4611686018427387904→Rb ay aA aY a0 bG bD cg cd dr du J M U al)
theorem adT (J:az) (M:Frame) (U:Int) (aG:m9 J M U):bX Try.prog 154 [.agg (bq false J),.agg (bS false M),ag U] (.tup [.agg (AK true ((tr J M U).1)),ag ((tr J M U).2)]):=(fun(ay:q_ Prop) (aA:q_ Nat) (aY:q9 Prop) (a0:q9 Nat) (bG:lF Prop) (bD:lF Nat) (cg:my Prop) (cd:my Nat) (dr:lG Prop) (du:lG Nat) (h:Q7 J M U (tr J M U) ay aA aY a0 bG bD cg cd dr du)=>bX.run (ps:=[.c8,.frame,.int]) (rs:=[.stays,.int]) (x:=(J,M,U,())) (r:=((tr J M U).1,(tr J M U).2,())) ⟨192,dZ,[adS,zS]⟩ ⟨[],[(7,adX,adY),(37,adV,adW)],[],[],[]⟩ (.lp [(9,0,.int)] [2,3,4,6,8,10,27] [(10,5),(8,3),(6,3),(4,4),(3,5)] [.nat,(.l .int),.int,.int] [bA 0,bA 0,28,9] (fun aS=>[(9,.i .i64 aS.2.2.2.1),(28,.i .i64 aS.2.2.1),(eD 8 0,.ref 0 aS.1 aS.2.1.length false),(bA 0,.blk aS.1 .int aS.2.1 _ rfl)]) (fun aS=>ay aS.1 aS.2.1 aS.2.2.1 aS.2.2.2.1) (fun aS=>aA aS.1 aS.2.1 aS.2.2.1 aS.2.2.2.1) fun aS=>(.lp [(9,1,.int)] [3,4,6,8,10] [(10,5),(8,3),(6,3),(4,4),(3,5)] [.nat,(.l .int),.int,.int] [bA 1,bA 1,12,9] (fun bN=>[(9,.i .i64 bN.2.2.2.1),(12,.i .i64 bN.2.2.1),(eD 8 1,.ref 1 bN.1 bN.2.1.length false),(bA 1,.blk bN.1 .int bN.2.1 _ rfl)]) (fun bN=>aY aS.1 aS.2.1 aS.2.2.1 aS.2.2.2.1 bN.1 bN.2.1 bN.2.2.1 bN.2.2.2.1) (fun bN=>a0 aS.1 aS.2.1 aS.2.2.1 aS.2.2.2.1 bN.1 bN.2.1 bN.2.2.1 bN.2.2.2.1) fun bN=>(.lp [(9,2,.int)] [3,4,6,8,9,10,117] [(10,5),(8,3),(6,3),(4,4),(3,5)] [.nat,(.l .int),.int,.int] [bA 2,bA 2,118,13] (fun cc=>[(13,.i .i64 cc.2.2.2.1),(118,.i .i64 cc.2.2.1),(eD 8 2,.ref 2 cc.1 cc.2.1.length false),(bA 2,.blk cc.1 .int cc.2.1 _ rfl)]) (fun cc=>bG aS.1 aS.2.1 aS.2.2.1 aS.2.2.2.1 bN.1 bN.2.1 bN.2.2.1 bN.2.2.2.1 cc.1 cc.2.1 cc.2.2.1 cc.2.2.2.1) (fun cc=>bD aS.1 aS.2.1 aS.2.2.1 aS.2.2.2.1 bN.1 bN.2.1 bN.2.2.1 bN.2.2.2.1 cc.1 cc.2.1 cc.2.2.1 cc.2.2.2.1) fun cc=>(.lp [] [3,4,6,8,9,10,13,14,117,118,125,126] [(10,5),(8,3),(6,3),(4,4),(3,5)] [.int,.int] [127,15] (fun eQ=>[(15,.i .i64 eQ.2.1),(127,.i .i64 eQ.1)]) (fun eQ=>cg aS.1 aS.2.1 aS.2.2.1 aS.2.2.2.1 bN.1 bN.2.1 bN.2.2.1 bN.2.2.2.1 cc.1 cc.2.1 cc.2.2.1 cc.2.2.2.1 eQ.1 eQ.2.1) (fun eQ=>cd aS.1 aS.2.1 aS.2.2.1 aS.2.2.2.1 bN.1 bN.2.1 bN.2.2.1 bN.2.2.2.1 cc.1 cc.2.1 cc.2.2.1 cc.2.2.2.1 eQ.1 eQ.2.1) fun eQ=>(.lp [] [3,4,6,8,9,10,13,14,117,118,125,126,127,131,132] [(10,5),(8,3),(6,3),(4,4),(3,5)] [.int,.int] [133,15] (fun j6=>[(15,.i .i64 j6.2.1),(133,.i .i64 j6.1)]) (fun j6=>dr aS.1 aS.2.1 aS.2.2.1 aS.2.2.2.1 bN.1 bN.2.1 bN.2.2.1 bN.2.2.2.1 cc.1 cc.2.1 cc.2.2.1 cc.2.2.2.1 eQ.1 eQ.2.1 j6.1 j6.2.1) (fun j6=>du aS.1 aS.2.1 aS.2.2.1 aS.2.2.2.1 bN.1 bN.2.1 bN.2.2.1 bN.2.2.2.1 cc.1 cc.2.1 cc.2.2.1 cc.2.2.2.1 eQ.1 eQ.2.1 j6.1 j6.2.1) fun _=> .nil))))) Try.func154 h) (fun _ x v c=>cv J.O.length (fun _=>false) v∧x=eg (kD J M U) v∧c=(if x≠[] then 3 else 0)) (fun _ _ v _=>cG J.O.length v) (fun _ a8 _ _ _ aK v c=>a8=eg (kD J M U) J.O.length∧cv J.ai (fun _=>false) v∧aK=eg (mR J M U) v∧c=(if a8≠[] then 3 else if aK≠[] then 4 else 0)) (fun _ _ _ _ _ _ v _=>cG J.ai v) (fun _ a8 _ _ _ aK _ c _ bo v h=>a8=eg (kD J M U) J.O.length∧aK=eg (mR J M U) J.ai∧c=(if a8≠[] then 3 else if aK≠[] then 4 else 0)∧cv J.be.length (fun _=>false) v∧bo=eg (jy J M U) v∧h=wv J M U v) (fun _ _ _ _ _ _ _ _ _ _ v _=>cG J.be.length v) (fun _ _ _ _ _ _ _ _ _ _ k _ i l=>cv ([(nth J.O U).a2,(nth J.O U).bw].length:Int) (fun _=>false) i∧l=qG 0 ([(nth J.O U).a2,(nth J.O U).bw].take i.toNat).flatten k) (fun _ _ _ _ _ _ _ _ _ _ _ _ i _=>cG ([(nth J.O U).a2,(nth J.O U).bw].length:Int) i) (fun _ _ _ _ _ _ _ _ _ _ k _ i l j fp=>cv (nth [(nth J.O U).a2,(nth J.O U).bw] i).length (fun _=>false) j∧fp=qG l ((nth [(nth J.O U).a2,(nth J.O U).bw] i).take j.toNat) k) (fun _ _ _ _ _ _ _ _ _ _ _ _ i _ j _=>cG (nth [(nth J.O U).a2,(nth J.O U).bw] i).length j) (by
 unfold Q7 Rb
 obtain⟨hf,aT,h1⟩:=aG
 have hw:=hf.fr.O
 have kZ:=hf.fr.an
 have qw:=hf.fr.au
 have cF:=hf.in
 have yL:=cF.O
 have wK:=cF.sw
 have nn:=cF.cZ
 have ed:=zo hf.nk
 have bc:U.toNat<J.O.length:=by omega
 have yK:=dC bc
 have mT:=GC hf.nk yK
 refine⟨⟨aT,bc⟩,fun aF=>⟨⟨di (dt _),rfl,rfl⟩,fun g x v c aX=> ?_⟩⟩
 obtain⟨aX,rfl,rfl⟩:=aX
 have hlen:=pj (kD J M U) v
 have yW:=aX.2.1
 refine⟨fun hv=>⟨⟨v_ aX hv,di nn.1,rfl,by simp[U0]⟩,fun a3 aK s ng ds=> ?_⟩,fun hv=> ?_⟩
 ·obtain⟨hT,ds,rfl,rfl⟩:=ds
  have W1:=pj (mR J M U) s
  have XA:=ds.2.1
  unfold Q9
  refine⟨fun hs hm=>⟨⟨hT,v_ ds hs,rfl,di (dt _),rfl,rfl⟩,fun a1 bo k bg hK=> ?_⟩,fun hs=> ?_⟩
  ·obtain⟨_,qz,hc,hK,rfl,rfl⟩:=hK
   have Bo:=pj (jy J M U) k
   have rL:=hK.2.1
   unfold Ri
   refine⟨fun hk=> ?_,fun hk h2=>⟨⟨di (dt _),rfl⟩,fun i l b0=> ?_⟩⟩
   ·have bx:=v_ (q:=jy J M U) hK hk
    have e:k=J.be.length:=by
     have: ¬k<(J.be.length:Int):=by simpa using hk
     omega
    refine⟨⟨by omega,hT⟩,⟨by omega,qz⟩,⟨by omega,bx⟩,?_⟩
    show _=codeF J M U
    unfold codeF
    show _=if eg (kD J M U) J.O.length≠[] then 3 else if eg (mR J M U) J.ai≠[] then 4 else _
    rw[hT,qz]
    by_cases xS:eg (kD J M U) J.O.length≠[]
    ·rw[if_pos xS,if_pos xS];rfl
    ·rw[if_neg xS,if_neg xS]
     by_cases ox:eg (mR J M U) J.ai≠[]
     ·rw[if_pos ox,if_pos ox];rfl
     ·rw[if_neg ox,if_neg ox,e];rfl
   ·have yI:=ch hK hk
    have mS:=c0 (cD hm) hK hk rfl
    have s1:=ql (q:=jy J M U) (cD hm) hK hk
    have s2:=(ql (q:=fun k=>jE J M U k&&iR J M k) (cD hm) hK hk).2.2
    have l6:=(ql (q:=fun k=>jE J M U k&&km J M k) (cD hm) hK hk).2.2
    have ur:wc J M U (IntKind.i64.wrap (k+1))=(wc J M U k || (jE J M U k&&iR J M k)):=s2
    have us:zP J M U (IntKind.i64.wrap (k+1))=(zP J M U k || (jE J M U k&&km J M k)):=l6
    obtain⟨b0,rfl⟩:=b0
    unfold Rh
    refine⟨fun hi=> ?_,fun hi=> ?_⟩
    ·have WX:i=2:=by
      have a:=b0.2.1
      have: ¬i<(([(nth J.O U).a2,(nth J.O U).bw].length:Nat):Int):=by simpa using hi
      simp at a this;omega
     have cm:(List.take i.toNat [(nth J.O U).a2,(nth J.O U).bw]).flatten=bu (nth J.O U):=by rw[WX];simp[bu]
     rw[cm]
     have aC:=ZT (f:=M) (k:=k) hf.nk bc
     refine⟨⟨fun _=>⟨hK.1,by omega⟩,fun aj=> ?_⟩,fun aj=>⟨⟨hf,hK.1,by omega⟩,fun ji=> ?_⟩⟩
     ·rw[aC] at aj
      have aj:jE J M U k=false:=by simpa using aj
      refine⟨⟨hT,qz,hc,mS.1,s1.2.1 (by unfold jy;rw[aj];rfl),?_⟩,mS.2⟩
      unfold wv;rw[ur,us,aj];simp
     ·rw[aC] at aj
      have aj:jE J M U k=true:=by simpa using aj
      have Ff:=cF.be _ (dC yI.2)
      unfold Rd
      have ij:(decide (((gz J M k).length:Int)>0))=iR J M k:=rfl
      rw[ij]
      rw[aj,Bool.true_and] at ur us
      have vL:((eg (jy J M U) k).length+[k].length)*8≤140737488355328∧(eg (jy J M U) k).length+[k].length≤4611686018427387904:=by
       simp only[List.length_singleton];omega
      refine⟨fun aL=>⟨vL,⟨hT,qz,hc,mS.1,s1.1 (by unfold jy;rw[aj,aL];rfl),?_⟩,mS.2⟩,fun aL=>⟨⟨⟨hK.1,yI.2⟩,Ff.1,by omega⟩,?_⟩⟩
      ·unfold wv;rw[ur,aL,Bool.or_true];rfl
      ·rw[aL,Bool.or_false] at ur
       unfold Rc Q8
       have mI:nth M.au (nth J.be k)=km J M k:=rfl
       rw[mI]
       refine⟨fun yN=>⟨vL,?_⟩,fun yN=>⟨⟨hT,qz,hc,mS.1,s1.2.1 (by unfold jy;rw[aj,aL,yN];rfl),?_⟩,mS.2⟩⟩
       ·rw[yN,Bool.or_true] at us
        have bV:=s1.1 (show jy J M U k=true by unfold jy;rw[aj,aL,yN];rfl)
        refine⟨fun aN=>⟨⟨hT,qz,hc,mS.1,bV,?_⟩,mS.2⟩,fun aN=>⟨⟨hT,qz,hc,mS.1,bV,?_⟩,mS.2⟩⟩
        ·unfold wv at aN ⊢
         rw[ur,us]
         cases cb:wc J M U k with
         | true=>rw[cb] at aN;simp at aN
         | false=>simp
        ·unfold wv at aN ⊢
         rw[ur,us]
         cases cb:wc J M U k with
         | true=>simp
         | false=>
          rw[cb] at aN
          cases cE:zP J M U k with
          | true=>simp
          | false=>rw[cE] at aN;simp at aN
       ·rw[yN,Bool.or_false] at us
        unfold wv;rw[ur,us]
    ·unfold Rg
     refine⟨ch b0 hi,fun qv=>⟨⟨di (dt _),rfl⟩,fun j fp tW=> ?_⟩⟩
     obtain⟨tW,rfl⟩:=tW
     unfold Rf Re
     refine⟨fun aM=> ?_,fun aM=>⟨ch tW aM,?_⟩⟩
     ·have bj:=c0 (cD h2) b0 hi rfl
      refine⟨⟨bj.1,?_⟩,bj.2⟩
      have ga:=ch b0 hi
      rw[jM (cD h2) b0.1 (by simpa using hi),show(i+1).toNat=i.toNat+1 by omega,List.take_succ_eq_append_getElem ga.2,List.flatten_append]
      have n8: ¬j<((nth [(nth J.O U).a2,(nth J.O U).bw] i).length:Int):=by simpa using aM
      have LK:=tW.1
      have bp:(nth [(nth J.O U).a2,(nth J.O U).bw] i).take j.toNat=nth [(nth J.O U).a2,(nth J.O U).bw] i:=List.take_of_length_le (by omega)
      rw[bp,gH ga.2]
      unfold qG
      rw[List.foldl_append]
      simp
     ·have bj:=c0 (cD qv) tW aM rfl
      refine⟨⟨bj.1,?_⟩,bj.2⟩
      have n8:=ch tW aM
      rw[jM (cD qv) tW.1 (by simpa using aM),show(j+1).toNat=j.toNat+1 by omega,List.take_succ_eq_append_getElem n8.2,gH n8.2]
      unfold qG
      rw[List.foldl_append];rfl
  ·have rR:0≤s∧s<J.ai:=⟨ds.1,by simpa using hs⟩
   have bj:=c0 (N:=J.ai) (by omega) ds hs rfl
   have s1:=ql (q:=mR J M U) (N:=J.ai) (by omega) ds hs
   refine⟨⟨ds.1,by omega⟩,?_⟩
   unfold Rj
   rw[uI,uI]
   have vL:((eg (mR J M U) s).length+[s].length)*8≤140737488355328∧(eg (mR J M U) s).length+[s].length≤4611686018427387904:=by
    simp only[List.length_singleton];omega
   refine⟨fun aj=>⟨vL,fun aN=> ?_,fun aN=> ?_⟩,fun aj=>⟨⟨hT,bj.1,s1.2.1 aj,?_⟩,bj.2⟩⟩
   ·refine⟨⟨hT,bj.1,s1.1 aj,?_⟩,bj.2⟩
    by_cases z:eg (kD J M U) v≠[]
    ·rw[if_pos z] at aN;simp at aN
    ·rw[if_neg z,if_pos (by simp)]
   ·refine⟨⟨hT,bj.1,s1.1 aj,?_⟩,bj.2⟩
    by_cases z:eg (kD J M U) v≠[]
    ·rw[if_pos z,if_pos z]
    ·rw[if_neg z,if_neg z]
     rw[if_neg z] at aN
     by_cases ox:eg (mR J M U) s≠[]
     ·rw[if_pos ox,if_pos (by simp)]
     ·rw[if_neg ox] at aN;simp at aN
   ·rfl
 ·have ca:=ch aX hv
  have hE:=ed.len
  have eV:=ed.row U aT h1
  have bj:=c0 (cD aF) aX hv rfl
  have s1:=ql (q:=kD J M U) (cD aF) aX hv
  unfold Ra Q_
  have vL:((eg (kD J M U) v).length+[v].length)*8≤140737488355328∧(eg (kD J M U) v).length+[v].length≤4611686018427387904:=by
   simp only[List.length_singleton];omega
  refine⟨fun _=>⟨⟨ca.1,by omega⟩,fun _=>⟨⟨aT,by omega⟩,⟨ca.1,by omega⟩,fun _=>⟨ca,fun _=>ca⟩⟩⟩,fun aj=>⟨vL,⟨bj.1,s1.1 aj,by rw[if_pos (by simp)]⟩,bj.2⟩,fun aj=>⟨⟨bj.1,s1.2.1 aj,rfl⟩,bj.2⟩⟩)
def adU:dY Try.prog:=⟨154,[.c8,.frame,.int],[.stays,.int],some fun x=>m9 x.1 x.2.1 x.2.2.1,fun x=>((tr x.1 x.2.1 x.2.2.1).1,(tr x.1 x.2.1 x.2.2.1).2,()),fun x h=>adT x.1 x.2.1 x.2.2.1 h⟩
def Rn (J:az) (M:Frame) (U:Int) (al:Int):Prop:=
 ((0≤U∧U.toNat<M.O.length)∧(((nth M.O U).aq !=0)=true→2=al))∧((!((nth M.O U).aq !=0))=true→(m9 J M U)∧((tr J M U).2=al))
theorem Ro (J:az) (M:Frame) (U:Int) (aG:m9 J M U):bX Try.prog 116 [.agg (bq false J),.agg (bS false M),ag U] (ag (dI J M U)):=(fun(h:Rn J M U (dI J M U))=>bX.run (ps:=[.c8,.frame,.int]) (rs:=[.int]) (x:=(J,M,U,())) (r:=((dI J M U),())) ⟨24,dZ,[adU]⟩ ⟨[],[],[],[],[]⟩ .nil Try.func116 h) (by
 unfold Rn
 have sR:=aG
 obtain⟨hf,aT,h1⟩:=sR
 have hw:=hf.fr.O
 refine⟨⟨⟨aT,by omega⟩,fun aN=> ?_⟩,fun aN=>⟨aG,?_⟩⟩
 ·unfold dI;rw[if_pos (by simpa using aN)]
 ·unfold dI;rw[if_neg (by simpa using aN)];rfl)
def ad3:dY Try.prog:=⟨116,[.c8,.frame,.int],[.int],some fun x=>m9 x.1 x.2.1 x.2.2.1,fun x=>((dI x.1 x.2.1 x.2.2.1),()),fun x h=>Ro x.1 x.2.1 x.2.2.1 h⟩
def Np (J:az) (M:Frame) (U al:Int):Prop:=
  ((decide ((((hO J M U).1).O.length:Int)>0))=true→3=al)∧((decide ((((hO J M U).1).O.length:Int)>0))=false→((hO J M U).1).ai.length≤4611686018427387904→((decide ((((hO J M U).1).ai.length:Int)>0))=true→4=al)∧((decide ((((hO J M U).1).ai.length:Int)>0))=false→((hO J M U).2.1=true→5=al)∧((hO J M U).2.1=false→(hO J M U).2.2=true→6=al)))
def Nq (J:az) (M:Frame) (U al:Int):Prop:=
  ((0≤U∧U.toNat<M.O.length)∧((((nth M.O U).aq !=0)=true→2=al)∧(((nth M.O U).aq !=0)=false→((hO J M U).1).O.length≤4611686018427387904→Np J M U al)))∧((((hO J M U).1).O.length≤4611686018427387904)∧(((hO J M U).1).ai.length≤4611686018427387904)∧((!((nth M.O U).aq !=0)&&(!(decide ((((hO J M U).1).O.length:Int)>0))&&(!(decide ((((hO J M U).1).ai.length:Int)>0))&&(!((hO J M U).2.1)&&(!((hO J M U).2.2))))))=true)→0=al)
def No (J:az) (M:Frame) (U:Int) (al:Int):Prop:=
 (m9 J M U)∧(Nq J M U al)
theorem Nr (J:az) (M:Frame) (U:Int) (aG:m9 J M U):bX Try.prog 114 [.agg (bq false J),.agg (bS false M),ag U] (ag (dI J M U)):=(fun(h:No J M U (dI J M U))=>bX.run (ps:=[.c8,.frame,.int]) (rs:=[.int]) (x:=(J,M,U,())) (r:=((dI J M U),())) ⟨40,dZ,[MK]⟩ ⟨[],[],[],[],[]⟩ .nil Try.func114 h) (by
 unfold No Nq Np
 have sR:=aG
 obtain⟨hf,aT,h1⟩:=sR
 have hw:=hf.fr.O
 have DY:hO J M U=(gg J M U,sE J M U,va J M U):=rfl
 rw[DY]
 have bx:(decide (((gg J M U).O.length:Int)>0))=true↔(gg J M U).O≠[]:=by
  rw[decide_eq_true_eq,←List.length_pos_iff];omega
 have e2:(decide (((gg J M U).ai.length:Int)>0))=true↔(gg J M U).ai≠[]:=by
  rw[decide_eq_true_eq,←List.length_pos_iff];omega
 refine⟨aG,⟨⟨aT,by omega⟩,fun aN=> ?_,fun aN _=>⟨fun a4=> ?_,fun a4 _=>⟨fun hb=> ?_,fun hb=>⟨fun hc=> ?_,fun hc bg=> ?_⟩⟩⟩⟩,fun aj=> ?_⟩
 ·unfold dI;rw[if_pos (by simpa using aN)]
 ·unfold dI codeF;rw[if_neg (by simpa using aN),if_pos (bx.1 a4)]
 ·unfold dI codeF;rw[if_neg (by simpa using aN),if_neg (fun h=>by rw[show(decide (((gg J M U).O.length:Int)>0))=true from bx.2 h] at a4;cases a4),if_pos (e2.1 hb)]
 ·unfold dI codeF;rw[if_neg (by simpa using aN),if_neg (fun h=>by rw[show(decide (((gg J M U).O.length:Int)>0))=true from bx.2 h] at a4;cases a4),if_neg (fun h=>by rw[show(decide (((gg J M U).ai.length:Int)>0))=true from e2.2 h] at hb;cases hb),if_pos hc]
 ·unfold dI codeF;rw[if_neg (by simpa using aN),if_neg (fun h=>by rw[show(decide (((gg J M U).O.length:Int)>0))=true from bx.2 h] at a4;cases a4),if_neg (fun h=>by rw[show(decide (((gg J M U).ai.length:Int)>0))=true from e2.2 h] at hb;cases hb),if_neg (by rw[show sE J M U=false from hc];simp),if_pos bg]
 ·have aj:=aj.2.2
  simp only[Bool.and_eq_true,Bool.not_eq_true'] at aj
  obtain⟨q1,q2,q3,q4,cL⟩:=aj
  unfold dI codeF;rw[if_neg (by simpa using q1),if_neg (fun h=>by rw[show(decide (((gg J M U).O.length:Int)>0))=true from bx.2 h] at q2;cases q2),if_neg (fun h=>by rw[show(decide (((gg J M U).ai.length:Int)>0))=true from e2.2 h] at q3;cases q3),if_neg (by rw[show sE J M U=false from q4];simp),if_neg (by rw[show va J M U=false from cL];simp)])
def Zp:dY Try.prog:=⟨114,[.c8,.frame,.int],[.int],some fun x=>m9 x.1 x.2.1 x.2.2.1,fun x=>((dI x.1 x.2.1 x.2.2.1),()),fun x h=>Nr x.1 x.2.1 x.2.2.1 h⟩
def Qu (J:az) (M:Frame) (U:Int) (al:Int):Prop:=
 ((rC J M)∧(((!(dy J M)) || (!(bY U 0 (IntKind.i64.wrap ((J.O.length:Int) - 1)))))=true→1=al))∧((!((!(dy J M)) || (!(bY U 0 (IntKind.i64.wrap ((J.O.length:Int) - 1))))))=true→(m9 J M U)∧((dI J M U)=al))
theorem ac0 (J:az) (M:Frame) (U:Int) (aG:rD J M U):bX Try.prog 53 [.agg (bq false J),.agg (bS false M),ag U] (ag (fP J M U)):=(fun(h:Qu J M U (fP J M U))=>bX.run (ps:=[.c8,.frame,.int]) (rs:=[.int]) (x:=(J,M,U,())) (r:=((fP J M U),())) ⟨24,dZ,[acS,xB,ad3]⟩ ⟨[],[],[],[],[]⟩ .nil Try.func53 h) (by
 unfold Qu
 have key:dy J M=true→bY U 0 (IntKind.i64.wrap ((J.O.length:Int) - 1))=jk U J.O.length:=fun h=>by
  have:=(mf h).in.O
  rw[fm (by omega) (by omega),Zt]
 refine⟨⟨aG,fun h=> ?_⟩,fun h=> ?_⟩
 ·unfold fP
  cases aj:dy J M with
  | false=>rfl
  | true=>
   rw[aj,key aj] at h
   have:jk U J.O.length=false:=by simpa using h
   rw[this];rfl
 ·have h:dy J M=true∧bY U 0 (IntKind.i64.wrap ((J.O.length:Int) - 1))=true:=by simpa using h
  rw[key h.1] at h
  refine⟨⟨mf h.1,(BM.1 h.2).1,(BM.1 h.2).2⟩,?_⟩
  unfold fP;rw[h.1,h.2];rfl)
def ac1:dY Try.prog:=⟨53,[.c8,.frame,.int],[.int],some fun x=>rD x.1 x.2.1 x.2.2.1,fun x=>((fP x.1 x.2.1 x.2.2.1),()),fun x h=>ac0 x.1 x.2.1 x.2.2.1 h⟩
def MA (J:az) (M:Frame) (U:Int) (al:Int):Prop:=
 ((rC J M)∧(((!(dy J M)) || (!(jk U (J.O.length:Int))))=true→1=al))∧((!((!(dy J M)) || (!(jk U (J.O.length:Int)))))=true→(m9 J M U)∧((dI J M U)=al))
theorem Yf (J:az) (M:Frame) (U:Int) (aG:rD J M U):bX Try.prog 50 [.agg (bq false J),.agg (bS false M),ag U] (ag (fP J M U)):=(fun(h:MA J M U (fP J M U))=>bX.run (ps:=[.c8,.frame,.int]) (rs:=[.int]) (x:=(J,M,U,())) (r:=((fP J M U),())) ⟨23,dZ,[Fx,MW,Zp]⟩ ⟨[],[],[],[],[]⟩ .nil Try.func50 h) (by
 unfold MA
 refine⟨⟨aG,fun h=> ?_⟩,fun h=> ?_⟩
 ·unfold fP
  cases aj:dy J M with
  | false=>rfl
  | true=>
   rw[aj] at h
   have:jk U J.O.length=false:=by simpa using h
   rw[this];rfl
 ·have h:dy J M=true∧jk U J.O.length=true:=by simpa using h
  refine⟨⟨mf h.1,(BM.1 h.2).1,(BM.1 h.2).2⟩,?_⟩
  unfold fP;rw[h.1,h.2];rfl)
def Yg:dY Try.prog:=⟨50,[.c8,.frame,.int],[.int],some fun x=>rD x.1 x.2.1 x.2.2.1,fun x=>((fP x.1 x.2.1 x.2.2.1),()),fun x h=>Yf x.1 x.2.1 x.2.2.1 h⟩
end Go.Proofs.Ytglpfccgmfhkdaa.Fw
set_option linter.unusedVariables false
namespace Go.Proofs.Ytglpfccgmfhkdaa.Fw
open Go
def qM (hg:Nat):Nat→(l:List fO)→c5 (fO.es l)→List (Nat×TV)
 | _,[],_=>[]
 | i,.v e::r,x=>(i,uS e x.1)::qM hg (i+1) r x.2
 | i,.p::r,x=>(i,.ptr 0 hg 0 1 0)::qM hg (i+1) r x
def oP (hg:Nat) (ce:bH) (l:List fO) (x:c5 (fO.es l)) (c:ce.T):TS:=⟨qM hg 0 l x++[(bA 0,.eG hg (gE false ce c))],[],[],1⟩
theorem D0 (hg:Nat): ∀(l:List fO) (x:c5 (fO.es l)),(jQ hg l x).length=l.length
 | [],_=>rfl
 | .v e::r,x=>congrArg Nat.succ (D0 hg r x.2)
 | .p::r,x=>congrArg Nat.succ (D0 hg r (show c5 (fO.es r) from x))
theorem Ov {hg:Nat} {d:TV} (bg:d.bB= .undef): ∀(l:List fO) (x:c5 (fO.es l)) (i t:Nat),(fU (qM hg i l x) t d).bB=if t<i then .undef else(jQ hg l x).getD (t - i) .undef
 | [],x,i,t=>by
  show d.bB=_
  rw[bg];split<;>simp[jQ]
 | uR::r,x,i,t=>by
  have key: ∀(v:TV) (a:AV) (y:c5 (fO.es r)),v.bB=a→(fU ((i,v)::qM hg (i+1) r y) t d).bB=if t<i then .undef else(a::jQ hg r y).getD (t - i) .undef:=fun v a y a4=>by
   rw[gG]
   by_cases h:i=t
   ·subst h;rw[if_pos rfl,if_neg (by omega),Nat.sub_self,a4];rfl
   ·rw[if_neg h,Ov bg r y (i+1) t]
    by_cases h2:t<i
    ·rw[if_pos (by omega),if_pos h2]
    ·rw[if_neg (by omega),if_neg h2,show t - i=(t - (i+1))+1 by omega];rfl
  cases uR with
  | v e=>exact key _ _ x.2 (Ox e x.1)
  | p=>exact key _ _ x rfl
theorem Ow {hg k:Nat} {d:TV} (hk:1000000≤k): ∀(l:List fO) (x:c5 (fO.es l)) (i:Nat),i+l.length≤1000000→fU (qM hg i l x) k d=d
 | [],_,_,_=>rfl
 | uR::r,x,i,h=>by
  have key: ∀(v:TV) (y:c5 (fO.es r)),fU ((i,v)::qM hg (i+1) r y) k d=d:=fun v y=>by
   simp only[List.length_cons] at h
   rw[gG,if_neg (by omega)];exact Ow hk r y (i+1) (by omega)
  cases uR with
  | v e=>exact key _ x.2
  | p=>exact key _ x
theorem Nt {hg k:Nat} {ce:bH} {l:List fO} {x:c5 (fO.es l)} {c:ce.T} (aL:l.length≤1000000) (hk:1000000≤k):(oP hg ce l x c).get k=if bA 0=k then .eG hg (gE false ce c) else .u:=by
 show fU (qM hg 0 l x++[(bA 0,_)]) k .u=_
 rw[r1,Ow hk l x 0 (by omega),gG];rfl
theorem Nu {hg:Nat} {ce:bH} {l:List fO} {x:c5 (fO.es l)} {c:ce.T} (aL:l.length≤1000000):il (oP hg ce l x c)=true:=by
 unfold il
 rw[Nt aL (by unfold dH;omega),if_neg (by unfold bA dH;omega)]
theorem Zr [Z:FZ] {fn:Func} {hg:Nat} {ce:bH} {l:List fO} {x:c5 (fO.es l)} {c:ce.T} (h:l.length≤fn.ntmps) (aF:fn.ntmps≤1000000):y1 fn (jQ hg l x) [⟨hg,(b8 false ce c).length,[b8 false ce c]⟩]=(oP hg ce l x c).aI fn.ntmps:=by
 have ct:jQ hg l x++List.replicate (fn.ntmps - (jQ hg l x).length) AV.undef=(oP hg ce l x c).tT fn.ntmps:=by
  apply List.ext_getElem?
  intro t
  show _=((List.range fn.ntmps).map fun t=>((oP hg ce l x c).get t).bB)[t]?
  rw[List.getElem?_map]
  rcases Nat.lt_or_ge t fn.ntmps with aL | aL
  ·rw[List.getElem?_range aL]
   show _=some (fU (qM hg 0 l x++[(bA 0,_)]) t .u).bB
   rw[r1,gG,if_neg (by unfold bA;omega)]
   show _=some (fU (qM hg 0 l x) t .u).bB
   rw[Ov rfl,if_neg (by omega),Nat.sub_zero]
   rcases Nat.lt_or_ge t (jQ hg l x).length with h1 | h1
   ·rw[List.getElem?_append_left h1,List.getD_eq_getElem?_getD,List.getElem?_eq_getElem h1];rfl
   ·rw[List.getElem?_append_right h1,List.getElem?_replicate,if_pos (by omega),List.getD_eq_getElem?_getD,List.getElem?_eq_none h1];rfl
  ·rw[List.getElem?_eq_none (l:=List.range fn.ntmps) (by simpa using aL),List.getElem?_eq_none]
   ·rfl
   ·rw[List.length_append,List.length_replicate,D0];omega
 have aR:((oP hg ce l x c).aI fn.ntmps).H=[⟨hg,(b8 false ce c).length,[b8 false ce c]⟩]:=by
  show(oP hg ce l x c).gn++g0 (oP hg ce l x c)=_
  unfold g0;rw[Nu (by omega)]
  show[((oP hg ce l x c).get (bA 0)).ep]++[]=_
  rw[Nt (by omega) (by unfold bA;omega),if_pos rfl]
  show[Blk.mk hg (gE false ce c).length [cP (gE false ce c)]]=_
  rw[Cr (vR false ce c),vR]
 show(⟨jQ hg l x++_,[],_⟩:St)=⟨(oP hg ce l x c).tT fn.ntmps,[],((oP hg ce l x c).aI fn.ntmps).H⟩
 rw[ct,aR]
def wa (P:Program) (n:Nat) (fn:Func) (hg:Nat) (ce:bH) (c':ce.T) (rs:List bH) (r:c5 rs) (s:TS):aU:=match s.get (bA 0) with
 | .eG g a7=>
  let ng:=ce.mk (oI ce.kJ a7)
  let vs:=fn.results.toList.map (Pk P n s)
  .eq g hg (.eq (Nat.blt 0 s.bn&&il s) true (.eq (cP a7) (b8 false ce ng) (.p (ng=c') (.eq (fun H Q=>qR P ⟨s.tT n,s.cs,H⟩ fn.results.toList Q) (fun _ Q=>Q (cP vs)) (.eq ((cP vs).all jZ) true (A4 (s.gN 0 s.bn (.eG (hg+1) a7)) rs vs r .ht))))))
 | _=> .no
theorem afk {H:List Blk}: ∀(rs:List bH) (r:c5 rs) (l:List AV),aE (so H) l (lV rs r)→iy H (sk l) (kX rs r):=by
 intro rs r l aG
 match rs,r,l with
 | [],_,[]=>exact .inl ⟨[],[],rfl,rfl,aE.nil⟩
 | [],_,_::_=>have:=aG.1;simp[lV] at this
 | [e],r,[]=>have:=aG.1;simp[lV] at this
 | [e],r,[v]=>exact .inr aG.head
 | [e],r,_::_::_=>have:=aG.1;simp[lV] at this
 | e::dW::rs,r,[]=>have:=aG.1;simp[lV] at this
 | e::dW::rs,r,[v]=>have:=aG.1;simp[lV] at this
 | e::dW::rs,r,v::w::l=>exact .inl ⟨_,_,rfl,rfl,aG⟩
theorem KO [Z:FZ] {P:Program} {n:Nat} {fn:Func} {hg:Nat} {ce:bH} {c':ce.T} {rs:List bH} {r:c5 rs} {s:TS} {R:Exit→TS→Prop} (k:Nat) (hk:k=(b8 false ce c').length) (h:(wa P n fn hg ce c' rs r s).den R):
  th P fn (s.aI n) fun v fa=> ∃B,fa=⟨hg,k,[b8 false ce c']⟩::B∧iy (⟨hg+1,k,[b8 false ce c']⟩::B) v (kX rs r):=by
 subst hk
 unfold wa at h
 split at h
 ·rename_i g a7 pz
  obtain⟨h1,h2,aO,bb,cb,cE,gF⟩:=h
  subst h1
  rw[Bool.and_eq_true,Nat.blt_eq] at h2
  rw[bb] at aO
  have bx: ∀q,TV.ep (.eG q a7)=⟨q,(b8 false ce c').length,[b8 false ce c']⟩:=fun q=>by
   show Blk.mk q a7.length [cP a7]=_
   rw[Cr aO,aO]
  have hb:=q5 (n:=n) h2.1
  rw[pz,bx] at hb
  unfold th
  have Wh:qR P (s.aI n) fn.results.toList=_:=congrFun cb (s.aI n).H
  rw[congrFun Wh]
  refine⟨cE,?_⟩
  obtain⟨n0,_⟩:=Ej (n:=n) gF
  rw[tK h2.1,bx] at n0
  cases aR:(s.aI n).H with
  | nil=>rw[aR] at hb;cases hb
  | cons x B=>
   rw[aR] at hb n0
   cases hb
   exact⟨B,rfl,afk rs r _ n0⟩
 ·exact h.elim
def I9 {P:Program} (cf:g_ P) (ey:vA P) (fn:Func) (hg:Nat) (ce:bH) (l:List fO) (rs:List bH) (x:c5 (fO.es l)) (c c':ce.T) (r:c5 rs) (a:lf):aU:=j8 cf ey (some 1) (iz fn) (oP hg ce l x c) a fun ex s _=>match ex with
 | .normal=>wa P cf.n fn hg ce c' rs r s
 | .ret=>wa P cf.n fn hg ce c' rs r s
 | _=> .no
theorem iJ.run {P:Program} {f:FuncId} {fn:Func} {hg:Nat} {ce:bH} {l:List fO} {rs:List bH} {x:c5 (fO.es l)} {c c':ce.T} {r:c5 rs} (cf:g_ P) (ey:vA P) (a:lf) {C:Prop} (hf:P.funcs[f]?=some fn) (h:C)
  (e:C=(I9 cf ey fn hg ce l rs x c c' r a).nR.den:=by kernel_rfl) (e2:(I9 cf ey fn hg ce l rs x c c' r a).lhs=(I9 cf ey fn hg ce l rs x c c' r a).rhs:=by kernel_rfl)
  (hb:fn.body=some (iz fn):=by kernel_rfl) (hm:(fn.name== "runtime.NumGoroutine")=false:=by kernel_rfl) (aF:(Nat.beq cf.n fn.ntmps&&Nat.ble cf.n 1000000&&Nat.ble l.length cf.n)=true:=by kernel_rfl):iJ P f hg (jQ hg l x) (b8 false ce c) (b8 false ce c') (kX rs r):=by
 simp only[Bool.and_eq_true] at aF
 have h1:=Nat.eq_of_beq_eq_true aF.1.1
 have h2:=Nat.le_of_ble_eq_true aF.1.2
 have aO:=Nat.le_of_ble_eq_true aF.2
 refine dF.GK hf hb hm fun iK gk=> ?_
 letI Z:FZ:=⟨[],[]⟩
 rw[Zr (by rw[←h1];exact aO) (by rw[←h1];exact h2),←h1]
 refine Sz h2 (fun k e=>by cases e;rw[gk];exact Nat.le_refl _) (iz fn) (R:=fun _ _=>True) (K:=fun ex s _=>match ex with
  | .normal=>wa P cf.n fn hg ce c' rs r s
  | .ret=>wa P cf.n fn hg ce c' rs r s
  | _=> .no) (fun ex s _ Z hs hf=> ?_) Z (@Fits.none Z _ (Nu (by omega))) (aU.full (e▸h) e2)
 have hk:(b8 false ce c).length=(b8 false ce c').length:=by rw[rq,rq]
 cases ex with
 | normal=>exact KO _ hk hs
 | ret=>exact KO _ hk hs
 | _=>exact hs.elim
def ei (p:az):Frame:=if ek p=true then⟨true,List.replicate p.ai.toNat false,List.replicate p.be.length ⟨1,1⟩,p.O.map fun w=>ik w.ai.length⟩ else⟨false,[],[],[]⟩
def jI (l:List cx) (q:List bd):List bd:=l.foldl (fun q x=>q.set x.sw.toNat ⟨x.bk,(nth q x.sw).a2⟩) q
theorem zN (l:List cx): ∀q:List bd,(jI l q).length=q.length:=by
 induction l with
 | nil=>intro q;rfl
 | cons x l bR=>intro q;show(jI l _).length=_;rw[bR,List.length_set]
theorem PJ {l:List cx} {q:List bd} {j:Nat} (h:j<l.length):jI (l.take (j+1)) q=(jI (l.take j) q).set l[j].sw.toNat ⟨l[j].bk,(nth (jI (l.take j) q) l[j].sw).a2⟩:=by
 unfold jI
 rw[List.take_succ_eq_append_getElem h,List.foldl_append];rfl
def lE (p:az) (i:Nat) (h:ad):ad:=if h.aq=3 then(if IntKind.i64.wrap (h.ar - 1)=0 then bQ p i else{h with ar:=IntKind.i64.wrap (h.ar - 1)}) else h
def h4 (p:az):Nat→List ad→List ad
 | 0,ws=>ws
 | n+1,ws=>let g:=h4 p n ws;g.set n (lE p n (nth g n))
theorem zZ (p:az) (ws:List ad): ∀n,(h4 p n ws).length=ws.length
 | 0=>rfl
 | n+1=>by show(List.set _ _ _).length=_;rw[List.length_set];exact zZ p ws n
def fg (p:az) (f:Frame) (e:Event):Int:=
 if e.op=1 then dI p f e.ah
 else if e.op=2 then(if(nth f.O e.ah).aq≠1∧(nth f.O e.ah).aq≠2 then 2 else 0)
 else if e.op=6 then(if iR p f e.ah=true then 2 else if km p f e.ah=true then 3 else 0)
 else 0
def hj (p:az) (f:Frame) (e:Event):Frame:=
 if e.op=1 then{f with an:=jI (bu (nth p.O e.ah)) f.an,O:=f.O.set e.ah.toNat {nth f.O e.ah with aq:=1}}
 else if e.op=2 then(if((nth f.O e.ah).ap&&gK f (nth p.O e.ah).cJ)=true then{f with O:=f.O.set e.ah.toNat {nth f.O e.ah with aq:=3,ar:=p.dn}} else{f with O:=f.O.set e.ah.toNat (bQ p e.ah)})
 else if e.op=3∨e.op=4 then{f with au:=f.au.set e.ah.toNat (e.op==3)}
 else if e.op=5 then{f with an:=f.an.set e.ah.toNat ⟨(nth f.an e.ah).cC,e.bk⟩}
 else if e.op=6 then{f with an:=f.an.set e.ah.toNat ⟨e.bk,(nth f.an e.ah).a2⟩}
 else if e.op=7 then{f with O:=h4 p f.O.length f.O}
 else f
def h8 (p:az) (f:Frame) (e:Event):fv:=if fg p f e≠0 then⟨fg p f e,f⟩ else⟨0,ee p (hj p f e)⟩
def DO (p:az) (f:Frame) (e:Event):Prop:=Fit p f∧e5 p e=true
theorem ig.qX {p:az} {f:Frame} (h:ig p f) {i:Nat} {x:ad} (hx:i<f.O.length→x.ac.length=(nth p.O i).ai.length∧0≤x.af∧x.af≤x.ac.length):ig p {f with O:=f.O.set i x}:=by
 refine⟨h.au,h.an,by rw[List.length_set];exact h.O,fun j y w h1 h2=> ?_,fun y br=> ?_⟩
 ·replace h1:(f.O.set i x)[j]?=some y:=h1
  rw[List.getElem?_set] at h1
  split at h1
  ·rename_i e;subst e
   split at h1
   ·rename_i aF
    cases h1
    rw[(hx aF).1,iT (by have:=h.O;omega)]
    rw[List.getElem?_eq_getElem (by have:=h.O;omega)] at h2
    cases h2;rfl
   ·cases h1
  ·exact h.ac j y w h1 h2
 ·rcases List.mem_or_eq_of_mem_set br with br | rfl
  ·exact h.af y br
  ·by_cases aF:i<f.O.length
   ·exact(hx aF).2
   ·rw[List.set_eq_of_length_le (by omega)] at br
    exact h.af _ br
theorem ig.at {p:az} {f:Frame} (h:ig p f) {i:Nat} (hi:i<f.O.length):(nth f.O i).ac.length=(nth p.O i).ai.length∧0≤(nth f.O i).af∧(nth f.O i).af≤(nth f.O i).ac.length:=by
 have aM:i<p.O.length:=by have:=h.O;omega
 refine⟨h.ac i _ _ ?_ ?_,h.af _ (dC (by simpa using hi))⟩
 ·rw[iT hi];exact List.getElem?_eq_getElem hi
 ·rw[iT aM];exact List.getElem?_eq_getElem aM
theorem Fp (n:Nat):(ik n).ac.length=n∧0≤(ik n).af∧(ik n).af≤(ik n).ac.length:=by simp[ik]
theorem I8 {p:az} {f:Frame} (h:ig p f): ∀n,ig p {f with O:=h4 p n f.O}
 | 0=>h
 | n+1=>by
  have bR:=I8 h n
  show ig p {f with O:=(h4 p n f.O).set n (lE p n (nth (h4 p n f.O) n))}
  refine ig.qX bR (i:=n) fun aF=> ?_
  have a4:=bR.at aF
  unfold lE
  split
  ·split
   ·exact Fp _
   ·exact a4
  ·exact a4
theorem ig.jn {p:az} {f:Frame} (h:ig p f) {o:List Bool} {q:List bd} (aC:o.length=f.au.length) (aj:q.length=f.an.length):ig p {f with au:=o,an:=q}:=
 ⟨by show(o.length:Int)=_;rw[aC];exact h.au,by show q.length=_;rw[aj];exact h.an,h.O,h.ac,h.af⟩
theorem DN {p:az} {f:Frame} {e:Event} (h:ig p f) (aT:e.op=1∨e.op=2→0≤e.ah∧e.ah<p.O.length):ig p (hj p f e):=by
 unfold hj
 split
 ·rename_i aC
  have bp:=aT (.inl aC)
  have aL:=h.O
  have a4:=h.at (i:=e.ah.toNat) (by omega)
  rw[iU bp.1] at a4
  exact ig.qX (h.jn rfl (zN _ _)) fun _=>a4
 ·split
  ·rename_i aC
   have bp:=aT (.inr aC)
   have aL:=h.O
   have a4:=h.at (i:=e.ah.toNat) (by omega)
   rw[iU bp.1] at a4
   split
   ·exact h.qX fun _=>a4
   ·refine h.qX fun _=> ?_
    have:=Fp (nth p.O e.ah).ai.length
    rw[iU bp.1];exact this
  ·split
   ·exact h.jn (List.length_set) rfl
   ·split
    ·exact h.jn rfl (List.length_set)
    ·split
     ·exact h.jn rfl (List.length_set)
     ·split
      ·exact I8 h _
      ·exact h
theorem rr {p:az} {e:Event} (h:e5 p e=true) (aC:e.op=1∨e.op=2):0≤e.ah∧e.ah<p.O.length:=by
 rw[D7 aC,Bool.and_eq_true] at h
 exact sV h.1
theorem Ea {p:az} {e:Event} (h:e5 p e=true) (aC:e.op=3∨e.op=4):0≤e.ah∧e.ah<p.ai:=by
 rw[D8 (by omega) aC,Bool.and_eq_true] at h
 exact sV h.1
theorem v7 {p:az} {e:Event} (h:e5 p e=true) (aC:e.op=5∨e.op=6):0≤e.ah∧e.ah<p.be.length:=by
 rcases aC with aC | aC
 ·rw[AR aC,Bool.and_eq_true] at h;exact sV h.1
 ·rw[AS aC,Bool.and_eq_true] at h;exact sV h.1
theorem Em {p:az} {f:Frame} (h:Fit p f):hM f:=by
 have cF:=h.in
 have c_:=h.fr
 have h1:=cF.cZ
 have h2:=cF.sw
 have aO:=cF.O
 have bb:=c_.au
 have cb:=c_.an
 have cE:=c_.O
 refine⟨by omega,by omega,by omega,fun x hx=> ?_⟩
 obtain⟨i,hi,rfl⟩:=List.mem_iff_getElem.1 hx
 have aM:i<p.O.length:=by omega
 have:=(cF.ai _ (List.getElem_mem aM)).2.1
 rw[c_.ac i _ _ (List.getElem?_eq_getElem hi) (List.getElem?_eq_getElem aM)];omega
theorem JO {p:az} (h:ek p=true):Fit p (ei p):=by
 have cF:=uZ h
 have h1:=cF.cZ
 unfold ei
 rw[if_pos h]
 refine⟨h,by show((List.replicate _ _).length:Int)=_;rw[List.length_replicate];omega,by show(List.replicate _ _).length=_;rw[List.length_replicate],by show(List.map _ _).length=_;rw[List.length_map],fun i x w bx e2=> ?_,fun x hx=> ?_⟩
 ·replace bx:(List.map _ _)[i]?=some x:=bx
  rw[List.getElem?_map,e2] at bx
  cases bx;simp[ik]
 ·obtain⟨w,_,rfl⟩:=List.mem_map.1 hx
  exact(Fp _).2
def lA (p:az):Frame→List Event→List fv
 | _,[]=>[]
 | f,e::es=>if e5 p e=true then h8 p f e::lA p (h8 p f e).frame es else⟨1,f⟩::lA p f es
def uD (p:az):Frame→List Event→Frame
 | f,[]=>f
 | f,e::es=>uD p (if e5 p e=true then(h8 p f e).frame else f) es
def CA (p:az) (es:List Event):List fv:=if ek p=true∧es.length≤1000 then lA p (ei p) es else[]
theorem Hr (p:az): ∀(es:List Event) (f:Frame),(lA p f es).length=es.length
 | [],f=>rfl
 | e::es,f=>by
  unfold lA
  split
  ·rw[List.length_cons,Hr p es];rfl
  ·rw[List.length_cons,Hr p es];rfl
section
variable {P:Program} {esc:List Nat} {ops:Array Oper} {n:Nat} {X:List Item} {i0:Nat} {A:List (Nat×AV)} {L:List (Nat×List AV)} {H:List Blk} {K:List (Nat×AV)→List (Nat×List AV)→List Blk→Prop}
theorem ae0 (a_:Nat) (d:Option Nat) (N:List (Nat×AV)) {i:Int} (B:Int) (z:List AV) (F:List Blk→Prop) (m:Nat) (kU:List Blk) (aT:0≤i∧B*i≤140737488355328∧i≤4611686018427387904) (aL:H.length=m) (hx:H++[⟨0,1,List.map aW (List.replicate i.toNat false)⟩]=kU) (c_:F kU)
  (h:evSD P esc ops n (X.drop (i0+a_)) (de d (.ref m 0 0 (List.replicate i.toNat false).length false) N A) L kU K) (aN:z=aW false:=by rfl)
  (e: ∀K,evSD P esc ops n ((X.drop i0).take a_) A L H K=(0≤i∧i≤i∧B*i≤140737488355328∧i≤4611686018427387904∧F (H++[⟨0,1,List.replicate i.toNat z⟩])∧K (de d (.ref H.length 0 0 i.toNat false) N A) L (H++[⟨0,1,List.replicate i.toNat z⟩])):=by intro K;kernel_rfl):evSD P esc ops n (X.drop i0) A L H K:=by
 rw[lk X i0 a_,e]
 subst aL;subst hx;subst aN
 rw[List.length_replicate,List.map_replicate] at h
 rw[List.map_replicate] at c_
 exact⟨aT.1,Int.le_refl _,aT.2.1,aT.2.2,⟨c_,h⟩⟩
end
theorem abK (a b:List cx) (q:List bd):jI (a++b) q=jI b (jI a q):=by unfold jI;rw[List.foldl_append]
def kS (w:Way):List (List cx):=[w.a2,w.bw]
theorem Sl (w:Way):(kS w).flatten=bu w:=by simp[kS,bu]
theorem ae3 {w:Way} {j:Nat} {q:List bd} (h:j<(kS w).length):jI ((kS w).take (j+1)).flatten q=jI (kS w)[j] (jI ((kS w).take j).flatten q):=by
 rw[List.take_succ_eq_append_getElem h,List.flatten_append,abK];simp
theorem ae4 {w:Way} {v:Int} {x:cx} (h:v.toNat<(kS w).length) (hx:x∈nth (kS w) v):x∈bu w:=by
 rw[←Sl];exact List.mem_flatten.2 ⟨_,dC h,hx⟩
def NF (p:az) (t:Int) (k:Bool) (o:List Bool) (q:List bd) (w:List ad) (i:List Nat) (b:List (List Bool)):Prop:=
 gr w i b∧sn p∧0≤t∧t<w.length∧t<p.O.length∧q.length=p.be.length
def BQ (p:az) (t:Int) (k:Bool) (o:List Bool) (q:List bd) (w:List ad) (i:List Nat) (b:List (List Bool)) (lu:List Bool) (ta:List bd) (w':List ad) (iP:List Nat) (cl:List (List Bool)):Prop:=
 ta=jI (bu (nth p.O t)) q∧gr w' iP cl∧view w' iP cl=(view w i b).set t.toNat {nth (view w i b) t with aq:=1}
def NE (p:az) (t:Int) (k:Bool) (o:List Bool) (q:List bd) (w:List ad) (i:List Nat) (b:List (List Bool)):Prop:=
 gr w i b∧sn p∧0≤t∧t<w.length∧t<p.O.length∧(o.length:Int)=p.ai
def Ap (p:az) (f:Frame) (t:Int):ad:=
 if((nth f.O t).ap&&gK f (nth p.O t).cJ)=true then{nth f.O t with aq:=3,ar:=p.dn} else ik (nth f.O t).ac.length
def st (f:Frame) (t:Int):Int:=if(nth f.O t).aq≠1∧(nth f.O t).aq≠2 then 2 else 0
def uC (p:az) (t:Int) (k:Bool) (o:List Bool) (q:List bd) (w:List ad) (i:List Nat) (b:List (List Bool)) (lu:List Bool) (ta:List bd) (w':List ad) (iP:List Nat) (cl:List (List Bool)) (r:Int):Prop:=
 gr w' iP cl∧r=st (c4 k o q w i b) t∧view w' iP cl=(if st (c4 k o q w i b) t=0 then(view w i b).set t.toNat (Ap p (c4 k o q w i b) t) else view w i b)
def jD (p:az) (f:Frame) (e:Event):Frame:=if fg p f e=0 then hj p f e else f
def ef (p:az) (f:Frame) (e:Event):fv:=if(dy p f&&e5 p e)=true then⟨fg p f e,ee p (jD p f e)⟩ else⟨1,⟨false,[],[],[]⟩⟩
def tl (p:az) (f:Frame) (e:Event):Prop:=hM f
theorem N5 {p:az} {f:Frame} {e:Event} (h:ig p f) (he:e5 p e=true):ig p (jD p f e):=by
 unfold jD
 split
 ·exact DN h (rr he)
 ·exact h
theorem Md {p:az} {f:Frame} (h:ig p f) {t:Int} (aT:0≤t) (h1:t<p.O.length):ik (nth f.O t).ac.length=bQ p t:=by
 have aL:=h.O
 have a4:=h.at (i:=t.toNat) (by omega)
 rw[iU aT,iU aT] at a4
 unfold bQ;rw[a4.1]
def lD (p:az) (f:Frame) (e:Event):fv:=if(ef p f e).code=1 then⟨(ef p f e).code,f⟩ else ef p f e
def nC (p:az):Frame→List Event→List fv
 | _,[]=>[]
 | f,e::es=>lD p f e::nC p (lD p f e).frame es
def lC (p:az):Frame→List Event→Frame
 | f,[]=>f
 | f,e::es=>lC p (lD p f e).frame es
def qZ (p:az) (es:List Event):List fv:=if ek p=true∧es.length≤1000 then nC p (ei p) es else[]
theorem acz {p:az} {f:Frame} {e:Event} (hf:hM f):hM (ef p f e).frame:=by
 unfold ef
 split
 ·rename_i h
  rw[Bool.and_eq_true] at h
  have hk:=mf h.1
  exact Em ⟨hk.nk,zO (N5 hk.fr h.2) _⟩
 ·exact⟨Nat.zero_le _,Nat.zero_le _,Nat.zero_le _,fun h bV=>by cases bV⟩
theorem acB {p:az} {f:Frame} {e:Event} (hf:hM f):hM (lD p f e).frame:=by
 unfold lD
 split
 ·exact hf
 ·exact acz hf
theorem Qc {p:az}: ∀(es:List Event) {f:Frame},hM f→hM (lC p f es)
 | [],f,h=>h
 | e::es,f,h=>Qc es (acB h)
theorem Ib (p:az) (e:Event): ∀(es:List Event) (f:Frame),nC p f (es++[e])=nC p f es++[lD p (lC p f es) e]∧lC p f (es++[e])=(lD p (lC p f es) e).frame
 | [],f=>⟨rfl,rfl⟩
 | d::es,f=>⟨by
   show lD p f d::nC p _ (es++[e])=_
   rw[(Ib p e es _).1];rfl,by
   show lC p _ (es++[e])=_
   rw[(Ib p e es _).2];rfl⟩
theorem Qb (p:az): ∀(es:List Event) (f:Frame),(nC p f es).length=es.length
 | [],f=>rfl
 | e::es,f=>by show(nC p _ es).length+1=_;rw[Qb p es];rfl
def iX (p:az) (f:Frame) (i:Nat) (h:ad):ad:=
 let s:=(nth p.O i).ai
 if h.aq=0 then h else
 let h:=if h.aq≠4∧dT f (nth s 0)=true then{h with aq:=4,ar:=0} else h
 let h:=if h.aq=1∨h.aq=2 then(if gf p f i=true then{h with aq:=2,ap:=true} else{h with aq:=1}) else h
 if h.aq=4 then hI s f h else h
theorem aeN (p:az) (f:Frame) (i:Nat):l8 p f i=iX p f i (nth f.O i):=rfl
theorem Sc {p:az} {f g:Frame} {i:Nat} {h:ad} (h1:f.au=g.au) (h2:f.an=g.an):iX p f i h=iX p g i h:=by
 have bx: ∀x,dT f x=dT g x:=fun x=>by unfold dT;rw[h1]
 have e2: ∀s x,hI s f x=hI s g x:=fun s x=>OA h1
 have dS:gf p f i=gf p g i:=G2 h1 h2
 unfold iX
 simp only[bx,e2,dS]
section
variable {p:az} {f:Frame} {i:Nat} {h:ad}
theorem xG (aT:h.aq=0):iX p f i h=h:=by unfold iX;simp[aT]
theorem IZ (aT:h.aq=4):iX p f i h=hI (nth p.O i).ai f h:=by unfold iX;simp[aT]
theorem I0 (aT:h.aq≠0) (bb:h.aq≠4) (aC:dT f (nth (nth p.O i).ai 0)=true):iX p f i h=hI (nth p.O i).ai f {h with aq:=4,ar:=0}:=by unfold iX;simp[aT,bb,aC]
theorem CL (aT:h.aq=1∨h.aq=2) (aC:dT f (nth (nth p.O i).ai 0)=false) (aG:gf p f i=true):iX p f i h={h with aq:=2,ap:=true}:=by
 unfold iX
 rcases aT with aT | aT<;>simp[aT,aC,aG]
theorem CK (aT:h.aq=1∨h.aq=2) (aC:dT f (nth (nth p.O i).ai 0)=false) (aG:gf p f i=false):iX p f i h={h with aq:=1}:=by
 unfold iX
 rcases aT with aT | aT<;>simp[aT,aC,aG]
theorem CM (h1:h.aq≠1) (h2:h.aq≠2) (bb:h.aq≠4) (aC:dT f (nth (nth p.O i).ai 0)=false):iX p f i h=h:=by
 unfold iX
 simp[h1,h2,bb,aC]
end
theorem SY (f:Frame): ∀(b:List Bool) (s:List Int),List.zipWith (fun b x=>b || dT f x) (List.zipWith (fun b x=>b || dT f x) b s) s=List.zipWith (fun b x=>b || dT f x) b s
 | [],s=>rfl
 | b::bs,[]=>rfl
 | b::bs,x::s=>by
  simp only[List.zipWith_cons_cons,SY f bs s]
  cases b<;>cases dT f x<;>rfl
theorem Le {s:List Int} {f:Frame} {ac:List Bool}: ∀(n g:Nat),s.length≤n+g→ ¬(f_ s f ac n g<s.length∧ac.getD (f_ s f ac n g) false=true∧dT f (s.getD (f_ s f ac n g) 0)=false∧(f_ s f ac n g+1=s.length∨ac.getD (f_ s f ac n g+1) false=true))
 | 0,g,h=>fun bV=>by have:=bV.1;unfold f_ at this;omega
 | n+1,g,h=>by
  by_cases hc:g<s.length∧ac.getD g false=true∧dT f (s.getD g 0)=false∧(g+1=s.length∨ac.getD (g+1) false=true)
  ·have e:f_ s f ac (n+1) g=f_ s f ac n (g+1):=if_pos hc
   rw[e];exact Le n (g+1) (by omega)
  ·have e:f_ s f ac (n+1) g=g:=if_neg hc
   rw[e];exact hc
theorem VP {s:List Int} {f:Frame} {ac:List Bool} {n m g:Nat} (h:s.length≤n+g):f_ s f ac m (f_ s f ac n g)=f_ s f ac n g:=A9 (Le n g h)
theorem Lg {s:List Int} {f:Frame} {ac:List Bool}: ∀(n g:Nat),(∀j,j<g→ac.getD j false=true)→ ∀j,j<f_ s f ac n g→ac.getD j false=true
 | 0,g,h=>h
 | n+1,g,h=>by
  unfold f_
  split
  ·rename_i hc
   refine Lg n (g+1) fun j aM=> ?_
   by_cases e:j=g
   ·subst e;exact hc.2.1
   ·exact h j (by omega)
  ·exact h
theorem aaC (s:List Int) (f:Frame) (h:ad) (bb:h.aq=4):(hI s f h=ik s.length)∨((hI s f h).aq=4∧hI s f (hI s f h)=hI s f h):=by
 unfold hI
 simp only
 split
 ·exact .inl rfl
 ·rename_i hg
  refine .inr ⟨bb,?_⟩
  simp only[SY,Int.toNat_natCast]
  rw[VP (by omega),if_neg hg]
theorem aeP (p:az) (f:Frame) (i:Nat) (h:ad):iX p f i (iX p f i h)=iX p f i h:=by
 have key: ∀x:ad,x.aq=4→iX p f i (hI (nth p.O i).ai f x)=hI (nth p.O i).ai f x:=fun x hx=>by
  rcases aaC (nth p.O i).ai f x hx with e | ⟨bx,e2⟩
  ·rw[e];exact xG rfl
  ·rw[IZ bx,e2]
 by_cases aT:h.aq=0
 ·rw[xG aT,xG aT]
 by_cases bb:h.aq=4
 ·rw[IZ bb];exact key h bb
 cases aC:dT f (nth (nth p.O i).ai 0) with
 | true=>rw[I0 aT bb aC];exact key _ rfl
 | false=>
  by_cases nZ:h.aq=1∨h.aq=2
  ·cases aG:gf p f i with
   | true=>rw[CL nZ aC aG,CL (.inr rfl) aC aG]
   | false=>rw[CK nZ aC aG,CK (.inl rfl) aC aG]
  ·rw[CM (fun e=>nZ (.inl e)) (fun e=>nZ (.inr e)) bb aC,CM (fun e=>nZ (.inl e)) (fun e=>nZ (.inr e)) bb aC]
theorem xz (p:az) (f:Frame): ∀(n j:Nat),(iu p n f).O[j]?=(f.O[j]?).map fun h=>if j<n then iX p f j h else h
 | 0,j=>by
  show f.O[j]?=_
  cases f.O[j]?<;>simp
 | n+1,j=>by
  show((iu p n f).O.set n (l8 p (iu p n f) n))[j]?=_
  rw[List.getElem?_set]
  have s:=qY p f n
  split
  ·rename_i e;subst e
   have aL:=o3 p f n
   by_cases aF:n<f.O.length
   ·rw[if_pos (by omega),aeN,Sc s.2.1 s.2.2]
    have bR:=xz p f n n
    rw[List.getElem?_eq_getElem aF,List.getElem?_eq_getElem (by omega)] at bR
    have X4:(iu p n f).O[n]=f.O[n]:=by simpa using bR
    rw[iT (by omega),X4,List.getElem?_eq_getElem aF]
    simp
   ·rw[if_neg (by omega),List.getElem?_eq_none (by omega)];rfl
  ·rename_i cm
   rw[xz p f n j]
   congr 1
   funext h
   by_cases aM:j<n
   ·rw[if_pos aM,if_pos (by omega)]
   ·rw[if_neg aM,if_neg (by omega)]
theorem HF {p:az} {f:Frame} {i:Int} (aT:0≤i) (h1:i<f.O.length):nth (ee p f).O i=iX p f i.toNat (nth f.O i):=by
 have e:=xz p f f.O.length i.toNat
 have aL:=o3 p f f.O.length
 rw[List.getElem?_eq_getElem (by omega),List.getElem?_eq_getElem (show i.toNat<f.O.length by omega)] at e
 unfold ee
 rw[gH (by omega),gH (show i.toNat<f.O.length by omega)]
 simpa[show i.toNat<f.O.length by omega] using e
theorem abN (p:az) (f:Frame):(ee p (ee p f)).O=(ee p f).O:=by
 apply List.ext_getElem?
 intro j
 have s:=qY p f f.O.length
 have aL:=o3 p f f.O.length
 unfold ee
 rw[xz,xz,aL]
 cases h:f.O[j]? with
 | none=>rfl
 | some x=>
  have aM:=(List.getElem?_eq_some_iff.1 h).1
  simp only[Option.map_some,if_pos aM]
  rw[Sc s.2.1 s.2.2,aeP]
structure oz (n:Nat) (dn:Int) (h:ad):Prop where
 aI:0≤h.aq∧h.aq≤4
 len:h.ac.length=n
 af:0≤h.af∧h.af<n
 still:h.aq≠4→h.af=0∧ ∀b∈h.ac,b=false
 ac: ∀j,j<h.af.toNat→h.ac.getD j false=true
 t3:h.aq=3→h.ap=true∧1≤h.ar∧h.ar≤dn
 t:h.aq≠3→h.ar=0
 e_:h.aq=0→h.ap=false
 s2:h.aq=2→h.ap=true
theorem LY {p:az} {f:Frame} {i:Int}:ha p f i=true↔oz (nth p.O i).ai.length p.dn (nth f.O i):=by
 unfold ha
 simp only
 generalize nth f.O i=h
 generalize (nth p.O i).ai.length=n
 have eT: ∀(l:List Bool) (k:Nat),k≤l.length→((l.take k).all (fun b=>b)=true↔ ∀j,j<k→l.getD j false=true):=fun l k hk=>by
  rw[List.all_eq_true]
  constructor
  ·intro h j aM
   have:l[j]'(by omega)=true:=h _ (List.mem_take_iff_getElem.2 ⟨j,by omega,rfl⟩)
   rw[List.getD_eq_getElem?_getD,List.getElem?_eq_getElem (by omega)];exact this
  ·intro h x hx
   obtain⟨j,aM,rfl⟩:=List.mem_take_iff_getElem.1 hx
   have:=h j (by omega)
   rw[List.getD_eq_getElem?_getD,List.getElem?_eq_getElem (by omega)] at this;exact this
 rw[Bool.and_eq_true,Bool.and_eq_true,Bool.and_eq_true,Bool.and_eq_true,Bool.and_eq_true,iB,iB,decide_eq_true_eq,Bool.or_eq_true,Bool.and_eq_true,decide_eq_true_eq,decide_eq_true_eq,List.all_eq_true]
 constructor
 ·rintro⟨⟨⟨⟨⟨h1,h2⟩,aO⟩,bb⟩,cb⟩,cE⟩
  refine⟨h1,h2,by omega,fun aF=> ?_,(eT _ _ (by omega)).1 cb,fun e=> ?_,fun e=> ?_,fun e=> ?_,fun e=> ?_⟩
  ·rcases bb with bb | bb
   ·exact absurd bb aF
   ·exact⟨bb.1,fun b hb=>by have:=bb.2 b hb;simpa using this⟩
  ·rw[if_pos e,Bool.and_eq_true,iB] at cE;exact cE
  ·rw[if_neg e] at cE;simp only[Bool.and_eq_true,decide_eq_true_eq] at cE;exact cE.1.1
  ·rw[if_neg (by omega)] at cE;simp only[Bool.and_eq_true,decide_eq_true_eq,Bool.or_eq_true,Bool.not_eq_true'] at cE
   rcases cE.1.2 with h | h
   ·exact absurd e h
   ·exact h
  ·rw[if_neg (by omega)] at cE;simp only[Bool.and_eq_true,decide_eq_true_eq,Bool.or_eq_true,Bool.not_eq_true'] at cE
   rcases cE.2 with h | h
   ·exact absurd e h
   ·exact h
 ·intro H
  have hg:=H.af
  have aL:=H.len
  refine⟨⟨⟨⟨⟨H.aI,H.len⟩,by omega⟩,?_⟩,(eT _ _ (by omega)).2 H.ac⟩,?_⟩
  ·by_cases bb:h.aq=4
   ·exact .inl bb
   ·exact .inr ⟨(H.still bb).1,fun b hb=>by rw[(H.still bb).2 b hb];rfl⟩
  ·by_cases aO:h.aq=3
   ·rw[if_pos aO,Bool.and_eq_true,iB];exact H.t3 aO
   ·rw[if_neg aO];simp only[Bool.and_eq_true,decide_eq_true_eq,Bool.or_eq_true,Bool.not_eq_true']
    refine⟨⟨H.t aO,?_⟩,?_⟩
    ·by_cases aT:h.aq=0
     ·exact .inr (H.e_ aT)
     ·exact .inl aT
    ·by_cases aT:h.aq=2
     ·exact .inr (H.s2 aT)
     ·exact .inl aT
theorem Bv {n:Nat} {dn:Int} (h:0<n):oz n dn (ik n) where
 aI:=⟨show(0:Int)≤0 by decide,show(0:Int)≤4 by decide⟩
 len:=by simp[ik]
 af:=⟨Int.le_refl _,show(0:Int)<n by omega⟩
 still:=fun _=>⟨rfl,fun b hb=>(List.mem_replicate.1 hb).2⟩
 ac:=fun j aM=>absurd aM (Nat.not_lt_zero _)
 t3:=fun e=>absurd e (show ¬(0:Int)=3 by decide)
 t:=fun _=>rfl
 e_:=fun _=>rfl
 s2:=fun e=>absurd e (show ¬(0:Int)=2 by decide)
theorem LZ {n:Nat} {dn:Int} {s:List Int} {f:Frame} {h:ad} (aF:s.length=n) (aT:0<n) (H:oz n dn h) (bb:h.aq=4):oz n dn (hI s f h):=by
 subst aF
 have aN:(List.zipWith (fun b x=>b || dT f x) h.ac s).length=s.length:=by rw[List.length_zipWith,H.len];omega
 have hg:=H.af
 have sN:=(Ez (s:=s) (f:=f) (ac:=List.zipWith (fun b x=>b || dT f x) h.ac s) s.length h.af.toNat (by omega)).2
 have uw: ∀j,h.ac.getD j false=true→(List.zipWith (fun b x=>b || dT f x) h.ac s).getD j false=true:=fun j aM=>by
  have oL:j<h.ac.length:=by
   by_cases oL:j<h.ac.length
   ·exact oL
   ·rw[List.getD_eq_getElem?_getD,List.getElem?_eq_none (by omega)] at aM;cases aM
  have aL:=H.len
  rw[List.getD_eq_getElem?_getD,List.getElem?_eq_getElem oL] at aM
  rw[List.getD_eq_getElem?_getD,List.getElem?_eq_getElem (by omega),List.getElem_zipWith]
  have aM:h.ac[j]=true:=aM
  rw[aM];rfl
 unfold hI
 simp only
 split
 ·exact Bv aT
 ·rename_i cm
  exact⟨H.aI,aN,⟨Int.natCast_nonneg _,by simp only;omega⟩,fun e=>absurd bb e,by
   simp only[Int.toNat_natCast]
   exact Lg _ _ fun j aM=>uw j (H.ac j aM),H.t3,H.t,H.e_,H.s2⟩
theorem Xh {p:az} {f:Frame} {i:Nat} {h:ad} {n:Nat} (aF:(nth p.O i).ai.length=n) (aT:0<n) (H:oz n p.dn h):oz n p.dn (iX p f i h):=by
 by_cases hl:h.aq=0
 ·rw[xG hl];exact H
 by_cases bb:h.aq=4
 ·rw[IZ bb];exact LZ aF aT H bb
 have bj:=H.aI
 cases aC:dT f (nth (nth p.O i).ai 0) with
 | true=>
  rw[I0 hl bb aC]
  refine LZ aF aT ⟨⟨show(0:Int)≤4 by decide,show(4:Int)≤4 by decide⟩,H.len,H.af,fun e=>absurd rfl e,H.ac,fun e=>absurd e (show ¬(4:Int)=3 by decide),fun _=>rfl,fun e=>absurd e (show ¬(4:Int)=0 by decide),fun e=>absurd e (show ¬(4:Int)=2 by decide)⟩ rfl
 | false=>
  by_cases nZ:h.aq=1∨h.aq=2
  ·have hs:=H.still bb
   have bp:=H.t (by omega)
   cases aG:gf p f i with
   | true=>
    rw[CL nZ aC aG]
    exact⟨⟨show(0:Int)≤2 by decide,show(2:Int)≤4 by decide⟩,H.len,H.af,fun _=>hs,H.ac,fun e=>absurd e (show ¬(2:Int)=3 by decide),fun _=>bp,fun e=>absurd e (show ¬(2:Int)=0 by decide),fun _=>rfl⟩
   | false=>
    rw[CK nZ aC aG]
    exact⟨⟨show(0:Int)≤1 by decide,show(1:Int)≤4 by decide⟩,H.len,H.af,fun _=>hs,H.ac,fun e=>absurd e (show ¬(1:Int)=3 by decide),fun _=>bp,fun e=>absurd e (show ¬(1:Int)=0 by decide),fun e=>absurd e (show ¬(1:Int)=2 by decide)⟩
  ·rw[CM (fun e=>nZ (.inl e)) (fun e=>nZ (.inr e)) bb aC];exact H
theorem aeR {p:az} {f:Frame} {i:Nat} {h:ad} (hs:(iX p f i h).aq≠0):h.aq≠0:=fun e=>hs (by rw[xG e];exact e)
structure pc (p:az) (f:Frame):Prop where
 base:rB p f=true
 jn: ∀x∈f.an,jm x=true
 held: ∀i:Int,0≤i→i<f.O.length→oz (nth p.O i).ai.length p.dn (nth f.O i)
 bU: ∀i k:Int,0≤i→i<f.O.length→0≤k→k<f.O.length→jd p f i k=false
theorem GL {p:az} {f:Frame} (h:dy p f=true):pc p f∧ee p f=f:=by
 obtain⟨a,b,c,d,e⟩:=tS.1 h
 refine⟨⟨a,b,fun i i0 i1=>LY.1 (c i i0 i1),d⟩,?_⟩
 have s:=qY p f f.O.length
 have h1:(ee p f).ok=f.ok:=s.1
 have h2:(ee p f).au=f.au:=s.2.1
 have aO:(ee p f).an=f.an:=s.2.2
 generalize ee p f=g at e h1 h2 aO
 cases g;cases f
 simp only at e h1 h2 aO
 subst e;subst h1;subst h2;subst aO;rfl
theorem JN {p:az} {f g:Frame} (aL:g.O.length=f.O.length) (hs: ∀i:Int,0≤i→i<f.O.length→(nth g.O i).aq≠0→(nth f.O i).aq≠0)
  (h: ∀i k:Int,0≤i→i<f.O.length→0≤k→k<f.O.length→jd p f i k=false): ∀i k:Int,0≤i→i<g.O.length→0≤k→k<g.O.length→jd p g i k=false:=fun i k i0 i1 a_ dP=>by
 have h1:=h i k i0 (by omega) a_ (by omega)
 cases hb:jd p g i k with
 | false=>rfl
 | true=>
  unfold jd at hb h1
  simp only[Bool.and_eq_true,bne_iff_ne,ne_eq] at hb
  have s1:=hs i i0 (by omega) hb.2.2.1
  have s2:=hs k a_ (by omega) hb.2.2.2
  rw[show(i !=k)=true by simpa using hb.1,hb.2.1,show((nth f.O i).aq !=0)=true by simpa using s1,show((nth f.O k).aq !=0)=true by simpa using s2] at h1
  cases h1
theorem zG {p:az} (h:ek p=true) {i:Int} (i0:0≤i) (i1:i<p.O.length):0<(nth p.O i).ai.length:=
 List.length_pos_iff.2 ((uZ h).ai _ (dC (by omega))).1
theorem ON {p:az} {f:Frame} (h:pc p f):dy p (ee p f)=true:=by
 obtain⟨jc,dg,p8,jP,ju⟩:=mK.1 h.base
 have s:=qY p f f.O.length
 have aL:(ee p f).O.length=f.O.length:=o3 p f f.O.length
 have h1:(ee p f).ok=f.ok:=s.1
 have h2:(ee p f).au=f.au:=s.2.1
 have aO:(ee p f).an=f.an:=s.2.2
 refine tS.2 ⟨mK.2 ⟨jc,by rw[h1];exact dg,by rw[h2];exact p8,by rw[aO];exact jP,by rw[aL];exact ju⟩,by rw[aO];exact h.jn,fun i i0 i1=> ?_,JN aL (fun i i0 i1 hs=> ?_) h.bU,(abN p f).symm⟩
 ·have Mc:i<f.O.length:=by omega
  rw[LY,HF i0 Mc]
  exact Xh (by rw[iU i0]) (zG jc i0 (by omega)) (h.held i i0 Mc)
 ·rw[HF i0 i1] at hs;exact aeR hs
theorem uL {α:Type} [Inhabited α] {l:List α} {t i:Int} {x:α} (t0:0≤t) (i0:0≤i) (i1:i<l.length):nth (l.set t.toNat x) i=if i=t then x else nth l i:=by
 rw[gH (by rw[List.length_set];omega),gH (show i.toNat<l.length by omega),List.getElem_set]
 by_cases e:i=t
 ·rw[if_pos (by omega),if_pos e]
 ·rw[if_neg (by omega),if_neg e]
theorem CP {p:az} {ws:List ad} {i:Int} (i0:0≤i) (i1:i<ws.length): ∀n:Nat,nth (h4 p n ws) i=if i<n then lE p i.toNat (nth ws i) else nth ws i
 | 0=>by rw[if_neg (by omega)];rfl
 | n+1=>by
  show nth ((h4 p n ws).set n (lE p n (nth (h4 p n ws) n))) i=_
  have aL:=zZ p ws n
  have e:=uL (l:=h4 p n ws) (t:=(n:Int)) (i:=i) (x:=lE p n (nth (h4 p n ws) n)) (by omega) i0 (by omega)
  rw[Int.toNat_natCast] at e
  rw[e]
  by_cases aF:i=n
  ·subst aF
   rw[if_pos rfl,if_pos (by omega),CP i0 i1 n,if_neg (by omega),Int.toNat_natCast]
  ·rw[if_neg aF,CP i0 i1 n]
   by_cases hi:i<n
   ·rw[if_pos hi,if_pos (by omega)]
   ·rw[if_neg hi,if_neg (by omega)]
theorem Xi {p:az} (h:ek p=true):1≤p.dn∧p.dn≤300:=(r6.1 (xd h).1).2.1
theorem PI: ∀(l:List cx) (q:List bd),(∀x∈l,0≤x.sw∧x.sw<q.length∧(x.bk=1∨x.bk=2))→(∀x∈q,jm x=true)→ ∀x∈jI l q,jm x=true
 | [],q,_,h=>h
 | y::l,q,aL,h=>by
  show ∀x∈jI l (q.set y.sw.toNat ⟨y.bk,(nth q y.sw).a2⟩),jm x=true
  have br:=aL y (List.mem_cons_self ..)
  refine PI l _ (fun x hx=>by rw[List.length_set];exact aL x (List.mem_cons_of_mem _ hx)) fun x hx=> ?_
  rcases List.mem_or_eq_of_mem_set hx with hx | rfl
  ·exact h x hx
  ·have:=h _ (dC (show y.sw.toNat<q.length by omega))
   unfold jm at this ⊢
   rw[Bool.and_eq_true,iB,iB] at this ⊢
   exact⟨by show 1≤y.bk∧y.bk≤2;omega,this.2⟩
theorem OP {p:az} {f:Frame} (h:pc p f) {ws:List ad} (aL:ws.length=f.O.length) (hk: ∀i:Int,0≤i→i<f.O.length→oz (nth p.O i).ai.length p.dn (nth ws i))
  (hs: ∀i:Int,0≤i→i<f.O.length→(nth ws i).aq≠0→(nth f.O i).aq≠0):pc p {f with O:=ws}:=by
 obtain⟨jc,dg,p8,jP,ju⟩:=mK.1 h.base
 exact⟨mK.2 ⟨jc,dg,p8,jP,by show(ws.length:Nat)=_;omega⟩,h.jn,fun i i0 i1=>hk i i0 (by rw[←aL];exact i1),JN (f:=f) aL hs h.bU⟩
theorem OO {p:az} {f:Frame} (h:pc p f) {t:Int} {x:ad} (t0:0≤t) (hk:oz (nth p.O t).ai.length p.dn x) (hs:x.aq≠0→(nth f.O t).aq≠0):pc p {f with O:=f.O.set t.toNat x}:=by
 refine OP h (List.length_set ..) (fun i i0 i1=> ?_) fun i i0 i1=> ?_
 ·rw[uL t0 i0 i1]
  split
  ·rename_i e;rw[e];exact hk
  ·exact h.held i i0 i1
 ·rw[uL t0 i0 i1]
  split
  ·rename_i e;rw[e];exact hs
  ·exact _root_.id
theorem Cg {p:az} {f:Frame} (h:pc p f) {o:List Bool} {q:List bd} (aC:o.length=f.au.length) (aj:q.length=f.an.length) (aG: ∀x∈q,jm x=true):pc p {f with au:=o,an:=q}:=by
 obtain⟨jc,dg,p8,jP,ju⟩:=mK.1 h.base
 exact⟨mK.2 ⟨jc,dg,by show(o.length:Int)=_;rw[aC];exact p8,by show q.length=_;rw[aj];exact jP,ju⟩,aG,h.held,h.bU⟩
theorem PL {q:List bd} {k:Nat} {x:bd} (h: ∀x∈q,jm x=true) (hx:jm x=true): ∀y∈q.set k x,jm y=true:=fun y br=>by
 rcases List.mem_or_eq_of_mem_set br with br | rfl
 ·exact h y br
 ·exact hx
theorem Xg {n:Nat} {dn:Int} {h:ad} (H:oz n dn h) {x:Int} (bb:h.aq≠4) (hx:x=1) (aO:h.aq≠3):oz n dn {h with aq:=x}:=by
 subst hx
 exact⟨⟨show(0:Int)≤1 by decide,show(1:Int)≤4 by decide⟩,H.len,H.af,fun _=>H.still bb,H.ac,fun e=>absurd e (show ¬(1:Int)=3 by decide),fun _=>H.t aO,fun e=>absurd e (show ¬(1:Int)=0 by decide),fun e=>absurd e (show ¬(1:Int)=2 by decide)⟩
theorem aaT {p:az} {f:Frame} {e:Event} (h:pc p f) (he:e5 p e=true):pc p (jD p f e):=by
 obtain⟨jc,dg,p8,jP,ju⟩:=mK.1 h.base
 have cF:=uZ jc
 have ed:=zo jc
 have aR:=Xi jc
 unfold jD
 split
 case isFalse=>exact h
 rename_i hc
 unfold hj
 split
 ·rename_i h1
  obtain⟨t0,t1⟩:=rr he (.inl h1)
  have I1:e.ah<f.O.length:=by omega
  have hw:dI p f e.ah=0:=by unfold fg at hc;rwa [if_pos h1] at hc
  have bj:(nth f.O e.ah).aq=0:=by
   unfold dI at hw
   by_cases aT:(nth f.O e.ah).aq=0
   ·exact aT
   ·rw[if_pos aT] at hw;cases hw
  have WE:(gg p f e.ah).O=[]:=by
   unfold dI at hw
   rw[if_neg (by rw[bj];simp)] at hw
   unfold codeF at hw
   by_cases aj:(gg p f e.ah).O=[]
   ·exact aj
   ·rw[if_pos aj] at hw;cases hw
  have lY:=A1.1 (show eg (kD p f e.ah) p.O.length=[] from WE)
  have hk:=Xg (x:=1) (h.held e.ah t0 I1) (by omega) rfl (by omega)
  have Lo:=Cg h (o:=f.au) (q:=jI (bu (nth p.O e.ah)) f.an) rfl (zN _ _) (PI _ _ (fun x hx=>by
   have:=(cF.a2 _ (dC (show e.ah.toNat<p.O.length by omega))).2.2 x hx
   exact⟨this.1,by omega,BS jc (dC (by omega)) hx⟩) h.jn)
  have k0: ∀i:Int,0≤i→i<f.O.length→nth (f.O.set e.ah.toNat {nth f.O e.ah with aq:=1}) i=if i=e.ah then{nth f.O e.ah with aq:=1} else nth f.O i:=fun i i0 i1=>uL t0 i0 i1
  obtain⟨ng,lP,Dm,Dn,afK⟩:=mK.1 Lo.base
  have L0: ∀k:Int,0≤k→k<f.O.length→k≠e.ah→kW p e.ah k=true→(nth f.O k).aq≠0→False:=fun k a_ dP cm hb hs=>by
   have:=lY k a_ (by omega)
   unfold kD at this
   rw[show(k !=e.ah)=true by simpa using cm,hb,show((nth f.O k).aq !=0)=true by simpa using hs] at this
   cases this
  refine⟨mK.2 ⟨ng,lP,Dm,Dn,by show(f.O.set _ _).length=_;rw[List.length_set];exact ju⟩,Lo.jn,fun i i0 i1=> ?_,fun i k i0 i1 a_ dP=> ?_⟩
  ·have i1:i<f.O.length:=by
    have i1:i<((f.O.set e.ah.toNat {nth f.O e.ah with aq:=1}).length:Int):=i1
    rw[List.length_set] at i1;exact i1
   show oz _ _ (nth (f.O.set e.ah.toNat {nth f.O e.ah with aq:=1}) i)
   rw[k0 i i0 i1]
   split
   ·rename_i dW;rw[dW];exact hk
   ·exact h.held i i0 i1
  ·have i1:i<f.O.length:=by
    have i1:i<((f.O.set e.ah.toNat {nth f.O e.ah with aq:=1}).length:Int):=i1
    rw[List.length_set] at i1;exact i1
   have dP:k<f.O.length:=by
    have dP:k<((f.O.set e.ah.toNat {nth f.O e.ah with aq:=1}).length:Int):=dP
    rw[List.length_set] at dP;exact dP
   have dn:=h.bU i k i0 i1 a_ dP
   unfold jd at dn ⊢
   show((i !=k)&&(kW p i k&&(((nth (f.O.set e.ah.toNat {nth f.O e.ah with aq:=1}) i).aq !=0)&&((nth (f.O.set e.ah.toNat {nth f.O e.ah with aq:=1}) k).aq !=0))))=false
   rw[k0 i i0 i1,k0 k a_ dP]
   by_cases AL:i=e.ah
   ·by_cases vX:k=e.ah
    ·rw[AL,vX];simp
    ·rw[if_neg vX]
     cases hb:kW p i k with
     | false=>simp
     | true=>
      cases hs:((nth f.O k).aq !=0) with
      | false=>simp
      | true=>exact(L0 k a_ dP vX (by rw[←AL];exact hb) (by simpa using hs)).elim
   ·rw[if_neg AL]
    by_cases vX:k=e.ah
    ·cases hb:kW p i k with
     | false=>simp
     | true=>
      cases hs:((nth f.O i).aq !=0) with
      | false=>simp
      | true=>exact(L0 i i0 i1 AL (by rw[←vX,ed.sym k i a_ (by omega) i0 (by omega)];exact hb) (by simpa using hs)).elim
    ·rw[if_neg vX];exact dn
 rename_i h1
 split
 ·rename_i h2
  obtain⟨t0,t1⟩:=rr he (.inr h2)
  have I1:e.ah<f.O.length:=by omega
  have bj: ¬((nth f.O e.ah).aq≠1∧(nth f.O e.ah).aq≠2):=by
   unfold fg at hc
   rw[if_neg h1,if_pos h2] at hc
   intro bV;rw[if_pos bV] at hc;cases hc
  have bj:(nth f.O e.ah).aq=1∨(nth f.O e.ah).aq=2:=by omega
  have H:=h.held e.ah t0 I1
  split
  ·rename_i aj
   rw[Bool.and_eq_true] at aj
   refine OO h t0 ⟨⟨show(0:Int)≤3 by decide,show(3:Int)≤4 by decide⟩,H.len,H.af,fun _=>H.still (by omega),H.ac,fun _=>⟨aj.1,aR.1,Int.le_refl _⟩,fun e=>absurd rfl e,fun e=>absurd e (show ¬(3:Int)=0 by decide),fun e=>absurd e (show ¬(3:Int)=2 by decide)⟩ (fun _=>by omega)
  ·exact OO h t0 (Bv (zG jc t0 t1)) (fun bV=>absurd rfl bV)
 rename_i h2
 split
 ·exact Cg h (List.length_set ..) rfl h.jn
 rename_i aO
 split
 ·rename_i cb
  obtain⟨t0,t1⟩:=v7 he (.inl cb)
  rw[AR cb,Bool.and_eq_true,iB,iB] at he
  refine Cg h rfl (List.length_set ..) (PL h.jn ?_)
  have:=h.jn _ (dC (show e.ah.toNat<f.an.length by omega))
  unfold jm at this ⊢
  rw[Bool.and_eq_true,iB,iB] at this ⊢
  exact⟨this.1,he.2⟩
 rename_i cb
 split
 ·rename_i cE
  obtain⟨t0,t1⟩:=v7 he (.inr cE)
  rw[AS cE,Bool.and_eq_true,iB,iB] at he
  refine Cg h rfl (List.length_set ..) (PL h.jn ?_)
  have:=h.jn _ (dC (show e.ah.toNat<f.an.length by omega))
  unfold jm at this ⊢
  rw[Bool.and_eq_true,iB,iB] at this ⊢
  exact⟨he.2,this.2⟩
 rename_i cE
 split
 ·refine OP h (zZ _ _ _) (fun i i0 i1=> ?_) fun i i0 i1=> ?_
  ·rw[CP i0 i1,if_pos i1]
   have H:=h.held i i0 i1
   unfold lE
   split
   ·rename_i hs
    have bp:=H.t3 hs
    have hw:IntKind.i64.wrap ((nth f.O i).ar - 1)=(nth f.O i).ar - 1:=fm (by omega) (by omega)
    rw[hw]
    split
    ·unfold bQ;rw[iU i0];exact Bv (zG jc i0 (by omega))
    ·exact⟨H.aI,H.len,H.af,H.still,H.ac,fun _=>⟨bp.1,by simp only;omega,by simp only;omega⟩,fun e=>absurd hs e,H.e_,H.s2⟩
   ·exact H
  ·rw[CP i0 i1,if_pos i1]
   unfold lE
   split
   ·rename_i hs
    split
    ·exact fun bV=>absurd rfl bV
    ·exact _root_.id
   ·exact _root_.id
 ·exact h
theorem x6 {p:az} (h:ek p=true):dy p (ei p)=true:=by
 have hf:=JO h
 have aL:=hf.fr.O
 have e:ei p=⟨true,List.replicate p.ai.toNat false,List.replicate p.be.length ⟨1,1⟩,p.O.map fun w=>ik w.ai.length⟩:=by unfold ei;rw[if_pos h]
 have hw: ∀i:Int,0≤i→i<(ei p).O.length→nth (ei p).O i=ik (nth p.O i).ai.length:=fun i i0 i1=>by
  rw[gH (by omega),gH (show i.toNat<p.O.length by omega)]
  simp only[e,List.getElem_map]
 have lm:pc p (ei p):=by
  refine⟨mK.2 ⟨h,by rw[e],hf.fr.au,hf.fr.an,aL⟩,fun x hx=> ?_,fun i i0 i1=> ?_,fun i k i0 i1 a_ dP=> ?_⟩
  ·rw[e] at hx;rw[(List.mem_replicate.1 hx).2];decide
  ·rw[hw i i0 i1];exact Bv (zG h i0 (by omega))
  ·unfold jd
   rw[hw i i0 i1];simp[ik]
 have hs:ee p (ei p)=ei p:=by
  have s:=qY p (ei p) (ei p).O.length
  have BE:(ee p (ei p)).O=(ei p).O:=by
   apply List.ext_getElem?
   intro j
   unfold ee
   rw[xz]
   cases hx:(ei p).O[j]? with
   | none=>rfl
   | some x=>
    have aM:=(List.getElem?_eq_some_iff.1 hx)
    have ui:=aM.1
    have:=hw j (by omega) (by omega)
    rw[iT aM.1,aM.2] at this
    simp only[Option.map_some,if_pos aM.1]
    rw[xG (by rw[this];rfl)]
  have h1:(ee p (ei p)).ok=(ei p).ok:=s.1
  have h2:(ee p (ei p)).au=(ei p).au:=s.2.1
  have aO:(ee p (ei p)).an=(ei p).an:=s.2.2
  generalize ee p (ei p)=g at BE h1 h2 aO
  generalize ei p=b at BE h1 h2 aO
  cases g;cases b
  simp only at BE h1 h2 aO
  subst BE;subst h1;subst h2;subst aO;rfl
 rw[←hs];exact ON lm
theorem T6 (p:az) (f:Frame) (e:Event):fg p f e≠1:=by
 unfold fg dI codeF
 repeat' split
 all_goals decide
theorem aaf {p:az} {f:Frame} {e:Event} (h:dy p f=true):fv.mk (fg p f e) (ee p (jD p f e))=h8 p f e:=by
 unfold h8 jD
 by_cases hc:fg p f e=0
 ·rw[if_pos hc,if_neg (by rw[hc];simp),hc]
 ·rw[if_neg hc,if_pos hc,(GL h).2]
theorem IU {p:az} {f:Frame} {e:Event} (h:dy p f=true):lD p f e=(if e5 p e=true then h8 p f e else⟨1,f⟩)∧dy p (lD p f e).frame=true:=by
 unfold lD ef
 rw[h,Bool.true_and]
 by_cases he:e5 p e=true
 ·simp only[if_pos he]
  rw[if_neg (T6 p f e)]
  exact⟨aaf h,ON (aaT (GL h).1 he)⟩
 ·simp only[if_neg he]
  exact⟨rfl,h⟩
theorem Ht {p:az}: ∀(es:List Event) {f:Frame},dy p f=true→nC p f es=lA p f es∧lC p f es=uD p f es∧dy p (uD p f es)=true
 | [],f,h=>⟨rfl,rfl,h⟩
 | e::es,f,h=>by
  obtain⟨h1,h2⟩:=IU (e:=e) h
  by_cases he:e5 p e=true
  ·rw[if_pos he] at h1
   rw[h1] at h2
   obtain⟨a,b,c⟩:=Ht es h2
   refine⟨?_,?_,?_⟩
   ·unfold nC lA
    rw[if_pos he,h1,a]
   ·unfold lC uD
    rw[if_pos he,h1,b]
   ·unfold uD
    rw[if_pos he];exact c
  ·rw[if_neg he] at h1
   rw[h1] at h2
   obtain⟨a,b,c⟩:=Ht es h2
   refine⟨?_,?_,?_⟩
   ·unfold nC lA
    rw[if_neg he,h1]
    show _::nC p f es=_
    rw[a]
   ·unfold lC uD
    rw[if_neg he,h1]
    exact b
   ·unfold uD
    rw[if_neg he];exact c
theorem acA (p:az) (es:List Event):qZ p es=CA p es:=by
 unfold qZ CA
 by_cases h:ek p=true∧es.length≤1000
 ·rw[if_pos h,if_pos h];exact(Ht es (x6 h.1)).1
 ·rw[if_neg h,if_neg h]
def Sa (h i v:Nat):Int:=if v=0 then 0 else if v=1 then 2 else if v<3+i∧ ¬(i=h∧v=2+h) then 3 else if i<h then 4 else 0
def C2 (h i:Nat) (D:List fv):Prop:= ∀(v:Nat) (d:fv),D[v]?=some d→ ∃w,d.frame.O=[w]∧w.aq=Sa h i v
theorem C2.more {h i:Nat} {D:List fv} (k:C2 h i D) {w:ad} {c:Int} {o:Bool} {a:List Bool} {b:List bd} {n:Nat} (aF:D.length=n) (hw:w.aq=Sa h i n):C2 h i (D++[⟨c,o,a,b,[w]⟩]):=fun v d bg=>by
 rcases Nat.lt_or_ge v D.length with aL | aL
 ·rw[List.getElem?_append_left aL] at bg;exact k v d bg
 ·rw[List.getElem?_append_right aL] at bg
  cases hv:v - D.length with
  | zero=>rw[hv] at bg;cases bg;exact⟨w,rfl,by rw[hw,show v=n by omega]⟩
  | succ m=>rw[hv] at bg;simp at bg
def Jk (c:List UInt8):Bool:=true
def bW (k:Int) (c:ba):Prop:=0≤c.pos∧c.pos+k≤4611686018427387904
def ls (c:ba):ba:=bif decide (c.pos<(c.code.length:Int)) then ba.mk c.code (IntKind.i64.wrap (c.pos+1)) (IntKind.u64.wrap ((IntKind.u64.wrap ((IntKind.u64.wrap (c.tp*6364136223846793005))+(IntKind.u64.wrap (((nth c.code c.pos).toNat:Int)))))+1442695040888963407))
 else ba.mk c.code (IntKind.i64.wrap (c.pos+1)) (IntKind.u64.wrap ((IntKind.u64.wrap (c.tp*6364136223846793005))+1442695040888963407))
def mX (c:ba):Int:=bif decide (c.pos<(c.code.length:Int)) then IntKind.i64.wrap (((nth c.code c.pos).toNat:Int))
 else IntKind.i64.wrap (IntKind.u64.wrap (((BitVec.ofInt IntKind.u64.bits ((IntKind.u64.wrap ((IntKind.u64.wrap (c.tp*6364136223846793005))+1442695040888963407)).fdiv (2 ^ (min (40:Int).toNat IntKind.u64.bits)))&&&BitVec.ofInt IntKind.u64.bits 255).toNat:Int)))
theorem ae5 {n:Int} (h1:0≤n) (h2:n≤9223372036854775807):IntKind.u64.wrap n=n:=by
 have e:IntKind.u64.wrap n=n%2 ^ 64:=by
  unfold IntKind.wrap
  exact if_neg (fun h=>by simp[IntKind.signed] at h)
 rw[e];omega
theorem Od (c:ba):0≤mX c∧mX c≤255:=by
 have key: ∀n:Nat,n≤255→(0≤IntKind.i64.wrap (n:Int)∧IntKind.i64.wrap (n:Int)≤255)∧IntKind.u64.wrap (n:Int)=n:=fun n h=>by
  rw[fm (by omega) (by omega),ae5 (by omega) (by omega)];omega
 unfold mX
 cases decide (c.pos<(c.code.length:Int)) with
 | true=>
  have:=(nth c.code c.pos).toNat_lt
  exact(key _ (by omega)).1
 | false=>
  have hb: ∀x:BitVec IntKind.u64.bits,(x&&&BitVec.ofInt IntKind.u64.bits 255).toNat≤255:=fun x=>by
   rw[BitVec.toNat_and];exact Nat.and_le_right
  simp only[cond_false]
  rw[(key _ (hb _)).2]
  exact(key _ (hb _)).1
theorem aal {c:ba} (h:bW 1 c):(ls c).pos=c.pos+1:=by
 have:IntKind.i64.wrap (c.pos+1)=c.pos+1:=fm (by have:=h.1;omega) (by have:=h.2;omega)
 unfold ls
 cases decide (c.pos<(c.code.length:Int))<;>exact this
theorem bW.mono {k l:Int} {c:ba} (h:bW k c) (aL:l≤k):bW l c:=⟨h.1,by have:=h.2;omega⟩
theorem bW.next {k:Int} {c:ba} (h:bW (k+1) c) (hk:0≤k):bW k (ls c):=by
 have:=aal (h.mono (by omega))
 exact⟨by have:=h.1;omega,by have:=h.2;omega⟩
def iD (n:Int) (c:ba):Prop:=bW 2 c
def bK (n:Int) (c:ba):ba:=if n≤1 then c else bif decide (n>200) then ls (ls c) else ls c
def cK (n:Int) (c:ba):Int:=if n≤1 then 0 else(bif decide (n>200) then IntKind.i64.wrap (IntKind.i64.wrap (mX c*256)+mX (ls c)) else mX c).tmod n
theorem mZ (n:Int) (c:ba):0≤cK n c∧(1≤n→cK n c<n):=by
 unfold cK
 split
 ·omega
 ·rename_i aF
  have h1:=Od c
  have h2:=Od (ls c)
  have h: ∀x:Int,0≤x→0≤x.tmod n∧(1≤n→x.tmod n<n):=fun x hx=>by
   rw[Int.tmod_eq_emod_of_nonneg hx]
   exact⟨Int.emod_nonneg _ (by omega),fun _=>Int.emod_lt_of_pos _ (by omega)⟩
  cases decide (n>200) with
  | true=>
   simp only[cond_true]
   refine h _ ?_
   rw[fm (n:=mX c*256) (by omega) (by omega),fm (by omega) (by omega)];omega
  | false=>exact h _ h1.1
theorem bW.pick {k:Int} {c:ba} {n:Int} (h:bW (k+2) c) (hk:0≤k):bW k (bK n c):=by
 unfold bK
 split
 ·exact h.mono (by omega)
 ·cases decide (n>200) with
  | true=>exact(bW.next (k:=k+1) (h.mono (by omega)) (by omega)).next hk
  | false=>exact(bW.next (k:=k+1) (h.mono (by omega)) (by omega)).mono (by omega)
def vd (n:Int) (no:List Int):Nat→ba→List Int→ba×List Int
 | 0,c,x=>(c,x)
 | k+1,c,x=>vd n no k (bK n c) (if((!(meets [cK n c] x))&&(!(meets [cK n c] no)))=true then x++[cK n c] else x)
def zQ (m:Int) (c:ba):Nat:=(cK (IntKind.i64.wrap (m+1)) c).toNat
def HK (n m:Int) (no:List Int) (c:ba):ba×List Int:=vd n no (zQ m c) (bK (IntKind.i64.wrap (m+1)) c) []
def h3 (n m:Int) (no:List Int) (c:ba):ba:=(HK n m no c).1
def hr (n m:Int) (no:List Int) (c:ba):List Int:=(HK n m no c).2
def zR (n m:Int) (no:List Int) (c:ba):Prop:=bW 10 c∧0≤m∧m≤4
theorem P_ {m:Int} {c:ba} (aT:0≤m) (bb:m≤4):zQ m c≤4:=by
 unfold zQ
 rw[fm (by omega) (by omega)]
 have:=(mZ (m+1) c).2 (by omega)
 omega
structure vD (n:Int) (no:List Int) (x:List Int):Prop where
 xt: ∀y∈x,0≤y∧y<n
 w4:x.Nodup
 out: ∀y∈x,y ∉ no
theorem vD.push {n:Int} {no x:List Int} {c:ba} (aF:1≤n) (h:vD n no x):vD n no (if((!(meets [cK n c] x))&&(!(meets [cK n c] no)))=true then x++[cK n c] else x):=by
 split
 ·rename_i e
  rw[Bool.and_eq_true,Bool.not_eq_true',Bool.not_eq_true',uI,uI] at e
  have bx:cK n c ∉ x:=by simpa using e.1
  have e2:cK n c ∉ no:=by simpa using e.2
  have aJ:=mZ n c
  refine⟨fun y br=> ?_,?_,fun y br=> ?_⟩
  ·rcases List.mem_append.1 br with br | br
   ·exact h.xt y br
   ·obtain rfl:=List.mem_singleton.1 br;exact⟨aJ.1,aJ.2 aF⟩
  ·rw[List.nodup_append]
   exact⟨h.w4,by simp,fun a a4 b hb e=>by obtain rfl:=List.mem_singleton.1 hb;subst e;exact bx a4⟩
  ·rcases List.mem_append.1 br with br | br
   ·exact h.out y br
   ·obtain rfl:=List.mem_singleton.1 br;exact e2
 ·exact h
theorem Qa {n:Int} {no:List Int} (aF:1≤n): ∀{k:Nat} {c:ba} {x:List Int} {q:Int},bW (q+2*k) c→0≤q→vD n no x→bW q (vd n no k c x).1∧vD n no (vd n no k c x).2∧(vd n no k c x).2.length≤x.length+k
 | 0,c,x,q,h,aj,hx=>⟨h.mono (by omega),hx,by show x.length≤_;omega⟩
 | k+1,c,x,q,h,aj,hx=>by
  have:=Qa aF (q:=q) (k:=k) (c:=bK n c) (bW.pick (h.mono (by omega)) (by omega)) aj (hx.push (c:=c) aF)
  refine⟨this.1,this.2.1,Nat.le_trans this.2.2 ?_⟩
  split<;>simp<;>omega
theorem xA {n m:Int} {no:List Int} {c:ba} {q:Int} (aF:1≤n) (h:bW (q+10) c) (aj:0≤q) (aT:0≤m) (bb:m≤4):bW q (h3 n m no c)∧vD n no (hr n m no c)∧(hr n m no c).length≤4:=by
 have kB:=P_ (c:=c) aT bb
 have:=Qa aF (no:=no) (k:=zQ m c) (c:=bK (IntKind.i64.wrap (m+1)) c) (x:=[]) (q:=q) (bW.pick (h.mono (by omega)) (by omega)) aj ⟨(by simp),List.nodup_nil,(by simp)⟩
 exact⟨this.1,this.2.1,Nat.le_trans this.2.2 (by simpa using kB)⟩
def z6 (p:az) (c:ba):ba:=bif decide ((p.O.length:Int)>0) then bK (p.O.length:Int) c else c
def z7 (p:az) (c:ba):ba:=bif decide (p.ai>0) then bK p.ai (z6 p c) else z6 p c
def z8 (p:az) (c:ba):ba:=bif decide ((p.be.length:Int)>0) then bK (p.be.length:Int) (z7 p c) else z7 p c
def g9 (p:az) (c:ba):ba:=bK 20 (z8 p c)
def fN (p:az) (c:ba):Int:=cK 20 (z8 p c)
def xQ (p:az) (c:ba):Int:=bif decide ((p.O.length:Int)>0) then cK (p.O.length:Int) c else 0
def xP (p:az) (c:ba):Int:=bif decide (p.ai>0) then cK p.ai (z6 p c) else 0
def kv (p:az) (c:ba):Int:=bif decide ((p.be.length:Int)>0) then cK (p.be.length:Int) (z7 p c) else 0
def xO (k:Int):Bool:=bif k==0 then k==0 else(bif k==1 then k==1 else(bif k==2 then k==2 else k==3))
def vt (k:Int):Bool:=bif k==13 then k==13 else(bif k==14 then k==14 else k==15)
def lK (a b k:Int):Bool:=bif k==a then k==a else k==b
theorem CW {a b k:Int} (h:lK a b k=true):k=a∨k=b:=by
 unfold lK at h
 cases e:k==a with
 | true=>left;simpa using e
 | false=>rw[e] at h;right;simpa using h
theorem SD {k:Int} (h:vt k=true):k=13∨k=14∨k=15:=by
 unfold vt at h
 cases e:k==13 with
 | true=>left;simpa using e
 | false=>
  rw[e] at h
  cases e:k==14 with
  | true=>right;left;simpa using e
  | false=>rw[e] at h;right;right;simpa using h
theorem afp {k:Int} (h:xO k=true):k=0∨k=1∨k=2∨k=3:=by
 unfold xO at h
 cases e:k==0 with
 | true=>left;simpa using e
 | false=>
  rw[e] at h
  cases e:k==1 with
  | true=>right;left;simpa using e
  | false=>
   rw[e] at h
   cases e:k==2 with
   | true=>right;right;left;simpa using e
   | false=>rw[e] at h;right;right;right;simpa using h
def vm (p:az) (f:Frame) (i:Int):Nat→Int→Option Event
 | 0,_=>none
 | m+1,k=>
  if(((nth f.O i).aq==4)&&((nth f.au (nth (nth p.O i).ai k))&&((k==IntKind.i64.wrap (((nth p.O i).ai.length:Int) - 1)) || (nth f.au (nth (nth p.O i).ai (IntKind.i64.wrap (k+1)))))))=true then some ⟨4,nth (nth p.O i).ai k,0⟩
  else if((decide (k ≥ (nth f.O i).af))&&(!(nth (nth f.O i).ac k)))=true then some ⟨3,nth (nth p.O i).ai k,0⟩
  else vm p f i m (k+1)
def xI (p:az) (f:Frame):Nat→Int→Event
 | 0,_=>⟨1,0,0⟩
 | m+1,i=>if(((nth f.O i).aq==0) || ((nth f.O i).aq==1))=true then xI p f m (i+1) else
  match vm p f i (nth p.O i).ai.length 0 with
  | some e=>e
  | none=>xI p f m (i+1)
def pZ (p:az) (f:Frame) (c:ba):Event:=xI p f f.O.length 0
def z0 (p:az) (f:Frame) (c:ba):ba:=c
def Ja (p:az) (f:Frame) (c:ba):Prop:=tq p f
def Eb (p:az) (f:Frame) (c:ba):Prop:=tq p f∧bW 10 c
def eL (p:az) (f:Frame) (c:ba):ba:=
 if fN p c=10 then bK 2 (g9 p c) else if fN p c=16 then bK 3 (g9 p c) else g9 p c
def fo (p:az) (f:Frame) (c:ba):Event:=
 bif xO (fN p c) then⟨1,xQ p c,0⟩ else bif lK 4 5 (fN p c) then⟨2,xQ p c,0⟩ else bif lK 6 7 (fN p c) then⟨3,xP p c,0⟩ else bif lK 8 9 (fN p c) then⟨4,xP p c,0⟩
 else bif fN p c==10 then⟨6,kv p c,IntKind.i64.wrap (1+cK 2 (g9 p c))⟩ else bif lK 11 12 (fN p c) then⟨7,0,0⟩
 else bif vt (fN p c) then(bif decide ((f.an.length:Int)>kv p c) then⟨5,kv p c,(nth f.an (kv p c)).cC⟩ else pZ p f (g9 p c))
 else bif fN p c==16 then⟨5,kv p c,cK 3 (g9 p c)⟩ else pZ p f (g9 p c)
def GJ (p:az) (c:ba):Prop:=bW 8 c
def oV (p:az) (c:ba):ba:=bK 2 (bK 4 (bK 8 (bK 9 c)))
def iC (p:az) (c:ba):Event:=⟨cK 9 c,IntKind.i64.wrap (cK 8 (bK 9 c) - 1),bif cK 2 (bK 4 (bK 8 (bK 9 c)))==0 then 0 else IntKind.i64.wrap (cK 4 (bK 8 (bK 9 c)) - 1)⟩
theorem bW.xc {k:Int} {c:ba} {n:Int} {b:Bool} (h:bW (k+2) c) (hk:0≤k):bW k (bif b then bK n c else c):=by
 cases b with
 | true=>exact h.pick hk
 | false=>exact h.mono (by omega)
theorem afq {p:az} {c:ba} {k:Int} (h:bW (k+6) c) (hk:0≤k):bW k (z8 p c):=
 bW.xc (bW.xc (k:=k+2) (bW.xc (k:=k+2+2) (h.mono (by omega)) (by omega)) (by omega)) hk
theorem afr {p:az} {c:ba} {k:Int} (h:bW (k+8) c) (hk:0≤k):bW k (g9 p c):=
 bW.pick (afq (k:=k+2) (h.mono (by omega)) (by omega)) hk
theorem KI {p:az} {f:Frame} {c:ba} {k:Int} (h:bW (k+10) c) (hk:0≤k):bW k (eL p f c):=by
 have bb:=afr (p:=p) (k:=k+2) (h.mono (by omega)) (by omega)
 unfold eL
 split
 ·exact bb.pick hk
 ·split
  ·exact bb.pick hk
  ·exact bb.mono (by omega)
theorem aaq {p:az} {c:ba} {k:Int} (h:bW (k+8) c) (hk:0≤k):bW k (oV p c):=
 bW.pick (bW.pick (k:=k+2) (bW.pick (k:=k+2+2) (bW.pick (k:=k+2+2+2) (h.mono (by omega)) (by omega)) (by omega)) (by omega)) hk
def dm (c:ba):Int:=IntKind.i64.wrap (2+cK 6 c)
def uY (c:ba):Int:=IntKind.i64.wrap (1+cK 6 (bK 6 c))
theorem Ce (c:ba):2≤dm c∧dm c≤7:=by
 have h:=mZ 6 c
 have:=h.2 (by omega)
 unfold dm;rw[fm (by omega) (by omega)];omega
theorem aaJ (c:ba):1≤uY c∧uY c≤6:=by
 have h:=mZ 6 (bK 6 c)
 have:=h.2 (by omega)
 unfold uY;rw[fm (by omega) (by omega)];omega
def ts (n:Int):Nat→ba→List Int→ba×List Int
 | 0,c,x=>(c,x)
 | k+1,c,x=>ts n k (bK n c) (x++[cK n c])
theorem Sg {n:Int} (aF:1≤n): ∀{k:Nat} {c:ba} {x:List Int} {q:Int},bW (q+2*k) c→0≤q→(∀y∈x,0≤y∧y<n)→
  bW q (ts n k c x).1∧(∀y∈(ts n k c x).2,0≤y∧y<n)∧(ts n k c x).2.length=x.length+k
 | 0,c,x,q,h,aj,hx=>⟨h.mono (by omega),hx,rfl⟩
 | k+1,c,x,q,h,aj,hx=>by
  have:=Sg aF (q:=q) (k:=k) (c:=bK n c) (x:=x++[cK n c]) (bW.pick (h.mono (by omega)) (by omega)) aj (fun y br=>by
   rcases List.mem_append.1 br with br | br
   ·exact hx y br
   ·obtain rfl:=List.mem_singleton.1 br;exact⟨(mZ n c).1,(mZ n c).2 aF⟩)
  refine⟨this.1,this.2.1,this.2.2.trans ?_⟩
  simp;omega
def gy (c:ba):ba×List Int:=ts (dm c) (cK 4 (bK 6 (bK 6 c))).toNat (bK 4 (bK 6 (bK 6 c))) []
theorem OD {c:ba} {q:Int} (h:bW (q+12) c) (aj:0≤q):bW q (gy c).1∧(∀y∈(gy c).2,0≤y∧y<dm c)∧(gy c).2.length≤3:=by
 have hv:=mZ 4 (bK 6 (bK 6 c))
 have:=hv.2 (by omega)
 have aO:bW (q+6) (bK 4 (bK 6 (bK 6 c))):=bW.pick (bW.pick (k:=q+6+2) (bW.pick (k:=q+6+2+2) (h.mono (by omega)) (by omega)) (by omega)) (by omega)
 have:=Sg (n:=dm c) (by have:=Ce c;omega) (k:=(cK 4 (bK 6 (bK 6 c))).toNat) (x:=[]) (aO.mono (l:=q+2*((cK 4 (bK 6 (bK 6 c))).toNat:Nat)) (by omega)) aj (by simp)
 exact⟨this.1,this.2.1,by show(ts _ _ _ _).2.length≤3;rw[this.2.2];simp;omega⟩
def jH (n:Int) (c:ba):ba×List Int:=if(((hr n 4 [] c).length:Int)==0)=true then(bK n (h3 n 4 [] c),[cK n (h3 n 4 [] c)]) else(h3 n 4 [] c,hr n 4 [] c)
structure S2 (n:Int) (x:List Int):Prop where
 ne:x≠[]
 len:x.length≤4
 xt: ∀y∈x,0≤y∧y<n
 w4:x.Nodup
theorem PE {n:Int} {c:ba} {q:Int} (aF:1≤n) (h:bW (q+12) c) (aj:0≤q):bW q (jH n c).1∧S2 n (jH n c).2:=by
 have hs:=xA (no:=[]) aF (h.mono (l:=q+2+10) (by omega)) (by omega) (m:=4) (by omega) (by omega)
 have hv:=mZ n (h3 n 4 [] c)
 unfold jH
 split
 ·exact⟨bW.pick hs.1 aj,by simp,by simp,fun y br=>by obtain rfl:=List.mem_singleton.1 br;exact⟨hv.1,hv.2 aF⟩,by simp⟩
 ·rename_i aL
  exact⟨hs.1.mono (by omega),fun e=>aL (by replace e:hr n 4 [] c=[]:=e;rw[e];rfl),hs.2.2,hs.2.1.xt,hs.2.1.w4⟩
def oc (sw ss:List Int):Nat→Int→ba→List cx→List cx→ba×List cx×List cx
 | 0,_,c,x,y=>(c,x,y)
 | k+1,v,c,x,y=>if meets [nth sw v] ss=true then oc sw ss k (v+1) (bK 2 c) (x++[⟨v,IntKind.i64.wrap (1+cK 2 c)⟩]) y
  else if(cK 3 c==0)=true then oc sw ss k (v+1) (bK 2 (bK 3 c)) x (y++[⟨v,IntKind.i64.wrap (1+cK 2 (bK 3 c))⟩])
  else oc sw ss k (v+1) (bK 3 c) x y
structure pb (sw ss:List Int) (v:Int) (x y:List cx):Prop where
 rx: ∀l∈x,(0≤l.sw∧l.sw<v)∧(1≤l.bk∧l.bk≤2)∧ss.contains (nth sw l.sw)=true
 qV: ∀l∈y,(0≤l.sw∧l.sw<v)∧(1≤l.bk∧l.bk≤2)
 uM:(x.map (·.sw)).Nodup
 uN:(y.map (·.sw)).Nodup
 w7: ∀a∈x,∀b∈y,a.sw≠b.sw
 oT:(x.length:Int)+y.length≤v
theorem Oe {x:List cx} {v t:Int} (h:(x.map (·.sw)).Nodup) (aL: ∀l∈x,l.sw<v):((x++[cx.mk v t]).map (·.sw)).Nodup:=by
 rw[List.map_append,List.nodup_append]
 refine⟨h,by simp,fun a a4 b hb e=> ?_⟩
 obtain⟨l,hm,rfl⟩:=List.mem_map.1 a4
 have hb:b=v:=by simpa using hb
 have:=aL l hm
 omega
theorem NS (c:ba):1≤IntKind.i64.wrap (1+cK 2 c)∧IntKind.i64.wrap (1+cK 2 c)≤2:=by
 have h:=mZ 2 c
 have:=h.2 (by omega)
 rw[fm (by omega) (by omega)];omega
theorem pb.up {sw ss:List Int} {v:Int} {x y:List cx} (h:pb sw ss v x y):pb sw ss (v+1) x y:=
 ⟨fun l aL=>⟨⟨(h.rx l aL).1.1,by have:=(h.rx l aL).1.2;omega⟩,(h.rx l aL).2⟩,fun l aL=>⟨⟨(h.qV l aL).1.1,by have:=(h.qV l aL).1.2;omega⟩,(h.qV l aL).2⟩,h.uM,h.uN,h.w7,by have:=h.oT;omega⟩
theorem pb.aaV {sw ss:List Int} {v t:Int} {x y:List cx} (h:pb sw ss v x y) (aT:0≤v) (bp:1≤t∧t≤2) (hc:ss.contains (nth sw v)=true):pb sw ss (v+1) (x++[⟨v,t⟩]) y where
 rx:=fun l aL=>by
  rcases List.mem_append.1 aL with aL | aL
  ·exact h.up.rx l aL
  ·obtain rfl:=List.mem_singleton.1 aL;exact⟨⟨aT,by show v<v+1;omega⟩,bp,hc⟩
 qV:=h.up.qV
 uM:=Oe h.uM fun l aL=>(h.rx l aL).1.2
 uN:=h.uN
 w7:=fun a a4 b hb=>by
  rcases List.mem_append.1 a4 with a4 | a4
  ·exact h.w7 a a4 b hb
  ·obtain rfl:=List.mem_singleton.1 a4
   have:=(h.qV b hb).1.2
   show v≠b.sw;omega
 oT:=by have:=h.oT;simp;omega
theorem pb.aaW {sw ss:List Int} {v t:Int} {x y:List cx} (h:pb sw ss v x y) (aT:0≤v) (bp:1≤t∧t≤2):pb sw ss (v+1) x (y++[⟨v,t⟩]) where
 rx:=h.up.rx
 qV:=fun l aL=>by
  rcases List.mem_append.1 aL with aL | aL
  ·exact h.up.qV l aL
  ·obtain rfl:=List.mem_singleton.1 aL;exact⟨⟨aT,by show v<v+1;omega⟩,bp⟩
 uM:=h.uM
 uN:=Oe h.uN fun l aL=>(h.qV l aL).1.2
 w7:=fun a a4 b hb=>by
  rcases List.mem_append.1 hb with hb | hb
  ·exact h.w7 a a4 b hb
  ·obtain rfl:=List.mem_singleton.1 hb
   have:=(h.rx a a4).1.2
   show a.sw≠v;omega
 oT:=by have:=h.oT;simp;omega
theorem BR {sw ss:List Int}: ∀{k:Nat} {v:Int} {c:ba} {x y:List cx} {q:Int},0≤v→bW (q+4*k) c→0≤q→pb sw ss v x y→
  bW q (oc sw ss k v c x y).1∧pb sw ss (v+k) (oc sw ss k v c x y).2.1 (oc sw ss k v c x y).2.2
 | 0,v,c,x,y,q,aT,h,aj,hx=>⟨h.mono (by omega),by rw[show v+((0:Nat):Int)=v by omega];exact hx⟩
 | k+1,v,c,x,y,q,aT,h,aj,hx=>by
  have e:v+((k+1:Nat):Int)=(v+1)+(k:Nat):=by omega
  rw[e]
  unfold oc
  split
  ·rename_i hm
   rw[uI] at hm
   exact BR (by omega) (bW.pick (h.mono (by omega)) (by omega)) aj (hx.aaV aT (NS c) hm)
  ·split
   ·exact BR (by omega) (bW.pick (bW.pick (k:=q+4*k+2) (h.mono (by omega)) (by omega)) (by omega)) aj (hx.aaW aT (NS _))
   ·exact BR (by omega) (bW.pick (h.mono (by omega)) (by omega)) aj hx.up
def y8 (n:Int) (sw:List Int) (c:ba):ba×List cx×List cx:=oc sw (jH n c).2 sw.length 0 (h3 n 2 (jH n c).2 (h3 n 2 (jH n c).2 (jH n c).1)) [] []
def vr (n:Int) (sw:List Int) (c:ba):ba×Way:=
 ((y8 n sw c).1,Way.mk (jH n c).2 (y8 n sw c).2.1 (y8 n sw c).2.2 (hr n 2 (jH n c).2 (jH n c).1) (hr n 2 (jH n c).2 (h3 n 2 (jH n c).2 (jH n c).1)))
theorem aac {a b:List Int} (h: ∀y∈b,y ∉ a):meets a b=false:=by
 unfold meets
 rw[List.any_eq_false]
 intro x hx e
 exact h x (by simpa using e) hx
theorem afb {n:Int} {sw:List Int} {c:ba} {q:Int} (aF:1≤n) (aL:sw.length≤3) (h:bW (q+44) c) (aj:0≤q):bW q (vr n sw c).1∧ ∀p:az,p.ai=n→p.be=sw→gW p (vr n sw c).2=true:=by
 have h1:=PE aF (h.mono (l:=q+32+12) (by omega)) (by omega)
 have h2:=xA (no:=(jH n c).2) aF (h1.1.mono (l:=q+22+10) (by omega)) (by omega) (m:=2) (by omega) (by omega)
 have aO:=xA (no:=(jH n c).2) aF (h2.1.mono (l:=q+12+10) (by omega)) (by omega) (m:=2) (by omega) (by omega)
 have bb:=BR (sw:=sw) (ss:=(jH n c).2) (k:=sw.length) (v:=0) (x:=[]) (y:=[]) (Int.le_refl _) (aO.1.mono (l:=q+4*(sw.length:Nat)) (by omega)) aj ⟨(by simp),(by simp),(by simp),(by simp),(by simp),(by simp)⟩
 refine⟨bb.1,fun p aG hs=> ?_⟩
 have bb:=bb.2
 subst aG;subst hs
 have hi: ∀x:Int,0≤x∧x<p.ai→bY x 0 (p.ai - 1)=true:=fun x hx=>iB.2 (by omega)
 have oT:=bb.oT
 rw[ow]
 refine⟨h1.2.ne,qI.2 ⟨by have:=h1.2.len;show(jH _ c).2.length≤30;omega,fun x hx=>hi x (h1.2.xt x hx),h1.2.w4⟩,qI.2 ⟨by have:=h2.2.2;show(hr _ _ _ _).length≤30;omega,fun x hx=>hi x (h2.2.1.xt x hx),h2.2.1.w4⟩,
  qI.2 ⟨by have:=aO.2.2;show(hr _ _ _ _).length≤30;omega,fun x hx=>hi x (aO.2.1.xt x hx),aO.2.1.w4⟩,mm.2 ⟨by show(oc _ _ _ _ _ _ _).2.1.length≤30;omega,fun l qt=> ?_,bb.uM⟩,mm.2 ⟨by show(oc _ _ _ _ _ _ _).2.2.length≤30;omega,fun l qt=> ?_,bb.uN⟩,BZ.2 ⟨bb.uM,bb.uN,bb.w7⟩,fun l qt=>(bb.rx l qt).2.2,aac h2.2.1.out⟩
 ·have:=bb.rx l qt
  rw[Bool.and_eq_true,iB,iB];omega
 ·have:=bb.qV l qt
  rw[Bool.and_eq_true,iB,iB];omega
def tz (n:Int) (sw:List Int):Nat→ba→List Way→ba×List Way
 | 0,c,x=>(c,x)
 | k+1,c,x=>tz n sw k (vr n sw c).1 (x++[(vr n sw c).2])
theorem SB {n:Int} {sw:List Int} (aF:1≤n) (aL:sw.length≤3): ∀{k:Nat} {c:ba} {x:List Way} {q:Int},bW (q+44*k) c→0≤q→(∀w∈x,∀p:az,p.ai=n→p.be=sw→gW p w=true)→
  bW q (tz n sw k c x).1∧(∀w∈(tz n sw k c x).2,∀p:az,p.ai=n→p.be=sw→gW p w=true)∧(tz n sw k c x).2.length=x.length+k
 | 0,c,x,q,h,aj,hx=>⟨h.mono (by omega),hx,rfl⟩
 | k+1,c,x,q,h,aj,hx=>by
  have hw:=afb aF aL (h.mono (l:=q+44*k+44) (by omega)) (by omega)
  have:=SB aF aL (k:=k) (x:=x++[(vr n sw c).2]) hw.1 aj (fun y br=>by
   rcases List.mem_append.1 br with br | br
   ·exact hx y br
   ·obtain rfl:=List.mem_singleton.1 br;exact hw.2)
  refine⟨this.1,this.2.1,this.2.2.trans ?_⟩
  simp;omega
def eE (c:ba):ba×List Way:=tz (dm c) (gy c).2 (IntKind.i64.wrap (1+cK 5 (gy c).1)).toNat (bK 5 (gy c).1) []
theorem KW (c:ba):1≤IntKind.i64.wrap (1+cK 5 c)∧IntKind.i64.wrap (1+cK 5 c)≤5:=by
 have h:=mZ 5 c
 have:=h.2 (by omega)
 rw[fm (by omega) (by omega)];omega
theorem aaK {c:ba} {q:Int} (h:bW (q+234) c) (aj:0≤q):bW q (eE c).1∧(∀w∈(eE c).2,∀p:az,p.ai=dm c→p.be=(gy c).2→gW p w=true)∧(eE c).2.length≤5:=by
 have hs:=OD (h.mono (l:=q+222+12) (by omega)) (by omega)
 have cb:=KW (gy c).1
 have bg:bW (q+44*((IntKind.i64.wrap (1+cK 5 (gy c).1)).toNat:Nat)) (bK 5 (gy c).1):=(bW.pick (k:=q+220) (hs.1.mono (by omega)) (by omega)).mono (by omega)
 have:=SB (n:=dm c) (sw:=(gy c).2) (by have:=Ce c;omega) hs.2.2 (x:=[]) bg aj (by simp)
 exact⟨this.1,this.2.1,by show(tz _ _ _ _ _).2.length≤5;rw[this.2.2];simp;omega⟩
def pV (ws:List Way) (bs:List (List Bool)) (i:Int):Nat→Int→ba→List Bool→ba×List Bool
 | 0,_,c,r=>(c,r)
 | m+1,k,c,r=>if decide (k<i)=true then pV ws bs i m (k+1) c (r.set k.toNat (nth (nth bs k) i))
  else if(i==k)=true then pV ws bs i m (k+1) c (r.set k.toNat true)
  else if meets (nth ws i).ai (nth ws k).ai=true then pV ws bs i m (k+1) c (r.set k.toNat true)
  else pV ws bs i m (k+1) (bK 4 c) (r.set k.toNat (cK 4 c==0))
structure tF (ws:List Way) (bs:List (List Bool)) (i k:Int) (r:List Bool):Prop where
 len:r.length=ws.length
 lt: ∀j:Int,0≤j→j<k→j<i→nth r j=nth (nth bs j) i
 gt: ∀j:Int,0≤j→j<k→i<j→meets (nth ws i).ai (nth ws j).ai=true→nth r j=true
theorem tF.set {ws:List Way} {bs:List (List Bool)} {i k:Int} {r:List Bool} (h:tF ws bs i k r) (aT:0≤k) (h1:k<ws.length) {b:Bool} (hb:(k<i→b=nth (nth bs k) i)∧(i<k→meets (nth ws i).ai (nth ws k).ai=true→b=true)):tF ws bs i (k+1) (r.set k.toNat b):=by
 have aL:=h.len
 refine⟨by rw[List.length_set];exact h.len,fun j cq fc a9=> ?_,fun j cq fc a9 hm=> ?_⟩
 ·rw[uL aT cq (by omega)]
  split
  ·rename_i e;subst e;exact hb.1 a9
  ·exact h.lt j cq (by omega) a9
 ·rw[uL aT cq (by omega)]
  split
  ·rename_i e;subst e;exact hb.2 a9 hm
  ·exact h.gt j cq (by omega) a9 hm
theorem zD {ws:List Way} {bs:List (List Bool)} {i:Int}: ∀{m:Nat} {k:Int} {c:ba} {r:List Bool} {q:Int},bW (q+2*m) c→0≤q→0≤k→k+m=ws.length→tF ws bs i k r→bW q (pV ws bs i m k c r).1∧tF ws bs i ws.length (pV ws bs i m k c r).2
 | 0,k,c,r,q,h,aj,aT,he,aJ=>⟨h.mono (by omega),by rw[←he,show k+((0:Nat):Int)=k by omega];exact aJ⟩
 | m+1,k,c,r,q,h,aj,aT,he,aJ=>by
  unfold pV
  split
  ·rename_i hk
   have hk:k<i:=by simpa using hk
   exact zD (h.mono (by omega)) aj (by omega) (by omega) (aJ.set aT (by omega) ⟨fun _=>rfl,fun _=>by omega⟩)
  ·rename_i hk
   have hk: ¬k<i:=by simpa using hk
   split
   ·rename_i LI
    have LI:i=k:=by simpa using LI
    exact zD (h.mono (by omega)) aj (by omega) (by omega) (aJ.set aT (by omega) ⟨fun _=>by omega,fun _ _=>rfl⟩)
   ·split
    ·exact zD (h.mono (by omega)) aj (by omega) (by omega) (aJ.set aT (by omega) ⟨fun _=>by omega,fun _ _=>rfl⟩)
    ·rename_i hm
     exact zD (bW.pick (h.mono (by omega)) (by omega)) aj (by omega) (by omega) (aJ.set aT (by omega) ⟨fun _=>by omega,fun _ e=>absurd e hm⟩)
def zE (ws:List Way) (bs:List (List Bool)) (i:Int) (c:ba):ba×List Bool:=pV ws bs i ws.length 0 c (List.replicate (ws.length:Int).toNat false)
def tM (ws:List Way):Nat→Int→ba→List (List Bool)→ba×List (List Bool)
 | 0,_,c,bs=>(c,bs)
 | m+1,i,c,bs=>tM ws m (i+1) (zE ws bs i c).1 (bs++[(zE ws bs i c).2])
structure vy (ws:List Way) (i:Int) (bs:List (List Bool)):Prop where
 len:(bs.length:Int)=i
 row: ∀j:Int,0≤j→j<i→(nth bs j).length=ws.length
 sym: ∀a b:Int,0≤b→b<a→a<i→nth (nth bs a) b=nth (nth bs b) a
 mt: ∀a b:Int,0≤a→a<b→a<i→b<ws.length→meets (nth ws a).ai (nth ws b).ai=true→nth (nth bs a) b=true
theorem GG {α:Type} [Inhabited α] {xs:List α} {x:α} {j:Int} (aT:0≤j):nth (xs++[x]) j=if j<xs.length then nth xs j else if j=xs.length then x else default:=by
 unfold nth
 rw[List.getD_eq_getElem?_getD,List.getD_eq_getElem?_getD]
 split
 ·rw[List.getElem?_append_left (by omega)]
 ·split
  ·rw[List.getElem?_append_right (by omega),show j.toNat - xs.length=0 by omega];rfl
  ·rw[List.getElem?_eq_none (by simp;omega)];rfl
theorem abq {ws:List Way} {bs:List (List Bool)} {i:Int} {c:ba} {q:Int} (h:bW (q+10) c) (aj:0≤q) (hw:ws.length≤5):bW q (zE ws bs i c).1∧tF ws bs i ws.length (zE ws bs i c).2:=
 zD (h.mono (by omega)) aj (Int.le_refl _) (by omega) ⟨by simp,fun j cq fc=>by omega,fun j cq fc=>by omega⟩
theorem vy.push {ws:List Way} {i:Int} {bs:List (List Bool)} {r:List Bool} (h:vy ws i bs) (aT:0≤i) (aJ:tF ws bs i ws.length r) (hi:i<ws.length):vy ws (i+1) (bs++[r]):=by
 have aL:=h.len
 have mY: ∀j:Int,0≤j→j<i→nth (bs++[r]) j=nth bs j:=fun j cq fc=>by rw[GG cq,if_pos (by omega)]
 have new:nth (bs++[r]) i=r:=by rw[GG aT,if_neg (by omega),if_pos (by omega)]
 refine⟨by simp;omega,fun j cq fc=> ?_,fun a b x3 Dd ag=> ?_,fun a b J ao ag JX hm=> ?_⟩
 ·by_cases e:j=i
  ·subst e;rw[new];exact aJ.len
  ·rw[mY j cq (by omega)];exact h.row j cq (by omega)
 ·rw[mY b x3 (by omega)]
  by_cases e:a=i
  ·subst e;rw[new];exact aJ.lt b x3 (by omega) Dd
  ·rw[mY a (by omega) (by omega)];exact h.sym a b x3 Dd (by omega)
 ·by_cases e:a=i
  ·subst e;rw[new];exact aJ.gt b (by omega) JX ao hm
  ·rw[mY a (by omega) (by omega)];exact h.mt a b J ao (by omega) JX hm
theorem JZ {ws:List Way} (hw:ws.length≤5): ∀{m:Nat} {i:Int} {c:ba} {bs:List (List Bool)} {q:Int},bW (q+10*m) c→0≤q→0≤i→i+m=ws.length→vy ws i bs→bW q (tM ws m i c bs).1∧vy ws ws.length (tM ws m i c bs).2
 | 0,i,c,bs,q,h,aj,aT,he,hb=>⟨h.mono (by omega),by rw[←he,show i+((0:Nat):Int)=i by omega];exact hb⟩
 | m+1,i,c,bs,q,h,aj,aT,he,hb=>by
  have aJ:=abq (ws:=ws) (bs:=bs) (i:=i) (h.mono (l:=q+10*m+10) (by omega)) (by omega) hw
  exact JZ (m:=m) hw aJ.1 aj (by omega) (by omega) (hb.push aT aJ.2 (by omega))
def uX (c:ba):ba×List (List Bool):=tM (eE c).2 (eE c).2.length 0 (eE c).1 []
def qN (c:ba):ba:=(uX c).1
def lv (c:ba):az:=⟨dm c,(gy c).2,(eE c).2,(uX c).2,uY c⟩
def GX (c:ba):Prop:=bW 300 c
theorem aaM {p:az} (hb:kN p=true) (hs: ∀s∈p.be,bY s 0 (p.ai - 1)=true) (hw: ∀w∈p.O,gW p w=true) (aL:p.bU.length=p.O.length)
  (aJ: ∀b∈p.bU,b.length=p.O.length) (aj: ∀i k:Nat,i<p.O.length→k<p.O.length→nQ p i k=false):ek p=true:=by
 have none: ∀{α:Type} {xs:List α} {q:α→Bool},(∀x∈xs,q x=false)→first xs q=none:=fun h=>by unfold first;rw[List.findIdx?_eq_none_iff];exact h
 have:hJ p=⟨0,0⟩:=by
  rw[GV hb (none fun s m=>by rw[hs s m];rfl) (none fun w m=>by rw[hw w m];rfl)]
  refine GS aL (none fun b m=>by rw[aJ b m];simp) (none fun i m=> ?_)
  rw[List.any_eq_false]
  intro k hk
  rw[aj i k (List.mem_range.1 m) (List.mem_range.1 hk)];simp
 unfold ek;rw[this];rfl
theorem OK {c:ba} {q:Int} (h:bW (q+300) c) (aj:0≤q):bW q (qN c)∧ek (lv c)=true:=by
 have mO:=Ce c
 have aR:=aaJ c
 have h1:=OD (h.mono (l:=q+288+12) (by omega)) (by omega)
 have h2:=aaK (h.mono (l:=q+66+234) (by omega)) (by omega)
 have aO:=JZ h2.2.2 (m:=(eE c).2.length) (i:=0) (bs:=[]) (q:=q) (h2.1.mono (by have:=h2.2.2;omega)) aj (Int.le_refl _) (by omega) ⟨rfl,fun j cq fc=>by omega,fun a b x3 Dd ag=>by omega,fun a b J ao ag=>by omega⟩
 refine⟨aO.1,?_⟩
 have ed:vy (eE c).2 (eE c).2.length (uX c).2:=aO.2
 have hlen:=ed.len
 refine aaM (r6.2 ⟨by show 1≤dm c∧dm c≤60;omega,by show 1≤uY c∧uY c≤300;omega,by have:=h1.2.2;show(gy c).2.length≤40;omega,by have:=h2.2.2;show(eE c).2.length≤100;omega⟩) (fun s hs=>iB.2 ?_) (fun w hw=>h2.2.1 w hw _ rfl rfl) (by show(uX c).2.length=(eE c).2.length;omega) (fun b hb=> ?_) fun i k hi hk=> ?_
 ·have:=h1.2.1 s hs
  show 0≤s∧s≤dm c - 1;omega
 ·obtain⟨j,aM,rfl⟩:=List.mem_iff_getElem.1 hb
  have n8:j<(uX c).2.length:=aM
  have:=ed.row j (by omega) (by omega)
  rw[iT n8] at this;exact this
 ·have hi:i<(eE c).2.length:=hi
  have hk:k<(eE c).2.length:=hk
  have oE: ∀a b:Nat,rk (lv c) a b=nth (nth (uX c).2 a) b:=fun _ _=>rfl
  have afl: ∀a:Nat,(lv c).O=(eE c).2:=fun _=>rfl
  unfold nQ
  rw[oE,oE,afl 0]
  rcases Nat.lt_trichotomy i k with bc | rfl | pA
  ·have hs:=ed.sym k i (by omega) (by omega) (by omega)
   have hm:=ed.mt i k (by omega) (by omega) (by omega) (by omega)
   rw[hs]
   cases e:meets (nth (eE c).2 i).ai (nth (eE c).2 k).ai with
   | true=>rw[hm e];simp
   | false=>simp
  ·simp
  ·have hs:=ed.sym i k (by omega) (by omega) (by omega)
   have hm:=ed.mt k i (by omega) (by omega) (by omega) (by omega)
   rw[hs]
   cases e:meets (nth (eE c).2 i).ai (nth (eE c).2 k).ai with
   | true=>rw[N3] at e;rw[hm e];simp
   | false=>simp
def qU (p:az) (f:Frame) (c:ba):Event×ba:=
 bif cK 30 (eL p f c)==0 then(iC p (bK 30 (eL p f c)),oV p (bK 30 (eL p f c))) else(fo p f c,bK 30 (eL p f c))
def sd (p:az):Nat→Frame→ba→List Event→ba×List Event
 | 0,_,c,x=>(c,x)
 | k+1,f,c,x=>sd p k (lD p f (qU p f c).1).frame (qU p f c).2 (x++[(qU p f c).1])
def DT (p:az) (m:Int) (c:ba):ba×List Event:=sd p (cK m c).toNat (ei p) (bK m c) []
def ye (p:az) (m:Int) (c:ba):ba:=(DT p m c).1
def sx (p:az) (m:Int) (c:ba):List Event:=(DT p m c).2
def AI (p:az) (m:Int) (c:ba):Prop:=ek p=true∧bW 1000 c∧1≤m∧m≤50
theorem abt {p:az} {f:Frame} {c:ba} {k:Int} (h:bW (k+20) c) (hk:0≤k):bW k (qU p f c).2:=by
 have h1:=KI (p:=p) (f:=f) (h.mono (l:=k+10+10) (by omega)) (by omega)
 have h2:=bW.pick (n:=30) (h1.mono (l:=k+8+2) (by omega)) (by omega)
 unfold qU
 cases cK 30 (eL p f c)==0 with
 | true=>exact aaq (p:=p) h2 hk
 | false=>exact h2.mono (by omega)
theorem Pr {p:az} {f:Frame} {d vS:ba} {x:List Event} {v:Int} {R:ba×List Event} {e:Event} (hf:dy p f=true) (aT:0<v) (bg:bW (20*v) d) (he:sd p v.toNat f d x=R) (hR:qU p f d=(e,vS)):
  bW (20*(v - 1)) vS∧(((ef p f e).code !=1)=true→dy p (ef p f e).frame=true∧sd p (v - 1).toNat (ef p f e).frame vS (x++[e])=R)∧(((ef p f e).code !=1)=false→sd p (v - 1).toNat f vS (x++[e])=R):=by
 have h1:=abt (p:=p) (f:=f) (bg.mono (l:=20*(v - 1)+20) (by omega)) (by omega)
 have h2:=(IU (e:=e) hf).2
 rw[show v.toNat=(v - 1).toNat+1 by omega] at he
 unfold sd at he
 rw[hR] at h1 he
 refine⟨h1,fun hc=> ?_,fun hc=> ?_⟩
 ·have hc:(ef p f e).code≠1:=by simpa using hc
  unfold lD at h2 he
  rw[if_neg hc] at h2 he
  exact⟨h2,he⟩
 ·have hc:(ef p f e).code=1:=by simpa using hc
  unfold lD at he
  rw[if_pos hc] at he
  exact he
theorem Pn (p:az): ∀(k:Nat) (f:Frame) (c:ba) (x:List Event),(sd p k f c x).2.length=x.length+k
 | 0,_,_,x=>rfl
 | k+1,f,c,x=>(Pn p k _ _ _).trans (by simp;omega)
theorem Uw {p:az} {c:ba} {m:Int} (h1:1≤m) (h2:m≤50):(sx p m c).length≤49:=by
 have:=(mZ m c).2 h1
 show(sd p _ _ _ _).2.length≤49
 rw[Pn];simp;omega
theorem GM {p:az} {f:Frame} (h:dy p f=true):hM f:=by
 have hf:=(mf h).fr
 have aG:=(mf h).in
 have aC:=hf.au
 have aj:=hf.an
 have hw:=hf.O
 have h1:=aG.cZ
 have h2:=aG.O
 have aO:=aG.sw
 refine⟨by omega,by omega,by omega,fun h hm=> ?_⟩
 obtain⟨i,hi,rfl⟩:=List.mem_iff_getElem.1 hm
 have hb:=hf.ac i f.O[i] (p.O[i]'(by omega)) (List.getElem?_eq_getElem hi) (List.getElem?_eq_getElem (by omega))
 have:=(aG.ai _ (List.getElem_mem (l:=p.O) (n:=i) (by omega))).2.1
 omega
def vU (code:List UInt8):ba:=⟨code,0,0⟩
def ph (code:List UInt8):az×List Event:=(lv (vU code),sx (lv (vU code)) 50 (qN (vU code)))
theorem DQ (code:List UInt8):bW 1300 (vU code):=⟨Int.le_refl _,by show(0:Int)+1300≤_;omega⟩
theorem Kk (code:List UInt8):ek (ph code).1=true:=(OK (q:=1000) (DQ code) (by omega)).2
theorem Us (code:List UInt8):AI (lv (vU code)) 50 (qN (vU code)):=⟨Kk code,(OK (q:=1000) (DQ code) (by omega)).1,by omega,by omega⟩
theorem Ur (code:List UInt8):(ph code).2.length≤49:=Uw (by omega) (by omega)
end Go.Proofs.Ytglpfccgmfhkdaa.Fw
