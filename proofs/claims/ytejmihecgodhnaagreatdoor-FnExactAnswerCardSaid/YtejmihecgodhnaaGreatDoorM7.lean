/- Walks and summaries of functions, printed by a program of mine (tools/mk2.py), with the proofs of what they owe. -/
import Derived.Test.YtejmihecgodhnaaGreatDoorM6
set_option linter.unusedVariables false
set_option maxRecDepth 100000
set_option maxHeartbeats 4000000
set_option linter.unusedSimpArgs false
namespace Go.Proofs.YtejmihecgodhnaaGreatDoor.Fw
open Go
attribute [local irreducible] evS evSD WpS Weak Oper.looksAt
section
abbrev qB (r:Type):Type:=Nat→(List bx)→Int→r
abbrev qC (r:Type):Type:=Nat→(List bx)→Int→List (List Bool)→Nat→Nat→List Nat→Int→List aq→r
variable (ad:qB Prop) (m0:qB Nat) (aU:qC Prop) (m1:qC Nat) (a0:aC) (aa:Frame) (g1:Nat) (aL:(List bx)) (cV:Int) (aO:List (List Bool)) (g2 g3:Nat) (aE:List Nat) (v28:Int) (ws2:List aq)
abbrev tL:=aq.mk (cM a0 v28).ar (cM a0 v28).a7 (cM a0 v28).ah (cM a0 v28).bI (cM a0 v28).bG
abbrev CH:List AV:=[ab (cM a0 v28).ar,ab (cM a0 v28).a7,ap (aO.length+4) 0 (cM a0 v28).ah.length,an (cM a0 v28).bI,ab (cM a0 v28).bG]
abbrev hU:=List.replicate a0.ak.toNat false
abbrev CK:=bd 41 [(1,aF 1 0),(2,aF 2 0),(3,aF 3 0),(27,ab (a0.O.length:Int)),(28,ab 0)]
abbrev oJ:List AV:=[an false,ca,ca,ca]
abbrev vf:=IntKind.i64.wrap (v28+1)
abbrev Tc:=bd 41 [(28,ab (vf v28)),(39,ab (vf v28)),(1,aF 1 0),(2,aF 2 0),(3,aF 3 0),(27,ab (a0.O.length:Int))]
abbrev tM:=aO++[(cM a0 v28).ah]
abbrev KI:List Blk:=(⟨0,1,List.map aP (hU a0)⟩::⟨g1,2,List.map a1 aL⟩::⟨(g2+1),5,aR 4 (ws2++[(tL a0 v28)]) (aE++[aO.length])⟩::⟨(g3+1),5,[(CH a0 aO v28)]⟩::List.map bh (tM a0 aO v28))
abbrev zK:List AV:=[an true,ap 0 0 (hU a0).length,ap 1 g1 aL.length,ap 2 g2 ws2.length]
abbrev jY:=bA false a0
abbrev KJ:List (Nat×List AV):=[(3,[an true,ap 0 0 (hU a0).length,ap 1 g1 aL.length,ap 2 (g2+1) (ws2++[(tL a0 v28)]).length]),(2,oJ),(1,(jY a0))]
abbrev KG:List (Nat×List AV):=[(3,[an true,ap 0 0 (hU a0).length,ap 1 g1 aL.length,ap 2 0 ([]:List aq).length]),(2,oJ),(1,(jY a0))]
abbrev pB:=[(bx.mk 1 1)]
abbrev S8:List Blk:=(⟨0,1,List.map aP (hU a0)⟩::⟨g1,2,List.map a1 aL⟩::⟨g2,5,aR 4 ws2 aE⟩::⟨(g3+1),5,[(CH a0 aO v28)]⟩::List.map bh (tM a0 aO v28))
abbrev oI:=[1000003]
abbrev S9:=bd 41 [(15,ab (a0.bb.length:Int)),(16,ab 0),(3,aF 3 0),(2,aF 2 0),(1,aF 1 0)]
abbrev F7:List AV:=[an true,ap 0 0 (hU a0).length,ca,ca]
abbrev S_:List Blk:=[⟨0,1,List.map aP (hU a0)⟩,⟨g1,2,List.map a1 aL⟩,⟨0,5,aR 4 ([]:List aq) ([]:List Nat)⟩]
abbrev KH:List AV:=[an true,ap 0 0 (hU a0).length,ap 1 g1 aL.length,ca]
abbrev Ta:=true=true∧true=true∧((aF 3 3:AV)=aF 3 3)
abbrev Tb:=true=true∧true=true∧((ap 2 g2 ws2.length:AV)=ap 2 g2 ws2.length)
abbrev CI:=decide (cV<(a0.bb.length:Int))
abbrev CJ:=decide (v28<(a0.O.length:Int))
abbrev zJ:=IntKind.i64.wrap (cV+1)
noncomputable def KF:Code:=iP Tryz.f26
def agi:List Item:=[bV 0,bV 1,bV 2,bV 3,⟨4,true,false,[0,1]⟩,⟨5,true,false,[0,1]⟩,⟨6,true,false,[]⟩,bV 7,⟨8,true,false,[]⟩]
def agj:List (List Nat):=[[],[0],[],[],[2,3],[2,3,4],rg 0 6,rg 0 7,rg 0 8]
def KB:Prop:=
  aU g1 aL cV (tM a0 aO v28) (g2+1) (g3+1) (aE++[aO.length]) (vf v28) (ws2++[(tL a0 v28)])∧m1 g1 aL cV (tM a0 aO v28) (g2+1) (g3+1) (aE++[aO.length]) (vf v28) (ws2++[(tL a0 v28)])<m1 g1 aL cV aO g2 g3 aE v28 ws2
def KC:Prop:=
  ((CJ a0 v28)=false→(true=aa.ok)∧((hU a0).length≤4611686018427387904∧(hU a0)=aa.aN)∧(aL.length≤4611686018427387904∧aL=aa.aH)∧(kQ ws2 aE aO∧ws2.length≤4611686018427387904∧(∀x∈aO,List.length x≤4611686018427387904)∧view ws2 aE aO=aa.O))∧((CJ a0 v28)=true→((zH a0 v28)∧(ws2.length=aE.length∧((ws2.length+1)*56≤140737488355328∧ws2.length+1≤4611686018427387904)))∧(KB aU m1 a0 g1 aL cV aO g2 g3 aE v28 ws2))
def KD:Prop:=
  ((CI a0 cV)=false→a0.O.length≤4611686018427387904→aU g1 aL cV ([]:List (List Bool)) 0 0 ([]:List Nat) 0 ([]:List aq)∧ ∀(aO:List (List Bool)) (g2:Nat) (g3:Nat) (aE:List Nat) (v28:Int) (ws2:List aq),aU g1 aL cV aO g2 g3 aE v28 ws2→(KC aU m1 a0 aa g1 aL cV aO g2 g3 aE v28 ws2))∧((CI a0 cV)=true→((aL.length+pB.length)*16≤140737488355328∧aL.length+pB.length≤4611686018427387904)∧(ad (g1+1) (aL++pB) (zJ cV)∧m0 (g1+1) (aL++pB) (zJ cV)<m0 g1 aL cV))
def KE:Prop:=
  ((!(dV a0))=true→(false=aa.ok)∧([]=aa.aN)∧([]=aa.aH)∧([]=aa.O))∧((!(!(dV a0)))=true→(0≤a0.ak∧1*a0.ak≤140737488355328∧a0.ak≤4611686018427387904)∧(a0.bb.length≤4611686018427387904→ad 0 ([]:List bx) 0∧ ∀(g1:Nat) (aL:(List bx)) (cV:Int),ad g1 aL cV→(KD ad m0 aU m1 a0 aa g1 aL cV)))
def KA (a0:aC) (aa:Frame) (ad:qB Prop) (m0:qB Nat) (aU:qC Prop) (m1:qC Nat):Prop:=
 KE ad m0 aU m1 a0 aa
theorem agk (a0:aC) (aa:Frame) (ad:qB Prop) (m0:qB Nat) (aU:qC Prop) (m1:qC Nat) (h:KA a0 aa ad m0 aU m1):bc Tryz.prog 26 [.agg (jY a0)] (.agg (cG true aa)):=by
 unfold KA at h
 refine c0.go (fn:=Tryz.f26) [(0,.agg (jY a0))] Tryz.func26 (fun _ _=> ?_)
 show WpS _ (bB KF 1) _ ⟨bd 41 [(0,.agg (jY a0))],[],[]⟩
 refine rX oI 0 [(2,aF 2 0),(1,aF 1 0)] [2] [] [(2,oJ),(1,(jY a0))] [] ?_
 unfold KE at h
 obtain⟨lx,h⟩:=h
 refine cc [] [2] ((!(!(dV a0)))=true) ?_ (fun q2=> ?_)
 ·
  replace h:=lx
  refine cc [(7,an (!(dV a0)))] [2] (True) ?_ (fun q3=> ?_)
  ·
   refine bo oI 1 ?_
   refine mH 2 (some 6) [(5,.agg (jY a0))] [.agg (jY a0)] (Ud a0) (af.cons (cL.agg (af.cons (.int _ _) (af.cons cj (af.cons cj (af.cons cj (af.cons (.int _ _) af.nil)))))) af.nil) ?_
   exact bJ [(7,an (!(dV a0)))] trivial
  refine dp (fun q4=> ?_) (fun q4=> ?_)
  ·
   replace h:=h q4
   refine dY oI 2 [(8,.agg oJ)] [] [0,1,1] ?_
   exact hh (bP.ret (oW (.agg oJ) (iw.agg (af.cons (oh h.1) (af.cons (sV h.2.1) (af.cons (sV h.2.2.1) (af.cons (sV h.2.2.2) af.nil)))))))
  ·
   refine d_ ?_
   exact bP.normal (by simp only[q4]<;>rfl) dU
 replace h:=h q2
 obtain⟨jz,h⟩:=h
 refine eU [(3,aF 3 0)] [2] (fun L=>(3,(F7 a0))::L) (fun _=>[⟨0,1,List.map aP (hU a0)⟩]) (True) ?_ (fun cD=> ?_)
 ·
  replace h:=jz
  refine bo oI 3 ?_
  have fH:=h
  refine M6 3 (some 11) [(10,ab a0.ak),(9,aF 1 0)] aP 1 [an false] 0 (fun r=>[⟨0,1,r⟩]) false fH ?_
  exact bJ [(3,aF 3 0),(12,.agg (F7 a0))] trivial
 refine hz ?_
 refine cc [(15,ab (a0.bb.length:Int)),(16,ab 0)] [3] (a0.bb.length≤4611686018427387904) ?_ (fun fu=> ?_)
 ·
  refine bo oI 4 ?_
  refine sLen 3 (some 15) [(14,bq cd a0.bb),(13,aF 1 1)] cd a0.bb (fun iV=> ?_)
  exact bJ [(16,ab 0)] iV
 replace h:=h fu
 refine fg 0 ?_
 refine WpS.mP ?_ (hg (s'':=⟨(S9 a0),[(3,[an true,ap 0 0 (hU a0).length,ap 1 0 ([]:List bx).length,ca]),(2,oJ),(1,(jY a0))],[⟨0,1,List.map aP (hU a0)⟩,⟨0,2,List.map a1 ([]:List bx)⟩]⟩) (Weak.wD (T:=(S9 a0)) (L:=[(3,(F7 a0)),(2,oJ),(1,(jY a0))]) (H:=[⟨0,1,List.map aP (hU a0)⟩]) (cells:=(F7 a0)) 3 2 2 (by kernel_rfl) (by kernel_rfl)) (by kernel_rfl))
 obtain⟨n4,h⟩:=h
 refine kq (fun(v:Nat×(List bx)×Int)=>(⟨(bd 41 [(1,aF 1 0),(2,aF 2 0),(3,aF 3 0),(15,ab (a0.bb.length:Int)),(16,ab (v.2.2))]),[(3,[an true,ap 0 0 (hU a0).length,ap 1 (v.1) (v.2.1).length,ca]),(2,oJ),(1,(jY a0))],[⟨0,1,List.map aP (hU a0)⟩,⟨(v.1),2,List.map a1 (v.2.1)⟩]⟩:St)) (fun(v:Nat×(List bx)×Int)=>ad (v.1) (v.2.1) (v.2.2)) (fun(v:Nat×(List bx)×Int)=>m0 (v.1) (v.2.1) (v.2.2)) (0,([]:List bx),0) (di []) n4 (fun v aJ=> ?_)
 obtain⟨g1,aL,cV⟩:=v
 replace h:=h g1 aL cV aJ
 dsimp only
 refine dY oI 5 [(17,an (CI a0 cV))] [1] [5] ?_
 unfold KD at h
 obtain⟨oT,h⟩:=h
 refine cc [] [0,1,5] ((CI a0 cV)=true) ?_ (fun iF=> ?_)
 ·
  replace h:=oT
  refine dp (fun h3=> ?_) (fun h3=> ?_)
  ·
   refine d_ ?_
   exact bP.normal (by simp only[q2,h3]<;>rfl) dU
  ·
   replace h:=h h3
   refine jf 0 ?_
   refine bP.exit ?_
   refine dO.exit ?_
   refine bT.here ?_
   refine dR.normal ?_
   refine hz ?_
   refine j9 ⟨(CK a0),[(3,(KH a0 g1 aL)),(2,oJ),(1,(jY a0))],[⟨0,1,List.map aP (hU a0)⟩,⟨g1,2,List.map a1 aL⟩]⟩ (a0.O.length≤4611686018427387904) ?_ (fun fA=> ?_)
   ·
    refine bo oI 8 ?_
    refine sLen 3 (some 27) [(26,bq (da false) a0.O),(25,aF 1 2)] (da false) a0.O (fun sG=> ?_)
    exact bJ [(28,ab 0)] sG
   replace h:=h fA
   refine fg 2 ?_
   refine WpS.mP ?_ (hg (s'':=⟨(CK a0),(KG a0 g1 aL),(S_ a0 g1 aL)⟩) (Weak.wD (T:=(CK a0)) (L:=[(3,(KH a0 g1 aL)),(2,oJ),(1,(jY a0))]) (H:=[⟨0,1,List.map aP (hU a0)⟩,⟨g1,2,List.map a1 aL⟩]) (cells:=(KH a0 g1 aL)) 3 3 5 (by kernel_rfl) (by kernel_rfl)) (by kernel_rfl))
   refine WpS.mP ?_ (hg (s'':=⟨(CK a0),(KG a0 g1 aL),(⟨0,1,List.map aP (hU a0)⟩::⟨g1,2,List.map a1 aL⟩::⟨0,5,aR 4 ([]:List aq) ([]:List Nat)⟩::⟨0,5,[]⟩::List.map bh ([]:List (List Bool)))⟩) (Weak.Ad (T:=(CK a0)) (L:=(KG a0 g1 aL)) (H:=(S_ a0 g1 aL)) 5) (by kernel_rfl))
   obtain⟨iH,h⟩:=h
   refine kq (fun(v:List (List Bool)×Nat×Nat×List Nat×Int×List aq)=>(⟨(bd 41 [(1,aF 1 0),(2,aF 2 0),(3,aF 3 0),(27,ab (a0.O.length:Int)),(28,ab (v.2.2.2.2.1))]),[(3,[an true,ap 0 0 (hU a0).length,ap 1 g1 aL.length,ap 2 (v.2.1) (v.2.2.2.2.2).length]),(2,oJ),(1,(jY a0))],(⟨0,1,List.map aP (hU a0)⟩::⟨g1,2,List.map a1 aL⟩::⟨(v.2.1),5,aR 4 (v.2.2.2.2.2) (v.2.2.2.1)⟩::⟨(v.2.2.1),5,[]⟩::List.map bh (v.1))⟩:St)) (fun(v:List (List Bool)×Nat×Nat×List Nat×Int×List aq)=>aU g1 aL cV (v.1) (v.2.1) (v.2.2.1) (v.2.2.2.1) (v.2.2.2.2.1) (v.2.2.2.2.2)) (fun(v:List (List Bool)×Nat×Nat×List Nat×Int×List aq)=>m1 g1 aL cV (v.1) (v.2.1) (v.2.2.1) (v.2.2.2.1) (v.2.2.2.2.1) (v.2.2.2.2.2)) (([]:List (List Bool)),0,0,([]:List Nat),0,([]:List aq)) (di []) iH (fun v aJ=> ?_)
   obtain⟨aO,g2,g3,aE,v28,ws2⟩:=v
   replace h:=h aO g2 g3 aE v28 ws2 aJ
   dsimp only
   refine dY oI 9 [(29,an (CJ a0 v28))] [1] [5] ?_
   unfold KC at h
   obtain⟨gR,h⟩:=h
   refine cc [] [0,1,5] ((CJ a0 v28)=true) ?_ (fun kh=> ?_)
   ·
    replace h:=gR
    refine dp (fun hG=> ?_) (fun hG=> ?_)
    ·
     refine d_ ?_
     exact bP.normal (by simp only[q2,h3,hG]<;>rfl) dU
    ·
     replace h:=h hG
     refine jf 2 ?_
     refine bP.exit ?_
     refine dO.exit ?_
     refine bT.here ?_
     refine dR.normal ?_
     refine j9 ⟨(bd 41 [(2,aF 2 0)]),[(3,(zK a0 g1 aL g2 ws2)),(2,(zK a0 g1 aL g2 ws2)),(1,(jY a0))],(⟨0,1,List.map aP (hU a0)⟩::⟨g1,2,List.map a1 aL⟩::⟨g2,5,aR 4 ws2 aE⟩::⟨g3,5,[]⟩::List.map bh aO)⟩ (True) ?_ (fun mC=> ?_)
     ·
      refine bo oI 13 ?_
      exact bJ [(40,.agg (zK a0 g1 aL g2 ws2))] trivial
     exact hh (oW (.agg (zK a0 g1 aL g2 ws2)) (iw.agg (af.cons (oh h.1) (af.cons (sU (sz:=1) (by simp) rfl (y1) h.2.1) (af.cons (sU (sz:=2) (by simp) rfl (BW) h.2.2.1) (af.cons (HG (s:=4) (ws:=ws2) (ids:=aE) (bs:=aO) (by simp) rfl (fun id k h=>by simpa using h) h.2.2.2) af.nil))))))
   replace h:=h kh
   obtain⟨il,h⟩:=h
   refine eU [] [5] (fun L=>hP 0 3 (ap 2 (g2+1) (ws2++[(tL a0 v28)]).length) L) (fun _=>(KI a0 g1 aL aO g2 g3 aE v28 ws2)) (True) ?_ (fun hn=> ?_)
   ·
    replace h:=il
    refine fg 3 ?_
    refine dY oI 10 [(4,ab v28),(30,ab v28)] [1] [5] ?_
    refine n9 oI 11 agi agj [] ?_
    obtain⟨kL,h⟩:=h
    refine HP 5 (some 35) [(34,ab v28),(33,.agg (jY a0)),(32,ap 2 g2 ws2.length),(31,aF 3 3)] [.agg (jY a0),ab v28] (fun L H=>qU Tryz.prog (jm KF 16025) [0,1] [(34,ab v28),(33,.agg (jY a0)),(32,ap 2 g2 ws2.length),(31,aF 3 3),(4,ab v28),(1,aF 1 0),(2,aF 2 0),(3,aF 3 0),(27,ab (a0.O.length:Int)),(28,ab v28)] L H) (.agg (CH a0 aO v28)) (⟨0,1,List.map aP (hU a0)⟩::⟨g1,2,List.map a1 aL⟩::⟨g2,5,aR 4 ws2 aE⟩::⟨g3,5,[]⟩::List.map bh (tM a0 aO v28)) (Gc a0 v28 kL) (af.cons (cL.agg (af.cons (.int _ _) (af.cons cj (af.cons cj (af.cons cj (af.cons (.int _ _) af.nil)))))) (af.cons (cL.hW (.int _ _)) af.nil)) (sD (fun _=>rfl) rfl) (sN (sM (fun _=>rfl) rfl) (by simp only[List.cons_append,List.map_nil,ti])) (vz (ψ:=(Ta∧((Tb g2 ws2)∧True))) (by kernel_rfl) ⟨⟨rfl,rfl,rfl⟩,⟨⟨rfl,rfl,rfl⟩,trivial⟩⟩) ?_ (er:=by simp[nt,oZ,iY])
    refine D8 1 [(36,.ref 3 (g3+1) 0 1 true)] [(3,(zK a0 g1 aL g2 ws2)),(2,oJ),(1,(jY a0))] (S8 a0 g1 aL aO g2 g3 aE v28 ws2) (φ:=qU Tryz.prog (jm KF 16025) [0,1] [(35,.agg (CH a0 aO v28)),(34,ab v28),(33,.agg (jY a0)),(32,ap 2 g2 ws2.length),(31,aF 3 3),(4,ab v28),(1,aF 1 0),(2,aF 2 0),(3,aF 3 0),(27,ab (a0.O.length:Int)),(28,ab v28)] [(3,(zK a0 g1 aL g2 ws2)),(2,oJ),(1,(jY a0))] (S8 a0 g1 aL aO g2 g3 aE v28 ws2)) (vz (ψ:=(Ta∧((Tb g2 ws2)∧True))) (by kernel_rfl) ⟨⟨rfl,rfl,rfl⟩,⟨⟨rfl,rfl,rfl⟩,trivial⟩⟩) ?_
    have j0:=h
    refine ZT 1 (some 37) [] 4 2 g2 (g3+1) 56 ws2 aE (tL a0 v28) aO.length (fun _=>True) (fun r=>(⟨0,1,List.map aP (hU a0)⟩::⟨g1,2,List.map a1 aL⟩::⟨(g2+1),5,r⟩::⟨(g3+1),5,[(CH a0 aO v28)]⟩::List.map bh (tM a0 aO v28))) j0.1 j0.2 trivial ?_
    refine D8 2 [(38,aF 3 3)] (KJ a0 g1 aL g2 v28 ws2) (KI a0 g1 aL aO g2 g3 aE v28 ws2) (φ:=True) trivial ?_
    refine Bh [] ?_
    refine bT.normal ?_
    exact bP.normal trivial dU
   unfold KB at h
   refine bo oI 12 ?_
   refine dM [(28,ab (vf v28)),(39,ab (vf v28))] ?_
   exact dO.again ((tM a0 aO v28),(g2+1),(g3+1),(aE++[aO.length]),(vf v28),(ws2++[(tL a0 v28)])) h ((Weak.clear 3 rfl:Weak ⟨(Tc a0 v28),(KJ a0 g1 aL g2 v28 ws2),(KI a0 g1 aL aO g2 g3 aE v28 ws2)⟩ ⟨(Tc a0 v28),(KJ a0 g1 aL g2 v28 ws2),(⟨0,1,List.map aP (hU a0)⟩::⟨g1,2,List.map a1 aL⟩::⟨(g2+1),5,aR 4 (ws2++[(tL a0 v28)]) (aE++[aO.length])⟩::⟨(g3+1),5,[]⟩::List.map bh (tM a0 aO v28))⟩).trans (di []))
 replace h:=h iF
 obtain⟨nn,h⟩:=h
 refine eU [] [5] (fun L=>hP 0 2 (ap 1 (g1+1) (aL++pB).length) L) (fun H=>eh 1 ⟨(g1+1),2,List.map a1 (aL++pB)⟩ H) (True) ?_ (fun im=> ?_)
 ·
  replace h:=nn
  refine fg 1 ?_
  refine bo oI 6 ?_
  have kM:=h
  refine XE 5 (some 22) [(21,.aX (List.map a1 pB) true true),(20,.agg [ab 1,ab 1]),(19,ap 1 g1 aL.length),(18,aF 3 2)] a1 aL pB (l2 true (List.map a1 pB)) 1 g1 2 16 (fun r=>[⟨0,1,List.map aP (hU a0)⟩,⟨(g1+1),2,r⟩]) rfl kM ?_
  refine Hi [(23,aF 3 2)] [(3,[an true,ap 0 0 (hU a0).length,ap 1 (g1+1) (aL++pB).length,ca]),(2,oJ),(1,(jY a0))] [⟨0,1,List.map aP (hU a0)⟩,⟨(g1+1),2,List.map a1 (aL++pB)⟩] ?_
  refine bT.normal ?_
  exact bP.normal trivial dU
 refine bo oI 7 ?_
 refine dM [(16,ab (zJ cV)),(24,ab (zJ cV))] ?_
 exact dO.again ((g1+1),(aL++pB),(zJ cV)) h (di [])
theorem agf:bc Tryz.prog 26 [.agg (jY a0)] (.agg (cG true (dJ a0))):=agk a0 (dJ a0) (fun _ x v=>bW a0.bb.length (fun _=>false) v∧x=List.replicate v.toNat (bx.mk 1 1)) (fun _ _ v=>cg a0.bb.length v) (fun _ x _ bs _ _ is v ws=>x=List.replicate a0.bb.length (bx.mk 1 1)∧bW a0.O.length (fun _=>false) v∧ws=(a0.O.take v.toNat).map (fun w=>gZ w.ak.length)∧is=List.range ws.length∧bs=ws.map aq.ah) (fun _ _ _ _ _ _ _ v _=>cg a0.O.length v) (by
 unfold KA KE
 refine⟨fun h=> ?_,fun h=> ?_⟩
 ·have h:dV a0=false:=by simpa using h
  unfold dJ;rw[if_neg (by rw[h];simp)];exact⟨rfl,rfl,rfl,rfl⟩
 have h:dV a0=true:=by simpa using h
 have ci:=xS h
 have h1:=ci.cx
 have h2:=ci.be
 have au:=ci.O
 have e:dJ a0=⟨true,List.replicate a0.ak.toNat false,List.replicate a0.bb.length ⟨1,1⟩,a0.O.map fun w=>gZ w.ak.length⟩:=by unfold dJ;rw[if_pos h]
 rw[e]
 refine⟨⟨by omega,by omega,by omega⟩,fun ag=>⟨⟨cT (cN _),rfl⟩,fun g x v aJ=> ?_⟩⟩
 obtain⟨aJ,rfl⟩:=aJ
 have tJ:=aJ.2.1
 unfold KD zJ CI pB
 refine⟨fun hv hm=>⟨⟨?_,cT (cN _),rfl,rfl,rfl⟩,fun bs g2 g3 is k ws cP=> ?_⟩,fun hv=>⟨⟨?_,?_⟩,⟨(cw (b5 ag) aJ hv rfl).1,?_⟩,(cw (b5 ag) aJ hv rfl).2⟩⟩
 ·have: ¬v<(a0.bb.length:Int):=by simpa using hv
  rw[show v.toNat=a0.bb.length by omega]
 ·obtain⟨hx,cP,rfl,rfl,rfl⟩:=cP
  have lV:=cP.2.1
  have sd:=cP.1
  have aw:((a0.O.take k.toNat).map fun w=>gZ w.ak.length).length=k.toNat:=by rw[List.length_map,List.length_take];omega
  obtain⟨dG,et,eN⟩:=wO ((a0.O.take k.toNat).map fun w=>gZ w.ak.length)
  unfold KC KB CJ tM vf hU tL
  refine⟨fun hk=>⟨rfl,⟨by rw[List.length_replicate];omega,rfl⟩,⟨by rw[List.length_replicate];omega,hx⟩,dG,by omega,fun b hb=> ?_,?_⟩,fun hk=>⟨⟨⟨ci,sd,by simpa using hk⟩,by rw[List.length_range],by omega,by omega⟩,⟨hx,(cw (b5 hm) cP hk rfl).1,?_,?_,?_⟩,(cw (b5 hm) cP hk rfl).2⟩⟩
  ·obtain⟨y,bi,rfl⟩:=List.mem_map.1 hb
   obtain⟨w,hw,rfl⟩:=List.mem_map.1 bi
   have:=(ci.ak w (List.mem_of_mem_take hw)).2.1
   simp[gZ];omega
  ·rw[eN]
   have: ¬k<(a0.O.length:Int):=by simpa using hk
   rw[List.take_of_length_le (by omega)]
  ·have b3:=bX cP hk
   rw[hL (b5 hm) sd (by simpa using hk),show(k+1).toNat=k.toNat+1 by omega,List.take_succ_eq_append_getElem b3.2,←fU b3.2,List.map_append];rfl
  ·rw[List.length_append,List.length_singleton,List.range_succ,List.length_map]
   simp
  ·rw[List.map_append];rfl
 ·rw[List.length_replicate,List.length_singleton];omega
 ·rw[List.length_replicate,List.length_singleton];omega
 ·rw[hL (b5 ag) aJ.1 (by simpa using hv),show(v+1).toNat=v.toNat+1 by have:=aJ.1;omega,List.replicate_succ'])
def agh:cZ Tryz.prog:=⟨26,[.dl],[.frame],none,fun x=>((dJ x.1),()),fun x h=>agf x.1⟩
end
section
abbrev Bx (r:Type):Type:=List (List Bool)→(List Bool)→(List bx)→List Nat→Int→List aq→r
variable (ad:(List bx)→Int→Prop) (m0:(List bx)→Int→Nat) (aU:jK Prop) (m1:jK Nat) (ez:Bx Prop) (a0:aC) (J:Frame) (aa:fv) (a2:Event) (aL:(List bx)) (cb:List (List Bool)) (aE:List Nat) (eZ v160:Int) (ws2:List aq) (aM:(List Bool)) (db:Int) (pV:List aq) (rK:List Nat) (rL:List (List Bool))
abbrev cK:=(aK J).O
abbrev so:=(cK J).set a2.aA.toNat (aq.mk 3 (nth (cK J) a2.aA).a7 (nth (cK J) a2.aA).ah (nth (cK J) a2.aA).bI (nth (cK J) a2.aA).bG)
abbrev ea:=(aK J).aN
abbrev dE:=(aK J).aH
abbrev gQ:=(aK J).ok
abbrev ed:=List.map aq.ah (cK J)
abbrev ee:=List.range (cK J).length
abbrev kE:=Frame.mk (gQ J) (ea J) (dE J) (view (cK J) (ee J) (ed J))
abbrev oK:=ws2.set v160.toNat (aq.mk (nth ws2 v160).ar (nth ws2 v160).a7 (nth ws2 v160).ah (nth ws2 v160).bI (IntKind.i64.wrap ((nth ws2 v160).bG - 1)))
abbrev oL:=(ea J).length
abbrev sq:List AV:=[an (gQ J),ap 0 0 (oL J),ap 1 0 (dE J).length,ap 2 0 (cK J).length]
abbrev tR:=(cK J).set a2.aA.toNat (aq.mk 1 (nth (cK J) a2.aA).a7 (nth (cK J) a2.aA).ah (nth (cK J) a2.aA).bI (nth (cK J) a2.aA).bG)
abbrev zR:List (Nat×AV):=[(3,aF 3 0),(4,aF 4 0),(6,aF 6 0),(7,aF 7 0),(8,ab 0)]
abbrev ke:=bE (nth a0.O a2.aA)
abbrev tU:=(nth (ke a0 a2) eZ).be
abbrev xp:=aL.set (tU a0 a2 eZ).toNat (bx.mk (nth (ke a0 a2) eZ).bj (nth aL (tU a0 a2 eZ)).bm)
abbrev zM:=(so J a2).set a2.aA.toNat (aq.mk (nth (so J a2) a2.aA).ar (nth (so J a2) a2.aA).a7 (nth (so J a2) a2.aA).ah (nth (so J a2) a2.aA).bI a0.ct)
abbrev nf:List AV:=[ab 0,an false,ca,ca,ca]
abbrev zN:=(cK J).set a2.aA.toNat (aq.mk (cM a0 a2.aA).ar (cM a0 a2.aA).a7 (cM a0 a2.aA).ah (cM a0 a2.aA).bI (cM a0 a2.aA).bG)
abbrev Ld:List AV:=[ab 0,an (ef a0 (Frame.mk (gQ J) aM aL (view ws2 aE cb))).ok,jP aP (ef a0 (Frame.mk (gQ J) aM aL (view ws2 aE cb))).aN,jP a1 (ef a0 (Frame.mk (gQ J) aM aL (view ws2 aE cb))).aH,jP (fR false) (ef a0 (Frame.mk (gQ J) aM aL (view ws2 aE cb))).O]
abbrev hB:=bA false a0
abbrev iS:=cG false J
abbrev sp:List (Nat×List AV):=[(7,(iS J)),(6,nf),(4,(sq J)),(3,(hB a0))]
abbrev nU:=gj a0 (kE J) a2.aA
abbrev xn:=IntKind.i64.wrap (eZ+1)
abbrev Le:List (Nat×AV):=[(3,aF 3 0),(4,aF 4 0),(6,aF 6 0),(7,aF 7 0),(8,ab (nU a0 J a2)),(40,jP cQ (ke a0 a2)),(41,ab ((ke a0 a2).length:Int)),(42,ab (xn eZ))]
abbrev F_:List (Nat×List AV):=[(7,(iS J)),(6,nf),(4,[an (gQ J),ap 0 0 (oL J),ap 1 0 aL.length,ap 2 0 (cK J).length]),(3,(hB a0))]
abbrev xm:=IntKind.i64.wrap (v160+1)
abbrev Lf:List (Nat×AV):=[(3,aF 3 0),(4,aF 4 0),(6,aF 6 0),(7,aF 7 0),(8,ab 0),(159,ab ((cK J).length:Int)),(160,ab (xm v160))]
abbrev CQ:=(dE J).set a2.aA.toNat (bx.mk (nth (dE J) a2.aA).dc a2.bj)
abbrev CR:=(dE J).set a2.aA.toNat (bx.mk a2.bj (nth (dE J) a2.aA).bm)
abbrev Lg:=(oK v160 ws2).set v160.toNat (aq.mk (cM a0 v160).ar (cM a0 v160).a7 (cM a0 v160).ah (cM a0 v160).bI (cM a0 v160).bG)
abbrev hV:=0+a2.aA.toNat
abbrev tQ:=(cK J).length=(ee J).length∧a2.aA.toNat<(cK J).length
abbrev Lh:List Blk:=(⟨0,1,List.map aP (ea J)⟩::⟨0,2,List.map a1 (dE J)⟩::⟨0,5,aR 3 pV rK⟩::List.map bh rL)
abbrev qc:=(nth (cK J) a2.aA).ar
abbrev xk:=(nth (oK v160 ws2) v160).bG==0
abbrev CV:=(ee J).set a2.aA.toNat (ed J).length
abbrev TM:List Blk:=(⟨0,1,List.map aP (ea J)⟩::⟨0,2,List.map a1 (dE J)⟩::⟨0,5,aR 3 (zN a0 J a2) (CV J a2)⟩::List.map bh ((ed J)++[(cM a0 a2.aA).ah]))
abbrev tS:=(nth a0.O a2.aA).ei
abbrev mv:=(nth (cK J) a2.aA).bI&&(hd (kE J) (tS a0 a2))
abbrev CU:=(ea J).set a2.aA.toNat (a2.op==3)
abbrev TN:List Blk:=(⟨0,1,List.map aP (CU J a2)⟩::⟨0,2,List.map a1 (dE J)⟩::⟨0,5,aR 3 (cK J) (ee J)⟩::List.map bh (ed J))
abbrev Li:List (Nat×AV):=[(3,aF 3 0),(4,aF 4 0),(6,aF 6 0),(7,aF 7 0),(8,ab (nU a0 J a2))]
abbrev Lj:List AV:=[ab db,an (gQ J),jP aP (ea J),jP a1 (dE J),jP (fR false) (cK J)]
abbrev TO:List AV:=[ab (cM a0 a2.aA).ar,ab (cM a0 a2.aA).a7,ap ((ed J).length+3) 0 (cM a0 a2.aA).ah.length,an (cM a0 a2.aA).bI,ab (cM a0 a2.aA).bG]
abbrev zO:=decide (((gC a0 (kE J) a2.aA).length:Int)>0)
abbrev TP:List Blk:=(⟨0,1,List.map aP (ea J)⟩::⟨0,2,List.map a1 (dE J)⟩::⟨0,5,aR 3 (cK J) (ee J)⟩::List.map bh (ed J))
abbrev TQ:List Blk:=(⟨0,1,List.map aP (ea J)⟩::⟨0,2,List.map a1 (CQ J a2)⟩::⟨0,5,aR 3 (cK J) (ee J)⟩::List.map bh (ed J))
abbrev TR:List Blk:=(⟨0,1,List.map aP (ea J)⟩::⟨0,2,List.map a1 (CR J a2)⟩::⟨0,5,aR 3 (cK J) (ee J)⟩::List.map bh (ed J))
abbrev TT:List Blk:=(⟨0,1,List.map aP (ea J)⟩::⟨0,2,List.map a1 (dE J)⟩::⟨0,5,aR 3 (zM a0 J a2) (ee J)⟩::List.map bh (ed J))
abbrev TU:List AV:=[ab (cM a0 v160).ar,ab (cM a0 v160).a7,ap (cb.length+3) 0 (cM a0 v160).ah.length,an (cM a0 v160).bI,ab (cM a0 v160).bG]
abbrev TW:List Blk:=(⟨0,1,List.map aP (ea J)⟩::⟨0,2,List.map a1 (xp a0 a2 aL eZ)⟩::⟨0,5,aR 3 (tR J a2) (ee J)⟩::List.map bh (ed J))
abbrev TX:List Blk:=(⟨0,1,List.map aP (ea J)⟩::⟨0,2,List.map a1 aL⟩::⟨0,5,aR 3 (tR J a2) (ee J)⟩::List.map bh (ed J))
abbrev xl:=(nth ws2 v160).ar==3
abbrev TY:List (Nat×List AV):=[(7,(iS J)),(6,nf),(4,[an (gQ J),ap 0 0 (oL J),ap 1 0 (dE J).length,ap 2 0 ws2.length]),(3,(hB a0))]
abbrev ng:=bif (a2.op==3) then(a2.op==3) else(a2.op==4)
abbrev sr:=bd 200 zR
abbrev zP:=aR 3 (cK J) (ee J)
abbrev nh:=((qc J a2) !=1)&&((qc J a2) !=2)
abbrev zQ:=nth (ea J) (nth a0.bb a2.aA)
abbrev nV:=bif (xl v160 ws2) then(bif (xk v160 ws2) then(Lg a0 v160 ws2) else(oK v160 ws2)) else ws2
abbrev CS:=decide (v160<((cK J).length:Int))
abbrev CT:=decide (eZ<((ke a0 a2).length:Int))
abbrev nW:=bif (xl v160 ws2) then(bif (xk v160 ws2) then(cb++[(cM a0 v160).ah]) else cb) else cb
abbrev nX:=bif (xl v160 ws2) then(bif (xk v160 ws2) then(aE.set v160.toNat cb.length) else aE) else aE
abbrev nY:=0+v160.toNat
abbrev xo:=[0,1,7]
noncomputable def TL:Code:=iP Tryz.f29
def agF:List Item:=(List.range 16).map bV
def agG:List (List Nat):=[[],[0],[0,1],[0,1,2],rg 0 4,rg 0 5,rg 0 5,rg 0 5++[6],rg 0 5,rg 0 5++[8],rg 0 5++rg 6 10,rg 0 5++rg 6 11,rg 0 5++rg 6 12,rg 0 13,rg 0 14,rg 0 15]
def agH:List Item:=[bV 0,bV 1,bV 2,bV 3,bV 4,bV 5,⟨6,true,false,[1,2,3]⟩,bV 7,bV 8,⟨9,true,false,[]⟩]
def agI:List (List Nat):=[[],[],[],[2],[0],[0,4],[0,4,5],rg 0 7,rg 0 8,rg 0 9]
def agJ:List Item:=(List.range 11).map bV
def agK:List (List Nat):=[[],[0],[],[2],[],[4],rg 2 6,rg 2 7,rg 0 8,rg 0 9,rg 0 10]
def KY:Prop:=
  ad (xp a0 a2 aL eZ) (xn eZ)∧m0 (xp a0 a2 aL eZ) (xn eZ)<m0 aL eZ
def K6:Prop:=
  ((CT a0 a2 eZ)=false→ez (ed J) (ea J) aL (ee J) (nU a0 J a2) (tR J a2))∧((CT a0 a2 eZ)=true→((0≤eZ∧eZ.toNat<(ke a0 a2).length)∧(0≤(tU a0 a2 eZ)∧(tU a0 a2 eZ).toNat<aL.length))∧(KY ad m0 a0 a2 aL eZ))
def K7:Prop:=
  (((nU a0 J a2)==0)=true→((0≤a2.aA∧a2.aA.toNat<(cK J).length)∧(tQ J a2))∧(((0≤a2.aA∧a2.aA.toNat<a0.O.length)∧(At (nth a0.O a2.aA)))∧((ke a0 a2).length≤4611686018427387904→ad (dE J) 0∧ ∀(aL:(List bx)) (eZ:Int),ad aL eZ→(K6 ad m0 ez a0 J a2 aL eZ))))∧(((nU a0 J a2)==0)=false→ez (ed J) (ea J) (dE J) (ee J) (nU a0 J a2) (cK J))
def K8:Prop:=
  ((mv a0 J a2)=true→(tQ J a2)∧(((so J a2).length=(ee J).length∧a2.aA.toNat<(so J a2).length)∧(ez (ed J) (ea J) (dE J) (ee J) 0 (zM a0 J a2))))∧((mv a0 J a2)=false→(zH a0 a2.aA)∧((tQ J a2)∧(ez ((ed J)++[(cM a0 a2.aA).ah]) (ea J) (dE J) (CV J a2) 0 (zN a0 J a2))))
def K9:Prop:=
  ((nh J a2)=true→ez (ed J) (ea J) (dE J) (ee J) 2 (cK J))∧((nh J a2)=false→((tQ J a2)∧((nth (cK J) a2.aA).bI=true→(0≤a2.aA∧a2.aA.toNat<a0.O.length)∧((ea J).length≤4611686018427387904∧(dE J).length≤4611686018427387904∧(kQ (cK J) (ee J) (ed J)∧(cK J).length≤4611686018427387904∧(∀x∈(ed J),List.length x≤4611686018427387904))∧x6 (kE J) (tS a0 a2))))∧(K8 ez a0 J a2))
def K_:Prop:=
  ((zQ a0 J a2)=true→ez (ed J) (ea J) (dE J) (ee J) 3 (cK J))∧((zQ a0 J a2)=false→(0≤a2.aA∧a2.aA.toNat<(dE J).length)∧(ez (ed J) (ea J) (CR J a2) (ee J) 0 (cK J)))
def La:Prop:=
  ((zO a0 J a2)=true→ez (ed J) (ea J) (dE J) (ee J) 2 (cK J))∧((zO a0 J a2)=false→((0≤a2.aA∧a2.aA.toNat<a0.bb.length)∧(0≤(nth a0.bb a2.aA)∧(nth a0.bb a2.aA).toNat<(ea J).length))∧(K_ ez a0 J a2))
def Lb:Prop:=
  (xk v160 ws2)=true→(zH a0 v160)∧((oK v160 ws2).length=aE.length∧v160.toNat<(oK v160 ws2).length)
def Lc:Prop:=
  ((oK v160 ws2).length=aE.length∧v160.toNat<(oK v160 ws2).length)∧(Lb a0 aE v160 ws2)
def KZ:Prop:=
  ((0≤v160∧v160.toNat<ws2.length)∧((ws2.length=aE.length∧v160.toNat<ws2.length)∧((xl v160 ws2)=true→((ws2.length=aE.length∧v160.toNat<ws2.length)∧(ws2.length=aE.length∧v160.toNat<ws2.length))∧(Lc a0 aE v160 ws2))))∧(∀pV:List aq,(nV a0 v160 ws2)=pV→(∀rK:List Nat,(nX cb aE v160 ws2)=rK→(∀rL:List (List Bool),(nW a0 cb v160 ws2)=rL→(aU rL rK (xm v160) pV∧m1 rL rK (xm v160) pV<m1 cb aE v160 ws2))))
def K0:Prop:=
  aU (ed J) (ee J) 0 (cK J)∧ ∀(cb:List (List Bool)) (aE:List Nat) (v160:Int) (ws2:List aq),aU cb aE v160 ws2→(((CS J v160)=false→ez cb (ea J) (dE J) aE 0 ws2)∧((CS J v160)=true→KZ aU m1 a0 cb aE v160 ws2))
def K1:Prop:=
  ((a2.op==6)=true→((ea J).length≤4611686018427387904∧(dE J).length≤4611686018427387904∧(kQ (cK J) (ee J) (ed J)∧(cK J).length≤4611686018427387904∧(∀x∈(ed J),List.length x≤4611686018427387904))∧sF a0 (kE J) a2.aA)∧((gC a0 (kE J) a2.aA).length≤4611686018427387904→La ez a0 J a2))∧((a2.op==6)=false→((a2.op==7)=true→K0 aU m1 ez a0 J)∧((a2.op==7)=false→ez (ed J) (ea J) (dE J) (ee J) 0 (cK J)))
def K2:Prop:=
  ((ng a2)=true→(0≤a2.aA∧a2.aA.toNat<(ea J).length)∧(ez (ed J) (CU J a2) (dE J) (ee J) 0 (cK J)))∧((ng a2)=false→((a2.op==5)=true→(0≤a2.aA∧a2.aA.toNat<(dE J).length)∧(ez (ed J) (ea J) (CQ J a2) (ee J) 0 (cK J)))∧((a2.op==5)=false→K1 aU m1 ez a0 J a2))
def K3:Prop:=
  ((a2.op==2)=true→(0≤a2.aA∧a2.aA.toNat<(cK J).length)∧(((tQ J a2)∧(((qc J a2) !=1)=true→(cK J).length=(ee J).length∧a2.aA.toNat<(cK J).length))∧(K9 ez a0 J a2)))∧((a2.op==2)=false→K2 aU m1 ez a0 J a2)
def K4:Prop:=
  ((a2.op==1)=true→((ea J).length≤4611686018427387904∧(dE J).length≤4611686018427387904∧(kQ (cK J) (ee J) (ed J)∧(cK J).length≤4611686018427387904∧(∀x∈(ed J),List.length x≤4611686018427387904))∧rM a0 (kE J) a2.aA)∧(K7 ad m0 ez a0 J a2))∧((a2.op==1)=false→K3 aU m1 ez a0 J a2)
def K5:Prop:=
  ((db !=0)=true→(ho J)∧((db=aa.code)∧((aK J)=aa.frame)))∧((!(db !=0))=true→(aM.length≤4611686018427387904∧aL.length≤4611686018427387904∧(kQ ws2 aE cb∧ws2.length≤4611686018427387904∧(∀x∈cb,List.length x≤4611686018427387904))∧DH a0 (Frame.mk (gQ J) aM aL (view ws2 aE cb)))∧((0=aa.code)∧((ef a0 (Frame.mk (gQ J) aM aL (view ws2 aE cb)))=aa.frame)))
def KX (a0:aC) (J:Frame) (a2:Event) (aa:fv) (ad:(List bx)→Int→Prop) (m0:(List bx)→Int→Nat) (aU:jK Prop) (m1:jK Nat) (ez:Bx Prop):Prop:=
 (ho J)∧((K4 ad m0 aU m1 ez a0 J a2)∧(∀(cb:List (List Bool)) (aM:(List Bool)) (aL:(List bx)) (aE:List Nat) (db:Int) (ws2:List aq),ez cb aM aL aE db ws2→(K5 a0 J aa aL cb aE ws2 aM db)))
theorem agL (a0:aC) (J:Frame) (a2:Event) (aa:fv) (ad:(List bx)→Int→Prop) (m0:(List bx)→Int→Nat) (aU:jK Prop) (m1:jK Nat) (ez:Bx Prop) (h:KX a0 J a2 aa ad m0 aU m1 ez):bc Tryz.prog 29 [.agg (hB a0),.agg (iS J),.agg (fJ a2)] (.agg (nJ true aa)):=by
 unfold KX at h
 refine c0.go (fn:=Tryz.f29) [(0,.agg (hB a0)),(1,.agg (iS J)),(2,.agg (fJ a2))] Tryz.func29 (fun _ _=> ?_)
 show WpS _ (bB TL 1) _ ⟨bd 200 [(0,.agg (hB a0)),(1,.agg (iS J)),(2,.agg (fJ a2))],[],[]⟩
 refine rX [] 0 [(6,aF 6 0),(5,aF 5 0),(4,aF 4 0),(3,aF 3 0)] [4] [] [(6,nf),(5,(fJ a2)),(4,(iS J)),(3,(hB a0))] [] ?_
 refine uR [] 1 [(7,aF 7 0),(14,.agg (iS J))] [1] [4] (fun L=>(7,(iS J))::L) id ?_
 obtain⟨aka,h⟩:=h
 refine eU [] [5] (fun L=>er 3 (sq J) L) (fun _=>(TP J)) (True) ?_ (fun q3=> ?_)
 ·
  replace h:=aka
  refine bo [] 2 ?_
  have q4:=h
  refine vP 2 (some 16) [(15,.agg (iS J))] [.agg (iS J)] (.agg (sq J)) (TP J) (Tz J q4) (af.cons (cL.agg (af.cons (.bool _) (af.cons cj (af.cons cj (af.cons cj af.nil))))) af.nil) GR (by rw[List.nil_append];exact XU _) ?_ (er:=by simp[nt,oZ,iY])
  exact bJ [] trivial
 refine dY [] 3 [(8,ab 0)] [1] [5] ?_
 refine hz ?_
 refine dY [] 4 [(18,ab a2.op),(17,aF 5 0)] [1] [6] ?_
 obtain⟨aj_,h⟩:=h
 refine Qr 0 (fun(v:List (List Bool)×(List Bool)×(List bx)×List Nat×Int×List aq)=>(⟨(bd 200 [(3,aF 3 0),(4,aF 4 0),(6,aF 6 0),(7,aF 7 0),(8,ab (v.2.2.2.2.1))]),[(7,(iS J)),(6,nf),(4,[an (gQ J),ap 0 0 (v.2.1).length,ap 1 0 (v.2.2.1).length,ap 2 0 (v.2.2.2.2.2).length]),(3,(hB a0))],(⟨0,1,List.map aP (v.2.1)⟩::⟨0,2,List.map a1 (v.2.2.1)⟩::⟨0,5,aR 3 (v.2.2.2.2.2) (v.2.2.2.1)⟩::List.map bh (v.1))⟩:St)) (fun v=>ez (v.1) (v.2.1) (v.2.2.1) (v.2.2.2.1) (v.2.2.2.2.1) (v.2.2.2.2.2)) ?_ (fun v cP=> ?_)
 ·
  replace h:=aj_
  refine dY [] 5 [(19,an (a2.op==1)),(20,an (a2.op==1))] [1] [7] ?_
  unfold K4 at h
  refine dp (fun fu=> ?_) (fun fu=> ?_)
  ·
   replace h:=h.1 fu
   obtain⟨ly,h⟩:=h
   refine cc [(8,ab (nU a0 J a2))] [0,3,5] (True) ?_ (fun iV=> ?_)
   ·
    replace h:=ly
    refine bo [] 6 ?_
    obtain⟨gG,iF,h3,fA⟩:=h
    refine mH 5 (some 25) [(24,ab a2.aA),(23,aF 5 1),(22,.agg (sq J)),(21,.agg (hB a0))] [.agg (hB a0),.agg (sq J),ab a2.aA] (ahw a0 (kE J) a2.aA fA) (af.cons (cL.agg (af.cons (.int _ _) (af.cons cj (af.cons cj (af.cons cj (af.cons (.int _ _) af.nil)))))) (af.cons (cL.agg (af.cons (.bool _) (af.cons (n_ (sz:=1) (by simp) rfl (vc) gG) (af.cons (n_ (sz:=2) (by simp) rfl (xg) iF) (af.cons (vR (s:=3) (ws:=(aK J).O) (ids:=(ee J)) (bs:=(ed J)) (by simp) rfl (fun id k h=>by simpa using h) h3.1 h3.2.1 h3.2.2) af.nil))))) (af.cons (cL.hW (.int _ _)) af.nil))) ?_
    exact bJ [(8,ab (nU a0 J a2))] trivial
   refine dY [] 7 [(27,an ((nU a0 J a2)==0)),(26,ab (nU a0 J a2))] [1] [6] ?_
   unfold K7 at h
   refine dp (fun jn=> ?_) (fun jn=> ?_)
   ·
    replace h:=h.1 jn
    obtain⟨jA,h⟩:=h
    refine eU [] [0,1,6] id (fun H=>eh 2 ⟨0,5,aR 3 (tR J a2) (ee J)⟩ H) (True) ?_ (fun kh=> ?_)
    ·
     replace h:=jA
     refine bo [] 8 ?_
     obtain⟨anX,h⟩:=h
     refine l3 5 (some 32) [(31,ab a2.aA),(30,aF 5 1),(29,ap 2 0 (cK J).length),(28,aF 4 3)] 2 0 5 anX ?_
     have hG:=h
     refine ki 2 none [(33,.ptr 2 0 (hV a2) 0)] (zP J) a2.aA 0 1 0 [ab 1] 2 (aR 3 (tR J a2) (ee J)) (dx hG.1 hG.2) (kw hG.1 hG.2) ?_
     exact bJ [] trivial
    obtain⟨lx,h⟩:=h
    refine cc [(40,jP cQ (ke a0 a2)),(41,ab ((ke a0 a2).length:Int)),(42,ab 0)] [3,1,2] ((ke a0 a2).length≤4611686018427387904) ?_ (fun mC=> ?_)
    ·
     replace h:=lx
     refine bo [] 9 ?_
     obtain⟨kL,h⟩:=h
     refine lC 5 (some 38) [(37,ab a2.aA),(36,aF 5 1),(35,bq (da false) a0.O),(34,aF 3 2)] (da false) a0.O 5 kL ?_
     have hn:=h
     refine mH 2 (some 40) [(39,.agg (da false (nth a0.O a2.aA)))] [.agg (da false (nth a0.O a2.aA))] (T6 (nth a0.O a2.aA) hn) (af.cons (cL.agg (af.cons cj (af.cons cj (af.cons cj (af.cons cj (af.cons cj af.nil)))))) af.nil) ?_
     refine sLen 1 (some 41) [] cQ (ke a0 a2) (fun iG=> ?_)
     exact bJ [(42,ab 0)] iG
    replace h:=h mC
    refine fg 1 ?_
    obtain⟨jz,h⟩:=h
    refine kq (fun(v:(List bx)×Int)=>(⟨(bd 200 [(3,aF 3 0),(4,aF 4 0),(6,aF 6 0),(7,aF 7 0),(8,ab (nU a0 J a2)),(40,jP cQ (ke a0 a2)),(41,ab ((ke a0 a2).length:Int)),(42,ab (v.2))]),[(7,(iS J)),(6,nf),(4,[an (gQ J),ap 0 0 (oL J),ap 1 0 (v.1).length,ap 2 0 (cK J).length]),(3,(hB a0))],(⟨0,1,List.map aP (ea J)⟩::⟨0,2,List.map a1 (v.1)⟩::⟨0,5,aR 3 (tR J a2) (ee J)⟩::List.map bh (ed J))⟩:St)) (fun(v:(List bx)×Int)=>ad (v.1) (v.2)) (fun(v:(List bx)×Int)=>m0 (v.1) (v.2)) ((aK J).aH,0) (di [5]) jz (fun v aJ=> ?_)
    obtain⟨aL,eZ⟩:=v
    replace h:=h aL eZ aJ
    dsimp only
    refine dY [] 10 [(43,an (CT a0 a2 eZ))] [1] [8] ?_
    unfold K6 at h
    obtain⟨n4,h⟩:=h
    refine cc [] [0,1,8] ((CT a0 a2 eZ)=true) ?_ (fun il=> ?_)
    ·
     replace h:=n4
     refine dp (fun gR=> ?_) (fun gR=> ?_)
     ·
      refine d_ ?_
      exact bP.normal (by simp only[fu,jn,gR,nX,nW,nV,nh,ng,mv]<;>rfl) dU
     ·
      replace h:=h gR
      refine jf 1 ?_
      refine bP.exit ?_
      refine dO.exit ?_
      refine bT.here ?_
      refine bT.normal ?_
      exact gI.normal ((ed J),(ea J),aL,(ee J),(nU a0 J a2),(tR J a2)) h (hg (s':=⟨(bd 200 (Li a0 J a2)),(F_ a0 J aL),(TX J a2 aL)⟩) (di (n:=200) (A':=(Li a0 J a2)) (L':=(F_ a0 J aL)) []) (congrArg (fun z=>(⟨(bd 200 (Li a0 J a2)),[(7,(iS J)),(6,nf),(4,[an (gQ J),ap 0 0 (oL J),ap 1 0 aL.length,ap 2 0 z]),(3,(hB a0))],(TX J a2 aL)⟩:St)) (show(cK J).length=(tR J a2).length by simp)))
    replace h:=h il
    obtain⟨oT,h⟩:=h
    refine eU [] [8] (fun L=>(10,(cQ (nth (ke a0 a2) eZ)))::L) (fun H=>eh 1 ⟨0,2,List.map a1 (xp a0 a2 aL eZ)⟩ H) (True) ?_ (fun iH=> ?_)
    ·
     replace h:=oT
     refine fg 2 ?_
     obtain⟨nn,h⟩:=h
     refine eU [(10,aF 10 0)] [8] (fun L=>(10,(cQ (nth (ke a0 a2) eZ)))::L) id (True) ?_ (fun im=> ?_)
     ·
      replace h:=nn
      refine bo [] 11 ?_
      have kM:=h
      refine lC 1 (some 44) [] cQ (ke a0 a2) 2 kM ?_
      exact bJ [(10,aF 10 0),(45,.agg (cQ (nth (ke a0 a2) eZ)))] trivial
     refine bo [] 12 ?_
     have aaw:=h
     refine l3 7 (some 52) [(51,ab (nth (ke a0 a2) eZ).bj),(50,aF 10 1),(49,ab (tU a0 a2 eZ)),(48,aF 10 0),(47,ap 1 0 aL.length),(46,aF 4 2)] 1 0 2 aaw ?_
     refine vQ 2 none [(53,.ptr 1 0 (0+(tU a0 a2 eZ).toNat) 0)] a1 aL (tU a0 a2 eZ) 0 1 0 [ab (nth (ke a0 a2) eZ).bj] 1 (bx.mk (nth (ke a0 a2) eZ).bj (nth aL (tU a0 a2 eZ)).bm) (by simpa using aaw.2) ?_
     refine dM [] ?_
     refine bT.normal ?_
     exact bP.normal trivial dU
    unfold KY at h
    refine bo [] 13 ?_
    refine dM [(42,ab (xn eZ)),(54,ab (xn eZ))] ?_
    exact dO.again ((xp a0 a2 aL eZ),(xn eZ)) h (hg (s':=⟨(bd 200 (Le a0 J a2 eZ)),(F_ a0 J aL),(TW a0 J a2 aL eZ)⟩) (di (n:=200) (A':=(Le a0 J a2 eZ)) (L':=(F_ a0 J aL)) [10]) (congrArg (fun z=>(⟨(bd 200 (Le a0 J a2 eZ)),[(7,(iS J)),(6,nf),(4,[an (gQ J),ap 0 0 (oL J),ap 1 0 z,ap 2 0 (cK J).length]),(3,(hB a0))],(TW a0 J a2 aL eZ)⟩:St)) (show aL.length=(xp a0 a2 aL eZ).length by simp)))
   ·
    replace h:=h.2 jn
    refine d_ ?_
    refine bT.normal ?_
    exact gI.normal ((ed J),(ea J),(dE J),(ee J),(nU a0 J a2),(cK J)) h (di [5])
  ·
   replace h:=h.2 fu
   refine dY [] 14 [(55,an (a2.op==2)),(56,an (a2.op==2))] [1] xo ?_
   unfold K3 at h
   refine dp (fun gS=> ?_) (fun gS=> ?_)
   ·
    replace h:=h.1 gS
    obtain⟨sH,h⟩:=h
    refine cc [(11,.ptr 2 0 (hV a2) 0)] [0,2,6] (True) ?_ (fun ql=> ?_)
    ·
     replace h:=sH
     refine bo [] 15 ?_
     have an0:=h
     refine l3 5 (some 61) [(60,ab a2.aA),(59,aF 5 1),(58,ap 2 0 (cK J).length),(57,aF 4 3)] 2 0 5 an0 ?_
     exact bJ [(11,.ptr 2 0 (hV a2) 0)] trivial
    refine fg 3 ?_
    obtain⟨Dr,h⟩:=h
    refine cc [(68,an (nh J a2))] [7] (True) ?_ (fun l0=> ?_)
    ·
     replace h:=Dr
     refine bo [] 17 ?_
     obtain⟨oU,h⟩:=h
     refine iX 4 (some 72) [(71,.ptr 2 0 (hV a2) 0),(70,.ptr 2 0 (hV a2) 0),(69,.ptr 2 0 (hV a2) 0)] (zP J) a2.aA 3 0 0 (ab (qc J a2)) (dx oU.1 oU.2) ?_
     refine oY 2 74 ((qc J a2) !=1) [(73,an ((qc J a2) !=1))] (fun ru=> ?_) (fun ru=> ?_)
     ·
      replace h:=h ru
      have jB:=h
      refine iX 4 (some 78) [(77,.ptr 2 0 (hV a2) 0),(76,.ptr 2 0 (hV a2) 0),(75,.ptr 2 0 (hV a2) 0)] (zP J) a2.aA 3 0 0 (ab (qc J a2)) (dx jB.1 jB.2) ?_
      exact bJ [(68,an ((qc J a2) !=2)),(80,an ((qc J a2) !=2)),(79,an ((qc J a2) !=2))] trivial (by simp only[fu,gS,ru,nX,nW,nV,nh,ng,mv]<;>kernel_rfl)
     ·
      exact bJ ([(68,an false),(80,an false)]++gg [79,78,77,76,75]) trivial (by simp only[fu,gS,ru,nX,nW,nV,nh,ng,mv]<;>kernel_rfl)
    unfold K9 at h
    refine dp (fun mD=> ?_) (fun mD=> ?_)
    ·
     replace h:=h.1 mD
     refine bo [] 18 ?_
     refine dM [(8,ab 2)] ?_
     refine bT.normal ?_
     refine bT.normal ?_
     exact gI.normal ((ed J),(ea J),(dE J),(ee J),2,(cK J)) h (di [5])
    ·
     replace h:=h.2 mD
     obtain⟨qn,h⟩:=h
     refine cc [(81,an (mv a0 J a2))] xo (True) ?_ (fun lA=> ?_)
     ·
      replace h:=qn
      refine n9 [] 19 agF agG [] ?_
      obtain⟨jC,h⟩:=h
      refine o8 4 (some 85) [(84,.ptr 2 0 (hV a2) 3),(83,.ptr 2 0 (hV a2) 0),(82,.ptr 2 0 (hV a2) 0)] (zP J) a2.aA 4 3 0 (an (nth (cK J) a2.aA).bI) (dx jC.1 jC.2) ?_
      refine rG 1 86 (nth (cK J) a2.aA).bI [] (fun mE=> ?_) (fun mE=> ?_)
      ·
       replace h:=h mE
       obtain⟨mF,h⟩:=h
       refine ux 6 (some 92) [(91,ab a2.aA),(90,aF 5 1),(89,bq (da false) a0.O),(88,aF 3 2),(87,.agg (sq J))] (da false) a0.O 5 mF ?_
       obtain⟨np,n5,n6,rv⟩:=h
       refine ZU 3 (some 95) [(94,bq cd (tS a0 a2)),(93,.dh (da false (nth a0.O a2.aA)) 4)] [.agg (sq J),bq cd (tS a0 a2)] (Up (kE J) (tS a0 a2) rv) (af.cons (cL.agg (af.cons (.bool _) (af.cons (n_ (sz:=1) (by simp) rfl (vc) np) (af.cons (n_ (sz:=2) (by simp) rfl (xg) n5) (af.cons (vR (s:=3) (ws:=(aK J).O) (ids:=(ee J)) (bs:=(ed J)) (by simp) rfl (fun id k h=>by simpa using h) n6.1 n6.2.1 n6.2.2) af.nil))))) (af.cons (cL.hW cj) af.nil)) ?_
       exact lb [(81,an (hd (kE J) (tS a0 a2))),(96,an (hd (kE J) (tS a0 a2)))] trivial (by simp only[fu,gS,mD,mE,nX,nW,nV,nh,ng,mv]<;>kernel_rfl)
      ·
       exact lb ([(81,an false),(96,an false)]++gg [95,94,93,92,91,90,89,88,87]) trivial (by simp only[fu,gS,mD,mE,nX,nW,nV,nh,ng,mv]<;>kernel_rfl)
     unfold K8 at h
     refine dp (fun ud=> ?_) (fun ud=> ?_)
     ·
      replace h:=h.1 ud
      refine n9 [] 20 agH agI [] ?_
      obtain⟨nq,h⟩:=h
      refine ZW 7 none [(102,.ptr 2 0 (hV a2) 0),(101,.ptr 2 0 (hV a2) 0),(100,ab a0.ct),(99,aF 3 4),(98,.ptr 2 0 (hV a2) 0),(97,.ptr 2 0 (hV a2) 0)] (zP J) a2.aA 0 1 0 [ab 3] (fun r=>qU Tryz.prog (jm TL 256942) [1,2,3] [(102,.ptr 2 0 (hV a2) 0),(101,.ptr 2 0 (hV a2) 0),(100,ab a0.ct),(99,aF 3 4),(98,.ptr 2 0 (hV a2) 0),(97,.ptr 2 0 (hV a2) 0),(81,an (mv a0 J a2)),(11,.ptr 2 0 (hV a2) 0),(8,ab 0),(7,aF 7 0),(6,aF 6 0),(5,aF 5 0),(4,aF 4 0),(3,aF 3 0)] [(7,(iS J)),(6,nf),(5,(fJ a2)),(4,(sq J)),(3,(hB a0))] ((fun r=>(⟨0,1,List.map aP (ea J)⟩::⟨0,2,List.map a1 (dE J)⟩::⟨0,5,r⟩::List.map bh (ed J))) r)) (fun r=>(⟨0,1,List.map aP (ea J)⟩::⟨0,2,List.map a1 (dE J)⟩::⟨0,5,r⟩::List.map bh (ed J))) (aR 3 (so J a2) (ee J)) (dx nq.1 nq.2) (kw nq.1 nq.2) (vz (ψ:=((true=true∧true=true∧((.ptr 2 0 (hV a2) 0:AV)= .ptr 2 0 (hV a2) 0))∧((true=true∧true=true∧((aF 3 4:AV)=aF 3 4))∧((true=true∧true=true∧((ab a0.ct:AV)=ab a0.ct))∧True)))) (by kernel_rfl) ⟨⟨rfl,rfl,rfl⟩,⟨⟨rfl,rfl,rfl⟩,⟨⟨rfl,rfl,rfl⟩,trivial⟩⟩⟩) ?_
      obtain⟨l1,h⟩:=h
      refine ZW 3 none [(104,.ptr 2 0 (hV a2) 4),(103,.ptr 2 0 (hV a2) 0)] (aR 3 (so J a2) (ee J)) a2.aA 4 1 0 [ab a0.ct] (fun _=>True) (fun r=>(⟨0,1,List.map aP (ea J)⟩::⟨0,2,List.map a1 (dE J)⟩::⟨0,5,r⟩::List.map bh (ed J))) (aR 3 (zM a0 J a2) (ee J)) (dx l1.1 l1.2) (kw l1.1 l1.2) trivial ?_
      refine Bh [] ?_
      refine bT.normal ?_
      refine bT.normal ?_
      exact gI.normal ((ed J),(ea J),(dE J),(ee J),0,(zM a0 J a2)) h (hg (s':=⟨sr,(sp a0 J),(TT a0 J a2)⟩) (di (n:=200) (A':=zR) (L':=(sp a0 J)) [5]) (congrArg (fun z=>(⟨sr,[(7,(iS J)),(6,nf),(4,[an (gQ J),ap 0 0 (oL J),ap 1 0 (dE J).length,ap 2 0 z]),(3,(hB a0))],(TT a0 J a2)⟩:St)) (show(cK J).length=(zM a0 J a2).length by simp)))
     ·
      replace h:=h.2 ud
      refine bo [] 16 ?_
      obtain⟨qm,h⟩:=h
      refine vP 5 (some 66) [(65,ab a2.aA),(64,aF 5 1),(63,.agg (hB a0)),(62,.ptr 2 0 (hV a2) 0)] [.agg (hB a0),ab a2.aA] (.agg (TO a0 J a2)) (⟨0,1,List.map aP (ea J)⟩::⟨0,2,List.map a1 (dE J)⟩::⟨0,5,aR 3 (cK J) (ee J)⟩::List.map bh ((ed J)++[(cM a0 a2.aA).ah])) (Gc a0 a2.aA qm) (af.cons (cL.agg (af.cons (.int _ _) (af.cons cj (af.cons cj (af.cons cj (af.cons (.int _ _) af.nil)))))) (af.cons (cL.hW (.int _ _)) af.nil)) (sD (fun _=>rfl) rfl) (sN (sM (fun _=>rfl) rfl) (by simp only[List.cons_append,List.map_nil,ti])) ?_ (er:=by simp[nt,oZ,iY])
      obtain⟨nr,h⟩:=h
      refine ki 2 none [(67,.ptr 2 0 (hV a2) 0)] (zP J) a2.aA 0 5 0 (TO a0 J a2) 2 (aR 3 (zN a0 J a2) (CV J a2)) (dx nr.1 nr.2) (zl nr.1) ?_
      refine dM [] ?_
      refine bT.normal ?_
      refine bT.normal ?_
      exact gI.normal (((ed J)++[(cM a0 a2.aA).ah]),(ea J),(dE J),(CV J a2),0,(zN a0 J a2)) h (hg (s':=⟨sr,(sp a0 J),(TM a0 J a2)⟩) (di (n:=200) (A':=zR) (L':=(sp a0 J)) [5]) (congrArg (fun z=>(⟨sr,[(7,(iS J)),(6,nf),(4,[an (gQ J),ap 0 0 (oL J),ap 1 0 (dE J).length,ap 2 0 z]),(3,(hB a0))],(TM a0 J a2)⟩:St)) (show(cK J).length=(zN a0 J a2).length by simp)))
   ·
    replace h:=h.2 gS
    refine cc [(105,an (ng a2))] xo (True) ?_ (fun ns=> ?_)
    ·
     refine dY [] 21 [(105,an (a2.op==3)),(106,an (a2.op==3))] [1] xo ?_
     refine dp (fun pJ=> ?_) (fun pJ=> ?_)
     ·
      refine d_ ?_
      exact bP.normal trivial (dU (by simp only[fu,gS,pJ,nX,nW,nV,nh,ng,mv]<;>kernel_rfl))
     ·
      refine bo [] 22 ?_
      exact bJ [(105,an (a2.op==4)),(107,an (a2.op==4))] trivial (by simp only[fu,gS,pJ,nX,nW,nV,nh,ng,mv]<;>kernel_rfl)
    unfold K2 at h
    refine dp (fun pK=> ?_) (fun pK=> ?_)
    ·
     replace h:=h.1 pK
     refine bo [] 23 ?_
     obtain⟨aal,h⟩:=h
     refine l3 8 (some 115) [(114,an (a2.op==3)),(113,ab a2.op),(112,aF 5 0),(111,ab a2.aA),(110,aF 5 1),(109,ap 0 0 (oL J)),(108,aF 4 1)] 0 0 1 aal ?_
     refine vQ 1 none [] aP (ea J) a2.aA 0 1 0 [an (a2.op==3)] 0 (a2.op==3) (by simpa using aal.2) ?_
     refine dM [] ?_
     refine bT.normal ?_
     exact gI.normal ((ed J),(CU J a2),(dE J),(ee J),0,(cK J)) h (hg (s':=⟨sr,(sp a0 J),(TN J a2)⟩) (di (n:=200) (A':=zR) (L':=(sp a0 J)) [5]) (congrArg (fun z=>(⟨sr,[(7,(iS J)),(6,nf),(4,[an (gQ J),ap 0 0 z,ap 1 0 (dE J).length,ap 2 0 (cK J).length]),(3,(hB a0))],(TN J a2)⟩:St)) (show(ea J).length=(CU J a2).length by simp)))
    ·
     replace h:=h.2 pK
     refine dY [] 24 [(116,an (a2.op==5)),(117,an (a2.op==5))] [1] xo ?_
     refine dp (fun oV=> ?_) (fun oV=> ?_)
     ·
      replace h:=h.1 oV
      refine bo [] 25 ?_
      obtain⟨aam,h⟩:=h
      refine l3 7 (some 124) [(123,ab a2.bj),(122,aF 5 2),(121,ab a2.aA),(120,aF 5 1),(119,ap 1 0 (dE J).length),(118,aF 4 2)] 1 0 2 aam ?_
      refine vQ 2 none [(125,.ptr 1 0 (hV a2) 1)] a1 (dE J) a2.aA 1 1 0 [ab a2.bj] 1 (bx.mk (nth (dE J) a2.aA).dc a2.bj) (by simpa using aam.2) ?_
      refine dM [] ?_
      refine bT.normal ?_
      exact gI.normal ((ed J),(ea J),(CQ J a2),(ee J),0,(cK J)) h (hg (s':=⟨sr,(sp a0 J),(TQ J a2)⟩) (di (n:=200) (A':=zR) (L':=(sp a0 J)) [5]) (congrArg (fun z=>(⟨sr,[(7,(iS J)),(6,nf),(4,[an (gQ J),ap 0 0 (oL J),ap 1 0 z,ap 2 0 (cK J).length]),(3,(hB a0))],(TQ J a2)⟩:St)) (show(dE J).length=(CQ J a2).length by simp)))
     ·
      replace h:=h.2 oV
      refine dY [] 26 [(126,an (a2.op==6)),(127,an (a2.op==6))] [1] xo ?_
      unfold K1 at h
      refine dp (fun k9=> ?_) (fun k9=> ?_)
      ·
       replace h:=h.1 k9
       refine fg 4 ?_
       obtain⟨vJ,h⟩:=h
       refine cc [(136,an (zO a0 J a2))] [0,2,6] ((gC a0 (kE J) a2.aA).length≤4611686018427387904) ?_ (fun G4=> ?_)
       ·
        replace h:=vJ
        refine bo [] 28 ?_
        obtain⟨ry,ue,vF,Ds⟩:=h
        refine mH 5 (some 141) [(140,ab a2.aA),(139,aF 5 1),(138,.agg (sq J)),(137,.agg (hB a0))] [.agg (hB a0),.agg (sq J),ab a2.aA] (Lq a0 (kE J) a2.aA Ds) (af.cons (cL.agg (af.cons (.int _ _) (af.cons cj (af.cons cj (af.cons cj (af.cons (.int _ _) af.nil)))))) (af.cons (cL.agg (af.cons (.bool _) (af.cons (n_ (sz:=1) (by simp) rfl (vc) ry) (af.cons (n_ (sz:=2) (by simp) rfl (xg) ue) (af.cons (vR (s:=3) (ws:=(aK J).O) (ids:=(ee J)) (bs:=(ed J)) (by simp) rfl (fun id k h=>by simpa using h) vF.1 vF.2.1 vF.2.2) af.nil))))) (af.cons (cL.hW (.int _ _)) af.nil))) ?_
        refine sLen 1 (some 142) [] cd (gC a0 (kE J) a2.aA) (fun Ay=> ?_)
        exact bJ [(136,an (zO a0 J a2)),(143,an (zO a0 J a2))] Ay
       replace h:=h G4
       unfold La at h
       refine dp (fun uf=> ?_) (fun uf=> ?_)
       ·
        replace h:=h.1 uf
        refine bo [] 29 ?_
        refine dM [(8,ab 2)] ?_
        refine bT.normal ?_
        refine bT.normal ?_
        exact gI.normal ((ed J),(ea J),(dE J),(ee J),2,(cK J)) h (di [5])
       ·
        replace h:=h.2 uf
        obtain⟨vI,h⟩:=h
        refine cc [(144,an (zQ a0 J a2))] [0,1,6] (True) ?_ (fun vG=> ?_)
        ·
         replace h:=vI
         refine n9 [] 30 agJ agK [] ?_
         obtain⟨sI,h⟩:=h
         refine ux 7 (some 151) [(150,ab a2.aA),(149,aF 5 1),(148,bq cd a0.bb),(147,aF 3 1),(146,ap 0 0 (oL J)),(145,aF 4 1)] cd a0.bb 1 sI ?_
         have aap:=h
         refine yl 2 (some 153) [(152,ab (nth a0.bb a2.aA))] 0 0 1 aap ?_
         refine Bi 1 (some 154) [] aP (ea J) (nth a0.bb a2.aA) 4 0 0 (an (zQ a0 J a2)) (by simpa using aap.2) ?_
         exact lb [(144,an (zQ a0 J a2))] trivial
        unfold K_ at h
        refine dp (fun vH=> ?_) (fun vH=> ?_)
        ·
         replace h:=h.1 vH
         refine bo [] 31 ?_
         refine dM [(8,ab 3)] ?_
         refine bT.normal ?_
         refine bT.normal ?_
         exact gI.normal ((ed J),(ea J),(dE J),(ee J),3,(cK J)) h (di [5])
        ·
         replace h:=h.2 vH
         refine bo [] 27 ?_
         obtain⟨aan,h⟩:=h
         refine l3 7 (some 134) [(133,ab a2.bj),(132,aF 5 2),(131,ab a2.aA),(130,aF 5 1),(129,ap 1 0 (dE J).length),(128,aF 4 2)] 1 0 2 aan ?_
         refine vQ 2 none [(135,.ptr 1 0 (hV a2) 0)] a1 (dE J) a2.aA 0 1 0 [ab a2.bj] 1 (bx.mk a2.bj (nth (dE J) a2.aA).bm) (by simpa using aan.2) ?_
         refine dM [] ?_
         refine bT.normal ?_
         refine bT.normal ?_
         exact gI.normal ((ed J),(ea J),(CR J a2),(ee J),0,(cK J)) h (hg (s':=⟨sr,(sp a0 J),(TR J a2)⟩) (di (n:=200) (A':=zR) (L':=(sp a0 J)) [5]) (congrArg (fun z=>(⟨sr,[(7,(iS J)),(6,nf),(4,[an (gQ J),ap 0 0 (oL J),ap 1 0 z,ap 2 0 (cK J).length]),(3,(hB a0))],(TR J a2)⟩:St)) (show(dE J).length=(CR J a2).length by simp)))
      ·
       replace h:=h.2 k9
       refine dY [] 32 [(155,an (a2.op==7)),(156,an (a2.op==7))] [1] [0,2,3,1,2] ?_
       refine dp (fun n8=> ?_) (fun n8=> ?_)
       ·
        replace h:=h.1 n8
        refine dY [] 33 [(160,ab 0),(159,ab ((cK J).length:Int)),(158,ap 2 0 (cK J).length),(157,aF 4 3)] [2] [0,1,5] ?_
        unfold K0 at h
        refine fg 5 ?_
        obtain⟨MJ,h⟩:=h
        refine kq (fun(v:List (List Bool)×List Nat×Int×List aq)=>(⟨(bd 200 [(3,aF 3 0),(4,aF 4 0),(6,aF 6 0),(7,aF 7 0),(8,ab 0),(159,ab ((cK J).length:Int)),(160,ab (v.2.2.1))]),[(7,(iS J)),(6,nf),(4,[an (gQ J),ap 0 0 (oL J),ap 1 0 (dE J).length,ap 2 0 (v.2.2.2).length]),(3,(hB a0))],(⟨0,1,List.map aP (ea J)⟩::⟨0,2,List.map a1 (dE J)⟩::⟨0,5,aR 3 (v.2.2.2) (v.2.1)⟩::List.map bh (v.1))⟩:St)) (fun(v:List (List Bool)×List Nat×Int×List aq)=>aU (v.1) (v.2.1) (v.2.2.1) (v.2.2.2)) (fun(v:List (List Bool)×List Nat×Int×List aq)=>m1 (v.1) (v.2.1) (v.2.2.1) (v.2.2.2)) ((ed J),(ee J),0,(aK J).O) (di [5]) MJ (fun v aJ=> ?_)
        obtain⟨cb,aE,v160,ws2⟩:=v
        replace h:=h cb aE v160 ws2 aJ
        dsimp only
        refine dY [] 34 [(161,an (CS J v160))] [1] [7] ?_
        obtain⟨MI,h⟩:=h
        refine cc [] xo ((CS J v160)=true) ?_ (fun xW=> ?_)
        ·
         replace h:=MI
         refine dp (fun vK=> ?_) (fun vK=> ?_)
         ·
          refine d_ ?_
          exact bP.normal (by simp only[fu,gS,pK,oV,k9,n8,vK,nX,nW,nV,nh,ng,mv]<;>rfl) dU
         ·
          replace h:=h vK
          refine jf 5 ?_
          refine bP.exit ?_
          refine dO.exit ?_
          refine bT.here ?_
          refine bT.normal ?_
          exact gI.normal (cb,(ea J),(dE J),aE,0,ws2) h (di [])
        replace h:=h xW
        unfold KZ at h
        obtain⟨MH,h⟩:=h
        obtain⟨pV,ug⟩: ∃w:List aq,(nV a0 v160 ws2)=w:=⟨_,rfl⟩
        obtain⟨rK,rz⟩: ∃w:List Nat,(nX cb aE v160 ws2)=w:=⟨_,rfl⟩
        obtain⟨rL,AA⟩: ∃w:List (List Bool),(nW a0 cb v160 ws2)=w:=⟨_,rfl⟩
        refine eU [] [7] id (fun _=>(Lh J pV rK rL)) (True) ?_ (fun G5=> ?_)
        ·
         replace h:=MH
         refine fg 6 ?_
         refine dY [] 35 [(12,ab v160),(162,ab v160)] [1] [7] ?_
         obtain⟨MG,h⟩:=h
         refine cc [(13,.ptr 2 0 (nY v160) 0)] [8] (True) ?_ (fun akc=> ?_)
         ·
          replace h:=MG
          refine bo [] 36 ?_
          have anT:=h
          refine l3 4 (some 166) [(165,ab v160),(164,ap 2 0 ws2.length),(163,aF 4 3)] 2 0 5 anT ?_
          exact bJ [(13,.ptr 2 0 (nY v160) 0)] trivial
         obtain⟨MF,h⟩:=h
         refine cc [(171,an (xl v160 ws2))] [9] (True) ?_ (fun aop=> ?_)
         ·
          replace h:=MF
          refine bo [] 37 ?_
          have AB:=h
          refine iX 4 (some 170) [(169,.ptr 2 0 (nY v160) 0),(168,.ptr 2 0 (nY v160) 0),(167,.ptr 2 0 (nY v160) 0)] (aR 3 ws2 aE) v160 3 0 0 (ab (nth ws2 v160).ar) (dx AB.1 AB.2) ?_
          exact bJ [(171,an (xl v160 ws2))] trivial
         refine dp (fun Du=> ?_) (fun Du=> ?_)
         ·
          replace h:=h Du
          obtain⟨G3,h⟩:=h
          refine eU [] [0,1,9] id (fun H=>eh 2 ⟨0,5,aR 3 (oK v160 ws2) aE⟩ H) (True) ?_ (fun Xb=> ?_)
          ·
           replace h:=G3
           refine bo [] 38 ?_
           obtain⟨G6,h⟩:=h
           refine iX 4 (some 175) [(174,.ptr 2 0 (nY v160) 4),(173,.ptr 2 0 (nY v160) 0),(172,.ptr 2 0 (nY v160) 0)] (aR 3 ws2 aE) v160 3 4 0 (ab (nth ws2 v160).bG) (dx G6.1 G6.2) ?_
           have sJ:=h
           refine ki 4 none [(178,.ptr 2 0 (nY v160) 4),(177,.ptr 2 0 (nY v160) 0),(176,ab (IntKind.i64.wrap ((nth ws2 v160).bG - 1)))] (aR 3 ws2 aE) v160 4 1 0 [ab (IntKind.i64.wrap ((nth ws2 v160).bG - 1))] 2 (aR 3 (oK v160 ws2) aE) (dx sJ.1 sJ.2) (kw sJ.1 sJ.2) ?_
           exact bJ [] trivial
          unfold Lc at h
          obtain⟨G2,h⟩:=h
          refine cc [(183,an (xk v160 ws2))] [9] (True) ?_ (fun MD=> ?_)
          ·
           replace h:=G2
           refine bo [] 39 ?_
           have G1:=h
           refine iX 4 (some 182) [(181,.ptr 2 0 (nY v160) 4),(180,.ptr 2 0 (nY v160) 0),(179,.ptr 2 0 (nY v160) 0)] (aR 3 (oK v160 ws2) aE) v160 3 4 0 (ab (nth (oK v160 ws2) v160).bG) (dx G1.1 G1.2) ?_
           exact bJ [(183,an (xk v160 ws2))] trivial
          unfold Lb at h
          refine dp (fun xV=> ?_) (fun xV=> ?_)
          ·
           replace h:=h xV
           refine bo [] 40 ?_
           obtain⟨ME,h⟩:=h
           refine vP 4 (some 187) [(186,ab v160),(185,.agg (hB a0)),(184,.ptr 2 0 (nY v160) 0)] [.agg (hB a0),ab v160] (.agg (TU a0 cb v160)) (⟨0,1,List.map aP (ea J)⟩::⟨0,2,List.map a1 (dE J)⟩::⟨0,5,aR 3 (oK v160 ws2) aE⟩::List.map bh (cb++[(cM a0 v160).ah])) (Gc a0 v160 ME) (af.cons (cL.agg (af.cons (.int _ _) (af.cons cj (af.cons cj (af.cons cj (af.cons (.int _ _) af.nil)))))) (af.cons (cL.hW (.int _ _)) af.nil)) (sD (fun _=>rfl) rfl) (sN (sM (fun _=>rfl) rfl) (by simp only[List.cons_append,List.map_nil,ti])) ?_ (er:=by simp[nt,oZ,iY])
           have Aw:=h
           refine ki 2 none [(188,.ptr 2 0 (nY v160) 0)] (aR 3 (oK v160 ws2) aE) v160 0 5 0 (TU a0 cb v160) 2 (aR 3 (Lg a0 v160 ws2) (aE.set v160.toNat cb.length)) (dx Aw.1 Aw.2) (zl Aw.1) ?_
           refine dM [] ?_
           refine bT.normal ?_
           exact bP.normal trivial (by simp only[←ug,←rz,←AA,fu,gS,pK,oV,k9,n8,xW,Du,xV,cond_true,cond_false,nX,nW,nV,nh,ng,mv];exact dU)
          ·
           refine d_ ?_
           refine bT.normal ?_
           exact bP.normal trivial (by simp only[←ug,←rz,←AA,fu,gS,pK,oV,k9,n8,xW,Du,xV,cond_true,cond_false,nX,nW,nV,nh,ng,mv];exact dU)
         ·
          refine d_ ?_
          refine bT.normal ?_
          exact bP.normal trivial (by simp only[←ug,←rz,←AA,fu,gS,pK,oV,k9,n8,xW,Du,cond_true,cond_false,nX,nW,nV,nh,ng,mv];exact dU)
        replace h:=h pV ug
        have afb:pV.length=ws2.length:=by rw[←ug];repeat' apply C1;all_goals simp
        replace h:=h rK rz
        replace h:=h rL AA
        refine bo [] 41 ?_
        refine dM [(160,ab (xm v160)),(189,ab (xm v160))] ?_
        exact dO.again (rL,rK,(xm v160),pV) h (hg (s':=⟨(bd 200 (Lf J v160)),(TY a0 J ws2),(Lh J pV rK rL)⟩) (di (n:=200) (A':=(Lf J v160)) (L':=(TY a0 J ws2)) []) (congrArg (fun z=>(⟨(bd 200 (Lf J v160)),[(7,(iS J)),(6,nf),(4,[an (gQ J),ap 0 0 (oL J),ap 1 0 (dE J).length,ap 2 0 z]),(3,(hB a0))],(Lh J pV rK rL)⟩:St)) (show ws2.length=pV.length by simp[afb])))
       ·
        replace h:=h.2 n8
        refine d_ ?_
        refine bT.normal ?_
        exact gI.normal ((ed J),(ea J),(dE J),(ee J),0,(cK J)) h (di [5])
 obtain⟨cb,aM,aL,aE,db,ws2⟩:=v
 replace h:=h cb aM aL aE db ws2 cP
 dsimp only
 unfold K5 at h
 obtain⟨aj9,h⟩:=h
 refine cc [] [3] ((!(db !=0))=true) ?_ (fun MK=> ?_)
 ·
  replace h:=aj9
  refine dY [] 42 [(191,an (db !=0)),(190,ab db)] [1] [5] ?_
  refine dp (fun Dq=> ?_) (fun Dq=> ?_)
  ·
   replace h:=h Dq
   obtain⟨MM,h⟩:=h
   refine eU [] [0,3,1] (fun L=>er 1 (Lj J db) L) id (True) ?_ (fun W7=> ?_)
   ·
    replace h:=MM
    refine bo [] 43 ?_
    have ML:=h
    refine mH 3 (some 194) [(193,.agg (iS J)),(192,ab db)] [.agg (iS J)] (TK J ML) (af.cons (cL.agg (af.cons (.bool _) (af.cons cj (af.cons cj (af.cons cj af.nil))))) af.nil) ?_
    exact bJ [(195,.agg (Lj J db))] trivial
   exact hh (bP.ret (oW (.agg (Lj J db)) (iw.agg (af.cons (yg h.1) (af.cons (oh (congrArg (fun q=>q.ok) h.2)) (af.cons (yh (congrArg (fun q=>q.aN) h.2)) (af.cons (yh (congrArg (fun q=>q.aH) h.2)) (af.cons (yh (congrArg (fun q=>q.O) h.2)) af.nil))))))))
  ·
   refine d_ ?_
   exact bP.normal (by simp only[Dq,nX,nW,nV,nh,ng,mv]<;>rfl) dU
 replace h:=h MK
 obtain⟨aj8,h⟩:=h
 refine eU [] [0,2,1] (fun L=>er 1 (Ld a0 J aL cb aE ws2 aM) L) id (True) ?_ (fun W8=> ?_)
 ·
  replace h:=aj8
  refine bo [] 44 ?_
  obtain⟨aj5,aj6,MN,aj7⟩:=h
  refine mH 3 (some 198) [(197,.agg [an (gQ J),ap 0 0 aM.length,ap 1 0 aL.length,ap 2 0 ws2.length]),(196,.agg (hB a0))] [.agg (hB a0),.agg [an (gQ J),ap 0 0 aM.length,ap 1 0 aL.length,ap 2 0 ws2.length]] (ahc a0 (Frame.mk (gQ J) aM aL (view ws2 aE cb)) aj7) (af.cons (cL.agg (af.cons (.int _ _) (af.cons cj (af.cons cj (af.cons cj (af.cons (.int _ _) af.nil)))))) (af.cons (cL.agg (af.cons (.bool _) (af.cons (n_ (sz:=1) (by simp) rfl (vc) aj5) (af.cons (n_ (sz:=2) (by simp) rfl (xg) aj6) (af.cons (vR (s:=3) (ws:=ws2) (ids:=aE) (bs:=cb) (by simp) rfl (fun id k h=>by simpa using h) MN.1 MN.2.1 MN.2.2) af.nil))))) af.nil)) ?_
  exact bJ [(199,.agg (Ld a0 J aL cb aE ws2 aM))] trivial
 exact hh (oW (.agg (Ld a0 J aL cb aE ws2 aM)) (iw.agg (af.cons (yg h.1) (af.cons (oh (congrArg (fun q=>q.ok) h.2)) (af.cons (yh (congrArg (fun q=>q.aN) h.2)) (af.cons (yh (congrArg (fun q=>q.aH) h.2)) (af.cons (yh (congrArg (fun q=>q.O) h.2)) af.nil)))))))
theorem agD (ae:IS a0 J a2):bc Tryz.prog 29 [.agg (hB a0),.agg (iS J),.agg (fJ a2)] (.agg (nJ true (lh a0 J a2))):=agL a0 J a2 (lh a0 J a2) (fun x v=>bW (bE (nth a0.O a2.aA)).length (fun _=>false) v∧x=j2 ((bE (nth a0.O a2.aA)).take v.toNat) J.aH) (fun _ v=>cg (bE (nth a0.O a2.aA)).length v) (fun bs is v ws=>bW J.O.length (fun _=>false) v∧fP ws is bs∧view ws is bs=h8 a0 v.toNat J.O) (fun _ _ v _=>cg J.O.length v) (fun bs o q is c ws=>fP ws is bs∧c=e1 a0 J a2∧(c=0→Frame.mk J.ok o q (view ws is bs)=iz a0 J a2)) (by
 unfold KX
 obtain⟨hf,he⟩:=ae
 have hs:=zd hf
 have mu:=hs
 obtain⟨pW,z2,z3,z4⟩:=mu
 have ci:=hf.in
 have cO:=hf.fr
 have aw:=cO.O
 have nS:=cO.aN
 have k0:=cO.aH
 have Cu:=ci.O
 have tE:=ci.cx
 have zB:=ci.be
 obtain⟨dG,et,eN⟩:=wO J.O
 have mU:fP J.O (List.range J.O.length) (J.O.map aq.ah):=⟨dG,et,fun b hb=>by
  obtain⟨h,bz,rfl⟩:=List.mem_map.1 hb;exact z4 h bz⟩
 have r_:Frame.mk (aK J).ok (aK J).aN (aK J).aH (view (aK J).O (List.range (aK J).O.length) (List.map aq.ah (aK J).O))=J:=by
  show Frame.mk J.ok J.aN J.aH (view J.O (List.range J.O.length) (List.map aq.ah J.O))=J
  rw[eN]
 have lm:(aK J).O.length=(List.range (aK J).O.length).length:=by rw[List.length_range]
 have gN:(aK J).aN.length≤4611686018427387904∧(aK J).aH.length≤4611686018427387904∧(kQ (aK J).O (List.range (aK J).O.length) (List.map aq.ah (aK J).O)∧(aK J).O.length≤4611686018427387904∧(∀x∈(List.map aq.ah (aK J).O),List.length x≤4611686018427387904)):=
  ⟨by show J.aN.length≤_;omega,by show J.aH.length≤_;omega,dG,by show J.O.length≤_;omega,fun x hx=>by have:=mU.len x hx;omega⟩
 have ms: ∀c:Int,c=e1 a0 J a2→c≠0→fP J.O (List.range J.O.length) (J.O.map aq.ah)∧c=e1 a0 J a2∧(c=0→Frame.mk J.ok J.aN J.aH (view J.O (List.range J.O.length) (J.O.map aq.ah))=iz a0 J a2):=fun c hc bU=>⟨mU,hc,fun h=>absurd h bU⟩
 refine⟨hs,?_,fun bs o q is c ws cP=> ?_⟩
 ·unfold K4 kE ee ed gQ dE ea cK
  refine⟨fun h1=> ?_,fun h1=> ?_⟩
  ·have h1:a2.op=1:=by simpa using h1
   have a6:=tg he (.inl h1)
   have tt:e1 a0 J a2=gj a0 J a2.aA:=by unfold e1;rw[if_pos h1]
   unfold K7 tQ nU ke kE ee ed gQ dE ea cK
   rw[r_]
   refine⟨⟨gN.1,gN.2.1,gN.2.2,hf,a6.1,a6.2⟩,fun aB=> ?_,fun aB=> ?_⟩
   ·have aB:gj a0 J a2.aA=0:=by simpa using aB
    have aQ:a2.aA.toNat<J.O.length:=by omega
    refine⟨⟨⟨a6.1,aQ⟩,lm,aQ⟩,⟨⟨a6.1,by omega⟩,?_⟩,fun hm=>⟨⟨cT (cN _),rfl⟩,fun x v aJ=> ?_⟩⟩
    ·have:=ci.bm _ (dz (show a2.aA.toNat<a0.O.length by omega))
     exact⟨by omega,by omega⟩
    obtain⟨aJ,rfl⟩:=aJ
    unfold K6 KY CT xn nU xp tU ke tR kE ee ed gQ dE ea cK
    rw[r_]
    refine⟨fun hv=> ?_,fun hv=>⟨⟨bX aJ hv,?_⟩,⟨(cw (b5 hm) aJ hv rfl).1,?_⟩,(cw (b5 hm) aJ hv rfl).2⟩⟩
    ·have dd:=(mU.at' aQ).setState 1
     refine⟨dd.G,tt.symm,fun _=> ?_⟩
     have jW: ¬v<((bE (nth a0.O a2.aA)).length:Int):=by simpa using hv
     have gp:=aJ.1
     have kc:=dd.ht
     rw[eN] at kc
     unfold iz
     rw[if_pos h1]
     rw[show view ((aK J).O.set a2.aA.toNat (aq.mk 1 (nth (aK J).O a2.aA).a7 (nth (aK J).O a2.aA).ah (nth (aK J).O a2.aA).bI (nth (aK J).O a2.aA).bG)) (List.range (aK J).O.length) (List.map aq.ah (aK J).O)=_ from kc,List.take_of_length_le (by omega)]
     rfl
    ·rw[DG]
     have:=(ci.bm _ (dz (show a2.aA.toNat<a0.O.length by omega))).2.2 _ (dz (bX aJ hv).2)
     omega
    ·have b3:=bX aJ hv
     rw[hL (b5 hm) aJ.1 (by simpa using hv),show(v+1).toNat=v.toNat+1 by have:=aJ.1;omega,XP b3.2,←fU b3.2]
   ·have aB: ¬gj a0 J a2.aA=0:=by simpa using aB
    exact ms _ tt.symm aB
  have h1: ¬a2.op=1:=by simpa using h1
  unfold K3 qc tQ ee cK
  refine⟨fun h2=> ?_,fun h2=> ?_⟩
  ·have h2:a2.op=2:=by simpa using h2
   have a6:=tg he (.inr h2)
   have aQ:a2.aA.toNat<J.O.length:=by omega
   have zs:a2.aA.toNat<a0.O.length:=by omega
   have ka:e1 a0 J a2=if(nth J.O a2.aA).ar≠1∧(nth J.O a2.aA).ar≠2 then 2 else 0:=by unfold e1;rw[if_neg h1,if_pos h2]
   refine⟨⟨a6.1,aQ⟩,⟨⟨lm,aQ⟩,fun _=>⟨lm,aQ⟩⟩,?_⟩
   unfold K9 nh tS qc tQ kE ee ed gQ dE ea cK
   rw[r_]
   have p9:(((nth (aK J).O a2.aA).ar !=1)&&((nth (aK J).O a2.aA).ar !=2))=decide ((nth J.O a2.aA).ar≠1∧(nth J.O a2.aA).ar≠2):=by
    rw[Bool.eq_iff_iff];simp[aK]
   rw[p9]
   refine⟨fun hc=> ?_,fun hc=>⟨⟨⟨lm,aQ⟩,fun _=>⟨⟨a6.1,zs⟩,gN.1,gN.2.1,gN.2.2,fun x hx=> ?_⟩⟩,?_⟩⟩
   ·have hc:=of_decide_eq_true hc
    rw[if_pos hc] at ka
    exact ms 2 ka.symm (by decide)
   ·have:=(ci.ei _ (dz zs)).2 x hx;omega
   ·have hc:=of_decide_eq_false hc
    rw[if_neg hc] at ka
    have dd:=mU.at' aQ
    rw[eN] at dd
    unfold K8 mv tS CV tQ zN zM kE ee ed gQ dE ea so cK
    rw[r_]
    have aV: ∀X:Frame,X=(if((nth J.O a2.aA).bI&&hd J (nth a0.O a2.aA).ei)=true then{J with O:=J.O.set a2.aA.toNat {nth J.O a2.aA with ar:=3,bG:=a0.ct}} else{J with O:=J.O.set a2.aA.toNat (cM a0 a2.aA)})→X=iz a0 J a2:=fun X aeC=>by
     unfold iz;rw[if_neg h1,if_pos h2];exact aeC
    refine⟨fun U=>⟨⟨lm,aQ⟩,(dd.setState 3).fo,?_⟩,fun U=>⟨⟨ci,a6.1,a6.2⟩,⟨lm,aQ⟩,?_⟩⟩
    ·have fY:=(dd.setState 3).AJ a0.ct
     refine⟨fY.G,ka.symm,fun _=>aV _ ?_⟩
     have U:((nth J.O a2.aA).bI&&hd J (nth a0.O a2.aA).ei)=true:=U
     rw[if_pos U]
     have kc:=fY.ht
     exact congrArg (Frame.mk J.ok J.aN J.aH) kc
    ·have fY:=dd.new (cM a0 a2.aA) (by
      have:=(ci.ak _ (dz zs)).2.1
      show(List.replicate _ _).length≤_
      rw[List.length_replicate];omega)
     have PM:c6 J.O ((List.range (aK J).O.length).set a2.aA.toNat (List.map aq.ah (aK J).O).length) a2.aA (cM a0 a2.aA) ((aK J).O.set a2.aA.toNat (aq.mk (cM a0 a2.aA).ar (cM a0 a2.aA).a7 (cM a0 a2.aA).ah (cM a0 a2.aA).bI (cM a0 a2.aA).bG)) ((List.map aq.ah (aK J).O)++[(cM a0 a2.aA).ah]):=fY
     refine⟨PM.G,ka.symm,fun _=>aV _ ?_⟩
     have U: ¬((nth J.O a2.aA).bI&&hd J (nth a0.O a2.aA).ei)=true:=by
      have U:((nth J.O a2.aA).bI&&hd J (nth a0.O a2.aA).ei)=false:=U
      rw[U];simp
     rw[if_neg U,PM.ht];rfl
  have h2: ¬a2.op=2:=by simpa using h2
  have ok: ∀(o:List Bool) (q:List bx),e1 a0 J a2=0→iz a0 J a2={J with aN:=o,aH:=q}→fP J.O (List.range J.O.length) (J.O.map aq.ah)∧0=e1 a0 J a2∧((0:Int)=0→Frame.mk J.ok o q (view J.O (List.range J.O.length) (J.O.map aq.ah))=iz a0 J a2):=fun o q hc aV=>⟨mU,hc.symm,fun _=>by rw[eN,aV]⟩
  unfold K2 ng CU CQ ee ed dE ea cK
  rw[Dg]
  refine⟨fun au=> ?_,fun au=> ?_⟩
  ·have au:=of_decide_eq_true au
   have a6:=I_ he au
   refine⟨⟨a6.1,by show a2.aA.toNat<J.aN.length;omega⟩,ok _ _ ?_ ?_⟩
   ·unfold e1;rw[if_neg h1,if_neg h2,if_neg (by omega)]
   ·unfold iz;rw[if_neg h1,if_neg h2,if_pos au];rfl
  have au:=of_decide_eq_false au
  refine⟨fun bQ=> ?_,fun bQ=> ?_⟩
  ·have bQ:a2.op=5:=by simpa using bQ
   have a6:=za he (.inl bQ)
   refine⟨⟨a6.1,by show a2.aA.toNat<J.aH.length;omega⟩,ok _ _ ?_ ?_⟩
   ·unfold e1;rw[if_neg h1,if_neg h2,if_neg (by omega)]
   ·unfold iz;rw[if_neg h1,if_neg h2,if_neg au,if_pos bQ];rfl
  have bQ: ¬a2.op=5:=by simpa using bQ
  unfold K1 kE ee ed gQ dE ea cK
  refine⟨fun cv=> ?_,fun cv=>⟨fun gO=> ?_,fun gO=> ?_⟩⟩
  ·have cv:a2.op=6:=by simpa using cv
   have a6:=za he (.inr cv)
   have ka:e1 a0 J a2=if jl a0 J a2.aA=true then 2 else if kI a0 J a2.aA=true then 3 else 0:=by unfold e1;rw[if_neg h1,if_neg h2,if_pos cv]
   rw[r_]
   refine⟨⟨gN.1,gN.2.1,gN.2.2,hf,a6.1,a6.2⟩,fun _=> ?_⟩
   unfold La K_ zQ zO CR kE ee ed gQ dE ea cK
   rw[r_]
   have Kj:=ci.bb _ (dz (show a2.aA.toNat<a0.bb.length by omega))
   refine⟨fun hc=> ?_,fun hc=>⟨⟨⟨a6.1,by omega⟩,Kj.1,by show _<J.aN.length;omega⟩,fun ai=> ?_,fun ai=>⟨⟨a6.1,by show _<J.aH.length;omega⟩,ok _ _ ?_ ?_⟩⟩⟩
   ·rw[if_pos (show jl a0 J a2.aA=true from hc)] at ka
    exact ms 2 ka.symm (by decide)
   ·rw[if_neg (show ¬jl a0 J a2.aA=true by rw[show jl a0 J a2.aA=false from hc];simp),if_pos (show kI a0 J a2.aA=true from ai)] at ka
    exact ms 3 ka.symm (by decide)
   ·rw[if_neg (show ¬jl a0 J a2.aA=true by rw[show jl a0 J a2.aA=false from hc];simp),if_neg (show ¬kI a0 J a2.aA=true by rw[show kI a0 J a2.aA=false from ai];simp)] at ka
    exact ka
   ·unfold iz;rw[if_neg h1,if_neg h2,if_neg au,if_neg bQ,if_pos cv];rfl
  ·have gO:a2.op=7:=by simpa using gO
   unfold K0 CS ee ed dE ea cK
   refine⟨⟨cT (cN _),mU,eN⟩,fun bs is v ws aJ=> ?_⟩
   obtain⟨aJ,G,kc⟩:=aJ
   have xd:ws.length=J.O.length:=by rw[←i_ G.ok,kc,D_]
   refine⟨fun hv=>⟨G,?_,fun _=> ?_⟩,fun hv=> ?_⟩
   ·unfold e1;rw[if_neg h1,if_neg h2,if_neg (by omega)]
   ·have jW: ¬v<(J.O.length:Int):=by
     have hv:decide (v<(J.O.length:Int))=false:=hv
     simpa using hv
    have aG:=aJ.1
    have hb:=aJ.2.1
    rw[kc,show v.toNat=J.O.length by omega]
    unfold iz;rw[if_neg h1,if_neg h2,if_neg au,if_neg bQ,if_neg (by omega),if_pos gO];rfl
   ·have b3:=bX aJ hv
    have aQ:v.toNat<ws.length:=by omega
    have zs:v.toNat<a0.O.length:=by omega
    have dd:c6 (h8 a0 v.toNat J.O) is v (nth (h8 a0 v.toNat J.O) v) ws bs:=c6.start G.ok G.kF aQ kc G.len
    have aS:=cw (by omega) aJ hv rfl
    have si:=hL (show(J.O.length:Int)≤4611686018427387904 by omega) aJ.1 (by
     have hv:decide (v<(J.O.length:Int))=true:=hv
     simpa using hv)
    have w7:zH a0 v:=⟨ci,b3.1,by omega⟩
    have u3:(cM a0 v).ah.length≤1048576:=by
     have:=(ci.ak _ (dz zs)).2.1
     show(List.replicate _ _).length≤_
     rw[List.length_replicate];omega
    have eo:=dd.AJ (IntKind.i64.wrap ((nth ws v).bG - 1))
    have fin: ∀{cR:List Nat} {kP:List aq} {bs':List (List Bool)} {x:aq},c6 (h8 a0 v.toNat J.O) cR v x kP bs'→x=l8 a0 v.toNat (nth (h8 a0 v.toNat J.O) v)→(bW J.O.length (fun _=>false) (IntKind.i64.wrap (v+1))∧fP kP cR bs'∧view kP cR bs'=h8 a0 (IntKind.i64.wrap (v+1)).toNat J.O)∧cg J.O.length (IntKind.i64.wrap (v+1))<cg J.O.length v:=fun F hx=>by
     refine⟨⟨aS.1,F.G,?_⟩,aS.2⟩
     rw[F.ht,hx,si,show(v+1).toNat=v.toNat+1 by omega]
     show _=(h8 a0 v.toNat J.O).set v.toNat (l8 a0 v.toNat (nth (h8 a0 v.toNat J.O) (v.toNat:Int)))
     rw[kH b3.1]
    unfold KZ Lc Lb nX nW nV xl xk Lg xm oK
    refine⟨⟨⟨b3.1,aQ⟩,dd.fo,fun _=>⟨⟨dd.fo,dd.fo⟩,eo.fo,fun _=>⟨w7,eo.fo⟩⟩⟩,fun w hw i hi b hb=> ?_⟩
    have a6:(nth (ws.set v.toNat (aq.mk (nth ws v).ar (nth ws v).a7 (nth ws v).ah (nth ws v).bI (IntKind.i64.wrap ((nth ws v).bG - 1)))) v).bG=IntKind.i64.wrap ((nth ws v).bG - 1):=eo.bG
    rw[a6,dd.ar,dd.bG] at hw hi hb
    rw[dd.bG,dd.ar] at eo
    have JZ:cM a0 (v.toNat:Int)=cM a0 v:=by rw[Int.toNat_of_nonneg b3.1]
    cases au:((nth (h8 a0 v.toNat J.O) v).ar==3) with
    | false=>
     rw[au] at hw hi hb
     subst hw;subst hi;subst hb
     refine fin dd ?_
     unfold l8;rw[if_neg (by simpa using au)]
    | true=>
     rw[au] at hw hi hb
     cases az:(IntKind.i64.wrap ((nth (h8 a0 v.toNat J.O) v).bG - 1)==0) with
     | false=>
      rw[az] at hw hi hb
      subst hw;subst hi;subst hb
      refine fin eo ?_
      unfold l8;rw[if_pos (by simpa using au),if_neg (by simpa using az)]
     | true=>
      rw[az] at hw hi hb
      subst hw;subst hi;subst hb
      refine fin (eo.new (cM a0 v) u3) ?_
      unfold l8;rw[if_pos (by simpa using au),if_pos (by simpa using az),JZ]
  ·have gO: ¬a2.op=7:=by simpa using gO
   refine ok _ _ ?_ ?_
   ·unfold e1;rw[if_neg h1,if_neg h2,if_neg (by simpa using cv)]
   ·unfold iz;rw[if_neg h1,if_neg h2,if_neg au,if_neg bQ,if_neg (by simpa using cv),if_neg gO];rfl
 ·obtain⟨G,hc,aV⟩:=cP
  unfold K5 gQ
  refine⟨fun aB=>⟨hs,?_⟩,fun aB=> ?_⟩
  ·have aB: ¬c=0:=by simpa using aB
   unfold lh;rw[if_pos (by rw[←hc];exact aB)]
   exact⟨hc,rfl⟩
  ·have aB:c=0:=by simpa using aB
   have b3:=IR cO (tg he)
   rw[←aV aB] at b3
   have ai:=b3.aN
   have U:=b3.aH
   have hw:=b3.O
   have afT:(view ws is bs).length=a0.O.length:=hw
   rw[i_ G.ok] at afT
   replace ai:(o.length:Int)=a0.ak:=ai
   replace U:q.length=a0.bb.length:=U
   refine⟨⟨by omega,by omega,⟨G.ok,by omega,fun x hx=>by have:=G.len x hx;omega⟩,ci,b3⟩,?_⟩
   unfold lh;rw[if_neg (by rw[←hc,aB];simp)]
   exact⟨rfl,by rw[←aV aB];rfl⟩)
def agE:cZ Tryz.prog:=⟨29,[.dl,.frame,.e3],[.done],some fun x=>IS x.1 x.2.1 x.2.2.1,fun x=>((lh x.1 x.2.1 x.2.2.1),()),fun x h=>agD x.1 x.2.1 x.2.2.1 h⟩
end
section
abbrev qD (r:Type):Type:=Nat→(List fv)→Bool→(List Bool)→(List bx)→(List aq)→Int→r
variable (ad:qD Prop) (m0:qD Nat) (a0:aC) (J:(List Event)) (g0:Nat) (aM:(List fv)) (c7:Bool) (c8:(List Bool)) (c9:(List bx)) (c_:(List aq)) (dm:Int) (aa:(List fv))
abbrev pC:=lh a0 (Frame.mk c7 c8 c9 c_) (nth J dm)
abbrev CL:=[(fv.mk (pC a0 J c7 c8 c9 c_ dm).code (aK (pC a0 J c7 c8 c9 c_ dm).frame))]
abbrev CM:=[(fv.mk 1 (aK (aK (Frame.mk c7 c8 c9 c_))))]
def Tm:Prop:=
  ((aM.length+(CL a0 J c7 c8 c9 c_ dm).length)*88≤140737488355328∧aM.length+(CL a0 J c7 c8 c9 c_ dm).length≤4611686018427387904)∧(ad (g0+1) (aM++(CL a0 J c7 c8 c9 c_ dm)) (pC a0 J c7 c8 c9 c_ dm).frame.ok (pC a0 J c7 c8 c9 c_ dm).frame.aN (pC a0 J c7 c8 c9 c_ dm).frame.aH (pC a0 J c7 c8 c9 c_ dm).frame.O (IntKind.i64.wrap (dm+1))∧m0 (g0+1) (aM++(CL a0 J c7 c8 c9 c_ dm)) (pC a0 J c7 c8 c9 c_ dm).frame.ok (pC a0 J c7 c8 c9 c_ dm).frame.aN (pC a0 J c7 c8 c9 c_ dm).frame.aH (pC a0 J c7 c8 c9 c_ dm).frame.O (IntKind.i64.wrap (dm+1))<m0 g0 aM c7 c8 c9 c_ dm)
def Tn:Prop:=
  ((aM.length+(CM c7 c8 c9 c_).length)*88≤140737488355328∧aM.length+(CM c7 c8 c9 c_).length≤4611686018427387904)∧(ad (g0+1) (aM++(CM c7 c8 c9 c_)) c7 c8 c9 c_ (IntKind.i64.wrap (dm+1))∧m0 (g0+1) (aM++(CM c7 c8 c9 c_)) c7 c8 c9 c_ (IntKind.i64.wrap (dm+1))<m0 g0 aM c7 c8 c9 c_ dm)
def To:Prop:=
  (ho (Frame.mk c7 c8 c9 c_))∧(((e8 a0 (nth J dm))=true→(IS a0 (Frame.mk c7 c8 c9 c_) (nth J dm))∧((ho (pC a0 J c7 c8 c9 c_ dm).frame)∧(Tm ad m0 a0 J g0 aM c7 c8 c9 c_ dm)))∧((e8 a0 (nth J dm))=false→(ho (aK (Frame.mk c7 c8 c9 c_)))∧(Tn ad m0 g0 aM c7 c8 c9 c_ dm)))
def Tp:Prop:=
  ad 0 ([]:List fv) (dJ a0).ok (dJ a0).aN (dJ a0).aH (dJ a0).O 0∧ ∀(g0:Nat) (aM:(List fv)) (c7:Bool) (c8:(List Bool)) (c9:(List bx)) (c_:(List aq)) (dm:Int),ad g0 aM c7 c8 c9 c_ dm→(((decide (dm<(J.length:Int)))=false→aM.length≤4611686018427387904∧aM=aa)∧((decide (dm<(J.length:Int)))=true→(0≤dm∧dm.toNat<J.length)∧(To ad m0 a0 J g0 aM c7 c8 c9 c_ dm)))
def Tl (a0:aC) (J:(List Event)) (aa:(List fv)) (ad:qD Prop) (m0:qD Nat):Prop:=
 (((!(dV a0)) || (decide ((J.length:Int)>1000)))=true→[]=aa)∧((!((!(dV a0)) || (decide ((J.length:Int)>1000))))=true→J.length≤4611686018427387904→Tp ad m0 a0 J aa)
theorem agp:bc Tryz.prog 7 [.agg (bA false a0),bq fJ J] (jP (nJ false) (h4 a0 J)):=(fun(ad:qD Prop) (m0:qD Nat) (h:Tl a0 J (h4 a0 J) ad m0)=>bc.run (ps:=[.dl,(.l .e3)]) (rs:=[(.l .done)]) (x:=(a0,J,())) (r:=((h4 a0 J),())) ⟨48,dj,[ahb,agh,agA,agQ,agE]⟩ ⟨[],[],[],[],[]⟩ (.lp [(0,6,.done)] [2,5,20,21] [(5,4),(2,5)] [.nat,(.l .done),.bool,(.l .bool),(.l .ij),(.l .held),.int] [bw 0,bw 0,fF 5 0,fF 5 1,fF 5 2,fF 5 3,22] (fun aD=>[(6,.ref 0 aD.1 aD.2.1.length false),(22,.i .i64 aD.2.2.2.2.2.2.1),(fF 5 0,.b (.v aD.2.2.1)),(fF 5 1,.l .bool aD.2.2.2.1 false true),(fF 5 2,.l .ij aD.2.2.2.2.1 false true),(fF 5 3,.l .held aD.2.2.2.2.2.1 false true),(bw 0,.blk aD.1 .done aD.2.1 _ rfl)]) (fun aD=>ad aD.1 aD.2.1 aD.2.2.1 aD.2.2.2.1 aD.2.2.2.2.1 aD.2.2.2.2.2.1 aD.2.2.2.2.2.2.1) (fun aD=>m0 aD.1 aD.2.1 aD.2.2.1 aD.2.2.2.1 aD.2.2.2.2.1 aD.2.2.2.2.2.1 aD.2.2.2.2.2.2.1) fun _=> .nil) Tryz.func7 h) (fun _ x a b c e v=>bW J.length (fun _=>false) v∧x=lB a0 (dJ a0) (J.take v.toNat)∧Frame.mk a b c e=k4 a0 (dJ a0) (J.take v.toNat)) (fun _ _ _ _ _ _ v=>cg J.length v) (by
 unfold Tl
 refine⟨fun h=> ?_,fun h ag=> ?_⟩
 ·unfold h4
  rw[if_neg]
  rintro⟨h1,h2⟩
  rw[h1] at h
  have: ¬(J.length:Int)>1000:=by omega
  simp[this] at h
 have h:dV a0=true∧(J.length:Int)≤1000:=by simpa using h
 have e:h4 a0 J=lB a0 (dJ a0) J:=by unfold h4;rw[if_pos ⟨h.1,by omega⟩]
 rw[e]
 unfold Tp
 refine⟨⟨cT (cN _),rfl,rfl⟩,fun g x a b c d v aJ=> ?_⟩
 obtain⟨aJ,rfl,aw⟩:=aJ
 have tJ:=aJ.2.1
 have gp:=aJ.1
 have lm:(lB a0 (dJ a0) (J.take v.toNat)).length=v.toNat:=by rw[Hh,List.length_take];omega
 refine⟨fun hv=>⟨by omega,?_⟩,fun hv=>⟨bX aJ hv,?_⟩⟩
 ·have: ¬v<(J.length:Int):=by simpa using hv
  rw[List.take_of_length_le (by omega)]
 have b3:=bX aJ hv
 have aS:=cw (b5 ag) aJ hv rfl
 have px:Fit a0 (k4 a0 (dJ a0) (J.take v.toNat)):=LV _ (Ij h.1)
 have tI:J.take (IntKind.i64.wrap (v+1)).toNat=J.take v.toNat++[nth J v]:=by
  rw[hL (b5 ag) gp (by simpa using hv),show(v+1).toNat=v.toNat+1 by omega,List.take_succ_eq_append_getElem b3.2,fU b3.2]
 have qb:=Xw a0 (nth J v) (J.take v.toNat) (dJ a0)
 unfold To pC
 rw[aw]
 refine⟨zd px,fun he=>⟨⟨px,he⟩,zd (QN px he),?_⟩,fun he=>⟨zd px,?_⟩⟩
 ·unfold Tm CL pC
  rw[aw]
  refine⟨⟨by simp only[List.length_singleton];omega,by simp only[List.length_singleton];omega⟩,⟨aS.1,?_,?_⟩,aS.2⟩
  ·rw[tI,qb.1,if_pos he];rfl
  ·rw[tI,qb.2,if_pos he]
 ·unfold Tn CM
  rw[aw]
  refine⟨⟨by simp only[List.length_singleton];omega,by simp only[List.length_singleton];omega⟩,⟨aS.1,?_,?_⟩,aS.2⟩
  ·rw[tI,qb.1,if_neg (by rw[he];simp)];rfl
  ·rw[tI,qb.2,if_neg (by rw[he];simp),aw])
end
end Go.Proofs.YtejmihecgodhnaaGreatDoor.Fw
set_option linter.unusedVariables false
namespace Go.Proofs.YtejmihecgodhnaaGreatDoor.Fw
open Go
theorem aml (a0:Frame) (ae:ho a0):bc Tryz.prog 24 [.agg (cG false a0)] (.agg (cG true (aK a0))):=
  bc.Wk (F:=a0) (l:=[]) (On a0 ae) (by have:=ae.1;omega) (by have:=ae.2.1;omega) (by have:=ae.2.2.1;omega) fun h bz=>by have:=ae.2.2.2 h bz;omega
def amm:cZ Tryz.prog:=⟨24,[.frame],[.frame],some fun x=>ho x.1,fun x=>((aK x.1),()),fun x h=>aml x.1 h⟩
end Go.Proofs.YtejmihecgodhnaaGreatDoor.Fw
set_option linter.unusedVariables false
set_option maxRecDepth 100000
set_option maxHeartbeats 4000000
set_option linter.unusedSimpArgs false
namespace Go.Proofs.YtejmihecgodhnaaGreatDoor.Fw
open Go
attribute [local irreducible] evS evSD WpS Weak Oper.looksAt
section
variable (ad:qB Prop) (m0:qB Nat) (aU:qC Prop) (m1:qC Nat) (a0:aC) (aa:Frame) (g1:Nat) (aL:(List bx)) (cY:Int) (aO:List (List Bool)) (g2 g3:Nat) (aE:List Nat) (bu:Int) (ws2:List aq)
abbrev x7:=((nth a0.O bu).ak.length:Int)
abbrev pP:=List.replicate (x7 a0 bu).toNat false
abbrev h5:=List.replicate a0.ak.toNat false
abbrev DP:=bd 45 [(2,aF 2 0),(3,aF 3 0),(27,bq (da false) a0.O),(28,ab (a0.O.length:Int)),(29,ab 0)]
abbrev ob:List AV:=[an false,ca,ca,ca]
abbrev vW:=IntKind.i64.wrap (bu+1)
abbrev Yg:=bd 45 [(29,ab (vW bu)),(43,ab (vW bu)),(2,aF 2 0),(3,aF 3 0),(27,bq (da false) a0.O),(28,ab (a0.O.length:Int))]
abbrev pQ:=[(bx.mk 1 1)]
abbrev vV:=ws2++[(aq.mk 0 0 (pP a0 bu) false 0)]
abbrev DM:List AV:=[ab 0,ab 0,ap (aO.length+4) 0 (pP a0 bu).length,an false,ab 0]
abbrev NF:List Blk:=(⟨0,1,List.map aP (h5 a0)⟩::⟨g1,2,List.map a1 aL⟩::⟨(g2+1),5,aR 4 (vV a0 bu ws2) (aE++[aO.length])⟩::⟨(g3+1),5,[(DM a0 aO bu)]⟩::List.map bh (aO++[(pP a0 bu)]))
abbrev x8:=da false (nth a0.O bu)
abbrev NG:List (Nat×List AV):=[(5,(x8 a0 bu)),(3,[an true,ap 0 0 (h5 a0).length,ap 1 g1 aL.length,ap 2 (g2+1) (vV a0 bu ws2).length]),(2,ob)]
abbrev x9:List AV:=[an true,ap 0 0 (h5 a0).length,ap 1 g1 aL.length,ap 2 g2 ws2.length]
abbrev ND:List (Nat×List AV):=[(3,[an true,ap 0 0 (h5 a0).length,ap 1 g1 aL.length,ap 2 0 ([]:List aq).length]),(2,ob),(1,(bA false a0))]
abbrev Yb:List Blk:=(⟨0,1,List.map aP (h5 a0)⟩::⟨g1,2,List.map a1 aL⟩::⟨g2,5,aR 4 ws2 aE⟩::⟨(g3+1),5,[(DM a0 aO bu)]⟩::List.map bh (aO++[(pP a0 bu)]))
abbrev o1:=[1000003]
abbrev Yc:=bd 45 [(16,ab (a0.bb.length:Int)),(17,ab 0),(3,aF 3 0),(2,aF 2 0),(1,aF 1 0)]
abbrev Hp:List AV:=[an true,ap 0 0 (h5 a0).length,ca,ca]
abbrev Yd:List Blk:=[⟨0,1,List.map aP (h5 a0)⟩,⟨g1,2,List.map a1 aL⟩,⟨0,5,aR 4 ([]:List aq) ([]:List Nat)⟩]
abbrev NE:List AV:=[an true,ap 0 0 (h5 a0).length,ap 1 g1 aL.length,ca]
abbrev Ye:=true=true∧true=true∧((aF 3 3:AV)=aF 3 3)
abbrev Yf:=true=true∧true=true∧((ap 2 g2 ws2.length:AV)=ap 2 g2 ws2.length)
abbrev DN:=decide (cY<(a0.bb.length:Int))
abbrev DO:=decide (bu<(a0.O.length:Int))
abbrev AL:=IntKind.i64.wrap (cY+1)
noncomputable def NC:Code:=iP Tryz.f22
def alM:List Item:=[bV 0,bV 1,bV 2,bV 3,bV 4,⟨5,true,false,[0,1]⟩,bV 6,⟨7,true,false,[0,1]⟩,⟨8,true,false,[]⟩,bV 9,⟨10,true,false,[]⟩]
def alN:List (List Nat):=[[],[0],[],[2],[2,3],[2,3,4],rg 2 6,rg 2 7,rg 0 8,rg 0 9,rg 0 10]
def Nx:Prop:=
  aU g1 aL cY (aO++[(pP a0 bu)]) (g2+1) (g3+1) (aE++[aO.length]) (vW bu) (vV a0 bu ws2)∧m1 g1 aL cY (aO++[(pP a0 bu)]) (g2+1) (g3+1) (aE++[aO.length]) (vW bu) (vV a0 bu ws2)<m1 g1 aL cY aO g2 g3 aE bu ws2
def Ny:Prop:=
  ((0≤bu∧bu.toNat<a0.O.length)∧((0≤(x7 a0 bu)∧1*(x7 a0 bu)≤140737488355328∧(x7 a0 bu)≤4611686018427387904)∧(ws2.length=aE.length∧((ws2.length+1)*56≤140737488355328∧ws2.length+1≤4611686018427387904))))∧(Nx aU m1 a0 g1 aL cY aO g2 g3 aE bu ws2)
def Nz:Prop:=
  ((DO a0 bu)=false→(true=aa.ok)∧((h5 a0).length≤4611686018427387904∧(h5 a0)=aa.aN)∧(aL.length≤4611686018427387904∧aL=aa.aH)∧(kQ ws2 aE aO∧ws2.length≤4611686018427387904∧(∀x∈aO,List.length x≤4611686018427387904)∧view ws2 aE aO=aa.O))∧((DO a0 bu)=true→Ny aU m1 a0 g1 aL cY aO g2 g3 aE bu ws2)
def NA:Prop:=
  ((DN a0 cY)=false→a0.O.length≤4611686018427387904→aU g1 aL cY ([]:List (List Bool)) 0 0 ([]:List Nat) 0 ([]:List aq)∧ ∀(aO:List (List Bool)) (g2:Nat) (g3:Nat) (aE:List Nat) (bu:Int) (ws2:List aq),aU g1 aL cY aO g2 g3 aE bu ws2→(Nz aU m1 a0 aa g1 aL cY aO g2 g3 aE bu ws2))∧((DN a0 cY)=true→((aL.length+pQ.length)*16≤140737488355328∧aL.length+pQ.length≤4611686018427387904)∧(ad (g1+1) (aL++pQ) (AL cY)∧m0 (g1+1) (aL++pQ) (AL cY)<m0 g1 aL cY))
def NB:Prop:=
  ((!(dV a0))=true→(false=aa.ok)∧([]=aa.aN)∧([]=aa.aH)∧([]=aa.O))∧((!(!(dV a0)))=true→(0≤a0.ak∧1*a0.ak≤140737488355328∧a0.ak≤4611686018427387904)∧(a0.bb.length≤4611686018427387904→ad 0 ([]:List bx) 0∧ ∀(g1:Nat) (aL:(List bx)) (cY:Int),ad g1 aL cY→(NA ad m0 aU m1 a0 aa g1 aL cY)))
def Nw (a0:aC) (aa:Frame) (ad:qB Prop) (m0:qB Nat) (aU:qC Prop) (m1:qC Nat):Prop:=
 NB ad m0 aU m1 a0 aa
theorem alO (a0:aC) (aa:Frame) (ad:qB Prop) (m0:qB Nat) (aU:qC Prop) (m1:qC Nat) (h:Nw a0 aa ad m0 aU m1):bc Tryz.prog 22 [.agg (bA false a0)] (.agg (cG true aa)):=by
 unfold Nw at h
 refine c0.go (fn:=Tryz.f22) [(0,.agg (bA false a0))] Tryz.func22 (fun _ _=> ?_)
 show WpS _ (bB NC 1) _ ⟨bd 45 [(0,.agg (bA false a0))],[],[]⟩
 refine rX o1 0 [(2,aF 2 0),(1,aF 1 0)] [2] [] [(2,ob),(1,(bA false a0))] [] ?_
 unfold NB at h
 obtain⟨lz,h⟩:=h
 refine cc [] [2] ((!(!(dV a0)))=true) ?_ (fun q2=> ?_)
 ·
  replace h:=lz
  refine cc [(8,an (!(dV a0)))] [2] (True) ?_ (fun q3=> ?_)
  ·
   refine bo o1 1 ?_
   refine mH 2 (some 7) [(6,.agg (bA false a0))] [.agg (bA false a0)] (Ob a0) (af.cons (cL.agg (af.cons (.int _ _) (af.cons cj (af.cons cj (af.cons cj (af.cons (.int _ _) af.nil)))))) af.nil) ?_
   exact bJ [(8,an (!(dV a0)))] trivial
  refine dp (fun q4=> ?_) (fun q4=> ?_)
  ·
   replace h:=h q4
   refine dY o1 2 [(9,.agg ob)] [] [0,1,1] ?_
   exact hh (bP.ret (oW (.agg ob) (iw.agg (af.cons (oh h.1) (af.cons (sV h.2.1) (af.cons (sV h.2.2.1) (af.cons (sV h.2.2.2) af.nil)))))))
  ·
   refine d_ ?_
   exact bP.normal (by simp only[q4]<;>rfl) dU
 replace h:=h q2
 obtain⟨ly,h⟩:=h
 refine eU [(3,aF 3 0)] [2] (fun L=>(3,(Hp a0))::L) (fun _=>[⟨0,1,List.map aP (h5 a0)⟩]) (True) ?_ (fun cD=> ?_)
 ·
  replace h:=ly
  refine bo o1 3 ?_
  have fH:=h
  refine M6 3 (some 12) [(11,ab a0.ak),(10,aF 1 0)] aP 1 [an false] 0 (fun r=>[⟨0,1,r⟩]) false fH ?_
  exact bJ [(3,aF 3 0),(13,.agg (Hp a0))] trivial
 refine hz ?_
 refine cc [(16,ab (a0.bb.length:Int)),(17,ab 0)] [3] (a0.bb.length≤4611686018427387904) ?_ (fun fu=> ?_)
 ·
  refine bo o1 4 ?_
  refine sLen 3 (some 16) [(15,bq cd a0.bb),(14,aF 1 1)] cd a0.bb (fun iV=> ?_)
  exact bJ [(17,ab 0)] iV
 replace h:=h fu
 refine fg 0 ?_
 refine WpS.mP ?_ (hg (s'':=⟨(Yc a0),[(3,[an true,ap 0 0 (h5 a0).length,ap 1 0 ([]:List bx).length,ca]),(2,ob),(1,(bA false a0))],[⟨0,1,List.map aP (h5 a0)⟩,⟨0,2,List.map a1 ([]:List bx)⟩]⟩) (Weak.wD (T:=(Yc a0)) (L:=[(3,(Hp a0)),(2,ob),(1,(bA false a0))]) (H:=[⟨0,1,List.map aP (h5 a0)⟩]) (cells:=(Hp a0)) 3 2 2 (by kernel_rfl) (by kernel_rfl)) (by kernel_rfl))
 obtain⟨jA,h⟩:=h
 refine kq (fun(v:Nat×(List bx)×Int)=>(⟨(bd 45 [(1,aF 1 0),(2,aF 2 0),(3,aF 3 0),(16,ab (a0.bb.length:Int)),(17,ab (v.2.2))]),[(3,[an true,ap 0 0 (h5 a0).length,ap 1 (v.1) (v.2.1).length,ca]),(2,ob),(1,(bA false a0))],[⟨0,1,List.map aP (h5 a0)⟩,⟨(v.1),2,List.map a1 (v.2.1)⟩]⟩:St)) (fun(v:Nat×(List bx)×Int)=>ad (v.1) (v.2.1) (v.2.2)) (fun(v:Nat×(List bx)×Int)=>m0 (v.1) (v.2.1) (v.2.2)) (0,([]:List bx),0) (di []) jA (fun v aJ=> ?_)
 obtain⟨g1,aL,cY⟩:=v
 replace h:=h g1 aL cY aJ
 dsimp only
 refine dY o1 5 [(18,an (DN a0 cY))] [1] [5] ?_
 unfold NA at h
 obtain⟨lx,h⟩:=h
 refine cc [] [0,1,5] ((DN a0 cY)=true) ?_ (fun iF=> ?_)
 ·
  replace h:=lx
  refine dp (fun h3=> ?_) (fun h3=> ?_)
  ·
   refine d_ ?_
   exact bP.normal (by simp only[q2,h3]<;>rfl) dU
  ·
   replace h:=h h3
   refine jf 0 ?_
   refine bP.exit ?_
   refine dO.exit ?_
   refine bT.here ?_
   refine dR.normal ?_
   refine hz ?_
   refine j9 ⟨(DP a0),[(3,(NE a0 g1 aL)),(2,ob),(1,(bA false a0))],[⟨0,1,List.map aP (h5 a0)⟩,⟨g1,2,List.map a1 aL⟩]⟩ (a0.O.length≤4611686018427387904) ?_ (fun fA=> ?_)
   ·
    refine bo o1 8 ?_
    refine sLen 3 (some 28) [(27,bq (da false) a0.O),(26,aF 1 2)] (da false) a0.O (fun sG=> ?_)
    exact bJ [(29,ab 0)] sG
   replace h:=h fA
   refine fg 2 ?_
   refine WpS.mP ?_ (hg (s'':=⟨(DP a0),(ND a0 g1 aL),(Yd a0 g1 aL)⟩) (Weak.wD (T:=(DP a0)) (L:=[(3,(NE a0 g1 aL)),(2,ob),(1,(bA false a0))]) (H:=[⟨0,1,List.map aP (h5 a0)⟩,⟨g1,2,List.map a1 aL⟩]) (cells:=(NE a0 g1 aL)) 3 3 5 (by kernel_rfl) (by kernel_rfl)) (by kernel_rfl))
   refine WpS.mP ?_ (hg (s'':=⟨(DP a0),(ND a0 g1 aL),(⟨0,1,List.map aP (h5 a0)⟩::⟨g1,2,List.map a1 aL⟩::⟨0,5,aR 4 ([]:List aq) ([]:List Nat)⟩::⟨0,5,[]⟩::List.map bh ([]:List (List Bool)))⟩) (Weak.Ad (T:=(DP a0)) (L:=(ND a0 g1 aL)) (H:=(Yd a0 g1 aL)) 5) (by kernel_rfl))
   obtain⟨nn,h⟩:=h
   refine kq (fun(v:List (List Bool)×Nat×Nat×List Nat×Int×List aq)=>(⟨(bd 45 [(2,aF 2 0),(3,aF 3 0),(27,bq (da false) a0.O),(28,ab (a0.O.length:Int)),(29,ab (v.2.2.2.2.1))]),[(3,[an true,ap 0 0 (h5 a0).length,ap 1 g1 aL.length,ap 2 (v.2.1) (v.2.2.2.2.2).length]),(2,ob)],(⟨0,1,List.map aP (h5 a0)⟩::⟨g1,2,List.map a1 aL⟩::⟨(v.2.1),5,aR 4 (v.2.2.2.2.2) (v.2.2.2.1)⟩::⟨(v.2.2.1),5,[]⟩::List.map bh (v.1))⟩:St)) (fun(v:List (List Bool)×Nat×Nat×List Nat×Int×List aq)=>aU g1 aL cY (v.1) (v.2.1) (v.2.2.1) (v.2.2.2.1) (v.2.2.2.2.1) (v.2.2.2.2.2)) (fun(v:List (List Bool)×Nat×Nat×List Nat×Int×List aq)=>m1 g1 aL cY (v.1) (v.2.1) (v.2.2.1) (v.2.2.2.1) (v.2.2.2.2.1) (v.2.2.2.2.2)) (([]:List (List Bool)),0,0,([]:List Nat),0,([]:List aq)) (di [1]) nn (fun v aJ=> ?_)
   obtain⟨aO,g2,g3,aE,bu,ws2⟩:=v
   replace h:=h aO g2 g3 aE bu ws2 aJ
   dsimp only
   refine dY o1 9 [(30,an (DO a0 bu))] [1] [5] ?_
   unfold Nz at h
   obtain⟨kM,h⟩:=h
   refine cc [] [0,1,5] ((DO a0 bu)=true) ?_ (fun kh=> ?_)
   ·
    replace h:=kM
    refine dp (fun hG=> ?_) (fun hG=> ?_)
    ·
     refine d_ ?_
     exact bP.normal (by simp only[q2,h3,hG]<;>rfl) dU
    ·
     replace h:=h hG
     refine jf 2 ?_
     refine bP.exit ?_
     refine dO.exit ?_
     refine bT.here ?_
     refine dR.normal ?_
     refine j9 ⟨(bd 45 [(2,aF 2 0)]),[(3,(x9 a0 g1 aL g2 ws2)),(2,(x9 a0 g1 aL g2 ws2))],(⟨0,1,List.map aP (h5 a0)⟩::⟨g1,2,List.map a1 aL⟩::⟨g2,5,aR 4 ws2 aE⟩::⟨g3,5,[]⟩::List.map bh aO)⟩ (True) ?_ (fun mC=> ?_)
     ·
      refine bo o1 13 ?_
      exact bJ [(44,.agg (x9 a0 g1 aL g2 ws2))] trivial
     exact hh (oW (.agg (x9 a0 g1 aL g2 ws2)) (iw.agg (af.cons (oh h.1) (af.cons (sU (sz:=1) (by simp) rfl (y1) h.2.1) (af.cons (sU (sz:=2) (by simp) rfl (BW) h.2.2.1) (af.cons (HG (s:=4) (ws:=ws2) (ids:=aE) (bs:=aO) (by simp) rfl (fun id k h=>by simpa using h) h.2.2.2) af.nil))))))
   replace h:=h kh
   unfold Ny at h
   obtain⟨im,h⟩:=h
   refine eU [] [5] (fun L=>(5,(x8 a0 bu))::hP 0 3 (ap 2 (g2+1) (vV a0 bu ws2).length) L) (fun _=>(NF a0 g1 aL aO g2 g3 aE bu ws2)) (True) ?_ (fun hn=> ?_)
   ·
    replace h:=im
    refine fg 3 ?_
    obtain⟨iH,h⟩:=h
    refine eU [(5,aF 5 0)] [5] (fun L=>(5,(x8 a0 bu))::L) id (True) ?_ (fun iG=> ?_)
    ·
     replace h:=iH
     refine bo o1 10 ?_
     have kL:=h
     refine lC 1 (some 31) [] (da false) a0.O 5 kL ?_
     exact bJ [(5,aF 5 0),(32,.agg (x8 a0 bu))] trivial
    refine n9 o1 11 alM alN [] ?_
    refine Pf 5 (some 37) [(36,bq cd (nth a0.O bu).ak),(35,aF 5 0),(34,ap 2 g2 ws2.length),(33,aF 3 3)] cd (nth a0.O bu).ak ?_
    obtain⟨gR,h⟩:=h
    refine anl 1 (some 38) [] 1 [an false] (fun r=>qU Tryz.prog (jm NC 16025) [0,1] [(37,ab (x7 a0 bu)),(36,bq cd (nth a0.O bu).ak),(35,aF 5 0),(34,ap 2 g2 ws2.length),(33,aF 3 3),(5,aF 5 0),(2,aF 2 0),(3,aF 3 0),(27,bq (da false) a0.O),(28,ab (a0.O.length:Int)),(29,ab bu)] [(5,(x8 a0 bu)),(3,(x9 a0 g1 aL g2 ws2)),(2,ob)] r) (aO.length+4) (⟨0,1,List.map aP (h5 a0)⟩::⟨g1,2,List.map a1 aL⟩::⟨g2,5,aR 4 ws2 aE⟩::⟨g3,5,[]⟩::List.map bh (aO++[(pP a0 bu)])) gR (by simp) (by simp only[List.cons_append,ti]) (vz (ψ:=(Ye∧((Yf g2 ws2)∧True))) (by kernel_rfl) ⟨⟨rfl,rfl,rfl⟩,⟨⟨rfl,rfl,rfl⟩,trivial⟩⟩) ?_
    refine D8 2 [(40,.ref 3 (g3+1) 0 1 true),(39,.agg (DM a0 aO bu))] [(5,(x8 a0 bu)),(3,(x9 a0 g1 aL g2 ws2)),(2,ob)] (Yb a0 g1 aL aO g2 g3 aE bu ws2) (φ:=qU Tryz.prog (jm NC 16025) [0,1] [(39,.agg (DM a0 aO bu)),(38,ap (aO.length+4) 0 (pP a0 bu).length),(37,ab (x7 a0 bu)),(36,bq cd (nth a0.O bu).ak),(35,aF 5 0),(34,ap 2 g2 ws2.length),(33,aF 3 3),(5,aF 5 0),(2,aF 2 0),(3,aF 3 0),(27,bq (da false) a0.O),(28,ab (a0.O.length:Int)),(29,ab bu)] [(5,(x8 a0 bu)),(3,(x9 a0 g1 aL g2 ws2)),(2,ob)] (Yb a0 g1 aL aO g2 g3 aE bu ws2)) (vz (ψ:=(Ye∧((Yf g2 ws2)∧True))) (by kernel_rfl) ⟨⟨rfl,rfl,rfl⟩,⟨⟨rfl,rfl,rfl⟩,trivial⟩⟩) ?_
    have il:=h
    refine ZT 1 (some 41) [] 4 2 g2 (g3+1) 56 ws2 aE (aq.mk 0 0 (pP a0 bu) false 0) aO.length (fun _=>True) (fun r=>(⟨0,1,List.map aP (h5 a0)⟩::⟨g1,2,List.map a1 aL⟩::⟨(g2+1),5,r⟩::⟨(g3+1),5,[(DM a0 aO bu)]⟩::List.map bh (aO++[(pP a0 bu)]))) il.1 il.2 trivial ?_
    refine D8 2 [(42,aF 3 3)] (NG a0 g1 aL g2 bu ws2) (NF a0 g1 aL aO g2 g3 aE bu ws2) (φ:=True) trivial ?_
    refine Bh [] ?_
    refine bT.normal ?_
    exact bP.normal trivial dU
   unfold Nx at h
   refine bo o1 12 ?_
   refine dM [(29,ab (vW bu)),(43,ab (vW bu))] ?_
   exact dO.again ((aO++[(pP a0 bu)]),(g2+1),(g3+1),(aE++[aO.length]),(vW bu),(vV a0 bu ws2)) h ((Weak.clear 3 rfl:Weak ⟨(Yg a0 bu),(NG a0 g1 aL g2 bu ws2),(NF a0 g1 aL aO g2 g3 aE bu ws2)⟩ ⟨(Yg a0 bu),(NG a0 g1 aL g2 bu ws2),(⟨0,1,List.map aP (h5 a0)⟩::⟨g1,2,List.map a1 aL⟩::⟨(g2+1),5,aR 4 (vV a0 bu ws2) (aE++[aO.length])⟩::⟨(g3+1),5,[]⟩::List.map bh (aO++[(pP a0 bu)]))⟩).trans (di [5]))
 replace h:=h iF
 obtain⟨jz,h⟩:=h
 refine eU [] [5] (fun L=>hP 0 2 (ap 1 (g1+1) (aL++pQ).length) L) (fun H=>eh 1 ⟨(g1+1),2,List.map a1 (aL++pQ)⟩ H) (True) ?_ (fun oT=> ?_)
 ·
  replace h:=jz
  refine fg 1 ?_
  refine bo o1 6 ?_
  have n4:=h
  refine XE 5 (some 23) [(22,.aX (List.map a1 pQ) true true),(21,.agg [ab 1,ab 1]),(20,ap 1 g1 aL.length),(19,aF 3 2)] a1 aL pQ (l2 true (List.map a1 pQ)) 1 g1 2 16 (fun r=>[⟨0,1,List.map aP (h5 a0)⟩,⟨(g1+1),2,r⟩]) rfl n4 ?_
  refine Hi [(24,aF 3 2)] [(3,[an true,ap 0 0 (h5 a0).length,ap 1 (g1+1) (aL++pQ).length,ca]),(2,ob),(1,(bA false a0))] [⟨0,1,List.map aP (h5 a0)⟩,⟨(g1+1),2,List.map a1 (aL++pQ)⟩] ?_
  refine bT.normal ?_
  exact bP.normal trivial dU
 refine bo o1 7 ?_
 refine dM [(17,ab (AL cY)),(25,ab (AL cY))] ?_
 exact dO.again ((g1+1),(aL++pQ),(AL cY)) h (di [])
theorem alK:bc Tryz.prog 22 [.agg (bA false a0)] (.agg (cG true (dJ a0))):=alO a0 (dJ a0) (fun _ x v=>bW a0.bb.length (fun _=>false) v∧x=List.replicate v.toNat (bx.mk 1 1)) (fun _ _ v=>cg a0.bb.length v) (fun _ x _ bs _ _ is v ws=>x=List.replicate a0.bb.length (bx.mk 1 1)∧bW a0.O.length (fun _=>false) v∧ws=(a0.O.take v.toNat).map (fun w=>gZ w.ak.length)∧is=List.range ws.length∧bs=ws.map aq.ah) (fun _ _ _ _ _ _ _ v _=>cg a0.O.length v) (by
 unfold Nw NB
 refine⟨fun h=> ?_,fun h=> ?_⟩
 ·have h:dV a0=false:=by simpa using h
  unfold dJ;rw[if_neg (by rw[h];simp)];exact⟨rfl,rfl,rfl,rfl⟩
 have h:dV a0=true:=by simpa using h
 have ci:=xS h
 have h1:=ci.cx
 have h2:=ci.be
 have au:=ci.O
 have e:dJ a0=⟨true,List.replicate a0.ak.toNat false,List.replicate a0.bb.length ⟨1,1⟩,a0.O.map fun w=>gZ w.ak.length⟩:=by unfold dJ;rw[if_pos h]
 rw[e]
 refine⟨⟨by omega,by omega,by omega⟩,fun ag=>⟨⟨cT (cN _),rfl⟩,fun g x v aJ=> ?_⟩⟩
 obtain⟨aJ,rfl⟩:=aJ
 have tJ:=aJ.2.1
 unfold NA AL DN pQ
 refine⟨fun hv hm=>⟨⟨?_,cT (cN _),rfl,rfl,rfl⟩,fun bs g2 g3 is k ws cP=> ?_⟩,fun hv=>⟨⟨?_,?_⟩,⟨(cw (b5 ag) aJ hv rfl).1,?_⟩,(cw (b5 ag) aJ hv rfl).2⟩⟩
 ·have: ¬v<(a0.bb.length:Int):=by simpa using hv
  rw[show v.toNat=a0.bb.length by omega]
 ·obtain⟨hx,cP,rfl,rfl,rfl⟩:=cP
  have lV:=cP.2.1
  have sd:=cP.1
  have aw:((a0.O.take k.toNat).map fun w=>gZ w.ak.length).length=k.toNat:=by rw[List.length_map,List.length_take];omega
  obtain⟨dG,et,eN⟩:=wO ((a0.O.take k.toNat).map fun w=>gZ w.ak.length)
  have SO:(decide (k<(a0.O.length:Int)))=true→1*((nth a0.O k).ak.length:Int)≤140737488355328:=fun hk=>by
   have:=(ci.ak _ (dz (bX cP hk).2)).2.1;omega
  unfold Nz Ny Nx DO vV vW h5 pP x7
  refine⟨fun hk=>⟨rfl,⟨by rw[List.length_replicate];omega,rfl⟩,⟨by rw[List.length_replicate];omega,hx⟩,dG,by omega,fun b hb=> ?_,?_⟩,fun hk=>⟨⟨⟨sd,(bX cP hk).2⟩,⟨by omega,SO hk,by have:=SO hk;omega⟩,by rw[List.length_range],by omega,by omega⟩,⟨hx,(cw (b5 hm) cP hk rfl).1,?_,?_,?_⟩,(cw (b5 hm) cP hk rfl).2⟩⟩
  ·obtain⟨y,bi,rfl⟩:=List.mem_map.1 hb
   obtain⟨w,hw,rfl⟩:=List.mem_map.1 bi
   have:=(ci.ak w (List.mem_of_mem_take hw)).2.1
   simp[gZ];omega
  ·rw[eN]
   have: ¬k<(a0.O.length:Int):=by simpa using hk
   rw[List.take_of_length_le (by omega)]
  ·have b3:=bX cP hk
   rw[hL (b5 hm) sd (by simpa using hk),show(k+1).toNat=k.toNat+1 by omega,List.take_succ_eq_append_getElem b3.2,←fU b3.2,List.map_append];rfl
  ·rw[List.length_append,List.length_singleton,List.range_succ,List.length_map]
   simp
  ·rw[List.map_append];rfl
 ·rw[List.length_replicate,List.length_singleton];omega
 ·rw[List.length_replicate,List.length_singleton];omega
 ·rw[hL (b5 ag) aJ.1 (by simpa using hv),show(v+1).toNat=v.toNat+1 by have:=aJ.1;omega,List.replicate_succ'])
def alL:cZ Tryz.prog:=⟨22,[.dl],[.frame],none,fun x=>((dJ x.1),()),fun x h=>alK x.1⟩
end
section
abbrev By (r:Type):Type:=(List bx)→Int→(List bx)→Int→r
variable (ad:(List bx)→Int→Prop) (m0:(List bx)→Int→Nat) (aU:By Prop) (m1:By Nat) (a0:aC) (a2:Int) (hk:Bool) (ai:List Bool) (U:List bx) (hw:List aq) (hi:List Nat) (hb:List (List Bool)) (bO:(List bx)) (cJ bu:Int) (e_:(List bx)) (ax:Nat)
abbrev lH:=[(nth a0.O a2).bm,(nth a0.O a2).cB]
abbrev rE:=hw.set a2.toNat (aq.mk 1 (nth hw a2).a7 (nth hw a2).ah (nth hw a2).bI (nth hw a2).bG)
abbrev OL:List Blk:=(⟨ax,4,[[an hk,ap 1 0 ai.length,ap 2 0 U.length,ap 3 0 hw.length]]⟩::⟨0,1,List.map aP ai⟩::⟨0,2,List.map a1 U⟩::⟨0,5,aR 4 hw hi⟩::List.map bh hb)
abbrev yc:=IntKind.i64.wrap (cJ+1)
abbrev yd:=gW cQ false
abbrev A7:=IntKind.i64.wrap (bu+1)
abbrev lI:=nth (lH a0 a2) bu
abbrev nv:=nth (lI a0 a2 bu) cJ
abbrev wb:=e_.set (nv a0 a2 cJ bu).be.toNat (bx.mk (nv a0 a2 cJ bu).bj (nth e_ (nv a0 a2 cJ bu).be).bm)
abbrev OM:List (Nat×AV):=[(1,.ptr 0 ax 0 0),(27,.aX (List.map yd (lH a0 a2)) true false),(28,ab ((lH a0 a2).length:Int)),(29,ab bu),(33,bq cQ (lI a0 a2 bu)),(34,ab ((lI a0 a2 bu).length:Int)),(35,ab (yc cJ))]
abbrev DZ:=decide (cJ<((lI a0 a2 bu).length:Int))
abbrev DY:=decide (bu<((lH a0 a2).length:Int))
noncomputable def amD:Code:=iP Tryz.f60
def amE:List Item:=[bV 0,bV 1,bV 2,bV 3,bV 4,bV 5,bV 6,bV 7,bV 8,bV 9,⟨10,true,false,[]⟩]
def amF:List (List Nat):=[[],[0],[0,1],[0,1,2],[],[4],[],[6],rg 0 8,rg 0 9,rg 0 10]
def OI:Prop:=
  aU bO bu (wb a0 a2 cJ bu e_) (yc cJ)∧m1 bO bu (wb a0 a2 cJ bu e_) (yc cJ)<m1 bO bu e_ cJ
def OJ:Prop:=
  ((DZ a0 a2 cJ bu)=false→ad e_ (A7 bu)∧m0 e_ (A7 bu)<m0 bO bu)∧((DZ a0 a2 cJ bu)=true→((0≤cJ∧cJ.toNat<(lI a0 a2 bu).length)∧(0≤(nv a0 a2 cJ bu).be∧(nv a0 a2 cJ bu).be.toNat<e_.length))∧(OI aU m1 a0 a2 bO cJ bu e_))
def OK:Prop:=
  ((DY a0 a2 bu)=false→Gr a0 a2 hk ai U hw hi hb ai bO (rE a2 hw) hi hb)∧((DY a0 a2 bu)=true→(0≤bu∧bu.toNat<(lH a0 a2).length)∧((lI a0 a2 bu).length≤4611686018427387904→aU bO bu bO 0∧ ∀(e_:(List bx)) (cJ:Int),aU bO bu e_ cJ→(OJ ad m0 aU m1 a0 a2 bO cJ bu e_)))
def OH (a0:aC) (a2:Int) (ax:Nat) (hk:Bool) (ai:List Bool) (U:List bx) (hw:List aq) (hi:List Nat) (hb:List (List Bool)) (ad:(List bx)→Int→Prop) (m0:(List bx)→Int→Nat) (aU:By Prop) (m1:By Nat):Prop:=
 (0≤a2∧a2.toNat<a0.O.length)∧(((0≤a2∧a2.toNat<hw.length)∧(hw.length=hi.length∧a2.toNat<hw.length))∧((lH a0 a2).length≤4611686018427387904→ad U 0∧ ∀(bO:(List bx)) (bu:Int),ad bO bu→(OK ad m0 aU m1 a0 a2 hk ai U hw hi hb bO bu)))
theorem amG (a0:aC) (a2:Int) (ax:Nat) (hk:Bool) (ai:List Bool) (U:List bx) (hw:List aq) (hi:List Nat) (hb:List (List Bool)) (ad:(List bx)→Int→Prop) (m0:(List bx)→Int→Nat) (aU:By Prop) (m1:By Nat) (h:OH a0 a2 ax hk ai U hw hi hb ad m0 aU m1):c0 Tryz.prog 60 [.agg (bA false a0),.ptr 0 ax 0 0,ab a2] (OL hk ai U hw hi hb ax) (fun r H'=> ∃(w8:List bx) (eI:List aq),r= .tup []∧H'=(⟨ax,4,[[an hk,ap 1 0 ai.length,ap 2 0 w8.length,ap 3 0 eI.length]]⟩::⟨0,1,List.map aP ai⟩::⟨0,2,List.map a1 w8⟩::⟨0,5,aR 4 eI hi⟩::List.map bh hb)∧Gr a0 a2 hk ai U hw hi hb ai w8 eI hi hb):=by
 unfold OH at h
 refine c0.go (fn:=Tryz.f60) [(0,.agg (bA false a0)),(1,.ptr 0 ax 0 0),(2,ab a2)] Tryz.func60 (fun _ _=> ?_)
 show WpS _ (bB amD 1) _ ⟨bd 51 [(0,.agg (bA false a0)),(1,.ptr 0 ax 0 0),(2,ab a2)],[],(OL hk ai U hw hi hb ax)⟩
 refine uR [] 0 [(3,aF 3 0)] [1] [0,1,2] (fun L=>(3,(bA false a0))::L) id ?_
 obtain⟨oT,h⟩:=h
 refine eU [(6,aF 6 0)] [0,1,2] (fun L=>(6,(da false (nth a0.O a2)))::L) id (True) ?_ (fun q2=> ?_)
 ·
  replace h:=oT
  refine bo [] 1 ?_
  have q3:=h
  refine lC 4 (some 14) [(13,ab a2),(12,bq (da false) a0.O),(11,aF 3 2)] (da false) a0.O 5 q3 ?_
  exact bJ [(6,aF 6 0),(15,.agg (da false (nth a0.O a2)))] trivial
 obtain⟨nn,h⟩:=h
 refine eU [] [2] id (fun H=>eh 3 ⟨0,5,aR 4 (rE a2 hw) hi⟩ H) (True) ?_ (fun q4=> ?_)
 ·
  replace h:=nn
  refine bo [] 2 ?_
  refine oX 4 (some 19) (ap 3 0 hw.length) [(18,.ptr 0 ax 0 3),(17,.ptr 0 ax 0 0),(16,.ptr 0 ax 0 0)] (φ:=ax=ax) rfl ?_
  obtain⟨anW,h⟩:=h
  refine l3 2 (some 21) [(20,ab a2)] 3 0 5 anW ?_
  have cs:=h
  refine ki 2 none [(22,.ptr 3 0 (0+a2.toNat) 0)] (aR 4 hw hi) a2 0 1 0 [ab 1] 3 (aR 4 (rE a2 hw) hi) (dx cs.1 cs.2) (kw cs.1 cs.2) ?_
  exact bJ [] trivial
 refine cc [(27,.aX (List.map yd (lH a0 a2)) true false),(28,ab ((lH a0 a2).length:Int)),(29,ab 0)] [0,1,1] ((lH a0 a2).length≤4611686018427387904) ?_ (fun cD=> ?_)
 ·
  refine bo [] 3 ?_
  refine sLen 6 (some 28) [(27,.aX (List.map yd (lH a0 a2)) true false),(26,bq cQ (nth a0.O a2).cB),(25,aF 6 2),(24,bq cQ (nth a0.O a2).bm),(23,aF 6 1)] yd (lH a0 a2) (fun fH=> ?_)
  exact bJ [(29,ab 0)] fH
 replace h:=h cD
 refine fg 0 ?_
 obtain⟨kM,h⟩:=h
 refine kq (fun(v:(List bx)×Int)=>(⟨(bd 51 [(1,.ptr 0 ax 0 0),(27,.aX (List.map yd (lH a0 a2)) true false),(28,ab ((lH a0 a2).length:Int)),(29,ab (v.2))]),[],(⟨ax,4,[[an hk,ap 1 0 ai.length,ap 2 0 (v.1).length,ap 3 0 hw.length]]⟩::⟨0,1,List.map aP ai⟩::⟨0,2,List.map a1 (v.1)⟩::⟨0,5,aR 4 (rE a2 hw) hi⟩::List.map bh hb)⟩:St)) (fun(v:(List bx)×Int)=>ad (v.1) (v.2)) (fun(v:(List bx)×Int)=>m0 (v.1) (v.2)) (U,0) (di [6,3]) kM (fun v aJ=> ?_)
 obtain⟨bO,bu⟩:=v
 replace h:=h bO bu aJ
 dsimp only
 refine dY [] 4 [(30,an (DY a0 a2 bu))] [1] [4] ?_
 unfold OK at h
 obtain⟨im,h⟩:=h
 refine cc [] [0,1,4] ((DY a0 a2 bu)=true) ?_ (fun iV=> ?_)
 ·
  replace h:=im
  refine dp (fun gG=> ?_) (fun gG=> ?_)
  ·
   refine d_ ?_
   exact bP.normal (by simp only[gG]<;>rfl) dU
  ·
   replace h:=h gG
   refine jf 0 ?_
   refine bP.exit ?_
   refine dO.exit ?_
   refine bT.here ?_
   refine E3 (t0) [] ?_
   exact⟨bO,(rE a2 hw),rfl,(by rw[show hw.length=(rE a2 hw).length by simp]<;>rfl),h⟩
 replace h:=h iV
 refine hz ?_
 refine fg 1 ?_
 obtain⟨iH,h⟩:=h
 refine cc [(8,bq cQ (lI a0 a2 bu))] [4] (True) ?_ (fun iF=> ?_)
 ·
  replace h:=iH
  refine bo [] 5 ?_
  have h3:=h
  refine lC 1 (some 31) [] yd (lH a0 a2) 1 h3 ?_
  exact bJ [(8,bq cQ (lI a0 a2 bu)),(32,bq cQ (lI a0 a2 bu))] trivial
 refine cc [(33,bq cQ (lI a0 a2 bu)),(34,ab ((lI a0 a2 bu).length:Int)),(35,ab 0)] [0,1,4] ((lI a0 a2 bu).length≤4611686018427387904) ?_ (fun fA=> ?_)
 ·
  refine bo [] 6 ?_
  refine sLen 2 (some 34) [(33,bq cQ (lI a0 a2 bu))] cQ (lI a0 a2 bu) (fun sG=> ?_)
  exact bJ [(35,ab 0)] sG
 replace h:=h fA
 refine fg 2 ?_
 obtain⟨gR,h⟩:=h
 refine kq (fun(v:(List bx)×Int)=>(⟨(bd 51 [(1,.ptr 0 ax 0 0),(27,.aX (List.map yd (lH a0 a2)) true false),(28,ab ((lH a0 a2).length:Int)),(29,ab bu),(33,bq cQ (lI a0 a2 bu)),(34,ab ((lI a0 a2 bu).length:Int)),(35,ab (v.2))]),[],(⟨ax,4,[[an hk,ap 1 0 ai.length,ap 2 0 (v.1).length,ap 3 0 hw.length]]⟩::⟨0,1,List.map aP ai⟩::⟨0,2,List.map a1 (v.1)⟩::⟨0,5,aR 4 (rE a2 hw) hi⟩::List.map bh hb)⟩:St)) (fun(v:(List bx)×Int)=>aU bO bu (v.1) (v.2)) (fun(v:(List bx)×Int)=>m1 bO bu (v.1) (v.2)) (bO,0) (di []) gR (fun v aJ=> ?_)
 obtain⟨e_,cJ⟩:=v
 replace h:=h e_ cJ aJ
 dsimp only
 refine dY [] 7 [(36,an (DZ a0 a2 cJ bu))] [1] [7] ?_
 unfold OJ at h
 obtain⟨il,h⟩:=h
 refine cc [] [0,1,7] ((DZ a0 a2 cJ bu)=true) ?_ (fun kh=> ?_)
 ·
  replace h:=il
  refine dp (fun hG=> ?_) (fun hG=> ?_)
  ·
   refine d_ ?_
   exact bP.normal (by simp only[iV,hG]<;>rfl) dU
  ·
   replace h:=h hG
   refine jf 2 ?_
   refine bP.exit ?_
   refine dO.exit ?_
   refine bT.here ?_
   refine bT.normal ?_
   refine dR.normal ?_
   refine bo [] 11 ?_
   refine dM [(29,ab (A7 bu)),(50,ab (A7 bu))] ?_
   exact dO.again (e_,(A7 bu)) h (di [])
 replace h:=h kh
 obtain⟨j0,h⟩:=h
 refine eU [] [7] (fun L=>(10,(cQ (nv a0 a2 cJ bu)))::L) (fun H=>eh 2 ⟨0,2,List.map a1 (wb a0 a2 cJ bu e_)⟩ H) (True) ?_ (fun mC=> ?_)
 ·
  replace h:=j0
  refine fg 3 ?_
  obtain⟨kL,h⟩:=h
  refine eU [(10,aF 10 0)] [7] (fun L=>(10,(cQ (nv a0 a2 cJ bu)))::L) id (True) ?_ (fun hn=> ?_)
  ·
   replace h:=kL
   refine bo [] 8 ?_
   have iG:=h
   refine lC 1 (some 37) [] cQ (lI a0 a2 bu) 2 iG ?_
   exact bJ [(10,aF 10 0),(38,.agg (cQ (nv a0 a2 cJ bu)))] trivial
  refine n9 [] 9 amE amF [] ?_
  refine HO 4 (some 42) (ap 2 0 e_.length) [(41,.ptr 0 ax 0 2),(40,.ptr 0 ax 0 0),(39,.ptr 0 ax 0 0)] (φ:=ax=ax) rfl ?_
  have aau:=h
  refine yl 5 (some 47) [(46,ab (nv a0 a2 cJ bu).bj),(45,aF 10 1),(44,ab (nv a0 a2 cJ bu).be),(43,aF 10 0)] 2 0 2 aau ?_
  refine anm 2 none [(48,.ptr 2 0 (0+(nv a0 a2 cJ bu).be.toNat) 0)] a1 e_ (nv a0 a2 cJ bu).be 0 1 0 [ab (nv a0 a2 cJ bu).bj] (fun _=>True) (fun r=>(⟨ax,4,[[an hk,ap 1 0 ai.length,ap 2 0 e_.length,ap 3 0 hw.length]]⟩::⟨0,1,List.map aP ai⟩::⟨0,2,r⟩::⟨0,5,aR 4 (rE a2 hw) hi⟩::List.map bh hb)) (bx.mk (nv a0 a2 cJ bu).bj (nth e_ (nv a0 a2 cJ bu).be).bm) (by simpa using aau.2) trivial ?_
  refine Bh [] ?_
  refine bT.normal ?_
  exact bP.normal trivial dU
 unfold OI at h
 refine bo [] 10 ?_
 refine dM [(35,ab (yc cJ)),(49,ab (yc cJ))] ?_
 exact dO.again ((wb a0 a2 cJ bu e_),(yc cJ)) h (hg (s':=⟨(bd 51 (OM a0 a2 cJ bu ax)),[],(⟨ax,4,[[an hk,ap 1 0 ai.length,ap 2 0 e_.length,ap 3 0 hw.length]]⟩::⟨0,1,List.map aP ai⟩::⟨0,2,List.map a1 (wb a0 a2 cJ bu e_)⟩::⟨0,5,aR 4 (rE a2 hw) hi⟩::List.map bh hb)⟩) (di (n:=51) (A':=(OM a0 a2 cJ bu ax)) (L':=[]) [10]) (congrArg (fun z=>(⟨(bd 51 (OM a0 a2 cJ bu ax)),[],(⟨ax,4,[[an hk,ap 1 0 ai.length,ap 2 0 z,ap 3 0 hw.length]]⟩::⟨0,1,List.map aP ai⟩::⟨0,2,List.map a1 (wb a0 a2 cJ bu e_)⟩::⟨0,5,aR 4 (rE a2 hw) hi⟩::List.map bh hb)⟩:St)) (show e_.length=(wb a0 a2 cJ bu e_).length by simp)))
theorem amC (a0:aC) (a2:Int) (ax:Nat) (hk:Bool) (ai:List Bool) (U:List bx) (hw:List aq) (hi:List Nat) (hb:List (List Bool)) (ae:UO a0 a2 hk ai U hw hi hb):c0 Tryz.prog 60 [.agg (bA false a0),.ptr 0 ax 0 0,ab a2] (OL hk ai U hw hi hb ax) (fun r H'=> ∃(w8:List bx) (eI:List aq),r= .tup []∧H'=(⟨ax,4,[[an hk,ap 1 0 ai.length,ap 2 0 w8.length,ap 3 0 eI.length]]⟩::⟨0,1,List.map aP ai⟩::⟨0,2,List.map a1 w8⟩::⟨0,5,aR 4 eI hi⟩::List.map bh hb)∧Gr a0 a2 hk ai U hw hi hb ai w8 eI hi hb):=amG a0 a2 ax hk ai U hw hi hb (fun x v=>bW ((lc (nth a0.O a2)).length:Int) (fun _=>false) v∧x=j2 ((lc (nth a0.O a2)).take v.toNat).flatten U) (fun _ v=>cg ((lc (nth a0.O a2)).length:Int) v) (fun x v y k=>bW ((nth (lc (nth a0.O a2)) v).length:Int) (fun _=>false) k∧y=j2 ((nth (lc (nth a0.O a2)) v).take k.toNat) x) (fun _ v _ k=>cg ((nth (lc (nth a0.O a2)) v).length:Int) k) (by
 unfold OH lH
 obtain⟨G,ci,t0,t1,t2,afD⟩:=ae
 have aQ:a2.toNat<hw.length:=by omega
 have iC:a2.toNat<a0.O.length:=by omega
 have bC:=ci.bm _ (dz iC)
 have zB:=ci.be
 have dd:=G.at' aQ
 have eo:=dd.setState 1
 refine⟨⟨t0,iC⟩,⟨⟨t0,aQ⟩,dd.fo⟩,fun ag=>⟨⟨cT (cN _),rfl⟩,fun x v aJ=> ?_⟩⟩
 obtain⟨aJ,rfl⟩:=aJ
 unfold OK DY lI rE lH
 refine⟨fun hv=> ?_,fun hv=>⟨bX aJ hv,fun hm=>⟨⟨cT (cN _),rfl⟩,fun y k cP=> ?_⟩⟩⟩
 ·have jW: ¬v<((lc (nth a0.O a2)).length:Int):=by simpa[lc] using hv
  have h1:=aJ.2.1
  refine⟨?_,eo.G,eo.ht⟩
  rw[List.take_of_length_le (by omega),ZY]
 ·obtain⟨cP,rfl⟩:=cP
  have b3:=bX aJ hv
  unfold OJ OI DZ wb nv lI A7 yc lH
  refine⟨fun hk=>⟨⟨(cw (b5 ag) aJ hv rfl).1,?_⟩,(cw (b5 ag) aJ hv rfl).2⟩,fun hk=>⟨⟨bX cP hk,?_⟩,⟨(cw (b5 hm) cP hk rfl).1,?_⟩,(cw (b5 hm) cP hk rfl).2⟩⟩
  ·have kz: ¬k<((nth (lc (nth a0.O a2)) v).length:Int):=of_decide_eq_false hk
   have h1:=cP.2.1
   rw[hL (b5 ag) b3.1 (by simpa using hv),show(v+1).toNat=v.toNat+1 by omega,ano b3.2,List.take_of_length_le (by omega),fU b3.2]
  ·have hx:=bC.2.2 _ (anp b3.2 (dz (bX cP hk).2))
   have e:(j2 (List.take k.toNat (nth (lc (nth a0.O a2)) v)) (j2 (List.take v.toNat (lc (nth a0.O a2))).flatten U)).length=U.length:=by rw[DG,DG]
   exact⟨hx.1,by rw[e];have:=hx.2;show(nth (nth (lc (nth a0.O a2)) v) k).be.toNat<_;omega⟩
  ·have lV:=bX cP hk
   rw[hL (b5 hm) cP.1 (by simpa using hk),show(k+1).toNat=k.toNat+1 by omega,XP lV.2,←fU lV.2]
   rfl)
end
section
variable (ad:Int→Prop) (m0:Int→Nat) (a0:aC) (a2:Int) (hk:Bool) (ai:List Bool) (U:List bx) (hw:List aq) (hi:List Nat) (hb:List (List Bool)) (cJ:Int) (ax:Nat)
abbrev rD:=hw.set a2.toNat (aq.mk 3 (nth hw a2).a7 (nth hw a2).ah (nth hw a2).bI (nth hw a2).bG)
abbrev Ht:List Blk:=(⟨ax,4,[[an hk,ap 1 0 ai.length,ap 2 0 U.length,ap 3 0 hw.length]]⟩::⟨0,1,List.map aP ai⟩::⟨0,2,List.map a1 U⟩::⟨0,5,aR 4 hw hi⟩::List.map bh hb)
abbrev iZ:=(nth a0.O a2).ei
abbrev qt:=((nth hw a2).ar !=1)&&((nth hw a2).ar !=2)
abbrev la:=0+a2.toNat
abbrev A0:=IntKind.i64.wrap (cJ+1)
abbrev A1:=(rD a2 hw).set a2.toNat (aq.mk (nth (rD a2 hw) a2).ar (nth (rD a2 hw) a2).a7 (nth (rD a2 hw) a2).ah (nth (rD a2 hw) a2).bI a0.ct)
abbrev pS:=(nth ai (nth (iZ a0 a2) cJ))&&(nth hw a2).bI
abbrev DV:=decide (cJ<((iZ a0 a2).length:Int))
noncomputable def amh:Code:=iP Tryz.f61
def Oe:Prop:=
  xA a0 a2 hk ai U hw hi hb ai U (A1 a0 a2 hw) hi hb 0
def Of:Prop:=
  (pS a0 a2 ai hw cJ)=true→(hw.length=hi.length∧a2.toNat<hw.length)∧(((rD a2 hw).length=hi.length∧a2.toNat<(rD a2 hw).length)∧(Oe a0 a2 hk ai U hw hi hb))
def Og:Prop:=
  ((0≤cJ∧cJ.toNat<(iZ a0 a2).length)∧(((0≤(nth (iZ a0 a2) cJ)∧(nth (iZ a0 a2) cJ).toNat<ai.length)∧((nth ai (nth (iZ a0 a2) cJ))=true→hw.length=hi.length∧a2.toNat<hw.length))∧(Of a0 a2 hk ai U hw hi hb cJ)))∧((!(pS a0 a2 ai hw cJ))=true→ad (A0 cJ)∧m0 (A0 cJ)<m0 cJ)
def Oh:Prop:=
  ad 0∧ ∀(cJ:Int),ad cJ→(((DV a0 a2 cJ)=false→(F4 a2 hk ai U hw hi hb)∧(∀(yr:List aq) (i18:List Nat) (yO:List (List Bool)),xh a2 hk ai U hw hi hb ai U yr i18 yO→(xA a0 a2 hk ai U hw hi hb ai U yr i18 yO 0)))∧((DV a0 a2 cJ)=true→Og ad m0 a0 a2 hk ai U hw hi hb cJ))
def Oi:Prop:=
  (((hw.length=hi.length∧a2.toNat<hw.length)∧(((nth hw a2).ar !=1)=true→hw.length=hi.length∧a2.toNat<hw.length))∧((qt a2 hw)=true→xA a0 a2 hk ai U hw hi hb ai U hw hi hb 2))∧((!(qt a2 hw))=true→(0≤a2∧a2.toNat<a0.O.length)∧((iZ a0 a2).length≤4611686018427387904→Oh ad m0 a0 a2 hk ai U hw hi hb))
def Od (a0:aC) (a2:Int) (ax:Nat) (hk:Bool) (ai:List Bool) (U:List bx) (hw:List aq) (hi:List Nat) (hb:List (List Bool)) (ad:Int→Prop) (m0:Int→Nat):Prop:=
 (0≤a2∧a2.toNat<hw.length)∧(Oi ad m0 a0 a2 hk ai U hw hi hb)
theorem ami (a0:aC) (a2:Int) (ax:Nat) (hk:Bool) (ai:List Bool) (U:List bx) (hw:List aq) (hi:List Nat) (hb:List (List Bool)) (ad:Int→Prop) (m0:Int→Nat) (h:Od a0 a2 ax hk ai U hw hi hb ad m0):c0 Tryz.prog 61 [.agg (bA false a0),.ptr 0 ax 0 0,ab a2] (Ht hk ai U hw hi hb ax) (fun r H'=> ∃(eI:List aq) (fC:List Nat) (dL:List (List Bool)) (aa:Int),r=ab aa∧H'=(⟨ax,4,[[an hk,ap 1 0 ai.length,ap 2 0 U.length,ap 3 0 eI.length]]⟩::⟨0,1,List.map aP ai⟩::⟨0,2,List.map a1 U⟩::⟨0,5,aR 4 eI fC⟩::List.map bh dL)∧xA a0 a2 hk ai U hw hi hb ai U eI fC dL aa):=by
 unfold Od at h
 refine c0.go (fn:=Tryz.f61) [(0,.agg (bA false a0)),(1,.ptr 0 ax 0 0),(2,ab a2)] Tryz.func61 (fun _ _=> ?_)
 show WpS _ (bB amh 1) _ ⟨bd 63 [(0,.agg (bA false a0)),(1,.ptr 0 ax 0 0),(2,ab a2)],[],(Ht hk ai U hw hi hb ax)⟩
 refine uR [] 0 [(6,ab 0),(3,aF 3 0)] [0,1,1] [0,1,2] (fun L=>(3,(bA false a0))::L) id ?_
 obtain⟨mE,h⟩:=h
 refine cc [(7,.ptr 3 0 (la a2) 0)] [3] (True) ?_ (fun q2=> ?_)
 ·
  replace h:=mE
  refine bo [] 1 ?_
  refine oX 4 (some 13) (ap 3 0 hw.length) [(12,.ptr 0 ax 0 3),(11,.ptr 0 ax 0 0),(10,.ptr 0 ax 0 0)] (φ:=ax=ax) rfl ?_
  have anR:=h
  refine l3 2 (some 15) [(14,ab a2)] 3 0 5 anR ?_
  exact bJ [(7,.ptr 3 0 (la a2) 0)] trivial
 unfold Oi at h
 obtain⟨lA,h⟩:=h
 refine cc [] [4] ((!(qt a2 hw))=true) ?_ (fun q3=> ?_)
 ·
  replace h:=lA
  obtain⟨gG,h⟩:=h
  refine cc [(27,an (qt a2 hw))] [4] (True) ?_ (fun q4=> ?_)
  ·
   replace h:=gG
   refine bo [] 2 ?_
   obtain⟨fH,h⟩:=h
   refine iX 4 (some 19) [(18,.ptr 3 0 (la a2) 0),(17,.ptr 3 0 (la a2) 0),(16,.ptr 3 0 (la a2) 0)] (aR 4 hw hi) a2 3 0 0 (ab (nth hw a2).ar) (dx fH.1 fH.2) ?_
   refine oY 2 21 ((nth hw a2).ar !=1) [(20,an ((nth hw a2).ar !=1))] (fun cs=> ?_) (fun cs=> ?_)
   ·
    replace h:=h cs
    have cD:=h
    refine iX 4 (some 25) [(24,.ptr 3 0 (la a2) 0),(23,.ptr 3 0 (la a2) 0),(22,.ptr 3 0 (la a2) 0)] (aR 4 hw hi) a2 3 0 0 (ab (nth hw a2).ar) (dx cD.1 cD.2) ?_
    exact bJ [(27,an ((nth hw a2).ar !=2)),(26,an ((nth hw a2).ar !=2))] trivial (by simp only[cs,pS,qt]<;>kernel_rfl)
   ·
    exact bJ ([(27,an false)]++gg [26,25,24,23,22]) trivial (by simp only[cs,pS,qt]<;>kernel_rfl)
  refine dp (fun fu=> ?_) (fun fu=> ?_)
  ·
   replace h:=h fu
   refine dY [] 3 [(6,ab 2)] [1] [] ?_
   refine hh ?_
   refine bP.ret ?_
   refine mG (ab 2) [ab 2] ?_
   exact⟨hw,hi,hb,2,rfl,rfl,h⟩
  ·
   refine d_ ?_
   exact bP.normal (by simp only[fu,pS,qt]<;>rfl) dU
 replace h:=h q3
 refine hz ?_
 obtain⟨mD,h⟩:=h
 refine cc [(33,bq cd (iZ a0 a2)),(34,ab ((iZ a0 a2).length:Int)),(35,ab 0)] [3] ((iZ a0 a2).length≤4611686018427387904) ?_ (fun iF=> ?_)
 ·
  replace h:=mD
  refine bo [] 4 ?_
  have fA:=h
  refine lC 4 (some 31) [(30,ab a2),(29,bq (da false) a0.O),(28,aF 3 2)] (da false) a0.O 5 fA ?_
  refine sLen 3 (some 34) [(33,bq cd (iZ a0 a2)),(32,.dh (da false (nth a0.O a2)) 4)] cd (iZ a0 a2) (fun h3=> ?_)
  exact bJ [(35,ab 0)] h3
 replace h:=h iF
 unfold Oh at h
 refine fg 0 ?_
 obtain⟨oU,h⟩:=h
 refine kq (fun(v:Int)=>(⟨(bd 63 [(1,.ptr 0 ax 0 0),(3,aF 3 0),(7,.ptr 3 0 (la a2) 0),(33,bq cd (iZ a0 a2)),(34,ab ((iZ a0 a2).length:Int)),(35,ab v)]),[(3,(bA false a0))],(Ht hk ai U hw hi hb ax)⟩:St)) (fun(v:Int)=>ad v) (fun(v:Int)=>m0 v) 0 (di []) oU (fun cJ aJ=> ?_)
 replace h:=h cJ aJ
 refine dY [] 5 [(36,an (DV a0 a2 cJ))] [1] [6] ?_
 obtain⟨jB,h⟩:=h
 refine cc [] [0,1,6] ((DV a0 a2 cJ)=true) ?_ (fun jn=> ?_)
 ·
  replace h:=jB
  refine dp (fun kh=> ?_) (fun kh=> ?_)
  ·
   refine d_ ?_
   exact bP.normal (by simp only[q3,kh,pS,qt]<;>rfl) dU
  ·
   replace h:=h kh
   refine jf 0 ?_
   refine bP.exit ?_
   refine dO.exit ?_
   refine bT.here ?_
   refine dR.normal ?_
   refine hz ?_
   refine bo [] 12 ?_
   obtain⟨kL,h⟩:=h
   refine vO 2 (some 62) [(61,.ptr 3 0 (la a2) 0)] [.ptr 3 0 (la a2) 0] _ (Ox a2 ax hk ai U hw hi hb kL) (fun r H' U=>by obtain⟨_,_,_,rfl,_⟩:=U;rfl) ?_
   rintro r H' ⟨yr,i18,yO,rfl,rfl,j0⟩
   replace h:=h yr i18 yO j0
   refine dM [] ?_
   refine dR.normal ?_
   refine j9 ⟨(bd 63 [(6,ab 0)]),[(3,(bA false a0))],(⟨ax,4,[[an hk,ap 1 0 ai.length,ap 2 0 U.length,ap 3 0 yr.length]]⟩::⟨0,1,List.map aP ai⟩::⟨0,2,List.map a1 U⟩::⟨0,5,aR 4 yr i18⟩::List.map bh yO)⟩ (True) ?_ (fun iG=> ?_)
   ·
    refine bo [] 13 ?_
    exact bJ [(6,ab 0)] trivial
   refine hh ?_
   refine mG (ab 0) [ab 0] ?_
   exact⟨yr,i18,yO,0,rfl,rfl,h⟩
 replace h:=h jn
 unfold Og at h
 obtain⟨ru,h⟩:=h
 refine cc [] [6] ((!(pS a0 a2 ai hw cJ))=true) ?_ (fun il=> ?_)
 ·
  replace h:=ru
  refine fg 1 ?_
  obtain⟨l0,h⟩:=h
  refine cc [(9,ab (nth (iZ a0 a2) cJ))] [6] (True) ?_ (fun gR=> ?_)
  ·
   replace h:=l0
   refine bo [] 6 ?_
   have iH:=h
   refine lC 1 (some 37) [] cd (iZ a0 a2) 1 iH ?_
   exact bJ [(9,ab (nth (iZ a0 a2) cJ)),(38,ab (nth (iZ a0 a2) cJ))] trivial
  obtain⟨ql,h⟩:=h
  refine cc [(51,an (pS a0 a2 ai hw cJ))] [0,1,6] (True) ?_ (fun im=> ?_)
  ·
   replace h:=ql
   refine bo [] 7 ?_
   refine oX 4 (some 42) (ap 1 0 ai.length) [(41,.ptr 0 ax 0 1),(40,.ptr 0 ax 0 0),(39,.ptr 0 ax 0 0)] (φ:=ax=ax) rfl ?_
   obtain⟨aas,h⟩:=h
   refine l3 2 (some 44) [(43,ab (nth (iZ a0 a2) cJ))] 1 0 1 aas ?_
   refine XG 1 (some 45) [] aP ai (nth (iZ a0 a2) cJ) 4 0 0 (an (nth ai (nth (iZ a0 a2) cJ))) (by simpa using aas.2) ?_
   refine oY 1 46 (nth ai (nth (iZ a0 a2) cJ)) [] (fun kM=> ?_) (fun kM=> ?_)
   ·
    replace h:=h kM
    have nn:=h
    refine iX 4 (some 50) [(49,.ptr 3 0 (la a2) 3),(48,.ptr 3 0 (la a2) 0),(47,.ptr 3 0 (la a2) 0)] (aR 4 hw hi) a2 4 3 0 (an (nth hw a2).bI) (dx nn.1 nn.2) ?_
    exact bJ [(51,an (nth hw a2).bI)] trivial (by simp only[q3,jn,kM,pS,qt]<;>kernel_rfl)
   ·
    exact bJ ([(51,an false)]++gg [50,49,48,47]) trivial (by simp only[q3,jn,kM,pS,qt]<;>kernel_rfl)
  unfold Of at h
  refine dp (fun oT=> ?_) (fun oT=> ?_)
  ·
   replace h:=h oT
   obtain⟨gS,h⟩:=h
   refine eU [] [0,2,2] id (fun H=>eh 3 ⟨0,5,aR 4 (rD a2 hw) hi⟩ H) (True) ?_ (fun n4=> ?_)
   ·
    replace h:=gS
    refine bo [] 8 ?_
    have jz:=h
    refine ki 4 none [(54,.ptr 3 0 (la a2) 0),(53,.ptr 3 0 (la a2) 0),(52,.ptr 3 0 (la a2) 0)] (aR 4 hw hi) a2 0 1 0 [ab 3] 3 (aR 4 (rD a2 hw) hi) (dx jz.1 jz.2) (kw jz.1 jz.2) ?_
    exact bJ [] trivial
   obtain⟨lz,h⟩:=h
   refine eU [] [] id (fun H=>eh 3 ⟨0,5,aR 4 (A1 a0 a2 hw) hi⟩ H) (True) ?_ (fun lx=> ?_)
   ·
    replace h:=lz
    refine bo [] 9 ?_
    have jA:=h
    refine ki 6 none [(59,.ptr 3 0 (la a2) 4),(58,.ptr 3 0 (la a2) 0),(57,ab a0.ct),(56,aF 3 4),(55,.ptr 3 0 (la a2) 0)] (aR 4 (rD a2 hw) hi) a2 4 1 0 [ab a0.ct] 3 (aR 4 (A1 a0 a2 hw) hi) (dx jA.1 jA.2) (kw jA.1 jA.2) ?_
    exact bJ [] trivial
   refine dY [] 10 [(6,ab 0)] [1] [] ?_
   unfold Oe at h
   refine hh ?_
   refine bT.ret ?_
   refine bP.ret ?_
   refine dO.ret ?_
   refine bT.ret ?_
   refine dR.ret ?_
   refine mG (ab 0) [ab 0] ?_
   exact⟨(A1 a0 a2 hw),hi,hb,0,rfl,(by rw[show hw.length=(A1 a0 a2 hw).length by simp]<;>rfl),h⟩
  ·
   refine d_ ?_
   refine bT.normal ?_
   exact bP.normal (by simp only[q3,jn,oT,pS,qt]<;>rfl) dU
 replace h:=h il
 refine bo [] 11 ?_
 refine dM [(35,ab (A0 cJ)),(60,ab (A0 cJ))] ?_
 exact dO.again (A0 cJ) h (di [])
theorem amg (a0:aC) (a2:Int) (ax:Nat) (hk:Bool) (ai:List Bool) (U:List bx) (hw:List aq) (hi:List Nat) (hb:List (List Bool)) (ae:UN a0 a2 hk ai U hw hi hb):c0 Tryz.prog 61 [.agg (bA false a0),.ptr 0 ax 0 0,ab a2] (Ht hk ai U hw hi hb ax) (fun r H'=> ∃(eI:List aq) (fC:List Nat) (dL:List (List Bool)) (aa:Int),r=ab aa∧H'=(⟨ax,4,[[an hk,ap 1 0 ai.length,ap 2 0 U.length,ap 3 0 eI.length]]⟩::⟨0,1,List.map aP ai⟩::⟨0,2,List.map a1 U⟩::⟨0,5,aR 4 eI fC⟩::List.map bh dL)∧xA a0 a2 hk ai U hw hi hb ai U eI fC dL aa):=ami a0 a2 ax hk ai U hw hi hb (bW ((nth a0.O a2).ei.length:Int) (fun k=>nth ai (nth (nth a0.O a2).ei k)&&(nth hw a2).bI)) (cg ((nth a0.O a2).ei.length:Int)) (by
 unfold Od
 obtain⟨G,ci,t0,t1,t2,zx⟩:=ae
 have aQ:a2.toNat<hw.length:=by omega
 have iC:a2.toNat<a0.O.length:=by omega
 have jh:=ci.ei _ (dz iC)
 have tE:=ci.cx
 have dd:=G.at' aQ
 have acL:(nth hw a2).ar=(nth (cE hk ai U hw hi hb).O a2).ar:=dd.ar
 have y5:(nth hw a2).bI=(nth (cE hk ai U hw hi hb).O a2).bI:=dd.bI
 have p9:(((nth hw a2).ar !=1)&&((nth hw a2).ar !=2))=decide ((nth (cE hk ai U hw hi hb).O a2).ar≠1∧(nth (cE hk ai U hw hi hb).O a2).ar≠2):=by
  rw[Bool.eq_iff_iff,acL];simp
 unfold Oi qt iZ
 rw[p9]
 refine⟨⟨t0,aQ⟩,⟨⟨dd.fo,fun _=>dd.fo⟩,fun hc=> ?_⟩,fun hc=>⟨⟨t0,iC⟩,fun ag=> ?_⟩⟩
 ·have hc:=of_decide_eq_true hc
  have e:uN (cE hk ai U hw hi hb) a2=2:=by unfold uN;rw[if_pos hc]
  exact⟨G,e.symm,by rw[e];rfl⟩
 have hc: ¬_:=of_decide_eq_false (by simpa only[Bool.not_eq_true'] using hc)
 have iQ:uN (cE hk ai U hw hi hb) a2=0:=by unfold uN;rw[if_neg hc]
 unfold Oh DV iZ
 refine⟨cT (cN _),fun v aJ=>⟨fun hv=>⟨⟨G,t0,t1⟩,fun w i b kD=> ?_⟩,fun hv=> ?_⟩⟩
 ·obtain⟨pc,jW⟩:=kD
  refine⟨pc,iQ.symm,?_⟩
  rw[if_pos iQ,jW]
  have ms:((nth (cE hk ai U hw hi hb).O a2).bI&&hd (cE hk ai U hw hi hb) (nth a0.O a2).ei)=false:=by
   rw[←y5]
   have dS:=ny (q:=fun x=>nth ai x&&(nth hw a2).bI) (gT aJ hv)
   cases hs:(nth hw a2).bI with
   | false=>rfl
   | true=>
    rw[Bool.true_and]
    unfold hd
    rw[List.any_eq_false]
    intro x hx
    have:=dS x hx
    simp only[hs,Bool.and_true] at this
    show ¬(nth ai x=true)
    rw[this];simp
  unfold EC
  rw[if_neg (by rw[ms];simp)];rfl
 ·unfold Og pS A0 iZ
  have b3:=bX aJ hv
  have hx:=jh.2 _ (dz b3.2)
  refine⟨⟨b3,⟨⟨hx.1,by omega⟩,fun _=>dd.fo⟩,?_⟩,fun dL=>cw (b5 ag) aJ hv (not_eq dL)⟩
  unfold Of Oe pS A1 iZ rD
  intro dL
  have eo:=dd.setState 3
  refine⟨dd.fo,eo.fo,?_⟩
  have fY:=eo.AJ a0.ct
  refine⟨fY.G,iQ.symm,?_⟩
  rw[if_pos iQ]
  have gm:nth ai (nth (nth a0.O a2).ei v)=true∧(nth hw a2).bI=true:=by simpa using dL
  have aeE:hd (cE hk ai U hw hi hb) (nth a0.O a2).ei=true:=by
   unfold hd;rw[List.any_eq_true];exact⟨_,dz b3.2,gm.1⟩
  unfold EC
  rw[if_pos (by rw[aeE,←y5,gm.2];rfl)]
  exact fY.ht)
end
section
variable (ad:jK Prop) (m0:jK Nat) (ez:Bx Prop) (a0:aC) (J:Frame) (a2:Event) (aa:fv) (aO:List (List Bool)) (bM:List Nat) (bY:Int) (aT:List aq) (aL:(List Bool)) (bO:(List bx)) (db:Int) (om:List aq)
abbrev k_:=aT.set bY.toNat (aq.mk (nth aT bY).ar (nth aT bY).a7 (nth aT bY).ah (nth aT bY).bI (IntKind.i64.wrap ((nth aT bY).bG - 1)))
abbrev eR:=(aK J).O
abbrev fi:=List.map aq.ah (eR J)
abbrev mI:List (Nat×List AV):=[(6,[ab 0,an false,ca,ca,ca]),(3,(bA false a0))]
abbrev fj:=List.range (eR J).length
abbrev DS:List (Nat×AV):=[(3,aF 3 0),(6,aF 6 0),(7,.ptr 0 1 0 0),(8,ab 0)]
abbrev h6:=(aK J).ok
abbrev dB:=(aK J).aH
abbrev dH:=(aK J).aN
abbrev AR:List AV:=[an (h6 J),ap 1 0 (dH J).length,ap 2 0 (dB J).length,ap 3 0 (eR J).length]
abbrev fV:=[2000007]
abbrev pR:=IntKind.i64.wrap (bY+1)
abbrev uo:=((eR J).length:Int)
abbrev NU:List (Nat×AV):=[(3,aF 3 0),(6,aF 6 0),(7,.ptr 0 1 0 0),(8,ab 0),(100,ab (uo J)),(101,ab (pR bY))]
abbrev Hq:List (Nat×AV):=[(0,.agg (bA false a0)),(1,.agg (cG false J)),(2,.agg (fJ a2))]
abbrev AM:=(dB J).set a2.aA.toNat (bx.mk (nth (dB J) a2.aA).dc a2.bj)
abbrev AN:=(dB J).set a2.aA.toNat (bx.mk a2.bj (nth (dB J) a2.aA).bm)
abbrev DQ:=decide (((gC a0 J a2.aA).length:Int)>0)
abbrev NV:List AV:=[ab db,an (h6 J),ap 1 0 aL.length,ap 2 0 bO.length,ap 3 0 om.length]
abbrev Yh:List Blk:=(⟨1,4,[(AR J)]⟩::⟨0,1,List.map aP (dH J)⟩::⟨0,2,List.map a1 (dB J)⟩::⟨0,5,aR 4 (eR J) (fj J)⟩::List.map bh (fi J))
abbrev vX:=bd 133 DS
abbrev DR:=(nth (k_ bY aT) bY).bG==0
abbrev AO:=(dH J).set a2.aA.toNat false
abbrev AP:=(dH J).set a2.aA.toNat true
abbrev sP:=(!(gX a0 J)) || (!(e8 a0 a2))
abbrev NW:List (Nat×AV):=[(101,ab (pR bY)),(127,ab (pR bY))]
abbrev oc:=0+bY.toNat
abbrev AQ:=(nth aT bY).ar !=3
abbrev Yi:List (Nat×List AV):=[(6,[ab 0,an false,ca,ca,ca]),(5,(fJ a2)),(4,(cG false J)),(3,(bA false a0))]
noncomputable def alQ:Code:=iP Tryz.f23
def alS:List Item:=(List.range 10).map bV
def alT:List (List Nat):=[[],[0],[],[2],[],[4],rg 2 6,rg 2 7,rg 0 8,rg 0 9]
def NI:Prop:=
  (((gj a0 J a2.aA)==0)=true→(UO a0 a2.aA (h6 J) (dH J) (dB J) (eR J) (fj J) (fi J))∧(∀(iG:List bx) (Ee:List aq),Gr a0 a2.aA (h6 J) (dH J) (dB J) (eR J) (fj J) (fi J) (dH J) iG Ee (fj J) (fi J)→(ez (fi J) (dH J) iG (fj J) (gj a0 J a2.aA) Ee)))∧(((gj a0 J a2.aA)==0)=false→ez (fi J) (dH J) (dB J) (fj J) (gj a0 J a2.aA) (eR J))
def NM:Prop:=
  ((nth J.aN (nth a0.bb a2.aA))=true→ez (fi J) (dH J) (dB J) (fj J) 3 (eR J))∧((nth J.aN (nth a0.bb a2.aA))=false→(0≤a2.aA∧a2.aA.toNat<(dB J).length)∧(ez (fi J) (dH J) (AN J a2) (fj J) 0 (eR J)))
def NN:Prop:=
  ((DQ a0 J a2)=true→ez (fi J) (dH J) (dB J) (fj J) 2 (eR J))∧((DQ a0 J a2)=false→((0≤a2.aA∧a2.aA.toNat<a0.bb.length)∧(0≤(nth a0.bb a2.aA)∧(nth a0.bb a2.aA).toNat<J.aN.length))∧(NM ez a0 J a2))
def NO:Prop:=
  ((DR bY aT)=true→(F4 bY (h6 J) (dH J) (dB J) (k_ bY aT) bM aO)∧(∀(BA:List aq) (i71:List Nat) (yQ:List (List Bool)),xh bY (h6 J) (dH J) (dB J) (k_ bY aT) bM aO (dH J) (dB J) BA i71 yQ→(ad yQ i71 (pR bY) BA∧m0 yQ i71 (pR bY) BA<m0 aO bM bY aT)))∧((DR bY aT)=false→ad aO bM (pR bY) (k_ bY aT)∧m0 aO bM (pR bY) (k_ bY aT)<m0 aO bM bY aT)
def NP:Prop:=
  ((k_ bY aT).length=bM.length∧bY.toNat<(k_ bY aT).length)∧(NO ad m0 J aO bM bY aT)
def NQ:Prop:=
  ((aT.length=bM.length∧bY.toNat<aT.length)∧((AQ bY aT)=true→ad aO bM (pR bY) aT∧m0 aO bM (pR bY) aT<m0 aO bM bY aT))∧((!(AQ bY aT))=true→((aT.length=bM.length∧bY.toNat<aT.length)∧(aT.length=bM.length∧bY.toNat<aT.length))∧(NP ad m0 J aO bM bY aT))
def NR:Prop:=
  ad (fi J) (fj J) 0 (eR J)∧ ∀(aO:List (List Bool)) (bM:List Nat) (bY:Int) (aT:List aq),ad aO bM bY aT→(((decide (bY<(uo J)))=false→ez aO (dH J) (dB J) bM 0 aT)∧((decide (bY<(uo J)))=true→(0≤bY∧bY.toNat<aT.length)∧(NQ ad m0 J aO bM bY aT)))
def NS:Prop:=
  ((a2.op==5)=true→(0≤a2.aA∧a2.aA.toNat<(dB J).length)∧(ez (fi J) (dH J) (AM J a2) (fj J) 0 (eR J)))∧((a2.op==5)=false→((a2.op==6)=true→(sF a0 J a2.aA)∧((gC a0 J a2.aA).length≤4611686018427387904→NN ez a0 J a2))∧((a2.op==6)=false→((a2.op==7)=true→NR ad m0 ez J)∧((a2.op==7)=false→ez (fi J) (dH J) (dB J) (fj J) 0 (eR J))))
def NT:Prop:=
  ((a2.op==3)=true→(0≤a2.aA∧a2.aA.toNat<(dH J).length)∧(ez (fi J) (AP J a2) (dB J) (fj J) 0 (eR J)))∧((a2.op==3)=false→((a2.op==4)=true→(0≤a2.aA∧a2.aA.toNat<(dH J).length)∧(ez (fi J) (AO J a2) (dB J) (fj J) 0 (eR J)))∧((a2.op==4)=false→NS ad m0 ez a0 J a2))
def NJ:Prop:=
  ((a2.op==2)=true→(UN a0 a2.aA (h6 J) (dH J) (dB J) (eR J) (fj J) (fi J))∧(∀(eS:List aq) (i28:List Nat) (kp:List (List Bool)) (AC:Int),xA a0 a2.aA (h6 J) (dH J) (dB J) (eR J) (fj J) (fi J) (dH J) (dB J) eS i28 kp AC→(ez kp (dH J) (dB J) i28 AC eS)))∧((a2.op==2)=false→NT ad m0 ez a0 J a2)
def NK:Prop:=
  (Nc a0 (h6 J) aL bO aT bM aO)∧(∀(om:List aq) (i82:List Nat) (uM:List (List Bool)),DF a0 (h6 J) aL bO aT bM aO aL bO om i82 uM→((db=aa.code)∧((aK J).ok=aa.frame.ok)∧(aL.length≤4611686018427387904∧aL=aa.frame.aN)∧(bO.length≤4611686018427387904∧bO=aa.frame.aH)∧(kQ om i82 uM∧om.length≤4611686018427387904∧(∀x∈uM,List.length x≤4611686018427387904)∧view om i82 uM=aa.frame.O)))
def NL:Prop:=
  (((Rr a0 J)∧((!(gX a0 J))=false→WQ a0 a2))∧((sP a0 J a2)=true→(1=aa.code)∧(false=aa.frame.ok)∧([]=aa.frame.aN)∧([]=aa.frame.aH)∧([]=aa.frame.O)))∧((!(sP a0 J a2))=true→(ho J)∧((((a2.op==1)=true→(rM a0 J a2.aA)∧(NI ez a0 J a2))∧((a2.op==1)=false→NJ ad m0 ez a0 J a2))∧(∀(aO:List (List Bool)) (aL:(List Bool)) (bO:(List bx)) (bM:List Nat) (db:Int) (aT:List aq),ez aO aL bO bM db aT→(NK a0 J aa aO bM aT aL bO db))))
def NH (a0:aC) (J:Frame) (a2:Event) (aa:fv) (ad:jK Prop) (m0:jK Nat) (ez:Bx Prop):Prop:=
 NL ad m0 ez a0 J a2 aa
theorem alU (a0:aC) (J:Frame) (a2:Event) (aa:fv) (ad:jK Prop) (m0:jK Nat) (ez:Bx Prop) (h:NH a0 J a2 aa ad m0 ez):bc Tryz.prog 23 [.agg (bA false a0),.agg (cG false J),.agg (fJ a2)] (.agg (nJ true aa)):=by
 unfold NH at h
 refine c0.go (fn:=Tryz.f23) (Hq a0 J a2) Tryz.func23 (fun _ _=> ?_)
 show WpS _ (bB alQ 1) _ ⟨bd 133 (Hq a0 J a2),[],[]⟩
 refine WpS.mP ?_ (hg (s'':=⟨(bd 133 (Hq a0 J a2)),[],[⟨0,4,[]⟩]⟩) (Weak.Ad (T:=(bd 133 (Hq a0 J a2))) (L:=[]) (H:=[]) 4) (by kernel_rfl))
 refine rX fV 0 [(6,aF 6 0),(5,aF 5 0),(4,aF 4 0),(3,aF 3 0)] [4] [] (Yi a0 J a2) [⟨0,4,[]⟩] ?_
 unfold NL at h
 obtain⟨rz,h⟩:=h
 refine cc [] [4] ((!(sP a0 J a2))=true) ?_ (fun q2=> ?_)
 ·
  replace h:=rz
  obtain⟨iV,h⟩:=h
  refine cc [(20,an (sP a0 J a2))] [4] (True) ?_ (fun q3=> ?_)
  ·
   replace h:=iV
   refine bo fV 1 ?_
   obtain⟨q4,h⟩:=h
   refine mH 3 (some 13) [(12,.agg (cG false J)),(11,.agg (bA false a0))] [.agg (bA false a0),.agg (cG false J)] (alV a0 J q4) (af.cons (cL.agg (af.cons (.int _ _) (af.cons cj (af.cons cj (af.cons cj (af.cons (.int _ _) af.nil)))))) (af.cons (cL.agg (af.cons (.bool _) (af.cons cj (af.cons cj (af.cons cj af.nil))))) af.nil)) ?_
   refine oY 2 15 (!(gX a0 J)) [(14,an (!(gX a0 J)))] (fun cs=> ?_) (fun cs=> ?_)
   ·
    exact bJ ([(20,an true)]++gg [19,18,17,16]) trivial (by simp only[cs,sP]<;>kernel_rfl)
   ·
    replace h:=h cs
    have cD:=h
    refine mH 3 (some 18) [(17,.agg (fJ a2)),(16,.agg (bA false a0))] [.agg (bA false a0),.agg (fJ a2)] (amn a0 a2 cD) (af.cons (cL.agg (af.cons (.int _ _) (af.cons cj (af.cons cj (af.cons cj (af.cons (.int _ _) af.nil)))))) (af.cons (cL.agg (af.cons (.int _ _) (af.cons (.int _ _) (af.cons (.int _ _) af.nil)))) af.nil)) ?_
    exact bJ [(20,an (!(e8 a0 a2))),(19,an (!(e8 a0 a2)))] trivial (by simp only[cs,sP]<;>kernel_rfl)
  refine dp (fun fH=> ?_) (fun fH=> ?_)
  ·
   replace h:=h fH
   refine uR fV 2 [(21,.agg [ab 1,an false,ca,ca,ca])] [] [0,1,1] (fun L=>hP 0 0 (ab 1) L) id ?_
   exact hh (bP.ret (oW (.agg [ab 1,an false,ca,ca,ca]) (iw.agg (af.cons (yg h.1) (af.cons (oh h.2.1) (af.cons (sV h.2.2.1) (af.cons (sV h.2.2.2.1) (af.cons (sV h.2.2.2.2) af.nil))))))))
  ·
   refine d_ ?_
   exact bP.normal (by simp only[fH,sP]<;>rfl) dU
 replace h:=h q2
 obtain⟨MO,h⟩:=h
 refine eU [(7,.ptr 0 1 0 0)] [4] id (fun _=>(Yh J)) (True) ?_ (fun gG=> ?_)
 ·
  replace h:=MO
  refine bo fV 3 ?_
  have iF:=h
  refine vP 2 (some 23) [(22,.agg (cG false J))] [.agg (cG false J)] (.agg (AR J)) (⟨0,4,[]⟩::⟨0,1,List.map aP (dH J)⟩::⟨0,2,List.map a1 (dB J)⟩::⟨0,5,aR 4 (eR J) (fj J)⟩::List.map bh (fi J)) (On J iF) (af.cons (cL.agg (af.cons (.bool _) (af.cons cj (af.cons cj (af.cons cj af.nil))))) af.nil) GR (sN XV (by kernel_rfl)) ?_ (er:=by simp[nt,oZ,iY])
  refine Hj 1 [(7,.ptr 0 1 0 0)] (Yi a0 J a2) (⟨1,4,[[an false,ca,ca,ca]]⟩::⟨0,1,List.map aP (dH J)⟩::⟨0,2,List.map a1 (dB J)⟩::⟨0,5,aR 4 (eR J) (fj J)⟩::List.map bh (fi J)) ?_
  refine XI 1 [] (Yh J) (φ:=1=1) (ψ:=4≤4) rfl (by decide) ?_
  exact bJ [] trivial
 refine dY fV 4 [(8,ab 0)] [1] [5] ?_
 refine hz ?_
 refine dY fV 5 [(25,ab a2.op),(24,aF 5 0)] [1] [6] ?_
 obtain⟨ug,h⟩:=h
 refine Qr 0 (fun(v:List (List Bool)×(List Bool)×(List bx)×List Nat×Int×List aq)=>(⟨(bd 133 [(3,aF 3 0),(6,aF 6 0),(7,.ptr 0 1 0 0),(8,ab (v.2.2.2.2.1))]),(mI a0),(⟨1,4,[[an (h6 J),ap 1 0 (v.2.1).length,ap 2 0 (v.2.2.1).length,ap 3 0 (v.2.2.2.2.2).length]]⟩::⟨0,1,List.map aP (v.2.1)⟩::⟨0,2,List.map a1 (v.2.2.1)⟩::⟨0,5,aR 4 (v.2.2.2.2.2) (v.2.2.2.1)⟩::List.map bh (v.1))⟩:St)) (fun v=>ez (v.1) (v.2.1) (v.2.2.1) (v.2.2.2.1) (v.2.2.2.2.1) (v.2.2.2.2.2)) ?_ (fun v cP=> ?_)
 ·
  replace h:=ug
  refine dY fV 6 [(26,an (a2.op==1)),(27,an (a2.op==1))] [1] [7] ?_
  refine dp (fun jn=> ?_) (fun jn=> ?_)
  ·
   replace h:=h.1 jn
   obtain⟨gR,h⟩:=h
   refine cc [(8,ab (gj a0 J a2.aA))] [0,3,3,1,1] (True) ?_ (fun kh=> ?_)
   ·
    replace h:=gR
    refine bo fV 7 ?_
    have hG:=h
    refine mH 5 (some 32) [(31,ab a2.aA),(30,aF 5 1),(29,.agg (cG false J)),(28,.agg (bA false a0))] [.agg (bA false a0),.agg (cG false J),ab a2.aA] (amY a0 J a2.aA hG) (af.cons (cL.agg (af.cons (.int _ _) (af.cons cj (af.cons cj (af.cons cj (af.cons (.int _ _) af.nil)))))) (af.cons (cL.agg (af.cons (.bool _) (af.cons cj (af.cons cj (af.cons cj af.nil))))) (af.cons (cL.hW (.int _ _)) af.nil))) ?_
    exact bJ [(8,ab (gj a0 J a2.aA))] trivial
   refine dY fV 8 [(34,an ((gj a0 J a2.aA)==0)),(33,ab (gj a0 J a2.aA))] [1] [5] ?_
   unfold NI at h
   refine dp (fun hn=> ?_) (fun hn=> ?_)
   ·
    replace h:=h.1 hn
    refine bo fV 9 ?_
    obtain⟨j0,h⟩:=h
    refine vO 4 (some 38) [(37,ab a2.aA),(36,aF 5 1),(35,.agg (bA false a0))] [.agg (bA false a0),.ptr 0 1 0 0,ab a2.aA] _ (amC a0 a2.aA 1 (h6 J) (dH J) (dB J) (eR J) (fj J) (fi J) j0) (fun r H' U=>by obtain⟨_,_,rfl,_⟩:=U;rfl) ?_
    rintro r H' ⟨iG,Ee,rfl,rfl,il⟩
    replace h:=h iG Ee il
    refine dM [] ?_
    refine bT.normal ?_
    exact gI.normal ((fi J),(dH J),iG,(fj J),(gj a0 J a2.aA),Ee) h (di [5,4])
   ·
    replace h:=h.2 hn
    refine d_ ?_
    refine bT.normal ?_
    exact gI.normal ((fi J),(dH J),(dB J),(fj J),(gj a0 J a2.aA),(eR J)) h (di [5,4])
  ·
   replace h:=h.2 jn
   refine dY fV 10 [(39,an (a2.op==2)),(40,an (a2.op==2))] [1] [0,1,7] ?_
   unfold NJ at h
   refine dp (fun im=> ?_) (fun im=> ?_)
   ·
    replace h:=h.1 im
    refine bo fV 11 ?_
    obtain⟨jz,h⟩:=h
    refine vO 4 (some 44) [(43,ab a2.aA),(42,aF 5 1),(41,.agg (bA false a0))] [.agg (bA false a0),.ptr 0 1 0 0,ab a2.aA] _ (amg a0 a2.aA 1 (h6 J) (dH J) (dB J) (eR J) (fj J) (fi J) jz) (fun r H' U=>by obtain⟨_,_,_,_,rfl,_⟩:=U;rfl) ?_
    rintro r H' ⟨eS,i28,kp,AC,rfl,rfl,lx⟩
    replace h:=h eS i28 kp AC lx
    refine dM [(8,ab AC)] ?_
    refine bT.normal ?_
    exact gI.normal (kp,(dH J),(dB J),i28,AC,eS) h (di [5,4])
   ·
    replace h:=h.2 im
    refine dY fV 12 [(45,an (a2.op==3)),(46,an (a2.op==3))] [1] [0,1,7] ?_
    unfold NT at h
    refine dp (fun ly=> ?_) (fun ly=> ?_)
    ·
     replace h:=h.1 ly
     refine bo fV 13 ?_
     refine oX 2 (some 48) (ap 1 0 (dH J).length) [(47,.ptr 0 1 0 1)] (φ:=1=1) rfl ?_
     obtain⟨aav,h⟩:=h
     refine l3 3 (some 51) [(50,ab a2.aA),(49,aF 5 1)] 1 0 1 aav ?_
     refine vQ 1 none [] aP (dH J) a2.aA 0 1 0 [an true] 1 true (by simpa using aav.2) ?_
     refine dM [] ?_
     refine bT.normal ?_
     exact gI.normal ((fi J),(AP J a2),(dB J),(fj J),0,(eR J)) h (hg (s':=⟨vX,(mI a0),(⟨1,4,[(AR J)]⟩::⟨0,1,List.map aP (AP J a2)⟩::⟨0,2,List.map a1 (dB J)⟩::⟨0,5,aR 4 (eR J) (fj J)⟩::List.map bh (fi J))⟩) (di (n:=133) (A':=DS) (L':=(mI a0)) [5,4]) (congrArg (fun z=>(⟨vX,(mI a0),(⟨1,4,[[an (h6 J),ap 1 0 z,ap 2 0 (dB J).length,ap 3 0 (eR J).length]]⟩::⟨0,1,List.map aP (AP J a2)⟩::⟨0,2,List.map a1 (dB J)⟩::⟨0,5,aR 4 (eR J) (fj J)⟩::List.map bh (fi J))⟩:St)) (show(dH J).length=(AP J a2).length by simp)))
    ·
     replace h:=h.2 ly
     refine dY fV 14 [(52,an (a2.op==4)),(53,an (a2.op==4))] [1] [0,1,7] ?_
     refine dp (fun gS=> ?_) (fun gS=> ?_)
     ·
      replace h:=h.1 gS
      refine bo fV 15 ?_
      refine oX 2 (some 55) (ap 1 0 (dH J).length) [(54,.ptr 0 1 0 1)] (φ:=1=1) rfl ?_
      obtain⟨aax,h⟩:=h
      refine l3 3 (some 58) [(57,ab a2.aA),(56,aF 5 1)] 1 0 1 aax ?_
      refine vQ 1 none [] aP (dH J) a2.aA 0 1 0 [an false] 1 false (by simpa using aax.2) ?_
      refine dM [] ?_
      refine bT.normal ?_
      exact gI.normal ((fi J),(AO J a2),(dB J),(fj J),0,(eR J)) h (hg (s':=⟨vX,(mI a0),(⟨1,4,[(AR J)]⟩::⟨0,1,List.map aP (AO J a2)⟩::⟨0,2,List.map a1 (dB J)⟩::⟨0,5,aR 4 (eR J) (fj J)⟩::List.map bh (fi J))⟩) (di (n:=133) (A':=DS) (L':=(mI a0)) [5,4]) (congrArg (fun z=>(⟨vX,(mI a0),(⟨1,4,[[an (h6 J),ap 1 0 z,ap 2 0 (dB J).length,ap 3 0 (eR J).length]]⟩::⟨0,1,List.map aP (AO J a2)⟩::⟨0,2,List.map a1 (dB J)⟩::⟨0,5,aR 4 (eR J) (fj J)⟩::List.map bh (fi J))⟩:St)) (show(dH J).length=(AO J a2).length by simp)))
     ·
      replace h:=h.2 gS
      refine dY fV 16 [(59,an (a2.op==5)),(60,an (a2.op==5))] [1] [0,1,7] ?_
      unfold NS at h
      refine dp (fun l0=> ?_) (fun l0=> ?_)
      ·
       replace h:=h.1 l0
       refine bo fV 17 ?_
       refine oX 2 (some 62) (ap 2 0 (dB J).length) [(61,.ptr 0 1 0 2)] (φ:=1=1) rfl ?_
       obtain⟨aaz,h⟩:=h
       refine l3 5 (some 67) [(66,ab a2.bj),(65,aF 5 2),(64,ab a2.aA),(63,aF 5 1)] 2 0 2 aaz ?_
       refine vQ 2 none [(68,.ptr 2 0 (0+a2.aA.toNat) 1)] a1 (dB J) a2.aA 1 1 0 [ab a2.bj] 2 (bx.mk (nth (dB J) a2.aA).dc a2.bj) (by simpa using aaz.2) ?_
       refine dM [] ?_
       refine bT.normal ?_
       exact gI.normal ((fi J),(dH J),(AM J a2),(fj J),0,(eR J)) h (hg (s':=⟨vX,(mI a0),(⟨1,4,[(AR J)]⟩::⟨0,1,List.map aP (dH J)⟩::⟨0,2,List.map a1 (AM J a2)⟩::⟨0,5,aR 4 (eR J) (fj J)⟩::List.map bh (fi J))⟩) (di (n:=133) (A':=DS) (L':=(mI a0)) [5,4]) (congrArg (fun z=>(⟨vX,(mI a0),(⟨1,4,[[an (h6 J),ap 1 0 (dH J).length,ap 2 0 z,ap 3 0 (eR J).length]]⟩::⟨0,1,List.map aP (dH J)⟩::⟨0,2,List.map a1 (AM J a2)⟩::⟨0,5,aR 4 (eR J) (fj J)⟩::List.map bh (fi J))⟩:St)) (show(dB J).length=(AM J a2).length by simp)))
      ·
       replace h:=h.2 l0
       refine dY fV 18 [(69,an (a2.op==6)),(70,an (a2.op==6))] [1] [0,1,7] ?_
       refine dp (fun jB=> ?_) (fun jB=> ?_)
       ·
        replace h:=h.1 jB
        obtain⟨jC,h⟩:=h
        refine cc [(77,an (DQ a0 J a2))] [0,2,6] ((gC a0 J a2.aA).length≤4611686018427387904) ?_ (fun oU=> ?_)
        ·
         replace h:=jC
         refine bo fV 19 ?_
         have mD:=h
         refine mH 5 (some 75) [(74,ab a2.aA),(73,aF 5 1),(72,.agg (cG false J)),(71,.agg (bA false a0))] [.agg (bA false a0),.agg (cG false J),ab a2.aA] (Zd a0 J a2.aA mD) (af.cons (cL.agg (af.cons (.int _ _) (af.cons cj (af.cons cj (af.cons cj (af.cons (.int _ _) af.nil)))))) (af.cons (cL.agg (af.cons (.bool _) (af.cons cj (af.cons cj (af.cons cj af.nil))))) (af.cons (cL.hW (.int _ _)) af.nil))) ?_
         refine sLen 1 (some 76) [] cd (gC a0 J a2.aA) (fun lA=> ?_)
         exact bJ [(77,an (DQ a0 J a2))] lA
        replace h:=h oU
        unfold NN at h
        refine dp (fun mE=> ?_) (fun mE=> ?_)
        ·
         replace h:=h.1 mE
         refine bo fV 20 ?_
         refine dM [(8,ab 2)] ?_
         refine bT.normal ?_
         exact gI.normal ((fi J),(dH J),(dB J),(fj J),2,(eR J)) h (di [5,4])
        ·
         replace h:=h.2 mE
         obtain⟨mF,h⟩:=h
         refine cc [(87,an (nth J.aN (nth a0.bb a2.aA)))] [0,1,4,1,1] (True) ?_ (fun np=> ?_)
         ·
          replace h:=mF
          refine n9 fV 21 alS alT [] ?_
          obtain⟨n6,h⟩:=h
          refine ux 7 (some 84) [(83,ab a2.aA),(82,aF 5 1),(81,bq cd a0.bb),(80,aF 3 1),(79,bq aP J.aN),(78,aF 4 1)] cd a0.bb 1 n6 ?_
          have n5:=h
          refine ux 2 (some 86) [(85,ab (nth a0.bb a2.aA))] aP J.aN 1 n5 ?_
          exact lb [(87,an (nth J.aN (nth a0.bb a2.aA)))] trivial
         unfold NM at h
         refine dp (fun rv=> ?_) (fun rv=> ?_)
         ·
          replace h:=h.1 rv
          refine bo fV 22 ?_
          refine dM [(8,ab 3)] ?_
          refine bT.normal ?_
          exact gI.normal ((fi J),(dH J),(dB J),(fj J),3,(eR J)) h (di [5,4])
         ·
          replace h:=h.2 rv
          refine bo fV 23 ?_
          refine oX 2 (some 89) (ap 2 0 (dB J).length) [(88,.ptr 0 1 0 2)] (φ:=1=1) rfl ?_
          obtain⟨aaA,h⟩:=h
          refine l3 5 (some 94) [(93,ab a2.bj),(92,aF 5 2),(91,ab a2.aA),(90,aF 5 1)] 2 0 2 aaA ?_
          refine vQ 2 none [(95,.ptr 2 0 (0+a2.aA.toNat) 0)] a1 (dB J) a2.aA 0 1 0 [ab a2.bj] 2 (bx.mk a2.bj (nth (dB J) a2.aA).bm) (by simpa using aaA.2) ?_
          refine dM [] ?_
          refine bT.normal ?_
          exact gI.normal ((fi J),(dH J),(AN J a2),(fj J),0,(eR J)) h (hg (s':=⟨vX,(mI a0),(⟨1,4,[(AR J)]⟩::⟨0,1,List.map aP (dH J)⟩::⟨0,2,List.map a1 (AN J a2)⟩::⟨0,5,aR 4 (eR J) (fj J)⟩::List.map bh (fi J))⟩) (di (n:=133) (A':=DS) (L':=(mI a0)) [5,4]) (congrArg (fun z=>(⟨vX,(mI a0),(⟨1,4,[[an (h6 J),ap 1 0 (dH J).length,ap 2 0 z,ap 3 0 (eR J).length]]⟩::⟨0,1,List.map aP (dH J)⟩::⟨0,2,List.map a1 (AN J a2)⟩::⟨0,5,aR 4 (eR J) (fj J)⟩::List.map bh (fi J))⟩:St)) (show(dB J).length=(AN J a2).length by simp)))
       ·
        replace h:=h.2 jB
        refine dY fV 24 [(96,an (a2.op==7)),(97,an (a2.op==7))] [1] [0,2,3,2,1] ?_
        refine dp (fun l1=> ?_) (fun l1=> ?_)
        ·
         replace h:=h.1 l1
         refine cc [(100,ab (uo J)),(101,ab 0)] [0,1,4] (True) ?_ (fun nq=> ?_)
         ·
          refine bo fV 25 ?_
          refine oX 2 (some 99) (ap 3 0 (eR J).length) [(98,.ptr 0 1 0 3)] (φ:=1=1) rfl ?_
          exact bJ [(101,ab 0),(100,ab (uo J))] trivial
         unfold NR at h
         refine fg 1 ?_
         obtain⟨n8,h⟩:=h
         refine kq (fun(v:List (List Bool)×List Nat×Int×List aq)=>(⟨(bd 133 [(3,aF 3 0),(6,aF 6 0),(7,.ptr 0 1 0 0),(8,ab 0),(100,ab (uo J)),(101,ab (v.2.2.1))]),(mI a0),(⟨1,4,[[an (h6 J),ap 1 0 (dH J).length,ap 2 0 (dB J).length,ap 3 0 (v.2.2.2).length]]⟩::⟨0,1,List.map aP (dH J)⟩::⟨0,2,List.map a1 (dB J)⟩::⟨0,5,aR 4 (v.2.2.2) (v.2.1)⟩::List.map bh (v.1))⟩:St)) (fun(v:List (List Bool)×List Nat×Int×List aq)=>ad (v.1) (v.2.1) (v.2.2.1) (v.2.2.2)) (fun(v:List (List Bool)×List Nat×Int×List aq)=>m0 (v.1) (v.2.1) (v.2.2.1) (v.2.2.2)) ((fi J),(fj J),0,(aK J).O) (di [5,4]) n8 (fun v aJ=> ?_)
         obtain⟨aO,bM,bY,aT⟩:=v
         replace h:=h aO bM bY aT aJ
         dsimp only
         refine dY fV 26 [(102,an (decide (bY<(uo J))))] [1] [6] ?_
         obtain⟨Az,h⟩:=h
         refine cc [] [0,1,6] ((decide (bY<(uo J)))=true) ?_ (fun nr=> ?_)
         ·
          replace h:=Az
          refine dp (fun qn=> ?_) (fun qn=> ?_)
          ·
           refine d_ ?_
           exact bP.normal (by simp only[q2,jn,im,ly,gS,l0,jB,l1,qn,sP]<;>rfl) dU
          ·
           replace h:=h qn
           refine jf 1 ?_
           refine bP.exit ?_
           refine dO.exit ?_
           refine bT.here ?_
           refine bT.normal ?_
           exact gI.normal (aO,(dH J),(dB J),bM,0,aT) h (di [])
         replace h:=h nr
         refine hz ?_
         refine fg 2 ?_
         refine dY fV 27 [(9,ab bY),(103,ab bY)] [1] [6] ?_
         obtain⟨vJ,h⟩:=h
         refine cc [(10,.ptr 3 0 (oc bY) 0)] [0,1,6] (True) ?_ (fun sH=> ?_)
         ·
          replace h:=vJ
          refine bo fV 28 ?_
          refine oX 2 (some 105) (ap 3 0 aT.length) [(104,.ptr 0 1 0 3)] (φ:=1=1) rfl ?_
          have anP:=h
          refine l3 2 (some 107) [(106,ab bY)] 3 0 5 anP ?_
          exact bJ [(10,.ptr 3 0 (oc bY) 0)] trivial
         unfold NQ at h
         obtain⟨vI,h⟩:=h
         refine cc [] [7] ((!(AQ bY aT))=true) ?_ (fun ns=> ?_)
         ·
          replace h:=vI
          obtain⟨pL,h⟩:=h
          refine cc [(112,an (AQ bY aT))] [7] (True) ?_ (fun Ax=> ?_)
          ·
           replace h:=pL
           refine bo fV 29 ?_
           have pJ:=h
           refine iX 4 (some 111) [(110,.ptr 3 0 (oc bY) 0),(109,.ptr 3 0 (oc bY) 0),(108,.ptr 3 0 (oc bY) 0)] (aR 4 aT bM) bY 3 0 0 (ab (nth aT bY).ar) (dx pJ.1 pJ.2) ?_
           exact bJ [(112,an (AQ bY aT))] trivial
          refine dp (fun pK=> ?_) (fun pK=> ?_)
          ·
           replace h:=h pK
           refine jf 2 ?_
           refine bP.exit ?_
           refine bT.here ?_
           refine dR.normal ?_
           refine bo fV 33 ?_
           refine dM (NW bY) ?_
           exact dO.again (aO,bM,(pR bY),aT) h (di [])
          ·
           refine d_ ?_
           exact bP.normal (by simp only[q2,jn,im,ly,gS,l0,jB,l1,nr,pK,sP]<;>rfl) dU
         replace h:=h ns
         obtain⟨vH,h⟩:=h
         refine eU [] [7] id (fun H=>eh 3 ⟨0,5,aR 4 (k_ bY aT) bM⟩ H) (True) ?_ (fun oV=> ?_)
         ·
          replace h:=vH
          refine bo fV 30 ?_
          obtain⟨k9,h⟩:=h
          refine iX 4 (some 116) [(115,.ptr 3 0 (oc bY) 4),(114,.ptr 3 0 (oc bY) 0),(113,.ptr 3 0 (oc bY) 0)] (aR 4 aT bM) bY 3 4 0 (ab (nth aT bY).bG) (dx k9.1 k9.2) ?_
          have n7:=h
          refine ki 4 none [(119,.ptr 3 0 (oc bY) 4),(118,.ptr 3 0 (oc bY) 0),(117,ab (IntKind.i64.wrap ((nth aT bY).bG - 1)))] (aR 4 aT bM) bY 4 1 0 [ab (IntKind.i64.wrap ((nth aT bY).bG - 1))] 3 (aR 4 (k_ bY aT) bM) (dx n7.1 n7.2) (kw n7.1 n7.2) ?_
          exact bJ [] trivial
         unfold NP at h
         obtain⟨sI,h⟩:=h
         refine cc [(124,an (DR bY aT))] [7] (True) ?_ (fun G4=> ?_)
         ·
          replace h:=sI
          refine bo fV 31 ?_
          have ry:=h
          refine iX 4 (some 123) [(122,.ptr 3 0 (oc bY) 4),(121,.ptr 3 0 (oc bY) 0),(120,.ptr 3 0 (oc bY) 0)] (aR 4 (k_ bY aT) bM) bY 3 4 0 (ab (nth (k_ bY aT) bY).bG) (dx ry.1 ry.2) ?_
          exact bJ [(124,an (DR bY aT))] trivial
         unfold NO at h
         refine dp (fun ue=> ?_) (fun ue=> ?_)
         ·
          replace h:=h.1 ue
          refine bo fV 32 ?_
          obtain⟨uf,h⟩:=h
          refine XH (⟨1,4,[[an (h6 J),ap 1 0 (dH J).length,ap 2 0 (dB J).length,ap 3 0 (k_ bY aT).length]]⟩::⟨0,1,List.map aP (dH J)⟩::⟨0,2,List.map a1 (dB J)⟩::⟨0,5,aR 4 (k_ bY aT) bM⟩::List.map bh aO) (by rw[show aT.length=(k_ bY aT).length by simp]<;>rfl) ?_
          refine vO 2 (some 126) [(125,.ptr 3 0 (oc bY) 0)] [.ptr 3 0 (oc bY) 0] _ (Ox bY 1 (h6 J) (dH J) (dB J) (k_ bY aT) bM aO uf) (fun r H' U=>by obtain⟨_,_,_,rfl,_⟩:=U;rfl) ?_
          rintro r H' ⟨BA,i71,yQ,rfl,rfl,vG⟩
          replace h:=h BA i71 yQ vG
          refine dM [] ?_
          refine bT.normal ?_
          refine dR.normal ?_
          refine bo fV 33 ?_
          refine dM (NW bY) ?_
          exact dO.again (yQ,i71,(pR bY),BA) h (di [])
         ·
          replace h:=h.2 ue
          refine d_ ?_
          refine bT.normal ?_
          refine dR.normal ?_
          refine bo fV 33 ?_
          refine dM (NW bY) ?_
          exact dO.again (aO,bM,(pR bY),(k_ bY aT)) h (hg (s':=⟨(bd 133 (NU J bY)),(mI a0),(⟨1,4,[[an (h6 J),ap 1 0 (dH J).length,ap 2 0 (dB J).length,ap 3 0 aT.length]]⟩::⟨0,1,List.map aP (dH J)⟩::⟨0,2,List.map a1 (dB J)⟩::⟨0,5,aR 4 (k_ bY aT) bM⟩::List.map bh aO)⟩) (di (n:=133) (A':=(NU J bY)) (L':=(mI a0)) []) (congrArg (fun z=>(⟨(bd 133 (NU J bY)),(mI a0),(⟨1,4,[[an (h6 J),ap 1 0 (dH J).length,ap 2 0 (dB J).length,ap 3 0 z]]⟩::⟨0,1,List.map aP (dH J)⟩::⟨0,2,List.map a1 (dB J)⟩::⟨0,5,aR 4 (k_ bY aT) bM⟩::List.map bh aO)⟩:St)) (show aT.length=(k_ bY aT).length by simp)))
        ·
         replace h:=h.2 l1
         refine d_ ?_
         refine bT.normal ?_
         exact gI.normal ((fi J),(dH J),(dB J),(fj J),0,(eR J)) h (di [5,4])
 obtain⟨aO,aL,bO,bM,db,aT⟩:=v
 replace h:=h aO aL bO bM db aT cP
 dsimp only
 unfold NK at h
 refine hz ?_
 refine bo fV 34 ?_
 obtain⟨G5,h⟩:=h
 refine vO 2 (some 129) [(128,.agg (bA false a0))] [.agg (bA false a0),.ptr 0 1 0 0] _ (Y7 a0 1 (h6 J) aL bO aT bM aO G5) (fun r H' U=>by obtain⟨_,_,_,rfl,_⟩:=U;rfl) ?_
 rintro r H' ⟨om,i82,uM,rfl,rfl,Dt⟩
 replace h:=h om i82 uM Dt
 refine dM [] ?_
 refine dR.normal ?_
 refine j9 ⟨(bd 133 [(6,aF 6 0)]),[(6,(NV J aL bO db om)),(3,(bA false a0))],(⟨1,4,[[an (h6 J),ap 1 0 aL.length,ap 2 0 bO.length,ap 3 0 om.length]]⟩::⟨0,1,List.map aP aL⟩::⟨0,2,List.map a1 bO⟩::⟨0,5,aR 4 om i82⟩::List.map bh uM)⟩ (True) ?_ (fun vK=> ?_)
 ·
  refine bo fV 35 ?_
  refine oX 2 (some 131) (.agg [an (h6 J),ap 1 0 aL.length,ap 2 0 bO.length,ap 3 0 om.length]) [(130,ab db)] (φ:=1=1) rfl ?_
  exact bJ [(132,.agg (NV J aL bO db om))] trivial
 exact hh (oW (.agg (NV J aL bO db om)) (iw.agg (af.cons (yg h.1) (af.cons (oh h.2.1) (af.cons (sU (sz:=1) (by simp) rfl (y1) h.2.2.1) (af.cons (sU (sz:=2) (by simp) rfl (BW) h.2.2.2.1) (af.cons (HG (s:=4) (ws:=om) (ids:=i82) (bs:=uM) (by simp) rfl (fun id k h=>by simpa using h) h.2.2.2.2) af.nil)))))))
theorem alP (ae:M5 a0 J a2):bc Tryz.prog 23 [.agg (bA false a0),.agg (cG false J),.agg (fJ a2)] (.agg (nJ true (l4 a0 J a2))):=alU a0 J a2 (l4 a0 J a2) (fun bs is v ws=>bW J.O.length (fun _=>false) v∧fP ws is bs∧view ws is bs=h8 a0 v.toNat J.O) (fun _ _ v _=>cg J.O.length v) (fun bs o q is c ws=>fP ws is bs∧c=e1 a0 J a2∧Frame.mk J.ok o q (view ws is bs)=jZ a0 J a2) (by
 unfold NH NL sP
 have hs:ho J:=ae
 have mu:=hs
 obtain⟨pW,z2,z3,z4⟩:=mu
 refine⟨⟨⟨hs,fun hk=> ?_⟩,fun hc=> ?_⟩,fun hc=> ?_⟩
 ·have hk:gX a0 J=true:=by simpa using hk
  have h1:=(B7 hk).in.cx
  exact⟨by omega,by omega⟩
 ·have hc: ¬(gX a0 J&&e8 a0 a2)=true:=by
   intro h;rw[Bool.and_eq_true] at h;rw[h.1,h.2] at hc;cases hc
  have e:l4 a0 J a2=⟨1,⟨false,[],[],[]⟩⟩:=by unfold l4;rw[if_neg hc]
  rw[e];exact⟨rfl,rfl,rfl,rfl,rfl⟩
 have hc:gX a0 J=true∧e8 a0 a2=true:=by simpa using hc
 obtain⟨hk,he⟩:=hc
 have hf:=B7 hk
 have ci:=hf.in
 have cO:=hf.fr
 have aw:=cO.O
 have nS:=cO.aN
 have k0:=cO.aH
 have Cu:=ci.O
 have tE:=ci.cx
 have zB:=ci.be
 have Ke:l4 a0 J a2=⟨e1 a0 J a2,ef a0 (jZ a0 J a2)⟩:=by unfold l4;rw[if_pos (by rw[hk,he];rfl)]
 obtain⟨dG,et,eN⟩:=wO J.O
 have mU:fP J.O (List.range J.O.length) (J.O.map aq.ah):=⟨dG,et,fun b hb=>by
  obtain⟨h,bz,rfl⟩:=List.mem_map.1 hb;exact z4 h bz⟩
 have FW:cE (aK J).ok (aK J).aN (aK J).aH (aK J).O (List.range (aK J).O.length) (List.map aq.ah (aK J).O)=J:=by
  show Frame.mk J.ok J.aN J.aH (view J.O (List.range J.O.length) (List.map aq.ah J.O))=J
  rw[eN]
 have zE:view (aK J).O (List.range (aK J).O.length) (List.map aq.ah (aK J).O)=J.O:=eN
 have ms: ∀c:Int,c=e1 a0 J a2→c≠0→fP J.O (List.range J.O.length) (J.O.map aq.ah)∧c=e1 a0 J a2∧Frame.mk J.ok J.aN J.aH (view J.O (List.range J.O.length) (J.O.map aq.ah))=jZ a0 J a2:=fun c hc bU=>⟨mU,hc,by
  unfold jZ;rw[if_neg (by rw[←hc];exact bU),eN]⟩
 have J7:e1 a0 J a2=0→jZ a0 J a2=iz a0 J a2:=fun h=>by unfold jZ;rw[if_pos h]
 refine⟨hs,⟨fun h1=> ?_,fun h1=> ?_⟩,fun bs o q is c ws cP=> ?_⟩
 ·have h1:a2.op=1:=by simpa using h1
  have a6:=tg he (.inl h1)
  have tt:e1 a0 J a2=gj a0 J a2.aA:=by unfold e1;rw[if_pos h1]
  unfold NI dH dB h6 fj fi eR
  refine⟨⟨hf,a6.1,a6.2⟩,fun aB=>⟨⟨mU,ci,a6.1,by show a2.aA<(J.O.length:Int);omega,a6.2,k0⟩,fun q w kD=> ?_⟩,fun aB=> ?_⟩
  ·have aB:gj a0 J a2.aA=0:=by simpa using aB
   obtain⟨U,G,hv⟩:=kD
   rw[zE] at hv
   refine⟨G,tt.symm,?_⟩
   rw[J7 (by rw[tt,aB])]
   unfold iz
   rw[if_pos h1,hv,U];rfl
  ·have aB: ¬gj a0 J a2.aA=0:=by simpa using aB
   exact ms _ tt.symm aB
 ·have h1: ¬a2.op=1:=by simpa using h1
  unfold NJ dH dB h6 fj fi eR
  refine⟨fun h2=> ?_,fun h2=> ?_⟩
  ·have h2:a2.op=2:=by simpa using h2
   have a6:=tg he (.inr h2)
   refine⟨⟨mU,ci,a6.1,by show a2.aA<(J.O.length:Int);omega,a6.2,nS⟩,fun w i b r kD=> ?_⟩
   unfold xA at kD
   rw[FW,zE] at kD
   obtain⟨G,ao,hv⟩:=kD
   have tt:e1 a0 J a2=uN J a2.aA:=by unfold e1;rw[if_neg h1,if_pos h2];rfl
   refine⟨G,ao.trans tt.symm,?_⟩
   unfold jZ
   rw[tt,hv]
   by_cases aB:uN J a2.aA=0
   ·rw[if_pos aB,if_pos aB]
    unfold iz EC
    rw[if_neg h1,if_pos h2,S4 cO a6.1 a6.2]
    split<;>rfl
   ·rw[if_neg aB,if_neg aB];rfl
  have h2: ¬a2.op=2:=by simpa using h2
  have ok: ∀(o:List Bool) (q:List bx),e1 a0 J a2=0→iz a0 J a2={J with aN:=o,aH:=q}→fP J.O (List.range J.O.length) (J.O.map aq.ah)∧0=e1 a0 J a2∧Frame.mk J.ok o q (view J.O (List.range J.O.length) (J.O.map aq.ah))=jZ a0 J a2:=fun o q hc aV=>⟨mU,hc.symm,by rw[J7 hc,eN,aV]⟩
  unfold NT AP AO dH dB fj fi eR
  refine⟨fun au=> ?_,fun au=>⟨fun a8=> ?_,fun a8=> ?_⟩⟩
  ·have au:a2.op=3:=by simpa using au
   have a6:=I_ he (.inl au)
   refine⟨⟨a6.1,by show a2.aA.toNat<J.aN.length;omega⟩,ok _ _ ?_ ?_⟩
   ·unfold e1;rw[if_neg h1,if_neg h2,if_neg (by omega)]
   ·unfold iz;rw[if_neg h1,if_neg h2,if_pos (.inl au),au];rfl
  ·have a8:a2.op=4:=by simpa using a8
   have a6:=I_ he (.inr a8)
   refine⟨⟨a6.1,by show a2.aA.toNat<J.aN.length;omega⟩,ok _ _ ?_ ?_⟩
   ·unfold e1;rw[if_neg h1,if_neg h2,if_neg (by omega)]
   ·unfold iz;rw[if_neg h1,if_neg h2,if_pos (.inr a8),a8];rfl
  have an9: ¬a2.op=3:=by simpa using au
  have an_: ¬a2.op=4:=by simpa using a8
  have au: ¬(a2.op=3∨a2.op=4):=by omega
  unfold NS AM dH dB fj fi eR
  refine⟨fun bQ=> ?_,fun bQ=> ?_⟩
  ·have bQ:a2.op=5:=by simpa using bQ
   have a6:=za he (.inl bQ)
   refine⟨⟨a6.1,by show a2.aA.toNat<J.aH.length;omega⟩,ok _ _ ?_ ?_⟩
   ·unfold e1;rw[if_neg h1,if_neg h2,if_neg (by omega)]
   ·unfold iz;rw[if_neg h1,if_neg h2,if_neg au,if_pos bQ];rfl
  have bQ: ¬a2.op=5:=by simpa using bQ
  refine⟨fun cv=> ?_,fun cv=>⟨fun gO=> ?_,fun gO=> ?_⟩⟩
  ·have cv:a2.op=6:=by simpa using cv
   have a6:=za he (.inr cv)
   have ka:e1 a0 J a2=if jl a0 J a2.aA=true then 2 else if kI a0 J a2.aA=true then 3 else 0:=by unfold e1;rw[if_neg h1,if_neg h2,if_pos cv]
   refine⟨⟨hf,a6.1,a6.2⟩,fun _=> ?_⟩
   unfold NN NM DQ AN dH dB fj fi eR
   have Kj:=ci.bb _ (dz (show a2.aA.toNat<a0.bb.length by omega))
   refine⟨fun hc=> ?_,fun hc=>⟨⟨⟨a6.1,by omega⟩,Kj.1,by omega⟩,fun ai=> ?_,fun ai=>⟨⟨a6.1,by show _<J.aH.length;omega⟩,ok _ _ ?_ ?_⟩⟩⟩
   ·rw[if_pos (show jl a0 J a2.aA=true from hc)] at ka
    exact ms 2 ka.symm (by decide)
   ·rw[if_neg (show ¬jl a0 J a2.aA=true by rw[show jl a0 J a2.aA=false from hc];simp),if_pos (show kI a0 J a2.aA=true from ai)] at ka
    exact ms 3 ka.symm (by decide)
   ·rw[if_neg (show ¬jl a0 J a2.aA=true by rw[show jl a0 J a2.aA=false from hc];simp),if_neg (show ¬kI a0 J a2.aA=true by rw[show kI a0 J a2.aA=false from ai];simp)] at ka
    exact ka
   ·unfold iz;rw[if_neg h1,if_neg h2,if_neg au,if_neg bQ,if_pos cv];rfl
  ·have cv: ¬a2.op=6:=by simpa using cv
   have gO:a2.op=7:=by simpa using gO
   have ka:e1 a0 J a2=0:=by unfold e1;rw[if_neg h1,if_neg h2,if_neg cv]
   unfold NR uo dH dB fj fi eR
   refine⟨⟨cT (cN _),mU,eN⟩,fun bs is v ws aJ=> ?_⟩
   obtain⟨aJ,G,kc⟩:=aJ
   have xd:ws.length=J.O.length:=by rw[←i_ G.ok,kc,D_]
   refine⟨fun hv=>⟨G,ka.symm,?_⟩,fun hv=> ?_⟩
   ·have jW: ¬v<(J.O.length:Int):=of_decide_eq_false hv
    have aG:=aJ.1
    have hb:=aJ.2.1
    rw[J7 ka,kc,show v.toNat=J.O.length by omega]
    unfold iz;rw[if_neg h1,if_neg h2,if_neg au,if_neg bQ,if_neg cv,if_pos gO];rfl
   ·have b3:=bX aJ hv
    have aQ:v.toNat<ws.length:=by omega
    have zs:v.toNat<a0.O.length:=by omega
    have dd:c6 (h8 a0 v.toNat J.O) is v (nth (h8 a0 v.toNat J.O) v) ws bs:=c6.start G.ok G.kF aQ kc G.len
    have aS:=cw (by omega) aJ hv rfl
    have si:=hL (show(J.O.length:Int)≤4611686018427387904 by omega) aJ.1 (of_decide_eq_true hv)
    have eo:=dd.AJ (IntKind.i64.wrap ((nth ws v).bG - 1))
    have fin: ∀{cR:List Nat} {kP:List aq} {bs':List (List Bool)} {x:aq},c6 (h8 a0 v.toNat J.O) cR v x kP bs'→x=l8 a0 v.toNat (nth (h8 a0 v.toNat J.O) v)→(bW J.O.length (fun _=>false) (IntKind.i64.wrap (v+1))∧fP kP cR bs'∧view kP cR bs'=h8 a0 (IntKind.i64.wrap (v+1)).toNat J.O)∧cg J.O.length (IntKind.i64.wrap (v+1))<cg J.O.length v:=fun F hx=>by
     refine⟨⟨aS.1,F.G,?_⟩,aS.2⟩
     rw[F.ht,hx,si,show(v+1).toNat=v.toNat+1 by omega]
     show _=(h8 a0 v.toNat J.O).set v.toNat (l8 a0 v.toNat (nth (h8 a0 v.toNat J.O) (v.toNat:Int)))
     rw[kH b3.1]
    have a6:(nth (ws.set v.toNat (aq.mk (nth ws v).ar (nth ws v).a7 (nth ws v).ah (nth ws v).bI (IntKind.i64.wrap ((nth ws v).bG - 1)))) v).bG=IntKind.i64.wrap ((nth ws v).bG - 1):=eo.bG
    have JZ:cM a0 (v.toNat:Int)=cM a0 v:=by rw[Int.toNat_of_nonneg b3.1]
    unfold NQ NP NO AQ DR pR dH dB h6 k_
    rw[a6,dd.bG,dd.ar]
    rw[dd.bG,dd.ar] at eo
    refine⟨⟨b3.1,aQ⟩,⟨dd.fo,fun au=>fin dd ?_⟩,fun au=>⟨⟨dd.fo,dd.fo⟩,eo.fo,fun az=>⟨⟨eo.G,b3.1,by have:=eo.lt;omega⟩,fun w i b kD=> ?_⟩,fun az=>fin eo ?_⟩⟩
    ·unfold l8;rw[if_neg (by simpa using au)]
    ·obtain⟨pc,jW⟩:=kD
     refine fin (eo.again pc jW) ?_
     have hb:=Pk cO v.toNat
     have dL:=S4 hb b3.1 (by omega)
     unfold l8
     rw[if_pos (by simpa using au),if_pos (by simpa using az),JZ,←dL,eo.Aj]
    ·unfold l8;rw[if_pos (by simpa using au),if_neg (by simpa using az)]
  ·have cv: ¬a2.op=6:=by simpa using cv
   have gO: ¬a2.op=7:=by simpa using gO
   refine ok _ _ ?_ ?_
   ·unfold e1;rw[if_neg h1,if_neg h2,if_neg cv]
   ·unfold iz;rw[if_neg h1,if_neg h2,if_neg au,if_neg bQ,if_neg cv,if_neg gO];rfl
 ·obtain⟨G,hc,aV⟩:=cP
  have b3:=VY cO he
  have oB:cE (aK J).ok o q ws is bs=jZ a0 J a2:=aV
  have ln:=ul a0 (jZ a0 J a2) (jZ a0 J a2).O.length
  unfold NK h6
  refine⟨⟨G,ci,by rw[oB];exact b3⟩,fun w i b kD=> ?_⟩
  obtain⟨pc,jW⟩:=kD
  rw[oB] at jW
  rw[←aV] at b3
  have ai:=b3.aN
  have U:=b3.aH
  replace ai:(o.length:Int)=a0.ak:=ai
  replace U:q.length=a0.bb.length:=U
  have xd:w.length=(jZ a0 J a2).O.length:=by rw[←i_ pc.ok,jW];exact qp _ _ _
  have hml:(jZ a0 J a2).O.length=a0.O.length:=by rw[←aV];exact b3.O
  rw[Ke]
  refine⟨hc,?_,⟨by omega,?_⟩,⟨by omega,?_⟩,pc.ok,by omega,fun x hx=>by have:=pc.len x hx;omega,jW⟩
  ·show J.ok=(ef a0 (jZ a0 J a2)).ok
   unfold ef;rw[ln.1,←aV]
  ·show o=(ef a0 (jZ a0 J a2)).aN
   unfold ef;rw[ln.2.1,←aV]
  ·show q=(ef a0 (jZ a0 J a2)).aH
   unfold ef;rw[ln.2.2,←aV])
def alR:cZ Tryz.prog:=⟨23,[.dl,.frame,.e3],[.done],some fun x=>M5 x.1 x.2.1 x.2.2.1,fun x=>((l4 x.1 x.2.1 x.2.2.1),()),fun x h=>alP x.1 x.2.1 x.2.2.1 h⟩
end
section
variable (ad:qD Prop) (m0:qD Nat) (a0:aC) (J:(List Event)) (g0:Nat) (aM:(List fv)) (c7:Bool) (c8:(List Bool)) (c9:(List bx)) (c_:(List aq)) (dm:Int) (aa:(List fv))
abbrev l6:=l4 a0 (Frame.mk c7 c8 c9 c_) (nth J dm)
abbrev sR:=aK (Frame.mk c7 c8 c9 c_)
abbrev DT:=[(fv.mk (l6 a0 J c7 c8 c9 c_ dm).code (sR c7 c8 c9 c_))]
def Yv:Prop:=
  ((aM.length+(DT a0 J c7 c8 c9 c_ dm).length)*88≤140737488355328∧aM.length+(DT a0 J c7 c8 c9 c_ dm).length≤4611686018427387904)∧(ad (g0+1) (aM++(DT a0 J c7 c8 c9 c_ dm)) (sR c7 c8 c9 c_).ok (sR c7 c8 c9 c_).aN (sR c7 c8 c9 c_).aH (sR c7 c8 c9 c_).O (IntKind.i64.wrap (dm+1))∧m0 (g0+1) (aM++(DT a0 J c7 c8 c9 c_ dm)) (sR c7 c8 c9 c_).ok (sR c7 c8 c9 c_).aN (sR c7 c8 c9 c_).aH (sR c7 c8 c9 c_).O (IntKind.i64.wrap (dm+1))<m0 g0 aM c7 c8 c9 c_ dm)
def Yw:Prop:=
  ((aM.length+[(l6 a0 J c7 c8 c9 c_ dm)].length)*88≤140737488355328∧aM.length+[(l6 a0 J c7 c8 c9 c_ dm)].length≤4611686018427387904)∧(ad (g0+1) (aM++[(l6 a0 J c7 c8 c9 c_ dm)]) (l6 a0 J c7 c8 c9 c_ dm).frame.ok (l6 a0 J c7 c8 c9 c_ dm).frame.aN (l6 a0 J c7 c8 c9 c_ dm).frame.aH (l6 a0 J c7 c8 c9 c_ dm).frame.O (IntKind.i64.wrap (dm+1))∧m0 (g0+1) (aM++[(l6 a0 J c7 c8 c9 c_ dm)]) (l6 a0 J c7 c8 c9 c_ dm).frame.ok (l6 a0 J c7 c8 c9 c_ dm).frame.aN (l6 a0 J c7 c8 c9 c_ dm).frame.aH (l6 a0 J c7 c8 c9 c_ dm).frame.O (IntKind.i64.wrap (dm+1))<m0 g0 aM c7 c8 c9 c_ dm)
def Yx:Prop:=
  (0≤dm∧dm.toNat<J.length)∧((M5 a0 (Frame.mk c7 c8 c9 c_) (nth J dm))∧((((l6 a0 J c7 c8 c9 c_ dm).code==1)=true→(ho (Frame.mk c7 c8 c9 c_))∧(Yv ad m0 a0 J g0 aM c7 c8 c9 c_ dm))∧(((l6 a0 J c7 c8 c9 c_ dm).code==1)=false→Yw ad m0 a0 J g0 aM c7 c8 c9 c_ dm)))
def Yy:Prop:=
  ad 0 ([]:List fv) (dJ a0).ok (dJ a0).aN (dJ a0).aH (dJ a0).O 0∧ ∀(g0:Nat) (aM:(List fv)) (c7:Bool) (c8:(List Bool)) (c9:(List bx)) (c_:(List aq)) (dm:Int),ad g0 aM c7 c8 c9 c_ dm→(((decide (dm<(J.length:Int)))=false→aM.length≤4611686018427387904∧aM=aa)∧((decide (dm<(J.length:Int)))=true→Yx ad m0 a0 J g0 aM c7 c8 c9 c_ dm))
def Yu (a0:aC) (J:(List Event)) (aa:(List fv)) (ad:qD Prop) (m0:qD Nat):Prop:=
 (((!(dV a0)) || (decide ((J.length:Int)>1000)))=true→[]=aa)∧((!((!(dV a0)) || (decide ((J.length:Int)>1000))))=true→J.length≤4611686018427387904→Yy ad m0 a0 J aa)
theorem al2:bc Tryz.prog 6 [.agg (bA false a0),bq fJ J] (jP (nJ false) (vU a0 J)):=(fun(ad:qD Prop) (m0:qD Nat) (h:Yu a0 J (vU a0 J) ad m0)=>bc.run (ps:=[.dl,(.l .e3)]) (rs:=[(.l .done)]) (x:=(a0,J,())) (r:=((vU a0 J),())) ⟨44,dj,[amb,alL,alR,amm]⟩ ⟨[],[],[],[],[]⟩ (.lp [(0,6,.done)] [2,5,20,21] [(5,4),(2,5)] [.nat,(.l .done),.bool,(.l .bool),(.l .ij),(.l .held),.int] [bw 0,bw 0,fF 5 0,fF 5 1,fF 5 2,fF 5 3,22] (fun aD=>[(6,.ref 0 aD.1 aD.2.1.length false),(22,.i .i64 aD.2.2.2.2.2.2.1),(fF 5 0,.b (.v aD.2.2.1)),(fF 5 1,.l .bool aD.2.2.2.1 false true),(fF 5 2,.l .ij aD.2.2.2.2.1 false true),(fF 5 3,.l .held aD.2.2.2.2.2.1 false true),(bw 0,.blk aD.1 .done aD.2.1 _ rfl)]) (fun aD=>ad aD.1 aD.2.1 aD.2.2.1 aD.2.2.2.1 aD.2.2.2.2.1 aD.2.2.2.2.2.1 aD.2.2.2.2.2.2.1) (fun aD=>m0 aD.1 aD.2.1 aD.2.2.1 aD.2.2.2.1 aD.2.2.2.2.1 aD.2.2.2.2.2.1 aD.2.2.2.2.2.2.1) fun _=> .nil) Tryz.func6 h) (fun _ x a b c e v=>bW J.length (fun _=>false) v∧x=o0 a0 (dJ a0) (J.take v.toNat)∧Frame.mk a b c e=l5 a0 (dJ a0) (J.take v.toNat)) (fun _ _ _ _ _ _ v=>cg J.length v) (by
 unfold Yu
 refine⟨fun h=> ?_,fun h ag=> ?_⟩
 ·unfold vU
  rw[if_neg]
  rintro⟨h1,h2⟩
  rw[h1] at h
  have: ¬(J.length:Int)>1000:=by omega
  simp[this] at h
 have h:dV a0=true∧(J.length:Int)≤1000:=by simpa using h
 have e:vU a0 J=o0 a0 (dJ a0) J:=by unfold vU;rw[if_pos ⟨h.1,by omega⟩]
 rw[e]
 unfold Yy
 refine⟨⟨cT (cN _),rfl,rfl⟩,fun g x a b c d v aJ=> ?_⟩
 obtain⟨aJ,rfl,aw⟩:=aJ
 have tJ:=aJ.2.1
 have gp:=aJ.1
 have lm:(o0 a0 (dJ a0) (J.take v.toNat)).length=v.toNat:=by rw[X_,List.length_take];omega
 refine⟨fun hv=>⟨by omega,?_⟩,fun hv=> ?_⟩
 ·have: ¬v<(J.length:Int):=by simpa using hv
  rw[List.take_of_length_le (by omega)]
 have b3:=bX aJ hv
 have aS:=cw (b5 ag) aJ hv rfl
 have FU:ho (l5 a0 (dJ a0) (J.take v.toNat)):=Ya _ (zd (Ij h.1))
 have tI:J.take (IntKind.i64.wrap (v+1)).toNat=J.take v.toNat++[nth J v]:=by
  rw[hL (b5 ag) gp (by simpa using hv),show(v+1).toNat=v.toNat+1 by omega,List.take_succ_eq_append_getElem b3.2,fU b3.2]
 have qb:=N8 a0 (nth J v) (J.take v.toNat) (dJ a0)
 unfold Yx l6
 rw[aw]
 refine⟨b3,FU,fun he=>⟨FU,?_⟩,fun he=> ?_⟩
 ·have he:(l4 a0 (l5 a0 (dJ a0) (J.take v.toNat)) (nth J v)).code=1:=by simpa using he
  have hs:oa a0 (l5 a0 (dJ a0) (J.take v.toNat)) (nth J v)=⟨(l4 a0 (l5 a0 (dJ a0) (J.take v.toNat)) (nth J v)).code,l5 a0 (dJ a0) (J.take v.toNat)⟩:=by unfold oa;rw[if_pos he]
  unfold Yv DT sR l6
  rw[aw]
  refine⟨⟨by simp only[List.length_singleton];omega,by simp only[List.length_singleton];omega⟩,⟨aS.1,?_,?_⟩,aS.2⟩
  ·rw[tI,qb.1,hs];rfl
  ·rw[tI,qb.2,hs];rfl
 ·have he: ¬(l4 a0 (l5 a0 (dJ a0) (J.take v.toNat)) (nth J v)).code=1:=by simpa using he
  have hs:oa a0 (l5 a0 (dJ a0) (J.take v.toNat)) (nth J v)=l4 a0 (l5 a0 (dJ a0) (J.take v.toNat)) (nth J v):=by unfold oa;rw[if_neg he]
  unfold Yw l6
  rw[aw]
  refine⟨⟨by simp only[List.length_singleton];omega,by simp only[List.length_singleton];omega⟩,⟨aS.1,?_,?_⟩,aS.2⟩
  ·rw[tI,qb.1,hs]
  ·rw[tI,qb.2,hs])
end
end Go.Proofs.YtejmihecgodhnaaGreatDoor.Fw
set_option linter.unusedVariables false
namespace Go.Proofs.YtejmihecgodhnaaGreatDoor.Fw
open Go Go.RowKit
theorem bc.ani {P:Program} {f:FuncId} {args:List AV} {s:ByteArray} (h:bc P f args (.str s)) {w:World} {vs:List Value} (aG:af (V2 (Env.at w)) args vs):
    Calls P f vs.toArray w fun qP w'=>qP= .returned (.string s)∧RowKit.Below w.heap.size w w':=
  (bc.HS (e:= .str) (x:=s) h aG).mono fun qP w' ⟨v,h1,h2,au⟩=>by
    have au:aY w' _ _ (.str s) v:=au
    cases au;exact⟨h1,h2⟩
theorem acy {w:World} {B:Nat→Prop} {d:fv} {vs:Nat→Value} (h: ∀j a,(nJ false d)[j]?=some a→aY w B (fun _=>False) a (vs j)):
    ∃(t:Option Addr×Option Addr×Option Addr) (m c:Nat×Nat×Nat),vs 0= .int .i64 d.code∧vs 1= .bool d.frame.ok∧vs 2= .slice t.1 m.1 c.1∧vs 3= .slice t.2.1 m.2.1 c.2.1∧vs 4= .slice t.2.2 m.2.2 c.2.2∧
     ix w B (.agg (cG false d.frame)) (.agg #[.bool d.frame.ok,.slice t.1 m.1 c.1,.slice t.2.1 m.2.1 c.2.1,.slice t.2.2 m.2.2 c.2.2]):=by
  have az:=h 0 _ rfl
  have h1:=h 1 _ rfl
  have h2:=h 2 _ rfl
  have au:=h 3 _ rfl
  have a8:=h 4 _ rfl
  generalize vs 0=v0 at az ⊢
  generalize vs 1=v1 at h1 ⊢
  cases az;cases h1
  obtain⟨wm,gK,iQ,hH⟩:=Pl (w:=w) (B:=B) h2
  obtain⟨kl,c1,aW,dG⟩:=Pl (w:=w) (B:=B) au
  obtain⟨j7,c2,e2,et⟩:=Pl (w:=w) (B:=B) a8
  rw[iQ] at hH;rw[aW] at dG;rw[e2] at et
  exact⟨(wm,kl,j7),(_,_,_),(gK,c1,c2),rfl,rfl,iQ,aW,e2,[_,_,_,_],rfl,.cons (aY.v1 (E:=Env.ro w B) (aY.bool _)) (.cons (aY.v1 (E:=Env.ro w B) hH) (.cons (aY.v1 (E:=Env.ro w B) dG) (.cons (aY.v1 (E:=Env.ro w B) et) .nil)))⟩
theorem acz {w:World} {B:Nat→Prop} {ds:List fv} {v:Value} (h:ix w B (.aX (ds.map (nJ false)) false false) v):
    ∃(A:Option Addr) (c iy o:Nat) (pf hy pg:Nat→Option Addr) (m0 m1 m2 d0 d1 d2:Nat→Nat),v= .slice A ds.length c∧(0<ds.length→A=some ⟨iy,o,none⟩∧B iy)∧
     (∀k,k<ds.length→w.cell? ⟨iy,o+k*5,none⟩=some (.int .i64 (nth ds (k:Int)).code)∧w.cell? ⟨iy,o+k*5+1,none⟩=some (.bool (nth ds (k:Int)).frame.ok)∧w.cell? ⟨iy,o+k*5+2,none⟩=some (.slice (pf k) (m0 k) (d0 k))∧w.cell? ⟨iy,o+k*5+3,none⟩=some (.slice (hy k) (m1 k) (d1 k))∧w.cell? ⟨iy,o+k*5+4,none⟩=some (.slice (pg k) (m2 k) (d2 k)))∧
     ∀k,k<ds.length→ix w B (.agg (cG false (nth ds (k:Int)).frame)) (.agg #[.bool (nth ds (k:Int)).frame.ok,.slice (pf k) (m0 k) (d0 k),.slice (hy k) (m1 k) (d1 k),.slice (pg k) (m2 k) (d2 k)]):=by
  have h:aY w B (fun _=>False) (.aX (ds.map (nJ false)) false false) v:=h
  cases h with
  | @aX _ _ PB _ _ _ A cap sz vs eW fl fK b9 dt hrel=>
    rw[List.length_map] at dt ⊢
    have eH: ∀k,k<ds.length→(ds.map (nJ false))[k]?=some (nJ false (nth ds (k:Int))):=fun k hk=>by
      have hx:=fM (xs:=ds) (i:=(k:Int)) (by simpa using hk)
      rw[Int.toNat_natCast] at hx
      rw[List.getElem?_map,hx];rfl
    by_cases ag:0<ds.length
    · obtain⟨c,o,rfl,hc,dS⟩:=dt ag
      have hO:sz=5:=(b9 0 _ (eH 0 ag)).symm
      subst hO
      have key: ∀k,∃(t:Option Addr×Option Addr×Option Addr) (m c:Nat×Nat×Nat),k<ds.length→(vs k 0= .int .i64 (nth ds (k:Int)).code∧vs k 1= .bool (nth ds (k:Int)).frame.ok∧vs k 2= .slice t.1 m.1 c.1∧vs k 3= .slice t.2.1 m.2.1 c.2.1∧vs k 4= .slice t.2.2 m.2.2 c.2.2∧
          ix w PB (.agg (cG false (nth ds (k:Int)).frame)) (.agg #[.bool (nth ds (k:Int)).frame.ok,.slice t.1 m.1 c.1,.slice t.2.1 m.2.1 c.2.1,.slice t.2.2 m.2.2 c.2.2])):=fun k=>by
        by_cases hk:k<ds.length
        · obtain⟨t,m,c,q⟩:=acy (vs:=vs k) fun j a aG=>hrel k j _ a (eH k hk) aG
          exact⟨t,m,c,fun _=>q⟩
        · exact⟨(none,none,none),(0,0,0),(0,0,0),fun h=>absurd h hk⟩
      refine⟨_,cap,c,o,fun k=>(key k).choose.1,fun k=>(key k).choose.2.1,fun k=>(key k).choose.2.2,fun k=>(key k).choose_spec.choose.1,fun k=>(key k).choose_spec.choose.2.1,fun k=>(key k).choose_spec.choose.2.2,fun k=>(key k).choose_spec.choose_spec.choose.1,fun k=>(key k).choose_spec.choose_spec.choose.2.1,fun k=>(key k).choose_spec.choose_spec.choose.2.2,rfl,fun _=>⟨rfl,by simpa using eW c hc⟩,fun k hk=> ?_,fun k hk=> ?_⟩
      · obtain⟨iQ,aW,e2,cF,iA,_⟩:=(key k).choose_spec.choose_spec.choose_spec hk
        exact⟨(dS k 0 hk (by omega)).trans (congrArg some iQ),(dS k 1 hk (by omega)).trans (congrArg some aW),(dS k 2 hk (by omega)).trans (congrArg some e2),(dS k 3 hk (by omega)).trans (congrArg some cF),(dS k 4 hk (by omega)).trans (congrArg some iA)⟩
      · exact((key k).choose_spec.choose_spec.choose_spec hk).2.2.2.2.2.dF (fun _ _=>rfl) (fun c hc=>by simpa using eW c hc)
    · exact⟨A,cap,0,0,fun _=>none,fun _=>none,fun _=>none,fun _=>0,fun _=>0,fun _=>0,fun _=>0,fun _=>0,fun _=>0,rfl,fun h=>absurd h ag,fun k hk=>absurd (Nat.lt_of_le_of_lt (Nat.zero_le _) hk) ag,fun k hk=>absurd (Nat.lt_of_le_of_lt (Nat.zero_le _) hk) ag⟩
theorem Xv {run g:FuncId} {p:aC} {es:List Event} {ds:List fv} (kx:bc Tryz.prog run [.agg (bA false p),.aX (es.map fJ) false false] (r1 (.l .done) ds)) (ax: ∀d∈ds,bc Tryz.prog g [.agg (bA false p),.agg (cG false d.frame)] (.str (de (vT p d.frame))))
    {W w:World} {mB uy:Value} (h1:V2 (Env.wd W) (.agg (bA false p)) mB) (h2:V2 (Env.wd W) (.aX (es.map fJ) false false) uy) {b:Nat} (hb:W.heap.size≤b) (hw:Below W.heap.size W w) (aoe:b<w.heap.size):
    Calls Tryz.prog run #[mB,uy] w (Ic g mB b ds.length (fun k=>(nth ds (k:Int)).code) (fun k=>vT p (nth ds (k:Int)).frame) w):=by
  have t1:ix W (fun c=>c<W.heap.size) (.agg (bA false p)) mB:=anD (e:= .dl) (x:=p) h1
  have t2:ix W (fun c=>c<W.heap.size) (.aX (es.map fJ) false false) uy:=lg (aY.v1 (E:=Env.ro W (fun c=>c<W.heap.size)) (aY.Wb (e:= .l .e3) (x:=es) (fun _ h=>h) (show aY W _ _ (.aX (es.map fJ) false false) uy from h2)))
  have up: ∀{a:AV} {v:Value},ix W (fun c=>c<W.heap.size) a v→V2 (Env.at w) a v:=fun h=>(h.dF (w':=w) (B':=fun c=>c<W.heap.size) (fun c hc=>hw.block c hc) (fun _ h=>h)).at fun c hc=>Nat.lt_of_lt_of_le hc hw.size
  refine(bc.HS (e:= .l .done) (x:=ds) (vs:=[mB,uy]) kx (.cons (up t1) (.cons (up t2) .nil))).mono ?_
  rintro e w' ⟨v,rfl,dL,a6⟩
  have a6:ix w' (mR w w') (.aX (ds.map (nJ false)) false false) v:=a6
  obtain⟨A,c,iy,o,pf,hy,pg,m0,m1,m2,d0,d1,d2,rfl,fk,dt,r_⟩:=acz a6
  refine⟨A,c,iy,o,fun k=>(nth ds (k:Int)).frame.ok,pf,hy,pg,m0,m1,m2,d0,d1,d2,rfl,dL,fun ag=>⟨(fk ag).1,(fk ag).2.1,(fk ag).2.2.1⟩,dt,fun k hk j5 aB Su=> ?_⟩
  have hm:nth ds (k:Int)∈ds:=by
    have hx:=fM (xs:=ds) (i:=(k:Int)) (by simpa using hk)
    exact List.mem_of_getElem? hx
  have eP:=hw.size
  have CB:=dL.size
  refine bc.ani (vs:=[mB,_]) (ax _ hm) (.cons ?_ (.cons ?_ .nil))
  · exact(t1.dF (w':=j5) (B':=fun c=>c<W.heap.size) (fun c hc=>by
      have hc:c<W.heap.size:=hc
      rw[Su c (by omega) (by omega),dL.block c (by omega),hw.block c hc]) (fun _ h=>h)).at fun c hc=>by
        have hc:c<W.heap.size:=hc
        omega
  · exact((r_ k hk).dF (w':=j5) (B':=fun c=>c<w'.heap.size) (fun c hc=>Su c hc.2.1 (by have:=hc.1;omega)) (fun c hc=>hc.2.1)).at fun c hc=>Nat.lt_of_lt_of_le hc aB
theorem XA {p:aC} {es:List Event} {d:fv} (h:d∈h4 p es):Ng p d.frame:=(Hg h).1
theorem GI {p:aC} {es:List Event} {k:Nat} (hk:k<(h4 p es).length):nth (h4 p es) (k:Int)=(h4 p es)[k]:=by
  have hx:=fM (xs:=h4 p es) (i:=(k:Int)) (by simpa using hk)
  rw[Int.toNat_natCast,List.getElem?_eq_getElem hk] at hx
  exact(Option.some.inj hx).symm
theorem agd (a0:aC) (J:List Event):bc Tryz.prog 9 [.agg (bA false a0),.aX (J.map fJ) false false] (.str (yB a0 J)):=by
  refine bc.Ml (by kernel_rfl) fun W vs aG=> ?_
  obtain⟨mB,vs,rfl,h1,aG⟩:=aG.cons_inv
  obtain⟨uy,vs,rfl,h2,aG⟩:=aG.cons_inv
  obtain rfl:=aG.oQ
  obtain⟨s1,s2,eQ,rfl,dk,gb,mz⟩:=Nk h1
  have key:=af3 W _ _ s1 s2 eQ uy dk gb mz (h4 a0 J).length (M0 a0 J) (fun k=>(nth (h4 a0 J) (k:Int)).code) (fun k hk=>by
      have:=Hg (List.getElem_mem hk)
      rw[←GI hk] at this;exact this.2) (fun k=>vT a0 (nth (h4 a0 J) (k:Int)).frame) (fun k=>s_ a0 ((h4 a0 J).take k)) rfl
    (fun k hk=>by rw[P1 hk,GI hk];rfl) P2
    (fun w hb hw=>Xv (agp a0 J) (fun d aV=>ahm a0 d.frame (XA aV)) h1 h2 (Nat.le_succ _) hb hw)
  simp only[List.take_length] at key
  exact key
theorem alI (a0:aC) (J:List Event):bc Tryz.prog 10 [.agg (bA false a0),.aX (J.map fJ) false false] (.str (yB a0 J)):=by
  refine bc.Ml (by kernel_rfl) fun W vs aG=> ?_
  obtain⟨mB,vs,rfl,h1,aG⟩:=aG.cons_inv
  obtain⟨uy,vs,rfl,h2,aG⟩:=aG.cons_inv
  obtain rfl:=aG.oQ
  obtain⟨s1,s2,eQ,rfl,dk,gb,mz⟩:=Nk h1
  have kx:=al2 a0 J
  rw[alG] at kx
  have key:=akN W _ _ s1 s2 eQ uy dk gb mz (h4 a0 J).length (M0 a0 J) (fun k=>(nth (h4 a0 J) (k:Int)).code) (fun k hk=>by
      have:=Hg (List.getElem_mem hk)
      rw[←GI hk] at this;exact this.2) (fun k=>vT a0 (nth (h4 a0 J) (k:Int)).frame) (fun k=>s_ a0 ((h4 a0 J).take k)) rfl
    (fun k hk=>by rw[P1 hk,GI hk];rfl) P2
    (fun w hb hw=>Xv kx (fun d aV=>amZ a0 d.frame (XA aV)) h1 h2 (Nat.le_refl _) hb hw)
  simp only[List.take_length] at key
  exact key
def age:cZ Tryz.prog:=⟨9,[.dl,.l .e3],[.str],none,fun x=>((yB x.1 x.2.1),()),fun x _=>agd x.1 x.2.1⟩
def alJ:cZ Tryz.prog:=⟨10,[.dl,.l .e3],[.str],none,fun x=>((yB x.1 x.2.1),()),fun x _=>alI x.1 x.2.1⟩
end Go.Proofs.YtejmihecgodhnaaGreatDoor.Fw
set_option linter.unusedVariables false
set_option maxRecDepth 100000
set_option maxHeartbeats 4000000
set_option linter.unusedSimpArgs false
namespace Go.Proofs.YtejmihecgodhnaaGreatDoor.Fw
open Go
attribute [local irreducible] evS evSD WpS Weak Oper.looksAt
section
variable (a0:aC) (J:(List Event)) (aa:Bool)
abbrev LW:= !((yB (aK a0) (aK J)).toList==(yB (aK a0) (aK J)).toList)
def ahH:List Item:=(List.range 5).map bV
def ahI:List (List Nat):=[[],[],[1],[0,1,2],rg 0 4]
def UR:Prop:=
  ((LW a0 J)=true→false=aa)∧((!(LW a0 J))=true→((x5 a0)∧((!(eqv (aK a0) (aK a0)))=true→false=aa))∧((!(!(eqv (aK a0) (aK a0))))=true→((small J)∧((!(eqv (aK J) (aK J)))=true→false=aa))∧((!(!(eqv (aK J) (aK J))))=true→true=aa)))
def UQ:Prop:=
 (hX a0 1048576)∧(((decide ((qx a0 1048576)<0))=true→true=aa)∧((!(decide ((qx a0 1048576)<0)))=true→(hX J (qx a0 1048576))∧(((decide ((eY J (qx a0 1048576))<0))=true→true=aa)∧((!(decide ((eY J (qx a0 1048576))<0)))=true→((x5 a0)∧(small J))∧((x5 a0)∧((small J)∧(UR a0 J aa)))))))
theorem ahG:bc Tryz.prog 4 [.agg (bA false a0),bq fJ J] (an (PG a0 J)):=(fun(h:UQ a0 J (PG a0 J))=>bc.run (ps:=[.dl,(.l .e3)]) (rs:=[.bool]) (x:=(a0,J,())) (r:=((PG a0 J),())) ⟨45,dj,[aio,aij,aiJ,aiy,alJ,age,ah7,ahS]⟩ ⟨[],[(14,ahH,ahI)],[],[],[]⟩ .nil Tryz.func4 h) (by
 unfold UQ UR LW
 refine⟨⟨by omega,by omega⟩,fun _=>rfl,fun h=> ?_⟩
 have hs:=alA h
 have aw:=VG (n:=Dj a0) ⟨by omega,by omega⟩ h
 refine⟨aw.2,fun _=>rfl,fun h2=> ?_⟩
 have hf:small J:=(VG (n:=J.length) aw.2 h2).1
 exact⟨⟨hs,hf⟩,hs,hf,fun h=>by simp at h,fun _=>⟨⟨hs,fun h=>by simp[eqv] at h⟩,fun _=>⟨⟨hf,fun h=>by simp[eqv] at h⟩,fun _=>rfl⟩⟩⟩)
end
end Go.Proofs.YtejmihecgodhnaaGreatDoor.Fw
