/- Walks and summaries of functions, printed by a program of mine (tools/mk2.py), with the proofs of what they owe. -/
import Derived.Test.YtglpfccgmfhkdaaM6
set_option linter.unusedVariables false
set_option maxRecDepth 100000
set_option maxHeartbeats 4000000
set_option linter.unusedSimpArgs false
namespace Go.Proofs.Ytglpfccgmfhkdaa.Fw
open Go
attribute [local irreducible] evS evSD WpS Weak Oper.looksAt
noncomputable def MQ:Code:=iz Try.f63
def Yu:List Item:=[av 0,av 1,av 2,av 3,av 4,av 5,av 6,av 7,av 8,av 9,av 10,av 11,av 12,av 13,av 14,av 15]
def Yv:List (List Nat):=[[],[0],[0,1],[0,1,2],rg 0 4,rg 0 5,rg 0 5,rg 0 5++[6],rg 0 5,rg 0 5++[8],rg 0 5++rg 6 10,rg 0 5++rg 6 11,rg 0 5++rg 6 12,rg 0 13,rg 0 14,rg 0 15]
def Yw:List Item:=[av 0,av 1,av 2,av 3,av 4,av 5,⟨6,true,false,[1,2,3]⟩,av 7,av 8,⟨9,true,false,[]⟩]
def Yx:List (List Nat):=[[],[],[],[2],[0],[0,4],[0,4,5],rg 0 7,rg 0 8,rg 0 9]
def Yy:List Item:=[av 0,av 1,av 2,av 3,av 4,av 5,av 6,av 7,av 8,av 9,av 10]
def Yz:List (List Nat):=[[],[0],[],[2],[],[4],rg 2 6,rg 2 7,rg 0 8,rg 0 9,rg 0 10]
def FD (ay:(List bd)→Int→Prop) (aA:(List bd)→Int→Nat) (J:az) (U:Event) (aK:(List bd)) (eH:Int):Prop:=
  ay (aK.set (nth (bu (nth J.O U.ah)) eH).sw.toNat (bd.mk (nth (bu (nth J.O U.ah)) eH).bk (nth aK (nth (bu (nth J.O U.ah)) eH).sw).a2)) (IntKind.i64.wrap (eH+1))∧aA (aK.set (nth (bu (nth J.O U.ah)) eH).sw.toNat (bd.mk (nth (bu (nth J.O U.ah)) eH).bk (nth aK (nth (bu (nth J.O U.ah)) eH).sw).a2)) (IntKind.i64.wrap (eH+1))<aA aK eH
abbrev jL (r:Type):Type:=List (List Bool)→(List Bool)→(List bd)→List Nat→Int→List ad→r
def FL (ay:(List bd)→Int→Prop) (aA:(List bd)→Int→Nat) (dA:jL Prop) (J:az) (M:Frame) (U:Event) (aK:(List bd)) (eH:Int):Prop:=
  ((decide (eH<((bu (nth J.O U.ah)).length:Int)))=false→dA (List.map ad.ac (aa M).O) (aa M).au aK (List.range (aa M).O.length) (dI J (Frame.mk (aa M).ok (aa M).au (aa M).an (view (aa M).O (List.range (aa M).O.length) (List.map ad.ac (aa M).O))) U.ah) ((aa M).O.set U.ah.toNat (ad.mk 1 (nth (aa M).O U.ah).af (nth (aa M).O U.ah).ac (nth (aa M).O U.ah).ap (nth (aa M).O U.ah).ar)))∧((decide (eH<((bu (nth J.O U.ah)).length:Int)))=true→((0≤eH∧eH.toNat<(bu (nth J.O U.ah)).length)∧(0≤(nth (bu (nth J.O U.ah)) eH).sw∧(nth (bu (nth J.O U.ah)) eH).sw.toNat<aK.length))∧(FD ay aA J U aK eH))
def FM (ay:(List bd)→Int→Prop) (aA:(List bd)→Int→Nat) (dA:jL Prop) (J:az) (M:Frame) (U:Event):Prop:=
  (((dI J (Frame.mk (aa M).ok (aa M).au (aa M).an (view (aa M).O (List.range (aa M).O.length) (List.map ad.ac (aa M).O))) U.ah)==0)=true→((0≤U.ah∧U.ah.toNat<(aa M).O.length)∧((aa M).O.length=(List.range (aa M).O.length).length∧U.ah.toNat<(aa M).O.length))∧(((0≤U.ah∧U.ah.toNat<J.O.length)∧(xg (nth J.O U.ah)))∧((bu (nth J.O U.ah)).length≤4611686018427387904→ay (aa M).an 0∧ ∀(aK:(List bd)) (eH:Int),ay aK eH→(FL ay aA dA J M U aK eH))))∧(((dI J (Frame.mk (aa M).ok (aa M).au (aa M).an (view (aa M).O (List.range (aa M).O.length) (List.map ad.ac (aa M).O))) U.ah)==0)=false→dA (List.map ad.ac (aa M).O) (aa M).au (aa M).an (List.range (aa M).O.length) (dI J (Frame.mk (aa M).ok (aa M).au (aa M).an (view (aa M).O (List.range (aa M).O.length) (List.map ad.ac (aa M).O))) U.ah) (aa M).O)
def FN (dA:jL Prop) (J:az) (M:Frame) (U:Event):Prop:=
  (((nth (aa M).O U.ah).ap&&(gK (Frame.mk (aa M).ok (aa M).au (aa M).an (view (aa M).O (List.range (aa M).O.length) (List.map ad.ac (aa M).O))) (nth J.O U.ah).cJ))=true→((aa M).O.length=(List.range (aa M).O.length).length∧U.ah.toNat<(aa M).O.length)∧((((aa M).O.set U.ah.toNat (ad.mk 3 (nth (aa M).O U.ah).af (nth (aa M).O U.ah).ac (nth (aa M).O U.ah).ap (nth (aa M).O U.ah).ar)).length=(List.range (aa M).O.length).length∧U.ah.toNat<((aa M).O.set U.ah.toNat (ad.mk 3 (nth (aa M).O U.ah).af (nth (aa M).O U.ah).ac (nth (aa M).O U.ah).ap (nth (aa M).O U.ah).ar)).length)∧(dA (List.map ad.ac (aa M).O) (aa M).au (aa M).an (List.range (aa M).O.length) 0 (((aa M).O.set U.ah.toNat (ad.mk 3 (nth (aa M).O U.ah).af (nth (aa M).O U.ah).ac (nth (aa M).O U.ah).ap (nth (aa M).O U.ah).ar)).set U.ah.toNat (ad.mk (nth ((aa M).O.set U.ah.toNat (ad.mk 3 (nth (aa M).O U.ah).af (nth (aa M).O U.ah).ac (nth (aa M).O U.ah).ap (nth (aa M).O U.ah).ar)) U.ah).aq (nth ((aa M).O.set U.ah.toNat (ad.mk 3 (nth (aa M).O U.ah).af (nth (aa M).O U.ah).ac (nth (aa M).O U.ah).ap (nth (aa M).O U.ah).ar)) U.ah).af (nth ((aa M).O.set U.ah.toNat (ad.mk 3 (nth (aa M).O U.ah).af (nth (aa M).O U.ah).ac (nth (aa M).O U.ah).ap (nth (aa M).O U.ah).ar)) U.ah).ac (nth ((aa M).O.set U.ah.toNat (ad.mk 3 (nth (aa M).O U.ah).af (nth (aa M).O U.ah).ac (nth (aa M).O U.ah).ap (nth (aa M).O U.ah).ar)) U.ah).ap J.dn)))))∧(((nth (aa M).O U.ah).ap&&(gK (Frame.mk (aa M).ok (aa M).au (aa M).an (view (aa M).O (List.range (aa M).O.length) (List.map ad.ac (aa M).O))) (nth J.O U.ah).cJ))=false→(yZ J U.ah)∧(((aa M).O.length=(List.range (aa M).O.length).length∧U.ah.toNat<(aa M).O.length)∧(dA ((List.map ad.ac (aa M).O)++[(bQ J U.ah).ac]) (aa M).au (aa M).an ((List.range (aa M).O.length).set U.ah.toNat (List.map ad.ac (aa M).O).length) 0 ((aa M).O.set U.ah.toNat (ad.mk (bQ J U.ah).aq (bQ J U.ah).af (bQ J U.ah).ac (bQ J U.ah).ap (bQ J U.ah).ar)))))
def FO (dA:jL Prop) (J:az) (M:Frame) (U:Event):Prop:=
  ((((nth (aa M).O U.ah).aq !=1)&&((nth (aa M).O U.ah).aq !=2))=true→dA (List.map ad.ac (aa M).O) (aa M).au (aa M).an (List.range (aa M).O.length) 2 (aa M).O)∧((((nth (aa M).O U.ah).aq !=1)&&((nth (aa M).O U.ah).aq !=2))=false→(((aa M).O.length=(List.range (aa M).O.length).length∧U.ah.toNat<(aa M).O.length)∧((nth (aa M).O U.ah).ap=true→(0≤U.ah∧U.ah.toNat<J.O.length)∧((aa M).au.length≤4611686018427387904∧(aa M).an.length≤4611686018427387904∧(j_ (aa M).O (List.range (aa M).O.length) (List.map ad.ac (aa M).O)∧(aa M).O.length≤4611686018427387904∧(∀x∈(List.map ad.ac (aa M).O),List.length x≤4611686018427387904))∧vc (Frame.mk (aa M).ok (aa M).au (aa M).an (view (aa M).O (List.range (aa M).O.length) (List.map ad.ac (aa M).O))) (nth J.O U.ah).cJ)))∧(FN dA J M U))
def FP (dA:jL Prop) (J:az) (M:Frame) (U:Event):Prop:=
  ((nth (aa M).au (nth J.be U.ah))=true→dA (List.map ad.ac (aa M).O) (aa M).au (aa M).an (List.range (aa M).O.length) 3 (aa M).O)∧((nth (aa M).au (nth J.be U.ah))=false→(0≤U.ah∧U.ah.toNat<(aa M).an.length)∧(dA (List.map ad.ac (aa M).O) (aa M).au ((aa M).an.set U.ah.toNat (bd.mk U.bk (nth (aa M).an U.ah).a2)) (List.range (aa M).O.length) 0 (aa M).O))
def FQ (dA:jL Prop) (J:az) (M:Frame) (U:Event):Prop:=
  ((decide (((gz J (Frame.mk (aa M).ok (aa M).au (aa M).an (view (aa M).O (List.range (aa M).O.length) (List.map ad.ac (aa M).O))) U.ah).length:Int)>0))=true→dA (List.map ad.ac (aa M).O) (aa M).au (aa M).an (List.range (aa M).O.length) 2 (aa M).O)∧((decide (((gz J (Frame.mk (aa M).ok (aa M).au (aa M).an (view (aa M).O (List.range (aa M).O.length) (List.map ad.ac (aa M).O))) U.ah).length:Int)>0))=false→((0≤U.ah∧U.ah.toNat<J.be.length)∧(0≤(nth J.be U.ah)∧(nth J.be U.ah).toNat<(aa M).au.length))∧(FP dA J M U))
def FR (J:az) (aP:List Nat) (a6:Int) (ws2:List ad):Prop:=
  ((nth (ws2.set a6.toNat (ad.mk (nth ws2 a6).aq (nth ws2 a6).af (nth ws2 a6).ac (nth ws2 a6).ap (IntKind.i64.wrap ((nth ws2 a6).ar - 1)))) a6).ar==0)=true→(yZ J a6)∧((ws2.set a6.toNat (ad.mk (nth ws2 a6).aq (nth ws2 a6).af (nth ws2 a6).ac (nth ws2 a6).ap (IntKind.i64.wrap ((nth ws2 a6).ar - 1)))).length=aP.length∧a6.toNat<(ws2.set a6.toNat (ad.mk (nth ws2 a6).aq (nth ws2 a6).af (nth ws2 a6).ac (nth ws2 a6).ap (IntKind.i64.wrap ((nth ws2 a6).ar - 1)))).length)
def FS (J:az) (aP:List Nat) (a6:Int) (ws2:List ad):Prop:=
  ((ws2.set a6.toNat (ad.mk (nth ws2 a6).aq (nth ws2 a6).af (nth ws2 a6).ac (nth ws2 a6).ap (IntKind.i64.wrap ((nth ws2 a6).ar - 1)))).length=aP.length∧a6.toNat<(ws2.set a6.toNat (ad.mk (nth ws2 a6).aq (nth ws2 a6).af (nth ws2 a6).ac (nth ws2 a6).ap (IntKind.i64.wrap ((nth ws2 a6).ar - 1)))).length)∧(FR J aP a6 ws2)
def FE (aY:dN Prop) (a0:dN Nat) (J:az) (b_:List (List Bool)) (aP:List Nat) (a6:Int) (ws2:List ad):Prop:=
  ((0≤a6∧a6.toNat<ws2.length)∧((ws2.length=aP.length∧a6.toNat<ws2.length)∧(((nth ws2 a6).aq==3)=true→((ws2.length=aP.length∧a6.toNat<ws2.length)∧(ws2.length=aP.length∧a6.toNat<ws2.length))∧(FS J aP a6 ws2))))∧(∀p2:List ad,(bif ((nth ws2 a6).aq==3) then(bif ((nth (ws2.set a6.toNat (ad.mk (nth ws2 a6).aq (nth ws2 a6).af (nth ws2 a6).ac (nth ws2 a6).ap (IntKind.i64.wrap ((nth ws2 a6).ar - 1)))) a6).ar==0) then((ws2.set a6.toNat (ad.mk (nth ws2 a6).aq (nth ws2 a6).af (nth ws2 a6).ac (nth ws2 a6).ap (IntKind.i64.wrap ((nth ws2 a6).ar - 1)))).set a6.toNat (ad.mk (bQ J a6).aq (bQ J a6).af (bQ J a6).ac (bQ J a6).ap (bQ J a6).ar)) else(ws2.set a6.toNat (ad.mk (nth ws2 a6).aq (nth ws2 a6).af (nth ws2 a6).ac (nth ws2 a6).ap (IntKind.i64.wrap ((nth ws2 a6).ar - 1))))) else ws2)=p2→(∀si:List Nat,(bif ((nth ws2 a6).aq==3) then(bif ((nth (ws2.set a6.toNat (ad.mk (nth ws2 a6).aq (nth ws2 a6).af (nth ws2 a6).ac (nth ws2 a6).ap (IntKind.i64.wrap ((nth ws2 a6).ar - 1)))) a6).ar==0) then(aP.set a6.toNat b_.length) else aP) else aP)=si→(∀sj:List (List Bool),(bif ((nth ws2 a6).aq==3) then(bif ((nth (ws2.set a6.toNat (ad.mk (nth ws2 a6).aq (nth ws2 a6).af (nth ws2 a6).ac (nth ws2 a6).ap (IntKind.i64.wrap ((nth ws2 a6).ar - 1)))) a6).ar==0) then(b_++[(bQ J a6).ac]) else b_) else b_)=sj→(aY sj si (IntKind.i64.wrap (a6+1)) p2∧a0 sj si (IntKind.i64.wrap (a6+1)) p2<a0 b_ aP a6 ws2))))
def FF (aY:dN Prop) (a0:dN Nat) (dA:jL Prop) (J:az) (M:Frame):Prop:=
  aY (List.map ad.ac (aa M).O) (List.range (aa M).O.length) 0 (aa M).O∧ ∀(b_:List (List Bool)) (aP:List Nat) (a6:Int) (ws2:List ad),aY b_ aP a6 ws2→(((decide (a6<((aa M).O.length:Int)))=false→dA b_ (aa M).au (aa M).an aP 0 ws2)∧((decide (a6<((aa M).O.length:Int)))=true→FE aY a0 J b_ aP a6 ws2))
def FG (aY:dN Prop) (a0:dN Nat) (dA:jL Prop) (J:az) (M:Frame) (U:Event):Prop:=
  ((U.op==6)=true→((aa M).au.length≤4611686018427387904∧(aa M).an.length≤4611686018427387904∧(j_ (aa M).O (List.range (aa M).O.length) (List.map ad.ac (aa M).O)∧(aa M).O.length≤4611686018427387904∧(∀x∈(List.map ad.ac (aa M).O),List.length x≤4611686018427387904))∧s8 J (Frame.mk (aa M).ok (aa M).au (aa M).an (view (aa M).O (List.range (aa M).O.length) (List.map ad.ac (aa M).O))) U.ah)∧((gz J (Frame.mk (aa M).ok (aa M).au (aa M).an (view (aa M).O (List.range (aa M).O.length) (List.map ad.ac (aa M).O))) U.ah).length≤4611686018427387904→FQ dA J M U))∧((U.op==6)=false→((U.op==7)=true→FF aY a0 dA J M)∧((U.op==7)=false→dA (List.map ad.ac (aa M).O) (aa M).au (aa M).an (List.range (aa M).O.length) 0 (aa M).O))
def FH (aY:dN Prop) (a0:dN Nat) (dA:jL Prop) (J:az) (M:Frame) (U:Event):Prop:=
  ((bif (U.op==3) then(U.op==3) else(U.op==4))=true→(0≤U.ah∧U.ah.toNat<(aa M).au.length)∧(dA (List.map ad.ac (aa M).O) ((aa M).au.set U.ah.toNat (U.op==3)) (aa M).an (List.range (aa M).O.length) 0 (aa M).O))∧((bif (U.op==3) then(U.op==3) else(U.op==4))=false→((U.op==5)=true→(0≤U.ah∧U.ah.toNat<(aa M).an.length)∧(dA (List.map ad.ac (aa M).O) (aa M).au ((aa M).an.set U.ah.toNat (bd.mk (nth (aa M).an U.ah).cC U.bk)) (List.range (aa M).O.length) 0 (aa M).O))∧((U.op==5)=false→FG aY a0 dA J M U))
def FI (aY:dN Prop) (a0:dN Nat) (dA:jL Prop) (J:az) (M:Frame) (U:Event):Prop:=
  ((U.op==2)=true→(0≤U.ah∧U.ah.toNat<(aa M).O.length)∧((((aa M).O.length=(List.range (aa M).O.length).length∧U.ah.toNat<(aa M).O.length)∧(((nth (aa M).O U.ah).aq !=1)=true→(aa M).O.length=(List.range (aa M).O.length).length∧U.ah.toNat<(aa M).O.length))∧(FO dA J M U)))∧((U.op==2)=false→FH aY a0 dA J M U)
def FJ (ay:(List bd)→Int→Prop) (aA:(List bd)→Int→Nat) (aY:dN Prop) (a0:dN Nat) (dA:jL Prop) (J:az) (M:Frame) (U:Event):Prop:=
  ((U.op==1)=true→((aa M).au.length≤4611686018427387904∧(aa M).an.length≤4611686018427387904∧(j_ (aa M).O (List.range (aa M).O.length) (List.map ad.ac (aa M).O)∧(aa M).O.length≤4611686018427387904∧(∀x∈(List.map ad.ac (aa M).O),List.length x≤4611686018427387904))∧m9 J (Frame.mk (aa M).ok (aa M).au (aa M).an (view (aa M).O (List.range (aa M).O.length) (List.map ad.ac (aa M).O))) U.ah)∧(FM ay aA dA J M U))∧((U.op==1)=false→FI aY a0 dA J M U)
def FK (J:az) (M:Frame) (al:fv) (aK:(List bd)) (b_:List (List Bool)) (aP:List Nat) (ws2:List ad) (a8:(List Bool)) (c2:Int):Prop:=
  ((c2 !=0)=true→(hM M)∧((c2=al.code)∧((aa M)=al.frame)))∧((!(c2 !=0))=true→(a8.length≤4611686018427387904∧aK.length≤4611686018427387904∧(j_ ws2 aP b_∧ws2.length≤4611686018427387904∧(∀x∈b_,List.length x≤4611686018427387904))∧tq J (Frame.mk (aa M).ok a8 aK (view ws2 aP b_)))∧((0=al.code)∧((ee J (Frame.mk (aa M).ok a8 aK (view ws2 aP b_)))=al.frame)))
def FC (J:az) (M:Frame) (U:Event) (al:fv) (ay:(List bd)→Int→Prop) (aA:(List bd)→Int→Nat) (aY:dN Prop) (a0:dN Nat) (dA:jL Prop):Prop:=
 (hM M)∧((FJ ay aA aY a0 dA J M U)∧(∀(b_:List (List Bool)) (a8:(List Bool)) (aK:(List bd)) (aP:List Nat) (c2:Int) (ws2:List ad),dA b_ a8 aK aP c2 ws2→(FK J M al aK b_ aP ws2 a8 c2)))
theorem YA (J:az) (M:Frame) (U:Event) (al:fv) (ay:(List bd)→Int→Prop) (aA:(List bd)→Int→Nat) (aY:dN Prop) (a0:dN Nat) (dA:jL Prop) (h:FC J M U al ay aA aY a0 dA):bX Try.prog 63 [.agg (bq false J),.agg (bS false M),.agg (iN U)] (.agg (rp true al)):=by
 unfold FC at h
 refine dF.go (fn:=Try.f63) [(0,.agg (bq false J)),(1,.agg (bS false M)),(2,.agg (iN U))] Try.func63 (fun _ _=> ?_)
 show WpS _ (bT MQ 1) _ ⟨bf 200 [(0,.agg (bq false J)),(1,.agg (bS false M)),(2,.agg (iN U))],[],[]⟩
 refine qf [] 0 [(6,aB 6 0),(5,aB 5 0),(4,aB 4 0),(3,aB 3 0)] [4] [] [(6,[ag 0,ao false,aH,aH,aH]),(5,(iN U)),(4,(bS false M)),(3,(bq false J))] [] ?_
 refine qe [] 1 [(7,aB 7 0),(14,.agg (bS false M))] [1] [4] (fun L=>(7,(bS false M))::L) id ?_
 obtain⟨aa5,h⟩:=h
 refine e0 [] [5] (fun L=>er 3 [ao (aa M).ok,ak 0 0 (aa M).au.length,ak 1 0 (aa M).an.length,ak 2 0 (aa M).O.length] L) (fun _=>(⟨0,1,List.map aW (aa M).au⟩::⟨0,2,List.map a5 (aa M).an⟩::⟨0,5,aZ 3 (aa M).O (List.range (aa M).O.length)⟩::List.map bi (List.map ad.ac (aa M).O))) (True) ?_ (fun q3=> ?_)
 ·
  replace h:=aa5
  refine bJ [] 2 ?_
  have q4:=h
  refine tk 2 (some 16) [(15,.agg (bS false M))] [.agg (bS false M)] (.agg [ao (aa M).ok,ak 0 0 (aa M).au.length,ak 1 0 (aa M).an.length,ak 2 0 (aa M).O.length]) (⟨0,1,List.map aW (aa M).au⟩::⟨0,2,List.map a5 (aa M).an⟩::⟨0,5,aZ 3 (aa M).O (List.range (aa M).O.length)⟩::List.map bi (List.map ad.ac (aa M).O)) (ML M q4) (aE.cons (dc.agg (aE.cons (.bool _) (aE.cons cW (aE.cons cW (aE.cons cW aE.nil))))) aE.nil) B_ (by rw[List.nil_append];exact PM _) ?_ (er:=by simp[m6,ot,iW])
  exact b1 [] trivial
 refine ev [] 3 [(8,ag 0)] [1] [5] ?_
 refine hP ?_
 refine ev [] 4 [(18,ag U.op),(17,aB 5 0)] [1] [6] ?_
 obtain⟨aa4,h⟩:=h
 refine J1 0 (fun(v:List (List Bool)×(List Bool)×(List bd)×List Nat×Int×List ad)=>(⟨(bf 200 [(3,aB 3 0),(4,aB 4 0),(6,aB 6 0),(7,aB 7 0),(8,ag (v.2.2.2.2.1))]),[(7,(bS false M)),(6,[ag 0,ao false,aH,aH,aH]),(4,[ao (aa M).ok,ak 0 0 (v.2.1).length,ak 1 0 (v.2.2.1).length,ak 2 0 (v.2.2.2.2.2).length]),(3,(bq false J))],(⟨0,1,List.map aW (v.2.1)⟩::⟨0,2,List.map a5 (v.2.2.1)⟩::⟨0,5,aZ 3 (v.2.2.2.2.2) (v.2.2.2.1)⟩::List.map bi (v.1))⟩:St)) (fun v=>dA (v.1) (v.2.1) (v.2.2.1) (v.2.2.2.1) (v.2.2.2.2.1) (v.2.2.2.2.2)) ?_ (fun v ds=> ?_)
 ·
  replace h:=aa4
  refine ev [] 5 [(19,ao (U.op==1)),(20,ao (U.op==1))] [1] [7] ?_
  unfold FJ at h
  refine dJ (fun fB=> ?_) (fun fB=> ?_)
  ·
   replace h:=h.1 fB
   obtain⟨k5,h⟩:=h
   refine cB [(8,ag (dI J (Frame.mk (aa M).ok (aa M).au (aa M).an (view (aa M).O (List.range (aa M).O.length) (List.map ad.ac (aa M).O))) U.ah))] [0,3,5] (True) ?_ (fun jr=> ?_)
   ·
    replace h:=k5
    refine bJ [] 6 ?_
    obtain⟨gB,hY,iV,fK⟩:=h
    refine mu 5 (some 25) [(24,ag U.ah),(23,aB 5 1),(22,.agg [ao (aa M).ok,ak 0 0 (aa M).au.length,ak 1 0 (aa M).an.length,ak 2 0 (aa M).O.length]),(21,.agg (bq false J))] [.agg (bq false J),.agg [ao (aa M).ok,ak 0 0 (aa M).au.length,ak 1 0 (aa M).an.length,ak 2 0 (aa M).O.length],ag U.ah] (Nr J (Frame.mk (aa M).ok (aa M).au (aa M).an (view (aa M).O (List.range (aa M).O.length) (List.map ad.ac (aa M).O))) U.ah fK) (aE.cons (dc.agg (aE.cons (.int _ _) (aE.cons cW (aE.cons cW (aE.cons cW (aE.cons (.int _ _) aE.nil)))))) (aE.cons (dc.agg (aE.cons (.bool _) (aE.cons (m5 (sz:=1) (by simp) rfl (sT) gB) (aE.cons (m5 (sz:=2) (by simp) rfl (uy) hY) (aE.cons (tn (s:=3) (ws:=(aa M).O) (ids:=(List.range (aa M).O.length)) (bs:=(List.map ad.ac (aa M).O)) (by simp) rfl (fun id k h=>by simpa using h) iV.1 iV.2.1 iV.2.2) aE.nil))))) (aE.cons (dc.ia (.int _ _)) aE.nil))) ?_
    exact b1 [(8,ag (dI J (Frame.mk (aa M).ok (aa M).au (aa M).an (view (aa M).O (List.range (aa M).O.length) (List.map ad.ac (aa M).O))) U.ah))] trivial
   refine ev [] 7 [(27,ao ((dI J (Frame.mk (aa M).ok (aa M).au (aa M).an (view (aa M).O (List.range (aa M).O.length) (List.map ad.ac (aa M).O))) U.ah)==0)),(26,ag (dI J (Frame.mk (aa M).ok (aa M).au (aa M).an (view (aa M).O (List.range (aa M).O.length) (List.map ad.ac (aa M).O))) U.ah))] [1] [6] ?_
   unfold FM at h
   refine dJ (fun io=> ?_) (fun io=> ?_)
   ·
    replace h:=h.1 io
    obtain⟨jo,h⟩:=h
    refine e0 [] [0,1,6] id (fun H=>ep 2 ⟨0,5,aZ 3 ((aa M).O.set U.ah.toNat (ad.mk 1 (nth (aa M).O U.ah).af (nth (aa M).O U.ah).ac (nth (aa M).O U.ah).ap (nth (aa M).O U.ah).ar)) (List.range (aa M).O.length)⟩ H) (True) ?_ (fun kO=> ?_)
    ·
     replace h:=jo
     refine bJ [] 8 ?_
     obtain⟨afD,h⟩:=h
     refine lB 5 (some 32) [(31,ag U.ah),(30,aB 5 1),(29,ak 2 0 (aa M).O.length),(28,aB 4 3)] 2 0 5 afD ?_
     have iq:=h
     refine j3 2 none [(33,.ptr 2 0 (0+U.ah.toNat) 0)] (aZ 3 (aa M).O (List.range (aa M).O.length)) U.ah 0 1 0 [ag 1] 2 (aZ 3 ((aa M).O.set U.ah.toNat (ad.mk 1 (nth (aa M).O U.ah).af (nth (aa M).O U.ah).ac (nth (aa M).O U.ah).ap (nth (aa M).O U.ah).ar)) (List.range (aa M).O.length)) (dL iq.1 iq.2) (ke iq.1 iq.2) ?_
     exact b1 [] trivial
    obtain⟨l2,h⟩:=h
    refine cB [(40,hh dj (bu (nth J.O U.ah))),(41,ag ((bu (nth J.O U.ah)).length:Int)),(42,ag 0)] [3,1,2] ((bu (nth J.O U.ah)).length≤4611686018427387904) ?_ (fun lx=> ?_)
    ·
     replace h:=l2
     refine bJ [] 9 ?_
     obtain⟨kp,h⟩:=h
     refine kQ 5 (some 38) [(37,ag U.ah),(36,aB 5 1),(35,bE (dx false) J.O),(34,aB 3 2)] (dx false) J.O 5 kp ?_
     have g5:=h
     refine mu 2 (some 40) [(39,.agg (dx false (nth J.O U.ah)))] [.agg (dx false (nth J.O U.ah))] (MY (nth J.O U.ah) g5) (aE.cons (dc.agg (aE.cons cW (aE.cons cW (aE.cons cW (aE.cons cW (aE.cons cW aE.nil)))))) aE.nil) ?_
     refine sLen 1 (some 41) [] dj (bu (nth J.O U.ah)) (fun hZ=> ?_)
     exact b1 [(42,ag 0)] hZ
    replace h:=h lx
    refine fw 1 ?_
    obtain⟨j2,h⟩:=h
    refine kz (fun(v:(List bd)×Int)=>(⟨(bf 200 [(3,aB 3 0),(4,aB 4 0),(6,aB 6 0),(7,aB 7 0),(8,ag (dI J (Frame.mk (aa M).ok (aa M).au (aa M).an (view (aa M).O (List.range (aa M).O.length) (List.map ad.ac (aa M).O))) U.ah)),(40,hh dj (bu (nth J.O U.ah))),(41,ag ((bu (nth J.O U.ah)).length:Int)),(42,ag (v.2))]),[(7,(bS false M)),(6,[ag 0,ao false,aH,aH,aH]),(4,[ao (aa M).ok,ak 0 0 (aa M).au.length,ak 1 0 (v.1).length,ak 2 0 (aa M).O.length]),(3,(bq false J))],(⟨0,1,List.map aW (aa M).au⟩::⟨0,2,List.map a5 (v.1)⟩::⟨0,5,aZ 3 ((aa M).O.set U.ah.toNat (ad.mk 1 (nth (aa M).O U.ah).af (nth (aa M).O U.ah).ac (nth (aa M).O U.ah).ap (nth (aa M).O U.ah).ar)) (List.range (aa M).O.length)⟩::List.map bi (List.map ad.ac (aa M).O))⟩:St)) (fun(v:(List bd)×Int)=>ay (v.1) (v.2)) (fun(v:(List bd)×Int)=>aA (v.1) (v.2)) ((aa M).an,0) (dE [5]) j2 (fun v aX=> ?_)
    obtain⟨aK,eH⟩:=v
    replace h:=h aK eH aX
    dsimp only
    refine ev [] 10 [(43,ao (decide (eH<((bu (nth J.O U.ah)).length:Int))))] [1] [8] ?_
    unfold FL at h
    obtain⟨oi,h⟩:=h
    refine cB [] [0,1,8] ((decide (eH<((bu (nth J.O U.ah)).length:Int)))=true) ?_ (fun ib=> ?_)
    ·
     replace h:=oi
     refine dJ (fun g6=> ?_) (fun g6=> ?_)
     ·
      refine ew ?_
      exact ck.normal (by simp only[fB,io,g6]<;>rfl) eo
     ·
      replace h:=h g6
      refine je 1 ?_
      refine ck.exit ?_
      refine eb.exit ?_
      refine cn.here ?_
      refine cn.normal ?_
      exact gX.normal ((List.map ad.ac (aa M).O),(aa M).au,aK,(List.range (aa M).O.length),(dI J (Frame.mk (aa M).ok (aa M).au (aa M).an (view (aa M).O (List.range (aa M).O.length) (List.map ad.ac (aa M).O))) U.ah),((aa M).O.set U.ah.toNat (ad.mk 1 (nth (aa M).O U.ah).af (nth (aa M).O U.ah).ac (nth (aa M).O U.ah).ap (nth (aa M).O U.ah).ar))) h (hB (s':=⟨(bf 200 [(3,aB 3 0),(4,aB 4 0),(6,aB 6 0),(7,aB 7 0),(8,ag (dI J (Frame.mk (aa M).ok (aa M).au (aa M).an (view (aa M).O (List.range (aa M).O.length) (List.map ad.ac (aa M).O))) U.ah))]),[(7,(bS false M)),(6,[ag 0,ao false,aH,aH,aH]),(4,[ao (aa M).ok,ak 0 0 (aa M).au.length,ak 1 0 aK.length,ak 2 0 (aa M).O.length]),(3,(bq false J))],(⟨0,1,List.map aW (aa M).au⟩::⟨0,2,List.map a5 aK⟩::⟨0,5,aZ 3 ((aa M).O.set U.ah.toNat (ad.mk 1 (nth (aa M).O U.ah).af (nth (aa M).O U.ah).ac (nth (aa M).O U.ah).ap (nth (aa M).O U.ah).ar)) (List.range (aa M).O.length)⟩::List.map bi (List.map ad.ac (aa M).O))⟩) (dE (n:=200) (A':=[(3,aB 3 0),(4,aB 4 0),(6,aB 6 0),(7,aB 7 0),(8,ag (dI J (Frame.mk (aa M).ok (aa M).au (aa M).an (view (aa M).O (List.range (aa M).O.length) (List.map ad.ac (aa M).O))) U.ah))]) (L':=[(7,(bS false M)),(6,[ag 0,ao false,aH,aH,aH]),(4,[ao (aa M).ok,ak 0 0 (aa M).au.length,ak 1 0 aK.length,ak 2 0 (aa M).O.length]),(3,(bq false J))]) []) (congrArg (fun z=>(⟨(bf 200 [(3,aB 3 0),(4,aB 4 0),(6,aB 6 0),(7,aB 7 0),(8,ag (dI J (Frame.mk (aa M).ok (aa M).au (aa M).an (view (aa M).O (List.range (aa M).O.length) (List.map ad.ac (aa M).O))) U.ah))]),[(7,(bS false M)),(6,[ag 0,ao false,aH,aH,aH]),(4,[ao (aa M).ok,ak 0 0 (aa M).au.length,ak 1 0 aK.length,ak 2 0 z]),(3,(bq false J))],(⟨0,1,List.map aW (aa M).au⟩::⟨0,2,List.map a5 aK⟩::⟨0,5,aZ 3 ((aa M).O.set U.ah.toNat (ad.mk 1 (nth (aa M).O U.ah).af (nth (aa M).O U.ah).ac (nth (aa M).O U.ah).ap (nth (aa M).O U.ah).ar)) (List.range (aa M).O.length)⟩::List.map bi (List.map ad.ac (aa M).O))⟩:St)) (show(aa M).O.length=((aa M).O.set U.ah.toNat (ad.mk 1 (nth (aa M).O U.ah).af (nth (aa M).O U.ah).ac (nth (aa M).O U.ah).ap (nth (aa M).O U.ah).ar)).length by simp)))
    replace h:=h ib
    obtain⟨oY,h⟩:=h
    refine e0 [] [8] (fun L=>(10,(dj (nth (bu (nth J.O U.ah)) eH)))::L) (fun H=>ep 1 ⟨0,2,List.map a5 (aK.set (nth (bu (nth J.O U.ah)) eH).sw.toNat (bd.mk (nth (bu (nth J.O U.ah)) eH).bk (nth aK (nth (bu (nth J.O U.ah)) eH).sw).a2))⟩ H) (True) ?_ (fun ir=> ?_)
    ·
     replace h:=oY
     refine fw 2 ?_
     obtain⟨nv,h⟩:=h
     refine e0 [(10,aB 10 0)] [8] (fun L=>(10,(dj (nth (bu (nth J.O U.ah)) eH)))::L) id (True) ?_ (fun h0=> ?_)
     ·
      replace h:=nv
      refine bJ [] 11 ?_
      have k4:=h
      refine kQ 1 (some 44) [] dj (bu (nth J.O U.ah)) 2 k4 ?_
      exact b1 [(10,aB 10 0),(45,.agg (dj (nth (bu (nth J.O U.ah)) eH)))] trivial
     refine bJ [] 12 ?_
     have SR:=h
     refine lB 7 (some 52) [(51,ag (nth (bu (nth J.O U.ah)) eH).bk),(50,aB 10 1),(49,ag (nth (bu (nth J.O U.ah)) eH).sw),(48,aB 10 0),(47,ak 1 0 aK.length),(46,aB 4 2)] 1 0 2 SR ?_
     refine tm 2 none [(53,.ptr 1 0 (0+(nth (bu (nth J.O U.ah)) eH).sw.toNat) 0)] a5 aK (nth (bu (nth J.O U.ah)) eH).sw 0 1 0 [ag (nth (bu (nth J.O U.ah)) eH).bk] 1 (bd.mk (nth (bu (nth J.O U.ah)) eH).bk (nth aK (nth (bu (nth J.O U.ah)) eH).sw).a2) (by simpa using SR.2) ?_
     refine dX [] ?_
     refine cn.normal ?_
     exact ck.normal trivial eo
    unfold FD at h
    refine bJ [] 13 ?_
    refine dX [(42,ag (IntKind.i64.wrap (eH+1))),(54,ag (IntKind.i64.wrap (eH+1)))] ?_
    exact eb.again ((aK.set (nth (bu (nth J.O U.ah)) eH).sw.toNat (bd.mk (nth (bu (nth J.O U.ah)) eH).bk (nth aK (nth (bu (nth J.O U.ah)) eH).sw).a2)),(IntKind.i64.wrap (eH+1))) h (hB (s':=⟨(bf 200 [(3,aB 3 0),(4,aB 4 0),(6,aB 6 0),(7,aB 7 0),(8,ag (dI J (Frame.mk (aa M).ok (aa M).au (aa M).an (view (aa M).O (List.range (aa M).O.length) (List.map ad.ac (aa M).O))) U.ah)),(40,hh dj (bu (nth J.O U.ah))),(41,ag ((bu (nth J.O U.ah)).length:Int)),(42,ag (IntKind.i64.wrap (eH+1)))]),[(7,(bS false M)),(6,[ag 0,ao false,aH,aH,aH]),(4,[ao (aa M).ok,ak 0 0 (aa M).au.length,ak 1 0 aK.length,ak 2 0 (aa M).O.length]),(3,(bq false J))],(⟨0,1,List.map aW (aa M).au⟩::⟨0,2,List.map a5 (aK.set (nth (bu (nth J.O U.ah)) eH).sw.toNat (bd.mk (nth (bu (nth J.O U.ah)) eH).bk (nth aK (nth (bu (nth J.O U.ah)) eH).sw).a2))⟩::⟨0,5,aZ 3 ((aa M).O.set U.ah.toNat (ad.mk 1 (nth (aa M).O U.ah).af (nth (aa M).O U.ah).ac (nth (aa M).O U.ah).ap (nth (aa M).O U.ah).ar)) (List.range (aa M).O.length)⟩::List.map bi (List.map ad.ac (aa M).O))⟩) (dE (n:=200) (A':=[(3,aB 3 0),(4,aB 4 0),(6,aB 6 0),(7,aB 7 0),(8,ag (dI J (Frame.mk (aa M).ok (aa M).au (aa M).an (view (aa M).O (List.range (aa M).O.length) (List.map ad.ac (aa M).O))) U.ah)),(40,hh dj (bu (nth J.O U.ah))),(41,ag ((bu (nth J.O U.ah)).length:Int)),(42,ag (IntKind.i64.wrap (eH+1)))]) (L':=[(7,(bS false M)),(6,[ag 0,ao false,aH,aH,aH]),(4,[ao (aa M).ok,ak 0 0 (aa M).au.length,ak 1 0 aK.length,ak 2 0 (aa M).O.length]),(3,(bq false J))]) [10]) (congrArg (fun z=>(⟨(bf 200 [(3,aB 3 0),(4,aB 4 0),(6,aB 6 0),(7,aB 7 0),(8,ag (dI J (Frame.mk (aa M).ok (aa M).au (aa M).an (view (aa M).O (List.range (aa M).O.length) (List.map ad.ac (aa M).O))) U.ah)),(40,hh dj (bu (nth J.O U.ah))),(41,ag ((bu (nth J.O U.ah)).length:Int)),(42,ag (IntKind.i64.wrap (eH+1)))]),[(7,(bS false M)),(6,[ag 0,ao false,aH,aH,aH]),(4,[ao (aa M).ok,ak 0 0 (aa M).au.length,ak 1 0 z,ak 2 0 (aa M).O.length]),(3,(bq false J))],(⟨0,1,List.map aW (aa M).au⟩::⟨0,2,List.map a5 (aK.set (nth (bu (nth J.O U.ah)) eH).sw.toNat (bd.mk (nth (bu (nth J.O U.ah)) eH).bk (nth aK (nth (bu (nth J.O U.ah)) eH).sw).a2))⟩::⟨0,5,aZ 3 ((aa M).O.set U.ah.toNat (ad.mk 1 (nth (aa M).O U.ah).af (nth (aa M).O U.ah).ac (nth (aa M).O U.ah).ap (nth (aa M).O U.ah).ar)) (List.range (aa M).O.length)⟩::List.map bi (List.map ad.ac (aa M).O))⟩:St)) (show aK.length=(aK.set (nth (bu (nth J.O U.ah)) eH).sw.toNat (bd.mk (nth (bu (nth J.O U.ah)) eH).bk (nth aK (nth (bu (nth J.O U.ah)) eH).sw).a2)).length by simp)))
   ·
    replace h:=h.2 io
    refine ew ?_
    refine cn.normal ?_
    exact gX.normal ((List.map ad.ac (aa M).O),(aa M).au,(aa M).an,(List.range (aa M).O.length),(dI J (Frame.mk (aa M).ok (aa M).au (aa M).an (view (aa M).O (List.range (aa M).O.length) (List.map ad.ac (aa M).O))) U.ah),(aa M).O) h (dE [5])
  ·
   replace h:=h.2 fB
   refine ev [] 14 [(55,ao (U.op==2)),(56,ao (U.op==2))] [1] [0,1,7] ?_
   unfold FI at h
   refine dJ (fun g7=> ?_) (fun g7=> ?_)
   ·
    replace h:=h.1 g7
    obtain⟨qO,h⟩:=h
    refine cB [(11,.ptr 2 0 (0+U.ah.toNat) 0)] [0,2,6] (True) ?_ (fun oZ=> ?_)
    ·
     replace h:=qO
     refine bJ [] 15 ?_
     have afG:=h
     refine lB 5 (some 61) [(60,ag U.ah),(59,aB 5 1),(58,ak 2 0 (aa M).O.length),(57,aB 4 3)] 2 0 5 afG ?_
     exact b1 [(11,.ptr 2 0 (0+U.ah.toNat) 0)] trivial
    refine fw 3 ?_
    obtain⟨zv,h⟩:=h
    refine cB [(68,ao (((nth (aa M).O U.ah).aq !=1)&&((nth (aa M).O U.ah).aq !=2)))] [7] (True) ?_ (fun ly=> ?_)
    ·
     replace h:=zv
     refine bJ [] 17 ?_
     obtain⟨nw,h⟩:=h
     refine iF 4 (some 72) [(71,.ptr 2 0 (0+U.ah.toNat) 0),(70,.ptr 2 0 (0+U.ah.toNat) 0),(69,.ptr 2 0 (0+U.ah.toNat) 0)] (aZ 3 (aa M).O (List.range (aa M).O.length)) U.ah 3 0 0 (ag (nth (aa M).O U.ah).aq) (dL nw.1 nw.2) ?_
     refine nB 2 74 ((nth (aa M).O U.ah).aq !=1) [(73,ao ((nth (aa M).O U.ah).aq !=1))] (fun pP=> ?_) (fun pP=> ?_)
     ·
      replace h:=h pP
      have jp:=h
      refine iF 4 (some 78) [(77,.ptr 2 0 (0+U.ah.toNat) 0),(76,.ptr 2 0 (0+U.ah.toNat) 0),(75,.ptr 2 0 (0+U.ah.toNat) 0)] (aZ 3 (aa M).O (List.range (aa M).O.length)) U.ah 3 0 0 (ag (nth (aa M).O U.ah).aq) (dL jp.1 jp.2) ?_
      exact b1 [(68,ao ((nth (aa M).O U.ah).aq !=2)),(80,ao ((nth (aa M).O U.ah).aq !=2)),(79,ao ((nth (aa M).O U.ah).aq !=2))] trivial (by simp only[fB,g7,pP]<;>kernel_rfl)
     ·
      exact b1 ([(68,ao false),(80,ao false)]++gp [79,78,77,76,75]) trivial (by simp only[fB,g7,pP]<;>kernel_rfl)
    unfold FO at h
    refine dJ (fun l3=> ?_) (fun l3=> ?_)
    ·
     replace h:=h.1 l3
     refine bJ [] 18 ?_
     refine dX [(8,ag 2)] ?_
     refine cn.normal ?_
     refine cn.normal ?_
     exact gX.normal ((List.map ad.ac (aa M).O),(aa M).au,(aa M).an,(List.range (aa M).O.length),2,(aa M).O) h (dE [5])
    ·
     replace h:=h.2 l3
     obtain⟨o1,h⟩:=h
     refine cB [(81,ao ((nth (aa M).O U.ah).ap&&(gK (Frame.mk (aa M).ok (aa M).au (aa M).an (view (aa M).O (List.range (aa M).O.length) (List.map ad.ac (aa M).O))) (nth J.O U.ah).cJ)))] [0,1,7] (True) ?_ (fun k7=> ?_)
     ·
      replace h:=o1
      refine ny [] 19 Yu Yv [] ?_
      obtain⟨jq,h⟩:=h
      refine nE 4 (some 85) [(84,.ptr 2 0 (0+U.ah.toNat) 3),(83,.ptr 2 0 (0+U.ah.toNat) 0),(82,.ptr 2 0 (0+U.ah.toNat) 0)] (aZ 3 (aa M).O (List.range (aa M).O.length)) U.ah 4 3 0 (ao (nth (aa M).O U.ah).ap) (dL jq.1 jq.2) ?_
      refine pW 1 86 (nth (aa M).O U.ah).ap [] (fun l4=> ?_) (fun l4=> ?_)
      ·
       replace h:=h l4
       obtain⟨l5,h⟩:=h
       refine sh 6 (some 92) [(91,ag U.ah),(90,aB 5 1),(89,bE (dx false) J.O),(88,aB 3 2),(87,.agg [ao (aa M).ok,ak 0 0 (aa M).au.length,ak 1 0 (aa M).an.length,ak 2 0 (aa M).O.length])] (dx false) J.O 5 l5 ?_
       obtain⟨mn,m0,m1,pQ⟩:=h
       refine Sh 3 (some 95) [(94,bE db (nth J.O U.ah).cJ),(93,.dv (dx false (nth J.O U.ah)) 4)] [.agg [ao (aa M).ok,ak 0 0 (aa M).au.length,ak 1 0 (aa M).an.length,ak 2 0 (aa M).O.length],bE db (nth J.O U.ah).cJ] (Nc (Frame.mk (aa M).ok (aa M).au (aa M).an (view (aa M).O (List.range (aa M).O.length) (List.map ad.ac (aa M).O))) (nth J.O U.ah).cJ pQ) (aE.cons (dc.agg (aE.cons (.bool _) (aE.cons (m5 (sz:=1) (by simp) rfl (sT) mn) (aE.cons (m5 (sz:=2) (by simp) rfl (uy) m0) (aE.cons (tn (s:=3) (ws:=(aa M).O) (ids:=(List.range (aa M).O.length)) (bs:=(List.map ad.ac (aa M).O)) (by simp) rfl (fun id k h=>by simpa using h) m1.1 m1.2.1 m1.2.2) aE.nil))))) (aE.cons (dc.ia cW) aE.nil)) ?_
       exact kR [(81,ao (gK (Frame.mk (aa M).ok (aa M).au (aa M).an (view (aa M).O (List.range (aa M).O.length) (List.map ad.ac (aa M).O))) (nth J.O U.ah).cJ)),(96,ao (gK (Frame.mk (aa M).ok (aa M).au (aa M).an (view (aa M).O (List.range (aa M).O.length) (List.map ad.ac (aa M).O))) (nth J.O U.ah).cJ))] trivial (by simp only[fB,g7,l3,l4]<;>kernel_rfl)
      ·
       exact kR ([(81,ao false),(96,ao false)]++gp [95,94,93,92,91,90,89,88,87]) trivial (by simp only[fB,g7,l3,l4]<;>kernel_rfl)
     unfold FN at h
     refine dJ (fun r8=> ?_) (fun r8=> ?_)
     ·
      replace h:=h.1 r8
      refine ny [] 20 Yw Yx [] ?_
      obtain⟨mo,h⟩:=h
      refine Sj 7 none [(102,.ptr 2 0 (0+U.ah.toNat) 0),(101,.ptr 2 0 (0+U.ah.toNat) 0),(100,ag J.dn),(99,aB 3 4),(98,.ptr 2 0 (0+U.ah.toNat) 0),(97,.ptr 2 0 (0+U.ah.toNat) 0)] (aZ 3 (aa M).O (List.range (aa M).O.length)) U.ah 0 1 0 [ag 3] (fun r=>rA Try.prog (jF MQ 256942) [1,2,3] [(102,.ptr 2 0 (0+U.ah.toNat) 0),(101,.ptr 2 0 (0+U.ah.toNat) 0),(100,ag J.dn),(99,aB 3 4),(98,.ptr 2 0 (0+U.ah.toNat) 0),(97,.ptr 2 0 (0+U.ah.toNat) 0),(81,ao ((nth (aa M).O U.ah).ap&&(gK (Frame.mk (aa M).ok (aa M).au (aa M).an (view (aa M).O (List.range (aa M).O.length) (List.map ad.ac (aa M).O))) (nth J.O U.ah).cJ))),(11,.ptr 2 0 (0+U.ah.toNat) 0),(8,ag 0),(7,aB 7 0),(6,aB 6 0),(5,aB 5 0),(4,aB 4 0),(3,aB 3 0)] [(7,(bS false M)),(6,[ag 0,ao false,aH,aH,aH]),(5,(iN U)),(4,[ao (aa M).ok,ak 0 0 (aa M).au.length,ak 1 0 (aa M).an.length,ak 2 0 (aa M).O.length]),(3,(bq false J))] ((fun r=>(⟨0,1,List.map aW (aa M).au⟩::⟨0,2,List.map a5 (aa M).an⟩::⟨0,5,r⟩::List.map bi (List.map ad.ac (aa M).O))) r)) (fun r=>(⟨0,1,List.map aW (aa M).au⟩::⟨0,2,List.map a5 (aa M).an⟩::⟨0,5,r⟩::List.map bi (List.map ad.ac (aa M).O))) (aZ 3 ((aa M).O.set U.ah.toNat (ad.mk 3 (nth (aa M).O U.ah).af (nth (aa M).O U.ah).ac (nth (aa M).O U.ah).ap (nth (aa M).O U.ah).ar)) (List.range (aa M).O.length)) (dL mo.1 mo.2) (ke mo.1 mo.2) (w8 (ψ:=((true=true∧true=true∧((.ptr 2 0 (0+U.ah.toNat) 0:AV)= .ptr 2 0 (0+U.ah.toNat) 0))∧((true=true∧true=true∧((aB 3 4:AV)=aB 3 4))∧((true=true∧true=true∧((ag J.dn:AV)=ag J.dn))∧True)))) (by kernel_rfl) ⟨⟨rfl,rfl,rfl⟩,⟨⟨rfl,rfl,rfl⟩,⟨⟨rfl,rfl,rfl⟩,trivial⟩⟩⟩) ?_
      obtain⟨lz,h⟩:=h
      refine Sj 3 none [(104,.ptr 2 0 (0+U.ah.toNat) 4),(103,.ptr 2 0 (0+U.ah.toNat) 0)] (aZ 3 ((aa M).O.set U.ah.toNat (ad.mk 3 (nth (aa M).O U.ah).af (nth (aa M).O U.ah).ac (nth (aa M).O U.ah).ap (nth (aa M).O U.ah).ar)) (List.range (aa M).O.length)) U.ah 4 1 0 [ag J.dn] (fun _=>True) (fun r=>(⟨0,1,List.map aW (aa M).au⟩::⟨0,2,List.map a5 (aa M).an⟩::⟨0,5,r⟩::List.map bi (List.map ad.ac (aa M).O))) (aZ 3 (((aa M).O.set U.ah.toNat (ad.mk 3 (nth (aa M).O U.ah).af (nth (aa M).O U.ah).ac (nth (aa M).O U.ah).ap (nth (aa M).O U.ah).ar)).set U.ah.toNat (ad.mk (nth ((aa M).O.set U.ah.toNat (ad.mk 3 (nth (aa M).O U.ah).af (nth (aa M).O U.ah).ac (nth (aa M).O U.ah).ap (nth (aa M).O U.ah).ar)) U.ah).aq (nth ((aa M).O.set U.ah.toNat (ad.mk 3 (nth (aa M).O U.ah).af (nth (aa M).O U.ah).ac (nth (aa M).O U.ah).ap (nth (aa M).O U.ah).ar)) U.ah).af (nth ((aa M).O.set U.ah.toNat (ad.mk 3 (nth (aa M).O U.ah).af (nth (aa M).O U.ah).ac (nth (aa M).O U.ah).ap (nth (aa M).O U.ah).ar)) U.ah).ac (nth ((aa M).O.set U.ah.toNat (ad.mk 3 (nth (aa M).O U.ah).af (nth (aa M).O U.ah).ac (nth (aa M).O U.ah).ap (nth (aa M).O U.ah).ar)) U.ah).ap J.dn)) (List.range (aa M).O.length)) (dL lz.1 lz.2) (ke lz.1 lz.2) trivial ?_
      refine zX [] ?_
      refine cn.normal ?_
      refine cn.normal ?_
      exact gX.normal ((List.map ad.ac (aa M).O),(aa M).au,(aa M).an,(List.range (aa M).O.length),0,(((aa M).O.set U.ah.toNat (ad.mk 3 (nth (aa M).O U.ah).af (nth (aa M).O U.ah).ac (nth (aa M).O U.ah).ap (nth (aa M).O U.ah).ar)).set U.ah.toNat (ad.mk (nth ((aa M).O.set U.ah.toNat (ad.mk 3 (nth (aa M).O U.ah).af (nth (aa M).O U.ah).ac (nth (aa M).O U.ah).ap (nth (aa M).O U.ah).ar)) U.ah).aq (nth ((aa M).O.set U.ah.toNat (ad.mk 3 (nth (aa M).O U.ah).af (nth (aa M).O U.ah).ac (nth (aa M).O U.ah).ap (nth (aa M).O U.ah).ar)) U.ah).af (nth ((aa M).O.set U.ah.toNat (ad.mk 3 (nth (aa M).O U.ah).af (nth (aa M).O U.ah).ac (nth (aa M).O U.ah).ap (nth (aa M).O U.ah).ar)) U.ah).ac (nth ((aa M).O.set U.ah.toNat (ad.mk 3 (nth (aa M).O U.ah).af (nth (aa M).O U.ah).ac (nth (aa M).O U.ah).ap (nth (aa M).O U.ah).ar)) U.ah).ap J.dn))) h (hB (s':=⟨(bf 200 [(3,aB 3 0),(4,aB 4 0),(6,aB 6 0),(7,aB 7 0),(8,ag 0)]),[(7,(bS false M)),(6,[ag 0,ao false,aH,aH,aH]),(4,[ao (aa M).ok,ak 0 0 (aa M).au.length,ak 1 0 (aa M).an.length,ak 2 0 (aa M).O.length]),(3,(bq false J))],(⟨0,1,List.map aW (aa M).au⟩::⟨0,2,List.map a5 (aa M).an⟩::⟨0,5,aZ 3 (((aa M).O.set U.ah.toNat (ad.mk 3 (nth (aa M).O U.ah).af (nth (aa M).O U.ah).ac (nth (aa M).O U.ah).ap (nth (aa M).O U.ah).ar)).set U.ah.toNat (ad.mk (nth ((aa M).O.set U.ah.toNat (ad.mk 3 (nth (aa M).O U.ah).af (nth (aa M).O U.ah).ac (nth (aa M).O U.ah).ap (nth (aa M).O U.ah).ar)) U.ah).aq (nth ((aa M).O.set U.ah.toNat (ad.mk 3 (nth (aa M).O U.ah).af (nth (aa M).O U.ah).ac (nth (aa M).O U.ah).ap (nth (aa M).O U.ah).ar)) U.ah).af (nth ((aa M).O.set U.ah.toNat (ad.mk 3 (nth (aa M).O U.ah).af (nth (aa M).O U.ah).ac (nth (aa M).O U.ah).ap (nth (aa M).O U.ah).ar)) U.ah).ac (nth ((aa M).O.set U.ah.toNat (ad.mk 3 (nth (aa M).O U.ah).af (nth (aa M).O U.ah).ac (nth (aa M).O U.ah).ap (nth (aa M).O U.ah).ar)) U.ah).ap J.dn)) (List.range (aa M).O.length)⟩::List.map bi (List.map ad.ac (aa M).O))⟩) (dE (n:=200) (A':=[(3,aB 3 0),(4,aB 4 0),(6,aB 6 0),(7,aB 7 0),(8,ag 0)]) (L':=[(7,(bS false M)),(6,[ag 0,ao false,aH,aH,aH]),(4,[ao (aa M).ok,ak 0 0 (aa M).au.length,ak 1 0 (aa M).an.length,ak 2 0 (aa M).O.length]),(3,(bq false J))]) [5]) (congrArg (fun z=>(⟨(bf 200 [(3,aB 3 0),(4,aB 4 0),(6,aB 6 0),(7,aB 7 0),(8,ag 0)]),[(7,(bS false M)),(6,[ag 0,ao false,aH,aH,aH]),(4,[ao (aa M).ok,ak 0 0 (aa M).au.length,ak 1 0 (aa M).an.length,ak 2 0 z]),(3,(bq false J))],(⟨0,1,List.map aW (aa M).au⟩::⟨0,2,List.map a5 (aa M).an⟩::⟨0,5,aZ 3 (((aa M).O.set U.ah.toNat (ad.mk 3 (nth (aa M).O U.ah).af (nth (aa M).O U.ah).ac (nth (aa M).O U.ah).ap (nth (aa M).O U.ah).ar)).set U.ah.toNat (ad.mk (nth ((aa M).O.set U.ah.toNat (ad.mk 3 (nth (aa M).O U.ah).af (nth (aa M).O U.ah).ac (nth (aa M).O U.ah).ap (nth (aa M).O U.ah).ar)) U.ah).aq (nth ((aa M).O.set U.ah.toNat (ad.mk 3 (nth (aa M).O U.ah).af (nth (aa M).O U.ah).ac (nth (aa M).O U.ah).ap (nth (aa M).O U.ah).ar)) U.ah).af (nth ((aa M).O.set U.ah.toNat (ad.mk 3 (nth (aa M).O U.ah).af (nth (aa M).O U.ah).ac (nth (aa M).O U.ah).ap (nth (aa M).O U.ah).ar)) U.ah).ac (nth ((aa M).O.set U.ah.toNat (ad.mk 3 (nth (aa M).O U.ah).af (nth (aa M).O U.ah).ac (nth (aa M).O U.ah).ap (nth (aa M).O U.ah).ar)) U.ah).ap J.dn)) (List.range (aa M).O.length)⟩::List.map bi (List.map ad.ac (aa M).O))⟩:St)) (show(aa M).O.length=(((aa M).O.set U.ah.toNat (ad.mk 3 (nth (aa M).O U.ah).af (nth (aa M).O U.ah).ac (nth (aa M).O U.ah).ap (nth (aa M).O U.ah).ar)).set U.ah.toNat (ad.mk (nth ((aa M).O.set U.ah.toNat (ad.mk 3 (nth (aa M).O U.ah).af (nth (aa M).O U.ah).ac (nth (aa M).O U.ah).ap (nth (aa M).O U.ah).ar)) U.ah).aq (nth ((aa M).O.set U.ah.toNat (ad.mk 3 (nth (aa M).O U.ah).af (nth (aa M).O U.ah).ac (nth (aa M).O U.ah).ap (nth (aa M).O U.ah).ar)) U.ah).af (nth ((aa M).O.set U.ah.toNat (ad.mk 3 (nth (aa M).O U.ah).af (nth (aa M).O U.ah).ac (nth (aa M).O U.ah).ap (nth (aa M).O U.ah).ar)) U.ah).ac (nth ((aa M).O.set U.ah.toNat (ad.mk 3 (nth (aa M).O U.ah).af (nth (aa M).O U.ah).ac (nth (aa M).O U.ah).ap (nth (aa M).O U.ah).ar)) U.ah).ap J.dn)).length by simp)))
     ·
      replace h:=h.2 r8
      refine bJ [] 16 ?_
      obtain⟨o0,h⟩:=h
      refine tk 5 (some 66) [(65,ag U.ah),(64,aB 5 1),(63,.agg (bq false J)),(62,.ptr 2 0 (0+U.ah.toNat) 0)] [.agg (bq false J),ag U.ah] (.agg [ag (bQ J U.ah).aq,ag (bQ J U.ah).af,ak ((List.map ad.ac (aa M).O).length+3) 0 (bQ J U.ah).ac.length,ao (bQ J U.ah).ap,ag (bQ J U.ah).ar]) (⟨0,1,List.map aW (aa M).au⟩::⟨0,2,List.map a5 (aa M).an⟩::⟨0,5,aZ 3 (aa M).O (List.range (aa M).O.length)⟩::List.map bi ((List.map ad.ac (aa M).O)++[(bQ J U.ah).ac])) (FV J U.ah o0) (aE.cons (dc.agg (aE.cons (.int _ _) (aE.cons cW (aE.cons cW (aE.cons cW (aE.cons (.int _ _) aE.nil)))))) (aE.cons (dc.ia (.int _ _)) aE.nil)) (r5 (fun _=>rfl) rfl) (sf (se (fun _=>rfl) rfl) (by simp only[List.cons_append,List.map_nil,rv])) ?_ (er:=by simp[m6,ot,iW])
      obtain⟨mq,h⟩:=h
      refine j3 2 none [(67,.ptr 2 0 (0+U.ah.toNat) 0)] (aZ 3 (aa M).O (List.range (aa M).O.length)) U.ah 0 5 0 [ag (bQ J U.ah).aq,ag (bQ J U.ah).af,ak ((List.map ad.ac (aa M).O).length+3) 0 (bQ J U.ah).ac.length,ao (bQ J U.ah).ap,ag (bQ J U.ah).ar] 2 (aZ 3 ((aa M).O.set U.ah.toNat (ad.mk (bQ J U.ah).aq (bQ J U.ah).af (bQ J U.ah).ac (bQ J U.ah).ap (bQ J U.ah).ar)) ((List.range (aa M).O.length).set U.ah.toNat (List.map ad.ac (aa M).O).length)) (dL mq.1 mq.2) (wk mq.1) ?_
      refine dX [] ?_
      refine cn.normal ?_
      refine cn.normal ?_
      exact gX.normal (((List.map ad.ac (aa M).O)++[(bQ J U.ah).ac]),(aa M).au,(aa M).an,((List.range (aa M).O.length).set U.ah.toNat (List.map ad.ac (aa M).O).length),0,((aa M).O.set U.ah.toNat (ad.mk (bQ J U.ah).aq (bQ J U.ah).af (bQ J U.ah).ac (bQ J U.ah).ap (bQ J U.ah).ar))) h (hB (s':=⟨(bf 200 [(3,aB 3 0),(4,aB 4 0),(6,aB 6 0),(7,aB 7 0),(8,ag 0)]),[(7,(bS false M)),(6,[ag 0,ao false,aH,aH,aH]),(4,[ao (aa M).ok,ak 0 0 (aa M).au.length,ak 1 0 (aa M).an.length,ak 2 0 (aa M).O.length]),(3,(bq false J))],(⟨0,1,List.map aW (aa M).au⟩::⟨0,2,List.map a5 (aa M).an⟩::⟨0,5,aZ 3 ((aa M).O.set U.ah.toNat (ad.mk (bQ J U.ah).aq (bQ J U.ah).af (bQ J U.ah).ac (bQ J U.ah).ap (bQ J U.ah).ar)) ((List.range (aa M).O.length).set U.ah.toNat (List.map ad.ac (aa M).O).length)⟩::List.map bi ((List.map ad.ac (aa M).O)++[(bQ J U.ah).ac]))⟩) (dE (n:=200) (A':=[(3,aB 3 0),(4,aB 4 0),(6,aB 6 0),(7,aB 7 0),(8,ag 0)]) (L':=[(7,(bS false M)),(6,[ag 0,ao false,aH,aH,aH]),(4,[ao (aa M).ok,ak 0 0 (aa M).au.length,ak 1 0 (aa M).an.length,ak 2 0 (aa M).O.length]),(3,(bq false J))]) [5]) (congrArg (fun z=>(⟨(bf 200 [(3,aB 3 0),(4,aB 4 0),(6,aB 6 0),(7,aB 7 0),(8,ag 0)]),[(7,(bS false M)),(6,[ag 0,ao false,aH,aH,aH]),(4,[ao (aa M).ok,ak 0 0 (aa M).au.length,ak 1 0 (aa M).an.length,ak 2 0 z]),(3,(bq false J))],(⟨0,1,List.map aW (aa M).au⟩::⟨0,2,List.map a5 (aa M).an⟩::⟨0,5,aZ 3 ((aa M).O.set U.ah.toNat (ad.mk (bQ J U.ah).aq (bQ J U.ah).af (bQ J U.ah).ac (bQ J U.ah).ap (bQ J U.ah).ar)) ((List.range (aa M).O.length).set U.ah.toNat (List.map ad.ac (aa M).O).length)⟩::List.map bi ((List.map ad.ac (aa M).O)++[(bQ J U.ah).ac]))⟩:St)) (show(aa M).O.length=((aa M).O.set U.ah.toNat (ad.mk (bQ J U.ah).aq (bQ J U.ah).af (bQ J U.ah).ac (bQ J U.ah).ap (bQ J U.ah).ar)).length by simp)))
   ·
    replace h:=h.2 g7
    refine cB [(105,ao (bif (U.op==3) then(U.op==3) else(U.op==4)))] [0,1,7] (True) ?_ (fun mr=> ?_)
    ·
     refine ev [] 21 [(105,ao (U.op==3)),(106,ao (U.op==3))] [1] [0,1,7] ?_
     refine dJ (fun oj=> ?_) (fun oj=> ?_)
     ·
      refine ew ?_
      exact ck.normal trivial (eo (by simp only[fB,g7,oj]<;>kernel_rfl))
     ·
      refine bJ [] 22 ?_
      exact b1 [(105,ao (U.op==4)),(107,ao (U.op==4))] trivial (by simp only[fB,g7,oj]<;>kernel_rfl)
    unfold FH at h
    refine dJ (fun ol=> ?_) (fun ol=> ?_)
    ·
     replace h:=h.1 ol
     refine bJ [] 23 ?_
     obtain⟨SG,h⟩:=h
     refine lB 8 (some 115) [(114,ao (U.op==3)),(113,ag U.op),(112,aB 5 0),(111,ag U.ah),(110,aB 5 1),(109,ak 0 0 (aa M).au.length),(108,aB 4 1)] 0 0 1 SG ?_
     refine tm 1 none [] aW (aa M).au U.ah 0 1 0 [ao (U.op==3)] 0 (U.op==3) (by simpa using SG.2) ?_
     refine dX [] ?_
     refine cn.normal ?_
     exact gX.normal ((List.map ad.ac (aa M).O),((aa M).au.set U.ah.toNat (U.op==3)),(aa M).an,(List.range (aa M).O.length),0,(aa M).O) h (hB (s':=⟨(bf 200 [(3,aB 3 0),(4,aB 4 0),(6,aB 6 0),(7,aB 7 0),(8,ag 0)]),[(7,(bS false M)),(6,[ag 0,ao false,aH,aH,aH]),(4,[ao (aa M).ok,ak 0 0 (aa M).au.length,ak 1 0 (aa M).an.length,ak 2 0 (aa M).O.length]),(3,(bq false J))],(⟨0,1,List.map aW ((aa M).au.set U.ah.toNat (U.op==3))⟩::⟨0,2,List.map a5 (aa M).an⟩::⟨0,5,aZ 3 (aa M).O (List.range (aa M).O.length)⟩::List.map bi (List.map ad.ac (aa M).O))⟩) (dE (n:=200) (A':=[(3,aB 3 0),(4,aB 4 0),(6,aB 6 0),(7,aB 7 0),(8,ag 0)]) (L':=[(7,(bS false M)),(6,[ag 0,ao false,aH,aH,aH]),(4,[ao (aa M).ok,ak 0 0 (aa M).au.length,ak 1 0 (aa M).an.length,ak 2 0 (aa M).O.length]),(3,(bq false J))]) [5]) (congrArg (fun z=>(⟨(bf 200 [(3,aB 3 0),(4,aB 4 0),(6,aB 6 0),(7,aB 7 0),(8,ag 0)]),[(7,(bS false M)),(6,[ag 0,ao false,aH,aH,aH]),(4,[ao (aa M).ok,ak 0 0 z,ak 1 0 (aa M).an.length,ak 2 0 (aa M).O.length]),(3,(bq false J))],(⟨0,1,List.map aW ((aa M).au.set U.ah.toNat (U.op==3))⟩::⟨0,2,List.map a5 (aa M).an⟩::⟨0,5,aZ 3 (aa M).O (List.range (aa M).O.length)⟩::List.map bi (List.map ad.ac (aa M).O))⟩:St)) (show(aa M).au.length=((aa M).au.set U.ah.toNat (U.op==3)).length by simp)))
    ·
     replace h:=h.2 ol
     refine ev [] 24 [(116,ao (U.op==5)),(117,ao (U.op==5))] [1] [0,1,7] ?_
     refine dJ (fun nx=> ?_) (fun nx=> ?_)
     ·
      replace h:=h.1 nx
      refine bJ [] 25 ?_
      obtain⟨SH,h⟩:=h
      refine lB 7 (some 124) [(123,ag U.bk),(122,aB 5 2),(121,ag U.ah),(120,aB 5 1),(119,ak 1 0 (aa M).an.length),(118,aB 4 2)] 1 0 2 SH ?_
      refine tm 2 none [(125,.ptr 1 0 (0+U.ah.toNat) 1)] a5 (aa M).an U.ah 1 1 0 [ag U.bk] 1 (bd.mk (nth (aa M).an U.ah).cC U.bk) (by simpa using SH.2) ?_
      refine dX [] ?_
      refine cn.normal ?_
      exact gX.normal ((List.map ad.ac (aa M).O),(aa M).au,((aa M).an.set U.ah.toNat (bd.mk (nth (aa M).an U.ah).cC U.bk)),(List.range (aa M).O.length),0,(aa M).O) h (hB (s':=⟨(bf 200 [(3,aB 3 0),(4,aB 4 0),(6,aB 6 0),(7,aB 7 0),(8,ag 0)]),[(7,(bS false M)),(6,[ag 0,ao false,aH,aH,aH]),(4,[ao (aa M).ok,ak 0 0 (aa M).au.length,ak 1 0 (aa M).an.length,ak 2 0 (aa M).O.length]),(3,(bq false J))],(⟨0,1,List.map aW (aa M).au⟩::⟨0,2,List.map a5 ((aa M).an.set U.ah.toNat (bd.mk (nth (aa M).an U.ah).cC U.bk))⟩::⟨0,5,aZ 3 (aa M).O (List.range (aa M).O.length)⟩::List.map bi (List.map ad.ac (aa M).O))⟩) (dE (n:=200) (A':=[(3,aB 3 0),(4,aB 4 0),(6,aB 6 0),(7,aB 7 0),(8,ag 0)]) (L':=[(7,(bS false M)),(6,[ag 0,ao false,aH,aH,aH]),(4,[ao (aa M).ok,ak 0 0 (aa M).au.length,ak 1 0 (aa M).an.length,ak 2 0 (aa M).O.length]),(3,(bq false J))]) [5]) (congrArg (fun z=>(⟨(bf 200 [(3,aB 3 0),(4,aB 4 0),(6,aB 6 0),(7,aB 7 0),(8,ag 0)]),[(7,(bS false M)),(6,[ag 0,ao false,aH,aH,aH]),(4,[ao (aa M).ok,ak 0 0 (aa M).au.length,ak 1 0 z,ak 2 0 (aa M).O.length]),(3,(bq false J))],(⟨0,1,List.map aW (aa M).au⟩::⟨0,2,List.map a5 ((aa M).an.set U.ah.toNat (bd.mk (nth (aa M).an U.ah).cC U.bk))⟩::⟨0,5,aZ 3 (aa M).O (List.range (aa M).O.length)⟩::List.map bi (List.map ad.ac (aa M).O))⟩:St)) (show(aa M).an.length=((aa M).an.set U.ah.toNat (bd.mk (nth (aa M).an U.ah).cC U.bk)).length by simp)))
     ·
      replace h:=h.2 nx
      refine ev [] 26 [(126,ao (U.op==6)),(127,ao (U.op==6))] [1] [0,1,7] ?_
      unfold FG at h
      refine dJ (fun kP=> ?_) (fun kP=> ?_)
      ·
       replace h:=h.1 kP
       refine fw 4 ?_
       obtain⟨tf,h⟩:=h
       refine cB [(136,ao (decide (((gz J (Frame.mk (aa M).ok (aa M).au (aa M).an (view (aa M).O (List.range (aa M).O.length) (List.map ad.ac (aa M).O))) U.ah).length:Int)>0)))] [0,2,6] ((gz J (Frame.mk (aa M).ok (aa M).au (aa M).an (view (aa M).O (List.range (aa M).O.length) (List.map ad.ac (aa M).O))) U.ah).length≤4611686018427387904) ?_ (fun Cn=> ?_)
       ·
        replace h:=tf
        refine bJ [] 28 ?_
        obtain⟨pR,r9,tb,zw⟩:=h
        refine mu 5 (some 141) [(140,ag U.ah),(139,aB 5 1),(138,.agg [ao (aa M).ok,ak 0 0 (aa M).au.length,ak 1 0 (aa M).an.length,ak 2 0 (aa M).O.length]),(137,.agg (bq false J))] [.agg (bq false J),.agg [ao (aa M).ok,ak 0 0 (aa M).au.length,ak 1 0 (aa M).an.length,ak 2 0 (aa M).O.length],ag U.ah] (M3 J (Frame.mk (aa M).ok (aa M).au (aa M).an (view (aa M).O (List.range (aa M).O.length) (List.map ad.ac (aa M).O))) U.ah zw) (aE.cons (dc.agg (aE.cons (.int _ _) (aE.cons cW (aE.cons cW (aE.cons cW (aE.cons (.int _ _) aE.nil)))))) (aE.cons (dc.agg (aE.cons (.bool _) (aE.cons (m5 (sz:=1) (by simp) rfl (sT) pR) (aE.cons (m5 (sz:=2) (by simp) rfl (uy) r9) (aE.cons (tn (s:=3) (ws:=(aa M).O) (ids:=(List.range (aa M).O.length)) (bs:=(List.map ad.ac (aa M).O)) (by simp) rfl (fun id k h=>by simpa using h) tb.1 tb.2.1 tb.2.2) aE.nil))))) (aE.cons (dc.ia (.int _ _)) aE.nil))) ?_
        refine sLen 1 (some 142) [] db (gz J (Frame.mk (aa M).ok (aa M).au (aa M).an (view (aa M).O (List.range (aa M).O.length) (List.map ad.ac (aa M).O))) U.ah) (fun xl=> ?_)
        exact b1 [(136,ao (decide (((gz J (Frame.mk (aa M).ok (aa M).au (aa M).an (view (aa M).O (List.range (aa M).O.length) (List.map ad.ac (aa M).O))) U.ah).length:Int)>0))),(143,ao (decide (((gz J (Frame.mk (aa M).ok (aa M).au (aa M).an (view (aa M).O (List.range (aa M).O.length) (List.map ad.ac (aa M).O))) U.ah).length:Int)>0)))] xl
       replace h:=h Cn
       unfold FQ at h
       refine dJ (fun r_=> ?_) (fun r_=> ?_)
       ·
        replace h:=h.1 r_
        refine bJ [] 29 ?_
        refine dX [(8,ag 2)] ?_
        refine cn.normal ?_
        refine cn.normal ?_
        exact gX.normal ((List.map ad.ac (aa M).O),(aa M).au,(aa M).an,(List.range (aa M).O.length),2,(aa M).O) h (dE [5])
       ·
        replace h:=h.2 r_
        obtain⟨te,h⟩:=h
        refine cB [(144,ao (nth (aa M).au (nth J.be U.ah)))] [0,1,6] (True) ?_ (fun tc=> ?_)
        ·
         replace h:=te
         refine ny [] 30 Yy Yz [] ?_
         obtain⟨qP,h⟩:=h
         refine sh 7 (some 151) [(150,ag U.ah),(149,aB 5 1),(148,bE db J.be),(147,aB 3 1),(146,ak 0 0 (aa M).au.length),(145,aB 4 1)] db J.be 1 qP ?_
         have SK:=h
         refine vj 2 (some 153) [(152,ag (nth J.be U.ah))] 0 0 1 SK ?_
         refine xH 1 (some 154) [] aW (aa M).au (nth J.be U.ah) 4 0 0 (ao (nth (aa M).au (nth J.be U.ah))) (by simpa using SK.2) ?_
         exact kR [(144,ao (nth (aa M).au (nth J.be U.ah)))] trivial
        unfold FP at h
        refine dJ (fun td=> ?_) (fun td=> ?_)
        ·
         replace h:=h.1 td
         refine bJ [] 31 ?_
         refine dX [(8,ag 3)] ?_
         refine cn.normal ?_
         refine cn.normal ?_
         exact gX.normal ((List.map ad.ac (aa M).O),(aa M).au,(aa M).an,(List.range (aa M).O.length),3,(aa M).O) h (dE [5])
        ·
         replace h:=h.2 td
         refine bJ [] 27 ?_
         obtain⟨SI,h⟩:=h
         refine lB 7 (some 134) [(133,ag U.bk),(132,aB 5 2),(131,ag U.ah),(130,aB 5 1),(129,ak 1 0 (aa M).an.length),(128,aB 4 2)] 1 0 2 SI ?_
         refine tm 2 none [(135,.ptr 1 0 (0+U.ah.toNat) 0)] a5 (aa M).an U.ah 0 1 0 [ag U.bk] 1 (bd.mk U.bk (nth (aa M).an U.ah).a2) (by simpa using SI.2) ?_
         refine dX [] ?_
         refine cn.normal ?_
         refine cn.normal ?_
         exact gX.normal ((List.map ad.ac (aa M).O),(aa M).au,((aa M).an.set U.ah.toNat (bd.mk U.bk (nth (aa M).an U.ah).a2)),(List.range (aa M).O.length),0,(aa M).O) h (hB (s':=⟨(bf 200 [(3,aB 3 0),(4,aB 4 0),(6,aB 6 0),(7,aB 7 0),(8,ag 0)]),[(7,(bS false M)),(6,[ag 0,ao false,aH,aH,aH]),(4,[ao (aa M).ok,ak 0 0 (aa M).au.length,ak 1 0 (aa M).an.length,ak 2 0 (aa M).O.length]),(3,(bq false J))],(⟨0,1,List.map aW (aa M).au⟩::⟨0,2,List.map a5 ((aa M).an.set U.ah.toNat (bd.mk U.bk (nth (aa M).an U.ah).a2))⟩::⟨0,5,aZ 3 (aa M).O (List.range (aa M).O.length)⟩::List.map bi (List.map ad.ac (aa M).O))⟩) (dE (n:=200) (A':=[(3,aB 3 0),(4,aB 4 0),(6,aB 6 0),(7,aB 7 0),(8,ag 0)]) (L':=[(7,(bS false M)),(6,[ag 0,ao false,aH,aH,aH]),(4,[ao (aa M).ok,ak 0 0 (aa M).au.length,ak 1 0 (aa M).an.length,ak 2 0 (aa M).O.length]),(3,(bq false J))]) [5]) (congrArg (fun z=>(⟨(bf 200 [(3,aB 3 0),(4,aB 4 0),(6,aB 6 0),(7,aB 7 0),(8,ag 0)]),[(7,(bS false M)),(6,[ag 0,ao false,aH,aH,aH]),(4,[ao (aa M).ok,ak 0 0 (aa M).au.length,ak 1 0 z,ak 2 0 (aa M).O.length]),(3,(bq false J))],(⟨0,1,List.map aW (aa M).au⟩::⟨0,2,List.map a5 ((aa M).an.set U.ah.toNat (bd.mk U.bk (nth (aa M).an U.ah).a2))⟩::⟨0,5,aZ 3 (aa M).O (List.range (aa M).O.length)⟩::List.map bi (List.map ad.ac (aa M).O))⟩:St)) (show(aa M).an.length=((aa M).an.set U.ah.toNat (bd.mk U.bk (nth (aa M).an U.ah).a2)).length by simp)))
      ·
       replace h:=h.2 kP
       refine ev [] 32 [(155,ao (U.op==7)),(156,ao (U.op==7))] [1] [0,2,3,1,2] ?_
       refine dJ (fun m3=> ?_) (fun m3=> ?_)
       ·
        replace h:=h.1 m3
        refine ev [] 33 [(160,ag 0),(159,ag ((aa M).O.length:Int)),(158,ak 2 0 (aa M).O.length),(157,aB 4 3)] [2] [0,1,5] ?_
        unfold FF at h
        refine fw 5 ?_
        obtain⟨G_,h⟩:=h
        refine kz (fun(v:List (List Bool)×List Nat×Int×List ad)=>(⟨(bf 200 [(3,aB 3 0),(4,aB 4 0),(6,aB 6 0),(7,aB 7 0),(8,ag 0),(159,ag ((aa M).O.length:Int)),(160,ag (v.2.2.1))]),[(7,(bS false M)),(6,[ag 0,ao false,aH,aH,aH]),(4,[ao (aa M).ok,ak 0 0 (aa M).au.length,ak 1 0 (aa M).an.length,ak 2 0 (v.2.2.2).length]),(3,(bq false J))],(⟨0,1,List.map aW (aa M).au⟩::⟨0,2,List.map a5 (aa M).an⟩::⟨0,5,aZ 3 (v.2.2.2) (v.2.1)⟩::List.map bi (v.1))⟩:St)) (fun(v:List (List Bool)×List Nat×Int×List ad)=>aY (v.1) (v.2.1) (v.2.2.1) (v.2.2.2)) (fun(v:List (List Bool)×List Nat×Int×List ad)=>a0 (v.1) (v.2.1) (v.2.2.1) (v.2.2.2)) ((List.map ad.ac (aa M).O),(List.range (aa M).O.length),0,(aa M).O) (dE [5]) G_ (fun v aX=> ?_)
        obtain⟨b_,aP,a6,ws2⟩:=v
        replace h:=h b_ aP a6 ws2 aX
        dsimp only
        refine ev [] 34 [(161,ao (decide (a6<((aa M).O.length:Int))))] [1] [7] ?_
        obtain⟨G9,h⟩:=h
        refine cB [] [0,1,7] ((decide (a6<((aa M).O.length:Int)))=true) ?_ (fun u1=> ?_)
        ·
         replace h:=G9
         refine dJ (fun tg=> ?_) (fun tg=> ?_)
         ·
          refine ew ?_
          exact ck.normal (by simp only[fB,g7,ol,nx,kP,m3,tg]<;>rfl) eo
         ·
          replace h:=h tg
          refine je 5 ?_
          refine ck.exit ?_
          refine eb.exit ?_
          refine cn.here ?_
          refine cn.normal ?_
          exact gX.normal (b_,(aa M).au,(aa M).an,aP,0,ws2) h (dE [])
        replace h:=h u1
        unfold FE at h
        obtain⟨G8,h⟩:=h
        obtain⟨p2,sa⟩: ∃w:List ad,(bif ((nth ws2 a6).aq==3) then(bif ((nth (ws2.set a6.toNat (ad.mk (nth ws2 a6).aq (nth ws2 a6).af (nth ws2 a6).ac (nth ws2 a6).ap (IntKind.i64.wrap ((nth ws2 a6).ar - 1)))) a6).ar==0) then((ws2.set a6.toNat (ad.mk (nth ws2 a6).aq (nth ws2 a6).af (nth ws2 a6).ac (nth ws2 a6).ap (IntKind.i64.wrap ((nth ws2 a6).ar - 1)))).set a6.toNat (ad.mk (bQ J a6).aq (bQ J a6).af (bQ J a6).ac (bQ J a6).ap (bQ J a6).ar)) else(ws2.set a6.toNat (ad.mk (nth ws2 a6).aq (nth ws2 a6).af (nth ws2 a6).ac (nth ws2 a6).ap (IntKind.i64.wrap ((nth ws2 a6).ar - 1))))) else ws2)=w:=⟨_,rfl⟩
        obtain⟨si,pS⟩: ∃w:List Nat,(bif ((nth ws2 a6).aq==3) then(bif ((nth (ws2.set a6.toNat (ad.mk (nth ws2 a6).aq (nth ws2 a6).af (nth ws2 a6).ac (nth ws2 a6).ap (IntKind.i64.wrap ((nth ws2 a6).ar - 1)))) a6).ar==0) then(aP.set a6.toNat b_.length) else aP) else aP)=w:=⟨_,rfl⟩
        obtain⟨sj,xn⟩: ∃w:List (List Bool),(bif ((nth ws2 a6).aq==3) then(bif ((nth (ws2.set a6.toNat (ad.mk (nth ws2 a6).aq (nth ws2 a6).af (nth ws2 a6).ac (nth ws2 a6).ap (IntKind.i64.wrap ((nth ws2 a6).ar - 1)))) a6).ar==0) then(b_++[(bQ J a6).ac]) else b_) else b_)=w:=⟨_,rfl⟩
        refine e0 [] [7] id (fun _=>(⟨0,1,List.map aW (aa M).au⟩::⟨0,2,List.map a5 (aa M).an⟩::⟨0,5,aZ 3 p2 si⟩::List.map bi sj)) (True) ?_ (fun Co=> ?_)
        ·
         replace h:=G8
         refine fw 6 ?_
         refine ev [] 35 [(12,ag a6),(162,ag a6)] [1] [7] ?_
         obtain⟨G7,h⟩:=h
         refine cB [(13,.ptr 2 0 (0+a6.toNat) 0)] [8] (True) ?_ (fun aa7=> ?_)
         ·
          replace h:=G7
          refine bJ [] 36 ?_
          have afz:=h
          refine lB 4 (some 166) [(165,ag a6),(164,ak 2 0 ws2.length),(163,aB 4 3)] 2 0 5 afz ?_
          exact b1 [(13,.ptr 2 0 (0+a6.toNat) 0)] trivial
         obtain⟨G6,h⟩:=h
         refine cB [(171,ao ((nth ws2 a6).aq==3))] [9] (True) ?_ (fun aga=> ?_)
         ·
          replace h:=G6
          refine bJ [] 37 ?_
          have xo:=h
          refine iF 4 (some 170) [(169,.ptr 2 0 (0+a6.toNat) 0),(168,.ptr 2 0 (0+a6.toNat) 0),(167,.ptr 2 0 (0+a6.toNat) 0)] (aZ 3 ws2 aP) a6 3 0 0 (ag (nth ws2 a6).aq) (dL xo.1 xo.2) ?_
          exact b1 [(171,ao ((nth ws2 a6).aq==3))] trivial
         refine dJ (fun zy=> ?_) (fun zy=> ?_)
         ·
          replace h:=h zy
          obtain⟨Cm,h⟩:=h
          refine e0 [] [0,1,9] id (fun H=>ep 2 ⟨0,5,aZ 3 (ws2.set a6.toNat (ad.mk (nth ws2 a6).aq (nth ws2 a6).af (nth ws2 a6).ac (nth ws2 a6).ap (IntKind.i64.wrap ((nth ws2 a6).ar - 1)))) aP⟩ H) (True) ?_ (fun O6=> ?_)
          ·
           replace h:=Cm
           refine bJ [] 38 ?_
           obtain⟨Cp,h⟩:=h
           refine iF 4 (some 175) [(174,.ptr 2 0 (0+a6.toNat) 4),(173,.ptr 2 0 (0+a6.toNat) 0),(172,.ptr 2 0 (0+a6.toNat) 0)] (aZ 3 ws2 aP) a6 3 4 0 (ag (nth ws2 a6).ar) (dL Cp.1 Cp.2) ?_
           have qQ:=h
           refine j3 4 none [(178,.ptr 2 0 (0+a6.toNat) 4),(177,.ptr 2 0 (0+a6.toNat) 0),(176,ag (IntKind.i64.wrap ((nth ws2 a6).ar - 1)))] (aZ 3 ws2 aP) a6 4 1 0 [ag (IntKind.i64.wrap ((nth ws2 a6).ar - 1))] 2 (aZ 3 (ws2.set a6.toNat (ad.mk (nth ws2 a6).aq (nth ws2 a6).af (nth ws2 a6).ac (nth ws2 a6).ap (IntKind.i64.wrap ((nth ws2 a6).ar - 1)))) aP) (dL qQ.1 qQ.2) (ke qQ.1 qQ.2) ?_
           exact b1 [] trivial
          unfold FS at h
          obtain⟨Cl,h⟩:=h
          refine cB [(183,ao ((nth (ws2.set a6.toNat (ad.mk (nth ws2 a6).aq (nth ws2 a6).af (nth ws2 a6).ac (nth ws2 a6).ap (IntKind.i64.wrap ((nth ws2 a6).ar - 1)))) a6).ar==0))] [9] (True) ?_ (fun G4=> ?_)
          ·
           replace h:=Cl
           refine bJ [] 39 ?_
           have Ck:=h
           refine iF 4 (some 182) [(181,.ptr 2 0 (0+a6.toNat) 4),(180,.ptr 2 0 (0+a6.toNat) 0),(179,.ptr 2 0 (0+a6.toNat) 0)] (aZ 3 (ws2.set a6.toNat (ad.mk (nth ws2 a6).aq (nth ws2 a6).af (nth ws2 a6).ac (nth ws2 a6).ap (IntKind.i64.wrap ((nth ws2 a6).ar - 1)))) aP) a6 3 4 0 (ag (nth (ws2.set a6.toNat (ad.mk (nth ws2 a6).aq (nth ws2 a6).af (nth ws2 a6).ac (nth ws2 a6).ap (IntKind.i64.wrap ((nth ws2 a6).ar - 1)))) a6).ar) (dL Ck.1 Ck.2) ?_
           exact b1 [(183,ao ((nth (ws2.set a6.toNat (ad.mk (nth ws2 a6).aq (nth ws2 a6).af (nth ws2 a6).ac (nth ws2 a6).ap (IntKind.i64.wrap ((nth ws2 a6).ar - 1)))) a6).ar==0))] trivial
          unfold FR at h
          refine dJ (fun u0=> ?_) (fun u0=> ?_)
          ·
           replace h:=h u0
           refine bJ [] 40 ?_
           obtain⟨G5,h⟩:=h
           refine tk 4 (some 187) [(186,ag a6),(185,.agg (bq false J)),(184,.ptr 2 0 (0+a6.toNat) 0)] [.agg (bq false J),ag a6] (.agg [ag (bQ J a6).aq,ag (bQ J a6).af,ak (b_.length+3) 0 (bQ J a6).ac.length,ao (bQ J a6).ap,ag (bQ J a6).ar]) (⟨0,1,List.map aW (aa M).au⟩::⟨0,2,List.map a5 (aa M).an⟩::⟨0,5,aZ 3 (ws2.set a6.toNat (ad.mk (nth ws2 a6).aq (nth ws2 a6).af (nth ws2 a6).ac (nth ws2 a6).ap (IntKind.i64.wrap ((nth ws2 a6).ar - 1)))) aP⟩::List.map bi (b_++[(bQ J a6).ac])) (FV J a6 G5) (aE.cons (dc.agg (aE.cons (.int _ _) (aE.cons cW (aE.cons cW (aE.cons cW (aE.cons (.int _ _) aE.nil)))))) (aE.cons (dc.ia (.int _ _)) aE.nil)) (r5 (fun _=>rfl) rfl) (sf (se (fun _=>rfl) rfl) (by simp only[List.cons_append,List.map_nil,rv])) ?_ (er:=by simp[m6,ot,iW])
           have xj:=h
           refine j3 2 none [(188,.ptr 2 0 (0+a6.toNat) 0)] (aZ 3 (ws2.set a6.toNat (ad.mk (nth ws2 a6).aq (nth ws2 a6).af (nth ws2 a6).ac (nth ws2 a6).ap (IntKind.i64.wrap ((nth ws2 a6).ar - 1)))) aP) a6 0 5 0 [ag (bQ J a6).aq,ag (bQ J a6).af,ak (b_.length+3) 0 (bQ J a6).ac.length,ao (bQ J a6).ap,ag (bQ J a6).ar] 2 (aZ 3 ((ws2.set a6.toNat (ad.mk (nth ws2 a6).aq (nth ws2 a6).af (nth ws2 a6).ac (nth ws2 a6).ap (IntKind.i64.wrap ((nth ws2 a6).ar - 1)))).set a6.toNat (ad.mk (bQ J a6).aq (bQ J a6).af (bQ J a6).ac (bQ J a6).ap (bQ J a6).ar)) (aP.set a6.toNat b_.length)) (dL xj.1 xj.2) (wk xj.1) ?_
           refine dX [] ?_
           refine cn.normal ?_
           exact ck.normal trivial (by simp only[←sa,←pS,←xn,fB,g7,ol,nx,kP,m3,u1,zy,u0,cond_true,cond_false];exact eo)
          ·
           refine ew ?_
           refine cn.normal ?_
           exact ck.normal trivial (by simp only[←sa,←pS,←xn,fB,g7,ol,nx,kP,m3,u1,zy,u0,cond_true,cond_false];exact eo)
         ·
          refine ew ?_
          refine cn.normal ?_
          exact ck.normal trivial (by simp only[←sa,←pS,←xn,fB,g7,ol,nx,kP,m3,u1,zy,cond_true,cond_false];exact eo)
        replace h:=h p2 sa
        have W3:p2.length=ws2.length:=by rw[←sa];repeat' apply y5;all_goals simp
        replace h:=h si pS
        replace h:=h sj xn
        refine bJ [] 41 ?_
        refine dX [(160,ag (IntKind.i64.wrap (a6+1))),(189,ag (IntKind.i64.wrap (a6+1)))] ?_
        exact eb.again (sj,si,(IntKind.i64.wrap (a6+1)),p2) h (hB (s':=⟨(bf 200 [(3,aB 3 0),(4,aB 4 0),(6,aB 6 0),(7,aB 7 0),(8,ag 0),(159,ag ((aa M).O.length:Int)),(160,ag (IntKind.i64.wrap (a6+1)))]),[(7,(bS false M)),(6,[ag 0,ao false,aH,aH,aH]),(4,[ao (aa M).ok,ak 0 0 (aa M).au.length,ak 1 0 (aa M).an.length,ak 2 0 ws2.length]),(3,(bq false J))],(⟨0,1,List.map aW (aa M).au⟩::⟨0,2,List.map a5 (aa M).an⟩::⟨0,5,aZ 3 p2 si⟩::List.map bi sj)⟩) (dE (n:=200) (A':=[(3,aB 3 0),(4,aB 4 0),(6,aB 6 0),(7,aB 7 0),(8,ag 0),(159,ag ((aa M).O.length:Int)),(160,ag (IntKind.i64.wrap (a6+1)))]) (L':=[(7,(bS false M)),(6,[ag 0,ao false,aH,aH,aH]),(4,[ao (aa M).ok,ak 0 0 (aa M).au.length,ak 1 0 (aa M).an.length,ak 2 0 ws2.length]),(3,(bq false J))]) []) (congrArg (fun z=>(⟨(bf 200 [(3,aB 3 0),(4,aB 4 0),(6,aB 6 0),(7,aB 7 0),(8,ag 0),(159,ag ((aa M).O.length:Int)),(160,ag (IntKind.i64.wrap (a6+1)))]),[(7,(bS false M)),(6,[ag 0,ao false,aH,aH,aH]),(4,[ao (aa M).ok,ak 0 0 (aa M).au.length,ak 1 0 (aa M).an.length,ak 2 0 z]),(3,(bq false J))],(⟨0,1,List.map aW (aa M).au⟩::⟨0,2,List.map a5 (aa M).an⟩::⟨0,5,aZ 3 p2 si⟩::List.map bi sj)⟩:St)) (show ws2.length=p2.length by simp[W3])))
       ·
        replace h:=h.2 m3
        refine ew ?_
        refine cn.normal ?_
        exact gX.normal ((List.map ad.ac (aa M).O),(aa M).au,(aa M).an,(List.range (aa M).O.length),0,(aa M).O) h (dE [5])
 obtain⟨b_,a8,aK,aP,c2,ws2⟩:=v
 replace h:=h b_ a8 aK aP c2 ws2 ds
 dsimp only
 unfold FK at h
 obtain⟨aa3,h⟩:=h
 refine cB [] [3] ((!(c2 !=0))=true) ?_ (fun Ha=> ?_)
 ·
  replace h:=aa3
  refine ev [] 42 [(191,ao (c2 !=0)),(190,ag c2)] [1] [5] ?_
  refine dJ (fun zu=> ?_) (fun zu=> ?_)
  ·
   replace h:=h zu
   obtain⟨Hc,h⟩:=h
   refine e0 [] [0,3,1] (fun L=>er 1 [ag c2,ao (aa M).ok,hh aW (aa M).au,hh a5 (aa M).an,hh (cX false) (aa M).O] L) id (True) ?_ (fun O1=> ?_)
   ·
    replace h:=Hc
    refine bJ [] 43 ?_
    have Hb:=h
    refine mu 3 (some 194) [(193,.agg (bS false M)),(192,ag c2)] [.agg (bS false M)] (Yp M Hb) (aE.cons (dc.agg (aE.cons (.bool _) (aE.cons cW (aE.cons cW (aE.cons cW aE.nil))))) aE.nil) ?_
    exact b1 [(195,.agg [ag c2,ao (aa M).ok,hh aW (aa M).au,hh a5 (aa M).an,hh (cX false) (aa M).O])] trivial
   exact hC (ck.ret (nz (.agg [ag c2,ao (aa M).ok,hh aW (aa M).au,hh a5 (aa M).an,hh (cX false) (aa M).O]) (iy.agg (aE.cons (xD h.1) (aE.cons (nD (congrArg (fun q=>q.ok) h.2)) (aE.cons (ve (congrArg (fun q=>q.au) h.2)) (aE.cons (ve (congrArg (fun q=>q.an) h.2)) (aE.cons (ve (congrArg (fun q=>q.O) h.2)) aE.nil))))))))
  ·
   refine ew ?_
   exact ck.normal (by simp only[zu]<;>rfl) eo
 replace h:=h Ha
 obtain⟨aa2,h⟩:=h
 refine e0 [] [0,2,1] (fun L=>er 1 [ag 0,ao (ee J (Frame.mk (aa M).ok a8 aK (view ws2 aP b_))).ok,hh aW (ee J (Frame.mk (aa M).ok a8 aK (view ws2 aP b_))).au,hh a5 (ee J (Frame.mk (aa M).ok a8 aK (view ws2 aP b_))).an,hh (cX false) (ee J (Frame.mk (aa M).ok a8 aK (view ws2 aP b_))).O] L) id (True) ?_ (fun O2=> ?_)
 ·
  replace h:=aa2
  refine bJ [] 44 ?_
  obtain⟨aaZ,aa0,Hd,aa1⟩:=h
  refine mu 3 (some 198) [(197,.agg [ao (aa M).ok,ak 0 0 a8.length,ak 1 0 aK.length,ak 2 0 ws2.length]),(196,.agg (bq false J))] [.agg (bq false J),.agg [ao (aa M).ok,ak 0 0 a8.length,ak 1 0 aK.length,ak 2 0 ws2.length]] (M_ J (Frame.mk (aa M).ok a8 aK (view ws2 aP b_)) aa1) (aE.cons (dc.agg (aE.cons (.int _ _) (aE.cons cW (aE.cons cW (aE.cons cW (aE.cons (.int _ _) aE.nil)))))) (aE.cons (dc.agg (aE.cons (.bool _) (aE.cons (m5 (sz:=1) (by simp) rfl (sT) aaZ) (aE.cons (m5 (sz:=2) (by simp) rfl (uy) aa0) (aE.cons (tn (s:=3) (ws:=ws2) (ids:=aP) (bs:=b_) (by simp) rfl (fun id k h=>by simpa using h) Hd.1 Hd.2.1 Hd.2.2) aE.nil))))) aE.nil)) ?_
  exact b1 [(199,.agg [ag 0,ao (ee J (Frame.mk (aa M).ok a8 aK (view ws2 aP b_))).ok,hh aW (ee J (Frame.mk (aa M).ok a8 aK (view ws2 aP b_))).au,hh a5 (ee J (Frame.mk (aa M).ok a8 aK (view ws2 aP b_))).an,hh (cX false) (ee J (Frame.mk (aa M).ok a8 aK (view ws2 aP b_))).O])] trivial
 exact hC (nz (.agg [ag 0,ao (ee J (Frame.mk (aa M).ok a8 aK (view ws2 aP b_))).ok,hh aW (ee J (Frame.mk (aa M).ok a8 aK (view ws2 aP b_))).au,hh a5 (ee J (Frame.mk (aa M).ok a8 aK (view ws2 aP b_))).an,hh (cX false) (ee J (Frame.mk (aa M).ok a8 aK (view ws2 aP b_))).O]) (iy.agg (aE.cons (xD h.1) (aE.cons (nD (congrArg (fun q=>q.ok) h.2)) (aE.cons (ve (congrArg (fun q=>q.au) h.2)) (aE.cons (ve (congrArg (fun q=>q.an) h.2)) (aE.cons (ve (congrArg (fun q=>q.O) h.2)) aE.nil)))))))
theorem Ys (J:az) (M:Frame) (U:Event) (aG:DO J M U):bX Try.prog 63 [.agg (bq false J),.agg (bS false M),.agg (iN U)] (.agg (rp true (h8 J M U))):=YA J M U (h8 J M U) (fun x v=>cv (bu (nth J.O U.ah)).length (fun _=>false) v∧x=jI ((bu (nth J.O U.ah)).take v.toNat) M.an) (fun _ v=>cG (bu (nth J.O U.ah)).length v) (fun bs is v ws=>cv M.O.length (fun _=>false) v∧gr ws is bs∧view ws is bs=h4 J v.toNat M.O) (fun _ _ v _=>cG M.O.length v) (fun bs o q is c ws=>gr ws is bs∧c=fg J M U∧(c=0→Frame.mk M.ok o q (view ws is bs)=hj J M U)) (by
 unfold FC
 obtain⟨hf,he⟩:=aG
 have hs:=Em hf
 have lZ:=hs
 obtain⟨xS,ox,z9,vv⟩:=lZ
 have cF:=hf.in
 have c_:=hf.fr
 have aL:=c_.O
 have qw:=c_.au
 have kZ:=c_.an
 have yL:=cF.O
 have nn:=cF.cZ
 have wK:=cF.sw
 obtain⟨fq,fV,fC⟩:=v9 M.O
 have lm:gr M.O (List.range M.O.length) (M.O.map ad.ac):=⟨fq,fV,fun b hb=>by
  obtain⟨h,bV,rfl⟩:=List.mem_map.1 hb;exact vv h bV⟩
 have sL:Frame.mk (aa M).ok (aa M).au (aa M).an (view (aa M).O (List.range (aa M).O.length) (List.map ad.ac (aa M).O))=M:=by
  show Frame.mk M.ok M.au M.an (view M.O (List.range M.O.length) (List.map ad.ac M.O))=M
  rw[fC]
 have lq:(aa M).O.length=(List.range (aa M).O.length).length:=by rw[List.length_range]
 have g1:(aa M).au.length≤4611686018427387904∧(aa M).an.length≤4611686018427387904∧(j_ (aa M).O (List.range (aa M).O.length) (List.map ad.ac (aa M).O)∧(aa M).O.length≤4611686018427387904∧(∀x∈(List.map ad.ac (aa M).O),List.length x≤4611686018427387904)):=
  ⟨by show M.au.length≤_;omega,by show M.an.length≤_;omega,fq,by show M.O.length≤_;omega,fun x hx=>by have:=lm.len x hx;omega⟩
 have lY: ∀c:Int,c=fg J M U→c≠0→gr M.O (List.range M.O.length) (M.O.map ad.ac)∧c=fg J M U∧(c=0→Frame.mk M.ok M.au M.an (view M.O (List.range M.O.length) (M.O.map ad.ac))=hj J M U):=fun c hc cm=>⟨lm,hc,fun h=>absurd h cm⟩
 refine⟨hs,?_,fun bs o q is c ws ds=> ?_⟩
 ·unfold FJ
  refine⟨fun h1=> ?_,fun h1=> ?_⟩
  ·have h1:U.op=1:=by simpa using h1
   have bp:=rr he (.inl h1)
   have rI:fg J M U=dI J M U.ah:=by unfold fg;rw[if_pos h1]
   unfold FM
   rw[sL]
   refine⟨⟨g1.1,g1.2.1,g1.2.2,hf,bp.1,bp.2⟩,fun aN=> ?_,fun aN=> ?_⟩
   ·have aN:dI J M U.ah=0:=by simpa using aN
    have bc:U.ah.toNat<M.O.length:=by omega
    refine⟨⟨⟨bp.1,bc⟩,lq,bc⟩,⟨⟨bp.1,by omega⟩,?_⟩,fun hm=>⟨⟨di (dt _),rfl⟩,fun x v aX=> ?_⟩⟩
    ·have:=cF.a2 _ (dC (show U.ah.toNat<J.O.length by omega))
     exact⟨by omega,by omega⟩
    obtain⟨aX,rfl⟩:=aX
    unfold FL FD
    rw[sL]
    refine⟨fun hv=> ?_,fun hv=>⟨⟨ch aX hv,?_⟩,⟨(c0 (cD hm) aX hv rfl).1,?_⟩,(c0 (cD hm) aX hv rfl).2⟩⟩
    ·have dq:=(lm.oE bc).setState 1
     refine⟨dq.G,rI.symm,fun _=> ?_⟩
     have kl: ¬v<((bu (nth J.O U.ah)).length:Int):=by simpa using hv
     have hS:=aX.1
     have jV:=dq.gV
     rw[fC] at jV
     unfold hj
     rw[if_pos h1]
     rw[show view ((aa M).O.set U.ah.toNat (ad.mk 1 (nth (aa M).O U.ah).af (nth (aa M).O U.ah).ac (nth (aa M).O U.ah).ap (nth (aa M).O U.ah).ar)) (List.range (aa M).O.length) (List.map ad.ac (aa M).O)=_ from jV,List.take_of_length_le (by omega)]
     rfl
    ·rw[zN]
     have:=(cF.a2 _ (dC (show U.ah.toNat<J.O.length by omega))).2.2 _ (dC (ch aX hv).2)
     omega
    ·have ca:=ch aX hv
     rw[jM (cD hm) aX.1 (by simpa using hv),show(v+1).toNat=v.toNat+1 by have:=aX.1;omega,PJ ca.2,←gH ca.2]
   ·have aN: ¬dI J M U.ah=0:=by simpa using aN
    exact lY _ rI.symm aN
  have h1: ¬U.op=1:=by simpa using h1
  unfold FI
  refine⟨fun h2=> ?_,fun h2=> ?_⟩
  ·have h2:U.op=2:=by simpa using h2
   have bp:=rr he (.inr h2)
   have bc:U.ah.toNat<M.O.length:=by omega
   have wA:U.ah.toNat<J.O.length:=by omega
   have jU:fg J M U=if(nth M.O U.ah).aq≠1∧(nth M.O U.ah).aq≠2 then 2 else 0:=by unfold fg;rw[if_neg h1,if_pos h2]
   refine⟨⟨bp.1,bc⟩,⟨⟨lq,bc⟩,fun _=>⟨lq,bc⟩⟩,?_⟩
   unfold FO
   rw[sL]
   have oK:(((nth (aa M).O U.ah).aq !=1)&&((nth (aa M).O U.ah).aq !=2))=decide ((nth M.O U.ah).aq≠1∧(nth M.O U.ah).aq≠2):=by
    rw[Bool.eq_iff_iff];simp[aa]
   rw[oK]
   refine⟨fun hc=> ?_,fun hc=>⟨⟨⟨lq,bc⟩,fun _=>⟨⟨bp.1,wA⟩,g1.1,g1.2.1,g1.2.2,fun x hx=> ?_⟩⟩,?_⟩⟩
   ·have hc:=of_decide_eq_true hc
    rw[if_pos hc] at jU
    exact lY 2 jU.symm (by decide)
   ·have:=(cF.cJ _ (dC wA)).2 x hx;omega
   ·have hc:=of_decide_eq_false hc
    rw[if_neg hc] at jU
    have dq:=lm.oE bc
    rw[fC] at dq
    unfold FN
    rw[sL]
    have bg: ∀X:Frame,X=(if((nth M.O U.ah).ap&&gK M (nth J.O U.ah).cJ)=true then{M with O:=M.O.set U.ah.toNat {nth M.O U.ah with aq:=3,ar:=J.dn}} else{M with O:=M.O.set U.ah.toNat (bQ J U.ah)})→X=hj J M U:=fun X Wr=>by
     unfold hj;rw[if_neg h1,if_pos h2];exact Wr
    refine⟨fun aj=>⟨⟨lq,bc⟩,(dq.setState 3).fy,?_⟩,fun aj=>⟨⟨cF,bp.1,bp.2⟩,⟨lq,bc⟩,?_⟩⟩
    ·have gi:=(dq.setState 3).xy J.dn
     refine⟨gi.G,jU.symm,fun _=>bg _ ?_⟩
     have aj:((nth M.O U.ah).ap&&gK M (nth J.O U.ah).cJ)=true:=aj
     rw[if_pos aj]
     have jV:=gi.gV
     exact congrArg (Frame.mk M.ok M.au M.an) jV
    ·have gi:=dq.new (bQ J U.ah) (by
      have:=(cF.ai _ (dC wA)).2.1
      show(List.replicate _ _).length≤_
      rw[List.length_replicate];omega)
     have Jr:dl M.O ((List.range (aa M).O.length).set U.ah.toNat (List.map ad.ac (aa M).O).length) U.ah (bQ J U.ah) ((aa M).O.set U.ah.toNat (ad.mk (bQ J U.ah).aq (bQ J U.ah).af (bQ J U.ah).ac (bQ J U.ah).ap (bQ J U.ah).ar)) ((List.map ad.ac (aa M).O)++[(bQ J U.ah).ac]):=gi
     refine⟨Jr.G,jU.symm,fun _=>bg _ ?_⟩
     have aj: ¬((nth M.O U.ah).ap&&gK M (nth J.O U.ah).cJ)=true:=by
      have aj:((nth M.O U.ah).ap&&gK M (nth J.O U.ah).cJ)=false:=aj
      rw[aj];simp
     rw[if_neg aj,Jr.gV];rfl
  have h2: ¬U.op=2:=by simpa using h2
  have ok: ∀(o:List Bool) (q:List bd),fg J M U=0→hj J M U={M with au:=o,an:=q}→gr M.O (List.range M.O.length) (M.O.map ad.ac)∧0=fg J M U∧((0:Int)=0→Frame.mk M.ok o q (view M.O (List.range M.O.length) (M.O.map ad.ac))=hj J M U):=fun o q hc bg=>⟨lm,hc.symm,fun _=>by rw[fC,bg]⟩
  unfold FH
  rw[zj]
  refine⟨fun aO=> ?_,fun aO=> ?_⟩
  ·have aO:=of_decide_eq_true aO
   have bp:=Ea he aO
   refine⟨⟨bp.1,by show U.ah.toNat<M.au.length;omega⟩,ok _ _ ?_ ?_⟩
   ·unfold fg;rw[if_neg h1,if_neg h2,if_neg (by omega)]
   ·unfold hj;rw[if_neg h1,if_neg h2,if_pos aO];rfl
  have aO:=of_decide_eq_false aO
  refine⟨fun cb=> ?_,fun cb=> ?_⟩
  ·have cb:U.op=5:=by simpa using cb
   have bp:=v7 he (.inl cb)
   refine⟨⟨bp.1,by show U.ah.toNat<M.an.length;omega⟩,ok _ _ ?_ ?_⟩
   ·unfold fg;rw[if_neg h1,if_neg h2,if_neg (by omega)]
   ·unfold hj;rw[if_neg h1,if_neg h2,if_neg aO,if_pos cb];rfl
  have cb: ¬U.op=5:=by simpa using cb
  unfold FG
  refine⟨fun cE=> ?_,fun cE=>⟨fun gF=> ?_,fun gF=> ?_⟩⟩
  ·have cE:U.op=6:=by simpa using cE
   have bp:=v7 he (.inr cE)
   have jU:fg J M U=if iR J M U.ah=true then 2 else if km J M U.ah=true then 3 else 0:=by unfold fg;rw[if_neg h1,if_neg h2,if_pos cE]
   rw[sL]
   refine⟨⟨g1.1,g1.2.1,g1.2.2,hf,bp.1,bp.2⟩,fun _=> ?_⟩
   unfold FQ FP
   rw[sL]
   have Fg:=cF.be _ (dC (show U.ah.toNat<J.be.length by omega))
   refine⟨fun hc=> ?_,fun hc=>⟨⟨⟨bp.1,by omega⟩,Fg.1,by show _<M.au.length;omega⟩,fun aC=> ?_,fun aC=>⟨⟨bp.1,by show _<M.an.length;omega⟩,ok _ _ ?_ ?_⟩⟩⟩
   ·rw[if_pos (show iR J M U.ah=true from hc)] at jU
    exact lY 2 jU.symm (by decide)
   ·rw[if_neg (show ¬iR J M U.ah=true by rw[show iR J M U.ah=false from hc];simp),if_pos (show km J M U.ah=true from aC)] at jU
    exact lY 3 jU.symm (by decide)
   ·rw[if_neg (show ¬iR J M U.ah=true by rw[show iR J M U.ah=false from hc];simp),if_neg (show ¬km J M U.ah=true by rw[show km J M U.ah=false from aC];simp)] at jU
    exact jU
   ·unfold hj;rw[if_neg h1,if_neg h2,if_neg aO,if_neg cb,if_pos cE];rfl
  ·have gF:U.op=7:=by simpa using gF
   unfold FF
   refine⟨⟨di (dt _),lm,fC⟩,fun bs is v ws aX=> ?_⟩
   obtain⟨aX,G,jV⟩:=aX
   have yX:ws.length=M.O.length:=by rw[←ja G.ok,jV,zZ]
   refine⟨fun hv=>⟨G,?_,fun _=> ?_⟩,fun hv=> ?_⟩
   ·unfold fg;rw[if_neg h1,if_neg h2,if_neg (by omega)]
   ·have kl: ¬v<(M.O.length:Int):=by
     have hv:decide (v<(M.O.length:Int))=false:=hv
     simpa using hv
    have a4:=aX.1
    have hb:=aX.2.1
    rw[jV,show v.toNat=M.O.length by omega]
    unfold hj;rw[if_neg h1,if_neg h2,if_neg aO,if_neg cb,if_neg (by omega),if_pos gF];rfl
   ·have ca:=ch aX hv
    have bc:v.toNat<ws.length:=by omega
    have wA:v.toNat<J.O.length:=by omega
    have dq:dl (h4 J v.toNat M.O) is v (nth (h4 J v.toNat M.O) v) ws bs:=dl.start G.ok G.kM bc jV G.len
    have bj:=c0 (by omega) aX hv rfl
    have qy:=jM (show(M.O.length:Int)≤4611686018427387904 by omega) aX.1 (by
     have hv:decide (v<(M.O.length:Int))=true:=hv
     simpa using hv)
    have ul:yZ J v:=⟨cF,ca.1,by omega⟩
    have wx:(bQ J v).ac.length≤1048576:=by
     have:=(cF.ai _ (dC wA)).2.1
     show(List.replicate _ _).length≤_
     rw[List.length_replicate];omega
    have eA:=dq.xy (IntKind.i64.wrap ((nth ws v).ar - 1))
    have fin: ∀{dd:List Nat} {ku:List ad} {me:List (List Bool)} {x:ad},dl (h4 J v.toNat M.O) dd v x ku me→x=lE J v.toNat (nth (h4 J v.toNat M.O) v)→(cv M.O.length (fun _=>false) (IntKind.i64.wrap (v+1))∧gr ku dd me∧view ku dd me=h4 J (IntKind.i64.wrap (v+1)).toNat M.O)∧cG M.O.length (IntKind.i64.wrap (v+1))<cG M.O.length v:=fun F hx=>by
     refine⟨⟨bj.1,F.G,?_⟩,bj.2⟩
     rw[F.gV,hx,qy,show(v+1).toNat=v.toNat+1 by omega]
     show _=(h4 J v.toNat M.O).set v.toNat (lE J v.toNat (nth (h4 J v.toNat M.O) (v.toNat:Int)))
     rw[iU ca.1]
    unfold FE FS FR
    refine⟨⟨⟨ca.1,bc⟩,dq.fy,fun _=>⟨⟨dq.fy,dq.fy⟩,eA.fy,fun _=>⟨ul,eA.fy⟩⟩⟩,fun w hw i hi b hb=> ?_⟩
    have bp:(nth (ws.set v.toNat (ad.mk (nth ws v).aq (nth ws v).af (nth ws v).ac (nth ws v).ap (IntKind.i64.wrap ((nth ws v).ar - 1)))) v).ar=IntKind.i64.wrap ((nth ws v).ar - 1):=eA.ar
    rw[bp,dq.aq,dq.ar] at hw hi hb
    rw[dq.ar,dq.aq] at eA
    have EW:bQ J (v.toNat:Int)=bQ J v:=by rw[Int.toNat_of_nonneg ca.1]
    cases aO:((nth (h4 J v.toNat M.O) v).aq==3) with
    | false=>
     rw[aO] at hw hi hb
     subst hw;subst hi;subst hb
     refine fin dq ?_
     unfold lE;rw[if_neg (by simpa using aO)]
    | true=>
     rw[aO] at hw hi hb
     cases aT:(IntKind.i64.wrap ((nth (h4 J v.toNat M.O) v).ar - 1)==0) with
     | false=>
      rw[aT] at hw hi hb
      subst hw;subst hi;subst hb
      refine fin eA ?_
      unfold lE;rw[if_pos (by simpa using aO),if_neg (by simpa using aT)]
     | true=>
      rw[aT] at hw hi hb
      subst hw;subst hi;subst hb
      refine fin (eA.new (bQ J v) wx) ?_
      unfold lE;rw[if_pos (by simpa using aO),if_pos (by simpa using aT),EW]
  ·have gF: ¬U.op=7:=by simpa using gF
   refine ok _ _ ?_ ?_
   ·unfold fg;rw[if_neg h1,if_neg h2,if_neg (by simpa using cE)]
   ·unfold hj;rw[if_neg h1,if_neg h2,if_neg aO,if_neg cb,if_neg (by simpa using cE),if_neg gF];rfl
 ·obtain⟨G,hc,bg⟩:=ds
  unfold FK
  refine⟨fun aN=>⟨hs,?_⟩,fun aN=> ?_⟩
  ·have aN: ¬c=0:=by simpa using aN
   unfold h8;rw[if_pos (by rw[←hc];exact aN)]
   exact⟨hc,rfl⟩
  ·have aN:c=0:=by simpa using aN
   have ca:=DN c_ (rr he)
   rw[←bg aN] at ca
   have aC:=ca.au
   have aj:=ca.an
   have hw:=ca.O
   have XK:(view ws is bs).length=J.O.length:=hw
   rw[ja G.ok] at XK
   replace aC:(o.length:Int)=J.ai:=aC
   replace aj:q.length=J.be.length:=aj
   refine⟨⟨by omega,by omega,⟨G.ok,by omega,fun x hx=>by have:=G.len x hx;omega⟩,cF,ca⟩,?_⟩
   unfold h8;rw[if_neg (by rw[←hc,aN];simp)]
   exact⟨rfl,by rw[←bg aN];rfl⟩)
def Yt:dY Try.prog:=⟨63,[.c8,.frame,.fE],[.done],some fun x=>DO x.1 x.2.1 x.2.2.1,fun x=>((h8 x.1 x.2.1 x.2.2.1),()),fun x h=>Ys x.1 x.2.1 x.2.2.1 h⟩
noncomputable def HR:Code:=iz Try.f32
def acD:List Item:=[av 0,av 1,av 2,av 3,av 4,⟨5,true,false,[0,1]⟩,av 6,⟨7,true,false,[0,1]⟩,⟨8,true,false,[]⟩,av 9,⟨10,true,false,[]⟩]
def acE:List (List Nat):=[[],[0],[],[2],[2,3],[2,3,4],rg 2 6,rg 2 7,rg 0 8,rg 0 9,rg 0 10]
abbrev nH (r:Type):Type:=Nat→(List bd)→Int→List (List Bool)→Nat→Nat→List Nat→Int→List ad→r
def HM (aY:nH Prop) (a0:nH Nat) (J:az) (a3:Nat) (aK:(List bd)) (eO:Int) (aV:List (List Bool)) (a1 bP:Nat) (aP:List Nat) (bM:Int) (ws2:List ad):Prop:=
  aY a3 aK eO (aV++[(List.replicate ((nth J.O bM).ai.length:Int).toNat false)]) (a1+1) (bP+1) (aP++[aV.length]) (IntKind.i64.wrap (bM+1)) (ws2++[(ad.mk 0 0 (List.replicate ((nth J.O bM).ai.length:Int).toNat false) false 0)])∧a0 a3 aK eO (aV++[(List.replicate ((nth J.O bM).ai.length:Int).toNat false)]) (a1+1) (bP+1) (aP++[aV.length]) (IntKind.i64.wrap (bM+1)) (ws2++[(ad.mk 0 0 (List.replicate ((nth J.O bM).ai.length:Int).toNat false) false 0)])<a0 a3 aK eO aV a1 bP aP bM ws2
def HN (aY:nH Prop) (a0:nH Nat) (J:az) (a3:Nat) (aK:(List bd)) (eO:Int) (aV:List (List Bool)) (a1 bP:Nat) (aP:List Nat) (bM:Int) (ws2:List ad):Prop:=
  ((0≤bM∧bM.toNat<J.O.length)∧((0≤((nth J.O bM).ai.length:Int)∧1*((nth J.O bM).ai.length:Int)≤140737488355328∧((nth J.O bM).ai.length:Int)≤4611686018427387904)∧(ws2.length=aP.length∧((ws2.length+1)*56≤140737488355328∧ws2.length+1≤4611686018427387904))))∧(HM aY a0 J a3 aK eO aV a1 bP aP bM ws2)
def HO (aY:nH Prop) (a0:nH Nat) (J:az) (al:Frame) (a3:Nat) (aK:(List bd)) (eO:Int) (aV:List (List Bool)) (a1 bP:Nat) (aP:List Nat) (bM:Int) (ws2:List ad):Prop:=
  ((decide (bM<(J.O.length:Int)))=false→(true=al.ok)∧((List.replicate J.ai.toNat false).length≤4611686018427387904∧(List.replicate J.ai.toNat false)=al.au)∧(aK.length≤4611686018427387904∧aK=al.an)∧(j_ ws2 aP aV∧ws2.length≤4611686018427387904∧(∀x∈aV,List.length x≤4611686018427387904)∧view ws2 aP aV=al.O))∧((decide (bM<(J.O.length:Int)))=true→HN aY a0 J a3 aK eO aV a1 bP aP bM ws2)
abbrev tu (r:Type):Type:=Nat→(List bd)→Int→r
def HP (ay:tu Prop) (aA:tu Nat) (aY:nH Prop) (a0:nH Nat) (J:az) (al:Frame) (a3:Nat) (aK:(List bd)) (eO:Int):Prop:=
  ((decide (eO<(J.be.length:Int)))=false→J.O.length≤4611686018427387904→aY a3 aK eO ([]:List (List Bool)) 0 0 ([]:List Nat) 0 ([]:List ad)∧ ∀(aV:List (List Bool)) (a1:Nat) (bP:Nat) (aP:List Nat) (bM:Int) (ws2:List ad),aY a3 aK eO aV a1 bP aP bM ws2→(HO aY a0 J al a3 aK eO aV a1 bP aP bM ws2))∧((decide (eO<(J.be.length:Int)))=true→((aK.length+[(bd.mk 1 1)].length)*16≤140737488355328∧aK.length+[(bd.mk 1 1)].length≤4611686018427387904)∧(ay (a3+1) (aK++[(bd.mk 1 1)]) (IntKind.i64.wrap (eO+1))∧aA (a3+1) (aK++[(bd.mk 1 1)]) (IntKind.i64.wrap (eO+1))<aA a3 aK eO))
def HQ (ay:tu Prop) (aA:tu Nat) (aY:nH Prop) (a0:nH Nat) (J:az) (al:Frame):Prop:=
  ((!(ek J))=true→(false=al.ok)∧([]=al.au)∧([]=al.an)∧([]=al.O))∧((!(!(ek J)))=true→(0≤J.ai∧1*J.ai≤140737488355328∧J.ai≤4611686018427387904)∧(J.be.length≤4611686018427387904→ay 0 ([]:List bd) 0∧ ∀(a3:Nat) (aK:(List bd)) (eO:Int),ay a3 aK eO→(HP ay aA aY a0 J al a3 aK eO)))
def HL (J:az) (al:Frame) (ay:tu Prop) (aA:tu Nat) (aY:nH Prop) (a0:nH Nat):Prop:=
 HQ ay aA aY a0 J al
theorem acF (J:az) (al:Frame) (ay:tu Prop) (aA:tu Nat) (aY:nH Prop) (a0:nH Nat) (h:HL J al ay aA aY a0):bX Try.prog 32 [.agg (bq false J)] (.agg (bS true al)):=by
 unfold HL at h
 refine dF.go (fn:=Try.f32) [(0,.agg (bq false J))] Try.func32 (fun _ _=> ?_)
 show WpS _ (bT HR 1) _ ⟨bf 45 [(0,.agg (bq false J))],[],[]⟩
 refine qf [1000003] 0 [(2,aB 2 0),(1,aB 1 0)] [2] [] [(2,[ao false,aH,aH,aH]),(1,(bq false J))] [] ?_
 unfold HQ at h
 obtain⟨k6,h⟩:=h
 refine cB [] [2] ((!(!(ek J)))=true) ?_ (fun q2=> ?_)
 ·
  replace h:=k6
  refine cB [(8,ao (!(ek J)))] [2] (True) ?_ (fun q3=> ?_)
  ·
   refine bJ [1000003] 1 ?_
   refine mu 2 (some 7) [(6,.agg (bq false J))] [.agg (bq false J)] (Ie J) (aE.cons (dc.agg (aE.cons (.int _ _) (aE.cons cW (aE.cons cW (aE.cons cW (aE.cons (.int _ _) aE.nil)))))) aE.nil) ?_
   exact b1 [(8,ao (!(ek J)))] trivial
  refine dJ (fun q4=> ?_) (fun q4=> ?_)
  ·
   replace h:=h q4
   refine ev [1000003] 2 [(9,.agg [ao false,aH,aH,aH])] [] [0,1,1] ?_
   exact hC (ck.ret (nz (.agg [ao false,aH,aH,aH]) (iy.agg (aE.cons (nD h.1) (aE.cons (vf h.2.1) (aE.cons (vf h.2.2.1) (aE.cons (vf h.2.2.2) aE.nil)))))))
  ·
   refine ew ?_
   exact ck.normal (by simp only[q4]<;>rfl) eo
 replace h:=h q2
 obtain⟨k5,h⟩:=h
 refine e0 [(3,aB 3 0)] [2] (fun L=>(3,[ao true,ak 0 0 (List.replicate J.ai.toNat false).length,aH,aH])::L) (fun _=>[⟨0,1,List.map aW (List.replicate J.ai.toNat false)⟩]) (True) ?_ (fun cY=> ?_)
 ·
  replace h:=k5
  refine bJ [1000003] 3 ?_
  have fL:=h
  refine Px 3 (some 12) [(11,ag J.ai),(10,aB 1 0)] aW 1 [ao false] 0 (fun r=>[⟨0,1,r⟩]) false fL ?_
  exact b1 [(3,aB 3 0),(13,.agg [ao true,ak 0 0 (List.replicate J.ai.toNat false).length,aH,aH])] trivial
 refine hP ?_
 refine cB [(16,ag (J.be.length:Int)),(17,ag 0)] [3] (J.be.length≤4611686018427387904) ?_ (fun fB=> ?_)
 ·
  refine bJ [1000003] 4 ?_
  refine sLen 3 (some 16) [(15,bE db J.be),(14,aB 1 1)] db J.be (fun jr=> ?_)
  exact b1 [(17,ag 0)] jr
 replace h:=h fB
 refine fw 0 ?_
 refine WpS.mF ?_ (hB (s'':=⟨(bf 45 [(16,ag (J.be.length:Int)),(17,ag 0),(3,aB 3 0),(2,aB 2 0),(1,aB 1 0)]),[(3,[ao true,ak 0 0 (List.replicate J.ai.toNat false).length,ak 1 0 ([]:List bd).length,aH]),(2,[ao false,aH,aH,aH]),(1,(bq false J))],[⟨0,1,List.map aW (List.replicate J.ai.toNat false)⟩,⟨0,2,List.map a5 ([]:List bd)⟩]⟩) (Weak.vG (T:=(bf 45 [(16,ag (J.be.length:Int)),(17,ag 0),(3,aB 3 0),(2,aB 2 0),(1,aB 1 0)])) (L:=[(3,[ao true,ak 0 0 (List.replicate J.ai.toNat false).length,aH,aH]),(2,[ao false,aH,aH,aH]),(1,(bq false J))]) (H:=[⟨0,1,List.map aW (List.replicate J.ai.toNat false)⟩]) (cells:=[ao true,ak 0 0 (List.replicate J.ai.toNat false).length,aH,aH]) 3 2 2 (by kernel_rfl) (by kernel_rfl)) (by kernel_rfl))
 obtain⟨jo,h⟩:=h
 refine kz (fun(v:Nat×(List bd)×Int)=>(⟨(bf 45 [(1,aB 1 0),(2,aB 2 0),(3,aB 3 0),(16,ag (J.be.length:Int)),(17,ag (v.2.2))]),[(3,[ao true,ak 0 0 (List.replicate J.ai.toNat false).length,ak 1 (v.1) (v.2.1).length,aH]),(2,[ao false,aH,aH,aH]),(1,(bq false J))],[⟨0,1,List.map aW (List.replicate J.ai.toNat false)⟩,⟨(v.1),2,List.map a5 (v.2.1)⟩]⟩:St)) (fun(v:Nat×(List bd)×Int)=>ay (v.1) (v.2.1) (v.2.2)) (fun(v:Nat×(List bd)×Int)=>aA (v.1) (v.2.1) (v.2.2)) (0,([]:List bd),0) (dE []) jo (fun v aX=> ?_)
 obtain⟨a3,aK,eO⟩:=v
 replace h:=h a3 aK eO aX
 dsimp only
 refine ev [1000003] 5 [(18,ao (decide (eO<(J.be.length:Int))))] [1] [5] ?_
 unfold HP at h
 obtain⟨l2,h⟩:=h
 refine cB [] [0,1,5] ((decide (eO<(J.be.length:Int)))=true) ?_ (fun hY=> ?_)
 ·
  replace h:=l2
  refine dJ (fun iV=> ?_) (fun iV=> ?_)
  ·
   refine ew ?_
   exact ck.normal (by simp only[q2,iV]<;>rfl) eo
  ·
   replace h:=h iV
   refine je 0 ?_
   refine ck.exit ?_
   refine eb.exit ?_
   refine cn.here ?_
   refine ec.normal ?_
   refine hP ?_
   refine ka ⟨(bf 45 [(2,aB 2 0),(3,aB 3 0),(27,bE (dx false) J.O),(28,ag (J.O.length:Int)),(29,ag 0)]),[(3,[ao true,ak 0 0 (List.replicate J.ai.toNat false).length,ak 1 a3 aK.length,aH]),(2,[ao false,aH,aH,aH]),(1,(bq false J))],[⟨0,1,List.map aW (List.replicate J.ai.toNat false)⟩,⟨a3,2,List.map a5 aK⟩]⟩ (J.O.length≤4611686018427387904) ?_ (fun fK=> ?_)
   ·
    refine bJ [1000003] 8 ?_
    refine sLen 3 (some 28) [(27,bE (dx false) J.O),(26,aB 1 2)] (dx false) J.O (fun r7=> ?_)
    exact b1 [(29,ag 0)] r7
   replace h:=h fK
   refine fw 2 ?_
   refine WpS.mF ?_ (hB (s'':=⟨(bf 45 [(2,aB 2 0),(3,aB 3 0),(27,bE (dx false) J.O),(28,ag (J.O.length:Int)),(29,ag 0)]),[(3,[ao true,ak 0 0 (List.replicate J.ai.toNat false).length,ak 1 a3 aK.length,ak 2 0 ([]:List ad).length]),(2,[ao false,aH,aH,aH]),(1,(bq false J))],[⟨0,1,List.map aW (List.replicate J.ai.toNat false)⟩,⟨a3,2,List.map a5 aK⟩,⟨0,5,aZ 4 ([]:List ad) ([]:List Nat)⟩]⟩) (Weak.vG (T:=(bf 45 [(2,aB 2 0),(3,aB 3 0),(27,bE (dx false) J.O),(28,ag (J.O.length:Int)),(29,ag 0)])) (L:=[(3,[ao true,ak 0 0 (List.replicate J.ai.toNat false).length,ak 1 a3 aK.length,aH]),(2,[ao false,aH,aH,aH]),(1,(bq false J))]) (H:=[⟨0,1,List.map aW (List.replicate J.ai.toNat false)⟩,⟨a3,2,List.map a5 aK⟩]) (cells:=[ao true,ak 0 0 (List.replicate J.ai.toNat false).length,ak 1 a3 aK.length,aH]) 3 3 5 (by kernel_rfl) (by kernel_rfl)) (by kernel_rfl))
   refine WpS.mF ?_ (hB (s'':=⟨(bf 45 [(2,aB 2 0),(3,aB 3 0),(27,bE (dx false) J.O),(28,ag (J.O.length:Int)),(29,ag 0)]),[(3,[ao true,ak 0 0 (List.replicate J.ai.toNat false).length,ak 1 a3 aK.length,ak 2 0 ([]:List ad).length]),(2,[ao false,aH,aH,aH]),(1,(bq false J))],(⟨0,1,List.map aW (List.replicate J.ai.toNat false)⟩::⟨a3,2,List.map a5 aK⟩::⟨0,5,aZ 4 ([]:List ad) ([]:List Nat)⟩::⟨0,5,[]⟩::List.map bi ([]:List (List Bool)))⟩) (Weak.wY (T:=(bf 45 [(2,aB 2 0),(3,aB 3 0),(27,bE (dx false) J.O),(28,ag (J.O.length:Int)),(29,ag 0)])) (L:=[(3,[ao true,ak 0 0 (List.replicate J.ai.toNat false).length,ak 1 a3 aK.length,ak 2 0 ([]:List ad).length]),(2,[ao false,aH,aH,aH]),(1,(bq false J))]) (H:=[⟨0,1,List.map aW (List.replicate J.ai.toNat false)⟩,⟨a3,2,List.map a5 aK⟩,⟨0,5,aZ 4 ([]:List ad) ([]:List Nat)⟩]) 5) (by kernel_rfl))
   obtain⟨nv,h⟩:=h
   refine kz (fun(v:List (List Bool)×Nat×Nat×List Nat×Int×List ad)=>(⟨(bf 45 [(2,aB 2 0),(3,aB 3 0),(27,bE (dx false) J.O),(28,ag (J.O.length:Int)),(29,ag (v.2.2.2.2.1))]),[(3,[ao true,ak 0 0 (List.replicate J.ai.toNat false).length,ak 1 a3 aK.length,ak 2 (v.2.1) (v.2.2.2.2.2).length]),(2,[ao false,aH,aH,aH])],(⟨0,1,List.map aW (List.replicate J.ai.toNat false)⟩::⟨a3,2,List.map a5 aK⟩::⟨(v.2.1),5,aZ 4 (v.2.2.2.2.2) (v.2.2.2.1)⟩::⟨(v.2.2.1),5,[]⟩::List.map bi (v.1))⟩:St)) (fun(v:List (List Bool)×Nat×Nat×List Nat×Int×List ad)=>aY a3 aK eO (v.1) (v.2.1) (v.2.2.1) (v.2.2.2.1) (v.2.2.2.2.1) (v.2.2.2.2.2)) (fun(v:List (List Bool)×Nat×Nat×List Nat×Int×List ad)=>a0 a3 aK eO (v.1) (v.2.1) (v.2.2.1) (v.2.2.2.1) (v.2.2.2.2.1) (v.2.2.2.2.2)) (([]:List (List Bool)),0,0,([]:List Nat),0,([]:List ad)) (dE [1]) nv (fun v aX=> ?_)
   obtain⟨aV,a1,bP,aP,bM,ws2⟩:=v
   replace h:=h aV a1 bP aP bM ws2 aX
   dsimp only
   refine ev [1000003] 9 [(30,ao (decide (bM<(J.O.length:Int))))] [1] [5] ?_
   unfold HO at h
   obtain⟨k4,h⟩:=h
   refine cB [] [0,1,5] ((decide (bM<(J.O.length:Int)))=true) ?_ (fun kO=> ?_)
   ·
    replace h:=k4
    refine dJ (fun iq=> ?_) (fun iq=> ?_)
    ·
     refine ew ?_
     exact ck.normal (by simp only[q2,iV,iq]<;>rfl) eo
    ·
     replace h:=h iq
     refine je 2 ?_
     refine ck.exit ?_
     refine eb.exit ?_
     refine cn.here ?_
     refine ec.normal ?_
     refine ka ⟨(bf 45 [(2,aB 2 0)]),[(3,[ao true,ak 0 0 (List.replicate J.ai.toNat false).length,ak 1 a3 aK.length,ak 2 a1 ws2.length]),(2,[ao true,ak 0 0 (List.replicate J.ai.toNat false).length,ak 1 a3 aK.length,ak 2 a1 ws2.length])],(⟨0,1,List.map aW (List.replicate J.ai.toNat false)⟩::⟨a3,2,List.map a5 aK⟩::⟨a1,5,aZ 4 ws2 aP⟩::⟨bP,5,[]⟩::List.map bi aV)⟩ (True) ?_ (fun lx=> ?_)
     ·
      refine bJ [1000003] 13 ?_
      exact b1 [(44,.agg [ao true,ak 0 0 (List.replicate J.ai.toNat false).length,ak 1 a3 aK.length,ak 2 a1 ws2.length])] trivial
     exact hC (nz (.agg [ao true,ak 0 0 (List.replicate J.ai.toNat false).length,ak 1 a3 aK.length,ak 2 a1 ws2.length]) (iy.agg (aE.cons (nD h.1) (aE.cons (q0 (sz:=1) (by simp) rfl (vP) h.2.1) (aE.cons (q0 (sz:=2) (by simp) rfl (ya) h.2.2.1) (aE.cons (CF (s:=4) (ws:=ws2) (ids:=aP) (bs:=aV) (by simp) rfl (fun id k h=>by simpa using h) h.2.2.2) aE.nil))))))
   replace h:=h kO
   unfold HN at h
   obtain⟨h0,h⟩:=h
   refine e0 [] [5] (fun L=>(5,(dx false (nth J.O bM)))::hD 0 3 (ak 2 (a1+1) (ws2++[(ad.mk 0 0 (List.replicate ((nth J.O bM).ai.length:Int).toNat false) false 0)]).length) L) (fun _=>(⟨0,1,List.map aW (List.replicate J.ai.toNat false)⟩::⟨a3,2,List.map a5 aK⟩::⟨(a1+1),5,aZ 4 (ws2++[(ad.mk 0 0 (List.replicate ((nth J.O bM).ai.length:Int).toNat false) false 0)]) (aP++[aV.length])⟩::⟨(bP+1),5,[[ag 0,ag 0,ak (aV.length+4) 0 (List.replicate ((nth J.O bM).ai.length:Int).toNat false).length,ao false,ag 0]]⟩::List.map bi (aV++[(List.replicate ((nth J.O bM).ai.length:Int).toNat false)]))) (True) ?_ (fun g5=> ?_)
   ·
    replace h:=h0
    refine fw 3 ?_
    obtain⟨ir,h⟩:=h
    refine e0 [(5,aB 5 0)] [5] (fun L=>(5,(dx false (nth J.O bM)))::L) id (True) ?_ (fun hZ=> ?_)
    ·
     replace h:=ir
     refine bJ [1000003] 10 ?_
     have kp:=h
     refine kQ 1 (some 31) [] (dx false) J.O 5 kp ?_
     exact b1 [(5,aB 5 0),(32,.agg (dx false (nth J.O bM)))] trivial
    refine ny [1000003] 11 acD acE [] ?_
    refine I4 5 (some 37) [(36,bE db (nth J.O bM).ai),(35,aB 5 0),(34,ak 2 a1 ws2.length),(33,aB 3 3)] db (nth J.O bM).ai ?_
    obtain⟨g6,h⟩:=h
    refine ae0 1 (some 38) [] 1 [ao false] (fun r=>rA Try.prog (jF HR 16025) [0,1] [(37,ag ((nth J.O bM).ai.length:Int)),(36,bE db (nth J.O bM).ai),(35,aB 5 0),(34,ak 2 a1 ws2.length),(33,aB 3 3),(5,aB 5 0),(2,aB 2 0),(3,aB 3 0),(27,bE (dx false) J.O),(28,ag (J.O.length:Int)),(29,ag bM)] [(5,(dx false (nth J.O bM))),(3,[ao true,ak 0 0 (List.replicate J.ai.toNat false).length,ak 1 a3 aK.length,ak 2 a1 ws2.length]),(2,[ao false,aH,aH,aH])] r) (aV.length+4) (⟨0,1,List.map aW (List.replicate J.ai.toNat false)⟩::⟨a3,2,List.map a5 aK⟩::⟨a1,5,aZ 4 ws2 aP⟩::⟨bP,5,[]⟩::List.map bi (aV++[(List.replicate ((nth J.O bM).ai.length:Int).toNat false)])) g6 (by simp) (by simp only[List.cons_append,rv]) (w8 (ψ:=((true=true∧true=true∧((aB 3 3:AV)=aB 3 3))∧((true=true∧true=true∧((ak 2 a1 ws2.length:AV)=ak 2 a1 ws2.length))∧True))) (by kernel_rfl) ⟨⟨rfl,rfl,rfl⟩,⟨⟨rfl,rfl,rfl⟩,trivial⟩⟩) ?_
    refine I3 2 [(40,.ref 3 (bP+1) 0 1 true),(39,.agg [ag 0,ag 0,ak (aV.length+4) 0 (List.replicate ((nth J.O bM).ai.length:Int).toNat false).length,ao false,ag 0])] [(5,(dx false (nth J.O bM))),(3,[ao true,ak 0 0 (List.replicate J.ai.toNat false).length,ak 1 a3 aK.length,ak 2 a1 ws2.length]),(2,[ao false,aH,aH,aH])] (⟨0,1,List.map aW (List.replicate J.ai.toNat false)⟩::⟨a3,2,List.map a5 aK⟩::⟨a1,5,aZ 4 ws2 aP⟩::⟨(bP+1),5,[[ag 0,ag 0,ak (aV.length+4) 0 (List.replicate ((nth J.O bM).ai.length:Int).toNat false).length,ao false,ag 0]]⟩::List.map bi (aV++[(List.replicate ((nth J.O bM).ai.length:Int).toNat false)])) (φ:=rA Try.prog (jF HR 16025) [0,1] [(39,.agg [ag 0,ag 0,ak (aV.length+4) 0 (List.replicate ((nth J.O bM).ai.length:Int).toNat false).length,ao false,ag 0]),(38,ak (aV.length+4) 0 (List.replicate ((nth J.O bM).ai.length:Int).toNat false).length),(37,ag ((nth J.O bM).ai.length:Int)),(36,bE db (nth J.O bM).ai),(35,aB 5 0),(34,ak 2 a1 ws2.length),(33,aB 3 3),(5,aB 5 0),(2,aB 2 0),(3,aB 3 0),(27,bE (dx false) J.O),(28,ag (J.O.length:Int)),(29,ag bM)] [(5,(dx false (nth J.O bM))),(3,[ao true,ak 0 0 (List.replicate J.ai.toNat false).length,ak 1 a3 aK.length,ak 2 a1 ws2.length]),(2,[ao false,aH,aH,aH])] (⟨0,1,List.map aW (List.replicate J.ai.toNat false)⟩::⟨a3,2,List.map a5 aK⟩::⟨a1,5,aZ 4 ws2 aP⟩::⟨(bP+1),5,[[ag 0,ag 0,ak (aV.length+4) 0 (List.replicate ((nth J.O bM).ai.length:Int).toNat false).length,ao false,ag 0]]⟩::List.map bi (aV++[(List.replicate ((nth J.O bM).ai.length:Int).toNat false)]))) (w8 (ψ:=((true=true∧true=true∧((aB 3 3:AV)=aB 3 3))∧((true=true∧true=true∧((ak 2 a1 ws2.length:AV)=ak 2 a1 ws2.length))∧True))) (by kernel_rfl) ⟨⟨rfl,rfl,rfl⟩,⟨⟨rfl,rfl,rfl⟩,trivial⟩⟩) ?_
    have ib:=h
    refine aeZ 1 (some 41) [] 4 2 a1 (bP+1) 56 ws2 aP (ad.mk 0 0 (List.replicate ((nth J.O bM).ai.length:Int).toNat false) false 0) aV.length (fun _=>True) (fun r=>(⟨0,1,List.map aW (List.replicate J.ai.toNat false)⟩::⟨a3,2,List.map a5 aK⟩::⟨(a1+1),5,r⟩::⟨(bP+1),5,[[ag 0,ag 0,ak (aV.length+4) 0 (List.replicate ((nth J.O bM).ai.length:Int).toNat false).length,ao false,ag 0]]⟩::List.map bi (aV++[(List.replicate ((nth J.O bM).ai.length:Int).toNat false)]))) ib.1 ib.2 trivial ?_
    refine I3 2 [(42,aB 3 3)] [(5,(dx false (nth J.O bM))),(3,[ao true,ak 0 0 (List.replicate J.ai.toNat false).length,ak 1 a3 aK.length,ak 2 (a1+1) (ws2++[(ad.mk 0 0 (List.replicate ((nth J.O bM).ai.length:Int).toNat false) false 0)]).length]),(2,[ao false,aH,aH,aH])] (⟨0,1,List.map aW (List.replicate J.ai.toNat false)⟩::⟨a3,2,List.map a5 aK⟩::⟨(a1+1),5,aZ 4 (ws2++[(ad.mk 0 0 (List.replicate ((nth J.O bM).ai.length:Int).toNat false) false 0)]) (aP++[aV.length])⟩::⟨(bP+1),5,[[ag 0,ag 0,ak (aV.length+4) 0 (List.replicate ((nth J.O bM).ai.length:Int).toNat false).length,ao false,ag 0]]⟩::List.map bi (aV++[(List.replicate ((nth J.O bM).ai.length:Int).toNat false)])) (φ:=True) trivial ?_
    refine zX [] ?_
    refine cn.normal ?_
    exact ck.normal trivial eo
   unfold HM at h
   refine bJ [1000003] 12 ?_
   refine dX [(29,ag (IntKind.i64.wrap (bM+1))),(43,ag (IntKind.i64.wrap (bM+1)))] ?_
   exact eb.again ((aV++[(List.replicate ((nth J.O bM).ai.length:Int).toNat false)]),(a1+1),(bP+1),(aP++[aV.length]),(IntKind.i64.wrap (bM+1)),(ws2++[(ad.mk 0 0 (List.replicate ((nth J.O bM).ai.length:Int).toNat false) false 0)])) h ((Weak.clear 3 rfl:Weak ⟨(bf 45 [(29,ag (IntKind.i64.wrap (bM+1))),(43,ag (IntKind.i64.wrap (bM+1))),(2,aB 2 0),(3,aB 3 0),(27,bE (dx false) J.O),(28,ag (J.O.length:Int))]),[(5,(dx false (nth J.O bM))),(3,[ao true,ak 0 0 (List.replicate J.ai.toNat false).length,ak 1 a3 aK.length,ak 2 (a1+1) (ws2++[(ad.mk 0 0 (List.replicate ((nth J.O bM).ai.length:Int).toNat false) false 0)]).length]),(2,[ao false,aH,aH,aH])],(⟨0,1,List.map aW (List.replicate J.ai.toNat false)⟩::⟨a3,2,List.map a5 aK⟩::⟨(a1+1),5,aZ 4 (ws2++[(ad.mk 0 0 (List.replicate ((nth J.O bM).ai.length:Int).toNat false) false 0)]) (aP++[aV.length])⟩::⟨(bP+1),5,[[ag 0,ag 0,ak (aV.length+4) 0 (List.replicate ((nth J.O bM).ai.length:Int).toNat false).length,ao false,ag 0]]⟩::List.map bi (aV++[(List.replicate ((nth J.O bM).ai.length:Int).toNat false)]))⟩ ⟨(bf 45 [(29,ag (IntKind.i64.wrap (bM+1))),(43,ag (IntKind.i64.wrap (bM+1))),(2,aB 2 0),(3,aB 3 0),(27,bE (dx false) J.O),(28,ag (J.O.length:Int))]),[(5,(dx false (nth J.O bM))),(3,[ao true,ak 0 0 (List.replicate J.ai.toNat false).length,ak 1 a3 aK.length,ak 2 (a1+1) (ws2++[(ad.mk 0 0 (List.replicate ((nth J.O bM).ai.length:Int).toNat false) false 0)]).length]),(2,[ao false,aH,aH,aH])],(⟨0,1,List.map aW (List.replicate J.ai.toNat false)⟩::⟨a3,2,List.map a5 aK⟩::⟨(a1+1),5,aZ 4 (ws2++[(ad.mk 0 0 (List.replicate ((nth J.O bM).ai.length:Int).toNat false) false 0)]) (aP++[aV.length])⟩::⟨(bP+1),5,[]⟩::List.map bi (aV++[(List.replicate ((nth J.O bM).ai.length:Int).toNat false)]))⟩).trans (dE [5]))
 replace h:=h hY
 obtain⟨j2,h⟩:=h
 refine e0 [] [5] (fun L=>hD 0 2 (ak 1 (a3+1) (aK++[(bd.mk 1 1)]).length) L) (fun H=>ep 1 ⟨(a3+1),2,List.map a5 (aK++[(bd.mk 1 1)])⟩ H) (True) ?_ (fun oY=> ?_)
 ·
  replace h:=j2
  refine fw 1 ?_
  refine bJ [1000003] 6 ?_
  have oi:=h
  refine abB 5 (some 23) [(22,.bz (List.map a5 [(bd.mk 1 1)]) true true),(21,.agg [ag 1,ag 1]),(20,ak 1 a3 aK.length),(19,aB 3 2)] a5 aK [(bd.mk 1 1)] (k8 true (List.map a5 [(bd.mk 1 1)])) 1 a3 2 16 (fun r=>[⟨0,1,List.map aW (List.replicate J.ai.toNat false)⟩,⟨(a3+1),2,r⟩]) rfl oi ?_
  refine CB [(24,aB 3 2)] [(3,[ao true,ak 0 0 (List.replicate J.ai.toNat false).length,ak 1 (a3+1) (aK++[(bd.mk 1 1)]).length,aH]),(2,[ao false,aH,aH,aH]),(1,(bq false J))] [⟨0,1,List.map aW (List.replicate J.ai.toNat false)⟩,⟨(a3+1),2,List.map a5 (aK++[(bd.mk 1 1)])⟩] ?_
  refine cn.normal ?_
  exact ck.normal trivial eo
 refine bJ [1000003] 7 ?_
 refine dX [(17,ag (IntKind.i64.wrap (eO+1))),(25,ag (IntKind.i64.wrap (eO+1)))] ?_
 exact eb.again ((a3+1),(aK++[(bd.mk 1 1)]),(IntKind.i64.wrap (eO+1))) h (dE [])
theorem acC (J:az):bX Try.prog 32 [.agg (bq false J)] (.agg (bS true (ei J))):=acF J (ei J) (fun _ x v=>cv J.be.length (fun _=>false) v∧x=List.replicate v.toNat (bd.mk 1 1)) (fun _ _ v=>cG J.be.length v) (fun _ x _ bs _ _ is v ws=>x=List.replicate J.be.length (bd.mk 1 1)∧cv J.O.length (fun _=>false) v∧ws=(J.O.take v.toNat).map (fun w=>ik w.ai.length)∧is=List.range ws.length∧bs=ws.map ad.ac) (fun _ _ _ _ _ _ _ v _=>cG J.O.length v) (by
 unfold HL HQ
 refine⟨fun h=> ?_,fun h=> ?_⟩
 ·have h:ek J=false:=by simpa using h
  unfold ei;rw[if_neg (by rw[h];simp)];exact⟨rfl,rfl,rfl,rfl⟩
 have h:ek J=true:=by simpa using h
 have cF:=uZ h
 have h1:=cF.cZ
 have h2:=cF.sw
 have aO:=cF.O
 have e:ei J=⟨true,List.replicate J.ai.toNat false,List.replicate J.be.length ⟨1,1⟩,J.O.map fun w=>ik w.ai.length⟩:=by unfold ei;rw[if_pos h]
 rw[e]
 refine⟨⟨by omega,by omega,by omega⟩,fun aF=>⟨⟨di (dt _),rfl⟩,fun g x v aX=> ?_⟩⟩
 obtain⟨aX,rfl⟩:=aX
 have yW:=aX.2.1
 unfold HP
 refine⟨fun hv hm=>⟨⟨?_,di (dt _),rfl,rfl,rfl⟩,fun bs a1 bP is k ws ds=> ?_⟩,fun hv=>⟨⟨?_,?_⟩,⟨(c0 (cD aF) aX hv rfl).1,?_⟩,(c0 (cD aF) aX hv rfl).2⟩⟩
 ·have: ¬v<(J.be.length:Int):=by simpa using hv
  rw[show v.toNat=J.be.length by omega]
 ·obtain⟨hx,ds,rfl,rfl,rfl⟩:=ds
  have rL:=ds.2.1
  have wz:=ds.1
  have aL:((J.O.take k.toNat).map fun w=>ik w.ai.length).length=k.toNat:=by rw[List.length_map,List.length_take];omega
  obtain⟨fq,fV,fC⟩:=v9 ((J.O.take k.toNat).map fun w=>ik w.ai.length)
  have L6:(decide (k<(J.O.length:Int)))=true→1*((nth J.O k).ai.length:Int)≤140737488355328:=fun hk=>by
   have:=(cF.ai _ (dC (ch ds hk).2)).2.1;omega
  unfold HO HN HM
  refine⟨fun hk=>⟨rfl,⟨by rw[List.length_replicate];omega,rfl⟩,⟨by rw[List.length_replicate];omega,hx⟩,fq,by omega,fun b hb=> ?_,?_⟩,fun hk=>⟨⟨⟨wz,(ch ds hk).2⟩,⟨by omega,L6 hk,by have:=L6 hk;omega⟩,by rw[List.length_range],by omega,by omega⟩,⟨hx,(c0 (cD hm) ds hk rfl).1,?_,?_,?_⟩,(c0 (cD hm) ds hk rfl).2⟩⟩
  ·obtain⟨y,br,rfl⟩:=List.mem_map.1 hb
   obtain⟨w,hw,rfl⟩:=List.mem_map.1 br
   have:=(cF.ai w (List.mem_of_mem_take hw)).2.1
   simp[ik];omega
  ·rw[fC]
   have: ¬k<(J.O.length:Int):=by simpa using hk
   rw[List.take_of_length_le (by omega)]
  ·have ca:=ch ds hk
   rw[jM (cD hm) wz (by simpa using hk),show(k+1).toNat=k.toNat+1 by omega,List.take_succ_eq_append_getElem ca.2,←gH ca.2,List.map_append];rfl
  ·rw[List.length_append,List.length_singleton,List.range_succ,List.length_map]
   simp
  ·rw[List.map_append];rfl
 ·rw[List.length_replicate,List.length_singleton];omega
 ·rw[List.length_replicate,List.length_singleton];omega
 ·rw[jM (cD aF) aX.1 (by simpa using hv),show(v+1).toNat=v.toNat+1 by have:=aX.1;omega,List.replicate_succ'])
def HS:dY Try.prog:=⟨32,[.c8],[.frame],none,fun x=>((ei x.1),()),fun x h=>acC x.1⟩
noncomputable def adG:Code:=iz Try.f136
def adH:List Item:=[av 0,av 1,av 2,av 3,av 4,av 5,av 6,av 7,av 8,av 9,⟨10,true,false,[]⟩]
def adI:List (List Nat):=[[],[0],[0,1],[0,1,2],[],[4],[],[6],rg 0 8,rg 0 9,rg 0 10]
abbrev ra (r:Type):Type:=(List bd)→Int→(List bd)→Int→r
def ID (aY:ra Prop) (a0:ra Nat) (J:az) (U:Int) (bo:(List bd)) (cQ bM:Int) (eR:(List bd)):Prop:=
  aY bo bM (eR.set (nth (nth [(nth J.O U).a2,(nth J.O U).bw] bM) cQ).sw.toNat (bd.mk (nth (nth [(nth J.O U).a2,(nth J.O U).bw] bM) cQ).bk (nth eR (nth (nth [(nth J.O U).a2,(nth J.O U).bw] bM) cQ).sw).a2)) (IntKind.i64.wrap (cQ+1))∧a0 bo bM (eR.set (nth (nth [(nth J.O U).a2,(nth J.O U).bw] bM) cQ).sw.toNat (bd.mk (nth (nth [(nth J.O U).a2,(nth J.O U).bw] bM) cQ).bk (nth eR (nth (nth [(nth J.O U).a2,(nth J.O U).bw] bM) cQ).sw).a2)) (IntKind.i64.wrap (cQ+1))<a0 bo bM eR cQ
def IE (ay:(List bd)→Int→Prop) (aA:(List bd)→Int→Nat) (aY:ra Prop) (a0:ra Nat) (J:az) (U:Int) (bo:(List bd)) (cQ bM:Int) (eR:(List bd)):Prop:=
  ((decide (cQ<((nth [(nth J.O U).a2,(nth J.O U).bw] bM).length:Int)))=false→ay eR (IntKind.i64.wrap (bM+1))∧aA eR (IntKind.i64.wrap (bM+1))<aA bo bM)∧((decide (cQ<((nth [(nth J.O U).a2,(nth J.O U).bw] bM).length:Int)))=true→((0≤cQ∧cQ.toNat<(nth [(nth J.O U).a2,(nth J.O U).bw] bM).length)∧(0≤(nth (nth [(nth J.O U).a2,(nth J.O U).bw] bM) cQ).sw∧(nth (nth [(nth J.O U).a2,(nth J.O U).bw] bM) cQ).sw.toNat<eR.length))∧(ID aY a0 J U bo cQ bM eR))
def IF (ay:(List bd)→Int→Prop) (aA:(List bd)→Int→Nat) (aY:ra Prop) (a0:ra Nat) (J:az) (U:Int) (hk:Bool) (aC:List Bool) (aj:List bd) (hw:List ad) (hi:List Nat) (hb:List (List Bool)) (bo:(List bd)) (bM:Int):Prop:=
  ((decide (bM<([(nth J.O U).a2,(nth J.O U).bw].length:Int)))=false→BQ J U hk aC aj hw hi hb aC bo (hw.set U.toNat (ad.mk 1 (nth hw U).af (nth hw U).ac (nth hw U).ap (nth hw U).ar)) hi hb)∧((decide (bM<([(nth J.O U).a2,(nth J.O U).bw].length:Int)))=true→(0≤bM∧bM.toNat<[(nth J.O U).a2,(nth J.O U).bw].length)∧((nth [(nth J.O U).a2,(nth J.O U).bw] bM).length≤4611686018427387904→aY bo bM bo 0∧ ∀(eR:(List bd)) (cQ:Int),aY bo bM eR cQ→(IE ay aA aY a0 J U bo cQ bM eR)))
def IC (J:az) (U:Int) (hg:Nat) (hk:Bool) (aC:List Bool) (aj:List bd) (hw:List ad) (hi:List Nat) (hb:List (List Bool)) (ay:(List bd)→Int→Prop) (aA:(List bd)→Int→Nat) (aY:ra Prop) (a0:ra Nat):Prop:=
 (0≤U∧U.toNat<J.O.length)∧(((0≤U∧U.toNat<hw.length)∧(hw.length=hi.length∧U.toNat<hw.length))∧([(nth J.O U).a2,(nth J.O U).bw].length≤4611686018427387904→ay aj 0∧ ∀(bo:(List bd)) (bM:Int),ay bo bM→(IF ay aA aY a0 J U hk aC aj hw hi hb bo bM)))
theorem adJ (J:az) (U:Int) (hg:Nat) (hk:Bool) (aC:List Bool) (aj:List bd) (hw:List ad) (hi:List Nat) (hb:List (List Bool)) (ay:(List bd)→Int→Prop) (aA:(List bd)→Int→Nat) (aY:ra Prop) (a0:ra Nat) (h:IC J U hg hk aC aj hw hi hb ay aA aY a0):dF Try.prog 136 [.agg (bq false J),.ptr 0 hg 0 0,ag U] (⟨hg,4,[[ao hk,ak 1 0 aC.length,ak 2 0 aj.length,ak 3 0 hw.length]]⟩::⟨0,1,List.map aW aC⟩::⟨0,2,List.map a5 aj⟩::⟨0,5,aZ 4 hw hi⟩::List.map bi hb) (fun r H'=> ∃(um:List bd) (eY:List ad),r= .tup []∧H'=(⟨hg,4,[[ao hk,ak 1 0 aC.length,ak 2 0 um.length,ak 3 0 eY.length]]⟩::⟨0,1,List.map aW aC⟩::⟨0,2,List.map a5 um⟩::⟨0,5,aZ 4 eY hi⟩::List.map bi hb)∧BQ J U hk aC aj hw hi hb aC um eY hi hb):=by
 unfold IC at h
 refine dF.go (fn:=Try.f136) [(0,.agg (bq false J)),(1,.ptr 0 hg 0 0),(2,ag U)] Try.func136 (fun _ _=> ?_)
 show WpS _ (bT adG 1) _ ⟨bf 51 [(0,.agg (bq false J)),(1,.ptr 0 hg 0 0),(2,ag U)],[],(⟨hg,4,[[ao hk,ak 1 0 aC.length,ak 2 0 aj.length,ak 3 0 hw.length]]⟩::⟨0,1,List.map aW aC⟩::⟨0,2,List.map a5 aj⟩::⟨0,5,aZ 4 hw hi⟩::List.map bi hb)⟩
 refine qe [] 0 [(3,aB 3 0)] [1] [0,1,2] (fun L=>(3,(bq false J))::L) id ?_
 obtain⟨oY,h⟩:=h
 refine e0 [(6,aB 6 0)] [0,1,2] (fun L=>(6,(dx false (nth J.O U)))::L) id (True) ?_ (fun q2=> ?_)
 ·
  replace h:=oY
  refine bJ [] 1 ?_
  have q3:=h
  refine kQ 4 (some 14) [(13,ag U),(12,bE (dx false) J.O),(11,aB 3 2)] (dx false) J.O 5 q3 ?_
  exact b1 [(6,aB 6 0),(15,.agg (dx false (nth J.O U)))] trivial
 obtain⟨nv,h⟩:=h
 refine e0 [] [2] id (fun H=>ep 3 ⟨0,5,aZ 4 (hw.set U.toNat (ad.mk 1 (nth hw U).af (nth hw U).ac (nth hw U).ap (nth hw U).ar)) hi⟩ H) (True) ?_ (fun q4=> ?_)
 ·
  replace h:=nv
  refine bJ [] 2 ?_
  refine nA 4 (some 19) (ak 3 0 hw.length) [(18,.ptr 0 hg 0 3),(17,.ptr 0 hg 0 0),(16,.ptr 0 hg 0 0)] (φ:=hg=hg) rfl ?_
  obtain⟨afC,h⟩:=h
  refine lB 2 (some 21) [(20,ag U)] 3 0 5 afC ?_
  have cL:=h
  refine j3 2 none [(22,.ptr 3 0 (0+U.toNat) 0)] (aZ 4 hw hi) U 0 1 0 [ag 1] 3 (aZ 4 (hw.set U.toNat (ad.mk 1 (nth hw U).af (nth hw U).ac (nth hw U).ap (nth hw U).ar)) hi) (dL cL.1 cL.2) (ke cL.1 cL.2) ?_
  exact b1 [] trivial
 refine cB [(27,.bz (List.map (iO dj false) [(nth J.O U).a2,(nth J.O U).bw]) true false),(28,ag ([(nth J.O U).a2,(nth J.O U).bw].length:Int)),(29,ag 0)] [0,1,1] ([(nth J.O U).a2,(nth J.O U).bw].length≤4611686018427387904) ?_ (fun cY=> ?_)
 ·
  refine bJ [] 3 ?_
  refine sLen 6 (some 28) [(27,.bz (List.map (iO dj false) [(nth J.O U).a2,(nth J.O U).bw]) true false),(26,bE dj (nth J.O U).bw),(25,aB 6 2),(24,bE dj (nth J.O U).a2),(23,aB 6 1)] (iO dj false) [(nth J.O U).a2,(nth J.O U).bw] (fun fL=> ?_)
  exact b1 [(29,ag 0)] fL
 replace h:=h cY
 refine fw 0 ?_
 obtain⟨k4,h⟩:=h
 refine kz (fun(v:(List bd)×Int)=>(⟨(bf 51 [(1,.ptr 0 hg 0 0),(27,.bz (List.map (iO dj false) [(nth J.O U).a2,(nth J.O U).bw]) true false),(28,ag ([(nth J.O U).a2,(nth J.O U).bw].length:Int)),(29,ag (v.2))]),[],(⟨hg,4,[[ao hk,ak 1 0 aC.length,ak 2 0 (v.1).length,ak 3 0 hw.length]]⟩::⟨0,1,List.map aW aC⟩::⟨0,2,List.map a5 (v.1)⟩::⟨0,5,aZ 4 (hw.set U.toNat (ad.mk 1 (nth hw U).af (nth hw U).ac (nth hw U).ap (nth hw U).ar)) hi⟩::List.map bi hb)⟩:St)) (fun(v:(List bd)×Int)=>ay (v.1) (v.2)) (fun(v:(List bd)×Int)=>aA (v.1) (v.2)) (aj,0) (dE [6,3]) k4 (fun v aX=> ?_)
 obtain⟨bo,bM⟩:=v
 replace h:=h bo bM aX
 dsimp only
 refine ev [] 4 [(30,ao (decide (bM<([(nth J.O U).a2,(nth J.O U).bw].length:Int))))] [1] [4] ?_
 unfold IF at h
 obtain⟨h0,h⟩:=h
 refine cB [] [0,1,4] ((decide (bM<([(nth J.O U).a2,(nth J.O U).bw].length:Int)))=true) ?_ (fun jr=> ?_)
 ·
  replace h:=h0
  refine dJ (fun gB=> ?_) (fun gB=> ?_)
  ·
   refine ew ?_
   exact ck.normal (by simp only[gB]<;>rfl) eo
  ·
   replace h:=h gB
   refine je 0 ?_
   refine ck.exit ?_
   refine eb.exit ?_
   refine cn.here ?_
   refine AO (t0) [] ?_
   exact⟨bo,(hw.set U.toNat (ad.mk 1 (nth hw U).af (nth hw U).ac (nth hw U).ap (nth hw U).ar)),rfl,(by rw[show hw.length=(hw.set U.toNat (ad.mk 1 (nth hw U).af (nth hw U).ac (nth hw U).ap (nth hw U).ar)).length by simp]<;>rfl),h⟩
 replace h:=h jr
 refine hP ?_
 refine fw 1 ?_
 obtain⟨ir,h⟩:=h
 refine cB [(8,bE dj (nth [(nth J.O U).a2,(nth J.O U).bw] bM))] [4] (True) ?_ (fun hY=> ?_)
 ·
  replace h:=ir
  refine bJ [] 5 ?_
  have iV:=h
  refine kQ 1 (some 31) [] (iO dj false) [(nth J.O U).a2,(nth J.O U).bw] 1 iV ?_
  exact b1 [(8,bE dj (nth [(nth J.O U).a2,(nth J.O U).bw] bM)),(32,bE dj (nth [(nth J.O U).a2,(nth J.O U).bw] bM))] trivial
 refine cB [(33,bE dj (nth [(nth J.O U).a2,(nth J.O U).bw] bM)),(34,ag ((nth [(nth J.O U).a2,(nth J.O U).bw] bM).length:Int)),(35,ag 0)] [0,1,4] ((nth [(nth J.O U).a2,(nth J.O U).bw] bM).length≤4611686018427387904) ?_ (fun fK=> ?_)
 ·
  refine bJ [] 6 ?_
  refine sLen 2 (some 34) [(33,bE dj (nth [(nth J.O U).a2,(nth J.O U).bw] bM))] dj (nth [(nth J.O U).a2,(nth J.O U).bw] bM) (fun r7=> ?_)
  exact b1 [(35,ag 0)] r7
 replace h:=h fK
 refine fw 2 ?_
 obtain⟨g6,h⟩:=h
 refine kz (fun(v:(List bd)×Int)=>(⟨(bf 51 [(1,.ptr 0 hg 0 0),(27,.bz (List.map (iO dj false) [(nth J.O U).a2,(nth J.O U).bw]) true false),(28,ag ([(nth J.O U).a2,(nth J.O U).bw].length:Int)),(29,ag bM),(33,bE dj (nth [(nth J.O U).a2,(nth J.O U).bw] bM)),(34,ag ((nth [(nth J.O U).a2,(nth J.O U).bw] bM).length:Int)),(35,ag (v.2))]),[],(⟨hg,4,[[ao hk,ak 1 0 aC.length,ak 2 0 (v.1).length,ak 3 0 hw.length]]⟩::⟨0,1,List.map aW aC⟩::⟨0,2,List.map a5 (v.1)⟩::⟨0,5,aZ 4 (hw.set U.toNat (ad.mk 1 (nth hw U).af (nth hw U).ac (nth hw U).ap (nth hw U).ar)) hi⟩::List.map bi hb)⟩:St)) (fun(v:(List bd)×Int)=>aY bo bM (v.1) (v.2)) (fun(v:(List bd)×Int)=>a0 bo bM (v.1) (v.2)) (bo,0) (dE []) g6 (fun v aX=> ?_)
 obtain⟨eR,cQ⟩:=v
 replace h:=h eR cQ aX
 dsimp only
 refine ev [] 7 [(36,ao (decide (cQ<((nth [(nth J.O U).a2,(nth J.O U).bw] bM).length:Int))))] [1] [7] ?_
 unfold IE at h
 obtain⟨ib,h⟩:=h
 refine cB [] [0,1,7] ((decide (cQ<((nth [(nth J.O U).a2,(nth J.O U).bw] bM).length:Int)))=true) ?_ (fun kO=> ?_)
 ·
  replace h:=ib
  refine dJ (fun iq=> ?_) (fun iq=> ?_)
  ·
   refine ew ?_
   exact ck.normal (by simp only[jr,iq]<;>rfl) eo
  ·
   replace h:=h iq
   refine je 2 ?_
   refine ck.exit ?_
   refine eb.exit ?_
   refine cn.here ?_
   refine cn.normal ?_
   refine ec.normal ?_
   refine bJ [] 11 ?_
   refine dX [(29,ag (IntKind.i64.wrap (bM+1))),(50,ag (IntKind.i64.wrap (bM+1)))] ?_
   exact eb.again (eR,(IntKind.i64.wrap (bM+1))) h (dE [])
 replace h:=h kO
 obtain⟨j1,h⟩:=h
 refine e0 [] [7] (fun L=>(10,(dj (nth (nth [(nth J.O U).a2,(nth J.O U).bw] bM) cQ)))::L) (fun H=>ep 2 ⟨0,2,List.map a5 (eR.set (nth (nth [(nth J.O U).a2,(nth J.O U).bw] bM) cQ).sw.toNat (bd.mk (nth (nth [(nth J.O U).a2,(nth J.O U).bw] bM) cQ).bk (nth eR (nth (nth [(nth J.O U).a2,(nth J.O U).bw] bM) cQ).sw).a2))⟩ H) (True) ?_ (fun lx=> ?_)
 ·
  replace h:=j1
  refine fw 3 ?_
  obtain⟨kp,h⟩:=h
  refine e0 [(10,aB 10 0)] [7] (fun L=>(10,(dj (nth (nth [(nth J.O U).a2,(nth J.O U).bw] bM) cQ)))::L) id (True) ?_ (fun g5=> ?_)
  ·
   replace h:=kp
   refine bJ [] 8 ?_
   have hZ:=h
   refine kQ 1 (some 37) [] dj (nth [(nth J.O U).a2,(nth J.O U).bw] bM) 2 hZ ?_
   exact b1 [(10,aB 10 0),(38,.agg (dj (nth (nth [(nth J.O U).a2,(nth J.O U).bw] bM) cQ)))] trivial
  refine ny [] 9 adH adI [] ?_
  refine CN 4 (some 42) (ak 2 0 eR.length) [(41,.ptr 0 hg 0 2),(40,.ptr 0 hg 0 0),(39,.ptr 0 hg 0 0)] (φ:=hg=hg) rfl ?_
  have SP:=h
  refine vj 5 (some 47) [(46,ag (nth (nth [(nth J.O U).a2,(nth J.O U).bw] bM) cQ).bk),(45,aB 10 1),(44,ag (nth (nth [(nth J.O U).a2,(nth J.O U).bw] bM) cQ).sw),(43,aB 10 0)] 2 0 2 SP ?_
  refine ae1 2 none [(48,.ptr 2 0 (0+(nth (nth [(nth J.O U).a2,(nth J.O U).bw] bM) cQ).sw.toNat) 0)] a5 eR (nth (nth [(nth J.O U).a2,(nth J.O U).bw] bM) cQ).sw 0 1 0 [ag (nth (nth [(nth J.O U).a2,(nth J.O U).bw] bM) cQ).bk] (fun _=>True) (fun r=>(⟨hg,4,[[ao hk,ak 1 0 aC.length,ak 2 0 eR.length,ak 3 0 hw.length]]⟩::⟨0,1,List.map aW aC⟩::⟨0,2,r⟩::⟨0,5,aZ 4 (hw.set U.toNat (ad.mk 1 (nth hw U).af (nth hw U).ac (nth hw U).ap (nth hw U).ar)) hi⟩::List.map bi hb)) (bd.mk (nth (nth [(nth J.O U).a2,(nth J.O U).bw] bM) cQ).bk (nth eR (nth (nth [(nth J.O U).a2,(nth J.O U).bw] bM) cQ).sw).a2) (by simpa using SP.2) trivial ?_
  refine zX [] ?_
  refine cn.normal ?_
  exact ck.normal trivial eo
 unfold ID at h
 refine bJ [] 10 ?_
 refine dX [(35,ag (IntKind.i64.wrap (cQ+1))),(49,ag (IntKind.i64.wrap (cQ+1)))] ?_
 exact eb.again ((eR.set (nth (nth [(nth J.O U).a2,(nth J.O U).bw] bM) cQ).sw.toNat (bd.mk (nth (nth [(nth J.O U).a2,(nth J.O U).bw] bM) cQ).bk (nth eR (nth (nth [(nth J.O U).a2,(nth J.O U).bw] bM) cQ).sw).a2)),(IntKind.i64.wrap (cQ+1))) h (hB (s':=⟨(bf 51 [(1,.ptr 0 hg 0 0),(27,.bz (List.map (iO dj false) [(nth J.O U).a2,(nth J.O U).bw]) true false),(28,ag ([(nth J.O U).a2,(nth J.O U).bw].length:Int)),(29,ag bM),(33,bE dj (nth [(nth J.O U).a2,(nth J.O U).bw] bM)),(34,ag ((nth [(nth J.O U).a2,(nth J.O U).bw] bM).length:Int)),(35,ag (IntKind.i64.wrap (cQ+1)))]),[],(⟨hg,4,[[ao hk,ak 1 0 aC.length,ak 2 0 eR.length,ak 3 0 hw.length]]⟩::⟨0,1,List.map aW aC⟩::⟨0,2,List.map a5 (eR.set (nth (nth [(nth J.O U).a2,(nth J.O U).bw] bM) cQ).sw.toNat (bd.mk (nth (nth [(nth J.O U).a2,(nth J.O U).bw] bM) cQ).bk (nth eR (nth (nth [(nth J.O U).a2,(nth J.O U).bw] bM) cQ).sw).a2))⟩::⟨0,5,aZ 4 (hw.set U.toNat (ad.mk 1 (nth hw U).af (nth hw U).ac (nth hw U).ap (nth hw U).ar)) hi⟩::List.map bi hb)⟩) (dE (n:=51) (A':=[(1,.ptr 0 hg 0 0),(27,.bz (List.map (iO dj false) [(nth J.O U).a2,(nth J.O U).bw]) true false),(28,ag ([(nth J.O U).a2,(nth J.O U).bw].length:Int)),(29,ag bM),(33,bE dj (nth [(nth J.O U).a2,(nth J.O U).bw] bM)),(34,ag ((nth [(nth J.O U).a2,(nth J.O U).bw] bM).length:Int)),(35,ag (IntKind.i64.wrap (cQ+1)))]) (L':=[]) [10]) (congrArg (fun z=>(⟨(bf 51 [(1,.ptr 0 hg 0 0),(27,.bz (List.map (iO dj false) [(nth J.O U).a2,(nth J.O U).bw]) true false),(28,ag ([(nth J.O U).a2,(nth J.O U).bw].length:Int)),(29,ag bM),(33,bE dj (nth [(nth J.O U).a2,(nth J.O U).bw] bM)),(34,ag ((nth [(nth J.O U).a2,(nth J.O U).bw] bM).length:Int)),(35,ag (IntKind.i64.wrap (cQ+1)))]),[],(⟨hg,4,[[ao hk,ak 1 0 aC.length,ak 2 0 z,ak 3 0 hw.length]]⟩::⟨0,1,List.map aW aC⟩::⟨0,2,List.map a5 (eR.set (nth (nth [(nth J.O U).a2,(nth J.O U).bw] bM) cQ).sw.toNat (bd.mk (nth (nth [(nth J.O U).a2,(nth J.O U).bw] bM) cQ).bk (nth eR (nth (nth [(nth J.O U).a2,(nth J.O U).bw] bM) cQ).sw).a2))⟩::⟨0,5,aZ 4 (hw.set U.toNat (ad.mk 1 (nth hw U).af (nth hw U).ac (nth hw U).ap (nth hw U).ar)) hi⟩::List.map bi hb)⟩:St)) (show eR.length=(eR.set (nth (nth [(nth J.O U).a2,(nth J.O U).bw] bM) cQ).sw.toNat (bd.mk (nth (nth [(nth J.O U).a2,(nth J.O U).bw] bM) cQ).bk (nth eR (nth (nth [(nth J.O U).a2,(nth J.O U).bw] bM) cQ).sw).a2)).length by simp)))
theorem adF (J:az) (U:Int) (hg:Nat) (hk:Bool) (aC:List Bool) (aj:List bd) (hw:List ad) (hi:List Nat) (hb:List (List Bool)) (aG:NF J U hk aC aj hw hi hb):dF Try.prog 136 [.agg (bq false J),.ptr 0 hg 0 0,ag U] (⟨hg,4,[[ao hk,ak 1 0 aC.length,ak 2 0 aj.length,ak 3 0 hw.length]]⟩::⟨0,1,List.map aW aC⟩::⟨0,2,List.map a5 aj⟩::⟨0,5,aZ 4 hw hi⟩::List.map bi hb) (fun r H'=> ∃(um:List bd) (eY:List ad),r= .tup []∧H'=(⟨hg,4,[[ao hk,ak 1 0 aC.length,ak 2 0 um.length,ak 3 0 eY.length]]⟩::⟨0,1,List.map aW aC⟩::⟨0,2,List.map a5 um⟩::⟨0,5,aZ 4 eY hi⟩::List.map bi hb)∧BQ J U hk aC aj hw hi hb aC um eY hi hb):=adJ J U hg hk aC aj hw hi hb (fun x v=>cv ((kS (nth J.O U)).length:Int) (fun _=>false) v∧x=jI ((kS (nth J.O U)).take v.toNat).flatten aj) (fun _ v=>cG ((kS (nth J.O U)).length:Int) v) (fun x v y k=>cv ((nth (kS (nth J.O U)) v).length:Int) (fun _=>false) k∧y=jI ((nth (kS (nth J.O U)) v).take k.toNat) x) (fun _ v _ k=>cG ((nth (kS (nth J.O U)) v).length:Int) k) (by
 unfold IC
 obtain⟨G,cF,t0,t1,t2,Xw⟩:=aG
 have bc:U.toNat<hw.length:=by omega
 have ji:U.toNat<J.O.length:=by omega
 have b0:=cF.a2 _ (dC ji)
 have wK:=cF.sw
 have dq:=G.oE bc
 have eA:=dq.setState 1
 refine⟨⟨t0,ji⟩,⟨⟨t0,bc⟩,dq.fy⟩,fun aF=>⟨⟨di (dt _),rfl⟩,fun x v aX=> ?_⟩⟩
 obtain⟨aX,rfl⟩:=aX
 unfold IF
 refine⟨fun hv=> ?_,fun hv=>⟨ch aX hv,fun hm=>⟨⟨di (dt _),rfl⟩,fun y k ds=> ?_⟩⟩⟩
 ·have kl: ¬v<((kS (nth J.O U)).length:Int):=by simpa[kS] using hv
  have h1:=aX.2.1
  refine⟨?_,eA.G,eA.gV⟩
  rw[List.take_of_length_le (by omega),Sl]
 ·obtain⟨ds,rfl⟩:=ds
  have ca:=ch aX hv
  unfold IE ID
  refine⟨fun hk=>⟨⟨(c0 (cD aF) aX hv rfl).1,?_⟩,(c0 (cD aF) aX hv rfl).2⟩,fun hk=>⟨⟨ch ds hk,?_⟩,⟨(c0 (cD hm) ds hk rfl).1,?_⟩,(c0 (cD hm) ds hk rfl).2⟩⟩
  ·have jz: ¬k<((nth (kS (nth J.O U)) v).length:Int):=of_decide_eq_false hk
   have h1:=ds.2.1
   rw[jM (cD aF) ca.1 (by simpa using hv),show(v+1).toNat=v.toNat+1 by omega,ae3 ca.2,List.take_of_length_le (by omega),gH ca.2]
  ·have hx:=b0.2.2 _ (ae4 ca.2 (dC (ch ds hk).2))
   have e:(jI (List.take k.toNat (nth (kS (nth J.O U)) v)) (jI (List.take v.toNat (kS (nth J.O U))).flatten aj)).length=aj.length:=by rw[zN,zN]
   exact⟨hx.1,by rw[e];have:=hx.2;show(nth (nth (kS (nth J.O U)) v) k).sw.toNat<_;omega⟩
  ·have rL:=ch ds hk
   rw[jM (cD hm) ds.1 (by simpa using hk),show(k+1).toNat=k.toNat+1 by omega,PJ rL.2,←gH rL.2]
   rfl)
noncomputable def adi:Code:=iz Try.f137
def Ig (J:az) (U:Int) (hk:Bool) (aC:List Bool) (aj:List bd) (hw:List ad) (hi:List Nat) (hb:List (List Bool)):Prop:=
  uC J U hk aC aj hw hi hb aC aj ((hw.set U.toNat (ad.mk 3 (nth hw U).af (nth hw U).ac (nth hw U).ap (nth hw U).ar)).set U.toNat (ad.mk (nth (hw.set U.toNat (ad.mk 3 (nth hw U).af (nth hw U).ac (nth hw U).ap (nth hw U).ar)) U).aq (nth (hw.set U.toNat (ad.mk 3 (nth hw U).af (nth hw U).ac (nth hw U).ap (nth hw U).ar)) U).af (nth (hw.set U.toNat (ad.mk 3 (nth hw U).af (nth hw U).ac (nth hw U).ap (nth hw U).ar)) U).ac (nth (hw.set U.toNat (ad.mk 3 (nth hw U).af (nth hw U).ac (nth hw U).ap (nth hw U).ar)) U).ap J.dn)) hi hb 0
def Ih (J:az) (U:Int) (hk:Bool) (aC:List Bool) (aj:List bd) (hw:List ad) (hi:List Nat) (hb:List (List Bool)) (cQ:Int):Prop:=
  ((nth aC (nth (nth J.O U).cJ cQ))&&(nth hw U).ap)=true→(hw.length=hi.length∧U.toNat<hw.length)∧(((hw.set U.toNat (ad.mk 3 (nth hw U).af (nth hw U).ac (nth hw U).ap (nth hw U).ar)).length=hi.length∧U.toNat<(hw.set U.toNat (ad.mk 3 (nth hw U).af (nth hw U).ac (nth hw U).ap (nth hw U).ar)).length)∧(Ig J U hk aC aj hw hi hb))
def Ii (ay:Int→Prop) (aA:Int→Nat) (J:az) (U:Int) (hk:Bool) (aC:List Bool) (aj:List bd) (hw:List ad) (hi:List Nat) (hb:List (List Bool)) (cQ:Int):Prop:=
  ((0≤cQ∧cQ.toNat<(nth J.O U).cJ.length)∧(((0≤(nth (nth J.O U).cJ cQ)∧(nth (nth J.O U).cJ cQ).toNat<aC.length)∧((nth aC (nth (nth J.O U).cJ cQ))=true→hw.length=hi.length∧U.toNat<hw.length))∧(Ih J U hk aC aj hw hi hb cQ)))∧((!((nth aC (nth (nth J.O U).cJ cQ))&&(nth hw U).ap))=true→ay (IntKind.i64.wrap (cQ+1))∧aA (IntKind.i64.wrap (cQ+1))<aA cQ)
def Ij (ay:Int→Prop) (aA:Int→Nat) (J:az) (U:Int) (hk:Bool) (aC:List Bool) (aj:List bd) (hw:List ad) (hi:List Nat) (hb:List (List Bool)):Prop:=
  ay 0∧ ∀(cQ:Int),ay cQ→(((decide (cQ<((nth J.O U).cJ.length:Int)))=false→(BI U hk aC aj hw hi hb)∧(∀(vn:List ad) (i18:List Nat) (vH:List (List Bool)),uz U hk aC aj hw hi hb aC aj vn i18 vH→(uC J U hk aC aj hw hi hb aC aj vn i18 vH 0)))∧((decide (cQ<((nth J.O U).cJ.length:Int)))=true→Ii ay aA J U hk aC aj hw hi hb cQ))
def Ik (ay:Int→Prop) (aA:Int→Nat) (J:az) (U:Int) (hk:Bool) (aC:List Bool) (aj:List bd) (hw:List ad) (hi:List Nat) (hb:List (List Bool)):Prop:=
  (((hw.length=hi.length∧U.toNat<hw.length)∧(((nth hw U).aq !=1)=true→hw.length=hi.length∧U.toNat<hw.length))∧((((nth hw U).aq !=1)&&((nth hw U).aq !=2))=true→uC J U hk aC aj hw hi hb aC aj hw hi hb 2))∧((!(((nth hw U).aq !=1)&&((nth hw U).aq !=2)))=true→(0≤U∧U.toNat<J.O.length)∧((nth J.O U).cJ.length≤4611686018427387904→Ij ay aA J U hk aC aj hw hi hb))
def If (J:az) (U:Int) (hg:Nat) (hk:Bool) (aC:List Bool) (aj:List bd) (hw:List ad) (hi:List Nat) (hb:List (List Bool)) (ay:Int→Prop) (aA:Int→Nat):Prop:=
 (0≤U∧U.toNat<hw.length)∧(Ik ay aA J U hk aC aj hw hi hb)
theorem adj (J:az) (U:Int) (hg:Nat) (hk:Bool) (aC:List Bool) (aj:List bd) (hw:List ad) (hi:List Nat) (hb:List (List Bool)) (ay:Int→Prop) (aA:Int→Nat) (h:If J U hg hk aC aj hw hi hb ay aA):dF Try.prog 137 [.agg (bq false J),.ptr 0 hg 0 0,ag U] (⟨hg,4,[[ao hk,ak 1 0 aC.length,ak 2 0 aj.length,ak 3 0 hw.length]]⟩::⟨0,1,List.map aW aC⟩::⟨0,2,List.map a5 aj⟩::⟨0,5,aZ 4 hw hi⟩::List.map bi hb) (fun r H'=> ∃(eY:List ad) (ga:List Nat) (eh:List (List Bool)) (al:Int),r=ag al∧H'=(⟨hg,4,[[ao hk,ak 1 0 aC.length,ak 2 0 aj.length,ak 3 0 eY.length]]⟩::⟨0,1,List.map aW aC⟩::⟨0,2,List.map a5 aj⟩::⟨0,5,aZ 4 eY ga⟩::List.map bi eh)∧uC J U hk aC aj hw hi hb aC aj eY ga eh al):=by
 unfold If at h
 refine dF.go (fn:=Try.f137) [(0,.agg (bq false J)),(1,.ptr 0 hg 0 0),(2,ag U)] Try.func137 (fun _ _=> ?_)
 show WpS _ (bT adi 1) _ ⟨bf 63 [(0,.agg (bq false J)),(1,.ptr 0 hg 0 0),(2,ag U)],[],(⟨hg,4,[[ao hk,ak 1 0 aC.length,ak 2 0 aj.length,ak 3 0 hw.length]]⟩::⟨0,1,List.map aW aC⟩::⟨0,2,List.map a5 aj⟩::⟨0,5,aZ 4 hw hi⟩::List.map bi hb)⟩
 refine qe [] 0 [(6,ag 0),(3,aB 3 0)] [0,1,1] [0,1,2] (fun L=>(3,(bq false J))::L) id ?_
 obtain⟨l4,h⟩:=h
 refine cB [(7,.ptr 3 0 (0+U.toNat) 0)] [3] (True) ?_ (fun q2=> ?_)
 ·
  replace h:=l4
  refine bJ [] 1 ?_
  refine nA 4 (some 13) (ak 3 0 hw.length) [(12,.ptr 0 hg 0 3),(11,.ptr 0 hg 0 0),(10,.ptr 0 hg 0 0)] (φ:=hg=hg) rfl ?_
  have afx:=h
  refine lB 2 (some 15) [(14,ag U)] 3 0 5 afx ?_
  exact b1 [(7,.ptr 3 0 (0+U.toNat) 0)] trivial
 unfold Ik at h
 obtain⟨k7,h⟩:=h
 refine cB [] [4] ((!(((nth hw U).aq !=1)&&((nth hw U).aq !=2)))=true) ?_ (fun q3=> ?_)
 ·
  replace h:=k7
  obtain⟨gB,h⟩:=h
  refine cB [(27,ao (((nth hw U).aq !=1)&&((nth hw U).aq !=2)))] [4] (True) ?_ (fun q4=> ?_)
  ·
   replace h:=gB
   refine bJ [] 2 ?_
   obtain⟨fL,h⟩:=h
   refine iF 4 (some 19) [(18,.ptr 3 0 (0+U.toNat) 0),(17,.ptr 3 0 (0+U.toNat) 0),(16,.ptr 3 0 (0+U.toNat) 0)] (aZ 4 hw hi) U 3 0 0 (ag (nth hw U).aq) (dL fL.1 fL.2) ?_
   refine nB 2 21 ((nth hw U).aq !=1) [(20,ao ((nth hw U).aq !=1))] (fun cL=> ?_) (fun cL=> ?_)
   ·
    replace h:=h cL
    have cY:=h
    refine iF 4 (some 25) [(24,.ptr 3 0 (0+U.toNat) 0),(23,.ptr 3 0 (0+U.toNat) 0),(22,.ptr 3 0 (0+U.toNat) 0)] (aZ 4 hw hi) U 3 0 0 (ag (nth hw U).aq) (dL cY.1 cY.2) ?_
    exact b1 [(27,ao ((nth hw U).aq !=2)),(26,ao ((nth hw U).aq !=2))] trivial (by simp only[cL]<;>kernel_rfl)
   ·
    exact b1 ([(27,ao false)]++gp [26,25,24,23,22]) trivial (by simp only[cL]<;>kernel_rfl)
  refine dJ (fun fB=> ?_) (fun fB=> ?_)
  ·
   replace h:=h fB
   refine ev [] 3 [(6,ag 2)] [1] [] ?_
   refine hC ?_
   refine ck.ret ?_
   refine ms (ag 2) [ag 2] ?_
   exact⟨hw,hi,hb,2,rfl,rfl,h⟩
  ·
   refine ew ?_
   exact ck.normal (by simp only[fB]<;>rfl) eo
 replace h:=h q3
 refine hP ?_
 obtain⟨l3,h⟩:=h
 refine cB [(33,bE db (nth J.O U).cJ),(34,ag ((nth J.O U).cJ.length:Int)),(35,ag 0)] [3] ((nth J.O U).cJ.length≤4611686018427387904) ?_ (fun hY=> ?_)
 ·
  replace h:=l3
  refine bJ [] 4 ?_
  have fK:=h
  refine kQ 4 (some 31) [(30,ag U),(29,bE (dx false) J.O),(28,aB 3 2)] (dx false) J.O 5 fK ?_
  refine sLen 3 (some 34) [(33,bE db (nth J.O U).cJ),(32,.dv (dx false (nth J.O U)) 4)] db (nth J.O U).cJ (fun iV=> ?_)
  exact b1 [(35,ag 0)] iV
 replace h:=h hY
 unfold Ij at h
 refine fw 0 ?_
 obtain⟨nw,h⟩:=h
 refine kz (fun(v:Int)=>(⟨(bf 63 [(1,.ptr 0 hg 0 0),(3,aB 3 0),(7,.ptr 3 0 (0+U.toNat) 0),(33,bE db (nth J.O U).cJ),(34,ag ((nth J.O U).cJ.length:Int)),(35,ag v)]),[(3,(bq false J))],(⟨hg,4,[[ao hk,ak 1 0 aC.length,ak 2 0 aj.length,ak 3 0 hw.length]]⟩::⟨0,1,List.map aW aC⟩::⟨0,2,List.map a5 aj⟩::⟨0,5,aZ 4 hw hi⟩::List.map bi hb)⟩:St)) (fun(v:Int)=>ay v) (fun(v:Int)=>aA v) 0 (dE []) nw (fun cQ aX=> ?_)
 replace h:=h cQ aX
 refine ev [] 5 [(36,ao (decide (cQ<((nth J.O U).cJ.length:Int))))] [1] [6] ?_
 obtain⟨jp,h⟩:=h
 refine cB [] [0,1,6] ((decide (cQ<((nth J.O U).cJ.length:Int)))=true) ?_ (fun io=> ?_)
 ·
  replace h:=jp
  refine dJ (fun kO=> ?_) (fun kO=> ?_)
  ·
   refine ew ?_
   exact ck.normal (by simp only[q3,kO]<;>rfl) eo
  ·
   replace h:=h kO
   refine je 0 ?_
   refine ck.exit ?_
   refine eb.exit ?_
   refine cn.here ?_
   refine ec.normal ?_
   refine hP ?_
   refine bJ [] 12 ?_
   obtain⟨kp,h⟩:=h
   refine tj 2 (some 62) [(61,.ptr 3 0 (0+U.toNat) 0)] [.ptr 3 0 (0+U.toNat) 0] _ (Iw U hg hk aC aj hw hi hb kp) (fun r H' aj=>by obtain⟨_,_,_,rfl,_⟩:=aj;rfl) ?_
   rintro r H' ⟨vn,i18,vH,rfl,rfl,j1⟩
   replace h:=h vn i18 vH j1
   refine dX [] ?_
   refine ec.normal ?_
   refine ka ⟨(bf 63 [(6,ag 0)]),[(3,(bq false J))],(⟨hg,4,[[ao hk,ak 1 0 aC.length,ak 2 0 aj.length,ak 3 0 vn.length]]⟩::⟨0,1,List.map aW aC⟩::⟨0,2,List.map a5 aj⟩::⟨0,5,aZ 4 vn i18⟩::List.map bi vH)⟩ (True) ?_ (fun hZ=> ?_)
   ·
    refine bJ [] 13 ?_
    exact b1 [(6,ag 0)] trivial
   refine hC ?_
   refine ms (ag 0) [ag 0] ?_
   exact⟨vn,i18,vH,0,rfl,rfl,h⟩
 replace h:=h io
 unfold Ii at h
 obtain⟨pP,h⟩:=h
 refine cB [] [6] ((!((nth aC (nth (nth J.O U).cJ cQ))&&(nth hw U).ap))=true) ?_ (fun ib=> ?_)
 ·
  replace h:=pP
  refine fw 1 ?_
  obtain⟨ly,h⟩:=h
  refine cB [(9,ag (nth (nth J.O U).cJ cQ))] [6] (True) ?_ (fun g6=> ?_)
  ·
   replace h:=ly
   refine bJ [] 6 ?_
   have ir:=h
   refine kQ 1 (some 37) [] db (nth J.O U).cJ 1 ir ?_
   exact b1 [(9,ag (nth (nth J.O U).cJ cQ)),(38,ag (nth (nth J.O U).cJ cQ))] trivial
  obtain⟨oZ,h⟩:=h
  refine cB [(51,ao ((nth aC (nth (nth J.O U).cJ cQ))&&(nth hw U).ap))] [0,1,6] (True) ?_ (fun h0=> ?_)
  ·
   replace h:=oZ
   refine bJ [] 7 ?_
   refine nA 4 (some 42) (ak 1 0 aC.length) [(41,.ptr 0 hg 0 1),(40,.ptr 0 hg 0 0),(39,.ptr 0 hg 0 0)] (φ:=hg=hg) rfl ?_
   obtain⟨SN,h⟩:=h
   refine lB 2 (some 44) [(43,ag (nth (nth J.O U).cJ cQ))] 1 0 1 SN ?_
   refine Pw 1 (some 45) [] aW aC (nth (nth J.O U).cJ cQ) 4 0 0 (ao (nth aC (nth (nth J.O U).cJ cQ))) (by simpa using SN.2) ?_
   refine nB 1 46 (nth aC (nth (nth J.O U).cJ cQ)) [] (fun k4=> ?_) (fun k4=> ?_)
   ·
    replace h:=h k4
    have nv:=h
    refine iF 4 (some 50) [(49,.ptr 3 0 (0+U.toNat) 3),(48,.ptr 3 0 (0+U.toNat) 0),(47,.ptr 3 0 (0+U.toNat) 0)] (aZ 4 hw hi) U 4 3 0 (ao (nth hw U).ap) (dL nv.1 nv.2) ?_
    exact b1 [(51,ao (nth hw U).ap)] trivial (by simp only[q3,io,k4]<;>kernel_rfl)
   ·
    exact b1 ([(51,ao false)]++gp [50,49,48,47]) trivial (by simp only[q3,io,k4]<;>kernel_rfl)
  unfold Ih at h
  refine dJ (fun oY=> ?_) (fun oY=> ?_)
  ·
   replace h:=h oY
   obtain⟨g7,h⟩:=h
   refine e0 [] [0,2,2] id (fun H=>ep 3 ⟨0,5,aZ 4 (hw.set U.toNat (ad.mk 3 (nth hw U).af (nth hw U).ac (nth hw U).ap (nth hw U).ar)) hi⟩ H) (True) ?_ (fun oi=> ?_)
   ·
    replace h:=g7
    refine bJ [] 8 ?_
    have j2:=h
    refine j3 4 none [(54,.ptr 3 0 (0+U.toNat) 0),(53,.ptr 3 0 (0+U.toNat) 0),(52,.ptr 3 0 (0+U.toNat) 0)] (aZ 4 hw hi) U 0 1 0 [ag 3] 3 (aZ 4 (hw.set U.toNat (ad.mk 3 (nth hw U).af (nth hw U).ac (nth hw U).ap (nth hw U).ar)) hi) (dL j2.1 j2.2) (ke j2.1 j2.2) ?_
    exact b1 [] trivial
   obtain⟨k6,h⟩:=h
   refine e0 [] [] id (fun H=>ep 3 ⟨0,5,aZ 4 ((hw.set U.toNat (ad.mk 3 (nth hw U).af (nth hw U).ac (nth hw U).ap (nth hw U).ar)).set U.toNat (ad.mk (nth (hw.set U.toNat (ad.mk 3 (nth hw U).af (nth hw U).ac (nth hw U).ap (nth hw U).ar)) U).aq (nth (hw.set U.toNat (ad.mk 3 (nth hw U).af (nth hw U).ac (nth hw U).ap (nth hw U).ar)) U).af (nth (hw.set U.toNat (ad.mk 3 (nth hw U).af (nth hw U).ac (nth hw U).ap (nth hw U).ar)) U).ac (nth (hw.set U.toNat (ad.mk 3 (nth hw U).af (nth hw U).ac (nth hw U).ap (nth hw U).ar)) U).ap J.dn)) hi⟩ H) (True) ?_ (fun l2=> ?_)
   ·
    replace h:=k6
    refine bJ [] 9 ?_
    have jo:=h
    refine j3 6 none [(59,.ptr 3 0 (0+U.toNat) 4),(58,.ptr 3 0 (0+U.toNat) 0),(57,ag J.dn),(56,aB 3 4),(55,.ptr 3 0 (0+U.toNat) 0)] (aZ 4 (hw.set U.toNat (ad.mk 3 (nth hw U).af (nth hw U).ac (nth hw U).ap (nth hw U).ar)) hi) U 4 1 0 [ag J.dn] 3 (aZ 4 ((hw.set U.toNat (ad.mk 3 (nth hw U).af (nth hw U).ac (nth hw U).ap (nth hw U).ar)).set U.toNat (ad.mk (nth (hw.set U.toNat (ad.mk 3 (nth hw U).af (nth hw U).ac (nth hw U).ap (nth hw U).ar)) U).aq (nth (hw.set U.toNat (ad.mk 3 (nth hw U).af (nth hw U).ac (nth hw U).ap (nth hw U).ar)) U).af (nth (hw.set U.toNat (ad.mk 3 (nth hw U).af (nth hw U).ac (nth hw U).ap (nth hw U).ar)) U).ac (nth (hw.set U.toNat (ad.mk 3 (nth hw U).af (nth hw U).ac (nth hw U).ap (nth hw U).ar)) U).ap J.dn)) hi) (dL jo.1 jo.2) (ke jo.1 jo.2) ?_
    exact b1 [] trivial
   refine ev [] 10 [(6,ag 0)] [1] [] ?_
   unfold Ig at h
   refine hC ?_
   refine cn.ret ?_
   refine ck.ret ?_
   refine eb.ret ?_
   refine cn.ret ?_
   refine ec.ret ?_
   refine ms (ag 0) [ag 0] ?_
   exact⟨((hw.set U.toNat (ad.mk 3 (nth hw U).af (nth hw U).ac (nth hw U).ap (nth hw U).ar)).set U.toNat (ad.mk (nth (hw.set U.toNat (ad.mk 3 (nth hw U).af (nth hw U).ac (nth hw U).ap (nth hw U).ar)) U).aq (nth (hw.set U.toNat (ad.mk 3 (nth hw U).af (nth hw U).ac (nth hw U).ap (nth hw U).ar)) U).af (nth (hw.set U.toNat (ad.mk 3 (nth hw U).af (nth hw U).ac (nth hw U).ap (nth hw U).ar)) U).ac (nth (hw.set U.toNat (ad.mk 3 (nth hw U).af (nth hw U).ac (nth hw U).ap (nth hw U).ar)) U).ap J.dn)),hi,hb,0,rfl,(by rw[show hw.length=((hw.set U.toNat (ad.mk 3 (nth hw U).af (nth hw U).ac (nth hw U).ap (nth hw U).ar)).set U.toNat (ad.mk (nth (hw.set U.toNat (ad.mk 3 (nth hw U).af (nth hw U).ac (nth hw U).ap (nth hw U).ar)) U).aq (nth (hw.set U.toNat (ad.mk 3 (nth hw U).af (nth hw U).ac (nth hw U).ap (nth hw U).ar)) U).af (nth (hw.set U.toNat (ad.mk 3 (nth hw U).af (nth hw U).ac (nth hw U).ap (nth hw U).ar)) U).ac (nth (hw.set U.toNat (ad.mk 3 (nth hw U).af (nth hw U).ac (nth hw U).ap (nth hw U).ar)) U).ap J.dn)).length by simp]<;>rfl),h⟩
  ·
   refine ew ?_
   refine cn.normal ?_
   exact ck.normal (by simp only[q3,io,oY]<;>rfl) eo
 replace h:=h ib
 refine bJ [] 11 ?_
 refine dX [(35,ag (IntKind.i64.wrap (cQ+1))),(60,ag (IntKind.i64.wrap (cQ+1)))] ?_
 exact eb.again (IntKind.i64.wrap (cQ+1)) h (dE [])
theorem adh (J:az) (U:Int) (hg:Nat) (hk:Bool) (aC:List Bool) (aj:List bd) (hw:List ad) (hi:List Nat) (hb:List (List Bool)) (aG:NE J U hk aC aj hw hi hb):dF Try.prog 137 [.agg (bq false J),.ptr 0 hg 0 0,ag U] (⟨hg,4,[[ao hk,ak 1 0 aC.length,ak 2 0 aj.length,ak 3 0 hw.length]]⟩::⟨0,1,List.map aW aC⟩::⟨0,2,List.map a5 aj⟩::⟨0,5,aZ 4 hw hi⟩::List.map bi hb) (fun r H'=> ∃(eY:List ad) (ga:List Nat) (eh:List (List Bool)) (al:Int),r=ag al∧H'=(⟨hg,4,[[ao hk,ak 1 0 aC.length,ak 2 0 aj.length,ak 3 0 eY.length]]⟩::⟨0,1,List.map aW aC⟩::⟨0,2,List.map a5 aj⟩::⟨0,5,aZ 4 eY ga⟩::List.map bi eh)∧uC J U hk aC aj hw hi hb aC aj eY ga eh al):=adj J U hg hk aC aj hw hi hb (cv ((nth J.O U).cJ.length:Int) (fun k=>nth aC (nth (nth J.O U).cJ k)&&(nth hw U).ap)) (cG ((nth J.O U).cJ.length:Int)) (by
 unfold If
 obtain⟨G,cF,t0,t1,t2,wF⟩:=aG
 have bc:U.toNat<hw.length:=by omega
 have ji:U.toNat<J.O.length:=by omega
 have kB:=cF.cJ _ (dC ji)
 have nn:=cF.cZ
 have dq:=G.oE bc
 have UC:(nth hw U).aq=(nth (c4 hk aC aj hw hi hb).O U).aq:=dq.aq
 have vW:(nth hw U).ap=(nth (c4 hk aC aj hw hi hb).O U).ap:=dq.ap
 have oK:(((nth hw U).aq !=1)&&((nth hw U).aq !=2))=decide ((nth (c4 hk aC aj hw hi hb).O U).aq≠1∧(nth (c4 hk aC aj hw hi hb).O U).aq≠2):=by
  rw[Bool.eq_iff_iff,UC];simp
 unfold Ik
 rw[oK]
 refine⟨⟨t0,bc⟩,⟨⟨dq.fy,fun _=>dq.fy⟩,fun hc=> ?_⟩,fun hc=>⟨⟨t0,ji⟩,fun aF=> ?_⟩⟩
 ·have hc:=of_decide_eq_true hc
  have e:st (c4 hk aC aj hw hi hb) U=2:=by unfold st;rw[if_pos hc]
  exact⟨G,e.symm,by rw[e];rfl⟩
 have hc: ¬_:=of_decide_eq_false (by simpa only[Bool.not_eq_true'] using hc)
 have hl:st (c4 hk aC aj hw hi hb) U=0:=by unfold st;rw[if_neg hc]
 unfold Ij
 refine⟨di (dt _),fun v aX=>⟨fun hv=>⟨⟨G,t0,t1⟩,fun w i b kj=> ?_⟩,fun hv=> ?_⟩⟩
 ·obtain⟨nM,kl⟩:=kj
  refine⟨nM,hl.symm,?_⟩
  rw[if_pos hl,kl]
  have lY:((nth (c4 hk aC aj hw hi hb).O U).ap&&gK (c4 hk aC aj hw hi hb) (nth J.O U).cJ)=false:=by
   rw[←vW]
   have eC:=l9 (q:=fun x=>nth aC x&&(nth hw U).ap) (gL aX hv)
   cases hs:(nth hw U).ap with
   | false=>rfl
   | true=>
    rw[Bool.true_and]
    unfold gK
    rw[List.any_eq_false]
    intro x hx
    have:=eC x hx
    simp only[hs,Bool.and_true] at this
    show ¬(nth aC x=true)
    rw[this];simp
  unfold Ap
  rw[if_neg (by rw[lY];simp)];rfl
 ·unfold Ii
  have ca:=ch aX hv
  have hx:=kB.2 _ (dC ca.2)
  refine⟨⟨ca,⟨⟨hx.1,by omega⟩,fun _=>dq.fy⟩,?_⟩,fun eh=>c0 (cD aF) aX hv (not_eq eh)⟩
  unfold Ih Ig
  intro eh
  have eA:=dq.setState 3
  refine⟨dq.fy,eA.fy,?_⟩
  have gi:=eA.xy J.dn
  refine⟨gi.G,hl.symm,?_⟩
  rw[if_pos hl]
  have jT:nth aC (nth (nth J.O U).cJ v)=true∧(nth hw U).ap=true:=by simpa using eh
  have Wt:gK (c4 hk aC aj hw hi hb) (nth J.O U).cJ=true:=by
   unfold gK;rw[List.any_eq_true];exact⟨_,dC ca.2,jT.1⟩
  unfold Ap
  rw[if_pos (by rw[Wt,←vW,jT.2];rfl)]
  exact gi.gV)
noncomputable def acH:Code:=iz Try.f92
def acI:List Item:=[av 0,av 1,av 2,av 3,av 4,av 5,av 6,av 7,av 8,av 9]
def acJ:List (List Nat):=[[],[0],[],[2],[],[4],rg 2 6,rg 2 7,rg 0 8,rg 0 9]
def HU (dA:jL Prop) (J:az) (M:Frame) (U:Event):Prop:=
  (((dI J M U.ah)==0)=true→(NF J U.ah (aa M).ok (aa M).au (aa M).an (aa M).O (List.range (aa M).O.length) (List.map ad.ac (aa M).O))∧(∀(hZ:List bd) (z5:List ad),BQ J U.ah (aa M).ok (aa M).au (aa M).an (aa M).O (List.range (aa M).O.length) (List.map ad.ac (aa M).O) (aa M).au hZ z5 (List.range (aa M).O.length) (List.map ad.ac (aa M).O)→(dA (List.map ad.ac (aa M).O) (aa M).au hZ (List.range (aa M).O.length) (dI J M U.ah) z5)))∧(((dI J M U.ah)==0)=false→dA (List.map ad.ac (aa M).O) (aa M).au (aa M).an (List.range (aa M).O.length) (dI J M U.ah) (aa M).O)
def HY (dA:jL Prop) (J:az) (M:Frame) (U:Event):Prop:=
  ((nth M.au (nth J.be U.ah))=true→dA (List.map ad.ac (aa M).O) (aa M).au (aa M).an (List.range (aa M).O.length) 3 (aa M).O)∧((nth M.au (nth J.be U.ah))=false→(0≤U.ah∧U.ah.toNat<(aa M).an.length)∧(dA (List.map ad.ac (aa M).O) (aa M).au ((aa M).an.set U.ah.toNat (bd.mk U.bk (nth (aa M).an U.ah).a2)) (List.range (aa M).O.length) 0 (aa M).O))
def HZ (dA:jL Prop) (J:az) (M:Frame) (U:Event):Prop:=
  ((decide (((gz J M U.ah).length:Int)>0))=true→dA (List.map ad.ac (aa M).O) (aa M).au (aa M).an (List.range (aa M).O.length) 2 (aa M).O)∧((decide (((gz J M U.ah).length:Int)>0))=false→((0≤U.ah∧U.ah.toNat<J.be.length)∧(0≤(nth J.be U.ah)∧(nth J.be U.ah).toNat<M.au.length))∧(HY dA J M U))
def H0 (ay:dN Prop) (aA:dN Nat) (M:Frame) (aV:List (List Bool)) (b5:List Nat) (bm:Int) (aD:List ad):Prop:=
  (((nth (aD.set bm.toNat (ad.mk (nth aD bm).aq (nth aD bm).af (nth aD bm).ac (nth aD bm).ap (IntKind.i64.wrap ((nth aD bm).ar - 1)))) bm).ar==0)=true→(BI bm (aa M).ok (aa M).au (aa M).an (aD.set bm.toNat (ad.mk (nth aD bm).aq (nth aD bm).af (nth aD bm).ac (nth aD bm).ap (IntKind.i64.wrap ((nth aD bm).ar - 1)))) b5 aV)∧(∀(xM:List ad) (i71:List Nat) (vJ:List (List Bool)),uz bm (aa M).ok (aa M).au (aa M).an (aD.set bm.toNat (ad.mk (nth aD bm).aq (nth aD bm).af (nth aD bm).ac (nth aD bm).ap (IntKind.i64.wrap ((nth aD bm).ar - 1)))) b5 aV (aa M).au (aa M).an xM i71 vJ→(ay vJ i71 (IntKind.i64.wrap (bm+1)) xM∧aA vJ i71 (IntKind.i64.wrap (bm+1)) xM<aA aV b5 bm aD)))∧(((nth (aD.set bm.toNat (ad.mk (nth aD bm).aq (nth aD bm).af (nth aD bm).ac (nth aD bm).ap (IntKind.i64.wrap ((nth aD bm).ar - 1)))) bm).ar==0)=false→ay aV b5 (IntKind.i64.wrap (bm+1)) (aD.set bm.toNat (ad.mk (nth aD bm).aq (nth aD bm).af (nth aD bm).ac (nth aD bm).ap (IntKind.i64.wrap ((nth aD bm).ar - 1))))∧aA aV b5 (IntKind.i64.wrap (bm+1)) (aD.set bm.toNat (ad.mk (nth aD bm).aq (nth aD bm).af (nth aD bm).ac (nth aD bm).ap (IntKind.i64.wrap ((nth aD bm).ar - 1))))<aA aV b5 bm aD)
def H2 (ay:dN Prop) (aA:dN Nat) (M:Frame) (aV:List (List Bool)) (b5:List Nat) (bm:Int) (aD:List ad):Prop:=
  ((aD.set bm.toNat (ad.mk (nth aD bm).aq (nth aD bm).af (nth aD bm).ac (nth aD bm).ap (IntKind.i64.wrap ((nth aD bm).ar - 1)))).length=b5.length∧bm.toNat<(aD.set bm.toNat (ad.mk (nth aD bm).aq (nth aD bm).af (nth aD bm).ac (nth aD bm).ap (IntKind.i64.wrap ((nth aD bm).ar - 1)))).length)∧(H0 ay aA M aV b5 bm aD)
def H3 (ay:dN Prop) (aA:dN Nat) (M:Frame) (aV:List (List Bool)) (b5:List Nat) (bm:Int) (aD:List ad):Prop:=
  ((aD.length=b5.length∧bm.toNat<aD.length)∧(((nth aD bm).aq !=3)=true→ay aV b5 (IntKind.i64.wrap (bm+1)) aD∧aA aV b5 (IntKind.i64.wrap (bm+1)) aD<aA aV b5 bm aD))∧((!((nth aD bm).aq !=3))=true→((aD.length=b5.length∧bm.toNat<aD.length)∧(aD.length=b5.length∧bm.toNat<aD.length))∧(H2 ay aA M aV b5 bm aD))
def H4 (ay:dN Prop) (aA:dN Nat) (dA:jL Prop) (M:Frame):Prop:=
  ay (List.map ad.ac (aa M).O) (List.range (aa M).O.length) 0 (aa M).O∧ ∀(aV:List (List Bool)) (b5:List Nat) (bm:Int) (aD:List ad),ay aV b5 bm aD→(((decide (bm<((aa M).O.length:Int)))=false→dA aV (aa M).au (aa M).an b5 0 aD)∧((decide (bm<((aa M).O.length:Int)))=true→(0≤bm∧bm.toNat<aD.length)∧(H3 ay aA M aV b5 bm aD)))
def H5 (ay:dN Prop) (aA:dN Nat) (dA:jL Prop) (J:az) (M:Frame) (U:Event):Prop:=
  ((U.op==5)=true→(0≤U.ah∧U.ah.toNat<(aa M).an.length)∧(dA (List.map ad.ac (aa M).O) (aa M).au ((aa M).an.set U.ah.toNat (bd.mk (nth (aa M).an U.ah).cC U.bk)) (List.range (aa M).O.length) 0 (aa M).O))∧((U.op==5)=false→((U.op==6)=true→(s8 J M U.ah)∧((gz J M U.ah).length≤4611686018427387904→HZ dA J M U))∧((U.op==6)=false→((U.op==7)=true→H4 ay aA dA M)∧((U.op==7)=false→dA (List.map ad.ac (aa M).O) (aa M).au (aa M).an (List.range (aa M).O.length) 0 (aa M).O)))
def H6 (ay:dN Prop) (aA:dN Nat) (dA:jL Prop) (J:az) (M:Frame) (U:Event):Prop:=
  ((U.op==3)=true→(0≤U.ah∧U.ah.toNat<(aa M).au.length)∧(dA (List.map ad.ac (aa M).O) ((aa M).au.set U.ah.toNat true) (aa M).an (List.range (aa M).O.length) 0 (aa M).O))∧((U.op==3)=false→((U.op==4)=true→(0≤U.ah∧U.ah.toNat<(aa M).au.length)∧(dA (List.map ad.ac (aa M).O) ((aa M).au.set U.ah.toNat false) (aa M).an (List.range (aa M).O.length) 0 (aa M).O))∧((U.op==4)=false→H5 ay aA dA J M U))
def HV (ay:dN Prop) (aA:dN Nat) (dA:jL Prop) (J:az) (M:Frame) (U:Event):Prop:=
  ((U.op==2)=true→(NE J U.ah (aa M).ok (aa M).au (aa M).an (aa M).O (List.range (aa M).O.length) (List.map ad.ac (aa M).O))∧(∀(fj:List ad) (i28:List Nat) (kV:List (List Bool)) (xp:Int),uC J U.ah (aa M).ok (aa M).au (aa M).an (aa M).O (List.range (aa M).O.length) (List.map ad.ac (aa M).O) (aa M).au (aa M).an fj i28 kV xp→(dA kV (aa M).au (aa M).an i28 xp fj)))∧((U.op==2)=false→H6 ay aA dA J M U)
def HW (J:az) (M:Frame) (al:fv) (aV:List (List Bool)) (b5:List Nat) (aD:List ad) (aK:(List Bool)) (bo:(List bd)) (c2:Int):Prop:=
  (HD J (aa M).ok aK bo aD b5 aV)∧(∀(ov:List ad) (i82:List Nat) (sr:List (List Bool)),zM J (aa M).ok aK bo aD b5 aV aK bo ov i82 sr→((c2=al.code)∧((aa M).ok=al.frame.ok)∧(aK.length≤4611686018427387904∧aK=al.frame.au)∧(bo.length≤4611686018427387904∧bo=al.frame.an)∧(j_ ov i82 sr∧ov.length≤4611686018427387904∧(∀x∈sr,List.length x≤4611686018427387904)∧view ov i82 sr=al.frame.O)))
def HX (ay:dN Prop) (aA:dN Nat) (dA:jL Prop) (J:az) (M:Frame) (U:Event) (al:fv):Prop:=
  (((rC J M)∧((!(dy J M))=false→OM J U))∧(((!(dy J M)) || (!(e5 J U)))=true→(1=al.code)∧(false=al.frame.ok)∧([]=al.frame.au)∧([]=al.frame.an)∧([]=al.frame.O)))∧((!((!(dy J M)) || (!(e5 J U))))=true→(hM M)∧((((U.op==1)=true→(m9 J M U.ah)∧(HU dA J M U))∧((U.op==1)=false→HV ay aA dA J M U))∧(∀(aV:List (List Bool)) (aK:(List Bool)) (bo:(List bd)) (b5:List Nat) (c2:Int) (aD:List ad),dA aV aK bo b5 c2 aD→(HW J M al aV b5 aD aK bo c2))))
def HT (J:az) (M:Frame) (U:Event) (al:fv) (ay:dN Prop) (aA:dN Nat) (dA:jL Prop):Prop:=
 HX ay aA dA J M U al
theorem acK (J:az) (M:Frame) (U:Event) (al:fv) (ay:dN Prop) (aA:dN Nat) (dA:jL Prop) (h:HT J M U al ay aA dA):bX Try.prog 92 [.agg (bq false J),.agg (bS false M),.agg (iN U)] (.agg (rp true al)):=by
 unfold HT at h
 refine dF.go (fn:=Try.f92) [(0,.agg (bq false J)),(1,.agg (bS false M)),(2,.agg (iN U))] Try.func92 (fun _ _=> ?_)
 show WpS _ (bT acH 1) _ ⟨bf 133 [(0,.agg (bq false J)),(1,.agg (bS false M)),(2,.agg (iN U))],[],[]⟩
 refine WpS.mF ?_ (hB (s'':=⟨(bf 133 [(0,.agg (bq false J)),(1,.agg (bS false M)),(2,.agg (iN U))]),[],[⟨0,4,[]⟩]⟩) (Weak.wY (T:=(bf 133 [(0,.agg (bq false J)),(1,.agg (bS false M)),(2,.agg (iN U))])) (L:=[]) (H:=[]) 4) (by kernel_rfl))
 refine qf [2000007] 0 [(6,aB 6 0),(5,aB 5 0),(4,aB 4 0),(3,aB 3 0)] [4] [] [(6,[ag 0,ao false,aH,aH,aH]),(5,(iN U)),(4,(bS false M)),(3,(bq false J))] [⟨0,4,[]⟩] ?_
 unfold HX at h
 obtain⟨pS,h⟩:=h
 refine cB [] [4] ((!((!(dy J M)) || (!(e5 J U))))=true) ?_ (fun q2=> ?_)
 ·
  replace h:=pS
  obtain⟨jr,h⟩:=h
  refine cB [(20,ao ((!(dy J M)) || (!(e5 J U))))] [4] (True) ?_ (fun q3=> ?_)
  ·
   replace h:=jr
   refine bJ [2000007] 1 ?_
   obtain⟨q4,h⟩:=h
   refine mu 3 (some 13) [(12,.agg (bS false M)),(11,.agg (bq false J))] [.agg (bq false J),.agg (bS false M)] (Qf J M q4) (aE.cons (dc.agg (aE.cons (.int _ _) (aE.cons cW (aE.cons cW (aE.cons cW (aE.cons (.int _ _) aE.nil)))))) (aE.cons (dc.agg (aE.cons (.bool _) (aE.cons cW (aE.cons cW (aE.cons cW aE.nil))))) aE.nil)) ?_
   refine nB 2 15 (!(dy J M)) [(14,ao (!(dy J M)))] (fun cL=> ?_) (fun cL=> ?_)
   ·
    exact b1 ([(20,ao true)]++gp [19,18,17,16]) trivial (by simp only[cL]<;>kernel_rfl)
   ·
    replace h:=h cL
    have cY:=h
    refine mu 3 (some 18) [(17,.agg (iN U)),(16,.agg (bq false J))] [.agg (bq false J),.agg (iN U)] (adq J U cY) (aE.cons (dc.agg (aE.cons (.int _ _) (aE.cons cW (aE.cons cW (aE.cons cW (aE.cons (.int _ _) aE.nil)))))) (aE.cons (dc.agg (aE.cons (.int _ _) (aE.cons (.int _ _) (aE.cons (.int _ _) aE.nil)))) aE.nil)) ?_
    exact b1 [(20,ao (!(e5 J U))),(19,ao (!(e5 J U)))] trivial (by simp only[cL]<;>kernel_rfl)
  refine dJ (fun fL=> ?_) (fun fL=> ?_)
  ·
   replace h:=h fL
   refine qe [2000007] 2 [(21,.agg [ag 1,ao false,aH,aH,aH])] [] [0,1,1] (fun L=>hD 0 0 (ag 1) L) id ?_
   exact hC (ck.ret (nz (.agg [ag 1,ao false,aH,aH,aH]) (iy.agg (aE.cons (xD h.1) (aE.cons (nD h.2.1) (aE.cons (vf h.2.2.1) (aE.cons (vf h.2.2.2.1) (aE.cons (vf h.2.2.2.2) aE.nil))))))))
  ·
   refine ew ?_
   exact ck.normal (by simp only[fL]<;>rfl) eo
 replace h:=h q2
 obtain⟨He,h⟩:=h
 refine e0 [(7,.ptr 0 1 0 0)] [4] id (fun _=>(⟨1,4,[[ao (aa M).ok,ak 1 0 (aa M).au.length,ak 2 0 (aa M).an.length,ak 3 0 (aa M).O.length]]⟩::⟨0,1,List.map aW (aa M).au⟩::⟨0,2,List.map a5 (aa M).an⟩::⟨0,5,aZ 4 (aa M).O (List.range (aa M).O.length)⟩::List.map bi (List.map ad.ac (aa M).O))) (True) ?_ (fun gB=> ?_)
 ·
  replace h:=He
  refine bJ [2000007] 3 ?_
  have hY:=h
  refine tk 2 (some 23) [(22,.agg (bS false M))] [.agg (bS false M)] (.agg [ao (aa M).ok,ak 1 0 (aa M).au.length,ak 2 0 (aa M).an.length,ak 3 0 (aa M).O.length]) (⟨0,4,[]⟩::⟨0,1,List.map aW (aa M).au⟩::⟨0,2,List.map a5 (aa M).an⟩::⟨0,5,aZ 4 (aa M).O (List.range (aa M).O.length)⟩::List.map bi (List.map ad.ac (aa M).O)) (QF M hY) (aE.cons (dc.agg (aE.cons (.bool _) (aE.cons cW (aE.cons cW (aE.cons cW aE.nil))))) aE.nil) B_ (sf PN (by kernel_rfl)) ?_ (er:=by simp[m6,ot,iW])
  refine zF 1 [(7,.ptr 0 1 0 0)] [(6,[ag 0,ao false,aH,aH,aH]),(5,(iN U)),(4,(bS false M)),(3,(bq false J))] (⟨1,4,[[ao false,aH,aH,aH]]⟩::⟨0,1,List.map aW (aa M).au⟩::⟨0,2,List.map a5 (aa M).an⟩::⟨0,5,aZ 4 (aa M).O (List.range (aa M).O.length)⟩::List.map bi (List.map ad.ac (aa M).O)) ?_
  refine Pz 1 [] (⟨1,4,[[ao (aa M).ok,ak 1 0 (aa M).au.length,ak 2 0 (aa M).an.length,ak 3 0 (aa M).O.length]]⟩::⟨0,1,List.map aW (aa M).au⟩::⟨0,2,List.map a5 (aa M).an⟩::⟨0,5,aZ 4 (aa M).O (List.range (aa M).O.length)⟩::List.map bi (List.map ad.ac (aa M).O)) (φ:=1=1) (ψ:=4≤4) rfl (by decide) ?_
  exact b1 [] trivial
 refine ev [2000007] 4 [(8,ag 0)] [1] [5] ?_
 refine hP ?_
 refine ev [2000007] 5 [(25,ag U.op),(24,aB 5 0)] [1] [6] ?_
 obtain⟨sa,h⟩:=h
 refine J1 0 (fun(v:List (List Bool)×(List Bool)×(List bd)×List Nat×Int×List ad)=>(⟨(bf 133 [(3,aB 3 0),(6,aB 6 0),(7,.ptr 0 1 0 0),(8,ag (v.2.2.2.2.1))]),[(6,[ag 0,ao false,aH,aH,aH]),(3,(bq false J))],(⟨1,4,[[ao (aa M).ok,ak 1 0 (v.2.1).length,ak 2 0 (v.2.2.1).length,ak 3 0 (v.2.2.2.2.2).length]]⟩::⟨0,1,List.map aW (v.2.1)⟩::⟨0,2,List.map a5 (v.2.2.1)⟩::⟨0,5,aZ 4 (v.2.2.2.2.2) (v.2.2.2.1)⟩::List.map bi (v.1))⟩:St)) (fun v=>dA (v.1) (v.2.1) (v.2.2.1) (v.2.2.2.1) (v.2.2.2.2.1) (v.2.2.2.2.2)) ?_ (fun v ds=> ?_)
 ·
  replace h:=sa
  refine ev [2000007] 6 [(26,ao (U.op==1)),(27,ao (U.op==1))] [1] [7] ?_
  refine dJ (fun io=> ?_) (fun io=> ?_)
  ·
   replace h:=h.1 io
   obtain⟨g6,h⟩:=h
   refine cB [(8,ag (dI J M U.ah))] [0,3,3,1,1] (True) ?_ (fun kO=> ?_)
   ·
    replace h:=g6
    refine bJ [2000007] 7 ?_
    have iq:=h
    refine mu 5 (some 32) [(31,ag U.ah),(30,aB 5 1),(29,.agg (bS false M)),(28,.agg (bq false J))] [.agg (bq false J),.agg (bS false M),ag U.ah] (Ro J M U.ah iq) (aE.cons (dc.agg (aE.cons (.int _ _) (aE.cons cW (aE.cons cW (aE.cons cW (aE.cons (.int _ _) aE.nil)))))) (aE.cons (dc.agg (aE.cons (.bool _) (aE.cons cW (aE.cons cW (aE.cons cW aE.nil))))) (aE.cons (dc.ia (.int _ _)) aE.nil))) ?_
    exact b1 [(8,ag (dI J M U.ah))] trivial
   refine ev [2000007] 8 [(34,ao ((dI J M U.ah)==0)),(33,ag (dI J M U.ah))] [1] [5] ?_
   unfold HU at h
   refine dJ (fun g5=> ?_) (fun g5=> ?_)
   ·
    replace h:=h.1 g5
    refine bJ [2000007] 9 ?_
    obtain⟨j1,h⟩:=h
    refine tj 4 (some 38) [(37,ag U.ah),(36,aB 5 1),(35,.agg (bq false J))] [.agg (bq false J),.ptr 0 1 0 0,ag U.ah] _ (adF J U.ah 1 (aa M).ok (aa M).au (aa M).an (aa M).O (List.range (aa M).O.length) (List.map ad.ac (aa M).O) j1) (fun r H' aj=>by obtain⟨_,_,rfl,_⟩:=aj;rfl) ?_
    rintro r H' ⟨hZ,z5,rfl,rfl,ib⟩
    replace h:=h hZ z5 ib
    refine dX [] ?_
    refine cn.normal ?_
    exact gX.normal ((List.map ad.ac (aa M).O),(aa M).au,hZ,(List.range (aa M).O.length),(dI J M U.ah),z5) h (dE [5,4])
   ·
    replace h:=h.2 g5
    refine ew ?_
    refine cn.normal ?_
    exact gX.normal ((List.map ad.ac (aa M).O),(aa M).au,(aa M).an,(List.range (aa M).O.length),(dI J M U.ah),(aa M).O) h (dE [5,4])
  ·
   replace h:=h.2 io
   refine ev [2000007] 10 [(39,ao (U.op==2)),(40,ao (U.op==2))] [1] [0,1,7] ?_
   unfold HV at h
   refine dJ (fun h0=> ?_) (fun h0=> ?_)
   ·
    replace h:=h.1 h0
    refine bJ [2000007] 11 ?_
    obtain⟨j2,h⟩:=h
    refine tj 4 (some 44) [(43,ag U.ah),(42,aB 5 1),(41,.agg (bq false J))] [.agg (bq false J),.ptr 0 1 0 0,ag U.ah] _ (adh J U.ah 1 (aa M).ok (aa M).au (aa M).an (aa M).O (List.range (aa M).O.length) (List.map ad.ac (aa M).O) j2) (fun r H' aj=>by obtain⟨_,_,_,_,rfl,_⟩:=aj;rfl) ?_
    rintro r H' ⟨fj,i28,kV,xp,rfl,rfl,l2⟩
    replace h:=h fj i28 kV xp l2
    refine dX [(8,ag xp)] ?_
    refine cn.normal ?_
    exact gX.normal (kV,(aa M).au,(aa M).an,i28,xp,fj) h (dE [5,4])
   ·
    replace h:=h.2 h0
    refine ev [2000007] 12 [(45,ao (U.op==3)),(46,ao (U.op==3))] [1] [0,1,7] ?_
    unfold H6 at h
    refine dJ (fun k5=> ?_) (fun k5=> ?_)
    ·
     replace h:=h.1 k5
     refine bJ [2000007] 13 ?_
     refine nA 2 (some 48) (ak 1 0 (aa M).au.length) [(47,.ptr 0 1 0 1)] (φ:=1=1) rfl ?_
     obtain⟨SQ,h⟩:=h
     refine lB 3 (some 51) [(50,ag U.ah),(49,aB 5 1)] 1 0 1 SQ ?_
     refine tm 1 none [] aW (aa M).au U.ah 0 1 0 [ao true] 1 true (by simpa using SQ.2) ?_
     refine dX [] ?_
     refine cn.normal ?_
     exact gX.normal ((List.map ad.ac (aa M).O),((aa M).au.set U.ah.toNat true),(aa M).an,(List.range (aa M).O.length),0,(aa M).O) h (hB (s':=⟨(bf 133 [(3,aB 3 0),(6,aB 6 0),(7,.ptr 0 1 0 0),(8,ag 0)]),[(6,[ag 0,ao false,aH,aH,aH]),(3,(bq false J))],(⟨1,4,[[ao (aa M).ok,ak 1 0 (aa M).au.length,ak 2 0 (aa M).an.length,ak 3 0 (aa M).O.length]]⟩::⟨0,1,List.map aW ((aa M).au.set U.ah.toNat true)⟩::⟨0,2,List.map a5 (aa M).an⟩::⟨0,5,aZ 4 (aa M).O (List.range (aa M).O.length)⟩::List.map bi (List.map ad.ac (aa M).O))⟩) (dE (n:=133) (A':=[(3,aB 3 0),(6,aB 6 0),(7,.ptr 0 1 0 0),(8,ag 0)]) (L':=[(6,[ag 0,ao false,aH,aH,aH]),(3,(bq false J))]) [5,4]) (congrArg (fun z=>(⟨(bf 133 [(3,aB 3 0),(6,aB 6 0),(7,.ptr 0 1 0 0),(8,ag 0)]),[(6,[ag 0,ao false,aH,aH,aH]),(3,(bq false J))],(⟨1,4,[[ao (aa M).ok,ak 1 0 z,ak 2 0 (aa M).an.length,ak 3 0 (aa M).O.length]]⟩::⟨0,1,List.map aW ((aa M).au.set U.ah.toNat true)⟩::⟨0,2,List.map a5 (aa M).an⟩::⟨0,5,aZ 4 (aa M).O (List.range (aa M).O.length)⟩::List.map bi (List.map ad.ac (aa M).O))⟩:St)) (show(aa M).au.length=((aa M).au.set U.ah.toNat true).length by simp)))
    ·
     replace h:=h.2 k5
     refine ev [2000007] 14 [(52,ao (U.op==4)),(53,ao (U.op==4))] [1] [0,1,7] ?_
     refine dJ (fun g7=> ?_) (fun g7=> ?_)
     ·
      replace h:=h.1 g7
      refine bJ [2000007] 15 ?_
      refine nA 2 (some 55) (ak 1 0 (aa M).au.length) [(54,.ptr 0 1 0 1)] (φ:=1=1) rfl ?_
      obtain⟨SS,h⟩:=h
      refine lB 3 (some 58) [(57,ag U.ah),(56,aB 5 1)] 1 0 1 SS ?_
      refine tm 1 none [] aW (aa M).au U.ah 0 1 0 [ao false] 1 false (by simpa using SS.2) ?_
      refine dX [] ?_
      refine cn.normal ?_
      exact gX.normal ((List.map ad.ac (aa M).O),((aa M).au.set U.ah.toNat false),(aa M).an,(List.range (aa M).O.length),0,(aa M).O) h (hB (s':=⟨(bf 133 [(3,aB 3 0),(6,aB 6 0),(7,.ptr 0 1 0 0),(8,ag 0)]),[(6,[ag 0,ao false,aH,aH,aH]),(3,(bq false J))],(⟨1,4,[[ao (aa M).ok,ak 1 0 (aa M).au.length,ak 2 0 (aa M).an.length,ak 3 0 (aa M).O.length]]⟩::⟨0,1,List.map aW ((aa M).au.set U.ah.toNat false)⟩::⟨0,2,List.map a5 (aa M).an⟩::⟨0,5,aZ 4 (aa M).O (List.range (aa M).O.length)⟩::List.map bi (List.map ad.ac (aa M).O))⟩) (dE (n:=133) (A':=[(3,aB 3 0),(6,aB 6 0),(7,.ptr 0 1 0 0),(8,ag 0)]) (L':=[(6,[ag 0,ao false,aH,aH,aH]),(3,(bq false J))]) [5,4]) (congrArg (fun z=>(⟨(bf 133 [(3,aB 3 0),(6,aB 6 0),(7,.ptr 0 1 0 0),(8,ag 0)]),[(6,[ag 0,ao false,aH,aH,aH]),(3,(bq false J))],(⟨1,4,[[ao (aa M).ok,ak 1 0 z,ak 2 0 (aa M).an.length,ak 3 0 (aa M).O.length]]⟩::⟨0,1,List.map aW ((aa M).au.set U.ah.toNat false)⟩::⟨0,2,List.map a5 (aa M).an⟩::⟨0,5,aZ 4 (aa M).O (List.range (aa M).O.length)⟩::List.map bi (List.map ad.ac (aa M).O))⟩:St)) (show(aa M).au.length=((aa M).au.set U.ah.toNat false).length by simp)))
     ·
      replace h:=h.2 g7
      refine ev [2000007] 16 [(59,ao (U.op==5)),(60,ao (U.op==5))] [1] [0,1,7] ?_
      unfold H5 at h
      refine dJ (fun ly=> ?_) (fun ly=> ?_)
      ·
       replace h:=h.1 ly
       refine bJ [2000007] 17 ?_
       refine nA 2 (some 62) (ak 2 0 (aa M).an.length) [(61,.ptr 0 1 0 2)] (φ:=1=1) rfl ?_
       obtain⟨SV,h⟩:=h
       refine lB 5 (some 67) [(66,ag U.bk),(65,aB 5 2),(64,ag U.ah),(63,aB 5 1)] 2 0 2 SV ?_
       refine tm 2 none [(68,.ptr 2 0 (0+U.ah.toNat) 1)] a5 (aa M).an U.ah 1 1 0 [ag U.bk] 2 (bd.mk (nth (aa M).an U.ah).cC U.bk) (by simpa using SV.2) ?_
       refine dX [] ?_
       refine cn.normal ?_
       exact gX.normal ((List.map ad.ac (aa M).O),(aa M).au,((aa M).an.set U.ah.toNat (bd.mk (nth (aa M).an U.ah).cC U.bk)),(List.range (aa M).O.length),0,(aa M).O) h (hB (s':=⟨(bf 133 [(3,aB 3 0),(6,aB 6 0),(7,.ptr 0 1 0 0),(8,ag 0)]),[(6,[ag 0,ao false,aH,aH,aH]),(3,(bq false J))],(⟨1,4,[[ao (aa M).ok,ak 1 0 (aa M).au.length,ak 2 0 (aa M).an.length,ak 3 0 (aa M).O.length]]⟩::⟨0,1,List.map aW (aa M).au⟩::⟨0,2,List.map a5 ((aa M).an.set U.ah.toNat (bd.mk (nth (aa M).an U.ah).cC U.bk))⟩::⟨0,5,aZ 4 (aa M).O (List.range (aa M).O.length)⟩::List.map bi (List.map ad.ac (aa M).O))⟩) (dE (n:=133) (A':=[(3,aB 3 0),(6,aB 6 0),(7,.ptr 0 1 0 0),(8,ag 0)]) (L':=[(6,[ag 0,ao false,aH,aH,aH]),(3,(bq false J))]) [5,4]) (congrArg (fun z=>(⟨(bf 133 [(3,aB 3 0),(6,aB 6 0),(7,.ptr 0 1 0 0),(8,ag 0)]),[(6,[ag 0,ao false,aH,aH,aH]),(3,(bq false J))],(⟨1,4,[[ao (aa M).ok,ak 1 0 (aa M).au.length,ak 2 0 z,ak 3 0 (aa M).O.length]]⟩::⟨0,1,List.map aW (aa M).au⟩::⟨0,2,List.map a5 ((aa M).an.set U.ah.toNat (bd.mk (nth (aa M).an U.ah).cC U.bk))⟩::⟨0,5,aZ 4 (aa M).O (List.range (aa M).O.length)⟩::List.map bi (List.map ad.ac (aa M).O))⟩:St)) (show(aa M).an.length=((aa M).an.set U.ah.toNat (bd.mk (nth (aa M).an U.ah).cC U.bk)).length by simp)))
      ·
       replace h:=h.2 ly
       refine ev [2000007] 18 [(69,ao (U.op==6)),(70,ao (U.op==6))] [1] [0,1,7] ?_
       refine dJ (fun jp=> ?_) (fun jp=> ?_)
       ·
        replace h:=h.1 jp
        obtain⟨jq,h⟩:=h
        refine cB [(77,ao (decide (((gz J M U.ah).length:Int)>0)))] [0,2,6] ((gz J M U.ah).length≤4611686018427387904) ?_ (fun nw=> ?_)
        ·
         replace h:=jq
         refine bJ [2000007] 19 ?_
         have l3:=h
         refine mu 5 (some 75) [(74,ag U.ah),(73,aB 5 1),(72,.agg (bS false M)),(71,.agg (bq false J))] [.agg (bq false J),.agg (bS false M),ag U.ah] (Q6 J M U.ah l3) (aE.cons (dc.agg (aE.cons (.int _ _) (aE.cons cW (aE.cons cW (aE.cons cW (aE.cons (.int _ _) aE.nil)))))) (aE.cons (dc.agg (aE.cons (.bool _) (aE.cons cW (aE.cons cW (aE.cons cW aE.nil))))) (aE.cons (dc.ia (.int _ _)) aE.nil))) ?_
         refine sLen 1 (some 76) [] db (gz J M U.ah) (fun k7=> ?_)
         exact b1 [(77,ao (decide (((gz J M U.ah).length:Int)>0)))] k7
        replace h:=h nw
        unfold HZ at h
        refine dJ (fun l4=> ?_) (fun l4=> ?_)
        ·
         replace h:=h.1 l4
         refine bJ [2000007] 20 ?_
         refine dX [(8,ag 2)] ?_
         refine cn.normal ?_
         exact gX.normal ((List.map ad.ac (aa M).O),(aa M).au,(aa M).an,(List.range (aa M).O.length),2,(aa M).O) h (dE [5,4])
        ·
         replace h:=h.2 l4
         obtain⟨l5,h⟩:=h
         refine cB [(87,ao (nth M.au (nth J.be U.ah)))] [0,1,4,1,1] (True) ?_ (fun mn=> ?_)
         ·
          replace h:=l5
          refine ny [2000007] 21 acI acJ [] ?_
          obtain⟨m1,h⟩:=h
          refine sh 7 (some 84) [(83,ag U.ah),(82,aB 5 1),(81,bE db J.be),(80,aB 3 1),(79,bE aW M.au),(78,aB 4 1)] db J.be 1 m1 ?_
          have m0:=h
          refine sh 2 (some 86) [(85,ag (nth J.be U.ah))] aW M.au 1 m0 ?_
          exact kR [(87,ao (nth M.au (nth J.be U.ah)))] trivial
         unfold HY at h
         refine dJ (fun pQ=> ?_) (fun pQ=> ?_)
         ·
          replace h:=h.1 pQ
          refine bJ [2000007] 22 ?_
          refine dX [(8,ag 3)] ?_
          refine cn.normal ?_
          exact gX.normal ((List.map ad.ac (aa M).O),(aa M).au,(aa M).an,(List.range (aa M).O.length),3,(aa M).O) h (dE [5,4])
         ·
          replace h:=h.2 pQ
          refine bJ [2000007] 23 ?_
          refine nA 2 (some 89) (ak 2 0 (aa M).an.length) [(88,.ptr 0 1 0 2)] (φ:=1=1) rfl ?_
          obtain⟨SW,h⟩:=h
          refine lB 5 (some 94) [(93,ag U.bk),(92,aB 5 2),(91,ag U.ah),(90,aB 5 1)] 2 0 2 SW ?_
          refine tm 2 none [(95,.ptr 2 0 (0+U.ah.toNat) 0)] a5 (aa M).an U.ah 0 1 0 [ag U.bk] 2 (bd.mk U.bk (nth (aa M).an U.ah).a2) (by simpa using SW.2) ?_
          refine dX [] ?_
          refine cn.normal ?_
          exact gX.normal ((List.map ad.ac (aa M).O),(aa M).au,((aa M).an.set U.ah.toNat (bd.mk U.bk (nth (aa M).an U.ah).a2)),(List.range (aa M).O.length),0,(aa M).O) h (hB (s':=⟨(bf 133 [(3,aB 3 0),(6,aB 6 0),(7,.ptr 0 1 0 0),(8,ag 0)]),[(6,[ag 0,ao false,aH,aH,aH]),(3,(bq false J))],(⟨1,4,[[ao (aa M).ok,ak 1 0 (aa M).au.length,ak 2 0 (aa M).an.length,ak 3 0 (aa M).O.length]]⟩::⟨0,1,List.map aW (aa M).au⟩::⟨0,2,List.map a5 ((aa M).an.set U.ah.toNat (bd.mk U.bk (nth (aa M).an U.ah).a2))⟩::⟨0,5,aZ 4 (aa M).O (List.range (aa M).O.length)⟩::List.map bi (List.map ad.ac (aa M).O))⟩) (dE (n:=133) (A':=[(3,aB 3 0),(6,aB 6 0),(7,.ptr 0 1 0 0),(8,ag 0)]) (L':=[(6,[ag 0,ao false,aH,aH,aH]),(3,(bq false J))]) [5,4]) (congrArg (fun z=>(⟨(bf 133 [(3,aB 3 0),(6,aB 6 0),(7,.ptr 0 1 0 0),(8,ag 0)]),[(6,[ag 0,ao false,aH,aH,aH]),(3,(bq false J))],(⟨1,4,[[ao (aa M).ok,ak 1 0 (aa M).au.length,ak 2 0 z,ak 3 0 (aa M).O.length]]⟩::⟨0,1,List.map aW (aa M).au⟩::⟨0,2,List.map a5 ((aa M).an.set U.ah.toNat (bd.mk U.bk (nth (aa M).an U.ah).a2))⟩::⟨0,5,aZ 4 (aa M).O (List.range (aa M).O.length)⟩::List.map bi (List.map ad.ac (aa M).O))⟩:St)) (show(aa M).an.length=((aa M).an.set U.ah.toNat (bd.mk U.bk (nth (aa M).an U.ah).a2)).length by simp)))
       ·
        replace h:=h.2 jp
        refine ev [2000007] 24 [(96,ao (U.op==7)),(97,ao (U.op==7))] [1] [0,2,3,2,1] ?_
        refine dJ (fun lz=> ?_) (fun lz=> ?_)
        ·
         replace h:=h.1 lz
         refine cB [(100,ag ((aa M).O.length:Int)),(101,ag 0)] [0,1,4] (True) ?_ (fun mo=> ?_)
         ·
          refine bJ [2000007] 25 ?_
          refine nA 2 (some 99) (ak 3 0 (aa M).O.length) [(98,.ptr 0 1 0 3)] (φ:=1=1) rfl ?_
          exact b1 [(101,ag 0),(100,ag ((aa M).O.length:Int))] trivial
         unfold H4 at h
         refine fw 1 ?_
         obtain⟨m3,h⟩:=h
         refine kz (fun(v:List (List Bool)×List Nat×Int×List ad)=>(⟨(bf 133 [(3,aB 3 0),(6,aB 6 0),(7,.ptr 0 1 0 0),(8,ag 0),(100,ag ((aa M).O.length:Int)),(101,ag (v.2.2.1))]),[(6,[ag 0,ao false,aH,aH,aH]),(3,(bq false J))],(⟨1,4,[[ao (aa M).ok,ak 1 0 (aa M).au.length,ak 2 0 (aa M).an.length,ak 3 0 (v.2.2.2).length]]⟩::⟨0,1,List.map aW (aa M).au⟩::⟨0,2,List.map a5 (aa M).an⟩::⟨0,5,aZ 4 (v.2.2.2) (v.2.1)⟩::List.map bi (v.1))⟩:St)) (fun(v:List (List Bool)×List Nat×Int×List ad)=>ay (v.1) (v.2.1) (v.2.2.1) (v.2.2.2)) (fun(v:List (List Bool)×List Nat×Int×List ad)=>aA (v.1) (v.2.1) (v.2.2.1) (v.2.2.2)) ((List.map ad.ac (aa M).O),(List.range (aa M).O.length),0,(aa M).O) (dE [5,4]) m3 (fun v aX=> ?_)
         obtain⟨aV,b5,bm,aD⟩:=v
         replace h:=h aV b5 bm aD aX
         dsimp only
         refine ev [2000007] 26 [(102,ao (decide (bm<((aa M).O.length:Int))))] [1] [6] ?_
         obtain⟨xm,h⟩:=h
         refine cB [] [0,1,6] ((decide (bm<((aa M).O.length:Int)))=true) ?_ (fun mq=> ?_)
         ·
          replace h:=xm
          refine dJ (fun o1=> ?_) (fun o1=> ?_)
          ·
           refine ew ?_
           exact ck.normal (by simp only[q2,io,h0,k5,g7,ly,jp,lz,o1]<;>rfl) eo
          ·
           replace h:=h o1
           refine je 1 ?_
           refine ck.exit ?_
           refine eb.exit ?_
           refine cn.here ?_
           refine cn.normal ?_
           exact gX.normal (aV,(aa M).au,(aa M).an,b5,0,aD) h (dE [])
         replace h:=h mq
         refine hP ?_
         refine fw 2 ?_
         refine ev [2000007] 27 [(9,ag bm),(103,ag bm)] [1] [6] ?_
         obtain⟨tf,h⟩:=h
         refine cB [(10,.ptr 3 0 (0+bm.toNat) 0)] [0,1,6] (True) ?_ (fun qO=> ?_)
         ·
          replace h:=tf
          refine bJ [2000007] 28 ?_
          refine nA 2 (some 105) (ak 3 0 aD.length) [(104,.ptr 0 1 0 3)] (φ:=1=1) rfl ?_
          have afv:=h
          refine lB 2 (some 107) [(106,ag bm)] 3 0 5 afv ?_
          exact b1 [(10,.ptr 3 0 (0+bm.toNat) 0)] trivial
         unfold H3 at h
         obtain⟨te,h⟩:=h
         refine cB [] [7] ((!((nth aD bm).aq !=3))=true) ?_ (fun mr=> ?_)
         ·
          replace h:=te
          obtain⟨om,h⟩:=h
          refine cB [(112,ao ((nth aD bm).aq !=3))] [7] (True) ?_ (fun xk=> ?_)
          ·
           replace h:=om
           refine bJ [2000007] 29 ?_
           have oj:=h
           refine iF 4 (some 111) [(110,.ptr 3 0 (0+bm.toNat) 0),(109,.ptr 3 0 (0+bm.toNat) 0),(108,.ptr 3 0 (0+bm.toNat) 0)] (aZ 4 aD b5) bm 3 0 0 (ag (nth aD bm).aq) (dL oj.1 oj.2) ?_
           exact b1 [(112,ao ((nth aD bm).aq !=3))] trivial
          refine dJ (fun ol=> ?_) (fun ol=> ?_)
          ·
           replace h:=h ol
           refine je 2 ?_
           refine ck.exit ?_
           refine cn.here ?_
           refine ec.normal ?_
           refine bJ [2000007] 33 ?_
           refine dX [(101,ag (IntKind.i64.wrap (bm+1))),(127,ag (IntKind.i64.wrap (bm+1)))] ?_
           exact eb.again (aV,b5,(IntKind.i64.wrap (bm+1)),aD) h (dE [])
          ·
           refine ew ?_
           exact ck.normal (by simp only[q2,io,h0,k5,g7,ly,jp,lz,mq,ol]<;>rfl) eo
         replace h:=h mr
         obtain⟨td,h⟩:=h
         refine e0 [] [7] id (fun H=>ep 3 ⟨0,5,aZ 4 (aD.set bm.toNat (ad.mk (nth aD bm).aq (nth aD bm).af (nth aD bm).ac (nth aD bm).ap (IntKind.i64.wrap ((nth aD bm).ar - 1)))) b5⟩ H) (True) ?_ (fun nx=> ?_)
         ·
          replace h:=td
          refine bJ [2000007] 30 ?_
          obtain⟨kP,h⟩:=h
          refine iF 4 (some 116) [(115,.ptr 3 0 (0+bm.toNat) 4),(114,.ptr 3 0 (0+bm.toNat) 0),(113,.ptr 3 0 (0+bm.toNat) 0)] (aZ 4 aD b5) bm 3 4 0 (ag (nth aD bm).ar) (dL kP.1 kP.2) ?_
          have m2:=h
          refine j3 4 none [(119,.ptr 3 0 (0+bm.toNat) 4),(118,.ptr 3 0 (0+bm.toNat) 0),(117,ag (IntKind.i64.wrap ((nth aD bm).ar - 1)))] (aZ 4 aD b5) bm 4 1 0 [ag (IntKind.i64.wrap ((nth aD bm).ar - 1))] 3 (aZ 4 (aD.set bm.toNat (ad.mk (nth aD bm).aq (nth aD bm).af (nth aD bm).ac (nth aD bm).ap (IntKind.i64.wrap ((nth aD bm).ar - 1)))) b5) (dL m2.1 m2.2) (ke m2.1 m2.2) ?_
          exact b1 [] trivial
         unfold H2 at h
         obtain⟨qP,h⟩:=h
         refine cB [(124,ao ((nth (aD.set bm.toNat (ad.mk (nth aD bm).aq (nth aD bm).af (nth aD bm).ac (nth aD bm).ap (IntKind.i64.wrap ((nth aD bm).ar - 1)))) bm).ar==0))] [7] (True) ?_ (fun Cn=> ?_)
         ·
          replace h:=qP
          refine bJ [2000007] 31 ?_
          have pR:=h
          refine iF 4 (some 123) [(122,.ptr 3 0 (0+bm.toNat) 4),(121,.ptr 3 0 (0+bm.toNat) 0),(120,.ptr 3 0 (0+bm.toNat) 0)] (aZ 4 (aD.set bm.toNat (ad.mk (nth aD bm).aq (nth aD bm).af (nth aD bm).ac (nth aD bm).ap (IntKind.i64.wrap ((nth aD bm).ar - 1)))) b5) bm 3 4 0 (ag (nth (aD.set bm.toNat (ad.mk (nth aD bm).aq (nth aD bm).af (nth aD bm).ac (nth aD bm).ap (IntKind.i64.wrap ((nth aD bm).ar - 1)))) bm).ar) (dL pR.1 pR.2) ?_
          exact b1 [(124,ao ((nth (aD.set bm.toNat (ad.mk (nth aD bm).aq (nth aD bm).af (nth aD bm).ac (nth aD bm).ap (IntKind.i64.wrap ((nth aD bm).ar - 1)))) bm).ar==0))] trivial
         unfold H0 at h
         refine dJ (fun r9=> ?_) (fun r9=> ?_)
         ·
          replace h:=h.1 r9
          refine bJ [2000007] 32 ?_
          obtain⟨r_,h⟩:=h
          refine Py (⟨1,4,[[ao (aa M).ok,ak 1 0 (aa M).au.length,ak 2 0 (aa M).an.length,ak 3 0 (aD.set bm.toNat (ad.mk (nth aD bm).aq (nth aD bm).af (nth aD bm).ac (nth aD bm).ap (IntKind.i64.wrap ((nth aD bm).ar - 1)))).length]]⟩::⟨0,1,List.map aW (aa M).au⟩::⟨0,2,List.map a5 (aa M).an⟩::⟨0,5,aZ 4 (aD.set bm.toNat (ad.mk (nth aD bm).aq (nth aD bm).af (nth aD bm).ac (nth aD bm).ap (IntKind.i64.wrap ((nth aD bm).ar - 1)))) b5⟩::List.map bi aV) (by rw[show aD.length=(aD.set bm.toNat (ad.mk (nth aD bm).aq (nth aD bm).af (nth aD bm).ac (nth aD bm).ap (IntKind.i64.wrap ((nth aD bm).ar - 1)))).length by simp]<;>rfl) ?_
          refine tj 2 (some 126) [(125,.ptr 3 0 (0+bm.toNat) 0)] [.ptr 3 0 (0+bm.toNat) 0] _ (Iw bm 1 (aa M).ok (aa M).au (aa M).an (aD.set bm.toNat (ad.mk (nth aD bm).aq (nth aD bm).af (nth aD bm).ac (nth aD bm).ap (IntKind.i64.wrap ((nth aD bm).ar - 1)))) b5 aV r_) (fun r H' aj=>by obtain⟨_,_,_,rfl,_⟩:=aj;rfl) ?_
          rintro r H' ⟨xM,i71,vJ,rfl,rfl,tc⟩
          replace h:=h xM i71 vJ tc
          refine dX [] ?_
          refine cn.normal ?_
          refine ec.normal ?_
          refine bJ [2000007] 33 ?_
          refine dX [(101,ag (IntKind.i64.wrap (bm+1))),(127,ag (IntKind.i64.wrap (bm+1)))] ?_
          exact eb.again (vJ,i71,(IntKind.i64.wrap (bm+1)),xM) h (dE [])
         ·
          replace h:=h.2 r9
          refine ew ?_
          refine cn.normal ?_
          refine ec.normal ?_
          refine bJ [2000007] 33 ?_
          refine dX [(101,ag (IntKind.i64.wrap (bm+1))),(127,ag (IntKind.i64.wrap (bm+1)))] ?_
          exact eb.again (aV,b5,(IntKind.i64.wrap (bm+1)),(aD.set bm.toNat (ad.mk (nth aD bm).aq (nth aD bm).af (nth aD bm).ac (nth aD bm).ap (IntKind.i64.wrap ((nth aD bm).ar - 1))))) h (hB (s':=⟨(bf 133 [(3,aB 3 0),(6,aB 6 0),(7,.ptr 0 1 0 0),(8,ag 0),(100,ag ((aa M).O.length:Int)),(101,ag (IntKind.i64.wrap (bm+1)))]),[(6,[ag 0,ao false,aH,aH,aH]),(3,(bq false J))],(⟨1,4,[[ao (aa M).ok,ak 1 0 (aa M).au.length,ak 2 0 (aa M).an.length,ak 3 0 aD.length]]⟩::⟨0,1,List.map aW (aa M).au⟩::⟨0,2,List.map a5 (aa M).an⟩::⟨0,5,aZ 4 (aD.set bm.toNat (ad.mk (nth aD bm).aq (nth aD bm).af (nth aD bm).ac (nth aD bm).ap (IntKind.i64.wrap ((nth aD bm).ar - 1)))) b5⟩::List.map bi aV)⟩) (dE (n:=133) (A':=[(3,aB 3 0),(6,aB 6 0),(7,.ptr 0 1 0 0),(8,ag 0),(100,ag ((aa M).O.length:Int)),(101,ag (IntKind.i64.wrap (bm+1)))]) (L':=[(6,[ag 0,ao false,aH,aH,aH]),(3,(bq false J))]) []) (congrArg (fun z=>(⟨(bf 133 [(3,aB 3 0),(6,aB 6 0),(7,.ptr 0 1 0 0),(8,ag 0),(100,ag ((aa M).O.length:Int)),(101,ag (IntKind.i64.wrap (bm+1)))]),[(6,[ag 0,ao false,aH,aH,aH]),(3,(bq false J))],(⟨1,4,[[ao (aa M).ok,ak 1 0 (aa M).au.length,ak 2 0 (aa M).an.length,ak 3 0 z]]⟩::⟨0,1,List.map aW (aa M).au⟩::⟨0,2,List.map a5 (aa M).an⟩::⟨0,5,aZ 4 (aD.set bm.toNat (ad.mk (nth aD bm).aq (nth aD bm).af (nth aD bm).ac (nth aD bm).ap (IntKind.i64.wrap ((nth aD bm).ar - 1)))) b5⟩::List.map bi aV)⟩:St)) (show aD.length=(aD.set bm.toNat (ad.mk (nth aD bm).aq (nth aD bm).af (nth aD bm).ac (nth aD bm).ap (IntKind.i64.wrap ((nth aD bm).ar - 1)))).length by simp)))
        ·
         replace h:=h.2 lz
         refine ew ?_
         refine cn.normal ?_
         exact gX.normal ((List.map ad.ac (aa M).O),(aa M).au,(aa M).an,(List.range (aa M).O.length),0,(aa M).O) h (dE [5,4])
 obtain⟨aV,aK,bo,b5,c2,aD⟩:=v
 replace h:=h aV aK bo b5 c2 aD ds
 dsimp only
 unfold HW at h
 refine hP ?_
 refine bJ [2000007] 34 ?_
 obtain⟨Co,h⟩:=h
 refine tj 2 (some 129) [(128,.agg (bq false J))] [.agg (bq false J),.ptr 0 1 0 0] _ (Q0 J 1 (aa M).ok aK bo aD b5 aV Co) (fun r H' aj=>by obtain⟨_,_,_,rfl,_⟩:=aj;rfl) ?_
 rintro r H' ⟨ov,i82,sr,rfl,rfl,zx⟩
 replace h:=h ov i82 sr zx
 refine dX [] ?_
 refine ec.normal ?_
 refine ka ⟨(bf 133 [(6,aB 6 0)]),[(6,[ag c2,ao (aa M).ok,ak 1 0 aK.length,ak 2 0 bo.length,ak 3 0 ov.length]),(3,(bq false J))],(⟨1,4,[[ao (aa M).ok,ak 1 0 aK.length,ak 2 0 bo.length,ak 3 0 ov.length]]⟩::⟨0,1,List.map aW aK⟩::⟨0,2,List.map a5 bo⟩::⟨0,5,aZ 4 ov i82⟩::List.map bi sr)⟩ (True) ?_ (fun tg=> ?_)
 ·
  refine bJ [2000007] 35 ?_
  refine nA 2 (some 131) (.agg [ao (aa M).ok,ak 1 0 aK.length,ak 2 0 bo.length,ak 3 0 ov.length]) [(130,ag c2)] (φ:=1=1) rfl ?_
  exact b1 [(132,.agg [ag c2,ao (aa M).ok,ak 1 0 aK.length,ak 2 0 bo.length,ak 3 0 ov.length])] trivial
 exact hC (nz (.agg [ag c2,ao (aa M).ok,ak 1 0 aK.length,ak 2 0 bo.length,ak 3 0 ov.length]) (iy.agg (aE.cons (xD h.1) (aE.cons (nD h.2.1) (aE.cons (q0 (sz:=1) (by simp) rfl (vP) h.2.2.1) (aE.cons (q0 (sz:=2) (by simp) rfl (ya) h.2.2.2.1) (aE.cons (CF (s:=4) (ws:=ov) (ids:=i82) (bs:=sr) (by simp) rfl (fun id k h=>by simpa using h) h.2.2.2.2) aE.nil)))))))
theorem acG (J:az) (M:Frame) (U:Event) (aG:tl J M U):bX Try.prog 92 [.agg (bq false J),.agg (bS false M),.agg (iN U)] (.agg (rp true (ef J M U))):=acK J M U (ef J M U) (fun bs is v ws=>cv M.O.length (fun _=>false) v∧gr ws is bs∧view ws is bs=h4 J v.toNat M.O) (fun _ _ v _=>cG M.O.length v) (fun bs o q is c ws=>gr ws is bs∧c=fg J M U∧Frame.mk M.ok o q (view ws is bs)=jD J M U) (by
 unfold HT HX
 have hs:hM M:=aG
 have lZ:=hs
 obtain⟨xS,ox,z9,vv⟩:=lZ
 refine⟨⟨⟨hs,fun hk=> ?_⟩,fun hc=> ?_⟩,fun hc=> ?_⟩
 ·have hk:dy J M=true:=by simpa using hk
  have h1:=(mf hk).in.cZ
  exact⟨by omega,by omega⟩
 ·have hc: ¬(dy J M&&e5 J U)=true:=by
   intro h;rw[Bool.and_eq_true] at h;rw[h.1,h.2] at hc;cases hc
  have e:ef J M U=⟨1,⟨false,[],[],[]⟩⟩:=by unfold ef;rw[if_neg hc]
  rw[e];exact⟨rfl,rfl,rfl,rfl,rfl⟩
 have hc:dy J M=true∧e5 J U=true:=by simpa using hc
 obtain⟨hk,he⟩:=hc
 have hf:=mf hk
 have cF:=hf.in
 have c_:=hf.fr
 have aL:=c_.O
 have qw:=c_.au
 have kZ:=c_.an
 have yL:=cF.O
 have nn:=cF.cZ
 have wK:=cF.sw
 have Fa:ef J M U=⟨fg J M U,ee J (jD J M U)⟩:=by unfold ef;rw[if_pos (by rw[hk,he];rfl)]
 obtain⟨fq,fV,fC⟩:=v9 M.O
 have lm:gr M.O (List.range M.O.length) (M.O.map ad.ac):=⟨fq,fV,fun b hb=>by
  obtain⟨h,bV,rfl⟩:=List.mem_map.1 hb;exact vv h bV⟩
 have BA:c4 (aa M).ok (aa M).au (aa M).an (aa M).O (List.range (aa M).O.length) (List.map ad.ac (aa M).O)=M:=by
  show Frame.mk M.ok M.au M.an (view M.O (List.range M.O.length) (List.map ad.ac M.O))=M
  rw[fC]
 have Ma:view (aa M).O (List.range (aa M).O.length) (List.map ad.ac (aa M).O)=M.O:=fC
 have lY: ∀c:Int,c=fg J M U→c≠0→gr M.O (List.range M.O.length) (M.O.map ad.ac)∧c=fg J M U∧Frame.mk M.ok M.au M.an (view M.O (List.range M.O.length) (M.O.map ad.ac))=jD J M U:=fun c hc cm=>⟨lm,hc,by
  unfold jD;rw[if_neg (by rw[←hc];exact cm),fC]⟩
 have E5:fg J M U=0→jD J M U=hj J M U:=fun h=>by unfold jD;rw[if_pos h]
 refine⟨hs,⟨fun h1=> ?_,fun h1=> ?_⟩,fun bs o q is c ws ds=> ?_⟩
 ·have h1:U.op=1:=by simpa using h1
  have bp:=rr he (.inl h1)
  have rI:fg J M U=dI J M U.ah:=by unfold fg;rw[if_pos h1]
  unfold HU
  refine⟨⟨hf,bp.1,bp.2⟩,fun aN=>⟨⟨lm,cF,bp.1,by show U.ah<(M.O.length:Int);omega,bp.2,kZ⟩,fun q w kj=> ?_⟩,fun aN=> ?_⟩
  ·have aN:dI J M U.ah=0:=by simpa using aN
   obtain⟨aj,G,hv⟩:=kj
   rw[Ma] at hv
   refine⟨G,rI.symm,?_⟩
   rw[E5 (by rw[rI,aN])]
   unfold hj
   rw[if_pos h1,hv,aj];rfl
  ·have aN: ¬dI J M U.ah=0:=by simpa using aN
   exact lY _ rI.symm aN
 ·have h1: ¬U.op=1:=by simpa using h1
  unfold HV
  refine⟨fun h2=> ?_,fun h2=> ?_⟩
  ·have h2:U.op=2:=by simpa using h2
   have bp:=rr he (.inr h2)
   refine⟨⟨lm,cF,bp.1,by show U.ah<(M.O.length:Int);omega,bp.2,qw⟩,fun w i b r kj=> ?_⟩
   unfold uC at kj
   rw[BA,Ma] at kj
   obtain⟨G,aJ,hv⟩:=kj
   have rI:fg J M U=st M U.ah:=by unfold fg;rw[if_neg h1,if_pos h2];rfl
   refine⟨G,aJ.trans rI.symm,?_⟩
   unfold jD
   rw[rI,hv]
   by_cases aN:st M U.ah=0
   ·rw[if_pos aN,if_pos aN]
    unfold hj Ap
    rw[if_neg h1,if_pos h2,Md c_ bp.1 bp.2]
    split<;>rfl
   ·rw[if_neg aN,if_neg aN];rfl
  have h2: ¬U.op=2:=by simpa using h2
  have ok: ∀(o:List Bool) (q:List bd),fg J M U=0→hj J M U={M with au:=o,an:=q}→gr M.O (List.range M.O.length) (M.O.map ad.ac)∧0=fg J M U∧Frame.mk M.ok o q (view M.O (List.range M.O.length) (M.O.map ad.ac))=jD J M U:=fun o q hc bg=>⟨lm,hc.symm,by rw[E5 hc,fC,bg]⟩
  unfold H6
  refine⟨fun aO=> ?_,fun aO=>⟨fun bb=> ?_,fun bb=> ?_⟩⟩
  ·have aO:U.op=3:=by simpa using aO
   have bp:=Ea he (.inl aO)
   refine⟨⟨bp.1,by show U.ah.toNat<M.au.length;omega⟩,ok _ _ ?_ ?_⟩
   ·unfold fg;rw[if_neg h1,if_neg h2,if_neg (by omega)]
   ·unfold hj;rw[if_neg h1,if_neg h2,if_pos (.inl aO),aO];rfl
  ·have bb:U.op=4:=by simpa using bb
   have bp:=Ea he (.inr bb)
   refine⟨⟨bp.1,by show U.ah.toNat<M.au.length;omega⟩,ok _ _ ?_ ?_⟩
   ·unfold fg;rw[if_neg h1,if_neg h2,if_neg (by omega)]
   ·unfold hj;rw[if_neg h1,if_neg h2,if_pos (.inr bb),bb];rfl
  have afP: ¬U.op=3:=by simpa using aO
  have afQ: ¬U.op=4:=by simpa using bb
  have aO: ¬(U.op=3∨U.op=4):=by omega
  unfold H5
  refine⟨fun cb=> ?_,fun cb=> ?_⟩
  ·have cb:U.op=5:=by simpa using cb
   have bp:=v7 he (.inl cb)
   refine⟨⟨bp.1,by show U.ah.toNat<M.an.length;omega⟩,ok _ _ ?_ ?_⟩
   ·unfold fg;rw[if_neg h1,if_neg h2,if_neg (by omega)]
   ·unfold hj;rw[if_neg h1,if_neg h2,if_neg aO,if_pos cb];rfl
  have cb: ¬U.op=5:=by simpa using cb
  refine⟨fun cE=> ?_,fun cE=>⟨fun gF=> ?_,fun gF=> ?_⟩⟩
  ·have cE:U.op=6:=by simpa using cE
   have bp:=v7 he (.inr cE)
   have jU:fg J M U=if iR J M U.ah=true then 2 else if km J M U.ah=true then 3 else 0:=by unfold fg;rw[if_neg h1,if_neg h2,if_pos cE]
   refine⟨⟨hf,bp.1,bp.2⟩,fun _=> ?_⟩
   unfold HZ HY
   have Fg:=cF.be _ (dC (show U.ah.toNat<J.be.length by omega))
   refine⟨fun hc=> ?_,fun hc=>⟨⟨⟨bp.1,by omega⟩,Fg.1,by omega⟩,fun aC=> ?_,fun aC=>⟨⟨bp.1,by show _<M.an.length;omega⟩,ok _ _ ?_ ?_⟩⟩⟩
   ·rw[if_pos (show iR J M U.ah=true from hc)] at jU
    exact lY 2 jU.symm (by decide)
   ·rw[if_neg (show ¬iR J M U.ah=true by rw[show iR J M U.ah=false from hc];simp),if_pos (show km J M U.ah=true from aC)] at jU
    exact lY 3 jU.symm (by decide)
   ·rw[if_neg (show ¬iR J M U.ah=true by rw[show iR J M U.ah=false from hc];simp),if_neg (show ¬km J M U.ah=true by rw[show km J M U.ah=false from aC];simp)] at jU
    exact jU
   ·unfold hj;rw[if_neg h1,if_neg h2,if_neg aO,if_neg cb,if_pos cE];rfl
  ·have cE: ¬U.op=6:=by simpa using cE
   have gF:U.op=7:=by simpa using gF
   have jU:fg J M U=0:=by unfold fg;rw[if_neg h1,if_neg h2,if_neg cE]
   unfold H4
   refine⟨⟨di (dt _),lm,fC⟩,fun bs is v ws aX=> ?_⟩
   obtain⟨aX,G,jV⟩:=aX
   have yX:ws.length=M.O.length:=by rw[←ja G.ok,jV,zZ]
   refine⟨fun hv=>⟨G,jU.symm,?_⟩,fun hv=> ?_⟩
   ·have kl: ¬v<(M.O.length:Int):=of_decide_eq_false hv
    have a4:=aX.1
    have hb:=aX.2.1
    rw[E5 jU,jV,show v.toNat=M.O.length by omega]
    unfold hj;rw[if_neg h1,if_neg h2,if_neg aO,if_neg cb,if_neg cE,if_pos gF];rfl
   ·have ca:=ch aX hv
    have bc:v.toNat<ws.length:=by omega
    have wA:v.toNat<J.O.length:=by omega
    have dq:dl (h4 J v.toNat M.O) is v (nth (h4 J v.toNat M.O) v) ws bs:=dl.start G.ok G.kM bc jV G.len
    have bj:=c0 (by omega) aX hv rfl
    have qy:=jM (show(M.O.length:Int)≤4611686018427387904 by omega) aX.1 (of_decide_eq_true hv)
    have eA:=dq.xy (IntKind.i64.wrap ((nth ws v).ar - 1))
    have fin: ∀{dd:List Nat} {ku:List ad} {me:List (List Bool)} {x:ad},dl (h4 J v.toNat M.O) dd v x ku me→x=lE J v.toNat (nth (h4 J v.toNat M.O) v)→(cv M.O.length (fun _=>false) (IntKind.i64.wrap (v+1))∧gr ku dd me∧view ku dd me=h4 J (IntKind.i64.wrap (v+1)).toNat M.O)∧cG M.O.length (IntKind.i64.wrap (v+1))<cG M.O.length v:=fun F hx=>by
     refine⟨⟨bj.1,F.G,?_⟩,bj.2⟩
     rw[F.gV,hx,qy,show(v+1).toNat=v.toNat+1 by omega]
     show _=(h4 J v.toNat M.O).set v.toNat (lE J v.toNat (nth (h4 J v.toNat M.O) (v.toNat:Int)))
     rw[iU ca.1]
    have bp:(nth (ws.set v.toNat (ad.mk (nth ws v).aq (nth ws v).af (nth ws v).ac (nth ws v).ap (IntKind.i64.wrap ((nth ws v).ar - 1)))) v).ar=IntKind.i64.wrap ((nth ws v).ar - 1):=eA.ar
    have EW:bQ J (v.toNat:Int)=bQ J v:=by rw[Int.toNat_of_nonneg ca.1]
    unfold H3 H2 H0
    rw[bp,dq.ar,dq.aq]
    rw[dq.ar,dq.aq] at eA
    refine⟨⟨ca.1,bc⟩,⟨dq.fy,fun aO=>fin dq ?_⟩,fun aO=>⟨⟨dq.fy,dq.fy⟩,eA.fy,fun aT=>⟨⟨eA.G,ca.1,by have:=eA.lt;omega⟩,fun w i b kj=> ?_⟩,fun aT=>fin eA ?_⟩⟩
    ·unfold lE;rw[if_neg (by simpa using aO)]
    ·obtain⟨nM,kl⟩:=kj
     refine fin (eA.again nM kl) ?_
     have hb:=I8 c_ v.toNat
     have eh:=Md hb ca.1 (by omega)
     unfold lE
     rw[if_pos (by simpa using aO),if_pos (by simpa using aT),EW,←eh,eA.w6]
    ·unfold lE;rw[if_pos (by simpa using aO),if_neg (by simpa using aT)]
  ·have cE: ¬U.op=6:=by simpa using cE
   have gF: ¬U.op=7:=by simpa using gF
   refine ok _ _ ?_ ?_
   ·unfold fg;rw[if_neg h1,if_neg h2,if_neg cE]
   ·unfold hj;rw[if_neg h1,if_neg h2,if_neg aO,if_neg cb,if_neg cE,if_neg gF];rfl
 ·obtain⟨G,hc,bg⟩:=ds
  have ca:=N5 c_ he
  have pv:c4 (aa M).ok o q ws is bs=jD J M U:=bg
  have k0:=qY J (jD J M U) (jD J M U).O.length
  unfold HW
  refine⟨⟨G,cF,by rw[pv];exact ca⟩,fun w i b kj=> ?_⟩
  obtain⟨nM,kl⟩:=kj
  rw[pv] at kl
  rw[←bg] at ca
  have aC:=ca.au
  have aj:=ca.an
  replace aC:(o.length:Int)=J.ai:=aC
  replace aj:q.length=J.be.length:=aj
  have yX:w.length=(jD J M U).O.length:=by rw[←ja nM.ok,kl];exact o3 _ _ _
  have hml:(jD J M U).O.length=J.O.length:=by rw[←bg];exact ca.O
  rw[Fa]
  refine⟨hc,?_,⟨by omega,?_⟩,⟨by omega,?_⟩,nM.ok,by omega,fun x hx=>by have:=nM.len x hx;omega,kl⟩
  ·show M.ok=(ee J (jD J M U)).ok
   unfold ee;rw[k0.1,←bg]
  ·show o=(ee J (jD J M U)).au
   unfold ee;rw[k0.2.1,←bg]
  ·show q=(ee J (jD J M U)).an
   unfold ee;rw[k0.2.2,←bg])
def Qd:dY Try.prog:=⟨92,[.c8,.frame,.fE],[.done],some fun x=>tl x.1 x.2.1 x.2.2.1,fun x=>((ef x.1 x.2.1 x.2.2.1),()),fun x h=>acG x.1 x.2.1 x.2.2.1 h⟩
noncomputable def adn:Code:=iz Try.f93
def Ir (ay:ie Prop) (aA:ie Nat) (J:Frame) (aV:List (List Bool)) (a1 bP:Nat) (aP:List Nat) (aQ:Int) (ws2:List ad):Prop:=
  ay (aV++[(nth J.O aQ).ac]) (a1+1) (bP+1) (aP++[aV.length]) (IntKind.i64.wrap (aQ+1)) (ws2++[(ad.mk (nth J.O aQ).aq (nth J.O aQ).af (nth J.O aQ).ac (nth J.O aQ).ap (nth J.O aQ).ar)])∧aA (aV++[(nth J.O aQ).ac]) (a1+1) (bP+1) (aP++[aV.length]) (IntKind.i64.wrap (aQ+1)) (ws2++[(ad.mk (nth J.O aQ).aq (nth J.O aQ).af (nth J.O aQ).ac (nth J.O aQ).ap (nth J.O aQ).ar)])<aA aV a1 bP aP aQ ws2
def Is (ay:ie Prop) (aA:ie Nat) (J al:Frame) (aV:List (List Bool)) (a1 bP:Nat) (aP:List Nat) (aQ:Int) (ws2:List ad):Prop:=
  ((decide (aQ<(J.O.length:Int)))=false→(J.ok=al.ok)∧(J.au.length≤4611686018427387904∧J.au=al.au)∧(J.an.length≤4611686018427387904∧J.an=al.an)∧(j_ ws2 aP aV∧ws2.length≤4611686018427387904∧(∀x∈aV,List.length x≤4611686018427387904)∧view ws2 aP aV=al.O))∧((decide (aQ<(J.O.length:Int)))=true→((0≤aQ∧aQ.toNat<J.O.length)∧(((nth J.O aQ).ac.length*1≤140737488355328∧(nth J.O aQ).ac.length≤4611686018427387904)∧(ws2.length=aP.length∧((ws2.length+1)*56≤140737488355328∧ws2.length+1≤4611686018427387904))))∧(Ir ay aA J aV a1 bP aP aQ ws2))
def It (ay:ie Prop) (aA:ie Nat) (J al:Frame):Prop:=
  (J.au.length*1≤140737488355328∧J.au.length≤4611686018427387904)∧((J.an.length*16≤140737488355328∧J.an.length≤4611686018427387904)∧(J.O.length≤4611686018427387904→ay ([]:List (List Bool)) 0 0 ([]:List Nat) 0 ([]:List ad)∧ ∀(aV:List (List Bool)) (a1:Nat) (bP:Nat) (aP:List Nat) (aQ:Int) (ws2:List ad),ay aV a1 bP aP aQ ws2→(Is ay aA J al aV a1 bP aP aQ ws2)))
def Iq (J:Frame) (al:Frame) (ay:ie Prop) (aA:ie Nat):Prop:=
 It ay aA J al
theorem adp (J:Frame) (al:Frame) (ay:ie Prop) (aA:ie Nat) (h:Iq J al ay aA):bX Try.prog 93 [.agg (bS false J)] (.agg (bS true al)):=by
 unfold Iq at h
 refine dF.go (fn:=Try.f93) [(0,.agg (bS false J))] Try.func93 (fun _ _=> ?_)
 show WpS _ (bT adn 1) _ ⟨bf 43 [(0,.agg (bS false J))],[],[]⟩
 refine qf [1000003] 0 [(2,aB 2 0),(1,aB 1 0)] [2] [] [(2,[ao false,aH,aH,aH]),(1,(bS false J))] [] ?_
 refine qe [1000003] 1 [(3,aB 3 0),(9,.agg [ao J.ok,aH,aH,aH]),(8,ao J.ok),(7,aB 1 0)] [1] [2] (fun L=>(3,[ao J.ok,aH,aH,aH])::L) id ?_
 unfold It at h
 obtain⟨h0,h⟩:=h
 refine e0 [] [3] (fun L=>hD 0 1 (ak 0 0 J.au.length) L) (fun _=>[⟨0,1,List.map aW J.au⟩]) (True) ?_ (fun q3=> ?_)
 ·
  replace h:=h0
  refine bJ [1000003] 2 ?_
  have q4:=h
  refine qW 5 (some 14) [(13,bE aW J.au),(12,aB 1 1),(11,aH),(10,aB 3 1)] aW J.au (k8 false (List.map aW J.au)) 0 1 1 (fun r=>[⟨0,1,r⟩]) rfl q4 ?_
  exact b1 [(15,aB 3 1)] trivial
 obtain⟨ir,h⟩:=h
 refine e0 [] [3] (fun L=>hD 0 2 (ak 1 0 J.an.length) L) (fun H=>H++[⟨0,2,List.map a5 J.an⟩]) (True) ?_ (fun cL=> ?_)
 ·
  replace h:=ir
  refine bJ [1000003] 3 ?_
  have cY:=h
  refine qW 5 (some 20) [(19,bE a5 J.an),(18,aB 1 2),(17,aH),(16,aB 3 2)] a5 J.an (k8 false (List.map a5 J.an)) 1 2 16 (fun r=>[⟨0,1,List.map aW J.au⟩,⟨0,2,r⟩]) rfl cY ?_
  exact b1 [(21,aB 3 2)] trivial
 refine hP ?_
 refine cB [(23,bE (cX false) J.O),(24,ag (J.O.length:Int)),(25,ag 0)] [2] (J.O.length≤4611686018427387904) ?_ (fun fL=> ?_)
 ·
  refine bJ [1000003] 4 ?_
  refine sLen 3 (some 24) [(23,bE (cX false) J.O),(22,aB 1 3)] (cX false) J.O (fun fB=> ?_)
  exact b1 [(25,ag 0)] fB
 replace h:=h fL
 refine fw 0 ?_
 refine WpS.mF ?_ (hB (s'':=⟨(bf 43 [(23,bE (cX false) J.O),(24,ag (J.O.length:Int)),(25,ag 0),(3,aB 3 0),(2,aB 2 0)]),[(3,[ao J.ok,ak 0 0 J.au.length,ak 1 0 J.an.length,ak 2 0 ([]:List ad).length]),(2,[ao false,aH,aH,aH]),(1,(bS false J))],[⟨0,1,List.map aW J.au⟩,⟨0,2,List.map a5 J.an⟩,⟨0,5,aZ 4 ([]:List ad) ([]:List Nat)⟩]⟩) (Weak.vG (T:=(bf 43 [(23,bE (cX false) J.O),(24,ag (J.O.length:Int)),(25,ag 0),(3,aB 3 0),(2,aB 2 0)])) (L:=[(3,[ao J.ok,ak 0 0 J.au.length,ak 1 0 J.an.length,aH]),(2,[ao false,aH,aH,aH]),(1,(bS false J))]) (H:=[⟨0,1,List.map aW J.au⟩,⟨0,2,List.map a5 J.an⟩]) (cells:=[ao J.ok,ak 0 0 J.au.length,ak 1 0 J.an.length,aH]) 3 3 5 (by kernel_rfl) (by kernel_rfl)) (by kernel_rfl))
 refine WpS.mF ?_ (hB (s'':=⟨(bf 43 [(23,bE (cX false) J.O),(24,ag (J.O.length:Int)),(25,ag 0),(3,aB 3 0),(2,aB 2 0)]),[(3,[ao J.ok,ak 0 0 J.au.length,ak 1 0 J.an.length,ak 2 0 ([]:List ad).length]),(2,[ao false,aH,aH,aH]),(1,(bS false J))],(⟨0,1,List.map aW J.au⟩::⟨0,2,List.map a5 J.an⟩::⟨0,5,aZ 4 ([]:List ad) ([]:List Nat)⟩::⟨0,5,[]⟩::List.map bi ([]:List (List Bool)))⟩) (Weak.wY (T:=(bf 43 [(23,bE (cX false) J.O),(24,ag (J.O.length:Int)),(25,ag 0),(3,aB 3 0),(2,aB 2 0)])) (L:=[(3,[ao J.ok,ak 0 0 J.au.length,ak 1 0 J.an.length,ak 2 0 ([]:List ad).length]),(2,[ao false,aH,aH,aH]),(1,(bS false J))]) (H:=[⟨0,1,List.map aW J.au⟩,⟨0,2,List.map a5 J.an⟩,⟨0,5,aZ 4 ([]:List ad) ([]:List Nat)⟩]) 5) (by kernel_rfl))
 obtain⟨g6,h⟩:=h
 refine kz (fun(v:List (List Bool)×Nat×Nat×List Nat×Int×List ad)=>(⟨(bf 43 [(2,aB 2 0),(3,aB 3 0),(23,bE (cX false) J.O),(24,ag (J.O.length:Int)),(25,ag (v.2.2.2.2.1))]),[(3,[ao J.ok,ak 0 0 J.au.length,ak 1 0 J.an.length,ak 2 (v.2.1) (v.2.2.2.2.2).length]),(2,[ao false,aH,aH,aH])],(⟨0,1,List.map aW J.au⟩::⟨0,2,List.map a5 J.an⟩::⟨(v.2.1),5,aZ 4 (v.2.2.2.2.2) (v.2.2.2.1)⟩::⟨(v.2.2.1),5,[]⟩::List.map bi (v.1))⟩:St)) (fun(v:List (List Bool)×Nat×Nat×List Nat×Int×List ad)=>ay (v.1) (v.2.1) (v.2.2.1) (v.2.2.2.1) (v.2.2.2.2.1) (v.2.2.2.2.2)) (fun(v:List (List Bool)×Nat×Nat×List Nat×Int×List ad)=>aA (v.1) (v.2.1) (v.2.2.1) (v.2.2.2.1) (v.2.2.2.2.1) (v.2.2.2.2.2)) (([]:List (List Bool)),0,0,([]:List Nat),0,([]:List ad)) (dE [1]) g6 (fun v aX=> ?_)
 obtain⟨aV,a1,bP,aP,aQ,ws2⟩:=v
 replace h:=h aV a1 bP aP aQ ws2 aX
 dsimp only
 refine ev [1000003] 5 [(26,ao (decide (aQ<(J.O.length:Int))))] [1] [5] ?_
 unfold Is at h
 obtain⟨ib,h⟩:=h
 refine cB [] [0,1,5] ((decide (aQ<(J.O.length:Int)))=true) ?_ (fun gB=> ?_)
 ·
  replace h:=ib
  refine dJ (fun hY=> ?_) (fun hY=> ?_)
  ·
   refine ew ?_
   exact ck.normal (by simp only[hY]<;>rfl) eo
  ·
   replace h:=h hY
   refine je 0 ?_
   refine ck.exit ?_
   refine eb.exit ?_
   refine cn.here ?_
   refine ec.normal ?_
   refine ka ⟨(bf 43 [(2,aB 2 0)]),[(3,[ao J.ok,ak 0 0 J.au.length,ak 1 0 J.an.length,ak 2 a1 ws2.length]),(2,[ao J.ok,ak 0 0 J.au.length,ak 1 0 J.an.length,ak 2 a1 ws2.length])],(⟨0,1,List.map aW J.au⟩::⟨0,2,List.map a5 J.an⟩::⟨a1,5,aZ 4 ws2 aP⟩::⟨bP,5,[]⟩::List.map bi aV)⟩ (True) ?_ (fun iV=> ?_)
   ·
    refine bJ [1000003] 11 ?_
    exact b1 [(42,.agg [ao J.ok,ak 0 0 J.au.length,ak 1 0 J.an.length,ak 2 a1 ws2.length])] trivial
   exact hC (nz (.agg [ao J.ok,ak 0 0 J.au.length,ak 1 0 J.an.length,ak 2 a1 ws2.length]) (iy.agg (aE.cons (nD h.1) (aE.cons (q0 (sz:=1) (by simp) rfl (vP) h.2.1) (aE.cons (q0 (sz:=2) (by simp) rfl (ya) h.2.2.1) (aE.cons (CF (s:=4) (ws:=ws2) (ids:=aP) (bs:=aV) (by simp) rfl (fun id k h=>by simpa using h) h.2.2.2) aE.nil))))))
 replace h:=h gB
 obtain⟨j1,h⟩:=h
 refine e0 [] [5] (fun L=>(6,[ag (nth J.O aQ).aq,ag (nth J.O aQ).af,ak (aV.length+4) 0 (nth J.O aQ).ac.length,ao (nth J.O aQ).ap,ag (nth J.O aQ).ar])::(5,(cX false (nth J.O aQ)))::hD 0 3 (ak 2 (a1+1) (ws2++[(ad.mk (nth J.O aQ).aq (nth J.O aQ).af (nth J.O aQ).ac (nth J.O aQ).ap (nth J.O aQ).ar)]).length) L) (fun _=>(⟨0,1,List.map aW J.au⟩::⟨0,2,List.map a5 J.an⟩::⟨(a1+1),5,aZ 4 (ws2++[(ad.mk (nth J.O aQ).aq (nth J.O aQ).af (nth J.O aQ).ac (nth J.O aQ).ap (nth J.O aQ).ar)]) (aP++[aV.length])⟩::⟨(bP+1),5,[[ag (nth J.O aQ).aq,ag (nth J.O aQ).af,ak (aV.length+4) 0 (nth J.O aQ).ac.length,ao (nth J.O aQ).ap,ag (nth J.O aQ).ar]]⟩::List.map bi (aV++[(nth J.O aQ).ac]))) (True) ?_ (fun fK=> ?_)
 ·
  replace h:=j1
  refine fw 1 ?_
  obtain⟨kp,h⟩:=h
  refine e0 [(5,aB 5 0)] [5] (fun L=>(5,(cX false (nth J.O aQ)))::L) id (True) ?_ (fun r7=> ?_)
  ·
   replace h:=kp
   refine bJ [1000003] 6 ?_
   have io:=h
   refine kQ 1 (some 27) [] (cX false) J.O 5 io ?_
   exact b1 [(5,aB 5 0),(28,.agg (cX false (nth J.O aQ)))] trivial
  refine qe [1000003] 7 [(6,aB 6 0),(29,.agg (cX false (nth J.O aQ)))] [1] [6] (fun L=>(6,(cX false (nth J.O aQ)))::L) id ?_
  obtain⟨hZ,h⟩:=h
  refine e0 [] [1,1,5] (fun L=>er 0 [ag (nth J.O aQ).aq,ag (nth J.O aQ).af,ak (aV.length+4) 0 (nth J.O aQ).ac.length,ao (nth J.O aQ).ap,ag (nth J.O aQ).ar] L) (fun _=>(⟨0,1,List.map aW J.au⟩::⟨0,2,List.map a5 J.an⟩::⟨a1,5,aZ 4 ws2 aP⟩::⟨bP,5,[]⟩::List.map bi (aV++[(nth J.O aQ).ac]))) (True) ?_ (fun iq=> ?_)
  ·
   replace h:=hZ
   refine bJ [1000003] 8 ?_
   have lx:=h
   refine Pv 4 (some 33) [(32,bE aW (nth J.O aQ).ac),(31,aB 5 2),(30,aH)] (nth J.O aQ).ac 1 (aV.length+4) (⟨0,1,List.map aW J.au⟩::⟨0,2,List.map a5 J.an⟩::⟨a1,5,aZ 4 ws2 aP⟩::⟨bP,5,[]⟩::List.map bi (aV++[(nth J.O aQ).ac])) lx (by simp) (by simp only[List.cons_append,rv]) ?_
   exact b1 [(34,aB 6 2)] trivial
  refine bJ [1000003] 9 ?_
  refine zF 4 [(38,.ref 3 (bP+1) 0 1 true),(37,.agg [ag (nth J.O aQ).aq,ag (nth J.O aQ).af,ak (aV.length+4) 0 (nth J.O aQ).ac.length,ao (nth J.O aQ).ap,ag (nth J.O aQ).ar]),(36,ak 2 a1 ws2.length),(35,aB 3 3)] [(6,[ag (nth J.O aQ).aq,ag (nth J.O aQ).af,ak (aV.length+4) 0 (nth J.O aQ).ac.length,ao (nth J.O aQ).ap,ag (nth J.O aQ).ar]),(5,(cX false (nth J.O aQ))),(3,[ao J.ok,ak 0 0 J.au.length,ak 1 0 J.an.length,ak 2 a1 ws2.length]),(2,[ao false,aH,aH,aH])] (⟨0,1,List.map aW J.au⟩::⟨0,2,List.map a5 J.an⟩::⟨a1,5,aZ 4 ws2 aP⟩::⟨(bP+1),5,[[ag (nth J.O aQ).aq,ag (nth J.O aQ).af,ak (aV.length+4) 0 (nth J.O aQ).ac.length,ao (nth J.O aQ).ap,ag (nth J.O aQ).ar]]⟩::List.map bi (aV++[(nth J.O aQ).ac])) ?_
  have g5:=h
  refine Hv 1 (some 39) [] 4 2 a1 (bP+1) 56 ws2 aP (ad.mk (nth J.O aQ).aq (nth J.O aQ).af (nth J.O aQ).ac (nth J.O aQ).ap (nth J.O aQ).ar) aV.length (fun r=>(⟨0,1,List.map aW J.au⟩::⟨0,2,List.map a5 J.an⟩::⟨(a1+1),5,r⟩::⟨(bP+1),5,[[ag (nth J.O aQ).aq,ag (nth J.O aQ).af,ak (aV.length+4) 0 (nth J.O aQ).ac.length,ao (nth J.O aQ).ap,ag (nth J.O aQ).ar]]⟩::List.map bi (aV++[(nth J.O aQ).ac]))) g5.1 g5.2 ?_
  refine CB [(40,aB 3 3)] [(6,[ag (nth J.O aQ).aq,ag (nth J.O aQ).af,ak (aV.length+4) 0 (nth J.O aQ).ac.length,ao (nth J.O aQ).ap,ag (nth J.O aQ).ar]),(5,(cX false (nth J.O aQ))),(3,[ao J.ok,ak 0 0 J.au.length,ak 1 0 J.an.length,ak 2 (a1+1) (ws2++[(ad.mk (nth J.O aQ).aq (nth J.O aQ).af (nth J.O aQ).ac (nth J.O aQ).ap (nth J.O aQ).ar)]).length]),(2,[ao false,aH,aH,aH])] (⟨0,1,List.map aW J.au⟩::⟨0,2,List.map a5 J.an⟩::⟨(a1+1),5,aZ 4 (ws2++[(ad.mk (nth J.O aQ).aq (nth J.O aQ).af (nth J.O aQ).ac (nth J.O aQ).ap (nth J.O aQ).ar)]) (aP++[aV.length])⟩::⟨(bP+1),5,[[ag (nth J.O aQ).aq,ag (nth J.O aQ).af,ak (aV.length+4) 0 (nth J.O aQ).ac.length,ao (nth J.O aQ).ap,ag (nth J.O aQ).ar]]⟩::List.map bi (aV++[(nth J.O aQ).ac])) ?_
  refine cn.normal ?_
  exact ck.normal trivial eo
 unfold Ir at h
 refine bJ [1000003] 10 ?_
 refine dX [(25,ag (IntKind.i64.wrap (aQ+1))),(41,ag (IntKind.i64.wrap (aQ+1)))] ?_
 exact eb.again ((aV++[(nth J.O aQ).ac]),(a1+1),(bP+1),(aP++[aV.length]),(IntKind.i64.wrap (aQ+1)),(ws2++[(ad.mk (nth J.O aQ).aq (nth J.O aQ).af (nth J.O aQ).ac (nth J.O aQ).ap (nth J.O aQ).ar)])) h ((Weak.clear 3 rfl:Weak ⟨(bf 43 [(25,ag (IntKind.i64.wrap (aQ+1))),(41,ag (IntKind.i64.wrap (aQ+1))),(2,aB 2 0),(3,aB 3 0),(23,bE (cX false) J.O),(24,ag (J.O.length:Int))]),[(6,[ag (nth J.O aQ).aq,ag (nth J.O aQ).af,ak (aV.length+4) 0 (nth J.O aQ).ac.length,ao (nth J.O aQ).ap,ag (nth J.O aQ).ar]),(5,(cX false (nth J.O aQ))),(3,[ao J.ok,ak 0 0 J.au.length,ak 1 0 J.an.length,ak 2 (a1+1) (ws2++[(ad.mk (nth J.O aQ).aq (nth J.O aQ).af (nth J.O aQ).ac (nth J.O aQ).ap (nth J.O aQ).ar)]).length]),(2,[ao false,aH,aH,aH])],(⟨0,1,List.map aW J.au⟩::⟨0,2,List.map a5 J.an⟩::⟨(a1+1),5,aZ 4 (ws2++[(ad.mk (nth J.O aQ).aq (nth J.O aQ).af (nth J.O aQ).ac (nth J.O aQ).ap (nth J.O aQ).ar)]) (aP++[aV.length])⟩::⟨(bP+1),5,[[ag (nth J.O aQ).aq,ag (nth J.O aQ).af,ak (aV.length+4) 0 (nth J.O aQ).ac.length,ao (nth J.O aQ).ap,ag (nth J.O aQ).ar]]⟩::List.map bi (aV++[(nth J.O aQ).ac]))⟩ ⟨(bf 43 [(25,ag (IntKind.i64.wrap (aQ+1))),(41,ag (IntKind.i64.wrap (aQ+1))),(2,aB 2 0),(3,aB 3 0),(23,bE (cX false) J.O),(24,ag (J.O.length:Int))]),[(6,[ag (nth J.O aQ).aq,ag (nth J.O aQ).af,ak (aV.length+4) 0 (nth J.O aQ).ac.length,ao (nth J.O aQ).ap,ag (nth J.O aQ).ar]),(5,(cX false (nth J.O aQ))),(3,[ao J.ok,ak 0 0 J.au.length,ak 1 0 J.an.length,ak 2 (a1+1) (ws2++[(ad.mk (nth J.O aQ).aq (nth J.O aQ).af (nth J.O aQ).ac (nth J.O aQ).ap (nth J.O aQ).ar)]).length]),(2,[ao false,aH,aH,aH])],(⟨0,1,List.map aW J.au⟩::⟨0,2,List.map a5 J.an⟩::⟨(a1+1),5,aZ 4 (ws2++[(ad.mk (nth J.O aQ).aq (nth J.O aQ).af (nth J.O aQ).ac (nth J.O aQ).ap (nth J.O aQ).ar)]) (aP++[aV.length])⟩::⟨(bP+1),5,[]⟩::List.map bi (aV++[(nth J.O aQ).ac]))⟩).trans (dE [6,5]))
theorem adm (J:Frame) (aG:hM J):bX Try.prog 93 [.agg (bS false J)] (.agg (bS true (aa J))):=adp J (aa J) (fun bs _ _ is v ws=>cv J.O.length (fun _=>false) v∧ws=J.O.take v.toNat∧is=List.range ws.length∧bs=ws.map ad.ac) (fun _ _ _ _ v _=>cG J.O.length v) (by
 unfold Iq It
 obtain⟨zk,zl,GP,s7⟩:=aG
 refine⟨⟨by omega,by omega⟩,⟨by omega,by omega⟩,fun aF=>⟨⟨di (dt _),rfl,rfl,rfl⟩,fun bs a1 bP is v ws aX=> ?_⟩⟩
 unfold Is Ir
 obtain⟨aX,rfl,hi,hb⟩:=aX
 refine⟨fun hv=> ?_,fun hv=>⟨⟨ch aX hv,?_,?_,?_,?_⟩,⟨(c0 (cD aF) aX hv rfl).1,?_,?_,?_⟩,(c0 (cD aF) aX hv rfl).2⟩⟩
 ·have: ¬v<(J.O.length:Int):=by simpa using hv
  have h1:=aX.1
  rw[List.take_of_length_le (by omega)] at hi hb ⊢
  obtain⟨fq,fV,fC⟩:=v9 J.O
  subst hi;subst hb
  exact⟨rfl,⟨by omega,rfl⟩,⟨by omega,rfl⟩,fq,by omega,fun b hb=>by
   obtain⟨h,bV,rfl⟩:=List.mem_map.1 hb;have:=s7 h bV;omega,fC⟩
 ·have:=s7 _ (dC (ch aX hv).2)
  exact⟨by omega,by omega⟩
 ·rw[hi];simp
 ·rw[List.length_take];omega
 ·rw[List.length_take];omega
 ·have ca:=ch aX hv
  rw[jM (cD aF) ca.1 (by omega),show(v+1).toNat=v.toNat+1 by omega,List.take_succ_eq_append_getElem ca.2,←gH ca.2]
 ·rw[hi,hb];simp[List.range_succ]
 ·rw[hb,List.map_append];rfl)
def ado:dY Try.prog:=⟨93,[.frame],[.frame],some fun x=>hM x.1,fun x=>((aa x.1),()),fun x h=>adm x.1 h⟩
abbrev o7 (r:Type):Type:=Nat→(List fv)→Bool→(List Bool)→(List bd)→(List ad)→Int→r
def Qq (ay:o7 Prop) (aA:o7 Nat) (J:az) (M:(List Event)) (bt:Nat) (a8:(List fv)) (b2:Bool) (b3:(List Bool)) (b4:(List bd)) (bZ:(List ad)) (gC:Int):Prop:=
  ((a8.length+[(fv.mk (ef J (Frame.mk b2 b3 b4 bZ) (nth M gC)).code (aa (Frame.mk b2 b3 b4 bZ)))].length)*88≤140737488355328∧a8.length+[(fv.mk (ef J (Frame.mk b2 b3 b4 bZ) (nth M gC)).code (aa (Frame.mk b2 b3 b4 bZ)))].length≤4611686018427387904)∧(ay (bt+1) (a8++[(fv.mk (ef J (Frame.mk b2 b3 b4 bZ) (nth M gC)).code (aa (Frame.mk b2 b3 b4 bZ)))]) (aa (Frame.mk b2 b3 b4 bZ)).ok (aa (Frame.mk b2 b3 b4 bZ)).au (aa (Frame.mk b2 b3 b4 bZ)).an (aa (Frame.mk b2 b3 b4 bZ)).O (IntKind.i64.wrap (gC+1))∧aA (bt+1) (a8++[(fv.mk (ef J (Frame.mk b2 b3 b4 bZ) (nth M gC)).code (aa (Frame.mk b2 b3 b4 bZ)))]) (aa (Frame.mk b2 b3 b4 bZ)).ok (aa (Frame.mk b2 b3 b4 bZ)).au (aa (Frame.mk b2 b3 b4 bZ)).an (aa (Frame.mk b2 b3 b4 bZ)).O (IntKind.i64.wrap (gC+1))<aA bt a8 b2 b3 b4 bZ gC)
def Qr (ay:o7 Prop) (aA:o7 Nat) (J:az) (M:(List Event)) (bt:Nat) (a8:(List fv)) (b2:Bool) (b3:(List Bool)) (b4:(List bd)) (bZ:(List ad)) (gC:Int):Prop:=
  ((a8.length+[(ef J (Frame.mk b2 b3 b4 bZ) (nth M gC))].length)*88≤140737488355328∧a8.length+[(ef J (Frame.mk b2 b3 b4 bZ) (nth M gC))].length≤4611686018427387904)∧(ay (bt+1) (a8++[(ef J (Frame.mk b2 b3 b4 bZ) (nth M gC))]) (ef J (Frame.mk b2 b3 b4 bZ) (nth M gC)).frame.ok (ef J (Frame.mk b2 b3 b4 bZ) (nth M gC)).frame.au (ef J (Frame.mk b2 b3 b4 bZ) (nth M gC)).frame.an (ef J (Frame.mk b2 b3 b4 bZ) (nth M gC)).frame.O (IntKind.i64.wrap (gC+1))∧aA (bt+1) (a8++[(ef J (Frame.mk b2 b3 b4 bZ) (nth M gC))]) (ef J (Frame.mk b2 b3 b4 bZ) (nth M gC)).frame.ok (ef J (Frame.mk b2 b3 b4 bZ) (nth M gC)).frame.au (ef J (Frame.mk b2 b3 b4 bZ) (nth M gC)).frame.an (ef J (Frame.mk b2 b3 b4 bZ) (nth M gC)).frame.O (IntKind.i64.wrap (gC+1))<aA bt a8 b2 b3 b4 bZ gC)
def Qs (ay:o7 Prop) (aA:o7 Nat) (J:az) (M:(List Event)) (bt:Nat) (a8:(List fv)) (b2:Bool) (b3:(List Bool)) (b4:(List bd)) (bZ:(List ad)) (gC:Int):Prop:=
  (0≤gC∧gC.toNat<M.length)∧((tl J (Frame.mk b2 b3 b4 bZ) (nth M gC))∧((((ef J (Frame.mk b2 b3 b4 bZ) (nth M gC)).code==1)=true→(hM (Frame.mk b2 b3 b4 bZ))∧(Qq ay aA J M bt a8 b2 b3 b4 bZ gC))∧(((ef J (Frame.mk b2 b3 b4 bZ) (nth M gC)).code==1)=false→Qr ay aA J M bt a8 b2 b3 b4 bZ gC)))
def Qt (ay:o7 Prop) (aA:o7 Nat) (J:az) (M:(List Event)) (al:(List fv)):Prop:=
  ay 0 ([]:List fv) (ei J).ok (ei J).au (ei J).an (ei J).O 0∧ ∀(bt:Nat) (a8:(List fv)) (b2:Bool) (b3:(List Bool)) (b4:(List bd)) (bZ:(List ad)) (gC:Int),ay bt a8 b2 b3 b4 bZ gC→(((decide (gC<(M.length:Int)))=false→a8.length≤4611686018427387904∧a8=al)∧((decide (gC<(M.length:Int)))=true→Qs ay aA J M bt a8 b2 b3 b4 bZ gC))
def Qp (J:az) (M:(List Event)) (al:(List fv)) (ay:o7 Prop) (aA:o7 Nat):Prop:=
 (((!(ek J)) || (decide ((M.length:Int)>1000)))=true→[]=al)∧((!((!(ek J)) || (decide ((M.length:Int)>1000))))=true→M.length≤4611686018427387904→Qt ay aA J M al)
theorem acY (J:az) (M:(List Event)):bX Try.prog 39 [.agg (bq false J),bE iN M] (hh (rp false) (qZ J M)):=(fun(ay:o7 Prop) (aA:o7 Nat) (h:Qp J M (qZ J M) ay aA)=>bX.run (ps:=[.c8,(.l .fE)]) (rs:=[(.l .done)]) (x:=(J,M,())) (r:=((qZ J M),())) ⟨44,dZ,[ada,HS,Qd,ado]⟩ ⟨[],[],[],[],[]⟩ (.lp [(0,6,.done)] [2,5,20,21] [(5,4),(2,5)] [.nat,(.l .done),.bool,(.l .bool),(.l .gI),(.l .held),.int] [bA 0,bA 0,eD 5 0,eD 5 1,eD 5 2,eD 5 3,22] (fun aS=>[(6,.ref 0 aS.1 aS.2.1.length false),(22,.i .i64 aS.2.2.2.2.2.2.1),(eD 5 0,.b (.v aS.2.2.1)),(eD 5 1,.l .bool aS.2.2.2.1 false true),(eD 5 2,.l .gI aS.2.2.2.2.1 false true),(eD 5 3,.l .held aS.2.2.2.2.2.1 false true),(bA 0,.blk aS.1 .done aS.2.1 _ rfl)]) (fun aS=>ay aS.1 aS.2.1 aS.2.2.1 aS.2.2.2.1 aS.2.2.2.2.1 aS.2.2.2.2.2.1 aS.2.2.2.2.2.2.1) (fun aS=>aA aS.1 aS.2.1 aS.2.2.1 aS.2.2.2.1 aS.2.2.2.2.1 aS.2.2.2.2.2.1 aS.2.2.2.2.2.2.1) fun _=> .nil) Try.func39 h) (fun _ x a b c e v=>cv M.length (fun _=>false) v∧x=nC J (ei J) (M.take v.toNat)∧Frame.mk a b c e=lC J (ei J) (M.take v.toNat)) (fun _ _ _ _ _ _ v=>cG M.length v) (by
 unfold Qp
 refine⟨fun h=> ?_,fun h aF=> ?_⟩
 ·unfold qZ
  rw[if_neg]
  rintro⟨h1,h2⟩
  rw[h1] at h
  have: ¬(M.length:Int)>1000:=by omega
  simp[this] at h
 have h:ek J=true∧(M.length:Int)≤1000:=by simpa using h
 have e:qZ J M=nC J (ei J) M:=by unfold qZ;rw[if_pos ⟨h.1,by omega⟩]
 rw[e]
 unfold Qt
 refine⟨⟨di (dt _),rfl,rfl⟩,fun g x a b c d v aX=> ?_⟩
 obtain⟨aX,rfl,aL⟩:=aX
 have yW:=aX.2.1
 have hS:=aX.1
 have lq:(nC J (ei J) (M.take v.toNat)).length=v.toNat:=by rw[Qb,List.length_take];omega
 refine⟨fun hv=>⟨by omega,?_⟩,fun hv=> ?_⟩
 ·have: ¬v<(M.length:Int):=by simpa using hv
  rw[List.take_of_length_le (by omega)]
 have ca:=ch aX hv
 have bj:=c0 (cD aF) aX hv rfl
 have rS:hM (lC J (ei J) (M.take v.toNat)):=Qc _ (Em (JO h.1))
 have BB:M.take (IntKind.i64.wrap (v+1)).toNat=M.take v.toNat++[nth M v]:=by
  rw[jM (cD aF) hS (by simpa using hv),show(v+1).toNat=v.toNat+1 by omega,List.take_succ_eq_append_getElem ca.2,gH ca.2]
 have uo:=Ib J (nth M v) (M.take v.toNat) (ei J)
 unfold Qs
 rw[aL]
 refine⟨ca,rS,fun he=>⟨rS,?_⟩,fun he=> ?_⟩
 ·have he:(ef J (lC J (ei J) (M.take v.toNat)) (nth M v)).code=1:=by simpa using he
  have hs:lD J (lC J (ei J) (M.take v.toNat)) (nth M v)=⟨(ef J (lC J (ei J) (M.take v.toNat)) (nth M v)).code,lC J (ei J) (M.take v.toNat)⟩:=by unfold lD;rw[if_pos he]
  unfold Qq
  rw[aL]
  refine⟨⟨by simp only[List.length_singleton];omega,by simp only[List.length_singleton];omega⟩,⟨bj.1,?_,?_⟩,bj.2⟩
  ·rw[BB,uo.1,hs];rfl
  ·rw[BB,uo.2,hs];rfl
 ·have he: ¬(ef J (lC J (ei J) (M.take v.toNat)) (nth M v)).code=1:=by simpa using he
  have hs:lD J (lC J (ei J) (M.take v.toNat)) (nth M v)=ef J (lC J (ei J) (M.take v.toNat)) (nth M v):=by unfold lD;rw[if_neg he]
  unfold Qr
  rw[aL]
  refine⟨⟨by simp only[List.length_singleton];omega,by simp only[List.length_singleton];omega⟩,⟨bj.1,?_,?_⟩,bj.2⟩
  ·rw[BB,uo.1,hs]
  ·rw[BB,uo.2,hs])
def acZ:dY Try.prog:=⟨39,[.c8,(.l .fE)],[(.l .done)],none,fun x=>((qZ x.1 x.2.1),()),fun x h=>acY x.1 x.2.1⟩
end Go.Proofs.Ytglpfccgmfhkdaa.Fw
