/- Walks and summaries of functions, printed by a program of mine (tools/mk2.py), with the proofs of what they owe. -/
import Derived.Test.YtglpfccgmfhkdaaM5
set_option linter.unusedVariables false
set_option maxRecDepth 100000
set_option maxHeartbeats 4000000
set_option linter.unusedSimpArgs false
namespace Go.Proofs.Ytglpfccgmfhkdaa.Fw
open Go
attribute [local irreducible] evS evSD WpS Weak Oper.looksAt
noncomputable def Z8:Code:=jJ Try.f140
def Z9:List Item:=[al 0,al 1,al 2,al 3,al 4,al 5,al 6,al 7,al 8,al 9,al 10,al 11,al 12,al 13,al 14,al 15,al 16,al 17,al 18,al 19,al 20,al 21,al 22,al 23,al 24,al 25,al 26,al 27,al 28,al 29,al 30,al 31,al 32,al 33,al 34,al 35,al 36,al 37]
def Z_:List (List Nat):=[[],[0],[0,1],[0,1,2],[],rg 0 5,rg 0 6,rg 0 7,rg 0 8,rg 0 9,rg 0 10,rg 0 11,rg 0 12,rg 0 9,rg 0 9++[13],rg 0 9,rg 0 9++[13,14,15],rg 0 9++rg 13 17,rg 0 18,rg 0 19,rg 0 20,rg 0 21,rg 0 22,rg 0 22,rg 0 22++[23],rg 0 25,rg 0 26,rg 0 27,rg 0 28,rg 0 29,rg 0 30,rg 0 27,rg 0 27++[31],rg 0 33,rg 0 34,rg 0 35,rg 0 36,rg 0 37]
abbrev oF (r:Type):Type:=List (List Bool)→Int→List ab→r
def EX (bb:oF Prop) (a1:oF Nat) (aO:Int) (hi:List Nat) (ba:List (List Bool)) (dA:Int) (aI:List ab):Prop:=
  (aI.length=hi.length∧aO.toNat<aI.length)∧((aI.length=hi.length∧aO.toNat<aI.length)∧(bb ba dA (aI.set aO.toNat (ab.mk (nth aI aO).az (IntKind.i64.wrap ((nth aI aO).aa+1)) (nth aI aO).U (nth aI aO).an (nth aI aO).ao))∧a1 ba dA (aI.set aO.toNat (ab.mk (nth aI aO).az (IntKind.i64.wrap ((nth aI aO).aa+1)) (nth aI aO).U (nth aI aO).an (nth aI aO).ao))<a1 ba dA aI))
def EY (bb:oF Prop) (a1:oF Nat) (a0:Way) (aO:Int) (hk:Bool) (aD:List Bool) (af:List ck) (hw:List ab) (hi:List Nat) (hb ba:List (List Bool)) (dA:Int) (aI:List ab):Prop:=
  (((aI.length=hi.length∧aO.toNat<aI.length)∧((((nth hi aO)<ba.length)∧(0≤(nth aI aO).aa∧(nth aI aO).aa.toNat<(nth aI aO).U.length))∧(((nth hi aO)<ba.length∧(nth aI aO).aa.toNat<(ba.getD (nth hi aO) []).length)∧((!(nth (ba.getD (nth hi aO) []) (nth aI aO).aa))=false→(0≤(nth aI aO).aa∧(nth aI aO).aa.toNat<a0.ag.length)∧((0≤(nth a0.ag (nth aI aO).aa)∧(nth a0.ag (nth aI aO).aa).toNat<aD.length)∧((nth aD (nth a0.ag (nth aI aO).aa))=false→(decide ((nth aI aO).aa<(IntKind.i64.wrap ((a0.ag.length:Int) - 1))))=true→(aI.length=hi.length∧aO.toNat<aI.length)∧((((nth hi aO)<ba.length)∧(0≤(IntKind.i64.wrap ((nth aI aO).aa+1))∧(IntKind.i64.wrap ((nth aI aO).aa+1)).toNat<(nth aI aO).U.length))∧((nth hi aO)<ba.length∧(IntKind.i64.wrap ((nth aI aO).aa+1)).toNat<(ba.getD (nth hi aO) []).length))))))))∧(((!(nth (ba.getD (nth hi aO) []) (nth aI aO).aa)) || ((nth aD (nth a0.ag (nth aI aO).aa)) || ((decide ((nth aI aO).aa<(IntKind.i64.wrap ((a0.ag.length:Int) - 1))))&&(!(nth (ba.getD (nth hi aO) []) (IntKind.i64.wrap ((nth aI aO).aa+1)))))))=true→ww a0 aO hk aD af hw hi hb aD af aI hi ba))∧((!((!(nth (ba.getD (nth hi aO) []) (nth aI aO).aa)) || ((nth aD (nth a0.ag (nth aI aO).aa)) || ((decide ((nth aI aO).aa<(IntKind.i64.wrap ((a0.ag.length:Int) - 1))))&&(!(nth (ba.getD (nth hi aO) []) (IntKind.i64.wrap ((nth aI aO).aa+1))))))))=true→EX bb a1 aO hi ba dA aI)
def EZ (bb:oF Prop) (a1:oF Nat) (a0:Way) (aO:Int) (hk:Bool) (aD:List Bool) (af:List ck) (hw:List ab) (hi:List Nat) (hb ba:List (List Bool)) (dA:Int) (aI:List ab):Prop:=
  ((aI.length=hi.length∧aO.toNat<aI.length)∧((decide ((nth aI aO).aa<(a0.ag.length:Int)))=false→(IG aO hk aD af aI hi ba)∧(∀(uz:List ab) (i14:List Nat) (uX:List (List Bool)),vU aO hk aD af aI hi ba aD af uz i14 uX→(ww a0 aO hk aD af hw hi hb aD af uz i14 uX))))∧((decide ((nth aI aO).aa<(a0.ag.length:Int)))=true→(aI.length=hi.length∧aO.toNat<aI.length)∧(EY bb a1 a0 aO hk aD af hw hi hb ba dA aI))
def E0 (aj:List (List Bool)→Int→Prop) (ak:List (List Bool)→Int→Nat) (a0:Way) (aO:Int) (aD:List Bool) (hw:List ab) (hi:List Nat) (ba:List (List Bool)) (dA:Int):Prop:=
  ((0≤dA∧dA.toNat<a0.ag.length)∧((0≤(nth a0.ag dA)∧(nth a0.ag dA).toNat<aD.length)∧((nth aD (nth a0.ag dA))=true→(hw.length=hi.length∧aO.toNat<hw.length)∧((((nth hi aO)<ba.length)∧(0≤dA∧dA.toNat<(nth hw aO).U.length))∧((nth hi aO)<ba.length∧dA.toNat<(ba.getD (nth hi aO) []).length)))))∧(∀sp:List (List Bool),(bif (nth aD (nth a0.ag dA)) then(ba.set (nth hi aO) ((ba.getD (nth hi aO) []).set dA.toNat true)) else ba)=sp→(aj sp (IntKind.i64.wrap (dA+1))∧ak sp (IntKind.i64.wrap (dA+1))<ak ba dA))
def EW (a0:Way) (aO:Int) (aL:Nat) (hk:Bool) (aD:List Bool) (af:List ck) (hw:List ab) (hi:List Nat) (hb:List (List Bool)) (aj:List (List Bool)→Int→Prop) (ak:List (List Bool)→Int→Nat) (bb:oF Prop) (a1:oF Nat):Prop:=
 a0.ag.length≤4611686018427387904→aj hb 0∧ ∀(ba:List (List Bool)) (dA:Int),aj ba dA→(((decide (dA<(a0.ag.length:Int)))=false→bb ba dA hw∧ ∀(aI:List ab),bb ba dA aI→(EZ bb a1 a0 aO hk aD af hw hi hb ba dA aI))∧((decide (dA<(a0.ag.length:Int)))=true→E0 aj ak a0 aO aD hw hi ba dA))
theorem aaa (a0:Way) (aO:Int) (aL:Nat) (hk:Bool) (aD:List Bool) (af:List ck) (hw:List ab) (hi:List Nat) (hb:List (List Bool)) (aj:List (List Bool)→Int→Prop) (ak:List (List Bool)→Int→Nat) (bb:oF Prop) (a1:oF Nat) (h:EW a0 aO aL hk aD af hw hi hb aj ak bb a1):dc Try.prog 140 [.agg (dI false a0),.ptr 0 aL 0 0,.ptr 3 0 (0+aO.toNat) 0] (⟨aL,4,[[ay hk,aA 1 0 aD.length,aA 2 0 af.length,aA 3 0 hw.length]]⟩::⟨0,1,List.map aU aD⟩::⟨0,2,List.map br af⟩::⟨0,5,bh 4 hw hi⟩::List.map bB hb) (fun r H'=> ∃(fp:List ab) (gL:List Nat) (dS:List (List Bool)),r= .tup []∧H'=(⟨aL,4,[[ay hk,aA 1 0 aD.length,aA 2 0 af.length,aA 3 0 fp.length]]⟩::⟨0,1,List.map aU aD⟩::⟨0,2,List.map br af⟩::⟨0,5,bh 4 fp gL⟩::List.map bB dS)∧ww a0 aO hk aD af hw hi hb aD af fp gL dS):=by
 unfold EW at h
 refine dc.go (fn:=Try.f140) [(0,.agg (dI false a0)),(1,.ptr 0 aL 0 0),(2,.ptr 3 0 (0+aO.toNat) 0)] Try.func140 (fun _ _=> ?_)
 show WpS _ (bE Z8 1) _ ⟨bt 92 [(0,.agg (dI false a0)),(1,.ptr 0 aL 0 0),(2,.ptr 3 0 (0+aO.toNat) 0)],[],(⟨aL,4,[[ay hk,aA 1 0 aD.length,aA 2 0 af.length,aA 3 0 hw.length]]⟩::⟨0,1,List.map aU aD⟩::⟨0,2,List.map br af⟩::⟨0,5,bh 4 hw hi⟩::List.map bB hb)⟩
 refine xO [] 0 [(3,aZ 3 0)] [1] [0,1,2] (fun L=>(3,(dI false a0))::L) id ?_
 refine dH [(6,au (a0.ag.length:Int))] [3] (a0.ag.length≤4611686018427387904) ?_ (fun q2=> ?_)
 ·
  refine ca [] 1 ?_
  refine sLen 3 (some 12) [(11,bq bO a0.ag),(10,aZ 3 0)] bO a0.ag (fun q3=> ?_)
  exact cQ [(6,au (a0.ag.length:Int))] q3
 replace h:=h q2
 refine jc ?_
 refine dH [(14,bq bO a0.ag),(15,au (a0.ag.length:Int)),(16,au 0)] [4] (True) ?_ (fun q4=> ?_)
 ·
  refine ca [] 2 ?_
  refine sLen 3 (some 15) [(14,bq bO a0.ag),(13,aZ 3 0)] bO a0.ag (fun cD=> ?_)
  exact cQ [(16,au 0)] trivial
 refine hY 0 ?_
 obtain⟨po,h⟩:=h
 refine mU (fun(v:List (List Bool)×Int)=>(⟨(bt 92 [(1,.ptr 0 aL 0 0),(2,.ptr 3 0 (0+aO.toNat) 0),(3,aZ 3 0),(6,au (a0.ag.length:Int)),(14,bq bO a0.ag),(15,au (a0.ag.length:Int)),(16,au (v.2))]),[(3,(dI false a0))],(⟨aL,4,[[ay hk,aA 1 0 aD.length,aA 2 0 af.length,aA 3 0 hw.length]]⟩::⟨0,1,List.map aU aD⟩::⟨0,2,List.map br af⟩::⟨0,5,bh 4 hw hi⟩::List.map bB (v.1))⟩:St)) (fun(v:List (List Bool)×Int)=>aj (v.1) (v.2)) (fun(v:List (List Bool)×Int)=>ak (v.1) (v.2)) (hb,0) (gQ []) po (fun v a6=> ?_)
 obtain⟨ba,dA⟩:=v
 replace h:=h ba dA a6
 dsimp only
 refine hZ [] 3 [(17,ay (decide (dA<(a0.ag.length:Int))))] [1] [7] ?_
 obtain⟨oy,h⟩:=h
 refine dH [] [0,1,7] ((decide (dA<(a0.ag.length:Int)))=true) ?_ (fun gN=> ?_)
 ·
  replace h:=oy
  refine gG (fun jh=> ?_) (fun jh=> ?_)
  ·
   refine fy ?_
   exact cR.normal (by simp only[jh]<;>rfl) fv
  ·
   replace h:=h jh
   refine kY 0 ?_
   refine cR.exit ?_
   refine eE.exit ?_
   refine dG.here ?_
   refine dR.normal ?_
   refine jc ?_
   refine hY 2 ?_
   obtain⟨lW,h⟩:=h
   refine mU (fun(v:List ab)=>(⟨(bt 92 [(1,.ptr 0 aL 0 0),(2,.ptr 3 0 (0+aO.toNat) 0),(3,aZ 3 0),(6,au (a0.ag.length:Int))]),[(3,(dI false a0))],(⟨aL,4,[[ay hk,aA 1 0 aD.length,aA 2 0 af.length,aA 3 0 v.length]]⟩::⟨0,1,List.map aU aD⟩::⟨0,2,List.map br af⟩::⟨0,5,bh 4 v hi⟩::List.map bB ba)⟩:St)) (fun(v:List ab)=>bb ba dA v) (fun(v:List ab)=>a1 ba dA v) hw (gQ []) lW (fun aI a6=> ?_)
   replace h:=h aI a6
   unfold EZ at h
   obtain⟨zy,h⟩:=h
   refine dH [] [4] ((decide ((nth aI aO).aa<(a0.ag.length:Int)))=true) ?_ (fun kh=> ?_)
   ·
    replace h:=zy
    obtain⟨mB,h⟩:=h
    refine dH [(40,ay (decide ((nth aI aO).aa<(a0.ag.length:Int))))] [4] (True) ?_ (fun hh=> ?_)
    ·
     replace h:=mB
     refine ca [] 8 ?_
     have kg:=h
     refine kL 4 (some 38) [(37,.ptr 3 0 (0+aO.toNat) 1),(36,.ptr 3 0 (0+aO.toNat) 0),(35,.ptr 3 0 (0+aO.toNat) 0)] (bh 4 aI hi) aO 3 1 0 (au (nth aI aO).aa) (ei kg.1 kg.2) ?_
     exact cQ [(40,ay (decide ((nth aI aO).aa<(a0.ag.length:Int)))),(39,au (a0.ag.length:Int))] trivial
    refine gG (fun nu=> ?_) (fun nu=> ?_)
    ·
     refine fy ?_
     exact cR.normal (by simp only[jh,nu]<;>rfl) fv
    ·
     replace h:=h nu
     refine kY 2 ?_
     refine cR.exit ?_
     refine eE.exit ?_
     refine dG.here ?_
     refine dR.normal ?_
     refine ca [] 12 ?_
     obtain⟨ov,h⟩:=h
     refine Ev 2 (some 91) [(90,.ptr 3 0 (0+aO.toNat) 0)] [.ptr 3 0 (0+aO.toNat) 0] _ (Z4 aO aL hk aD af aI hi ba ov) (fun r H' af=>by obtain⟨_,_,_,rfl,_⟩:=af;rfl) ?_
     rintro r H' ⟨uz,i14,uX,rfl,rfl,nv⟩
     replace h:=h uz i14 uX nv
     refine fQ [] ?_
     refine BB (t0) [] ?_
     exact⟨uz,i14,uX,rfl,rfl,h⟩
   replace h:=h kh
   refine hY 3 ?_
   obtain⟨pk,h⟩:=h
   refine dH [(9,au (nth aI aO).aa)] [4] (True) ?_ (fun h_=> ?_)
   ·
    replace h:=pk
    refine ca [] 9 ?_
    have kG:=h
    refine kL 4 (some 44) [(43,.ptr 3 0 (0+aO.toNat) 1),(42,.ptr 3 0 (0+aO.toNat) 0),(41,.ptr 3 0 (0+aO.toNat) 0)] (bh 4 aI hi) aO 3 1 0 (au (nth aI aO).aa) (ei kG.1 kG.2) ?_
    exact cQ [(9,au (nth aI aO).aa)] trivial
   unfold EY at h
   obtain⟨pj,h⟩:=h
   refine dH [] [0,1,4] ((!((!(nth (ba.getD (nth hi aO) []) (nth aI aO).aa)) || ((nth aD (nth a0.ag (nth aI aO).aa)) || ((decide ((nth aI aO).aa<(IntKind.i64.wrap ((a0.ag.length:Int) - 1))))&&(!(nth (ba.getD (nth hi aO) []) (IntKind.i64.wrap ((nth aI aO).aa+1))))))))=true) ?_ (fun nw=> ?_)
   ·
    replace h:=pj
    obtain⟨pi,h⟩:=h
    refine dH [(82,ay ((!(nth (ba.getD (nth hi aO) []) (nth aI aO).aa)) || ((nth aD (nth a0.ag (nth aI aO).aa)) || ((decide ((nth aI aO).aa<(IntKind.i64.wrap ((a0.ag.length:Int) - 1))))&&(!(nth (ba.getD (nth hi aO) []) (IntKind.i64.wrap ((nth aI aO).aa+1))))))))] [0,1,4] (True) ?_ (fun lb=> ?_)
    ·
     replace h:=pi
     refine qs [] 10 Z9 Z_ [] ?_
     obtain⟨ow,h⟩:=h
     refine l5 4 (some 48) [(47,.ptr 3 0 (0+aO.toNat) 2),(46,.ptr 3 0 (0+aO.toNat) 0),(45,.ptr 3 0 (0+aO.toNat) 0)] (bh 4 aI hi) aO 36 2 0 (aA ((nth hi aO)+4) 0 (nth aI aO).U.length) (ei ow.1 ow.2) ?_
     obtain⟨⟨kH,abn⟩,h⟩:=h
     refine sn 2 (some 50) [(49,au (nth aI aO).aa)] ba (nth hi aO) 4 kH abn ?_
     obtain⟨nx,h⟩:=h
     refine w6 1 (some 51) [] ba (nth hi aO) (nth aI aO).aa 4 nx.1 nx.2 ?_
     refine oE 2 53 (!(nth (ba.getD (nth hi aO) []) (nth aI aO).aa)) [(52,ay (!(nth (ba.getD (nth hi aO) []) (nth aI aO).aa)))] (fun iW=> ?_) (fun iW=> ?_)
     ·
      exact kj ([(82,ay true)]++fR [81,80,79,78,77,76,75,74,73,72,71,70,69,68,67]++[(66,ay true),(65,ay true)]++fR [64,63,62,61,60,59,58,57,56,55,54]) trivial (by simp only[jh,kh,iW]<;>kernel_rfl)
     ·
      replace h:=h iW
      refine Fj 4 (some 57) (aA 1 0 aD.length) [(56,.ptr 0 aL 0 1),(55,.ptr 0 aL 0 0),(54,.ptr 0 aL 0 0)] (φ:=aL=aL) rfl ?_
      obtain⟨qp,h⟩:=h
      refine w4 4 (some 61) [(60,au (nth aI aO).aa),(59,bq bO a0.ag),(58,aZ 3 0)] bO a0.ag 1 qp ?_
      obtain⟨Ou,h⟩:=h
      refine w3 2 (some 63) [(62,au (nth a0.ag (nth aI aO).aa))] 1 0 1 Ou ?_
      refine w5 1 (some 64) [] aU aD (nth a0.ag (nth aI aO).aa) 4 0 0 (ay (nth aD (nth a0.ag (nth aI aO).aa))) (by simpa using Ou.2) ?_
      refine oE 2 66 (nth aD (nth a0.ag (nth aI aO).aa)) [(65,ay (nth aD (nth a0.ag (nth aI aO).aa)))] (fun jy=> ?_) (fun jy=> ?_)
      ·
       exact kj ([(82,ay true)]++fR [81,80,79,78,77,76,75,74,73,72,71,70,69,68,67]) trivial (by simp only[jh,kh,iW,jy]<;>kernel_rfl)
      ·
       replace h:=h jy
       refine oE 5 71 (decide ((nth aI aO).aa<(IntKind.i64.wrap ((a0.ag.length:Int) - 1)))) [(70,ay (decide ((nth aI aO).aa<(IntKind.i64.wrap ((a0.ag.length:Int) - 1))))),(69,au (IntKind.i64.wrap ((a0.ag.length:Int) - 1))),(68,au (a0.ag.length:Int)),(67,au (nth aI aO).aa)] (fun kI=> ?_) (fun kI=> ?_)
       ·
        replace h:=h kI
        obtain⟨D9,h⟩:=h
        refine l5 4 (some 75) [(74,.ptr 3 0 (0+aO.toNat) 2),(73,.ptr 3 0 (0+aO.toNat) 0),(72,.ptr 3 0 (0+aO.toNat) 0)] (bh 4 aI hi) aO 36 2 0 (aA ((nth hi aO)+4) 0 (nth aI aO).U.length) (ei D9.1 D9.2) ?_
        obtain⟨⟨qo,abo⟩,h⟩:=h
        refine sn 3 (some 78) [(77,au (IntKind.i64.wrap ((nth aI aO).aa+1))),(76,au (nth aI aO).aa)] ba (nth hi aO) 4 qo abo ?_
        have wD:=h
        refine w6 1 (some 79) [] ba (nth hi aO) (IntKind.i64.wrap ((nth aI aO).aa+1)) 4 wD.1 wD.2 ?_
        exact kj [(82,ay (!(nth (ba.getD (nth hi aO) []) (IntKind.i64.wrap ((nth aI aO).aa+1))))),(81,ay (!(nth (ba.getD (nth hi aO) []) (IntKind.i64.wrap ((nth aI aO).aa+1))))),(80,ay (!(nth (ba.getD (nth hi aO) []) (IntKind.i64.wrap ((nth aI aO).aa+1)))))] trivial (by simp only[jh,kh,iW,jy,kI]<;>kernel_rfl)
       ·
        exact kj ([(82,ay false),(81,ay false)]++fR [80,79,78,77,76,75,74,73,72]) trivial (by simp only[jh,kh,iW,jy,kI]<;>kernel_rfl)
    refine gG (fun kJ=> ?_) (fun kJ=> ?_)
    ·
     replace h:=h kJ
     refine iK ?_
     refine cR.ret ?_
     refine dG.ret ?_
     refine eE.ret ?_
     refine dG.ret ?_
     refine dR.ret ?_
     refine l1 (t0) [] ?_
     exact⟨aI,hi,ba,rfl,rfl,h⟩
    ·
     refine fy ?_
     exact cR.normal (by simp only[jh,kh,kJ]<;>rfl) fv
   replace h:=h nw
   unfold EX at h
   refine ca [] 11 ?_
   obtain⟨ny,h⟩:=h
   refine kL 4 (some 86) [(85,.ptr 3 0 (0+aO.toNat) 1),(84,.ptr 3 0 (0+aO.toNat) 0),(83,.ptr 3 0 (0+aO.toNat) 0)] (bh 4 aI hi) aO 3 1 0 (au (nth aI aO).aa) (ei ny.1 ny.2) ?_
   obtain⟨kK,h⟩:=h
   refine ld 4 none [(89,.ptr 3 0 (0+aO.toNat) 1),(88,.ptr 3 0 (0+aO.toNat) 0),(87,au (IntKind.i64.wrap ((nth aI aO).aa+1)))] (bh 4 aI hi) aO 1 1 0 [au (IntKind.i64.wrap ((nth aI aO).aa+1))] 3 (bh 4 (aI.set aO.toNat (ab.mk (nth aI aO).az (IntKind.i64.wrap ((nth aI aO).aa+1)) (nth aI aO).U (nth aI aO).an (nth aI aO).ao)) hi) (ei kK.1 kK.2) (lI kK.1 kK.2) ?_
   refine fQ [] ?_
   refine dG.normal ?_
   exact eE.again (aI.set aO.toNat (ab.mk (nth aI aO).az (IntKind.i64.wrap ((nth aI aO).aa+1)) (nth aI aO).U (nth aI aO).an (nth aI aO).ao)) h (nL (s':=⟨(bt 92 [(1,.ptr 0 aL 0 0),(2,.ptr 3 0 (0+aO.toNat) 0),(3,aZ 3 0),(6,au (a0.ag.length:Int))]),[(3,(dI false a0))],(⟨aL,4,[[ay hk,aA 1 0 aD.length,aA 2 0 af.length,aA 3 0 aI.length]]⟩::⟨0,1,List.map aU aD⟩::⟨0,2,List.map br af⟩::⟨0,5,bh 4 (aI.set aO.toNat (ab.mk (nth aI aO).az (IntKind.i64.wrap ((nth aI aO).aa+1)) (nth aI aO).U (nth aI aO).an (nth aI aO).ao)) hi⟩::List.map bB ba)⟩) (gQ (n:=92) (A':=[(1,.ptr 0 aL 0 0),(2,.ptr 3 0 (0+aO.toNat) 0),(3,aZ 3 0),(6,au (a0.ag.length:Int))]) (L':=[(3,(dI false a0))]) []) (congrArg (fun z=>(⟨(bt 92 [(1,.ptr 0 aL 0 0),(2,.ptr 3 0 (0+aO.toNat) 0),(3,aZ 3 0),(6,au (a0.ag.length:Int))]),[(3,(dI false a0))],(⟨aL,4,[[ay hk,aA 1 0 aD.length,aA 2 0 af.length,aA 3 0 z]]⟩::⟨0,1,List.map aU aD⟩::⟨0,2,List.map br af⟩::⟨0,5,bh 4 (aI.set aO.toNat (ab.mk (nth aI aO).az (IntKind.i64.wrap ((nth aI aO).aa+1)) (nth aI aO).U (nth aI aO).an (nth aI aO).ao)) hi⟩::List.map bB ba)⟩:St)) (show aI.length=(aI.set aO.toNat (ab.mk (nth aI aO).az (IntKind.i64.wrap ((nth aI aO).aa+1)) (nth aI aO).U (nth aI aO).an (nth aI aO).ao)).length by simp)))
 replace h:=h gN
 unfold E0 at h
 obtain⟨ox,h⟩:=h
 obtain⟨sp,lc⟩: ∃w:List (List Bool),(bif (nth aD (nth a0.ag dA)) then(ba.set (nth hi aO) ((ba.getD (nth hi aO) []).set dA.toNat true)) else ba)=w:=⟨_,rfl⟩
 refine g_ [] [7] id (fun _=>(⟨aL,4,[[ay hk,aA 1 0 aD.length,aA 2 0 af.length,aA 3 0 hw.length]]⟩::⟨0,1,List.map aU aD⟩::⟨0,2,List.map br af⟩::⟨0,5,bh 4 hw hi⟩::List.map bB sp)) (True) ?_ (fun r4=> ?_)
 ·
  replace h:=ox
  refine hY 1 ?_
  obtain⟨r6,h⟩:=h
  refine dH [(7,au dA),(8,au (nth a0.ag dA))] [7] (True) ?_ (fun tX=> ?_)
  ·
   replace h:=r6
   refine ca [] 4 ?_
   have lX:=h
   refine nC 2 (some 19) [(18,au dA)] bO a0.ag 1 lX ?_
   exact cQ [(8,au (nth a0.ag dA)),(7,au dA),(20,au (nth a0.ag dA))] trivial
  obtain⟨wF,h⟩:=h
  refine dH [(27,ay (nth aD (nth a0.ag dA)))] [1,1,7] (True) ?_ (fun nz=> ?_)
  ·
   replace h:=wF
   refine ca [] 5 ?_
   refine zO 4 (some 24) (aA 1 0 aD.length) [(23,.ptr 0 aL 0 1),(22,.ptr 0 aL 0 0),(21,.ptr 0 aL 0 0)] (φ:=aL=aL) rfl ?_
   have Oo:=h
   refine Eu 2 (some 26) [(25,au (nth a0.ag dA))] 1 0 1 Oo ?_
   refine YL 1 (some 27) [] aU aD (nth a0.ag dA) 4 0 0 (ay (nth aD (nth a0.ag dA))) (by simpa using Oo.2) ?_
   exact cQ [] trivial
  refine gG (fun pn=> ?_) (fun pn=> ?_)
  ·
   replace h:=h pn
   refine ca [] 6 ?_
   obtain⟨jg,h⟩:=h
   refine kL 4 (some 31) [(30,.ptr 3 0 (0+aO.toNat) 2),(29,.ptr 3 0 (0+aO.toNat) 0),(28,.ptr 3 0 (0+aO.toNat) 0)] (bh 4 hw hi) aO 36 2 0 (aA ((nth hi aO)+4) 0 (nth hw aO).U.length) (ei jg.1 jg.2) ?_
   obtain⟨⟨wE,abm⟩,h⟩:=h
   refine YJ 2 (some 33) [(32,au dA)] ba (nth hi aO) 4 wE abm ?_
   have lY:=h
   refine YP 1 none [] ba (nth hi aO) dA true (fun r=>(⟨aL,4,[[ay hk,aA 1 0 aD.length,aA 2 0 af.length,aA 3 0 hw.length]]⟩::⟨0,1,List.map aU aD⟩::⟨0,2,List.map br af⟩::⟨0,5,bh 4 hw hi⟩::r)) lY.1 lY.2 ?_
   refine fQ [] ?_
   refine dG.normal ?_
   exact cR.normal trivial (by simp only[←lc,gN,pn,cond_true,cond_false];exact fv)
  ·
   refine fy ?_
   refine dG.normal ?_
   exact cR.normal trivial (by simp only[←lc,gN,pn,cond_true,cond_false];exact fv)
 replace h:=h sp lc
 refine ca [] 7 ?_
 refine fQ [(16,au (IntKind.i64.wrap (dA+1))),(34,au (IntKind.i64.wrap (dA+1)))] ?_
 exact eE.again (sp,(IntKind.i64.wrap (dA+1))) h (gQ [])
theorem Z7 (a0:Way) (aO:Int) (aL:Nat) (hk:Bool) (aD:List Bool) (af:List ck) (hw:List ab) (hi:List Nat) (hb:List (List Bool)) (ai:Ly a0 aO hk aD af hw hi hb):dc Try.prog 140 [.agg (dI false a0),.ptr 0 aL 0 0,.ptr 3 0 (0+aO.toNat) 0] (⟨aL,4,[[ay hk,aA 1 0 aD.length,aA 2 0 af.length,aA 3 0 hw.length]]⟩::⟨0,1,List.map aU aD⟩::⟨0,2,List.map br af⟩::⟨0,5,bh 4 hw hi⟩::List.map bB hb) (fun r H'=> ∃(fp:List ab) (gL:List Nat) (dS:List (List Bool)),r= .tup []∧H'=(⟨aL,4,[[ay hk,aA 1 0 aD.length,aA 2 0 af.length,aA 3 0 fp.length]]⟩::⟨0,1,List.map aU aD⟩::⟨0,2,List.map br af⟩::⟨0,5,bh 4 fp gL⟩::List.map bB dS)∧ww a0 aO hk aD af hw hi hb aD af fp gL dS):=aaa a0 aO aL hk aD af hw hi hb (XK a0.ag (cI hk aD af hw hi hb) (view hw hi hb) hi aO hw) (fun _ k=>cz a0.ag.length k) (fun bs _ ws=>XL a0.ag (cI hk aD af hw hi hb) (view hw hi hb) hi aO bs ws) (fun _ _ ws=>((a0.ag.length:Int) - (nth ws aO).aa).toNat) (by
 unfold EW
 obtain⟨F,aM,h1,hs,rB,gC,oZ,jR⟩:=ai
 have aS:aO.toNat<hw.length:=by omega
 have cC:=F.uW aS
 have HY: ∀k:Int,0≤k→k.toNat<a0.ag.length→0≤nth a0.ag k∧(nth a0.ag k).toNat<aD.length:=fun k a8 c7=>by
  have:=rB _ (eC c7);omega
 intro ap
 refine⟨⟨dl (c8 _),by rw[Int.toNat_zero,N7];exact cC⟩,fun bs k a6=>⟨fun yF=> ?_,fun yF=> ?_⟩⟩
 ·obtain⟨a6,cx⟩:=a6
  have h4: ¬k<(a0.ag.length:Int):=by simpa using yF
  have a8:=a6.1
  rw[N9 gC (by omega)] at cx
  have tc:(k9 a0.ag (cI hk aD af hw hi hb) (nth (view hw hi hb) aO)).length=a0.ag.length:=by unfold k9;rw[List.length_zipWith];omega
  refine⟨⟨(nth (view hw hi hb) aO).aa,HB oZ jR,cx⟩,fun ws hQ=> ?_⟩
  obtain⟨g,pY,cZ⟩:=hQ
  unfold EZ
  have aT:(nth ws aO).aa=g:=cZ.aa
  have e2:bs.getD (nth hi aO) []=k9 a0.ag (cI hk aD af hw hi hb) (nth (view hw hi hb) aO):=cZ.U
  have c0:(nth ws aO).U.length=a0.ag.length:=cZ.nY.trans tc
  have Cr:=pY
  obtain⟨g0,g1,-⟩:=Cr
  have io:=cZ.gV
  have hid:=cZ.oj
  have cj:IntKind.i64.wrap ((a0.ag.length:Int) - 1)=(a0.ag.length:Int) - 1:=hn (by omega) (by omega)
  rw[aT]
  refine⟨⟨io,fun hc=>⟨⟨cZ.G,aM,by omega⟩,fun w i b o2=> ?_⟩⟩,fun hc=>⟨io,?_⟩⟩
  ·obtain⟨G,hv⟩:=o2
   have iY:=cZ.again G hv
   refine⟨iY.G,?_⟩
   rw[iY.hG,cZ.wm]
   have e3:k2 a0.ag (cI hk aD af hw hi hb) (k9 a0.ag (cI hk aD af hw hi hb) (nth (view hw hi hb) aO)) g=false:=by unfold k2;rw[hc];rfl
   have gK:=B6 hs pY e3
   have yy: ¬g<(a0.ag.length:Int):=by simpa using hc
   congr 1
   rw[Lx,if_pos (by omega),tc]
  ·have H_:g<(a0.ag.length:Int):=by simpa using hc
   unfold EY
   rw[aT,e2,c0]
   have HZ:=aaJ (f:=cI hk aD af hw hi hb) (U:=k9 a0.ag (cI hk aD af hw hi hb) (nth (view hw hi hb) aO)) hs hc
   refine⟨⟨⟨io,⟨hid,g0,by omega⟩,⟨hid,by omega⟩,fun _=>⟨⟨g0,by omega⟩,HY g g0 (by omega),fun _ aE=>⟨io,?_⟩⟩⟩,fun Te=> ?_⟩,fun ru=> ?_⟩
   ·rw[cj] at aE
    have aE:g<(a0.ag.length:Int) - 1:=by simpa using aE
    rw[hn (by omega) (by omega)]
    exact⟨⟨hid,by omega,by omega⟩,hid,by omega⟩
   ·have bf:k2 a0.ag (cI hk aD af hw hi hb) (k9 a0.ag (cI hk aD af hw hi hb) (nth (view hw hi hb) aO)) g=false:=by
     have h2:(!k2 a0.ag (cI hk aD af hw hi hb) (k9 a0.ag (cI hk aD af hw hi hb) (nth (view hw hi hb) aO)) g)=true:=HZ.symm.trans Te
     simpa using h2
    have gK:=B6 hs pY bf
    refine⟨cZ.G,?_⟩
    rw[cZ.hG]
    congr 1
    rw[Lx,if_neg (by omega),gK]
   ·have bf:k2 a0.ag (cI hk aD af hw hi hb) (k9 a0.ag (cI hk aD af hw hi hb) (nth (view hw hi hb) aO)) g=true:=by
     have h2:(!k2 a0.ag (cI hk aD af hw hi hb) (k9 a0.ag (cI hk aD af hw hi hb) (nth (view hw hi hb) aO)) g)=false:=HZ.symm.trans (not_eq ru)
     simpa using h2
    obtain⟨bf,_⟩:=HC hs pY bf
    unfold EX
    rw[aT]
    have dU:IntKind.i64.wrap (g+1)=g+1:=hn (by omega) (by omega)
    have uE:=cZ.My (IntKind.i64.wrap (g+1))
    refine⟨io,io,⟨_,bf,uE⟩,?_⟩
    have hM:=uE.aa
    show((a0.ag.length:Int) - (nth (ws.set aO.toNat _) aO).aa).toNat<((a0.ag.length:Int) - (nth ws aO).aa).toNat
    rw[hM,aT]
    show((a0.ag.length:Int) - IntKind.i64.wrap (g+1)).toNat<_
    rw[dU];omega
 ·obtain⟨a6,cx⟩:=a6
  have jS:k<(a0.ag.length:Int):=by simpa using yF
  have a8:=a6.1
  have yP:(ib a0.ag (cI hk aD af hw hi hb) (nth (view hw hi hb) aO).U k.toNat).length=a0.ag.length:=by rw[Fx gC (by omega),gC]
  have e2:bs.getD (nth hi aO) []=ib a0.ag (cI hk aD af hw hi hb) (nth (view hw hi hb) aO).U k.toNat:=cx.U
  have c0:(nth hw aO).U.length=a0.ag.length:=cx.nY.trans yP
  have hid:=cx.oj
  unfold E0
  rw[e2]
  refine⟨⟨⟨a8,by omega⟩,HY k a8 (by omega),fun _=>⟨cx.gV,⟨hid,a8,by omega⟩,hid,by omega⟩⟩,fun w fp=> ?_⟩
  have bf:=de (dD ap) a6 yF rfl
  refine⟨⟨bf.1,?_⟩,bf.2⟩
  rw[oH (dD ap) a8 jS,show(k+1).toNat=k.toNat+1 by omega,←N_ gC (by omega),←fp]
  have m5:=N8 (s:=a0.ag) (f:=cI hk aD af hw hi hb) (b:=(nth (view hw hi hb) aO).U) gC (show k.toNat<_ by omega)
  rw[mw a8] at m5
  have vH:nth aD (nth a0.ag k)=eI (cI hk aD af hw hi hb) (a0.ag[k.toNat]'(by omega)):=by
   unfold eI
   rw[←hT (by omega)];rfl
  rw[vH]
  cases jQ:eI (cI hk aD af hw hi hb) (a0.ag[k.toNat]'(by omega)) with
  | true=>
   rw[Bool.or_true]
   exact cx.EA _ (by rw[List.length_set])
  | false=>
   rw[Bool.or_false]
   have:(ib a0.ag (cI hk aD af hw hi hb) (nth (view hw hi hb) aO).U k.toNat).set k.toNat ((nth (view hw hi hb) aO).U[k.toNat]'(by omega))=ib a0.ag (cI hk aD af hw hi hb) (nth (view hw hi hb) aO).U k.toNat:=by
    rw[←m5,hT (xs:=ib _ _ _ _) (by rw[yP];omega)];exact List.set_getElem_self _
   rw[this];exact cx)
noncomputable def aai:Code:=jJ Try.f98
def aal:List Item:=[al 0,al 1,al 2,al 3,al 4,al 5,al 6,al 7,al 8,al 9,al 10,al 11,al 12,al 13,al 14,al 15,al 16]
def aam:List (List Nat):=[[],[0],[0,1],[0,1,2],rg 0 4,rg 0 5,rg 0 6,rg 0 7,rg 0 8,rg 0 9,rg 0 6,rg 0 6++[10],rg 0 6++[10,11],rg 0 6++[10,11,12],rg 0 14,rg 0 15,rg 0 16]
def aaj:List Item:=[al 0,al 1,al 2,al 3,al 4,al 5]
def aak:List (List Nat):=[[],[],[1],[1,2],[],rg 0 5]
def E3 (a0:aN) (aD:List Bool) (cy:List Nat) (v12:Int) (aI:List ab):Prop:=
  (((nth aI v12).az !=4)&&(nth aD (nth (nth a0.M v12).ag 0)))=true→(aI.length=cy.length∧v12.toNat<aI.length)∧((aI.set v12.toNat (ab.mk 4 (nth aI v12).aa (nth aI v12).U (nth aI v12).an (nth aI v12).ao)).length=cy.length∧v12.toNat<(aI.set v12.toNat (ab.mk 4 (nth aI v12).aa (nth aI v12).U (nth aI v12).an (nth aI v12).ao)).length)
def E4 (cy:List Nat) (v12:Int) (ac:List ab):Prop:=
  ((ac.set v12.toNat (ab.mk 1 (nth ac v12).aa (nth ac v12).U (nth ac v12).an (nth ac v12).ao)).set v12.toNat (ab.mk 2 (nth (ac.set v12.toNat (ab.mk 1 (nth ac v12).aa (nth ac v12).U (nth ac v12).an (nth ac v12).ao)) v12).aa (nth (ac.set v12.toNat (ab.mk 1 (nth ac v12).aa (nth ac v12).U (nth ac v12).an (nth ac v12).ao)) v12).U (nth (ac.set v12.toNat (ab.mk 1 (nth ac v12).aa (nth ac v12).U (nth ac v12).an (nth ac v12).ao)) v12).an (nth (ac.set v12.toNat (ab.mk 1 (nth ac v12).aa (nth ac v12).U (nth ac v12).an (nth ac v12).ao)) v12).ao)).length=cy.length∧v12.toNat<((ac.set v12.toNat (ab.mk 1 (nth ac v12).aa (nth ac v12).U (nth ac v12).an (nth ac v12).ao)).set v12.toNat (ab.mk 2 (nth (ac.set v12.toNat (ab.mk 1 (nth ac v12).aa (nth ac v12).U (nth ac v12).an (nth ac v12).ao)) v12).aa (nth (ac.set v12.toNat (ab.mk 1 (nth ac v12).aa (nth ac v12).U (nth ac v12).an (nth ac v12).ao)) v12).U (nth (ac.set v12.toNat (ab.mk 1 (nth ac v12).aa (nth ac v12).U (nth ac v12).an (nth ac v12).ao)) v12).an (nth (ac.set v12.toNat (ab.mk 1 (nth ac v12).aa (nth ac v12).U (nth ac v12).an (nth ac v12).ao)) v12).ao)).length
def E5 (a0:aN) (hk:Bool) (aD:List Bool) (af:List ck) (ba:List (List Bool)) (cy:List Nat) (v12:Int) (ac:List ab):Prop:=
  (gk a0 (Frame.mk hk aD af (view (ac.set v12.toNat (ab.mk 1 (nth ac v12).aa (nth ac v12).U (nth ac v12).an (nth ac v12).ao)) cy ba)) v12)=true→((ac.set v12.toNat (ab.mk 1 (nth ac v12).aa (nth ac v12).U (nth ac v12).an (nth ac v12).ao)).length=cy.length∧v12.toNat<(ac.set v12.toNat (ab.mk 1 (nth ac v12).aa (nth ac v12).U (nth ac v12).an (nth ac v12).ao)).length)∧(E4 cy v12 ac)
def E6 (a0:aN) (hk:Bool) (aD:List Bool) (af:List ck) (ba:List (List Bool)) (cy:List Nat) (v12:Int) (ac:List ab):Prop:=
  (aD.length≤4611686018427387904∧af.length≤4611686018427387904∧(lk (ac.set v12.toNat (ab.mk 1 (nth ac v12).aa (nth ac v12).U (nth ac v12).an (nth ac v12).ao)) cy ba∧(ac.set v12.toNat (ab.mk 1 (nth ac v12).aa (nth ac v12).U (nth ac v12).an (nth ac v12).ao)).length≤4611686018427387904∧(∀x∈ba,List.length x≤4611686018427387904))∧tV a0 (Frame.mk hk aD af (view (ac.set v12.toNat (ab.mk 1 (nth ac v12).aa (nth ac v12).U (nth ac v12).an (nth ac v12).ao)) cy ba)) v12)∧(E5 a0 hk aD af ba cy v12 ac)
def E7 (aj:gp Prop) (ak:gp Nat) (a0:aN) (hk:Bool) (aD:List Bool) (af:List ck) (ba:List (List Bool)) (cy:List Nat) (v12:Int) (aI gP:List ab):Prop:=
  (((nth gP v12).az==4)=true→(Ly (nth a0.M v12) v12 hk aD af gP cy ba)∧(∀(uA:List ab) (i55:List Nat) (sJ:List (List Bool)),ww (nth a0.M v12) v12 hk aD af gP cy ba aD af uA i55 sJ→(aj sJ i55 (IntKind.i64.wrap (v12+1)) uA∧ak sJ i55 (IntKind.i64.wrap (v12+1)) uA<ak ba cy v12 aI)))∧(((nth gP v12).az==4)=false→aj ba cy (IntKind.i64.wrap (v12+1)) gP∧ak ba cy (IntKind.i64.wrap (v12+1)) gP<ak ba cy v12 aI)
def E8 (aj:gp Prop) (ak:gp Nat) (a0:aN) (hk:Bool) (aD:List Bool) (af:List ck) (ba:List (List Bool)) (cy:List Nat) (v12:Int) (aI ac:List ab):Prop:=
  (((ac.length=cy.length∧v12.toNat<ac.length)∧(((nth ac v12).az==1)=false→ac.length=cy.length∧v12.toNat<ac.length))∧((((nth ac v12).az==1) || ((nth ac v12).az==2))=true→(ac.length=cy.length∧v12.toNat<ac.length)∧(E6 a0 hk aD af ba cy v12 ac)))∧(∀gP:List ab,(bif (((nth ac v12).az==1) || ((nth ac v12).az==2)) then(bif (gk a0 (Frame.mk hk aD af (view (ac.set v12.toNat (ab.mk 1 (nth ac v12).aa (nth ac v12).U (nth ac v12).an (nth ac v12).ao)) cy ba)) v12) then(((ac.set v12.toNat (ab.mk 1 (nth ac v12).aa (nth ac v12).U (nth ac v12).an (nth ac v12).ao)).set v12.toNat (ab.mk 2 (nth (ac.set v12.toNat (ab.mk 1 (nth ac v12).aa (nth ac v12).U (nth ac v12).an (nth ac v12).ao)) v12).aa (nth (ac.set v12.toNat (ab.mk 1 (nth ac v12).aa (nth ac v12).U (nth ac v12).an (nth ac v12).ao)) v12).U (nth (ac.set v12.toNat (ab.mk 1 (nth ac v12).aa (nth ac v12).U (nth ac v12).an (nth ac v12).ao)) v12).an (nth (ac.set v12.toNat (ab.mk 1 (nth ac v12).aa (nth ac v12).U (nth ac v12).an (nth ac v12).ao)) v12).ao)).set v12.toNat (ab.mk (nth ((ac.set v12.toNat (ab.mk 1 (nth ac v12).aa (nth ac v12).U (nth ac v12).an (nth ac v12).ao)).set v12.toNat (ab.mk 2 (nth (ac.set v12.toNat (ab.mk 1 (nth ac v12).aa (nth ac v12).U (nth ac v12).an (nth ac v12).ao)) v12).aa (nth (ac.set v12.toNat (ab.mk 1 (nth ac v12).aa (nth ac v12).U (nth ac v12).an (nth ac v12).ao)) v12).U (nth (ac.set v12.toNat (ab.mk 1 (nth ac v12).aa (nth ac v12).U (nth ac v12).an (nth ac v12).ao)) v12).an (nth (ac.set v12.toNat (ab.mk 1 (nth ac v12).aa (nth ac v12).U (nth ac v12).an (nth ac v12).ao)) v12).ao)) v12).az (nth ((ac.set v12.toNat (ab.mk 1 (nth ac v12).aa (nth ac v12).U (nth ac v12).an (nth ac v12).ao)).set v12.toNat (ab.mk 2 (nth (ac.set v12.toNat (ab.mk 1 (nth ac v12).aa (nth ac v12).U (nth ac v12).an (nth ac v12).ao)) v12).aa (nth (ac.set v12.toNat (ab.mk 1 (nth ac v12).aa (nth ac v12).U (nth ac v12).an (nth ac v12).ao)) v12).U (nth (ac.set v12.toNat (ab.mk 1 (nth ac v12).aa (nth ac v12).U (nth ac v12).an (nth ac v12).ao)) v12).an (nth (ac.set v12.toNat (ab.mk 1 (nth ac v12).aa (nth ac v12).U (nth ac v12).an (nth ac v12).ao)) v12).ao)) v12).aa (nth ((ac.set v12.toNat (ab.mk 1 (nth ac v12).aa (nth ac v12).U (nth ac v12).an (nth ac v12).ao)).set v12.toNat (ab.mk 2 (nth (ac.set v12.toNat (ab.mk 1 (nth ac v12).aa (nth ac v12).U (nth ac v12).an (nth ac v12).ao)) v12).aa (nth (ac.set v12.toNat (ab.mk 1 (nth ac v12).aa (nth ac v12).U (nth ac v12).an (nth ac v12).ao)) v12).U (nth (ac.set v12.toNat (ab.mk 1 (nth ac v12).aa (nth ac v12).U (nth ac v12).an (nth ac v12).ao)) v12).an (nth (ac.set v12.toNat (ab.mk 1 (nth ac v12).aa (nth ac v12).U (nth ac v12).an (nth ac v12).ao)) v12).ao)) v12).U true (nth ((ac.set v12.toNat (ab.mk 1 (nth ac v12).aa (nth ac v12).U (nth ac v12).an (nth ac v12).ao)).set v12.toNat (ab.mk 2 (nth (ac.set v12.toNat (ab.mk 1 (nth ac v12).aa (nth ac v12).U (nth ac v12).an (nth ac v12).ao)) v12).aa (nth (ac.set v12.toNat (ab.mk 1 (nth ac v12).aa (nth ac v12).U (nth ac v12).an (nth ac v12).ao)) v12).U (nth (ac.set v12.toNat (ab.mk 1 (nth ac v12).aa (nth ac v12).U (nth ac v12).an (nth ac v12).ao)) v12).an (nth (ac.set v12.toNat (ab.mk 1 (nth ac v12).aa (nth ac v12).U (nth ac v12).an (nth ac v12).ao)) v12).ao)) v12).ao)) else(ac.set v12.toNat (ab.mk 1 (nth ac v12).aa (nth ac v12).U (nth ac v12).an (nth ac v12).ao))) else ac)=gP→((gP.length=cy.length∧v12.toNat<gP.length)∧(E7 aj ak a0 hk aD af ba cy v12 aI gP)))
def E9 (aj:gp Prop) (ak:gp Nat) (a0:aN) (hk:Bool) (aD:List Bool) (af:List ck) (ba:List (List Bool)) (cy:List Nat) (v12:Int) (aI:List ab):Prop:=
  (((aI.length=cy.length∧v12.toNat<aI.length)∧(((nth aI v12).az !=4)=true→((0:Int)≤0∧(0:Int).toNat<(nth a0.M v12).ag.length)∧(0≤(nth (nth a0.M v12).ag 0)∧(nth (nth a0.M v12).ag 0).toNat<aD.length)))∧(E3 a0 aD cy v12 aI))∧(∀ac:List ab,(bif (((nth aI v12).az !=4)&&(nth aD (nth (nth a0.M v12).ag 0))) then((aI.set v12.toNat (ab.mk 4 (nth aI v12).aa (nth aI v12).U (nth aI v12).an (nth aI v12).ao)).set v12.toNat (ab.mk (nth (aI.set v12.toNat (ab.mk 4 (nth aI v12).aa (nth aI v12).U (nth aI v12).an (nth aI v12).ao)) v12).az (nth (aI.set v12.toNat (ab.mk 4 (nth aI v12).aa (nth aI v12).U (nth aI v12).an (nth aI v12).ao)) v12).aa (nth (aI.set v12.toNat (ab.mk 4 (nth aI v12).aa (nth aI v12).U (nth aI v12).an (nth aI v12).ao)) v12).U (nth (aI.set v12.toNat (ab.mk 4 (nth aI v12).aa (nth aI v12).U (nth aI v12).an (nth aI v12).ao)) v12).an 0)) else aI)=ac→(E8 aj ak a0 hk aD af ba cy v12 aI ac))
def E_ (aj:gp Prop) (ak:gp Nat) (a0:aN) (hk:Bool) (aD:List Bool) (af:List ck) (hw:List ab) (hi:List Nat) (hb ba:List (List Bool)) (cy:List Nat) (v12:Int) (aI:List ab):Prop:=
  ((decide (v12<(hw.length:Int)))=false→zR a0 hk aD af hw hi hb aD af aI cy ba)∧((decide (v12<(hw.length:Int)))=true→(0≤v12∧v12.toNat<aI.length)∧((0≤v12∧v12.toNat<a0.M.length)∧(((aI.length=cy.length∧v12.toNat<aI.length)∧(((nth aI v12).az==0)=true→aj ba cy (IntKind.i64.wrap (v12+1)) aI∧ak ba cy (IntKind.i64.wrap (v12+1)) aI<ak ba cy v12 aI))∧((!((nth aI v12).az==0))=true→E9 aj ak a0 hk aD af ba cy v12 aI))))
def E2 (a0:aN) (aL:Nat) (hk:Bool) (aD:List Bool) (af:List ck) (hw:List ab) (hi:List Nat) (hb:List (List Bool)) (aj:gp Prop) (ak:gp Nat):Prop:=
 aj hb hi 0 hw∧ ∀(ba:List (List Bool)) (cy:List Nat) (v12:Int) (aI:List ab),aj ba cy v12 aI→(E_ aj ak a0 hk aD af hw hi hb ba cy v12 aI)
theorem aan (a0:aN) (aL:Nat) (hk:Bool) (aD:List Bool) (af:List ck) (hw:List ab) (hi:List Nat) (hb:List (List Bool)) (aj:gp Prop) (ak:gp Nat) (h:E2 a0 aL hk aD af hw hi hb aj ak):dc Try.prog 98 [.agg (bL false a0),.ptr 0 aL 0 0] (⟨aL,4,[[ay hk,aA 1 0 aD.length,aA 2 0 af.length,aA 3 0 hw.length]]⟩::⟨0,1,List.map aU aD⟩::⟨0,2,List.map br af⟩::⟨0,5,bh 4 hw hi⟩::List.map bB hb) (fun r H'=> ∃(fp:List ab) (gL:List Nat) (dS:List (List Bool)),r= .tup []∧H'=(⟨aL,4,[[ay hk,aA 1 0 aD.length,aA 2 0 af.length,aA 3 0 fp.length]]⟩::⟨0,1,List.map aU aD⟩::⟨0,2,List.map br af⟩::⟨0,5,bh 4 fp gL⟩::List.map bB dS)∧zR a0 hk aD af hw hi hb aD af fp gL dS):=by
 unfold E2 at h
 refine dc.go (fn:=Try.f98) [(0,.agg (bL false a0)),(1,.ptr 0 aL 0 0)] Try.func98 (fun _ _=> ?_)
 show WpS _ (bE aai 1) _ ⟨bt 91 [(0,.agg (bL false a0)),(1,.ptr 0 aL 0 0)],[],(⟨aL,4,[[ay hk,aA 1 0 aD.length,aA 2 0 af.length,aA 3 0 hw.length]]⟩::⟨0,1,List.map aU aD⟩::⟨0,2,List.map br af⟩::⟨0,5,bh 4 hw hi⟩::List.map bB hb)⟩
 refine xO [] 0 [(2,aZ 2 0)] [1] [0,1,1] (fun L=>(2,(bL false a0))::L) id ?_
 refine dH [(11,au (hw.length:Int)),(12,au 0)] [2] (True) ?_ (fun q2=> ?_)
 ·
  refine ca [] 1 ?_
  refine zO 4 (some 10) (aA 3 0 hw.length) [(9,.ptr 0 aL 0 3),(8,.ptr 0 aL 0 0),(7,.ptr 0 aL 0 0)] (φ:=aL=aL) rfl ?_
  exact cQ [(12,au 0),(11,au (hw.length:Int))] trivial
 refine hY 0 ?_
 obtain⟨pq,h⟩:=h
 refine mU (fun(v:List (List Bool)×List Nat×Int×List ab)=>(⟨(bt 91 [(1,.ptr 0 aL 0 0),(2,aZ 2 0),(11,au (hw.length:Int)),(12,au (v.2.2.1))]),[(2,(bL false a0))],(⟨aL,4,[[ay hk,aA 1 0 aD.length,aA 2 0 af.length,aA 3 0 (v.2.2.2).length]]⟩::⟨0,1,List.map aU aD⟩::⟨0,2,List.map br af⟩::⟨0,5,bh 4 (v.2.2.2) (v.2.1)⟩::List.map bB (v.1))⟩:St)) (fun(v:List (List Bool)×List Nat×Int×List ab)=>aj (v.1) (v.2.1) (v.2.2.1) (v.2.2.2)) (fun(v:List (List Bool)×List Nat×Int×List ab)=>ak (v.1) (v.2.1) (v.2.2.1) (v.2.2.2)) (hb,hi,0,hw) (gQ []) pq (fun v a6=> ?_)
 obtain⟨ba,cy,v12,aI⟩:=v
 replace h:=h ba cy v12 aI a6
 dsimp only
 refine hZ [] 2 [(13,ay (decide (v12<(hw.length:Int))))] [1] [4] ?_
 unfold E_ at h
 obtain⟨oz,h⟩:=h
 refine dH [] [0,1,4] ((decide (v12<(hw.length:Int)))=true) ?_ (fun q4=> ?_)
 ·
  replace h:=oz
  refine gG (fun cD=> ?_) (fun cD=> ?_)
  ·
   refine fy ?_
   exact cR.normal (by simp only[cD]<;>rfl) fv
  ·
   replace h:=h cD
   refine kY 0 ?_
   refine cR.exit ?_
   refine eE.exit ?_
   refine dG.here ?_
   refine BB (t0) [] ?_
   exact⟨aI,cy,ba,rfl,rfl,h⟩
 replace h:=h q4
 refine jc ?_
 refine hY 1 ?_
 refine hZ [] 3 [(4,au v12),(14,au v12)] [1] [4] ?_
 obtain⟨wH,h⟩:=h
 refine dH [(5,.ptr 3 0 (0+v12.toNat) 0)] [5] (True) ?_ (fun gN=> ?_)
 ·
  replace h:=wH
  refine ca [] 4 ?_
  refine zO 4 (some 18) (aA 3 0 aI.length) [(17,.ptr 0 aL 0 3),(16,.ptr 0 aL 0 0),(15,.ptr 0 aL 0 0)] (φ:=aL=aL) rfl ?_
  have abk:=h
  refine Eu 2 (some 20) [(19,au v12)] 3 0 5 abk ?_
  exact cQ [(5,.ptr 3 0 (0+v12.toNat) 0)] trivial
 obtain⟨nA,h⟩:=h
 refine g_ [(6,aZ 6 0)] [6] (fun L=>(6,(dI false (nth a0.M v12)))::L) id (True) ?_ (fun jh=> ?_)
 ·
  replace h:=nA
  refine ca [] 5 ?_
  have kh:=h
  refine nC 4 (some 24) [(23,au v12),(22,bq (dI false) a0.M),(21,aZ 2 2)] (dI false) a0.M 5 kh ?_
  exact cQ [(6,aZ 6 0),(25,.agg (dI false (nth a0.M v12)))] trivial
 obtain⟨Yb,h⟩:=h
 refine dH [] [7] ((!((nth aI v12).az==0))=true) ?_ (fun hh=> ?_)
 ·
  replace h:=Yb
  obtain⟨zx,h⟩:=h
  refine dH [(30,ay ((nth aI v12).az==0))] [7] (True) ?_ (fun kg=> ?_)
  ·
   replace h:=zx
   refine ca [] 6 ?_
   have nu:=h
   refine kL 4 (some 29) [(28,.ptr 3 0 (0+v12.toNat) 0),(27,.ptr 3 0 (0+v12.toNat) 0),(26,.ptr 3 0 (0+v12.toNat) 0)] (bh 4 aI cy) v12 3 0 0 (au (nth aI v12).az) (ei nu.1 nu.2) ?_
   exact cQ [(30,ay ((nth aI v12).az==0))] trivial
  refine gG (fun fZ=> ?_) (fun fZ=> ?_)
  ·
   replace h:=h fZ
   refine kY 1 ?_
   refine cR.exit ?_
   refine dG.here ?_
   refine dR.normal ?_
   refine ca [] 17 ?_
   refine fQ [(12,au (IntKind.i64.wrap (v12+1))),(90,au (IntKind.i64.wrap (v12+1)))] ?_
   exact eE.again (ba,cy,(IntKind.i64.wrap (v12+1)),aI) h (gQ [6])
  ·
   refine fy ?_
   exact cR.normal (by simp only[q4,fZ]<;>rfl) fv
 replace h:=h hh
 unfold E9 at h
 obtain⟨tZ,h⟩:=h
 obtain⟨ac,nv⟩: ∃w:List ab,(bif (((nth aI v12).az !=4)&&(nth aD (nth (nth a0.M v12).ag 0))) then((aI.set v12.toNat (ab.mk 4 (nth aI v12).aa (nth aI v12).U (nth aI v12).an (nth aI v12).ao)).set v12.toNat (ab.mk (nth (aI.set v12.toNat (ab.mk 4 (nth aI v12).aa (nth aI v12).U (nth aI v12).an (nth aI v12).ao)) v12).az (nth (aI.set v12.toNat (ab.mk 4 (nth aI v12).aa (nth aI v12).U (nth aI v12).an (nth aI v12).ao)) v12).aa (nth (aI.set v12.toNat (ab.mk 4 (nth aI v12).aa (nth aI v12).U (nth aI v12).an (nth aI v12).ao)) v12).U (nth (aI.set v12.toNat (ab.mk 4 (nth aI v12).aa (nth aI v12).U (nth aI v12).an (nth aI v12).ao)) v12).an 0)) else aI)=w:=⟨_,rfl⟩
 refine g_ [] [7] id (fun H=>dW 3 ⟨0,5,bh 4 ac cy⟩ H) (True) ?_ (fun ph=> ?_)
 ·
  replace h:=tZ
  obtain⟨qo,h⟩:=h
  refine dH [(47,ay (((nth aI v12).az !=4)&&(nth aD (nth (nth a0.M v12).ag 0))))] [7] (True) ?_ (fun mB=> ?_)
  ·
   replace h:=qo
   refine qs [] 7 aal aam [] ?_
   obtain⟨nw,h⟩:=h
   refine l5 4 (some 34) [(33,.ptr 3 0 (0+v12.toNat) 0),(32,.ptr 3 0 (0+v12.toNat) 0),(31,.ptr 3 0 (0+v12.toNat) 0)] (bh 4 aI cy) v12 3 0 0 (au (nth aI v12).az) (ei nw.1 nw.2) ?_
   refine oE 2 36 ((nth aI v12).az !=4) [(35,ay ((nth aI v12).az !=4))] (fun h_=> ?_) (fun h_=> ?_)
   ·
    replace h:=h h_
    refine Fj 4 (some 40) (aA 1 0 aD.length) [(39,.ptr 0 aL 0 1),(38,.ptr 0 aL 0 0),(37,.ptr 0 aL 0 0)] (φ:=aL=aL) rfl ?_
    obtain⟨kG,h⟩:=h
    refine w4 3 (some 43) [(42,bq bO (nth a0.M v12).ag),(41,aZ 6 0)] bO (nth a0.M v12).ag 1 kG ?_
    have Ot:=h
    refine w3 2 (some 45) [(44,au (nth (nth a0.M v12).ag 0))] 1 0 1 Ot ?_
    refine w5 1 (some 46) [] aU aD (nth (nth a0.M v12).ag 0) 4 0 0 (ay (nth aD (nth (nth a0.M v12).ag 0))) (by simpa using Ot.2) ?_
    exact kj [(47,ay (nth aD (nth (nth a0.M v12).ag 0)))] trivial (by simp only[q4,hh,h_]<;>kernel_rfl)
   ·
    exact kj ([(47,ay false)]++fR [46,45,44,43,42,41,40,39,38,37]) trivial (by simp only[q4,hh,h_]<;>kernel_rfl)
  unfold E3 at h
  refine gG (fun lb=> ?_) (fun lb=> ?_)
  ·
   replace h:=h lb
   obtain⟨kI,h⟩:=h
   refine g_ [] [0,1,7] id (fun H=>dW 3 ⟨0,5,bh 4 (aI.set v12.toNat (ab.mk 4 (nth aI v12).aa (nth aI v12).U (nth aI v12).an (nth aI v12).ao)) cy⟩ H) (True) ?_ (fun kH=> ?_)
   ·
    replace h:=kI
    refine ca [] 8 ?_
    have iW:=h
    refine ld 4 none [(50,.ptr 3 0 (0+v12.toNat) 0),(49,.ptr 3 0 (0+v12.toNat) 0),(48,.ptr 3 0 (0+v12.toNat) 0)] (bh 4 aI cy) v12 0 1 0 [au 4] 3 (bh 4 (aI.set v12.toNat (ab.mk 4 (nth aI v12).aa (nth aI v12).U (nth aI v12).an (nth aI v12).ao)) cy) (ei iW.1 iW.2) (lI iW.1 iW.2) ?_
    exact cQ [] trivial
   refine ca [] 9 ?_
   have jy:=h
   refine ld 4 none [(53,.ptr 3 0 (0+v12.toNat) 4),(52,.ptr 3 0 (0+v12.toNat) 0),(51,.ptr 3 0 (0+v12.toNat) 0)] (bh 4 (aI.set v12.toNat (ab.mk 4 (nth aI v12).aa (nth aI v12).U (nth aI v12).an (nth aI v12).ao)) cy) v12 4 1 0 [au 0] 3 (bh 4 ((aI.set v12.toNat (ab.mk 4 (nth aI v12).aa (nth aI v12).U (nth aI v12).an (nth aI v12).ao)).set v12.toNat (ab.mk (nth (aI.set v12.toNat (ab.mk 4 (nth aI v12).aa (nth aI v12).U (nth aI v12).an (nth aI v12).ao)) v12).az (nth (aI.set v12.toNat (ab.mk 4 (nth aI v12).aa (nth aI v12).U (nth aI v12).an (nth aI v12).ao)) v12).aa (nth (aI.set v12.toNat (ab.mk 4 (nth aI v12).aa (nth aI v12).U (nth aI v12).an (nth aI v12).ao)) v12).U (nth (aI.set v12.toNat (ab.mk 4 (nth aI v12).aa (nth aI v12).U (nth aI v12).an (nth aI v12).ao)) v12).an 0)) cy) (ei jy.1 jy.2) (lI jy.1 jy.2) ?_
   refine fQ [] ?_
   exact cR.normal trivial (by simp only[←nv,q4,hh,lb,cond_true,cond_false];exact fv)
  ·
   refine fy ?_
   exact cR.normal trivial (by simp only[←nv,q4,hh,lb,cond_true,cond_false];exact fv)
 replace h:=h ac nv
 have th:ac.length=aI.length:=by rw[←nv];repeat' apply y4;all_goals simp
 unfold E8 at h
 obtain⟨wG,h⟩:=h
 obtain⟨gP,qp⟩: ∃w:List ab,(bif (((nth ac v12).az==1) || ((nth ac v12).az==2)) then(bif (gk a0 (Frame.mk hk aD af (view (ac.set v12.toNat (ab.mk 1 (nth ac v12).aa (nth ac v12).U (nth ac v12).an (nth ac v12).ao)) cy ba)) v12) then(((ac.set v12.toNat (ab.mk 1 (nth ac v12).aa (nth ac v12).U (nth ac v12).an (nth ac v12).ao)).set v12.toNat (ab.mk 2 (nth (ac.set v12.toNat (ab.mk 1 (nth ac v12).aa (nth ac v12).U (nth ac v12).an (nth ac v12).ao)) v12).aa (nth (ac.set v12.toNat (ab.mk 1 (nth ac v12).aa (nth ac v12).U (nth ac v12).an (nth ac v12).ao)) v12).U (nth (ac.set v12.toNat (ab.mk 1 (nth ac v12).aa (nth ac v12).U (nth ac v12).an (nth ac v12).ao)) v12).an (nth (ac.set v12.toNat (ab.mk 1 (nth ac v12).aa (nth ac v12).U (nth ac v12).an (nth ac v12).ao)) v12).ao)).set v12.toNat (ab.mk (nth ((ac.set v12.toNat (ab.mk 1 (nth ac v12).aa (nth ac v12).U (nth ac v12).an (nth ac v12).ao)).set v12.toNat (ab.mk 2 (nth (ac.set v12.toNat (ab.mk 1 (nth ac v12).aa (nth ac v12).U (nth ac v12).an (nth ac v12).ao)) v12).aa (nth (ac.set v12.toNat (ab.mk 1 (nth ac v12).aa (nth ac v12).U (nth ac v12).an (nth ac v12).ao)) v12).U (nth (ac.set v12.toNat (ab.mk 1 (nth ac v12).aa (nth ac v12).U (nth ac v12).an (nth ac v12).ao)) v12).an (nth (ac.set v12.toNat (ab.mk 1 (nth ac v12).aa (nth ac v12).U (nth ac v12).an (nth ac v12).ao)) v12).ao)) v12).az (nth ((ac.set v12.toNat (ab.mk 1 (nth ac v12).aa (nth ac v12).U (nth ac v12).an (nth ac v12).ao)).set v12.toNat (ab.mk 2 (nth (ac.set v12.toNat (ab.mk 1 (nth ac v12).aa (nth ac v12).U (nth ac v12).an (nth ac v12).ao)) v12).aa (nth (ac.set v12.toNat (ab.mk 1 (nth ac v12).aa (nth ac v12).U (nth ac v12).an (nth ac v12).ao)) v12).U (nth (ac.set v12.toNat (ab.mk 1 (nth ac v12).aa (nth ac v12).U (nth ac v12).an (nth ac v12).ao)) v12).an (nth (ac.set v12.toNat (ab.mk 1 (nth ac v12).aa (nth ac v12).U (nth ac v12).an (nth ac v12).ao)) v12).ao)) v12).aa (nth ((ac.set v12.toNat (ab.mk 1 (nth ac v12).aa (nth ac v12).U (nth ac v12).an (nth ac v12).ao)).set v12.toNat (ab.mk 2 (nth (ac.set v12.toNat (ab.mk 1 (nth ac v12).aa (nth ac v12).U (nth ac v12).an (nth ac v12).ao)) v12).aa (nth (ac.set v12.toNat (ab.mk 1 (nth ac v12).aa (nth ac v12).U (nth ac v12).an (nth ac v12).ao)) v12).U (nth (ac.set v12.toNat (ab.mk 1 (nth ac v12).aa (nth ac v12).U (nth ac v12).an (nth ac v12).ao)) v12).an (nth (ac.set v12.toNat (ab.mk 1 (nth ac v12).aa (nth ac v12).U (nth ac v12).an (nth ac v12).ao)) v12).ao)) v12).U true (nth ((ac.set v12.toNat (ab.mk 1 (nth ac v12).aa (nth ac v12).U (nth ac v12).an (nth ac v12).ao)).set v12.toNat (ab.mk 2 (nth (ac.set v12.toNat (ab.mk 1 (nth ac v12).aa (nth ac v12).U (nth ac v12).an (nth ac v12).ao)) v12).aa (nth (ac.set v12.toNat (ab.mk 1 (nth ac v12).aa (nth ac v12).U (nth ac v12).an (nth ac v12).ao)) v12).U (nth (ac.set v12.toNat (ab.mk 1 (nth ac v12).aa (nth ac v12).U (nth ac v12).an (nth ac v12).ao)) v12).an (nth (ac.set v12.toNat (ab.mk 1 (nth ac v12).aa (nth ac v12).U (nth ac v12).an (nth ac v12).ao)) v12).ao)) v12).ao)) else(ac.set v12.toNat (ab.mk 1 (nth ac v12).aa (nth ac v12).U (nth ac v12).an (nth ac v12).ao))) else ac)=w:=⟨_,rfl⟩
 refine g_ [] [2,1,4] id (fun H=>dW 3 ⟨0,5,bh 4 gP cy⟩ H) (True) ?_ (fun wD=> ?_)
 ·
  replace h:=wG
  obtain⟨jg,h⟩:=h
  refine dH [(65,ay (((nth ac v12).az==1) || ((nth ac v12).az==2)))] [7] (True) ?_ (fun nx=> ?_)
  ·
   replace h:=jg
   refine ca [] 10 ?_
   obtain⟨pi,h⟩:=h
   refine kL 4 (some 57) [(56,.ptr 3 0 (0+v12.toNat) 0),(55,.ptr 3 0 (0+v12.toNat) 0),(54,.ptr 3 0 (0+v12.toNat) 0)] (bh 4 ac cy) v12 3 0 0 (au (nth ac v12).az) (ei pi.1 pi.2) ?_
   refine oB 2 59 ((nth ac v12).az==1) [(58,ay ((nth ac v12).az==1))] (fun ow=> ?_) (fun ow=> ?_)
   ·
    exact cQ ([(65,ay true)]++fR [64,63,62,61,60]) trivial (by simp only[q4,hh,ow]<;>kernel_rfl)
   ·
    replace h:=h ow
    have kJ:=h
    refine kL 4 (some 63) [(62,.ptr 3 0 (0+v12.toNat) 0),(61,.ptr 3 0 (0+v12.toNat) 0),(60,.ptr 3 0 (0+v12.toNat) 0)] (bh 4 ac cy) v12 3 0 0 (au (nth ac v12).az) (ei kJ.1 kJ.2) ?_
    exact cQ [(65,ay ((nth ac v12).az==2)),(64,ay ((nth ac v12).az==2))] trivial (by simp only[q4,hh,ow]<;>kernel_rfl)
  refine gG (fun kK=> ?_) (fun kK=> ?_)
  ·
   replace h:=h kK
   obtain⟨lY,h⟩:=h
   refine g_ [] [0,1,7] id (fun H=>dW 3 ⟨0,5,bh 4 (ac.set v12.toNat (ab.mk 1 (nth ac v12).aa (nth ac v12).U (nth ac v12).an (nth ac v12).ao)) cy⟩ H) (True) ?_ (fun ny=> ?_)
   ·
    replace h:=lY
    refine ca [] 11 ?_
    have pj:=h
    refine ld 4 none [(68,.ptr 3 0 (0+v12.toNat) 0),(67,.ptr 3 0 (0+v12.toNat) 0),(66,.ptr 3 0 (0+v12.toNat) 0)] (bh 4 ac cy) v12 0 1 0 [au 1] 3 (bh 4 (ac.set v12.toNat (ab.mk 1 (nth ac v12).aa (nth ac v12).U (nth ac v12).an (nth ac v12).ao)) cy) (ei pj.1 pj.2) (lI pj.1 pj.2) ?_
    exact cQ [] trivial
   unfold E6 at h
   obtain⟨wE,h⟩:=h
   refine dH [(74,ay (gk a0 (Frame.mk hk aD af (view (ac.set v12.toNat (ab.mk 1 (nth ac v12).aa (nth ac v12).U (nth ac v12).an (nth ac v12).ao)) cy ba)) v12))] [2,1,4] (True) ?_ (fun pk=> ?_)
   ·
    replace h:=wE
    refine qs [] 12 aaj aak [] ?_
    refine Fj 4 (some 72) (.agg [ay hk,aA 1 0 aD.length,aA 2 0 af.length,aA 3 0 aI.length]) [(71,.ptr 0 aL 0 0),(70,.ptr 0 aL 0 0),(69,.agg (bL false a0))] (φ:=aL=aL) rfl ?_
    obtain⟨zy,lW,r4,r5⟩:=h
    refine aaO 2 (some 74) [(73,au v12)] [.agg (bL false a0),.agg [ay hk,aA 1 0 aD.length,aA 2 0 af.length,aA 3 0 aI.length],au v12] (aab a0 (Frame.mk hk aD af (view (ac.set v12.toNat (ab.mk 1 (nth ac v12).aa (nth ac v12).U (nth ac v12).an (nth ac v12).ao)) cy ba)) v12 r5) (aK.cons (dP.agg (aK.cons (.int _ _) (aK.cons fA (aK.cons fA (aK.cons fA (aK.cons (.int _ _) aK.nil)))))) (aK.cons (dP.agg (aK.cons (.bool _) (aK.cons (sa (sz:=1) (by simp[th]) rfl (yT) zy) (aK.cons (sa (sz:=2) (by simp[th]) rfl (CW) lW) (aK.cons (zQ (s:=4) (ws:=(ac.set v12.toNat (ab.mk 1 (nth ac v12).aa (nth ac v12).U (nth ac v12).an (nth ac v12).ao))) (ids:=cy) (bs:=ba) (by simp[th]) rfl (fun id k h=>by simpa using h) r4.1 r4.2.1 r4.2.2) aK.nil))))) (aK.cons (dP.iw (.int _ _)) aK.nil))) ?_
    exact kj [] trivial
   unfold E5 at h
   refine gG (fun lc=> ?_) (fun lc=> ?_)
   ·
    replace h:=h lc
    obtain⟨pn,h⟩:=h
    refine g_ [] [0,1,6] id (fun H=>dW 3 ⟨0,5,bh 4 ((ac.set v12.toNat (ab.mk 1 (nth ac v12).aa (nth ac v12).U (nth ac v12).an (nth ac v12).ao)).set v12.toNat (ab.mk 2 (nth (ac.set v12.toNat (ab.mk 1 (nth ac v12).aa (nth ac v12).U (nth ac v12).an (nth ac v12).ao)) v12).aa (nth (ac.set v12.toNat (ab.mk 1 (nth ac v12).aa (nth ac v12).U (nth ac v12).an (nth ac v12).ao)) v12).U (nth (ac.set v12.toNat (ab.mk 1 (nth ac v12).aa (nth ac v12).U (nth ac v12).an (nth ac v12).ao)) v12).an (nth (ac.set v12.toNat (ab.mk 1 (nth ac v12).aa (nth ac v12).U (nth ac v12).an (nth ac v12).ao)) v12).ao)) cy⟩ H) (True) ?_ (fun tX=> ?_)
    ·
     replace h:=pn
     refine ca [] 13 ?_
     have lX:=h
     refine ld 4 none [(77,.ptr 3 0 (0+v12.toNat) 0),(76,.ptr 3 0 (0+v12.toNat) 0),(75,.ptr 3 0 (0+v12.toNat) 0)] (bh 4 (ac.set v12.toNat (ab.mk 1 (nth ac v12).aa (nth ac v12).U (nth ac v12).an (nth ac v12).ao)) cy) v12 0 1 0 [au 2] 3 (bh 4 ((ac.set v12.toNat (ab.mk 1 (nth ac v12).aa (nth ac v12).U (nth ac v12).an (nth ac v12).ao)).set v12.toNat (ab.mk 2 (nth (ac.set v12.toNat (ab.mk 1 (nth ac v12).aa (nth ac v12).U (nth ac v12).an (nth ac v12).ao)) v12).aa (nth (ac.set v12.toNat (ab.mk 1 (nth ac v12).aa (nth ac v12).U (nth ac v12).an (nth ac v12).ao)) v12).U (nth (ac.set v12.toNat (ab.mk 1 (nth ac v12).aa (nth ac v12).U (nth ac v12).an (nth ac v12).ao)) v12).an (nth (ac.set v12.toNat (ab.mk 1 (nth ac v12).aa (nth ac v12).U (nth ac v12).an (nth ac v12).ao)) v12).ao)) cy) (ei lX.1 lX.2) (lI lX.1 lX.2) ?_
     exact cQ [] trivial
    unfold E4 at h
    refine ca [] 14 ?_
    have nz:=h
    refine ld 4 none [(80,.ptr 3 0 (0+v12.toNat) 3),(79,.ptr 3 0 (0+v12.toNat) 0),(78,.ptr 3 0 (0+v12.toNat) 0)] (bh 4 ((ac.set v12.toNat (ab.mk 1 (nth ac v12).aa (nth ac v12).U (nth ac v12).an (nth ac v12).ao)).set v12.toNat (ab.mk 2 (nth (ac.set v12.toNat (ab.mk 1 (nth ac v12).aa (nth ac v12).U (nth ac v12).an (nth ac v12).ao)) v12).aa (nth (ac.set v12.toNat (ab.mk 1 (nth ac v12).aa (nth ac v12).U (nth ac v12).an (nth ac v12).ao)) v12).U (nth (ac.set v12.toNat (ab.mk 1 (nth ac v12).aa (nth ac v12).U (nth ac v12).an (nth ac v12).ao)) v12).an (nth (ac.set v12.toNat (ab.mk 1 (nth ac v12).aa (nth ac v12).U (nth ac v12).an (nth ac v12).ao)) v12).ao)) cy) v12 3 1 0 [ay true] 3 (bh 4 (((ac.set v12.toNat (ab.mk 1 (nth ac v12).aa (nth ac v12).U (nth ac v12).an (nth ac v12).ao)).set v12.toNat (ab.mk 2 (nth (ac.set v12.toNat (ab.mk 1 (nth ac v12).aa (nth ac v12).U (nth ac v12).an (nth ac v12).ao)) v12).aa (nth (ac.set v12.toNat (ab.mk 1 (nth ac v12).aa (nth ac v12).U (nth ac v12).an (nth ac v12).ao)) v12).U (nth (ac.set v12.toNat (ab.mk 1 (nth ac v12).aa (nth ac v12).U (nth ac v12).an (nth ac v12).ao)) v12).an (nth (ac.set v12.toNat (ab.mk 1 (nth ac v12).aa (nth ac v12).U (nth ac v12).an (nth ac v12).ao)) v12).ao)).set v12.toNat (ab.mk (nth ((ac.set v12.toNat (ab.mk 1 (nth ac v12).aa (nth ac v12).U (nth ac v12).an (nth ac v12).ao)).set v12.toNat (ab.mk 2 (nth (ac.set v12.toNat (ab.mk 1 (nth ac v12).aa (nth ac v12).U (nth ac v12).an (nth ac v12).ao)) v12).aa (nth (ac.set v12.toNat (ab.mk 1 (nth ac v12).aa (nth ac v12).U (nth ac v12).an (nth ac v12).ao)) v12).U (nth (ac.set v12.toNat (ab.mk 1 (nth ac v12).aa (nth ac v12).U (nth ac v12).an (nth ac v12).ao)) v12).an (nth (ac.set v12.toNat (ab.mk 1 (nth ac v12).aa (nth ac v12).U (nth ac v12).an (nth ac v12).ao)) v12).ao)) v12).az (nth ((ac.set v12.toNat (ab.mk 1 (nth ac v12).aa (nth ac v12).U (nth ac v12).an (nth ac v12).ao)).set v12.toNat (ab.mk 2 (nth (ac.set v12.toNat (ab.mk 1 (nth ac v12).aa (nth ac v12).U (nth ac v12).an (nth ac v12).ao)) v12).aa (nth (ac.set v12.toNat (ab.mk 1 (nth ac v12).aa (nth ac v12).U (nth ac v12).an (nth ac v12).ao)) v12).U (nth (ac.set v12.toNat (ab.mk 1 (nth ac v12).aa (nth ac v12).U (nth ac v12).an (nth ac v12).ao)) v12).an (nth (ac.set v12.toNat (ab.mk 1 (nth ac v12).aa (nth ac v12).U (nth ac v12).an (nth ac v12).ao)) v12).ao)) v12).aa (nth ((ac.set v12.toNat (ab.mk 1 (nth ac v12).aa (nth ac v12).U (nth ac v12).an (nth ac v12).ao)).set v12.toNat (ab.mk 2 (nth (ac.set v12.toNat (ab.mk 1 (nth ac v12).aa (nth ac v12).U (nth ac v12).an (nth ac v12).ao)) v12).aa (nth (ac.set v12.toNat (ab.mk 1 (nth ac v12).aa (nth ac v12).U (nth ac v12).an (nth ac v12).ao)) v12).U (nth (ac.set v12.toNat (ab.mk 1 (nth ac v12).aa (nth ac v12).U (nth ac v12).an (nth ac v12).ao)) v12).an (nth (ac.set v12.toNat (ab.mk 1 (nth ac v12).aa (nth ac v12).U (nth ac v12).an (nth ac v12).ao)) v12).ao)) v12).U true (nth ((ac.set v12.toNat (ab.mk 1 (nth ac v12).aa (nth ac v12).U (nth ac v12).an (nth ac v12).ao)).set v12.toNat (ab.mk 2 (nth (ac.set v12.toNat (ab.mk 1 (nth ac v12).aa (nth ac v12).U (nth ac v12).an (nth ac v12).ao)) v12).aa (nth (ac.set v12.toNat (ab.mk 1 (nth ac v12).aa (nth ac v12).U (nth ac v12).an (nth ac v12).ao)) v12).U (nth (ac.set v12.toNat (ab.mk 1 (nth ac v12).aa (nth ac v12).U (nth ac v12).an (nth ac v12).ao)) v12).an (nth (ac.set v12.toNat (ab.mk 1 (nth ac v12).aa (nth ac v12).U (nth ac v12).an (nth ac v12).ao)) v12).ao)) v12).ao)) cy) (ei nz.1 nz.2) (lI nz.1 nz.2) ?_
    refine fQ [] ?_
    exact cR.normal trivial (by simp only[←qp,q4,hh,kK,lc,cond_true,cond_false];exact fv)
   ·
    refine fy ?_
    exact cR.normal trivial (by simp only[←qp,q4,hh,kK,lc,cond_true,cond_false];exact fv)
  ·
   refine fy ?_
   exact cR.normal trivial (by simp only[←qp,q4,hh,kK,cond_true,cond_false];exact fv)
 replace h:=h gP qp
 have Il:gP.length=aI.length:=by rw[←qp];repeat' apply y4;all_goals simp[th]
 obtain⟨lZ,h⟩:=h
 refine dH [(85,ay ((nth gP v12).az==4))] [6] (True) ?_ (fun wF=> ?_)
 ·
  replace h:=lZ
  refine ca [] 15 ?_
  have r6:=h
  refine kL 4 (some 84) [(83,.ptr 3 0 (0+v12.toNat) 0),(82,.ptr 3 0 (0+v12.toNat) 0),(81,.ptr 3 0 (0+v12.toNat) 0)] (bh 4 gP cy) v12 3 0 0 (au (nth gP v12).az) (ei r6.1 r6.2) ?_
  exact cQ [(85,ay ((nth gP v12).az==4))] trivial
 unfold E7 at h
 refine gG (fun ox=> ?_) (fun ox=> ?_)
 ·
  replace h:=h.1 ox
  refine ca [] 16 ?_
  obtain⟨D_,h⟩:=h
  refine YO (⟨aL,4,[[ay hk,aA 1 0 aD.length,aA 2 0 af.length,aA 3 0 gP.length]]⟩::⟨0,1,List.map aU aD⟩::⟨0,2,List.map br af⟩::⟨0,5,bh 4 gP cy⟩::List.map bB ba) (by rw[show aI.length=gP.length by simp[th,Il]]<;>rfl) ?_
  refine Ev 4 (some 89) [(88,.ptr 3 0 (0+v12.toNat) 0),(87,.ptr 0 aL 0 0),(86,.agg (dI false (nth a0.M v12)))] [.agg (dI false (nth a0.M v12)),.ptr 0 aL 0 0,.ptr 3 0 (0+v12.toNat) 0] _ (Z7 (nth a0.M v12) v12 aL hk aD af gP cy ba D_) (fun r H' af=>by obtain⟨_,_,_,rfl,_⟩:=af;rfl) ?_
  rintro r H' ⟨uA,i55,sJ,rfl,rfl,r7⟩
  replace h:=h uA i55 sJ r7
  refine fQ [] ?_
  refine dG.normal ?_
  refine dR.normal ?_
  refine ca [] 17 ?_
  refine fQ [(12,au (IntKind.i64.wrap (v12+1))),(90,au (IntKind.i64.wrap (v12+1)))] ?_
  exact eE.again (sJ,i55,(IntKind.i64.wrap (v12+1)),uA) h (gQ [6])
 ·
  replace h:=h.2 ox
  refine fy ?_
  refine dG.normal ?_
  refine dR.normal ?_
  refine ca [] 17 ?_
  refine fQ [(12,au (IntKind.i64.wrap (v12+1))),(90,au (IntKind.i64.wrap (v12+1)))] ?_
  exact eE.again (ba,cy,(IntKind.i64.wrap (v12+1)),gP) h (nL (s':=⟨(bt 91 [(1,.ptr 0 aL 0 0),(2,aZ 2 0),(11,au (hw.length:Int)),(12,au (IntKind.i64.wrap (v12+1)))]),[(2,(bL false a0))],(⟨aL,4,[[ay hk,aA 1 0 aD.length,aA 2 0 af.length,aA 3 0 aI.length]]⟩::⟨0,1,List.map aU aD⟩::⟨0,2,List.map br af⟩::⟨0,5,bh 4 gP cy⟩::List.map bB ba)⟩) (gQ (n:=91) (A':=[(1,.ptr 0 aL 0 0),(2,aZ 2 0),(11,au (hw.length:Int)),(12,au (IntKind.i64.wrap (v12+1)))]) (L':=[(2,(bL false a0))]) [6]) (congrArg (fun z=>(⟨(bt 91 [(1,.ptr 0 aL 0 0),(2,aZ 2 0),(11,au (hw.length:Int)),(12,au (IntKind.i64.wrap (v12+1)))]),[(2,(bL false a0))],(⟨aL,4,[[ay hk,aA 1 0 aD.length,aA 2 0 af.length,aA 3 0 z]]⟩::⟨0,1,List.map aU aD⟩::⟨0,2,List.map br af⟩::⟨0,5,bh 4 gP cy⟩::List.map bB ba)⟩:St)) (show aI.length=gP.length by simp[th,Il])))
theorem aah (a0:aN) (aL:Nat) (hk:Bool) (aD:List Bool) (af:List ck) (hw:List ab) (hi:List Nat) (hb:List (List Bool)) (ai:MA a0 hk aD af hw hi hb):dc Try.prog 98 [.agg (bL false a0),.ptr 0 aL 0 0] (⟨aL,4,[[ay hk,aA 1 0 aD.length,aA 2 0 af.length,aA 3 0 hw.length]]⟩::⟨0,1,List.map aU aD⟩::⟨0,2,List.map br af⟩::⟨0,5,bh 4 hw hi⟩::List.map bB hb) (fun r H'=> ∃(fp:List ab) (gL:List Nat) (dS:List (List Bool)),r= .tup []∧H'=(⟨aL,4,[[ay hk,aA 1 0 aD.length,aA 2 0 af.length,aA 3 0 fp.length]]⟩::⟨0,1,List.map aU aD⟩::⟨0,2,List.map br af⟩::⟨0,5,bh 4 fp gL⟩::List.map bB dS)∧zR a0 hk aD af hw hi hb aD af fp gL dS):=aan a0 aL hk aD af hw hi hb (EC a0 (cI hk aD af hw hi hb)) (fun _ _ v _=>cz hw.length v) (by
 unfold E2
 obtain⟨G,fU,dJ⟩:=ai
 have vp:(cI hk aD af hw hi hb).M.length=hw.length:=iC G.ok
 have Tn:=dJ.M
 have tn:=fU.M
 have H6:=dJ.aF
 have H7:=dJ.aB
 have S7:=fU.cv
 have Tg:=fU.bo
 refine⟨⟨?_,G.ok,G.jx,rfl,G.len⟩,fun bs is v ws a6=> ?_⟩
 ·rw[vp];exact dl (c8 _)
 have vl:=a6
 obtain⟨fo,eH,mo,o7,hlen⟩:=vl
 have ap:((cI hk aD af hw hi hb).M.length:Int)≤4611686018427387904:=by omega
 obtain⟨s1,s2,l2⟩:=zT a0 (cI hk aD af hw hi hb) v.toNat
 have Tp:ws.length=hw.length:=by rw[←iC eH,o7,sf,vp]
 unfold E_
 have hm: ∀x:Int,cz hw.length x=cz (cI hk aD af hw hi hb).M.length x:=fun x=>by rw[vp]
 simp only[hm]
 rw[←vp]
 refine⟨fun hv=> ?_,fun hv=> ?_⟩
 ·have o6: ¬v<((cI hk aD af hw hi hb).M.length:Int):=by simpa using hv
  have h1:=fo.2.1
  have aM:=fo.1
  have:v.toNat=(cI hk aD af hw hi hb).M.length:=by omega
  rw[this] at o7
  exact⟨⟨eH,mo,hlen⟩,o7⟩
 have du:=cA fo hv
 have aM:=du.1
 have aS:v.toNat<ws.length:=by omega
 have kb:v.toNat<a0.M.length:=by omega
 have oX:=zS dJ v.toNat
 have j6:(cV a0 (cI hk aD af hw hi hb) v).M.length=hw.length:=(sf _ _ _).trans vp
 have hs:(cv a0 v)≠[]∧(cv a0 v).length≤30∧ ∀x∈cv a0 v,0≤x∧x<a0.ag:=fU.ag _ (eC kb)
 have jR:(cV a0 (cI hk aD af hw hi hb) v).M[v.toNat]?=some (nth (cV a0 (cI hk aD af hw hi hb) v).M v):=fY (by omega)
 have rf:(nth (cV a0 (cI hk aD af hw hi hb) v).M v).U.length=(cv a0 v).length:=oX.U _ _ _ jR (fY kb)
 have ru:=oX.aa _ (List.mem_of_getElem? jR)
 have tq:0<(cv a0 v).length:=List.length_pos_iff.2 hs.1
 have vI:(aD.length:Int)=a0.ag:=H6
 have abL:af.length=a0.bu.length:=H7
 have rB: ∀k:Int,0≤k→k.toNat<(cv a0 v).length→0≤nth (cv a0 v) k∧(nth (cv a0 v) k).toNat<aD.length:=fun k a8 c7=>by
  have:=hs.2.2 _ (eC c7);omega
 have cC:cN (cV a0 (cI hk aD af hw hi hb) v).M is v (nth (cV a0 (cI hk aD af hw hi hb) v).M v) ws bs:=cN.start eH mo aS o7 hlen
 have eA:=NP (p:=a0) (f:=cI hk aD af hw hi hb) aM
 refine⟨⟨aM,aS⟩,⟨aM,kb⟩,⟨cC.gV,fun aJ=> ?_⟩,fun aJ=> ?_⟩
 ·rw[cC.az] at aJ
  exact se ap fo hv cC (by rw[eA,if_pos (by simpa using aJ)])
 have aJ: ¬(nth (cV a0 (cI hk aD af hw hi hb) v).M v).az=0:=by rw[cC.az] at aJ;simpa using aJ
 rw[if_neg aJ] at eA
 unfold E9 E3
 refine⟨⟨⟨cC.gV,fun _=>⟨⟨Int.le_refl _,tq⟩,rB 0 (Int.le_refl _) tq⟩⟩,fun _=>⟨cC.gV,(cC.setState 4).gV⟩⟩,fun eM CR=> ?_⟩
 have cx:cN (cV a0 (cI hk aD af hw hi hb) v).M is v (gy a0 (cI hk aD af hw hi hb) v) eM bs:=by
  rw[←CR,cC.az]
  unfold gy
  simp only
  have hc:((nth (cV a0 (cI hk aD af hw hi hb) v).M v).az≠4∧eI (cV a0 (cI hk aD af hw hi hb) v) (nth (cv a0 v) 0)=true)↔((((nth (cV a0 (cI hk aD af hw hi hb) v).M v).az !=4)&&(nth aD (nth (nth a0.M v).ag 0)))=true):=by
   rw[Bool.and_eq_true,bne_iff_ne]
   unfold eI
   rw[show(cV a0 (cI hk aD af hw hi hb) v).aF=aD from s2];rfl
  by_cases hb:((nth (cV a0 (cI hk aD af hw hi hb) v).M v).az≠4∧eI (cV a0 (cI hk aD af hw hi hb) v) (nth (cv a0 v) 0)=true)
  ·rw[if_pos hb,hc.1 hb]
   exact(cC.setState 4).MC 0
  ·rw[if_neg hb,Bool.eq_false_iff.2 (fun h=>hb (hc.2 h))]
   exact cC
 have vK:tV a0 (Frame.mk hk aD af (view (eM.set v.toNat (ab.mk 1 (nth eM v).aa (nth eM v).U (nth eM v).an (nth eM v).ao)) is bs)) v:=by
  have i_:=cx.setState 1
  refine⟨fU,⟨dJ.aF,dJ.aB,?_,fun i h w aT e2=> ?_,fun h bw=> ?_⟩,aM,by omega⟩
  ·show(view _ is bs).length=_
   rw[iC i_.ok,List.length_set];have:=cx.qB;omega
  ·replace aT:(view _ is bs)[i]?=some h:=aT
   rw[i_.hG,List.getElem?_set] at aT
   split at aT
   ·rename_i hi;subst hi
    split at aT
    ·cases aT
     have:=fY kb
     rw[e2] at this
     cases this
     show(gy a0 (cI hk aD af hw _ hb) v).U.length=_
     rw[qn.1];exact rf
    ·cases aT
   ·exact oX.U i h w aT e2
  ·replace bw:h∈view _ is bs:=bw
   rw[i_.hG] at bw
   rcases List.mem_or_eq_of_mem_set bw with bw | rfl
   ·exact oX.aa h bw
   ·show 0≤(gy a0 (cI hk aD af hw hi hb) v).aa∧(gy a0 (cI hk aD af hw hi hb) v).aa≤(gy a0 (cI hk aD af hw hi hb) v).U.length
    rw[qn.1,qn.2];exact ru
 have CE:gk a0 (Frame.mk hk aD af (view (eM.set v.toNat (ab.mk 1 (nth eM v).aa (nth eM v).U (nth eM v).an (nth eM v).ao)) is bs)) v=gk a0 (cV a0 (cI hk aD af hw hi hb) v) v:=LL s2.symm l2.symm
 unfold E8
 refine⟨⟨⟨cx.gV,fun _=>cx.gV⟩,fun _=>⟨cx.gV,?_⟩⟩,fun sq CS=> ?_⟩
 ·unfold E6 E5 E4
  have i_:=cx.setState 1
  refine⟨⟨by omega,by omega,⟨i_.ok,?_,fun b hb=>by have:=hlen b hb;omega⟩,vK⟩,fun _=>⟨i_.gV,(i_.setState 2).gV⟩⟩
  rw[List.length_set];have:=cx.qB;omega
 have cZ:cN (cV a0 (cI hk aD af hw hi hb) v).M is v (fh a0 (cI hk aD af hw hi hb) v) sq bs:=by
  rw[←CS,CE,cx.az]
  unfold fh
  simp only
  by_cases hb:(gy a0 (cI hk aD af hw hi hb) v).az=1∨(gy a0 (cI hk aD af hw hi hb) v).az=2
  ·rw[if_pos hb,show(((gy a0 (cI hk aD af hw hi _) v).az==1) || ((gy a0 (cI hk aD af hw hi _) v).az==2))=true by simpa using hb]
   cases af:gk a0 (cV a0 (cI hk aD _ hw hi _) v) v with
   | true=>exact((cx.setState 1).setState 2).MB true
   | false=>exact cx.setState 1
  ·rw[if_neg hb,show(((gy a0 (cI hk aD af hw hi _) v).az==1) || ((gy a0 (cI hk aD af hw hi _) v).az==2))=false by simpa using hb]
   exact cx
 have rz:(fh a0 (cI hk aD af hw hi hb) v).U.length=(cv a0 v).length:=by rw[zs.1];exact rf
 have vJ:0≤(fh a0 (cI hk aD af hw hi hb) v).aa∧(fh a0 (cI hk aD af hw hi hb) v).aa≤(cv a0 v).length:=by rw[zs.2,←rf];exact ru
 refine⟨cZ.gV,?_⟩
 unfold E7
 refine⟨fun bn=>⟨⟨cZ.G,aM,by have:=cZ.lt;omega,?_,?_,?_,?_,?_⟩,fun w i b o2=> ?_⟩,fun bn=> ?_⟩
 ·show(cv a0 v).length≤_;omega
 ·intro x hx
  have:=hs.2.2 x hx;omega
 ·rw[cZ.wm];exact rz
 ·rw[cZ.wm];exact vJ.1
 ·rw[cZ.wm];exact vJ.2
 ·obtain⟨uF,o6⟩:=o2
  have iY:=cZ.again uF o6
  have bn:(fh a0 (cI hk aD af hw hi hb) v).az=4:=by rw[cZ.az] at bn;simpa using bn
  rw[if_pos bn] at eA
  refine se ap fo hv iY ?_
  rw[cZ.wm,eA]
  exact XJ s2.symm
 ·rw[cZ.az] at bn
  exact se ap fo hv cZ (by rw[eA,if_neg (by simpa using bn)]))
noncomputable def ZD:Code:=jJ Try.f41
def MY (a0:aN) (J:Frame) (ad:Bool):Prop:=
  (MA a0 (ah J).ok (ah J).aF (ah J).aB (ah J).M (List.range (ah J).M.length) (List.map ab.U (ah J).M))∧(∀(eM:List ab) (i28:List Nat) (ls:List (List Bool)),zR a0 (ah J).ok (ah J).aF (ah J).aB (ah J).M (List.range (ah J).M.length) (List.map ab.U (ah J).M) (ah J).aF (ah J).aB eM i28 ls→(((ah J).aF.length≤4611686018427387904∧(ah J).aB.length≤4611686018427387904∧(lk eM i28 ls∧eM.length≤4611686018427387904∧(∀x∈ls,List.length x≤4611686018427387904))∧Mx J (Frame.mk (ah J).ok (ah J).aF (ah J).aB (view eM i28 ls)))∧((l3 J (Frame.mk (ah J).ok (ah J).aF (ah J).aB (view eM i28 ls)))=ad)))
def EL (a0:aN) (J:Frame) (ad:Bool) (v76 cG:Int):Prop:=
  ((cG !=v76)=true→(0≤cG∧cG.toNat<a0.bz.length)∧((0≤v76∧v76.toNat<(nth a0.bz cG).length)∧((nth (nth a0.bz cG) v76)=true→(0≤cG∧cG.toNat<J.M.length)∧(((nth J.M cG).az !=0)=true→0≤v76∧v76.toNat<J.M.length))))∧(((cG !=v76)&&((nth (nth a0.bz cG) v76)&&(((nth J.M cG).az !=0)&&((nth J.M v76).az !=0))))=true→false=ad)
def EM (bb:Int→Int→Prop) (a1:Int→Int→Nat) (bF:cU Prop) (bA:cU Nat) (a0:aN) (J:Frame) (ad:Bool) (dr v76 cG:Int):Prop:=
  ((decide (v76<(J.M.length:Int)))=false→bb dr (IntKind.i64.wrap (cG+1))∧a1 dr (IntKind.i64.wrap (cG+1))<a1 dr cG)∧((decide (v76<(J.M.length:Int)))=true→(EL a0 J ad v76 cG)∧((!((cG !=v76)&&((nth (nth a0.bz cG) v76)&&(((nth J.M cG).az !=0)&&((nth J.M v76).az !=0)))))=true→bF dr cG (IntKind.i64.wrap (v76+1))∧bA dr cG (IntKind.i64.wrap (v76+1))<bA dr cG v76))
def EN (aj:Int→Prop) (ak:Int→Nat) (bb:Int→Int→Prop) (a1:Int→Int→Nat) (bF:cU Prop) (bA:cU Nat) (a0:aN) (J:Frame) (ad:Bool) (dr:Int):Prop:=
  ((decide (dr<(J.aB.length:Int)))=false→J.M.length≤4611686018427387904→bb dr 0∧ ∀(cG:Int),bb dr cG→(((decide (cG<(J.M.length:Int)))=false→(l4 J)∧(MY a0 J ad))∧((decide (cG<(J.M.length:Int)))=true→((H5 a0 J cG)∧((!(gg a0 J cG))=true→false=ad))∧((!(!(gg a0 J cG)))=true→bF dr cG 0∧ ∀(v76:Int),bF dr cG v76→(EM bb a1 bF bA a0 J ad dr v76 cG)))))∧((decide (dr<(J.aB.length:Int)))=true→((0≤dr∧dr.toNat<J.aB.length)∧(((!(bN (nth J.aB dr).cE 1 2)) || (!(bN (nth J.aB dr).a7 0 2)))=true→false=ad))∧((!((!(bN (nth J.aB dr).cE 1 2)) || (!(bN (nth J.aB dr).a7 0 2))))=true→aj (IntKind.i64.wrap (dr+1))∧ak (IntKind.i64.wrap (dr+1))<ak dr))
def EO (aj:Int→Prop) (ak:Int→Nat) (bb:Int→Int→Prop) (a1:Int→Int→Nat) (bF:cU Prop) (bA:cU Nat) (a0:aN) (J:Frame) (ad:Bool):Prop:=
  (((!(fP a0)) || ((!J.ok) || (((J.aF.length:Int) !=a0.ag) || (((J.aB.length:Int) !=(a0.bu.length:Int)) || ((J.M.length:Int) !=(a0.M.length:Int))))))=true→false=ad)∧((!((!(fP a0)) || ((!J.ok) || (((J.aF.length:Int) !=a0.ag) || (((J.aB.length:Int) !=(a0.bu.length:Int)) || ((J.M.length:Int) !=(a0.M.length:Int)))))))=true→J.aB.length≤4611686018427387904→aj 0∧ ∀(dr:Int),aj dr→(EN aj ak bb a1 bF bA a0 J ad dr))
def EK (a0:aN) (J:Frame) (ad:Bool) (aj:Int→Prop) (ak:Int→Nat) (bb:Int→Int→Prop) (a1:Int→Int→Nat) (bF:cU Prop) (bA:cU Nat):Prop:=
 EO aj ak bb a1 bF bA a0 J ad
theorem ZF (a0:aN) (J:Frame) (ad:Bool) (aj:Int→Prop) (ak:Int→Nat) (bb:Int→Int→Prop) (a1:Int→Int→Nat) (bF:cU Prop) (bA:cU Nat) (h:EK a0 J ad aj ak bb a1 bF bA):a_ Try.prog 41 [.agg (bL false a0),.agg (b5 false J)] (ay ad):=by
 unfold EK at h
 refine dc.go (fn:=Try.f41) [(0,.agg (bL false a0)),(1,.agg (b5 false J))] Try.func41 (fun _ _=> ?_)
 show WpS _ (bE ZD 1) _ ⟨bt 119 [(0,.agg (bL false a0)),(1,.agg (b5 false J))],[],[]⟩
 refine WpS.py ?_ (nL (s'':=⟨(bt 119 [(0,.agg (bL false a0)),(1,.agg (b5 false J))]),[],[⟨0,4,[]⟩]⟩) (Weak.DQ (T:=(bt 119 [(0,.agg (bL false a0)),(1,.agg (b5 false J))])) (L:=[]) (H:=[]) 4) (by kernel_rfl))
 refine sR [2000009] 0 [(4,ay false),(3,aZ 3 0),(2,aZ 2 0)] [0,1,2] [] [(3,(b5 false J)),(2,(bL false a0))] [⟨0,4,[]⟩] ?_
 unfold EO at h
 obtain⟨L4,h⟩:=h
 refine dH [] [2] ((!((!(fP a0)) || ((!J.ok) || (((J.aF.length:Int) !=a0.ag) || (((J.aB.length:Int) !=(a0.bu.length:Int)) || ((J.M.length:Int) !=(a0.M.length:Int)))))))=true) ?_ (fun q2=> ?_)
 ·
  replace h:=L4
  refine dH [(43,ay ((!(fP a0)) || ((!J.ok) || (((J.aF.length:Int) !=a0.ag) || (((J.aB.length:Int) !=(a0.bu.length:Int)) || ((J.M.length:Int) !=(a0.M.length:Int)))))))] [2] (True) ?_ (fun q3=> ?_)
  ·
   refine ca [2000009] 1 ?_
   refine ug 2 (some 11) [(10,.agg (bL false a0))] [.agg (bL false a0)] (ZU a0) (aK.cons (dP.agg (aK.cons (.int _ _) (aK.cons fA (aK.cons fA (aK.cons fA (aK.cons (.int _ _) aK.nil)))))) aK.nil) ?_
   refine oB 2 13 (!(fP a0)) [(12,ay (!(fP a0)))] (fun q4=> ?_) (fun q4=> ?_)
   ·
    exact cQ ([(43,ay true)]++fR [42,41,40,39,38,37,36]++[(35,ay true),(34,ay true)]++fR [33,32,31,30,29,28,27]++[(26,ay true),(25,ay true)]++fR [24,23,22,21,20,19]++[(18,ay true),(17,ay true)]++fR [16,15,14]) trivial (by simp only[q4]<;>kernel_rfl)
   ·
    refine oB 5 18 (!J.ok) [(17,ay (!J.ok)),(16,ay (!J.ok)),(15,ay J.ok),(14,aZ 3 0)] (fun cD=> ?_) (fun cD=> ?_)
    ·
     exact cQ ([(43,ay true)]++fR [42,41,40,39,38,37,36]++[(35,ay true),(34,ay true)]++fR [33,32,31,30,29,28,27]++[(26,ay true),(25,ay true)]++fR [24,23,22,21,20,19]) trivial (by simp only[q4,cD]<;>kernel_rfl)
    ·
     refine sLen 3 (some 21) [(20,bq aU J.aF),(19,aZ 3 1)] aU J.aF (fun cu=> ?_)
     refine oB 5 26 ((J.aF.length:Int) !=a0.ag) [(25,ay ((J.aF.length:Int) !=a0.ag)),(24,ay ((J.aF.length:Int) !=a0.ag)),(23,au a0.ag),(22,aZ 2 0)] (fun gN=> ?_) (fun gN=> ?_)
     ·
      exact cQ ([(43,ay true)]++fR [42,41,40,39,38,37,36]++[(35,ay true),(34,ay true)]++fR [33,32,31,30,29,28,27]) trivial (by simp only[q4,cD,gN]<;>kernel_rfl)
     ·
      refine sLen 3 (some 29) [(28,bq br J.aB),(27,aZ 3 2)] br J.aB (fun jh=> ?_)
      refine sLen 3 (some 32) [(31,bq bO a0.bu),(30,aZ 2 1)] bO a0.bu (fun kh=> ?_)
      refine oB 3 35 ((J.aB.length:Int) !=(a0.bu.length:Int)) [(34,ay ((J.aB.length:Int) !=(a0.bu.length:Int))),(33,ay ((J.aB.length:Int) !=(a0.bu.length:Int)))] (fun hh=> ?_) (fun hh=> ?_)
      ·
       exact cQ ([(43,ay true)]++fR [42,41,40,39,38,37,36]) trivial (by simp only[q4,cD,gN,hh]<;>kernel_rfl)
      ·
       refine sLen 3 (some 38) [(37,bq (ct false) J.M),(36,aZ 3 3)] (ct false) J.M (fun kg=> ?_)
       refine sLen 3 (some 41) [(40,bq (dI false) a0.M),(39,aZ 2 2)] (dI false) a0.M (fun nu=> ?_)
       exact cQ [(43,ay ((J.M.length:Int) !=(a0.M.length:Int))),(42,ay ((J.M.length:Int) !=(a0.M.length:Int)))] trivial (by simp only[q4,cD,gN,hh]<;>kernel_rfl)
  refine gG (fun fZ=> ?_) (fun fZ=> ?_)
  ·
   replace h:=h fZ
   refine hZ [2000009] 2 [(4,ay false)] [1] [] ?_
   exact iK (cR.ret (r_ (ay false) (jE.iw (sj h))))
  ·
   refine fy ?_
   exact cR.normal (by simp only[fZ]<;>rfl) fv
 replace h:=h q2
 refine jc ?_
 refine dH [(45,bq br J.aB),(46,au (J.aB.length:Int)),(47,au 0)] [2] (J.aB.length≤4611686018427387904) ?_ (fun ph=> ?_)
 ·
  refine ca [2000009] 3 ?_
  refine sLen 3 (some 46) [(45,bq br J.aB),(44,aZ 3 2)] br J.aB (fun ov=> ?_)
  exact cQ [(47,au 0)] ov
 replace h:=h ph
 refine hY 0 ?_
 obtain⟨wJ,h⟩:=h
 refine mU (fun(v:Int)=>(⟨(bt 119 [(2,aZ 2 0),(3,aZ 3 0),(45,bq br J.aB),(46,au (J.aB.length:Int)),(47,au v)]),[(3,(b5 false J)),(2,(bL false a0))],[⟨0,4,[]⟩]⟩:St)) (fun(v:Int)=>aj v) (fun(v:Int)=>ak v) 0 (gQ []) wJ (fun dr a6=> ?_)
 replace h:=h dr a6
 refine hZ [2000009] 4 [(48,ay (decide (dr<(J.aB.length:Int))))] [1] [5] ?_
 unfold EN at h
 obtain⟨zD,h⟩:=h
 refine dH [] [0,1,5] ((decide (dr<(J.aB.length:Int)))=true) ?_ (fun mB=> ?_)
 ·
  replace h:=zD
  refine gG (fun h_=> ?_) (fun h_=> ?_)
  ·
   refine fy ?_
   exact cR.normal (by simp only[q2,h_]<;>rfl) fv
  ·
   replace h:=h h_
   refine kY 0 ?_
   refine cR.exit ?_
   refine eE.exit ?_
   refine dG.here ?_
   refine dR.normal ?_
   refine jc ?_
   refine j5 ⟨(bt 119 [(2,aZ 2 0),(3,aZ 3 0),(64,au (J.M.length:Int)),(65,au 0)]),[(3,(b5 false J)),(2,(bL false a0))],[⟨0,4,[]⟩]⟩ (J.M.length≤4611686018427387904) ?_ (fun kG=> ?_)
   ·
    refine ca [2000009] 9 ?_
    refine sLen 3 (some 64) [(63,bq (ct false) J.M),(62,aZ 3 3)] (ct false) J.M (fun nw=> ?_)
    exact cQ [(65,au 0)] nw
   replace h:=h kG
   refine hY 2 ?_
   obtain⟨Ea,h⟩:=h
   refine mU (fun(v:Int)=>(⟨(bt 119 [(2,aZ 2 0),(3,aZ 3 0),(64,au (J.M.length:Int)),(65,au v)]),[(3,(b5 false J)),(2,(bL false a0))],[⟨0,4,[]⟩]⟩:St)) (fun(v:Int)=>bb dr v) (fun(v:Int)=>a1 dr v) 0 (gQ []) Ea (fun cG a6=> ?_)
   replace h:=h cG a6
   refine hZ [2000009] 10 [(66,ay (decide (cG<(J.M.length:Int))))] [1] [4] ?_
   obtain⟨t_,h⟩:=h
   refine dH [] [0,1,4] ((decide (cG<(J.M.length:Int)))=true) ?_ (fun kH=> ?_)
   ·
    replace h:=t_
    refine gG (fun iW=> ?_) (fun iW=> ?_)
    ·
     refine fy ?_
     exact cR.normal (by simp only[q2,h_,iW]<;>rfl) fv
    ·
     replace h:=h iW
     refine kY 2 ?_
     refine cR.exit ?_
     refine eE.exit ?_
     refine dG.here ?_
     refine dR.normal ?_
     obtain⟨pk,h⟩:=h
     refine j5 ⟨(bt 119 [(2,aZ 2 0),(3,aZ 3 0),(9,.ptr 0 1 0 0)]),[(3,(b5 false J)),(2,(bL false a0))],(⟨1,4,[[ay (ah J).ok,aA 1 0 (ah J).aF.length,aA 2 0 (ah J).aB.length,aA 3 0 (ah J).M.length]]⟩::⟨0,1,List.map aU (ah J).aF⟩::⟨0,2,List.map br (ah J).aB⟩::⟨0,5,bh 4 (ah J).M (List.range (ah J).M.length)⟩::List.map bB (List.map ab.U (ah J).M))⟩ (True) ?_ (fun jy=> ?_)
     ·
      replace h:=pk
      refine ca [2000009] 21 ?_
      have kI:=h
      refine zP 2 (some 113) [(112,.agg (b5 false J))] [.agg (b5 false J)] (.agg [ay (ah J).ok,aA 1 0 (ah J).aF.length,aA 2 0 (ah J).aB.length,aA 3 0 (ah J).M.length]) (⟨0,4,[]⟩::⟨0,1,List.map aU (ah J).aF⟩::⟨0,2,List.map br (ah J).aB⟩::⟨0,5,bh 4 (ah J).M (List.range (ah J).M.length)⟩::List.map bB (List.map ab.U (ah J).M)) (ZZ J kI) (aK.cons (dP.agg (aK.cons (.bool _) (aK.cons fA (aK.cons fA (aK.cons fA aK.nil))))) aK.nil) Ls (ul YY (by kernel_rfl)) ?_ (er:=by simp[nD,pu,iA])
      refine Ew 1 [(9,.ptr 0 1 0 0)] [(3,(b5 false J)),(2,(bL false a0))] (⟨1,4,[[ay false,bm,bm,bm]]⟩::⟨0,1,List.map aU (ah J).aF⟩::⟨0,2,List.map br (ah J).aB⟩::⟨0,5,bh 4 (ah J).M (List.range (ah J).M.length)⟩::List.map bB (List.map ab.U (ah J).M)) ?_
      refine YR 1 [] (⟨1,4,[[ay (ah J).ok,aA 1 0 (ah J).aF.length,aA 2 0 (ah J).aB.length,aA 3 0 (ah J).M.length]]⟩::⟨0,1,List.map aU (ah J).aF⟩::⟨0,2,List.map br (ah J).aB⟩::⟨0,5,bh 4 (ah J).M (List.range (ah J).M.length)⟩::List.map bB (List.map ab.U (ah J).M)) (φ:=1=1) (ψ:=4≤4) rfl (by decide) ?_
      exact cQ [] trivial
     unfold MY at h
     refine jc ?_
     refine ca [2000009] 22 ?_
     obtain⟨ny,h⟩:=h
     refine Ev 2 (some 115) [(114,.agg (bL false a0))] [.agg (bL false a0),.ptr 0 1 0 0] _ (aah a0 1 (ah J).ok (ah J).aF (ah J).aB (ah J).M (List.range (ah J).M.length) (List.map ab.U (ah J).M) ny) (fun r H' af=>by obtain⟨_,_,_,rfl,_⟩:=af;rfl) ?_
     rintro r H' ⟨eM,i28,ls,rfl,rfl,pj⟩
     replace h:=h eM i28 ls pj
     refine fQ [] ?_
     refine dR.normal ?_
     obtain⟨kK,h⟩:=h
     refine j5 ⟨(bt 119 [(4,ay (l3 J (Frame.mk (ah J).ok (ah J).aF (ah J).aB (view eM i28 ls))))]),[(3,(b5 false J)),(2,(bL false a0))],(⟨1,4,[[ay (ah J).ok,aA 1 0 (ah J).aF.length,aA 2 0 (ah J).aB.length,aA 3 0 eM.length]]⟩::⟨0,1,List.map aU (ah J).aF⟩::⟨0,2,List.map br (ah J).aB⟩::⟨0,5,bh 4 eM i28⟩::List.map bB ls)⟩ (True) ?_ (fun qp=> ?_)
     ·
      replace h:=kK
      refine ca [2000009] 23 ?_
      refine zO 2 (some 117) (.agg [ay (ah J).ok,aA 1 0 (ah J).aF.length,aA 2 0 (ah J).aB.length,aA 3 0 eM.length]) [(116,.agg (b5 false J))] (φ:=1=1) rfl ?_
      obtain⟨nx,ow,kJ,pi⟩:=h
      refine ug 1 (some 118) [] [.agg (b5 false J),.agg [ay (ah J).ok,aA 1 0 (ah J).aF.length,aA 2 0 (ah J).aB.length,aA 3 0 eM.length]] (aae J (Frame.mk (ah J).ok (ah J).aF (ah J).aB (view eM i28 ls)) pi) (aK.cons (dP.agg (aK.cons (.bool _) (aK.cons fA (aK.cons fA (aK.cons fA aK.nil))))) (aK.cons (dP.agg (aK.cons (.bool _) (aK.cons (sa (sz:=1) (by simp) rfl (yT) nx) (aK.cons (sa (sz:=2) (by simp) rfl (CW) ow) (aK.cons (zQ (s:=4) (ws:=eM) (ids:=i28) (bs:=ls) (by simp) rfl (fun id k h=>by simpa using h) kJ.1 kJ.2.1 kJ.2.2) aK.nil))))) aK.nil)) ?_
      exact cQ [(4,ay (l3 J (Frame.mk (ah J).ok (ah J).aF (ah J).aB (view eM i28 ls))))] trivial
     exact iK (r_ (ay (l3 J (Frame.mk (ah J).ok (ah J).aF (ah J).aB (view eM i28 ls)))) (jE.iw (sj h)))
   replace h:=h kH
   refine jc ?_
   refine hY 3 ?_
   refine hZ [2000009] 11 [(7,au cG),(67,au cG)] [1] [4] ?_
   obtain⟨Yc,h⟩:=h
   refine dH [] [5] ((!(!(gg a0 J cG)))=true) ?_ (fun lW=> ?_)
   ·
    replace h:=Yc
    obtain⟨lX,h⟩:=h
    refine dH [(72,ay (!(gg a0 J cG)))] [5] (True) ?_ (fun r4=> ?_)
    ·
     replace h:=lX
     refine ca [2000009] 12 ?_
     have r5:=h
     refine ug 4 (some 71) [(70,au cG),(69,.agg (b5 false J)),(68,.agg (bL false a0))] [.agg (bL false a0),.agg (b5 false J),au cG] (Z3 a0 J cG r5) (aK.cons (dP.agg (aK.cons (.int _ _) (aK.cons fA (aK.cons fA (aK.cons fA (aK.cons (.int _ _) aK.nil)))))) (aK.cons (dP.agg (aK.cons (.bool _) (aK.cons fA (aK.cons fA (aK.cons fA aK.nil))))) (aK.cons (dP.iw (.int _ _)) aK.nil))) ?_
     exact cQ [(72,ay (!(gg a0 J cG)))] trivial
    refine gG (fun lc=> ?_) (fun lc=> ?_)
    ·
     replace h:=h lc
     refine hZ [2000009] 13 [(4,ay false)] [1] [] ?_
     exact iK (cR.ret (dG.ret (dR.ret (eE.ret (dG.ret (dR.ret (r_ (ay false) (jE.iw (sj h)))))))))
    ·
     refine fy ?_
     exact cR.normal (by simp only[q2,h_,kH,lc]<;>rfl) fv
   replace h:=h lW
   refine dH [(75,au (J.M.length:Int)),(76,au 0)] [5] (True) ?_ (fun nz=> ?_)
   ·
    refine ca [2000009] 14 ?_
    refine sLen 3 (some 75) [(74,bq (ct false) J.M),(73,aZ 3 3)] (ct false) J.M (fun pn=> ?_)
    exact cQ [(76,au 0)] trivial
   refine hY 4 ?_
   obtain⟨pq,h⟩:=h
   refine mU (fun(v:Int)=>(⟨(bt 119 [(2,aZ 2 0),(3,aZ 3 0),(7,au cG),(64,au (J.M.length:Int)),(65,au cG),(75,au (J.M.length:Int)),(76,au v)]),[(3,(b5 false J)),(2,(bL false a0))],[⟨0,4,[]⟩]⟩:St)) (fun(v:Int)=>bF dr cG v) (fun(v:Int)=>bA dr cG v) 0 (gQ []) pq (fun v76 a6=> ?_)
   replace h:=h v76 a6
   refine hZ [2000009] 15 [(77,ay (decide (v76<(J.M.length:Int))))] [1] [7] ?_
   unfold EM at h
   obtain⟨oz,h⟩:=h
   refine dH [] [0,1,7] ((decide (v76<(J.M.length:Int)))=true) ?_ (fun lY=> ?_)
   ·
    replace h:=oz
    refine gG (fun jg=> ?_) (fun jg=> ?_)
    ·
     refine fy ?_
     exact cR.normal (by simp only[q2,h_,kH,lW,jg]<;>rfl) fv
    ·
     replace h:=h jg
     refine kY 4 ?_
     refine cR.exit ?_
     refine eE.exit ?_
     refine dG.here ?_
     refine dG.normal ?_
     refine dR.normal ?_
     refine ca [2000009] 20 ?_
     refine fQ [(65,au (IntKind.i64.wrap (cG+1))),(111,au (IntKind.i64.wrap (cG+1)))] ?_
     exact eE.again (IntKind.i64.wrap (cG+1)) h (gQ [])
   replace h:=h lY
   obtain⟨wH,h⟩:=h
   refine dH [] [7] ((!((cG !=v76)&&((nth (nth a0.bz cG) v76)&&(((nth J.M cG).az !=0)&&((nth J.M v76).az !=0)))))=true) ?_ (fun wF=> ?_)
   ·
    replace h:=wH
    refine hY 5 ?_
    refine hZ [2000009] 16 [(8,au v76),(78,au v76)] [1] [7] ?_
    unfold EL at h
    obtain⟨nA,h⟩:=h
    refine dH [(109,ay ((cG !=v76)&&((nth (nth a0.bz cG) v76)&&(((nth J.M cG).az !=0)&&((nth J.M v76).az !=0)))))] [0,1,7] (True) ?_ (fun ox=> ?_)
    ·
     replace h:=nA
     refine ca [2000009] 17 ?_
     refine oB 4 82 (cG !=v76) [(81,ay (cG !=v76)),(80,au v76),(79,au cG)] (fun oy=> ?_) (fun oy=> ?_)
     ·
      replace h:=h oy
      obtain⟨wG,h⟩:=h
      refine nC 4 (some 86) [(85,au cG),(84,bq (e1 aU false) a0.bz),(83,aZ 2 3)] (e1 aU false) a0.bz 1 wG ?_
      obtain⟨lZ,h⟩:=h
      refine nC 3 (some 89) [(88,au v76),(87,bq aU (nth a0.bz cG))] aU (nth a0.bz cG) 1 lZ ?_
      refine oB 3 92 (nth (nth a0.bz cG) v76) [(91,ay (nth (nth a0.bz cG) v76)),(90,ay (nth (nth a0.bz cG) v76))] (fun po=> ?_) (fun po=> ?_)
      ·
       replace h:=h po
       obtain⟨r7,h⟩:=h
       refine nC 4 (some 96) [(95,au cG),(94,bq (ct false) J.M),(93,aZ 3 3)] (ct false) J.M 5 r7 ?_
       refine oB 5 101 ((nth J.M cG).az !=0) [(100,ay ((nth J.M cG).az !=0)),(99,ay ((nth J.M cG).az !=0)),(98,au (nth J.M cG).az),(97,.cM (ct false (nth J.M cG)) 0)] (fun tY=> ?_) (fun tY=> ?_)
       ·
        replace h:=h tY
        have D_:=h
        refine nC 4 (some 105) [(104,au v76),(103,bq (ct false) J.M),(102,aZ 3 3)] (ct false) J.M 5 D_ ?_
        exact cQ [(109,ay ((nth J.M v76).az !=0)),(108,ay ((nth J.M v76).az !=0)),(107,au (nth J.M v76).az),(106,.cM (ct false (nth J.M v76)) 0)] trivial (by simp only[q2,h_,kH,lW,lY,oy,po,tY]<;>kernel_rfl)
       ·
        exact cQ ([(109,ay false)]++fR [108,107,106,105,104,103,102]) trivial (by simp only[q2,h_,kH,lW,lY,oy,po,tY]<;>kernel_rfl)
      ·
       exact cQ ([(109,ay false)]++fR [108,107,106,105,104,103,102]++[(101,ay false),(100,ay false)]++fR [99,98,97,96,95,94,93]) trivial (by simp only[q2,h_,kH,lW,lY,oy,po]<;>kernel_rfl)
     ·
      exact cQ ([(109,ay false)]++fR [108,107,106,105,104,103,102]++[(101,ay false),(100,ay false)]++fR [99,98,97,96,95,94,93]++[(92,ay false),(91,ay false)]++fR [90,89,88,87,86,85,84,83]) trivial (by simp only[q2,h_,kH,lW,lY,oy]<;>kernel_rfl)
    refine gG (fun tZ=> ?_) (fun tZ=> ?_)
    ·
     replace h:=h tZ
     refine hZ [2000009] 18 [(4,ay false)] [1] [] ?_
     exact iK (dG.ret (cR.ret (eE.ret (dG.ret (dG.ret (dR.ret (eE.ret (dG.ret (dR.ret (r_ (ay false) (jE.iw (sj h))))))))))))
    ·
     refine fy ?_
     refine dG.normal ?_
     exact cR.normal (by simp only[q2,h_,kH,lW,lY,tZ]<;>rfl) fv
   replace h:=h wF
   refine ca [2000009] 19 ?_
   refine fQ [(76,au (IntKind.i64.wrap (v76+1))),(110,au (IntKind.i64.wrap (v76+1)))] ?_
   exact eE.again (IntKind.i64.wrap (v76+1)) h (gQ [])
 replace h:=h mB
 obtain⟨zC,h⟩:=h
 refine g_ [] [5] (fun L=>(6,(br (nth J.aB dr)))::L) id ((!((!(bN (nth J.aB dr).cE 1 2)) || (!(bN (nth J.aB dr).a7 0 2))))=true) ?_ (fun zz=> ?_)
 ·
  replace h:=zC
  refine hY 1 ?_
  obtain⟨zB,h⟩:=h
  refine g_ [(6,aZ 6 0)] [5] (fun L=>(6,(br (nth J.aB dr)))::L) id (True) ?_ (fun Eb=> ?_)
  ·
   replace h:=zB
   refine ca [2000009] 5 ?_
   have zA:=h
   refine nC 1 (some 49) [] br J.aB 2 zA ?_
   exact cQ [(6,aZ 6 0),(50,.agg (br (nth J.aB dr)))] trivial
  refine dH [(60,ay ((!(bN (nth J.aB dr).cE 1 2)) || (!(bN (nth J.aB dr).a7 0 2))))] [0,1,5] (True) ?_ (fun Ec=> ?_)
  ·
   refine ca [2000009] 6 ?_
   refine ug 3 (some 53) [(52,au (nth J.aB dr).cE),(51,aZ 6 0)] [au (nth J.aB dr).cE,au 1,au 2] (EP (nth J.aB dr).cE 1 2) (aK.cons (dP.iw (.int _ _)) (aK.cons (dP.iw (.int _ _)) (aK.cons (dP.iw (.int _ _)) aK.nil))) ?_
   refine oB 2 55 (!(bN (nth J.aB dr).cE 1 2)) [(54,ay (!(bN (nth J.aB dr).cE 1 2)))] (fun wI=> ?_) (fun wI=> ?_)
   ·
    exact cQ ([(60,ay true)]++fR [59,58,57,56]) trivial (by simp only[q2,mB,wI]<;>kernel_rfl)
   ·
    refine ug 3 (some 58) [(57,au (nth J.aB dr).a7),(56,aZ 6 1)] [au (nth J.aB dr).a7,au 0,au 2] (EP (nth J.aB dr).a7 0 2) (aK.cons (dP.iw (.int _ _)) (aK.cons (dP.iw (.int _ _)) (aK.cons (dP.iw (.int _ _)) aK.nil))) ?_
    exact cQ [(60,ay (!(bN (nth J.aB dr).a7 0 2))),(59,ay (!(bN (nth J.aB dr).a7 0 2)))] trivial (by simp only[q2,mB,wI]<;>kernel_rfl)
  refine gG (fun ua=> ?_) (fun ua=> ?_)
  ·
   replace h:=h ua
   refine hZ [2000009] 7 [(4,ay false)] [1] [] ?_
   exact iK (dG.ret (cR.ret (eE.ret (dG.ret (dR.ret (r_ (ay false) (jE.iw (sj h))))))))
  ·
   refine fy ?_
   refine dG.normal ?_
   exact cR.normal (by simp only[q2,mB,ua]<;>rfl) fv
 replace h:=h zz
 refine ca [2000009] 8 ?_
 refine fQ [(47,au (IntKind.i64.wrap (dr+1))),(61,au (IntKind.i64.wrap (dr+1)))] ?_
 exact eE.again (IntKind.i64.wrap (dr+1)) h (gQ [6])
theorem ZC (a0:aN) (J:Frame) (ai:s6 a0 J):a_ Try.prog 41 [.agg (bL false a0),.agg (b5 false J)] (ay (gJ a0 J)):=ZF a0 J (gJ a0 J) (cl J.aB.length (fun j=>(!(bN (nth J.aB j).cE 1 2)) || (!(bN (nth J.aB j).a7 0 2)))) (cz J.aB.length) (fun _ i=>(∀x∈J.aB,lU x=true)∧cl J.M.length (fun i=> !(gg a0 J i) || uf a0 J J.M.length i) i) (fun _=>cz J.M.length) (fun _ i=>cl J.M.length (fun k=>jI a0 J i k)) (fun _ _=>cz J.M.length) (by
 unfold EK EO
 have hs:l4 J:=ai
 have no: ∀φ:Prop,(gJ a0 J=true→φ)→ ¬φ→false=gJ a0 J:=fun φ h1 h2=>by
  cases h:gJ a0 J with
  | false=>rfl
  | true=>exact absurd (h1 h) h2
 have D:=fun h=>(vc (p:=a0) (f:=J)).1 h
 refine⟨fun af=>no _ D (fun aY=>by have:=aY.1;unfold pQ at this;rw[af] at this;cases this),fun af ap=>⟨dl (c8 _),fun v a6=> ?_⟩⟩
 have m7:pQ a0 J=true:=af
 obtain⟨dV,bV,oO,AN,AO⟩:=vb.1 m7
 have fU:=D1 dV
 have cS:=LF dV
 unfold EN
 refine⟨fun hv hm=> ?_,fun hv=>⟨⟨cA a6 hv,fun hb=>no _ D fun aY=> ?_⟩,fun hb=>de (dD ap) a6 hv (not_eq hb)⟩⟩
 ·have k4: ∀x∈J.aB,lU x=true:=fun x hx=>by
   have:=km (q:=fun x:ck=>(!(bN x.cE 1 2)) || (!(bN x.a7 0 2))) (fB a6 hv) x hx
   unfold lU
   simpa[Bool.and_eq_true] using this
  refine⟨⟨k4,dl (c8 _)⟩,fun i hQ=>⟨fun hi=> ?_,fun hi=> ?_⟩⟩
  ·have dy:=fB hQ.2 hi
   have vB: ∀i:Int,0≤i→i<J.M.length→gg a0 J i=true:=fun i i0 i1=>by
    have:=dy i i0 i1
    rw[Bool.or_eq_false_iff] at this
    simpa using this.1
   have Ci: ∀i k:Int,0≤i→i<J.M.length→0≤k→k<J.M.length→jI a0 J i k=false:=fun i k i0 i1 a8 c7=>by
    have:=dy i i0 i1
    rw[Bool.or_eq_false_iff] at this
    have h2:=this.2
    unfold uf at h2
    rw[List.any_eq_false] at h2
    have:=h2 k.toNat (List.mem_range.2 (by omega))
    rw[Int.toNat_of_nonneg a8] at this
    simpa using this
   have dJ:jC a0 J:=BZ m7 fun i i0 i1=>by
    have:=vB i i0 i1
    rw[yv,Bool.and_eq_true] at this;exact this.1
   obtain⟨c9,dn,fi⟩:=Ha J.M
   have R6:iG J.M (List.range J.M.length) (J.M.map ab.U):=⟨c9,dn,fun b hb=>by
    obtain⟨h,bw,rfl⟩:=List.mem_map.1 hb;exact hs.2.2.2 h bw⟩
   have Iy:cI J.ok J.aF J.aB J.M (List.range J.M.length) (J.M.map ab.U)=J:=by unfold cI;rw[fi]
   refine⟨hs,⟨R6,?_⟩,fun w i b o2=> ?_⟩
   ·show wV a0 (cI J.ok J.aF J.aB J.M (List.range J.M.length) (J.M.map ab.U))
    rw[Iy];exact⟨fU,dJ⟩
   ·obtain⟨G,hv⟩:=o2
    replace hv:view w i b=(lf a0 (cI J.ok J.aF J.aB J.M (List.range J.M.length) (J.M.map ab.U))).M:=hv
    rw[Iy] at hv
    have aE:w.length=J.M.length:=by rw[←iC G.ok,hv];exact sf _ _ _
    have HM:=zS dJ J.M.length
    obtain⟨s1,s2,l2,YI⟩:=hs
    have nc:(lf a0 J).M.length=J.M.length:=sf _ _ _
    have tc: ∀h∈(lf a0 J).M,h.U.length≤1048576:=fun h bw=>by
     obtain⟨j,ar,rfl⟩:=List.mem_iff_getElem.1 bw
     have:=HM.U j _ _ (List.getElem?_eq_getElem ar) (List.getElem?_eq_getElem (by omega))
     rw[this]
     have:=(fU.ag _ (List.getElem_mem (show j<a0.M.length by omega))).2.1
     omega
    refine⟨⟨by show J.aF.length≤_;omega,by show J.aB.length≤_;omega,⟨G.ok,by omega,fun x hx=>by have:=G.len x hx;omega⟩,?_,⟨s1,s2,l2,YI⟩,⟨s1,s2,?_,?_⟩,fun j x y aT e2=> ?_⟩,?_⟩
    ·show J.M.length=(view w i b).length;rw[iC G.ok,aE]
    ·show(view w i b).length≤_;rw[iC G.ok];omega
    ·show ∀h∈view w i b,_
     rw[hv];exact tc
    ·replace e2:(view w i b)[j]?=some y:=e2
     rw[hv] at e2
     have ar:=(List.getElem?_eq_some_iff.1 aT).1
     have hw:=List.getElem?_eq_getElem (show j<a0.M.length by omega)
     rw[dJ.U j _ _ aT hw,HM.U j _ _ e2 hw]
    ·unfold l3
     show decide (J.M=view w i b)=_
     rw[hv]
     by_cases h:J.M=(lf a0 J).M
     ·rw[decide_eq_true h,vc.2 ⟨m7,k4,vB,Ci,h⟩]
     ·rw[decide_eq_false h]
      exact no _ D fun aY=>h aY.2.2.2.2
  ·have du:=cA hQ.2 hi
   refine⟨⟨⟨fU,hs,AO,du.1,by omega⟩,fun hb=>no _ D fun aY=> ?_⟩,fun hb=>⟨dl (c8 _),fun k hK=> ?_⟩⟩
   ·rw[aY.2.2.1 i du.1 (by omega)] at hb;cases hb
   ·have hb:gg a0 J i=true:=by simpa using hb
    unfold EM
    refine⟨fun hk=> ?_,fun hk=>⟨?_,fun af=>de (dD hm) hK hk (not_eq af)⟩⟩
    ·have:=de (dD hm) hQ.2 hi (show(!(gg a0 J i) || uf a0 J J.M.length i)=false by
      rw[hb]
      exact List.any_eq_false.2 fun k h4=>by rw[fB hK hk k (by omega) (by have:=List.mem_range.1 h4;omega)];simp)
     exact⟨⟨k4,this.1⟩,this.2⟩
    ·have Cw:=cA hK hk
     have gC:=cS.len
     have eg:=cS.row i du.1 (by omega)
     unfold EL
     refine⟨fun _=>⟨⟨du.1,by omega⟩,⟨Cw.1,by omega⟩,fun _=>⟨du,fun _=>Cw⟩⟩,fun af=>no _ D fun aY=> ?_⟩
     have:=aY.2.2.2.1 i k du.1 (by omega) Cw.1 (by omega)
     have af:jI a0 J i k=true:=af
     rw[this] at af;cases af
 ·have:=aY.2.1 _ (eC (cA a6 hv).2)
  unfold lU at this
  rw[Bool.and_eq_true] at this
  rw[this.1,this.2] at hb;cases hb)
def ZE:cw Try.prog:=⟨41,[.dN,.frame],[.bool],some fun x=>s6 x.1 x.2.1,fun x=>((gJ x.1 x.2.1),()),fun x h=>ZC x.1 x.2.1 h⟩
def TN:List Item:=[al 0,al 1,al 2,al 3,al 4,al 5]
def TO:List (List Nat):=[[],[],[],[1,2],rg 0 4,rg 0 5]
def IK (bF:cU Prop) (bA:cU Nat) (a0:aN) (J:Frame) (ad:Bool) (ek jY cb:Int):Prop:=
  ((((nth J.M cb).az !=0)=true→(0≤jY∧jY.toNat<J.M.length)∧(((nth J.M jY).az !=0)=true→(0≤cb∧cb.toNat<a0.bz.length)∧(0≤jY∧jY.toNat<(nth a0.bz cb).length)))∧((((nth J.M cb).az !=0)&&(((nth J.M jY).az !=0)&&(nth (nth a0.bz cb) jY)))=true→false=ad))∧((!(((nth J.M cb).az !=0)&&(((nth J.M jY).az !=0)&&(nth (nth a0.bz cb) jY))))=true→bF ek cb (IntKind.i64.wrap (jY+1))∧bA ek cb (IntKind.i64.wrap (jY+1))<bA ek cb jY)
def IL (bb:Int→Int→Prop) (a1:Int→Int→Nat) (bF:cU Prop) (bA:cU Nat) (a0:aN) (J:Frame) (ad:Bool) (ek cb:Int):Prop:=
  ((((nth J.M cb).az==0)=true→(nth J.M cb).an=true→false=ad)∧(((nth J.M cb).az==0)=false→(bif ((nth J.M cb).az==2) then((nth J.M cb).az==2) else((nth J.M cb).az==3))=true→(!(nth J.M cb).an)=true→false=ad))∧((bif ((nth J.M cb).az==0) then(!(nth J.M cb).an) else(!(bif ((nth J.M cb).az==2) then((nth J.M cb).az==2) else((nth J.M cb).az==3)) || (!(!(nth J.M cb).an))))=true→bF ek cb 0∧ ∀(jY:Int),bF ek cb jY→(((decide (jY<cb))=false→bb ek (IntKind.i64.wrap (cb+1))∧a1 ek (IntKind.i64.wrap (cb+1))<a1 ek cb)∧((decide (jY<cb))=true→IK bF bA a0 J ad ek jY cb)))
def IM (bb:Int→Int→Prop) (a1:Int→Int→Nat) (bF:cU Prop) (bA:cU Nat) (a0:aN) (J:Frame) (ad:Bool) (ek cb:Int):Prop:=
  ((((nth J.M cb).az==3)=true→((decide ((nth J.M cb).ao<1)) || (decide ((nth J.M cb).ao>a0.dq)))=true→false=ad)∧(((nth J.M cb).az==3)=false→((nth J.M cb).ao !=0)=true→false=ad))∧((bif ((nth J.M cb).az==3) then(!((decide ((nth J.M cb).ao<1)) || (decide ((nth J.M cb).ao>a0.dq)))) else(!((nth J.M cb).ao !=0)))=true→IL bb a1 bF bA a0 J ad ek cb)
def IN (bb:Int→Int→Prop) (a1:Int→Int→Nat) (bF:cU Prop) (bA:cU Nat) (a0:aN) (J:Frame) (ad:Bool) (ek cb:Int):Prop:=
  ((((nth J.M cb).az !=4)=true→(((nth J.M cb).aa !=0) || (h3 (nth J.M cb).U true))=true→false=ad)∧(((nth J.M cb).az !=4)=false→(0≤(nth J.M cb).aa∧(nth J.M cb).aa≤((nth J.M cb).U.length:Int))∧((h3 ((nth J.M cb).U.take (nth J.M cb).aa.toNat) false)=true→false=ad)))∧((bif ((nth J.M cb).az !=4) then(!(((nth J.M cb).aa !=0) || (h3 (nth J.M cb).U true))) else(!(h3 ((nth J.M cb).U.take (nth J.M cb).aa.toNat) false)))=true→IM bb a1 bF bA a0 J ad ek cb)
def IP (bb:Int→Int→Prop) (a1:Int→Int→Nat) (bF:cU Prop) (bA:cU Nat) (a0:aN) (J:Frame) (ad:Bool) (ek cb:Int):Prop:=
  (((decide ((nth J.M cb).az<0)) || ((decide ((nth J.M cb).az>4)) || ((((nth J.M cb).U.length:Int) !=((nth a0.M cb).ag.length:Int)) || ((decide ((nth J.M cb).aa<0)) || (decide ((nth J.M cb).aa ≥ ((nth a0.M cb).ag.length:Int)))))))=true→false=ad)∧((!((decide ((nth J.M cb).az<0)) || ((decide ((nth J.M cb).az>4)) || ((((nth J.M cb).U.length:Int) !=((nth a0.M cb).ag.length:Int)) || ((decide ((nth J.M cb).aa<0)) || (decide ((nth J.M cb).aa ≥ ((nth a0.M cb).ag.length:Int))))))))=true→IN bb a1 bF bA a0 J ad ek cb)
def IQ (aj:Int→Prop) (ak:Int→Nat) (J:Frame) (ad:Bool) (ek:Int):Prop:=
  ((0≤ek∧ek.toNat<J.aB.length)∧((bif ((nth J.aB ek).cE !=1) then(((nth J.aB ek).cE !=2) || ((decide ((nth J.aB ek).a7<0)) || (decide ((nth J.aB ek).a7>2)))) else((decide ((nth J.aB ek).a7<0)) || (decide ((nth J.aB ek).a7>2))))=true→false=ad))∧((!(bif ((nth J.aB ek).cE !=1) then(((nth J.aB ek).cE !=2) || ((decide ((nth J.aB ek).a7<0)) || (decide ((nth J.aB ek).a7>2)))) else((decide ((nth J.aB ek).a7<0)) || (decide ((nth J.aB ek).a7>2)))))=true→aj (IntKind.i64.wrap (ek+1))∧ak (IntKind.i64.wrap (ek+1))<ak ek)
def IR (aj:Int→Prop) (ak:Int→Nat) (bb:Int→Int→Prop) (a1:Int→Int→Nat) (bF:cU Prop) (bA:cU Nat) (a0:aN) (J:Frame) (ad:Bool) (ek:Int):Prop:=
  ((decide (ek<(J.aB.length:Int)))=false→J.M.length≤4611686018427387904→bb ek 0∧ ∀(cb:Int),bb ek cb→(((decide (cb<(J.M.length:Int)))=false→(wV a0 J)∧((sb J (lf a0 J))=ad))∧((decide (cb<(J.M.length:Int)))=true→(0≤cb∧cb.toNat<J.M.length)∧((0≤cb∧cb.toNat<a0.M.length)∧((nth a0.M cb).ag.length≤4611686018427387904→IP bb a1 bF bA a0 J ad ek cb)))))∧((decide (ek<(J.aB.length:Int)))=true→IQ aj ak J ad ek)
def IS (aj:Int→Prop) (ak:Int→Nat) (bb:Int→Int→Prop) (a1:Int→Int→Nat) (bF:cU Prop) (bA:cU Nat) (a0:aN) (J:Frame) (ad:Bool):Prop:=
  (((!(fP a0)) || ((!J.ok) || (((J.aF.length:Int) !=a0.ag) || (((J.aB.length:Int) !=(a0.bu.length:Int)) || ((J.M.length:Int) !=(a0.M.length:Int))))))=true→false=ad)∧((!((!(fP a0)) || ((!J.ok) || (((J.aF.length:Int) !=a0.ag) || (((J.aB.length:Int) !=(a0.bu.length:Int)) || ((J.M.length:Int) !=(a0.M.length:Int)))))))=true→J.aB.length≤4611686018427387904→aj 0∧ ∀(ek:Int),aj ek→(IR aj ak bb a1 bF bA a0 J ad ek))
def IJ (a0:aN) (J:Frame) (ad:Bool) (aj:Int→Prop) (ak:Int→Nat) (bb:Int→Int→Prop) (a1:Int→Int→Nat) (bF:cU Prop) (bA:cU Nat):Prop:=
 IS aj ak bb a1 bF bA a0 J ad
theorem TL (a0:aN) (J:Frame) (ai:s6 a0 J):a_ Try.prog 43 [.agg (bL false a0),.agg (b5 false J)] (ay (gJ a0 J)):=(fun(aj:Int→Prop) (ak:Int→Nat) (bb:Int→Int→Prop) (a1:Int→Int→Nat) (bF:cU Prop) (bA:cU Nat) (h:IJ a0 J (gJ a0 J) aj ak bb a1 bF bA)=>a_.run (ps:=[.dN,.frame]) (rs:=[.bool]) (x:=(a0,J,())) (r:=((gJ a0 J),())) ⟨190,cs,[Uq,Ux,Uu,Zf]⟩ ⟨[],[(40,TN,TO)],[],[],[]⟩ (dz [2,3,46,47] [(3,4),(2,5)] 48 aj ak fun aV=>(dz [2,3,72,73] [(3,4),(2,5)] 74 (bb aV) (a1 aV) fun cj=>(dz [2,3,7,8,72,73,74,157] [(8,5),(3,4),(2,5)] 158 (bF aV cj) (bA aV cj) fun _=> .nil))) Try.func43 h) (cl J.aB.length (fun j=> !lU (nth J.aB j))) (cz J.aB.length) (fun _ i=>(∀x∈J.aB,lU x=true)∧cl J.M.length (fun i=> !(gg a0 J i) || uf a0 J i.toNat i) i) (fun _=>cz J.M.length) (fun _ i=>cl i (fun k=>jI a0 J i k)) (fun _ i=>cz i) (by
 unfold IJ IS
 have hs:l4 J:=ai
 have no: ∀φ:Prop,(gJ a0 J=true→φ)→ ¬φ→false=gJ a0 J:=fun φ h1 h2=>by
  cases h:gJ a0 J with
  | false=>rfl
  | true=>exact absurd (h1 h) h2
 have D:=fun h=>(vc (p:=a0) (f:=J)).1 h
 refine⟨fun af=>no _ D (fun aY=>by have:=aY.1;unfold pQ at this;rw[af] at this;cases this),fun af ap=>⟨dl (c8 _),fun v a6=> ?_⟩⟩
 have m7:pQ a0 J=true:=af
 obtain⟨dV,bV,oO,AN,AO⟩:=vb.1 m7
 have fU:=D1 dV
 have cS:=LF dV
 unfold IR
 refine⟨fun hv hm=> ?_,fun hv=> ?_⟩
 ·have k4: ∀x∈J.aB,lU x=true:=fun x hx=>by
   simpa using km (q:=fun x:ck=> !lU x) (fB a6 hv) x hx
  refine⟨⟨k4,dl (c8 _)⟩,fun i hQ=>⟨fun hi=> ?_,fun hi=> ?_⟩⟩
  ·have dy:=fB hQ.2 hi
   have vB: ∀i:Int,0≤i→i<J.M.length→gg a0 J i=true:=fun i i0 i1=>by
    have:=dy i i0 i1
    rw[Bool.or_eq_false_iff] at this
    simpa using this.1
   have Ij: ∀i k:Int,0≤i→i<J.M.length→0≤k→k<i→jI a0 J i k=false:=fun i k i0 i1 a8 c7=>by
    have:=dy i i0 i1
    rw[Bool.or_eq_false_iff] at this
    have h2:=this.2
    unfold uf at h2
    rw[List.any_eq_false] at h2
    have:=h2 k.toNat (List.mem_range.2 (by omega))
    rw[Int.toNat_of_nonneg a8] at this
    simpa using this
   have Ci: ∀i k:Int,0≤i→i<J.M.length→0≤k→k<J.M.length→jI a0 J i k=false:=fun i k i0 i1 a8 c7=>by
    rcases Int.lt_trichotomy k i with h | h | h
    ·exact Ij i k i0 i1 a8 h
    ·unfold jI;rw[h];simp
    ·rw[O6 cS AO i0 i1 a8 c7];exact Ij k i a8 c7 i0 h
   have dJ:jC a0 J:=BZ m7 fun i i0 i1=>by
    have:=vB i i0 i1
    rw[yv,Bool.and_eq_true] at this;exact this.1
   refine⟨⟨fU,dJ⟩,?_⟩
   obtain⟨s1,s2,l2⟩:=zT a0 J J.M.length
   unfold sb
   rw[show(lf a0 J).aF=J.aF from s2,show(lf a0 J).aB=J.aB from l2]
   unfold eqv
   by_cases h:J.M=(lf a0 J).M
   ·rw[decide_eq_true h,vc.2 ⟨m7,k4,vB,Ci,h⟩];simp
   ·rw[decide_eq_false h,Bool.and_false]
    exact no _ D fun aY=>h aY.2.2.2.2
  ·have du:=cA hQ.2 hi
   have gL:i<(J.M.length:Int):=by simpa using hi
   have rU: ∀c:Bool,c=false→(gg a0 J i=true→c=true)→false=gJ a0 J:=fun c hc h=>no _ D fun aY=>by
    have:=h (aY.2.2.1 i du.1 (by omega));rw[hc] at this;cases this
   have P:=yv a0 J i
   refine⟨du,⟨du.1,by omega⟩,fun tq=> ?_⟩
   unfold IP
   refine⟨fun af=>rU (pW a0 J i) (by unfold pW;rw[af];rfl) fun h=>by rw[P,Bool.and_eq_true] at h;exact h.1,fun CF=> ?_⟩
   have h1:pW a0 J i=true:=CF
   rw[h1,Bool.true_and] at P
   have SD:0≤(nth J.M i).aa∧(nth J.M i).aa≤((nth J.M i).U.length:Int):=by
    unfold pW at h1
    simp only[Bool.not_eq_true',Bool.or_eq_false_iff,bne_eq_false_iff_eq,decide_eq_false_iff_not] at h1
    omega
   unfold IN
   refine⟨⟨fun bn af=>rU (rn J i) (by unfold rn;rw[bn,af];rfl) fun h=>by rw[P,Bool.and_eq_true] at h;exact h.1,
    fun bn=>⟨SD,fun af=>rU (rn J i) (by unfold rn;rw[bn,af];rfl) fun h=>by rw[P,Bool.and_eq_true] at h;exact h.1⟩⟩,fun jT=> ?_⟩
   have h2:rn J i=true:=jT
   rw[h2,Bool.true_and] at P
   unfold IM
   refine⟨⟨fun bn af=>rU (rp a0 J i) (by unfold rp;rw[bn,af];rfl) fun h=>by rw[P,Bool.and_eq_true] at h;exact h.1,
    fun bn af=>rU (rp a0 J i) (by unfold rp;rw[bn,af];rfl) fun h=>by rw[P,Bool.and_eq_true] at h;exact h.1⟩,fun S8=> ?_⟩
   have aH:rp a0 J i=true:=S8
   rw[aH,Bool.true_and] at P
   unfold IL
   refine⟨⟨fun bn af=>rU (rq J i) (by unfold rq;rw[bn,af];rfl) fun h=>by rw[P] at h;exact h,
    fun bn hc af=>rU (rq J i) (by unfold rq;rw[bn,hc,af];rfl) fun h=>by rw[P] at h;exact h⟩,fun S9=> ?_⟩
   have bn:rq J i=true:=S9
   rw[bn] at P
   refine⟨dl du.1,fun k hK=>⟨fun hk=> ?_,fun hk=> ?_⟩⟩
   ·have:=de (dD hm) hQ.2 hi (show(!(gg a0 J i) || uf a0 J i.toNat i)=false by
     rw[P]
     exact List.any_eq_false.2 fun k h4=>by rw[fB hK hk k (by omega) (by have:=List.mem_range.1 h4;omega)];simp)
    exact⟨⟨k4,this.1⟩,this.2⟩
   ·have abJ:k<i:=by simpa using hk
    have tg:=hK.1
    have gC:=cS.len
    have eg:=cS.row i du.1 (by omega)
    have hc:(((nth J.M i).az !=0)&&(((nth J.M k).az !=0)&&(nth (nth a0.bz i) k)))=jI a0 J i k:=by
     unfold jI kX
     rw[show(i !=k)=true by simpa using(show i≠k by omega)]
     cases((nth J.M i).az !=0)<;>cases((nth J.M k).az !=0)<;>cases(nth (nth a0.bz i) k)<;>rfl
    unfold IK
    rw[hc]
    refine⟨⟨fun _=>⟨⟨tg,by omega⟩,fun _=>⟨⟨du.1,by omega⟩,tg,by omega⟩⟩,fun af=>no _ D fun aY=> ?_⟩,fun af=>de (by omega) hK hk (not_eq af)⟩
    have:=aY.2.2.2.1 i k du.1 (by omega) tg (by omega)
    rw[this] at af;cases af
 ·unfold IQ
  rw[XW]
  refine⟨⟨cA a6 hv,fun hb=>no _ D fun aY=> ?_⟩,fun hb=>de (dD ap) a6 hv (not_eq hb)⟩
  have:=aY.2.1 _ (eC (cA a6 hv).2)
  rw[this] at hb;cases hb)
def TM:cw Try.prog:=⟨43,[.dN,.frame],[.bool],some fun x=>s6 x.1 x.2.1,fun x=>((gJ x.1 x.2.1),()),fun x h=>TL x.1 x.2.1 h⟩
def I3 (a0:Int) (J:Int) (ad:Bool):Prop:=
 ((decide (a0 ≥ 0))&&(decide (a0<J)))=ad
theorem Ua (a0:Int) (J:Int):a_ Try.prog 107 [au a0,au J] (ay (jU a0 J)):=(fun(h:I3 a0 J (jU a0 J))=>a_.run (ps:=[.int,.int]) (rs:=[.bool]) (x:=(a0,J,())) (r:=((jU a0 J),())) ⟨12,cs,[]⟩ ⟨[],[],[],[],[]⟩ .nil Try.func107 h) (by
 unfold I3 jU
 rfl)
def Ub:cw Try.prog:=⟨107,[.int,.int],[.bool],none,fun x=>((jU x.1 x.2.1),()),fun x h=>Ua x.1 x.2.1⟩
def ND (aj:Int→Prop) (ak:Int→Nat) (a0:aN) (J:Frame) (a2 a3:Int) (ad:Bool) (bg:Int):Prop:=
  ((0≤bg∧bg.toNat<(nth a0.M a2).ag.length)∧((((nth (nth a0.M a2).ag bg)==a3)=true→0≤a2∧a2.toNat<J.M.length)∧((((nth (nth a0.M a2).ag bg)==a3)&&(decide (bg ≥ (nth J.M a2).aa)))=true→true=ad)))∧((!(((nth (nth a0.M a2).ag bg)==a3)&&(decide (bg ≥ (nth J.M a2).aa))))=true→aj (IntKind.i64.wrap (bg+1))∧ak (IntKind.i64.wrap (bg+1))<ak bg)
def NE (aj:Int→Prop) (ak:Int→Nat) (a0:aN) (J:Frame) (a2 a3:Int) (ad:Bool):Prop:=
  ((0≤a2∧a2.toNat<J.M.length)∧(((nth J.M a2).az==0)=true→false=ad))∧((!((nth J.M a2).az==0))=true→(0≤a2∧a2.toNat<a0.M.length)∧((nth a0.M a2).ag.length≤4611686018427387904→aj 0∧ ∀(bg:Int),aj bg→(((decide (bg<((nth a0.M a2).ag.length:Int)))=false→false=ad)∧((decide (bg<((nth a0.M a2).ag.length:Int)))=true→ND aj ak a0 J a2 a3 ad bg))))
def NC (a0:aN) (J:Frame) (a2:Int) (a3:Int) (ad:Bool) (aj:Int→Prop) (ak:Int→Nat):Prop:=
 NE aj ak a0 J a2 a3 ad
theorem aao (a0:aN) (J:Frame) (a2:Int) (a3:Int) (ai:tm a0 J a2 a3):a_ Try.prog 111 [.agg (bL false a0),.agg (b5 false J),au a2,au a3] (ay (hy a0 J a2 a3)):=(fun(aj:Int→Prop) (ak:Int→Nat) (h:NC a0 J a2 a3 (hy a0 J a2 a3) aj ak)=>a_.run (ps:=[.dN,.frame,.int,.int]) (rs:=[.bool]) (x:=(a0,J,a2,a3,())) (r:=((hy a0 J a2 a3),())) ⟨44,cs,[]⟩ ⟨[],[],[],[],[]⟩ (dz [2,3,5,23,24] [(5,4)] 25 aj ak fun _=> .nil) Try.func111 h) (cl (nth a0.M a2).ag.length (fun k=>((nth (nth a0.M a2).ag k)==a3)&&(decide (k ≥ (nth J.M a2).aa)))) (cz (nth a0.M a2).ag.length) (by
 unfold NC NE
 obtain⟨hf,aM,h1⟩:=ai
 have hw:=hf.fr.M
 have aS:a2.toNat<a0.M.length:=by omega
 have ob:a2.toNat<J.M.length:=by omega
 have aL:=hf.fr.aa _ (eC ob)
 refine⟨⟨⟨aM,ob⟩,fun h=> ?_⟩,fun h=>⟨⟨aM,aS⟩,fun ap=>⟨dl (c8 _),fun v a6=>⟨fun hv=> ?_,fun hv=> ?_⟩⟩⟩⟩
 ·unfold hy
  rw[show((nth J.M a2).az !=0)=false by simpa using h];rfl
 ·have hs:((nth J.M a2).az !=0)=true:=by simpa using h
  unfold hy
  rw[hs,Bool.true_and,eq_comm,←Bool.not_eq_true,x1]
  rintro⟨k,hk,aE,he⟩
  have:=fB a6 hv k (by omega) (by omega)
  rw[h7 aE,he] at this
  simp at this
  omega
 ·have hs:((nth J.M a2).az !=0)=true:=by simpa using h
  have du:=cA a6 hv
  unfold ND
  refine⟨⟨du,fun _=>⟨aM,ob⟩,fun hb=> ?_⟩,fun hb=>de (dD ap) a6 hv (not_eq hb)⟩
  unfold hy
  rw[hs,Bool.true_and,eq_comm,x1]
  simp only[Bool.and_eq_true,beq_iff_eq,decide_eq_true_eq] at hb
  exact⟨v.toNat,by omega,du.2,by rw[←hT du.2];exact hb.1⟩)
def aap:cw Try.prog:=⟨111,[.dN,.frame,.int,.int],[.bool],some fun x=>tm x.1 x.2.1 x.2.2.1 x.2.2.2.1,fun x=>((hy x.1 x.2.1 x.2.2.1 x.2.2.2.1),()),fun x h=>aao x.1 x.2.1 x.2.2.1 x.2.2.2.1 h⟩
def I2 (a0:aN) (J:Frame) (a2:Int) (a3:Int) (ad:Bool):Prop:=
 (0≤a2∧a2.toNat<a0.M.length)∧(((0≤a2∧a2.toNat<J.M.length)∧(((nth J.M a2).az !=0)=true→0≤a2∧a2.toNat<J.M.length))∧((((nth J.M a2).az !=0)&&((decide ((k6 (nth a0.M a2).ag a3) ≥ (nth J.M a2).aa))&&(decide ((k6 (nth a0.M a2).ag a3) ≥ 0))))=ad))
theorem T0 (a0:aN) (J:Frame) (a2:Int) (a3:Int) (ai:tm a0 J a2 a3):a_ Try.prog 152 [.agg (bL false a0),.agg (b5 false J),au a2,au a3] (ay (hy a0 J a2 a3)):=(fun(h:I2 a0 J a2 a3 (hy a0 J a2 a3))=>a_.run (ps:=[.dN,.frame,.int,.int]) (rs:=[.bool]) (x:=(a0,J,a2,a3,())) (r:=((hy a0 J a2 a3),())) ⟨39,cs,[MQ]⟩ ⟨[],[],[],[],[]⟩ .nil Try.func152 h) (by
 unfold I2
 obtain⟨hf,aM,h1⟩:=ai
 have hw:=hf.fr.M
 have aS:a2.toNat<a0.M.length:=by omega
 have ob:a2.toNat<J.M.length:=by omega
 have aL:=hf.fr.aa _ (eC ob)
 refine⟨⟨aM,aS⟩,⟨⟨aM,ob⟩,fun _=>⟨aM,ob⟩⟩,?_⟩
 unfold hy
 rw[has_eq (YT hf.q9 (eC aS)) aL.1])
def T1:cw Try.prog:=⟨152,[.dN,.frame,.int,.int],[.bool],some fun x=>tm x.1 x.2.1 x.2.2.1 x.2.2.2.1,fun x=>((hy x.1 x.2.1 x.2.2.1 x.2.2.2.1),()),fun x h=>T0 x.1 x.2.1 x.2.2.1 x.2.2.2.1 h⟩
def T5 (a0:b9) (J:Int) (ad:Bool):Prop:=
 (a0.bo==J)=ad
theorem T6 (a0:b9) (J:Int):a_ Try.prog 166 [.agg (di a0),.cM [au J] 0] (ay (rK a0 J)):=(fun(h:T5 a0 J (rK a0 J))=>a_.run (ps:=[.bG,(.ptr .int)]) (rs:=[.bool]) (x:=(a0,J,())) (r:=((rK a0 J),())) ⟨8,cs,[]⟩ ⟨[],[],[],[],[]⟩ .nil Try.func166 h) (by
 exact rfl)
def T7:cw Try.prog:=⟨166,[.bG,(.ptr .int)],[.bool],none,fun x=>((rK x.1 x.2.1),()),fun x h=>T6 x.1 x.2.1⟩
def MN (a0:(List b9)) (J:Int) (ad:Int) (aj:Int→Prop) (ak:Int→Nat):Prop:=
 a0.length≤4611686018427387904→aj 0∧ ∀(fu:Int),aj fu→(((decide (fu<(a0.length:Int)))=false→(-1)=ad)∧((decide (fu<(a0.length:Int)))=true→((0≤fu∧fu.toNat<a0.length)∧((rK (nth a0 fu) J)=true→fu=ad))∧((!(rK (nth a0 fu) J))=true→aj (IntKind.i64.wrap (fu+1))∧ak (IntKind.i64.wrap (fu+1))<ak fu)))
theorem Zq (a0:(List b9)) (J:Int):a_ Try.prog 170 [bq di a0,.fn 166 [.cM [au J] 0]] (au (o9 a0 J)):=(fun(aj:Int→Prop) (ak:Int→Nat) (h:MN a0 J (o9 a0 J) aj ak)=>a_.run (ps:=[(.l .bG),(.gH 166 (.ptr .int))]) (rs:=[.int]) (x:=(a0,J,())) (r:=((o9 a0 J),())) ⟨19,cs,[T7]⟩ ⟨[],[],[],[],[]⟩ (dz [0,1,7] [] 8 aj ak fun _=> .nil) Try.func170 h) (cl a0.length (fun j=>rK (nth a0 j) J)) (cz a0.length) (by
 unfold MN
 intro ap
 refine⟨dl (c8 _),fun v a6=>⟨fun hv=> ?_,fun hv=>⟨⟨cA a6 hv,fun ai=> ?_⟩,fun ai=>de (dD ap) a6 hv (not_eq ai)⟩⟩⟩
 ·unfold o9;rw[nJ (q:=fun x:b9=>x.bo==J) a6 hv];rfl
 ·unfold o9;rw[nI (q:=fun x:b9=>x.bo==J) a6 hv ai]
  have:=a6.1
  show v=(v.toNat:Int)
  omega)
def Zr:cw Try.prog:=⟨170,[(.l .bG),(.gH 166 (.ptr .int))],[.int],none,fun x=>((o9 x.1 x.2.1),()),fun x h=>Zq x.1 x.2.1⟩
def Zb (a0:(List b9)) (J:Int) (ad:Bool):Prop:=
 (decide ((o9 a0 J) ≥ 0))=ad
theorem Zc (a0:(List b9)) (J:Int):a_ Try.prog 165 [bq di a0,.fn 166 [.cM [au J] 0]] (ay (iT a0 J)):=(fun(h:Zb a0 J (iT a0 J))=>a_.run (ps:=[(.l .bG),(.gH 166 (.ptr .int))]) (rs:=[.bool]) (x:=(a0,J,())) (r:=((iT a0 J),())) ⟨9,cs,[Zr]⟩ ⟨[],[],[],[],[]⟩ .nil Try.func165 h) (by
 exact TG a0 J)
def Zd:cw Try.prog:=⟨165,[(.l .bG),(.gH 166 (.ptr .int))],[.bool],none,fun x=>((iT x.1 x.2.1),()),fun x h=>Zc x.1 x.2.1⟩
def T8 (a0:(List b9)) (J:Int) (ad:Bool):Prop:=
 (iT a0 J)=ad
theorem T9 (a0:(List b9)) (J:Int):a_ Try.prog 153 [bq di a0,au J] (ay (iT a0 J)):=(fun(h:T8 a0 J (iT a0 J))=>a_.run (ps:=[(.l .bG),.int]) (rs:=[.bool]) (x:=(a0,J,())) (r:=((iT a0 J),())) ⟨8,cs,[Zd]⟩ ⟨[],[],[],[],[]⟩ .nil Try.func153 h) (by
 exact rfl)
def T_:cw Try.prog:=⟨153,[(.l .bG),.int],[.bool],none,fun x=>((iT x.1 x.2.1),()),fun x h=>T9 x.1 x.2.1⟩
def Uj:List Item:=[al 0,al 1,al 2,al 3,al 4,al 5,al 6,al 7,al 8,al 9,al 10,al 11,al 12,al 13,al 14,al 15,al 16,al 17,al 18,al 19,al 20]
def Uk:List (List Nat):=[[],[0],[],[0,1,2],rg 0 4,rg 0 5,rg 0 6,rg 0 5,rg 0 8,rg 0 9,rg 0 10,rg 0 10,rg 0 10,rg 0 10,rg 0 10++[13],rg 0 10,rg 0 10++[13,14,15],rg 0 10++rg 13 17,rg 0 18,rg 0 19,rg 0 20]
abbrev li (r:Type):Type:=Nat→(List Int)→Int→r
def I9 (aj:li Prop) (ak:li Nat) (a0:aN) (J:Frame) (a2:Int) (g0:Nat) (bC:(List Int)) (cJ:Int):Prop:=
  (((iT (nth a0.M cJ).bJ a2) || ((iT (nth a0.M cJ).a7 a2)&&(hy a0 J cJ (nth a0.bu a2))))=true→((bC.length+[cJ].length)*8≤140737488355328∧bC.length+[cJ].length≤4611686018427387904)∧(aj (g0+1) (bC++[cJ]) (IntKind.i64.wrap (cJ+1))∧ak (g0+1) (bC++[cJ]) (IntKind.i64.wrap (cJ+1))<ak g0 bC cJ))∧(((iT (nth a0.M cJ).bJ a2) || ((iT (nth a0.M cJ).a7 a2)&&(hy a0 J cJ (nth a0.bu a2))))=false→aj g0 bC (IntKind.i64.wrap (cJ+1))∧ak g0 bC (IntKind.i64.wrap (cJ+1))<ak g0 bC cJ)
def I_ (aj:li Prop) (ak:li Nat) (a0:aN) (J:Frame) (a2:Int) (g0:Nat) (bC:(List Int)) (cJ:Int):Prop:=
  ((0≤cJ∧cJ.toNat<J.M.length)∧(((nth J.M cJ).az==0)=true→aj g0 bC (IntKind.i64.wrap (cJ+1))∧ak g0 bC (IntKind.i64.wrap (cJ+1))<ak g0 bC cJ))∧((!((nth J.M cJ).az==0))=true→((iT (nth a0.M cJ).bJ a2)=false→(iT (nth a0.M cJ).a7 a2)=true→(0≤a2∧a2.toNat<a0.bu.length)∧(tm a0 J cJ (nth a0.bu a2)))∧(I9 aj ak a0 J a2 g0 bC cJ))
def I8 (a0:aN) (J:Frame) (a2:Int) (ad:(List Int)) (aj:li Prop) (ak:li Nat):Prop:=
 a0.M.length≤4611686018427387904→aj 0 ([]:List Int) 0∧ ∀(g0:Nat) (bC:(List Int)) (cJ:Int),aj g0 bC cJ→(((decide (cJ<(a0.M.length:Int)))=false→bC.length≤4611686018427387904∧bC=ad)∧((decide (cJ<(a0.M.length:Int)))=true→(0≤cJ∧cJ.toNat<a0.M.length)∧(I_ aj ak a0 J a2 g0 bC cJ)))
theorem Uh (a0:aN) (J:Frame) (a2:Int) (ai:tU a0 J a2):a_ Try.prog 113 [.agg (bL false a0),.agg (b5 false J),au a2] (lq bO (mA a0 J a2)):=(fun(aj:li Prop) (ak:li Nat) (h:I8 a0 J a2 (mA a0 J a2) aj ak)=>a_.run (ps:=[.dN,.frame,.int]) (rs:=[(.l .int)]) (x:=(a0,J,a2,())) (r:=((mA a0 J a2),())) ⟨52,cs,[T_,T1]⟩ ⟨[],[(6,Uj,Uk)],[],[],[]⟩ (.lp [(0,7,.int)] [2,3,4,11,12] [(4,4),(3,5)] [.nat,(.l .int),.int] [bD 0,bD 0,13] (fun aV=>[(7,.ref 0 aV.1 aV.2.1.length false),(13,.i .i64 aV.2.2.1),(bD 0,.blk aV.1 .int aV.2.1 _ rfl)]) (fun aV=>aj aV.1 aV.2.1 aV.2.2.1) (fun aV=>ak aV.1 aV.2.1 aV.2.2.1) fun _=> .nil) Try.func113 h) (fun _ x v=>cl a0.M.length (fun _=>false) v∧x=lD (fun i=>j0 a0 J i a2) v) (fun _ _ v=>cz a0.M.length v) (by
 unfold I8
 obtain⟨hf,aM,h1⟩:=ai
 have hw:=hf.fr.M
 have SM:=hf.in.M
 have p2:=hf.in.bu
 intro ap
 refine⟨⟨dl (c8 _),rfl⟩,fun g x v a6=> ?_⟩
 obtain⟨a6,rfl⟩:=a6
 have gD:=a6.1
 have hlen:=BR (fun i=>j0 a0 J i a2) v
 have Tm:=a6.2.1
 refine⟨fun hv=>⟨by omega,?_⟩,fun hv=>⟨cA a6 hv,?_⟩⟩
 ·have: ¬v<(a0.M.length:Int):=by simpa using hv
  rw[show v=(a0.M.length:Int) by omega];rfl
 have du:=cA a6 hv
 have bf:=de (dD ap) a6 hv rfl
 have tt:IntKind.i64.wrap (v+1)=v+1:=oH (dD ap) gD (by simpa using hv)
 have oI:j0 a0 J v a2=true→(cl a0.M.length (fun _=>false) (IntKind.i64.wrap (v+1))∧lD (fun i=>j0 a0 J i a2) v++[v]=lD (fun i=>j0 a0 J i a2) (IntKind.i64.wrap (v+1))):=fun h=>⟨bf.1,by rw[tt,yg gD,if_pos h]⟩
 have no:j0 a0 J v a2=false→(cl a0.M.length (fun _=>false) (IntKind.i64.wrap (v+1))∧lD (fun i=>j0 a0 J i a2) v=lD (fun i=>j0 a0 J i a2) (IntKind.i64.wrap (v+1))):=fun h=>⟨bf.1,by rw[tt,yg gD,if_neg (by rw[h];simp)]⟩
 unfold I_ I9
 refine⟨⟨⟨gD,by omega⟩,fun aJ=>⟨no ?_,bf.2⟩⟩,fun aJ=>⟨fun _ _=>⟨⟨aM,by omega⟩,hf,gD,by omega⟩,⟨fun af=>⟨⟨?_,?_⟩,oI ?_,bf.2⟩,fun af=>⟨no ?_,bf.2⟩⟩⟩⟩
 ·unfold j0
  rw[show((nth J.M v).az !=0)=false by simpa using aJ];rfl
 ·simp only[List.length_singleton];omega
 ·simp only[List.length_singleton];omega
 ·unfold j0
  rw[show((nth J.M v).az !=0)=true by simpa using aJ];exact af
 ·unfold j0
  rw[show((nth J.M v).az !=0)=true by simpa using aJ];exact af)
def Ui:cw Try.prog:=⟨113,[.dN,.frame,.int],[(.l .int)],some fun x=>tU x.1 x.2.1 x.2.2.1,fun x=>((mA x.1 x.2.1 x.2.2.1),()),fun x h=>Uh x.1 x.2.1 x.2.2.1 h⟩
def aau:List Item:=[al 0,al 1,al 2,al 3,al 4,al 5,al 6,al 7,al 8,al 9,al 10,al 11,al 12,al 13,al 14]
def aav:List (List Nat):=[[],[0],[],[0,1,2],rg 0 4,rg 0 5,rg 0 5,rg 0 5,rg 0 5,rg 0 5++[8],rg 0 5,rg 0 5++[8,9,10],rg 0 5++rg 8 12,rg 0 13,rg 0 14]
def NI (bb:Int→Int→Prop) (a1:Int→Int→Nat) (a0:aN) (J:Frame) (a2 a3 ad cB df:Int):Prop:=
  ((0≤df∧df.toNat<(nth a0.M a2).a7.length)∧((((nth (nth a0.M a2).a7 df).bo==a3)=true→(0≤a3∧a3.toNat<a0.bu.length)∧(tm a0 J a2 (nth a0.bu a3)))∧((((nth (nth a0.M a2).a7 df).bo==a3)&&(hy a0 J a2 (nth a0.bu a3)))=true→(nth (nth a0.M a2).a7 df).bG=ad)))∧((!(((nth (nth a0.M a2).a7 df).bo==a3)&&(hy a0 J a2 (nth a0.bu a3))))=true→bb cB (IntKind.i64.wrap (df+1))∧a1 cB (IntKind.i64.wrap (df+1))<a1 cB df)
def NJ (aj:Int→Prop) (ak:Int→Nat) (bb:Int→Int→Prop) (a1:Int→Int→Nat) (a0:aN) (J:Frame) (a2 a3 ad cB:Int):Prop:=
  ((decide (cB<((nth a0.M a2).bJ.length:Int)))=false→(0≤a2∧a2.toNat<a0.M.length)∧((nth a0.M a2).a7.length≤4611686018427387904→bb cB 0∧ ∀(df:Int),bb cB df→(((decide (df<((nth a0.M a2).a7.length:Int)))=false→0=ad)∧((decide (df<((nth a0.M a2).a7.length:Int)))=true→NI bb a1 a0 J a2 a3 ad cB df))))∧((decide (cB<((nth a0.M a2).bJ.length:Int)))=true→((0≤cB∧cB.toNat<(nth a0.M a2).bJ.length)∧(((nth (nth a0.M a2).bJ cB).bo==a3)=true→(nth (nth a0.M a2).bJ cB).bG=ad))∧((!((nth (nth a0.M a2).bJ cB).bo==a3))=true→aj (IntKind.i64.wrap (cB+1))∧ak (IntKind.i64.wrap (cB+1))<ak cB))
def NH (a0:aN) (J:Frame) (a2:Int) (a3:Int) (ad:Int) (aj:Int→Prop) (ak:Int→Nat) (bb:Int→Int→Prop) (a1:Int→Int→Nat):Prop:=
 ((0≤a2∧a2.toNat<J.M.length)∧(((nth J.M a2).az==0)=true→0=ad))∧((!((nth J.M a2).az==0))=true→(0≤a2∧a2.toNat<a0.M.length)∧((nth a0.M a2).bJ.length≤4611686018427387904→aj 0∧ ∀(cB:Int),aj cB→(NJ aj ak bb a1 a0 J a2 a3 ad cB)))
theorem aas (a0:aN) (J:Frame) (a2:Int) (a3:Int) (ai:FC a0 J a2 a3):a_ Try.prog 155 [.agg (bL false a0),.agg (b5 false J),au a2,au a3] (au (mH a0 J a2 a3)):=(fun(aj:Int→Prop) (ak:Int→Nat) (bb:Int→Int→Prop) (a1:Int→Int→Nat) (h:NH a0 J a2 a3 (mH a0 J a2 a3) aj ak bb a1)=>a_.run (ps:=[.dN,.frame,.int,.int]) (rs:=[.int]) (x:=(a0,J,a2,a3,())) (r:=((mH a0 J a2 a3),())) ⟨67,cs,[aap]⟩ ⟨[],[(12,aau,aav)],[],[],[]⟩ (dz [2,3,4,5,25,26] [(5,4),(4,5)] 27 aj ak fun aV=>(dz [2,3,4,5,43,44] [(5,4),(4,5)] 45 (bb aV) (a1 aV) fun _=> .nil)) Try.func155 h) (cl (nth a0.M a2).bJ.length (fun j=>(nth (nth a0.M a2).bJ j).bo==a3)) (cz (nth a0.M a2).bJ.length) (fun _=>cl (nth a0.M a2).a7.length (fun j=>(nth (nth a0.M a2).a7 j).bo==a3&&hy a0 J a2 (nth a0.bu a3))) (fun _=>cz (nth a0.M a2).a7.length) (by
 unfold NH
 obtain⟨hf,aM,h1,h2,aH⟩:=ai
 have hw:=hf.fr.M
 refine⟨⟨⟨aM,by omega⟩,fun aJ=> ?_⟩,fun aJ=>⟨⟨aM,by omega⟩,fun ap=>⟨dl (c8 _),fun v a6=> ?_⟩⟩⟩
 ·unfold mH;rw[if_pos (by simpa using aJ)]
 have aJ: ¬(nth J.M a2).az=0:=by simpa using aJ
 unfold NJ
 refine⟨fun hv=>⟨⟨aM,by omega⟩,fun hm=>⟨dl (c8 _),fun k hK=> ?_⟩⟩,fun hv=>⟨⟨cA a6 hv,fun hb=> ?_⟩,fun hb=>de (dD ap) a6 hv (not_eq hb)⟩⟩
 ·have aT:=nJ (q:=fun x:b9=>x.bo==a3) a6 hv
  unfold NI
  refine⟨fun hk=> ?_,fun hk=>⟨⟨cA hK hk,fun _=>⟨⟨h2,by omega⟩,hf,aM,h1⟩,fun hb=> ?_⟩,fun hb=>de (dD hm) hK hk (not_eq hb)⟩⟩
  ·unfold mH
   rw[if_neg aJ,aT]
   simp only
   rw[nJ (q:=fun x:b9=>x.bo==a3&&hy a0 J a2 (nth a0.bu a3)) hK hk]
  ·unfold mH
   rw[if_neg aJ,aT]
   simp only
   rw[nI (q:=fun x:b9=>x.bo==a3&&hy a0 J a2 (nth a0.bu a3)) hK hk hb]
   simp only[mw hK.1]
 ·unfold mH
  rw[if_neg aJ,nI (q:=fun x:b9=>x.bo==a3) a6 hv hb]
  simp only[mw a6.1])
def aat:cw Try.prog:=⟨155,[.dN,.frame,.int,.int],[.int],some fun x=>FC x.1 x.2.1 x.2.2.1 x.2.2.2.1,fun x=>((mH x.1 x.2.1 x.2.2.1 x.2.2.2.1),()),fun x h=>aas x.1 x.2.1 x.2.2.1 x.2.2.2.1 h⟩
def NG (aj:li Prop) (ak:li Nat) (a0:aN) (J:Frame) (a2:Int) (g0:Nat) (bC:(List Int)) (v12:Int):Prop:=
  ((decide ((mH a0 J v12 a2)>0))=true→((bC.length+[v12].length)*8≤140737488355328∧bC.length+[v12].length≤4611686018427387904)∧(aj (g0+1) (bC++[v12]) (IntKind.i64.wrap (v12+1))∧ak (g0+1) (bC++[v12]) (IntKind.i64.wrap (v12+1))<ak g0 bC v12))∧((decide ((mH a0 J v12 a2)>0))=false→aj g0 bC (IntKind.i64.wrap (v12+1))∧ak g0 bC (IntKind.i64.wrap (v12+1))<ak g0 bC v12)
def NF (a0:aN) (J:Frame) (a2:Int) (ad:(List Int)) (aj:li Prop) (ak:li Nat):Prop:=
 a0.M.length≤4611686018427387904→aj 0 ([]:List Int) 0∧ ∀(g0:Nat) (bC:(List Int)) (v12:Int),aj g0 bC v12→(((decide (v12<(a0.M.length:Int)))=false→bC.length≤4611686018427387904∧bC=ad)∧((decide (v12<(a0.M.length:Int)))=true→(FC a0 J v12 a2)∧(NG aj ak a0 J a2 g0 bC v12)))
theorem aaq (a0:aN) (J:Frame) (a2:Int) (ai:tU a0 J a2):a_ Try.prog 117 [.agg (bL false a0),.agg (b5 false J),au a2] (lq bO (mA a0 J a2)):=(fun(aj:li Prop) (ak:li Nat) (h:NF a0 J a2 (mA a0 J a2) aj ak)=>a_.run (ps:=[.dN,.frame,.int]) (rs:=[(.l .int)]) (x:=(a0,J,a2,())) (r:=((mA a0 J a2),())) ⟨27,cs,[aat]⟩ ⟨[],[],[],[],[]⟩ (.lp [(0,7,.int)] [2,3,4,11] [(4,4),(3,5)] [.nat,(.l .int),.int] [bD 0,bD 0,12] (fun aV=>[(7,.ref 0 aV.1 aV.2.1.length false),(12,.i .i64 aV.2.2.1),(bD 0,.blk aV.1 .int aV.2.1 _ rfl)]) (fun aV=>aj aV.1 aV.2.1 aV.2.2.1) (fun aV=>ak aV.1 aV.2.1 aV.2.2.1) fun _=> .nil) Try.func117 h) (fun _ x v=>cl a0.M.length (fun _=>false) v∧x=lD (fun i=>j0 a0 J i a2) v) (fun _ _ v=>cz a0.M.length v) (by
 unfold NF
 obtain⟨hf,aM,h1⟩:=ai
 have SM:=hf.in.M
 intro ap
 refine⟨⟨dl (c8 _),rfl⟩,fun g x v a6=> ?_⟩
 obtain⟨a6,rfl⟩:=a6
 have gD:=a6.1
 have hlen:=BR (fun i=>j0 a0 J i a2) v
 have Tm:=a6.2.1
 refine⟨fun hv=>⟨by omega,?_⟩,fun hv=>⟨⟨hf,gD,by have:=cA a6 hv;omega,aM,h1⟩,?_⟩⟩
 ·have: ¬v<(a0.M.length:Int):=by simpa using hv
  rw[show v=(a0.M.length:Int) by omega];rfl
 have bf:=de (dD ap) a6 hv rfl
 have tt:IntKind.i64.wrap (v+1)=v+1:=oH (dD ap) gD (by simpa using hv)
 unfold NG
 rw[aa6 hf.q9 (cA a6 hv).2]
 refine⟨fun af=>⟨⟨?_,?_⟩,⟨bf.1,by rw[tt,yg gD,if_pos af]⟩,bf.2⟩,fun af=>⟨⟨bf.1,by rw[tt,yg gD,if_neg (by rw[af];simp)]⟩,bf.2⟩⟩
 ·simp only[List.length_singleton];omega
 ·simp only[List.length_singleton];omega)
def aar:cw Try.prog:=⟨117,[.dN,.frame,.int],[(.l .int)],some fun x=>tU x.1 x.2.1 x.2.2.1,fun x=>((mA x.1 x.2.1 x.2.2.1),()),fun x h=>aaq x.1 x.2.1 x.2.2.1 h⟩
def M8 (a0:aN) (J:Frame) (a2:Int) (ad:(List Int)):Prop:=
 ((s6 a0 J)∧(((!(gJ a0 J)) || (!(bN a2 0 (IntKind.i64.wrap ((a0.bu.length:Int) - 1)))))=true→[]=ad))∧((!((!(gJ a0 J)) || (!(bN a2 0 (IntKind.i64.wrap ((a0.bu.length:Int) - 1))))))=true→(tU a0 J a2)∧((mA a0 J a2)=ad))
theorem ZK (a0:aN) (J:Frame) (a2:Int) (ai:vd a0 J a2):a_ Try.prog 54 [.agg (bL false a0),.agg (b5 false J),au a2] (lq bO (fa a0 J a2)):=(fun(h:M8 a0 J a2 (fa a0 J a2))=>a_.run (ps:=[.dN,.frame,.int]) (rs:=[(.l .int)]) (x:=(a0,J,a2,())) (r:=((fa a0 J a2),())) ⟨24,cs,[ZE,wY,aar]⟩ ⟨[],[],[],[],[]⟩ .nil Try.func54 h) (by
 unfold M8
 have key:gJ a0 J=true→bN a2 0 (IntKind.i64.wrap ((a0.bu.length:Int) - 1))=jU a2 a0.bu.length:=fun h=>by
  have:=(BY h).in.bo
  rw[hn (by omega) (by omega),UR]
 refine⟨⟨ai,fun h=> ?_⟩,fun h=> ?_⟩
 ·unfold fa
  cases af:gJ a0 J with
  | false=>rfl
  | true=>
   rw[af,key af] at h
   have:jU a2 a0.bu.length=false:=by simpa using h
   rw[this];rfl
 ·have h:gJ a0 J=true∧bN a2 0 (IntKind.i64.wrap ((a0.bu.length:Int) - 1))=true:=by simpa using h
  rw[key h.1] at h
  refine⟨⟨BY h.1,(Jw.1 h.2).1,(Jw.1 h.2).2⟩,?_⟩
  unfold fa;rw[h.1,h.2];rfl)
def I1 (a0:aN) (J:Frame) (a2:Int) (ad:(List Int)):Prop:=
 ((s6 a0 J)∧(((!(gJ a0 J)) || (!(jU a2 (a0.bu.length:Int))))=true→[]=ad))∧((!((!(gJ a0 J)) || (!(jU a2 (a0.bu.length:Int)))))=true→(tU a0 J a2)∧((mA a0 J a2)=ad))
theorem TU (a0:aN) (J:Frame) (a2:Int) (ai:vd a0 J a2):a_ Try.prog 49 [.agg (bL false a0),.agg (b5 false J),au a2] (lq bO (fa a0 J a2)):=(fun(h:I1 a0 J a2 (fa a0 J a2))=>a_.run (ps:=[.dN,.frame,.int]) (rs:=[(.l .int)]) (x:=(a0,J,a2,())) (r:=((fa a0 J a2),())) ⟨23,cs,[TM,Ub,Ui]⟩ ⟨[],[],[],[],[]⟩ .nil Try.func49 h) (by
 unfold I1 fa
 refine⟨⟨ai,fun h=> ?_⟩,fun h=> ?_⟩
 ·cases hf:gJ a0 J<;>cases hi:jU a2 (a0.bu.length:Int)<;>simp[hf,hi] at h ⊢
 ·cases hf:gJ a0 J<;>cases hi:jU a2 (a0.bu.length:Int)<;>simp[hf,hi] at h
  unfold jU at hi
  simp at hi
  exact⟨⟨BY hf,hi.1,hi.2⟩,rfl⟩)
def J6 (aj:Int→Int→Prop) (ak:Int→Int→Nat) (a0:(List Int)) (ad v1 v5:Int):Prop:=
  (a0.length≤4611686018427387904→(decide (v5<(a0.length:Int)))=false→v1=ad)∧((a0.length≤4611686018427387904)∧((decide (v5<(a0.length:Int)))=true)→((0≤v5∧v5.toNat<a0.length)∧(((nth a0 v5) !=v1)=true→(-1)=ad))∧((!((nth a0 v5) !=v1))=true→aj (IntKind.i64.wrap (v1+1)) (IntKind.i64.wrap (v5+1))∧ak (IntKind.i64.wrap (v1+1)) (IntKind.i64.wrap (v5+1))<ak v1 v5))
def J5 (a0:(List Int)) (J:Int) (ad:Int) (aj:Int→Int→Prop) (ak:Int→Int→Nat):Prop:=
 aj J 0∧ ∀(v1:Int) (v5:Int),aj v1 v5→(J6 aj ak a0 ad v1 v5)
theorem VH (a0:(List Int)) (J:Int) (ai:Cp a0 J):a_ Try.prog 57 [bq bO a0,au J] (au (lL a0 J)):=(fun(aj:Int→Int→Prop) (ak:Int→Int→Nat) (h:J5 a0 J (lL a0 J) aj ak)=>a_.run (ps:=[(.l .int),.int]) (rs:=[.int]) (x:=(a0,J,())) (r:=((lL a0 J),())) ⟨21,cs,[]⟩ ⟨[],[],[],[],[]⟩ (.lp [] [0] [] [.int,.int] [1,5] (fun aV=>[(1,.i .i64 aV.1),(5,.i .i64 aV.2.1)]) (fun aV=>aj aV.1 aV.2.1) (fun aV=>ak aV.1 aV.2.1) fun _=> .nil) Try.func57 h) (fun k v=>cl a0.length (fun _=>false) v∧k=J+v∧lL (a0.drop v.toNat) k=lL a0 J) (fun _ v=>cz a0.length v) (by
 unfold J5
 obtain⟨a8,c7⟩:=ai
 refine⟨⟨dl (c8 _),by omega,rfl⟩,fun k v a6=> ?_⟩
 obtain⟨a6,rfl,he⟩:=a6
 have gD:=a6.1
 have iP:=a6.2.1
 unfold J6
 refine⟨fun _ hv=> ?_,fun hv=> ?_⟩
 ·have: ¬v<(a0.length:Int):=by simpa using hv
  rw[List.drop_of_length_le (by omega)] at he
  exact he
 ·have aS:v<(a0.length:Int):=by simpa using hv.2
  rw[Ql (by omega)] at he
  refine⟨⟨⟨gD,by omega⟩,fun ap=> ?_⟩,fun ap=> ?_⟩
  ·have:nth a0 v≠J+v:=by simpa using ap
   rw[H3] at he
   rw[if_neg this] at he
   exact he
  ·have:nth a0 v=J+v:=by simpa using ap
   rw[H3] at he
   rw[if_pos this] at he
   have bf:=de (by omega) a6 (by simpa using aS) rfl
   have cj:IntKind.i64.wrap (v+1)=v+1:=hn (by omega) (by omega)
   have dU:IntKind.i64.wrap (J+v+1)=J+v+1:=hn (by omega) (by omega)
   refine⟨⟨bf.1,by rw[cj,dU];omega,?_⟩,bf.2⟩
   rw[cj,dU,show(v+1).toNat=v.toNat+1 by omega]
   exact he)
end Go.Proofs.Ytglpfccgmfhkdaa.Fw
set_option linter.unusedVariables false
namespace Go.Proofs.Ytglpfccgmfhkdaa.Fw
open Go Go.RowKit
theorem PU {p:aN} {f:Frame} {k:Int} (ai:vd p f k) {w:World} {v u:Value} (h:V2 (Env.at w) (.agg (bL false p)) v) (h':V2 (Env.at w) (.agg (b5 false f)) u):
    Calls Try.prog 54 #[v,u,.int .i64 k] w fun e w'=> ∃A cap,e= .returned (.slice A (fa p f k).length cap)∧Below w.heap.size w w'∧fD w' (iI w w') (.aR ((fa p f k).map bO) false false) (.slice A (fa p f k).length cap):=
  (a_.uw (e:= .l .int) (x:=fa p f k) (vs:=[v,u,.int .i64 k]) (ZK p f k ai) (.cons h (.cons h' (.cons (aQ.int _ _) .nil)))).mono fun e w' ⟨dv,h1,h2,aH⟩=>by
    obtain⟨A,cap,rfl,_⟩:=qz aH
    rw[List.length_map] at h1 aH
    exact⟨A,cap,h1,h2,aH⟩
theorem Gy {p:aN} {f:Frame} {k:Int} (ai:vd p f k) {w:World} {v u:Value} (h:V2 (Env.at w) (.agg (bL false p)) v) (h':V2 (Env.at w) (.agg (b5 false f)) u):
    Calls Try.prog 49 #[v,u,.int .i64 k] w fun e w'=> ∃A cap,e= .returned (.slice A (fa p f k).length cap)∧Below w.heap.size w w'∧fD w' (iI w w') (.aR ((fa p f k).map bO) false false) (.slice A (fa p f k).length cap):=
  (a_.uw (e:= .l .int) (x:=fa p f k) (vs:=[v,u,.int .i64 k]) (TU p f k ai) (.cons h (.cons h' (.cons (aQ.int _ _) .nil)))).mono fun e w' ⟨dv,h1,h2,aH⟩=>by
    obtain⟨A,cap,rfl,_⟩:=qz aH
    rw[List.length_map] at h1 aH
    exact⟨A,cap,h1,h2,aH⟩
theorem Gx {x:List Int} {k:Int} (ai:Cp x k) {w:World} {v:Value} (h:V2 (Env.at w) (.aR (x.map bO) false false) v):
    Calls Try.prog 57 #[v,.int .i64 k] w fun e w'=>e= .returned (.int .i64 (lL x k))∧Below w.heap.size w w':=
  a_.int (vs:=[v,.int .i64 k]) (VH x k ai) (.cons h (.cons (aQ.int _ _) .nil))
set_option maxHeartbeats 4000000
set_option maxRecDepth 100000
theorem U5 (p:aN) (f:Frame) (k:Int) (W:World) (e8 e9 e_ cC cx cZ:Option Addr) (a0 J a2 ey dV bV d0 d1 d2 dx aT e2:Nat) (ps fO:Int) (ok:Bool)
    (h1:fD W (fun c=>c<W.heap.size) (.agg (bL false p)) (.agg #[.int .i64 ps,.slice e8 a0 d0,.slice e9 J d1,.slice e_ a2 d2,.int .i64 fO]))
    (h2:fD W (fun c=>c<W.heap.size) (.agg (b5 false f)) (.agg #[.bool ok,.slice cC ey dx,.slice cx dV aT,.slice cZ bV e2]))
    (tj:(fa p f k).length≤1048576) (hs:iy p≤1048576) (p4:iy p+m0 f≤1048576):
    Calls Try.prog 17 #[.agg #[.int .i64 ps,.slice e8 a0 d0,.slice e9 J d1,.slice e_ a2 d2,.int .i64 fO],.agg #[.bool ok,.slice cC ey dx,.slice cx dV aT,.slice cZ bV e2],.int .i64 k] W fun e w'=>e= .returned (.bool true)∧Below W.heap.size W w':=by
  have uG:Hid (c_ W W [hA W.heap.size (.agg (bL false p)) (.agg #[.int .i64 ps,.slice e8 a0 d0,.slice e9 J d1,.slice e_ a2 d2,.int .i64 fO]) (.agg (b5 false f)) (.agg #[.bool ok,.slice cC ey dx,.slice cx dV aT,.slice cZ bV e2])]):=(c_.start W).add (hA W.heap.size _ _ _ _) (Nat.le_refl _) ⟨h1,h2⟩ (fun j h=>by cases h)
  have qK:Hid (c_ W ((W.alloc (.cells #[.int .i64 ps,.slice e8 a0 d0,.slice e9 J d1,.slice e_ a2 d2,.int .i64 fO] 48)).alloc (.cells #[.bool ok,.slice cC ey dx,.slice cx dV aT,.slice cZ bV e2] 69)) [hA W.heap.size (.agg (bL false p)) (.agg #[.int .i64 ps,.slice e8 a0 d0,.slice e9 J d1,.slice e_ a2 d2,.int .i64 fO]) (.agg (b5 false f)) (.agg #[.bool ok,.slice cC ey dx,.slice cx dV aT,.slice cZ bV e2]),gE W.heap.size #[.int .i64 ps,.slice e8 a0 d0,.slice e9 J d1,.slice e_ a2 d2,.int .i64 fO] 48,gE (W.heap.size+1) #[.bool ok,.slice cC ey dx,.slice cx dV aT,.slice cZ bV e2] 69]):=by
    have:=(uG.out.box #[.int .i64 ps,.slice e8 a0 d0,.slice e9 J d1,.slice e_ a2 d2,.int .i64 fO] 48).box #[.bool ok,.slice cC ey dx,.slice cx dV aT,.slice cZ bV e2] 69
    rw[World.size_alloc] at this
    exact this
  clear uG h1 h2
  have kS:nE p 1048576=1048576 - iy p:=by unfold nE ee;rw[if_neg (by omega)]
  have z2:pw f (1048576 - iy p)=1048576 - iy p - m0 f:=by unfold pw ee;rw[if_neg (by omega)]
  obtain⟨hH,tu⟩: ∃y:Int,(1048576:Int) - iy p=y:=⟨_,rfl⟩
  obtain⟨kR,ID⟩: ∃y:Int,hH - m0 f=y:=⟨_,rfl⟩
  rw[tu] at kS z2
  rw[ID] at z2
  have Ok:0≤hH∧hH≤1048576:=by omega
  have abf:0≤kR∧kR≤1048576:=by omega
  have AJ:=Lib.hid Ok
  have uR:=Lib.hid kS;clear kS
  have Z2:=Lib.hid z2;clear z2
  have xw:Hid (EJ p):=hs
  have uP:Hid (zV f):=(show m0 f≤1048576 by omega)
  have i_:Hid (vd p f k):=Zx uP.out
  obtain⟨c7,yD⟩: ∃y:Int,(1:Int)+(qf p:Nat)=y:=⟨_,rfl⟩
  obtain⟨gv,j9⟩: ∃y:Int,c7+(qe f:Nat)=y:=⟨_,rfl⟩
  obtain⟨k7,vE⟩: ∃y:Int,(1:Int)+((fa p f k).length:Nat)=y:=⟨_,rfl⟩
  have O4:=Xh p
  have O5:=Xg f
  have OJ:Hid ((1:Int)+(qf p:Nat)≤4611686018427387904):=by unfold Hid;omega
  have FM:Hid (0≤c7∧c7+(qe f:Nat)≤4611686018427387904):=by unfold Hid;omega
  have FN:Hid ((1:Int)+((fa p f k).length:Nat)≤4611686018427387904):=by unfold Hid;omega
  have g3:decide (gv<0)=false:=decide_eq_false (by omega)
  have g4:decide (k7<0)=false:=decide_eq_false (by omega)
  have oL:=Lib.hid yD
  have qN:=Lib.hid j9
  have xr:=Lib.hid vE
  have FQ:Hid (Cp (jv 1 (fa p f k).length) 1):=⟨by omega,by rw[we];exact FN.out⟩
  have FO:Hid (lL (jv 1 (fa p f k).length) 1=k7):=by unfold Hid;rw[H4];exact vE
  clear yD j9 vE O4 O5 tj
  have g1:decide (hH<0)=false:=decide_eq_false (by omega)
  have g2:decide (kR<0)=false:=decide_eq_false (by omega)
  clear tu ID hs p4 Ok abf
  go_enter Try.func17,Try.ntmps17
  go_wp2_with (go_at_call 23;refine(A7 (p:=p) (l:=1048576) ⟨by omega,by omega⟩ (hA.at qK.out 0).1).mono ?_)
  rw[uR.out]
  first
  | (rintro e cj rfl hb)
  | (rintro e cj ⟨rfl,hb⟩)
  have oK:=Lib.hid (qK.out.below hb);clear hb qK
  obtain⟨b8,q1,q2,q3⟩:=qZ (oK.out.get 2)
  go_wp2_with (go_at_call 40;refine(Gz (p:=f) (l:=hH) AJ.out (hA.at oK.out 0).2).mono ?_)
  rw[Z2.out]
  first
  | (rintro e dU rfl hb)
  | (rintro e dU ⟨rfl,hb⟩)
  have uJ:=Lib.hid (oK.out.below hb);clear hb oK b8 q1 q2 q3
  go_wp2_with fail
  go_region_held3 (fun w'=>c_ W w' [hA W.heap.size (.agg (bL false p)) (.agg #[.int .i64 ps,.slice e8 a0 d0,.slice e9 J d1,.slice e_ a2 d2,.int .i64 fO]) (.agg (b5 false f)) (.agg #[.bool ok,.slice cC ey dx,.slice cx dV aT,.slice cZ bV e2]),gE W.heap.size #[.int .i64 ps,.slice e8 a0 d0,.slice e9 J d1,.slice e_ a2 d2,.int .i64 fO] 48,gE (W.heap.size+1) #[.bool ok,.slice cC ey dx,.slice cx dV aT,.slice cZ bV e2] 69]∧w'.cell? ⟨W.heap.size,0,none⟩=some (.int .i64 ps)∧w'.cell? ⟨W.heap.size,1,none⟩=some (.slice e8 a0 d0)∧w'.cell? ⟨W.heap.size,2,none⟩=some (.slice e9 J d1)∧w'.cell? ⟨W.heap.size,3,none⟩=some (.slice e_ a2 d2)∧w'.cell? ⟨W.heap.size,4,none⟩=some (.int .i64 fO)∧
      w'.cell? ⟨W.heap.size+1,0,none⟩=some (.bool ok)∧w'.cell? ⟨W.heap.size+1,1,none⟩=some (.slice cC ey dx)∧w'.cell? ⟨W.heap.size+1,2,none⟩=some (.slice cx dV aT)∧w'.cell? ⟨W.heap.size+1,3,none⟩=some (.slice cZ bV e2))
    (first
      | exact zN uJ.out.drewN 1 2
      | (refine zN ?_ 1 2 rfl rfl;assumption))
    (first
      | (go_at_call 25;refine(xU xw.out (hA.at uJ.out.drewN 0).1).mono ?_;rintro e gX ⟨dZ,bC,dB,st,dw,uC,rfl,m6,nb⟩;have ky:=uJ.out.drewN.below m6)
      | (go_at_call 42;refine(xT uP.out (hA.at ky 0).2).mono ?_;rintro e kO ⟨Oz,z0,OA,kS,OB,z2,rfl,lJ,vO⟩;have lN:=ky.below lJ)
      | (go_at_call 54;refine(PU i_.out (Lk nb lJ) (zj vO)).mono ?_;rintro e qC ⟨nR,B2,rfl,re,vP⟩;have p0:=lN.wq re vP;have Cx:=lN.below re))
  have xm:=Lib.hid p0;clear p0 Cx ky lN m6 nb lJ vO re vP
  obtain⟨b8,q1,q2,q3,q4⟩:=sQ (xm.out.get 1)
  go_wp2_with (go_at_call 25;refine(xU xw.out (hA.at xm.out 0).1).mono ?_)
  first
  | (rintro e jZ mJ kQ mK nM mM nN rfl hb bj)
  | (rintro e jZ ⟨mJ,kQ,mK,nM,mM,nN,rfl,hb,bj⟩)
  have xn:=Lib.hid (xm.out.wq hb bj);clear b8 q1 q2 q3 q4 hb bj xm
  have Av:=Lib.hid (xn.out.box #[.int .i64 p.ag,.slice mJ p.bu.length kQ,.slice mK p.M.length nM,.slice mM p.bz.length nN,.int .i64 p.dq] 29)
  have aJ:W.heap.size+1<jZ.heap.size:=xn.out.Gk 2 rfl
  obtain⟨b8,q1,q2,q3⟩:=qZ (xn.out.get 2)
  go_wp2_with (go_at_call 42;refine(xT uP.out (hA.at Av.out 0).2).mono ?_)
  first
  | (rintro e kP mN jA mO nO mP nP rfl hb bj)
  | (rintro e kP ⟨mN,jA,mO,nO,mP,nP,rfl,hb,bj⟩)
  have xo:=Lib.hid (Av.out.wq hb bj);clear b8 q1 q2 q3 aJ hb bj xn Av
  have xp:=Lib.hid (xo.out.box #[.bool f.ok,.slice mN f.aF.length jA,.slice mO f.aB.length nO,.slice mP f.M.length nP] 40)
  have aJ:jZ.heap.size<kP.heap.size:=xo.out.Gk 5 rfl
  obtain⟨b8,q1,q2,q3,q4⟩:=sQ (xo.out.get 5)
  go_wp2_with (go_at_call 49;refine(Gy i_.out (fK.at xp.out 4) (fK.at xp.out 6)).mono ?_)
  first
  | (rintro e Ai cH pT rfl hb bj)
  | (rintro e Ai ⟨cH,pT,rfl,hb,bj⟩)
  have xf:=Lib.hid (xp.out.wq hb bj);clear b8 q1 q2 q3 q4 aJ hb bj xo xp
  go_wp2_with (go_at_call 55;refine(A6 (fK.at xf.out 8) (fK.at xf.out 3)).mono ?_)
  first
  | (rintro e aa5 rfl hb)
  | (rintro e aa5 ⟨rfl,hb⟩)
  have xg:=Lib.hid (xf.out.below hb);clear hb xf
  go_wp2_with fail
  go_region_held3 (fun w'=>c_ W w' [hA W.heap.size (.agg (bL false p)) (.agg #[.int .i64 ps,.slice e8 a0 d0,.slice e9 J d1,.slice e_ a2 d2,.int .i64 fO]) (.agg (b5 false f)) (.agg #[.bool ok,.slice cC ey dx,.slice cx dV aT,.slice cZ bV e2]),gE W.heap.size #[.int .i64 ps,.slice e8 a0 d0,.slice e9 J d1,.slice e_ a2 d2,.int .i64 fO] 48,gE (W.heap.size+1) #[.bool ok,.slice cC ey dx,.slice cx dV aT,.slice cZ bV e2] 69,fK kO.heap.size qC.heap.size (.aR ((fa p f k).map bO) false false) (.slice nR (fa p f k).length B2),fK qC.heap.size jZ.heap.size (.agg (bL false p)) (.agg #[.int .i64 p.ag,.slice mJ p.bu.length kQ,.slice mK p.M.length nM,.slice mM p.bz.length nN,.int .i64 p.dq]),gE jZ.heap.size #[.int .i64 p.ag,.slice mJ p.bu.length kQ,.slice mK p.M.length nM,.slice mM p.bz.length nN,.int .i64 p.dq] 29,fK (jZ.alloc (.cells #[.int .i64 p.ag,.slice mJ p.bu.length kQ,.slice mK p.M.length nM,.slice mM p.bz.length nN,.int .i64 p.dq] 29)).heap.size kP.heap.size (.agg (b5 false f)) (.agg #[.bool f.ok,.slice mN f.aF.length jA,.slice mO f.aB.length nO,.slice mP f.M.length nP]),gE kP.heap.size #[.bool f.ok,.slice mN f.aF.length jA,.slice mO f.aB.length nO,.slice mP f.M.length nP] 40,fK (kP.alloc (.cells #[.bool f.ok,.slice mN f.aF.length jA,.slice mO f.aB.length nO,.slice mP f.M.length nP] 40)).heap.size Ai.heap.size (.aR ((fa p f k).map bO) false false) (.slice cH (fa p f k).length pT)]∧w'.cell? ⟨jZ.heap.size,0,none⟩=some (.int .i64 p.ag)∧w'.cell? ⟨jZ.heap.size,1,none⟩=some (.slice mJ p.bu.length kQ)∧w'.cell? ⟨jZ.heap.size,2,none⟩=some (.slice mK p.M.length nM)∧w'.cell? ⟨jZ.heap.size,3,none⟩=some (.slice mM p.bz.length nN)∧w'.cell? ⟨jZ.heap.size,4,none⟩=some (.int .i64 p.dq)∧w'.cell? ⟨W.heap.size,0,none⟩=some (.int .i64 ps)∧w'.cell? ⟨W.heap.size,1,none⟩=some (.slice e8 a0 d0)∧w'.cell? ⟨W.heap.size,2,none⟩=some (.slice e9 J d1)∧w'.cell? ⟨W.heap.size,3,none⟩=some (.slice e_ a2 d2)∧w'.cell? ⟨W.heap.size,4,none⟩=some (.int .i64 fO))
    (first
      | exact Mt xg.out.drewN 5 1
      | (refine Mt ?_ 5 1 rfl rfl;assumption))
    (first
      | (go_at_call 25;refine(xU xw.out (hA.at xg.out.drewN 0).1).mono ?_;rintro e ab6 ⟨dZ,bC,dB,st,dw,uC,rfl,m6,nb⟩;have ky:=xg.out.drewN.below m6)
      | (go_at_call 28;refine(PQ (fK.at ky 4) (zj nb)).mono ?_;rintro e ab8 ⟨rfl,lJ⟩;have lN:=ky.below lJ))
  have xh:=Lib.hid lN;clear lN ky m6 lJ nb xg
  go_wp2_with fail
  go_region_held3 (fun w'=>c_ W w' [hA W.heap.size (.agg (bL false p)) (.agg #[.int .i64 ps,.slice e8 a0 d0,.slice e9 J d1,.slice e_ a2 d2,.int .i64 fO]) (.agg (b5 false f)) (.agg #[.bool ok,.slice cC ey dx,.slice cx dV aT,.slice cZ bV e2]),gE W.heap.size #[.int .i64 ps,.slice e8 a0 d0,.slice e9 J d1,.slice e_ a2 d2,.int .i64 fO] 48,gE (W.heap.size+1) #[.bool ok,.slice cC ey dx,.slice cx dV aT,.slice cZ bV e2] 69,fK kO.heap.size qC.heap.size (.aR ((fa p f k).map bO) false false) (.slice nR (fa p f k).length B2),fK qC.heap.size jZ.heap.size (.agg (bL false p)) (.agg #[.int .i64 p.ag,.slice mJ p.bu.length kQ,.slice mK p.M.length nM,.slice mM p.bz.length nN,.int .i64 p.dq]),gE jZ.heap.size #[.int .i64 p.ag,.slice mJ p.bu.length kQ,.slice mK p.M.length nM,.slice mM p.bz.length nN,.int .i64 p.dq] 29,fK (jZ.alloc (.cells #[.int .i64 p.ag,.slice mJ p.bu.length kQ,.slice mK p.M.length nM,.slice mM p.bz.length nN,.int .i64 p.dq] 29)).heap.size kP.heap.size (.agg (b5 false f)) (.agg #[.bool f.ok,.slice mN f.aF.length jA,.slice mO f.aB.length nO,.slice mP f.M.length nP]),gE kP.heap.size #[.bool f.ok,.slice mN f.aF.length jA,.slice mO f.aB.length nO,.slice mP f.M.length nP] 40,fK (kP.alloc (.cells #[.bool f.ok,.slice mN f.aF.length jA,.slice mO f.aB.length nO,.slice mP f.M.length nP] 40)).heap.size Ai.heap.size (.aR ((fa p f k).map bO) false false) (.slice cH (fa p f k).length pT)]∧w'.cell? ⟨kP.heap.size,0,none⟩=some (.bool f.ok)∧w'.cell? ⟨kP.heap.size,1,none⟩=some (.slice mN f.aF.length jA)∧w'.cell? ⟨kP.heap.size,2,none⟩=some (.slice mO f.aB.length nO)∧w'.cell? ⟨kP.heap.size,3,none⟩=some (.slice mP f.M.length nP)∧w'.cell? ⟨W.heap.size+1,0,none⟩=some (.bool ok)∧w'.cell? ⟨W.heap.size+1,1,none⟩=some (.slice cC ey dx)∧w'.cell? ⟨W.heap.size+1,2,none⟩=some (.slice cx dV aT)∧w'.cell? ⟨W.heap.size+1,3,none⟩=some (.slice cZ bV e2))
    (first
      | exact Ms xh.out.drewN 7 2
      | (refine Ms ?_ 7 2 rfl rfl;assumption))
    (first
      | (go_at_call 42;refine(xT uP.out (hA.at xh.out.drewN 0).2).mono ?_;rintro e ab9 ⟨dZ,bC,dB,st,dw,uC,rfl,m6,nb⟩;have ky:=xh.out.drewN.below m6)
      | (go_at_call 34;refine(PP (fK.at ky 6) (zj nb)).mono ?_;rintro e uz ⟨rfl,lJ⟩;have lN:=ky.below lJ))
  have uH:=Lib.hid lN;clear lN ky m6 lJ nb xh
  obtain⟨b8,q1,q2,q3,q4⟩:=sQ (uH.out.get 5)
  go_wp2_with (go_at_call 35;refine(PT (uH.out.told 4 rfl) (fun c hc=>hc.2.2) (by decide) OJ.out).mono ?_)
  rw[oL.out]
  first
  | (rintro e aaZ rfl hb)
  | (rintro e aaZ ⟨rfl,hb⟩)
  have uI:=Lib.hid (uH.out.forget 4 rfl (uH.out.after 0 4 rfl rfl (by omega)) hb);clear b8 q1 q2 q3 q4 hb uH
  obtain⟨b8,q1,q2,q3⟩:=qZ (uI.out.get 7)
  go_wp2_with (go_at_call 36;refine(PR (uI.out.told 6 rfl) (fun c hc=>hc.2.2) FM.out.1 FM.out.2).mono ?_)
  rw[qN.out]
  first
  | (rintro e aa0 rfl hb)
  | (rintro e aa0 ⟨rfl,hb⟩)
  have xi:=Lib.hid (uI.out.forget 6 rfl (uI.out.after 0 6 rfl rfl (by omega)) hb);clear b8 q1 q2 q3 hb uI
  go_wp2_with (go_at_call 55;refine(A6 (fK.at xi.out 8) (fK.at xi.out 3)).mono ?_)
  first
  | (rintro e ac rfl hb)
  | (rintro e ac ⟨rfl,hb⟩)
  have xj:=Lib.hid (xi.out.below hb);clear hb xi
  go_wp2_with (go_at_call 56;refine(PS (xj.out.told 8 rfl) (fun c hc=>hc.2.2) (by decide) FN.out).mono ?_)
  rw[xr.out]
  first
  | (rintro e aa1 rfl hb bj)
  | (rintro e aa1 ⟨rfl,hb,bj⟩)
  have At:=Lib.hid (xj.out.aaS 8 rfl (xj.out.after 0 8 rfl rfl (by omega)) hb bj);clear hb bj xj
  go_wp2_with (go_at_call 57;refine(Gx FQ.out (fK.at At.out 8)).mono ?_)
  rw[FO.out]
  first
  | (rintro e aa2 rfl hb)
  | (rintro e aa2 ⟨rfl,hb⟩)
  have xk:=Lib.hid (At.out.below hb);clear hb At
  go_wp2_with fail
  go_region_held3 (fun w'=>c_ W w' [hA W.heap.size (.agg (bL false p)) (.agg #[.int .i64 ps,.slice e8 a0 d0,.slice e9 J d1,.slice e_ a2 d2,.int .i64 fO]) (.agg (b5 false f)) (.agg #[.bool ok,.slice cC ey dx,.slice cx dV aT,.slice cZ bV e2]),gE W.heap.size #[.int .i64 ps,.slice e8 a0 d0,.slice e9 J d1,.slice e_ a2 d2,.int .i64 fO] 48,gE (W.heap.size+1) #[.bool ok,.slice cC ey dx,.slice cx dV aT,.slice cZ bV e2] 69,fK kO.heap.size qC.heap.size (.aR ((fa p f k).map bO) false false) (.slice nR (fa p f k).length B2),yU qC.heap.size jZ.heap.size,gE jZ.heap.size #[.int .i64 p.ag,.slice mJ p.bu.length kQ,.slice mK p.M.length nM,.slice mM p.bz.length nN,.int .i64 p.dq] 29,yU (jZ.alloc (.cells #[.int .i64 p.ag,.slice mJ p.bu.length kQ,.slice mK p.M.length nM,.slice mM p.bz.length nN,.int .i64 p.dq] 29)).heap.size kP.heap.size,gE kP.heap.size #[.bool f.ok,.slice mN f.aF.length jA,.slice mO f.aB.length nO,.slice mP f.M.length nP] 40,fK (kP.alloc (.cells #[.bool f.ok,.slice mN f.aF.length jA,.slice mO f.aB.length nO,.slice mP f.M.length nP] 40)).heap.size Ai.heap.size (.aR ((jv 1 (fa p f k).length).map bO) false false) (.slice cH (fa p f k).length pT)]∧w'.cell? ⟨W.heap.size,0,none⟩=some (.int .i64 ps)∧w'.cell? ⟨W.heap.size,1,none⟩=some (.slice e8 a0 d0)∧w'.cell? ⟨W.heap.size,2,none⟩=some (.slice e9 J d1)∧w'.cell? ⟨W.heap.size,3,none⟩=some (.slice e_ a2 d2)∧w'.cell? ⟨W.heap.size,4,none⟩=some (.int .i64 fO)∧w'.cell? ⟨W.heap.size+1,0,none⟩=some (.bool ok)∧w'.cell? ⟨W.heap.size+1,1,none⟩=some (.slice cC ey dx)∧w'.cell? ⟨W.heap.size+1,2,none⟩=some (.slice cx dV aT)∧w'.cell? ⟨W.heap.size+1,3,none⟩=some (.slice cZ bV e2))
    (first
      | exact zN xk.out.drewN 1 2
      | (refine zN ?_ 1 2 rfl rfl;assumption))
    (first
      | (go_at_call 25;refine(xU xw.out (hA.at xk.out.drewN 0).1).mono ?_;rintro e ae ⟨dZ,bC,dB,st,dw,uC,rfl,m6,nb⟩;have ky:=xk.out.drewN.below m6)
      | (go_at_call 42;refine(xT uP.out (hA.at ky 0).2).mono ?_;rintro e ab_ ⟨Oz,z0,OA,kS,OB,z2,rfl,lJ,vO⟩;have lN:=ky.below lJ)
      | (go_at_call 49;refine(Gy i_.out (Lk nb lJ) (zj vO)).mono ?_;rintro e aca ⟨abr,abQ,rfl,re,vP⟩;have p0:=lN.wq re vP;have Cx:=lN.below re))
  have xl:=Lib.hid p0;clear p0 Cx ky lN m6 nb lJ vO re vP xk
  go_wp2_with (go_at_call 55;refine(A6 (fK.at xl.out 9) (fK.at xl.out 3)).mono ?_)
  first
  | (rintro e aa3 rfl hb)
  | (rintro e aa3 ⟨rfl,hb⟩)
  have Au:=Lib.hid (xl.out.below hb);clear hb xl
  go_wp2_with (go_at_call 57;refine(Gx FQ.out (fK.at Au.out 8)).mono ?_)
  rw[FO.out]
  first
  | (rintro e aa4 rfl hb)
  | (rintro e aa4 ⟨rfl,hb⟩)
  have OG:=Lib.hid (Au.out.below hb);clear hb Au
  go_wp2
  go_ret
  exact⟨rfl,OG.out.end⟩
theorem U6 (p:aN) (f:Frame) (k:Int) (W:World) (e8 e9 e_ cC cx cZ:Option Addr) (a0 J a2 ey dV bV d0 d1 d2 dx aT e2:Nat) (ps fO:Int) (ok:Bool)
    (h1:fD W (fun c=>c<W.heap.size) (.agg (bL false p)) (.agg #[.int .i64 ps,.slice e8 a0 d0,.slice e9 J d1,.slice e_ a2 d2,.int .i64 fO])) (hs:1048576<iy p):
    Calls Try.prog 17 #[.agg #[.int .i64 ps,.slice e8 a0 d0,.slice e9 J d1,.slice e_ a2 d2,.int .i64 fO],.agg #[.bool ok,.slice cC ey dx,.slice cx dV aT,.slice cZ bV e2],.int .i64 k] W fun e w'=>e= .returned (.bool true)∧Below W.heap.size W w':=by
  have ll:Hid (Below W.heap.size W ((W.alloc (.cells #[.int .i64 ps,.slice e8 a0 d0,.slice e9 J d1,.slice e_ a2 d2,.int .i64 fO] 48)).alloc (.cells #[.bool ok,.slice cC ey dx,.slice cx dV aT,.slice cZ bV e2] 69))):=((Below.refl _ _).alloc (Nat.le_refl _) _).alloc (by simp) _
  have kq:Hid (V2 (Env.at ((W.alloc (.cells #[.int .i64 ps,.slice e8 a0 d0,.slice e9 J d1,.slice e_ a2 d2,.int .i64 fO] 48)).alloc (.cells #[.bool ok,.slice cC ey dx,.slice cx dV aT,.slice cZ bV e2] 69))) (.agg (bL false p)) (.agg #[.int .i64 ps,.slice e8 a0 d0,.slice e9 J d1,.slice e_ a2 d2,.int .i64 fO])):=(h1.dj (fun c hc=>ll.out.block c hc) (fun _ h=>h)).at fun c hc=>Nat.lt_of_lt_of_le hc ll.out.size
  have uR:Hid (nE p 1048576= -1):=by unfold Hid nE ee;rw[if_pos (by omega)]
  clear h1 hs
  go_enter Try.func17,Try.ntmps17
  go_wp2_with (go_at_call 23;refine(A7 (p:=p) (l:=1048576) ⟨by omega,by omega⟩ kq.out).mono ?_)
  rw[uR.out]
  first
  | (rintro e cj rfl hb)
  | (rintro e cj ⟨rfl,hb⟩)
  have OE:=Lib.hid (ll.out.trans (hb.mono ll.out.size));clear hb
  go_wp2
  go_ret
  exact⟨rfl,OE.out⟩
theorem U7 (p:aN) (f:Frame) (k:Int) (W:World) (e8 e9 e_ cC cx cZ:Option Addr) (a0 J a2 ey dV bV d0 d1 d2 dx aT e2:Nat) (ps fO:Int) (ok:Bool)
    (h1:fD W (fun c=>c<W.heap.size) (.agg (bL false p)) (.agg #[.int .i64 ps,.slice e8 a0 d0,.slice e9 J d1,.slice e_ a2 d2,.int .i64 fO]))
    (h2:fD W (fun c=>c<W.heap.size) (.agg (b5 false f)) (.agg #[.bool ok,.slice cC ey dx,.slice cx dV aT,.slice cZ bV e2]))
    (hs:iy p≤1048576) (p4:1048576<iy p+m0 f):
    Calls Try.prog 17 #[.agg #[.int .i64 ps,.slice e8 a0 d0,.slice e9 J d1,.slice e_ a2 d2,.int .i64 fO],.agg #[.bool ok,.slice cC ey dx,.slice cx dV aT,.slice cZ bV e2],.int .i64 k] W fun e w'=>e= .returned (.bool true)∧Below W.heap.size W w':=by
  have uG:Hid (c_ W W [hA W.heap.size (.agg (bL false p)) (.agg #[.int .i64 ps,.slice e8 a0 d0,.slice e9 J d1,.slice e_ a2 d2,.int .i64 fO]) (.agg (b5 false f)) (.agg #[.bool ok,.slice cC ey dx,.slice cx dV aT,.slice cZ bV e2])]):=(c_.start W).add (hA W.heap.size _ _ _ _) (Nat.le_refl _) ⟨h1,h2⟩ (fun j h=>by cases h)
  have qK:Hid (c_ W ((W.alloc (.cells #[.int .i64 ps,.slice e8 a0 d0,.slice e9 J d1,.slice e_ a2 d2,.int .i64 fO] 48)).alloc (.cells #[.bool ok,.slice cC ey dx,.slice cx dV aT,.slice cZ bV e2] 69)) [hA W.heap.size (.agg (bL false p)) (.agg #[.int .i64 ps,.slice e8 a0 d0,.slice e9 J d1,.slice e_ a2 d2,.int .i64 fO]) (.agg (b5 false f)) (.agg #[.bool ok,.slice cC ey dx,.slice cx dV aT,.slice cZ bV e2]),gE W.heap.size #[.int .i64 ps,.slice e8 a0 d0,.slice e9 J d1,.slice e_ a2 d2,.int .i64 fO] 48,gE (W.heap.size+1) #[.bool ok,.slice cC ey dx,.slice cx dV aT,.slice cZ bV e2] 69]):=by
    have:=(uG.out.box #[.int .i64 ps,.slice e8 a0 d0,.slice e9 J d1,.slice e_ a2 d2,.int .i64 fO] 48).box #[.bool ok,.slice cC ey dx,.slice cx dV aT,.slice cZ bV e2] 69
    rw[World.size_alloc] at this
    exact this
  clear uG h1 h2
  have kS:nE p 1048576=1048576 - iy p:=by unfold nE ee;rw[if_neg (by omega)]
  have z2:pw f (1048576 - iy p)= -1:=by unfold pw ee;rw[if_pos (by omega)]
  obtain⟨hH,tu⟩: ∃y:Int,(1048576:Int) - iy p=y:=⟨_,rfl⟩
  rw[tu] at kS z2
  have AJ:Hid (0≤hH∧hH≤1048576):=by unfold Hid;omega
  have uR:=Lib.hid kS;clear kS
  have Z2:=Lib.hid z2;clear z2
  have g1:decide (hH<0)=false:=decide_eq_false (by omega)
  clear tu hs p4
  go_enter Try.func17,Try.ntmps17
  go_wp2_with (go_at_call 23;refine(A7 (p:=p) (l:=1048576) ⟨by omega,by omega⟩ (hA.at qK.out 0).1).mono ?_)
  rw[uR.out]
  first
  | (rintro e cj rfl hb)
  | (rintro e cj ⟨rfl,hb⟩)
  have oK:=Lib.hid (qK.out.below hb);clear hb qK
  obtain⟨b8,q1,q2,q3⟩:=qZ (oK.out.get 2)
  go_wp2_with (go_at_call 40;refine(Gz (p:=f) (l:=hH) AJ.out (hA.at oK.out 0).2).mono ?_)
  rw[Z2.out]
  first
  | (rintro e dU rfl hb)
  | (rintro e dU ⟨rfl,hb⟩)
  have uJ:=Lib.hid (oK.out.below hb);clear hb oK b8 q1 q2 q3
  go_wp2
  go_ret
  exact⟨rfl,uJ.out.end⟩
theorem XR (p:aN) (f:Frame) (k:Int) (h:iy p≤1048576):(fa p f k).length≤1048576:=by
  unfold fa
  split
  · have:=BR (fun i=>j0 p f i k) p.M.length
    unfold mA
    unfold iy ss at h
    omega
  · exact Nat.zero_le _
theorem U8 (a0:aN) (J:Frame) (a2:Int):a_ Try.prog 17 [.agg (bL false a0),.agg (b5 false J),.int .i64 a2] (.bool true):=by
  refine a_.Xr (by kernel_rfl) fun W vs aC=> ?_
  obtain⟨abT,vs,rfl,h1,aC⟩:=aC.cons_inv
  obtain⟨aby,vs,rfl,h2,aC⟩:=aC.cons_inv
  obtain⟨iu,vs,rfl,aH,aC⟩:=aC.cons_inv
  obtain rfl:=aC.mv
  have aH:aQ W _ _ (.int .i64 a2) iu:=aH
  cases aH
  have t1:=Od (e:= .dN) (x:=a0) h1
  have t2:=Od (e:= .frame) (x:=J) h2
  obtain⟨e8,d0,e9,d1,e_,d2,rfl,_⟩:=Fp t1
  obtain⟨cC,dx,cx,aT,cZ,e2,rfl,_⟩:=Fo t2
  by_cases hs:iy a0≤1048576
  · by_cases p4:iy a0+m0 J≤1048576
    · exact U5 a0 J a2 W e8 e9 e_ cC cx cZ _ _ _ _ _ _ d0 d1 d2 dx aT e2 _ _ _ t1 t2 (XR a0 J a2 hs) hs p4
    · exact U7 a0 J a2 W e8 e9 e_ cC cx cZ _ _ _ _ _ _ d0 d1 d2 dx aT e2 _ _ _ t1 t2 hs (by omega)
  · exact U6 a0 J a2 W e8 e9 e_ cC cx cZ _ _ _ _ _ _ d0 d1 d2 dx aT e2 _ _ _ t1 (by omega)
end Go.Proofs.Ytglpfccgmfhkdaa.Fw
