/- Walks and summaries of functions, printed by a program of mine (tools/mk2.py), with the proofs of what they owe. -/
import Derived.Test.YtglpfccgmfhkdaaM5
set_option linter.unusedVariables false
set_option maxRecDepth 100000
set_option maxHeartbeats 4000000
set_option linter.unusedSimpArgs false
namespace Go.Proofs.Ytglpfccgmfhkdaa.Fw
open Go
attribute [local irreducible] evS evSD WpS Weak Oper.looksAt
noncomputable def adL:Code:=iE Try.f140
def adM:List Item:=[ao 0,ao 1,ao 2,ao 3,ao 4,ao 5,ao 6,ao 7,ao 8,ao 9,ao 10,ao 11,ao 12,ao 13,ao 14,ao 15,ao 16,ao 17,ao 18,ao 19,ao 20,ao 21,ao 22,ao 23,ao 24,ao 25,ao 26,ao 27,ao 28,ao 29,ao 30,ao 31,ao 32,ao 33,ao 34,ao 35,ao 36,ao 37]
def adN:List (List Nat):=[[],[0],[0,1],[0,1,2],[],rg 0 5,rg 0 6,rg 0 7,rg 0 8,rg 0 9,rg 0 10,rg 0 11,rg 0 12,rg 0 9,rg 0 9++[13],rg 0 9,rg 0 9++[13,14,15],rg 0 9++rg 13 17,rg 0 18,rg 0 19,rg 0 20,rg 0 21,rg 0 22,rg 0 22,rg 0 22++[23],rg 0 25,rg 0 26,rg 0 27,rg 0 28,rg 0 29,rg 0 30,rg 0 27,rg 0 27++[31],rg 0 33,rg 0 34,rg 0 35,rg 0 36,rg 0 37]
abbrev rm (r:Type):Type:=List (List Bool)→Int→List ad→r
def IJ (aU:rm Prop) (aV:rm Nat) (bb:Int) (hi:List Nat) (aZ:List (List Bool)) (dh:Int) (aE:List ad):Prop:=
  (aE.length=hi.length∧bb.toNat<aE.length)∧((aE.length=hi.length∧bb.toNat<aE.length)∧(aU aZ dh (aE.set bb.toNat (ad.mk (nth aE bb).aq (IntKind.i64.wrap ((nth aE bb).af+1)) (nth aE bb).ac (nth aE bb).ar (nth aE bb).au))∧aV aZ dh (aE.set bb.toNat (ad.mk (nth aE bb).aq (IntKind.i64.wrap ((nth aE bb).af+1)) (nth aE bb).ac (nth aE bb).ar (nth aE bb).au))<aV aZ dh aE))
def IK (aU:rm Prop) (aV:rm Nat) (J:Way) (bb:Int) (hk:Bool) (aC:List Bool) (ak:List a8) (hw:List ad) (hi:List Nat) (hb aZ:List (List Bool)) (dh:Int) (aE:List ad):Prop:=
  (((aE.length=hi.length∧bb.toNat<aE.length)∧((((nth hi bb)<aZ.length)∧(0≤(nth aE bb).af∧(nth aE bb).af.toNat<(nth aE bb).ac.length))∧(((nth hi bb)<aZ.length∧(nth aE bb).af.toNat<(aZ.getD (nth hi bb) []).length)∧((!(nth (aZ.getD (nth hi bb) []) (nth aE bb).af))=false→(0≤(nth aE bb).af∧(nth aE bb).af.toNat<J.ai.length)∧((0≤(nth J.ai (nth aE bb).af)∧(nth J.ai (nth aE bb).af).toNat<aC.length)∧((nth aC (nth J.ai (nth aE bb).af))=false→(decide ((nth aE bb).af<(IntKind.i64.wrap ((J.ai.length:Int) - 1))))=true→(aE.length=hi.length∧bb.toNat<aE.length)∧((((nth hi bb)<aZ.length)∧(0≤(IntKind.i64.wrap ((nth aE bb).af+1))∧(IntKind.i64.wrap ((nth aE bb).af+1)).toNat<(nth aE bb).ac.length))∧((nth hi bb)<aZ.length∧(IntKind.i64.wrap ((nth aE bb).af+1)).toNat<(aZ.getD (nth hi bb) []).length))))))))∧(((!(nth (aZ.getD (nth hi bb) []) (nth aE bb).af)) || ((nth aC (nth J.ai (nth aE bb).af)) || ((decide ((nth aE bb).af<(IntKind.i64.wrap ((J.ai.length:Int) - 1))))&&(!(nth (aZ.getD (nth hi bb) []) (IntKind.i64.wrap ((nth aE bb).af+1)))))))=true→zu J bb hk aC ak hw hi hb aC ak aE hi aZ))∧((!((!(nth (aZ.getD (nth hi bb) []) (nth aE bb).af)) || ((nth aC (nth J.ai (nth aE bb).af)) || ((decide ((nth aE bb).af<(IntKind.i64.wrap ((J.ai.length:Int) - 1))))&&(!(nth (aZ.getD (nth hi bb) []) (IntKind.i64.wrap ((nth aE bb).af+1))))))))=true→IJ aU aV bb hi aZ dh aE)
def IL (aU:rm Prop) (aV:rm Nat) (J:Way) (bb:Int) (hk:Bool) (aC:List Bool) (ak:List a8) (hw:List ad) (hi:List Nat) (hb aZ:List (List Bool)) (dh:Int) (aE:List ad):Prop:=
  ((aE.length=hi.length∧bb.toNat<aE.length)∧((decide ((nth aE bb).af<(J.ai.length:Int)))=false→(BT bb hk aC ak aE hi aZ)∧(∀(Aa:List ad) (i14:List Nat) (yc:List (List Bool)),uJ bb hk aC ak aE hi aZ aC ak Aa i14 yc→(zu J bb hk aC ak hw hi hb aC ak Aa i14 yc))))∧((decide ((nth aE bb).af<(J.ai.length:Int)))=true→(aE.length=hi.length∧bb.toNat<aE.length)∧(IK aU aV J bb hk aC ak hw hi hb aZ dh aE))
def IM (ay:List (List Bool)→Int→Prop) (aB:List (List Bool)→Int→Nat) (J:Way) (bb:Int) (aC:List Bool) (hw:List ad) (hi:List Nat) (aZ:List (List Bool)) (dh:Int):Prop:=
  ((0≤dh∧dh.toNat<J.ai.length)∧((0≤(nth J.ai dh)∧(nth J.ai dh).toNat<aC.length)∧((nth aC (nth J.ai dh))=true→(hw.length=hi.length∧bb.toNat<hw.length)∧((((nth hi bb)<aZ.length)∧(0≤dh∧dh.toNat<(nth hw bb).ac.length))∧((nth hi bb)<aZ.length∧dh.toNat<(aZ.getD (nth hi bb) []).length)))))∧(∀vw:List (List Bool),(bif (nth aC (nth J.ai dh)) then(aZ.set (nth hi bb) ((aZ.getD (nth hi bb) []).set dh.toNat true)) else aZ)=vw→(ay vw (IntKind.i64.wrap (dh+1))∧aB vw (IntKind.i64.wrap (dh+1))<aB aZ dh))
def II (J:Way) (bb:Int) (hg:Nat) (hk:Bool) (aC:List Bool) (ak:List a8) (hw:List ad) (hi:List Nat) (hb:List (List Bool)) (ay:List (List Bool)→Int→Prop) (aB:List (List Bool)→Int→Nat) (aU:rm Prop) (aV:rm Nat):Prop:=
 J.ai.length≤4611686018427387904→ay hb 0∧ ∀(aZ:List (List Bool)) (dh:Int),ay aZ dh→(((decide (dh<(J.ai.length:Int)))=false→aU aZ dh hw∧ ∀(aE:List ad),aU aZ dh aE→(IL aU aV J bb hk aC ak hw hi hb aZ dh aE))∧((decide (dh<(J.ai.length:Int)))=true→IM ay aB J bb aC hw hi aZ dh))
theorem adO (J:Way) (bb:Int) (hg:Nat) (hk:Bool) (aC:List Bool) (ak:List a8) (hw:List ad) (hi:List Nat) (hb:List (List Bool)) (ay:List (List Bool)→Int→Prop) (aB:List (List Bool)→Int→Nat) (aU:rm Prop) (aV:rm Nat) (h:II J bb hg hk aC ak hw hi hb ay aB aU aV):dH Try.prog 140 [.agg (dw false J),.ptr 0 hg 0 0,.ptr 3 0 (0+bb.toNat) 0] (⟨hg,4,[[an hk,aj 1 0 aC.length,aj 2 0 ak.length,aj 3 0 hw.length]]⟩::⟨0,1,List.map aY aC⟩::⟨0,2,List.map a7 ak⟩::⟨0,5,a1 4 hw hi⟩::List.map bo hb) (fun r H'=> ∃(e4:List ad) (gg:List Nat) (ek:List (List Bool)),r= .tup []∧H'=(⟨hg,4,[[an hk,aj 1 0 aC.length,aj 2 0 ak.length,aj 3 0 e4.length]]⟩::⟨0,1,List.map aY aC⟩::⟨0,2,List.map a7 ak⟩::⟨0,5,a1 4 e4 gg⟩::List.map bo ek)∧zu J bb hk aC ak hw hi hb aC ak e4 gg ek):=by
 unfold II at h
 refine dH.go (fn:=Try.f140) [(0,.agg (dw false J)),(1,.ptr 0 hg 0 0),(2,.ptr 3 0 (0+bb.toNat) 0)] Try.func140 (fun _ _=> ?_)
 show WpS _ (bT adL 1) _ ⟨bi 92 [(0,.agg (dw false J)),(1,.ptr 0 hg 0 0),(2,.ptr 3 0 (0+bb.toNat) 0)],[],(⟨hg,4,[[an hk,aj 1 0 aC.length,aj 2 0 ak.length,aj 3 0 hw.length]]⟩::⟨0,1,List.map aY aC⟩::⟨0,2,List.map a7 ak⟩::⟨0,5,a1 4 hw hi⟩::List.map bo hb)⟩
 refine sI [] 0 [(3,aA 3 0)] [1] [0,1,2] (fun L=>(3,(dw false J))::L) id ?_
 refine cB [(6,ag (J.ai.length:Int))] [3] (J.ai.length≤4611686018427387904) ?_ (fun q2=> ?_)
 ·
  refine bM [] 1 ?_
  refine sLen 3 (some 12) [(11,bL c_ J.ai),(10,aA 3 0)] c_ J.ai (fun q3=> ?_)
  exact b6 [(6,ag (J.ai.length:Int))] q3
 replace h:=h q2
 refine hJ ?_
 refine cB [(14,bL c_ J.ai),(15,ag (J.ai.length:Int)),(16,ag 0)] [4] (True) ?_ (fun q4=> ?_)
 ·
  refine bM [] 2 ?_
  refine sLen 3 (some 15) [(14,bL c_ J.ai),(13,aA 3 0)] c_ J.ai (fun cR=> ?_)
  exact b6 [(16,ag 0)] trivial
 refine fs 0 ?_
 obtain⟨mF,h⟩:=h
 refine km (fun(v:List (List Bool)×Int)=>(⟨(bi 92 [(1,.ptr 0 hg 0 0),(2,.ptr 3 0 (0+bb.toNat) 0),(3,aA 3 0),(6,ag (J.ai.length:Int)),(14,bL c_ J.ai),(15,ag (J.ai.length:Int)),(16,ag (v.2))]),[(3,(dw false J))],(⟨hg,4,[[an hk,aj 1 0 aC.length,aj 2 0 ak.length,aj 3 0 hw.length]]⟩::⟨0,1,List.map aY aC⟩::⟨0,2,List.map a7 ak⟩::⟨0,5,a1 4 hw hi⟩::List.map bo (v.1))⟩:St)) (fun(v:List (List Bool)×Int)=>ay (v.1) (v.2)) (fun(v:List (List Bool)×Int)=>aB (v.1) (v.2)) (hb,0) (dC []) mF (fun v a0=> ?_)
 obtain⟨aZ,dh⟩:=v
 replace h:=h aZ dh a0
 dsimp only
 refine ej [] 3 [(17,an (decide (dh<(J.ai.length:Int))))] [1] [7] ?_
 obtain⟨o9,h⟩:=h
 refine cB [] [0,1,7] ((decide (dh<(J.ai.length:Int)))=true) ?_ (fun fP=> ?_)
 ·
  replace h:=o9
  refine dI (fun fD=> ?_) (fun fD=> ?_)
  ·
   refine eo ?_
   exact ci.normal (by simp only[fD]<;>rfl) ed
  ·
   replace h:=h fD
   refine iZ 0 ?_
   refine ci.exit ?_
   refine d_.exit ?_
   refine cm.here ?_
   refine eb.normal ?_
   refine hJ ?_
   refine fs 2 ?_
   obtain⟨jE,h⟩:=h
   refine km (fun(v:List ad)=>(⟨(bi 92 [(1,.ptr 0 hg 0 0),(2,.ptr 3 0 (0+bb.toNat) 0),(3,aA 3 0),(6,ag (J.ai.length:Int))]),[(3,(dw false J))],(⟨hg,4,[[an hk,aj 1 0 aC.length,aj 2 0 ak.length,aj 3 0 v.length]]⟩::⟨0,1,List.map aY aC⟩::⟨0,2,List.map a7 ak⟩::⟨0,5,a1 4 v hi⟩::List.map bo aZ)⟩:St)) (fun(v:List ad)=>aU aZ dh v) (fun(v:List ad)=>aV aZ dh v) hw (dC []) jE (fun aE a0=> ?_)
   replace h:=h aE a0
   unfold IL at h
   obtain⟨p1,h⟩:=h
   refine cB [] [4] ((decide ((nth aE bb).af<(J.ai.length:Int)))=true) ?_ (fun iJ=> ?_)
   ·
    replace h:=p1
    obtain⟨mb,h⟩:=h
    refine cB [(40,an (decide ((nth aE bb).af<(J.ai.length:Int))))] [4] (True) ?_ (fun gW=> ?_)
    ·
     replace h:=mb
     refine bM [] 8 ?_
     have iw:=h
     refine iL 4 (some 38) [(37,.ptr 3 0 (0+bb.toNat) 1),(36,.ptr 3 0 (0+bb.toNat) 0),(35,.ptr 3 0 (0+bb.toNat) 0)] (a1 4 aE hi) bb 3 1 0 (ag (nth aE bb).af) (dO iw.1 iw.2) ?_
     exact b6 [(40,an (decide ((nth aE bb).af<(J.ai.length:Int)))),(39,ag (J.ai.length:Int))] trivial
    refine dI (fun h6=> ?_) (fun h6=> ?_)
    ·
     refine eo ?_
     exact ci.normal (by simp only[fD,h6]<;>rfl) ed
    ·
     replace h:=h h6
     refine iZ 2 ?_
     refine ci.exit ?_
     refine d_.exit ?_
     refine cm.here ?_
     refine eb.normal ?_
     refine bM [] 12 ?_
     obtain⟨ke,h⟩:=h
     refine tu 2 (some 91) [(90,.ptr 3 0 (0+bb.toNat) 0)] [.ptr 3 0 (0+bb.toNat) 0] _ (IH bb hg hk aC ak aE hi aZ ke) (fun r H' ak=>by obtain⟨_,_,_,rfl,_⟩:=ak;rfl) ?_
     rintro r H' ⟨Aa,i14,yc,rfl,rfl,hR⟩
     replace h:=h Aa i14 yc hR
     refine dY [] ?_
     refine AW (t0) [] ?_
     exact⟨Aa,i14,yc,rfl,rfl,h⟩
   replace h:=h iJ
   refine fs 3 ?_
   obtain⟨lH,h⟩:=h
   refine cB [(9,ag (nth aE bb).af)] [4] (True) ?_ (fun hA=> ?_)
   ·
    replace h:=lH
    refine bM [] 9 ?_
    have ix:=h
    refine iL 4 (some 44) [(43,.ptr 3 0 (0+bb.toNat) 1),(42,.ptr 3 0 (0+bb.toNat) 0),(41,.ptr 3 0 (0+bb.toNat) 0)] (a1 4 aE hi) bb 3 1 0 (ag (nth aE bb).af) (dO ix.1 ix.2) ?_
    exact b6 [(9,ag (nth aE bb).af)] trivial
   unfold IK at h
   obtain⟨o8,h⟩:=h
   refine cB [] [0,1,4] ((!((!(nth (aZ.getD (nth hi bb) []) (nth aE bb).af)) || ((nth aC (nth J.ai (nth aE bb).af)) || ((decide ((nth aE bb).af<(IntKind.i64.wrap ((J.ai.length:Int) - 1))))&&(!(nth (aZ.getD (nth hi bb) []) (IntKind.i64.wrap ((nth aE bb).af+1))))))))=true) ?_ (fun kB=> ?_)
   ·
    replace h:=o8
    obtain⟨ld,h⟩:=h
    refine cB [(82,an ((!(nth (aZ.getD (nth hi bb) []) (nth aE bb).af)) || ((nth aC (nth J.ai (nth aE bb).af)) || ((decide ((nth aE bb).af<(IntKind.i64.wrap ((J.ai.length:Int) - 1))))&&(!(nth (aZ.getD (nth hi bb) []) (IntKind.i64.wrap ((nth aE bb).af+1))))))))] [0,1,4] (True) ?_ (fun jW=> ?_)
    ·
     replace h:=ld
     refine nl [] 10 adM adN [] ?_
     obtain⟨lc,h⟩:=h
     refine nV 4 (some 48) [(47,.ptr 3 0 (0+bb.toNat) 2),(46,.ptr 3 0 (0+bb.toNat) 0),(45,.ptr 3 0 (0+bb.toNat) 0)] (a1 4 aE hi) bb 36 2 0 (aj ((nth hi bb)+4) 0 (nth aE bb).ac.length) (dO lc.1 lc.2) ?_
     obtain⟨⟨ic,afT⟩,h⟩:=h
     refine vr 2 (some 50) [(49,ag (nth aE bb).af)] aZ (nth hi bb) 4 ic afT ?_
     obtain⟨jC,h⟩:=h
     refine z5 1 (some 51) [] aZ (nth hi bb) (nth aE bb).af 4 jC.1 jC.2 ?_
     refine p7 2 53 (!(nth (aZ.getD (nth hi bb) []) (nth aE bb).af)) [(52,an (!(nth (aZ.getD (nth hi bb) []) (nth aE bb).af)))] (fun g_=> ?_) (fun g_=> ?_)
     ·
      exact kY ([(82,an true)]++gx [81,80,79,78,77,76,75,74,73,72,71,70,69,68,67]++[(66,an true),(65,an true)]++gx [64,63,62,61,60,59,58,57,56,55,54]) trivial (by simp only[fD,iJ,g_]<;>kernel_rfl)
     ·
      replace h:=h g_
      refine C4 4 (some 57) (aj 1 0 aC.length) [(56,.ptr 0 hg 0 1),(55,.ptr 0 hg 0 0),(54,.ptr 0 hg 0 0)] (φ:=hg=hg) rfl ?_
      obtain⟨nf,h⟩:=h
      refine sr 4 (some 61) [(60,ag (nth aE bb).af),(59,bL c_ J.ai),(58,aA 3 0)] c_ J.ai 1 nf ?_
      obtain⟨Tj,h⟩:=h
      refine vq 2 (some 63) [(62,ag (nth J.ai (nth aE bb).af))] 1 0 1 Tj ?_
      refine xP 1 (some 64) [] aY aC (nth J.ai (nth aE bb).af) 4 0 0 (an (nth aC (nth J.ai (nth aE bb).af))) (by simpa using Tj.2) ?_
      refine p7 2 66 (nth aC (nth J.ai (nth aE bb).af)) [(65,an (nth aC (nth J.ai (nth aE bb).af)))] (fun iy=> ?_) (fun iy=> ?_)
      ·
       exact kY ([(82,an true)]++gx [81,80,79,78,77,76,75,74,73,72,71,70,69,68,67]) trivial (by simp only[fD,iJ,g_,iy]<;>kernel_rfl)
      ·
       replace h:=h iy
       refine p7 5 71 (decide ((nth aE bb).af<(IntKind.i64.wrap ((J.ai.length:Int) - 1)))) [(70,an (decide ((nth aE bb).af<(IntKind.i64.wrap ((J.ai.length:Int) - 1))))),(69,ag (IntKind.i64.wrap ((J.ai.length:Int) - 1))),(68,ag (J.ai.length:Int)),(67,ag (nth aE bb).af)] (fun ie=> ?_) (fun ie=> ?_)
       ·
        replace h:=h ie
        obtain⟨nP,h⟩:=h
        refine nV 4 (some 75) [(74,.ptr 3 0 (0+bb.toNat) 2),(73,.ptr 3 0 (0+bb.toNat) 0),(72,.ptr 3 0 (0+bb.toNat) 0)] (a1 4 aE hi) bb 36 2 0 (aj ((nth hi bb)+4) 0 (nth aE bb).ac.length) (dO nP.1 nP.2) ?_
        obtain⟨⟨kC,afV⟩,h⟩:=h
        refine vr 3 (some 78) [(77,ag (IntKind.i64.wrap ((nth aE bb).af+1))),(76,ag (nth aE bb).af)] aZ (nth hi bb) 4 kC afV ?_
        have mC:=h
        refine z5 1 (some 79) [] aZ (nth hi bb) (IntKind.i64.wrap ((nth aE bb).af+1)) 4 mC.1 mC.2 ?_
        exact kY [(82,an (!(nth (aZ.getD (nth hi bb) []) (IntKind.i64.wrap ((nth aE bb).af+1))))),(81,an (!(nth (aZ.getD (nth hi bb) []) (IntKind.i64.wrap ((nth aE bb).af+1))))),(80,an (!(nth (aZ.getD (nth hi bb) []) (IntKind.i64.wrap ((nth aE bb).af+1)))))] trivial (by simp only[fD,iJ,g_,iy,ie]<;>kernel_rfl)
       ·
        exact kY ([(82,an false),(81,an false)]++gx [80,79,78,77,76,75,74,73,72]) trivial (by simp only[fD,iJ,g_,iy,ie]<;>kernel_rfl)
    refine dI (fun jD=> ?_) (fun jD=> ?_)
    ·
     replace h:=h jD
     refine hr ?_
     refine ci.ret ?_
     refine cm.ret ?_
     refine d_.ret ?_
     refine cm.ret ?_
     refine eb.ret ?_
     refine mH (t0) [] ?_
     exact⟨aE,hi,aZ,rfl,rfl,h⟩
    ·
     refine eo ?_
     exact ci.normal (by simp only[fD,iJ,jD]<;>rfl) ed
   replace h:=h kB
   unfold IJ at h
   refine bM [] 11 ?_
   obtain⟨ha,h⟩:=h
   refine iL 4 (some 86) [(85,.ptr 3 0 (0+bb.toNat) 1),(84,.ptr 3 0 (0+bb.toNat) 0),(83,.ptr 3 0 (0+bb.toNat) 0)] (a1 4 aE hi) bb 3 1 0 (ag (nth aE bb).af) (dO ha.1 ha.2) ?_
   obtain⟨lf,h⟩:=h
   refine kf 4 none [(89,.ptr 3 0 (0+bb.toNat) 1),(88,.ptr 3 0 (0+bb.toNat) 0),(87,ag (IntKind.i64.wrap ((nth aE bb).af+1)))] (a1 4 aE hi) bb 1 1 0 [ag (IntKind.i64.wrap ((nth aE bb).af+1))] 3 (a1 4 (aE.set bb.toNat (ad.mk (nth aE bb).aq (IntKind.i64.wrap ((nth aE bb).af+1)) (nth aE bb).ac (nth aE bb).ar (nth aE bb).au)) hi) (dO lf.1 lf.2) (kq lf.1 lf.2) ?_
   refine dY [] ?_
   refine cm.normal ?_
   exact d_.again (aE.set bb.toNat (ad.mk (nth aE bb).aq (IntKind.i64.wrap ((nth aE bb).af+1)) (nth aE bb).ac (nth aE bb).ar (nth aE bb).au)) h (hq (s':=⟨(bi 92 [(1,.ptr 0 hg 0 0),(2,.ptr 3 0 (0+bb.toNat) 0),(3,aA 3 0),(6,ag (J.ai.length:Int))]),[(3,(dw false J))],(⟨hg,4,[[an hk,aj 1 0 aC.length,aj 2 0 ak.length,aj 3 0 aE.length]]⟩::⟨0,1,List.map aY aC⟩::⟨0,2,List.map a7 ak⟩::⟨0,5,a1 4 (aE.set bb.toNat (ad.mk (nth aE bb).aq (IntKind.i64.wrap ((nth aE bb).af+1)) (nth aE bb).ac (nth aE bb).ar (nth aE bb).au)) hi⟩::List.map bo aZ)⟩) (dC (n:=92) (A':=[(1,.ptr 0 hg 0 0),(2,.ptr 3 0 (0+bb.toNat) 0),(3,aA 3 0),(6,ag (J.ai.length:Int))]) (L':=[(3,(dw false J))]) []) (congrArg (fun z=>(⟨(bi 92 [(1,.ptr 0 hg 0 0),(2,.ptr 3 0 (0+bb.toNat) 0),(3,aA 3 0),(6,ag (J.ai.length:Int))]),[(3,(dw false J))],(⟨hg,4,[[an hk,aj 1 0 aC.length,aj 2 0 ak.length,aj 3 0 z]]⟩::⟨0,1,List.map aY aC⟩::⟨0,2,List.map a7 ak⟩::⟨0,5,a1 4 (aE.set bb.toNat (ad.mk (nth aE bb).aq (IntKind.i64.wrap ((nth aE bb).af+1)) (nth aE bb).ac (nth aE bb).ar (nth aE bb).au)) hi⟩::List.map bo aZ)⟩:St)) (show aE.length=(aE.set bb.toNat (ad.mk (nth aE bb).aq (IntKind.i64.wrap ((nth aE bb).af+1)) (nth aE bb).ac (nth aE bb).ar (nth aE bb).au)).length by simp)))
 replace h:=h fP
 unfold IM at h
 obtain⟨mE,h⟩:=h
 obtain⟨vw,lg⟩: ∃w:List (List Bool),(bif (nth aC (nth J.ai dh)) then(aZ.set (nth hi bb) ((aZ.getD (nth hi bb) []).set dh.toNat true)) else aZ)=w:=⟨_,rfl⟩
 refine fa [] [7] id (fun _=>(⟨hg,4,[[an hk,aj 1 0 aC.length,aj 2 0 ak.length,aj 3 0 hw.length]]⟩::⟨0,1,List.map aY aC⟩::⟨0,2,List.map a7 ak⟩::⟨0,5,a1 4 hw hi⟩::List.map bo vw)) (True) ?_ (fun nQ=> ?_)
 ·
  replace h:=mE
  refine fs 1 ?_
  obtain⟨lI,h⟩:=h
  refine cB [(7,ag dh),(8,ag (nth J.ai dh))] [7] (True) ?_ (fun me=> ?_)
  ·
   replace h:=lI
   refine bM [] 4 ?_
   have mD:=h
   refine li 2 (some 19) [(18,ag dh)] c_ J.ai 1 mD ?_
   exact b6 [(8,ag (nth J.ai dh)),(7,ag dh),(20,ag (nth J.ai dh))] trivial
  obtain⟨sj,h⟩:=h
  refine cB [(27,an (nth aC (nth J.ai dh)))] [1,1,7] (True) ?_ (fun ng=> ?_)
  ·
   replace h:=sj
   refine bM [] 5 ?_
   refine nS 4 (some 24) (aj 1 0 aC.length) [(23,.ptr 0 hg 0 1),(22,.ptr 0 hg 0 0),(21,.ptr 0 hg 0 0)] (φ:=hg=hg) rfl ?_
   have Tb:=h
   refine lK 2 (some 26) [(25,ag (nth J.ai dh))] 1 0 1 Tb ?_
   refine P5 1 (some 27) [] aY aC (nth J.ai dh) 4 0 0 (an (nth aC (nth J.ai dh))) (by simpa using Tb.2) ?_
   exact b6 [] trivial
  refine dI (fun nh=> ?_) (fun nh=> ?_)
  ·
   replace h:=h nh
   refine bM [] 6 ?_
   obtain⟨jF,h⟩:=h
   refine iL 4 (some 31) [(30,.ptr 3 0 (0+bb.toNat) 2),(29,.ptr 3 0 (0+bb.toNat) 0),(28,.ptr 3 0 (0+bb.toNat) 0)] (a1 4 hw hi) bb 36 2 0 (aj ((nth hi bb)+4) 0 (nth hw bb).ac.length) (dO jF.1 jF.2) ?_
   obtain⟨⟨p2,afS⟩,h⟩:=h
   refine ab0 2 (some 33) [(32,ag dh)] aZ (nth hi bb) 4 p2 afS ?_
   have mf:=h
   refine ab4 1 none [] aZ (nth hi bb) dh true (fun r=>(⟨hg,4,[[an hk,aj 1 0 aC.length,aj 2 0 ak.length,aj 3 0 hw.length]]⟩::⟨0,1,List.map aY aC⟩::⟨0,2,List.map a7 ak⟩::⟨0,5,a1 4 hw hi⟩::r)) mf.1 mf.2 ?_
   refine dY [] ?_
   refine cm.normal ?_
   exact ci.normal trivial (by simp only[←lg,fP,nh,cond_true,cond_false];exact ed)
  ·
   refine eo ?_
   refine cm.normal ?_
   exact ci.normal trivial (by simp only[←lg,fP,nh,cond_true,cond_false];exact ed)
 replace h:=h vw lg
 refine bM [] 7 ?_
 refine dY [(16,ag (IntKind.i64.wrap (dh+1))),(34,ag (IntKind.i64.wrap (dh+1)))] ?_
 exact d_.again (vw,(IntKind.i64.wrap (dh+1))) h (dC [])
theorem adK (J:Way) (bb:Int) (hg:Nat) (hk:Bool) (aC:List Bool) (ak:List a8) (hw:List ad) (hi:List Nat) (hb:List (List Bool)) (aI:O5 J bb hk aC ak hw hi hb):dH Try.prog 140 [.agg (dw false J),.ptr 0 hg 0 0,.ptr 3 0 (0+bb.toNat) 0] (⟨hg,4,[[an hk,aj 1 0 aC.length,aj 2 0 ak.length,aj 3 0 hw.length]]⟩::⟨0,1,List.map aY aC⟩::⟨0,2,List.map a7 ak⟩::⟨0,5,a1 4 hw hi⟩::List.map bo hb) (fun r H'=> ∃(e4:List ad) (gg:List Nat) (ek:List (List Bool)),r= .tup []∧H'=(⟨hg,4,[[an hk,aj 1 0 aC.length,aj 2 0 ak.length,aj 3 0 e4.length]]⟩::⟨0,1,List.map aY aC⟩::⟨0,2,List.map a7 ak⟩::⟨0,5,a1 4 e4 gg⟩::List.map bo ek)∧zu J bb hk aC ak hw hi hb aC ak e4 gg ek):=adO J bb hg hk aC ak hw hi hb (aa6 J.ai (c7 hk aC ak hw hi hb) (view hw hi hb) hi bb hw) (fun _ k=>cG J.ai.length k) (fun bs _ ws=>aa7 J.ai (c7 hk aC ak hw hi hb) (view hw hi hb) hi bb bs ws) (fun _ _ ws=>((J.ai.length:Int) - (nth ws bb).af).toNat) (by
 unfold II
 obtain⟨F,aT,h1,hs,r3,hL,pK,l4⟩:=aI
 have bf:bb.toNat<hw.length:=by omega
 have dy:=F.oO bf
 have EY: ∀k:Int,0≤k→k.toNat<J.ai.length→0≤nth J.ai k∧(nth J.ai k).toNat<aC.length:=fun k a4 da=>by
  have:=r3 _ (dz da);omega
 intro aG
 refine⟨⟨df (dp _),by rw[Int.toNat_zero,SR];exact dy⟩,fun bs k a0=>⟨fun Bw=> ?_,fun Bw=> ?_⟩⟩
 ·obtain⟨a0,eE⟩:=a0
  have jP: ¬k<(J.ai.length:Int):=by simpa using Bw
  have a4:=a0.1
  rw[SU hL (by omega)] at eE
  have wx:(nN J.ai (c7 hk aC ak hw hi hb) (nth (view hw hi hb) bb)).length=J.ai.length:=by unfold nN;rw[List.length_zipWith];omega
  refine⟨⟨(nth (view hw hi hb) bb).af,Lo pK l4,eE⟩,fun ws de=> ?_⟩
  obtain⟨g,sX,gn⟩:=de
  unfold IL
  have br:(nth ws bb).af=g:=gn.af
  have e2:bs.getD (nth hi bb) []=nN J.ai (c7 hk aC ak hw hi hb) (nth (view hw hi hb) bb):=gn.ac
  have dW:(nth ws bb).ac.length=J.ai.length:=gn.qm.trans wx
  have E6:=sX
  obtain⟨bB,aR,-⟩:=E6
  have ks:=gn.fo
  have gS:=gn.qN
  have bI:IntKind.i64.wrap ((J.ai.length:Int) - 1)=(J.ai.length:Int) - 1:=fG (by omega) (by omega)
  rw[br]
  refine⟨⟨ks,fun hc=>⟨⟨gn.G,aT,by omega⟩,fun w i b kv=> ?_⟩⟩,fun hc=>⟨ks,?_⟩⟩
  ·obtain⟨G,hv⟩:=kv
   have nt:=gn.again G hv
   refine⟨nt.G,?_⟩
   rw[nt.gZ,gn.xc]
   have fV:nC J.ai (c7 hk aC ak hw hi hb) (nN J.ai (c7 hk aC ak hw hi hb) (nth (view hw hi hb) bb)) g=false:=by unfold nC;rw[hc];rfl
   have hW:=EJ hs sX fV
   have Br: ¬g<(J.ai.length:Int):=by simpa using hc
   congr 1
   rw[O3,if_pos (by omega),wx]
  ·have LS:g<(J.ai.length:Int):=by simpa using hc
   unfold IK
   rw[br,e2,dW]
   have LK:=ae9 (f:=c7 hk aC ak hw hi hb) (ac:=nN J.ai (c7 hk aC ak hw hi hb) (nth (view hw hi hb) bb)) hs hc
   refine⟨⟨⟨ks,⟨gS,bB,by omega⟩,⟨gS,by omega⟩,fun _=>⟨⟨bB,by omega⟩,EY g bB (by omega),fun _ aL=>⟨ks,?_⟩⟩⟩,fun XW=> ?_⟩,fun sY=> ?_⟩
   ·rw[bI] at aL
    have aL:g<(J.ai.length:Int) - 1:=by simpa using aL
    rw[fG (by omega) (by omega)]
    exact⟨⟨gS,by omega,by omega⟩,gS,by omega⟩
   ·have bk:nC J.ai (c7 hk aC ak hw hi hb) (nN J.ai (c7 hk aC ak hw hi hb) (nth (view hw hi hb) bb)) g=false:=by
     have h2:(!nC J.ai (c7 hk aC ak hw hi hb) (nN J.ai (c7 hk aC ak hw hi hb) (nth (view hw hi hb) bb)) g)=true:=LK.symm.trans XW
     simpa using h2
    have hW:=EJ hs sX bk
    refine⟨gn.G,?_⟩
    rw[gn.gZ]
    congr 1
    rw[O3,if_neg (by omega),hW]
   ·have bk:nC J.ai (c7 hk aC ak hw hi hb) (nN J.ai (c7 hk aC ak hw hi hb) (nth (view hw hi hb) bb)) g=true:=by
     have h2:(!nC J.ai (c7 hk aC ak hw hi hb) (nN J.ai (c7 hk aC ak hw hi hb) (nth (view hw hi hb) bb)) g)=false:=LK.symm.trans (not_eq sY)
     simpa using h2
    obtain⟨bk,_⟩:=Lp hs sX bk
    unfold IJ
    rw[br]
    have b_:IntKind.i64.wrap (g+1)=g+1:=fG (by omega) (by omega)
    have x3:=gn.Qa (IntKind.i64.wrap (g+1))
    refine⟨ks,ks,⟨_,bk,x3⟩,?_⟩
    have im:=x3.af
    show((J.ai.length:Int) - (nth (ws.set bb.toNat _) bb).af).toNat<((J.ai.length:Int) - (nth ws bb).af).toNat
    rw[im,br]
    show((J.ai.length:Int) - IntKind.i64.wrap (g+1)).toNat<_
    rw[b_];omega
 ·obtain⟨a0,eE⟩:=a0
  have kO:k<(J.ai.length:Int):=by simpa using Bw
  have a4:=a0.1
  have BN:(kh J.ai (c7 hk aC ak hw hi hb) (nth (view hw hi hb) bb).ac k.toNat).length=J.ai.length:=by rw[Jl hL (by omega),hL]
  have e2:bs.getD (nth hi bb) []=kh J.ai (c7 hk aC ak hw hi hb) (nth (view hw hi hb) bb).ac k.toNat:=eE.ac
  have dW:(nth hw bb).ac.length=J.ai.length:=eE.qm.trans BN
  have gS:=eE.qN
  unfold IM
  rw[e2]
  refine⟨⟨⟨a4,by omega⟩,EY k a4 (by omega),fun _=>⟨eE.fo,⟨gS,a4,by omega⟩,gS,by omega⟩⟩,fun w e4=> ?_⟩
  have bk:=cO (cw aG) a0 Bw rfl
  refine⟨⟨bk.1,?_⟩,bk.2⟩
  rw[iU (cw aG) a4 kO,show(k+1).toNat=k.toNat+1 by omega,←SV hL (by omega),←e4]
  have pE:=SS (s:=J.ai) (f:=c7 hk aC ak hw hi hb) (b:=(nth (view hw hi hb) bb).ac) hL (show k.toNat<_ by omega)
  rw[jy a4] at pE
  have nG:nth aC (nth J.ai k)=eh (c7 hk aC ak hw hi hb) (J.ai[k.toNat]'(by omega)):=by
   unfold eh
   rw[←gk (by omega)];rfl
  rw[nG]
  cases j8:eh (c7 hk aC ak hw hi hb) (J.ai[k.toNat]'(by omega)) with
  | true=>
   rw[Bool.or_true]
   exact eE.HR _ (by rw[List.length_set])
  | false=>
   rw[Bool.or_false]
   have:(kh J.ai (c7 hk aC ak hw hi hb) (nth (view hw hi hb) bb).ac k.toNat).set k.toNat ((nth (view hw hi hb) bb).ac[k.toNat]'(by omega))=kh J.ai (c7 hk aC ak hw hi hb) (nth (view hw hi hb) bb).ac k.toNat:=by
    rw[←pE,gk (xs:=kh _ _ _ _) (by rw[BN];omega)];exact List.set_getElem_self _
   rw[this];exact eE)
noncomputable def ad0:Code:=iE Try.f98
def ad3:List Item:=[ao 0,ao 1,ao 2,ao 3,ao 4,ao 5,ao 6,ao 7,ao 8,ao 9,ao 10,ao 11,ao 12,ao 13,ao 14,ao 15,ao 16]
def ad4:List (List Nat):=[[],[0],[0,1],[0,1,2],rg 0 4,rg 0 5,rg 0 6,rg 0 7,rg 0 8,rg 0 9,rg 0 6,rg 0 6++[10],rg 0 6++[10,11],rg 0 6++[10,11,12],rg 0 14,rg 0 15,rg 0 16]
def ad1:List Item:=[ao 0,ao 1,ao 2,ao 3,ao 4,ao 5]
def ad2:List (List Nat):=[[],[],[1],[1,2],[],rg 0 5]
def IT (J:az) (aC:List Bool) (b7:List Nat) (ae:Int) (aE:List ad):Prop:=
  (((nth aE ae).aq !=4)&&(nth aC (nth (nth J.O ae).ai 0)))=true→(aE.length=b7.length∧ae.toNat<aE.length)∧((aE.set ae.toNat (ad.mk 4 (nth aE ae).af (nth aE ae).ac (nth aE ae).ar (nth aE ae).au)).length=b7.length∧ae.toNat<(aE.set ae.toNat (ad.mk 4 (nth aE ae).af (nth aE ae).ac (nth aE ae).ar (nth aE ae).au)).length)
def IU (b7:List Nat) (ae:Int) (av:List ad):Prop:=
  ((av.set ae.toNat (ad.mk 1 (nth av ae).af (nth av ae).ac (nth av ae).ar (nth av ae).au)).set ae.toNat (ad.mk 2 (nth (av.set ae.toNat (ad.mk 1 (nth av ae).af (nth av ae).ac (nth av ae).ar (nth av ae).au)) ae).af (nth (av.set ae.toNat (ad.mk 1 (nth av ae).af (nth av ae).ac (nth av ae).ar (nth av ae).au)) ae).ac (nth (av.set ae.toNat (ad.mk 1 (nth av ae).af (nth av ae).ac (nth av ae).ar (nth av ae).au)) ae).ar (nth (av.set ae.toNat (ad.mk 1 (nth av ae).af (nth av ae).ac (nth av ae).ar (nth av ae).au)) ae).au)).length=b7.length∧ae.toNat<((av.set ae.toNat (ad.mk 1 (nth av ae).af (nth av ae).ac (nth av ae).ar (nth av ae).au)).set ae.toNat (ad.mk 2 (nth (av.set ae.toNat (ad.mk 1 (nth av ae).af (nth av ae).ac (nth av ae).ar (nth av ae).au)) ae).af (nth (av.set ae.toNat (ad.mk 1 (nth av ae).af (nth av ae).ac (nth av ae).ar (nth av ae).au)) ae).ac (nth (av.set ae.toNat (ad.mk 1 (nth av ae).af (nth av ae).ac (nth av ae).ar (nth av ae).au)) ae).ar (nth (av.set ae.toNat (ad.mk 1 (nth av ae).af (nth av ae).ac (nth av ae).ar (nth av ae).au)) ae).au)).length
def IV (J:az) (hk:Bool) (aC:List Bool) (ak:List a8) (aZ:List (List Bool)) (b7:List Nat) (ae:Int) (av:List ad):Prop:=
  (gl J (Frame.mk hk aC ak (view (av.set ae.toNat (ad.mk 1 (nth av ae).af (nth av ae).ac (nth av ae).ar (nth av ae).au)) b7 aZ)) ae)=true→((av.set ae.toNat (ad.mk 1 (nth av ae).af (nth av ae).ac (nth av ae).ar (nth av ae).au)).length=b7.length∧ae.toNat<(av.set ae.toNat (ad.mk 1 (nth av ae).af (nth av ae).ac (nth av ae).ar (nth av ae).au)).length)∧(IU b7 ae av)
def IW (J:az) (hk:Bool) (aC:List Bool) (ak:List a8) (aZ:List (List Bool)) (b7:List Nat) (ae:Int) (av:List ad):Prop:=
  (aC.length≤4611686018427387904∧ak.length≤4611686018427387904∧(kl (av.set ae.toNat (ad.mk 1 (nth av ae).af (nth av ae).ac (nth av ae).ar (nth av ae).au)) b7 aZ∧(av.set ae.toNat (ad.mk 1 (nth av ae).af (nth av ae).ac (nth av ae).ar (nth av ae).au)).length≤4611686018427387904∧(∀x∈aZ,List.length x≤4611686018427387904))∧xo J (Frame.mk hk aC ak (view (av.set ae.toNat (ad.mk 1 (nth av ae).af (nth av ae).ac (nth av ae).ar (nth av ae).au)) b7 aZ)) ae)∧(IV J hk aC ak aZ b7 ae av)
def IX (ay:dQ Prop) (aB:dQ Nat) (J:az) (hk:Bool) (aC:List Bool) (ak:List a8) (aZ:List (List Bool)) (b7:List Nat) (ae:Int) (aE iB:List ad):Prop:=
  (((nth iB ae).aq==4)=true→(O5 (nth J.O ae) ae hk aC ak iB b7 aZ)∧(∀(xU:List ad) (i55:List Nat) (vO:List (List Bool)),zu (nth J.O ae) ae hk aC ak iB b7 aZ aC ak xU i55 vO→(ay vO i55 (IntKind.i64.wrap (ae+1)) xU∧aB vO i55 (IntKind.i64.wrap (ae+1)) xU<aB aZ b7 ae aE)))∧(((nth iB ae).aq==4)=false→ay aZ b7 (IntKind.i64.wrap (ae+1)) iB∧aB aZ b7 (IntKind.i64.wrap (ae+1)) iB<aB aZ b7 ae aE)
def IY (ay:dQ Prop) (aB:dQ Nat) (J:az) (hk:Bool) (aC:List Bool) (ak:List a8) (aZ:List (List Bool)) (b7:List Nat) (ae:Int) (aE av:List ad):Prop:=
  (((av.length=b7.length∧ae.toNat<av.length)∧(((nth av ae).aq==1)=false→av.length=b7.length∧ae.toNat<av.length))∧((((nth av ae).aq==1) || ((nth av ae).aq==2))=true→(av.length=b7.length∧ae.toNat<av.length)∧(IW J hk aC ak aZ b7 ae av)))∧(∀iB:List ad,(bif (((nth av ae).aq==1) || ((nth av ae).aq==2)) then(bif (gl J (Frame.mk hk aC ak (view (av.set ae.toNat (ad.mk 1 (nth av ae).af (nth av ae).ac (nth av ae).ar (nth av ae).au)) b7 aZ)) ae) then(((av.set ae.toNat (ad.mk 1 (nth av ae).af (nth av ae).ac (nth av ae).ar (nth av ae).au)).set ae.toNat (ad.mk 2 (nth (av.set ae.toNat (ad.mk 1 (nth av ae).af (nth av ae).ac (nth av ae).ar (nth av ae).au)) ae).af (nth (av.set ae.toNat (ad.mk 1 (nth av ae).af (nth av ae).ac (nth av ae).ar (nth av ae).au)) ae).ac (nth (av.set ae.toNat (ad.mk 1 (nth av ae).af (nth av ae).ac (nth av ae).ar (nth av ae).au)) ae).ar (nth (av.set ae.toNat (ad.mk 1 (nth av ae).af (nth av ae).ac (nth av ae).ar (nth av ae).au)) ae).au)).set ae.toNat (ad.mk (nth ((av.set ae.toNat (ad.mk 1 (nth av ae).af (nth av ae).ac (nth av ae).ar (nth av ae).au)).set ae.toNat (ad.mk 2 (nth (av.set ae.toNat (ad.mk 1 (nth av ae).af (nth av ae).ac (nth av ae).ar (nth av ae).au)) ae).af (nth (av.set ae.toNat (ad.mk 1 (nth av ae).af (nth av ae).ac (nth av ae).ar (nth av ae).au)) ae).ac (nth (av.set ae.toNat (ad.mk 1 (nth av ae).af (nth av ae).ac (nth av ae).ar (nth av ae).au)) ae).ar (nth (av.set ae.toNat (ad.mk 1 (nth av ae).af (nth av ae).ac (nth av ae).ar (nth av ae).au)) ae).au)) ae).aq (nth ((av.set ae.toNat (ad.mk 1 (nth av ae).af (nth av ae).ac (nth av ae).ar (nth av ae).au)).set ae.toNat (ad.mk 2 (nth (av.set ae.toNat (ad.mk 1 (nth av ae).af (nth av ae).ac (nth av ae).ar (nth av ae).au)) ae).af (nth (av.set ae.toNat (ad.mk 1 (nth av ae).af (nth av ae).ac (nth av ae).ar (nth av ae).au)) ae).ac (nth (av.set ae.toNat (ad.mk 1 (nth av ae).af (nth av ae).ac (nth av ae).ar (nth av ae).au)) ae).ar (nth (av.set ae.toNat (ad.mk 1 (nth av ae).af (nth av ae).ac (nth av ae).ar (nth av ae).au)) ae).au)) ae).af (nth ((av.set ae.toNat (ad.mk 1 (nth av ae).af (nth av ae).ac (nth av ae).ar (nth av ae).au)).set ae.toNat (ad.mk 2 (nth (av.set ae.toNat (ad.mk 1 (nth av ae).af (nth av ae).ac (nth av ae).ar (nth av ae).au)) ae).af (nth (av.set ae.toNat (ad.mk 1 (nth av ae).af (nth av ae).ac (nth av ae).ar (nth av ae).au)) ae).ac (nth (av.set ae.toNat (ad.mk 1 (nth av ae).af (nth av ae).ac (nth av ae).ar (nth av ae).au)) ae).ar (nth (av.set ae.toNat (ad.mk 1 (nth av ae).af (nth av ae).ac (nth av ae).ar (nth av ae).au)) ae).au)) ae).ac true (nth ((av.set ae.toNat (ad.mk 1 (nth av ae).af (nth av ae).ac (nth av ae).ar (nth av ae).au)).set ae.toNat (ad.mk 2 (nth (av.set ae.toNat (ad.mk 1 (nth av ae).af (nth av ae).ac (nth av ae).ar (nth av ae).au)) ae).af (nth (av.set ae.toNat (ad.mk 1 (nth av ae).af (nth av ae).ac (nth av ae).ar (nth av ae).au)) ae).ac (nth (av.set ae.toNat (ad.mk 1 (nth av ae).af (nth av ae).ac (nth av ae).ar (nth av ae).au)) ae).ar (nth (av.set ae.toNat (ad.mk 1 (nth av ae).af (nth av ae).ac (nth av ae).ar (nth av ae).au)) ae).au)) ae).au)) else(av.set ae.toNat (ad.mk 1 (nth av ae).af (nth av ae).ac (nth av ae).ar (nth av ae).au))) else av)=iB→((iB.length=b7.length∧ae.toNat<iB.length)∧(IX ay aB J hk aC ak aZ b7 ae aE iB)))
def IZ (ay:dQ Prop) (aB:dQ Nat) (J:az) (hk:Bool) (aC:List Bool) (ak:List a8) (aZ:List (List Bool)) (b7:List Nat) (ae:Int) (aE:List ad):Prop:=
  (((aE.length=b7.length∧ae.toNat<aE.length)∧(((nth aE ae).aq !=4)=true→((0:Int)≤0∧(0:Int).toNat<(nth J.O ae).ai.length)∧(0≤(nth (nth J.O ae).ai 0)∧(nth (nth J.O ae).ai 0).toNat<aC.length)))∧(IT J aC b7 ae aE))∧(∀av:List ad,(bif (((nth aE ae).aq !=4)&&(nth aC (nth (nth J.O ae).ai 0))) then((aE.set ae.toNat (ad.mk 4 (nth aE ae).af (nth aE ae).ac (nth aE ae).ar (nth aE ae).au)).set ae.toNat (ad.mk (nth (aE.set ae.toNat (ad.mk 4 (nth aE ae).af (nth aE ae).ac (nth aE ae).ar (nth aE ae).au)) ae).aq (nth (aE.set ae.toNat (ad.mk 4 (nth aE ae).af (nth aE ae).ac (nth aE ae).ar (nth aE ae).au)) ae).af (nth (aE.set ae.toNat (ad.mk 4 (nth aE ae).af (nth aE ae).ac (nth aE ae).ar (nth aE ae).au)) ae).ac (nth (aE.set ae.toNat (ad.mk 4 (nth aE ae).af (nth aE ae).ac (nth aE ae).ar (nth aE ae).au)) ae).ar 0)) else aE)=av→(IY ay aB J hk aC ak aZ b7 ae aE av))
def I0 (ay:dQ Prop) (aB:dQ Nat) (J:az) (hk:Bool) (aC:List Bool) (ak:List a8) (hw:List ad) (hi:List Nat) (hb aZ:List (List Bool)) (b7:List Nat) (ae:Int) (aE:List ad):Prop:=
  ((decide (ae<(hw.length:Int)))=false→zS J hk aC ak hw hi hb aC ak aE b7 aZ)∧((decide (ae<(hw.length:Int)))=true→(0≤ae∧ae.toNat<aE.length)∧((0≤ae∧ae.toNat<J.O.length)∧(((aE.length=b7.length∧ae.toNat<aE.length)∧(((nth aE ae).aq==0)=true→ay aZ b7 (IntKind.i64.wrap (ae+1)) aE∧aB aZ b7 (IntKind.i64.wrap (ae+1)) aE<aB aZ b7 ae aE))∧((!((nth aE ae).aq==0))=true→IZ ay aB J hk aC ak aZ b7 ae aE))))
def IS (J:az) (hg:Nat) (hk:Bool) (aC:List Bool) (ak:List a8) (hw:List ad) (hi:List Nat) (hb:List (List Bool)) (ay:dQ Prop) (aB:dQ Nat):Prop:=
 ay hb hi 0 hw∧ ∀(aZ:List (List Bool)) (b7:List Nat) (ae:Int) (aE:List ad),ay aZ b7 ae aE→(I0 ay aB J hk aC ak hw hi hb aZ b7 ae aE)
theorem ad5 (J:az) (hg:Nat) (hk:Bool) (aC:List Bool) (ak:List a8) (hw:List ad) (hi:List Nat) (hb:List (List Bool)) (ay:dQ Prop) (aB:dQ Nat) (h:IS J hg hk aC ak hw hi hb ay aB):dH Try.prog 98 [.agg (bg false J),.ptr 0 hg 0 0] (⟨hg,4,[[an hk,aj 1 0 aC.length,aj 2 0 ak.length,aj 3 0 hw.length]]⟩::⟨0,1,List.map aY aC⟩::⟨0,2,List.map a7 ak⟩::⟨0,5,a1 4 hw hi⟩::List.map bo hb) (fun r H'=> ∃(e4:List ad) (gg:List Nat) (ek:List (List Bool)),r= .tup []∧H'=(⟨hg,4,[[an hk,aj 1 0 aC.length,aj 2 0 ak.length,aj 3 0 e4.length]]⟩::⟨0,1,List.map aY aC⟩::⟨0,2,List.map a7 ak⟩::⟨0,5,a1 4 e4 gg⟩::List.map bo ek)∧zS J hk aC ak hw hi hb aC ak e4 gg ek):=by
 unfold IS at h
 refine dH.go (fn:=Try.f98) [(0,.agg (bg false J)),(1,.ptr 0 hg 0 0)] Try.func98 (fun _ _=> ?_)
 show WpS _ (bT ad0 1) _ ⟨bi 91 [(0,.agg (bg false J)),(1,.ptr 0 hg 0 0)],[],(⟨hg,4,[[an hk,aj 1 0 aC.length,aj 2 0 ak.length,aj 3 0 hw.length]]⟩::⟨0,1,List.map aY aC⟩::⟨0,2,List.map a7 ak⟩::⟨0,5,a1 4 hw hi⟩::List.map bo hb)⟩
 refine sI [] 0 [(2,aA 2 0)] [1] [0,1,1] (fun L=>(2,(bg false J))::L) id ?_
 refine cB [(11,ag (hw.length:Int)),(12,ag 0)] [2] (True) ?_ (fun q2=> ?_)
 ·
  refine bM [] 1 ?_
  refine nS 4 (some 10) (aj 3 0 hw.length) [(9,.ptr 0 hg 0 3),(8,.ptr 0 hg 0 0),(7,.ptr 0 hg 0 0)] (φ:=hg=hg) rfl ?_
  exact b6 [(12,ag 0),(11,ag (hw.length:Int))] trivial
 refine fs 0 ?_
 obtain⟨kX,h⟩:=h
 refine km (fun(v:List (List Bool)×List Nat×Int×List ad)=>(⟨(bi 91 [(1,.ptr 0 hg 0 0),(2,aA 2 0),(11,ag (hw.length:Int)),(12,ag (v.2.2.1))]),[(2,(bg false J))],(⟨hg,4,[[an hk,aj 1 0 aC.length,aj 2 0 ak.length,aj 3 0 (v.2.2.2).length]]⟩::⟨0,1,List.map aY aC⟩::⟨0,2,List.map a7 ak⟩::⟨0,5,a1 4 (v.2.2.2) (v.2.1)⟩::List.map bo (v.1))⟩:St)) (fun(v:List (List Bool)×List Nat×Int×List ad)=>ay (v.1) (v.2.1) (v.2.2.1) (v.2.2.2)) (fun(v:List (List Bool)×List Nat×Int×List ad)=>aB (v.1) (v.2.1) (v.2.2.1) (v.2.2.2)) (hb,hi,0,hw) (dC []) kX (fun v a0=> ?_)
 obtain⟨aZ,b7,ae,aE⟩:=v
 replace h:=h aZ b7 ae aE a0
 dsimp only
 refine ej [] 2 [(13,an (decide (ae<(hw.length:Int))))] [1] [4] ?_
 unfold I0 at h
 obtain⟨ni,h⟩:=h
 refine cB [] [0,1,4] ((decide (ae<(hw.length:Int)))=true) ?_ (fun q4=> ?_)
 ·
  replace h:=ni
  refine dI (fun cR=> ?_) (fun cR=> ?_)
  ·
   refine eo ?_
   exact ci.normal (by simp only[cR]<;>rfl) ed
  ·
   replace h:=h cR
   refine iZ 0 ?_
   refine ci.exit ?_
   refine d_.exit ?_
   refine cm.here ?_
   refine AW (t0) [] ?_
   exact⟨aE,b7,aZ,rfl,rfl,h⟩
 replace h:=h q4
 refine hJ ?_
 refine fs 1 ?_
 refine ej [] 3 [(4,ag ae),(14,ag ae)] [1] [4] ?_
 obtain⟨nR,h⟩:=h
 refine cB [(5,.ptr 3 0 (0+ae.toNat) 0)] [5] (True) ?_ (fun fP=> ?_)
 ·
  replace h:=nR
  refine bM [] 4 ?_
  refine nS 4 (some 18) (aj 3 0 aE.length) [(17,.ptr 0 hg 0 3),(16,.ptr 0 hg 0 0),(15,.ptr 0 hg 0 0)] (φ:=hg=hg) rfl ?_
  have afO:=h
  refine lK 2 (some 20) [(19,ag ae)] 3 0 5 afO ?_
  exact b6 [(5,.ptr 3 0 (0+ae.toNat) 0)] trivial
 obtain⟨oD,h⟩:=h
 refine fa [(6,aA 6 0)] [6] (fun L=>(6,(dw false (nth J.O ae)))::L) id (True) ?_ (fun fD=> ?_)
 ·
  replace h:=oD
  refine bM [] 5 ?_
  have iJ:=h
  refine li 4 (some 24) [(23,ag ae),(22,bL (dw false) J.O),(21,aA 2 2)] (dw false) J.O 5 iJ ?_
  exact b6 [(6,aA 6 0),(25,.agg (dw false (nth J.O ae)))] trivial
 obtain⟨oC,h⟩:=h
 refine cB [] [7] ((!((nth aE ae).aq==0))=true) ?_ (fun gW=> ?_)
 ·
  replace h:=oC
  obtain⟨q5,h⟩:=h
  refine cB [(30,an ((nth aE ae).aq==0))] [7] (True) ?_ (fun iw=> ?_)
  ·
   replace h:=q5
   refine bM [] 6 ?_
   have h6:=h
   refine iL 4 (some 29) [(28,.ptr 3 0 (0+ae.toNat) 0),(27,.ptr 3 0 (0+ae.toNat) 0),(26,.ptr 3 0 (0+ae.toNat) 0)] (a1 4 aE b7) ae 3 0 0 (ag (nth aE ae).aq) (dO h6.1 h6.2) ?_
   exact b6 [(30,an ((nth aE ae).aq==0))] trivial
  refine dI (fun fI=> ?_) (fun fI=> ?_)
  ·
   replace h:=h fI
   refine iZ 1 ?_
   refine ci.exit ?_
   refine cm.here ?_
   refine eb.normal ?_
   refine bM [] 17 ?_
   refine dY [(12,ag (IntKind.i64.wrap (ae+1))),(90,ag (IntKind.i64.wrap (ae+1)))] ?_
   exact d_.again (aZ,b7,(IntKind.i64.wrap (ae+1)),aE) h (dC [6])
  ·
   refine eo ?_
   exact ci.normal (by simp only[q4,fI]<;>rfl) ed
 replace h:=h gW
 unfold IZ at h
 obtain⟨oB,h⟩:=h
 obtain⟨av,hR⟩: ∃w:List ad,(bif (((nth aE ae).aq !=4)&&(nth aC (nth (nth J.O ae).ai 0))) then((aE.set ae.toNat (ad.mk 4 (nth aE ae).af (nth aE ae).ac (nth aE ae).ar (nth aE ae).au)).set ae.toNat (ad.mk (nth (aE.set ae.toNat (ad.mk 4 (nth aE ae).af (nth aE ae).ac (nth aE ae).ar (nth aE ae).au)) ae).aq (nth (aE.set ae.toNat (ad.mk 4 (nth aE ae).af (nth aE ae).ac (nth aE ae).ar (nth aE ae).au)) ae).af (nth (aE.set ae.toNat (ad.mk 4 (nth aE ae).af (nth aE ae).ac (nth aE ae).ar (nth aE ae).au)) ae).ac (nth (aE.set ae.toNat (ad.mk 4 (nth aE ae).af (nth aE ae).ac (nth aE ae).ar (nth aE ae).au)) ae).ar 0)) else aE)=w:=⟨_,rfl⟩
 refine fa [] [7] id (fun H=>en 3 ⟨0,5,a1 4 av b7⟩ H) (True) ?_ (fun jj=> ?_)
 ·
  replace h:=oB
  obtain⟨kC,h⟩:=h
  refine cB [(47,an (((nth aE ae).aq !=4)&&(nth aC (nth (nth J.O ae).ai 0))))] [7] (True) ?_ (fun mb=> ?_)
  ·
   replace h:=kC
   refine nl [] 7 ad3 ad4 [] ?_
   obtain⟨kB,h⟩:=h
   refine nV 4 (some 34) [(33,.ptr 3 0 (0+ae.toNat) 0),(32,.ptr 3 0 (0+ae.toNat) 0),(31,.ptr 3 0 (0+ae.toNat) 0)] (a1 4 aE b7) ae 3 0 0 (ag (nth aE ae).aq) (dO kB.1 kB.2) ?_
   refine p7 2 36 ((nth aE ae).aq !=4) [(35,an ((nth aE ae).aq !=4))] (fun hA=> ?_) (fun hA=> ?_)
   ·
    replace h:=h hA
    refine C4 4 (some 40) (aj 1 0 aC.length) [(39,.ptr 0 hg 0 1),(38,.ptr 0 hg 0 0),(37,.ptr 0 hg 0 0)] (φ:=hg=hg) rfl ?_
    obtain⟨ix,h⟩:=h
    refine sr 3 (some 43) [(42,bL c_ (nth J.O ae).ai),(41,aA 6 0)] c_ (nth J.O ae).ai 1 ix ?_
    have Te:=h
    refine vq 2 (some 45) [(44,ag (nth (nth J.O ae).ai 0))] 1 0 1 Te ?_
    refine xP 1 (some 46) [] aY aC (nth (nth J.O ae).ai 0) 4 0 0 (an (nth aC (nth (nth J.O ae).ai 0))) (by simpa using Te.2) ?_
    exact kY [(47,an (nth aC (nth (nth J.O ae).ai 0)))] trivial (by simp only[q4,gW,hA]<;>kernel_rfl)
   ·
    exact kY ([(47,an false)]++gx [46,45,44,43,42,41,40,39,38,37]) trivial (by simp only[q4,gW,hA]<;>kernel_rfl)
  unfold IT at h
  refine dI (fun jW=> ?_) (fun jW=> ?_)
  ·
   replace h:=h jW
   obtain⟨ie,h⟩:=h
   refine fa [] [0,1,7] id (fun H=>en 3 ⟨0,5,a1 4 (aE.set ae.toNat (ad.mk 4 (nth aE ae).af (nth aE ae).ac (nth aE ae).ar (nth aE ae).au)) b7⟩ H) (True) ?_ (fun ic=> ?_)
   ·
    replace h:=ie
    refine bM [] 8 ?_
    have g_:=h
    refine kf 4 none [(50,.ptr 3 0 (0+ae.toNat) 0),(49,.ptr 3 0 (0+ae.toNat) 0),(48,.ptr 3 0 (0+ae.toNat) 0)] (a1 4 aE b7) ae 0 1 0 [ag 4] 3 (a1 4 (aE.set ae.toNat (ad.mk 4 (nth aE ae).af (nth aE ae).ac (nth aE ae).ar (nth aE ae).au)) b7) (dO g_.1 g_.2) (kq g_.1 g_.2) ?_
    exact b6 [] trivial
   refine bM [] 9 ?_
   have iy:=h
   refine kf 4 none [(53,.ptr 3 0 (0+ae.toNat) 4),(52,.ptr 3 0 (0+ae.toNat) 0),(51,.ptr 3 0 (0+ae.toNat) 0)] (a1 4 (aE.set ae.toNat (ad.mk 4 (nth aE ae).af (nth aE ae).ac (nth aE ae).ar (nth aE ae).au)) b7) ae 4 1 0 [ag 0] 3 (a1 4 ((aE.set ae.toNat (ad.mk 4 (nth aE ae).af (nth aE ae).ac (nth aE ae).ar (nth aE ae).au)).set ae.toNat (ad.mk (nth (aE.set ae.toNat (ad.mk 4 (nth aE ae).af (nth aE ae).ac (nth aE ae).ar (nth aE ae).au)) ae).aq (nth (aE.set ae.toNat (ad.mk 4 (nth aE ae).af (nth aE ae).ac (nth aE ae).ar (nth aE ae).au)) ae).af (nth (aE.set ae.toNat (ad.mk 4 (nth aE ae).af (nth aE ae).ac (nth aE ae).ar (nth aE ae).au)) ae).ac (nth (aE.set ae.toNat (ad.mk 4 (nth aE ae).af (nth aE ae).ac (nth aE ae).ar (nth aE ae).au)) ae).ar 0)) b7) (dO iy.1 iy.2) (kq iy.1 iy.2) ?_
   refine dY [] ?_
   exact ci.normal trivial (by simp only[←hR,q4,gW,jW,cond_true,cond_false];exact ed)
  ·
   refine eo ?_
   exact ci.normal trivial (by simp only[←hR,q4,gW,jW,cond_true,cond_false];exact ed)
 replace h:=h av hR
 have wG:av.length=aE.length:=by rw[←hR];repeat' apply zd;all_goals simp
 unfold IY at h
 obtain⟨xr,h⟩:=h
 obtain⟨iB,nf⟩: ∃w:List ad,(bif (((nth av ae).aq==1) || ((nth av ae).aq==2)) then(bif (gl J (Frame.mk hk aC ak (view (av.set ae.toNat (ad.mk 1 (nth av ae).af (nth av ae).ac (nth av ae).ar (nth av ae).au)) b7 aZ)) ae) then(((av.set ae.toNat (ad.mk 1 (nth av ae).af (nth av ae).ac (nth av ae).ar (nth av ae).au)).set ae.toNat (ad.mk 2 (nth (av.set ae.toNat (ad.mk 1 (nth av ae).af (nth av ae).ac (nth av ae).ar (nth av ae).au)) ae).af (nth (av.set ae.toNat (ad.mk 1 (nth av ae).af (nth av ae).ac (nth av ae).ar (nth av ae).au)) ae).ac (nth (av.set ae.toNat (ad.mk 1 (nth av ae).af (nth av ae).ac (nth av ae).ar (nth av ae).au)) ae).ar (nth (av.set ae.toNat (ad.mk 1 (nth av ae).af (nth av ae).ac (nth av ae).ar (nth av ae).au)) ae).au)).set ae.toNat (ad.mk (nth ((av.set ae.toNat (ad.mk 1 (nth av ae).af (nth av ae).ac (nth av ae).ar (nth av ae).au)).set ae.toNat (ad.mk 2 (nth (av.set ae.toNat (ad.mk 1 (nth av ae).af (nth av ae).ac (nth av ae).ar (nth av ae).au)) ae).af (nth (av.set ae.toNat (ad.mk 1 (nth av ae).af (nth av ae).ac (nth av ae).ar (nth av ae).au)) ae).ac (nth (av.set ae.toNat (ad.mk 1 (nth av ae).af (nth av ae).ac (nth av ae).ar (nth av ae).au)) ae).ar (nth (av.set ae.toNat (ad.mk 1 (nth av ae).af (nth av ae).ac (nth av ae).ar (nth av ae).au)) ae).au)) ae).aq (nth ((av.set ae.toNat (ad.mk 1 (nth av ae).af (nth av ae).ac (nth av ae).ar (nth av ae).au)).set ae.toNat (ad.mk 2 (nth (av.set ae.toNat (ad.mk 1 (nth av ae).af (nth av ae).ac (nth av ae).ar (nth av ae).au)) ae).af (nth (av.set ae.toNat (ad.mk 1 (nth av ae).af (nth av ae).ac (nth av ae).ar (nth av ae).au)) ae).ac (nth (av.set ae.toNat (ad.mk 1 (nth av ae).af (nth av ae).ac (nth av ae).ar (nth av ae).au)) ae).ar (nth (av.set ae.toNat (ad.mk 1 (nth av ae).af (nth av ae).ac (nth av ae).ar (nth av ae).au)) ae).au)) ae).af (nth ((av.set ae.toNat (ad.mk 1 (nth av ae).af (nth av ae).ac (nth av ae).ar (nth av ae).au)).set ae.toNat (ad.mk 2 (nth (av.set ae.toNat (ad.mk 1 (nth av ae).af (nth av ae).ac (nth av ae).ar (nth av ae).au)) ae).af (nth (av.set ae.toNat (ad.mk 1 (nth av ae).af (nth av ae).ac (nth av ae).ar (nth av ae).au)) ae).ac (nth (av.set ae.toNat (ad.mk 1 (nth av ae).af (nth av ae).ac (nth av ae).ar (nth av ae).au)) ae).ar (nth (av.set ae.toNat (ad.mk 1 (nth av ae).af (nth av ae).ac (nth av ae).ar (nth av ae).au)) ae).au)) ae).ac true (nth ((av.set ae.toNat (ad.mk 1 (nth av ae).af (nth av ae).ac (nth av ae).ar (nth av ae).au)).set ae.toNat (ad.mk 2 (nth (av.set ae.toNat (ad.mk 1 (nth av ae).af (nth av ae).ac (nth av ae).ar (nth av ae).au)) ae).af (nth (av.set ae.toNat (ad.mk 1 (nth av ae).af (nth av ae).ac (nth av ae).ar (nth av ae).au)) ae).ac (nth (av.set ae.toNat (ad.mk 1 (nth av ae).af (nth av ae).ac (nth av ae).ar (nth av ae).au)) ae).ar (nth (av.set ae.toNat (ad.mk 1 (nth av ae).af (nth av ae).ac (nth av ae).ar (nth av ae).au)) ae).au)) ae).au)) else(av.set ae.toNat (ad.mk 1 (nth av ae).af (nth av ae).ac (nth av ae).ar (nth av ae).au))) else av)=w:=⟨_,rfl⟩
 refine fa [] [2,1,4] id (fun H=>en 3 ⟨0,5,a1 4 iB b7⟩ H) (True) ?_ (fun mC=> ?_)
 ·
  replace h:=xr
  obtain⟨jF,h⟩:=h
  refine cB [(65,an (((nth av ae).aq==1) || ((nth av ae).aq==2)))] [7] (True) ?_ (fun jC=> ?_)
  ·
   replace h:=jF
   refine bM [] 10 ?_
   obtain⟨ld,h⟩:=h
   refine iL 4 (some 57) [(56,.ptr 3 0 (0+ae.toNat) 0),(55,.ptr 3 0 (0+ae.toNat) 0),(54,.ptr 3 0 (0+ae.toNat) 0)] (a1 4 av b7) ae 3 0 0 (ag (nth av ae).aq) (dO ld.1 ld.2) ?_
   refine nT 2 59 ((nth av ae).aq==1) [(58,an ((nth av ae).aq==1))] (fun lc=> ?_) (fun lc=> ?_)
   ·
    exact b6 ([(65,an true)]++gx [64,63,62,61,60]) trivial (by simp only[q4,gW,lc]<;>kernel_rfl)
   ·
    replace h:=h lc
    have jD:=h
    refine iL 4 (some 63) [(62,.ptr 3 0 (0+ae.toNat) 0),(61,.ptr 3 0 (0+ae.toNat) 0),(60,.ptr 3 0 (0+ae.toNat) 0)] (a1 4 av b7) ae 3 0 0 (ag (nth av ae).aq) (dO jD.1 jD.2) ?_
    exact b6 [(65,an ((nth av ae).aq==2)),(64,an ((nth av ae).aq==2))] trivial (by simp only[q4,gW,lc]<;>kernel_rfl)
  refine dI (fun lf=> ?_) (fun lf=> ?_)
  ·
   replace h:=h lf
   obtain⟨mf,h⟩:=h
   refine fa [] [0,1,7] id (fun H=>en 3 ⟨0,5,a1 4 (av.set ae.toNat (ad.mk 1 (nth av ae).af (nth av ae).ac (nth av ae).ar (nth av ae).au)) b7⟩ H) (True) ?_ (fun ha=> ?_)
   ·
    replace h:=mf
    refine bM [] 11 ?_
    have o8:=h
    refine kf 4 none [(68,.ptr 3 0 (0+ae.toNat) 0),(67,.ptr 3 0 (0+ae.toNat) 0),(66,.ptr 3 0 (0+ae.toNat) 0)] (a1 4 av b7) ae 0 1 0 [ag 1] 3 (a1 4 (av.set ae.toNat (ad.mk 1 (nth av ae).af (nth av ae).ac (nth av ae).ar (nth av ae).au)) b7) (dO o8.1 o8.2) (kq o8.1 o8.2) ?_
    exact b6 [] trivial
   unfold IW at h
   obtain⟨p2,h⟩:=h
   refine cB [(74,an (gl J (Frame.mk hk aC ak (view (av.set ae.toNat (ad.mk 1 (nth av ae).af (nth av ae).ac (nth av ae).ar (nth av ae).au)) b7 aZ)) ae))] [2,1,4] (True) ?_ (fun lH=> ?_)
   ·
    replace h:=p2
    refine nl [] 12 ad1 ad2 [] ?_
    refine C4 4 (some 72) (.agg [an hk,aj 1 0 aC.length,aj 2 0 ak.length,aj 3 0 aE.length]) [(71,.ptr 0 hg 0 0),(70,.ptr 0 hg 0 0),(69,.agg (bg false J))] (φ:=hg=hg) rfl ?_
    obtain⟨p1,jE,nQ,mc⟩:=h
    refine SH 2 (some 74) [(73,ag ae)] [.agg (bg false J),.agg [an hk,aj 1 0 aC.length,aj 2 0 ak.length,aj 3 0 aE.length],ag ae] (adP J (Frame.mk hk aC ak (view (av.set ae.toNat (ad.mk 1 (nth av ae).af (nth av ae).ac (nth av ae).ar (nth av ae).au)) b7 aZ)) ae mc) (aD.cons (dc.agg (aD.cons (.int _ _) (aD.cons cH (aD.cons cH (aD.cons cH (aD.cons (.int _ _) aD.nil)))))) (aD.cons (dc.agg (aD.cons (.bool _) (aD.cons (nn (sz:=1) (by simp[wG]) rfl (s6) p1) (aD.cons (nn (sz:=2) (by simp[wG]) rfl (uI) jE) (aD.cons (tx (s:=4) (ws:=(av.set ae.toNat (ad.mk 1 (nth av ae).af (nth av ae).ac (nth av ae).ar (nth av ae).au))) (ids:=b7) (bs:=aZ) (by simp[wG]) rfl (fun id k h=>by simpa using h) nQ.1 nQ.2.1 nQ.2.2) aD.nil))))) (aD.cons (dc.h4 (.int _ _)) aD.nil))) ?_
    exact kY [] trivial
   unfold IV at h
   refine dI (fun lg=> ?_) (fun lg=> ?_)
   ·
    replace h:=h lg
    obtain⟨nh,h⟩:=h
    refine fa [] [0,1,6] id (fun H=>en 3 ⟨0,5,a1 4 ((av.set ae.toNat (ad.mk 1 (nth av ae).af (nth av ae).ac (nth av ae).ar (nth av ae).au)).set ae.toNat (ad.mk 2 (nth (av.set ae.toNat (ad.mk 1 (nth av ae).af (nth av ae).ac (nth av ae).ar (nth av ae).au)) ae).af (nth (av.set ae.toNat (ad.mk 1 (nth av ae).af (nth av ae).ac (nth av ae).ar (nth av ae).au)) ae).ac (nth (av.set ae.toNat (ad.mk 1 (nth av ae).af (nth av ae).ac (nth av ae).ar (nth av ae).au)) ae).ar (nth (av.set ae.toNat (ad.mk 1 (nth av ae).af (nth av ae).ac (nth av ae).ar (nth av ae).au)) ae).au)) b7⟩ H) (True) ?_ (fun me=> ?_)
    ·
     replace h:=nh
     refine bM [] 13 ?_
     have mD:=h
     refine kf 4 none [(77,.ptr 3 0 (0+ae.toNat) 0),(76,.ptr 3 0 (0+ae.toNat) 0),(75,.ptr 3 0 (0+ae.toNat) 0)] (a1 4 (av.set ae.toNat (ad.mk 1 (nth av ae).af (nth av ae).ac (nth av ae).ar (nth av ae).au)) b7) ae 0 1 0 [ag 2] 3 (a1 4 ((av.set ae.toNat (ad.mk 1 (nth av ae).af (nth av ae).ac (nth av ae).ar (nth av ae).au)).set ae.toNat (ad.mk 2 (nth (av.set ae.toNat (ad.mk 1 (nth av ae).af (nth av ae).ac (nth av ae).ar (nth av ae).au)) ae).af (nth (av.set ae.toNat (ad.mk 1 (nth av ae).af (nth av ae).ac (nth av ae).ar (nth av ae).au)) ae).ac (nth (av.set ae.toNat (ad.mk 1 (nth av ae).af (nth av ae).ac (nth av ae).ar (nth av ae).au)) ae).ar (nth (av.set ae.toNat (ad.mk 1 (nth av ae).af (nth av ae).ac (nth av ae).ar (nth av ae).au)) ae).au)) b7) (dO mD.1 mD.2) (kq mD.1 mD.2) ?_
     exact b6 [] trivial
    unfold IU at h
    refine bM [] 14 ?_
    have ng:=h
    refine kf 4 none [(80,.ptr 3 0 (0+ae.toNat) 3),(79,.ptr 3 0 (0+ae.toNat) 0),(78,.ptr 3 0 (0+ae.toNat) 0)] (a1 4 ((av.set ae.toNat (ad.mk 1 (nth av ae).af (nth av ae).ac (nth av ae).ar (nth av ae).au)).set ae.toNat (ad.mk 2 (nth (av.set ae.toNat (ad.mk 1 (nth av ae).af (nth av ae).ac (nth av ae).ar (nth av ae).au)) ae).af (nth (av.set ae.toNat (ad.mk 1 (nth av ae).af (nth av ae).ac (nth av ae).ar (nth av ae).au)) ae).ac (nth (av.set ae.toNat (ad.mk 1 (nth av ae).af (nth av ae).ac (nth av ae).ar (nth av ae).au)) ae).ar (nth (av.set ae.toNat (ad.mk 1 (nth av ae).af (nth av ae).ac (nth av ae).ar (nth av ae).au)) ae).au)) b7) ae 3 1 0 [an true] 3 (a1 4 (((av.set ae.toNat (ad.mk 1 (nth av ae).af (nth av ae).ac (nth av ae).ar (nth av ae).au)).set ae.toNat (ad.mk 2 (nth (av.set ae.toNat (ad.mk 1 (nth av ae).af (nth av ae).ac (nth av ae).ar (nth av ae).au)) ae).af (nth (av.set ae.toNat (ad.mk 1 (nth av ae).af (nth av ae).ac (nth av ae).ar (nth av ae).au)) ae).ac (nth (av.set ae.toNat (ad.mk 1 (nth av ae).af (nth av ae).ac (nth av ae).ar (nth av ae).au)) ae).ar (nth (av.set ae.toNat (ad.mk 1 (nth av ae).af (nth av ae).ac (nth av ae).ar (nth av ae).au)) ae).au)).set ae.toNat (ad.mk (nth ((av.set ae.toNat (ad.mk 1 (nth av ae).af (nth av ae).ac (nth av ae).ar (nth av ae).au)).set ae.toNat (ad.mk 2 (nth (av.set ae.toNat (ad.mk 1 (nth av ae).af (nth av ae).ac (nth av ae).ar (nth av ae).au)) ae).af (nth (av.set ae.toNat (ad.mk 1 (nth av ae).af (nth av ae).ac (nth av ae).ar (nth av ae).au)) ae).ac (nth (av.set ae.toNat (ad.mk 1 (nth av ae).af (nth av ae).ac (nth av ae).ar (nth av ae).au)) ae).ar (nth (av.set ae.toNat (ad.mk 1 (nth av ae).af (nth av ae).ac (nth av ae).ar (nth av ae).au)) ae).au)) ae).aq (nth ((av.set ae.toNat (ad.mk 1 (nth av ae).af (nth av ae).ac (nth av ae).ar (nth av ae).au)).set ae.toNat (ad.mk 2 (nth (av.set ae.toNat (ad.mk 1 (nth av ae).af (nth av ae).ac (nth av ae).ar (nth av ae).au)) ae).af (nth (av.set ae.toNat (ad.mk 1 (nth av ae).af (nth av ae).ac (nth av ae).ar (nth av ae).au)) ae).ac (nth (av.set ae.toNat (ad.mk 1 (nth av ae).af (nth av ae).ac (nth av ae).ar (nth av ae).au)) ae).ar (nth (av.set ae.toNat (ad.mk 1 (nth av ae).af (nth av ae).ac (nth av ae).ar (nth av ae).au)) ae).au)) ae).af (nth ((av.set ae.toNat (ad.mk 1 (nth av ae).af (nth av ae).ac (nth av ae).ar (nth av ae).au)).set ae.toNat (ad.mk 2 (nth (av.set ae.toNat (ad.mk 1 (nth av ae).af (nth av ae).ac (nth av ae).ar (nth av ae).au)) ae).af (nth (av.set ae.toNat (ad.mk 1 (nth av ae).af (nth av ae).ac (nth av ae).ar (nth av ae).au)) ae).ac (nth (av.set ae.toNat (ad.mk 1 (nth av ae).af (nth av ae).ac (nth av ae).ar (nth av ae).au)) ae).ar (nth (av.set ae.toNat (ad.mk 1 (nth av ae).af (nth av ae).ac (nth av ae).ar (nth av ae).au)) ae).au)) ae).ac true (nth ((av.set ae.toNat (ad.mk 1 (nth av ae).af (nth av ae).ac (nth av ae).ar (nth av ae).au)).set ae.toNat (ad.mk 2 (nth (av.set ae.toNat (ad.mk 1 (nth av ae).af (nth av ae).ac (nth av ae).ar (nth av ae).au)) ae).af (nth (av.set ae.toNat (ad.mk 1 (nth av ae).af (nth av ae).ac (nth av ae).ar (nth av ae).au)) ae).ac (nth (av.set ae.toNat (ad.mk 1 (nth av ae).af (nth av ae).ac (nth av ae).ar (nth av ae).au)) ae).ar (nth (av.set ae.toNat (ad.mk 1 (nth av ae).af (nth av ae).ac (nth av ae).ar (nth av ae).au)) ae).au)) ae).au)) b7) (dO ng.1 ng.2) (kq ng.1 ng.2) ?_
    refine dY [] ?_
    exact ci.normal trivial (by simp only[←nf,q4,gW,lf,lg,cond_true,cond_false];exact ed)
   ·
    refine eo ?_
    exact ci.normal trivial (by simp only[←nf,q4,gW,lf,lg,cond_true,cond_false];exact ed)
  ·
   refine eo ?_
   exact ci.normal trivial (by simp only[←nf,q4,gW,lf,cond_true,cond_false];exact ed)
 replace h:=h iB nf
 have L8:iB.length=aE.length:=by rw[←nf];repeat' apply zd;all_goals simp[wG]
 obtain⟨mG,h⟩:=h
 refine cB [(85,an ((nth iB ae).aq==4))] [6] (True) ?_ (fun sj=> ?_)
 ·
  replace h:=mG
  refine bM [] 15 ?_
  have lI:=h
  refine iL 4 (some 84) [(83,.ptr 3 0 (0+ae.toNat) 0),(82,.ptr 3 0 (0+ae.toNat) 0),(81,.ptr 3 0 (0+ae.toNat) 0)] (a1 4 iB b7) ae 3 0 0 (ag (nth iB ae).aq) (dO lI.1 lI.2) ?_
  exact b6 [(85,an ((nth iB ae).aq==4))] trivial
 unfold IX at h
 refine dI (fun mE=> ?_) (fun mE=> ?_)
 ·
  replace h:=h.1 mE
  refine bM [] 16 ?_
  obtain⟨zD,h⟩:=h
  refine P6 (⟨hg,4,[[an hk,aj 1 0 aC.length,aj 2 0 ak.length,aj 3 0 iB.length]]⟩::⟨0,1,List.map aY aC⟩::⟨0,2,List.map a7 ak⟩::⟨0,5,a1 4 iB b7⟩::List.map bo aZ) (by rw[show aE.length=iB.length by simp[wG,L8]]<;>rfl) ?_
  refine tu 4 (some 89) [(88,.ptr 3 0 (0+ae.toNat) 0),(87,.ptr 0 hg 0 0),(86,.agg (dw false (nth J.O ae)))] [.agg (dw false (nth J.O ae)),.ptr 0 hg 0 0,.ptr 3 0 (0+ae.toNat) 0] _ (adK (nth J.O ae) ae hg hk aC ak iB b7 aZ zD) (fun r H' ak=>by obtain⟨_,_,_,rfl,_⟩:=ak;rfl) ?_
  rintro r H' ⟨xU,i55,vO,rfl,rfl,q6⟩
  replace h:=h xU i55 vO q6
  refine dY [] ?_
  refine cm.normal ?_
  refine eb.normal ?_
  refine bM [] 17 ?_
  refine dY [(12,ag (IntKind.i64.wrap (ae+1))),(90,ag (IntKind.i64.wrap (ae+1)))] ?_
  exact d_.again (vO,i55,(IntKind.i64.wrap (ae+1)),xU) h (dC [6])
 ·
  replace h:=h.2 mE
  refine eo ?_
  refine cm.normal ?_
  refine eb.normal ?_
  refine bM [] 17 ?_
  refine dY [(12,ag (IntKind.i64.wrap (ae+1))),(90,ag (IntKind.i64.wrap (ae+1)))] ?_
  exact d_.again (aZ,b7,(IntKind.i64.wrap (ae+1)),iB) h (hq (s':=⟨(bi 91 [(1,.ptr 0 hg 0 0),(2,aA 2 0),(11,ag (hw.length:Int)),(12,ag (IntKind.i64.wrap (ae+1)))]),[(2,(bg false J))],(⟨hg,4,[[an hk,aj 1 0 aC.length,aj 2 0 ak.length,aj 3 0 aE.length]]⟩::⟨0,1,List.map aY aC⟩::⟨0,2,List.map a7 ak⟩::⟨0,5,a1 4 iB b7⟩::List.map bo aZ)⟩) (dC (n:=91) (A':=[(1,.ptr 0 hg 0 0),(2,aA 2 0),(11,ag (hw.length:Int)),(12,ag (IntKind.i64.wrap (ae+1)))]) (L':=[(2,(bg false J))]) [6]) (congrArg (fun z=>(⟨(bi 91 [(1,.ptr 0 hg 0 0),(2,aA 2 0),(11,ag (hw.length:Int)),(12,ag (IntKind.i64.wrap (ae+1)))]),[(2,(bg false J))],(⟨hg,4,[[an hk,aj 1 0 aC.length,aj 2 0 ak.length,aj 3 0 z]]⟩::⟨0,1,List.map aY aC⟩::⟨0,2,List.map a7 ak⟩::⟨0,5,a1 4 iB b7⟩::List.map bo aZ)⟩:St)) (show aE.length=iB.length by simp[wG,L8])))
theorem Rl (J:az) (hg:Nat) (hk:Bool) (aC:List Bool) (ak:List a8) (hw:List ad) (hi:List Nat) (hb:List (List Bool)) (aI:HU J hk aC ak hw hi hb):dH Try.prog 98 [.agg (bg false J),.ptr 0 hg 0 0] (⟨hg,4,[[an hk,aj 1 0 aC.length,aj 2 0 ak.length,aj 3 0 hw.length]]⟩::⟨0,1,List.map aY aC⟩::⟨0,2,List.map a7 ak⟩::⟨0,5,a1 4 hw hi⟩::List.map bo hb) (fun r H'=> ∃(e4:List ad) (gg:List Nat) (ek:List (List Bool)),r= .tup []∧H'=(⟨hg,4,[[an hk,aj 1 0 aC.length,aj 2 0 ak.length,aj 3 0 e4.length]]⟩::⟨0,1,List.map aY aC⟩::⟨0,2,List.map a7 ak⟩::⟨0,5,a1 4 e4 gg⟩::List.map bo ek)∧zS J hk aC ak hw hi hb aC ak e4 gg ek):=ad5 J hg hk aC ak hw hi hb (HT J (c7 hk aC ak hw hi hb)) (fun _ _ v _=>cG hw.length v) (by
 unfold IS
 obtain⟨G,cF,cZ⟩:=aI
 have yG:(c7 hk aC ak hw hi hb).O.length=hw.length:=jo G.ok
 have X3:=cZ.O
 have wM:=cF.O
 have LO:=cZ.aw
 have LP:=cZ.ap
 have XO:=cF.c2
 have wP:=cF.sw
 refine⟨⟨?_,G.ok,G.kV,rfl,G.len⟩,fun bs is v ws a0=> ?_⟩
 ·rw[yG];exact df (dp _)
 have yC:=a0
 obtain⟨gr,fA,m9,j_,hlen⟩:=yC
 have aG:((c7 hk aC ak hw hi hb).O.length:Int)≤4611686018427387904:=by omega
 obtain⟨s1,s2,lh⟩:=pc J (c7 hk aC ak hw hi hb) v.toNat
 have BP:ws.length=hw.length:=by rw[←jo fA,j_,pb,yG]
 unfold I0
 have hm: ∀x:Int,cG hw.length x=cG (c7 hk aC ak hw hi hb).O.length x:=fun x=>by rw[yG]
 simp only[hm]
 rw[←yG]
 refine⟨fun hv=> ?_,fun hv=> ?_⟩
 ·have kx: ¬v<((c7 hk aC ak hw hi hb).O.length:Int):=by simpa using hv
  have h1:=gr.2.1
  have aT:=gr.1
  have:v.toNat=(c7 hk aC ak hw hi hb).O.length:=by omega
  rw[this] at j_
  exact⟨⟨fA,m9,hlen⟩,j_⟩
 have b9:=cb gr hv
 have aT:=b9.1
 have bf:v.toNat<ws.length:=by omega
 have io:v.toNat<J.O.length:=by omega
 have rS:=zU cZ v.toNat
 have mv:(dR J (c7 hk aC ak hw hi hb) v).O.length=hw.length:=(pb _ _ _).trans yG
 have hs:(c2 J v)≠[]∧(c2 J v).length≤30∧ ∀x∈c2 J v,0≤x∧x<J.ai:=cF.ai _ (dz io)
 have l4:(dR J (c7 hk aC ak hw hi hb) v).O[v.toNat]?=some (nth (dR J (c7 hk aC ak hw hi hb) v).O v):=gV (by omega)
 have uj:(nth (dR J (c7 hk aC ak hw hi hb) v).O v).ac.length=(c2 J v).length:=rS.ac _ _ _ l4 (gV io)
 have sY:=rS.af _ (List.mem_of_getElem? l4)
 have s5:0<(c2 J v).length:=List.length_pos_iff.2 hs.1
 have wK:(aC.length:Int)=J.ai:=LO
 have Mh:ak.length=J.a5.length:=LP
 have r3: ∀k:Int,0≤k→k.toNat<(c2 J v).length→0≤nth (c2 J v) k∧(nth (c2 J v) k).toNat<aC.length:=fun k a4 da=>by
  have:=hs.2.2 _ (dz da);omega
 have dy:dr (dR J (c7 hk aC ak hw hi hb) v).O is v (nth (dR J (c7 hk aC ak hw hi hb) v).O v) ws bs:=dr.start fA m9 bf j_ hlen
 have g7:=Sz (p:=J) (f:=c7 hk aC ak hw hi hb) aT
 refine⟨⟨aT,bf⟩,⟨aT,io⟩,⟨dy.fo,fun aP=> ?_⟩,fun aP=> ?_⟩
 ·rw[dy.aq] at aP
  exact vg aG gr hv dy (by rw[g7,if_pos (by simpa using aP)])
 have aP: ¬(nth (dR J (c7 hk aC ak hw hi hb) v).O v).aq=0:=by rw[dy.aq] at aP;simpa using aP
 rw[if_neg aP] at g7
 unfold IZ IT
 refine⟨⟨⟨dy.fo,fun _=>⟨⟨Int.le_refl _,s5⟩,r3 0 (Int.le_refl _) s5⟩⟩,fun _=>⟨dy.fo,(dy.setState 4).fo⟩⟩,fun fm Fx=> ?_⟩
 have eE:dr (dR J (c7 hk aC ak hw hi hb) v).O is v (h5 J (c7 hk aC ak hw hi hb) v) fm bs:=by
  rw[←Fx,dy.aq]
  unfold h5
  simp only
  have hc:((nth (dR J (c7 hk aC ak hw hi hb) v).O v).aq≠4∧eh (dR J (c7 hk aC ak hw hi hb) v) (nth (c2 J v) 0)=true)↔((((nth (dR J (c7 hk aC ak hw hi hb) v).O v).aq !=4)&&(nth aC (nth (nth J.O v).ai 0)))=true):=by
   rw[Bool.and_eq_true,bne_iff_ne]
   unfold eh
   rw[show(dR J (c7 hk aC ak hw hi hb) v).aw=aC from s2];rfl
  by_cases hb:((nth (dR J (c7 hk aC ak hw hi hb) v).O v).aq≠4∧eh (dR J (c7 hk aC ak hw hi hb) v) (nth (c2 J v) 0)=true)
  ·rw[if_pos hb,hc.1 hb]
   exact(dy.setState 4).xF 0
  ·rw[if_neg hb,Bool.eq_false_iff.2 (fun h=>hb (hc.2 h))]
   exact dy
 have uy:xo J (Frame.mk hk aC ak (view (fm.set v.toNat (ad.mk 1 (nth fm v).af (nth fm v).ac (nth fm v).ar (nth fm v).au)) is bs)) v:=by
  have mW:=eE.setState 1
  refine⟨cF,⟨cZ.aw,cZ.ap,?_,fun i h w br e2=> ?_,fun h b0=> ?_⟩,aT,by omega⟩
  ·show(view _ is bs).length=_
   rw[jo mW.ok,List.length_set];have:=eE.tF;omega
  ·replace br:(view _ is bs)[i]?=some h:=br
   rw[mW.gZ,List.getElem?_set] at br
   split at br
   ·rename_i hi;subst hi
    split at br
    ·cases br
     have:=gV io
     rw[e2] at this
     cases this
     show(h5 J (c7 hk aC ak hw _ hb) v).ac.length=_
     rw[ti.1];exact uj
    ·cases br
   ·exact rS.ac i h w br e2
  ·replace b0:h∈view _ is bs:=b0
   rw[mW.gZ] at b0
   rcases List.mem_or_eq_of_mem_set b0 with b0 | rfl
   ·exact rS.af h b0
   ·show 0≤(h5 J (c7 hk aC ak hw hi hb) v).af∧(h5 J (c7 hk aC ak hw hi hb) v).af≤(h5 J (c7 hk aC ak hw hi hb) v).ac.length
    rw[ti.1,ti.2];exact sY
 have Fj:gl J (Frame.mk hk aC ak (view (fm.set v.toNat (ad.mk 1 (nth fm v).af (nth fm v).ac (nth fm v).ar (nth fm v).au)) is bs)) v=gl J (dR J (c7 hk aC ak hw hi hb) v) v:=Hj s2.symm lh.symm
 unfold IY
 refine⟨⟨⟨eE.fo,fun _=>eE.fo⟩,fun _=>⟨eE.fo,?_⟩⟩,fun vx Fy=> ?_⟩
 ·unfold IW IV IU
  have mW:=eE.setState 1
  refine⟨⟨by omega,by omega,⟨mW.ok,?_,fun b hb=>by have:=hlen b hb;omega⟩,uy⟩,fun _=>⟨mW.fo,(mW.setState 2).fo⟩⟩
  rw[List.length_set];have:=eE.tF;omega
 have gn:dr (dR J (c7 hk aC ak hw hi hb) v).O is v (gG J (c7 hk aC ak hw hi hb) v) vx bs:=by
  rw[←Fy,Fj,eE.aq]
  unfold gG
  simp only
  by_cases hb:(h5 J (c7 hk aC ak hw hi hb) v).aq=1∨(h5 J (c7 hk aC ak hw hi hb) v).aq=2
  ·rw[if_pos hb,show(((h5 J (c7 hk aC ak hw hi _) v).aq==1) || ((h5 J (c7 hk aC ak hw hi _) v).aq==2))=true by simpa using hb]
   cases ak:gl J (dR J (c7 hk aC _ hw hi _) v) v with
   | true=>exact((eE.setState 1).setState 2).Qe true
   | false=>exact eE.setState 1
  ·rw[if_neg hb,show(((h5 J (c7 hk aC ak hw hi _) v).aq==1) || ((h5 J (c7 hk aC ak hw hi _) v).aq==2))=false by simpa using hb]
   exact eE
 have ux:(gG J (c7 hk aC ak hw hi hb) v).ac.length=(c2 J v).length:=by rw[Cs.1];exact uj
 have y1:0≤(gG J (c7 hk aC ak hw hi hb) v).af∧(gG J (c7 hk aC ak hw hi hb) v).af≤(c2 J v).length:=by rw[Cs.2,←uj];exact sY
 refine⟨gn.fo,?_⟩
 unfold IX
 refine⟨fun bd=>⟨⟨gn.G,aT,by have:=gn.lt;omega,?_,?_,?_,?_,?_⟩,fun w i b kv=> ?_⟩,fun bd=> ?_⟩
 ·show(c2 J v).length≤_;omega
 ·intro x hx
  have:=hs.2.2 x hx;omega
 ·rw[gn.xc];exact ux
 ·rw[gn.xc];exact y1.1
 ·rw[gn.xc];exact y1.2
 ·obtain⟨n4,kx⟩:=kv
  have nt:=gn.again n4 kx
  have bd:(gG J (c7 hk aC ak hw hi hb) v).aq=4:=by rw[gn.aq] at bd;simpa using bd
  rw[if_pos bd] at g7
  refine vg aG gr hv nt ?_
  rw[gn.xc,g7]
  exact O4 s2.symm
 ·rw[gn.aq] at bd
  exact vg aG gr hv gn (by rw[g7,if_neg (by simpa using bd)]))
noncomputable def adi:Code:=iE Try.f41
def QG (J:az) (M:Frame) (al:Bool):Prop:=
  (HU J (aa M).ok (aa M).aw (aa M).ap (aa M).O (List.range (aa M).O.length) (List.map ad.ac (aa M).O))∧(∀(fm:List ad) (i28:List Nat) (k3:List (List Bool)),zS J (aa M).ok (aa M).aw (aa M).ap (aa M).O (List.range (aa M).O.length) (List.map ad.ac (aa M).O) (aa M).aw (aa M).ap fm i28 k3→(((aa M).aw.length≤4611686018427387904∧(aa M).ap.length≤4611686018427387904∧(kl fm i28 k3∧fm.length≤4611686018427387904∧(∀x∈k3,List.length x≤4611686018427387904))∧P9 M (Frame.mk (aa M).ok (aa M).aw (aa M).ap (view fm i28 k3)))∧((oE M (Frame.mk (aa M).ok (aa M).aw (aa M).ap (view fm i28 k3)))=al)))
def Iq (J:az) (M:Frame) (al:Bool) (cA dB:Int):Prop:=
  ((dB !=cA)=true→(0≤dB∧dB.toNat<J.bW.length)∧((0≤cA∧cA.toNat<(nth J.bW dB).length)∧((nth (nth J.bW dB) cA)=true→(0≤dB∧dB.toNat<M.O.length)∧(((nth M.O dB).aq !=0)=true→0≤cA∧cA.toNat<M.O.length))))∧(((dB !=cA)&&((nth (nth J.bW dB) cA)&&(((nth M.O dB).aq !=0)&&((nth M.O cA).aq !=0))))=true→false=al)
def Ir (aU:Int→Int→Prop) (aV:Int→Int→Nat) (bw:dP Prop) (bt:dP Nat) (J:az) (M:Frame) (al:Bool) (eX cA dB:Int):Prop:=
  ((decide (cA<(M.O.length:Int)))=false→aU eX (IntKind.i64.wrap (dB+1))∧aV eX (IntKind.i64.wrap (dB+1))<aV eX dB)∧((decide (cA<(M.O.length:Int)))=true→(Iq J M al cA dB)∧((!((dB !=cA)&&((nth (nth J.bW dB) cA)&&(((nth M.O dB).aq !=0)&&((nth M.O cA).aq !=0)))))=true→bw eX dB (IntKind.i64.wrap (cA+1))∧bt eX dB (IntKind.i64.wrap (cA+1))<bt eX dB cA))
def Is (ay:Int→Prop) (aB:Int→Nat) (aU:Int→Int→Prop) (aV:Int→Int→Nat) (bw:dP Prop) (bt:dP Nat) (J:az) (M:Frame) (al:Bool) (eX:Int):Prop:=
  ((decide (eX<(M.ap.length:Int)))=false→M.O.length≤4611686018427387904→aU eX 0∧ ∀(dB:Int),aU eX dB→(((decide (dB<(M.O.length:Int)))=false→(jH M)∧(QG J M al))∧((decide (dB<(M.O.length:Int)))=true→((LN J M dB)∧((!(hn J M dB))=true→false=al))∧((!(!(hn J M dB)))=true→bw eX dB 0∧ ∀(cA:Int),bw eX dB cA→(Ir aU aV bw bt J M al eX cA dB)))))∧((decide (eX<(M.ap.length:Int)))=true→((0≤eX∧eX.toNat<M.ap.length)∧(((!(b3 (nth M.ap eX).b5 1 2)) || (!(b3 (nth M.ap eX).aX 0 2)))=true→false=al))∧((!((!(b3 (nth M.ap eX).b5 1 2)) || (!(b3 (nth M.ap eX).aX 0 2))))=true→ay (IntKind.i64.wrap (eX+1))∧aB (IntKind.i64.wrap (eX+1))<aB eX))
def It (ay:Int→Prop) (aB:Int→Nat) (aU:Int→Int→Prop) (aV:Int→Int→Nat) (bw:dP Prop) (bt:dP Nat) (J:az) (M:Frame) (al:Bool):Prop:=
  (((!(dT J)) || ((!M.ok) || (((M.aw.length:Int) !=J.ai) || (((M.ap.length:Int) !=(J.a5.length:Int)) || ((M.O.length:Int) !=(J.O.length:Int))))))=true→false=al)∧((!((!(dT J)) || ((!M.ok) || (((M.aw.length:Int) !=J.ai) || (((M.ap.length:Int) !=(J.a5.length:Int)) || ((M.O.length:Int) !=(J.O.length:Int)))))))=true→M.ap.length≤4611686018427387904→ay 0∧ ∀(eX:Int),ay eX→(Is ay aB aU aV bw bt J M al eX))
def Ip (J:az) (M:Frame) (al:Bool) (ay:Int→Prop) (aB:Int→Nat) (aU:Int→Int→Prop) (aV:Int→Int→Nat) (bw:dP Prop) (bt:dP Nat):Prop:=
 It ay aB aU aV bw bt J M al
theorem adj (J:az) (M:Frame) (al:Bool) (ay:Int→Prop) (aB:Int→Nat) (aU:Int→Int→Prop) (aV:Int→Int→Nat) (bw:dP Prop) (bt:dP Nat) (h:Ip J M al ay aB aU aV bw bt):b2 Try.prog 41 [.agg (bg false J),.agg (bZ false M)] (an al):=by
 unfold Ip at h
 refine dH.go (fn:=Try.f41) [(0,.agg (bg false J)),(1,.agg (bZ false M))] Try.func41 (fun _ _=> ?_)
 show WpS _ (bT adi 1) _ ⟨bi 119 [(0,.agg (bg false J)),(1,.agg (bZ false M))],[],[]⟩
 refine WpS.mn ?_ (hq (s'':=⟨(bi 119 [(0,.agg (bg false J)),(1,.agg (bZ false M))]),[],[⟨0,4,[]⟩]⟩) (Weak.w5 (T:=(bi 119 [(0,.agg (bg false J)),(1,.agg (bZ false M))])) (L:=[]) (H:=[]) 4) (by kernel_rfl))
 refine qq [2000009] 0 [(4,an false),(3,aA 3 0),(2,aA 2 0)] [0,1,2] [] [(3,(bZ false M)),(2,(bg false J))] [⟨0,4,[]⟩] ?_
 unfold It at h
 obtain⟨Py,h⟩:=h
 refine cB [] [2] ((!((!(dT J)) || ((!M.ok) || (((M.aw.length:Int) !=J.ai) || (((M.ap.length:Int) !=(J.a5.length:Int)) || ((M.O.length:Int) !=(J.O.length:Int)))))))=true) ?_ (fun q2=> ?_)
 ·
  replace h:=Py
  refine cB [(43,an ((!(dT J)) || ((!M.ok) || (((M.aw.length:Int) !=J.ai) || (((M.ap.length:Int) !=(J.a5.length:Int)) || ((M.O.length:Int) !=(J.O.length:Int)))))))] [2] (True) ?_ (fun q3=> ?_)
  ·
   refine bM [2000009] 1 ?_
   refine mg 2 (some 11) [(10,.agg (bg false J))] [.agg (bg false J)] (QX J) (aD.cons (dc.agg (aD.cons (.int _ _) (aD.cons cH (aD.cons cH (aD.cons cH (aD.cons (.int _ _) aD.nil)))))) aD.nil) ?_
   refine nT 2 13 (!(dT J)) [(12,an (!(dT J)))] (fun q4=> ?_) (fun q4=> ?_)
   ·
    exact b6 ([(43,an true)]++gx [42,41,40,39,38,37,36]++[(35,an true),(34,an true)]++gx [33,32,31,30,29,28,27]++[(26,an true),(25,an true)]++gx [24,23,22,21,20,19]++[(18,an true),(17,an true)]++gx [16,15,14]) trivial (by simp only[q4]<;>kernel_rfl)
   ·
    refine nT 5 18 (!M.ok) [(17,an (!M.ok)),(16,an (!M.ok)),(15,an M.ok),(14,aA 3 0)] (fun cR=> ?_) (fun cR=> ?_)
    ·
     exact b6 ([(43,an true)]++gx [42,41,40,39,38,37,36]++[(35,an true),(34,an true)]++gx [33,32,31,30,29,28,27]++[(26,an true),(25,an true)]++gx [24,23,22,21,20,19]) trivial (by simp only[q4,cR]<;>kernel_rfl)
    ·
     refine sLen 3 (some 21) [(20,bL aY M.aw),(19,aA 3 1)] aY M.aw (fun c6=> ?_)
     refine nT 5 26 ((M.aw.length:Int) !=J.ai) [(25,an ((M.aw.length:Int) !=J.ai)),(24,an ((M.aw.length:Int) !=J.ai)),(23,ag J.ai),(22,aA 2 0)] (fun fP=> ?_) (fun fP=> ?_)
     ·
      exact b6 ([(43,an true)]++gx [42,41,40,39,38,37,36]++[(35,an true),(34,an true)]++gx [33,32,31,30,29,28,27]) trivial (by simp only[q4,cR,fP]<;>kernel_rfl)
     ·
      refine sLen 3 (some 29) [(28,bL a7 M.ap),(27,aA 3 2)] a7 M.ap (fun fD=> ?_)
      refine sLen 3 (some 32) [(31,bL c_ J.a5),(30,aA 2 1)] c_ J.a5 (fun iJ=> ?_)
      refine nT 3 35 ((M.ap.length:Int) !=(J.a5.length:Int)) [(34,an ((M.ap.length:Int) !=(J.a5.length:Int))),(33,an ((M.ap.length:Int) !=(J.a5.length:Int)))] (fun gW=> ?_) (fun gW=> ?_)
      ·
       exact b6 ([(43,an true)]++gx [42,41,40,39,38,37,36]) trivial (by simp only[q4,cR,fP,gW]<;>kernel_rfl)
      ·
       refine sLen 3 (some 38) [(37,bL (dM false) M.O),(36,aA 3 3)] (dM false) M.O (fun iw=> ?_)
       refine sLen 3 (some 41) [(40,bL (dw false) J.O),(39,aA 2 2)] (dw false) J.O (fun h6=> ?_)
       exact b6 [(43,an ((M.O.length:Int) !=(J.O.length:Int))),(42,an ((M.O.length:Int) !=(J.O.length:Int)))] trivial (by simp only[q4,cR,fP,gW]<;>kernel_rfl)
  refine dI (fun fI=> ?_) (fun fI=> ?_)
  ·
   replace h:=h fI
   refine ej [2000009] 2 [(4,an false)] [1] [] ?_
   exact hr (ci.ret (nm (an false) (ii.h4 (np h))))
  ·
   refine eo ?_
   exact ci.normal (by simp only[fI]<;>rfl) ed
 replace h:=h q2
 refine hJ ?_
 refine cB [(45,bL a7 M.ap),(46,ag (M.ap.length:Int)),(47,ag 0)] [2] (M.ap.length≤4611686018427387904) ?_ (fun jj=> ?_)
 ·
  refine bM [2000009] 3 ?_
  refine sLen 3 (some 46) [(45,bL a7 M.ap),(44,aA 3 2)] a7 M.ap (fun ke=> ?_)
  exact b6 [(47,ag 0)] ke
 replace h:=h jj
 refine fs 0 ?_
 obtain⟨nj,h⟩:=h
 refine km (fun(v:Int)=>(⟨(bi 119 [(2,aA 2 0),(3,aA 3 0),(45,bL a7 M.ap),(46,ag (M.ap.length:Int)),(47,ag v)]),[(3,(bZ false M)),(2,(bg false J))],[⟨0,4,[]⟩]⟩:St)) (fun(v:Int)=>ay v) (fun(v:Int)=>aB v) 0 (dC []) nj (fun eX a0=> ?_)
 replace h:=h eX a0
 refine ej [2000009] 4 [(48,an (decide (eX<(M.ap.length:Int))))] [1] [5] ?_
 unfold Is at h
 obtain⟨xu,h⟩:=h
 refine cB [] [0,1,5] ((decide (eX<(M.ap.length:Int)))=true) ?_ (fun mb=> ?_)
 ·
  replace h:=xu
  refine dI (fun hA=> ?_) (fun hA=> ?_)
  ·
   refine eo ?_
   exact ci.normal (by simp only[q2,hA]<;>rfl) ed
  ·
   replace h:=h hA
   refine iZ 0 ?_
   refine ci.exit ?_
   refine d_.exit ?_
   refine cm.here ?_
   refine eb.normal ?_
   refine hJ ?_
   refine j4 ⟨(bi 119 [(2,aA 2 0),(3,aA 3 0),(64,ag (M.O.length:Int)),(65,ag 0)]),[(3,(bZ false M)),(2,(bg false J))],[⟨0,4,[]⟩]⟩ (M.O.length≤4611686018427387904) ?_ (fun ix=> ?_)
   ·
    refine bM [2000009] 9 ?_
    refine sLen 3 (some 64) [(63,bL (dM false) M.O),(62,aA 3 3)] (dM false) M.O (fun kB=> ?_)
    exact b6 [(65,ag 0)] kB
   replace h:=h ix
   refine fs 2 ?_
   obtain⟨sk,h⟩:=h
   refine km (fun(v:Int)=>(⟨(bi 119 [(2,aA 2 0),(3,aA 3 0),(64,ag (M.O.length:Int)),(65,ag v)]),[(3,(bZ false M)),(2,(bg false J))],[⟨0,4,[]⟩]⟩:St)) (fun(v:Int)=>aU eX v) (fun(v:Int)=>aV eX v) 0 (dC []) sk (fun dB a0=> ?_)
   replace h:=h dB a0
   refine ej [2000009] 10 [(66,an (decide (dB<(M.O.length:Int))))] [1] [4] ?_
   obtain⟨p3,h⟩:=h
   refine cB [] [0,1,4] ((decide (dB<(M.O.length:Int)))=true) ?_ (fun ic=> ?_)
   ·
    replace h:=p3
    refine dI (fun g_=> ?_) (fun g_=> ?_)
    ·
     refine eo ?_
     exact ci.normal (by simp only[q2,hA,g_]<;>rfl) ed
    ·
     replace h:=h g_
     refine iZ 2 ?_
     refine ci.exit ?_
     refine d_.exit ?_
     refine cm.here ?_
     refine eb.normal ?_
     obtain⟨lH,h⟩:=h
     refine j4 ⟨(bi 119 [(2,aA 2 0),(3,aA 3 0),(9,.ptr 0 1 0 0)]),[(3,(bZ false M)),(2,(bg false J))],(⟨1,4,[[an (aa M).ok,aj 1 0 (aa M).aw.length,aj 2 0 (aa M).ap.length,aj 3 0 (aa M).O.length]]⟩::⟨0,1,List.map aY (aa M).aw⟩::⟨0,2,List.map a7 (aa M).ap⟩::⟨0,5,a1 4 (aa M).O (List.range (aa M).O.length)⟩::List.map bo (List.map ad.ac (aa M).O))⟩ (True) ?_ (fun iy=> ?_)
     ·
      replace h:=lH
      refine bM [2000009] 21 ?_
      have ie:=h
      refine tv 2 (some 113) [(112,.agg (bZ false M))] [.agg (bZ false M)] (.agg [an (aa M).ok,aj 1 0 (aa M).aw.length,aj 2 0 (aa M).ap.length,aj 3 0 (aa M).O.length]) (⟨0,4,[]⟩::⟨0,1,List.map aY (aa M).aw⟩::⟨0,2,List.map a7 (aa M).ap⟩::⟨0,5,a1 4 (aa M).O (List.range (aa M).O.length)⟩::List.map bo (List.map ad.ac (aa M).O)) (Q1 M ie) (aD.cons (dc.agg (aD.cons (.bool _) (aD.cons cH (aD.cons cH (aD.cons cH aD.nil))))) aD.nil) Cm (rh Qh (by kernel_rfl)) ?_ (er:=by simp[mI,nU,iM])
      refine CQ 1 [(9,.ptr 0 1 0 0)] [(3,(bZ false M)),(2,(bg false J))] (⟨1,4,[[an false,aF,aF,aF]]⟩::⟨0,1,List.map aY (aa M).aw⟩::⟨0,2,List.map a7 (aa M).ap⟩::⟨0,5,a1 4 (aa M).O (List.range (aa M).O.length)⟩::List.map bo (List.map ad.ac (aa M).O)) ?_
      refine P7 1 [] (⟨1,4,[[an (aa M).ok,aj 1 0 (aa M).aw.length,aj 2 0 (aa M).ap.length,aj 3 0 (aa M).O.length]]⟩::⟨0,1,List.map aY (aa M).aw⟩::⟨0,2,List.map a7 (aa M).ap⟩::⟨0,5,a1 4 (aa M).O (List.range (aa M).O.length)⟩::List.map bo (List.map ad.ac (aa M).O)) (φ:=1=1) (ψ:=4≤4) rfl (by decide) ?_
      exact b6 [] trivial
     unfold QG at h
     refine hJ ?_
     refine bM [2000009] 22 ?_
     obtain⟨ha,h⟩:=h
     refine tu 2 (some 115) [(114,.agg (bg false J))] [.agg (bg false J),.ptr 0 1 0 0] _ (Rl J 1 (aa M).ok (aa M).aw (aa M).ap (aa M).O (List.range (aa M).O.length) (List.map ad.ac (aa M).O) ha) (fun r H' ak=>by obtain⟨_,_,_,rfl,_⟩:=ak;rfl) ?_
     rintro r H' ⟨fm,i28,k3,rfl,rfl,o8⟩
     replace h:=h fm i28 k3 o8
     refine dY [] ?_
     refine eb.normal ?_
     obtain⟨lf,h⟩:=h
     refine j4 ⟨(bi 119 [(4,an (oE M (Frame.mk (aa M).ok (aa M).aw (aa M).ap (view fm i28 k3))))]),[(3,(bZ false M)),(2,(bg false J))],(⟨1,4,[[an (aa M).ok,aj 1 0 (aa M).aw.length,aj 2 0 (aa M).ap.length,aj 3 0 fm.length]]⟩::⟨0,1,List.map aY (aa M).aw⟩::⟨0,2,List.map a7 (aa M).ap⟩::⟨0,5,a1 4 fm i28⟩::List.map bo k3)⟩ (True) ?_ (fun nf=> ?_)
     ·
      replace h:=lf
      refine bM [2000009] 23 ?_
      refine nS 2 (some 117) (.agg [an (aa M).ok,aj 1 0 (aa M).aw.length,aj 2 0 (aa M).ap.length,aj 3 0 fm.length]) [(116,.agg (bZ false M))] (φ:=1=1) rfl ?_
      obtain⟨jC,lc,jD,ld⟩:=h
      refine mg 1 (some 118) [] [.agg (bZ false M),.agg [an (aa M).ok,aj 1 0 (aa M).aw.length,aj 2 0 (aa M).ap.length,aj 3 0 fm.length]] (adS M (Frame.mk (aa M).ok (aa M).aw (aa M).ap (view fm i28 k3)) ld) (aD.cons (dc.agg (aD.cons (.bool _) (aD.cons cH (aD.cons cH (aD.cons cH aD.nil))))) (aD.cons (dc.agg (aD.cons (.bool _) (aD.cons (nn (sz:=1) (by simp) rfl (s6) jC) (aD.cons (nn (sz:=2) (by simp) rfl (uI) lc) (aD.cons (tx (s:=4) (ws:=fm) (ids:=i28) (bs:=k3) (by simp) rfl (fun id k h=>by simpa using h) jD.1 jD.2.1 jD.2.2) aD.nil))))) aD.nil)) ?_
      exact b6 [(4,an (oE M (Frame.mk (aa M).ok (aa M).aw (aa M).ap (view fm i28 k3))))] trivial
     exact hr (nm (an (oE M (Frame.mk (aa M).ok (aa M).aw (aa M).ap (view fm i28 k3)))) (ii.h4 (np h)))
   replace h:=h ic
   refine hJ ?_
   refine fs 3 ?_
   refine ej [2000009] 11 [(7,ag dB),(67,ag dB)] [1] [4] ?_
   obtain⟨CA,h⟩:=h
   refine cB [] [5] ((!(!(hn J M dB)))=true) ?_ (fun jE=> ?_)
   ·
    replace h:=CA
    obtain⟨mD,h⟩:=h
    refine cB [(72,an (!(hn J M dB)))] [5] (True) ?_ (fun nQ=> ?_)
    ·
     replace h:=mD
     refine bM [2000009] 12 ?_
     have mc:=h
     refine mg 4 (some 71) [(70,ag dB),(69,.agg (bZ false M)),(68,.agg (bg false J))] [.agg (bg false J),.agg (bZ false M),ag dB] (adH J M dB mc) (aD.cons (dc.agg (aD.cons (.int _ _) (aD.cons cH (aD.cons cH (aD.cons cH (aD.cons (.int _ _) aD.nil)))))) (aD.cons (dc.agg (aD.cons (.bool _) (aD.cons cH (aD.cons cH (aD.cons cH aD.nil))))) (aD.cons (dc.h4 (.int _ _)) aD.nil))) ?_
     exact b6 [(72,an (!(hn J M dB)))] trivial
    refine dI (fun lg=> ?_) (fun lg=> ?_)
    ·
     replace h:=h lg
     refine ej [2000009] 13 [(4,an false)] [1] [] ?_
     exact hr (ci.ret (cm.ret (eb.ret (d_.ret (cm.ret (eb.ret (nm (an false) (ii.h4 (np h)))))))))
    ·
     refine eo ?_
     exact ci.normal (by simp only[q2,hA,ic,lg]<;>rfl) ed
   replace h:=h jE
   refine cB [(75,ag (M.O.length:Int)),(76,ag 0)] [5] (True) ?_ (fun ng=> ?_)
   ·
    refine bM [2000009] 14 ?_
    refine sLen 3 (some 75) [(74,bL (dM false) M.O),(73,aA 3 3)] (dM false) M.O (fun nh=> ?_)
    exact b6 [(76,ag 0)] trivial
   refine fs 4 ?_
   obtain⟨kX,h⟩:=h
   refine km (fun(v:Int)=>(⟨(bi 119 [(2,aA 2 0),(3,aA 3 0),(7,ag dB),(64,ag (M.O.length:Int)),(65,ag dB),(75,ag (M.O.length:Int)),(76,ag v)]),[(3,(bZ false M)),(2,(bg false J))],[⟨0,4,[]⟩]⟩:St)) (fun(v:Int)=>bw eX dB v) (fun(v:Int)=>bt eX dB v) 0 (dC []) kX (fun cA a0=> ?_)
   replace h:=h cA a0
   refine ej [2000009] 15 [(77,an (decide (cA<(M.O.length:Int))))] [1] [7] ?_
   unfold Ir at h
   obtain⟨ni,h⟩:=h
   refine cB [] [0,1,7] ((decide (cA<(M.O.length:Int)))=true) ?_ (fun mf=> ?_)
   ·
    replace h:=ni
    refine dI (fun jF=> ?_) (fun jF=> ?_)
    ·
     refine eo ?_
     exact ci.normal (by simp only[q2,hA,ic,jE,jF]<;>rfl) ed
    ·
     replace h:=h jF
     refine iZ 4 ?_
     refine ci.exit ?_
     refine d_.exit ?_
     refine cm.here ?_
     refine cm.normal ?_
     refine eb.normal ?_
     refine bM [2000009] 20 ?_
     refine dY [(65,ag (IntKind.i64.wrap (dB+1))),(111,ag (IntKind.i64.wrap (dB+1)))] ?_
     exact d_.again (IntKind.i64.wrap (dB+1)) h (dC [])
   replace h:=h mf
   obtain⟨nR,h⟩:=h
   refine cB [] [7] ((!((dB !=cA)&&((nth (nth J.bW dB) cA)&&(((nth M.O dB).aq !=0)&&((nth M.O cA).aq !=0)))))=true) ?_ (fun sj=> ?_)
   ·
    replace h:=nR
    refine fs 5 ?_
    refine ej [2000009] 16 [(8,ag cA),(78,ag cA)] [1] [7] ?_
    unfold Iq at h
    obtain⟨oD,h⟩:=h
    refine cB [(109,an ((dB !=cA)&&((nth (nth J.bW dB) cA)&&(((nth M.O dB).aq !=0)&&((nth M.O cA).aq !=0)))))] [0,1,7] (True) ?_ (fun mE=> ?_)
    ·
     replace h:=oD
     refine bM [2000009] 17 ?_
     refine nT 4 82 (dB !=cA) [(81,an (dB !=cA)),(80,ag cA),(79,ag dB)] (fun o9=> ?_) (fun o9=> ?_)
     ·
      replace h:=h o9
      obtain⟨xr,h⟩:=h
      refine li 4 (some 86) [(85,ag dB),(84,bL (ja aY false) J.bW),(83,aA 2 3)] (ja aY false) J.bW 1 xr ?_
      obtain⟨mG,h⟩:=h
      refine li 3 (some 89) [(88,ag cA),(87,bL aY (nth J.bW dB))] aY (nth J.bW dB) 1 mG ?_
      refine nT 3 92 (nth (nth J.bW dB) cA) [(91,an (nth (nth J.bW dB) cA)),(90,an (nth (nth J.bW dB) cA))] (fun mF=> ?_) (fun mF=> ?_)
      ·
       replace h:=h mF
       obtain⟨q6,h⟩:=h
       refine li 4 (some 96) [(95,ag dB),(94,bL (dM false) M.O),(93,aA 3 3)] (dM false) M.O 5 q6 ?_
       refine nT 5 101 ((nth M.O dB).aq !=0) [(100,an ((nth M.O dB).aq !=0)),(99,an ((nth M.O dB).aq !=0)),(98,ag (nth M.O dB).aq),(97,.dA (dM false (nth M.O dB)) 0)] (fun o_=> ?_) (fun o_=> ?_)
       ·
        replace h:=h o_
        have zD:=h
        refine li 4 (some 105) [(104,ag cA),(103,bL (dM false) M.O),(102,aA 3 3)] (dM false) M.O 5 zD ?_
        exact b6 [(109,an ((nth M.O cA).aq !=0)),(108,an ((nth M.O cA).aq !=0)),(107,ag (nth M.O cA).aq),(106,.dA (dM false (nth M.O cA)) 0)] trivial (by simp only[q2,hA,ic,jE,mf,o9,mF,o_]<;>kernel_rfl)
       ·
        exact b6 ([(109,an false)]++gx [108,107,106,105,104,103,102]) trivial (by simp only[q2,hA,ic,jE,mf,o9,mF,o_]<;>kernel_rfl)
      ·
       exact b6 ([(109,an false)]++gx [108,107,106,105,104,103,102]++[(101,an false),(100,an false)]++gx [99,98,97,96,95,94,93]) trivial (by simp only[q2,hA,ic,jE,mf,o9,mF]<;>kernel_rfl)
     ·
      exact b6 ([(109,an false)]++gx [108,107,106,105,104,103,102]++[(101,an false),(100,an false)]++gx [99,98,97,96,95,94,93]++[(92,an false),(91,an false)]++gx [90,89,88,87,86,85,84,83]) trivial (by simp only[q2,hA,ic,jE,mf,o9]<;>kernel_rfl)
    refine dI (fun oB=> ?_) (fun oB=> ?_)
    ·
     replace h:=h oB
     refine ej [2000009] 18 [(4,an false)] [1] [] ?_
     exact hr (cm.ret (ci.ret (d_.ret (cm.ret (cm.ret (eb.ret (d_.ret (cm.ret (eb.ret (nm (an false) (ii.h4 (np h))))))))))))
    ·
     refine eo ?_
     refine cm.normal ?_
     exact ci.normal (by simp only[q2,hA,ic,jE,mf,oB]<;>rfl) ed
   replace h:=h sj
   refine bM [2000009] 19 ?_
   refine dY [(76,ag (IntKind.i64.wrap (cA+1))),(110,ag (IntKind.i64.wrap (cA+1)))] ?_
   exact d_.again (IntKind.i64.wrap (cA+1)) h (dC [])
 replace h:=h mb
 obtain⟨tp,h⟩:=h
 refine fa [] [5] (fun L=>(6,(a7 (nth M.ap eX)))::L) id ((!((!(b3 (nth M.ap eX).b5 1 2)) || (!(b3 (nth M.ap eX).aX 0 2))))=true) ?_ (fun tk=> ?_)
 ·
  replace h:=tp
  refine fs 1 ?_
  obtain⟨tn,h⟩:=h
  refine fa [(6,aA 6 0)] [5] (fun L=>(6,(a7 (nth M.ap eX)))::L) id (True) ?_ (fun zE=> ?_)
  ·
   replace h:=tn
   refine bM [2000009] 5 ?_
   have xt:=h
   refine li 1 (some 49) [] a7 M.ap 2 xt ?_
   exact b6 [(6,aA 6 0),(50,.agg (a7 (nth M.ap eX)))] trivial
  refine cB [(60,an ((!(b3 (nth M.ap eX).b5 1 2)) || (!(b3 (nth M.ap eX).aX 0 2))))] [0,1,5] (True) ?_ (fun sl=> ?_)
  ·
   refine bM [2000009] 6 ?_
   refine mg 3 (some 53) [(52,ag (nth M.ap eX).b5),(51,aA 6 0)] [ag (nth M.ap eX).b5,ag 1,ag 2] (Iu (nth M.ap eX).b5 1 2) (aD.cons (dc.h4 (.int _ _)) (aD.cons (dc.h4 (.int _ _)) (aD.cons (dc.h4 (.int _ _)) aD.nil))) ?_
   refine nT 2 55 (!(b3 (nth M.ap eX).b5 1 2)) [(54,an (!(b3 (nth M.ap eX).b5 1 2)))] (fun tl=> ?_) (fun tl=> ?_)
   ·
    exact b6 ([(60,an true)]++gx [59,58,57,56]) trivial (by simp only[q2,mb,tl]<;>kernel_rfl)
   ·
    refine mg 3 (some 58) [(57,ag (nth M.ap eX).aX),(56,aA 6 1)] [ag (nth M.ap eX).aX,ag 0,ag 2] (Iu (nth M.ap eX).aX 0 2) (aD.cons (dc.h4 (.int _ _)) (aD.cons (dc.h4 (.int _ _)) (aD.cons (dc.h4 (.int _ _)) aD.nil))) ?_
    exact b6 [(60,an (!(b3 (nth M.ap eX).aX 0 2))),(59,an (!(b3 (nth M.ap eX).aX 0 2)))] trivial (by simp only[q2,mb,tl]<;>kernel_rfl)
  refine dI (fun q7=> ?_) (fun q7=> ?_)
  ·
   replace h:=h q7
   refine ej [2000009] 7 [(4,an false)] [1] [] ?_
   exact hr (cm.ret (ci.ret (d_.ret (cm.ret (eb.ret (nm (an false) (ii.h4 (np h))))))))
  ·
   refine eo ?_
   refine cm.normal ?_
   exact ci.normal (by simp only[q2,mb,q7]<;>rfl) ed
 replace h:=h tk
 refine bM [2000009] 8 ?_
 refine dY [(47,ag (IntKind.i64.wrap (eX+1))),(61,ag (IntKind.i64.wrap (eX+1)))] ?_
 exact d_.again (IntKind.i64.wrap (eX+1)) h (dC [6])
theorem adh (J:az) (M:Frame) (aI:yu J M):b2 Try.prog 41 [.agg (bg false J),.agg (bZ false M)] (an (eI J M)):=adj J M (eI J M) (ct M.ap.length (fun j=>(!(b3 (nth M.ap j).b5 1 2)) || (!(b3 (nth M.ap j).aX 0 2)))) (cG M.ap.length) (fun _ i=>(∀x∈M.ap,jA x=true)∧ct M.O.length (fun i=> !(hn J M i) || xC J M M.O.length i) i) (fun _=>cG M.O.length) (fun _ i=>ct M.O.length (fun k=>js J M i k)) (fun _ _=>cG M.O.length) (by
 unfold Ip It
 have hs:jH M:=aI
 have no: ∀φ:Prop,(eI J M=true→φ)→ ¬φ→false=eI J M:=fun φ h1 h2=>by
  cases h:eI J M with
  | false=>rfl
  | true=>exact absurd (h1 h) h2
 have D:=fun h=>(uc (p:=J) (f:=M)).1 h
 refine⟨fun ak=>no _ D (fun bh=>by have:=bh.1;unfold rP at this;rw[ak] at this;cases this),fun ak aG=>⟨df (dp _),fun v a0=> ?_⟩⟩
 have pF:rP J M=true:=ak
 obtain⟨jr,dl,qi,j3,jL⟩:=m0.1 pF
 have cF:=sh jr
 have eg:=zw jr
 unfold Is
 refine⟨fun hv hm=> ?_,fun hv=>⟨⟨cb a0 hv,fun hb=>no _ D fun bh=> ?_⟩,fun hb=>cO (cw aG) a0 hv (not_eq hb)⟩⟩
 ·have k8: ∀x∈M.ap,jA x=true:=fun x hx=>by
   have:=ml (q:=fun x:a8=>(!(b3 x.b5 1 2)) || (!(b3 x.aX 0 2))) (gO a0 hv) x hx
   unfold jA
   simpa[Bool.and_eq_true] using this
  refine⟨⟨k8,df (dp _)⟩,fun i de=>⟨fun hi=> ?_,fun hi=> ?_⟩⟩
  ·have eK:=gO de.2 hi
   have yR: ∀i:Int,0≤i→i<M.O.length→hn J M i=true:=fun i i0 i1=>by
    have:=eK i i0 i1
    rw[Bool.or_eq_false_iff] at this
    simpa using this.1
   have EW: ∀i k:Int,0≤i→i<M.O.length→0≤k→k<M.O.length→js J M i k=false:=fun i k i0 i1 a4 da=>by
    have:=eK i i0 i1
    rw[Bool.or_eq_false_iff] at this
    have h2:=this.2
    unfold xC at h2
    rw[List.any_eq_false] at h2
    have:=h2 k.toNat (List.mem_range.2 (by omega))
    rw[Int.toNat_of_nonneg a4] at this
    simpa using this
   have cZ:ih J M:=ED pF fun i i0 i1=>by
    have:=yR i i0 i1
    rw[Bo,Bool.and_eq_true] at this;exact this.1
   obtain⟨fv,fZ,fE⟩:=we M.O
   have lA:gA M.O (List.range M.O.length) (M.O.map ad.ac):=⟨fv,fZ,fun b hb=>by
    obtain⟨h,b0,rfl⟩:=List.mem_map.1 hb;exact hs.2.2.2 h b0⟩
   have BL:c7 M.ok M.aw M.ap M.O (List.range M.O.length) (M.O.map ad.ac)=M:=by unfold c7;rw[fE]
   refine⟨hs,⟨lA,?_⟩,fun w i b kv=> ?_⟩
   ·show tA J (c7 M.ok M.aw M.ap M.O (List.range M.O.length) (M.O.map ad.ac))
    rw[BL];exact⟨cF,cZ⟩
   ·obtain⟨G,hv⟩:=kv
    replace hv:view w i b=(ea J (c7 M.ok M.aw M.ap M.O (List.range M.O.length) (M.O.map ad.ac))).O:=hv
    rw[BL] at hv
    have aL:w.length=M.O.length:=by rw[←jo G.ok,hv];exact pb _ _ _
    have Ly:=zU cZ M.O.length
    obtain⟨s1,s2,lh,HM⟩:=hs
    have pN:(ea J M).O.length=M.O.length:=pb _ _ _
    have wx: ∀h∈(ea J M).O,h.ac.length≤1048576:=fun h b0=>by
     obtain⟨j,aN,rfl⟩:=List.mem_iff_getElem.1 b0
     have:=Ly.ac j _ _ (List.getElem?_eq_getElem aN) (List.getElem?_eq_getElem (by omega))
     rw[this]
     have:=(cF.ai _ (List.getElem_mem (show j<J.O.length by omega))).2.1
     omega
    refine⟨⟨by show M.aw.length≤_;omega,by show M.ap.length≤_;omega,⟨G.ok,by omega,fun x hx=>by have:=G.len x hx;omega⟩,?_,⟨s1,s2,lh,HM⟩,⟨s1,s2,?_,?_⟩,fun j x y br e2=> ?_⟩,?_⟩
    ·show M.O.length=(view w i b).length;rw[jo G.ok,aL]
    ·show(view w i b).length≤_;rw[jo G.ok];omega
    ·show ∀h∈view w i b,_
     rw[hv];exact wx
    ·replace e2:(view w i b)[j]?=some y:=e2
     rw[hv] at e2
     have aN:=(List.getElem?_eq_some_iff.1 br).1
     have hw:=List.getElem?_eq_getElem (show j<J.O.length by omega)
     rw[cZ.ac j _ _ br hw,Ly.ac j _ _ e2 hw]
    ·unfold oE
     show decide (M.O=view w i b)=_
     rw[hv]
     by_cases h:M.O=(ea J M).O
     ·rw[decide_eq_true h,uc.2 ⟨pF,k8,yR,EW,h⟩]
     ·rw[decide_eq_false h]
      exact no _ D fun bh=>h bh.2.2.2.2
  ·have b9:=cb de.2 hi
   refine⟨⟨⟨cF,hs,jL,b9.1,by omega⟩,fun hb=>no _ D fun bh=> ?_⟩,fun hb=>⟨df (dp _),fun k hK=> ?_⟩⟩
   ·rw[bh.2.2.1 i b9.1 (by omega)] at hb;cases hb
   ·have hb:hn J M i=true:=by simpa using hb
    unfold Ir
    refine⟨fun hk=> ?_,fun hk=>⟨?_,fun ak=>cO (cw hm) hK hk (not_eq ak)⟩⟩
    ·have:=cO (cw hm) de.2 hi (show(!(hn J M i) || xC J M M.O.length i)=false by
      rw[hb]
      exact List.any_eq_false.2 fun k jP=>by rw[gO hK hk k (by omega) (by have:=List.mem_range.1 jP;omega)];simp)
     exact⟨⟨k8,this.1⟩,this.2⟩
    ·have qE:=cb hK hk
     have hL:=eg.len
     have e1:=eg.row i b9.1 (by omega)
     unfold Iq
     refine⟨fun _=>⟨⟨b9.1,by omega⟩,⟨qE.1,by omega⟩,fun _=>⟨b9,fun _=>qE⟩⟩,fun ak=>no _ D fun bh=> ?_⟩
     have:=bh.2.2.2.1 i k b9.1 (by omega) qE.1 (by omega)
     have ak:js J M i k=true:=ak
     rw[this] at ak;cases ak
 ·have:=bh.2.1 _ (dz (cb a0 hv).2)
  unfold jA at this
  rw[Bool.and_eq_true] at this
  rw[this.1,this.2] at hb;cases hb)
def Yv:List Item:=[ao 0,ao 1,ao 2,ao 3,ao 4,ao 5]
def Yw:List (List Nat):=[[],[],[],[1,2],rg 0 4,rg 0 5]
def Mz (bw:dP Prop) (bt:dP Nat) (J:az) (M:Frame) (al:Bool) (fw mm c3:Int):Prop:=
  ((((nth M.O c3).aq !=0)=true→(0≤mm∧mm.toNat<M.O.length)∧(((nth M.O mm).aq !=0)=true→(0≤c3∧c3.toNat<J.bW.length)∧(0≤mm∧mm.toNat<(nth J.bW c3).length)))∧((((nth M.O c3).aq !=0)&&(((nth M.O mm).aq !=0)&&(nth (nth J.bW c3) mm)))=true→false=al))∧((!(((nth M.O c3).aq !=0)&&(((nth M.O mm).aq !=0)&&(nth (nth J.bW c3) mm))))=true→bw fw c3 (IntKind.i64.wrap (mm+1))∧bt fw c3 (IntKind.i64.wrap (mm+1))<bt fw c3 mm)
def MA (aU:Int→Int→Prop) (aV:Int→Int→Nat) (bw:dP Prop) (bt:dP Nat) (J:az) (M:Frame) (al:Bool) (fw c3:Int):Prop:=
  ((((nth M.O c3).aq==0)=true→(nth M.O c3).ar=true→false=al)∧(((nth M.O c3).aq==0)=false→(bif ((nth M.O c3).aq==2) then((nth M.O c3).aq==2) else((nth M.O c3).aq==3))=true→(!(nth M.O c3).ar)=true→false=al))∧((bif ((nth M.O c3).aq==0) then(!(nth M.O c3).ar) else(!(bif ((nth M.O c3).aq==2) then((nth M.O c3).aq==2) else((nth M.O c3).aq==3)) || (!(!(nth M.O c3).ar))))=true→bw fw c3 0∧ ∀(mm:Int),bw fw c3 mm→(((decide (mm<c3))=false→aU fw (IntKind.i64.wrap (c3+1))∧aV fw (IntKind.i64.wrap (c3+1))<aV fw c3)∧((decide (mm<c3))=true→Mz bw bt J M al fw mm c3)))
def MB (aU:Int→Int→Prop) (aV:Int→Int→Nat) (bw:dP Prop) (bt:dP Nat) (J:az) (M:Frame) (al:Bool) (fw c3:Int):Prop:=
  ((((nth M.O c3).aq==3)=true→((decide ((nth M.O c3).au<1)) || (decide ((nth M.O c3).au>J.dx)))=true→false=al)∧(((nth M.O c3).aq==3)=false→((nth M.O c3).au !=0)=true→false=al))∧((bif ((nth M.O c3).aq==3) then(!((decide ((nth M.O c3).au<1)) || (decide ((nth M.O c3).au>J.dx)))) else(!((nth M.O c3).au !=0)))=true→MA aU aV bw bt J M al fw c3)
def MC (aU:Int→Int→Prop) (aV:Int→Int→Nat) (bw:dP Prop) (bt:dP Nat) (J:az) (M:Frame) (al:Bool) (fw c3:Int):Prop:=
  ((((nth M.O c3).aq !=4)=true→(((nth M.O c3).af !=0) || (j7 (nth M.O c3).ac true))=true→false=al)∧(((nth M.O c3).aq !=4)=false→(0≤(nth M.O c3).af∧(nth M.O c3).af≤((nth M.O c3).ac.length:Int))∧((j7 ((nth M.O c3).ac.take (nth M.O c3).af.toNat) false)=true→false=al)))∧((bif ((nth M.O c3).aq !=4) then(!(((nth M.O c3).af !=0) || (j7 (nth M.O c3).ac true))) else(!(j7 ((nth M.O c3).ac.take (nth M.O c3).af.toNat) false)))=true→MB aU aV bw bt J M al fw c3)
def MD (aU:Int→Int→Prop) (aV:Int→Int→Nat) (bw:dP Prop) (bt:dP Nat) (J:az) (M:Frame) (al:Bool) (fw c3:Int):Prop:=
  (((decide ((nth M.O c3).aq<0)) || ((decide ((nth M.O c3).aq>4)) || ((((nth M.O c3).ac.length:Int) !=((nth J.O c3).ai.length:Int)) || ((decide ((nth M.O c3).af<0)) || (decide ((nth M.O c3).af ≥ ((nth J.O c3).ai.length:Int)))))))=true→false=al)∧((!((decide ((nth M.O c3).aq<0)) || ((decide ((nth M.O c3).aq>4)) || ((((nth M.O c3).ac.length:Int) !=((nth J.O c3).ai.length:Int)) || ((decide ((nth M.O c3).af<0)) || (decide ((nth M.O c3).af ≥ ((nth J.O c3).ai.length:Int))))))))=true→MC aU aV bw bt J M al fw c3)
def ME (ay:Int→Prop) (aB:Int→Nat) (M:Frame) (al:Bool) (fw:Int):Prop:=
  ((0≤fw∧fw.toNat<M.ap.length)∧((bif ((nth M.ap fw).b5 !=1) then(((nth M.ap fw).b5 !=2) || ((decide ((nth M.ap fw).aX<0)) || (decide ((nth M.ap fw).aX>2)))) else((decide ((nth M.ap fw).aX<0)) || (decide ((nth M.ap fw).aX>2))))=true→false=al))∧((!(bif ((nth M.ap fw).b5 !=1) then(((nth M.ap fw).b5 !=2) || ((decide ((nth M.ap fw).aX<0)) || (decide ((nth M.ap fw).aX>2)))) else((decide ((nth M.ap fw).aX<0)) || (decide ((nth M.ap fw).aX>2)))))=true→ay (IntKind.i64.wrap (fw+1))∧aB (IntKind.i64.wrap (fw+1))<aB fw)
def MF (ay:Int→Prop) (aB:Int→Nat) (aU:Int→Int→Prop) (aV:Int→Int→Nat) (bw:dP Prop) (bt:dP Nat) (J:az) (M:Frame) (al:Bool) (fw:Int):Prop:=
  ((decide (fw<(M.ap.length:Int)))=false→M.O.length≤4611686018427387904→aU fw 0∧ ∀(c3:Int),aU fw c3→(((decide (c3<(M.O.length:Int)))=false→(tA J M)∧((vd M (ea J M))=al))∧((decide (c3<(M.O.length:Int)))=true→(0≤c3∧c3.toNat<M.O.length)∧((0≤c3∧c3.toNat<J.O.length)∧((nth J.O c3).ai.length≤4611686018427387904→MD aU aV bw bt J M al fw c3)))))∧((decide (fw<(M.ap.length:Int)))=true→ME ay aB M al fw)
def MG (ay:Int→Prop) (aB:Int→Nat) (aU:Int→Int→Prop) (aV:Int→Int→Nat) (bw:dP Prop) (bt:dP Nat) (J:az) (M:Frame) (al:Bool):Prop:=
  (((!(dT J)) || ((!M.ok) || (((M.aw.length:Int) !=J.ai) || (((M.ap.length:Int) !=(J.a5.length:Int)) || ((M.O.length:Int) !=(J.O.length:Int))))))=true→false=al)∧((!((!(dT J)) || ((!M.ok) || (((M.aw.length:Int) !=J.ai) || (((M.ap.length:Int) !=(J.a5.length:Int)) || ((M.O.length:Int) !=(J.O.length:Int)))))))=true→M.ap.length≤4611686018427387904→ay 0∧ ∀(fw:Int),ay fw→(MF ay aB aU aV bw bt J M al fw))
def My (J:az) (M:Frame) (al:Bool) (ay:Int→Prop) (aB:Int→Nat) (aU:Int→Int→Prop) (aV:Int→Int→Nat) (bw:dP Prop) (bt:dP Nat):Prop:=
 MG ay aB aU aV bw bt J M al
theorem Yt (J:az) (M:Frame) (aI:yu J M):b2 Try.prog 43 [.agg (bg false J),.agg (bZ false M)] (an (eI J M)):=(fun(ay:Int→Prop) (aB:Int→Nat) (aU:Int→Int→Prop) (aV:Int→Int→Nat) (bw:dP Prop) (bt:dP Nat) (h:My J M (eI J M) ay aB aU aV bw bt)=>b2.run (ps:=[.dt,.frame]) (rs:=[.bool]) (x:=(J,M,())) (r:=((eI J M),())) ⟨190,ep,[Ns,Zv,Zt,acC]⟩ ⟨[],[(40,Yv,Yw)],[],[],[]⟩ (e9 [2,3,46,47] [(3,4),(2,5)] 48 ay aB fun aM=>(e9 [2,3,72,73] [(3,4),(2,5)] 74 (aU aM) (aV aM) fun bI=>(e9 [2,3,7,8,72,73,74,157] [(8,5),(3,4),(2,5)] 158 (bw aM bI) (bt aM bI) fun _=> .nil))) Try.func43 h) (ct M.ap.length (fun j=> !jA (nth M.ap j))) (cG M.ap.length) (fun _ i=>(∀x∈M.ap,jA x=true)∧ct M.O.length (fun i=> !(hn J M i) || xC J M i.toNat i) i) (fun _=>cG M.O.length) (fun _ i=>ct i (fun k=>js J M i k)) (fun _ i=>cG i) (by
 unfold My MG
 have hs:jH M:=aI
 have no: ∀φ:Prop,(eI J M=true→φ)→ ¬φ→false=eI J M:=fun φ h1 h2=>by
  cases h:eI J M with
  | false=>rfl
  | true=>exact absurd (h1 h) h2
 have D:=fun h=>(uc (p:=J) (f:=M)).1 h
 refine⟨fun ak=>no _ D (fun bh=>by have:=bh.1;unfold rP at this;rw[ak] at this;cases this),fun ak aG=>⟨df (dp _),fun v a0=> ?_⟩⟩
 have pF:rP J M=true:=ak
 obtain⟨jr,dl,qi,j3,jL⟩:=m0.1 pF
 have cF:=sh jr
 have eg:=zw jr
 unfold MF
 refine⟨fun hv hm=> ?_,fun hv=> ?_⟩
 ·have k8: ∀x∈M.ap,jA x=true:=fun x hx=>by
   simpa using ml (q:=fun x:a8=> !jA x) (gO a0 hv) x hx
  refine⟨⟨k8,df (dp _)⟩,fun i de=>⟨fun hi=> ?_,fun hi=> ?_⟩⟩
  ·have eK:=gO de.2 hi
   have yR: ∀i:Int,0≤i→i<M.O.length→hn J M i=true:=fun i i0 i1=>by
    have:=eK i i0 i1
    rw[Bool.or_eq_false_iff] at this
    simpa using this.1
   have L6: ∀i k:Int,0≤i→i<M.O.length→0≤k→k<i→js J M i k=false:=fun i k i0 i1 a4 da=>by
    have:=eK i i0 i1
    rw[Bool.or_eq_false_iff] at this
    have h2:=this.2
    unfold xC at h2
    rw[List.any_eq_false] at h2
    have:=h2 k.toNat (List.mem_range.2 (by omega))
    rw[Int.toNat_of_nonneg a4] at this
    simpa using this
   have EW: ∀i k:Int,0≤i→i<M.O.length→0≤k→k<M.O.length→js J M i k=false:=fun i k i0 i1 a4 da=>by
    rcases Int.lt_trichotomy k i with h | h | h
    ·exact L6 i k i0 i1 a4 h
    ·unfold js;rw[h];simp
    ·rw[TK eg jL i0 i1 a4 da];exact L6 k i a4 da i0 h
   have cZ:ih J M:=ED pF fun i i0 i1=>by
    have:=yR i i0 i1
    rw[Bo,Bool.and_eq_true] at this;exact this.1
   refine⟨⟨cF,cZ⟩,?_⟩
   obtain⟨s1,s2,lh⟩:=pc J M M.O.length
   unfold vd
   rw[show(ea J M).aw=M.aw from s2,show(ea J M).ap=M.ap from lh]
   unfold eqv
   by_cases h:M.O=(ea J M).O
   ·rw[decide_eq_true h,uc.2 ⟨pF,k8,yR,EW,h⟩];simp
   ·rw[decide_eq_false h,Bool.and_false]
    exact no _ D fun bh=>h bh.2.2.2.2
  ·have b9:=cb de.2 hi
   have gg:i<(M.O.length:Int):=by simpa using hi
   have uU: ∀c:Bool,c=false→(hn J M i=true→c=true)→false=eI J M:=fun c hc h=>no _ D fun bh=>by
    have:=h (bh.2.2.1 i b9.1 (by omega));rw[hc] at this;cases this
   have P:=Bo J M i
   refine⟨b9,⟨b9.1,by omega⟩,fun s5=> ?_⟩
   unfold MD
   refine⟨fun ak=>uU (sV J M i) (by unfold sV;rw[ak];rfl) fun h=>by rw[P,Bool.and_eq_true] at h;exact h.1,fun Fk=> ?_⟩
   have h1:sV J M i=true:=Fk
   rw[h1,Bool.true_and] at P
   have Xk:0≤(nth M.O i).af∧(nth M.O i).af≤((nth M.O i).ac.length:Int):=by
    unfold sV at h1
    simp only[Bool.not_eq_true',Bool.or_eq_false_iff,bne_eq_false_iff_eq,decide_eq_false_iff_not] at h1
    omega
   unfold MC
   refine⟨⟨fun bd ak=>uU (uq M i) (by unfold uq;rw[bd,ak];rfl) fun h=>by rw[P,Bool.and_eq_true] at h;exact h.1,
    fun bd=>⟨Xk,fun ak=>uU (uq M i) (by unfold uq;rw[bd,ak];rfl) fun h=>by rw[P,Bool.and_eq_true] at h;exact h.1⟩⟩,fun kw=> ?_⟩
   have h2:uq M i=true:=kw
   rw[h2,Bool.true_and] at P
   unfold MB
   refine⟨⟨fun bd ak=>uU (ur J M i) (by unfold ur;rw[bd,ak];rfl) fun h=>by rw[P,Bool.and_eq_true] at h;exact h.1,
    fun bd ak=>uU (ur J M i) (by unfold ur;rw[bd,ak];rfl) fun h=>by rw[P,Bool.and_eq_true] at h;exact h.1⟩,fun XP=> ?_⟩
   have aO:ur J M i=true:=XP
   rw[aO,Bool.true_and] at P
   unfold MA
   refine⟨⟨fun bd ak=>uU (us M i) (by unfold us;rw[bd,ak];rfl) fun h=>by rw[P] at h;exact h,
    fun bd hc ak=>uU (us M i) (by unfold us;rw[bd,hc,ak];rfl) fun h=>by rw[P] at h;exact h⟩,fun XQ=> ?_⟩
   have bd:us M i=true:=XQ
   rw[bd] at P
   refine⟨df b9.1,fun k hK=>⟨fun hk=> ?_,fun hk=> ?_⟩⟩
   ·have:=cO (cw hm) de.2 hi (show(!(hn J M i) || xC J M i.toNat i)=false by
     rw[P]
     exact List.any_eq_false.2 fun k jP=>by rw[gO hK hk k (by omega) (by have:=List.mem_range.1 jP;omega)];simp)
    exact⟨⟨k8,this.1⟩,this.2⟩
   ·have agd:k<i:=by simpa using hk
    have rX:=hK.1
    have hL:=eg.len
    have e1:=eg.row i b9.1 (by omega)
    have hc:(((nth M.O i).aq !=0)&&(((nth M.O k).aq !=0)&&(nth (nth J.bW i) k)))=js J M i k:=by
     unfold js k4
     rw[show(i !=k)=true by simpa using(show i≠k by omega)]
     cases((nth M.O i).aq !=0)<;>cases((nth M.O k).aq !=0)<;>cases(nth (nth J.bW i) k)<;>rfl
    unfold Mz
    rw[hc]
    refine⟨⟨fun _=>⟨⟨rX,by omega⟩,fun _=>⟨⟨b9.1,by omega⟩,rX,by omega⟩⟩,fun ak=>no _ D fun bh=> ?_⟩,fun ak=>cO (by omega) hK hk (not_eq ak)⟩
    have:=bh.2.2.2.1 i k b9.1 (by omega) rX (by omega)
    rw[this] at ak;cases ak
 ·unfold ME
  rw[abk]
  refine⟨⟨cb a0 hv,fun hb=>no _ D fun bh=> ?_⟩,fun hb=>cO (cw aG) a0 hv (not_eq hb)⟩
  have:=bh.2.1 _ (dz (cb a0 hv).2)
  rw[this] at hb;cases hb)
def Yu:eC Try.prog:=⟨43,[.dt,.frame],[.bool],some fun x=>yu x.1 x.2.1,fun x=>((eI x.1 x.2.1),()),fun x h=>Yt x.1 x.2.1 h⟩
def Nf (J:Int) (M:Int) (al:Bool):Prop:=
 ((decide (J ≥ 0))&&(decide (J<M)))=al
theorem Ze (J:Int) (M:Int):b2 Try.prog 107 [ag J,ag M] (an (pT J M)):=(fun(h:Nf J M (pT J M))=>b2.run (ps:=[.int,.int]) (rs:=[.bool]) (x:=(J,M,())) (r:=((pT J M),())) ⟨12,ep,[]⟩ ⟨[],[],[],[],[]⟩ .nil Try.func107 h) (by
 unfold Nf pT
 rfl)
def Zf:eC Try.prog:=⟨107,[.int,.int],[.bool],none,fun x=>((pT x.1 x.2.1),()),fun x h=>Ze x.1 x.2.1⟩
def Rn (ay:Int→Prop) (aB:Int→Nat) (J:az) (M:Frame) (U db:Int) (al:Bool) (bG:Int):Prop:=
  ((0≤bG∧bG.toNat<(nth J.O U).ai.length)∧((((nth (nth J.O U).ai bG)==db)=true→0≤U∧U.toNat<M.O.length)∧((((nth (nth J.O U).ai bG)==db)&&(decide (bG ≥ (nth M.O U).af)))=true→true=al)))∧((!(((nth (nth J.O U).ai bG)==db)&&(decide (bG ≥ (nth M.O U).af))))=true→ay (IntKind.i64.wrap (bG+1))∧aB (IntKind.i64.wrap (bG+1))<aB bG)
def Ro (ay:Int→Prop) (aB:Int→Nat) (J:az) (M:Frame) (U db:Int) (al:Bool):Prop:=
  ((0≤U∧U.toNat<M.O.length)∧(((nth M.O U).aq==0)=true→false=al))∧((!((nth M.O U).aq==0))=true→(0≤U∧U.toNat<J.O.length)∧((nth J.O U).ai.length≤4611686018427387904→ay 0∧ ∀(bG:Int),ay bG→(((decide (bG<((nth J.O U).ai.length:Int)))=false→false=al)∧((decide (bG<((nth J.O U).ai.length:Int)))=true→Rn ay aB J M U db al bG))))
def Rm (J:az) (M:Frame) (U:Int) (db:Int) (al:Bool) (ay:Int→Prop) (aB:Int→Nat):Prop:=
 Ro ay aB J M U db al
theorem ad6 (J:az) (M:Frame) (U:Int) (db:Int) (aI:wL J M U db):b2 Try.prog 111 [.agg (bg false J),.agg (bZ false M),ag U,ag db] (an (jc J M U db)):=(fun(ay:Int→Prop) (aB:Int→Nat) (h:Rm J M U db (jc J M U db) ay aB)=>b2.run (ps:=[.dt,.frame,.int,.int]) (rs:=[.bool]) (x:=(J,M,U,db,())) (r:=((jc J M U db),())) ⟨44,ep,[]⟩ ⟨[],[],[],[],[]⟩ (e9 [2,3,5,23,24] [(5,4)] 25 ay aB fun _=> .nil) Try.func111 h) (ct (nth J.O U).ai.length (fun k=>((nth (nth J.O U).ai k)==db)&&(decide (k ≥ (nth M.O U).af)))) (cG (nth J.O U).ai.length) (by
 unfold Rm Ro
 obtain⟨hf,aT,h1⟩:=aI
 have hw:=hf.fr.O
 have bf:U.toNat<J.O.length:=by omega
 have qG:U.toNat<M.O.length:=by omega
 have hg:=hf.fr.af _ (dz qG)
 refine⟨⟨⟨aT,qG⟩,fun h=> ?_⟩,fun h=>⟨⟨aT,bf⟩,fun aG=>⟨df (dp _),fun v a0=>⟨fun hv=> ?_,fun hv=> ?_⟩⟩⟩⟩
 ·unfold jc
  rw[show((nth M.O U).aq !=0)=false by simpa using h];rfl
 ·have hs:((nth M.O U).aq !=0)=true:=by simpa using h
  unfold jc
  rw[hs,Bool.true_and,eq_comm,←Bool.not_eq_true,v5]
  rintro⟨k,hk,aL,he⟩
  have:=gO a0 hv k (by omega) (by omega)
  rw[jg aL,he] at this
  simp at this
  omega
 ·have hs:((nth M.O U).aq !=0)=true:=by simpa using h
  have b9:=cb a0 hv
  unfold Rn
  refine⟨⟨b9,fun _=>⟨aT,qG⟩,fun hb=> ?_⟩,fun hb=>cO (cw aG) a0 hv (not_eq hb)⟩
  unfold jc
  rw[hs,Bool.true_and,eq_comm,v5]
  simp only[Bool.and_eq_true,beq_iff_eq,decide_eq_true_eq] at hb
  exact⟨v.toNat,by omega,b9.2,by rw[←gk b9.2];exact hb.1⟩)
def ad7:eC Try.prog:=⟨111,[.dt,.frame,.int,.int],[.bool],some fun x=>wL x.1 x.2.1 x.2.2.1 x.2.2.2.1,fun x=>((jc x.1 x.2.1 x.2.2.1 x.2.2.2.1),()),fun x h=>ad6 x.1 x.2.1 x.2.2.1 x.2.2.2.1 h⟩
def Nd (J:az) (M:Frame) (U:Int) (db:Int) (al:Bool):Prop:=
 (0≤U∧U.toNat<J.O.length)∧(((0≤U∧U.toNat<M.O.length)∧(((nth M.O U).aq !=0)=true→0≤U∧U.toNat<M.O.length))∧((((nth M.O U).aq !=0)&&((decide ((nJ (nth J.O U).ai db) ≥ (nth M.O U).af))&&(decide ((nJ (nth J.O U).ai db) ≥ 0))))=al))
theorem Y5 (J:az) (M:Frame) (U:Int) (db:Int) (aI:wL J M U db):b2 Try.prog 152 [.agg (bg false J),.agg (bZ false M),ag U,ag db] (an (jc J M U db)):=(fun(h:Nd J M U db (jc J M U db))=>b2.run (ps:=[.dt,.frame,.int,.int]) (rs:=[.bool]) (x:=(J,M,U,db,())) (r:=((jc J M U db),())) ⟨39,ep,[Qx]⟩ ⟨[],[],[],[],[]⟩ .nil Try.func152 h) (by
 unfold Nd
 obtain⟨hf,aT,h1⟩:=aI
 have hw:=hf.fr.O
 have bf:U.toNat<J.O.length:=by omega
 have qG:U.toNat<M.O.length:=by omega
 have hg:=hf.fr.af _ (dz qG)
 refine⟨⟨aT,bf⟩,⟨⟨aT,qG⟩,fun _=>⟨aT,qG⟩⟩,?_⟩
 unfold jc
 rw[has_eq (ab6 hf.m2 (dz bf)) hg.1])
def Y6:eC Try.prog:=⟨152,[.dt,.frame,.int,.int],[.bool],some fun x=>wL x.1 x.2.1 x.2.2.1 x.2.2.2.1,fun x=>((jc x.1 x.2.1 x.2.2.1 x.2.2.2.1),()),fun x h=>Y5 x.1 x.2.1 x.2.2.1 x.2.2.2.1 h⟩
def Y9 (J:cv) (M:Int) (al:Bool):Prop:=
 (J.sw==M)=al
theorem Y_ (J:cv) (M:Int):b2 Try.prog 166 [.agg (dn J),.dA [ag M] 0] (an (uO J M)):=(fun(h:Y9 J M (uO J M))=>b2.run (ps:=[.bj,(.ptr .int)]) (rs:=[.bool]) (x:=(J,M,())) (r:=((uO J M),())) ⟨8,ep,[]⟩ ⟨[],[],[],[],[]⟩ .nil Try.func166 h) (by
 exact rfl)
def Za:eC Try.prog:=⟨166,[.bj,(.ptr .int)],[.bool],none,fun x=>((uO x.1 x.2.1),()),fun x h=>Y_ x.1 x.2.1⟩
def Qu (J:(List cv)) (M:Int) (al:Int) (ay:Int→Prop) (aB:Int→Nat):Prop:=
 J.length≤4611686018427387904→ay 0∧ ∀(c4:Int),ay c4→(((decide (c4<(J.length:Int)))=false→(-1)=al)∧((decide (c4<(J.length:Int)))=true→((0≤c4∧c4.toNat<J.length)∧((uO (nth J c4) M)=true→c4=al))∧((!(uO (nth J c4) M))=true→ay (IntKind.i64.wrap (c4+1))∧aB (IntKind.i64.wrap (c4+1))<aB c4)))
theorem acN (J:(List cv)) (M:Int):b2 Try.prog 170 [bL dn J,.fn 166 [.dA [ag M] 0]] (ag (r7 J M)):=(fun(ay:Int→Prop) (aB:Int→Nat) (h:Qu J M (r7 J M) ay aB)=>b2.run (ps:=[(.l .bj),(.ik 166 (.ptr .int))]) (rs:=[.int]) (x:=(J,M,())) (r:=((r7 J M),())) ⟨19,ep,[Za]⟩ ⟨[],[],[],[],[]⟩ (e9 [0,1,7] [] 8 ay aB fun _=> .nil) Try.func170 h) (ct J.length (fun j=>uO (nth J j) M)) (cG J.length) (by
 unfold Qu
 intro aG
 refine⟨df (dp _),fun v a0=>⟨fun hv=> ?_,fun hv=>⟨⟨cb a0 hv,fun aI=> ?_⟩,fun aI=>cO (cw aG) a0 hv (not_eq aI)⟩⟩⟩
 ·unfold r7;rw[qb (q:=fun x:cv=>x.sw==M) a0 hv];rfl
 ·unfold r7;rw[qa (q:=fun x:cv=>x.sw==M) a0 hv aI]
  have:=a0.1
  show v=(v.toNat:Int)
  omega)
def acO:eC Try.prog:=⟨170,[(.l .bj),(.ik 166 (.ptr .int))],[.int],none,fun x=>((r7 x.1 x.2.1),()),fun x h=>acN x.1 x.2.1⟩
def acy (J:(List cv)) (M:Int) (al:Bool):Prop:=
 (decide ((r7 J M) ≥ 0))=al
theorem acz (J:(List cv)) (M:Int):b2 Try.prog 165 [bL dn J,.fn 166 [.dA [ag M] 0]] (an (ky J M)):=(fun(h:acy J M (ky J M))=>b2.run (ps:=[(.l .bj),(.ik 166 (.ptr .int))]) (rs:=[.bool]) (x:=(J,M,())) (r:=((ky J M),())) ⟨9,ep,[acO]⟩ ⟨[],[],[],[],[]⟩ .nil Try.func165 h) (by
 exact Yk J M)
def acA:eC Try.prog:=⟨165,[(.l .bj),(.ik 166 (.ptr .int))],[.bool],none,fun x=>((ky x.1 x.2.1),()),fun x h=>acz x.1 x.2.1⟩
def Zb (J:(List cv)) (M:Int) (al:Bool):Prop:=
 (ky J M)=al
theorem Zc (J:(List cv)) (M:Int):b2 Try.prog 153 [bL dn J,ag M] (an (ky J M)):=(fun(h:Zb J M (ky J M))=>b2.run (ps:=[(.l .bj),.int]) (rs:=[.bool]) (x:=(J,M,())) (r:=((ky J M),())) ⟨8,ep,[acA]⟩ ⟨[],[],[],[],[]⟩ .nil Try.func153 h) (by
 exact rfl)
def Zd:eC Try.prog:=⟨153,[(.l .bj),.int],[.bool],none,fun x=>((ky x.1 x.2.1),()),fun x h=>Zc x.1 x.2.1⟩
def Zk:List Item:=[ao 0,ao 1,ao 2,ao 3,ao 4,ao 5,ao 6,ao 7,ao 8,ao 9,ao 10,ao 11,ao 12,ao 13,ao 14,ao 15,ao 16,ao 17,ao 18,ao 19,ao 20]
def Zl:List (List Nat):=[[],[0],[],[0,1,2],rg 0 4,rg 0 5,rg 0 6,rg 0 5,rg 0 8,rg 0 9,rg 0 10,rg 0 10,rg 0 10,rg 0 10,rg 0 10++[13],rg 0 10,rg 0 10++[13,14,15],rg 0 10++rg 13 17,rg 0 18,rg 0 19,rg 0 20]
abbrev kg (r:Type):Type:=Nat→(List Int)→Int→r
def Nk (ay:kg Prop) (aB:kg Nat) (J:az) (M:Frame) (U:Int) (bB:Nat) (ba:(List Int)) (bY:Int):Prop:=
  (((ky (nth J.O bY).bx U) || ((ky (nth J.O bY).aX U)&&(jc J M bY (nth J.a5 U))))=true→((ba.length+[bY].length)*8≤140737488355328∧ba.length+[bY].length≤4611686018427387904)∧(ay (bB+1) (ba++[bY]) (IntKind.i64.wrap (bY+1))∧aB (bB+1) (ba++[bY]) (IntKind.i64.wrap (bY+1))<aB bB ba bY))∧(((ky (nth J.O bY).bx U) || ((ky (nth J.O bY).aX U)&&(jc J M bY (nth J.a5 U))))=false→ay bB ba (IntKind.i64.wrap (bY+1))∧aB bB ba (IntKind.i64.wrap (bY+1))<aB bB ba bY)
def Nl (ay:kg Prop) (aB:kg Nat) (J:az) (M:Frame) (U:Int) (bB:Nat) (ba:(List Int)) (bY:Int):Prop:=
  ((0≤bY∧bY.toNat<M.O.length)∧(((nth M.O bY).aq==0)=true→ay bB ba (IntKind.i64.wrap (bY+1))∧aB bB ba (IntKind.i64.wrap (bY+1))<aB bB ba bY))∧((!((nth M.O bY).aq==0))=true→((ky (nth J.O bY).bx U)=false→(ky (nth J.O bY).aX U)=true→(0≤U∧U.toNat<J.a5.length)∧(wL J M bY (nth J.a5 U)))∧(Nk ay aB J M U bB ba bY))
def Nj (J:az) (M:Frame) (U:Int) (al:(List Int)) (ay:kg Prop) (aB:kg Nat):Prop:=
 J.O.length≤4611686018427387904→ay 0 ([]:List Int) 0∧ ∀(bB:Nat) (ba:(List Int)) (bY:Int),ay bB ba bY→(((decide (bY<(J.O.length:Int)))=false→ba.length≤4611686018427387904∧ba=al)∧((decide (bY<(J.O.length:Int)))=true→(0≤bY∧bY.toNat<J.O.length)∧(Nl ay aB J M U bB ba bY)))
theorem Nm (J:az) (M:Frame) (U:Int) (aI:si J M U):b2 Try.prog 113 [.agg (bg false J),.agg (bZ false M),ag U] (hl c_ (fO J M U)):=(fun(ay:kg Prop) (aB:kg Nat) (h:Nj J M U (fO J M U) ay aB)=>b2.run (ps:=[.dt,.frame,.int]) (rs:=[(.l .int)]) (x:=(J,M,U,())) (r:=((fO J M U),())) ⟨52,ep,[Zd,Y6]⟩ ⟨[],[(6,Zk,Zl)],[],[],[]⟩ (.lp [(0,7,.int)] [2,3,4,11,12] [(4,4),(3,5)] [.nat,(.l .int),.int] [bD 0,bD 0,13] (fun aM=>[(7,.ref 0 aM.1 aM.2.1.length false),(13,.i .i64 aM.2.2.1),(bD 0,.blk aM.1 .int aM.2.1 _ rfl)]) (fun aM=>ay aM.1 aM.2.1 aM.2.2.1) (fun aM=>aB aM.1 aM.2.1 aM.2.2.1) fun _=> .nil) Try.func113 h) (fun _ x v=>ct J.O.length (fun _=>false) v∧x=ef (fun i=>iT J M i U) v) (fun _ _ v=>cG J.O.length v) (by
 unfold Nj
 obtain⟨hf,aT,h1⟩:=aI
 have hw:=hf.fr.O
 have yX:=hf.in.O
 have s0:=hf.in.a5
 intro aG
 refine⟨⟨df (dp _),rfl⟩,fun g x v a0=> ?_⟩
 obtain⟨a0,rfl⟩:=a0
 have hX:=a0.1
 have hlen:=sP (fun i=>iT J M i U) v
 have wT:=a0.2.1
 refine⟨fun hv=>⟨by omega,?_⟩,fun hv=>⟨cb a0 hv,?_⟩⟩
 ·have: ¬v<(J.O.length:Int):=by simpa using hv
  rw[show v=(J.O.length:Int) by omega];rfl
 have b9:=cb a0 hv
 have bk:=cO (cw aG) a0 hv rfl
 have qJ:IntKind.i64.wrap (v+1)=v+1:=iU (cw aG) hX (by simpa using hv)
 have rz:iT J M v U=true→(ct J.O.length (fun _=>false) (IntKind.i64.wrap (v+1))∧ef (fun i=>iT J M i U) v++[v]=ef (fun i=>iT J M i U) (IntKind.i64.wrap (v+1))):=fun h=>⟨bk.1,by rw[qJ,yt hX,if_pos h]⟩
 have no:iT J M v U=false→(ct J.O.length (fun _=>false) (IntKind.i64.wrap (v+1))∧ef (fun i=>iT J M i U) v=ef (fun i=>iT J M i U) (IntKind.i64.wrap (v+1))):=fun h=>⟨bk.1,by rw[qJ,yt hX,if_neg (by rw[h];simp)]⟩
 unfold Nl Nk
 refine⟨⟨⟨hX,by omega⟩,fun aP=>⟨no ?_,bk.2⟩⟩,fun aP=>⟨fun _ _=>⟨⟨aT,by omega⟩,hf,hX,by omega⟩,⟨fun ak=>⟨⟨?_,?_⟩,rz ?_,bk.2⟩,fun ak=>⟨no ?_,bk.2⟩⟩⟩⟩
 ·unfold iT
  rw[show((nth M.O v).aq !=0)=false by simpa using aP];rfl
 ·simp only[List.length_singleton];omega
 ·simp only[List.length_singleton];omega
 ·unfold iT
  rw[show((nth M.O v).aq !=0)=true by simpa using aP];exact ak
 ·unfold iT
  rw[show((nth M.O v).aq !=0)=true by simpa using aP];exact ak)
def Nn:eC Try.prog:=⟨113,[.dt,.frame,.int],[(.l .int)],some fun x=>si x.1 x.2.1 x.2.2.1,fun x=>((fO x.1 x.2.1 x.2.2.1),()),fun x h=>Nm x.1 x.2.1 x.2.2.1 h⟩
def aeg:List Item:=[ao 0,ao 1,ao 2,ao 3,ao 4,ao 5,ao 6,ao 7,ao 8,ao 9,ao 10,ao 11,ao 12,ao 13,ao 14]
def aeh:List (List Nat):=[[],[0],[],[0,1,2],rg 0 4,rg 0 5,rg 0 5,rg 0 5,rg 0 5,rg 0 5++[8],rg 0 5,rg 0 5++[8,9,10],rg 0 5++rg 8 12,rg 0 13,rg 0 14]
def RH (aU:Int→Int→Prop) (aV:Int→Int→Nat) (J:az) (M:Frame) (U db al du ev:Int):Prop:=
  ((0≤ev∧ev.toNat<(nth J.O U).aX.length)∧((((nth (nth J.O U).aX ev).sw==db)=true→(0≤db∧db.toNat<J.a5.length)∧(wL J M U (nth J.a5 db)))∧((((nth (nth J.O U).aX ev).sw==db)&&(jc J M U (nth J.a5 db)))=true→(nth (nth J.O U).aX ev).bj=al)))∧((!(((nth (nth J.O U).aX ev).sw==db)&&(jc J M U (nth J.a5 db))))=true→aU du (IntKind.i64.wrap (ev+1))∧aV du (IntKind.i64.wrap (ev+1))<aV du ev)
def RI (ay:Int→Prop) (aB:Int→Nat) (aU:Int→Int→Prop) (aV:Int→Int→Nat) (J:az) (M:Frame) (U db al du:Int):Prop:=
  ((decide (du<((nth J.O U).bx.length:Int)))=false→(0≤U∧U.toNat<J.O.length)∧((nth J.O U).aX.length≤4611686018427387904→aU du 0∧ ∀(ev:Int),aU du ev→(((decide (ev<((nth J.O U).aX.length:Int)))=false→0=al)∧((decide (ev<((nth J.O U).aX.length:Int)))=true→RH aU aV J M U db al du ev))))∧((decide (du<((nth J.O U).bx.length:Int)))=true→((0≤du∧du.toNat<(nth J.O U).bx.length)∧(((nth (nth J.O U).bx du).sw==db)=true→(nth (nth J.O U).bx du).bj=al))∧((!((nth (nth J.O U).bx du).sw==db))=true→ay (IntKind.i64.wrap (du+1))∧aB (IntKind.i64.wrap (du+1))<aB du))
def RG (J:az) (M:Frame) (U:Int) (db:Int) (al:Int) (ay:Int→Prop) (aB:Int→Nat) (aU:Int→Int→Prop) (aV:Int→Int→Nat):Prop:=
 ((0≤U∧U.toNat<M.O.length)∧(((nth M.O U).aq==0)=true→0=al))∧((!((nth M.O U).aq==0))=true→(0≤U∧U.toNat<J.O.length)∧((nth J.O U).bx.length≤4611686018427387904→ay 0∧ ∀(du:Int),ay du→(RI ay aB aU aV J M U db al du)))
theorem aee (J:az) (M:Frame) (U:Int) (db:Int) (aI:Jp J M U db):b2 Try.prog 155 [.agg (bg false J),.agg (bZ false M),ag U,ag db] (ag (pn J M U db)):=(fun(ay:Int→Prop) (aB:Int→Nat) (aU:Int→Int→Prop) (aV:Int→Int→Nat) (h:RG J M U db (pn J M U db) ay aB aU aV)=>b2.run (ps:=[.dt,.frame,.int,.int]) (rs:=[.int]) (x:=(J,M,U,db,())) (r:=((pn J M U db),())) ⟨67,ep,[ad7]⟩ ⟨[],[(12,aeg,aeh)],[],[],[]⟩ (e9 [2,3,4,5,25,26] [(5,4),(4,5)] 27 ay aB fun aM=>(e9 [2,3,4,5,43,44] [(5,4),(4,5)] 45 (aU aM) (aV aM) fun _=> .nil)) Try.func155 h) (ct (nth J.O U).bx.length (fun j=>(nth (nth J.O U).bx j).sw==db)) (cG (nth J.O U).bx.length) (fun _=>ct (nth J.O U).aX.length (fun j=>(nth (nth J.O U).aX j).sw==db&&jc J M U (nth J.a5 db))) (fun _=>cG (nth J.O U).aX.length) (by
 unfold RG
 obtain⟨hf,aT,h1,h2,aO⟩:=aI
 have hw:=hf.fr.O
 refine⟨⟨⟨aT,by omega⟩,fun aP=> ?_⟩,fun aP=>⟨⟨aT,by omega⟩,fun aG=>⟨df (dp _),fun v a0=> ?_⟩⟩⟩
 ·unfold pn;rw[if_pos (by simpa using aP)]
 have aP: ¬(nth M.O U).aq=0:=by simpa using aP
 unfold RI
 refine⟨fun hv=>⟨⟨aT,by omega⟩,fun hm=>⟨df (dp _),fun k hK=> ?_⟩⟩,fun hv=>⟨⟨cb a0 hv,fun hb=> ?_⟩,fun hb=>cO (cw aG) a0 hv (not_eq hb)⟩⟩
 ·have br:=qb (q:=fun x:cv=>x.sw==db) a0 hv
  unfold RH
  refine⟨fun hk=> ?_,fun hk=>⟨⟨cb hK hk,fun _=>⟨⟨h2,by omega⟩,hf,aT,h1⟩,fun hb=> ?_⟩,fun hb=>cO (cw hm) hK hk (not_eq hb)⟩⟩
  ·unfold pn
   rw[if_neg aP,br]
   simp only
   rw[qb (q:=fun x:cv=>x.sw==db&&jc J M U (nth J.a5 db)) hK hk]
  ·unfold pn
   rw[if_neg aP,br]
   simp only
   rw[qa (q:=fun x:cv=>x.sw==db&&jc J M U (nth J.a5 db)) hK hk hb]
   simp only[jy hK.1]
 ·unfold pn
  rw[if_neg aP,qa (q:=fun x:cv=>x.sw==db) a0 hv hb]
  simp only[jy a0.1])
def aef:eC Try.prog:=⟨155,[.dt,.frame,.int,.int],[.int],some fun x=>Jp x.1 x.2.1 x.2.2.1 x.2.2.2.1,fun x=>((pn x.1 x.2.1 x.2.2.1 x.2.2.2.1),()),fun x h=>aee x.1 x.2.1 x.2.2.1 x.2.2.2.1 h⟩
def Rq (ay:kg Prop) (aB:kg Nat) (J:az) (M:Frame) (U:Int) (bB:Nat) (ba:(List Int)) (ae:Int):Prop:=
  ((decide ((pn J M ae U)>0))=true→((ba.length+[ae].length)*8≤140737488355328∧ba.length+[ae].length≤4611686018427387904)∧(ay (bB+1) (ba++[ae]) (IntKind.i64.wrap (ae+1))∧aB (bB+1) (ba++[ae]) (IntKind.i64.wrap (ae+1))<aB bB ba ae))∧((decide ((pn J M ae U)>0))=false→ay bB ba (IntKind.i64.wrap (ae+1))∧aB bB ba (IntKind.i64.wrap (ae+1))<aB bB ba ae)
def Rp (J:az) (M:Frame) (U:Int) (al:(List Int)) (ay:kg Prop) (aB:kg Nat):Prop:=
 J.O.length≤4611686018427387904→ay 0 ([]:List Int) 0∧ ∀(bB:Nat) (ba:(List Int)) (ae:Int),ay bB ba ae→(((decide (ae<(J.O.length:Int)))=false→ba.length≤4611686018427387904∧ba=al)∧((decide (ae<(J.O.length:Int)))=true→(Jp J M ae U)∧(Rq ay aB J M U bB ba ae)))
theorem Rr (J:az) (M:Frame) (U:Int) (aI:si J M U):b2 Try.prog 117 [.agg (bg false J),.agg (bZ false M),ag U] (hl c_ (fO J M U)):=(fun(ay:kg Prop) (aB:kg Nat) (h:Rp J M U (fO J M U) ay aB)=>b2.run (ps:=[.dt,.frame,.int]) (rs:=[(.l .int)]) (x:=(J,M,U,())) (r:=((fO J M U),())) ⟨27,ep,[aef]⟩ ⟨[],[],[],[],[]⟩ (.lp [(0,7,.int)] [2,3,4,11] [(4,4),(3,5)] [.nat,(.l .int),.int] [bD 0,bD 0,12] (fun aM=>[(7,.ref 0 aM.1 aM.2.1.length false),(12,.i .i64 aM.2.2.1),(bD 0,.blk aM.1 .int aM.2.1 _ rfl)]) (fun aM=>ay aM.1 aM.2.1 aM.2.2.1) (fun aM=>aB aM.1 aM.2.1 aM.2.2.1) fun _=> .nil) Try.func117 h) (fun _ x v=>ct J.O.length (fun _=>false) v∧x=ef (fun i=>iT J M i U) v) (fun _ _ v=>cG J.O.length v) (by
 unfold Rp
 obtain⟨hf,aT,h1⟩:=aI
 have yX:=hf.in.O
 intro aG
 refine⟨⟨df (dp _),rfl⟩,fun g x v a0=> ?_⟩
 obtain⟨a0,rfl⟩:=a0
 have hX:=a0.1
 have hlen:=sP (fun i=>iT J M i U) v
 have wT:=a0.2.1
 refine⟨fun hv=>⟨by omega,?_⟩,fun hv=>⟨⟨hf,hX,by have:=cb a0 hv;omega,aT,h1⟩,?_⟩⟩
 ·have: ¬v<(J.O.length:Int):=by simpa using hv
  rw[show v=(J.O.length:Int) by omega];rfl
 have bk:=cO (cw aG) a0 hv rfl
 have qJ:IntKind.i64.wrap (v+1)=v+1:=iU (cw aG) hX (by simpa using hv)
 unfold Rq
 rw[afo hf.m2 (cb a0 hv).2]
 refine⟨fun ak=>⟨⟨?_,?_⟩,⟨bk.1,by rw[qJ,yt hX,if_pos ak]⟩,bk.2⟩,fun ak=>⟨⟨bk.1,by rw[qJ,yt hX,if_neg (by rw[ak];simp)]⟩,bk.2⟩⟩
 ·simp only[List.length_singleton];omega
 ·simp only[List.length_singleton];omega)
def ad8:eC Try.prog:=⟨117,[.dt,.frame,.int],[(.l .int)],some fun x=>si x.1 x.2.1 x.2.2.1,fun x=>((fO x.1 x.2.1 x.2.2.1),()),fun x h=>Rr x.1 x.2.1 x.2.2.1 h⟩
def YH:List Item:=[ao 0,ao 1,ao 2,ao 3,ao 4,ao 5,ao 6,ao 7,ao 8,ao 9,ao 10,ao 11,ao 12,ao 13,ao 14]
def YI:List (List Nat):=[[],[0],[],[0,1,2],rg 0 4,rg 0 5,rg 0 6,rg 0 5,rg 0 8,rg 0 9,rg 0 10,rg 0 5,rg 0 5++[11],rg 0 13,rg 0 14]
def YJ:List Item:=[ao 0,ao 1,ao 2,ao 3,ao 4,ao 5,ao 6,ao 7,ao 8,ao 9]
def YK:List (List Nat):=[[],[0],[],[2],[],[2,3,4],rg 2 6,rg 0 7,rg 0 8,rg 0 9]
abbrev mK (r:Type):Type:=Nat→(List Int)→Int→Nat→(List Int)→Int→Nat→(List Int)→Int→Bool→Bool→Nat→(List Int)→Int→Bool→Bool→r
def MW (bU:mK Prop) (bV:mK Nat) (J:az) (M:Frame) (bB:Nat) (ba:(List Int)) (dD:Int) (aR:Nat) (aH:(List Int)) (cA:Int) (a2:Nat) (bz:(List Int)) (jl:Int) (fq c4:Bool) (eU:Int) (k6:Nat) (eY:(List Int)) (lP lQ:Bool):Prop:=
  (((decide (((fO J M eU).length:Int)>0)) || (nth M.aw (nth J.a5 eU)))=true→((eY.length+[eU].length)*8≤140737488355328∧eY.length+[eU].length≤4611686018427387904)∧(bU bB ba dD aR aH cA a2 bz eU fq c4 (k6+1) (eY++[eU]) (IntKind.i64.wrap (jl+1)) (lP || (decide (((fO J M eU).length:Int)>0))) (lQ || (nth M.aw (nth J.a5 eU)))∧bV bB ba dD aR aH cA a2 bz eU fq c4 (k6+1) (eY++[eU]) (IntKind.i64.wrap (jl+1)) (lP || (decide (((fO J M eU).length:Int)>0))) (lQ || (nth M.aw (nth J.a5 eU)))<bV bB ba dD aR aH cA a2 bz eU fq c4 k6 eY jl lP lQ))∧(((decide (((fO J M eU).length:Int)>0)) || (nth M.aw (nth J.a5 eU)))=false→bU bB ba dD aR aH cA a2 bz eU fq c4 k6 eY (IntKind.i64.wrap (jl+1)) (lP || (decide (((fO J M eU).length:Int)>0))) (lQ || (nth M.aw (nth J.a5 eU)))∧bV bB ba dD aR aH cA a2 bz eU fq c4 k6 eY (IntKind.i64.wrap (jl+1)) (lP || (decide (((fO J M eU).length:Int)>0))) (lQ || (nth M.aw (nth J.a5 eU)))<bV bB ba dD aR aH cA a2 bz eU fq c4 k6 eY jl lP lQ)
def MX (bU:mK Prop) (bV:mK Nat) (J:az) (M:Frame) (U:Int) (bB:Nat) (ba:(List Int)) (dD:Int) (aR:Nat) (aH:(List Int)) (cA:Int) (a2:Nat) (bz:(List Int)) (jl:Int) (fq c4:Bool) (eU:Int) (k6:Nat) (eY:(List Int)) (lP lQ:Bool):Prop:=
  ((((nth (bA (nth J.O U)) jl).sw !=eU)=false→0≤eU∧eU.toNat<M.ap.length)∧((((nth (bA (nth J.O U)) jl).sw !=eU) || ((nth M.ap eU).b5==(nth (bA (nth J.O U)) jl).bj))=true→bU bB ba dD aR aH cA a2 bz eU fq c4 k6 eY (IntKind.i64.wrap (jl+1)) lP lQ∧bV bB ba dD aR aH cA a2 bz eU fq c4 k6 eY (IntKind.i64.wrap (jl+1)) lP lQ<bV bB ba dD aR aH cA a2 bz eU fq c4 k6 eY jl lP lQ))∧((!(((nth (bA (nth J.O U)) jl).sw !=eU) || ((nth M.ap eU).b5==(nth (bA (nth J.O U)) jl).bj)))=true→(si J M eU)∧((fO J M eU).length≤4611686018427387904→((0≤eU∧eU.toNat<J.a5.length)∧(0≤(nth J.a5 eU)∧(nth J.a5 eU).toNat<M.aw.length))∧(MW bU bV J M bB ba dD aR aH cA a2 bz jl fq c4 eU k6 eY lP lQ)))
abbrev pf (r:Type):Type:=Nat→(List Int)→Int→Nat→(List Int)→Int→Nat→(List Int)→Int→Bool→Bool→r
def MY (bw:pf Prop) (bt:pf Nat) (bU:mK Prop) (bV:mK Nat) (J:az) (M:Frame) (U:Int) (bB:Nat) (ba:(List Int)) (dD:Int) (aR:Nat) (aH:(List Int)) (cA:Int) (a2:Nat) (bz:(List Int)) (jl:Int) (fq c4:Bool) (eU:Int) (k6:Nat) (eY:(List Int)) (lP lQ:Bool):Prop:=
  ((decide (jl<((bA (nth J.O U)).length:Int)))=false→bw bB ba dD aR aH cA k6 eY (IntKind.i64.wrap (eU+1)) lP lQ∧bt bB ba dD aR aH cA k6 eY (IntKind.i64.wrap (eU+1)) lP lQ<bt bB ba dD aR aH cA a2 bz eU fq c4)∧((decide (jl<((bA (nth J.O U)).length:Int)))=true→(0≤jl∧jl.toNat<(bA (nth J.O U)).length)∧(MX bU bV J M U bB ba dD aR aH cA a2 bz jl fq c4 eU k6 eY lP lQ))
def MZ (bw:pf Prop) (bt:pf Nat) (bU:mK Prop) (bV:mK Nat) (J:az) (M:Frame) (U:Int) (al:ny×Bool×Bool) (bB:Nat) (ba:(List Int)) (dD:Int) (aR:Nat) (aH:(List Int)) (cA:Int) (a2:Nat) (bz:(List Int)) (fq c4:Bool) (eU:Int):Prop:=
  ((decide (eU<(J.a5.length:Int)))=false→(ba.length≤4611686018427387904∧ba=al.1.O)∧(aH.length≤4611686018427387904∧aH=al.1.ai)∧(bz.length≤4611686018427387904∧bz=al.1.ap)∧(fq=al.2.1)∧(c4=al.2.2))∧((decide (eU<(J.a5.length:Int)))=true→(xn (nth J.O U))∧((bA (nth J.O U)).length≤4611686018427387904→bU bB ba dD aR aH cA a2 bz eU fq c4 a2 bz 0 fq c4∧ ∀(k6:Nat) (eY:(List Int)) (jl:Int) (lP:Bool) (lQ:Bool),bU bB ba dD aR aH cA a2 bz eU fq c4 k6 eY jl lP lQ→(MY bw bt bU bV J M U bB ba dD aR aH cA a2 bz jl fq c4 eU k6 eY lP lQ)))
abbrev rn (r:Type):Type:=Nat→(List Int)→Int→Nat→(List Int)→Int→r
def M0 (aU:rn Prop) (aV:rn Nat) (J:az) (M:Frame) (U:Int) (bB:Nat) (ba:(List Int)) (dD:Int) (aR:Nat) (aH:(List Int)) (cA:Int):Prop:=
  (((nth M.aw cA)&&((fU (nth J.O U).ai cA) || (fU (nth J.O U).cQ cA)))=true→((aH.length+[cA].length)*8≤140737488355328∧aH.length+[cA].length≤4611686018427387904)∧(aU bB ba dD (aR+1) (aH++[cA]) (IntKind.i64.wrap (cA+1))∧aV bB ba dD (aR+1) (aH++[cA]) (IntKind.i64.wrap (cA+1))<aV bB ba dD aR aH cA))∧(((nth M.aw cA)&&((fU (nth J.O U).ai cA) || (fU (nth J.O U).cQ cA)))=false→aU bB ba dD aR aH (IntKind.i64.wrap (cA+1))∧aV bB ba dD aR aH (IntKind.i64.wrap (cA+1))<aV bB ba dD aR aH cA)
def M1 (aU:rn Prop) (aV:rn Nat) (bw:pf Prop) (bt:pf Nat) (bU:mK Prop) (bV:mK Nat) (J:az) (M:Frame) (U:Int) (al:ny×Bool×Bool) (bB:Nat) (ba:(List Int)) (dD:Int) (aR:Nat) (aH:(List Int)) (cA:Int):Prop:=
  ((decide (cA<J.ai))=false→J.a5.length≤4611686018427387904→bw bB ba dD aR aH cA 0 ([]:List Int) 0 false false∧ ∀(a2:Nat) (bz:(List Int)) (eU:Int) (fq:Bool) (c4:Bool),bw bB ba dD aR aH cA a2 bz eU fq c4→(MZ bw bt bU bV J M U al bB ba dD aR aH cA a2 bz fq c4 eU))∧((decide (cA<J.ai))=true→(0≤cA∧cA.toNat<M.aw.length)∧(M0 aU aV J M U bB ba dD aR aH cA))
def M2 (ay:kg Prop) (aB:kg Nat) (J:az) (M:Frame) (U:Int) (bB:Nat) (ba:(List Int)) (dD:Int):Prop:=
  (((dD !=U)&&(((nth M.O dD).aq !=0)&&((nth (nth J.bW U) dD) || ((meets (nth J.O U).ai (nth J.O dD).cQ) || (meets (nth J.O U).cQ (nth J.O dD).ai)))))=true→((ba.length+[dD].length)*8≤140737488355328∧ba.length+[dD].length≤4611686018427387904)∧(ay (bB+1) (ba++[dD]) (IntKind.i64.wrap (dD+1))∧aB (bB+1) (ba++[dD]) (IntKind.i64.wrap (dD+1))<aB bB ba dD))∧(((dD !=U)&&(((nth M.O dD).aq !=0)&&((nth (nth J.bW U) dD) || ((meets (nth J.O U).ai (nth J.O dD).cQ) || (meets (nth J.O U).cQ (nth J.O dD).ai)))))=false→ay bB ba (IntKind.i64.wrap (dD+1))∧aB bB ba (IntKind.i64.wrap (dD+1))<aB bB ba dD)
def M3 (ay:kg Prop) (aB:kg Nat) (aU:rn Prop) (aV:rn Nat) (bw:pf Prop) (bt:pf Nat) (bU:mK Prop) (bV:mK Nat) (J:az) (M:Frame) (U:Int) (al:ny×Bool×Bool) (bB:Nat) (ba:(List Int)) (dD:Int):Prop:=
  ((decide (dD<(J.O.length:Int)))=false→aU bB ba dD 0 ([]:List Int) 0∧ ∀(aR:Nat) (aH:(List Int)) (cA:Int),aU bB ba dD aR aH cA→(M1 aU aV bw bt bU bV J M U al bB ba dD aR aH cA))∧((decide (dD<(J.O.length:Int)))=true→(0≤dD∧dD.toNat<J.O.length)∧(((dD !=U)=true→(0≤dD∧dD.toNat<M.O.length)∧(((nth M.O dD).aq !=0)=true→(0≤U∧U.toNat<J.bW.length)∧(0≤dD∧dD.toNat<(nth J.bW U).length)))∧(M2 ay aB J M U bB ba dD)))
def MV (J:az) (M:Frame) (U:Int) (al:ny×Bool×Bool) (ay:kg Prop) (aB:kg Nat) (aU:rn Prop) (aV:rn Nat) (bw:pf Prop) (bt:pf Nat) (bU:mK Prop) (bV:mK Nat):Prop:=
 (0≤U∧U.toNat<J.O.length)∧(J.O.length≤4611686018427387904→ay 0 ([]:List Int) 0∧ ∀(bB:Nat) (ba:(List Int)) (dD:Int),ay bB ba dD→(M3 ay aB aU aV bw bt bU bV J M U al bB ba dD))
theorem YF (J:az) (M:Frame) (U:Int) (aI:ry J M U):b2 Try.prog 115 [.agg (bg false J),.agg (bZ false M),ag U] (.tup [.agg (Ea true ((iD J M U).1)),an ((iD J M U).2.1),an ((iD J M U).2.2)]):=(fun(ay:kg Prop) (aB:kg Nat) (aU:rn Prop) (aV:rn Nat) (bw:pf Prop) (bt:pf Nat) (bU:mK Prop) (bV:mK Nat) (h:MV J M U (iD J M U) ay aB aU aV bw bt bU bV)=>b2.run (ps:=[.dt,.frame,.int]) (rs:=[.stays,.bool,.bool]) (x:=(J,M,U,())) (r:=((iD J M U).1,(iD J M U).2.1,(iD J M U).2.2,())) ⟨169,ep,[Gd,Nn,CT,Gb]⟩ ⟨[],[(20,YH,YI),(22,YJ,YK)],[],[],[]⟩ (.lp [(7,0,.int)] [2,3,4,6,7,8,9,24,25] [(9,5),(6,3),(4,4),(3,5)] [.nat,(.l .int),.int] [bD 0,bD 0,26] (fun aM=>[(26,.i .i64 aM.2.2.1),(eL 6 0,.ref 0 aM.1 aM.2.1.length false),(bD 0,.blk aM.1 .int aM.2.1 _ rfl)]) (fun aM=>ay aM.1 aM.2.1 aM.2.2.1) (fun aM=>aB aM.1 aM.2.1 aM.2.2.1) fun aM=>(.lp [(7,1,.int)] [3,4,6,7,8,9,75] [(9,5),(6,3),(4,4),(3,5)] [.nat,(.l .int),.int] [bD 1,bD 1,76] (fun bI=>[(76,.i .i64 bI.2.2.1),(eL 6 1,.ref 1 bI.1 bI.2.1.length false),(bD 1,.blk bI.1 .int bI.2.1 _ rfl)]) (fun bI=>aU aM.1 aM.2.1 aM.2.2.1 bI.1 bI.2.1 bI.2.2.1) (fun bI=>aV aM.1 aM.2.1 aM.2.2.1 bI.1 bI.2.1 bI.2.2.1) fun bI=>(.lp [(7,2,.int)] [3,4,6,9,105] [(9,5),(6,3),(4,4),(3,5)] [.nat,(.l .int),.int,.bool,.bool] [bD 2,bD 2,106,7,8] (fun b_=>[(7,.b (.v b_.2.2.2.1)),(8,.b (.v b_.2.2.2.2.1)),(106,.i .i64 b_.2.2.1),(eL 6 2,.ref 2 b_.1 b_.2.1.length false),(bD 2,.blk b_.1 .int b_.2.1 _ rfl)]) (fun b_=>bw aM.1 aM.2.1 aM.2.2.1 bI.1 bI.2.1 bI.2.2.1 b_.1 b_.2.1 b_.2.2.1 b_.2.2.2.1 b_.2.2.2.2.1) (fun b_=>bt aM.1 aM.2.1 aM.2.2.1 bI.1 bI.2.1 bI.2.2.1 b_.1 b_.2.1 b_.2.2.1 b_.2.2.2.1 b_.2.2.2.2.1) fun b_=>(.lp [] [3,4,6,9,13,105,106,110,111] [(9,5),(6,3),(4,4),(3,5)] [.nat,(.l .int),.int,.bool,.bool] [bD 2,bD 2,112,7,8] (fun dL=>[(7,.b (.v dL.2.2.2.1)),(8,.b (.v dL.2.2.2.2.1)),(112,.i .i64 dL.2.2.1),(eL 6 2,.ref 2 dL.1 dL.2.1.length false),(bD 2,.blk dL.1 .int dL.2.1 _ rfl)]) (fun dL=>bU aM.1 aM.2.1 aM.2.2.1 bI.1 bI.2.1 bI.2.2.1 b_.1 b_.2.1 b_.2.2.1 b_.2.2.2.1 b_.2.2.2.2.1 dL.1 dL.2.1 dL.2.2.1 dL.2.2.2.1 dL.2.2.2.2.1) (fun dL=>bV aM.1 aM.2.1 aM.2.2.1 bI.1 bI.2.1 bI.2.2.1 b_.1 b_.2.1 b_.2.2.1 b_.2.2.2.1 b_.2.2.2.2.1 dL.1 dL.2.1 dL.2.2.1 dL.2.2.2.1 dL.2.2.2.2.1) fun _=> .nil)))) Try.func115 h) (fun _ x v=>ct J.O.length (fun _=>false) v∧x=ef (k7 J M U) v) (fun _ _ v=>cG J.O.length v) (fun _ ba _ _ aH v=>ba=ef (k7 J M U) J.O.length∧ct J.ai (fun _=>false) v∧aH=ef (nE J M U) v) (fun _ _ _ _ _ v=>cG J.ai v) (fun _ ba _ _ aH _ _ bz v a b=>ba=ef (k7 J M U) J.O.length∧aH=ef (nE J M U) J.ai∧ct J.a5.length (fun _=>false) v∧bz=ef (jw J M U) v∧a=wj J M U v∧b=zV J M U v) (fun _ _ _ _ _ _ _ _ v _ _=>cG J.a5.length v) (fun _ _ _ _ _ _ _ x k a b _ lq j ij cn=>TW J M U k x a b lq j ij cn) (fun _ _ _ _ _ _ _ _ _ _ _ _ _ j _ _=>cG (bA (nth J.O U)).length j) (by
 unfold MV
 obtain⟨hf,aT,h1⟩:=aI
 have hw:=hf.fr.O
 have k8:=hf.fr.ap
 have nG:=hf.fr.aw
 have cF:=hf.in
 have yX:=cF.O
 have wP:=cF.sw
 have nH:=cF.c2
 have eg:=zw hf.m2
 have bf:U.toNat<J.O.length:=by omega
 have yW:=dz bf
 have m9:=GW hf.m2 yW
 refine⟨⟨aT,bf⟩,fun aG=>⟨⟨df (dp _),rfl⟩,fun g x v a0=> ?_⟩⟩
 obtain⟨a0,rfl⟩:=a0
 have hlen:=sP (k7 J M U) v
 have wT:=a0.2.1
 unfold M3
 refine⟨fun hv=>⟨⟨wg a0 hv,df nH.1,rfl⟩,fun aR aH s de=> ?_⟩,fun hv=>⟨cb a0 hv,⟨fun _=> ?_,?_⟩⟩⟩
 ·obtain⟨hY,de,rfl⟩:=de
  have Xq:=sP (nE J M U) s
  have XV:=de.2.1
  unfold M1
  refine⟨fun hs hm=>⟨⟨hY,wg de hs,df (dp _),rfl,rfl,rfl⟩,fun a2 bz k a b hK=> ?_⟩,fun hs=> ?_⟩
  ·obtain⟨_,qK,hK,rfl,rfl,rfl⟩:=hK
   have Bx:=sP (jw J M U) k
   have qE:=hK.2.1
   unfold MZ
   refine⟨fun hk=> ?_,fun hk=>⟨⟨by have:=(cF.aX _ yW).1;omega,by have:=(cF.aX _ yW).2.1;omega⟩,fun Ma=> ?_⟩⟩
   ·have br:=wg (q:=jw J M U) hK hk
    have e:k=J.a5.length:=by
     have: ¬k<(J.a5.length:Int):=by simpa using hk
     omega
    refine⟨⟨by omega,hY⟩,⟨by omega,qK⟩,⟨by omega,br⟩,?_,?_⟩
    ·rw[e];rfl
    ·rw[e];rfl
   ·have yU:=cb hK hk
    have m8:=cO (cw hm) hK hk rfl
    refine⟨⟨df (dp _),by simp[nM],by simp[nM],by simp[nM]⟩,fun k6 eY j ij cn b1=> ?_⟩
    obtain⟨b1,rfl,rfl,rfl⟩:=b1
    unfold MY
    refine⟨fun aN=> ?_,fun aN=>⟨cb b1 aN,?_⟩⟩
    ·have ot: ¬j<((bA (nth J.O U)).length:Int):=by simpa using aN
     rw[ab7 _ _ _ _ (j:=j.toNat) (by omega)]
     have s1:=qx (q:=jw J M U) (cw hm) hK hk
     have s2:=(qx (q:=fun k=>jh J M U k&&hO J M k) (cw hm) hK hk).2.2
     have lh:=(qx (q:=fun k=>jh J M U k&&jV J M k) (cw hm) hK hk).2.2
     refine⟨⟨hY,qK,m8.1,?_,s2.symm,lh.symm⟩,m8.2⟩
     cases ak:jw J M U k with
     | true=>rw[if_pos (show(jh J M U k&&(hO J M k || jV J M k))=true from ak)];exact s1.1 ak
     | false=>rw[if_neg (by rw[show(jh J M U k&&(hO J M k || jV J M k))=false from ak];simp)];exact s1.2.1 ak
    ·have Bt:=cb b1 aN
     have uv:=cO (cw Ma) b1 aN rfl
     have yo:(IntKind.i64.wrap (j+1)).toNat=j.toNat+1:=by rw[iU (cw Ma) b1.1 (by simpa using aN)];omega
     have r4:=ab9 (f:=M) (k:=k) Bt.2
     have Xy:nth (bA (nth J.O U)) j=(bA (nth J.O U))[j.toNat]'Bt.2:=gk Bt.2
     have Fs:=cF.a5 _ (dz yU.2)
     have EY: ∀(c:Prop) [Decidable c],(if c then ef (jw J M U) k++[k] else ef (jw J M U) k).length≤41:=fun c _=>by
      split
      ·rw[List.length_append,List.length_singleton];omega
      ·omega
     unfold MX
     rw[Xy]
     refine⟨⟨fun _=>⟨hK.1,by omega⟩,fun ak=> ?_⟩,fun ak=>⟨⟨hf,hK.1,by omega⟩,fun io=>⟨⟨⟨hK.1,yU.2⟩,Fs.1,by omega⟩,?_⟩⟩⟩
     ·have:((bA (nth J.O U))[j.toNat].sw==k&& !((nth M.ap k).b5==(bA (nth J.O U))[j.toNat].bj))=false:=by
       revert ak
       rw[show((bA (nth J.O U))[j.toNat].sw !=k)= !((bA (nth J.O U))[j.toNat].sw==k) from rfl]
       cases((bA (nth J.O U))[j.toNat].sw==k)<;>cases((nth M.ap k).b5==(bA (nth J.O U))[j.toNat].bj)<;>simp
      rw[this,Bool.or_false] at r4
      exact⟨⟨uv.1,by rw[yo,r4],by rw[yo,r4],by rw[yo,r4]⟩,uv.2⟩
     ·have kw:((bA (nth J.O U))[j.toNat].sw==k)=true∧((nth M.ap k).b5==(bA (nth J.O U))[j.toNat].bj)=false:=by
       revert ak
       rw[show((bA (nth J.O U))[j.toNat].sw !=k)= !((bA (nth J.O U))[j.toNat].sw==k) from rfl]
       cases((bA (nth J.O U))[j.toNat].sw==k)<;>cases((nth M.ap k).b5==(bA (nth J.O U))[j.toNat].bj)<;>simp
      have l6:=ab8 (f:=M) m9 Bt.2 kw.1
      rw[l6,kw.1,kw.2] at r4
      rw[l6]
      unfold MW
      have im:(decide (((fO J M k).length:Int)>0))=hO J M k:=rfl
      have mX:nth M.aw (nth J.a5 k)=jV J M k:=rfl
      rw[im,mX]
      simp only[Bool.false_and,Bool.or_false,if_false,Bool.false_eq_true]
      have E: ∀c:Bool,(nM J M U k (IntKind.i64.wrap (j+1)).toNat&&c)=c:=fun c=>by rw[yo,r4];rfl
      refine⟨fun hc=>⟨⟨by simp only[List.length_singleton];omega,by simp only[List.length_singleton];omega⟩,⟨uv.1,?_,by rw[E],by rw[E]⟩,uv.2⟩,fun hc=>⟨⟨uv.1,?_,by rw[E],by rw[E]⟩,uv.2⟩⟩
      ·rw[E,if_pos hc]
      ·rw[E,if_neg (by rw[hc];simp)]
  ·have r3:0≤s∧s<J.ai:=⟨de.1,by simpa using hs⟩
   have bk:=cO (N:=J.ai) (by omega) de hs rfl
   have s1:=qx (q:=nE J M U) (N:=J.ai) (by omega) de hs
   refine⟨⟨de.1,by omega⟩,?_⟩
   unfold M0
   exact⟨fun ak=>⟨⟨by simp only[List.length_singleton];omega,by simp only[List.length_singleton];omega⟩,⟨hY,bk.1,s1.1 ak⟩,bk.2⟩,fun ak=>⟨⟨hY,bk.1,s1.2.1 ak⟩,bk.2⟩⟩
 ·have b9:=cb a0 hv
  have hL:=eg.len
  have e1:=eg.row U aT h1
  exact⟨⟨b9.1,by omega⟩,fun _=>⟨⟨aT,by omega⟩,b9.1,by omega⟩⟩
 ·have bk:=cO (cw aG) a0 hv rfl
  have s1:=qx (q:=k7 J M U) (cw aG) a0 hv
  unfold M2
  exact⟨fun ak=>⟨⟨by simp only[List.length_singleton];omega,by simp only[List.length_singleton];omega⟩,⟨bk.1,s1.1 ak⟩,bk.2⟩,fun ak=>⟨⟨bk.1,s1.2.1 ak⟩,bk.2⟩⟩)
def YG:eC Try.prog:=⟨115,[.dt,.frame,.int],[.stays,.bool,.bool],some fun x=>ry x.1 x.2.1 x.2.2.1,fun x=>((iD x.1 x.2.1 x.2.2.1).1,(iD x.1 x.2.1 x.2.2.1).2.1,(iD x.1 x.2.1 x.2.2.1).2.2,()),fun x h=>YF x.1 x.2.1 x.2.2.1 h⟩
def aec:List Item:=[ao 0,ao 1,ao 2,ao 3,ao 4,ao 5,ao 6,ao 7,ao 8,ao 9,ao 10,ao 11,ao 12,ao 13,ao 14,ao 15,ao 16,ao 17,ao 18,ao 19,ao 20,ao 21,ao 22,ao 23,ao 24,ao 25,ao 26,ao 27,ao 28,ao 29,ao 30,ao 31,ao 32,ao 33,ao 34,ao 35,ao 36,ao 37,ao 38,ao 39,ao 40,ao 41,ao 42,ao 43]
def aed:List (List Nat):=[[],[],[0,1],[0,1,2],rg 0 4,rg 0 5,rg 0 4,rg 0 7,rg 0 8,rg 0 9,rg 0 10,rg 0 11,rg 0 12,rg 0 13,rg 0 14,rg 0 13,rg 0 16,rg 0 17,rg 0 13,rg 0 19,rg 0 20,rg 0 21,rg 0 22,rg 0 23,rg 0 22,rg 0 22++[24],rg 0 22,rg 0 22++[24,25,26],rg 0 22++rg 24 28,rg 0 22++rg 24 29,rg 0 30,rg 0 31,rg 0 32,rg 0 33,rg 0 34,rg 0 33,rg 0 33++[35],rg 0 33,rg 0 33++[35,36,37],rg 0 33++rg 35 39,rg 0 33++rg 35 40,rg 0 41,rg 0 42,rg 0 43]
def aea:List Item:=[ao 0,ao 1,ao 2,ao 3,ao 4,ao 5,ao 6,ao 7,ao 8]
def aeb:List (List Nat):=[[],[0],[],[2],[],[2,3,4],rg 2 6,rg 0 7,rg 0 8]
abbrev lM (r:Type):Type:=Nat→(List Int)→Int→Int→Nat→(List Int)→Int→Int→Nat→(List Int)→Int→Int→r
def Rt (bw:lM Prop) (bt:lM Nat) (bB:Nat) (ba:(List Int)) (be cc:Int) (aR:Nat) (aH:(List Int)) (ae eu:Int) (a2:Nat) (bz:(List Int)) (dG bY:Int):Prop:=
  ((bY==0)=true→bw bB ba be cc aR aH ae eu (a2+1) (bz++[dG]) (IntKind.i64.wrap (dG+1)) 6∧bt bB ba be cc aR aH ae eu (a2+1) (bz++[dG]) (IntKind.i64.wrap (dG+1)) 6<bt bB ba be cc aR aH ae eu a2 bz dG bY)∧((bY==0)=false→bw bB ba be cc aR aH ae eu (a2+1) (bz++[dG]) (IntKind.i64.wrap (dG+1)) bY∧bt bB ba be cc aR aH ae eu (a2+1) (bz++[dG]) (IntKind.i64.wrap (dG+1)) bY<bt bB ba be cc aR aH ae eu a2 bz dG bY)
def Ry (bw:lM Prop) (bt:lM Nat) (J:az) (M:Frame) (bB:Nat) (ba:(List Int)) (be cc:Int) (aR:Nat) (aH:(List Int)) (ae eu:Int) (a2:Nat) (bz:(List Int)) (dG bY:Int):Prop:=
  ((nth M.aw (nth J.a5 dG))=true→((bz.length+[dG].length)*8≤140737488355328∧bz.length+[dG].length≤4611686018427387904)∧(Rt bw bt bB ba be cc aR aH ae eu a2 bz dG bY))∧((nth M.aw (nth J.a5 dG))=false→bw bB ba be cc aR aH ae eu a2 bz (IntKind.i64.wrap (dG+1)) bY∧bt bB ba be cc aR aH ae eu a2 bz (IntKind.i64.wrap (dG+1)) bY<bt bB ba be cc aR aH ae eu a2 bz dG bY)
def Rz (bw:lM Prop) (bt:lM Nat) (J:az) (M:Frame) (bB:Nat) (ba:(List Int)) (be cc:Int) (aR:Nat) (aH:(List Int)) (ae eu:Int) (a2:Nat) (bz:(List Int)) (dG bY:Int):Prop:=
  ((decide (((fO J M dG).length:Int)>0))=true→((bz.length+[dG].length)*8≤140737488355328∧bz.length+[dG].length≤4611686018427387904)∧(bw bB ba be cc aR aH ae eu (a2+1) (bz++[dG]) (IntKind.i64.wrap (dG+1)) 5∧bt bB ba be cc aR aH ae eu (a2+1) (bz++[dG]) (IntKind.i64.wrap (dG+1)) 5<bt bB ba be cc aR aH ae eu a2 bz dG bY))∧((decide (((fO J M dG).length:Int)>0))=false→((0≤dG∧dG.toNat<J.a5.length)∧(0≤(nth J.a5 dG)∧(nth J.a5 dG).toNat<M.aw.length))∧(Ry bw bt J M bB ba be cc aR aH ae eu a2 bz dG bY))
abbrev lN (r:Type):Type:=Nat→(List Int)→Int→Int→Nat→(List Int)→Int→Int→Nat→(List Int)→Int→Int→Int→Int→Int→Int→r
def RA (cx:lN Prop) (cy:lN Nat) (J:az) (U:Int) (bB:Nat) (ba:(List Int)) (be cc:Int) (aR:Nat) (aH:(List Int)) (ae eu mS c9 h_ rv:Int) (a2:Nat) (bz:(List Int)) (dG bY:Int):Prop:=
  cx bB ba be cc aR aH ae eu a2 bz dG bY h_ c9 (IntKind.i64.wrap (mS+1)) (bif ((nth (nth [(nth J.O U).aX,(nth J.O U).bx] h_) mS).sw==dG) then(nth (nth [(nth J.O U).aX,(nth J.O U).bx] h_) mS).bj else rv)∧cy bB ba be cc aR aH ae eu a2 bz dG bY h_ c9 (IntKind.i64.wrap (mS+1)) (bif ((nth (nth [(nth J.O U).aX,(nth J.O U).bx] h_) mS).sw==dG) then(nth (nth [(nth J.O U).aX,(nth J.O U).bx] h_) mS).bj else rv)<cy bB ba be cc aR aH ae eu a2 bz dG bY h_ c9 mS rv
abbrev mM (r:Type):Type:=Nat→(List Int)→Int→Int→Nat→(List Int)→Int→Int→Nat→(List Int)→Int→Int→Int→Int→r
def RB (bU:mM Prop) (bV:mM Nat) (cx:lN Prop) (cy:lN Nat) (J:az) (U:Int) (bB:Nat) (ba:(List Int)) (be cc:Int) (aR:Nat) (aH:(List Int)) (ae eu mS c9 h_ rv:Int) (a2:Nat) (bz:(List Int)) (dG bY:Int):Prop:=
  ((decide (mS<((nth [(nth J.O U).aX,(nth J.O U).bx] h_).length:Int)))=false→bU bB ba be cc aR aH ae eu a2 bz dG bY (IntKind.i64.wrap (h_+1)) rv∧bV bB ba be cc aR aH ae eu a2 bz dG bY (IntKind.i64.wrap (h_+1)) rv<bV bB ba be cc aR aH ae eu a2 bz dG bY h_ c9)∧((decide (mS<((nth [(nth J.O U).aX,(nth J.O U).bx] h_).length:Int)))=true→(0≤mS∧mS.toNat<(nth [(nth J.O U).aX,(nth J.O U).bx] h_).length)∧(RA cx cy J U bB ba be cc aR aH ae eu mS c9 h_ rv a2 bz dG bY))
def RC (bU:mM Prop) (bV:mM Nat) (cx:lN Prop) (cy:lN Nat) (J:az) (U:Int) (bB:Nat) (ba:(List Int)) (be cc:Int) (aR:Nat) (aH:(List Int)) (ae eu c9 h_:Int) (a2:Nat) (bz:(List Int)) (dG bY:Int):Prop:=
  (0≤h_∧h_.toNat<[(nth J.O U).aX,(nth J.O U).bx].length)∧((nth [(nth J.O U).aX,(nth J.O U).bx] h_).length≤4611686018427387904→cx bB ba be cc aR aH ae eu a2 bz dG bY h_ c9 0 c9∧ ∀(mS:Int) (rv:Int),cx bB ba be cc aR aH ae eu a2 bz dG bY h_ c9 mS rv→(RB bU bV cx cy J U bB ba be cc aR aH ae eu mS c9 h_ rv a2 bz dG bY))
def RD (bw:lM Prop) (bt:lM Nat) (bU:mM Prop) (bV:mM Nat) (cx:lN Prop) (cy:lN Nat) (J:az) (M:Frame) (U:Int) (bB:Nat) (ba:(List Int)) (be cc:Int) (aR:Nat) (aH:(List Int)) (ae eu c9 h_:Int) (a2:Nat) (bz:(List Int)) (dG bY:Int):Prop:=
  ((decide (h_<([(nth J.O U).aX,(nth J.O U).bx].length:Int)))=false→(((c9==0)=false→0≤dG∧dG.toNat<M.ap.length)∧(((c9==0) || (c9==(nth M.ap dG).b5))=true→bw bB ba be cc aR aH ae eu a2 bz (IntKind.i64.wrap (dG+1)) bY∧bt bB ba be cc aR aH ae eu a2 bz (IntKind.i64.wrap (dG+1)) bY<bt bB ba be cc aR aH ae eu a2 bz dG bY))∧((!((c9==0) || (c9==(nth M.ap dG).b5)))=true→(si J M dG)∧((fO J M dG).length≤4611686018427387904→Rz bw bt J M bB ba be cc aR aH ae eu a2 bz dG bY)))∧((decide (h_<([(nth J.O U).aX,(nth J.O U).bx].length:Int)))=true→RC bU bV cx cy J U bB ba be cc aR aH ae eu c9 h_ a2 bz dG bY)
def RE (bw:lM Prop) (bt:lM Nat) (bU:mM Prop) (bV:mM Nat) (cx:lN Prop) (cy:lN Nat) (J:az) (M:Frame) (U:Int) (al:ny×Int) (bB:Nat) (ba:(List Int)) (be cc:Int) (aR:Nat) (aH:(List Int)) (ae eu:Int) (a2:Nat) (bz:(List Int)) (dG bY:Int):Prop:=
  ((decide (dG<(J.a5.length:Int)))=false→(ba.length≤4611686018427387904∧ba=al.1.O)∧(aH.length≤4611686018427387904∧aH=al.1.ai)∧(bz.length≤4611686018427387904∧bz=al.1.ap)∧((bif (eu==0) then bY else eu)=al.2))∧((decide (dG<(J.a5.length:Int)))=true→[(nth J.O U).aX,(nth J.O U).bx].length≤4611686018427387904→bU bB ba be cc aR aH ae eu a2 bz dG bY 0 0∧ ∀(h_:Int) (c9:Int),bU bB ba be cc aR aH ae eu a2 bz dG bY h_ c9→(RD bw bt bU bV cx cy J M U bB ba be cc aR aH ae eu c9 h_ a2 bz dG bY))
abbrev rp (r:Type):Type:=Nat→(List Int)→Int→Int→Nat→(List Int)→Int→Int→r
def RF (aU:rp Prop) (aV:rp Nat) (J:az) (M:Frame) (U:Int) (bB:Nat) (ba:(List Int)) (be cc:Int) (aR:Nat) (aH:(List Int)) (ae eu:Int):Prop:=
  (((nth M.aw ae)&&((meets [ae] (nth J.O U).ai) || (meets [ae] (nth J.O U).cQ)))=true→((aH.length+[ae].length)*8≤140737488355328∧aH.length+[ae].length≤4611686018427387904)∧(((eu==0)=true→aU bB ba be cc (aR+1) (aH++[ae]) (IntKind.i64.wrap (ae+1)) 4∧aV bB ba be cc (aR+1) (aH++[ae]) (IntKind.i64.wrap (ae+1)) 4<aV bB ba be cc aR aH ae eu)∧((eu==0)=false→aU bB ba be cc (aR+1) (aH++[ae]) (IntKind.i64.wrap (ae+1)) eu∧aV bB ba be cc (aR+1) (aH++[ae]) (IntKind.i64.wrap (ae+1)) eu<aV bB ba be cc aR aH ae eu)))∧(((nth M.aw ae)&&((meets [ae] (nth J.O U).ai) || (meets [ae] (nth J.O U).cQ)))=false→aU bB ba be cc aR aH (IntKind.i64.wrap (ae+1)) eu∧aV bB ba be cc aR aH (IntKind.i64.wrap (ae+1)) eu<aV bB ba be cc aR aH ae eu)
def Ru (aU:rp Prop) (aV:rp Nat) (bw:lM Prop) (bt:lM Nat) (bU:mM Prop) (bV:mM Nat) (cx:lN Prop) (cy:lN Nat) (J:az) (M:Frame) (U:Int) (al:ny×Int) (bB:Nat) (ba:(List Int)) (be cc:Int) (aR:Nat) (aH:(List Int)) (ae eu:Int):Prop:=
  ((decide (ae<J.ai))=false→J.a5.length≤4611686018427387904→bw bB ba be cc aR aH ae eu 0 ([]:List Int) 0 0∧ ∀(a2:Nat) (bz:(List Int)) (dG:Int) (bY:Int),bw bB ba be cc aR aH ae eu a2 bz dG bY→(RE bw bt bU bV cx cy J M U al bB ba be cc aR aH ae eu a2 bz dG bY))∧((decide (ae<J.ai))=true→(0≤ae∧ae.toNat<M.aw.length)∧(RF aU aV J M U bB ba be cc aR aH ae eu))
abbrev rq (r:Type):Type:=Nat→(List Int)→Int→Int→r
def Rv (ay:rq Prop) (aB:rq Nat) (J:az) (M:Frame) (U:Int) (bB:Nat) (ba:(List Int)) (be cc:Int):Prop:=
  (((be !=U)&&(((nth M.O be).aq !=0)&&((nth (nth J.bW U) be) || ((meets (nth J.O U).ai (nth J.O be).cQ) || (meets (nth J.O U).cQ (nth J.O be).ai)))))=true→((ba.length+[be].length)*8≤140737488355328∧ba.length+[be].length≤4611686018427387904)∧(ay (bB+1) (ba++[be]) (IntKind.i64.wrap (be+1)) 3∧aB (bB+1) (ba++[be]) (IntKind.i64.wrap (be+1)) 3<aB bB ba be cc))∧(((be !=U)&&(((nth M.O be).aq !=0)&&((nth (nth J.bW U) be) || ((meets (nth J.O U).ai (nth J.O be).cQ) || (meets (nth J.O U).cQ (nth J.O be).ai)))))=false→ay bB ba (IntKind.i64.wrap (be+1)) cc∧aB bB ba (IntKind.i64.wrap (be+1)) cc<aB bB ba be cc)
def Rw (ay:rq Prop) (aB:rq Nat) (J:az) (M:Frame) (U:Int) (bB:Nat) (ba:(List Int)) (be cc:Int):Prop:=
  ((be !=U)=true→(0≤be∧be.toNat<M.O.length)∧(((nth M.O be).aq !=0)=true→(0≤U∧U.toNat<J.bW.length)∧((0≤be∧be.toNat<(nth J.bW U).length)∧((nth (nth J.bW U) be)=false→(0≤be∧be.toNat<J.O.length)∧((meets (nth J.O U).ai (nth J.O be).cQ)=false→0≤be∧be.toNat<J.O.length)))))∧(Rv ay aB J M U bB ba be cc)
def Rx (ay:rq Prop) (aB:rq Nat) (aU:rp Prop) (aV:rp Nat) (bw:lM Prop) (bt:lM Nat) (bU:mM Prop) (bV:mM Nat) (cx:lN Prop) (cy:lN Nat) (J:az) (M:Frame) (U:Int) (al:ny×Int):Prop:=
  ay 0 ([]:List Int) 0 0∧ ∀(bB:Nat) (ba:(List Int)) (be:Int) (cc:Int),ay bB ba be cc→(((decide (be<(J.O.length:Int)))=false→aU bB ba be cc 0 ([]:List Int) 0 cc∧ ∀(aR:Nat) (aH:(List Int)) (ae:Int) (eu:Int),aU bB ba be cc aR aH ae eu→(Ru aU aV bw bt bU bV cx cy J M U al bB ba be cc aR aH ae eu))∧((decide (be<(J.O.length:Int)))=true→Rw ay aB J M U bB ba be cc))
def Rs (J:az) (M:Frame) (U:Int) (al:ny×Int) (ay:rq Prop) (aB:rq Nat) (aU:rp Prop) (aV:rp Nat) (bw:lM Prop) (bt:lM Nat) (bU:mM Prop) (bV:mM Nat) (cx:lN Prop) (cy:lN Nat):Prop:=
 (0≤U∧U.toNat<J.O.length)∧(J.O.length≤4611686018427387904→Rx ay aB aU aV bw bt bU bV cx cy J M U al)
theorem ad9 (J:az) (M:Frame) (U:Int) (aI:ry J M U):b2 Try.prog 154 [.agg (bg false J),.agg (bZ false M),ag U] (.tup [.agg (Ea true ((tB J M U).1)),ag ((tB J M U).2)]):=(fun(ay:rq Prop) (aB:rq Nat) (aU:rp Prop) (aV:rp Nat) (bw:lM Prop) (bt:lM Nat) (bU:mM Prop) (bV:mM Nat) (cx:lN Prop) (cy:lN Nat) (h:Rs J M U (tB J M U) ay aB aU aV bw bt bU bV cx cy)=>b2.run (ps:=[.dt,.frame,.int]) (rs:=[.stays,.int]) (x:=(J,M,U,())) (r:=((tB J M U).1,(tB J M U).2,())) ⟨192,ep,[ad8,zZ]⟩ ⟨[],[(7,aec,aed),(37,aea,aeb)],[],[],[]⟩ (.lp [(9,0,.int)] [2,3,4,6,8,10,27] [(10,5),(8,3),(6,3),(4,4),(3,5)] [.nat,(.l .int),.int,.int] [bD 0,bD 0,28,9] (fun aM=>[(9,.i .i64 aM.2.2.2.1),(28,.i .i64 aM.2.2.1),(eL 8 0,.ref 0 aM.1 aM.2.1.length false),(bD 0,.blk aM.1 .int aM.2.1 _ rfl)]) (fun aM=>ay aM.1 aM.2.1 aM.2.2.1 aM.2.2.2.1) (fun aM=>aB aM.1 aM.2.1 aM.2.2.1 aM.2.2.2.1) fun aM=>(.lp [(9,1,.int)] [3,4,6,8,10] [(10,5),(8,3),(6,3),(4,4),(3,5)] [.nat,(.l .int),.int,.int] [bD 1,bD 1,12,9] (fun bI=>[(9,.i .i64 bI.2.2.2.1),(12,.i .i64 bI.2.2.1),(eL 8 1,.ref 1 bI.1 bI.2.1.length false),(bD 1,.blk bI.1 .int bI.2.1 _ rfl)]) (fun bI=>aU aM.1 aM.2.1 aM.2.2.1 aM.2.2.2.1 bI.1 bI.2.1 bI.2.2.1 bI.2.2.2.1) (fun bI=>aV aM.1 aM.2.1 aM.2.2.1 aM.2.2.2.1 bI.1 bI.2.1 bI.2.2.1 bI.2.2.2.1) fun bI=>(.lp [(9,2,.int)] [3,4,6,8,9,10,117] [(10,5),(8,3),(6,3),(4,4),(3,5)] [.nat,(.l .int),.int,.int] [bD 2,bD 2,118,13] (fun b_=>[(13,.i .i64 b_.2.2.2.1),(118,.i .i64 b_.2.2.1),(eL 8 2,.ref 2 b_.1 b_.2.1.length false),(bD 2,.blk b_.1 .int b_.2.1 _ rfl)]) (fun b_=>bw aM.1 aM.2.1 aM.2.2.1 aM.2.2.2.1 bI.1 bI.2.1 bI.2.2.1 bI.2.2.2.1 b_.1 b_.2.1 b_.2.2.1 b_.2.2.2.1) (fun b_=>bt aM.1 aM.2.1 aM.2.2.1 aM.2.2.2.1 bI.1 bI.2.1 bI.2.2.1 bI.2.2.2.1 b_.1 b_.2.1 b_.2.2.1 b_.2.2.2.1) fun b_=>(.lp [] [3,4,6,8,9,10,13,14,117,118,125,126] [(10,5),(8,3),(6,3),(4,4),(3,5)] [.int,.int] [127,15] (fun dL=>[(15,.i .i64 dL.2.1),(127,.i .i64 dL.1)]) (fun dL=>bU aM.1 aM.2.1 aM.2.2.1 aM.2.2.2.1 bI.1 bI.2.1 bI.2.2.1 bI.2.2.2.1 b_.1 b_.2.1 b_.2.2.1 b_.2.2.2.1 dL.1 dL.2.1) (fun dL=>bV aM.1 aM.2.1 aM.2.2.1 aM.2.2.2.1 bI.1 bI.2.1 bI.2.2.1 bI.2.2.2.1 b_.1 b_.2.1 b_.2.2.1 b_.2.2.2.1 dL.1 dL.2.1) fun dL=>(.lp [] [3,4,6,8,9,10,13,14,117,118,125,126,127,131,132] [(10,5),(8,3),(6,3),(4,4),(3,5)] [.int,.int] [133,15] (fun hI=>[(15,.i .i64 hI.2.1),(133,.i .i64 hI.1)]) (fun hI=>cx aM.1 aM.2.1 aM.2.2.1 aM.2.2.2.1 bI.1 bI.2.1 bI.2.2.1 bI.2.2.2.1 b_.1 b_.2.1 b_.2.2.1 b_.2.2.2.1 dL.1 dL.2.1 hI.1 hI.2.1) (fun hI=>cy aM.1 aM.2.1 aM.2.2.1 aM.2.2.2.1 bI.1 bI.2.1 bI.2.2.1 bI.2.2.2.1 b_.1 b_.2.1 b_.2.2.1 b_.2.2.2.1 dL.1 dL.2.1 hI.1 hI.2.1) fun _=> .nil))))) Try.func154 h) (fun _ x v c=>ct J.O.length (fun _=>false) v∧x=ef (k7 J M U) v∧c=(if x≠[] then 3 else 0)) (fun _ _ v _=>cG J.O.length v) (fun _ ba _ _ _ aH v c=>ba=ef (k7 J M U) J.O.length∧ct J.ai (fun _=>false) v∧aH=ef (nE J M U) v∧c=(if ba≠[] then 3 else if aH≠[] then 4 else 0)) (fun _ _ _ _ _ _ v _=>cG J.ai v) (fun _ ba _ _ _ aH _ c _ bz v h=>ba=ef (k7 J M U) J.O.length∧aH=ef (nE J M U) J.ai∧c=(if ba≠[] then 3 else if aH≠[] then 4 else 0)∧ct J.a5.length (fun _=>false) v∧bz=ef (jw J M U) v∧h=wB J M U v) (fun _ _ _ _ _ _ _ _ _ _ v _=>cG J.a5.length v) (fun _ _ _ _ _ _ _ _ _ _ k _ i l=>ct ([(nth J.O U).aX,(nth J.O U).bx].length:Int) (fun _=>false) i∧l=qR 0 ([(nth J.O U).aX,(nth J.O U).bx].take i.toNat).flatten k) (fun _ _ _ _ _ _ _ _ _ _ _ _ i _=>cG ([(nth J.O U).aX,(nth J.O U).bx].length:Int) i) (fun _ _ _ _ _ _ _ _ _ _ k _ i l j fu=>ct (nth [(nth J.O U).aX,(nth J.O U).bx] i).length (fun _=>false) j∧fu=qR l ((nth [(nth J.O U).aX,(nth J.O U).bx] i).take j.toNat) k) (fun _ _ _ _ _ _ _ _ _ _ _ _ i _ j _=>cG (nth [(nth J.O U).aX,(nth J.O U).bx] i).length j) (by
 unfold Rs Rx
 obtain⟨hf,aT,h1⟩:=aI
 have hw:=hf.fr.O
 have k8:=hf.fr.ap
 have nG:=hf.fr.aw
 have cF:=hf.in
 have yX:=cF.O
 have wP:=cF.sw
 have nH:=cF.c2
 have eg:=zw hf.m2
 have bf:U.toNat<J.O.length:=by omega
 have yW:=dz bf
 have m9:=GW hf.m2 yW
 refine⟨⟨aT,bf⟩,fun aG=>⟨⟨df (dp _),rfl,rfl⟩,fun g x v c a0=> ?_⟩⟩
 obtain⟨a0,rfl,rfl⟩:=a0
 have hlen:=sP (k7 J M U) v
 have wT:=a0.2.1
 refine⟨fun hv=>⟨⟨wg a0 hv,df nH.1,rfl,by simp[Vn]⟩,fun aR aH s nz de=> ?_⟩,fun hv=> ?_⟩
 ·obtain⟨hY,de,rfl,rfl⟩:=de
  have Xq:=sP (nE J M U) s
  have XV:=de.2.1
  unfold Ru
  refine⟨fun hs hm=>⟨⟨hY,wg de hs,rfl,df (dp _),rfl,rfl⟩,fun a2 bz k bh hK=> ?_⟩,fun hs=> ?_⟩
  ·obtain⟨_,qK,hc,hK,rfl,rfl⟩:=hK
   have Bx:=sP (jw J M U) k
   have qE:=hK.2.1
   unfold RE
   refine⟨fun hk=> ?_,fun hk h2=>⟨⟨df (dp _),rfl⟩,fun i l b1=> ?_⟩⟩
   ·have br:=wg (q:=jw J M U) hK hk
    have e:k=J.a5.length:=by
     have: ¬k<(J.a5.length:Int):=by simpa using hk
     omega
    refine⟨⟨by omega,hY⟩,⟨by omega,qK⟩,⟨by omega,br⟩,?_⟩
    show _=codeF J M U
    unfold codeF
    show _=if ef (k7 J M U) J.O.length≠[] then 3 else if ef (nE J M U) J.ai≠[] then 4 else _
    rw[hY,qK]
    by_cases x1:ef (k7 J M U) J.O.length≠[]
    ·rw[if_pos x1,if_pos x1];rfl
    ·rw[if_neg x1,if_neg x1]
     by_cases oH:ef (nE J M U) J.ai≠[]
     ·rw[if_pos oH,if_pos oH];rfl
     ·rw[if_neg oH,if_neg oH,e];rfl
   ·have yU:=cb hK hk
    have m8:=cO (cw hm) hK hk rfl
    have s1:=qx (q:=jw J M U) (cw hm) hK hk
    have s2:=(qx (q:=fun k=>jh J M U k&&hO J M k) (cw hm) hK hk).2.2
    have lh:=(qx (q:=fun k=>jh J M U k&&jV J M k) (cw hm) hK hk).2.2
    have uC:wj J M U (IntKind.i64.wrap (k+1))=(wj J M U k || (jh J M U k&&hO J M k)):=s2
    have uD:zV J M U (IntKind.i64.wrap (k+1))=(zV J M U k || (jh J M U k&&jV J M k)):=lh
    obtain⟨b1,rfl⟩:=b1
    unfold RD
    refine⟨fun hi=> ?_,fun hi=> ?_⟩
    ·have Xm:i=2:=by
      have a:=b1.2.1
      have: ¬i<(([(nth J.O U).aX,(nth J.O U).bx].length:Nat):Int):=by simpa using hi
      simp at a this;omega
     have cl:(List.take i.toNat [(nth J.O U).aX,(nth J.O U).bx]).flatten=bA (nth J.O U):=by rw[Xm];simp[bA]
     rw[cl]
     have aC:=aah (f:=M) (k:=k) hf.m2 bf
     refine⟨⟨fun _=>⟨hK.1,by omega⟩,fun ak=> ?_⟩,fun ak=>⟨⟨hf,hK.1,by omega⟩,fun io=> ?_⟩⟩
     ·rw[aC] at ak
      have ak:jh J M U k=false:=by simpa using ak
      refine⟨⟨hY,qK,hc,m8.1,s1.2.1 (by unfold jw;rw[ak];rfl),?_⟩,m8.2⟩
      unfold wB;rw[uC,uD,ak];simp
     ·rw[aC] at ak
      have ak:jh J M U k=true:=by simpa using ak
      have Fs:=cF.a5 _ (dz yU.2)
      unfold Rz
      have im:(decide (((fO J M k).length:Int)>0))=hO J M k:=rfl
      rw[im]
      rw[ak,Bool.true_and] at uC uD
      have vR:((ef (jw J M U) k).length+[k].length)*8≤140737488355328∧(ef (jw J M U) k).length+[k].length≤4611686018427387904:=by
       simp only[List.length_singleton];omega
      refine⟨fun aL=>⟨vR,⟨hY,qK,hc,m8.1,s1.1 (by unfold jw;rw[ak,aL];rfl),?_⟩,m8.2⟩,fun aL=>⟨⟨⟨hK.1,yU.2⟩,Fs.1,by omega⟩,?_⟩⟩
      ·unfold wB;rw[uC,aL,Bool.or_true];rfl
      ·rw[aL,Bool.or_false] at uC
       unfold Ry Rt
       have mX:nth M.aw (nth J.a5 k)=jV J M k:=rfl
       rw[mX]
       refine⟨fun y0=>⟨vR,?_⟩,fun y0=>⟨⟨hY,qK,hc,m8.1,s1.2.1 (by unfold jw;rw[ak,aL,y0];rfl),?_⟩,m8.2⟩⟩
       ·rw[y0,Bool.or_true] at uD
        have b0:=s1.1 (show jw J M U k=true by unfold jw;rw[ak,aL,y0];rfl)
        refine⟨fun aP=>⟨⟨hY,qK,hc,m8.1,b0,?_⟩,m8.2⟩,fun aP=>⟨⟨hY,qK,hc,m8.1,b0,?_⟩,m8.2⟩⟩
        ·unfold wB at aP ⊢
         rw[uC,uD]
         cases ch:wj J M U k with
         | true=>rw[ch] at aP;simp at aP
         | false=>simp
        ·unfold wB at aP ⊢
         rw[uC,uD]
         cases ch:wj J M U k with
         | true=>simp
         | false=>
          rw[ch] at aP
          cases cD:zV J M U k with
          | true=>simp
          | false=>rw[cD] at aP;simp at aP
       ·rw[y0,Bool.or_false] at uD
        unfold wB;rw[uC,uD]
    ·unfold RC
     refine⟨cb b1 hi,fun qH=>⟨⟨df (dp _),rfl⟩,fun j fu uf=> ?_⟩⟩
     obtain⟨uf,rfl⟩:=uf
     unfold RB RA
     refine⟨fun aN=> ?_,fun aN=>⟨cb uf aN,?_⟩⟩
     ·have bk:=cO (cw h2) b1 hi rfl
      refine⟨⟨bk.1,?_⟩,bk.2⟩
      have gg:=cb b1 hi
      rw[iU (cw h2) b1.1 (by simpa using hi),show(i+1).toNat=i.toNat+1 by omega,List.take_succ_eq_append_getElem gg.2,List.flatten_append]
      have ot: ¬j<((nth [(nth J.O U).aX,(nth J.O U).bx] i).length:Int):=by simpa using aN
      have LY:=uf.1
      have bq:(nth [(nth J.O U).aX,(nth J.O U).bx] i).take j.toNat=nth [(nth J.O U).aX,(nth J.O U).bx] i:=List.take_of_length_le (by omega)
      rw[bq,gk gg.2]
      unfold qR
      rw[List.foldl_append]
      simp
     ·have bk:=cO (cw qH) uf aN rfl
      refine⟨⟨bk.1,?_⟩,bk.2⟩
      have ot:=cb uf aN
      rw[iU (cw qH) uf.1 (by simpa using aN),show(j+1).toNat=j.toNat+1 by omega,List.take_succ_eq_append_getElem ot.2,gk ot.2]
      unfold qR
      rw[List.foldl_append];rfl
  ·have r3:0≤s∧s<J.ai:=⟨de.1,by simpa using hs⟩
   have bk:=cO (N:=J.ai) (by omega) de hs rfl
   have s1:=qx (q:=nE J M U) (N:=J.ai) (by omega) de hs
   refine⟨⟨de.1,by omega⟩,?_⟩
   unfold RF
   rw[uS,uS]
   have vR:((ef (nE J M U) s).length+[s].length)*8≤140737488355328∧(ef (nE J M U) s).length+[s].length≤4611686018427387904:=by
    simp only[List.length_singleton];omega
   refine⟨fun ak=>⟨vR,fun aP=> ?_,fun aP=> ?_⟩,fun ak=>⟨⟨hY,bk.1,s1.2.1 ak,?_⟩,bk.2⟩⟩
   ·refine⟨⟨hY,bk.1,s1.1 ak,?_⟩,bk.2⟩
    by_cases z:ef (k7 J M U) v≠[]
    ·rw[if_pos z] at aP;simp at aP
    ·rw[if_neg z,if_pos (by simp)]
   ·refine⟨⟨hY,bk.1,s1.1 ak,?_⟩,bk.2⟩
    by_cases z:ef (k7 J M U) v≠[]
    ·rw[if_pos z,if_pos z]
    ·rw[if_neg z,if_neg z]
     rw[if_neg z] at aP
     by_cases oH:ef (nE J M U) s≠[]
     ·rw[if_pos oH,if_pos (by simp)]
     ·rw[if_neg oH] at aP;simp at aP
   ·rfl
 ·have b9:=cb a0 hv
  have hL:=eg.len
  have e1:=eg.row U aT h1
  have bk:=cO (cw aG) a0 hv rfl
  have s1:=qx (q:=k7 J M U) (cw aG) a0 hv
  unfold Rw Rv
  have vR:((ef (k7 J M U) v).length+[v].length)*8≤140737488355328∧(ef (k7 J M U) v).length+[v].length≤4611686018427387904:=by
   simp only[List.length_singleton];omega
  refine⟨fun _=>⟨⟨b9.1,by omega⟩,fun _=>⟨⟨aT,by omega⟩,⟨b9.1,by omega⟩,fun _=>⟨b9,fun _=>b9⟩⟩⟩,fun ak=>⟨vR,⟨bk.1,s1.1 ak,by rw[if_pos (by simp)]⟩,bk.2⟩,fun ak=>⟨⟨bk.1,s1.2.1 ak,rfl⟩,bk.2⟩⟩)
def ad_:eC Try.prog:=⟨154,[.dt,.frame,.int],[.stays,.int],some fun x=>ry x.1 x.2.1 x.2.2.1,fun x=>((tB x.1 x.2.1 x.2.2.1).1,(tB x.1 x.2.1 x.2.2.1).2,()),fun x h=>ad9 x.1 x.2.1 x.2.2.1 h⟩
def RJ (J:az) (M:Frame) (U:Int) (al:Int):Prop:=
 ((0≤U∧U.toNat<M.O.length)∧(((nth M.O U).aq !=0)=true→2=al))∧((!((nth M.O U).aq !=0))=true→(ry J M U)∧((tB J M U).2=al))
theorem aei (J:az) (M:Frame) (U:Int) (aI:ry J M U):b2 Try.prog 116 [.agg (bg false J),.agg (bZ false M),ag U] (ag (eA J M U)):=(fun(h:RJ J M U (eA J M U))=>b2.run (ps:=[.dt,.frame,.int]) (rs:=[.int]) (x:=(J,M,U,())) (r:=((eA J M U),())) ⟨24,ep,[ad_]⟩ ⟨[],[],[],[],[]⟩ .nil Try.func116 h) (by
 unfold RJ
 have s4:=aI
 obtain⟨hf,aT,h1⟩:=s4
 have hw:=hf.fr.O
 refine⟨⟨⟨aT,by omega⟩,fun aP=> ?_⟩,fun aP=>⟨aI,?_⟩⟩
 ·unfold eA;rw[if_pos (by simpa using aP)]
 ·unfold eA;rw[if_neg (by simpa using aP)];rfl)
def NL (J:az) (M:Frame) (U al:Int):Prop:=
  ((decide ((((iD J M U).1).O.length:Int)>0))=true→3=al)∧((decide ((((iD J M U).1).O.length:Int)>0))=false→((iD J M U).1).ai.length≤4611686018427387904→((decide ((((iD J M U).1).ai.length:Int)>0))=true→4=al)∧((decide ((((iD J M U).1).ai.length:Int)>0))=false→((iD J M U).2.1=true→5=al)∧((iD J M U).2.1=false→(iD J M U).2.2=true→6=al)))
def NM (J:az) (M:Frame) (U al:Int):Prop:=
  ((0≤U∧U.toNat<M.O.length)∧((((nth M.O U).aq !=0)=true→2=al)∧(((nth M.O U).aq !=0)=false→((iD J M U).1).O.length≤4611686018427387904→NL J M U al)))∧((((iD J M U).1).O.length≤4611686018427387904)∧(((iD J M U).1).ai.length≤4611686018427387904)∧((!((nth M.O U).aq !=0)&&(!(decide ((((iD J M U).1).O.length:Int)>0))&&(!(decide ((((iD J M U).1).ai.length:Int)>0))&&(!((iD J M U).2.1)&&(!((iD J M U).2.2))))))=true)→0=al)
def NK (J:az) (M:Frame) (U:Int) (al:Int):Prop:=
 (ry J M U)∧(NM J M U al)
theorem ZM (J:az) (M:Frame) (U:Int) (aI:ry J M U):b2 Try.prog 114 [.agg (bg false J),.agg (bZ false M),ag U] (ag (eA J M U)):=(fun(h:NK J M U (eA J M U))=>b2.run (ps:=[.dt,.frame,.int]) (rs:=[.int]) (x:=(J,M,U,())) (r:=((eA J M U),())) ⟨40,ep,[YG]⟩ ⟨[],[],[],[],[]⟩ .nil Try.func114 h) (by
 unfold NK NM NL
 have s4:=aI
 obtain⟨hf,aT,h1⟩:=s4
 have hw:=hf.fr.O
 have U1:iD J M U=(iN J M U,sQ J M U,vi J M U):=rfl
 rw[U1]
 have br:(decide (((iN J M U).O.length:Int)>0))=true↔(iN J M U).O≠[]:=by
  rw[decide_eq_true_eq,←List.length_pos_iff];omega
 have e2:(decide (((iN J M U).ai.length:Int)>0))=true↔(iN J M U).ai≠[]:=by
  rw[decide_eq_true_eq,←List.length_pos_iff];omega
 refine⟨aI,⟨⟨aT,by omega⟩,fun aP=> ?_,fun aP _=>⟨fun a3=> ?_,fun a3 _=>⟨fun hb=> ?_,fun hb=>⟨fun hc=> ?_,fun hc bh=> ?_⟩⟩⟩⟩,fun ak=> ?_⟩
 ·unfold eA;rw[if_pos (by simpa using aP)]
 ·unfold eA codeF;rw[if_neg (by simpa using aP),if_pos (br.1 a3)]
 ·unfold eA codeF;rw[if_neg (by simpa using aP),if_neg (fun h=>by rw[show(decide (((iN J M U).O.length:Int)>0))=true from br.2 h] at a3;cases a3),if_pos (e2.1 hb)]
 ·unfold eA codeF;rw[if_neg (by simpa using aP),if_neg (fun h=>by rw[show(decide (((iN J M U).O.length:Int)>0))=true from br.2 h] at a3;cases a3),if_neg (fun h=>by rw[show(decide (((iN J M U).ai.length:Int)>0))=true from e2.2 h] at hb;cases hb),if_pos hc]
 ·unfold eA codeF;rw[if_neg (by simpa using aP),if_neg (fun h=>by rw[show(decide (((iN J M U).O.length:Int)>0))=true from br.2 h] at a3;cases a3),if_neg (fun h=>by rw[show(decide (((iN J M U).ai.length:Int)>0))=true from e2.2 h] at hb;cases hb),if_neg (by rw[show sQ J M U=false from hc];simp),if_pos bh]
 ·have ak:=ak.2.2
  simp only[Bool.and_eq_true,Bool.not_eq_true'] at ak
  obtain⟨q1,q2,q3,q4,cR⟩:=ak
  unfold eA codeF;rw[if_neg (by simpa using q1),if_neg (fun h=>by rw[show(decide (((iN J M U).O.length:Int)>0))=true from br.2 h] at q2;cases q2),if_neg (fun h=>by rw[show(decide (((iN J M U).ai.length:Int)>0))=true from e2.2 h] at q3;cases q3),if_neg (by rw[show sQ J M U=false from q4];simp),if_neg (by rw[show vi J M U=false from cR];simp)])
end Go.Proofs.Ytglpfccgmfhkdaa.Fw
