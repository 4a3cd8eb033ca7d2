/- Walks and summaries of functions, printed by a program of mine (tools/mk2.py), with the proofs of what they owe. -/
import Derived.Test.YtglpfccgmfhkdaaM5
set_option linter.unusedVariables false
set_option maxRecDepth 100000
set_option maxHeartbeats 4000000
set_option linter.unusedSimpArgs false
namespace Go.Proofs.Ytglpfccgmfhkdaa.Fw
open Go
attribute [local irreducible] evS evSD WpS Weak Oper.looksAt
noncomputable def acT:Code:=iw Try.f140
def acU:List Item:=[aq 0,aq 1,aq 2,aq 3,aq 4,aq 5,aq 6,aq 7,aq 8,aq 9,aq 10,aq 11,aq 12,aq 13,aq 14,aq 15,aq 16,aq 17,aq 18,aq 19,aq 20,aq 21,aq 22,aq 23,aq 24,aq 25,aq 26,aq 27,aq 28,aq 29,aq 30,aq 31,aq 32,aq 33,aq 34,aq 35,aq 36,aq 37]
def acV:List (List Nat):=[[],[0],[0,1],[0,1,2],[],rg 0 5,rg 0 6,rg 0 7,rg 0 8,rg 0 9,rg 0 10,rg 0 11,rg 0 12,rg 0 9,rg 0 9++[13],rg 0 9,rg 0 9++[13,14,15],rg 0 9++rg 13 17,rg 0 18,rg 0 19,rg 0 20,rg 0 21,rg 0 22,rg 0 22,rg 0 22++[23],rg 0 25,rg 0 26,rg 0 27,rg 0 28,rg 0 29,rg 0 30,rg 0 27,rg 0 27++[31],rg 0 33,rg 0 34,rg 0 35,rg 0 36,rg 0 37]
abbrev qX (r:Type):Type:=List (List Bool)→Int→List ae→r
def Ic (aS:qX Prop) (aU:qX Nat) (a9:Int) (hi:List Nat) (aY:List (List Bool)) (c8:Int) (aE:List ae):Prop:=
  (aE.length=hi.length∧a9.toNat<aE.length)∧((aE.length=hi.length∧a9.toNat<aE.length)∧(aS aY c8 (aE.set a9.toNat (ae.mk (nth aE a9).ar (IntKind.i64.wrap ((nth aE a9).af+1)) (nth aE a9).ac (nth aE a9).ao (nth aE a9).ap))∧aU aY c8 (aE.set a9.toNat (ae.mk (nth aE a9).ar (IntKind.i64.wrap ((nth aE a9).af+1)) (nth aE a9).ac (nth aE a9).ao (nth aE a9).ap))<aU aY c8 aE))
def Ie (aS:qX Prop) (aU:qX Nat) (J:Way) (a9:Int) (hk:Bool) (aC:List Bool) (ak:List bc) (hw:List ae) (hi:List Nat) (hb aY:List (List Bool)) (c8:Int) (aE:List ae):Prop:=
  (((aE.length=hi.length∧a9.toNat<aE.length)∧((((nth hi a9)<aY.length)∧(0≤(nth aE a9).af∧(nth aE a9).af.toNat<(nth aE a9).ac.length))∧(((nth hi a9)<aY.length∧(nth aE a9).af.toNat<(aY.getD (nth hi a9) []).length)∧((!(nth (aY.getD (nth hi a9) []) (nth aE a9).af))=false→(0≤(nth aE a9).af∧(nth aE a9).af.toNat<J.ah.length)∧((0≤(nth J.ah (nth aE a9).af)∧(nth J.ah (nth aE a9).af).toNat<aC.length)∧((nth aC (nth J.ah (nth aE a9).af))=false→(decide ((nth aE a9).af<(IntKind.i64.wrap ((J.ah.length:Int) - 1))))=true→(aE.length=hi.length∧a9.toNat<aE.length)∧((((nth hi a9)<aY.length)∧(0≤(IntKind.i64.wrap ((nth aE a9).af+1))∧(IntKind.i64.wrap ((nth aE a9).af+1)).toNat<(nth aE a9).ac.length))∧((nth hi a9)<aY.length∧(IntKind.i64.wrap ((nth aE a9).af+1)).toNat<(aY.getD (nth hi a9) []).length))))))))∧(((!(nth (aY.getD (nth hi a9) []) (nth aE a9).af)) || ((nth aC (nth J.ah (nth aE a9).af)) || ((decide ((nth aE a9).af<(IntKind.i64.wrap ((J.ah.length:Int) - 1))))&&(!(nth (aY.getD (nth hi a9) []) (IntKind.i64.wrap ((nth aE a9).af+1)))))))=true→y4 J a9 hk aC ak hw hi hb aC ak aE hi aY))∧((!((!(nth (aY.getD (nth hi a9) []) (nth aE a9).af)) || ((nth aC (nth J.ah (nth aE a9).af)) || ((decide ((nth aE a9).af<(IntKind.i64.wrap ((J.ah.length:Int) - 1))))&&(!(nth (aY.getD (nth hi a9) []) (IntKind.i64.wrap ((nth aE a9).af+1))))))))=true→Ic aS aU a9 hi aY c8 aE)
def If (aS:qX Prop) (aU:qX Nat) (J:Way) (a9:Int) (hk:Bool) (aC:List Bool) (ak:List bc) (hw:List ae) (hi:List Nat) (hb aY:List (List Bool)) (c8:Int) (aE:List ae):Prop:=
  ((aE.length=hi.length∧a9.toNat<aE.length)∧((decide ((nth aE a9).af<(J.ah.length:Int)))=false→(Bo a9 hk aC ak aE hi aY)∧(∀(zK:List ae) (i14:List Nat) (xO:List (List Bool)),ul a9 hk aC ak aE hi aY aC ak zK i14 xO→(y4 J a9 hk aC ak hw hi hb aC ak zK i14 xO))))∧((decide ((nth aE a9).af<(J.ah.length:Int)))=true→(aE.length=hi.length∧a9.toNat<aE.length)∧(Ie aS aU J a9 hk aC ak hw hi hb aY c8 aE))
def Ig (ay:List (List Bool)→Int→Prop) (aB:List (List Bool)→Int→Nat) (J:Way) (a9:Int) (aC:List Bool) (hw:List ae) (hi:List Nat) (aY:List (List Bool)) (c8:Int):Prop:=
  ((0≤c8∧c8.toNat<J.ah.length)∧((0≤(nth J.ah c8)∧(nth J.ah c8).toNat<aC.length)∧((nth aC (nth J.ah c8))=true→(hw.length=hi.length∧a9.toNat<hw.length)∧((((nth hi a9)<aY.length)∧(0≤c8∧c8.toNat<(nth hw a9).ac.length))∧((nth hi a9)<aY.length∧c8.toNat<(aY.getD (nth hi a9) []).length)))))∧(∀u_:List (List Bool),(bif (nth aC (nth J.ah c8)) then(aY.set (nth hi a9) ((aY.getD (nth hi a9) []).set c8.toNat true)) else aY)=u_→(ay u_ (IntKind.i64.wrap (c8+1))∧aB u_ (IntKind.i64.wrap (c8+1))<aB aY c8))
def Ib (J:Way) (a9:Int) (hg:Nat) (hk:Bool) (aC:List Bool) (ak:List bc) (hw:List ae) (hi:List Nat) (hb:List (List Bool)) (ay:List (List Bool)→Int→Prop) (aB:List (List Bool)→Int→Nat) (aS:qX Prop) (aU:qX Nat):Prop:=
 J.ah.length≤4611686018427387904→ay hb 0∧ ∀(aY:List (List Bool)) (c8:Int),ay aY c8→(((decide (c8<(J.ah.length:Int)))=false→aS aY c8 hw∧ ∀(aE:List ae),aS aY c8 aE→(If aS aU J a9 hk aC ak hw hi hb aY c8 aE))∧((decide (c8<(J.ah.length:Int)))=true→Ig ay aB J a9 aC hw hi aY c8))
theorem acW (J:Way) (a9:Int) (hg:Nat) (hk:Bool) (aC:List Bool) (ak:List bc) (hw:List ae) (hi:List Nat) (hb:List (List Bool)) (ay:List (List Bool)→Int→Prop) (aB:List (List Bool)→Int→Nat) (aS:qX Prop) (aU:qX Nat) (h:Ib J a9 hg hk aC ak hw hi hb ay aB aS aU):dz Try.prog 140 [.agg (dk false J),.ptr 0 hg 0 0,.ptr 3 0 (0+a9.toNat) 0] (⟨hg,4,[[al hk,aj 1 0 aC.length,aj 2 0 ak.length,aj 3 0 hw.length]]⟩::⟨0,1,List.map aX aC⟩::⟨0,2,List.map a5 ak⟩::⟨0,5,a0 4 hw hi⟩::List.map bk hb) (fun r H'=> ∃(eN:List ae) (fU:List Nat) (dZ:List (List Bool)),r= .tup []∧H'=(⟨hg,4,[[al hk,aj 1 0 aC.length,aj 2 0 ak.length,aj 3 0 eN.length]]⟩::⟨0,1,List.map aX aC⟩::⟨0,2,List.map a5 ak⟩::⟨0,5,a0 4 eN fU⟩::List.map bk dZ)∧y4 J a9 hk aC ak hw hi hb aC ak eN fU dZ):=by
 unfold Ib at h
 refine dz.go (fn:=Try.f140) [(0,.agg (dk false J)),(1,.ptr 0 hg 0 0),(2,.ptr 3 0 (0+a9.toNat) 0)] Try.func140 (fun _ _=> ?_)
 show WpS _ (bT acT 1) _ ⟨bh 92 [(0,.agg (dk false J)),(1,.ptr 0 hg 0 0),(2,.ptr 3 0 (0+a9.toNat) 0)],[],(⟨hg,4,[[al hk,aj 1 0 aC.length,aj 2 0 ak.length,aj 3 0 hw.length]]⟩::⟨0,1,List.map aX aC⟩::⟨0,2,List.map a5 ak⟩::⟨0,5,a0 4 hw hi⟩::List.map bk hb)⟩
 refine sh [] 0 [(3,az 3 0)] [1] [0,1,2] (fun L=>(3,(dk false J))::L) id ?_
 refine cu [(6,ag (J.ah.length:Int))] [3] (J.ah.length≤4611686018427387904) ?_ (fun q2=> ?_)
 ·
  refine bL [] 1 ?_
  refine sLen 3 (some 12) [(11,bK c0 J.ah),(10,az 3 0)] c0 J.ah (fun q3=> ?_)
  exact b1 [(6,ag (J.ah.length:Int))] q3
 replace h:=h q2
 refine hB ?_
 refine cu [(14,bK c0 J.ah),(15,ag (J.ah.length:Int)),(16,ag 0)] [4] (True) ?_ (fun q4=> ?_)
 ·
  refine bL [] 2 ?_
  refine sLen 3 (some 15) [(14,bK c0 J.ah),(13,az 3 0)] c0 J.ah (fun cH=> ?_)
  exact b1 [(16,ag 0)] trivial
 refine fc 0 ?_
 obtain⟨mm,h⟩:=h
 refine j8 (fun(v:List (List Bool)×Int)=>(⟨(bh 92 [(1,.ptr 0 hg 0 0),(2,.ptr 3 0 (0+a9.toNat) 0),(3,az 3 0),(6,ag (J.ah.length:Int)),(14,bK c0 J.ah),(15,ag (J.ah.length:Int)),(16,ag (v.2))]),[(3,(dk false J))],(⟨hg,4,[[al hk,aj 1 0 aC.length,aj 2 0 ak.length,aj 3 0 hw.length]]⟩::⟨0,1,List.map aX aC⟩::⟨0,2,List.map a5 ak⟩::⟨0,5,a0 4 hw hi⟩::List.map bk (v.1))⟩:St)) (fun(v:List (List Bool)×Int)=>ay (v.1) (v.2)) (fun(v:List (List Bool)×Int)=>aB (v.1) (v.2)) (hb,0) (dt []) mm (fun v aZ=> ?_)
 obtain⟨aY,c8⟩:=v
 replace h:=h aY c8 aZ
 dsimp only
 refine dX [] 3 [(17,al (decide (c8<(J.ah.length:Int))))] [1] [7] ?_
 obtain⟨oQ,h⟩:=h
 refine cu [] [0,1,7] ((decide (c8<(J.ah.length:Int)))=true) ?_ (fun fE=> ?_)
 ·
  replace h:=oQ
  refine dA (fun ft=> ?_) (fun ft=> ?_)
  ·
   refine eb ?_
   exact b_.normal (by simp only[ft]<;>rfl) dT
  ·
   replace h:=h ft
   refine iL 0 ?_
   refine b_.exit ?_
   refine dO.exit ?_
   refine ch.here ?_
   refine dR.normal ?_
   refine hB ?_
   refine fc 2 ?_
   obtain⟨jo,h⟩:=h
   refine j8 (fun(v:List ae)=>(⟨(bh 92 [(1,.ptr 0 hg 0 0),(2,.ptr 3 0 (0+a9.toNat) 0),(3,az 3 0),(6,ag (J.ah.length:Int))]),[(3,(dk false J))],(⟨hg,4,[[al hk,aj 1 0 aC.length,aj 2 0 ak.length,aj 3 0 v.length]]⟩::⟨0,1,List.map aX aC⟩::⟨0,2,List.map a5 ak⟩::⟨0,5,a0 4 v hi⟩::List.map bk aY)⟩:St)) (fun(v:List ae)=>aS aY c8 v) (fun(v:List ae)=>aU aY c8 v) hw (dt []) jo (fun aE aZ=> ?_)
   replace h:=h aE aZ
   unfold If at h
   obtain⟨pH,h⟩:=h
   refine cu [] [4] ((decide ((nth aE a9).af<(J.ah.length:Int)))=true) ?_ (fun iA=> ?_)
   ·
    replace h:=pH
    obtain⟨lY,h⟩:=h
    refine cu [(40,al (decide ((nth aE a9).af<(J.ah.length:Int))))] [4] (True) ?_ (fun gP=> ?_)
    ·
     replace h:=lY
     refine bL [] 8 ?_
     have ik:=h
     refine iC 4 (some 38) [(37,.ptr 3 0 (0+a9.toNat) 1),(36,.ptr 3 0 (0+a9.toNat) 0),(35,.ptr 3 0 (0+a9.toNat) 0)] (a0 4 aE hi) a9 3 1 0 (ag (nth aE a9).af) (dF ik.1 ik.2) ?_
     exact b1 [(40,al (decide ((nth aE a9).af<(J.ah.length:Int)))),(39,ag (J.ah.length:Int))] trivial
    refine dA (fun hX=> ?_) (fun hX=> ?_)
    ·
     refine eb ?_
     exact b_.normal (by simp only[ft,hX]<;>rfl) dT
    ·
     replace h:=h hX
     refine iL 2 ?_
     refine b_.exit ?_
     refine dO.exit ?_
     refine ch.here ?_
     refine dR.normal ?_
     refine bL [] 12 ?_
     obtain⟨jZ,h⟩:=h
     refine s8 2 (some 91) [(90,.ptr 3 0 (0+a9.toNat) 0)] [.ptr 3 0 (0+a9.toNat) 0] _ (Ia a9 hg hk aC ak aE hi aY jZ) (fun r H' ak=>by obtain⟨_,_,_,rfl,_⟩:=ak;rfl) ?_
     rintro r H' ⟨zK,i14,xO,rfl,rfl,hH⟩
     replace h:=h zK i14 xO hH
     refine dM [] ?_
     refine At (t0) [] ?_
     exact⟨zK,i14,xO,rfl,rfl,h⟩
   replace h:=h iA
   refine fc 3 ?_
   obtain⟨ls,h⟩:=h
   refine cu [(9,ag (nth aE a9).af)] [4] (True) ?_ (fun hp=> ?_)
   ·
    replace h:=ls
    refine bL [] 9 ?_
    have il:=h
    refine iC 4 (some 44) [(43,.ptr 3 0 (0+a9.toNat) 1),(42,.ptr 3 0 (0+a9.toNat) 0),(41,.ptr 3 0 (0+a9.toNat) 0)] (a0 4 aE hi) a9 3 1 0 (ag (nth aE a9).af) (dF il.1 il.2) ?_
    exact b1 [(9,ag (nth aE a9).af)] trivial
   unfold Ie at h
   obtain⟨oP,h⟩:=h
   refine cu [] [0,1,4] ((!((!(nth (aY.getD (nth hi a9) []) (nth aE a9).af)) || ((nth aC (nth J.ah (nth aE a9).af)) || ((decide ((nth aE a9).af<(IntKind.i64.wrap ((J.ah.length:Int) - 1))))&&(!(nth (aY.getD (nth hi a9) []) (IntKind.i64.wrap ((nth aE a9).af+1))))))))=true) ?_ (fun km=> ?_)
   ·
    replace h:=oP
    obtain⟨k2,h⟩:=h
    refine cu [(82,al ((!(nth (aY.getD (nth hi a9) []) (nth aE a9).af)) || ((nth aC (nth J.ah (nth aE a9).af)) || ((decide ((nth aE a9).af<(IntKind.i64.wrap ((J.ah.length:Int) - 1))))&&(!(nth (aY.getD (nth hi a9) []) (IntKind.i64.wrap ((nth aE a9).af+1))))))))] [0,1,4] (True) ?_ (fun jE=> ?_)
    ·
     replace h:=k2
     refine m0 [] 10 acU acV [] ?_
     obtain⟨k1,h⟩:=h
     refine nz 4 (some 48) [(47,.ptr 3 0 (0+a9.toNat) 2),(46,.ptr 3 0 (0+a9.toNat) 0),(45,.ptr 3 0 (0+a9.toNat) 0)] (a0 4 aE hi) a9 36 2 0 (aj ((nth hi a9)+4) 0 (nth aE a9).ac.length) (dF k1.1 k1.2) ?_
     obtain⟨⟨h6,ae0⟩,h⟩:=h
     refine u5 2 (some 50) [(49,ag (nth aE a9).af)] aY (nth hi a9) 4 h6 ae0 ?_
     obtain⟨jm,h⟩:=h
     refine zE 1 (some 51) [] aY (nth hi a9) (nth aE a9).af 4 jm.1 jm.2 ?_
     refine pN 2 53 (!(nth (aY.getD (nth hi a9) []) (nth aE a9).af)) [(52,al (!(nth (aY.getD (nth hi a9) []) (nth aE a9).af)))] (fun g4=> ?_) (fun g4=> ?_)
     ·
      exact kM ([(82,al true)]++gh [81,80,79,78,77,76,75,74,73,72,71,70,69,68,67]++[(66,al true),(65,al true)]++gh [64,63,62,61,60,59,58,57,56,55,54]) trivial (by simp only[ft,iA,g4]<;>kernel_rfl)
     ·
      replace h:=h g4
      refine Cx 4 (some 57) (aj 1 0 aC.length) [(56,.ptr 0 hg 0 1),(55,.ptr 0 hg 0 0),(54,.ptr 0 hg 0 0)] (φ:=hg=hg) rfl ?_
      obtain⟨mU,h⟩:=h
      refine r4 4 (some 61) [(60,ag (nth aE a9).af),(59,bK c0 J.ah),(58,az 3 0)] c0 J.ah 1 mU ?_
      obtain⟨Sp,h⟩:=h
      refine u4 2 (some 63) [(62,ag (nth J.ah (nth aE a9).af))] 1 0 1 Sp ?_
      refine xq 1 (some 64) [] aX aC (nth J.ah (nth aE a9).af) 4 0 0 (al (nth aC (nth J.ah (nth aE a9).af))) (by simpa using Sp.2) ?_
      refine pN 2 66 (nth aC (nth J.ah (nth aE a9).af)) [(65,al (nth aC (nth J.ah (nth aE a9).af)))] (fun im=> ?_) (fun im=> ?_)
      ·
       exact kM ([(82,al true)]++gh [81,80,79,78,77,76,75,74,73,72,71,70,69,68,67]) trivial (by simp only[ft,iA,g4,im]<;>kernel_rfl)
      ·
       replace h:=h im
       refine pN 5 71 (decide ((nth aE a9).af<(IntKind.i64.wrap ((J.ah.length:Int) - 1)))) [(70,al (decide ((nth aE a9).af<(IntKind.i64.wrap ((J.ah.length:Int) - 1))))),(69,ag (IntKind.i64.wrap ((J.ah.length:Int) - 1))),(68,ag (J.ah.length:Int)),(67,ag (nth aE a9).af)] (fun h7=> ?_) (fun h7=> ?_)
       ·
        replace h:=h h7
        obtain⟨nt,h⟩:=h
        refine nz 4 (some 75) [(74,.ptr 3 0 (0+a9.toNat) 2),(73,.ptr 3 0 (0+a9.toNat) 0),(72,.ptr 3 0 (0+a9.toNat) 0)] (a0 4 aE hi) a9 36 2 0 (aj ((nth hi a9)+4) 0 (nth aE a9).ac.length) (dF nt.1 nt.2) ?_
        obtain⟨⟨kn,ae2⟩,h⟩:=h
        refine u5 3 (some 78) [(77,ag (IntKind.i64.wrap ((nth aE a9).af+1))),(76,ag (nth aE a9).af)] aY (nth hi a9) 4 kn ae2 ?_
        have mi:=h
        refine zE 1 (some 79) [] aY (nth hi a9) (IntKind.i64.wrap ((nth aE a9).af+1)) 4 mi.1 mi.2 ?_
        exact kM [(82,al (!(nth (aY.getD (nth hi a9) []) (IntKind.i64.wrap ((nth aE a9).af+1))))),(81,al (!(nth (aY.getD (nth hi a9) []) (IntKind.i64.wrap ((nth aE a9).af+1))))),(80,al (!(nth (aY.getD (nth hi a9) []) (IntKind.i64.wrap ((nth aE a9).af+1)))))] trivial (by simp only[ft,iA,g4,im,h7]<;>kernel_rfl)
       ·
        exact kM ([(82,al false),(81,al false)]++gh [80,79,78,77,76,75,74,73,72]) trivial (by simp only[ft,iA,g4,im,h7]<;>kernel_rfl)
    refine dA (fun jn=> ?_) (fun jn=> ?_)
    ·
     replace h:=h jn
     refine hj ?_
     refine b_.ret ?_
     refine ch.ret ?_
     refine dO.ret ?_
     refine ch.ret ?_
     refine dR.ret ?_
     refine mo (t0) [] ?_
     exact⟨aE,hi,aY,rfl,rfl,h⟩
    ·
     refine eb ?_
     exact b_.normal (by simp only[ft,iA,jn]<;>rfl) dT
   replace h:=h km
   unfold Ic at h
   refine bL [] 11 ?_
   obtain⟨g5,h⟩:=h
   refine iC 4 (some 86) [(85,.ptr 3 0 (0+a9.toNat) 1),(84,.ptr 3 0 (0+a9.toNat) 0),(83,.ptr 3 0 (0+a9.toNat) 0)] (a0 4 aE hi) a9 3 1 0 (ag (nth aE a9).af) (dF g5.1 g5.2) ?_
   obtain⟨k3,h⟩:=h
   refine j0 4 none [(89,.ptr 3 0 (0+a9.toNat) 1),(88,.ptr 3 0 (0+a9.toNat) 0),(87,ag (IntKind.i64.wrap ((nth aE a9).af+1)))] (a0 4 aE hi) a9 1 1 0 [ag (IntKind.i64.wrap ((nth aE a9).af+1))] 3 (a0 4 (aE.set a9.toNat (ae.mk (nth aE a9).ar (IntKind.i64.wrap ((nth aE a9).af+1)) (nth aE a9).ac (nth aE a9).ao (nth aE a9).ap)) hi) (dF k3.1 k3.2) (kb k3.1 k3.2) ?_
   refine dM [] ?_
   refine ch.normal ?_
   exact dO.again (aE.set a9.toNat (ae.mk (nth aE a9).ar (IntKind.i64.wrap ((nth aE a9).af+1)) (nth aE a9).ac (nth aE a9).ao (nth aE a9).ap)) h (hd (s':=⟨(bh 92 [(1,.ptr 0 hg 0 0),(2,.ptr 3 0 (0+a9.toNat) 0),(3,az 3 0),(6,ag (J.ah.length:Int))]),[(3,(dk false J))],(⟨hg,4,[[al hk,aj 1 0 aC.length,aj 2 0 ak.length,aj 3 0 aE.length]]⟩::⟨0,1,List.map aX aC⟩::⟨0,2,List.map a5 ak⟩::⟨0,5,a0 4 (aE.set a9.toNat (ae.mk (nth aE a9).ar (IntKind.i64.wrap ((nth aE a9).af+1)) (nth aE a9).ac (nth aE a9).ao (nth aE a9).ap)) hi⟩::List.map bk aY)⟩) (dt (n:=92) (A':=[(1,.ptr 0 hg 0 0),(2,.ptr 3 0 (0+a9.toNat) 0),(3,az 3 0),(6,ag (J.ah.length:Int))]) (L':=[(3,(dk false J))]) []) (congrArg (fun z=>(⟨(bh 92 [(1,.ptr 0 hg 0 0),(2,.ptr 3 0 (0+a9.toNat) 0),(3,az 3 0),(6,ag (J.ah.length:Int))]),[(3,(dk false J))],(⟨hg,4,[[al hk,aj 1 0 aC.length,aj 2 0 ak.length,aj 3 0 z]]⟩::⟨0,1,List.map aX aC⟩::⟨0,2,List.map a5 ak⟩::⟨0,5,a0 4 (aE.set a9.toNat (ae.mk (nth aE a9).ar (IntKind.i64.wrap ((nth aE a9).af+1)) (nth aE a9).ac (nth aE a9).ao (nth aE a9).ap)) hi⟩::List.map bk aY)⟩:St)) (show aE.length=(aE.set a9.toNat (ae.mk (nth aE a9).ar (IntKind.i64.wrap ((nth aE a9).af+1)) (nth aE a9).ac (nth aE a9).ao (nth aE a9).ap)).length by simp)))
 replace h:=h fE
 unfold Ig at h
 obtain⟨ml,h⟩:=h
 obtain⟨u_,k4⟩: ∃w:List (List Bool),(bif (nth aC (nth J.ah c8)) then(aY.set (nth hi a9) ((aY.getD (nth hi a9) []).set c8.toNat true)) else aY)=w:=⟨_,rfl⟩
 refine eX [] [7] id (fun _=>(⟨hg,4,[[al hk,aj 1 0 aC.length,aj 2 0 ak.length,aj 3 0 hw.length]]⟩::⟨0,1,List.map aX aC⟩::⟨0,2,List.map a5 ak⟩::⟨0,5,a0 4 hw hi⟩::List.map bk u_)) (True) ?_ (fun nu=> ?_)
 ·
  replace h:=ml
  refine fc 1 ?_
  obtain⟨lu,h⟩:=h
  refine cu [(7,ag c8),(8,ag (nth J.ah c8))] [7] (True) ?_ (fun l0=> ?_)
  ·
   replace h:=lu
   refine bL [] 4 ?_
   have mj:=h
   refine k5 2 (some 19) [(18,ag c8)] c0 J.ah 1 mj ?_
   exact b1 [(8,ag (nth J.ah c8)),(7,ag c8),(20,ag (nth J.ah c8))] trivial
  obtain⟨rW,h⟩:=h
  refine cu [(27,al (nth aC (nth J.ah c8)))] [1,1,7] (True) ?_ (fun mV=> ?_)
  ·
   replace h:=rW
   refine bL [] 5 ?_
   refine nw 4 (some 24) (aj 1 0 aC.length) [(23,.ptr 0 hg 0 1),(22,.ptr 0 hg 0 0),(21,.ptr 0 hg 0 0)] (φ:=hg=hg) rfl ?_
   have Sh:=h
   refine lx 2 (some 26) [(25,ag (nth J.ah c8))] 1 0 1 Sh ?_
   refine Pa 1 (some 27) [] aX aC (nth J.ah c8) 4 0 0 (al (nth aC (nth J.ah c8))) (by simpa using Sh.2) ?_
   exact b1 [] trivial
  refine dA (fun mW=> ?_) (fun mW=> ?_)
  ·
   replace h:=h mW
   refine bL [] 6 ?_
   obtain⟨jp,h⟩:=h
   refine iC 4 (some 31) [(30,.ptr 3 0 (0+a9.toNat) 2),(29,.ptr 3 0 (0+a9.toNat) 0),(28,.ptr 3 0 (0+a9.toNat) 0)] (a0 4 hw hi) a9 36 2 0 (aj ((nth hi a9)+4) 0 (nth hw a9).ac.length) (dF jp.1 jp.2) ?_
   obtain⟨⟨pI,aeZ⟩,h⟩:=h
   refine aa8 2 (some 33) [(32,ag c8)] aY (nth hi a9) 4 pI aeZ ?_
   have l1:=h
   refine abb 1 none [] aY (nth hi a9) c8 true (fun r=>(⟨hg,4,[[al hk,aj 1 0 aC.length,aj 2 0 ak.length,aj 3 0 hw.length]]⟩::⟨0,1,List.map aX aC⟩::⟨0,2,List.map a5 ak⟩::⟨0,5,a0 4 hw hi⟩::r)) l1.1 l1.2 ?_
   refine dM [] ?_
   refine ch.normal ?_
   exact b_.normal trivial (by simp only[←k4,fE,mW,cond_true,cond_false];exact dT)
  ·
   refine eb ?_
   refine ch.normal ?_
   exact b_.normal trivial (by simp only[←k4,fE,mW,cond_true,cond_false];exact dT)
 replace h:=h u_ k4
 refine bL [] 7 ?_
 refine dM [(16,ag (IntKind.i64.wrap (c8+1))),(34,ag (IntKind.i64.wrap (c8+1)))] ?_
 exact dO.again (u_,(IntKind.i64.wrap (c8+1))) h (dt [])
theorem acS (J:Way) (a9:Int) (hg:Nat) (hk:Bool) (aC:List Bool) (ak:List bc) (hw:List ae) (hi:List Nat) (hb:List (List Bool)) (aI:Oc J a9 hk aC ak hw hi hb):dz Try.prog 140 [.agg (dk false J),.ptr 0 hg 0 0,.ptr 3 0 (0+a9.toNat) 0] (⟨hg,4,[[al hk,aj 1 0 aC.length,aj 2 0 ak.length,aj 3 0 hw.length]]⟩::⟨0,1,List.map aX aC⟩::⟨0,2,List.map a5 ak⟩::⟨0,5,a0 4 hw hi⟩::List.map bk hb) (fun r H'=> ∃(eN:List ae) (fU:List Nat) (dZ:List (List Bool)),r= .tup []∧H'=(⟨hg,4,[[al hk,aj 1 0 aC.length,aj 2 0 ak.length,aj 3 0 eN.length]]⟩::⟨0,1,List.map aX aC⟩::⟨0,2,List.map a5 ak⟩::⟨0,5,a0 4 eN fU⟩::List.map bk dZ)∧y4 J a9 hk aC ak hw hi hb aC ak eN fU dZ):=acW J a9 hg hk aC ak hw hi hb (aac J.ah (cW hk aC ak hw hi hb) (view hw hi hb) hi a9 hw) (fun _ k=>cA J.ah.length k) (fun bs _ ws=>aad J.ah (cW hk aC ak hw hi hb) (view hw hi hb) hi a9 bs ws) (fun _ _ ws=>((J.ah.length:Int) - (nth ws a9).af).toNat) (by
 unfold Ib
 obtain⟨F,aT,h1,hs,rI,hC,pn,lT⟩:=aI
 have bf:a9.toNat<hw.length:=by omega
 have dn:=F.ow bf
 have Ex: ∀k:Int,0≤k→k.toNat<J.ah.length→0≤nth J.ah k∧(nth J.ah k).toNat<aC.length:=fun k ba ei=>by
  have:=rI _ (du ei);omega
 intro aH
 refine⟨⟨c7 (dh _),by rw[Int.toNat_zero,RZ];exact dn⟩,fun bs k aZ=>⟨fun A3=> ?_,fun A3=> ?_⟩⟩
 ·obtain⟨aZ,ek⟩:=aZ
  have jy: ¬k<(J.ah.length:Int):=by simpa using A3
  have ba:=aZ.1
  rw[R1 hC (by omega)] at ek
  have v0:(nr J.ah (cW hk aC ak hw hi hb) (nth (view hw hi hb) a9)).length=J.ah.length:=by unfold nr;rw[List.length_zipWith];omega
  refine⟨⟨(nth (view hw hi hb) a9).af,KP pn lT,ek⟩,fun ws c1=> ?_⟩
  obtain⟨g,sx,fZ⟩:=c1
  unfold If
  have bB:(nth ws a9).af=g:=fZ.af
  have e2:bs.getD (nth hi a9) []=nr J.ah (cW hk aC ak hw hi hb) (nth (view hw hi hb) a9):=fZ.ac
  have dK:(nth ws a9).ac.length=J.ah.length:=fZ.p3.trans v0
  have EE:=sx
  obtain⟨bx,aQ,-⟩:=EE
  have kd:=fZ.fp
  have gL:=fZ.qt
  have bP:IntKind.i64.wrap ((J.ah.length:Int) - 1)=(J.ah.length:Int) - 1:=fw (by omega) (by omega)
  rw[bB]
  refine⟨⟨kd,fun hc=>⟨⟨fZ.G,aT,by omega⟩,fun w i b kg=> ?_⟩⟩,fun hc=>⟨kd,?_⟩⟩
  ·obtain⟨G,hv⟩:=kg
   have m7:=fZ.again G hv
   refine⟨m7.G,?_⟩
   rw[m7.gS,fZ.wR]
   have fK:nf J.ah (cW hk aC ak hw hi hb) (nr J.ah (cW hk aC ak hw hi hb) (nth (view hw hi hb) a9)) g=false:=by unfold nf;rw[hc];rfl
   have hN:=Eh hs sx fK
   have AY: ¬g<(J.ah.length:Int):=by simpa using hc
   congr 1
   rw[N_,if_pos (by omega),v0]
  ·have Lg:g<(J.ah.length:Int):=by simpa using hc
   unfold Ie
   rw[bB,e2,dK]
   have K9:=aei (f:=cW hk aC ak hw hi hb) (ac:=nr J.ah (cW hk aC ak hw hi hb) (nth (view hw hi hb) a9)) hs hc
   refine⟨⟨⟨kd,⟨gL,bx,by omega⟩,⟨gL,by omega⟩,fun _=>⟨⟨bx,by omega⟩,Ex g bx (by omega),fun _ aL=>⟨kd,?_⟩⟩⟩,fun W8=> ?_⟩,fun sy=> ?_⟩
   ·rw[bP] at aL
    have aL:g<(J.ah.length:Int) - 1:=by simpa using aL
    rw[fw (by omega) (by omega)]
    exact⟨⟨gL,by omega,by omega⟩,gL,by omega⟩
   ·have bm:nf J.ah (cW hk aC ak hw hi hb) (nr J.ah (cW hk aC ak hw hi hb) (nth (view hw hi hb) a9)) g=false:=by
     have h2:(!nf J.ah (cW hk aC ak hw hi hb) (nr J.ah (cW hk aC ak hw hi hb) (nth (view hw hi hb) a9)) g)=true:=K9.symm.trans W8
     simpa using h2
    have hN:=Eh hs sx bm
    refine⟨fZ.G,?_⟩
    rw[fZ.gS]
    congr 1
    rw[N_,if_neg (by omega),hN]
   ·have bm:nf J.ah (cW hk aC ak hw hi hb) (nr J.ah (cW hk aC ak hw hi hb) (nth (view hw hi hb) a9)) g=true:=by
     have h2:(!nf J.ah (cW hk aC ak hw hi hb) (nr J.ah (cW hk aC ak hw hi hb) (nth (view hw hi hb) a9)) g)=false:=K9.symm.trans (not_eq sy)
     simpa using h2
    obtain⟨bm,_⟩:=KQ hs sx bm
    unfold Ic
    rw[bB]
    have cb:IntKind.i64.wrap (g+1)=g+1:=fw (by omega) (by omega)
    have xE:=fZ.Pg (IntKind.i64.wrap (g+1))
    refine⟨kd,kd,⟨_,bm,xE⟩,?_⟩
    have ig:=xE.af
    show((J.ah.length:Int) - (nth (ws.set a9.toNat _) a9).af).toNat<((J.ah.length:Int) - (nth ws a9).af).toNat
    rw[ig,bB]
    show((J.ah.length:Int) - IntKind.i64.wrap (g+1)).toNat<_
    rw[cb];omega
 ·obtain⟨aZ,ek⟩:=aZ
  have kz:k<(J.ah.length:Int):=by simpa using A3
  have ba:=aZ.1
  have Bh:(j2 J.ah (cW hk aC ak hw hi hb) (nth (view hw hi hb) a9).ac k.toNat).length=J.ah.length:=by rw[IT hC (by omega),hC]
  have e2:bs.getD (nth hi a9) []=j2 J.ah (cW hk aC ak hw hi hb) (nth (view hw hi hb) a9).ac k.toNat:=ek.ac
  have dK:(nth hw a9).ac.length=J.ah.length:=ek.p3.trans Bh
  have gL:=ek.qt
  unfold Ig
  rw[e2]
  refine⟨⟨⟨ba,by omega⟩,Ex k ba (by omega),fun _=>⟨ek.fp,⟨gL,ba,by omega⟩,gL,by omega⟩⟩,fun w eN=> ?_⟩
  have bm:=cI (cv aH) aZ A3 rfl
  refine⟨⟨bm.1,?_⟩,bm.2⟩
  rw[jL (cv aH) ba kz,show(k+1).toNat=k.toNat+1 by omega,←R2 hC (by omega),←eN]
  have pf:=R0 (s:=J.ah) (f:=cW hk aC ak hw hi hb) (b:=(nth (view hw hi hb) a9).ac) hC (show k.toNat<_ by omega)
  rw[jD ba] at pf
  have qm:nth aC (nth J.ah k)=dW (cW hk aC ak hw hi hb) (J.ah[k.toNat]'(by omega)):=by
   unfold dW
   rw[←gE (by omega)];rfl
  rw[qm]
  cases jS:dW (cW hk aC ak hw hi hb) (J.ah[k.toNat]'(by omega)) with
  | true=>
   rw[Bool.or_true]
   exact ek.Hn _ (by rw[List.length_set])
  | false=>
   rw[Bool.or_false]
   have:(j2 J.ah (cW hk aC ak hw hi hb) (nth (view hw hi hb) a9).ac k.toNat).set k.toNat ((nth (view hw hi hb) a9).ac[k.toNat]'(by omega))=j2 J.ah (cW hk aC ak hw hi hb) (nth (view hw hi hb) a9).ac k.toNat:=by
    rw[←pf,gE (xs:=j2 _ _ _ _) (by rw[Bh];omega)];exact List.set_getElem_self _
   rw[this];exact ek)
noncomputable def ac8:Code:=iw Try.f98
def ada:List Item:=[aq 0,aq 1,aq 2,aq 3,aq 4,aq 5,aq 6,aq 7,aq 8,aq 9,aq 10,aq 11,aq 12,aq 13,aq 14,aq 15,aq 16]
def adb:List (List Nat):=[[],[0],[0,1],[0,1,2],rg 0 4,rg 0 5,rg 0 6,rg 0 7,rg 0 8,rg 0 9,rg 0 6,rg 0 6++[10],rg 0 6++[10,11],rg 0 6++[10,11,12],rg 0 14,rg 0 15,rg 0 16]
def ac9:List Item:=[aq 0,aq 1,aq 2,aq 3,aq 4,aq 5]
def ac_:List (List Nat):=[[],[],[1],[1,2],[],rg 0 5]
def Im (J:aA) (aC:List Bool) (b2:List Nat) (ad:Int) (aE:List ae):Prop:=
  (((nth aE ad).ar !=4)&&(nth aC (nth (nth J.O ad).ah 0)))=true→(aE.length=b2.length∧ad.toNat<aE.length)∧((aE.set ad.toNat (ae.mk 4 (nth aE ad).af (nth aE ad).ac (nth aE ad).ao (nth aE ad).ap)).length=b2.length∧ad.toNat<(aE.set ad.toNat (ae.mk 4 (nth aE ad).af (nth aE ad).ac (nth aE ad).ao (nth aE ad).ap)).length)
def Io (b2:List Nat) (ad:Int) (av:List ae):Prop:=
  ((av.set ad.toNat (ae.mk 1 (nth av ad).af (nth av ad).ac (nth av ad).ao (nth av ad).ap)).set ad.toNat (ae.mk 2 (nth (av.set ad.toNat (ae.mk 1 (nth av ad).af (nth av ad).ac (nth av ad).ao (nth av ad).ap)) ad).af (nth (av.set ad.toNat (ae.mk 1 (nth av ad).af (nth av ad).ac (nth av ad).ao (nth av ad).ap)) ad).ac (nth (av.set ad.toNat (ae.mk 1 (nth av ad).af (nth av ad).ac (nth av ad).ao (nth av ad).ap)) ad).ao (nth (av.set ad.toNat (ae.mk 1 (nth av ad).af (nth av ad).ac (nth av ad).ao (nth av ad).ap)) ad).ap)).length=b2.length∧ad.toNat<((av.set ad.toNat (ae.mk 1 (nth av ad).af (nth av ad).ac (nth av ad).ao (nth av ad).ap)).set ad.toNat (ae.mk 2 (nth (av.set ad.toNat (ae.mk 1 (nth av ad).af (nth av ad).ac (nth av ad).ao (nth av ad).ap)) ad).af (nth (av.set ad.toNat (ae.mk 1 (nth av ad).af (nth av ad).ac (nth av ad).ao (nth av ad).ap)) ad).ac (nth (av.set ad.toNat (ae.mk 1 (nth av ad).af (nth av ad).ac (nth av ad).ao (nth av ad).ap)) ad).ao (nth (av.set ad.toNat (ae.mk 1 (nth av ad).af (nth av ad).ac (nth av ad).ao (nth av ad).ap)) ad).ap)).length
def Ip (J:aA) (hk:Bool) (aC:List Bool) (ak:List bc) (aY:List (List Bool)) (b2:List Nat) (ad:Int) (av:List ae):Prop:=
  (fi J (Frame.mk hk aC ak (view (av.set ad.toNat (ae.mk 1 (nth av ad).af (nth av ad).ac (nth av ad).ao (nth av ad).ap)) b2 aY)) ad)=true→((av.set ad.toNat (ae.mk 1 (nth av ad).af (nth av ad).ac (nth av ad).ao (nth av ad).ap)).length=b2.length∧ad.toNat<(av.set ad.toNat (ae.mk 1 (nth av ad).af (nth av ad).ac (nth av ad).ao (nth av ad).ap)).length)∧(Io b2 ad av)
def Iq (J:aA) (hk:Bool) (aC:List Bool) (ak:List bc) (aY:List (List Bool)) (b2:List Nat) (ad:Int) (av:List ae):Prop:=
  (aC.length≤4611686018427387904∧ak.length≤4611686018427387904∧(j7 (av.set ad.toNat (ae.mk 1 (nth av ad).af (nth av ad).ac (nth av ad).ao (nth av ad).ap)) b2 aY∧(av.set ad.toNat (ae.mk 1 (nth av ad).af (nth av ad).ac (nth av ad).ao (nth av ad).ap)).length≤4611686018427387904∧(∀x∈aY,List.length x≤4611686018427387904))∧sV J (Frame.mk hk aC ak (view (av.set ad.toNat (ae.mk 1 (nth av ad).af (nth av ad).ac (nth av ad).ao (nth av ad).ap)) b2 aY)) ad)∧(Ip J hk aC ak aY b2 ad av)
def Ir (ay:dG Prop) (aB:dG Nat) (J:aA) (hk:Bool) (aC:List Bool) (ak:List bc) (aY:List (List Bool)) (b2:List Nat) (ad:Int) (aE ir:List ae):Prop:=
  (((nth ir ad).ar==4)=true→(Oc (nth J.O ad) ad hk aC ak ir b2 aY)∧(∀(xv:List ae) (i55:List Nat) (vr:List (List Bool)),y4 (nth J.O ad) ad hk aC ak ir b2 aY aC ak xv i55 vr→(ay vr i55 (IntKind.i64.wrap (ad+1)) xv∧aB vr i55 (IntKind.i64.wrap (ad+1)) xv<aB aY b2 ad aE)))∧(((nth ir ad).ar==4)=false→ay aY b2 (IntKind.i64.wrap (ad+1)) ir∧aB aY b2 (IntKind.i64.wrap (ad+1)) ir<aB aY b2 ad aE)
def Is (ay:dG Prop) (aB:dG Nat) (J:aA) (hk:Bool) (aC:List Bool) (ak:List bc) (aY:List (List Bool)) (b2:List Nat) (ad:Int) (aE av:List ae):Prop:=
  (((av.length=b2.length∧ad.toNat<av.length)∧(((nth av ad).ar==1)=false→av.length=b2.length∧ad.toNat<av.length))∧((((nth av ad).ar==1) || ((nth av ad).ar==2))=true→(av.length=b2.length∧ad.toNat<av.length)∧(Iq J hk aC ak aY b2 ad av)))∧(∀ir:List ae,(bif (((nth av ad).ar==1) || ((nth av ad).ar==2)) then(bif (fi J (Frame.mk hk aC ak (view (av.set ad.toNat (ae.mk 1 (nth av ad).af (nth av ad).ac (nth av ad).ao (nth av ad).ap)) b2 aY)) ad) then(((av.set ad.toNat (ae.mk 1 (nth av ad).af (nth av ad).ac (nth av ad).ao (nth av ad).ap)).set ad.toNat (ae.mk 2 (nth (av.set ad.toNat (ae.mk 1 (nth av ad).af (nth av ad).ac (nth av ad).ao (nth av ad).ap)) ad).af (nth (av.set ad.toNat (ae.mk 1 (nth av ad).af (nth av ad).ac (nth av ad).ao (nth av ad).ap)) ad).ac (nth (av.set ad.toNat (ae.mk 1 (nth av ad).af (nth av ad).ac (nth av ad).ao (nth av ad).ap)) ad).ao (nth (av.set ad.toNat (ae.mk 1 (nth av ad).af (nth av ad).ac (nth av ad).ao (nth av ad).ap)) ad).ap)).set ad.toNat (ae.mk (nth ((av.set ad.toNat (ae.mk 1 (nth av ad).af (nth av ad).ac (nth av ad).ao (nth av ad).ap)).set ad.toNat (ae.mk 2 (nth (av.set ad.toNat (ae.mk 1 (nth av ad).af (nth av ad).ac (nth av ad).ao (nth av ad).ap)) ad).af (nth (av.set ad.toNat (ae.mk 1 (nth av ad).af (nth av ad).ac (nth av ad).ao (nth av ad).ap)) ad).ac (nth (av.set ad.toNat (ae.mk 1 (nth av ad).af (nth av ad).ac (nth av ad).ao (nth av ad).ap)) ad).ao (nth (av.set ad.toNat (ae.mk 1 (nth av ad).af (nth av ad).ac (nth av ad).ao (nth av ad).ap)) ad).ap)) ad).ar (nth ((av.set ad.toNat (ae.mk 1 (nth av ad).af (nth av ad).ac (nth av ad).ao (nth av ad).ap)).set ad.toNat (ae.mk 2 (nth (av.set ad.toNat (ae.mk 1 (nth av ad).af (nth av ad).ac (nth av ad).ao (nth av ad).ap)) ad).af (nth (av.set ad.toNat (ae.mk 1 (nth av ad).af (nth av ad).ac (nth av ad).ao (nth av ad).ap)) ad).ac (nth (av.set ad.toNat (ae.mk 1 (nth av ad).af (nth av ad).ac (nth av ad).ao (nth av ad).ap)) ad).ao (nth (av.set ad.toNat (ae.mk 1 (nth av ad).af (nth av ad).ac (nth av ad).ao (nth av ad).ap)) ad).ap)) ad).af (nth ((av.set ad.toNat (ae.mk 1 (nth av ad).af (nth av ad).ac (nth av ad).ao (nth av ad).ap)).set ad.toNat (ae.mk 2 (nth (av.set ad.toNat (ae.mk 1 (nth av ad).af (nth av ad).ac (nth av ad).ao (nth av ad).ap)) ad).af (nth (av.set ad.toNat (ae.mk 1 (nth av ad).af (nth av ad).ac (nth av ad).ao (nth av ad).ap)) ad).ac (nth (av.set ad.toNat (ae.mk 1 (nth av ad).af (nth av ad).ac (nth av ad).ao (nth av ad).ap)) ad).ao (nth (av.set ad.toNat (ae.mk 1 (nth av ad).af (nth av ad).ac (nth av ad).ao (nth av ad).ap)) ad).ap)) ad).ac true (nth ((av.set ad.toNat (ae.mk 1 (nth av ad).af (nth av ad).ac (nth av ad).ao (nth av ad).ap)).set ad.toNat (ae.mk 2 (nth (av.set ad.toNat (ae.mk 1 (nth av ad).af (nth av ad).ac (nth av ad).ao (nth av ad).ap)) ad).af (nth (av.set ad.toNat (ae.mk 1 (nth av ad).af (nth av ad).ac (nth av ad).ao (nth av ad).ap)) ad).ac (nth (av.set ad.toNat (ae.mk 1 (nth av ad).af (nth av ad).ac (nth av ad).ao (nth av ad).ap)) ad).ao (nth (av.set ad.toNat (ae.mk 1 (nth av ad).af (nth av ad).ac (nth av ad).ao (nth av ad).ap)) ad).ap)) ad).ap)) else(av.set ad.toNat (ae.mk 1 (nth av ad).af (nth av ad).ac (nth av ad).ao (nth av ad).ap))) else av)=ir→((ir.length=b2.length∧ad.toNat<ir.length)∧(Ir ay aB J hk aC ak aY b2 ad aE ir)))
def It (ay:dG Prop) (aB:dG Nat) (J:aA) (hk:Bool) (aC:List Bool) (ak:List bc) (aY:List (List Bool)) (b2:List Nat) (ad:Int) (aE:List ae):Prop:=
  (((aE.length=b2.length∧ad.toNat<aE.length)∧(((nth aE ad).ar !=4)=true→((0:Int)≤0∧(0:Int).toNat<(nth J.O ad).ah.length)∧(0≤(nth (nth J.O ad).ah 0)∧(nth (nth J.O ad).ah 0).toNat<aC.length)))∧(Im J aC b2 ad aE))∧(∀av:List ae,(bif (((nth aE ad).ar !=4)&&(nth aC (nth (nth J.O ad).ah 0))) then((aE.set ad.toNat (ae.mk 4 (nth aE ad).af (nth aE ad).ac (nth aE ad).ao (nth aE ad).ap)).set ad.toNat (ae.mk (nth (aE.set ad.toNat (ae.mk 4 (nth aE ad).af (nth aE ad).ac (nth aE ad).ao (nth aE ad).ap)) ad).ar (nth (aE.set ad.toNat (ae.mk 4 (nth aE ad).af (nth aE ad).ac (nth aE ad).ao (nth aE ad).ap)) ad).af (nth (aE.set ad.toNat (ae.mk 4 (nth aE ad).af (nth aE ad).ac (nth aE ad).ao (nth aE ad).ap)) ad).ac (nth (aE.set ad.toNat (ae.mk 4 (nth aE ad).af (nth aE ad).ac (nth aE ad).ao (nth aE ad).ap)) ad).ao 0)) else aE)=av→(Is ay aB J hk aC ak aY b2 ad aE av))
def Iu (ay:dG Prop) (aB:dG Nat) (J:aA) (hk:Bool) (aC:List Bool) (ak:List bc) (hw:List ae) (hi:List Nat) (hb aY:List (List Bool)) (b2:List Nat) (ad:Int) (aE:List ae):Prop:=
  ((decide (ad<(hw.length:Int)))=false→zr J hk aC ak hw hi hb aC ak aE b2 aY)∧((decide (ad<(hw.length:Int)))=true→(0≤ad∧ad.toNat<aE.length)∧((0≤ad∧ad.toNat<J.O.length)∧(((aE.length=b2.length∧ad.toNat<aE.length)∧(((nth aE ad).ar==0)=true→ay aY b2 (IntKind.i64.wrap (ad+1)) aE∧aB aY b2 (IntKind.i64.wrap (ad+1)) aE<aB aY b2 ad aE))∧((!((nth aE ad).ar==0))=true→It ay aB J hk aC ak aY b2 ad aE))))
def Il (J:aA) (hg:Nat) (hk:Bool) (aC:List Bool) (ak:List bc) (hw:List ae) (hi:List Nat) (hb:List (List Bool)) (ay:dG Prop) (aB:dG Nat):Prop:=
 ay hb hi 0 hw∧ ∀(aY:List (List Bool)) (b2:List Nat) (ad:Int) (aE:List ae),ay aY b2 ad aE→(Iu ay aB J hk aC ak hw hi hb aY b2 ad aE)
theorem ade (J:aA) (hg:Nat) (hk:Bool) (aC:List Bool) (ak:List bc) (hw:List ae) (hi:List Nat) (hb:List (List Bool)) (ay:dG Prop) (aB:dG Nat) (h:Il J hg hk aC ak hw hi hb ay aB):dz Try.prog 98 [.agg (bg false J),.ptr 0 hg 0 0] (⟨hg,4,[[al hk,aj 1 0 aC.length,aj 2 0 ak.length,aj 3 0 hw.length]]⟩::⟨0,1,List.map aX aC⟩::⟨0,2,List.map a5 ak⟩::⟨0,5,a0 4 hw hi⟩::List.map bk hb) (fun r H'=> ∃(eN:List ae) (fU:List Nat) (dZ:List (List Bool)),r= .tup []∧H'=(⟨hg,4,[[al hk,aj 1 0 aC.length,aj 2 0 ak.length,aj 3 0 eN.length]]⟩::⟨0,1,List.map aX aC⟩::⟨0,2,List.map a5 ak⟩::⟨0,5,a0 4 eN fU⟩::List.map bk dZ)∧zr J hk aC ak hw hi hb aC ak eN fU dZ):=by
 unfold Il at h
 refine dz.go (fn:=Try.f98) [(0,.agg (bg false J)),(1,.ptr 0 hg 0 0)] Try.func98 (fun _ _=> ?_)
 show WpS _ (bT ac8 1) _ ⟨bh 91 [(0,.agg (bg false J)),(1,.ptr 0 hg 0 0)],[],(⟨hg,4,[[al hk,aj 1 0 aC.length,aj 2 0 ak.length,aj 3 0 hw.length]]⟩::⟨0,1,List.map aX aC⟩::⟨0,2,List.map a5 ak⟩::⟨0,5,a0 4 hw hi⟩::List.map bk hb)⟩
 refine sh [] 0 [(2,az 2 0)] [1] [0,1,1] (fun L=>(2,(bg false J))::L) id ?_
 refine cu [(11,ag (hw.length:Int)),(12,ag 0)] [2] (True) ?_ (fun q2=> ?_)
 ·
  refine bL [] 1 ?_
  refine nw 4 (some 10) (aj 3 0 hw.length) [(9,.ptr 0 hg 0 3),(8,.ptr 0 hg 0 0),(7,.ptr 0 hg 0 0)] (φ:=hg=hg) rfl ?_
  exact b1 [(12,ag 0),(11,ag (hw.length:Int))] trivial
 refine fc 0 ?_
 obtain⟨kL,h⟩:=h
 refine j8 (fun(v:List (List Bool)×List Nat×Int×List ae)=>(⟨(bh 91 [(1,.ptr 0 hg 0 0),(2,az 2 0),(11,ag (hw.length:Int)),(12,ag (v.2.2.1))]),[(2,(bg false J))],(⟨hg,4,[[al hk,aj 1 0 aC.length,aj 2 0 ak.length,aj 3 0 (v.2.2.2).length]]⟩::⟨0,1,List.map aX aC⟩::⟨0,2,List.map a5 ak⟩::⟨0,5,a0 4 (v.2.2.2) (v.2.1)⟩::List.map bk (v.1))⟩:St)) (fun(v:List (List Bool)×List Nat×Int×List ae)=>ay (v.1) (v.2.1) (v.2.2.1) (v.2.2.2)) (fun(v:List (List Bool)×List Nat×Int×List ae)=>aB (v.1) (v.2.1) (v.2.2.1) (v.2.2.2)) (hb,hi,0,hw) (dt []) kL (fun v aZ=> ?_)
 obtain⟨aY,b2,ad,aE⟩:=v
 replace h:=h aY b2 ad aE aZ
 dsimp only
 refine dX [] 2 [(13,al (decide (ad<(hw.length:Int))))] [1] [4] ?_
 unfold Iu at h
 obtain⟨mX,h⟩:=h
 refine cu [] [0,1,4] ((decide (ad<(hw.length:Int)))=true) ?_ (fun q4=> ?_)
 ·
  replace h:=mX
  refine dA (fun cH=> ?_) (fun cH=> ?_)
  ·
   refine eb ?_
   exact b_.normal (by simp only[cH]<;>rfl) dT
  ·
   replace h:=h cH
   refine iL 0 ?_
   refine b_.exit ?_
   refine dO.exit ?_
   refine ch.here ?_
   refine At (t0) [] ?_
   exact⟨aE,b2,aY,rfl,rfl,h⟩
 replace h:=h q4
 refine hB ?_
 refine fc 1 ?_
 refine dX [] 3 [(4,ag ad),(14,ag ad)] [1] [4] ?_
 obtain⟨nv,h⟩:=h
 refine cu [(5,.ptr 3 0 (0+ad.toNat) 0)] [5] (True) ?_ (fun fE=> ?_)
 ·
  replace h:=nv
  refine bL [] 4 ?_
  refine nw 4 (some 18) (aj 3 0 aE.length) [(17,.ptr 0 hg 0 3),(16,.ptr 0 hg 0 0),(15,.ptr 0 hg 0 0)] (φ:=hg=hg) rfl ?_
  have aeV:=h
  refine lx 2 (some 20) [(19,ag ad)] 3 0 5 aeV ?_
  exact b1 [(5,.ptr 3 0 (0+ad.toNat) 0)] trivial
 obtain⟨oe,h⟩:=h
 refine eX [(6,az 6 0)] [6] (fun L=>(6,(dk false (nth J.O ad)))::L) id (True) ?_ (fun ft=> ?_)
 ·
  replace h:=oe
  refine bL [] 5 ?_
  have iA:=h
  refine k5 4 (some 24) [(23,ag ad),(22,bK (dk false) J.O),(21,az 2 2)] (dk false) J.O 5 iA ?_
  exact b1 [(6,az 6 0),(25,.agg (dk false (nth J.O ad)))] trivial
 obtain⟨od,h⟩:=h
 refine cu [] [7] ((!((nth aE ad).ar==0))=true) ?_ (fun gP=> ?_)
 ·
  replace h:=od
  obtain⟨qG,h⟩:=h
  refine cu [(30,al ((nth aE ad).ar==0))] [7] (True) ?_ (fun ik=> ?_)
  ·
   replace h:=qG
   refine bL [] 6 ?_
   have hX:=h
   refine iC 4 (some 29) [(28,.ptr 3 0 (0+ad.toNat) 0),(27,.ptr 3 0 (0+ad.toNat) 0),(26,.ptr 3 0 (0+ad.toNat) 0)] (a0 4 aE b2) ad 3 0 0 (ag (nth aE ad).ar) (dF hX.1 hX.2) ?_
   exact b1 [(30,al ((nth aE ad).ar==0))] trivial
  refine dA (fun fy=> ?_) (fun fy=> ?_)
  ·
   replace h:=h fy
   refine iL 1 ?_
   refine b_.exit ?_
   refine ch.here ?_
   refine dR.normal ?_
   refine bL [] 17 ?_
   refine dM [(12,ag (IntKind.i64.wrap (ad+1))),(90,ag (IntKind.i64.wrap (ad+1)))] ?_
   exact dO.again (aY,b2,(IntKind.i64.wrap (ad+1)),aE) h (dt [6])
  ·
   refine eb ?_
   exact b_.normal (by simp only[q4,fy]<;>rfl) dT
 replace h:=h gP
 unfold It at h
 obtain⟨oc,h⟩:=h
 obtain⟨av,hH⟩: ∃w:List ae,(bif (((nth aE ad).ar !=4)&&(nth aC (nth (nth J.O ad).ah 0))) then((aE.set ad.toNat (ae.mk 4 (nth aE ad).af (nth aE ad).ac (nth aE ad).ao (nth aE ad).ap)).set ad.toNat (ae.mk (nth (aE.set ad.toNat (ae.mk 4 (nth aE ad).af (nth aE ad).ac (nth aE ad).ao (nth aE ad).ap)) ad).ar (nth (aE.set ad.toNat (ae.mk 4 (nth aE ad).af (nth aE ad).ac (nth aE ad).ao (nth aE ad).ap)) ad).af (nth (aE.set ad.toNat (ae.mk 4 (nth aE ad).af (nth aE ad).ac (nth aE ad).ao (nth aE ad).ap)) ad).ac (nth (aE.set ad.toNat (ae.mk 4 (nth aE ad).af (nth aE ad).ac (nth aE ad).ao (nth aE ad).ap)) ad).ao 0)) else aE)=w:=⟨_,rfl⟩
 refine eX [] [7] id (fun H=>ea 3 ⟨0,5,a0 4 av b2⟩ H) (True) ?_ (fun iV=> ?_)
 ·
  replace h:=oc
  obtain⟨kn,h⟩:=h
  refine cu [(47,al (((nth aE ad).ar !=4)&&(nth aC (nth (nth J.O ad).ah 0))))] [7] (True) ?_ (fun lY=> ?_)
  ·
   replace h:=kn
   refine m0 [] 7 ada adb [] ?_
   obtain⟨km,h⟩:=h
   refine nz 4 (some 34) [(33,.ptr 3 0 (0+ad.toNat) 0),(32,.ptr 3 0 (0+ad.toNat) 0),(31,.ptr 3 0 (0+ad.toNat) 0)] (a0 4 aE b2) ad 3 0 0 (ag (nth aE ad).ar) (dF km.1 km.2) ?_
   refine pN 2 36 ((nth aE ad).ar !=4) [(35,al ((nth aE ad).ar !=4))] (fun hp=> ?_) (fun hp=> ?_)
   ·
    replace h:=h hp
    refine Cx 4 (some 40) (aj 1 0 aC.length) [(39,.ptr 0 hg 0 1),(38,.ptr 0 hg 0 0),(37,.ptr 0 hg 0 0)] (φ:=hg=hg) rfl ?_
    obtain⟨il,h⟩:=h
    refine r4 3 (some 43) [(42,bK c0 (nth J.O ad).ah),(41,az 6 0)] c0 (nth J.O ad).ah 1 il ?_
    have Sk:=h
    refine u4 2 (some 45) [(44,ag (nth (nth J.O ad).ah 0))] 1 0 1 Sk ?_
    refine xq 1 (some 46) [] aX aC (nth (nth J.O ad).ah 0) 4 0 0 (al (nth aC (nth (nth J.O ad).ah 0))) (by simpa using Sk.2) ?_
    exact kM [(47,al (nth aC (nth (nth J.O ad).ah 0)))] trivial (by simp only[q4,gP,hp]<;>kernel_rfl)
   ·
    exact kM ([(47,al false)]++gh [46,45,44,43,42,41,40,39,38,37]) trivial (by simp only[q4,gP,hp]<;>kernel_rfl)
  unfold Im at h
  refine dA (fun jE=> ?_) (fun jE=> ?_)
  ·
   replace h:=h jE
   obtain⟨h7,h⟩:=h
   refine eX [] [0,1,7] id (fun H=>ea 3 ⟨0,5,a0 4 (aE.set ad.toNat (ae.mk 4 (nth aE ad).af (nth aE ad).ac (nth aE ad).ao (nth aE ad).ap)) b2⟩ H) (True) ?_ (fun h6=> ?_)
   ·
    replace h:=h7
    refine bL [] 8 ?_
    have g4:=h
    refine j0 4 none [(50,.ptr 3 0 (0+ad.toNat) 0),(49,.ptr 3 0 (0+ad.toNat) 0),(48,.ptr 3 0 (0+ad.toNat) 0)] (a0 4 aE b2) ad 0 1 0 [ag 4] 3 (a0 4 (aE.set ad.toNat (ae.mk 4 (nth aE ad).af (nth aE ad).ac (nth aE ad).ao (nth aE ad).ap)) b2) (dF g4.1 g4.2) (kb g4.1 g4.2) ?_
    exact b1 [] trivial
   refine bL [] 9 ?_
   have im:=h
   refine j0 4 none [(53,.ptr 3 0 (0+ad.toNat) 4),(52,.ptr 3 0 (0+ad.toNat) 0),(51,.ptr 3 0 (0+ad.toNat) 0)] (a0 4 (aE.set ad.toNat (ae.mk 4 (nth aE ad).af (nth aE ad).ac (nth aE ad).ao (nth aE ad).ap)) b2) ad 4 1 0 [ag 0] 3 (a0 4 ((aE.set ad.toNat (ae.mk 4 (nth aE ad).af (nth aE ad).ac (nth aE ad).ao (nth aE ad).ap)).set ad.toNat (ae.mk (nth (aE.set ad.toNat (ae.mk 4 (nth aE ad).af (nth aE ad).ac (nth aE ad).ao (nth aE ad).ap)) ad).ar (nth (aE.set ad.toNat (ae.mk 4 (nth aE ad).af (nth aE ad).ac (nth aE ad).ao (nth aE ad).ap)) ad).af (nth (aE.set ad.toNat (ae.mk 4 (nth aE ad).af (nth aE ad).ac (nth aE ad).ao (nth aE ad).ap)) ad).ac (nth (aE.set ad.toNat (ae.mk 4 (nth aE ad).af (nth aE ad).ac (nth aE ad).ao (nth aE ad).ap)) ad).ao 0)) b2) (dF im.1 im.2) (kb im.1 im.2) ?_
   refine dM [] ?_
   exact b_.normal trivial (by simp only[←hH,q4,gP,jE,cond_true,cond_false];exact dT)
  ·
   refine eb ?_
   exact b_.normal trivial (by simp only[←hH,q4,gP,jE,cond_true,cond_false];exact dT)
 replace h:=h av hH
 have wc:av.length=aE.length:=by rw[←hH];repeat' apply yN;all_goals simp
 unfold Is at h
 obtain⟨w4,h⟩:=h
 obtain⟨ir,mU⟩: ∃w:List ae,(bif (((nth av ad).ar==1) || ((nth av ad).ar==2)) then(bif (fi J (Frame.mk hk aC ak (view (av.set ad.toNat (ae.mk 1 (nth av ad).af (nth av ad).ac (nth av ad).ao (nth av ad).ap)) b2 aY)) ad) then(((av.set ad.toNat (ae.mk 1 (nth av ad).af (nth av ad).ac (nth av ad).ao (nth av ad).ap)).set ad.toNat (ae.mk 2 (nth (av.set ad.toNat (ae.mk 1 (nth av ad).af (nth av ad).ac (nth av ad).ao (nth av ad).ap)) ad).af (nth (av.set ad.toNat (ae.mk 1 (nth av ad).af (nth av ad).ac (nth av ad).ao (nth av ad).ap)) ad).ac (nth (av.set ad.toNat (ae.mk 1 (nth av ad).af (nth av ad).ac (nth av ad).ao (nth av ad).ap)) ad).ao (nth (av.set ad.toNat (ae.mk 1 (nth av ad).af (nth av ad).ac (nth av ad).ao (nth av ad).ap)) ad).ap)).set ad.toNat (ae.mk (nth ((av.set ad.toNat (ae.mk 1 (nth av ad).af (nth av ad).ac (nth av ad).ao (nth av ad).ap)).set ad.toNat (ae.mk 2 (nth (av.set ad.toNat (ae.mk 1 (nth av ad).af (nth av ad).ac (nth av ad).ao (nth av ad).ap)) ad).af (nth (av.set ad.toNat (ae.mk 1 (nth av ad).af (nth av ad).ac (nth av ad).ao (nth av ad).ap)) ad).ac (nth (av.set ad.toNat (ae.mk 1 (nth av ad).af (nth av ad).ac (nth av ad).ao (nth av ad).ap)) ad).ao (nth (av.set ad.toNat (ae.mk 1 (nth av ad).af (nth av ad).ac (nth av ad).ao (nth av ad).ap)) ad).ap)) ad).ar (nth ((av.set ad.toNat (ae.mk 1 (nth av ad).af (nth av ad).ac (nth av ad).ao (nth av ad).ap)).set ad.toNat (ae.mk 2 (nth (av.set ad.toNat (ae.mk 1 (nth av ad).af (nth av ad).ac (nth av ad).ao (nth av ad).ap)) ad).af (nth (av.set ad.toNat (ae.mk 1 (nth av ad).af (nth av ad).ac (nth av ad).ao (nth av ad).ap)) ad).ac (nth (av.set ad.toNat (ae.mk 1 (nth av ad).af (nth av ad).ac (nth av ad).ao (nth av ad).ap)) ad).ao (nth (av.set ad.toNat (ae.mk 1 (nth av ad).af (nth av ad).ac (nth av ad).ao (nth av ad).ap)) ad).ap)) ad).af (nth ((av.set ad.toNat (ae.mk 1 (nth av ad).af (nth av ad).ac (nth av ad).ao (nth av ad).ap)).set ad.toNat (ae.mk 2 (nth (av.set ad.toNat (ae.mk 1 (nth av ad).af (nth av ad).ac (nth av ad).ao (nth av ad).ap)) ad).af (nth (av.set ad.toNat (ae.mk 1 (nth av ad).af (nth av ad).ac (nth av ad).ao (nth av ad).ap)) ad).ac (nth (av.set ad.toNat (ae.mk 1 (nth av ad).af (nth av ad).ac (nth av ad).ao (nth av ad).ap)) ad).ao (nth (av.set ad.toNat (ae.mk 1 (nth av ad).af (nth av ad).ac (nth av ad).ao (nth av ad).ap)) ad).ap)) ad).ac true (nth ((av.set ad.toNat (ae.mk 1 (nth av ad).af (nth av ad).ac (nth av ad).ao (nth av ad).ap)).set ad.toNat (ae.mk 2 (nth (av.set ad.toNat (ae.mk 1 (nth av ad).af (nth av ad).ac (nth av ad).ao (nth av ad).ap)) ad).af (nth (av.set ad.toNat (ae.mk 1 (nth av ad).af (nth av ad).ac (nth av ad).ao (nth av ad).ap)) ad).ac (nth (av.set ad.toNat (ae.mk 1 (nth av ad).af (nth av ad).ac (nth av ad).ao (nth av ad).ap)) ad).ao (nth (av.set ad.toNat (ae.mk 1 (nth av ad).af (nth av ad).ac (nth av ad).ao (nth av ad).ap)) ad).ap)) ad).ap)) else(av.set ad.toNat (ae.mk 1 (nth av ad).af (nth av ad).ac (nth av ad).ao (nth av ad).ap))) else av)=w:=⟨_,rfl⟩
 refine eX [] [2,1,4] id (fun H=>ea 3 ⟨0,5,a0 4 ir b2⟩ H) (True) ?_ (fun mi=> ?_)
 ·
  replace h:=w4
  obtain⟨jp,h⟩:=h
  refine cu [(65,al (((nth av ad).ar==1) || ((nth av ad).ar==2)))] [7] (True) ?_ (fun jm=> ?_)
  ·
   replace h:=jp
   refine bL [] 10 ?_
   obtain⟨k2,h⟩:=h
   refine iC 4 (some 57) [(56,.ptr 3 0 (0+ad.toNat) 0),(55,.ptr 3 0 (0+ad.toNat) 0),(54,.ptr 3 0 (0+ad.toNat) 0)] (a0 4 av b2) ad 3 0 0 (ag (nth av ad).ar) (dF k2.1 k2.2) ?_
   refine nx 2 59 ((nth av ad).ar==1) [(58,al ((nth av ad).ar==1))] (fun k1=> ?_) (fun k1=> ?_)
   ·
    exact b1 ([(65,al true)]++gh [64,63,62,61,60]) trivial (by simp only[q4,gP,k1]<;>kernel_rfl)
   ·
    replace h:=h k1
    have jn:=h
    refine iC 4 (some 63) [(62,.ptr 3 0 (0+ad.toNat) 0),(61,.ptr 3 0 (0+ad.toNat) 0),(60,.ptr 3 0 (0+ad.toNat) 0)] (a0 4 av b2) ad 3 0 0 (ag (nth av ad).ar) (dF jn.1 jn.2) ?_
    exact b1 [(65,al ((nth av ad).ar==2)),(64,al ((nth av ad).ar==2))] trivial (by simp only[q4,gP,k1]<;>kernel_rfl)
  refine dA (fun k3=> ?_) (fun k3=> ?_)
  ·
   replace h:=h k3
   obtain⟨l1,h⟩:=h
   refine eX [] [0,1,7] id (fun H=>ea 3 ⟨0,5,a0 4 (av.set ad.toNat (ae.mk 1 (nth av ad).af (nth av ad).ac (nth av ad).ao (nth av ad).ap)) b2⟩ H) (True) ?_ (fun g5=> ?_)
   ·
    replace h:=l1
    refine bL [] 11 ?_
    have oP:=h
    refine j0 4 none [(68,.ptr 3 0 (0+ad.toNat) 0),(67,.ptr 3 0 (0+ad.toNat) 0),(66,.ptr 3 0 (0+ad.toNat) 0)] (a0 4 av b2) ad 0 1 0 [ag 1] 3 (a0 4 (av.set ad.toNat (ae.mk 1 (nth av ad).af (nth av ad).ac (nth av ad).ao (nth av ad).ap)) b2) (dF oP.1 oP.2) (kb oP.1 oP.2) ?_
    exact b1 [] trivial
   unfold Iq at h
   obtain⟨pI,h⟩:=h
   refine cu [(74,al (fi J (Frame.mk hk aC ak (view (av.set ad.toNat (ae.mk 1 (nth av ad).af (nth av ad).ac (nth av ad).ao (nth av ad).ap)) b2 aY)) ad))] [2,1,4] (True) ?_ (fun ls=> ?_)
   ·
    replace h:=pI
    refine m0 [] 12 ac9 ac_ [] ?_
    refine Cx 4 (some 72) (.agg [al hk,aj 1 0 aC.length,aj 2 0 ak.length,aj 3 0 aE.length]) [(71,.ptr 0 hg 0 0),(70,.ptr 0 hg 0 0),(69,.agg (bg false J))] (φ:=hg=hg) rfl ?_
    obtain⟨pH,jo,nu,lZ⟩:=h
    refine RP 2 (some 74) [(73,ag ad)] [.agg (bg false J),.agg [al hk,aj 1 0 aC.length,aj 2 0 ak.length,aj 3 0 aE.length],ag ad] (acX J (Frame.mk hk aC ak (view (av.set ad.toNat (ae.mk 1 (nth av ad).af (nth av ad).ac (nth av ad).ao (nth av ad).ap)) b2 aY)) ad lZ) (aD.cons (c3.agg (aD.cons (.int _ _) (aD.cons cz (aD.cons cz (aD.cons cz (aD.cons (.int _ _) aD.nil)))))) (aD.cons (c3.agg (aD.cons (.bool _) (aD.cons (m2 (sz:=1) (by simp[wc]) rfl (sF) pH) (aD.cons (m2 (sz:=2) (by simp[wc]) rfl (uk) jo) (aD.cons (ta (s:=4) (ws:=(av.set ad.toNat (ae.mk 1 (nth av ad).af (nth av ad).ac (nth av ad).ao (nth av ad).ap))) (ids:=b2) (bs:=aY) (by simp[wc]) rfl (fun id k h=>by simpa using h) nu.1 nu.2.1 nu.2.2) aD.nil))))) (aD.cons (c3.hT (.int _ _)) aD.nil))) ?_
    exact kM [] trivial
   unfold Ip at h
   refine dA (fun k4=> ?_) (fun k4=> ?_)
   ·
    replace h:=h k4
    obtain⟨mW,h⟩:=h
    refine eX [] [0,1,6] id (fun H=>ea 3 ⟨0,5,a0 4 ((av.set ad.toNat (ae.mk 1 (nth av ad).af (nth av ad).ac (nth av ad).ao (nth av ad).ap)).set ad.toNat (ae.mk 2 (nth (av.set ad.toNat (ae.mk 1 (nth av ad).af (nth av ad).ac (nth av ad).ao (nth av ad).ap)) ad).af (nth (av.set ad.toNat (ae.mk 1 (nth av ad).af (nth av ad).ac (nth av ad).ao (nth av ad).ap)) ad).ac (nth (av.set ad.toNat (ae.mk 1 (nth av ad).af (nth av ad).ac (nth av ad).ao (nth av ad).ap)) ad).ao (nth (av.set ad.toNat (ae.mk 1 (nth av ad).af (nth av ad).ac (nth av ad).ao (nth av ad).ap)) ad).ap)) b2⟩ H) (True) ?_ (fun l0=> ?_)
    ·
     replace h:=mW
     refine bL [] 13 ?_
     have mj:=h
     refine j0 4 none [(77,.ptr 3 0 (0+ad.toNat) 0),(76,.ptr 3 0 (0+ad.toNat) 0),(75,.ptr 3 0 (0+ad.toNat) 0)] (a0 4 (av.set ad.toNat (ae.mk 1 (nth av ad).af (nth av ad).ac (nth av ad).ao (nth av ad).ap)) b2) ad 0 1 0 [ag 2] 3 (a0 4 ((av.set ad.toNat (ae.mk 1 (nth av ad).af (nth av ad).ac (nth av ad).ao (nth av ad).ap)).set ad.toNat (ae.mk 2 (nth (av.set ad.toNat (ae.mk 1 (nth av ad).af (nth av ad).ac (nth av ad).ao (nth av ad).ap)) ad).af (nth (av.set ad.toNat (ae.mk 1 (nth av ad).af (nth av ad).ac (nth av ad).ao (nth av ad).ap)) ad).ac (nth (av.set ad.toNat (ae.mk 1 (nth av ad).af (nth av ad).ac (nth av ad).ao (nth av ad).ap)) ad).ao (nth (av.set ad.toNat (ae.mk 1 (nth av ad).af (nth av ad).ac (nth av ad).ao (nth av ad).ap)) ad).ap)) b2) (dF mj.1 mj.2) (kb mj.1 mj.2) ?_
     exact b1 [] trivial
    unfold Io at h
    refine bL [] 14 ?_
    have mV:=h
    refine j0 4 none [(80,.ptr 3 0 (0+ad.toNat) 3),(79,.ptr 3 0 (0+ad.toNat) 0),(78,.ptr 3 0 (0+ad.toNat) 0)] (a0 4 ((av.set ad.toNat (ae.mk 1 (nth av ad).af (nth av ad).ac (nth av ad).ao (nth av ad).ap)).set ad.toNat (ae.mk 2 (nth (av.set ad.toNat (ae.mk 1 (nth av ad).af (nth av ad).ac (nth av ad).ao (nth av ad).ap)) ad).af (nth (av.set ad.toNat (ae.mk 1 (nth av ad).af (nth av ad).ac (nth av ad).ao (nth av ad).ap)) ad).ac (nth (av.set ad.toNat (ae.mk 1 (nth av ad).af (nth av ad).ac (nth av ad).ao (nth av ad).ap)) ad).ao (nth (av.set ad.toNat (ae.mk 1 (nth av ad).af (nth av ad).ac (nth av ad).ao (nth av ad).ap)) ad).ap)) b2) ad 3 1 0 [al true] 3 (a0 4 (((av.set ad.toNat (ae.mk 1 (nth av ad).af (nth av ad).ac (nth av ad).ao (nth av ad).ap)).set ad.toNat (ae.mk 2 (nth (av.set ad.toNat (ae.mk 1 (nth av ad).af (nth av ad).ac (nth av ad).ao (nth av ad).ap)) ad).af (nth (av.set ad.toNat (ae.mk 1 (nth av ad).af (nth av ad).ac (nth av ad).ao (nth av ad).ap)) ad).ac (nth (av.set ad.toNat (ae.mk 1 (nth av ad).af (nth av ad).ac (nth av ad).ao (nth av ad).ap)) ad).ao (nth (av.set ad.toNat (ae.mk 1 (nth av ad).af (nth av ad).ac (nth av ad).ao (nth av ad).ap)) ad).ap)).set ad.toNat (ae.mk (nth ((av.set ad.toNat (ae.mk 1 (nth av ad).af (nth av ad).ac (nth av ad).ao (nth av ad).ap)).set ad.toNat (ae.mk 2 (nth (av.set ad.toNat (ae.mk 1 (nth av ad).af (nth av ad).ac (nth av ad).ao (nth av ad).ap)) ad).af (nth (av.set ad.toNat (ae.mk 1 (nth av ad).af (nth av ad).ac (nth av ad).ao (nth av ad).ap)) ad).ac (nth (av.set ad.toNat (ae.mk 1 (nth av ad).af (nth av ad).ac (nth av ad).ao (nth av ad).ap)) ad).ao (nth (av.set ad.toNat (ae.mk 1 (nth av ad).af (nth av ad).ac (nth av ad).ao (nth av ad).ap)) ad).ap)) ad).ar (nth ((av.set ad.toNat (ae.mk 1 (nth av ad).af (nth av ad).ac (nth av ad).ao (nth av ad).ap)).set ad.toNat (ae.mk 2 (nth (av.set ad.toNat (ae.mk 1 (nth av ad).af (nth av ad).ac (nth av ad).ao (nth av ad).ap)) ad).af (nth (av.set ad.toNat (ae.mk 1 (nth av ad).af (nth av ad).ac (nth av ad).ao (nth av ad).ap)) ad).ac (nth (av.set ad.toNat (ae.mk 1 (nth av ad).af (nth av ad).ac (nth av ad).ao (nth av ad).ap)) ad).ao (nth (av.set ad.toNat (ae.mk 1 (nth av ad).af (nth av ad).ac (nth av ad).ao (nth av ad).ap)) ad).ap)) ad).af (nth ((av.set ad.toNat (ae.mk 1 (nth av ad).af (nth av ad).ac (nth av ad).ao (nth av ad).ap)).set ad.toNat (ae.mk 2 (nth (av.set ad.toNat (ae.mk 1 (nth av ad).af (nth av ad).ac (nth av ad).ao (nth av ad).ap)) ad).af (nth (av.set ad.toNat (ae.mk 1 (nth av ad).af (nth av ad).ac (nth av ad).ao (nth av ad).ap)) ad).ac (nth (av.set ad.toNat (ae.mk 1 (nth av ad).af (nth av ad).ac (nth av ad).ao (nth av ad).ap)) ad).ao (nth (av.set ad.toNat (ae.mk 1 (nth av ad).af (nth av ad).ac (nth av ad).ao (nth av ad).ap)) ad).ap)) ad).ac true (nth ((av.set ad.toNat (ae.mk 1 (nth av ad).af (nth av ad).ac (nth av ad).ao (nth av ad).ap)).set ad.toNat (ae.mk 2 (nth (av.set ad.toNat (ae.mk 1 (nth av ad).af (nth av ad).ac (nth av ad).ao (nth av ad).ap)) ad).af (nth (av.set ad.toNat (ae.mk 1 (nth av ad).af (nth av ad).ac (nth av ad).ao (nth av ad).ap)) ad).ac (nth (av.set ad.toNat (ae.mk 1 (nth av ad).af (nth av ad).ac (nth av ad).ao (nth av ad).ap)) ad).ao (nth (av.set ad.toNat (ae.mk 1 (nth av ad).af (nth av ad).ac (nth av ad).ao (nth av ad).ap)) ad).ap)) ad).ap)) b2) (dF mV.1 mV.2) (kb mV.1 mV.2) ?_
    refine dM [] ?_
    exact b_.normal trivial (by simp only[←mU,q4,gP,k3,k4,cond_true,cond_false];exact dT)
   ·
    refine eb ?_
    exact b_.normal trivial (by simp only[←mU,q4,gP,k3,k4,cond_true,cond_false];exact dT)
  ·
   refine eb ?_
   exact b_.normal trivial (by simp only[←mU,q4,gP,k3,cond_true,cond_false];exact dT)
 replace h:=h ir mU
 have Lu:ir.length=aE.length:=by rw[←mU];repeat' apply yN;all_goals simp[wc]
 obtain⟨mn,h⟩:=h
 refine cu [(85,al ((nth ir ad).ar==4))] [6] (True) ?_ (fun rW=> ?_)
 ·
  replace h:=mn
  refine bL [] 15 ?_
  have lu:=h
  refine iC 4 (some 84) [(83,.ptr 3 0 (0+ad.toNat) 0),(82,.ptr 3 0 (0+ad.toNat) 0),(81,.ptr 3 0 (0+ad.toNat) 0)] (a0 4 ir b2) ad 3 0 0 (ag (nth ir ad).ar) (dF lu.1 lu.2) ?_
  exact b1 [(85,al ((nth ir ad).ar==4))] trivial
 unfold Ir at h
 refine dA (fun ml=> ?_) (fun ml=> ?_)
 ·
  replace h:=h.1 ml
  refine bL [] 16 ?_
  obtain⟨zc,h⟩:=h
  refine Pb (⟨hg,4,[[al hk,aj 1 0 aC.length,aj 2 0 ak.length,aj 3 0 ir.length]]⟩::⟨0,1,List.map aX aC⟩::⟨0,2,List.map a5 ak⟩::⟨0,5,a0 4 ir b2⟩::List.map bk aY) (by rw[show aE.length=ir.length by simp[wc,Lu]]<;>rfl) ?_
  refine s8 4 (some 89) [(88,.ptr 3 0 (0+ad.toNat) 0),(87,.ptr 0 hg 0 0),(86,.agg (dk false (nth J.O ad)))] [.agg (dk false (nth J.O ad)),.ptr 0 hg 0 0,.ptr 3 0 (0+ad.toNat) 0] _ (acS (nth J.O ad) ad hg hk aC ak ir b2 aY zc) (fun r H' ak=>by obtain⟨_,_,_,rfl,_⟩:=ak;rfl) ?_
  rintro r H' ⟨xv,i55,vr,rfl,rfl,qH⟩
  replace h:=h xv i55 vr qH
  refine dM [] ?_
  refine ch.normal ?_
  refine dR.normal ?_
  refine bL [] 17 ?_
  refine dM [(12,ag (IntKind.i64.wrap (ad+1))),(90,ag (IntKind.i64.wrap (ad+1)))] ?_
  exact dO.again (vr,i55,(IntKind.i64.wrap (ad+1)),xv) h (dt [6])
 ·
  replace h:=h.2 ml
  refine eb ?_
  refine ch.normal ?_
  refine dR.normal ?_
  refine bL [] 17 ?_
  refine dM [(12,ag (IntKind.i64.wrap (ad+1))),(90,ag (IntKind.i64.wrap (ad+1)))] ?_
  exact dO.again (aY,b2,(IntKind.i64.wrap (ad+1)),ir) h (hd (s':=⟨(bh 91 [(1,.ptr 0 hg 0 0),(2,az 2 0),(11,ag (hw.length:Int)),(12,ag (IntKind.i64.wrap (ad+1)))]),[(2,(bg false J))],(⟨hg,4,[[al hk,aj 1 0 aC.length,aj 2 0 ak.length,aj 3 0 aE.length]]⟩::⟨0,1,List.map aX aC⟩::⟨0,2,List.map a5 ak⟩::⟨0,5,a0 4 ir b2⟩::List.map bk aY)⟩) (dt (n:=91) (A':=[(1,.ptr 0 hg 0 0),(2,az 2 0),(11,ag (hw.length:Int)),(12,ag (IntKind.i64.wrap (ad+1)))]) (L':=[(2,(bg false J))]) [6]) (congrArg (fun z=>(⟨(bh 91 [(1,.ptr 0 hg 0 0),(2,az 2 0),(11,ag (hw.length:Int)),(12,ag (IntKind.i64.wrap (ad+1)))]),[(2,(bg false J))],(⟨hg,4,[[al hk,aj 1 0 aC.length,aj 2 0 ak.length,aj 3 0 z]]⟩::⟨0,1,List.map aX aC⟩::⟨0,2,List.map a5 ak⟩::⟨0,5,a0 4 ir b2⟩::List.map bk aY)⟩:St)) (show aE.length=ir.length by simp[wc,Lu])))
theorem Qv (J:aA) (hg:Nat) (hk:Bool) (aC:List Bool) (ak:List bc) (hw:List ae) (hi:List Nat) (hb:List (List Bool)) (aI:Hq J hk aC ak hw hi hb):dz Try.prog 98 [.agg (bg false J),.ptr 0 hg 0 0] (⟨hg,4,[[al hk,aj 1 0 aC.length,aj 2 0 ak.length,aj 3 0 hw.length]]⟩::⟨0,1,List.map aX aC⟩::⟨0,2,List.map a5 ak⟩::⟨0,5,a0 4 hw hi⟩::List.map bk hb) (fun r H'=> ∃(eN:List ae) (fU:List Nat) (dZ:List (List Bool)),r= .tup []∧H'=(⟨hg,4,[[al hk,aj 1 0 aC.length,aj 2 0 ak.length,aj 3 0 eN.length]]⟩::⟨0,1,List.map aX aC⟩::⟨0,2,List.map a5 ak⟩::⟨0,5,a0 4 eN fU⟩::List.map bk dZ)∧zr J hk aC ak hw hi hb aC ak eN fU dZ):=ade J hg hk aC ak hw hi hb (Hp J (cW hk aC ak hw hi hb)) (fun _ _ v _=>cA hw.length v) (by
 unfold Il
 obtain⟨G,cx,c5⟩:=aI
 have yg:(cW hk aC ak hw hi hb).O.length=hw.length:=i_ G.ok
 have Xe:=c5.O
 have wk:=cx.O
 have Lc:=c5.aw
 have Ld:=c5.au
 have WY:=cx.cR
 have wo:=cx.sw
 refine⟨⟨?_,G.ok,G.kI,rfl,G.len⟩,fun bs is v ws aZ=> ?_⟩
 ·rw[yg];exact c7 (dh _)
 have yc:=aZ
 obtain⟨ga,fg,mO,jU,hlen⟩:=yc
 have aH:((cW hk aC ak hw hi hb).O.length:Int)≤4611686018427387904:=by omega
 obtain⟨s1,s2,l2⟩:=qQ J (cW hk aC ak hw hi hb) v.toNat
 have Bj:ws.length=hw.length:=by rw[←i_ fg,jU,oT,yg]
 unfold Iu
 have hm: ∀x:Int,cA hw.length x=cA (cW hk aC ak hw hi hb).O.length x:=fun x=>by rw[yg]
 simp only[hm]
 rw[←yg]
 refine⟨fun hv=> ?_,fun hv=> ?_⟩
 ·have ki: ¬v<((cW hk aC ak hw hi hb).O.length:Int):=by simpa using hv
  have h1:=ga.2.1
  have aT:=ga.1
  have:v.toNat=(cW hk aC ak hw hi hb).O.length:=by omega
  rw[this] at jU
  exact⟨⟨fg,mO,hlen⟩,jU⟩
 have b9:=ca ga hv
 have aT:=b9.1
 have bf:v.toNat<ws.length:=by omega
 have jh:v.toNat<J.O.length:=by omega
 have rv:=zt c5 v.toNat
 have mb:(dH J (cW hk aC ak hw hi hb) v).O.length=hw.length:=(oT _ _ _).trans yg
 have hs:(cR J v)≠[]∧(cR J v).length≤30∧ ∀x∈cR J v,0≤x∧x<J.ah:=cx.ah _ (du jh)
 have lT:(dH J (cW hk aC ak hw hi hb) v).O[v.toNat]?=some (nth (dH J (cW hk aC ak hw hi hb) v).O v):=gO (by omega)
 have tO:(nth (dH J (cW hk aC ak hw hi hb) v).O v).ac.length=(cR J v).length:=rv.ac _ _ _ lT (gO jh)
 have sy:=rv.af _ (List.mem_of_getElem? lT)
 have sE:0<(cR J v).length:=List.length_pos_iff.2 hs.1
 have wi:(aC.length:Int)=J.ah:=Lc
 have W2:ak.length=J.bd.length:=Ld
 have rI: ∀k:Int,0≤k→k.toNat<(cR J v).length→0≤nth (cR J v) k∧(nth (cR J v) k).toNat<aC.length:=fun k ba ei=>by
  have:=hs.2.2 _ (du ei);omega
 have dn:dg (dH J (cW hk aC ak hw hi hb) v).O is v (nth (dH J (cW hk aC ak hw hi hb) v).O v) ws bs:=dg.start fg mO bf jU hlen
 have g1:=RH (p:=J) (f:=cW hk aC ak hw hi hb) aT
 refine⟨⟨aT,bf⟩,⟨aT,jh⟩,⟨dn.fp,fun aP=> ?_⟩,fun aP=> ?_⟩
 ·rw[dn.ar] at aP
  exact uV aH ga hv dn (by rw[g1,if_pos (by simpa using aP)])
 have aP: ¬(nth (dH J (cW hk aC ak hw hi hb) v).O v).ar=0:=by rw[dn.ar] at aP;simpa using aP
 rw[if_neg aP] at g1
 unfold It Im
 refine⟨⟨⟨dn.fp,fun _=>⟨⟨Int.le_refl _,sE⟩,rI 0 (Int.le_refl _) sE⟩⟩,fun _=>⟨dn.fp,(dn.setState 4).fp⟩⟩,fun e_ E2=> ?_⟩
 have ek:dg (dH J (cW hk aC ak hw hi hb) v).O is v (hW J (cW hk aC ak hw hi hb) v) e_ bs:=by
  rw[←E2,dn.ar]
  unfold hW
  simp only
  have hc:((nth (dH J (cW hk aC ak hw hi hb) v).O v).ar≠4∧dW (dH J (cW hk aC ak hw hi hb) v) (nth (cR J v) 0)=true)↔((((nth (dH J (cW hk aC ak hw hi hb) v).O v).ar !=4)&&(nth aC (nth (nth J.O v).ah 0)))=true):=by
   rw[Bool.and_eq_true,bne_iff_ne]
   unfold dW
   rw[show(dH J (cW hk aC ak hw hi hb) v).aw=aC from s2];rfl
  by_cases hb:((nth (dH J (cW hk aC ak hw hi hb) v).O v).ar≠4∧dW (dH J (cW hk aC ak hw hi hb) v) (nth (cR J v) 0)=true)
  ·rw[if_pos hb,hc.1 hb]
   exact(dn.setState 4).xg 0
  ·rw[if_neg hb,Bool.eq_false_iff.2 (fun h=>hb (hc.2 h))]
   exact dn
 have ua:sV J (Frame.mk hk aC ak (view (e_.set v.toNat (ae.mk 1 (nth e_ v).af (nth e_ v).ac (nth e_ v).ao (nth e_ v).ap)) is bs)) v:=by
  have mE:=ek.setState 1
  refine⟨cx,⟨c5.aw,c5.au,?_,fun i h w bB e2=> ?_,fun h bX=> ?_⟩,aT,by omega⟩
  ·show(view _ is bs).length=_
   rw[i_ mE.ok,List.length_set];have:=ek.ti;omega
  ·replace bB:(view _ is bs)[i]?=some h:=bB
   rw[mE.gS,List.getElem?_set] at bB
   split at bB
   ·rename_i hi;subst hi
    split at bB
    ·cases bB
     have:=gO jh
     rw[e2] at this
     cases this
     show(hW J (cW hk aC ak hw _ hb) v).ac.length=_
     rw[sU.1];exact tO
    ·cases bB
   ·exact rv.ac i h w bB e2
  ·replace bX:h∈view _ is bs:=bX
   rw[mE.gS] at bX
   rcases List.mem_or_eq_of_mem_set bX with bX | rfl
   ·exact rv.af h bX
   ·show 0≤(hW J (cW hk aC ak hw hi hb) v).af∧(hW J (cW hk aC ak hw hi hb) v).af≤(hW J (cW hk aC ak hw hi hb) v).ac.length
    rw[sU.1,sU.2];exact sy
 have ER:fi J (Frame.mk hk aC ak (view (e_.set v.toNat (ae.mk 1 (nth e_ v).af (nth e_ v).ac (nth e_ v).ao (nth e_ v).ap)) is bs)) v=fi J (dH J (cW hk aC ak hw hi hb) v) v:=GR s2.symm l2.symm
 unfold Is
 refine⟨⟨⟨ek.fp,fun _=>ek.fp⟩,fun _=>⟨ek.fp,?_⟩⟩,fun va E3=> ?_⟩
 ·unfold Iq Ip Io
  have mE:=ek.setState 1
  refine⟨⟨by omega,by omega,⟨mE.ok,?_,fun b hb=>by have:=hlen b hb;omega⟩,ua⟩,fun _=>⟨mE.fp,(mE.setState 2).fp⟩⟩
  rw[List.length_set];have:=ek.ti;omega
 have fZ:dg (dH J (cW hk aC ak hw hi hb) v).O is v (gu J (cW hk aC ak hw hi hb) v) va bs:=by
  rw[←E3,ER,ek.ar]
  unfold gu
  simp only
  by_cases hb:(hW J (cW hk aC ak hw hi hb) v).ar=1∨(hW J (cW hk aC ak hw hi hb) v).ar=2
  ·rw[if_pos hb,show(((hW J (cW hk aC ak hw hi _) v).ar==1) || ((hW J (cW hk aC ak hw hi _) v).ar==2))=true by simpa using hb]
   cases ak:fi J (dH J (cW hk aC _ hw hi _) v) v with
   | true=>exact((ek.setState 1).setState 2).Pl true
   | false=>exact ek.setState 1
  ·rw[if_neg hb,show(((hW J (cW hk aC ak hw hi _) v).ar==1) || ((hW J (cW hk aC ak hw hi _) v).ar==2))=false by simpa using hb]
   exact ek
 have t_:(gu J (cW hk aC ak hw hi hb) v).ac.length=(cR J v).length:=by rw[BY.1];exact tO
 have yA:0≤(gu J (cW hk aC ak hw hi hb) v).af∧(gu J (cW hk aC ak hw hi hb) v).af≤(cR J v).length:=by rw[BY.2,←tO];exact sy
 refine⟨fZ.fp,?_⟩
 unfold Ir
 refine⟨fun be=>⟨⟨fZ.G,aT,by have:=fZ.lt;omega,?_,?_,?_,?_,?_⟩,fun w i b kg=> ?_⟩,fun be=> ?_⟩
 ·show(cR J v).length≤_;omega
 ·intro x hx
  have:=hs.2.2 x hx;omega
 ·rw[fZ.wR];exact t_
 ·rw[fZ.wR];exact yA.1
 ·rw[fZ.wR];exact yA.2
 ·obtain⟨nG,ki⟩:=kg
  have m7:=fZ.again nG ki
  have be:(gu J (cW hk aC ak hw hi hb) v).ar=4:=by rw[fZ.ar] at be;simpa using be
  rw[if_pos be] at g1
  refine uV aH ga hv m7 ?_
  rw[fZ.wR,g1]
  exact Oa s2.symm
 ·rw[fZ.ar] at be
  exact uV aH ga hv fZ (by rw[g1,if_neg (by simpa using be)]))
noncomputable def acp:Code:=iw Try.f41
def PQ (J:aA) (M:Frame) (an:Bool):Prop:=
  (Hq J (aa M).ok (aa M).aw (aa M).au (aa M).O (List.range (aa M).O.length) (List.map ae.ac (aa M).O))∧(∀(e_:List ae) (i28:List Nat) (kQ:List (List Bool)),zr J (aa M).ok (aa M).aw (aa M).au (aa M).O (List.range (aa M).O.length) (List.map ae.ac (aa M).O) (aa M).aw (aa M).au e_ i28 kQ→(((aa M).aw.length≤4611686018427387904∧(aa M).au.length≤4611686018427387904∧(j7 e_ i28 kQ∧e_.length≤4611686018427387904∧(∀x∈kQ,List.length x≤4611686018427387904))∧Pe M (Frame.mk (aa M).ok (aa M).aw (aa M).au (view e_ i28 kQ)))∧((og M (Frame.mk (aa M).ok (aa M).aw (aa M).au (view e_ i28 kQ)))=an)))
def HT (J:aA) (M:Frame) (an:Bool) (b4 ds:Int):Prop:=
  ((ds !=b4)=true→(0≤ds∧ds.toNat<J.bU.length)∧((0≤b4∧b4.toNat<(nth J.bU ds).length)∧((nth (nth J.bU ds) b4)=true→(0≤ds∧ds.toNat<M.O.length)∧(((nth M.O ds).ar !=0)=true→0≤b4∧b4.toNat<M.O.length))))∧(((ds !=b4)&&((nth (nth J.bU ds) b4)&&(((nth M.O ds).ar !=0)&&((nth M.O b4).ar !=0))))=true→false=an)
def HU (aS:Int→Int→Prop) (aU:Int→Int→Nat) (bw:c2 Prop) (bu:c2 Nat) (J:aA) (M:Frame) (an:Bool) (eE b4 ds:Int):Prop:=
  ((decide (b4<(M.O.length:Int)))=false→aS eE (IntKind.i64.wrap (ds+1))∧aU eE (IntKind.i64.wrap (ds+1))<aU eE ds)∧((decide (b4<(M.O.length:Int)))=true→(HT J M an b4 ds)∧((!((ds !=b4)&&((nth (nth J.bU ds) b4)&&(((nth M.O ds).ar !=0)&&((nth M.O b4).ar !=0)))))=true→bw eE ds (IntKind.i64.wrap (b4+1))∧bu eE ds (IntKind.i64.wrap (b4+1))<bu eE ds b4))
def HV (ay:Int→Prop) (aB:Int→Nat) (aS:Int→Int→Prop) (aU:Int→Int→Nat) (bw:c2 Prop) (bu:c2 Nat) (J:aA) (M:Frame) (an:Bool) (eE:Int):Prop:=
  ((decide (eE<(M.au.length:Int)))=false→M.O.length≤4611686018427387904→aS eE 0∧ ∀(ds:Int),aS eE ds→(((decide (ds<(M.O.length:Int)))=false→(jr M)∧(PQ J M an))∧((decide (ds<(M.O.length:Int)))=true→((Lb J M ds)∧((!(g9 J M ds))=true→false=an))∧((!(!(g9 J M ds)))=true→bw eE ds 0∧ ∀(b4:Int),bw eE ds b4→(HU aS aU bw bu J M an eE b4 ds)))))∧((decide (eE<(M.au.length:Int)))=true→((0≤eE∧eE.toNat<M.au.length)∧(((!(b0 (nth M.au eE).cy 1 2)) || (!(b0 (nth M.au eE).a2 0 2)))=true→false=an))∧((!((!(b0 (nth M.au eE).cy 1 2)) || (!(b0 (nth M.au eE).a2 0 2))))=true→ay (IntKind.i64.wrap (eE+1))∧aB (IntKind.i64.wrap (eE+1))<aB eE))
def HW (ay:Int→Prop) (aB:Int→Nat) (aS:Int→Int→Prop) (aU:Int→Int→Nat) (bw:c2 Prop) (bu:c2 Nat) (J:aA) (M:Frame) (an:Bool):Prop:=
  (((!(dQ J)) || ((!M.ok) || (((M.aw.length:Int) !=J.ah) || (((M.au.length:Int) !=(J.bd.length:Int)) || ((M.O.length:Int) !=(J.O.length:Int))))))=true→false=an)∧((!((!(dQ J)) || ((!M.ok) || (((M.aw.length:Int) !=J.ah) || (((M.au.length:Int) !=(J.bd.length:Int)) || ((M.O.length:Int) !=(J.O.length:Int)))))))=true→M.au.length≤4611686018427387904→ay 0∧ ∀(eE:Int),ay eE→(HV ay aB aS aU bw bu J M an eE))
def HS (J:aA) (M:Frame) (an:Bool) (ay:Int→Prop) (aB:Int→Nat) (aS:Int→Int→Prop) (aU:Int→Int→Nat) (bw:c2 Prop) (bu:c2 Nat):Prop:=
 HW ay aB aS aU bw bu J M an
theorem acq (J:aA) (M:Frame) (an:Bool) (ay:Int→Prop) (aB:Int→Nat) (aS:Int→Int→Prop) (aU:Int→Int→Nat) (bw:c2 Prop) (bu:c2 Nat) (h:HS J M an ay aB aS aU bw bu):bZ Try.prog 41 [.agg (bg false J),.agg (bW false M)] (al an):=by
 unfold HS at h
 refine dz.go (fn:=Try.f41) [(0,.agg (bg false J)),(1,.agg (bW false M))] Try.func41 (fun _ _=> ?_)
 show WpS _ (bT acp 1) _ ⟨bh 119 [(0,.agg (bg false J)),(1,.agg (bW false M))],[],[]⟩
 refine WpS.l8 ?_ (hd (s'':=⟨(bh 119 [(0,.agg (bg false J)),(1,.agg (bW false M))]),[],[⟨0,4,[]⟩]⟩) (Weak.wI (T:=(bh 119 [(0,.agg (bg false J)),(1,.agg (bW false M))])) (L:=[]) (H:=[]) 4) (by kernel_rfl))
 refine p6 [2000009] 0 [(4,al false),(3,az 3 0),(2,az 2 0)] [0,1,2] [] [(3,(bW false M)),(2,(bg false J))] [⟨0,4,[]⟩] ?_
 unfold HW at h
 obtain⟨OH,h⟩:=h
 refine cu [] [2] ((!((!(dQ J)) || ((!M.ok) || (((M.aw.length:Int) !=J.ah) || (((M.au.length:Int) !=(J.bd.length:Int)) || ((M.O.length:Int) !=(J.O.length:Int)))))))=true) ?_ (fun q2=> ?_)
 ·
  replace h:=OH
  refine cu [(43,al ((!(dQ J)) || ((!M.ok) || (((M.aw.length:Int) !=J.ah) || (((M.au.length:Int) !=(J.bd.length:Int)) || ((M.O.length:Int) !=(J.O.length:Int)))))))] [2] (True) ?_ (fun q3=> ?_)
  ·
   refine bL [2000009] 1 ?_
   refine l3 2 (some 11) [(10,.agg (bg false J))] [.agg (bg false J)] (P7 J) (aD.cons (c3.agg (aD.cons (.int _ _) (aD.cons cz (aD.cons cz (aD.cons cz (aD.cons (.int _ _) aD.nil)))))) aD.nil) ?_
   refine nx 2 13 (!(dQ J)) [(12,al (!(dQ J)))] (fun q4=> ?_) (fun q4=> ?_)
   ·
    exact b1 ([(43,al true)]++gh [42,41,40,39,38,37,36]++[(35,al true),(34,al true)]++gh [33,32,31,30,29,28,27]++[(26,al true),(25,al true)]++gh [24,23,22,21,20,19]++[(18,al true),(17,al true)]++gh [16,15,14]) trivial (by simp only[q4]<;>kernel_rfl)
   ·
    refine nx 5 18 (!M.ok) [(17,al (!M.ok)),(16,al (!M.ok)),(15,al M.ok),(14,az 3 0)] (fun cH=> ?_) (fun cH=> ?_)
    ·
     exact b1 ([(43,al true)]++gh [42,41,40,39,38,37,36]++[(35,al true),(34,al true)]++gh [33,32,31,30,29,28,27]++[(26,al true),(25,al true)]++gh [24,23,22,21,20,19]) trivial (by simp only[q4,cH]<;>kernel_rfl)
    ·
     refine sLen 3 (some 21) [(20,bK aX M.aw),(19,az 3 1)] aX M.aw (fun cV=> ?_)
     refine nx 5 26 ((M.aw.length:Int) !=J.ah) [(25,al ((M.aw.length:Int) !=J.ah)),(24,al ((M.aw.length:Int) !=J.ah)),(23,ag J.ah),(22,az 2 0)] (fun fE=> ?_) (fun fE=> ?_)
     ·
      exact b1 ([(43,al true)]++gh [42,41,40,39,38,37,36]++[(35,al true),(34,al true)]++gh [33,32,31,30,29,28,27]) trivial (by simp only[q4,cH,fE]<;>kernel_rfl)
     ·
      refine sLen 3 (some 29) [(28,bK a5 M.au),(27,az 3 2)] a5 M.au (fun ft=> ?_)
      refine sLen 3 (some 32) [(31,bK c0 J.bd),(30,az 2 1)] c0 J.bd (fun iA=> ?_)
      refine nx 3 35 ((M.au.length:Int) !=(J.bd.length:Int)) [(34,al ((M.au.length:Int) !=(J.bd.length:Int))),(33,al ((M.au.length:Int) !=(J.bd.length:Int)))] (fun gP=> ?_) (fun gP=> ?_)
      ·
       exact b1 ([(43,al true)]++gh [42,41,40,39,38,37,36]) trivial (by simp only[q4,cH,fE,gP]<;>kernel_rfl)
      ·
       refine sLen 3 (some 38) [(37,bK (dD false) M.O),(36,az 3 3)] (dD false) M.O (fun ik=> ?_)
       refine sLen 3 (some 41) [(40,bK (dk false) J.O),(39,az 2 2)] (dk false) J.O (fun hX=> ?_)
       exact b1 [(43,al ((M.O.length:Int) !=(J.O.length:Int))),(42,al ((M.O.length:Int) !=(J.O.length:Int)))] trivial (by simp only[q4,cH,fE,gP]<;>kernel_rfl)
  refine dA (fun fy=> ?_) (fun fy=> ?_)
  ·
   replace h:=h fy
   refine dX [2000009] 2 [(4,al false)] [1] [] ?_
   exact hj (b_.ret (m1 (al false) (h_.hT (m3 h))))
  ·
   refine eb ?_
   exact b_.normal (by simp only[fy]<;>rfl) dT
 replace h:=h q2
 refine hB ?_
 refine cu [(45,bK a5 M.au),(46,ag (M.au.length:Int)),(47,ag 0)] [2] (M.au.length≤4611686018427387904) ?_ (fun iV=> ?_)
 ·
  refine bL [2000009] 3 ?_
  refine sLen 3 (some 46) [(45,bK a5 M.au),(44,az 3 2)] a5 M.au (fun jZ=> ?_)
  exact b1 [(47,ag 0)] jZ
 replace h:=h iV
 refine fc 0 ?_
 obtain⟨mY,h⟩:=h
 refine j8 (fun(v:Int)=>(⟨(bh 119 [(2,az 2 0),(3,az 3 0),(45,bK a5 M.au),(46,ag (M.au.length:Int)),(47,ag v)]),[(3,(bW false M)),(2,(bg false J))],[⟨0,4,[]⟩]⟩:St)) (fun(v:Int)=>ay v) (fun(v:Int)=>aB v) 0 (dt []) mY (fun eE aZ=> ?_)
 replace h:=h eE aZ
 refine dX [2000009] 4 [(48,al (decide (eE<(M.au.length:Int))))] [1] [5] ?_
 unfold HV at h
 obtain⟨w6,h⟩:=h
 refine cu [] [0,1,5] ((decide (eE<(M.au.length:Int)))=true) ?_ (fun lY=> ?_)
 ·
  replace h:=w6
  refine dA (fun hp=> ?_) (fun hp=> ?_)
  ·
   refine eb ?_
   exact b_.normal (by simp only[q2,hp]<;>rfl) dT
  ·
   replace h:=h hp
   refine iL 0 ?_
   refine b_.exit ?_
   refine dO.exit ?_
   refine ch.here ?_
   refine dR.normal ?_
   refine hB ?_
   refine jO ⟨(bh 119 [(2,az 2 0),(3,az 3 0),(64,ag (M.O.length:Int)),(65,ag 0)]),[(3,(bW false M)),(2,(bg false J))],[⟨0,4,[]⟩]⟩ (M.O.length≤4611686018427387904) ?_ (fun il=> ?_)
   ·
    refine bL [2000009] 9 ?_
    refine sLen 3 (some 64) [(63,bK (dD false) M.O),(62,az 3 3)] (dD false) M.O (fun km=> ?_)
    exact b1 [(65,ag 0)] km
   replace h:=h il
   refine fc 2 ?_
   obtain⟨rX,h⟩:=h
   refine j8 (fun(v:Int)=>(⟨(bh 119 [(2,az 2 0),(3,az 3 0),(64,ag (M.O.length:Int)),(65,ag v)]),[(3,(bW false M)),(2,(bg false J))],[⟨0,4,[]⟩]⟩:St)) (fun(v:Int)=>aS eE v) (fun(v:Int)=>aU eE v) 0 (dt []) rX (fun ds aZ=> ?_)
   replace h:=h ds aZ
   refine dX [2000009] 10 [(66,al (decide (ds<(M.O.length:Int))))] [1] [4] ?_
   obtain⟨pJ,h⟩:=h
   refine cu [] [0,1,4] ((decide (ds<(M.O.length:Int)))=true) ?_ (fun h6=> ?_)
   ·
    replace h:=pJ
    refine dA (fun g4=> ?_) (fun g4=> ?_)
    ·
     refine eb ?_
     exact b_.normal (by simp only[q2,hp,g4]<;>rfl) dT
    ·
     replace h:=h g4
     refine iL 2 ?_
     refine b_.exit ?_
     refine dO.exit ?_
     refine ch.here ?_
     refine dR.normal ?_
     obtain⟨ls,h⟩:=h
     refine jO ⟨(bh 119 [(2,az 2 0),(3,az 3 0),(9,.ptr 0 1 0 0)]),[(3,(bW false M)),(2,(bg false J))],(⟨1,4,[[al (aa M).ok,aj 1 0 (aa M).aw.length,aj 2 0 (aa M).au.length,aj 3 0 (aa M).O.length]]⟩::⟨0,1,List.map aX (aa M).aw⟩::⟨0,2,List.map a5 (aa M).au⟩::⟨0,5,a0 4 (aa M).O (List.range (aa M).O.length)⟩::List.map bk (List.map ae.ac (aa M).O))⟩ (True) ?_ (fun im=> ?_)
     ·
      replace h:=ls
      refine bL [2000009] 21 ?_
      have h7:=h
      refine s9 2 (some 113) [(112,.agg (bW false M))] [.agg (bW false M)] (.agg [al (aa M).ok,aj 1 0 (aa M).aw.length,aj 2 0 (aa M).au.length,aj 3 0 (aa M).O.length]) (⟨0,4,[]⟩::⟨0,1,List.map aX (aa M).aw⟩::⟨0,2,List.map a5 (aa M).au⟩::⟨0,5,a0 4 (aa M).O (List.range (aa M).O.length)⟩::List.map bk (List.map ae.ac (aa M).O)) (Qa M h7) (aD.cons (c3.agg (aD.cons (.bool _) (aD.cons cz (aD.cons cz (aD.cons cz aD.nil))))) aD.nil) BQ (qS Po (by kernel_rfl)) ?_ (er:=by simp[mq,ny,iD])
      refine Cl 1 [(9,.ptr 0 1 0 0)] [(3,(bW false M)),(2,(bg false J))] (⟨1,4,[[al false,aF,aF,aF]]⟩::⟨0,1,List.map aX (aa M).aw⟩::⟨0,2,List.map a5 (aa M).au⟩::⟨0,5,a0 4 (aa M).O (List.range (aa M).O.length)⟩::List.map bk (List.map ae.ac (aa M).O)) ?_
      refine Pc 1 [] (⟨1,4,[[al (aa M).ok,aj 1 0 (aa M).aw.length,aj 2 0 (aa M).au.length,aj 3 0 (aa M).O.length]]⟩::⟨0,1,List.map aX (aa M).aw⟩::⟨0,2,List.map a5 (aa M).au⟩::⟨0,5,a0 4 (aa M).O (List.range (aa M).O.length)⟩::List.map bk (List.map ae.ac (aa M).O)) (φ:=1=1) (ψ:=4≤4) rfl (by decide) ?_
      exact b1 [] trivial
     unfold PQ at h
     refine hB ?_
     refine bL [2000009] 22 ?_
     obtain⟨g5,h⟩:=h
     refine s8 2 (some 115) [(114,.agg (bg false J))] [.agg (bg false J),.ptr 0 1 0 0] _ (Qv J 1 (aa M).ok (aa M).aw (aa M).au (aa M).O (List.range (aa M).O.length) (List.map ae.ac (aa M).O) g5) (fun r H' ak=>by obtain⟨_,_,_,rfl,_⟩:=ak;rfl) ?_
     rintro r H' ⟨e_,i28,kQ,rfl,rfl,oP⟩
     replace h:=h e_ i28 kQ oP
     refine dM [] ?_
     refine dR.normal ?_
     obtain⟨k3,h⟩:=h
     refine jO ⟨(bh 119 [(4,al (og M (Frame.mk (aa M).ok (aa M).aw (aa M).au (view e_ i28 kQ))))]),[(3,(bW false M)),(2,(bg false J))],(⟨1,4,[[al (aa M).ok,aj 1 0 (aa M).aw.length,aj 2 0 (aa M).au.length,aj 3 0 e_.length]]⟩::⟨0,1,List.map aX (aa M).aw⟩::⟨0,2,List.map a5 (aa M).au⟩::⟨0,5,a0 4 e_ i28⟩::List.map bk kQ)⟩ (True) ?_ (fun mU=> ?_)
     ·
      replace h:=k3
      refine bL [2000009] 23 ?_
      refine nw 2 (some 117) (.agg [al (aa M).ok,aj 1 0 (aa M).aw.length,aj 2 0 (aa M).au.length,aj 3 0 e_.length]) [(116,.agg (bW false M))] (φ:=1=1) rfl ?_
      obtain⟨jm,k1,jn,k2⟩:=h
      refine l3 1 (some 118) [] [.agg (bW false M),.agg [al (aa M).ok,aj 1 0 (aa M).aw.length,aj 2 0 (aa M).au.length,aj 3 0 e_.length]] (ac0 M (Frame.mk (aa M).ok (aa M).aw (aa M).au (view e_ i28 kQ)) k2) (aD.cons (c3.agg (aD.cons (.bool _) (aD.cons cz (aD.cons cz (aD.cons cz aD.nil))))) (aD.cons (c3.agg (aD.cons (.bool _) (aD.cons (m2 (sz:=1) (by simp) rfl (sF) jm) (aD.cons (m2 (sz:=2) (by simp) rfl (uk) k1) (aD.cons (ta (s:=4) (ws:=e_) (ids:=i28) (bs:=kQ) (by simp) rfl (fun id k h=>by simpa using h) jn.1 jn.2.1 jn.2.2) aD.nil))))) aD.nil)) ?_
      exact b1 [(4,al (og M (Frame.mk (aa M).ok (aa M).aw (aa M).au (view e_ i28 kQ))))] trivial
     exact hj (m1 (al (og M (Frame.mk (aa M).ok (aa M).aw (aa M).au (view e_ i28 kQ)))) (h_.hT (m3 h)))
   replace h:=h h6
   refine hB ?_
   refine fc 3 ?_
   refine dX [2000009] 11 [(7,ag ds),(67,ag ds)] [1] [4] ?_
   obtain⟨B6,h⟩:=h
   refine cu [] [5] ((!(!(g9 J M ds)))=true) ?_ (fun jo=> ?_)
   ·
    replace h:=B6
    obtain⟨mj,h⟩:=h
    refine cu [(72,al (!(g9 J M ds)))] [5] (True) ?_ (fun nu=> ?_)
    ·
     replace h:=mj
     refine bL [2000009] 12 ?_
     have lZ:=h
     refine l3 4 (some 71) [(70,ag ds),(69,.agg (bW false M)),(68,.agg (bg false J))] [.agg (bg false J),.agg (bW false M),ag ds] (acP J M ds lZ) (aD.cons (c3.agg (aD.cons (.int _ _) (aD.cons cz (aD.cons cz (aD.cons cz (aD.cons (.int _ _) aD.nil)))))) (aD.cons (c3.agg (aD.cons (.bool _) (aD.cons cz (aD.cons cz (aD.cons cz aD.nil))))) (aD.cons (c3.hT (.int _ _)) aD.nil))) ?_
     exact b1 [(72,al (!(g9 J M ds)))] trivial
    refine dA (fun k4=> ?_) (fun k4=> ?_)
    ·
     replace h:=h k4
     refine dX [2000009] 13 [(4,al false)] [1] [] ?_
     exact hj (b_.ret (ch.ret (dR.ret (dO.ret (ch.ret (dR.ret (m1 (al false) (h_.hT (m3 h)))))))))
    ·
     refine eb ?_
     exact b_.normal (by simp only[q2,hp,h6,k4]<;>rfl) dT
   replace h:=h jo
   refine cu [(75,ag (M.O.length:Int)),(76,ag 0)] [5] (True) ?_ (fun mV=> ?_)
   ·
    refine bL [2000009] 14 ?_
    refine sLen 3 (some 75) [(74,bK (dD false) M.O),(73,az 3 3)] (dD false) M.O (fun mW=> ?_)
    exact b1 [(76,ag 0)] trivial
   refine fc 4 ?_
   obtain⟨kL,h⟩:=h
   refine j8 (fun(v:Int)=>(⟨(bh 119 [(2,az 2 0),(3,az 3 0),(7,ag ds),(64,ag (M.O.length:Int)),(65,ag ds),(75,ag (M.O.length:Int)),(76,ag v)]),[(3,(bW false M)),(2,(bg false J))],[⟨0,4,[]⟩]⟩:St)) (fun(v:Int)=>bw eE ds v) (fun(v:Int)=>bu eE ds v) 0 (dt []) kL (fun b4 aZ=> ?_)
   replace h:=h b4 aZ
   refine dX [2000009] 15 [(77,al (decide (b4<(M.O.length:Int))))] [1] [7] ?_
   unfold HU at h
   obtain⟨mX,h⟩:=h
   refine cu [] [0,1,7] ((decide (b4<(M.O.length:Int)))=true) ?_ (fun l1=> ?_)
   ·
    replace h:=mX
    refine dA (fun jp=> ?_) (fun jp=> ?_)
    ·
     refine eb ?_
     exact b_.normal (by simp only[q2,hp,h6,jo,jp]<;>rfl) dT
    ·
     replace h:=h jp
     refine iL 4 ?_
     refine b_.exit ?_
     refine dO.exit ?_
     refine ch.here ?_
     refine ch.normal ?_
     refine dR.normal ?_
     refine bL [2000009] 20 ?_
     refine dM [(65,ag (IntKind.i64.wrap (ds+1))),(111,ag (IntKind.i64.wrap (ds+1)))] ?_
     exact dO.again (IntKind.i64.wrap (ds+1)) h (dt [])
   replace h:=h l1
   obtain⟨nv,h⟩:=h
   refine cu [] [7] ((!((ds !=b4)&&((nth (nth J.bU ds) b4)&&(((nth M.O ds).ar !=0)&&((nth M.O b4).ar !=0)))))=true) ?_ (fun rW=> ?_)
   ·
    replace h:=nv
    refine fc 5 ?_
    refine dX [2000009] 16 [(8,ag b4),(78,ag b4)] [1] [7] ?_
    unfold HT at h
    obtain⟨oe,h⟩:=h
    refine cu [(109,al ((ds !=b4)&&((nth (nth J.bU ds) b4)&&(((nth M.O ds).ar !=0)&&((nth M.O b4).ar !=0)))))] [0,1,7] (True) ?_ (fun ml=> ?_)
    ·
     replace h:=oe
     refine bL [2000009] 17 ?_
     refine nx 4 82 (ds !=b4) [(81,al (ds !=b4)),(80,ag b4),(79,ag ds)] (fun oQ=> ?_) (fun oQ=> ?_)
     ·
      replace h:=h oQ
      obtain⟨w4,h⟩:=h
      refine k5 4 (some 86) [(85,ag ds),(84,bK (iN aX false) J.bU),(83,az 2 3)] (iN aX false) J.bU 1 w4 ?_
      obtain⟨mn,h⟩:=h
      refine k5 3 (some 89) [(88,ag b4),(87,bK aX (nth J.bU ds))] aX (nth J.bU ds) 1 mn ?_
      refine nx 3 92 (nth (nth J.bU ds) b4) [(91,al (nth (nth J.bU ds) b4)),(90,al (nth (nth J.bU ds) b4))] (fun mm=> ?_) (fun mm=> ?_)
      ·
       replace h:=h mm
       obtain⟨qH,h⟩:=h
       refine k5 4 (some 96) [(95,ag ds),(94,bK (dD false) M.O),(93,az 3 3)] (dD false) M.O 5 qH ?_
       refine nx 5 101 ((nth M.O ds).ar !=0) [(100,al ((nth M.O ds).ar !=0)),(99,al ((nth M.O ds).ar !=0)),(98,ag (nth M.O ds).ar),(97,.dr (dD false (nth M.O ds)) 0)] (fun oR=> ?_) (fun oR=> ?_)
       ·
        replace h:=h oR
        have zc:=h
        refine k5 4 (some 105) [(104,ag b4),(103,bK (dD false) M.O),(102,az 3 3)] (dD false) M.O 5 zc ?_
        exact b1 [(109,al ((nth M.O b4).ar !=0)),(108,al ((nth M.O b4).ar !=0)),(107,ag (nth M.O b4).ar),(106,.dr (dD false (nth M.O b4)) 0)] trivial (by simp only[q2,hp,h6,jo,l1,oQ,mm,oR]<;>kernel_rfl)
       ·
        exact b1 ([(109,al false)]++gh [108,107,106,105,104,103,102]) trivial (by simp only[q2,hp,h6,jo,l1,oQ,mm,oR]<;>kernel_rfl)
      ·
       exact b1 ([(109,al false)]++gh [108,107,106,105,104,103,102]++[(101,al false),(100,al false)]++gh [99,98,97,96,95,94,93]) trivial (by simp only[q2,hp,h6,jo,l1,oQ,mm]<;>kernel_rfl)
     ·
      exact b1 ([(109,al false)]++gh [108,107,106,105,104,103,102]++[(101,al false),(100,al false)]++gh [99,98,97,96,95,94,93]++[(92,al false),(91,al false)]++gh [90,89,88,87,86,85,84,83]) trivial (by simp only[q2,hp,h6,jo,l1,oQ]<;>kernel_rfl)
    refine dA (fun oc=> ?_) (fun oc=> ?_)
    ·
     replace h:=h oc
     refine dX [2000009] 18 [(4,al false)] [1] [] ?_
     exact hj (ch.ret (b_.ret (dO.ret (ch.ret (ch.ret (dR.ret (dO.ret (ch.ret (dR.ret (m1 (al false) (h_.hT (m3 h))))))))))))
    ·
     refine eb ?_
     refine ch.normal ?_
     exact b_.normal (by simp only[q2,hp,h6,jo,l1,oc]<;>rfl) dT
   replace h:=h rW
   refine bL [2000009] 19 ?_
   refine dM [(76,ag (IntKind.i64.wrap (b4+1))),(110,ag (IntKind.i64.wrap (b4+1)))] ?_
   exact dO.again (IntKind.i64.wrap (b4+1)) h (dt [])
 replace h:=h lY
 obtain⟨s3,h⟩:=h
 refine eX [] [5] (fun L=>(6,(a5 (nth M.au eE)))::L) id ((!((!(b0 (nth M.au eE).cy 1 2)) || (!(b0 (nth M.au eE).a2 0 2))))=true) ?_ (fun sX=> ?_)
 ·
  replace h:=s3
  refine fc 1 ?_
  obtain⟨s0,h⟩:=h
  refine eX [(6,az 6 0)] [5] (fun L=>(6,(a5 (nth M.au eE)))::L) id (True) ?_ (fun zd=> ?_)
  ·
   replace h:=s0
   refine bL [2000009] 5 ?_
   have w5:=h
   refine k5 1 (some 49) [] a5 M.au 2 w5 ?_
   exact b1 [(6,az 6 0),(50,.agg (a5 (nth M.au eE)))] trivial
  refine cu [(60,al ((!(b0 (nth M.au eE).cy 1 2)) || (!(b0 (nth M.au eE).a2 0 2))))] [0,1,5] (True) ?_ (fun rY=> ?_)
  ·
   refine bL [2000009] 6 ?_
   refine l3 3 (some 53) [(52,ag (nth M.au eE).cy),(51,az 6 0)] [ag (nth M.au eE).cy,ag 1,ag 2] (HX (nth M.au eE).cy 1 2) (aD.cons (c3.hT (.int _ _)) (aD.cons (c3.hT (.int _ _)) (aD.cons (c3.hT (.int _ _)) aD.nil))) ?_
   refine nx 2 55 (!(b0 (nth M.au eE).cy 1 2)) [(54,al (!(b0 (nth M.au eE).cy 1 2)))] (fun sY=> ?_) (fun sY=> ?_)
   ·
    exact b1 ([(60,al true)]++gh [59,58,57,56]) trivial (by simp only[q2,lY,sY]<;>kernel_rfl)
   ·
    refine l3 3 (some 58) [(57,ag (nth M.au eE).a2),(56,az 6 1)] [ag (nth M.au eE).a2,ag 0,ag 2] (HX (nth M.au eE).a2 0 2) (aD.cons (c3.hT (.int _ _)) (aD.cons (c3.hT (.int _ _)) (aD.cons (c3.hT (.int _ _)) aD.nil))) ?_
    exact b1 [(60,al (!(b0 (nth M.au eE).a2 0 2))),(59,al (!(b0 (nth M.au eE).a2 0 2)))] trivial (by simp only[q2,lY,sY]<;>kernel_rfl)
  refine dA (fun qI=> ?_) (fun qI=> ?_)
  ·
   replace h:=h qI
   refine dX [2000009] 7 [(4,al false)] [1] [] ?_
   exact hj (ch.ret (b_.ret (dO.ret (ch.ret (dR.ret (m1 (al false) (h_.hT (m3 h))))))))
  ·
   refine eb ?_
   refine ch.normal ?_
   exact b_.normal (by simp only[q2,lY,qI]<;>rfl) dT
 replace h:=h sX
 refine bL [2000009] 8 ?_
 refine dM [(47,ag (IntKind.i64.wrap (eE+1))),(61,ag (IntKind.i64.wrap (eE+1)))] ?_
 exact dO.again (IntKind.i64.wrap (eE+1)) h (dt [6])
theorem aco (J:aA) (M:Frame) (aI:x5 J M):bZ Try.prog 41 [.agg (bg false J),.agg (bW false M)] (al (eV J M)):=acq J M (eV J M) (cr M.au.length (fun j=>(!(b0 (nth M.au j).cy 1 2)) || (!(b0 (nth M.au j).a2 0 2)))) (cA M.au.length) (fun _ i=>(∀x∈M.au,jk x=true)∧cr M.O.length (fun i=> !(g9 J M i) || xd J M M.O.length i) i) (fun _=>cA M.O.length) (fun _ i=>cr M.O.length (fun k=>jc J M i k)) (fun _ _=>cA M.O.length) (by
 unfold HS HW
 have hs:jr M:=aI
 have no: ∀φ:Prop,(eV J M=true→φ)→ ¬φ→false=eV J M:=fun φ h1 h2=>by
  cases h:eV J M with
  | false=>rfl
  | true=>exact absurd (h1 h) h2
 have D:=fun h=>(tH (p:=J) (f:=M)).1 h
 refine⟨fun ak=>no _ D (fun bi=>by have:=bi.1;unfold rp at this;rw[ak] at this;cases this),fun ak aH=>⟨c7 (dh _),fun v aZ=> ?_⟩⟩
 have pg:rp J M=true:=ak
 obtain⟨jb,db,pZ,jN,ju⟩:=mG.1 pg
 have cx:=sS jb
 have dV:=y6 jb
 unfold HV
 refine⟨fun hv hm=> ?_,fun hv=>⟨⟨ca aZ hv,fun hb=>no _ D fun bi=> ?_⟩,fun hb=>cI (cv aH) aZ hv (not_eq hb)⟩⟩
 ·have kW: ∀x∈M.au,jk x=true:=fun x hx=>by
   have:=l6 (q:=fun x:bc=>(!(b0 x.cy 1 2)) || (!(b0 x.a2 0 2))) (gH aZ hv) x hx
   unfold jk
   simpa[Bool.and_eq_true] using this
  refine⟨⟨kW,c7 (dh _)⟩,fun i c1=>⟨fun hi=> ?_,fun hi=> ?_⟩⟩
  ·have eo:=gH c1.2 hi
   have yq: ∀i:Int,0≤i→i<M.O.length→g9 J M i=true:=fun i i0 i1=>by
    have:=eo i i0 i1
    rw[Bool.or_eq_false_iff] at this
    simpa using this.1
   have Ev: ∀i k:Int,0≤i→i<M.O.length→0≤k→k<M.O.length→jc J M i k=false:=fun i k i0 i1 ba ei=>by
    have:=eo i i0 i1
    rw[Bool.or_eq_false_iff] at this
    have h2:=this.2
    unfold xd at h2
    rw[List.any_eq_false] at h2
    have:=h2 k.toNat (List.mem_range.2 (by omega))
    rw[Int.toNat_of_nonneg ba] at this
    simpa using this
   have c5:h9 J M:=Eb pg fun i i0 i1=>by
    have:=yq i i0 i1
    rw[AU,Bool.and_eq_true] at this;exact this.1
   obtain⟨fj,fO,fu⟩:=vO M.O
   have lj:gk M.O (List.range M.O.length) (M.O.map ae.ac):=⟨fj,fO,fun b hb=>by
    obtain⟨h,bX,rfl⟩:=List.mem_map.1 hb;exact hs.2.2.2 h bX⟩
   have Bf:cW M.ok M.aw M.au M.O (List.range M.O.length) (M.O.map ae.ac)=M:=by unfold cW;rw[fu]
   refine⟨hs,⟨lj,?_⟩,fun w i b kg=> ?_⟩
   ·show tc J (cW M.ok M.aw M.au M.O (List.range M.O.length) (M.O.map ae.ac))
    rw[Bf];exact⟨cx,c5⟩
   ·obtain⟨G,hv⟩:=kg
    replace hv:view w i b=(d_ J (cW M.ok M.aw M.au M.O (List.range M.O.length) (M.O.map ae.ac))).O:=hv
    rw[Bf] at hv
    have aL:w.length=M.O.length:=by rw[←i_ G.ok,hv];exact oT _ _ _
    have KY:=zt c5 M.O.length
    obtain⟨s1,s2,l2,aa7⟩:=hs
    have pr:(d_ J M).O.length=M.O.length:=oT _ _ _
    have v0: ∀h∈(d_ J M).O,h.ac.length≤1048576:=fun h bX=>by
     obtain⟨j,aM,rfl⟩:=List.mem_iff_getElem.1 bX
     have:=KY.ac j _ _ (List.getElem?_eq_getElem aM) (List.getElem?_eq_getElem (by omega))
     rw[this]
     have:=(cx.ah _ (List.getElem_mem (show j<J.O.length by omega))).2.1
     omega
    refine⟨⟨by show M.aw.length≤_;omega,by show M.au.length≤_;omega,⟨G.ok,by omega,fun x hx=>by have:=G.len x hx;omega⟩,?_,⟨s1,s2,l2,aa7⟩,⟨s1,s2,?_,?_⟩,fun j x y bB e2=> ?_⟩,?_⟩
    ·show M.O.length=(view w i b).length;rw[i_ G.ok,aL]
    ·show(view w i b).length≤_;rw[i_ G.ok];omega
    ·show ∀h∈view w i b,_
     rw[hv];exact v0
    ·replace e2:(view w i b)[j]?=some y:=e2
     rw[hv] at e2
     have aM:=(List.getElem?_eq_some_iff.1 bB).1
     have hw:=List.getElem?_eq_getElem (show j<J.O.length by omega)
     rw[c5.ac j _ _ bB hw,KY.ac j _ _ e2 hw]
    ·unfold og
     show decide (M.O=view w i b)=_
     rw[hv]
     by_cases h:M.O=(d_ J M).O
     ·rw[decide_eq_true h,tH.2 ⟨pg,kW,yq,Ev,h⟩]
     ·rw[decide_eq_false h]
      exact no _ D fun bi=>h bi.2.2.2.2
  ·have b9:=ca c1.2 hi
   refine⟨⟨⟨cx,hs,ju,b9.1,by omega⟩,fun hb=>no _ D fun bi=> ?_⟩,fun hb=>⟨c7 (dh _),fun k hK=> ?_⟩⟩
   ·rw[bi.2.2.1 i b9.1 (by omega)] at hb;cases hb
   ·have hb:g9 J M i=true:=by simpa using hb
    unfold HU
    refine⟨fun hk=> ?_,fun hk=>⟨?_,fun ak=>cI (cv hm) hK hk (not_eq ak)⟩⟩
    ·have:=cI (cv hm) c1.2 hi (show(!(g9 J M i) || xd J M M.O.length i)=false by
      rw[hb]
      exact List.any_eq_false.2 fun k jy=>by rw[gH hK hk k (by omega) (by have:=List.mem_range.1 jy;omega)];simp)
     exact⟨⟨kW,this.1⟩,this.2⟩
    ·have qi:=ca hK hk
     have hC:=dV.len
     have eL:=dV.row i b9.1 (by omega)
     unfold HT
     refine⟨fun _=>⟨⟨b9.1,by omega⟩,⟨qi.1,by omega⟩,fun _=>⟨b9,fun _=>qi⟩⟩,fun ak=>no _ D fun bi=> ?_⟩
     have:=bi.2.2.2.1 i k b9.1 (by omega) qi.1 (by omega)
     have ak:jc J M i k=true:=ak
     rw[this] at ak;cases ak
 ·have:=bi.2.1 _ (du (ca aZ hv).2)
  unfold jk at this
  rw[Bool.and_eq_true] at this
  rw[this.1,this.2] at hb;cases hb)
def XI:List Item:=[aq 0,aq 1,aq 2,aq 3,aq 4,aq 5]
def XJ:List (List Nat):=[[],[],[],[1,2],rg 0 4,rg 0 5]
def LU (bw:c2 Prop) (bu:c2 Nat) (J:aA) (M:Frame) (an:Bool) (fk l7 cS:Int):Prop:=
  ((((nth M.O cS).ar !=0)=true→(0≤l7∧l7.toNat<M.O.length)∧(((nth M.O l7).ar !=0)=true→(0≤cS∧cS.toNat<J.bU.length)∧(0≤l7∧l7.toNat<(nth J.bU cS).length)))∧((((nth M.O cS).ar !=0)&&(((nth M.O l7).ar !=0)&&(nth (nth J.bU cS) l7)))=true→false=an))∧((!(((nth M.O cS).ar !=0)&&(((nth M.O l7).ar !=0)&&(nth (nth J.bU cS) l7))))=true→bw fk cS (IntKind.i64.wrap (l7+1))∧bu fk cS (IntKind.i64.wrap (l7+1))<bu fk cS l7)
def LV (aS:Int→Int→Prop) (aU:Int→Int→Nat) (bw:c2 Prop) (bu:c2 Nat) (J:aA) (M:Frame) (an:Bool) (fk cS:Int):Prop:=
  ((((nth M.O cS).ar==0)=true→(nth M.O cS).ao=true→false=an)∧(((nth M.O cS).ar==0)=false→(bif ((nth M.O cS).ar==2) then((nth M.O cS).ar==2) else((nth M.O cS).ar==3))=true→(!(nth M.O cS).ao)=true→false=an))∧((bif ((nth M.O cS).ar==0) then(!(nth M.O cS).ao) else(!(bif ((nth M.O cS).ar==2) then((nth M.O cS).ar==2) else((nth M.O cS).ar==3)) || (!(!(nth M.O cS).ao))))=true→bw fk cS 0∧ ∀(l7:Int),bw fk cS l7→(((decide (l7<cS))=false→aS fk (IntKind.i64.wrap (cS+1))∧aU fk (IntKind.i64.wrap (cS+1))<aU fk cS)∧((decide (l7<cS))=true→LU bw bu J M an fk l7 cS)))
def LW (aS:Int→Int→Prop) (aU:Int→Int→Nat) (bw:c2 Prop) (bu:c2 Nat) (J:aA) (M:Frame) (an:Bool) (fk cS:Int):Prop:=
  ((((nth M.O cS).ar==3)=true→((decide ((nth M.O cS).ap<1)) || (decide ((nth M.O cS).ap>J.dl)))=true→false=an)∧(((nth M.O cS).ar==3)=false→((nth M.O cS).ap !=0)=true→false=an))∧((bif ((nth M.O cS).ar==3) then(!((decide ((nth M.O cS).ap<1)) || (decide ((nth M.O cS).ap>J.dl)))) else(!((nth M.O cS).ap !=0)))=true→LV aS aU bw bu J M an fk cS)
def LX (aS:Int→Int→Prop) (aU:Int→Int→Nat) (bw:c2 Prop) (bu:c2 Nat) (J:aA) (M:Frame) (an:Bool) (fk cS:Int):Prop:=
  ((((nth M.O cS).ar !=4)=true→(((nth M.O cS).af !=0) || (jR (nth M.O cS).ac true))=true→false=an)∧(((nth M.O cS).ar !=4)=false→(0≤(nth M.O cS).af∧(nth M.O cS).af≤((nth M.O cS).ac.length:Int))∧((jR ((nth M.O cS).ac.take (nth M.O cS).af.toNat) false)=true→false=an)))∧((bif ((nth M.O cS).ar !=4) then(!(((nth M.O cS).af !=0) || (jR (nth M.O cS).ac true))) else(!(jR ((nth M.O cS).ac.take (nth M.O cS).af.toNat) false)))=true→LW aS aU bw bu J M an fk cS)
def LY (aS:Int→Int→Prop) (aU:Int→Int→Nat) (bw:c2 Prop) (bu:c2 Nat) (J:aA) (M:Frame) (an:Bool) (fk cS:Int):Prop:=
  (((decide ((nth M.O cS).ar<0)) || ((decide ((nth M.O cS).ar>4)) || ((((nth M.O cS).ac.length:Int) !=((nth J.O cS).ah.length:Int)) || ((decide ((nth M.O cS).af<0)) || (decide ((nth M.O cS).af ≥ ((nth J.O cS).ah.length:Int)))))))=true→false=an)∧((!((decide ((nth M.O cS).ar<0)) || ((decide ((nth M.O cS).ar>4)) || ((((nth M.O cS).ac.length:Int) !=((nth J.O cS).ah.length:Int)) || ((decide ((nth M.O cS).af<0)) || (decide ((nth M.O cS).af ≥ ((nth J.O cS).ah.length:Int))))))))=true→LX aS aU bw bu J M an fk cS)
def LZ (ay:Int→Prop) (aB:Int→Nat) (M:Frame) (an:Bool) (fk:Int):Prop:=
  ((0≤fk∧fk.toNat<M.au.length)∧((bif ((nth M.au fk).cy !=1) then(((nth M.au fk).cy !=2) || ((decide ((nth M.au fk).a2<0)) || (decide ((nth M.au fk).a2>2)))) else((decide ((nth M.au fk).a2<0)) || (decide ((nth M.au fk).a2>2))))=true→false=an))∧((!(bif ((nth M.au fk).cy !=1) then(((nth M.au fk).cy !=2) || ((decide ((nth M.au fk).a2<0)) || (decide ((nth M.au fk).a2>2)))) else((decide ((nth M.au fk).a2<0)) || (decide ((nth M.au fk).a2>2)))))=true→ay (IntKind.i64.wrap (fk+1))∧aB (IntKind.i64.wrap (fk+1))<aB fk)
def L0 (ay:Int→Prop) (aB:Int→Nat) (aS:Int→Int→Prop) (aU:Int→Int→Nat) (bw:c2 Prop) (bu:c2 Nat) (J:aA) (M:Frame) (an:Bool) (fk:Int):Prop:=
  ((decide (fk<(M.au.length:Int)))=false→M.O.length≤4611686018427387904→aS fk 0∧ ∀(cS:Int),aS fk cS→(((decide (cS<(M.O.length:Int)))=false→(tc J M)∧((uS M (d_ J M))=an))∧((decide (cS<(M.O.length:Int)))=true→(0≤cS∧cS.toNat<M.O.length)∧((0≤cS∧cS.toNat<J.O.length)∧((nth J.O cS).ah.length≤4611686018427387904→LY aS aU bw bu J M an fk cS)))))∧((decide (fk<(M.au.length:Int)))=true→LZ ay aB M an fk)
def L1 (ay:Int→Prop) (aB:Int→Nat) (aS:Int→Int→Prop) (aU:Int→Int→Nat) (bw:c2 Prop) (bu:c2 Nat) (J:aA) (M:Frame) (an:Bool):Prop:=
  (((!(dQ J)) || ((!M.ok) || (((M.aw.length:Int) !=J.ah) || (((M.au.length:Int) !=(J.bd.length:Int)) || ((M.O.length:Int) !=(J.O.length:Int))))))=true→false=an)∧((!((!(dQ J)) || ((!M.ok) || (((M.aw.length:Int) !=J.ah) || (((M.au.length:Int) !=(J.bd.length:Int)) || ((M.O.length:Int) !=(J.O.length:Int)))))))=true→M.au.length≤4611686018427387904→ay 0∧ ∀(fk:Int),ay fk→(L0 ay aB aS aU bw bu J M an fk))
def LS (J:aA) (M:Frame) (an:Bool) (ay:Int→Prop) (aB:Int→Nat) (aS:Int→Int→Prop) (aU:Int→Int→Nat) (bw:c2 Prop) (bu:c2 Nat):Prop:=
 L1 ay aB aS aU bw bu J M an
theorem XG (J:aA) (M:Frame) (aI:x5 J M):bZ Try.prog 43 [.agg (bg false J),.agg (bW false M)] (al (eV J M)):=(fun(ay:Int→Prop) (aB:Int→Nat) (aS:Int→Int→Prop) (aU:Int→Int→Nat) (bw:c2 Prop) (bu:c2 Nat) (h:LS J M (eV J M) ay aB aS aU bw bu)=>bZ.run (ps:=[.df,.frame]) (rs:=[.bool]) (x:=(J,M,())) (r:=((eV J M),())) ⟨190,ec,[MM,YJ,YH,abI]⟩ ⟨[],[(40,XI,XJ)],[],[],[]⟩ (eP [2,3,46,47] [(3,4),(2,5)] 48 ay aB fun aW=>(eP [2,3,72,73] [(3,4),(2,5)] 74 (aS aW) (aU aW) fun bP=>(eP [2,3,7,8,72,73,74,157] [(8,5),(3,4),(2,5)] 158 (bw aW bP) (bu aW bP) fun _=> .nil))) Try.func43 h) (cr M.au.length (fun j=> !jk (nth M.au j))) (cA M.au.length) (fun _ i=>(∀x∈M.au,jk x=true)∧cr M.O.length (fun i=> !(g9 J M i) || xd J M i.toNat i) i) (fun _=>cA M.O.length) (fun _ i=>cr i (fun k=>jc J M i k)) (fun _ i=>cA i) (by
 unfold LS L1
 have hs:jr M:=aI
 have no: ∀φ:Prop,(eV J M=true→φ)→ ¬φ→false=eV J M:=fun φ h1 h2=>by
  cases h:eV J M with
  | false=>rfl
  | true=>exact absurd (h1 h) h2
 have D:=fun h=>(tH (p:=J) (f:=M)).1 h
 refine⟨fun ak=>no _ D (fun bi=>by have:=bi.1;unfold rp at this;rw[ak] at this;cases this),fun ak aH=>⟨c7 (dh _),fun v aZ=> ?_⟩⟩
 have pg:rp J M=true:=ak
 obtain⟨jb,db,pZ,jN,ju⟩:=mG.1 pg
 have cx:=sS jb
 have dV:=y6 jb
 unfold L0
 refine⟨fun hv hm=> ?_,fun hv=> ?_⟩
 ·have kW: ∀x∈M.au,jk x=true:=fun x hx=>by
   simpa using l6 (q:=fun x:bc=> !jk x) (gH aZ hv) x hx
  refine⟨⟨kW,c7 (dh _)⟩,fun i c1=>⟨fun hi=> ?_,fun hi=> ?_⟩⟩
  ·have eo:=gH c1.2 hi
   have yq: ∀i:Int,0≤i→i<M.O.length→g9 J M i=true:=fun i i0 i1=>by
    have:=eo i i0 i1
    rw[Bool.or_eq_false_iff] at this
    simpa using this.1
   have Ls: ∀i k:Int,0≤i→i<M.O.length→0≤k→k<i→jc J M i k=false:=fun i k i0 i1 ba ei=>by
    have:=eo i i0 i1
    rw[Bool.or_eq_false_iff] at this
    have h2:=this.2
    unfold xd at h2
    rw[List.any_eq_false] at h2
    have:=h2 k.toNat (List.mem_range.2 (by omega))
    rw[Int.toNat_of_nonneg ba] at this
    simpa using this
   have Ev: ∀i k:Int,0≤i→i<M.O.length→0≤k→k<M.O.length→jc J M i k=false:=fun i k i0 i1 ba ei=>by
    rcases Int.lt_trichotomy k i with h | h | h
    ·exact Ls i k i0 i1 ba h
    ·unfold jc;rw[h];simp
    ·rw[SR dV ju i0 i1 ba ei];exact Ls k i ba ei i0 h
   have c5:h9 J M:=Eb pg fun i i0 i1=>by
    have:=yq i i0 i1
    rw[AU,Bool.and_eq_true] at this;exact this.1
   refine⟨⟨cx,c5⟩,?_⟩
   obtain⟨s1,s2,l2⟩:=qQ J M M.O.length
   unfold uS
   rw[show(d_ J M).aw=M.aw from s2,show(d_ J M).au=M.au from l2]
   unfold eqv
   by_cases h:M.O=(d_ J M).O
   ·rw[decide_eq_true h,tH.2 ⟨pg,kW,yq,Ev,h⟩];simp
   ·rw[decide_eq_false h,Bool.and_false]
    exact no _ D fun bi=>h bi.2.2.2.2
  ·have b9:=ca c1.2 hi
   have fU:i<(M.O.length:Int):=by simpa using hi
   have uz: ∀c:Bool,c=false→(g9 J M i=true→c=true)→false=eV J M:=fun c hc h=>no _ D fun bi=>by
    have:=h (bi.2.2.1 i b9.1 (by omega));rw[hc] at this;cases this
   have P:=AU J M i
   refine⟨b9,⟨b9.1,by omega⟩,fun sE=> ?_⟩
   unfold LY
   refine⟨fun ak=>uz (su J M i) (by unfold su;rw[ak];rfl) fun h=>by rw[P,Bool.and_eq_true] at h;exact h.1,fun ES=> ?_⟩
   have h1:su J M i=true:=ES
   rw[h1,Bool.true_and] at P
   have Wq:0≤(nth M.O i).af∧(nth M.O i).af≤((nth M.O i).ac.length:Int):=by
    unfold su at h1
    simp only[Bool.not_eq_true',Bool.or_eq_false_iff,bne_eq_false_iff_eq,decide_eq_false_iff_not] at h1
    omega
   unfold LX
   refine⟨⟨fun be ak=>uz (tU M i) (by unfold tU;rw[be,ak];rfl) fun h=>by rw[P,Bool.and_eq_true] at h;exact h.1,
    fun be=>⟨Wq,fun ak=>uz (tU M i) (by unfold tU;rw[be,ak];rfl) fun h=>by rw[P,Bool.and_eq_true] at h;exact h.1⟩⟩,fun kh=> ?_⟩
   have h2:tU M i=true:=kh
   rw[h2,Bool.true_and] at P
   unfold LW
   refine⟨⟨fun be ak=>uz (tV J M i) (by unfold tV;rw[be,ak];rfl) fun h=>by rw[P,Bool.and_eq_true] at h;exact h.1,
    fun be ak=>uz (tV J M i) (by unfold tV;rw[be,ak];rfl) fun h=>by rw[P,Bool.and_eq_true] at h;exact h.1⟩,fun WZ=> ?_⟩
   have aN:tV J M i=true:=WZ
   rw[aN,Bool.true_and] at P
   unfold LV
   refine⟨⟨fun be ak=>uz (tW M i) (by unfold tW;rw[be,ak];rfl) fun h=>by rw[P] at h;exact h,
    fun be hc ak=>uz (tW M i) (by unfold tW;rw[be,hc,ak];rfl) fun h=>by rw[P] at h;exact h⟩,fun W0=> ?_⟩
   have be:tW M i=true:=W0
   rw[be] at P
   refine⟨c7 b9.1,fun k hK=>⟨fun hk=> ?_,fun hk=> ?_⟩⟩
   ·have:=cI (cv hm) c1.2 hi (show(!(g9 J M i) || xd J M i.toNat i)=false by
     rw[P]
     exact List.any_eq_false.2 fun k jy=>by rw[gH hK hk k (by omega) (by have:=List.mem_range.1 jy;omega)];simp)
    exact⟨⟨kW,this.1⟩,this.2⟩
   ·have afk:k<i:=by simpa using hk
    have rC:=hK.1
    have hC:=dV.len
    have eL:=dV.row i b9.1 (by omega)
    have hc:(((nth M.O i).ar !=0)&&(((nth M.O k).ar !=0)&&(nth (nth J.bU i) k)))=jc J M i k:=by
     unfold jc kR
     rw[show(i !=k)=true by simpa using(show i≠k by omega)]
     cases((nth M.O i).ar !=0)<;>cases((nth M.O k).ar !=0)<;>cases(nth (nth J.bU i) k)<;>rfl
    unfold LU
    rw[hc]
    refine⟨⟨fun _=>⟨⟨rC,by omega⟩,fun _=>⟨⟨b9.1,by omega⟩,rC,by omega⟩⟩,fun ak=>no _ D fun bi=> ?_⟩,fun ak=>cI (by omega) hK hk (not_eq ak)⟩
    have:=bi.2.2.2.1 i k b9.1 (by omega) rC (by omega)
    rw[this] at ak;cases ak
 ·unfold LZ
  rw[aas]
  refine⟨⟨ca aZ hv,fun hb=>no _ D fun bi=> ?_⟩,fun hb=>cI (cv aH) aZ hv (not_eq hb)⟩
  have:=bi.2.1 _ (du (ca aZ hv).2)
  rw[this] at hb;cases hb)
def XH:eg Try.prog:=⟨43,[.df,.frame],[.bool],some fun x=>x5 x.1 x.2.1,fun x=>((eV x.1 x.2.1),()),fun x h=>XG x.1 x.2.1 h⟩
def Mz (J:Int) (M:Int) (an:Bool):Prop:=
 ((decide (J ≥ 0))&&(decide (J<M)))=an
theorem Yr (J:Int) (M:Int):bZ Try.prog 107 [ag J,ag M] (al (py J M)):=(fun(h:Mz J M (py J M))=>bZ.run (ps:=[.int,.int]) (rs:=[.bool]) (x:=(J,M,())) (r:=((py J M),())) ⟨12,ec,[]⟩ ⟨[],[],[],[],[]⟩ .nil Try.func107 h) (by
 unfold Mz py
 rfl)
def Ys:eg Try.prog:=⟨107,[.int,.int],[.bool],none,fun x=>((py x.1 x.2.1),()),fun x h=>Yr x.1 x.2.1⟩
def Qx (ay:Int→Prop) (aB:Int→Nat) (J:aA) (M:Frame) (U cZ:Int) (an:Bool) (bG:Int):Prop:=
  ((0≤bG∧bG.toNat<(nth J.O U).ah.length)∧((((nth (nth J.O U).ah bG)==cZ)=true→0≤U∧U.toNat<M.O.length)∧((((nth (nth J.O U).ah bG)==cZ)&&(decide (bG ≥ (nth M.O U).af)))=true→true=an)))∧((!(((nth (nth J.O U).ah bG)==cZ)&&(decide (bG ≥ (nth M.O U).af))))=true→ay (IntKind.i64.wrap (bG+1))∧aB (IntKind.i64.wrap (bG+1))<aB bG)
def Qy (ay:Int→Prop) (aB:Int→Nat) (J:aA) (M:Frame) (U cZ:Int) (an:Bool):Prop:=
  ((0≤U∧U.toNat<M.O.length)∧(((nth M.O U).ar==0)=true→false=an))∧((!((nth M.O U).ar==0))=true→(0≤U∧U.toNat<J.O.length)∧((nth J.O U).ah.length≤4611686018427387904→ay 0∧ ∀(bG:Int),ay bG→(((decide (bG<((nth J.O U).ah.length:Int)))=false→false=an)∧((decide (bG<((nth J.O U).ah.length:Int)))=true→Qx ay aB J M U cZ an bG))))
def Qw (J:aA) (M:Frame) (U:Int) (cZ:Int) (an:Bool) (ay:Int→Prop) (aB:Int→Nat):Prop:=
 Qy ay aB J M U cZ an
theorem adf (J:aA) (M:Frame) (U:Int) (cZ:Int) (aI:wj J M U cZ):bZ Try.prog 111 [.agg (bg false J),.agg (bW false M),ag U,ag cZ] (al (jg J M U cZ)):=(fun(ay:Int→Prop) (aB:Int→Nat) (h:Qw J M U cZ (jg J M U cZ) ay aB)=>bZ.run (ps:=[.df,.frame,.int,.int]) (rs:=[.bool]) (x:=(J,M,U,cZ,())) (r:=((jg J M U cZ),())) ⟨44,ec,[]⟩ ⟨[],[],[],[],[]⟩ (eP [2,3,5,23,24] [(5,4)] 25 ay aB fun _=> .nil) Try.func111 h) (cr (nth J.O U).ah.length (fun k=>((nth (nth J.O U).ah k)==cZ)&&(decide (k ≥ (nth M.O U).af)))) (cA (nth J.O U).ah.length) (by
 unfold Qw Qy
 obtain⟨hf,aT,h1⟩:=aI
 have hw:=hf.fr.O
 have bf:U.toNat<J.O.length:=by omega
 have qk:U.toNat<M.O.length:=by omega
 have hg:=hf.fr.af _ (du qk)
 refine⟨⟨⟨aT,qk⟩,fun h=> ?_⟩,fun h=>⟨⟨aT,bf⟩,fun aH=>⟨c7 (dh _),fun v aZ=>⟨fun hv=> ?_,fun hv=> ?_⟩⟩⟩⟩
 ·unfold jg
  rw[show((nth M.O U).ar !=0)=false by simpa using h];rfl
 ·have hs:((nth M.O U).ar !=0)=true:=by simpa using h
  unfold jg
  rw[hs,Bool.true_and,eq_comm,←Bool.not_eq_true,An]
  rintro⟨k,hk,aL,he⟩
  have:=gH aZ hv k (by omega) (by omega)
  rw[iT aL,he] at this
  simp at this
  omega
 ·have hs:((nth M.O U).ar !=0)=true:=by simpa using h
  have b9:=ca aZ hv
  unfold Qx
  refine⟨⟨b9,fun _=>⟨aT,qk⟩,fun hb=> ?_⟩,fun hb=>cI (cv aH) aZ hv (not_eq hb)⟩
  unfold jg
  rw[hs,Bool.true_and,eq_comm,An]
  simp only[Bool.and_eq_true,beq_iff_eq,decide_eq_true_eq] at hb
  exact⟨v.toNat,by omega,b9.2,by rw[←gE b9.2];exact hb.1⟩)
def adg:eg Try.prog:=⟨111,[.df,.frame,.int,.int],[.bool],some fun x=>wj x.1 x.2.1 x.2.2.1 x.2.2.2.1,fun x=>((jg x.1 x.2.1 x.2.2.1 x.2.2.2.1),()),fun x h=>adf x.1 x.2.1 x.2.2.1 x.2.2.2.1 h⟩
def My (J:aA) (M:Frame) (U:Int) (cZ:Int) (an:Bool):Prop:=
 (0≤U∧U.toNat<J.O.length)∧(((0≤U∧U.toNat<M.O.length)∧(((nth M.O U).ar !=0)=true→0≤U∧U.toNat<M.O.length))∧((((nth M.O U).ar !=0)&&((decide ((nm (nth J.O U).ah cZ) ≥ (nth M.O U).af))&&(decide ((nm (nth J.O U).ah cZ) ≥ 0))))=an))
theorem Yh (J:aA) (M:Frame) (U:Int) (cZ:Int) (aI:wj J M U cZ):bZ Try.prog 152 [.agg (bg false J),.agg (bW false M),ag U,ag cZ] (al (jg J M U cZ)):=(fun(h:My J M U cZ (jg J M U cZ))=>bZ.run (ps:=[.df,.frame,.int,.int]) (rs:=[.bool]) (x:=(J,M,U,cZ,())) (r:=((jg J M U cZ),())) ⟨39,ec,[PH]⟩ ⟨[],[],[],[],[]⟩ .nil Try.func152 h) (by
 unfold My
 obtain⟨hf,aT,h1⟩:=aI
 have hw:=hf.fr.O
 have bf:U.toNat<J.O.length:=by omega
 have qk:U.toNat<M.O.length:=by omega
 have hg:=hf.fr.af _ (du qk)
 refine⟨⟨aT,bf⟩,⟨⟨aT,qk⟩,fun _=>⟨aT,qk⟩⟩,?_⟩
 unfold jg
 rw[has_eq (abd hf.nT (du bf)) hg.1])
def Yi:eg Try.prog:=⟨152,[.df,.frame,.int,.int],[.bool],some fun x=>wj x.1 x.2.1 x.2.2.1 x.2.2.2.1,fun x=>((jg x.1 x.2.1 x.2.2.1 x.2.2.2.1),()),fun x h=>Yh x.1 x.2.1 x.2.2.1 x.2.2.2.1 h⟩
def L_ (J:aA) (M:Frame) (U:Int) (an:Bool):Prop:=
 ((x5 J M)∧((eV J M)=true→J.O.length≤4611686018427387904→(py U (J.O.length:Int))=true→sV J M U))∧(((eV J M)&&((py U (J.O.length:Int))&&(fi J M U)))=an)
theorem XO (J:aA) (M:Frame) (U:Int) (aI:Ea J M U):bZ Try.prog 45 [.agg (bg false J),.agg (bW false M),ag U] (al (tq J M U)):=(fun(h:L_ J M U (tq J M U))=>bZ.run (ps:=[.df,.frame,.int]) (rs:=[.bool]) (x:=(J,M,U,())) (r:=((tq J M U),())) ⟨23,ec,[XH,Ys,YA]⟩ ⟨[],[],[],[],[]⟩ .nil Try.func45 h) (by
 unfold L_
 refine⟨⟨aI,fun h _ hi=> ?_⟩,rfl⟩
 have hi:=Y4.1 hi
 exact⟨(rq h).in,(rq h).fr,hi.1,hi.2⟩)
def XP:eg Try.prog:=⟨45,[.df,.frame,.int],[.bool],some fun x=>Ea x.1 x.2.1 x.2.2.1,fun x=>((tq x.1 x.2.1 x.2.2.1),()),fun x h=>XO x.1 x.2.1 x.2.2.1 h⟩
def Yl (J:ct) (M:Int) (an:Bool):Prop:=
 (J.sw==M)=an
theorem Ym (J:ct) (M:Int):bZ Try.prog 166 [.agg (dd J),.dr [ag M] 0] (al (us J M)):=(fun(h:Yl J M (us J M))=>bZ.run (ps:=[.bn,(.ptr .int)]) (rs:=[.bool]) (x:=(J,M,())) (r:=((us J M),())) ⟨8,ec,[]⟩ ⟨[],[],[],[],[]⟩ .nil Try.func166 h) (by
 exact rfl)
def Yn:eg Try.prog:=⟨166,[.bn,(.ptr .int)],[.bool],none,fun x=>((us x.1 x.2.1),()),fun x h=>Ym x.1 x.2.1⟩
def PD (J:(List ct)) (M:Int) (an:Int) (ay:Int→Prop) (aB:Int→Nat):Prop:=
 J.length≤4611686018427387904→ay 0∧ ∀(cT:Int),ay cT→(((decide (cT<(J.length:Int)))=false→(-1)=an)∧((decide (cT<(J.length:Int)))=true→((0≤cT∧cT.toNat<J.length)∧((us (nth J cT) M)=true→cT=an))∧((!(us (nth J cT) M))=true→ay (IntKind.i64.wrap (cT+1))∧aB (IntKind.i64.wrap (cT+1))<aB cT)))
theorem abT (J:(List ct)) (M:Int):bZ Try.prog 170 [bK dd J,.fn 166 [.dr [ag M] 0]] (ag (rL J M)):=(fun(ay:Int→Prop) (aB:Int→Nat) (h:PD J M (rL J M) ay aB)=>bZ.run (ps:=[(.l .bn),(.ib 166 (.ptr .int))]) (rs:=[.int]) (x:=(J,M,())) (r:=((rL J M),())) ⟨19,ec,[Yn]⟩ ⟨[],[],[],[],[]⟩ (eP [0,1,7] [] 8 ay aB fun _=> .nil) Try.func170 h) (cr J.length (fun j=>us (nth J j) M)) (cA J.length) (by
 unfold PD
 intro aH
 refine⟨c7 (dh _),fun v aZ=>⟨fun hv=> ?_,fun hv=>⟨⟨ca aZ hv,fun aI=> ?_⟩,fun aI=>cI (cv aH) aZ hv (not_eq aI)⟩⟩⟩
 ·unfold rL;rw[pS (q:=fun x:ct=>x.sw==M) aZ hv];rfl
 ·unfold rL;rw[pR (q:=fun x:ct=>x.sw==M) aZ hv aI]
  have:=aZ.1
  show v=(v.toNat:Int)
  omega)
def abU:eg Try.prog:=⟨170,[(.l .bn),(.ib 166 (.ptr .int))],[.int],none,fun x=>((rL x.1 x.2.1),()),fun x h=>abT x.1 x.2.1⟩
def abE (J:(List ct)) (M:Int) (an:Bool):Prop:=
 (decide ((rL J M) ≥ 0))=an
theorem abF (J:(List ct)) (M:Int):bZ Try.prog 165 [bK dd J,.fn 166 [.dr [ag M] 0]] (al (kG J M)):=(fun(h:abE J M (kG J M))=>bZ.run (ps:=[(.l .bn),(.ib 166 (.ptr .int))]) (rs:=[.bool]) (x:=(J,M,())) (r:=((kG J M),())) ⟨9,ec,[abU]⟩ ⟨[],[],[],[],[]⟩ .nil Try.func165 h) (by
 exact Xw J M)
def abG:eg Try.prog:=⟨165,[(.l .bn),(.ib 166 (.ptr .int))],[.bool],none,fun x=>((kG x.1 x.2.1),()),fun x h=>abF x.1 x.2.1⟩
def Yo (J:(List ct)) (M:Int) (an:Bool):Prop:=
 (kG J M)=an
theorem Yp (J:(List ct)) (M:Int):bZ Try.prog 153 [bK dd J,ag M] (al (kG J M)):=(fun(h:Yo J M (kG J M))=>bZ.run (ps:=[(.l .bn),.int]) (rs:=[.bool]) (x:=(J,M,())) (r:=((kG J M),())) ⟨8,ec,[abG]⟩ ⟨[],[],[],[],[]⟩ .nil Try.func153 h) (by
 exact rfl)
def Yq:eg Try.prog:=⟨153,[(.l .bn),.int],[.bool],none,fun x=>((kG x.1 x.2.1),()),fun x h=>Yp x.1 x.2.1⟩
def Yy:List Item:=[aq 0,aq 1,aq 2,aq 3,aq 4,aq 5,aq 6,aq 7,aq 8,aq 9,aq 10,aq 11,aq 12,aq 13,aq 14,aq 15,aq 16,aq 17,aq 18,aq 19,aq 20]
def Yz:List (List Nat):=[[],[0],[],[0,1,2],rg 0 4,rg 0 5,rg 0 6,rg 0 5,rg 0 8,rg 0 9,rg 0 10,rg 0 10,rg 0 10,rg 0 10,rg 0 10++[13],rg 0 10,rg 0 10++[13,14,15],rg 0 10++rg 13 17,rg 0 18,rg 0 19,rg 0 20]
abbrev j1 (r:Type):Type:=Nat→(List Int)→Int→r
def ME (ay:j1 Prop) (aB:j1 Nat) (J:aA) (M:Frame) (U:Int) (bx:Nat) (a8:(List Int)) (b7:Int):Prop:=
  (((kG (nth J.O b7).bA U) || ((kG (nth J.O b7).a2 U)&&(jg J M b7 (nth J.bd U))))=true→((a8.length+[b7].length)*8≤140737488355328∧a8.length+[b7].length≤4611686018427387904)∧(ay (bx+1) (a8++[b7]) (IntKind.i64.wrap (b7+1))∧aB (bx+1) (a8++[b7]) (IntKind.i64.wrap (b7+1))<aB bx a8 b7))∧(((kG (nth J.O b7).bA U) || ((kG (nth J.O b7).a2 U)&&(jg J M b7 (nth J.bd U))))=false→ay bx a8 (IntKind.i64.wrap (b7+1))∧aB bx a8 (IntKind.i64.wrap (b7+1))<aB bx a8 b7)
def MF (ay:j1 Prop) (aB:j1 Nat) (J:aA) (M:Frame) (U:Int) (bx:Nat) (a8:(List Int)) (b7:Int):Prop:=
  ((0≤b7∧b7.toNat<M.O.length)∧(((nth M.O b7).ar==0)=true→ay bx a8 (IntKind.i64.wrap (b7+1))∧aB bx a8 (IntKind.i64.wrap (b7+1))<aB bx a8 b7))∧((!((nth M.O b7).ar==0))=true→((kG (nth J.O b7).bA U)=false→(kG (nth J.O b7).a2 U)=true→(0≤U∧U.toNat<J.bd.length)∧(wj J M b7 (nth J.bd U)))∧(ME ay aB J M U bx a8 b7))
def MD (J:aA) (M:Frame) (U:Int) (an:(List Int)) (ay:j1 Prop) (aB:j1 Nat):Prop:=
 J.O.length≤4611686018427387904→ay 0 ([]:List Int) 0∧ ∀(bx:Nat) (a8:(List Int)) (b7:Int),ay bx a8 b7→(((decide (b7<(J.O.length:Int)))=false→a8.length≤4611686018427387904∧a8=an)∧((decide (b7<(J.O.length:Int)))=true→(0≤b7∧b7.toNat<J.O.length)∧(MF ay aB J M U bx a8 b7)))
theorem MG (J:aA) (M:Frame) (U:Int) (aI:sT J M U):bZ Try.prog 113 [.agg (bg false J),.agg (bW false M),ag U] (hh c0 (gr J M U)):=(fun(ay:j1 Prop) (aB:j1 Nat) (h:MD J M U (gr J M U) ay aB)=>bZ.run (ps:=[.df,.frame,.int]) (rs:=[(.l .int)]) (x:=(J,M,U,())) (r:=((gr J M U),())) ⟨52,ec,[Yq,Yi]⟩ ⟨[],[(6,Yy,Yz)],[],[],[]⟩ (.lp [(0,7,.int)] [2,3,4,11,12] [(4,4),(3,5)] [.nat,(.l .int),.int] [bD 0,bD 0,13] (fun aW=>[(7,.ref 0 aW.1 aW.2.1.length false),(13,.i .i64 aW.2.2.1),(bD 0,.blk aW.1 .int aW.2.1 _ rfl)]) (fun aW=>ay aW.1 aW.2.1 aW.2.2.1) (fun aW=>aB aW.1 aW.2.1 aW.2.2.1) fun _=> .nil) Try.func113 h) (fun _ x v=>cr J.O.length (fun _=>false) v∧x=dY (fun i=>mC J M i U) v) (fun _ _ v=>cA J.O.length v) (by
 unfold MD
 obtain⟨hf,aT,h1⟩:=aI
 have hw:=hf.fr.O
 have yx:=hf.in.O
 have sB:=hf.in.bd
 intro aH
 refine⟨⟨c7 (dh _),rfl⟩,fun g x v aZ=> ?_⟩
 obtain⟨aZ,rfl⟩:=aZ
 have hO:=aZ.1
 have hlen:=so (fun i=>mC J M i U) v
 have ww:=aZ.2.1
 refine⟨fun hv=>⟨by omega,?_⟩,fun hv=>⟨ca aZ hv,?_⟩⟩
 ·have: ¬v<(J.O.length:Int):=by simpa using hv
  rw[show v=(J.O.length:Int) by omega];rfl
 have b9:=ca aZ hv
 have bm:=cI (cv aH) aZ hv rfl
 have qo:IntKind.i64.wrap (v+1)=v+1:=jL (cv aH) hO (by simpa using hv)
 have q8:mC J M v U=true→(cr J.O.length (fun _=>false) (IntKind.i64.wrap (v+1))∧dY (fun i=>mC J M i U) v++[v]=dY (fun i=>mC J M i U) (IntKind.i64.wrap (v+1))):=fun h=>⟨bm.1,by rw[qo,x2 hO,if_pos h]⟩
 have no:mC J M v U=false→(cr J.O.length (fun _=>false) (IntKind.i64.wrap (v+1))∧dY (fun i=>mC J M i U) v=dY (fun i=>mC J M i U) (IntKind.i64.wrap (v+1))):=fun h=>⟨bm.1,by rw[qo,x2 hO,if_neg (by rw[h];simp)]⟩
 unfold MF ME
 refine⟨⟨⟨hO,by omega⟩,fun aP=>⟨no ?_,bm.2⟩⟩,fun aP=>⟨fun _ _=>⟨⟨aT,by omega⟩,hf,hO,by omega⟩,⟨fun ak=>⟨⟨?_,?_⟩,q8 ?_,bm.2⟩,fun ak=>⟨no ?_,bm.2⟩⟩⟩⟩
 ·unfold mC
  rw[show((nth M.O v).ar !=0)=false by simpa using aP];rfl
 ·simp only[List.length_singleton];omega
 ·simp only[List.length_singleton];omega
 ·unfold mC
  rw[show((nth M.O v).ar !=0)=true by simpa using aP];exact ak
 ·unfold mC
  rw[show((nth M.O v).ar !=0)=true by simpa using aP];exact ak)
def Yx:eg Try.prog:=⟨113,[.df,.frame,.int],[(.l .int)],some fun x=>sT x.1 x.2.1 x.2.2.1,fun x=>((gr x.1 x.2.1 x.2.2.1),()),fun x h=>MG x.1 x.2.1 x.2.2.1 h⟩
def adq:List Item:=[aq 0,aq 1,aq 2,aq 3,aq 4,aq 5,aq 6,aq 7,aq 8,aq 9,aq 10,aq 11,aq 12,aq 13,aq 14]
def adr:List (List Nat):=[[],[0],[],[0,1,2],rg 0 4,rg 0 5,rg 0 5,rg 0 5,rg 0 5,rg 0 5++[8],rg 0 5,rg 0 5++[8,9,10],rg 0 5++rg 8 12,rg 0 13,rg 0 14]
def QR (aS:Int→Int→Prop) (aU:Int→Int→Nat) (J:aA) (M:Frame) (U cZ an dj ef:Int):Prop:=
  ((0≤ef∧ef.toNat<(nth J.O U).a2.length)∧((((nth (nth J.O U).a2 ef).sw==cZ)=true→(0≤cZ∧cZ.toNat<J.bd.length)∧(wj J M U (nth J.bd cZ)))∧((((nth (nth J.O U).a2 ef).sw==cZ)&&(jg J M U (nth J.bd cZ)))=true→(nth (nth J.O U).a2 ef).bn=an)))∧((!(((nth (nth J.O U).a2 ef).sw==cZ)&&(jg J M U (nth J.bd cZ))))=true→aS dj (IntKind.i64.wrap (ef+1))∧aU dj (IntKind.i64.wrap (ef+1))<aU dj ef)
def QS (ay:Int→Prop) (aB:Int→Nat) (aS:Int→Int→Prop) (aU:Int→Int→Nat) (J:aA) (M:Frame) (U cZ an dj:Int):Prop:=
  ((decide (dj<((nth J.O U).bA.length:Int)))=false→(0≤U∧U.toNat<J.O.length)∧((nth J.O U).a2.length≤4611686018427387904→aS dj 0∧ ∀(ef:Int),aS dj ef→(((decide (ef<((nth J.O U).a2.length:Int)))=false→0=an)∧((decide (ef<((nth J.O U).a2.length:Int)))=true→QR aS aU J M U cZ an dj ef))))∧((decide (dj<((nth J.O U).bA.length:Int)))=true→((0≤dj∧dj.toNat<(nth J.O U).bA.length)∧(((nth (nth J.O U).bA dj).sw==cZ)=true→(nth (nth J.O U).bA dj).bn=an))∧((!((nth (nth J.O U).bA dj).sw==cZ))=true→ay (IntKind.i64.wrap (dj+1))∧aB (IntKind.i64.wrap (dj+1))<aB dj))
def QQ (J:aA) (M:Frame) (U:Int) (cZ:Int) (an:Int) (ay:Int→Prop) (aB:Int→Nat) (aS:Int→Int→Prop) (aU:Int→Int→Nat):Prop:=
 ((0≤U∧U.toNat<M.O.length)∧(((nth M.O U).ar==0)=true→0=an))∧((!((nth M.O U).ar==0))=true→(0≤U∧U.toNat<J.O.length)∧((nth J.O U).bA.length≤4611686018427387904→ay 0∧ ∀(dj:Int),ay dj→(QS ay aB aS aU J M U cZ an dj)))
theorem ado (J:aA) (M:Frame) (U:Int) (cZ:Int) (aI:IX J M U cZ):bZ Try.prog 155 [.agg (bg false J),.agg (bW false M),ag U,ag cZ] (ag (o1 J M U cZ)):=(fun(ay:Int→Prop) (aB:Int→Nat) (aS:Int→Int→Prop) (aU:Int→Int→Nat) (h:QQ J M U cZ (o1 J M U cZ) ay aB aS aU)=>bZ.run (ps:=[.df,.frame,.int,.int]) (rs:=[.int]) (x:=(J,M,U,cZ,())) (r:=((o1 J M U cZ),())) ⟨67,ec,[adg]⟩ ⟨[],[(12,adq,adr)],[],[],[]⟩ (eP [2,3,4,5,25,26] [(5,4),(4,5)] 27 ay aB fun aW=>(eP [2,3,4,5,43,44] [(5,4),(4,5)] 45 (aS aW) (aU aW) fun _=> .nil)) Try.func155 h) (cr (nth J.O U).bA.length (fun j=>(nth (nth J.O U).bA j).sw==cZ)) (cA (nth J.O U).bA.length) (fun _=>cr (nth J.O U).a2.length (fun j=>(nth (nth J.O U).a2 j).sw==cZ&&jg J M U (nth J.bd cZ))) (fun _=>cA (nth J.O U).a2.length) (by
 unfold QQ
 obtain⟨hf,aT,h1,h2,aN⟩:=aI
 have hw:=hf.fr.O
 refine⟨⟨⟨aT,by omega⟩,fun aP=> ?_⟩,fun aP=>⟨⟨aT,by omega⟩,fun aH=>⟨c7 (dh _),fun v aZ=> ?_⟩⟩⟩
 ·unfold o1;rw[if_pos (by simpa using aP)]
 have aP: ¬(nth M.O U).ar=0:=by simpa using aP
 unfold QS
 refine⟨fun hv=>⟨⟨aT,by omega⟩,fun hm=>⟨c7 (dh _),fun k hK=> ?_⟩⟩,fun hv=>⟨⟨ca aZ hv,fun hb=> ?_⟩,fun hb=>cI (cv aH) aZ hv (not_eq hb)⟩⟩
 ·have bB:=pS (q:=fun x:ct=>x.sw==cZ) aZ hv
  unfold QR
  refine⟨fun hk=> ?_,fun hk=>⟨⟨ca hK hk,fun _=>⟨⟨h2,by omega⟩,hf,aT,h1⟩,fun hb=> ?_⟩,fun hb=>cI (cv hm) hK hk (not_eq hb)⟩⟩
  ·unfold o1
   rw[if_neg aP,bB]
   simp only
   rw[pS (q:=fun x:ct=>x.sw==cZ&&jg J M U (nth J.bd cZ)) hK hk]
  ·unfold o1
   rw[if_neg aP,bB]
   simp only
   rw[pR (q:=fun x:ct=>x.sw==cZ&&jg J M U (nth J.bd cZ)) hK hk hb]
   simp only[jD hK.1]
 ·unfold o1
  rw[if_neg aP,pR (q:=fun x:ct=>x.sw==cZ) aZ hv hb]
  simp only[jD aZ.1])
def adp:eg Try.prog:=⟨155,[.df,.frame,.int,.int],[.int],some fun x=>IX x.1 x.2.1 x.2.2.1 x.2.2.2.1,fun x=>((o1 x.1 x.2.1 x.2.2.1 x.2.2.2.1),()),fun x h=>ado x.1 x.2.1 x.2.2.1 x.2.2.2.1 h⟩
def QA (ay:j1 Prop) (aB:j1 Nat) (J:aA) (M:Frame) (U:Int) (bx:Nat) (a8:(List Int)) (ad:Int):Prop:=
  ((decide ((o1 J M ad U)>0))=true→((a8.length+[ad].length)*8≤140737488355328∧a8.length+[ad].length≤4611686018427387904)∧(ay (bx+1) (a8++[ad]) (IntKind.i64.wrap (ad+1))∧aB (bx+1) (a8++[ad]) (IntKind.i64.wrap (ad+1))<aB bx a8 ad))∧((decide ((o1 J M ad U)>0))=false→ay bx a8 (IntKind.i64.wrap (ad+1))∧aB bx a8 (IntKind.i64.wrap (ad+1))<aB bx a8 ad)
def Qz (J:aA) (M:Frame) (U:Int) (an:(List Int)) (ay:j1 Prop) (aB:j1 Nat):Prop:=
 J.O.length≤4611686018427387904→ay 0 ([]:List Int) 0∧ ∀(bx:Nat) (a8:(List Int)) (ad:Int),ay bx a8 ad→(((decide (ad<(J.O.length:Int)))=false→a8.length≤4611686018427387904∧a8=an)∧((decide (ad<(J.O.length:Int)))=true→(IX J M ad U)∧(QA ay aB J M U bx a8 ad)))
theorem QB (J:aA) (M:Frame) (U:Int) (aI:sT J M U):bZ Try.prog 117 [.agg (bg false J),.agg (bW false M),ag U] (hh c0 (gr J M U)):=(fun(ay:j1 Prop) (aB:j1 Nat) (h:Qz J M U (gr J M U) ay aB)=>bZ.run (ps:=[.df,.frame,.int]) (rs:=[(.l .int)]) (x:=(J,M,U,())) (r:=((gr J M U),())) ⟨27,ec,[adp]⟩ ⟨[],[],[],[],[]⟩ (.lp [(0,7,.int)] [2,3,4,11] [(4,4),(3,5)] [.nat,(.l .int),.int] [bD 0,bD 0,12] (fun aW=>[(7,.ref 0 aW.1 aW.2.1.length false),(12,.i .i64 aW.2.2.1),(bD 0,.blk aW.1 .int aW.2.1 _ rfl)]) (fun aW=>ay aW.1 aW.2.1 aW.2.2.1) (fun aW=>aB aW.1 aW.2.1 aW.2.2.1) fun _=> .nil) Try.func117 h) (fun _ x v=>cr J.O.length (fun _=>false) v∧x=dY (fun i=>mC J M i U) v) (fun _ _ v=>cA J.O.length v) (by
 unfold Qz
 obtain⟨hf,aT,h1⟩:=aI
 have yx:=hf.in.O
 intro aH
 refine⟨⟨c7 (dh _),rfl⟩,fun g x v aZ=> ?_⟩
 obtain⟨aZ,rfl⟩:=aZ
 have hO:=aZ.1
 have hlen:=so (fun i=>mC J M i U) v
 have ww:=aZ.2.1
 refine⟨fun hv=>⟨by omega,?_⟩,fun hv=>⟨⟨hf,hO,by have:=ca aZ hv;omega,aT,h1⟩,?_⟩⟩
 ·have: ¬v<(J.O.length:Int):=by simpa using hv
  rw[show v=(J.O.length:Int) by omega];rfl
 have bm:=cI (cv aH) aZ hv rfl
 have qo:IntKind.i64.wrap (v+1)=v+1:=jL (cv aH) hO (by simpa using hv)
 unfold QA
 rw[aey hf.nT (ca aZ hv).2]
 refine⟨fun ak=>⟨⟨?_,?_⟩,⟨bm.1,by rw[qo,x2 hO,if_pos ak]⟩,bm.2⟩,fun ak=>⟨⟨bm.1,by rw[qo,x2 hO,if_neg (by rw[ak];simp)]⟩,bm.2⟩⟩
 ·simp only[List.length_singleton];omega
 ·simp only[List.length_singleton];omega)
def adh:eg Try.prog:=⟨117,[.df,.frame,.int],[(.l .int)],some fun x=>sT x.1 x.2.1 x.2.2.1,fun x=>((gr x.1 x.2.1 x.2.2.1),()),fun x h=>QB x.1 x.2.1 x.2.2.1 h⟩
def XU:List Item:=[aq 0,aq 1,aq 2,aq 3,aq 4,aq 5,aq 6,aq 7,aq 8,aq 9,aq 10,aq 11,aq 12,aq 13,aq 14]
def XV:List (List Nat):=[[],[0],[],[0,1,2],rg 0 4,rg 0 5,rg 0 6,rg 0 5,rg 0 8,rg 0 9,rg 0 10,rg 0 5,rg 0 5++[11],rg 0 13,rg 0 14]
def XW:List Item:=[aq 0,aq 1,aq 2,aq 3,aq 4,aq 5,aq 6,aq 7,aq 8,aq 9]
def XX:List (List Nat):=[[],[0],[],[2],[],[2,3,4],rg 2 6,rg 0 7,rg 0 8,rg 0 9]
abbrev ms (r:Type):Type:=Nat→(List Int)→Int→Nat→(List Int)→Int→Nat→(List Int)→Int→Bool→Bool→Nat→(List Int)→Int→Bool→Bool→r
def Mg (cd:ms Prop) (cc:ms Nat) (J:aA) (M:Frame) (bx:Nat) (a8:(List Int)) (dv:Int) (aQ:Nat) (aG:(List Int)) (b4:Int) (a1:Nat) (bq:(List Int)) (iY:Int) (fb cT:Bool) (eB:Int) (kT:Nat) (eH:(List Int)) (lE lF:Bool):Prop:=
  (((decide (((gr J M eB).length:Int)>0)) || (nth M.aw (nth J.bd eB)))=true→((eH.length+[eB].length)*8≤140737488355328∧eH.length+[eB].length≤4611686018427387904)∧(cd bx a8 dv aQ aG b4 a1 bq eB fb cT (kT+1) (eH++[eB]) (IntKind.i64.wrap (iY+1)) (lE || (decide (((gr J M eB).length:Int)>0))) (lF || (nth M.aw (nth J.bd eB)))∧cc bx a8 dv aQ aG b4 a1 bq eB fb cT (kT+1) (eH++[eB]) (IntKind.i64.wrap (iY+1)) (lE || (decide (((gr J M eB).length:Int)>0))) (lF || (nth M.aw (nth J.bd eB)))<cc bx a8 dv aQ aG b4 a1 bq eB fb cT kT eH iY lE lF))∧(((decide (((gr J M eB).length:Int)>0)) || (nth M.aw (nth J.bd eB)))=false→cd bx a8 dv aQ aG b4 a1 bq eB fb cT kT eH (IntKind.i64.wrap (iY+1)) (lE || (decide (((gr J M eB).length:Int)>0))) (lF || (nth M.aw (nth J.bd eB)))∧cc bx a8 dv aQ aG b4 a1 bq eB fb cT kT eH (IntKind.i64.wrap (iY+1)) (lE || (decide (((gr J M eB).length:Int)>0))) (lF || (nth M.aw (nth J.bd eB)))<cc bx a8 dv aQ aG b4 a1 bq eB fb cT kT eH iY lE lF)
def Mh (cd:ms Prop) (cc:ms Nat) (J:aA) (M:Frame) (U:Int) (bx:Nat) (a8:(List Int)) (dv:Int) (aQ:Nat) (aG:(List Int)) (b4:Int) (a1:Nat) (bq:(List Int)) (iY:Int) (fb cT:Bool) (eB:Int) (kT:Nat) (eH:(List Int)) (lE lF:Bool):Prop:=
  ((((nth (bz (nth J.O U)) iY).sw !=eB)=false→0≤eB∧eB.toNat<M.au.length)∧((((nth (bz (nth J.O U)) iY).sw !=eB) || ((nth M.au eB).cy==(nth (bz (nth J.O U)) iY).bn))=true→cd bx a8 dv aQ aG b4 a1 bq eB fb cT kT eH (IntKind.i64.wrap (iY+1)) lE lF∧cc bx a8 dv aQ aG b4 a1 bq eB fb cT kT eH (IntKind.i64.wrap (iY+1)) lE lF<cc bx a8 dv aQ aG b4 a1 bq eB fb cT kT eH iY lE lF))∧((!(((nth (bz (nth J.O U)) iY).sw !=eB) || ((nth M.au eB).cy==(nth (bz (nth J.O U)) iY).bn)))=true→(sT J M eB)∧((gr J M eB).length≤4611686018427387904→((0≤eB∧eB.toNat<J.bd.length)∧(0≤(nth J.bd eB)∧(nth J.bd eB).toNat<M.aw.length))∧(Mg cd cc J M bx a8 dv aQ aG b4 a1 bq iY fb cT eB kT eH lE lF)))
abbrev oW (r:Type):Type:=Nat→(List Int)→Int→Nat→(List Int)→Int→Nat→(List Int)→Int→Bool→Bool→r
def Mi (bw:oW Prop) (bu:oW Nat) (cd:ms Prop) (cc:ms Nat) (J:aA) (M:Frame) (U:Int) (bx:Nat) (a8:(List Int)) (dv:Int) (aQ:Nat) (aG:(List Int)) (b4:Int) (a1:Nat) (bq:(List Int)) (iY:Int) (fb cT:Bool) (eB:Int) (kT:Nat) (eH:(List Int)) (lE lF:Bool):Prop:=
  ((decide (iY<((bz (nth J.O U)).length:Int)))=false→bw bx a8 dv aQ aG b4 kT eH (IntKind.i64.wrap (eB+1)) lE lF∧bu bx a8 dv aQ aG b4 kT eH (IntKind.i64.wrap (eB+1)) lE lF<bu bx a8 dv aQ aG b4 a1 bq eB fb cT)∧((decide (iY<((bz (nth J.O U)).length:Int)))=true→(0≤iY∧iY.toNat<(bz (nth J.O U)).length)∧(Mh cd cc J M U bx a8 dv aQ aG b4 a1 bq iY fb cT eB kT eH lE lF))
def Mj (bw:oW Prop) (bu:oW Nat) (cd:ms Prop) (cc:ms Nat) (J:aA) (M:Frame) (U:Int) (an:nb×Bool×Bool) (bx:Nat) (a8:(List Int)) (dv:Int) (aQ:Nat) (aG:(List Int)) (b4:Int) (a1:Nat) (bq:(List Int)) (fb cT:Bool) (eB:Int):Prop:=
  ((decide (eB<(J.bd.length:Int)))=false→(a8.length≤4611686018427387904∧a8=an.1.O)∧(aG.length≤4611686018427387904∧aG=an.1.ah)∧(bq.length≤4611686018427387904∧bq=an.1.au)∧(fb=an.2.1)∧(cT=an.2.2))∧((decide (eB<(J.bd.length:Int)))=true→(w1 (nth J.O U))∧((bz (nth J.O U)).length≤4611686018427387904→cd bx a8 dv aQ aG b4 a1 bq eB fb cT a1 bq 0 fb cT∧ ∀(kT:Nat) (eH:(List Int)) (iY:Int) (lE:Bool) (lF:Bool),cd bx a8 dv aQ aG b4 a1 bq eB fb cT kT eH iY lE lF→(Mi bw bu cd cc J M U bx a8 dv aQ aG b4 a1 bq iY fb cT eB kT eH lE lF)))
abbrev qY (r:Type):Type:=Nat→(List Int)→Int→Nat→(List Int)→Int→r
def Mk (aS:qY Prop) (aU:qY Nat) (J:aA) (M:Frame) (U:Int) (bx:Nat) (a8:(List Int)) (dv:Int) (aQ:Nat) (aG:(List Int)) (b4:Int):Prop:=
  (((nth M.aw b4)&&((fJ (nth J.O U).ah b4) || (fJ (nth J.O U).cG b4)))=true→((aG.length+[b4].length)*8≤140737488355328∧aG.length+[b4].length≤4611686018427387904)∧(aS bx a8 dv (aQ+1) (aG++[b4]) (IntKind.i64.wrap (b4+1))∧aU bx a8 dv (aQ+1) (aG++[b4]) (IntKind.i64.wrap (b4+1))<aU bx a8 dv aQ aG b4))∧(((nth M.aw b4)&&((fJ (nth J.O U).ah b4) || (fJ (nth J.O U).cG b4)))=false→aS bx a8 dv aQ aG (IntKind.i64.wrap (b4+1))∧aU bx a8 dv aQ aG (IntKind.i64.wrap (b4+1))<aU bx a8 dv aQ aG b4)
def Ml (aS:qY Prop) (aU:qY Nat) (bw:oW Prop) (bu:oW Nat) (cd:ms Prop) (cc:ms Nat) (J:aA) (M:Frame) (U:Int) (an:nb×Bool×Bool) (bx:Nat) (a8:(List Int)) (dv:Int) (aQ:Nat) (aG:(List Int)) (b4:Int):Prop:=
  ((decide (b4<J.ah))=false→J.bd.length≤4611686018427387904→bw bx a8 dv aQ aG b4 0 ([]:List Int) 0 false false∧ ∀(a1:Nat) (bq:(List Int)) (eB:Int) (fb:Bool) (cT:Bool),bw bx a8 dv aQ aG b4 a1 bq eB fb cT→(Mj bw bu cd cc J M U an bx a8 dv aQ aG b4 a1 bq fb cT eB))∧((decide (b4<J.ah))=true→(0≤b4∧b4.toNat<M.aw.length)∧(Mk aS aU J M U bx a8 dv aQ aG b4))
def Mm (ay:j1 Prop) (aB:j1 Nat) (J:aA) (M:Frame) (U:Int) (bx:Nat) (a8:(List Int)) (dv:Int):Prop:=
  (((dv !=U)&&(((nth M.O dv).ar !=0)&&((nth (nth J.bU U) dv) || ((meets (nth J.O U).ah (nth J.O dv).cG) || (meets (nth J.O U).cG (nth J.O dv).ah)))))=true→((a8.length+[dv].length)*8≤140737488355328∧a8.length+[dv].length≤4611686018427387904)∧(ay (bx+1) (a8++[dv]) (IntKind.i64.wrap (dv+1))∧aB (bx+1) (a8++[dv]) (IntKind.i64.wrap (dv+1))<aB bx a8 dv))∧(((dv !=U)&&(((nth M.O dv).ar !=0)&&((nth (nth J.bU U) dv) || ((meets (nth J.O U).ah (nth J.O dv).cG) || (meets (nth J.O U).cG (nth J.O dv).ah)))))=false→ay bx a8 (IntKind.i64.wrap (dv+1))∧aB bx a8 (IntKind.i64.wrap (dv+1))<aB bx a8 dv)
def Mn (ay:j1 Prop) (aB:j1 Nat) (aS:qY Prop) (aU:qY Nat) (bw:oW Prop) (bu:oW Nat) (cd:ms Prop) (cc:ms Nat) (J:aA) (M:Frame) (U:Int) (an:nb×Bool×Bool) (bx:Nat) (a8:(List Int)) (dv:Int):Prop:=
  ((decide (dv<(J.O.length:Int)))=false→aS bx a8 dv 0 ([]:List Int) 0∧ ∀(aQ:Nat) (aG:(List Int)) (b4:Int),aS bx a8 dv aQ aG b4→(Ml aS aU bw bu cd cc J M U an bx a8 dv aQ aG b4))∧((decide (dv<(J.O.length:Int)))=true→(0≤dv∧dv.toNat<J.O.length)∧(((dv !=U)=true→(0≤dv∧dv.toNat<M.O.length)∧(((nth M.O dv).ar !=0)=true→(0≤U∧U.toNat<J.bU.length)∧(0≤dv∧dv.toNat<(nth J.bU U).length)))∧(Mm ay aB J M U bx a8 dv)))
def Mf (J:aA) (M:Frame) (U:Int) (an:nb×Bool×Bool) (ay:j1 Prop) (aB:j1 Nat) (aS:qY Prop) (aU:qY Nat) (bw:oW Prop) (bu:oW Nat) (cd:ms Prop) (cc:ms Nat):Prop:=
 (0≤U∧U.toNat<J.O.length)∧(J.O.length≤4611686018427387904→ay 0 ([]:List Int) 0∧ ∀(bx:Nat) (a8:(List Int)) (dv:Int),ay bx a8 dv→(Mn ay aB aS aU bw bu cd cc J M U an bx a8 dv))
theorem XS (J:aA) (M:Frame) (U:Int) (aI:q7 J M U):bZ Try.prog 115 [.agg (bg false J),.agg (bW false M),ag U] (.tup [.agg (DH true ((iv J M U).1)),al ((iv J M U).2.1),al ((iv J M U).2.2)]):=(fun(ay:j1 Prop) (aB:j1 Nat) (aS:qY Prop) (aU:qY Nat) (bw:oW Prop) (bu:oW Nat) (cd:ms Prop) (cc:ms Nat) (h:Mf J M U (iv J M U) ay aB aS aU bw bu cd cc)=>bZ.run (ps:=[.df,.frame,.int]) (rs:=[.stays,.bool,.bool]) (x:=(J,M,U,())) (r:=((iv J M U).1,(iv J M U).2.1,(iv J M U).2.2,())) ⟨169,ec,[FL,Yx,Cp,FJ]⟩ ⟨[],[(20,XU,XV),(22,XW,XX)],[],[],[]⟩ (.lp [(7,0,.int)] [2,3,4,6,7,8,9,24,25] [(9,5),(6,3),(4,4),(3,5)] [.nat,(.l .int),.int] [bD 0,bD 0,26] (fun aW=>[(26,.i .i64 aW.2.2.1),(e6 6 0,.ref 0 aW.1 aW.2.1.length false),(bD 0,.blk aW.1 .int aW.2.1 _ rfl)]) (fun aW=>ay aW.1 aW.2.1 aW.2.2.1) (fun aW=>aB aW.1 aW.2.1 aW.2.2.1) fun aW=>(.lp [(7,1,.int)] [3,4,6,7,8,9,75] [(9,5),(6,3),(4,4),(3,5)] [.nat,(.l .int),.int] [bD 1,bD 1,76] (fun bP=>[(76,.i .i64 bP.2.2.1),(e6 6 1,.ref 1 bP.1 bP.2.1.length false),(bD 1,.blk bP.1 .int bP.2.1 _ rfl)]) (fun bP=>aS aW.1 aW.2.1 aW.2.2.1 bP.1 bP.2.1 bP.2.2.1) (fun bP=>aU aW.1 aW.2.1 aW.2.2.1 bP.1 bP.2.1 bP.2.2.1) fun bP=>(.lp [(7,2,.int)] [3,4,6,9,105] [(9,5),(6,3),(4,4),(3,5)] [.nat,(.l .int),.int,.bool,.bool] [bD 2,bD 2,106,7,8] (fun cb=>[(7,.b (.v cb.2.2.2.1)),(8,.b (.v cb.2.2.2.2.1)),(106,.i .i64 cb.2.2.1),(e6 6 2,.ref 2 cb.1 cb.2.1.length false),(bD 2,.blk cb.1 .int cb.2.1 _ rfl)]) (fun cb=>bw aW.1 aW.2.1 aW.2.2.1 bP.1 bP.2.1 bP.2.2.1 cb.1 cb.2.1 cb.2.2.1 cb.2.2.2.1 cb.2.2.2.2.1) (fun cb=>bu aW.1 aW.2.1 aW.2.2.1 bP.1 bP.2.1 bP.2.2.1 cb.1 cb.2.1 cb.2.2.1 cb.2.2.2.1 cb.2.2.2.2.1) fun cb=>(.lp [] [3,4,6,9,13,105,106,110,111] [(9,5),(6,3),(4,4),(3,5)] [.nat,(.l .int),.int,.bool,.bool] [bD 2,bD 2,112,7,8] (fun eG=>[(7,.b (.v eG.2.2.2.1)),(8,.b (.v eG.2.2.2.2.1)),(112,.i .i64 eG.2.2.1),(e6 6 2,.ref 2 eG.1 eG.2.1.length false),(bD 2,.blk eG.1 .int eG.2.1 _ rfl)]) (fun eG=>cd aW.1 aW.2.1 aW.2.2.1 bP.1 bP.2.1 bP.2.2.1 cb.1 cb.2.1 cb.2.2.1 cb.2.2.2.1 cb.2.2.2.2.1 eG.1 eG.2.1 eG.2.2.1 eG.2.2.2.1 eG.2.2.2.2.1) (fun eG=>cc aW.1 aW.2.1 aW.2.2.1 bP.1 bP.2.1 bP.2.2.1 cb.1 cb.2.1 cb.2.2.1 cb.2.2.2.1 cb.2.2.2.2.1 eG.1 eG.2.1 eG.2.2.1 eG.2.2.2.1 eG.2.2.2.2.1) fun _=> .nil)))) Try.func115 h) (fun _ x v=>cr J.O.length (fun _=>false) v∧x=dY (kV J M U) v) (fun _ _ v=>cA J.O.length v) (fun _ a8 _ _ aG v=>a8=dY (kV J M U) J.O.length∧cr J.ah (fun _=>false) v∧aG=dY (ni J M U) v) (fun _ _ _ _ _ v=>cA J.ah v) (fun _ a8 _ _ aG _ _ bq v a b=>a8=dY (kV J M U) J.O.length∧aG=dY (ni J M U) J.ah∧cr J.bd.length (fun _=>false) v∧bq=dY (kU J M U) v∧a=vS J M U v∧b=zu J M U v) (fun _ _ _ _ _ _ _ _ v _ _=>cA J.bd.length v) (fun _ _ _ _ _ _ _ x k a b _ la j ia cj=>S2 J M U k x a b la j ia cj) (fun _ _ _ _ _ _ _ _ _ _ _ _ _ j _ _=>cA (bz (nth J.O U)).length j) (by
 unfold Mf
 obtain⟨hf,aT,h1⟩:=aI
 have hw:=hf.fr.O
 have kW:=hf.fr.au
 have qm:=hf.fr.aw
 have cx:=hf.in
 have yx:=cx.O
 have wo:=cx.sw
 have nk:=cx.cR
 have dV:=y6 hf.nT
 have bf:U.toNat<J.O.length:=by omega
 have yw:=du bf
 have mO:=Gs hf.nT yw
 refine⟨⟨aT,bf⟩,fun aH=>⟨⟨c7 (dh _),rfl⟩,fun g x v aZ=> ?_⟩⟩
 obtain⟨aZ,rfl⟩:=aZ
 have hlen:=so (kV J M U) v
 have ww:=aZ.2.1
 unfold Mn
 refine⟨fun hv=>⟨⟨vP aZ hv,c7 nk.1,rfl⟩,fun aQ aG s c1=> ?_⟩,fun hv=>⟨ca aZ hv,⟨fun _=> ?_,?_⟩⟩⟩
 ·obtain⟨hP,c1,rfl⟩:=c1
  have Ww:=so (ni J M U) s
  have W7:=c1.2.1
  unfold Ml
  refine⟨fun hs hm=>⟨⟨hP,vP c1 hs,c7 (dh _),rfl,rfl,rfl⟩,fun a1 bq k a b hK=> ?_⟩,fun hs=> ?_⟩
  ·obtain⟨_,qp,hK,rfl,rfl,rfl⟩:=hK
   have A4:=so (kU J M U) k
   have qi:=hK.2.1
   unfold Mj
   refine⟨fun hk=> ?_,fun hk=>⟨⟨by have:=(cx.a2 _ yw).1;omega,by have:=(cx.a2 _ yw).2.1;omega⟩,fun Lx=> ?_⟩⟩
   ·have bB:=vP (q:=kU J M U) hK hk
    have e:k=J.bd.length:=by
     have: ¬k<(J.bd.length:Int):=by simpa using hk
     omega
    refine⟨⟨by omega,hP⟩,⟨by omega,qp⟩,⟨by omega,bB⟩,?_,?_⟩
    ·rw[e];rfl
    ·rw[e];rfl
   ·have yu:=ca hK hk
    have mN:=cI (cv hm) hK hk rfl
    refine⟨⟨c7 (dh _),by simp[nq],by simp[nq],by simp[nq]⟩,fun kT eH j ia cj bY=> ?_⟩
    obtain⟨bY,rfl,rfl,rfl⟩:=bY
    unfold Mi
    refine⟨fun aM=> ?_,fun aM=>⟨ca bY aM,?_⟩⟩
    ·have n3: ¬j<((bz (nth J.O U)).length:Int):=by simpa using aM
     rw[abe _ _ _ _ (j:=j.toNat) (by omega)]
     have s1:=qb (q:=kU J M U) (cv hm) hK hk
     have s2:=(qb (q:=fun k=>kJ J M U k&&iR J M k) (cv hm) hK hk).2.2
     have l2:=(qb (q:=fun k=>kJ J M U k&&kj J M k) (cv hm) hK hk).2.2
     refine⟨⟨hP,qp,mN.1,?_,s2.symm,l2.symm⟩,mN.2⟩
     cases ak:kU J M U k with
     | true=>rw[if_pos (show(kJ J M U k&&(iR J M k || kj J M k))=true from ak)];exact s1.1 ak
     | false=>rw[if_neg (by rw[show(kJ J M U k&&(iR J M k || kj J M k))=false from ak];simp)];exact s1.2.1 ak
    ·have A0:=ca bY aM
     have tY:=cI (cv Lx) bY aM rfl
     have Ar:(IntKind.i64.wrap (j+1)).toNat=j.toNat+1:=by rw[jL (cv Lx) bY.1 (by simpa using aM)];omega
     have rJ:=abg (f:=M) (k:=k) A0.2
     have WG:nth (bz (nth J.O U)) j=(bz (nth J.O U))[j.toNat]'A0.2:=gE A0.2
     have EY:=cx.bd _ (du yu.2)
     have Ex: ∀(c:Prop) [Decidable c],(if c then dY (kU J M U) k++[k] else dY (kU J M U) k).length≤41:=fun c _=>by
      split
      ·rw[List.length_append,List.length_singleton];omega
      ·omega
     unfold Mh
     rw[WG]
     refine⟨⟨fun _=>⟨hK.1,by omega⟩,fun ak=> ?_⟩,fun ak=>⟨⟨hf,hK.1,by omega⟩,fun jh=>⟨⟨⟨hK.1,yu.2⟩,EY.1,by omega⟩,?_⟩⟩⟩
     ·have:((bz (nth J.O U))[j.toNat].sw==k&& !((nth M.au k).cy==(bz (nth J.O U))[j.toNat].bn))=false:=by
       revert ak
       rw[show((bz (nth J.O U))[j.toNat].sw !=k)= !((bz (nth J.O U))[j.toNat].sw==k) from rfl]
       cases((bz (nth J.O U))[j.toNat].sw==k)<;>cases((nth M.au k).cy==(bz (nth J.O U))[j.toNat].bn)<;>simp
      rw[this,Bool.or_false] at rJ
      exact⟨⟨tY.1,by rw[Ar,rJ],by rw[Ar,rJ],by rw[Ar,rJ]⟩,tY.2⟩
     ·have kh:((bz (nth J.O U))[j.toNat].sw==k)=true∧((nth M.au k).cy==(bz (nth J.O U))[j.toNat].bn)=false:=by
       revert ak
       rw[show((bz (nth J.O U))[j.toNat].sw !=k)= !((bz (nth J.O U))[j.toNat].sw==k) from rfl]
       cases((bz (nth J.O U))[j.toNat].sw==k)<;>cases((nth M.au k).cy==(bz (nth J.O U))[j.toNat].bn)<;>simp
      have lU:=abf (f:=M) mO A0.2 kh.1
      rw[lU,kh.1,kh.2] at rJ
      rw[lU]
      unfold Mg
      have ig:(decide (((gr J M k).length:Int)>0))=iR J M k:=rfl
      have mF:nth M.aw (nth J.bd k)=kj J M k:=rfl
      rw[ig,mF]
      simp only[Bool.false_and,Bool.or_false,if_false,Bool.false_eq_true]
      have E: ∀c:Bool,(nq J M U k (IntKind.i64.wrap (j+1)).toNat&&c)=c:=fun c=>by rw[Ar,rJ];rfl
      refine⟨fun hc=>⟨⟨by simp only[List.length_singleton];omega,by simp only[List.length_singleton];omega⟩,⟨tY.1,?_,by rw[E],by rw[E]⟩,tY.2⟩,fun hc=>⟨⟨tY.1,?_,by rw[E],by rw[E]⟩,tY.2⟩⟩
      ·rw[E,if_pos hc]
      ·rw[E,if_neg (by rw[hc];simp)]
  ·have rI:0≤s∧s<J.ah:=⟨c1.1,by simpa using hs⟩
   have bm:=cI (N:=J.ah) (by omega) c1 hs rfl
   have s1:=qb (q:=ni J M U) (N:=J.ah) (by omega) c1 hs
   refine⟨⟨c1.1,by omega⟩,?_⟩
   unfold Mk
   exact⟨fun ak=>⟨⟨by simp only[List.length_singleton];omega,by simp only[List.length_singleton];omega⟩,⟨hP,bm.1,s1.1 ak⟩,bm.2⟩,fun ak=>⟨⟨hP,bm.1,s1.2.1 ak⟩,bm.2⟩⟩
 ·have b9:=ca aZ hv
  have hC:=dV.len
  have eL:=dV.row U aT h1
  exact⟨⟨b9.1,by omega⟩,fun _=>⟨⟨aT,by omega⟩,b9.1,by omega⟩⟩
 ·have bm:=cI (cv aH) aZ hv rfl
  have s1:=qb (q:=kV J M U) (cv aH) aZ hv
  unfold Mm
  exact⟨fun ak=>⟨⟨by simp only[List.length_singleton];omega,by simp only[List.length_singleton];omega⟩,⟨bm.1,s1.1 ak⟩,bm.2⟩,fun ak=>⟨⟨bm.1,s1.2.1 ak⟩,bm.2⟩⟩)
def XT:eg Try.prog:=⟨115,[.df,.frame,.int],[.stays,.bool,.bool],some fun x=>q7 x.1 x.2.1 x.2.2.1,fun x=>((iv x.1 x.2.1 x.2.2.1).1,(iv x.1 x.2.1 x.2.2.1).2.1,(iv x.1 x.2.1 x.2.2.1).2.2,()),fun x h=>XS x.1 x.2.1 x.2.2.1 h⟩
def adm:List Item:=[aq 0,aq 1,aq 2,aq 3,aq 4,aq 5,aq 6,aq 7,aq 8,aq 9,aq 10,aq 11,aq 12,aq 13,aq 14,aq 15,aq 16,aq 17,aq 18,aq 19,aq 20,aq 21,aq 22,aq 23,aq 24,aq 25,aq 26,aq 27,aq 28,aq 29,aq 30,aq 31,aq 32,aq 33,aq 34,aq 35,aq 36,aq 37,aq 38,aq 39,aq 40,aq 41,aq 42,aq 43]
def adn:List (List Nat):=[[],[],[0,1],[0,1,2],rg 0 4,rg 0 5,rg 0 4,rg 0 7,rg 0 8,rg 0 9,rg 0 10,rg 0 11,rg 0 12,rg 0 13,rg 0 14,rg 0 13,rg 0 16,rg 0 17,rg 0 13,rg 0 19,rg 0 20,rg 0 21,rg 0 22,rg 0 23,rg 0 22,rg 0 22++[24],rg 0 22,rg 0 22++[24,25,26],rg 0 22++rg 24 28,rg 0 22++rg 24 29,rg 0 30,rg 0 31,rg 0 32,rg 0 33,rg 0 34,rg 0 33,rg 0 33++[35],rg 0 33,rg 0 33++[35,36,37],rg 0 33++rg 35 39,rg 0 33++rg 35 40,rg 0 41,rg 0 42,rg 0 43]
def adk:List Item:=[aq 0,aq 1,aq 2,aq 3,aq 4,aq 5,aq 6,aq 7,aq 8]
def adl:List (List Nat):=[[],[0],[],[2],[],[2,3,4],rg 2 6,rg 0 7,rg 0 8]
abbrev lC (r:Type):Type:=Nat→(List Int)→Int→Int→Nat→(List Int)→Int→Int→Nat→(List Int)→Int→Int→r
def QD (bw:lC Prop) (bu:lC Nat) (bx:Nat) (a8:(List Int)) (bb b5:Int) (aQ:Nat) (aG:(List Int)) (ad ee:Int) (a1:Nat) (bq:(List Int)) (dy b7:Int):Prop:=
  ((b7==0)=true→bw bx a8 bb b5 aQ aG ad ee (a1+1) (bq++[dy]) (IntKind.i64.wrap (dy+1)) 6∧bu bx a8 bb b5 aQ aG ad ee (a1+1) (bq++[dy]) (IntKind.i64.wrap (dy+1)) 6<bu bx a8 bb b5 aQ aG ad ee a1 bq dy b7)∧((b7==0)=false→bw bx a8 bb b5 aQ aG ad ee (a1+1) (bq++[dy]) (IntKind.i64.wrap (dy+1)) b7∧bu bx a8 bb b5 aQ aG ad ee (a1+1) (bq++[dy]) (IntKind.i64.wrap (dy+1)) b7<bu bx a8 bb b5 aQ aG ad ee a1 bq dy b7)
def QI (bw:lC Prop) (bu:lC Nat) (J:aA) (M:Frame) (bx:Nat) (a8:(List Int)) (bb b5:Int) (aQ:Nat) (aG:(List Int)) (ad ee:Int) (a1:Nat) (bq:(List Int)) (dy b7:Int):Prop:=
  ((nth M.aw (nth J.bd dy))=true→((bq.length+[dy].length)*8≤140737488355328∧bq.length+[dy].length≤4611686018427387904)∧(QD bw bu bx a8 bb b5 aQ aG ad ee a1 bq dy b7))∧((nth M.aw (nth J.bd dy))=false→bw bx a8 bb b5 aQ aG ad ee a1 bq (IntKind.i64.wrap (dy+1)) b7∧bu bx a8 bb b5 aQ aG ad ee a1 bq (IntKind.i64.wrap (dy+1)) b7<bu bx a8 bb b5 aQ aG ad ee a1 bq dy b7)
def QJ (bw:lC Prop) (bu:lC Nat) (J:aA) (M:Frame) (bx:Nat) (a8:(List Int)) (bb b5:Int) (aQ:Nat) (aG:(List Int)) (ad ee:Int) (a1:Nat) (bq:(List Int)) (dy b7:Int):Prop:=
  ((decide (((gr J M dy).length:Int)>0))=true→((bq.length+[dy].length)*8≤140737488355328∧bq.length+[dy].length≤4611686018427387904)∧(bw bx a8 bb b5 aQ aG ad ee (a1+1) (bq++[dy]) (IntKind.i64.wrap (dy+1)) 5∧bu bx a8 bb b5 aQ aG ad ee (a1+1) (bq++[dy]) (IntKind.i64.wrap (dy+1)) 5<bu bx a8 bb b5 aQ aG ad ee a1 bq dy b7))∧((decide (((gr J M dy).length:Int)>0))=false→((0≤dy∧dy.toNat<J.bd.length)∧(0≤(nth J.bd dy)∧(nth J.bd dy).toNat<M.aw.length))∧(QI bw bu J M bx a8 bb b5 aQ aG ad ee a1 bq dy b7))
abbrev lD (r:Type):Type:=Nat→(List Int)→Int→Int→Nat→(List Int)→Int→Int→Nat→(List Int)→Int→Int→Int→Int→Int→Int→r
def QK (dp:lD Prop) (dq:lD Nat) (J:aA) (U:Int) (bx:Nat) (a8:(List Int)) (bb b5:Int) (aQ:Nat) (aG:(List Int)) (ad ee mA cY h3 q6:Int) (a1:Nat) (bq:(List Int)) (dy b7:Int):Prop:=
  dp bx a8 bb b5 aQ aG ad ee a1 bq dy b7 h3 cY (IntKind.i64.wrap (mA+1)) (bif ((nth (nth [(nth J.O U).a2,(nth J.O U).bA] h3) mA).sw==dy) then(nth (nth [(nth J.O U).a2,(nth J.O U).bA] h3) mA).bn else q6)∧dq bx a8 bb b5 aQ aG ad ee a1 bq dy b7 h3 cY (IntKind.i64.wrap (mA+1)) (bif ((nth (nth [(nth J.O U).a2,(nth J.O U).bA] h3) mA).sw==dy) then(nth (nth [(nth J.O U).a2,(nth J.O U).bA] h3) mA).bn else q6)<dq bx a8 bb b5 aQ aG ad ee a1 bq dy b7 h3 cY mA q6
abbrev mu (r:Type):Type:=Nat→(List Int)→Int→Int→Nat→(List Int)→Int→Int→Nat→(List Int)→Int→Int→Int→Int→r
def QL (cd:mu Prop) (cc:mu Nat) (dp:lD Prop) (dq:lD Nat) (J:aA) (U:Int) (bx:Nat) (a8:(List Int)) (bb b5:Int) (aQ:Nat) (aG:(List Int)) (ad ee mA cY h3 q6:Int) (a1:Nat) (bq:(List Int)) (dy b7:Int):Prop:=
  ((decide (mA<((nth [(nth J.O U).a2,(nth J.O U).bA] h3).length:Int)))=false→cd bx a8 bb b5 aQ aG ad ee a1 bq dy b7 (IntKind.i64.wrap (h3+1)) q6∧cc bx a8 bb b5 aQ aG ad ee a1 bq dy b7 (IntKind.i64.wrap (h3+1)) q6<cc bx a8 bb b5 aQ aG ad ee a1 bq dy b7 h3 cY)∧((decide (mA<((nth [(nth J.O U).a2,(nth J.O U).bA] h3).length:Int)))=true→(0≤mA∧mA.toNat<(nth [(nth J.O U).a2,(nth J.O U).bA] h3).length)∧(QK dp dq J U bx a8 bb b5 aQ aG ad ee mA cY h3 q6 a1 bq dy b7))
def QM (cd:mu Prop) (cc:mu Nat) (dp:lD Prop) (dq:lD Nat) (J:aA) (U:Int) (bx:Nat) (a8:(List Int)) (bb b5:Int) (aQ:Nat) (aG:(List Int)) (ad ee cY h3:Int) (a1:Nat) (bq:(List Int)) (dy b7:Int):Prop:=
  (0≤h3∧h3.toNat<[(nth J.O U).a2,(nth J.O U).bA].length)∧((nth [(nth J.O U).a2,(nth J.O U).bA] h3).length≤4611686018427387904→dp bx a8 bb b5 aQ aG ad ee a1 bq dy b7 h3 cY 0 cY∧ ∀(mA:Int) (q6:Int),dp bx a8 bb b5 aQ aG ad ee a1 bq dy b7 h3 cY mA q6→(QL cd cc dp dq J U bx a8 bb b5 aQ aG ad ee mA cY h3 q6 a1 bq dy b7))
def QN (bw:lC Prop) (bu:lC Nat) (cd:mu Prop) (cc:mu Nat) (dp:lD Prop) (dq:lD Nat) (J:aA) (M:Frame) (U:Int) (bx:Nat) (a8:(List Int)) (bb b5:Int) (aQ:Nat) (aG:(List Int)) (ad ee cY h3:Int) (a1:Nat) (bq:(List Int)) (dy b7:Int):Prop:=
  ((decide (h3<([(nth J.O U).a2,(nth J.O U).bA].length:Int)))=false→(((cY==0)=false→0≤dy∧dy.toNat<M.au.length)∧(((cY==0) || (cY==(nth M.au dy).cy))=true→bw bx a8 bb b5 aQ aG ad ee a1 bq (IntKind.i64.wrap (dy+1)) b7∧bu bx a8 bb b5 aQ aG ad ee a1 bq (IntKind.i64.wrap (dy+1)) b7<bu bx a8 bb b5 aQ aG ad ee a1 bq dy b7))∧((!((cY==0) || (cY==(nth M.au dy).cy)))=true→(sT J M dy)∧((gr J M dy).length≤4611686018427387904→QJ bw bu J M bx a8 bb b5 aQ aG ad ee a1 bq dy b7)))∧((decide (h3<([(nth J.O U).a2,(nth J.O U).bA].length:Int)))=true→QM cd cc dp dq J U bx a8 bb b5 aQ aG ad ee cY h3 a1 bq dy b7)
def QO (bw:lC Prop) (bu:lC Nat) (cd:mu Prop) (cc:mu Nat) (dp:lD Prop) (dq:lD Nat) (J:aA) (M:Frame) (U:Int) (an:nb×Int) (bx:Nat) (a8:(List Int)) (bb b5:Int) (aQ:Nat) (aG:(List Int)) (ad ee:Int) (a1:Nat) (bq:(List Int)) (dy b7:Int):Prop:=
  ((decide (dy<(J.bd.length:Int)))=false→(a8.length≤4611686018427387904∧a8=an.1.O)∧(aG.length≤4611686018427387904∧aG=an.1.ah)∧(bq.length≤4611686018427387904∧bq=an.1.au)∧((bif (ee==0) then b7 else ee)=an.2))∧((decide (dy<(J.bd.length:Int)))=true→[(nth J.O U).a2,(nth J.O U).bA].length≤4611686018427387904→cd bx a8 bb b5 aQ aG ad ee a1 bq dy b7 0 0∧ ∀(h3:Int) (cY:Int),cd bx a8 bb b5 aQ aG ad ee a1 bq dy b7 h3 cY→(QN bw bu cd cc dp dq J M U bx a8 bb b5 aQ aG ad ee cY h3 a1 bq dy b7))
abbrev qZ (r:Type):Type:=Nat→(List Int)→Int→Int→Nat→(List Int)→Int→Int→r
def QP (aS:qZ Prop) (aU:qZ Nat) (J:aA) (M:Frame) (U:Int) (bx:Nat) (a8:(List Int)) (bb b5:Int) (aQ:Nat) (aG:(List Int)) (ad ee:Int):Prop:=
  (((nth M.aw ad)&&((meets [ad] (nth J.O U).ah) || (meets [ad] (nth J.O U).cG)))=true→((aG.length+[ad].length)*8≤140737488355328∧aG.length+[ad].length≤4611686018427387904)∧(((ee==0)=true→aS bx a8 bb b5 (aQ+1) (aG++[ad]) (IntKind.i64.wrap (ad+1)) 4∧aU bx a8 bb b5 (aQ+1) (aG++[ad]) (IntKind.i64.wrap (ad+1)) 4<aU bx a8 bb b5 aQ aG ad ee)∧((ee==0)=false→aS bx a8 bb b5 (aQ+1) (aG++[ad]) (IntKind.i64.wrap (ad+1)) ee∧aU bx a8 bb b5 (aQ+1) (aG++[ad]) (IntKind.i64.wrap (ad+1)) ee<aU bx a8 bb b5 aQ aG ad ee)))∧(((nth M.aw ad)&&((meets [ad] (nth J.O U).ah) || (meets [ad] (nth J.O U).cG)))=false→aS bx a8 bb b5 aQ aG (IntKind.i64.wrap (ad+1)) ee∧aU bx a8 bb b5 aQ aG (IntKind.i64.wrap (ad+1)) ee<aU bx a8 bb b5 aQ aG ad ee)
def QE (aS:qZ Prop) (aU:qZ Nat) (bw:lC Prop) (bu:lC Nat) (cd:mu Prop) (cc:mu Nat) (dp:lD Prop) (dq:lD Nat) (J:aA) (M:Frame) (U:Int) (an:nb×Int) (bx:Nat) (a8:(List Int)) (bb b5:Int) (aQ:Nat) (aG:(List Int)) (ad ee:Int):Prop:=
  ((decide (ad<J.ah))=false→J.bd.length≤4611686018427387904→bw bx a8 bb b5 aQ aG ad ee 0 ([]:List Int) 0 0∧ ∀(a1:Nat) (bq:(List Int)) (dy:Int) (b7:Int),bw bx a8 bb b5 aQ aG ad ee a1 bq dy b7→(QO bw bu cd cc dp dq J M U an bx a8 bb b5 aQ aG ad ee a1 bq dy b7))∧((decide (ad<J.ah))=true→(0≤ad∧ad.toNat<M.aw.length)∧(QP aS aU J M U bx a8 bb b5 aQ aG ad ee))
abbrev q0 (r:Type):Type:=Nat→(List Int)→Int→Int→r
def QF (ay:q0 Prop) (aB:q0 Nat) (J:aA) (M:Frame) (U:Int) (bx:Nat) (a8:(List Int)) (bb b5:Int):Prop:=
  (((bb !=U)&&(((nth M.O bb).ar !=0)&&((nth (nth J.bU U) bb) || ((meets (nth J.O U).ah (nth J.O bb).cG) || (meets (nth J.O U).cG (nth J.O bb).ah)))))=true→((a8.length+[bb].length)*8≤140737488355328∧a8.length+[bb].length≤4611686018427387904)∧(ay (bx+1) (a8++[bb]) (IntKind.i64.wrap (bb+1)) 3∧aB (bx+1) (a8++[bb]) (IntKind.i64.wrap (bb+1)) 3<aB bx a8 bb b5))∧(((bb !=U)&&(((nth M.O bb).ar !=0)&&((nth (nth J.bU U) bb) || ((meets (nth J.O U).ah (nth J.O bb).cG) || (meets (nth J.O U).cG (nth J.O bb).ah)))))=false→ay bx a8 (IntKind.i64.wrap (bb+1)) b5∧aB bx a8 (IntKind.i64.wrap (bb+1)) b5<aB bx a8 bb b5)
def QG (ay:q0 Prop) (aB:q0 Nat) (J:aA) (M:Frame) (U:Int) (bx:Nat) (a8:(List Int)) (bb b5:Int):Prop:=
  ((bb !=U)=true→(0≤bb∧bb.toNat<M.O.length)∧(((nth M.O bb).ar !=0)=true→(0≤U∧U.toNat<J.bU.length)∧((0≤bb∧bb.toNat<(nth J.bU U).length)∧((nth (nth J.bU U) bb)=false→(0≤bb∧bb.toNat<J.O.length)∧((meets (nth J.O U).ah (nth J.O bb).cG)=false→0≤bb∧bb.toNat<J.O.length)))))∧(QF ay aB J M U bx a8 bb b5)
def QH (ay:q0 Prop) (aB:q0 Nat) (aS:qZ Prop) (aU:qZ Nat) (bw:lC Prop) (bu:lC Nat) (cd:mu Prop) (cc:mu Nat) (dp:lD Prop) (dq:lD Nat) (J:aA) (M:Frame) (U:Int) (an:nb×Int):Prop:=
  ay 0 ([]:List Int) 0 0∧ ∀(bx:Nat) (a8:(List Int)) (bb:Int) (b5:Int),ay bx a8 bb b5→(((decide (bb<(J.O.length:Int)))=false→aS bx a8 bb b5 0 ([]:List Int) 0 b5∧ ∀(aQ:Nat) (aG:(List Int)) (ad:Int) (ee:Int),aS bx a8 bb b5 aQ aG ad ee→(QE aS aU bw bu cd cc dp dq J M U an bx a8 bb b5 aQ aG ad ee))∧((decide (bb<(J.O.length:Int)))=true→QG ay aB J M U bx a8 bb b5))
def QC (J:aA) (M:Frame) (U:Int) (an:nb×Int) (ay:q0 Prop) (aB:q0 Nat) (aS:qZ Prop) (aU:qZ Nat) (bw:lC Prop) (bu:lC Nat) (cd:mu Prop) (cc:mu Nat) (dp:lD Prop) (dq:lD Nat):Prop:=
 (0≤U∧U.toNat<J.O.length)∧(J.O.length≤4611686018427387904→QH ay aB aS aU bw bu cd cc dp dq J M U an)
theorem adi (J:aA) (M:Frame) (U:Int) (aI:q7 J M U):bZ Try.prog 154 [.agg (bg false J),.agg (bW false M),ag U] (.tup [.agg (DH true ((td J M U).1)),ag ((td J M U).2)]):=(fun(ay:q0 Prop) (aB:q0 Nat) (aS:qZ Prop) (aU:qZ Nat) (bw:lC Prop) (bu:lC Nat) (cd:mu Prop) (cc:mu Nat) (dp:lD Prop) (dq:lD Nat) (h:QC J M U (td J M U) ay aB aS aU bw bu cd cc dp dq)=>bZ.run (ps:=[.df,.frame,.int]) (rs:=[.stays,.int]) (x:=(J,M,U,())) (r:=((td J M U).1,(td J M U).2,())) ⟨192,ec,[adh,zy]⟩ ⟨[],[(7,adm,adn),(37,adk,adl)],[],[],[]⟩ (.lp [(9,0,.int)] [2,3,4,6,8,10,27] [(10,5),(8,3),(6,3),(4,4),(3,5)] [.nat,(.l .int),.int,.int] [bD 0,bD 0,28,9] (fun aW=>[(9,.i .i64 aW.2.2.2.1),(28,.i .i64 aW.2.2.1),(e6 8 0,.ref 0 aW.1 aW.2.1.length false),(bD 0,.blk aW.1 .int aW.2.1 _ rfl)]) (fun aW=>ay aW.1 aW.2.1 aW.2.2.1 aW.2.2.2.1) (fun aW=>aB aW.1 aW.2.1 aW.2.2.1 aW.2.2.2.1) fun aW=>(.lp [(9,1,.int)] [3,4,6,8,10] [(10,5),(8,3),(6,3),(4,4),(3,5)] [.nat,(.l .int),.int,.int] [bD 1,bD 1,12,9] (fun bP=>[(9,.i .i64 bP.2.2.2.1),(12,.i .i64 bP.2.2.1),(e6 8 1,.ref 1 bP.1 bP.2.1.length false),(bD 1,.blk bP.1 .int bP.2.1 _ rfl)]) (fun bP=>aS aW.1 aW.2.1 aW.2.2.1 aW.2.2.2.1 bP.1 bP.2.1 bP.2.2.1 bP.2.2.2.1) (fun bP=>aU aW.1 aW.2.1 aW.2.2.1 aW.2.2.2.1 bP.1 bP.2.1 bP.2.2.1 bP.2.2.2.1) fun bP=>(.lp [(9,2,.int)] [3,4,6,8,9,10,117] [(10,5),(8,3),(6,3),(4,4),(3,5)] [.nat,(.l .int),.int,.int] [bD 2,bD 2,118,13] (fun cb=>[(13,.i .i64 cb.2.2.2.1),(118,.i .i64 cb.2.2.1),(e6 8 2,.ref 2 cb.1 cb.2.1.length false),(bD 2,.blk cb.1 .int cb.2.1 _ rfl)]) (fun cb=>bw aW.1 aW.2.1 aW.2.2.1 aW.2.2.2.1 bP.1 bP.2.1 bP.2.2.1 bP.2.2.2.1 cb.1 cb.2.1 cb.2.2.1 cb.2.2.2.1) (fun cb=>bu aW.1 aW.2.1 aW.2.2.1 aW.2.2.2.1 bP.1 bP.2.1 bP.2.2.1 bP.2.2.2.1 cb.1 cb.2.1 cb.2.2.1 cb.2.2.2.1) fun cb=>(.lp [] [3,4,6,8,9,10,13,14,117,118,125,126] [(10,5),(8,3),(6,3),(4,4),(3,5)] [.int,.int] [127,15] (fun eG=>[(15,.i .i64 eG.2.1),(127,.i .i64 eG.1)]) (fun eG=>cd aW.1 aW.2.1 aW.2.2.1 aW.2.2.2.1 bP.1 bP.2.1 bP.2.2.1 bP.2.2.2.1 cb.1 cb.2.1 cb.2.2.1 cb.2.2.2.1 eG.1 eG.2.1) (fun eG=>cc aW.1 aW.2.1 aW.2.2.1 aW.2.2.2.1 bP.1 bP.2.1 bP.2.2.1 bP.2.2.2.1 cb.1 cb.2.1 cb.2.2.1 cb.2.2.2.1 eG.1 eG.2.1) fun eG=>(.lp [] [3,4,6,8,9,10,13,14,117,118,125,126,127,131,132] [(10,5),(8,3),(6,3),(4,4),(3,5)] [.int,.int] [133,15] (fun j3=>[(15,.i .i64 j3.2.1),(133,.i .i64 j3.1)]) (fun j3=>dp aW.1 aW.2.1 aW.2.2.1 aW.2.2.2.1 bP.1 bP.2.1 bP.2.2.1 bP.2.2.2.1 cb.1 cb.2.1 cb.2.2.1 cb.2.2.2.1 eG.1 eG.2.1 j3.1 j3.2.1) (fun j3=>dq aW.1 aW.2.1 aW.2.2.1 aW.2.2.2.1 bP.1 bP.2.1 bP.2.2.1 bP.2.2.2.1 cb.1 cb.2.1 cb.2.2.1 cb.2.2.2.1 eG.1 eG.2.1 j3.1 j3.2.1) fun _=> .nil))))) Try.func154 h) (fun _ x v c=>cr J.O.length (fun _=>false) v∧x=dY (kV J M U) v∧c=(if x≠[] then 3 else 0)) (fun _ _ v _=>cA J.O.length v) (fun _ a8 _ _ _ aG v c=>a8=dY (kV J M U) J.O.length∧cr J.ah (fun _=>false) v∧aG=dY (ni J M U) v∧c=(if a8≠[] then 3 else if aG≠[] then 4 else 0)) (fun _ _ _ _ _ _ v _=>cA J.ah v) (fun _ a8 _ _ _ aG _ c _ bq v h=>a8=dY (kV J M U) J.O.length∧aG=dY (ni J M U) J.ah∧c=(if a8≠[] then 3 else if aG≠[] then 4 else 0)∧cr J.bd.length (fun _=>false) v∧bq=dY (kU J M U) v∧h=v8 J M U v) (fun _ _ _ _ _ _ _ _ _ _ v _=>cA J.bd.length v) (fun _ _ _ _ _ _ _ _ _ _ k _ i l=>cr ([(nth J.O U).a2,(nth J.O U).bA].length:Int) (fun _=>false) i∧l=qx 0 ([(nth J.O U).a2,(nth J.O U).bA].take i.toNat).flatten k) (fun _ _ _ _ _ _ _ _ _ _ _ _ i _=>cA ([(nth J.O U).a2,(nth J.O U).bA].length:Int) i) (fun _ _ _ _ _ _ _ _ _ _ k _ i l j fh=>cr (nth [(nth J.O U).a2,(nth J.O U).bA] i).length (fun _=>false) j∧fh=qx l ((nth [(nth J.O U).a2,(nth J.O U).bA] i).take j.toNat) k) (fun _ _ _ _ _ _ _ _ _ _ _ _ i _ j _=>cA (nth [(nth J.O U).a2,(nth J.O U).bA] i).length j) (by
 unfold QC QH
 obtain⟨hf,aT,h1⟩:=aI
 have hw:=hf.fr.O
 have kW:=hf.fr.au
 have qm:=hf.fr.aw
 have cx:=hf.in
 have yx:=cx.O
 have wo:=cx.sw
 have nk:=cx.cR
 have dV:=y6 hf.nT
 have bf:U.toNat<J.O.length:=by omega
 have yw:=du bf
 have mO:=Gs hf.nT yw
 refine⟨⟨aT,bf⟩,fun aH=>⟨⟨c7 (dh _),rfl,rfl⟩,fun g x v c aZ=> ?_⟩⟩
 obtain⟨aZ,rfl,rfl⟩:=aZ
 have hlen:=so (kV J M U) v
 have ww:=aZ.2.1
 refine⟨fun hv=>⟨⟨vP aZ hv,c7 nk.1,rfl,by simp[Uv]⟩,fun aQ aG s nc c1=> ?_⟩,fun hv=> ?_⟩
 ·obtain⟨hP,c1,rfl,rfl⟩:=c1
  have Ww:=so (ni J M U) s
  have W7:=c1.2.1
  unfold QE
  refine⟨fun hs hm=>⟨⟨hP,vP c1 hs,rfl,c7 (dh _),rfl,rfl⟩,fun a1 bq k bi hK=> ?_⟩,fun hs=> ?_⟩
  ·obtain⟨_,qp,hc,hK,rfl,rfl⟩:=hK
   have A4:=so (kU J M U) k
   have qi:=hK.2.1
   unfold QO
   refine⟨fun hk=> ?_,fun hk h2=>⟨⟨c7 (dh _),rfl⟩,fun i l bY=> ?_⟩⟩
   ·have bB:=vP (q:=kU J M U) hK hk
    have e:k=J.bd.length:=by
     have: ¬k<(J.bd.length:Int):=by simpa using hk
     omega
    refine⟨⟨by omega,hP⟩,⟨by omega,qp⟩,⟨by omega,bB⟩,?_⟩
    show _=codeF J M U
    unfold codeF
    show _=if dY (kV J M U) J.O.length≠[] then 3 else if dY (ni J M U) J.ah≠[] then 4 else _
    rw[hP,qp]
    by_cases xC:dY (kV J M U) J.O.length≠[]
    ·rw[if_pos xC,if_pos xC];rfl
    ·rw[if_neg xC,if_neg xC]
     by_cases ol:dY (ni J M U) J.ah≠[]
     ·rw[if_pos ol,if_pos ol];rfl
     ·rw[if_neg ol,if_neg ol,e];rfl
   ·have yu:=ca hK hk
    have mN:=cI (cv hm) hK hk rfl
    have s1:=qb (q:=kU J M U) (cv hm) hK hk
    have s2:=(qb (q:=fun k=>kJ J M U k&&iR J M k) (cv hm) hK hk).2.2
    have l2:=(qb (q:=fun k=>kJ J M U k&&kj J M k) (cv hm) hK hk).2.2
    have ue:vS J M U (IntKind.i64.wrap (k+1))=(vS J M U k || (kJ J M U k&&iR J M k)):=s2
    have uf:zu J M U (IntKind.i64.wrap (k+1))=(zu J M U k || (kJ J M U k&&kj J M k)):=l2
    obtain⟨bY,rfl⟩:=bY
    unfold QN
    refine⟨fun hi=> ?_,fun hi=> ?_⟩
    ·have Ws:i=2:=by
      have a:=bY.2.1
      have: ¬i<(([(nth J.O U).a2,(nth J.O U).bA].length:Nat):Int):=by simpa using hi
      simp at a this;omega
     have ck:(List.take i.toNat [(nth J.O U).a2,(nth J.O U).bA]).flatten=bz (nth J.O U):=by rw[Ws];simp[bz]
     rw[ck]
     have aC:=Zt (f:=M) (k:=k) hf.nT bf
     refine⟨⟨fun _=>⟨hK.1,by omega⟩,fun ak=> ?_⟩,fun ak=>⟨⟨hf,hK.1,by omega⟩,fun jh=> ?_⟩⟩
     ·rw[aC] at ak
      have ak:kJ J M U k=false:=by simpa using ak
      refine⟨⟨hP,qp,hc,mN.1,s1.2.1 (by unfold kU;rw[ak];rfl),?_⟩,mN.2⟩
      unfold v8;rw[ue,uf,ak];simp
     ·rw[aC] at ak
      have ak:kJ J M U k=true:=by simpa using ak
      have EY:=cx.bd _ (du yu.2)
      unfold QJ
      have ig:(decide (((gr J M k).length:Int)>0))=iR J M k:=rfl
      rw[ig]
      rw[ak,Bool.true_and] at ue uf
      have vv:((dY (kU J M U) k).length+[k].length)*8≤140737488355328∧(dY (kU J M U) k).length+[k].length≤4611686018427387904:=by
       simp only[List.length_singleton];omega
      refine⟨fun aL=>⟨vv,⟨hP,qp,hc,mN.1,s1.1 (by unfold kU;rw[ak,aL];rfl),?_⟩,mN.2⟩,fun aL=>⟨⟨⟨hK.1,yu.2⟩,EY.1,by omega⟩,?_⟩⟩
      ·unfold v8;rw[ue,aL,Bool.or_true];rfl
      ·rw[aL,Bool.or_false] at ue
       unfold QI QD
       have mF:nth M.aw (nth J.bd k)=kj J M k:=rfl
       rw[mF]
       refine⟨fun yz=>⟨vv,?_⟩,fun yz=>⟨⟨hP,qp,hc,mN.1,s1.2.1 (by unfold kU;rw[ak,aL,yz];rfl),?_⟩,mN.2⟩⟩
       ·rw[yz,Bool.or_true] at uf
        have bX:=s1.1 (show kU J M U k=true by unfold kU;rw[ak,aL,yz];rfl)
        refine⟨fun aP=>⟨⟨hP,qp,hc,mN.1,bX,?_⟩,mN.2⟩,fun aP=>⟨⟨hP,qp,hc,mN.1,bX,?_⟩,mN.2⟩⟩
        ·unfold v8 at aP ⊢
         rw[ue,uf]
         cases ci:vS J M U k with
         | true=>rw[ci] at aP;simp at aP
         | false=>simp
        ·unfold v8 at aP ⊢
         rw[ue,uf]
         cases ci:vS J M U k with
         | true=>simp
         | false=>
          rw[ci] at aP
          cases cK:zu J M U k with
          | true=>simp
          | false=>rw[cK] at aP;simp at aP
       ·rw[yz,Bool.or_false] at uf
        unfold v8;rw[ue,uf]
    ·unfold QM
     refine⟨ca bY hi,fun ql=>⟨⟨c7 (dh _),rfl⟩,fun j fh tK=> ?_⟩⟩
     obtain⟨tK,rfl⟩:=tK
     unfold QL QK
     refine⟨fun aM=> ?_,fun aM=>⟨ca tK aM,?_⟩⟩
     ·have bm:=cI (cv h2) bY hi rfl
      refine⟨⟨bm.1,?_⟩,bm.2⟩
      have fU:=ca bY hi
      rw[jL (cv h2) bY.1 (by simpa using hi),show(i+1).toNat=i.toNat+1 by omega,List.take_succ_eq_append_getElem fU.2,List.flatten_append]
      have n3: ¬j<((nth [(nth J.O U).a2,(nth J.O U).bA] i).length:Int):=by simpa using aM
      have Ll:=tK.1
      have br:(nth [(nth J.O U).a2,(nth J.O U).bA] i).take j.toNat=nth [(nth J.O U).a2,(nth J.O U).bA] i:=List.take_of_length_le (by omega)
      rw[br,gE fU.2]
      unfold qx
      rw[List.foldl_append]
      simp
     ·have bm:=cI (cv ql) tK aM rfl
      refine⟨⟨bm.1,?_⟩,bm.2⟩
      have n3:=ca tK aM
      rw[jL (cv ql) tK.1 (by simpa using aM),show(j+1).toNat=j.toNat+1 by omega,List.take_succ_eq_append_getElem n3.2,gE n3.2]
      unfold qx
      rw[List.foldl_append];rfl
  ·have rI:0≤s∧s<J.ah:=⟨c1.1,by simpa using hs⟩
   have bm:=cI (N:=J.ah) (by omega) c1 hs rfl
   have s1:=qb (q:=ni J M U) (N:=J.ah) (by omega) c1 hs
   refine⟨⟨c1.1,by omega⟩,?_⟩
   unfold QP
   rw[ux,ux]
   have vv:((dY (ni J M U) s).length+[s].length)*8≤140737488355328∧(dY (ni J M U) s).length+[s].length≤4611686018427387904:=by
    simp only[List.length_singleton];omega
   refine⟨fun ak=>⟨vv,fun aP=> ?_,fun aP=> ?_⟩,fun ak=>⟨⟨hP,bm.1,s1.2.1 ak,?_⟩,bm.2⟩⟩
   ·refine⟨⟨hP,bm.1,s1.1 ak,?_⟩,bm.2⟩
    by_cases z:dY (kV J M U) v≠[]
    ·rw[if_pos z] at aP;simp at aP
    ·rw[if_neg z,if_pos (by simp)]
   ·refine⟨⟨hP,bm.1,s1.1 ak,?_⟩,bm.2⟩
    by_cases z:dY (kV J M U) v≠[]
    ·rw[if_pos z,if_pos z]
    ·rw[if_neg z,if_neg z]
     rw[if_neg z] at aP
     by_cases ol:dY (ni J M U) s≠[]
     ·rw[if_pos ol,if_pos (by simp)]
     ·rw[if_neg ol] at aP;simp at aP
   ·rfl
 ·have b9:=ca aZ hv
  have hC:=dV.len
  have eL:=dV.row U aT h1
  have bm:=cI (cv aH) aZ hv rfl
  have s1:=qb (q:=kV J M U) (cv aH) aZ hv
  unfold QG QF
  have vv:((dY (kV J M U) v).length+[v].length)*8≤140737488355328∧(dY (kV J M U) v).length+[v].length≤4611686018427387904:=by
   simp only[List.length_singleton];omega
  refine⟨fun _=>⟨⟨b9.1,by omega⟩,fun _=>⟨⟨aT,by omega⟩,⟨b9.1,by omega⟩,fun _=>⟨b9,fun _=>b9⟩⟩⟩,fun ak=>⟨vv,⟨bm.1,s1.1 ak,by rw[if_pos (by simp)]⟩,bm.2⟩,fun ak=>⟨⟨bm.1,s1.2.1 ak,rfl⟩,bm.2⟩⟩)
def adj:eg Try.prog:=⟨154,[.df,.frame,.int],[.stays,.int],some fun x=>q7 x.1 x.2.1 x.2.2.1,fun x=>((td x.1 x.2.1 x.2.2.1).1,(td x.1 x.2.1 x.2.2.1).2,()),fun x h=>adi x.1 x.2.1 x.2.2.1 h⟩
def QT (J:aA) (M:Frame) (U:Int) (an:Int):Prop:=
 ((0≤U∧U.toNat<M.O.length)∧(((nth M.O U).ar !=0)=true→2=an))∧((!((nth M.O U).ar !=0))=true→(q7 J M U)∧((td J M U).2=an))
theorem ads (J:aA) (M:Frame) (U:Int) (aI:q7 J M U):bZ Try.prog 116 [.agg (bg false J),.agg (bW false M),ag U] (ag (eM J M U)):=(fun(h:QT J M U (eM J M U))=>bZ.run (ps:=[.df,.frame,.int]) (rs:=[.int]) (x:=(J,M,U,())) (r:=((eM J M U),())) ⟨24,ec,[adj]⟩ ⟨[],[],[],[],[]⟩ .nil Try.func116 h) (by
 unfold QT
 have sD:=aI
 obtain⟨hf,aT,h1⟩:=sD
 have hw:=hf.fr.O
 refine⟨⟨⟨aT,by omega⟩,fun aP=> ?_⟩,fun aP=>⟨aI,?_⟩⟩
 ·unfold eM;rw[if_pos (by simpa using aP)]
 ·unfold eM;rw[if_neg (by simpa using aP)];rfl)
def M5 (J:aA) (M:Frame) (U an:Int):Prop:=
  ((decide ((((iv J M U).1).O.length:Int)>0))=true→3=an)∧((decide ((((iv J M U).1).O.length:Int)>0))=false→((iv J M U).1).ah.length≤4611686018427387904→((decide ((((iv J M U).1).ah.length:Int)>0))=true→4=an)∧((decide ((((iv J M U).1).ah.length:Int)>0))=false→((iv J M U).2.1=true→5=an)∧((iv J M U).2.1=false→(iv J M U).2.2=true→6=an)))
def M6 (J:aA) (M:Frame) (U an:Int):Prop:=
  ((0≤U∧U.toNat<M.O.length)∧((((nth M.O U).ar !=0)=true→2=an)∧(((nth M.O U).ar !=0)=false→((iv J M U).1).O.length≤4611686018427387904→M5 J M U an)))∧((((iv J M U).1).O.length≤4611686018427387904)∧(((iv J M U).1).ah.length≤4611686018427387904)∧((!((nth M.O U).ar !=0)&&(!(decide ((((iv J M U).1).O.length:Int)>0))&&(!(decide ((((iv J M U).1).ah.length:Int)>0))&&(!((iv J M U).2.1)&&(!((iv J M U).2.2))))))=true)→0=an)
def M4 (J:aA) (M:Frame) (U:Int) (an:Int):Prop:=
 (q7 J M U)∧(M6 J M U an)
theorem Y0 (J:aA) (M:Frame) (U:Int) (aI:q7 J M U):bZ Try.prog 114 [.agg (bg false J),.agg (bW false M),ag U] (ag (eM J M U)):=(fun(h:M4 J M U (eM J M U))=>bZ.run (ps:=[.df,.frame,.int]) (rs:=[.int]) (x:=(J,M,U,())) (r:=((eM J M U),())) ⟨40,ec,[XT]⟩ ⟨[],[],[],[],[]⟩ .nil Try.func114 h) (by
 unfold M4 M6 M5
 have sD:=aI
 obtain⟨hf,aT,h1⟩:=sD
 have hw:=hf.fr.O
 have T9:iv J M U=(ly J M U,x3 J M U,Cn J M U):=rfl
 rw[T9]
 have bB:(decide (((ly J M U).O.length:Int)>0))=true↔(ly J M U).O≠[]:=by
  rw[decide_eq_true_eq,←List.length_pos_iff];omega
 have e2:(decide (((ly J M U).ah.length:Int)>0))=true↔(ly J M U).ah≠[]:=by
  rw[decide_eq_true_eq,←List.length_pos_iff];omega
 refine⟨aI,⟨⟨aT,by omega⟩,fun aP=> ?_,fun aP _=>⟨fun a3=> ?_,fun a3 _=>⟨fun hb=> ?_,fun hb=>⟨fun hc=> ?_,fun hc bi=> ?_⟩⟩⟩⟩,fun ak=> ?_⟩
 ·unfold eM;rw[if_pos (by simpa using aP)]
 ·unfold eM codeF;rw[if_neg (by simpa using aP),if_pos (bB.1 a3)]
 ·unfold eM codeF;rw[if_neg (by simpa using aP),if_neg (fun h=>by rw[show(decide (((ly J M U).O.length:Int)>0))=true from bB.2 h] at a3;cases a3),if_pos (e2.1 hb)]
 ·unfold eM codeF;rw[if_neg (by simpa using aP),if_neg (fun h=>by rw[show(decide (((ly J M U).O.length:Int)>0))=true from bB.2 h] at a3;cases a3),if_neg (fun h=>by rw[show(decide (((ly J M U).ah.length:Int)>0))=true from e2.2 h] at hb;cases hb),if_pos hc]
 ·unfold eM codeF;rw[if_neg (by simpa using aP),if_neg (fun h=>by rw[show(decide (((ly J M U).O.length:Int)>0))=true from bB.2 h] at a3;cases a3),if_neg (fun h=>by rw[show(decide (((ly J M U).ah.length:Int)>0))=true from e2.2 h] at hb;cases hb),if_neg (by rw[show x3 J M U=false from hc];simp),if_pos bi]
 ·have ak:=ak.2.2
  simp only[Bool.and_eq_true,Bool.not_eq_true'] at ak
  obtain⟨q1,q2,q3,q4,cH⟩:=ak
  unfold eM codeF;rw[if_neg (by simpa using q1),if_neg (fun h=>by rw[show(decide (((ly J M U).O.length:Int)>0))=true from bB.2 h] at q2;cases q2),if_neg (fun h=>by rw[show(decide (((ly J M U).ah.length:Int)>0))=true from e2.2 h] at q3;cases q3),if_neg (by rw[show x3 J M U=false from q4];simp),if_neg (by rw[show Cn J M U=false from cH];simp)])
end Go.Proofs.Ytglpfccgmfhkdaa.Fw
