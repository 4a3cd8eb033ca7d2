/- Walks and summaries of functions, printed by a program of mine (tools/mk2.py), with the proofs of what they owe. -/
import Derived.Test.YtglpfccgmfhkdaaM5
set_option linter.unusedVariables false
set_option maxRecDepth 100000
set_option maxHeartbeats 4000000
set_option linter.unusedSimpArgs false
namespace Go.Proofs.Ytglpfccgmfhkdaa.Fw
open Go
attribute [local irreducible] evS evSD WpS Weak Oper.looksAt
noncomputable def aeR:Code:=iI Try.f140
def aeS:List Item:=[ap 0,ap 1,ap 2,ap 3,ap 4,ap 5,ap 6,ap 7,ap 8,ap 9,ap 10,ap 11,ap 12,ap 13,ap 14,ap 15,ap 16,ap 17,ap 18,ap 19,ap 20,ap 21,ap 22,ap 23,ap 24,ap 25,ap 26,ap 27,ap 28,ap 29,ap 30,ap 31,ap 32,ap 33,ap 34,ap 35,ap 36,ap 37]
def aeT:List (List Nat):=[[],[0],[0,1],[0,1,2],[],rg 0 5,rg 0 6,rg 0 7,rg 0 8,rg 0 9,rg 0 10,rg 0 11,rg 0 12,rg 0 9,rg 0 9++[13],rg 0 9,rg 0 9++[13,14,15],rg 0 9++rg 13 17,rg 0 18,rg 0 19,rg 0 20,rg 0 21,rg 0 22,rg 0 22,rg 0 22++[23],rg 0 25,rg 0 26,rg 0 27,rg 0 28,rg 0 29,rg 0 30,rg 0 27,rg 0 27++[31],rg 0 33,rg 0 34,rg 0 35,rg 0 36,rg 0 37]
abbrev rr (r:Type):Type:=List (List Bool)→Int→List ad→r
def IZ (aQ:rr Prop) (aR:rr Nat) (bb:Int) (hi:List Nat) (aZ:List (List Bool)) (dg:Int) (aE:List ad):Prop:=
  (aE.length=hi.length∧bb.toNat<aE.length)∧((aE.length=hi.length∧bb.toNat<aE.length)∧(aQ aZ dg (aE.set bb.toNat (ad.mk (nth aE bb).ao (IntKind.i64.wrap ((nth aE bb).ag+1)) (nth aE bb).ac (nth aE bb).aq (nth aE bb).ar))∧aR aZ dg (aE.set bb.toNat (ad.mk (nth aE bb).ao (IntKind.i64.wrap ((nth aE bb).ag+1)) (nth aE bb).ac (nth aE bb).aq (nth aE bb).ar))<aR aZ dg aE))
def I0 (aQ:rr Prop) (aR:rr Nat) (J:Way) (bb:Int) (hk:Bool) (aC:List Bool) (aj:List a_) (hw:List ad) (hi:List Nat) (hb aZ:List (List Bool)) (dg:Int) (aE:List ad):Prop:=
  (((aE.length=hi.length∧bb.toNat<aE.length)∧((((nth hi bb)<aZ.length)∧(0≤(nth aE bb).ag∧(nth aE bb).ag.toNat<(nth aE bb).ac.length))∧(((nth hi bb)<aZ.length∧(nth aE bb).ag.toNat<(aZ.getD (nth hi bb) []).length)∧((!(nth (aZ.getD (nth hi bb) []) (nth aE bb).ag))=false→(0≤(nth aE bb).ag∧(nth aE bb).ag.toNat<J.af.length)∧((0≤(nth J.af (nth aE bb).ag)∧(nth J.af (nth aE bb).ag).toNat<aC.length)∧((nth aC (nth J.af (nth aE bb).ag))=false→(decide ((nth aE bb).ag<(IntKind.i64.wrap ((J.af.length:Int) - 1))))=true→(aE.length=hi.length∧bb.toNat<aE.length)∧((((nth hi bb)<aZ.length)∧(0≤(IntKind.i64.wrap ((nth aE bb).ag+1))∧(IntKind.i64.wrap ((nth aE bb).ag+1)).toNat<(nth aE bb).ac.length))∧((nth hi bb)<aZ.length∧(IntKind.i64.wrap ((nth aE bb).ag+1)).toNat<(aZ.getD (nth hi bb) []).length))))))))∧(((!(nth (aZ.getD (nth hi bb) []) (nth aE bb).ag)) || ((nth aC (nth J.af (nth aE bb).ag)) || ((decide ((nth aE bb).ag<(IntKind.i64.wrap ((J.af.length:Int) - 1))))&&(!(nth (aZ.getD (nth hi bb) []) (IntKind.i64.wrap ((nth aE bb).ag+1)))))))=true→zz J bb hk aC aj hw hi hb aC aj aE hi aZ))∧((!((!(nth (aZ.getD (nth hi bb) []) (nth aE bb).ag)) || ((nth aC (nth J.af (nth aE bb).ag)) || ((decide ((nth aE bb).ag<(IntKind.i64.wrap ((J.af.length:Int) - 1))))&&(!(nth (aZ.getD (nth hi bb) []) (IntKind.i64.wrap ((nth aE bb).ag+1))))))))=true→IZ aQ aR bb hi aZ dg aE)
def I1 (aQ:rr Prop) (aR:rr Nat) (J:Way) (bb:Int) (hk:Bool) (aC:List Bool) (aj:List a_) (hw:List ad) (hi:List Nat) (hb aZ:List (List Bool)) (dg:Int) (aE:List ad):Prop:=
  ((aE.length=hi.length∧bb.toNat<aE.length)∧((decide ((nth aE bb).ag<(J.af.length:Int)))=false→(B2 bb hk aC aj aE hi aZ)∧(∀(Ai:List ad) (i14:List Nat) (yg:List (List Bool)),uN bb hk aC aj aE hi aZ aC aj Ai i14 yg→(zz J bb hk aC aj hw hi hb aC aj Ai i14 yg))))∧((decide ((nth aE bb).ag<(J.af.length:Int)))=true→(aE.length=hi.length∧bb.toNat<aE.length)∧(I0 aQ aR J bb hk aC aj hw hi hb aZ dg aE))
def I2 (ay:List (List Bool)→Int→Prop) (aB:List (List Bool)→Int→Nat) (J:Way) (bb:Int) (aC:List Bool) (hw:List ad) (hi:List Nat) (aZ:List (List Bool)) (dg:Int):Prop:=
  ((0≤dg∧dg.toNat<J.af.length)∧((0≤(nth J.af dg)∧(nth J.af dg).toNat<aC.length)∧((nth aC (nth J.af dg))=true→(hw.length=hi.length∧bb.toNat<hw.length)∧((((nth hi bb)<aZ.length)∧(0≤dg∧dg.toNat<(nth hw bb).ac.length))∧((nth hi bb)<aZ.length∧dg.toNat<(aZ.getD (nth hi bb) []).length)))))∧(∀vB:List (List Bool),(bif (nth aC (nth J.af dg)) then(aZ.set (nth hi bb) ((aZ.getD (nth hi bb) []).set dg.toNat true)) else aZ)=vB→(ay vB (IntKind.i64.wrap (dg+1))∧aB vB (IntKind.i64.wrap (dg+1))<aB aZ dg))
def IY (J:Way) (bb:Int) (hg:Nat) (hk:Bool) (aC:List Bool) (aj:List a_) (hw:List ad) (hi:List Nat) (hb:List (List Bool)) (ay:List (List Bool)→Int→Prop) (aB:List (List Bool)→Int→Nat) (aQ:rr Prop) (aR:rr Nat):Prop:=
 J.af.length≤4611686018427387904→ay hb 0∧ ∀(aZ:List (List Bool)) (dg:Int),ay aZ dg→(((decide (dg<(J.af.length:Int)))=false→aQ aZ dg hw∧ ∀(aE:List ad),aQ aZ dg aE→(I1 aQ aR J bb hk aC aj hw hi hb aZ dg aE))∧((decide (dg<(J.af.length:Int)))=true→I2 ay aB J bb aC hw hi aZ dg))
theorem aeU (J:Way) (bb:Int) (hg:Nat) (hk:Bool) (aC:List Bool) (aj:List a_) (hw:List ad) (hi:List Nat) (hb:List (List Bool)) (ay:List (List Bool)→Int→Prop) (aB:List (List Bool)→Int→Nat) (aQ:rr Prop) (aR:rr Nat) (h:IY J bb hg hk aC aj hw hi hb ay aB aQ aR):dI Try.prog 140 [.agg (dw false J),.ptr 0 hg 0 0,.ptr 3 0 (0+bb.toNat) 0] (⟨hg,4,[[an hk,ak 1 0 aC.length,ak 2 0 aj.length,ak 3 0 hw.length]]⟩::⟨0,1,List.map aY aC⟩::⟨0,2,List.map a7 aj⟩::⟨0,5,a0 4 hw hi⟩::List.map bm hb) (fun r H'=> ∃(e3:List ad) (gb:List Nat) (ek:List (List Bool)),r= .tup []∧H'=(⟨hg,4,[[an hk,ak 1 0 aC.length,ak 2 0 aj.length,ak 3 0 e3.length]]⟩::⟨0,1,List.map aY aC⟩::⟨0,2,List.map a7 aj⟩::⟨0,5,a0 4 e3 gb⟩::List.map bm ek)∧zz J bb hk aC aj hw hi hb aC aj e3 gb ek):=by
 unfold IY at h
 refine dI.go (fn:=Try.f140) [(0,.agg (dw false J)),(1,.ptr 0 hg 0 0),(2,.ptr 3 0 (0+bb.toNat) 0)] Try.func140 (fun _ _=> ?_)
 show WpS _ (bX aeR 1) _ ⟨bh 92 [(0,.agg (dw false J)),(1,.ptr 0 hg 0 0),(2,.ptr 3 0 (0+bb.toNat) 0)],[],(⟨hg,4,[[an hk,ak 1 0 aC.length,ak 2 0 aj.length,ak 3 0 hw.length]]⟩::⟨0,1,List.map aY aC⟩::⟨0,2,List.map a7 aj⟩::⟨0,5,a0 4 hw hi⟩::List.map bm hb)⟩
 refine sK [] 0 [(3,aA 3 0)] [1] [0,1,2] (fun L=>(3,(dw false J))::L) id ?_
 refine cD [(6,ah (J.af.length:Int))] [3] (J.af.length≤4611686018427387904) ?_ (fun q2=> ?_)
 ·
  refine bL [] 1 ?_
  refine sLen 3 (some 12) [(11,bK c_ J.af),(10,aA 3 0)] c_ J.af (fun q3=> ?_)
  exact b5 [(6,ah (J.af.length:Int))] q3
 replace h:=h q2
 refine hN ?_
 refine cD [(14,bK c_ J.af),(15,ah (J.af.length:Int)),(16,ah 0)] [4] (True) ?_ (fun q4=> ?_)
 ·
  refine bL [] 2 ?_
  refine sLen 3 (some 15) [(14,bK c_ J.af),(13,aA 3 0)] c_ J.af (fun cR=> ?_)
  exact b5 [(16,ah 0)] trivial
 refine fo 0 ?_
 obtain⟨mH,h⟩:=h
 refine kf (fun(v:List (List Bool)×Int)=>(⟨(bh 92 [(1,.ptr 0 hg 0 0),(2,.ptr 3 0 (0+bb.toNat) 0),(3,aA 3 0),(6,ah (J.af.length:Int)),(14,bK c_ J.af),(15,ah (J.af.length:Int)),(16,ah (v.2))]),[(3,(dw false J))],(⟨hg,4,[[an hk,ak 1 0 aC.length,ak 2 0 aj.length,ak 3 0 hw.length]]⟩::⟨0,1,List.map aY aC⟩::⟨0,2,List.map a7 aj⟩::⟨0,5,a0 4 hw hi⟩::List.map bm (v.1))⟩:St)) (fun(v:List (List Bool)×Int)=>ay (v.1) (v.2)) (fun(v:List (List Bool)×Int)=>aB (v.1) (v.2)) (hb,0) (dC []) mH (fun v aX=> ?_)
 obtain⟨aZ,dg⟩:=v
 replace h:=h aZ dg aX
 dsimp only
 refine ei [] 3 [(17,an (decide (dg<(J.af.length:Int))))] [1] [7] ?_
 obtain⟨pa,h⟩:=h
 refine cD [] [0,1,7] ((decide (dg<(J.af.length:Int)))=true) ?_ (fun fN=> ?_)
 ·
  replace h:=pa
  refine dJ (fun fD=> ?_) (fun fD=> ?_)
  ·
   refine ep ?_
   exact ci.normal (by simp only[fD]<;>rfl) ef
  ·
   replace h:=h fD
   refine iY 0 ?_
   refine ci.exit ?_
   refine dZ.exit ?_
   refine cr.here ?_
   refine eb.normal ?_
   refine hN ?_
   refine fo 2 ?_
   obtain⟨jw,h⟩:=h
   refine kf (fun(v:List ad)=>(⟨(bh 92 [(1,.ptr 0 hg 0 0),(2,.ptr 3 0 (0+bb.toNat) 0),(3,aA 3 0),(6,ah (J.af.length:Int))]),[(3,(dw false J))],(⟨hg,4,[[an hk,ak 1 0 aC.length,ak 2 0 aj.length,ak 3 0 v.length]]⟩::⟨0,1,List.map aY aC⟩::⟨0,2,List.map a7 aj⟩::⟨0,5,a0 4 v hi⟩::List.map bm aZ)⟩:St)) (fun(v:List ad)=>aQ aZ dg v) (fun(v:List ad)=>aR aZ dg v) hw (dC []) jw (fun aE aX=> ?_)
   replace h:=h aE aX
   unfold I1 at h
   obtain⟨p7,h⟩:=h
   refine cD [] [4] ((decide ((nth aE bb).ag<(J.af.length:Int)))=true) ?_ (fun iM=> ?_)
   ·
    replace h:=p7
    obtain⟨mc,h⟩:=h
    refine cD [(40,an (decide ((nth aE bb).ag<(J.af.length:Int))))] [4] (True) ?_ (fun gX=> ?_)
    ·
     replace h:=mc
     refine bL [] 8 ?_
     have ix:=h
     refine iO 4 (some 38) [(37,.ptr 3 0 (0+bb.toNat) 1),(36,.ptr 3 0 (0+bb.toNat) 0),(35,.ptr 3 0 (0+bb.toNat) 0)] (a0 4 aE hi) bb 3 1 0 (ah (nth aE bb).ag) (dO ix.1 ix.2) ?_
     exact b5 [(40,an (decide ((nth aE bb).ag<(J.af.length:Int)))),(39,ah (J.af.length:Int))] trivial
    refine dJ (fun h_=> ?_) (fun h_=> ?_)
    ·
     refine ep ?_
     exact ci.normal (by simp only[fD,h_]<;>rfl) ef
    ·
     replace h:=h h_
     refine iY 2 ?_
     refine ci.exit ?_
     refine dZ.exit ?_
     refine cr.here ?_
     refine eb.normal ?_
     refine bL [] 12 ?_
     obtain⟨j7,h⟩:=h
     refine tx 2 (some 91) [(90,.ptr 3 0 (0+bb.toNat) 0)] [.ptr 3 0 (0+bb.toNat) 0] _ (IX bb hg hk aC aj aE hi aZ j7) (fun r H' aj=>by obtain⟨_,_,_,rfl,_⟩:=aj;rfl) ?_
     rintro r H' ⟨Ai,i14,yg,rfl,rfl,hS⟩
     replace h:=h Ai i14 yg hS
     refine dX [] ?_
     refine A3 (t0) [] ?_
     exact⟨Ai,i14,yg,rfl,rfl,h⟩
   replace h:=h iM
   refine fo 3 ?_
   obtain⟨lJ,h⟩:=h
   refine cD [(9,ah (nth aE bb).ag)] [4] (True) ?_ (fun hF=> ?_)
   ·
    replace h:=lJ
    refine bL [] 9 ?_
    have iy:=h
    refine iO 4 (some 44) [(43,.ptr 3 0 (0+bb.toNat) 1),(42,.ptr 3 0 (0+bb.toNat) 0),(41,.ptr 3 0 (0+bb.toNat) 0)] (a0 4 aE hi) bb 3 1 0 (ah (nth aE bb).ag) (dO iy.1 iy.2) ?_
    exact b5 [(9,ah (nth aE bb).ag)] trivial
   unfold I0 at h
   obtain⟨o_,h⟩:=h
   refine cD [] [0,1,4] ((!((!(nth (aZ.getD (nth hi bb) []) (nth aE bb).ag)) || ((nth aC (nth J.af (nth aE bb).ag)) || ((decide ((nth aE bb).ag<(IntKind.i64.wrap ((J.af.length:Int) - 1))))&&(!(nth (aZ.getD (nth hi bb) []) (IntKind.i64.wrap ((nth aE bb).ag+1))))))))=true) ?_ (fun ku=> ?_)
   ·
    replace h:=o_
    obtain⟨la,h⟩:=h
    refine cD [(82,an ((!(nth (aZ.getD (nth hi bb) []) (nth aE bb).ag)) || ((nth aC (nth J.af (nth aE bb).ag)) || ((decide ((nth aE bb).ag<(IntKind.i64.wrap ((J.af.length:Int) - 1))))&&(!(nth (aZ.getD (nth hi bb) []) (IntKind.i64.wrap ((nth aE bb).ag+1))))))))] [0,1,4] (True) ?_ (fun jM=> ?_)
    ·
     replace h:=la
     refine nj [] 10 aeS aeT [] ?_
     obtain⟨k_,h⟩:=h
     refine nS 4 (some 48) [(47,.ptr 3 0 (0+bb.toNat) 2),(46,.ptr 3 0 (0+bb.toNat) 0),(45,.ptr 3 0 (0+bb.toNat) 0)] (a0 4 aE hi) bb 36 2 0 (ak ((nth hi bb)+4) 0 (nth aE bb).ac.length) (dO k_.1 k_.2) ?_
     obtain⟨⟨ih,agZ⟩,h⟩:=h
     refine vx 2 (some 50) [(49,ah (nth aE bb).ag)] aZ (nth hi bb) 4 ih agZ ?_
     obtain⟨ju,h⟩:=h
     refine Ab 1 (some 51) [] aZ (nth hi bb) (nth aE bb).ag 4 ju.1 ju.2 ?_
     refine qd 2 53 (!(nth (aZ.getD (nth hi bb) []) (nth aE bb).ag)) [(52,an (!(nth (aZ.getD (nth hi bb) []) (nth aE bb).ag)))] (fun ha=> ?_) (fun ha=> ?_)
     ·
      exact kU ([(82,an true)]++gv [81,80,79,78,77,76,75,74,73,72,71,70,69,68,67]++[(66,an true),(65,an true)]++gv [64,63,62,61,60,59,58,57,56,55,54]) trivial (by simp only[fD,iM,ha]<;>kernel_rfl)
     ·
      replace h:=h ha
      refine Dc 4 (some 57) (ak 1 0 aC.length) [(56,.ptr 0 hg 0 1),(55,.ptr 0 hg 0 0),(54,.ptr 0 hg 0 0)] (φ:=hg=hg) rfl ?_
      obtain⟨nd,h⟩:=h
      refine st 4 (some 61) [(60,ah (nth aE bb).ag),(59,bK c_ J.af),(58,aA 3 0)] c_ J.af 1 nd ?_
      obtain⟨Tz,h⟩:=h
      refine vw 2 (some 63) [(62,ah (nth J.af (nth aE bb).ag))] 1 0 1 Tz ?_
      refine xS 1 (some 64) [] aY aC (nth J.af (nth aE bb).ag) 4 0 0 (an (nth aC (nth J.af (nth aE bb).ag))) (by simpa using Tz.2) ?_
      refine qd 2 66 (nth aC (nth J.af (nth aE bb).ag)) [(65,an (nth aC (nth J.af (nth aE bb).ag)))] (fun iz=> ?_) (fun iz=> ?_)
      ·
       exact kU ([(82,an true)]++gv [81,80,79,78,77,76,75,74,73,72,71,70,69,68,67]) trivial (by simp only[fD,iM,ha,iz]<;>kernel_rfl)
      ·
       replace h:=h iz
       refine qd 5 71 (decide ((nth aE bb).ag<(IntKind.i64.wrap ((J.af.length:Int) - 1)))) [(70,an (decide ((nth aE bb).ag<(IntKind.i64.wrap ((J.af.length:Int) - 1))))),(69,ah (IntKind.i64.wrap ((J.af.length:Int) - 1))),(68,ah (J.af.length:Int)),(67,ah (nth aE bb).ag)] (fun ii=> ?_) (fun ii=> ?_)
       ·
        replace h:=h ii
        obtain⟨nM,h⟩:=h
        refine nS 4 (some 75) [(74,.ptr 3 0 (0+bb.toNat) 2),(73,.ptr 3 0 (0+bb.toNat) 0),(72,.ptr 3 0 (0+bb.toNat) 0)] (a0 4 aE hi) bb 36 2 0 (ak ((nth hi bb)+4) 0 (nth aE bb).ac.length) (dO nM.1 nM.2) ?_
        obtain⟨⟨kv,ag1⟩,h⟩:=h
        refine vx 3 (some 78) [(77,ah (IntKind.i64.wrap ((nth aE bb).ag+1))),(76,ah (nth aE bb).ag)] aZ (nth hi bb) 4 kv ag1 ?_
        have mE:=h
        refine Ab 1 (some 79) [] aZ (nth hi bb) (IntKind.i64.wrap ((nth aE bb).ag+1)) 4 mE.1 mE.2 ?_
        exact kU [(82,an (!(nth (aZ.getD (nth hi bb) []) (IntKind.i64.wrap ((nth aE bb).ag+1))))),(81,an (!(nth (aZ.getD (nth hi bb) []) (IntKind.i64.wrap ((nth aE bb).ag+1))))),(80,an (!(nth (aZ.getD (nth hi bb) []) (IntKind.i64.wrap ((nth aE bb).ag+1)))))] trivial (by simp only[fD,iM,ha,iz,ii]<;>kernel_rfl)
       ·
        exact kU ([(82,an false),(81,an false)]++gv [80,79,78,77,76,75,74,73,72]) trivial (by simp only[fD,iM,ha,iz,ii]<;>kernel_rfl)
    refine dJ (fun jv=> ?_) (fun jv=> ?_)
    ·
     replace h:=h jv
     refine hB ?_
     refine ci.ret ?_
     refine cr.ret ?_
     refine dZ.ret ?_
     refine cr.ret ?_
     refine eb.ret ?_
     refine mJ (t0) [] ?_
     exact⟨aE,hi,aZ,rfl,rfl,h⟩
    ·
     refine ep ?_
     exact ci.normal (by simp only[fD,iM,jv]<;>rfl) ef
   replace h:=h ku
   unfold IZ at h
   refine bL [] 11 ?_
   obtain⟨hd,h⟩:=h
   refine iO 4 (some 86) [(85,.ptr 3 0 (0+bb.toNat) 1),(84,.ptr 3 0 (0+bb.toNat) 0),(83,.ptr 3 0 (0+bb.toNat) 0)] (a0 4 aE hi) bb 3 1 0 (ah (nth aE bb).ag) (dO hd.1 hd.2) ?_
   obtain⟨lb,h⟩:=h
   refine j8 4 none [(89,.ptr 3 0 (0+bb.toNat) 1),(88,.ptr 3 0 (0+bb.toNat) 0),(87,ah (IntKind.i64.wrap ((nth aE bb).ag+1)))] (a0 4 aE hi) bb 1 1 0 [ah (IntKind.i64.wrap ((nth aE bb).ag+1))] 3 (a0 4 (aE.set bb.toNat (ad.mk (nth aE bb).ao (IntKind.i64.wrap ((nth aE bb).ag+1)) (nth aE bb).ac (nth aE bb).aq (nth aE bb).ar)) hi) (dO lb.1 lb.2) (kj lb.1 lb.2) ?_
   refine dX [] ?_
   refine cr.normal ?_
   exact dZ.again (aE.set bb.toNat (ad.mk (nth aE bb).ao (IntKind.i64.wrap ((nth aE bb).ag+1)) (nth aE bb).ac (nth aE bb).aq (nth aE bb).ar)) h (hz (s':=⟨(bh 92 [(1,.ptr 0 hg 0 0),(2,.ptr 3 0 (0+bb.toNat) 0),(3,aA 3 0),(6,ah (J.af.length:Int))]),[(3,(dw false J))],(⟨hg,4,[[an hk,ak 1 0 aC.length,ak 2 0 aj.length,ak 3 0 aE.length]]⟩::⟨0,1,List.map aY aC⟩::⟨0,2,List.map a7 aj⟩::⟨0,5,a0 4 (aE.set bb.toNat (ad.mk (nth aE bb).ao (IntKind.i64.wrap ((nth aE bb).ag+1)) (nth aE bb).ac (nth aE bb).aq (nth aE bb).ar)) hi⟩::List.map bm aZ)⟩) (dC (n:=92) (A':=[(1,.ptr 0 hg 0 0),(2,.ptr 3 0 (0+bb.toNat) 0),(3,aA 3 0),(6,ah (J.af.length:Int))]) (L':=[(3,(dw false J))]) []) (congrArg (fun z=>(⟨(bh 92 [(1,.ptr 0 hg 0 0),(2,.ptr 3 0 (0+bb.toNat) 0),(3,aA 3 0),(6,ah (J.af.length:Int))]),[(3,(dw false J))],(⟨hg,4,[[an hk,ak 1 0 aC.length,ak 2 0 aj.length,ak 3 0 z]]⟩::⟨0,1,List.map aY aC⟩::⟨0,2,List.map a7 aj⟩::⟨0,5,a0 4 (aE.set bb.toNat (ad.mk (nth aE bb).ao (IntKind.i64.wrap ((nth aE bb).ag+1)) (nth aE bb).ac (nth aE bb).aq (nth aE bb).ar)) hi⟩::List.map bm aZ)⟩:St)) (show aE.length=(aE.set bb.toNat (ad.mk (nth aE bb).ao (IntKind.i64.wrap ((nth aE bb).ag+1)) (nth aE bb).ac (nth aE bb).aq (nth aE bb).ar)).length by simp)))
 replace h:=h fN
 unfold I2 at h
 obtain⟨mG,h⟩:=h
 obtain⟨vB,lc⟩: ∃w:List (List Bool),(bif (nth aC (nth J.af dg)) then(aZ.set (nth hi bb) ((aZ.getD (nth hi bb) []).set dg.toNat true)) else aZ)=w:=⟨_,rfl⟩
 refine e_ [] [7] id (fun _=>(⟨hg,4,[[an hk,ak 1 0 aC.length,ak 2 0 aj.length,ak 3 0 hw.length]]⟩::⟨0,1,List.map aY aC⟩::⟨0,2,List.map a7 aj⟩::⟨0,5,a0 4 hw hi⟩::List.map bm vB)) (True) ?_ (fun nN=> ?_)
 ·
  replace h:=mG
  refine fo 1 ?_
  obtain⟨lK,h⟩:=h
  refine cD [(7,ah dg),(8,ah (nth J.af dg))] [7] (True) ?_ (fun mf=> ?_)
  ·
   replace h:=lK
   refine bL [] 4 ?_
   have mF:=h
   refine ld 2 (some 19) [(18,ah dg)] c_ J.af 1 mF ?_
   exact b5 [(8,ah (nth J.af dg)),(7,ah dg),(20,ah (nth J.af dg))] trivial
  obtain⟨sk,h⟩:=h
  refine cD [(27,an (nth aC (nth J.af dg)))] [1,1,7] (True) ?_ (fun nf=> ?_)
  ·
   replace h:=sk
   refine bL [] 5 ?_
   refine nP 4 (some 24) (ak 1 0 aC.length) [(23,.ptr 0 hg 0 1),(22,.ptr 0 hg 0 0),(21,.ptr 0 hg 0 0)] (φ:=hg=hg) rfl ?_
   have Tr:=h
   refine lM 2 (some 26) [(25,ah (nth J.af dg))] 1 0 1 Tr ?_
   refine Qh 1 (some 27) [] aY aC (nth J.af dg) 4 0 0 (an (nth aC (nth J.af dg))) (by simpa using Tr.2) ?_
   exact b5 [] trivial
  refine dJ (fun ng=> ?_) (fun ng=> ?_)
  ·
   replace h:=h ng
   refine bL [] 6 ?_
   obtain⟨jx,h⟩:=h
   refine iO 4 (some 31) [(30,.ptr 3 0 (0+bb.toNat) 2),(29,.ptr 3 0 (0+bb.toNat) 0),(28,.ptr 3 0 (0+bb.toNat) 0)] (a0 4 hw hi) bb 36 2 0 (ak ((nth hi bb)+4) 0 (nth hw bb).ac.length) (dO jx.1 jx.2) ?_
   obtain⟨⟨p8,agY⟩,h⟩:=h
   refine ac9 2 (some 33) [(32,ah dg)] aZ (nth hi bb) 4 p8 agY ?_
   have mg:=h
   refine ade 1 none [] aZ (nth hi bb) dg true (fun r=>(⟨hg,4,[[an hk,ak 1 0 aC.length,ak 2 0 aj.length,ak 3 0 hw.length]]⟩::⟨0,1,List.map aY aC⟩::⟨0,2,List.map a7 aj⟩::⟨0,5,a0 4 hw hi⟩::r)) mg.1 mg.2 ?_
   refine dX [] ?_
   refine cr.normal ?_
   exact ci.normal trivial (by simp only[←lc,fN,ng,cond_true,cond_false];exact ef)
  ·
   refine ep ?_
   refine cr.normal ?_
   exact ci.normal trivial (by simp only[←lc,fN,ng,cond_true,cond_false];exact ef)
 replace h:=h vB lc
 refine bL [] 7 ?_
 refine dX [(16,ah (IntKind.i64.wrap (dg+1))),(34,ah (IntKind.i64.wrap (dg+1)))] ?_
 exact dZ.again (vB,(IntKind.i64.wrap (dg+1))) h (dC [])
theorem aeQ (J:Way) (bb:Int) (hg:Nat) (hk:Bool) (aC:List Bool) (aj:List a_) (hw:List ad) (hi:List Nat) (hb:List (List Bool)) (aI:Pe J bb hk aC aj hw hi hb):dI Try.prog 140 [.agg (dw false J),.ptr 0 hg 0 0,.ptr 3 0 (0+bb.toNat) 0] (⟨hg,4,[[an hk,ak 1 0 aC.length,ak 2 0 aj.length,ak 3 0 hw.length]]⟩::⟨0,1,List.map aY aC⟩::⟨0,2,List.map a7 aj⟩::⟨0,5,a0 4 hw hi⟩::List.map bm hb) (fun r H'=> ∃(e3:List ad) (gb:List Nat) (ek:List (List Bool)),r= .tup []∧H'=(⟨hg,4,[[an hk,ak 1 0 aC.length,ak 2 0 aj.length,ak 3 0 e3.length]]⟩::⟨0,1,List.map aY aC⟩::⟨0,2,List.map a7 aj⟩::⟨0,5,a0 4 e3 gb⟩::List.map bm ek)∧zz J bb hk aC aj hw hi hb aC aj e3 gb ek):=aeU J bb hg hk aC aj hw hi hb (acb J.af (c5 hk aC aj hw hi hb) (view hw hi hb) hi bb hw) (fun _ k=>cy J.af.length k) (fun bs _ ws=>acd J.af (c5 hk aC aj hw hi hb) (view hw hi hb) hi bb bs ws) (fun _ _ ws=>((J.af.length:Int) - (nth ws bb).ag).toNat) (by
 unfold IY
 obtain⟨F,aU,h1,hs,r3,hn,pO,l8⟩:=aI
 have bf:bb.toNat<hw.length:=by omega
 have dz:=F.oR bf
 have Ff: ∀k:Int,0≤k→k.toNat<J.af.length→0≤nth J.af k∧(nth J.af k).toNat<aC.length:=fun k a5 df=>by
  have:=r3 _ (dq df);omega
 intro aF
 refine⟨⟨c6 (dd _),by rw[Int.toNat_zero,S8];exact dz⟩,fun bs k aX=>⟨fun BE=> ?_,fun BE=> ?_⟩⟩
 ·obtain⟨aX,eC⟩:=aX
  have jH: ¬k<(J.af.length:Int):=by simpa using BE
  have a5:=aX.1
  rw[S_ hn (by omega)] at eC
  have wB:(nK J.af (c5 hk aC aj hw hi hb) (nth (view hw hi hb) bb)).length=J.af.length:=by unfold nK;rw[List.length_zipWith];omega
  refine⟨⟨(nth (view hw hi hb) bb).ag,Lr pO l8,eC⟩,fun ws cZ=> ?_⟩
  obtain⟨g,sY,gj⟩:=cZ
  unfold I1
  have bA:(nth ws bb).ag=g:=gj.ag
  have e2:bs.getD (nth hi bb) []=nK J.af (c5 hk aC aj hw hi hb) (nth (view hw hi hb) bb):=gj.ac
  have dV:(nth ws bb).ac.length=J.af.length:=gj.qu.trans wB
  have Fm:=sY
  obtain⟨bw,aT,-⟩:=Fm
  have kl:=gj.fA
  have gR:=gj.qT
  have bx:IntKind.i64.wrap ((J.af.length:Int) - 1)=(J.af.length:Int) - 1:=fu (by omega) (by omega)
  rw[bA]
  refine⟨⟨kl,fun hc=>⟨⟨gj.G,aU,by omega⟩,fun w i b ko=> ?_⟩⟩,fun hc=>⟨kl,?_⟩⟩
  ·obtain⟨G,hv⟩:=ko
   have nr:=gj.again G hv
   refine⟨nr.G,?_⟩
   rw[nr.g0,gj.xg]
   have fT:nA J.af (c5 hk aC aj hw hi hb) (nK J.af (c5 hk aC aj hw hi hb) (nth (view hw hi hb) bb)) g=false:=by unfold nA;rw[hc];rfl
   have h0:=EX hs sY fT
   have Bz: ¬g<(J.af.length:Int):=by simpa using hc
   congr 1
   rw[Pb,if_pos (by omega),wB]
  ·have LV:g<(J.af.length:Int):=by simpa using hc
   unfold I0
   rw[bA,e2,dV]
   have LL:=age (f:=c5 hk aC aj hw hi hb) (ac:=nK J.af (c5 hk aC aj hw hi hb) (nth (view hw hi hb) bb)) hs hc
   refine⟨⟨⟨kl,⟨gR,bw,by omega⟩,⟨gR,by omega⟩,fun _=>⟨⟨bw,by omega⟩,Ff g bw (by omega),fun _ aL=>⟨kl,?_⟩⟩⟩,fun Y1=> ?_⟩,fun sZ=> ?_⟩
   ·rw[bx] at aL
    have aL:g<(J.af.length:Int) - 1:=by simpa using aL
    rw[fu (by omega) (by omega)]
    exact⟨⟨gR,by omega,by omega⟩,gR,by omega⟩
   ·have bi:nA J.af (c5 hk aC aj hw hi hb) (nK J.af (c5 hk aC aj hw hi hb) (nth (view hw hi hb) bb)) g=false:=by
     have h2:(!nA J.af (c5 hk aC aj hw hi hb) (nK J.af (c5 hk aC aj hw hi hb) (nth (view hw hi hb) bb)) g)=true:=LL.symm.trans Y1
     simpa using h2
    have h0:=EX hs sY bi
    refine⟨gj.G,?_⟩
    rw[gj.g0]
    congr 1
    rw[Pb,if_neg (by omega),h0]
   ·have bi:nA J.af (c5 hk aC aj hw hi hb) (nK J.af (c5 hk aC aj hw hi hb) (nth (view hw hi hb) bb)) g=true:=by
     have h2:(!nA J.af (c5 hk aC aj hw hi hb) (nK J.af (c5 hk aC aj hw hi hb) (nth (view hw hi hb) bb)) g)=false:=LL.symm.trans (not_eq sZ)
     simpa using h2
    obtain⟨bi,_⟩:=Ls hs sY bi
    unfold IZ
    rw[bA]
    have ch:IntKind.i64.wrap (g+1)=g+1:=fu (by omega) (by omega)
    have x7:=gj.Qn (IntKind.i64.wrap (g+1))
    refine⟨kl,kl,⟨_,bi,x7⟩,?_⟩
    have iu:=x7.ag
    show((J.af.length:Int) - (nth (ws.set bb.toNat _) bb).ag).toNat<((J.af.length:Int) - (nth ws bb).ag).toNat
    rw[iu,bA]
    show((J.af.length:Int) - IntKind.i64.wrap (g+1)).toNat<_
    rw[ch];omega
 ·obtain⟨aX,eC⟩:=aX
  have kH:k<(J.af.length:Int):=by simpa using BE
  have a5:=aX.1
  have BV:(ka J.af (c5 hk aC aj hw hi hb) (nth (view hw hi hb) bb).ac k.toNat).length=J.af.length:=by rw[Jy hn (by omega),hn]
  have e2:bs.getD (nth hi bb) []=ka J.af (c5 hk aC aj hw hi hb) (nth (view hw hi hb) bb).ac k.toNat:=eC.ac
  have dV:(nth hw bb).ac.length=J.af.length:=eC.qu.trans BV
  have gR:=eC.qT
  unfold I2
  rw[e2]
  refine⟨⟨⟨a5,by omega⟩,Ff k a5 (by omega),fun _=>⟨eC.fA,⟨gR,a5,by omega⟩,gR,by omega⟩⟩,fun w e3=> ?_⟩
  have bi:=cG (cq aF) aX BE rfl
  refine⟨⟨bi.1,?_⟩,bi.2⟩
  rw[iE (cq aF) a5 kH,show(k+1).toNat=k.toNat+1 by omega,←Ta hn (by omega),←e3]
  have pI:=S9 (s:=J.af) (f:=c5 hk aC aj hw hi hb) (b:=(nth (view hw hi hb) bb).ac) hn (show k.toNat<_ by omega)
  rw[ig a5] at pI
  have qP:nth aC (nth J.af k)=dG (c5 hk aC aj hw hi hb) (J.af[k.toNat]'(by omega)):=by
   unfold dG
   rw[←gq (by omega)];rfl
  rw[qP]
  cases j0:dG (c5 hk aC aj hw hi hb) (J.af[k.toNat]'(by omega)) with
  | true=>
   rw[Bool.or_true]
   exact eC.H9 _ (by rw[List.length_set])
  | false=>
   rw[Bool.or_false]
   have:(ka J.af (c5 hk aC aj hw hi hb) (nth (view hw hi hb) bb).ac k.toNat).set k.toNat ((nth (view hw hi hb) bb).ac[k.toNat]'(by omega))=ka J.af (c5 hk aC aj hw hi hb) (nth (view hw hi hb) bb).ac k.toNat:=by
    rw[←pI,gq (xs:=ka _ _ _ _) (by rw[BV];omega)];exact List.set_getElem_self _
   rw[this];exact eC)
noncomputable def ae6:Code:=iI Try.f98
def ae9:List Item:=[ap 0,ap 1,ap 2,ap 3,ap 4,ap 5,ap 6,ap 7,ap 8,ap 9,ap 10,ap 11,ap 12,ap 13,ap 14,ap 15,ap 16]
def ae_:List (List Nat):=[[],[0],[0,1],[0,1,2],rg 0 4,rg 0 5,rg 0 6,rg 0 7,rg 0 8,rg 0 9,rg 0 6,rg 0 6++[10],rg 0 6++[10,11],rg 0 6++[10,11,12],rg 0 14,rg 0 15,rg 0 16]
def ae7:List Item:=[ap 0,ap 1,ap 2,ap 3,ap 4,ap 5]
def ae8:List (List Nat):=[[],[],[1],[1,2],[],rg 0 5]
def I8 (J:az) (aC:List Bool) (b6:List Nat) (ae:Int) (aE:List ad):Prop:=
  (((nth aE ae).ao !=4)&&(nth aC (nth (nth J.O ae).af 0)))=true→(aE.length=b6.length∧ae.toNat<aE.length)∧((aE.set ae.toNat (ad.mk 4 (nth aE ae).ag (nth aE ae).ac (nth aE ae).aq (nth aE ae).ar)).length=b6.length∧ae.toNat<(aE.set ae.toNat (ad.mk 4 (nth aE ae).ag (nth aE ae).ac (nth aE ae).aq (nth aE ae).ar)).length)
def I9 (b6:List Nat) (ae:Int) (aw:List ad):Prop:=
  ((aw.set ae.toNat (ad.mk 1 (nth aw ae).ag (nth aw ae).ac (nth aw ae).aq (nth aw ae).ar)).set ae.toNat (ad.mk 2 (nth (aw.set ae.toNat (ad.mk 1 (nth aw ae).ag (nth aw ae).ac (nth aw ae).aq (nth aw ae).ar)) ae).ag (nth (aw.set ae.toNat (ad.mk 1 (nth aw ae).ag (nth aw ae).ac (nth aw ae).aq (nth aw ae).ar)) ae).ac (nth (aw.set ae.toNat (ad.mk 1 (nth aw ae).ag (nth aw ae).ac (nth aw ae).aq (nth aw ae).ar)) ae).aq (nth (aw.set ae.toNat (ad.mk 1 (nth aw ae).ag (nth aw ae).ac (nth aw ae).aq (nth aw ae).ar)) ae).ar)).length=b6.length∧ae.toNat<((aw.set ae.toNat (ad.mk 1 (nth aw ae).ag (nth aw ae).ac (nth aw ae).aq (nth aw ae).ar)).set ae.toNat (ad.mk 2 (nth (aw.set ae.toNat (ad.mk 1 (nth aw ae).ag (nth aw ae).ac (nth aw ae).aq (nth aw ae).ar)) ae).ag (nth (aw.set ae.toNat (ad.mk 1 (nth aw ae).ag (nth aw ae).ac (nth aw ae).aq (nth aw ae).ar)) ae).ac (nth (aw.set ae.toNat (ad.mk 1 (nth aw ae).ag (nth aw ae).ac (nth aw ae).aq (nth aw ae).ar)) ae).aq (nth (aw.set ae.toNat (ad.mk 1 (nth aw ae).ag (nth aw ae).ac (nth aw ae).aq (nth aw ae).ar)) ae).ar)).length
def I_ (J:az) (hk:Bool) (aC:List Bool) (aj:List a_) (aZ:List (List Bool)) (b6:List Nat) (ae:Int) (aw:List ad):Prop:=
  (gg J (Frame.mk hk aC aj (view (aw.set ae.toNat (ad.mk 1 (nth aw ae).ag (nth aw ae).ac (nth aw ae).aq (nth aw ae).ar)) b6 aZ)) ae)=true→((aw.set ae.toNat (ad.mk 1 (nth aw ae).ag (nth aw ae).ac (nth aw ae).aq (nth aw ae).ar)).length=b6.length∧ae.toNat<(aw.set ae.toNat (ad.mk 1 (nth aw ae).ag (nth aw ae).ac (nth aw ae).aq (nth aw ae).ar)).length)∧(I9 b6 ae aw)
def Ja (J:az) (hk:Bool) (aC:List Bool) (aj:List a_) (aZ:List (List Bool)) (b6:List Nat) (ae:Int) (aw:List ad):Prop:=
  (aC.length≤4611686018427387904∧aj.length≤4611686018427387904∧(ke (aw.set ae.toNat (ad.mk 1 (nth aw ae).ag (nth aw ae).ac (nth aw ae).aq (nth aw ae).ar)) b6 aZ∧(aw.set ae.toNat (ad.mk 1 (nth aw ae).ag (nth aw ae).ac (nth aw ae).aq (nth aw ae).ar)).length≤4611686018427387904∧(∀x∈aZ,List.length x≤4611686018427387904))∧xr J (Frame.mk hk aC aj (view (aw.set ae.toNat (ad.mk 1 (nth aw ae).ag (nth aw ae).ac (nth aw ae).aq (nth aw ae).ar)) b6 aZ)) ae)∧(I_ J hk aC aj aZ b6 ae aw)
def Jb (ay:dQ Prop) (aB:dQ Nat) (J:az) (hk:Bool) (aC:List Bool) (aj:List a_) (aZ:List (List Bool)) (b6:List Nat) (ae:Int) (aE iD:List ad):Prop:=
  (((nth iD ae).ao==4)=true→(Pe (nth J.O ae) ae hk aC aj iD b6 aZ)∧(∀(xW:List ad) (i55:List Nat) (vT:List (List Bool)),zz (nth J.O ae) ae hk aC aj iD b6 aZ aC aj xW i55 vT→(ay vT i55 (IntKind.i64.wrap (ae+1)) xW∧aB vT i55 (IntKind.i64.wrap (ae+1)) xW<aB aZ b6 ae aE)))∧(((nth iD ae).ao==4)=false→ay aZ b6 (IntKind.i64.wrap (ae+1)) iD∧aB aZ b6 (IntKind.i64.wrap (ae+1)) iD<aB aZ b6 ae aE)
def Jc (ay:dQ Prop) (aB:dQ Nat) (J:az) (hk:Bool) (aC:List Bool) (aj:List a_) (aZ:List (List Bool)) (b6:List Nat) (ae:Int) (aE aw:List ad):Prop:=
  (((aw.length=b6.length∧ae.toNat<aw.length)∧(((nth aw ae).ao==1)=false→aw.length=b6.length∧ae.toNat<aw.length))∧((((nth aw ae).ao==1) || ((nth aw ae).ao==2))=true→(aw.length=b6.length∧ae.toNat<aw.length)∧(Ja J hk aC aj aZ b6 ae aw)))∧(∀iD:List ad,(bif (((nth aw ae).ao==1) || ((nth aw ae).ao==2)) then(bif (gg J (Frame.mk hk aC aj (view (aw.set ae.toNat (ad.mk 1 (nth aw ae).ag (nth aw ae).ac (nth aw ae).aq (nth aw ae).ar)) b6 aZ)) ae) then(((aw.set ae.toNat (ad.mk 1 (nth aw ae).ag (nth aw ae).ac (nth aw ae).aq (nth aw ae).ar)).set ae.toNat (ad.mk 2 (nth (aw.set ae.toNat (ad.mk 1 (nth aw ae).ag (nth aw ae).ac (nth aw ae).aq (nth aw ae).ar)) ae).ag (nth (aw.set ae.toNat (ad.mk 1 (nth aw ae).ag (nth aw ae).ac (nth aw ae).aq (nth aw ae).ar)) ae).ac (nth (aw.set ae.toNat (ad.mk 1 (nth aw ae).ag (nth aw ae).ac (nth aw ae).aq (nth aw ae).ar)) ae).aq (nth (aw.set ae.toNat (ad.mk 1 (nth aw ae).ag (nth aw ae).ac (nth aw ae).aq (nth aw ae).ar)) ae).ar)).set ae.toNat (ad.mk (nth ((aw.set ae.toNat (ad.mk 1 (nth aw ae).ag (nth aw ae).ac (nth aw ae).aq (nth aw ae).ar)).set ae.toNat (ad.mk 2 (nth (aw.set ae.toNat (ad.mk 1 (nth aw ae).ag (nth aw ae).ac (nth aw ae).aq (nth aw ae).ar)) ae).ag (nth (aw.set ae.toNat (ad.mk 1 (nth aw ae).ag (nth aw ae).ac (nth aw ae).aq (nth aw ae).ar)) ae).ac (nth (aw.set ae.toNat (ad.mk 1 (nth aw ae).ag (nth aw ae).ac (nth aw ae).aq (nth aw ae).ar)) ae).aq (nth (aw.set ae.toNat (ad.mk 1 (nth aw ae).ag (nth aw ae).ac (nth aw ae).aq (nth aw ae).ar)) ae).ar)) ae).ao (nth ((aw.set ae.toNat (ad.mk 1 (nth aw ae).ag (nth aw ae).ac (nth aw ae).aq (nth aw ae).ar)).set ae.toNat (ad.mk 2 (nth (aw.set ae.toNat (ad.mk 1 (nth aw ae).ag (nth aw ae).ac (nth aw ae).aq (nth aw ae).ar)) ae).ag (nth (aw.set ae.toNat (ad.mk 1 (nth aw ae).ag (nth aw ae).ac (nth aw ae).aq (nth aw ae).ar)) ae).ac (nth (aw.set ae.toNat (ad.mk 1 (nth aw ae).ag (nth aw ae).ac (nth aw ae).aq (nth aw ae).ar)) ae).aq (nth (aw.set ae.toNat (ad.mk 1 (nth aw ae).ag (nth aw ae).ac (nth aw ae).aq (nth aw ae).ar)) ae).ar)) ae).ag (nth ((aw.set ae.toNat (ad.mk 1 (nth aw ae).ag (nth aw ae).ac (nth aw ae).aq (nth aw ae).ar)).set ae.toNat (ad.mk 2 (nth (aw.set ae.toNat (ad.mk 1 (nth aw ae).ag (nth aw ae).ac (nth aw ae).aq (nth aw ae).ar)) ae).ag (nth (aw.set ae.toNat (ad.mk 1 (nth aw ae).ag (nth aw ae).ac (nth aw ae).aq (nth aw ae).ar)) ae).ac (nth (aw.set ae.toNat (ad.mk 1 (nth aw ae).ag (nth aw ae).ac (nth aw ae).aq (nth aw ae).ar)) ae).aq (nth (aw.set ae.toNat (ad.mk 1 (nth aw ae).ag (nth aw ae).ac (nth aw ae).aq (nth aw ae).ar)) ae).ar)) ae).ac true (nth ((aw.set ae.toNat (ad.mk 1 (nth aw ae).ag (nth aw ae).ac (nth aw ae).aq (nth aw ae).ar)).set ae.toNat (ad.mk 2 (nth (aw.set ae.toNat (ad.mk 1 (nth aw ae).ag (nth aw ae).ac (nth aw ae).aq (nth aw ae).ar)) ae).ag (nth (aw.set ae.toNat (ad.mk 1 (nth aw ae).ag (nth aw ae).ac (nth aw ae).aq (nth aw ae).ar)) ae).ac (nth (aw.set ae.toNat (ad.mk 1 (nth aw ae).ag (nth aw ae).ac (nth aw ae).aq (nth aw ae).ar)) ae).aq (nth (aw.set ae.toNat (ad.mk 1 (nth aw ae).ag (nth aw ae).ac (nth aw ae).aq (nth aw ae).ar)) ae).ar)) ae).ar)) else(aw.set ae.toNat (ad.mk 1 (nth aw ae).ag (nth aw ae).ac (nth aw ae).aq (nth aw ae).ar))) else aw)=iD→((iD.length=b6.length∧ae.toNat<iD.length)∧(Jb ay aB J hk aC aj aZ b6 ae aE iD)))
def Jd (ay:dQ Prop) (aB:dQ Nat) (J:az) (hk:Bool) (aC:List Bool) (aj:List a_) (aZ:List (List Bool)) (b6:List Nat) (ae:Int) (aE:List ad):Prop:=
  (((aE.length=b6.length∧ae.toNat<aE.length)∧(((nth aE ae).ao !=4)=true→((0:Int)≤0∧(0:Int).toNat<(nth J.O ae).af.length)∧(0≤(nth (nth J.O ae).af 0)∧(nth (nth J.O ae).af 0).toNat<aC.length)))∧(I8 J aC b6 ae aE))∧(∀aw:List ad,(bif (((nth aE ae).ao !=4)&&(nth aC (nth (nth J.O ae).af 0))) then((aE.set ae.toNat (ad.mk 4 (nth aE ae).ag (nth aE ae).ac (nth aE ae).aq (nth aE ae).ar)).set ae.toNat (ad.mk (nth (aE.set ae.toNat (ad.mk 4 (nth aE ae).ag (nth aE ae).ac (nth aE ae).aq (nth aE ae).ar)) ae).ao (nth (aE.set ae.toNat (ad.mk 4 (nth aE ae).ag (nth aE ae).ac (nth aE ae).aq (nth aE ae).ar)) ae).ag (nth (aE.set ae.toNat (ad.mk 4 (nth aE ae).ag (nth aE ae).ac (nth aE ae).aq (nth aE ae).ar)) ae).ac (nth (aE.set ae.toNat (ad.mk 4 (nth aE ae).ag (nth aE ae).ac (nth aE ae).aq (nth aE ae).ar)) ae).aq 0)) else aE)=aw→(Jc ay aB J hk aC aj aZ b6 ae aE aw))
def Je (ay:dQ Prop) (aB:dQ Nat) (J:az) (hk:Bool) (aC:List Bool) (aj:List a_) (hw:List ad) (hi:List Nat) (hb aZ:List (List Bool)) (b6:List Nat) (ae:Int) (aE:List ad):Prop:=
  ((decide (ae<(hw.length:Int)))=false→zY J hk aC aj hw hi hb aC aj aE b6 aZ)∧((decide (ae<(hw.length:Int)))=true→(0≤ae∧ae.toNat<aE.length)∧((0≤ae∧ae.toNat<J.O.length)∧(((aE.length=b6.length∧ae.toNat<aE.length)∧(((nth aE ae).ao==0)=true→ay aZ b6 (IntKind.i64.wrap (ae+1)) aE∧aB aZ b6 (IntKind.i64.wrap (ae+1)) aE<aB aZ b6 ae aE))∧((!((nth aE ae).ao==0))=true→Jd ay aB J hk aC aj aZ b6 ae aE))))
def I7 (J:az) (hg:Nat) (hk:Bool) (aC:List Bool) (aj:List a_) (hw:List ad) (hi:List Nat) (hb:List (List Bool)) (ay:dQ Prop) (aB:dQ Nat):Prop:=
 ay hb hi 0 hw∧ ∀(aZ:List (List Bool)) (b6:List Nat) (ae:Int) (aE:List ad),ay aZ b6 ae aE→(Je ay aB J hk aC aj hw hi hb aZ b6 ae aE)
theorem afa (J:az) (hg:Nat) (hk:Bool) (aC:List Bool) (aj:List a_) (hw:List ad) (hi:List Nat) (hb:List (List Bool)) (ay:dQ Prop) (aB:dQ Nat) (h:I7 J hg hk aC aj hw hi hb ay aB):dI Try.prog 98 [.agg (bg false J),.ptr 0 hg 0 0] (⟨hg,4,[[an hk,ak 1 0 aC.length,ak 2 0 aj.length,ak 3 0 hw.length]]⟩::⟨0,1,List.map aY aC⟩::⟨0,2,List.map a7 aj⟩::⟨0,5,a0 4 hw hi⟩::List.map bm hb) (fun r H'=> ∃(e3:List ad) (gb:List Nat) (ek:List (List Bool)),r= .tup []∧H'=(⟨hg,4,[[an hk,ak 1 0 aC.length,ak 2 0 aj.length,ak 3 0 e3.length]]⟩::⟨0,1,List.map aY aC⟩::⟨0,2,List.map a7 aj⟩::⟨0,5,a0 4 e3 gb⟩::List.map bm ek)∧zY J hk aC aj hw hi hb aC aj e3 gb ek):=by
 unfold I7 at h
 refine dI.go (fn:=Try.f98) [(0,.agg (bg false J)),(1,.ptr 0 hg 0 0)] Try.func98 (fun _ _=> ?_)
 show WpS _ (bX ae6 1) _ ⟨bh 91 [(0,.agg (bg false J)),(1,.ptr 0 hg 0 0)],[],(⟨hg,4,[[an hk,ak 1 0 aC.length,ak 2 0 aj.length,ak 3 0 hw.length]]⟩::⟨0,1,List.map aY aC⟩::⟨0,2,List.map a7 aj⟩::⟨0,5,a0 4 hw hi⟩::List.map bm hb)⟩
 refine sK [] 0 [(2,aA 2 0)] [1] [0,1,1] (fun L=>(2,(bg false J))::L) id ?_
 refine cD [(11,ah (hw.length:Int)),(12,ah 0)] [2] (True) ?_ (fun q2=> ?_)
 ·
  refine bL [] 1 ?_
  refine nP 4 (some 10) (ak 3 0 hw.length) [(9,.ptr 0 hg 0 3),(8,.ptr 0 hg 0 0),(7,.ptr 0 hg 0 0)] (φ:=hg=hg) rfl ?_
  exact b5 [(12,ah 0),(11,ah (hw.length:Int))] trivial
 refine fo 0 ?_
 obtain⟨kT,h⟩:=h
 refine kf (fun(v:List (List Bool)×List Nat×Int×List ad)=>(⟨(bh 91 [(1,.ptr 0 hg 0 0),(2,aA 2 0),(11,ah (hw.length:Int)),(12,ah (v.2.2.1))]),[(2,(bg false J))],(⟨hg,4,[[an hk,ak 1 0 aC.length,ak 2 0 aj.length,ak 3 0 (v.2.2.2).length]]⟩::⟨0,1,List.map aY aC⟩::⟨0,2,List.map a7 aj⟩::⟨0,5,a0 4 (v.2.2.2) (v.2.1)⟩::List.map bm (v.1))⟩:St)) (fun(v:List (List Bool)×List Nat×Int×List ad)=>ay (v.1) (v.2.1) (v.2.2.1) (v.2.2.2)) (fun(v:List (List Bool)×List Nat×Int×List ad)=>aB (v.1) (v.2.1) (v.2.2.1) (v.2.2.2)) (hb,hi,0,hw) (dC []) kT (fun v aX=> ?_)
 obtain⟨aZ,b6,ae,aE⟩:=v
 replace h:=h aZ b6 ae aE aX
 dsimp only
 refine ei [] 2 [(13,an (decide (ae<(hw.length:Int))))] [1] [4] ?_
 unfold Je at h
 obtain⟨nh,h⟩:=h
 refine cD [] [0,1,4] ((decide (ae<(hw.length:Int)))=true) ?_ (fun q4=> ?_)
 ·
  replace h:=nh
  refine dJ (fun cR=> ?_) (fun cR=> ?_)
  ·
   refine ep ?_
   exact ci.normal (by simp only[cR]<;>rfl) ef
  ·
   replace h:=h cR
   refine iY 0 ?_
   refine ci.exit ?_
   refine dZ.exit ?_
   refine cr.here ?_
   refine A3 (t0) [] ?_
   exact⟨aE,b6,aZ,rfl,rfl,h⟩
 replace h:=h q4
 refine hN ?_
 refine fo 1 ?_
 refine ei [] 3 [(4,ah ae),(14,ah ae)] [1] [4] ?_
 obtain⟨nO,h⟩:=h
 refine cD [(5,.ptr 3 0 (0+ae.toNat) 0)] [5] (True) ?_ (fun fN=> ?_)
 ·
  replace h:=nO
  refine bL [] 4 ?_
  refine nP 4 (some 18) (ak 3 0 aE.length) [(17,.ptr 0 hg 0 3),(16,.ptr 0 hg 0 0),(15,.ptr 0 hg 0 0)] (φ:=hg=hg) rfl ?_
  have agU:=h
  refine lM 2 (some 20) [(19,ah ae)] 3 0 5 agU ?_
  exact b5 [(5,.ptr 3 0 (0+ae.toNat) 0)] trivial
 obtain⟨oG,h⟩:=h
 refine e_ [(6,aA 6 0)] [6] (fun L=>(6,(dw false (nth J.O ae)))::L) id (True) ?_ (fun fD=> ?_)
 ·
  replace h:=oG
  refine bL [] 5 ?_
  have iM:=h
  refine ld 4 (some 24) [(23,ah ae),(22,bK (dw false) J.O),(21,aA 2 2)] (dw false) J.O 5 iM ?_
  exact b5 [(6,aA 6 0),(25,.agg (dw false (nth J.O ae)))] trivial
 obtain⟨oF,h⟩:=h
 refine cD [] [7] ((!((nth aE ae).ao==0))=true) ?_ (fun gX=> ?_)
 ·
  replace h:=oF
  obtain⟨q9,h⟩:=h
  refine cD [(30,an ((nth aE ae).ao==0))] [7] (True) ?_ (fun ix=> ?_)
  ·
   replace h:=q9
   refine bL [] 6 ?_
   have h_:=h
   refine iO 4 (some 29) [(28,.ptr 3 0 (0+ae.toNat) 0),(27,.ptr 3 0 (0+ae.toNat) 0),(26,.ptr 3 0 (0+ae.toNat) 0)] (a0 4 aE b6) ae 3 0 0 (ah (nth aE ae).ao) (dO h_.1 h_.2) ?_
   exact b5 [(30,an ((nth aE ae).ao==0))] trivial
  refine dJ (fun fH=> ?_) (fun fH=> ?_)
  ·
   replace h:=h fH
   refine iY 1 ?_
   refine ci.exit ?_
   refine cr.here ?_
   refine eb.normal ?_
   refine bL [] 17 ?_
   refine dX [(12,ah (IntKind.i64.wrap (ae+1))),(90,ah (IntKind.i64.wrap (ae+1)))] ?_
   exact dZ.again (aZ,b6,(IntKind.i64.wrap (ae+1)),aE) h (dC [6])
  ·
   refine ep ?_
   exact ci.normal (by simp only[q4,fH]<;>rfl) ef
 replace h:=h gX
 unfold Jd at h
 obtain⟨oE,h⟩:=h
 obtain⟨aw,hS⟩: ∃w:List ad,(bif (((nth aE ae).ao !=4)&&(nth aC (nth (nth J.O ae).af 0))) then((aE.set ae.toNat (ad.mk 4 (nth aE ae).ag (nth aE ae).ac (nth aE ae).aq (nth aE ae).ar)).set ae.toNat (ad.mk (nth (aE.set ae.toNat (ad.mk 4 (nth aE ae).ag (nth aE ae).ac (nth aE ae).aq (nth aE ae).ar)) ae).ao (nth (aE.set ae.toNat (ad.mk 4 (nth aE ae).ag (nth aE ae).ac (nth aE ae).aq (nth aE ae).ar)) ae).ag (nth (aE.set ae.toNat (ad.mk 4 (nth aE ae).ag (nth aE ae).ac (nth aE ae).aq (nth aE ae).ar)) ae).ac (nth (aE.set ae.toNat (ad.mk 4 (nth aE ae).ag (nth aE ae).ac (nth aE ae).aq (nth aE ae).ar)) ae).aq 0)) else aE)=w:=⟨_,rfl⟩
 refine e_ [] [7] id (fun H=>eo 3 ⟨0,5,a0 4 aw b6⟩ H) (True) ?_ (fun jh=> ?_)
 ·
  replace h:=oE
  obtain⟨kv,h⟩:=h
  refine cD [(47,an (((nth aE ae).ao !=4)&&(nth aC (nth (nth J.O ae).af 0))))] [7] (True) ?_ (fun mc=> ?_)
  ·
   replace h:=kv
   refine nj [] 7 ae9 ae_ [] ?_
   obtain⟨ku,h⟩:=h
   refine nS 4 (some 34) [(33,.ptr 3 0 (0+ae.toNat) 0),(32,.ptr 3 0 (0+ae.toNat) 0),(31,.ptr 3 0 (0+ae.toNat) 0)] (a0 4 aE b6) ae 3 0 0 (ah (nth aE ae).ao) (dO ku.1 ku.2) ?_
   refine qd 2 36 ((nth aE ae).ao !=4) [(35,an ((nth aE ae).ao !=4))] (fun hF=> ?_) (fun hF=> ?_)
   ·
    replace h:=h hF
    refine Dc 4 (some 40) (ak 1 0 aC.length) [(39,.ptr 0 hg 0 1),(38,.ptr 0 hg 0 0),(37,.ptr 0 hg 0 0)] (φ:=hg=hg) rfl ?_
    obtain⟨iy,h⟩:=h
    refine st 3 (some 43) [(42,bK c_ (nth J.O ae).af),(41,aA 6 0)] c_ (nth J.O ae).af 1 iy ?_
    have Tu:=h
    refine vw 2 (some 45) [(44,ah (nth (nth J.O ae).af 0))] 1 0 1 Tu ?_
    refine xS 1 (some 46) [] aY aC (nth (nth J.O ae).af 0) 4 0 0 (an (nth aC (nth (nth J.O ae).af 0))) (by simpa using Tu.2) ?_
    exact kU [(47,an (nth aC (nth (nth J.O ae).af 0)))] trivial (by simp only[q4,gX,hF]<;>kernel_rfl)
   ·
    exact kU ([(47,an false)]++gv [46,45,44,43,42,41,40,39,38,37]) trivial (by simp only[q4,gX,hF]<;>kernel_rfl)
  unfold I8 at h
  refine dJ (fun jM=> ?_) (fun jM=> ?_)
  ·
   replace h:=h jM
   obtain⟨ii,h⟩:=h
   refine e_ [] [0,1,7] id (fun H=>eo 3 ⟨0,5,a0 4 (aE.set ae.toNat (ad.mk 4 (nth aE ae).ag (nth aE ae).ac (nth aE ae).aq (nth aE ae).ar)) b6⟩ H) (True) ?_ (fun ih=> ?_)
   ·
    replace h:=ii
    refine bL [] 8 ?_
    have ha:=h
    refine j8 4 none [(50,.ptr 3 0 (0+ae.toNat) 0),(49,.ptr 3 0 (0+ae.toNat) 0),(48,.ptr 3 0 (0+ae.toNat) 0)] (a0 4 aE b6) ae 0 1 0 [ah 4] 3 (a0 4 (aE.set ae.toNat (ad.mk 4 (nth aE ae).ag (nth aE ae).ac (nth aE ae).aq (nth aE ae).ar)) b6) (dO ha.1 ha.2) (kj ha.1 ha.2) ?_
    exact b5 [] trivial
   refine bL [] 9 ?_
   have iz:=h
   refine j8 4 none [(53,.ptr 3 0 (0+ae.toNat) 4),(52,.ptr 3 0 (0+ae.toNat) 0),(51,.ptr 3 0 (0+ae.toNat) 0)] (a0 4 (aE.set ae.toNat (ad.mk 4 (nth aE ae).ag (nth aE ae).ac (nth aE ae).aq (nth aE ae).ar)) b6) ae 4 1 0 [ah 0] 3 (a0 4 ((aE.set ae.toNat (ad.mk 4 (nth aE ae).ag (nth aE ae).ac (nth aE ae).aq (nth aE ae).ar)).set ae.toNat (ad.mk (nth (aE.set ae.toNat (ad.mk 4 (nth aE ae).ag (nth aE ae).ac (nth aE ae).aq (nth aE ae).ar)) ae).ao (nth (aE.set ae.toNat (ad.mk 4 (nth aE ae).ag (nth aE ae).ac (nth aE ae).aq (nth aE ae).ar)) ae).ag (nth (aE.set ae.toNat (ad.mk 4 (nth aE ae).ag (nth aE ae).ac (nth aE ae).aq (nth aE ae).ar)) ae).ac (nth (aE.set ae.toNat (ad.mk 4 (nth aE ae).ag (nth aE ae).ac (nth aE ae).aq (nth aE ae).ar)) ae).aq 0)) b6) (dO iz.1 iz.2) (kj iz.1 iz.2) ?_
   refine dX [] ?_
   exact ci.normal trivial (by simp only[←hS,q4,gX,jM,cond_true,cond_false];exact ef)
  ·
   refine ep ?_
   exact ci.normal trivial (by simp only[←hS,q4,gX,jM,cond_true,cond_false];exact ef)
 replace h:=h aw hS
 have wK:aw.length=aE.length:=by rw[←hS];repeat' apply zi;all_goals simp
 unfold Jc at h
 obtain⟨xv,h⟩:=h
 obtain⟨iD,nd⟩: ∃w:List ad,(bif (((nth aw ae).ao==1) || ((nth aw ae).ao==2)) then(bif (gg J (Frame.mk hk aC aj (view (aw.set ae.toNat (ad.mk 1 (nth aw ae).ag (nth aw ae).ac (nth aw ae).aq (nth aw ae).ar)) b6 aZ)) ae) then(((aw.set ae.toNat (ad.mk 1 (nth aw ae).ag (nth aw ae).ac (nth aw ae).aq (nth aw ae).ar)).set ae.toNat (ad.mk 2 (nth (aw.set ae.toNat (ad.mk 1 (nth aw ae).ag (nth aw ae).ac (nth aw ae).aq (nth aw ae).ar)) ae).ag (nth (aw.set ae.toNat (ad.mk 1 (nth aw ae).ag (nth aw ae).ac (nth aw ae).aq (nth aw ae).ar)) ae).ac (nth (aw.set ae.toNat (ad.mk 1 (nth aw ae).ag (nth aw ae).ac (nth aw ae).aq (nth aw ae).ar)) ae).aq (nth (aw.set ae.toNat (ad.mk 1 (nth aw ae).ag (nth aw ae).ac (nth aw ae).aq (nth aw ae).ar)) ae).ar)).set ae.toNat (ad.mk (nth ((aw.set ae.toNat (ad.mk 1 (nth aw ae).ag (nth aw ae).ac (nth aw ae).aq (nth aw ae).ar)).set ae.toNat (ad.mk 2 (nth (aw.set ae.toNat (ad.mk 1 (nth aw ae).ag (nth aw ae).ac (nth aw ae).aq (nth aw ae).ar)) ae).ag (nth (aw.set ae.toNat (ad.mk 1 (nth aw ae).ag (nth aw ae).ac (nth aw ae).aq (nth aw ae).ar)) ae).ac (nth (aw.set ae.toNat (ad.mk 1 (nth aw ae).ag (nth aw ae).ac (nth aw ae).aq (nth aw ae).ar)) ae).aq (nth (aw.set ae.toNat (ad.mk 1 (nth aw ae).ag (nth aw ae).ac (nth aw ae).aq (nth aw ae).ar)) ae).ar)) ae).ao (nth ((aw.set ae.toNat (ad.mk 1 (nth aw ae).ag (nth aw ae).ac (nth aw ae).aq (nth aw ae).ar)).set ae.toNat (ad.mk 2 (nth (aw.set ae.toNat (ad.mk 1 (nth aw ae).ag (nth aw ae).ac (nth aw ae).aq (nth aw ae).ar)) ae).ag (nth (aw.set ae.toNat (ad.mk 1 (nth aw ae).ag (nth aw ae).ac (nth aw ae).aq (nth aw ae).ar)) ae).ac (nth (aw.set ae.toNat (ad.mk 1 (nth aw ae).ag (nth aw ae).ac (nth aw ae).aq (nth aw ae).ar)) ae).aq (nth (aw.set ae.toNat (ad.mk 1 (nth aw ae).ag (nth aw ae).ac (nth aw ae).aq (nth aw ae).ar)) ae).ar)) ae).ag (nth ((aw.set ae.toNat (ad.mk 1 (nth aw ae).ag (nth aw ae).ac (nth aw ae).aq (nth aw ae).ar)).set ae.toNat (ad.mk 2 (nth (aw.set ae.toNat (ad.mk 1 (nth aw ae).ag (nth aw ae).ac (nth aw ae).aq (nth aw ae).ar)) ae).ag (nth (aw.set ae.toNat (ad.mk 1 (nth aw ae).ag (nth aw ae).ac (nth aw ae).aq (nth aw ae).ar)) ae).ac (nth (aw.set ae.toNat (ad.mk 1 (nth aw ae).ag (nth aw ae).ac (nth aw ae).aq (nth aw ae).ar)) ae).aq (nth (aw.set ae.toNat (ad.mk 1 (nth aw ae).ag (nth aw ae).ac (nth aw ae).aq (nth aw ae).ar)) ae).ar)) ae).ac true (nth ((aw.set ae.toNat (ad.mk 1 (nth aw ae).ag (nth aw ae).ac (nth aw ae).aq (nth aw ae).ar)).set ae.toNat (ad.mk 2 (nth (aw.set ae.toNat (ad.mk 1 (nth aw ae).ag (nth aw ae).ac (nth aw ae).aq (nth aw ae).ar)) ae).ag (nth (aw.set ae.toNat (ad.mk 1 (nth aw ae).ag (nth aw ae).ac (nth aw ae).aq (nth aw ae).ar)) ae).ac (nth (aw.set ae.toNat (ad.mk 1 (nth aw ae).ag (nth aw ae).ac (nth aw ae).aq (nth aw ae).ar)) ae).aq (nth (aw.set ae.toNat (ad.mk 1 (nth aw ae).ag (nth aw ae).ac (nth aw ae).aq (nth aw ae).ar)) ae).ar)) ae).ar)) else(aw.set ae.toNat (ad.mk 1 (nth aw ae).ag (nth aw ae).ac (nth aw ae).aq (nth aw ae).ar))) else aw)=w:=⟨_,rfl⟩
 refine e_ [] [2,1,4] id (fun H=>eo 3 ⟨0,5,a0 4 iD b6⟩ H) (True) ?_ (fun mE=> ?_)
 ·
  replace h:=xv
  obtain⟨jx,h⟩:=h
  refine cD [(65,an (((nth aw ae).ao==1) || ((nth aw ae).ao==2)))] [7] (True) ?_ (fun ju=> ?_)
  ·
   replace h:=jx
   refine bL [] 10 ?_
   obtain⟨la,h⟩:=h
   refine iO 4 (some 57) [(56,.ptr 3 0 (0+ae.toNat) 0),(55,.ptr 3 0 (0+ae.toNat) 0),(54,.ptr 3 0 (0+ae.toNat) 0)] (a0 4 aw b6) ae 3 0 0 (ah (nth aw ae).ao) (dO la.1 la.2) ?_
   refine nQ 2 59 ((nth aw ae).ao==1) [(58,an ((nth aw ae).ao==1))] (fun k_=> ?_) (fun k_=> ?_)
   ·
    exact b5 ([(65,an true)]++gv [64,63,62,61,60]) trivial (by simp only[q4,gX,k_]<;>kernel_rfl)
   ·
    replace h:=h k_
    have jv:=h
    refine iO 4 (some 63) [(62,.ptr 3 0 (0+ae.toNat) 0),(61,.ptr 3 0 (0+ae.toNat) 0),(60,.ptr 3 0 (0+ae.toNat) 0)] (a0 4 aw b6) ae 3 0 0 (ah (nth aw ae).ao) (dO jv.1 jv.2) ?_
    exact b5 [(65,an ((nth aw ae).ao==2)),(64,an ((nth aw ae).ao==2))] trivial (by simp only[q4,gX,k_]<;>kernel_rfl)
  refine dJ (fun lb=> ?_) (fun lb=> ?_)
  ·
   replace h:=h lb
   obtain⟨mg,h⟩:=h
   refine e_ [] [0,1,7] id (fun H=>eo 3 ⟨0,5,a0 4 (aw.set ae.toNat (ad.mk 1 (nth aw ae).ag (nth aw ae).ac (nth aw ae).aq (nth aw ae).ar)) b6⟩ H) (True) ?_ (fun hd=> ?_)
   ·
    replace h:=mg
    refine bL [] 11 ?_
    have o_:=h
    refine j8 4 none [(68,.ptr 3 0 (0+ae.toNat) 0),(67,.ptr 3 0 (0+ae.toNat) 0),(66,.ptr 3 0 (0+ae.toNat) 0)] (a0 4 aw b6) ae 0 1 0 [ah 1] 3 (a0 4 (aw.set ae.toNat (ad.mk 1 (nth aw ae).ag (nth aw ae).ac (nth aw ae).aq (nth aw ae).ar)) b6) (dO o_.1 o_.2) (kj o_.1 o_.2) ?_
    exact b5 [] trivial
   unfold Ja at h
   obtain⟨p8,h⟩:=h
   refine cD [(74,an (gg J (Frame.mk hk aC aj (view (aw.set ae.toNat (ad.mk 1 (nth aw ae).ag (nth aw ae).ac (nth aw ae).aq (nth aw ae).ar)) b6 aZ)) ae))] [2,1,4] (True) ?_ (fun lJ=> ?_)
   ·
    replace h:=p8
    refine nj [] 12 ae7 ae8 [] ?_
    refine Dc 4 (some 72) (.agg [an hk,ak 1 0 aC.length,ak 2 0 aj.length,ak 3 0 aE.length]) [(71,.ptr 0 hg 0 0),(70,.ptr 0 hg 0 0),(69,.agg (bg false J))] (φ:=hg=hg) rfl ?_
    obtain⟨p7,jw,nN,me⟩:=h
    refine SX 2 (some 74) [(73,ah ae)] [.agg (bg false J),.agg [an hk,ak 1 0 aC.length,ak 2 0 aj.length,ak 3 0 aE.length],ah ae] (aeV J (Frame.mk hk aC aj (view (aw.set ae.toNat (ad.mk 1 (nth aw ae).ag (nth aw ae).ac (nth aw ae).aq (nth aw ae).ar)) b6 aZ)) ae me) (aD.cons (da.agg (aD.cons (.int _ _) (aD.cons cI (aD.cons cI (aD.cons cI (aD.cons (.int _ _) aD.nil)))))) (aD.cons (da.agg (aD.cons (.bool _) (aD.cons (nl (sz:=1) (by simp[wK]) rfl (s7) p7) (aD.cons (nl (sz:=2) (by simp[wK]) rfl (uM) jw) (aD.cons (tB (s:=4) (ws:=(aw.set ae.toNat (ad.mk 1 (nth aw ae).ag (nth aw ae).ac (nth aw ae).aq (nth aw ae).ar))) (ids:=b6) (bs:=aZ) (by simp[wK]) rfl (fun id k h=>by simpa using h) nN.1 nN.2.1 nN.2.2) aD.nil))))) (aD.cons (da.h8 (.int _ _)) aD.nil))) ?_
    exact kU [] trivial
   unfold I_ at h
   refine dJ (fun lc=> ?_) (fun lc=> ?_)
   ·
    replace h:=h lc
    obtain⟨ng,h⟩:=h
    refine e_ [] [0,1,6] id (fun H=>eo 3 ⟨0,5,a0 4 ((aw.set ae.toNat (ad.mk 1 (nth aw ae).ag (nth aw ae).ac (nth aw ae).aq (nth aw ae).ar)).set ae.toNat (ad.mk 2 (nth (aw.set ae.toNat (ad.mk 1 (nth aw ae).ag (nth aw ae).ac (nth aw ae).aq (nth aw ae).ar)) ae).ag (nth (aw.set ae.toNat (ad.mk 1 (nth aw ae).ag (nth aw ae).ac (nth aw ae).aq (nth aw ae).ar)) ae).ac (nth (aw.set ae.toNat (ad.mk 1 (nth aw ae).ag (nth aw ae).ac (nth aw ae).aq (nth aw ae).ar)) ae).aq (nth (aw.set ae.toNat (ad.mk 1 (nth aw ae).ag (nth aw ae).ac (nth aw ae).aq (nth aw ae).ar)) ae).ar)) b6⟩ H) (True) ?_ (fun mf=> ?_)
    ·
     replace h:=ng
     refine bL [] 13 ?_
     have mF:=h
     refine j8 4 none [(77,.ptr 3 0 (0+ae.toNat) 0),(76,.ptr 3 0 (0+ae.toNat) 0),(75,.ptr 3 0 (0+ae.toNat) 0)] (a0 4 (aw.set ae.toNat (ad.mk 1 (nth aw ae).ag (nth aw ae).ac (nth aw ae).aq (nth aw ae).ar)) b6) ae 0 1 0 [ah 2] 3 (a0 4 ((aw.set ae.toNat (ad.mk 1 (nth aw ae).ag (nth aw ae).ac (nth aw ae).aq (nth aw ae).ar)).set ae.toNat (ad.mk 2 (nth (aw.set ae.toNat (ad.mk 1 (nth aw ae).ag (nth aw ae).ac (nth aw ae).aq (nth aw ae).ar)) ae).ag (nth (aw.set ae.toNat (ad.mk 1 (nth aw ae).ag (nth aw ae).ac (nth aw ae).aq (nth aw ae).ar)) ae).ac (nth (aw.set ae.toNat (ad.mk 1 (nth aw ae).ag (nth aw ae).ac (nth aw ae).aq (nth aw ae).ar)) ae).aq (nth (aw.set ae.toNat (ad.mk 1 (nth aw ae).ag (nth aw ae).ac (nth aw ae).aq (nth aw ae).ar)) ae).ar)) b6) (dO mF.1 mF.2) (kj mF.1 mF.2) ?_
     exact b5 [] trivial
    unfold I9 at h
    refine bL [] 14 ?_
    have nf:=h
    refine j8 4 none [(80,.ptr 3 0 (0+ae.toNat) 3),(79,.ptr 3 0 (0+ae.toNat) 0),(78,.ptr 3 0 (0+ae.toNat) 0)] (a0 4 ((aw.set ae.toNat (ad.mk 1 (nth aw ae).ag (nth aw ae).ac (nth aw ae).aq (nth aw ae).ar)).set ae.toNat (ad.mk 2 (nth (aw.set ae.toNat (ad.mk 1 (nth aw ae).ag (nth aw ae).ac (nth aw ae).aq (nth aw ae).ar)) ae).ag (nth (aw.set ae.toNat (ad.mk 1 (nth aw ae).ag (nth aw ae).ac (nth aw ae).aq (nth aw ae).ar)) ae).ac (nth (aw.set ae.toNat (ad.mk 1 (nth aw ae).ag (nth aw ae).ac (nth aw ae).aq (nth aw ae).ar)) ae).aq (nth (aw.set ae.toNat (ad.mk 1 (nth aw ae).ag (nth aw ae).ac (nth aw ae).aq (nth aw ae).ar)) ae).ar)) b6) ae 3 1 0 [an true] 3 (a0 4 (((aw.set ae.toNat (ad.mk 1 (nth aw ae).ag (nth aw ae).ac (nth aw ae).aq (nth aw ae).ar)).set ae.toNat (ad.mk 2 (nth (aw.set ae.toNat (ad.mk 1 (nth aw ae).ag (nth aw ae).ac (nth aw ae).aq (nth aw ae).ar)) ae).ag (nth (aw.set ae.toNat (ad.mk 1 (nth aw ae).ag (nth aw ae).ac (nth aw ae).aq (nth aw ae).ar)) ae).ac (nth (aw.set ae.toNat (ad.mk 1 (nth aw ae).ag (nth aw ae).ac (nth aw ae).aq (nth aw ae).ar)) ae).aq (nth (aw.set ae.toNat (ad.mk 1 (nth aw ae).ag (nth aw ae).ac (nth aw ae).aq (nth aw ae).ar)) ae).ar)).set ae.toNat (ad.mk (nth ((aw.set ae.toNat (ad.mk 1 (nth aw ae).ag (nth aw ae).ac (nth aw ae).aq (nth aw ae).ar)).set ae.toNat (ad.mk 2 (nth (aw.set ae.toNat (ad.mk 1 (nth aw ae).ag (nth aw ae).ac (nth aw ae).aq (nth aw ae).ar)) ae).ag (nth (aw.set ae.toNat (ad.mk 1 (nth aw ae).ag (nth aw ae).ac (nth aw ae).aq (nth aw ae).ar)) ae).ac (nth (aw.set ae.toNat (ad.mk 1 (nth aw ae).ag (nth aw ae).ac (nth aw ae).aq (nth aw ae).ar)) ae).aq (nth (aw.set ae.toNat (ad.mk 1 (nth aw ae).ag (nth aw ae).ac (nth aw ae).aq (nth aw ae).ar)) ae).ar)) ae).ao (nth ((aw.set ae.toNat (ad.mk 1 (nth aw ae).ag (nth aw ae).ac (nth aw ae).aq (nth aw ae).ar)).set ae.toNat (ad.mk 2 (nth (aw.set ae.toNat (ad.mk 1 (nth aw ae).ag (nth aw ae).ac (nth aw ae).aq (nth aw ae).ar)) ae).ag (nth (aw.set ae.toNat (ad.mk 1 (nth aw ae).ag (nth aw ae).ac (nth aw ae).aq (nth aw ae).ar)) ae).ac (nth (aw.set ae.toNat (ad.mk 1 (nth aw ae).ag (nth aw ae).ac (nth aw ae).aq (nth aw ae).ar)) ae).aq (nth (aw.set ae.toNat (ad.mk 1 (nth aw ae).ag (nth aw ae).ac (nth aw ae).aq (nth aw ae).ar)) ae).ar)) ae).ag (nth ((aw.set ae.toNat (ad.mk 1 (nth aw ae).ag (nth aw ae).ac (nth aw ae).aq (nth aw ae).ar)).set ae.toNat (ad.mk 2 (nth (aw.set ae.toNat (ad.mk 1 (nth aw ae).ag (nth aw ae).ac (nth aw ae).aq (nth aw ae).ar)) ae).ag (nth (aw.set ae.toNat (ad.mk 1 (nth aw ae).ag (nth aw ae).ac (nth aw ae).aq (nth aw ae).ar)) ae).ac (nth (aw.set ae.toNat (ad.mk 1 (nth aw ae).ag (nth aw ae).ac (nth aw ae).aq (nth aw ae).ar)) ae).aq (nth (aw.set ae.toNat (ad.mk 1 (nth aw ae).ag (nth aw ae).ac (nth aw ae).aq (nth aw ae).ar)) ae).ar)) ae).ac true (nth ((aw.set ae.toNat (ad.mk 1 (nth aw ae).ag (nth aw ae).ac (nth aw ae).aq (nth aw ae).ar)).set ae.toNat (ad.mk 2 (nth (aw.set ae.toNat (ad.mk 1 (nth aw ae).ag (nth aw ae).ac (nth aw ae).aq (nth aw ae).ar)) ae).ag (nth (aw.set ae.toNat (ad.mk 1 (nth aw ae).ag (nth aw ae).ac (nth aw ae).aq (nth aw ae).ar)) ae).ac (nth (aw.set ae.toNat (ad.mk 1 (nth aw ae).ag (nth aw ae).ac (nth aw ae).aq (nth aw ae).ar)) ae).aq (nth (aw.set ae.toNat (ad.mk 1 (nth aw ae).ag (nth aw ae).ac (nth aw ae).aq (nth aw ae).ar)) ae).ar)) ae).ar)) b6) (dO nf.1 nf.2) (kj nf.1 nf.2) ?_
    refine dX [] ?_
    exact ci.normal trivial (by simp only[←nd,q4,gX,lb,lc,cond_true,cond_false];exact ef)
   ·
    refine ep ?_
    exact ci.normal trivial (by simp only[←nd,q4,gX,lb,lc,cond_true,cond_false];exact ef)
  ·
   refine ep ?_
   exact ci.normal trivial (by simp only[←nd,q4,gX,lb,cond_true,cond_false];exact ef)
 replace h:=h iD nd
 have Ma:iD.length=aE.length:=by rw[←nd];repeat' apply zi;all_goals simp[wK]
 obtain⟨mI,h⟩:=h
 refine cD [(85,an ((nth iD ae).ao==4))] [6] (True) ?_ (fun sk=> ?_)
 ·
  replace h:=mI
  refine bL [] 15 ?_
  have lK:=h
  refine iO 4 (some 84) [(83,.ptr 3 0 (0+ae.toNat) 0),(82,.ptr 3 0 (0+ae.toNat) 0),(81,.ptr 3 0 (0+ae.toNat) 0)] (a0 4 iD b6) ae 3 0 0 (ah (nth iD ae).ao) (dO lK.1 lK.2) ?_
  exact b5 [(85,an ((nth iD ae).ao==4))] trivial
 unfold Jb at h
 refine dJ (fun mG=> ?_) (fun mG=> ?_)
 ·
  replace h:=h.1 mG
  refine bL [] 16 ?_
  obtain⟨zI,h⟩:=h
  refine Qi (⟨hg,4,[[an hk,ak 1 0 aC.length,ak 2 0 aj.length,ak 3 0 iD.length]]⟩::⟨0,1,List.map aY aC⟩::⟨0,2,List.map a7 aj⟩::⟨0,5,a0 4 iD b6⟩::List.map bm aZ) (by rw[show aE.length=iD.length by simp[wK,Ma]]<;>rfl) ?_
  refine tx 4 (some 89) [(88,.ptr 3 0 (0+ae.toNat) 0),(87,.ptr 0 hg 0 0),(86,.agg (dw false (nth J.O ae)))] [.agg (dw false (nth J.O ae)),.ptr 0 hg 0 0,.ptr 3 0 (0+ae.toNat) 0] _ (aeQ (nth J.O ae) ae hg hk aC aj iD b6 aZ zI) (fun r H' aj=>by obtain⟨_,_,_,rfl,_⟩:=aj;rfl) ?_
  rintro r H' ⟨xW,i55,vT,rfl,rfl,q_⟩
  replace h:=h xW i55 vT q_
  refine dX [] ?_
  refine cr.normal ?_
  refine eb.normal ?_
  refine bL [] 17 ?_
  refine dX [(12,ah (IntKind.i64.wrap (ae+1))),(90,ah (IntKind.i64.wrap (ae+1)))] ?_
  exact dZ.again (vT,i55,(IntKind.i64.wrap (ae+1)),xW) h (dC [6])
 ·
  replace h:=h.2 mG
  refine ep ?_
  refine cr.normal ?_
  refine eb.normal ?_
  refine bL [] 17 ?_
  refine dX [(12,ah (IntKind.i64.wrap (ae+1))),(90,ah (IntKind.i64.wrap (ae+1)))] ?_
  exact dZ.again (aZ,b6,(IntKind.i64.wrap (ae+1)),iD) h (hz (s':=⟨(bh 91 [(1,.ptr 0 hg 0 0),(2,aA 2 0),(11,ah (hw.length:Int)),(12,ah (IntKind.i64.wrap (ae+1)))]),[(2,(bg false J))],(⟨hg,4,[[an hk,ak 1 0 aC.length,ak 2 0 aj.length,ak 3 0 aE.length]]⟩::⟨0,1,List.map aY aC⟩::⟨0,2,List.map a7 aj⟩::⟨0,5,a0 4 iD b6⟩::List.map bm aZ)⟩) (dC (n:=91) (A':=[(1,.ptr 0 hg 0 0),(2,aA 2 0),(11,ah (hw.length:Int)),(12,ah (IntKind.i64.wrap (ae+1)))]) (L':=[(2,(bg false J))]) [6]) (congrArg (fun z=>(⟨(bh 91 [(1,.ptr 0 hg 0 0),(2,aA 2 0),(11,ah (hw.length:Int)),(12,ah (IntKind.i64.wrap (ae+1)))]),[(2,(bg false J))],(⟨hg,4,[[an hk,ak 1 0 aC.length,ak 2 0 aj.length,ak 3 0 z]]⟩::⟨0,1,List.map aY aC⟩::⟨0,2,List.map a7 aj⟩::⟨0,5,a0 4 iD b6⟩::List.map bm aZ)⟩:St)) (show aE.length=iD.length by simp[wK,Ma])))
theorem Rz (J:az) (hg:Nat) (hk:Bool) (aC:List Bool) (aj:List a_) (hw:List ad) (hi:List Nat) (hb:List (List Bool)) (aI:Ib J hk aC aj hw hi hb):dI Try.prog 98 [.agg (bg false J),.ptr 0 hg 0 0] (⟨hg,4,[[an hk,ak 1 0 aC.length,ak 2 0 aj.length,ak 3 0 hw.length]]⟩::⟨0,1,List.map aY aC⟩::⟨0,2,List.map a7 aj⟩::⟨0,5,a0 4 hw hi⟩::List.map bm hb) (fun r H'=> ∃(e3:List ad) (gb:List Nat) (ek:List (List Bool)),r= .tup []∧H'=(⟨hg,4,[[an hk,ak 1 0 aC.length,ak 2 0 aj.length,ak 3 0 e3.length]]⟩::⟨0,1,List.map aY aC⟩::⟨0,2,List.map a7 aj⟩::⟨0,5,a0 4 e3 gb⟩::List.map bm ek)∧zY J hk aC aj hw hi hb aC aj e3 gb ek):=afa J hg hk aC aj hw hi hb (Ia J (c5 hk aC aj hw hi hb)) (fun _ _ v _=>cy hw.length v) (by
 unfold I7
 obtain⟨G,cx,dc⟩:=aI
 have yN:(c5 hk aC aj hw hi hb).O.length=hw.length:=jl G.ok
 have Y8:=dc.O
 have wP:=cx.O
 have LQ:=dc.av
 have LR:=dc.au
 have YR:=cx.c0
 have wS:=cx.sw
 refine⟨⟨?_,G.ok,G.kQ,rfl,G.len⟩,fun bs is v ws aX=> ?_⟩
 ·rw[yN];exact c6 (dd _)
 have yJ:=aX
 obtain⟨gm,e1,mz,j2,hlen⟩:=yJ
 have aF:((c5 hk aC aj hw hi hb).O.length:Int)≤4611686018427387904:=by omega
 obtain⟨s1,s2,mi⟩:=qc J (c5 hk aC aj hw hi hb) v.toNat
 have BX:ws.length=hw.length:=by rw[←jl e1,j2,pd,yN]
 unfold Je
 have hm: ∀x:Int,cy hw.length x=cy (c5 hk aC aj hw hi hb).O.length x:=fun x=>by rw[yN]
 simp only[hm]
 rw[←yN]
 refine⟨fun hv=> ?_,fun hv=> ?_⟩
 ·have kq: ¬v<((c5 hk aC aj hw hi hb).O.length:Int):=by simpa using hv
  have h1:=gm.2.1
  have aU:=gm.1
  have:v.toNat=(c5 hk aC aj hw hi hb).O.length:=by omega
  rw[this] at j2
  exact⟨⟨e1,mz,hlen⟩,j2⟩
 have b9:=b8 gm hv
 have aU:=b9.1
 have bf:v.toNat<ws.length:=by omega
 have ja:v.toNat<J.O.length:=by omega
 have rR:=z0 dc v.toNat
 have lC:(dR J (c5 hk aC aj hw hi hb) v).O.length=hw.length:=(pd _ _ _).trans yN
 have hs:(c0 J v)≠[]∧(c0 J v).length≤30∧ ∀x∈c0 J v,0≤x∧x<J.af:=cx.af _ (dq ja)
 have l8:(dR J (c5 hk aC aj hw hi hb) v).O[v.toNat]?=some (nth (dR J (c5 hk aC aj hw hi hb) v).O v):=gV (by omega)
 have ul:(nth (dR J (c5 hk aC aj hw hi hb) v).O v).ac.length=(c0 J v).length:=rR.ac _ _ _ l8 (gV ja)
 have sZ:=rR.ag _ (List.mem_of_getElem? l8)
 have r4:0<(c0 J v).length:=List.length_pos_iff.2 hs.1
 have wN:(aC.length:Int)=J.af:=LQ
 have YV:aj.length=J.be.length:=LR
 have r3: ∀k:Int,0≤k→k.toNat<(c0 J v).length→0≤nth (c0 J v) k∧(nth (c0 J v) k).toNat<aC.length:=fun k a5 df=>by
  have:=hs.2.2 _ (dq df);omega
 have dz:dt (dR J (c5 hk aC aj hw hi hb) v).O is v (nth (dR J (c5 hk aC aj hw hi hb) v).O v) ws bs:=dt.start e1 mz bf j2 hlen
 have g8:=SN (p:=J) (f:=c5 hk aC aj hw hi hb) aU
 refine⟨⟨aU,bf⟩,⟨aU,ja⟩,⟨dz.fA,fun aO=> ?_⟩,fun aO=> ?_⟩
 ·rw[dz.ao] at aO
  exact vm aF gm hv dz (by rw[g8,if_pos (by simpa using aO)])
 have aO: ¬(nth (dR J (c5 hk aC aj hw hi hb) v).O v).ao=0:=by rw[dz.ao] at aO;simpa using aO
 rw[if_neg aO] at g8
 unfold Jd I8
 refine⟨⟨⟨dz.fA,fun _=>⟨⟨Int.le_refl _,r4⟩,r3 0 (Int.le_refl _) r4⟩⟩,fun _=>⟨dz.fA,(dz.setState 4).fA⟩⟩,fun fk FO=> ?_⟩
 have eC:dt (dR J (c5 hk aC aj hw hi hb) v).O is v (h9 J (c5 hk aC aj hw hi hb) v) fk bs:=by
  rw[←FO,dz.ao]
  unfold h9
  simp only
  have hc:((nth (dR J (c5 hk aC aj hw hi hb) v).O v).ao≠4∧dG (dR J (c5 hk aC aj hw hi hb) v) (nth (c0 J v) 0)=true)↔((((nth (dR J (c5 hk aC aj hw hi hb) v).O v).ao !=4)&&(nth aC (nth (nth J.O v).af 0)))=true):=by
   rw[Bool.and_eq_true,bne_iff_ne]
   unfold dG
   rw[show(dR J (c5 hk aC aj hw hi hb) v).av=aC from s2];rfl
  by_cases hb:((nth (dR J (c5 hk aC aj hw hi hb) v).O v).ao≠4∧dG (dR J (c5 hk aC aj hw hi hb) v) (nth (c0 J v) 0)=true)
  ·rw[if_pos hb,hc.1 hb]
   exact(dz.setState 4).xI 0
  ·rw[if_neg hb,Bool.eq_false_iff.2 (fun h=>hb (hc.2 h))]
   exact dz
 have uC:xr J (Frame.mk hk aC aj (view (fk.set v.toNat (ad.mk 1 (nth fk v).ag (nth fk v).ac (nth fk v).aq (nth fk v).ar)) is bs)) v:=by
  have mZ:=eC.setState 1
  refine⟨cx,⟨dc.av,dc.au,?_,fun i h w bA e2=> ?_,fun h bY=> ?_⟩,aU,by omega⟩
  ·show(view _ is bs).length=_
   rw[jl mZ.ok,List.length_set];have:=eC.tI;omega
  ·replace bA:(view _ is bs)[i]?=some h:=bA
   rw[mZ.g0,List.getElem?_set] at bA
   split at bA
   ·rename_i hi;subst hi
    split at bA
    ·cases bA
     have:=gV ja
     rw[e2] at this
     cases this
     show(h9 J (c5 hk aC aj hw _ hb) v).ac.length=_
     rw[tl.1];exact ul
    ·cases bA
   ·exact rR.ac i h w bA e2
  ·replace bY:h∈view _ is bs:=bY
   rw[mZ.g0] at bY
   rcases List.mem_or_eq_of_mem_set bY with bY | rfl
   ·exact rR.ag h bY
   ·show 0≤(h9 J (c5 hk aC aj hw hi hb) v).ag∧(h9 J (c5 hk aC aj hw hi hb) v).ag≤(h9 J (c5 hk aC aj hw hi hb) v).ac.length
    rw[tl.1,tl.2];exact sZ
 have FD:gg J (Frame.mk hk aC aj (view (fk.set v.toNat (ad.mk 1 (nth fk v).ag (nth fk v).ac (nth fk v).aq (nth fk v).ar)) is bs)) v=gg J (dR J (c5 hk aC aj hw hi hb) v) v:=HC s2.symm mi.symm
 unfold Jc
 refine⟨⟨⟨eC.fA,fun _=>eC.fA⟩,fun _=>⟨eC.fA,?_⟩⟩,fun vC FP=> ?_⟩
 ·unfold Ja I_ I9
  have mZ:=eC.setState 1
  refine⟨⟨by omega,by omega,⟨mZ.ok,?_,fun b hb=>by have:=hlen b hb;omega⟩,uC⟩,fun _=>⟨mZ.fA,(mZ.setState 2).fA⟩⟩
  rw[List.length_set];have:=eC.tI;omega
 have gj:dt (dR J (c5 hk aC aj hw hi hb) v).O is v (gF J (c5 hk aC aj hw hi hb) v) vC bs:=by
  rw[←FP,FD,eC.ao]
  unfold gF
  simp only
  by_cases hb:(h9 J (c5 hk aC aj hw hi hb) v).ao=1∨(h9 J (c5 hk aC aj hw hi hb) v).ao=2
  ·rw[if_pos hb,show(((h9 J (c5 hk aC aj hw hi _) v).ao==1) || ((h9 J (c5 hk aC aj hw hi _) v).ao==2))=true by simpa using hb]
   cases aj:gg J (dR J (c5 hk aC _ hw hi _) v) v with
   | true=>exact((eC.setState 1).setState 2).Qr true
   | false=>exact eC.setState 1
  ·rw[if_neg hb,show(((h9 J (c5 hk aC aj hw hi _) v).ao==1) || ((h9 J (c5 hk aC aj hw hi _) v).ao==2))=false by simpa using hb]
   exact eC
 have uB:(gF J (c5 hk aC aj hw hi hb) v).ac.length=(c0 J v).length:=by rw[CA.1];exact ul
 have y6:0≤(gF J (c5 hk aC aj hw hi hb) v).ag∧(gF J (c5 hk aC aj hw hi hb) v).ag≤(c0 J v).length:=by rw[CA.2,←ul];exact sZ
 refine⟨gj.fA,?_⟩
 unfold Jb
 refine⟨fun a8=>⟨⟨gj.G,aU,by have:=gj.lt;omega,?_,?_,?_,?_,?_⟩,fun w i b ko=> ?_⟩,fun a8=> ?_⟩
 ·show(c0 J v).length≤_;omega
 ·intro x hx
  have:=hs.2.2 x hx;omega
 ·rw[gj.xg];exact uB
 ·rw[gj.xg];exact y6.1
 ·rw[gj.xg];exact y6.2
 ·obtain⟨n0,kq⟩:=ko
  have nr:=gj.again n0 kq
  have a8:(gF J (c5 hk aC aj hw hi hb) v).ao=4:=by rw[gj.ao] at a8;simpa using a8
  rw[if_pos a8] at g8
  refine vm aF gm hv nr ?_
  rw[gj.xg,g8]
  exact Pc s2.symm
 ·rw[gj.ao] at a8
  exact vm aF gm hv gj (by rw[g8,if_neg (by simpa using a8)]))
noncomputable def aeo:Code:=iI Try.f41
def QU (J:az) (M:Frame) (al:Bool):Prop:=
  (Ib J (aa M).ok (aa M).av (aa M).au (aa M).O (List.range (aa M).O.length) (List.map ad.ac (aa M).O))∧(∀(fk:List ad) (i28:List Nat) (kY:List (List Bool)),zY J (aa M).ok (aa M).av (aa M).au (aa M).O (List.range (aa M).O.length) (List.map ad.ac (aa M).O) (aa M).av (aa M).au fk i28 kY→(((aa M).av.length≤4611686018427387904∧(aa M).au.length≤4611686018427387904∧(ke fk i28 kY∧fk.length≤4611686018427387904∧(∀x∈kY,List.length x≤4611686018427387904))∧Ql M (Frame.mk (aa M).ok (aa M).av (aa M).au (view fk i28 kY)))∧((oH M (Frame.mk (aa M).ok (aa M).av (aa M).au (view fk i28 kY)))=al)))
def IF (J:az) (M:Frame) (al:Bool) (cB dB:Int):Prop:=
  ((dB !=cB)=true→(0≤dB∧dB.toNat<J.bW.length)∧((0≤cB∧cB.toNat<(nth J.bW dB).length)∧((nth (nth J.bW dB) cB)=true→(0≤dB∧dB.toNat<M.O.length)∧(((nth M.O dB).ao !=0)=true→0≤cB∧cB.toNat<M.O.length))))∧(((dB !=cB)&&((nth (nth J.bW dB) cB)&&(((nth M.O dB).ao !=0)&&((nth M.O cB).ao !=0))))=true→false=al)
def IG (aQ:Int→Int→Prop) (aR:Int→Int→Nat) (bo:dP Prop) (bn:dP Nat) (J:az) (M:Frame) (al:Bool) (bQ cB dB:Int):Prop:=
  ((decide (cB<(M.O.length:Int)))=false→aQ bQ (IntKind.i64.wrap (dB+1))∧aR bQ (IntKind.i64.wrap (dB+1))<aR bQ dB)∧((decide (cB<(M.O.length:Int)))=true→(IF J M al cB dB)∧((!((dB !=cB)&&((nth (nth J.bW dB) cB)&&(((nth M.O dB).ao !=0)&&((nth M.O cB).ao !=0)))))=true→bo bQ dB (IntKind.i64.wrap (cB+1))∧bn bQ dB (IntKind.i64.wrap (cB+1))<bn bQ dB cB))
def IH (ay:Int→Prop) (aB:Int→Nat) (aQ:Int→Int→Prop) (aR:Int→Int→Nat) (bo:dP Prop) (bn:dP Nat) (J:az) (M:Frame) (al:Bool) (bQ:Int):Prop:=
  ((decide (bQ<(M.au.length:Int)))=false→M.O.length≤4611686018427387904→aQ bQ 0∧ ∀(dB:Int),aQ bQ dB→(((decide (dB<(M.O.length:Int)))=false→(jz M)∧(QU J M al))∧((decide (dB<(M.O.length:Int)))=true→((LO J M dB)∧((!(ho J M dB))=true→false=al))∧((!(!(ho J M dB)))=true→bo bQ dB 0∧ ∀(cB:Int),bo bQ dB cB→(IG aQ aR bo bn J M al bQ cB dB)))))∧((decide (bQ<(M.au.length:Int)))=true→((0≤bQ∧bQ.toNat<M.au.length)∧(((!(b4 (nth M.au bQ).cH 1 2)) || (!(b4 (nth M.au bQ).a2 0 2)))=true→false=al))∧((!((!(b4 (nth M.au bQ).cH 1 2)) || (!(b4 (nth M.au bQ).a2 0 2))))=true→ay (IntKind.i64.wrap (bQ+1))∧aB (IntKind.i64.wrap (bQ+1))<aB bQ))
def II (ay:Int→Prop) (aB:Int→Nat) (aQ:Int→Int→Prop) (aR:Int→Int→Nat) (bo:dP Prop) (bn:dP Nat) (J:az) (M:Frame) (al:Bool):Prop:=
  (((!(ea J)) || ((!M.ok) || (((M.av.length:Int) !=J.af) || (((M.au.length:Int) !=(J.be.length:Int)) || ((M.O.length:Int) !=(J.O.length:Int))))))=true→false=al)∧((!((!(ea J)) || ((!M.ok) || (((M.av.length:Int) !=J.af) || (((M.au.length:Int) !=(J.be.length:Int)) || ((M.O.length:Int) !=(J.O.length:Int)))))))=true→M.au.length≤4611686018427387904→ay 0∧ ∀(bQ:Int),ay bQ→(IH ay aB aQ aR bo bn J M al bQ))
def IE (J:az) (M:Frame) (al:Bool) (ay:Int→Prop) (aB:Int→Nat) (aQ:Int→Int→Prop) (aR:Int→Int→Nat) (bo:dP Prop) (bn:dP Nat):Prop:=
 II ay aB aQ aR bo bn J M al
theorem aep (J:az) (M:Frame) (al:Bool) (ay:Int→Prop) (aB:Int→Nat) (aQ:Int→Int→Prop) (aR:Int→Int→Nat) (bo:dP Prop) (bn:dP Nat) (h:IE J M al ay aB aQ aR bo bn):b2 Try.prog 41 [.agg (bg false J),.agg (b1 false M)] (an al):=by
 unfold IE at h
 refine dI.go (fn:=Try.f41) [(0,.agg (bg false J)),(1,.agg (b1 false M))] Try.func41 (fun _ _=> ?_)
 show WpS _ (bX aeo 1) _ ⟨bh 119 [(0,.agg (bg false J)),(1,.agg (b1 false M))],[],[]⟩
 refine WpS.mq ?_ (hz (s'':=⟨(bh 119 [(0,.agg (bg false J)),(1,.agg (b1 false M))]),[],[⟨0,4,[]⟩]⟩) (Weak.w9 (T:=(bh 119 [(0,.agg (bg false J)),(1,.agg (b1 false M))])) (L:=[]) (H:=[]) 4) (by kernel_rfl))
 refine qx [2000009] 0 [(4,an false),(3,aA 3 0),(2,aA 2 0)] [0,1,2] [] [(3,(b1 false M)),(2,(bg false J))] [⟨0,4,[]⟩] ?_
 unfold II at h
 obtain⟨PL,h⟩:=h
 refine cD [] [2] ((!((!(ea J)) || ((!M.ok) || (((M.av.length:Int) !=J.af) || (((M.au.length:Int) !=(J.be.length:Int)) || ((M.O.length:Int) !=(J.O.length:Int)))))))=true) ?_ (fun q2=> ?_)
 ·
  replace h:=PL
  refine cD [(43,an ((!(ea J)) || ((!M.ok) || (((M.av.length:Int) !=J.af) || (((M.au.length:Int) !=(J.be.length:Int)) || ((M.O.length:Int) !=(J.O.length:Int)))))))] [2] (True) ?_ (fun q3=> ?_)
  ·
   refine bL [2000009] 1 ?_
   refine mj 2 (some 11) [(10,.agg (bg false J))] [.agg (bg false J)] (Ra J) (aD.cons (da.agg (aD.cons (.int _ _) (aD.cons cI (aD.cons cI (aD.cons cI (aD.cons (.int _ _) aD.nil)))))) aD.nil) ?_
   refine nQ 2 13 (!(ea J)) [(12,an (!(ea J)))] (fun q4=> ?_) (fun q4=> ?_)
   ·
    exact b5 ([(43,an true)]++gv [42,41,40,39,38,37,36]++[(35,an true),(34,an true)]++gv [33,32,31,30,29,28,27]++[(26,an true),(25,an true)]++gv [24,23,22,21,20,19]++[(18,an true),(17,an true)]++gv [16,15,14]) trivial (by simp only[q4]<;>kernel_rfl)
   ·
    refine nQ 5 18 (!M.ok) [(17,an (!M.ok)),(16,an (!M.ok)),(15,an M.ok),(14,aA 3 0)] (fun cR=> ?_) (fun cR=> ?_)
    ·
     exact b5 ([(43,an true)]++gv [42,41,40,39,38,37,36]++[(35,an true),(34,an true)]++gv [33,32,31,30,29,28,27]++[(26,an true),(25,an true)]++gv [24,23,22,21,20,19]) trivial (by simp only[q4,cR]<;>kernel_rfl)
    ·
     refine sLen 3 (some 21) [(20,bK aY M.av),(19,aA 3 1)] aY M.av (fun c4=> ?_)
     refine nQ 5 26 ((M.av.length:Int) !=J.af) [(25,an ((M.av.length:Int) !=J.af)),(24,an ((M.av.length:Int) !=J.af)),(23,ah J.af),(22,aA 2 0)] (fun fN=> ?_) (fun fN=> ?_)
     ·
      exact b5 ([(43,an true)]++gv [42,41,40,39,38,37,36]++[(35,an true),(34,an true)]++gv [33,32,31,30,29,28,27]) trivial (by simp only[q4,cR,fN]<;>kernel_rfl)
     ·
      refine sLen 3 (some 29) [(28,bK a7 M.au),(27,aA 3 2)] a7 M.au (fun fD=> ?_)
      refine sLen 3 (some 32) [(31,bK c_ J.be),(30,aA 2 1)] c_ J.be (fun iM=> ?_)
      refine nQ 3 35 ((M.au.length:Int) !=(J.be.length:Int)) [(34,an ((M.au.length:Int) !=(J.be.length:Int))),(33,an ((M.au.length:Int) !=(J.be.length:Int)))] (fun gX=> ?_) (fun gX=> ?_)
      ·
       exact b5 ([(43,an true)]++gv [42,41,40,39,38,37,36]) trivial (by simp only[q4,cR,fN,gX]<;>kernel_rfl)
      ·
       refine sLen 3 (some 38) [(37,bK (dM false) M.O),(36,aA 3 3)] (dM false) M.O (fun ix=> ?_)
       refine sLen 3 (some 41) [(40,bK (dw false) J.O),(39,aA 2 2)] (dw false) J.O (fun h_=> ?_)
       exact b5 [(43,an ((M.O.length:Int) !=(J.O.length:Int))),(42,an ((M.O.length:Int) !=(J.O.length:Int)))] trivial (by simp only[q4,cR,fN,gX]<;>kernel_rfl)
  refine dJ (fun fH=> ?_) (fun fH=> ?_)
  ·
   replace h:=h fH
   refine ei [2000009] 2 [(4,an false)] [1] [] ?_
   exact hB (ci.ret (nk (an false) (im.h8 (nm h))))
  ·
   refine ep ?_
   exact ci.normal (by simp only[fH]<;>rfl) ef
 replace h:=h q2
 refine hN ?_
 refine cD [(45,bK a7 M.au),(46,ah (M.au.length:Int)),(47,ah 0)] [2] (M.au.length≤4611686018427387904) ?_ (fun jh=> ?_)
 ·
  refine bL [2000009] 3 ?_
  refine sLen 3 (some 46) [(45,bK a7 M.au),(44,aA 3 2)] a7 M.au (fun j7=> ?_)
  exact b5 [(47,ah 0)] j7
 replace h:=h jh
 refine fo 0 ?_
 obtain⟨ni,h⟩:=h
 refine kf (fun(v:Int)=>(⟨(bh 119 [(2,aA 2 0),(3,aA 3 0),(45,bK a7 M.au),(46,ah (M.au.length:Int)),(47,ah v)]),[(3,(b1 false M)),(2,(bg false J))],[⟨0,4,[]⟩]⟩:St)) (fun(v:Int)=>ay v) (fun(v:Int)=>aB v) 0 (dC []) ni (fun bQ aX=> ?_)
 replace h:=h bQ aX
 refine ei [2000009] 4 [(48,an (decide (bQ<(M.au.length:Int))))] [1] [5] ?_
 unfold IH at h
 obtain⟨xx,h⟩:=h
 refine cD [] [0,1,5] ((decide (bQ<(M.au.length:Int)))=true) ?_ (fun mc=> ?_)
 ·
  replace h:=xx
  refine dJ (fun hF=> ?_) (fun hF=> ?_)
  ·
   refine ep ?_
   exact ci.normal (by simp only[q2,hF]<;>rfl) ef
  ·
   replace h:=h hF
   refine iY 0 ?_
   refine ci.exit ?_
   refine dZ.exit ?_
   refine cr.here ?_
   refine eb.normal ?_
   refine hN ?_
   refine jW ⟨(bh 119 [(2,aA 2 0),(3,aA 3 0),(64,ah (M.O.length:Int)),(65,ah 0)]),[(3,(b1 false M)),(2,(bg false J))],[⟨0,4,[]⟩]⟩ (M.O.length≤4611686018427387904) ?_ (fun iy=> ?_)
   ·
    refine bL [2000009] 9 ?_
    refine sLen 3 (some 64) [(63,bK (dM false) M.O),(62,aA 3 3)] (dM false) M.O (fun ku=> ?_)
    exact b5 [(65,ah 0)] ku
   replace h:=h iy
   refine fo 2 ?_
   obtain⟨sl,h⟩:=h
   refine kf (fun(v:Int)=>(⟨(bh 119 [(2,aA 2 0),(3,aA 3 0),(64,ah (M.O.length:Int)),(65,ah v)]),[(3,(b1 false M)),(2,(bg false J))],[⟨0,4,[]⟩]⟩:St)) (fun(v:Int)=>aQ bQ v) (fun(v:Int)=>aR bQ v) 0 (dC []) sl (fun dB aX=> ?_)
   replace h:=h dB aX
   refine ei [2000009] 10 [(66,an (decide (dB<(M.O.length:Int))))] [1] [4] ?_
   obtain⟨p9,h⟩:=h
   refine cD [] [0,1,4] ((decide (dB<(M.O.length:Int)))=true) ?_ (fun ih=> ?_)
   ·
    replace h:=p9
    refine dJ (fun ha=> ?_) (fun ha=> ?_)
    ·
     refine ep ?_
     exact ci.normal (by simp only[q2,hF,ha]<;>rfl) ef
    ·
     replace h:=h ha
     refine iY 2 ?_
     refine ci.exit ?_
     refine dZ.exit ?_
     refine cr.here ?_
     refine eb.normal ?_
     obtain⟨lJ,h⟩:=h
     refine jW ⟨(bh 119 [(2,aA 2 0),(3,aA 3 0),(9,.ptr 0 1 0 0)]),[(3,(b1 false M)),(2,(bg false J))],(⟨1,4,[[an (aa M).ok,ak 1 0 (aa M).av.length,ak 2 0 (aa M).au.length,ak 3 0 (aa M).O.length]]⟩::⟨0,1,List.map aY (aa M).av⟩::⟨0,2,List.map a7 (aa M).au⟩::⟨0,5,a0 4 (aa M).O (List.range (aa M).O.length)⟩::List.map bm (List.map ad.ac (aa M).O))⟩ (True) ?_ (fun iz=> ?_)
     ·
      replace h:=lJ
      refine bL [2000009] 21 ?_
      have ii:=h
      refine tz 2 (some 113) [(112,.agg (b1 false M))] [.agg (b1 false M)] (.agg [an (aa M).ok,ak 1 0 (aa M).av.length,ak 2 0 (aa M).au.length,ak 3 0 (aa M).O.length]) (⟨0,4,[]⟩::⟨0,1,List.map aY (aa M).av⟩::⟨0,2,List.map a7 (aa M).au⟩::⟨0,5,a0 4 (aa M).O (List.range (aa M).O.length)⟩::List.map bm (List.map ad.ac (aa M).O)) (Re M ii) (aD.cons (da.agg (aD.cons (.bool _) (aD.cons cI (aD.cons cI (aD.cons cI aD.nil))))) aD.nil) Cs (rl Qu (by kernel_rfl)) ?_ (er:=by simp[mK,nR,iP])
      refine CY 1 [(9,.ptr 0 1 0 0)] [(3,(b1 false M)),(2,(bg false J))] (⟨1,4,[[an false,aG,aG,aG]]⟩::⟨0,1,List.map aY (aa M).av⟩::⟨0,2,List.map a7 (aa M).au⟩::⟨0,5,a0 4 (aa M).O (List.range (aa M).O.length)⟩::List.map bm (List.map ad.ac (aa M).O)) ?_
      refine Qj 1 [] (⟨1,4,[[an (aa M).ok,ak 1 0 (aa M).av.length,ak 2 0 (aa M).au.length,ak 3 0 (aa M).O.length]]⟩::⟨0,1,List.map aY (aa M).av⟩::⟨0,2,List.map a7 (aa M).au⟩::⟨0,5,a0 4 (aa M).O (List.range (aa M).O.length)⟩::List.map bm (List.map ad.ac (aa M).O)) (φ:=1=1) (ψ:=4≤4) rfl (by decide) ?_
      exact b5 [] trivial
     unfold QU at h
     refine hN ?_
     refine bL [2000009] 22 ?_
     obtain⟨hd,h⟩:=h
     refine tx 2 (some 115) [(114,.agg (bg false J))] [.agg (bg false J),.ptr 0 1 0 0] _ (Rz J 1 (aa M).ok (aa M).av (aa M).au (aa M).O (List.range (aa M).O.length) (List.map ad.ac (aa M).O) hd) (fun r H' aj=>by obtain⟨_,_,_,rfl,_⟩:=aj;rfl) ?_
     rintro r H' ⟨fk,i28,kY,rfl,rfl,o_⟩
     replace h:=h fk i28 kY o_
     refine dX [] ?_
     refine eb.normal ?_
     obtain⟨lb,h⟩:=h
     refine jW ⟨(bh 119 [(4,an (oH M (Frame.mk (aa M).ok (aa M).av (aa M).au (view fk i28 kY))))]),[(3,(b1 false M)),(2,(bg false J))],(⟨1,4,[[an (aa M).ok,ak 1 0 (aa M).av.length,ak 2 0 (aa M).au.length,ak 3 0 fk.length]]⟩::⟨0,1,List.map aY (aa M).av⟩::⟨0,2,List.map a7 (aa M).au⟩::⟨0,5,a0 4 fk i28⟩::List.map bm kY)⟩ (True) ?_ (fun nd=> ?_)
     ·
      replace h:=lb
      refine bL [2000009] 23 ?_
      refine nP 2 (some 117) (.agg [an (aa M).ok,ak 1 0 (aa M).av.length,ak 2 0 (aa M).au.length,ak 3 0 fk.length]) [(116,.agg (b1 false M))] (φ:=1=1) rfl ?_
      obtain⟨ju,k_,jv,la⟩:=h
      refine mj 1 (some 118) [] [.agg (b1 false M),.agg [an (aa M).ok,ak 1 0 (aa M).av.length,ak 2 0 (aa M).au.length,ak 3 0 fk.length]] (aeY M (Frame.mk (aa M).ok (aa M).av (aa M).au (view fk i28 kY)) la) (aD.cons (da.agg (aD.cons (.bool _) (aD.cons cI (aD.cons cI (aD.cons cI aD.nil))))) (aD.cons (da.agg (aD.cons (.bool _) (aD.cons (nl (sz:=1) (by simp) rfl (s7) ju) (aD.cons (nl (sz:=2) (by simp) rfl (uM) k_) (aD.cons (tB (s:=4) (ws:=fk) (ids:=i28) (bs:=kY) (by simp) rfl (fun id k h=>by simpa using h) jv.1 jv.2.1 jv.2.2) aD.nil))))) aD.nil)) ?_
      exact b5 [(4,an (oH M (Frame.mk (aa M).ok (aa M).av (aa M).au (view fk i28 kY))))] trivial
     exact hB (nk (an (oH M (Frame.mk (aa M).ok (aa M).av (aa M).au (view fk i28 kY)))) (im.h8 (nm h)))
   replace h:=h ih
   refine hN ?_
   refine fo 3 ?_
   refine ei [2000009] 11 [(7,ah dB),(67,ah dB)] [1] [4] ?_
   obtain⟨CI,h⟩:=h
   refine cD [] [5] ((!(!(ho J M dB)))=true) ?_ (fun jw=> ?_)
   ·
    replace h:=CI
    obtain⟨mF,h⟩:=h
    refine cD [(72,an (!(ho J M dB)))] [5] (True) ?_ (fun nN=> ?_)
    ·
     replace h:=mF
     refine bL [2000009] 12 ?_
     have me:=h
     refine mj 4 (some 71) [(70,ah dB),(69,.agg (b1 false M)),(68,.agg (bg false J))] [.agg (bg false J),.agg (b1 false M),ah dB] (aeN J M dB me) (aD.cons (da.agg (aD.cons (.int _ _) (aD.cons cI (aD.cons cI (aD.cons cI (aD.cons (.int _ _) aD.nil)))))) (aD.cons (da.agg (aD.cons (.bool _) (aD.cons cI (aD.cons cI (aD.cons cI aD.nil))))) (aD.cons (da.h8 (.int _ _)) aD.nil))) ?_
     exact b5 [(72,an (!(ho J M dB)))] trivial
    refine dJ (fun lc=> ?_) (fun lc=> ?_)
    ·
     replace h:=h lc
     refine ei [2000009] 13 [(4,an false)] [1] [] ?_
     exact hB (ci.ret (cr.ret (eb.ret (dZ.ret (cr.ret (eb.ret (nk (an false) (im.h8 (nm h)))))))))
    ·
     refine ep ?_
     exact ci.normal (by simp only[q2,hF,ih,lc]<;>rfl) ef
   replace h:=h jw
   refine cD [(75,ah (M.O.length:Int)),(76,ah 0)] [5] (True) ?_ (fun nf=> ?_)
   ·
    refine bL [2000009] 14 ?_
    refine sLen 3 (some 75) [(74,bK (dM false) M.O),(73,aA 3 3)] (dM false) M.O (fun ng=> ?_)
    exact b5 [(76,ah 0)] trivial
   refine fo 4 ?_
   obtain⟨kT,h⟩:=h
   refine kf (fun(v:Int)=>(⟨(bh 119 [(2,aA 2 0),(3,aA 3 0),(7,ah dB),(64,ah (M.O.length:Int)),(65,ah dB),(75,ah (M.O.length:Int)),(76,ah v)]),[(3,(b1 false M)),(2,(bg false J))],[⟨0,4,[]⟩]⟩:St)) (fun(v:Int)=>bo bQ dB v) (fun(v:Int)=>bn bQ dB v) 0 (dC []) kT (fun cB aX=> ?_)
   replace h:=h cB aX
   refine ei [2000009] 15 [(77,an (decide (cB<(M.O.length:Int))))] [1] [7] ?_
   unfold IG at h
   obtain⟨nh,h⟩:=h
   refine cD [] [0,1,7] ((decide (cB<(M.O.length:Int)))=true) ?_ (fun mg=> ?_)
   ·
    replace h:=nh
    refine dJ (fun jx=> ?_) (fun jx=> ?_)
    ·
     refine ep ?_
     exact ci.normal (by simp only[q2,hF,ih,jw,jx]<;>rfl) ef
    ·
     replace h:=h jx
     refine iY 4 ?_
     refine ci.exit ?_
     refine dZ.exit ?_
     refine cr.here ?_
     refine cr.normal ?_
     refine eb.normal ?_
     refine bL [2000009] 20 ?_
     refine dX [(65,ah (IntKind.i64.wrap (dB+1))),(111,ah (IntKind.i64.wrap (dB+1)))] ?_
     exact dZ.again (IntKind.i64.wrap (dB+1)) h (dC [])
   replace h:=h mg
   obtain⟨nO,h⟩:=h
   refine cD [] [7] ((!((dB !=cB)&&((nth (nth J.bW dB) cB)&&(((nth M.O dB).ao !=0)&&((nth M.O cB).ao !=0)))))=true) ?_ (fun sk=> ?_)
   ·
    replace h:=nO
    refine fo 5 ?_
    refine ei [2000009] 16 [(8,ah cB),(78,ah cB)] [1] [7] ?_
    unfold IF at h
    obtain⟨oG,h⟩:=h
    refine cD [(109,an ((dB !=cB)&&((nth (nth J.bW dB) cB)&&(((nth M.O dB).ao !=0)&&((nth M.O cB).ao !=0)))))] [0,1,7] (True) ?_ (fun mG=> ?_)
    ·
     replace h:=oG
     refine bL [2000009] 17 ?_
     refine nQ 4 82 (dB !=cB) [(81,an (dB !=cB)),(80,ah cB),(79,ah dB)] (fun pa=> ?_) (fun pa=> ?_)
     ·
      replace h:=h pa
      obtain⟨xv,h⟩:=h
      refine ld 4 (some 86) [(85,ah dB),(84,bK (i_ aY false) J.bW),(83,aA 2 3)] (i_ aY false) J.bW 1 xv ?_
      obtain⟨mI,h⟩:=h
      refine ld 3 (some 89) [(88,ah cB),(87,bK aY (nth J.bW dB))] aY (nth J.bW dB) 1 mI ?_
      refine nQ 3 92 (nth (nth J.bW dB) cB) [(91,an (nth (nth J.bW dB) cB)),(90,an (nth (nth J.bW dB) cB))] (fun mH=> ?_) (fun mH=> ?_)
      ·
       replace h:=h mH
       obtain⟨q_,h⟩:=h
       refine ld 4 (some 96) [(95,ah dB),(94,bK (dM false) M.O),(93,aA 3 3)] (dM false) M.O 5 q_ ?_
       refine nQ 5 101 ((nth M.O dB).ao !=0) [(100,an ((nth M.O dB).ao !=0)),(99,an ((nth M.O dB).ao !=0)),(98,ah (nth M.O dB).ao),(97,.dA (dM false (nth M.O dB)) 0)] (fun pb=> ?_) (fun pb=> ?_)
       ·
        replace h:=h pb
        have zI:=h
        refine ld 4 (some 105) [(104,ah cB),(103,bK (dM false) M.O),(102,aA 3 3)] (dM false) M.O 5 zI ?_
        exact b5 [(109,an ((nth M.O cB).ao !=0)),(108,an ((nth M.O cB).ao !=0)),(107,ah (nth M.O cB).ao),(106,.dA (dM false (nth M.O cB)) 0)] trivial (by simp only[q2,hF,ih,jw,mg,pa,mH,pb]<;>kernel_rfl)
       ·
        exact b5 ([(109,an false)]++gv [108,107,106,105,104,103,102]) trivial (by simp only[q2,hF,ih,jw,mg,pa,mH,pb]<;>kernel_rfl)
      ·
       exact b5 ([(109,an false)]++gv [108,107,106,105,104,103,102]++[(101,an false),(100,an false)]++gv [99,98,97,96,95,94,93]) trivial (by simp only[q2,hF,ih,jw,mg,pa,mH]<;>kernel_rfl)
     ·
      exact b5 ([(109,an false)]++gv [108,107,106,105,104,103,102]++[(101,an false),(100,an false)]++gv [99,98,97,96,95,94,93]++[(92,an false),(91,an false)]++gv [90,89,88,87,86,85,84,83]) trivial (by simp only[q2,hF,ih,jw,mg,pa]<;>kernel_rfl)
    refine dJ (fun oE=> ?_) (fun oE=> ?_)
    ·
     replace h:=h oE
     refine ei [2000009] 18 [(4,an false)] [1] [] ?_
     exact hB (cr.ret (ci.ret (dZ.ret (cr.ret (cr.ret (eb.ret (dZ.ret (cr.ret (eb.ret (nk (an false) (im.h8 (nm h))))))))))))
    ·
     refine ep ?_
     refine cr.normal ?_
     exact ci.normal (by simp only[q2,hF,ih,jw,mg,oE]<;>rfl) ef
   replace h:=h sk
   refine bL [2000009] 19 ?_
   refine dX [(76,ah (IntKind.i64.wrap (cB+1))),(110,ah (IntKind.i64.wrap (cB+1)))] ?_
   exact dZ.again (IntKind.i64.wrap (cB+1)) h (dC [])
 replace h:=h mc
 obtain⟨ts,h⟩:=h
 refine e_ [] [5] (fun L=>(6,(a7 (nth M.au bQ)))::L) id ((!((!(b4 (nth M.au bQ).cH 1 2)) || (!(b4 (nth M.au bQ).a2 0 2))))=true) ?_ (fun tn=> ?_)
 ·
  replace h:=ts
  refine fo 1 ?_
  obtain⟨tr,h⟩:=h
  refine e_ [(6,aA 6 0)] [5] (fun L=>(6,(a7 (nth M.au bQ)))::L) id (True) ?_ (fun zJ=> ?_)
  ·
   replace h:=tr
   refine bL [2000009] 5 ?_
   have xw:=h
   refine ld 1 (some 49) [] a7 M.au 2 xw ?_
   exact b5 [(6,aA 6 0),(50,.agg (a7 (nth M.au bQ)))] trivial
  refine cD [(60,an ((!(b4 (nth M.au bQ).cH 1 2)) || (!(b4 (nth M.au bQ).a2 0 2))))] [0,1,5] (True) ?_ (fun sm=> ?_)
  ·
   refine bL [2000009] 6 ?_
   refine mj 3 (some 53) [(52,ah (nth M.au bQ).cH),(51,aA 6 0)] [ah (nth M.au bQ).cH,ah 1,ah 2] (IJ (nth M.au bQ).cH 1 2) (aD.cons (da.h8 (.int _ _)) (aD.cons (da.h8 (.int _ _)) (aD.cons (da.h8 (.int _ _)) aD.nil))) ?_
   refine nQ 2 55 (!(b4 (nth M.au bQ).cH 1 2)) [(54,an (!(b4 (nth M.au bQ).cH 1 2)))] (fun tp=> ?_) (fun tp=> ?_)
   ·
    exact b5 ([(60,an true)]++gv [59,58,57,56]) trivial (by simp only[q2,mc,tp]<;>kernel_rfl)
   ·
    refine mj 3 (some 58) [(57,ah (nth M.au bQ).a2),(56,aA 6 1)] [ah (nth M.au bQ).a2,ah 0,ah 2] (IJ (nth M.au bQ).a2 0 2) (aD.cons (da.h8 (.int _ _)) (aD.cons (da.h8 (.int _ _)) (aD.cons (da.h8 (.int _ _)) aD.nil))) ?_
    exact b5 [(60,an (!(b4 (nth M.au bQ).a2 0 2))),(59,an (!(b4 (nth M.au bQ).a2 0 2)))] trivial (by simp only[q2,mc,tp]<;>kernel_rfl)
  refine dJ (fun ra=> ?_) (fun ra=> ?_)
  ·
   replace h:=h ra
   refine ei [2000009] 7 [(4,an false)] [1] [] ?_
   exact hB (cr.ret (ci.ret (dZ.ret (cr.ret (eb.ret (nk (an false) (im.h8 (nm h))))))))
  ·
   refine ep ?_
   refine cr.normal ?_
   exact ci.normal (by simp only[q2,mc,ra]<;>rfl) ef
 replace h:=h tn
 refine bL [2000009] 8 ?_
 refine dX [(47,ah (IntKind.i64.wrap (bQ+1))),(61,ah (IntKind.i64.wrap (bQ+1)))] ?_
 exact dZ.again (IntKind.i64.wrap (bQ+1)) h (dC [6])
theorem aen (J:az) (M:Frame) (aI:yA J M):b2 Try.prog 41 [.agg (bg false J),.agg (b1 false M)] (an (ev J M)):=aep J M (ev J M) (cl M.au.length (fun j=>(!(b4 (nth M.au j).cH 1 2)) || (!(b4 (nth M.au j).a2 0 2)))) (cy M.au.length) (fun _ i=>(∀x∈M.au,js x=true)∧cl M.O.length (fun i=> !(ho J M i) || xF J M M.O.length i) i) (fun _=>cy M.O.length) (fun _ i=>cl M.O.length (fun k=>iG J M i k)) (fun _ _=>cy M.O.length) (by
 unfold IE II
 have hs:jz M:=aI
 have no: ∀φ:Prop,(ev J M=true→φ)→ ¬φ→false=ev J M:=fun φ h1 h2=>by
  cases h:ev J M with
  | false=>rfl
  | true=>exact absurd (h1 h) h2
 have D:=fun h=>(ud (p:=J) (f:=M)).1 h
 refine⟨fun aj=>no _ D (fun bj=>by have:=bj.1;unfold rO at this;rw[aj] at this;cases this),fun aj aF=>⟨c6 (dd _),fun v aX=> ?_⟩⟩
 have pJ:rO J M=true:=aj
 obtain⟨jn,dk,qp,jV,jC⟩:=m1.1 pJ
 have cx:=tj jn
 have dW:=vc jn
 unfold IH
 refine⟨fun hv hm=> ?_,fun hv=>⟨⟨b8 aX hv,fun hb=>no _ D fun bj=> ?_⟩,fun hb=>cG (cq aF) aX hv (not_eq hb)⟩⟩
 ·have k5: ∀x∈M.au,js x=true:=fun x hx=>by
   have:=mn (q:=fun x:a_=>(!(b4 x.cH 1 2)) || (!(b4 x.a2 0 2))) (gG aX hv) x hx
   unfold js
   simpa[Bool.and_eq_true] using this
  refine⟨⟨k5,c6 (dd _)⟩,fun i cZ=>⟨fun hi=> ?_,fun hi=> ?_⟩⟩
  ·have eE:=gG cZ.2 hi
   have yY: ∀i:Int,0≤i→i<M.O.length→ho J M i=true:=fun i i0 i1=>by
    have:=eE i i0 i1
    rw[Bool.or_eq_false_iff] at this
    simpa using this.1
   have Fc: ∀i k:Int,0≤i→i<M.O.length→0≤k→k<M.O.length→iG J M i k=false:=fun i k i0 i1 a5 df=>by
    have:=eE i i0 i1
    rw[Bool.or_eq_false_iff] at this
    have h2:=this.2
    unfold xF at h2
    rw[List.any_eq_false] at h2
    have:=h2 k.toNat (List.mem_range.2 (by omega))
    rw[Int.toNat_of_nonneg a5] at this
    simpa using this
   have dc:il J M:=ER pJ fun i i0 i1=>by
    have:=yY i i0 i1
    rw[Bw,Bool.and_eq_true] at this;exact this.1
   obtain⟨fs,fX,fw⟩:=wk M.O
   have lA:gy M.O (List.range M.O.length) (M.O.map ad.ac):=⟨fs,fX,fun b hb=>by
    obtain⟨h,bY,rfl⟩:=List.mem_map.1 hb;exact hs.2.2.2 h bY⟩
   have BT:c5 M.ok M.av M.au M.O (List.range M.O.length) (M.O.map ad.ac)=M:=by unfold c5;rw[fw]
   refine⟨hs,⟨lA,?_⟩,fun w i b ko=> ?_⟩
   ·show tD J (c5 M.ok M.av M.au M.O (List.range M.O.length) (M.O.map ad.ac))
    rw[BT];exact⟨cx,dc⟩
   ·obtain⟨G,hv⟩:=ko
    replace hv:view w i b=(ee J (c5 M.ok M.av M.au M.O (List.range M.O.length) (M.O.map ad.ac))).O:=hv
    rw[BT] at hv
    have aL:w.length=M.O.length:=by rw[←jl G.ok,hv];exact pd _ _ _
    have LA:=z0 dc M.O.length
    obtain⟨s1,s2,mi,ac8⟩:=hs
    have pR:(ee J M).O.length=M.O.length:=pd _ _ _
    have wB: ∀h∈(ee J M).O,h.ac.length≤1048576:=fun h bY=>by
     obtain⟨j,aM,rfl⟩:=List.mem_iff_getElem.1 bY
     have:=LA.ac j _ _ (List.getElem?_eq_getElem aM) (List.getElem?_eq_getElem (by omega))
     rw[this]
     have:=(cx.af _ (List.getElem_mem (show j<J.O.length by omega))).2.1
     omega
    refine⟨⟨by show M.av.length≤_;omega,by show M.au.length≤_;omega,⟨G.ok,by omega,fun x hx=>by have:=G.len x hx;omega⟩,?_,⟨s1,s2,mi,ac8⟩,⟨s1,s2,?_,?_⟩,fun j x y bA e2=> ?_⟩,?_⟩
    ·show M.O.length=(view w i b).length;rw[jl G.ok,aL]
    ·show(view w i b).length≤_;rw[jl G.ok];omega
    ·show ∀h∈view w i b,_
     rw[hv];exact wB
    ·replace e2:(view w i b)[j]?=some y:=e2
     rw[hv] at e2
     have aM:=(List.getElem?_eq_some_iff.1 bA).1
     have hw:=List.getElem?_eq_getElem (show j<J.O.length by omega)
     rw[dc.ac j _ _ bA hw,LA.ac j _ _ e2 hw]
    ·unfold oH
     show decide (M.O=view w i b)=_
     rw[hv]
     by_cases h:M.O=(ee J M).O
     ·rw[decide_eq_true h,ud.2 ⟨pJ,k5,yY,Fc,h⟩]
     ·rw[decide_eq_false h]
      exact no _ D fun bj=>h bj.2.2.2.2
  ·have b9:=b8 cZ.2 hi
   refine⟨⟨⟨cx,hs,jC,b9.1,by omega⟩,fun hb=>no _ D fun bj=> ?_⟩,fun hb=>⟨c6 (dd _),fun k hK=> ?_⟩⟩
   ·rw[bj.2.2.1 i b9.1 (by omega)] at hb;cases hb
   ·have hb:ho J M i=true:=by simpa using hb
    unfold IG
    refine⟨fun hk=> ?_,fun hk=>⟨?_,fun aj=>cG (cq hm) hK hk (not_eq aj)⟩⟩
    ·have:=cG (cq hm) cZ.2 hi (show(!(ho J M i) || xF J M M.O.length i)=false by
      rw[hb]
      exact List.any_eq_false.2 fun k jH=>by rw[gG hK hk k (by omega) (by have:=List.mem_range.1 jH;omega)];simp)
     exact⟨⟨k5,this.1⟩,this.2⟩
    ·have qL:=b8 hK hk
     have hn:=dW.len
     have eX:=dW.row i b9.1 (by omega)
     unfold IF
     refine⟨fun _=>⟨⟨b9.1,by omega⟩,⟨qL.1,by omega⟩,fun _=>⟨b9,fun _=>qL⟩⟩,fun aj=>no _ D fun bj=> ?_⟩
     have:=bj.2.2.2.1 i k b9.1 (by omega) qL.1 (by omega)
     have aj:iG J M i k=true:=aj
     rw[this] at aj;cases aj
 ·have:=bj.2.1 _ (dq (b8 aX hv).2)
  unfold js at this
  rw[Bool.and_eq_true] at this
  rw[this.1,this.2] at hb;cases hb)
def ZB:List Item:=[ap 0,ap 1,ap 2,ap 3,ap 4,ap 5]
def ZC:List (List Nat):=[[],[],[],[1,2],rg 0 4,rg 0 5]
def Mx (bo:dP Prop) (bn:dP Nat) (J:az) (M:Frame) (al:Bool) (ft mo c1:Int):Prop:=
  ((((nth M.O c1).ao !=0)=true→(0≤mo∧mo.toNat<M.O.length)∧(((nth M.O mo).ao !=0)=true→(0≤c1∧c1.toNat<J.bW.length)∧(0≤mo∧mo.toNat<(nth J.bW c1).length)))∧((((nth M.O c1).ao !=0)&&(((nth M.O mo).ao !=0)&&(nth (nth J.bW c1) mo)))=true→false=al))∧((!(((nth M.O c1).ao !=0)&&(((nth M.O mo).ao !=0)&&(nth (nth J.bW c1) mo))))=true→bo ft c1 (IntKind.i64.wrap (mo+1))∧bn ft c1 (IntKind.i64.wrap (mo+1))<bn ft c1 mo)
def My (aQ:Int→Int→Prop) (aR:Int→Int→Nat) (bo:dP Prop) (bn:dP Nat) (J:az) (M:Frame) (al:Bool) (ft c1:Int):Prop:=
  ((((nth M.O c1).ao==0)=true→(nth M.O c1).aq=true→false=al)∧(((nth M.O c1).ao==0)=false→(bif ((nth M.O c1).ao==2) then((nth M.O c1).ao==2) else((nth M.O c1).ao==3))=true→(!(nth M.O c1).aq)=true→false=al))∧((bif ((nth M.O c1).ao==0) then(!(nth M.O c1).aq) else(!(bif ((nth M.O c1).ao==2) then((nth M.O c1).ao==2) else((nth M.O c1).ao==3)) || (!(!(nth M.O c1).aq))))=true→bo ft c1 0∧ ∀(mo:Int),bo ft c1 mo→(((decide (mo<c1))=false→aQ ft (IntKind.i64.wrap (c1+1))∧aR ft (IntKind.i64.wrap (c1+1))<aR ft c1)∧((decide (mo<c1))=true→Mx bo bn J M al ft mo c1)))
def Mz (aQ:Int→Int→Prop) (aR:Int→Int→Nat) (bo:dP Prop) (bn:dP Nat) (J:az) (M:Frame) (al:Bool) (ft c1:Int):Prop:=
  ((((nth M.O c1).ao==3)=true→((decide ((nth M.O c1).ar<1)) || (decide ((nth M.O c1).ar>J.dx)))=true→false=al)∧(((nth M.O c1).ao==3)=false→((nth M.O c1).ar !=0)=true→false=al))∧((bif ((nth M.O c1).ao==3) then(!((decide ((nth M.O c1).ar<1)) || (decide ((nth M.O c1).ar>J.dx)))) else(!((nth M.O c1).ar !=0)))=true→My aQ aR bo bn J M al ft c1)
def MA (aQ:Int→Int→Prop) (aR:Int→Int→Nat) (bo:dP Prop) (bn:dP Nat) (J:az) (M:Frame) (al:Bool) (ft c1:Int):Prop:=
  ((((nth M.O c1).ao !=4)=true→(((nth M.O c1).ag !=0) || (jZ (nth M.O c1).ac true))=true→false=al)∧(((nth M.O c1).ao !=4)=false→(0≤(nth M.O c1).ag∧(nth M.O c1).ag≤((nth M.O c1).ac.length:Int))∧((jZ ((nth M.O c1).ac.take (nth M.O c1).ag.toNat) false)=true→false=al)))∧((bif ((nth M.O c1).ao !=4) then(!(((nth M.O c1).ag !=0) || (jZ (nth M.O c1).ac true))) else(!(jZ ((nth M.O c1).ac.take (nth M.O c1).ag.toNat) false)))=true→Mz aQ aR bo bn J M al ft c1)
def MB (aQ:Int→Int→Prop) (aR:Int→Int→Nat) (bo:dP Prop) (bn:dP Nat) (J:az) (M:Frame) (al:Bool) (ft c1:Int):Prop:=
  (((decide ((nth M.O c1).ao<0)) || ((decide ((nth M.O c1).ao>4)) || ((((nth M.O c1).ac.length:Int) !=((nth J.O c1).af.length:Int)) || ((decide ((nth M.O c1).ag<0)) || (decide ((nth M.O c1).ag ≥ ((nth J.O c1).af.length:Int)))))))=true→false=al)∧((!((decide ((nth M.O c1).ao<0)) || ((decide ((nth M.O c1).ao>4)) || ((((nth M.O c1).ac.length:Int) !=((nth J.O c1).af.length:Int)) || ((decide ((nth M.O c1).ag<0)) || (decide ((nth M.O c1).ag ≥ ((nth J.O c1).af.length:Int))))))))=true→MA aQ aR bo bn J M al ft c1)
def MC (ay:Int→Prop) (aB:Int→Nat) (M:Frame) (al:Bool) (ft:Int):Prop:=
  ((0≤ft∧ft.toNat<M.au.length)∧((bif ((nth M.au ft).cH !=1) then(((nth M.au ft).cH !=2) || ((decide ((nth M.au ft).a2<0)) || (decide ((nth M.au ft).a2>2)))) else((decide ((nth M.au ft).a2<0)) || (decide ((nth M.au ft).a2>2))))=true→false=al))∧((!(bif ((nth M.au ft).cH !=1) then(((nth M.au ft).cH !=2) || ((decide ((nth M.au ft).a2<0)) || (decide ((nth M.au ft).a2>2)))) else((decide ((nth M.au ft).a2<0)) || (decide ((nth M.au ft).a2>2)))))=true→ay (IntKind.i64.wrap (ft+1))∧aB (IntKind.i64.wrap (ft+1))<aB ft)
def MD (ay:Int→Prop) (aB:Int→Nat) (aQ:Int→Int→Prop) (aR:Int→Int→Nat) (bo:dP Prop) (bn:dP Nat) (J:az) (M:Frame) (al:Bool) (ft:Int):Prop:=
  ((decide (ft<(M.au.length:Int)))=false→M.O.length≤4611686018427387904→aQ ft 0∧ ∀(c1:Int),aQ ft c1→(((decide (c1<(M.O.length:Int)))=false→(tD J M)∧((vj M (ee J M))=al))∧((decide (c1<(M.O.length:Int)))=true→(0≤c1∧c1.toNat<M.O.length)∧((0≤c1∧c1.toNat<J.O.length)∧((nth J.O c1).af.length≤4611686018427387904→MB aQ aR bo bn J M al ft c1)))))∧((decide (ft<(M.au.length:Int)))=true→MC ay aB M al ft)
def ME (ay:Int→Prop) (aB:Int→Nat) (aQ:Int→Int→Prop) (aR:Int→Int→Nat) (bo:dP Prop) (bn:dP Nat) (J:az) (M:Frame) (al:Bool):Prop:=
  (((!(ea J)) || ((!M.ok) || (((M.av.length:Int) !=J.af) || (((M.au.length:Int) !=(J.be.length:Int)) || ((M.O.length:Int) !=(J.O.length:Int))))))=true→false=al)∧((!((!(ea J)) || ((!M.ok) || (((M.av.length:Int) !=J.af) || (((M.au.length:Int) !=(J.be.length:Int)) || ((M.O.length:Int) !=(J.O.length:Int)))))))=true→M.au.length≤4611686018427387904→ay 0∧ ∀(ft:Int),ay ft→(MD ay aB aQ aR bo bn J M al ft))
def Mw (J:az) (M:Frame) (al:Bool) (ay:Int→Prop) (aB:Int→Nat) (aQ:Int→Int→Prop) (aR:Int→Int→Nat) (bo:dP Prop) (bn:dP Nat):Prop:=
 ME ay aB aQ aR bo bn J M al
theorem Zz (J:az) (M:Frame) (aI:yA J M):b2 Try.prog 43 [.agg (bg false J),.agg (b1 false M)] (an (ev J M)):=(fun(ay:Int→Prop) (aB:Int→Nat) (aQ:Int→Int→Prop) (aR:Int→Int→Nat) (bo:dP Prop) (bn:dP Nat) (h:Mw J M (ev J M) ay aB aQ aR bo bn)=>b2.run (ps:=[.dr,.frame]) (rs:=[.bool]) (x:=(J,M,())) (r:=((ev J M),())) ⟨190,eh,[Ns,aaD,aaB,adK]⟩ ⟨[],[(40,ZB,ZC)],[],[],[]⟩ (eP [2,3,46,47] [(3,4),(2,5)] 48 ay aB fun aN=>(eP [2,3,72,73] [(3,4),(2,5)] 74 (aQ aN) (aR aN) fun bx=>(eP [2,3,7,8,72,73,74,157] [(8,5),(3,4),(2,5)] 158 (bo aN bx) (bn aN bx) fun _=> .nil))) Try.func43 h) (cl M.au.length (fun j=> !js (nth M.au j))) (cy M.au.length) (fun _ i=>(∀x∈M.au,js x=true)∧cl M.O.length (fun i=> !(ho J M i) || xF J M i.toNat i) i) (fun _=>cy M.O.length) (fun _ i=>cl i (fun k=>iG J M i k)) (fun _ i=>cy i) (by
 unfold Mw ME
 have hs:jz M:=aI
 have no: ∀φ:Prop,(ev J M=true→φ)→ ¬φ→false=ev J M:=fun φ h1 h2=>by
  cases h:ev J M with
  | false=>rfl
  | true=>exact absurd (h1 h) h2
 have D:=fun h=>(ud (p:=J) (f:=M)).1 h
 refine⟨fun aj=>no _ D (fun bj=>by have:=bj.1;unfold rO at this;rw[aj] at this;cases this),fun aj aF=>⟨c6 (dd _),fun v aX=> ?_⟩⟩
 have pJ:rO J M=true:=aj
 obtain⟨jn,dk,qp,jV,jC⟩:=m1.1 pJ
 have cx:=tj jn
 have dW:=vc jn
 unfold MD
 refine⟨fun hv hm=> ?_,fun hv=> ?_⟩
 ·have k5: ∀x∈M.au,js x=true:=fun x hx=>by
   simpa using mn (q:=fun x:a_=> !js x) (gG aX hv) x hx
  refine⟨⟨k5,c6 (dd _)⟩,fun i cZ=>⟨fun hi=> ?_,fun hi=> ?_⟩⟩
  ·have eE:=gG cZ.2 hi
   have yY: ∀i:Int,0≤i→i<M.O.length→ho J M i=true:=fun i i0 i1=>by
    have:=eE i i0 i1
    rw[Bool.or_eq_false_iff] at this
    simpa using this.1
   have L9: ∀i k:Int,0≤i→i<M.O.length→0≤k→k<i→iG J M i k=false:=fun i k i0 i1 a5 df=>by
    have:=eE i i0 i1
    rw[Bool.or_eq_false_iff] at this
    have h2:=this.2
    unfold xF at h2
    rw[List.any_eq_false] at h2
    have:=h2 k.toNat (List.mem_range.2 (by omega))
    rw[Int.toNat_of_nonneg a5] at this
    simpa using this
   have Fc: ∀i k:Int,0≤i→i<M.O.length→0≤k→k<M.O.length→iG J M i k=false:=fun i k i0 i1 a5 df=>by
    rcases Int.lt_trichotomy k i with h | h | h
    ·exact L9 i k i0 i1 a5 h
    ·unfold iG;rw[h];simp
    ·rw[T1 dW jC i0 i1 a5 df];exact L9 k i a5 df i0 h
   have dc:il J M:=ER pJ fun i i0 i1=>by
    have:=yY i i0 i1
    rw[Bw,Bool.and_eq_true] at this;exact this.1
   refine⟨⟨cx,dc⟩,?_⟩
   obtain⟨s1,s2,mi⟩:=qc J M M.O.length
   unfold vj
   rw[show(ee J M).av=M.av from s2,show(ee J M).au=M.au from mi]
   unfold eqv
   by_cases h:M.O=(ee J M).O
   ·rw[decide_eq_true h,ud.2 ⟨pJ,k5,yY,Fc,h⟩];simp
   ·rw[decide_eq_false h,Bool.and_false]
    exact no _ D fun bj=>h bj.2.2.2.2
  ·have b9:=b8 cZ.2 hi
   have gb:i<(M.O.length:Int):=by simpa using hi
   have uZ: ∀c:Bool,c=false→(ho J M i=true→c=true)→false=ev J M:=fun c hc h=>no _ D fun bj=>by
    have:=h (bj.2.2.1 i b9.1 (by omega));rw[hc] at this;cases this
   have P:=Bw J M i
   refine⟨b9,⟨b9.1,by omega⟩,fun r4=> ?_⟩
   unfold MB
   refine⟨fun aj=>uZ (sW J M i) (by unfold sW;rw[aj];rfl) fun h=>by rw[P,Bool.and_eq_true] at h;exact h.1,fun FE=> ?_⟩
   have h1:sW J M i=true:=FE
   rw[h1,Bool.true_and] at P
   have Fo:0≤(nth M.O i).ag∧(nth M.O i).ag≤((nth M.O i).ac.length:Int):=by
    unfold sW at h1
    simp only[Bool.not_eq_true',Bool.or_eq_false_iff,bne_eq_false_iff_eq,decide_eq_false_iff_not] at h1
    omega
   unfold MA
   refine⟨⟨fun a8 aj=>uZ (us M i) (by unfold us;rw[a8,aj];rfl) fun h=>by rw[P,Bool.and_eq_true] at h;exact h.1,
    fun a8=>⟨Fo,fun aj=>uZ (us M i) (by unfold us;rw[a8,aj];rfl) fun h=>by rw[P,Bool.and_eq_true] at h;exact h.1⟩⟩,fun kp=> ?_⟩
   have h2:us M i=true:=kp
   rw[h2,Bool.true_and] at P
   unfold Mz
   refine⟨⟨fun a8 aj=>uZ (uu J M i) (by unfold uu;rw[a8,aj];rfl) fun h=>by rw[P,Bool.and_eq_true] at h;exact h.1,
    fun a8 aj=>uZ (uu J M i) (by unfold uu;rw[a8,aj];rfl) fun h=>by rw[P,Bool.and_eq_true] at h;exact h.1⟩,fun YS=> ?_⟩
   have aP:uu J M i=true:=YS
   rw[aP,Bool.true_and] at P
   unfold My
   refine⟨⟨fun a8 aj=>uZ (uv M i) (by unfold uv;rw[a8,aj];rfl) fun h=>by rw[P] at h;exact h,
    fun a8 hc aj=>uZ (uv M i) (by unfold uv;rw[a8,hc,aj];rfl) fun h=>by rw[P] at h;exact h⟩,fun YT=> ?_⟩
   have a8:uv M i=true:=YT
   rw[a8] at P
   refine⟨c6 b9.1,fun k hK=>⟨fun hk=> ?_,fun hk=> ?_⟩⟩
   ·have:=cG (cq hm) cZ.2 hi (show(!(ho J M i) || xF J M i.toNat i)=false by
     rw[P]
     exact List.any_eq_false.2 fun k jH=>by rw[gG hK hk k (by omega) (by have:=List.mem_range.1 jH;omega)];simp)
    exact⟨⟨k5,this.1⟩,this.2⟩
   ·have ahe:k<i:=by simpa using hk
    have rW:=hK.1
    have hn:=dW.len
    have eX:=dW.row i b9.1 (by omega)
    have hc:(((nth M.O i).ao !=0)&&(((nth M.O k).ao !=0)&&(nth (nth J.bW i) k)))=iG J M i k:=by
     unfold iG kZ
     rw[show(i !=k)=true by simpa using(show i≠k by omega)]
     cases((nth M.O i).ao !=0)<;>cases((nth M.O k).ao !=0)<;>cases(nth (nth J.bW i) k)<;>rfl
    unfold Mx
    rw[hc]
    refine⟨⟨fun _=>⟨⟨rW,by omega⟩,fun _=>⟨⟨b9.1,by omega⟩,rW,by omega⟩⟩,fun aj=>no _ D fun bj=> ?_⟩,fun aj=>cG (by omega) hK hk (not_eq aj)⟩
    have:=bj.2.2.2.1 i k b9.1 (by omega) rW (by omega)
    rw[this] at aj;cases aj
 ·unfold MC
  rw[acu]
  refine⟨⟨b8 aX hv,fun hb=>no _ D fun bj=> ?_⟩,fun hb=>cG (cq aF) aX hv (not_eq hb)⟩
  have:=bj.2.1 _ (dq (b8 aX hv).2)
  rw[this] at hb;cases hb)
def ZA:ey Try.prog:=⟨43,[.dr,.frame],[.bool],some fun x=>yA x.1 x.2.1,fun x=>((ev x.1 x.2.1),()),fun x h=>Zz x.1 x.2.1 h⟩
def Nf (J:Int) (M:Int) (al:Bool):Prop:=
 ((decide (J ≥ 0))&&(decide (J<M)))=al
theorem aaj (J:Int) (M:Int):b2 Try.prog 107 [ah J,ah M] (an (pX J M)):=(fun(h:Nf J M (pX J M))=>b2.run (ps:=[.int,.int]) (rs:=[.bool]) (x:=(J,M,())) (r:=((pX J M),())) ⟨12,eh,[]⟩ ⟨[],[],[],[],[]⟩ .nil Try.func107 h) (by
 unfold Nf pX
 rfl)
def aak:ey Try.prog:=⟨107,[.int,.int],[.bool],none,fun x=>((pX x.1 x.2.1),()),fun x h=>aaj x.1 x.2.1⟩
def RB (ay:Int→Prop) (aB:Int→Nat) (J:az) (M:Frame) (U c9:Int) (al:Bool) (bG:Int):Prop:=
  ((0≤bG∧bG.toNat<(nth J.O U).af.length)∧((((nth (nth J.O U).af bG)==c9)=true→0≤U∧U.toNat<M.O.length)∧((((nth (nth J.O U).af bG)==c9)&&(decide (bG ≥ (nth M.O U).ag)))=true→true=al)))∧((!(((nth (nth J.O U).af bG)==c9)&&(decide (bG ≥ (nth M.O U).ag))))=true→ay (IntKind.i64.wrap (bG+1))∧aB (IntKind.i64.wrap (bG+1))<aB bG)
def RC (ay:Int→Prop) (aB:Int→Nat) (J:az) (M:Frame) (U c9:Int) (al:Bool):Prop:=
  ((0≤U∧U.toNat<M.O.length)∧(((nth M.O U).ao==0)=true→false=al))∧((!((nth M.O U).ao==0))=true→(0≤U∧U.toNat<J.O.length)∧((nth J.O U).af.length≤4611686018427387904→ay 0∧ ∀(bG:Int),ay bG→(((decide (bG<((nth J.O U).af.length:Int)))=false→false=al)∧((decide (bG<((nth J.O U).af.length:Int)))=true→RB ay aB J M U c9 al bG))))
def RA (J:az) (M:Frame) (U:Int) (c9:Int) (al:Bool) (ay:Int→Prop) (aB:Int→Nat):Prop:=
 RC ay aB J M U c9 al
theorem afb (J:az) (M:Frame) (U:Int) (c9:Int) (aI:uA J M U c9):b2 Try.prog 111 [.agg (bg false J),.agg (b1 false M),ah U,ah c9] (an (fz J M U c9)):=(fun(ay:Int→Prop) (aB:Int→Nat) (h:RA J M U c9 (fz J M U c9) ay aB)=>b2.run (ps:=[.dr,.frame,.int,.int]) (rs:=[.bool]) (x:=(J,M,U,c9,())) (r:=((fz J M U c9),())) ⟨44,eh,[]⟩ ⟨[],[],[],[],[]⟩ (eP [2,3,5,23,24] [(5,4)] 25 ay aB fun _=> .nil) Try.func111 h) (cl (nth J.O U).af.length (fun k=>((nth (nth J.O U).af k)==c9)&&(decide (k ≥ (nth M.O U).ag)))) (cy (nth J.O U).af.length) (by
 unfold RA RC
 obtain⟨hf,aU,h1⟩:=aI
 have hw:=hf.fr.O
 have bf:U.toNat<J.O.length:=by omega
 have qN:U.toNat<M.O.length:=by omega
 have hg:=hf.fr.ag _ (dq qN)
 refine⟨⟨⟨aU,qN⟩,fun h=> ?_⟩,fun h=>⟨⟨aU,bf⟩,fun aF=>⟨c6 (dd _),fun v aX=>⟨fun hv=> ?_,fun hv=> ?_⟩⟩⟩⟩
 ·unfold fz
  rw[show((nth M.O U).ao !=0)=false by simpa using h];rfl
 ·have hs:((nth M.O U).ao !=0)=true:=by simpa using h
  unfold fz
  rw[hs,Bool.true_and,eq_comm,←Bool.not_eq_true,AY]
  rintro⟨k,hk,aL,he⟩
  have:=gG aX hv k (by omega) (by omega)
  rw[iJ aL,he] at this
  simp at this
  omega
 ·have hs:((nth M.O U).ao !=0)=true:=by simpa using h
  have b9:=b8 aX hv
  unfold RB
  refine⟨⟨b9,fun _=>⟨aU,qN⟩,fun hb=> ?_⟩,fun hb=>cG (cq aF) aX hv (not_eq hb)⟩
  unfold fz
  rw[hs,Bool.true_and,eq_comm,AY]
  simp only[Bool.and_eq_true,beq_iff_eq,decide_eq_true_eq] at hb
  exact⟨v.toNat,by omega,b9.2,by rw[←gq b9.2];exact hb.1⟩)
def afc:ey Try.prog:=⟨111,[.dr,.frame,.int,.int],[.bool],some fun x=>uA x.1 x.2.1 x.2.2.1 x.2.2.2.1,fun x=>((fz x.1 x.2.1 x.2.2.1 x.2.2.2.1),()),fun x h=>afb x.1 x.2.1 x.2.2.1 x.2.2.2.1 h⟩
def Nc (J:az) (M:Frame) (U:Int) (c9:Int) (al:Bool):Prop:=
 (0≤U∧U.toNat<J.O.length)∧(((0≤U∧U.toNat<M.O.length)∧(((nth M.O U).ao !=0)=true→0≤U∧U.toNat<M.O.length))∧((((nth M.O U).ao !=0)&&((decide ((nG (nth J.O U).af c9) ≥ (nth M.O U).ag))&&(decide ((nG (nth J.O U).af c9) ≥ 0))))=al))
theorem aaa (J:az) (M:Frame) (U:Int) (c9:Int) (aI:uA J M U c9):b2 Try.prog 152 [.agg (bg false J),.agg (b1 false M),ah U,ah c9] (an (fz J M U c9)):=(fun(h:Nc J M U c9 (fz J M U c9))=>b2.run (ps:=[.dr,.frame,.int,.int]) (rs:=[.bool]) (x:=(J,M,U,c9,())) (r:=((fz J M U c9),())) ⟨39,eh,[QK]⟩ ⟨[],[],[],[],[]⟩ .nil Try.func152 h) (by
 unfold Nc
 obtain⟨hf,aU,h1⟩:=aI
 have hw:=hf.fr.O
 have bf:U.toNat<J.O.length:=by omega
 have qN:U.toNat<M.O.length:=by omega
 have hg:=hf.fr.ag _ (dq qN)
 refine⟨⟨aU,bf⟩,⟨⟨aU,qN⟩,fun _=>⟨aU,qN⟩⟩,?_⟩
 unfold fz
 rw[has_eq (adg hf.l7 (dq bf)) hg.1])
def Nd:ey Try.prog:=⟨152,[.dr,.frame,.int,.int],[.bool],some fun x=>uA x.1 x.2.1 x.2.2.1 x.2.2.2.1,fun x=>((fz x.1 x.2.1 x.2.2.1 x.2.2.2.1),()),fun x h=>aaa x.1 x.2.1 x.2.2.1 x.2.2.2.1 h⟩
def Ng (J:az) (M:Frame) (U:Int) (al:Int) (ay:Int→Prop) (aB:Int→Nat):Prop:=
 J.O.length≤4611686018427387904→ay 0∧ ∀(v11:Int),ay v11→(((decide (v11<(J.O.length:Int)))=false→(-1)=al)∧((decide (v11<(J.O.length:Int)))=true→((uA J M v11 U)∧((fz J M v11 U)=true→v11=al))∧((!(fz J M v11 U))=true→ay (IntKind.i64.wrap (v11+1))∧aB (IntKind.i64.wrap (v11+1))<aB v11)))
theorem aal (J:az) (M:Frame) (U:Int) (aI:G8 J M U):b2 Try.prog 112 [.agg (bg false J),.agg (b1 false M),ah U] (ah (sd J M U)):=(fun(ay:Int→Prop) (aB:Int→Nat) (h:Ng J M U (sd J M U) ay aB)=>b2.run (ps:=[.dr,.frame,.int]) (rs:=[.int]) (x:=(J,M,U,())) (r:=((sd J M U),())) ⟨21,eh,[Nd]⟩ ⟨[],[],[],[],[]⟩ (eP [2,3,4,10] [(4,4),(3,5)] 11 ay aB fun _=> .nil) Try.func112 h) (cl J.O.length (fun i=>fz J M i U)) (cy J.O.length) (by
 unfold Ng
 have hf:Fit J M:=aI
 intro aF
 refine⟨c6 (dd _),fun v aX=>⟨fun hv=> ?_,fun hv=>⟨⟨⟨hf,(b8 aX hv).1,by simpa using hv⟩,fun hb=> ?_⟩,fun hb=>cG (cq aF) aX hv (not_eq hb)⟩⟩⟩
 ·unfold sd;rw[acK aX hv];rfl
 ·unfold sd;rw[acL aX hv hb]
  have:=aX.1
  show v=(v.toNat:Int);omega)
def aam:ey Try.prog:=⟨112,[.dr,.frame,.int],[.int],some fun x=>G8 x.1 x.2.1 x.2.2.1,fun x=>((sd x.1 x.2.1 x.2.2.1),()),fun x h=>aal x.1 x.2.1 x.2.2.1 h⟩
def MF (J:az) (M:Frame) (U:Int) (al:Int):Prop:=
 ((yA J M)∧(((!(ev J M)) || (!(pX U J.af)))=true→(-1)=al))∧((!((!(ev J M)) || (!(pX U J.af))))=true→(G8 J M U)∧((sd J M U)=al))
theorem ZD (J:az) (M:Frame) (U:Int) (aI:EQ J M U):b2 Try.prog 48 [.agg (bg false J),.agg (b1 false M),ah U] (ah (pr J M U)):=(fun(h:MF J M U (pr J M U))=>b2.run (ps:=[.dr,.frame,.int]) (rs:=[.int]) (x:=(J,M,U,())) (r:=((pr J M U),())) ⟨22,eh,[ZA,aak,aam]⟩ ⟨[],[],[],[],[]⟩ .nil Try.func48 h) (by
 unfold MF
 refine⟨⟨aI,fun h=> ?_⟩,fun h=> ?_⟩
 ·unfold pr
  cases aj:ev J M with
  | false=>rfl
  | true=>
   rw[aj] at h
   have:pX U J.af=false:=by simpa using h
   rw[this];rfl
 ·have h:ev J M=true∧pX U J.af=true:=by simpa using h
  refine⟨jG h.1,?_⟩
  unfold pr;rw[h.1,h.2];rfl)
def ZE:ey Try.prog:=⟨48,[.dr,.frame,.int],[.int],some fun x=>EQ x.1 x.2.1 x.2.2.1,fun x=>((pr x.1 x.2.1 x.2.2.1),()),fun x h=>ZD x.1 x.2.1 x.2.2.1 h⟩
def aad (J:cA) (M:Int) (al:Bool):Prop:=
 (J.sw==M)=al
theorem aae (J:cA) (M:Int):b2 Try.prog 166 [.agg (dp J),.dA [ah M] 0] (an (uT J M)):=(fun(h:aad J M (uT J M))=>b2.run (ps:=[.bp,(.ptr .int)]) (rs:=[.bool]) (x:=(J,M,())) (r:=((uT J M),())) ⟨8,eh,[]⟩ ⟨[],[],[],[],[]⟩ .nil Try.func166 h) (by
 exact rfl)
def aaf:ey Try.prog:=⟨166,[.bp,(.ptr .int)],[.bool],none,fun x=>((uT x.1 x.2.1),()),fun x h=>aae x.1 x.2.1⟩
def QH (J:(List cA)) (M:Int) (al:Int) (ay:Int→Prop) (aB:Int→Nat):Prop:=
 J.length≤4611686018427387904→ay 0∧ ∀(c2:Int),ay c2→(((decide (c2<(J.length:Int)))=false→(-1)=al)∧((decide (c2<(J.length:Int)))=true→((0≤c2∧c2.toNat<J.length)∧((uT (nth J c2) M)=true→c2=al))∧((!(uT (nth J c2) M))=true→ay (IntKind.i64.wrap (c2+1))∧aB (IntKind.i64.wrap (c2+1))<aB c2)))
theorem adV (J:(List cA)) (M:Int):b2 Try.prog 170 [bK dp J,.fn 166 [.dA [ah M] 0]] (ah (r7 J M)):=(fun(ay:Int→Prop) (aB:Int→Nat) (h:QH J M (r7 J M) ay aB)=>b2.run (ps:=[(.l .bp),(.iq 166 (.ptr .int))]) (rs:=[.int]) (x:=(J,M,())) (r:=((r7 J M),())) ⟨19,eh,[aaf]⟩ ⟨[],[],[],[],[]⟩ (eP [0,1,7] [] 8 ay aB fun _=> .nil) Try.func170 h) (cl J.length (fun j=>uT (nth J j) M)) (cy J.length) (by
 unfold QH
 intro aF
 refine⟨c6 (dd _),fun v aX=>⟨fun hv=> ?_,fun hv=>⟨⟨b8 aX hv,fun aI=> ?_⟩,fun aI=>cG (cq aF) aX hv (not_eq aI)⟩⟩⟩
 ·unfold r7;rw[qi (q:=fun x:cA=>x.sw==M) aX hv];rfl
 ·unfold r7;rw[qh (q:=fun x:cA=>x.sw==M) aX hv aI]
  have:=aX.1
  show v=(v.toNat:Int)
  omega)
def adW:ey Try.prog:=⟨170,[(.l .bp),(.iq 166 (.ptr .int))],[.int],none,fun x=>((r7 x.1 x.2.1),()),fun x h=>adV x.1 x.2.1⟩
def adG (J:(List cA)) (M:Int) (al:Bool):Prop:=
 (decide ((r7 J M) ≥ 0))=al
theorem adH (J:(List cA)) (M:Int):b2 Try.prog 165 [bK dp J,.fn 166 [.dA [ah M] 0]] (an (kO J M)):=(fun(h:adG J M (kO J M))=>b2.run (ps:=[(.l .bp),(.iq 166 (.ptr .int))]) (rs:=[.bool]) (x:=(J,M,())) (r:=((kO J M),())) ⟨9,eh,[adW]⟩ ⟨[],[],[],[],[]⟩ .nil Try.func165 h) (by
 exact Zq J M)
def adI:ey Try.prog:=⟨165,[(.l .bp),(.iq 166 (.ptr .int))],[.bool],none,fun x=>((kO x.1 x.2.1),()),fun x h=>adH x.1 x.2.1⟩
def aag (J:(List cA)) (M:Int) (al:Bool):Prop:=
 (kO J M)=al
theorem aah (J:(List cA)) (M:Int):b2 Try.prog 153 [bK dp J,ah M] (an (kO J M)):=(fun(h:aag J M (kO J M))=>b2.run (ps:=[(.l .bp),.int]) (rs:=[.bool]) (x:=(J,M,())) (r:=((kO J M),())) ⟨8,eh,[adI]⟩ ⟨[],[],[],[],[]⟩ .nil Try.func153 h) (by
 exact rfl)
def aai:ey Try.prog:=⟨153,[(.l .bp),.int],[.bool],none,fun x=>((kO x.1 x.2.1),()),fun x h=>aah x.1 x.2.1⟩
def aas:List Item:=[ap 0,ap 1,ap 2,ap 3,ap 4,ap 5,ap 6,ap 7,ap 8,ap 9,ap 10,ap 11,ap 12,ap 13,ap 14,ap 15,ap 16,ap 17,ap 18,ap 19,ap 20]
def aat:List (List Nat):=[[],[0],[],[0,1,2],rg 0 4,rg 0 5,rg 0 6,rg 0 5,rg 0 8,rg 0 9,rg 0 10,rg 0 10,rg 0 10,rg 0 10,rg 0 10++[13],rg 0 10,rg 0 10++[13,14,15],rg 0 10++rg 13 17,rg 0 18,rg 0 19,rg 0 20]
abbrev j9 (r:Type):Type:=Nat→(List Int)→Int→r
def Nl (ay:j9 Prop) (aB:j9 Nat) (J:az) (M:Frame) (U:Int) (bw:Nat) (a3:(List Int)) (cc:Int):Prop:=
  (((kO (nth J.O cc).bB U) || ((kO (nth J.O cc).a2 U)&&(fz J M cc (nth J.be U))))=true→((a3.length+[cc].length)*8≤140737488355328∧a3.length+[cc].length≤4611686018427387904)∧(ay (bw+1) (a3++[cc]) (IntKind.i64.wrap (cc+1))∧aB (bw+1) (a3++[cc]) (IntKind.i64.wrap (cc+1))<aB bw a3 cc))∧(((kO (nth J.O cc).bB U) || ((kO (nth J.O cc).a2 U)&&(fz J M cc (nth J.be U))))=false→ay bw a3 (IntKind.i64.wrap (cc+1))∧aB bw a3 (IntKind.i64.wrap (cc+1))<aB bw a3 cc)
def Nm (ay:j9 Prop) (aB:j9 Nat) (J:az) (M:Frame) (U:Int) (bw:Nat) (a3:(List Int)) (cc:Int):Prop:=
  ((0≤cc∧cc.toNat<M.O.length)∧(((nth M.O cc).ao==0)=true→ay bw a3 (IntKind.i64.wrap (cc+1))∧aB bw a3 (IntKind.i64.wrap (cc+1))<aB bw a3 cc))∧((!((nth M.O cc).ao==0))=true→((kO (nth J.O cc).bB U)=false→(kO (nth J.O cc).a2 U)=true→(0≤U∧U.toNat<J.be.length)∧(uA J M cc (nth J.be U)))∧(Nl ay aB J M U bw a3 cc))
def Nk (J:az) (M:Frame) (U:Int) (al:(List Int)) (ay:j9 Prop) (aB:j9 Nat):Prop:=
 J.O.length≤4611686018427387904→ay 0 ([]:List Int) 0∧ ∀(bw:Nat) (a3:(List Int)) (cc:Int),ay bw a3 cc→(((decide (cc<(J.O.length:Int)))=false→a3.length≤4611686018427387904∧a3=al)∧((decide (cc<(J.O.length:Int)))=true→(0≤cc∧cc.toNat<J.O.length)∧(Nm ay aB J M U bw a3 cc)))
theorem Nn (J:az) (M:Frame) (U:Int) (aI:tk J M U):b2 Try.prog 113 [.agg (bg false J),.agg (b1 false M),ah U] (hA c_ (gE J M U)):=(fun(ay:j9 Prop) (aB:j9 Nat) (h:Nk J M U (gE J M U) ay aB)=>b2.run (ps:=[.dr,.frame,.int]) (rs:=[(.l .int)]) (x:=(J,M,U,())) (r:=((gE J M U),())) ⟨52,eh,[aai,Nd]⟩ ⟨[],[(6,aas,aat)],[],[],[]⟩ (.lp [(0,7,.int)] [2,3,4,11,12] [(4,4),(3,5)] [.nat,(.l .int),.int] [bC 0,bC 0,13] (fun aN=>[(7,.ref 0 aN.1 aN.2.1.length false),(13,.i .i64 aN.2.2.1),(bC 0,.blk aN.1 .int aN.2.1 _ rfl)]) (fun aN=>ay aN.1 aN.2.1 aN.2.2.1) (fun aN=>aB aN.1 aN.2.1 aN.2.2.1) fun _=> .nil) Try.func113 h) (fun _ x v=>cl J.O.length (fun _=>false) v∧x=ej (fun i=>mX J M i U) v) (fun _ _ v=>cy J.O.length v) (by
 unfold Nk
 obtain⟨hf,aU,h1⟩:=aI
 have hw:=hf.fr.O
 have y3:=hf.in.O
 have s3:=hf.in.be
 intro aF
 refine⟨⟨c6 (dd _),rfl⟩,fun g x v aX=> ?_⟩
 obtain⟨aX,rfl⟩:=aX
 have h3:=aX.1
 have hlen:=sR (fun i=>mX J M i U) v
 have wW:=aX.2.1
 refine⟨fun hv=>⟨by omega,?_⟩,fun hv=>⟨b8 aX hv,?_⟩⟩
 ·have: ¬v<(J.O.length:Int):=by simpa using hv
  rw[show v=(J.O.length:Int) by omega];rfl
 have b9:=b8 aX hv
 have bi:=cG (cq aF) aX hv rfl
 have qR:IntKind.i64.wrap (v+1)=v+1:=iE (cq aF) h3 (by simpa using hv)
 have rC:mX J M v U=true→(cl J.O.length (fun _=>false) (IntKind.i64.wrap (v+1))∧ej (fun i=>mX J M i U) v++[v]=ej (fun i=>mX J M i U) (IntKind.i64.wrap (v+1))):=fun h=>⟨bi.1,by rw[qR,yy h3,if_pos h]⟩
 have no:mX J M v U=false→(cl J.O.length (fun _=>false) (IntKind.i64.wrap (v+1))∧ej (fun i=>mX J M i U) v=ej (fun i=>mX J M i U) (IntKind.i64.wrap (v+1))):=fun h=>⟨bi.1,by rw[qR,yy h3,if_neg (by rw[h];simp)]⟩
 unfold Nm Nl
 refine⟨⟨⟨h3,by omega⟩,fun aO=>⟨no ?_,bi.2⟩⟩,fun aO=>⟨fun _ _=>⟨⟨aU,by omega⟩,hf,h3,by omega⟩,⟨fun aj=>⟨⟨?_,?_⟩,rC ?_,bi.2⟩,fun aj=>⟨no ?_,bi.2⟩⟩⟩⟩
 ·unfold mX
  rw[show((nth M.O v).ao !=0)=false by simpa using aO];rfl
 ·simp only[List.length_singleton];omega
 ·simp only[List.length_singleton];omega
 ·unfold mX
  rw[show((nth M.O v).ao !=0)=true by simpa using aO];exact aj
 ·unfold mX
  rw[show((nth M.O v).ao !=0)=true by simpa using aO];exact aj)
def aar:ey Try.prog:=⟨113,[.dr,.frame,.int],[(.l .int)],some fun x=>tk x.1 x.2.1 x.2.2.1,fun x=>((gE x.1 x.2.1 x.2.2.1),()),fun x h=>Nn x.1 x.2.1 x.2.2.1 h⟩
def afm:List Item:=[ap 0,ap 1,ap 2,ap 3,ap 4,ap 5,ap 6,ap 7,ap 8,ap 9,ap 10,ap 11,ap 12,ap 13,ap 14]
def afn:List (List Nat):=[[],[0],[],[0,1,2],rg 0 4,rg 0 5,rg 0 5,rg 0 5,rg 0 5,rg 0 5++[8],rg 0 5,rg 0 5++[8,9,10],rg 0 5++rg 8 12,rg 0 13,rg 0 14]
def RV (aQ:Int→Int→Prop) (aR:Int→Int→Nat) (J:az) (M:Frame) (U c9 al dv ew:Int):Prop:=
  ((0≤ew∧ew.toNat<(nth J.O U).a2.length)∧((((nth (nth J.O U).a2 ew).sw==c9)=true→(0≤c9∧c9.toNat<J.be.length)∧(uA J M U (nth J.be c9)))∧((((nth (nth J.O U).a2 ew).sw==c9)&&(fz J M U (nth J.be c9)))=true→(nth (nth J.O U).a2 ew).bp=al)))∧((!(((nth (nth J.O U).a2 ew).sw==c9)&&(fz J M U (nth J.be c9))))=true→aQ dv (IntKind.i64.wrap (ew+1))∧aR dv (IntKind.i64.wrap (ew+1))<aR dv ew)
def RW (ay:Int→Prop) (aB:Int→Nat) (aQ:Int→Int→Prop) (aR:Int→Int→Nat) (J:az) (M:Frame) (U c9 al dv:Int):Prop:=
  ((decide (dv<((nth J.O U).bB.length:Int)))=false→(0≤U∧U.toNat<J.O.length)∧((nth J.O U).a2.length≤4611686018427387904→aQ dv 0∧ ∀(ew:Int),aQ dv ew→(((decide (ew<((nth J.O U).a2.length:Int)))=false→0=al)∧((decide (ew<((nth J.O U).a2.length:Int)))=true→RV aQ aR J M U c9 al dv ew))))∧((decide (dv<((nth J.O U).bB.length:Int)))=true→((0≤dv∧dv.toNat<(nth J.O U).bB.length)∧(((nth (nth J.O U).bB dv).sw==c9)=true→(nth (nth J.O U).bB dv).bp=al))∧((!((nth (nth J.O U).bB dv).sw==c9))=true→ay (IntKind.i64.wrap (dv+1))∧aB (IntKind.i64.wrap (dv+1))<aB dv))
def RU (J:az) (M:Frame) (U:Int) (c9:Int) (al:Int) (ay:Int→Prop) (aB:Int→Nat) (aQ:Int→Int→Prop) (aR:Int→Int→Nat):Prop:=
 ((0≤U∧U.toNat<M.O.length)∧(((nth M.O U).ao==0)=true→0=al))∧((!((nth M.O U).ao==0))=true→(0≤U∧U.toNat<J.O.length)∧((nth J.O U).bB.length≤4611686018427387904→ay 0∧ ∀(dv:Int),ay dv→(RW ay aB aQ aR J M U c9 al dv)))
theorem afk (J:az) (M:Frame) (U:Int) (c9:Int) (aI:JC J M U c9):b2 Try.prog 155 [.agg (bg false J),.agg (b1 false M),ah U,ah c9] (ah (po J M U c9)):=(fun(ay:Int→Prop) (aB:Int→Nat) (aQ:Int→Int→Prop) (aR:Int→Int→Nat) (h:RU J M U c9 (po J M U c9) ay aB aQ aR)=>b2.run (ps:=[.dr,.frame,.int,.int]) (rs:=[.int]) (x:=(J,M,U,c9,())) (r:=((po J M U c9),())) ⟨67,eh,[afc]⟩ ⟨[],[(12,afm,afn)],[],[],[]⟩ (eP [2,3,4,5,25,26] [(5,4),(4,5)] 27 ay aB fun aN=>(eP [2,3,4,5,43,44] [(5,4),(4,5)] 45 (aQ aN) (aR aN) fun _=> .nil)) Try.func155 h) (cl (nth J.O U).bB.length (fun j=>(nth (nth J.O U).bB j).sw==c9)) (cy (nth J.O U).bB.length) (fun _=>cl (nth J.O U).a2.length (fun j=>(nth (nth J.O U).a2 j).sw==c9&&fz J M U (nth J.be c9))) (fun _=>cy (nth J.O U).a2.length) (by
 unfold RU
 obtain⟨hf,aU,h1,h2,aP⟩:=aI
 have hw:=hf.fr.O
 refine⟨⟨⟨aU,by omega⟩,fun aO=> ?_⟩,fun aO=>⟨⟨aU,by omega⟩,fun aF=>⟨c6 (dd _),fun v aX=> ?_⟩⟩⟩
 ·unfold po;rw[if_pos (by simpa using aO)]
 have aO: ¬(nth M.O U).ao=0:=by simpa using aO
 unfold RW
 refine⟨fun hv=>⟨⟨aU,by omega⟩,fun hm=>⟨c6 (dd _),fun k hK=> ?_⟩⟩,fun hv=>⟨⟨b8 aX hv,fun hb=> ?_⟩,fun hb=>cG (cq aF) aX hv (not_eq hb)⟩⟩
 ·have bA:=qi (q:=fun x:cA=>x.sw==c9) aX hv
  unfold RV
  refine⟨fun hk=> ?_,fun hk=>⟨⟨b8 hK hk,fun _=>⟨⟨h2,by omega⟩,hf,aU,h1⟩,fun hb=> ?_⟩,fun hb=>cG (cq hm) hK hk (not_eq hb)⟩⟩
  ·unfold po
   rw[if_neg aO,bA]
   simp only
   rw[qi (q:=fun x:cA=>x.sw==c9&&fz J M U (nth J.be c9)) hK hk]
  ·unfold po
   rw[if_neg aO,bA]
   simp only
   rw[qh (q:=fun x:cA=>x.sw==c9&&fz J M U (nth J.be c9)) hK hk hb]
   simp only[ig hK.1]
 ·unfold po
  rw[if_neg aO,qh (q:=fun x:cA=>x.sw==c9) aX hv hb]
  simp only[ig aX.1])
def afl:ey Try.prog:=⟨155,[.dr,.frame,.int,.int],[.int],some fun x=>JC x.1 x.2.1 x.2.2.1 x.2.2.2.1,fun x=>((po x.1 x.2.1 x.2.2.1 x.2.2.2.1),()),fun x h=>afk x.1 x.2.1 x.2.2.1 x.2.2.2.1 h⟩
def RE (ay:j9 Prop) (aB:j9 Nat) (J:az) (M:Frame) (U:Int) (bw:Nat) (a3:(List Int)) (ae:Int):Prop:=
  ((decide ((po J M ae U)>0))=true→((a3.length+[ae].length)*8≤140737488355328∧a3.length+[ae].length≤4611686018427387904)∧(ay (bw+1) (a3++[ae]) (IntKind.i64.wrap (ae+1))∧aB (bw+1) (a3++[ae]) (IntKind.i64.wrap (ae+1))<aB bw a3 ae))∧((decide ((po J M ae U)>0))=false→ay bw a3 (IntKind.i64.wrap (ae+1))∧aB bw a3 (IntKind.i64.wrap (ae+1))<aB bw a3 ae)
def RD (J:az) (M:Frame) (U:Int) (al:(List Int)) (ay:j9 Prop) (aB:j9 Nat):Prop:=
 J.O.length≤4611686018427387904→ay 0 ([]:List Int) 0∧ ∀(bw:Nat) (a3:(List Int)) (ae:Int),ay bw a3 ae→(((decide (ae<(J.O.length:Int)))=false→a3.length≤4611686018427387904∧a3=al)∧((decide (ae<(J.O.length:Int)))=true→(JC J M ae U)∧(RE ay aB J M U bw a3 ae)))
theorem RF (J:az) (M:Frame) (U:Int) (aI:tk J M U):b2 Try.prog 117 [.agg (bg false J),.agg (b1 false M),ah U] (hA c_ (gE J M U)):=(fun(ay:j9 Prop) (aB:j9 Nat) (h:RD J M U (gE J M U) ay aB)=>b2.run (ps:=[.dr,.frame,.int]) (rs:=[(.l .int)]) (x:=(J,M,U,())) (r:=((gE J M U),())) ⟨27,eh,[afl]⟩ ⟨[],[],[],[],[]⟩ (.lp [(0,7,.int)] [2,3,4,11] [(4,4),(3,5)] [.nat,(.l .int),.int] [bC 0,bC 0,12] (fun aN=>[(7,.ref 0 aN.1 aN.2.1.length false),(12,.i .i64 aN.2.2.1),(bC 0,.blk aN.1 .int aN.2.1 _ rfl)]) (fun aN=>ay aN.1 aN.2.1 aN.2.2.1) (fun aN=>aB aN.1 aN.2.1 aN.2.2.1) fun _=> .nil) Try.func117 h) (fun _ x v=>cl J.O.length (fun _=>false) v∧x=ej (fun i=>mX J M i U) v) (fun _ _ v=>cy J.O.length v) (by
 unfold RD
 obtain⟨hf,aU,h1⟩:=aI
 have y3:=hf.in.O
 intro aF
 refine⟨⟨c6 (dd _),rfl⟩,fun g x v aX=> ?_⟩
 obtain⟨aX,rfl⟩:=aX
 have h3:=aX.1
 have hlen:=sR (fun i=>mX J M i U) v
 have wW:=aX.2.1
 refine⟨fun hv=>⟨by omega,?_⟩,fun hv=>⟨⟨hf,h3,by have:=b8 aX hv;omega,aU,h1⟩,?_⟩⟩
 ·have: ¬v<(J.O.length:Int):=by simpa using hv
  rw[show v=(J.O.length:Int) by omega];rfl
 have bi:=cG (cq aF) aX hv rfl
 have qR:IntKind.i64.wrap (v+1)=v+1:=iE (cq aF) h3 (by simpa using hv)
 unfold RE
 rw[agx hf.l7 (b8 aX hv).2]
 refine⟨fun aj=>⟨⟨?_,?_⟩,⟨bi.1,by rw[qR,yy h3,if_pos aj]⟩,bi.2⟩,fun aj=>⟨⟨bi.1,by rw[qR,yy h3,if_neg (by rw[aj];simp)]⟩,bi.2⟩⟩
 ·simp only[List.length_singleton];omega
 ·simp only[List.length_singleton];omega)
def afd:ey Try.prog:=⟨117,[.dr,.frame,.int],[(.l .int)],some fun x=>tk x.1 x.2.1 x.2.2.1,fun x=>((gE x.1 x.2.1 x.2.2.1),()),fun x h=>RF x.1 x.2.1 x.2.2.1 h⟩
def ZM:List Item:=[ap 0,ap 1,ap 2,ap 3,ap 4,ap 5,ap 6,ap 7,ap 8,ap 9,ap 10,ap 11,ap 12,ap 13,ap 14]
def ZN:List (List Nat):=[[],[0],[],[0,1,2],rg 0 4,rg 0 5,rg 0 6,rg 0 5,rg 0 8,rg 0 9,rg 0 10,rg 0 5,rg 0 5++[11],rg 0 13,rg 0 14]
def ZO:List Item:=[ap 0,ap 1,ap 2,ap 3,ap 4,ap 5,ap 6,ap 7,ap 8,ap 9]
def ZP:List (List Nat):=[[],[0],[],[2],[],[2,3,4],rg 2 6,rg 0 7,rg 0 8,rg 0 9]
abbrev mN (r:Type):Type:=Nat→(List Int)→Int→Nat→(List Int)→Int→Nat→(List Int)→Int→Bool→Bool→Nat→(List Int)→Int→Bool→Bool→r
def MV (bU:mN Prop) (bV:mN Nat) (J:az) (M:Frame) (bw:Nat) (a3:(List Int)) (dD:Int) (aT:Nat) (aH:(List Int)) (cB:Int) (a1:Nat) (bt:(List Int)) (jj:Int) (fm c2:Bool) (eQ:Int) (k2:Nat) (eU:(List Int)) (lS lT:Bool):Prop:=
  (((decide (((gE J M eQ).length:Int)>0)) || (nth M.av (nth J.be eQ)))=true→((eU.length+[eQ].length)*8≤140737488355328∧eU.length+[eQ].length≤4611686018427387904)∧(bU bw a3 dD aT aH cB a1 bt eQ fm c2 (k2+1) (eU++[eQ]) (IntKind.i64.wrap (jj+1)) (lS || (decide (((gE J M eQ).length:Int)>0))) (lT || (nth M.av (nth J.be eQ)))∧bV bw a3 dD aT aH cB a1 bt eQ fm c2 (k2+1) (eU++[eQ]) (IntKind.i64.wrap (jj+1)) (lS || (decide (((gE J M eQ).length:Int)>0))) (lT || (nth M.av (nth J.be eQ)))<bV bw a3 dD aT aH cB a1 bt eQ fm c2 k2 eU jj lS lT))∧(((decide (((gE J M eQ).length:Int)>0)) || (nth M.av (nth J.be eQ)))=false→bU bw a3 dD aT aH cB a1 bt eQ fm c2 k2 eU (IntKind.i64.wrap (jj+1)) (lS || (decide (((gE J M eQ).length:Int)>0))) (lT || (nth M.av (nth J.be eQ)))∧bV bw a3 dD aT aH cB a1 bt eQ fm c2 k2 eU (IntKind.i64.wrap (jj+1)) (lS || (decide (((gE J M eQ).length:Int)>0))) (lT || (nth M.av (nth J.be eQ)))<bV bw a3 dD aT aH cB a1 bt eQ fm c2 k2 eU jj lS lT)
def MW (bU:mN Prop) (bV:mN Nat) (J:az) (M:Frame) (U:Int) (bw:Nat) (a3:(List Int)) (dD:Int) (aT:Nat) (aH:(List Int)) (cB:Int) (a1:Nat) (bt:(List Int)) (jj:Int) (fm c2:Bool) (eQ:Int) (k2:Nat) (eU:(List Int)) (lS lT:Bool):Prop:=
  ((((nth (bz (nth J.O U)) jj).sw !=eQ)=false→0≤eQ∧eQ.toNat<M.au.length)∧((((nth (bz (nth J.O U)) jj).sw !=eQ) || ((nth M.au eQ).cH==(nth (bz (nth J.O U)) jj).bp))=true→bU bw a3 dD aT aH cB a1 bt eQ fm c2 k2 eU (IntKind.i64.wrap (jj+1)) lS lT∧bV bw a3 dD aT aH cB a1 bt eQ fm c2 k2 eU (IntKind.i64.wrap (jj+1)) lS lT<bV bw a3 dD aT aH cB a1 bt eQ fm c2 k2 eU jj lS lT))∧((!(((nth (bz (nth J.O U)) jj).sw !=eQ) || ((nth M.au eQ).cH==(nth (bz (nth J.O U)) jj).bp)))=true→(tk J M eQ)∧((gE J M eQ).length≤4611686018427387904→((0≤eQ∧eQ.toNat<J.be.length)∧(0≤(nth J.be eQ)∧(nth J.be eQ).toNat<M.av.length))∧(MV bU bV J M bw a3 dD aT aH cB a1 bt jj fm c2 eQ k2 eU lS lT)))
abbrev pg (r:Type):Type:=Nat→(List Int)→Int→Nat→(List Int)→Int→Nat→(List Int)→Int→Bool→Bool→r
def MX (bo:pg Prop) (bn:pg Nat) (bU:mN Prop) (bV:mN Nat) (J:az) (M:Frame) (U:Int) (bw:Nat) (a3:(List Int)) (dD:Int) (aT:Nat) (aH:(List Int)) (cB:Int) (a1:Nat) (bt:(List Int)) (jj:Int) (fm c2:Bool) (eQ:Int) (k2:Nat) (eU:(List Int)) (lS lT:Bool):Prop:=
  ((decide (jj<((bz (nth J.O U)).length:Int)))=false→bo bw a3 dD aT aH cB k2 eU (IntKind.i64.wrap (eQ+1)) lS lT∧bn bw a3 dD aT aH cB k2 eU (IntKind.i64.wrap (eQ+1)) lS lT<bn bw a3 dD aT aH cB a1 bt eQ fm c2)∧((decide (jj<((bz (nth J.O U)).length:Int)))=true→(0≤jj∧jj.toNat<(bz (nth J.O U)).length)∧(MW bU bV J M U bw a3 dD aT aH cB a1 bt jj fm c2 eQ k2 eU lS lT))
def MY (bo:pg Prop) (bn:pg Nat) (bU:mN Prop) (bV:mN Nat) (J:az) (M:Frame) (U:Int) (al:nw×Bool×Bool) (bw:Nat) (a3:(List Int)) (dD:Int) (aT:Nat) (aH:(List Int)) (cB:Int) (a1:Nat) (bt:(List Int)) (fm c2:Bool) (eQ:Int):Prop:=
  ((decide (eQ<(J.be.length:Int)))=false→(a3.length≤4611686018427387904∧a3=al.1.O)∧(aH.length≤4611686018427387904∧aH=al.1.af)∧(bt.length≤4611686018427387904∧bt=al.1.au)∧(fm=al.2.1)∧(c2=al.2.2))∧((decide (eQ<(J.be.length:Int)))=true→(xq (nth J.O U))∧((bz (nth J.O U)).length≤4611686018427387904→bU bw a3 dD aT aH cB a1 bt eQ fm c2 a1 bt 0 fm c2∧ ∀(k2:Nat) (eU:(List Int)) (jj:Int) (lS:Bool) (lT:Bool),bU bw a3 dD aT aH cB a1 bt eQ fm c2 k2 eU jj lS lT→(MX bo bn bU bV J M U bw a3 dD aT aH cB a1 bt jj fm c2 eQ k2 eU lS lT)))
abbrev ru (r:Type):Type:=Nat→(List Int)→Int→Nat→(List Int)→Int→r
def MZ (aQ:ru Prop) (aR:ru Nat) (J:az) (M:Frame) (U:Int) (bw:Nat) (a3:(List Int)) (dD:Int) (aT:Nat) (aH:(List Int)) (cB:Int):Prop:=
  (((nth M.av cB)&&((fS (nth J.O U).af cB) || (fS (nth J.O U).cQ cB)))=true→((aH.length+[cB].length)*8≤140737488355328∧aH.length+[cB].length≤4611686018427387904)∧(aQ bw a3 dD (aT+1) (aH++[cB]) (IntKind.i64.wrap (cB+1))∧aR bw a3 dD (aT+1) (aH++[cB]) (IntKind.i64.wrap (cB+1))<aR bw a3 dD aT aH cB))∧(((nth M.av cB)&&((fS (nth J.O U).af cB) || (fS (nth J.O U).cQ cB)))=false→aQ bw a3 dD aT aH (IntKind.i64.wrap (cB+1))∧aR bw a3 dD aT aH (IntKind.i64.wrap (cB+1))<aR bw a3 dD aT aH cB)
def M0 (aQ:ru Prop) (aR:ru Nat) (bo:pg Prop) (bn:pg Nat) (bU:mN Prop) (bV:mN Nat) (J:az) (M:Frame) (U:Int) (al:nw×Bool×Bool) (bw:Nat) (a3:(List Int)) (dD:Int) (aT:Nat) (aH:(List Int)) (cB:Int):Prop:=
  ((decide (cB<J.af))=false→J.be.length≤4611686018427387904→bo bw a3 dD aT aH cB 0 ([]:List Int) 0 false false∧ ∀(a1:Nat) (bt:(List Int)) (eQ:Int) (fm:Bool) (c2:Bool),bo bw a3 dD aT aH cB a1 bt eQ fm c2→(MY bo bn bU bV J M U al bw a3 dD aT aH cB a1 bt fm c2 eQ))∧((decide (cB<J.af))=true→(0≤cB∧cB.toNat<M.av.length)∧(MZ aQ aR J M U bw a3 dD aT aH cB))
def M1 (ay:j9 Prop) (aB:j9 Nat) (J:az) (M:Frame) (U:Int) (bw:Nat) (a3:(List Int)) (dD:Int):Prop:=
  (((dD !=U)&&(((nth M.O dD).ao !=0)&&((nth (nth J.bW U) dD) || ((meets (nth J.O U).af (nth J.O dD).cQ) || (meets (nth J.O U).cQ (nth J.O dD).af)))))=true→((a3.length+[dD].length)*8≤140737488355328∧a3.length+[dD].length≤4611686018427387904)∧(ay (bw+1) (a3++[dD]) (IntKind.i64.wrap (dD+1))∧aB (bw+1) (a3++[dD]) (IntKind.i64.wrap (dD+1))<aB bw a3 dD))∧(((dD !=U)&&(((nth M.O dD).ao !=0)&&((nth (nth J.bW U) dD) || ((meets (nth J.O U).af (nth J.O dD).cQ) || (meets (nth J.O U).cQ (nth J.O dD).af)))))=false→ay bw a3 (IntKind.i64.wrap (dD+1))∧aB bw a3 (IntKind.i64.wrap (dD+1))<aB bw a3 dD)
def M2 (ay:j9 Prop) (aB:j9 Nat) (aQ:ru Prop) (aR:ru Nat) (bo:pg Prop) (bn:pg Nat) (bU:mN Prop) (bV:mN Nat) (J:az) (M:Frame) (U:Int) (al:nw×Bool×Bool) (bw:Nat) (a3:(List Int)) (dD:Int):Prop:=
  ((decide (dD<(J.O.length:Int)))=false→aQ bw a3 dD 0 ([]:List Int) 0∧ ∀(aT:Nat) (aH:(List Int)) (cB:Int),aQ bw a3 dD aT aH cB→(M0 aQ aR bo bn bU bV J M U al bw a3 dD aT aH cB))∧((decide (dD<(J.O.length:Int)))=true→(0≤dD∧dD.toNat<J.O.length)∧(((dD !=U)=true→(0≤dD∧dD.toNat<M.O.length)∧(((nth M.O dD).ao !=0)=true→(0≤U∧U.toNat<J.bW.length)∧(0≤dD∧dD.toNat<(nth J.bW U).length)))∧(M1 ay aB J M U bw a3 dD)))
def MU (J:az) (M:Frame) (U:Int) (al:nw×Bool×Bool) (ay:j9 Prop) (aB:j9 Nat) (aQ:ru Prop) (aR:ru Nat) (bo:pg Prop) (bn:pg Nat) (bU:mN Prop) (bV:mN Nat):Prop:=
 (0≤U∧U.toNat<J.O.length)∧(J.O.length≤4611686018427387904→ay 0 ([]:List Int) 0∧ ∀(bw:Nat) (a3:(List Int)) (dD:Int),ay bw a3 dD→(M2 ay aB aQ aR bo bn bU bV J M U al bw a3 dD))
theorem ZK (J:az) (M:Frame) (U:Int) (aI:rB J M U):b2 Try.prog 115 [.agg (bg false J),.agg (b1 false M),ah U] (.tup [.agg (Ej true ((iH J M U).1)),an ((iH J M U).2.1),an ((iH J M U).2.2)]):=(fun(ay:j9 Prop) (aB:j9 Nat) (aQ:ru Prop) (aR:ru Nat) (bo:pg Prop) (bn:pg Nat) (bU:mN Prop) (bV:mN Nat) (h:MU J M U (iH J M U) ay aB aQ aR bo bn bU bV)=>b2.run (ps:=[.dr,.frame,.int]) (rs:=[.stays,.bool,.bool]) (x:=(J,M,U,())) (r:=((iH J M U).1,(iH J M U).2.1,(iH J M U).2.2,())) ⟨169,eh,[Gv,aar,C1,Gt]⟩ ⟨[],[(20,ZM,ZN),(22,ZO,ZP)],[],[],[]⟩ (.lp [(7,0,.int)] [2,3,4,6,7,8,9,24,25] [(9,5),(6,3),(4,4),(3,5)] [.nat,(.l .int),.int] [bC 0,bC 0,26] (fun aN=>[(26,.i .i64 aN.2.2.1),(eG 6 0,.ref 0 aN.1 aN.2.1.length false),(bC 0,.blk aN.1 .int aN.2.1 _ rfl)]) (fun aN=>ay aN.1 aN.2.1 aN.2.2.1) (fun aN=>aB aN.1 aN.2.1 aN.2.2.1) fun aN=>(.lp [(7,1,.int)] [3,4,6,7,8,9,75] [(9,5),(6,3),(4,4),(3,5)] [.nat,(.l .int),.int] [bC 1,bC 1,76] (fun bx=>[(76,.i .i64 bx.2.2.1),(eG 6 1,.ref 1 bx.1 bx.2.1.length false),(bC 1,.blk bx.1 .int bx.2.1 _ rfl)]) (fun bx=>aQ aN.1 aN.2.1 aN.2.2.1 bx.1 bx.2.1 bx.2.2.1) (fun bx=>aR aN.1 aN.2.1 aN.2.2.1 bx.1 bx.2.1 bx.2.2.1) fun bx=>(.lp [(7,2,.int)] [3,4,6,9,105] [(9,5),(6,3),(4,4),(3,5)] [.nat,(.l .int),.int,.bool,.bool] [bC 2,bC 2,106,7,8] (fun ch=>[(7,.b (.v ch.2.2.2.1)),(8,.b (.v ch.2.2.2.2.1)),(106,.i .i64 ch.2.2.1),(eG 6 2,.ref 2 ch.1 ch.2.1.length false),(bC 2,.blk ch.1 .int ch.2.1 _ rfl)]) (fun ch=>bo aN.1 aN.2.1 aN.2.2.1 bx.1 bx.2.1 bx.2.2.1 ch.1 ch.2.1 ch.2.2.1 ch.2.2.2.1 ch.2.2.2.2.1) (fun ch=>bn aN.1 aN.2.1 aN.2.2.1 bx.1 bx.2.1 bx.2.2.1 ch.1 ch.2.1 ch.2.2.1 ch.2.2.2.1 ch.2.2.2.2.1) fun ch=>(.lp [] [3,4,6,9,13,105,106,110,111] [(9,5),(6,3),(4,4),(3,5)] [.nat,(.l .int),.int,.bool,.bool] [bC 2,bC 2,112,7,8] (fun eB=>[(7,.b (.v eB.2.2.2.1)),(8,.b (.v eB.2.2.2.2.1)),(112,.i .i64 eB.2.2.1),(eG 6 2,.ref 2 eB.1 eB.2.1.length false),(bC 2,.blk eB.1 .int eB.2.1 _ rfl)]) (fun eB=>bU aN.1 aN.2.1 aN.2.2.1 bx.1 bx.2.1 bx.2.2.1 ch.1 ch.2.1 ch.2.2.1 ch.2.2.2.1 ch.2.2.2.2.1 eB.1 eB.2.1 eB.2.2.1 eB.2.2.2.1 eB.2.2.2.2.1) (fun eB=>bV aN.1 aN.2.1 aN.2.2.1 bx.1 bx.2.1 bx.2.2.1 ch.1 ch.2.1 ch.2.2.1 ch.2.2.2.1 ch.2.2.2.2.1 eB.1 eB.2.1 eB.2.2.1 eB.2.2.2.1 eB.2.2.2.2.1) fun _=> .nil)))) Try.func115 h) (fun _ x v=>cl J.O.length (fun _=>false) v∧x=ej (k4 J M U) v) (fun _ _ v=>cy J.O.length v) (fun _ a3 _ _ aH v=>a3=ej (k4 J M U) J.O.length∧cl J.af (fun _=>false) v∧aH=ej (nC J M U) v) (fun _ _ _ _ _ v=>cy J.af v) (fun _ a3 _ _ aH _ _ bt v a b=>a3=ej (k4 J M U) J.O.length∧aH=ej (nC J M U) J.af∧cl J.be.length (fun _=>false) v∧bt=ej (k3 J M U) v∧a=wq J M U v∧b=z2 J M U v) (fun _ _ _ _ _ _ _ _ v _ _=>cy J.be.length v) (fun _ _ _ _ _ _ _ x k a b _ lm j io ct=>Ua J M U k x a b lm j io ct) (fun _ _ _ _ _ _ _ _ _ _ _ _ _ j _ _=>cy (bz (nth J.O U)).length j) (by
 unfold MU
 obtain⟨hf,aU,h1⟩:=aI
 have hw:=hf.fr.O
 have k5:=hf.fr.au
 have qP:=hf.fr.av
 have cx:=hf.in
 have y3:=cx.O
 have wS:=cx.sw
 have nE:=cx.c0
 have dW:=vc hf.l7
 have bf:U.toNat<J.O.length:=by omega
 have uz:=dq bf
 have mz:=Hf hf.l7 uz
 refine⟨⟨aU,bf⟩,fun aF=>⟨⟨c6 (dd _),rfl⟩,fun g x v aX=> ?_⟩⟩
 obtain⟨aX,rfl⟩:=aX
 have hlen:=sR (k4 J M U) v
 have wW:=aX.2.1
 unfold M2
 refine⟨fun hv=>⟨⟨wl aX hv,c6 nE.1,rfl⟩,fun aT aH s cZ=> ?_⟩,fun hv=>⟨b8 aX hv,⟨fun _=> ?_,?_⟩⟩⟩
 ·obtain⟨h4,cZ,rfl⟩:=cZ
  have Yq:=sR (nC J M U) s
  have Y0:=cZ.2.1
  unfold M0
  refine⟨fun hs hm=>⟨⟨h4,wl cZ hs,c6 (dd _),rfl,rfl,rfl⟩,fun a1 bt k a b hK=> ?_⟩,fun hs=> ?_⟩
  ·obtain⟨_,ow,hK,rfl,rfl,rfl⟩:=hK
   have BF:=sR (k3 J M U) k
   have qL:=hK.2.1
   unfold MY
   refine⟨fun hk=> ?_,fun hk=>⟨⟨by have:=(cx.a2 _ uz).1;omega,by have:=(cx.a2 _ uz).2.1;omega⟩,fun Md=> ?_⟩⟩
   ·have bA:=wl (q:=k3 J M U) hK hk
    have e:k=J.be.length:=by
     have: ¬k<(J.be.length:Int):=by simpa using hk
     omega
    refine⟨⟨by omega,h4⟩,⟨by omega,ow⟩,⟨by omega,bA⟩,?_,?_⟩
    ·rw[e];rfl
    ·rw[e];rfl
   ·have y1:=b8 hK hk
    have m6:=cG (cq hm) hK hk rfl
    refine⟨⟨c6 (dd _),by simp[nJ],by simp[nJ],by simp[nJ]⟩,fun k2 eU j io ct b3=> ?_⟩
    obtain⟨b3,rfl,rfl,rfl⟩:=b3
    unfold MX
    refine⟨fun aM=> ?_,fun aM=>⟨b8 b3 aM,?_⟩⟩
    ·have ot: ¬j<((bz (nth J.O U)).length:Int):=by simpa using aM
     rw[adh _ _ _ _ (j:=j.toNat) (by omega)]
     have s1:=qC (q:=k3 J M U) (cq hm) hK hk
     have s2:=(qC (q:=fun k=>kR J M U k&&je J M k) (cq hm) hK hk).2.2
     have mi:=(qC (q:=fun k=>kR J M U k&&kr J M k) (cq hm) hK hk).2.2
     refine⟨⟨h4,ow,m6.1,?_,s2.symm,mi.symm⟩,m6.2⟩
     cases aj:k3 J M U k with
     | true=>rw[if_pos (show(kR J M U k&&(je J M k || kr J M k))=true from aj)];exact s1.1 aj
     | false=>rw[if_neg (by rw[show(kR J M U k&&(je J M k || kr J M k))=false from aj];simp)];exact s1.2.1 aj
    ·have BB:=b8 b3 aM
     have ux:=cG (cq Md) b3 aM rfl
     have A1:(IntKind.i64.wrap (j+1)).toNat=j.toNat+1:=by rw[iE (cq Md) b3.1 (by simpa using aM)];omega
     have r5:=adj (f:=M) (k:=k) BB.2
     have Yz:nth (bz (nth J.O U)) j=(bz (nth J.O U))[j.toNat]'BB.2:=gq BB.2
     have FK:=cx.be _ (dq y1.2)
     have Ff: ∀(c:Prop) [Decidable c],(if c then ej (k3 J M U) k++[k] else ej (k3 J M U) k).length≤41:=fun c _=>by
      split
      ·rw[List.length_append,List.length_singleton];omega
      ·omega
     unfold MW
     rw[Yz]
     refine⟨⟨fun _=>⟨hK.1,by omega⟩,fun aj=> ?_⟩,fun aj=>⟨⟨hf,hK.1,by omega⟩,fun ja=>⟨⟨⟨hK.1,y1.2⟩,FK.1,by omega⟩,?_⟩⟩⟩
     ·have:((bz (nth J.O U))[j.toNat].sw==k&& !((nth M.au k).cH==(bz (nth J.O U))[j.toNat].bp))=false:=by
       revert aj
       rw[show((bz (nth J.O U))[j.toNat].sw !=k)= !((bz (nth J.O U))[j.toNat].sw==k) from rfl]
       cases((bz (nth J.O U))[j.toNat].sw==k)<;>cases((nth M.au k).cH==(bz (nth J.O U))[j.toNat].bp)<;>simp
      rw[this,Bool.or_false] at r5
      exact⟨⟨ux.1,by rw[A1,r5],by rw[A1,r5],by rw[A1,r5]⟩,ux.2⟩
     ·have kp:((bz (nth J.O U))[j.toNat].sw==k)=true∧((nth M.au k).cH==(bz (nth J.O U))[j.toNat].bp)=false:=by
       revert aj
       rw[show((bz (nth J.O U))[j.toNat].sw !=k)= !((bz (nth J.O U))[j.toNat].sw==k) from rfl]
       cases((bz (nth J.O U))[j.toNat].sw==k)<;>cases((nth M.au k).cH==(bz (nth J.O U))[j.toNat].bp)<;>simp
      have l9:=adi (f:=M) mz BB.2 kp.1
      rw[l9,kp.1,kp.2] at r5
      rw[l9]
      unfold MV
      have iu:(decide (((gE J M k).length:Int)>0))=je J M k:=rfl
      have m0:nth M.av (nth J.be k)=kr J M k:=rfl
      rw[iu,m0]
      simp only[Bool.false_and,Bool.or_false,if_false,Bool.false_eq_true]
      have E: ∀c:Bool,(nJ J M U k (IntKind.i64.wrap (j+1)).toNat&&c)=c:=fun c=>by rw[A1,r5];rfl
      refine⟨fun hc=>⟨⟨by simp only[List.length_singleton];omega,by simp only[List.length_singleton];omega⟩,⟨ux.1,?_,by rw[E],by rw[E]⟩,ux.2⟩,fun hc=>⟨⟨ux.1,?_,by rw[E],by rw[E]⟩,ux.2⟩⟩
      ·rw[E,if_pos hc]
      ·rw[E,if_neg (by rw[hc];simp)]
  ·have r3:0≤s∧s<J.af:=⟨cZ.1,by simpa using hs⟩
   have bi:=cG (N:=J.af) (by omega) cZ hs rfl
   have s1:=qC (q:=nC J M U) (N:=J.af) (by omega) cZ hs
   refine⟨⟨cZ.1,by omega⟩,?_⟩
   unfold MZ
   exact⟨fun aj=>⟨⟨by simp only[List.length_singleton];omega,by simp only[List.length_singleton];omega⟩,⟨h4,bi.1,s1.1 aj⟩,bi.2⟩,fun aj=>⟨⟨h4,bi.1,s1.2.1 aj⟩,bi.2⟩⟩
 ·have b9:=b8 aX hv
  have hn:=dW.len
  have eX:=dW.row U aU h1
  exact⟨⟨b9.1,by omega⟩,fun _=>⟨⟨aU,by omega⟩,b9.1,by omega⟩⟩
 ·have bi:=cG (cq aF) aX hv rfl
  have s1:=qC (q:=k4 J M U) (cq aF) aX hv
  unfold M1
  exact⟨fun aj=>⟨⟨by simp only[List.length_singleton];omega,by simp only[List.length_singleton];omega⟩,⟨bi.1,s1.1 aj⟩,bi.2⟩,fun aj=>⟨⟨bi.1,s1.2.1 aj⟩,bi.2⟩⟩)
def ZL:ey Try.prog:=⟨115,[.dr,.frame,.int],[.stays,.bool,.bool],some fun x=>rB x.1 x.2.1 x.2.2.1,fun x=>((iH x.1 x.2.1 x.2.2.1).1,(iH x.1 x.2.1 x.2.2.1).2.1,(iH x.1 x.2.1 x.2.2.1).2.2,()),fun x h=>ZK x.1 x.2.1 x.2.2.1 h⟩
def afi:List Item:=[ap 0,ap 1,ap 2,ap 3,ap 4,ap 5,ap 6,ap 7,ap 8,ap 9,ap 10,ap 11,ap 12,ap 13,ap 14,ap 15,ap 16,ap 17,ap 18,ap 19,ap 20,ap 21,ap 22,ap 23,ap 24,ap 25,ap 26,ap 27,ap 28,ap 29,ap 30,ap 31,ap 32,ap 33,ap 34,ap 35,ap 36,ap 37,ap 38,ap 39,ap 40,ap 41,ap 42,ap 43]
def afj:List (List Nat):=[[],[],[0,1],[0,1,2],rg 0 4,rg 0 5,rg 0 4,rg 0 7,rg 0 8,rg 0 9,rg 0 10,rg 0 11,rg 0 12,rg 0 13,rg 0 14,rg 0 13,rg 0 16,rg 0 17,rg 0 13,rg 0 19,rg 0 20,rg 0 21,rg 0 22,rg 0 23,rg 0 22,rg 0 22++[24],rg 0 22,rg 0 22++[24,25,26],rg 0 22++rg 24 28,rg 0 22++rg 24 29,rg 0 30,rg 0 31,rg 0 32,rg 0 33,rg 0 34,rg 0 33,rg 0 33++[35],rg 0 33,rg 0 33++[35,36,37],rg 0 33++rg 35 39,rg 0 33++rg 35 40,rg 0 41,rg 0 42,rg 0 43]
def afg:List Item:=[ap 0,ap 1,ap 2,ap 3,ap 4,ap 5,ap 6,ap 7,ap 8]
def afh:List (List Nat):=[[],[0],[],[2],[],[2,3,4],rg 2 6,rg 0 7,rg 0 8]
abbrev lP (r:Type):Type:=Nat→(List Int)→Int→Int→Nat→(List Int)→Int→Int→Nat→(List Int)→Int→Int→r
def RH (bo:lP Prop) (bn:lP Nat) (bw:Nat) (a3:(List Int)) (bd ca:Int) (aT:Nat) (aH:(List Int)) (ae eu:Int) (a1:Nat) (bt:(List Int)) (dH cc:Int):Prop:=
  ((cc==0)=true→bo bw a3 bd ca aT aH ae eu (a1+1) (bt++[dH]) (IntKind.i64.wrap (dH+1)) 6∧bn bw a3 bd ca aT aH ae eu (a1+1) (bt++[dH]) (IntKind.i64.wrap (dH+1)) 6<bn bw a3 bd ca aT aH ae eu a1 bt dH cc)∧((cc==0)=false→bo bw a3 bd ca aT aH ae eu (a1+1) (bt++[dH]) (IntKind.i64.wrap (dH+1)) cc∧bn bw a3 bd ca aT aH ae eu (a1+1) (bt++[dH]) (IntKind.i64.wrap (dH+1)) cc<bn bw a3 bd ca aT aH ae eu a1 bt dH cc)
def RM (bo:lP Prop) (bn:lP Nat) (J:az) (M:Frame) (bw:Nat) (a3:(List Int)) (bd ca:Int) (aT:Nat) (aH:(List Int)) (ae eu:Int) (a1:Nat) (bt:(List Int)) (dH cc:Int):Prop:=
  ((nth M.av (nth J.be dH))=true→((bt.length+[dH].length)*8≤140737488355328∧bt.length+[dH].length≤4611686018427387904)∧(RH bo bn bw a3 bd ca aT aH ae eu a1 bt dH cc))∧((nth M.av (nth J.be dH))=false→bo bw a3 bd ca aT aH ae eu a1 bt (IntKind.i64.wrap (dH+1)) cc∧bn bw a3 bd ca aT aH ae eu a1 bt (IntKind.i64.wrap (dH+1)) cc<bn bw a3 bd ca aT aH ae eu a1 bt dH cc)
def RN (bo:lP Prop) (bn:lP Nat) (J:az) (M:Frame) (bw:Nat) (a3:(List Int)) (bd ca:Int) (aT:Nat) (aH:(List Int)) (ae eu:Int) (a1:Nat) (bt:(List Int)) (dH cc:Int):Prop:=
  ((decide (((gE J M dH).length:Int)>0))=true→((bt.length+[dH].length)*8≤140737488355328∧bt.length+[dH].length≤4611686018427387904)∧(bo bw a3 bd ca aT aH ae eu (a1+1) (bt++[dH]) (IntKind.i64.wrap (dH+1)) 5∧bn bw a3 bd ca aT aH ae eu (a1+1) (bt++[dH]) (IntKind.i64.wrap (dH+1)) 5<bn bw a3 bd ca aT aH ae eu a1 bt dH cc))∧((decide (((gE J M dH).length:Int)>0))=false→((0≤dH∧dH.toNat<J.be.length)∧(0≤(nth J.be dH)∧(nth J.be dH).toNat<M.av.length))∧(RM bo bn J M bw a3 bd ca aT aH ae eu a1 bt dH cc))
abbrev lQ (r:Type):Type:=Nat→(List Int)→Int→Int→Nat→(List Int)→Int→Int→Nat→(List Int)→Int→Int→Int→Int→Int→Int→r
def RO (cJ:lQ Prop) (cL:lQ Nat) (J:az) (U:Int) (bw:Nat) (a3:(List Int)) (bd ca:Int) (aT:Nat) (aH:(List Int)) (ae eu mU c8 ib rA:Int) (a1:Nat) (bt:(List Int)) (dH cc:Int):Prop:=
  cJ bw a3 bd ca aT aH ae eu a1 bt dH cc ib c8 (IntKind.i64.wrap (mU+1)) (bif ((nth (nth [(nth J.O U).a2,(nth J.O U).bB] ib) mU).sw==dH) then(nth (nth [(nth J.O U).a2,(nth J.O U).bB] ib) mU).bp else rA)∧cL bw a3 bd ca aT aH ae eu a1 bt dH cc ib c8 (IntKind.i64.wrap (mU+1)) (bif ((nth (nth [(nth J.O U).a2,(nth J.O U).bB] ib) mU).sw==dH) then(nth (nth [(nth J.O U).a2,(nth J.O U).bB] ib) mU).bp else rA)<cL bw a3 bd ca aT aH ae eu a1 bt dH cc ib c8 mU rA
abbrev mO (r:Type):Type:=Nat→(List Int)→Int→Int→Nat→(List Int)→Int→Int→Nat→(List Int)→Int→Int→Int→Int→r
def RP (bU:mO Prop) (bV:mO Nat) (cJ:lQ Prop) (cL:lQ Nat) (J:az) (U:Int) (bw:Nat) (a3:(List Int)) (bd ca:Int) (aT:Nat) (aH:(List Int)) (ae eu mU c8 ib rA:Int) (a1:Nat) (bt:(List Int)) (dH cc:Int):Prop:=
  ((decide (mU<((nth [(nth J.O U).a2,(nth J.O U).bB] ib).length:Int)))=false→bU bw a3 bd ca aT aH ae eu a1 bt dH cc (IntKind.i64.wrap (ib+1)) rA∧bV bw a3 bd ca aT aH ae eu a1 bt dH cc (IntKind.i64.wrap (ib+1)) rA<bV bw a3 bd ca aT aH ae eu a1 bt dH cc ib c8)∧((decide (mU<((nth [(nth J.O U).a2,(nth J.O U).bB] ib).length:Int)))=true→(0≤mU∧mU.toNat<(nth [(nth J.O U).a2,(nth J.O U).bB] ib).length)∧(RO cJ cL J U bw a3 bd ca aT aH ae eu mU c8 ib rA a1 bt dH cc))
def RQ (bU:mO Prop) (bV:mO Nat) (cJ:lQ Prop) (cL:lQ Nat) (J:az) (U:Int) (bw:Nat) (a3:(List Int)) (bd ca:Int) (aT:Nat) (aH:(List Int)) (ae eu c8 ib:Int) (a1:Nat) (bt:(List Int)) (dH cc:Int):Prop:=
  (0≤ib∧ib.toNat<[(nth J.O U).a2,(nth J.O U).bB].length)∧((nth [(nth J.O U).a2,(nth J.O U).bB] ib).length≤4611686018427387904→cJ bw a3 bd ca aT aH ae eu a1 bt dH cc ib c8 0 c8∧ ∀(mU:Int) (rA:Int),cJ bw a3 bd ca aT aH ae eu a1 bt dH cc ib c8 mU rA→(RP bU bV cJ cL J U bw a3 bd ca aT aH ae eu mU c8 ib rA a1 bt dH cc))
def RR (bo:lP Prop) (bn:lP Nat) (bU:mO Prop) (bV:mO Nat) (cJ:lQ Prop) (cL:lQ Nat) (J:az) (M:Frame) (U:Int) (bw:Nat) (a3:(List Int)) (bd ca:Int) (aT:Nat) (aH:(List Int)) (ae eu c8 ib:Int) (a1:Nat) (bt:(List Int)) (dH cc:Int):Prop:=
  ((decide (ib<([(nth J.O U).a2,(nth J.O U).bB].length:Int)))=false→(((c8==0)=false→0≤dH∧dH.toNat<M.au.length)∧(((c8==0) || (c8==(nth M.au dH).cH))=true→bo bw a3 bd ca aT aH ae eu a1 bt (IntKind.i64.wrap (dH+1)) cc∧bn bw a3 bd ca aT aH ae eu a1 bt (IntKind.i64.wrap (dH+1)) cc<bn bw a3 bd ca aT aH ae eu a1 bt dH cc))∧((!((c8==0) || (c8==(nth M.au dH).cH)))=true→(tk J M dH)∧((gE J M dH).length≤4611686018427387904→RN bo bn J M bw a3 bd ca aT aH ae eu a1 bt dH cc)))∧((decide (ib<([(nth J.O U).a2,(nth J.O U).bB].length:Int)))=true→RQ bU bV cJ cL J U bw a3 bd ca aT aH ae eu c8 ib a1 bt dH cc)
def RS (bo:lP Prop) (bn:lP Nat) (bU:mO Prop) (bV:mO Nat) (cJ:lQ Prop) (cL:lQ Nat) (J:az) (M:Frame) (U:Int) (al:nw×Int) (bw:Nat) (a3:(List Int)) (bd ca:Int) (aT:Nat) (aH:(List Int)) (ae eu:Int) (a1:Nat) (bt:(List Int)) (dH cc:Int):Prop:=
  ((decide (dH<(J.be.length:Int)))=false→(a3.length≤4611686018427387904∧a3=al.1.O)∧(aH.length≤4611686018427387904∧aH=al.1.af)∧(bt.length≤4611686018427387904∧bt=al.1.au)∧((bif (eu==0) then cc else eu)=al.2))∧((decide (dH<(J.be.length:Int)))=true→[(nth J.O U).a2,(nth J.O U).bB].length≤4611686018427387904→bU bw a3 bd ca aT aH ae eu a1 bt dH cc 0 0∧ ∀(ib:Int) (c8:Int),bU bw a3 bd ca aT aH ae eu a1 bt dH cc ib c8→(RR bo bn bU bV cJ cL J M U bw a3 bd ca aT aH ae eu c8 ib a1 bt dH cc))
abbrev rv (r:Type):Type:=Nat→(List Int)→Int→Int→Nat→(List Int)→Int→Int→r
def RT (aQ:rv Prop) (aR:rv Nat) (J:az) (M:Frame) (U:Int) (bw:Nat) (a3:(List Int)) (bd ca:Int) (aT:Nat) (aH:(List Int)) (ae eu:Int):Prop:=
  (((nth M.av ae)&&((meets [ae] (nth J.O U).af) || (meets [ae] (nth J.O U).cQ)))=true→((aH.length+[ae].length)*8≤140737488355328∧aH.length+[ae].length≤4611686018427387904)∧(((eu==0)=true→aQ bw a3 bd ca (aT+1) (aH++[ae]) (IntKind.i64.wrap (ae+1)) 4∧aR bw a3 bd ca (aT+1) (aH++[ae]) (IntKind.i64.wrap (ae+1)) 4<aR bw a3 bd ca aT aH ae eu)∧((eu==0)=false→aQ bw a3 bd ca (aT+1) (aH++[ae]) (IntKind.i64.wrap (ae+1)) eu∧aR bw a3 bd ca (aT+1) (aH++[ae]) (IntKind.i64.wrap (ae+1)) eu<aR bw a3 bd ca aT aH ae eu)))∧(((nth M.av ae)&&((meets [ae] (nth J.O U).af) || (meets [ae] (nth J.O U).cQ)))=false→aQ bw a3 bd ca aT aH (IntKind.i64.wrap (ae+1)) eu∧aR bw a3 bd ca aT aH (IntKind.i64.wrap (ae+1)) eu<aR bw a3 bd ca aT aH ae eu)
def RI (aQ:rv Prop) (aR:rv Nat) (bo:lP Prop) (bn:lP Nat) (bU:mO Prop) (bV:mO Nat) (cJ:lQ Prop) (cL:lQ Nat) (J:az) (M:Frame) (U:Int) (al:nw×Int) (bw:Nat) (a3:(List Int)) (bd ca:Int) (aT:Nat) (aH:(List Int)) (ae eu:Int):Prop:=
  ((decide (ae<J.af))=false→J.be.length≤4611686018427387904→bo bw a3 bd ca aT aH ae eu 0 ([]:List Int) 0 0∧ ∀(a1:Nat) (bt:(List Int)) (dH:Int) (cc:Int),bo bw a3 bd ca aT aH ae eu a1 bt dH cc→(RS bo bn bU bV cJ cL J M U al bw a3 bd ca aT aH ae eu a1 bt dH cc))∧((decide (ae<J.af))=true→(0≤ae∧ae.toNat<M.av.length)∧(RT aQ aR J M U bw a3 bd ca aT aH ae eu))
abbrev ry (r:Type):Type:=Nat→(List Int)→Int→Int→r
def RJ (ay:ry Prop) (aB:ry Nat) (J:az) (M:Frame) (U:Int) (bw:Nat) (a3:(List Int)) (bd ca:Int):Prop:=
  (((bd !=U)&&(((nth M.O bd).ao !=0)&&((nth (nth J.bW U) bd) || ((meets (nth J.O U).af (nth J.O bd).cQ) || (meets (nth J.O U).cQ (nth J.O bd).af)))))=true→((a3.length+[bd].length)*8≤140737488355328∧a3.length+[bd].length≤4611686018427387904)∧(ay (bw+1) (a3++[bd]) (IntKind.i64.wrap (bd+1)) 3∧aB (bw+1) (a3++[bd]) (IntKind.i64.wrap (bd+1)) 3<aB bw a3 bd ca))∧(((bd !=U)&&(((nth M.O bd).ao !=0)&&((nth (nth J.bW U) bd) || ((meets (nth J.O U).af (nth J.O bd).cQ) || (meets (nth J.O U).cQ (nth J.O bd).af)))))=false→ay bw a3 (IntKind.i64.wrap (bd+1)) ca∧aB bw a3 (IntKind.i64.wrap (bd+1)) ca<aB bw a3 bd ca)
def RK (ay:ry Prop) (aB:ry Nat) (J:az) (M:Frame) (U:Int) (bw:Nat) (a3:(List Int)) (bd ca:Int):Prop:=
  ((bd !=U)=true→(0≤bd∧bd.toNat<M.O.length)∧(((nth M.O bd).ao !=0)=true→(0≤U∧U.toNat<J.bW.length)∧((0≤bd∧bd.toNat<(nth J.bW U).length)∧((nth (nth J.bW U) bd)=false→(0≤bd∧bd.toNat<J.O.length)∧((meets (nth J.O U).af (nth J.O bd).cQ)=false→0≤bd∧bd.toNat<J.O.length)))))∧(RJ ay aB J M U bw a3 bd ca)
def RL (ay:ry Prop) (aB:ry Nat) (aQ:rv Prop) (aR:rv Nat) (bo:lP Prop) (bn:lP Nat) (bU:mO Prop) (bV:mO Nat) (cJ:lQ Prop) (cL:lQ Nat) (J:az) (M:Frame) (U:Int) (al:nw×Int):Prop:=
  ay 0 ([]:List Int) 0 0∧ ∀(bw:Nat) (a3:(List Int)) (bd:Int) (ca:Int),ay bw a3 bd ca→(((decide (bd<(J.O.length:Int)))=false→aQ bw a3 bd ca 0 ([]:List Int) 0 ca∧ ∀(aT:Nat) (aH:(List Int)) (ae:Int) (eu:Int),aQ bw a3 bd ca aT aH ae eu→(RI aQ aR bo bn bU bV cJ cL J M U al bw a3 bd ca aT aH ae eu))∧((decide (bd<(J.O.length:Int)))=true→RK ay aB J M U bw a3 bd ca))
def RG (J:az) (M:Frame) (U:Int) (al:nw×Int) (ay:ry Prop) (aB:ry Nat) (aQ:rv Prop) (aR:rv Nat) (bo:lP Prop) (bn:lP Nat) (bU:mO Prop) (bV:mO Nat) (cJ:lQ Prop) (cL:lQ Nat):Prop:=
 (0≤U∧U.toNat<J.O.length)∧(J.O.length≤4611686018427387904→RL ay aB aQ aR bo bn bU bV cJ cL J M U al)
theorem afe (J:az) (M:Frame) (U:Int) (aI:rB J M U):b2 Try.prog 154 [.agg (bg false J),.agg (b1 false M),ah U] (.tup [.agg (Ej true ((tE J M U).1)),ah ((tE J M U).2)]):=(fun(ay:ry Prop) (aB:ry Nat) (aQ:rv Prop) (aR:rv Nat) (bo:lP Prop) (bn:lP Nat) (bU:mO Prop) (bV:mO Nat) (cJ:lQ Prop) (cL:lQ Nat) (h:RG J M U (tE J M U) ay aB aQ aR bo bn bU bV cJ cL)=>b2.run (ps:=[.dr,.frame,.int]) (rs:=[.stays,.int]) (x:=(J,M,U,())) (r:=((tE J M U).1,(tE J M U).2,())) ⟨192,eh,[afd,z6]⟩ ⟨[],[(7,afi,afj),(37,afg,afh)],[],[],[]⟩ (.lp [(9,0,.int)] [2,3,4,6,8,10,27] [(10,5),(8,3),(6,3),(4,4),(3,5)] [.nat,(.l .int),.int,.int] [bC 0,bC 0,28,9] (fun aN=>[(9,.i .i64 aN.2.2.2.1),(28,.i .i64 aN.2.2.1),(eG 8 0,.ref 0 aN.1 aN.2.1.length false),(bC 0,.blk aN.1 .int aN.2.1 _ rfl)]) (fun aN=>ay aN.1 aN.2.1 aN.2.2.1 aN.2.2.2.1) (fun aN=>aB aN.1 aN.2.1 aN.2.2.1 aN.2.2.2.1) fun aN=>(.lp [(9,1,.int)] [3,4,6,8,10] [(10,5),(8,3),(6,3),(4,4),(3,5)] [.nat,(.l .int),.int,.int] [bC 1,bC 1,12,9] (fun bx=>[(9,.i .i64 bx.2.2.2.1),(12,.i .i64 bx.2.2.1),(eG 8 1,.ref 1 bx.1 bx.2.1.length false),(bC 1,.blk bx.1 .int bx.2.1 _ rfl)]) (fun bx=>aQ aN.1 aN.2.1 aN.2.2.1 aN.2.2.2.1 bx.1 bx.2.1 bx.2.2.1 bx.2.2.2.1) (fun bx=>aR aN.1 aN.2.1 aN.2.2.1 aN.2.2.2.1 bx.1 bx.2.1 bx.2.2.1 bx.2.2.2.1) fun bx=>(.lp [(9,2,.int)] [3,4,6,8,9,10,117] [(10,5),(8,3),(6,3),(4,4),(3,5)] [.nat,(.l .int),.int,.int] [bC 2,bC 2,118,13] (fun ch=>[(13,.i .i64 ch.2.2.2.1),(118,.i .i64 ch.2.2.1),(eG 8 2,.ref 2 ch.1 ch.2.1.length false),(bC 2,.blk ch.1 .int ch.2.1 _ rfl)]) (fun ch=>bo aN.1 aN.2.1 aN.2.2.1 aN.2.2.2.1 bx.1 bx.2.1 bx.2.2.1 bx.2.2.2.1 ch.1 ch.2.1 ch.2.2.1 ch.2.2.2.1) (fun ch=>bn aN.1 aN.2.1 aN.2.2.1 aN.2.2.2.1 bx.1 bx.2.1 bx.2.2.1 bx.2.2.2.1 ch.1 ch.2.1 ch.2.2.1 ch.2.2.2.1) fun ch=>(.lp [] [3,4,6,8,9,10,13,14,117,118,125,126] [(10,5),(8,3),(6,3),(4,4),(3,5)] [.int,.int] [127,15] (fun eB=>[(15,.i .i64 eB.2.1),(127,.i .i64 eB.1)]) (fun eB=>bU aN.1 aN.2.1 aN.2.2.1 aN.2.2.2.1 bx.1 bx.2.1 bx.2.2.1 bx.2.2.2.1 ch.1 ch.2.1 ch.2.2.1 ch.2.2.2.1 eB.1 eB.2.1) (fun eB=>bV aN.1 aN.2.1 aN.2.2.1 aN.2.2.2.1 bx.1 bx.2.1 bx.2.2.1 bx.2.2.2.1 ch.1 ch.2.1 ch.2.2.1 ch.2.2.2.1 eB.1 eB.2.1) fun eB=>(.lp [] [3,4,6,8,9,10,13,14,117,118,125,126,127,131,132] [(10,5),(8,3),(6,3),(4,4),(3,5)] [.int,.int] [133,15] (fun ht=>[(15,.i .i64 ht.2.1),(133,.i .i64 ht.1)]) (fun ht=>cJ aN.1 aN.2.1 aN.2.2.1 aN.2.2.2.1 bx.1 bx.2.1 bx.2.2.1 bx.2.2.2.1 ch.1 ch.2.1 ch.2.2.1 ch.2.2.2.1 eB.1 eB.2.1 ht.1 ht.2.1) (fun ht=>cL aN.1 aN.2.1 aN.2.2.1 aN.2.2.2.1 bx.1 bx.2.1 bx.2.2.1 bx.2.2.2.1 ch.1 ch.2.1 ch.2.2.1 ch.2.2.2.1 eB.1 eB.2.1 ht.1 ht.2.1) fun _=> .nil))))) Try.func154 h) (fun _ x v c=>cl J.O.length (fun _=>false) v∧x=ej (k4 J M U) v∧c=(if x≠[] then 3 else 0)) (fun _ _ v _=>cy J.O.length v) (fun _ a3 _ _ _ aH v c=>a3=ej (k4 J M U) J.O.length∧cl J.af (fun _=>false) v∧aH=ej (nC J M U) v∧c=(if a3≠[] then 3 else if aH≠[] then 4 else 0)) (fun _ _ _ _ _ _ v _=>cy J.af v) (fun _ a3 _ _ _ aH _ c _ bt v h=>a3=ej (k4 J M U) J.O.length∧aH=ej (nC J M U) J.af∧c=(if a3≠[] then 3 else if aH≠[] then 4 else 0)∧cl J.be.length (fun _=>false) v∧bt=ej (k3 J M U) v∧h=wF J M U v) (fun _ _ _ _ _ _ _ _ _ _ v _=>cy J.be.length v) (fun _ _ _ _ _ _ _ _ _ _ k _ i l=>cl ([(nth J.O U).a2,(nth J.O U).bB].length:Int) (fun _=>false) i∧l=qX 0 ([(nth J.O U).a2,(nth J.O U).bB].take i.toNat).flatten k) (fun _ _ _ _ _ _ _ _ _ _ _ _ i _=>cy ([(nth J.O U).a2,(nth J.O U).bB].length:Int) i) (fun _ _ _ _ _ _ _ _ _ _ k _ i l j fq=>cl (nth [(nth J.O U).a2,(nth J.O U).bB] i).length (fun _=>false) j∧fq=qX l ((nth [(nth J.O U).a2,(nth J.O U).bB] i).take j.toNat) k) (fun _ _ _ _ _ _ _ _ _ _ _ _ i _ j _=>cy (nth [(nth J.O U).a2,(nth J.O U).bB] i).length j) (by
 unfold RG RL
 obtain⟨hf,aU,h1⟩:=aI
 have hw:=hf.fr.O
 have k5:=hf.fr.au
 have qP:=hf.fr.av
 have cx:=hf.in
 have y3:=cx.O
 have wS:=cx.sw
 have nE:=cx.c0
 have dW:=vc hf.l7
 have bf:U.toNat<J.O.length:=by omega
 have uz:=dq bf
 have mz:=Hf hf.l7 uz
 refine⟨⟨aU,bf⟩,fun aF=>⟨⟨c6 (dd _),rfl,rfl⟩,fun g x v c aX=> ?_⟩⟩
 obtain⟨aX,rfl,rfl⟩:=aX
 have hlen:=sR (k4 J M U) v
 have wW:=aX.2.1
 refine⟨fun hv=>⟨⟨wl aX hv,c6 nE.1,rfl,by simp[VE]⟩,fun aT aH s nx cZ=> ?_⟩,fun hv=> ?_⟩
 ·obtain⟨h4,cZ,rfl,rfl⟩:=cZ
  have Yq:=sR (nC J M U) s
  have Y0:=cZ.2.1
  unfold RI
  refine⟨fun hs hm=>⟨⟨h4,wl cZ hs,rfl,c6 (dd _),rfl,rfl⟩,fun a1 bt k bj hK=> ?_⟩,fun hs=> ?_⟩
  ·obtain⟨_,ow,hc,hK,rfl,rfl⟩:=hK
   have BF:=sR (k3 J M U) k
   have qL:=hK.2.1
   unfold RS
   refine⟨fun hk=> ?_,fun hk h2=>⟨⟨c6 (dd _),rfl⟩,fun i l b3=> ?_⟩⟩
   ·have bA:=wl (q:=k3 J M U) hK hk
    have e:k=J.be.length:=by
     have: ¬k<(J.be.length:Int):=by simpa using hk
     omega
    refine⟨⟨by omega,h4⟩,⟨by omega,ow⟩,⟨by omega,bA⟩,?_⟩
    show _=codeF J M U
    unfold codeF
    show _=if ej (k4 J M U) J.O.length≠[] then 3 else if ej (nC J M U) J.af≠[] then 4 else _
    rw[h4,ow]
    by_cases x5:ej (k4 J M U) J.O.length≠[]
    ·rw[if_pos x5,if_pos x5];rfl
    ·rw[if_neg x5,if_neg x5]
     by_cases oK:ej (nC J M U) J.af≠[]
     ·rw[if_pos oK,if_pos oK];rfl
     ·rw[if_neg oK,if_neg oK,e];rfl
   ·have y1:=b8 hK hk
    have m6:=cG (cq hm) hK hk rfl
    have s1:=qC (q:=k3 J M U) (cq hm) hK hk
    have s2:=(qC (q:=fun k=>kR J M U k&&je J M k) (cq hm) hK hk).2.2
    have mi:=(qC (q:=fun k=>kR J M U k&&kr J M k) (cq hm) hK hk).2.2
    have uG:wq J M U (IntKind.i64.wrap (k+1))=(wq J M U k || (kR J M U k&&je J M k)):=s2
    have uH:z2 J M U (IntKind.i64.wrap (k+1))=(z2 J M U k || (kR J M U k&&kr J M k)):=mi
    obtain⟨b3,rfl⟩:=b3
    unfold RR
    refine⟨fun hi=> ?_,fun hi=> ?_⟩
    ·have Ym:i=2:=by
      have a:=b3.2.1
      have: ¬i<(([(nth J.O U).a2,(nth J.O U).bB].length:Nat):Int):=by simpa using hi
      simp at a this;omega
     have cm:(List.take i.toNat [(nth J.O U).a2,(nth J.O U).bB]).flatten=bz (nth J.O U):=by rw[Ym];simp[bz]
     rw[cm]
     have aC:=abp (f:=M) (k:=k) hf.l7 bf
     refine⟨⟨fun _=>⟨hK.1,by omega⟩,fun aj=> ?_⟩,fun aj=>⟨⟨hf,hK.1,by omega⟩,fun ja=> ?_⟩⟩
     ·rw[aC] at aj
      have aj:kR J M U k=false:=by simpa using aj
      refine⟨⟨h4,ow,hc,m6.1,s1.2.1 (by unfold k3;rw[aj];rfl),?_⟩,m6.2⟩
      unfold wF;rw[uG,uH,aj];simp
     ·rw[aC] at aj
      have aj:kR J M U k=true:=by simpa using aj
      have FK:=cx.be _ (dq y1.2)
      unfold RN
      have iu:(decide (((gE J M k).length:Int)>0))=je J M k:=rfl
      rw[iu]
      rw[aj,Bool.true_and] at uG uH
      have vW:((ej (k3 J M U) k).length+[k].length)*8≤140737488355328∧(ej (k3 J M U) k).length+[k].length≤4611686018427387904:=by
       simp only[List.length_singleton];omega
      refine⟨fun aL=>⟨vW,⟨h4,ow,hc,m6.1,s1.1 (by unfold k3;rw[aj,aL];rfl),?_⟩,m6.2⟩,fun aL=>⟨⟨⟨hK.1,y1.2⟩,FK.1,by omega⟩,?_⟩⟩
      ·unfold wF;rw[uG,aL,Bool.or_true];rfl
      ·rw[aL,Bool.or_false] at uG
       unfold RM RH
       have m0:nth M.av (nth J.be k)=kr J M k:=rfl
       rw[m0]
       refine⟨fun y5=>⟨vW,?_⟩,fun y5=>⟨⟨h4,ow,hc,m6.1,s1.2.1 (by unfold k3;rw[aj,aL,y5];rfl),?_⟩,m6.2⟩⟩
       ·rw[y5,Bool.or_true] at uH
        have bY:=s1.1 (show k3 J M U k=true by unfold k3;rw[aj,aL,y5];rfl)
        refine⟨fun aO=>⟨⟨h4,ow,hc,m6.1,bY,?_⟩,m6.2⟩,fun aO=>⟨⟨h4,ow,hc,m6.1,bY,?_⟩,m6.2⟩⟩
        ·unfold wF at aO ⊢
         rw[uG,uH]
         cases cs:wq J M U k with
         | true=>rw[cs] at aO;simp at aO
         | false=>simp
        ·unfold wF at aO ⊢
         rw[uG,uH]
         cases cs:wq J M U k with
         | true=>simp
         | false=>
          rw[cs] at aO
          cases cT:z2 J M U k with
          | true=>simp
          | false=>rw[cT] at aO;simp at aO
       ·rw[y5,Bool.or_false] at uH
        unfold wF;rw[uG,uH]
    ·unfold RQ
     refine⟨b8 b3 hi,fun qO=>⟨⟨c6 (dd _),rfl⟩,fun j fq uh=> ?_⟩⟩
     obtain⟨uh,rfl⟩:=uh
     unfold RP RO
     refine⟨fun aM=> ?_,fun aM=>⟨b8 uh aM,?_⟩⟩
     ·have bi:=cG (cq h2) b3 hi rfl
      refine⟨⟨bi.1,?_⟩,bi.2⟩
      have gb:=b8 b3 hi
      rw[iE (cq h2) b3.1 (by simpa using hi),show(i+1).toNat=i.toNat+1 by omega,List.take_succ_eq_append_getElem gb.2,List.flatten_append]
      have ot: ¬j<((nth [(nth J.O U).a2,(nth J.O U).bB] i).length:Int):=by simpa using aM
      have L1:=uh.1
      have bu:(nth [(nth J.O U).a2,(nth J.O U).bB] i).take j.toNat=nth [(nth J.O U).a2,(nth J.O U).bB] i:=List.take_of_length_le (by omega)
      rw[bu,gq gb.2]
      unfold qX
      rw[List.foldl_append]
      simp
     ·have bi:=cG (cq qO) uh aM rfl
      refine⟨⟨bi.1,?_⟩,bi.2⟩
      have ot:=b8 uh aM
      rw[iE (cq qO) uh.1 (by simpa using aM),show(j+1).toNat=j.toNat+1 by omega,List.take_succ_eq_append_getElem ot.2,gq ot.2]
      unfold qX
      rw[List.foldl_append];rfl
  ·have r3:0≤s∧s<J.af:=⟨cZ.1,by simpa using hs⟩
   have bi:=cG (N:=J.af) (by omega) cZ hs rfl
   have s1:=qC (q:=nC J M U) (N:=J.af) (by omega) cZ hs
   refine⟨⟨cZ.1,by omega⟩,?_⟩
   unfold RT
   rw[uX,uX]
   have vW:((ej (nC J M U) s).length+[s].length)*8≤140737488355328∧(ej (nC J M U) s).length+[s].length≤4611686018427387904:=by
    simp only[List.length_singleton];omega
   refine⟨fun aj=>⟨vW,fun aO=> ?_,fun aO=> ?_⟩,fun aj=>⟨⟨h4,bi.1,s1.2.1 aj,?_⟩,bi.2⟩⟩
   ·refine⟨⟨h4,bi.1,s1.1 aj,?_⟩,bi.2⟩
    by_cases z:ej (k4 J M U) v≠[]
    ·rw[if_pos z] at aO;simp at aO
    ·rw[if_neg z,if_pos (by simp)]
   ·refine⟨⟨h4,bi.1,s1.1 aj,?_⟩,bi.2⟩
    by_cases z:ej (k4 J M U) v≠[]
    ·rw[if_pos z,if_pos z]
    ·rw[if_neg z,if_neg z]
     rw[if_neg z] at aO
     by_cases oK:ej (nC J M U) s≠[]
     ·rw[if_pos oK,if_pos (by simp)]
     ·rw[if_neg oK] at aO;simp at aO
   ·rfl
 ·have b9:=b8 aX hv
  have hn:=dW.len
  have eX:=dW.row U aU h1
  have bi:=cG (cq aF) aX hv rfl
  have s1:=qC (q:=k4 J M U) (cq aF) aX hv
  unfold RK RJ
  have vW:((ej (k4 J M U) v).length+[v].length)*8≤140737488355328∧(ej (k4 J M U) v).length+[v].length≤4611686018427387904:=by
   simp only[List.length_singleton];omega
  refine⟨fun _=>⟨⟨b9.1,by omega⟩,fun _=>⟨⟨aU,by omega⟩,⟨b9.1,by omega⟩,fun _=>⟨b9,fun _=>b9⟩⟩⟩,fun aj=>⟨vW,⟨bi.1,s1.1 aj,by rw[if_pos (by simp)]⟩,bi.2⟩,fun aj=>⟨⟨bi.1,s1.2.1 aj,rfl⟩,bi.2⟩⟩)
def aff:ey Try.prog:=⟨154,[.dr,.frame,.int],[.stays,.int],some fun x=>rB x.1 x.2.1 x.2.2.1,fun x=>((tE x.1 x.2.1 x.2.2.1).1,(tE x.1 x.2.1 x.2.2.1).2,()),fun x h=>afe x.1 x.2.1 x.2.2.1 h⟩
def RX (J:az) (M:Frame) (U:Int) (al:Int):Prop:=
 ((0≤U∧U.toNat<M.O.length)∧(((nth M.O U).ao !=0)=true→2=al))∧((!((nth M.O U).ao !=0))=true→(rB J M U)∧((tE J M U).2=al))
theorem afo (J:az) (M:Frame) (U:Int) (aI:rB J M U):b2 Try.prog 116 [.agg (bg false J),.agg (b1 false M),ah U] (ah (eY J M U)):=(fun(h:RX J M U (eY J M U))=>b2.run (ps:=[.dr,.frame,.int]) (rs:=[.int]) (x:=(J,M,U,())) (r:=((eY J M U),())) ⟨24,eh,[aff]⟩ ⟨[],[],[],[],[]⟩ .nil Try.func116 h) (by
 unfold RX
 have s5:=aI
 obtain⟨hf,aU,h1⟩:=s5
 have hw:=hf.fr.O
 refine⟨⟨⟨aU,by omega⟩,fun aO=> ?_⟩,fun aO=>⟨aI,?_⟩⟩
 ·unfold eY;rw[if_pos (by simpa using aO)]
 ·unfold eY;rw[if_neg (by simpa using aO)];rfl)
def NL (J:az) (M:Frame) (U al:Int):Prop:=
  ((decide ((((iH J M U).1).O.length:Int)>0))=true→3=al)∧((decide ((((iH J M U).1).O.length:Int)>0))=false→((iH J M U).1).af.length≤4611686018427387904→((decide ((((iH J M U).1).af.length:Int)>0))=true→4=al)∧((decide ((((iH J M U).1).af.length:Int)>0))=false→((iH J M U).2.1=true→5=al)∧((iH J M U).2.1=false→(iH J M U).2.2=true→6=al)))
def NM (J:az) (M:Frame) (U al:Int):Prop:=
  ((0≤U∧U.toNat<M.O.length)∧((((nth M.O U).ao !=0)=true→2=al)∧(((nth M.O U).ao !=0)=false→((iH J M U).1).O.length≤4611686018427387904→NL J M U al)))∧((((iH J M U).1).O.length≤4611686018427387904)∧(((iH J M U).1).af.length≤4611686018427387904)∧((!((nth M.O U).ao !=0)&&(!(decide ((((iH J M U).1).O.length:Int)>0))&&(!(decide ((((iH J M U).1).af.length:Int)>0))&&(!((iH J M U).2.1)&&(!((iH J M U).2.2))))))=true)→0=al)
def NK (J:az) (M:Frame) (U:Int) (al:Int):Prop:=
 (rB J M U)∧(NM J M U al)
theorem aaU (J:az) (M:Frame) (U:Int) (aI:rB J M U):b2 Try.prog 114 [.agg (bg false J),.agg (b1 false M),ah U] (ah (eY J M U)):=(fun(h:NK J M U (eY J M U))=>b2.run (ps:=[.dr,.frame,.int]) (rs:=[.int]) (x:=(J,M,U,())) (r:=((eY J M U),())) ⟨40,eh,[ZL]⟩ ⟨[],[],[],[],[]⟩ .nil Try.func114 h) (by
 unfold NK NM NL
 have s5:=aI
 obtain⟨hf,aU,h1⟩:=s5
 have hw:=hf.fr.O
 have Vh:iH J M U=(lN J M U,yz J M U,CZ J M U):=rfl
 rw[Vh]
 have bA:(decide (((lN J M U).O.length:Int)>0))=true↔(lN J M U).O≠[]:=by
  rw[decide_eq_true_eq,←List.length_pos_iff];omega
 have e2:(decide (((lN J M U).af.length:Int)>0))=true↔(lN J M U).af≠[]:=by
  rw[decide_eq_true_eq,←List.length_pos_iff];omega
 refine⟨aI,⟨⟨aU,by omega⟩,fun aO=> ?_,fun aO _=>⟨fun a4=> ?_,fun a4 _=>⟨fun hb=> ?_,fun hb=>⟨fun hc=> ?_,fun hc bj=> ?_⟩⟩⟩⟩,fun aj=> ?_⟩
 ·unfold eY;rw[if_pos (by simpa using aO)]
 ·unfold eY codeF;rw[if_neg (by simpa using aO),if_pos (bA.1 a4)]
 ·unfold eY codeF;rw[if_neg (by simpa using aO),if_neg (fun h=>by rw[show(decide (((lN J M U).O.length:Int)>0))=true from bA.2 h] at a4;cases a4),if_pos (e2.1 hb)]
 ·unfold eY codeF;rw[if_neg (by simpa using aO),if_neg (fun h=>by rw[show(decide (((lN J M U).O.length:Int)>0))=true from bA.2 h] at a4;cases a4),if_neg (fun h=>by rw[show(decide (((lN J M U).af.length:Int)>0))=true from e2.2 h] at hb;cases hb),if_pos hc]
 ·unfold eY codeF;rw[if_neg (by simpa using aO),if_neg (fun h=>by rw[show(decide (((lN J M U).O.length:Int)>0))=true from bA.2 h] at a4;cases a4),if_neg (fun h=>by rw[show(decide (((lN J M U).af.length:Int)>0))=true from e2.2 h] at hb;cases hb),if_neg (by rw[show yz J M U=false from hc];simp),if_pos bj]
 ·have aj:=aj.2.2
  simp only[Bool.and_eq_true,Bool.not_eq_true'] at aj
  obtain⟨q1,q2,q3,q4,cR⟩:=aj
  unfold eY codeF;rw[if_neg (by simpa using q1),if_neg (fun h=>by rw[show(decide (((lN J M U).O.length:Int)>0))=true from bA.2 h] at q2;cases q2),if_neg (fun h=>by rw[show(decide (((lN J M U).af.length:Int)>0))=true from e2.2 h] at q3;cases q3),if_neg (by rw[show yz J M U=false from q4];simp),if_neg (by rw[show CZ J M U=false from cR];simp)])
end Go.Proofs.Ytglpfccgmfhkdaa.Fw
