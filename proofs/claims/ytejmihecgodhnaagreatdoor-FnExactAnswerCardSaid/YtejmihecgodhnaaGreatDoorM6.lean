/- Walks and summaries of functions, printed by a program of mine (tools/mk2.py), with the proofs of what they owe. -/
import Derived.Test.YtejmihecgodhnaaGreatDoorM5
set_option linter.unusedVariables false
set_option maxRecDepth 100000
set_option maxHeartbeats 4000000
set_option linter.unusedSimpArgs false
namespace Go.Proofs.YtejmihecgodhnaaGreatDoor.Fw
open Go
attribute [local irreducible] evS evSD WpS Weak Oper.looksAt
section
abbrev Bo (r:Type):Type:=List (List Bool)→Int→List aq→r
variable (aU:Bo Prop) (m1:Bo Nat) (ad:List (List Bool)→Int→Prop) (m0:List (List Bool)→Int→Nat) (a0:Way) (ba:Int) (hk:Bool) (ai:List Bool) (U:List bx) (hw:List aq) (hi:List Nat) (hb aO:List (List Bool)) (cV:Int) (aT:List aq) (ax:Nat)
abbrev h7:=(nth aT ba).a7
abbrev o4:=IntKind.i64.wrap ((h7 ba aT)+1)
abbrev v_:=aT.set ba.toNat (aq.mk (nth aT ba).ar (o4 ba aT) (nth aT ba).ah (nth aT ba).bI (nth aT ba).bG)
abbrev sS:=nth a0.ak (h7 ba aT)
abbrev o2:=aO.getD (nth hi ba) []
abbrev mJ:=(a0.ak.length:Int)
abbrev A4:=IntKind.i64.wrap ((mJ a0) - 1)
abbrev o3:=(!(nth (o2 ba hi aO) (h7 ba aT))) || ((nth ai (sS a0 ba aT)) || ((decide ((h7 ba aT)<(A4 a0)))&&(!(nth (o2 ba hi aO) (o4 ba aT)))))
abbrev HA:List AV:=[an hk,ap 1 0 ai.length,ap 2 0 U.length,ap 3 0 hw.length]
abbrev OE:List Blk:=(⟨ax,4,[(HA hk ai U hw)]⟩::⟨0,1,List.map aP ai⟩::⟨0,2,List.map a1 U⟩::⟨0,5,aR 4 hw hi⟩::List.map bh hb)
abbrev iq:=0+ba.toNat
abbrev HB:List (Nat×AV):=[(1,.ptr 0 ax 0 0),(2,.ptr 3 0 (iq ba) 0),(3,aF 3 0),(6,ab (mJ a0))]
abbrev A6:=decide ((h7 ba aT)<(mJ a0))
abbrev uu:=aT.length=hi.length∧ba.toNat<aT.length
abbrev YW:=[81,80,79,78,77,76,75,74,73,72,71,70,69,68,67]
abbrev A5:=IntKind.i64.wrap (cV+1)
abbrev qv:=bif (nth ai (nth a0.ak cV)) then(aO.set (nth hi ba) ((o2 ba hi aO).set cV.toNat true)) else aO
noncomputable def ams:Code:=iP Tryz.f100
def amt:List Item:=(List.range 38).map bV
def amu:List (List Nat):=[[],[0],[0,1],[0,1,2],[],rg 0 5,rg 0 6,rg 0 7,rg 0 8,rg 0 9,rg 0 10,rg 0 11,rg 0 12,rg 0 9,rg 0 9++[13],rg 0 9,rg 0 9++[13,14,15],rg 0 9++rg 13 17,rg 0 18,rg 0 19,rg 0 20,rg 0 21,rg 0 22,rg 0 22,rg 0 22++[23],rg 0 25,rg 0 26,rg 0 27,rg 0 28,rg 0 29,rg 0 30,rg 0 27,rg 0 27++[31],rg 0 33,rg 0 34,rg 0 35,rg 0 36,rg 0 37]
def OA:Prop:=
  (uu ba hi aT)∧((uu ba hi aT)∧(aU aO cV (v_ ba aT)∧m1 aO cV (v_ ba aT)<m1 aO cV aT))
def OB:Prop:=
  (((uu ba hi aT)∧((((nth hi ba)<aO.length)∧(0≤(h7 ba aT)∧(h7 ba aT).toNat<(nth aT ba).ah.length))∧(((nth hi ba)<aO.length∧(h7 ba aT).toNat<(o2 ba hi aO).length)∧((!(nth (o2 ba hi aO) (h7 ba aT)))=false→(0≤(h7 ba aT)∧(h7 ba aT).toNat<a0.ak.length)∧((0≤(sS a0 ba aT)∧(sS a0 ba aT).toNat<ai.length)∧((nth ai (sS a0 ba aT))=false→(decide ((h7 ba aT)<(A4 a0)))=true→(uu ba hi aT)∧((((nth hi ba)<aO.length)∧(0≤(o4 ba aT)∧(o4 ba aT).toNat<(nth aT ba).ah.length))∧((nth hi ba)<aO.length∧(o4 ba aT).toNat<(o2 ba hi aO).length))))))))∧((o3 a0 ba ai hi aO aT)=true→Dh a0 ba hk ai U hw hi hb ai U aT hi aO))∧((!(o3 a0 ba ai hi aO aT))=true→OA aU m1 ba hi aO cV aT)
def OC:Prop:=
  ((uu ba hi aT)∧((A6 a0 ba aT)=false→(F4 ba hk ai U aT hi aO)∧(∀(Ed:List aq) (i14:List Nat) (BQ:List (List Bool)),xh ba hk ai U aT hi aO ai U Ed i14 BQ→(Dh a0 ba hk ai U hw hi hb ai U Ed i14 BQ))))∧((A6 a0 ba aT)=true→(uu ba hi aT)∧(OB aU m1 a0 ba hk ai U hw hi hb aO cV aT))
def OD:Prop:=
  ((0≤cV∧cV.toNat<a0.ak.length)∧((0≤(nth a0.ak cV)∧(nth a0.ak cV).toNat<ai.length)∧((nth ai (nth a0.ak cV))=true→(hw.length=hi.length∧ba.toNat<hw.length)∧((((nth hi ba)<aO.length)∧(0≤cV∧cV.toNat<(nth hw ba).ah.length))∧((nth hi ba)<aO.length∧cV.toNat<(o2 ba hi aO).length)))))∧(∀yt:List (List Bool),(qv a0 ba ai hi aO cV)=yt→(ad yt (A5 cV)∧m0 yt (A5 cV)<m0 aO cV))
def Oz (a0:Way) (ba:Int) (ax:Nat) (hk:Bool) (ai:List Bool) (U:List bx) (hw:List aq) (hi:List Nat) (hb:List (List Bool)) (ad:List (List Bool)→Int→Prop) (m0:List (List Bool)→Int→Nat) (aU:Bo Prop) (m1:Bo Nat):Prop:=
 a0.ak.length≤4611686018427387904→ad hb 0∧ ∀(aO:List (List Bool)) (cV:Int),ad aO cV→(((decide (cV<(mJ a0)))=false→aU aO cV hw∧ ∀(aT:List aq),aU aO cV aT→(OC aU m1 a0 ba hk ai U hw hi hb aO cV aT))∧((decide (cV<(mJ a0)))=true→OD ad m0 a0 ba ai hw hi aO cV))
theorem amv (a0:Way) (ba:Int) (ax:Nat) (hk:Bool) (ai:List Bool) (U:List bx) (hw:List aq) (hi:List Nat) (hb:List (List Bool)) (ad:List (List Bool)→Int→Prop) (m0:List (List Bool)→Int→Nat) (aU:Bo Prop) (m1:Bo Nat) (h:Oz a0 ba ax hk ai U hw hi hb ad m0 aU m1):c0 Tryz.prog 100 [.agg (da false a0),.ptr 0 ax 0 0,.ptr 3 0 (iq ba) 0] (OE hk ai U hw hi hb ax) (fun r H'=> ∃(eI:List aq) (fC:List Nat) (dL:List (List Bool)),r= .tup []∧H'=(⟨ax,4,[[an hk,ap 1 0 ai.length,ap 2 0 U.length,ap 3 0 eI.length]]⟩::⟨0,1,List.map aP ai⟩::⟨0,2,List.map a1 U⟩::⟨0,5,aR 4 eI fC⟩::List.map bh dL)∧Dh a0 ba hk ai U hw hi hb ai U eI fC dL):=by
 unfold Oz at h
 refine c0.go (fn:=Tryz.f100) [(0,.agg (da false a0)),(1,.ptr 0 ax 0 0),(2,.ptr 3 0 (iq ba) 0)] Tryz.func100 (fun _ _=> ?_)
 show WpS _ (bB ams 1) _ ⟨bd 92 [(0,.agg (da false a0)),(1,.ptr 0 ax 0 0),(2,.ptr 3 0 (iq ba) 0)],[],(OE hk ai U hw hi hb ax)⟩
 refine uR [] 0 [(3,aF 3 0)] [1] [0,1,2] (fun L=>(3,(da false a0))::L) id ?_
 refine cc [(6,ab (mJ a0))] [3] (a0.ak.length≤4611686018427387904) ?_ (fun q2=> ?_)
 ·
  refine bo [] 1 ?_
  refine sLen 3 (some 12) [(11,bq cd a0.ak),(10,aF 3 0)] cd a0.ak (fun q3=> ?_)
  exact bJ [(6,ab (mJ a0))] q3
 replace h:=h q2
 refine hz ?_
 refine cc [(14,bq cd a0.ak),(15,ab (mJ a0)),(16,ab 0)] [4] (True) ?_ (fun q4=> ?_)
 ·
  refine bo [] 2 ?_
  refine sLen 3 (some 15) [(14,bq cd a0.ak),(13,aF 3 0)] cd a0.ak (fun cs=> ?_)
  exact bJ [(16,ab 0)] trivial
 refine fg 0 ?_
 obtain⟨nr,h⟩:=h
 refine kq (fun(v:List (List Bool)×Int)=>(⟨(bd 92 [(1,.ptr 0 ax 0 0),(2,.ptr 3 0 (iq ba) 0),(3,aF 3 0),(6,ab (mJ a0)),(14,bq cd a0.ak),(15,ab (mJ a0)),(16,ab (v.2))]),[(3,(da false a0))],(⟨ax,4,[(HA hk ai U hw)]⟩::⟨0,1,List.map aP ai⟩::⟨0,2,List.map a1 U⟩::⟨0,5,aR 4 hw hi⟩::List.map bh (v.1))⟩:St)) (fun(v:List (List Bool)×Int)=>ad (v.1) (v.2)) (fun(v:List (List Bool)×Int)=>m0 (v.1) (v.2)) (hb,0) (di []) nr (fun v aJ=> ?_)
 obtain⟨aO,cV⟩:=v
 replace h:=h aO cV aJ
 dsimp only
 refine dY [] 3 [(17,an (decide (cV<(mJ a0))))] [1] [7] ?_
 obtain⟨qm,h⟩:=h
 refine cc [] [0,1,7] ((decide (cV<(mJ a0)))=true) ?_ (fun fH=> ?_)
 ·
  replace h:=qm
  refine dp (fun fu=> ?_) (fun fu=> ?_)
  ·
   refine d_ ?_
   exact bP.normal (by simp only[fu,qv,o3]<;>rfl) dU
  ·
   replace h:=h fu
   refine jf 0 ?_
   refine bP.exit ?_
   refine dO.exit ?_
   refine bT.here ?_
   refine dR.normal ?_
   refine hz ?_
   refine fg 2 ?_
   obtain⟨jB,h⟩:=h
   refine kq (fun(v:List aq)=>(⟨(bd 92 (HB a0 ba ax)),[(3,(da false a0))],(⟨ax,4,[[an hk,ap 1 0 ai.length,ap 2 0 U.length,ap 3 0 v.length]]⟩::⟨0,1,List.map aP ai⟩::⟨0,2,List.map a1 U⟩::⟨0,5,aR 4 v hi⟩::List.map bh aO)⟩:St)) (fun(v:List aq)=>aU aO cV v) (fun(v:List aq)=>m1 aO cV v) hw (di []) jB (fun aT aJ=> ?_)
   replace h:=h aT aJ
   unfold OC at h
   obtain⟨ru,h⟩:=h
   refine cc [] [4] ((A6 a0 ba aT)=true) ?_ (fun iV=> ?_)
   ·
    replace h:=ru
    obtain⟨mC,h⟩:=h
    refine cc [(40,an (A6 a0 ba aT))] [4] (True) ?_ (fun gG=> ?_)
    ·
     replace h:=mC
     refine bo [] 8 ?_
     have iF:=h
     refine iX 4 (some 38) [(37,.ptr 3 0 (iq ba) 1),(36,.ptr 3 0 (iq ba) 0),(35,.ptr 3 0 (iq ba) 0)] (aR 4 aT hi) ba 3 1 0 (ab (h7 ba aT)) (dx iF.1 iF.2) ?_
     exact bJ [(40,an (A6 a0 ba aT)),(39,ab (mJ a0))] trivial
    refine dp (fun h3=> ?_) (fun h3=> ?_)
    ·
     refine d_ ?_
     exact bP.normal (by simp only[fu,h3,qv,o3]<;>rfl) dU
    ·
     replace h:=h h3
     refine jf 2 ?_
     refine bP.exit ?_
     refine dO.exit ?_
     refine bT.here ?_
     refine dR.normal ?_
     refine bo [] 12 ?_
     obtain⟨kh,h⟩:=h
     refine vO 2 (some 91) [(90,.ptr 3 0 (iq ba) 0)] [.ptr 3 0 (iq ba) 0] _ (Ox ba ax hk ai U aT hi aO kh) (fun r H' U=>by obtain⟨_,_,_,rfl,_⟩:=U;rfl) ?_
     rintro r H' ⟨Ed,i14,BQ,rfl,rfl,hG⟩
     replace h:=h Ed i14 BQ hG
     refine dM [] ?_
     refine E3 (t0) [] ?_
     exact⟨Ed,i14,BQ,rfl,rfl,h⟩
   replace h:=h iV
   refine fg 3 ?_
   obtain⟨l0,h⟩:=h
   refine cc [(9,ab (h7 ba aT))] [4] (True) ?_ (fun hn=> ?_)
   ·
    replace h:=l0
    refine bo [] 9 ?_
    have iG:=h
    refine iX 4 (some 44) [(43,.ptr 3 0 (iq ba) 1),(42,.ptr 3 0 (iq ba) 0),(41,.ptr 3 0 (iq ba) 0)] (aR 4 aT hi) ba 3 1 0 (ab (h7 ba aT)) (dx iG.1 iG.2) ?_
    exact bJ [(9,ab (h7 ba aT))] trivial
   unfold OB at h
   obtain⟨ql,h⟩:=h
   refine cc [] [0,1,4] ((!(o3 a0 ba ai hi aO aT))=true) ?_ (fun kL=> ?_)
   ·
    replace h:=ql
    obtain⟨ly,h⟩:=h
    refine cc [(82,an (o3 a0 ba ai hi aO aT))] [0,1,4] (True) ?_ (fun j0=> ?_)
    ·
     replace h:=ly
     refine n9 [] 10 amt amu [] ?_
     obtain⟨lx,h⟩:=h
     refine o8 4 (some 48) [(47,.ptr 3 0 (iq ba) 2),(46,.ptr 3 0 (iq ba) 0),(45,.ptr 3 0 (iq ba) 0)] (aR 4 aT hi) ba 36 2 0 (ap ((nth hi ba)+4) 0 (nth aT ba).ah.length) (dx lx.1 lx.2) ?_
     obtain⟨⟨il,anZ⟩,h⟩:=h
     refine ym 2 (some 50) [(49,ab (h7 ba aT))] aO (nth hi ba) 4 il anZ ?_
     obtain⟨jz,h⟩:=h
     refine D9 1 (some 51) [] aO (nth hi ba) (h7 ba aT) 4 jz.1 jz.2 ?_
     refine rG 2 53 (!(nth (o2 ba hi aO) (h7 ba aT))) [(52,an (!(nth (o2 ba hi aO) (h7 ba aT))))] (fun gR=> ?_) (fun gR=> ?_)
     ·
      exact lb ([(82,an true)]++gg YW++[(66,an true),(65,an true)]++gg [64,63,62,61,60,59,58,57,56,55,54]) trivial (by simp only[fu,iV,gR,qv,o3]<;>kernel_rfl)
     ·
      replace h:=h gR
      refine HO 4 (some 57) (ap 1 0 ai.length) [(56,.ptr 0 ax 0 1),(55,.ptr 0 ax 0 0),(54,.ptr 0 ax 0 0)] (φ:=ax=ax) rfl ?_
      obtain⟨n4,h⟩:=h
      refine ux 4 (some 61) [(60,ab (h7 ba aT)),(59,bq cd a0.ak),(58,aF 3 0)] cd a0.ak 1 n4 ?_
      obtain⟨aay,h⟩:=h
      refine yl 2 (some 63) [(62,ab (sS a0 ba aT))] 1 0 1 aay ?_
      refine Bi 1 (some 64) [] aP ai (sS a0 ba aT) 4 0 0 (an (nth ai (sS a0 ba aT))) (by simpa using aay.2) ?_
      refine rG 2 66 (nth ai (sS a0 ba aT)) [(65,an (nth ai (sS a0 ba aT)))] (fun iH=> ?_) (fun iH=> ?_)
      ·
       exact lb ([(82,an true)]++gg YW) trivial (by simp only[fu,iV,gR,iH,qv,o3]<;>kernel_rfl)
      ·
       replace h:=h iH
       refine rG 5 71 (decide ((h7 ba aT)<(A4 a0))) [(70,an (decide ((h7 ba aT)<(A4 a0)))),(69,ab (A4 a0)),(68,ab (mJ a0)),(67,ab (h7 ba aT))] (fun im=> ?_) (fun im=> ?_)
       ·
        replace h:=h im
        obtain⟨oT,h⟩:=h
        refine o8 4 (some 75) [(74,.ptr 3 0 (iq ba) 2),(73,.ptr 3 0 (iq ba) 0),(72,.ptr 3 0 (iq ba) 0)] (aR 4 aT hi) ba 36 2 0 (ap ((nth hi ba)+4) 0 (nth aT ba).ah.length) (dx oT.1 oT.2) ?_
        obtain⟨⟨kM,an1⟩,h⟩:=h
        refine ym 3 (some 78) [(77,ab (o4 ba aT)),(76,ab (h7 ba aT))] aO (nth hi ba) 4 kM an1 ?_
        have nn:=h
        refine D9 1 (some 79) [] aO (nth hi ba) (o4 ba aT) 4 nn.1 nn.2 ?_
        exact lb [(82,an (!(nth (o2 ba hi aO) (o4 ba aT)))),(81,an (!(nth (o2 ba hi aO) (o4 ba aT)))),(80,an (!(nth (o2 ba hi aO) (o4 ba aT))))] trivial (by simp only[fu,iV,gR,iH,im,qv,o3]<;>kernel_rfl)
       ·
        exact lb ([(82,an false),(81,an false)]++gg [80,79,78,77,76,75,74,73,72]) trivial (by simp only[fu,iV,gR,iH,im,qv,o3]<;>kernel_rfl)
    refine dp (fun jA=> ?_) (fun jA=> ?_)
    ·
     replace h:=h jA
     refine hh ?_
     refine bP.ret ?_
     refine bT.ret ?_
     refine dO.ret ?_
     refine bT.ret ?_
     refine dR.ret ?_
     refine mG (t0) [] ?_
     exact⟨aT,hi,aO,rfl,rfl,h⟩
    ·
     refine d_ ?_
     exact bP.normal (by simp only[fu,iV,jA,qv,o3]<;>rfl) dU
   replace h:=h kL
   unfold OA at h
   refine bo [] 11 ?_
   obtain⟨gS,h⟩:=h
   refine iX 4 (some 86) [(85,.ptr 3 0 (iq ba) 1),(84,.ptr 3 0 (iq ba) 0),(83,.ptr 3 0 (iq ba) 0)] (aR 4 aT hi) ba 3 1 0 (ab (h7 ba aT)) (dx gS.1 gS.2) ?_
   obtain⟨lz,h⟩:=h
   refine ki 4 none [(89,.ptr 3 0 (iq ba) 1),(88,.ptr 3 0 (iq ba) 0),(87,ab (o4 ba aT))] (aR 4 aT hi) ba 1 1 0 [ab (o4 ba aT)] 3 (aR 4 (v_ ba aT) hi) (dx lz.1 lz.2) (kw lz.1 lz.2) ?_
   refine dM [] ?_
   refine bT.normal ?_
   exact dO.again (v_ ba aT) h (hg (s':=⟨(bd 92 (HB a0 ba ax)),[(3,(da false a0))],(⟨ax,4,[[an hk,ap 1 0 ai.length,ap 2 0 U.length,ap 3 0 aT.length]]⟩::⟨0,1,List.map aP ai⟩::⟨0,2,List.map a1 U⟩::⟨0,5,aR 4 (v_ ba aT) hi⟩::List.map bh aO)⟩) (di (n:=92) (A':=(HB a0 ba ax)) (L':=[(3,(da false a0))]) []) (congrArg (fun z=>(⟨(bd 92 (HB a0 ba ax)),[(3,(da false a0))],(⟨ax,4,[[an hk,ap 1 0 ai.length,ap 2 0 U.length,ap 3 0 z]]⟩::⟨0,1,List.map aP ai⟩::⟨0,2,List.map a1 U⟩::⟨0,5,aR 4 (v_ ba aT) hi⟩::List.map bh aO)⟩:St)) (show aT.length=(v_ ba aT).length by simp)))
 replace h:=h fH
 unfold OD at h
 obtain⟨nq,h⟩:=h
 obtain⟨yt,lA⟩: ∃w:List (List Bool),(qv a0 ba ai hi aO cV)=w:=⟨_,rfl⟩
 refine eU [] [7] id (fun _=>(⟨ax,4,[(HA hk ai U hw)]⟩::⟨0,1,List.map aP ai⟩::⟨0,2,List.map a1 U⟩::⟨0,5,aR 4 hw hi⟩::List.map bh yt)) (True) ?_ (fun oU=> ?_)
 ·
  replace h:=nq
  refine fg 1 ?_
  obtain⟨l1,h⟩:=h
  refine cc [(7,ab cV),(8,ab (nth a0.ak cV))] [7] (True) ?_ (fun mE=> ?_)
  ·
   replace h:=l1
   refine bo [] 4 ?_
   have np:=h
   refine lC 2 (some 19) [(18,ab cV)] cd a0.ak 1 np ?_
   exact bJ [(8,ab (nth a0.ak cV)),(7,ab cV),(20,ab (nth a0.ak cV))] trivial
  obtain⟨ud,h⟩:=h
  refine cc [(27,an (nth ai (nth a0.ak cV)))] [1,1,7] (True) ?_ (fun n5=> ?_)
  ·
   replace h:=ud
   refine bo [] 5 ?_
   refine oX 4 (some 24) (ap 1 0 ai.length) [(23,.ptr 0 ax 0 1),(22,.ptr 0 ax 0 0),(21,.ptr 0 ax 0 0)] (φ:=ax=ax) rfl ?_
   have aaq:=h
   refine l3 2 (some 26) [(25,ab (nth a0.ak cV))] 1 0 1 aaq ?_
   refine XG 1 (some 27) [] aP ai (nth a0.ak cV) 4 0 0 (an (nth ai (nth a0.ak cV))) (by simpa using aaq.2) ?_
   exact bJ [] trivial
  refine dp (fun n6=> ?_) (fun n6=> ?_)
  ·
   replace h:=h n6
   refine bo [] 6 ?_
   obtain⟨jC,h⟩:=h
   refine iX 4 (some 31) [(30,.ptr 3 0 (iq ba) 2),(29,.ptr 3 0 (iq ba) 0),(28,.ptr 3 0 (iq ba) 0)] (aR 4 hw hi) ba 36 2 0 (ap ((nth hi ba)+4) 0 (nth hw ba).ah.length) (dx jC.1 jC.2) ?_
   obtain⟨⟨rv,anY⟩,h⟩:=h
   refine akH 2 (some 33) [(32,ab cV)] aO (nth hi ba) 4 rv anY ?_
   have mF:=h
   refine akL 1 none [] aO (nth hi ba) cV true (fun r=>(⟨ax,4,[(HA hk ai U hw)]⟩::⟨0,1,List.map aP ai⟩::⟨0,2,List.map a1 U⟩::⟨0,5,aR 4 hw hi⟩::r)) mF.1 mF.2 ?_
   refine dM [] ?_
   refine bT.normal ?_
   exact bP.normal trivial (by simp only[←lA,fH,n6,cond_true,cond_false,qv,o3];exact dU)
  ·
   refine d_ ?_
   refine bT.normal ?_
   exact bP.normal trivial (by simp only[←lA,fH,n6,cond_true,cond_false,qv,o3];exact dU)
 replace h:=h yt lA
 refine bo [] 7 ?_
 refine dM [(16,ab (A5 cV)),(34,ab (A5 cV))] ?_
 exact dO.again (yt,(A5 cV)) h (di [])
theorem amr (a0:Way) (ba:Int) (ax:Nat) (hk:Bool) (ai:List Bool) (U:List bx) (hw:List aq) (hi:List Nat) (hb:List (List Bool)) (ae:WD a0 ba hk ai U hw hi hb):c0 Tryz.prog 100 [.agg (da false a0),.ptr 0 ax 0 0,.ptr 3 0 (iq ba) 0] (OE hk ai U hw hi hb ax) (fun r H'=> ∃(eI:List aq) (fC:List Nat) (dL:List (List Bool)),r= .tup []∧H'=(⟨ax,4,[[an hk,ap 1 0 ai.length,ap 2 0 U.length,ap 3 0 eI.length]]⟩::⟨0,1,List.map aP ai⟩::⟨0,2,List.map a1 U⟩::⟨0,5,aR 4 eI fC⟩::List.map bh dL)∧Dh a0 ba hk ai U hw hi hb ai U eI fC dL):=amv a0 ba ax hk ai U hw hi hb (ajS a0.ak (cE hk ai U hw hi hb) (view hw hi hb) hi ba hw) (fun _ k=>cg a0.ak.length k) (fun bs _ ws=>ajT a0.ak (cE hk ai U hw hi hb) (view hw hi hb) hi ba bs ws) (fun _ _ ws=>((a0.ak.length:Int) - (nth ws ba).a7).toNat) (by
 unfold Oz mJ
 obtain⟨F,az,h1,hs,tG,hQ,tw,mn⟩:=ae
 have aQ:ba.toNat<hw.length:=by omega
 have dd:=F.at' aQ
 have JO: ∀k:Int,0≤k→k.toNat<a0.ak.length→0≤nth a0.ak k∧(nth a0.ak k).toNat<ai.length:=fun k aZ dk=>by
  have:=tG _ (dz dk);omega
 intro ag
 refine⟨⟨cT (cN _),by rw[Int.toNat_zero,Z6];exact dd⟩,fun bs k aJ=>⟨fun FI=> ?_,fun FI=> ?_⟩⟩
 ·obtain⟨aJ,eo⟩:=aJ
  have kz: ¬k<(a0.ak.length:Int):=by simpa using FI
  have aZ:=aJ.1
  rw[Z8 hQ (by omega)] at eo
  have zm:(oR a0.ak (cE hk ai U hw hi hb) (nth (view hw hi hb) ba)).length=a0.ak.length:=by unfold oR;rw[List.length_zipWith];omega
  refine⟨⟨(nth (view hw hi hb) ba).a7,RC tw mn,eo⟩,fun ws cP=> ?_⟩
  obtain⟨g,u1,fY⟩:=cP
  unfold OC uu A6 mJ h7
  have aW:(nth ws ba).a7=g:=fY.a7
  have e2:bs.getD (nth hi ba) []=oR a0.ak (cE hk ai U hw hi hb) (nth (view hw hi hb) ba):=fY.ah
  have cF:(nth ws ba).ah.length=a0.ak.length:=fY.rU.trans zm
  have JX:=u1
  obtain⟨g0,g1,-⟩:=JX
  have kA:=fY.fo
  have hid:=fY.sn
  have bp:IntKind.i64.wrap ((a0.ak.length:Int) - 1)=(a0.ak.length:Int) - 1:=j6 (by omega) (by omega)
  rw[aW]
  refine⟨⟨kA,fun hc=>⟨⟨fY.G,az,by omega⟩,fun w i b kD=> ?_⟩⟩,fun hc=>⟨kA,?_⟩⟩
  ·obtain⟨G,hv⟩:=kD
   have oq:=fY.again G hv
   refine⟨oq.G,?_⟩
   rw[oq.ht,fY.Aj]
   have f_:oA a0.ak (cE hk ai U hw hi hb) (oR a0.ak (cE hk ai U hw hi hb) (nth (view hw hi hb) ba)) g=false:=by unfold oA;rw[hc];rfl
   have iB:=Jy hs u1 f_
   have FC: ¬g<(a0.ak.length:Int):=by simpa using hc
   congr 1
   rw[WB,if_pos (by omega),zm]
  ·have Sn:g<(a0.ak.length:Int):=by simpa using hc
   unfold OB uu o3 A4 mJ o2 sS o4 h7
   rw[aW,e2,cF]
   have R7:=anf (f:=cE hk ai U hw hi hb) (ah:=oR a0.ak (cE hk ai U hw hi hb) (nth (view hw hi hb) ba)) hs hc
   refine⟨⟨⟨kA,⟨hid,g0,by omega⟩,⟨hid,by omega⟩,fun _=>⟨⟨g0,by omega⟩,JO g g0 (by omega),fun _ aw=>⟨kA,?_⟩⟩⟩,fun afI=> ?_⟩,fun u2=> ?_⟩
   ·rw[bp] at aw
    have aw:g<(a0.ak.length:Int) - 1:=by simpa using aw
    rw[j6 (by omega) (by omega)]
    exact⟨⟨hid,by omega,by omega⟩,hid,by omega⟩
   ·have aS:oA a0.ak (cE hk ai U hw hi hb) (oR a0.ak (cE hk ai U hw hi hb) (nth (view hw hi hb) ba)) g=false:=by
     have h2:(!oA a0.ak (cE hk ai U hw hi hb) (oR a0.ak (cE hk ai U hw hi hb) (nth (view hw hi hb) ba)) g)=true:=R7.symm.trans afI
     simpa using h2
    have iB:=Jy hs u1 aS
    refine⟨fY.G,?_⟩
    rw[fY.ht]
    congr 1
    rw[WB,if_neg (by omega),iB]
   ·have aS:oA a0.ak (cE hk ai U hw hi hb) (oR a0.ak (cE hk ai U hw hi hb) (nth (view hw hi hb) ba)) g=true:=by
     have h2:(!oA a0.ak (cE hk ai U hw hi hb) (oR a0.ak (cE hk ai U hw hi hb) (nth (view hw hi hb) ba)) g)=false:=R7.symm.trans (not_eq u2)
     simpa using h2
    obtain⟨aS,_⟩:=RD hs u1 aS
    unfold OA uu v_ o4 h7
    rw[aW]
    have bn:IntKind.i64.wrap (g+1)=g+1:=j6 (by omega) (by omega)
    have BF:=fY.XM (IntKind.i64.wrap (g+1))
    refine⟨kA,kA,⟨_,aS,BF⟩,?_⟩
    have hO:=BF.a7
    show((a0.ak.length:Int) - (nth (ws.set ba.toNat _) ba).a7).toNat<((a0.ak.length:Int) - (nth ws ba).a7).toNat
    rw[hO,aW]
    show((a0.ak.length:Int) - IntKind.i64.wrap (g+1)).toNat<_
    rw[bn];omega
 ·obtain⟨aJ,eo⟩:=aJ
  have mo:k<(a0.ak.length:Int):=by simpa using FI
  have aZ:=aJ.1
  have FX:(kj a0.ak (cE hk ai U hw hi hb) (nth (view hw hi hb) ba).ah k.toNat).length=a0.ak.length:=by rw[Pr hQ (by omega),hQ]
  have e2:bs.getD (nth hi ba) []=kj a0.ak (cE hk ai U hw hi hb) (nth (view hw hi hb) ba).ah k.toNat:=eo.ah
  have cF:(nth hw ba).ah.length=a0.ak.length:=eo.rU.trans FX
  have hid:=eo.sn
  unfold OD qv A5 o2
  rw[e2]
  refine⟨⟨⟨aZ,by omega⟩,JO k aZ (by omega),fun _=>⟨eo.fo,⟨hid,aZ,by omega⟩,hid,by omega⟩⟩,fun w eI=> ?_⟩
  have aS:=cw (b5 ag) aJ FI rfl
  refine⟨⟨aS.1,?_⟩,aS.2⟩
  rw[hL (b5 ag) aZ mo,show(k+1).toNat=k.toNat+1 by omega,←Z9 hQ (by omega),←eI]
  have q5:=Z7 (s:=a0.ak) (f:=cE hk ai U hw hi hb) (b:=(nth (view hw hi hb) ba).ah) hQ (show k.toNat<_ by omega)
  rw[kH aZ] at q5
  have nS:nth ai (nth a0.ak k)=eb (cE hk ai U hw hi hb) (a0.ak[k.toNat]'(by omega)):=by
   unfold eb
   rw[←fU (by omega)];rfl
  rw[nS]
  cases gm:eb (cE hk ai U hw hi hb) (a0.ak[k.toNat]'(by omega)) with
  | true=>
   rw[Bool.or_true]
   exact eo.M_ _ (by rw[List.length_set])
  | false=>
   rw[Bool.or_false]
   have:(kj a0.ak (cE hk ai U hw hi hb) (nth (view hw hi hb) ba).ah k.toNat).set k.toNat ((nth (view hw hi hb) ba).ah[k.toNat]'(by omega))=kj a0.ak (cE hk ai U hw hi hb) (nth (view hw hi hb) ba).ah k.toNat:=by
    rw[←q5,fU (xs:=kj _ _ _ _) (by rw[FX];omega)];exact List.set_getElem_self _
   rw[this];exact eo)
end
section
variable (ad:jK Prop) (m0:jK Nat) (a0:aC) (hk:Bool) (ai:List Bool) (U:List bx) (hw:List aq) (hi:List Nat) (hb aO:List (List Bool)) (bM:List Nat) (v12:Int) (aT iK dn:List aq) (ax:Nat)
abbrev mK:=dn.set v12.toNat (aq.mk 1 (nth dn v12).a7 (nth dn v12).ah (nth dn v12).bI (nth dn v12).bG)
abbrev qw:=(mK v12 dn).set v12.toNat (aq.mk 2 (nth (mK v12 dn) v12).a7 (nth (mK v12 dn) v12).ah (nth (mK v12 dn) v12).bI (nth (mK v12 dn) v12).bG)
abbrev rF:=aT.set v12.toNat (aq.mk 4 (nth aT v12).a7 (nth aT v12).ah (nth aT v12).bI (nth aT v12).bG)
abbrev ye:=Frame.mk hk ai U (view (mK v12 dn) bM aO)
abbrev OZ:List Blk:=(⟨ax,4,[[an hk,ap 1 0 ai.length,ap 2 0 U.length,ap 3 0 hw.length]]⟩::⟨0,1,List.map aP ai⟩::⟨0,2,List.map a1 U⟩::⟨0,5,aR 4 hw hi⟩::List.map bh hb)
abbrev o6:=IntKind.i64.wrap (v12+1)
abbrev we:=nth (nth a0.O v12).ak 0
abbrev nw:=((nth aT v12).ar !=4)&&(nth ai (we a0 v12))
abbrev O0:=(qw v12 dn).set v12.toNat (aq.mk (nth (qw v12 dn) v12).ar (nth (qw v12 dn) v12).a7 (nth (qw v12 dn) v12).ah true (nth (qw v12 dn) v12).bG)
abbrev HC:=(rF v12 aT).set v12.toNat (aq.mk (nth (rF v12 aT) v12).ar (nth (rF v12 aT) v12).a7 (nth (rF v12 aT) v12).ah (nth (rF v12 aT) v12).bI 0)
abbrev og:=((nth dn v12).ar==1) || ((nth dn v12).ar==2)
abbrev gH:=0+v12.toNat
abbrev OW:List (Nat×AV):=[(1,.ptr 0 ax 0 0),(2,aF 2 0),(11,ab (hw.length:Int)),(12,ab (o6 v12))]
abbrev OX:List AV:=[an hk,ap 1 0 ai.length,ap 2 0 U.length,ap 3 0 aT.length]
abbrev o5:=bif (og v12 dn) then(bif (gD a0 (ye hk ai U aO bM v12 dn) v12) then(O0 v12 dn) else(mK v12 dn)) else dn
abbrev A8:=(nth aT v12).ar==0
abbrev OY:List (Nat×AV):=[(12,ab (o6 v12)),(90,ab (o6 v12))]
abbrev D0:=decide (v12<(hw.length:Int))
noncomputable def amH:Code:=iP Tryz.f64
def amK:List Item:=(List.range 17).map bV
def amL:List (List Nat):=[[],[0],[0,1],[0,1,2],rg 0 4,rg 0 5,rg 0 6,rg 0 7,rg 0 8,rg 0 9,rg 0 6,rg 0 6++[10],rg 0 6++[10,11],rg 0 6++[10,11,12],rg 0 14,rg 0 15,rg 0 16]
def amI:List Item:=(List.range 6).map bV
def amJ:List (List Nat):=[[],[],[1],[1,2],[],rg 0 5]
def OO:Prop:=
  (nw a0 ai v12 aT)=true→(aT.length=bM.length∧v12.toNat<aT.length)∧((rF v12 aT).length=bM.length∧v12.toNat<(rF v12 aT).length)
def OP:Prop:=
  (qw v12 dn).length=bM.length∧v12.toNat<(qw v12 dn).length
def OQ:Prop:=
  (gD a0 (ye hk ai U aO bM v12 dn) v12)=true→((mK v12 dn).length=bM.length∧v12.toNat<(mK v12 dn).length)∧(OP bM v12 dn)
def OR:Prop:=
  (ai.length≤4611686018427387904∧U.length≤4611686018427387904∧(kQ (mK v12 dn) bM aO∧(mK v12 dn).length≤4611686018427387904∧(∀x∈aO,List.length x≤4611686018427387904))∧Au a0 (ye hk ai U aO bM v12 dn) v12)∧(OQ a0 hk ai U aO bM v12 dn)
def OS:Prop:=
  (((nth iK v12).ar==4)=true→(WD (nth a0.O v12) v12 hk ai U iK bM aO)∧(∀(Bz:List aq) (i55:List Nat) (yP:List (List Bool)),Dh (nth a0.O v12) v12 hk ai U iK bM aO ai U Bz i55 yP→(ad yP i55 (o6 v12) Bz∧m0 yP i55 (o6 v12) Bz<m0 aO bM v12 aT)))∧(((nth iK v12).ar==4)=false→ad aO bM (o6 v12) iK∧m0 aO bM (o6 v12) iK<m0 aO bM v12 aT)
def OT:Prop:=
  (((dn.length=bM.length∧v12.toNat<dn.length)∧(((nth dn v12).ar==1)=false→dn.length=bM.length∧v12.toNat<dn.length))∧((og v12 dn)=true→(dn.length=bM.length∧v12.toNat<dn.length)∧(OR a0 hk ai U aO bM v12 dn)))∧(∀iK:List aq,(o5 a0 hk ai U aO bM v12 dn)=iK→((iK.length=bM.length∧v12.toNat<iK.length)∧(OS ad m0 a0 hk ai U aO bM v12 aT iK)))
def OU:Prop:=
  (((aT.length=bM.length∧v12.toNat<aT.length)∧(((nth aT v12).ar !=4)=true→((0:Int)≤0∧(0:Int).toNat<(nth a0.O v12).ak.length)∧(0≤(we a0 v12)∧(we a0 v12).toNat<ai.length)))∧(OO a0 ai bM v12 aT))∧(∀dn:List aq,(bif (nw a0 ai v12 aT) then(HC v12 aT) else aT)=dn→(OT ad m0 a0 hk ai U aO bM v12 aT dn))
def OV:Prop:=
  ((D0 hw v12)=false→DF a0 hk ai U hw hi hb ai U aT bM aO)∧((D0 hw v12)=true→(0≤v12∧v12.toNat<aT.length)∧((0≤v12∧v12.toNat<a0.O.length)∧(((aT.length=bM.length∧v12.toNat<aT.length)∧((A8 v12 aT)=true→ad aO bM (o6 v12) aT∧m0 aO bM (o6 v12) aT<m0 aO bM v12 aT))∧((!(A8 v12 aT))=true→OU ad m0 a0 hk ai U aO bM v12 aT))))
def ON (a0:aC) (ax:Nat) (hk:Bool) (ai:List Bool) (U:List bx) (hw:List aq) (hi:List Nat) (hb:List (List Bool)) (ad:jK Prop) (m0:jK Nat):Prop:=
 ad hb hi 0 hw∧ ∀(aO:List (List Bool)) (bM:List Nat) (v12:Int) (aT:List aq),ad aO bM v12 aT→(OV ad m0 a0 hk ai U hw hi hb aO bM v12 aT)
theorem amM (a0:aC) (ax:Nat) (hk:Bool) (ai:List Bool) (U:List bx) (hw:List aq) (hi:List Nat) (hb:List (List Bool)) (ad:jK Prop) (m0:jK Nat) (h:ON a0 ax hk ai U hw hi hb ad m0):c0 Tryz.prog 64 [.agg (bA false a0),.ptr 0 ax 0 0] (OZ hk ai U hw hi hb ax) (fun r H'=> ∃(eI:List aq) (fC:List Nat) (dL:List (List Bool)),r= .tup []∧H'=(⟨ax,4,[[an hk,ap 1 0 ai.length,ap 2 0 U.length,ap 3 0 eI.length]]⟩::⟨0,1,List.map aP ai⟩::⟨0,2,List.map a1 U⟩::⟨0,5,aR 4 eI fC⟩::List.map bh dL)∧DF a0 hk ai U hw hi hb ai U eI fC dL):=by
 unfold ON at h
 refine c0.go (fn:=Tryz.f64) [(0,.agg (bA false a0)),(1,.ptr 0 ax 0 0)] Tryz.func64 (fun _ _=> ?_)
 show WpS _ (bB amH 1) _ ⟨bd 91 [(0,.agg (bA false a0)),(1,.ptr 0 ax 0 0)],[],(OZ hk ai U hw hi hb ax)⟩
 refine uR [] 0 [(2,aF 2 0)] [1] [0,1,1] (fun L=>(2,(bA false a0))::L) id ?_
 refine cc [(11,ab (hw.length:Int)),(12,ab 0)] [2] (True) ?_ (fun q2=> ?_)
 ·
  refine bo [] 1 ?_
  refine oX 4 (some 10) (ap 3 0 hw.length) [(9,.ptr 0 ax 0 3),(8,.ptr 0 ax 0 0),(7,.ptr 0 ax 0 0)] (φ:=ax=ax) rfl ?_
  exact bJ [(12,ab 0),(11,ab (hw.length:Int))] trivial
 refine fg 0 ?_
 obtain⟨k9,h⟩:=h
 refine kq (fun(v:List (List Bool)×List Nat×Int×List aq)=>(⟨(bd 91 [(1,.ptr 0 ax 0 0),(2,aF 2 0),(11,ab (hw.length:Int)),(12,ab (v.2.2.1))]),[(2,(bA false a0))],(⟨ax,4,[[an hk,ap 1 0 ai.length,ap 2 0 U.length,ap 3 0 (v.2.2.2).length]]⟩::⟨0,1,List.map aP ai⟩::⟨0,2,List.map a1 U⟩::⟨0,5,aR 4 (v.2.2.2) (v.2.1)⟩::List.map bh (v.1))⟩:St)) (fun(v:List (List Bool)×List Nat×Int×List aq)=>ad (v.1) (v.2.1) (v.2.2.1) (v.2.2.2)) (fun(v:List (List Bool)×List Nat×Int×List aq)=>m0 (v.1) (v.2.1) (v.2.2.1) (v.2.2.2)) (hb,hi,0,hw) (di []) k9 (fun v aJ=> ?_)
 obtain⟨aO,bM,v12,aT⟩:=v
 replace h:=h aO bM v12 aT aJ
 dsimp only
 refine dY [] 2 [(13,an (D0 hw v12))] [1] [4] ?_
 unfold OV at h
 obtain⟨n7,h⟩:=h
 refine cc [] [0,1,4] ((D0 hw v12)=true) ?_ (fun q4=> ?_)
 ·
  replace h:=n7
  refine dp (fun cs=> ?_) (fun cs=> ?_)
  ·
   refine d_ ?_
   exact bP.normal (by simp only[cs,o5,og,nw]<;>rfl) dU
  ·
   replace h:=h cs
   refine jf 0 ?_
   refine bP.exit ?_
   refine dO.exit ?_
   refine bT.here ?_
   refine E3 (t0) [] ?_
   exact⟨aT,bM,aO,rfl,rfl,h⟩
 replace h:=h q4
 refine hz ?_
 refine fg 1 ?_
 refine dY [] 3 [(4,ab v12),(14,ab v12)] [1] [4] ?_
 obtain⟨oV,h⟩:=h
 refine cc [(5,.ptr 3 0 (gH v12) 0)] [5] (True) ?_ (fun fH=> ?_)
 ·
  replace h:=oV
  refine bo [] 4 ?_
  refine oX 4 (some 18) (ap 3 0 aT.length) [(17,.ptr 0 ax 0 3),(16,.ptr 0 ax 0 0),(15,.ptr 0 ax 0 0)] (φ:=ax=ax) rfl ?_
  have anU:=h
  refine l3 2 (some 20) [(19,ab v12)] 3 0 5 anU ?_
  exact bJ [(5,.ptr 3 0 (gH v12) 0)] trivial
 obtain⟨pL,h⟩:=h
 refine eU [(6,aF 6 0)] [6] (fun L=>(6,(da false (nth a0.O v12)))::L) id (True) ?_ (fun fu=> ?_)
 ·
  replace h:=pL
  refine bo [] 5 ?_
  have iV:=h
  refine lC 4 (some 24) [(23,ab v12),(22,bq (da false) a0.O),(21,aF 2 2)] (da false) a0.O 5 iV ?_
  exact bJ [(6,aF 6 0),(25,.agg (da false (nth a0.O v12)))] trivial
 obtain⟨pK,h⟩:=h
 refine cc [] [7] ((!(A8 v12 aT))=true) ?_ (fun gG=> ?_)
 ·
  replace h:=pK
  obtain⟨sG,h⟩:=h
  refine cc [(30,an (A8 v12 aT))] [7] (True) ?_ (fun iF=> ?_)
  ·
   replace h:=sG
   refine bo [] 6 ?_
   have h3:=h
   refine iX 4 (some 29) [(28,.ptr 3 0 (gH v12) 0),(27,.ptr 3 0 (gH v12) 0),(26,.ptr 3 0 (gH v12) 0)] (aR 4 aT bM) v12 3 0 0 (ab (nth aT v12).ar) (dx h3.1 h3.2) ?_
   exact bJ [(30,an (A8 v12 aT))] trivial
  refine dp (fun fA=> ?_) (fun fA=> ?_)
  ·
   replace h:=h fA
   refine jf 1 ?_
   refine bP.exit ?_
   refine bT.here ?_
   refine dR.normal ?_
   refine bo [] 17 ?_
   refine dM (OY v12) ?_
   exact dO.again (aO,bM,(o6 v12),aT) h (di [6])
  ·
   refine d_ ?_
   exact bP.normal (by simp only[q4,fA,o5,og,nw]<;>rfl) dU
 replace h:=h gG
 unfold OU at h
 obtain⟨pJ,h⟩:=h
 obtain⟨dn,hG⟩: ∃w:List aq,(bif (nw a0 ai v12 aT) then(HC v12 aT) else aT)=w:=⟨_,rfl⟩
 refine eU [] [7] id (fun H=>eh 3 ⟨0,5,aR 4 dn bM⟩ H) (True) ?_ (fun jn=> ?_)
 ·
  replace h:=pJ
  obtain⟨kM,h⟩:=h
  refine cc [(47,an (nw a0 ai v12 aT))] [7] (True) ?_ (fun mC=> ?_)
  ·
   replace h:=kM
   refine n9 [] 7 amK amL [] ?_
   obtain⟨kL,h⟩:=h
   refine o8 4 (some 34) [(33,.ptr 3 0 (gH v12) 0),(32,.ptr 3 0 (gH v12) 0),(31,.ptr 3 0 (gH v12) 0)] (aR 4 aT bM) v12 3 0 0 (ab (nth aT v12).ar) (dx kL.1 kL.2) ?_
   refine rG 2 36 ((nth aT v12).ar !=4) [(35,an ((nth aT v12).ar !=4))] (fun hn=> ?_) (fun hn=> ?_)
   ·
    replace h:=h hn
    refine HO 4 (some 40) (ap 1 0 ai.length) [(39,.ptr 0 ax 0 1),(38,.ptr 0 ax 0 0),(37,.ptr 0 ax 0 0)] (φ:=ax=ax) rfl ?_
    obtain⟨iG,h⟩:=h
    refine ux 3 (some 43) [(42,bq cd (nth a0.O v12).ak),(41,aF 6 0)] cd (nth a0.O v12).ak 1 iG ?_
    have aat:=h
    refine yl 2 (some 45) [(44,ab (we a0 v12))] 1 0 1 aat ?_
    refine Bi 1 (some 46) [] aP ai (we a0 v12) 4 0 0 (an (nth ai (we a0 v12))) (by simpa using aat.2) ?_
    exact lb [(47,an (nth ai (we a0 v12)))] trivial (by simp only[q4,gG,hn,o5,og,nw]<;>kernel_rfl)
   ·
    exact lb ([(47,an false)]++gg [46,45,44,43,42,41,40,39,38,37]) trivial (by simp only[q4,gG,hn,o5,og,nw]<;>kernel_rfl)
  unfold OO at h
  refine dp (fun j0=> ?_) (fun j0=> ?_)
  ·
   replace h:=h j0
   obtain⟨im,h⟩:=h
   refine eU [] [0,1,7] id (fun H=>eh 3 ⟨0,5,aR 4 (rF v12 aT) bM⟩ H) (True) ?_ (fun il=> ?_)
   ·
    replace h:=im
    refine bo [] 8 ?_
    have gR:=h
    refine ki 4 none [(50,.ptr 3 0 (gH v12) 0),(49,.ptr 3 0 (gH v12) 0),(48,.ptr 3 0 (gH v12) 0)] (aR 4 aT bM) v12 0 1 0 [ab 4] 3 (aR 4 (rF v12 aT) bM) (dx gR.1 gR.2) (kw gR.1 gR.2) ?_
    exact bJ [] trivial
   refine bo [] 9 ?_
   have iH:=h
   refine ki 4 none [(53,.ptr 3 0 (gH v12) 4),(52,.ptr 3 0 (gH v12) 0),(51,.ptr 3 0 (gH v12) 0)] (aR 4 (rF v12 aT) bM) v12 4 1 0 [ab 0] 3 (aR 4 (HC v12 aT) bM) (dx iH.1 iH.2) (kw iH.1 iH.2) ?_
   refine dM [] ?_
   exact bP.normal trivial (by simp only[←hG,q4,gG,j0,cond_true,cond_false,o5,og,nw];exact dU)
  ·
   refine d_ ?_
   exact bP.normal trivial (by simp only[←hG,q4,gG,j0,cond_true,cond_false,o5,og,nw];exact dU)
 replace h:=h dn hG
 have zt:dn.length=aT.length:=by rw[←hG];repeat' apply C1;all_goals simp
 unfold OT at h
 obtain⟨Ax,h⟩:=h
 obtain⟨iK,n4⟩: ∃w:List aq,(o5 a0 hk ai U aO bM v12 dn)=w:=⟨_,rfl⟩
 refine eU [] [2,1,4] id (fun H=>eh 3 ⟨0,5,aR 4 iK bM⟩ H) (True) ?_ (fun nn=> ?_)
 ·
  replace h:=Ax
  obtain⟨jC,h⟩:=h
  refine cc [(65,an (og v12 dn))] [7] (True) ?_ (fun jz=> ?_)
  ·
   replace h:=jC
   refine bo [] 10 ?_
   obtain⟨ly,h⟩:=h
   refine iX 4 (some 57) [(56,.ptr 3 0 (gH v12) 0),(55,.ptr 3 0 (gH v12) 0),(54,.ptr 3 0 (gH v12) 0)] (aR 4 dn bM) v12 3 0 0 (ab (nth dn v12).ar) (dx ly.1 ly.2) ?_
   refine oY 2 59 ((nth dn v12).ar==1) [(58,an ((nth dn v12).ar==1))] (fun lx=> ?_) (fun lx=> ?_)
   ·
    exact bJ ([(65,an true)]++gg [64,63,62,61,60]) trivial (by simp only[q4,gG,lx,o5,og,nw]<;>kernel_rfl)
   ·
    replace h:=h lx
    have jA:=h
    refine iX 4 (some 63) [(62,.ptr 3 0 (gH v12) 0),(61,.ptr 3 0 (gH v12) 0),(60,.ptr 3 0 (gH v12) 0)] (aR 4 dn bM) v12 3 0 0 (ab (nth dn v12).ar) (dx jA.1 jA.2) ?_
    exact bJ [(65,an ((nth dn v12).ar==2)),(64,an ((nth dn v12).ar==2))] trivial (by simp only[q4,gG,lx,o5,og,nw]<;>kernel_rfl)
  refine dp (fun lz=> ?_) (fun lz=> ?_)
  ·
   replace h:=h lz
   obtain⟨mF,h⟩:=h
   refine eU [] [0,1,7] id (fun H=>eh 3 ⟨0,5,aR 4 (mK v12 dn) bM⟩ H) (True) ?_ (fun gS=> ?_)
   ·
    replace h:=mF
    refine bo [] 11 ?_
    have ql:=h
    refine ki 4 none [(68,.ptr 3 0 (gH v12) 0),(67,.ptr 3 0 (gH v12) 0),(66,.ptr 3 0 (gH v12) 0)] (aR 4 dn bM) v12 0 1 0 [ab 1] 3 (aR 4 (mK v12 dn) bM) (dx ql.1 ql.2) (kw ql.1 ql.2) ?_
    exact bJ [] trivial
   unfold OR at h
   obtain⟨rv,h⟩:=h
   refine cc [(74,an (gD a0 (ye hk ai U aO bM v12 dn) v12))] [2,1,4] (True) ?_ (fun l0=> ?_)
   ·
    replace h:=rv
    refine n9 [] 12 amI amJ [] ?_
    refine HO 4 (some 72) (.agg (OX hk ai U aT)) [(71,.ptr 0 ax 0 0),(70,.ptr 0 ax 0 0),(69,.agg (bA false a0))] (φ:=ax=ax) rfl ?_
    obtain⟨ru,jB,oU,mD⟩:=h
    refine ZU 2 (some 74) [(73,ab v12)] [.agg (bA false a0),.agg (OX hk ai U aT),ab v12] (amw a0 (ye hk ai U aO bM v12 dn) v12 mD) (af.cons (cL.agg (af.cons (.int _ _) (af.cons cj (af.cons cj (af.cons cj (af.cons (.int _ _) af.nil)))))) (af.cons (cL.agg (af.cons (.bool _) (af.cons (n_ (sz:=1) (by simp[zt]) rfl (vc) ru) (af.cons (n_ (sz:=2) (by simp[zt]) rfl (xg) jB) (af.cons (vR (s:=4) (ws:=(mK v12 dn)) (ids:=bM) (bs:=aO) (by simp[zt]) rfl (fun id k h=>by simpa using h) oU.1 oU.2.1 oU.2.2) af.nil))))) (af.cons (cL.hW (.int _ _)) af.nil))) ?_
    exact lb [] trivial
   unfold OQ at h
   refine dp (fun lA=> ?_) (fun lA=> ?_)
   ·
    replace h:=h lA
    obtain⟨n6,h⟩:=h
    refine eU [] [0,1,6] id (fun H=>eh 3 ⟨0,5,aR 4 (qw v12 dn) bM⟩ H) (True) ?_ (fun mE=> ?_)
    ·
     replace h:=n6
     refine bo [] 13 ?_
     have np:=h
     refine ki 4 none [(77,.ptr 3 0 (gH v12) 0),(76,.ptr 3 0 (gH v12) 0),(75,.ptr 3 0 (gH v12) 0)] (aR 4 (mK v12 dn) bM) v12 0 1 0 [ab 2] 3 (aR 4 (qw v12 dn) bM) (dx np.1 np.2) (kw np.1 np.2) ?_
     exact bJ [] trivial
    unfold OP at h
    refine bo [] 14 ?_
    have n5:=h
    refine ki 4 none [(80,.ptr 3 0 (gH v12) 3),(79,.ptr 3 0 (gH v12) 0),(78,.ptr 3 0 (gH v12) 0)] (aR 4 (qw v12 dn) bM) v12 3 1 0 [an true] 3 (aR 4 (O0 v12 dn) bM) (dx n5.1 n5.2) (kw n5.1 n5.2) ?_
    refine dM [] ?_
    exact bP.normal trivial (by simp only[←n4,q4,gG,lz,lA,cond_true,cond_false,o5,og,nw];exact dU)
   ·
    refine d_ ?_
    exact bP.normal trivial (by simp only[←n4,q4,gG,lz,lA,cond_true,cond_false,o5,og,nw];exact dU)
  ·
   refine d_ ?_
   exact bP.normal trivial (by simp only[←n4,q4,gG,lz,cond_true,cond_false,o5,og,nw];exact dU)
 replace h:=h iK n4
 have SC:iK.length=aT.length:=by rw[←n4];repeat' apply C1;all_goals simp[zt]
 obtain⟨ns,h⟩:=h
 refine cc [(85,an ((nth iK v12).ar==4))] [6] (True) ?_ (fun ud=> ?_)
 ·
  replace h:=ns
  refine bo [] 15 ?_
  have l1:=h
  refine iX 4 (some 84) [(83,.ptr 3 0 (gH v12) 0),(82,.ptr 3 0 (gH v12) 0),(81,.ptr 3 0 (gH v12) 0)] (aR 4 iK bM) v12 3 0 0 (ab (nth iK v12).ar) (dx l1.1 l1.2) ?_
  exact bJ [(85,an ((nth iK v12).ar==4))] trivial
 unfold OS at h
 refine dp (fun nq=> ?_) (fun nq=> ?_)
 ·
  replace h:=h.1 nq
  refine bo [] 16 ?_
  obtain⟨Dr,h⟩:=h
  refine XH (⟨ax,4,[[an hk,ap 1 0 ai.length,ap 2 0 U.length,ap 3 0 iK.length]]⟩::⟨0,1,List.map aP ai⟩::⟨0,2,List.map a1 U⟩::⟨0,5,aR 4 iK bM⟩::List.map bh aO) (by rw[show aT.length=iK.length by simp[zt,SC]]<;>rfl) ?_
  refine vO 4 (some 89) [(88,.ptr 3 0 (gH v12) 0),(87,.ptr 0 ax 0 0),(86,.agg (da false (nth a0.O v12)))] [.agg (da false (nth a0.O v12)),.ptr 0 ax 0 0,.ptr 3 0 (gH v12) 0] _ (amr (nth a0.O v12) v12 ax hk ai U iK bM aO Dr) (fun r H' U=>by obtain⟨_,_,_,rfl,_⟩:=U;rfl) ?_
  rintro r H' ⟨Bz,i55,yP,rfl,rfl,sH⟩
  replace h:=h Bz i55 yP sH
  refine dM [] ?_
  refine bT.normal ?_
  refine dR.normal ?_
  refine bo [] 17 ?_
  refine dM (OY v12) ?_
  exact dO.again (yP,i55,(o6 v12),Bz) h (di [6])
 ·
  replace h:=h.2 nq
  refine d_ ?_
  refine bT.normal ?_
  refine dR.normal ?_
  refine bo [] 17 ?_
  refine dM (OY v12) ?_
  exact dO.again (aO,bM,(o6 v12),iK) h (hg (s':=⟨(bd 91 (OW hw v12 ax)),[(2,(bA false a0))],(⟨ax,4,[(OX hk ai U aT)]⟩::⟨0,1,List.map aP ai⟩::⟨0,2,List.map a1 U⟩::⟨0,5,aR 4 iK bM⟩::List.map bh aO)⟩) (di (n:=91) (A':=(OW hw v12 ax)) (L':=[(2,(bA false a0))]) [6]) (congrArg (fun z=>(⟨(bd 91 (OW hw v12 ax)),[(2,(bA false a0))],(⟨ax,4,[[an hk,ap 1 0 ai.length,ap 2 0 U.length,ap 3 0 z]]⟩::⟨0,1,List.map aP ai⟩::⟨0,2,List.map a1 U⟩::⟨0,5,aR 4 iK bM⟩::List.map bh aO)⟩:St)) (show aT.length=iK.length by simp[zt,SC])))
theorem Y7 (a0:aC) (ax:Nat) (hk:Bool) (ai:List Bool) (U:List bx) (hw:List aq) (hi:List Nat) (hb:List (List Bool)) (ae:Nc a0 hk ai U hw hi hb):c0 Tryz.prog 64 [.agg (bA false a0),.ptr 0 ax 0 0] (OZ hk ai U hw hi hb ax) (fun r H'=> ∃(eI:List aq) (fC:List Nat) (dL:List (List Bool)),r= .tup []∧H'=(⟨ax,4,[[an hk,ap 1 0 ai.length,ap 2 0 U.length,ap 3 0 eI.length]]⟩::⟨0,1,List.map aP ai⟩::⟨0,2,List.map a1 U⟩::⟨0,5,aR 4 eI fC⟩::List.map bh dL)∧DF a0 hk ai U hw hi hb ai U eI fC dL):=amM a0 ax hk ai U hw hi hb (Nb a0 (cE hk ai U hw hi hb)) (fun _ _ v _=>cg hw.length v) (by
 unfold ON
 obtain⟨G,ci,cO⟩:=ae
 have Cg:(cE hk ai U hw hi hb).O.length=hw.length:=i_ G.ok
 have afR:=cO.O
 have zz:=ci.O
 have Sj:=cO.aN
 have Sk:=cO.aH
 have afA:=ci.cx
 have zB:=ci.be
 refine⟨⟨?_,G.ok,G.kF,rfl,G.len⟩,fun bs is v ws aJ=> ?_⟩
 ·rw[Cg];exact cT (cN _)
 have Cd:=aJ
 obtain⟨fZ,fD,mZ,kc,hlen⟩:=Cd
 have ag:((cE hk ai U hw hi hb).O.length:Int)≤4611686018427387904:=by omega
 obtain⟨s1,s2,eQ⟩:=ul a0 (cE hk ai U hw hi hb) v.toNat
 have xd:ws.length=hw.length:=by rw[←i_ fD,kc,qp,Cg]
 unfold OV D0 A8 o6
 have hm: ∀x:Int,cg hw.length x=cg (cE hk ai U hw hi hb).O.length x:=fun x=>by rw[Cg]
 simp only[hm]
 rw[←Cg]
 refine⟨fun hv=> ?_,fun hv=> ?_⟩
 ·have jW: ¬v<((cE hk ai U hw hi hb).O.length:Int):=by simpa using hv
  have h1:=fZ.2.1
  have az:=fZ.1
  have:v.toNat=(cE hk ai U hw hi hb).O.length:=by omega
  rw[this] at kc
  exact⟨⟨fD,mZ,hlen⟩,kc⟩
 have b3:=bX fZ hv
 have az:=b3.1
 have aQ:v.toNat<ws.length:=by omega
 have iC:v.toNat<a0.O.length:=by omega
 have tq:=x2 cO v.toNat
 have kx:(dC a0 (cE hk ai U hw hi hb) v).O.length=hw.length:=(qp _ _ _).trans Cg
 have hs:(cx a0 v)≠[]∧(cx a0 v).length≤30∧ ∀x∈cx a0 v,0≤x∧x<a0.ak:=ci.ak _ (dz iC)
 have mn:(dC a0 (cE hk ai U hw hi hb) v).O[v.toNat]?=some (nth (dC a0 (cE hk ai U hw hi hb) v).O v):=fM (by omega)
 have wY:(nth (dC a0 (cE hk ai U hw hi hb) v).O v).ah.length=(cx a0 v).length:=tq.ah _ _ _ mn (fM iC)
 have u2:=tq.a7 _ (List.mem_of_getElem? mn)
 have CC:0<(cx a0 v).length:=List.length_pos_iff.2 hs.1
 have zx:(ai.length:Int)=a0.ak:=Sj
 have afD:U.length=a0.bb.length:=Sk
 have tG: ∀k:Int,0≤k→k.toNat<(cx a0 v).length→0≤nth (cx a0 v) k∧(nth (cx a0 v) k).toNat<ai.length:=fun k aZ dk=>by
  have:=hs.2.2 _ (dz dk);omega
 have dd:c6 (dC a0 (cE hk ai U hw hi hb) v).O is v (nth (dC a0 (cE hk ai U hw hi hb) v).O v) ws bs:=c6.start fD mZ aQ kc hlen
 have fy:=ZK (p:=a0) (f:=cE hk ai U hw hi hb) az
 refine⟨⟨az,aQ⟩,⟨az,iC⟩,⟨dd.fo,fun aB=> ?_⟩,fun aB=> ?_⟩
 ·rw[dd.ar] at aB
  exact x1 ag fZ hv dd (by rw[fy,if_pos (by simpa using aB)])
 have aB: ¬(nth (dC a0 (cE hk ai U hw hi hb) v).O v).ar=0:=by rw[dd.ar] at aB;simpa using aB
 rw[if_neg aB] at fy
 unfold OU OO HC nw we rF
 refine⟨⟨⟨dd.fo,fun _=>⟨⟨Int.le_refl _,CC⟩,tG 0 (Int.le_refl _) CC⟩⟩,fun _=>⟨dd.fo,(dd.setState 4).fo⟩⟩,fun eS Kn=> ?_⟩
 have eo:c6 (dC a0 (cE hk ai U hw hi hb) v).O is v (h0 a0 (cE hk ai U hw hi hb) v) eS bs:=by
  rw[←Kn,dd.ar]
  unfold h0
  simp only
  have hc:((nth (dC a0 (cE hk ai U hw hi hb) v).O v).ar≠4∧eb (dC a0 (cE hk ai U hw hi hb) v) (nth (cx a0 v) 0)=true)↔((((nth (dC a0 (cE hk ai U hw hi hb) v).O v).ar !=4)&&(nth ai (nth (nth a0.O v).ak 0)))=true):=by
   rw[Bool.and_eq_true,bne_iff_ne]
   unfold eb
   rw[show(dC a0 (cE hk ai U hw hi hb) v).aN=ai from s2];rfl
  by_cases hb:((nth (dC a0 (cE hk ai U hw hi hb) v).O v).ar≠4∧eb (dC a0 (cE hk ai U hw hi hb) v) (nth (cx a0 v) 0)=true)
  ·rw[if_pos hb,hc.1 hb]
   exact(dd.setState 4).AJ 0
  ·rw[if_neg hb,Bool.eq_false_iff.2 (fun h=>hb (hc.2 h))]
   exact dd
 have w7:Au a0 (Frame.mk hk ai U (view (eS.set v.toNat (aq.mk 1 (nth eS v).a7 (nth eS v).ah (nth eS v).bI (nth eS v).bG)) is bs)) v:=by
  have nF:=eo.setState 1
  refine⟨ci,⟨cO.aN,cO.aH,?_,fun i h w aW e2=> ?_,fun h bz=> ?_⟩,az,by omega⟩
  ·show(view _ is bs).length=_
   rw[i_ nF.ok,List.length_set];have:=eo.wk;omega
  ·replace aW:(view _ is bs)[i]?=some h:=aW
   rw[nF.ht,List.getElem?_set] at aW
   split at aW
   ·rename_i hi;subst hi
    split at aW
    ·cases aW
     have:=fM iC
     rw[e2] at this
     cases this
     show(h0 a0 (cE hk ai U hw _ hb) v).ah.length=_
     rw[vE.1];exact wY
    ·cases aW
   ·exact tq.ah i h w aW e2
  ·replace bz:h∈view _ is bs:=bz
   rw[nF.ht] at bz
   rcases List.mem_or_eq_of_mem_set bz with bz | rfl
   ·exact tq.a7 h bz
   ·show 0≤(h0 a0 (cE hk ai U hw hi hb) v).a7∧(h0 a0 (cE hk ai U hw hi hb) v).a7≤(h0 a0 (cE hk ai U hw hi hb) v).ah.length
    rw[vE.1,vE.2];exact u2
 have Ka:gD a0 (Frame.mk hk ai U (view (eS.set v.toNat (aq.mk 1 (nth eS v).a7 (nth eS v).ah (nth eS v).bI (nth eS v).bG)) is bs)) v=gD a0 (dC a0 (cE hk ai U hw hi hb) v) v:=MB s2.symm eQ.symm
 unfold OT o5 og O0 ye qw mK
 refine⟨⟨⟨eo.fo,fun _=>eo.fo⟩,fun _=>⟨eo.fo,?_⟩⟩,fun yu Ko=> ?_⟩
 ·unfold OR OQ OP ye qw mK
  have nF:=eo.setState 1
  refine⟨⟨by omega,by omega,⟨nF.ok,?_,fun b hb=>by have:=hlen b hb;omega⟩,w7⟩,fun _=>⟨nF.fo,(nF.setState 2).fo⟩⟩
  rw[List.length_set];have:=eo.wk;omega
 have fY:c6 (dC a0 (cE hk ai U hw hi hb) v).O is v (gv a0 (cE hk ai U hw hi hb) v) yu bs:=by
  rw[←Ko,Ka,eo.ar]
  unfold gv
  simp only
  by_cases hb:(h0 a0 (cE hk ai U hw hi hb) v).ar=1∨(h0 a0 (cE hk ai U hw hi hb) v).ar=2
  ·rw[if_pos hb,show(((h0 a0 (cE hk ai U hw hi _) v).ar==1) || ((h0 a0 (cE hk ai U hw hi _) v).ar==2))=true by simpa using hb]
   cases U:gD a0 (dC a0 (cE hk ai _ hw hi _) v) v with
   | true=>exact((eo.setState 1).setState 2).XQ true
   | false=>exact eo.setState 1
  ·rw[if_neg hb,show(((h0 a0 (cE hk ai U hw hi _) v).ar==1) || ((h0 a0 (cE hk ai U hw hi _) v).ar==2))=false by simpa using hb]
   exact eo
 have w6:(gv a0 (cE hk ai U hw hi hb) v).ah.length=(cx a0 v).length:=by rw[GW.1];exact wY
 have Cy:0≤(gv a0 (cE hk ai U hw hi hb) v).a7∧(gv a0 (cE hk ai U hw hi hb) v).a7≤(cx a0 v).length:=by rw[GW.2,←wY];exact u2
 refine⟨fY.fo,?_⟩
 unfold OS o6
 refine⟨fun a8=>⟨⟨fY.G,az,by have:=fY.lt;omega,?_,?_,?_,?_,?_⟩,fun w i b kD=> ?_⟩,fun a8=> ?_⟩
 ·show(cx a0 v).length≤_;omega
 ·intro x hx
  have:=hs.2.2 x hx;omega
 ·rw[fY.Aj];exact w6
 ·rw[fY.Aj];exact Cy.1
 ·rw[fY.Aj];exact Cy.2
 ·obtain⟨pc,jW⟩:=kD
  have oq:=fY.again pc jW
  have a8:(gv a0 (cE hk ai U hw hi hb) v).ar=4:=by rw[fY.ar] at a8;simpa using a8
  rw[if_pos a8] at fy
  refine x1 ag fZ hv oq ?_
  rw[fY.Aj,fy]
  exact WC s2.symm
 ·rw[fY.ar] at a8
  exact x1 ag fZ hv fY (by rw[fy,if_neg (by simpa using a8)]))
end
section
variable (ad:Int→Prop) (m0:Int→Nat) (aU:Int→Int→Prop) (m1:Int→Int→Nat) (bH:jJ Prop) (m2:jJ Nat) (a0:aC) (J:Frame) (aa:Bool) (eG v76 du:Int) (eS:List aq) (i28:List Nat) (kp:List (List Bool))
abbrev qs:=(J.aH.length:Int)
abbrev lG:=(J.O.length:Int)
abbrev j3:=(!(dV a0)) || ((!J.ok) || (((J.aN.length:Int) !=a0.ak) || (((qs J) !=(a0.bb.length:Int)) || ((lG J) !=(a0.O.length:Int)))))
abbrev AS:=List.map aq.ah (aK J).O
abbrev AU:=List.range (aK J).O.length
abbrev Yk:List Blk:=(⟨1,4,[[an (aK J).ok,ap 1 0 (aK J).aN.length,ap 2 0 (aK J).aH.length,ap 3 0 (aK J).O.length]]⟩::⟨0,1,List.map aP (aK J).aN⟩::⟨0,2,List.map a1 (aK J).aH⟩::⟨0,5,aR 4 (aK J).O (AU J)⟩::List.map bh (AS J))
abbrev x_:=(nth J.O du).ar !=0
abbrev jD:=(du !=v76)&&((nth (nth a0.bF du) v76)&&((x_ J du)&&((nth J.O v76).ar !=0)))
abbrev AZ:=Frame.mk (aK J).ok (aK J).aN (aK J).aH (view eS i28 kp)
abbrev j4:=(!(bN (nth J.aH eG).dc 1 2)) || (!(bN (nth J.aH eG).bm 0 2))
abbrev jE:=[2000009]
abbrev vY:List (Nat×List AV):=[(3,(cG false J)),(2,(bA false a0))]
abbrev N5:List AV:=[an (aK J).ok,ap 1 0 (aK J).aN.length,ap 2 0 (aK J).aH.length,ap 3 0 eS.length]
abbrev Hr:=[42,41,40,39,38,37,36]
abbrev Hs:List (Nat×AV):=[(0,.agg (bA false a0)),(1,.agg (cG false J))]
abbrev N2:=[108,107,106,105,104,103,102]
abbrev AT:List Blk:=[⟨0,4,[]⟩]
abbrev N3:=[33,32,31,30,29,28,27]
abbrev AW:=IntKind.i64.wrap (eG+1)
abbrev AX:=IntKind.i64.wrap (du+1)
abbrev AY:=IntKind.i64.wrap (v76+1)
abbrev sQ:=fR false
abbrev N4:List (Nat×AV):=[(35,an true),(34,an true)]
noncomputable def alW:Code:=iP Tryz.f57
def Yj:Prop:=
  (Nc a0 (aK J).ok (aK J).aN (aK J).aH (aK J).O (AU J) (AS J))∧(∀(eS:List aq) (i28:List Nat) (kp:List (List Bool)),DF a0 (aK J).ok (aK J).aN (aK J).aH (aK J).O (AU J) (AS J) (aK J).aN (aK J).aH eS i28 kp→(((aK J).aN.length≤4611686018427387904∧(aK J).aH.length≤4611686018427387904∧(kQ eS i28 kp∧eS.length≤4611686018427387904∧(∀x∈kp,List.length x≤4611686018427387904))∧XK J (AZ J eS i28 kp))∧((pN J (AZ J eS i28 kp))=aa)))
def NY:Prop:=
  ((du !=v76)=true→(0≤du∧du.toNat<a0.bF.length)∧((0≤v76∧v76.toNat<(nth a0.bF du).length)∧((nth (nth a0.bF du) v76)=true→(0≤du∧du.toNat<J.O.length)∧((x_ J du)=true→0≤v76∧v76.toNat<J.O.length))))∧((jD a0 J v76 du)=true→false=aa)
def NZ:Prop:=
  ((decide (v76<(lG J)))=false→aU eG (AX du)∧m1 eG (AX du)<m1 eG du)∧((decide (v76<(lG J)))=true→(NY a0 J aa v76 du)∧((!(jD a0 J v76 du))=true→bH eG du (AY v76)∧m2 eG du (AY v76)<m2 eG du v76))
def N0:Prop:=
  ((decide (eG<(qs J)))=false→J.O.length≤4611686018427387904→aU eG 0∧ ∀(du:Int),aU eG du→(((decide (du<(lG J)))=false→(ho J)∧(Yj a0 J aa))∧((decide (du<(lG J)))=true→((Sh a0 J du)∧((!(hR a0 J du))=true→false=aa))∧((!(!(hR a0 J du)))=true→bH eG du 0∧ ∀(v76:Int),bH eG du v76→(NZ aU m1 bH m2 a0 J aa eG v76 du)))))∧((decide (eG<(qs J)))=true→((0≤eG∧eG.toNat<J.aH.length)∧((j4 J eG)=true→false=aa))∧((!(j4 J eG))=true→ad (AW eG)∧m0 (AW eG)<m0 eG))
def N1:Prop:=
  ((j3 a0 J)=true→false=aa)∧((!(j3 a0 J))=true→J.aH.length≤4611686018427387904→ad 0∧ ∀(eG:Int),ad eG→(N0 ad m0 aU m1 bH m2 a0 J aa eG))
def NX (a0:aC) (J:Frame) (aa:Bool) (ad:Int→Prop) (m0:Int→Nat) (aU:Int→Int→Prop) (m1:Int→Int→Nat) (bH:jJ Prop) (m2:jJ Nat):Prop:=
 N1 ad m0 aU m1 bH m2 a0 J aa
theorem alX (a0:aC) (J:Frame) (aa:Bool) (ad:Int→Prop) (m0:Int→Nat) (aU:Int→Int→Prop) (m1:Int→Int→Nat) (bH:jJ Prop) (m2:jJ Nat) (h:NX a0 J aa ad m0 aU m1 bH m2):bc Tryz.prog 57 [.agg (bA false a0),.agg (cG false J)] (an aa):=by
 unfold NX at h
 refine c0.go (fn:=Tryz.f57) (Hs a0 J) Tryz.func57 (fun _ _=> ?_)
 show WpS _ (bB alW 1) _ ⟨bd 119 (Hs a0 J),[],[]⟩
 refine WpS.mP ?_ (hg (s'':=⟨(bd 119 (Hs a0 J)),[],AT⟩) (Weak.Ad (T:=(bd 119 (Hs a0 J))) (L:=[]) (H:=[]) 4) (by kernel_rfl))
 refine rX jE 0 [(4,an false),(3,aF 3 0),(2,aF 2 0)] [0,1,2] [] (vY a0 J) AT ?_
 unfold N1 at h
 obtain⟨W_,h⟩:=h
 refine cc [] [2] ((!(j3 a0 J))=true) ?_ (fun q2=> ?_)
 ·
  replace h:=W_
  refine cc [(43,an (j3 a0 J))] [2] (True) ?_ (fun q3=> ?_)
  ·
   refine bo jE 1 ?_
   refine mH 2 (some 11) [(10,.agg (bA false a0))] [.agg (bA false a0)] (Ob a0) (af.cons (cL.agg (af.cons (.int _ _) (af.cons cj (af.cons cj (af.cons cj (af.cons (.int _ _) af.nil)))))) af.nil) ?_
   refine oY 2 13 (!(dV a0)) [(12,an (!(dV a0)))] (fun q4=> ?_) (fun q4=> ?_)
   ·
    exact bJ ([(43,an true)]++gg Hr++N4++gg N3++[(26,an true),(25,an true)]++gg [24,23,22,21,20,19]++[(18,an true),(17,an true)]++gg [16,15,14]) trivial (by simp only[q4,j4,jD,j3]<;>kernel_rfl)
   ·
    refine oY 5 18 (!J.ok) [(17,an (!J.ok)),(16,an (!J.ok)),(15,an J.ok),(14,aF 3 0)] (fun cs=> ?_) (fun cs=> ?_)
    ·
     exact bJ ([(43,an true)]++gg Hr++N4++gg N3++[(26,an true),(25,an true)]++gg [24,23,22,21,20,19]) trivial (by simp only[q4,cs,j4,jD,j3]<;>kernel_rfl)
    ·
     refine sLen 3 (some 21) [(20,bq aP J.aN),(19,aF 3 1)] aP J.aN (fun cD=> ?_)
     refine oY 5 26 ((J.aN.length:Int) !=a0.ak) [(25,an ((J.aN.length:Int) !=a0.ak)),(24,an ((J.aN.length:Int) !=a0.ak)),(23,ab a0.ak),(22,aF 2 0)] (fun fH=> ?_) (fun fH=> ?_)
     ·
      exact bJ ([(43,an true)]++gg Hr++N4++gg N3) trivial (by simp only[q4,cs,fH,j4,jD,j3]<;>kernel_rfl)
     ·
      refine sLen 3 (some 29) [(28,bq a1 J.aH),(27,aF 3 2)] a1 J.aH (fun fu=> ?_)
      refine sLen 3 (some 32) [(31,bq cd a0.bb),(30,aF 2 1)] cd a0.bb (fun iV=> ?_)
      refine oY 3 35 ((qs J) !=(a0.bb.length:Int)) [(34,an ((qs J) !=(a0.bb.length:Int))),(33,an ((qs J) !=(a0.bb.length:Int)))] (fun gG=> ?_) (fun gG=> ?_)
      ·
       exact bJ ([(43,an true)]++gg Hr) trivial (by simp only[q4,cs,fH,gG,j4,jD,j3]<;>kernel_rfl)
      ·
       refine sLen 3 (some 38) [(37,bq sQ J.O),(36,aF 3 3)] sQ J.O (fun iF=> ?_)
       refine sLen 3 (some 41) [(40,bq (da false) a0.O),(39,aF 2 2)] (da false) a0.O (fun h3=> ?_)
       exact bJ [(43,an ((lG J) !=(a0.O.length:Int))),(42,an ((lG J) !=(a0.O.length:Int)))] trivial (by simp only[q4,cs,fH,gG,j4,jD,j3]<;>kernel_rfl)
  refine dp (fun fA=> ?_) (fun fA=> ?_)
  ·
   replace h:=h fA
   refine dY jE 2 [(4,an false)] [1] [] ?_
   exact hh (bP.ret (oW (an false) (iw.hW (oh h))))
  ·
   refine d_ ?_
   exact bP.normal (by simp only[fA,j4,jD,j3]<;>rfl) dU
 replace h:=h q2
 refine hz ?_
 refine cc [(45,bq a1 J.aH),(46,ab (qs J)),(47,ab 0)] [2] (J.aH.length≤4611686018427387904) ?_ (fun jn=> ?_)
 ·
  refine bo jE 3 ?_
  refine sLen 3 (some 46) [(45,bq a1 J.aH),(44,aF 3 2)] a1 J.aH (fun kh=> ?_)
  exact bJ [(47,ab 0)] kh
 replace h:=h jn
 refine fg 0 ?_
 obtain⟨n8,h⟩:=h
 refine kq (fun(v:Int)=>(⟨(bd 119 [(2,aF 2 0),(3,aF 3 0),(45,bq a1 J.aH),(46,ab (qs J)),(47,ab v)]),(vY a0 J),AT⟩:St)) (fun(v:Int)=>ad v) (fun(v:Int)=>m0 v) 0 (di []) n8 (fun eG aJ=> ?_)
 replace h:=h eG aJ
 refine dY jE 4 [(48,an (decide (eG<(qs J))))] [1] [5] ?_
 unfold N0 at h
 obtain⟨Az,h⟩:=h
 refine cc [] [0,1,5] ((decide (eG<(qs J)))=true) ?_ (fun mC=> ?_)
 ·
  replace h:=Az
  refine dp (fun hn=> ?_) (fun hn=> ?_)
  ·
   refine d_ ?_
   exact bP.normal (by simp only[q2,hn,j4,jD,j3]<;>rfl) dU
  ·
   replace h:=h hn
   refine jf 0 ?_
   refine bP.exit ?_
   refine dO.exit ?_
   refine bT.here ?_
   refine dR.normal ?_
   refine hz ?_
   refine j9 ⟨(bd 119 [(2,aF 2 0),(3,aF 3 0),(64,ab (lG J)),(65,ab 0)]),(vY a0 J),AT⟩ (J.O.length≤4611686018427387904) ?_ (fun iG=> ?_)
   ·
    refine bo jE 9 ?_
    refine sLen 3 (some 64) [(63,bq sQ J.O),(62,aF 3 3)] sQ J.O (fun kL=> ?_)
    exact bJ [(65,ab 0)] kL
   replace h:=h iG
   refine fg 2 ?_
   obtain⟨ue,h⟩:=h
   refine kq (fun(v:Int)=>(⟨(bd 119 [(2,aF 2 0),(3,aF 3 0),(64,ab (lG J)),(65,ab v)]),(vY a0 J),AT⟩:St)) (fun(v:Int)=>aU eG v) (fun(v:Int)=>m1 eG v) 0 (di []) ue (fun du aJ=> ?_)
   replace h:=h du aJ
   refine dY jE 10 [(66,an (decide (du<(lG J))))] [1] [4] ?_
   obtain⟨ry,h⟩:=h
   refine cc [] [0,1,4] ((decide (du<(lG J)))=true) ?_ (fun il=> ?_)
   ·
    replace h:=ry
    refine dp (fun gR=> ?_) (fun gR=> ?_)
    ·
     refine d_ ?_
     exact bP.normal (by simp only[q2,hn,gR,j4,jD,j3]<;>rfl) dU
    ·
     replace h:=h gR
     refine jf 2 ?_
     refine bP.exit ?_
     refine dO.exit ?_
     refine bT.here ?_
     refine dR.normal ?_
     obtain⟨l0,h⟩:=h
     refine j9 ⟨(bd 119 [(2,aF 2 0),(3,aF 3 0),(9,.ptr 0 1 0 0)]),(vY a0 J),(Yk J)⟩ (True) ?_ (fun iH=> ?_)
     ·
      replace h:=l0
      refine bo jE 21 ?_
      have im:=h
      refine vP 2 (some 113) [(112,.agg (cG false J))] [.agg (cG false J)] (.agg [an (aK J).ok,ap 1 0 (aK J).aN.length,ap 2 0 (aK J).aH.length,ap 3 0 (aK J).O.length]) (⟨0,4,[]⟩::⟨0,1,List.map aP (aK J).aN⟩::⟨0,2,List.map a1 (aK J).aH⟩::⟨0,5,aR 4 (aK J).O (AU J)⟩::List.map bh (AS J)) (On J im) (af.cons (cL.agg (af.cons (.bool _) (af.cons cj (af.cons cj (af.cons cj af.nil))))) af.nil) GR (sN XV (by kernel_rfl)) ?_ (er:=by simp[nt,oZ,iY])
      refine Hj 1 [(9,.ptr 0 1 0 0)] (vY a0 J) (⟨1,4,[[an false,ca,ca,ca]]⟩::⟨0,1,List.map aP (aK J).aN⟩::⟨0,2,List.map a1 (aK J).aH⟩::⟨0,5,aR 4 (aK J).O (AU J)⟩::List.map bh (AS J)) ?_
      refine XI 1 [] (Yk J) (φ:=1=1) (ψ:=4≤4) rfl (by decide) ?_
      exact bJ [] trivial
     unfold Yj at h
     refine hz ?_
     refine bo jE 22 ?_
     obtain⟨gS,h⟩:=h
     refine vO 2 (some 115) [(114,.agg (bA false a0))] [.agg (bA false a0),.ptr 0 1 0 0] _ (Y7 a0 1 (aK J).ok (aK J).aN (aK J).aH (aK J).O (AU J) (AS J) gS) (fun r H' U=>by obtain⟨_,_,_,rfl,_⟩:=U;rfl) ?_
     rintro r H' ⟨eS,i28,kp,rfl,rfl,ql⟩
     replace h:=h eS i28 kp ql
     refine dM [] ?_
     refine dR.normal ?_
     obtain⟨lz,h⟩:=h
     refine j9 ⟨(bd 119 [(4,an (pN J (AZ J eS i28 kp)))]),(vY a0 J),(⟨1,4,[(N5 J eS)]⟩::⟨0,1,List.map aP (aK J).aN⟩::⟨0,2,List.map a1 (aK J).aH⟩::⟨0,5,aR 4 eS i28⟩::List.map bh kp)⟩ (True) ?_ (fun n4=> ?_)
     ·
      replace h:=lz
      refine bo jE 23 ?_
      refine oX 2 (some 117) (.agg (N5 J eS)) [(116,.agg (cG false J))] (φ:=1=1) rfl ?_
      obtain⟨jz,lx,jA,ly⟩:=h
      refine mH 1 (some 118) [] [.agg (cG false J),.agg (N5 J eS)] (amz J (AZ J eS i28 kp) ly) (af.cons (cL.agg (af.cons (.bool _) (af.cons cj (af.cons cj (af.cons cj af.nil))))) (af.cons (cL.agg (af.cons (.bool _) (af.cons (n_ (sz:=1) (by simp) rfl (vc) jz) (af.cons (n_ (sz:=2) (by simp) rfl (xg) lx) (af.cons (vR (s:=4) (ws:=eS) (ids:=i28) (bs:=kp) (by simp) rfl (fun id k h=>by simpa using h) jA.1 jA.2.1 jA.2.2) af.nil))))) af.nil)) ?_
      exact bJ [(4,an (pN J (AZ J eS i28 kp)))] trivial
     exact hh (oW (an (pN J (AZ J eS i28 kp))) (iw.hW (oh h)))
   replace h:=h il
   refine hz ?_
   refine fg 3 ?_
   refine dY jE 11 [(7,ab du),(67,ab du)] [1] [4] ?_
   obtain⟨G4,h⟩:=h
   refine cc [] [5] ((!(!(hR a0 J du)))=true) ?_ (fun jB=> ?_)
   ·
    replace h:=G4
    obtain⟨np,h⟩:=h
    refine cc [(72,an (!(hR a0 J du)))] [5] (True) ?_ (fun oU=> ?_)
    ·
     replace h:=np
     refine bo jE 12 ?_
     have mD:=h
     refine mH 4 (some 71) [(70,ab du),(69,.agg (cG false J)),(68,.agg (bA false a0))] [.agg (bA false a0),.agg (cG false J),ab du] (amo a0 J du mD) (af.cons (cL.agg (af.cons (.int _ _) (af.cons cj (af.cons cj (af.cons cj (af.cons (.int _ _) af.nil)))))) (af.cons (cL.agg (af.cons (.bool _) (af.cons cj (af.cons cj (af.cons cj af.nil))))) (af.cons (cL.hW (.int _ _)) af.nil))) ?_
     exact bJ [(72,an (!(hR a0 J du)))] trivial
    refine dp (fun lA=> ?_) (fun lA=> ?_)
    ·
     replace h:=h lA
     refine dY jE 13 [(4,an false)] [1] [] ?_
     exact hh (bP.ret (bT.ret (dR.ret (dO.ret (bT.ret (dR.ret (oW (an false) (iw.hW (oh h)))))))))
    ·
     refine d_ ?_
     exact bP.normal (by simp only[q2,hn,il,lA,j4,jD,j3]<;>rfl) dU
   replace h:=h jB
   refine cc [(75,ab (lG J)),(76,ab 0)] [5] (True) ?_ (fun n5=> ?_)
   ·
    refine bo jE 14 ?_
    refine sLen 3 (some 75) [(74,bq sQ J.O),(73,aF 3 3)] sQ J.O (fun n6=> ?_)
    exact bJ [(76,ab 0)] trivial
   refine fg 4 ?_
   obtain⟨k9,h⟩:=h
   refine kq (fun(v:Int)=>(⟨(bd 119 [(2,aF 2 0),(3,aF 3 0),(7,ab du),(64,ab (lG J)),(65,ab du),(75,ab (lG J)),(76,ab v)]),(vY a0 J),AT⟩:St)) (fun(v:Int)=>bH eG du v) (fun(v:Int)=>m2 eG du v) 0 (di []) k9 (fun v76 aJ=> ?_)
   replace h:=h v76 aJ
   refine dY jE 15 [(77,an (decide (v76<(lG J))))] [1] [7] ?_
   unfold NZ at h
   obtain⟨n7,h⟩:=h
   refine cc [] [0,1,7] ((decide (v76<(lG J)))=true) ?_ (fun mF=> ?_)
   ·
    replace h:=n7
    refine dp (fun jC=> ?_) (fun jC=> ?_)
    ·
     refine d_ ?_
     exact bP.normal (by simp only[q2,hn,il,jB,jC,j4,jD,j3]<;>rfl) dU
    ·
     replace h:=h jC
     refine jf 4 ?_
     refine bP.exit ?_
     refine dO.exit ?_
     refine bT.here ?_
     refine bT.normal ?_
     refine dR.normal ?_
     refine bo jE 20 ?_
     refine dM [(65,ab (AX du)),(111,ab (AX du))] ?_
     exact dO.again (AX du) h (di [])
   replace h:=h mF
   obtain⟨oV,h⟩:=h
   refine cc [] [7] ((!(jD a0 J v76 du))=true) ?_ (fun ud=> ?_)
   ·
    replace h:=oV
    refine fg 5 ?_
    refine dY jE 16 [(8,ab v76),(78,ab v76)] [1] [7] ?_
    unfold NY at h
    obtain⟨pL,h⟩:=h
    refine cc [(109,an (jD a0 J v76 du))] [0,1,7] (True) ?_ (fun nq=> ?_)
    ·
     replace h:=pL
     refine bo jE 17 ?_
     refine oY 4 82 (du !=v76) [(81,an (du !=v76)),(80,ab v76),(79,ab du)] (fun qm=> ?_) (fun qm=> ?_)
     ·
      replace h:=h qm
      obtain⟨Ax,h⟩:=h
      refine lC 4 (some 86) [(85,ab du),(84,bq (gW aP false) a0.bF),(83,aF 2 3)] (gW aP false) a0.bF 1 Ax ?_
      obtain⟨ns,h⟩:=h
      refine lC 3 (some 89) [(88,ab v76),(87,bq aP (nth a0.bF du))] aP (nth a0.bF du) 1 ns ?_
      refine oY 3 92 (nth (nth a0.bF du) v76) [(91,an (nth (nth a0.bF du) v76)),(90,an (nth (nth a0.bF du) v76))] (fun nr=> ?_) (fun nr=> ?_)
      ·
       replace h:=h nr
       obtain⟨sH,h⟩:=h
       refine lC 4 (some 96) [(95,ab du),(94,bq sQ J.O),(93,aF 3 3)] sQ J.O 5 sH ?_
       refine oY 5 101 (x_ J du) [(100,an (x_ J du)),(99,an (x_ J du)),(98,ab (nth J.O du).ar),(97,.dh (fR false (nth J.O du)) 0)] (fun qn=> ?_) (fun qn=> ?_)
       ·
        replace h:=h qn
        have Dr:=h
        refine lC 4 (some 105) [(104,ab v76),(103,bq sQ J.O),(102,aF 3 3)] sQ J.O 5 Dr ?_
        exact bJ [(109,an ((nth J.O v76).ar !=0)),(108,an ((nth J.O v76).ar !=0)),(107,ab (nth J.O v76).ar),(106,.dh (fR false (nth J.O v76)) 0)] trivial (by simp only[q2,hn,il,jB,mF,qm,nr,qn,j4,jD,j3]<;>kernel_rfl)
       ·
        exact bJ ([(109,an false)]++gg N2) trivial (by simp only[q2,hn,il,jB,mF,qm,nr,qn,j4,jD,j3]<;>kernel_rfl)
      ·
       exact bJ ([(109,an false)]++gg N2++[(101,an false),(100,an false)]++gg [99,98,97,96,95,94,93]) trivial (by simp only[q2,hn,il,jB,mF,qm,nr,j4,jD,j3]<;>kernel_rfl)
     ·
      exact bJ ([(109,an false)]++gg N2++[(101,an false),(100,an false)]++gg [99,98,97,96,95,94,93]++[(92,an false),(91,an false)]++gg [90,89,88,87,86,85,84,83]) trivial (by simp only[q2,hn,il,jB,mF,qm,j4,jD,j3]<;>kernel_rfl)
    refine dp (fun pJ=> ?_) (fun pJ=> ?_)
    ·
     replace h:=h pJ
     refine dY jE 18 [(4,an false)] [1] [] ?_
     exact hh (bT.ret (bP.ret (dO.ret (bT.ret (bT.ret (dR.ret (dO.ret (bT.ret (dR.ret (oW (an false) (iw.hW (oh h))))))))))))
    ·
     refine d_ ?_
     refine bT.normal ?_
     exact bP.normal (by simp only[q2,hn,il,jB,mF,pJ,j4,jD,j3]<;>rfl) dU
   replace h:=h ud
   refine bo jE 19 ?_
   refine dM [(76,ab (AY v76)),(110,ab (AY v76))] ?_
   exact dO.again (AY v76) h (di [])
 replace h:=h mC
 obtain⟨vJ,h⟩:=h
 refine eU [] [5] (fun L=>(6,(a1 (nth J.aH eG)))::L) id ((!(j4 J eG))=true) ?_ (fun vF=> ?_)
 ·
  replace h:=vJ
  refine fg 1 ?_
  obtain⟨vI,h⟩:=h
  refine eU [(6,aF 6 0)] [5] (fun L=>(6,(a1 (nth J.aH eG)))::L) id (True) ?_ (fun Ds=> ?_)
  ·
   replace h:=vI
   refine bo jE 5 ?_
   have Ay:=h
   refine lC 1 (some 49) [] a1 J.aH 2 Ay ?_
   exact bJ [(6,aF 6 0),(50,.agg (a1 (nth J.aH eG)))] trivial
  refine cc [(60,an (j4 J eG))] [0,1,5] (True) ?_ (fun uf=> ?_)
  ·
   refine bo jE 6 ?_
   refine mH 3 (some 53) [(52,ab (nth J.aH eG).dc),(51,aF 6 0)] [ab (nth J.aH eG).dc,ab 1,ab 2] (N9 (nth J.aH eG).dc 1 2) (af.cons (cL.hW (.int _ _)) (af.cons (cL.hW (.int _ _)) (af.cons (cL.hW (.int _ _)) af.nil))) ?_
   refine oY 2 55 (!(bN (nth J.aH eG).dc 1 2)) [(54,an (!(bN (nth J.aH eG).dc 1 2)))] (fun vG=> ?_) (fun vG=> ?_)
   ·
    exact bJ ([(60,an true)]++gg [59,58,57,56]) trivial (by simp only[q2,mC,vG,j4,jD,j3]<;>kernel_rfl)
   ·
    refine mH 3 (some 58) [(57,ab (nth J.aH eG).bm),(56,aF 6 1)] [ab (nth J.aH eG).bm,ab 0,ab 2] (N9 (nth J.aH eG).bm 0 2) (af.cons (cL.hW (.int _ _)) (af.cons (cL.hW (.int _ _)) (af.cons (cL.hW (.int _ _)) af.nil))) ?_
    exact bJ [(60,an (!(bN (nth J.aH eG).bm 0 2))),(59,an (!(bN (nth J.aH eG).bm 0 2)))] trivial (by simp only[q2,mC,vG,j4,jD,j3]<;>kernel_rfl)
  refine dp (fun sI=> ?_) (fun sI=> ?_)
  ·
   replace h:=h sI
   refine dY jE 7 [(4,an false)] [1] [] ?_
   exact hh (bT.ret (bP.ret (dO.ret (bT.ret (dR.ret (oW (an false) (iw.hW (oh h))))))))
  ·
   refine d_ ?_
   refine bT.normal ?_
   exact bP.normal (by simp only[q2,mC,sI,j4,jD,j3]<;>rfl) dU
 replace h:=h vF
 refine bo jE 8 ?_
 refine dM [(47,ab (AW eG)),(61,ab (AW eG))] ?_
 exact dO.again (AW eG) h (di [6])
theorem alV (ae:Rr a0 J):bc Tryz.prog 57 [.agg (bA false a0),.agg (cG false J)] (an (gX a0 J)):=alX a0 J (gX a0 J) (bW J.aH.length (fun j=>(!(bN (nth J.aH j).dc 1 2)) || (!(bN (nth J.aH j).bm 0 2)))) (cg J.aH.length) (fun _ i=>(∀x∈J.aH,lv x=true)∧bW J.O.length (fun i=> !(hR a0 J i) || MZ a0 J J.O.length i) i) (fun _=>cg J.O.length) (fun _ i=>bW J.O.length (fun k=>nG a0 J i k)) (fun _ _=>cg J.O.length) (by
 unfold NX N1 j3 lG qs
 have hs:ho J:=ae
 have no: ∀φ:Prop,(gX a0 J=true→φ)→ ¬φ→false=gX a0 J:=fun φ h1 h2=>by
  cases h:gX a0 J with
  | false=>rfl
  | true=>exact absurd (h1 h) h2
 have D:=fun h=>(zg (p:=a0) (f:=J)).1 h
 refine⟨fun U=>no _ D (fun aV=>by have:=aV.1;unfold wQ at this;rw[U] at this;cases this),fun U ag=>⟨cT (cN _),fun v aJ=> ?_⟩⟩
 have wX:wQ a0 J=true:=U
 obtain⟨b1,b2,rR,wH,uL⟩:=oz.1 wX
 have ci:=xS b1
 have dD:=GV b1
 unfold N0 AW j4 lG qs
 refine⟨fun hv hm=> ?_,fun hv=>⟨⟨bX aJ hv,fun hb=>no _ D fun aV=> ?_⟩,fun hb=>cw (b5 ag) aJ hv (not_eq hb)⟩⟩
 ·have k0: ∀x∈J.aH,lv x=true:=fun x hx=>by
   have:=ny (q:=fun x:bx=>(!(bN x.dc 1 2)) || (!(bN x.bm 0 2))) (gT aJ hv) x hx
   unfold lv
   simpa[Bool.and_eq_true] using this
  refine⟨⟨k0,cT (cN _)⟩,fun i cP=>⟨fun hi=> ?_,fun hi=> ?_⟩⟩
  ·have dS:=gT cP.2 hi
   have Sp: ∀i:Int,0≤i→i<J.O.length→hR a0 J i=true:=fun i i0 i1=>by
    have:=dS i i0 i1
    rw[Bool.or_eq_false_iff] at this
    simpa using this.1
   have aeK: ∀i k:Int,0≤i→i<J.O.length→0≤k→k<J.O.length→nG a0 J i k=false:=fun i k i0 i1 aZ dk=>by
    have:=dS i i0 i1
    rw[Bool.or_eq_false_iff] at this
    have h2:=this.2
    unfold MZ at h2
    rw[List.any_eq_false] at h2
    have:=h2 k.toNat (List.mem_range.2 (by omega))
    rw[Int.toNat_of_nonneg aZ] at this
    simpa using this
   have cO:iM a0 J:=Rs wX fun i i0 i1=>by
    have:=Sp i i0 i1
    rw[Sg,Bool.and_eq_true] at this;exact this.1
   obtain⟨dG,et,eN⟩:=wO J.O
   have mU:fP J.O (List.range J.O.length) (J.O.map aq.ah):=⟨dG,et,fun b hb=>by
    obtain⟨h,bz,rfl⟩:=List.mem_map.1 hb;exact hs.2.2.2 h bz⟩
   have FW:cE J.ok J.aN J.aH J.O (List.range J.O.length) (J.O.map aq.ah)=J:=by unfold cE;rw[eN]
   refine⟨hs,⟨mU,?_⟩,fun w i b kD=> ?_⟩
   ·show DH a0 (cE J.ok J.aN J.aH J.O (List.range J.O.length) (J.O.map aq.ah))
    rw[FW];exact⟨ci,cO⟩
   ·obtain⟨G,hv⟩:=kD
    replace hv:view w i b=(ef a0 (cE J.ok J.aN J.aH J.O (List.range J.O.length) (J.O.map aq.ah))).O:=hv
    rw[FW] at hv
    have aw:w.length=J.O.length:=by rw[←i_ G.ok,hv];exact qp _ _ _
    have RR:=x2 cO J.O.length
    obtain⟨s1,s2,eQ,akG⟩:=hs
    have oG:(ef a0 J).O.length=J.O.length:=qp _ _ _
    have zm: ∀h∈(ef a0 J).O,h.ah.length≤1048576:=fun h bz=>by
     obtain⟨j,al,rfl⟩:=List.mem_iff_getElem.1 bz
     have:=RR.ah j _ _ (List.getElem?_eq_getElem al) (List.getElem?_eq_getElem (by omega))
     rw[this]
     have:=(ci.ak _ (List.getElem_mem (show j<a0.O.length by omega))).2.1
     omega
    refine⟨⟨by show J.aN.length≤_;omega,by show J.aH.length≤_;omega,⟨G.ok,by omega,fun x hx=>by have:=G.len x hx;omega⟩,?_,⟨s1,s2,eQ,akG⟩,⟨s1,s2,?_,?_⟩,fun j x y aW e2=> ?_⟩,?_⟩
    ·show J.O.length=(view w i b).length;rw[i_ G.ok,aw]
    ·show(view w i b).length≤_;rw[i_ G.ok];omega
    ·show ∀h∈view w i b,_
     rw[hv];exact zm
    ·replace e2:(view w i b)[j]?=some y:=e2
     rw[hv] at e2
     have al:=(List.getElem?_eq_some_iff.1 aW).1
     have hw:=List.getElem?_eq_getElem (show j<a0.O.length by omega)
     rw[cO.ah j _ _ aW hw,RR.ah j _ _ e2 hw]
    ·unfold pN
     show decide (J.O=view w i b)=_
     rw[hv]
     by_cases h:J.O=(ef a0 J).O
     ·rw[decide_eq_true h,zg.2 ⟨wX,k0,Sp,aeK,h⟩]
     ·rw[decide_eq_false h]
      exact no _ D fun aV=>h aV.2.2.2.2
  ·have b3:=bX cP.2 hi
   refine⟨⟨⟨ci,hs,uL,b3.1,by omega⟩,fun hb=>no _ D fun aV=> ?_⟩,fun hb=>⟨cT (cN _),fun k hK=> ?_⟩⟩
   ·rw[aV.2.2.1 i b3.1 (by omega)] at hb;cases hb
   ·have hb:hR a0 J i=true:=by simpa using hb
    unfold NZ AY AX jD x_ lG
    refine⟨fun hk=> ?_,fun hk=>⟨?_,fun U=>cw (b5 hm) hK hk (not_eq U)⟩⟩
    ·have:=cw (b5 hm) cP.2 hi (show(!(hR a0 J i) || MZ a0 J J.O.length i)=false by
      rw[hb]
      exact List.any_eq_false.2 fun k kz=>by rw[gT hK hk k (by omega) (by have:=List.mem_range.1 kz;omega)];simp)
     exact⟨⟨k0,this.1⟩,this.2⟩
    ·have lV:=bX hK hk
     have hQ:=dD.len
     have eH:=dD.row i b3.1 (by omega)
     unfold NY jD x_
     refine⟨fun _=>⟨⟨b3.1,by omega⟩,⟨lV.1,by omega⟩,fun _=>⟨b3,fun _=>lV⟩⟩,fun U=>no _ D fun aV=> ?_⟩
     have:=aV.2.2.2.1 i k b3.1 (by omega) lV.1 (by omega)
     have U:nG a0 J i k=true:=U
     rw[this] at U;cases U
 ·have:=aV.2.1 _ (dz (bX aJ hv).2)
  unfold lv at this
  rw[Bool.and_eq_true] at this
  rw[this.1,this.2] at hb;cases hb)
end

section
variable (ad:Int→Prop) (m0:Int→Nat) (a0:aC) (J:Frame) (a2 a3:Int) (aa:Bool) (ch:Int)
abbrev O1:=((nth (nth a0.O a2).ak ch)==a3)&&(decide (ch ≥ (nth J.O a2).a7))
def Y9:Prop:=
  ((0≤ch∧ch.toNat<(nth a0.O a2).ak.length)∧((((nth (nth a0.O a2).ak ch)==a3)=true→0≤a2∧a2.toNat<J.O.length)∧((O1 a0 J a2 a3 ch)=true→true=aa)))∧((!(O1 a0 J a2 a3 ch))=true→ad (IntKind.i64.wrap (ch+1))∧m0 (IntKind.i64.wrap (ch+1))<m0 ch)
def Y_:Prop:=
  ((0≤a2∧a2.toNat<J.O.length)∧(((nth J.O a2).ar==0)=true→false=aa))∧((!((nth J.O a2).ar==0))=true→(0≤a2∧a2.toNat<a0.O.length)∧((nth a0.O a2).ak.length≤4611686018427387904→ad 0∧ ∀(ch:Int),ad ch→(((decide (ch<((nth a0.O a2).ak.length:Int)))=false→false=aa)∧((decide (ch<((nth a0.O a2).ak.length:Int)))=true→Y9 ad m0 a0 J a2 a3 aa ch))))
def Y8 (a0:aC) (J:Frame) (a2:Int) (a3:Int) (aa:Bool) (ad:Int→Prop) (m0:Int→Nat):Prop:=
 Y_ ad m0 a0 J a2 a3 aa
theorem amN (ae:u7 a0 J a2 a3):bc Tryz.prog 78 [.agg (bA false a0),.agg (cG false J),ab a2,ab a3] (an (ga a0 J a2 a3)):=(fun(ad:Int→Prop) (m0:Int→Nat) (h:Y8 a0 J a2 a3 (ga a0 J a2 a3) ad m0)=>bc.run (ps:=[.dl,.frame,.int,.int]) (rs:=[.bool]) (x:=(a0,J,a2,a3,())) (r:=((ga a0 J a2 a3),())) ⟨44,dj,[]⟩ ⟨[],[],[],[],[]⟩ (fb [2,3,5,23,24] [(5,4)] 25 ad m0 fun _=> .nil) Tryz.func78 h) (bW (nth a0.O a2).ak.length (fun k=>((nth (nth a0.O a2).ak k)==a3)&&(decide (k ≥ (nth J.O a2).a7)))) (cg (nth a0.O a2).ak.length) (by
 unfold Y8 Y_
 obtain⟨hf,az,h1⟩:=ae
 have hw:=hf.fr.O
 have aQ:a2.toNat<a0.O.length:=by omega
 have se:a2.toNat<J.O.length:=by omega
 have ax:=hf.fr.a7 _ (dz se)
 refine⟨⟨⟨az,se⟩,fun h=> ?_⟩,fun h=>⟨⟨az,aQ⟩,fun ag=>⟨cT (cN _),fun v aJ=>⟨fun hv=> ?_,fun hv=> ?_⟩⟩⟩⟩
 ·unfold ga
  rw[show((nth J.O a2).ar !=0)=false by simpa using h];rfl
 ·have hs:((nth J.O a2).ar !=0)=true:=by simpa using h
  unfold ga
  rw[hs,Bool.true_and,eq_comm,←Bool.not_eq_true,EV]
  rintro⟨k,hk,aw,he⟩
  have:=gT aJ hv k (by omega) (by omega)
  rw[jv aw,he] at this
  simp at this
  omega
 ·have hs:((nth J.O a2).ar !=0)=true:=by simpa using h
  have b3:=bX aJ hv
  unfold Y9 O1
  refine⟨⟨b3,fun _=>⟨az,se⟩,fun hb=> ?_⟩,fun hb=>cw (b5 ag) aJ hv (not_eq hb)⟩
  unfold ga
  rw[hs,Bool.true_and,eq_comm,EV]
  simp only[Bool.and_eq_true,beq_iff_eq,decide_eq_true_eq] at hb
  exact⟨v.toNat,by omega,b3.2,by rw[←fU b3.2];exact hb.1⟩)
def Za:cZ Tryz.prog:=⟨78,[.dl,.frame,.int,.int],[.bool],some fun x=>u7 x.1 x.2.1 x.2.2.1 x.2.2.2.1,fun x=>((ga x.1 x.2.1 x.2.2.1 x.2.2.2.1),()),fun x h=>amN x.1 x.2.1 x.2.2.1 x.2.2.2.1 h⟩
end
section
variable (a0:aC) (J:Frame) (a2 a3:Int) (aa:Bool)
def T2:Prop:=
 (0≤a2∧a2.toNat<a0.O.length)∧(((0≤a2∧a2.toNat<J.O.length)∧(((nth J.O a2).ar !=0)=true→0≤a2∧a2.toNat<J.O.length))∧((((nth J.O a2).ar !=0)&&((decide ((oH (nth a0.O a2).ak a3) ≥ (nth J.O a2).a7))&&(decide ((oH (nth a0.O a2).ak a3) ≥ 0))))=aa))
theorem agR (ae:u7 a0 J a2 a3):bc Tryz.prog 106 [.agg (bA false a0),.agg (cG false J),ab a2,ab a3] (an (ga a0 J a2 a3)):=(fun(h:T2 a0 J a2 a3 (ga a0 J a2 a3))=>bc.run (ps:=[.dl,.frame,.int,.int]) (rs:=[.bool]) (x:=(a0,J,a2,a3,())) (r:=((ga a0 J a2 a3),())) ⟨39,dj,[X3]⟩ ⟨[],[],[],[],[]⟩ .nil Tryz.func106 h) (by
 unfold T2
 obtain⟨hf,az,h1⟩:=ae
 have hw:=hf.fr.O
 have aQ:a2.toNat<a0.O.length:=by omega
 have se:a2.toNat<J.O.length:=by omega
 have ax:=hf.fr.a7 _ (dz se)
 refine⟨⟨az,aQ⟩,⟨⟨az,se⟩,fun _=>⟨az,se⟩⟩,?_⟩
 unfold ga
 rw[has_eq (akR hf.nL (dz aQ)) ax.1])
def T3:cZ Tryz.prog:=⟨106,[.dl,.frame,.int,.int],[.bool],some fun x=>u7 x.1 x.2.1 x.2.2.1 x.2.2.2.1,fun x=>((ga x.1 x.2.1 x.2.2.1 x.2.2.2.1),()),fun x h=>agR x.1 x.2.1 x.2.2.1 x.2.2.2.1 h⟩
end
section
variable (a0:aC) (J:Frame) (a2 aa:Int) (ad:Int→Prop) (m0:Int→Nat)
def T4:Prop:=
 a0.O.length≤4611686018427387904→ad 0∧ ∀(v11:Int),ad v11→(((decide (v11<(a0.O.length:Int)))=false→(-1)=aa)∧((decide (v11<(a0.O.length:Int)))=true→((u7 a0 J v11 a2)∧((ga a0 J v11 a2)=true→v11=aa))∧((!(ga a0 J v11 a2))=true→ad (IntKind.i64.wrap (v11+1))∧m0 (IntKind.i64.wrap (v11+1))<m0 v11)))
theorem ag0 (ae:aje a0 J a2):bc Tryz.prog 77 [.agg (bA false a0),.agg (cG false J),ab a2] (ab (tZ a0 J a2)):=(fun(ad:Int→Prop) (m0:Int→Nat) (h:T4 a0 J a2 (tZ a0 J a2) ad m0)=>bc.run (ps:=[.dl,.frame,.int]) (rs:=[.int]) (x:=(a0,J,a2,())) (r:=((tZ a0 J a2),())) ⟨21,dj,[T3]⟩ ⟨[],[],[],[],[]⟩ (fb [2,3,4,10] [(4,4),(3,5)] 11 ad m0 fun _=> .nil) Tryz.func77 h) (bW a0.O.length (fun i=>ga a0 J i a2)) (cg a0.O.length) (by
 unfold T4
 have hf:Fit a0 J:=ae
 intro ag
 refine⟨cT (cN _),fun v aJ=>⟨fun hv=> ?_,fun hv=>⟨⟨⟨hf,(bX aJ hv).1,by simpa using hv⟩,fun hb=> ?_⟩,fun hb=>cw (b5 ag) aJ hv (not_eq hb)⟩⟩⟩
 ·unfold tZ;rw[akg aJ hv];rfl
 ·unfold tZ;rw[akh aJ hv hb]
  have:=aJ.1
  show v=(v.toNat:Int);omega)
end
end Go.Proofs.YtejmihecgodhnaaGreatDoor.Fw
set_option linter.unusedVariables false
namespace Go.Proofs.YtejmihecgodhnaaGreatDoor.Fw
open Go
def Xl:AV→List Nat
 | .ref b _ _ _ _=>[b]
 | _=>[]
def Xm:AV→List Nat
 | .agg l=>l.flatMap Xl
 | a=>Xl a
def Xn:AV→List Nat
 | .tup l=>l.flatMap Xm
 | a=>Xm a
def Ws:AV→Bool
 | .aX rows _ _=>rows.isEmpty
 | .ref _ _ off _ _=>Nat.beq off 0
 | _=>true
def Wt:AV→Bool
 | .agg l=>l.all Ws
 | a=>Ws a
def Wu:AV→Bool
 | .tup l=>l.all Wt
 | a=>Wt a
def Ia (a:AV):Prop:=(Xn a).Nodup∧Wu a=true
def yF (P:Program) (f:FuncId) (args:List AV) (t:AV):Prop:=c0 P f args [] fun r e0=>iw e0 r t∧Ia r
def G9 (a:AV):Bool:=decide (Xn a).Nodup&&Wu a
theorem akn {a:AV} (h:G9 a=true):Ia a:=by
 unfold G9 at h
 rw[Bool.and_eq_true] at h
 exact⟨of_decide_eq_true h.1,h.2⟩
theorem yF.v {P:Program} {f:FuncId} {args:List AV} {t:AV} (h:yF P f args t):bc P f args t:=c0.mono h fun _ _ k=>k.1
def B5 (P:Program) (n:Nat) (fn:Func) (rs:List bg) (r:ck rs) (s:TS):aI:=
 .eq (G9 (s0 (cz (fn.results.toList.map (MS P n s))))) true (tj P n fn rs r s)
theorem Rg [FZ] {n:Nat} {s:TS} {R:Exit→TS→Prop} {P:Program} {fn:Func} {rs:List bg} {r:ck rs} (h:(B5 P n fn rs r s).den R):vL P fn (s.aj n) fun v H=>iw H v (r2 rs r)∧Ia v:=by
 obtain⟨aV,h⟩:=(show G9 (s0 (cz (fn.results.toList.map (MS P n s))))=true∧(tj P n fn rs r s).den R from h)
 have h':=Jl (n:=n) h
 unfold tj at h
 simp only at h
 obtain⟨h1,h2,au⟩:=h
 unfold vL at h' ⊢
 have JC:ui P (s.aj n) fn.results.toList=_:=congrFun h1 (s.aj n).H
 rw[congrFun JC] at h' ⊢
 exact⟨h'.1,h'.2,akn aV⟩
def Pn {P:Program} (cf:gV P) (ep:yJ P) (fn:Func) (ps rs:List bg) (x:ck ps) (r:ck rs) (a:lN):aI:=kk cf ep (some 0) (iP fn) (qe ps x) a fun ex s _=>match ex with
 | .normal=>B5 P cf.n fn rs r s
 | .ret=>B5 P cf.n fn rs r s
 | _=> .no
theorem yF.run {P:Program} {f:FuncId} {fn:Func} {ps rs:List bg} {x:ck ps} {r:ck rs} (cf:gV P) (ep:yJ P) (a:lN) {C:Prop} (hf:P.funcs[f]?=some fn) (h:C) (e:C=(Pn cf ep fn ps rs x r a).pk.den:=by kernel_rfl)
  (e2:(Pn cf ep fn ps rs x r a).lhs=(Pn cf ep fn ps rs x r a).rhs:=by kernel_rfl) (hb:fn.body=some (iP fn):=by kernel_rfl) (hm:(fn.name== "runtime.NumGoroutine")=false:=by kernel_rfl)
  (ag:(Nat.beq cf.n fn.ntmps&&Nat.ble cf.n 1000000&&Nat.ble ps.length cf.n)=true:=by kernel_rfl):yF P f (ox ps x) (r2 rs r):=by
 simp only[Bool.and_eq_true] at ag
 have h1:=Nat.eq_of_beq_eq_true ag.1.1
 have h2:=Nat.le_of_ble_eq_true ag.1.2
 have au:=Nat.le_of_ble_eq_true ag.2
 refine c0.Mk hf hb hm fun jc fZ=> ?_
 rw[@UE ⟨[],[]⟩ fn ps x (by rw[←h1];exact au) (by omega),←h1]
 refine aae h2 (fun k e=>by cases e;rw[fZ];exact Nat.le_refl _) (iP fn) (R:=fun _ _=>True) (K:=fun ex s _=>match ex with
  | .normal=>B5 P cf.n fn rs r s
  | .ret=>B5 P cf.n fn rs r s
  | _=> .no) (fun ex s _ Z hs hf=> ?_) ⟨[],[]⟩ (@Fits.none ⟨[],[]⟩ _ (LM ps x (by omega))) (aI.full (e▸h) e2)
 cases ex with
 | normal=>exact Rg hs
 | ret=>exact Rg hs
 | _=>exact hs.elim
end Go.Proofs.YtejmihecgodhnaaGreatDoor.Fw
set_option linter.unusedVariables false
set_option maxRecDepth 100000
set_option maxHeartbeats 4000000
set_option linter.unusedSimpArgs false
namespace Go.Proofs.YtejmihecgodhnaaGreatDoor.Fw
open Go
attribute [local irreducible] evS evSD WpS Weak Oper.looksAt
section
variable (a0:cU) (J:Int) (aa:Bool)
def agU:Prop:=
 (a0.be==J)=aa
theorem agV:bc Tryz.prog 117 [.agg (cQ a0),.dh [ab J] 0] (an (xE a0 J)):=(fun(h:agU a0 J (xE a0 J))=>bc.run (ps:=[.bj,(.ptr .int)]) (rs:=[.bool]) (x:=(a0,J,())) (r:=((xE a0 J),())) ⟨8,dj,[]⟩ ⟨[],[],[],[],[]⟩ .nil Tryz.func117 h) (by
 exact rfl)
def agW:cZ Tryz.prog:=⟨117,[.bj,(.ptr .int)],[.bool],none,fun x=>((xE x.1 x.2.1),()),fun x h=>agV x.1 x.2.1⟩
end
section
variable (a0:(List cU)) (J aa:Int) (ad:Int→Prop) (m0:Int→Nat)
def X1:Prop:=
 a0.length≤4611686018427387904→ad 0∧ ∀(db:Int),ad db→(((decide (db<(a0.length:Int)))=false→(-1)=aa)∧((decide (db<(a0.length:Int)))=true→((0≤db∧db.toNat<a0.length)∧((xE (nth a0 db) J)=true→db=aa))∧((!(xE (nth a0 db) J))=true→ad (IntKind.i64.wrap (db+1))∧m0 (IntKind.i64.wrap (db+1))<m0 db)))
theorem alv:bc Tryz.prog 125 [bq cQ a0,.fn 117 [.dh [ab J] 0]] (ab (tK a0 J)):=(fun(ad:Int→Prop) (m0:Int→Nat) (h:X1 a0 J (tK a0 J) ad m0)=>bc.run (ps:=[(.l .bj),(.jg 117 (.ptr .int))]) (rs:=[.int]) (x:=(a0,J,())) (r:=((tK a0 J),())) ⟨19,dj,[agW]⟩ ⟨[],[],[],[],[]⟩ (fb [0,1,7] [] 8 ad m0 fun _=> .nil) Tryz.func125 h) (bW a0.length (fun j=>xE (nth a0 j) J)) (cg a0.length) (by
 unfold X1
 intro ag
 refine⟨cT (cN _),fun v aJ=>⟨fun hv=> ?_,fun hv=>⟨⟨bX aJ hv,fun ae=> ?_⟩,fun ae=>cw (b5 ag) aJ hv (not_eq ae)⟩⟩⟩
 ·unfold tK;rw[sY (q:=fun x:cU=>x.be==J) aJ hv];rfl
 ·unfold tK;rw[sX (q:=fun x:cU=>x.be==J) aJ hv ae]
  have:=aJ.1
  show v=(v.toNat:Int)
  omega)
def alw:cZ Tryz.prog:=⟨125,[(.l .bj),(.jg 117 (.ptr .int))],[.int],none,fun x=>((tK x.1 x.2.1),()),fun x h=>alv x.1 x.2.1⟩
end
section
variable (a0:(List cU)) (J:Int) (aa:Bool)
def alr:Prop:=
 (decide ((tK a0 J) ≥ 0))=aa
theorem als:bc Tryz.prog 116 [bq cQ a0,.fn 117 [.dh [ab J] 0]] (an (lY a0 J)):=(fun(h:alr a0 J (lY a0 J))=>bc.run (ps:=[(.l .bj),(.jg 117 (.ptr .int))]) (rs:=[.bool]) (x:=(a0,J,())) (r:=((lY a0 J),())) ⟨9,dj,[alw]⟩ ⟨[],[],[],[],[]⟩ .nil Tryz.func116 h) (by
 exact af9 a0 J)
def alt:cZ Tryz.prog:=⟨116,[(.l .bj),(.jg 117 (.ptr .int))],[.bool],none,fun x=>((lY x.1 x.2.1),()),fun x h=>als x.1 x.2.1⟩
end
section
variable (a0:(List cU)) (J:Int) (aa:Bool)
def agX:Prop:=
 (lY a0 J)=aa
theorem agY:bc Tryz.prog 105 [bq cQ a0,ab J] (an (lY a0 J)):=(fun(h:agX a0 J (lY a0 J))=>bc.run (ps:=[(.l .bj),.int]) (rs:=[.bool]) (x:=(a0,J,())) (r:=((lY a0 J),())) ⟨8,dj,[alt]⟩ ⟨[],[],[],[],[]⟩ .nil Tryz.func105 h) (by
 exact rfl)
def agZ:cZ Tryz.prog:=⟨105,[(.l .bj),.int],[.bool],none,fun x=>((lY x.1 x.2.1),()),fun x h=>agY x.1 x.2.1⟩
end
section
abbrev l9 (r:Type):Type:=Nat→(List Int)→Int→r
variable (ad:l9 Prop) (m0:l9 Nat) (a0:aC) (J:Frame) (a2:Int) (g0:Nat) (aM:(List Int)) (dr:Int)
abbrev Lr:=(lY (nth a0.O dr).cB a2) || ((lY (nth a0.O dr).bm a2)&&(ga a0 J dr (nth a0.bb a2)))
abbrev xr:=IntKind.i64.wrap (dr+1)
def ag6:List Item:=(List.range 21).map bV
def ag7:List (List Nat):=[[],[0],[],[0,1,2],rg 0 4,rg 0 5,rg 0 6,rg 0 5,rg 0 8,rg 0 9,rg 0 10,rg 0 10,rg 0 10,rg 0 10,rg 0 10++[13],rg 0 10,rg 0 10++[13,14,15],rg 0 10++rg 13 17,rg 0 18,rg 0 19,rg 0 20]
def T9:Prop:=
  ((Lr a0 J a2 dr)=true→((aM.length+[dr].length)*8≤140737488355328∧aM.length+[dr].length≤4611686018427387904)∧(ad (g0+1) (aM++[dr]) (xr dr)∧m0 (g0+1) (aM++[dr]) (xr dr)<m0 g0 aM dr))∧((Lr a0 J a2 dr)=false→ad g0 aM (xr dr)∧m0 g0 aM (xr dr)<m0 g0 aM dr)
def T_:Prop:=
  ((0≤dr∧dr.toNat<J.O.length)∧(((nth J.O dr).ar==0)=true→ad g0 aM (xr dr)∧m0 g0 aM (xr dr)<m0 g0 aM dr))∧((!((nth J.O dr).ar==0))=true→((lY (nth a0.O dr).cB a2)=false→(lY (nth a0.O dr).bm a2)=true→(0≤a2∧a2.toNat<a0.bb.length)∧(u7 a0 J dr (nth a0.bb a2)))∧(T9 ad m0 a0 J a2 g0 aM dr))
def T8 (a0:aC) (J:Frame) (a2:Int) (aa:(List Int)) (ad:l9 Prop) (m0:l9 Nat):Prop:=
 a0.O.length≤4611686018427387904→ad 0 ([]:List Int) 0∧ ∀(g0:Nat) (aM:(List Int)) (dr:Int),ad g0 aM dr→(((decide (dr<(a0.O.length:Int)))=false→aM.length≤4611686018427387904∧aM=aa)∧((decide (dr<(a0.O.length:Int)))=true→(0≤dr∧dr.toNat<a0.O.length)∧(T_ ad m0 a0 J a2 g0 aM dr)))
theorem Lq (ae:sF a0 J a2):bc Tryz.prog 73 [.agg (bA false a0),.agg (cG false J),ab a2] (jP cd (gC a0 J a2)):=(fun(ad:l9 Prop) (m0:l9 Nat) (h:T8 a0 J a2 (gC a0 J a2) ad m0)=>bc.run (ps:=[.dl,.frame,.int]) (rs:=[(.l .int)]) (x:=(a0,J,a2,())) (r:=((gC a0 J a2),())) ⟨52,dj,[agZ,T3]⟩ ⟨[],[(6,ag6,ag7)],[],[],[]⟩ (.lp [(0,7,.int)] [2,3,4,11,12] [(4,4),(3,5)] [.nat,(.l .int),.int] [bw 0,bw 0,13] (fun aD=>[(7,.ref 0 aD.1 aD.2.1.length false),(13,.i .i64 aD.2.2.1),(bw 0,.blk aD.1 .int aD.2.1 _ rfl)]) (fun aD=>ad aD.1 aD.2.1 aD.2.2.1) (fun aD=>m0 aD.1 aD.2.1 aD.2.2.1) fun _=> .nil) Tryz.func73 h) (fun _ x v=>bW a0.O.length (fun _=>false) v∧x=dZ (fun i=>nD a0 J i a2) v) (fun _ _ v=>cg a0.O.length v) (by
 unfold T8
 obtain⟨hf,az,h1⟩:=ae
 have hw:=hf.fr.O
 have Cu:=hf.in.O
 have u6:=hf.in.bb
 intro ag
 refine⟨⟨cT (cN _),rfl⟩,fun g x v aJ=> ?_⟩
 obtain⟨aJ,rfl⟩:=aJ
 have gp:=aJ.1
 have hlen:=uV (fun i=>nD a0 J i a2) v
 have tJ:=aJ.2.1
 refine⟨fun hv=>⟨by omega,?_⟩,fun hv=>⟨bX aJ hv,?_⟩⟩
 ·have: ¬v<(a0.O.length:Int):=by simpa using hv
  rw[show v=(a0.O.length:Int) by omega];rfl
 have b3:=bX aJ hv
 have aS:=cw (b5 ag) aJ hv rfl
 have si:IntKind.i64.wrap (v+1)=v+1:=hL (b5 ag) gp (by simpa using hv)
 have s3:nD a0 J v a2=true→(bW a0.O.length (fun _=>false) (IntKind.i64.wrap (v+1))∧dZ (fun i=>nD a0 J i a2) v++[v]=dZ (fun i=>nD a0 J i a2) (IntKind.i64.wrap (v+1))):=fun h=>⟨aS.1,by rw[si,B4 gp,if_pos h]⟩
 have no:nD a0 J v a2=false→(bW a0.O.length (fun _=>false) (IntKind.i64.wrap (v+1))∧dZ (fun i=>nD a0 J i a2) v=dZ (fun i=>nD a0 J i a2) (IntKind.i64.wrap (v+1))):=fun h=>⟨aS.1,by rw[si,B4 gp,if_neg (by rw[h];simp)]⟩
 unfold T_ T9 xr Lr
 refine⟨⟨⟨gp,by omega⟩,fun aB=>⟨no ?_,aS.2⟩⟩,fun aB=>⟨fun _ _=>⟨⟨az,by omega⟩,hf,gp,by omega⟩,⟨fun U=>⟨⟨?_,?_⟩,s3 ?_,aS.2⟩,fun U=>⟨no ?_,aS.2⟩⟩⟩⟩
 ·unfold nD
  rw[show((nth J.O v).ar !=0)=false by simpa using aB];rfl
 ·simp only[List.length_singleton];omega
 ·simp only[List.length_singleton];omega
 ·unfold nD
  rw[show((nth J.O v).ar !=0)=true by simpa using aB];exact U
 ·unfold nD
  rw[show((nth J.O v).ar !=0)=true by simpa using aB];exact U)
def ag5:cZ Tryz.prog:=⟨73,[.dl,.frame,.int],[(.l .int)],some fun x=>sF x.1 x.2.1 x.2.2.1,fun x=>((gC x.1 x.2.1 x.2.2.1),()),fun x h=>Lq x.1 x.2.1 x.2.2.1 h⟩
end
section
variable (ad:Int→Prop) (m0:Int→Nat) (aU:Int→Int→Prop) (m1:Int→Int→Nat) (a0:aC) (J:Frame) (a2 a3 aa dv ey:Int)
abbrev sT:=(nth a0.O a2).bm
abbrev uv:=(nth a0.O a2).cB
def amW:List Item:=(List.range 15).map bV
def amX:List (List Nat):=[[],[0],[],[0,1,2],rg 0 4,rg 0 5,rg 0 5,rg 0 5,rg 0 5,rg 0 5++[8],rg 0 5,rg 0 5++[8,9,10],rg 0 5++rg 8 12,rg 0 13,rg 0 14]
def Zu:Prop:=
  ((0≤ey∧ey.toNat<(sT a0 a2).length)∧((((nth (sT a0 a2) ey).be==a3)=true→(0≤a3∧a3.toNat<a0.bb.length)∧(u7 a0 J a2 (nth a0.bb a3)))∧((((nth (sT a0 a2) ey).be==a3)&&(ga a0 J a2 (nth a0.bb a3)))=true→(nth (sT a0 a2) ey).bj=aa)))∧((!(((nth (sT a0 a2) ey).be==a3)&&(ga a0 J a2 (nth a0.bb a3))))=true→aU dv (IntKind.i64.wrap (ey+1))∧m1 dv (IntKind.i64.wrap (ey+1))<m1 dv ey)
def Zv:Prop:=
  ((decide (dv<((uv a0 a2).length:Int)))=false→(0≤a2∧a2.toNat<a0.O.length)∧((sT a0 a2).length≤4611686018427387904→aU dv 0∧ ∀(ey:Int),aU dv ey→(((decide (ey<((sT a0 a2).length:Int)))=false→0=aa)∧((decide (ey<((sT a0 a2).length:Int)))=true→Zu aU m1 a0 J a2 a3 aa dv ey))))∧((decide (dv<((uv a0 a2).length:Int)))=true→((0≤dv∧dv.toNat<(uv a0 a2).length)∧(((nth (uv a0 a2) dv).be==a3)=true→(nth (uv a0 a2) dv).bj=aa))∧((!((nth (uv a0 a2) dv).be==a3))=true→ad (IntKind.i64.wrap (dv+1))∧m0 (IntKind.i64.wrap (dv+1))<m0 dv))
def Zt (a0:aC) (J:Frame) (a2:Int) (a3:Int) (aa:Int) (ad:Int→Prop) (m0:Int→Nat) (aU:Int→Int→Prop) (m1:Int→Int→Nat):Prop:=
 ((0≤a2∧a2.toNat<J.O.length)∧(((nth J.O a2).ar==0)=true→0=aa))∧((!((nth J.O a2).ar==0))=true→(0≤a2∧a2.toNat<a0.O.length)∧((uv a0 a2).length≤4611686018427387904→ad 0∧ ∀(dv:Int),ad dv→(Zv ad m0 aU m1 a0 J a2 a3 aa dv)))
theorem amU (ae:Pz a0 J a2 a3):bc Tryz.prog 98 [.agg (bA false a0),.agg (cG false J),ab a2,ab a3] (ab (qG a0 J a2 a3)):=(fun(ad:Int→Prop) (m0:Int→Nat) (aU:Int→Int→Prop) (m1:Int→Int→Nat) (h:Zt a0 J a2 a3 (qG a0 J a2 a3) ad m0 aU m1)=>bc.run (ps:=[.dl,.frame,.int,.int]) (rs:=[.int]) (x:=(a0,J,a2,a3,())) (r:=((qG a0 J a2 a3),())) ⟨67,dj,[Za]⟩ ⟨[],[(12,amW,amX)],[],[],[]⟩ (fb [2,3,4,5,25,26] [(5,4),(4,5)] 27 ad m0 fun aD=>(fb [2,3,4,5,43,44] [(5,4),(4,5)] 45 (aU aD) (m1 aD) fun _=> .nil)) Tryz.func98 h) (bW (nth a0.O a2).cB.length (fun j=>(nth (nth a0.O a2).cB j).be==a3)) (cg (nth a0.O a2).cB.length) (fun _=>bW (nth a0.O a2).bm.length (fun j=>(nth (nth a0.O a2).bm j).be==a3&&ga a0 J a2 (nth a0.bb a3))) (fun _=>cg (nth a0.O a2).bm.length) (by
 unfold Zt uv
 obtain⟨hf,az,h1,h2,au⟩:=ae
 have hw:=hf.fr.O
 refine⟨⟨⟨az,by omega⟩,fun aB=> ?_⟩,fun aB=>⟨⟨az,by omega⟩,fun ag=>⟨cT (cN _),fun v aJ=> ?_⟩⟩⟩
 ·unfold qG;rw[if_pos (by simpa using aB)]
 have aB: ¬(nth J.O a2).ar=0:=by simpa using aB
 unfold Zv uv sT
 refine⟨fun hv=>⟨⟨az,by omega⟩,fun hm=>⟨cT (cN _),fun k hK=> ?_⟩⟩,fun hv=>⟨⟨bX aJ hv,fun hb=> ?_⟩,fun hb=>cw (b5 ag) aJ hv (not_eq hb)⟩⟩
 ·have aW:=sY (q:=fun x:cU=>x.be==a3) aJ hv
  unfold Zu sT
  refine⟨fun hk=> ?_,fun hk=>⟨⟨bX hK hk,fun _=>⟨⟨h2,by omega⟩,hf,az,h1⟩,fun hb=> ?_⟩,fun hb=>cw (b5 hm) hK hk (not_eq hb)⟩⟩
  ·unfold qG
   rw[if_neg aB,aW]
   simp only
   rw[sY (q:=fun x:cU=>x.be==a3&&ga a0 J a2 (nth a0.bb a3)) hK hk]
  ·unfold qG
   rw[if_neg aB,aW]
   simp only
   rw[sX (q:=fun x:cU=>x.be==a3&&ga a0 J a2 (nth a0.bb a3)) hK hk hb]
   simp only[kH hK.1]
 ·unfold qG
  rw[if_neg aB,sX (q:=fun x:cU=>x.be==a3) aJ hv hb]
  simp only[kH aJ.1])
def amV:cZ Tryz.prog:=⟨98,[.dl,.frame,.int,.int],[.int],some fun x=>Pz x.1 x.2.1 x.2.2.1 x.2.2.2.1,fun x=>((qG x.1 x.2.1 x.2.2.1 x.2.2.2.1),()),fun x h=>amU x.1 x.2.1 x.2.2.1 x.2.2.2.1 h⟩
end
section
variable (ad:l9 Prop) (m0:l9 Nat) (a0:aC) (J:Frame) (a2:Int) (g0:Nat) (aM:(List Int)) (v12:Int)
def Zc:Prop:=
  ((decide ((qG a0 J v12 a2)>0))=true→((aM.length+[v12].length)*8≤140737488355328∧aM.length+[v12].length≤4611686018427387904)∧(ad (g0+1) (aM++[v12]) (IntKind.i64.wrap (v12+1))∧m0 (g0+1) (aM++[v12]) (IntKind.i64.wrap (v12+1))<m0 g0 aM v12))∧((decide ((qG a0 J v12 a2)>0))=false→ad g0 aM (IntKind.i64.wrap (v12+1))∧m0 g0 aM (IntKind.i64.wrap (v12+1))<m0 g0 aM v12)
def Zb (a0:aC) (J:Frame) (a2:Int) (aa:(List Int)) (ad:l9 Prop) (m0:l9 Nat):Prop:=
 a0.O.length≤4611686018427387904→ad 0 ([]:List Int) 0∧ ∀(g0:Nat) (aM:(List Int)) (v12:Int),ad g0 aM v12→(((decide (v12<(a0.O.length:Int)))=false→aM.length≤4611686018427387904∧aM=aa)∧((decide (v12<(a0.O.length:Int)))=true→(Pz a0 J v12 a2)∧(Zc ad m0 a0 J a2 g0 aM v12)))
theorem Zd (ae:sF a0 J a2):bc Tryz.prog 62 [.agg (bA false a0),.agg (cG false J),ab a2] (jP cd (gC a0 J a2)):=(fun(ad:l9 Prop) (m0:l9 Nat) (h:Zb a0 J a2 (gC a0 J a2) ad m0)=>bc.run (ps:=[.dl,.frame,.int]) (rs:=[(.l .int)]) (x:=(a0,J,a2,())) (r:=((gC a0 J a2),())) ⟨27,dj,[amV]⟩ ⟨[],[],[],[],[]⟩ (.lp [(0,7,.int)] [2,3,4,11] [(4,4),(3,5)] [.nat,(.l .int),.int] [bw 0,bw 0,12] (fun aD=>[(7,.ref 0 aD.1 aD.2.1.length false),(12,.i .i64 aD.2.2.1),(bw 0,.blk aD.1 .int aD.2.1 _ rfl)]) (fun aD=>ad aD.1 aD.2.1 aD.2.2.1) (fun aD=>m0 aD.1 aD.2.1 aD.2.2.1) fun _=> .nil) Tryz.func62 h) (fun _ x v=>bW a0.O.length (fun _=>false) v∧x=dZ (fun i=>nD a0 J i a2) v) (fun _ _ v=>cg a0.O.length v) (by
 unfold Zb
 obtain⟨hf,az,h1⟩:=ae
 have Cu:=hf.in.O
 intro ag
 refine⟨⟨cT (cN _),rfl⟩,fun g x v aJ=> ?_⟩
 obtain⟨aJ,rfl⟩:=aJ
 have gp:=aJ.1
 have hlen:=uV (fun i=>nD a0 J i a2) v
 have tJ:=aJ.2.1
 refine⟨fun hv=>⟨by omega,?_⟩,fun hv=>⟨⟨hf,gp,by have:=bX aJ hv;omega,az,h1⟩,?_⟩⟩
 ·have: ¬v<(a0.O.length:Int):=by simpa using hv
  rw[show v=(a0.O.length:Int) by omega];rfl
 have aS:=cw (b5 ag) aJ hv rfl
 have si:IntKind.i64.wrap (v+1)=v+1:=hL (b5 ag) gp (by simpa using hv)
 unfold Zc
 rw[anx hf.nL (bX aJ hv).2]
 refine⟨fun U=>⟨⟨?_,?_⟩,⟨aS.1,by rw[si,B4 gp,if_pos U]⟩,aS.2⟩,fun U=>⟨⟨aS.1,by rw[si,B4 gp,if_neg (by rw[U];simp)]⟩,aS.2⟩⟩
 ·simp only[List.length_singleton];omega
 ·simp only[List.length_singleton];omega)
def Ze:cZ Tryz.prog:=⟨62,[.dl,.frame,.int],[(.l .int)],some fun x=>sF x.1 x.2.1 x.2.2.1,fun x=>((gC x.1 x.2.1 x.2.2.1),()),fun x h=>Zd x.1 x.2.1 x.2.2.1 h⟩
end
section
abbrev Bp (r:Type):Type:=Nat→(List Int)→Int→Nat→(List Int)→Int→r
abbrev Bq (r:Type):Type:=Nat→(List Int)→Int→Nat→(List Int)→Int→Nat→(List Int)→Int→Bool→Bool→r
abbrev Br (r:Type):Type:=Nat→(List Int)→Int→Nat→(List Int)→Int→Nat→(List Int)→Int→Bool→Bool→Nat→(List Int)→Int→Bool→Bool→r
variable (ad:l9 Prop) (m0:l9 Nat) (aU:Bp Prop) (m1:Bp Nat) (bH:Bq Prop) (m2:Bq Nat) (cX:Br Prop) (m3:Br Nat) (a0:aC) (J:Frame) (a2:Int) (aa:rP×Bool×Bool) (g0:Nat) (aM:(List Int)) (dW:Int) (g1:Nat) (aL:(List Int)) (v76:Int) (g2:Nat) (bO:(List Int)) (jM:Int) (eE db:Bool) (eD:Int) (mm:Nat) (e_:(List Int)) (nz nB:Bool)
abbrev KN:=(dW !=a2)&&(((nth J.O dW).ar !=0)&&((nth (nth a0.bF a2) dW) || ((meets (nth a0.O a2).ak (nth a0.O dW).over) || (meets (nth a0.O a2).over (nth a0.O dW).ak))))
abbrev xi:=decide (((gC a0 J eD).length:Int)>0)
abbrev KO:=((nth (bE (nth a0.O a2)) jM).be !=eD) || ((nth J.aH eD).dc==(nth (bE (nth a0.O a2)) jM).bj)
abbrev vg:=IntKind.i64.wrap (jM+1)
abbrev KP:=(nth J.aN v76)&&((gA (nth a0.O a2).ak v76) || (gA (nth a0.O a2).over v76))
abbrev xj:=nth J.aN (nth a0.bb eD)
def agt:List Item:=(List.range 15).map bV
def agu:List (List Nat):=[[],[0],[],[0,1,2],rg 0 4,rg 0 5,rg 0 6,rg 0 5,rg 0 8,rg 0 9,rg 0 10,rg 0 5,rg 0 5++[11],rg 0 13,rg 0 14]
def agv:List Item:=(List.range 10).map bV
def agw:List (List Nat):=[[],[0],[],[2],[],[2,3,4],rg 2 6,rg 0 7,rg 0 8,rg 0 9]
def Tr:Prop:=
  (((xi a0 J eD) || (xj a0 J eD))=true→((e_.length+[eD].length)*8≤140737488355328∧e_.length+[eD].length≤4611686018427387904)∧(cX g0 aM dW g1 aL v76 g2 bO eD eE db (mm+1) (e_++[eD]) (vg jM) (nz || (xi a0 J eD)) (nB || (xj a0 J eD))∧m3 g0 aM dW g1 aL v76 g2 bO eD eE db (mm+1) (e_++[eD]) (vg jM) (nz || (xi a0 J eD)) (nB || (xj a0 J eD))<m3 g0 aM dW g1 aL v76 g2 bO eD eE db mm e_ jM nz nB))∧(((xi a0 J eD) || (xj a0 J eD))=false→cX g0 aM dW g1 aL v76 g2 bO eD eE db mm e_ (vg jM) (nz || (xi a0 J eD)) (nB || (xj a0 J eD))∧m3 g0 aM dW g1 aL v76 g2 bO eD eE db mm e_ (vg jM) (nz || (xi a0 J eD)) (nB || (xj a0 J eD))<m3 g0 aM dW g1 aL v76 g2 bO eD eE db mm e_ jM nz nB)
def Ts:Prop:=
  ((((nth (bE (nth a0.O a2)) jM).be !=eD)=false→0≤eD∧eD.toNat<J.aH.length)∧((KO a0 J a2 jM eD)=true→cX g0 aM dW g1 aL v76 g2 bO eD eE db mm e_ (vg jM) nz nB∧m3 g0 aM dW g1 aL v76 g2 bO eD eE db mm e_ (vg jM) nz nB<m3 g0 aM dW g1 aL v76 g2 bO eD eE db mm e_ jM nz nB))∧((!(KO a0 J a2 jM eD))=true→(sF a0 J eD)∧((gC a0 J eD).length≤4611686018427387904→((0≤eD∧eD.toNat<a0.bb.length)∧(0≤(nth a0.bb eD)∧(nth a0.bb eD).toNat<J.aN.length))∧(Tr cX m3 a0 J g0 aM dW g1 aL v76 g2 bO jM eE db eD mm e_ nz nB)))
def Tt:Prop:=
  ((decide (jM<((bE (nth a0.O a2)).length:Int)))=false→bH g0 aM dW g1 aL v76 mm e_ (IntKind.i64.wrap (eD+1)) nz nB∧m2 g0 aM dW g1 aL v76 mm e_ (IntKind.i64.wrap (eD+1)) nz nB<m2 g0 aM dW g1 aL v76 g2 bO eD eE db)∧((decide (jM<((bE (nth a0.O a2)).length:Int)))=true→(0≤jM∧jM.toNat<(bE (nth a0.O a2)).length)∧(Ts cX m3 a0 J a2 g0 aM dW g1 aL v76 g2 bO jM eE db eD mm e_ nz nB))
def Tu:Prop:=
  ((decide (eD<(a0.bb.length:Int)))=false→(aM.length≤4611686018427387904∧aM=aa.1.O)∧(aL.length≤4611686018427387904∧aL=aa.1.ak)∧(bO.length≤4611686018427387904∧bO=aa.1.aH)∧(eE=aa.2.1)∧(db=aa.2.2))∧((decide (eD<(a0.bb.length:Int)))=true→(At (nth a0.O a2))∧((bE (nth a0.O a2)).length≤4611686018427387904→cX g0 aM dW g1 aL v76 g2 bO eD eE db g2 bO 0 eE db∧ ∀(mm:Nat) (e_:(List Int)) (jM:Int) (nz:Bool) (nB:Bool),cX g0 aM dW g1 aL v76 g2 bO eD eE db mm e_ jM nz nB→(Tt bH m2 cX m3 a0 J a2 g0 aM dW g1 aL v76 g2 bO jM eE db eD mm e_ nz nB)))
def Tv:Prop:=
  ((KP a0 J a2 v76)=true→((aL.length+[v76].length)*8≤140737488355328∧aL.length+[v76].length≤4611686018427387904)∧(aU g0 aM dW (g1+1) (aL++[v76]) (IntKind.i64.wrap (v76+1))∧m1 g0 aM dW (g1+1) (aL++[v76]) (IntKind.i64.wrap (v76+1))<m1 g0 aM dW g1 aL v76))∧((KP a0 J a2 v76)=false→aU g0 aM dW g1 aL (IntKind.i64.wrap (v76+1))∧m1 g0 aM dW g1 aL (IntKind.i64.wrap (v76+1))<m1 g0 aM dW g1 aL v76)
def Tw:Prop:=
  ((decide (v76<a0.ak))=false→a0.bb.length≤4611686018427387904→bH g0 aM dW g1 aL v76 0 ([]:List Int) 0 false false∧ ∀(g2:Nat) (bO:(List Int)) (eD:Int) (eE:Bool) (db:Bool),bH g0 aM dW g1 aL v76 g2 bO eD eE db→(Tu bH m2 cX m3 a0 J a2 aa g0 aM dW g1 aL v76 g2 bO eE db eD))∧((decide (v76<a0.ak))=true→(0≤v76∧v76.toNat<J.aN.length)∧(Tv aU m1 a0 J a2 g0 aM dW g1 aL v76))
def Tx:Prop:=
  ((KN a0 J a2 dW)=true→((aM.length+[dW].length)*8≤140737488355328∧aM.length+[dW].length≤4611686018427387904)∧(ad (g0+1) (aM++[dW]) (IntKind.i64.wrap (dW+1))∧m0 (g0+1) (aM++[dW]) (IntKind.i64.wrap (dW+1))<m0 g0 aM dW))∧((KN a0 J a2 dW)=false→ad g0 aM (IntKind.i64.wrap (dW+1))∧m0 g0 aM (IntKind.i64.wrap (dW+1))<m0 g0 aM dW)
def Ty:Prop:=
  ((decide (dW<(a0.O.length:Int)))=false→aU g0 aM dW 0 ([]:List Int) 0∧ ∀(g1:Nat) (aL:(List Int)) (v76:Int),aU g0 aM dW g1 aL v76→(Tw aU m1 bH m2 cX m3 a0 J a2 aa g0 aM dW g1 aL v76))∧((decide (dW<(a0.O.length:Int)))=true→(0≤dW∧dW.toNat<a0.O.length)∧(((dW !=a2)=true→(0≤dW∧dW.toNat<J.O.length)∧(((nth J.O dW).ar !=0)=true→(0≤a2∧a2.toNat<a0.bF.length)∧(0≤dW∧dW.toNat<(nth a0.bF a2).length)))∧(Tx ad m0 a0 J a2 g0 aM dW)))
def Tq (a0:aC) (J:Frame) (a2:Int) (aa:rP×Bool×Bool) (ad:l9 Prop) (m0:l9 Nat) (aU:Bp Prop) (m1:Bp Nat) (bH:Bq Prop) (m2:Bq Nat) (cX:Br Prop) (m3:Br Nat):Prop:=
 (0≤a2∧a2.toNat<a0.O.length)∧(a0.O.length≤4611686018427387904→ad 0 ([]:List Int) 0∧ ∀(g0:Nat) (aM:(List Int)) (dW:Int),ad g0 aM dW→(Ty ad m0 aU m1 bH m2 cX m3 a0 J a2 aa g0 aM dW))
theorem agq (ae:rM a0 J a2):yF Tryz.prog 103 [.agg (bA false a0),.agg (cG false J),ab a2] (.tup [.agg (EX true ((je a0 J a2).1)),an ((je a0 J a2).2.1),an ((je a0 J a2).2.2)]):=(fun(ad:l9 Prop) (m0:l9 Nat) (aU:Bp Prop) (m1:Bp Nat) (bH:Bq Prop) (m2:Bq Nat) (cX:Br Prop) (m3:Br Nat) (h:Tq a0 J a2 (je a0 J a2) ad m0 aU m1 bH m2 cX m3)=>yF.run (ps:=[.dl,.frame,.int]) (rs:=[.stays,.bool,.bool]) (x:=(a0,J,a2,())) (r:=((je a0 J a2).1,(je a0 J a2).2.1,(je a0 J a2).2.2,())) ⟨169,dj,[Lp,ag5,Hm,Ln]⟩ ⟨[],[(20,agt,agu),(22,agv,agw)],[],[],[]⟩ (.lp [(7,0,.int)] [2,3,4,6,7,8,9,24,25] [(9,5),(6,3),(4,4),(3,5)] [.nat,(.l .int),.int] [bw 0,bw 0,26] (fun aD=>[(26,.i .i64 aD.2.2.1),(fF 6 0,.ref 0 aD.1 aD.2.1.length false),(bw 0,.blk aD.1 .int aD.2.1 _ rfl)]) (fun aD=>ad aD.1 aD.2.1 aD.2.2.1) (fun aD=>m0 aD.1 aD.2.1 aD.2.2.1) fun aD=>(.lp [(7,1,.int)] [3,4,6,7,8,9,75] [(9,5),(6,3),(4,4),(3,5)] [.nat,(.l .int),.int] [bw 1,bw 1,76] (fun bp=>[(76,.i .i64 bp.2.2.1),(fF 6 1,.ref 1 bp.1 bp.2.1.length false),(bw 1,.blk bp.1 .int bp.2.1 _ rfl)]) (fun bp=>aU aD.1 aD.2.1 aD.2.2.1 bp.1 bp.2.1 bp.2.2.1) (fun bp=>m1 aD.1 aD.2.1 aD.2.2.1 bp.1 bp.2.1 bp.2.2.1) fun bp=>(.lp [(7,2,.int)] [3,4,6,9,105] [(9,5),(6,3),(4,4),(3,5)] [.nat,(.l .int),.int,.bool,.bool] [bw 2,bw 2,106,7,8] (fun bn=>[(7,.b (.v bn.2.2.2.1)),(8,.b (.v bn.2.2.2.2.1)),(106,.i .i64 bn.2.2.1),(fF 6 2,.ref 2 bn.1 bn.2.1.length false),(bw 2,.blk bn.1 .int bn.2.1 _ rfl)]) (fun bn=>bH aD.1 aD.2.1 aD.2.2.1 bp.1 bp.2.1 bp.2.2.1 bn.1 bn.2.1 bn.2.2.1 bn.2.2.2.1 bn.2.2.2.2.1) (fun bn=>m2 aD.1 aD.2.1 aD.2.2.1 bp.1 bp.2.1 bp.2.2.1 bn.1 bn.2.1 bn.2.2.1 bn.2.2.2.1 bn.2.2.2.2.1) fun bn=>(.lp [] [3,4,6,9,13,105,106,110,111] [(9,5),(6,3),(4,4),(3,5)] [.nat,(.l .int),.int,.bool,.bool] [bw 2,bw 2,112,7,8] (fun en=>[(7,.b (.v en.2.2.2.1)),(8,.b (.v en.2.2.2.2.1)),(112,.i .i64 en.2.2.1),(fF 6 2,.ref 2 en.1 en.2.1.length false),(bw 2,.blk en.1 .int en.2.1 _ rfl)]) (fun en=>cX aD.1 aD.2.1 aD.2.2.1 bp.1 bp.2.1 bp.2.2.1 bn.1 bn.2.1 bn.2.2.1 bn.2.2.2.1 bn.2.2.2.2.1 en.1 en.2.1 en.2.2.1 en.2.2.2.1 en.2.2.2.2.1) (fun en=>m3 aD.1 aD.2.1 aD.2.2.1 bp.1 bp.2.1 bp.2.2.1 bn.1 bn.2.1 bn.2.2.1 bn.2.2.2.1 bn.2.2.2.2.1 en.1 en.2.1 en.2.2.1 en.2.2.2.1 en.2.2.2.2.1) fun _=> .nil)))) Tryz.func103 h) (fun _ x v=>bW a0.O.length (fun _=>false) v∧x=dZ (lk a0 J a2) v) (fun _ _ v=>cg a0.O.length v) (fun _ aM _ _ aL v=>aM=dZ (lk a0 J a2) a0.O.length∧bW a0.ak (fun _=>false) v∧aL=dZ (oC a0 J a2) v) (fun _ _ _ _ _ v=>cg a0.ak v) (fun _ aM _ _ aL _ _ bO v a b=>aM=dZ (lk a0 J a2) a0.O.length∧aL=dZ (oC a0 J a2) a0.ak∧bW a0.bb.length (fun _=>false) v∧bO=dZ (lj a0 J a2) v∧a=ze a0 J a2 v∧b=DK a0 J a2 v) (fun _ _ _ _ _ _ _ _ v _ _=>cg a0.bb.length v) (fun _ _ _ _ _ _ _ x k a b _ lM j ib bS=>abr a0 J a2 k x a b lM j ib bS) (fun _ _ _ _ _ _ _ _ _ _ _ _ _ j _ _=>cg (bE (nth a0.O a2)).length j) (by
 unfold Tq
 obtain⟨hf,az,h1⟩:=ae
 have hw:=hf.fr.O
 have k0:=hf.fr.aH
 have nS:=hf.fr.aN
 have ci:=hf.in
 have Cu:=ci.O
 have zB:=ci.be
 have tE:=ci.cx
 have dD:=GV hf.nL
 have aQ:a2.toNat<a0.O.length:=by omega
 have Cs:=dz aQ
 have mZ:=Mg hf.nL Cs
 refine⟨⟨az,aQ⟩,fun ag=>⟨⟨cT (cN _),rfl⟩,fun g x v aJ=> ?_⟩⟩
 obtain⟨aJ,rfl⟩:=aJ
 have hlen:=uV (lk a0 J a2) v
 have tJ:=aJ.2.1
 unfold Ty
 refine⟨fun hv=>⟨⟨zc aJ hv,cT tE.1,rfl⟩,fun g1 aL s cP=> ?_⟩,fun hv=>⟨bX aJ hv,⟨fun _=> ?_,?_⟩⟩⟩
 ·obtain⟨hS,cP,rfl⟩:=cP
  have afa:=uV (oC a0 J a2) s
  have afH:=cP.2.1
  unfold Tw
  refine⟨fun hs hm=>⟨⟨hS,zc cP hs,cT (cN _),rfl,rfl,rfl⟩,fun g2 bO k a b hK=> ?_⟩,fun hs=> ?_⟩
  ·obtain⟨_,sj,hK,rfl,rfl,rfl⟩:=hK
   have FK:=uV (lj a0 J a2) k
   have lV:=hK.2.1
   unfold Tu
   refine⟨fun hk=> ?_,fun hk=>⟨⟨by have:=(ci.bm _ Cs).1;omega,by have:=(ci.bm _ Cs).2.1;omega⟩,fun FR=> ?_⟩⟩
   ·have aW:=zc (q:=lj a0 J a2) hK hk
    have e:k=a0.bb.length:=by
     have: ¬k<(a0.bb.length:Int):=by simpa using hk
     omega
    refine⟨⟨by omega,hS⟩,⟨by omega,sj⟩,⟨by omega,aW⟩,?_,?_⟩
    ·rw[e];rfl
    ·rw[e];rfl
   ·have Cp:=bX hK hk
    have kY:=cw (b5 hm) hK hk rfl
    refine⟨⟨cT (cN _),by simp[oP],by simp[oP],by simp[oP]⟩,fun mm e_ j ib bS bC=> ?_⟩
    obtain⟨bC,rfl,rfl,rfl⟩:=bC
    unfold Tt
    refine⟨fun al=> ?_,fun al=>⟨bX bC al,?_⟩⟩
    ·have q8: ¬j<((bE (nth a0.O a2)).length:Int):=by simpa using al
     rw[akS _ _ _ _ (j:=j.toNat) (by omega)]
     have s1:=r5 (q:=lj a0 J a2) (b5 hm) hK hk
     have s2:=(r5 (q:=fun k=>k7 a0 J a2 k&&jl a0 J k) (b5 hm) hK hk).2.2
     have eQ:=(r5 (q:=fun k=>k7 a0 J a2 k&&kI a0 J k) (b5 hm) hK hk).2.2
     refine⟨⟨hS,sj,kY.1,?_,s2.symm,eQ.symm⟩,kY.2⟩
     cases U:lj a0 J a2 k with
     | true=>rw[if_pos (show(k7 a0 J a2 k&&(jl a0 J k || kI a0 J k))=true from U)];exact s1.1 U
     | false=>rw[if_neg (by rw[show(k7 a0 J a2 k&&(jl a0 J k || kI a0 J k))=false from U];simp)];exact s1.2.1 U
    ·have FF:=bX bC al
     have u4:=cw (b5 FR) bC al rfl
     have E0:(IntKind.i64.wrap (j+1)).toNat=j.toNat+1:=by rw[hL (b5 FR) bC.1 (by simpa using al)];omega
     have tH:=akU (f:=J) (k:=k) FF.2
     have afi:nth (bE (nth a0.O a2)) j=(bE (nth a0.O a2))[j.toNat]'FF.2:=fU FF.2
     have Ki:=ci.bb _ (dz Cp.2)
     have JO: ∀(c:Prop) [Decidable c],(if c then dZ (lj a0 J a2) k++[k] else dZ (lj a0 J a2) k).length≤41:=fun c _=>by
      split
      ·rw[List.length_append,List.length_singleton];omega
      ·omega
     unfold Ts vg KO
     rw[afi]
     refine⟨⟨fun _=>⟨hK.1,by omega⟩,fun U=> ?_⟩,fun U=>⟨⟨hf,hK.1,by omega⟩,fun iC=>⟨⟨⟨hK.1,Cp.2⟩,Ki.1,by omega⟩,?_⟩⟩⟩
     ·have:((bE (nth a0.O a2))[j.toNat].be==k&& !((nth J.aH k).dc==(bE (nth a0.O a2))[j.toNat].bj))=false:=by
       revert U
       rw[show((bE (nth a0.O a2))[j.toNat].be !=k)= !((bE (nth a0.O a2))[j.toNat].be==k) from rfl]
       cases((bE (nth a0.O a2))[j.toNat].be==k)<;>cases((nth J.aH k).dc==(bE (nth a0.O a2))[j.toNat].bj)<;>simp
      rw[this,Bool.or_false] at tH
      exact⟨⟨u4.1,by rw[E0,tH],by rw[E0,tH],by rw[E0,tH]⟩,u4.2⟩
     ·have ll:((bE (nth a0.O a2))[j.toNat].be==k)=true∧((nth J.aH k).dc==(bE (nth a0.O a2))[j.toNat].bj)=false:=by
       revert U
       rw[show((bE (nth a0.O a2))[j.toNat].be !=k)= !((bE (nth a0.O a2))[j.toNat].be==k) from rfl]
       cases((bE (nth a0.O a2))[j.toNat].be==k)<;>cases((nth J.aH k).dc==(bE (nth a0.O a2))[j.toNat].bj)<;>simp
      have ms:=akT (f:=J) mZ FF.2 ll.1
      rw[ms,ll.1,ll.2] at tH
      rw[ms]
      unfold Tr xj vg xi
      have hO:(decide (((gC a0 J k).length:Int)>0))=jl a0 J k:=rfl
      have nI:nth J.aN (nth a0.bb k)=kI a0 J k:=rfl
      rw[hO,nI]
      simp only[Bool.false_and,Bool.or_false,if_false,Bool.false_eq_true]
      have E: ∀c:Bool,(oP a0 J a2 k (IntKind.i64.wrap (j+1)).toNat&&c)=c:=fun c=>by rw[E0,tH];rfl
      refine⟨fun hc=>⟨⟨by simp only[List.length_singleton];omega,by simp only[List.length_singleton];omega⟩,⟨u4.1,?_,by rw[E],by rw[E]⟩,u4.2⟩,fun hc=>⟨⟨u4.1,?_,by rw[E],by rw[E]⟩,u4.2⟩⟩
      ·rw[E,if_pos hc]
      ·rw[E,if_neg (by rw[hc];simp)]
  ·have tG:0≤s∧s<a0.ak:=⟨cP.1,by simpa using hs⟩
   have aS:=cw (N:=a0.ak) (by omega) cP hs rfl
   have s1:=r5 (q:=oC a0 J a2) (N:=a0.ak) (by omega) cP hs
   refine⟨⟨cP.1,by omega⟩,?_⟩
   unfold Tv KP
   exact⟨fun U=>⟨⟨by simp only[List.length_singleton];omega,by simp only[List.length_singleton];omega⟩,⟨hS,aS.1,s1.1 U⟩,aS.2⟩,fun U=>⟨⟨hS,aS.1,s1.2.1 U⟩,aS.2⟩⟩
 ·have b3:=bX aJ hv
  have hQ:=dD.len
  have eH:=dD.row a2 az h1
  exact⟨⟨b3.1,by omega⟩,fun _=>⟨⟨az,by omega⟩,b3.1,by omega⟩⟩
 ·have aS:=cw (b5 ag) aJ hv rfl
  have s1:=r5 (q:=lk a0 J a2) (b5 ag) aJ hv
  unfold Tx KN
  exact⟨fun U=>⟨⟨by simp only[List.length_singleton];omega,by simp only[List.length_singleton];omega⟩,⟨aS.1,s1.1 U⟩,aS.2⟩,fun U=>⟨⟨aS.1,s1.2.1 U⟩,aS.2⟩⟩)
theorem agr (ae:rM a0 J a2):bc Tryz.prog 103 [.agg (bA false a0),.agg (cG false J),ab a2] (.tup [.agg (EX true ((je a0 J a2).1)),an ((je a0 J a2).2.1),an ((je a0 J a2).2.2)]):=(agq a0 J a2 ae).v
def ags:cZ Tryz.prog:=⟨103,[.dl,.frame,.int],[.stays,.bool,.bool],some fun x=>rM x.1 x.2.1 x.2.2.1,fun x=>((je x.1 x.2.1 x.2.2.1).1,(je x.1 x.2.1 x.2.2.1).2.1,(je x.1 x.2.1 x.2.2.1).2.2,()),fun x h=>agr x.1 x.2.1 x.2.2.1 h⟩
end
section
abbrev Bs (r:Type):Type:=Nat→(List Int)→Int→Int→r
abbrev Bt (r:Type):Type:=Nat→(List Int)→Int→Int→Nat→(List Int)→Int→Int→r
abbrev Bu (r:Type):Type:=Nat→(List Int)→Int→Int→Nat→(List Int)→Int→Int→Nat→(List Int)→Int→Int→r
abbrev Bv (r:Type):Type:=Nat→(List Int)→Int→Int→Nat→(List Int)→Int→Int→Nat→(List Int)→Int→Int→Int→Int→r
abbrev Bw (r:Type):Type:=Nat→(List Int)→Int→Int→Nat→(List Int)→Int→Int→Nat→(List Int)→Int→Int→Int→Int→Int→Int→r
variable (ad:Bs Prop) (m0:Bs Nat) (aU:Bt Prop) (m1:Bt Nat) (bH:Bu Prop) (m2:Bu Nat) (cX:Bv Prop) (m3:Bv Nat) (fw:Bw Prop) (m4:Bw Nat) (a0:aC) (J:Frame) (a2:Int) (aa:rP×Int) (g0:Nat) (aM:(List Int)) (v28 v9:Int) (g1:Nat) (aL:(List Int)) (v12 eO ol l_ v127 sZ:Int) (g2:Nat) (bO:(List Int)) (dI dr:Int)
abbrev o7:=[(nth a0.O a2).bm,(nth a0.O a2).cB]
abbrev O2:=(v28 !=a2)&&(((nth J.O v28).ar !=0)&&((nth (nth a0.bF a2) v28) || ((meets (nth a0.O a2).ak (nth a0.O v28).over) || (meets (nth a0.O a2).over (nth a0.O v28).ak))))
abbrev pT:=IntKind.i64.wrap (dI+1)
abbrev HD:=(bO.length+[dI].length)*8≤140737488355328∧bO.length+[dI].length≤4611686018427387904
abbrev O3:=(nth J.aN v12)&&((meets [v12] (nth a0.O a2).ak) || (meets [v12] (nth a0.O a2).over))
abbrev yf:=IntKind.i64.wrap (v12+1)
abbrev O4:=bif ((nth (nth (o7 a0 a2) v127) ol).be==dI) then(nth (nth (o7 a0 a2) v127) ol).bj else sZ
def amS:List Item:=(List.range 44).map bV
def amT:List (List Nat):=[[],[],[0,1],[0,1,2],rg 0 4,rg 0 5,rg 0 4,rg 0 7,rg 0 8,rg 0 9,rg 0 10,rg 0 11,rg 0 12,rg 0 13,rg 0 14,rg 0 13,rg 0 16,rg 0 17,rg 0 13,rg 0 19,rg 0 20,rg 0 21,rg 0 22,rg 0 23,rg 0 22,rg 0 22++[24],rg 0 22,rg 0 22++[24,25,26],rg 0 22++rg 24 28,rg 0 22++rg 24 29,rg 0 30,rg 0 31,rg 0 32,rg 0 33,rg 0 34,rg 0 33,rg 0 33++[35],rg 0 33,rg 0 33++[35,36,37],rg 0 33++rg 35 39,rg 0 33++rg 35 40,rg 0 41,rg 0 42,rg 0 43]
def amQ:List Item:=(List.range 9).map bV
def amR:List (List Nat):=[[],[0],[],[2],[],[2,3,4],rg 2 6,rg 0 7,rg 0 8]
def Zg:Prop:=
  ((dr==0)=true→bH g0 aM v28 v9 g1 aL v12 eO (g2+1) (bO++[dI]) (pT dI) 6∧m2 g0 aM v28 v9 g1 aL v12 eO (g2+1) (bO++[dI]) (pT dI) 6<m2 g0 aM v28 v9 g1 aL v12 eO g2 bO dI dr)∧((dr==0)=false→bH g0 aM v28 v9 g1 aL v12 eO (g2+1) (bO++[dI]) (pT dI) dr∧m2 g0 aM v28 v9 g1 aL v12 eO (g2+1) (bO++[dI]) (pT dI) dr<m2 g0 aM v28 v9 g1 aL v12 eO g2 bO dI dr)
def Zl:Prop:=
  ((nth J.aN (nth a0.bb dI))=true→(HD bO dI)∧(Zg bH m2 g0 aM v28 v9 g1 aL v12 eO g2 bO dI dr))∧((nth J.aN (nth a0.bb dI))=false→bH g0 aM v28 v9 g1 aL v12 eO g2 bO (pT dI) dr∧m2 g0 aM v28 v9 g1 aL v12 eO g2 bO (pT dI) dr<m2 g0 aM v28 v9 g1 aL v12 eO g2 bO dI dr)
def Zm:Prop:=
  ((decide (((gC a0 J dI).length:Int)>0))=true→(HD bO dI)∧(bH g0 aM v28 v9 g1 aL v12 eO (g2+1) (bO++[dI]) (pT dI) 5∧m2 g0 aM v28 v9 g1 aL v12 eO (g2+1) (bO++[dI]) (pT dI) 5<m2 g0 aM v28 v9 g1 aL v12 eO g2 bO dI dr))∧((decide (((gC a0 J dI).length:Int)>0))=false→((0≤dI∧dI.toNat<a0.bb.length)∧(0≤(nth a0.bb dI)∧(nth a0.bb dI).toNat<J.aN.length))∧(Zl bH m2 a0 J g0 aM v28 v9 g1 aL v12 eO g2 bO dI dr))
def Zn:Prop:=
  fw g0 aM v28 v9 g1 aL v12 eO g2 bO dI dr v127 l_ (IntKind.i64.wrap (ol+1)) (O4 a0 a2 ol v127 sZ dI)∧m4 g0 aM v28 v9 g1 aL v12 eO g2 bO dI dr v127 l_ (IntKind.i64.wrap (ol+1)) (O4 a0 a2 ol v127 sZ dI)<m4 g0 aM v28 v9 g1 aL v12 eO g2 bO dI dr v127 l_ ol sZ
def Zo:Prop:=
  ((decide (ol<((nth (o7 a0 a2) v127).length:Int)))=false→cX g0 aM v28 v9 g1 aL v12 eO g2 bO dI dr (IntKind.i64.wrap (v127+1)) sZ∧m3 g0 aM v28 v9 g1 aL v12 eO g2 bO dI dr (IntKind.i64.wrap (v127+1)) sZ<m3 g0 aM v28 v9 g1 aL v12 eO g2 bO dI dr v127 l_)∧((decide (ol<((nth (o7 a0 a2) v127).length:Int)))=true→(0≤ol∧ol.toNat<(nth (o7 a0 a2) v127).length)∧(Zn fw m4 a0 a2 g0 aM v28 v9 g1 aL v12 eO ol l_ v127 sZ g2 bO dI dr))
def Zp:Prop:=
  (0≤v127∧v127.toNat<(o7 a0 a2).length)∧((nth (o7 a0 a2) v127).length≤4611686018427387904→fw g0 aM v28 v9 g1 aL v12 eO g2 bO dI dr v127 l_ 0 l_∧ ∀(ol:Int) (sZ:Int),fw g0 aM v28 v9 g1 aL v12 eO g2 bO dI dr v127 l_ ol sZ→(Zo cX m3 fw m4 a0 a2 g0 aM v28 v9 g1 aL v12 eO ol l_ v127 sZ g2 bO dI dr))
def Zq:Prop:=
  ((decide (v127<((o7 a0 a2).length:Int)))=false→(((l_==0)=false→0≤dI∧dI.toNat<J.aH.length)∧(((l_==0) || (l_==(nth J.aH dI).dc))=true→bH g0 aM v28 v9 g1 aL v12 eO g2 bO (pT dI) dr∧m2 g0 aM v28 v9 g1 aL v12 eO g2 bO (pT dI) dr<m2 g0 aM v28 v9 g1 aL v12 eO g2 bO dI dr))∧((!((l_==0) || (l_==(nth J.aH dI).dc)))=true→(sF a0 J dI)∧((gC a0 J dI).length≤4611686018427387904→Zm bH m2 a0 J g0 aM v28 v9 g1 aL v12 eO g2 bO dI dr)))∧((decide (v127<((o7 a0 a2).length:Int)))=true→Zp cX m3 fw m4 a0 a2 g0 aM v28 v9 g1 aL v12 eO l_ v127 g2 bO dI dr)
def Zr:Prop:=
  ((decide (dI<(a0.bb.length:Int)))=false→(aM.length≤4611686018427387904∧aM=aa.1.O)∧(aL.length≤4611686018427387904∧aL=aa.1.ak)∧(bO.length≤4611686018427387904∧bO=aa.1.aH)∧((bif (eO==0) then dr else eO)=aa.2))∧((decide (dI<(a0.bb.length:Int)))=true→(o7 a0 a2).length≤4611686018427387904→cX g0 aM v28 v9 g1 aL v12 eO g2 bO dI dr 0 0∧ ∀(v127:Int) (l_:Int),cX g0 aM v28 v9 g1 aL v12 eO g2 bO dI dr v127 l_→(Zq bH m2 cX m3 fw m4 a0 J a2 g0 aM v28 v9 g1 aL v12 eO l_ v127 g2 bO dI dr))
def Zs:Prop:=
  ((O3 a0 J a2 v12)=true→((aL.length+[v12].length)*8≤140737488355328∧aL.length+[v12].length≤4611686018427387904)∧(((eO==0)=true→aU g0 aM v28 v9 (g1+1) (aL++[v12]) (yf v12) 4∧m1 g0 aM v28 v9 (g1+1) (aL++[v12]) (yf v12) 4<m1 g0 aM v28 v9 g1 aL v12 eO)∧((eO==0)=false→aU g0 aM v28 v9 (g1+1) (aL++[v12]) (yf v12) eO∧m1 g0 aM v28 v9 (g1+1) (aL++[v12]) (yf v12) eO<m1 g0 aM v28 v9 g1 aL v12 eO)))∧((O3 a0 J a2 v12)=false→aU g0 aM v28 v9 g1 aL (yf v12) eO∧m1 g0 aM v28 v9 g1 aL (yf v12) eO<m1 g0 aM v28 v9 g1 aL v12 eO)
def Zh:Prop:=
  ((decide (v12<a0.ak))=false→a0.bb.length≤4611686018427387904→bH g0 aM v28 v9 g1 aL v12 eO 0 ([]:List Int) 0 0∧ ∀(g2:Nat) (bO:(List Int)) (dI:Int) (dr:Int),bH g0 aM v28 v9 g1 aL v12 eO g2 bO dI dr→(Zr bH m2 cX m3 fw m4 a0 J a2 aa g0 aM v28 v9 g1 aL v12 eO g2 bO dI dr))∧((decide (v12<a0.ak))=true→(0≤v12∧v12.toNat<J.aN.length)∧(Zs aU m1 a0 J a2 g0 aM v28 v9 g1 aL v12 eO))
def Zi:Prop:=
  ((O2 a0 J a2 v28)=true→((aM.length+[v28].length)*8≤140737488355328∧aM.length+[v28].length≤4611686018427387904)∧(ad (g0+1) (aM++[v28]) (IntKind.i64.wrap (v28+1)) 3∧m0 (g0+1) (aM++[v28]) (IntKind.i64.wrap (v28+1)) 3<m0 g0 aM v28 v9))∧((O2 a0 J a2 v28)=false→ad g0 aM (IntKind.i64.wrap (v28+1)) v9∧m0 g0 aM (IntKind.i64.wrap (v28+1)) v9<m0 g0 aM v28 v9)
def Zj:Prop:=
  ((v28 !=a2)=true→(0≤v28∧v28.toNat<J.O.length)∧(((nth J.O v28).ar !=0)=true→(0≤a2∧a2.toNat<a0.bF.length)∧((0≤v28∧v28.toNat<(nth a0.bF a2).length)∧((nth (nth a0.bF a2) v28)=false→(0≤v28∧v28.toNat<a0.O.length)∧((meets (nth a0.O a2).ak (nth a0.O v28).over)=false→0≤v28∧v28.toNat<a0.O.length)))))∧(Zi ad m0 a0 J a2 g0 aM v28 v9)
def Zk:Prop:=
  ad 0 ([]:List Int) 0 0∧ ∀(g0:Nat) (aM:(List Int)) (v28:Int) (v9:Int),ad g0 aM v28 v9→(((decide (v28<(a0.O.length:Int)))=false→aU g0 aM v28 v9 0 ([]:List Int) 0 v9∧ ∀(g1:Nat) (aL:(List Int)) (v12:Int) (eO:Int),aU g0 aM v28 v9 g1 aL v12 eO→(Zh aU m1 bH m2 cX m3 fw m4 a0 J a2 aa g0 aM v28 v9 g1 aL v12 eO))∧((decide (v28<(a0.O.length:Int)))=true→Zj ad m0 a0 J a2 g0 aM v28 v9))
def Zf (a0:aC) (J:Frame) (a2:Int) (aa:rP×Int) (ad:Bs Prop) (m0:Bs Nat) (aU:Bt Prop) (m1:Bt Nat) (bH:Bu Prop) (m2:Bu Nat) (cX:Bv Prop) (m3:Bv Nat) (fw:Bw Prop) (m4:Bw Nat):Prop:=
 (0≤a2∧a2.toNat<a0.O.length)∧(a0.O.length≤4611686018427387904→Zk ad m0 aU m1 bH m2 cX m3 fw m4 a0 J a2 aa)
theorem amO (ae:rM a0 J a2):bc Tryz.prog 97 [.agg (bA false a0),.agg (cG false J),ab a2] (.tup [.agg (EX true ((wg a0 J a2).1)),ab ((wg a0 J a2).2)]):=(fun(ad:Bs Prop) (m0:Bs Nat) (aU:Bt Prop) (m1:Bt Nat) (bH:Bu Prop) (m2:Bu Nat) (cX:Bv Prop) (m3:Bv Nat) (fw:Bw Prop) (m4:Bw Nat) (h:Zf a0 J a2 (wg a0 J a2) ad m0 aU m1 bH m2 cX m3 fw m4)=>bc.run (ps:=[.dl,.frame,.int]) (rs:=[.stays,.int]) (x:=(a0,J,a2,())) (r:=((wg a0 J a2).1,(wg a0 J a2).2,())) ⟨192,dj,[Ze,Oa]⟩ ⟨[],[(7,amS,amT),(37,amQ,amR)],[],[],[]⟩ (.lp [(9,0,.int)] [2,3,4,6,8,10,27] [(10,5),(8,3),(6,3),(4,4),(3,5)] [.nat,(.l .int),.int,.int] [bw 0,bw 0,28,9] (fun aD=>[(9,.i .i64 aD.2.2.2.1),(28,.i .i64 aD.2.2.1),(fF 8 0,.ref 0 aD.1 aD.2.1.length false),(bw 0,.blk aD.1 .int aD.2.1 _ rfl)]) (fun aD=>ad aD.1 aD.2.1 aD.2.2.1 aD.2.2.2.1) (fun aD=>m0 aD.1 aD.2.1 aD.2.2.1 aD.2.2.2.1) fun aD=>(.lp [(9,1,.int)] [3,4,6,8,10] [(10,5),(8,3),(6,3),(4,4),(3,5)] [.nat,(.l .int),.int,.int] [bw 1,bw 1,12,9] (fun bp=>[(9,.i .i64 bp.2.2.2.1),(12,.i .i64 bp.2.2.1),(fF 8 1,.ref 1 bp.1 bp.2.1.length false),(bw 1,.blk bp.1 .int bp.2.1 _ rfl)]) (fun bp=>aU aD.1 aD.2.1 aD.2.2.1 aD.2.2.2.1 bp.1 bp.2.1 bp.2.2.1 bp.2.2.2.1) (fun bp=>m1 aD.1 aD.2.1 aD.2.2.1 aD.2.2.2.1 bp.1 bp.2.1 bp.2.2.1 bp.2.2.2.1) fun bp=>(.lp [(9,2,.int)] [3,4,6,8,9,10,117] [(10,5),(8,3),(6,3),(4,4),(3,5)] [.nat,(.l .int),.int,.int] [bw 2,bw 2,118,13] (fun bn=>[(13,.i .i64 bn.2.2.2.1),(118,.i .i64 bn.2.2.1),(fF 8 2,.ref 2 bn.1 bn.2.1.length false),(bw 2,.blk bn.1 .int bn.2.1 _ rfl)]) (fun bn=>bH aD.1 aD.2.1 aD.2.2.1 aD.2.2.2.1 bp.1 bp.2.1 bp.2.2.1 bp.2.2.2.1 bn.1 bn.2.1 bn.2.2.1 bn.2.2.2.1) (fun bn=>m2 aD.1 aD.2.1 aD.2.2.1 aD.2.2.2.1 bp.1 bp.2.1 bp.2.2.1 bp.2.2.2.1 bn.1 bn.2.1 bn.2.2.1 bn.2.2.2.1) fun bn=>(.lp [] [3,4,6,8,9,10,13,14,117,118,125,126] [(10,5),(8,3),(6,3),(4,4),(3,5)] [.int,.int] [127,15] (fun en=>[(15,.i .i64 en.2.1),(127,.i .i64 en.1)]) (fun en=>cX aD.1 aD.2.1 aD.2.2.1 aD.2.2.2.1 bp.1 bp.2.1 bp.2.2.1 bp.2.2.2.1 bn.1 bn.2.1 bn.2.2.1 bn.2.2.2.1 en.1 en.2.1) (fun en=>m3 aD.1 aD.2.1 aD.2.2.1 aD.2.2.2.1 bp.1 bp.2.1 bp.2.2.1 bp.2.2.2.1 bn.1 bn.2.1 bn.2.2.1 bn.2.2.2.1 en.1 en.2.1) fun en=>(.lp [] [3,4,6,8,9,10,13,14,117,118,125,126,127,131,132] [(10,5),(8,3),(6,3),(4,4),(3,5)] [.int,.int] [133,15] (fun j5=>[(15,.i .i64 j5.2.1),(133,.i .i64 j5.1)]) (fun j5=>fw aD.1 aD.2.1 aD.2.2.1 aD.2.2.2.1 bp.1 bp.2.1 bp.2.2.1 bp.2.2.2.1 bn.1 bn.2.1 bn.2.2.1 bn.2.2.2.1 en.1 en.2.1 j5.1 j5.2.1) (fun j5=>m4 aD.1 aD.2.1 aD.2.2.1 aD.2.2.2.1 bp.1 bp.2.1 bp.2.2.1 bp.2.2.2.1 bn.1 bn.2.1 bn.2.2.1 bn.2.2.2.1 en.1 en.2.1 j5.1 j5.2.1) fun _=> .nil))))) Tryz.func97 h) (fun _ x v c=>bW a0.O.length (fun _=>false) v∧x=dZ (lk a0 J a2) v∧c=(if x≠[] then 3 else 0)) (fun _ _ v _=>cg a0.O.length v) (fun _ aM _ _ _ aL v c=>aM=dZ (lk a0 J a2) a0.O.length∧bW a0.ak (fun _=>false) v∧aL=dZ (oC a0 J a2) v∧c=(if aM≠[] then 3 else if aL≠[] then 4 else 0)) (fun _ _ _ _ _ _ v _=>cg a0.ak v) (fun _ aM _ _ _ aL _ c _ bO v h=>aM=dZ (lk a0 J a2) a0.O.length∧aL=dZ (oC a0 J a2) a0.ak∧c=(if aM≠[] then 3 else if aL≠[] then 4 else 0)∧bW a0.bb.length (fun _=>false) v∧bO=dZ (lj a0 J a2) v∧h=zo a0 J a2 v) (fun _ _ _ _ _ _ _ _ _ _ v _=>cg a0.bb.length v) (fun _ _ _ _ _ _ _ _ _ _ k _ i l=>bW ([(nth a0.O a2).bm,(nth a0.O a2).cB].length:Int) (fun _=>false) i∧l=sx 0 ([(nth a0.O a2).bm,(nth a0.O a2).cB].take i.toNat).flatten k) (fun _ _ _ _ _ _ _ _ _ _ _ _ i _=>cg ([(nth a0.O a2).bm,(nth a0.O a2).cB].length:Int) i) (fun _ _ _ _ _ _ _ _ _ _ k _ i l j l'=>bW (nth [(nth a0.O a2).bm,(nth a0.O a2).cB] i).length (fun _=>false) j∧l'=sx l ((nth [(nth a0.O a2).bm,(nth a0.O a2).cB] i).take j.toNat) k) (fun _ _ _ _ _ _ _ _ _ _ _ _ i _ j _=>cg (nth [(nth a0.O a2).bm,(nth a0.O a2).cB] i).length j) (by
 unfold Zf Zk
 obtain⟨hf,az,h1⟩:=ae
 have hw:=hf.fr.O
 have k0:=hf.fr.aH
 have nS:=hf.fr.aN
 have ci:=hf.in
 have Cu:=ci.O
 have zB:=ci.be
 have tE:=ci.cx
 have dD:=GV hf.nL
 have aQ:a2.toNat<a0.O.length:=by omega
 have Cs:=dz aQ
 have mZ:=Mg hf.nL Cs
 refine⟨⟨az,aQ⟩,fun ag=>⟨⟨cT (cN _),rfl,rfl⟩,fun g x v c aJ=> ?_⟩⟩
 obtain⟨aJ,rfl,rfl⟩:=aJ
 have hlen:=uV (lk a0 J a2) v
 have tJ:=aJ.2.1
 refine⟨fun hv=>⟨⟨zc aJ hv,cT tE.1,rfl,by simp[adb]⟩,fun g1 aL s c1 cP=> ?_⟩,fun hv=> ?_⟩
 ·obtain⟨hS,cP,rfl,rfl⟩:=cP
  have afa:=uV (oC a0 J a2) s
  have afH:=cP.2.1
  unfold Zh
  refine⟨fun hs hm=>⟨⟨hS,zc cP hs,rfl,cT (cN _),rfl,rfl⟩,fun g2 bO k aV hK=> ?_⟩,fun hs=> ?_⟩
  ·obtain⟨_,sj,hc,hK,rfl,rfl⟩:=hK
   have FK:=uV (lj a0 J a2) k
   have lV:=hK.2.1
   unfold Zr o7
   refine⟨fun hk=> ?_,fun hk h2=>⟨⟨cT (cN _),rfl⟩,fun i l bC=> ?_⟩⟩
   ·have aW:=zc (q:=lj a0 J a2) hK hk
    have e:k=a0.bb.length:=by
     have: ¬k<(a0.bb.length:Int):=by simpa using hk
     omega
    refine⟨⟨by omega,hS⟩,⟨by omega,sj⟩,⟨by omega,aW⟩,?_⟩
    show _=codeF a0 J a2
    unfold codeF
    show _=if dZ (lk a0 J a2) a0.O.length≠[] then 3 else if dZ (oC a0 J a2) a0.ak≠[] then 4 else _
    rw[hS,sj]
    by_cases pW:dZ (lk a0 J a2) a0.O.length≠[]
    ·rw[if_pos pW,if_pos pW];rfl
    ·rw[if_neg pW,if_neg pW]
     by_cases z2:dZ (oC a0 J a2) a0.ak≠[]
     ·rw[if_pos z2,if_pos z2];rfl
     ·rw[if_neg z2,if_neg z2,e];rfl
   ·have Cp:=bX hK hk
    have kY:=cw (b5 hm) hK hk rfl
    have s1:=r5 (q:=lj a0 J a2) (b5 hm) hK hk
    have s2:=(r5 (q:=fun k=>k7 a0 J a2 k&&jl a0 J k) (b5 hm) hK hk).2.2
    have eQ:=(r5 (q:=fun k=>k7 a0 J a2 k&&kI a0 J k) (b5 hm) hK hk).2.2
    have w_:ze a0 J a2 (IntKind.i64.wrap (k+1))=(ze a0 J a2 k || (k7 a0 J a2 k&&jl a0 J k)):=s2
    have xa:DK a0 J a2 (IntKind.i64.wrap (k+1))=(DK a0 J a2 k || (k7 a0 J a2 k&&kI a0 J k)):=eQ
    obtain⟨bC,rfl⟩:=bC
    unfold Zq pT o7
    refine⟨fun hi=> ?_,fun hi=> ?_⟩
    ·have ae7:i=2:=by
      have a:=bC.2.1
      have: ¬i<(([(nth a0.O a2).bm,(nth a0.O a2).cB].length:Nat):Int):=by simpa using hi
      simp at a this;omega
     have bU:(List.take i.toNat [(nth a0.O a2).bm,(nth a0.O a2).cB]).flatten=bE (nth a0.O a2):=by rw[ae7];simp[bE]
     rw[bU]
     have ai:=ai3 (f:=J) (k:=k) hf.nL aQ
     refine⟨⟨fun _=>⟨hK.1,by omega⟩,fun U=> ?_⟩,fun U=>⟨⟨hf,hK.1,by omega⟩,fun iC=> ?_⟩⟩
     ·rw[ai] at U
      have U:k7 a0 J a2 k=false:=by simpa using U
      refine⟨⟨hS,sj,hc,kY.1,s1.2.1 (by unfold lj;rw[U];rfl),?_⟩,kY.2⟩
      unfold zo;rw[w_,xa,U];simp
     ·rw[ai] at U
      have U:k7 a0 J a2 k=true:=by simpa using U
      have Ki:=ci.bb _ (dz Cp.2)
      unfold Zm HD pT
      have hO:(decide (((gC a0 J k).length:Int)>0))=jl a0 J k:=rfl
      rw[hO]
      rw[U,Bool.true_and] at w_ xa
      have yX:((dZ (lj a0 J a2) k).length+[k].length)*8≤140737488355328∧(dZ (lj a0 J a2) k).length+[k].length≤4611686018427387904:=by
       simp only[List.length_singleton];omega
      refine⟨fun aw=>⟨yX,⟨hS,sj,hc,kY.1,s1.1 (by unfold lj;rw[U,aw];rfl),?_⟩,kY.2⟩,fun aw=>⟨⟨⟨hK.1,Cp.2⟩,Ki.1,by omega⟩,?_⟩⟩
      ·unfold zo;rw[w_,aw,Bool.or_true];rfl
      ·rw[aw,Bool.or_false] at w_
       unfold Zl Zg HD pT
       have nI:nth J.aN (nth a0.bb k)=kI a0 J k:=rfl
       rw[nI]
       refine⟨fun Cx=>⟨yX,?_⟩,fun Cx=>⟨⟨hS,sj,hc,kY.1,s1.2.1 (by unfold lj;rw[U,aw,Cx];rfl),?_⟩,kY.2⟩⟩
       ·rw[Cx,Bool.or_true] at xa
        have bz:=s1.1 (show lj a0 J a2 k=true by unfold lj;rw[U,aw,Cx];rfl)
        refine⟨fun aB=>⟨⟨hS,sj,hc,kY.1,bz,?_⟩,kY.2⟩,fun aB=>⟨⟨hS,sj,hc,kY.1,bz,?_⟩,kY.2⟩⟩
        ·unfold zo at aB ⊢
         rw[w_,xa]
         cases bQ:ze a0 J a2 k with
         | true=>rw[bQ] at aB;simp at aB
         | false=>simp
        ·unfold zo at aB ⊢
         rw[w_,xa]
         cases bQ:ze a0 J a2 k with
         | true=>simp
         | false=>
          rw[bQ] at aB
          cases cv:DK a0 J a2 k with
          | true=>simp
          | false=>rw[cv] at aB;simp at aB
       ·rw[Cx,Bool.or_false] at xa
        unfold zo;rw[w_,xa]
    ·unfold Zp o7
     refine⟨bX bC hi,fun sf=>⟨⟨cT (cN _),rfl⟩,fun j l' tr=> ?_⟩⟩
     obtain⟨tr,rfl⟩:=tr
     unfold Zo Zn O4 o7
     refine⟨fun al=> ?_,fun al=>⟨bX tr al,?_⟩⟩
     ·have aS:=cw (b5 h2) bC hi rfl
      refine⟨⟨aS.1,?_⟩,aS.2⟩
      have fC:=bX bC hi
      rw[hL (b5 h2) bC.1 (by simpa using hi),show(i+1).toNat=i.toNat+1 by omega,List.take_succ_eq_append_getElem fC.2,List.flatten_append]
      have q8: ¬j<((nth [(nth a0.O a2).bm,(nth a0.O a2).cB] i).length:Int):=by simpa using al
      have zr:=tr.1
      have a6:(nth [(nth a0.O a2).bm,(nth a0.O a2).cB] i).take j.toNat=nth [(nth a0.O a2).bm,(nth a0.O a2).cB] i:=List.take_of_length_le (by omega)
      rw[a6,fU fC.2]
      unfold sx
      rw[List.foldl_append]
      simp
     ·have aS:=cw (b5 sf) tr al rfl
      refine⟨⟨aS.1,?_⟩,aS.2⟩
      have q8:=bX tr al
      rw[hL (b5 sf) tr.1 (by simpa using al),show(j+1).toNat=j.toNat+1 by omega,List.take_succ_eq_append_getElem q8.2,fU q8.2]
      unfold sx
      rw[List.foldl_append];rfl
  ·have tG:0≤s∧s<a0.ak:=⟨cP.1,by simpa using hs⟩
   have aS:=cw (N:=a0.ak) (by omega) cP hs rfl
   have s1:=r5 (q:=oC a0 J a2) (N:=a0.ak) (by omega) cP hs
   refine⟨⟨cP.1,by omega⟩,?_⟩
   unfold Zs yf O3
   rw[Gy,Gy]
   have yX:((dZ (oC a0 J a2) s).length+[s].length)*8≤140737488355328∧(dZ (oC a0 J a2) s).length+[s].length≤4611686018427387904:=by
    simp only[List.length_singleton];omega
   refine⟨fun U=>⟨yX,fun aB=> ?_,fun aB=> ?_⟩,fun U=>⟨⟨hS,aS.1,s1.2.1 U,?_⟩,aS.2⟩⟩
   ·refine⟨⟨hS,aS.1,s1.1 U,?_⟩,aS.2⟩
    by_cases z:dZ (lk a0 J a2) v≠[]
    ·rw[if_pos z] at aB;simp at aB
    ·rw[if_neg z,if_pos (by simp)]
   ·refine⟨⟨hS,aS.1,s1.1 U,?_⟩,aS.2⟩
    by_cases z:dZ (lk a0 J a2) v≠[]
    ·rw[if_pos z,if_pos z]
    ·rw[if_neg z,if_neg z]
     rw[if_neg z] at aB
     by_cases z2:dZ (oC a0 J a2) s≠[]
     ·rw[if_pos z2,if_pos (by simp)]
     ·rw[if_neg z2] at aB;simp at aB
   ·rfl
 ·have b3:=bX aJ hv
  have hQ:=dD.len
  have eH:=dD.row a2 az h1
  have aS:=cw (b5 ag) aJ hv rfl
  have s1:=r5 (q:=lk a0 J a2) (b5 ag) aJ hv
  unfold Zj Zi O2
  have yX:((dZ (lk a0 J a2) v).length+[v].length)*8≤140737488355328∧(dZ (lk a0 J a2) v).length+[v].length≤4611686018427387904:=by
   simp only[List.length_singleton];omega
  refine⟨fun _=>⟨⟨b3.1,by omega⟩,fun _=>⟨⟨az,by omega⟩,⟨b3.1,by omega⟩,fun _=>⟨b3,fun _=>b3⟩⟩⟩,fun U=>⟨yX,⟨aS.1,s1.1 U,by rw[if_pos (by simp)]⟩,aS.2⟩,fun U=>⟨⟨aS.1,s1.2.1 U,rfl⟩,aS.2⟩⟩)
def amP:cZ Tryz.prog:=⟨97,[.dl,.frame,.int],[.stays,.int],some fun x=>rM x.1 x.2.1 x.2.2.1,fun x=>((wg x.1 x.2.1 x.2.2.1).1,(wg x.1 x.2.1 x.2.2.1).2,()),fun x h=>amO x.1 x.2.1 x.2.2.1 h⟩
end
section
variable (a0:aC) (J:Frame) (a2 aa:Int)
def Zw:Prop:=
 ((0≤a2∧a2.toNat<J.O.length)∧(((nth J.O a2).ar !=0)=true→2=aa))∧((!((nth J.O a2).ar !=0))=true→(rM a0 J a2)∧((wg a0 J a2).2=aa))
theorem amY (ae:rM a0 J a2):bc Tryz.prog 59 [.agg (bA false a0),.agg (cG false J),ab a2] (ab (gj a0 J a2)):=(fun(h:Zw a0 J a2 (gj a0 J a2))=>bc.run (ps:=[.dl,.frame,.int]) (rs:=[.int]) (x:=(a0,J,a2,())) (r:=((gj a0 J a2),())) ⟨24,dj,[amP]⟩ ⟨[],[],[],[],[]⟩ .nil Tryz.func59 h) (by
 unfold Zw
 have u_:=ae
 obtain⟨hf,az,h1⟩:=u_
 have hw:=hf.fr.O
 refine⟨⟨⟨az,by omega⟩,fun aB=> ?_⟩,fun aB=>⟨ae,?_⟩⟩
 ·unfold gj;rw[if_pos (by simpa using aB)]
 ·unfold gj;rw[if_neg (by simpa using aB)];rfl)
end
section
variable (a0:aC) (J:Frame) (a2 aa:Int)
abbrev Gj:=decide ((((je a0 J a2).1).ak.length:Int)>0)
abbrev Gk:=decide ((((je a0 J a2).1).O.length:Int)>0)
def UB:Prop:=
  ((Gk a0 J a2)=true→3=aa)∧((Gk a0 J a2)=false→((je a0 J a2).1).ak.length≤4611686018427387904→((Gj a0 J a2)=true→4=aa)∧((Gj a0 J a2)=false→((je a0 J a2).2.1=true→5=aa)∧((je a0 J a2).2.1=false→(je a0 J a2).2.2=true→6=aa)))
def UC:Prop:=
  ((0≤a2∧a2.toNat<J.O.length)∧((((nth J.O a2).ar !=0)=true→2=aa)∧(((nth J.O a2).ar !=0)=false→((je a0 J a2).1).O.length≤4611686018427387904→UB a0 J a2 aa)))∧((((je a0 J a2).1).O.length≤4611686018427387904)∧(((je a0 J a2).1).ak.length≤4611686018427387904)∧((!((nth J.O a2).ar !=0)&&(!(Gk a0 J a2)&&(!(Gj a0 J a2)&&(!((je a0 J a2).2.1)&&(!((je a0 J a2).2.2))))))=true)→0=aa)
def UA:Prop:=
 (rM a0 J a2)∧(UC a0 J a2 aa)
theorem ahw (ae:rM a0 J a2):bc Tryz.prog 70 [.agg (bA false a0),.agg (cG false J),ab a2] (ab (gj a0 J a2)):=(fun(h:UA a0 J a2 (gj a0 J a2))=>bc.run (ps:=[.dl,.frame,.int]) (rs:=[.int]) (x:=(a0,J,a2,())) (r:=((gj a0 J a2),())) ⟨40,dj,[ags]⟩ ⟨[],[],[],[],[]⟩ .nil Tryz.func70 h) (by
 unfold UA UC UB Gk Gj
 have u_:=ae
 obtain⟨hf,az,h1⟩:=u_
 have hw:=hf.fr.O
 have acN:je a0 J a2=(l7 a0 J a2,B6 a0 J a2,Hl a0 J a2):=rfl
 rw[acN]
 have aW:(decide (((l7 a0 J a2).O.length:Int)>0))=true↔(l7 a0 J a2).O≠[]:=by
  rw[decide_eq_true_eq,←List.length_pos_iff];omega
 have e2:(decide (((l7 a0 J a2).ak.length:Int)>0))=true↔(l7 a0 J a2).ak≠[]:=by
  rw[decide_eq_true_eq,←List.length_pos_iff];omega
 refine⟨ae,⟨⟨az,by omega⟩,fun aB=> ?_,fun aB _=>⟨fun aG=> ?_,fun aG _=>⟨fun hb=> ?_,fun hb=>⟨fun hc=> ?_,fun hc aV=> ?_⟩⟩⟩⟩,fun U=> ?_⟩
 ·unfold gj;rw[if_pos (by simpa using aB)]
 ·unfold gj codeF;rw[if_neg (by simpa using aB),if_pos (aW.1 aG)]
 ·unfold gj codeF;rw[if_neg (by simpa using aB),if_neg (fun h=>by rw[show(decide (((l7 a0 J a2).O.length:Int)>0))=true from aW.2 h] at aG;cases aG),if_pos (e2.1 hb)]
 ·unfold gj codeF;rw[if_neg (by simpa using aB),if_neg (fun h=>by rw[show(decide (((l7 a0 J a2).O.length:Int)>0))=true from aW.2 h] at aG;cases aG),if_neg (fun h=>by rw[show(decide (((l7 a0 J a2).ak.length:Int)>0))=true from e2.2 h] at hb;cases hb),if_pos hc]
 ·unfold gj codeF;rw[if_neg (by simpa using aB),if_neg (fun h=>by rw[show(decide (((l7 a0 J a2).O.length:Int)>0))=true from aW.2 h] at aG;cases aG),if_neg (fun h=>by rw[show(decide (((l7 a0 J a2).ak.length:Int)>0))=true from e2.2 h] at hb;cases hb),if_neg (by rw[show B6 a0 J a2=false from hc];simp),if_pos aV]
 ·have U:=U.2.2
  simp only[Bool.and_eq_true,Bool.not_eq_true'] at U
  obtain⟨q1,q2,q3,q4,cs⟩:=U
  unfold gj codeF;rw[if_neg (by simpa using q1),if_neg (fun h=>by rw[show(decide (((l7 a0 J a2).O.length:Int)>0))=true from aW.2 h] at q2;cases q2),if_neg (fun h=>by rw[show(decide (((l7 a0 J a2).ak.length:Int)>0))=true from e2.2 h] at q3;cases q3),if_neg (by rw[show B6 a0 J a2=false from q4];simp),if_neg (by rw[show Hl a0 J a2=false from cs];simp)])
end
end Go.Proofs.YtejmihecgodhnaaGreatDoor.Fw
set_option linter.unusedVariables false
namespace Go.Proofs.YtejmihecgodhnaaGreatDoor.Fw
open Go Go.RowKit
theorem ak_ {p:aC} {f:Frame} (ae:Fit p f) {w:World} {mB uW:Value} (h1:V2 (Env.wd w) (.agg (bA false p)) mB) (h2:V2 (Env.wd w) (.agg (cG false f)) uW) (s:Int):
    Calls Tryz.prog 77 #[mB,uW,.int .i64 s] w fun e w'=>e= .returned (.int .i64 (tZ p f s))∧Below w.heap.size w w':=by
  refine(bc.world (vs:=[mB,uW,.int .i64 s]) (ag0 p f s ae) (.cons h1 (.cons h2 (.cons (aY.int _ _) .nil)))).mono ?_
  rintro e w' ⟨v,rfl,hb,hv⟩
  exact⟨by rw[V3.my hv],hb⟩
theorem ala {p:aC} {f:Frame} {k:Int} (ae:sF p f k) {w:World} {mB uW:Value} (h1:V2 (Env.wd w) (.agg (bA false p)) mB) (h2:V2 (Env.wd w) (.agg (cG false f)) uW):
    Calls Tryz.prog 73 #[mB,uW,.int .i64 k] w fun e w'=> ∃A cap,e= .returned (.slice A (gC p f k).length cap)∧Below w.heap.size w w':=by
  refine(bc.world (vs:=[mB,uW,.int .i64 k]) (Lq p f k ae) (.cons h1 (.cons h2 (.cons (aY.int _ _) .nil)))).mono ?_
  rintro e w' ⟨v,rfl,hb,hv⟩
  obtain⟨A,cap,rfl⟩:=V3.anB hv
  exact⟨A,cap,by rw[List.length_map],hb⟩
theorem ak9 {f:Frame} {w:World} {v:Value} (h:V2 (Env.wd w) (.agg (cG false f)) v): ∃wm gK kl c1 j7 c2,v= .agg #[.bool f.ok,.slice wm f.aN.length gK,.slice kl f.aH.length c1,.slice j7 f.O.length c2]∧
    Rows w wm 1 (f.aN.map aP)∧Rows w kl 2 (f.aH.map a1)∧Rows w j7 5 (f.O.map (fR false)):=by
  obtain⟨vs,rfl,ae⟩:=Wo h
  obtain⟨a,vs,rfl,aG,ae⟩:=ae.cons_inv
  obtain⟨b,vs,rfl,hb,ae⟩:=ae.cons_inv
  obtain⟨c,vs,rfl,hc,ae⟩:=ae.cons_inv
  obtain⟨d,vs,rfl,aV,ae⟩:=ae.cons_inv
  obtain rfl:=ae.oQ
  have aG:aY w _ _ (.bool f.ok) a:=aG
  cases aG
  obtain⟨wm,gK,rfl,hH⟩:=Mn (sz:=1) hb (fun row ao=>by obtain⟨x,_,rfl⟩:=List.mem_map.1 ao;rfl)
  obtain⟨kl,c1,rfl,dG⟩:=Mn (sz:=2) hc (fun row ao=>by obtain⟨x,_,rfl⟩:=List.mem_map.1 ao;rfl)
  obtain⟨j7,c2,rfl,et⟩:=Mn (sz:=5) aV (fun row ao=>by obtain⟨x,_,rfl⟩:=List.mem_map.1 ao;rfl)
  exact⟨wm,gK,kl,c1,j7,c2,by simp,hH,dG,et⟩
theorem Nk {p:aC} {w:World} {v:Value} (h:V2 (Env.wd w) (.agg (bA false p)) v): ∃a b c,v= .agg #[.int .i64 p.ak,a,b,c,.int .i64 p.ct]∧a.oneCell'=true∧b.oneCell'=true∧c.oneCell'=true:=by
  obtain⟨vs,rfl,ae⟩:=Wo h
  obtain⟨a,vs,rfl,aG,ae⟩:=ae.cons_inv
  obtain⟨b,vs,rfl,hb,ae⟩:=ae.cons_inv
  obtain⟨c,vs,rfl,hc,ae⟩:=ae.cons_inv
  obtain⟨d,vs,rfl,aV,ae⟩:=ae.cons_inv
  obtain⟨e,vs,rfl,he,ae⟩:=ae.cons_inv
  obtain rfl:=ae.oQ
  have aG:aY w _ _ (.int .i64 p.ak) a:=aG
  have he:aY w _ _ (.int .i64 p.ct) e:=he
  cases aG;cases he
  have hb:aY w _ _ (.aX _ _ _) b:=hb
  have hc:aY w _ _ (.aX _ _ _) c:=hc
  have aV:aY w _ _ (.aX _ _ _) d:=aV
  exact⟨b,c,d,rfl,hb.one (by simp),hc.one (by simp),aV.one (by simp)⟩
theorem abz (l:List UInt8) (c:UInt8):Lib.byteCells l++[.int .u8 c.toNat]=Lib.byteCells (l++[c]):=by simp[Lib.byteCells]
theorem wI {B b:Nat} {bs:List Value} {w w':World} (h:Lib.IsBuilder 75 5 B b bs w) (hb:Below w.heap.size w w'):Lib.IsBuilder 75 5 B b bs w':=by
  have key: ∀p,Lib.BuilderAt 75 5 B b p bs w→Lib.BuilderAt 75 5 B b p bs w':=fun p h=>by
    have aQ:=h.lt
    obtain⟨dD,v,mV,qa,bU⟩:=h
    exact⟨dD,v,(hb.block b aQ).trans mV,qa.kept (row:=none) ⟨hb.os,hb.tape,hb.output,hb.size,fun k hk _=>hb.block k hk⟩ (by cases h:v.ownBlock with
      | none=>exact .inl rfl
      | some x=>exact .inr (by simp)),bU⟩
  exact h.elim (fun h=> .inl (key _ h)) fun h=> .inr (key _ h)
theorem yT {B:Nat} {W bp:World} (hb:Below B W bp):(∀b o,b<B→bp.cell? ⟨b,o,none⟩=W.cell? ⟨b,o,none⟩)∧(∀b o,b<B→bp.frozen? ⟨b,o,none⟩=W.frozen? ⟨b,o,none⟩):=
  ⟨fun b o h=>hb.cell (p:=⟨b,o,none⟩) h,fun b o h=>hb.frozen (p:=⟨b,o,none⟩) h⟩
theorem mO {B:Nat} {PS wr bp bn:World} {l:List UInt8} {c:UInt8} {l':List UInt8} (hb:Below B PS wr) (h1:Below wr.heap.size wr bp) (h2:Below B bp bn) (dD:B≤wr.heap.size) (au:Lib.IsBuilder 75 5 B B (Lib.byteCells l++[.int .u8 c.toNat]) bn) (e:l'=l++[c]):
    Lib.IsBuilder 75 5 B B (Lib.byteCells l') bn∧Below B PS bn:=by
  subst e
  rw[abz] at au
  exact⟨au,(hb.trans (h1.mono dD)).trans h2⟩
set_option maxHeartbeats 2000000
set_option maxRecDepth 100000
theorem ak7 (s:ByteArray) (W:World) (b0 pG:Nat) (kl j7:Option Addr) (dQ gf n2 gK c1 c2:Nat) (s1 s2 eQ:Value) (ok:Bool) (ct:Int) (GK:s1.oneCell'=true) (GL:s2.oneCell'=true) (Wi:eQ.oneCell'=true)
    (mq:dQ≤60) (Ct:gf≤40) (SE:n2≤100) (aN:Nat→Bool) (LX:Nat→Int)
    (wW:b0<W.heap.size) (nS: ∀i,i<dQ→W.cell? ⟨b0,pG+i,none⟩=some (.bool (aN i)))
    (mQ:Nat→List UInt8) (uZ:mQ 0=[]) (RJ: ∀k,mQ (k+1)=mQ k++[bif aN k then 35 else bif decide (0≤LX k) then 61 else 46])
    (aw: ∀k,(mQ k).length=k)
    (b1 vx:Nat) (wt vp:Nat→Int) (Fs:0<gf→kl=some ⟨b1,vx,none⟩∧b1<W.heap.size∧ ∀k,k<gf→W.cell? ⟨b1,vx+k*2,none⟩=some (.int .i64 (wt k))∧W.cell? ⟨b1,vx+k*2+1,none⟩=some (.int .i64 (vp k)))
    (xd: ∀k,k<gf→(vp k=0∨vp k=1∨vp k=2)∧(wt k=1∨wt k=2)) (pl:Nat→Nat) (ko:Nat→List UInt8) (Fp:ko 0=mQ dQ++[32])
    (RL: ∀k,k<gf→ko (k+1)=ko k++((if vp k=0∨vp k≠wt k then 63 else if vp k=1 then 60 else 62)::if 0<pl k then[33] else[])) (RK: ∀k,(ko k).length≤61+2*k)
    (iC: ∀(w:World) (k:Nat),k<gf→Below W.heap.size W w→Calls Tryz.prog 73 #[.agg #[.int .i64 dQ,s1,s2,eQ,.int .i64 ct],.agg #[.bool ok,.slice (some ⟨b0,pG,none⟩) dQ gK,.slice kl gf c1,.slice j7 n2 c2],.int .i64 k] w fun e w'=> ∃A c,e= .returned (.slice A (pl k) c)∧Below w.heap.size w w')
    (b2 nl:Nat) (aj RA oj:Nat→Int) (yC:Nat→Option Addr) (yW yS:Nat→Nat) (X5:Nat→Bool)
    (Ft:0<n2→j7=some ⟨b2,nl,none⟩∧b2<W.heap.size∧ ∀k,k<n2→W.cell? ⟨b2,nl+k*5,none⟩=some (.int .i64 (aj k))∧W.cell? ⟨b2,nl+k*5+1,none⟩=some (.int .i64 (RA k))∧W.cell? ⟨b2,nl+k*5+2,none⟩=some (.slice (yC k) (yW k) (yS k))∧W.cell? ⟨b2,nl+k*5+3,none⟩=some (.bool (X5 k))∧W.cell? ⟨b2,nl+k*5+4,none⟩=some (.int .i64 (oj k)))
    (aS: ∀k,k<n2→aj k=0∨aj k=1∨aj k=2∨aj k=3∨aj k=4) (pZ:Nat→List UInt8) (nM:pZ 0=ko gf++[32])
    (RN: ∀k,k<n2→pZ (k+1)=pZ k++[if aj k=0 then 45 else if aj k=1 then 115 else if aj k=2 then 67 else if aj k=3 then 116 else 117]) (RM: ∀k,(pZ k).length≤200+k) (Si:s=de (pZ n2))
    (SA: ∀(w:World) (k:Nat),Below W.heap.size W w→Calls Tryz.prog 77 #[.agg #[.int .i64 dQ,s1,s2,eQ,.int .i64 ct],.agg #[.bool ok,.slice (some ⟨b0,pG,none⟩) dQ gK,.slice kl gf c1,.slice j7 n2 c2],.int .i64 k] w fun e w'=>e= .returned (.int .i64 (LX k))∧Below w.heap.size w w'):
    Calls Tryz.prog 32 #[.agg #[.int .i64 dQ,s1,s2,eQ,.int .i64 ct],.agg #[.bool ok,.slice (some ⟨b0,pG,none⟩) dQ gK,.slice kl gf c1,.slice j7 n2 c2]] W fun e w'=>e= .returned (.string s)∧Below W.heap.size W w':=by
  have H1:=Lib.hid uZ;clear uZ
  have s6:=Lib.hid RJ;clear RJ
  have ww:=Lib.hid nS;clear nS
  have uD:=Lib.hid aw;clear aw
  have yG:=Lib.hid SA;clear SA
  have aaM:=Lib.hid Fs;clear Fs
  have aaN:=Lib.hid xd;clear xd
  have aaO:=Lib.hid Fp;clear Fp
  have aaP:=Lib.hid RL;clear RL
  have PN:=Lib.hid RK;clear RK
  have aaF:=Lib.hid iC;clear iC
  have aaG:=Lib.hid Ft;clear Ft
  have aaH:=Lib.hid aS;clear aS
  have aaI:=Lib.hid nM;clear nM
  have aaJ:=Lib.hid RN;clear RN
  have aaK:=Lib.hid RM;clear RM
  have aaL:=Lib.hid Si;clear Si
  go_enter Tryz.func32,Tryz.ntmps32
  go_wp2
  go_loopw [13] (fun i wr=> ∃k:Nat,k≤dQ∧i= .int .i64 k∧Lib.IsBuilder 75 5 (W.heap.size+1+1) (W.heap.size+1+1) (Lib.byteCells (mQ k)) wr∧Below (W.heap.size+1+1) ((W.alloc (Obj.cells #[.int .i64 dQ,s1,s2,eQ,.int .i64 ct] 27)).alloc (Obj.cells #[.bool ok,.slice (some ⟨b0,pG,none⟩) dQ gK,.slice kl gf c1,.slice j7 n2 c2] 40)) wr) (fun i _=>dQ - (intOf i).toNat)
  case atStart=>
    refine⟨0,Nat.zero_le _,rfl,?_,?_⟩
    · rw[H1.out]
      have:=Lib.fresh_isBuilder 75 5 ((W.alloc (Obj.cells #[.int .i64 dQ,s1,s2,eQ,.int .i64 ct] 27)).alloc (Obj.cells #[.bool ok,.slice (some ⟨b0,pG,none⟩) dQ gK,.slice kl gf c1,.slice j7 n2 c2] 40))
      simpa[Lib.byteCells] using this
    · exact(Below.refl _ _).alloc (by simp) _
  case round=>
    obtain⟨k,hk,rfl,dD,hb⟩:=hrel
    obtain⟨hc,hf⟩:=yT hb
    have aB:W.heap.size+1+1≤wr.heap.size:=by have:=hb.size;simpa using this
    have kn:Hid (Below W.heap.size W wr):=(((Below.refl _ W).alloc (Nat.le_refl _) _).alloc (by simp) _).trans (hb.mono (by omega))
    have j8:=Lib.hid dD;clear dD
    have ff:=Lib.hid aB;clear aB
    have kR:=Lib.hid hb;clear hb
    by_cases aQ:k<dQ
    · have dt:wr.cell? ⟨b0,pG+k,none⟩=some (.bool (aN k)):=by
        rw[kn.out.cell (p:=⟨b0,pG+k,none⟩) wW];exact ww.out k aQ
      have ck:Hid ((Lib.byteCells (mQ k)).length+1≤140737488355328):=by unfold Hid;rw[Lib.byteCells_length,uD.out];omega
      cases ai:aN k with
      | true=>
        rw[ai] at dt
        go_wp2_with (go_at_call 76;refine(tb _ _ _ 35 _ j8.out ck.out ff.out).mono ?_)
        rintro e bp ⟨rfl,gl,dT⟩
        have fI:=Lib.hid (mO kR.out (Below.refl _ _) dT ff.out (c:=35) (l':=mQ (k+1)) gl (by rw[s6.out,ai];rfl));clear gl dT
        go_wp2
        go_roundw
        case rel=>exact⟨k+1,by omega,by go_num,fI.out.1,fI.out.2⟩
        case measure=>simp[intOf];omega
      | false=>
        rw[ai] at dt
        cases ax:decide (0≤LX k) with
        | true=>
          go_wp2_with (go_at_call 77;refine(yG.out _ k kn.out).mono ?_)
          rintro e bp ⟨rfl,dT⟩
          have H6:=Lib.hid (wI j8.out dT)
          have uF:Hid (W.heap.size+1+1≤bp.heap.size):=Nat.le_trans ff.out dT.size
          have H5:=Lib.hid dT;clear dT
          go_wp2_with (go_at_call 76;refine(tb _ _ _ 61 _ H6.out ck.out uF.out).mono ?_)
          rintro e bn ⟨rfl,gl,dT⟩
          have fI:=Lib.hid (mO kR.out H5.out dT ff.out (c:=61) (l':=mQ (k+1)) gl (by rw[s6.out,ai,ax];rfl));clear gl dT
          go_wp2
          go_roundw
          case rel=>exact⟨k+1,by omega,by go_num,fI.out.1,fI.out.2⟩
          case measure=>simp[intOf];omega
        | false=>
          go_wp2_with (go_at_call 77;refine(yG.out _ k kn.out).mono ?_)
          rintro e bp ⟨rfl,dT⟩
          have H6:=Lib.hid (wI j8.out dT)
          have uF:Hid (W.heap.size+1+1≤bp.heap.size):=Nat.le_trans ff.out dT.size
          have H5:=Lib.hid dT;clear dT
          go_wp2_with (go_at_call 76;refine(tb _ _ _ 46 _ H6.out ck.out uF.out).mono ?_)
          rintro e bn ⟨rfl,gl,dT⟩
          have fI:=Lib.hid (mO kR.out H5.out dT ff.out (c:=46) (l':=mQ (k+1)) gl (by rw[s6.out,ai,ax];rfl));clear gl dT
          go_wp2
          go_roundw
          case rel=>exact⟨k+1,by omega,by go_num,fI.out.1,fI.out.2⟩
          case measure=>simp[intOf];omega
    · have lV:k=dQ:=by omega
      subst lV
      have ck:Hid ((Lib.byteCells (mQ k)).length+1≤140737488355328):=by unfold Hid;rw[Lib.byteCells_length,uD.out];omega
      go_wp2_with (go_at_call 76;refine(tb _ _ _ 32 _ j8.out ck.out ff.out).mono ?_)
      rintro e bp ⟨rfl,gl,dT⟩
      have fI:=Lib.hid (mO kR.out (Below.refl _ _) dT ff.out (c:=32) (l':=mQ k++[32]) gl rfl);clear gl dT
      obtain⟨wZ,w3⟩:=yT fI.out.2
      go_wp2
      clear wZ w3 hc hf
      go_loopw [36] (fun i wr=> ∃j:Nat,j≤gf∧i= .int .i64 j∧Lib.IsBuilder 75 5 (W.heap.size+1+1) (W.heap.size+1+1) (Lib.byteCells (ko j)) wr∧Below (W.heap.size+1+1) ((W.alloc (Obj.cells #[.int .i64 k,s1,s2,eQ,.int .i64 ct] 27)).alloc (Obj.cells #[.bool ok,.slice (some ⟨b0,pG,none⟩) k gK,.slice kl gf c1,.slice j7 n2 c2] 40)) wr) (fun i _=>gf - (intOf i).toNat)
      case atStart=>exact⟨0,Nat.zero_le _,rfl,by rw[aaO.out];exact fI.out.1,fI.out.2⟩
      case round=>
        clear fI kn j8 ff kR ck
        obtain⟨j,al,rfl,dD,hb⟩:=hrel
        obtain⟨hc,hf⟩:=yT hb
        have aB:W.heap.size+1+1≤wr.heap.size:=by have:=hb.size;simpa using this
        have kn:Hid (Below W.heap.size W wr):=(((Below.refl _ W).alloc (Nat.le_refl _) _).alloc (by simp) _).trans (hb.mono (by omega))
        have j8:=Lib.hid dD;clear dD
        have ff:=Lib.hid aB;clear aB
        have kR:=Lib.hid hb;clear hb
        by_cases aQ:j<gf
        · obtain⟨aW,e2,cF⟩:=aaM.out (by omega)
          obtain⟨q1,q2⟩:=cF j aQ
          subst aW
          have R8:wr.cell? ⟨b1,vx+j*2,none⟩=some (.int .i64 (wt j)):=by
            rw[kn.out.cell (p:=⟨b1,vx+j*2,none⟩) e2];exact q1
          have R9:wr.cell? ⟨b1,vx+j*2+1,none⟩=some (.int .i64 (vp j)):=by
            rw[kn.out.cell (p:=⟨b1,vx+j*2+1,none⟩) e2];exact q2
          clear q1 q2 cF
          have R_:=fun(w:World) (h:Below W.heap.size W w)=>aaF.out w j aQ h
          have uE:=Lib.hid R_;clear R_
          have h2:=aaP.out j aQ
          have ck:Hid ((Lib.byteCells (ko j)).length+2≤140737488355328):=by unfold Hid;rw[Lib.byteCells_length];have:=PN.out j;omega
          have jb:Hid (∀o,Below wr.heap.size wr (wr.alloc o)):=fun o=>(Below.refl _ _).alloc (Nat.le_refl _) _
          have Ep:Hid (∀o,W.heap.size+1+1≤(wr.alloc o).heap.size):=fun o=>Nat.le_trans ff.out (jb.out o).size
          rcases aaN.out j aQ with⟨e | e | e,cA | cA⟩
          all_goals
            rw[e] at R9 h2
            rw[cA] at R8 h2
            clear e cA
            cases hm:pl j with
            | zero=>
              rw[hm] at h2
              simp only[hm] at uE
              have pd:=Lib.hid h2;clear h2 hm
              go_wp2_with (go_at_call 76;refine(tb _ _ _ _ _ (wI j8.out (jb.out _)) (Nat.le_of_succ_le ck.out) (Ep.out _)).mono ?_)
              rintro e bp rfl gl dT
              first
              | (have fI:=Lib.hid (mO kR.out (jb.out _) dT ff.out (c:=63) (l':=ko (j+1)) gl (by rw[pd.out];simp)))
              | (have fI:=Lib.hid (mO kR.out (jb.out _) dT ff.out (c:=60) (l':=ko (j+1)) gl (by rw[pd.out];simp)))
              | (have fI:=Lib.hid (mO kR.out (jb.out _) dT ff.out (c:=62) (l':=ko (j+1)) gl (by rw[pd.out];simp)))
              clear gl
              have H8:Hid (Below W.heap.size W bp):=(kn.out.trans ((jb.out _).mono (by have:=ff.out;omega))).trans (dT.mono (by omega))
              have uF:Hid (W.heap.size+1+1≤bp.heap.size):=by unfold Hid;have:=dT.size;have:=ff.out;simp at*;omega
              clear dT
              obtain⟨wZ,w3⟩:=yT fI.out.2
              go_wp2_with (go_at_call 73;refine(uE.out _ H8.out).mono ?_)
              rintro e bn ⟨A,cp,rfl,gm⟩
              have yH:=Lib.hid gm;clear gm
              go_wp2
              go_roundw
              case rel=>exact⟨j+1,by omega,by go_num,wI fI.out.1 yH.out,fI.out.2.trans (yH.out.mono uF.out)⟩
              case measure=>simp[intOf];omega
            | succ m=>
              rw[hm] at h2
              simp only[hm] at uE
              have pd:=Lib.hid h2;clear h2 hm
              go_wp2_with (go_at_call 76;refine(tb _ _ _ _ _ (wI j8.out (jb.out _)) (Nat.le_of_succ_le ck.out) (Ep.out _)).mono ?_)
              rintro e bp rfl gl dT
              have fI:Hid (∃c,(Lib.IsBuilder 75 5 (W.heap.size+1+1) (W.heap.size+1+1) (Lib.byteCells (ko j++[c])) bp∧Below (W.heap.size+1+1) ((W.alloc (Obj.cells #[.int .i64 k,s1,s2,eQ,.int .i64 ct] 27)).alloc (Obj.cells #[.bool ok,.slice (some ⟨b0,pG,none⟩) k gK,.slice (some ⟨b1,vx,none⟩) gf c1,.slice j7 n2 c2] 40)) bp)∧ko (j+1)=ko j++[c]++[33]):=by
                first
                | (exact⟨63,mO kR.out (jb.out _) dT ff.out (c:=63) gl rfl,by rw[pd.out];simp⟩)
                | (exact⟨60,mO kR.out (jb.out _) dT ff.out (c:=60) gl rfl,by rw[pd.out];simp⟩)
                | (exact⟨62,mO kR.out (jb.out _) dT ff.out (c:=62) gl rfl,by rw[pd.out];simp⟩)
              clear gl
              have H8:Hid (Below W.heap.size W bp):=(kn.out.trans ((jb.out _).mono (by have:=ff.out;omega))).trans (dT.mono (by omega))
              have uF:Hid (W.heap.size+1+1≤bp.heap.size):=by unfold Hid;have:=dT.size;have:=ff.out;simp at*;omega
              clear dT
              obtain⟨wZ,w3⟩:=yT fI.out.choose_spec.1.2
              go_wp2_with (go_at_call 73;refine(uE.out _ H8.out).mono ?_)
              rintro e bn ⟨A,cp,rfl,gm⟩
              have yH:=Lib.hid gm;clear gm
              obtain⟨c,Eo,H7⟩:=fI.out
              have Eo:=Lib.hid Eo
              have H7:=Lib.hid H7
              have aaR:Hid ((Lib.byteCells (ko j++[c])).length+1≤140737488355328):=by
                unfold Hid;have:=ck.out;rw[Lib.byteCells_length] at this ⊢;simp only[List.length_append,List.length_cons,List.length_nil];omega
              have uG:Hid (W.heap.size+1+1≤bn.heap.size):=Nat.le_trans uF.out yH.out.size
              clear fI
              go_wp2_with (go_at_call 76;refine(tb _ _ _ _ _ (wI Eo.out.1 yH.out) aaR.out uG.out).mono ?_)
              rintro e en ⟨rfl,gl,dT⟩
              have PO:=Lib.hid (mO Eo.out.2 yH.out dT uF.out (c:=33) (l':=ko (j+1)) gl H7.out)
              clear gl dT
              go_wp2
              go_roundw
              case rel=>exact⟨j+1,by omega,by go_num,PO.out.1,PO.out.2⟩
              case measure=>simp[intOf];omega
        · have J1:j=gf:=by omega
          subst J1
          have ck:Hid ((Lib.byteCells (ko j)).length+1≤140737488355328):=by unfold Hid;rw[Lib.byteCells_length];have:=PN.out j;omega
          go_wp2_with (go_at_call 76;refine(tb _ _ _ 32 _ j8.out ck.out ff.out).mono ?_)
          rintro e bp ⟨rfl,gl,dT⟩
          have fI:=Lib.hid (mO kR.out (Below.refl _ _) dT ff.out (c:=32) (l':=ko j++[32]) gl rfl);clear gl dT
          obtain⟨wZ,w3⟩:=yT fI.out.2
          go_wp2
          clear wZ w3 hc hf
          go_loopw [69] (fun i wr=> ∃m:Nat,m≤n2∧i= .int .i64 m∧Lib.IsBuilder 75 5 (W.heap.size+1+1) (W.heap.size+1+1) (Lib.byteCells (pZ m)) wr∧Below (W.heap.size+1+1) ((W.alloc (Obj.cells #[.int .i64 k,s1,s2,eQ,.int .i64 ct] 27)).alloc (Obj.cells #[.bool ok,.slice (some ⟨b0,pG,none⟩) k gK,.slice kl j c1,.slice j7 n2 c2] 40)) wr) (fun i _=>n2 - (intOf i).toNat)
          case atStart=>exact⟨0,Nat.zero_le _,rfl,by rw[aaI.out];exact fI.out.1,fI.out.2⟩
          case round=>
            clear fI kn j8 ff kR ck
            obtain⟨m,hm,rfl,dD,hb⟩:=hrel
            have aB:W.heap.size+1+1≤wr.heap.size:=by have:=hb.size;simpa using this
            have kn:Hid (Below W.heap.size W wr):=(((Below.refl _ W).alloc (Nat.le_refl _) _).alloc (by simp) _).trans (hb.mono (by omega))
            have j8:=Lib.hid dD;clear dD
            have ff:=Lib.hid aB;clear aB
            have kR:=Lib.hid hb;clear hb
            by_cases aQ:m<n2
            · obtain⟨aW,e2,cF⟩:=aaG.out (by omega)
              obtain⟨cH,q1,q2,q3,q4⟩:=cF m aQ
              subst aW
              have aeR:wr.cell? ⟨b2,nl+m*5,none⟩=some (.int .i64 (aj m)):=by
                rw[kn.out.cell (p:=⟨b2,nl+m*5,none⟩) e2];exact cH
              have R8:wr.cell? ⟨b2,nl+m*5+1,none⟩=some (.int .i64 (RA m)):=by
                rw[kn.out.cell (p:=⟨b2,nl+m*5+1,none⟩) e2];exact q1
              have R9:wr.cell? ⟨b2,nl+m*5+2,none⟩=some (.slice (yC m) (yW m) (yS m)):=by
                rw[kn.out.cell (p:=⟨b2,nl+m*5+2,none⟩) e2];exact q2
              have aof:wr.cell? ⟨b2,nl+m*5+3,none⟩=some (.bool (X5 m)):=by
                rw[kn.out.cell (p:=⟨b2,nl+m*5+3,none⟩) e2];exact q3
              have aog:wr.cell? ⟨b2,nl+m*5+4,none⟩=some (.int .i64 (oj m)):=by
                rw[kn.out.cell (p:=⟨b2,nl+m*5+4,none⟩) e2];exact q4
              clear cH q1 q2 q3 q4 cF
              have h2:=aaJ.out m aQ
              have ck:Hid ((Lib.byteCells (pZ m)).length+1≤140737488355328):=by unfold Hid;rw[Lib.byteCells_length];have:=aaK.out m;omega
              have jb:Hid (∀o,Below wr.heap.size wr (wr.alloc o)):=fun o=>(Below.refl _ _).alloc (Nat.le_refl _) _
              have Ep:Hid (∀o,W.heap.size+1+1≤(wr.alloc o).heap.size):=fun o=>Nat.le_trans ff.out (jb.out o).size
              rcases aaH.out m aQ with e | e | e | e | e
              all_goals
                rw[e] at aeR h2
                clear e
                have pd:=Lib.hid h2;clear h2
                go_wp2_with (go_at_call 76;refine(tb _ _ _ _ _ (wI j8.out (jb.out _)) ck.out (Ep.out _)).mono ?_)
                rintro e bp rfl gl dT
                first
                | (have fI:=Lib.hid (mO kR.out (jb.out _) dT ff.out (c:=45) (l':=pZ (m+1)) gl (by rw[pd.out];simp)))
                | (have fI:=Lib.hid (mO kR.out (jb.out _) dT ff.out (c:=115) (l':=pZ (m+1)) gl (by rw[pd.out];simp)))
                | (have fI:=Lib.hid (mO kR.out (jb.out _) dT ff.out (c:=67) (l':=pZ (m+1)) gl (by rw[pd.out];simp)))
                | (have fI:=Lib.hid (mO kR.out (jb.out _) dT ff.out (c:=116) (l':=pZ (m+1)) gl (by rw[pd.out];simp)))
                | (have fI:=Lib.hid (mO kR.out (jb.out _) dT ff.out (c:=117) (l':=pZ (m+1)) gl (by rw[pd.out];simp)))
                clear gl dT
                go_wp2
                go_roundw
                case rel=>exact⟨m+1,by omega,by go_num,fI.out.1,fI.out.2⟩
                case measure=>simp[intOf];omega
            · have afd:m=n2:=by omega
              subst afd
              go_wp2_with (go_at_call 33;refine(Qk _ _ _ _ j8.out ff.out).mono ?_)
              rintro e bp ⟨rfl,dT⟩
              have wx:=Lib.hid (kn.out.trans (dT.mono (by omega)));clear dT
              go_wp2
              go_ret
              exact⟨by rw[aaL.out];rfl,wx.out⟩
open Go Go.RowKit
theorem aky {w:World} {A:Option Addr} {xs:List Bool} (h:Rows w A 1 (xs.map aP)) (ag:0<xs.length): ∃c o,A=some ⟨c,o,none⟩∧c<w.heap.size∧ ∀i,i<xs.length→w.cell? ⟨c,o+i,none⟩=some (.bool (nth xs (i:Int))):=by
  rcases h with h | ⟨c,o,e,hc,h⟩
  · simp at h;rw[h] at ag;cases ag
  · refine⟨c,o,e,hc,fun i hi=> ?_⟩
    have hx:=fM (xs:=xs) (i:=(i:Int)) (by simpa using hi)
    obtain⟨u,hu,hv⟩:=h i 0 _ (.bool (nth xs (i:Int))) (by rw[List.getElem?_map,show i=((i:Int)).toNat by omega,hx];rfl) rfl
    rw[Nat.mul_one,Nat.add_zero] at hu
    rw[hu,V3.pj (me (lg hv))]
theorem akA {w:World} {A:Option Addr} {xs:List bx} (h:Rows w A 2 (xs.map a1)): ∃c o,0<xs.length→A=some ⟨c,o,none⟩∧c<w.heap.size∧ ∀i,i<xs.length→w.cell? ⟨c,o+i*2,none⟩=some (.int .i64 (nth xs (i:Int)).dc)∧w.cell? ⟨c,o+i*2+1,none⟩=some (.int .i64 (nth xs (i:Int)).bm):=by
  rcases h with h | ⟨c,o,e,hc,h⟩
  · refine⟨0,0,fun ag=> ?_⟩
    simp at h;rw[h] at ag;cases ag
  · refine⟨c,o,fun _=>⟨e,hc,fun i hi=> ?_⟩⟩
    have hx:=fM (xs:=xs) (i:=(i:Int)) (by simpa using hi)
    have ao:(xs.map a1)[i]?=some (a1 (nth xs (i:Int))):=by rw[List.getElem?_map];rw[Int.toNat_natCast] at hx;rw[hx];rfl
    obtain⟨u,hu,hv⟩:=h i 0 _ _ ao rfl
    obtain⟨anq,m_,jW⟩:=h i 1 _ _ ao rfl
    rw[Nat.add_zero] at hu
    exact⟨by rw[hu,V3.my (me (lg hv))],by rw[Nat.add_assoc,m_,V3.my (me (lg jW))]⟩
theorem anw {w:World} {rows:List (List AV)} {dK fr:Bool} {v:Value} (h:bZ (Env.wd w) (.aX rows dK fr) v): ∃A n cap,v= .slice A n cap:=by
  have h:aY w _ _ (.aX rows dK fr) v:=h
  cases h;exact⟨_,_,_,rfl⟩
theorem akz {w:World} {A:Option Addr} {xs:List aq} (h:Rows w A 5 (xs.map (fR false))): ∃c o,∃yC:Nat→Option Addr,∃yW yS:Nat→Nat,0<xs.length→A=some ⟨c,o,none⟩∧c<w.heap.size∧ ∀i,i<xs.length→
    w.cell? ⟨c,o+i*5,none⟩=some (.int .i64 (nth xs (i:Int)).ar)∧w.cell? ⟨c,o+i*5+1,none⟩=some (.int .i64 (nth xs (i:Int)).a7)∧w.cell? ⟨c,o+i*5+2,none⟩=some (.slice (yC i) (yW i) (yS i))∧
    w.cell? ⟨c,o+i*5+3,none⟩=some (.bool (nth xs (i:Int)).bI)∧w.cell? ⟨c,o+i*5+4,none⟩=some (.int .i64 (nth xs (i:Int)).bG):=by
  rcases h with h | ⟨c,o,e,hc,h⟩
  · refine⟨0,0,fun _=>none,fun _=>0,fun _=>0,fun ag=> ?_⟩
    simp at h;rw[h] at ag;cases ag
  · have ao: ∀i,i<xs.length→(xs.map (fR false))[i]?=some (fR false (nth xs (i:Int))):=fun i hi=>by
      have hx:=fM (xs:=xs) (i:=(i:Int)) (by simpa using hi)
      rw[List.getElem?_map];rw[Int.toNat_natCast] at hx;rw[hx];rfl
    have key: ∀i,∃q:Option Addr×Nat×Nat,i<xs.length→w.cell? ⟨c,o+i*5+2,none⟩=some (.slice q.1 q.2.1 q.2.2):=fun i=>by
      by_cases hi:i<xs.length
      · obtain⟨u,hu,hv⟩:=h i 2 _ _ (ao i hi) rfl
        obtain⟨A',iU,ab6,rfl⟩:=anw hv
        exact⟨(A',iU,ab6),fun _=>by rw[Nat.add_assoc];exact hu⟩
      · exact⟨(none,0,0),fun h=>absurd h hi⟩
    refine⟨c,o,fun i=>(key i).choose.1,fun i=>(key i).choose.2.1,fun i=>(key i).choose.2.2,fun _=>⟨e,hc,fun i hi=> ?_⟩⟩
    obtain⟨aor,SS,gp⟩:=h i 0 _ _ (ao i hi) rfl
    obtain⟨aos,vb,kb⟩:=h i 1 _ _ (ao i hi) rfl
    obtain⟨aot,afP,oF⟩:=h i 3 _ _ (ao i hi) rfl
    obtain⟨aou,afQ,xc⟩:=h i 4 _ _ (ao i hi) rfl
    rw[Nat.add_zero] at SS
    exact⟨by rw[SS,V3.my (me (lg gp))],by rw[Nat.add_assoc,vb,V3.my (me (lg kb))],(key i).choose_spec hi,
      by rw[Nat.add_assoc,afP,V3.pj (me (lg oF))],by rw[Nat.add_assoc,afQ,V3.my (me (lg xc))]⟩
theorem ai0 {x:bx} (h:0≤x.bm∧x.bm≤2) (h2:1≤x.dc∧x.dc≤2):C2 x=if x.bm=0∨x.bm≠x.dc then 63 else if x.bm=1 then 60 else 62:=by
  unfold C2
  rcases x with⟨a,b⟩
  simp only at h h2 ⊢
  have hb:b=0∨b=1∨b=2:=by omega
  have aG:a=1∨a=2:=by omega
  rcases hb with rfl | rfl | rfl<;>rcases aG with rfl | rfl<;>rfl
theorem am3 {h:aq} (az:0≤h.ar∧h.ar≤4):Bb h=if h.ar=0 then 45 else if h.ar=1 then 115 else if h.ar=2 then 67 else if h.ar=3 then 116 else 117:=by
  unfold Bb
  have:h.ar=0∨h.ar=1∨h.ar=2∨h.ar=3∨h.ar=4:=by omega
  rcases this with e | e | e | e | e<;>rw[e]<;>rfl
theorem XW (p:aC) (f:Frame): ∀k:Nat,(pO p f k).length=k
  | 0=>rfl
  | k+1=>by
    show(pO p f ((k:Int)+1)).length=_
    unfold pO
    rw[yp (by omega),List.length_append]
    have:=XW p f k
    unfold pO at this
    rw[this];rfl
theorem akQ {p:aC} (h:dV p=true):1≤p.ak:=by
  have:=(xT h).1
  unfold k8 bN at this
  simp at this
  omega
theorem ajf (p:aC) (f:Frame) (s:Int):(List.range p.O.length).any (fun i=>ga p f i s)=decide (0≤tZ p f s):=by
  unfold tZ first
  cases h:(List.range p.O.length).findIdx? (fun i:Nat=>ga p f i s) with
  | none=>
    rw[List.findIdx?_eq_none_iff] at h
    show _=false
    rw[←Bool.not_eq_true,List.any_eq_true]
    rintro⟨i,hi,hx⟩
    rw[h i hi] at hx;cases hx
  | some i=>
    rw[List.findIdx?_eq_some_iff_getElem] at h
    obtain⟨hi,hx,_⟩:=h
    have e:decide (0≤Df (some i))=true:=decide_eq_true (show(0:Int)≤(i:Int) by omega)
    refine Eq.trans ?_ e.symm
    rw[List.any_eq_true]
    exact⟨_,List.getElem_mem hi,hx⟩
theorem ahm (a0:aC) (J:Frame) (ae:Ng a0 J):bc Tryz.prog 32 [.agg (bA false a0),.agg (cG false J)] (.str (DJ a0 J)):=by
  obtain⟨hf,Mj,Ms,Px,anI,pl,Dd,k0,aS⟩:=Mm ae
  have xb:=akQ hf.nL
  refine bc.Ml (by kernel_rfl) fun W vs aG=> ?_
  obtain⟨mB,vs,rfl,h1,aG⟩:=aG.cons_inv
  obtain⟨uW,vs,rfl,h2,aG⟩:=aG.cons_inv
  obtain rfl:=aG.oQ
  obtain⟨s1,s2,eQ,rfl,dk,gb,mz⟩:=Nk h1
  obtain⟨wm,gK,kl,c1,j7,c2,rfl,hH,dG,et⟩:=ak9 h2
  obtain⟨b0,pG,rfl,wW,nS⟩:=aky hH (by omega)
  obtain⟨b1,GK,Fs⟩:=akA dG
  obtain⟨b2,GL,yC,yW,yS,Ft⟩:=akz et
  rw[←Dd] at h1 ⊢
  have up: ∀{w:World} {a:AV} {v:Value},Below W.heap.size W w→V2 (Env.wd W) a v→V2 (Env.wd w) a v:=fun hb h=>h.le (anA hb)
  exact ak7 (DJ a0 J) W b0 pG kl j7 J.aN.length J.aH.length J.O.length gK c1 c2 s1 s2 eQ J.ok a0.ct dk gb mz Mj Ms Px
    (fun i=>nth J.aN (i:Int)) (fun k=>tZ a0 J k) wW nS (fun k=>pO a0 J k) rfl
    (fun k=>by
      show pO a0 J ((k:Int)+1)=_
      unfold pO
      rw[yp (by omega)]
      show _++[Dz a0 J k]=_
      unfold Dz AH
      rw[Int.toNat_natCast,ajf])
    (fun k=>XW a0 J k)
    b1 GK (fun k=>(nth J.aH (k:Int)).dc) (fun k=>(nth J.aH (k:Int)).bm) Fs
    (fun k hk=>by have:=k0 k (by omega) (by omega);omega) (fun k=>(gC a0 J k).length) (fun k=>rC a0 J k) (by unfold rC qE;simp)
    (fun k hk=>by
      have:=k0 k (by omega) (by omega)
      show rC a0 J ((k:Int)+1)=_
      unfold rC
      rw[yp (by omega),←List.append_assoc]
      congr 1
      unfold xU
      rw[ai0 (by omega) (by omega)]
      congr 1
      by_cases h:0<(gC a0 J (k:Int)).length
      · rw[if_pos h,decide_eq_true (by omega)];rfl
      · rw[if_neg h,decide_eq_false (by omega)];rfl)
    (fun k=>by have:=Ni a0 J k;omega)
    (fun w k hk hb=>ala ⟨hf,by omega,by omega⟩ (by rw[Dd] at h1 ⊢;exact up hb h1) (up hb h2))
    b2 GL (fun k=>(nth J.O (k:Int)).ar) (fun k=>(nth J.O (k:Int)).a7) (fun k=>(nth J.O (k:Int)).bG) yC yW yS (fun k=>(nth J.O (k:Int)).bI) Ft
    (fun k hk=>by have:=aS k (by omega) (by omega);omega) (fun k=>sO a0 J k) (by unfold sO qE;simp)
    (fun k hk=>by
      have:=aS k (by omega) (by omega)
      show sO a0 J ((k:Int)+1)=_
      unfold sO
      rw[yp (by omega),←List.append_assoc]
      rw[am3 (by omega)])
    (fun k=>by have:=Nj a0 J k;omega) rfl
    (fun w k hb=>ak_ hf (by rw[Dd] at h1 ⊢;exact up hb h1) (up hb h2) k)
open Go Go.RowKit
def Ic (g:FuncId) (dl:Value) (b n:Nat) (code:Nat→Int) (e5:Nat→List UInt8) (w:World) (e:Ending) (w':World):Prop:=
  ∃(A:Option Addr) (c iy o:Nat) (ok:Nat→Bool) (pf hy pg:Nat→Option Addr) (m0 m1 m2 d0 d1 d2:Nat→Nat),e= .returned (.slice A n c)∧Below w.heap.size w w'∧(0<n→A=some ⟨iy,o,none⟩∧w.heap.size≤iy∧iy<w'.heap.size)∧
   (∀k,k<n→w'.cell? ⟨iy,o+k*5,none⟩=some (.int .i64 (code k))∧w'.cell? ⟨iy,o+k*5+1,none⟩=some (.bool (ok k))∧w'.cell? ⟨iy,o+k*5+2,none⟩=some (.slice (pf k) (m0 k) (d0 k))∧w'.cell? ⟨iy,o+k*5+3,none⟩=some (.slice (hy k) (m1 k) (d1 k))∧w'.cell? ⟨iy,o+k*5+4,none⟩=some (.slice (pg k) (m2 k) (d2 k)))∧
   ∀k,k<n→ ∀j5,w'.heap.size≤j5.heap.size→(∀j,j<w'.heap.size→j≠b→j5.heap[j]?=w'.heap[j]?)→Calls Tryz.prog g #[dl,.agg #[.bool (ok k),(.slice (pf k) (m0 k) (d0 k)),(.slice (hy k) (m1 k) (d1 k)),(.slice (pg k) (m2 k) (d2 k))]] j5 fun e Py=>e= .returned (.string (de (e5 k)))∧Below j5.heap.size j5 Py
def BE (b N:Nat) (W bn:World) (L:Nat→List UInt8) (k:Nat) (wr:World):Prop:=pa b N (Lib.byteCells (L k)) wr∧mb b N bn wr
theorem mb.cell {b N:Nat} {w w':World} (h:mb b N w w') {c o:Nat} {u:Value} (h1:c<N) (h2:c≠b) (hc:w.cell? ⟨c,o,none⟩=some u):w'.cell? ⟨c,o,none⟩=some u:=(World.cell?_of_block (w:=w) (h.block c h1 h2)).trans hc
theorem WE {w:World} {b:Nat} {a0 J a2 a3 a4:Value} {ty:TypeId} (h:w.heap[b]?=some (.cells #[a0,J,a2,a3,a4] ty (0,0))):w.cell? ⟨b,0,none⟩=some a0∧w.cell? ⟨b,1,none⟩=some J∧w.cell? ⟨b,2,none⟩=some a2∧w.cell? ⟨b,3,none⟩=some a3∧w.cell? ⟨b,4,none⟩=some a4:=by
  refine⟨?_,?_,?_,?_,?_⟩<;>simp[World.cell?,h]
theorem PZ {mQ ko s:List UInt8} {cn:Int} {x:ByteArray} (aw:ko.length≤400000) (h:ko=mQ++(jS cn++[32]++s++[10])) (hx:x=de (jS cn)++ByteArray.mk #[32]++de s++ByteArray.mk #[10]):(Lib.byteCells mQ).length+x.size≤140737488355328∧Lib.byteCells mQ++Lib.strCells x=Lib.byteCells ko:=by
  have e:x=de (jS cn++[32]++s++[10]):=by
    rw[hx]
    show de (jS cn)++de [32]++de s++de [10]=_
    rw[td,td,td]
  subst e
  refine⟨?_,?_⟩
  · rw[Lib.byteCells_length,nH]
    rw[h,List.length_append] at aw
    omega
  · rw[h,Lib.byteCells_append];rfl
structure s4 (r b:Nat) (bn wr:World) (vy qK:Obj) (w:World):Prop where
  jw:w.heap[r]?=some vy
  new:w.heap[wr.heap.size]?=some qK
  size:bn.heap.size≤w.heap.size
  ta:Below wr.heap.size wr w
  more:wr.heap.size<w.heap.size
  lt:r<bn.heap.size
  dF: ∀j,j<bn.heap.size→j≠b→w.heap[j]?=bn.heap[j]?
theorem s4.start {r b:Nat} {bn wr:World} {vy qK:Obj} (h:mb b bn.heap.size bn wr) (h1:wr.heap[r]?=some vy) (ao:r<bn.heap.size):s4 r b bn wr vy qK (wr.alloc qK).drew:=by
  have key:Below wr.heap.size wr (wr.alloc qK).drew:=((Below.refl _ wr).alloc (Nat.le_refl _) qK).trans ⟨rfl,rfl,rfl,Nat.le_refl _,fun _ _=>rfl⟩
  have aB:=h.size
  exact⟨(key.block r (by omega)).trans h1,uK wr qK,Nat.le_trans aB key.size,key,by show wr.heap.size<(wr.alloc qK).heap.size;simp,ao,fun j al hb=>(key.block j (by omega)).trans (h.block j al hb)⟩
theorem s4.on {r b:Nat} {bn wr w w':World} {vy qK:Obj} (h:s4 r b bn wr vy qK w) (hb:Below w.heap.size w w'):s4 r b bn wr vy qK w':=by
  have h1:=h.size;have h2:=h.more;have au:=h.lt
  exact⟨(hb.block r (by omega)).trans h.jw,(hb.block _ h2).trans h.new,Nat.le_trans h1 hb.size,h.ta.trans (hb.mono (by omega)),Nat.lt_of_lt_of_le h2 hb.size,au,fun j al ao=>(hb.block j (by omega)).trans (h.dF j al ao)⟩
theorem Aq {r q:Nat} {w:World} {a0 J a2 a3 a4 gK c1 c2 c3 c4:Value} {t u:TypeId} (h:w.heap[r]?=some (.cells #[a0,J,a2,a3,a4] t (0,0))) (k:w.heap[q]?=some (.cells #[gK,c1,c2,c3,c4] u (0,0))):
    w.cell? ⟨r,0,none⟩=some a0∧w.cell? ⟨r,1,none⟩=some J∧w.cell? ⟨r,2,none⟩=some a2∧w.cell? ⟨r,3,none⟩=some a3∧w.cell? ⟨r,4,none⟩=some a4∧w.cell? ⟨q,0,none⟩=some gK∧w.cell? ⟨q,1,none⟩=some c1∧w.cell? ⟨q,2,none⟩=some c2∧w.cell? ⟨q,3,none⟩=some c3∧w.cell? ⟨q,4,none⟩=some c4:=by
  obtain⟨Mr,jx,nm,vC,rr⟩:=WE h
  obtain⟨cH,q1,q2,q3,q4⟩:=WE k
  exact⟨Mr,jx,nm,vC,rr,cH,q1,q2,q3,q4⟩
theorem BE.mk {b N:Nat} {W bn w:World} {L:Nat→List UInt8} {k:Nat} {bs:List Value} (h:pa b N bs w) (e:bs=Lib.byteCells (L k)) (hk:mb b N bn w):BE b N W bn L k w:=⟨e▸h,hk⟩
theorem af3 (W:World) (ps ct:Int) (s1 s2 eQ tf:Value) (GK:s1.oneCell'=true) (GL:s2.oneCell'=true) (Wi:eQ.oneCell'=true) (n:Nat) (ag:n≤1000) (code:Nat→Int) (hc: ∀k,k<n→0≤code k∧code k≤9) (e5:Nat→List UInt8)
    (L:Nat→List UInt8) (az:L 0=[]) (hs: ∀k,k<n→L (k+1)=L k++(jS (code k)++[32]++e5 k++[10])) (aw: ∀k,(L k).length≤400000)
    (fa: ∀w,Below W.heap.size W w→W.heap.size+1<w.heap.size→Calls Tryz.prog 7 #[.agg #[.int .i64 ps,s1,s2,eQ,.int .i64 ct],tf] w (Ic 32 (.agg #[.int .i64 ps,s1,s2,eQ,.int .i64 ct]) (W.heap.size+1) n code e5 w)):
    Calls Tryz.prog 9 #[.agg #[.int .i64 ps,s1,s2,eQ,.int .i64 ct],tf] W fun e w'=>e= .returned (.string (de (L n)))∧Below W.heap.size W w':=by
  have H1:=Lib.hid az;clear az
  have s6:=Lib.hid hs;clear hs
  have ww:=Lib.hid hc;clear hc
  have uD:=Lib.hid aw;clear aw
  have yG:=Lib.hid fa;clear fa
  go_enter Tryz.func9,Tryz.ntmps9
  go_wp2_with (go_at_call 7;refine(yG.out _ (((Below.refl _ W).alloc (Nat.le_refl _) _).alloc (by simp) _) (by simp)).mono ?_)
  rintro e bn ⟨A,c,iy,o,ok,pf,hy,pg,m0,m1,m2,d0,d1,d2,rfl,hb,fk,dt,va⟩
  have j8:=Lib.hid hb;clear hb
  have jb:=Lib.hid fk;clear fk
  have uE:=Lib.hid dt;clear dt
  have fI:=Lib.hid va;clear va
  have ff:Hid (W.heap.size+1+1≤bn.heap.size):=by have:=j8.out.size;unfold Hid;simpa using this
  have H9:Hid (bn.heap[W.heap.size]?=some (.cells #[.int .i64 ps,s1,s2,eQ,.int .i64 ct] 27 (0,0))):=by
    unfold Hid
    refine(j8.out.block W.heap.size (by simp only[Array.size_push,World.alloc];omega)).trans ?_
    rw[Lib.alloc_old _ _ _ (by simp)]
    exact uK _ _
  have BG:Hid (BE (W.heap.size+1) bn.heap.size W bn L 0 bn):=by
    refine⟨?_,⟨rfl,rfl,rfl,Nat.le_refl _,fun _ _ _=>rfl⟩⟩
    rw[H1.out]
    refine pa.start (by have:=ff.out;omega) ?_
    rw[j8.out.block _ (by simp)]
    have:=uK (W.alloc (.cells #[.int .i64 ps,s1,s2,eQ,.int .i64 ct] 27 (0,0))) (.cells #[.pointer none,.slice none 0 0] 75 (0,0))
    simpa using this
  have kn:Hid (Below W.heap.size W bn):=(((Below.refl _ W).alloc (Nat.le_refl _) _).alloc (by simp) _).trans (j8.out.mono (by simp;omega))
  go_wp2
  go_loopw [12] (fun i wr=> ∃k:Nat,k≤n∧i= .int .i64 k∧BE (W.heap.size+1) bn.heap.size W bn L k wr) (fun i _=>n - (intOf i).toNat)
  case atStart=>exact⟨0,Nat.zero_le _,rfl,BG.out⟩
  case round=>
    clear BG
    obtain⟨k,hk,rfl,ao⟩:=hrel
    have iN:=Lib.hid ao;clear ao
    have uG:Hid (bn.heap.size≤wr.heap.size):=iN.out.2.size
    by_cases aQ:k<n
    · obtain⟨aW,e2,cF⟩:=jb.out (by omega)
      subst aW
      obtain⟨cH,q1,q2,q3,q4⟩:=uE.out k aQ
      have ts:iy≠W.heap.size+1:=by have:W.heap.size+1+1≤iy:=by simpa using e2
                                   omega
      have z0:=iN.out.2.cell cF ts cH
      have pW:=iN.out.2.cell cF ts q1
      have z2:=iN.out.2.cell cF ts q2
      have z3:=iN.out.2.cell cF ts q3
      have z4:=iN.out.2.cell cF ts q4
      clear cH q1 q2 q3 q4
      have hx:wr.heap[W.heap.size]?=some (.cells #[.int .i64 ps,s1,s2,eQ,.int .i64 ct] 27 (0,0)):=(iN.out.2.block _ (by have:=ff.out;omega) (by omega)).trans H9.out
      have aaS:=Lib.hid hx;clear hx
      go_wp2_with fail
      have JF:(de (jS (code k))).size=1:=rfl
      have JG:(de (e5 k)).size≤400000:=by
        have h1:=uD.out (k+1)
        rw[s6.out k aQ] at h1
        rw[nH]
        simp only[List.length_append] at h1
        omega
      have eP: ¬(9223372036854775807<(de (jS (code k))).size+1):=by omega
      have CB: ¬(9223372036854775807<(de (jS (code k))).size+1+(de (e5 k)).size):=by omega
      have afF: ¬(9223372036854775807<(de (jS (code k))).size+1+(de (e5 k)).size+1):=by omega
      clear JF JG
      have hlen: ∀x:ByteArray,x=de (jS (code k))++ByteArray.mk #[32]++de (e5 k)++ByteArray.mk #[10]→(Lib.byteCells (L k)).length+x.size≤140737488355328∧Lib.byteCells (L k)++Lib.strCells x=Lib.byteCells (L (k+1)):=fun x hx=>PZ (uD.out (k+1)) (s6.out k aQ) hx
      have yI:=Lib.hid hlen;clear hlen
      have ra:s4 W.heap.size (W.heap.size+1) bn wr (.cells #[.int .i64 ps,s1,s2,eQ,.int .i64 ct] 27 (0,0)) (.cells #[.int .i64 (code k),.bool (ok k),.slice (pf k) (m0 k) (d0 k),.slice (hy k) (m1 k) (d1 k),.slice (pg k) (m2 k) (d2 k)] 42 (0,0)) _:=s4.start iN.out.2 aaS.out (by have:=ff.out;omega)
      go_region_held3 (fun w'=>w'.cell? ⟨W.heap.size,0,none⟩=some (.int .i64 ps)∧w'.cell? ⟨W.heap.size,1,none⟩=some s1∧w'.cell? ⟨W.heap.size,2,none⟩=some s2∧w'.cell? ⟨W.heap.size,3,none⟩=some eQ∧w'.cell? ⟨W.heap.size,4,none⟩=some (.int .i64 ct)∧w'.cell? ⟨wr.heap.size,0,none⟩=some (.int .i64 (code k))∧w'.cell? ⟨wr.heap.size,1,none⟩=some (.bool (ok k))∧w'.cell? ⟨wr.heap.size,2,none⟩=some (.slice (pf k) (m0 k) (d0 k))∧w'.cell? ⟨wr.heap.size,3,none⟩=some (.slice (hy k) (m1 k) (d1 k))∧w'.cell? ⟨wr.heap.size,4,none⟩=some (.slice (pg k) (m2 k) (d2 k)))
        (first
          | assumption
          | exact Aq ra.jw ra.new
          | exact Aq oE.jw oE.new
          | exact Aq S0 SZ)
        (first
          | (go_at_call 31;refine(acv (code k) (ww.out k aQ).1 (ww.out k aQ).2 _).mono ?_;rintro e j5 ⟨rfl,rfl⟩)
          | (go_at_call 32;refine(fI.out k aQ _ ra.size ra.dF).mono ?_;rintro e Py ⟨rfl,Ci⟩;have oE:=ra.on Ci)
          | (go_at_call 30;refine(abg _ _ _ _ _ _ (iN.out.1.m.below uG.out oE.ta) (yI.out _ rfl).1 oE.size).mono ?_;rintro e aac ⟨rfl,Sb,J2,SH⟩;have S0:=(J2.block W.heap.size (by have:=ff.out;omega) (by omega)).trans oE.jw;have SZ:=(SH wr.heap.size (Nat.le_refl _) oE.more (by have:=ff.out;have:=uG.out;omega)).trans oE.new;have Cz:=BE.mk (W:=W) Sb (yI.out _ rfl).2 ((iN.out.2.trans (mb.of (oE.ta.mono uG.out))).trans J2)))
      all_goals
        have wx:=Lib.hid Cz
        clear ra oE Ci Sb J2 SH S0 SZ Cz
        go_wp2
        go_roundw
        case rel=>exact⟨k+1,by omega,by go_num,wx.out⟩
        case measure=>simp[intOf];omega
    · have lV:k=n:=by omega
      subst lV
      have aB:W.heap.size+1≤wr.heap.size:=by have:=ff.out;have:=uG.out;omega
      go_wp2_with (go_at_call 33;refine(Qk _ _ _ _ iN.out.1.is aB).mono ?_)
      rintro e en ⟨rfl,R3⟩
      have wx:=Lib.hid (kn.out.trans ((iN.out.2.below (Nat.le_succ _) (by have:=ff.out;omega)).trans (R3.mono (Nat.le_succ _))));clear R3
      go_wp2
      go_ret
      exact⟨rfl,wx.out⟩
theorem aa1 {w:World} {N:Nat} {v:Value} {l:List UInt8} (h:w.ownsRow N 5 1 v (Lib.byteCells l).length (Lib.byteCells l)):(Go.convert 22 9 v).run Tryz.prog w= .ok (.string (de l)) w:=by
  rw[Lib.byteCells_length] at h
  rcases h.2 with⟨rfl,az⟩ | ⟨g,cap,fx,rfl,hb,ax,h1,h2,au,a8⟩
  · have e:l=[]:=by
      cases l with
      | nil=>rfl
      | cons x r=>simp at az
    subst e
    rw[run_convert_bytes_string w 22 9 5 none 0 0 Tryz.underlying22 Tryz.underlying5 Tryz.underlying9]
    rfl
  · refine run_convert_bytes_back (P:=Tryz.prog) w 22 9 5 ⟨g,0,none⟩ cap l Tryz.underlying22 Tryz.underlying5 Tryz.underlying9 (fun j al=> ?_)
    have e:fx[j]?=some (.int .u8 (l[j].toNat:Int)):=by
      have bQ:(fx.toList.take (l.length*1))[j]?=some (.int .u8 (l[j].toNat:Int)):=by
        rw[a8];unfold Lib.byteCells;rw[List.getElem?_map,List.getElem?_eq_getElem al];rfl
      rw[List.getElem?_take_of_lt (by omega)] at bQ
      simpa using bQ
    have acM:(⟨g,0,none⟩:Addr).add j=⟨g,j,none⟩:=by
      cases j with
      | zero=>rfl
      | succ i=>simp[Addr.add]
    rw[acM]
    simp[World.cell?,ax,e]
def yA (N:Nat) (bn:World) (L:Nat→List UInt8) (k:Nat) (v:Value) (wr:World):Prop:=wr.ownsRow N 5 1 v (Lib.byteCells (L k)).length (Lib.byteCells (L k))∧Below N bn wr∧v.oneCell'=true
theorem yA.next {N:Nat} {bn w:World} {L:Nat→List UInt8} {k n:Nat} {v:Value} {xs ys:List Value} (h:w.ownsRow N 5 1 v ((Lib.byteCells (L k)).length+n) xs) (e:xs=Lib.byteCells (L (k+1))) (hb:Below N bn w) (ag:ys.length=n) (hx:xs=Lib.byteCells (L k)++ys):yA N bn L (k+1) v w:=by
  have aw:(Lib.byteCells (L k)).length+n=xs.length:=by rw[hx,List.length_append,ag]
  rw[aw,e] at h
  refine⟨h,hb,?_⟩
  rcases h.2 with⟨rfl,_⟩ | ⟨g,cap,fx,rfl,_⟩<;>rfl
theorem akN (W:World) (ps ct:Int) (s1 s2 eQ tf:Value) (GK:s1.oneCell'=true) (GL:s2.oneCell'=true) (Wi:eQ.oneCell'=true) (n:Nat) (ag:n≤1000) (code:Nat→Int) (hc: ∀k,k<n→0≤code k∧code k≤9) (e5:Nat→List UInt8)
    (L:Nat→List UInt8) (az:L 0=[]) (hs: ∀k,k<n→L (k+1)=L k++(jS (code k)++[32]++e5 k++[10])) (aw: ∀k,(L k).length≤400000)
    (fa: ∀w,Below W.heap.size W w→W.heap.size<w.heap.size→Calls Tryz.prog 6 #[.agg #[.int .i64 ps,s1,s2,eQ,.int .i64 ct],tf] w (Ic 35 (.agg #[.int .i64 ps,s1,s2,eQ,.int .i64 ct]) W.heap.size n code e5 w)):
    Calls Tryz.prog 10 #[.agg #[.int .i64 ps,s1,s2,eQ,.int .i64 ct],tf] W fun e w'=>e= .returned (.string (de (L n)))∧Below W.heap.size W w':=by
  obtain⟨i0,hi,sl,nb,nc⟩:=info_parts Ip
  have aaQ:=Lib.hid (And.intro hi (And.intro sl (And.intro nb nc)));clear hi sl nb nc
  have H1:=Lib.hid az;clear az
  have s6:=Lib.hid hs;clear hs
  have ww:=Lib.hid hc;clear hc
  have uD:=Lib.hid aw;clear aw
  have yG:=Lib.hid fa;clear fa
  go_enter Tryz.func10,Tryz.ntmps10
  go_wp2_with (go_at_call 6;refine(yG.out _ ((Below.refl _ W).alloc (Nat.le_refl _) _) (by simp)).mono ?_)
  rintro e bn ⟨A,c,iy,o,ok,pf,hy,pg,m0,m1,m2,d0,d1,d2,rfl,hb,fk,dt,va⟩
  have j8:=Lib.hid hb;clear hb
  have jb:=Lib.hid fk;clear fk
  have uE:=Lib.hid dt;clear dt
  have fI:=Lib.hid va;clear va
  have ff:Hid (W.heap.size+1≤bn.heap.size):=by have:=j8.out.size;unfold Hid;simpa using this
  have H9:Hid (bn.heap[W.heap.size]?=some (.cells #[.int .i64 ps,s1,s2,eQ,.int .i64 ct] 27 (0,0))):=
    (j8.out.block W.heap.size (by simp only[Array.size_push,World.alloc];omega)).trans (uK _ _)
  have BG:Hid (yA bn.heap.size bn L 0 (.slice none 0 0) bn):=by
    refine⟨?_,Below.refl _ _,rfl⟩
    rw[H1.out]
    exact World.ownsRow_nil _ _ _ _
  have kn:Hid (Below W.heap.size W bn):=((Below.refl _ W).alloc (Nat.le_refl _) _).trans (j8.out.mono (by simp))
  go_wp2
  go_loopw [5,13] (fun v i wr=> ∃k:Nat,k≤n∧i= .int .i64 k∧yA bn.heap.size bn L k v wr) (fun _ i _=>n - (intOf i).toNat)
  case atStart=>exact⟨0,Nat.zero_le _,rfl,BG.out⟩
  case round=>
    clear BG
    obtain⟨k,hk,rfl,ao⟩:=hrel
    have iN:=Lib.hid ao;clear ao
    have uG:Hid (bn.heap.size≤wr.heap.size):=iN.out.2.1.size
    have ai:=iN.out.2.2
    by_cases aQ:k<n
    · obtain⟨aW,e2,cF⟩:=jb.out (by omega)
      subst aW
      obtain⟨cH,q1,q2,q3,q4⟩:=uE.out k aQ
      have z0:=(iN.out.2.1.cell (p:=⟨iy,o+k*5,none⟩) cF).trans cH
      have pW:=(iN.out.2.1.cell (p:=⟨iy,o+k*5+1,none⟩) cF).trans q1
      have z2:=(iN.out.2.1.cell (p:=⟨iy,o+k*5+2,none⟩) cF).trans q2
      have z3:=(iN.out.2.1.cell (p:=⟨iy,o+k*5+3,none⟩) cF).trans q3
      have z4:=(iN.out.2.1.cell (p:=⟨iy,o+k*5+4,none⟩) cF).trans q4
      clear cH q1 q2 q3 q4
      go_wp2_with fail
      have JF:(de (jS (code k))).size=1:=rfl
      have JG:(de (e5 k)).size≤400000:=by
        have h1:=uD.out (k+1)
        rw[s6.out k aQ] at h1
        rw[nH]
        simp only[List.length_append] at h1
        omega
      have eP: ¬(9223372036854775807<(de (jS (code k))).size+1):=by omega
      have CB: ¬(9223372036854775807<(de (jS (code k))).size+1+(de (e5 k)).size):=by omega
      have afF: ¬(9223372036854775807<(de (jS (code k))).size+1+(de (e5 k)).size+1):=by omega
      clear JF JG
      have hlen: ∀x:ByteArray,x=de (jS (code k))++ByteArray.mk #[32]++de (e5 k)++ByteArray.mk #[10]→(Lib.byteCells (L k)).length+x.size≤140737488355328∧Lib.byteCells (L k)++Lib.strCells x=Lib.byteCells (L (k+1)):=fun x hx=>PZ (uD.out (k+1)) (s6.out k aQ) hx
      have yI:=Lib.hid hlen;clear hlen
      have ra:s4 W.heap.size W.heap.size bn wr (.cells #[.int .i64 ps,s1,s2,eQ,.int .i64 ct] 27 (0,0)) (.cells #[.int .i64 (code k),.bool (ok k),.slice (pf k) (m0 k) (d0 k),.slice (hy k) (m1 k) (d1 k),.slice (pg k) (m2 k) (d2 k)] 42 (0,0)) _:=s4.start (mb.of iN.out.2.1) ((iN.out.2.1.block _ (by have:=ff.out;omega)).trans H9.out) (by have:=ff.out;omega)
      go_region_held3 (fun w'=>w'.cell? ⟨W.heap.size,0,none⟩=some (.int .i64 ps)∧w'.cell? ⟨W.heap.size,1,none⟩=some s1∧w'.cell? ⟨W.heap.size,2,none⟩=some s2∧w'.cell? ⟨W.heap.size,3,none⟩=some eQ∧w'.cell? ⟨W.heap.size,4,none⟩=some (.int .i64 ct)∧w'.cell? ⟨wr.heap.size,0,none⟩=some (.int .i64 (code k))∧w'.cell? ⟨wr.heap.size,1,none⟩=some (.bool (ok k))∧w'.cell? ⟨wr.heap.size,2,none⟩=some (.slice (pf k) (m0 k) (d0 k))∧w'.cell? ⟨wr.heap.size,3,none⟩=some (.slice (hy k) (m1 k) (d1 k))∧w'.cell? ⟨wr.heap.size,4,none⟩=some (.slice (pg k) (m2 k) (d2 k)))
        (first
          | assumption
          | exact Aq ra.jw ra.new
          | exact Aq zy.jw zy.new
          | exact Aq oE.jw oE.new)
        (first
          | (go_at_call 34;refine(aco (code k) (ww.out k aQ).1 (ww.out k aQ).2 _).mono ?_;rintro e j5 ⟨rfl,R4⟩;have zy:=ra.on R4)
          | (go_at_call 35;refine(fI.out k aQ _ zy.size zy.dF).mono ?_;rintro e Py ⟨rfl,Ci⟩;have oE:=zy.on Ci))
      have En:=Lib.hid oE
      clear ra zy oE R4 Ci z0 pW z2 z3 z4
      obtain⟨hi,sl,nb,nc⟩:=aaQ.out
      have qa:=Mq iN.out.1 En.out.ta
      have R6:=iN.out.2.1.trans (En.out.ta.mono uG.out)
      go_wp2_with (at_builtin;refine Lib.wpList_append_own_string _ rfl _ _ 22 9 rfl bn.heap.size 5 i0 Tryz.underlying22 Tryz.underlying9 hi sl nb nc _ _ _ rfl qa _ rfl ?c3 ?c4 ?c5 ?_)
      case c3=>have:=(yI.out _ rfl).1;unfold maxLen;omega
      case c4=>exact(yI.out _ rfl).1
      case c5=>exact En.out.size
      intro eu aac tA mW _
      have Cz:yA bn.heap.size bn L (k+1) eu aac:=yA.next tA (yI.out _ rfl).2 (R6.grown mW En.out.size (fun j e=>(qa.lt j e).1)) ((Lib.strCells_length _).trans (by simp only[ByteArray.size_append];rfl)) rfl
      have wx:=Lib.hid Cz
      clear Cz tA mW qa R6
      go_wp2
      go_roundw
      case rel=>exact⟨k+1,by omega,by go_num,wx.out⟩
      case measure=>simp[intOf];omega
    · have lV:k=n:=by omega
      subst lV
      have tu:=aa1 iN.out.1
      go_wp2
      go_ret
      exact⟨rfl,kn.out.trans (iN.out.2.1.mono (by have:=ff.out;omega))⟩
end Go.Proofs.YtejmihecgodhnaaGreatDoor.Fw
set_option linter.unusedVariables false
set_option maxRecDepth 100000
set_option maxHeartbeats 4000000
set_option linter.unusedSimpArgs false
namespace Go.Proofs.YtejmihecgodhnaaGreatDoor.Fw
open Go
attribute [local irreducible] evS evSD WpS Weak Oper.looksAt
section
variable (ad:Int→ByteArray→Prop) (m0:Int→ByteArray→Nat) (aU:Int→ByteArray→Int→ByteArray→Prop) (m1:Int→ByteArray→Int→ByteArray→Nat) (bH:Int→ByteArray→Int→ByteArray→ByteArray→Int→Prop) (m2:Int→ByteArray→Int→ByteArray→ByteArray→Int→Nat) (cX:Int→ByteArray→Int→ByteArray→Prop) (m3:Int→ByteArray→Int→ByteArray→Nat) (a0:aC) (J:Frame) (aa:ByteArray) (rJ:Int) (eE:ByteArray) (cY:Int) (v5:ByteArray) (v46:Int) (lK uz:ByteArray) (nA:Int)
abbrev A9:=bif ((nth J.aH v46).bm !=(nth J.aH v46).dc) then(ByteArray.mk #[63]) else(nth ([(ByteArray.mk #[63]),(ByteArray.mk #[60]),(ByteArray.mk #[62])]) (nth J.aH v46).bm)
abbrev A_:=[(ByteArray.mk #[45]),(ByteArray.mk #[115]),(ByteArray.mk #[67]),(ByteArray.mk #[116]),(ByteArray.mk #[117])]
abbrev D1:=decide (((gC a0 J v46).length:Int)>0)
abbrev HE:=bif (nth J.aN cY) then(ByteArray.mk #[35]) else eE
abbrev D2:=bif (D1 a0 J v46) then((A9 J v46)++(ByteArray.mk #[33])) else(A9 J v46)
def Zy:Prop:=
  bH cY v5 v46 lK (uz++(nth A_ (nth J.O nA).ar)) (IntKind.i64.wrap (nA+1))∧m2 cY v5 v46 lK (uz++(nth A_ (nth J.O nA).ar)) (IntKind.i64.wrap (nA+1))<m2 cY v5 v46 lK uz nA
def Zz:Prop:=
  ((0≤nA∧nA.toNat<J.O.length)∧((0≤(nth J.O nA).ar∧(nth J.O nA).ar.toNat<A_.length)∧(uz.size+(nth A_ (nth J.O nA).ar).size≤9223372036854775807)))∧(Zy bH m2 J cY v5 v46 lK uz nA)
def ZA:Prop:=
  lK.size+(D2 a0 J v46).size≤9223372036854775807
def ZB:Prop:=
  ((sF a0 J v46)∧((gC a0 J v46).length≤4611686018427387904→(D1 a0 J v46)=true→(A9 J v46).size+(ByteArray.mk #[33]).size≤9223372036854775807))∧((gC a0 J v46).length≤4611686018427387904→ZA a0 J v46 lK)
def ZC:Prop:=
  aU cY v5 (IntKind.i64.wrap (v46+1)) (lK++(D2 a0 J v46))∧m1 cY v5 (IntKind.i64.wrap (v46+1)) (lK++(D2 a0 J v46))<m1 cY v5 v46 lK
def ZD:Prop:=
  ((decide (v46<(J.aH.length:Int)))=false→(lK.size+(ByteArray.mk #[32]).size≤9223372036854775807)∧(J.O.length≤4611686018427387904→bH cY v5 v46 lK (lK++(ByteArray.mk #[32])) 0∧ ∀(uz:ByteArray) (nA:Int),bH cY v5 v46 lK uz nA→(((decide (nA<(J.O.length:Int)))=false→uz=aa)∧((decide (nA<(J.O.length:Int)))=true→Zz bH m2 J cY v5 v46 lK uz nA))))∧((decide (v46<(J.aH.length:Int)))=true→((0≤v46∧v46.toNat<J.aH.length)∧((0≤(nth J.aH v46).bm∧(nth J.aH v46).bm.toNat<([(ByteArray.mk #[63]),(ByteArray.mk #[60]),(ByteArray.mk #[62])]).length)∧(ZB a0 J v46 lK)))∧((gC a0 J v46).length≤4611686018427387904→ZC aU m1 a0 J cY v5 v46 lK))
def ZE:Prop:=
  ((decide (rJ<(a0.O.length:Int)))=false→(0≤cY∧cY.toNat<J.aN.length)∧((v5.size+(HE J eE cY).size≤9223372036854775807)∧(ad (IntKind.i64.wrap (cY+1)) (v5++(HE J eE cY))∧m0 (IntKind.i64.wrap (cY+1)) (v5++(HE J eE cY))<m0 cY v5)))∧((decide (rJ<(a0.O.length:Int)))=true→(u7 a0 J rJ cY)∧(cX cY v5 (IntKind.i64.wrap (rJ+1)) (bif (ga a0 J rJ cY) then(ByteArray.mk #[61]) else eE)∧m3 cY v5 (IntKind.i64.wrap (rJ+1)) (bif (ga a0 J rJ cY) then(ByteArray.mk #[61]) else eE)<m3 cY v5 rJ eE))
def ZF:Prop:=
  ((decide (cY<(J.aN.length:Int)))=false→(v5.size+(ByteArray.mk #[32]).size≤9223372036854775807)∧(J.aH.length≤4611686018427387904→aU cY v5 0 (v5++(ByteArray.mk #[32]))∧ ∀(v46:Int) (lK:ByteArray),aU cY v5 v46 lK→(ZD aU m1 bH m2 a0 J aa cY v5 v46 lK)))∧((decide (cY<(J.aN.length:Int)))=true→a0.O.length≤4611686018427387904→cX cY v5 0 (ByteArray.mk #[46])∧ ∀(rJ:Int) (eE:ByteArray),cX cY v5 rJ eE→(ZE ad m0 cX m3 a0 J rJ eE cY v5))
def Zx (a0:aC) (J:Frame) (aa:ByteArray) (ad:Int→ByteArray→Prop) (m0:Int→ByteArray→Nat) (aU:Int→ByteArray→Int→ByteArray→Prop) (m1:Int→ByteArray→Int→ByteArray→Nat) (bH:Int→ByteArray→Int→ByteArray→ByteArray→Int→Prop) (m2:Int→ByteArray→Int→ByteArray→ByteArray→Int→Nat) (cX:Int→ByteArray→Int→ByteArray→Prop) (m3:Int→ByteArray→Int→ByteArray→Nat):Prop:=
 J.aN.length≤4611686018427387904→ad 0 (ByteArray.mk #[])∧ ∀(cY:Int) (v5:ByteArray),ad cY v5→(ZF ad m0 aU m1 bH m2 cX m3 a0 J aa cY v5)
theorem amZ (ae:Ng a0 J):bc Tryz.prog 35 [.agg (bA false a0),.agg (cG false J)] (.str (DJ a0 J)):=(fun(ad:Int→ByteArray→Prop) (m0:Int→ByteArray→Nat) (aU:Int→ByteArray→Int→ByteArray→Prop) (m1:Int→ByteArray→Int→ByteArray→Nat) (bH:Int→ByteArray→Int→ByteArray→ByteArray→Int→Prop) (m2:Int→ByteArray→Int→ByteArray→ByteArray→Int→Nat) (cX:Int→ByteArray→Int→ByteArray→Prop) (m3:Int→ByteArray→Int→ByteArray→Nat) (h:Zx a0 J (DJ a0 J) ad m0 aU m1 bH m2 cX m3)=>bc.run (ps:=[.dl,.frame]) (rs:=[.str]) (x:=(a0,J,())) (r:=((DJ a0 J),())) ⟨91,dj,[Ze,Za]⟩ ⟨[],[],[],[],[]⟩ (.lp [] [2,3,16] [(3,4),(2,5)] [.int,.str] [17,5] (fun aD=>[(5,.s aD.2.1),(17,.i .i64 aD.1)]) (fun aD=>ad aD.1 aD.2.1) (fun aD=>m0 aD.1 aD.2.1) fun aD=>(.wJ (.lp [] [2,3,44,45] [(3,4),(2,5)] [.int,.str] [46,5] (fun bp=>[(5,.s bp.2.1),(46,.i .i64 bp.1)]) (fun bp=>aU aD.1 aD.2.1 bp.1 bp.2.1) (fun bp=>m1 aD.1 aD.2.1 bp.1 bp.2.1) fun bp=>(.lp [] [76,77] [] [.str,.int] [5,78] (fun bn=>[(5,.s bn.1),(78,.i .i64 bn.2.1)]) (fun bn=>bH aD.1 aD.2.1 bp.1 bp.2.1 bn.1 bn.2.1) (fun bn=>m2 aD.1 aD.2.1 bp.1 bp.2.1 bn.1 bn.2.1) fun _=> .nil)) (.lp [] [2,3,5,6,16,17,22] [(3,4),(2,5)] [.int,.str] [23,7] (fun en=>[(7,.s en.2.1),(23,.i .i64 en.1)]) (fun en=>cX aD.1 aD.2.1 en.1 en.2.1) (fun en=>m3 aD.1 aD.2.1 en.1 en.2.1) fun _=> .nil))) Tryz.func35 h) (fun v x=>bW J.aN.length (fun _=>false) v∧x=DI a0 J v) (fun v _=>cg J.aN.length v) (fun _ _ v x=>bW J.aH.length (fun _=>false) v∧x=um a0 J v) (fun _ _ v _=>cg J.aH.length v) (fun _ _ _ _ x v=>bW J.O.length (fun _=>false) v∧x=vS a0 J v) (fun _ _ _ _ _ v=>cg J.O.length v) (fun v _ j c=>c=xZ a0 J v j∧bW a0.O.length (fun _=>false) j) (fun _ _ j _=>cg a0.O.length j) (by
 unfold Zx
 obtain⟨hf,Mj,Ms,Px,anI,pl,Dd,k0,aS⟩:=Mm ae
 intro ag
 refine⟨⟨cT (cN _),rfl⟩,fun v x aJ=> ?_⟩
 obtain⟨aJ,rfl⟩:=aJ
 have gp:=aJ.1
 have kb:=aJ.2.1
 unfold ZF
 refine⟨fun hv=> ?_,fun hv Cv=>⟨⟨?_,cT (cN _)⟩,fun j c cP=> ?_⟩⟩
 ·have tJ:v=(J.aN.length:Int):=by
   have: ¬v<(J.aN.length:Int):=by simpa using hv
   omega
  subst tJ
  have qf:=Nh a0 J J.aN.length
  refine⟨by show(de _).size+(de [32]).size≤_;rw[nH,nH];simp only[List.length_cons,List.length_nil];omega,fun SG=>⟨⟨cT (cN _),akZ⟩,fun k x kV=> ?_⟩⟩
  obtain⟨kV,rfl⟩:=kV
  have sd:=kV.1
  have kY:=kV.2.1
  have k3:=Ni a0 J k
  unfold ZD
  refine⟨fun hk=> ?_,fun hk=> ?_⟩
  ·have lV:k=(J.aH.length:Int):=by
    have: ¬k<(J.aH.length:Int):=by simpa using hk
    omega
   subst lV
   refine⟨by show(de _).size+(de [32]).size≤_;rw[nH,nH];simp only[List.length_cons,List.length_nil];omega,fun Cv=>⟨⟨cT (cN _),ak1⟩,fun x i kW=> ?_⟩⟩
   obtain⟨kW,rfl⟩:=kW
   have FD:=kW.1
   have aoi:=kW.2.1
   have z8:=Nj a0 J i
   refine⟨fun hi=> ?_,fun hi=> ?_⟩
   ·have: ¬i<(J.O.length:Int):=by simpa using hi
    rw[show i=(J.O.length:Int) by omega];rfl
   ·have aQ:i<(J.O.length:Int):=by simpa using hi
    obtain⟨ej,s1⟩:=aS i FD aQ
    unfold Zz A_
    refine⟨⟨bX kW hi,⟨ej,by simp only[List.length_cons,List.length_nil];omega⟩,?_⟩,?_⟩
    ·show(vS a0 J i).size+(HH (nth J.O i)).size≤_
     rw[ZJ ej s1]
     show(de _).size+(de _).size≤_
     rw[nH,nH];simp only[List.length_cons,List.length_nil];omega
    ·unfold Zy A_
     have aS:=cw (b5 Cv) kW hi rfl
     refine⟨⟨aS.1,?_⟩,aS.2⟩
     rw[hL (b5 Cv) FD aQ]
     exact ak3 FD ej s1
  ·have aQ:k<(J.aH.length:Int):=by simpa using hk
   obtain⟨_,_,ej,s1⟩:=k0 k sd aQ
   have key:(Dl a0 J k).size≤2:=by rw[WW ej s1,nH];exact WX _ _ _
   have dk:(z_ (nth J.aH k)).size=1:=by rw[VL ej s1,nH];rfl
   have gb:(um a0 J k).size≤J.aN.length+1+k.toNat*2:=by show(de _).size≤_;rw[nH];exact k3
   refine⟨⟨bX kV hk,⟨ej,by simp only[List.length_cons,List.length_nil];omega⟩,?_⟩,fun mr=> ?_⟩
   ·unfold ZB D1 A9
    refine⟨⟨⟨hf,sd,by omega⟩,fun _ _=> ?_⟩,fun _=> ?_⟩
    ·show(z_ (nth J.aH k)).size+(de [33]).size≤_
     rw[dk,nH];simp
    ·unfold ZA D2 D1 A9
     show(um a0 J k).size+(Dl a0 J k).size≤_
     omega
   ·unfold ZC D2 D1 A9
    have aS:=cw (b5 SG) kV hk rfl
    refine⟨⟨aS.1,?_⟩,aS.2⟩
    rw[hL (b5 SG) sd aQ]
    exact ak2 sd ej s1
 ·rfl
 ·obtain⟨rfl,cP⟩:=cP
  have zr:=cP.1
  have u4:=cP.2.1
  unfold ZE HE
  have aQ:v<(J.aN.length:Int):=by simpa using hv
  have aS:=cw (b5 ag) aJ hv rfl
  refine⟨fun al=> ?_,fun al=> ?_⟩
  ·have J1:j=(a0.O.length:Int):=by
    have: ¬j<(a0.O.length:Int):=by simpa using al
    omega
   subst J1
   have qf:=Nh a0 J v
   refine⟨bX aJ hv,?_,⟨aS.1,?_⟩,aS.2⟩
   ·have:(bif nth J.aN v then ByteArray.mk #[35] else xZ a0 J v a0.O.length).size=1:=by cases nth J.aN v<;>rfl
    rw[this]
    show(de _).size+1≤_
    rw[nH];omega
   ·rw[hL (b5 ag) gp aQ];exact ak0 gp
  ·have Cr:j<(a0.O.length:Int):=by simpa using al
   have SQ:=cw (b5 Cv) cP al rfl
   refine⟨⟨hf,zr,Cr⟩,⟨?_,SQ.1⟩,SQ.2⟩
   rw[hL (b5 Cv) zr Cr];exact akO zr)
end
end Go.Proofs.YtejmihecgodhnaaGreatDoor.Fw
