/- Walks and summaries of functions, printed by a program of mine (tools/mk2.py), with the proofs of what they owe. -/
import Derived.Test.YtejmihecgodhnaaGreatM5
set_option linter.unusedVariables false
set_option maxRecDepth 100000
set_option maxHeartbeats 4000000
set_option linter.unusedSimpArgs false
namespace Go.Proofs.YtejmihecgodhnaaGreat.Fw
open Go
attribute [local irreducible] evS evSD WpS Weak Oper.looksAt
section
abbrev ya (r:Type):Type:=List (List Bool)→Int→List aC→r
variable (a7:ya Prop) (aW:ya Nat) (ae:List (List Bool)→Int→Prop) (ag:List (List Bool)→Int→Nat) (a0:Way) (aP:Int) (hk:Bool) (ar:List Bool) (U:List dy) (hw:List aC) (hi:List Nat) (hb ba:List (List Bool)) (eu:Int) (be:List aC) (aB:Nat)
abbrev hq:=(nth be aP).a1
abbrev m_:=IntKind.i64.wrap ((hq aP be)+1)
abbrev ti:=be.set aP.toNat (aC.mk (nth be aP).aK (m_ aP be) (nth be aP).ak (nth be aP).cn (nth be aP).cx)
abbrev qz:=nth a0.ah (hq aP be)
abbrev m8:=ba.getD (nth hi aP) []
abbrev ll:=(a0.ah.length:Int)
abbrev xZ:=IntKind.i64.wrap ((ll a0) - 1)
abbrev m9:=(!(nth (m8 aP hi ba) (hq aP be))) || ((nth ar (qz a0 aP be)) || ((decide ((hq aP be)<(xZ a0)))&&(!(nth (m8 aP hi ba) (m_ aP be)))))
abbrev Ea:List AV:=[aF hk,aU 1 0 ar.length,aU 2 0 U.length,aU 3 0 hw.length]
abbrev Kx:List Blk:=(⟨aB,4,[(Ea hk ar U hw)]⟩::⟨0,1,List.map aX ar⟩::⟨0,2,List.map bE U⟩::⟨0,5,bh 4 hw hi⟩::List.map bK hb)
abbrev hE:=0+aP.toNat
abbrev Eb:List (Nat×AV):=[(1,.ptr 0 aB 0 0),(2,.ptr 3 0 (hE aP) 0),(3,bz 3 0),(6,aE (ll a0))]
abbrev x1:=decide ((hq aP be)<(ll a0))
abbrev r2:=be.length=hi.length∧aP.toNat<be.length
abbrev Tz:=[81,80,79,78,77,76,75,74,73,72,71,70,69,68,67]
abbrev x0:=IntKind.i64.wrap (eu+1)
abbrev oG:=bif (nth ar (nth a0.ah eu)) then(ba.set (nth hi aP) ((m8 aP hi ba).set eu.toNat true)) else ba
noncomputable def ag0:Code:=j2 Tryz.f114
def ag1:List Item:=(List.range 38).map dd
def ag2:List (List Nat):=[[],[0],[0,1],[0,1,2],[],rg 0 5,rg 0 6,rg 0 7,rg 0 8,rg 0 9,rg 0 10,rg 0 11,rg 0 12,rg 0 9,rg 0 9++[13],rg 0 9,rg 0 9++[13,14,15],rg 0 9++rg 13 17,rg 0 18,rg 0 19,rg 0 20,rg 0 21,rg 0 22,rg 0 22,rg 0 22++[23],rg 0 25,rg 0 26,rg 0 27,rg 0 28,rg 0 29,rg 0 30,rg 0 27,rg 0 27++[31],rg 0 33,rg 0 34,rg 0 35,rg 0 36,rg 0 37]
def Kt:Prop:=
  (r2 aP hi be)∧((r2 aP hi be)∧(a7 ba eu (ti aP be)∧aW ba eu (ti aP be)<aW ba eu be))
def Ku:Prop:=
  (((r2 aP hi be)∧((((nth hi aP)<ba.length)∧(0≤(hq aP be)∧(hq aP be).toNat<(nth be aP).ak.length))∧(((nth hi aP)<ba.length∧(hq aP be).toNat<(m8 aP hi ba).length)∧((!(nth (m8 aP hi ba) (hq aP be)))=false→(0≤(hq aP be)∧(hq aP be).toNat<a0.ah.length)∧((0≤(qz a0 aP be)∧(qz a0 aP be).toNat<ar.length)∧((nth ar (qz a0 aP be))=false→(decide ((hq aP be)<(xZ a0)))=true→(r2 aP hi be)∧((((nth hi aP)<ba.length)∧(0≤(m_ aP be)∧(m_ aP be).toNat<(nth be aP).ak.length))∧((nth hi aP)<ba.length∧(m_ aP be).toNat<(m8 aP hi ba).length))))))))∧((m9 a0 aP ar hi ba be)=true→Ai a0 aP hk ar U hw hi hb ar U be hi ba))∧((!(m9 a0 aP ar hi ba be))=true→Kt a7 aW aP hi ba eu be)
def Kv:Prop:=
  ((r2 aP hi be)∧((x1 a0 aP be)=false→(Oj aP hk ar U be hi ba)∧(∀(ym:List aC) (i14:List Nat) (vS:List (List Bool)),zK aP hk ar U be hi ba ar U ym i14 vS→(Ai a0 aP hk ar U hw hi hb ar U ym i14 vS))))∧((x1 a0 aP be)=true→(r2 aP hi be)∧(Ku a7 aW a0 aP hk ar U hw hi hb ba eu be))
def Kw:Prop:=
  ((0≤eu∧eu.toNat<a0.ah.length)∧((0≤(nth a0.ah eu)∧(nth a0.ah eu).toNat<ar.length)∧((nth ar (nth a0.ah eu))=true→(hw.length=hi.length∧aP.toNat<hw.length)∧((((nth hi aP)<ba.length)∧(0≤eu∧eu.toNat<(nth hw aP).ak.length))∧((nth hi aP)<ba.length∧eu.toNat<(m8 aP hi ba).length)))))∧(∀vx:List (List Bool),(oG a0 aP ar hi ba eu)=vx→(ae vx (x0 eu)∧ag vx (x0 eu)<ag ba eu))
def Ks (a0:Way) (aP:Int) (aB:Nat) (hk:Bool) (ar:List Bool) (U:List dy) (hw:List aC) (hi:List Nat) (hb:List (List Bool)) (ae:List (List Bool)→Int→Prop) (ag:List (List Bool)→Int→Nat) (a7:ya Prop) (aW:ya Nat):Prop:=
 a0.ah.length≤4611686018427387904→ae hb 0∧ ∀(ba:List (List Bool)) (eu:Int),ae ba eu→(((decide (eu<(ll a0)))=false→a7 ba eu hw∧ ∀(be:List aC),a7 ba eu be→(Kv a7 aW a0 aP hk ar U hw hi hb ba eu be))∧((decide (eu<(ll a0)))=true→Kw ae ag a0 aP ar hw hi ba eu))
theorem ag3 (a0:Way) (aP:Int) (aB:Nat) (hk:Bool) (ar:List Bool) (U:List dy) (hw:List aC) (hi:List Nat) (hb:List (List Bool)) (ae:List (List Bool)→Int→Prop) (ag:List (List Bool)→Int→Nat) (a7:ya Prop) (aW:ya Nat) (h:Ks a0 aP aB hk ar U hw hi hb ae ag a7 aW):dg Tryz.prog 114 [.agg (ej false a0),.ptr 0 aB 0 0,.ptr 3 0 (hE aP) 0] (Kx hk ar U hw hi hb aB) (fun r H'=> ∃(ga:List aC) (f_:List Nat) (dV:List (List Bool)),r= .tup []∧H'=(⟨aB,4,[[aF hk,aU 1 0 ar.length,aU 2 0 U.length,aU 3 0 ga.length]]⟩::⟨0,1,List.map aX ar⟩::⟨0,2,List.map bE U⟩::⟨0,5,bh 4 ga f_⟩::List.map bK dV)∧Ai a0 aP hk ar U hw hi hb ar U ga f_ dV):=by
 unfold Ks at h
 refine dg.go (fn:=Tryz.f114) [(0,.agg (ej false a0)),(1,.ptr 0 aB 0 0),(2,.ptr 3 0 (hE aP) 0)] Tryz.func114 (fun _ _=> ?_)
 show WpS _ (bJ ag0 1) _ ⟨bu 92 [(0,.agg (ej false a0)),(1,.ptr 0 aB 0 0),(2,.ptr 3 0 (hE aP) 0)],[],(Kx hk ar U hw hi hb aB)⟩
 refine BG [] 0 [(3,bz 3 0)] [1] [0,1,2] (fun L=>(3,(ej false a0))::L) id ?_
 refine ei [(6,aE (ll a0))] [3] (a0.ah.length≤4611686018427387904) ?_ (fun q2=> ?_)
 ·
  refine cr [] 1 ?_
  refine sLen 3 (some 12) [(11,bC cs a0.ah),(10,bz 3 0)] cs a0.ah (fun q3=> ?_)
  exact c_ [(6,aE (ll a0))] q3
 replace h:=h q2
 refine ko ?_
 refine ei [(14,bC cs a0.ah),(15,aE (ll a0)),(16,aE 0)] [4] (True) ?_ (fun q4=> ?_)
 ·
  refine cr [] 2 ?_
  refine sLen 3 (some 15) [(14,bC cs a0.ah),(13,bz 3 0)] cs a0.ah (fun cP=> ?_)
  exact c_ [(16,aE 0)] trivial
 refine jn 0 ?_
 obtain⟨rR,h⟩:=h
 refine oX (fun(v:List (List Bool)×Int)=>(⟨(bu 92 [(1,.ptr 0 aB 0 0),(2,.ptr 3 0 (hE aP) 0),(3,bz 3 0),(6,aE (ll a0)),(14,bC cs a0.ah),(15,aE (ll a0)),(16,aE (v.2))]),[(3,(ej false a0))],(⟨aB,4,[(Ea hk ar U hw)]⟩::⟨0,1,List.map aX ar⟩::⟨0,2,List.map bE U⟩::⟨0,5,bh 4 hw hi⟩::List.map bK (v.1))⟩:St)) (fun(v:List (List Bool)×Int)=>ae (v.1) (v.2)) (fun(v:List (List Bool)×Int)=>ag (v.1) (v.2)) (hb,0) (hW []) rR (fun v aR=> ?_)
 obtain⟨ba,eu⟩:=v
 replace h:=h ba eu aR
 dsimp only
 refine jo [] 3 [(17,aF (decide (eu<(ll a0))))] [1] [7] ?_
 obtain⟨qv,h⟩:=h
 refine ei [] [0,1,7] ((decide (eu<(ll a0)))=true) ?_ (fun hS=> ?_)
 ·
  replace h:=qv
  refine hI (fun ky=> ?_) (fun ky=> ?_)
  ·
   refine gj ?_
   exact dc.normal (by simp only[ky,oG,m9]<;>rfl) gg
  ·
   replace h:=h ky
   refine mM 0 ?_
   refine dc.exit ?_
   refine fh.exit ?_
   refine eh.here ?_
   refine eE.normal ?_
   refine ko ?_
   refine jn 2 ?_
   obtain⟨nP,h⟩:=h
   refine oX (fun(v:List aC)=>(⟨(bu 92 (Eb a0 aP aB)),[(3,(ej false a0))],(⟨aB,4,[[aF hk,aU 1 0 ar.length,aU 2 0 U.length,aU 3 0 v.length]]⟩::⟨0,1,List.map aX ar⟩::⟨0,2,List.map bE U⟩::⟨0,5,bh 4 v hi⟩::List.map bK ba)⟩:St)) (fun(v:List aC)=>a7 ba eu v) (fun(v:List aC)=>aW ba eu v) hw (hW []) nP (fun be aR=> ?_)
   replace h:=h be aR
   unfold Kv at h
   obtain⟨DD,h⟩:=h
   refine ei [] [4] ((x1 a0 aP be)=true) ?_ (fun lN=> ?_)
   ·
    replace h:=DD
    obtain⟨oA,h⟩:=h
    refine ei [(40,aF (x1 a0 aP be))] [4] (True) ?_ (fun iq=> ?_)
    ·
     replace h:=oA
     refine cr [] 8 ?_
     have lM:=h
     refine mu 4 (some 38) [(37,.ptr 3 0 (hE aP) 1),(36,.ptr 3 0 (hE aP) 0),(35,.ptr 3 0 (hE aP) 0)] (bh 4 be hi) aP 3 1 0 (aE (hq aP be)) (eY lM.1 lM.2) ?_
     exact c_ [(40,aF (x1 a0 aP be)),(39,aE (ll a0))] trivial
    refine hI (fun px=> ?_) (fun px=> ?_)
    ·
     refine gj ?_
     exact dc.normal (by simp only[ky,px,oG,m9]<;>rfl) gg
    ·
     replace h:=h px
     refine mM 2 ?_
     refine dc.exit ?_
     refine fh.exit ?_
     refine eh.here ?_
     refine eE.normal ?_
     refine cr [] 12 ?_
     obtain⟨qs,h⟩:=h
     refine JF 2 (some 91) [(90,.ptr 3 0 (hE aP) 0)] [.ptr 3 0 (hE aP) 0] _ (agW aP aB hk ar U be hi ba qs) (fun r H' U=>by obtain⟨_,_,_,rfl,_⟩:=U;rfl) ?_
     rintro r H' ⟨ym,i14,vS,rfl,rfl,py⟩
     replace h:=h ym i14 vS py
     refine gG [] ?_
     refine FX (t0) [] ?_
     exact⟨ym,i14,vS,rfl,rfl,h⟩
   replace h:=h lN
   refine jn 3 ?_
   obtain⟨rP,h⟩:=h
   refine ei [(9,aE (hq aP be))] [4] (True) ?_ (fun jw=> ?_)
   ·
    replace h:=rP
    refine cr [] 9 ?_
    have mn:=h
    refine mu 4 (some 44) [(43,.ptr 3 0 (hE aP) 1),(42,.ptr 3 0 (hE aP) 0),(41,.ptr 3 0 (hE aP) 0)] (bh 4 be hi) aP 3 1 0 (aE (hq aP be)) (eY mn.1 mn.2) ?_
    exact c_ [(9,aE (hq aP be))] trivial
   unfold Ku at h
   obtain⟨rO,h⟩:=h
   refine ei [] [0,1,4] ((!(m9 a0 aP ar hi ba be))=true) ?_ (fun pz=> ?_)
   ·
    replace h:=rO
    obtain⟨rN,h⟩:=h
    refine ei [(82,aF (m9 a0 aP ar hi ba be))] [0,1,4] (True) ?_ (fun m4=> ?_)
    ·
     replace h:=rN
     refine ta [] 10 ag1 ag2 [] ?_
     obtain⟨qt,h⟩:=h
     refine nY 4 (some 48) [(47,.ptr 3 0 (hE aP) 2),(46,.ptr 3 0 (hE aP) 0),(45,.ptr 3 0 (hE aP) 0)] (bh 4 be hi) aP 27 2 0 (aU ((nth hi aP)+4) 0 (nth be aP).ak.length) (eY qt.1 qt.2) ?_
     obtain⟨⟨mo,aip⟩,h⟩:=h
     refine vu 2 (some 50) [(49,aE (hq aP be))] ba (nth hi aP) 4 mo aip ?_
     obtain⟨pA,h⟩:=h
     refine A0 1 (some 51) [] ba (nth hi aP) (hq aP be) 4 pA.1 pA.2 ?_
     refine qE 2 53 (!(nth (m8 aP hi ba) (hq aP be))) [(52,aF (!(nth (m8 aP hi ba) (hq aP be))))] (fun ki=> ?_) (fun ki=> ?_)
     ·
      exact lR ([(82,aF true)]++gH Tz++[(66,aF true),(65,aF true)]++gH [64,63,62,61,60,59,58,57,56,55,54]) trivial (by simp only[ky,lN,ki,oG,m9]<;>kernel_rfl)
     ·
      replace h:=h ki
      refine K5 4 (some 57) (aU 1 0 ar.length) [(56,.ptr 0 aB 0 1),(55,.ptr 0 aB 0 0),(54,.ptr 0 aB 0 0)] (φ:=aB=aB) rfl ?_
      obtain⟨s9,h⟩:=h
      refine AY 4 (some 61) [(60,aE (hq aP be)),(59,bC cs a0.ah),(58,bz 3 0)] cs a0.ah 1 s9 ?_
      obtain⟨UO,h⟩:=h
      refine AX 2 (some 63) [(62,aE (qz a0 aP be))] 1 0 1 UO ?_
      refine AZ 1 (some 64) [] aX ar (qz a0 aP be) 4 0 0 (aF (nth ar (qz a0 aP be))) (by simpa using UO.2) ?_
      refine qE 2 66 (nth ar (qz a0 aP be)) [(65,aF (nth ar (qz a0 aP be)))] (fun kT=> ?_) (fun kT=> ?_)
      ·
       exact lR ([(82,aF true)]++gH Tz) trivial (by simp only[ky,lN,ki,kT,oG,m9]<;>kernel_rfl)
      ·
       replace h:=h kT
       refine qE 5 71 (decide ((hq aP be)<(xZ a0))) [(70,aF (decide ((hq aP be)<(xZ a0)))),(69,aE (xZ a0)),(68,aE (ll a0)),(67,aE (hq aP be))] (fun mq=> ?_) (fun mq=> ?_)
       ·
        replace h:=h mq
        obtain⟨Jh,h⟩:=h
        refine nY 4 (some 75) [(74,.ptr 3 0 (hE aP) 2),(73,.ptr 3 0 (hE aP) 0),(72,.ptr 3 0 (hE aP) 0)] (bh 4 be hi) aP 27 2 0 (aU ((nth hi aP)+4) 0 (nth be aP).ak.length) (eY Jh.1 Jh.2) ?_
        obtain⟨⟨s8,aiq⟩,h⟩:=h
        refine vu 3 (some 78) [(77,aE (m_ aP be)),(76,aE (hq aP be))] ba (nth hi aP) 4 s8 aiq ?_
        have Ar:=h
        refine A0 1 (some 79) [] ba (nth hi aP) (m_ aP be) 4 Ar.1 Ar.2 ?_
        exact lR [(82,aF (!(nth (m8 aP hi ba) (m_ aP be)))),(81,aF (!(nth (m8 aP hi ba) (m_ aP be)))),(80,aF (!(nth (m8 aP hi ba) (m_ aP be))))] trivial (by simp only[ky,lN,ki,kT,mq,oG,m9]<;>kernel_rfl)
       ·
        exact lR ([(82,aF false),(81,aF false)]++gH [80,79,78,77,76,75,74,73,72]) trivial (by simp only[ky,lN,ki,kT,mq,oG,m9]<;>kernel_rfl)
    refine hI (fun mr=> ?_) (fun mr=> ?_)
    ·
     replace h:=h mr
     refine j3 ?_
     refine dc.ret ?_
     refine eh.ret ?_
     refine fh.ret ?_
     refine eh.ret ?_
     refine eE.ret ?_
     refine m6 (t0) [] ?_
     exact⟨be,hi,ba,rfl,rfl,h⟩
    ·
     refine gj ?_
     exact dc.normal (by simp only[ky,lN,mr,oG,m9]<;>rfl) gg
   replace h:=h pz
   unfold Kt at h
   refine cr [] 11 ?_
   obtain⟨pB,h⟩:=h
   refine mu 4 (some 86) [(85,.ptr 3 0 (hE aP) 1),(84,.ptr 3 0 (hE aP) 0),(83,.ptr 3 0 (hE aP) 0)] (bh 4 be hi) aP 3 1 0 (aE (hq aP be)) (eY pB.1 pB.2) ?_
   obtain⟨ms,h⟩:=h
   refine m7 4 none [(89,.ptr 3 0 (hE aP) 1),(88,.ptr 3 0 (hE aP) 0),(87,aE (m_ aP be))] (bh 4 be hi) aP 1 1 0 [aE (m_ aP be)] 3 (bh 4 (ti aP be) hi) (eY ms.1 ms.2) (nA ms.1 ms.2) ?_
   refine gG [] ?_
   refine eh.normal ?_
   exact fh.again (ti aP be) h (pM (s':=⟨(bu 92 (Eb a0 aP aB)),[(3,(ej false a0))],(⟨aB,4,[[aF hk,aU 1 0 ar.length,aU 2 0 U.length,aU 3 0 be.length]]⟩::⟨0,1,List.map aX ar⟩::⟨0,2,List.map bE U⟩::⟨0,5,bh 4 (ti aP be) hi⟩::List.map bK ba)⟩) (hW (n:=92) (A':=(Eb a0 aP aB)) (L':=[(3,(ej false a0))]) []) (congrArg (fun z=>(⟨(bu 92 (Eb a0 aP aB)),[(3,(ej false a0))],(⟨aB,4,[[aF hk,aU 1 0 ar.length,aU 2 0 U.length,aU 3 0 z]]⟩::⟨0,1,List.map aX ar⟩::⟨0,2,List.map bE U⟩::⟨0,5,bh 4 (ti aP be) hi⟩::List.map bK ba)⟩:St)) (show be.length=(ti aP be).length by simp)))
 replace h:=h hS
 unfold Kw at h
 obtain⟨qu,h⟩:=h
 obtain⟨vx,m5⟩: ∃w:List (List Bool),(oG a0 aP ar hi ba eu)=w:=⟨_,rfl⟩
 refine ih [] [7] id (fun _=>(⟨aB,4,[(Ea hk ar U hw)]⟩::⟨0,1,List.map aX ar⟩::⟨0,2,List.map bE U⟩::⟨0,5,bh 4 hw hi⟩::List.map bK vx)) (True) ?_ (fun u5=> ?_)
 ·
  replace h:=qu
  refine jn 1 ?_
  obtain⟨u7,h⟩:=h
  refine ei [(7,aE eu),(8,aE (nth a0.ah eu))] [7] (True) ?_ (fun xy=> ?_)
  ·
   replace h:=u7
   refine cr [] 4 ?_
   have nQ:=h
   refine pF 2 (some 19) [(18,aE eu)] cs a0.ah 1 nQ ?_
   exact c_ [(8,aE (nth a0.ah eu)),(7,aE eu),(20,aE (nth a0.ah eu))] trivial
  obtain⟨At,h⟩:=h
  refine ei [(27,aF (nth ar (nth a0.ah eu)))] [1,1,7] (True) ?_ (fun pC=> ?_)
  ·
   replace h:=At
   refine cr [] 5 ?_
   refine DV 4 (some 24) (aU 1 0 ar.length) [(23,.ptr 0 aB 0 1),(22,.ptr 0 aB 0 0),(21,.ptr 0 aB 0 0)] (φ:=aB=aB) rfl ?_
   have UL:=h
   refine JE 2 (some 26) [(25,aE (nth a0.ah eu))] 1 0 1 UL ?_
   refine afA 1 (some 27) [] aX ar (nth a0.ah eu) 4 0 0 (aF (nth ar (nth a0.ah eu))) (by simpa using UL.2) ?_
   exact c_ [] trivial
  refine hI (fun rQ=> ?_) (fun rQ=> ?_)
  ·
   replace h:=h rQ
   refine cr [] 6 ?_
   obtain⟨kx,h⟩:=h
   refine mu 4 (some 31) [(30,.ptr 3 0 (hE aP) 2),(29,.ptr 3 0 (hE aP) 0),(28,.ptr 3 0 (hE aP) 0)] (bh 4 hw hi) aP 27 2 0 (aU ((nth hi aP)+4) 0 (nth hw aP).ak.length) (eY kx.1 kx.2) ?_
   obtain⟨⟨As,aio⟩,h⟩:=h
   refine afy 2 (some 33) [(32,aE eu)] ba (nth hi aP) 4 As aio ?_
   have nR:=h
   refine afE 1 none [] ba (nth hi aP) eu true (fun r=>(⟨aB,4,[(Ea hk ar U hw)]⟩::⟨0,1,List.map aX ar⟩::⟨0,2,List.map bE U⟩::⟨0,5,bh 4 hw hi⟩::r)) nR.1 nR.2 ?_
   refine gG [] ?_
   refine eh.normal ?_
   exact dc.normal trivial (by simp only[←m5,hS,rQ,cond_true,cond_false,oG,m9];exact gg)
  ·
   refine gj ?_
   refine eh.normal ?_
   exact dc.normal trivial (by simp only[←m5,hS,rQ,cond_true,cond_false,oG,m9];exact gg)
 replace h:=h vx m5
 refine cr [] 7 ?_
 refine gG [(16,aE (x0 eu)),(34,aE (x0 eu))] ?_
 exact fh.again (vx,(x0 eu)) h (hW [])
theorem agZ (a0:Way) (aP:Int) (aB:Nat) (hk:Bool) (ar:List Bool) (U:List dy) (hw:List aC) (hi:List Nat) (hb:List (List Bool)) (ab:RE a0 aP hk ar U hw hi hb):dg Tryz.prog 114 [.agg (ej false a0),.ptr 0 aB 0 0,.ptr 3 0 (hE aP) 0] (Kx hk ar U hw hi hb aB) (fun r H'=> ∃(ga:List aC) (f_:List Nat) (dV:List (List Bool)),r= .tup []∧H'=(⟨aB,4,[[aF hk,aU 1 0 ar.length,aU 2 0 U.length,aU 3 0 ga.length]]⟩::⟨0,1,List.map aX ar⟩::⟨0,2,List.map bE U⟩::⟨0,5,bh 4 ga f_⟩::List.map bK dV)∧Ai a0 aP hk ar U hw hi hb ar U ga f_ dV):=ag3 a0 aP aB hk ar U hw hi hb (aey a0.ah (cV hk ar U hw hi hb) (view hw hi hb) hi aP hw) (fun _ k=>cB a0.ah.length k) (fun bs _ ws=>aez a0.ah (cV hk ar U hw hi hb) (view hw hi hb) hi aP bs ws) (fun _ _ ws=>((a0.ah.length:Int) - (nth ws aP).a1).toNat) (by
 unfold Ks ll
 obtain⟨F,au,h1,hs,rl,gx,q_,ld⟩:=ab
 have aN:aP.toNat<hw.length:=by omega
 have cC:=F.yQ aN
 have GM: ∀k:Int,0≤k→k.toNat<a0.ah.length→0≤nth a0.ah k∧(nth a0.ah k).toNat<ar.length:=fun k aY dr=>by
  have:=rl _ (eP dr);omega
 intro ad
 refine⟨⟨dp (c9 _),by rw[Int.toNat_zero,Us];exact cC⟩,fun bs k aR=>⟨fun Cv=> ?_,fun Cv=> ?_⟩⟩
 ·obtain⟨aR,cA⟩:=aR
  have jq: ¬k<(a0.ah.length:Int):=by simpa using Cv
  have aY:=aR.1
  rw[Uu gx (by omega)] at cA
  have wD:(m0 a0.ah (cV hk ar U hw hi hb) (nth (view hw hi hb) aP)).length=a0.ah.length:=by unfold m0;rw[List.length_zipWith];omega
  refine⟨⟨(nth (view hw hi hb) aP).a1,Ni q_ ld,cA⟩,fun ws fc=> ?_⟩
  obtain⟨g,sw,cT⟩:=fc
  unfold Kv r2 x1 ll hq
  have ax:(nth ws aP).a1=g:=cT.a1
  have e2:bs.getD (nth hi aP) []=m0 a0.ah (cV hk ar U hw hi hb) (nth (view hw hi hb) aP):=cT.ak
  have dl:(nth ws aP).ak.length=a0.ah.length:=cT.pT.trans wD
  have GX:=sw
  obtain⟨g0,g1,-⟩:=GX
  have jJ:=cT.h6
  have hid:=cT.qg
  have bi:IntKind.i64.wrap ((a0.ah.length:Int) - 1)=(a0.ah.length:Int) - 1:=ji (by omega) (by omega)
  rw[ax]
  refine⟨⟨jJ,fun hc=>⟨⟨cT.G,au,by omega⟩,fun w i b rf=> ?_⟩⟩,fun hc=>⟨jJ,?_⟩⟩
  ·obtain⟨G,hv⟩:=rf
   have kl:=cT.again G hv
   refine⟨kl.G,?_⟩
   rw[kl.iN,cT.Ae]
   have fO:mS a0.ah (cV hk ar U hw hi hb) (m0 a0.ah (cV hk ar U hw hi hb) (nth (view hw hi hb) aP)) g=false:=by unfold mS;rw[hc];rfl
   have hO:=Gv hs sw fO
   have Co: ¬g<(a0.ah.length:Int):=by simpa using hc
   congr 1
   rw[RD,if_pos (by omega),wD]
  ·have NP:g<(a0.ah.length:Int):=by simpa using hc
   unfold Ku r2 m9 xZ ll m8 qz m_ hq
   rw[ax,e2,dl]
   have NH:=ahH (f:=cV hk ar U hw hi hb) (ak:=m0 a0.ah (cV hk ar U hw hi hb) (nth (view hw hi hb) aP)) hs hc
   refine⟨⟨⟨jJ,⟨hid,g0,by omega⟩,⟨hid,by omega⟩,fun _=>⟨⟨g0,by omega⟩,GM g g0 (by omega),fun _ ao=>⟨jJ,?_⟩⟩⟩,fun ZP=> ?_⟩,fun ue=> ?_⟩
   ·rw[bi] at ao
    have ao:g<(a0.ah.length:Int) - 1:=by simpa using ao
    rw[ji (by omega) (by omega)]
    exact⟨⟨hid,by omega,by omega⟩,hid,by omega⟩
   ·have aQ:mS a0.ah (cV hk ar U hw hi hb) (m0 a0.ah (cV hk ar U hw hi hb) (nth (view hw hi hb) aP)) g=false:=by
     have h2:(!mS a0.ah (cV hk ar U hw hi hb) (m0 a0.ah (cV hk ar U hw hi hb) (nth (view hw hi hb) aP)) g)=true:=NH.symm.trans ZP
     simpa using h2
    have hO:=Gv hs sw aQ
    refine⟨cT.G,?_⟩
    rw[cT.iN]
    congr 1
    rw[RD,if_neg (by omega),hO]
   ·have aQ:mS a0.ah (cV hk ar U hw hi hb) (m0 a0.ah (cV hk ar U hw hi hb) (nth (view hw hi hb) aP)) g=true:=by
     have h2:(!mS a0.ah (cV hk ar U hw hi hb) (m0 a0.ah (cV hk ar U hw hi hb) (nth (view hw hi hb) aP)) g)=false:=NH.symm.trans (not_eq ue)
     simpa using h2
    obtain⟨aQ,_⟩:=Nj hs sw aQ
    unfold Kt r2 ti m_ hq
    rw[ax]
    have bA:IntKind.i64.wrap (g+1)=g+1:=ji (by omega) (by omega)
    have yu:=cT.SD (IntKind.i64.wrap (g+1))
    refine⟨jJ,jJ,⟨_,aQ,yu⟩,?_⟩
    have hM:=yu.a1
    show((a0.ah.length:Int) - (nth (ws.set aP.toNat _) aP).a1).toNat<((a0.ah.length:Int) - (nth ws aP).a1).toNat
    rw[hM,ax]
    show((a0.ah.length:Int) - IntKind.i64.wrap (g+1)).toNat<_
    rw[bA];omega
 ·obtain⟨aR,cA⟩:=aR
  have lf:k<(a0.ah.length:Int):=by simpa using Cv
  have aY:=aR.1
  have CI:(jy a0.ah (cV hk ar U hw hi hb) (nth (view hw hi hb) aP).ak k.toNat).length=a0.ah.length:=by rw[Lf gx (by omega),gx]
  have e2:bs.getD (nth hi aP) []=jy a0.ah (cV hk ar U hw hi hb) (nth (view hw hi hb) aP).ak k.toNat:=cA.ak
  have dl:(nth hw aP).ak.length=a0.ah.length:=cA.pT.trans CI
  have hid:=cA.qg
  unfold Kw oG x0 m8
  rw[e2]
  refine⟨⟨⟨aY,by omega⟩,GM k aY (by omega),fun _=>⟨cA.h6,⟨hid,aY,by omega⟩,hid,by omega⟩⟩,fun w ga=> ?_⟩
  have aQ:=df (c2 ad) aR Cv rfl
  refine⟨⟨aQ.1,?_⟩,aQ.2⟩
  rw[nh (c2 ad) aY lf,show(k+1).toNat=k.toNat+1 by omega,←Uv gx (by omega),←ga]
  have o8:=Ut (s:=a0.ah) (f:=cV hk ar U hw hi hb) (b:=(nth (view hw hi hb) aP).ak) gx (show k.toNat<_ by omega)
  rw[ov aY] at o8
  have uj:nth ar (nth a0.ah k)=fo (cV hk ar U hw hi hb) (a0.ah[k.toNat]'(by omega)):=by
   unfold fo
   rw[←h7 (by omega)];rfl
  rw[uj]
  cases lc:fo (cV hk ar U hw hi hb) (a0.ah[k.toNat]'(by omega)) with
  | true=>
   rw[Bool.or_true]
   exact cA.JK _ (by rw[List.length_set])
  | false=>
   rw[Bool.or_false]
   have:(jy a0.ah (cV hk ar U hw hi hb) (nth (view hw hi hb) aP).ak k.toNat).set k.toNat ((nth (view hw hi hb) aP).ak[k.toNat]'(by omega))=jy a0.ah (cV hk ar U hw hi hb) (nth (view hw hi hb) aP).ak k.toNat:=by
    rw[←o8,h7 (xs:=jy _ _ _ _) (by rw[CI];omega)];exact List.set_getElem_self _
   rw[this];exact cA)
end
section
variable (ae:oN Prop) (ag:oN Nat) (a0:aV) (hk:Bool) (ar:List Bool) (U:List dy) (hw:List aC) (hi:List Nat) (hb ba:List (List Bool)) (c1:List Nat) (v12:Int) (be hV cS:List aC) (aB:Nat)
abbrev lm:=cS.set v12.toNat (aC.mk 1 (nth cS v12).a1 (nth cS v12).ak (nth cS v12).cn (nth cS v12).cx)
abbrev oH:=(lm v12 cS).set v12.toNat (aC.mk 2 (nth (lm v12 cS) v12).a1 (nth (lm v12 cS) v12).ak (nth (lm v12 cS) v12).cn (nth (lm v12 cS) v12).cx)
abbrev pH:=be.set v12.toNat (aC.mk 4 (nth be v12).a1 (nth be v12).ak (nth be v12).cn (nth be v12).cx)
abbrev vn:=Frame.mk hk ar U (view (lm v12 cS) c1 ba)
abbrev KM:List Blk:=(⟨aB,4,[[aF hk,aU 1 0 ar.length,aU 2 0 U.length,aU 3 0 hw.length]]⟩::⟨0,1,List.map aX ar⟩::⟨0,2,List.map bE U⟩::⟨0,5,bh 4 hw hi⟩::List.map bK hb)
abbrev nb:=IntKind.i64.wrap (v12+1)
abbrev tk:=nth (nth a0.O v12).ah 0
abbrev lQ:=((nth be v12).aK !=4)&&(nth ar (tk a0 v12))
abbrev KN:=(oH v12 cS).set v12.toNat (aC.mk (nth (oH v12 cS) v12).aK (nth (oH v12 cS) v12).a1 (nth (oH v12 cS) v12).ak true (nth (oH v12 cS) v12).cx)
abbrev Ec:=(pH v12 be).set v12.toNat (aC.mk (nth (pH v12 be) v12).aK (nth (pH v12 be) v12).a1 (nth (pH v12 be) v12).ak (nth (pH v12 be) v12).cn 0)
abbrev my:=((nth cS v12).aK==1) || ((nth cS v12).aK==2)
abbrev gn:=0+v12.toNat
abbrev KJ:List (Nat×AV):=[(1,.ptr 0 aB 0 0),(2,bz 2 0),(11,aE (hw.length:Int)),(12,aE (nb v12))]
abbrev KK:List AV:=[aF hk,aU 1 0 ar.length,aU 2 0 U.length,aU 3 0 be.length]
abbrev na:=bif (my v12 cS) then(bif (hD a0 (vn hk ar U ba c1 v12 cS) v12) then(KN v12 cS) else(lm v12 cS)) else cS
abbrev x2:=(nth be v12).aK==0
abbrev KL:List (Nat×AV):=[(12,aE (nb v12)),(90,aE (nb v12))]
abbrev AR:=decide (v12<(hw.length:Int))
noncomputable def aha:Code:=j2 Tryz.f83
def ahd:List Item:=(List.range 17).map dd
def ahe:List (List Nat):=[[],[0],[0,1],[0,1,2],rg 0 4,rg 0 5,rg 0 6,rg 0 7,rg 0 8,rg 0 9,rg 0 6,rg 0 6++[10],rg 0 6++[10,11],rg 0 6++[10,11,12],rg 0 14,rg 0 15,rg 0 16]
def ahb:List Item:=(List.range 6).map dd
def ahc:List (List Nat):=[[],[],[1],[1,2],[],rg 0 5]
def KB:Prop:=
  (lQ a0 ar v12 be)=true→(be.length=c1.length∧v12.toNat<be.length)∧((pH v12 be).length=c1.length∧v12.toNat<(pH v12 be).length)
def KC:Prop:=
  (oH v12 cS).length=c1.length∧v12.toNat<(oH v12 cS).length
def KD:Prop:=
  (hD a0 (vn hk ar U ba c1 v12 cS) v12)=true→((lm v12 cS).length=c1.length∧v12.toNat<(lm v12 cS).length)∧(KC c1 v12 cS)
def KE:Prop:=
  (ar.length≤4611686018427387904∧U.length≤4611686018427387904∧(n4 (lm v12 cS) c1 ba∧(lm v12 cS).length≤4611686018427387904∧(∀x∈ba,List.length x≤4611686018427387904))∧xw a0 (vn hk ar U ba c1 v12 cS) v12)∧(KD a0 hk ar U ba c1 v12 cS)
def KF:Prop:=
  (((nth hV v12).aK==4)=true→(RE (nth a0.O v12) v12 hk ar U hV c1 ba)∧(∀(yn:List aC) (i55:List Nat) (vT:List (List Bool)),Ai (nth a0.O v12) v12 hk ar U hV c1 ba ar U yn i55 vT→(ae vT i55 (nb v12) yn∧ag vT i55 (nb v12) yn<ag ba c1 v12 be)))∧(((nth hV v12).aK==4)=false→ae ba c1 (nb v12) hV∧ag ba c1 (nb v12) hV<ag ba c1 v12 be)
def KG:Prop:=
  (((cS.length=c1.length∧v12.toNat<cS.length)∧(((nth cS v12).aK==1)=false→cS.length=c1.length∧v12.toNat<cS.length))∧((my v12 cS)=true→(cS.length=c1.length∧v12.toNat<cS.length)∧(KE a0 hk ar U ba c1 v12 cS)))∧(∀hV:List aC,(na a0 hk ar U ba c1 v12 cS)=hV→((hV.length=c1.length∧v12.toNat<hV.length)∧(KF ae ag a0 hk ar U ba c1 v12 be hV)))
def KH:Prop:=
  (((be.length=c1.length∧v12.toNat<be.length)∧(((nth be v12).aK !=4)=true→((0:Int)≤0∧(0:Int).toNat<(nth a0.O v12).ah.length)∧(0≤(tk a0 v12)∧(tk a0 v12).toNat<ar.length)))∧(KB a0 ar c1 v12 be))∧(∀cS:List aC,(bif (lQ a0 ar v12 be) then(Ec v12 be) else be)=cS→(KG ae ag a0 hk ar U ba c1 v12 be cS))
def KI:Prop:=
  ((AR hw v12)=false→DY a0 hk ar U hw hi hb ar U be c1 ba)∧((AR hw v12)=true→(0≤v12∧v12.toNat<be.length)∧((0≤v12∧v12.toNat<a0.O.length)∧(((be.length=c1.length∧v12.toNat<be.length)∧((x2 v12 be)=true→ae ba c1 (nb v12) be∧ag ba c1 (nb v12) be<ag ba c1 v12 be))∧((!(x2 v12 be))=true→KH ae ag a0 hk ar U ba c1 v12 be))))
def KA (a0:aV) (aB:Nat) (hk:Bool) (ar:List Bool) (U:List dy) (hw:List aC) (hi:List Nat) (hb:List (List Bool)) (ae:oN Prop) (ag:oN Nat):Prop:=
 ae hb hi 0 hw∧ ∀(ba:List (List Bool)) (c1:List Nat) (v12:Int) (be:List aC),ae ba c1 v12 be→(KI ae ag a0 hk ar U hw hi hb ba c1 v12 be)
theorem ahf (a0:aV) (aB:Nat) (hk:Bool) (ar:List Bool) (U:List dy) (hw:List aC) (hi:List Nat) (hb:List (List Bool)) (ae:oN Prop) (ag:oN Nat) (h:KA a0 aB hk ar U hw hi hb ae ag):dg Tryz.prog 83 [.agg (bV false a0),.ptr 0 aB 0 0] (KM hk ar U hw hi hb aB) (fun r H'=> ∃(ga:List aC) (f_:List Nat) (dV:List (List Bool)),r= .tup []∧H'=(⟨aB,4,[[aF hk,aU 1 0 ar.length,aU 2 0 U.length,aU 3 0 ga.length]]⟩::⟨0,1,List.map aX ar⟩::⟨0,2,List.map bE U⟩::⟨0,5,bh 4 ga f_⟩::List.map bK dV)∧DY a0 hk ar U hw hi hb ar U ga f_ dV):=by
 unfold KA at h
 refine dg.go (fn:=Tryz.f83) [(0,.agg (bV false a0)),(1,.ptr 0 aB 0 0)] Tryz.func83 (fun _ _=> ?_)
 show WpS _ (bJ aha 1) _ ⟨bu 91 [(0,.agg (bV false a0)),(1,.ptr 0 aB 0 0)],[],(KM hk ar U hw hi hb aB)⟩
 refine BG [] 0 [(2,bz 2 0)] [1] [0,1,1] (fun L=>(2,(bV false a0))::L) id ?_
 refine ei [(11,aE (hw.length:Int)),(12,aE 0)] [2] (True) ?_ (fun q2=> ?_)
 ·
  refine cr [] 1 ?_
  refine DV 4 (some 10) (aU 3 0 hw.length) [(9,.ptr 0 aB 0 3),(8,.ptr 0 aB 0 0),(7,.ptr 0 aB 0 0)] (φ:=aB=aB) rfl ?_
  exact c_ [(12,aE 0),(11,aE (hw.length:Int))] trivial
 refine jn 0 ?_
 obtain⟨rS,h⟩:=h
 refine oX (fun(v:List (List Bool)×List Nat×Int×List aC)=>(⟨(bu 91 [(1,.ptr 0 aB 0 0),(2,bz 2 0),(11,aE (hw.length:Int)),(12,aE (v.2.2.1))]),[(2,(bV false a0))],(⟨aB,4,[[aF hk,aU 1 0 ar.length,aU 2 0 U.length,aU 3 0 (v.2.2.2).length]]⟩::⟨0,1,List.map aX ar⟩::⟨0,2,List.map bE U⟩::⟨0,5,bh 4 (v.2.2.2) (v.2.1)⟩::List.map bK (v.1))⟩:St)) (fun(v:List (List Bool)×List Nat×Int×List aC)=>ae (v.1) (v.2.1) (v.2.2.1) (v.2.2.2)) (fun(v:List (List Bool)×List Nat×Int×List aC)=>ag (v.1) (v.2.1) (v.2.2.1) (v.2.2.2)) (hb,hi,0,hw) (hW []) rS (fun v aR=> ?_)
 obtain⟨ba,c1,v12,be⟩:=v
 replace h:=h ba c1 v12 be aR
 dsimp only
 refine jo [] 2 [(13,aF (AR hw v12))] [1] [4] ?_
 unfold KI at h
 obtain⟨qw,h⟩:=h
 refine ei [] [0,1,4] ((AR hw v12)=true) ?_ (fun q4=> ?_)
 ·
  replace h:=qw
  refine hI (fun cP=> ?_) (fun cP=> ?_)
  ·
   refine gj ?_
   exact dc.normal (by simp only[cP,na,my,lQ]<;>rfl) gg
  ·
   replace h:=h cP
   refine mM 0 ?_
   refine dc.exit ?_
   refine fh.exit ?_
   refine eh.here ?_
   refine FX (t0) [] ?_
   exact⟨be,c1,ba,rfl,rfl,h⟩
 replace h:=h q4
 refine ko ?_
 refine jn 1 ?_
 refine jo [] 3 [(4,aE v12),(14,aE v12)] [1] [4] ?_
 obtain⟨Av,h⟩:=h
 refine ei [(5,.ptr 3 0 (gn v12) 0)] [5] (True) ?_ (fun hS=> ?_)
 ·
  replace h:=Av
  refine cr [] 4 ?_
  refine DV 4 (some 18) (aU 3 0 be.length) [(17,.ptr 0 aB 0 3),(16,.ptr 0 aB 0 0),(15,.ptr 0 aB 0 0)] (φ:=aB=aB) rfl ?_
  have aim:=h
  refine JE 2 (some 20) [(19,aE v12)] 3 0 5 aim ?_
  exact c_ [(5,.ptr 3 0 (gn v12) 0)] trivial
 obtain⟨pD,h⟩:=h
 refine ih [(6,bz 6 0)] [6] (fun L=>(6,(ej false (nth a0.O v12)))::L) id (True) ?_ (fun ky=> ?_)
 ·
  replace h:=pD
  refine cr [] 5 ?_
  have lN:=h
  refine pF 4 (some 24) [(23,aE v12),(22,bC (ej false) a0.O),(21,bz 2 2)] (ej false) a0.O 5 lN ?_
  exact c_ [(6,bz 6 0),(25,.agg (ej false (nth a0.O v12)))] trivial
 obtain⟨aeZ,h⟩:=h
 refine ei [] [7] ((!(x2 v12 be))=true) ?_ (fun iq=> ?_)
 ·
  replace h:=aeZ
  obtain⟨DC,h⟩:=h
  refine ei [(30,aF (x2 v12 be))] [7] (True) ?_ (fun lM=> ?_)
  ·
   replace h:=DC
   refine cr [] 6 ?_
   have px:=h
   refine mu 4 (some 29) [(28,.ptr 3 0 (gn v12) 0),(27,.ptr 3 0 (gn v12) 0),(26,.ptr 3 0 (gn v12) 0)] (bh 4 be c1) v12 3 0 0 (aE (nth be v12).aK) (eY px.1 px.2) ?_
   exact c_ [(30,aF (x2 v12 be))] trivial
  refine hI (fun gP=> ?_) (fun gP=> ?_)
  ·
   replace h:=h gP
   refine mM 1 ?_
   refine dc.exit ?_
   refine eh.here ?_
   refine eE.normal ?_
   refine cr [] 17 ?_
   refine gG (KL v12) ?_
   exact fh.again (ba,c1,(nb v12),be) h (hW [6])
  ·
   refine gj ?_
   exact dc.normal (by simp only[q4,gP,na,my,lQ]<;>rfl) gg
 replace h:=h iq
 unfold KH at h
 obtain⟨xA,h⟩:=h
 obtain⟨cS,py⟩: ∃w:List aC,(bif (lQ a0 ar v12 be) then(Ec v12 be) else be)=w:=⟨_,rfl⟩
 refine ih [] [7] id (fun H=>eJ 3 ⟨0,5,bh 4 cS c1⟩ H) (True) ?_ (fun rM=> ?_)
 ·
  replace h:=xA
  obtain⟨s8,h⟩:=h
  refine ei [(47,aF (lQ a0 ar v12 be))] [7] (True) ?_ (fun oA=> ?_)
  ·
   replace h:=s8
   refine ta [] 7 ahd ahe [] ?_
   obtain⟨pz,h⟩:=h
   refine nY 4 (some 34) [(33,.ptr 3 0 (gn v12) 0),(32,.ptr 3 0 (gn v12) 0),(31,.ptr 3 0 (gn v12) 0)] (bh 4 be c1) v12 3 0 0 (aE (nth be v12).aK) (eY pz.1 pz.2) ?_
   refine qE 2 36 ((nth be v12).aK !=4) [(35,aF ((nth be v12).aK !=4))] (fun jw=> ?_) (fun jw=> ?_)
   ·
    replace h:=h jw
    refine K5 4 (some 40) (aU 1 0 ar.length) [(39,.ptr 0 aB 0 1),(38,.ptr 0 aB 0 0),(37,.ptr 0 aB 0 0)] (φ:=aB=aB) rfl ?_
    obtain⟨mn,h⟩:=h
    refine AY 3 (some 43) [(42,bC cs (nth a0.O v12).ah),(41,bz 6 0)] cs (nth a0.O v12).ah 1 mn ?_
    have UN:=h
    refine AX 2 (some 45) [(44,aE (tk a0 v12))] 1 0 1 UN ?_
    refine AZ 1 (some 46) [] aX ar (tk a0 v12) 4 0 0 (aF (nth ar (tk a0 v12))) (by simpa using UN.2) ?_
    exact lR [(47,aF (nth ar (tk a0 v12)))] trivial (by simp only[q4,iq,jw,na,my,lQ]<;>kernel_rfl)
   ·
    exact lR ([(47,aF false)]++gH [46,45,44,43,42,41,40,39,38,37]) trivial (by simp only[q4,iq,jw,na,my,lQ]<;>kernel_rfl)
  unfold KB at h
  refine hI (fun m4=> ?_) (fun m4=> ?_)
  ·
   replace h:=h m4
   obtain⟨mq,h⟩:=h
   refine ih [] [0,1,7] id (fun H=>eJ 3 ⟨0,5,bh 4 (pH v12 be) c1⟩ H) (True) ?_ (fun mo=> ?_)
   ·
    replace h:=mq
    refine cr [] 8 ?_
    have ki:=h
    refine m7 4 none [(50,.ptr 3 0 (gn v12) 0),(49,.ptr 3 0 (gn v12) 0),(48,.ptr 3 0 (gn v12) 0)] (bh 4 be c1) v12 0 1 0 [aE 4] 3 (bh 4 (pH v12 be) c1) (eY ki.1 ki.2) (nA ki.1 ki.2) ?_
    exact c_ [] trivial
   refine cr [] 9 ?_
   have kT:=h
   refine m7 4 none [(53,.ptr 3 0 (gn v12) 4),(52,.ptr 3 0 (gn v12) 0),(51,.ptr 3 0 (gn v12) 0)] (bh 4 (pH v12 be) c1) v12 4 1 0 [aE 0] 3 (bh 4 (Ec v12 be) c1) (eY kT.1 kT.2) (nA kT.1 kT.2) ?_
   refine gG [] ?_
   exact dc.normal trivial (by simp only[←py,q4,iq,m4,cond_true,cond_false,na,my,lQ];exact gg)
  ·
   refine gj ?_
   exact dc.normal trivial (by simp only[←py,q4,iq,m4,cond_true,cond_false,na,my,lQ];exact gg)
 replace h:=h cS py
 have wM:cS.length=be.length:=by rw[←py];repeat' apply C5;all_goals simp
 unfold KG at h
 obtain⟨Au,h⟩:=h
 obtain⟨hV,s9⟩: ∃w:List aC,(na a0 hk ar U ba c1 v12 cS)=w:=⟨_,rfl⟩
 refine ih [] [2,1,4] id (fun H=>eJ 3 ⟨0,5,bh 4 hV c1⟩ H) (True) ?_ (fun Ar=> ?_)
 ·
  replace h:=Au
  obtain⟨kx,h⟩:=h
  refine ei [(65,aF (my v12 cS))] [7] (True) ?_ (fun pA=> ?_)
  ·
   replace h:=kx
   refine cr [] 10 ?_
   obtain⟨rN,h⟩:=h
   refine mu 4 (some 57) [(56,.ptr 3 0 (gn v12) 0),(55,.ptr 3 0 (gn v12) 0),(54,.ptr 3 0 (gn v12) 0)] (bh 4 cS c1) v12 3 0 0 (aE (nth cS v12).aK) (eY rN.1 rN.2) ?_
   refine qx 2 59 ((nth cS v12).aK==1) [(58,aF ((nth cS v12).aK==1))] (fun qt=> ?_) (fun qt=> ?_)
   ·
    exact c_ ([(65,aF true)]++gH [64,63,62,61,60]) trivial (by simp only[q4,iq,qt,na,my,lQ]<;>kernel_rfl)
   ·
    replace h:=h qt
    have mr:=h
    refine mu 4 (some 63) [(62,.ptr 3 0 (gn v12) 0),(61,.ptr 3 0 (gn v12) 0),(60,.ptr 3 0 (gn v12) 0)] (bh 4 cS c1) v12 3 0 0 (aE (nth cS v12).aK) (eY mr.1 mr.2) ?_
    exact c_ [(65,aF ((nth cS v12).aK==2)),(64,aF ((nth cS v12).aK==2))] trivial (by simp only[q4,iq,qt,na,my,lQ]<;>kernel_rfl)
  refine hI (fun ms=> ?_) (fun ms=> ?_)
  ·
   replace h:=h ms
   obtain⟨nR,h⟩:=h
   refine ih [] [0,1,7] id (fun H=>eJ 3 ⟨0,5,bh 4 (lm v12 cS) c1⟩ H) (True) ?_ (fun pB=> ?_)
   ·
    replace h:=nR
    refine cr [] 11 ?_
    have rO:=h
    refine m7 4 none [(68,.ptr 3 0 (gn v12) 0),(67,.ptr 3 0 (gn v12) 0),(66,.ptr 3 0 (gn v12) 0)] (bh 4 cS c1) v12 0 1 0 [aE 1] 3 (bh 4 (lm v12 cS) c1) (eY rO.1 rO.2) (nA rO.1 rO.2) ?_
    exact c_ [] trivial
   unfold KE at h
   obtain⟨As,h⟩:=h
   refine ei [(74,aF (hD a0 (vn hk ar U ba c1 v12 cS) v12))] [2,1,4] (True) ?_ (fun rP=> ?_)
   ·
    replace h:=As
    refine ta [] 12 ahb ahc [] ?_
    refine K5 4 (some 72) (.agg (KK hk ar U be)) [(71,.ptr 0 aB 0 0),(70,.ptr 0 aB 0 0),(69,.agg (bV false a0))] (φ:=aB=aB) rfl ?_
    obtain⟨DD,nP,u5,u6⟩:=h
    refine ahN 2 (some 74) [(73,aE v12)] [.agg (bV false a0),.agg (KK hk ar U be),aE v12] (ag4 a0 (vn hk ar U ba c1 v12 cS) v12 u6) (az.cons (ew.agg (az.cons (.int _ _) (az.cons gm (az.cons gm (az.cons gm (az.cons (.int _ _) az.nil)))))) (az.cons (ew.agg (az.cons (.bool _) (az.cons (vb (sz:=1) (by simp[wM]) rfl (CM) DD) (az.cons (vb (sz:=2) (by simp[wM]) rfl (Hv) nP) (az.cons (DX (s:=4) (ws:=(lm v12 cS)) (ids:=c1) (bs:=ba) (by simp[wM]) rfl (fun id k h=>by simpa using h) u5.1 u5.2.1 u5.2.2) az.nil))))) (az.cons (ew.jS (.int _ _)) az.nil))) ?_
    exact lR [] trivial
   unfold KD at h
   refine hI (fun m5=> ?_) (fun m5=> ?_)
   ·
    replace h:=h m5
    obtain⟨rQ,h⟩:=h
    refine ih [] [0,1,6] id (fun H=>eJ 3 ⟨0,5,bh 4 (oH v12 cS) c1⟩ H) (True) ?_ (fun xy=> ?_)
    ·
     replace h:=rQ
     refine cr [] 13 ?_
     have nQ:=h
     refine m7 4 none [(77,.ptr 3 0 (gn v12) 0),(76,.ptr 3 0 (gn v12) 0),(75,.ptr 3 0 (gn v12) 0)] (bh 4 (lm v12 cS) c1) v12 0 1 0 [aE 2] 3 (bh 4 (oH v12 cS) c1) (eY nQ.1 nQ.2) (nA nQ.1 nQ.2) ?_
     exact c_ [] trivial
    unfold KC at h
    refine cr [] 14 ?_
    have pC:=h
    refine m7 4 none [(80,.ptr 3 0 (gn v12) 3),(79,.ptr 3 0 (gn v12) 0),(78,.ptr 3 0 (gn v12) 0)] (bh 4 (oH v12 cS) c1) v12 3 1 0 [aF true] 3 (bh 4 (KN v12 cS) c1) (eY pC.1 pC.2) (nA pC.1 pC.2) ?_
    refine gG [] ?_
    exact dc.normal trivial (by simp only[←s9,q4,iq,ms,m5,cond_true,cond_false,na,my,lQ];exact gg)
   ·
    refine gj ?_
    exact dc.normal trivial (by simp only[←s9,q4,iq,ms,m5,cond_true,cond_false,na,my,lQ];exact gg)
  ·
   refine gj ?_
   exact dc.normal trivial (by simp only[←s9,q4,iq,ms,cond_true,cond_false,na,my,lQ];exact gg)
 replace h:=h hV s9
 have N0:hV.length=be.length:=by rw[←s9];repeat' apply C5;all_goals simp[wM]
 obtain⟨nS,h⟩:=h
 refine ei [(85,aF ((nth hV v12).aK==4))] [6] (True) ?_ (fun At=> ?_)
 ·
  replace h:=nS
  refine cr [] 15 ?_
  have u7:=h
  refine mu 4 (some 84) [(83,.ptr 3 0 (gn v12) 0),(82,.ptr 3 0 (gn v12) 0),(81,.ptr 3 0 (gn v12) 0)] (bh 4 hV c1) v12 3 0 0 (aE (nth hV v12).aK) (eY u7.1 u7.2) ?_
  exact c_ [(85,aF ((nth hV v12).aK==4))] trivial
 unfold KF at h
 refine hI (fun qu=> ?_) (fun qu=> ?_)
 ·
  replace h:=h.1 qu
  refine cr [] 16 ?_
  obtain⟨Ji,h⟩:=h
  refine afD (⟨aB,4,[[aF hk,aU 1 0 ar.length,aU 2 0 U.length,aU 3 0 hV.length]]⟩::⟨0,1,List.map aX ar⟩::⟨0,2,List.map bE U⟩::⟨0,5,bh 4 hV c1⟩::List.map bK ba) (by rw[show be.length=hV.length by simp[wM,N0]]<;>rfl) ?_
  refine JF 4 (some 89) [(88,.ptr 3 0 (gn v12) 0),(87,.ptr 0 aB 0 0),(86,.agg (ej false (nth a0.O v12)))] [.agg (ej false (nth a0.O v12)),.ptr 0 aB 0 0,.ptr 3 0 (gn v12) 0] _ (agZ (nth a0.O v12) v12 aB hk ar U hV c1 ba Ji) (fun r H' U=>by obtain⟨_,_,_,rfl,_⟩:=U;rfl) ?_
  rintro r H' ⟨yn,i55,vT,rfl,rfl,u9⟩
  replace h:=h yn i55 vT u9
  refine gG [] ?_
  refine eh.normal ?_
  refine eE.normal ?_
  refine cr [] 17 ?_
  refine gG (KL v12) ?_
  exact fh.again (vT,i55,(nb v12),yn) h (hW [6])
 ·
  replace h:=h.2 qu
  refine gj ?_
  refine eh.normal ?_
  refine eE.normal ?_
  refine cr [] 17 ?_
  refine gG (KL v12) ?_
  exact fh.again (ba,c1,(nb v12),hV) h (pM (s':=⟨(bu 91 (KJ hw v12 aB)),[(2,(bV false a0))],(⟨aB,4,[(KK hk ar U be)]⟩::⟨0,1,List.map aX ar⟩::⟨0,2,List.map bE U⟩::⟨0,5,bh 4 hV c1⟩::List.map bK ba)⟩) (hW (n:=91) (A':=(KJ hw v12 aB)) (L':=[(2,(bV false a0))]) [6]) (congrArg (fun z=>(⟨(bu 91 (KJ hw v12 aB)),[(2,(bV false a0))],(⟨aB,4,[[aF hk,aU 1 0 ar.length,aU 2 0 U.length,aU 3 0 z]]⟩::⟨0,1,List.map aX ar⟩::⟨0,2,List.map bE U⟩::⟨0,5,bh 4 hV c1⟩::List.map bK ba)⟩:St)) (show be.length=hV.length by simp[wM,N0])))
theorem ag_ (a0:aV) (aB:Nat) (hk:Bool) (ar:List Bool) (U:List dy) (hw:List aC) (hi:List Nat) (hb:List (List Bool)) (ab:SF a0 hk ar U hw hi hb):dg Tryz.prog 83 [.agg (bV false a0),.ptr 0 aB 0 0] (KM hk ar U hw hi hb aB) (fun r H'=> ∃(ga:List aC) (f_:List Nat) (dV:List (List Bool)),r= .tup []∧H'=(⟨aB,4,[[aF hk,aU 1 0 ar.length,aU 2 0 U.length,aU 3 0 ga.length]]⟩::⟨0,1,List.map aX ar⟩::⟨0,2,List.map bE U⟩::⟨0,5,bh 4 ga f_⟩::List.map bK dV)∧DY a0 hk ar U hw hi hb ar U ga f_ dV):=ahf a0 aB hk ar U hw hi hb (JM a0 (cV hk ar U hw hi hb)) (fun _ _ v _=>cB hw.length v) (by
 unfold KA
 obtain⟨G,dY,dK⟩:=ab
 have zg:(cV hk ar U hw hi hb).O.length=hw.length:=jz G.ok
 have ZY:=dK.O
 have wQ:=dY.O
 have NL:=dK.aG
 have NM:=dK.aq
 have ZG:=dY.cG
 have Hg:=dY.bd
 refine⟨⟨?_,G.ok,G.kt,rfl,G.len⟩,fun bs is v ws aR=> ?_⟩
 ·rw[zg];exact dp (c9 _)
 have zd:=aR
 obtain⟨fN,fj,h0,rr,hlen⟩:=zd
 have ad:((cV hk ar U hw hi hb).O.length:Int)≤4611686018427387904:=by omega
 obtain⟨s1,s2,lk⟩:=DZ a0 (cV hk ar U hw hi hb) v.toNat
 have Z0:ws.length=hw.length:=by rw[←jz fj,rr,vg,zg]
 unfold KI AR x2 nb
 have hm: ∀x:Int,cB hw.length x=cB (cV hk ar U hw hi hb).O.length x:=fun x=>by rw[zg]
 simp only[hm]
 rw[←zg]
 refine⟨fun hv=> ?_,fun hv=> ?_⟩
 ·have rq: ¬v<((cV hk ar U hw hi hb).O.length:Int):=by simpa using hv
  have h1:=fN.2.1
  have au:=fN.1
  have:v.toNat=(cV hk ar U hw hi hb).O.length:=by omega
  rw[this] at rr
  exact⟨⟨fj,h0,hlen⟩,rr⟩
 have dt:=cy fN hv
 have au:=dt.1
 have aN:v.toNat<ws.length:=by omega
 have kP:v.toNat<a0.O.length:=by omega
 have q0:=AK dK v.toNat
 have lA:(di a0 (cV hk ar U hw hi hb) v).O.length=hw.length:=(vg _ _ _).trans zg
 have hs:(cG a0 v)≠[]∧(cG a0 v).length≤30∧ ∀x∈cG a0 v,0≤x∧x<a0.ah:=dY.ah _ (eP kP)
 have ld:(di a0 (cV hk ar U hw hi hb) v).O[v.toNat]?=some (nth (di a0 (cV hk ar U hw hi hb) v).O v):=gX (by omega)
 have tX:(nth (di a0 (cV hk ar U hw hi hb) v).O v).ak.length=(cG a0 v).length:=q0.ak _ _ _ ld (gX kP)
 have ue:=q0.a1 _ (List.mem_of_getElem? ld)
 have wT:0<(cG a0 v).length:=List.length_pos_iff.2 hs.1
 have zA:(ar.length:Int)=a0.ah:=NL
 have aiQ:U.length=a0.bf.length:=NM
 have rl: ∀k:Int,0≤k→k.toNat<(cG a0 v).length→0≤nth (cG a0 v) k∧(nth (cG a0 v) k).toNat<ar.length:=fun k aY dr=>by
  have:=hs.2.2 _ (eP dr);omega
 have cC:c7 (di a0 (cV hk ar U hw hi hb) v).O is v (nth (di a0 (cV hk ar U hw hi hb) v).O v) ws bs:=c7.start fj h0 aN rr hlen
 have fe:=Ub (p:=a0) (f:=cV hk ar U hw hi hb) au
 refine⟨⟨au,aN⟩,⟨au,kP⟩,⟨cC.h6,fun av=> ?_⟩,fun av=> ?_⟩
 ·rw[cC.aK] at av
  exact vf ad fN hv cC (by rw[fe,if_pos (by simpa using av)])
 have av: ¬(nth (di a0 (cV hk ar U hw hi hb) v).O v).aK=0:=by rw[cC.aK] at av;simpa using av
 rw[if_neg av] at fe
 unfold KH KB Ec lQ tk pH
 refine⟨⟨⟨cC.h6,fun _=>⟨⟨Int.le_refl _,wT⟩,rl 0 (Int.le_refl _) wT⟩⟩,fun _=>⟨cC.h6,(cC.setState 4).h6⟩⟩,fun e3 Ho=> ?_⟩
 have cA:c7 (di a0 (cV hk ar U hw hi hb) v).O is v (hp a0 (cV hk ar U hw hi hb) v) e3 bs:=by
  rw[←Ho,cC.aK]
  unfold hp
  simp only
  have hc:((nth (di a0 (cV hk ar U hw hi hb) v).O v).aK≠4∧fo (di a0 (cV hk ar U hw hi hb) v) (nth (cG a0 v) 0)=true)↔((((nth (di a0 (cV hk ar U hw hi hb) v).O v).aK !=4)&&(nth ar (nth (nth a0.O v).ah 0)))=true):=by
   rw[Bool.and_eq_true,bne_iff_ne]
   unfold fo
   rw[show(di a0 (cV hk ar U hw hi hb) v).aG=ar from s2];rfl
  by_cases hb:((nth (di a0 (cV hk ar U hw hi hb) v).O v).aK≠4∧fo (di a0 (cV hk ar U hw hi hb) v) (nth (cG a0 v) 0)=true)
  ·rw[if_pos hb,hc.1 hb]
   exact(cC.setState 4).SH 0
  ·rw[if_neg hb,Bool.eq_false_iff.2 (fun h=>hb (hc.2 h))]
   exact cC
 have zC:xw a0 (Frame.mk hk ar U (view (e3.set v.toNat (aC.mk 1 (nth e3 v).a1 (nth e3 v).ak (nth e3 v).cn (nth e3 v).cx)) is bs)) v:=by
  have kY:=cA.setState 1
  refine⟨dY,⟨dK.aG,dK.aq,?_,fun i h w ax e2=> ?_,fun h bm=> ?_⟩,au,by omega⟩
  ·show(view _ is bs).length=_
   rw[jz kY.ok,List.length_set];have:=cA.tq;omega
  ·replace ax:(view _ is bs)[i]?=some h:=ax
   rw[kY.iN,List.getElem?_set] at ax
   split at ax
   ·rename_i hi;subst hi
    split at ax
    ·cases ax
     have:=gX kP
     rw[e2] at this
     cases this
     show(hp a0 (cV hk ar U hw _ hb) v).ak.length=_
     rw[s7.1];exact tX
    ·cases ax
   ·exact q0.ak i h w ax e2
  ·replace bm:h∈view _ is bs:=bm
   rw[kY.iN] at bm
   rcases List.mem_or_eq_of_mem_set bm with bm | rfl
   ·exact q0.a1 h bm
   ·show 0≤(hp a0 (cV hk ar U hw hi hb) v).a1∧(hp a0 (cV hk ar U hw hi hb) v).a1≤(hp a0 (cV hk ar U hw hi hb) v).ak.length
    rw[s7.1,s7.2];exact ue
 have G8:hD a0 (Frame.mk hk ar U (view (e3.set v.toNat (aC.mk 1 (nth e3 v).a1 (nth e3 v).ak (nth e3 v).cn (nth e3 v).cx)) is bs)) v=hD a0 (di a0 (cV hk ar U hw hi hb) v) v:=RP s2.symm lk.symm
 unfold KG na my KN vn oH lm
 refine⟨⟨⟨cA.h6,fun _=>cA.h6⟩,fun _=>⟨cA.h6,?_⟩⟩,fun vy Hp=> ?_⟩
 ·unfold KE KD KC vn oH lm
  have kY:=cA.setState 1
  refine⟨⟨by omega,by omega,⟨kY.ok,?_,fun b hb=>by have:=hlen b hb;omega⟩,zC⟩,fun _=>⟨kY.h6,(kY.setState 2).h6⟩⟩
  rw[List.length_set];have:=cA.tq;omega
 have cT:c7 (di a0 (cV hk ar U hw hi hb) v).O is v (fU a0 (cV hk ar U hw hi hb) v) vy bs:=by
  rw[←Hp,G8,cA.aK]
  unfold fU
  simp only
  by_cases hb:(hp a0 (cV hk ar U hw hi hb) v).aK=1∨(hp a0 (cV hk ar U hw hi hb) v).aK=2
  ·rw[if_pos hb,show(((hp a0 (cV hk ar U hw hi _) v).aK==1) || ((hp a0 (cV hk ar U hw hi _) v).aK==2))=true by simpa using hb]
   cases U:hD a0 (di a0 (cV hk ar _ hw hi _) v) v with
   | true=>exact((cA.setState 1).setState 2).SG true
   | false=>exact cA.setState 1
  ·rw[if_neg hb,show(((hp a0 (cV hk ar U hw hi _) v).aK==1) || ((hp a0 (cV hk ar U hw hi _) v).aK==2))=false by simpa using hb]
   exact cA
 have uk:(fU a0 (cV hk ar U hw hi hb) v).ak.length=(cG a0 v).length:=by rw[Dy.1];exact tX
 have zB:0≤(fU a0 (cV hk ar U hw hi hb) v).a1∧(fU a0 (cV hk ar U hw hi hb) v).a1≤(cG a0 v).length:=by rw[Dy.2,←tX];exact ue
 refine⟨cT.h6,?_⟩
 unfold KF nb
 refine⟨fun bg=>⟨⟨cT.G,au,by have:=cT.lt;omega,?_,?_,?_,?_,?_⟩,fun w i b rf=> ?_⟩,fun bg=> ?_⟩
 ·show(cG a0 v).length≤_;omega
 ·intro x hx
  have:=hs.2.2 x hx;omega
 ·rw[cT.Ae];exact uk
 ·rw[cT.Ae];exact zB.1
 ·rw[cT.Ae];exact zB.2
 ·obtain⟨yv,rq⟩:=rf
  have kl:=cT.again yv rq
  have bg:(fU a0 (cV hk ar U hw hi hb) v).aK=4:=by rw[cT.aK] at bg;simpa using bg
  rw[if_pos bg] at fe
  refine vf ad fN hv kl ?_
  rw[cT.Ae,fe]
  exact aex s2.symm
 ·rw[cT.aK] at bg
  exact vf ad fN hv cT (by rw[fe,if_neg (by simpa using bg)]))
end
section
variable (ae:Int→Prop) (ag:Int→Nat) (a7:Int→Int→Prop) (aW:Int→Int→Nat) (bI:hd Prop) (bq:hd Nat) (a0:aV) (J:Frame) (aa:Bool) (ea v76 c6:Int) (e3:List aC) (i28:List Nat) (l3:List (List Bool))
abbrev oE:=(J.aq.length:Int)
abbrev kD:=(J.O.length:Int)
abbrev je:=(!(gY a0)) || ((!J.ok) || (((J.aG.length:Int) !=a0.ah) || (((oE J) !=(a0.bf.length:Int)) || ((kD J) !=(a0.O.length:Int)))))
abbrev xQ:=List.map aC.ak (aI J).O
abbrev xS:=List.range (aI J).O.length
abbrev S6:List Blk:=(⟨1,4,[[aF (aI J).ok,aU 1 0 (aI J).aG.length,aU 2 0 (aI J).aq.length,aU 3 0 (aI J).O.length]]⟩::⟨0,1,List.map aX (aI J).aG⟩::⟨0,2,List.map bE (aI J).aq⟩::⟨0,5,bh 4 (aI J).O (xS J)⟩::List.map bK (xQ J))
abbrev vk:=(nth J.O c6).aK !=0
abbrev iH:=(c6 !=v76)&&((nth (nth a0.bk c6) v76)&&((vk J c6)&&((nth J.O v76).aK !=0)))
abbrev xW:=Frame.mk (aI J).ok (aI J).aG (aI J).aq (view e3 i28 l3)
abbrev jf:=(!(cc (nth J.aq ea).cJ 1 2)) || (!(cc (nth J.aq ea).bp 0 2))
abbrev iI:=[2000009]
abbrev te:List (Nat×List AV):=[(3,(cg false J)),(2,(bV false a0))]
abbrev J_:List AV:=[aF (aI J).ok,aU 1 0 (aI J).aG.length,aU 2 0 (aI J).aq.length,aU 3 0 e3.length]
abbrev D5:=[42,41,40,39,38,37,36]
abbrev D6:List (Nat×AV):=[(0,.agg (bV false a0)),(1,.agg (cg false J))]
abbrev J7:=[108,107,106,105,104,103,102]
abbrev xR:List Blk:=[⟨0,4,[]⟩]
abbrev J8:=[33,32,31,30,29,28,27]
abbrev xT:=IntKind.i64.wrap (ea+1)
abbrev xU:=IntKind.i64.wrap (c6+1)
abbrev xV:=IntKind.i64.wrap (v76+1)
abbrev qy:=ec false
abbrev J9:List (Nat×AV):=[(35,aF true),(34,aF true)]
noncomputable def agx:Code:=j2 Tryz.f40
def S5:Prop:=
  (SF a0 (aI J).ok (aI J).aG (aI J).aq (aI J).O (xS J) (xQ J))∧(∀(e3:List aC) (i28:List Nat) (l3:List (List Bool)),DY a0 (aI J).ok (aI J).aG (aI J).aq (aI J).O (xS J) (xQ J) (aI J).aG (aI J).aq e3 i28 l3→(((aI J).aG.length≤4611686018427387904∧(aI J).aq.length≤4611686018427387904∧(n4 e3 i28 l3∧e3.length≤4611686018427387904∧(∀x∈l3,List.length x≤4611686018427387904))∧SC J (xW J e3 i28 l3))∧((nV J (xW J e3 i28 l3))=aa)))
def J3:Prop:=
  ((c6 !=v76)=true→(0≤c6∧c6.toNat<a0.bk.length)∧((0≤v76∧v76.toNat<(nth a0.bk c6).length)∧((nth (nth a0.bk c6) v76)=true→(0≤c6∧c6.toNat<J.O.length)∧((vk J c6)=true→0≤v76∧v76.toNat<J.O.length))))∧((iH a0 J v76 c6)=true→false=aa)
def J4:Prop:=
  ((decide (v76<(kD J)))=false→a7 ea (xU c6)∧aW ea (xU c6)<aW ea c6)∧((decide (v76<(kD J)))=true→(J3 a0 J aa v76 c6)∧((!(iH a0 J v76 c6))=true→bI ea c6 (xV v76)∧bq ea c6 (xV v76)<bq ea c6 v76))
def J5:Prop:=
  ((decide (ea<(oE J)))=false→J.O.length≤4611686018427387904→a7 ea 0∧ ∀(c6:Int),a7 ea c6→(((decide (c6<(kD J)))=false→(nW J)∧(S5 a0 J aa))∧((decide (c6<(kD J)))=true→((NK a0 J c6)∧((!(gT a0 J c6))=true→false=aa))∧((!(!(gT a0 J c6)))=true→bI ea c6 0∧ ∀(v76:Int),bI ea c6 v76→(J4 a7 aW bI bq a0 J aa ea v76 c6)))))∧((decide (ea<(oE J)))=true→((0≤ea∧ea.toNat<J.aq.length)∧((jf J ea)=true→false=aa))∧((!(jf J ea))=true→ae (xT ea)∧ag (xT ea)<ag ea))
def J6:Prop:=
  ((je a0 J)=true→false=aa)∧((!(je a0 J))=true→J.aq.length≤4611686018427387904→ae 0∧ ∀(ea:Int),ae ea→(J5 ae ag a7 aW bI bq a0 J aa ea))
def J2 (a0:aV) (J:Frame) (aa:Bool) (ae:Int→Prop) (ag:Int→Nat) (a7:Int→Int→Prop) (aW:Int→Int→Nat) (bI:hd Prop) (bq:hd Nat):Prop:=
 J6 ae ag a7 aW bI bq a0 J aa
theorem agz (a0:aV) (J:Frame) (aa:Bool) (ae:Int→Prop) (ag:Int→Nat) (a7:Int→Int→Prop) (aW:Int→Int→Nat) (bI:hd Prop) (bq:hd Nat) (h:J2 a0 J aa ae ag a7 aW bI bq):aZ Tryz.prog 40 [.agg (bV false a0),.agg (cg false J)] (aF aa):=by
 unfold J2 at h
 refine dg.go (fn:=Tryz.f40) (D6 a0 J) Tryz.func40 (fun _ _=> ?_)
 show WpS _ (bJ agx 1) _ ⟨bu 119 (D6 a0 J),[],[]⟩
 refine WpS.r9 ?_ (pM (s'':=⟨(bu 119 (D6 a0 J)),[],xR⟩) (Weak.I1 (T:=(bu 119 (D6 a0 J))) (L:=[]) (H:=[]) 4) (by kernel_rfl))
 refine v_ iI 0 [(4,aF false),(3,bz 3 0),(2,bz 2 0)] [0,1,2] [] (te a0 J) xR ?_
 unfold J6 at h
 obtain⟨R7,h⟩:=h
 refine ei [] [2] ((!(je a0 J))=true) ?_ (fun q2=> ?_)
 ·
  replace h:=R7
  refine ei [(43,aF (je a0 J))] [2] (True) ?_ (fun q3=> ?_)
  ·
   refine cr iI 1 ?_
   refine xH 2 (some 11) [(10,.agg (bV false a0))] [.agg (bV false a0)] (agN a0) (az.cons (ew.agg (az.cons (.int _ _) (az.cons gm (az.cons gm (az.cons gm (az.cons (.int _ _) az.nil)))))) az.nil) ?_
   refine qx 2 13 (!(gY a0)) [(12,aF (!(gY a0)))] (fun q4=> ?_) (fun q4=> ?_)
   ·
    exact c_ ([(43,aF true)]++gH D5++J9++gH J8++[(26,aF true),(25,aF true)]++gH [24,23,22,21,20,19]++[(18,aF true),(17,aF true)]++gH [16,15,14]) trivial (by simp only[q4,jf,iH,je]<;>kernel_rfl)
   ·
    refine qx 5 18 (!J.ok) [(17,aF (!J.ok)),(16,aF (!J.ok)),(15,aF J.ok),(14,bz 3 0)] (fun cP=> ?_) (fun cP=> ?_)
    ·
     exact c_ ([(43,aF true)]++gH D5++J9++gH J8++[(26,aF true),(25,aF true)]++gH [24,23,22,21,20,19]) trivial (by simp only[q4,cP,jf,iH,je]<;>kernel_rfl)
    ·
     refine sLen 3 (some 21) [(20,bC aX J.aG),(19,bz 3 1)] aX J.aG (fun cF=> ?_)
     refine qx 5 26 ((J.aG.length:Int) !=a0.ah) [(25,aF ((J.aG.length:Int) !=a0.ah)),(24,aF ((J.aG.length:Int) !=a0.ah)),(23,aE a0.ah),(22,bz 2 0)] (fun hS=> ?_) (fun hS=> ?_)
     ·
      exact c_ ([(43,aF true)]++gH D5++J9++gH J8) trivial (by simp only[q4,cP,hS,jf,iH,je]<;>kernel_rfl)
     ·
      refine sLen 3 (some 29) [(28,bC bE J.aq),(27,bz 3 2)] bE J.aq (fun ky=> ?_)
      refine sLen 3 (some 32) [(31,bC cs a0.bf),(30,bz 2 1)] cs a0.bf (fun lN=> ?_)
      refine qx 3 35 ((oE J) !=(a0.bf.length:Int)) [(34,aF ((oE J) !=(a0.bf.length:Int))),(33,aF ((oE J) !=(a0.bf.length:Int)))] (fun iq=> ?_) (fun iq=> ?_)
      ·
       exact c_ ([(43,aF true)]++gH D5) trivial (by simp only[q4,cP,hS,iq,jf,iH,je]<;>kernel_rfl)
      ·
       refine sLen 3 (some 38) [(37,bC qy J.O),(36,bz 3 3)] qy J.O (fun lM=> ?_)
       refine sLen 3 (some 41) [(40,bC (ej false) a0.O),(39,bz 2 2)] (ej false) a0.O (fun px=> ?_)
       exact c_ [(43,aF ((kD J) !=(a0.O.length:Int))),(42,aF ((kD J) !=(a0.O.length:Int)))] trivial (by simp only[q4,cP,hS,iq,jf,iH,je]<;>kernel_rfl)
  refine hI (fun gP=> ?_) (fun gP=> ?_)
  ·
   replace h:=h gP
   refine jo iI 2 [(4,aF false)] [1] [] ?_
   exact j3 (dc.ret (xG (aF false) (j0.jS (vp h))))
  ·
   refine gj ?_
   exact dc.normal (by simp only[gP,jf,iH,je]<;>rfl) gg
 replace h:=h q2
 refine ko ?_
 refine ei [(45,bC bE J.aq),(46,aE (oE J)),(47,aE 0)] [2] (J.aq.length≤4611686018427387904) ?_ (fun rM=> ?_)
 ·
  refine cr iI 3 ?_
  refine sLen 3 (some 46) [(45,bC bE J.aq),(44,bz 3 2)] bE J.aq (fun qs=> ?_)
  exact c_ [(47,aE 0)] qs
 replace h:=h rM
 refine jn 0 ?_
 obtain⟨Ax,h⟩:=h
 refine oX (fun(v:Int)=>(⟨(bu 119 [(2,bz 2 0),(3,bz 3 0),(45,bC bE J.aq),(46,aE (oE J)),(47,aE v)]),(te a0 J),xR⟩:St)) (fun(v:Int)=>ae v) (fun(v:Int)=>ag v) 0 (hW []) Ax (fun ea aR=> ?_)
 replace h:=h ea aR
 refine jo iI 4 [(48,aF (decide (ea<(oE J))))] [1] [5] ?_
 unfold J5 at h
 obtain⟨DI,h⟩:=h
 refine ei [] [0,1,5] ((decide (ea<(oE J)))=true) ?_ (fun oA=> ?_)
 ·
  replace h:=DI
  refine hI (fun jw=> ?_) (fun jw=> ?_)
  ·
   refine gj ?_
   exact dc.normal (by simp only[q2,jw,jf,iH,je]<;>rfl) gg
  ·
   replace h:=h jw
   refine mM 0 ?_
   refine dc.exit ?_
   refine fh.exit ?_
   refine eh.here ?_
   refine eE.normal ?_
   refine ko ?_
   refine lz ⟨(bu 119 [(2,bz 2 0),(3,bz 3 0),(64,aE (kD J)),(65,aE 0)]),(te a0 J),xR⟩ (J.O.length≤4611686018427387904) ?_ (fun mn=> ?_)
   ·
    refine cr iI 9 ?_
    refine sLen 3 (some 64) [(63,bC qy J.O),(62,bz 3 3)] qy J.O (fun pz=> ?_)
    exact c_ [(65,aE 0)] pz
   replace h:=h mn
   refine jn 2 ?_
   obtain⟨Jj,h⟩:=h
   refine oX (fun(v:Int)=>(⟨(bu 119 [(2,bz 2 0),(3,bz 3 0),(64,aE (kD J)),(65,aE v)]),(te a0 J),xR⟩:St)) (fun(v:Int)=>a7 ea v) (fun(v:Int)=>aW ea v) 0 (hW []) Jj (fun c6 aR=> ?_)
   replace h:=h c6 aR
   refine jo iI 10 [(66,aF (decide (c6<(kD J))))] [1] [4] ?_
   obtain⟨xB,h⟩:=h
   refine ei [] [0,1,4] ((decide (c6<(kD J)))=true) ?_ (fun mo=> ?_)
   ·
    replace h:=xB
    refine hI (fun ki=> ?_) (fun ki=> ?_)
    ·
     refine gj ?_
     exact dc.normal (by simp only[q2,jw,ki,jf,iH,je]<;>rfl) gg
    ·
     replace h:=h ki
     refine mM 2 ?_
     refine dc.exit ?_
     refine fh.exit ?_
     refine eh.here ?_
     refine eE.normal ?_
     obtain⟨rP,h⟩:=h
     refine lz ⟨(bu 119 [(2,bz 2 0),(3,bz 3 0),(9,.ptr 0 1 0 0)]),(te a0 J),(S6 J)⟩ (True) ?_ (fun kT=> ?_)
     ·
      replace h:=rP
      refine cr iI 21 ?_
      have mq:=h
      refine DW 2 (some 113) [(112,.agg (cg false J))] [.agg (cg false J)] (.agg [aF (aI J).ok,aU 1 0 (aI J).aG.length,aU 2 0 (aI J).aq.length,aU 3 0 (aI J).O.length]) (⟨0,4,[]⟩::⟨0,1,List.map aX (aI J).aG⟩::⟨0,2,List.map bE (aI J).aq⟩::⟨0,5,bh 4 (aI J).O (xS J)⟩::List.map bK (xQ J)) (agS J mq) (az.cons (ew.agg (az.cons (.bool _) (az.cons gm (az.cons gm (az.cons gm az.nil))))) az.nil) Rx (xO afQ (by kernel_rfl)) ?_ (er:=by simp[pG,rY,jV])
      refine JG 1 [(9,.ptr 0 1 0 0)] (te a0 J) (⟨1,4,[[aF false,ds,ds,ds]]⟩::⟨0,1,List.map aX (aI J).aG⟩::⟨0,2,List.map bE (aI J).aq⟩::⟨0,5,bh 4 (aI J).O (xS J)⟩::List.map bK (xQ J)) ?_
      refine afG 1 [] (S6 J) (φ:=1=1) (ψ:=4≤4) rfl (by decide) ?_
      exact c_ [] trivial
     unfold S5 at h
     refine ko ?_
     refine cr iI 22 ?_
     obtain⟨pB,h⟩:=h
     refine JF 2 (some 115) [(114,.agg (bV false a0))] [.agg (bV false a0),.ptr 0 1 0 0] _ (ag_ a0 1 (aI J).ok (aI J).aG (aI J).aq (aI J).O (xS J) (xQ J) pB) (fun r H' U=>by obtain⟨_,_,_,rfl,_⟩:=U;rfl) ?_
     rintro r H' ⟨e3,i28,l3,rfl,rfl,rO⟩
     replace h:=h e3 i28 l3 rO
     refine gG [] ?_
     refine eE.normal ?_
     obtain⟨ms,h⟩:=h
     refine lz ⟨(bu 119 [(4,aF (nV J (xW J e3 i28 l3)))]),(te a0 J),(⟨1,4,[(J_ J e3)]⟩::⟨0,1,List.map aX (aI J).aG⟩::⟨0,2,List.map bE (aI J).aq⟩::⟨0,5,bh 4 e3 i28⟩::List.map bK l3)⟩ (True) ?_ (fun s9=> ?_)
     ·
      replace h:=ms
      refine cr iI 23 ?_
      refine DV 2 (some 117) (.agg (J_ J e3)) [(116,.agg (cg false J))] (φ:=1=1) rfl ?_
      obtain⟨pA,qt,mr,rN⟩:=h
      refine xH 1 (some 118) [] [.agg (cg false J),.agg (J_ J e3)] (ag7 J (xW J e3 i28 l3) rN) (az.cons (ew.agg (az.cons (.bool _) (az.cons gm (az.cons gm (az.cons gm az.nil))))) (az.cons (ew.agg (az.cons (.bool _) (az.cons (vb (sz:=1) (by simp) rfl (CM) pA) (az.cons (vb (sz:=2) (by simp) rfl (Hv) qt) (az.cons (DX (s:=4) (ws:=e3) (ids:=i28) (bs:=l3) (by simp) rfl (fun id k h=>by simpa using h) mr.1 mr.2.1 mr.2.2) az.nil))))) az.nil)) ?_
      exact c_ [(4,aF (nV J (xW J e3 i28 l3)))] trivial
     exact j3 (xG (aF (nV J (xW J e3 i28 l3))) (j0.jS (vp h)))
   replace h:=h mo
   refine ko ?_
   refine jn 3 ?_
   refine jo iI 11 [(7,aE c6),(67,aE c6)] [1] [4] ?_
   obtain⟨ae0,h⟩:=h
   refine ei [] [5] ((!(!(gT a0 J c6)))=true) ?_ (fun nP=> ?_)
   ·
    replace h:=ae0
    obtain⟨nQ,h⟩:=h
    refine ei [(72,aF (!(gT a0 J c6)))] [5] (True) ?_ (fun u5=> ?_)
    ·
     replace h:=nQ
     refine cr iI 12 ?_
     have u6:=h
     refine xH 4 (some 71) [(70,aE c6),(69,.agg (cg false J)),(68,.agg (bV false a0))] [.agg (bV false a0),.agg (cg false J),aE c6] (agV a0 J c6 u6) (az.cons (ew.agg (az.cons (.int _ _) (az.cons gm (az.cons gm (az.cons gm (az.cons (.int _ _) az.nil)))))) (az.cons (ew.agg (az.cons (.bool _) (az.cons gm (az.cons gm (az.cons gm az.nil))))) (az.cons (ew.jS (.int _ _)) az.nil))) ?_
     exact c_ [(72,aF (!(gT a0 J c6)))] trivial
    refine hI (fun m5=> ?_) (fun m5=> ?_)
    ·
     replace h:=h m5
     refine jo iI 13 [(4,aF false)] [1] [] ?_
     exact j3 (dc.ret (eh.ret (eE.ret (fh.ret (eh.ret (eE.ret (xG (aF false) (j0.jS (vp h)))))))))
    ·
     refine gj ?_
     exact dc.normal (by simp only[q2,jw,mo,m5,jf,iH,je]<;>rfl) gg
   replace h:=h nP
   refine ei [(75,aE (kD J)),(76,aE 0)] [5] (True) ?_ (fun pC=> ?_)
   ·
    refine cr iI 14 ?_
    refine sLen 3 (some 75) [(74,bC qy J.O),(73,bz 3 3)] qy J.O (fun rQ=> ?_)
    exact c_ [(76,aE 0)] trivial
   refine jn 4 ?_
   obtain⟨rS,h⟩:=h
   refine oX (fun(v:Int)=>(⟨(bu 119 [(2,bz 2 0),(3,bz 3 0),(7,aE c6),(64,aE (kD J)),(65,aE c6),(75,aE (kD J)),(76,aE v)]),(te a0 J),xR⟩:St)) (fun(v:Int)=>bI ea c6 v) (fun(v:Int)=>bq ea c6 v) 0 (hW []) rS (fun v76 aR=> ?_)
   replace h:=h v76 aR
   refine jo iI 15 [(77,aF (decide (v76<(kD J))))] [1] [7] ?_
   unfold J4 at h
   obtain⟨qw,h⟩:=h
   refine ei [] [0,1,7] ((decide (v76<(kD J)))=true) ?_ (fun nR=> ?_)
   ·
    replace h:=qw
    refine hI (fun kx=> ?_) (fun kx=> ?_)
    ·
     refine gj ?_
     exact dc.normal (by simp only[q2,jw,mo,nP,kx,jf,iH,je]<;>rfl) gg
    ·
     replace h:=h kx
     refine mM 4 ?_
     refine dc.exit ?_
     refine fh.exit ?_
     refine eh.here ?_
     refine eh.normal ?_
     refine eE.normal ?_
     refine cr iI 20 ?_
     refine gG [(65,aE (xU c6)),(111,aE (xU c6))] ?_
     exact fh.again (xU c6) h (hW [])
   replace h:=h nR
   obtain⟨Av,h⟩:=h
   refine ei [] [7] ((!(iH a0 J v76 c6))=true) ?_ (fun At=> ?_)
   ·
    replace h:=Av
    refine jn 5 ?_
    refine jo iI 16 [(8,aE v76),(78,aE v76)] [1] [7] ?_
    unfold J3 at h
    obtain⟨pD,h⟩:=h
    refine ei [(109,aF (iH a0 J v76 c6))] [0,1,7] (True) ?_ (fun qu=> ?_)
    ·
     replace h:=pD
     refine cr iI 17 ?_
     refine qx 4 82 (c6 !=v76) [(81,aF (c6 !=v76)),(80,aE v76),(79,aE c6)] (fun qv=> ?_) (fun qv=> ?_)
     ·
      replace h:=h qv
      obtain⟨Au,h⟩:=h
      refine pF 4 (some 86) [(85,aE c6),(84,bC (fM aX false) a0.bk),(83,bz 2 3)] (fM aX false) a0.bk 1 Au ?_
      obtain⟨nS,h⟩:=h
      refine pF 3 (some 89) [(88,aE v76),(87,bC aX (nth a0.bk c6))] aX (nth a0.bk c6) 1 nS ?_
      refine qx 3 92 (nth (nth a0.bk c6) v76) [(91,aF (nth (nth a0.bk c6) v76)),(90,aF (nth (nth a0.bk c6) v76))] (fun rR=> ?_) (fun rR=> ?_)
      ·
       replace h:=h rR
       obtain⟨u9,h⟩:=h
       refine pF 4 (some 96) [(95,aE c6),(94,bC qy J.O),(93,bz 3 3)] qy J.O 5 u9 ?_
       refine qx 5 101 (vk J c6) [(100,aF (vk J c6)),(99,aF (vk J c6)),(98,aE (nth J.O c6).aK),(97,.c3 (ec false (nth J.O c6)) 0)] (fun xz=> ?_) (fun xz=> ?_)
       ·
        replace h:=h xz
        have Ji:=h
        refine pF 4 (some 105) [(104,aE v76),(103,bC qy J.O),(102,bz 3 3)] qy J.O 5 Ji ?_
        exact c_ [(109,aF ((nth J.O v76).aK !=0)),(108,aF ((nth J.O v76).aK !=0)),(107,aE (nth J.O v76).aK),(106,.c3 (ec false (nth J.O v76)) 0)] trivial (by simp only[q2,jw,mo,nP,nR,qv,rR,xz,jf,iH,je]<;>kernel_rfl)
       ·
        exact c_ ([(109,aF false)]++gH J7) trivial (by simp only[q2,jw,mo,nP,nR,qv,rR,xz,jf,iH,je]<;>kernel_rfl)
      ·
       exact c_ ([(109,aF false)]++gH J7++[(101,aF false),(100,aF false)]++gH [99,98,97,96,95,94,93]) trivial (by simp only[q2,jw,mo,nP,nR,qv,rR,jf,iH,je]<;>kernel_rfl)
     ·
      exact c_ ([(109,aF false)]++gH J7++[(101,aF false),(100,aF false)]++gH [99,98,97,96,95,94,93]++[(92,aF false),(91,aF false)]++gH [90,89,88,87,86,85,84,83]) trivial (by simp only[q2,jw,mo,nP,nR,qv,jf,iH,je]<;>kernel_rfl)
    refine hI (fun xA=> ?_) (fun xA=> ?_)
    ·
     replace h:=h xA
     refine jo iI 18 [(4,aF false)] [1] [] ?_
     exact j3 (eh.ret (dc.ret (fh.ret (eh.ret (eh.ret (eE.ret (fh.ret (eh.ret (eE.ret (xG (aF false) (j0.jS (vp h))))))))))))
    ·
     refine gj ?_
     refine eh.normal ?_
     exact dc.normal (by simp only[q2,jw,mo,nP,nR,xA,jf,iH,je]<;>rfl) gg
   replace h:=h At
   refine cr iI 19 ?_
   refine gG [(76,aE (xV v76)),(110,aE (xV v76))] ?_
   exact fh.again (xV v76) h (hW [])
 replace h:=h oA
 obtain⟨DH,h⟩:=h
 refine ih [] [5] (fun L=>(6,(bE (nth J.aq ea)))::L) id ((!(jf J ea))=true) ?_ (fun DE=> ?_)
 ·
  replace h:=DH
  refine jn 1 ?_
  obtain⟨DG,h⟩:=h
  refine ih [(6,bz 6 0)] [5] (fun L=>(6,(bE (nth J.aq ea)))::L) id (True) ?_ (fun Jk=> ?_)
  ·
   replace h:=DG
   refine cr iI 5 ?_
   have DF:=h
   refine pF 1 (some 49) [] bE J.aq 2 DF ?_
   exact c_ [(6,bz 6 0),(50,.agg (bE (nth J.aq ea)))] trivial
  refine ei [(60,aF (jf J ea))] [0,1,5] (True) ?_ (fun Jl=> ?_)
  ·
   refine cr iI 6 ?_
   refine xH 3 (some 53) [(52,aE (nth J.aq ea).cJ),(51,bz 6 0)] [aE (nth J.aq ea).cJ,aE 1,aE 2] (Kc (nth J.aq ea).cJ 1 2) (az.cons (ew.jS (.int _ _)) (az.cons (ew.jS (.int _ _)) (az.cons (ew.jS (.int _ _)) az.nil))) ?_
   refine qx 2 55 (!(cc (nth J.aq ea).cJ 1 2)) [(54,aF (!(cc (nth J.aq ea).cJ 1 2)))] (fun Aw=> ?_) (fun Aw=> ?_)
   ·
    exact c_ ([(60,aF true)]++gH [59,58,57,56]) trivial (by simp only[q2,oA,Aw,jf,iH,je]<;>kernel_rfl)
   ·
    refine xH 3 (some 58) [(57,aE (nth J.aq ea).bp),(56,bz 6 1)] [aE (nth J.aq ea).bp,aE 0,aE 2] (Kc (nth J.aq ea).bp 0 2) (az.cons (ew.jS (.int _ _)) (az.cons (ew.jS (.int _ _)) (az.cons (ew.jS (.int _ _)) az.nil))) ?_
    exact c_ [(60,aF (!(cc (nth J.aq ea).bp 0 2))),(59,aF (!(cc (nth J.aq ea).bp 0 2)))] trivial (by simp only[q2,oA,Aw,jf,iH,je]<;>kernel_rfl)
  refine hI (fun xC=> ?_) (fun xC=> ?_)
  ·
   replace h:=h xC
   refine jo iI 7 [(4,aF false)] [1] [] ?_
   exact j3 (eh.ret (dc.ret (fh.ret (eh.ret (eE.ret (xG (aF false) (j0.jS (vp h))))))))
  ·
   refine gj ?_
   refine eh.normal ?_
   exact dc.normal (by simp only[q2,oA,xC,jf,iH,je]<;>rfl) gg
 replace h:=h DE
 refine cr iI 8 ?_
 refine gG [(47,aE (xT ea)),(61,aE (xT ea))] ?_
 exact fh.again (xT ea) h (hW [6])
theorem agw (ab:qW a0 J):aZ Tryz.prog 40 [.agg (bV false a0),.agg (cg false J)] (aF (hN a0 J)):=agz a0 J (hN a0 J) (cj J.aq.length (fun j=>(!(cc (nth J.aq j).cJ 1 2)) || (!(cc (nth J.aq j).bp 0 2)))) (cB J.aq.length) (fun _ i=>(∀x∈J.aq,nN x=true)∧cj J.O.length (fun i=> !(gT a0 J i) || xF a0 J J.O.length i) i) (fun _=>cB J.O.length) (fun _ i=>cj J.O.length (fun k=>k6 a0 J i k)) (fun _ _=>cB J.O.length) (by
 unfold J2 J6 je kD oE
 have hs:nW J:=ab
 have no: ∀φ:Prop,(hN a0 J=true→φ)→ ¬φ→false=hN a0 J:=fun φ h1 h2=>by
  cases h:hN a0 J with
  | false=>rfl
  | true=>exact absurd (h1 h) h2
 have D:=fun h=>(y7 (p:=a0) (f:=J)).1 h
 refine⟨fun U=>no _ D (fun aO=>by have:=aO.1;unfold sp at this;rw[U] at this;cases this),fun U ad=>⟨dp (c9 _),fun v aR=> ?_⟩⟩
 have o9:sp a0 J=true:=U
 obtain⟨b1,b2,qN,EZ,E0⟩:=y6.1 o9
 have dY:=Dx b1
 have cX:=Dw b1
 unfold J5 xT jf kD oE
 refine⟨fun hv hm=> ?_,fun hv=>⟨⟨cy aR hv,fun hb=>no _ D fun aO=> ?_⟩,fun hb=>df (c2 ad) aR hv (not_eq hb)⟩⟩
 ·have lF: ∀x∈J.aq,nN x=true:=fun x hx=>by
   have:=lT (q:=fun x:dy=>(!(cc x.cJ 1 2)) || (!(cc x.bp 0 2))) (gp aR hv) x hx
   unfold nN
   simpa[Bool.and_eq_true] using this
  refine⟨⟨lF,dp (c9 _)⟩,fun i fc=>⟨fun hi=> ?_,fun hi=> ?_⟩⟩
  ·have dU:=gp fc.2 hi
   have zq: ∀i:Int,0≤i→i<J.O.length→gT a0 J i=true:=fun i i0 i1=>by
    have:=dU i i0 i1
    rw[Bool.or_eq_false_iff] at this
    simpa using this.1
   have GK: ∀i k:Int,0≤i→i<J.O.length→0≤k→k<J.O.length→k6 a0 J i k=false:=fun i k i0 i1 aY dr=>by
    have:=dU i i0 i1
    rw[Bool.or_eq_false_iff] at this
    have h2:=this.2
    unfold xF at h2
    rw[List.any_eq_false] at h2
    have:=h2 k.toNat (List.mem_range.2 (by omega))
    rw[Int.toNat_of_nonneg aY] at this
    simpa using this
   have dK:kZ a0 J:=Gp o9 fun i i0 i1=>by
    have:=zq i i0 i1
    rw[Cl,Bool.and_eq_true] at this;exact this.1
   obtain⟨cN,c5,fs⟩:=Ga J.O
   have YC:jj J.O (List.range J.O.length) (J.O.map aC.ak):=⟨cN,c5,fun b hb=>by
    obtain⟨h,bm,rfl⟩:=List.mem_map.1 hb;exact hs.2.2.2 h bm⟩
   have Oa:cV J.ok J.aG J.aq J.O (List.range J.O.length) (J.O.map aC.ak)=J:=by unfold cV;rw[fs]
   refine⟨hs,⟨YC,?_⟩,fun w i b rf=> ?_⟩
   ·show xN a0 (cV J.ok J.aG J.aq J.O (List.range J.O.length) (J.O.map aC.ak))
    rw[Oa];exact⟨dY,dK⟩
   ·obtain⟨G,hv⟩:=rf
    replace hv:view w i b=(ir a0 (cV J.ok J.aG J.aq J.O (List.range J.O.length) (J.O.map aC.ak))).O:=hv
    rw[Oa] at hv
    have ao:w.length=J.O.length:=by rw[←jz G.ok,hv];exact vg _ _ _
    have Nu:=AK dK J.O.length
    obtain⟨s1,s2,lk,afx⟩:=hs
    have mU:(ir a0 J).O.length=J.O.length:=vg _ _ _
    have wD: ∀h∈(ir a0 J).O,h.ak.length≤1048576:=fun h bm=>by
     obtain⟨j,af,rfl⟩:=List.mem_iff_getElem.1 bm
     have:=Nu.ak j _ _ (List.getElem?_eq_getElem af) (List.getElem?_eq_getElem (by omega))
     rw[this]
     have:=(dY.ah _ (List.getElem_mem (show j<a0.O.length by omega))).2.1
     omega
    refine⟨⟨by show J.aG.length≤_;omega,by show J.aq.length≤_;omega,⟨G.ok,by omega,fun x hx=>by have:=G.len x hx;omega⟩,?_,⟨s1,s2,lk,afx⟩,⟨s1,s2,?_,?_⟩,fun j x y ax e2=> ?_⟩,?_⟩
    ·show J.O.length=(view w i b).length;rw[jz G.ok,ao]
    ·show(view w i b).length≤_;rw[jz G.ok];omega
    ·show ∀h∈view w i b,_
     rw[hv];exact wD
    ·replace e2:(view w i b)[j]?=some y:=e2
     rw[hv] at e2
     have af:=(List.getElem?_eq_some_iff.1 ax).1
     have hw:=List.getElem?_eq_getElem (show j<a0.O.length by omega)
     rw[dK.ak j _ _ ax hw,Nu.ak j _ _ e2 hw]
    ·unfold nV
     show decide (J.O=view w i b)=_
     rw[hv]
     by_cases h:J.O=(ir a0 J).O
     ·rw[decide_eq_true h,y7.2 ⟨o9,lF,zq,GK,h⟩]
     ·rw[decide_eq_false h]
      exact no _ D fun aO=>h aO.2.2.2.2
  ·have dt:=cy fc.2 hi
   refine⟨⟨⟨dY,hs,E0,dt.1,by omega⟩,fun hb=>no _ D fun aO=> ?_⟩,fun hb=>⟨dp (c9 _),fun k hK=> ?_⟩⟩
   ·rw[aO.2.2.1 i dt.1 (by omega)] at hb;cases hb
   ·have hb:gT a0 J i=true:=by simpa using hb
    unfold J4 xV xU iH vk kD
    refine⟨fun hk=> ?_,fun hk=>⟨?_,fun U=>df (c2 hm) hK hk (not_eq U)⟩⟩
    ·have:=df (c2 hm) fc.2 hi (show(!(gT a0 J i) || xF a0 J J.O.length i)=false by
      rw[hb]
      exact List.any_eq_false.2 fun k jq=>by rw[gp hK hk k (by omega) (by have:=List.mem_range.1 jq;omega)];simp)
     exact⟨⟨lF,this.1⟩,this.2⟩
    ·have zt:=cy hK hk
     have gx:=cX.len
     have eK:=cX.row i dt.1 (by omega)
     unfold J3 iH vk
     refine⟨fun _=>⟨⟨dt.1,by omega⟩,⟨zt.1,by omega⟩,fun _=>⟨dt,fun _=>zt⟩⟩,fun U=>no _ D fun aO=> ?_⟩
     have:=aO.2.2.2.1 i k dt.1 (by omega) zt.1 (by omega)
     have U:k6 a0 J i k=true:=U
     rw[this] at U;cases U
 ·have:=aO.2.1 _ (eP (cy aR hv).2)
  unfold nN at this
  rw[Bool.and_eq_true] at this
  rw[this.1,this.2] at hb;cases hb)
def agy:cQ Tryz.prog:=⟨40,[.ef,.frame],[.bool],some fun x=>qW x.1 x.2.1,fun x=>((hN x.1 x.2.1),()),fun x h=>agw x.1 x.2.1 h⟩
end
section
variable (ae:Int→Prop) (ag:Int→Nat) (a7:Int→Int→Prop) (aW:Int→Int→Nat) (bI:hd Prop) (bq:hd Nat) (a0:aV) (J:Frame) (aa:Bool) (gq lq cI:Int)
abbrev jO:=(nth J.O cI).aK
abbrev HB:=(decide ((jO J cI)<0)) || ((decide ((jO J cI)>4)) || ((((nth J.O cI).ak.length:Int) !=((nth a0.O cI).ah.length:Int)) || ((decide ((nth J.O cI).a1<0)) || (decide ((nth J.O cI).a1 ≥ ((nth a0.O cI).ah.length:Int))))))
abbrev HC:=bif ((nth J.aq gq).cJ !=1) then(((nth J.aq gq).cJ !=2) || ((decide ((nth J.aq gq).bp<0)) || (decide ((nth J.aq gq).bp>2)))) else((decide ((nth J.aq gq).bp<0)) || (decide ((nth J.aq gq).bp>2)))
abbrev HD:=(!(gY a0)) || ((!J.ok) || (((J.aG.length:Int) !=a0.ah) || (((J.aq.length:Int) !=(a0.bf.length:Int)) || ((J.O.length:Int) !=(a0.O.length:Int)))))
abbrev HE:=bif ((jO J cI)==2) then((jO J cI)==2) else((jO J cI)==3)
abbrev HF:=((jO J cI) !=0)&&(((nth J.O lq).aK !=0)&&(nth (nth a0.bk cI) lq))
abbrev HG:=(decide ((nth J.O cI).cx<1)) || (decide ((nth J.O cI).cx>a0.cY))
abbrev HH:=((nth J.O cI).a1 !=0) || (j6 (nth J.O cI).ak true)
abbrev HI:=j6 ((nth J.O cI).ak.take (nth J.O cI).a1.toNat) false
def aam:List Item:=(List.range 6).map dd
def aan:List (List Nat):=[[],[],[],[1,2],rg 0 4,rg 0 5]
def Oo:Prop:=
  ((((jO J cI) !=0)=true→(0≤lq∧lq.toNat<J.O.length)∧(((nth J.O lq).aK !=0)=true→(0≤cI∧cI.toNat<a0.bk.length)∧(0≤lq∧lq.toNat<(nth a0.bk cI).length)))∧((HF a0 J lq cI)=true→false=aa))∧((!(HF a0 J lq cI))=true→bI gq cI (IntKind.i64.wrap (lq+1))∧bq gq cI (IntKind.i64.wrap (lq+1))<bq gq cI lq)
def Oq:Prop:=
  ((((jO J cI)==0)=true→(nth J.O cI).cn=true→false=aa)∧(((jO J cI)==0)=false→(HE J cI)=true→(!(nth J.O cI).cn)=true→false=aa))∧((bif ((jO J cI)==0) then(!(nth J.O cI).cn) else(!(HE J cI) || (!(!(nth J.O cI).cn))))=true→bI gq cI 0∧ ∀(lq:Int),bI gq cI lq→(((decide (lq<cI))=false→a7 gq (IntKind.i64.wrap (cI+1))∧aW gq (IntKind.i64.wrap (cI+1))<aW gq cI)∧((decide (lq<cI))=true→Oo bI bq a0 J aa gq lq cI)))
def Ot:Prop:=
  ((((jO J cI)==3)=true→(HG a0 J cI)=true→false=aa)∧(((jO J cI)==3)=false→((nth J.O cI).cx !=0)=true→false=aa))∧((bif ((jO J cI)==3) then(!(HG a0 J cI)) else(!((nth J.O cI).cx !=0)))=true→Oq a7 aW bI bq a0 J aa gq cI)
def Ou:Prop:=
  ((((jO J cI) !=4)=true→(HH J cI)=true→false=aa)∧(((jO J cI) !=4)=false→(0≤(nth J.O cI).a1∧(nth J.O cI).a1≤((nth J.O cI).ak.length:Int))∧((HI J cI)=true→false=aa)))∧((bif ((jO J cI) !=4) then(!(HH J cI)) else(!(HI J cI)))=true→Ot a7 aW bI bq a0 J aa gq cI)
def Ov:Prop:=
  ((HB a0 J cI)=true→false=aa)∧((!(HB a0 J cI))=true→Ou a7 aW bI bq a0 J aa gq cI)
def Ow:Prop:=
  ((0≤gq∧gq.toNat<J.aq.length)∧((HC J gq)=true→false=aa))∧((!(HC J gq))=true→ae (IntKind.i64.wrap (gq+1))∧ag (IntKind.i64.wrap (gq+1))<ag gq)
def Ox:Prop:=
  ((decide (gq<(J.aq.length:Int)))=false→J.O.length≤4611686018427387904→a7 gq 0∧ ∀(cI:Int),a7 gq cI→(((decide (cI<(J.O.length:Int)))=false→(xN a0 J)∧((vc J (ir a0 J))=aa))∧((decide (cI<(J.O.length:Int)))=true→(0≤cI∧cI.toNat<J.O.length)∧((0≤cI∧cI.toNat<a0.O.length)∧((nth a0.O cI).ah.length≤4611686018427387904→Ov a7 aW bI bq a0 J aa gq cI)))))∧((decide (gq<(J.aq.length:Int)))=true→Ow ae ag J aa gq)
def Oy:Prop:=
  ((HD a0 J)=true→false=aa)∧((!(HD a0 J))=true→J.aq.length≤4611686018427387904→ae 0∧ ∀(gq:Int),ae gq→(Ox ae ag a7 aW bI bq a0 J aa gq))
def On (a0:aV) (J:Frame) (aa:Bool) (ae:Int→Prop) (ag:Int→Nat) (a7:Int→Int→Prop) (aW:Int→Int→Nat) (bI:hd Prop) (bq:hd Nat):Prop:=
 Oy ae ag a7 aW bI bq a0 J aa
theorem aal (ab:qW a0 J):aZ Tryz.prog 49 [.agg (bV false a0),.agg (cg false J)] (aF (hN a0 J)):=(fun(ae:Int→Prop) (ag:Int→Nat) (a7:Int→Int→Prop) (aW:Int→Int→Nat) (bI:hd Prop) (bq:hd Nat) (h:On a0 J (hN a0 J) ae ag a7 aW bI bq)=>aZ.run (ps:=[.ef,.frame]) (rs:=[.bool]) (x:=(a0,J,())) (r:=((hN a0 J),())) ⟨190,cH,[aa1,aa7,aa5,af8]⟩ ⟨[],[(40,aam,aan)],[],[],[]⟩ (dZ [2,3,46,47] [(3,4),(2,5)] 48 ae ag fun aD=>(dZ [2,3,72,73] [(3,4),(2,5)] 74 (a7 aD) (aW aD) fun bi=>(dZ [2,3,7,8,72,73,74,157] [(8,5),(3,4),(2,5)] 158 (bI aD bi) (bq aD bi) fun _=> .nil))) Tryz.func49 h) (cj J.aq.length (fun j=> !nN (nth J.aq j))) (cB J.aq.length) (fun _ i=>(∀x∈J.aq,nN x=true)∧cj J.O.length (fun i=> !(gT a0 J i) || xF a0 J i.toNat i) i) (fun _=>cB J.O.length) (fun _ i=>cj i (fun k=>k6 a0 J i k)) (fun _ i=>cB i) (by
 unfold On Oy HD
 have hs:nW J:=ab
 have no: ∀φ:Prop,(hN a0 J=true→φ)→ ¬φ→false=hN a0 J:=fun φ h1 h2=>by
  cases h:hN a0 J with
  | false=>rfl
  | true=>exact absurd (h1 h) h2
 have D:=fun h=>(y7 (p:=a0) (f:=J)).1 h
 refine⟨fun U=>no _ D (fun aO=>by have:=aO.1;unfold sp at this;rw[U] at this;cases this),fun U ad=>⟨dp (c9 _),fun v aR=> ?_⟩⟩
 have o9:sp a0 J=true:=U
 obtain⟨b1,b2,qN,EZ,E0⟩:=y6.1 o9
 have dY:=Dx b1
 have cX:=Dw b1
 unfold Ox
 refine⟨fun hv hm=> ?_,fun hv=> ?_⟩
 ·have lF: ∀x∈J.aq,nN x=true:=fun x hx=>by
   simpa using lT (q:=fun x:dy=> !nN x) (gp aR hv) x hx
  refine⟨⟨lF,dp (c9 _)⟩,fun i fc=>⟨fun hi=> ?_,fun hi=> ?_⟩⟩
  ·have dU:=gp fc.2 hi
   have zq: ∀i:Int,0≤i→i<J.O.length→gT a0 J i=true:=fun i i0 i1=>by
    have:=dU i i0 i1
    rw[Bool.or_eq_false_iff] at this
    simpa using this.1
   have NY: ∀i k:Int,0≤i→i<J.O.length→0≤k→k<i→k6 a0 J i k=false:=fun i k i0 i1 aY dr=>by
    have:=dU i i0 i1
    rw[Bool.or_eq_false_iff] at this
    have h2:=this.2
    unfold xF at h2
    rw[List.any_eq_false] at h2
    have:=h2 k.toNat (List.mem_range.2 (by omega))
    rw[Int.toNat_of_nonneg aY] at this
    simpa using this
   have GK: ∀i k:Int,0≤i→i<J.O.length→0≤k→k<J.O.length→k6 a0 J i k=false:=fun i k i0 i1 aY dr=>by
    rcases Int.lt_trichotomy k i with h | h | h
    ·exact NY i k i0 i1 aY h
    ·unfold k6;rw[h];simp
    ·rw[Vz cX E0 i0 i1 aY dr];exact NY k i aY dr i0 h
   have dK:kZ a0 J:=Gp o9 fun i i0 i1=>by
    have:=zq i i0 i1
    rw[Cl,Bool.and_eq_true] at this;exact this.1
   refine⟨⟨dY,dK⟩,?_⟩
   obtain⟨s1,s2,lk⟩:=DZ a0 J J.O.length
   unfold vc
   rw[show(ir a0 J).aG=J.aG from s2,show(ir a0 J).aq=J.aq from lk]
   unfold eqv
   by_cases h:J.O=(ir a0 J).O
   ·rw[decide_eq_true h,y7.2 ⟨o9,lF,zq,GK,h⟩];simp
   ·rw[decide_eq_false h,Bool.and_false]
    exact no _ D fun aO=>h aO.2.2.2.2
  ·have dt:=cy fc.2 hi
   have f_:i<(J.O.length:Int):=by simpa using hi
   have uU: ∀c:Bool,c=false→(gT a0 J i=true→c=true)→false=hN a0 J:=fun c hc h=>no _ D fun aO=>by
    have:=h (aO.2.2.1 i dt.1 (by omega));rw[hc] at this;cases this
   have P:=Cl a0 J i
   refine⟨dt,⟨dt.1,by omega⟩,fun wT=> ?_⟩
   unfold Ov HB jO
   refine⟨fun U=>uU (su a0 J i) (by unfold su;rw[U];rfl) fun h=>by rw[P,Bool.and_eq_true] at h;exact h.1,fun G9=> ?_⟩
   have h1:su a0 J i=true:=G9
   rw[h1,Bool.true_and] at P
   have Zd:0≤(nth J.O i).a1∧(nth J.O i).a1≤((nth J.O i).ak.length:Int):=by
    unfold su at h1
    simp only[Bool.not_eq_true',Bool.or_eq_false_iff,bne_eq_false_iff_eq,decide_eq_false_iff_not] at h1
    omega
   unfold Ou HI HH jO
   refine⟨⟨fun bg U=>uU (ua J i) (by unfold ua;rw[bg,U];rfl) fun h=>by rw[P,Bool.and_eq_true] at h;exact h.1,
    fun bg=>⟨Zd,fun U=>uU (ua J i) (by unfold ua;rw[bg,U];rfl) fun h=>by rw[P,Bool.and_eq_true] at h;exact h.1⟩⟩,fun jN=> ?_⟩
   have h2:ua J i=true:=jN
   rw[h2,Bool.true_and] at P
   unfold Ot HG jO
   refine⟨⟨fun bg U=>uU (ub a0 J i) (by unfold ub;rw[bg,U];rfl) fun h=>by rw[P,Bool.and_eq_true] at h;exact h.1,
    fun bg U=>uU (ub a0 J i) (by unfold ub;rw[bg,U];rfl) fun h=>by rw[P,Bool.and_eq_true] at h;exact h.1⟩,fun ZH=> ?_⟩
   have ay:ub a0 J i=true:=ZH
   rw[ay,Bool.true_and] at P
   unfold Oq HE jO
   refine⟨⟨fun bg U=>uU (uc J i) (by unfold uc;rw[bg,U];rfl) fun h=>by rw[P] at h;exact h,
    fun bg hc U=>uU (uc J i) (by unfold uc;rw[bg,hc,U];rfl) fun h=>by rw[P] at h;exact h⟩,fun ZI=> ?_⟩
   have bg:uc J i=true:=ZI
   rw[bg] at P
   refine⟨dp dt.1,fun k hK=>⟨fun hk=> ?_,fun hk=> ?_⟩⟩
   ·have:=df (c2 hm) fc.2 hi (show(!(gT a0 J i) || xF a0 J i.toNat i)=false by
     rw[P]
     exact List.any_eq_false.2 fun k jq=>by rw[gp hK hk k (by omega) (by have:=List.mem_range.1 jq;omega)];simp)
    exact⟨⟨lF,this.1⟩,this.2⟩
   ·have aiO:k<i:=by simpa using hk
    have wL:=hK.1
    have gx:=cX.len
    have eK:=cX.row i dt.1 (by omega)
    have hc:(((nth J.O i).aK !=0)&&(((nth J.O k).aK !=0)&&(nth (nth a0.bk i) k)))=k6 a0 J i k:=by
     unfold k6 l4
     rw[show(i !=k)=true by simpa using(show i≠k by omega)]
     cases((nth J.O i).aK !=0)<;>cases((nth J.O k).aK !=0)<;>cases(nth (nth a0.bk i) k)<;>rfl
    unfold Oo HF jO
    rw[hc]
    refine⟨⟨fun _=>⟨⟨wL,by omega⟩,fun _=>⟨⟨dt.1,by omega⟩,wL,by omega⟩⟩,fun U=>no _ D fun aO=> ?_⟩,fun U=>df (by omega) hK hk (not_eq U)⟩
    have:=aO.2.2.2.1 i k dt.1 (by omega) wL (by omega)
    rw[this] at U;cases U
 ·unfold Ow HC
  rw[aeJ]
  refine⟨⟨cy aR hv,fun hb=>no _ D fun aO=> ?_⟩,fun hb=>df (c2 ad) aR hv (not_eq hb)⟩
  have:=aO.2.1 _ (eP (cy aR hv).2)
  rw[this] at hb;cases hb)
end
section
variable (a0 J:Int) (aa:Bool)
def OX:Prop:=
 ((decide (a0 ≥ 0))&&(decide (a0<J)))=aa
theorem aaM:aZ Tryz.prog 50 [aE a0,aE J] (aF (lJ a0 J)):=(fun(h:OX a0 J (lJ a0 J))=>aZ.run (ps:=[.int,.int]) (rs:=[.bool]) (x:=(a0,J,())) (r:=((lJ a0 J),())) ⟨12,cH,[]⟩ ⟨[],[],[],[],[]⟩ .nil Tryz.func50 h) (by
 unfold OX lJ
 rfl)
end
section
variable (ae:Int→Prop) (ag:Int→Nat) (a0:aV) (J:Frame) (a2 a3:Int) (aa:Bool) (cd:Int)
abbrev KO:=((nth (nth a0.O a2).ah cd)==a3)&&(decide (cd ≥ (nth J.O a2).a1))
def TL:Prop:=
  ((0≤cd∧cd.toNat<(nth a0.O a2).ah.length)∧((((nth (nth a0.O a2).ah cd)==a3)=true→0≤a2∧a2.toNat<J.O.length)∧((KO a0 J a2 a3 cd)=true→true=aa)))∧((!(KO a0 J a2 a3 cd))=true→ae (IntKind.i64.wrap (cd+1))∧ag (IntKind.i64.wrap (cd+1))<ag cd)
def TM:Prop:=
  ((0≤a2∧a2.toNat<J.O.length)∧(((nth J.O a2).aK==0)=true→false=aa))∧((!((nth J.O a2).aK==0))=true→(0≤a2∧a2.toNat<a0.O.length)∧((nth a0.O a2).ah.length≤4611686018427387904→ae 0∧ ∀(cd:Int),ae cd→(((decide (cd<((nth a0.O a2).ah.length:Int)))=false→false=aa)∧((decide (cd<((nth a0.O a2).ah.length:Int)))=true→TL ae ag a0 J a2 a3 aa cd))))
def TK (a0:aV) (J:Frame) (a2:Int) (a3:Int) (aa:Bool) (ae:Int→Prop) (ag:Int→Nat):Prop:=
 TM ae ag a0 J a2 a3 aa
theorem ahg (ab:wP a0 J a2 a3):aZ Tryz.prog 130 [.agg (bV false a0),.agg (cg false J),aE a2,aE a3] (aF (iX a0 J a2 a3)):=(fun(ae:Int→Prop) (ag:Int→Nat) (h:TK a0 J a2 a3 (iX a0 J a2 a3) ae ag)=>aZ.run (ps:=[.ef,.frame,.int,.int]) (rs:=[.bool]) (x:=(a0,J,a2,a3,())) (r:=((iX a0 J a2 a3),())) ⟨44,cH,[]⟩ ⟨[],[],[],[],[]⟩ (dZ [2,3,5,23,24] [(5,4)] 25 ae ag fun _=> .nil) Tryz.func130 h) (cj (nth a0.O a2).ah.length (fun k=>((nth (nth a0.O a2).ah k)==a3)&&(decide (k ≥ (nth J.O a2).a1)))) (cB (nth a0.O a2).ah.length) (by
 unfold TK TM
 obtain⟨hf,au,h1⟩:=ab
 have hw:=hf.fr.O
 have aN:a2.toNat<a0.O.length:=by omega
 have p9:a2.toNat<J.O.length:=by omega
 have aB:=hf.fr.a1 _ (eP p9)
 refine⟨⟨⟨au,p9⟩,fun h=> ?_⟩,fun h=>⟨⟨au,aN⟩,fun ad=>⟨dp (c9 _),fun v aR=>⟨fun hv=> ?_,fun hv=> ?_⟩⟩⟩⟩
 ·unfold iX
  rw[show((nth J.O a2).aK !=0)=false by simpa using h];rfl
 ·have hs:((nth J.O a2).aK !=0)=true:=by simpa using h
  unfold iX
  rw[hs,Bool.true_and,eq_comm,←Bool.not_eq_true,BS]
  rintro⟨k,hk,ao,he⟩
  have:=gp aR hv k (by omega) (by omega)
  rw[jt ao,he] at this
  simp at this
  omega
 ·have hs:((nth J.O a2).aK !=0)=true:=by simpa using h
  have dt:=cy aR hv
  unfold TL KO
  refine⟨⟨dt,fun _=>⟨au,p9⟩,fun hb=> ?_⟩,fun hb=>df (c2 ad) aR hv (not_eq hb)⟩
  unfold iX
  rw[hs,Bool.true_and,eq_comm,BS]
  simp only[Bool.and_eq_true,beq_iff_eq,decide_eq_true_eq] at hb
  exact⟨v.toNat,by omega,dt.2,by rw[←h7 dt.2];exact hb.1⟩)
def ahh:cQ Tryz.prog:=⟨130,[.ef,.frame,.int,.int],[.bool],some fun x=>wP x.1 x.2.1 x.2.2.1 x.2.2.2.1,fun x=>((iX x.1 x.2.1 x.2.2.1 x.2.2.2.1),()),fun x h=>ahg x.1 x.2.1 x.2.2.1 x.2.2.2.1 h⟩
end
section
variable (a0:aV) (J:Frame) (a2 a3:Int) (aa:Bool)
def OW:Prop:=
 (0≤a2∧a2.toNat<a0.O.length)∧(((0≤a2∧a2.toNat<J.O.length)∧(((nth J.O a2).aK !=0)=true→0≤a2∧a2.toNat<J.O.length))∧((((nth J.O a2).aK !=0)&&((decide ((mV (nth a0.O a2).ah a3) ≥ (nth J.O a2).a1))&&(decide ((mV (nth a0.O a2).ah a3) ≥ 0))))=aa))
theorem aaB (ab:wP a0 J a2 a3):aZ Tryz.prog 126 [.agg (bV false a0),.agg (cg false J),aE a2,aE a3] (aF (iX a0 J a2 a3)):=(fun(h:OW a0 J a2 a3 (iX a0 J a2 a3))=>aZ.run (ps:=[.ef,.frame,.int,.int]) (rs:=[.bool]) (x:=(a0,J,a2,a3,())) (r:=((iX a0 J a2 a3),())) ⟨39,cH,[SW]⟩ ⟨[],[],[],[],[]⟩ .nil Tryz.func126 h) (by
 unfold OW
 obtain⟨hf,au,h1⟩:=ab
 have hw:=hf.fr.O
 have aN:a2.toNat<a0.O.length:=by omega
 have p9:a2.toNat<J.O.length:=by omega
 have aB:=hf.fr.a1 _ (eP p9)
 refine⟨⟨au,aN⟩,⟨⟨au,p9⟩,fun _=>⟨au,p9⟩⟩,?_⟩
 unfold iX
 rw[has_eq (afI hf.nx (eP aN)) aB.1])
def aaC:cQ Tryz.prog:=⟨126,[.ef,.frame,.int,.int],[.bool],some fun x=>wP x.1 x.2.1 x.2.2.1 x.2.2.2.1,fun x=>((iX x.1 x.2.1 x.2.2.1 x.2.2.2.1),()),fun x h=>aaB x.1 x.2.1 x.2.2.1 x.2.2.2.1 h⟩



end
section
variable (a0:cR) (J:Int) (aa:Bool)
def aaG:Prop:=
 (a0.bd==J)=aa
theorem aaH:aZ Tryz.prog 133 [.agg (dE a0),.c3 [aE J] 0] (aF (uK a0 J)):=(fun(h:aaG a0 J (uK a0 J))=>aZ.run (ps:=[.bG,(.ptr .int)]) (rs:=[.bool]) (x:=(a0,J,())) (r:=((uK a0 J),())) ⟨8,cH,[]⟩ ⟨[],[],[],[],[]⟩ .nil Tryz.func133 h) (by
 exact rfl)
def aaI:cQ Tryz.prog:=⟨133,[.bG,(.ptr .int)],[.bool],none,fun x=>((uK x.1 x.2.1),()),fun x h=>aaH x.1 x.2.1⟩
end
section
variable (a0:(List cR)) (J aa:Int) (ae:Int→Prop) (ag:Int→Nat)
def SS:Prop:=
 a0.length≤4611686018427387904→ae 0∧ ∀(dH:Int),ae dH→(((decide (dH<(a0.length:Int)))=false→(-1)=aa)∧((decide (dH<(a0.length:Int)))=true→((0≤dH∧dH.toNat<a0.length)∧((uK (nth a0 dH) J)=true→dH=aa))∧((!(uK (nth a0 dH) J))=true→ae (IntKind.i64.wrap (dH+1))∧ag (IntKind.i64.wrap (dH+1))<ag dH)))
theorem agj:aZ Tryz.prog 138 [bC dE a0,.fn 133 [.c3 [aE J] 0]] (aE (rv a0 J)):=(fun(ae:Int→Prop) (ag:Int→Nat) (h:SS a0 J (rv a0 J) ae ag)=>aZ.run (ps:=[(.l .bG),(.hJ 133 (.ptr .int))]) (rs:=[.int]) (x:=(a0,J,())) (r:=((rv a0 J),())) ⟨19,cH,[aaI]⟩ ⟨[],[],[],[],[]⟩ (dZ [0,1,7] [] 8 ae ag fun _=> .nil) Tryz.func138 h) (cj a0.length (fun j=>uK (nth a0 j) J)) (cB a0.length) (by
 unfold SS
 intro ad
 refine⟨dp (c9 _),fun v aR=>⟨fun hv=> ?_,fun hv=>⟨⟨cy aR hv,fun ab=> ?_⟩,fun ab=>df (c2 ad) aR hv (not_eq ab)⟩⟩⟩
 ·unfold rv;rw[pL (q:=fun x:cR=>x.bd==J) aR hv];rfl
 ·unfold rv;rw[pK (q:=fun x:cR=>x.bd==J) aR hv ab]
  have:=aR.1
  show v=(v.toNat:Int)
  omega)
def agk:cQ Tryz.prog:=⟨138,[(.l .bG),(.hJ 133 (.ptr .int))],[.int],none,fun x=>((rv x.1 x.2.1),()),fun x h=>agj x.1 x.2.1⟩
end
section
variable (a0:(List cR)) (J:Int) (aa:Bool)
def af4:Prop:=
 (decide ((rv a0 J) ≥ 0))=aa
theorem af5:aZ Tryz.prog 132 [bC dE a0,.fn 133 [.c3 [aE J] 0]] (aF (kS a0 J)):=(fun(h:af4 a0 J (kS a0 J))=>aZ.run (ps:=[(.l .bG),(.hJ 133 (.ptr .int))]) (rs:=[.bool]) (x:=(a0,J,())) (r:=((kS a0 J),())) ⟨9,cH,[agk]⟩ ⟨[],[],[],[],[]⟩ .nil Tryz.func132 h) (by
 exact aah a0 J)
def af6:cQ Tryz.prog:=⟨132,[(.l .bG),(.hJ 133 (.ptr .int))],[.bool],none,fun x=>((kS x.1 x.2.1),()),fun x h=>af5 x.1 x.2.1⟩
end
section
variable (a0:(List cR)) (J:Int) (aa:Bool)
def aaJ:Prop:=
 (kS a0 J)=aa
theorem aaK:aZ Tryz.prog 125 [bC dE a0,aE J] (aF (kS a0 J)):=(fun(h:aaJ a0 J (kS a0 J))=>aZ.run (ps:=[(.l .bG),.int]) (rs:=[.bool]) (x:=(a0,J,())) (r:=((kS a0 J),())) ⟨8,cH,[af6]⟩ ⟨[],[],[],[],[]⟩ .nil Tryz.func125 h) (by
 exact rfl)
def aaL:cQ Tryz.prog:=⟨125,[(.l .bG),.int],[.bool],none,fun x=>((kS x.1 x.2.1),()),fun x h=>aaK x.1 x.2.1⟩
end
section
abbrev kU (r:Type):Type:=Nat→(List Int)→Int→r
variable (ae:kU Prop) (ag:kU Nat) (a0:aV) (J:Frame) (a2:Int) (g0:Nat) (aA:(List Int)) (b5:Int)
abbrev H3:=(kS (nth a0.O b5).cv a2) || ((kS (nth a0.O b5).bp a2)&&(iX a0 J b5 (nth a0.bf a2)))
abbrev uy:=IntKind.i64.wrap (b5+1)
def aaU:List Item:=(List.range 21).map dd
def aaV:List (List Nat):=[[],[0],[],[0,1,2],rg 0 4,rg 0 5,rg 0 6,rg 0 5,rg 0 8,rg 0 9,rg 0 10,rg 0 10,rg 0 10,rg 0 10,rg 0 10++[13],rg 0 10,rg 0 10++[13,14,15],rg 0 10++rg 13 17,rg 0 18,rg 0 19,rg 0 20]
def O1:Prop:=
  ((H3 a0 J a2 b5)=true→((aA.length+[b5].length)*8≤140737488355328∧aA.length+[b5].length≤4611686018427387904)∧(ae (g0+1) (aA++[b5]) (uy b5)∧ag (g0+1) (aA++[b5]) (uy b5)<ag g0 aA b5))∧((H3 a0 J a2 b5)=false→ae g0 aA (uy b5)∧ag g0 aA (uy b5)<ag g0 aA b5)
def O2:Prop:=
  ((0≤b5∧b5.toNat<J.O.length)∧(((nth J.O b5).aK==0)=true→ae g0 aA (uy b5)∧ag g0 aA (uy b5)<ag g0 aA b5))∧((!((nth J.O b5).aK==0))=true→((kS (nth a0.O b5).cv a2)=false→(kS (nth a0.O b5).bp a2)=true→(0≤a2∧a2.toNat<a0.bf.length)∧(wP a0 J b5 (nth a0.bf a2)))∧(O1 ae ag a0 J a2 g0 aA b5))
def O0 (a0:aV) (J:Frame) (a2:Int) (aa:(List Int)) (ae:kU Prop) (ag:kU Nat):Prop:=
 a0.O.length≤4611686018427387904→ae 0 ([]:List Int) 0∧ ∀(g0:Nat) (aA:(List Int)) (b5:Int),ae g0 aA b5→(((decide (b5<(a0.O.length:Int)))=false→aA.length≤4611686018427387904∧aA=aa)∧((decide (b5<(a0.O.length:Int)))=true→(0≤b5∧b5.toNat<a0.O.length)∧(O2 ae ag a0 J a2 g0 aA b5)))
theorem aaS (ab:xv a0 J a2):aZ Tryz.prog 99 [.agg (bV false a0),.agg (cg false J),aE a2] (oT cs (lL a0 J a2)):=(fun(ae:kU Prop) (ag:kU Nat) (h:O0 a0 J a2 (lL a0 J a2) ae ag)=>aZ.run (ps:=[.ef,.frame,.int]) (rs:=[(.l .int)]) (x:=(a0,J,a2,())) (r:=((lL a0 J a2),())) ⟨52,cH,[aaL,aaC]⟩ ⟨[],[(6,aaU,aaV)],[],[],[]⟩ (.lp [(0,7,.int)] [2,3,4,11,12] [(4,4),(3,5)] [.nat,(.l .int),.int] [br 0,br 0,13] (fun aD=>[(7,.ref 0 aD.1 aD.2.1.length false),(13,.i .i64 aD.2.2.1),(br 0,.blk aD.1 .int aD.2.1 _ rfl)]) (fun aD=>ae aD.1 aD.2.1 aD.2.2.1) (fun aD=>ag aD.1 aD.2.1 aD.2.2.1) fun _=> .nil) Tryz.func99 h) (fun _ x v=>cj a0.O.length (fun _=>false) v∧x=dz (fun i=>lX a0 J i a2) v) (fun _ _ v=>cB a0.O.length v) (by
 unfold O0
 obtain⟨hf,au,h1⟩:=ab
 have hw:=hf.fr.O
 have G5:=hf.in.O
 have sy:=hf.in.bf
 intro ad
 refine⟨⟨dp (c9 _),rfl⟩,fun g x v aR=> ?_⟩
 obtain⟨aR,rfl⟩:=aR
 have h3:=aR.1
 have hlen:=o0 (fun i=>lX a0 J i a2) v
 have Hk:=aR.2.1
 refine⟨fun hv=>⟨by omega,?_⟩,fun hv=>⟨cy aR hv,?_⟩⟩
 ·have: ¬v<(a0.O.length:Int):=by simpa using hv
  rw[show v=(a0.O.length:Int) by omega];rfl
 have dt:=cy aR hv
 have aQ:=df (c2 ad) aR hv rfl
 have wW:IntKind.i64.wrap (v+1)=v+1:=nh (c2 ad) h3 (by simpa using hv)
 have qH:lX a0 J v a2=true→(cj a0.O.length (fun _=>false) (IntKind.i64.wrap (v+1))∧dz (fun i=>lX a0 J i a2) v++[v]=dz (fun i=>lX a0 J i a2) (IntKind.i64.wrap (v+1))):=fun h=>⟨aQ.1,by rw[wW,y4 h3,if_pos h]⟩
 have no:lX a0 J v a2=false→(cj a0.O.length (fun _=>false) (IntKind.i64.wrap (v+1))∧dz (fun i=>lX a0 J i a2) v=dz (fun i=>lX a0 J i a2) (IntKind.i64.wrap (v+1))):=fun h=>⟨aQ.1,by rw[wW,y4 h3,if_neg (by rw[h];simp)]⟩
 unfold O2 O1 uy H3
 refine⟨⟨⟨h3,by omega⟩,fun av=>⟨no ?_,aQ.2⟩⟩,fun av=>⟨fun _ _=>⟨⟨au,by omega⟩,hf,h3,by omega⟩,⟨fun U=>⟨⟨?_,?_⟩,qH ?_,aQ.2⟩,fun U=>⟨no ?_,aQ.2⟩⟩⟩⟩
 ·unfold lX
  rw[show((nth J.O v).aK !=0)=false by simpa using av];rfl
 ·simp only[List.length_singleton];omega
 ·simp only[List.length_singleton];omega
 ·unfold lX
  rw[show((nth J.O v).aK !=0)=true by simpa using av];exact U
 ·unfold lX
  rw[show((nth J.O v).aK !=0)=true by simpa using av];exact U)
def aaT:cQ Tryz.prog:=⟨99,[.ef,.frame,.int],[(.l .int)],some fun x=>xv x.1 x.2.1 x.2.2.1,fun x=>((lL x.1 x.2.1 x.2.2.1),()),fun x h=>aaS x.1 x.2.1 x.2.2.1 h⟩
end
section
variable (ae:Int→Prop) (ag:Int→Nat) (a7:Int→Int→Prop) (aW:Int→Int→Nat) (a0:aV) (J:Frame) (a2 a3 aa da dP:Int)
abbrev qA:=(nth a0.O a2).bp
abbrev r3:=(nth a0.O a2).cv
def ahs:List Item:=(List.range 15).map dd
def aht:List (List Nat):=[[],[0],[],[0,1,2],rg 0 4,rg 0 5,rg 0 5,rg 0 5,rg 0 5,rg 0 5++[8],rg 0 5,rg 0 5++[8,9,10],rg 0 5++rg 8 12,rg 0 13,rg 0 14]
def T6:Prop:=
  ((0≤dP∧dP.toNat<(qA a0 a2).length)∧((((nth (qA a0 a2) dP).bd==a3)=true→(0≤a3∧a3.toNat<a0.bf.length)∧(wP a0 J a2 (nth a0.bf a3)))∧((((nth (qA a0 a2) dP).bd==a3)&&(iX a0 J a2 (nth a0.bf a3)))=true→(nth (qA a0 a2) dP).bG=aa)))∧((!(((nth (qA a0 a2) dP).bd==a3)&&(iX a0 J a2 (nth a0.bf a3))))=true→a7 da (IntKind.i64.wrap (dP+1))∧aW da (IntKind.i64.wrap (dP+1))<aW da dP)
def T7:Prop:=
  ((decide (da<((r3 a0 a2).length:Int)))=false→(0≤a2∧a2.toNat<a0.O.length)∧((qA a0 a2).length≤4611686018427387904→a7 da 0∧ ∀(dP:Int),a7 da dP→(((decide (dP<((qA a0 a2).length:Int)))=false→0=aa)∧((decide (dP<((qA a0 a2).length:Int)))=true→T6 a7 aW a0 J a2 a3 aa da dP))))∧((decide (da<((r3 a0 a2).length:Int)))=true→((0≤da∧da.toNat<(r3 a0 a2).length)∧(((nth (r3 a0 a2) da).bd==a3)=true→(nth (r3 a0 a2) da).bG=aa))∧((!((nth (r3 a0 a2) da).bd==a3))=true→ae (IntKind.i64.wrap (da+1))∧ag (IntKind.i64.wrap (da+1))<ag da))
def T5 (a0:aV) (J:Frame) (a2:Int) (a3:Int) (aa:Int) (ae:Int→Prop) (ag:Int→Nat) (a7:Int→Int→Prop) (aW:Int→Int→Nat):Prop:=
 ((0≤a2∧a2.toNat<J.O.length)∧(((nth J.O a2).aK==0)=true→0=aa))∧((!((nth J.O a2).aK==0))=true→(0≤a2∧a2.toNat<a0.O.length)∧((r3 a0 a2).length≤4611686018427387904→ae 0∧ ∀(da:Int),ae da→(T7 ae ag a7 aW a0 J a2 a3 aa da)))
theorem ahq (ab:Ll a0 J a2 a3):aZ Tryz.prog 112 [.agg (bV false a0),.agg (cg false J),aE a2,aE a3] (aE (oP a0 J a2 a3)):=(fun(ae:Int→Prop) (ag:Int→Nat) (a7:Int→Int→Prop) (aW:Int→Int→Nat) (h:T5 a0 J a2 a3 (oP a0 J a2 a3) ae ag a7 aW)=>aZ.run (ps:=[.ef,.frame,.int,.int]) (rs:=[.int]) (x:=(a0,J,a2,a3,())) (r:=((oP a0 J a2 a3),())) ⟨67,cH,[ahh]⟩ ⟨[],[(12,ahs,aht)],[],[],[]⟩ (dZ [2,3,4,5,25,26] [(5,4),(4,5)] 27 ae ag fun aD=>(dZ [2,3,4,5,43,44] [(5,4),(4,5)] 45 (a7 aD) (aW aD) fun _=> .nil)) Tryz.func112 h) (cj (nth a0.O a2).cv.length (fun j=>(nth (nth a0.O a2).cv j).bd==a3)) (cB (nth a0.O a2).cv.length) (fun _=>cj (nth a0.O a2).bp.length (fun j=>(nth (nth a0.O a2).bp j).bd==a3&&iX a0 J a2 (nth a0.bf a3))) (fun _=>cB (nth a0.O a2).bp.length) (by
 unfold T5 r3
 obtain⟨hf,au,h1,h2,ay⟩:=ab
 have hw:=hf.fr.O
 refine⟨⟨⟨au,by omega⟩,fun av=> ?_⟩,fun av=>⟨⟨au,by omega⟩,fun ad=>⟨dp (c9 _),fun v aR=> ?_⟩⟩⟩
 ·unfold oP;rw[if_pos (by simpa using av)]
 have av: ¬(nth J.O a2).aK=0:=by simpa using av
 unfold T7 r3 qA
 refine⟨fun hv=>⟨⟨au,by omega⟩,fun hm=>⟨dp (c9 _),fun k hK=> ?_⟩⟩,fun hv=>⟨⟨cy aR hv,fun hb=> ?_⟩,fun hb=>df (c2 ad) aR hv (not_eq hb)⟩⟩
 ·have ax:=pL (q:=fun x:cR=>x.bd==a3) aR hv
  unfold T6 qA
  refine⟨fun hk=> ?_,fun hk=>⟨⟨cy hK hk,fun _=>⟨⟨h2,by omega⟩,hf,au,h1⟩,fun hb=> ?_⟩,fun hb=>df (c2 hm) hK hk (not_eq hb)⟩⟩
  ·unfold oP
   rw[if_neg av,ax]
   simp only
   rw[pL (q:=fun x:cR=>x.bd==a3&&iX a0 J a2 (nth a0.bf a3)) hK hk]
  ·unfold oP
   rw[if_neg av,ax]
   simp only
   rw[pK (q:=fun x:cR=>x.bd==a3&&iX a0 J a2 (nth a0.bf a3)) hK hk hb]
   simp only[ov hK.1]
 ·unfold oP
  rw[if_neg av,pK (q:=fun x:cR=>x.bd==a3) aR hv hb]
  simp only[ov aR.1])
def ahr:cQ Tryz.prog:=⟨112,[.ef,.frame,.int,.int],[.int],some fun x=>Ll x.1 x.2.1 x.2.2.1 x.2.2.2.1,fun x=>((oP x.1 x.2.1 x.2.2.1 x.2.2.2.1),()),fun x h=>ahq x.1 x.2.1 x.2.2.1 x.2.2.2.1 h⟩
end
section
variable (ae:kU Prop) (ag:kU Nat) (a0:aV) (J:Frame) (a2:Int) (g0:Nat) (aA:(List Int)) (v12:Int)
def TO:Prop:=
  ((decide ((oP a0 J v12 a2)>0))=true→((aA.length+[v12].length)*8≤140737488355328∧aA.length+[v12].length≤4611686018427387904)∧(ae (g0+1) (aA++[v12]) (IntKind.i64.wrap (v12+1))∧ag (g0+1) (aA++[v12]) (IntKind.i64.wrap (v12+1))<ag g0 aA v12))∧((decide ((oP a0 J v12 a2)>0))=false→ae g0 aA (IntKind.i64.wrap (v12+1))∧ag g0 aA (IntKind.i64.wrap (v12+1))<ag g0 aA v12)
def TN (a0:aV) (J:Frame) (a2:Int) (aa:(List Int)) (ae:kU Prop) (ag:kU Nat):Prop:=
 a0.O.length≤4611686018427387904→ae 0 ([]:List Int) 0∧ ∀(g0:Nat) (aA:(List Int)) (v12:Int),ae g0 aA v12→(((decide (v12<(a0.O.length:Int)))=false→aA.length≤4611686018427387904∧aA=aa)∧((decide (v12<(a0.O.length:Int)))=true→(Ll a0 J v12 a2)∧(TO ae ag a0 J a2 g0 aA v12)))
theorem ahi (ab:xv a0 J a2):aZ Tryz.prog 81 [.agg (bV false a0),.agg (cg false J),aE a2] (oT cs (lL a0 J a2)):=(fun(ae:kU Prop) (ag:kU Nat) (h:TN a0 J a2 (lL a0 J a2) ae ag)=>aZ.run (ps:=[.ef,.frame,.int]) (rs:=[(.l .int)]) (x:=(a0,J,a2,())) (r:=((lL a0 J a2),())) ⟨27,cH,[ahr]⟩ ⟨[],[],[],[],[]⟩ (.lp [(0,7,.int)] [2,3,4,11] [(4,4),(3,5)] [.nat,(.l .int),.int] [br 0,br 0,12] (fun aD=>[(7,.ref 0 aD.1 aD.2.1.length false),(12,.i .i64 aD.2.2.1),(br 0,.blk aD.1 .int aD.2.1 _ rfl)]) (fun aD=>ae aD.1 aD.2.1 aD.2.2.1) (fun aD=>ag aD.1 aD.2.1 aD.2.2.1) fun _=> .nil) Tryz.func81 h) (fun _ x v=>cj a0.O.length (fun _=>false) v∧x=dz (fun i=>lX a0 J i a2) v) (fun _ _ v=>cB a0.O.length v) (by
 unfold TN
 obtain⟨hf,au,h1⟩:=ab
 have G5:=hf.in.O
 intro ad
 refine⟨⟨dp (c9 _),rfl⟩,fun g x v aR=> ?_⟩
 obtain⟨aR,rfl⟩:=aR
 have h3:=aR.1
 have hlen:=o0 (fun i=>lX a0 J i a2) v
 have Hk:=aR.2.1
 refine⟨fun hv=>⟨by omega,?_⟩,fun hv=>⟨⟨hf,h3,by have:=cy aR hv;omega,au,h1⟩,?_⟩⟩
 ·have: ¬v<(a0.O.length:Int):=by simpa using hv
  rw[show v=(a0.O.length:Int) by omega];rfl
 have aQ:=df (c2 ad) aR hv rfl
 have wW:IntKind.i64.wrap (v+1)=v+1:=nh (c2 ad) h3 (by simpa using hv)
 unfold TO
 rw[ah9 hf.nx (cy aR hv).2]
 refine⟨fun U=>⟨⟨?_,?_⟩,⟨aQ.1,by rw[wW,y4 h3,if_pos U]⟩,aQ.2⟩,fun U=>⟨⟨aQ.1,by rw[wW,y4 h3,if_neg (by rw[U];simp)]⟩,aQ.2⟩⟩
 ·simp only[List.length_singleton];omega
 ·simp only[List.length_singleton];omega)
def ahj:cQ Tryz.prog:=⟨81,[.ef,.frame,.int],[(.l .int)],some fun x=>xv x.1 x.2.1 x.2.2.1,fun x=>((lL x.1 x.2.1 x.2.2.1),()),fun x h=>ahi x.1 x.2.1 x.2.2.1 h⟩
end
section
abbrev yb (r:Type):Type:=Nat→(List Int)→Int→Nat→(List Int)→Int→r
abbrev yc (r:Type):Type:=Nat→(List Int)→Int→Nat→(List Int)→Int→Nat→(List Int)→Int→Bool→Bool→r
abbrev yd (r:Type):Type:=Nat→(List Int)→Int→Nat→(List Int)→Int→Nat→(List Int)→Int→Bool→Bool→Nat→(List Int)→Int→Bool→Bool→r
variable (ae:kU Prop) (ag:kU Nat) (a7:yb Prop) (aW:yb Nat) (bI:yc Prop) (bq:yc Nat) (db:yd Prop) (dj:yd Nat) (a0:aV) (J:Frame) (a2:Int) (aa:gB×Bool×Bool) (g0:Nat) (aA:(List Int)) (dw:Int) (g1:Nat) (bt:(List Int)) (v76:Int) (g2:Nat) (bP:(List Int)) (iK:Int) (e7 dH:Bool) (dX:Int) (la:Nat) (kG:(List Int)) (lU lV:Bool)
abbrev HM:=(dw !=a2)&&(((nth J.O dw).aK !=0)&&((nth (nth a0.bk a2) dw) || ((meets (nth a0.O a2).ah (nth a0.O dw).cK) || (meets (nth a0.O a2).cK (nth a0.O dw).ah))))
abbrev uv:=decide (((lL a0 J dX).length:Int)>0)
abbrev HN:=((nth (bS (nth a0.O a2)) iK).bd !=dX) || ((nth J.aq dX).cJ==(nth (bS (nth a0.O a2)) iK).bG)
abbrev sH:=IntKind.i64.wrap (iK+1)
abbrev HO:=(nth J.aG v76)&&((fZ (nth a0.O a2).ah v76) || (fZ (nth a0.O a2).cK v76))
abbrev uw:=nth J.aG (nth a0.bf dX)
def aat:List Item:=(List.range 15).map dd
def aau:List (List Nat):=[[],[0],[],[0,1,2],rg 0 4,rg 0 5,rg 0 6,rg 0 5,rg 0 8,rg 0 9,rg 0 10,rg 0 5,rg 0 5++[11],rg 0 13,rg 0 14]
def aav:List Item:=(List.range 10).map dd
def aaw:List (List Nat):=[[],[0],[],[2],[],[2,3,4],rg 2 6,rg 0 7,rg 0 8,rg 0 9]
def OI:Prop:=
  (((uv a0 J dX) || (uw a0 J dX))=true→((kG.length+[dX].length)*8≤140737488355328∧kG.length+[dX].length≤4611686018427387904)∧(db g0 aA dw g1 bt v76 g2 bP dX e7 dH (la+1) (kG++[dX]) (sH iK) (lU || (uv a0 J dX)) (lV || (uw a0 J dX))∧dj g0 aA dw g1 bt v76 g2 bP dX e7 dH (la+1) (kG++[dX]) (sH iK) (lU || (uv a0 J dX)) (lV || (uw a0 J dX))<dj g0 aA dw g1 bt v76 g2 bP dX e7 dH la kG iK lU lV))∧(((uv a0 J dX) || (uw a0 J dX))=false→db g0 aA dw g1 bt v76 g2 bP dX e7 dH la kG (sH iK) (lU || (uv a0 J dX)) (lV || (uw a0 J dX))∧dj g0 aA dw g1 bt v76 g2 bP dX e7 dH la kG (sH iK) (lU || (uv a0 J dX)) (lV || (uw a0 J dX))<dj g0 aA dw g1 bt v76 g2 bP dX e7 dH la kG iK lU lV)
def OJ:Prop:=
  ((((nth (bS (nth a0.O a2)) iK).bd !=dX)=false→0≤dX∧dX.toNat<J.aq.length)∧((HN a0 J a2 iK dX)=true→db g0 aA dw g1 bt v76 g2 bP dX e7 dH la kG (sH iK) lU lV∧dj g0 aA dw g1 bt v76 g2 bP dX e7 dH la kG (sH iK) lU lV<dj g0 aA dw g1 bt v76 g2 bP dX e7 dH la kG iK lU lV))∧((!(HN a0 J a2 iK dX))=true→(xv a0 J dX)∧((lL a0 J dX).length≤4611686018427387904→((0≤dX∧dX.toNat<a0.bf.length)∧(0≤(nth a0.bf dX)∧(nth a0.bf dX).toNat<J.aG.length))∧(OI db dj a0 J g0 aA dw g1 bt v76 g2 bP iK e7 dH dX la kG lU lV)))
def OK:Prop:=
  ((decide (iK<((bS (nth a0.O a2)).length:Int)))=false→bI g0 aA dw g1 bt v76 la kG (IntKind.i64.wrap (dX+1)) lU lV∧bq g0 aA dw g1 bt v76 la kG (IntKind.i64.wrap (dX+1)) lU lV<bq g0 aA dw g1 bt v76 g2 bP dX e7 dH)∧((decide (iK<((bS (nth a0.O a2)).length:Int)))=true→(0≤iK∧iK.toNat<(bS (nth a0.O a2)).length)∧(OJ db dj a0 J a2 g0 aA dw g1 bt v76 g2 bP iK e7 dH dX la kG lU lV))
def OL:Prop:=
  ((decide (dX<(a0.bf.length:Int)))=false→(aA.length≤4611686018427387904∧aA=aa.1.O)∧(bt.length≤4611686018427387904∧bt=aa.1.ah)∧(bP.length≤4611686018427387904∧bP=aa.1.aq)∧(e7=aa.2.1)∧(dH=aa.2.2))∧((decide (dX<(a0.bf.length:Int)))=true→(Am (nth a0.O a2))∧((bS (nth a0.O a2)).length≤4611686018427387904→db g0 aA dw g1 bt v76 g2 bP dX e7 dH g2 bP 0 e7 dH∧ ∀(la:Nat) (kG:(List Int)) (iK:Int) (lU:Bool) (lV:Bool),db g0 aA dw g1 bt v76 g2 bP dX e7 dH la kG iK lU lV→(OK bI bq db dj a0 J a2 g0 aA dw g1 bt v76 g2 bP iK e7 dH dX la kG lU lV)))
def OM:Prop:=
  ((HO a0 J a2 v76)=true→((bt.length+[v76].length)*8≤140737488355328∧bt.length+[v76].length≤4611686018427387904)∧(a7 g0 aA dw (g1+1) (bt++[v76]) (IntKind.i64.wrap (v76+1))∧aW g0 aA dw (g1+1) (bt++[v76]) (IntKind.i64.wrap (v76+1))<aW g0 aA dw g1 bt v76))∧((HO a0 J a2 v76)=false→a7 g0 aA dw g1 bt (IntKind.i64.wrap (v76+1))∧aW g0 aA dw g1 bt (IntKind.i64.wrap (v76+1))<aW g0 aA dw g1 bt v76)
def ON:Prop:=
  ((decide (v76<a0.ah))=false→a0.bf.length≤4611686018427387904→bI g0 aA dw g1 bt v76 0 ([]:List Int) 0 false false∧ ∀(g2:Nat) (bP:(List Int)) (dX:Int) (e7:Bool) (dH:Bool),bI g0 aA dw g1 bt v76 g2 bP dX e7 dH→(OL bI bq db dj a0 J a2 aa g0 aA dw g1 bt v76 g2 bP e7 dH dX))∧((decide (v76<a0.ah))=true→(0≤v76∧v76.toNat<J.aG.length)∧(OM a7 aW a0 J a2 g0 aA dw g1 bt v76))
def OO:Prop:=
  ((HM a0 J a2 dw)=true→((aA.length+[dw].length)*8≤140737488355328∧aA.length+[dw].length≤4611686018427387904)∧(ae (g0+1) (aA++[dw]) (IntKind.i64.wrap (dw+1))∧ag (g0+1) (aA++[dw]) (IntKind.i64.wrap (dw+1))<ag g0 aA dw))∧((HM a0 J a2 dw)=false→ae g0 aA (IntKind.i64.wrap (dw+1))∧ag g0 aA (IntKind.i64.wrap (dw+1))<ag g0 aA dw)
def OP:Prop:=
  ((decide (dw<(a0.O.length:Int)))=false→a7 g0 aA dw 0 ([]:List Int) 0∧ ∀(g1:Nat) (bt:(List Int)) (v76:Int),a7 g0 aA dw g1 bt v76→(ON a7 aW bI bq db dj a0 J a2 aa g0 aA dw g1 bt v76))∧((decide (dw<(a0.O.length:Int)))=true→(0≤dw∧dw.toNat<a0.O.length)∧(((dw !=a2)=true→(0≤dw∧dw.toNat<J.O.length)∧(((nth J.O dw).aK !=0)=true→(0≤a2∧a2.toNat<a0.bk.length)∧(0≤dw∧dw.toNat<(nth a0.bk a2).length)))∧(OO ae ag a0 J a2 g0 aA dw)))
def OH (a0:aV) (J:Frame) (a2:Int) (aa:gB×Bool×Bool) (ae:kU Prop) (ag:kU Nat) (a7:yb Prop) (aW:yb Nat) (bI:yc Prop) (bq:yc Nat) (db:yd Prop) (dj:yd Nat):Prop:=
 (0≤a2∧a2.toNat<a0.O.length)∧(a0.O.length≤4611686018427387904→ae 0 ([]:List Int) 0∧ ∀(g0:Nat) (aA:(List Int)) (dw:Int),ae g0 aA dw→(OP ae ag a7 aW bI bq db dj a0 J a2 aa g0 aA dw))
theorem aas (ab:yq a0 J a2):qJ Tryz.prog 51 [.agg (bV false a0),.agg (cg false J),aE a2] (.tup [.agg (gk true ((tJ a0 J a2).1)),aF ((tJ a0 J a2).2.1),aF ((tJ a0 J a2).2.2)]):=(fun(ae:kU Prop) (ag:kU Nat) (a7:yb Prop) (aW:yb Nat) (bI:yc Prop) (bq:yc Nat) (db:yd Prop) (dj:yd Nat) (h:OH a0 J a2 (tJ a0 J a2) ae ag a7 aW bI bq db dj)=>qJ.run (ps:=[.ef,.frame,.int]) (rs:=[.stays,.bool,.bool]) (x:=(a0,J,a2,())) (r:=((tJ a0 J a2).1,(tJ a0 J a2).2.1,(tJ a0 J a2).2.2,())) ⟨169,cH,[H2,aaT,D0,HZ]⟩ ⟨[],[(20,aat,aau),(22,aav,aaw)],[],[],[]⟩ (.lp [(7,0,.int)] [2,3,4,6,7,8,9,24,25] [(9,5),(6,3),(4,4),(3,5)] [.nat,(.l .int),.int] [br 0,br 0,26] (fun aD=>[(26,.i .i64 aD.2.2.1),(ja 6 0,.ref 0 aD.1 aD.2.1.length false),(br 0,.blk aD.1 .int aD.2.1 _ rfl)]) (fun aD=>ae aD.1 aD.2.1 aD.2.2.1) (fun aD=>ag aD.1 aD.2.1 aD.2.2.1) fun aD=>(.lp [(7,1,.int)] [3,4,6,7,8,9,75] [(9,5),(6,3),(4,4),(3,5)] [.nat,(.l .int),.int] [br 1,br 1,76] (fun bi=>[(76,.i .i64 bi.2.2.1),(ja 6 1,.ref 1 bi.1 bi.2.1.length false),(br 1,.blk bi.1 .int bi.2.1 _ rfl)]) (fun bi=>a7 aD.1 aD.2.1 aD.2.2.1 bi.1 bi.2.1 bi.2.2.1) (fun bi=>aW aD.1 aD.2.1 aD.2.2.1 bi.1 bi.2.1 bi.2.2.1) fun bi=>(.lp [(7,2,.int)] [3,4,6,9,105] [(9,5),(6,3),(4,4),(3,5)] [.nat,(.l .int),.int,.bool,.bool] [br 2,br 2,106,7,8] (fun bA=>[(7,.b (.v bA.2.2.2.1)),(8,.b (.v bA.2.2.2.2.1)),(106,.i .i64 bA.2.2.1),(ja 6 2,.ref 2 bA.1 bA.2.1.length false),(br 2,.blk bA.1 .int bA.2.1 _ rfl)]) (fun bA=>bI aD.1 aD.2.1 aD.2.2.1 bi.1 bi.2.1 bi.2.2.1 bA.1 bA.2.1 bA.2.2.1 bA.2.2.2.1 bA.2.2.2.2.1) (fun bA=>bq aD.1 aD.2.1 aD.2.2.1 bi.1 bi.2.1 bi.2.2.1 bA.1 bA.2.1 bA.2.2.1 bA.2.2.2.1 bA.2.2.2.2.1) fun bA=>(.lp [] [3,4,6,9,13,105,106,110,111] [(9,5),(6,3),(4,4),(3,5)] [.nat,(.l .int),.int,.bool,.bool] [br 2,br 2,112,7,8] (fun cO=>[(7,.b (.v cO.2.2.2.1)),(8,.b (.v cO.2.2.2.2.1)),(112,.i .i64 cO.2.2.1),(ja 6 2,.ref 2 cO.1 cO.2.1.length false),(br 2,.blk cO.1 .int cO.2.1 _ rfl)]) (fun cO=>db aD.1 aD.2.1 aD.2.2.1 bi.1 bi.2.1 bi.2.2.1 bA.1 bA.2.1 bA.2.2.1 bA.2.2.2.1 bA.2.2.2.2.1 cO.1 cO.2.1 cO.2.2.1 cO.2.2.2.1 cO.2.2.2.2.1) (fun cO=>dj aD.1 aD.2.1 aD.2.2.1 bi.1 bi.2.1 bi.2.2.1 bA.1 bA.2.1 bA.2.2.1 bA.2.2.2.1 bA.2.2.2.2.1 cO.1 cO.2.1 cO.2.2.1 cO.2.2.2.1 cO.2.2.2.2.1) fun _=> .nil)))) Tryz.func51 h) (fun _ x v=>cj a0.O.length (fun _=>false) v∧x=dz (kN a0 J a2) v) (fun _ _ v=>cB a0.O.length v) (fun _ aA _ _ bt v=>aA=dz (kN a0 J a2) a0.O.length∧cj a0.ah (fun _=>false) v∧bt=dz (mc a0 J a2) v) (fun _ _ _ _ _ v=>cB a0.ah v) (fun _ aA _ _ bt _ _ bP v a b=>aA=dz (kN a0 J a2) a0.O.length∧bt=dz (mc a0 J a2) a0.ah∧cj a0.bf.length (fun _=>false) v∧bP=dz (j9 a0 J a2) v∧a=wq a0 J a2 v∧b=AL a0 J a2 v) (fun _ _ _ _ _ _ _ _ v _ _=>cB a0.bf.length v) (fun _ _ _ _ _ _ _ x k a b _ kW j gi bH=>VJ a0 J a2 k x a b kW j gi bH) (fun _ _ _ _ _ _ _ _ _ _ _ _ _ j _ _=>cB (bS (nth a0.O a2)).length j) (by
 unfold OH
 obtain⟨hf,au,h1⟩:=ab
 have hw:=hf.fr.O
 have lF:=hf.fr.aq
 have uj:=hf.fr.aG
 have dY:=hf.in
 have G5:=dY.O
 have Hg:=dY.bd
 have wS:=dY.cG
 have cX:=Dw hf.nx
 have aN:a2.toNat<a0.O.length:=by omega
 have zw:=eP aN
 have h0:=I0 hf.nx zw
 refine⟨⟨au,aN⟩,fun ad=>⟨⟨dp (c9 _),rfl⟩,fun g x v aR=> ?_⟩⟩
 obtain⟨aR,rfl⟩:=aR
 have hlen:=o0 (kN a0 J a2) v
 have Hk:=aR.2.1
 unfold OP
 refine⟨fun hv=>⟨⟨wo aR hv,dp wS.1,rfl⟩,fun g1 bt s fc=> ?_⟩,fun hv=>⟨cy aR hv,⟨fun _=> ?_,?_⟩⟩⟩
 ·obtain⟨hh,fc,rfl⟩:=fc
  have Zj:=o0 (mc a0 J a2) s
  have ZO:=fc.2.1
  unfold ON
  refine⟨fun hs hm=>⟨⟨hh,wo fc hs,dp (c9 _),rfl,rfl,rfl⟩,fun g2 bP k a b hK=> ?_⟩,fun hs=> ?_⟩
  ·obtain⟨_,nF,hK,rfl,rfl,rfl⟩:=hK
   have Cx:=o0 (j9 a0 J a2) k
   have zt:=hK.2.1
   unfold OL
   refine⟨fun hk=> ?_,fun hk=>⟨⟨by have:=(dY.bp _ zw).1;omega,by have:=(dY.bp _ zw).2.1;omega⟩,fun rc=> ?_⟩⟩
   ·have ax:=wo (q:=j9 a0 J a2) hK hk
    have e:k=a0.bf.length:=by
     have: ¬k<(a0.bf.length:Int):=by simpa using hk
     omega
    refine⟨⟨by omega,hh⟩,⟨by omega,nF⟩,⟨by omega,ax⟩,?_,?_⟩
    ·rw[e];rfl
    ·rw[e];rfl
   ·have zs:=cy hK hk
    have kO:=df (c2 hm) hK hk rfl
    refine⟨⟨dp (c9 _),by simp[mZ],by simp[mZ],by simp[mZ]⟩,fun la kG j gi bH bB=> ?_⟩
    obtain⟨bB,rfl,rfl,rfl⟩:=bB
    unfold OK
    refine⟨fun af=> ?_,fun af=>⟨cy bB af,?_⟩⟩
    ·have iy: ¬j<((bS (nth a0.O a2)).length:Int):=by simpa using af
     rw[afJ _ _ _ _ (j:=j.toNat) (by omega)]
     have s1:=p3 (q:=j9 a0 J a2) (c2 hm) hK hk
     have s2:=(p3 (q:=fun k=>kg a0 J a2 k&&ot a0 J k) (c2 hm) hK hk).2.2
     have lk:=(p3 (q:=fun k=>kg a0 J a2 k&&ow a0 J k) (c2 hm) hK hk).2.2
     refine⟨⟨hh,nF,kO.1,?_,s2.symm,lk.symm⟩,kO.2⟩
     cases U:j9 a0 J a2 k with
     | true=>rw[if_pos (show(kg a0 J a2 k&&(ot a0 J k || ow a0 J k))=true from U)];exact s1.1 U
     | false=>rw[if_neg (by rw[show(kg a0 J a2 k&&(ot a0 J k || ow a0 J k))=false from U];simp)];exact s1.2.1 U
    ·have Cr:=cy bB af
     have wJ:=df (c2 rc) bB af rfl
     have BV:(IntKind.i64.wrap (j+1)).toNat=j.toNat+1:=by rw[nh (c2 rc) bB.1 (by simpa using af)];omega
     have rm:=afL (f:=J) (k:=k) Cr.2
     have Zq:nth (bS (nth a0.O a2)) j=(bS (nth a0.O a2))[j.toNat]'Cr.2:=h7 Cr.2
     have Hf:=dY.bf _ (eP zs.2)
     have GM: ∀(c:Prop) [Decidable c],(if c then dz (j9 a0 J a2) k++[k] else dz (j9 a0 J a2) k).length≤41:=fun c _=>by
      split
      ·rw[List.length_append,List.length_singleton];omega
      ·omega
     unfold OJ sH HN
     rw[Zq]
     refine⟨⟨fun _=>⟨hK.1,by omega⟩,fun U=> ?_⟩,fun U=>⟨⟨hf,hK.1,by omega⟩,fun kP=>⟨⟨⟨hK.1,zs.2⟩,Hf.1,by omega⟩,?_⟩⟩⟩
     ·have:((bS (nth a0.O a2))[j.toNat].bd==k&& !((nth J.aq k).cJ==(bS (nth a0.O a2))[j.toNat].bG))=false:=by
       revert U
       rw[show((bS (nth a0.O a2))[j.toNat].bd !=k)= !((bS (nth a0.O a2))[j.toNat].bd==k) from rfl]
       cases((bS (nth a0.O a2))[j.toNat].bd==k)<;>cases((nth J.aq k).cJ==(bS (nth a0.O a2))[j.toNat].bG)<;>simp
      rw[this,Bool.or_false] at rm
      exact⟨⟨wJ.1,by rw[BV,rm],by rw[BV,rm],by rw[BV,rm]⟩,wJ.2⟩
     ·have jN:((bS (nth a0.O a2))[j.toNat].bd==k)=true∧((nth J.aq k).cJ==(bS (nth a0.O a2))[j.toNat].bG)=false:=by
       revert U
       rw[show((bS (nth a0.O a2))[j.toNat].bd !=k)= !((bS (nth a0.O a2))[j.toNat].bd==k) from rfl]
       cases((bS (nth a0.O a2))[j.toNat].bd==k)<;>cases((nth J.aq k).cJ==(bS (nth a0.O a2))[j.toNat].bG)<;>simp
      have sA:=afK (f:=J) h0 Cr.2 jN.1
      rw[sA,jN.1,jN.2] at rm
      rw[sA]
      unfold OI uw sH uv
      have hM:(decide (((lL a0 J k).length:Int)>0))=ot a0 J k:=rfl
      have l7:nth J.aG (nth a0.bf k)=ow a0 J k:=rfl
      rw[hM,l7]
      simp only[Bool.false_and,Bool.or_false,if_false,Bool.false_eq_true]
      have E: ∀c:Bool,(mZ a0 J a2 k (IntKind.i64.wrap (j+1)).toNat&&c)=c:=fun c=>by rw[BV,rm];rfl
      refine⟨fun hc=>⟨⟨by simp only[List.length_singleton];omega,by simp only[List.length_singleton];omega⟩,⟨wJ.1,?_,by rw[E],by rw[E]⟩,wJ.2⟩,fun hc=>⟨⟨wJ.1,?_,by rw[E],by rw[E]⟩,wJ.2⟩⟩
      ·rw[E,if_pos hc]
      ·rw[E,if_neg (by rw[hc];simp)]
  ·have rl:0≤s∧s<a0.ah:=⟨fc.1,by simpa using hs⟩
   have aQ:=df (N:=a0.ah) (by omega) fc hs rfl
   have s1:=p3 (q:=mc a0 J a2) (N:=a0.ah) (by omega) fc hs
   refine⟨⟨fc.1,by omega⟩,?_⟩
   unfold OM HO
   exact⟨fun U=>⟨⟨by simp only[List.length_singleton];omega,by simp only[List.length_singleton];omega⟩,⟨hh,aQ.1,s1.1 U⟩,aQ.2⟩,fun U=>⟨⟨hh,aQ.1,s1.2.1 U⟩,aQ.2⟩⟩
 ·have dt:=cy aR hv
  have gx:=cX.len
  have eK:=cX.row a2 au h1
  exact⟨⟨dt.1,by omega⟩,fun _=>⟨⟨au,by omega⟩,dt.1,by omega⟩⟩
 ·have aQ:=df (c2 ad) aR hv rfl
  have s1:=p3 (q:=kN a0 J a2) (c2 ad) aR hv
  unfold OO HM
  exact⟨fun U=>⟨⟨by simp only[List.length_singleton];omega,by simp only[List.length_singleton];omega⟩,⟨aQ.1,s1.1 U⟩,aQ.2⟩,fun U=>⟨⟨aQ.1,s1.2.1 U⟩,aQ.2⟩⟩)
end
section
abbrev ye (r:Type):Type:=Nat→(List Int)→Int→Int→r
abbrev yf (r:Type):Type:=Nat→(List Int)→Int→Int→Nat→(List Int)→Int→Int→r
abbrev yg (r:Type):Type:=Nat→(List Int)→Int→Int→Nat→(List Int)→Int→Int→Nat→(List Int)→Int→Int→r
abbrev yh (r:Type):Type:=Nat→(List Int)→Int→Int→Nat→(List Int)→Int→Int→Nat→(List Int)→Int→Int→Int→Int→r
abbrev yi (r:Type):Type:=Nat→(List Int)→Int→Int→Nat→(List Int)→Int→Int→Nat→(List Int)→Int→Int→Int→Int→Int→Int→r
variable (ae:ye Prop) (ag:ye Nat) (a7:yf Prop) (aW:yf Nat) (bI:yg Prop) (bq:yg Nat) (db:yh Prop) (dj:yh Nat) (e8:yi Prop) (ff:yi Nat) (a0:aV) (J:Frame) (a2:Int) (aa:gB×Int) (g0:Nat) (aA:(List Int)) (v28 v9:Int) (g1:Nat) (bt:(List Int)) (v12 ev mC kV v127 qF:Int) (g2:Nat) (bP:(List Int)) (dk b5:Int)
abbrev nc:=[(nth a0.O a2).bp,(nth a0.O a2).cv]
abbrev KP:=(v28 !=a2)&&(((nth J.O v28).aK !=0)&&((nth (nth a0.bk a2) v28) || ((meets (nth a0.O a2).ah (nth a0.O v28).cK) || (meets (nth a0.O a2).cK (nth a0.O v28).ah))))
abbrev nX:=IntKind.i64.wrap (dk+1)
abbrev Ed:=(bP.length+[dk].length)*8≤140737488355328∧bP.length+[dk].length≤4611686018427387904
abbrev KQ:=(nth J.aG v12)&&((meets [v12] (nth a0.O a2).ah) || (meets [v12] (nth a0.O a2).cK))
abbrev vo:=IntKind.i64.wrap (v12+1)
abbrev KR:=bif ((nth (nth (nc a0 a2) v127) mC).bd==dk) then(nth (nth (nc a0 a2) v127) mC).bG else qF
def aho:List Item:=(List.range 44).map dd
def ahp:List (List Nat):=[[],[],[0,1],[0,1,2],rg 0 4,rg 0 5,rg 0 4,rg 0 7,rg 0 8,rg 0 9,rg 0 10,rg 0 11,rg 0 12,rg 0 13,rg 0 14,rg 0 13,rg 0 16,rg 0 17,rg 0 13,rg 0 19,rg 0 20,rg 0 21,rg 0 22,rg 0 23,rg 0 22,rg 0 22++[24],rg 0 22,rg 0 22++[24,25,26],rg 0 22++rg 24 28,rg 0 22++rg 24 29,rg 0 30,rg 0 31,rg 0 32,rg 0 33,rg 0 34,rg 0 33,rg 0 33++[35],rg 0 33,rg 0 33++[35,36,37],rg 0 33++rg 35 39,rg 0 33++rg 35 40,rg 0 41,rg 0 42,rg 0 43]
def ahm:List Item:=(List.range 9).map dd
def ahn:List (List Nat):=[[],[0],[],[2],[],[2,3,4],rg 2 6,rg 0 7,rg 0 8]
def TQ:Prop:=
  ((b5==0)=true→bI g0 aA v28 v9 g1 bt v12 ev (g2+1) (bP++[dk]) (nX dk) 6∧bq g0 aA v28 v9 g1 bt v12 ev (g2+1) (bP++[dk]) (nX dk) 6<bq g0 aA v28 v9 g1 bt v12 ev g2 bP dk b5)∧((b5==0)=false→bI g0 aA v28 v9 g1 bt v12 ev (g2+1) (bP++[dk]) (nX dk) b5∧bq g0 aA v28 v9 g1 bt v12 ev (g2+1) (bP++[dk]) (nX dk) b5<bq g0 aA v28 v9 g1 bt v12 ev g2 bP dk b5)
def TX:Prop:=
  ((nth J.aG (nth a0.bf dk))=true→(Ed bP dk)∧(TQ bI bq g0 aA v28 v9 g1 bt v12 ev g2 bP dk b5))∧((nth J.aG (nth a0.bf dk))=false→bI g0 aA v28 v9 g1 bt v12 ev g2 bP (nX dk) b5∧bq g0 aA v28 v9 g1 bt v12 ev g2 bP (nX dk) b5<bq g0 aA v28 v9 g1 bt v12 ev g2 bP dk b5)
def TY:Prop:=
  ((decide (((lL a0 J dk).length:Int)>0))=true→(Ed bP dk)∧(bI g0 aA v28 v9 g1 bt v12 ev (g2+1) (bP++[dk]) (nX dk) 5∧bq g0 aA v28 v9 g1 bt v12 ev (g2+1) (bP++[dk]) (nX dk) 5<bq g0 aA v28 v9 g1 bt v12 ev g2 bP dk b5))∧((decide (((lL a0 J dk).length:Int)>0))=false→((0≤dk∧dk.toNat<a0.bf.length)∧(0≤(nth a0.bf dk)∧(nth a0.bf dk).toNat<J.aG.length))∧(TX bI bq a0 J g0 aA v28 v9 g1 bt v12 ev g2 bP dk b5))
def TZ:Prop:=
  e8 g0 aA v28 v9 g1 bt v12 ev g2 bP dk b5 v127 kV (IntKind.i64.wrap (mC+1)) (KR a0 a2 mC v127 qF dk)∧ff g0 aA v28 v9 g1 bt v12 ev g2 bP dk b5 v127 kV (IntKind.i64.wrap (mC+1)) (KR a0 a2 mC v127 qF dk)<ff g0 aA v28 v9 g1 bt v12 ev g2 bP dk b5 v127 kV mC qF
def T0:Prop:=
  ((decide (mC<((nth (nc a0 a2) v127).length:Int)))=false→db g0 aA v28 v9 g1 bt v12 ev g2 bP dk b5 (IntKind.i64.wrap (v127+1)) qF∧dj g0 aA v28 v9 g1 bt v12 ev g2 bP dk b5 (IntKind.i64.wrap (v127+1)) qF<dj g0 aA v28 v9 g1 bt v12 ev g2 bP dk b5 v127 kV)∧((decide (mC<((nth (nc a0 a2) v127).length:Int)))=true→(0≤mC∧mC.toNat<(nth (nc a0 a2) v127).length)∧(TZ e8 ff a0 a2 g0 aA v28 v9 g1 bt v12 ev mC kV v127 qF g2 bP dk b5))
def T1:Prop:=
  (0≤v127∧v127.toNat<(nc a0 a2).length)∧((nth (nc a0 a2) v127).length≤4611686018427387904→e8 g0 aA v28 v9 g1 bt v12 ev g2 bP dk b5 v127 kV 0 kV∧ ∀(mC:Int) (qF:Int),e8 g0 aA v28 v9 g1 bt v12 ev g2 bP dk b5 v127 kV mC qF→(T0 db dj e8 ff a0 a2 g0 aA v28 v9 g1 bt v12 ev mC kV v127 qF g2 bP dk b5))
def T2:Prop:=
  ((decide (v127<((nc a0 a2).length:Int)))=false→(((kV==0)=false→0≤dk∧dk.toNat<J.aq.length)∧(((kV==0) || (kV==(nth J.aq dk).cJ))=true→bI g0 aA v28 v9 g1 bt v12 ev g2 bP (nX dk) b5∧bq g0 aA v28 v9 g1 bt v12 ev g2 bP (nX dk) b5<bq g0 aA v28 v9 g1 bt v12 ev g2 bP dk b5))∧((!((kV==0) || (kV==(nth J.aq dk).cJ)))=true→(xv a0 J dk)∧((lL a0 J dk).length≤4611686018427387904→TY bI bq a0 J g0 aA v28 v9 g1 bt v12 ev g2 bP dk b5)))∧((decide (v127<((nc a0 a2).length:Int)))=true→T1 db dj e8 ff a0 a2 g0 aA v28 v9 g1 bt v12 ev kV v127 g2 bP dk b5)
def T3:Prop:=
  ((decide (dk<(a0.bf.length:Int)))=false→(aA.length≤4611686018427387904∧aA=aa.1.O)∧(bt.length≤4611686018427387904∧bt=aa.1.ah)∧(bP.length≤4611686018427387904∧bP=aa.1.aq)∧((bif (ev==0) then b5 else ev)=aa.2))∧((decide (dk<(a0.bf.length:Int)))=true→(nc a0 a2).length≤4611686018427387904→db g0 aA v28 v9 g1 bt v12 ev g2 bP dk b5 0 0∧ ∀(v127:Int) (kV:Int),db g0 aA v28 v9 g1 bt v12 ev g2 bP dk b5 v127 kV→(T2 bI bq db dj e8 ff a0 J a2 g0 aA v28 v9 g1 bt v12 ev kV v127 g2 bP dk b5))
def T4:Prop:=
  ((KQ a0 J a2 v12)=true→((bt.length+[v12].length)*8≤140737488355328∧bt.length+[v12].length≤4611686018427387904)∧(((ev==0)=true→a7 g0 aA v28 v9 (g1+1) (bt++[v12]) (vo v12) 4∧aW g0 aA v28 v9 (g1+1) (bt++[v12]) (vo v12) 4<aW g0 aA v28 v9 g1 bt v12 ev)∧((ev==0)=false→a7 g0 aA v28 v9 (g1+1) (bt++[v12]) (vo v12) ev∧aW g0 aA v28 v9 (g1+1) (bt++[v12]) (vo v12) ev<aW g0 aA v28 v9 g1 bt v12 ev)))∧((KQ a0 J a2 v12)=false→a7 g0 aA v28 v9 g1 bt (vo v12) ev∧aW g0 aA v28 v9 g1 bt (vo v12) ev<aW g0 aA v28 v9 g1 bt v12 ev)
def TR:Prop:=
  ((decide (v12<a0.ah))=false→a0.bf.length≤4611686018427387904→bI g0 aA v28 v9 g1 bt v12 ev 0 ([]:List Int) 0 0∧ ∀(g2:Nat) (bP:(List Int)) (dk:Int) (b5:Int),bI g0 aA v28 v9 g1 bt v12 ev g2 bP dk b5→(T3 bI bq db dj e8 ff a0 J a2 aa g0 aA v28 v9 g1 bt v12 ev g2 bP dk b5))∧((decide (v12<a0.ah))=true→(0≤v12∧v12.toNat<J.aG.length)∧(T4 a7 aW a0 J a2 g0 aA v28 v9 g1 bt v12 ev))
def TT:Prop:=
  ((KP a0 J a2 v28)=true→((aA.length+[v28].length)*8≤140737488355328∧aA.length+[v28].length≤4611686018427387904)∧(ae (g0+1) (aA++[v28]) (IntKind.i64.wrap (v28+1)) 3∧ag (g0+1) (aA++[v28]) (IntKind.i64.wrap (v28+1)) 3<ag g0 aA v28 v9))∧((KP a0 J a2 v28)=false→ae g0 aA (IntKind.i64.wrap (v28+1)) v9∧ag g0 aA (IntKind.i64.wrap (v28+1)) v9<ag g0 aA v28 v9)
def TU:Prop:=
  ((v28 !=a2)=true→(0≤v28∧v28.toNat<J.O.length)∧(((nth J.O v28).aK !=0)=true→(0≤a2∧a2.toNat<a0.bk.length)∧((0≤v28∧v28.toNat<(nth a0.bk a2).length)∧((nth (nth a0.bk a2) v28)=false→(0≤v28∧v28.toNat<a0.O.length)∧((meets (nth a0.O a2).ah (nth a0.O v28).cK)=false→0≤v28∧v28.toNat<a0.O.length)))))∧(TT ae ag a0 J a2 g0 aA v28 v9)
def TW:Prop:=
  ae 0 ([]:List Int) 0 0∧ ∀(g0:Nat) (aA:(List Int)) (v28:Int) (v9:Int),ae g0 aA v28 v9→(((decide (v28<(a0.O.length:Int)))=false→a7 g0 aA v28 v9 0 ([]:List Int) 0 v9∧ ∀(g1:Nat) (bt:(List Int)) (v12:Int) (ev:Int),a7 g0 aA v28 v9 g1 bt v12 ev→(TR a7 aW bI bq db dj e8 ff a0 J a2 aa g0 aA v28 v9 g1 bt v12 ev))∧((decide (v28<(a0.O.length:Int)))=true→TU ae ag a0 J a2 g0 aA v28 v9))
def TP (a0:aV) (J:Frame) (a2:Int) (aa:gB×Int) (ae:ye Prop) (ag:ye Nat) (a7:yf Prop) (aW:yf Nat) (bI:yg Prop) (bq:yg Nat) (db:yh Prop) (dj:yh Nat) (e8:yi Prop) (ff:yi Nat):Prop:=
 (0≤a2∧a2.toNat<a0.O.length)∧(a0.O.length≤4611686018427387904→TW ae ag a7 aW bI bq db dj e8 ff a0 J a2 aa)
theorem ahk (ab:yq a0 J a2):aZ Tryz.prog 42 [.agg (bV false a0),.agg (cg false J),aE a2] (.tup [.agg (gk true ((qB a0 J a2).1)),aE ((qB a0 J a2).2)]):=(fun(ae:ye Prop) (ag:ye Nat) (a7:yf Prop) (aW:yf Nat) (bI:yg Prop) (bq:yg Nat) (db:yh Prop) (dj:yh Nat) (e8:yi Prop) (ff:yi Nat) (h:TP a0 J a2 (qB a0 J a2) ae ag a7 aW bI bq db dj e8 ff)=>aZ.run (ps:=[.ef,.frame,.int]) (rs:=[.stays,.int]) (x:=(a0,J,a2,())) (r:=((qB a0 J a2).1,(qB a0 J a2).2,())) ⟨192,cH,[ahj,Ke]⟩ ⟨[],[(7,aho,ahp),(37,ahm,ahn)],[],[],[]⟩ (.lp [(9,0,.int)] [2,3,4,6,8,10,27] [(10,5),(8,3),(6,3),(4,4),(3,5)] [.nat,(.l .int),.int,.int] [br 0,br 0,28,9] (fun aD=>[(9,.i .i64 aD.2.2.2.1),(28,.i .i64 aD.2.2.1),(ja 8 0,.ref 0 aD.1 aD.2.1.length false),(br 0,.blk aD.1 .int aD.2.1 _ rfl)]) (fun aD=>ae aD.1 aD.2.1 aD.2.2.1 aD.2.2.2.1) (fun aD=>ag aD.1 aD.2.1 aD.2.2.1 aD.2.2.2.1) fun aD=>(.lp [(9,1,.int)] [3,4,6,8,10] [(10,5),(8,3),(6,3),(4,4),(3,5)] [.nat,(.l .int),.int,.int] [br 1,br 1,12,9] (fun bi=>[(9,.i .i64 bi.2.2.2.1),(12,.i .i64 bi.2.2.1),(ja 8 1,.ref 1 bi.1 bi.2.1.length false),(br 1,.blk bi.1 .int bi.2.1 _ rfl)]) (fun bi=>a7 aD.1 aD.2.1 aD.2.2.1 aD.2.2.2.1 bi.1 bi.2.1 bi.2.2.1 bi.2.2.2.1) (fun bi=>aW aD.1 aD.2.1 aD.2.2.1 aD.2.2.2.1 bi.1 bi.2.1 bi.2.2.1 bi.2.2.2.1) fun bi=>(.lp [(9,2,.int)] [3,4,6,8,9,10,117] [(10,5),(8,3),(6,3),(4,4),(3,5)] [.nat,(.l .int),.int,.int] [br 2,br 2,118,13] (fun bA=>[(13,.i .i64 bA.2.2.2.1),(118,.i .i64 bA.2.2.1),(ja 8 2,.ref 2 bA.1 bA.2.1.length false),(br 2,.blk bA.1 .int bA.2.1 _ rfl)]) (fun bA=>bI aD.1 aD.2.1 aD.2.2.1 aD.2.2.2.1 bi.1 bi.2.1 bi.2.2.1 bi.2.2.2.1 bA.1 bA.2.1 bA.2.2.1 bA.2.2.2.1) (fun bA=>bq aD.1 aD.2.1 aD.2.2.1 aD.2.2.2.1 bi.1 bi.2.1 bi.2.2.1 bi.2.2.2.1 bA.1 bA.2.1 bA.2.2.1 bA.2.2.2.1) fun bA=>(.lp [] [3,4,6,8,9,10,13,14,117,118,125,126] [(10,5),(8,3),(6,3),(4,4),(3,5)] [.int,.int] [127,15] (fun cO=>[(15,.i .i64 cO.2.1),(127,.i .i64 cO.1)]) (fun cO=>db aD.1 aD.2.1 aD.2.2.1 aD.2.2.2.1 bi.1 bi.2.1 bi.2.2.1 bi.2.2.2.1 bA.1 bA.2.1 bA.2.2.1 bA.2.2.2.1 cO.1 cO.2.1) (fun cO=>dj aD.1 aD.2.1 aD.2.2.1 aD.2.2.2.1 bi.1 bi.2.1 bi.2.2.1 bi.2.2.2.1 bA.1 bA.2.1 bA.2.2.1 bA.2.2.2.1 cO.1 cO.2.1) fun cO=>(.lp [] [3,4,6,8,9,10,13,14,117,118,125,126,127,131,132] [(10,5),(8,3),(6,3),(4,4),(3,5)] [.int,.int] [133,15] (fun jh=>[(15,.i .i64 jh.2.1),(133,.i .i64 jh.1)]) (fun jh=>e8 aD.1 aD.2.1 aD.2.2.1 aD.2.2.2.1 bi.1 bi.2.1 bi.2.2.1 bi.2.2.2.1 bA.1 bA.2.1 bA.2.2.1 bA.2.2.2.1 cO.1 cO.2.1 jh.1 jh.2.1) (fun jh=>ff aD.1 aD.2.1 aD.2.2.1 aD.2.2.2.1 bi.1 bi.2.1 bi.2.2.1 bi.2.2.2.1 bA.1 bA.2.1 bA.2.2.1 bA.2.2.2.1 cO.1 cO.2.1 jh.1 jh.2.1) fun _=> .nil))))) Tryz.func42 h) (fun _ x v c=>cj a0.O.length (fun _=>false) v∧x=dz (kN a0 J a2) v∧c=(if x≠[] then 3 else 0)) (fun _ _ v _=>cB a0.O.length v) (fun _ aA _ _ _ bt v c=>aA=dz (kN a0 J a2) a0.O.length∧cj a0.ah (fun _=>false) v∧bt=dz (mc a0 J a2) v∧c=(if aA≠[] then 3 else if bt≠[] then 4 else 0)) (fun _ _ _ _ _ _ v _=>cB a0.ah v) (fun _ aA _ _ _ bt _ c _ bP v h=>aA=dz (kN a0 J a2) a0.O.length∧bt=dz (mc a0 J a2) a0.ah∧c=(if aA≠[] then 3 else if bt≠[] then 4 else 0)∧cj a0.bf.length (fun _=>false) v∧bP=dz (j9 a0 J a2) v∧h=wF a0 J a2 v) (fun _ _ _ _ _ _ _ _ _ _ v _=>cB a0.bf.length v) (fun _ _ _ _ _ _ _ _ _ _ k _ i l=>cj ([(nth a0.O a2).bp,(nth a0.O a2).cv].length:Int) (fun _=>false) i∧l=qm 0 ([(nth a0.O a2).bp,(nth a0.O a2).cv].take i.toNat).flatten k) (fun _ _ _ _ _ _ _ _ _ _ _ _ i _=>cB ([(nth a0.O a2).bp,(nth a0.O a2).cv].length:Int) i) (fun _ _ _ _ _ _ _ _ _ _ k _ i l j eN=>cj (nth [(nth a0.O a2).bp,(nth a0.O a2).cv] i).length (fun _=>false) j∧eN=qm l ((nth [(nth a0.O a2).bp,(nth a0.O a2).cv] i).take j.toNat) k) (fun _ _ _ _ _ _ _ _ _ _ _ _ i _ j _=>cB (nth [(nth a0.O a2).bp,(nth a0.O a2).cv] i).length j) (by
 unfold TP TW
 obtain⟨hf,au,h1⟩:=ab
 have hw:=hf.fr.O
 have lF:=hf.fr.aq
 have uj:=hf.fr.aG
 have dY:=hf.in
 have G5:=dY.O
 have Hg:=dY.bd
 have wS:=dY.cG
 have cX:=Dw hf.nx
 have aN:a2.toNat<a0.O.length:=by omega
 have zw:=eP aN
 have h0:=I0 hf.nx zw
 refine⟨⟨au,aN⟩,fun ad=>⟨⟨dp (c9 _),rfl,rfl⟩,fun g x v c aR=> ?_⟩⟩
 obtain⟨aR,rfl,rfl⟩:=aR
 have hlen:=o0 (kN a0 J a2) v
 have Hk:=aR.2.1
 refine⟨fun hv=>⟨⟨wo aR hv,dp wS.1,rfl,by simp[Xl]⟩,fun g1 bt s bc fc=> ?_⟩,fun hv=> ?_⟩
 ·obtain⟨hh,fc,rfl,rfl⟩:=fc
  have Zj:=o0 (mc a0 J a2) s
  have ZO:=fc.2.1
  unfold TR
  refine⟨fun hs hm=>⟨⟨hh,wo fc hs,rfl,dp (c9 _),rfl,rfl⟩,fun g2 bP k aO hK=> ?_⟩,fun hs=> ?_⟩
  ·obtain⟨_,nF,hc,hK,rfl,rfl⟩:=hK
   have Cx:=o0 (j9 a0 J a2) k
   have zt:=hK.2.1
   unfold T3 nc
   refine⟨fun hk=> ?_,fun hk h2=>⟨⟨dp (c9 _),rfl⟩,fun i l bB=> ?_⟩⟩
   ·have ax:=wo (q:=j9 a0 J a2) hK hk
    have e:k=a0.bf.length:=by
     have: ¬k<(a0.bf.length:Int):=by simpa using hk
     omega
    refine⟨⟨by omega,hh⟩,⟨by omega,nF⟩,⟨by omega,ax⟩,?_⟩
    show _=codeF a0 J a2
    unfold codeF
    show _=if dz (kN a0 J a2) a0.O.length≠[] then 3 else if dz (mc a0 J a2) a0.ah≠[] then 4 else _
    rw[hh,nF]
    by_cases kj:dz (kN a0 J a2) a0.O.length≠[]
    ·rw[if_pos kj,if_pos kj];rfl
    ·rw[if_neg kj,if_neg kj]
     by_cases z2:dz (mc a0 J a2) a0.ah≠[]
     ·rw[if_pos z2,if_pos z2];rfl
     ·rw[if_neg z2,if_neg z2,e];rfl
   ·have zs:=cy hK hk
    have kO:=df (c2 hm) hK hk rfl
    have s1:=p3 (q:=j9 a0 J a2) (c2 hm) hK hk
    have s2:=(p3 (q:=fun k=>kg a0 J a2 k&&ot a0 J k) (c2 hm) hK hk).2.2
    have lk:=(p3 (q:=fun k=>kg a0 J a2 k&&ow a0 J k) (c2 hm) hK hk).2.2
    have um:wq a0 J a2 (IntKind.i64.wrap (k+1))=(wq a0 J a2 k || (kg a0 J a2 k&&ot a0 J k)):=s2
    have uo:AL a0 J a2 (IntKind.i64.wrap (k+1))=(AL a0 J a2 k || (kg a0 J a2 k&&ow a0 J k)):=lk
    obtain⟨bB,rfl⟩:=bB
    unfold T2 nX nc
    refine⟨fun hi=> ?_,fun hi=> ?_⟩
    ·have Zf:i=2:=by
      have a:=bB.2.1
      have: ¬i<(([(nth a0.O a2).bp,(nth a0.O a2).cv].length:Nat):Int):=by simpa using hi
      simp at a this;omega
     have bN:(List.take i.toNat [(nth a0.O a2).bp,(nth a0.O a2).cv]).flatten=bS (nth a0.O a2):=by rw[Zf];simp[bS]
     rw[bN]
     have ar:=adj (f:=J) (k:=k) hf.nx aN
     refine⟨⟨fun _=>⟨hK.1,by omega⟩,fun U=> ?_⟩,fun U=>⟨⟨hf,hK.1,by omega⟩,fun kP=> ?_⟩⟩
     ·rw[ar] at U
      have U:kg a0 J a2 k=false:=by simpa using U
      refine⟨⟨hh,nF,hc,kO.1,s1.2.1 (by unfold j9;rw[U];rfl),?_⟩,kO.2⟩
      unfold wF;rw[um,uo,U];simp
     ·rw[ar] at U
      have U:kg a0 J a2 k=true:=by simpa using U
      have Hf:=dY.bf _ (eP zs.2)
      unfold TY Ed nX
      have hM:(decide (((lL a0 J k).length:Int)>0))=ot a0 J k:=rfl
      rw[hM]
      rw[U,Bool.true_and] at um uo
      have vX:((dz (j9 a0 J a2) k).length+[k].length)*8≤140737488355328∧(dz (j9 a0 J a2) k).length+[k].length≤4611686018427387904:=by
       simp only[List.length_singleton];omega
      refine⟨fun ao=>⟨vX,⟨hh,nF,hc,kO.1,s1.1 (by unfold j9;rw[U,ao];rfl),?_⟩,kO.2⟩,fun ao=>⟨⟨⟨hK.1,zs.2⟩,Hf.1,by omega⟩,?_⟩⟩
      ·unfold wF;rw[um,ao,Bool.or_true];rfl
      ·rw[ao,Bool.or_false] at um
       unfold TX TQ Ed nX
       have l7:nth J.aG (nth a0.bf k)=ow a0 J k:=rfl
       rw[l7]
       refine⟨fun zz=>⟨vX,?_⟩,fun zz=>⟨⟨hh,nF,hc,kO.1,s1.2.1 (by unfold j9;rw[U,ao,zz];rfl),?_⟩,kO.2⟩⟩
       ·rw[zz,Bool.or_true] at uo
        have bm:=s1.1 (show j9 a0 J a2 k=true by unfold j9;rw[U,ao,zz];rfl)
        refine⟨fun av=>⟨⟨hh,nF,hc,kO.1,bm,?_⟩,kO.2⟩,fun av=>⟨⟨hh,nF,hc,kO.1,bm,?_⟩,kO.2⟩⟩
        ·unfold wF at av ⊢
         rw[um,uo]
         cases cW:wq a0 J a2 k with
         | true=>rw[cW] at av;simp at av
         | false=>simp
        ·unfold wF at av ⊢
         rw[um,uo]
         cases cW:wq a0 J a2 k with
         | true=>simp
         | false=>
          rw[cW] at av
          cases e1:AL a0 J a2 k with
          | true=>simp
          | false=>rw[e1] at av;simp at av
       ·rw[zz,Bool.or_false] at uo
        unfold wF;rw[um,uo]
    ·unfold T1 nc
     refine⟨cy bB hi,fun lg=>⟨⟨dp (c9 _),rfl⟩,fun j eN tR=> ?_⟩⟩
     obtain⟨tR,rfl⟩:=tR
     unfold T0 TZ KR nc
     refine⟨fun af=> ?_,fun af=>⟨cy tR af,?_⟩⟩
     ·have aQ:=df (c2 h2) bB hi rfl
      refine⟨⟨aQ.1,?_⟩,aQ.2⟩
      have f_:=cy bB hi
      rw[nh (c2 h2) bB.1 (by simpa using hi),show(i+1).toNat=i.toNat+1 by omega,List.take_succ_eq_append_getElem f_.2,List.flatten_append]
      have iy: ¬j<((nth [(nth a0.O a2).bp,(nth a0.O a2).cv] i).length:Int):=by simpa using af
      have NT:=tR.1
      have a_:(nth [(nth a0.O a2).bp,(nth a0.O a2).cv] i).take j.toNat=nth [(nth a0.O a2).bp,(nth a0.O a2).cv] i:=List.take_of_length_le (by omega)
      rw[a_,h7 f_.2]
      unfold qm
      rw[List.foldl_append]
      simp
     ·have aQ:=df (c2 lg) tR af rfl
      refine⟨⟨aQ.1,?_⟩,aQ.2⟩
      have iy:=cy tR af
      rw[nh (c2 lg) tR.1 (by simpa using af),show(j+1).toNat=j.toNat+1 by omega,List.take_succ_eq_append_getElem iy.2,h7 iy.2]
      unfold qm
      rw[List.foldl_append];rfl
  ·have rl:0≤s∧s<a0.ah:=⟨fc.1,by simpa using hs⟩
   have aQ:=df (N:=a0.ah) (by omega) fc hs rfl
   have s1:=p3 (q:=mc a0 J a2) (N:=a0.ah) (by omega) fc hs
   refine⟨⟨fc.1,by omega⟩,?_⟩
   unfold T4 vo KQ
   rw[xd,xd]
   have vX:((dz (mc a0 J a2) s).length+[s].length)*8≤140737488355328∧(dz (mc a0 J a2) s).length+[s].length≤4611686018427387904:=by
    simp only[List.length_singleton];omega
   refine⟨fun U=>⟨vX,fun av=> ?_,fun av=> ?_⟩,fun U=>⟨⟨hh,aQ.1,s1.2.1 U,?_⟩,aQ.2⟩⟩
   ·refine⟨⟨hh,aQ.1,s1.1 U,?_⟩,aQ.2⟩
    by_cases z:dz (kN a0 J a2) v≠[]
    ·rw[if_pos z] at av;simp at av
    ·rw[if_neg z,if_pos (by simp)]
   ·refine⟨⟨hh,aQ.1,s1.1 U,?_⟩,aQ.2⟩
    by_cases z:dz (kN a0 J a2) v≠[]
    ·rw[if_pos z,if_pos z]
    ·rw[if_neg z,if_neg z]
     rw[if_neg z] at av
     by_cases z2:dz (mc a0 J a2) s≠[]
     ·rw[if_pos z2,if_pos (by simp)]
     ·rw[if_neg z2] at av;simp at av
   ·rfl
 ·have dt:=cy aR hv
  have gx:=cX.len
  have eK:=cX.row a2 au h1
  have aQ:=df (c2 ad) aR hv rfl
  have s1:=p3 (q:=kN a0 J a2) (c2 ad) aR hv
  unfold TU TT KP
  have vX:((dz (kN a0 J a2) v).length+[v].length)*8≤140737488355328∧(dz (kN a0 J a2) v).length+[v].length≤4611686018427387904:=by
   simp only[List.length_singleton];omega
  refine⟨fun _=>⟨⟨dt.1,by omega⟩,fun _=>⟨⟨au,by omega⟩,⟨dt.1,by omega⟩,fun _=>⟨dt,fun _=>dt⟩⟩⟩,fun U=>⟨vX,⟨aQ.1,s1.1 U,by rw[if_pos (by simp)]⟩,aQ.2⟩,fun U=>⟨⟨aQ.1,s1.2.1 U,rfl⟩,aQ.2⟩⟩)
def ahl:cQ Tryz.prog:=⟨42,[.ef,.frame,.int],[.stays,.int],some fun x=>yq x.1 x.2.1 x.2.2.1,fun x=>((qB x.1 x.2.1 x.2.2.1).1,(qB x.1 x.2.1 x.2.2.1).2,()),fun x h=>ahk x.1 x.2.1 x.2.2.1 h⟩
end

end Go.Proofs.YtejmihecgodhnaaGreat.Fw
set_option linter.unusedVariables false
namespace Go.Proofs.YtejmihecgodhnaaGreat.Fw
open Go Go.RowKit
theorem Wm {p:aV} {f:Frame} {k:Int} (ab:yq p f k) {w:World} {v u:Value} (h:V2 (Env.at w) (.agg (bV false p)) v) (h':V2 (Env.at w) (.agg (cg false f)) u):
    Calls Tryz.prog 51 #[v,u,.int .i64 k] w fun e w'=> ∃bD bj bx bc bw a8 L,e= .returned (.tuple #[.agg #[.slice bD (g_ p f k).O.length bj,.slice bx (g_ p f k).ah.length bc,.slice bw (g_ p f k).aq.length a8],.bool (Gi p f k),.bool (JQ p f k)])∧Below w.heap.size w w'∧dR w' (eD w w') (.agg (gk false (g_ p f k))) (.agg #[.slice bD (g_ p f k).O.length bj,.slice bx (g_ p f k).ah.length bc,.slice bw (g_ p f k).aq.length a8])∧jm .int .int .int w' (eD w w') bD bx bw (g_ p f k).O.length bj (g_ p f k).ah.length bc (g_ p f k).aq.length a8 L∧kn L∧L.length=(g_ p f k).O.length+(g_ p f k).ah.length+(g_ p f k).aq.length:=
  qJ.abr (vs:=[v,u,.int .i64 k]) (aas p f k ab) (.cons h (.cons h' (.cons (aL.int _ _) .nil)))
theorem Fp {p:aV} {f:Frame} (ab:qW p f) {w:World} {v u:Value} (h:V2 (Env.at w) (.agg (bV false p)) v) (h':V2 (Env.at w) (.agg (cg false f)) u):
    Calls Tryz.prog 49 #[v,u] w fun e w'=>e= .returned (.bool (hN p f))∧Below w.heap.size w w':=
  aZ.bool (vs:=[v,u]) (aal p f ab) (.cons h (.cons h' .nil))
theorem Mi {i n:Int} {w:World}:
    Calls Tryz.prog 50 #[.int .i64 i,.int .i64 n] w fun e w'=>e= .returned (.bool (lJ i n))∧Below w.heap.size w w':=
  aZ.bool (vs:=[.int .i64 i,.int .i64 n]) (aaM i n) (.cons (aL.int _ _) (.cons (aL.int _ _) .nil))
def sX (s:gB):Nat:=s.O.length+s.ah.length+s.aq.length
theorem V2.below {a:AV} {v:Value} {w w':World} (h:V2 (Env.at w) a v) (hb:Below w.heap.size w w'):V2 (Env.at w') a v:=
  V2.le (E:=Env.at w) (E':=Env.at w') ⟨fun c hc=>Nat.lt_of_lt_of_le hc hb.size,fun _ h=>h.elim,fun c hc=>hb.block c hc,fun _ h=>h.elim,fun _=>Nat.le_refl _,(fun _ _ h _=>by cases h),(fun _ _ h=>by cases h)⟩ h
theorem l5 {w:World} {b:Nat} {bj bc a8:Value} {ty:TypeId} (h:w.heap[b]?=some (.cells #[bj,bc,a8] ty (0,0))):w.cell? ⟨b,0,none⟩=some bj∧w.cell? ⟨b,1,none⟩=some bc∧w.cell? ⟨b,2,none⟩=some a8:=by
  refine⟨?_,?_,?_⟩<;>simp[World.cell?,h]
theorem yS {w:World} {b:Nat} {bj bc a8:Value} {ty:TypeId} (h:w.heap[b]?=some (.cells #[bj,bc,a8] ty (0,0))):w.frozen? ⟨b,0,none⟩=false∧w.frozen? ⟨b,1,none⟩=false∧w.frozen? ⟨b,2,none⟩=false:=by
  refine⟨?_,?_,?_⟩<;>simp[World.frozen?,h]
theorem Fh {w:World} {b o:Nat} {v:Value} (h:(w.cell? ⟨b,o,none⟩).isSome=true):(w.setCell ⟨b,o,none⟩ v).cell? ⟨b,o,none⟩=some v:=by
  obtain⟨u,hu⟩:=Option.isSome_iff_exists.1 h
  exact Fg hu
theorem We {w:World} {b o:Nat} {x:Obj} (h:b<w.heap.size):(w.alloc x).cell? ⟨b,o,none⟩=w.cell? ⟨b,o,none⟩:=
  ((Below.refl w.heap.size w).alloc (Nat.le_refl _) x).cell (p:=⟨b,o,none⟩) h
theorem Dh (w:World) (B:Nat→Prop):dR w B (.agg (gk false ⟨[],[],[]⟩)) (.agg #[.slice none 0 0,.slice none 0 0,.slice none 0 0])∧jm .int .int .int w B none none none 0 0 0 0 0 0 []∧kn []:=by
  have r:bQ (Env.ro w B) (.aJ [] false false) (.slice none 0 0):=aL.aJ (rows:=[]) (PB:=fun _=>False) (sz:=0) (vs:=fun _ _=>undef) (fun _ h=>h.elim) ⟨Nat.zero_le _,Nat.zero_le _⟩ (fun h=>by cases h) (fun i row h=>by simp at h) (fun h=>by simp at h) (fun i j row a h=>by simp at h)
  have s:eb w B (.l .int) 0 0 [] (.slice none 0 0):= .aJ (e:= .int) (n:=0) (Ls:=fun _ _=>[]) (vs:=fun _ _=>undef) 0 0 ⟨Nat.zero_le _,Nat.zero_le _⟩ (fun h=>absurd h (by omega)) (fun i j bT hi _=>by omega)
  exact⟨⟨[.slice none 0 0,.slice none 0 0,.slice none 0 0],rfl,.cons r (.cons r (.cons r .nil))⟩,⟨[],[],[],rfl,s,s,s⟩,List.Pairwise.nil⟩
set_option maxHeartbeats 4000000
set_option maxRecDepth 100000
theorem ah7 (p:aV) (f:Frame) (k:Int) (ab:qW p f) (w:World) (fH fI fJ fK e9 fL:Option Addr) (aA bt bP dQ dI eC:Nat)
    (h1:V2 (Env.at w) (.agg (bV false p)) (.agg #[.int .i64 p.ah,.slice fH p.bf.length aA,.slice fI p.O.length bt,.slice fJ p.bk.length bP,.int .i64 p.cY]))
    (h2:V2 (Env.at w) (.agg (cg false f)) (.agg #[.bool f.ok,.slice fK f.aG.length dQ,.slice e9 f.aq.length dI,.slice fL f.O.length eC])) (hf:(hN p f&&lJ k p.O.length)=false):
    Calls Tryz.prog 11 #[.agg #[.int .i64 p.ah,.slice fH p.bf.length aA,.slice fI p.O.length bt,.slice fJ p.bk.length bP,.int .i64 p.cY],.agg #[.bool f.ok,.slice fK f.aG.length dQ,.slice e9 f.aq.length dI,.slice fL f.O.length eC],.int .i64 k] w fun e w'=> ∃bD bj bx bc bw a8 L,e= .returned (.agg #[.slice bD (⟨[],[],[]⟩:gB).O.length bj,.slice bx (⟨[],[],[]⟩:gB).ah.length bc,.slice bw (⟨[],[],[]⟩:gB).aq.length a8])∧Below w.heap.size w w'∧dR w' (eD w w') (.agg (gk false (⟨[],[],[]⟩:gB))) (.agg #[.slice bD (⟨[],[],[]⟩:gB).O.length bj,.slice bx (⟨[],[],[]⟩:gB).ah.length bc,.slice bw (⟨[],[],[]⟩:gB).aq.length a8])∧jm .int .int .int w' (eD w w') bD bx bw (⟨[],[],[]⟩:gB).O.length bj (⟨[],[],[]⟩:gB).ah.length bc (⟨[],[],[]⟩:gB).aq.length a8 L∧kn L∧L.length=sX (⟨[],[],[]⟩:gB):=by
  cases U:hN p f with
  | true=>
    have hi:lJ k p.O.length=false:=by rw[U] at hf;exact hf
    have yE:=Lib.hid U;clear U
    have tx:=Lib.hid hi;clear hi hf
    have H1:=Lib.hid h1;clear h1
    have ib:=Lib.hid h2;clear h2
    have yD:=Lib.hid ab;clear ab
    have jk:Hid (b9 w (((w.alloc (.cells #[.int .i64 p.ah,.slice fH p.bf.length aA,.slice fI p.O.length bt,.slice fJ p.bk.length bP,.int .i64 p.cY] 39)).alloc (.cells #[.bool f.ok,.slice fK f.aG.length dQ,.slice e9 f.aq.length dI,.slice fL f.O.length eC] 44)).alloc (.cells #[.slice none 0 0,.slice none 0 0,.slice none 0 0] 35)) [dC w.heap.size #[.int .i64 p.ah,.slice fH p.bf.length aA,.slice fI p.O.length bt,.slice fJ p.bk.length bP,.int .i64 p.cY] 39,dC (w.heap.size+1) #[.bool f.ok,.slice fK f.aG.length dQ,.slice e9 f.aq.length dI,.slice fL f.O.length eC] 44,dC (w.heap.size+1+1) #[.slice none 0 0,.slice none 0 0,.slice none 0 0] 35]):=by
      have:=(((b9.start w).box #[.int .i64 p.ah,.slice fH p.bf.length aA,.slice fI p.O.length bt,.slice fJ p.bk.length bP,.int .i64 p.cY] 39).box #[.bool f.ok,.slice fK f.aG.length dQ,.slice e9 f.aq.length dI,.slice fL f.O.length eC] 44).box #[.slice none 0 0,.slice none 0 0,.slice none 0 0] 35
      simp only[World.size_alloc] at this
      exact this
    go_enter Tryz.func11,Tryz.ntmps11
    go_wp2_with (go_at_call 49;refine(Fp yD.out (H1.out.below jk.out.end) (ib.out.below jk.out.end)).mono ?_)
    rw[yE.out]
    first
    | (rintro e bi rfl hb)
    | (rintro e bi ⟨rfl,hb⟩)
    have k2:=Lib.hid (jk.out.below hb);clear hb jk
    obtain⟨bU,q1,q2,q3,q4⟩:=qP (k2.out.get 0)
    go_wp2_with (go_at_call 50;refine(Mi).mono ?_)
    rw[tx.out]
    first
    | (rintro e bA rfl hb)
    | (rintro e bA ⟨rfl,hb⟩)
    have hH:=Lib.hid (k2.out.below hb);clear hb k2 bU q1 q2 q3 q4
    obtain⟨eA,cN,c5⟩:=yS (hH.out.get 2)
    obtain⟨bU,q1,q2⟩:=l5 (hH.out.get 2)
    go_wp2
    (try simp only[Exit.inBlock,Exit.then])
    refine bodyPost_ret (by simp[results,Tryz.results11,go_sem,Fh,bU,q1,q2];try rfl) rfl ?_
    exact⟨none,0,none,0,none,0,[],rfl,((hH.out.end.setCell (by show w.heap.size≤w.heap.size+1+1;omega) _).setCell (by show w.heap.size≤w.heap.size+1+1;omega) _).setCell (by show w.heap.size≤w.heap.size+1+1;omega) _,(Dh _ _).1,(Dh _ _).2.1,List.Pairwise.nil,rfl⟩
  | false=>
    clear hf
    have yE:=Lib.hid U;clear U
    have H1:=Lib.hid h1;clear h1
    have ib:=Lib.hid h2;clear h2
    have yD:=Lib.hid ab;clear ab
    have jk:Hid (b9 w (((w.alloc (.cells #[.int .i64 p.ah,.slice fH p.bf.length aA,.slice fI p.O.length bt,.slice fJ p.bk.length bP,.int .i64 p.cY] 39)).alloc (.cells #[.bool f.ok,.slice fK f.aG.length dQ,.slice e9 f.aq.length dI,.slice fL f.O.length eC] 44)).alloc (.cells #[.slice none 0 0,.slice none 0 0,.slice none 0 0] 35)) [dC w.heap.size #[.int .i64 p.ah,.slice fH p.bf.length aA,.slice fI p.O.length bt,.slice fJ p.bk.length bP,.int .i64 p.cY] 39,dC (w.heap.size+1) #[.bool f.ok,.slice fK f.aG.length dQ,.slice e9 f.aq.length dI,.slice fL f.O.length eC] 44,dC (w.heap.size+1+1) #[.slice none 0 0,.slice none 0 0,.slice none 0 0] 35]):=by
      have:=(((b9.start w).box #[.int .i64 p.ah,.slice fH p.bf.length aA,.slice fI p.O.length bt,.slice fJ p.bk.length bP,.int .i64 p.cY] 39).box #[.bool f.ok,.slice fK f.aG.length dQ,.slice e9 f.aq.length dI,.slice fL f.O.length eC] 44).box #[.slice none 0 0,.slice none 0 0,.slice none 0 0] 35
      simp only[World.size_alloc] at this
      exact this
    go_enter Tryz.func11,Tryz.ntmps11
    go_wp2_with (go_at_call 49;refine(Fp yD.out (H1.out.below jk.out.end) (ib.out.below jk.out.end)).mono ?_)
    rw[yE.out]
    first
    | (rintro e bi rfl hb)
    | (rintro e bi ⟨rfl,hb⟩)
    have hH:=Lib.hid (jk.out.below hb);clear hb jk
    obtain⟨eA,cN,c5⟩:=yS (hH.out.get 2)
    obtain⟨bU,q1,q2⟩:=l5 (hH.out.get 2)
    go_wp2
    (try simp only[Exit.inBlock,Exit.then])
    refine bodyPost_ret (by simp[results,Tryz.results11,go_sem,Fh,bU,q1,q2];try rfl) rfl ?_
    exact⟨none,0,none,0,none,0,[],rfl,((hH.out.end.setCell (by show w.heap.size≤w.heap.size+1+1;omega) _).setCell (by show w.heap.size≤w.heap.size+1+1;omega) _).setCell (by show w.heap.size≤w.heap.size+1+1;omega) _,(Dh _ _).1,(Dh _ _).2.1,List.Pairwise.nil,rfl⟩
theorem ah8 (p:aV) (f:Frame) (k:Int) (ab:qW p f) (w:World) (fH fI fJ fK e9 fL:Option Addr) (aA bt bP dQ dI eC:Nat)
    (h1:V2 (Env.at w) (.agg (bV false p)) (.agg #[.int .i64 p.ah,.slice fH p.bf.length aA,.slice fI p.O.length bt,.slice fJ p.bk.length bP,.int .i64 p.cY]))
    (h2:V2 (Env.at w) (.agg (cg false f)) (.agg #[.bool f.ok,.slice fK f.aG.length dQ,.slice e9 f.aq.length dI,.slice fL f.O.length eC])) (hw:yq p f k) (U:hN p f=true) (hi:lJ k p.O.length=true):
    Calls Tryz.prog 11 #[.agg #[.int .i64 p.ah,.slice fH p.bf.length aA,.slice fI p.O.length bt,.slice fJ p.bk.length bP,.int .i64 p.cY],.agg #[.bool f.ok,.slice fK f.aG.length dQ,.slice e9 f.aq.length dI,.slice fL f.O.length eC],.int .i64 k] w fun e w'=> ∃bD bj bx bc bw a8 L,e= .returned (.agg #[.slice bD (g_ p f k).O.length bj,.slice bx (g_ p f k).ah.length bc,.slice bw (g_ p f k).aq.length a8])∧Below w.heap.size w w'∧dR w' (eD w w') (.agg (gk false (g_ p f k))) (.agg #[.slice bD (g_ p f k).O.length bj,.slice bx (g_ p f k).ah.length bc,.slice bw (g_ p f k).aq.length a8])∧jm .int .int .int w' (eD w w') bD bx bw (g_ p f k).O.length bj (g_ p f k).ah.length bc (g_ p f k).aq.length a8 L∧kn L∧L.length=sX (g_ p f k):=by
  have yE:=Lib.hid U;clear U
  have tx:=Lib.hid hi;clear hi
  have ic:=Lib.hid hw;clear hw
  have H1:=Lib.hid h1;clear h1
  have ib:=Lib.hid h2;clear h2
  have yD:=Lib.hid ab;clear ab
  have jk:Hid (b9 w (((w.alloc (.cells #[.int .i64 p.ah,.slice fH p.bf.length aA,.slice fI p.O.length bt,.slice fJ p.bk.length bP,.int .i64 p.cY] 39)).alloc (.cells #[.bool f.ok,.slice fK f.aG.length dQ,.slice e9 f.aq.length dI,.slice fL f.O.length eC] 44)).alloc (.cells #[.slice none 0 0,.slice none 0 0,.slice none 0 0] 35)) [dC w.heap.size #[.int .i64 p.ah,.slice fH p.bf.length aA,.slice fI p.O.length bt,.slice fJ p.bk.length bP,.int .i64 p.cY] 39,dC (w.heap.size+1) #[.bool f.ok,.slice fK f.aG.length dQ,.slice e9 f.aq.length dI,.slice fL f.O.length eC] 44,dC (w.heap.size+1+1) #[.slice none 0 0,.slice none 0 0,.slice none 0 0] 35]):=by
    have:=(((b9.start w).box #[.int .i64 p.ah,.slice fH p.bf.length aA,.slice fI p.O.length bt,.slice fJ p.bk.length bP,.int .i64 p.cY] 39).box #[.bool f.ok,.slice fK f.aG.length dQ,.slice e9 f.aq.length dI,.slice fL f.O.length eC] 44).box #[.slice none 0 0,.slice none 0 0,.slice none 0 0] 35
    simp only[World.size_alloc] at this
    exact this
  go_enter Tryz.func11,Tryz.ntmps11
  go_wp2_with (go_at_call 49;refine(Fp yD.out (H1.out.below jk.out.end) (ib.out.below jk.out.end)).mono ?_)
  rw[yE.out]
  first
  | (rintro e bi rfl hb)
  | (rintro e bi ⟨rfl,hb⟩)
  have k2:=Lib.hid (jk.out.below hb);clear hb jk
  obtain⟨bU,q1,q2,q3,q4⟩:=qP (k2.out.get 0)
  go_wp2_with (go_at_call 50;refine(Mi).mono ?_)
  rw[tx.out]
  first
  | (rintro e bA rfl hb)
  | (rintro e bA ⟨rfl,hb⟩)
  have hH:=Lib.hid (k2.out.below hb);clear hb k2 bU q1 q2 q3 q4
  obtain⟨bU,q1,q2,q3,q4⟩:=qP (hH.out.get 0)
  obtain⟨eA,cN,c5,fs⟩:=sk (hH.out.get 1)
  go_wp2_with (go_at_call 51;refine(Wm ic.out (H1.out.below hH.out.end) (ib.out.below hH.out.end)).mono ?_)
  first
  | (rintro e cO bD bj bx bc bw a8 L rfl hb a_ hf aO ao)
  | (rintro e cO ⟨bD,bj,bx,bc,bw,a8,L,rfl,hb,a_,hf,aO,ao⟩)
  clear bU q1 q2 q3 q4 eA cN c5 fs
  have yB:=Lib.hid (hH.out.below hb)
  have mE:=Lib.hid hb;clear hb
  have tA:=Lib.hid a_;clear a_
  have U4:=Lib.hid hf;clear hf
  have U8:Hid (w.heap.size+1+1<bA.heap.size):=hH.out.BC 2 rfl
  have av:w.heap.size+1+1<cO.heap.size:=yB.out.BC 2 rfl
  obtain⟨eA,cN,c5⟩:=yS (yB.out.get 2)
  obtain⟨bU,q1,q2⟩:=l5 (yB.out.get 2)
  go_wp2
  (try simp only[Exit.inBlock,Exit.then])
  refine bodyPost_ret (by simp[results,Tryz.results11,go_sem,Fh,We,av,bU,q1,q2];try rfl) rfl ?_
  have hk: ∀x:Obj,∀v0 v1 v2:Value,∀c,eD bA cO c→((((cO.setCell ⟨w.heap.size+1+1,0,none⟩ v0).setCell ⟨w.heap.size+1+1,1,none⟩ v1).setCell ⟨w.heap.size+1+1,2,none⟩ v2).alloc x).heap[c]?=cO.heap[c]?:=fun x v0 v1 v2 c hc=>by
    have bN:c≠w.heap.size+1+1:=by have:=hc.1;have:=U8.out;omega
    have:=((Below.refl (((cO.setCell ⟨w.heap.size+1+1,0,none⟩ v0).setCell ⟨w.heap.size+1+1,1,none⟩ v1).setCell ⟨w.heap.size+1+1,2,none⟩ v2).heap.size _).alloc (Nat.le_refl _) x).block c (by simp only[World.size_setCell];exact hc.2.1)
    rw[this,Below.heap_setCell _ _ _ _ bN,Below.heap_setCell _ _ _ _ bN,Below.heap_setCell _ _ _ _ bN]
  have ad: ∀x:Obj,∀v0 v1 v2:Value,∀c,eD bA cO c→eD w ((((cO.setCell ⟨w.heap.size+1+1,0,none⟩ v0).setCell ⟨w.heap.size+1+1,1,none⟩ v1).setCell ⟨w.heap.size+1+1,2,none⟩ v2).alloc x) c:=fun x v0 v1 v2 c hc=>by
    refine⟨Nat.le_trans hH.out.size hc.1,?_,hc.2.2.same (hk x v0 v1 v2 c hc)⟩
    simp only[World.size_alloc,World.size_setCell]
    exact Nat.lt_succ_of_lt hc.2.1
  exact⟨bD,bj,bx,bc,bw,a8,L,rfl,(((yB.out.end.setCell (by show w.heap.size≤w.heap.size+1+1;omega) _).setCell (by show w.heap.size≤w.heap.size+1+1;omega) _).setCell (by show w.heap.size≤w.heap.size+1+1;omega) _).alloc (by simp only[World.size_setCell];exact yB.out.size) _,tA.out.cM (hk _ _ _ _) (ad _ _ _ _),U4.out.cM (hk _ _ _ _) (ad _ _ _ _),aO,ao⟩
theorem Mh {p:aV} {f:Frame} {k:Int} {s:gB} (hs:lZ p f k=s) (ab:qW p f) {w:World} {v u:Value} (h1:V2 (Env.at w) (.agg (bV false p)) v) (h2:V2 (Env.at w) (.agg (cg false f)) u):
    Calls Tryz.prog 11 #[v,u,.int .i64 k] w fun e w'=> ∃bD bj bx bc bw a8 L,e= .returned (.agg #[.slice bD s.O.length bj,.slice bx s.ah.length bc,.slice bw s.aq.length a8])∧Below w.heap.size w w'∧dR w' (eD w w') (.agg (gk false s)) (.agg #[.slice bD s.O.length bj,.slice bx s.ah.length bc,.slice bw s.aq.length a8])∧jm .int .int .int w' (eD w w') bD bx bw s.O.length bj s.ah.length bc s.aq.length a8 L∧kn L∧L.length=sX s:=by
  subst hs
  have t1:dR w (fun c=>c<w.heap.size) (.agg (bV false p)) v:=h1
  have t2:dR w (fun c=>c<w.heap.size) (.agg (cg false f)) u:=h2
  obtain⟨fH,aA,fI,bt,fJ,bP,rfl,_⟩:=Eo t1
  obtain⟨fK,dQ,e9,dI,fL,eC,rfl,_⟩:=En t2
  cases hb:hN p f&&lJ k p.O.length with
  | false=>
    have e:lZ p f k=⟨[],[],[]⟩:=by unfold lZ;rw[hb];rfl
    rw[e]
    exact ah7 p f k ab w fH fI fJ fK e9 fL aA bt bP dQ dI eC h1 h2 hb
  | true=>
    have e:lZ p f k=g_ p f k:=by unfold lZ;rw[hb];rfl
    rw[e]
    rw[Bool.and_eq_true] at hb
    have hi:=Ir.1 hb.2
    exact ah8 p f k ab w fH fI fJ fK e9 fL aA bt bP dQ dI eC h1 h2 ⟨Ce hb.1,hi.1,hi.2⟩ hb.1 hb.2
theorem VL (p:aV) (f:Frame) (k:Int):sX (lZ p f k)≤1000000:=by
  unfold lZ
  split
  · rename_i h
    rw[Bool.and_eq_true] at h
    have dY:=Dx (Ce h.1).nx
    have h1:=dY.cG
    have h2:=dY.bd
    have ay:=dY.O
    have kd:=o0 (kN p f k) p.O.length
    have hB:=o0 (mc p f k) p.ah
    have C4:=o0 (j9 p f k) p.bf.length
    show(dz _ _).length+(dz _ _).length+(dz _ _).length≤_
    omega
  · exact Nat.zero_le _
open Go Go.RowKit
set_option maxHeartbeats 1000000
theorem ahL (w:World) (S:Nat→Prop) (bD bx bw:Option Addr) (bM bj cb bc n2 a8:Nat) (eU fy gL:dO) (k:Int) (mH:eb w S (.l .int) 0 0 eU (.slice bD bM bj)) (l1:eb w S (.l .int) 0 0 fy (.slice bx cb bc)) (ni:eb w S (.l .int) 0 0 gL (.slice bw n2 a8)) (h0:kn (eU++fy++gL)) (au:0≤k) (h1:k+(eU.length:Nat)+(fy.length:Nat)+(gL.length:Nat)≤4611686018427387904):
    Calls Tryz.prog 17 #[.agg #[.slice bD bM bj,.slice bx cb bc,.slice bw n2 a8],.int .i64 k] w fun iR w'=>iR= .returned (.int .i64 (k+(eU.length:Nat)+(fy.length:Nat)+(gL.length:Nat)))∧jl w w' S (eU++fy++gL) k:=by
  have ic:Hid (dh S w (w.alloc (.cells #[.slice bD bM bj,.slice bx cb bc,.slice bw n2 a8] 35))):=dh.below ((Below.refl _ _).alloc (Nat.le_refl _) _)
  have vH:Hid (Below w.heap.size w (w.alloc (.cells #[.slice bD bM bj,.slice bx cb bc,.slice bw n2 a8] 35))):=(Below.refl _ _).alloc (Nat.le_refl _) _
  have pO:Hid ((w.alloc (.cells #[.slice bD bM bj,.slice bx cb bc,.slice bw n2 a8] 35)).heap[w.heap.size]?=some (.cells #[.slice bD bM bj,.slice bx cb bc,.slice bw n2 a8] 35 (0,0))):=n8 _ _
  have gI:=Lib.hid mH;clear mH
  have gJ:=Lib.hid l1;clear l1
  have fX:=Lib.hid ni;clear ni
  have yG:=Lib.hid h0;clear h0
  go_enter Tryz.func17,Tryz.ntmps17
  have mF:Hid (0≤k∧k+(eU.length:Nat)≤4611686018427387904):=by unfold Hid;omega
  go_wp2_with (go_at_call 58;refine(K1 _ S eU _ _ (gI.out.fv ic.out) yG.out.left.left mF.out.1 mF.out.2).mono ?_)
  first
  | (rintro e bi rfl hb)
  | (rintro e bi ⟨rfl,hb⟩)
  have ls:=Lib.hid hb;clear hb
  have o_:bi.cell? ⟨w.heap.size,1,none⟩=some (.slice bx cb bc):=ls.out.fv.head pO.out rfl
  have mG:Hid (0≤k+(eU.length:Nat)∧k+(eU.length:Nat)+(fy.length:Nat)≤4611686018427387904):=by unfold Hid;omega
  go_wp2_with (go_at_call 58;refine(K1 _ S fy _ _ (gJ.out.fv (ic.out.trans ls.out.fv)) yG.out.left.right mG.out.1 mG.out.2).mono ?_)
  first
  | (rintro e bA rfl hb)
  | (rintro e bA ⟨rfl,hb⟩)
  have lu:=Lib.hid (ls.out.l6 hb yG.out.left rfl);clear hb o_
  have q6:bA.cell? ⟨w.heap.size,2,none⟩=some (.slice bw n2 a8):=lu.out.fv.head pO.out rfl
  have k1:Hid (0≤k+(eU.length:Nat)+(fy.length:Nat)∧k+(eU.length:Nat)+(fy.length:Nat)+(gL.length:Nat)≤4611686018427387904):=by unfold Hid;omega
  go_wp2_with (go_at_call 58;refine(K1 _ S gL _ _ (fX.out.fv (ic.out.trans lu.out.fv)) yG.out.right k1.out.1 k1.out.2).mono ?_)
  first
  | (rintro e cO rfl hb)
  | (rintro e cO ⟨rfl,hb⟩)
  have tz:=Lib.hid (lu.out.l6 hb yG.out (by rw[List.length_append];omega));clear hb q6
  go_wp2
  go_ret
  exact⟨rfl,.below vH.out tz.out⟩
theorem Y0 (w:World) (S:Nat→Prop) (bD bx bw:Option Addr) (bM bj cb bc n2 a8:Nat) (eU fy gL:dO) (k:Int) (mH:eb w S (.l .int) 0 0 eU (.slice bD bM bj)) (l1:eb w S (.l .int) 0 0 fy (.slice bx cb bc)) (ni:eb w S (.l .int) 0 0 gL (.slice bw n2 a8)) (hm:fz w (eU++fy++gL) k) (au:0≤k) (h1:k+(eU.length:Nat)+(fy.length:Nat)+(gL.length:Nat)≤4611686018427387904):
    Calls Tryz.prog 18 #[.agg #[.slice bD bM bj,.slice bx cb bc,.slice bw n2 a8],.int .i64 k] w fun iR w'=>iR= .returned (.int .i64 (k+(eU.length:Nat)+(fy.length:Nat)+(gL.length:Nat)))∧Below w.heap.size w w':=by
  have vH:Hid (Below w.heap.size w (w.alloc (.cells #[.slice bD bM bj,.slice bx cb bc,.slice bw n2 a8] 35))):=(Below.refl _ _).alloc (Nat.le_refl _) _
  have pO:Hid ((w.alloc (.cells #[.slice bD bM bj,.slice bx cb bc,.slice bw n2 a8] 35)).heap[w.heap.size]?=some (.cells #[.slice bD bM bj,.slice bx cb bc,.slice bw n2 a8] 35 (0,0))):=n8 _ _
  have gI:=Lib.hid mH;clear mH
  have gJ:=Lib.hid l1;clear l1
  have fX:=Lib.hid ni;clear ni
  obtain⟨hm,lg⟩:=fz.vR.1 hm
  obtain⟨ra,CD⟩:=fz.vR.1 hm
  clear hm
  rw[List.length_append,show k+((eU.length+fy.length:Nat):Int)=k+(eU.length:Nat)+(fy.length:Nat) by omega] at lg
  have UX:=Lib.hid ra;clear ra
  have UY:=Lib.hid CD;clear CD
  have UZ:=Lib.hid lg;clear lg
  have yw:Hid (∀(L:dO) (k:Int) (w':World),Below w.heap.size w w'→fz w L k→fz w' L k):=fun L k w' hb h=>h.cM fun x hx ⟨u,hu⟩=>by simp only[World.cell?,hb.block _ (Md hu)]
  have EG:Hid (∀{w':World},Below w.heap.size w w'→ ∀{e:aH} {L:dO} {v:Value},eb w S e 0 0 L v→eb w' S e 0 0 L v):=fun hb _ _ _ h=>h.fv (S':=S) (dh.below hb)
  have oS:Hid ((w.alloc (.cells #[.slice bD bM bj,.slice bx cb bc,.slice bw n2 a8] 35)).heap.size=w.heap.size+1):=by unfold Hid;simp
  go_enter Tryz.func18,Tryz.ntmps18
  have mF:Hid (0≤k∧k+(eU.length:Nat)≤4611686018427387904):=by unfold Hid;omega
  have g1:decide (k+(eU.length:Nat)<0)=false:=decide_eq_false (by omega)
  have g2:decide (k+(eU.length:Nat)+(fy.length:Nat)<0)=false:=decide_eq_false (by omega)
  have g3:decide (k+(eU.length:Nat)+(fy.length:Nat)+(gL.length:Nat)<0)=false:=decide_eq_false (by omega)
  go_wp2_with (go_at_call 64;go_loud (refine(GS _ S eU (.slice bD bM bj) k (EG.out vH.out gI.out) (yw.out eU k _ vH.out UX.out) mF.out.1 mF.out.2).mono ?_))
  first
  | (rintro e bi rfl hb)
  | (rintro e bi ⟨rfl,hb⟩)
  have nF:bi.heap[w.heap.size]?=some (.cells #[.slice bD bM bj,.slice bx cb bc,.slice bw n2 a8] 35 (0,0)):=(hb.block _ (by rw[oS.out];omega)).trans pO.out
  have ez:w.heap.size<bi.heap.size:=Nat.lt_of_lt_of_le (by rw[oS.out];omega) hb.size
  have Ly:=Lib.hid nF;clear nF
  have yF:=Lib.hid ez;clear ez
  have ls:=Lib.hid (vH.out.trans (hb.mono vH.out.size));clear hb
  obtain⟨-,o_,-⟩:=l5 Ly.out
  have mG:Hid (0≤k+(eU.length:Nat)∧k+(eU.length:Nat)+(fy.length:Nat)≤4611686018427387904):=by unfold Hid;omega
  go_wp2_with (go_at_call 64;refine(GS _ S fy _ _ (EG.out ls.out gJ.out) (yw.out _ _ _ ls.out UY.out) mG.out.1 mG.out.2).mono ?_)
  first
  | (rintro e bA rfl hb)
  | (rintro e bA ⟨rfl,hb⟩)
  have Oe:bA.heap[w.heap.size]?=some (.cells #[.slice bD bM bj,.slice bx cb bc,.slice bw n2 a8] 35 (0,0)):=(hb.block _ yF.out).trans Ly.out
  have U7:=Lib.hid Oe;clear Oe
  have lu:=Lib.hid (ls.out.trans (hb.mono ls.out.size));clear hb o_
  obtain⟨-,-,q6⟩:=l5 U7.out
  have k1:Hid (0≤k+(eU.length:Nat)+(fy.length:Nat)∧k+(eU.length:Nat)+(fy.length:Nat)+(gL.length:Nat)≤4611686018427387904):=by unfold Hid;omega
  go_wp2_with (go_at_call 64;refine(GS _ S gL _ _ (EG.out lu.out fX.out) (yw.out _ _ _ lu.out UZ.out) k1.out.1 k1.out.2).mono ?_)
  first
  | (rintro e cO rfl hb)
  | (rintro e cO ⟨rfl,hb⟩)
  have tz:=Lib.hid (lu.out.trans (hb.mono lu.out.size));clear hb q6
  go_wp2
  go_ret
  exact⟨rfl,tz.out⟩
end Go.Proofs.YtejmihecgodhnaaGreat.Fw
set_option linter.unusedVariables false
set_option maxRecDepth 100000
set_option maxHeartbeats 4000000
set_option linter.unusedSimpArgs false
namespace Go.Proofs.YtejmihecgodhnaaGreat.Fw
open Go
attribute [local irreducible] evS evSD WpS Weak Oper.looksAt
def agu (a0:aV) (J:Frame) (a2:Int) (aa:gB):Prop:=
  ((qW a0 J)∧(((!(hN a0 J)) || (!(cc a2 0 (IntKind.i64.wrap ((a0.O.length:Int) - 1)))))=true→([]=aa.O)∧([]=aa.ah)∧([]=aa.aq)))∧((!((!(hN a0 J)) || (!(cc a2 0 (IntKind.i64.wrap ((a0.O.length:Int) - 1))))))=true→(yq a0 J a2)∧((((qB a0 J a2).1).O=aa.O)∧(((qB a0 J a2).1).ah=aa.ah)∧(((qB a0 J a2).1).aq=aa.aq)))
def S4 (a0:aV) (J:Frame) (a2:Int) (aa:gB):Prop:=
 agu a0 J a2 aa
theorem agv (a0:aV) (J:Frame) (a2:Int) (ab:Gn a0 J a2):aZ Tryz.prog 8 [.agg (bV false a0),.agg (cg false J),aE a2] (.agg (gk true (lZ a0 J a2))):=(fun(h:S4 a0 J a2 (lZ a0 J a2))=>aZ.run (ps:=[.ef,.frame,.int]) (rs:=[.stays]) (x:=(a0,J,a2,())) (r:=((lZ a0 J a2),())) ⟨31,cH,[agy,AO,ahl]⟩ ⟨[],[],[],[],[]⟩ .nil Tryz.func8 h) (by
 unfold S4
 have key:hN a0 J=true→cc a2 0 (IntKind.i64.wrap ((a0.O.length:Int) - 1))=lJ a2 a0.O.length:=fun h=>by
  have:=(Ce h).in.O
  rw[ji (by omega) (by omega),abt]
 refine⟨⟨ab,fun h=> ?_⟩,fun h=> ?_⟩
 ·unfold lZ
  cases U:hN a0 J with
  | false=>exact⟨rfl,rfl,rfl⟩
  | true=>
   rw[U,key U] at h
   have:lJ a2 a0.O.length=false:=by simpa using h
   rw[this];exact⟨rfl,rfl,rfl⟩
 ·have h:hN a0 J=true∧cc a2 0 (IntKind.i64.wrap ((a0.O.length:Int) - 1))=true:=by simpa using h
  rw[key h.1] at h
  refine⟨⟨Ce h.1,(Ir.1 h.2).1,(Ir.1 h.2).2⟩,?_⟩
  unfold lZ;rw[h.1,h.2];exact⟨rfl,rfl,rfl⟩)
section
variable (a0 J:gB) (aa:Bool)
def P2:Prop:=
 ((!(eqv a0.O J.O))=true→false=aa)∧((!(!(eqv a0.O J.O)))=true→((!(eqv a0.ah J.ah))=true→false=aa)∧((!(!(eqv a0.ah J.ah)))=true→((!(eqv a0.aq J.aq))=true→false=aa)∧((!(!(eqv a0.aq J.aq)))=true→true=aa)))
theorem ace:aZ Tryz.prog 12 [.agg (gk false a0),.agg (gk false J)] (aF (eqv a0 J)):=(fun(h:P2 a0 J (eqv a0 J))=>aZ.run (ps:=[.stays,.stays]) (rs:=[.bool]) (x:=(a0,J,())) (r:=((eqv a0 J),())) ⟨23,cH,[IB]⟩ ⟨[],[],[],[],[]⟩ .nil Tryz.func12 h) (by
 unfold P2
 obtain⟨a,b,c⟩:=a0
 obtain⟨gi,bH,b8⟩:=J
 simp[eqv]
 intros
 simp_all)
end
end Go.Proofs.YtejmihecgodhnaaGreat.Fw
set_option linter.unusedVariables false
namespace Go.Proofs.YtejmihecgodhnaaGreat.Fw
open Go Go.RowKit
set_option maxHeartbeats 1000000
set_option maxRecDepth 100000
open Go Go.RowKit
set_option linter.unusedSimpArgs false
open Go Go.RowKit
theorem ahR {s:gB} {w:World} {B:Nat→Prop} {v:Value} (h:dR w B (.agg (gk false s)) v): ∃bD bj bx bc bw a8,v= .agg #[.slice bD s.O.length bj,.slice bx s.ah.length bc,.slice bw s.aq.length a8]:=by
  obtain⟨vs,rfl,ab⟩:=(show ∃vs:List Value,v= .agg vs.toArray∧az (bQ (Env.ro w B)) (gk false s) vs from h)
  obtain⟨b,vs,rfl,hb,ab⟩:=ab.cons_inv
  obtain⟨c,vs,rfl,hc,ab⟩:=ab.cons_inv
  obtain⟨d,vs,rfl,aO,ab⟩:=ab.cons_inv
  obtain rfl:=ab.mj
  obtain⟨bD,bj,rfl,eA⟩:=r6 (jD hb)
  obtain⟨bx,bc,rfl,cN⟩:=r6 (jD hc)
  obtain⟨bw,a8,rfl,c5⟩:=r6 (jD aO)
  simp only[List.length_map]
  exact⟨bD,bj,bx,bc,bw,a8,rfl⟩
theorem Wq {p:aV} {f:Frame} {k:Int} {s:gB} (hs:lZ p f k=s) (ab:Gn p f k) {w:World} {v u:Value} (h:V2 (Env.at w) (.agg (bV false p)) v) (h':V2 (Env.at w) (.agg (cg false f)) u):
    Calls Tryz.prog 8 #[v,u,.int .i64 k] w fun e w'=> ∃bD bj bx bc bw a8,e= .returned (.agg #[.slice bD s.O.length bj,.slice bx s.ah.length bc,.slice bw s.aq.length a8])∧Below w.heap.size w w'∧dR w' (eD w w') (.agg (gk false s)) (.agg #[.slice bD s.O.length bj,.slice bx s.ah.length bc,.slice bw s.aq.length a8]):=by
  subst hs
  refine(aZ.A1 (e:= .stays) (x:=lZ p f k) (vs:=[v,u,.int .i64 k]) (agv p f k ab) (.cons h (.cons h' (.cons (aL.int _ _) .nil)))).mono ?_
  rintro e w' ⟨d_,h1,h2,ay⟩
  obtain⟨bD,bj,bx,bc,bw,a8,rfl⟩:=ahR ay
  exact⟨bD,bj,bx,bc,bw,a8,h1,h2,ay⟩
theorem Fo {s:gB} {w:World} {v u:Value} (h:V2 (Env.at w) (.agg (gk false s)) v) (k:V2 (Env.at w) (.agg (gk false s)) u):
    Calls Tryz.prog 12 #[v,u] w fun e w'=>e= .returned (.bool true)∧Below w.heap.size w w':=by
  have:=aZ.bool (vs:=[v,u]) (ace s s) (.cons h (.cons k .nil))
  unfold eqv at this
  rw[decide_eq_true rfl] at this
  exact this
theorem Wp {w:World} {S:Nat→Prop} {bD bx bw:Option Addr} {bM bj cb bc n2 a8:Nat} {L:dO} {k:Int} (h:jm .int .int .int w S bD bx bw bM bj cb bc n2 a8 L) (aO:kn L) (au:0≤k) (h1:k+(L.length:Nat)≤4611686018427387904):
    Calls Tryz.prog 17 #[.agg #[.slice bD bM bj,.slice bx cb bc,.slice bw n2 a8],.int .i64 k] w fun e w'=>e= .returned (.int .i64 (k+(L.length:Nat)))∧jl w w' S L k:=by
  obtain⟨eU,fy,gL,rfl,eB,s1,s2⟩:=h
  have ax:k+((eU++fy++gL).length:Nat)=k+(eU.length:Nat)+(fy.length:Nat)+(gL.length:Nat):=by rw[List.length_append,List.length_append];omega
  rw[ax] at h1 ⊢
  exact ahL w S bD bx bw bM bj cb bc n2 a8 eU fy gL k eB s1 s2 aO au h1
theorem Mg {w:World} {S:Nat→Prop} {bD bx bw:Option Addr} {bM bj cb bc n2 a8:Nat} {L:dO} {k:Int} (h:jm .int .int .int w S bD bx bw bM bj cb bc n2 a8 L∧fz w L k) (au:0≤k) (h1:k+(L.length:Nat)≤4611686018427387904):
    Calls Tryz.prog 18 #[.agg #[.slice bD bM bj,.slice bx cb bc,.slice bw n2 a8],.int .i64 k] w fun e w'=>e= .returned (.int .i64 (k+(L.length:Nat)))∧Below w.heap.size w w':=by
  obtain⟨⟨eU,fy,gL,rfl,eB,s1,s2⟩,hm⟩:=h
  have ax:k+((eU++fy++gL).length:Nat)=k+(eU.length:Nat)+(fy.length:Nat)+(gL.length:Nat):=by rw[List.length_append,List.length_append];omega
  rw[ax] at h1 ⊢
  exact Y0 w S bD bx bw bM bj cb bc n2 a8 eU fy gL k eB s1 s2 hm au h1
set_option maxHeartbeats 4000000
theorem abG (p:aV) (f:Frame) (k:Int) (W:World) (eV eW eX cC cA cT:Option Addr) (a0 J a2 b0 b1 b2 d0 d1 d2 ci ax e2:Nat) (ps fq:Int) (ok:Bool) (s:gB) (N8:lZ p f k=s)
    (h1:dR W (fun c=>c<W.heap.size) (.agg (bV false p)) (.agg #[.int .i64 ps,.slice eV a0 d0,.slice eW J d1,.slice eX a2 d2,.int .i64 fq]))
    (h2:dR W (fun c=>c<W.heap.size) (.agg (cg false f)) (.agg #[.bool ok,.slice cC b0 ci,.slice cA b1 ax,.slice cT b2 e2]))
    (sA:sX s≤1000000) (hs:kw p≤1048576) (sC:kw p+o3 f≤1048576):
    Calls Tryz.prog 3 #[.agg #[.int .i64 ps,.slice eV a0 d0,.slice eW J d1,.slice eX a2 d2,.int .i64 fq],.agg #[.bool ok,.slice cC b0 ci,.slice cA b1 ax,.slice cT b2 e2],.int .i64 k] W fun e w'=>e= .returned (.bool true)∧Below W.heap.size W w':=by
  have yx:Hid (b9 W W [hz W.heap.size (.agg (bV false p)) (.agg #[.int .i64 ps,.slice eV a0 d0,.slice eW J d1,.slice eX a2 d2,.int .i64 fq]) (.agg (cg false f)) (.agg #[.bool ok,.slice cC b0 ci,.slice cA b1 ax,.slice cT b2 e2])]):=(b9.start W).add (hz W.heap.size _ _ _ _) (Nat.le_refl _) ⟨h1,h2⟩ (fun j h=>by cases h)
  have jk:Hid (b9 W ((W.alloc (.cells #[.int .i64 ps,.slice eV a0 d0,.slice eW J d1,.slice eX a2 d2,.int .i64 fq] 26)).alloc (.cells #[.bool ok,.slice cC b0 ci,.slice cA b1 ax,.slice cT b2 e2] 31)) [hz W.heap.size (.agg (bV false p)) (.agg #[.int .i64 ps,.slice eV a0 d0,.slice eW J d1,.slice eX a2 d2,.int .i64 fq]) (.agg (cg false f)) (.agg #[.bool ok,.slice cC b0 ci,.slice cA b1 ax,.slice cT b2 e2]),dC W.heap.size #[.int .i64 ps,.slice eV a0 d0,.slice eW J d1,.slice eX a2 d2,.int .i64 fq] 26,dC (W.heap.size+1) #[.bool ok,.slice cC b0 ci,.slice cA b1 ax,.slice cT b2 e2] 31]):=by
    have:=(yx.out.box #[.int .i64 ps,.slice eV a0 d0,.slice eW J d1,.slice eX a2 d2,.int .i64 fq] 26).box #[.bool ok,.slice cC b0 ci,.slice cA b1 ax,.slice cT b2 e2] 31
    rw[World.size_alloc] at this
    exact this
  clear yx h1 h2
  have kj:pI p 1048576=1048576 - kw p:=by unfold pI eO;rw[if_neg (by omega)]
  have z2:r5 f (1048576 - kw p)=1048576 - kw p - o3 f:=by unfold r5 eO;rw[if_neg (by omega)]
  obtain⟨z,qf⟩: ∃y:Int,(1048576:Int) - kw p=y:=⟨_,rfl⟩
  obtain⟨ait,sF⟩: ∃y:Int,z - o3 f=y:=⟨_,rfl⟩
  rw[qf] at kj z2
  rw[sF] at z2
  have e9:Hid (0≤z∧z≤1048576):=by unfold Hid;omega
  have yL:=Lib.hid kj;clear kj
  have Z2:=Lib.hid z2;clear z2
  have Bn:Hid (JZ p):=hs
  have vO:Hid (D2 f):=(show o3 f≤1048576 by omega)
  have kY:Hid (Gn p f k):=SZ vO.out
  have Lt:Hid (qW p f):=SZ vO.out
  have oS:=Lib.hid N8;clear N8
  obtain⟨dr,kO⟩: ∃y:Int,(1:Int)+(sW p:Nat)=y:=⟨_,rfl⟩
  obtain⟨gE,lC⟩: ∃y:Int,dr+(sV f:Nat)=y:=⟨_,rfl⟩
  obtain⟨nK,Ct⟩: ∃y:Int,(1:Int)+(sX s:Nat)=y:=⟨_,rfl⟩
  have Vx:=adU p
  have Vy:=adT f
  have Va:Hid ((1:Int)+(sW p:Nat)≤4611686018427387904):=by unfold Hid;omega
  have Lz:Hid (0≤dr∧dr+(sV f:Nat)≤4611686018427387904):=by unfold Hid;omega
  have Vb:Hid ((1:Int)+(sX s:Nat)≤4611686018427387904):=by unfold Hid;omega
  have g1:decide (z<0)=false:=decide_eq_false (by omega)
  have g2:decide (ait<0)=false:=decide_eq_false (by omega)
  have g3:decide (gE<0)=false:=decide_eq_false (by omega)
  have g4:decide (nK<0)=false:=decide_eq_false (by omega)
  have l1:=Lib.hid kO
  have ni:=Lib.hid lC
  have vI:=Lib.hid Ct
  clear kO lC Ct Vx Vy sA qf sF hs sC
  go_enter Tryz.func3,Tryz.ntmps3
  go_wp2_with (go_at_call 6;refine(Fq (p:=p) (l:=1048576) ⟨by omega,by omega⟩ (hz.at jk.out 0).1).mono ?_)
  rw[yL.out]
  first
  | (rintro e bi rfl hb)
  | (rintro e bi ⟨rfl,hb⟩)
  have k2:=Lib.hid (jk.out.below hb);clear hb jk
  obtain⟨bU,q1,q2,q3⟩:=sk (k2.out.get 2)
  go_wp2_with (go_at_call 7;refine(Mj (p:=f) (l:=z) e9.out (hz.at k2.out 0).2).mono ?_)
  rw[Z2.out]
  first
  | (rintro e bA rfl hb)
  | (rintro e bA ⟨rfl,hb⟩)
  have hH:=Lib.hid (k2.out.below hb);clear hb k2 bU q1 q2 q3
  go_wp2_with fail
  go_cut [8] from 26 to 31 (fun mB A5=> ∃(b:Nat) (gI gJ fX:Option Addr) (g0 g1 g2:Nat),mB= .pointer (some ⟨b,0,none⟩)∧b9 W A5 [hz W.heap.size (.agg (bV false p)) (.agg #[.int .i64 ps,.slice eV a0 d0,.slice eW J d1,.slice eX a2 d2,.int .i64 fq]) (.agg (cg false f)) (.agg #[.bool ok,.slice cC b0 ci,.slice cA b1 ax,.slice cT b2 e2]),dC W.heap.size #[.int .i64 ps,.slice eV a0 d0,.slice eW J d1,.slice eX a2 d2,.int .i64 fq] 26,dC (W.heap.size+1) #[.bool ok,.slice cC b0 ci,.slice cA b1 ax,.slice cT b2 e2] 31,il bA.heap.size A5.heap.size b #[.slice gI s.O.length g0,.slice gJ s.ah.length g1,.slice fX s.aq.length g2] 35 (.agg (gk false s)) (.agg #[.slice gI s.O.length g0,.slice gJ s.ah.length g1,.slice fX s.aq.length g2])])
  case first=>
    go_region_held3 (fun w'=>b9 W w' [hz W.heap.size (.agg (bV false p)) (.agg #[.int .i64 ps,.slice eV a0 d0,.slice eW J d1,.slice eX a2 d2,.int .i64 fq]) (.agg (cg false f)) (.agg #[.bool ok,.slice cC b0 ci,.slice cA b1 ax,.slice cT b2 e2]),dC W.heap.size #[.int .i64 ps,.slice eV a0 d0,.slice eW J d1,.slice eX a2 d2,.int .i64 fq] 26,dC (W.heap.size+1) #[.bool ok,.slice cC b0 ci,.slice cA b1 ax,.slice cT b2 e2] 31]∧w'.cell? ⟨W.heap.size,0,none⟩=some (.int .i64 ps)∧w'.cell? ⟨W.heap.size,1,none⟩=some (.slice eV a0 d0)∧w'.cell? ⟨W.heap.size,2,none⟩=some (.slice eW J d1)∧w'.cell? ⟨W.heap.size,3,none⟩=some (.slice eX a2 d2)∧w'.cell? ⟨W.heap.size,4,none⟩=some (.int .i64 fq)∧w'.cell? ⟨W.heap.size+1,0,none⟩=some (.bool ok)∧w'.cell? ⟨W.heap.size+1,1,none⟩=some (.slice cC b0 ci)∧w'.cell? ⟨W.heap.size+1,2,none⟩=some (.slice cA b1 ax)∧w'.cell? ⟨W.heap.size+1,3,none⟩=some (.slice cT b2 e2))
      (first
        | exact DU hH.out.drewN 1 2
        | (refine DU (b9.below hH.out ?_) 1 2 rfl rfl;(repeat' (first | exact fb | exact fa | exact e_ | exact Below.refl _ _ | (refine Below.drew ?_) | (refine Below.alloc ?_ ?_ _) | (refine Below.setCell ?_ ?_ _) | exact Nat.le_refl _ | exact e_.size | exact fa.size | exact fb.size | ((try simp only[World.size_alloc,World.size_setCell,World.size_drew]);omega)))))
      (first
        | (go_at_call 9;refine(BL Bn.out (hz.at (b9.below hH.out (by(repeat' (first | exact fb | exact fa | exact e_ | exact Below.refl _ _ | (refine Below.drew ?_) | (refine Below.alloc ?_ ?_ _) | (refine Below.setCell ?_ ?_ _) | exact Nat.le_refl _ | exact e_.size | exact fa.size | exact fb.size | ((try simp only[World.size_alloc,World.size_setCell,World.size_drew]);omega))))) 0).1).mono ?_;rintro e cO ⟨bD,aA,bx,bt,bw,bP,rfl,nB,rn⟩;have K2:=nB.size;(try simp only[World.size_alloc,World.size_drew] at K2);(have e_:Below bA.heap.size bA cO:=Below.trans (by(repeat' (first | exact fb | exact fa | exact e_ | exact Below.refl _ _ | (refine Below.drew ?_) | (refine Below.alloc ?_ ?_ _) | (refine Below.setCell ?_ ?_ _) | exact Nat.le_refl _ | exact e_.size | exact fa.size | exact fb.size | ((try simp only[World.size_alloc,World.size_setCell,World.size_drew]);omega)))) (nB.mono (by((try simp only[World.size_alloc,World.size_setCell,World.size_drew]);omega))));(first | (have p_:=Rd nB) | skip))
        | (go_at_call 10;refine(BK vO.out (hz.at (b9.below hH.out (by(repeat' (first | exact fb | exact fa | exact e_ | exact Below.refl _ _ | (refine Below.drew ?_) | (refine Below.alloc ?_ ?_ _) | (refine Below.setCell ?_ ?_ _) | exact Nat.le_refl _ | exact e_.size | exact fa.size | exact fb.size | ((try simp only[World.size_alloc,World.size_setCell,World.size_drew]);omega))))) 0).2).mono ?_;rintro e jh ⟨UT,z0,UU,kj,UW,z2,rfl,iW,Hi⟩;have K3:=iW.size;(try simp only[World.size_alloc,World.size_drew] at K3);(have fa:Below bA.heap.size bA jh:=Below.trans (by(repeat' (first | exact fb | exact fa | exact e_ | exact Below.refl _ _ | (refine Below.drew ?_) | (refine Below.alloc ?_ ?_ _) | (refine Below.setCell ?_ ?_ _) | exact Nat.le_refl _ | exact e_.size | exact fa.size | exact fb.size | ((try simp only[World.size_alloc,World.size_setCell,World.size_drew]);omega)))) (iW.mono (by((try simp only[World.size_alloc,World.size_setCell,World.size_drew]);omega))));(first | (have ui:=Df iW) | (have ui:=(iW.block _ (st p_)).trans p_) | skip))
        | (go_at_call 8;refine(Wq oS.out kY.out ((xl rn).below (by first | exact iW | exact iW.alloc iW.size _ | exact((Below.refl _ _).alloc (Nat.le_refl _) _).trans (iW.mono (by rw[World.size_alloc];exact Nat.le_succ _)))) ((xl Hi).below (by first | exact Below.refl _ _ | exact(Below.refl _ _).alloc (Nat.le_refl _) _))).mono ?_;rintro e lr ⟨gI,g0,gJ,g1,fX,g2,rfl,q5,rp⟩;have K4:=q5.size;(try simp only[World.size_alloc,World.size_drew] at K4);(have fb:Below bA.heap.size bA lr:=Below.trans (by(repeat' (first | exact fb | exact fa | exact e_ | exact Below.refl _ _ | (refine Below.drew ?_) | (refine Below.alloc ?_ ?_ _) | (refine Below.setCell ?_ ?_ _) | exact Nat.le_refl _ | exact e_.size | exact fa.size | exact fb.size | ((try simp only[World.size_alloc,World.size_setCell,World.size_drew]);omega)))) (q5.mono (by((try simp only[World.size_alloc,World.size_setCell,World.size_drew]);omega))));(first | (have pf:=Df q5) | (have pf:=(q5.block _ (st ui)).trans ui) | skip);(first | (have zx:=pf;have jQ:=l5 zx;have Ab:=yS zx;obtain⟨adV,adW,adX⟩:=jQ;obtain⟨adZ,ad0,ad1⟩:=Ab) | skip)))
    all_goals (try go_wp2_with fail)
    all_goals go_meet
    · exact⟨lr.heap.size,gI,gJ,fX,g0,g1,g2,rfl,b9.dv hH.out (by(repeat' (first | exact fb | exact fa | exact e_ | exact Below.refl _ _ | (refine Below.drew ?_) | (refine Below.alloc ?_ ?_ _) | (refine Below.setCell ?_ ?_ _) | exact Nat.le_refl _ | exact e_.size | exact fa.size | exact fb.size | ((try simp only[World.size_alloc,World.size_setCell,World.size_drew]);omega)))) _ (by((try simp only[World.size_alloc,World.size_setCell,World.size_drew]);omega)) (by((try simp only[World.size_alloc,World.size_setCell,World.size_drew]);omega)) (n8 _ _) (dR.dv rp (by((try simp only[World.size_alloc,World.size_setCell,World.size_drew]);omega)) (by((try simp only[World.size_alloc,World.size_setCell,World.size_drew]);omega)) (fun _=>Nat.le_refl _) (fun c hc _=>((Below.refl _ _).alloc (Nat.le_refl _) _).block c hc))⟩
    · exact⟨jh.heap.size,gI,gJ,fX,g0,g1,g2,rfl,b9.dv hH.out (by(repeat' (first | exact fb | exact fa | exact e_ | exact Below.refl _ _ | (refine Below.drew ?_) | (refine Below.alloc ?_ ?_ _) | (refine Below.setCell ?_ ?_ _) | exact Nat.le_refl _ | exact e_.size | exact fa.size | exact fb.size | ((try simp only[World.size_alloc,World.size_setCell,World.size_drew]);omega)))) _ (by((try simp only[World.size_alloc,World.size_setCell,World.size_drew]);omega)) (by((try simp only[World.size_alloc,World.size_setCell,World.size_drew]);omega)) (xL pf) (dR.dv rp (by((try simp only[World.size_alloc,World.size_setCell,World.size_drew]);omega)) (by((try simp only[World.size_alloc,World.size_setCell,World.size_drew]);omega)) (fun h=>absurd h (by((try simp only[World.size_alloc,World.size_setCell,World.size_drew]);omega))) (fun c _ bN=>by rw[Below.heap_setCell _ _ _ _ bN,Below.heap_setCell _ _ _ _ bN,Below.heap_setCell _ _ _ _ bN]))⟩
    · exact⟨cO.heap.size,gI,gJ,fX,g0,g1,g2,rfl,b9.dv hH.out (by(repeat' (first | exact fb | exact fa | exact e_ | exact Below.refl _ _ | (refine Below.drew ?_) | (refine Below.alloc ?_ ?_ _) | (refine Below.setCell ?_ ?_ _) | exact Nat.le_refl _ | exact e_.size | exact fa.size | exact fb.size | ((try simp only[World.size_alloc,World.size_setCell,World.size_drew]);omega)))) _ (by((try simp only[World.size_alloc,World.size_setCell,World.size_drew]);omega)) (by((try simp only[World.size_alloc,World.size_setCell,World.size_drew]);omega)) (xL pf) (dR.dv rp (by((try simp only[World.size_alloc,World.size_setCell,World.size_drew]);omega)) (by((try simp only[World.size_alloc,World.size_setCell,World.size_drew]);omega)) (fun h=>absurd h (by((try simp only[World.size_alloc,World.size_setCell,World.size_drew]);omega))) (fun c _ bN=>by rw[Below.heap_setCell _ _ _ _ bN,Below.heap_setCell _ _ _ _ bN,Below.heap_setCell _ _ _ _ bN]))⟩
    · exact⟨bA.heap.size,gI,gJ,fX,g0,g1,g2,rfl,b9.dv hH.out (by(repeat' (first | exact fb | exact fa | exact e_ | exact Below.refl _ _ | (refine Below.drew ?_) | (refine Below.alloc ?_ ?_ _) | (refine Below.setCell ?_ ?_ _) | exact Nat.le_refl _ | exact e_.size | exact fa.size | exact fb.size | ((try simp only[World.size_alloc,World.size_setCell,World.size_drew]);omega)))) _ (by((try simp only[World.size_alloc,World.size_setCell,World.size_drew]);omega)) (by((try simp only[World.size_alloc,World.size_setCell,World.size_drew]);omega)) (xL pf) (dR.dv rp (by((try simp only[World.size_alloc,World.size_setCell,World.size_drew]);omega)) (by((try simp only[World.size_alloc,World.size_setCell,World.size_drew]);omega)) (fun h=>absurd h (by((try simp only[World.size_alloc,World.size_setCell,World.size_drew]);omega))) (fun c _ bN=>by rw[Below.heap_setCell _ _ _ _ bN,Below.heap_setCell _ _ _ _ bN,Below.heap_setCell _ _ _ _ bN]))⟩
  case rest=>
  obtain⟨tH,gI,gJ,fX,g0,g1,g2,rfl,ao⟩:=hcut
  obtain⟨lr,ZX⟩: ∃w,w=wc:=⟨_,rfl⟩
  subst ZX
  have Bh:=Lib.hid ao;clear ao hH
  obtain⟨bU,q1,q2,q3,q4⟩:=qP (Bh.out.get 1)
  go_wp2_with (go_at_call 9;refine(BL Bn.out (hz.at Bh.out 0).1).mono ?_)
  first
  | (rintro e h_ fH aA fI bt fJ bP rfl hb a_)
  | (rintro e h_ ⟨fH,aA,fI,bt,fJ,bP,rfl,hb,a_⟩)
  have Bi:=Lib.hid (Bh.out.Ro hb a_);clear bU q1 q2 q3 q4 hb a_ Bh
  have EH:=Lib.hid (Bi.out.box #[.int .i64 p.ah,.slice fH p.bf.length aA,.slice fI p.O.length bt,.slice fJ p.bk.length bP,.int .i64 p.cY] 39)
  have av:W.heap.size+1<h_.heap.size:=Bi.out.BC 2 rfl
  obtain⟨bU,q1,q2,q3⟩:=sk (Bi.out.get 2)
  go_wp2_with (go_at_call 10;refine(BK vO.out (hz.at EH.out 0).2).mono ?_)
  first
  | (rintro e iO fK dQ e9 dI fL eC rfl hb a_)
  | (rintro e iO ⟨fK,dQ,e9,dI,fL,eC,rfl,hb,a_⟩)
  have Bj:=Lib.hid (EH.out.Ro hb a_);clear bU q1 q2 q3 av hb a_ Bi EH
  have Bk:=Lib.hid (Bj.out.box #[.bool f.ok,.slice fK f.aG.length dQ,.slice e9 f.aq.length dI,.slice fL f.O.length eC] 44)
  have av:h_.heap.size<iO.heap.size:=Bj.out.BC 5 rfl
  obtain⟨bU,q1,q2,q3,q4⟩:=qP (Bj.out.get 5)
  go_wp2_with (go_at_call 11;refine(Mh oS.out Lt.out (kr.at Bk.out 4) (kr.at Bk.out 6)).mono ?_)
  first
  | (rintro e ng cw au H1 h1 ib h2 L rfl hb a_ hf aO ao)
  | (rintro e ng ⟨cw,au,H1,h1,ib,h2,L,rfl,hb,a_,hf,aO,ao⟩)
  have Bb:=Lib.hid (Bk.out.own hb a_ hf);clear bU q1 q2 q3 q4 av hb a_ hf Bj Bk
  have U2:=Lib.hid aO;clear aO
  have yC:Hid (L.length=sX s):=ao
  clear ao
  have Bc:=Lib.hid (Bb.out.box #[.slice cw s.O.length au,.slice H1 s.ah.length h1,.slice ib s.aq.length h2] 35)
  have av:tH<ng.heap.size:=il.lt Bb.out 3 rfl
  obtain⟨bU,q1,q2⟩:=l5 (il.box Bb.out 3 rfl)
  go_wp2_with (go_at_call 12;refine(Fo (nH.at Bc.out 8) (il.at Bc.out 3)).mono ?_)
  first
  | (rintro e Uz rfl hb)
  | (rintro e Uz ⟨rfl,hb⟩)
  have Bd:Hid (b9 W Uz [hz W.heap.size (.agg (bV false p)) (.agg #[.int .i64 ps,.slice eV a0 d0,.slice eW J d1,.slice eX a2 d2,.int .i64 fq]) (.agg (cg false f)) (.agg #[.bool ok,.slice cC b0 ci,.slice cA b1 ax,.slice cT b2 e2]),dC W.heap.size #[.int .i64 ps,.slice eV a0 d0,.slice eW J d1,.slice eX a2 d2,.int .i64 fq] 26,dC (W.heap.size+1) #[.bool ok,.slice cC b0 ci,.slice cA b1 ax,.slice cT b2 e2] 31,il bA.heap.size lr.heap.size tH #[.slice gI s.O.length g0,.slice gJ s.ah.length g1,.slice fX s.aq.length g2] 35 (.agg (gk false s)) (.agg #[.slice gI s.O.length g0,.slice gJ s.ah.length g1,.slice fX s.aq.length g2]),kr lr.heap.size h_.heap.size (.agg (bV false p)) (.agg #[.int .i64 p.ah,.slice fH p.bf.length aA,.slice fI p.O.length bt,.slice fJ p.bk.length bP,.int .i64 p.cY]),dC h_.heap.size #[.int .i64 p.ah,.slice fH p.bf.length aA,.slice fI p.O.length bt,.slice fJ p.bk.length bP,.int .i64 p.cY] 39,kr (h_.alloc (.cells #[.int .i64 p.ah,.slice fH p.bf.length aA,.slice fI p.O.length bt,.slice fJ p.bk.length bP,.int .i64 p.cY] 39)).heap.size iO.heap.size (.agg (cg false f)) (.agg #[.bool f.ok,.slice fK f.aG.length dQ,.slice e9 f.aq.length dI,.slice fL f.O.length eC]),dC iO.heap.size #[.bool f.ok,.slice fK f.aG.length dQ,.slice e9 f.aq.length dI,.slice fL f.O.length eC] 44,nH .int .int .int (iO.alloc (.cells #[.bool f.ok,.slice fK f.aG.length dQ,.slice e9 f.aq.length dI,.slice fL f.O.length eC] 44)).heap.size ng.heap.size (.agg (gk false s)) (.agg #[.slice cw s.O.length au,.slice H1 s.ah.length h1,.slice ib s.aq.length h2]) cw H1 ib s.O.length au s.ah.length h1 s.aq.length h2 L,dC ng.heap.size #[.slice cw s.O.length au,.slice H1 s.ah.length h1,.slice ib s.aq.length h2] 35]):=Bc.out.below hb
  clear bU q1 q2 av hb Bb Bc
  go_wp2_with fail
  go_region_held3 (fun w'=>b9 W w' [hz W.heap.size (.agg (bV false p)) (.agg #[.int .i64 ps,.slice eV a0 d0,.slice eW J d1,.slice eX a2 d2,.int .i64 fq]) (.agg (cg false f)) (.agg #[.bool ok,.slice cC b0 ci,.slice cA b1 ax,.slice cT b2 e2]),dC W.heap.size #[.int .i64 ps,.slice eV a0 d0,.slice eW J d1,.slice eX a2 d2,.int .i64 fq] 26,dC (W.heap.size+1) #[.bool ok,.slice cC b0 ci,.slice cA b1 ax,.slice cT b2 e2] 31,il bA.heap.size lr.heap.size tH #[.slice gI s.O.length g0,.slice gJ s.ah.length g1,.slice fX s.aq.length g2] 35 (.agg (gk false s)) (.agg #[.slice gI s.O.length g0,.slice gJ s.ah.length g1,.slice fX s.aq.length g2]),kr lr.heap.size h_.heap.size (.agg (bV false p)) (.agg #[.int .i64 p.ah,.slice fH p.bf.length aA,.slice fI p.O.length bt,.slice fJ p.bk.length bP,.int .i64 p.cY]),dC h_.heap.size #[.int .i64 p.ah,.slice fH p.bf.length aA,.slice fI p.O.length bt,.slice fJ p.bk.length bP,.int .i64 p.cY] 39,kr (h_.alloc (.cells #[.int .i64 p.ah,.slice fH p.bf.length aA,.slice fI p.O.length bt,.slice fJ p.bk.length bP,.int .i64 p.cY] 39)).heap.size iO.heap.size (.agg (cg false f)) (.agg #[.bool f.ok,.slice fK f.aG.length dQ,.slice e9 f.aq.length dI,.slice fL f.O.length eC]),dC iO.heap.size #[.bool f.ok,.slice fK f.aG.length dQ,.slice e9 f.aq.length dI,.slice fL f.O.length eC] 44,nH .int .int .int (iO.alloc (.cells #[.bool f.ok,.slice fK f.aG.length dQ,.slice e9 f.aq.length dI,.slice fL f.O.length eC] 44)).heap.size ng.heap.size (.agg (gk false s)) (.agg #[.slice cw s.O.length au,.slice H1 s.ah.length h1,.slice ib s.aq.length h2]) cw H1 ib s.O.length au s.ah.length h1 s.aq.length h2 L,dC ng.heap.size #[.slice cw s.O.length au,.slice H1 s.ah.length h1,.slice ib s.aq.length h2] 35]∧w'.cell? ⟨W.heap.size,0,none⟩=some (.int .i64 ps)∧w'.cell? ⟨W.heap.size,1,none⟩=some (.slice eV a0 d0)∧w'.cell? ⟨W.heap.size,2,none⟩=some (.slice eW J d1)∧w'.cell? ⟨W.heap.size,3,none⟩=some (.slice eX a2 d2)∧w'.cell? ⟨W.heap.size,4,none⟩=some (.int .i64 fq)∧w'.cell? ⟨h_.heap.size,0,none⟩=some (.int .i64 p.ah)∧w'.cell? ⟨h_.heap.size,1,none⟩=some (.slice fH p.bf.length aA)∧w'.cell? ⟨h_.heap.size,2,none⟩=some (.slice fI p.O.length bt)∧w'.cell? ⟨h_.heap.size,3,none⟩=some (.slice fJ p.bk.length bP)∧w'.cell? ⟨h_.heap.size,4,none⟩=some (.int .i64 p.cY))
    (first
      | exact Sy Bd.out.drewN 1 5
      | (refine Sy ?_ 1 5 rfl rfl;assumption))
    (first
      | (go_at_call 9;refine(BL Bn.out (hz.at Bd.out.drewN 0).1).mono ?_;rintro e aja ⟨ey,v0,bQ,v1,V2,v2,rfl,nB,rn⟩;have ug:=Bd.out.drewN.below nB)
      | (go_at_call 13;refine(Wl (kr.at ug 4) (xl rn)).mono ?_;rintro e ah1 ⟨rfl,iW⟩;have zu:=ug.below iW))
  have Be:Hid (b9 W ah1 [hz W.heap.size (.agg (bV false p)) (.agg #[.int .i64 ps,.slice eV a0 d0,.slice eW J d1,.slice eX a2 d2,.int .i64 fq]) (.agg (cg false f)) (.agg #[.bool ok,.slice cC b0 ci,.slice cA b1 ax,.slice cT b2 e2]),dC W.heap.size #[.int .i64 ps,.slice eV a0 d0,.slice eW J d1,.slice eX a2 d2,.int .i64 fq] 26,dC (W.heap.size+1) #[.bool ok,.slice cC b0 ci,.slice cA b1 ax,.slice cT b2 e2] 31,il bA.heap.size lr.heap.size tH #[.slice gI s.O.length g0,.slice gJ s.ah.length g1,.slice fX s.aq.length g2] 35 (.agg (gk false s)) (.agg #[.slice gI s.O.length g0,.slice gJ s.ah.length g1,.slice fX s.aq.length g2]),kr lr.heap.size h_.heap.size (.agg (bV false p)) (.agg #[.int .i64 p.ah,.slice fH p.bf.length aA,.slice fI p.O.length bt,.slice fJ p.bk.length bP,.int .i64 p.cY]),dC h_.heap.size #[.int .i64 p.ah,.slice fH p.bf.length aA,.slice fI p.O.length bt,.slice fJ p.bk.length bP,.int .i64 p.cY] 39,kr (h_.alloc (.cells #[.int .i64 p.ah,.slice fH p.bf.length aA,.slice fI p.O.length bt,.slice fJ p.bk.length bP,.int .i64 p.cY] 39)).heap.size iO.heap.size (.agg (cg false f)) (.agg #[.bool f.ok,.slice fK f.aG.length dQ,.slice e9 f.aq.length dI,.slice fL f.O.length eC]),dC iO.heap.size #[.bool f.ok,.slice fK f.aG.length dQ,.slice e9 f.aq.length dI,.slice fL f.O.length eC] 44,nH .int .int .int (iO.alloc (.cells #[.bool f.ok,.slice fK f.aG.length dQ,.slice e9 f.aq.length dI,.slice fL f.O.length eC] 44)).heap.size ng.heap.size (.agg (gk false s)) (.agg #[.slice cw s.O.length au,.slice H1 s.ah.length h1,.slice ib s.aq.length h2]) cw H1 ib s.O.length au s.ah.length h1 s.aq.length h2 L,dC ng.heap.size #[.slice cw s.O.length au,.slice H1 s.ah.length h1,.slice ib s.aq.length h2] 35]):=zu
  clear zu ug nB iW rn Bd
  go_wp2_with fail
  go_region_held3 (fun w'=>b9 W w' [hz W.heap.size (.agg (bV false p)) (.agg #[.int .i64 ps,.slice eV a0 d0,.slice eW J d1,.slice eX a2 d2,.int .i64 fq]) (.agg (cg false f)) (.agg #[.bool ok,.slice cC b0 ci,.slice cA b1 ax,.slice cT b2 e2]),dC W.heap.size #[.int .i64 ps,.slice eV a0 d0,.slice eW J d1,.slice eX a2 d2,.int .i64 fq] 26,dC (W.heap.size+1) #[.bool ok,.slice cC b0 ci,.slice cA b1 ax,.slice cT b2 e2] 31,il bA.heap.size lr.heap.size tH #[.slice gI s.O.length g0,.slice gJ s.ah.length g1,.slice fX s.aq.length g2] 35 (.agg (gk false s)) (.agg #[.slice gI s.O.length g0,.slice gJ s.ah.length g1,.slice fX s.aq.length g2]),kr lr.heap.size h_.heap.size (.agg (bV false p)) (.agg #[.int .i64 p.ah,.slice fH p.bf.length aA,.slice fI p.O.length bt,.slice fJ p.bk.length bP,.int .i64 p.cY]),dC h_.heap.size #[.int .i64 p.ah,.slice fH p.bf.length aA,.slice fI p.O.length bt,.slice fJ p.bk.length bP,.int .i64 p.cY] 39,kr (h_.alloc (.cells #[.int .i64 p.ah,.slice fH p.bf.length aA,.slice fI p.O.length bt,.slice fJ p.bk.length bP,.int .i64 p.cY] 39)).heap.size iO.heap.size (.agg (cg false f)) (.agg #[.bool f.ok,.slice fK f.aG.length dQ,.slice e9 f.aq.length dI,.slice fL f.O.length eC]),dC iO.heap.size #[.bool f.ok,.slice fK f.aG.length dQ,.slice e9 f.aq.length dI,.slice fL f.O.length eC] 44,nH .int .int .int (iO.alloc (.cells #[.bool f.ok,.slice fK f.aG.length dQ,.slice e9 f.aq.length dI,.slice fL f.O.length eC] 44)).heap.size ng.heap.size (.agg (gk false s)) (.agg #[.slice cw s.O.length au,.slice H1 s.ah.length h1,.slice ib s.aq.length h2]) cw H1 ib s.O.length au s.ah.length h1 s.aq.length h2 L,dC ng.heap.size #[.slice cw s.O.length au,.slice H1 s.ah.length h1,.slice ib s.aq.length h2] 35]∧w'.cell? ⟨iO.heap.size,0,none⟩=some (.bool f.ok)∧w'.cell? ⟨iO.heap.size,1,none⟩=some (.slice fK f.aG.length dQ)∧w'.cell? ⟨iO.heap.size,2,none⟩=some (.slice e9 f.aq.length dI)∧w'.cell? ⟨iO.heap.size,3,none⟩=some (.slice fL f.O.length eC)∧w'.cell? ⟨W.heap.size+1,0,none⟩=some (.bool ok)∧w'.cell? ⟨W.heap.size+1,1,none⟩=some (.slice cC b0 ci)∧w'.cell? ⟨W.heap.size+1,2,none⟩=some (.slice cA b1 ax)∧w'.cell? ⟨W.heap.size+1,3,none⟩=some (.slice cT b2 e2))
    (first
      | exact Sx Be.out.drewN 7 2
      | (refine Sx ?_ 7 2 rfl rfl;assumption))
    (first
      | (go_at_call 10;refine(BK vO.out (hz.at Be.out.drewN 0).2).mono ?_;rintro e ajc ⟨ey,v0,bQ,v1,V2,v2,rfl,nB,rn⟩;have ug:=Be.out.drewN.below nB)
      | (go_at_call 14;refine(Wk (kr.at ug 6) (xl rn)).mono ?_;rintro e ym ⟨rfl,iW⟩;have zu:=ug.below iW))
  have yy:=Lib.hid zu;clear zu ug nB iW rn Be
  obtain⟨bU,q1,q2,q3,q4⟩:=qP (yy.out.get 5)
  go_wp2_with (go_at_call 15;refine(Wo (yy.out.told 4 rfl) (fun c hc=>hc.2.2) (by decide) Va.out).mono ?_)
  rw[l1.out]
  first
  | (rintro e ah2 rfl hb)
  | (rintro e ah2 ⟨rfl,hb⟩)
  have yz:=Lib.hid (yy.out.forget 4 rfl (yy.out.after 0 4 rfl rfl (by omega)) hb);clear bU q1 q2 q3 q4 hb yy
  obtain⟨bU,q1,q2,q3⟩:=sk (yz.out.get 7)
  go_wp2_with (go_at_call 16;refine(Wn (yz.out.told 6 rfl) (fun c hc=>hc.2.2) Lz.out.1 Lz.out.2).mono ?_)
  rw[ni.out]
  first
  | (rintro e ah3 rfl hb)
  | (rintro e ah3 ⟨rfl,hb⟩)
  have vF:=Lib.hid (yz.out.forget 6 rfl (yz.out.after 0 6 rfl rfl (by omega)) hb);clear bU q1 q2 q3 hb yz
  obtain⟨bU,q1,q2⟩:=l5 (vF.out.get 9)
  obtain⟨eA,cN,c5⟩:=l5 (il.box vF.out 3 rfl)
  go_wp2_with (go_at_call 12;refine(Fo (nH.at vF.out 8) (il.at vF.out 3)).mono ?_)
  first
  | (rintro e cS rfl hb)
  | (rintro e cS ⟨rfl,hb⟩)
  have yA:=Lib.hid (vF.out.below hb);clear bU q1 q2 eA cN c5 hb vF
  obtain⟨bU,q1,q2⟩:=l5 (yA.out.get 9)
  have EM:Hid ((1:Int)+(L.length:Nat)≤4611686018427387904):=by rw[yC.out];exact Vb.out
  go_wp2_with (go_at_call 17;refine(Wp (yA.out.aen 8 rfl) U2.out (by decide) EM.out).mono ?_)
  rw[yC.out,vI.out]
  first
  | (rintro e ah4 rfl hb)
  | (rintro e ah4 ⟨rfl,hb⟩)
  have Bf:=Lib.hid (yA.out.aep 8 rfl (yA.out.after 0 8 rfl rfl (by omega)) hb);clear bU q1 q2 hb yA
  obtain⟨bU,q1,q2⟩:=l5 (Bf.out.get 9)
  go_wp2_with (go_at_call 18;refine(Mg (Bf.out.Q3 8 rfl) (by decide) EM.out).mono ?_)
  rw[yC.out,vI.out]
  first
  | (rintro e r7 rfl hb)
  | (rintro e r7 ⟨rfl,hb⟩)
  have qK:=Lib.hid (Bf.out.below hb);clear bU q1 q2 hb Bf
  go_wp2_with fail
  go_cut [15] from 79 to 84 (fun mB A5=> ∃(b:Nat) (sc sd se:Option Addr) (bX ed aP:Nat),mB= .pointer (some ⟨b,0,none⟩)∧b9 W A5 [hz W.heap.size (.agg (bV false p)) (.agg #[.int .i64 ps,.slice eV a0 d0,.slice eW J d1,.slice eX a2 d2,.int .i64 fq]) (.agg (cg false f)) (.agg #[.bool ok,.slice cC b0 ci,.slice cA b1 ax,.slice cT b2 e2]),dC W.heap.size #[.int .i64 ps,.slice eV a0 d0,.slice eW J d1,.slice eX a2 d2,.int .i64 fq] 26,dC (W.heap.size+1) #[.bool ok,.slice cC b0 ci,.slice cA b1 ax,.slice cT b2 e2] 31,il bA.heap.size lr.heap.size tH #[.slice gI s.O.length g0,.slice gJ s.ah.length g1,.slice fX s.aq.length g2] 35 (.agg (gk false s)) (.agg #[.slice gI s.O.length g0,.slice gJ s.ah.length g1,.slice fX s.aq.length g2]),wX lr.heap.size h_.heap.size,dC h_.heap.size #[.int .i64 p.ah,.slice fH p.bf.length aA,.slice fI p.O.length bt,.slice fJ p.bk.length bP,.int .i64 p.cY] 39,wX (h_.alloc (.cells #[.int .i64 p.ah,.slice fH p.bf.length aA,.slice fI p.O.length bt,.slice fJ p.bk.length bP,.int .i64 p.cY] 39)).heap.size iO.heap.size,dC iO.heap.size #[.bool f.ok,.slice fK f.aG.length dQ,.slice e9 f.aq.length dI,.slice fL f.O.length eC] 44,zJ .int .int .int (iO.alloc (.cells #[.bool f.ok,.slice fK f.aG.length dQ,.slice e9 f.aq.length dI,.slice fL f.O.length eC] 44)).heap.size ng.heap.size cw H1 ib s.O.length au s.ah.length h1 s.aq.length h2 L 1,dC ng.heap.size #[.slice cw s.O.length au,.slice H1 s.ah.length h1,.slice ib s.aq.length h2] 35,il r7.heap.size A5.heap.size b #[.slice sc s.O.length bX,.slice sd s.ah.length ed,.slice se s.aq.length aP] 35 (.agg (gk false s)) (.agg #[.slice sc s.O.length bX,.slice sd s.ah.length ed,.slice se s.aq.length aP])])
  case first=>
    go_region_held3 (fun w'=>b9 W w' [hz W.heap.size (.agg (bV false p)) (.agg #[.int .i64 ps,.slice eV a0 d0,.slice eW J d1,.slice eX a2 d2,.int .i64 fq]) (.agg (cg false f)) (.agg #[.bool ok,.slice cC b0 ci,.slice cA b1 ax,.slice cT b2 e2]),dC W.heap.size #[.int .i64 ps,.slice eV a0 d0,.slice eW J d1,.slice eX a2 d2,.int .i64 fq] 26,dC (W.heap.size+1) #[.bool ok,.slice cC b0 ci,.slice cA b1 ax,.slice cT b2 e2] 31,il bA.heap.size lr.heap.size tH #[.slice gI s.O.length g0,.slice gJ s.ah.length g1,.slice fX s.aq.length g2] 35 (.agg (gk false s)) (.agg #[.slice gI s.O.length g0,.slice gJ s.ah.length g1,.slice fX s.aq.length g2]),wX lr.heap.size h_.heap.size,dC h_.heap.size #[.int .i64 p.ah,.slice fH p.bf.length aA,.slice fI p.O.length bt,.slice fJ p.bk.length bP,.int .i64 p.cY] 39,wX (h_.alloc (.cells #[.int .i64 p.ah,.slice fH p.bf.length aA,.slice fI p.O.length bt,.slice fJ p.bk.length bP,.int .i64 p.cY] 39)).heap.size iO.heap.size,dC iO.heap.size #[.bool f.ok,.slice fK f.aG.length dQ,.slice e9 f.aq.length dI,.slice fL f.O.length eC] 44,zJ .int .int .int (iO.alloc (.cells #[.bool f.ok,.slice fK f.aG.length dQ,.slice e9 f.aq.length dI,.slice fL f.O.length eC] 44)).heap.size ng.heap.size cw H1 ib s.O.length au s.ah.length h1 s.aq.length h2 L 1,dC ng.heap.size #[.slice cw s.O.length au,.slice H1 s.ah.length h1,.slice ib s.aq.length h2] 35]∧w'.cell? ⟨W.heap.size,0,none⟩=some (.int .i64 ps)∧w'.cell? ⟨W.heap.size,1,none⟩=some (.slice eV a0 d0)∧w'.cell? ⟨W.heap.size,2,none⟩=some (.slice eW J d1)∧w'.cell? ⟨W.heap.size,3,none⟩=some (.slice eX a2 d2)∧w'.cell? ⟨W.heap.size,4,none⟩=some (.int .i64 fq)∧w'.cell? ⟨W.heap.size+1,0,none⟩=some (.bool ok)∧w'.cell? ⟨W.heap.size+1,1,none⟩=some (.slice cC b0 ci)∧w'.cell? ⟨W.heap.size+1,2,none⟩=some (.slice cA b1 ax)∧w'.cell? ⟨W.heap.size+1,3,none⟩=some (.slice cT b2 e2))
      (first
        | exact DU qK.out.drewN 1 2
        | (refine DU (b9.below qK.out ?_) 1 2 rfl rfl;(repeat' (first | exact fb | exact fa | exact e_ | exact Below.refl _ _ | (refine Below.drew ?_) | (refine Below.alloc ?_ ?_ _) | (refine Below.setCell ?_ ?_ _) | exact Nat.le_refl _ | exact e_.size | exact fa.size | exact fb.size | ((try simp only[World.size_alloc,World.size_setCell,World.size_drew]);omega)))))
      (first
        | (go_at_call 9;refine(BL Bn.out (hz.at (b9.below qK.out (by(repeat' (first | exact fb | exact fa | exact e_ | exact Below.refl _ _ | (refine Below.drew ?_) | (refine Below.alloc ?_ ?_ _) | (refine Below.setCell ?_ ?_ _) | exact Nat.le_refl _ | exact e_.size | exact fa.size | exact fb.size | ((try simp only[World.size_alloc,World.size_setCell,World.size_drew]);omega))))) 0).1).mono ?_;rintro e cq ⟨bD,aA,bx,bt,bw,bP,rfl,nB,rn⟩;have K2:=nB.size;(try simp only[World.size_alloc,World.size_drew] at K2);(have e_:Below r7.heap.size r7 cq:=Below.trans (by(repeat' (first | exact fb | exact fa | exact e_ | exact Below.refl _ _ | (refine Below.drew ?_) | (refine Below.alloc ?_ ?_ _) | (refine Below.setCell ?_ ?_ _) | exact Nat.le_refl _ | exact e_.size | exact fa.size | exact fb.size | ((try simp only[World.size_alloc,World.size_setCell,World.size_drew]);omega)))) (nB.mono (by((try simp only[World.size_alloc,World.size_setCell,World.size_drew]);omega))));(first | (have p_:=Rd nB) | skip))
        | (go_at_call 10;refine(BK vO.out (hz.at (b9.below qK.out (by(repeat' (first | exact fb | exact fa | exact e_ | exact Below.refl _ _ | (refine Below.drew ?_) | (refine Below.alloc ?_ ?_ _) | (refine Below.setCell ?_ ?_ _) | exact Nat.le_refl _ | exact e_.size | exact fa.size | exact fb.size | ((try simp only[World.size_alloc,World.size_setCell,World.size_drew]);omega))))) 0).2).mono ?_;rintro e Uy ⟨UT,z0,UU,kj,UW,z2,rfl,iW,Hi⟩;have K3:=iW.size;(try simp only[World.size_alloc,World.size_drew] at K3);(have fa:Below r7.heap.size r7 Uy:=Below.trans (by(repeat' (first | exact fb | exact fa | exact e_ | exact Below.refl _ _ | (refine Below.drew ?_) | (refine Below.alloc ?_ ?_ _) | (refine Below.setCell ?_ ?_ _) | exact Nat.le_refl _ | exact e_.size | exact fa.size | exact fb.size | ((try simp only[World.size_alloc,World.size_setCell,World.size_drew]);omega)))) (iW.mono (by((try simp only[World.size_alloc,World.size_setCell,World.size_drew]);omega))));(first | (have ui:=Df iW) | (have ui:=(iW.block _ (st p_)).trans p_) | skip))
        | (go_at_call 11;refine(Mh oS.out Lt.out ((xl rn).below (by first | exact iW | exact iW.alloc iW.size _ | exact((Below.refl _ _).alloc (Nat.le_refl _) _).trans (iW.mono (by rw[World.size_alloc];exact Nat.le_succ _)))) ((xl Hi).below (by first | exact Below.refl _ _ | exact(Below.refl _ _).alloc (Nat.le_refl _) _))).mono ?_;rintro e Lk ⟨sc,bX,sd,ed,se,aP,aiv,rfl,q5,rp,aiK,aiH,G2⟩;have K4:=q5.size;(try simp only[World.size_alloc,World.size_drew] at K4);(have fb:Below r7.heap.size r7 Lk:=Below.trans (by(repeat' (first | exact fb | exact fa | exact e_ | exact Below.refl _ _ | (refine Below.drew ?_) | (refine Below.alloc ?_ ?_ _) | (refine Below.setCell ?_ ?_ _) | exact Nat.le_refl _ | exact e_.size | exact fa.size | exact fb.size | ((try simp only[World.size_alloc,World.size_setCell,World.size_drew]);omega)))) (q5.mono (by((try simp only[World.size_alloc,World.size_setCell,World.size_drew]);omega))));(first | (have pf:=Df q5) | (have pf:=(q5.block _ (st ui)).trans ui) | skip);(first | (have zx:=pf;have jQ:=l5 zx;have Ab:=yS zx;obtain⟨adV,adW,adX⟩:=jQ;obtain⟨adZ,ad0,ad1⟩:=Ab) | skip)))
    all_goals (try go_wp2_with fail)
    all_goals go_meet
    · exact⟨Lk.heap.size,sc,sd,se,bX,ed,aP,rfl,b9.dv qK.out (by(repeat' (first | exact fb | exact fa | exact e_ | exact Below.refl _ _ | (refine Below.drew ?_) | (refine Below.alloc ?_ ?_ _) | (refine Below.setCell ?_ ?_ _) | exact Nat.le_refl _ | exact e_.size | exact fa.size | exact fb.size | ((try simp only[World.size_alloc,World.size_setCell,World.size_drew]);omega)))) _ (by((try simp only[World.size_alloc,World.size_setCell,World.size_drew]);omega)) (by((try simp only[World.size_alloc,World.size_setCell,World.size_drew]);omega)) (n8 _ _) (dR.dv rp (by((try simp only[World.size_alloc,World.size_setCell,World.size_drew]);omega)) (by((try simp only[World.size_alloc,World.size_setCell,World.size_drew]);omega)) (fun _=>Nat.le_refl _) (fun c hc _=>((Below.refl _ _).alloc (Nat.le_refl _) _).block c hc))⟩
    · exact⟨Uy.heap.size,sc,sd,se,bX,ed,aP,rfl,b9.dv qK.out (by(repeat' (first | exact fb | exact fa | exact e_ | exact Below.refl _ _ | (refine Below.drew ?_) | (refine Below.alloc ?_ ?_ _) | (refine Below.setCell ?_ ?_ _) | exact Nat.le_refl _ | exact e_.size | exact fa.size | exact fb.size | ((try simp only[World.size_alloc,World.size_setCell,World.size_drew]);omega)))) _ (by((try simp only[World.size_alloc,World.size_setCell,World.size_drew]);omega)) (by((try simp only[World.size_alloc,World.size_setCell,World.size_drew]);omega)) (xL pf) (dR.dv rp (by((try simp only[World.size_alloc,World.size_setCell,World.size_drew]);omega)) (by((try simp only[World.size_alloc,World.size_setCell,World.size_drew]);omega)) (fun h=>absurd h (by((try simp only[World.size_alloc,World.size_setCell,World.size_drew]);omega))) (fun c _ bN=>by rw[Below.heap_setCell _ _ _ _ bN,Below.heap_setCell _ _ _ _ bN,Below.heap_setCell _ _ _ _ bN]))⟩
    · exact⟨cq.heap.size,sc,sd,se,bX,ed,aP,rfl,b9.dv qK.out (by(repeat' (first | exact fb | exact fa | exact e_ | exact Below.refl _ _ | (refine Below.drew ?_) | (refine Below.alloc ?_ ?_ _) | (refine Below.setCell ?_ ?_ _) | exact Nat.le_refl _ | exact e_.size | exact fa.size | exact fb.size | ((try simp only[World.size_alloc,World.size_setCell,World.size_drew]);omega)))) _ (by((try simp only[World.size_alloc,World.size_setCell,World.size_drew]);omega)) (by((try simp only[World.size_alloc,World.size_setCell,World.size_drew]);omega)) (xL pf) (dR.dv rp (by((try simp only[World.size_alloc,World.size_setCell,World.size_drew]);omega)) (by((try simp only[World.size_alloc,World.size_setCell,World.size_drew]);omega)) (fun h=>absurd h (by((try simp only[World.size_alloc,World.size_setCell,World.size_drew]);omega))) (fun c _ bN=>by rw[Below.heap_setCell _ _ _ _ bN,Below.heap_setCell _ _ _ _ bN,Below.heap_setCell _ _ _ _ bN]))⟩
    · exact⟨r7.heap.size,sc,sd,se,bX,ed,aP,rfl,b9.dv qK.out (by(repeat' (first | exact fb | exact fa | exact e_ | exact Below.refl _ _ | (refine Below.drew ?_) | (refine Below.alloc ?_ ?_ _) | (refine Below.setCell ?_ ?_ _) | exact Nat.le_refl _ | exact e_.size | exact fa.size | exact fb.size | ((try simp only[World.size_alloc,World.size_setCell,World.size_drew]);omega)))) _ (by((try simp only[World.size_alloc,World.size_setCell,World.size_drew]);omega)) (by((try simp only[World.size_alloc,World.size_setCell,World.size_drew]);omega)) (xL pf) (dR.dv rp (by((try simp only[World.size_alloc,World.size_setCell,World.size_drew]);omega)) (by((try simp only[World.size_alloc,World.size_setCell,World.size_drew]);omega)) (fun h=>absurd h (by((try simp only[World.size_alloc,World.size_setCell,World.size_drew]);omega))) (fun c _ bN=>by rw[Below.heap_setCell _ _ _ _ bN,Below.heap_setCell _ _ _ _ bN,Below.heap_setCell _ _ _ _ bN]))⟩
  case rest=>
  obtain⟨vS,sc,sd,se,bX,ed,aP,rfl,ao⟩:=hcut
  obtain⟨Lk,ZW⟩: ∃w,w=wc:=⟨_,rfl⟩
  subst ZW
  have vG:=Lib.hid ao;clear ao qK
  obtain⟨bU,q1,q2⟩:=l5 (il.box vG.out 10 rfl)
  obtain⟨eA,cN,c5⟩:=l5 (il.box vG.out 3 rfl)
  go_wp2_with (go_at_call 12;refine(Fo (il.at vG.out 10) (il.at vG.out 3)).mono ?_)
  first
  | (rintro e ah5 rfl hb)
  | (rintro e ah5 ⟨rfl,hb⟩)
  have Bg:=Lib.hid (vG.out.below hb);clear bU q1 q2 eA cN c5 hb vG
  obtain⟨bU,q1,q2⟩:=l5 (Bg.out.get 9)
  go_wp2_with (go_at_call 18;refine(Mg (Bg.out.Q3 8 rfl) (by decide) EM.out).mono ?_)
  rw[yC.out,vI.out]
  first
  | (rintro e ah6 rfl hb)
  | (rintro e ah6 ⟨rfl,hb⟩)
  have U5:=Lib.hid (Bg.out.below hb);clear bU q1 q2 hb Bg
  go_wp2
  go_ret
  exact⟨rfl,U5.out.end⟩
theorem abH (p:aV) (f:Frame) (k:Int) (W:World) (eV eW eX cC cA cT:Option Addr) (a0 J a2 b0 b1 b2 d0 d1 d2 ci ax e2:Nat) (ps fq:Int) (ok:Bool)
    (h1:dR W (fun c=>c<W.heap.size) (.agg (bV false p)) (.agg #[.int .i64 ps,.slice eV a0 d0,.slice eW J d1,.slice eX a2 d2,.int .i64 fq])) (hs:1048576<kw p):
    Calls Tryz.prog 3 #[.agg #[.int .i64 ps,.slice eV a0 d0,.slice eW J d1,.slice eX a2 d2,.int .i64 fq],.agg #[.bool ok,.slice cC b0 ci,.slice cA b1 ax,.slice cT b2 e2],.int .i64 k] W fun e w'=>e= .returned (.bool true)∧Below W.heap.size W w':=by
  have mE:Hid (Below W.heap.size W ((W.alloc (.cells #[.int .i64 ps,.slice eV a0 d0,.slice eW J d1,.slice eX a2 d2,.int .i64 fq] 26)).alloc (.cells #[.bool ok,.slice cC b0 ci,.slice cA b1 ax,.slice cT b2 e2] 31))):=((Below.refl _ _).alloc (Nat.le_refl _) _).alloc (by simp) _
  have k0:Hid (V2 (Env.at ((W.alloc (.cells #[.int .i64 ps,.slice eV a0 d0,.slice eW J d1,.slice eX a2 d2,.int .i64 fq] 26)).alloc (.cells #[.bool ok,.slice cC b0 ci,.slice cA b1 ax,.slice cT b2 e2] 31))) (.agg (bV false p)) (.agg #[.int .i64 ps,.slice eV a0 d0,.slice eW J d1,.slice eX a2 d2,.int .i64 fq])):=(h1.cM (fun c hc=>mE.out.block c hc) (fun _ h=>h)).at fun c hc=>Nat.lt_of_lt_of_le hc mE.out.size
  have yL:Hid (pI p 1048576= -1):=by unfold Hid pI eO;rw[if_pos (by omega)]
  clear h1 hs
  go_enter Tryz.func3,Tryz.ntmps3
  go_wp2_with (go_at_call 6;refine(Fq (p:=p) (l:=1048576) ⟨by omega,by omega⟩ k0.out).mono ?_)
  rw[yL.out]
  first
  | (rintro e bi rfl hb)
  | (rintro e bi ⟨rfl,hb⟩)
  have U3:=Lib.hid (mE.out.trans (hb.mono mE.out.size));clear hb
  go_wp2
  go_ret
  exact⟨rfl,U3.out⟩
theorem abI (p:aV) (f:Frame) (k:Int) (W:World) (eV eW eX cC cA cT:Option Addr) (a0 J a2 b0 b1 b2 d0 d1 d2 ci ax e2:Nat) (ps fq:Int) (ok:Bool)
    (h1:dR W (fun c=>c<W.heap.size) (.agg (bV false p)) (.agg #[.int .i64 ps,.slice eV a0 d0,.slice eW J d1,.slice eX a2 d2,.int .i64 fq]))
    (h2:dR W (fun c=>c<W.heap.size) (.agg (cg false f)) (.agg #[.bool ok,.slice cC b0 ci,.slice cA b1 ax,.slice cT b2 e2]))
    (hs:kw p≤1048576) (sC:1048576<kw p+o3 f):
    Calls Tryz.prog 3 #[.agg #[.int .i64 ps,.slice eV a0 d0,.slice eW J d1,.slice eX a2 d2,.int .i64 fq],.agg #[.bool ok,.slice cC b0 ci,.slice cA b1 ax,.slice cT b2 e2],.int .i64 k] W fun e w'=>e= .returned (.bool true)∧Below W.heap.size W w':=by
  have yx:Hid (b9 W W [hz W.heap.size (.agg (bV false p)) (.agg #[.int .i64 ps,.slice eV a0 d0,.slice eW J d1,.slice eX a2 d2,.int .i64 fq]) (.agg (cg false f)) (.agg #[.bool ok,.slice cC b0 ci,.slice cA b1 ax,.slice cT b2 e2])]):=(b9.start W).add (hz W.heap.size _ _ _ _) (Nat.le_refl _) ⟨h1,h2⟩ (fun j h=>by cases h)
  have jk:Hid (b9 W ((W.alloc (.cells #[.int .i64 ps,.slice eV a0 d0,.slice eW J d1,.slice eX a2 d2,.int .i64 fq] 26)).alloc (.cells #[.bool ok,.slice cC b0 ci,.slice cA b1 ax,.slice cT b2 e2] 31)) [hz W.heap.size (.agg (bV false p)) (.agg #[.int .i64 ps,.slice eV a0 d0,.slice eW J d1,.slice eX a2 d2,.int .i64 fq]) (.agg (cg false f)) (.agg #[.bool ok,.slice cC b0 ci,.slice cA b1 ax,.slice cT b2 e2]),dC W.heap.size #[.int .i64 ps,.slice eV a0 d0,.slice eW J d1,.slice eX a2 d2,.int .i64 fq] 26,dC (W.heap.size+1) #[.bool ok,.slice cC b0 ci,.slice cA b1 ax,.slice cT b2 e2] 31]):=by
    have:=(yx.out.box #[.int .i64 ps,.slice eV a0 d0,.slice eW J d1,.slice eX a2 d2,.int .i64 fq] 26).box #[.bool ok,.slice cC b0 ci,.slice cA b1 ax,.slice cT b2 e2] 31
    rw[World.size_alloc] at this
    exact this
  clear yx h1 h2
  have kj:pI p 1048576=1048576 - kw p:=by unfold pI eO;rw[if_neg (by omega)]
  have z2:r5 f (1048576 - kw p)= -1:=by unfold r5 eO;rw[if_pos (by omega)]
  obtain⟨dI,Hq⟩: ∃y:Int,(1048576:Int) - kw p=y:=⟨_,rfl⟩
  rw[Hq] at kj z2
  have e9:Hid (0≤dI∧dI≤1048576):=by unfold Hid;omega
  have yL:=Lib.hid kj;clear kj
  have Z2:=Lib.hid z2;clear z2
  have g1:decide (dI<0)=false:=decide_eq_false (by omega)
  clear Hq hs sC
  go_enter Tryz.func3,Tryz.ntmps3
  go_wp2_with (go_at_call 6;refine(Fq (p:=p) (l:=1048576) ⟨by omega,by omega⟩ (hz.at jk.out 0).1).mono ?_)
  rw[yL.out]
  first
  | (rintro e bi rfl hb)
  | (rintro e bi ⟨rfl,hb⟩)
  have k2:=Lib.hid (jk.out.below hb);clear hb jk
  obtain⟨bU,q1,q2,q3⟩:=sk (k2.out.get 2)
  go_wp2_with (go_at_call 7;refine(Mj (p:=f) (l:=dI) e9.out (hz.at k2.out 0).2).mono ?_)
  rw[Z2.out]
  first
  | (rintro e bA rfl hb)
  | (rintro e bA ⟨rfl,hb⟩)
  have hH:=Lib.hid (k2.out.below hb);clear hb k2 bU q1 q2 q3
  go_wp2
  go_ret
  exact⟨rfl,hH.out.end⟩
theorem abJ (a0:aV) (J:Frame) (a2:Int):aZ Tryz.prog 3 [.agg (bV false a0),.agg (cg false J),.int .i64 a2] (.bool true):=by
  refine aZ.aec (by kernel_rfl) fun W vs ap=> ?_
  obtain⟨aiX,vs,rfl,h1,ap⟩:=ap.cons_inv
  obtain⟨aiB,vs,rfl,h2,ap⟩:=ap.cons_inv
  obtain⟨jP,vs,rfl,ay,ap⟩:=ap.cons_inv
  obtain rfl:=ap.mj
  have ay:aL W _ _ (.int .i64 a2) jP:=ay
  cases ay
  have t1:=UA (e:= .ef) (x:=a0) h1
  have t2:=UA (e:= .frame) (x:=J) h2
  obtain⟨eV,d0,eW,d1,eX,d2,rfl,_⟩:=Eo t1
  obtain⟨cC,ci,cA,ax,cT,e2,rfl,_⟩:=En t2
  by_cases hs:kw a0≤1048576
  · by_cases sC:kw a0+o3 J≤1048576
    · exact abG a0 J a2 W eV eW eX cC cA cT _ _ _ _ _ _ d0 d1 d2 ci ax e2 _ _ _ _ rfl t1 t2 (VL a0 J a2) hs sC
    · exact abI a0 J a2 W eV eW eX cC cA cT _ _ _ _ _ _ d0 d1 d2 ci ax e2 _ _ _ t1 t2 hs (by omega)
  · exact abH a0 J a2 W eV eW eX cC cA cT _ _ _ _ _ _ d0 d1 d2 ci ax e2 _ _ _ t1 (by omega)
end Go.Proofs.YtejmihecgodhnaaGreat.Fw
