/- Walks and summaries of functions, printed by a program of mine (tools/mk2.py), with the proofs of what they owe. -/
import Derived.Test.YtglpfccgmfhkdaaM7
set_option linter.unusedVariables false
set_option maxRecDepth 100000
set_option maxHeartbeats 4000000
set_option linter.unusedSimpArgs false
namespace Go.Proofs.Ytglpfccgmfhkdaa.Fw
open Go
attribute [local irreducible] evS evSD WpS Weak Oper.looksAt
noncomputable def Iq:Code:=iI Try.f32
def ad_:List Item:=[ap 0,ap 1,ap 2,ap 3,ap 4,⟨5,true,false,[0,1]⟩,ap 6,⟨7,true,false,[0,1]⟩,⟨8,true,false,[]⟩,ap 9,⟨10,true,false,[]⟩]
def aea:List (List Nat):=[[],[0],[],[2],[2,3],[2,3,4],rg 2 6,rg 2 7,rg 0 8,rg 0 9,rg 0 10]
def Ik (aQ:iQ Prop) (aR:iQ Nat) (J:az) (aT:Nat) (aH:(List a_)) (eS:Int) (aZ:List (List Bool)) (a1 bT:Nat) (aS:List Nat) (bO:Int) (ws2:List ad):Prop:=
  aQ aT aH eS (aZ++[(List.replicate ((nth J.O bO).af.length:Int).toNat false)]) (a1+1) (bT+1) (aS++[aZ.length]) (IntKind.i64.wrap (bO+1)) (ws2++[(ad.mk 0 0 (List.replicate ((nth J.O bO).af.length:Int).toNat false) false 0)])∧aR aT aH eS (aZ++[(List.replicate ((nth J.O bO).af.length:Int).toNat false)]) (a1+1) (bT+1) (aS++[aZ.length]) (IntKind.i64.wrap (bO+1)) (ws2++[(ad.mk 0 0 (List.replicate ((nth J.O bO).af.length:Int).toNat false) false 0)])<aR aT aH eS aZ a1 bT aS bO ws2
def Il (aQ:iQ Prop) (aR:iQ Nat) (J:az) (aT:Nat) (aH:(List a_)) (eS:Int) (aZ:List (List Bool)) (a1 bT:Nat) (aS:List Nat) (bO:Int) (ws2:List ad):Prop:=
  ((0≤bO∧bO.toNat<J.O.length)∧((0≤((nth J.O bO).af.length:Int)∧1*((nth J.O bO).af.length:Int)≤140737488355328∧((nth J.O bO).af.length:Int)≤4611686018427387904)∧(ws2.length=aS.length∧((ws2.length+1)*56≤140737488355328∧ws2.length+1≤4611686018427387904))))∧(Ik aQ aR J aT aH eS aZ a1 bT aS bO ws2)
def Im (aQ:iQ Prop) (aR:iQ Nat) (J:az) (al:Frame) (aT:Nat) (aH:(List a_)) (eS:Int) (aZ:List (List Bool)) (a1 bT:Nat) (aS:List Nat) (bO:Int) (ws2:List ad):Prop:=
  ((decide (bO<(J.O.length:Int)))=false→(true=al.ok)∧((List.replicate J.af.toNat false).length≤4611686018427387904∧(List.replicate J.af.toNat false)=al.av)∧(aH.length≤4611686018427387904∧aH=al.au)∧(ke ws2 aS aZ∧ws2.length≤4611686018427387904∧(∀x∈aZ,List.length x≤4611686018427387904)∧view ws2 aS aZ=al.O))∧((decide (bO<(J.O.length:Int)))=true→Il aQ aR J aT aH eS aZ a1 bT aS bO ws2)
def Io (ay:mP Prop) (aB:mP Nat) (aQ:iQ Prop) (aR:iQ Nat) (J:az) (al:Frame) (aT:Nat) (aH:(List a_)) (eS:Int):Prop:=
  ((decide (eS<(J.be.length:Int)))=false→J.O.length≤4611686018427387904→aQ aT aH eS ([]:List (List Bool)) 0 0 ([]:List Nat) 0 ([]:List ad)∧ ∀(aZ:List (List Bool)) (a1:Nat) (bT:Nat) (aS:List Nat) (bO:Int) (ws2:List ad),aQ aT aH eS aZ a1 bT aS bO ws2→(Im aQ aR J al aT aH eS aZ a1 bT aS bO ws2))∧((decide (eS<(J.be.length:Int)))=true→((aH.length+[(a_.mk 1 1)].length)*16≤140737488355328∧aH.length+[(a_.mk 1 1)].length≤4611686018427387904)∧(ay (aT+1) (aH++[(a_.mk 1 1)]) (IntKind.i64.wrap (eS+1))∧aB (aT+1) (aH++[(a_.mk 1 1)]) (IntKind.i64.wrap (eS+1))<aB aT aH eS))
def Ip (ay:mP Prop) (aB:mP Nat) (aQ:iQ Prop) (aR:iQ Nat) (J:az) (al:Frame):Prop:=
  ((!(ea J))=true→(false=al.ok)∧([]=al.av)∧([]=al.au)∧([]=al.O))∧((!(!(ea J)))=true→(0≤J.af∧1*J.af≤140737488355328∧J.af≤4611686018427387904)∧(J.be.length≤4611686018427387904→ay 0 ([]:List a_) 0∧ ∀(aT:Nat) (aH:(List a_)) (eS:Int),ay aT aH eS→(Io ay aB aQ aR J al aT aH eS)))
def Ij (J:az) (al:Frame) (ay:mP Prop) (aB:mP Nat) (aQ:iQ Prop) (aR:iQ Nat):Prop:=
 Ip ay aB aQ aR J al
theorem aeb (J:az) (al:Frame) (ay:mP Prop) (aB:mP Nat) (aQ:iQ Prop) (aR:iQ Nat) (h:Ij J al ay aB aQ aR):b2 Try.prog 32 [.agg (bg false J)] (.agg (b1 true al)):=by
 unfold Ij at h
 refine dI.go (fn:=Try.f32) [(0,.agg (bg false J))] Try.func32 (fun _ _=> ?_)
 show WpS _ (bX Iq 1) _ ⟨bh 45 [(0,.agg (bg false J))],[],[]⟩
 refine qx [1000003] 0 [(2,aA 2 0),(1,aA 1 0)] [2] [] [(2,[an false,aG,aG,aG]),(1,(bg false J))] [] ?_
 unfold Ip at h
 obtain⟨lb,h⟩:=h
 refine cD [] [2] ((!(!(ea J)))=true) ?_ (fun q2=> ?_)
 ·
  replace h:=lb
  refine cD [(8,an (!(ea J)))] [2] (True) ?_ (fun q3=> ?_)
  ·
   refine bL [1000003] 1 ?_
   refine mj 2 (some 7) [(6,.agg (bg false J))] [.agg (bg false J)] (Ra J) (aD.cons (da.agg (aD.cons (.int _ _) (aD.cons cI (aD.cons cI (aD.cons cI (aD.cons (.int _ _) aD.nil)))))) aD.nil) ?_
   exact b5 [(8,an (!(ea J)))] trivial
  refine dJ (fun q4=> ?_) (fun q4=> ?_)
  ·
   replace h:=h q4
   refine ei [1000003] 2 [(9,.agg [an false,aG,aG,aG])] [] [0,1,1] ?_
   exact hB (ci.ret (nk (.agg [an false,aG,aG,aG]) (im.agg (aD.cons (nm h.1) (aD.cons (rn h.2.1) (aD.cons (rn h.2.2.1) (aD.cons (rn h.2.2.2) aD.nil)))))))
  ·
   refine ep ?_
   exact ci.normal (by simp only[q4]<;>rfl) ef
 replace h:=h q2
 obtain⟨la,h⟩:=h
 refine e_ [(3,aA 3 0)] [2] (fun L=>(3,[an true,ak 0 0 (List.replicate J.af.toNat false).length,aG,aG])::L) (fun _=>[⟨0,1,List.map aY (List.replicate J.af.toNat false)⟩]) (True) ?_ (fun c4=> ?_)
 ·
  replace h:=la
  refine bL [1000003] 3 ?_
  have fN:=h
  refine H5 3 (some 12) [(11,ah J.af),(10,aA 1 0)] aY 1 [an false] 0 (fun r=>[⟨0,1,r⟩]) false fN ?_
  exact b5 [(3,aA 3 0),(13,.agg [an true,ak 0 0 (List.replicate J.af.toNat false).length,aG,aG])] trivial
 refine hN ?_
 refine cD [(16,ah (J.be.length:Int)),(17,ah 0)] [3] (J.be.length≤4611686018427387904) ?_ (fun fD=> ?_)
 ·
  refine bL [1000003] 4 ?_
  refine sLen 3 (some 16) [(15,bK c_ J.be),(14,aA 1 1)] c_ J.be (fun iM=> ?_)
  exact b5 [(17,ah 0)] iM
 replace h:=h fD
 refine fo 0 ?_
 refine WpS.mq ?_ (hz (s'':=⟨(bh 45 [(16,ah (J.be.length:Int)),(17,ah 0),(3,aA 3 0),(2,aA 2 0),(1,aA 1 0)]),[(3,[an true,ak 0 0 (List.replicate J.af.toNat false).length,ak 1 0 ([]:List a_).length,aG]),(2,[an false,aG,aG,aG]),(1,(bg false J))],[⟨0,1,List.map aY (List.replicate J.af.toNat false)⟩,⟨0,2,List.map a7 ([]:List a_)⟩]⟩) (Weak.tU (T:=(bh 45 [(16,ah (J.be.length:Int)),(17,ah 0),(3,aA 3 0),(2,aA 2 0),(1,aA 1 0)])) (L:=[(3,[an true,ak 0 0 (List.replicate J.af.toNat false).length,aG,aG]),(2,[an false,aG,aG,aG]),(1,(bg false J))]) (H:=[⟨0,1,List.map aY (List.replicate J.af.toNat false)⟩]) (cells:=[an true,ak 0 0 (List.replicate J.af.toNat false).length,aG,aG]) 3 2 2 (by kernel_rfl) (by kernel_rfl)) (by kernel_rfl))
 obtain⟨jv,h⟩:=h
 refine kf (fun(v:Nat×(List a_)×Int)=>(⟨(bh 45 [(1,aA 1 0),(2,aA 2 0),(3,aA 3 0),(16,ah (J.be.length:Int)),(17,ah (v.2.2))]),[(3,[an true,ak 0 0 (List.replicate J.af.toNat false).length,ak 1 (v.1) (v.2.1).length,aG]),(2,[an false,aG,aG,aG]),(1,(bg false J))],[⟨0,1,List.map aY (List.replicate J.af.toNat false)⟩,⟨(v.1),2,List.map a7 (v.2.1)⟩]⟩:St)) (fun(v:Nat×(List a_)×Int)=>ay (v.1) (v.2.1) (v.2.2)) (fun(v:Nat×(List a_)×Int)=>aB (v.1) (v.2.1) (v.2.2)) (0,([]:List a_),0) (dC []) jv (fun v aX=> ?_)
 obtain⟨aT,aH,eS⟩:=v
 replace h:=h aT aH eS aX
 dsimp only
 refine ei [1000003] 5 [(18,an (decide (eS<(J.be.length:Int))))] [1] [5] ?_
 unfold Io at h
 obtain⟨k_,h⟩:=h
 refine cD [] [0,1,5] ((decide (eS<(J.be.length:Int)))=true) ?_ (fun ix=> ?_)
 ·
  replace h:=k_
  refine dJ (fun h_=> ?_) (fun h_=> ?_)
  ·
   refine ep ?_
   exact ci.normal (by simp only[q2,h_]<;>rfl) ef
  ·
   replace h:=h h_
   refine iY 0 ?_
   refine ci.exit ?_
   refine dZ.exit ?_
   refine cr.here ?_
   refine eb.normal ?_
   refine hN ?_
   refine jW ⟨(bh 45 [(2,aA 2 0),(3,aA 3 0),(27,bK (dw false) J.O),(28,ah (J.O.length:Int)),(29,ah 0)]),[(3,[an true,ak 0 0 (List.replicate J.af.toNat false).length,ak 1 aT aH.length,aG]),(2,[an false,aG,aG,aG]),(1,(bg false J))],[⟨0,1,List.map aY (List.replicate J.af.toNat false)⟩,⟨aT,2,List.map a7 aH⟩]⟩ (J.O.length≤4611686018427387904) ?_ (fun fH=> ?_)
   ·
    refine bL [1000003] 8 ?_
    refine sLen 3 (some 28) [(27,bK (dw false) J.O),(26,aA 1 2)] (dw false) J.O (fun q9=> ?_)
    exact b5 [(29,ah 0)] q9
   replace h:=h fH
   refine fo 2 ?_
   refine WpS.mq ?_ (hz (s'':=⟨(bh 45 [(2,aA 2 0),(3,aA 3 0),(27,bK (dw false) J.O),(28,ah (J.O.length:Int)),(29,ah 0)]),[(3,[an true,ak 0 0 (List.replicate J.af.toNat false).length,ak 1 aT aH.length,ak 2 0 ([]:List ad).length]),(2,[an false,aG,aG,aG]),(1,(bg false J))],[⟨0,1,List.map aY (List.replicate J.af.toNat false)⟩,⟨aT,2,List.map a7 aH⟩,⟨0,5,a0 4 ([]:List ad) ([]:List Nat)⟩]⟩) (Weak.tU (T:=(bh 45 [(2,aA 2 0),(3,aA 3 0),(27,bK (dw false) J.O),(28,ah (J.O.length:Int)),(29,ah 0)])) (L:=[(3,[an true,ak 0 0 (List.replicate J.af.toNat false).length,ak 1 aT aH.length,aG]),(2,[an false,aG,aG,aG]),(1,(bg false J))]) (H:=[⟨0,1,List.map aY (List.replicate J.af.toNat false)⟩,⟨aT,2,List.map a7 aH⟩]) (cells:=[an true,ak 0 0 (List.replicate J.af.toNat false).length,ak 1 aT aH.length,aG]) 3 3 5 (by kernel_rfl) (by kernel_rfl)) (by kernel_rfl))
   refine WpS.mq ?_ (hz (s'':=⟨(bh 45 [(2,aA 2 0),(3,aA 3 0),(27,bK (dw false) J.O),(28,ah (J.O.length:Int)),(29,ah 0)]),[(3,[an true,ak 0 0 (List.replicate J.af.toNat false).length,ak 1 aT aH.length,ak 2 0 ([]:List ad).length]),(2,[an false,aG,aG,aG]),(1,(bg false J))],(⟨0,1,List.map aY (List.replicate J.af.toNat false)⟩::⟨aT,2,List.map a7 aH⟩::⟨0,5,a0 4 ([]:List ad) ([]:List Nat)⟩::⟨0,5,[]⟩::List.map bm ([]:List (List Bool)))⟩) (Weak.w9 (T:=(bh 45 [(2,aA 2 0),(3,aA 3 0),(27,bK (dw false) J.O),(28,ah (J.O.length:Int)),(29,ah 0)])) (L:=[(3,[an true,ak 0 0 (List.replicate J.af.toNat false).length,ak 1 aT aH.length,ak 2 0 ([]:List ad).length]),(2,[an false,aG,aG,aG]),(1,(bg false J))]) (H:=[⟨0,1,List.map aY (List.replicate J.af.toNat false)⟩,⟨aT,2,List.map a7 aH⟩,⟨0,5,a0 4 ([]:List ad) ([]:List Nat)⟩]) 5) (by kernel_rfl))
   obtain⟨mE,h⟩:=h
   refine kf (fun(v:List (List Bool)×Nat×Nat×List Nat×Int×List ad)=>(⟨(bh 45 [(2,aA 2 0),(3,aA 3 0),(27,bK (dw false) J.O),(28,ah (J.O.length:Int)),(29,ah (v.2.2.2.2.1))]),[(3,[an true,ak 0 0 (List.replicate J.af.toNat false).length,ak 1 aT aH.length,ak 2 (v.2.1) (v.2.2.2.2.2).length]),(2,[an false,aG,aG,aG])],(⟨0,1,List.map aY (List.replicate J.af.toNat false)⟩::⟨aT,2,List.map a7 aH⟩::⟨(v.2.1),5,a0 4 (v.2.2.2.2.2) (v.2.2.2.1)⟩::⟨(v.2.2.1),5,[]⟩::List.map bm (v.1))⟩:St)) (fun(v:List (List Bool)×Nat×Nat×List Nat×Int×List ad)=>aQ aT aH eS (v.1) (v.2.1) (v.2.2.1) (v.2.2.2.1) (v.2.2.2.2.1) (v.2.2.2.2.2)) (fun(v:List (List Bool)×Nat×Nat×List Nat×Int×List ad)=>aR aT aH eS (v.1) (v.2.1) (v.2.2.1) (v.2.2.2.1) (v.2.2.2.2.1) (v.2.2.2.2.2)) (([]:List (List Bool)),0,0,([]:List Nat),0,([]:List ad)) (dC [1]) mE (fun v aX=> ?_)
   obtain⟨aZ,a1,bT,aS,bO,ws2⟩:=v
   replace h:=h aZ a1 bT aS bO ws2 aX
   dsimp only
   refine ei [1000003] 9 [(30,an (decide (bO<(J.O.length:Int))))] [1] [5] ?_
   unfold Im at h
   obtain⟨kv,h⟩:=h
   refine cD [] [0,1,5] ((decide (bO<(J.O.length:Int)))=true) ?_ (fun j7=> ?_)
   ·
    replace h:=kv
    refine dJ (fun hS=> ?_) (fun hS=> ?_)
    ·
     refine ep ?_
     exact ci.normal (by simp only[q2,h_,hS]<;>rfl) ef
    ·
     replace h:=h hS
     refine iY 2 ?_
     refine ci.exit ?_
     refine dZ.exit ?_
     refine cr.here ?_
     refine eb.normal ?_
     refine jW ⟨(bh 45 [(2,aA 2 0)]),[(3,[an true,ak 0 0 (List.replicate J.af.toNat false).length,ak 1 aT aH.length,ak 2 a1 ws2.length]),(2,[an true,ak 0 0 (List.replicate J.af.toNat false).length,ak 1 aT aH.length,ak 2 a1 ws2.length])],(⟨0,1,List.map aY (List.replicate J.af.toNat false)⟩::⟨aT,2,List.map a7 aH⟩::⟨a1,5,a0 4 ws2 aS⟩::⟨bT,5,[]⟩::List.map bm aZ)⟩ (True) ?_ (fun mc=> ?_)
     ·
      refine bL [1000003] 13 ?_
      exact b5 [(44,.agg [an true,ak 0 0 (List.replicate J.af.toNat false).length,ak 1 aT aH.length,ak 2 a1 ws2.length])] trivial
     exact hB (nk (.agg [an true,ak 0 0 (List.replicate J.af.toNat false).length,ak 1 aT aH.length,ak 2 a1 ws2.length]) (im.agg (aD.cons (nm h.1) (aD.cons (rm (sz:=1) (by simp) rfl (v0) h.2.1) (aD.cons (rm (sz:=2) (by simp) rfl (yn) h.2.2.1) (aD.cons (C3 (s:=4) (ws:=ws2) (ids:=aS) (bs:=aZ) (by simp) rfl (fun id k h=>by simpa using h) h.2.2.2) aD.nil))))))
   replace h:=h j7
   unfold Il at h
   obtain⟨ii,h⟩:=h
   refine e_ [] [5] (fun L=>(5,(dw false (nth J.O bO)))::hY 0 3 (ak 2 (a1+1) (ws2++[(ad.mk 0 0 (List.replicate ((nth J.O bO).af.length:Int).toNat false) false 0)]).length) L) (fun _=>(⟨0,1,List.map aY (List.replicate J.af.toNat false)⟩::⟨aT,2,List.map a7 aH⟩::⟨(a1+1),5,a0 4 (ws2++[(ad.mk 0 0 (List.replicate ((nth J.O bO).af.length:Int).toNat false) false 0)]) (aS++[aZ.length])⟩::⟨(bT+1),5,[[ah 0,ah 0,ak (aZ.length+4) 0 (List.replicate ((nth J.O bO).af.length:Int).toNat false).length,an false,ah 0]]⟩::List.map bm (aZ++[(List.replicate ((nth J.O bO).af.length:Int).toNat false)]))) (True) ?_ (fun hF=> ?_)
   ·
    replace h:=ii
    refine fo 3 ?_
    obtain⟨iz,h⟩:=h
    refine e_ [(5,aA 5 0)] [5] (fun L=>(5,(dw false (nth J.O bO)))::L) id (True) ?_ (fun iy=> ?_)
    ·
     replace h:=iz
     refine bL [1000003] 10 ?_
     have ku:=h
     refine ld 1 (some 31) [] (dw false) J.O 5 ku ?_
     exact b5 [(5,aA 5 0),(32,.agg (dw false (nth J.O bO)))] trivial
    refine nj [1000003] 11 ad_ aea [] ?_
    refine Jn 5 (some 37) [(36,bK c_ (nth J.O bO).af),(35,aA 5 0),(34,ak 2 a1 ws2.length),(33,aA 3 3)] c_ (nth J.O bO).af ?_
    obtain⟨ha,h⟩:=h
    refine agk 1 (some 38) [] 1 [an false] (fun r=>pD Try.prog (jg Iq 16025) [0,1] [(37,ah ((nth J.O bO).af.length:Int)),(36,bK c_ (nth J.O bO).af),(35,aA 5 0),(34,ak 2 a1 ws2.length),(33,aA 3 3),(5,aA 5 0),(2,aA 2 0),(3,aA 3 0),(27,bK (dw false) J.O),(28,ah (J.O.length:Int)),(29,ah bO)] [(5,(dw false (nth J.O bO))),(3,[an true,ak 0 0 (List.replicate J.af.toNat false).length,ak 1 aT aH.length,ak 2 a1 ws2.length]),(2,[an false,aG,aG,aG])] r) (aZ.length+4) (⟨0,1,List.map aY (List.replicate J.af.toNat false)⟩::⟨aT,2,List.map a7 aH⟩::⟨a1,5,a0 4 ws2 aS⟩::⟨bT,5,[]⟩::List.map bm (aZ++[(List.replicate ((nth J.O bO).af.length:Int).toNat false)])) ha (by simp) (by simp only[List.cons_append,rM]) (th (ψ:=((true=true∧true=true∧((aA 3 3:AV)=aA 3 3))∧((true=true∧true=true∧((ak 2 a1 ws2.length:AV)=ak 2 a1 ws2.length))∧True))) (by kernel_rfl) ⟨⟨rfl,rfl,rfl⟩,⟨⟨rfl,rfl,rfl⟩,trivial⟩⟩) ?_
    refine Aa 2 [(40,.ref 3 (bT+1) 0 1 true),(39,.agg [ah 0,ah 0,ak (aZ.length+4) 0 (List.replicate ((nth J.O bO).af.length:Int).toNat false).length,an false,ah 0])] [(5,(dw false (nth J.O bO))),(3,[an true,ak 0 0 (List.replicate J.af.toNat false).length,ak 1 aT aH.length,ak 2 a1 ws2.length]),(2,[an false,aG,aG,aG])] (⟨0,1,List.map aY (List.replicate J.af.toNat false)⟩::⟨aT,2,List.map a7 aH⟩::⟨a1,5,a0 4 ws2 aS⟩::⟨(bT+1),5,[[ah 0,ah 0,ak (aZ.length+4) 0 (List.replicate ((nth J.O bO).af.length:Int).toNat false).length,an false,ah 0]]⟩::List.map bm (aZ++[(List.replicate ((nth J.O bO).af.length:Int).toNat false)])) (φ:=pD Try.prog (jg Iq 16025) [0,1] [(39,.agg [ah 0,ah 0,ak (aZ.length+4) 0 (List.replicate ((nth J.O bO).af.length:Int).toNat false).length,an false,ah 0]),(38,ak (aZ.length+4) 0 (List.replicate ((nth J.O bO).af.length:Int).toNat false).length),(37,ah ((nth J.O bO).af.length:Int)),(36,bK c_ (nth J.O bO).af),(35,aA 5 0),(34,ak 2 a1 ws2.length),(33,aA 3 3),(5,aA 5 0),(2,aA 2 0),(3,aA 3 0),(27,bK (dw false) J.O),(28,ah (J.O.length:Int)),(29,ah bO)] [(5,(dw false (nth J.O bO))),(3,[an true,ak 0 0 (List.replicate J.af.toNat false).length,ak 1 aT aH.length,ak 2 a1 ws2.length]),(2,[an false,aG,aG,aG])] (⟨0,1,List.map aY (List.replicate J.af.toNat false)⟩::⟨aT,2,List.map a7 aH⟩::⟨a1,5,a0 4 ws2 aS⟩::⟨(bT+1),5,[[ah 0,ah 0,ak (aZ.length+4) 0 (List.replicate ((nth J.O bO).af.length:Int).toNat false).length,an false,ah 0]]⟩::List.map bm (aZ++[(List.replicate ((nth J.O bO).af.length:Int).toNat false)]))) (th (ψ:=((true=true∧true=true∧((aA 3 3:AV)=aA 3 3))∧((true=true∧true=true∧((ak 2 a1 ws2.length:AV)=ak 2 a1 ws2.length))∧True))) (by kernel_rfl) ⟨⟨rfl,rfl,rfl⟩,⟨⟨rfl,rfl,rfl⟩,trivial⟩⟩) ?_
    have ih:=h
    refine SW 1 (some 41) [] 4 2 a1 (bT+1) 56 ws2 aS (ad.mk 0 0 (List.replicate ((nth J.O bO).af.length:Int).toNat false) false 0) aZ.length (fun _=>True) (fun r=>(⟨0,1,List.map aY (List.replicate J.af.toNat false)⟩::⟨aT,2,List.map a7 aH⟩::⟨(a1+1),5,r⟩::⟨(bT+1),5,[[ah 0,ah 0,ak (aZ.length+4) 0 (List.replicate ((nth J.O bO).af.length:Int).toNat false).length,an false,ah 0]]⟩::List.map bm (aZ++[(List.replicate ((nth J.O bO).af.length:Int).toNat false)]))) ih.1 ih.2 trivial ?_
    refine Aa 2 [(42,aA 3 3)] [(5,(dw false (nth J.O bO))),(3,[an true,ak 0 0 (List.replicate J.af.toNat false).length,ak 1 aT aH.length,ak 2 (a1+1) (ws2++[(ad.mk 0 0 (List.replicate ((nth J.O bO).af.length:Int).toNat false) false 0)]).length]),(2,[an false,aG,aG,aG])] (⟨0,1,List.map aY (List.replicate J.af.toNat false)⟩::⟨aT,2,List.map a7 aH⟩::⟨(a1+1),5,a0 4 (ws2++[(ad.mk 0 0 (List.replicate ((nth J.O bO).af.length:Int).toNat false) false 0)]) (aS++[aZ.length])⟩::⟨(bT+1),5,[[ah 0,ah 0,ak (aZ.length+4) 0 (List.replicate ((nth J.O bO).af.length:Int).toNat false).length,an false,ah 0]]⟩::List.map bm (aZ++[(List.replicate ((nth J.O bO).af.length:Int).toNat false)])) (φ:=True) trivial ?_
    refine xR [] ?_
    refine cr.normal ?_
    exact ci.normal trivial ef
   unfold Ik at h
   refine bL [1000003] 12 ?_
   refine dX [(29,ah (IntKind.i64.wrap (bO+1))),(43,ah (IntKind.i64.wrap (bO+1)))] ?_
   exact dZ.again ((aZ++[(List.replicate ((nth J.O bO).af.length:Int).toNat false)]),(a1+1),(bT+1),(aS++[aZ.length]),(IntKind.i64.wrap (bO+1)),(ws2++[(ad.mk 0 0 (List.replicate ((nth J.O bO).af.length:Int).toNat false) false 0)])) h ((Weak.clear 3 rfl:Weak ⟨(bh 45 [(29,ah (IntKind.i64.wrap (bO+1))),(43,ah (IntKind.i64.wrap (bO+1))),(2,aA 2 0),(3,aA 3 0),(27,bK (dw false) J.O),(28,ah (J.O.length:Int))]),[(5,(dw false (nth J.O bO))),(3,[an true,ak 0 0 (List.replicate J.af.toNat false).length,ak 1 aT aH.length,ak 2 (a1+1) (ws2++[(ad.mk 0 0 (List.replicate ((nth J.O bO).af.length:Int).toNat false) false 0)]).length]),(2,[an false,aG,aG,aG])],(⟨0,1,List.map aY (List.replicate J.af.toNat false)⟩::⟨aT,2,List.map a7 aH⟩::⟨(a1+1),5,a0 4 (ws2++[(ad.mk 0 0 (List.replicate ((nth J.O bO).af.length:Int).toNat false) false 0)]) (aS++[aZ.length])⟩::⟨(bT+1),5,[[ah 0,ah 0,ak (aZ.length+4) 0 (List.replicate ((nth J.O bO).af.length:Int).toNat false).length,an false,ah 0]]⟩::List.map bm (aZ++[(List.replicate ((nth J.O bO).af.length:Int).toNat false)]))⟩ ⟨(bh 45 [(29,ah (IntKind.i64.wrap (bO+1))),(43,ah (IntKind.i64.wrap (bO+1))),(2,aA 2 0),(3,aA 3 0),(27,bK (dw false) J.O),(28,ah (J.O.length:Int))]),[(5,(dw false (nth J.O bO))),(3,[an true,ak 0 0 (List.replicate J.af.toNat false).length,ak 1 aT aH.length,ak 2 (a1+1) (ws2++[(ad.mk 0 0 (List.replicate ((nth J.O bO).af.length:Int).toNat false) false 0)]).length]),(2,[an false,aG,aG,aG])],(⟨0,1,List.map aY (List.replicate J.af.toNat false)⟩::⟨aT,2,List.map a7 aH⟩::⟨(a1+1),5,a0 4 (ws2++[(ad.mk 0 0 (List.replicate ((nth J.O bO).af.length:Int).toNat false) false 0)]) (aS++[aZ.length])⟩::⟨(bT+1),5,[]⟩::List.map bm (aZ++[(List.replicate ((nth J.O bO).af.length:Int).toNat false)]))⟩).trans (dC [5]))
 replace h:=h ix
 obtain⟨ju,h⟩:=h
 refine e_ [] [5] (fun L=>hY 0 2 (ak 1 (aT+1) (aH++[(a_.mk 1 1)]).length) L) (fun H=>eo 1 ⟨(aT+1),2,List.map a7 (aH++[(a_.mk 1 1)])⟩ H) (True) ?_ (fun nM=> ?_)
 ·
  replace h:=ju
  refine fo 1 ?_
  refine bL [1000003] 6 ?_
  have nd:=h
  refine Qf 5 (some 23) [(22,.bD (List.map a7 [(a_.mk 1 1)]) true true),(21,.agg [ah 1,ah 1]),(20,ak 1 aT aH.length),(19,aA 3 2)] a7 aH [(a_.mk 1 1)] (lL true (List.map a7 [(a_.mk 1 1)])) 1 aT 2 16 (fun r=>[⟨0,1,List.map aY (List.replicate J.af.toNat false)⟩,⟨(aT+1),2,r⟩]) rfl nd ?_
  refine CX [(24,aA 3 2)] [(3,[an true,ak 0 0 (List.replicate J.af.toNat false).length,ak 1 (aT+1) (aH++[(a_.mk 1 1)]).length,aG]),(2,[an false,aG,aG,aG]),(1,(bg false J))] [⟨0,1,List.map aY (List.replicate J.af.toNat false)⟩,⟨(aT+1),2,List.map a7 (aH++[(a_.mk 1 1)])⟩] ?_
  refine cr.normal ?_
  exact ci.normal trivial ef
 refine bL [1000003] 7 ?_
 refine dX [(17,ah (IntKind.i64.wrap (eS+1))),(25,ah (IntKind.i64.wrap (eS+1)))] ?_
 exact dZ.again ((aT+1),(aH++[(a_.mk 1 1)]),(IntKind.i64.wrap (eS+1))) h (dC [])
theorem ad8 (J:az):b2 Try.prog 32 [.agg (bg false J)] (.agg (b1 true (en J))):=aeb J (en J) (fun _ x v=>cl J.be.length (fun _=>false) v∧x=List.replicate v.toNat (a_.mk 1 1)) (fun _ _ v=>cy J.be.length v) (fun _ x _ bs _ _ is v ws=>x=List.replicate J.be.length (a_.mk 1 1)∧cl J.O.length (fun _=>false) v∧ws=(J.O.take v.toNat).map (fun w=>hq w.af.length)∧is=List.range ws.length∧bs=ws.map ad.ac) (fun _ _ _ _ _ _ _ v _=>cy J.O.length v) (by
 unfold Ij Ip
 refine⟨fun h=> ?_,fun h=> ?_⟩
 ·have h:ea J=false:=by simpa using h
  unfold en;rw[if_neg (by rw[h];simp)];exact⟨rfl,rfl,rfl,rfl⟩
 have h:ea J=true:=by simpa using h
 have cx:=tj h
 have h1:=cx.c0
 have h2:=cx.sw
 have aP:=cx.O
 have e:en J=⟨true,List.replicate J.af.toNat false,List.replicate J.be.length ⟨1,1⟩,J.O.map fun w=>hq w.af.length⟩:=by unfold en;rw[if_pos h]
 rw[e]
 refine⟨⟨by omega,by omega,by omega⟩,fun aF=>⟨⟨c6 (dd _),rfl⟩,fun g x v aX=> ?_⟩⟩
 obtain⟨aX,rfl⟩:=aX
 have wW:=aX.2.1
 unfold Io
 refine⟨fun hv hm=>⟨⟨?_,c6 (dd _),rfl,rfl,rfl⟩,fun bs a1 bT is k ws cZ=> ?_⟩,fun hv=>⟨⟨?_,?_⟩,⟨(cG (cq aF) aX hv rfl).1,?_⟩,(cG (cq aF) aX hv rfl).2⟩⟩
 ·have: ¬v<(J.be.length:Int):=by simpa using hv
  rw[show v.toNat=J.be.length by omega]
 ·obtain⟨hx,cZ,rfl,rfl,rfl⟩:=cZ
  have qL:=cZ.2.1
  have rW:=cZ.1
  have aL:((J.O.take k.toNat).map fun w=>hq w.af.length).length=k.toNat:=by rw[List.length_map,List.length_take];omega
  obtain⟨fs,fX,fw⟩:=wk ((J.O.take k.toNat).map fun w=>hq w.af.length)
  have Mm:(decide (k<(J.O.length:Int)))=true→1*((nth J.O k).af.length:Int)≤140737488355328:=fun hk=>by
   have:=(cx.af _ (dq (b8 cZ hk).2)).2.1;omega
  unfold Im Il Ik
  refine⟨fun hk=>⟨rfl,⟨by rw[List.length_replicate];omega,rfl⟩,⟨by rw[List.length_replicate];omega,hx⟩,fs,by omega,fun b hb=> ?_,?_⟩,fun hk=>⟨⟨⟨rW,(b8 cZ hk).2⟩,⟨by omega,Mm hk,by have:=Mm hk;omega⟩,by rw[List.length_range],by omega,by omega⟩,⟨hx,(cG (cq hm) cZ hk rfl).1,?_,?_,?_⟩,(cG (cq hm) cZ hk rfl).2⟩⟩
  ·obtain⟨y,hy,rfl⟩:=List.mem_map.1 hb
   obtain⟨w,hw,rfl⟩:=List.mem_map.1 hy
   have:=(cx.af w (List.mem_of_mem_take hw)).2.1
   simp[hq];omega
  ·rw[fw]
   have: ¬k<(J.O.length:Int):=by simpa using hk
   rw[List.take_of_length_le (by omega)]
  ·have b9:=b8 cZ hk
   rw[iE (cq hm) rW (by simpa using hk),show(k+1).toNat=k.toNat+1 by omega,List.take_succ_eq_append_getElem b9.2,←gq b9.2,List.map_append];rfl
  ·rw[List.length_append,List.length_singleton,List.range_succ,List.length_map]
   simp
  ·rw[List.map_append];rfl
 ·rw[List.length_replicate,List.length_singleton];omega
 ·rw[List.length_replicate,List.length_singleton];omega
 ·rw[iE (cq aF) aX.1 (by simpa using hv),show(v+1).toNat=v.toNat+1 by have:=aX.1;omega,List.replicate_succ'])
def ad9:ey Try.prog:=⟨32,[.dr],[.frame],none,fun x=>((en x.1),()),fun x h=>ad8 x.1⟩
noncomputable def ae2:Code:=iI Try.f136
def ae3:List Item:=[ap 0,ap 1,ap 2,ap 3,ap 4,ap 5,ap 6,ap 7,ap 8,ap 9,⟨10,true,false,[]⟩]
def ae4:List (List Nat):=[[],[0],[0,1],[0,1,2],[],[4],[],[6],rg 0 8,rg 0 9,rg 0 10]
abbrev rz (r:Type):Type:=(List a_)→Int→(List a_)→Int→r
def I4 (aQ:rz Prop) (aR:rz Nat) (J:az) (U:Int) (bt:(List a_)) (bP bO:Int) (eU:(List a_)):Prop:=
  aQ bt bO (eU.set (nth (nth [(nth J.O U).a2,(nth J.O U).bB] bO) bP).sw.toNat (a_.mk (nth (nth [(nth J.O U).a2,(nth J.O U).bB] bO) bP).bp (nth eU (nth (nth [(nth J.O U).a2,(nth J.O U).bB] bO) bP).sw).a2)) (IntKind.i64.wrap (bP+1))∧aR bt bO (eU.set (nth (nth [(nth J.O U).a2,(nth J.O U).bB] bO) bP).sw.toNat (a_.mk (nth (nth [(nth J.O U).a2,(nth J.O U).bB] bO) bP).bp (nth eU (nth (nth [(nth J.O U).a2,(nth J.O U).bB] bO) bP).sw).a2)) (IntKind.i64.wrap (bP+1))<aR bt bO eU bP
def I5 (ay:(List a_)→Int→Prop) (aB:(List a_)→Int→Nat) (aQ:rz Prop) (aR:rz Nat) (J:az) (U:Int) (bt:(List a_)) (bP bO:Int) (eU:(List a_)):Prop:=
  ((decide (bP<((nth [(nth J.O U).a2,(nth J.O U).bB] bO).length:Int)))=false→ay eU (IntKind.i64.wrap (bO+1))∧aB eU (IntKind.i64.wrap (bO+1))<aB bt bO)∧((decide (bP<((nth [(nth J.O U).a2,(nth J.O U).bB] bO).length:Int)))=true→((0≤bP∧bP.toNat<(nth [(nth J.O U).a2,(nth J.O U).bB] bO).length)∧(0≤(nth (nth [(nth J.O U).a2,(nth J.O U).bB] bO) bP).sw∧(nth (nth [(nth J.O U).a2,(nth J.O U).bB] bO) bP).sw.toNat<eU.length))∧(I4 aQ aR J U bt bP bO eU))
def I6 (ay:(List a_)→Int→Prop) (aB:(List a_)→Int→Nat) (aQ:rz Prop) (aR:rz Nat) (J:az) (U:Int) (hk:Bool) (aC:List Bool) (aj:List a_) (hw:List ad) (hi:List Nat) (hb:List (List Bool)) (bt:(List a_)) (bO:Int):Prop:=
  ((decide (bO<([(nth J.O U).a2,(nth J.O U).bB].length:Int)))=false→B_ J U hk aC aj hw hi hb aC bt (hw.set U.toNat (ad.mk 1 (nth hw U).ag (nth hw U).ac (nth hw U).aq (nth hw U).ar)) hi hb)∧((decide (bO<([(nth J.O U).a2,(nth J.O U).bB].length:Int)))=true→(0≤bO∧bO.toNat<[(nth J.O U).a2,(nth J.O U).bB].length)∧((nth [(nth J.O U).a2,(nth J.O U).bB] bO).length≤4611686018427387904→aQ bt bO bt 0∧ ∀(eU:(List a_)) (bP:Int),aQ bt bO eU bP→(I5 ay aB aQ aR J U bt bP bO eU)))
def I3 (J:az) (U:Int) (hg:Nat) (hk:Bool) (aC:List Bool) (aj:List a_) (hw:List ad) (hi:List Nat) (hb:List (List Bool)) (ay:(List a_)→Int→Prop) (aB:(List a_)→Int→Nat) (aQ:rz Prop) (aR:rz Nat):Prop:=
 (0≤U∧U.toNat<J.O.length)∧(((0≤U∧U.toNat<hw.length)∧(hw.length=hi.length∧U.toNat<hw.length))∧([(nth J.O U).a2,(nth J.O U).bB].length≤4611686018427387904→ay aj 0∧ ∀(bt:(List a_)) (bO:Int),ay bt bO→(I6 ay aB aQ aR J U hk aC aj hw hi hb bt bO)))
theorem ae5 (J:az) (U:Int) (hg:Nat) (hk:Bool) (aC:List Bool) (aj:List a_) (hw:List ad) (hi:List Nat) (hb:List (List Bool)) (ay:(List a_)→Int→Prop) (aB:(List a_)→Int→Nat) (aQ:rz Prop) (aR:rz Nat) (h:I3 J U hg hk aC aj hw hi hb ay aB aQ aR):dI Try.prog 136 [.agg (bg false J),.ptr 0 hg 0 0,ah U] (⟨hg,4,[[an hk,ak 1 0 aC.length,ak 2 0 aj.length,ak 3 0 hw.length]]⟩::⟨0,1,List.map aY aC⟩::⟨0,2,List.map a7 aj⟩::⟨0,5,a0 4 hw hi⟩::List.map bm hb) (fun r H'=> ∃(uD:List a_) (e3:List ad),r= .tup []∧H'=(⟨hg,4,[[an hk,ak 1 0 aC.length,ak 2 0 uD.length,ak 3 0 e3.length]]⟩::⟨0,1,List.map aY aC⟩::⟨0,2,List.map a7 uD⟩::⟨0,5,a0 4 e3 hi⟩::List.map bm hb)∧B_ J U hk aC aj hw hi hb aC uD e3 hi hb):=by
 unfold I3 at h
 refine dI.go (fn:=Try.f136) [(0,.agg (bg false J)),(1,.ptr 0 hg 0 0),(2,ah U)] Try.func136 (fun _ _=> ?_)
 show WpS _ (bX ae2 1) _ ⟨bh 51 [(0,.agg (bg false J)),(1,.ptr 0 hg 0 0),(2,ah U)],[],(⟨hg,4,[[an hk,ak 1 0 aC.length,ak 2 0 aj.length,ak 3 0 hw.length]]⟩::⟨0,1,List.map aY aC⟩::⟨0,2,List.map a7 aj⟩::⟨0,5,a0 4 hw hi⟩::List.map bm hb)⟩
 refine sK [] 0 [(3,aA 3 0)] [1] [0,1,2] (fun L=>(3,(bg false J))::L) id ?_
 obtain⟨nM,h⟩:=h
 refine e_ [(6,aA 6 0)] [0,1,2] (fun L=>(6,(dw false (nth J.O U)))::L) id (True) ?_ (fun q2=> ?_)
 ·
  replace h:=nM
  refine bL [] 1 ?_
  have q3:=h
  refine ld 4 (some 14) [(13,ah U),(12,bK (dw false) J.O),(11,aA 3 2)] (dw false) J.O 5 q3 ?_
  exact b5 [(6,aA 6 0),(15,.agg (dw false (nth J.O U)))] trivial
 obtain⟨mE,h⟩:=h
 refine e_ [] [2] id (fun H=>eo 3 ⟨0,5,a0 4 (hw.set U.toNat (ad.mk 1 (nth hw U).ag (nth hw U).ac (nth hw U).aq (nth hw U).ar)) hi⟩ H) (True) ?_ (fun q4=> ?_)
 ·
  replace h:=mE
  refine bL [] 2 ?_
  refine nP 4 (some 19) (ak 3 0 hw.length) [(18,.ptr 0 hg 0 3),(17,.ptr 0 hg 0 0),(16,.ptr 0 hg 0 0)] (φ:=hg=hg) rfl ?_
  obtain⟨agW,h⟩:=h
  refine lM 2 (some 21) [(20,ah U)] 3 0 5 agW ?_
  have cR:=h
  refine j8 2 none [(22,.ptr 3 0 (0+U.toNat) 0)] (a0 4 hw hi) U 0 1 0 [ah 1] 3 (a0 4 (hw.set U.toNat (ad.mk 1 (nth hw U).ag (nth hw U).ac (nth hw U).aq (nth hw U).ar)) hi) (dO cR.1 cR.2) (kj cR.1 cR.2) ?_
  exact b5 [] trivial
 refine cD [(27,.bD (List.map (i_ dp false) [(nth J.O U).a2,(nth J.O U).bB]) true false),(28,ah ([(nth J.O U).a2,(nth J.O U).bB].length:Int)),(29,ah 0)] [0,1,1] ([(nth J.O U).a2,(nth J.O U).bB].length≤4611686018427387904) ?_ (fun c4=> ?_)
 ·
  refine bL [] 3 ?_
  refine sLen 6 (some 28) [(27,.bD (List.map (i_ dp false) [(nth J.O U).a2,(nth J.O U).bB]) true false),(26,bK dp (nth J.O U).bB),(25,aA 6 2),(24,bK dp (nth J.O U).a2),(23,aA 6 1)] (i_ dp false) [(nth J.O U).a2,(nth J.O U).bB] (fun fN=> ?_)
  exact b5 [(29,ah 0)] fN
 replace h:=h c4
 refine fo 0 ?_
 obtain⟨kv,h⟩:=h
 refine kf (fun(v:(List a_)×Int)=>(⟨(bh 51 [(1,.ptr 0 hg 0 0),(27,.bD (List.map (i_ dp false) [(nth J.O U).a2,(nth J.O U).bB]) true false),(28,ah ([(nth J.O U).a2,(nth J.O U).bB].length:Int)),(29,ah (v.2))]),[],(⟨hg,4,[[an hk,ak 1 0 aC.length,ak 2 0 (v.1).length,ak 3 0 hw.length]]⟩::⟨0,1,List.map aY aC⟩::⟨0,2,List.map a7 (v.1)⟩::⟨0,5,a0 4 (hw.set U.toNat (ad.mk 1 (nth hw U).ag (nth hw U).ac (nth hw U).aq (nth hw U).ar)) hi⟩::List.map bm hb)⟩:St)) (fun(v:(List a_)×Int)=>ay (v.1) (v.2)) (fun(v:(List a_)×Int)=>aB (v.1) (v.2)) (aj,0) (dC [6,3]) kv (fun v aX=> ?_)
 obtain⟨bt,bO⟩:=v
 replace h:=h bt bO aX
 dsimp only
 refine ei [] 4 [(30,an (decide (bO<([(nth J.O U).a2,(nth J.O U).bB].length:Int))))] [1] [4] ?_
 unfold I6 at h
 obtain⟨ii,h⟩:=h
 refine cD [] [0,1,4] ((decide (bO<([(nth J.O U).a2,(nth J.O U).bB].length:Int)))=true) ?_ (fun iM=> ?_)
 ·
  replace h:=ii
  refine dJ (fun gX=> ?_) (fun gX=> ?_)
  ·
   refine ep ?_
   exact ci.normal (by simp only[gX]<;>rfl) ef
  ·
   replace h:=h gX
   refine iY 0 ?_
   refine ci.exit ?_
   refine dZ.exit ?_
   refine cr.here ?_
   refine A3 (t0) [] ?_
   exact⟨bt,(hw.set U.toNat (ad.mk 1 (nth hw U).ag (nth hw U).ac (nth hw U).aq (nth hw U).ar)),rfl,(by rw[show hw.length=(hw.set U.toNat (ad.mk 1 (nth hw U).ag (nth hw U).ac (nth hw U).aq (nth hw U).ar)).length by simp]<;>rfl),h⟩
 replace h:=h iM
 refine hN ?_
 refine fo 1 ?_
 obtain⟨iz,h⟩:=h
 refine cD [(8,bK dp (nth [(nth J.O U).a2,(nth J.O U).bB] bO))] [4] (True) ?_ (fun ix=> ?_)
 ·
  replace h:=iz
  refine bL [] 5 ?_
  have h_:=h
  refine ld 1 (some 31) [] (i_ dp false) [(nth J.O U).a2,(nth J.O U).bB] 1 h_ ?_
  exact b5 [(8,bK dp (nth [(nth J.O U).a2,(nth J.O U).bB] bO)),(32,bK dp (nth [(nth J.O U).a2,(nth J.O U).bB] bO))] trivial
 refine cD [(33,bK dp (nth [(nth J.O U).a2,(nth J.O U).bB] bO)),(34,ah ((nth [(nth J.O U).a2,(nth J.O U).bB] bO).length:Int)),(35,ah 0)] [0,1,4] ((nth [(nth J.O U).a2,(nth J.O U).bB] bO).length≤4611686018427387904) ?_ (fun fH=> ?_)
 ·
  refine bL [] 6 ?_
  refine sLen 2 (some 34) [(33,bK dp (nth [(nth J.O U).a2,(nth J.O U).bB] bO))] dp (nth [(nth J.O U).a2,(nth J.O U).bB] bO) (fun q9=> ?_)
  exact b5 [(35,ah 0)] q9
 replace h:=h fH
 refine fo 2 ?_
 obtain⟨ha,h⟩:=h
 refine kf (fun(v:(List a_)×Int)=>(⟨(bh 51 [(1,.ptr 0 hg 0 0),(27,.bD (List.map (i_ dp false) [(nth J.O U).a2,(nth J.O U).bB]) true false),(28,ah ([(nth J.O U).a2,(nth J.O U).bB].length:Int)),(29,ah bO),(33,bK dp (nth [(nth J.O U).a2,(nth J.O U).bB] bO)),(34,ah ((nth [(nth J.O U).a2,(nth J.O U).bB] bO).length:Int)),(35,ah (v.2))]),[],(⟨hg,4,[[an hk,ak 1 0 aC.length,ak 2 0 (v.1).length,ak 3 0 hw.length]]⟩::⟨0,1,List.map aY aC⟩::⟨0,2,List.map a7 (v.1)⟩::⟨0,5,a0 4 (hw.set U.toNat (ad.mk 1 (nth hw U).ag (nth hw U).ac (nth hw U).aq (nth hw U).ar)) hi⟩::List.map bm hb)⟩:St)) (fun(v:(List a_)×Int)=>aQ bt bO (v.1) (v.2)) (fun(v:(List a_)×Int)=>aR bt bO (v.1) (v.2)) (bt,0) (dC []) ha (fun v aX=> ?_)
 obtain⟨eU,bP⟩:=v
 replace h:=h eU bP aX
 dsimp only
 refine ei [] 7 [(36,an (decide (bP<((nth [(nth J.O U).a2,(nth J.O U).bB] bO).length:Int))))] [1] [7] ?_
 unfold I5 at h
 obtain⟨ih,h⟩:=h
 refine cD [] [0,1,7] ((decide (bP<((nth [(nth J.O U).a2,(nth J.O U).bB] bO).length:Int)))=true) ?_ (fun j7=> ?_)
 ·
  replace h:=ih
  refine dJ (fun hS=> ?_) (fun hS=> ?_)
  ·
   refine ep ?_
   exact ci.normal (by simp only[iM,hS]<;>rfl) ef
  ·
   replace h:=h hS
   refine iY 2 ?_
   refine ci.exit ?_
   refine dZ.exit ?_
   refine cr.here ?_
   refine cr.normal ?_
   refine eb.normal ?_
   refine bL [] 11 ?_
   refine dX [(29,ah (IntKind.i64.wrap (bO+1))),(50,ah (IntKind.i64.wrap (bO+1)))] ?_
   exact dZ.again (eU,(IntKind.i64.wrap (bO+1))) h (dC [])
 replace h:=h j7
 obtain⟨jM,h⟩:=h
 refine e_ [] [7] (fun L=>(10,(dp (nth (nth [(nth J.O U).a2,(nth J.O U).bB] bO) bP)))::L) (fun H=>eo 2 ⟨0,2,List.map a7 (eU.set (nth (nth [(nth J.O U).a2,(nth J.O U).bB] bO) bP).sw.toNat (a_.mk (nth (nth [(nth J.O U).a2,(nth J.O U).bB] bO) bP).bp (nth eU (nth (nth [(nth J.O U).a2,(nth J.O U).bB] bO) bP).sw).a2))⟩ H) (True) ?_ (fun mc=> ?_)
 ·
  replace h:=jM
  refine fo 3 ?_
  obtain⟨ku,h⟩:=h
  refine e_ [(10,aA 10 0)] [7] (fun L=>(10,(dp (nth (nth [(nth J.O U).a2,(nth J.O U).bB] bO) bP)))::L) id (True) ?_ (fun hF=> ?_)
  ·
   replace h:=ku
   refine bL [] 8 ?_
   have iy:=h
   refine ld 1 (some 37) [] dp (nth [(nth J.O U).a2,(nth J.O U).bB] bO) 2 iy ?_
   exact b5 [(10,aA 10 0),(38,.agg (dp (nth (nth [(nth J.O U).a2,(nth J.O U).bB] bO) bP)))] trivial
  refine nj [] 9 ae3 ae4 [] ?_
  refine Dc 4 (some 42) (ak 2 0 eU.length) [(41,.ptr 0 hg 0 2),(40,.ptr 0 hg 0 0),(39,.ptr 0 hg 0 0)] (φ:=hg=hg) rfl ?_
  have Tv:=h
  refine vw 5 (some 47) [(46,ah (nth (nth [(nth J.O U).a2,(nth J.O U).bB] bO) bP).bp),(45,aA 10 1),(44,ah (nth (nth [(nth J.O U).a2,(nth J.O U).bB] bO) bP).sw),(43,aA 10 0)] 2 0 2 Tv ?_
  refine agl 2 none [(48,.ptr 2 0 (0+(nth (nth [(nth J.O U).a2,(nth J.O U).bB] bO) bP).sw.toNat) 0)] a7 eU (nth (nth [(nth J.O U).a2,(nth J.O U).bB] bO) bP).sw 0 1 0 [ah (nth (nth [(nth J.O U).a2,(nth J.O U).bB] bO) bP).bp] (fun _=>True) (fun r=>(⟨hg,4,[[an hk,ak 1 0 aC.length,ak 2 0 eU.length,ak 3 0 hw.length]]⟩::⟨0,1,List.map aY aC⟩::⟨0,2,r⟩::⟨0,5,a0 4 (hw.set U.toNat (ad.mk 1 (nth hw U).ag (nth hw U).ac (nth hw U).aq (nth hw U).ar)) hi⟩::List.map bm hb)) (a_.mk (nth (nth [(nth J.O U).a2,(nth J.O U).bB] bO) bP).bp (nth eU (nth (nth [(nth J.O U).a2,(nth J.O U).bB] bO) bP).sw).a2) (by simpa using Tv.2) trivial ?_
  refine xR [] ?_
  refine cr.normal ?_
  exact ci.normal trivial ef
 unfold I4 at h
 refine bL [] 10 ?_
 refine dX [(35,ah (IntKind.i64.wrap (bP+1))),(49,ah (IntKind.i64.wrap (bP+1)))] ?_
 exact dZ.again ((eU.set (nth (nth [(nth J.O U).a2,(nth J.O U).bB] bO) bP).sw.toNat (a_.mk (nth (nth [(nth J.O U).a2,(nth J.O U).bB] bO) bP).bp (nth eU (nth (nth [(nth J.O U).a2,(nth J.O U).bB] bO) bP).sw).a2)),(IntKind.i64.wrap (bP+1))) h (hz (s':=⟨(bh 51 [(1,.ptr 0 hg 0 0),(27,.bD (List.map (i_ dp false) [(nth J.O U).a2,(nth J.O U).bB]) true false),(28,ah ([(nth J.O U).a2,(nth J.O U).bB].length:Int)),(29,ah bO),(33,bK dp (nth [(nth J.O U).a2,(nth J.O U).bB] bO)),(34,ah ((nth [(nth J.O U).a2,(nth J.O U).bB] bO).length:Int)),(35,ah (IntKind.i64.wrap (bP+1)))]),[],(⟨hg,4,[[an hk,ak 1 0 aC.length,ak 2 0 eU.length,ak 3 0 hw.length]]⟩::⟨0,1,List.map aY aC⟩::⟨0,2,List.map a7 (eU.set (nth (nth [(nth J.O U).a2,(nth J.O U).bB] bO) bP).sw.toNat (a_.mk (nth (nth [(nth J.O U).a2,(nth J.O U).bB] bO) bP).bp (nth eU (nth (nth [(nth J.O U).a2,(nth J.O U).bB] bO) bP).sw).a2))⟩::⟨0,5,a0 4 (hw.set U.toNat (ad.mk 1 (nth hw U).ag (nth hw U).ac (nth hw U).aq (nth hw U).ar)) hi⟩::List.map bm hb)⟩) (dC (n:=51) (A':=[(1,.ptr 0 hg 0 0),(27,.bD (List.map (i_ dp false) [(nth J.O U).a2,(nth J.O U).bB]) true false),(28,ah ([(nth J.O U).a2,(nth J.O U).bB].length:Int)),(29,ah bO),(33,bK dp (nth [(nth J.O U).a2,(nth J.O U).bB] bO)),(34,ah ((nth [(nth J.O U).a2,(nth J.O U).bB] bO).length:Int)),(35,ah (IntKind.i64.wrap (bP+1)))]) (L':=[]) [10]) (congrArg (fun z=>(⟨(bh 51 [(1,.ptr 0 hg 0 0),(27,.bD (List.map (i_ dp false) [(nth J.O U).a2,(nth J.O U).bB]) true false),(28,ah ([(nth J.O U).a2,(nth J.O U).bB].length:Int)),(29,ah bO),(33,bK dp (nth [(nth J.O U).a2,(nth J.O U).bB] bO)),(34,ah ((nth [(nth J.O U).a2,(nth J.O U).bB] bO).length:Int)),(35,ah (IntKind.i64.wrap (bP+1)))]),[],(⟨hg,4,[[an hk,ak 1 0 aC.length,ak 2 0 z,ak 3 0 hw.length]]⟩::⟨0,1,List.map aY aC⟩::⟨0,2,List.map a7 (eU.set (nth (nth [(nth J.O U).a2,(nth J.O U).bB] bO) bP).sw.toNat (a_.mk (nth (nth [(nth J.O U).a2,(nth J.O U).bB] bO) bP).bp (nth eU (nth (nth [(nth J.O U).a2,(nth J.O U).bB] bO) bP).sw).a2))⟩::⟨0,5,a0 4 (hw.set U.toNat (ad.mk 1 (nth hw U).ag (nth hw U).ac (nth hw U).aq (nth hw U).ar)) hi⟩::List.map bm hb)⟩:St)) (show eU.length=(eU.set (nth (nth [(nth J.O U).a2,(nth J.O U).bB] bO) bP).sw.toNat (a_.mk (nth (nth [(nth J.O U).a2,(nth J.O U).bB] bO) bP).bp (nth eU (nth (nth [(nth J.O U).a2,(nth J.O U).bB] bO) bP).sw).a2)).length by simp)))
theorem ae1 (J:az) (U:Int) (hg:Nat) (hk:Bool) (aC:List Bool) (aj:List a_) (hw:List ad) (hi:List Nat) (hb:List (List Bool)) (aI:NZ J U hk aC aj hw hi hb):dI Try.prog 136 [.agg (bg false J),.ptr 0 hg 0 0,ah U] (⟨hg,4,[[an hk,ak 1 0 aC.length,ak 2 0 aj.length,ak 3 0 hw.length]]⟩::⟨0,1,List.map aY aC⟩::⟨0,2,List.map a7 aj⟩::⟨0,5,a0 4 hw hi⟩::List.map bm hb) (fun r H'=> ∃(uD:List a_) (e3:List ad),r= .tup []∧H'=(⟨hg,4,[[an hk,ak 1 0 aC.length,ak 2 0 uD.length,ak 3 0 e3.length]]⟩::⟨0,1,List.map aY aC⟩::⟨0,2,List.map a7 uD⟩::⟨0,5,a0 4 e3 hi⟩::List.map bm hb)∧B_ J U hk aC aj hw hi hb aC uD e3 hi hb):=ae5 J U hg hk aC aj hw hi hb (fun x v=>cl ((kV (nth J.O U)).length:Int) (fun _=>false) v∧x=jP ((kV (nth J.O U)).take v.toNat).flatten aj) (fun _ v=>cy ((kV (nth J.O U)).length:Int) v) (fun x v y k=>cl ((nth (kV (nth J.O U)) v).length:Int) (fun _=>false) k∧y=jP ((nth (kV (nth J.O U)) v).take k.toNat) x) (fun _ v _ k=>cy ((nth (kV (nth J.O U)) v).length:Int) k) (by
 unfold I3
 obtain⟨G,cx,t0,t1,t2,YV⟩:=aI
 have bf:U.toNat<hw.length:=by omega
 have ja:U.toNat<J.O.length:=by omega
 have b3:=cx.a2 _ (dq ja)
 have wS:=cx.sw
 have dz:=G.oR bf
 have eC:=dz.setState 1
 refine⟨⟨t0,ja⟩,⟨⟨t0,bf⟩,dz.fA⟩,fun aF=>⟨⟨c6 (dd _),rfl⟩,fun x v aX=> ?_⟩⟩
 obtain⟨aX,rfl⟩:=aX
 unfold I6
 refine⟨fun hv=> ?_,fun hv=>⟨b8 aX hv,fun hm=>⟨⟨c6 (dd _),rfl⟩,fun y k cZ=> ?_⟩⟩⟩
 ·have kq: ¬v<((kV (nth J.O U)).length:Int):=by simpa[kV] using hv
  have h1:=aX.2.1
  refine⟨?_,eC.G,eC.g0⟩
  rw[List.take_of_length_le (by omega),S2]
 ·obtain⟨cZ,rfl⟩:=cZ
  have b9:=b8 aX hv
  unfold I5 I4
  refine⟨fun hk=>⟨⟨(cG (cq aF) aX hv rfl).1,?_⟩,(cG (cq aF) aX hv rfl).2⟩,fun hk=>⟨⟨b8 cZ hk,?_⟩,⟨(cG (cq hm) cZ hk rfl).1,?_⟩,(cG (cq hm) cZ hk rfl).2⟩⟩
  ·have jH: ¬k<((nth (kV (nth J.O U)) v).length:Int):=of_decide_eq_false hk
   have h1:=cZ.2.1
   rw[iE (cq aF) b9.1 (by simpa using hv),show(v+1).toNat=v.toNat+1 by omega,ago b9.2,List.take_of_length_le (by omega),gq b9.2]
  ·have hx:=b3.2.2 _ (agp b9.2 (dq (b8 cZ hk).2))
   have e:(jP (List.take k.toNat (nth (kV (nth J.O U)) v)) (jP (List.take v.toNat (kV (nth J.O U))).flatten aj)).length=aj.length:=by rw[zZ,zZ]
   exact⟨hx.1,by rw[e];have:=hx.2;show(nth (nth (kV (nth J.O U)) v) k).sw.toNat<_;omega⟩
  ·have qL:=b8 cZ hk
   rw[iE (cq hm) cZ.1 (by simpa using hk),show(k+1).toNat=k.toNat+1 by omega,Qq qL.2,←gq qL.2]
   rfl)
noncomputable def aeI:Code:=iI Try.f137
def IL (J:az) (U:Int) (hk:Bool) (aC:List Bool) (aj:List a_) (hw:List ad) (hi:List Nat) (hb:List (List Bool)):Prop:=
  uS J U hk aC aj hw hi hb aC aj ((hw.set U.toNat (ad.mk 3 (nth hw U).ag (nth hw U).ac (nth hw U).aq (nth hw U).ar)).set U.toNat (ad.mk (nth (hw.set U.toNat (ad.mk 3 (nth hw U).ag (nth hw U).ac (nth hw U).aq (nth hw U).ar)) U).ao (nth (hw.set U.toNat (ad.mk 3 (nth hw U).ag (nth hw U).ac (nth hw U).aq (nth hw U).ar)) U).ag (nth (hw.set U.toNat (ad.mk 3 (nth hw U).ag (nth hw U).ac (nth hw U).aq (nth hw U).ar)) U).ac (nth (hw.set U.toNat (ad.mk 3 (nth hw U).ag (nth hw U).ac (nth hw U).aq (nth hw U).ar)) U).aq J.dx)) hi hb 0
def IM (J:az) (U:Int) (hk:Bool) (aC:List Bool) (aj:List a_) (hw:List ad) (hi:List Nat) (hb:List (List Bool)) (bP:Int):Prop:=
  ((nth aC (nth (nth J.O U).cu bP))&&(nth hw U).aq)=true→(hw.length=hi.length∧U.toNat<hw.length)∧(((hw.set U.toNat (ad.mk 3 (nth hw U).ag (nth hw U).ac (nth hw U).aq (nth hw U).ar)).length=hi.length∧U.toNat<(hw.set U.toNat (ad.mk 3 (nth hw U).ag (nth hw U).ac (nth hw U).aq (nth hw U).ar)).length)∧(IL J U hk aC aj hw hi hb))
def IN (ay:Int→Prop) (aB:Int→Nat) (J:az) (U:Int) (hk:Bool) (aC:List Bool) (aj:List a_) (hw:List ad) (hi:List Nat) (hb:List (List Bool)) (bP:Int):Prop:=
  ((0≤bP∧bP.toNat<(nth J.O U).cu.length)∧(((0≤(nth (nth J.O U).cu bP)∧(nth (nth J.O U).cu bP).toNat<aC.length)∧((nth aC (nth (nth J.O U).cu bP))=true→hw.length=hi.length∧U.toNat<hw.length))∧(IM J U hk aC aj hw hi hb bP)))∧((!((nth aC (nth (nth J.O U).cu bP))&&(nth hw U).aq))=true→ay (IntKind.i64.wrap (bP+1))∧aB (IntKind.i64.wrap (bP+1))<aB bP)
def IP (ay:Int→Prop) (aB:Int→Nat) (J:az) (U:Int) (hk:Bool) (aC:List Bool) (aj:List a_) (hw:List ad) (hi:List Nat) (hb:List (List Bool)):Prop:=
  ay 0∧ ∀(bP:Int),ay bP→(((decide (bP<((nth J.O U).cu.length:Int)))=false→(B2 U hk aC aj hw hi hb)∧(∀(vA:List ad) (i18:List Nat) (vS:List (List Bool)),uN U hk aC aj hw hi hb aC aj vA i18 vS→(uS J U hk aC aj hw hi hb aC aj vA i18 vS 0)))∧((decide (bP<((nth J.O U).cu.length:Int)))=true→IN ay aB J U hk aC aj hw hi hb bP))
def IQ (ay:Int→Prop) (aB:Int→Nat) (J:az) (U:Int) (hk:Bool) (aC:List Bool) (aj:List a_) (hw:List ad) (hi:List Nat) (hb:List (List Bool)):Prop:=
  (((hw.length=hi.length∧U.toNat<hw.length)∧(((nth hw U).ao !=1)=true→hw.length=hi.length∧U.toNat<hw.length))∧((((nth hw U).ao !=1)&&((nth hw U).ao !=2))=true→uS J U hk aC aj hw hi hb aC aj hw hi hb 2))∧((!(((nth hw U).ao !=1)&&((nth hw U).ao !=2)))=true→(0≤U∧U.toNat<J.O.length)∧((nth J.O U).cu.length≤4611686018427387904→IP ay aB J U hk aC aj hw hi hb))
def IK (J:az) (U:Int) (hg:Nat) (hk:Bool) (aC:List Bool) (aj:List a_) (hw:List ad) (hi:List Nat) (hb:List (List Bool)) (ay:Int→Prop) (aB:Int→Nat):Prop:=
 (0≤U∧U.toNat<hw.length)∧(IQ ay aB J U hk aC aj hw hi hb)
theorem aeJ (J:az) (U:Int) (hg:Nat) (hk:Bool) (aC:List Bool) (aj:List a_) (hw:List ad) (hi:List Nat) (hb:List (List Bool)) (ay:Int→Prop) (aB:Int→Nat) (h:IK J U hg hk aC aj hw hi hb ay aB):dI Try.prog 137 [.agg (bg false J),.ptr 0 hg 0 0,ah U] (⟨hg,4,[[an hk,ak 1 0 aC.length,ak 2 0 aj.length,ak 3 0 hw.length]]⟩::⟨0,1,List.map aY aC⟩::⟨0,2,List.map a7 aj⟩::⟨0,5,a0 4 hw hi⟩::List.map bm hb) (fun r H'=> ∃(e3:List ad) (gb:List Nat) (ek:List (List Bool)) (al:Int),r=ah al∧H'=(⟨hg,4,[[an hk,ak 1 0 aC.length,ak 2 0 aj.length,ak 3 0 e3.length]]⟩::⟨0,1,List.map aY aC⟩::⟨0,2,List.map a7 aj⟩::⟨0,5,a0 4 e3 gb⟩::List.map bm ek)∧uS J U hk aC aj hw hi hb aC aj e3 gb ek al):=by
 unfold IK at h
 refine dI.go (fn:=Try.f137) [(0,.agg (bg false J)),(1,.ptr 0 hg 0 0),(2,ah U)] Try.func137 (fun _ _=> ?_)
 show WpS _ (bX aeI 1) _ ⟨bh 63 [(0,.agg (bg false J)),(1,.ptr 0 hg 0 0),(2,ah U)],[],(⟨hg,4,[[an hk,ak 1 0 aC.length,ak 2 0 aj.length,ak 3 0 hw.length]]⟩::⟨0,1,List.map aY aC⟩::⟨0,2,List.map a7 aj⟩::⟨0,5,a0 4 hw hi⟩::List.map bm hb)⟩
 refine sK [] 0 [(6,ah 0),(3,aA 3 0)] [0,1,1] [0,1,2] (fun L=>(3,(bg false J))::L) id ?_
 obtain⟨mf,h⟩:=h
 refine cD [(7,.ptr 3 0 (0+U.toNat) 0)] [3] (True) ?_ (fun q2=> ?_)
 ·
  replace h:=mf
  refine bL [] 1 ?_
  refine nP 4 (some 13) (ak 3 0 hw.length) [(12,.ptr 0 hg 0 3),(11,.ptr 0 hg 0 0),(10,.ptr 0 hg 0 0)] (φ:=hg=hg) rfl ?_
  have agR:=h
  refine lM 2 (some 15) [(14,ah U)] 3 0 5 agR ?_
  exact b5 [(7,.ptr 3 0 (0+U.toNat) 0)] trivial
 unfold IQ at h
 obtain⟨lc,h⟩:=h
 refine cD [] [4] ((!(((nth hw U).ao !=1)&&((nth hw U).ao !=2)))=true) ?_ (fun q3=> ?_)
 ·
  replace h:=lc
  obtain⟨gX,h⟩:=h
  refine cD [(27,an (((nth hw U).ao !=1)&&((nth hw U).ao !=2)))] [4] (True) ?_ (fun q4=> ?_)
  ·
   replace h:=gX
   refine bL [] 2 ?_
   obtain⟨fN,h⟩:=h
   refine iO 4 (some 19) [(18,.ptr 3 0 (0+U.toNat) 0),(17,.ptr 3 0 (0+U.toNat) 0),(16,.ptr 3 0 (0+U.toNat) 0)] (a0 4 hw hi) U 3 0 0 (ah (nth hw U).ao) (dO fN.1 fN.2) ?_
   refine nQ 2 21 ((nth hw U).ao !=1) [(20,an ((nth hw U).ao !=1))] (fun cR=> ?_) (fun cR=> ?_)
   ·
    replace h:=h cR
    have c4:=h
    refine iO 4 (some 25) [(24,.ptr 3 0 (0+U.toNat) 0),(23,.ptr 3 0 (0+U.toNat) 0),(22,.ptr 3 0 (0+U.toNat) 0)] (a0 4 hw hi) U 3 0 0 (ah (nth hw U).ao) (dO c4.1 c4.2) ?_
    exact b5 [(27,an ((nth hw U).ao !=2)),(26,an ((nth hw U).ao !=2))] trivial (by simp only[cR]<;>kernel_rfl)
   ·
    exact b5 ([(27,an false)]++gv [26,25,24,23,22]) trivial (by simp only[cR]<;>kernel_rfl)
  refine dJ (fun fD=> ?_) (fun fD=> ?_)
  ·
   replace h:=h fD
   refine ei [] 3 [(6,ah 2)] [1] [] ?_
   refine hB ?_
   refine ci.ret ?_
   refine mJ (ah 2) [ah 2] ?_
   exact⟨hw,hi,hb,2,rfl,rfl,h⟩
  ·
   refine ep ?_
   exact ci.normal (by simp only[fD]<;>rfl) ef
 replace h:=h q3
 refine hN ?_
 obtain⟨me,h⟩:=h
 refine cD [(33,bK c_ (nth J.O U).cu),(34,ah ((nth J.O U).cu.length:Int)),(35,ah 0)] [3] ((nth J.O U).cu.length≤4611686018427387904) ?_ (fun ix=> ?_)
 ·
  replace h:=me
  refine bL [] 4 ?_
  have fH:=h
  refine ld 4 (some 31) [(30,ah U),(29,bK (dw false) J.O),(28,aA 3 2)] (dw false) J.O 5 fH ?_
  refine sLen 3 (some 34) [(33,bK c_ (nth J.O U).cu),(32,.dA (dw false (nth J.O U)) 4)] c_ (nth J.O U).cu (fun h_=> ?_)
  exact b5 [(35,ah 0)] h_
 replace h:=h ix
 unfold IP at h
 refine fo 0 ?_
 obtain⟨nN,h⟩:=h
 refine kf (fun(v:Int)=>(⟨(bh 63 [(1,.ptr 0 hg 0 0),(3,aA 3 0),(7,.ptr 3 0 (0+U.toNat) 0),(33,bK c_ (nth J.O U).cu),(34,ah ((nth J.O U).cu.length:Int)),(35,ah v)]),[(3,(bg false J))],(⟨hg,4,[[an hk,ak 1 0 aC.length,ak 2 0 aj.length,ak 3 0 hw.length]]⟩::⟨0,1,List.map aY aC⟩::⟨0,2,List.map a7 aj⟩::⟨0,5,a0 4 hw hi⟩::List.map bm hb)⟩:St)) (fun(v:Int)=>ay v) (fun(v:Int)=>aB v) 0 (dC []) nN (fun bP aX=> ?_)
 replace h:=h bP aX
 refine ei [] 5 [(36,an (decide (bP<((nth J.O U).cu.length:Int))))] [1] [6] ?_
 obtain⟨jw,h⟩:=h
 refine cD [] [0,1,6] ((decide (bP<((nth J.O U).cu.length:Int)))=true) ?_ (fun jh=> ?_)
 ·
  replace h:=jw
  refine dJ (fun j7=> ?_) (fun j7=> ?_)
  ·
   refine ep ?_
   exact ci.normal (by simp only[q3,j7]<;>rfl) ef
  ·
   replace h:=h j7
   refine iY 0 ?_
   refine ci.exit ?_
   refine dZ.exit ?_
   refine cr.here ?_
   refine eb.normal ?_
   refine hN ?_
   refine bL [] 12 ?_
   obtain⟨ku,h⟩:=h
   refine tx 2 (some 62) [(61,.ptr 3 0 (0+U.toNat) 0)] [.ptr 3 0 (0+U.toNat) 0] _ (IX U hg hk aC aj hw hi hb ku) (fun r H' aj=>by obtain⟨_,_,_,rfl,_⟩:=aj;rfl) ?_
   rintro r H' ⟨vA,i18,vS,rfl,rfl,jM⟩
   replace h:=h vA i18 vS jM
   refine dX [] ?_
   refine eb.normal ?_
   refine jW ⟨(bh 63 [(6,ah 0)]),[(3,(bg false J))],(⟨hg,4,[[an hk,ak 1 0 aC.length,ak 2 0 aj.length,ak 3 0 vA.length]]⟩::⟨0,1,List.map aY aC⟩::⟨0,2,List.map a7 aj⟩::⟨0,5,a0 4 vA i18⟩::List.map bm vS)⟩ (True) ?_ (fun iy=> ?_)
   ·
    refine bL [] 13 ?_
    exact b5 [(6,ah 0)] trivial
   refine hB ?_
   refine mJ (ah 0) [ah 0] ?_
   exact⟨vA,i18,vS,0,rfl,rfl,h⟩
 replace h:=h jh
 unfold IN at h
 obtain⟨p7,h⟩:=h
 refine cD [] [6] ((!((nth aC (nth (nth J.O U).cu bP))&&(nth hw U).aq))=true) ?_ (fun ih=> ?_)
 ·
  replace h:=p7
  refine fo 1 ?_
  obtain⟨lJ,h⟩:=h
  refine cD [(9,ah (nth (nth J.O U).cu bP))] [6] (True) ?_ (fun ha=> ?_)
  ·
   replace h:=lJ
   refine bL [] 6 ?_
   have iz:=h
   refine ld 1 (some 37) [] c_ (nth J.O U).cu 1 iz ?_
   exact b5 [(9,ah (nth (nth J.O U).cu bP)),(38,ah (nth (nth J.O U).cu bP))] trivial
  obtain⟨o_,h⟩:=h
  refine cD [(51,an ((nth aC (nth (nth J.O U).cu bP))&&(nth hw U).aq))] [0,1,6] (True) ?_ (fun ii=> ?_)
  ·
   replace h:=o_
   refine bL [] 7 ?_
   refine nP 4 (some 42) (ak 1 0 aC.length) [(41,.ptr 0 hg 0 1),(40,.ptr 0 hg 0 0),(39,.ptr 0 hg 0 0)] (φ:=hg=hg) rfl ?_
   obtain⟨Tt,h⟩:=h
   refine lM 2 (some 44) [(43,ah (nth (nth J.O U).cu bP))] 1 0 1 Tt ?_
   refine Qh 1 (some 45) [] aY aC (nth (nth J.O U).cu bP) 4 0 0 (an (nth aC (nth (nth J.O U).cu bP))) (by simpa using Tt.2) ?_
   refine nQ 1 46 (nth aC (nth (nth J.O U).cu bP)) [] (fun kv=> ?_) (fun kv=> ?_)
   ·
    replace h:=h kv
    have mE:=h
    refine iO 4 (some 50) [(49,.ptr 3 0 (0+U.toNat) 3),(48,.ptr 3 0 (0+U.toNat) 0),(47,.ptr 3 0 (0+U.toNat) 0)] (a0 4 hw hi) U 4 3 0 (an (nth hw U).aq) (dO mE.1 mE.2) ?_
    exact b5 [(51,an (nth hw U).aq)] trivial (by simp only[q3,jh,kv]<;>kernel_rfl)
   ·
    exact b5 ([(51,an false)]++gv [50,49,48,47]) trivial (by simp only[q3,jh,kv]<;>kernel_rfl)
  unfold IM at h
  refine dJ (fun nM=> ?_) (fun nM=> ?_)
  ·
   replace h:=h nM
   obtain⟨hd,h⟩:=h
   refine e_ [] [0,2,2] id (fun H=>eo 3 ⟨0,5,a0 4 (hw.set U.toNat (ad.mk 3 (nth hw U).ag (nth hw U).ac (nth hw U).aq (nth hw U).ar)) hi⟩ H) (True) ?_ (fun nd=> ?_)
   ·
    replace h:=hd
    refine bL [] 8 ?_
    have ju:=h
    refine j8 4 none [(54,.ptr 3 0 (0+U.toNat) 0),(53,.ptr 3 0 (0+U.toNat) 0),(52,.ptr 3 0 (0+U.toNat) 0)] (a0 4 hw hi) U 0 1 0 [ah 3] 3 (a0 4 (hw.set U.toNat (ad.mk 3 (nth hw U).ag (nth hw U).ac (nth hw U).aq (nth hw U).ar)) hi) (dO ju.1 ju.2) (kj ju.1 ju.2) ?_
    exact b5 [] trivial
   obtain⟨lb,h⟩:=h
   refine e_ [] [] id (fun H=>eo 3 ⟨0,5,a0 4 ((hw.set U.toNat (ad.mk 3 (nth hw U).ag (nth hw U).ac (nth hw U).aq (nth hw U).ar)).set U.toNat (ad.mk (nth (hw.set U.toNat (ad.mk 3 (nth hw U).ag (nth hw U).ac (nth hw U).aq (nth hw U).ar)) U).ao (nth (hw.set U.toNat (ad.mk 3 (nth hw U).ag (nth hw U).ac (nth hw U).aq (nth hw U).ar)) U).ag (nth (hw.set U.toNat (ad.mk 3 (nth hw U).ag (nth hw U).ac (nth hw U).aq (nth hw U).ar)) U).ac (nth (hw.set U.toNat (ad.mk 3 (nth hw U).ag (nth hw U).ac (nth hw U).aq (nth hw U).ar)) U).aq J.dx)) hi⟩ H) (True) ?_ (fun k_=> ?_)
   ·
    replace h:=lb
    refine bL [] 9 ?_
    have jv:=h
    refine j8 6 none [(59,.ptr 3 0 (0+U.toNat) 4),(58,.ptr 3 0 (0+U.toNat) 0),(57,ah J.dx),(56,aA 3 4),(55,.ptr 3 0 (0+U.toNat) 0)] (a0 4 (hw.set U.toNat (ad.mk 3 (nth hw U).ag (nth hw U).ac (nth hw U).aq (nth hw U).ar)) hi) U 4 1 0 [ah J.dx] 3 (a0 4 ((hw.set U.toNat (ad.mk 3 (nth hw U).ag (nth hw U).ac (nth hw U).aq (nth hw U).ar)).set U.toNat (ad.mk (nth (hw.set U.toNat (ad.mk 3 (nth hw U).ag (nth hw U).ac (nth hw U).aq (nth hw U).ar)) U).ao (nth (hw.set U.toNat (ad.mk 3 (nth hw U).ag (nth hw U).ac (nth hw U).aq (nth hw U).ar)) U).ag (nth (hw.set U.toNat (ad.mk 3 (nth hw U).ag (nth hw U).ac (nth hw U).aq (nth hw U).ar)) U).ac (nth (hw.set U.toNat (ad.mk 3 (nth hw U).ag (nth hw U).ac (nth hw U).aq (nth hw U).ar)) U).aq J.dx)) hi) (dO jv.1 jv.2) (kj jv.1 jv.2) ?_
    exact b5 [] trivial
   refine ei [] 10 [(6,ah 0)] [1] [] ?_
   unfold IL at h
   refine hB ?_
   refine cr.ret ?_
   refine ci.ret ?_
   refine dZ.ret ?_
   refine cr.ret ?_
   refine eb.ret ?_
   refine mJ (ah 0) [ah 0] ?_
   exact⟨((hw.set U.toNat (ad.mk 3 (nth hw U).ag (nth hw U).ac (nth hw U).aq (nth hw U).ar)).set U.toNat (ad.mk (nth (hw.set U.toNat (ad.mk 3 (nth hw U).ag (nth hw U).ac (nth hw U).aq (nth hw U).ar)) U).ao (nth (hw.set U.toNat (ad.mk 3 (nth hw U).ag (nth hw U).ac (nth hw U).aq (nth hw U).ar)) U).ag (nth (hw.set U.toNat (ad.mk 3 (nth hw U).ag (nth hw U).ac (nth hw U).aq (nth hw U).ar)) U).ac (nth (hw.set U.toNat (ad.mk 3 (nth hw U).ag (nth hw U).ac (nth hw U).aq (nth hw U).ar)) U).aq J.dx)),hi,hb,0,rfl,(by rw[show hw.length=((hw.set U.toNat (ad.mk 3 (nth hw U).ag (nth hw U).ac (nth hw U).aq (nth hw U).ar)).set U.toNat (ad.mk (nth (hw.set U.toNat (ad.mk 3 (nth hw U).ag (nth hw U).ac (nth hw U).aq (nth hw U).ar)) U).ao (nth (hw.set U.toNat (ad.mk 3 (nth hw U).ag (nth hw U).ac (nth hw U).aq (nth hw U).ar)) U).ag (nth (hw.set U.toNat (ad.mk 3 (nth hw U).ag (nth hw U).ac (nth hw U).aq (nth hw U).ar)) U).ac (nth (hw.set U.toNat (ad.mk 3 (nth hw U).ag (nth hw U).ac (nth hw U).aq (nth hw U).ar)) U).aq J.dx)).length by simp]<;>rfl),h⟩
  ·
   refine ep ?_
   refine cr.normal ?_
   exact ci.normal (by simp only[q3,jh,nM]<;>rfl) ef
 replace h:=h ih
 refine bL [] 11 ?_
 refine dX [(35,ah (IntKind.i64.wrap (bP+1))),(60,ah (IntKind.i64.wrap (bP+1)))] ?_
 exact dZ.again (IntKind.i64.wrap (bP+1)) h (dC [])
theorem aeH (J:az) (U:Int) (hg:Nat) (hk:Bool) (aC:List Bool) (aj:List a_) (hw:List ad) (hi:List Nat) (hb:List (List Bool)) (aI:NY J U hk aC aj hw hi hb):dI Try.prog 137 [.agg (bg false J),.ptr 0 hg 0 0,ah U] (⟨hg,4,[[an hk,ak 1 0 aC.length,ak 2 0 aj.length,ak 3 0 hw.length]]⟩::⟨0,1,List.map aY aC⟩::⟨0,2,List.map a7 aj⟩::⟨0,5,a0 4 hw hi⟩::List.map bm hb) (fun r H'=> ∃(e3:List ad) (gb:List Nat) (ek:List (List Bool)) (al:Int),r=ah al∧H'=(⟨hg,4,[[an hk,ak 1 0 aC.length,ak 2 0 aj.length,ak 3 0 e3.length]]⟩::⟨0,1,List.map aY aC⟩::⟨0,2,List.map a7 aj⟩::⟨0,5,a0 4 e3 gb⟩::List.map bm ek)∧uS J U hk aC aj hw hi hb aC aj e3 gb ek al):=aeJ J U hg hk aC aj hw hi hb (cl ((nth J.O U).cu.length:Int) (fun k=>nth aC (nth (nth J.O U).cu k)&&(nth hw U).aq)) (cy ((nth J.O U).cu.length:Int)) (by
 unfold IK
 obtain⟨G,cx,t0,t1,t2,wN⟩:=aI
 have bf:U.toNat<hw.length:=by omega
 have ja:U.toNat<J.O.length:=by omega
 have kF:=cx.cu _ (dq ja)
 have nE:=cx.c0
 have dz:=G.oR bf
 have Vg:(nth hw U).ao=(nth (c5 hk aC aj hw hi hb).O U).ao:=dz.ao
 have wa:(nth hw U).aq=(nth (c5 hk aC aj hw hi hb).O U).aq:=dz.aq
 have oX:(((nth hw U).ao !=1)&&((nth hw U).ao !=2))=decide ((nth (c5 hk aC aj hw hi hb).O U).ao≠1∧(nth (c5 hk aC aj hw hi hb).O U).ao≠2):=by
  rw[Bool.eq_iff_iff,Vg];simp
 unfold IQ
 rw[oX]
 refine⟨⟨t0,bf⟩,⟨⟨dz.fA,fun _=>dz.fA⟩,fun hc=> ?_⟩,fun hc=>⟨⟨t0,ja⟩,fun aF=> ?_⟩⟩
 ·have hc:=of_decide_eq_true hc
  have e:sH (c5 hk aC aj hw hi hb) U=2:=by unfold sH;rw[if_pos hc]
  exact⟨G,e.symm,by rw[e];rfl⟩
 have hc: ¬_:=of_decide_eq_false (by simpa only[Bool.not_eq_true'] using hc)
 have hX:sH (c5 hk aC aj hw hi hb) U=0:=by unfold sH;rw[if_neg hc]
 unfold IP
 refine⟨c6 (dd _),fun v aX=>⟨fun hv=>⟨⟨G,t0,t1⟩,fun w i b ko=> ?_⟩,fun hv=> ?_⟩⟩
 ·obtain⟨n0,kq⟩:=ko
  refine⟨n0,hX.symm,?_⟩
  rw[if_pos hX,kq]
  have l9:((nth (c5 hk aC aj hw hi hb).O U).aq&&gh (c5 hk aC aj hw hi hb) (nth J.O U).cu)=false:=by
   rw[←wa]
   have eE:=mn (q:=fun x=>nth aC x&&(nth hw U).aq) (gG aX hv)
   cases hs:(nth hw U).aq with
   | false=>rfl
   | true=>
    rw[Bool.true_and]
    unfold gh
    rw[List.any_eq_false]
    intro x hx
    have:=eE x hx
    simp only[hs,Bool.and_true] at this
    show ¬(nth aC x=true)
    rw[this];simp
  unfold AE
  rw[if_neg (by rw[l9];simp)];rfl
 ·unfold IN
  have b9:=b8 aX hv
  have hx:=kF.2 _ (dq b9.2)
  refine⟨⟨b9,⟨⟨hx.1,by omega⟩,fun _=>dz.fA⟩,?_⟩,fun ek=>cG (cq aF) aX hv (not_eq ek)⟩
  unfold IM IL
  intro ek
  have eC:=dz.setState 3
  refine⟨dz.fA,eC.fA,?_⟩
  have gj:=eC.xI J.dx
  refine⟨gj.G,hX.symm,?_⟩
  rw[if_pos hX]
  have j0:nth aC (nth (nth J.O U).cu v)=true∧(nth hw U).aq=true:=by simpa using ek
  have XL:gh (c5 hk aC aj hw hi hb) (nth J.O U).cu=true:=by
   unfold gh;rw[List.any_eq_true];exact⟨_,dq b9.2,j0.1⟩
  unfold AE
  rw[if_pos (by rw[XL,←wa,j0.2];rfl)]
  exact gj.g0)
noncomputable def aed:Code:=iI Try.f92
def aef:List Item:=[ap 0,ap 1,ap 2,ap 3,ap 4,ap 5,ap 6,ap 7,ap 8,ap 9]
def aeg:List (List Nat):=[[],[0],[],[2],[],[4],rg 2 6,rg 2 7,rg 0 8,rg 0 9]
def Is (dE:jT Prop) (J:az) (M:Frame) (U:Event):Prop:=
  (((eY J M U.ai)==0)=true→(NZ J U.ai (aa M).ok (aa M).av (aa M).au (aa M).O (List.range (aa M).O.length) (List.map ad.ac (aa M).O))∧(∀(iy:List a_) (Aj:List ad),B_ J U.ai (aa M).ok (aa M).av (aa M).au (aa M).O (List.range (aa M).O.length) (List.map ad.ac (aa M).O) (aa M).av iy Aj (List.range (aa M).O.length) (List.map ad.ac (aa M).O)→(dE (List.map ad.ac (aa M).O) (aa M).av iy (List.range (aa M).O.length) (eY J M U.ai) Aj)))∧(((eY J M U.ai)==0)=false→dE (List.map ad.ac (aa M).O) (aa M).av (aa M).au (List.range (aa M).O.length) (eY J M U.ai) (aa M).O)
def Iw (dE:jT Prop) (J:az) (M:Frame) (U:Event):Prop:=
  ((nth M.av (nth J.be U.ai))=true→dE (List.map ad.ac (aa M).O) (aa M).av (aa M).au (List.range (aa M).O.length) 3 (aa M).O)∧((nth M.av (nth J.be U.ai))=false→(0≤U.ai∧U.ai.toNat<(aa M).au.length)∧(dE (List.map ad.ac (aa M).O) (aa M).av ((aa M).au.set U.ai.toNat (a_.mk U.bp (nth (aa M).au U.ai).a2)) (List.range (aa M).O.length) 0 (aa M).O))
def Ix (dE:jT Prop) (J:az) (M:Frame) (U:Event):Prop:=
  ((decide (((gE J M U.ai).length:Int)>0))=true→dE (List.map ad.ac (aa M).O) (aa M).av (aa M).au (List.range (aa M).O.length) 2 (aa M).O)∧((decide (((gE J M U.ai).length:Int)>0))=false→((0≤U.ai∧U.ai.toNat<J.be.length)∧(0≤(nth J.be U.ai)∧(nth J.be U.ai).toNat<M.av.length))∧(Iw dE J M U))
def Iy (ay:dQ Prop) (aB:dQ Nat) (M:Frame) (aZ:List (List Bool)) (b6:List Nat) (bq:Int) (aE:List ad):Prop:=
  (((nth (aE.set bq.toNat (ad.mk (nth aE bq).ao (nth aE bq).ag (nth aE bq).ac (nth aE bq).aq (IntKind.i64.wrap ((nth aE bq).ar - 1)))) bq).ar==0)=true→(B2 bq (aa M).ok (aa M).av (aa M).au (aE.set bq.toNat (ad.mk (nth aE bq).ao (nth aE bq).ag (nth aE bq).ac (nth aE bq).aq (IntKind.i64.wrap ((nth aE bq).ar - 1)))) b6 aZ)∧(∀(xX:List ad) (i71:List Nat) (vU:List (List Bool)),uN bq (aa M).ok (aa M).av (aa M).au (aE.set bq.toNat (ad.mk (nth aE bq).ao (nth aE bq).ag (nth aE bq).ac (nth aE bq).aq (IntKind.i64.wrap ((nth aE bq).ar - 1)))) b6 aZ (aa M).av (aa M).au xX i71 vU→(ay vU i71 (IntKind.i64.wrap (bq+1)) xX∧aB vU i71 (IntKind.i64.wrap (bq+1)) xX<aB aZ b6 bq aE)))∧(((nth (aE.set bq.toNat (ad.mk (nth aE bq).ao (nth aE bq).ag (nth aE bq).ac (nth aE bq).aq (IntKind.i64.wrap ((nth aE bq).ar - 1)))) bq).ar==0)=false→ay aZ b6 (IntKind.i64.wrap (bq+1)) (aE.set bq.toNat (ad.mk (nth aE bq).ao (nth aE bq).ag (nth aE bq).ac (nth aE bq).aq (IntKind.i64.wrap ((nth aE bq).ar - 1))))∧aB aZ b6 (IntKind.i64.wrap (bq+1)) (aE.set bq.toNat (ad.mk (nth aE bq).ao (nth aE bq).ag (nth aE bq).ac (nth aE bq).aq (IntKind.i64.wrap ((nth aE bq).ar - 1))))<aB aZ b6 bq aE)
def Iz (ay:dQ Prop) (aB:dQ Nat) (M:Frame) (aZ:List (List Bool)) (b6:List Nat) (bq:Int) (aE:List ad):Prop:=
  ((aE.set bq.toNat (ad.mk (nth aE bq).ao (nth aE bq).ag (nth aE bq).ac (nth aE bq).aq (IntKind.i64.wrap ((nth aE bq).ar - 1)))).length=b6.length∧bq.toNat<(aE.set bq.toNat (ad.mk (nth aE bq).ao (nth aE bq).ag (nth aE bq).ac (nth aE bq).aq (IntKind.i64.wrap ((nth aE bq).ar - 1)))).length)∧(Iy ay aB M aZ b6 bq aE)
def IA (ay:dQ Prop) (aB:dQ Nat) (M:Frame) (aZ:List (List Bool)) (b6:List Nat) (bq:Int) (aE:List ad):Prop:=
  ((aE.length=b6.length∧bq.toNat<aE.length)∧(((nth aE bq).ao !=3)=true→ay aZ b6 (IntKind.i64.wrap (bq+1)) aE∧aB aZ b6 (IntKind.i64.wrap (bq+1)) aE<aB aZ b6 bq aE))∧((!((nth aE bq).ao !=3))=true→((aE.length=b6.length∧bq.toNat<aE.length)∧(aE.length=b6.length∧bq.toNat<aE.length))∧(Iz ay aB M aZ b6 bq aE))
def IB (ay:dQ Prop) (aB:dQ Nat) (dE:jT Prop) (M:Frame):Prop:=
  ay (List.map ad.ac (aa M).O) (List.range (aa M).O.length) 0 (aa M).O∧ ∀(aZ:List (List Bool)) (b6:List Nat) (bq:Int) (aE:List ad),ay aZ b6 bq aE→(((decide (bq<((aa M).O.length:Int)))=false→dE aZ (aa M).av (aa M).au b6 0 aE)∧((decide (bq<((aa M).O.length:Int)))=true→(0≤bq∧bq.toNat<aE.length)∧(IA ay aB M aZ b6 bq aE)))
def IC (ay:dQ Prop) (aB:dQ Nat) (dE:jT Prop) (J:az) (M:Frame) (U:Event):Prop:=
  ((U.op==5)=true→(0≤U.ai∧U.ai.toNat<(aa M).au.length)∧(dE (List.map ad.ac (aa M).O) (aa M).av ((aa M).au.set U.ai.toNat (a_.mk (nth (aa M).au U.ai).cH U.bp)) (List.range (aa M).O.length) 0 (aa M).O))∧((U.op==5)=false→((U.op==6)=true→(tk J M U.ai)∧((gE J M U.ai).length≤4611686018427387904→Ix dE J M U))∧((U.op==6)=false→((U.op==7)=true→IB ay aB dE M)∧((U.op==7)=false→dE (List.map ad.ac (aa M).O) (aa M).av (aa M).au (List.range (aa M).O.length) 0 (aa M).O)))
def ID (ay:dQ Prop) (aB:dQ Nat) (dE:jT Prop) (J:az) (M:Frame) (U:Event):Prop:=
  ((U.op==3)=true→(0≤U.ai∧U.ai.toNat<(aa M).av.length)∧(dE (List.map ad.ac (aa M).O) ((aa M).av.set U.ai.toNat true) (aa M).au (List.range (aa M).O.length) 0 (aa M).O))∧((U.op==3)=false→((U.op==4)=true→(0≤U.ai∧U.ai.toNat<(aa M).av.length)∧(dE (List.map ad.ac (aa M).O) ((aa M).av.set U.ai.toNat false) (aa M).au (List.range (aa M).O.length) 0 (aa M).O))∧((U.op==4)=false→IC ay aB dE J M U))
def It (ay:dQ Prop) (aB:dQ Nat) (dE:jT Prop) (J:az) (M:Frame) (U:Event):Prop:=
  ((U.op==2)=true→(NY J U.ai (aa M).ok (aa M).av (aa M).au (aa M).O (List.range (aa M).O.length) (List.map ad.ac (aa M).O))∧(∀(fk:List ad) (i28:List Nat) (kY:List (List Bool)) (xA:Int),uS J U.ai (aa M).ok (aa M).av (aa M).au (aa M).O (List.range (aa M).O.length) (List.map ad.ac (aa M).O) (aa M).av (aa M).au fk i28 kY xA→(dE kY (aa M).av (aa M).au i28 xA fk)))∧((U.op==2)=false→ID ay aB dE J M U)
def Iu (J:az) (M:Frame) (al:fJ) (aZ:List (List Bool)) (b6:List Nat) (aE:List ad) (aH:(List Bool)) (bt:(List a_)) (c2:Int):Prop:=
  (Ib J (aa M).ok aH bt aE b6 aZ)∧(∀(oJ:List ad) (i82:List Nat) (sG:List (List Bool)),zY J (aa M).ok aH bt aE b6 aZ aH bt oJ i82 sG→((c2=al.code)∧((aa M).ok=al.frame.ok)∧(aH.length≤4611686018427387904∧aH=al.frame.av)∧(bt.length≤4611686018427387904∧bt=al.frame.au)∧(ke oJ i82 sG∧oJ.length≤4611686018427387904∧(∀x∈sG,List.length x≤4611686018427387904)∧view oJ i82 sG=al.frame.O)))
def Iv (ay:dQ Prop) (aB:dQ Nat) (dE:jT Prop) (J:az) (M:Frame) (U:Event) (al:fJ):Prop:=
  (((yA J M)∧((!(ev J M))=false→Pq J U))∧(((!(ev J M)) || (!(eZ J U)))=true→(1=al.code)∧(false=al.frame.ok)∧([]=al.frame.av)∧([]=al.frame.au)∧([]=al.frame.O)))∧((!((!(ev J M)) || (!(eZ J U))))=true→(jz M)∧((((U.op==1)=true→(rB J M U.ai)∧(Is dE J M U))∧((U.op==1)=false→It ay aB dE J M U))∧(∀(aZ:List (List Bool)) (aH:(List Bool)) (bt:(List a_)) (b6:List Nat) (c2:Int) (aE:List ad),dE aZ aH bt b6 c2 aE→(Iu J M al aZ b6 aE aH bt c2))))
def Ir (J:az) (M:Frame) (U:Event) (al:fJ) (ay:dQ Prop) (aB:dQ Nat) (dE:jT Prop):Prop:=
 Iv ay aB dE J M U al
theorem aeh (J:az) (M:Frame) (U:Event) (al:fJ) (ay:dQ Prop) (aB:dQ Nat) (dE:jT Prop) (h:Ir J M U al ay aB dE):b2 Try.prog 92 [.agg (bg false J),.agg (b1 false M),.agg (jo U)] (.agg (sN true al)):=by
 unfold Ir at h
 refine dI.go (fn:=Try.f92) [(0,.agg (bg false J)),(1,.agg (b1 false M)),(2,.agg (jo U))] Try.func92 (fun _ _=> ?_)
 show WpS _ (bX aed 1) _ ⟨bh 133 [(0,.agg (bg false J)),(1,.agg (b1 false M)),(2,.agg (jo U))],[],[]⟩
 refine WpS.mq ?_ (hz (s'':=⟨(bh 133 [(0,.agg (bg false J)),(1,.agg (b1 false M)),(2,.agg (jo U))]),[],[⟨0,4,[]⟩]⟩) (Weak.w9 (T:=(bh 133 [(0,.agg (bg false J)),(1,.agg (b1 false M)),(2,.agg (jo U))])) (L:=[]) (H:=[]) 4) (by kernel_rfl))
 refine qx [2000007] 0 [(6,aA 6 0),(5,aA 5 0),(4,aA 4 0),(3,aA 3 0)] [4] [] [(6,[ah 0,an false,aG,aG,aG]),(5,(jo U)),(4,(b1 false M)),(3,(bg false J))] [⟨0,4,[]⟩] ?_
 unfold Iv at h
 obtain⟨p_,h⟩:=h
 refine cD [] [4] ((!((!(ev J M)) || (!(eZ J U))))=true) ?_ (fun q2=> ?_)
 ·
  replace h:=p_
  obtain⟨iM,h⟩:=h
  refine cD [(20,an ((!(ev J M)) || (!(eZ J U))))] [4] (True) ?_ (fun q3=> ?_)
  ·
   replace h:=iM
   refine bL [2000007] 1 ?_
   obtain⟨q4,h⟩:=h
   refine mj 3 (some 13) [(12,.agg (b1 false M)),(11,.agg (bg false J))] [.agg (bg false J),.agg (b1 false M)] (aen J M q4) (aD.cons (da.agg (aD.cons (.int _ _) (aD.cons cI (aD.cons cI (aD.cons cI (aD.cons (.int _ _) aD.nil)))))) (aD.cons (da.agg (aD.cons (.bool _) (aD.cons cI (aD.cons cI (aD.cons cI aD.nil))))) aD.nil)) ?_
   refine nQ 2 15 (!(ev J M)) [(14,an (!(ev J M)))] (fun cR=> ?_) (fun cR=> ?_)
   ·
    exact b5 ([(20,an true)]++gv [19,18,17,16]) trivial (by simp only[cR]<;>kernel_rfl)
   ·
    replace h:=h cR
    have c4:=h
    refine mj 3 (some 18) [(17,.agg (jo U)),(16,.agg (bg false J))] [.agg (bg false J),.agg (jo U)] (aeM J U c4) (aD.cons (da.agg (aD.cons (.int _ _) (aD.cons cI (aD.cons cI (aD.cons cI (aD.cons (.int _ _) aD.nil)))))) (aD.cons (da.agg (aD.cons (.int _ _) (aD.cons (.int _ _) (aD.cons (.int _ _) aD.nil)))) aD.nil)) ?_
    exact b5 [(20,an (!(eZ J U))),(19,an (!(eZ J U)))] trivial (by simp only[cR]<;>kernel_rfl)
  refine dJ (fun fN=> ?_) (fun fN=> ?_)
  ·
   replace h:=h fN
   refine sK [2000007] 2 [(21,.agg [ah 1,an false,aG,aG,aG])] [] [0,1,1] (fun L=>hY 0 0 (ah 1) L) id ?_
   exact hB (ci.ret (nk (.agg [ah 1,an false,aG,aG,aG]) (im.agg (aD.cons (xN h.1) (aD.cons (nm h.2.1) (aD.cons (rn h.2.2.1) (aD.cons (rn h.2.2.2.1) (aD.cons (rn h.2.2.2.2) aD.nil))))))))
  ·
   refine ep ?_
   exact ci.normal (by simp only[fN]<;>rfl) ef
 replace h:=h q2
 obtain⟨HP,h⟩:=h
 refine e_ [(7,.ptr 0 1 0 0)] [4] id (fun _=>(⟨1,4,[[an (aa M).ok,ak 1 0 (aa M).av.length,ak 2 0 (aa M).au.length,ak 3 0 (aa M).O.length]]⟩::⟨0,1,List.map aY (aa M).av⟩::⟨0,2,List.map a7 (aa M).au⟩::⟨0,5,a0 4 (aa M).O (List.range (aa M).O.length)⟩::List.map bm (List.map ad.ac (aa M).O))) (True) ?_ (fun gX=> ?_)
 ·
  replace h:=HP
  refine bL [2000007] 3 ?_
  have ix:=h
  refine tz 2 (some 23) [(22,.agg (b1 false M))] [.agg (b1 false M)] (.agg [an (aa M).ok,ak 1 0 (aa M).av.length,ak 2 0 (aa M).au.length,ak 3 0 (aa M).O.length]) (⟨0,4,[]⟩::⟨0,1,List.map aY (aa M).av⟩::⟨0,2,List.map a7 (aa M).au⟩::⟨0,5,a0 4 (aa M).O (List.range (aa M).O.length)⟩::List.map bm (List.map ad.ac (aa M).O)) (Re M ix) (aD.cons (da.agg (aD.cons (.bool _) (aD.cons cI (aD.cons cI (aD.cons cI aD.nil))))) aD.nil) Cs (rl Qu (by kernel_rfl)) ?_ (er:=by simp[mK,nR,iP])
  refine CY 1 [(7,.ptr 0 1 0 0)] [(6,[ah 0,an false,aG,aG,aG]),(5,(jo U)),(4,(b1 false M)),(3,(bg false J))] (⟨1,4,[[an false,aG,aG,aG]]⟩::⟨0,1,List.map aY (aa M).av⟩::⟨0,2,List.map a7 (aa M).au⟩::⟨0,5,a0 4 (aa M).O (List.range (aa M).O.length)⟩::List.map bm (List.map ad.ac (aa M).O)) ?_
  refine Qj 1 [] (⟨1,4,[[an (aa M).ok,ak 1 0 (aa M).av.length,ak 2 0 (aa M).au.length,ak 3 0 (aa M).O.length]]⟩::⟨0,1,List.map aY (aa M).av⟩::⟨0,2,List.map a7 (aa M).au⟩::⟨0,5,a0 4 (aa M).O (List.range (aa M).O.length)⟩::List.map bm (List.map ad.ac (aa M).O)) (φ:=1=1) (ψ:=4≤4) rfl (by decide) ?_
  exact b5 [] trivial
 refine ei [2000007] 4 [(8,ah 0)] [1] [5] ?_
 refine hN ?_
 refine ei [2000007] 5 [(25,ah U.op),(24,aA 5 0)] [1] [6] ?_
 obtain⟨sn,h⟩:=h
 refine Ki 0 (fun(v:List (List Bool)×(List Bool)×(List a_)×List Nat×Int×List ad)=>(⟨(bh 133 [(3,aA 3 0),(6,aA 6 0),(7,.ptr 0 1 0 0),(8,ah (v.2.2.2.2.1))]),[(6,[ah 0,an false,aG,aG,aG]),(3,(bg false J))],(⟨1,4,[[an (aa M).ok,ak 1 0 (v.2.1).length,ak 2 0 (v.2.2.1).length,ak 3 0 (v.2.2.2.2.2).length]]⟩::⟨0,1,List.map aY (v.2.1)⟩::⟨0,2,List.map a7 (v.2.2.1)⟩::⟨0,5,a0 4 (v.2.2.2.2.2) (v.2.2.2.1)⟩::List.map bm (v.1))⟩:St)) (fun v=>dE (v.1) (v.2.1) (v.2.2.1) (v.2.2.2.1) (v.2.2.2.2.1) (v.2.2.2.2.2)) ?_ (fun v cZ=> ?_)
 ·
  replace h:=sn
  refine ei [2000007] 6 [(26,an (U.op==1)),(27,an (U.op==1))] [1] [7] ?_
  refine dJ (fun jh=> ?_) (fun jh=> ?_)
  ·
   replace h:=h.1 jh
   obtain⟨ha,h⟩:=h
   refine cD [(8,ah (eY J M U.ai))] [0,3,3,1,1] (True) ?_ (fun j7=> ?_)
   ·
    replace h:=ha
    refine bL [2000007] 7 ?_
    have hS:=h
    refine mj 5 (some 32) [(31,ah U.ai),(30,aA 5 1),(29,.agg (b1 false M)),(28,.agg (bg false J))] [.agg (bg false J),.agg (b1 false M),ah U.ai] (afo J M U.ai hS) (aD.cons (da.agg (aD.cons (.int _ _) (aD.cons cI (aD.cons cI (aD.cons cI (aD.cons (.int _ _) aD.nil)))))) (aD.cons (da.agg (aD.cons (.bool _) (aD.cons cI (aD.cons cI (aD.cons cI aD.nil))))) (aD.cons (da.h8 (.int _ _)) aD.nil))) ?_
    exact b5 [(8,ah (eY J M U.ai))] trivial
   refine ei [2000007] 8 [(34,an ((eY J M U.ai)==0)),(33,ah (eY J M U.ai))] [1] [5] ?_
   unfold Is at h
   refine dJ (fun hF=> ?_) (fun hF=> ?_)
   ·
    replace h:=h.1 hF
    refine bL [2000007] 9 ?_
    obtain⟨jM,h⟩:=h
    refine tx 4 (some 38) [(37,ah U.ai),(36,aA 5 1),(35,.agg (bg false J))] [.agg (bg false J),.ptr 0 1 0 0,ah U.ai] _ (ae1 J U.ai 1 (aa M).ok (aa M).av (aa M).au (aa M).O (List.range (aa M).O.length) (List.map ad.ac (aa M).O) jM) (fun r H' aj=>by obtain⟨_,_,rfl,_⟩:=aj;rfl) ?_
    rintro r H' ⟨iy,Aj,rfl,rfl,ih⟩
    replace h:=h iy Aj ih
    refine dX [] ?_
    refine cr.normal ?_
    exact g2.normal ((List.map ad.ac (aa M).O),(aa M).av,iy,(List.range (aa M).O.length),(eY J M U.ai),Aj) h (dC [5,4])
   ·
    replace h:=h.2 hF
    refine ep ?_
    refine cr.normal ?_
    exact g2.normal ((List.map ad.ac (aa M).O),(aa M).av,(aa M).au,(List.range (aa M).O.length),(eY J M U.ai),(aa M).O) h (dC [5,4])
  ·
   replace h:=h.2 jh
   refine ei [2000007] 10 [(39,an (U.op==2)),(40,an (U.op==2))] [1] [0,1,7] ?_
   unfold It at h
   refine dJ (fun ii=> ?_) (fun ii=> ?_)
   ·
    replace h:=h.1 ii
    refine bL [2000007] 11 ?_
    obtain⟨ju,h⟩:=h
    refine tx 4 (some 44) [(43,ah U.ai),(42,aA 5 1),(41,.agg (bg false J))] [.agg (bg false J),.ptr 0 1 0 0,ah U.ai] _ (aeH J U.ai 1 (aa M).ok (aa M).av (aa M).au (aa M).O (List.range (aa M).O.length) (List.map ad.ac (aa M).O) ju) (fun r H' aj=>by obtain⟨_,_,_,_,rfl,_⟩:=aj;rfl) ?_
    rintro r H' ⟨fk,i28,kY,xA,rfl,rfl,k_⟩
    replace h:=h fk i28 kY xA k_
    refine dX [(8,ah xA)] ?_
    refine cr.normal ?_
    exact g2.normal (kY,(aa M).av,(aa M).au,i28,xA,fk) h (dC [5,4])
   ·
    replace h:=h.2 ii
    refine ei [2000007] 12 [(45,an (U.op==3)),(46,an (U.op==3))] [1] [0,1,7] ?_
    unfold ID at h
    refine dJ (fun la=> ?_) (fun la=> ?_)
    ·
     replace h:=h.1 la
     refine bL [2000007] 13 ?_
     refine nP 2 (some 48) (ak 1 0 (aa M).av.length) [(47,.ptr 0 1 0 1)] (φ:=1=1) rfl ?_
     obtain⟨Tw,h⟩:=h
     refine lM 3 (some 51) [(50,ah U.ai),(49,aA 5 1)] 1 0 1 Tw ?_
     refine tA 1 none [] aY (aa M).av U.ai 0 1 0 [an true] 1 true (by simpa using Tw.2) ?_
     refine dX [] ?_
     refine cr.normal ?_
     exact g2.normal ((List.map ad.ac (aa M).O),((aa M).av.set U.ai.toNat true),(aa M).au,(List.range (aa M).O.length),0,(aa M).O) h (hz (s':=⟨(bh 133 [(3,aA 3 0),(6,aA 6 0),(7,.ptr 0 1 0 0),(8,ah 0)]),[(6,[ah 0,an false,aG,aG,aG]),(3,(bg false J))],(⟨1,4,[[an (aa M).ok,ak 1 0 (aa M).av.length,ak 2 0 (aa M).au.length,ak 3 0 (aa M).O.length]]⟩::⟨0,1,List.map aY ((aa M).av.set U.ai.toNat true)⟩::⟨0,2,List.map a7 (aa M).au⟩::⟨0,5,a0 4 (aa M).O (List.range (aa M).O.length)⟩::List.map bm (List.map ad.ac (aa M).O))⟩) (dC (n:=133) (A':=[(3,aA 3 0),(6,aA 6 0),(7,.ptr 0 1 0 0),(8,ah 0)]) (L':=[(6,[ah 0,an false,aG,aG,aG]),(3,(bg false J))]) [5,4]) (congrArg (fun z=>(⟨(bh 133 [(3,aA 3 0),(6,aA 6 0),(7,.ptr 0 1 0 0),(8,ah 0)]),[(6,[ah 0,an false,aG,aG,aG]),(3,(bg false J))],(⟨1,4,[[an (aa M).ok,ak 1 0 z,ak 2 0 (aa M).au.length,ak 3 0 (aa M).O.length]]⟩::⟨0,1,List.map aY ((aa M).av.set U.ai.toNat true)⟩::⟨0,2,List.map a7 (aa M).au⟩::⟨0,5,a0 4 (aa M).O (List.range (aa M).O.length)⟩::List.map bm (List.map ad.ac (aa M).O))⟩:St)) (show(aa M).av.length=((aa M).av.set U.ai.toNat true).length by simp)))
    ·
     replace h:=h.2 la
     refine ei [2000007] 14 [(52,an (U.op==4)),(53,an (U.op==4))] [1] [0,1,7] ?_
     refine dJ (fun hd=> ?_) (fun hd=> ?_)
     ·
      replace h:=h.1 hd
      refine bL [2000007] 15 ?_
      refine nP 2 (some 55) (ak 1 0 (aa M).av.length) [(54,.ptr 0 1 0 1)] (φ:=1=1) rfl ?_
      obtain⟨Ty,h⟩:=h
      refine lM 3 (some 58) [(57,ah U.ai),(56,aA 5 1)] 1 0 1 Ty ?_
      refine tA 1 none [] aY (aa M).av U.ai 0 1 0 [an false] 1 false (by simpa using Ty.2) ?_
      refine dX [] ?_
      refine cr.normal ?_
      exact g2.normal ((List.map ad.ac (aa M).O),((aa M).av.set U.ai.toNat false),(aa M).au,(List.range (aa M).O.length),0,(aa M).O) h (hz (s':=⟨(bh 133 [(3,aA 3 0),(6,aA 6 0),(7,.ptr 0 1 0 0),(8,ah 0)]),[(6,[ah 0,an false,aG,aG,aG]),(3,(bg false J))],(⟨1,4,[[an (aa M).ok,ak 1 0 (aa M).av.length,ak 2 0 (aa M).au.length,ak 3 0 (aa M).O.length]]⟩::⟨0,1,List.map aY ((aa M).av.set U.ai.toNat false)⟩::⟨0,2,List.map a7 (aa M).au⟩::⟨0,5,a0 4 (aa M).O (List.range (aa M).O.length)⟩::List.map bm (List.map ad.ac (aa M).O))⟩) (dC (n:=133) (A':=[(3,aA 3 0),(6,aA 6 0),(7,.ptr 0 1 0 0),(8,ah 0)]) (L':=[(6,[ah 0,an false,aG,aG,aG]),(3,(bg false J))]) [5,4]) (congrArg (fun z=>(⟨(bh 133 [(3,aA 3 0),(6,aA 6 0),(7,.ptr 0 1 0 0),(8,ah 0)]),[(6,[ah 0,an false,aG,aG,aG]),(3,(bg false J))],(⟨1,4,[[an (aa M).ok,ak 1 0 z,ak 2 0 (aa M).au.length,ak 3 0 (aa M).O.length]]⟩::⟨0,1,List.map aY ((aa M).av.set U.ai.toNat false)⟩::⟨0,2,List.map a7 (aa M).au⟩::⟨0,5,a0 4 (aa M).O (List.range (aa M).O.length)⟩::List.map bm (List.map ad.ac (aa M).O))⟩:St)) (show(aa M).av.length=((aa M).av.set U.ai.toNat false).length by simp)))
     ·
      replace h:=h.2 hd
      refine ei [2000007] 16 [(59,an (U.op==5)),(60,an (U.op==5))] [1] [0,1,7] ?_
      unfold IC at h
      refine dJ (fun lJ=> ?_) (fun lJ=> ?_)
      ·
       replace h:=h.1 lJ
       refine bL [2000007] 17 ?_
       refine nP 2 (some 62) (ak 2 0 (aa M).au.length) [(61,.ptr 0 1 0 2)] (φ:=1=1) rfl ?_
       obtain⟨TA,h⟩:=h
       refine lM 5 (some 67) [(66,ah U.bp),(65,aA 5 2),(64,ah U.ai),(63,aA 5 1)] 2 0 2 TA ?_
       refine tA 2 none [(68,.ptr 2 0 (0+U.ai.toNat) 1)] a7 (aa M).au U.ai 1 1 0 [ah U.bp] 2 (a_.mk (nth (aa M).au U.ai).cH U.bp) (by simpa using TA.2) ?_
       refine dX [] ?_
       refine cr.normal ?_
       exact g2.normal ((List.map ad.ac (aa M).O),(aa M).av,((aa M).au.set U.ai.toNat (a_.mk (nth (aa M).au U.ai).cH U.bp)),(List.range (aa M).O.length),0,(aa M).O) h (hz (s':=⟨(bh 133 [(3,aA 3 0),(6,aA 6 0),(7,.ptr 0 1 0 0),(8,ah 0)]),[(6,[ah 0,an false,aG,aG,aG]),(3,(bg false J))],(⟨1,4,[[an (aa M).ok,ak 1 0 (aa M).av.length,ak 2 0 (aa M).au.length,ak 3 0 (aa M).O.length]]⟩::⟨0,1,List.map aY (aa M).av⟩::⟨0,2,List.map a7 ((aa M).au.set U.ai.toNat (a_.mk (nth (aa M).au U.ai).cH U.bp))⟩::⟨0,5,a0 4 (aa M).O (List.range (aa M).O.length)⟩::List.map bm (List.map ad.ac (aa M).O))⟩) (dC (n:=133) (A':=[(3,aA 3 0),(6,aA 6 0),(7,.ptr 0 1 0 0),(8,ah 0)]) (L':=[(6,[ah 0,an false,aG,aG,aG]),(3,(bg false J))]) [5,4]) (congrArg (fun z=>(⟨(bh 133 [(3,aA 3 0),(6,aA 6 0),(7,.ptr 0 1 0 0),(8,ah 0)]),[(6,[ah 0,an false,aG,aG,aG]),(3,(bg false J))],(⟨1,4,[[an (aa M).ok,ak 1 0 (aa M).av.length,ak 2 0 z,ak 3 0 (aa M).O.length]]⟩::⟨0,1,List.map aY (aa M).av⟩::⟨0,2,List.map a7 ((aa M).au.set U.ai.toNat (a_.mk (nth (aa M).au U.ai).cH U.bp))⟩::⟨0,5,a0 4 (aa M).O (List.range (aa M).O.length)⟩::List.map bm (List.map ad.ac (aa M).O))⟩:St)) (show(aa M).au.length=((aa M).au.set U.ai.toNat (a_.mk (nth (aa M).au U.ai).cH U.bp)).length by simp)))
      ·
       replace h:=h.2 lJ
       refine ei [2000007] 18 [(69,an (U.op==6)),(70,an (U.op==6))] [1] [0,1,7] ?_
       refine dJ (fun jw=> ?_) (fun jw=> ?_)
       ·
        replace h:=h.1 jw
        obtain⟨jx,h⟩:=h
        refine cD [(77,an (decide (((gE J M U.ai).length:Int)>0)))] [0,2,6] ((gE J M U.ai).length≤4611686018427387904) ?_ (fun nN=> ?_)
        ·
         replace h:=jx
         refine bL [2000007] 19 ?_
         have me:=h
         refine mj 5 (some 75) [(74,ah U.ai),(73,aA 5 1),(72,.agg (b1 false M)),(71,.agg (bg false J))] [.agg (bg false J),.agg (b1 false M),ah U.ai] (RF J M U.ai me) (aD.cons (da.agg (aD.cons (.int _ _) (aD.cons cI (aD.cons cI (aD.cons cI (aD.cons (.int _ _) aD.nil)))))) (aD.cons (da.agg (aD.cons (.bool _) (aD.cons cI (aD.cons cI (aD.cons cI aD.nil))))) (aD.cons (da.h8 (.int _ _)) aD.nil))) ?_
         refine sLen 1 (some 76) [] c_ (gE J M U.ai) (fun lc=> ?_)
         exact b5 [(77,an (decide (((gE J M U.ai).length:Int)>0)))] lc
        replace h:=h nN
        unfold Ix at h
        refine dJ (fun mf=> ?_) (fun mf=> ?_)
        ·
         replace h:=h.1 mf
         refine bL [2000007] 20 ?_
         refine dX [(8,ah 2)] ?_
         refine cr.normal ?_
         exact g2.normal ((List.map ad.ac (aa M).O),(aa M).av,(aa M).au,(List.range (aa M).O.length),2,(aa M).O) h (dC [5,4])
        ·
         replace h:=h.2 mf
         obtain⟨mg,h⟩:=h
         refine cD [(87,an (nth M.av (nth J.be U.ai)))] [0,1,4,1,1] (True) ?_ (fun mF=> ?_)
         ·
          replace h:=mg
          refine nj [2000007] 21 aef aeg [] ?_
          obtain⟨ng,h⟩:=h
          refine st 7 (some 84) [(83,ah U.ai),(82,aA 5 1),(81,bK c_ J.be),(80,aA 3 1),(79,bK aY M.av),(78,aA 4 1)] c_ J.be 1 ng ?_
          have nf:=h
          refine st 2 (some 86) [(85,ah (nth J.be U.ai))] aY M.av 1 nf ?_
          exact kU [(87,an (nth M.av (nth J.be U.ai)))] trivial
         unfold Iw at h
         refine dJ (fun p8=> ?_) (fun p8=> ?_)
         ·
          replace h:=h.1 p8
          refine bL [2000007] 22 ?_
          refine dX [(8,ah 3)] ?_
          refine cr.normal ?_
          exact g2.normal ((List.map ad.ac (aa M).O),(aa M).av,(aa M).au,(List.range (aa M).O.length),3,(aa M).O) h (dC [5,4])
         ·
          replace h:=h.2 p8
          refine bL [2000007] 23 ?_
          refine nP 2 (some 89) (ak 2 0 (aa M).au.length) [(88,.ptr 0 1 0 2)] (φ:=1=1) rfl ?_
          obtain⟨TB,h⟩:=h
          refine lM 5 (some 94) [(93,ah U.bp),(92,aA 5 2),(91,ah U.ai),(90,aA 5 1)] 2 0 2 TB ?_
          refine tA 2 none [(95,.ptr 2 0 (0+U.ai.toNat) 0)] a7 (aa M).au U.ai 0 1 0 [ah U.bp] 2 (a_.mk U.bp (nth (aa M).au U.ai).a2) (by simpa using TB.2) ?_
          refine dX [] ?_
          refine cr.normal ?_
          exact g2.normal ((List.map ad.ac (aa M).O),(aa M).av,((aa M).au.set U.ai.toNat (a_.mk U.bp (nth (aa M).au U.ai).a2)),(List.range (aa M).O.length),0,(aa M).O) h (hz (s':=⟨(bh 133 [(3,aA 3 0),(6,aA 6 0),(7,.ptr 0 1 0 0),(8,ah 0)]),[(6,[ah 0,an false,aG,aG,aG]),(3,(bg false J))],(⟨1,4,[[an (aa M).ok,ak 1 0 (aa M).av.length,ak 2 0 (aa M).au.length,ak 3 0 (aa M).O.length]]⟩::⟨0,1,List.map aY (aa M).av⟩::⟨0,2,List.map a7 ((aa M).au.set U.ai.toNat (a_.mk U.bp (nth (aa M).au U.ai).a2))⟩::⟨0,5,a0 4 (aa M).O (List.range (aa M).O.length)⟩::List.map bm (List.map ad.ac (aa M).O))⟩) (dC (n:=133) (A':=[(3,aA 3 0),(6,aA 6 0),(7,.ptr 0 1 0 0),(8,ah 0)]) (L':=[(6,[ah 0,an false,aG,aG,aG]),(3,(bg false J))]) [5,4]) (congrArg (fun z=>(⟨(bh 133 [(3,aA 3 0),(6,aA 6 0),(7,.ptr 0 1 0 0),(8,ah 0)]),[(6,[ah 0,an false,aG,aG,aG]),(3,(bg false J))],(⟨1,4,[[an (aa M).ok,ak 1 0 (aa M).av.length,ak 2 0 z,ak 3 0 (aa M).O.length]]⟩::⟨0,1,List.map aY (aa M).av⟩::⟨0,2,List.map a7 ((aa M).au.set U.ai.toNat (a_.mk U.bp (nth (aa M).au U.ai).a2))⟩::⟨0,5,a0 4 (aa M).O (List.range (aa M).O.length)⟩::List.map bm (List.map ad.ac (aa M).O))⟩:St)) (show(aa M).au.length=((aa M).au.set U.ai.toNat (a_.mk U.bp (nth (aa M).au U.ai).a2)).length by simp)))
       ·
        replace h:=h.2 jw
        refine ei [2000007] 24 [(96,an (U.op==7)),(97,an (U.op==7))] [1] [0,2,3,2,1] ?_
        refine dJ (fun lK=> ?_) (fun lK=> ?_)
        ·
         replace h:=h.1 lK
         refine cD [(100,ah ((aa M).O.length:Int)),(101,ah 0)] [0,1,4] (True) ?_ (fun mG=> ?_)
         ·
          refine bL [2000007] 25 ?_
          refine nP 2 (some 99) (ak 3 0 (aa M).O.length) [(98,.ptr 0 1 0 3)] (φ:=1=1) rfl ?_
          exact b5 [(101,ah 0),(100,ah ((aa M).O.length:Int))] trivial
         unfold IB at h
         refine fo 1 ?_
         obtain⟨ni,h⟩:=h
         refine kf (fun(v:List (List Bool)×List Nat×Int×List ad)=>(⟨(bh 133 [(3,aA 3 0),(6,aA 6 0),(7,.ptr 0 1 0 0),(8,ah 0),(100,ah ((aa M).O.length:Int)),(101,ah (v.2.2.1))]),[(6,[ah 0,an false,aG,aG,aG]),(3,(bg false J))],(⟨1,4,[[an (aa M).ok,ak 1 0 (aa M).av.length,ak 2 0 (aa M).au.length,ak 3 0 (v.2.2.2).length]]⟩::⟨0,1,List.map aY (aa M).av⟩::⟨0,2,List.map a7 (aa M).au⟩::⟨0,5,a0 4 (v.2.2.2) (v.2.1)⟩::List.map bm (v.1))⟩:St)) (fun(v:List (List Bool)×List Nat×Int×List ad)=>ay (v.1) (v.2.1) (v.2.2.1) (v.2.2.2)) (fun(v:List (List Bool)×List Nat×Int×List ad)=>aB (v.1) (v.2.1) (v.2.2.1) (v.2.2.2)) ((List.map ad.ac (aa M).O),(List.range (aa M).O.length),0,(aa M).O) (dC [5,4]) ni (fun v aX=> ?_)
         obtain⟨aZ,b6,bq,aE⟩:=v
         replace h:=h aZ b6 bq aE aX
         dsimp only
         refine ei [2000007] 26 [(102,an (decide (bq<((aa M).O.length:Int))))] [1] [6] ?_
         obtain⟨xx,h⟩:=h
         refine cD [] [0,1,6] ((decide (bq<((aa M).O.length:Int)))=true) ?_ (fun mH=> ?_)
         ·
          replace h:=xx
          refine dJ (fun pb=> ?_) (fun pb=> ?_)
          ·
           refine ep ?_
           exact ci.normal (by simp only[q2,jh,ii,la,hd,lJ,jw,lK,pb]<;>rfl) ef
          ·
           replace h:=h pb
           refine iY 1 ?_
           refine ci.exit ?_
           refine dZ.exit ?_
           refine cr.here ?_
           refine cr.normal ?_
           exact g2.normal (aZ,(aa M).av,(aa M).au,b6,0,aE) h (dC [])
         replace h:=h mH
         refine hN ?_
         refine fo 2 ?_
         refine ei [2000007] 27 [(9,ah bq),(103,ah bq)] [1] [6] ?_
         obtain⟨ts,h⟩:=h
         refine cD [(10,.ptr 3 0 (0+bq.toNat) 0)] [0,1,6] (True) ?_ (fun q_=> ?_)
         ·
          replace h:=ts
          refine bL [2000007] 28 ?_
          refine nP 2 (some 105) (ak 3 0 aE.length) [(104,.ptr 0 1 0 3)] (φ:=1=1) rfl ?_
          have agP:=h
          refine lM 2 (some 107) [(106,ah bq)] 3 0 5 agP ?_
          exact b5 [(10,.ptr 3 0 (0+bq.toNat) 0)] trivial
         unfold IA at h
         obtain⟨tr,h⟩:=h
         refine cD [] [7] ((!((nth aE bq).ao !=3))=true) ?_ (fun mI=> ?_)
         ·
          replace h:=tr
          obtain⟨oG,h⟩:=h
          refine cD [(112,an ((nth aE bq).ao !=3))] [7] (True) ?_ (fun xv=> ?_)
          ·
           replace h:=oG
           refine bL [2000007] 29 ?_
           have oE:=h
           refine iO 4 (some 111) [(110,.ptr 3 0 (0+bq.toNat) 0),(109,.ptr 3 0 (0+bq.toNat) 0),(108,.ptr 3 0 (0+bq.toNat) 0)] (a0 4 aE b6) bq 3 0 0 (ah (nth aE bq).ao) (dO oE.1 oE.2) ?_
           exact b5 [(112,an ((nth aE bq).ao !=3))] trivial
          refine dJ (fun oF=> ?_) (fun oF=> ?_)
          ·
           replace h:=h oF
           refine iY 2 ?_
           refine ci.exit ?_
           refine cr.here ?_
           refine eb.normal ?_
           refine bL [2000007] 33 ?_
           refine dX [(101,ah (IntKind.i64.wrap (bq+1))),(127,ah (IntKind.i64.wrap (bq+1)))] ?_
           exact dZ.again (aZ,b6,(IntKind.i64.wrap (bq+1)),aE) h (dC [])
          ·
           refine ep ?_
           exact ci.normal (by simp only[q2,jh,ii,la,hd,lJ,jw,lK,mH,oF]<;>rfl) ef
         replace h:=h mI
         obtain⟨tq,h⟩:=h
         refine e_ [] [7] id (fun H=>eo 3 ⟨0,5,a0 4 (aE.set bq.toNat (ad.mk (nth aE bq).ao (nth aE bq).ag (nth aE bq).ac (nth aE bq).aq (IntKind.i64.wrap ((nth aE bq).ar - 1)))) b6⟩ H) (True) ?_ (fun nO=> ?_)
         ·
          replace h:=tq
          refine bL [2000007] 30 ?_
          obtain⟨kT,h⟩:=h
          refine iO 4 (some 116) [(115,.ptr 3 0 (0+bq.toNat) 4),(114,.ptr 3 0 (0+bq.toNat) 0),(113,.ptr 3 0 (0+bq.toNat) 0)] (a0 4 aE b6) bq 3 4 0 (ah (nth aE bq).ar) (dO kT.1 kT.2) ?_
          have nh:=h
          refine j8 4 none [(119,.ptr 3 0 (0+bq.toNat) 4),(118,.ptr 3 0 (0+bq.toNat) 0),(117,ah (IntKind.i64.wrap ((nth aE bq).ar - 1)))] (a0 4 aE b6) bq 4 1 0 [ah (IntKind.i64.wrap ((nth aE bq).ar - 1))] 3 (a0 4 (aE.set bq.toNat (ad.mk (nth aE bq).ao (nth aE bq).ag (nth aE bq).ac (nth aE bq).aq (IntKind.i64.wrap ((nth aE bq).ar - 1)))) b6) (dO nh.1 nh.2) (kj nh.1 nh.2) ?_
          exact b5 [] trivial
         unfold Iz at h
         obtain⟨ra,h⟩:=h
         refine cD [(124,an ((nth (aE.set bq.toNat (ad.mk (nth aE bq).ao (nth aE bq).ag (nth aE bq).ac (nth aE bq).aq (IntKind.i64.wrap ((nth aE bq).ar - 1)))) bq).ar==0))] [7] (True) ?_ (fun CI=> ?_)
         ·
          replace h:=ra
          refine bL [2000007] 31 ?_
          have p9:=h
          refine iO 4 (some 123) [(122,.ptr 3 0 (0+bq.toNat) 4),(121,.ptr 3 0 (0+bq.toNat) 0),(120,.ptr 3 0 (0+bq.toNat) 0)] (a0 4 (aE.set bq.toNat (ad.mk (nth aE bq).ao (nth aE bq).ag (nth aE bq).ac (nth aE bq).aq (IntKind.i64.wrap ((nth aE bq).ar - 1)))) b6) bq 3 4 0 (ah (nth (aE.set bq.toNat (ad.mk (nth aE bq).ao (nth aE bq).ag (nth aE bq).ac (nth aE bq).aq (IntKind.i64.wrap ((nth aE bq).ar - 1)))) bq).ar) (dO p9.1 p9.2) ?_
          exact b5 [(124,an ((nth (aE.set bq.toNat (ad.mk (nth aE bq).ao (nth aE bq).ag (nth aE bq).ac (nth aE bq).aq (IntKind.i64.wrap ((nth aE bq).ar - 1)))) bq).ar==0))] trivial
         unfold Iy at h
         refine dJ (fun sl=> ?_) (fun sl=> ?_)
         ·
          replace h:=h.1 sl
          refine bL [2000007] 32 ?_
          obtain⟨sm,h⟩:=h
          refine Qi (⟨1,4,[[an (aa M).ok,ak 1 0 (aa M).av.length,ak 2 0 (aa M).au.length,ak 3 0 (aE.set bq.toNat (ad.mk (nth aE bq).ao (nth aE bq).ag (nth aE bq).ac (nth aE bq).aq (IntKind.i64.wrap ((nth aE bq).ar - 1)))).length]]⟩::⟨0,1,List.map aY (aa M).av⟩::⟨0,2,List.map a7 (aa M).au⟩::⟨0,5,a0 4 (aE.set bq.toNat (ad.mk (nth aE bq).ao (nth aE bq).ag (nth aE bq).ac (nth aE bq).aq (IntKind.i64.wrap ((nth aE bq).ar - 1)))) b6⟩::List.map bm aZ) (by rw[show aE.length=(aE.set bq.toNat (ad.mk (nth aE bq).ao (nth aE bq).ag (nth aE bq).ac (nth aE bq).aq (IntKind.i64.wrap ((nth aE bq).ar - 1)))).length by simp]<;>rfl) ?_
          refine tx 2 (some 126) [(125,.ptr 3 0 (0+bq.toNat) 0)] [.ptr 3 0 (0+bq.toNat) 0] _ (IX bq 1 (aa M).ok (aa M).av (aa M).au (aE.set bq.toNat (ad.mk (nth aE bq).ao (nth aE bq).ag (nth aE bq).ac (nth aE bq).aq (IntKind.i64.wrap ((nth aE bq).ar - 1)))) b6 aZ sm) (fun r H' aj=>by obtain⟨_,_,_,rfl,_⟩:=aj;rfl) ?_
          rintro r H' ⟨xX,i71,vU,rfl,rfl,tp⟩
          replace h:=h xX i71 vU tp
          refine dX [] ?_
          refine cr.normal ?_
          refine eb.normal ?_
          refine bL [2000007] 33 ?_
          refine dX [(101,ah (IntKind.i64.wrap (bq+1))),(127,ah (IntKind.i64.wrap (bq+1)))] ?_
          exact dZ.again (vU,i71,(IntKind.i64.wrap (bq+1)),xX) h (dC [])
         ·
          replace h:=h.2 sl
          refine ep ?_
          refine cr.normal ?_
          refine eb.normal ?_
          refine bL [2000007] 33 ?_
          refine dX [(101,ah (IntKind.i64.wrap (bq+1))),(127,ah (IntKind.i64.wrap (bq+1)))] ?_
          exact dZ.again (aZ,b6,(IntKind.i64.wrap (bq+1)),(aE.set bq.toNat (ad.mk (nth aE bq).ao (nth aE bq).ag (nth aE bq).ac (nth aE bq).aq (IntKind.i64.wrap ((nth aE bq).ar - 1))))) h (hz (s':=⟨(bh 133 [(3,aA 3 0),(6,aA 6 0),(7,.ptr 0 1 0 0),(8,ah 0),(100,ah ((aa M).O.length:Int)),(101,ah (IntKind.i64.wrap (bq+1)))]),[(6,[ah 0,an false,aG,aG,aG]),(3,(bg false J))],(⟨1,4,[[an (aa M).ok,ak 1 0 (aa M).av.length,ak 2 0 (aa M).au.length,ak 3 0 aE.length]]⟩::⟨0,1,List.map aY (aa M).av⟩::⟨0,2,List.map a7 (aa M).au⟩::⟨0,5,a0 4 (aE.set bq.toNat (ad.mk (nth aE bq).ao (nth aE bq).ag (nth aE bq).ac (nth aE bq).aq (IntKind.i64.wrap ((nth aE bq).ar - 1)))) b6⟩::List.map bm aZ)⟩) (dC (n:=133) (A':=[(3,aA 3 0),(6,aA 6 0),(7,.ptr 0 1 0 0),(8,ah 0),(100,ah ((aa M).O.length:Int)),(101,ah (IntKind.i64.wrap (bq+1)))]) (L':=[(6,[ah 0,an false,aG,aG,aG]),(3,(bg false J))]) []) (congrArg (fun z=>(⟨(bh 133 [(3,aA 3 0),(6,aA 6 0),(7,.ptr 0 1 0 0),(8,ah 0),(100,ah ((aa M).O.length:Int)),(101,ah (IntKind.i64.wrap (bq+1)))]),[(6,[ah 0,an false,aG,aG,aG]),(3,(bg false J))],(⟨1,4,[[an (aa M).ok,ak 1 0 (aa M).av.length,ak 2 0 (aa M).au.length,ak 3 0 z]]⟩::⟨0,1,List.map aY (aa M).av⟩::⟨0,2,List.map a7 (aa M).au⟩::⟨0,5,a0 4 (aE.set bq.toNat (ad.mk (nth aE bq).ao (nth aE bq).ag (nth aE bq).ac (nth aE bq).aq (IntKind.i64.wrap ((nth aE bq).ar - 1)))) b6⟩::List.map bm aZ)⟩:St)) (show aE.length=(aE.set bq.toNat (ad.mk (nth aE bq).ao (nth aE bq).ag (nth aE bq).ac (nth aE bq).aq (IntKind.i64.wrap ((nth aE bq).ar - 1)))).length by simp)))
        ·
         replace h:=h.2 lK
         refine ep ?_
         refine cr.normal ?_
         exact g2.normal ((List.map ad.ac (aa M).O),(aa M).av,(aa M).au,(List.range (aa M).O.length),0,(aa M).O) h (dC [5,4])
 obtain⟨aZ,aH,bt,b6,c2,aE⟩:=v
 replace h:=h aZ aH bt b6 c2 aE cZ
 dsimp only
 unfold Iu at h
 refine hN ?_
 refine bL [2000007] 34 ?_
 obtain⟨CJ,h⟩:=h
 refine tx 2 (some 129) [(128,.agg (bg false J))] [.agg (bg false J),.ptr 0 1 0 0] _ (Rz J 1 (aa M).ok aH bt aE b6 aZ CJ) (fun r H' aj=>by obtain⟨_,_,_,rfl,_⟩:=aj;rfl) ?_
 rintro r H' ⟨oJ,i82,sG,rfl,rfl,zK⟩
 replace h:=h oJ i82 sG zK
 refine dX [] ?_
 refine eb.normal ?_
 refine jW ⟨(bh 133 [(6,aA 6 0)]),[(6,[ah c2,an (aa M).ok,ak 1 0 aH.length,ak 2 0 bt.length,ak 3 0 oJ.length]),(3,(bg false J))],(⟨1,4,[[an (aa M).ok,ak 1 0 aH.length,ak 2 0 bt.length,ak 3 0 oJ.length]]⟩::⟨0,1,List.map aY aH⟩::⟨0,2,List.map a7 bt⟩::⟨0,5,a0 4 oJ i82⟩::List.map bm sG)⟩ (True) ?_ (fun tt=> ?_)
 ·
  refine bL [2000007] 35 ?_
  refine nP 2 (some 131) (.agg [an (aa M).ok,ak 1 0 aH.length,ak 2 0 bt.length,ak 3 0 oJ.length]) [(130,ah c2)] (φ:=1=1) rfl ?_
  exact b5 [(132,.agg [ah c2,an (aa M).ok,ak 1 0 aH.length,ak 2 0 bt.length,ak 3 0 oJ.length])] trivial
 exact hB (nk (.agg [ah c2,an (aa M).ok,ak 1 0 aH.length,ak 2 0 bt.length,ak 3 0 oJ.length]) (im.agg (aD.cons (xN h.1) (aD.cons (nm h.2.1) (aD.cons (rm (sz:=1) (by simp) rfl (v0) h.2.2.1) (aD.cons (rm (sz:=2) (by simp) rfl (yn) h.2.2.2.1) (aD.cons (C3 (s:=4) (ws:=oJ) (ids:=i82) (bs:=sG) (by simp) rfl (fun id k h=>by simpa using h) h.2.2.2.2) aD.nil)))))))
theorem aec (J:az) (M:Frame) (U:Event) (aI:CW J M U):b2 Try.prog 92 [.agg (bg false J),.agg (b1 false M),.agg (jo U)] (.agg (sN true (gr J M U))):=aeh J M U (gr J M U) (fun bs is v ws=>cl M.O.length (fun _=>false) v∧gy ws is bs∧view ws is bs=hU J v.toNat M.O) (fun _ _ v _=>cy M.O.length v) (fun bs o q is c ws=>gy ws is bs∧c=e8 J M U∧Frame.mk M.ok o q (view ws is bs)=jL J M U) (by
 unfold Ir Iv
 have hs:jz M:=aI
 have l_:=hs
 obtain⟨x5,oK,An,vH⟩:=l_
 refine⟨⟨⟨hs,fun hk=> ?_⟩,fun hc=> ?_⟩,fun hc=> ?_⟩
 ·have hk:ev J M=true:=by simpa using hk
  have h1:=(jG hk).in.c0
  exact⟨by omega,by omega⟩
 ·have hc: ¬(ev J M&&eZ J U)=true:=by
   intro h;rw[Bool.and_eq_true] at h;rw[h.1,h.2] at hc;cases hc
  have e:gr J M U=⟨1,⟨false,[],[],[]⟩⟩:=by unfold gr;rw[if_neg hc]
  rw[e];exact⟨rfl,rfl,rfl,rfl,rfl⟩
 have hc:ev J M=true∧eZ J U=true:=by simpa using hc
 obtain⟨hk,he⟩:=hc
 have hf:=jG hk
 have cx:=hf.in
 have dc:=hf.fr
 have aL:=dc.O
 have qP:=dc.av
 have k5:=dc.au
 have y3:=cx.O
 have nE:=cx.c0
 have wS:=cx.sw
 have FG:gr J M U=⟨e8 J M U,ee J (jL J M U)⟩:=by unfold gr;rw[if_pos (by rw[hk,he];rfl)]
 obtain⟨fs,fX,fw⟩:=wk M.O
 have lA:gy M.O (List.range M.O.length) (M.O.map ad.ac):=⟨fs,fX,fun b hb=>by
  obtain⟨h,bY,rfl⟩:=List.mem_map.1 hb;exact vH h bY⟩
 have BT:c5 (aa M).ok (aa M).av (aa M).au (aa M).O (List.range (aa M).O.length) (List.map ad.ac (aa M).O)=M:=by
  show Frame.mk M.ok M.av M.au (view M.O (List.range M.O.length) (List.map ad.ac M.O))=M
  rw[fw]
 have Mp:view (aa M).O (List.range (aa M).O.length) (List.map ad.ac (aa M).O)=M.O:=fw
 have l9: ∀c:Int,c=e8 J M U→c≠0→gy M.O (List.range M.O.length) (M.O.map ad.ac)∧c=e8 J M U∧Frame.mk M.ok M.av M.au (view M.O (List.range M.O.length) (M.O.map ad.ac))=jL J M U:=fun c hc cm=>⟨lA,hc,by
  unfold jL;rw[if_neg (by rw[←hc];exact cm),fw]⟩
 have FA:e8 J M U=0→jL J M U=ff J M U:=fun h=>by unfold jL;rw[if_pos h]
 refine⟨hs,⟨fun h1=> ?_,fun h1=> ?_⟩,fun bs o q is c ws cZ=> ?_⟩
 ·have h1:U.op=1:=by simpa using h1
  have bu:=oc he (.inl h1)
  have rT:e8 J M U=eY J M U.ai:=by unfold e8;rw[if_pos h1]
  unfold Is
  refine⟨⟨hf,bu.1,bu.2⟩,fun aO=>⟨⟨lA,cx,bu.1,by show U.ai<(M.O.length:Int);omega,bu.2,k5⟩,fun q w ko=> ?_⟩,fun aO=> ?_⟩
  ·have aO:eY J M U.ai=0:=by simpa using aO
   obtain⟨aj,G,hv⟩:=ko
   rw[Mp] at hv
   refine⟨G,rT.symm,?_⟩
   rw[FA (by rw[rT,aO])]
   unfold ff
   rw[if_pos h1,hv,aj];rfl
  ·have aO: ¬eY J M U.ai=0:=by simpa using aO
   exact l9 _ rT.symm aO
 ·have h1: ¬U.op=1:=by simpa using h1
  unfold It
  refine⟨fun h2=> ?_,fun h2=> ?_⟩
  ·have h2:U.op=2:=by simpa using h2
   have bu:=oc he (.inr h2)
   refine⟨⟨lA,cx,bu.1,by show U.ai<(M.O.length:Int);omega,bu.2,qP⟩,fun w i b r ko=> ?_⟩
   unfold uS at ko
   rw[BT,Mp] at ko
   obtain⟨G,aK,hv⟩:=ko
   have rT:e8 J M U=sH M U.ai:=by unfold e8;rw[if_neg h1,if_pos h2];rfl
   refine⟨G,aK.trans rT.symm,?_⟩
   unfold jL
   rw[rT,hv]
   by_cases aO:sH M U.ai=0
   ·rw[if_pos aO,if_pos aO]
    unfold ff AE
    rw[if_neg h1,if_pos h2,Ms dc bu.1 bu.2]
    split<;>rfl
   ·rw[if_neg aO,if_neg aO];rfl
  have h2: ¬U.op=2:=by simpa using h2
  have ok: ∀(o:List Bool) (q:List a_),e8 J M U=0→ff J M U={M with av:=o,au:=q}→gy M.O (List.range M.O.length) (M.O.map ad.ac)∧0=e8 J M U∧Frame.mk M.ok o q (view M.O (List.range M.O.length) (M.O.map ad.ac))=jL J M U:=fun o q hc bj=>⟨lA,hc.symm,by rw[FA hc,fw,bj]⟩
  unfold ID
  refine⟨fun aP=> ?_,fun aP=>⟨fun a8=> ?_,fun a8=> ?_⟩⟩
  ·have aP:U.op=3:=by simpa using aP
   have bu:=Ey he (.inl aP)
   refine⟨⟨bu.1,by show U.ai.toNat<M.av.length;omega⟩,ok _ _ ?_ ?_⟩
   ·unfold e8;rw[if_neg h1,if_neg h2,if_neg (by omega)]
   ·unfold ff;rw[if_neg h1,if_neg h2,if_pos (.inl aP),aP];rfl
  ·have a8:U.op=4:=by simpa using a8
   have bu:=Ey he (.inr a8)
   refine⟨⟨bu.1,by show U.ai.toNat<M.av.length;omega⟩,ok _ _ ?_ ?_⟩
   ·unfold e8;rw[if_neg h1,if_neg h2,if_neg (by omega)]
   ·unfold ff;rw[if_neg h1,if_neg h2,if_pos (.inr a8),a8];rfl
  have ag8: ¬U.op=3:=by simpa using aP
  have ag9: ¬U.op=4:=by simpa using a8
  have aP: ¬(U.op=3∨U.op=4):=by omega
  unfold IC
  refine⟨fun cs=> ?_,fun cs=> ?_⟩
  ·have cs:U.op=5:=by simpa using cs
   have bu:=wi he (.inl cs)
   refine⟨⟨bu.1,by show U.ai.toNat<M.au.length;omega⟩,ok _ _ ?_ ?_⟩
   ·unfold e8;rw[if_neg h1,if_neg h2,if_neg (by omega)]
   ·unfold ff;rw[if_neg h1,if_neg h2,if_neg aP,if_pos cs];rfl
  have cs: ¬U.op=5:=by simpa using cs
  refine⟨fun cT=> ?_,fun cT=>⟨fun gk=> ?_,fun gk=> ?_⟩⟩
  ·have cT:U.op=6:=by simpa using cT
   have bu:=wi he (.inr cT)
   have j1:e8 J M U=if je J M U.ai=true then 2 else if kr J M U.ai=true then 3 else 0:=by unfold e8;rw[if_neg h1,if_neg h2,if_pos cT]
   refine⟨⟨hf,bu.1,bu.2⟩,fun _=> ?_⟩
   unfold Ix Iw
   have FL:=cx.be _ (dq (show U.ai.toNat<J.be.length by omega))
   refine⟨fun hc=> ?_,fun hc=>⟨⟨⟨bu.1,by omega⟩,FL.1,by omega⟩,fun aC=> ?_,fun aC=>⟨⟨bu.1,by show _<M.au.length;omega⟩,ok _ _ ?_ ?_⟩⟩⟩
   ·rw[if_pos (show je J M U.ai=true from hc)] at j1
    exact l9 2 j1.symm (by decide)
   ·rw[if_neg (show ¬je J M U.ai=true by rw[show je J M U.ai=false from hc];simp),if_pos (show kr J M U.ai=true from aC)] at j1
    exact l9 3 j1.symm (by decide)
   ·rw[if_neg (show ¬je J M U.ai=true by rw[show je J M U.ai=false from hc];simp),if_neg (show ¬kr J M U.ai=true by rw[show kr J M U.ai=false from aC];simp)] at j1
    exact j1
   ·unfold ff;rw[if_neg h1,if_neg h2,if_neg aP,if_neg cs,if_pos cT];rfl
  ·have cT: ¬U.op=6:=by simpa using cT
   have gk:U.op=7:=by simpa using gk
   have j1:e8 J M U=0:=by unfold e8;rw[if_neg h1,if_neg h2,if_neg cT]
   unfold IB
   refine⟨⟨c6 (dd _),lA,fw⟩,fun bs is v ws aX=> ?_⟩
   obtain⟨aX,G,j2⟩:=aX
   have BX:ws.length=M.O.length:=by rw[←jl G.ok,j2,Ac]
   refine⟨fun hv=>⟨G,j1.symm,?_⟩,fun hv=> ?_⟩
   ·have kq: ¬v<(M.O.length:Int):=of_decide_eq_false hv
    have a4:=aX.1
    have hb:=aX.2.1
    rw[FA j1,j2,show v.toNat=M.O.length by omega]
    unfold ff;rw[if_neg h1,if_neg h2,if_neg aP,if_neg cs,if_neg cT,if_pos gk];rfl
   ·have b9:=b8 aX hv
    have bf:v.toNat<ws.length:=by omega
    have wJ:v.toNat<J.O.length:=by omega
    have dz:dt (hU J v.toNat M.O) is v (nth (hU J v.toNat M.O) v) ws bs:=dt.start G.ok G.kQ bf j2 G.len
    have bi:=cG (by omega) aX hv rfl
    have qR:=iE (show(M.O.length:Int)≤4611686018427387904 by omega) aX.1 (of_decide_eq_true hv)
    have eC:=dz.xI (IntKind.i64.wrap ((nth ws v).ar - 1))
    have fin: ∀{dh:List Nat} {kA:List ad} {mu:List (List Bool)} {x:ad},dt (hU J v.toNat M.O) dh v x kA mu→x=lj J v.toNat (nth (hU J v.toNat M.O) v)→(cl M.O.length (fun _=>false) (IntKind.i64.wrap (v+1))∧gy kA dh mu∧view kA dh mu=hU J (IntKind.i64.wrap (v+1)).toNat M.O)∧cy M.O.length (IntKind.i64.wrap (v+1))<cy M.O.length v:=fun F hx=>by
     refine⟨⟨bi.1,F.G,?_⟩,bi.2⟩
     rw[F.g0,hx,qR,show(v+1).toNat=v.toNat+1 by omega]
     show _=(hU J v.toNat M.O).set v.toNat (lj J v.toNat (nth (hU J v.toNat M.O) (v.toNat:Int)))
     rw[ig b9.1]
    have bu:(nth (ws.set v.toNat (ad.mk (nth ws v).ao (nth ws v).ag (nth ws v).ac (nth ws v).aq (IntKind.i64.wrap ((nth ws v).ar - 1)))) v).ar=IntKind.i64.wrap ((nth ws v).ar - 1):=eC.ar
    have Fq:a6 J (v.toNat:Int)=a6 J v:=by rw[Int.toNat_of_nonneg b9.1]
    unfold IA Iz Iy
    rw[bu,dz.ar,dz.ao]
    rw[dz.ar,dz.ao] at eC
    refine⟨⟨b9.1,bf⟩,⟨dz.fA,fun aP=>fin dz ?_⟩,fun aP=>⟨⟨dz.fA,dz.fA⟩,eC.fA,fun aU=>⟨⟨eC.G,b9.1,by have:=eC.lt;omega⟩,fun w i b ko=> ?_⟩,fun aU=>fin eC ?_⟩⟩
    ·unfold lj;rw[if_neg (by simpa using aP)]
    ·obtain⟨n0,kq⟩:=ko
     refine fin (eC.again n0 kq) ?_
     have hb:=Jr dc v.toNat
     have ek:=Ms hb b9.1 (by omega)
     unfold lj
     rw[if_pos (by simpa using aP),if_pos (by simpa using aU),Fq,←ek,eC.xg]
    ·unfold lj;rw[if_pos (by simpa using aP),if_neg (by simpa using aU)]
  ·have cT: ¬U.op=6:=by simpa using cT
   have gk: ¬U.op=7:=by simpa using gk
   refine ok _ _ ?_ ?_
   ·unfold e8;rw[if_neg h1,if_neg h2,if_neg cT]
   ·unfold ff;rw[if_neg h1,if_neg h2,if_neg aP,if_neg cs,if_neg cT,if_neg gk];rfl
 ·obtain⟨G,hc,bj⟩:=cZ
  have b9:=abN dc he
  have pK:c5 (aa M).ok o q ws is bs=jL J M U:=bj
  have k6:=qc J (jL J M U) (jL J M U).O.length
  unfold Iu
  refine⟨⟨G,cx,by rw[pK];exact b9⟩,fun w i b ko=> ?_⟩
  obtain⟨n0,kq⟩:=ko
  rw[pK] at kq
  rw[←bj] at b9
  have aC:=b9.av
  have aj:=b9.au
  replace aC:(o.length:Int)=J.af:=aC
  replace aj:q.length=J.be.length:=aj
  have BX:w.length=(jL J M U).O.length:=by rw[←jl n0.ok,kq];exact pd _ _ _
  have hml:(jL J M U).O.length=J.O.length:=by rw[←bj];exact b9.O
  rw[FG]
  refine⟨hc,?_,⟨by omega,?_⟩,⟨by omega,?_⟩,n0.ok,by omega,fun x hx=>by have:=n0.len x hx;omega,kq⟩
  ·show M.ok=(ee J (jL J M U)).ok
   unfold ee;rw[k6.1,←bj]
  ·show o=(ee J (jL J M U)).av
   unfold ee;rw[k6.2.1,←bj]
  ·show q=(ee J (jL J M U)).au
   unfold ee;rw[k6.2.2,←bj])
def aee:ey Try.prog:=⟨92,[.dr,.frame,.fR],[.done],some fun x=>CW x.1 x.2.1 x.2.2.1,fun x=>((gr x.1 x.2.1 x.2.2.1),()),fun x h=>aec x.1 x.2.1 x.2.2.1 h⟩
def afD:List Item:=[ap 0,ap 1,ap 2,ap 3,ap 4,ap 5,ap 6,ap 7,ap 8,ap 9]
def afE:List (List Nat):=[[],[0],[0,1],[0,1,2],[],[4],[4,5],[4,5,6],rg 4 8,rg 0 9]
def afF:List Item:=[ap 0,ap 1,ap 2,ap 3,ap 4,ap 5,ap 6,ap 7,ap 8,ap 9,ap 10]
def afG:List (List Nat):=[[],[0],[0,1],[0,1,2],[],[4],[4,5],[4,5,6],rg 0 8,rg 0 9,rg 0 10]
def Sa (c c':bc) (al:Int):Prop:=
  ((bc.mk c.code (IntKind.i64.wrap (c.pos+1)) (IntKind.u64.wrap ((IntKind.u64.wrap (c.tC*6364136223846793005))+1442695040888963407)))=c')∧((IntKind.i64.wrap ((IntKind.u64.wrap (((BitVec.ofInt IntKind.u64.bits ((IntKind.u64.wrap ((IntKind.u64.wrap (c.tC*6364136223846793005))+1442695040888963407)).fdiv (2 ^ (min (40:Int).toNat IntKind.u64.bits)))&&&BitVec.ofInt IntKind.u64.bits 255).toNat:Int)))))=al)
def Sb (c c':bc) (al:Int):Prop:=
  ((decide (c.pos<(c.code.length:Int)))=true→(0≤c.pos∧c.pos.toNat<c.code.length)∧(((bc.mk c.code (IntKind.i64.wrap (c.pos+1)) (IntKind.u64.wrap ((IntKind.u64.wrap ((IntKind.u64.wrap (c.tC*6364136223846793005))+(IntKind.u64.wrap (((nth c.code c.pos).toNat:Int)))))+1442695040888963407)))=c')∧((IntKind.i64.wrap (((nth c.code c.pos).toNat:Int)))=al)))∧((!(decide (c.pos<(c.code.length:Int))))=true→(0≤(40:Int))∧(Sa c c' al))
def R_ (c c':bc) (al:Int):Prop:=
 Sb c c' al
theorem afB (hg:Nat) (c:bc) (aI:bZ 1 c):iV Try.prog 163 hg (jX hg [.p] ()) (cb false .db c) (cb false .db (lG c)) (k0 [.int] ((m_ c),())):=(fun(h:R_ c (lG c) (m_ c))=>iV.run (hg:=hg) (ce:= .db) (l:=[.p]) (rs:=[.int]) (x:=()) (c:=c) (c':=(lG c)) (r:=((m_ c),())) ⟨68,eh,[]⟩ ⟨[],[(1,afD,afE),(2,afF,afG)],[],[],[]⟩ .nil Try.func163 h) (by
 unfold R_ Sb Sa lG m_
 cases hb:decide (c.pos<(c.code.length:Int)) with
 | true=>
  have h1:c.pos<(c.code.length:Int):=by simpa using hb
  exact⟨fun _=>⟨⟨aI.1,by have:=aI.1;omega⟩,rfl,rfl⟩,fun h=>(by cases h)⟩
 | false=>exact⟨fun h=>(by cases h),fun _=>⟨by decide,rfl,rfl⟩⟩)
def afC:lr Try.prog:=⟨163,.db,[.p],[.int],fun x c=>bZ 1 c,fun x c=>lG c,fun x c=>((m_ c),()),fun g x c h=>afB g c h⟩
def Se (M:Int) (c c':bc) (al:Int):Prop:=
 ((decide (M≤1))=true→(c=c')∧(0=al))∧((!(decide (M≤1)))=true→(bZ 1 c)∧(((decide (M>200))=true→bZ 1 (lG c))∧((M≠0)∧(((bif (decide (M>200)) then(lG (lG c)) else(lG c))=c')∧(((bif (decide (M>200)) then(IntKind.i64.wrap ((IntKind.i64.wrap ((m_ c)*256))+(m_ (lG c)))) else(m_ c)).tmod M)=al)))))
theorem afJ (hg:Nat) (M:Int) (c:bc) (aI:iL M c):iV Try.prog 148 hg (jX hg [.p,.v .int] (M,())) (cb false .db c) (cb false .db (bM M c)) (k0 [.int] ((cO M c),())):=(fun(h:Se M c (bM M c) (cO M c))=>iV.run (hg:=hg) (ce:= .db) (l:=[.p,.v .int]) (rs:=[.int]) (x:=(M,())) (c:=c) (c':=(bM M c)) (r:=((cO M c),())) ⟨20,eh,[]⟩ ⟨[],[],[],[afC],[]⟩ .nil Try.func148 h) (by
 unfold Se bM cO
 refine⟨fun h=> ?_,fun h=> ?_⟩
 ·have h:M≤1:=by simpa using h
  rw[if_pos h,if_pos h];exact⟨rfl,rfl⟩
 ·have h: ¬M≤1:=by simpa using h
  rw[if_neg h,if_neg h]
  exact⟨aI.mono (by omega),fun _=>bZ.next (k:=1) aI (by omega),by omega,rfl,rfl⟩)
def z7:lr Try.prog:=⟨148,.db,[.p,.v .int],[.int],fun x c=>iL x.1 c,fun x c=>bM x.1 c,fun x c=>((cO x.1 c),()),fun g x c h=>afJ g x.1 c h⟩
abbrev mQ (r:Type):Type:=bc→Nat→(List Int)→Int→r
def Sv (ay:mQ Prop) (aB:mQ Nat) (M:Int) (c9:(List Int)) (bN:bc) (aT:Nat) (aH:(List Int)) (v10:Int):Prop:=
  (((!(meets [(cO M bN)] aH))&&(!(meets [(cO M bN)] c9)))=true→((aH.length+[(cO M bN)].length)*8≤140737488355328∧aH.length+[(cO M bN)].length≤4611686018427387904)∧(ay (bM M bN) (aT+1) (aH++[(cO M bN)]) (IntKind.i64.wrap (v10 - 1))∧aB (bM M bN) (aT+1) (aH++[(cO M bN)]) (IntKind.i64.wrap (v10 - 1))<aB bN aT aH v10))∧(((!(meets [(cO M bN)] aH))&&(!(meets [(cO M bN)] c9)))=false→ay (bM M bN) aT aH (IntKind.i64.wrap (v10 - 1))∧aB (bM M bN) aT aH (IntKind.i64.wrap (v10 - 1))<aB bN aT aH v10)
def Sw (ay:mQ Prop) (aB:mQ Nat) (M U:Int) (c9:(List Int)) (c c':bc) (al:(List Int)):Prop:=
  (iL (IntKind.i64.wrap (U+1)) c)∧(ay (bM (IntKind.i64.wrap (U+1)) c) 0 ([]:List Int) (cO (IntKind.i64.wrap (U+1)) c)∧ ∀(bN:bc) (aT:Nat) (aH:(List Int)) (v10:Int),ay bN aT aH v10→(((decide (v10>0))=false→(bN=c')∧(aH.length≤4611686018427387904∧aH=al))∧((decide (v10>0))=true→(iL M bN)∧((aH.length≤4611686018427387904)∧(Sv ay aB M c9 bN aT aH v10)))))
def Su (M:Int) (U:Int) (c9:(List Int)) (c c':bc) (al:(List Int)) (ay:mQ Prop) (aB:mQ Nat):Prop:=
 Sw ay aB M U c9 c c' al
theorem afU (hg:Nat) (M:Int) (U:Int) (c9:(List Int)) (c:bc) (aI:z4 M U c9 c):iV Try.prog 149 hg (jX hg [.p,.v .int,.v .int,.v (.l .int)] (M,U,c9,())) (cb false .db c) (cb false .db (ia M U c9 c)) (k0 [(.l .int)] ((hH M U c9 c),())):=(fun(ay:mQ Prop) (aB:mQ Nat) (h:Su M U c9 c (ia M U c9 c) (hH M U c9 c) ay aB)=>iV.run (hg:=hg) (ce:= .db) (l:=[.p,.v .int,.v .int,.v (.l .int)]) (rs:=[(.l .int)]) (x:=(M,U,c9,())) (c:=c) (c':=(ia M U c9 c)) (r:=((hH M U c9 c),())) ⟨40,eh,[z6]⟩ ⟨[],[],[],[z7],[]⟩ (.lp [(0,9,.int)] [0,1,3] [] [.db,.nat,(.l .int),.int] [bC 0,bC 1,bC 1,10] (fun aN=>[(9,.ref 1 aN.2.1 aN.2.2.1.length false),(10,.i .i64 aN.2.2.2.1),(bC 0,.eI hg (gI false .db aN.1)),(bC 1,.blk aN.2.1 .int aN.2.2.1 _ rfl)]) (fun aN=>ay aN.1 aN.2.1 aN.2.2.1 aN.2.2.2.1) (fun aN=>aB aN.1 aN.2.1 aN.2.2.1 aN.2.2.2.1) fun _=> .nil) Try.func149 h) (fun d _ x v=>(0≤v∧v≤4)∧bZ (2*v) d∧x.length+v.toNat≤4∧vq M c9 v.toNat d x=Ii M U c9 c) (fun _ _ _ v=>v.toNat) (by
 obtain⟨aj,aU,a8⟩:=aI
 have hw:IntKind.i64.wrap (U+1)=U+1:=fu (by omega) (by omega)
 have hv:=nb (IntKind.i64.wrap (U+1)) c
 have kF:=QR (c:=c) aU a8
 unfold z3 at kF
 unfold Su Sw
 refine⟨aj.mono (by omega),⟨⟨hv.1,by omega⟩,(bZ.pick (k:=8) (aj.mono (by omega)) (by omega)).mono (by omega),by show 0+_≤4;omega,rfl⟩,fun bN aT aH v ⟨aK,aI,aL,he⟩=>⟨fun hv=> ?_,fun hv=>⟨aI.mono ?_,by omega,?_⟩⟩⟩
 ·have hv: ¬v>0:=by simpa using hv
  have hX:v.toNat=0:=by omega
  rw[hX] at he
  unfold ia hH
  rw[←he]
  exact⟨rfl,by omega,rfl⟩
 ·have hv:v>0:=by simpa using hv
  omega
 ·have hv:v>0:=by simpa using hv
  have k1:IntKind.i64.wrap (v - 1)=v - 1:=fu (by omega) (by omega)
  have yv:v.toNat=(v - 1).toNat+1:=by omega
  have bj:bZ (2*(v - 1)) (bM M bN):=bZ.pick (aI.mono (by omega)) (by omega)
  rw[yv] at he
  unfold vq at he
  unfold Sv
  rw[k1]
  refine⟨fun hb=>⟨⟨by simp;omega,by simp;omega⟩,⟨⟨by omega,by omega⟩,bj,by simp;omega,?_⟩,by show(v - 1).toNat<v.toNat;omega⟩,fun hb=>⟨⟨⟨by omega,by omega⟩,bj,by omega,?_⟩,by show(v - 1).toNat<v.toNat;omega⟩⟩
  ·rw[if_pos hb] at he;exact he
  ·rw[if_neg (by rw[hb];simp)] at he;exact he)
def afV:lr Try.prog:=⟨149,.db,[.p,.v .int,.v .int,.v (.l .int)],[(.l .int)],fun x c=>z4 x.1 x.2.1 x.2.2.1 c,fun x c=>ia x.1 x.2.1 x.2.2.1 c,fun x c=>((hH x.1 x.2.1 x.2.2.1 c),()),fun g x c h=>afU g x.1 x.2.1 x.2.2.1 c h⟩
def Sd (c c':bc) (al:Event):Prop:=
  (((cO 2 (bM 4 (bM 8 (bM 9 c))))==0)=true→((bM 2 (bM 4 (bM 8 (bM 9 c))))=c')∧(((cO 9 c)=al.op)∧((IntKind.i64.wrap ((cO 8 (bM 9 c)) - 1))=al.ai)∧(0=al.bp)))∧(((cO 2 (bM 4 (bM 8 (bM 9 c))))==0)=false→((bM 2 (bM 4 (bM 8 (bM 9 c))))=c')∧(((cO 9 c)=al.op)∧((IntKind.i64.wrap ((cO 8 (bM 9 c)) - 1))=al.ai)∧((IntKind.i64.wrap ((cO 4 (bM 8 (bM 9 c))) - 1))=al.bp)))
def Sc (M:az) (c c':bc) (al:Event):Prop:=
 ((iL 9 c)∧((iL 8 (bM 9 c))∧(iL 4 (bM 8 (bM 9 c)))))∧((iL 2 (bM 4 (bM 8 (bM 9 c))))∧(Sd c c' al))
theorem afH (hg:Nat) (M:az) (c:bc) (aI:Hl M c):iV Try.prog 151 hg (jX hg [.p,.v .dr] (M,())) (cb false .db c) (cb false .db (o7 M c)) (k0 [.fR] ((iK M c),())):=(fun(h:Sc M c (o7 M c) (iK M c))=>iV.run (hg:=hg) (ce:= .db) (l:=[.p,.v .dr]) (rs:=[.fR]) (x:=(M,())) (c:=c) (c':=(o7 M c)) (r:=((iK M c),())) ⟨20,eh,[]⟩ ⟨[],[],[],[z7],[]⟩ .nil Try.func151 h) (by
 unfold Sc Sd o7 iK
 have h1:bZ 6 (bM 9 c):=bZ.pick (aI.mono (by omega)) (by omega)
 have h2:bZ 4 (bM 8 (bM 9 c)):=bZ.pick (h1.mono (by omega)) (by omega)
 have aP:bZ 2 (bM 4 (bM 8 (bM 9 c))):=bZ.pick (h2.mono (by omega)) (by omega)
 refine⟨⟨aI.mono (by omega),h1.mono (by omega),h2.mono (by omega)⟩,aP.mono (by omega),fun h=>⟨rfl,rfl,rfl,?_⟩,fun h=>⟨rfl,rfl,rfl,?_⟩⟩
 ·rw[h];rfl
 ·rw[h];rfl)
def afI:lr Try.prog:=⟨151,.db,[.p,.v .dr],[.fR],fun x c=>Hl x.1 c,fun x c=>o7 x.1 c,fun x c=>((iK x.1 c),()),fun g x c h=>afH g x.1 c h⟩
def afY:List Item:=[ap 0,ap 1,ap 2,ap 3,ap 4,ap 5,ap 6,ap 7,ap 8,ap 9,ap 10,ap 11,ap 12,ap 13,ap 14,ap 15,ap 16,ap 17,ap 18,ap 19,ap 20,ap 21,ap 22,ap 23,ap 24,ap 25,ap 26,ap 27]
def afZ:List (List Nat):=[[],[0],[0,1],[0,1,2],rg 0 4,rg 0 5,rg 0 4,rg 0 7,rg 0 8,rg 0 9,rg 0 10,rg 0 11,rg 0 11,rg 0 11++[12],rg 0 11++[12,13],rg 0 15,rg 0 16,rg 0 17,rg 0 18,rg 0 17,rg 0 17,rg 0 17++[20],rg 0 17++[19,20,21],rg 0 17++rg 19 23,rg 0 24,rg 0 25,rg 0 26,rg 0 27]
def Sy (M:az) (U:Frame) (c c':bc) (al:Event) (dj c8:Int):Prop:=
  ((((nth U.O c8).ao==4)=true→(0≤(nth (nth M.O c8).af dj)∧(nth (nth M.O c8).af dj).toNat<U.av.length)∧((nth U.av (nth (nth M.O c8).af dj))=true→(dj==(IntKind.i64.wrap (((nth M.O c8).af.length:Int) - 1)))=false→(0≤(IntKind.i64.wrap (dj+1))∧(IntKind.i64.wrap (dj+1)).toNat<(nth M.O c8).af.length)∧(0≤(nth (nth M.O c8).af (IntKind.i64.wrap (dj+1)))∧(nth (nth M.O c8).af (IntKind.i64.wrap (dj+1))).toNat<U.av.length)))∧((((nth U.O c8).ao==4)&&((nth U.av (nth (nth M.O c8).af dj))&&((dj==(IntKind.i64.wrap (((nth M.O c8).af.length:Int) - 1))) || (nth U.av (nth (nth M.O c8).af (IntKind.i64.wrap (dj+1)))))))=true→(c=c')∧((4=al.op)∧((nth (nth M.O c8).af dj)=al.ai)∧(0=al.bp))))∧((!(((nth U.O c8).ao==4)&&((nth U.av (nth (nth M.O c8).af dj))&&((dj==(IntKind.i64.wrap (((nth M.O c8).af.length:Int) - 1))) || (nth U.av (nth (nth M.O c8).af (IntKind.i64.wrap (dj+1))))))))=true→((decide (dj ≥ (nth U.O c8).ag))=true→0≤dj∧dj.toNat<(nth U.O c8).ac.length)∧(((decide (dj ≥ (nth U.O c8).ag))&&(!(nth (nth U.O c8).ac dj)))=true→(c=c')∧((3=al.op)∧((nth (nth M.O c8).af dj)=al.ai)∧(0=al.bp))))
def Sz (aQ:Int→Int→Prop) (aR:Int→Int→Nat) (M:az) (U:Frame) (c c':bc) (al:Event) (dj c8:Int):Prop:=
  ((0≤dj∧dj.toNat<(nth M.O c8).af.length)∧(Sy M U c c' al dj c8))∧(((!(((nth U.O c8).ao==4)&&((nth U.av (nth (nth M.O c8).af dj))&&((dj==(IntKind.i64.wrap (((nth M.O c8).af.length:Int) - 1))) || (nth U.av (nth (nth M.O c8).af (IntKind.i64.wrap (dj+1))))))))&&(!((decide (dj ≥ (nth U.O c8).ag))&&(!(nth (nth U.O c8).ac dj)))))=true→aQ c8 (IntKind.i64.wrap (dj+1))∧aR c8 (IntKind.i64.wrap (dj+1))<aR c8 dj)
def SA (ay:Int→Prop) (aB:Int→Nat) (aQ:Int→Int→Prop) (aR:Int→Int→Nat) (M:az) (U:Frame) (c c':bc) (al:Event) (c8:Int):Prop:=
  (0≤c8∧c8.toNat<M.O.length)∧((nth M.O c8).af.length≤4611686018427387904→aQ c8 0∧ ∀(dj:Int),aQ c8 dj→(((decide (dj<((nth M.O c8).af.length:Int)))=false→ay (IntKind.i64.wrap (c8+1))∧aB (IntKind.i64.wrap (c8+1))<aB c8)∧((decide (dj<((nth M.O c8).af.length:Int)))=true→Sz aQ aR M U c c' al dj c8)))
def SB (ay:Int→Prop) (aB:Int→Nat) (aQ:Int→Int→Prop) (aR:Int→Int→Nat) (M:az) (U:Frame) (c c':bc) (al:Event) (c8:Int):Prop:=
  ((decide (c8<(U.O.length:Int)))=false→(c=c')∧((1=al.op)∧(0=al.ai)∧(0=al.bp)))∧((decide (c8<(U.O.length:Int)))=true→(0≤c8∧c8.toNat<U.O.length)∧(((((nth U.O c8).ao==0) || ((nth U.O c8).ao==1))=true→ay (IntKind.i64.wrap (c8+1))∧aB (IntKind.i64.wrap (c8+1))<aB c8)∧((!(((nth U.O c8).ao==0) || ((nth U.O c8).ao==1)))=true→SA ay aB aQ aR M U c c' al c8)))
def Sx (M:az) (U:Frame) (c c':bc) (al:Event) (ay:Int→Prop) (aB:Int→Nat) (aQ:Int→Int→Prop) (aR:Int→Int→Nat):Prop:=
 U.O.length≤4611686018427387904→ay 0∧ ∀(c8:Int),ay c8→(SB ay aB aQ aR M U c c' al c8)
theorem afW (hg:Nat) (M:az) (U:Frame) (c:bc) (aI:Ju M U c):iV Try.prog 164 hg (jX hg [.p,.v .dr,.v .frame] (M,U,())) (cb false .db c) (cb false .db (Ae M U c)) (k0 [.fR] ((qg M U c),())):=(fun(ay:Int→Prop) (aB:Int→Nat) (aQ:Int→Int→Prop) (aR:Int→Int→Nat) (h:Sx M U c (Ae M U c) (qg M U c) ay aB aQ aR)=>iV.run (hg:=hg) (ce:= .db) (l:=[.p,.v .dr,.v .frame]) (rs:=[.fR]) (x:=(M,U,())) (c:=c) (c':=(Ae M U c)) (r:=((qg M U c),())) ⟨88,eh,[]⟩ ⟨[],[(9,afY,afZ)],[],[],[]⟩ (eP [4,5,6,13,14] [(6,3),(5,4),(4,5)] 15 ay aB fun aN=>(eP [4,5,6,8,9,13,14,15,34,35] [(8,5),(6,3),(5,4),(4,5)] 36 (aQ aN) (aR aN) fun _=> .nil)) Try.func164 h) (fun i=>(0≤i∧i≤U.O.length)∧xT M U (U.O.length - i).toNat i=qg M U c) (fun i=>(U.O.length - i).toNat) (fun i k=>(0≤k∧k≤(nth M.O i).af.length)∧vz M U i ((nth M.O i).af.length - k).toNat k=vz M U i (nth M.O i).af.length 0) (fun i k=>((nth M.O i).af.length - k).toNat) (by
 obtain⟨cx,dc⟩:=aI
 have ahk:U.O.length=M.O.length:=dc.O
 have hw:=cx.O
 unfold Sx
 refine fun aF=>⟨⟨⟨Int.le_refl _,by omega⟩,by show xT M U ((U.O.length:Int) - 0).toNat 0=_;rw[show((U.O.length:Int) - 0).toNat=U.O.length by omega];rfl⟩,fun i ⟨⟨i0,i1⟩,hi⟩=> ?_⟩
 unfold SB
 refine⟨fun he=> ?_,fun bf=> ?_⟩
 ·have he: ¬i<(U.O.length:Int):=by simpa using he
  rw[show((U.O.length:Int) - i).toNat=0 by omega] at hi
  rw[←hi];exact⟨rfl,rfl,rfl,rfl⟩
 have bf:i<(U.O.length:Int):=by simpa using bf
 have k1:IntKind.i64.wrap (i+1)=i+1:=fu (by omega) (by omega)
 have hm:=cx.af _ (dq (xs:=M.O) (i:=i) (by omega))
 have hb:=dc.ac i.toNat (nth U.O i) (nth M.O i) (gV (by omega)) (gV (by omega))
 have hg:=dc.ag _ (dq (xs:=U.O) (i:=i) (by omega))
 have yv:((U.O.length:Int) - i).toNat=((U.O.length:Int) - (i+1)).toNat+1:=by omega
 rw[yv] at hi
 unfold xT at hi
 refine⟨⟨i0,by omega⟩,fun rS=> ?_,fun rS=> ?_⟩
 ·rw[if_pos rS] at hi
  rw[k1];exact⟨⟨⟨by omega,by omega⟩,hi⟩,by show((U.O.length:Int) - (i+1)).toNat<((U.O.length:Int) - i).toNat;omega⟩
 have rS:(((nth U.O i).ao==0) || ((nth U.O i).ao==1))=false:=by simpa using rS
 rw[if_neg (by rw[rS];simp)] at hi
 unfold SA
 refine⟨⟨i0,by omega⟩,fun aL=>⟨⟨⟨Int.le_refl _,by omega⟩,by show vz M U i (((nth M.O i).af.length:Int) - 0).toNat 0=_;rw[show(((nth M.O i).af.length:Int) - 0).toNat=(nth M.O i).af.length by omega]⟩,fun k ⟨⟨a5,df⟩,hk⟩=>⟨fun he=> ?_,fun kH=> ?_⟩⟩⟩
 ·have he: ¬k<((nth M.O i).af.length:Int):=by simpa using he
  rw[show(((nth M.O i).af.length:Int) - k).toNat=0 by omega] at hk
  rw[←hk] at hi
  rw[k1];exact⟨⟨⟨by omega,by omega⟩,hi⟩,by show((U.O.length:Int) - (i+1)).toNat<((U.O.length:Int) - i).toNat;omega⟩
 have kH:k<((nth M.O i).af.length:Int):=by simpa using kH
 have B9:IntKind.i64.wrap (k+1)=k+1:=fu (by omega) (by omega)
 have ma:IntKind.i64.wrap (((nth M.O i).af.length:Int) - 1)=(nth M.O i).af.length - 1:=fu (by omega) (by omega)
 have eA:(((nth M.O i).af.length:Int) - k).toNat=(((nth M.O i).af.length:Int) - (k+1)).toNat+1:=by omega
 have aC:=dc.av
 have hs:=hm.2.2 _ (dq (xs:=(nth M.O i).af) (i:=k) (by omega))
 rw[eA] at hk
 revert hk hi
 generalize lA:vz M U i (nth M.O i).af.length 0=G
 intro hi hk
 unfold vz at hk
 unfold Sz
 refine⟨⟨⟨a5,by omega⟩,?_⟩,fun hb=> ?_⟩
 ·unfold Sy
  refine⟨⟨fun _=>⟨⟨hs.1,by omega⟩,fun _ cm=> ?_⟩,fun hb=> ?_⟩,fun hb=>⟨fun _=>⟨a5,by omega⟩,fun j0=> ?_⟩⟩
  ·rw[ma] at cm
   have cm:k≠(nth M.O i).af.length - 1:=by simpa using cm
   rw[B9]
   have BR:=hm.2.2 _ (dq (xs:=(nth M.O i).af) (i:=k+1) (by omega))
   exact⟨⟨by omega,by omega⟩,BR.1,by omega⟩
  ·rw[if_pos hb] at hk
   rw[←hk] at hi
   rw[←hi];exact⟨rfl,rfl,rfl,rfl⟩
  ·rw[if_neg (by rw[not_eq hb];simp),if_pos j0] at hk
   rw[←hk] at hi
   rw[←hi];exact⟨rfl,rfl,rfl,rfl⟩
 ·rw[Bool.and_eq_true] at hb
  rw[if_neg (by rw[not_eq hb.1];simp),if_neg (by rw[not_eq hb.2];simp)] at hk
  rw[B9]
  exact⟨⟨⟨by omega,by omega⟩,hk.trans lA.symm⟩,by show(((nth M.O i).af.length:Int) - (k+1)).toNat<(((nth M.O i).af.length:Int) - k).toNat;omega⟩)
def afX:lr Try.prog:=⟨164,.db,[.p,.v .dr,.v .frame],[.fR],fun x c=>Ju x.1 x.2.1 c,fun x c=>Ae x.1 x.2.1 c,fun x c=>((qg x.1 x.2.1 c),()),fun g x c h=>afW g x.1 x.2.1 c h⟩
def RZ (M:az) (c c':bc) (al:Event):Prop:=
  ((hj M c)=c')∧((1=al.op)∧((x1 M c)=al.ai)∧(0=al.bp))
def R1 (M:az) (c c':bc) (al:Event):Prop:=
  ((hj M c)=c')∧((2=al.op)∧((x1 M c)=al.ai)∧(0=al.bp))
def R4 (M:az) (c c':bc) (al:Event):Prop:=
  ((hj M c)=c')∧((3=al.op)∧((x0 M c)=al.ai)∧(0=al.bp))
def R5 (M:az) (c c':bc) (al:Event):Prop:=
  ((hj M c)=c')∧((4=al.op)∧((x0 M c)=al.ai)∧(0=al.bp))
def R6 (M:az) (c c':bc) (al:Event):Prop:=
  ((bM 2 (hj M c))=c')∧((6=al.op)∧((kB M c)=al.ai)∧((IntKind.i64.wrap (1+(cO 2 (hj M c))))=al.bp))
def R7 (M:az) (c c':bc) (al:Event):Prop:=
  ((hj M c)=c')∧((7=al.op)∧(0=al.ai)∧(0=al.bp))
def R8 (M:az) (U:Frame) (c c':bc) (al:Event):Prop:=
  ((hj M c)=c')∧((5=al.op)∧((kB M c)=al.ai)∧((nth U.au (kB M c)).cH=al.bp))
def afy (M:az) (U:Frame) (c c':bc) (al:Event):Prop:=
  (decide ((U.au.length:Int)>(kB M c)))=true→(0≤(kB M c)∧(kB M c).toNat<U.au.length)∧(R8 M U c c' al)
def R9 (M:az) (c c':bc) (al:Event):Prop:=
  ((bM 3 (hj M c))=c')∧((5=al.op)∧((kB M c)=al.ai)∧((cO 3 (hj M c))=al.bp))
def afp (M:az) (c c':bc) (al:Event):Prop:=
  ((fP M c)==16)=true→(iL 3 (hj M c))∧(R9 M c c' al)
def afq (M:az) (U:Frame) (c c':bc) (al:Event):Prop:=
  ((vF (fP M c))=true→U.au.length≤4611686018427387904→afy M U c c' al)∧((vF (fP M c))=false→afp M c c' al)
def afr (M:az) (U:Frame) (c c':bc) (al:Event):Prop:=
  ((lU 11 12 (fP M c))=true→R7 M c c' al)∧((lU 11 12 (fP M c))=false→afq M U c c' al)
def afs (M:az) (U:Frame) (c c':bc) (al:Event):Prop:=
  (((fP M c)==10)=true→(iL 2 (hj M c))∧(R6 M c c' al))∧(((fP M c)==10)=false→afr M U c c' al)
def aft (M:az) (U:Frame) (c c':bc) (al:Event):Prop:=
  ((lU 8 9 (fP M c))=true→R5 M c c' al)∧((lU 8 9 (fP M c))=false→afs M U c c' al)
def afu (M:az) (U:Frame) (c c':bc) (al:Event):Prop:=
  ((lU 6 7 (fP M c))=true→R4 M c c' al)∧((lU 6 7 (fP M c))=false→aft M U c c' al)
def afv (M:az) (U:Frame) (c c':bc) (al:Event):Prop:=
  ((lU 4 5 (fP M c))=true→R1 M c c' al)∧((lU 4 5 (fP M c))=false→afu M U c c' al)
def afw (M:az) (U:Frame) (c c':bc) (al:Event):Prop:=
  ((xZ (fP M c))=true→RZ M c c' al)∧((xZ (fP M c))=false→afv M U c c' al)
def R0 (M:az) (U:Frame) (c c':bc) (al:Event):Prop:=
  ((Ae M U (hj M c))=c')∧(((qg M U (hj M c)).op=al.op)∧((qg M U (hj M c)).ai=al.ai)∧((qg M U (hj M c)).bp=al.bp))
def afx (M:az) (U:Frame) (c c':bc) (al:Event):Prop:=
  (Ju M U (hj M c))∧(R0 M U c c' al)
def R2 (M:az) (U:Frame) (c c':bc) (al:Event):Prop:=
  ((iL 20 (Am M c))∧(afw M U c c' al))∧((!(xZ (fP M c))&&(!(lU 4 5 (fP M c))&&(!(lU 6 7 (fP M c))&&(!(lU 8 9 (fP M c))&&(!((fP M c)==10)&&(!(lU 11 12 (fP M c))&&(bif (vF (fP M c)) then(!(decide ((U.au.length:Int)>(kB M c)))) else(!((fP M c)==16)))))))))=true→afx M U c c' al)
def R3 (M:az) (U:Frame) (c c':bc) (al:Event):Prop:=
  (M.be.length≤4611686018427387904→(decide ((M.be.length:Int)>0))=true→iL (M.be.length:Int) (Al M c))∧(M.be.length≤4611686018427387904→R2 M U c c' al)
def RY (M:az) (U:Frame) (c c':bc) (al:Event):Prop:=
 (M.O.length≤4611686018427387904→(decide ((M.O.length:Int)>0))=true→iL (M.O.length:Int) c)∧(M.O.length≤4611686018427387904→((decide (M.af>0))=true→iL M.af (Ak M c))∧(R3 M U c c' al))
theorem afz (hg:Nat) (M:az) (U:Frame) (c:bc) (aI:Ez M U c):iV Try.prog 150 hg (jX hg [.p,.v .dr,.v .frame] (M,U,())) (cb false .db c) (cb false .db (eO M U c)) (k0 [.fR] ((fp M U c),())):=(fun(h:RY M U c (eO M U c) (fp M U c))=>iV.run (hg:=hg) (ce:= .db) (l:=[.p,.v .dr,.v .frame]) (rs:=[.fR]) (x:=(M,U,())) (c:=c) (c':=(eO M U c)) (r:=((fp M U c),())) ⟨97,eh,[]⟩ ⟨[17,33],[],[],[z7,afX],[]⟩ .nil Try.func150 h) (by
 obtain⟨hs,aj⟩:=aI
 have h1:bZ 8 (Ak M c):=bZ.xn (aj.mono (by omega)) (by omega)
 have h2:bZ 6 (Al M c):=bZ.xn (h1.mono (by omega)) (by omega)
 have aP:bZ 4 (Am M c):=bZ.xn (h2.mono (by omega)) (by omega)
 have a8:bZ 2 (hj M c):=bZ.pick (aP.mono (by omega)) (by omega)
 have si:0≤kB M c:=by
  unfold kB
  cases decide ((M.be.length:Int)>0) with
  | true=>exact(nb _ _).1
  | false=>exact Int.le_refl _
 have sU:fP M c≠10→fP M c≠16→eO M U c=hj M c:=fun oC n2=>by
  unfold eO;rw[if_neg oC,if_neg n2]
 unfold RY R3 R2
 refine⟨fun _ _=>aj.mono (by omega),fun _=>⟨fun _=>h1.mono (by omega),fun _ _=>h2.mono (by omega),fun _=>⟨⟨aP.mono (by omega),?_⟩,fun hb=>⟨hs,?_⟩⟩⟩⟩
 ·refine⟨fun jV=> ?_,fun jV=>⟨fun jC=> ?_,fun jC=>⟨fun pv=> ?_,fun pv=>⟨fun qq=> ?_,fun qq=>⟨fun qn=>⟨a8,?_⟩,fun qn=>⟨fun sF=> ?_,fun sF=>⟨fun qo _ bj=>⟨⟨si,?_⟩,?_⟩,fun qo J2=>⟨a8,?_⟩⟩⟩⟩⟩⟩⟩⟩
  ·have:=agJ jV
   unfold RZ
   rw[sU (by omega) (by omega),show fp M U c=⟨1,x1 M c,0⟩ by unfold fp;rw[jV];rfl]
   exact⟨rfl,rfl,rfl,rfl⟩
  ·have:=Dl jC
   unfold R1
   rw[sU (by omega) (by omega),show fp M U c=⟨2,x1 M c,0⟩ by unfold fp;rw[jV,jC];rfl]
   exact⟨rfl,rfl,rfl,rfl⟩
  ·have:=Dl pv
   unfold R4
   rw[sU (by omega) (by omega),show fp M U c=⟨3,x0 M c,0⟩ by unfold fp;rw[jV,jC,pv];rfl]
   exact⟨rfl,rfl,rfl,rfl⟩
  ·have:=Dl qq
   unfold R5
   rw[sU (by omega) (by omega),show fp M U c=⟨4,x0 M c,0⟩ by unfold fp;rw[jV,jC,pv,qq];rfl]
   exact⟨rfl,rfl,rfl,rfl⟩
  ·have e:fP M c=10:=by simpa using qn
   unfold R6
   rw[show eO M U c=bM 2 (hj M c) by unfold eO;rw[if_pos e],show fp M U c=⟨6,kB M c,IntKind.i64.wrap (1+cO 2 (hj M c))⟩ by unfold fp;rw[jV,jC,pv,qq,qn];rfl]
   exact⟨rfl,rfl,rfl,rfl⟩
  ·have:=Dl sF
   unfold R7
   rw[sU (by omega) (by omega),show fp M U c=⟨7,0,0⟩ by unfold fp;rw[jV,jC,pv,qq,qn,sF];rfl]
   exact⟨rfl,rfl,rfl,rfl⟩
  ·have:(U.au.length:Int)>kB M c:=by simpa using bj
   omega
  ·have:=Ti qo
   unfold R8
   rw[sU (by omega) (by omega),show fp M U c=⟨5,kB M c,(nth U.au (kB M c)).cH⟩ by unfold fp;rw[jV,jC,pv,qq,qn,sF,qo,bj];rfl]
   exact⟨rfl,rfl,rfl,rfl⟩
  ·have e:fP M c=16:=by simpa using J2
   unfold R9
   rw[show eO M U c=bM 3 (hj M c) by unfold eO;rw[if_neg (by omega),if_pos e],show fp M U c=⟨5,kB M c,cO 3 (hj M c)⟩ by unfold fp;rw[jV,jC,pv,qq,qn,sF,qo,J2];rfl]
   exact⟨rfl,rfl,rfl,rfl⟩
 ·simp only[Bool.and_eq_true,Bool.not_eq_true'] at hb
  obtain⟨jV,jC,pv,qq,qn,sF,hb⟩:=hb
  have Vd:fP M c≠10:=by simpa using qn
  have key:eO M U c=hj M c∧fp M U c=qg M U (hj M c):=by
   cases qo:vF (fP M c) with
   | true=>
    have:=Ti qo
    rw[qo] at hb
    have hb:decide ((U.au.length:Int)>kB M c)=false:=by simpa using hb
    exact⟨sU (by omega) (by omega),by unfold fp;rw[jV,jC,pv,qq,qn,sF,qo,hb];rfl⟩
   | false=>
    rw[qo] at hb
    have hb:(fP M c==16)=false:=by simpa using hb
    exact⟨sU Vd (by simpa using hb),by unfold fp;rw[jV,jC,pv,qq,qn,sF,qo,hb];rfl⟩
  unfold R0
  rw[key.1,key.2]
  exact⟨rfl,rfl,rfl,rfl⟩)
def afA:lr Try.prog:=⟨150,.db,[.p,.v .dr,.v .frame],[.fR],fun x c=>Ez x.1 x.2.1 c,fun x c=>eO x.1 x.2.1 c,fun x c=>((fp x.1 x.2.1 c),()),fun g x c h=>afz g x.1 x.2.1 c h⟩
def afS:List Item:=[ap 0,ap 1,ap 2,ap 3,ap 4,⟨5,true,false,[0,1]⟩,ap 6,⟨7,true,false,[]⟩,ap 8,⟨9,true,false,[]⟩]
def afT:List (List Nat):=[[],[0],[],[],[3],[2,3,4],rg 2 6,rg 0 7,rg 0 8,rg 0 9]
def afM:List Item:=[ap 0,ap 1,ap 2,ap 3,⟨4,true,false,[0,1,2]⟩,ap 5,ap 6,ap 7,⟨8,true,false,[]⟩,ap 9,⟨10,true,false,[]⟩]
def afN:List (List Nat):=[[],[0],[],[],[3],[3,4],rg 2 6,rg 2 7,rg 0 8,rg 0 9,rg 0 10]
def afO:List Item:=[ap 0,ap 1,ap 2,ap 3,⟨4,true,false,[0,1,2]⟩,ap 5,ap 6,ap 7,⟨8,true,false,[]⟩,ap 9,⟨10,true,false,[]⟩]
def afP:List (List Nat):=[[],[0],[],[],[3],[3,4],rg 2 6,rg 2 7,rg 0 8,rg 0 9,rg 0 10]
def afQ:List Item:=[ap 0,ap 1,ap 2,ap 3,ap 4,ap 5,ap 6,ap 7,ap 8,ap 9,ap 10,ap 11,ap 12,ap 13,ap 14,ap 15,ap 16,ap 17,ap 18,ap 19,ap 20,ap 21,⟨22,true,false,[0,1]⟩,ap 23,ap 24,ap 25,⟨26,true,false,[]⟩]
def afR:List (List Nat):=[[],[],[],[],[2,3],[2,3,4],rg 2 6,rg 2 7,rg 2 6,rg 2 9,rg 2 10,rg 2 11,rg 2 6,rg 2 6++[12],rg 2 6,rg 2 6++[12,13,14],rg 2 6++rg 12 16,rg 2 6++rg 12 17,rg 2 18,rg 2 19,rg 2 20,rg 2 21,rg 2 22,rg 2 23,rg 2 24,rg 0 25,rg 0 26]
abbrev mR (r:Type):Type:=bc→Nat→(List Int)→Int→bc→Nat→(List Way)→Int→bc→Nat→(List (List Bool))→Int→bc→(List Bool)→Int→r
def Sg (bU:mR Prop) (bV:mR Nat) (bN:bc) (aT:Nat) (aH:(List Int)) (v4:Int) (dU dl:bc) (a1 bT:Nat) (bt:(List Way)) (eg:(List (List Bool))) (eK:(List Bool)) (de eR fI:Int) (eN:bc):Prop:=
  ((decide (eR<fI))=true→(0≤eR∧eR.toNat<eg.length)∧((eR.toNat<eg.length)∧((0≤fI∧fI.toNat<(nth eg eR).length)∧((0≤eR∧eR.toNat<eK.length)∧((eR.toNat<eK.length)∧(bU bN aT aH v4 dU a1 bt de dl bT eg fI eN (eK.set eR.toNat (nth (nth eg eR) fI)) (IntKind.i64.wrap (eR+1))∧bV bN aT aH v4 dU a1 bt de dl bT eg fI eN (eK.set eR.toNat (nth (nth eg eR) fI)) (IntKind.i64.wrap (eR+1))<bV bN aT aH v4 dU a1 bt de dl bT eg fI eN eK eR))))))∧((decide (eR<fI))=false→((fI==eR)=true→(0≤eR∧eR.toNat<eK.length)∧((eR.toNat<eK.length)∧(bU bN aT aH v4 dU a1 bt de dl bT eg fI eN (eK.set eR.toNat true) (IntKind.i64.wrap (eR+1))∧bV bN aT aH v4 dU a1 bt de dl bT eg fI eN (eK.set eR.toNat true) (IntKind.i64.wrap (eR+1))<bV bN aT aH v4 dU a1 bt de dl bT eg fI eN eK eR)))∧((fI==eR)=false→(0≤fI∧fI.toNat<bt.length)∧((fI.toNat<bt.length)∧((0≤eR∧eR.toNat<bt.length)∧((eR.toNat<bt.length)∧(((meets (nth bt fI).af (nth bt eR).af)=true→(0≤eR∧eR.toNat<eK.length)∧((eR.toNat<eK.length)∧(bU bN aT aH v4 dU a1 bt de dl bT eg fI eN (eK.set eR.toNat true) (IntKind.i64.wrap (eR+1))∧bV bN aT aH v4 dU a1 bt de dl bT eg fI eN (eK.set eR.toNat true) (IntKind.i64.wrap (eR+1))<bV bN aT aH v4 dU a1 bt de dl bT eg fI eN eK eR)))∧((meets (nth bt fI).af (nth bt eR).af)=false→(iL 4 eN)∧((0≤eR∧eR.toNat<eK.length)∧((eR.toNat<eK.length)∧(bU bN aT aH v4 dU a1 bt de dl bT eg fI (bM 4 eN) (eK.set eR.toNat ((cO 4 eN)==0)) (IntKind.i64.wrap (eR+1))∧bV bN aT aH v4 dU a1 bt de dl bT eg fI (bM 4 eN) (eK.set eR.toNat ((cO 4 eN)==0)) (IntKind.i64.wrap (eR+1))<bV bN aT aH v4 dU a1 bt de dl bT eg fI eN eK eR))))))))))
abbrev nV (r:Type):Type:=bc→Nat→(List Int)→Int→bc→Nat→(List Way)→Int→bc→Nat→(List (List Bool))→Int→r
def Sl (bo:nV Prop) (bn:nV Nat) (bU:mR Prop) (bV:mR Nat) (bN:bc) (aT:Nat) (aH:(List Int)) (v4:Int) (dU dl:bc) (a1 bT:Nat) (bt:(List Way)) (eg:(List (List Bool))) (eK:(List Bool)) (de eR fI:Int) (eN:bc):Prop:=
  ((decide (eR<(bt.length:Int)))=false→(eK.length≤4611686018427387904)∧(((eg.length+[eK].length)*24≤140737488355328∧eg.length+[eK].length≤4611686018427387904)∧(bo bN aT aH v4 dU a1 bt de eN (bT+1) (eg++[eK]) (IntKind.i64.wrap (fI+1))∧bn bN aT aH v4 dU a1 bt de eN (bT+1) (eg++[eK]) (IntKind.i64.wrap (fI+1))<bn bN aT aH v4 dU a1 bt de dl bT eg fI)))∧((decide (eR<(bt.length:Int)))=true→Sg bU bV bN aT aH v4 dU dl a1 bT bt eg eK de eR fI eN)
def Sm (bo:nV Prop) (bn:nV Nat) (bU:mR Prop) (bV:mR Nat) (bN:bc) (aT:Nat) (aH:(List Int)) (v4:Int) (dU dl:bc) (a1 bT:Nat) (bt:(List Way)) (eg:(List (List Bool))) (de fI:Int):Prop:=
  (0≤(bt.length:Int)∧1*(bt.length:Int)≤140737488355328∧(bt.length:Int)≤4611686018427387904)∧(bU bN aT aH v4 dU a1 bt de dl bT eg fI dl (List.replicate (bt.length:Int).toNat false) 0∧ ∀(eN:bc) (eK:(List Bool)) (eR:Int),bU bN aT aH v4 dU a1 bt de dl bT eg fI eN eK eR→(Sl bo bn bU bV bN aT aH v4 dU dl a1 bT bt eg eK de eR fI eN))
def Sn (bo:nV Prop) (bn:nV Nat) (bU:mR Prop) (bV:mR Nat) (c c':bc) (al:az) (bN:bc) (aT:Nat) (aH:(List Int)) (v4:Int) (dU dl:bc) (a1 bT:Nat) (bt:(List Way)) (eg:(List (List Bool))) (de fI:Int):Prop:=
  ((decide (fI<(bt.length:Int)))=false→(dl=c')∧(((du c)=al.af)∧(aH.length≤4611686018427387904∧aH=al.be)∧(bt.length≤4611686018427387904∧bt=al.O)∧(eg.length≤4611686018427387904∧eg=al.bW)∧((vb c)=al.dx)))∧((decide (fI<(bt.length:Int)))=true→Sm bo bn bU bV bN aT aH v4 dU dl a1 bT bt eg de fI)
abbrev lR (r:Type):Type:=bc→Nat→(List Int)→Int→bc→Nat→(List Way)→Int→bc→(List Int)→bc→Nat→Nat→(List cA)→(List cA)→Int→r
def So (jU:lR Prop) (jf:lR Nat) (bN:bc) (aT:Nat) (aH:(List Int)) (v4:Int) (dU:bc) (eV:(List Int)) (dl:bc) (a1 bT:Nat) (bt:(List Way)) (eg:(List cA)) (hL:Int) (l6:Nat) (eK:(List cA)) (de:Int) (eN:bc):Prop:=
  (((cO 3 eN)==0)=true→(iL 2 (bM 3 eN))∧(((eK.length+[(cA.mk hL (IntKind.i64.wrap (1+(cO 2 (bM 3 eN)))))].length)*16≤140737488355328∧eK.length+[(cA.mk hL (IntKind.i64.wrap (1+(cO 2 (bM 3 eN)))))].length≤4611686018427387904)∧(jU bN aT aH v4 dU a1 bt de dl eV (bM 2 (bM 3 eN)) bT (l6+1) eg (eK++[(cA.mk hL (IntKind.i64.wrap (1+(cO 2 (bM 3 eN)))))]) (IntKind.i64.wrap (hL+1))∧jf bN aT aH v4 dU a1 bt de dl eV (bM 2 (bM 3 eN)) bT (l6+1) eg (eK++[(cA.mk hL (IntKind.i64.wrap (1+(cO 2 (bM 3 eN)))))]) (IntKind.i64.wrap (hL+1))<jf bN aT aH v4 dU a1 bt de dl eV eN bT l6 eg eK hL)))∧(((cO 3 eN)==0)=false→jU bN aT aH v4 dU a1 bt de dl eV (bM 3 eN) bT l6 eg eK (IntKind.i64.wrap (hL+1))∧jf bN aT aH v4 dU a1 bt de dl eV (bM 3 eN) bT l6 eg eK (IntKind.i64.wrap (hL+1))<jf bN aT aH v4 dU a1 bt de dl eV eN bT l6 eg eK hL)
def Sp (jU:lR Prop) (jf:lR Nat) (bN:bc) (aT:Nat) (aH:(List Int)) (v4:Int) (dU:bc) (eV:(List Int)) (dl:bc) (a1 bT:Nat) (bt:(List Way)) (eg:(List cA)) (hL:Int) (l6:Nat) (eK:(List cA)) (de:Int) (eN:bc):Prop:=
  ((meets [(nth aH hL)] eV)=true→(iL 2 eN)∧(((eg.length+[(cA.mk hL (IntKind.i64.wrap (1+(cO 2 eN))))].length)*16≤140737488355328∧eg.length+[(cA.mk hL (IntKind.i64.wrap (1+(cO 2 eN))))].length≤4611686018427387904)∧(jU bN aT aH v4 dU a1 bt de dl eV (bM 2 eN) (bT+1) l6 (eg++[(cA.mk hL (IntKind.i64.wrap (1+(cO 2 eN))))]) eK (IntKind.i64.wrap (hL+1))∧jf bN aT aH v4 dU a1 bt de dl eV (bM 2 eN) (bT+1) l6 (eg++[(cA.mk hL (IntKind.i64.wrap (1+(cO 2 eN))))]) eK (IntKind.i64.wrap (hL+1))<jf bN aT aH v4 dU a1 bt de dl eV eN bT l6 eg eK hL)))∧((meets [(nth aH hL)] eV)=false→(iL 3 eN)∧(So jU jf bN aT aH v4 dU eV dl a1 bT bt eg hL l6 eK de eN))
abbrev nW (r:Type):Type:=bc→Nat→(List Int)→Int→bc→Nat→(List Way)→Int→r
def Sq (aQ:nW Prop) (aR:nW Nat) (jU:lR Prop) (jf:lR Nat) (c bN:bc) (aT:Nat) (aH:(List Int)) (v4:Int) (dU:bc) (eV:(List Int)) (dl:bc) (a1 bT:Nat) (bt:(List Way)) (eg:(List cA)) (hL:Int) (l6:Nat) (eK:(List cA)) (de:Int) (eN:bc):Prop:=
  ((decide (hL<(aH.length:Int)))=false→(eg.length≤4611686018427387904)∧((eK.length≤4611686018427387904)∧(((bt.length+[(Way.mk eV eg eK (hH (du c) 2 eV dl) (hH (du c) 2 eV (ia (du c) 2 eV dl)))].length)*120≤140737488355328∧bt.length+[(Way.mk eV eg eK (hH (du c) 2 eV dl) (hH (du c) 2 eV (ia (du c) 2 eV dl)))].length≤4611686018427387904)∧(aQ bN aT aH v4 eN (a1+1) (bt++[(Way.mk eV eg eK (hH (du c) 2 eV dl) (hH (du c) 2 eV (ia (du c) 2 eV dl)))]) (IntKind.i64.wrap (de - 1))∧aR bN aT aH v4 eN (a1+1) (bt++[(Way.mk eV eg eK (hH (du c) 2 eV dl) (hH (du c) 2 eV (ia (du c) 2 eV dl)))]) (IntKind.i64.wrap (de - 1))<aR bN aT aH v4 dU a1 bt de))))∧((decide (hL<(aH.length:Int)))=true→((0≤hL∧hL.toNat<aH.length)∧(hL.toNat<aH.length))∧(Sp jU jf bN aT aH v4 dU eV dl a1 bT bt eg hL l6 eK de eN))
def Sr (aQ:nW Prop) (aR:nW Nat) (jU:lR Prop) (jf:lR Nat) (c bN:bc) (aT:Nat) (aH:(List Int)) (v4:Int) (dU:bc) (eV:(List Int)) (dl:bc) (a1:Nat) (bt:(List Way)) (de:Int):Prop:=
  jU bN aT aH v4 dU a1 bt de dl eV (ia (du c) 2 eV (ia (du c) 2 eV dl)) 0 0 ([]:List cA) ([]:List cA) 0∧ ∀(eN:bc) (bT:Nat) (l6:Nat) (eg:(List cA)) (eK:(List cA)) (hL:Int),jU bN aT aH v4 dU a1 bt de dl eV eN bT l6 eg eK hL→(Sq aQ aR jU jf c bN aT aH v4 dU eV dl a1 bT bt eg hL l6 eK de eN)
abbrev pi (r:Type):Type:=bc→Nat→(List Int)→Int→bc→Nat→(List Way)→Int→bc→(List Int)→r
def Ss (cJ:pi Prop) (cL:pi Nat) (c bN:bc) (aT:Nat) (aH:(List Int)) (v4:Int) (dU:bc) (eV:(List Int)) (dl:bc) (a1:Nat) (bt:(List Way)) (de:Int):Prop:=
  ((((hH (du c) 4 [] dl).length:Int)==0)=true→(iL (du c) (ia (du c) 4 [] dl))∧(cJ bN aT aH v4 dU a1 bt de (bM (du c) (ia (du c) 4 [] dl)) ([(cO (du c) (ia (du c) 4 [] dl))])∧cL bN aT aH v4 dU a1 bt de (bM (du c) (ia (du c) 4 [] dl)) ([(cO (du c) (ia (du c) 4 [] dl))])<cL bN aT aH v4 dU a1 bt de dl eV))∧((((hH (du c) 4 [] dl).length:Int)==0)=false→cJ bN aT aH v4 dU a1 bt de (ia (du c) 4 [] dl) (hH (du c) 4 [] dl)∧cL bN aT aH v4 dU a1 bt de (ia (du c) 4 [] dl) (hH (du c) 4 [] dl)<cL bN aT aH v4 dU a1 bt de dl eV)
def Sh (aQ:nW Prop) (aR:nW Nat) (cJ:pi Prop) (cL:pi Nat) (jU:lR Prop) (jf:lR Nat) (c bN:bc) (aT:Nat) (aH:(List Int)) (v4:Int) (dU:bc) (eV:(List Int)) (dl:bc) (a1:Nat) (bt:(List Way)) (de:Int):Prop:=
  (eV.length≤4611686018427387904→((eV.length:Int)==0)=false→(z4 (du c) 2 eV dl)∧((z4 (du c) 2 eV (ia (du c) 2 eV dl))∧(Sr aQ aR jU jf c bN aT aH v4 dU eV dl a1 bt de)))∧((eV.length≤4611686018427387904)∧(((eV.length:Int)==0)=true)→(z4 (du c) 4 [] dl)∧((hH (du c) 4 [] dl).length≤4611686018427387904→Ss cJ cL c bN aT aH v4 dU eV dl a1 bt de))
def Si (aQ:nW Prop) (aR:nW Nat) (bo:nV Prop) (bn:nV Nat) (bU:mR Prop) (bV:mR Nat) (cJ:pi Prop) (cL:pi Nat) (jU:lR Prop) (jf:lR Nat) (c c':bc) (al:az) (bN:bc) (aT:Nat) (aH:(List Int)) (v4:Int) (dU:bc) (a1:Nat) (bt:(List Way)) (de:Int):Prop:=
  ((decide (de>0))=false→bo bN aT aH v4 dU a1 bt de dU 0 ([]:List (List Bool)) 0∧ ∀(dl:bc) (bT:Nat) (eg:(List (List Bool))) (fI:Int),bo bN aT aH v4 dU a1 bt de dl bT eg fI→(Sn bo bn bU bV c c' al bN aT aH v4 dU dl a1 bT bt eg de fI))∧((decide (de>0))=true→cJ bN aT aH v4 dU a1 bt de dU []∧ ∀(dl:bc) (eV:(List Int)),cJ bN aT aH v4 dU a1 bt de dl eV→(Sh aQ aR cJ cL jU jf c bN aT aH v4 dU eV dl a1 bt de))
def Sj (ay:mQ Prop) (aB:mQ Nat) (c bN:bc) (aT:Nat) (aH:(List Int)) (v4:Int):Prop:=
  ((iL (du c) bN)∧((aH.length+[(cO (du c) bN)].length)*8≤140737488355328∧aH.length+[(cO (du c) bN)].length≤4611686018427387904))∧(ay (bM (du c) bN) (aT+1) (aH++[(cO (du c) bN)]) (IntKind.i64.wrap (v4 - 1))∧aB (bM (du c) bN) (aT+1) (aH++[(cO (du c) bN)]) (IntKind.i64.wrap (v4 - 1))<aB bN aT aH v4)
def Sk (ay:mQ Prop) (aB:mQ Nat) (aQ:nW Prop) (aR:nW Nat) (bo:nV Prop) (bn:nV Nat) (bU:mR Prop) (bV:mR Nat) (cJ:pi Prop) (cL:pi Nat) (jU:lR Prop) (jf:lR Nat) (c c':bc) (al:az):Prop:=
  ay (bM 4 (bM 6 (bM 6 c))) 0 ([]:List Int) (cO 4 (bM 6 (bM 6 c)))∧ ∀(bN:bc) (aT:Nat) (aH:(List Int)) (v4:Int),ay bN aT aH v4→(((decide (v4>0))=false→(iL 5 bN)∧(aQ bN aT aH v4 (bM 5 bN) 0 ([]:List Way) (IntKind.i64.wrap (1+(cO 5 bN)))∧ ∀(dU:bc) (a1:Nat) (bt:(List Way)) (de:Int),aQ bN aT aH v4 dU a1 bt de→(Si aQ aR bo bn bU bV cJ cL jU jf c c' al bN aT aH v4 dU a1 bt de)))∧((decide (v4>0))=true→Sj ay aB c bN aT aH v4))
def Sf (c c':bc) (al:az) (ay:mQ Prop) (aB:mQ Nat) (aQ:nW Prop) (aR:nW Nat) (bo:nV Prop) (bn:nV Nat) (bU:mR Prop) (bV:mR Nat) (cJ:pi Prop) (cL:pi Nat) (jU:lR Prop) (jf:lR Nat):Prop:=
 ((iL 6 c)∧(iL 6 (bM 6 c)))∧((iL 4 (bM 6 (bM 6 c)))∧(Sk ay aB aQ aR bo bn bU bV cJ cL jU jf c c' al))
theorem afK (hg:Nat) (c:bc) (aI:Hx c):iV Try.prog 109 hg (jX hg [.p] ()) (cb false .db c) (cb false .db (q8 c)) (k0 [.dr] ((lI c),())):=(fun(ay:mQ Prop) (aB:mQ Nat) (aQ:nW Prop) (aR:nW Nat) (bo:nV Prop) (bn:nV Nat) (bU:mR Prop) (bV:mR Nat) (cJ:pi Prop) (cL:pi Nat) (jU:lR Prop) (jf:lR Nat) (h:Sf c (q8 c) (lI c) ay aB aQ aR bo bn bU bV cJ cL jU jf)=>iV.run (hg:=hg) (ce:= .db) (l:=[.p]) (rs:=[.dr]) (x:=()) (c:=c) (c':=(q8 c)) (r:=((lI c),())) ⟨182,eh,[z6]⟩ ⟨[],[(5,afS,afT),(20,afM,afN),(22,afO,afP),(34,afQ,afR)],[],[z7,afV],[(24,[(7,1),(7,2)],[]),(36,[(0,10)],[])]⟩ (.lp [(4,1,.int)] [0,2,3] [(3,5),(2,5)] [.db,.nat,(.l .int),.int] [bC 0,bC 1,bC 1,4] (fun aN=>[(4,.i .i64 aN.2.2.2.1),(eG 3 1,.ref 1 aN.2.1 aN.2.2.1.length false),(bC 0,.eI hg (gI false .db aN.1)),(bC 1,.blk aN.2.1 .int aN.2.2.1 _ rfl)]) (fun aN=>ay aN.1 aN.2.1 aN.2.2.1 aN.2.2.2.1) (fun aN=>aB aN.1 aN.2.1 aN.2.2.1 aN.2.2.2.1) fun aN=>(.lp [(4,2,.kb)] [0,2,3] [(3,5),(2,5)] [.db,.nat,(.l .kb),.int] [bC 0,bC 2,bC 2,5] (fun bx=>[(5,.i .i64 bx.2.2.2.1),(eG 3 2,.ref 2 bx.2.1 bx.2.2.1.length false),(bC 0,.eI hg (gI false .db bx.1)),(bC 2,.blk bx.2.1 .kb bx.2.2.1 _ rfl)]) (fun bx=>aQ aN.1 aN.2.1 aN.2.2.1 aN.2.2.2.1 bx.1 bx.2.1 bx.2.2.1 bx.2.2.2.1) (fun bx=>aR aN.1 aN.2.1 aN.2.2.1 aN.2.2.2.1 bx.1 bx.2.1 bx.2.2.1 bx.2.2.2.1) fun bx=>(.px (.lp [(4,3,(.l .bool))] [0,2,3,119] [(3,5),(2,5)] [.db,.nat,(.l (.l .bool)),.int] [bC 0,bC 3,bC 3,120] (fun ch=>[(120,.i .i64 ch.2.2.2.1),(eG 3 3,.ref 3 ch.2.1 ch.2.2.1.length false),(bC 0,.eI hg (gI false .db ch.1)),(bC 3,.blk ch.2.1 (.l .bool) ch.2.2.1 _ rfl)]) (fun ch=>bo aN.1 aN.2.1 aN.2.2.1 aN.2.2.2.1 bx.1 bx.2.1 bx.2.2.1 bx.2.2.2.1 ch.1 ch.2.1 ch.2.2.1 ch.2.2.2.1) (fun ch=>bn aN.1 aN.2.1 aN.2.2.1 aN.2.2.2.1 bx.1 bx.2.1 bx.2.2.1 bx.2.2.2.1 ch.1 ch.2.1 ch.2.2.1 ch.2.2.2.1) fun ch=>(.lp [] [0,2,3,9,119,120,129] [(3,5),(2,5)] [.db,(.l .bool),.int] [bC 0,bC 4,130] (fun eB=>[(10,.ref 4 0 eB.2.1.length false),(130,.i .i64 eB.2.2.1),(bC 0,.eI hg (gI false .db eB.1)),(bC 4,.blk 0 .bool eB.2.1 _ rfl)]) (fun eB=>bU aN.1 aN.2.1 aN.2.2.1 aN.2.2.2.1 bx.1 bx.2.1 bx.2.2.1 bx.2.2.2.1 ch.1 ch.2.1 ch.2.2.1 ch.2.2.2.1 eB.1 eB.2.1 eB.2.2.1) (fun eB=>bV aN.1 aN.2.1 aN.2.2.1 aN.2.2.2.1 bx.1 bx.2.1 bx.2.2.1 bx.2.2.2.1 ch.1 ch.2.1 ch.2.2.1 ch.2.2.2.1 eB.1 eB.2.1 eB.2.2.1) fun _=> .nil)) (.lp [] [0,2,3,5,6] [(6,5),(3,5),(2,5)] [.db,(.l .int)] [bC 0,eG 6 0] (fun ht=>[(eG 6 0,.l .int ht.2.1 false true),(bC 0,.eI hg (gI false .db ht.1))]) (fun ht=>cJ aN.1 aN.2.1 aN.2.2.1 aN.2.2.2.1 bx.1 bx.2.1 bx.2.2.1 bx.2.2.2.1 ht.1 ht.2.1) (fun ht=>cL aN.1 aN.2.1 aN.2.2.1 aN.2.2.2.1 bx.1 bx.2.1 bx.2.2.1 bx.2.2.2.1 ht.1 ht.2.1) fun ht=>(.lp [(7,1,.bp),(7,2,.bp)] [0,2,3,5,6,75,76] [(6,5),(3,5),(2,5)] [.db,.nat,.nat,(.l .bp),(.l .bp),.int] [bC 0,bC 3,bC 4,bC 3,bC 4,77] (fun iT=>[(77,.i .i64 iT.2.2.2.2.2.1),(eG 6 1,.ref 3 iT.2.1 iT.2.2.2.1.length false),(eG 6 2,.ref 4 iT.2.2.1 iT.2.2.2.2.1.length false),(bC 0,.eI hg (gI false .db iT.1)),(bC 3,.blk iT.2.1 .bp iT.2.2.2.1 _ rfl),(bC 4,.blk iT.2.2.1 .bp iT.2.2.2.2.1 _ rfl)]) (fun iT=>jU aN.1 aN.2.1 aN.2.2.1 aN.2.2.2.1 bx.1 bx.2.1 bx.2.2.1 bx.2.2.2.1 ht.1 ht.2.1 iT.1 iT.2.1 iT.2.2.1 iT.2.2.2.1 iT.2.2.2.2.1 iT.2.2.2.2.2.1) (fun iT=>jf aN.1 aN.2.1 aN.2.2.1 aN.2.2.2.1 bx.1 bx.2.1 bx.2.2.1 bx.2.2.2.1 ht.1 ht.2.1 iT.1 iT.2.1 iT.2.2.1 iT.2.2.2.1 iT.2.2.2.2.1 iT.2.2.2.2.2.1) fun _=> .nil))))) Try.func109 h) (fun d _ x v=>(0≤v∧v≤3)∧bZ (272+2*v) d∧x.length+v.toNat≤3∧tF (du c) v.toNat d x=gD c) (fun _ _ _ v=>v.toNat) (fun _ _ _ _ d _ x v=>(0≤v∧v≤5)∧bZ (50+44*v) d∧x.length+v.toNat≤5∧tK (du c) (gD c).2 v.toNat d x=eH c) (fun _ _ _ _ _ _ _ v=>v.toNat) (fun _ _ _ _ _ _ _ _ d _ x v=>(0≤v∧v≤(eH c).2.length)∧bZ (10*(5 - v)) d∧(x.length:Int)=v∧(∀j:Int,0≤j→j<v→(nth x j).length=(eH c).2.length)∧tZ (eH c).2 ((eH c).2.length - v).toNat v d x=va c) (fun _ _ _ _ _ _ _ _ _ _ _ v=>((eH c).2.length - v).toNat) (fun _ _ _ _ _ _ _ _ e _ y i d x v=>(0≤v∧v≤(eH c).2.length)∧bZ (10*(5 - (i+1))+2*(5 - v)) d∧x.length=(eH c).2.length∧qb (eH c).2 y i ((eH c).2.length - v).toNat v d x=zR (eH c).2 y i e) (fun _ _ _ _ _ _ _ _ _ _ _ _ _ _ v=>((eH c).2.length - v).toNat) (fun _ _ _ _ e _ _ v d x=>(x=[]∧d=e)∨(x≠[]∧(d,x)=jO (du c) e)) (fun _ _ _ _ _ _ _ _ _ x=>1 - x.length) (fun _ _ _ _ e _ _ w _ _ d _ _ x y v=>(0≤v∧v≤(gD c).2.length)∧bZ (50+44*(w - 1)+4*(3 - v)) d∧(x.length:Int)+y.length≤v∧oA (gD c).2 (jO (du c) e).2 ((gD c).2.length - v).toNat v d x y=zl (du c) (gD c).2 e) (fun _ _ _ _ _ _ _ _ _ _ _ _ _ _ _ v=>((gD c).2.length - v).toNat) (by
 replace aI:bZ 300 c:=aI
 have lB:=Cz c
 have q1:bZ 298 (bM 6 c):=bZ.pick (aI.mono (by omega)) (by omega)
 have q2:bZ 296 (bM 6 (bM 6 c)):=bZ.pick (q1.mono (by omega)) (by omega)
 have q3:bZ 294 (bM 4 (bM 6 (bM 6 c))):=bZ.pick (q2.mono (by omega)) (by omega)
 have a8:=nb 4 (bM 6 (bM 6 c))
 have ag_:=a8.2 (by omega)
 unfold Sf
 refine⟨⟨aI.mono (by omega),q1.mono (by omega)⟩,q2.mono (by omega),?_⟩
 unfold Sk
 refine⟨⟨⟨a8.1,by omega⟩,q3.mono (by omega),by show 0+_≤3;omega,rfl⟩,fun bN aT aH v4 ⟨pQ,wD,ahf,uq⟩=>⟨fun hv=> ?_,fun hv=> ?_⟩⟩
 case refine_2=>
  have hv:v4>0:=by simpa using hv
  have k1:IntKind.i64.wrap (v4 - 1)=v4 - 1:=fu (by omega) (by omega)
  rw[show v4.toNat=(v4 - 1).toNat+1 by omega] at uq
  unfold tF at uq
  unfold Sj
  rw[k1]
  exact⟨⟨wD.mono (by omega),by simp;omega,by simp;omega⟩,⟨⟨by omega,by omega⟩,bZ.pick (k:=272+2*(v4 - 1)) (wD.mono (by omega)) (by omega),by simp;omega,uq⟩,by show(v4 - 1).toNat<v4.toNat;omega⟩
 have hv: ¬v4>0:=by simpa using hv
 rw[show v4.toNat=0 by omega] at uq
 have yu:bN=(gD c).1:=by rw[←uq];rfl
 have ex:aH=(gD c).2:=by rw[←uq];rfl
 clear uq
 subst yu;subst ex
 have cs:=Lb (gD c).1
 refine⟨wD.mono (by omega),⟨⟨by omega,by omega⟩,(bZ.pick (k:=270) (wD.mono (by omega)) (by omega)).mono (by omega),by show 0+_≤5;omega,rfl⟩,fun d a1 ws de ⟨BP,Bu,o0,sV⟩=> ?_⟩
 unfold Si
 refine⟨fun zb=> ?_,fun zb=> ?_⟩
 ·have zb: ¬de>0:=by simpa using zb
  rw[show de.toNat=0 by omega] at sV
  have bA:d=(eH c).1:=by rw[←sV];rfl
  have e2:ws=(eH c).2:=by rw[←sV];rfl
  clear sV
  subst bA;subst e2
  refine⟨⟨⟨Int.le_refl _,by omega⟩,Bu.mono (by omega),rfl,fun j ck e4=>by omega,by show tZ _ (((eH c).2.length:Int) - 0).toNat _ _ _=_;rw[show(((eH c).2.length:Int) - 0).toNat=(eH c).2.length by omega];rfl⟩,fun e bT bs i ⟨BQ,rU,L4,eX,wE⟩=> ?_⟩
  unfold Sn
  refine⟨fun hi=> ?_,fun hi=> ?_⟩
  ·have hi: ¬i<((eH c).2.length:Int):=by simpa using hi
   rw[show(((eH c).2.length:Int) - i).toNat=0 by omega] at wE
   unfold q8 lI
   rw[←wE]
   exact⟨rfl,rfl,⟨by omega,rfl⟩,⟨by omega,rfl⟩,⟨by omega,rfl⟩,rfl⟩
  have hi:i<((eH c).2.length:Int):=by simpa using hi
  have aaY:IntKind.i64.wrap (i+1)=i+1:=fu (by omega) (by omega)
  unfold Sm
  refine⟨⟨by omega,by omega,by omega⟩,⟨⟨Int.le_refl _,by omega⟩,rU.mono (by omega),by simp,by show qb _ _ _ (((eH c).2.length:Int) - 0).toNat _ _ _=_;rw[show(((eH c).2.length:Int) - 0).toNat=(eH c).2.length by omega];rfl⟩,fun f r k ⟨YX,Bv,L5,om⟩=> ?_⟩
  unfold Sl
  refine⟨fun hk=> ?_,fun hk=> ?_⟩
  ·have hk: ¬k<((eH c).2.length:Int):=by simpa using hk
   rw[show(((eH c).2.length:Int) - k).toNat=0 by omega] at om
   rw[show(((eH c).2.length:Int) - i).toNat=(((eH c).2.length:Int) - (i+1)).toNat+1 by omega] at wE
   unfold tZ at wE
   rw[←om] at wE
   rw[aaY]
   refine⟨by omega,⟨by simp;omega,by simp;omega⟩,⟨⟨by omega,by omega⟩,Bv.mono (by omega),by simp;omega,fun j ck e4=> ?_,wE⟩,by show(((eH c).2.length:Int) - (i+1)).toNat<(((eH c).2.length:Int) - i).toNat;omega⟩
   rw[Hi ck]
   split
   ·exact eX j ck (by omega)
   ·rw[if_pos (by omega)];exact L5
  have hk:k<((eH c).2.length:Int):=by simpa using hk
  have B9:IntKind.i64.wrap (k+1)=k+1:=fu (by omega) (by omega)
  rw[show(((eH c).2.length:Int) - k).toNat=(((eH c).2.length:Int) - (k+1)).toNat+1 by omega] at om
  unfold qb at om
  have a5:0≤k:=YX.1
  have ma:k.toNat<r.length:=by omega
  have oB:(((eH c).2.length:Int) - (k+1)).toNat<(((eH c).2.length:Int) - k).toNat:=by omega
  have rg:(0≤k+1∧k+1≤((eH c).2.length:Int)):=by omega
  have Fj:bZ (10*(5 - (i+1))+2*(5 - (k+1))) f:=Bv.mono (by omega)
  have C0: ∀b:Bool,(r.set k.toNat b).length=(eH c).2.length:=fun b=>by rw[List.length_set];exact L5
  unfold Sg
  rw[B9]
  refine⟨fun bf=> ?_,fun fT=> ?_⟩
  ·rw[if_pos bf] at om
   have bf:k<i:=by simpa using bf
   have:=eX k a5 bf
   exact⟨⟨a5,by omega⟩,by omega,⟨by omega,by omega⟩,⟨a5,ma⟩,ma,⟨rg,Fj,C0 _,om⟩,oB⟩
  rw[if_neg (by rw[fT];simp)] at om
  refine⟨fun yU=> ?_,fun cm=>⟨⟨by omega,by omega⟩,by omega,⟨a5,by omega⟩,by omega,fun hm=> ?_,fun hm=> ?_⟩⟩
  ·rw[if_pos yU] at om
   exact⟨⟨a5,ma⟩,ma,⟨rg,Fj,C0 _,om⟩,oB⟩
  ·rw[if_neg (by rw[cm];simp),if_pos hm] at om
   exact⟨⟨a5,ma⟩,ma,⟨rg,Fj,C0 _,om⟩,oB⟩
  ·rw[if_neg (by rw[cm];simp),if_neg (by rw[hm];simp)] at om
   exact⟨Bv.mono (by omega),⟨a5,ma⟩,ma,⟨rg,bZ.pick (Bv.mono (by omega)) (by omega),C0 _,om⟩,oB⟩
 have zb:de>0:=by simpa using zb
 refine⟨.inl ⟨rfl,rfl⟩,fun e ss aX=> ?_⟩
 unfold Sh
 refine⟨fun r4 cm=> ?_,fun⟨r4,yU⟩=> ?_⟩
 case refine_2=>
  have Mk:ss=[]:=by
   have:ss.length=0:=by simpa using yU
   exact List.length_eq_zero_iff.1 this
  rcases aX with⟨_,rfl⟩ | ⟨cm,_⟩
  case inr=>exact absurd Mk cm
  subst Mk
  have y8:=xK (n:=du c) (no:=[]) (c:=e) (q:=40+44*de) (m:=4) (by omega) (Bu.mono (by omega)) (by omega) (by omega) (by omega)
  refine⟨⟨Bu.mono (by omega),by omega,by omega⟩,fun ahg=> ?_⟩
  unfold Ss
  refine⟨fun aO=>⟨y8.1.mono (by omega),.inr ⟨by simp,by unfold jO;rw[if_pos aO]⟩,by show 1 - [_].length<1 - ([]:List Int).length;simp⟩,fun aO=>⟨.inr ⟨fun hX=>by rw[hX] at aO;simp at aO,by unfold jO;rw[if_neg (by rw[aO];simp)]⟩,?_⟩⟩
  have:(hH (du c) 4 [] e).length≠0:=fun hX=>by rw[hX] at aO;simp at aO
  show 1 - (hH (du c) 4 [] e).length<1 - ([]:List Int).length
  simp;omega
 have nE:(e,ss)=jO (du c) d:=by
  rcases aX with⟨rfl,_⟩ | ⟨_,h⟩
  ·simp at cm
  ·exact h
 have e2:(jO (du c) d).2=ss:=by rw[←nE]
 have y8:=Qm (n:=du c) (c:=d) (q:=38+44*de) (by omega) (Bu.mono (by omega)) (by omega)
 rw[←nE] at y8
 have wX:=xK (n:=du c) (no:=ss) (c:=e) (q:=28+44*de) (m:=2) (by omega) (y8.1.mono (by omega)) (by omega) (by omega) (by omega)
 have Y7:=xK (n:=du c) (no:=ss) (c:=ia (du c) 2 ss e) (q:=18+44*de) (m:=2) (by omega) (wX.1.mono (by omega)) (by omega) (by omega) (by omega)
 refine⟨⟨y8.1.mono (by omega),by omega,by omega⟩,⟨wX.1.mono (by omega),by omega,by omega⟩,?_⟩
 unfold Sr
 refine⟨⟨⟨Int.le_refl _,by omega⟩,Y7.1.mono (by omega),by simp,?_⟩,fun f bT l6 x y v ⟨ahi,yS,Fv,pL⟩=> ?_⟩
 ·show oA _ _ (((gD c).2.length:Int) - 0).toNat _ _ _ _=_
  rw[show(((gD c).2.length:Int) - 0).toNat=(gD c).2.length by omega]
  unfold zl
  rw[←nE]
 have g0:v<((gD c).2.length:Int)→IntKind.i64.wrap (v+1)=v+1:=fun _=>fu (by omega) (by omega)
 unfold Sq
 refine⟨fun hv=> ?_,fun hv=> ?_⟩
 ·have hv: ¬v<((gD c).2.length:Int):=by simpa using hv
  rw[show(((gD c).2.length:Int) - v).toNat=0 by omega] at pL
  have Vu:vE (du c) (gD c).2 d=(f,Way.mk ss x y (hH (du c) 2 ss e) (hH (du c) 2 ss (ia (du c) 2 ss e))):=by
   unfold vE
   rw[←pL,←nE];rfl
  rw[show de.toNat=(de - 1).toNat+1 by omega] at sV
  unfold tK at sV
  rw[Vu] at sV
  have iT:IntKind.i64.wrap (de - 1)=de - 1:=fu (by omega) (by omega)
  rw[iT]
  exact⟨by omega,by omega,⟨by simp;omega,by simp;omega⟩,⟨⟨by omega,by omega⟩,yS.mono (by omega),by simp;omega,sV⟩,by show(de - 1).toNat<de.toNat;omega⟩
 have hv:v<((gD c).2.length:Int):=by simpa using hv
 rw[show(((gD c).2.length:Int) - v).toNat=(((gD c).2.length:Int) - (v+1)).toNat+1 by omega] at pL
 unfold oA at pL
 have oB:(((gD c).2.length:Int) - (v+1)).toNat<(((gD c).2.length:Int) - v).toNat:=by omega
 have rg:(0≤v+1∧v+1≤((gD c).2.length:Int)):=by omega
 unfold Sp
 rw[g0 hv]
 refine⟨⟨⟨by omega,by omega⟩,by omega⟩,fun hm=> ?_,fun hm=>⟨yS.mono (by omega),?_⟩⟩
 ·rw[←e2] at hm
  rw[if_pos hm] at pL
  exact⟨yS.mono (by omega),⟨by simp;omega,by simp;omega⟩,⟨rg,bZ.pick (yS.mono (by omega)) (by omega),by simp;omega,pL⟩,oB⟩
 ·rw[←e2] at hm
  rw[if_neg (by rw[hm];simp)] at pL
  have aP:bZ (50+44*(de - 1)+4*(3 - (v+1))+2) (bM 3 f):=bZ.pick (yS.mono (by omega)) (by omega)
  unfold So
  rw[g0 hv]
  refine⟨fun hk=> ?_,fun hk=> ?_⟩
  ·rw[if_pos hk] at pL
   exact⟨aP.mono (by omega),⟨by simp;omega,by simp;omega⟩,⟨rg,bZ.pick aP (by omega),by simp;omega,pL⟩,oB⟩
  ·rw[if_neg (by rw[hk];simp)] at pL
   exact⟨⟨rg,aP.mono (by omega),by omega,pL⟩,oB⟩)
def afL:lr Try.prog:=⟨109,.db,[.p],[.dr],fun x c=>Hx c,fun x c=>q8 c,fun x c=>((lI c),()),fun g x c h=>afK g c h⟩
abbrev pj (r:Type):Type:=bc→Nat→(List Event)→Bool→(List Bool)→(List a_)→(List ad)→Int→r
def SD (ay:pj Prop) (aB:pj Nat) (M:az) (bN:bc) (aT:Nat) (aH:(List Event)) (cU:Bool) (cV:(List Bool)) (cW:(List a_)) (cX:(List ad)) (ca:Int):Prop:=
  (((gr M (Frame.mk cU cV cW cX) (iK M (bM 30 (eO M (Frame.mk cU cV cW cX) bN)))).code !=1)=true→((aH.length+[(iK M (bM 30 (eO M (Frame.mk cU cV cW cX) bN)))].length)*24≤140737488355328∧aH.length+[(iK M (bM 30 (eO M (Frame.mk cU cV cW cX) bN)))].length≤4611686018427387904)∧(ay (o7 M (bM 30 (eO M (Frame.mk cU cV cW cX) bN))) (aT+1) (aH++[(iK M (bM 30 (eO M (Frame.mk cU cV cW cX) bN)))]) (gr M (Frame.mk cU cV cW cX) (iK M (bM 30 (eO M (Frame.mk cU cV cW cX) bN)))).frame.ok (gr M (Frame.mk cU cV cW cX) (iK M (bM 30 (eO M (Frame.mk cU cV cW cX) bN)))).frame.av (gr M (Frame.mk cU cV cW cX) (iK M (bM 30 (eO M (Frame.mk cU cV cW cX) bN)))).frame.au (gr M (Frame.mk cU cV cW cX) (iK M (bM 30 (eO M (Frame.mk cU cV cW cX) bN)))).frame.O (IntKind.i64.wrap (ca - 1))∧aB (o7 M (bM 30 (eO M (Frame.mk cU cV cW cX) bN))) (aT+1) (aH++[(iK M (bM 30 (eO M (Frame.mk cU cV cW cX) bN)))]) (gr M (Frame.mk cU cV cW cX) (iK M (bM 30 (eO M (Frame.mk cU cV cW cX) bN)))).frame.ok (gr M (Frame.mk cU cV cW cX) (iK M (bM 30 (eO M (Frame.mk cU cV cW cX) bN)))).frame.av (gr M (Frame.mk cU cV cW cX) (iK M (bM 30 (eO M (Frame.mk cU cV cW cX) bN)))).frame.au (gr M (Frame.mk cU cV cW cX) (iK M (bM 30 (eO M (Frame.mk cU cV cW cX) bN)))).frame.O (IntKind.i64.wrap (ca - 1))<aB bN aT aH cU cV cW cX ca))∧(((gr M (Frame.mk cU cV cW cX) (iK M (bM 30 (eO M (Frame.mk cU cV cW cX) bN)))).code !=1)=false→((aH.length+[(iK M (bM 30 (eO M (Frame.mk cU cV cW cX) bN)))].length)*24≤140737488355328∧aH.length+[(iK M (bM 30 (eO M (Frame.mk cU cV cW cX) bN)))].length≤4611686018427387904)∧(ay (o7 M (bM 30 (eO M (Frame.mk cU cV cW cX) bN))) (aT+1) (aH++[(iK M (bM 30 (eO M (Frame.mk cU cV cW cX) bN)))]) cU cV cW cX (IntKind.i64.wrap (ca - 1))∧aB (o7 M (bM 30 (eO M (Frame.mk cU cV cW cX) bN))) (aT+1) (aH++[(iK M (bM 30 (eO M (Frame.mk cU cV cW cX) bN)))]) cU cV cW cX (IntKind.i64.wrap (ca - 1))<aB bN aT aH cU cV cW cX ca))
def SE (ay:pj Prop) (aB:pj Nat) (M:az) (bN:bc) (aT:Nat) (aH:(List Event)) (cU:Bool) (cV:(List Bool)) (cW:(List a_)) (cX:(List ad)) (ca:Int):Prop:=
  (((gr M (Frame.mk cU cV cW cX) (fp M (Frame.mk cU cV cW cX) bN)).code !=1)=true→((aH.length+[(fp M (Frame.mk cU cV cW cX) bN)].length)*24≤140737488355328∧aH.length+[(fp M (Frame.mk cU cV cW cX) bN)].length≤4611686018427387904)∧(ay (bM 30 (eO M (Frame.mk cU cV cW cX) bN)) (aT+1) (aH++[(fp M (Frame.mk cU cV cW cX) bN)]) (gr M (Frame.mk cU cV cW cX) (fp M (Frame.mk cU cV cW cX) bN)).frame.ok (gr M (Frame.mk cU cV cW cX) (fp M (Frame.mk cU cV cW cX) bN)).frame.av (gr M (Frame.mk cU cV cW cX) (fp M (Frame.mk cU cV cW cX) bN)).frame.au (gr M (Frame.mk cU cV cW cX) (fp M (Frame.mk cU cV cW cX) bN)).frame.O (IntKind.i64.wrap (ca - 1))∧aB (bM 30 (eO M (Frame.mk cU cV cW cX) bN)) (aT+1) (aH++[(fp M (Frame.mk cU cV cW cX) bN)]) (gr M (Frame.mk cU cV cW cX) (fp M (Frame.mk cU cV cW cX) bN)).frame.ok (gr M (Frame.mk cU cV cW cX) (fp M (Frame.mk cU cV cW cX) bN)).frame.av (gr M (Frame.mk cU cV cW cX) (fp M (Frame.mk cU cV cW cX) bN)).frame.au (gr M (Frame.mk cU cV cW cX) (fp M (Frame.mk cU cV cW cX) bN)).frame.O (IntKind.i64.wrap (ca - 1))<aB bN aT aH cU cV cW cX ca))∧(((gr M (Frame.mk cU cV cW cX) (fp M (Frame.mk cU cV cW cX) bN)).code !=1)=false→((aH.length+[(fp M (Frame.mk cU cV cW cX) bN)].length)*24≤140737488355328∧aH.length+[(fp M (Frame.mk cU cV cW cX) bN)].length≤4611686018427387904)∧(ay (bM 30 (eO M (Frame.mk cU cV cW cX) bN)) (aT+1) (aH++[(fp M (Frame.mk cU cV cW cX) bN)]) cU cV cW cX (IntKind.i64.wrap (ca - 1))∧aB (bM 30 (eO M (Frame.mk cU cV cW cX) bN)) (aT+1) (aH++[(fp M (Frame.mk cU cV cW cX) bN)]) cU cV cW cX (IntKind.i64.wrap (ca - 1))<aB bN aT aH cU cV cW cX ca))
def SF (ay:pj Prop) (aB:pj Nat) (M:az) (bN:bc) (aT:Nat) (aH:(List Event)) (cU:Bool) (cV:(List Bool)) (cW:(List a_)) (cX:(List ad)) (ca:Int):Prop:=
  (((cO 30 (eO M (Frame.mk cU cV cW cX) bN))==0)=true→(Hl M (bM 30 (eO M (Frame.mk cU cV cW cX) bN)))∧((CW M (Frame.mk cU cV cW cX) (iK M (bM 30 (eO M (Frame.mk cU cV cW cX) bN))))∧(SD ay aB M bN aT aH cU cV cW cX ca)))∧(((cO 30 (eO M (Frame.mk cU cV cW cX) bN))==0)=false→(CW M (Frame.mk cU cV cW cX) (fp M (Frame.mk cU cV cW cX) bN))∧(SE ay aB M bN aT aH cU cV cW cX ca))
def SG (ay:pj Prop) (aB:pj Nat) (M:az) (U:Int) (c c':bc) (al:(List Event)):Prop:=
  ay (bM U c) 0 ([]:List Event) (en M).ok (en M).av (en M).au (en M).O (cO U c)∧ ∀(bN:bc) (aT:Nat) (aH:(List Event)) (cU:Bool) (cV:(List Bool)) (cW:(List a_)) (cX:(List ad)) (ca:Int),ay bN aT aH cU cV cW cX ca→(((decide (ca>0))=false→(bN=c')∧(aH.length≤4611686018427387904∧aH=al))∧((decide (ca>0))=true→(Ez M (Frame.mk cU cV cW cX) bN)∧((iL 30 (eO M (Frame.mk cU cV cW cX) bN))∧(SF ay aB M bN aT aH cU cV cW cX ca))))
def SC (M:az) (U:Int) (c c':bc) (al:(List Event)) (ay:pj Prop) (aB:pj Nat):Prop:=
 (iL U c)∧(SG ay aB M U c c' al)
theorem af0 (hg:Nat) (M:az) (U:Int) (c:bc) (aI:AZ M U c):iV Try.prog 110 hg (jX hg [.p,.v .dr,.v .int] (M,U,())) (cb false .db c) (cb false .db (yt M U c)) (k0 [(.l .fR)] ((sL M U c),())):=(fun(ay:pj Prop) (aB:pj Nat) (h:SC M U c (yt M U c) (sL M U c) ay aB)=>iV.run (hg:=hg) (ce:= .db) (l:=[.p,.v .dr,.v .int]) (rs:=[(.l .fR)]) (x:=(M,U,())) (c:=c) (c':=(yt M U c)) (r:=((sL M U c),())) ⟨45,eh,[ad9,aee]⟩ ⟨[],[],[],[z7,afA,afI],[]⟩ (.lp [(0,7,.fR)] [0,4,8] [(8,4),(4,5)] [.db,.nat,(.l .fR),.bool,(.l .bool),(.l .gK),(.l .held),.int] [bC 0,bC 1,bC 1,eG 8 0,eG 8 1,eG 8 2,eG 8 3,9] (fun aN=>[(7,.ref 1 aN.2.1 aN.2.2.1.length false),(9,.i .i64 aN.2.2.2.2.2.2.2.1),(eG 8 0,.b (.v aN.2.2.2.1)),(eG 8 1,.l .bool aN.2.2.2.2.1 false true),(eG 8 2,.l .gK aN.2.2.2.2.2.1 false true),(eG 8 3,.l .held aN.2.2.2.2.2.2.1 false true),(bC 0,.eI hg (gI false .db aN.1)),(bC 1,.blk aN.2.1 .fR aN.2.2.1 _ rfl)]) (fun aN=>ay aN.1 aN.2.1 aN.2.2.1 aN.2.2.2.1 aN.2.2.2.2.1 aN.2.2.2.2.2.1 aN.2.2.2.2.2.2.1 aN.2.2.2.2.2.2.2.1) (fun aN=>aB aN.1 aN.2.1 aN.2.2.1 aN.2.2.2.1 aN.2.2.2.2.1 aN.2.2.2.2.2.1 aN.2.2.2.2.2.2.1 aN.2.2.2.2.2.2.2.1) fun _=> .nil) Try.func110 h) (fun d _ x a b o e v=>(0≤v∧v≤49)∧bZ (20*v) d∧ev M (Frame.mk a b o e)=true∧x.length+v.toNat≤49∧sr M v.toNat (Frame.mk a b o e) d x=Ef M U c) (fun _ _ _ _ _ _ _ v=>v.toNat) (by
 obtain⟨hg,aj,aR,ahl⟩:=aI
 have hv:=nb U c
 have hv2:=hv.2 aR
 have wD:bZ 998 (bM U c):=bZ.pick (aj.mono (by omega)) (by omega)
 unfold SC SG
 refine⟨aj.mono (by omega),⟨⟨hv.1,by omega⟩,wD.mono (by omega),AG hg,by show 0+_≤49;omega,rfl⟩,fun d g x k o q w v ⟨aK,bj,hf,aL,he⟩=>⟨fun hv=> ?_,fun hv=> ?_⟩⟩
 ·have hv: ¬v>0:=by simpa using hv
  rw[show v.toNat=0 by omega] at he
  unfold yt sL
  rw[←he]
  exact⟨rfl,by omega,rfl⟩
 have hv:v>0:=by simpa using hv
 have k1:IntKind.i64.wrap (v - 1)=v - 1:=fu (by omega) (by omega)
 have fit:=jG hf
 have h1:bZ 10 (eO M (Frame.mk k o q w) d):=K0 (bj.mono (by omega)) (by omega)
 have h2:bZ 8 (bM 30 (eO M (Frame.mk k o q w) d)):=bZ.pick (h1.mono (by omega)) (by omega)
 have m8: ∀e:Event,(x.length+[e].length)*24≤140737488355328∧x.length+[e].length≤4611686018427387904:=fun e=>⟨by simp;omega,by simp;omega⟩
 have kL: ∀e:Event,(x++[e]).length+(v - 1).toNat≤49:=fun e=>by simp;omega
 have oB:(v - 1).toNat<v.toNat:=by omega
 refine⟨⟨⟨fit.in,fit.fr⟩,bj.mono (by omega)⟩,h1.mono (by omega),?_⟩
 unfold SF
 refine⟨fun hb=>⟨h2,Hn hf,?_⟩,fun hb=>⟨Hn hf,?_⟩⟩
 ·obtain⟨aT,a1,bT⟩:=Qb hf hv bj he (show rh M (Frame.mk k o q w) d=(iK M (bM 30 (eO M (Frame.mk k o q w) d)),o7 M (bM 30 (eO M (Frame.mk k o q w) d))) by unfold rh;rw[hb];rfl)
  unfold SD
  rw[k1]
  exact⟨fun hc=>⟨m8 _,⟨⟨by omega,by omega⟩,aT,(a1 hc).1,kL _,(a1 hc).2⟩,oB⟩,fun hc=>⟨m8 _,⟨⟨by omega,by omega⟩,aT,hf,kL _,bT hc⟩,oB⟩⟩
 ·obtain⟨aT,a1,bT⟩:=Qb hf hv bj he (show rh M (Frame.mk k o q w) d=(fp M (Frame.mk k o q w) d,bM 30 (eO M (Frame.mk k o q w) d)) by unfold rh;rw[hb];rfl)
  unfold SE
  rw[k1]
  exact⟨fun hc=>⟨m8 _,⟨⟨by omega,by omega⟩,aT,(a1 hc).1,kL _,(a1 hc).2⟩,oB⟩,fun hc=>⟨m8 _,⟨⟨by omega,by omega⟩,aT,hf,kL _,bT hc⟩,oB⟩⟩)
def af1:lr Try.prog:=⟨110,.db,[.p,.v .dr,.v .int],[(.l .fR)],fun x c=>AZ x.1 x.2.1 c,fun x c=>yt x.1 x.2.1 c,fun x c=>((sL x.1 x.2.1 c),()),fun g x c h=>af0 g x.1 x.2.1 c h⟩
def ael:List Item:=[ap 0,ap 1,ap 2,⟨3,true,false,[0]⟩,⟨4,true,false,[]⟩,ap 5]
def aem:List (List Nat):=[[],[],[],[1,2],rg 0 4,rg 0 5]
def aej (J:(List UInt8)) (al:az×(List Event)):Prop:=
  (Hx (bc.mk J 0 0))∧((AZ (lI (bc.mk J 0 0)) 50 (q8 (bc.mk J 0 0)))∧(((lI (bc.mk J 0 0)).af=al.1.af)∧((lI (bc.mk J 0 0)).be=al.1.be)∧((lI (bc.mk J 0 0)).O=al.1.O)∧((lI (bc.mk J 0 0)).bW=al.1.bW)∧((lI (bc.mk J 0 0)).dx=al.1.dx)∧((sL (lI (bc.mk J 0 0)) 50 (q8 (bc.mk J 0 0)))=al.2)))
def aei (J:(List UInt8)) (al:az×(List Event)):Prop:=
 aej J al
theorem aek (J:(List UInt8)):b2 Try.prog 46 [bK n_ J] (.tup [.agg (bg true ((pz J).1)),hA jo ((pz J).2)]):=(fun(h:aei J (pz J))=>b2.run (ps:=[(.l .u8)]) (rs:=[.dr,(.l .fR)]) (x:=(J,())) (r:=((pz J).1,(pz J).2,())) ⟨15,eh,[]⟩ ⟨[],[(3,ael,aem)],[],[afL,af1],[]⟩ .nil Try.func46 h) (by
 exact⟨(Ec J).mono (by omega),U6 J,rfl,rfl,rfl,rfl,rfl,rfl⟩)
def QT:ey Try.prog:=⟨46,[(.l .u8)],[.dr,(.l .fR)],none,fun x=>((pz x.1).1,(pz x.1).2,()),fun x h=>aek x.1⟩
def aba:List Item:=[ap 0,ap 1,ap 2,ap 3,ap 4,ap 5,ap 6,ap 7,ap 8,ap 9,ap 10,ap 11,ap 12,ap 13,ap 14,ap 15,ap 16,ap 17,ap 18,ap 19,ap 20,ap 21,ap 22,ap 23,ap 24,ap 25,ap 26,ap 27,ap 28]
def abb:List (List Nat):=[[],[],[0,1],[0,1,2],rg 0 4,rg 0 5,rg 0 6,rg 0 7,rg 0 7,rg 0 9,rg 0 10,rg 0 11,rg 0 12,rg 0 13,rg 0 14,rg 0 15,rg 0 16,rg 0 17,rg 0 15,rg 0 15++[18],rg 0 15,rg 0 15++[18,19,20],rg 0 15++rg 18 22,rg 0 15++rg 18 23,rg 0 15++rg 18 24,rg 0 15++rg 18 25,rg 0 26,rg 0 27,rg 0 28]
abbrev j_ (r:Type):Type:=Bool→(List Bool)→(List a_)→(List ad)→Int→Int→r
def aa9 (aQ:j_ Prop) (aR:j_ Nat) (J:(List UInt8)) (ab b0:Int) (dm:Bool) (cY:(List Bool)) (dn:(List a_)) (cC:(List ad)) (bQ:Int):Prop:=
  ((decide (ab<(bif ((nth (nth (cF J) bQ).frame.O b0).ao==0) then((nth (b7 J).O b0).af.length:Int) else(nth (nth (cF J) bQ).frame.O b0).ag)))&&(decide (ab<((nth (b7 J).O b0).af.length:Int))))=false→aQ dm cY dn cC bQ (IntKind.i64.wrap (b0+1))∧aR dm cY dn cC bQ (IntKind.i64.wrap (b0+1))<aR dm cY dn cC bQ b0
def Og (J:(List UInt8)) (al:Bool) (ab b0:Int) (cY:(List Bool)) (cC:(List ad)) (bQ:Int):Prop:=
  ((0≤(nth (nth (b7 J).O b0).af ab)∧(nth (nth (b7 J).O b0).af ab).toNat<(nth (cF J) bQ).frame.av.length)∧((nth (nth (cF J) bQ).frame.av (nth (nth (b7 J).O b0).af ab))=false→(0≤ab∧ab.toNat<(nth cC b0).ac.length)∧((!(nth (nth cC b0).ac ab))=true→0≤(nth (nth (b7 J).O b0).af ab)∧(nth (nth (b7 J).O b0).af ab).toNat<cY.length)))∧(((nth (nth (cF J) bQ).frame.av (nth (nth (b7 J).O b0).af ab)) || ((!(nth (nth cC b0).ac ab))&&(!(nth cY (nth (nth (b7 J).O b0).af ab)))))=true→false=al)
abbrev gi (r:Type):Type:=Bool→(List Bool)→(List a_)→(List ad)→Int→Int→Int→r
def Oh (bo:gi Prop) (bn:gi Nat) (J:(List UInt8)) (al:Bool) (ab b0:Int) (dm:Bool) (cY:(List Bool)) (dn:(List a_)) (cC:(List ad)) (bQ:Int):Prop:=
  (((0≤b0∧b0.toNat<(b7 J).O.length)∧(0≤ab∧ab.toNat<(nth (b7 J).O b0).af.length))∧(Og J al ab b0 cY cC bQ))∧((!((nth (nth (cF J) bQ).frame.av (nth (nth (b7 J).O b0).af ab)) || ((!(nth (nth cC b0).ac ab))&&(!(nth cY (nth (nth (b7 J).O b0).af ab))))))=true→bo dm cY dn cC bQ b0 (IntKind.i64.wrap (ab+1))∧bn dm cY dn cC bQ b0 (IntKind.i64.wrap (ab+1))<bn dm cY dn cC bQ b0 ab)
def Oi (aQ:j_ Prop) (aR:j_ Nat) (bo:gi Prop) (bn:gi Nat) (J:(List UInt8)) (al:Bool) (ab b0:Int) (dm:Bool) (cY:(List Bool)) (dn:(List a_)) (cC:(List ad)) (bQ:Int):Prop:=
  (aa9 aQ aR J ab b0 dm cY dn cC bQ)∧(((decide (ab<(bif ((nth (nth (cF J) bQ).frame.O b0).ao==0) then((nth (b7 J).O b0).af.length:Int) else(nth (nth (cF J) bQ).frame.O b0).ag)))&&(decide (ab<((nth (b7 J).O b0).af.length:Int))))=true→Oh bo bn J al ab b0 dm cY dn cC bQ)
def Oj (J:(List UInt8)) (al:Bool) (mV b0:Int) (cY:(List Bool)) (cC:(List ad)) (bQ:Int):Prop:=
  ((0≤bQ∧bQ.toNat<(gU J).length)∧(((nth (gU J) bQ).op==2)=true→(nth cC b0).aq=true→0≤(nth (nth (b7 J).O b0).cu mV)∧(nth (nth (b7 J).O b0).cu mV).toNat<cY.length))∧((((nth (gU J) bQ).op==2)&&((nth cC b0).aq&&(nth cY (nth (nth (b7 J).O b0).cu mV))))=true→false=al)
def Ok (bU:gi Prop) (bV:gi Nat) (J:(List UInt8)) (al:Bool) (mV b0:Int) (dm:Bool) (cY:(List Bool)) (dn:(List a_)) (cC:(List ad)) (bQ:Int):Prop:=
  ((0≤mV∧mV.toNat<(nth (b7 J).O b0).cu.length)∧(Oj J al mV b0 cY cC bQ))∧((!(((nth (gU J) bQ).op==2)&&((nth cC b0).aq&&(nth cY (nth (nth (b7 J).O b0).cu mV)))))=true→bU dm cY dn cC bQ b0 (IntKind.i64.wrap (mV+1))∧bV dm cY dn cC bQ b0 (IntKind.i64.wrap (mV+1))<bV dm cY dn cC bQ b0 mV)
def Ol (aQ:j_ Prop) (aR:j_ Nat) (bU:gi Prop) (bV:gi Nat) (J:(List UInt8)) (al:Bool) (b0:Int) (dm:Bool) (cY:(List Bool)) (dn:(List a_)) (cC:(List ad)) (bQ:Int):Prop:=
  bU dm cY dn cC bQ b0 0∧ ∀(mV:Int),bU dm cY dn cC bQ b0 mV→(((decide (mV<((nth (b7 J).O b0).cu.length:Int)))=false→aQ dm cY dn cC bQ (IntKind.i64.wrap (b0+1))∧aR dm cY dn cC bQ (IntKind.i64.wrap (b0+1))<aR dm cY dn cC bQ b0)∧((decide (mV<((nth (b7 J).O b0).cu.length:Int)))=true→Ok bU bV J al mV b0 dm cY dn cC bQ))
def Om (aQ:j_ Prop) (aR:j_ Nat) (bU:gi Prop) (bV:gi Nat) (J:(List UInt8)) (al:Bool) (b0:Int) (dm:Bool) (cY:(List Bool)) (dn:(List a_)) (cC:(List ad)) (bQ:Int):Prop:=
  ((((nth cC b0).ao !=0)&&((nth (nth (cF J) bQ).frame.O b0).ao==0))=true→(((0≤bQ∧bQ.toNat<(gU J).length)∧((((nth (gU J) bQ).op !=2)=true→(0≤bQ∧bQ.toNat<(gU J).length)∧(((nth (gU J) bQ).op !=7)=false→(0≤b0∧b0.toNat<(b7 J).O.length)∧(((0:Int)≤0∧(0:Int).toNat<(nth (b7 J).O b0).af.length)∧(0≤(nth (nth (b7 J).O b0).af 0)∧(nth (nth (b7 J).O b0).af 0).toNat<(nth (cF J) bQ).frame.av.length))))∧(((nth (gU J) bQ).op !=2)=false→(0≤b0∧b0.toNat<(b7 J).O.length)∧(((0:Int)≤0∧(0:Int).toNat<(nth (b7 J).O b0).af.length)∧(0≤(nth (nth (b7 J).O b0).af 0)∧(nth (nth (b7 J).O b0).af 0).toNat<(nth (cF J) bQ).frame.av.length)))))∧((bif ((nth (gU J) bQ).op !=2) then(((nth (gU J) bQ).op !=7) || (nth (nth (cF J) bQ).frame.av (nth (nth (b7 J).O b0).af 0))) else(nth (nth (cF J) bQ).frame.av (nth (nth (b7 J).O b0).af 0)))=true→false=al))∧((!(bif ((nth (gU J) bQ).op !=2) then(((nth (gU J) bQ).op !=7) || (nth (nth (cF J) bQ).frame.av (nth (nth (b7 J).O b0).af 0))) else(nth (nth (cF J) bQ).frame.av (nth (nth (b7 J).O b0).af 0))))=true→(0≤b0∧b0.toNat<(b7 J).O.length)∧((nth (b7 J).O b0).cu.length≤4611686018427387904→Ol aQ aR bU bV J al b0 dm cY dn cC bQ)))∧((((nth cC b0).ao !=0)&&((nth (nth (cF J) bQ).frame.O b0).ao==0))=false→aQ dm cY dn cC bQ (IntKind.i64.wrap (b0+1))∧aR dm cY dn cC bQ (IntKind.i64.wrap (b0+1))<aR dm cY dn cC bQ b0)
def On (aQ:j_ Prop) (aR:j_ Nat) (bo:gi Prop) (bn:gi Nat) (bU:gi Prop) (bV:gi Nat) (J:(List UInt8)) (al:Bool) (b0:Int) (dm:Bool) (cY:(List Bool)) (dn:(List a_)) (cC:(List ad)) (bQ:Int):Prop:=
  ((nth cC b0).ac.length≤4611686018427387904→((((nth cC b0).ac.length:Int) !=((nth (b7 J).O b0).af.length:Int)) || (((nth (nth (cF J) bQ).frame.O b0).ac.length:Int) !=((nth (b7 J).O b0).af.length:Int)))=true→false=al)∧(((nth cC b0).ac.length≤4611686018427387904)∧((!((((nth cC b0).ac.length:Int) !=((nth (b7 J).O b0).af.length:Int)) || (((nth (nth (cF J) bQ).frame.O b0).ac.length:Int) !=((nth (b7 J).O b0).af.length:Int))))=true)→(((nth cC b0).ao==4)=true→bo dm cY dn cC bQ b0 (nth cC b0).ag∧ ∀(ab:Int),bo dm cY dn cC bQ b0 ab→(Oi aQ aR bo bn J al ab b0 dm cY dn cC bQ))∧(((nth cC b0).ao==4)=false→Om aQ aR bU bV J al b0 dm cY dn cC bQ))
abbrev pk (r:Type):Type:=Bool→(List Bool)→(List a_)→(List ad)→Int→r
def Oc (ay:pk Prop) (aB:pk Nat) (aQ:j_ Prop) (aR:j_ Nat) (bo:gi Prop) (bn:gi Nat) (bU:gi Prop) (bV:gi Nat) (J:(List UInt8)) (al:Bool) (b0:Int) (dm:Bool) (cY:(List Bool)) (dn:(List a_)) (cC:(List ad)) (bQ:Int):Prop:=
  ((decide (b0<((nth (cF J) bQ).frame.O.length:Int)))=false→ay (nth (cF J) bQ).frame.ok (nth (cF J) bQ).frame.av (nth (cF J) bQ).frame.au (nth (cF J) bQ).frame.O (IntKind.i64.wrap (bQ+1))∧aB (nth (cF J) bQ).frame.ok (nth (cF J) bQ).frame.av (nth (cF J) bQ).frame.au (nth (cF J) bQ).frame.O (IntKind.i64.wrap (bQ+1))<aB dm cY dn cC bQ)∧((decide (b0<((nth (cF J) bQ).frame.O.length:Int)))=true→(0≤b0∧b0.toNat<(nth (cF J) bQ).frame.O.length)∧((0≤b0∧b0.toNat<cC.length)∧((0≤b0∧b0.toNat<(b7 J).O.length)∧((nth (b7 J).O b0).af.length≤4611686018427387904→On aQ aR bo bn bU bV J al b0 dm cY dn cC bQ))))
def Od (ay:pk Prop) (aB:pk Nat) (aQ:j_ Prop) (aR:j_ Nat) (bo:gi Prop) (bn:gi Nat) (bU:gi Prop) (bV:gi Nat) (J:(List UInt8)) (al dm:Bool) (cY:(List Bool)) (dn:(List a_)) (cC:(List ad)) (bQ:Int):Prop:=
  (((nth (cF J) bQ).frame.O.length≤4611686018427387904)∧((b7 J).O.length≤4611686018427387904)→((((nth (cF J) bQ).frame.O.length:Int) !=((b7 J).O.length:Int)) || (((nth (cF J) bQ).frame.av.length:Int) !=(b7 J).af))=true→false=al)∧(((nth (cF J) bQ).frame.O.length≤4611686018427387904)∧((b7 J).O.length≤4611686018427387904)∧((!((((nth (cF J) bQ).frame.O.length:Int) !=((b7 J).O.length:Int)) || (((nth (cF J) bQ).frame.av.length:Int) !=(b7 J).af)))=true)→aQ dm cY dn cC bQ 0∧ ∀(b0:Int),aQ dm cY dn cC bQ b0→(Oc ay aB aQ aR bo bn bU bV J al b0 dm cY dn cC bQ))
def Oe (ay:pk Prop) (aB:pk Nat) (aQ:j_ Prop) (aR:j_ Nat) (bo:gi Prop) (bn:gi Nat) (bU:gi Prop) (bV:gi Nat) (J:(List UInt8)) (al:Bool):Prop:=
  ay (en (b7 J)).ok (en (b7 J)).av (en (b7 J)).au (en (b7 J)).O 0∧ ∀(dm:Bool) (cY:(List Bool)) (dn:(List a_)) (cC:(List ad)) (bQ:Int),ay dm cY dn cC bQ→(((decide (bQ<((cF J).length:Int)))=false→true=al)∧((decide (bQ<((cF J).length:Int)))=true→(0≤bQ∧bQ.toNat<(cF J).length)∧(Od ay aB aQ aR bo bn bU bV J al dm cY dn cC bQ)))
def Of (ay:pk Prop) (aB:pk Nat) (aQ:j_ Prop) (aR:j_ Nat) (bo:gi Prop) (bn:gi Nat) (bU:gi Prop) (bV:gi Nat) (J:(List UInt8)) (al:Bool):Prop:=
  (((cF J).length≤4611686018427387904)∧((gU J).length≤4611686018427387904)→((((cF J).length:Int) !=((gU J).length:Int)) || (((en (b7 J)).O.length:Int) !=((b7 J).O.length:Int)))=true→false=al)∧(((cF J).length≤4611686018427387904)∧((gU J).length≤4611686018427387904)∧((!((((cF J).length:Int) !=((gU J).length:Int)) || (((en (b7 J)).O.length:Int) !=((b7 J).O.length:Int))))=true)→Oe ay aB aQ aR bo bn bU bV J al)
def Ob (J:(List UInt8)) (al:Bool) (ay:pk Prop) (aB:pk Nat) (aQ:j_ Prop) (aR:j_ Nat) (bo:gi Prop) (bn:gi Nat) (bU:gi Prop) (bV:gi Nat):Prop:=
 (J.length≤4611686018427387904→(decide ((J.length:Int)>1048576))=true→true=al)∧((J.length≤4611686018427387904)∧((!(decide ((J.length:Int)>1048576)))=true)→Of ay aB aQ aR bo bn bU bV J al)
theorem aa_ (J:(List UInt8)):b2 Try.prog 11 [bK n_ J] (an (x4 J)):=(fun(ay:pk Prop) (aB:pk Nat) (aQ:j_ Prop) (aR:j_ Nat) (bo:gi Prop) (bn:gi Nat) (bU:gi Prop) (bV:gi Nat) (h:Ob J (x4 J) ay aB aQ aR bo bn bU bV)=>b2.run (ps:=[(.l .u8)]) (rs:=[.bool]) (x:=(J,())) (r:=((x4 J),())) ⟨224,eh,[QT,Mv,MT]⟩ ⟨[46,72],[(31,aba,abb)],[],[],[]⟩ (.lp [] [3,4,5,45,46] [(5,4),(3,5)] [.bool,(.l .bool),(.l .gK),(.l .held),.int] [eG 5 0,eG 5 1,eG 5 2,eG 5 3,47] (fun aN=>[(47,.i .i64 aN.2.2.2.2.1),(eG 5 0,.b (.v aN.1)),(eG 5 1,.l .bool aN.2.1 false false),(eG 5 2,.l .gK aN.2.2.1 false false),(eG 5 3,.l .held aN.2.2.2.1 false false)]) (fun aN=>ay aN.1 aN.2.1 aN.2.2.1 aN.2.2.2.1 aN.2.2.2.2.1) (fun aN=>aB aN.1 aN.2.1 aN.2.2.1 aN.2.2.2.1 aN.2.2.2.2.1) fun aN=>(eP [3,4,5,7,8,45,46,47,71,72] [(8,5),(5,4),(3,5)] 73 (aQ aN.1 aN.2.1 aN.2.2.1 aN.2.2.2.1 aN.2.2.2.2.1) (aR aN.1 aN.2.1 aN.2.2.1 aN.2.2.2.1 aN.2.2.2.2.1) fun bx=>(.px .nil (.px .nil (.px (eP [3,4,5,7,8,9,11,12,13,45,46,47,71,72,73] [(11,5),(8,5),(5,4),(3,5)] 14 (bo aN.1 aN.2.1 aN.2.2.1 aN.2.2.2.1 aN.2.2.2.2.1 bx) (bn aN.1 aN.2.1 aN.2.2.1 aN.2.2.2.1 aN.2.2.2.2.1 bx) fun _=> .nil) (eP [3,4,5,7,8,11,45,46,47,71,72,73,196,197] [(11,5),(8,5),(5,4),(3,5)] 198 (bU aN.1 aN.2.1 aN.2.2.1 aN.2.2.2.1 aN.2.2.2.2.1 bx) (bV aN.1 aN.2.1 aN.2.2.1 aN.2.2.2.1 aN.2.2.2.2.1 bx) fun _=> .nil)))))) Try.func11 h) (fun k o q w v=>cl (cF J).length (fun _=>false) v∧Frame.mk k o q w=nc J v) (fun _ _ _ _=>cy (cF J).length) (fun _ _ _ _ v=>cl (nth (cF J) v).frame.O.length (fun _=>false)) (fun _ _ _ _ v=>cy (nth (cF J) v).frame.O.length) (fun _ _ _ w v i x=>(nth w i).ag≤x∧x≤(nth (b7 J).O i).af.length) (fun _ _ _ _ _ i x=>((nth (b7 J).O i).af.length - x).toNat) (fun _ _ _ _ v i=>cl (nth (b7 J).O i).cu.length (fun _=>false)) (fun _ _ _ _ _ i=>cy (nth (b7 J).O i).cu.length) (by
 have hlen:=PP J
 have hb:=Bm (AG (Cw J))
 unfold Ob
 refine⟨fun _ _=>rfl,fun _=> ?_⟩
 unfold Of
 refine⟨fun _ h=>by rw[hlen,hb.2.2] at h;simp at h,fun⟨h1,h2,_⟩=> ?_⟩
 unfold Oe
 refine⟨⟨c6 (dd _),rfl⟩,fun k o q w v ⟨aX,he⟩=>⟨fun _=>rfl,fun hv=>⟨b8 aX hv,?_⟩⟩⟩
 have b9:=b8 aX hv
 have BI:v.toNat<(gU J).length:=by omega
 have wO:=Pp (code:=J) b9.1 BI
 have bA:o=(nc J v).av:=by rw[←he]
 have e2:w=(nc J v).O:=by rw[←he]
 subst bA;subst e2
 have e1:=PR (code:=J) b9.1 BI
 have mw:=Bm e1
 have ja:=Bm wO
 have cx:=(jG e1).in
 have yv:=PQ (code:=J) b9.1 BI
 unfold Od
 refine⟨fun _ h=>by rw[mw.2.2,mw.1] at h;simp at h,fun⟨bx,ch,_⟩=>⟨c6 (dd _),fun i cZ=> ?_⟩⟩
 unfold Oc
 refine⟨fun _=> ?_,fun hi=>⟨b8 cZ hi,?_⟩⟩
 ·have up:=cG (cq h1) aX hv rfl
  have k1:=iE (cq h1) b9.1 (by simpa using hv)
  rw[k1] at up ⊢
  exact⟨⟨up.1,(acr b9.1).symm⟩,up.2⟩
 have mC:=b8 cZ hi
 have i1:i<(nc J v).O.length:=by omega
 have E4:=(sg wO).1.held i mC.1 i1
 have XF:=(sg e1).1.held i mC.1 (by omega)
 have wY:=cx.af _ (dq (xs:=(b7 J).O) (i:=i) (by omega))
 have bi:(nth (cF J) v).frame=(jQ (b7 J) (nc J v) (nth (gU J) v)).frame:=by rw[yv]
 have next:=cG (cq bx) cZ hi rfl
 have zB:0≤i∧i.toNat<(b7 J).O.length:=⟨mC.1,by omega⟩
 refine⟨⟨mC.1,by omega⟩,zB,fun r4=> ?_⟩
 unfold On
 refine⟨fun _ h=>by rw[E4.len,XF.len] at h;simp at h,fun _=>⟨fun a8=> ?_,fun a8=> ?_⟩⟩
 ·have a8:(nth (nc J v).O i).ao=4:=by simpa using a8
  have hg:=E4.ag
  refine⟨⟨Int.le_refl _,by omega⟩,fun x ⟨a3,aH⟩=> ?_⟩
  unfold Oi
  refine⟨fun _=>next,fun hx=> ?_⟩
  rw[Bool.and_eq_true] at hx
  have ow:=hx.1
  have Za:x<((nth (b7 J).O i).af.length:Int):=by simpa using hx.2
  rw[decide_eq_true_eq,bi] at ow
  have key:=Ya wO mC.1 i1 a8 a3 ow Za
  rw[←bi] at key
  have hs:=wY.2.2 _ (dq (xs:=(nth (b7 J).O i).af) (i:=x) (by omega))
  have k1:IntKind.i64.wrap (x+1)=x+1:=fu (by omega) (by omega)
  unfold Oh
  rw[k1]
  refine⟨⟨⟨zB,by omega,by omega⟩,?_⟩,fun _=>⟨⟨by omega,by omega⟩,by show(((nth (b7 J).O i).af.length:Int) - (x+1)).toNat<(((nth (b7 J).O i).af.length:Int) - x).toNat;omega⟩⟩
  have hn:=E4.len
  unfold Og
  refine⟨⟨⟨hs.1,by omega⟩,fun _=>⟨⟨by omega,by omega⟩,fun _=>⟨hs.1,by omega⟩⟩⟩,fun aF=> ?_⟩
  rw[key.1,key.2] at aF
  simp at aF
 ·have a8:(nth (nc J v).O i).ao≠4:=by simpa using a8
  unfold Om
  refine⟨fun hb=> ?_,fun _=>next⟩
  rw[Bool.and_eq_true] at hb
  have aU:(nth (nc J v).O i).ao≠0:=by simpa using hb.1
  have aO:=hb.2
  rw[bi] at aO
  have aO:(nth (jQ (b7 J) (nc J v) (nth (gU J) v)).frame.O i).ao=0:=by simpa using aO
  obtain⟨df,g9,oz⟩:=X8 wO mC.1 i1 aU a8 aO
  rw[←bi] at g9
  have m8:0<(nth (b7 J).O i).af.length:=List.length_pos_iff.2 wY.1
  have hs:=wY.2.2 _ (dq (xs:=(nth (b7 J).O i).af) (i:=0) m8)
  have G1:0≤v∧v.toNat<(gU J).length:=⟨b9.1,BI⟩
  have M:(0:Int)≤0∧(0:Int).toNat<(nth (b7 J).O i).af.length:=⟨Int.le_refl _,m8⟩
  have U:0≤nth (nth (b7 J).O i).af 0∧(nth (nth (b7 J).O i).af 0).toNat<(nth (cF J) v).frame.av.length:=⟨hs.1,by omega⟩
  refine⟨⟨⟨G1,fun _=>⟨G1,fun _=>⟨zB,M,U⟩⟩,fun _=>⟨zB,M,U⟩⟩,fun aF=> ?_⟩,fun _=>⟨zB,fun hm=> ?_⟩⟩
  ·rw[g9] at aF
   rcases df with df | df
   ·rw[df] at aF;simp at aF
   ·rw[df] at aF;simp at aF
  ·unfold Ol
   refine⟨c6 (dd _),fun y LH=>⟨fun _=>next,fun hy=> ?_⟩⟩
   have Tj:=b8 LH hy
   have hx:=dq Tj.2
   have aK:=(cx.cu _ (dq (xs:=(b7 J).O) (i:=i) (by omega))).2 _ hx
   unfold Ok
   refine⟨⟨Tj,?_⟩,fun _=>cG (cq hm) LH hy rfl⟩
   unfold Oj
   refine⟨⟨G1,fun _ _=>⟨aK.1,by omega⟩⟩,fun aF=> ?_⟩
   simp only[Bool.and_eq_true] at aF
   have:=oz (by simpa using aF.1) aF.2.1 _ hx
   rw[this] at aF
   cases aF.2.2)
end Go.Proofs.Ytglpfccgmfhkdaa.Fw
set_option linter.unusedVariables false
namespace Go.Proofs.Ytglpfccgmfhkdaa.Fw
open Go
def qK (p:az) (f:Frame) (v:Nat) (s:Int):Bool:=(List.range v).any fun i=>fz p f i s
def sB (p:az) (f:Frame) (v:Int) (x:List Int):Prop:=(x.length:Int)=p.af∧ ∀s:Int,0≤s→s<p.af→nth x s=if qK p f v.toNat s=true then 1 else 0
def tO (p:az) (f:Frame) (i:Int) (x y:List Int) (k:Int):Prop:=y.length=x.length∧ ∀s:Int,0≤s→s<p.af→nth y s=nth x s+if(((nth p.O i).af.take k.toNat).drop (nth f.O i).ag.toNat).contains s=true then 1 else 0
theorem BO {p:az} {f:Frame} {i s:Int} (h:fz p f i s=true):(nth f.O i).ao≠0∧s∈(nth p.O i).af:=by
 unfold fz at h
 rw[Bool.and_eq_true] at h
 refine⟨by simpa using h.1,List.mem_of_mem_drop (i:=(nth f.O i).ag.toNat) (by simpa using h.2)⟩
theorem YI {p:az} {f:Frame} (hf:ev p f=true) {i k s:Int} (i0:0≤i) (i1:i<f.O.length) (a5:0≤k) (df:k<f.O.length) (cm:i≠k) (hi:fz p f i s=true) (hk:fz p f k s=true):False:=by
 have hb:=(sg hf).1.bW i k i0 i1 a5 df
 have hw:=(jG hf).fr.O
 have hm:=(vc (jG hf).l7).abI i k i0 (by omega) a5 (by omega) cm (by
  unfold meets
  rw[List.any_eq_true]
  exact⟨s,(BO hi).2,by simpa using(BO hk).2⟩)
 unfold iG at hb
 rw[hm] at hb
 have h1:=(BO hi).1
 have h2:=(BO hk).1
 simp[cm,h1,h2] at hb
theorem L0 (p:az) (f:Frame) (v:Nat) (s:Int):qK p f (v+1) s=(qK p f v s || fz p f v s):=by
 unfold qK;rw[List.range_succ,List.any_append];simp
theorem S0 {l:List Int} {k g:Nat} (hk:k<l.length) (s:Int):((l.take (k+1)).drop g).contains s=(((l.take k).drop g).contains s || (decide (g≤k)&&(l[k]==s))):=by
 rw[List.take_succ_eq_append_getElem hk,List.drop_append]
 have aL:(l.take k).length=k:=by simp;omega
 rw[aL]
 by_cases hg:g≤k
 ·rw[show g - k=0 by omega]
  rw[Bool.eq_iff_iff]
  simp only[hg,decide_true,Bool.true_and,List.contains_iff_mem,List.mem_append,List.drop_zero,List.mem_singleton,Bool.or_eq_true,beq_iff_eq]
  exact⟨fun h=>h.imp id Eq.symm,fun h=>h.imp id Eq.symm⟩
 ·have e:List.drop (g - k) [l[k]]=[]:=List.drop_eq_nil_of_le (by simp;omega)
  rw[e]
  simp[hg]
theorem agn {l:List Int} (aF:l.Nodup) {k g:Nat} (hk:k<l.length):((l.take k).drop g).contains l[k]=false:=by
 rw[←Bool.not_eq_true]
 intro h
 have hm:l[k]∈l.take k:=List.mem_of_mem_drop (i:=g) (by simpa using h)
 obtain⟨j,aM,e⟩:=List.mem_take_iff_getElem.1 hm
 exact List.pairwise_iff_getElem.1 aF j k (by omega) hk (by omega) e
theorem X9 (p:az) (f:Frame) (h:0≤p.af):sB p f 0 (List.replicate p.af.toNat 0):=by
 refine⟨by simp;omega,fun s ed s1=> ?_⟩
 rw[gq (by simp;omega)]
 simp[qK]
theorem X6 (p:az) (f:Frame) (i:Int) (x:List Int):tO p f i x x 0:=⟨rfl,fun s ed s1=>by simp⟩
section
variable {p:az} {f:Frame} {i k:Int} {x y:List Int}
theorem X5 (h:tO p f i x y k) (a5:0≤k) (df:k<(nth p.O i).af.length) (hg: ¬(nth f.O i).ag≤k):tO p f i x y (k+1):=by
 refine⟨h.1,fun s ed s1=> ?_⟩
 rw[h.2 s ed s1,show(k+1).toNat=k.toNat+1 by omega,S0 (by omega)]
 rw[show decide ((nth f.O i).ag.toNat≤k.toNat)=false by simp;omega]
 simp
theorem X7 (hf:ev p f=true) (i0:0≤i) (i1:i<f.O.length) (hx:sB p f i x) (h:tO p f i x y k) (a5:0≤k) (df:k<(nth p.O i).af.length) (hg:(nth f.O i).ag≤k):
  (0≤nth (nth p.O i).af k∧(nth (nth p.O i).af k).toNat<y.length)∧tO p f i x (y.set (nth (nth p.O i).af k).toNat (IntKind.i64.wrap (nth y (nth (nth p.O i).af k)+1))) (k+1):=by
 have hw:=(jG hf).fr.O
 have cx:=(jG hf).in
 have wY:nth p.O i∈p.O:=dq (by omega)
 have aK:=(cx.af _ wY).2.2 _ (dq (xs:=(nth p.O i).af) (i:=k) (by omega))
 have aF:(nth p.O i).af.Nodup:=(pY.1 (nY.1 ((vd (jG hf).l7).2.2.1 _ wY)).2.1).2.2
 have aL:=h.1
 have o2:=hx.1
 have lv:nth (nth p.O i).af k=(nth p.O i).af[k.toNat]'(by omega):=gq (by omega)
 have hv:=h.2 _ aK.1 aK.2
 have hv2:=hx.2 _ aK.1 aK.2
 have rY:(((nth p.O i).af.take k.toNat).drop (nth f.O i).ag.toNat).contains (nth (nth p.O i).af k)=false:=by rw[lv];exact agn aF _
 rw[rY] at hv
 have ag7:nth y (nth (nth p.O i).af k)=0∨nth y (nth (nth p.O i).af k)=1:=by
  rw[hv,hv2]
  split<;>simp
 refine⟨⟨aK.1,by omega⟩,by rw[List.length_set];exact aL,fun s ed s1=> ?_⟩
 rw[p2 aK.1 ed (by omega),show(k+1).toNat=k.toNat+1 by omega,S0 (by omega),show decide ((nth f.O i).ag.toNat≤k.toNat)=true by simp;omega,←lv]
 by_cases e:s=nth (nth p.O i).af k
 ·rw[if_pos e,e,rY,fu (by omega) (by omega),hv]
  simp
 ·rw[if_neg e,h.2 s ed s1]
  have:(nth (nth p.O i).af k==s)=false:=by simp;omega
  rw[this];simp
theorem X4 (hf:ev p f=true) (i0:0≤i) (i1:i<f.O.length) (hs:(nth f.O i).ao≠0) (hx:sB p f i x) (h:tO p f i x y (nth p.O i).af.length):sB p f (i+1) y:=by
 have aL:=h.1
 refine⟨by rw[aL];exact hx.1,fun s ed s1=> ?_⟩
 have bY:fz p f (i.toNat:Nat) s=(((nth p.O i).af.take ((nth p.O i).af.length:Int).toNat).drop (nth f.O i).ag.toNat).contains s:=by
  rw[Int.toNat_of_nonneg i0,Int.toNat_natCast,List.take_length]
  unfold fz
  simp[hs]
 rw[h.2 s ed s1,hx.2 s ed s1,show(i+1).toNat=i.toNat+1 by omega,L0,←bY]
 cases hb:fz p f (i.toNat:Nat) s with
 | false=>simp
 | true=>
  have:qK p f i.toNat s=false:=by
   rw[←Bool.not_eq_true]
   intro aj
   unfold qK at aj
   rw[List.any_eq_true] at aj
   obtain⟨j,aM,L2⟩:=aj
   have aM:=List.mem_range.1 aM
   exact YI hf (i:=(j:Nat)) (k:=(i.toNat:Nat)) (s:=s) (by omega) (by omega) (by omega) (by omega) (by omega) L2 hb
  rw[this];simp
theorem Yb (i0:0≤i) (hs:(nth f.O i).ao=0) (hx:sB p f i x):sB p f (i+1) x:=by
 refine⟨hx.1,fun s ed s1=> ?_⟩
 rw[hx.2 s ed s1,show(i+1).toNat=i.toNat+1 by omega,L0]
 have:fz p f (i.toNat:Nat) s=false:=by
  rw[Int.toNat_of_nonneg i0];unfold fz;simp[hs]
 rw[this,Bool.or_false]
theorem X_ (hf:ev p f=true) (hx:sB p f f.O.length x) {s:Int} (ed:0≤s) (s1:s<p.af):((decide (nth x s>1)) || ((decide (pr p f s ≥ 0)) !=(nth x s==1)))=false:=by
 have hw:=(jG hf).fr.O
 have e:=hx.2 s ed s1
 rw[Int.toNat_natCast] at e
 have b3:decide (pr p f s ≥ 0)=qK p f f.O.length s:=by
  unfold pr pX
  rw[hf]
  rw[if_pos (by simp;omega)]
  unfold sd qK
  rw[←hw]
  cases aj:first (List.range f.O.length) (fun i=>fz p f i s) with
  | none=>
   have:=qD aj
   rw[show(List.range f.O.length).any (fun i=>fz p f i s)=false by rw[List.any_eq_false];intro j aM;rw[this j aM];simp]
   rfl
  | some j=>
   unfold first at aj
   obtain⟨h1,h2,_⟩:=List.findIdx?_eq_some_iff_getElem.1 aj
   rw[show(List.range f.O.length).any (fun i=>fz p f i s)=true from List.any_eq_true.2 ⟨_,List.getElem_mem h1,h2⟩]
   simp[xj]
 rw[b3,e]
 cases qK p f f.O.length s<;>rfl
end
end Go.Proofs.Ytglpfccgmfhkdaa.Fw
set_option linter.unusedVariables false
set_option maxRecDepth 100000
set_option maxHeartbeats 4000000
set_option linter.unusedSimpArgs false
namespace Go.Proofs.Ytglpfccgmfhkdaa.Fw
open Go
attribute [local irreducible] evS evSD WpS Weak Oper.looksAt
abbrev iR (r:Type):Type:=Int→(List Int)→Int→Int→r
def N3 (bo:iR Prop) (bn:iR Nat) (J:(List UInt8)) (al:Bool) (a3:(List Int)) (cg lk bP:Int):Prop:=
  (((0≤lk∧lk.toNat<a3.length)∧(lk.toNat<a3.length))∧(((decide ((nth a3 lk)>1))=false→EQ (b7 J) (nth (cF J) bP).frame lk)∧(((decide ((nth a3 lk)>1)) || ((decide ((pr (b7 J) (nth (cF J) bP).frame lk) ≥ 0)) !=((nth a3 lk)==1)))=true→false=al)))∧((!((decide ((nth a3 lk)>1)) || ((decide ((pr (b7 J) (nth (cF J) bP).frame lk) ≥ 0)) !=((nth a3 lk)==1))))=true→bo bP a3 cg (IntKind.i64.wrap (lk+1))∧bn bP a3 cg (IntKind.i64.wrap (lk+1))<bn bP a3 cg lk)
abbrev mS (r:Type):Type:=Int→(List Int)→Int→Int→(List Int)→Int→r
def N4 (cJ:mS Prop) (cL:mS Nat) (J:(List UInt8)) (gM:Int) (a3:(List Int)) (iC cg:Int) (ln:(List Int)) (bP:Int):Prop:=
  ((decide (iC ≥ (nth (nth (cF J) bP).frame.O cg).ag))=true→(0≤(nth (nth (b7 J).O cg).af iC)∧(nth (nth (b7 J).O cg).af iC).toNat<ln.length)∧(((nth (nth (b7 J).O cg).af iC).toNat<ln.length)∧((0≤(nth (nth (b7 J).O cg).af iC)∧(nth (nth (b7 J).O cg).af iC).toNat<ln.length)∧(((nth (nth (b7 J).O cg).af iC).toNat<ln.length)∧(cJ bP a3 cg gM (ln.set (nth (nth (b7 J).O cg).af iC).toNat (IntKind.i64.wrap ((nth ln (nth (nth (b7 J).O cg).af iC))+1))) (IntKind.i64.wrap (iC+1))∧cL bP a3 cg gM (ln.set (nth (nth (b7 J).O cg).af iC).toNat (IntKind.i64.wrap ((nth ln (nth (nth (b7 J).O cg).af iC))+1))) (IntKind.i64.wrap (iC+1))<cL bP a3 cg gM ln iC)))))∧((decide (iC ≥ (nth (nth (cF J) bP).frame.O cg).ag))=false→cJ bP a3 cg gM ln (IntKind.i64.wrap (iC+1))∧cL bP a3 cg gM ln (IntKind.i64.wrap (iC+1))<cL bP a3 cg gM ln iC)
abbrev nX (r:Type):Type:=Int→(List Int)→Int→r
def N5 (aQ:nX Prop) (aR:nX Nat) (cJ:mS Prop) (cL:mS Nat) (J:(List UInt8)) (gM:Int) (a3:(List Int)) (iC cg:Int) (ln:(List Int)) (bP:Int):Prop:=
  ((decide (iC<((nth (b7 J).O cg).af.length:Int)))=false→aQ bP ln (IntKind.i64.wrap (cg+1))∧aR bP ln (IntKind.i64.wrap (cg+1))<aR bP a3 cg)∧((decide (iC<((nth (b7 J).O cg).af.length:Int)))=true→(0≤iC∧iC.toNat<(nth (b7 J).O cg).af.length)∧(N4 cJ cL J gM a3 iC cg ln bP))
def N6 (J:(List UInt8)) (al:Bool) (gM cg bP:Int):Prop:=
  ((cg !=gM)=true→(0≤cg∧cg.toNat<(b7 J).bW.length)∧(0≤gM∧gM.toNat<(nth (b7 J).bW cg).length))∧(((cg !=gM)&&((nth (nth (b7 J).bW cg) gM)&&(((nth (nth (cF J) bP).frame.O cg).ao !=0)&&((nth (nth (cF J) bP).frame.O gM).ao !=0))))=true→false=al)
def N7 (bU:iR Prop) (bV:iR Nat) (J:(List UInt8)) (al:Bool) (gM:Int) (a3:(List Int)) (cg bP:Int):Prop:=
  ((0≤gM∧gM.toNat<(nth (cF J) bP).frame.O.length)∧(N6 J al gM cg bP))∧((!((cg !=gM)&&((nth (nth (b7 J).bW cg) gM)&&(((nth (nth (cF J) bP).frame.O cg).ao !=0)&&((nth (nth (cF J) bP).frame.O gM).ao !=0)))))=true→bU bP a3 cg (IntKind.i64.wrap (gM+1))∧bV bP a3 cg (IntKind.i64.wrap (gM+1))<bV bP a3 cg gM)
def N8 (aQ:nX Prop) (aR:nX Nat) (bU:iR Prop) (bV:iR Nat) (cJ:mS Prop) (cL:mS Nat) (J:(List UInt8)) (al:Bool) (gM:Int) (a3:(List Int)) (cg bP:Int):Prop:=
  ((decide (gM<((nth (cF J) bP).frame.O.length:Int)))=false→(((nth (nth (cF J) bP).frame.O cg).ao==0)=true→aQ bP a3 (IntKind.i64.wrap (cg+1))∧aR bP a3 (IntKind.i64.wrap (cg+1))<aR bP a3 cg)∧((!((nth (nth (cF J) bP).frame.O cg).ao==0))=true→(0≤cg∧cg.toNat<(b7 J).O.length)∧((nth (b7 J).O cg).af.length≤4611686018427387904→cJ bP a3 cg gM a3 0∧ ∀(ln:(List Int)) (iC:Int),cJ bP a3 cg gM ln iC→(N5 aQ aR cJ cL J gM a3 iC cg ln bP))))∧((decide (gM<((nth (cF J) bP).frame.O.length:Int)))=true→N7 bU bV J al gM a3 cg bP)
def N9 (ay:Int→Prop) (aB:Int→Nat) (aQ:nX Prop) (aR:nX Nat) (bo:iR Prop) (bn:iR Nat) (bU:iR Prop) (bV:iR Nat) (cJ:mS Prop) (cL:mS Nat) (J:(List UInt8)) (al:Bool) (a3:(List Int)) (cg bP:Int):Prop:=
  ((decide (cg<((nth (cF J) bP).frame.O.length:Int)))=false→bo bP a3 cg 0∧ ∀(lk:Int),bo bP a3 cg lk→(((decide (lk<(a3.length:Int)))=false→ay (IntKind.i64.wrap (bP+1))∧aB (IntKind.i64.wrap (bP+1))<aB bP)∧((decide (lk<(a3.length:Int)))=true→N3 bo bn J al a3 cg lk bP)))∧((decide (cg<((nth (cF J) bP).frame.O.length:Int)))=true→(0≤cg∧cg.toNat<(nth (cF J) bP).frame.O.length)∧(bU bP a3 cg 0∧ ∀(gM:Int),bU bP a3 cg gM→(N8 aQ aR bU bV cJ cL J al gM a3 cg bP)))
def N_ (ay:Int→Prop) (aB:Int→Nat) (aQ:nX Prop) (aR:nX Nat) (bo:iR Prop) (bn:iR Nat) (bU:iR Prop) (bV:iR Nat) (cJ:mS Prop) (cL:mS Nat) (J:(List UInt8)) (al:Bool) (bP:Int):Prop:=
  (((nth (cF J) bP).frame.O.length≤4611686018427387904)∧((b7 J).O.length≤4611686018427387904)→(((nth (cF J) bP).frame.O.length:Int) !=((b7 J).O.length:Int))=true→false=al)∧(((nth (cF J) bP).frame.O.length≤4611686018427387904)∧((b7 J).O.length≤4611686018427387904)∧((!(((nth (cF J) bP).frame.O.length:Int) !=((b7 J).O.length:Int)))=true)→(0≤(b7 J).af∧8*(b7 J).af≤140737488355328∧(b7 J).af≤4611686018427387904)∧(aQ bP (List.replicate (b7 J).af.toNat (0:Int)) 0∧ ∀(a3:(List Int)) (cg:Int),aQ bP a3 cg→(N9 ay aB aQ aR bo bn bU bV cJ cL J al a3 cg bP)))
def Oa (ay:Int→Prop) (aB:Int→Nat) (aQ:nX Prop) (aR:nX Nat) (bo:iR Prop) (bn:iR Nat) (bU:iR Prop) (bV:iR Nat) (cJ:mS Prop) (cL:mS Nat) (J:(List UInt8)) (al:Bool):Prop:=
  (((cF J).length≤4611686018427387904)∧((gU J).length≤4611686018427387904)→(((cF J).length:Int) !=((gU J).length:Int))=true→false=al)∧(((cF J).length≤4611686018427387904)∧((gU J).length≤4611686018427387904)∧((!(((cF J).length:Int) !=((gU J).length:Int)))=true)→ay 0∧ ∀(bP:Int),ay bP→(((decide (bP<((cF J).length:Int)))=false→true=al)∧((decide (bP<((cF J).length:Int)))=true→(0≤bP∧bP.toNat<(cF J).length)∧(N_ ay aB aQ aR bo bn bU bV cJ cL J al bP))))
def N2 (J:(List UInt8)) (al:Bool) (ay:Int→Prop) (aB:Int→Nat) (aQ:nX Prop) (aR:nX Nat) (bo:iR Prop) (bn:iR Nat) (bU:iR Prop) (bV:iR Nat) (cJ:mS Prop) (cL:mS Nat):Prop:=
 (J.length≤4611686018427387904→(decide ((J.length:Int)>1048576))=true→true=al)∧((J.length≤4611686018427387904)∧((!(decide ((J.length:Int)>1048576)))=true)→Oa ay aB aQ aR bo bn bU bV cJ cL J al)
theorem aa8 (J:(List UInt8)):b2 Try.prog 16 [bK n_ J] (an (x4 J)):=(fun(ay:Int→Prop) (aB:Int→Nat) (aQ:nX Prop) (aR:nX Nat) (bo:iR Prop) (bn:iR Nat) (bU:iR Prop) (bV:iR Nat) (cJ:mS Prop) (cL:mS Nat) (h:N2 J (x4 J) ay aB aQ aR bo bn bU bV cJ cL)=>b2.run (ps:=[(.l .u8)]) (rs:=[.bool]) (x:=(J,())) (r:=((x4 J),())) ⟨141,eh,[QT,MT,ZE]⟩ ⟨[34,53,62],[],[],[],[]⟩ (eP [3,33,34] [(3,5)] 35 ay aB fun aN=>(.lp [] [3,7,33,34,35,52,53] [(7,5),(3,5)] [(.l .int),.int] [bC 0,54] (fun bx=>[(8,.ref 0 0 bx.1.length false),(54,.i .i64 bx.2.1),(bC 0,.blk 0 .int bx.1 _ rfl)]) (fun bx=>aQ aN bx.1 bx.2.1) (fun bx=>aR aN bx.1 bx.2.1) fun bx=>(.px (eP [3,7,33,34,35,119,120] [(7,5),(3,5)] 121 (bo aN bx.1 bx.2.1) (bn aN bx.1 bx.2.1) fun _=> .nil) (eP [3,7,8,9,10,33,34,35,52,53,54,61,62] [(10,5),(7,5),(3,5)] 63 (bU aN bx.1 bx.2.1) (bV aN bx.1 bx.2.1) fun eB=>(.lp [] [3,7,10,33,34,35,52,53,54,100,101] [(10,5),(7,5),(3,5)] [(.l .int),.int] [bC 0,102] (fun ht=>[(8,.ref 0 0 ht.1.length false),(102,.i .i64 ht.2.1),(bC 0,.blk 0 .int ht.1 _ rfl)]) (fun ht=>cJ aN bx.1 bx.2.1 eB ht.1 ht.2.1) (fun ht=>cL aN bx.1 bx.2.1 eB ht.1 ht.2.1) fun _=> .nil))))) Try.func16 h) (cl (cF J).length (fun _=>false)) (cy (cF J).length) (fun v x i=>cl (nth (cF J) v).frame.O.length (fun _=>false) i∧sB (b7 J) (nth (cF J) v).frame i x) (fun v _=>cy (nth (cF J) v).frame.O.length) (fun _ x _=>cl x.length (fun _=>false)) (fun _ x _=>cy x.length) (fun v _ _=>cl (nth (cF J) v).frame.O.length (fun _=>false)) (fun v _ _=>cy (nth (cF J) v).frame.O.length) (fun v x i _ y k=>cl (nth (b7 J).O i).af.length (fun _=>false) k∧tO (b7 J) (nth (cF J) v).frame i x y k) (fun _ _ i _ _=>cy (nth (b7 J).O i).af.length) (by
 have hlen:=PP J
 unfold N2
 refine⟨fun _ _=>rfl,fun _=> ?_⟩
 unfold Oa
 refine⟨fun _ h=>by rw[hlen] at h;simp at h,fun⟨h1,h2,_⟩=>⟨c6 (dd _),fun v aX=>⟨fun _=>rfl,fun hv=>⟨b8 aX hv,?_⟩⟩⟩⟩
 have b9:=b8 aX hv
 have e1:=PR (code:=J) b9.1 (by omega)
 have mw:=Bm e1
 have cx:=(jG e1).in
 have dW:=vc (jG e1).l7
 have hs:=cx.c0
 unfold N_
 refine⟨fun _ h=>by rw[mw.2.2] at h;simp at h,fun⟨bx,ch,_⟩=>⟨⟨by omega,by omega,by omega⟩,⟨c6 (dd _),X9 _ _ hs.1⟩,fun x i ⟨cZ,cj⟩=> ?_⟩⟩
 unfold N9
 refine⟨fun hi=>⟨c6 (dd _),fun s lB=>⟨fun _=>cG (cq h1) aX hv rfl,fun aL=> ?_⟩⟩,fun hi=>⟨b8 cZ hi,c6 (dd _),fun k hK=> ?_⟩⟩
 ·have hi: ¬i<((nth (cF J) v).frame.O.length:Int):=by simpa using hi
  have wb:i=((nth (cF J) v).frame.O.length:Int):=by have:=cZ.2.1;omega
  rw[wb] at cj
  have sin:=b8 lB aL
  have o2:=cj.1
  have aj:=X_ e1 cj sin.1 (by omega)
  unfold N3
  refine⟨⟨⟨sin,sin.2⟩,fun _=>Hn e1,fun aF=> ?_⟩,fun _=>cG (by omega) lB aL rfl⟩
  rw[aj] at aF;cases aF
 have mC:=b8 cZ hi
 unfold N8
 refine⟨fun _=>⟨fun aO=> ?_,fun aO=>⟨⟨mC.1,by omega⟩,fun hm=>⟨⟨c6 (dd _),X6 _ _ _ _⟩,fun y g9 ⟨ug,Bs⟩=> ?_⟩⟩⟩,fun hk=> ?_⟩
 ·have aO:(nth (nth (cF J) v).frame.O i).ao=0:=by simpa using aO
  have up:=cG (cq bx) cZ hi rfl
  have k1:=iE (cq bx) mC.1 (by simpa using hi)
  rw[k1] at up ⊢
  exact⟨⟨up.1,Yb mC.1 aO cj⟩,up.2⟩
 ·have aO:(nth (nth (cF J) v).frame.O i).ao≠0:=by simpa using aO
  unfold N5
  refine⟨fun he=> ?_,fun aL=>⟨b8 ug aL,?_⟩⟩
  ·have he: ¬g9<((nth (b7 J).O i).af.length:Int):=by simpa using he
   have lv:g9=((nth (b7 J).O i).af.length:Int):=by have:=ug.2.1;omega
   rw[lv] at Bs
   have up:=cG (cq bx) cZ hi rfl
   have k1:=iE (cq bx) mC.1 (by simpa using hi)
   rw[k1] at up ⊢
   exact⟨⟨up.1,X4 e1 mC.1 (by omega) aO cj Bs⟩,up.2⟩
  ·have uQ:=b8 ug aL
   have up:=cG (cq hm) ug aL rfl
   have k1:=iE (cq hm) uQ.1 (by simpa using aL)
   unfold N4
   rw[k1] at up ⊢
   refine⟨fun hg=> ?_,fun hg=>⟨⟨up.1,X5 Bs uQ.1 (by omega) (by simpa using hg)⟩,up.2⟩⟩
   have hy:=X7 e1 mC.1 (by omega) cj Bs uQ.1 (by omega) (by simpa using hg)
   exact⟨hy.1,hy.1.2,hy.1,hy.1.2,⟨up.1,hy.2⟩,up.2⟩
 ·have uQ:=b8 hK hk
  have bY:=(sg e1).1.bW i k mC.1 (by omega) uQ.1 (by omega)
  unfold N7
  refine⟨⟨uQ,?_⟩,fun _=>cG (cq bx) hK hk rfl⟩
  unfold N6
  have hn:=dW.len
  have eX:=dW.row i mC.1 (by omega)
  refine⟨fun _=>⟨⟨mC.1,by omega⟩,uQ.1,by omega⟩,fun aF=> ?_⟩
  have e:iG (b7 J) (nth (cF J) v).frame i k=true:=aF
  rw[bY] at e;cases e)
end Go.Proofs.Ytglpfccgmfhkdaa.Fw
