/- Walks and summaries of functions, printed by a program of mine (tools/mk2.py), with the proofs of what they owe. -/
import Derived.Test.YtglpfccgmfhkdaaM7
set_option linter.unusedVariables false
set_option maxRecDepth 100000
set_option maxHeartbeats 4000000
set_option linter.unusedSimpArgs false
namespace Go.Proofs.Ytglpfccgmfhkdaa.Fw
open Go
attribute [local irreducible] evS evSD WpS Weak Oper.looksAt
noncomputable def HE:Code:=iw Try.f32
def ab8:List Item:=[aq 0,aq 1,aq 2,aq 3,aq 4,⟨5,true,false,[0,1]⟩,aq 6,⟨7,true,false,[0,1]⟩,⟨8,true,false,[]⟩,aq 9,⟨10,true,false,[]⟩]
def ab9:List (List Nat):=[[],[0],[],[2],[2,3],[2,3,4],rg 2 6,rg 2 7,rg 0 8,rg 0 9,rg 0 10]
def Hz (aS:iE Prop) (aU:iE Nat) (J:aA) (aQ:Nat) (aG:(List bc)) (eD:Int) (aY:List (List Bool)) (a1 bS:Nat) (aO:List Nat) (bO:Int) (ws2:List ae):Prop:=
  aS aQ aG eD (aY++[(List.replicate ((nth J.O bO).ah.length:Int).toNat false)]) (a1+1) (bS+1) (aO++[aY.length]) (IntKind.i64.wrap (bO+1)) (ws2++[(ae.mk 0 0 (List.replicate ((nth J.O bO).ah.length:Int).toNat false) false 0)])∧aU aQ aG eD (aY++[(List.replicate ((nth J.O bO).ah.length:Int).toNat false)]) (a1+1) (bS+1) (aO++[aY.length]) (IntKind.i64.wrap (bO+1)) (ws2++[(ae.mk 0 0 (List.replicate ((nth J.O bO).ah.length:Int).toNat false) false 0)])<aU aQ aG eD aY a1 bS aO bO ws2
def HA (aS:iE Prop) (aU:iE Nat) (J:aA) (aQ:Nat) (aG:(List bc)) (eD:Int) (aY:List (List Bool)) (a1 bS:Nat) (aO:List Nat) (bO:Int) (ws2:List ae):Prop:=
  ((0≤bO∧bO.toNat<J.O.length)∧((0≤((nth J.O bO).ah.length:Int)∧1*((nth J.O bO).ah.length:Int)≤140737488355328∧((nth J.O bO).ah.length:Int)≤4611686018427387904)∧(ws2.length=aO.length∧((ws2.length+1)*56≤140737488355328∧ws2.length+1≤4611686018427387904))))∧(Hz aS aU J aQ aG eD aY a1 bS aO bO ws2)
def HB (aS:iE Prop) (aU:iE Nat) (J:aA) (an:Frame) (aQ:Nat) (aG:(List bc)) (eD:Int) (aY:List (List Bool)) (a1 bS:Nat) (aO:List Nat) (bO:Int) (ws2:List ae):Prop:=
  ((decide (bO<(J.O.length:Int)))=false→(true=an.ok)∧((List.replicate J.ah.toNat false).length≤4611686018427387904∧(List.replicate J.ah.toNat false)=an.aw)∧(aG.length≤4611686018427387904∧aG=an.au)∧(j7 ws2 aO aY∧ws2.length≤4611686018427387904∧(∀x∈aY,List.length x≤4611686018427387904)∧view ws2 aO aY=an.O))∧((decide (bO<(J.O.length:Int)))=true→HA aS aU J aQ aG eD aY a1 bS aO bO ws2)
def HC (ay:mv Prop) (aB:mv Nat) (aS:iE Prop) (aU:iE Nat) (J:aA) (an:Frame) (aQ:Nat) (aG:(List bc)) (eD:Int):Prop:=
  ((decide (eD<(J.bd.length:Int)))=false→J.O.length≤4611686018427387904→aS aQ aG eD ([]:List (List Bool)) 0 0 ([]:List Nat) 0 ([]:List ae)∧ ∀(aY:List (List Bool)) (a1:Nat) (bS:Nat) (aO:List Nat) (bO:Int) (ws2:List ae),aS aQ aG eD aY a1 bS aO bO ws2→(HB aS aU J an aQ aG eD aY a1 bS aO bO ws2))∧((decide (eD<(J.bd.length:Int)))=true→((aG.length+[(bc.mk 1 1)].length)*16≤140737488355328∧aG.length+[(bc.mk 1 1)].length≤4611686018427387904)∧(ay (aQ+1) (aG++[(bc.mk 1 1)]) (IntKind.i64.wrap (eD+1))∧aB (aQ+1) (aG++[(bc.mk 1 1)]) (IntKind.i64.wrap (eD+1))<aB aQ aG eD))
def HD (ay:mv Prop) (aB:mv Nat) (aS:iE Prop) (aU:iE Nat) (J:aA) (an:Frame):Prop:=
  ((!(dQ J))=true→(false=an.ok)∧([]=an.aw)∧([]=an.au)∧([]=an.O))∧((!(!(dQ J)))=true→(0≤J.ah∧1*J.ah≤140737488355328∧J.ah≤4611686018427387904)∧(J.bd.length≤4611686018427387904→ay 0 ([]:List bc) 0∧ ∀(aQ:Nat) (aG:(List bc)) (eD:Int),ay aQ aG eD→(HC ay aB aS aU J an aQ aG eD)))
def Hy (J:aA) (an:Frame) (ay:mv Prop) (aB:mv Nat) (aS:iE Prop) (aU:iE Nat):Prop:=
 HD ay aB aS aU J an
theorem ab_ (J:aA) (an:Frame) (ay:mv Prop) (aB:mv Nat) (aS:iE Prop) (aU:iE Nat) (h:Hy J an ay aB aS aU):bZ Try.prog 32 [.agg (bg false J)] (.agg (bW true an)):=by
 unfold Hy at h
 refine dz.go (fn:=Try.f32) [(0,.agg (bg false J))] Try.func32 (fun _ _=> ?_)
 show WpS _ (bT HE 1) _ ⟨bh 45 [(0,.agg (bg false J))],[],[]⟩
 refine p6 [1000003] 0 [(2,az 2 0),(1,az 1 0)] [2] [] [(2,[al false,aF,aF,aF]),(1,(bg false J))] [] ?_
 unfold HD at h
 obtain⟨k3,h⟩:=h
 refine cu [] [2] ((!(!(dQ J)))=true) ?_ (fun q2=> ?_)
 ·
  replace h:=k3
  refine cu [(8,al (!(dQ J)))] [2] (True) ?_ (fun q3=> ?_)
  ·
   refine bL [1000003] 1 ?_
   refine l3 2 (some 7) [(6,.agg (bg false J))] [.agg (bg false J)] (P7 J) (aD.cons (c3.agg (aD.cons (.int _ _) (aD.cons cz (aD.cons cz (aD.cons cz (aD.cons (.int _ _) aD.nil)))))) aD.nil) ?_
   exact b1 [(8,al (!(dQ J)))] trivial
  refine dA (fun q4=> ?_) (fun q4=> ?_)
  ·
   replace h:=h q4
   refine dX [1000003] 2 [(9,.agg [al false,aF,aF,aF])] [] [0,1,1] ?_
   exact hj (b_.ret (m1 (.agg [al false,aF,aF,aF]) (h_.agg (aD.cons (m3 h.1) (aD.cons (qU h.2.1) (aD.cons (qU h.2.2.1) (aD.cons (qU h.2.2.2) aD.nil)))))))
  ·
   refine eb ?_
   exact b_.normal (by simp only[q4]<;>rfl) dT
 replace h:=h q2
 obtain⟨k2,h⟩:=h
 refine eX [(3,az 3 0)] [2] (fun L=>(3,[al true,aj 0 0 (List.replicate J.ah.toNat false).length,aF,aF])::L) (fun _=>[⟨0,1,List.map aX (List.replicate J.ah.toNat false)⟩]) (True) ?_ (fun cV=> ?_)
 ·
  replace h:=k2
  refine bL [1000003] 3 ?_
  have fE:=h
  refine Hj 3 (some 12) [(11,ag J.ah),(10,az 1 0)] aX 1 [al false] 0 (fun r=>[⟨0,1,r⟩]) false fE ?_
  exact b1 [(3,az 3 0),(13,.agg [al true,aj 0 0 (List.replicate J.ah.toNat false).length,aF,aF])] trivial
 refine hB ?_
 refine cu [(16,ag (J.bd.length:Int)),(17,ag 0)] [3] (J.bd.length≤4611686018427387904) ?_ (fun ft=> ?_)
 ·
  refine bL [1000003] 4 ?_
  refine sLen 3 (some 16) [(15,bK c0 J.bd),(14,az 1 1)] c0 J.bd (fun iA=> ?_)
  exact b1 [(17,ag 0)] iA
 replace h:=h ft
 refine fc 0 ?_
 refine WpS.l8 ?_ (hd (s'':=⟨(bh 45 [(16,ag (J.bd.length:Int)),(17,ag 0),(3,az 3 0),(2,az 2 0),(1,az 1 0)]),[(3,[al true,aj 0 0 (List.replicate J.ah.toNat false).length,aj 1 0 ([]:List bc).length,aF]),(2,[al false,aF,aF,aF]),(1,(bg false J))],[⟨0,1,List.map aX (List.replicate J.ah.toNat false)⟩,⟨0,2,List.map a5 ([]:List bc)⟩]⟩) (Weak.tu (T:=(bh 45 [(16,ag (J.bd.length:Int)),(17,ag 0),(3,az 3 0),(2,az 2 0),(1,az 1 0)])) (L:=[(3,[al true,aj 0 0 (List.replicate J.ah.toNat false).length,aF,aF]),(2,[al false,aF,aF,aF]),(1,(bg false J))]) (H:=[⟨0,1,List.map aX (List.replicate J.ah.toNat false)⟩]) (cells:=[al true,aj 0 0 (List.replicate J.ah.toNat false).length,aF,aF]) 3 2 2 (by kernel_rfl) (by kernel_rfl)) (by kernel_rfl))
 obtain⟨jn,h⟩:=h
 refine j8 (fun(v:Nat×(List bc)×Int)=>(⟨(bh 45 [(1,az 1 0),(2,az 2 0),(3,az 3 0),(16,ag (J.bd.length:Int)),(17,ag (v.2.2))]),[(3,[al true,aj 0 0 (List.replicate J.ah.toNat false).length,aj 1 (v.1) (v.2.1).length,aF]),(2,[al false,aF,aF,aF]),(1,(bg false J))],[⟨0,1,List.map aX (List.replicate J.ah.toNat false)⟩,⟨(v.1),2,List.map a5 (v.2.1)⟩]⟩:St)) (fun(v:Nat×(List bc)×Int)=>ay (v.1) (v.2.1) (v.2.2)) (fun(v:Nat×(List bc)×Int)=>aB (v.1) (v.2.1) (v.2.2)) (0,([]:List bc),0) (dt []) jn (fun v aZ=> ?_)
 obtain⟨aQ,aG,eD⟩:=v
 replace h:=h aQ aG eD aZ
 dsimp only
 refine dX [1000003] 5 [(18,al (decide (eD<(J.bd.length:Int))))] [1] [5] ?_
 unfold HC at h
 obtain⟨k1,h⟩:=h
 refine cu [] [0,1,5] ((decide (eD<(J.bd.length:Int)))=true) ?_ (fun ik=> ?_)
 ·
  replace h:=k1
  refine dA (fun hX=> ?_) (fun hX=> ?_)
  ·
   refine eb ?_
   exact b_.normal (by simp only[q2,hX]<;>rfl) dT
  ·
   replace h:=h hX
   refine iL 0 ?_
   refine b_.exit ?_
   refine dO.exit ?_
   refine ch.here ?_
   refine dR.normal ?_
   refine hB ?_
   refine jO ⟨(bh 45 [(2,az 2 0),(3,az 3 0),(27,bK (dk false) J.O),(28,ag (J.O.length:Int)),(29,ag 0)]),[(3,[al true,aj 0 0 (List.replicate J.ah.toNat false).length,aj 1 aQ aG.length,aF]),(2,[al false,aF,aF,aF]),(1,(bg false J))],[⟨0,1,List.map aX (List.replicate J.ah.toNat false)⟩,⟨aQ,2,List.map a5 aG⟩]⟩ (J.O.length≤4611686018427387904) ?_ (fun fy=> ?_)
   ·
    refine bL [1000003] 8 ?_
    refine sLen 3 (some 28) [(27,bK (dk false) J.O),(26,az 1 2)] (dk false) J.O (fun qG=> ?_)
    exact b1 [(29,ag 0)] qG
   replace h:=h fy
   refine fc 2 ?_
   refine WpS.l8 ?_ (hd (s'':=⟨(bh 45 [(2,az 2 0),(3,az 3 0),(27,bK (dk false) J.O),(28,ag (J.O.length:Int)),(29,ag 0)]),[(3,[al true,aj 0 0 (List.replicate J.ah.toNat false).length,aj 1 aQ aG.length,aj 2 0 ([]:List ae).length]),(2,[al false,aF,aF,aF]),(1,(bg false J))],[⟨0,1,List.map aX (List.replicate J.ah.toNat false)⟩,⟨aQ,2,List.map a5 aG⟩,⟨0,5,a0 4 ([]:List ae) ([]:List Nat)⟩]⟩) (Weak.tu (T:=(bh 45 [(2,az 2 0),(3,az 3 0),(27,bK (dk false) J.O),(28,ag (J.O.length:Int)),(29,ag 0)])) (L:=[(3,[al true,aj 0 0 (List.replicate J.ah.toNat false).length,aj 1 aQ aG.length,aF]),(2,[al false,aF,aF,aF]),(1,(bg false J))]) (H:=[⟨0,1,List.map aX (List.replicate J.ah.toNat false)⟩,⟨aQ,2,List.map a5 aG⟩]) (cells:=[al true,aj 0 0 (List.replicate J.ah.toNat false).length,aj 1 aQ aG.length,aF]) 3 3 5 (by kernel_rfl) (by kernel_rfl)) (by kernel_rfl))
   refine WpS.l8 ?_ (hd (s'':=⟨(bh 45 [(2,az 2 0),(3,az 3 0),(27,bK (dk false) J.O),(28,ag (J.O.length:Int)),(29,ag 0)]),[(3,[al true,aj 0 0 (List.replicate J.ah.toNat false).length,aj 1 aQ aG.length,aj 2 0 ([]:List ae).length]),(2,[al false,aF,aF,aF]),(1,(bg false J))],(⟨0,1,List.map aX (List.replicate J.ah.toNat false)⟩::⟨aQ,2,List.map a5 aG⟩::⟨0,5,a0 4 ([]:List ae) ([]:List Nat)⟩::⟨0,5,[]⟩::List.map bk ([]:List (List Bool)))⟩) (Weak.wI (T:=(bh 45 [(2,az 2 0),(3,az 3 0),(27,bK (dk false) J.O),(28,ag (J.O.length:Int)),(29,ag 0)])) (L:=[(3,[al true,aj 0 0 (List.replicate J.ah.toNat false).length,aj 1 aQ aG.length,aj 2 0 ([]:List ae).length]),(2,[al false,aF,aF,aF]),(1,(bg false J))]) (H:=[⟨0,1,List.map aX (List.replicate J.ah.toNat false)⟩,⟨aQ,2,List.map a5 aG⟩,⟨0,5,a0 4 ([]:List ae) ([]:List Nat)⟩]) 5) (by kernel_rfl))
   obtain⟨mi,h⟩:=h
   refine j8 (fun(v:List (List Bool)×Nat×Nat×List Nat×Int×List ae)=>(⟨(bh 45 [(2,az 2 0),(3,az 3 0),(27,bK (dk false) J.O),(28,ag (J.O.length:Int)),(29,ag (v.2.2.2.2.1))]),[(3,[al true,aj 0 0 (List.replicate J.ah.toNat false).length,aj 1 aQ aG.length,aj 2 (v.2.1) (v.2.2.2.2.2).length]),(2,[al false,aF,aF,aF])],(⟨0,1,List.map aX (List.replicate J.ah.toNat false)⟩::⟨aQ,2,List.map a5 aG⟩::⟨(v.2.1),5,a0 4 (v.2.2.2.2.2) (v.2.2.2.1)⟩::⟨(v.2.2.1),5,[]⟩::List.map bk (v.1))⟩:St)) (fun(v:List (List Bool)×Nat×Nat×List Nat×Int×List ae)=>aS aQ aG eD (v.1) (v.2.1) (v.2.2.1) (v.2.2.2.1) (v.2.2.2.2.1) (v.2.2.2.2.2)) (fun(v:List (List Bool)×Nat×Nat×List Nat×Int×List ae)=>aU aQ aG eD (v.1) (v.2.1) (v.2.2.1) (v.2.2.2.1) (v.2.2.2.2.1) (v.2.2.2.2.2)) (([]:List (List Bool)),0,0,([]:List Nat),0,([]:List ae)) (dt [1]) mi (fun v aZ=> ?_)
   obtain⟨aY,a1,bS,aO,bO,ws2⟩:=v
   replace h:=h aY a1 bS aO bO ws2 aZ
   dsimp only
   refine dX [1000003] 9 [(30,al (decide (bO<(J.O.length:Int))))] [1] [5] ?_
   unfold HB at h
   obtain⟨kn,h⟩:=h
   refine cu [] [0,1,5] ((decide (bO<(J.O.length:Int)))=true) ?_ (fun jZ=> ?_)
   ·
    replace h:=kn
    refine dA (fun hH=> ?_) (fun hH=> ?_)
    ·
     refine eb ?_
     exact b_.normal (by simp only[q2,hX,hH]<;>rfl) dT
    ·
     replace h:=h hH
     refine iL 2 ?_
     refine b_.exit ?_
     refine dO.exit ?_
     refine ch.here ?_
     refine dR.normal ?_
     refine jO ⟨(bh 45 [(2,az 2 0)]),[(3,[al true,aj 0 0 (List.replicate J.ah.toNat false).length,aj 1 aQ aG.length,aj 2 a1 ws2.length]),(2,[al true,aj 0 0 (List.replicate J.ah.toNat false).length,aj 1 aQ aG.length,aj 2 a1 ws2.length])],(⟨0,1,List.map aX (List.replicate J.ah.toNat false)⟩::⟨aQ,2,List.map a5 aG⟩::⟨a1,5,a0 4 ws2 aO⟩::⟨bS,5,[]⟩::List.map bk aY)⟩ (True) ?_ (fun lY=> ?_)
     ·
      refine bL [1000003] 13 ?_
      exact b1 [(44,.agg [al true,aj 0 0 (List.replicate J.ah.toNat false).length,aj 1 aQ aG.length,aj 2 a1 ws2.length])] trivial
     exact hj (m1 (.agg [al true,aj 0 0 (List.replicate J.ah.toNat false).length,aj 1 aQ aG.length,aj 2 a1 ws2.length]) (h_.agg (aD.cons (m3 h.1) (aD.cons (qT (sz:=1) (by simp) rfl (vz) h.2.1) (aD.cons (qT (sz:=2) (by simp) rfl (xU) h.2.2.1) (aD.cons (Cr (s:=4) (ws:=ws2) (ids:=aO) (bs:=aY) (by simp) rfl (fun id k h=>by simpa using h) h.2.2.2) aD.nil))))))
   replace h:=h jZ
   unfold HA at h
   obtain⟨h7,h⟩:=h
   refine eX [] [5] (fun L=>(5,(dk false (nth J.O bO)))::hM 0 3 (aj 2 (a1+1) (ws2++[(ae.mk 0 0 (List.replicate ((nth J.O bO).ah.length:Int).toNat false) false 0)]).length) L) (fun _=>(⟨0,1,List.map aX (List.replicate J.ah.toNat false)⟩::⟨aQ,2,List.map a5 aG⟩::⟨(a1+1),5,a0 4 (ws2++[(ae.mk 0 0 (List.replicate ((nth J.O bO).ah.length:Int).toNat false) false 0)]) (aO++[aY.length])⟩::⟨(bS+1),5,[[ag 0,ag 0,aj (aY.length+4) 0 (List.replicate ((nth J.O bO).ah.length:Int).toNat false).length,al false,ag 0]]⟩::List.map bk (aY++[(List.replicate ((nth J.O bO).ah.length:Int).toNat false)]))) (True) ?_ (fun hp=> ?_)
   ·
    replace h:=h7
    refine fc 3 ?_
    obtain⟨im,h⟩:=h
    refine eX [(5,az 5 0)] [5] (fun L=>(5,(dk false (nth J.O bO)))::L) id (True) ?_ (fun il=> ?_)
    ·
     replace h:=im
     refine bL [1000003] 10 ?_
     have km:=h
     refine k5 1 (some 31) [] (dk false) J.O 5 km ?_
     exact b1 [(5,az 5 0),(32,.agg (dk false (nth J.O bO)))] trivial
    refine m0 [1000003] 11 ab8 ab9 [] ?_
    refine IH 5 (some 37) [(36,bK c0 (nth J.O bO).ah),(35,az 5 0),(34,aj 2 a1 ws2.length),(33,az 3 3)] c0 (nth J.O bO).ah ?_
    obtain⟨g4,h⟩:=h
    refine aen 1 (some 38) [] 1 [al false] (fun r=>pa Try.prog (iU HE 16025) [0,1] [(37,ag ((nth J.O bO).ah.length:Int)),(36,bK c0 (nth J.O bO).ah),(35,az 5 0),(34,aj 2 a1 ws2.length),(33,az 3 3),(5,az 5 0),(2,az 2 0),(3,az 3 0),(27,bK (dk false) J.O),(28,ag (J.O.length:Int)),(29,ag bO)] [(5,(dk false (nth J.O bO))),(3,[al true,aj 0 0 (List.replicate J.ah.toNat false).length,aj 1 aQ aG.length,aj 2 a1 ws2.length]),(2,[al false,aF,aF,aF])] r) (aY.length+4) (⟨0,1,List.map aX (List.replicate J.ah.toNat false)⟩::⟨aQ,2,List.map a5 aG⟩::⟨a1,5,a0 4 ws2 aO⟩::⟨bS,5,[]⟩::List.map bk (aY++[(List.replicate ((nth J.O bO).ah.length:Int).toNat false)])) g4 (by simp) (by simp only[List.cons_append,rl]) (sQ (ψ:=((true=true∧true=true∧((az 3 3:AV)=az 3 3))∧((true=true∧true=true∧((aj 2 a1 ws2.length:AV)=aj 2 a1 ws2.length))∧True))) (by kernel_rfl) ⟨⟨rfl,rfl,rfl⟩,⟨⟨rfl,rfl,rfl⟩,trivial⟩⟩) ?_
    refine zD 2 [(40,.ref 3 (bS+1) 0 1 true),(39,.agg [ag 0,ag 0,aj (aY.length+4) 0 (List.replicate ((nth J.O bO).ah.length:Int).toNat false).length,al false,ag 0])] [(5,(dk false (nth J.O bO))),(3,[al true,aj 0 0 (List.replicate J.ah.toNat false).length,aj 1 aQ aG.length,aj 2 a1 ws2.length]),(2,[al false,aF,aF,aF])] (⟨0,1,List.map aX (List.replicate J.ah.toNat false)⟩::⟨aQ,2,List.map a5 aG⟩::⟨a1,5,a0 4 ws2 aO⟩::⟨(bS+1),5,[[ag 0,ag 0,aj (aY.length+4) 0 (List.replicate ((nth J.O bO).ah.length:Int).toNat false).length,al false,ag 0]]⟩::List.map bk (aY++[(List.replicate ((nth J.O bO).ah.length:Int).toNat false)])) (φ:=pa Try.prog (iU HE 16025) [0,1] [(39,.agg [ag 0,ag 0,aj (aY.length+4) 0 (List.replicate ((nth J.O bO).ah.length:Int).toNat false).length,al false,ag 0]),(38,aj (aY.length+4) 0 (List.replicate ((nth J.O bO).ah.length:Int).toNat false).length),(37,ag ((nth J.O bO).ah.length:Int)),(36,bK c0 (nth J.O bO).ah),(35,az 5 0),(34,aj 2 a1 ws2.length),(33,az 3 3),(5,az 5 0),(2,az 2 0),(3,az 3 0),(27,bK (dk false) J.O),(28,ag (J.O.length:Int)),(29,ag bO)] [(5,(dk false (nth J.O bO))),(3,[al true,aj 0 0 (List.replicate J.ah.toNat false).length,aj 1 aQ aG.length,aj 2 a1 ws2.length]),(2,[al false,aF,aF,aF])] (⟨0,1,List.map aX (List.replicate J.ah.toNat false)⟩::⟨aQ,2,List.map a5 aG⟩::⟨a1,5,a0 4 ws2 aO⟩::⟨(bS+1),5,[[ag 0,ag 0,aj (aY.length+4) 0 (List.replicate ((nth J.O bO).ah.length:Int).toNat false).length,al false,ag 0]]⟩::List.map bk (aY++[(List.replicate ((nth J.O bO).ah.length:Int).toNat false)]))) (sQ (ψ:=((true=true∧true=true∧((az 3 3:AV)=az 3 3))∧((true=true∧true=true∧((aj 2 a1 ws2.length:AV)=aj 2 a1 ws2.length))∧True))) (by kernel_rfl) ⟨⟨rfl,rfl,rfl⟩,⟨⟨rfl,rfl,rfl⟩,trivial⟩⟩) ?_
    have h6:=h
    refine RO 1 (some 41) [] 4 2 a1 (bS+1) 56 ws2 aO (ae.mk 0 0 (List.replicate ((nth J.O bO).ah.length:Int).toNat false) false 0) aY.length (fun _=>True) (fun r=>(⟨0,1,List.map aX (List.replicate J.ah.toNat false)⟩::⟨aQ,2,List.map a5 aG⟩::⟨(a1+1),5,r⟩::⟨(bS+1),5,[[ag 0,ag 0,aj (aY.length+4) 0 (List.replicate ((nth J.O bO).ah.length:Int).toNat false).length,al false,ag 0]]⟩::List.map bk (aY++[(List.replicate ((nth J.O bO).ah.length:Int).toNat false)]))) h6.1 h6.2 trivial ?_
    refine zD 2 [(42,az 3 3)] [(5,(dk false (nth J.O bO))),(3,[al true,aj 0 0 (List.replicate J.ah.toNat false).length,aj 1 aQ aG.length,aj 2 (a1+1) (ws2++[(ae.mk 0 0 (List.replicate ((nth J.O bO).ah.length:Int).toNat false) false 0)]).length]),(2,[al false,aF,aF,aF])] (⟨0,1,List.map aX (List.replicate J.ah.toNat false)⟩::⟨aQ,2,List.map a5 aG⟩::⟨(a1+1),5,a0 4 (ws2++[(ae.mk 0 0 (List.replicate ((nth J.O bO).ah.length:Int).toNat false) false 0)]) (aO++[aY.length])⟩::⟨(bS+1),5,[[ag 0,ag 0,aj (aY.length+4) 0 (List.replicate ((nth J.O bO).ah.length:Int).toNat false).length,al false,ag 0]]⟩::List.map bk (aY++[(List.replicate ((nth J.O bO).ah.length:Int).toNat false)])) (φ:=True) trivial ?_
    refine xp [] ?_
    refine ch.normal ?_
    exact b_.normal trivial dT
   unfold Hz at h
   refine bL [1000003] 12 ?_
   refine dM [(29,ag (IntKind.i64.wrap (bO+1))),(43,ag (IntKind.i64.wrap (bO+1)))] ?_
   exact dO.again ((aY++[(List.replicate ((nth J.O bO).ah.length:Int).toNat false)]),(a1+1),(bS+1),(aO++[aY.length]),(IntKind.i64.wrap (bO+1)),(ws2++[(ae.mk 0 0 (List.replicate ((nth J.O bO).ah.length:Int).toNat false) false 0)])) h ((Weak.clear 3 rfl:Weak ⟨(bh 45 [(29,ag (IntKind.i64.wrap (bO+1))),(43,ag (IntKind.i64.wrap (bO+1))),(2,az 2 0),(3,az 3 0),(27,bK (dk false) J.O),(28,ag (J.O.length:Int))]),[(5,(dk false (nth J.O bO))),(3,[al true,aj 0 0 (List.replicate J.ah.toNat false).length,aj 1 aQ aG.length,aj 2 (a1+1) (ws2++[(ae.mk 0 0 (List.replicate ((nth J.O bO).ah.length:Int).toNat false) false 0)]).length]),(2,[al false,aF,aF,aF])],(⟨0,1,List.map aX (List.replicate J.ah.toNat false)⟩::⟨aQ,2,List.map a5 aG⟩::⟨(a1+1),5,a0 4 (ws2++[(ae.mk 0 0 (List.replicate ((nth J.O bO).ah.length:Int).toNat false) false 0)]) (aO++[aY.length])⟩::⟨(bS+1),5,[[ag 0,ag 0,aj (aY.length+4) 0 (List.replicate ((nth J.O bO).ah.length:Int).toNat false).length,al false,ag 0]]⟩::List.map bk (aY++[(List.replicate ((nth J.O bO).ah.length:Int).toNat false)]))⟩ ⟨(bh 45 [(29,ag (IntKind.i64.wrap (bO+1))),(43,ag (IntKind.i64.wrap (bO+1))),(2,az 2 0),(3,az 3 0),(27,bK (dk false) J.O),(28,ag (J.O.length:Int))]),[(5,(dk false (nth J.O bO))),(3,[al true,aj 0 0 (List.replicate J.ah.toNat false).length,aj 1 aQ aG.length,aj 2 (a1+1) (ws2++[(ae.mk 0 0 (List.replicate ((nth J.O bO).ah.length:Int).toNat false) false 0)]).length]),(2,[al false,aF,aF,aF])],(⟨0,1,List.map aX (List.replicate J.ah.toNat false)⟩::⟨aQ,2,List.map a5 aG⟩::⟨(a1+1),5,a0 4 (ws2++[(ae.mk 0 0 (List.replicate ((nth J.O bO).ah.length:Int).toNat false) false 0)]) (aO++[aY.length])⟩::⟨(bS+1),5,[]⟩::List.map bk (aY++[(List.replicate ((nth J.O bO).ah.length:Int).toNat false)]))⟩).trans (dt [5]))
 replace h:=h ik
 obtain⟨jm,h⟩:=h
 refine eX [] [5] (fun L=>hM 0 2 (aj 1 (aQ+1) (aG++[(bc.mk 1 1)]).length) L) (fun H=>ea 1 ⟨(aQ+1),2,List.map a5 (aG++[(bc.mk 1 1)])⟩ H) (True) ?_ (fun nt=> ?_)
 ·
  replace h:=jm
  refine fc 1 ?_
  refine bL [1000003] 6 ?_
  have mU:=h
  refine O9 5 (some 23) [(22,.bC (List.map a5 [(bc.mk 1 1)]) true true),(21,.agg [ag 1,ag 1]),(20,aj 1 aQ aG.length),(19,az 3 2)] a5 aG [(bc.mk 1 1)] (lv true (List.map a5 [(bc.mk 1 1)])) 1 aQ 2 16 (fun r=>[⟨0,1,List.map aX (List.replicate J.ah.toNat false)⟩,⟨(aQ+1),2,r⟩]) rfl mU ?_
  refine Ck [(24,az 3 2)] [(3,[al true,aj 0 0 (List.replicate J.ah.toNat false).length,aj 1 (aQ+1) (aG++[(bc.mk 1 1)]).length,aF]),(2,[al false,aF,aF,aF]),(1,(bg false J))] [⟨0,1,List.map aX (List.replicate J.ah.toNat false)⟩,⟨(aQ+1),2,List.map a5 (aG++[(bc.mk 1 1)])⟩] ?_
  refine ch.normal ?_
  exact b_.normal trivial dT
 refine bL [1000003] 7 ?_
 refine dM [(17,ag (IntKind.i64.wrap (eD+1))),(25,ag (IntKind.i64.wrap (eD+1)))] ?_
 exact dO.again ((aQ+1),(aG++[(bc.mk 1 1)]),(IntKind.i64.wrap (eD+1))) h (dt [])
theorem ab6 (J:aA):bZ Try.prog 32 [.agg (bg false J)] (.agg (bW true (eI J))):=ab_ J (eI J) (fun _ x v=>cr J.bd.length (fun _=>false) v∧x=List.replicate v.toNat (bc.mk 1 1)) (fun _ _ v=>cA J.bd.length v) (fun _ x _ bs _ _ is v ws=>x=List.replicate J.bd.length (bc.mk 1 1)∧cr J.O.length (fun _=>false) v∧ws=(J.O.take v.toNat).map (fun w=>ha w.ah.length)∧is=List.range ws.length∧bs=ws.map ae.ac) (fun _ _ _ _ _ _ _ v _=>cA J.O.length v) (by
 unfold Hy HD
 refine⟨fun h=> ?_,fun h=> ?_⟩
 ·have h:dQ J=false:=by simpa using h
  unfold eI;rw[if_neg (by rw[h];simp)];exact⟨rfl,rfl,rfl,rfl⟩
 have h:dQ J=true:=by simpa using h
 have cx:=sS h
 have h1:=cx.cR
 have h2:=cx.sw
 have aN:=cx.O
 have e:eI J=⟨true,List.replicate J.ah.toNat false,List.replicate J.bd.length ⟨1,1⟩,J.O.map fun w=>ha w.ah.length⟩:=by unfold eI;rw[if_pos h]
 rw[e]
 refine⟨⟨by omega,by omega,by omega⟩,fun aH=>⟨⟨c7 (dh _),rfl⟩,fun g x v aZ=> ?_⟩⟩
 obtain⟨aZ,rfl⟩:=aZ
 have ww:=aZ.2.1
 unfold HC
 refine⟨fun hv hm=>⟨⟨?_,c7 (dh _),rfl,rfl,rfl⟩,fun bs a1 bS is k ws c1=> ?_⟩,fun hv=>⟨⟨?_,?_⟩,⟨(cI (cv aH) aZ hv rfl).1,?_⟩,(cI (cv aH) aZ hv rfl).2⟩⟩
 ·have: ¬v<(J.bd.length:Int):=by simpa using hv
  rw[show v.toNat=J.bd.length by omega]
 ·obtain⟨hx,c1,rfl,rfl,rfl⟩:=c1
  have qi:=c1.2.1
  have rC:=c1.1
  have aL:((J.O.take k.toNat).map fun w=>ha w.ah.length).length=k.toNat:=by rw[List.length_map,List.length_take];omega
  obtain⟨fj,fO,fu⟩:=vO ((J.O.take k.toNat).map fun w=>ha w.ah.length)
  have LH:(decide (k<(J.O.length:Int)))=true→1*((nth J.O k).ah.length:Int)≤140737488355328:=fun hk=>by
   have:=(cx.ah _ (du (ca c1 hk).2)).2.1;omega
  unfold HB HA Hz
  refine⟨fun hk=>⟨rfl,⟨by rw[List.length_replicate];omega,rfl⟩,⟨by rw[List.length_replicate];omega,hx⟩,fj,by omega,fun b hb=> ?_,?_⟩,fun hk=>⟨⟨⟨rC,(ca c1 hk).2⟩,⟨by omega,LH hk,by have:=LH hk;omega⟩,by rw[List.length_range],by omega,by omega⟩,⟨hx,(cI (cv hm) c1 hk rfl).1,?_,?_,?_⟩,(cI (cv hm) c1 hk rfl).2⟩⟩
  ·obtain⟨y,bt,rfl⟩:=List.mem_map.1 hb
   obtain⟨w,hw,rfl⟩:=List.mem_map.1 bt
   have:=(cx.ah w (List.mem_of_mem_take hw)).2.1
   simp[ha];omega
  ·rw[fu]
   have: ¬k<(J.O.length:Int):=by simpa using hk
   rw[List.take_of_length_le (by omega)]
  ·have b9:=ca c1 hk
   rw[jL (cv hm) rC (by simpa using hk),show(k+1).toNat=k.toNat+1 by omega,List.take_succ_eq_append_getElem b9.2,←gE b9.2,List.map_append];rfl
  ·rw[List.length_append,List.length_singleton,List.range_succ,List.length_map]
   simp
  ·rw[List.map_append];rfl
 ·rw[List.length_replicate,List.length_singleton];omega
 ·rw[List.length_replicate,List.length_singleton];omega
 ·rw[jL (cv aH) aZ.1 (by simpa using hv),show(v+1).toNat=v.toNat+1 by have:=aZ.1;omega,List.replicate_succ'])
def ab7:eg Try.prog:=⟨32,[.df],[.frame],none,fun x=>((eI x.1),()),fun x h=>ab6 x.1⟩
noncomputable def ac4:Code:=iw Try.f136
def ac5:List Item:=[aq 0,aq 1,aq 2,aq 3,aq 4,aq 5,aq 6,aq 7,aq 8,aq 9,⟨10,true,false,[]⟩]
def ac6:List (List Nat):=[[],[0],[0,1],[0,1,2],[],[4],[],[6],rg 0 8,rg 0 9,rg 0 10]
abbrev q5 (r:Type):Type:=(List bc)→Int→(List bc)→Int→r
def Ii (aS:q5 Prop) (aU:q5 Nat) (J:aA) (U:Int) (bq:(List bc)) (cL bO:Int) (eH:(List bc)):Prop:=
  aS bq bO (eH.set (nth (nth [(nth J.O U).a2,(nth J.O U).bA] bO) cL).sw.toNat (bc.mk (nth (nth [(nth J.O U).a2,(nth J.O U).bA] bO) cL).bn (nth eH (nth (nth [(nth J.O U).a2,(nth J.O U).bA] bO) cL).sw).a2)) (IntKind.i64.wrap (cL+1))∧aU bq bO (eH.set (nth (nth [(nth J.O U).a2,(nth J.O U).bA] bO) cL).sw.toNat (bc.mk (nth (nth [(nth J.O U).a2,(nth J.O U).bA] bO) cL).bn (nth eH (nth (nth [(nth J.O U).a2,(nth J.O U).bA] bO) cL).sw).a2)) (IntKind.i64.wrap (cL+1))<aU bq bO eH cL
def Ij (ay:(List bc)→Int→Prop) (aB:(List bc)→Int→Nat) (aS:q5 Prop) (aU:q5 Nat) (J:aA) (U:Int) (bq:(List bc)) (cL bO:Int) (eH:(List bc)):Prop:=
  ((decide (cL<((nth [(nth J.O U).a2,(nth J.O U).bA] bO).length:Int)))=false→ay eH (IntKind.i64.wrap (bO+1))∧aB eH (IntKind.i64.wrap (bO+1))<aB bq bO)∧((decide (cL<((nth [(nth J.O U).a2,(nth J.O U).bA] bO).length:Int)))=true→((0≤cL∧cL.toNat<(nth [(nth J.O U).a2,(nth J.O U).bA] bO).length)∧(0≤(nth (nth [(nth J.O U).a2,(nth J.O U).bA] bO) cL).sw∧(nth (nth [(nth J.O U).a2,(nth J.O U).bA] bO) cL).sw.toNat<eH.length))∧(Ii aS aU J U bq cL bO eH))
def Ik (ay:(List bc)→Int→Prop) (aB:(List bc)→Int→Nat) (aS:q5 Prop) (aU:q5 Nat) (J:aA) (U:Int) (hk:Bool) (aC:List Bool) (ak:List bc) (hw:List ae) (hi:List Nat) (hb:List (List Bool)) (bq:(List bc)) (bO:Int):Prop:=
  ((decide (bO<([(nth J.O U).a2,(nth J.O U).bA].length:Int)))=false→Bw J U hk aC ak hw hi hb aC bq (hw.set U.toNat (ae.mk 1 (nth hw U).af (nth hw U).ac (nth hw U).ao (nth hw U).ap)) hi hb)∧((decide (bO<([(nth J.O U).a2,(nth J.O U).bA].length:Int)))=true→(0≤bO∧bO.toNat<[(nth J.O U).a2,(nth J.O U).bA].length)∧((nth [(nth J.O U).a2,(nth J.O U).bA] bO).length≤4611686018427387904→aS bq bO bq 0∧ ∀(eH:(List bc)) (cL:Int),aS bq bO eH cL→(Ij ay aB aS aU J U bq cL bO eH)))
def Ih (J:aA) (U:Int) (hg:Nat) (hk:Bool) (aC:List Bool) (ak:List bc) (hw:List ae) (hi:List Nat) (hb:List (List Bool)) (ay:(List bc)→Int→Prop) (aB:(List bc)→Int→Nat) (aS:q5 Prop) (aU:q5 Nat):Prop:=
 (0≤U∧U.toNat<J.O.length)∧(((0≤U∧U.toNat<hw.length)∧(hw.length=hi.length∧U.toNat<hw.length))∧([(nth J.O U).a2,(nth J.O U).bA].length≤4611686018427387904→ay ak 0∧ ∀(bq:(List bc)) (bO:Int),ay bq bO→(Ik ay aB aS aU J U hk aC ak hw hi hb bq bO)))
theorem ac7 (J:aA) (U:Int) (hg:Nat) (hk:Bool) (aC:List Bool) (ak:List bc) (hw:List ae) (hi:List Nat) (hb:List (List Bool)) (ay:(List bc)→Int→Prop) (aB:(List bc)→Int→Nat) (aS:q5 Prop) (aU:q5 Nat) (h:Ih J U hg hk aC ak hw hi hb ay aB aS aU):dz Try.prog 136 [.agg (bg false J),.ptr 0 hg 0 0,ag U] (⟨hg,4,[[al hk,aj 1 0 aC.length,aj 2 0 ak.length,aj 3 0 hw.length]]⟩::⟨0,1,List.map aX aC⟩::⟨0,2,List.map a5 ak⟩::⟨0,5,a0 4 hw hi⟩::List.map bk hb) (fun r H'=> ∃(ub:List bc) (eN:List ae),r= .tup []∧H'=(⟨hg,4,[[al hk,aj 1 0 aC.length,aj 2 0 ub.length,aj 3 0 eN.length]]⟩::⟨0,1,List.map aX aC⟩::⟨0,2,List.map a5 ub⟩::⟨0,5,a0 4 eN hi⟩::List.map bk hb)∧Bw J U hk aC ak hw hi hb aC ub eN hi hb):=by
 unfold Ih at h
 refine dz.go (fn:=Try.f136) [(0,.agg (bg false J)),(1,.ptr 0 hg 0 0),(2,ag U)] Try.func136 (fun _ _=> ?_)
 show WpS _ (bT ac4 1) _ ⟨bh 51 [(0,.agg (bg false J)),(1,.ptr 0 hg 0 0),(2,ag U)],[],(⟨hg,4,[[al hk,aj 1 0 aC.length,aj 2 0 ak.length,aj 3 0 hw.length]]⟩::⟨0,1,List.map aX aC⟩::⟨0,2,List.map a5 ak⟩::⟨0,5,a0 4 hw hi⟩::List.map bk hb)⟩
 refine sh [] 0 [(3,az 3 0)] [1] [0,1,2] (fun L=>(3,(bg false J))::L) id ?_
 obtain⟨nt,h⟩:=h
 refine eX [(6,az 6 0)] [0,1,2] (fun L=>(6,(dk false (nth J.O U)))::L) id (True) ?_ (fun q2=> ?_)
 ·
  replace h:=nt
  refine bL [] 1 ?_
  have q3:=h
  refine k5 4 (some 14) [(13,ag U),(12,bK (dk false) J.O),(11,az 3 2)] (dk false) J.O 5 q3 ?_
  exact b1 [(6,az 6 0),(15,.agg (dk false (nth J.O U)))] trivial
 obtain⟨mi,h⟩:=h
 refine eX [] [2] id (fun H=>ea 3 ⟨0,5,a0 4 (hw.set U.toNat (ae.mk 1 (nth hw U).af (nth hw U).ac (nth hw U).ao (nth hw U).ap)) hi⟩ H) (True) ?_ (fun q4=> ?_)
 ·
  replace h:=mi
  refine bL [] 2 ?_
  refine nw 4 (some 19) (aj 3 0 hw.length) [(18,.ptr 0 hg 0 3),(17,.ptr 0 hg 0 0),(16,.ptr 0 hg 0 0)] (φ:=hg=hg) rfl ?_
  obtain⟨aeX,h⟩:=h
  refine lx 2 (some 21) [(20,ag U)] 3 0 5 aeX ?_
  have cH:=h
  refine j0 2 none [(22,.ptr 3 0 (0+U.toNat) 0)] (a0 4 hw hi) U 0 1 0 [ag 1] 3 (a0 4 (hw.set U.toNat (ae.mk 1 (nth hw U).af (nth hw U).ac (nth hw U).ao (nth hw U).ap)) hi) (dF cH.1 cH.2) (kb cH.1 cH.2) ?_
  exact b1 [] trivial
 refine cu [(27,.bC (List.map (iN dd false) [(nth J.O U).a2,(nth J.O U).bA]) true false),(28,ag ([(nth J.O U).a2,(nth J.O U).bA].length:Int)),(29,ag 0)] [0,1,1] ([(nth J.O U).a2,(nth J.O U).bA].length≤4611686018427387904) ?_ (fun cV=> ?_)
 ·
  refine bL [] 3 ?_
  refine sLen 6 (some 28) [(27,.bC (List.map (iN dd false) [(nth J.O U).a2,(nth J.O U).bA]) true false),(26,bK dd (nth J.O U).bA),(25,az 6 2),(24,bK dd (nth J.O U).a2),(23,az 6 1)] (iN dd false) [(nth J.O U).a2,(nth J.O U).bA] (fun fE=> ?_)
  exact b1 [(29,ag 0)] fE
 replace h:=h cV
 refine fc 0 ?_
 obtain⟨kn,h⟩:=h
 refine j8 (fun(v:(List bc)×Int)=>(⟨(bh 51 [(1,.ptr 0 hg 0 0),(27,.bC (List.map (iN dd false) [(nth J.O U).a2,(nth J.O U).bA]) true false),(28,ag ([(nth J.O U).a2,(nth J.O U).bA].length:Int)),(29,ag (v.2))]),[],(⟨hg,4,[[al hk,aj 1 0 aC.length,aj 2 0 (v.1).length,aj 3 0 hw.length]]⟩::⟨0,1,List.map aX aC⟩::⟨0,2,List.map a5 (v.1)⟩::⟨0,5,a0 4 (hw.set U.toNat (ae.mk 1 (nth hw U).af (nth hw U).ac (nth hw U).ao (nth hw U).ap)) hi⟩::List.map bk hb)⟩:St)) (fun(v:(List bc)×Int)=>ay (v.1) (v.2)) (fun(v:(List bc)×Int)=>aB (v.1) (v.2)) (ak,0) (dt [6,3]) kn (fun v aZ=> ?_)
 obtain⟨bq,bO⟩:=v
 replace h:=h bq bO aZ
 dsimp only
 refine dX [] 4 [(30,al (decide (bO<([(nth J.O U).a2,(nth J.O U).bA].length:Int))))] [1] [4] ?_
 unfold Ik at h
 obtain⟨h7,h⟩:=h
 refine cu [] [0,1,4] ((decide (bO<([(nth J.O U).a2,(nth J.O U).bA].length:Int)))=true) ?_ (fun iA=> ?_)
 ·
  replace h:=h7
  refine dA (fun gP=> ?_) (fun gP=> ?_)
  ·
   refine eb ?_
   exact b_.normal (by simp only[gP]<;>rfl) dT
  ·
   replace h:=h gP
   refine iL 0 ?_
   refine b_.exit ?_
   refine dO.exit ?_
   refine ch.here ?_
   refine At (t0) [] ?_
   exact⟨bq,(hw.set U.toNat (ae.mk 1 (nth hw U).af (nth hw U).ac (nth hw U).ao (nth hw U).ap)),rfl,(by rw[show hw.length=(hw.set U.toNat (ae.mk 1 (nth hw U).af (nth hw U).ac (nth hw U).ao (nth hw U).ap)).length by simp]<;>rfl),h⟩
 replace h:=h iA
 refine hB ?_
 refine fc 1 ?_
 obtain⟨im,h⟩:=h
 refine cu [(8,bK dd (nth [(nth J.O U).a2,(nth J.O U).bA] bO))] [4] (True) ?_ (fun ik=> ?_)
 ·
  replace h:=im
  refine bL [] 5 ?_
  have hX:=h
  refine k5 1 (some 31) [] (iN dd false) [(nth J.O U).a2,(nth J.O U).bA] 1 hX ?_
  exact b1 [(8,bK dd (nth [(nth J.O U).a2,(nth J.O U).bA] bO)),(32,bK dd (nth [(nth J.O U).a2,(nth J.O U).bA] bO))] trivial
 refine cu [(33,bK dd (nth [(nth J.O U).a2,(nth J.O U).bA] bO)),(34,ag ((nth [(nth J.O U).a2,(nth J.O U).bA] bO).length:Int)),(35,ag 0)] [0,1,4] ((nth [(nth J.O U).a2,(nth J.O U).bA] bO).length≤4611686018427387904) ?_ (fun fy=> ?_)
 ·
  refine bL [] 6 ?_
  refine sLen 2 (some 34) [(33,bK dd (nth [(nth J.O U).a2,(nth J.O U).bA] bO))] dd (nth [(nth J.O U).a2,(nth J.O U).bA] bO) (fun qG=> ?_)
  exact b1 [(35,ag 0)] qG
 replace h:=h fy
 refine fc 2 ?_
 obtain⟨g4,h⟩:=h
 refine j8 (fun(v:(List bc)×Int)=>(⟨(bh 51 [(1,.ptr 0 hg 0 0),(27,.bC (List.map (iN dd false) [(nth J.O U).a2,(nth J.O U).bA]) true false),(28,ag ([(nth J.O U).a2,(nth J.O U).bA].length:Int)),(29,ag bO),(33,bK dd (nth [(nth J.O U).a2,(nth J.O U).bA] bO)),(34,ag ((nth [(nth J.O U).a2,(nth J.O U).bA] bO).length:Int)),(35,ag (v.2))]),[],(⟨hg,4,[[al hk,aj 1 0 aC.length,aj 2 0 (v.1).length,aj 3 0 hw.length]]⟩::⟨0,1,List.map aX aC⟩::⟨0,2,List.map a5 (v.1)⟩::⟨0,5,a0 4 (hw.set U.toNat (ae.mk 1 (nth hw U).af (nth hw U).ac (nth hw U).ao (nth hw U).ap)) hi⟩::List.map bk hb)⟩:St)) (fun(v:(List bc)×Int)=>aS bq bO (v.1) (v.2)) (fun(v:(List bc)×Int)=>aU bq bO (v.1) (v.2)) (bq,0) (dt []) g4 (fun v aZ=> ?_)
 obtain⟨eH,cL⟩:=v
 replace h:=h eH cL aZ
 dsimp only
 refine dX [] 7 [(36,al (decide (cL<((nth [(nth J.O U).a2,(nth J.O U).bA] bO).length:Int))))] [1] [7] ?_
 unfold Ij at h
 obtain⟨h6,h⟩:=h
 refine cu [] [0,1,7] ((decide (cL<((nth [(nth J.O U).a2,(nth J.O U).bA] bO).length:Int)))=true) ?_ (fun jZ=> ?_)
 ·
  replace h:=h6
  refine dA (fun hH=> ?_) (fun hH=> ?_)
  ·
   refine eb ?_
   exact b_.normal (by simp only[iA,hH]<;>rfl) dT
  ·
   replace h:=h hH
   refine iL 2 ?_
   refine b_.exit ?_
   refine dO.exit ?_
   refine ch.here ?_
   refine ch.normal ?_
   refine dR.normal ?_
   refine bL [] 11 ?_
   refine dM [(29,ag (IntKind.i64.wrap (bO+1))),(50,ag (IntKind.i64.wrap (bO+1)))] ?_
   exact dO.again (eH,(IntKind.i64.wrap (bO+1))) h (dt [])
 replace h:=h jZ
 obtain⟨jE,h⟩:=h
 refine eX [] [7] (fun L=>(10,(dd (nth (nth [(nth J.O U).a2,(nth J.O U).bA] bO) cL)))::L) (fun H=>ea 2 ⟨0,2,List.map a5 (eH.set (nth (nth [(nth J.O U).a2,(nth J.O U).bA] bO) cL).sw.toNat (bc.mk (nth (nth [(nth J.O U).a2,(nth J.O U).bA] bO) cL).bn (nth eH (nth (nth [(nth J.O U).a2,(nth J.O U).bA] bO) cL).sw).a2))⟩ H) (True) ?_ (fun lY=> ?_)
 ·
  replace h:=jE
  refine fc 3 ?_
  obtain⟨km,h⟩:=h
  refine eX [(10,az 10 0)] [7] (fun L=>(10,(dd (nth (nth [(nth J.O U).a2,(nth J.O U).bA] bO) cL)))::L) id (True) ?_ (fun hp=> ?_)
  ·
   replace h:=km
   refine bL [] 8 ?_
   have il:=h
   refine k5 1 (some 37) [] dd (nth [(nth J.O U).a2,(nth J.O U).bA] bO) 2 il ?_
   exact b1 [(10,az 10 0),(38,.agg (dd (nth (nth [(nth J.O U).a2,(nth J.O U).bA] bO) cL)))] trivial
  refine m0 [] 9 ac5 ac6 [] ?_
  refine Cx 4 (some 42) (aj 2 0 eH.length) [(41,.ptr 0 hg 0 2),(40,.ptr 0 hg 0 0),(39,.ptr 0 hg 0 0)] (φ:=hg=hg) rfl ?_
  have Sl:=h
  refine u4 5 (some 47) [(46,ag (nth (nth [(nth J.O U).a2,(nth J.O U).bA] bO) cL).bn),(45,az 10 1),(44,ag (nth (nth [(nth J.O U).a2,(nth J.O U).bA] bO) cL).sw),(43,az 10 0)] 2 0 2 Sl ?_
  refine aeo 2 none [(48,.ptr 2 0 (0+(nth (nth [(nth J.O U).a2,(nth J.O U).bA] bO) cL).sw.toNat) 0)] a5 eH (nth (nth [(nth J.O U).a2,(nth J.O U).bA] bO) cL).sw 0 1 0 [ag (nth (nth [(nth J.O U).a2,(nth J.O U).bA] bO) cL).bn] (fun _=>True) (fun r=>(⟨hg,4,[[al hk,aj 1 0 aC.length,aj 2 0 eH.length,aj 3 0 hw.length]]⟩::⟨0,1,List.map aX aC⟩::⟨0,2,r⟩::⟨0,5,a0 4 (hw.set U.toNat (ae.mk 1 (nth hw U).af (nth hw U).ac (nth hw U).ao (nth hw U).ap)) hi⟩::List.map bk hb)) (bc.mk (nth (nth [(nth J.O U).a2,(nth J.O U).bA] bO) cL).bn (nth eH (nth (nth [(nth J.O U).a2,(nth J.O U).bA] bO) cL).sw).a2) (by simpa using Sl.2) trivial ?_
  refine xp [] ?_
  refine ch.normal ?_
  exact b_.normal trivial dT
 unfold Ii at h
 refine bL [] 10 ?_
 refine dM [(35,ag (IntKind.i64.wrap (cL+1))),(49,ag (IntKind.i64.wrap (cL+1)))] ?_
 exact dO.again ((eH.set (nth (nth [(nth J.O U).a2,(nth J.O U).bA] bO) cL).sw.toNat (bc.mk (nth (nth [(nth J.O U).a2,(nth J.O U).bA] bO) cL).bn (nth eH (nth (nth [(nth J.O U).a2,(nth J.O U).bA] bO) cL).sw).a2)),(IntKind.i64.wrap (cL+1))) h (hd (s':=⟨(bh 51 [(1,.ptr 0 hg 0 0),(27,.bC (List.map (iN dd false) [(nth J.O U).a2,(nth J.O U).bA]) true false),(28,ag ([(nth J.O U).a2,(nth J.O U).bA].length:Int)),(29,ag bO),(33,bK dd (nth [(nth J.O U).a2,(nth J.O U).bA] bO)),(34,ag ((nth [(nth J.O U).a2,(nth J.O U).bA] bO).length:Int)),(35,ag (IntKind.i64.wrap (cL+1)))]),[],(⟨hg,4,[[al hk,aj 1 0 aC.length,aj 2 0 eH.length,aj 3 0 hw.length]]⟩::⟨0,1,List.map aX aC⟩::⟨0,2,List.map a5 (eH.set (nth (nth [(nth J.O U).a2,(nth J.O U).bA] bO) cL).sw.toNat (bc.mk (nth (nth [(nth J.O U).a2,(nth J.O U).bA] bO) cL).bn (nth eH (nth (nth [(nth J.O U).a2,(nth J.O U).bA] bO) cL).sw).a2))⟩::⟨0,5,a0 4 (hw.set U.toNat (ae.mk 1 (nth hw U).af (nth hw U).ac (nth hw U).ao (nth hw U).ap)) hi⟩::List.map bk hb)⟩) (dt (n:=51) (A':=[(1,.ptr 0 hg 0 0),(27,.bC (List.map (iN dd false) [(nth J.O U).a2,(nth J.O U).bA]) true false),(28,ag ([(nth J.O U).a2,(nth J.O U).bA].length:Int)),(29,ag bO),(33,bK dd (nth [(nth J.O U).a2,(nth J.O U).bA] bO)),(34,ag ((nth [(nth J.O U).a2,(nth J.O U).bA] bO).length:Int)),(35,ag (IntKind.i64.wrap (cL+1)))]) (L':=[]) [10]) (congrArg (fun z=>(⟨(bh 51 [(1,.ptr 0 hg 0 0),(27,.bC (List.map (iN dd false) [(nth J.O U).a2,(nth J.O U).bA]) true false),(28,ag ([(nth J.O U).a2,(nth J.O U).bA].length:Int)),(29,ag bO),(33,bK dd (nth [(nth J.O U).a2,(nth J.O U).bA] bO)),(34,ag ((nth [(nth J.O U).a2,(nth J.O U).bA] bO).length:Int)),(35,ag (IntKind.i64.wrap (cL+1)))]),[],(⟨hg,4,[[al hk,aj 1 0 aC.length,aj 2 0 z,aj 3 0 hw.length]]⟩::⟨0,1,List.map aX aC⟩::⟨0,2,List.map a5 (eH.set (nth (nth [(nth J.O U).a2,(nth J.O U).bA] bO) cL).sw.toNat (bc.mk (nth (nth [(nth J.O U).a2,(nth J.O U).bA] bO) cL).bn (nth eH (nth (nth [(nth J.O U).a2,(nth J.O U).bA] bO) cL).sw).a2))⟩::⟨0,5,a0 4 (hw.set U.toNat (ae.mk 1 (nth hw U).af (nth hw U).ac (nth hw U).ao (nth hw U).ap)) hi⟩::List.map bk hb)⟩:St)) (show eH.length=(eH.set (nth (nth [(nth J.O U).a2,(nth J.O U).bA] bO) cL).sw.toNat (bc.mk (nth (nth [(nth J.O U).a2,(nth J.O U).bA] bO) cL).bn (nth eH (nth (nth [(nth J.O U).a2,(nth J.O U).bA] bO) cL).sw).a2)).length by simp)))
theorem ac3 (J:aA) (U:Int) (hg:Nat) (hk:Bool) (aC:List Bool) (ak:List bc) (hw:List ae) (hi:List Nat) (hb:List (List Bool)) (aI:Nk J U hk aC ak hw hi hb):dz Try.prog 136 [.agg (bg false J),.ptr 0 hg 0 0,ag U] (⟨hg,4,[[al hk,aj 1 0 aC.length,aj 2 0 ak.length,aj 3 0 hw.length]]⟩::⟨0,1,List.map aX aC⟩::⟨0,2,List.map a5 ak⟩::⟨0,5,a0 4 hw hi⟩::List.map bk hb) (fun r H'=> ∃(ub:List bc) (eN:List ae),r= .tup []∧H'=(⟨hg,4,[[al hk,aj 1 0 aC.length,aj 2 0 ub.length,aj 3 0 eN.length]]⟩::⟨0,1,List.map aX aC⟩::⟨0,2,List.map a5 ub⟩::⟨0,5,a0 4 eN hi⟩::List.map bk hb)∧Bw J U hk aC ak hw hi hb aC ub eN hi hb):=ac7 J U hg hk aC ak hw hi hb (fun x v=>cr ((kN (nth J.O U)).length:Int) (fun _=>false) v∧x=jH ((kN (nth J.O U)).take v.toNat).flatten ak) (fun _ v=>cA ((kN (nth J.O U)).length:Int) v) (fun x v y k=>cr ((nth (kN (nth J.O U)) v).length:Int) (fun _=>false) k∧y=jH ((nth (kN (nth J.O U)) v).take k.toNat) x) (fun _ v _ k=>cA ((nth (kN (nth J.O U)) v).length:Int) k) (by
 unfold Ih
 obtain⟨G,cx,t0,t1,t2,W2⟩:=aI
 have bf:U.toNat<hw.length:=by omega
 have jh:U.toNat<J.O.length:=by omega
 have bY:=cx.a2 _ (du jh)
 have wo:=cx.sw
 have dn:=G.ow bf
 have ek:=dn.setState 1
 refine⟨⟨t0,jh⟩,⟨⟨t0,bf⟩,dn.fp⟩,fun aH=>⟨⟨c7 (dh _),rfl⟩,fun x v aZ=> ?_⟩⟩
 obtain⟨aZ,rfl⟩:=aZ
 unfold Ik
 refine⟨fun hv=> ?_,fun hv=>⟨ca aZ hv,fun hm=>⟨⟨c7 (dh _),rfl⟩,fun y k c1=> ?_⟩⟩⟩
 ·have ki: ¬v<((kN (nth J.O U)).length:Int):=by simpa[kN] using hv
  have h1:=aZ.2.1
  refine⟨?_,ek.G,ek.gS⟩
  rw[List.take_of_length_le (by omega),RT]
 ·obtain⟨c1,rfl⟩:=c1
  have b9:=ca aZ hv
  unfold Ij Ii
  refine⟨fun hk=>⟨⟨(cI (cv aH) aZ hv rfl).1,?_⟩,(cI (cv aH) aZ hv rfl).2⟩,fun hk=>⟨⟨ca c1 hk,?_⟩,⟨(cI (cv hm) c1 hk rfl).1,?_⟩,(cI (cv hm) c1 hk rfl).2⟩⟩
  ·have jy: ¬k<((nth (kN (nth J.O U)) v).length:Int):=of_decide_eq_false hk
   have h1:=c1.2.1
   rw[jL (cv aH) b9.1 (by simpa using hv),show(v+1).toNat=v.toNat+1 by omega,aeq b9.2,List.take_of_length_le (by omega),gE b9.2]
  ·have hx:=bY.2.2 _ (aer b9.2 (du (ca c1 hk).2))
   have e:(jH (List.take k.toNat (nth (kN (nth J.O U)) v)) (jH (List.take v.toNat (kN (nth J.O U))).flatten ak)).length=ak.length:=by rw[zs,zs]
   exact⟨hx.1,by rw[e];have:=hx.2;show(nth (nth (kN (nth J.O U)) v) k).sw.toNat<_;omega⟩
  ·have qi:=ca c1 hk
   rw[jL (cv hm) c1.1 (by simpa using hk),show(k+1).toNat=k.toNat+1 by omega,Pk qi.2,←gE qi.2]
   rfl)
noncomputable def acK:Code:=iw Try.f137
def HZ (J:aA) (U:Int) (hk:Bool) (aC:List Bool) (ak:List bc) (hw:List ae) (hi:List Nat) (hb:List (List Bool)):Prop:=
  ur J U hk aC ak hw hi hb aC ak ((hw.set U.toNat (ae.mk 3 (nth hw U).af (nth hw U).ac (nth hw U).ao (nth hw U).ap)).set U.toNat (ae.mk (nth (hw.set U.toNat (ae.mk 3 (nth hw U).af (nth hw U).ac (nth hw U).ao (nth hw U).ap)) U).ar (nth (hw.set U.toNat (ae.mk 3 (nth hw U).af (nth hw U).ac (nth hw U).ao (nth hw U).ap)) U).af (nth (hw.set U.toNat (ae.mk 3 (nth hw U).af (nth hw U).ac (nth hw U).ao (nth hw U).ap)) U).ac (nth (hw.set U.toNat (ae.mk 3 (nth hw U).af (nth hw U).ac (nth hw U).ao (nth hw U).ap)) U).ao J.dl)) hi hb 0
def H0 (J:aA) (U:Int) (hk:Bool) (aC:List Bool) (ak:List bc) (hw:List ae) (hi:List Nat) (hb:List (List Bool)) (cL:Int):Prop:=
  ((nth aC (nth (nth J.O U).cD cL))&&(nth hw U).ao)=true→(hw.length=hi.length∧U.toNat<hw.length)∧(((hw.set U.toNat (ae.mk 3 (nth hw U).af (nth hw U).ac (nth hw U).ao (nth hw U).ap)).length=hi.length∧U.toNat<(hw.set U.toNat (ae.mk 3 (nth hw U).af (nth hw U).ac (nth hw U).ao (nth hw U).ap)).length)∧(HZ J U hk aC ak hw hi hb))
def H2 (ay:Int→Prop) (aB:Int→Nat) (J:aA) (U:Int) (hk:Bool) (aC:List Bool) (ak:List bc) (hw:List ae) (hi:List Nat) (hb:List (List Bool)) (cL:Int):Prop:=
  ((0≤cL∧cL.toNat<(nth J.O U).cD.length)∧(((0≤(nth (nth J.O U).cD cL)∧(nth (nth J.O U).cD cL).toNat<aC.length)∧((nth aC (nth (nth J.O U).cD cL))=true→hw.length=hi.length∧U.toNat<hw.length))∧(H0 J U hk aC ak hw hi hb cL)))∧((!((nth aC (nth (nth J.O U).cD cL))&&(nth hw U).ao))=true→ay (IntKind.i64.wrap (cL+1))∧aB (IntKind.i64.wrap (cL+1))<aB cL)
def H3 (ay:Int→Prop) (aB:Int→Nat) (J:aA) (U:Int) (hk:Bool) (aC:List Bool) (ak:List bc) (hw:List ae) (hi:List Nat) (hb:List (List Bool)):Prop:=
  ay 0∧ ∀(cL:Int),ay cL→(((decide (cL<((nth J.O U).cD.length:Int)))=false→(Bo U hk aC ak hw hi hb)∧(∀(u9:List ae) (i18:List Nat) (vq:List (List Bool)),ul U hk aC ak hw hi hb aC ak u9 i18 vq→(ur J U hk aC ak hw hi hb aC ak u9 i18 vq 0)))∧((decide (cL<((nth J.O U).cD.length:Int)))=true→H2 ay aB J U hk aC ak hw hi hb cL))
def H4 (ay:Int→Prop) (aB:Int→Nat) (J:aA) (U:Int) (hk:Bool) (aC:List Bool) (ak:List bc) (hw:List ae) (hi:List Nat) (hb:List (List Bool)):Prop:=
  (((hw.length=hi.length∧U.toNat<hw.length)∧(((nth hw U).ar !=1)=true→hw.length=hi.length∧U.toNat<hw.length))∧((((nth hw U).ar !=1)&&((nth hw U).ar !=2))=true→ur J U hk aC ak hw hi hb aC ak hw hi hb 2))∧((!(((nth hw U).ar !=1)&&((nth hw U).ar !=2)))=true→(0≤U∧U.toNat<J.O.length)∧((nth J.O U).cD.length≤4611686018427387904→H3 ay aB J U hk aC ak hw hi hb))
def HY (J:aA) (U:Int) (hg:Nat) (hk:Bool) (aC:List Bool) (ak:List bc) (hw:List ae) (hi:List Nat) (hb:List (List Bool)) (ay:Int→Prop) (aB:Int→Nat):Prop:=
 (0≤U∧U.toNat<hw.length)∧(H4 ay aB J U hk aC ak hw hi hb)
theorem acL (J:aA) (U:Int) (hg:Nat) (hk:Bool) (aC:List Bool) (ak:List bc) (hw:List ae) (hi:List Nat) (hb:List (List Bool)) (ay:Int→Prop) (aB:Int→Nat) (h:HY J U hg hk aC ak hw hi hb ay aB):dz Try.prog 137 [.agg (bg false J),.ptr 0 hg 0 0,ag U] (⟨hg,4,[[al hk,aj 1 0 aC.length,aj 2 0 ak.length,aj 3 0 hw.length]]⟩::⟨0,1,List.map aX aC⟩::⟨0,2,List.map a5 ak⟩::⟨0,5,a0 4 hw hi⟩::List.map bk hb) (fun r H'=> ∃(eN:List ae) (fU:List Nat) (dZ:List (List Bool)) (an:Int),r=ag an∧H'=(⟨hg,4,[[al hk,aj 1 0 aC.length,aj 2 0 ak.length,aj 3 0 eN.length]]⟩::⟨0,1,List.map aX aC⟩::⟨0,2,List.map a5 ak⟩::⟨0,5,a0 4 eN fU⟩::List.map bk dZ)∧ur J U hk aC ak hw hi hb aC ak eN fU dZ an):=by
 unfold HY at h
 refine dz.go (fn:=Try.f137) [(0,.agg (bg false J)),(1,.ptr 0 hg 0 0),(2,ag U)] Try.func137 (fun _ _=> ?_)
 show WpS _ (bT acK 1) _ ⟨bh 63 [(0,.agg (bg false J)),(1,.ptr 0 hg 0 0),(2,ag U)],[],(⟨hg,4,[[al hk,aj 1 0 aC.length,aj 2 0 ak.length,aj 3 0 hw.length]]⟩::⟨0,1,List.map aX aC⟩::⟨0,2,List.map a5 ak⟩::⟨0,5,a0 4 hw hi⟩::List.map bk hb)⟩
 refine sh [] 0 [(6,ag 0),(3,az 3 0)] [0,1,1] [0,1,2] (fun L=>(3,(bg false J))::L) id ?_
 obtain⟨l0,h⟩:=h
 refine cu [(7,.ptr 3 0 (0+U.toNat) 0)] [3] (True) ?_ (fun q2=> ?_)
 ·
  replace h:=l0
  refine bL [] 1 ?_
  refine nw 4 (some 13) (aj 3 0 hw.length) [(12,.ptr 0 hg 0 3),(11,.ptr 0 hg 0 0),(10,.ptr 0 hg 0 0)] (φ:=hg=hg) rfl ?_
  have aeS:=h
  refine lx 2 (some 15) [(14,ag U)] 3 0 5 aeS ?_
  exact b1 [(7,.ptr 3 0 (0+U.toNat) 0)] trivial
 unfold H4 at h
 obtain⟨k4,h⟩:=h
 refine cu [] [4] ((!(((nth hw U).ar !=1)&&((nth hw U).ar !=2)))=true) ?_ (fun q3=> ?_)
 ·
  replace h:=k4
  obtain⟨gP,h⟩:=h
  refine cu [(27,al (((nth hw U).ar !=1)&&((nth hw U).ar !=2)))] [4] (True) ?_ (fun q4=> ?_)
  ·
   replace h:=gP
   refine bL [] 2 ?_
   obtain⟨fE,h⟩:=h
   refine iC 4 (some 19) [(18,.ptr 3 0 (0+U.toNat) 0),(17,.ptr 3 0 (0+U.toNat) 0),(16,.ptr 3 0 (0+U.toNat) 0)] (a0 4 hw hi) U 3 0 0 (ag (nth hw U).ar) (dF fE.1 fE.2) ?_
   refine nx 2 21 ((nth hw U).ar !=1) [(20,al ((nth hw U).ar !=1))] (fun cH=> ?_) (fun cH=> ?_)
   ·
    replace h:=h cH
    have cV:=h
    refine iC 4 (some 25) [(24,.ptr 3 0 (0+U.toNat) 0),(23,.ptr 3 0 (0+U.toNat) 0),(22,.ptr 3 0 (0+U.toNat) 0)] (a0 4 hw hi) U 3 0 0 (ag (nth hw U).ar) (dF cV.1 cV.2) ?_
    exact b1 [(27,al ((nth hw U).ar !=2)),(26,al ((nth hw U).ar !=2))] trivial (by simp only[cH]<;>kernel_rfl)
   ·
    exact b1 ([(27,al false)]++gh [26,25,24,23,22]) trivial (by simp only[cH]<;>kernel_rfl)
  refine dA (fun ft=> ?_) (fun ft=> ?_)
  ·
   replace h:=h ft
   refine dX [] 3 [(6,ag 2)] [1] [] ?_
   refine hj ?_
   refine b_.ret ?_
   refine mo (ag 2) [ag 2] ?_
   exact⟨hw,hi,hb,2,rfl,rfl,h⟩
  ·
   refine eb ?_
   exact b_.normal (by simp only[ft]<;>rfl) dT
 replace h:=h q3
 refine hB ?_
 obtain⟨lZ,h⟩:=h
 refine cu [(33,bK c0 (nth J.O U).cD),(34,ag ((nth J.O U).cD.length:Int)),(35,ag 0)] [3] ((nth J.O U).cD.length≤4611686018427387904) ?_ (fun ik=> ?_)
 ·
  replace h:=lZ
  refine bL [] 4 ?_
  have fy:=h
  refine k5 4 (some 31) [(30,ag U),(29,bK (dk false) J.O),(28,az 3 2)] (dk false) J.O 5 fy ?_
  refine sLen 3 (some 34) [(33,bK c0 (nth J.O U).cD),(32,.dr (dk false (nth J.O U)) 4)] c0 (nth J.O U).cD (fun hX=> ?_)
  exact b1 [(35,ag 0)] hX
 replace h:=h ik
 unfold H3 at h
 refine fc 0 ?_
 obtain⟨nu,h⟩:=h
 refine j8 (fun(v:Int)=>(⟨(bh 63 [(1,.ptr 0 hg 0 0),(3,az 3 0),(7,.ptr 3 0 (0+U.toNat) 0),(33,bK c0 (nth J.O U).cD),(34,ag ((nth J.O U).cD.length:Int)),(35,ag v)]),[(3,(bg false J))],(⟨hg,4,[[al hk,aj 1 0 aC.length,aj 2 0 ak.length,aj 3 0 hw.length]]⟩::⟨0,1,List.map aX aC⟩::⟨0,2,List.map a5 ak⟩::⟨0,5,a0 4 hw hi⟩::List.map bk hb)⟩:St)) (fun(v:Int)=>ay v) (fun(v:Int)=>aB v) 0 (dt []) nu (fun cL aZ=> ?_)
 replace h:=h cL aZ
 refine dX [] 5 [(36,al (decide (cL<((nth J.O U).cD.length:Int))))] [1] [6] ?_
 obtain⟨jo,h⟩:=h
 refine cu [] [0,1,6] ((decide (cL<((nth J.O U).cD.length:Int)))=true) ?_ (fun iV=> ?_)
 ·
  replace h:=jo
  refine dA (fun jZ=> ?_) (fun jZ=> ?_)
  ·
   refine eb ?_
   exact b_.normal (by simp only[q3,jZ]<;>rfl) dT
  ·
   replace h:=h jZ
   refine iL 0 ?_
   refine b_.exit ?_
   refine dO.exit ?_
   refine ch.here ?_
   refine dR.normal ?_
   refine hB ?_
   refine bL [] 12 ?_
   obtain⟨km,h⟩:=h
   refine s8 2 (some 62) [(61,.ptr 3 0 (0+U.toNat) 0)] [.ptr 3 0 (0+U.toNat) 0] _ (Ia U hg hk aC ak hw hi hb km) (fun r H' ak=>by obtain⟨_,_,_,rfl,_⟩:=ak;rfl) ?_
   rintro r H' ⟨u9,i18,vq,rfl,rfl,jE⟩
   replace h:=h u9 i18 vq jE
   refine dM [] ?_
   refine dR.normal ?_
   refine jO ⟨(bh 63 [(6,ag 0)]),[(3,(bg false J))],(⟨hg,4,[[al hk,aj 1 0 aC.length,aj 2 0 ak.length,aj 3 0 u9.length]]⟩::⟨0,1,List.map aX aC⟩::⟨0,2,List.map a5 ak⟩::⟨0,5,a0 4 u9 i18⟩::List.map bk vq)⟩ (True) ?_ (fun il=> ?_)
   ·
    refine bL [] 13 ?_
    exact b1 [(6,ag 0)] trivial
   refine hj ?_
   refine mo (ag 0) [ag 0] ?_
   exact⟨u9,i18,vq,0,rfl,rfl,h⟩
 replace h:=h iV
 unfold H2 at h
 obtain⟨pH,h⟩:=h
 refine cu [] [6] ((!((nth aC (nth (nth J.O U).cD cL))&&(nth hw U).ao))=true) ?_ (fun h6=> ?_)
 ·
  replace h:=pH
  refine fc 1 ?_
  obtain⟨ls,h⟩:=h
  refine cu [(9,ag (nth (nth J.O U).cD cL))] [6] (True) ?_ (fun g4=> ?_)
  ·
   replace h:=ls
   refine bL [] 6 ?_
   have im:=h
   refine k5 1 (some 37) [] c0 (nth J.O U).cD 1 im ?_
   exact b1 [(9,ag (nth (nth J.O U).cD cL)),(38,ag (nth (nth J.O U).cD cL))] trivial
  obtain⟨oP,h⟩:=h
  refine cu [(51,al ((nth aC (nth (nth J.O U).cD cL))&&(nth hw U).ao))] [0,1,6] (True) ?_ (fun h7=> ?_)
  ·
   replace h:=oP
   refine bL [] 7 ?_
   refine nw 4 (some 42) (aj 1 0 aC.length) [(41,.ptr 0 hg 0 1),(40,.ptr 0 hg 0 0),(39,.ptr 0 hg 0 0)] (φ:=hg=hg) rfl ?_
   obtain⟨Sj,h⟩:=h
   refine lx 2 (some 44) [(43,ag (nth (nth J.O U).cD cL))] 1 0 1 Sj ?_
   refine Pa 1 (some 45) [] aX aC (nth (nth J.O U).cD cL) 4 0 0 (al (nth aC (nth (nth J.O U).cD cL))) (by simpa using Sj.2) ?_
   refine nx 1 46 (nth aC (nth (nth J.O U).cD cL)) [] (fun kn=> ?_) (fun kn=> ?_)
   ·
    replace h:=h kn
    have mi:=h
    refine iC 4 (some 50) [(49,.ptr 3 0 (0+U.toNat) 3),(48,.ptr 3 0 (0+U.toNat) 0),(47,.ptr 3 0 (0+U.toNat) 0)] (a0 4 hw hi) U 4 3 0 (al (nth hw U).ao) (dF mi.1 mi.2) ?_
    exact b1 [(51,al (nth hw U).ao)] trivial (by simp only[q3,iV,kn]<;>kernel_rfl)
   ·
    exact b1 ([(51,al false)]++gh [50,49,48,47]) trivial (by simp only[q3,iV,kn]<;>kernel_rfl)
  unfold H0 at h
  refine dA (fun nt=> ?_) (fun nt=> ?_)
  ·
   replace h:=h nt
   obtain⟨g5,h⟩:=h
   refine eX [] [0,2,2] id (fun H=>ea 3 ⟨0,5,a0 4 (hw.set U.toNat (ae.mk 3 (nth hw U).af (nth hw U).ac (nth hw U).ao (nth hw U).ap)) hi⟩ H) (True) ?_ (fun mU=> ?_)
   ·
    replace h:=g5
    refine bL [] 8 ?_
    have jm:=h
    refine j0 4 none [(54,.ptr 3 0 (0+U.toNat) 0),(53,.ptr 3 0 (0+U.toNat) 0),(52,.ptr 3 0 (0+U.toNat) 0)] (a0 4 hw hi) U 0 1 0 [ag 3] 3 (a0 4 (hw.set U.toNat (ae.mk 3 (nth hw U).af (nth hw U).ac (nth hw U).ao (nth hw U).ap)) hi) (dF jm.1 jm.2) (kb jm.1 jm.2) ?_
    exact b1 [] trivial
   obtain⟨k3,h⟩:=h
   refine eX [] [] id (fun H=>ea 3 ⟨0,5,a0 4 ((hw.set U.toNat (ae.mk 3 (nth hw U).af (nth hw U).ac (nth hw U).ao (nth hw U).ap)).set U.toNat (ae.mk (nth (hw.set U.toNat (ae.mk 3 (nth hw U).af (nth hw U).ac (nth hw U).ao (nth hw U).ap)) U).ar (nth (hw.set U.toNat (ae.mk 3 (nth hw U).af (nth hw U).ac (nth hw U).ao (nth hw U).ap)) U).af (nth (hw.set U.toNat (ae.mk 3 (nth hw U).af (nth hw U).ac (nth hw U).ao (nth hw U).ap)) U).ac (nth (hw.set U.toNat (ae.mk 3 (nth hw U).af (nth hw U).ac (nth hw U).ao (nth hw U).ap)) U).ao J.dl)) hi⟩ H) (True) ?_ (fun k1=> ?_)
   ·
    replace h:=k3
    refine bL [] 9 ?_
    have jn:=h
    refine j0 6 none [(59,.ptr 3 0 (0+U.toNat) 4),(58,.ptr 3 0 (0+U.toNat) 0),(57,ag J.dl),(56,az 3 4),(55,.ptr 3 0 (0+U.toNat) 0)] (a0 4 (hw.set U.toNat (ae.mk 3 (nth hw U).af (nth hw U).ac (nth hw U).ao (nth hw U).ap)) hi) U 4 1 0 [ag J.dl] 3 (a0 4 ((hw.set U.toNat (ae.mk 3 (nth hw U).af (nth hw U).ac (nth hw U).ao (nth hw U).ap)).set U.toNat (ae.mk (nth (hw.set U.toNat (ae.mk 3 (nth hw U).af (nth hw U).ac (nth hw U).ao (nth hw U).ap)) U).ar (nth (hw.set U.toNat (ae.mk 3 (nth hw U).af (nth hw U).ac (nth hw U).ao (nth hw U).ap)) U).af (nth (hw.set U.toNat (ae.mk 3 (nth hw U).af (nth hw U).ac (nth hw U).ao (nth hw U).ap)) U).ac (nth (hw.set U.toNat (ae.mk 3 (nth hw U).af (nth hw U).ac (nth hw U).ao (nth hw U).ap)) U).ao J.dl)) hi) (dF jn.1 jn.2) (kb jn.1 jn.2) ?_
    exact b1 [] trivial
   refine dX [] 10 [(6,ag 0)] [1] [] ?_
   unfold HZ at h
   refine hj ?_
   refine ch.ret ?_
   refine b_.ret ?_
   refine dO.ret ?_
   refine ch.ret ?_
   refine dR.ret ?_
   refine mo (ag 0) [ag 0] ?_
   exact⟨((hw.set U.toNat (ae.mk 3 (nth hw U).af (nth hw U).ac (nth hw U).ao (nth hw U).ap)).set U.toNat (ae.mk (nth (hw.set U.toNat (ae.mk 3 (nth hw U).af (nth hw U).ac (nth hw U).ao (nth hw U).ap)) U).ar (nth (hw.set U.toNat (ae.mk 3 (nth hw U).af (nth hw U).ac (nth hw U).ao (nth hw U).ap)) U).af (nth (hw.set U.toNat (ae.mk 3 (nth hw U).af (nth hw U).ac (nth hw U).ao (nth hw U).ap)) U).ac (nth (hw.set U.toNat (ae.mk 3 (nth hw U).af (nth hw U).ac (nth hw U).ao (nth hw U).ap)) U).ao J.dl)),hi,hb,0,rfl,(by rw[show hw.length=((hw.set U.toNat (ae.mk 3 (nth hw U).af (nth hw U).ac (nth hw U).ao (nth hw U).ap)).set U.toNat (ae.mk (nth (hw.set U.toNat (ae.mk 3 (nth hw U).af (nth hw U).ac (nth hw U).ao (nth hw U).ap)) U).ar (nth (hw.set U.toNat (ae.mk 3 (nth hw U).af (nth hw U).ac (nth hw U).ao (nth hw U).ap)) U).af (nth (hw.set U.toNat (ae.mk 3 (nth hw U).af (nth hw U).ac (nth hw U).ao (nth hw U).ap)) U).ac (nth (hw.set U.toNat (ae.mk 3 (nth hw U).af (nth hw U).ac (nth hw U).ao (nth hw U).ap)) U).ao J.dl)).length by simp]<;>rfl),h⟩
  ·
   refine eb ?_
   refine ch.normal ?_
   exact b_.normal (by simp only[q3,iV,nt]<;>rfl) dT
 replace h:=h h6
 refine bL [] 11 ?_
 refine dM [(35,ag (IntKind.i64.wrap (cL+1))),(60,ag (IntKind.i64.wrap (cL+1)))] ?_
 exact dO.again (IntKind.i64.wrap (cL+1)) h (dt [])
theorem acJ (J:aA) (U:Int) (hg:Nat) (hk:Bool) (aC:List Bool) (ak:List bc) (hw:List ae) (hi:List Nat) (hb:List (List Bool)) (aI:Nj J U hk aC ak hw hi hb):dz Try.prog 137 [.agg (bg false J),.ptr 0 hg 0 0,ag U] (⟨hg,4,[[al hk,aj 1 0 aC.length,aj 2 0 ak.length,aj 3 0 hw.length]]⟩::⟨0,1,List.map aX aC⟩::⟨0,2,List.map a5 ak⟩::⟨0,5,a0 4 hw hi⟩::List.map bk hb) (fun r H'=> ∃(eN:List ae) (fU:List Nat) (dZ:List (List Bool)) (an:Int),r=ag an∧H'=(⟨hg,4,[[al hk,aj 1 0 aC.length,aj 2 0 ak.length,aj 3 0 eN.length]]⟩::⟨0,1,List.map aX aC⟩::⟨0,2,List.map a5 ak⟩::⟨0,5,a0 4 eN fU⟩::List.map bk dZ)∧ur J U hk aC ak hw hi hb aC ak eN fU dZ an):=acL J U hg hk aC ak hw hi hb (cr ((nth J.O U).cD.length:Int) (fun k=>nth aC (nth (nth J.O U).cD k)&&(nth hw U).ao)) (cA ((nth J.O U).cD.length:Int)) (by
 unfold HY
 obtain⟨G,cx,t0,t1,t2,wi⟩:=aI
 have bf:U.toNat<hw.length:=by omega
 have jh:U.toNat<J.O.length:=by omega
 have kx:=cx.cD _ (du jh)
 have nk:=cx.cR
 have dn:=G.ow bf
 have T8:(nth hw U).ar=(nth (cW hk aC ak hw hi hb).O U).ar:=dn.ar
 have vG:(nth hw U).ao=(nth (cW hk aC ak hw hi hb).O U).ao:=dn.ao
 have oC:(((nth hw U).ar !=1)&&((nth hw U).ar !=2))=decide ((nth (cW hk aC ak hw hi hb).O U).ar≠1∧(nth (cW hk aC ak hw hi hb).O U).ar≠2):=by
  rw[Bool.eq_iff_iff,T8];simp
 unfold H4
 rw[oC]
 refine⟨⟨t0,bf⟩,⟨⟨dn.fp,fun _=>dn.fp⟩,fun hc=> ?_⟩,fun hc=>⟨⟨t0,jh⟩,fun aH=> ?_⟩⟩
 ·have hc:=of_decide_eq_true hc
  have e:se (cW hk aC ak hw hi hb) U=2:=by unfold se;rw[if_pos hc]
  exact⟨G,e.symm,by rw[e];rfl⟩
 have hc: ¬_:=of_decide_eq_false (by simpa only[Bool.not_eq_true'] using hc)
 have ie:se (cW hk aC ak hw hi hb) U=0:=by unfold se;rw[if_neg hc]
 unfold H3
 refine⟨c7 (dh _),fun v aZ=>⟨fun hv=>⟨⟨G,t0,t1⟩,fun w i b kg=> ?_⟩,fun hv=> ?_⟩⟩
 ·obtain⟨nG,ki⟩:=kg
  refine⟨nG,ie.symm,?_⟩
  rw[if_pos ie,ki]
  have lU:((nth (cW hk aC ak hw hi hb).O U).ao&&fX (cW hk aC ak hw hi hb) (nth J.O U).cD)=false:=by
   rw[←vG]
   have eo:=l6 (q:=fun x=>nth aC x&&(nth hw U).ao) (gH aZ hv)
   cases hs:(nth hw U).ao with
   | false=>rfl
   | true=>
    rw[Bool.true_and]
    unfold fX
    rw[List.any_eq_false]
    intro x hx
    have:=eo x hx
    simp only[hs,Bool.and_true] at this
    show ¬(nth aC x=true)
    rw[this];simp
  unfold z6
  rw[if_neg (by rw[lU];simp)];rfl
 ·unfold H2
  have b9:=ca aZ hv
  have hx:=kx.2 _ (du b9.2)
  refine⟨⟨b9,⟨⟨hx.1,by omega⟩,fun _=>dn.fp⟩,?_⟩,fun dZ=>cI (cv aH) aZ hv (not_eq dZ)⟩
  unfold H0 HZ
  intro dZ
  have ek:=dn.setState 3
  refine⟨dn.fp,ek.fp,?_⟩
  have fZ:=ek.xg J.dl
  refine⟨fZ.G,ie.symm,?_⟩
  rw[if_pos ie]
  have jS:nth aC (nth (nth J.O U).cD v)=true∧(nth hw U).ao=true:=by simpa using dZ
  have V0:fX (cW hk aC ak hw hi hb) (nth J.O U).cD=true:=by
   unfold fX;rw[List.any_eq_true];exact⟨_,du b9.2,jS.1⟩
  unfold z6
  rw[if_pos (by rw[V0,←vG,jS.2];rfl)]
  exact fZ.gS)
noncomputable def acb:Code:=iw Try.f92
def ace:List Item:=[aq 0,aq 1,aq 2,aq 3,aq 4,aq 5,aq 6,aq 7,aq 8,aq 9]
def acf:List (List Nat):=[[],[0],[],[2],[],[4],rg 2 6,rg 2 7,rg 0 8,rg 0 9]
def HG (dw:jK Prop) (J:aA) (M:Frame) (U:Event):Prop:=
  (((eM J M U.ai)==0)=true→(Nk J U.ai (aa M).ok (aa M).aw (aa M).au (aa M).O (List.range (aa M).O.length) (List.map ae.ac (aa M).O))∧(∀(il:List bc) (zL:List ae),Bw J U.ai (aa M).ok (aa M).aw (aa M).au (aa M).O (List.range (aa M).O.length) (List.map ae.ac (aa M).O) (aa M).aw il zL (List.range (aa M).O.length) (List.map ae.ac (aa M).O)→(dw (List.map ae.ac (aa M).O) (aa M).aw il (List.range (aa M).O.length) (eM J M U.ai) zL)))∧(((eM J M U.ai)==0)=false→dw (List.map ae.ac (aa M).O) (aa M).aw (aa M).au (List.range (aa M).O.length) (eM J M U.ai) (aa M).O)
def HK (dw:jK Prop) (J:aA) (M:Frame) (U:Event):Prop:=
  ((nth M.aw (nth J.bd U.ai))=true→dw (List.map ae.ac (aa M).O) (aa M).aw (aa M).au (List.range (aa M).O.length) 3 (aa M).O)∧((nth M.aw (nth J.bd U.ai))=false→(0≤U.ai∧U.ai.toNat<(aa M).au.length)∧(dw (List.map ae.ac (aa M).O) (aa M).aw ((aa M).au.set U.ai.toNat (bc.mk U.bn (nth (aa M).au U.ai).a2)) (List.range (aa M).O.length) 0 (aa M).O))
def HL (dw:jK Prop) (J:aA) (M:Frame) (U:Event):Prop:=
  ((decide (((gr J M U.ai).length:Int)>0))=true→dw (List.map ae.ac (aa M).O) (aa M).aw (aa M).au (List.range (aa M).O.length) 2 (aa M).O)∧((decide (((gr J M U.ai).length:Int)>0))=false→((0≤U.ai∧U.ai.toNat<J.bd.length)∧(0≤(nth J.bd U.ai)∧(nth J.bd U.ai).toNat<M.aw.length))∧(HK dw J M U))
def HM (ay:dG Prop) (aB:dG Nat) (M:Frame) (aY:List (List Bool)) (b2:List Nat) (bo:Int) (aE:List ae):Prop:=
  (((nth (aE.set bo.toNat (ae.mk (nth aE bo).ar (nth aE bo).af (nth aE bo).ac (nth aE bo).ao (IntKind.i64.wrap ((nth aE bo).ap - 1)))) bo).ap==0)=true→(Bo bo (aa M).ok (aa M).aw (aa M).au (aE.set bo.toNat (ae.mk (nth aE bo).ar (nth aE bo).af (nth aE bo).ac (nth aE bo).ao (IntKind.i64.wrap ((nth aE bo).ap - 1)))) b2 aY)∧(∀(xw:List ae) (i71:List Nat) (vt:List (List Bool)),ul bo (aa M).ok (aa M).aw (aa M).au (aE.set bo.toNat (ae.mk (nth aE bo).ar (nth aE bo).af (nth aE bo).ac (nth aE bo).ao (IntKind.i64.wrap ((nth aE bo).ap - 1)))) b2 aY (aa M).aw (aa M).au xw i71 vt→(ay vt i71 (IntKind.i64.wrap (bo+1)) xw∧aB vt i71 (IntKind.i64.wrap (bo+1)) xw<aB aY b2 bo aE)))∧(((nth (aE.set bo.toNat (ae.mk (nth aE bo).ar (nth aE bo).af (nth aE bo).ac (nth aE bo).ao (IntKind.i64.wrap ((nth aE bo).ap - 1)))) bo).ap==0)=false→ay aY b2 (IntKind.i64.wrap (bo+1)) (aE.set bo.toNat (ae.mk (nth aE bo).ar (nth aE bo).af (nth aE bo).ac (nth aE bo).ao (IntKind.i64.wrap ((nth aE bo).ap - 1))))∧aB aY b2 (IntKind.i64.wrap (bo+1)) (aE.set bo.toNat (ae.mk (nth aE bo).ar (nth aE bo).af (nth aE bo).ac (nth aE bo).ao (IntKind.i64.wrap ((nth aE bo).ap - 1))))<aB aY b2 bo aE)
def HN (ay:dG Prop) (aB:dG Nat) (M:Frame) (aY:List (List Bool)) (b2:List Nat) (bo:Int) (aE:List ae):Prop:=
  ((aE.set bo.toNat (ae.mk (nth aE bo).ar (nth aE bo).af (nth aE bo).ac (nth aE bo).ao (IntKind.i64.wrap ((nth aE bo).ap - 1)))).length=b2.length∧bo.toNat<(aE.set bo.toNat (ae.mk (nth aE bo).ar (nth aE bo).af (nth aE bo).ac (nth aE bo).ao (IntKind.i64.wrap ((nth aE bo).ap - 1)))).length)∧(HM ay aB M aY b2 bo aE)
def HO (ay:dG Prop) (aB:dG Nat) (M:Frame) (aY:List (List Bool)) (b2:List Nat) (bo:Int) (aE:List ae):Prop:=
  ((aE.length=b2.length∧bo.toNat<aE.length)∧(((nth aE bo).ar !=3)=true→ay aY b2 (IntKind.i64.wrap (bo+1)) aE∧aB aY b2 (IntKind.i64.wrap (bo+1)) aE<aB aY b2 bo aE))∧((!((nth aE bo).ar !=3))=true→((aE.length=b2.length∧bo.toNat<aE.length)∧(aE.length=b2.length∧bo.toNat<aE.length))∧(HN ay aB M aY b2 bo aE))
def HP (ay:dG Prop) (aB:dG Nat) (dw:jK Prop) (M:Frame):Prop:=
  ay (List.map ae.ac (aa M).O) (List.range (aa M).O.length) 0 (aa M).O∧ ∀(aY:List (List Bool)) (b2:List Nat) (bo:Int) (aE:List ae),ay aY b2 bo aE→(((decide (bo<((aa M).O.length:Int)))=false→dw aY (aa M).aw (aa M).au b2 0 aE)∧((decide (bo<((aa M).O.length:Int)))=true→(0≤bo∧bo.toNat<aE.length)∧(HO ay aB M aY b2 bo aE)))
def HQ (ay:dG Prop) (aB:dG Nat) (dw:jK Prop) (J:aA) (M:Frame) (U:Event):Prop:=
  ((U.op==5)=true→(0≤U.ai∧U.ai.toNat<(aa M).au.length)∧(dw (List.map ae.ac (aa M).O) (aa M).aw ((aa M).au.set U.ai.toNat (bc.mk (nth (aa M).au U.ai).cy U.bn)) (List.range (aa M).O.length) 0 (aa M).O))∧((U.op==5)=false→((U.op==6)=true→(sT J M U.ai)∧((gr J M U.ai).length≤4611686018427387904→HL dw J M U))∧((U.op==6)=false→((U.op==7)=true→HP ay aB dw M)∧((U.op==7)=false→dw (List.map ae.ac (aa M).O) (aa M).aw (aa M).au (List.range (aa M).O.length) 0 (aa M).O)))
def HR (ay:dG Prop) (aB:dG Nat) (dw:jK Prop) (J:aA) (M:Frame) (U:Event):Prop:=
  ((U.op==3)=true→(0≤U.ai∧U.ai.toNat<(aa M).aw.length)∧(dw (List.map ae.ac (aa M).O) ((aa M).aw.set U.ai.toNat true) (aa M).au (List.range (aa M).O.length) 0 (aa M).O))∧((U.op==3)=false→((U.op==4)=true→(0≤U.ai∧U.ai.toNat<(aa M).aw.length)∧(dw (List.map ae.ac (aa M).O) ((aa M).aw.set U.ai.toNat false) (aa M).au (List.range (aa M).O.length) 0 (aa M).O))∧((U.op==4)=false→HQ ay aB dw J M U))
def HH (ay:dG Prop) (aB:dG Nat) (dw:jK Prop) (J:aA) (M:Frame) (U:Event):Prop:=
  ((U.op==2)=true→(Nj J U.ai (aa M).ok (aa M).aw (aa M).au (aa M).O (List.range (aa M).O.length) (List.map ae.ac (aa M).O))∧(∀(e_:List ae) (i28:List Nat) (kQ:List (List Bool)) (w9:Int),ur J U.ai (aa M).ok (aa M).aw (aa M).au (aa M).O (List.range (aa M).O.length) (List.map ae.ac (aa M).O) (aa M).aw (aa M).au e_ i28 kQ w9→(dw kQ (aa M).aw (aa M).au i28 w9 e_)))∧((U.op==2)=false→HR ay aB dw J M U)
def HI (J:aA) (M:Frame) (an:fA) (aY:List (List Bool)) (b2:List Nat) (aE:List ae) (aG:(List Bool)) (bq:(List bc)) (cT:Int):Prop:=
  (Hq J (aa M).ok aG bq aE b2 aY)∧(∀(oi:List ae) (i82:List Nat) (sd:List (List Bool)),zr J (aa M).ok aG bq aE b2 aY aG bq oi i82 sd→((cT=an.code)∧((aa M).ok=an.frame.ok)∧(aG.length≤4611686018427387904∧aG=an.frame.aw)∧(bq.length≤4611686018427387904∧bq=an.frame.au)∧(j7 oi i82 sd∧oi.length≤4611686018427387904∧(∀x∈sd,List.length x≤4611686018427387904)∧view oi i82 sd=an.frame.O)))
def HJ (ay:dG Prop) (aB:dG Nat) (dw:jK Prop) (J:aA) (M:Frame) (U:Event) (an:fA):Prop:=
  (((x5 J M)∧((!(eV J M))=false→Om J U))∧(((!(eV J M)) || (!(eU J U)))=true→(1=an.code)∧(false=an.frame.ok)∧([]=an.frame.aw)∧([]=an.frame.au)∧([]=an.frame.O)))∧((!((!(eV J M)) || (!(eU J U))))=true→(jr M)∧((((U.op==1)=true→(q7 J M U.ai)∧(HG dw J M U))∧((U.op==1)=false→HH ay aB dw J M U))∧(∀(aY:List (List Bool)) (aG:(List Bool)) (bq:(List bc)) (b2:List Nat) (cT:Int) (aE:List ae),dw aY aG bq b2 cT aE→(HI J M an aY b2 aE aG bq cT))))
def HF (J:aA) (M:Frame) (U:Event) (an:fA) (ay:dG Prop) (aB:dG Nat) (dw:jK Prop):Prop:=
 HJ ay aB dw J M U an
theorem acg (J:aA) (M:Frame) (U:Event) (an:fA) (ay:dG Prop) (aB:dG Nat) (dw:jK Prop) (h:HF J M U an ay aB dw):bZ Try.prog 92 [.agg (bg false J),.agg (bW false M),.agg (je U)] (.agg (sk true an)):=by
 unfold HF at h
 refine dz.go (fn:=Try.f92) [(0,.agg (bg false J)),(1,.agg (bW false M)),(2,.agg (je U))] Try.func92 (fun _ _=> ?_)
 show WpS _ (bT acb 1) _ ⟨bh 133 [(0,.agg (bg false J)),(1,.agg (bW false M)),(2,.agg (je U))],[],[]⟩
 refine WpS.l8 ?_ (hd (s'':=⟨(bh 133 [(0,.agg (bg false J)),(1,.agg (bW false M)),(2,.agg (je U))]),[],[⟨0,4,[]⟩]⟩) (Weak.wI (T:=(bh 133 [(0,.agg (bg false J)),(1,.agg (bW false M)),(2,.agg (je U))])) (L:=[]) (H:=[]) 4) (by kernel_rfl))
 refine p6 [2000007] 0 [(6,az 6 0),(5,az 5 0),(4,az 4 0),(3,az 3 0)] [4] [] [(6,[ag 0,al false,aF,aF,aF]),(5,(je U)),(4,(bW false M)),(3,(bg false J))] [⟨0,4,[]⟩] ?_
 unfold HJ at h
 obtain⟨pK,h⟩:=h
 refine cu [] [4] ((!((!(eV J M)) || (!(eU J U))))=true) ?_ (fun q2=> ?_)
 ·
  replace h:=pK
  obtain⟨iA,h⟩:=h
  refine cu [(20,al ((!(eV J M)) || (!(eU J U))))] [4] (True) ?_ (fun q3=> ?_)
  ·
   replace h:=iA
   refine bL [2000007] 1 ?_
   obtain⟨q4,h⟩:=h
   refine l3 3 (some 13) [(12,.agg (bW false M)),(11,.agg (bg false J))] [.agg (bg false J),.agg (bW false M)] (aco J M q4) (aD.cons (c3.agg (aD.cons (.int _ _) (aD.cons cz (aD.cons cz (aD.cons cz (aD.cons (.int _ _) aD.nil)))))) (aD.cons (c3.agg (aD.cons (.bool _) (aD.cons cz (aD.cons cz (aD.cons cz aD.nil))))) aD.nil)) ?_
   refine nx 2 15 (!(eV J M)) [(14,al (!(eV J M)))] (fun cH=> ?_) (fun cH=> ?_)
   ·
    exact b1 ([(20,al true)]++gh [19,18,17,16]) trivial (by simp only[cH]<;>kernel_rfl)
   ·
    replace h:=h cH
    have cV:=h
    refine l3 3 (some 18) [(17,.agg (je U)),(16,.agg (bg false J))] [.agg (bg false J),.agg (je U)] (acO J U cV) (aD.cons (c3.agg (aD.cons (.int _ _) (aD.cons cz (aD.cons cz (aD.cons cz (aD.cons (.int _ _) aD.nil)))))) (aD.cons (c3.agg (aD.cons (.int _ _) (aD.cons (.int _ _) (aD.cons (.int _ _) aD.nil)))) aD.nil)) ?_
    exact b1 [(20,al (!(eU J U))),(19,al (!(eU J U)))] trivial (by simp only[cH]<;>kernel_rfl)
  refine dA (fun fE=> ?_) (fun fE=> ?_)
  ·
   replace h:=h fE
   refine sh [2000007] 2 [(21,.agg [ag 1,al false,aF,aF,aF])] [] [0,1,1] (fun L=>hM 0 0 (ag 1) L) id ?_
   exact hj (b_.ret (m1 (.agg [ag 1,al false,aF,aF,aF]) (h_.agg (aD.cons (xl h.1) (aD.cons (m3 h.2.1) (aD.cons (qU h.2.2.1) (aD.cons (qU h.2.2.2.1) (aD.cons (qU h.2.2.2.2) aD.nil))))))))
  ·
   refine eb ?_
   exact b_.normal (by simp only[fE]<;>rfl) dT
 replace h:=h q2
 obtain⟨G5,h⟩:=h
 refine eX [(7,.ptr 0 1 0 0)] [4] id (fun _=>(⟨1,4,[[al (aa M).ok,aj 1 0 (aa M).aw.length,aj 2 0 (aa M).au.length,aj 3 0 (aa M).O.length]]⟩::⟨0,1,List.map aX (aa M).aw⟩::⟨0,2,List.map a5 (aa M).au⟩::⟨0,5,a0 4 (aa M).O (List.range (aa M).O.length)⟩::List.map bk (List.map ae.ac (aa M).O))) (True) ?_ (fun gP=> ?_)
 ·
  replace h:=G5
  refine bL [2000007] 3 ?_
  have ik:=h
  refine s9 2 (some 23) [(22,.agg (bW false M))] [.agg (bW false M)] (.agg [al (aa M).ok,aj 1 0 (aa M).aw.length,aj 2 0 (aa M).au.length,aj 3 0 (aa M).O.length]) (⟨0,4,[]⟩::⟨0,1,List.map aX (aa M).aw⟩::⟨0,2,List.map a5 (aa M).au⟩::⟨0,5,a0 4 (aa M).O (List.range (aa M).O.length)⟩::List.map bk (List.map ae.ac (aa M).O)) (Qa M ik) (aD.cons (c3.agg (aD.cons (.bool _) (aD.cons cz (aD.cons cz (aD.cons cz aD.nil))))) aD.nil) BQ (qS Po (by kernel_rfl)) ?_ (er:=by simp[mq,ny,iD])
  refine Cl 1 [(7,.ptr 0 1 0 0)] [(6,[ag 0,al false,aF,aF,aF]),(5,(je U)),(4,(bW false M)),(3,(bg false J))] (⟨1,4,[[al false,aF,aF,aF]]⟩::⟨0,1,List.map aX (aa M).aw⟩::⟨0,2,List.map a5 (aa M).au⟩::⟨0,5,a0 4 (aa M).O (List.range (aa M).O.length)⟩::List.map bk (List.map ae.ac (aa M).O)) ?_
  refine Pc 1 [] (⟨1,4,[[al (aa M).ok,aj 1 0 (aa M).aw.length,aj 2 0 (aa M).au.length,aj 3 0 (aa M).O.length]]⟩::⟨0,1,List.map aX (aa M).aw⟩::⟨0,2,List.map a5 (aa M).au⟩::⟨0,5,a0 4 (aa M).O (List.range (aa M).O.length)⟩::List.map bk (List.map ae.ac (aa M).O)) (φ:=1=1) (ψ:=4≤4) rfl (by decide) ?_
  exact b1 [] trivial
 refine dX [2000007] 4 [(8,ag 0)] [1] [5] ?_
 refine hB ?_
 refine dX [2000007] 5 [(25,ag U.op),(24,az 5 0)] [1] [6] ?_
 obtain⟨rZ,h⟩:=h
 refine JF 0 (fun(v:List (List Bool)×(List Bool)×(List bc)×List Nat×Int×List ae)=>(⟨(bh 133 [(3,az 3 0),(6,az 6 0),(7,.ptr 0 1 0 0),(8,ag (v.2.2.2.2.1))]),[(6,[ag 0,al false,aF,aF,aF]),(3,(bg false J))],(⟨1,4,[[al (aa M).ok,aj 1 0 (v.2.1).length,aj 2 0 (v.2.2.1).length,aj 3 0 (v.2.2.2.2.2).length]]⟩::⟨0,1,List.map aX (v.2.1)⟩::⟨0,2,List.map a5 (v.2.2.1)⟩::⟨0,5,a0 4 (v.2.2.2.2.2) (v.2.2.2.1)⟩::List.map bk (v.1))⟩:St)) (fun v=>dw (v.1) (v.2.1) (v.2.2.1) (v.2.2.2.1) (v.2.2.2.2.1) (v.2.2.2.2.2)) ?_ (fun v c1=> ?_)
 ·
  replace h:=rZ
  refine dX [2000007] 6 [(26,al (U.op==1)),(27,al (U.op==1))] [1] [7] ?_
  refine dA (fun iV=> ?_) (fun iV=> ?_)
  ·
   replace h:=h.1 iV
   obtain⟨g4,h⟩:=h
   refine cu [(8,ag (eM J M U.ai))] [0,3,3,1,1] (True) ?_ (fun jZ=> ?_)
   ·
    replace h:=g4
    refine bL [2000007] 7 ?_
    have hH:=h
    refine l3 5 (some 32) [(31,ag U.ai),(30,az 5 1),(29,.agg (bW false M)),(28,.agg (bg false J))] [.agg (bg false J),.agg (bW false M),ag U.ai] (ads J M U.ai hH) (aD.cons (c3.agg (aD.cons (.int _ _) (aD.cons cz (aD.cons cz (aD.cons cz (aD.cons (.int _ _) aD.nil)))))) (aD.cons (c3.agg (aD.cons (.bool _) (aD.cons cz (aD.cons cz (aD.cons cz aD.nil))))) (aD.cons (c3.hT (.int _ _)) aD.nil))) ?_
    exact b1 [(8,ag (eM J M U.ai))] trivial
   refine dX [2000007] 8 [(34,al ((eM J M U.ai)==0)),(33,ag (eM J M U.ai))] [1] [5] ?_
   unfold HG at h
   refine dA (fun hp=> ?_) (fun hp=> ?_)
   ·
    replace h:=h.1 hp
    refine bL [2000007] 9 ?_
    obtain⟨jE,h⟩:=h
    refine s8 4 (some 38) [(37,ag U.ai),(36,az 5 1),(35,.agg (bg false J))] [.agg (bg false J),.ptr 0 1 0 0,ag U.ai] _ (ac3 J U.ai 1 (aa M).ok (aa M).aw (aa M).au (aa M).O (List.range (aa M).O.length) (List.map ae.ac (aa M).O) jE) (fun r H' ak=>by obtain⟨_,_,rfl,_⟩:=ak;rfl) ?_
    rintro r H' ⟨il,zL,rfl,rfl,h6⟩
    replace h:=h il zL h6
    refine dM [] ?_
    refine ch.normal ?_
    exact gU.normal ((List.map ae.ac (aa M).O),(aa M).aw,il,(List.range (aa M).O.length),(eM J M U.ai),zL) h (dt [5,4])
   ·
    replace h:=h.2 hp
    refine eb ?_
    refine ch.normal ?_
    exact gU.normal ((List.map ae.ac (aa M).O),(aa M).aw,(aa M).au,(List.range (aa M).O.length),(eM J M U.ai),(aa M).O) h (dt [5,4])
  ·
   replace h:=h.2 iV
   refine dX [2000007] 10 [(39,al (U.op==2)),(40,al (U.op==2))] [1] [0,1,7] ?_
   unfold HH at h
   refine dA (fun h7=> ?_) (fun h7=> ?_)
   ·
    replace h:=h.1 h7
    refine bL [2000007] 11 ?_
    obtain⟨jm,h⟩:=h
    refine s8 4 (some 44) [(43,ag U.ai),(42,az 5 1),(41,.agg (bg false J))] [.agg (bg false J),.ptr 0 1 0 0,ag U.ai] _ (acJ J U.ai 1 (aa M).ok (aa M).aw (aa M).au (aa M).O (List.range (aa M).O.length) (List.map ae.ac (aa M).O) jm) (fun r H' ak=>by obtain⟨_,_,_,_,rfl,_⟩:=ak;rfl) ?_
    rintro r H' ⟨e_,i28,kQ,w9,rfl,rfl,k1⟩
    replace h:=h e_ i28 kQ w9 k1
    refine dM [(8,ag w9)] ?_
    refine ch.normal ?_
    exact gU.normal (kQ,(aa M).aw,(aa M).au,i28,w9,e_) h (dt [5,4])
   ·
    replace h:=h.2 h7
    refine dX [2000007] 12 [(45,al (U.op==3)),(46,al (U.op==3))] [1] [0,1,7] ?_
    unfold HR at h
    refine dA (fun k2=> ?_) (fun k2=> ?_)
    ·
     replace h:=h.1 k2
     refine bL [2000007] 13 ?_
     refine nw 2 (some 48) (aj 1 0 (aa M).aw.length) [(47,.ptr 0 1 0 1)] (φ:=1=1) rfl ?_
     obtain⟨Sm,h⟩:=h
     refine lx 3 (some 51) [(50,ag U.ai),(49,az 5 1)] 1 0 1 Sm ?_
     refine s_ 1 none [] aX (aa M).aw U.ai 0 1 0 [al true] 1 true (by simpa using Sm.2) ?_
     refine dM [] ?_
     refine ch.normal ?_
     exact gU.normal ((List.map ae.ac (aa M).O),((aa M).aw.set U.ai.toNat true),(aa M).au,(List.range (aa M).O.length),0,(aa M).O) h (hd (s':=⟨(bh 133 [(3,az 3 0),(6,az 6 0),(7,.ptr 0 1 0 0),(8,ag 0)]),[(6,[ag 0,al false,aF,aF,aF]),(3,(bg false J))],(⟨1,4,[[al (aa M).ok,aj 1 0 (aa M).aw.length,aj 2 0 (aa M).au.length,aj 3 0 (aa M).O.length]]⟩::⟨0,1,List.map aX ((aa M).aw.set U.ai.toNat true)⟩::⟨0,2,List.map a5 (aa M).au⟩::⟨0,5,a0 4 (aa M).O (List.range (aa M).O.length)⟩::List.map bk (List.map ae.ac (aa M).O))⟩) (dt (n:=133) (A':=[(3,az 3 0),(6,az 6 0),(7,.ptr 0 1 0 0),(8,ag 0)]) (L':=[(6,[ag 0,al false,aF,aF,aF]),(3,(bg false J))]) [5,4]) (congrArg (fun z=>(⟨(bh 133 [(3,az 3 0),(6,az 6 0),(7,.ptr 0 1 0 0),(8,ag 0)]),[(6,[ag 0,al false,aF,aF,aF]),(3,(bg false J))],(⟨1,4,[[al (aa M).ok,aj 1 0 z,aj 2 0 (aa M).au.length,aj 3 0 (aa M).O.length]]⟩::⟨0,1,List.map aX ((aa M).aw.set U.ai.toNat true)⟩::⟨0,2,List.map a5 (aa M).au⟩::⟨0,5,a0 4 (aa M).O (List.range (aa M).O.length)⟩::List.map bk (List.map ae.ac (aa M).O))⟩:St)) (show(aa M).aw.length=((aa M).aw.set U.ai.toNat true).length by simp)))
    ·
     replace h:=h.2 k2
     refine dX [2000007] 14 [(52,al (U.op==4)),(53,al (U.op==4))] [1] [0,1,7] ?_
     refine dA (fun g5=> ?_) (fun g5=> ?_)
     ·
      replace h:=h.1 g5
      refine bL [2000007] 15 ?_
      refine nw 2 (some 55) (aj 1 0 (aa M).aw.length) [(54,.ptr 0 1 0 1)] (φ:=1=1) rfl ?_
      obtain⟨So,h⟩:=h
      refine lx 3 (some 58) [(57,ag U.ai),(56,az 5 1)] 1 0 1 So ?_
      refine s_ 1 none [] aX (aa M).aw U.ai 0 1 0 [al false] 1 false (by simpa using So.2) ?_
      refine dM [] ?_
      refine ch.normal ?_
      exact gU.normal ((List.map ae.ac (aa M).O),((aa M).aw.set U.ai.toNat false),(aa M).au,(List.range (aa M).O.length),0,(aa M).O) h (hd (s':=⟨(bh 133 [(3,az 3 0),(6,az 6 0),(7,.ptr 0 1 0 0),(8,ag 0)]),[(6,[ag 0,al false,aF,aF,aF]),(3,(bg false J))],(⟨1,4,[[al (aa M).ok,aj 1 0 (aa M).aw.length,aj 2 0 (aa M).au.length,aj 3 0 (aa M).O.length]]⟩::⟨0,1,List.map aX ((aa M).aw.set U.ai.toNat false)⟩::⟨0,2,List.map a5 (aa M).au⟩::⟨0,5,a0 4 (aa M).O (List.range (aa M).O.length)⟩::List.map bk (List.map ae.ac (aa M).O))⟩) (dt (n:=133) (A':=[(3,az 3 0),(6,az 6 0),(7,.ptr 0 1 0 0),(8,ag 0)]) (L':=[(6,[ag 0,al false,aF,aF,aF]),(3,(bg false J))]) [5,4]) (congrArg (fun z=>(⟨(bh 133 [(3,az 3 0),(6,az 6 0),(7,.ptr 0 1 0 0),(8,ag 0)]),[(6,[ag 0,al false,aF,aF,aF]),(3,(bg false J))],(⟨1,4,[[al (aa M).ok,aj 1 0 z,aj 2 0 (aa M).au.length,aj 3 0 (aa M).O.length]]⟩::⟨0,1,List.map aX ((aa M).aw.set U.ai.toNat false)⟩::⟨0,2,List.map a5 (aa M).au⟩::⟨0,5,a0 4 (aa M).O (List.range (aa M).O.length)⟩::List.map bk (List.map ae.ac (aa M).O))⟩:St)) (show(aa M).aw.length=((aa M).aw.set U.ai.toNat false).length by simp)))
     ·
      replace h:=h.2 g5
      refine dX [2000007] 16 [(59,al (U.op==5)),(60,al (U.op==5))] [1] [0,1,7] ?_
      unfold HQ at h
      refine dA (fun ls=> ?_) (fun ls=> ?_)
      ·
       replace h:=h.1 ls
       refine bL [2000007] 17 ?_
       refine nw 2 (some 62) (aj 2 0 (aa M).au.length) [(61,.ptr 0 1 0 2)] (φ:=1=1) rfl ?_
       obtain⟨Sq,h⟩:=h
       refine lx 5 (some 67) [(66,ag U.bn),(65,az 5 2),(64,ag U.ai),(63,az 5 1)] 2 0 2 Sq ?_
       refine s_ 2 none [(68,.ptr 2 0 (0+U.ai.toNat) 1)] a5 (aa M).au U.ai 1 1 0 [ag U.bn] 2 (bc.mk (nth (aa M).au U.ai).cy U.bn) (by simpa using Sq.2) ?_
       refine dM [] ?_
       refine ch.normal ?_
       exact gU.normal ((List.map ae.ac (aa M).O),(aa M).aw,((aa M).au.set U.ai.toNat (bc.mk (nth (aa M).au U.ai).cy U.bn)),(List.range (aa M).O.length),0,(aa M).O) h (hd (s':=⟨(bh 133 [(3,az 3 0),(6,az 6 0),(7,.ptr 0 1 0 0),(8,ag 0)]),[(6,[ag 0,al false,aF,aF,aF]),(3,(bg false J))],(⟨1,4,[[al (aa M).ok,aj 1 0 (aa M).aw.length,aj 2 0 (aa M).au.length,aj 3 0 (aa M).O.length]]⟩::⟨0,1,List.map aX (aa M).aw⟩::⟨0,2,List.map a5 ((aa M).au.set U.ai.toNat (bc.mk (nth (aa M).au U.ai).cy U.bn))⟩::⟨0,5,a0 4 (aa M).O (List.range (aa M).O.length)⟩::List.map bk (List.map ae.ac (aa M).O))⟩) (dt (n:=133) (A':=[(3,az 3 0),(6,az 6 0),(7,.ptr 0 1 0 0),(8,ag 0)]) (L':=[(6,[ag 0,al false,aF,aF,aF]),(3,(bg false J))]) [5,4]) (congrArg (fun z=>(⟨(bh 133 [(3,az 3 0),(6,az 6 0),(7,.ptr 0 1 0 0),(8,ag 0)]),[(6,[ag 0,al false,aF,aF,aF]),(3,(bg false J))],(⟨1,4,[[al (aa M).ok,aj 1 0 (aa M).aw.length,aj 2 0 z,aj 3 0 (aa M).O.length]]⟩::⟨0,1,List.map aX (aa M).aw⟩::⟨0,2,List.map a5 ((aa M).au.set U.ai.toNat (bc.mk (nth (aa M).au U.ai).cy U.bn))⟩::⟨0,5,a0 4 (aa M).O (List.range (aa M).O.length)⟩::List.map bk (List.map ae.ac (aa M).O))⟩:St)) (show(aa M).au.length=((aa M).au.set U.ai.toNat (bc.mk (nth (aa M).au U.ai).cy U.bn)).length by simp)))
      ·
       replace h:=h.2 ls
       refine dX [2000007] 18 [(69,al (U.op==6)),(70,al (U.op==6))] [1] [0,1,7] ?_
       refine dA (fun jo=> ?_) (fun jo=> ?_)
       ·
        replace h:=h.1 jo
        obtain⟨jp,h⟩:=h
        refine cu [(77,al (decide (((gr J M U.ai).length:Int)>0)))] [0,2,6] ((gr J M U.ai).length≤4611686018427387904) ?_ (fun nu=> ?_)
        ·
         replace h:=jp
         refine bL [2000007] 19 ?_
         have lZ:=h
         refine l3 5 (some 75) [(74,ag U.ai),(73,az 5 1),(72,.agg (bW false M)),(71,.agg (bg false J))] [.agg (bg false J),.agg (bW false M),ag U.ai] (QB J M U.ai lZ) (aD.cons (c3.agg (aD.cons (.int _ _) (aD.cons cz (aD.cons cz (aD.cons cz (aD.cons (.int _ _) aD.nil)))))) (aD.cons (c3.agg (aD.cons (.bool _) (aD.cons cz (aD.cons cz (aD.cons cz aD.nil))))) (aD.cons (c3.hT (.int _ _)) aD.nil))) ?_
         refine sLen 1 (some 76) [] c0 (gr J M U.ai) (fun k4=> ?_)
         exact b1 [(77,al (decide (((gr J M U.ai).length:Int)>0)))] k4
        replace h:=h nu
        unfold HL at h
        refine dA (fun l0=> ?_) (fun l0=> ?_)
        ·
         replace h:=h.1 l0
         refine bL [2000007] 20 ?_
         refine dM [(8,ag 2)] ?_
         refine ch.normal ?_
         exact gU.normal ((List.map ae.ac (aa M).O),(aa M).aw,(aa M).au,(List.range (aa M).O.length),2,(aa M).O) h (dt [5,4])
        ·
         replace h:=h.2 l0
         obtain⟨l1,h⟩:=h
         refine cu [(87,al (nth M.aw (nth J.bd U.ai)))] [0,1,4,1,1] (True) ?_ (fun mj=> ?_)
         ·
          replace h:=l1
          refine m0 [2000007] 21 ace acf [] ?_
          obtain⟨mW,h⟩:=h
          refine r4 7 (some 84) [(83,ag U.ai),(82,az 5 1),(81,bK c0 J.bd),(80,az 3 1),(79,bK aX M.aw),(78,az 4 1)] c0 J.bd 1 mW ?_
          have mV:=h
          refine r4 2 (some 86) [(85,ag (nth J.bd U.ai))] aX M.aw 1 mV ?_
          exact kM [(87,al (nth M.aw (nth J.bd U.ai)))] trivial
         unfold HK at h
         refine dA (fun pI=> ?_) (fun pI=> ?_)
         ·
          replace h:=h.1 pI
          refine bL [2000007] 22 ?_
          refine dM [(8,ag 3)] ?_
          refine ch.normal ?_
          exact gU.normal ((List.map ae.ac (aa M).O),(aa M).aw,(aa M).au,(List.range (aa M).O.length),3,(aa M).O) h (dt [5,4])
         ·
          replace h:=h.2 pI
          refine bL [2000007] 23 ?_
          refine nw 2 (some 89) (aj 2 0 (aa M).au.length) [(88,.ptr 0 1 0 2)] (φ:=1=1) rfl ?_
          obtain⟨Sr,h⟩:=h
          refine lx 5 (some 94) [(93,ag U.bn),(92,az 5 2),(91,ag U.ai),(90,az 5 1)] 2 0 2 Sr ?_
          refine s_ 2 none [(95,.ptr 2 0 (0+U.ai.toNat) 0)] a5 (aa M).au U.ai 0 1 0 [ag U.bn] 2 (bc.mk U.bn (nth (aa M).au U.ai).a2) (by simpa using Sr.2) ?_
          refine dM [] ?_
          refine ch.normal ?_
          exact gU.normal ((List.map ae.ac (aa M).O),(aa M).aw,((aa M).au.set U.ai.toNat (bc.mk U.bn (nth (aa M).au U.ai).a2)),(List.range (aa M).O.length),0,(aa M).O) h (hd (s':=⟨(bh 133 [(3,az 3 0),(6,az 6 0),(7,.ptr 0 1 0 0),(8,ag 0)]),[(6,[ag 0,al false,aF,aF,aF]),(3,(bg false J))],(⟨1,4,[[al (aa M).ok,aj 1 0 (aa M).aw.length,aj 2 0 (aa M).au.length,aj 3 0 (aa M).O.length]]⟩::⟨0,1,List.map aX (aa M).aw⟩::⟨0,2,List.map a5 ((aa M).au.set U.ai.toNat (bc.mk U.bn (nth (aa M).au U.ai).a2))⟩::⟨0,5,a0 4 (aa M).O (List.range (aa M).O.length)⟩::List.map bk (List.map ae.ac (aa M).O))⟩) (dt (n:=133) (A':=[(3,az 3 0),(6,az 6 0),(7,.ptr 0 1 0 0),(8,ag 0)]) (L':=[(6,[ag 0,al false,aF,aF,aF]),(3,(bg false J))]) [5,4]) (congrArg (fun z=>(⟨(bh 133 [(3,az 3 0),(6,az 6 0),(7,.ptr 0 1 0 0),(8,ag 0)]),[(6,[ag 0,al false,aF,aF,aF]),(3,(bg false J))],(⟨1,4,[[al (aa M).ok,aj 1 0 (aa M).aw.length,aj 2 0 z,aj 3 0 (aa M).O.length]]⟩::⟨0,1,List.map aX (aa M).aw⟩::⟨0,2,List.map a5 ((aa M).au.set U.ai.toNat (bc.mk U.bn (nth (aa M).au U.ai).a2))⟩::⟨0,5,a0 4 (aa M).O (List.range (aa M).O.length)⟩::List.map bk (List.map ae.ac (aa M).O))⟩:St)) (show(aa M).au.length=((aa M).au.set U.ai.toNat (bc.mk U.bn (nth (aa M).au U.ai).a2)).length by simp)))
       ·
        replace h:=h.2 jo
        refine dX [2000007] 24 [(96,al (U.op==7)),(97,al (U.op==7))] [1] [0,2,3,2,1] ?_
        refine dA (fun lu=> ?_) (fun lu=> ?_)
        ·
         replace h:=h.1 lu
         refine cu [(100,ag ((aa M).O.length:Int)),(101,ag 0)] [0,1,4] (True) ?_ (fun ml=> ?_)
         ·
          refine bL [2000007] 25 ?_
          refine nw 2 (some 99) (aj 3 0 (aa M).O.length) [(98,.ptr 0 1 0 3)] (φ:=1=1) rfl ?_
          exact b1 [(101,ag 0),(100,ag ((aa M).O.length:Int))] trivial
         unfold HP at h
         refine fc 1 ?_
         obtain⟨mY,h⟩:=h
         refine j8 (fun(v:List (List Bool)×List Nat×Int×List ae)=>(⟨(bh 133 [(3,az 3 0),(6,az 6 0),(7,.ptr 0 1 0 0),(8,ag 0),(100,ag ((aa M).O.length:Int)),(101,ag (v.2.2.1))]),[(6,[ag 0,al false,aF,aF,aF]),(3,(bg false J))],(⟨1,4,[[al (aa M).ok,aj 1 0 (aa M).aw.length,aj 2 0 (aa M).au.length,aj 3 0 (v.2.2.2).length]]⟩::⟨0,1,List.map aX (aa M).aw⟩::⟨0,2,List.map a5 (aa M).au⟩::⟨0,5,a0 4 (v.2.2.2) (v.2.1)⟩::List.map bk (v.1))⟩:St)) (fun(v:List (List Bool)×List Nat×Int×List ae)=>ay (v.1) (v.2.1) (v.2.2.1) (v.2.2.2)) (fun(v:List (List Bool)×List Nat×Int×List ae)=>aB (v.1) (v.2.1) (v.2.2.1) (v.2.2.2)) ((List.map ae.ac (aa M).O),(List.range (aa M).O.length),0,(aa M).O) (dt [5,4]) mY (fun v aZ=> ?_)
         obtain⟨aY,b2,bo,aE⟩:=v
         replace h:=h aY b2 bo aE aZ
         dsimp only
         refine dX [2000007] 26 [(102,al (decide (bo<((aa M).O.length:Int))))] [1] [6] ?_
         obtain⟨w6,h⟩:=h
         refine cu [] [0,1,6] ((decide (bo<((aa M).O.length:Int)))=true) ?_ (fun mm=> ?_)
         ·
          replace h:=w6
          refine dA (fun oR=> ?_) (fun oR=> ?_)
          ·
           refine eb ?_
           exact b_.normal (by simp only[q2,iV,h7,k2,g5,ls,jo,lu,oR]<;>rfl) dT
          ·
           replace h:=h oR
           refine iL 1 ?_
           refine b_.exit ?_
           refine dO.exit ?_
           refine ch.here ?_
           refine ch.normal ?_
           exact gU.normal (aY,(aa M).aw,(aa M).au,b2,0,aE) h (dt [])
         replace h:=h mm
         refine hB ?_
         refine fc 2 ?_
         refine dX [2000007] 27 [(9,ag bo),(103,ag bo)] [1] [6] ?_
         obtain⟨s3,h⟩:=h
         refine cu [(10,.ptr 3 0 (0+bo.toNat) 0)] [0,1,6] (True) ?_ (fun qH=> ?_)
         ·
          replace h:=s3
          refine bL [2000007] 28 ?_
          refine nw 2 (some 105) (aj 3 0 aE.length) [(104,.ptr 0 1 0 3)] (φ:=1=1) rfl ?_
          have aeQ:=h
          refine lx 2 (some 107) [(106,ag bo)] 3 0 5 aeQ ?_
          exact b1 [(10,.ptr 3 0 (0+bo.toNat) 0)] trivial
         unfold HO at h
         obtain⟨s0,h⟩:=h
         refine cu [] [7] ((!((nth aE bo).ar !=3))=true) ?_ (fun mn=> ?_)
         ·
          replace h:=s0
          obtain⟨oe,h⟩:=h
          refine cu [(112,al ((nth aE bo).ar !=3))] [7] (True) ?_ (fun w4=> ?_)
          ·
           replace h:=oe
           refine bL [2000007] 29 ?_
           have oc:=h
           refine iC 4 (some 111) [(110,.ptr 3 0 (0+bo.toNat) 0),(109,.ptr 3 0 (0+bo.toNat) 0),(108,.ptr 3 0 (0+bo.toNat) 0)] (a0 4 aE b2) bo 3 0 0 (ag (nth aE bo).ar) (dF oc.1 oc.2) ?_
           exact b1 [(112,al ((nth aE bo).ar !=3))] trivial
          refine dA (fun od=> ?_) (fun od=> ?_)
          ·
           replace h:=h od
           refine iL 2 ?_
           refine b_.exit ?_
           refine ch.here ?_
           refine dR.normal ?_
           refine bL [2000007] 33 ?_
           refine dM [(101,ag (IntKind.i64.wrap (bo+1))),(127,ag (IntKind.i64.wrap (bo+1)))] ?_
           exact dO.again (aY,b2,(IntKind.i64.wrap (bo+1)),aE) h (dt [])
          ·
           refine eb ?_
           exact b_.normal (by simp only[q2,iV,h7,k2,g5,ls,jo,lu,mm,od]<;>rfl) dT
         replace h:=h mn
         obtain⟨sZ,h⟩:=h
         refine eX [] [7] id (fun H=>ea 3 ⟨0,5,a0 4 (aE.set bo.toNat (ae.mk (nth aE bo).ar (nth aE bo).af (nth aE bo).ac (nth aE bo).ao (IntKind.i64.wrap ((nth aE bo).ap - 1)))) b2⟩ H) (True) ?_ (fun nv=> ?_)
         ·
          replace h:=sZ
          refine bL [2000007] 30 ?_
          obtain⟨kL,h⟩:=h
          refine iC 4 (some 116) [(115,.ptr 3 0 (0+bo.toNat) 4),(114,.ptr 3 0 (0+bo.toNat) 0),(113,.ptr 3 0 (0+bo.toNat) 0)] (a0 4 aE b2) bo 3 4 0 (ag (nth aE bo).ap) (dF kL.1 kL.2) ?_
          have mX:=h
          refine j0 4 none [(119,.ptr 3 0 (0+bo.toNat) 4),(118,.ptr 3 0 (0+bo.toNat) 0),(117,ag (IntKind.i64.wrap ((nth aE bo).ap - 1)))] (a0 4 aE b2) bo 4 1 0 [ag (IntKind.i64.wrap ((nth aE bo).ap - 1))] 3 (a0 4 (aE.set bo.toNat (ae.mk (nth aE bo).ar (nth aE bo).af (nth aE bo).ac (nth aE bo).ao (IntKind.i64.wrap ((nth aE bo).ap - 1)))) b2) (dF mX.1 mX.2) (kb mX.1 mX.2) ?_
          exact b1 [] trivial
         unfold HN at h
         obtain⟨qI,h⟩:=h
         refine cu [(124,al ((nth (aE.set bo.toNat (ae.mk (nth aE bo).ar (nth aE bo).af (nth aE bo).ac (nth aE bo).ao (IntKind.i64.wrap ((nth aE bo).ap - 1)))) bo).ap==0))] [7] (True) ?_ (fun B6=> ?_)
         ·
          replace h:=qI
          refine bL [2000007] 31 ?_
          have pJ:=h
          refine iC 4 (some 123) [(122,.ptr 3 0 (0+bo.toNat) 4),(121,.ptr 3 0 (0+bo.toNat) 0),(120,.ptr 3 0 (0+bo.toNat) 0)] (a0 4 (aE.set bo.toNat (ae.mk (nth aE bo).ar (nth aE bo).af (nth aE bo).ac (nth aE bo).ao (IntKind.i64.wrap ((nth aE bo).ap - 1)))) b2) bo 3 4 0 (ag (nth (aE.set bo.toNat (ae.mk (nth aE bo).ar (nth aE bo).af (nth aE bo).ac (nth aE bo).ao (IntKind.i64.wrap ((nth aE bo).ap - 1)))) bo).ap) (dF pJ.1 pJ.2) ?_
          exact b1 [(124,al ((nth (aE.set bo.toNat (ae.mk (nth aE bo).ar (nth aE bo).af (nth aE bo).ac (nth aE bo).ao (IntKind.i64.wrap ((nth aE bo).ap - 1)))) bo).ap==0))] trivial
         unfold HM at h
         refine dA (fun rX=> ?_) (fun rX=> ?_)
         ·
          replace h:=h.1 rX
          refine bL [2000007] 32 ?_
          obtain⟨rY,h⟩:=h
          refine Pb (⟨1,4,[[al (aa M).ok,aj 1 0 (aa M).aw.length,aj 2 0 (aa M).au.length,aj 3 0 (aE.set bo.toNat (ae.mk (nth aE bo).ar (nth aE bo).af (nth aE bo).ac (nth aE bo).ao (IntKind.i64.wrap ((nth aE bo).ap - 1)))).length]]⟩::⟨0,1,List.map aX (aa M).aw⟩::⟨0,2,List.map a5 (aa M).au⟩::⟨0,5,a0 4 (aE.set bo.toNat (ae.mk (nth aE bo).ar (nth aE bo).af (nth aE bo).ac (nth aE bo).ao (IntKind.i64.wrap ((nth aE bo).ap - 1)))) b2⟩::List.map bk aY) (by rw[show aE.length=(aE.set bo.toNat (ae.mk (nth aE bo).ar (nth aE bo).af (nth aE bo).ac (nth aE bo).ao (IntKind.i64.wrap ((nth aE bo).ap - 1)))).length by simp]<;>rfl) ?_
          refine s8 2 (some 126) [(125,.ptr 3 0 (0+bo.toNat) 0)] [.ptr 3 0 (0+bo.toNat) 0] _ (Ia bo 1 (aa M).ok (aa M).aw (aa M).au (aE.set bo.toNat (ae.mk (nth aE bo).ar (nth aE bo).af (nth aE bo).ac (nth aE bo).ao (IntKind.i64.wrap ((nth aE bo).ap - 1)))) b2 aY rY) (fun r H' ak=>by obtain⟨_,_,_,rfl,_⟩:=ak;rfl) ?_
          rintro r H' ⟨xw,i71,vt,rfl,rfl,sY⟩
          replace h:=h xw i71 vt sY
          refine dM [] ?_
          refine ch.normal ?_
          refine dR.normal ?_
          refine bL [2000007] 33 ?_
          refine dM [(101,ag (IntKind.i64.wrap (bo+1))),(127,ag (IntKind.i64.wrap (bo+1)))] ?_
          exact dO.again (vt,i71,(IntKind.i64.wrap (bo+1)),xw) h (dt [])
         ·
          replace h:=h.2 rX
          refine eb ?_
          refine ch.normal ?_
          refine dR.normal ?_
          refine bL [2000007] 33 ?_
          refine dM [(101,ag (IntKind.i64.wrap (bo+1))),(127,ag (IntKind.i64.wrap (bo+1)))] ?_
          exact dO.again (aY,b2,(IntKind.i64.wrap (bo+1)),(aE.set bo.toNat (ae.mk (nth aE bo).ar (nth aE bo).af (nth aE bo).ac (nth aE bo).ao (IntKind.i64.wrap ((nth aE bo).ap - 1))))) h (hd (s':=⟨(bh 133 [(3,az 3 0),(6,az 6 0),(7,.ptr 0 1 0 0),(8,ag 0),(100,ag ((aa M).O.length:Int)),(101,ag (IntKind.i64.wrap (bo+1)))]),[(6,[ag 0,al false,aF,aF,aF]),(3,(bg false J))],(⟨1,4,[[al (aa M).ok,aj 1 0 (aa M).aw.length,aj 2 0 (aa M).au.length,aj 3 0 aE.length]]⟩::⟨0,1,List.map aX (aa M).aw⟩::⟨0,2,List.map a5 (aa M).au⟩::⟨0,5,a0 4 (aE.set bo.toNat (ae.mk (nth aE bo).ar (nth aE bo).af (nth aE bo).ac (nth aE bo).ao (IntKind.i64.wrap ((nth aE bo).ap - 1)))) b2⟩::List.map bk aY)⟩) (dt (n:=133) (A':=[(3,az 3 0),(6,az 6 0),(7,.ptr 0 1 0 0),(8,ag 0),(100,ag ((aa M).O.length:Int)),(101,ag (IntKind.i64.wrap (bo+1)))]) (L':=[(6,[ag 0,al false,aF,aF,aF]),(3,(bg false J))]) []) (congrArg (fun z=>(⟨(bh 133 [(3,az 3 0),(6,az 6 0),(7,.ptr 0 1 0 0),(8,ag 0),(100,ag ((aa M).O.length:Int)),(101,ag (IntKind.i64.wrap (bo+1)))]),[(6,[ag 0,al false,aF,aF,aF]),(3,(bg false J))],(⟨1,4,[[al (aa M).ok,aj 1 0 (aa M).aw.length,aj 2 0 (aa M).au.length,aj 3 0 z]]⟩::⟨0,1,List.map aX (aa M).aw⟩::⟨0,2,List.map a5 (aa M).au⟩::⟨0,5,a0 4 (aE.set bo.toNat (ae.mk (nth aE bo).ar (nth aE bo).af (nth aE bo).ac (nth aE bo).ao (IntKind.i64.wrap ((nth aE bo).ap - 1)))) b2⟩::List.map bk aY)⟩:St)) (show aE.length=(aE.set bo.toNat (ae.mk (nth aE bo).ar (nth aE bo).af (nth aE bo).ac (nth aE bo).ao (IntKind.i64.wrap ((nth aE bo).ap - 1)))).length by simp)))
        ·
         replace h:=h.2 lu
         refine eb ?_
         refine ch.normal ?_
         exact gU.normal ((List.map ae.ac (aa M).O),(aa M).aw,(aa M).au,(List.range (aa M).O.length),0,(aa M).O) h (dt [5,4])
 obtain⟨aY,aG,bq,b2,cT,aE⟩:=v
 replace h:=h aY aG bq b2 cT aE c1
 dsimp only
 unfold HI at h
 refine hB ?_
 refine bL [2000007] 34 ?_
 obtain⟨B7,h⟩:=h
 refine s8 2 (some 129) [(128,.agg (bg false J))] [.agg (bg false J),.ptr 0 1 0 0] _ (Qv J 1 (aa M).ok aG bq aE b2 aY B7) (fun r H' ak=>by obtain⟨_,_,_,rfl,_⟩:=ak;rfl) ?_
 rintro r H' ⟨oi,i82,sd,rfl,rfl,ze⟩
 replace h:=h oi i82 sd ze
 refine dM [] ?_
 refine dR.normal ?_
 refine jO ⟨(bh 133 [(6,az 6 0)]),[(6,[ag cT,al (aa M).ok,aj 1 0 aG.length,aj 2 0 bq.length,aj 3 0 oi.length]),(3,(bg false J))],(⟨1,4,[[al (aa M).ok,aj 1 0 aG.length,aj 2 0 bq.length,aj 3 0 oi.length]]⟩::⟨0,1,List.map aX aG⟩::⟨0,2,List.map a5 bq⟩::⟨0,5,a0 4 oi i82⟩::List.map bk sd)⟩ (True) ?_ (fun s4=> ?_)
 ·
  refine bL [2000007] 35 ?_
  refine nw 2 (some 131) (.agg [al (aa M).ok,aj 1 0 aG.length,aj 2 0 bq.length,aj 3 0 oi.length]) [(130,ag cT)] (φ:=1=1) rfl ?_
  exact b1 [(132,.agg [ag cT,al (aa M).ok,aj 1 0 aG.length,aj 2 0 bq.length,aj 3 0 oi.length])] trivial
 exact hj (m1 (.agg [ag cT,al (aa M).ok,aj 1 0 aG.length,aj 2 0 bq.length,aj 3 0 oi.length]) (h_.agg (aD.cons (xl h.1) (aD.cons (m3 h.2.1) (aD.cons (qT (sz:=1) (by simp) rfl (vz) h.2.2.1) (aD.cons (qT (sz:=2) (by simp) rfl (xU) h.2.2.2.1) (aD.cons (Cr (s:=4) (ws:=oi) (ids:=i82) (bs:=sd) (by simp) rfl (fun id k h=>by simpa using h) h.2.2.2.2) aD.nil)))))))
theorem aca (J:aA) (M:Frame) (U:Event) (aI:Cj J M U):bZ Try.prog 92 [.agg (bg false J),.agg (bW false M),.agg (je U)] (.agg (sk true (gf J M U))):=acg J M U (gf J M U) (fun bs is v ws=>cr M.O.length (fun _=>false) v∧gk ws is bs∧view ws is bs=hZ J v.toNat M.O) (fun _ _ v _=>cA M.O.length v) (fun bs o q is c ws=>gk ws is bs∧c=fe J M U∧Frame.mk M.ok o q (view ws is bs)=jC J M U) (by
 unfold HF HJ
 have hs:jr M:=aI
 have lV:=hs
 obtain⟨xC,ol,zP,vf⟩:=lV
 refine⟨⟨⟨hs,fun hk=> ?_⟩,fun hc=> ?_⟩,fun hc=> ?_⟩
 ·have hk:eV J M=true:=by simpa using hk
  have h1:=(rq hk).in.cR
  exact⟨by omega,by omega⟩
 ·have hc: ¬(eV J M&&eU J U)=true:=by
   intro h;rw[Bool.and_eq_true] at h;rw[h.1,h.2] at hc;cases hc
  have e:gf J M U=⟨1,⟨false,[],[],[]⟩⟩:=by unfold gf;rw[if_neg hc]
  rw[e];exact⟨rfl,rfl,rfl,rfl,rfl⟩
 have hc:eV J M=true∧eU J U=true:=by simpa using hc
 obtain⟨hk,he⟩:=hc
 have hf:=rq hk
 have cx:=hf.in
 have c5:=hf.fr
 have aL:=c5.O
 have qm:=c5.aw
 have kW:=c5.au
 have yx:=cx.O
 have nk:=cx.cR
 have wo:=cx.sw
 have EU:gf J M U=⟨fe J M U,d_ J (jC J M U)⟩:=by unfold gf;rw[if_pos (by rw[hk,he];rfl)]
 obtain⟨fj,fO,fu⟩:=vO M.O
 have lj:gk M.O (List.range M.O.length) (M.O.map ae.ac):=⟨fj,fO,fun b hb=>by
  obtain⟨h,bX,rfl⟩:=List.mem_map.1 hb;exact vf h bX⟩
 have Bf:cW (aa M).ok (aa M).aw (aa M).au (aa M).O (List.range (aa M).O.length) (List.map ae.ac (aa M).O)=M:=by
  show Frame.mk M.ok M.aw M.au (view M.O (List.range M.O.length) (List.map ae.ac M.O))=M
  rw[fu]
 have LM:view (aa M).O (List.range (aa M).O.length) (List.map ae.ac (aa M).O)=M.O:=fu
 have lU: ∀c:Int,c=fe J M U→c≠0→gk M.O (List.range M.O.length) (M.O.map ae.ac)∧c=fe J M U∧Frame.mk M.ok M.aw M.au (view M.O (List.range M.O.length) (M.O.map ae.ac))=jC J M U:=fun c hc ck=>⟨lj,hc,by
  unfold jC;rw[if_neg (by rw[←hc];exact ck),fu]⟩
 have EO:fe J M U=0→jC J M U=ic J M U:=fun h=>by unfold jC;rw[if_pos h]
 refine⟨hs,⟨fun h1=> ?_,fun h1=> ?_⟩,fun bs o q is c ws c1=> ?_⟩
 ·have h1:U.op=1:=by simpa using h1
  have br:=ri he (.inl h1)
  have rz:fe J M U=eM J M U.ai:=by unfold fe;rw[if_pos h1]
  unfold HG
  refine⟨⟨hf,br.1,br.2⟩,fun aP=>⟨⟨lj,cx,br.1,by show U.ai<(M.O.length:Int);omega,br.2,kW⟩,fun q w kg=> ?_⟩,fun aP=> ?_⟩
  ·have aP:eM J M U.ai=0:=by simpa using aP
   obtain⟨ak,G,hv⟩:=kg
   rw[LM] at hv
   refine⟨G,rz.symm,?_⟩
   rw[EO (by rw[rz,aP])]
   unfold ic
   rw[if_pos h1,hv,ak];rfl
  ·have aP: ¬eM J M U.ai=0:=by simpa using aP
   exact lU _ rz.symm aP
 ·have h1: ¬U.op=1:=by simpa using h1
  unfold HH
  refine⟨fun h2=> ?_,fun h2=> ?_⟩
  ·have h2:U.op=2:=by simpa using h2
   have br:=ri he (.inr h2)
   refine⟨⟨lj,cx,br.1,by show U.ai<(M.O.length:Int);omega,br.2,qm⟩,fun w i b r kg=> ?_⟩
   unfold ur at kg
   rw[Bf,LM] at kg
   obtain⟨G,aK,hv⟩:=kg
   have rz:fe J M U=se M U.ai:=by unfold fe;rw[if_neg h1,if_pos h2];rfl
   refine⟨G,aK.trans rz.symm,?_⟩
   unfold jC
   rw[rz,hv]
   by_cases aP:se M U.ai=0
   ·rw[if_pos aP,if_pos aP]
    unfold ic z6
    rw[if_neg h1,if_pos h2,LP c5 br.1 br.2]
    split<;>rfl
   ·rw[if_neg aP,if_neg aP];rfl
  have h2: ¬U.op=2:=by simpa using h2
  have ok: ∀(o:List Bool) (q:List bc),fe J M U=0→ic J M U={M with aw:=o,au:=q}→gk M.O (List.range M.O.length) (M.O.map ae.ac)∧0=fe J M U∧Frame.mk M.ok o q (view M.O (List.range M.O.length) (M.O.map ae.ac))=jC J M U:=fun o q hc bi=>⟨lj,hc.symm,by rw[EO hc,fu,bi]⟩
  unfold HR
  refine⟨fun aN=> ?_,fun aN=>⟨fun be=> ?_,fun be=> ?_⟩⟩
  ·have aN:U.op=3:=by simpa using aN
   have br:=DW he (.inl aN)
   refine⟨⟨br.1,by show U.ai.toNat<M.aw.length;omega⟩,ok _ _ ?_ ?_⟩
   ·unfold fe;rw[if_neg h1,if_neg h2,if_neg (by omega)]
   ·unfold ic;rw[if_neg h1,if_neg h2,if_pos (.inl aN),aN];rfl
  ·have be:U.op=4:=by simpa using be
   have br:=DW he (.inr be)
   refine⟨⟨br.1,by show U.ai.toNat<M.aw.length;omega⟩,ok _ _ ?_ ?_⟩
   ·unfold fe;rw[if_neg h1,if_neg h2,if_neg (by omega)]
   ·unfold ic;rw[if_neg h1,if_neg h2,if_pos (.inr be),be];rfl
  have ae_: ¬U.op=3:=by simpa using aN
  have afa: ¬U.op=4:=by simpa using be
  have aN: ¬(U.op=3∨U.op=4):=by omega
  unfold HQ
  refine⟨fun ci=> ?_,fun ci=> ?_⟩
  ·have ci:U.op=5:=by simpa using ci
   have br:=vM he (.inl ci)
   refine⟨⟨br.1,by show U.ai.toNat<M.au.length;omega⟩,ok _ _ ?_ ?_⟩
   ·unfold fe;rw[if_neg h1,if_neg h2,if_neg (by omega)]
   ·unfold ic;rw[if_neg h1,if_neg h2,if_neg aN,if_pos ci];rfl
  have ci: ¬U.op=5:=by simpa using ci
  refine⟨fun cK=> ?_,fun cK=>⟨fun gC=> ?_,fun gC=> ?_⟩⟩
  ·have cK:U.op=6:=by simpa using cK
   have br:=vM he (.inr cK)
   have jT:fe J M U=if iR J M U.ai=true then 2 else if kj J M U.ai=true then 3 else 0:=by unfold fe;rw[if_neg h1,if_neg h2,if_pos cK]
   refine⟨⟨hf,br.1,br.2⟩,fun _=> ?_⟩
   unfold HL HK
   have yD:=cx.bd _ (du (show U.ai.toNat<J.bd.length by omega))
   refine⟨fun hc=> ?_,fun hc=>⟨⟨⟨br.1,by omega⟩,yD.1,by omega⟩,fun aC=> ?_,fun aC=>⟨⟨br.1,by show _<M.au.length;omega⟩,ok _ _ ?_ ?_⟩⟩⟩
   ·rw[if_pos (show iR J M U.ai=true from hc)] at jT
    exact lU 2 jT.symm (by decide)
   ·rw[if_neg (show ¬iR J M U.ai=true by rw[show iR J M U.ai=false from hc];simp),if_pos (show kj J M U.ai=true from aC)] at jT
    exact lU 3 jT.symm (by decide)
   ·rw[if_neg (show ¬iR J M U.ai=true by rw[show iR J M U.ai=false from hc];simp),if_neg (show ¬kj J M U.ai=true by rw[show kj J M U.ai=false from aC];simp)] at jT
    exact jT
   ·unfold ic;rw[if_neg h1,if_neg h2,if_neg aN,if_neg ci,if_pos cK];rfl
  ·have cK: ¬U.op=6:=by simpa using cK
   have gC:U.op=7:=by simpa using gC
   have jT:fe J M U=0:=by unfold fe;rw[if_neg h1,if_neg h2,if_neg cK]
   unfold HP
   refine⟨⟨c7 (dh _),lj,fu⟩,fun bs is v ws aZ=> ?_⟩
   obtain⟨aZ,G,jU⟩:=aZ
   have Bj:ws.length=M.O.length:=by rw[←i_ G.ok,jU,zF]
   refine⟨fun hv=>⟨G,jT.symm,?_⟩,fun hv=> ?_⟩
   ·have ki: ¬v<(M.O.length:Int):=of_decide_eq_false hv
    have a3:=aZ.1
    have hb:=aZ.2.1
    rw[EO jT,jU,show v.toNat=M.O.length by omega]
    unfold ic;rw[if_neg h1,if_neg h2,if_neg aN,if_neg ci,if_neg cK,if_pos gC];rfl
   ·have b9:=ca aZ hv
    have bf:v.toNat<ws.length:=by omega
    have wb:v.toNat<J.O.length:=by omega
    have dn:dg (hZ J v.toNat M.O) is v (nth (hZ J v.toNat M.O) v) ws bs:=dg.start G.ok G.kI bf jU G.len
    have bm:=cI (by omega) aZ hv rfl
    have qo:=jL (show(M.O.length:Int)≤4611686018427387904 by omega) aZ.1 (of_decide_eq_true hv)
    have ek:=dn.xg (IntKind.i64.wrap ((nth ws v).ap - 1))
    have fin: ∀{c9:List Nat} {ks:List ae} {ma:List (List Bool)} {x:ae},dg (hZ J v.toNat M.O) c9 v x ks ma→x=lz J v.toNat (nth (hZ J v.toNat M.O) v)→(cr M.O.length (fun _=>false) (IntKind.i64.wrap (v+1))∧gk ks c9 ma∧view ks c9 ma=hZ J (IntKind.i64.wrap (v+1)).toNat M.O)∧cA M.O.length (IntKind.i64.wrap (v+1))<cA M.O.length v:=fun F hx=>by
     refine⟨⟨bm.1,F.G,?_⟩,bm.2⟩
     rw[F.gS,hx,qo,show(v+1).toNat=v.toNat+1 by omega]
     show _=(hZ J v.toNat M.O).set v.toNat (lz J v.toNat (nth (hZ J v.toNat M.O) (v.toNat:Int)))
     rw[jD b9.1]
    have br:(nth (ws.set v.toNat (ae.mk (nth ws v).ar (nth ws v).af (nth ws v).ac (nth ws v).ao (IntKind.i64.wrap ((nth ws v).ap - 1)))) v).ap=IntKind.i64.wrap ((nth ws v).ap - 1):=ek.ap
    have EG:a4 J (v.toNat:Int)=a4 J v:=by rw[Int.toNat_of_nonneg b9.1]
    unfold HO HN HM
    rw[br,dn.ap,dn.ar]
    rw[dn.ap,dn.ar] at ek
    refine⟨⟨b9.1,bf⟩,⟨dn.fp,fun aN=>fin dn ?_⟩,fun aN=>⟨⟨dn.fp,dn.fp⟩,ek.fp,fun aT=>⟨⟨ek.G,b9.1,by have:=ek.lt;omega⟩,fun w i b kg=> ?_⟩,fun aT=>fin ek ?_⟩⟩
    ·unfold lz;rw[if_neg (by simpa using aN)]
    ·obtain⟨nG,ki⟩:=kg
     refine fin (ek.again nG ki) ?_
     have hb:=IL c5 v.toNat
     have dZ:=LP hb b9.1 (by omega)
     unfold lz
     rw[if_pos (by simpa using aN),if_pos (by simpa using aT),EG,←dZ,ek.wR]
    ·unfold lz;rw[if_pos (by simpa using aN),if_neg (by simpa using aT)]
  ·have cK: ¬U.op=6:=by simpa using cK
   have gC: ¬U.op=7:=by simpa using gC
   refine ok _ _ ?_ ?_
   ·unfold fe;rw[if_neg h1,if_neg h2,if_neg cK]
   ·unfold ic;rw[if_neg h1,if_neg h2,if_neg aN,if_neg ci,if_neg cK,if_neg gC];rfl
 ·obtain⟨G,hc,bi⟩:=c1
  have b9:=ZP c5 he
  have ph:cW (aa M).ok o q ws is bs=jC J M U:=bi
  have kX:=qQ J (jC J M U) (jC J M U).O.length
  unfold HI
  refine⟨⟨G,cx,by rw[ph];exact b9⟩,fun w i b kg=> ?_⟩
  obtain⟨nG,ki⟩:=kg
  rw[ph] at ki
  rw[←bi] at b9
  have aC:=b9.aw
  have ak:=b9.au
  replace aC:(o.length:Int)=J.ah:=aC
  replace ak:q.length=J.bd.length:=ak
  have Bj:w.length=(jC J M U).O.length:=by rw[←i_ nG.ok,ki];exact oT _ _ _
  have hml:(jC J M U).O.length=J.O.length:=by rw[←bi];exact b9.O
  rw[EU]
  refine⟨hc,?_,⟨by omega,?_⟩,⟨by omega,?_⟩,nG.ok,by omega,fun x hx=>by have:=nG.len x hx;omega,ki⟩
  ·show M.ok=(d_ J (jC J M U)).ok
   unfold d_;rw[kX.1,←bi]
  ·show o=(d_ J (jC J M U)).aw
   unfold d_;rw[kX.2.1,←bi]
  ·show q=(d_ J (jC J M U)).au
   unfold d_;rw[kX.2.2,←bi])
def acd:eg Try.prog:=⟨92,[.df,.frame,.fI],[.done],some fun x=>Cj x.1 x.2.1 x.2.2.1,fun x=>((gf x.1 x.2.1 x.2.2.1),()),fun x h=>aca x.1 x.2.1 x.2.2.1 h⟩
def adH:List Item:=[aq 0,aq 1,aq 2,aq 3,aq 4,aq 5,aq 6,aq 7,aq 8,aq 9]
def adI:List (List Nat):=[[],[0],[0,1],[0,1,2],[],[4],[4,5],[4,5,6],rg 4 8,rg 0 9]
def adJ:List Item:=[aq 0,aq 1,aq 2,aq 3,aq 4,aq 5,aq 6,aq 7,aq 8,aq 9,aq 10]
def adK:List (List Nat):=[[],[0],[0,1],[0,1,2],[],[4],[4,5],[4,5,6],rg 0 8,rg 0 9,rg 0 10]
def Q7 (c c':a_) (an:Int):Prop:=
  ((a_.mk c.code (IntKind.i64.wrap (c.pos+1)) (IntKind.u64.wrap ((IntKind.u64.wrap (c.tb*6364136223846793005))+1442695040888963407)))=c')∧((IntKind.i64.wrap ((IntKind.u64.wrap (((BitVec.ofInt IntKind.u64.bits ((IntKind.u64.wrap ((IntKind.u64.wrap (c.tb*6364136223846793005))+1442695040888963407)).fdiv (2 ^ (min (40:Int).toNat IntKind.u64.bits)))&&&BitVec.ofInt IntKind.u64.bits 255).toNat:Int)))))=an)
def Q8 (c c':a_) (an:Int):Prop:=
  ((decide (c.pos<(c.code.length:Int)))=true→(0≤c.pos∧c.pos.toNat<c.code.length)∧(((a_.mk c.code (IntKind.i64.wrap (c.pos+1)) (IntKind.u64.wrap ((IntKind.u64.wrap ((IntKind.u64.wrap (c.tb*6364136223846793005))+(IntKind.u64.wrap (((nth c.code c.pos).toNat:Int)))))+1442695040888963407)))=c')∧((IntKind.i64.wrap (((nth c.code c.pos).toNat:Int)))=an)))∧((!(decide (c.pos<(c.code.length:Int))))=true→(0≤(40:Int))∧(Q7 c c' an))
def Q6 (c c':a_) (an:Int):Prop:=
 Q8 c c' an
theorem adF (hg:Nat) (c:a_) (aI:bV 1 c):iI Try.prog 163 hg (jP hg [.p] ()) (b6 false .c4 c) (b6 false .c4 (ln c)) (kS [.int] ((mR c),())):=(fun(h:Q6 c (ln c) (mR c))=>iI.run (hg:=hg) (ce:= .c4) (l:=[.p]) (rs:=[.int]) (x:=()) (c:=c) (c':=(ln c)) (r:=((mR c),())) ⟨68,ec,[]⟩ ⟨[],[(1,adH,adI),(2,adJ,adK)],[],[],[]⟩ .nil Try.func163 h) (by
 unfold Q6 Q8 Q7 ln mR
 cases hb:decide (c.pos<(c.code.length:Int)) with
 | true=>
  have h1:c.pos<(c.code.length:Int):=by simpa using hb
  exact⟨fun _=>⟨⟨aI.1,by have:=aI.1;omega⟩,rfl,rfl⟩,fun h=>(by cases h)⟩
 | false=>exact⟨fun h=>(by cases h),fun _=>⟨by decide,rfl,rfl⟩⟩)
def adG:lc Try.prog:=⟨163,.c4,[.p],[.int],fun x c=>bV 1 c,fun x c=>ln c,fun x c=>((mR c),()),fun g x c h=>adF g c h⟩
def Ra (M:Int) (c c':a_) (an:Int):Prop:=
 ((decide (M≤1))=true→(c=c')∧(0=an))∧((!(decide (M≤1)))=true→(bV 1 c)∧(((decide (M>200))=true→bV 1 (ln c))∧((M≠0)∧(((bif (decide (M>200)) then(ln (ln c)) else(ln c))=c')∧(((bif (decide (M>200)) then(IntKind.i64.wrap ((IntKind.i64.wrap ((mR c)*256))+(mR (ln c)))) else(mR c)).tmod M)=an)))))
theorem adN (hg:Nat) (M:Int) (c:a_) (aI:iz M c):iI Try.prog 148 hg (jP hg [.p,.v .int] (M,())) (b6 false .c4 c) (b6 false .c4 (bM M c)) (kS [.int] ((cE M c),())):=(fun(h:Ra M c (bM M c) (cE M c))=>iI.run (hg:=hg) (ce:= .c4) (l:=[.p,.v .int]) (rs:=[.int]) (x:=(M,())) (c:=c) (c':=(bM M c)) (r:=((cE M c),())) ⟨20,ec,[]⟩ ⟨[],[],[],[adG],[]⟩ .nil Try.func148 h) (by
 unfold Ra bM cE
 refine⟨fun h=> ?_,fun h=> ?_⟩
 ·have h:M≤1:=by simpa using h
  rw[if_pos h,if_pos h];exact⟨rfl,rfl⟩
 ·have h: ¬M≤1:=by simpa using h
  rw[if_neg h,if_neg h]
  exact⟨aI.mono (by omega),fun _=>bV.next (k:=1) aI (by omega),by omega,rfl,rfl⟩)
def zz:lc Try.prog:=⟨148,.c4,[.p,.v .int],[.int],fun x c=>iz x.1 c,fun x c=>bM x.1 c,fun x c=>((cE x.1 c),()),fun g x c h=>adN g x.1 c h⟩
abbrev mw (r:Type):Type:=a_→Nat→(List Int)→Int→r
def Rq (ay:mw Prop) (aB:mw Nat) (M:Int) (cZ:(List Int)) (bN:a_) (aQ:Nat) (aG:(List Int)) (v10:Int):Prop:=
  (((!(meets [(cE M bN)] aG))&&(!(meets [(cE M bN)] cZ)))=true→((aG.length+[(cE M bN)].length)*8≤140737488355328∧aG.length+[(cE M bN)].length≤4611686018427387904)∧(ay (bM M bN) (aQ+1) (aG++[(cE M bN)]) (IntKind.i64.wrap (v10 - 1))∧aB (bM M bN) (aQ+1) (aG++[(cE M bN)]) (IntKind.i64.wrap (v10 - 1))<aB bN aQ aG v10))∧(((!(meets [(cE M bN)] aG))&&(!(meets [(cE M bN)] cZ)))=false→ay (bM M bN) aQ aG (IntKind.i64.wrap (v10 - 1))∧aB (bM M bN) aQ aG (IntKind.i64.wrap (v10 - 1))<aB bN aQ aG v10)
def Rr (ay:mw Prop) (aB:mw Nat) (M U:Int) (cZ:(List Int)) (c c':a_) (an:(List Int)):Prop:=
  (iz (IntKind.i64.wrap (U+1)) c)∧(ay (bM (IntKind.i64.wrap (U+1)) c) 0 ([]:List Int) (cE (IntKind.i64.wrap (U+1)) c)∧ ∀(bN:a_) (aQ:Nat) (aG:(List Int)) (v10:Int),ay bN aQ aG v10→(((decide (v10>0))=false→(bN=c')∧(aG.length≤4611686018427387904∧aG=an))∧((decide (v10>0))=true→(iz M bN)∧((aG.length≤4611686018427387904)∧(Rq ay aB M cZ bN aQ aG v10)))))
def Rp (M:Int) (U:Int) (cZ:(List Int)) (c c':a_) (an:(List Int)) (ay:mw Prop) (aB:mw Nat):Prop:=
 Rr ay aB M U cZ c c' an
theorem adY (hg:Nat) (M:Int) (U:Int) (cZ:(List Int)) (c:a_) (aI:zw M U cZ c):iI Try.prog 149 hg (jP hg [.p,.v .int,.v .int,.v (.l .int)] (M,U,cZ,())) (b6 false .c4 c) (b6 false .c4 (hY M U cZ c)) (kS [(.l .int)] ((hr M U cZ c),())):=(fun(ay:mw Prop) (aB:mw Nat) (h:Rp M U cZ c (hY M U cZ c) (hr M U cZ c) ay aB)=>iI.run (hg:=hg) (ce:= .c4) (l:=[.p,.v .int,.v .int,.v (.l .int)]) (rs:=[(.l .int)]) (x:=(M,U,cZ,())) (c:=c) (c':=(hY M U cZ c)) (r:=((hr M U cZ c),())) ⟨40,ec,[zy]⟩ ⟨[],[],[],[zz],[]⟩ (.lp [(0,9,.int)] [0,1,3] [] [.c4,.nat,(.l .int),.int] [bD 0,bD 1,bD 1,10] (fun aW=>[(9,.ref 1 aW.2.1 aW.2.2.1.length false),(10,.i .i64 aW.2.2.2.1),(bD 0,.et hg (gA false .c4 aW.1)),(bD 1,.blk aW.2.1 .int aW.2.2.1 _ rfl)]) (fun aW=>ay aW.1 aW.2.1 aW.2.2.1 aW.2.2.2.1) (fun aW=>aB aW.1 aW.2.1 aW.2.2.1 aW.2.2.2.1) fun _=> .nil) Try.func149 h) (fun d _ x v=>(0≤v∧v≤4)∧bV (2*v) d∧x.length+v.toNat≤4∧uZ M cZ v.toNat d x=Hx M U cZ c) (fun _ _ _ v=>v.toNat) (by
 obtain⟨ak,aT,be⟩:=aI
 have hw:IntKind.i64.wrap (U+1)=U+1:=fw (by omega) (by omega)
 have hv:=mT (IntKind.i64.wrap (U+1)) c
 have kx:=PO (c:=c) aT be
 unfold zv at kx
 unfold Rp Rr
 refine⟨ak.mono (by omega),⟨⟨hv.1,by omega⟩,(bV.pick (k:=8) (ak.mono (by omega)) (by omega)).mono (by omega),by show 0+_≤4;omega,rfl⟩,fun bN aQ aG v ⟨aK,aI,aL,he⟩=>⟨fun hv=> ?_,fun hv=>⟨aI.mono ?_,by omega,?_⟩⟩⟩
 ·have hv: ¬v>0:=by simpa using hv
  have ie:v.toNat=0:=by omega
  rw[ie] at he
  unfold hY hr
  rw[←he]
  exact⟨rfl,by omega,rfl⟩
 ·have hv:v>0:=by simpa using hv
  omega
 ·have hv:v>0:=by simpa using hv
  have rj:IntKind.i64.wrap (v - 1)=v - 1:=fw (by omega) (by omega)
  have DK:v.toNat=(v - 1).toNat+1:=by omega
  have bi:bV (2*(v - 1)) (bM M bN):=bV.pick (aI.mono (by omega)) (by omega)
  rw[DK] at he
  unfold uZ at he
  unfold Rq
  rw[rj]
  refine⟨fun hb=>⟨⟨by simp;omega,by simp;omega⟩,⟨⟨by omega,by omega⟩,bi,by simp;omega,?_⟩,by show(v - 1).toNat<v.toNat;omega⟩,fun hb=>⟨⟨⟨by omega,by omega⟩,bi,by omega,?_⟩,by show(v - 1).toNat<v.toNat;omega⟩⟩
  ·rw[if_pos hb] at he;exact he
  ·rw[if_neg (by rw[hb];simp)] at he;exact he)
def adZ:lc Try.prog:=⟨149,.c4,[.p,.v .int,.v .int,.v (.l .int)],[(.l .int)],fun x c=>zw x.1 x.2.1 x.2.2.1 c,fun x c=>hY x.1 x.2.1 x.2.2.1 c,fun x c=>((hr x.1 x.2.1 x.2.2.1 c),()),fun g x c h=>adY g x.1 x.2.1 x.2.2.1 c h⟩
def Q_ (c c':a_) (an:Event):Prop:=
  (((cE 2 (bM 4 (bM 8 (bM 9 c))))==0)=true→((bM 2 (bM 4 (bM 8 (bM 9 c))))=c')∧(((cE 9 c)=an.op)∧((IntKind.i64.wrap ((cE 8 (bM 9 c)) - 1))=an.ai)∧(0=an.bn)))∧(((cE 2 (bM 4 (bM 8 (bM 9 c))))==0)=false→((bM 2 (bM 4 (bM 8 (bM 9 c))))=c')∧(((cE 9 c)=an.op)∧((IntKind.i64.wrap ((cE 8 (bM 9 c)) - 1))=an.ai)∧((IntKind.i64.wrap ((cE 4 (bM 8 (bM 9 c))) - 1))=an.bn)))
def Q9 (M:aA) (c c':a_) (an:Event):Prop:=
 ((iz 9 c)∧((iz 8 (bM 9 c))∧(iz 4 (bM 8 (bM 9 c)))))∧((iz 2 (bM 4 (bM 8 (bM 9 c))))∧(Q_ c c' an))
theorem adL (hg:Nat) (M:aA) (c:a_) (aI:Gy M c):iI Try.prog 151 hg (jP hg [.p,.v .df] (M,())) (b6 false .c4 c) (b6 false .c4 (oM M c)) (kS [.fI] ((iy M c),())):=(fun(h:Q9 M c (oM M c) (iy M c))=>iI.run (hg:=hg) (ce:= .c4) (l:=[.p,.v .df]) (rs:=[.fI]) (x:=(M,())) (c:=c) (c':=(oM M c)) (r:=((iy M c),())) ⟨20,ec,[]⟩ ⟨[],[],[],[zz],[]⟩ .nil Try.func151 h) (by
 unfold Q9 Q_ oM iy
 have h1:bV 6 (bM 9 c):=bV.pick (aI.mono (by omega)) (by omega)
 have h2:bV 4 (bM 8 (bM 9 c)):=bV.pick (h1.mono (by omega)) (by omega)
 have aN:bV 2 (bM 4 (bM 8 (bM 9 c))):=bV.pick (h2.mono (by omega)) (by omega)
 refine⟨⟨aI.mono (by omega),h1.mono (by omega),h2.mono (by omega)⟩,aN.mono (by omega),fun h=>⟨rfl,rfl,rfl,?_⟩,fun h=>⟨rfl,rfl,rfl,?_⟩⟩
 ·rw[h];rfl
 ·rw[h];rfl)
def adM:lc Try.prog:=⟨151,.c4,[.p,.v .df],[.fI],fun x c=>Gy x.1 c,fun x c=>oM x.1 c,fun x c=>((iy x.1 c),()),fun g x c h=>adL g x.1 c h⟩
def ad2:List Item:=[aq 0,aq 1,aq 2,aq 3,aq 4,aq 5,aq 6,aq 7,aq 8,aq 9,aq 10,aq 11,aq 12,aq 13,aq 14,aq 15,aq 16,aq 17,aq 18,aq 19,aq 20,aq 21,aq 22,aq 23,aq 24,aq 25,aq 26,aq 27]
def ad3:List (List Nat):=[[],[0],[0,1],[0,1,2],rg 0 4,rg 0 5,rg 0 4,rg 0 7,rg 0 8,rg 0 9,rg 0 10,rg 0 11,rg 0 11,rg 0 11++[12],rg 0 11++[12,13],rg 0 15,rg 0 16,rg 0 17,rg 0 18,rg 0 17,rg 0 17,rg 0 17++[20],rg 0 17++[19,20,21],rg 0 17++rg 19 23,rg 0 24,rg 0 25,rg 0 26,rg 0 27]
def Rt (M:aA) (U:Frame) (c c':a_) (an:Event) (da cY:Int):Prop:=
  ((((nth U.O cY).ar==4)=true→(0≤(nth (nth M.O cY).ah da)∧(nth (nth M.O cY).ah da).toNat<U.aw.length)∧((nth U.aw (nth (nth M.O cY).ah da))=true→(da==(IntKind.i64.wrap (((nth M.O cY).ah.length:Int) - 1)))=false→(0≤(IntKind.i64.wrap (da+1))∧(IntKind.i64.wrap (da+1)).toNat<(nth M.O cY).ah.length)∧(0≤(nth (nth M.O cY).ah (IntKind.i64.wrap (da+1)))∧(nth (nth M.O cY).ah (IntKind.i64.wrap (da+1))).toNat<U.aw.length)))∧((((nth U.O cY).ar==4)&&((nth U.aw (nth (nth M.O cY).ah da))&&((da==(IntKind.i64.wrap (((nth M.O cY).ah.length:Int) - 1))) || (nth U.aw (nth (nth M.O cY).ah (IntKind.i64.wrap (da+1)))))))=true→(c=c')∧((4=an.op)∧((nth (nth M.O cY).ah da)=an.ai)∧(0=an.bn))))∧((!(((nth U.O cY).ar==4)&&((nth U.aw (nth (nth M.O cY).ah da))&&((da==(IntKind.i64.wrap (((nth M.O cY).ah.length:Int) - 1))) || (nth U.aw (nth (nth M.O cY).ah (IntKind.i64.wrap (da+1))))))))=true→((decide (da ≥ (nth U.O cY).af))=true→0≤da∧da.toNat<(nth U.O cY).ac.length)∧(((decide (da ≥ (nth U.O cY).af))&&(!(nth (nth U.O cY).ac da)))=true→(c=c')∧((3=an.op)∧((nth (nth M.O cY).ah da)=an.ai)∧(0=an.bn))))
def Ru (aS:Int→Int→Prop) (aU:Int→Int→Nat) (M:aA) (U:Frame) (c c':a_) (an:Event) (da cY:Int):Prop:=
  ((0≤da∧da.toNat<(nth M.O cY).ah.length)∧(Rt M U c c' an da cY))∧(((!(((nth U.O cY).ar==4)&&((nth U.aw (nth (nth M.O cY).ah da))&&((da==(IntKind.i64.wrap (((nth M.O cY).ah.length:Int) - 1))) || (nth U.aw (nth (nth M.O cY).ah (IntKind.i64.wrap (da+1))))))))&&(!((decide (da ≥ (nth U.O cY).af))&&(!(nth (nth U.O cY).ac da)))))=true→aS cY (IntKind.i64.wrap (da+1))∧aU cY (IntKind.i64.wrap (da+1))<aU cY da)
def Rv (ay:Int→Prop) (aB:Int→Nat) (aS:Int→Int→Prop) (aU:Int→Int→Nat) (M:aA) (U:Frame) (c c':a_) (an:Event) (cY:Int):Prop:=
  (0≤cY∧cY.toNat<M.O.length)∧((nth M.O cY).ah.length≤4611686018427387904→aS cY 0∧ ∀(da:Int),aS cY da→(((decide (da<((nth M.O cY).ah.length:Int)))=false→ay (IntKind.i64.wrap (cY+1))∧aB (IntKind.i64.wrap (cY+1))<aB cY)∧((decide (da<((nth M.O cY).ah.length:Int)))=true→Ru aS aU M U c c' an da cY)))
def Rw (ay:Int→Prop) (aB:Int→Nat) (aS:Int→Int→Prop) (aU:Int→Int→Nat) (M:aA) (U:Frame) (c c':a_) (an:Event) (cY:Int):Prop:=
  ((decide (cY<(U.O.length:Int)))=false→(c=c')∧((1=an.op)∧(0=an.ai)∧(0=an.bn)))∧((decide (cY<(U.O.length:Int)))=true→(0≤cY∧cY.toNat<U.O.length)∧(((((nth U.O cY).ar==0) || ((nth U.O cY).ar==1))=true→ay (IntKind.i64.wrap (cY+1))∧aB (IntKind.i64.wrap (cY+1))<aB cY)∧((!(((nth U.O cY).ar==0) || ((nth U.O cY).ar==1)))=true→Rv ay aB aS aU M U c c' an cY)))
def Rs (M:aA) (U:Frame) (c c':a_) (an:Event) (ay:Int→Prop) (aB:Int→Nat) (aS:Int→Int→Prop) (aU:Int→Int→Nat):Prop:=
 U.O.length≤4611686018427387904→ay 0∧ ∀(cY:Int),ay cY→(Rw ay aB aS aU M U c c' an cY)
theorem ad0 (hg:Nat) (M:aA) (U:Frame) (c:a_) (aI:IP M U c):iI Try.prog 164 hg (jP hg [.p,.v .df,.v .frame] (M,U,())) (b6 false .c4 c) (b6 false .c4 (zG M U c)) (kS [.fI] ((pQ M U c),())):=(fun(ay:Int→Prop) (aB:Int→Nat) (aS:Int→Int→Prop) (aU:Int→Int→Nat) (h:Rs M U c (zG M U c) (pQ M U c) ay aB aS aU)=>iI.run (hg:=hg) (ce:= .c4) (l:=[.p,.v .df,.v .frame]) (rs:=[.fI]) (x:=(M,U,())) (c:=c) (c':=(zG M U c)) (r:=((pQ M U c),())) ⟨88,ec,[]⟩ ⟨[],[(9,ad2,ad3)],[],[],[]⟩ (eP [4,5,6,13,14] [(6,3),(5,4),(4,5)] 15 ay aB fun aW=>(eP [4,5,6,8,9,13,14,15,34,35] [(8,5),(6,3),(5,4),(4,5)] 36 (aS aW) (aU aW) fun _=> .nil)) Try.func164 h) (fun i=>(0≤i∧i≤U.O.length)∧xr M U (U.O.length - i).toNat i=pQ M U c) (fun i=>(U.O.length - i).toNat) (fun i k=>(0≤k∧k≤(nth M.O i).ah.length)∧u7 M U i ((nth M.O i).ah.length - k).toNat k=u7 M U i (nth M.O i).ah.length 0) (fun i k=>((nth M.O i).ah.length - k).toNat) (by
 obtain⟨cx,c5⟩:=aI
 have afq:U.O.length=M.O.length:=c5.O
 have hw:=cx.O
 unfold Rs
 refine fun aH=>⟨⟨⟨Int.le_refl _,by omega⟩,by show xr M U ((U.O.length:Int) - 0).toNat 0=_;rw[show((U.O.length:Int) - 0).toNat=U.O.length by omega];rfl⟩,fun i ⟨⟨i0,i1⟩,hi⟩=> ?_⟩
 unfold Rw
 refine⟨fun he=> ?_,fun bf=> ?_⟩
 ·have he: ¬i<(U.O.length:Int):=by simpa using he
  rw[show((U.O.length:Int) - i).toNat=0 by omega] at hi
  rw[←hi];exact⟨rfl,rfl,rfl,rfl⟩
 have bf:i<(U.O.length:Int):=by simpa using bf
 have rj:IntKind.i64.wrap (i+1)=i+1:=fw (by omega) (by omega)
 have hm:=cx.ah _ (du (xs:=M.O) (i:=i) (by omega))
 have hb:=c5.ac i.toNat (nth U.O i) (nth M.O i) (gO (by omega)) (gO (by omega))
 have hg:=c5.af _ (du (xs:=U.O) (i:=i) (by omega))
 have DK:((U.O.length:Int) - i).toNat=((U.O.length:Int) - (i+1)).toNat+1:=by omega
 rw[DK] at hi
 unfold xr at hi
 refine⟨⟨i0,by omega⟩,fun ry=> ?_,fun ry=> ?_⟩
 ·rw[if_pos ry] at hi
  rw[rj];exact⟨⟨⟨by omega,by omega⟩,hi⟩,by show((U.O.length:Int) - (i+1)).toNat<((U.O.length:Int) - i).toNat;omega⟩
 have ry:(((nth U.O i).ar==0) || ((nth U.O i).ar==1))=false:=by simpa using ry
 rw[if_neg (by rw[ry];simp)] at hi
 unfold Rv
 refine⟨⟨i0,by omega⟩,fun aL=>⟨⟨⟨Int.le_refl _,by omega⟩,by show u7 M U i (((nth M.O i).ah.length:Int) - 0).toNat 0=_;rw[show(((nth M.O i).ah.length:Int) - 0).toNat=(nth M.O i).ah.length by omega]⟩,fun k ⟨⟨ba,ei⟩,hk⟩=>⟨fun he=> ?_,fun kz=> ?_⟩⟩⟩
 ·have he: ¬k<((nth M.O i).ah.length:Int):=by simpa using he
  rw[show(((nth M.O i).ah.length:Int) - k).toNat=0 by omega] at hk
  rw[←hk] at hi
  rw[rj];exact⟨⟨⟨by omega,by omega⟩,hi⟩,by show((U.O.length:Int) - (i+1)).toNat<((U.O.length:Int) - i).toNat;omega⟩
 have kz:k<((nth M.O i).ah.length:Int):=by simpa using kz
 have Bv:IntKind.i64.wrap (k+1)=k+1:=fw (by omega) (by omega)
 have lW:IntKind.i64.wrap (((nth M.O i).ah.length:Int) - 1)=(nth M.O i).ah.length - 1:=fw (by omega) (by omega)
 have ej:(((nth M.O i).ah.length:Int) - k).toNat=(((nth M.O i).ah.length:Int) - (k+1)).toNat+1:=by omega
 have aC:=c5.aw
 have hs:=hm.2.2 _ (du (xs:=(nth M.O i).ah) (i:=k) (by omega))
 rw[ej] at hk
 revert hk hi
 generalize lj:u7 M U i (nth M.O i).ah.length 0=G
 intro hi hk
 unfold u7 at hk
 unfold Ru
 refine⟨⟨⟨ba,by omega⟩,?_⟩,fun hb=> ?_⟩
 ·unfold Rt
  refine⟨⟨fun _=>⟨⟨hs.1,by omega⟩,fun _ ck=> ?_⟩,fun hb=> ?_⟩,fun hb=>⟨fun _=>⟨ba,by omega⟩,fun jS=> ?_⟩⟩
  ·rw[lW] at ck
   have ck:k≠(nth M.O i).ah.length - 1:=by simpa using ck
   rw[Bv]
   have Bd:=hm.2.2 _ (du (xs:=(nth M.O i).ah) (i:=k+1) (by omega))
   exact⟨⟨by omega,by omega⟩,Bd.1,by omega⟩
  ·rw[if_pos hb] at hk
   rw[←hk] at hi
   rw[←hi];exact⟨rfl,rfl,rfl,rfl⟩
  ·rw[if_neg (by rw[not_eq hb];simp),if_pos jS] at hk
   rw[←hk] at hi
   rw[←hi];exact⟨rfl,rfl,rfl,rfl⟩
 ·rw[Bool.and_eq_true] at hb
  rw[if_neg (by rw[not_eq hb.1];simp),if_neg (by rw[not_eq hb.2];simp)] at hk
  rw[Bv]
  exact⟨⟨⟨by omega,by omega⟩,hk.trans lj.symm⟩,by show(((nth M.O i).ah.length:Int) - (k+1)).toNat<(((nth M.O i).ah.length:Int) - k).toNat;omega⟩)
def ad1:lc Try.prog:=⟨164,.c4,[.p,.v .df,.v .frame],[.fI],fun x c=>IP x.1 x.2.1 c,fun x c=>zG x.1 x.2.1 c,fun x c=>((pQ x.1 x.2.1 c),()),fun g x c h=>ad0 g x.1 x.2.1 c h⟩
def QV (M:aA) (c c':a_) (an:Event):Prop:=
  ((g7 M c)=c')∧((1=an.op)∧((xA M c)=an.ai)∧(0=an.bn))
def QX (M:aA) (c c':a_) (an:Event):Prop:=
  ((g7 M c)=c')∧((2=an.op)∧((xA M c)=an.ai)∧(0=an.bn))
def Q0 (M:aA) (c c':a_) (an:Event):Prop:=
  ((g7 M c)=c')∧((3=an.op)∧((xz M c)=an.ai)∧(0=an.bn))
def Q1 (M:aA) (c c':a_) (an:Event):Prop:=
  ((g7 M c)=c')∧((4=an.op)∧((xz M c)=an.ai)∧(0=an.bn))
def Q2 (M:aA) (c c':a_) (an:Event):Prop:=
  ((bM 2 (g7 M c))=c')∧((6=an.op)∧((kt M c)=an.ai)∧((IntKind.i64.wrap (1+(cE 2 (g7 M c))))=an.bn))
def Q3 (M:aA) (c c':a_) (an:Event):Prop:=
  ((g7 M c)=c')∧((7=an.op)∧(0=an.ai)∧(0=an.bn))
def Q4 (M:aA) (U:Frame) (c c':a_) (an:Event):Prop:=
  ((g7 M c)=c')∧((5=an.op)∧((kt M c)=an.ai)∧((nth U.au (kt M c)).cy=an.bn))
def adC (M:aA) (U:Frame) (c c':a_) (an:Event):Prop:=
  (decide ((U.au.length:Int)>(kt M c)))=true→(0≤(kt M c)∧(kt M c).toNat<U.au.length)∧(Q4 M U c c' an)
def Q5 (M:aA) (c c':a_) (an:Event):Prop:=
  ((bM 3 (g7 M c))=c')∧((5=an.op)∧((kt M c)=an.ai)∧((cE 3 (g7 M c))=an.bn))
def adt (M:aA) (c c':a_) (an:Event):Prop:=
  ((fG M c)==16)=true→(iz 3 (g7 M c))∧(Q5 M c c' an)
def adu (M:aA) (U:Frame) (c c':a_) (an:Event):Prop:=
  ((vd (fG M c))=true→U.au.length≤4611686018427387904→adC M U c c' an)∧((vd (fG M c))=false→adt M c c' an)
def adv (M:aA) (U:Frame) (c c':a_) (an:Event):Prop:=
  ((lG 11 12 (fG M c))=true→Q3 M c c' an)∧((lG 11 12 (fG M c))=false→adu M U c c' an)
def adw (M:aA) (U:Frame) (c c':a_) (an:Event):Prop:=
  (((fG M c)==10)=true→(iz 2 (g7 M c))∧(Q2 M c c' an))∧(((fG M c)==10)=false→adv M U c c' an)
def adx (M:aA) (U:Frame) (c c':a_) (an:Event):Prop:=
  ((lG 8 9 (fG M c))=true→Q1 M c c' an)∧((lG 8 9 (fG M c))=false→adw M U c c' an)
def ady (M:aA) (U:Frame) (c c':a_) (an:Event):Prop:=
  ((lG 6 7 (fG M c))=true→Q0 M c c' an)∧((lG 6 7 (fG M c))=false→adx M U c c' an)
def adz (M:aA) (U:Frame) (c c':a_) (an:Event):Prop:=
  ((lG 4 5 (fG M c))=true→QX M c c' an)∧((lG 4 5 (fG M c))=false→ady M U c c' an)
def adA (M:aA) (U:Frame) (c c':a_) (an:Event):Prop:=
  ((xy (fG M c))=true→QV M c c' an)∧((xy (fG M c))=false→adz M U c c' an)
def QW (M:aA) (U:Frame) (c c':a_) (an:Event):Prop:=
  ((zG M U (g7 M c))=c')∧(((pQ M U (g7 M c)).op=an.op)∧((pQ M U (g7 M c)).ai=an.ai)∧((pQ M U (g7 M c)).bn=an.bn))
def adB (M:aA) (U:Frame) (c c':a_) (an:Event):Prop:=
  (IP M U (g7 M c))∧(QW M U c c' an)
def QY (M:aA) (U:Frame) (c c':a_) (an:Event):Prop:=
  ((iz 20 (zO M c))∧(adA M U c c' an))∧((!(xy (fG M c))&&(!(lG 4 5 (fG M c))&&(!(lG 6 7 (fG M c))&&(!(lG 8 9 (fG M c))&&(!((fG M c)==10)&&(!(lG 11 12 (fG M c))&&(bif (vd (fG M c)) then(!(decide ((U.au.length:Int)>(kt M c)))) else(!((fG M c)==16)))))))))=true→adB M U c c' an)
def QZ (M:aA) (U:Frame) (c c':a_) (an:Event):Prop:=
  (M.bd.length≤4611686018427387904→(decide ((M.bd.length:Int)>0))=true→iz (M.bd.length:Int) (zN M c))∧(M.bd.length≤4611686018427387904→QY M U c c' an)
def QU (M:aA) (U:Frame) (c c':a_) (an:Event):Prop:=
 (M.O.length≤4611686018427387904→(decide ((M.O.length:Int)>0))=true→iz (M.O.length:Int) c)∧(M.O.length≤4611686018427387904→((decide (M.ah>0))=true→iz M.ah (zM M c))∧(QZ M U c c' an))
theorem adD (hg:Nat) (M:aA) (U:Frame) (c:a_) (aI:DX M U c):iI Try.prog 150 hg (jP hg [.p,.v .df,.v .frame] (M,U,())) (b6 false .c4 c) (b6 false .c4 (eA M U c)) (kS [.fI] ((ff M U c),())):=(fun(h:QU M U c (eA M U c) (ff M U c))=>iI.run (hg:=hg) (ce:= .c4) (l:=[.p,.v .df,.v .frame]) (rs:=[.fI]) (x:=(M,U,())) (c:=c) (c':=(eA M U c)) (r:=((ff M U c),())) ⟨97,ec,[]⟩ ⟨[17,33],[],[],[zz,ad1],[]⟩ .nil Try.func150 h) (by
 obtain⟨hs,ak⟩:=aI
 have h1:bV 8 (zM M c):=bV.wX (ak.mono (by omega)) (by omega)
 have h2:bV 6 (zN M c):=bV.wX (h1.mono (by omega)) (by omega)
 have aN:bV 4 (zO M c):=bV.wX (h2.mono (by omega)) (by omega)
 have be:bV 2 (g7 M c):=bV.pick (aN.mono (by omega)) (by omega)
 have uF:0≤kt M c:=by
  unfold kt
  cases decide ((M.bd.length:Int)>0) with
  | true=>exact(mT _ _).1
  | false=>exact Int.le_refl _
 have sr:fG M c≠10→fG M c≠16→eA M U c=g7 M c:=fun oa n2=>by
  unfold eA;rw[if_neg oa,if_neg n2]
 unfold QU QZ QY
 refine⟨fun _ _=>ak.mono (by omega),fun _=>⟨fun _=>h1.mono (by omega),fun _ _=>h2.mono (by omega),fun _=>⟨⟨aN.mono (by omega),?_⟩,fun hb=>⟨hs,?_⟩⟩⟩⟩
 ·refine⟨fun jN=> ?_,fun jN=>⟨fun ju=> ?_,fun ju=>⟨fun o5=> ?_,fun o5=>⟨fun p0=> ?_,fun p0=>⟨fun pX=>⟨be,?_⟩,fun pX=>⟨fun sc=> ?_,fun sc=>⟨fun pY _ bi=>⟨⟨uF,?_⟩,?_⟩,fun pY Jn=>⟨be,?_⟩⟩⟩⟩⟩⟩⟩⟩
  ·have:=aeK jN
   unfold QV
   rw[sr (by omega) (by omega),show ff M U c=⟨1,xA M c,0⟩ by unfold ff;rw[jN];rfl]
   exact⟨rfl,rfl,rfl,rfl⟩
  ·have:=CH ju
   unfold QX
   rw[sr (by omega) (by omega),show ff M U c=⟨2,xA M c,0⟩ by unfold ff;rw[jN,ju];rfl]
   exact⟨rfl,rfl,rfl,rfl⟩
  ·have:=CH o5
   unfold Q0
   rw[sr (by omega) (by omega),show ff M U c=⟨3,xz M c,0⟩ by unfold ff;rw[jN,ju,o5];rfl]
   exact⟨rfl,rfl,rfl,rfl⟩
  ·have:=CH p0
   unfold Q1
   rw[sr (by omega) (by omega),show ff M U c=⟨4,xz M c,0⟩ by unfold ff;rw[jN,ju,o5,p0];rfl]
   exact⟨rfl,rfl,rfl,rfl⟩
  ·have e:fG M c=10:=by simpa using pX
   unfold Q2
   rw[show eA M U c=bM 2 (g7 M c) by unfold eA;rw[if_pos e],show ff M U c=⟨6,kt M c,IntKind.i64.wrap (1+cE 2 (g7 M c))⟩ by unfold ff;rw[jN,ju,o5,p0,pX];rfl]
   exact⟨rfl,rfl,rfl,rfl⟩
  ·have:=CH sc
   unfold Q3
   rw[sr (by omega) (by omega),show ff M U c=⟨7,0,0⟩ by unfold ff;rw[jN,ju,o5,p0,pX,sc];rfl]
   exact⟨rfl,rfl,rfl,rfl⟩
  ·have:(U.au.length:Int)>kt M c:=by simpa using bi
   omega
  ·have:=R_ pY
   unfold Q4
   rw[sr (by omega) (by omega),show ff M U c=⟨5,kt M c,(nth U.au (kt M c)).cy⟩ by unfold ff;rw[jN,ju,o5,p0,pX,sc,pY,bi];rfl]
   exact⟨rfl,rfl,rfl,rfl⟩
  ·have e:fG M c=16:=by simpa using Jn
   unfold Q5
   rw[show eA M U c=bM 3 (g7 M c) by unfold eA;rw[if_neg (by omega),if_pos e],show ff M U c=⟨5,kt M c,cE 3 (g7 M c)⟩ by unfold ff;rw[jN,ju,o5,p0,pX,sc,pY,Jn];rfl]
   exact⟨rfl,rfl,rfl,rfl⟩
 ·simp only[Bool.and_eq_true,Bool.not_eq_true'] at hb
  obtain⟨jN,ju,o5,p0,pX,sc,hb⟩:=hb
  have T5:fG M c≠10:=by simpa using pX
  have key:eA M U c=g7 M c∧ff M U c=pQ M U (g7 M c):=by
   cases pY:vd (fG M c) with
   | true=>
    have:=R_ pY
    rw[pY] at hb
    have hb:decide ((U.au.length:Int)>kt M c)=false:=by simpa using hb
    exact⟨sr (by omega) (by omega),by unfold ff;rw[jN,ju,o5,p0,pX,sc,pY,hb];rfl⟩
   | false=>
    rw[pY] at hb
    have hb:(fG M c==16)=false:=by simpa using hb
    exact⟨sr T5 (by simpa using hb),by unfold ff;rw[jN,ju,o5,p0,pX,sc,pY,hb];rfl⟩
  unfold QW
  rw[key.1,key.2]
  exact⟨rfl,rfl,rfl,rfl⟩)
def adE:lc Try.prog:=⟨150,.c4,[.p,.v .df,.v .frame],[.fI],fun x c=>DX x.1 x.2.1 c,fun x c=>eA x.1 x.2.1 c,fun x c=>((ff x.1 x.2.1 c),()),fun g x c h=>adD g x.1 x.2.1 c h⟩
def adW:List Item:=[aq 0,aq 1,aq 2,aq 3,aq 4,⟨5,true,false,[0,1]⟩,aq 6,⟨7,true,false,[]⟩,aq 8,⟨9,true,false,[]⟩]
def adX:List (List Nat):=[[],[0],[],[],[3],[2,3,4],rg 2 6,rg 0 7,rg 0 8,rg 0 9]
def adQ:List Item:=[aq 0,aq 1,aq 2,aq 3,⟨4,true,false,[0,1,2]⟩,aq 5,aq 6,aq 7,⟨8,true,false,[]⟩,aq 9,⟨10,true,false,[]⟩]
def adR:List (List Nat):=[[],[0],[],[],[3],[3,4],rg 2 6,rg 2 7,rg 0 8,rg 0 9,rg 0 10]
def adS:List Item:=[aq 0,aq 1,aq 2,aq 3,⟨4,true,false,[0,1,2]⟩,aq 5,aq 6,aq 7,⟨8,true,false,[]⟩,aq 9,⟨10,true,false,[]⟩]
def adT:List (List Nat):=[[],[0],[],[],[3],[3,4],rg 2 6,rg 2 7,rg 0 8,rg 0 9,rg 0 10]
def adU:List Item:=[aq 0,aq 1,aq 2,aq 3,aq 4,aq 5,aq 6,aq 7,aq 8,aq 9,aq 10,aq 11,aq 12,aq 13,aq 14,aq 15,aq 16,aq 17,aq 18,aq 19,aq 20,aq 21,⟨22,true,false,[0,1]⟩,aq 23,aq 24,aq 25,⟨26,true,false,[]⟩]
def adV:List (List Nat):=[[],[],[],[],[2,3],[2,3,4],rg 2 6,rg 2 7,rg 2 6,rg 2 9,rg 2 10,rg 2 11,rg 2 6,rg 2 6++[12],rg 2 6,rg 2 6++[12,13,14],rg 2 6++rg 12 16,rg 2 6++rg 12 17,rg 2 18,rg 2 19,rg 2 20,rg 2 21,rg 2 22,rg 2 23,rg 2 24,rg 0 25,rg 0 26]
abbrev my (r:Type):Type:=a_→Nat→(List Int)→Int→a_→Nat→(List Way)→Int→a_→Nat→(List (List Bool))→Int→a_→(List Bool)→Int→r
def Rc (cd:my Prop) (cc:my Nat) (bN:a_) (aQ:Nat) (aG:(List Int)) (v4:Int) (dJ dc:a_) (a1 bS:Nat) (bq:(List Way)) (dU:(List (List Bool))) (ev:(List Bool)) (c6 eC fz:Int) (ez:a_):Prop:=
  ((decide (eC<fz))=true→(0≤eC∧eC.toNat<dU.length)∧((eC.toNat<dU.length)∧((0≤fz∧fz.toNat<(nth dU eC).length)∧((0≤eC∧eC.toNat<ev.length)∧((eC.toNat<ev.length)∧(cd bN aQ aG v4 dJ a1 bq c6 dc bS dU fz ez (ev.set eC.toNat (nth (nth dU eC) fz)) (IntKind.i64.wrap (eC+1))∧cc bN aQ aG v4 dJ a1 bq c6 dc bS dU fz ez (ev.set eC.toNat (nth (nth dU eC) fz)) (IntKind.i64.wrap (eC+1))<cc bN aQ aG v4 dJ a1 bq c6 dc bS dU fz ez ev eC))))))∧((decide (eC<fz))=false→((fz==eC)=true→(0≤eC∧eC.toNat<ev.length)∧((eC.toNat<ev.length)∧(cd bN aQ aG v4 dJ a1 bq c6 dc bS dU fz ez (ev.set eC.toNat true) (IntKind.i64.wrap (eC+1))∧cc bN aQ aG v4 dJ a1 bq c6 dc bS dU fz ez (ev.set eC.toNat true) (IntKind.i64.wrap (eC+1))<cc bN aQ aG v4 dJ a1 bq c6 dc bS dU fz ez ev eC)))∧((fz==eC)=false→(0≤fz∧fz.toNat<bq.length)∧((fz.toNat<bq.length)∧((0≤eC∧eC.toNat<bq.length)∧((eC.toNat<bq.length)∧(((meets (nth bq fz).ah (nth bq eC).ah)=true→(0≤eC∧eC.toNat<ev.length)∧((eC.toNat<ev.length)∧(cd bN aQ aG v4 dJ a1 bq c6 dc bS dU fz ez (ev.set eC.toNat true) (IntKind.i64.wrap (eC+1))∧cc bN aQ aG v4 dJ a1 bq c6 dc bS dU fz ez (ev.set eC.toNat true) (IntKind.i64.wrap (eC+1))<cc bN aQ aG v4 dJ a1 bq c6 dc bS dU fz ez ev eC)))∧((meets (nth bq fz).ah (nth bq eC).ah)=false→(iz 4 ez)∧((0≤eC∧eC.toNat<ev.length)∧((eC.toNat<ev.length)∧(cd bN aQ aG v4 dJ a1 bq c6 dc bS dU fz (bM 4 ez) (ev.set eC.toNat ((cE 4 ez)==0)) (IntKind.i64.wrap (eC+1))∧cc bN aQ aG v4 dJ a1 bq c6 dc bS dU fz (bM 4 ez) (ev.set eC.toNat ((cE 4 ez)==0)) (IntKind.i64.wrap (eC+1))<cc bN aQ aG v4 dJ a1 bq c6 dc bS dU fz ez ev eC))))))))))
abbrev nC (r:Type):Type:=a_→Nat→(List Int)→Int→a_→Nat→(List Way)→Int→a_→Nat→(List (List Bool))→Int→r
def Rh (bw:nC Prop) (bu:nC Nat) (cd:my Prop) (cc:my Nat) (bN:a_) (aQ:Nat) (aG:(List Int)) (v4:Int) (dJ dc:a_) (a1 bS:Nat) (bq:(List Way)) (dU:(List (List Bool))) (ev:(List Bool)) (c6 eC fz:Int) (ez:a_):Prop:=
  ((decide (eC<(bq.length:Int)))=false→(ev.length≤4611686018427387904)∧(((dU.length+[ev].length)*24≤140737488355328∧dU.length+[ev].length≤4611686018427387904)∧(bw bN aQ aG v4 dJ a1 bq c6 ez (bS+1) (dU++[ev]) (IntKind.i64.wrap (fz+1))∧bu bN aQ aG v4 dJ a1 bq c6 ez (bS+1) (dU++[ev]) (IntKind.i64.wrap (fz+1))<bu bN aQ aG v4 dJ a1 bq c6 dc bS dU fz)))∧((decide (eC<(bq.length:Int)))=true→Rc cd cc bN aQ aG v4 dJ dc a1 bS bq dU ev c6 eC fz ez)
def Ri (bw:nC Prop) (bu:nC Nat) (cd:my Prop) (cc:my Nat) (bN:a_) (aQ:Nat) (aG:(List Int)) (v4:Int) (dJ dc:a_) (a1 bS:Nat) (bq:(List Way)) (dU:(List (List Bool))) (c6 fz:Int):Prop:=
  (0≤(bq.length:Int)∧1*(bq.length:Int)≤140737488355328∧(bq.length:Int)≤4611686018427387904)∧(cd bN aQ aG v4 dJ a1 bq c6 dc bS dU fz dc (List.replicate (bq.length:Int).toNat false) 0∧ ∀(ez:a_) (ev:(List Bool)) (eC:Int),cd bN aQ aG v4 dJ a1 bq c6 dc bS dU fz ez ev eC→(Rh bw bu cd cc bN aQ aG v4 dJ dc a1 bS bq dU ev c6 eC fz ez))
def Rj (bw:nC Prop) (bu:nC Nat) (cd:my Prop) (cc:my Nat) (c c':a_) (an:aA) (bN:a_) (aQ:Nat) (aG:(List Int)) (v4:Int) (dJ dc:a_) (a1 bS:Nat) (bq:(List Way)) (dU:(List (List Bool))) (c6 fz:Int):Prop:=
  ((decide (fz<(bq.length:Int)))=false→(dc=c')∧(((di c)=an.ah)∧(aG.length≤4611686018427387904∧aG=an.bd)∧(bq.length≤4611686018427387904∧bq=an.O)∧(dU.length≤4611686018427387904∧dU=an.bU)∧((uM c)=an.dl)))∧((decide (fz<(bq.length:Int)))=true→Ri bw bu cd cc bN aQ aG v4 dJ dc a1 bS bq dU c6 fz)
abbrev lA (r:Type):Type:=a_→Nat→(List Int)→Int→a_→Nat→(List Way)→Int→a_→(List Int)→a_→Nat→Nat→(List ct)→(List ct)→Int→r
def Rk (jM:lA Prop) (iS:lA Nat) (bN:a_) (aQ:Nat) (aG:(List Int)) (v4:Int) (dJ:a_) (eJ:(List Int)) (dc:a_) (a1 bS:Nat) (bq:(List Way)) (dU:(List ct)) (hz:Int) (lS:Nat) (ev:(List ct)) (c6:Int) (ez:a_):Prop:=
  (((cE 3 ez)==0)=true→(iz 2 (bM 3 ez))∧(((ev.length+[(ct.mk hz (IntKind.i64.wrap (1+(cE 2 (bM 3 ez)))))].length)*16≤140737488355328∧ev.length+[(ct.mk hz (IntKind.i64.wrap (1+(cE 2 (bM 3 ez)))))].length≤4611686018427387904)∧(jM bN aQ aG v4 dJ a1 bq c6 dc eJ (bM 2 (bM 3 ez)) bS (lS+1) dU (ev++[(ct.mk hz (IntKind.i64.wrap (1+(cE 2 (bM 3 ez)))))]) (IntKind.i64.wrap (hz+1))∧iS bN aQ aG v4 dJ a1 bq c6 dc eJ (bM 2 (bM 3 ez)) bS (lS+1) dU (ev++[(ct.mk hz (IntKind.i64.wrap (1+(cE 2 (bM 3 ez)))))]) (IntKind.i64.wrap (hz+1))<iS bN aQ aG v4 dJ a1 bq c6 dc eJ ez bS lS dU ev hz)))∧(((cE 3 ez)==0)=false→jM bN aQ aG v4 dJ a1 bq c6 dc eJ (bM 3 ez) bS lS dU ev (IntKind.i64.wrap (hz+1))∧iS bN aQ aG v4 dJ a1 bq c6 dc eJ (bM 3 ez) bS lS dU ev (IntKind.i64.wrap (hz+1))<iS bN aQ aG v4 dJ a1 bq c6 dc eJ ez bS lS dU ev hz)
def Rl (jM:lA Prop) (iS:lA Nat) (bN:a_) (aQ:Nat) (aG:(List Int)) (v4:Int) (dJ:a_) (eJ:(List Int)) (dc:a_) (a1 bS:Nat) (bq:(List Way)) (dU:(List ct)) (hz:Int) (lS:Nat) (ev:(List ct)) (c6:Int) (ez:a_):Prop:=
  ((meets [(nth aG hz)] eJ)=true→(iz 2 ez)∧(((dU.length+[(ct.mk hz (IntKind.i64.wrap (1+(cE 2 ez))))].length)*16≤140737488355328∧dU.length+[(ct.mk hz (IntKind.i64.wrap (1+(cE 2 ez))))].length≤4611686018427387904)∧(jM bN aQ aG v4 dJ a1 bq c6 dc eJ (bM 2 ez) (bS+1) lS (dU++[(ct.mk hz (IntKind.i64.wrap (1+(cE 2 ez))))]) ev (IntKind.i64.wrap (hz+1))∧iS bN aQ aG v4 dJ a1 bq c6 dc eJ (bM 2 ez) (bS+1) lS (dU++[(ct.mk hz (IntKind.i64.wrap (1+(cE 2 ez))))]) ev (IntKind.i64.wrap (hz+1))<iS bN aQ aG v4 dJ a1 bq c6 dc eJ ez bS lS dU ev hz)))∧((meets [(nth aG hz)] eJ)=false→(iz 3 ez)∧(Rk jM iS bN aQ aG v4 dJ eJ dc a1 bS bq dU hz lS ev c6 ez))
abbrev nD (r:Type):Type:=a_→Nat→(List Int)→Int→a_→Nat→(List Way)→Int→r
def Rm (aS:nD Prop) (aU:nD Nat) (jM:lA Prop) (iS:lA Nat) (c bN:a_) (aQ:Nat) (aG:(List Int)) (v4:Int) (dJ:a_) (eJ:(List Int)) (dc:a_) (a1 bS:Nat) (bq:(List Way)) (dU:(List ct)) (hz:Int) (lS:Nat) (ev:(List ct)) (c6:Int) (ez:a_):Prop:=
  ((decide (hz<(aG.length:Int)))=false→(dU.length≤4611686018427387904)∧((ev.length≤4611686018427387904)∧(((bq.length+[(Way.mk eJ dU ev (hr (di c) 2 eJ dc) (hr (di c) 2 eJ (hY (di c) 2 eJ dc)))].length)*120≤140737488355328∧bq.length+[(Way.mk eJ dU ev (hr (di c) 2 eJ dc) (hr (di c) 2 eJ (hY (di c) 2 eJ dc)))].length≤4611686018427387904)∧(aS bN aQ aG v4 ez (a1+1) (bq++[(Way.mk eJ dU ev (hr (di c) 2 eJ dc) (hr (di c) 2 eJ (hY (di c) 2 eJ dc)))]) (IntKind.i64.wrap (c6 - 1))∧aU bN aQ aG v4 ez (a1+1) (bq++[(Way.mk eJ dU ev (hr (di c) 2 eJ dc) (hr (di c) 2 eJ (hY (di c) 2 eJ dc)))]) (IntKind.i64.wrap (c6 - 1))<aU bN aQ aG v4 dJ a1 bq c6))))∧((decide (hz<(aG.length:Int)))=true→((0≤hz∧hz.toNat<aG.length)∧(hz.toNat<aG.length))∧(Rl jM iS bN aQ aG v4 dJ eJ dc a1 bS bq dU hz lS ev c6 ez))
def Rn (aS:nD Prop) (aU:nD Nat) (jM:lA Prop) (iS:lA Nat) (c bN:a_) (aQ:Nat) (aG:(List Int)) (v4:Int) (dJ:a_) (eJ:(List Int)) (dc:a_) (a1:Nat) (bq:(List Way)) (c6:Int):Prop:=
  jM bN aQ aG v4 dJ a1 bq c6 dc eJ (hY (di c) 2 eJ (hY (di c) 2 eJ dc)) 0 0 ([]:List ct) ([]:List ct) 0∧ ∀(ez:a_) (bS:Nat) (lS:Nat) (dU:(List ct)) (ev:(List ct)) (hz:Int),jM bN aQ aG v4 dJ a1 bq c6 dc eJ ez bS lS dU ev hz→(Rm aS aU jM iS c bN aQ aG v4 dJ eJ dc a1 bS bq dU hz lS ev c6 ez)
abbrev oY (r:Type):Type:=a_→Nat→(List Int)→Int→a_→Nat→(List Way)→Int→a_→(List Int)→r
def Ro (dp:oY Prop) (dq:oY Nat) (c bN:a_) (aQ:Nat) (aG:(List Int)) (v4:Int) (dJ:a_) (eJ:(List Int)) (dc:a_) (a1:Nat) (bq:(List Way)) (c6:Int):Prop:=
  ((((hr (di c) 4 [] dc).length:Int)==0)=true→(iz (di c) (hY (di c) 4 [] dc))∧(dp bN aQ aG v4 dJ a1 bq c6 (bM (di c) (hY (di c) 4 [] dc)) ([(cE (di c) (hY (di c) 4 [] dc))])∧dq bN aQ aG v4 dJ a1 bq c6 (bM (di c) (hY (di c) 4 [] dc)) ([(cE (di c) (hY (di c) 4 [] dc))])<dq bN aQ aG v4 dJ a1 bq c6 dc eJ))∧((((hr (di c) 4 [] dc).length:Int)==0)=false→dp bN aQ aG v4 dJ a1 bq c6 (hY (di c) 4 [] dc) (hr (di c) 4 [] dc)∧dq bN aQ aG v4 dJ a1 bq c6 (hY (di c) 4 [] dc) (hr (di c) 4 [] dc)<dq bN aQ aG v4 dJ a1 bq c6 dc eJ)
def Rd (aS:nD Prop) (aU:nD Nat) (dp:oY Prop) (dq:oY Nat) (jM:lA Prop) (iS:lA Nat) (c bN:a_) (aQ:Nat) (aG:(List Int)) (v4:Int) (dJ:a_) (eJ:(List Int)) (dc:a_) (a1:Nat) (bq:(List Way)) (c6:Int):Prop:=
  (eJ.length≤4611686018427387904→((eJ.length:Int)==0)=false→(zw (di c) 2 eJ dc)∧((zw (di c) 2 eJ (hY (di c) 2 eJ dc))∧(Rn aS aU jM iS c bN aQ aG v4 dJ eJ dc a1 bq c6)))∧((eJ.length≤4611686018427387904)∧(((eJ.length:Int)==0)=true)→(zw (di c) 4 [] dc)∧((hr (di c) 4 [] dc).length≤4611686018427387904→Ro dp dq c bN aQ aG v4 dJ eJ dc a1 bq c6))
def Re (aS:nD Prop) (aU:nD Nat) (bw:nC Prop) (bu:nC Nat) (cd:my Prop) (cc:my Nat) (dp:oY Prop) (dq:oY Nat) (jM:lA Prop) (iS:lA Nat) (c c':a_) (an:aA) (bN:a_) (aQ:Nat) (aG:(List Int)) (v4:Int) (dJ:a_) (a1:Nat) (bq:(List Way)) (c6:Int):Prop:=
  ((decide (c6>0))=false→bw bN aQ aG v4 dJ a1 bq c6 dJ 0 ([]:List (List Bool)) 0∧ ∀(dc:a_) (bS:Nat) (dU:(List (List Bool))) (fz:Int),bw bN aQ aG v4 dJ a1 bq c6 dc bS dU fz→(Rj bw bu cd cc c c' an bN aQ aG v4 dJ dc a1 bS bq dU c6 fz))∧((decide (c6>0))=true→dp bN aQ aG v4 dJ a1 bq c6 dJ []∧ ∀(dc:a_) (eJ:(List Int)),dp bN aQ aG v4 dJ a1 bq c6 dc eJ→(Rd aS aU dp dq jM iS c bN aQ aG v4 dJ eJ dc a1 bq c6))
def Rf (ay:mw Prop) (aB:mw Nat) (c bN:a_) (aQ:Nat) (aG:(List Int)) (v4:Int):Prop:=
  ((iz (di c) bN)∧((aG.length+[(cE (di c) bN)].length)*8≤140737488355328∧aG.length+[(cE (di c) bN)].length≤4611686018427387904))∧(ay (bM (di c) bN) (aQ+1) (aG++[(cE (di c) bN)]) (IntKind.i64.wrap (v4 - 1))∧aB (bM (di c) bN) (aQ+1) (aG++[(cE (di c) bN)]) (IntKind.i64.wrap (v4 - 1))<aB bN aQ aG v4)
def Rg (ay:mw Prop) (aB:mw Nat) (aS:nD Prop) (aU:nD Nat) (bw:nC Prop) (bu:nC Nat) (cd:my Prop) (cc:my Nat) (dp:oY Prop) (dq:oY Nat) (jM:lA Prop) (iS:lA Nat) (c c':a_) (an:aA):Prop:=
  ay (bM 4 (bM 6 (bM 6 c))) 0 ([]:List Int) (cE 4 (bM 6 (bM 6 c)))∧ ∀(bN:a_) (aQ:Nat) (aG:(List Int)) (v4:Int),ay bN aQ aG v4→(((decide (v4>0))=false→(iz 5 bN)∧(aS bN aQ aG v4 (bM 5 bN) 0 ([]:List Way) (IntKind.i64.wrap (1+(cE 5 bN)))∧ ∀(dJ:a_) (a1:Nat) (bq:(List Way)) (c6:Int),aS bN aQ aG v4 dJ a1 bq c6→(Re aS aU bw bu cd cc dp dq jM iS c c' an bN aQ aG v4 dJ a1 bq c6)))∧((decide (v4>0))=true→Rf ay aB c bN aQ aG v4))
def Rb (c c':a_) (an:aA) (ay:mw Prop) (aB:mw Nat) (aS:nD Prop) (aU:nD Nat) (bw:nC Prop) (bu:nC Nat) (cd:my Prop) (cc:my Nat) (dp:oY Prop) (dq:oY Nat) (jM:lA Prop) (iS:lA Nat):Prop:=
 ((iz 6 c)∧(iz 6 (bM 6 c)))∧((iz 4 (bM 6 (bM 6 c)))∧(Rg ay aB aS aU bw bu cd cc dp dq jM iS c c' an))
theorem adO (hg:Nat) (c:a_) (aI:GM c):iI Try.prog 109 hg (jP hg [.p] ()) (b6 false .c4 c) (b6 false .c4 (qF c)) (kS [.df] ((lr c),())):=(fun(ay:mw Prop) (aB:mw Nat) (aS:nD Prop) (aU:nD Nat) (bw:nC Prop) (bu:nC Nat) (cd:my Prop) (cc:my Nat) (dp:oY Prop) (dq:oY Nat) (jM:lA Prop) (iS:lA Nat) (h:Rb c (qF c) (lr c) ay aB aS aU bw bu cd cc dp dq jM iS)=>iI.run (hg:=hg) (ce:= .c4) (l:=[.p]) (rs:=[.df]) (x:=()) (c:=c) (c':=(qF c)) (r:=((lr c),())) ⟨182,ec,[zy]⟩ ⟨[],[(5,adW,adX),(20,adQ,adR),(22,adS,adT),(34,adU,adV)],[],[zz,adZ],[(24,[(7,1),(7,2)],[]),(36,[(0,10)],[])]⟩ (.lp [(4,1,.int)] [0,2,3] [(3,5),(2,5)] [.c4,.nat,(.l .int),.int] [bD 0,bD 1,bD 1,4] (fun aW=>[(4,.i .i64 aW.2.2.2.1),(e6 3 1,.ref 1 aW.2.1 aW.2.2.1.length false),(bD 0,.et hg (gA false .c4 aW.1)),(bD 1,.blk aW.2.1 .int aW.2.2.1 _ rfl)]) (fun aW=>ay aW.1 aW.2.1 aW.2.2.1 aW.2.2.2.1) (fun aW=>aB aW.1 aW.2.1 aW.2.2.1 aW.2.2.2.1) fun aW=>(.lp [(4,2,.j4)] [0,2,3] [(3,5),(2,5)] [.c4,.nat,(.l .j4),.int] [bD 0,bD 2,bD 2,5] (fun bP=>[(5,.i .i64 bP.2.2.2.1),(e6 3 2,.ref 2 bP.2.1 bP.2.2.1.length false),(bD 0,.et hg (gA false .c4 bP.1)),(bD 2,.blk bP.2.1 .j4 bP.2.2.1 _ rfl)]) (fun bP=>aS aW.1 aW.2.1 aW.2.2.1 aW.2.2.2.1 bP.1 bP.2.1 bP.2.2.1 bP.2.2.2.1) (fun bP=>aU aW.1 aW.2.1 aW.2.2.1 aW.2.2.2.1 bP.1 bP.2.1 bP.2.2.1 bP.2.2.2.1) fun bP=>(.tA (.lp [(4,3,(.l .bool))] [0,2,3,119] [(3,5),(2,5)] [.c4,.nat,(.l (.l .bool)),.int] [bD 0,bD 3,bD 3,120] (fun cb=>[(120,.i .i64 cb.2.2.2.1),(e6 3 3,.ref 3 cb.2.1 cb.2.2.1.length false),(bD 0,.et hg (gA false .c4 cb.1)),(bD 3,.blk cb.2.1 (.l .bool) cb.2.2.1 _ rfl)]) (fun cb=>bw aW.1 aW.2.1 aW.2.2.1 aW.2.2.2.1 bP.1 bP.2.1 bP.2.2.1 bP.2.2.2.1 cb.1 cb.2.1 cb.2.2.1 cb.2.2.2.1) (fun cb=>bu aW.1 aW.2.1 aW.2.2.1 aW.2.2.2.1 bP.1 bP.2.1 bP.2.2.1 bP.2.2.2.1 cb.1 cb.2.1 cb.2.2.1 cb.2.2.2.1) fun cb=>(.lp [] [0,2,3,9,119,120,129] [(3,5),(2,5)] [.c4,(.l .bool),.int] [bD 0,bD 4,130] (fun eG=>[(10,.ref 4 0 eG.2.1.length false),(130,.i .i64 eG.2.2.1),(bD 0,.et hg (gA false .c4 eG.1)),(bD 4,.blk 0 .bool eG.2.1 _ rfl)]) (fun eG=>cd aW.1 aW.2.1 aW.2.2.1 aW.2.2.2.1 bP.1 bP.2.1 bP.2.2.1 bP.2.2.2.1 cb.1 cb.2.1 cb.2.2.1 cb.2.2.2.1 eG.1 eG.2.1 eG.2.2.1) (fun eG=>cc aW.1 aW.2.1 aW.2.2.1 aW.2.2.2.1 bP.1 bP.2.1 bP.2.2.1 bP.2.2.2.1 cb.1 cb.2.1 cb.2.2.1 cb.2.2.2.1 eG.1 eG.2.1 eG.2.2.1) fun _=> .nil)) (.lp [] [0,2,3,5,6] [(6,5),(3,5),(2,5)] [.c4,(.l .int)] [bD 0,e6 6 0] (fun j3=>[(e6 6 0,.l .int j3.2.1 false true),(bD 0,.et hg (gA false .c4 j3.1))]) (fun j3=>dp aW.1 aW.2.1 aW.2.2.1 aW.2.2.2.1 bP.1 bP.2.1 bP.2.2.1 bP.2.2.2.1 j3.1 j3.2.1) (fun j3=>dq aW.1 aW.2.1 aW.2.2.1 aW.2.2.2.1 bP.1 bP.2.1 bP.2.2.1 bP.2.2.2.1 j3.1 j3.2.1) fun j3=>(.lp [(7,1,.bn),(7,2,.bn)] [0,2,3,5,6,75,76] [(6,5),(3,5),(2,5)] [.c4,.nat,.nat,(.l .bn),(.l .bn),.int] [bD 0,bD 3,bD 4,bD 3,bD 4,77] (fun iG=>[(77,.i .i64 iG.2.2.2.2.2.1),(e6 6 1,.ref 3 iG.2.1 iG.2.2.2.1.length false),(e6 6 2,.ref 4 iG.2.2.1 iG.2.2.2.2.1.length false),(bD 0,.et hg (gA false .c4 iG.1)),(bD 3,.blk iG.2.1 .bn iG.2.2.2.1 _ rfl),(bD 4,.blk iG.2.2.1 .bn iG.2.2.2.2.1 _ rfl)]) (fun iG=>jM aW.1 aW.2.1 aW.2.2.1 aW.2.2.2.1 bP.1 bP.2.1 bP.2.2.1 bP.2.2.2.1 j3.1 j3.2.1 iG.1 iG.2.1 iG.2.2.1 iG.2.2.2.1 iG.2.2.2.2.1 iG.2.2.2.2.2.1) (fun iG=>iS aW.1 aW.2.1 aW.2.2.1 aW.2.2.2.1 bP.1 bP.2.1 bP.2.2.1 bP.2.2.2.1 j3.1 j3.2.1 iG.1 iG.2.1 iG.2.2.1 iG.2.2.2.1 iG.2.2.2.2.1 iG.2.2.2.2.2.1) fun _=> .nil))))) Try.func109 h) (fun d _ x v=>(0≤v∧v≤3)∧bV (272+2*v) d∧x.length+v.toNat≤3∧tf (di c) v.toNat d x=gq c) (fun _ _ _ v=>v.toNat) (fun _ _ _ _ d _ x v=>(0≤v∧v≤5)∧bV (50+44*v) d∧x.length+v.toNat≤5∧tk (di c) (gq c).2 v.toNat d x=ep c) (fun _ _ _ _ _ _ _ v=>v.toNat) (fun _ _ _ _ _ _ _ _ d _ x v=>(0≤v∧v≤(ep c).2.length)∧bV (10*(5 - v)) d∧(x.length:Int)=v∧(∀j:Int,0≤j→j<v→(nth x j).length=(ep c).2.length)∧tB (ep c).2 ((ep c).2.length - v).toNat v d x=uL c) (fun _ _ _ _ _ _ _ _ _ _ _ v=>((ep c).2.length - v).toNat) (fun _ _ _ _ _ _ _ _ e _ y i d x v=>(0≤v∧v≤(ep c).2.length)∧bV (10*(5 - (i+1))+2*(5 - v)) d∧x.length=(ep c).2.length∧pM (ep c).2 y i ((ep c).2.length - v).toNat v d x=zl (ep c).2 y i e) (fun _ _ _ _ _ _ _ _ _ _ _ _ _ _ v=>((ep c).2.length - v).toNat) (fun _ _ _ _ e _ _ v d x=>(x=[]∧d=e)∨(x≠[]∧(d,x)=jG (di c) e)) (fun _ _ _ _ _ _ _ _ _ x=>1 - x.length) (fun _ _ _ _ e _ _ w _ _ d _ _ x y v=>(0≤v∧v≤(gq c).2.length)∧bV (50+44*(w - 1)+4*(3 - v)) d∧(x.length:Int)+y.length≤v∧n9 (gq c).2 (jG (di c) e).2 ((gq c).2.length - v).toNat v d x y=yQ (di c) (gq c).2 e) (fun _ _ _ _ _ _ _ _ _ _ _ _ _ _ _ v=>((gq c).2.length - v).toNat) (by
 replace aI:bV 300 c:=aI
 have mJ:=BW c
 have q1:bV 298 (bM 6 c):=bV.pick (aI.mono (by omega)) (by omega)
 have q2:bV 296 (bM 6 (bM 6 c)):=bV.pick (q1.mono (by omega)) (by omega)
 have q3:bV 294 (bM 4 (bM 6 (bM 6 c))):=bV.pick (q2.mono (by omega)) (by omega)
 have be:=mT 4 (bM 6 (bM 6 c))
 have afb:=be.2 (by omega)
 unfold Rb
 refine⟨⟨aI.mono (by omega),q1.mono (by omega)⟩,q2.mono (by omega),?_⟩
 unfold Rg
 refine⟨⟨⟨be.1,by omega⟩,q3.mono (by omega),by show 0+_≤3;omega,rfl⟩,fun bN aQ aG v4 ⟨pq,v5,afl,tR⟩=>⟨fun hv=> ?_,fun hv=> ?_⟩⟩
 case refine_2=>
  have hv:v4>0:=by simpa using hv
  have rj:IntKind.i64.wrap (v4 - 1)=v4 - 1:=fw (by omega) (by omega)
  rw[show v4.toNat=(v4 - 1).toNat+1 by omega] at tR
  unfold tf at tR
  unfold Rf
  rw[rj]
  exact⟨⟨v5.mono (by omega),by simp;omega,by simp;omega⟩,⟨⟨by omega,by omega⟩,bV.pick (k:=272+2*(v4 - 1)) (v5.mono (by omega)) (by omega),by simp;omega,tR⟩,by show(v4 - 1).toNat<v4.toNat;omega⟩
 have hv: ¬v4>0:=by simpa using hv
 rw[show v4.toNat=0 by omega] at tR
 have xZ:bN=(gq c).1:=by rw[←tR];rfl
 have ex:aG=(gq c).2:=by rw[←tR];rfl
 clear tR
 subst xZ;subst ex
 have ci:=KA (gq c).1
 refine⟨v5.mono (by omega),⟨⟨by omega,by omega⟩,(bV.pick (k:=270) (v5.mono (by omega)) (by omega)).mono (by omega),by show 0+_≤5;omega,rfl⟩,fun d a1 ws c6 ⟨Bb,AS,oF,st⟩=> ?_⟩
 unfold Re
 refine⟨fun yI=> ?_,fun yI=> ?_⟩
 ·have yI: ¬c6>0:=by simpa using yI
  rw[show c6.toNat=0 by omega] at st
  have bB:d=(ep c).1:=by rw[←st];rfl
  have e2:ws=(ep c).2:=by rw[←st];rfl
  clear st
  subst bB;subst e2
  refine⟨⟨⟨Int.le_refl _,by omega⟩,AS.mono (by omega),rfl,fun j cl e5=>by omega,by show tB _ (((ep c).2.length:Int) - 0).toNat _ _ _=_;rw[show(((ep c).2.length:Int) - 0).toNat=(ep c).2.length by omega];rfl⟩,fun e bS bs i ⟨Bc,rA,Ln,eL,v7⟩=> ?_⟩
  unfold Rj
  refine⟨fun hi=> ?_,fun hi=> ?_⟩
  ·have hi: ¬i<((ep c).2.length:Int):=by simpa using hi
   rw[show(((ep c).2.length:Int) - i).toNat=0 by omega] at v7
   unfold qF lr
   rw[←v7]
   exact⟨rfl,rfl,⟨by omega,rfl⟩,⟨by omega,rfl⟩,⟨by omega,rfl⟩,rfl⟩
  have hi:i<((ep c).2.length:Int):=by simpa using hi
  have Y5:IntKind.i64.wrap (i+1)=i+1:=fw (by omega) (by omega)
  unfold Ri
  refine⟨⟨by omega,by omega,by omega⟩,⟨⟨Int.le_refl _,by omega⟩,rA.mono (by omega),by simp,by show pM _ _ _ (((ep c).2.length:Int) - 0).toNat _ _ _=_;rw[show(((ep c).2.length:Int) - 0).toNat=(ep c).2.length by omega];rfl⟩,fun f r k ⟨W4,AT,Lo,nZ⟩=> ?_⟩
  unfold Rh
  refine⟨fun hk=> ?_,fun hk=> ?_⟩
  ·have hk: ¬k<((ep c).2.length:Int):=by simpa using hk
   rw[show(((ep c).2.length:Int) - k).toNat=0 by omega] at nZ
   rw[show(((ep c).2.length:Int) - i).toNat=(((ep c).2.length:Int) - (i+1)).toNat+1 by omega] at v7
   unfold tB at v7
   rw[←nZ] at v7
   rw[Y5]
   refine⟨by omega,⟨by simp;omega,by simp;omega⟩,⟨⟨by omega,by omega⟩,AT.mono (by omega),by simp;omega,fun j cl e5=> ?_,v7⟩,by show(((ep c).2.length:Int) - (i+1)).toNat<(((ep c).2.length:Int) - i).toNat;omega⟩
   rw[Gv cl]
   split
   ·exact eL j cl (by omega)
   ·rw[if_pos (by omega)];exact Lo
  have hk:k<((ep c).2.length:Int):=by simpa using hk
  have Bv:IntKind.i64.wrap (k+1)=k+1:=fw (by omega) (by omega)
  rw[show(((ep c).2.length:Int) - k).toNat=(((ep c).2.length:Int) - (k+1)).toNat+1 by omega] at nZ
  unfold pM at nZ
  have ba:0≤k:=W4.1
  have lW:k.toNat<r.length:=by omega
  have n_:(((ep c).2.length:Int) - (k+1)).toNat<(((ep c).2.length:Int) - k).toNat:=by omega
  have rg:(0≤k+1∧k+1≤((ep c).2.length:Int)):=by omega
  have EB:bV (10*(5 - (i+1))+2*(5 - (k+1))) f:=AT.mono (by omega)
  have Co: ∀b:Bool,(r.set k.toNat b).length=(ep c).2.length:=fun b=>by rw[List.length_set];exact Lo
  unfold Rc
  rw[Bv]
  refine⟨fun bf=> ?_,fun fK=> ?_⟩
  ·rw[if_pos bf] at nZ
   have bf:k<i:=by simpa using bf
   have:=eL k ba bf
   exact⟨⟨ba,by omega⟩,by omega,⟨by omega,by omega⟩,⟨ba,lW⟩,lW,⟨rg,EB,Co _,nZ⟩,n_⟩
  rw[if_neg (by rw[fK];simp)] at nZ
  refine⟨fun ym=> ?_,fun ck=>⟨⟨by omega,by omega⟩,by omega,⟨ba,by omega⟩,by omega,fun hm=> ?_,fun hm=> ?_⟩⟩
  ·rw[if_pos ym] at nZ
   exact⟨⟨ba,lW⟩,lW,⟨rg,EB,Co _,nZ⟩,n_⟩
  ·rw[if_neg (by rw[ck];simp),if_pos hm] at nZ
   exact⟨⟨ba,lW⟩,lW,⟨rg,EB,Co _,nZ⟩,n_⟩
  ·rw[if_neg (by rw[ck];simp),if_neg (by rw[hm];simp)] at nZ
   exact⟨AT.mono (by omega),⟨ba,lW⟩,lW,⟨rg,bV.pick (AT.mono (by omega)) (by omega),Co _,nZ⟩,n_⟩
 have yI:c6>0:=by simpa using yI
 refine⟨.inl ⟨rfl,rfl⟩,fun e ss aZ=> ?_⟩
 unfold Rd
 refine⟨fun sE ck=> ?_,fun⟨sE,ym⟩=> ?_⟩
 case refine_2=>
  have LF:ss=[]:=by
   have:ss.length=0:=by simpa using ym
   exact List.length_eq_zero_iff.1 this
  rcases aZ with⟨_,rfl⟩ | ⟨ck,_⟩
  case inr=>exact absurd LF ck
  subst LF
  have yC:=xi (n:=di c) (no:=[]) (c:=e) (q:=40+44*c6) (m:=4) (by omega) (AS.mono (by omega)) (by omega) (by omega) (by omega)
  refine⟨⟨AS.mono (by omega),by omega,by omega⟩,fun afm=> ?_⟩
  unfold Ro
  refine⟨fun aP=>⟨yC.1.mono (by omega),.inr ⟨by simp,by unfold jG;rw[if_pos aP]⟩,by show 1 - [_].length<1 - ([]:List Int).length;simp⟩,fun aP=>⟨.inr ⟨fun ie=>by rw[ie] at aP;simp at aP,by unfold jG;rw[if_neg (by rw[aP];simp)]⟩,?_⟩⟩
  have:(hr (di c) 4 [] e).length≠0:=fun ie=>by rw[ie] at aP;simp at aP
  show 1 - (hr (di c) 4 [] e).length<1 - ([]:List Int).length
  simp;omega
 have nk:(e,ss)=jG (di c) d:=by
  rcases aZ with⟨rfl,_⟩ | ⟨_,h⟩
  ·simp at ck
  ·exact h
 have e2:(jG (di c) d).2=ss:=by rw[←nk]
 have yC:=Pf (n:=di c) (c:=d) (q:=38+44*c6) (by omega) (AS.mono (by omega)) (by omega)
 rw[←nk] at yC
 have wx:=xi (n:=di c) (no:=ss) (c:=e) (q:=28+44*c6) (m:=2) (by omega) (yC.1.mono (by omega)) (by omega) (by omega) (by omega)
 have Xd:=xi (n:=di c) (no:=ss) (c:=hY (di c) 2 ss e) (q:=18+44*c6) (m:=2) (by omega) (wx.1.mono (by omega)) (by omega) (by omega) (by omega)
 refine⟨⟨yC.1.mono (by omega),by omega,by omega⟩,⟨wx.1.mono (by omega),by omega,by omega⟩,?_⟩
 unfold Rn
 refine⟨⟨⟨Int.le_refl _,by omega⟩,Xd.1.mono (by omega),by simp,?_⟩,fun f bS lS x y v ⟨afo,yk,EK,pi⟩=> ?_⟩
 ·show n9 _ _ (((gq c).2.length:Int) - 0).toNat _ _ _ _=_
  rw[show(((gq c).2.length:Int) - 0).toNat=(gq c).2.length by omega]
  unfold yQ
  rw[←nk]
 have gS:v<((gq c).2.length:Int)→IntKind.i64.wrap (v+1)=v+1:=fun _=>fw (by omega) (by omega)
 unfold Rm
 refine⟨fun hv=> ?_,fun hv=> ?_⟩
 ·have hv: ¬v<((gq c).2.length:Int):=by simpa using hv
  rw[show(((gq c).2.length:Int) - v).toNat=0 by omega] at pi
  have Ul:vc (di c) (gq c).2 d=(f,Way.mk ss x y (hr (di c) 2 ss e) (hr (di c) 2 ss (hY (di c) 2 ss e))):=by
   unfold vc
   rw[←pi,←nk];rfl
  rw[show c6.toNat=(c6 - 1).toNat+1 by omega] at st
  unfold tk at st
  rw[Ul] at st
  have iG:IntKind.i64.wrap (c6 - 1)=c6 - 1:=fw (by omega) (by omega)
  rw[iG]
  exact⟨by omega,by omega,⟨by simp;omega,by simp;omega⟩,⟨⟨by omega,by omega⟩,yk.mono (by omega),by simp;omega,st⟩,by show(c6 - 1).toNat<c6.toNat;omega⟩
 have hv:v<((gq c).2.length:Int):=by simpa using hv
 rw[show(((gq c).2.length:Int) - v).toNat=(((gq c).2.length:Int) - (v+1)).toNat+1 by omega] at pi
 unfold n9 at pi
 have n_:(((gq c).2.length:Int) - (v+1)).toNat<(((gq c).2.length:Int) - v).toNat:=by omega
 have rg:(0≤v+1∧v+1≤((gq c).2.length:Int)):=by omega
 unfold Rl
 rw[gS hv]
 refine⟨⟨⟨by omega,by omega⟩,by omega⟩,fun hm=> ?_,fun hm=>⟨yk.mono (by omega),?_⟩⟩
 ·rw[←e2] at hm
  rw[if_pos hm] at pi
  exact⟨yk.mono (by omega),⟨by simp;omega,by simp;omega⟩,⟨rg,bV.pick (yk.mono (by omega)) (by omega),by simp;omega,pi⟩,n_⟩
 ·rw[←e2] at hm
  rw[if_neg (by rw[hm];simp)] at pi
  have aN:bV (50+44*(c6 - 1)+4*(3 - (v+1))+2) (bM 3 f):=bV.pick (yk.mono (by omega)) (by omega)
  unfold Rk
  rw[gS hv]
  refine⟨fun hk=> ?_,fun hk=> ?_⟩
  ·rw[if_pos hk] at pi
   exact⟨aN.mono (by omega),⟨by simp;omega,by simp;omega⟩,⟨rg,bV.pick aN (by omega),by simp;omega,pi⟩,n_⟩
  ·rw[if_neg (by rw[hk];simp)] at pi
   exact⟨⟨rg,aN.mono (by omega),by omega,pi⟩,n_⟩)
def adP:lc Try.prog:=⟨109,.c4,[.p],[.df],fun x c=>GM c,fun x c=>qF c,fun x c=>((lr c),()),fun g x c h=>adO g c h⟩
abbrev oZ (r:Type):Type:=a_→Nat→(List Event)→Bool→(List Bool)→(List bc)→(List ae)→Int→r
def Ry (ay:oZ Prop) (aB:oZ Nat) (M:aA) (bN:a_) (aQ:Nat) (aG:(List Event)) (cM:Bool) (cN:(List Bool)) (cO:(List bc)) (cP:(List ae)) (b5:Int):Prop:=
  (((gf M (Frame.mk cM cN cO cP) (iy M (bM 30 (eA M (Frame.mk cM cN cO cP) bN)))).code !=1)=true→((aG.length+[(iy M (bM 30 (eA M (Frame.mk cM cN cO cP) bN)))].length)*24≤140737488355328∧aG.length+[(iy M (bM 30 (eA M (Frame.mk cM cN cO cP) bN)))].length≤4611686018427387904)∧(ay (oM M (bM 30 (eA M (Frame.mk cM cN cO cP) bN))) (aQ+1) (aG++[(iy M (bM 30 (eA M (Frame.mk cM cN cO cP) bN)))]) (gf M (Frame.mk cM cN cO cP) (iy M (bM 30 (eA M (Frame.mk cM cN cO cP) bN)))).frame.ok (gf M (Frame.mk cM cN cO cP) (iy M (bM 30 (eA M (Frame.mk cM cN cO cP) bN)))).frame.aw (gf M (Frame.mk cM cN cO cP) (iy M (bM 30 (eA M (Frame.mk cM cN cO cP) bN)))).frame.au (gf M (Frame.mk cM cN cO cP) (iy M (bM 30 (eA M (Frame.mk cM cN cO cP) bN)))).frame.O (IntKind.i64.wrap (b5 - 1))∧aB (oM M (bM 30 (eA M (Frame.mk cM cN cO cP) bN))) (aQ+1) (aG++[(iy M (bM 30 (eA M (Frame.mk cM cN cO cP) bN)))]) (gf M (Frame.mk cM cN cO cP) (iy M (bM 30 (eA M (Frame.mk cM cN cO cP) bN)))).frame.ok (gf M (Frame.mk cM cN cO cP) (iy M (bM 30 (eA M (Frame.mk cM cN cO cP) bN)))).frame.aw (gf M (Frame.mk cM cN cO cP) (iy M (bM 30 (eA M (Frame.mk cM cN cO cP) bN)))).frame.au (gf M (Frame.mk cM cN cO cP) (iy M (bM 30 (eA M (Frame.mk cM cN cO cP) bN)))).frame.O (IntKind.i64.wrap (b5 - 1))<aB bN aQ aG cM cN cO cP b5))∧(((gf M (Frame.mk cM cN cO cP) (iy M (bM 30 (eA M (Frame.mk cM cN cO cP) bN)))).code !=1)=false→((aG.length+[(iy M (bM 30 (eA M (Frame.mk cM cN cO cP) bN)))].length)*24≤140737488355328∧aG.length+[(iy M (bM 30 (eA M (Frame.mk cM cN cO cP) bN)))].length≤4611686018427387904)∧(ay (oM M (bM 30 (eA M (Frame.mk cM cN cO cP) bN))) (aQ+1) (aG++[(iy M (bM 30 (eA M (Frame.mk cM cN cO cP) bN)))]) cM cN cO cP (IntKind.i64.wrap (b5 - 1))∧aB (oM M (bM 30 (eA M (Frame.mk cM cN cO cP) bN))) (aQ+1) (aG++[(iy M (bM 30 (eA M (Frame.mk cM cN cO cP) bN)))]) cM cN cO cP (IntKind.i64.wrap (b5 - 1))<aB bN aQ aG cM cN cO cP b5))
def Rz (ay:oZ Prop) (aB:oZ Nat) (M:aA) (bN:a_) (aQ:Nat) (aG:(List Event)) (cM:Bool) (cN:(List Bool)) (cO:(List bc)) (cP:(List ae)) (b5:Int):Prop:=
  (((gf M (Frame.mk cM cN cO cP) (ff M (Frame.mk cM cN cO cP) bN)).code !=1)=true→((aG.length+[(ff M (Frame.mk cM cN cO cP) bN)].length)*24≤140737488355328∧aG.length+[(ff M (Frame.mk cM cN cO cP) bN)].length≤4611686018427387904)∧(ay (bM 30 (eA M (Frame.mk cM cN cO cP) bN)) (aQ+1) (aG++[(ff M (Frame.mk cM cN cO cP) bN)]) (gf M (Frame.mk cM cN cO cP) (ff M (Frame.mk cM cN cO cP) bN)).frame.ok (gf M (Frame.mk cM cN cO cP) (ff M (Frame.mk cM cN cO cP) bN)).frame.aw (gf M (Frame.mk cM cN cO cP) (ff M (Frame.mk cM cN cO cP) bN)).frame.au (gf M (Frame.mk cM cN cO cP) (ff M (Frame.mk cM cN cO cP) bN)).frame.O (IntKind.i64.wrap (b5 - 1))∧aB (bM 30 (eA M (Frame.mk cM cN cO cP) bN)) (aQ+1) (aG++[(ff M (Frame.mk cM cN cO cP) bN)]) (gf M (Frame.mk cM cN cO cP) (ff M (Frame.mk cM cN cO cP) bN)).frame.ok (gf M (Frame.mk cM cN cO cP) (ff M (Frame.mk cM cN cO cP) bN)).frame.aw (gf M (Frame.mk cM cN cO cP) (ff M (Frame.mk cM cN cO cP) bN)).frame.au (gf M (Frame.mk cM cN cO cP) (ff M (Frame.mk cM cN cO cP) bN)).frame.O (IntKind.i64.wrap (b5 - 1))<aB bN aQ aG cM cN cO cP b5))∧(((gf M (Frame.mk cM cN cO cP) (ff M (Frame.mk cM cN cO cP) bN)).code !=1)=false→((aG.length+[(ff M (Frame.mk cM cN cO cP) bN)].length)*24≤140737488355328∧aG.length+[(ff M (Frame.mk cM cN cO cP) bN)].length≤4611686018427387904)∧(ay (bM 30 (eA M (Frame.mk cM cN cO cP) bN)) (aQ+1) (aG++[(ff M (Frame.mk cM cN cO cP) bN)]) cM cN cO cP (IntKind.i64.wrap (b5 - 1))∧aB (bM 30 (eA M (Frame.mk cM cN cO cP) bN)) (aQ+1) (aG++[(ff M (Frame.mk cM cN cO cP) bN)]) cM cN cO cP (IntKind.i64.wrap (b5 - 1))<aB bN aQ aG cM cN cO cP b5))
def RA (ay:oZ Prop) (aB:oZ Nat) (M:aA) (bN:a_) (aQ:Nat) (aG:(List Event)) (cM:Bool) (cN:(List Bool)) (cO:(List bc)) (cP:(List ae)) (b5:Int):Prop:=
  (((cE 30 (eA M (Frame.mk cM cN cO cP) bN))==0)=true→(Gy M (bM 30 (eA M (Frame.mk cM cN cO cP) bN)))∧((Cj M (Frame.mk cM cN cO cP) (iy M (bM 30 (eA M (Frame.mk cM cN cO cP) bN))))∧(Ry ay aB M bN aQ aG cM cN cO cP b5)))∧(((cE 30 (eA M (Frame.mk cM cN cO cP) bN))==0)=false→(Cj M (Frame.mk cM cN cO cP) (ff M (Frame.mk cM cN cO cP) bN))∧(Rz ay aB M bN aQ aG cM cN cO cP b5))
def RB (ay:oZ Prop) (aB:oZ Nat) (M:aA) (U:Int) (c c':a_) (an:(List Event)):Prop:=
  ay (bM U c) 0 ([]:List Event) (eI M).ok (eI M).aw (eI M).au (eI M).O (cE U c)∧ ∀(bN:a_) (aQ:Nat) (aG:(List Event)) (cM:Bool) (cN:(List Bool)) (cO:(List bc)) (cP:(List ae)) (b5:Int),ay bN aQ aG cM cN cO cP b5→(((decide (b5>0))=false→(bN=c')∧(aG.length≤4611686018427387904∧aG=an))∧((decide (b5>0))=true→(DX M (Frame.mk cM cN cO cP) bN)∧((iz 30 (eA M (Frame.mk cM cN cO cP) bN))∧(RA ay aB M bN aQ aG cM cN cO cP b5))))
def Rx (M:aA) (U:Int) (c c':a_) (an:(List Event)) (ay:oZ Prop) (aB:oZ Nat):Prop:=
 (iz U c)∧(RB ay aB M U c c' an)
theorem ad4 (hg:Nat) (M:aA) (U:Int) (c:a_) (aI:Ao M U c):iI Try.prog 110 hg (jP hg [.p,.v .df,.v .int] (M,U,())) (b6 false .c4 c) (b6 false .c4 (xY M U c)) (kS [(.l .fI)] ((si M U c),())):=(fun(ay:oZ Prop) (aB:oZ Nat) (h:Rx M U c (xY M U c) (si M U c) ay aB)=>iI.run (hg:=hg) (ce:= .c4) (l:=[.p,.v .df,.v .int]) (rs:=[(.l .fI)]) (x:=(M,U,())) (c:=c) (c':=(xY M U c)) (r:=((si M U c),())) ⟨45,ec,[ab7,acd]⟩ ⟨[],[],[],[zz,adE,adM],[]⟩ (.lp [(0,7,.fI)] [0,4,8] [(8,4),(4,5)] [.c4,.nat,(.l .fI),.bool,(.l .bool),(.l .g3),(.l .held),.int] [bD 0,bD 1,bD 1,e6 8 0,e6 8 1,e6 8 2,e6 8 3,9] (fun aW=>[(7,.ref 1 aW.2.1 aW.2.2.1.length false),(9,.i .i64 aW.2.2.2.2.2.2.2.1),(e6 8 0,.b (.v aW.2.2.2.1)),(e6 8 1,.l .bool aW.2.2.2.2.1 false true),(e6 8 2,.l .g3 aW.2.2.2.2.2.1 false true),(e6 8 3,.l .held aW.2.2.2.2.2.2.1 false true),(bD 0,.et hg (gA false .c4 aW.1)),(bD 1,.blk aW.2.1 .fI aW.2.2.1 _ rfl)]) (fun aW=>ay aW.1 aW.2.1 aW.2.2.1 aW.2.2.2.1 aW.2.2.2.2.1 aW.2.2.2.2.2.1 aW.2.2.2.2.2.2.1 aW.2.2.2.2.2.2.2.1) (fun aW=>aB aW.1 aW.2.1 aW.2.2.1 aW.2.2.2.1 aW.2.2.2.2.1 aW.2.2.2.2.2.1 aW.2.2.2.2.2.2.1 aW.2.2.2.2.2.2.2.1) fun _=> .nil) Try.func110 h) (fun d _ x a b o e v=>(0≤v∧v≤49)∧bV (20*v) d∧eV M (Frame.mk a b o e)=true∧x.length+v.toNat≤49∧r3 M v.toNat (Frame.mk a b o e) d x=DD M U c) (fun _ _ _ _ _ _ _ v=>v.toNat) (by
 obtain⟨hg,ak,aU,afr⟩:=aI
 have hv:=mT U c
 have hv2:=hv.2 aU
 have v5:bV 998 (bM U c):=bV.pick (ak.mono (by omega)) (by omega)
 unfold Rx RB
 refine⟨ak.mono (by omega),⟨⟨hv.1,by omega⟩,v5.mono (by omega),CZ hg,by show 0+_≤49;omega,rfl⟩,fun d g x k o q w v ⟨aK,bi,hf,aL,he⟩=>⟨fun hv=> ?_,fun hv=> ?_⟩⟩
 ·have hv: ¬v>0:=by simpa using hv
  rw[show v.toNat=0 by omega] at he
  unfold xY si
  rw[←he]
  exact⟨rfl,by omega,rfl⟩
 have hv:v>0:=by simpa using hv
 have rj:IntKind.i64.wrap (v - 1)=v - 1:=fw (by omega) (by omega)
 have fit:=rq hf
 have h1:bV 10 (eA M (Frame.mk k o q w) d):=Kl (bi.mono (by omega)) (by omega)
 have h2:bV 8 (bM 30 (eA M (Frame.mk k o q w) d)):=bV.pick (h1.mono (by omega)) (by omega)
 have oK: ∀e:Event,(x.length+[e].length)*24≤140737488355328∧x.length+[e].length≤4611686018427387904:=fun e=>⟨by simp;omega,by simp;omega⟩
 have kD: ∀e:Event,(x++[e]).length+(v - 1).toNat≤49:=fun e=>by simp;omega
 have n_:(v - 1).toNat<v.toNat:=by omega
 refine⟨⟨⟨fit.in,fit.fr⟩,bi.mono (by omega)⟩,h1.mono (by omega),?_⟩
 unfold RA
 refine⟨fun hb=>⟨h2,GB hf,?_⟩,fun hb=>⟨GB hf,?_⟩⟩
 ·obtain⟨aQ,a1,bS⟩:=O5 hf hv bi he (show qN M (Frame.mk k o q w) d=(iy M (bM 30 (eA M (Frame.mk k o q w) d)),oM M (bM 30 (eA M (Frame.mk k o q w) d))) by unfold qN;rw[hb];rfl)
  unfold Ry
  rw[rj]
  exact⟨fun hc=>⟨oK _,⟨⟨by omega,by omega⟩,aQ,(a1 hc).1,kD _,(a1 hc).2⟩,n_⟩,fun hc=>⟨oK _,⟨⟨by omega,by omega⟩,aQ,hf,kD _,bS hc⟩,n_⟩⟩
 ·obtain⟨aQ,a1,bS⟩:=O5 hf hv bi he (show qN M (Frame.mk k o q w) d=(ff M (Frame.mk k o q w) d,bM 30 (eA M (Frame.mk k o q w) d)) by unfold qN;rw[hb];rfl)
  unfold Rz
  rw[rj]
  exact⟨fun hc=>⟨oK _,⟨⟨by omega,by omega⟩,aQ,(a1 hc).1,kD _,(a1 hc).2⟩,n_⟩,fun hc=>⟨oK _,⟨⟨by omega,by omega⟩,aQ,hf,kD _,bS hc⟩,n_⟩⟩)
def ad5:lc Try.prog:=⟨110,.c4,[.p,.v .df,.v .int],[(.l .fI)],fun x c=>Ao x.1 x.2.1 c,fun x c=>xY x.1 x.2.1 c,fun x c=>((si x.1 x.2.1 c),()),fun g x c h=>ad4 g x.1 x.2.1 c h⟩
def acm:List Item:=[aq 0,aq 1,aq 2,⟨3,true,false,[0]⟩,⟨4,true,false,[]⟩,aq 5]
def acn:List (List Nat):=[[],[],[],[1,2],rg 0 4,rg 0 5]
def aci (J:(List UInt8)) (an:aA×(List Event)):Prop:=
  (GM (a_.mk J 0 0))∧((Ao (lr (a_.mk J 0 0)) 50 (qF (a_.mk J 0 0)))∧(((lr (a_.mk J 0 0)).ah=an.1.ah)∧((lr (a_.mk J 0 0)).bd=an.1.bd)∧((lr (a_.mk J 0 0)).O=an.1.O)∧((lr (a_.mk J 0 0)).bU=an.1.bU)∧((lr (a_.mk J 0 0)).dl=an.1.dl)∧((si (lr (a_.mk J 0 0)) 50 (qF (a_.mk J 0 0)))=an.2)))
def ach (J:(List UInt8)) (an:aA×(List Event)):Prop:=
 aci J an
theorem acj (J:(List UInt8)):bZ Try.prog 46 [bK p9 J] (.tup [.agg (bg true ((o8 J).1)),hh je ((o8 J).2)]):=(fun(h:ach J (o8 J))=>bZ.run (ps:=[(.l .u8)]) (rs:=[.df,(.l .fI)]) (x:=(J,())) (r:=((o8 J).1,(o8 J).2,())) ⟨15,ec,[]⟩ ⟨[],[(3,acm,acn)],[],[adP,ad5],[]⟩ .nil Try.func46 h) (by
 exact⟨(DA J).mono (by omega),TY J,rfl,rfl,rfl,rfl,rfl,rfl⟩)
def ack:eg Try.prog:=⟨46,[(.l .u8)],[.df,(.l .fI)],none,fun x=>((o8 x.1).1,(o8 x.1).2,()),fun x h=>acj x.1⟩
def Nn (bw:c2 Prop) (bu:c2 Nat) (J:(List UInt8)) (an:Bool) (b4 fP v30:Int):Prop:=
  ((0≤b4∧b4.toNat<(nth (hU J).O fP).ah.length)∧((0≤(nth (nth (hU J).O fP).ah b4)∧(nth (nth (hU J).O fP).ah b4).toNat<(nth (gG J) v30).frame.aw.length)∧((nth (nth (gG J) v30).frame.aw (nth (nth (hU J).O fP).ah b4))=true→false=an)))∧((!(nth (nth (gG J) v30).frame.aw (nth (nth (hU J).O fP).ah b4)))=true→bw v30 fP (IntKind.i64.wrap (b4+1))∧bu v30 fP (IntKind.i64.wrap (b4+1))<bu v30 fP b4)
def No (aS:Int→Int→Prop) (aU:Int→Int→Nat) (bw:c2 Prop) (bu:c2 Nat) (J:(List UInt8)) (an:Bool) (fP v30:Int):Prop:=
  (0≤fP∧fP.toNat<(hU J).O.length)∧((nth (hU J).O fP).ah.length≤4611686018427387904→bw v30 fP 0∧ ∀(b4:Int),bw v30 fP b4→(((decide (b4<((nth (hU J).O fP).ah.length:Int)))=false→aS v30 (IntKind.i64.wrap (fP+1))∧aU v30 (IntKind.i64.wrap (fP+1))<aU v30 fP)∧((decide (b4<((nth (hU J).O fP).ah.length:Int)))=true→Nn bw bu J an b4 fP v30)))
def Np (aS:Int→Int→Prop) (aU:Int→Int→Nat) (bw:c2 Prop) (bu:c2 Nat) (J:(List UInt8)) (an:Bool) (fP v30:Int):Prop:=
  (((nth (nth (gG J) v30).frame.O fP).ar !=2)=true→aS v30 (IntKind.i64.wrap (fP+1))∧aU v30 (IntKind.i64.wrap (fP+1))<aU v30 fP)∧((!((nth (nth (gG J) v30).frame.O fP).ar !=2))=true→((Ea (hU J) (nth (gG J) v30).frame fP)∧((!(tq (hU J) (nth (gG J) v30).frame fP))=true→false=an))∧((!(!(tq (hU J) (nth (gG J) v30).frame fP)))=true→No aS aU bw bu J an fP v30))
def Nq (ay:Int→Prop) (aB:Int→Nat) (aS:Int→Int→Prop) (aU:Int→Int→Nat) (bw:c2 Prop) (bu:c2 Nat) (J:(List UInt8)) (an:Bool) (fP v30:Int):Prop:=
  ((decide (fP<((nth (gG J) v30).frame.O.length:Int)))=false→ay (IntKind.i64.wrap (v30+1))∧aB (IntKind.i64.wrap (v30+1))<aB v30)∧((decide (fP<((nth (gG J) v30).frame.O.length:Int)))=true→(0≤fP∧fP.toNat<(nth (gG J) v30).frame.O.length)∧(Np aS aU bw bu J an fP v30))
def Nr (ay:Int→Prop) (aB:Int→Nat) (aS:Int→Int→Prop) (aU:Int→Int→Nat) (bw:c2 Prop) (bu:c2 Nat) (J:(List UInt8)) (an:Bool) (v30:Int):Prop:=
  (((nth (gG J) v30).frame.O.length≤4611686018427387904)∧((hU J).O.length≤4611686018427387904)→((((nth (gG J) v30).frame.O.length:Int) !=((hU J).O.length:Int)) || (((nth (gG J) v30).frame.aw.length:Int) !=(hU J).ah))=true→false=an)∧(((nth (gG J) v30).frame.O.length≤4611686018427387904)∧((hU J).O.length≤4611686018427387904)∧((!((((nth (gG J) v30).frame.O.length:Int) !=((hU J).O.length:Int)) || (((nth (gG J) v30).frame.aw.length:Int) !=(hU J).ah)))=true)→aS v30 0∧ ∀(fP:Int),aS v30 fP→(Nq ay aB aS aU bw bu J an fP v30))
def Ns (ay:Int→Prop) (aB:Int→Nat) (aS:Int→Int→Prop) (aU:Int→Int→Nat) (bw:c2 Prop) (bu:c2 Nat) (J:(List UInt8)) (an:Bool):Prop:=
  (((gG J).length≤4611686018427387904)∧((n8 J).length≤4611686018427387904)→(((gG J).length:Int) !=((n8 J).length:Int))=true→false=an)∧(((gG J).length≤4611686018427387904)∧((n8 J).length≤4611686018427387904)∧((!(((gG J).length:Int) !=((n8 J).length:Int)))=true)→ay 0∧ ∀(v30:Int),ay v30→(((decide (v30<((gG J).length:Int)))=false→true=an)∧((decide (v30<((gG J).length:Int)))=true→(0≤v30∧v30.toNat<(gG J).length)∧(Nr ay aB aS aU bw bu J an v30))))
def Nm (J:(List UInt8)) (an:Bool) (ay:Int→Prop) (aB:Int→Nat) (aS:Int→Int→Prop) (aU:Int→Int→Nat) (bw:c2 Prop) (bu:c2 Nat):Prop:=
 (J.length≤4611686018427387904→(decide ((J.length:Int)>1048576))=true→true=an)∧((J.length≤4611686018427387904)∧((!(decide ((J.length:Int)>1048576)))=true)→Ns ay aB aS aU bw bu J an)
theorem Zf (J:(List UInt8)):bZ Try.prog 13 [bK p9 J] (al (IZ J)):=(fun(ay:Int→Prop) (aB:Int→Nat) (aS:Int→Int→Prop) (aU:Int→Int→Nat) (bw:c2 Prop) (bu:c2 Nat) (h:Nm J (IZ J) ay aB aS aU bw bu)=>bZ.run (ps:=[(.l .u8)]) (rs:=[.bool]) (x:=(J,())) (r:=((IZ J),())) ⟨89,ec,[ack,XR,XP]⟩ ⟨[29,54],[],[],[],[]⟩ (eP [3,28,29] [(3,5)] 30 ay aB fun aW=>(eP [3,7,28,29,30,53,54] [(7,5),(3,5)] 55 (aS aW) (aU aW) fun bP=>(eP [3,7,28,29,30,53,54,55,74,75] [(7,5),(3,5)] 76 (bw aW bP) (bu aW bP) fun _=> .nil))) Try.func13 h) (cr (gG J).length (fun _=>false)) (cA (gG J).length) (fun v=>cr (nth (gG J) v).frame.O.length (fun _=>false)) (fun v=>cA (nth (gG J) v).frame.O.length) (fun _ i=>cr (nth (hU J).O i).ah.length (fun _=>false)) (fun _ i=>cA (nth (hU J).O i).ah.length) (by
 have hlen:=aaI J
 unfold Nm
 refine⟨fun _ _=>rfl,fun _=> ?_⟩
 unfold Ns
 refine⟨fun _ h=>by rw[hlen] at h;simp at h,fun⟨h1,h2,_⟩=>⟨c7 (dh _),fun v aZ=>⟨fun _=>rfl,fun hv=>⟨ca aZ hv,?_⟩⟩⟩⟩
 have b9:=ca aZ hv
 have fg:=aaK (code:=J) b9.1 (by omega)
 have ng:=Vf fg
 have cx:=(rq fg).in
 unfold Nr
 refine⟨fun _ h=>by rw[ng.2.2,ng.1] at h;simp at h,fun⟨bP,_⟩=>⟨c7 (dh _),fun i c1=> ?_⟩⟩
 unfold Nq
 refine⟨fun _=>cI (cv h1) aZ hv rfl,fun hi=>⟨ca c1 hi,?_⟩⟩
 have F3:=ca c1 hi
 unfold Np
 refine⟨fun _=>cI (cv bP) c1 hi rfl,fun hs=> ?_⟩
 have hs:(nth (nth (gG J) v).frame.O i).ar=2:=by simpa using hs
 have aI:=Tw fg F3.1 (by omega) hs
 refine⟨⟨GB fg,fun aH=> ?_⟩,fun _=> ?_⟩
 ·unfold tq py at aH
  rw[fg,aI] at aH
  have h1:=F3.1
  simp at aH
  omega
 unfold No
 refine⟨⟨F3.1,by omega⟩,fun hm=>⟨c7 (dh _),fun k hK=>⟨fun _=>cI (cv bP) c1 hi rfl,fun hk=> ?_⟩⟩⟩
 have Nf:=ca hK hk
 have hx:=du Nf.2
 have yD:=(cx.ah _ (du (xs:=(hU J).O) (i:=i) (by omega))).2.2 _ hx
 unfold Nn
 refine⟨⟨Nf,⟨yD.1,by omega⟩,fun aC=> ?_⟩,fun _=>cI (cv hm) hK hk rfl⟩
 rw[ab5 (aar aI) hx] at aC
 cases aC)
end Go.Proofs.Ytglpfccgmfhkdaa.Fw
