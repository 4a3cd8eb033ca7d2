/- Walks and summaries of functions, printed by a program of mine (tools/mk2.py), with the proofs of what they owe. -/
import Derived.Test.YtglpfccgmfhkdaaM6
set_option linter.unusedVariables false
set_option maxRecDepth 100000
set_option maxHeartbeats 4000000
set_option linter.unusedSimpArgs false
namespace Go.Proofs.Ytglpfccgmfhkdaa.Fw
open Go
attribute [local irreducible] evS evSD WpS Weak Oper.looksAt
noncomputable def Fi:Code:=iw Try.f33
def XD:List Item:=[aq 0,aq 1,aq 2,aq 3,⟨4,true,false,[0,1]⟩,⟨5,true,false,[0,1]⟩,⟨6,true,false,[]⟩,aq 7,⟨8,true,false,[]⟩]
def XE:List (List Nat):=[[],[0],[],[],[2,3],[2,3,4],rg 0 6,rg 0 7,rg 0 8]
abbrev iE (r:Type):Type:=Nat→(List bc)→Int→List (List Bool)→Nat→Nat→List Nat→Int→List ae→r
def Fe (aS:iE Prop) (aU:iE Nat) (J:aA) (aQ:Nat) (aG:(List bc)) (c8:Int) (aY:List (List Bool)) (a1 bS:Nat) (aO:List Nat) (bb:Int) (ws2:List ae):Prop:=
  aS aQ aG c8 (aY++[(a4 J bb).ac]) (a1+1) (bS+1) (aO++[aY.length]) (IntKind.i64.wrap (bb+1)) (ws2++[(ae.mk (a4 J bb).ar (a4 J bb).af (a4 J bb).ac (a4 J bb).ao (a4 J bb).ap)])∧aU aQ aG c8 (aY++[(a4 J bb).ac]) (a1+1) (bS+1) (aO++[aY.length]) (IntKind.i64.wrap (bb+1)) (ws2++[(ae.mk (a4 J bb).ar (a4 J bb).af (a4 J bb).ac (a4 J bb).ao (a4 J bb).ap)])<aU aQ aG c8 aY a1 bS aO bb ws2
def Ff (aS:iE Prop) (aU:iE Nat) (J:aA) (an:Frame) (aQ:Nat) (aG:(List bc)) (c8:Int) (aY:List (List Bool)) (a1 bS:Nat) (aO:List Nat) (bb:Int) (ws2:List ae):Prop:=
  ((decide (bb<(J.O.length:Int)))=false→(true=an.ok)∧((List.replicate J.ah.toNat false).length≤4611686018427387904∧(List.replicate J.ah.toNat false)=an.aw)∧(aG.length≤4611686018427387904∧aG=an.au)∧(j7 ws2 aO aY∧ws2.length≤4611686018427387904∧(∀x∈aY,List.length x≤4611686018427387904)∧view ws2 aO aY=an.O))∧((decide (bb<(J.O.length:Int)))=true→((wA J bb)∧(ws2.length=aO.length∧((ws2.length+1)*56≤140737488355328∧ws2.length+1≤4611686018427387904)))∧(Fe aS aU J aQ aG c8 aY a1 bS aO bb ws2))
abbrev mv (r:Type):Type:=Nat→(List bc)→Int→r
def Fg (ay:mv Prop) (aB:mv Nat) (aS:iE Prop) (aU:iE Nat) (J:aA) (an:Frame) (aQ:Nat) (aG:(List bc)) (c8:Int):Prop:=
  ((decide (c8<(J.bd.length:Int)))=false→J.O.length≤4611686018427387904→aS aQ aG c8 ([]:List (List Bool)) 0 0 ([]:List Nat) 0 ([]:List ae)∧ ∀(aY:List (List Bool)) (a1:Nat) (bS:Nat) (aO:List Nat) (bb:Int) (ws2:List ae),aS aQ aG c8 aY a1 bS aO bb ws2→(Ff aS aU J an aQ aG c8 aY a1 bS aO bb ws2))∧((decide (c8<(J.bd.length:Int)))=true→((aG.length+[(bc.mk 1 1)].length)*16≤140737488355328∧aG.length+[(bc.mk 1 1)].length≤4611686018427387904)∧(ay (aQ+1) (aG++[(bc.mk 1 1)]) (IntKind.i64.wrap (c8+1))∧aB (aQ+1) (aG++[(bc.mk 1 1)]) (IntKind.i64.wrap (c8+1))<aB aQ aG c8))
def Fh (ay:mv Prop) (aB:mv Nat) (aS:iE Prop) (aU:iE Nat) (J:aA) (an:Frame):Prop:=
  ((!(dQ J))=true→(false=an.ok)∧([]=an.aw)∧([]=an.au)∧([]=an.O))∧((!(!(dQ J)))=true→(0≤J.ah∧1*J.ah≤140737488355328∧J.ah≤4611686018427387904)∧(J.bd.length≤4611686018427387904→ay 0 ([]:List bc) 0∧ ∀(aQ:Nat) (aG:(List bc)) (c8:Int),ay aQ aG c8→(Fg ay aB aS aU J an aQ aG c8)))
def Fc (J:aA) (an:Frame) (ay:mv Prop) (aB:mv Nat) (aS:iE Prop) (aU:iE Nat):Prop:=
 Fh ay aB aS aU J an
theorem XF (J:aA) (an:Frame) (ay:mv Prop) (aB:mv Nat) (aS:iE Prop) (aU:iE Nat) (h:Fc J an ay aB aS aU):bZ Try.prog 33 [.agg (bg false J)] (.agg (bW true an)):=by
 unfold Fc at h
 refine dz.go (fn:=Try.f33) [(0,.agg (bg false J))] Try.func33 (fun _ _=> ?_)
 show WpS _ (bT Fi 1) _ ⟨bh 41 [(0,.agg (bg false J))],[],[]⟩
 refine p6 [1000003] 0 [(2,az 2 0),(1,az 1 0)] [2] [] [(2,[al false,aF,aF,aF]),(1,(bg false J))] [] ?_
 unfold Fh at h
 obtain⟨k1,h⟩:=h
 refine cu [] [2] ((!(!(dQ J)))=true) ?_ (fun q2=> ?_)
 ·
  replace h:=k1
  refine cu [(7,al (!(dQ J)))] [2] (True) ?_ (fun q3=> ?_)
  ·
   refine bL [1000003] 1 ?_
   refine l3 2 (some 6) [(5,.agg (bg false J))] [.agg (bg false J)] (ML J) (aD.cons (c3.agg (aD.cons (.int _ _) (aD.cons cz (aD.cons cz (aD.cons cz (aD.cons (.int _ _) aD.nil)))))) aD.nil) ?_
   exact b1 [(7,al (!(dQ J)))] trivial
  refine dA (fun q4=> ?_) (fun q4=> ?_)
  ·
   replace h:=h q4
   refine dX [1000003] 2 [(8,.agg [al false,aF,aF,aF])] [] [0,1,1] ?_
   exact hj (b_.ret (m1 (.agg [al false,aF,aF,aF]) (h_.agg (aD.cons (m3 h.1) (aD.cons (qU h.2.1) (aD.cons (qU h.2.2.1) (aD.cons (qU h.2.2.2) aD.nil)))))))
  ·
   refine eb ?_
   exact b_.normal (by simp only[q4]<;>rfl) dT
 replace h:=h q2
 obtain⟨jm,h⟩:=h
 refine eX [(3,az 3 0)] [2] (fun L=>(3,[al true,aj 0 0 (List.replicate J.ah.toNat false).length,aF,aF])::L) (fun _=>[⟨0,1,List.map aX (List.replicate J.ah.toNat false)⟩]) (True) ?_ (fun cV=> ?_)
 ·
  replace h:=jm
  refine bL [1000003] 3 ?_
  have fE:=h
  refine Hj 3 (some 11) [(10,ag J.ah),(9,az 1 0)] aX 1 [al false] 0 (fun r=>[⟨0,1,r⟩]) false fE ?_
  exact b1 [(3,az 3 0),(12,.agg [al true,aj 0 0 (List.replicate J.ah.toNat false).length,aF,aF])] trivial
 refine hB ?_
 refine cu [(15,ag (J.bd.length:Int)),(16,ag 0)] [3] (J.bd.length≤4611686018427387904) ?_ (fun ft=> ?_)
 ·
  refine bL [1000003] 4 ?_
  refine sLen 3 (some 15) [(14,bK c0 J.bd),(13,az 1 1)] c0 J.bd (fun iA=> ?_)
  exact b1 [(16,ag 0)] iA
 replace h:=h ft
 refine fc 0 ?_
 refine WpS.l8 ?_ (hd (s'':=⟨(bh 41 [(15,ag (J.bd.length:Int)),(16,ag 0),(3,az 3 0),(2,az 2 0),(1,az 1 0)]),[(3,[al true,aj 0 0 (List.replicate J.ah.toNat false).length,aj 1 0 ([]:List bc).length,aF]),(2,[al false,aF,aF,aF]),(1,(bg false J))],[⟨0,1,List.map aX (List.replicate J.ah.toNat false)⟩,⟨0,2,List.map a5 ([]:List bc)⟩]⟩) (Weak.tu (T:=(bh 41 [(15,ag (J.bd.length:Int)),(16,ag 0),(3,az 3 0),(2,az 2 0),(1,az 1 0)])) (L:=[(3,[al true,aj 0 0 (List.replicate J.ah.toNat false).length,aF,aF]),(2,[al false,aF,aF,aF]),(1,(bg false J))]) (H:=[⟨0,1,List.map aX (List.replicate J.ah.toNat false)⟩]) (cells:=[al true,aj 0 0 (List.replicate J.ah.toNat false).length,aF,aF]) 3 2 2 (by kernel_rfl) (by kernel_rfl)) (by kernel_rfl))
 obtain⟨mU,h⟩:=h
 refine j8 (fun(v:Nat×(List bc)×Int)=>(⟨(bh 41 [(1,az 1 0),(2,az 2 0),(3,az 3 0),(15,ag (J.bd.length:Int)),(16,ag (v.2.2))]),[(3,[al true,aj 0 0 (List.replicate J.ah.toNat false).length,aj 1 (v.1) (v.2.1).length,aF]),(2,[al false,aF,aF,aF]),(1,(bg false J))],[⟨0,1,List.map aX (List.replicate J.ah.toNat false)⟩,⟨(v.1),2,List.map a5 (v.2.1)⟩]⟩:St)) (fun(v:Nat×(List bc)×Int)=>ay (v.1) (v.2.1) (v.2.2)) (fun(v:Nat×(List bc)×Int)=>aB (v.1) (v.2.1) (v.2.2)) (0,([]:List bc),0) (dt []) mU (fun v aZ=> ?_)
 obtain⟨aQ,aG,c8⟩:=v
 replace h:=h aQ aG c8 aZ
 dsimp only
 refine dX [1000003] 5 [(17,al (decide (c8<(J.bd.length:Int))))] [1] [5] ?_
 unfold Fg at h
 obtain⟨nt,h⟩:=h
 refine cu [] [0,1,5] ((decide (c8<(J.bd.length:Int)))=true) ?_ (fun ik=> ?_)
 ·
  replace h:=nt
  refine dA (fun hX=> ?_) (fun hX=> ?_)
  ·
   refine eb ?_
   exact b_.normal (by simp only[q2,hX]<;>rfl) dT
  ·
   replace h:=h hX
   refine iL 0 ?_
   refine b_.exit ?_
   refine dO.exit ?_
   refine ch.here ?_
   refine dR.normal ?_
   refine hB ?_
   refine jO ⟨(bh 41 [(1,az 1 0),(2,az 2 0),(3,az 3 0),(27,ag (J.O.length:Int)),(28,ag 0)]),[(3,[al true,aj 0 0 (List.replicate J.ah.toNat false).length,aj 1 aQ aG.length,aF]),(2,[al false,aF,aF,aF]),(1,(bg false J))],[⟨0,1,List.map aX (List.replicate J.ah.toNat false)⟩,⟨aQ,2,List.map a5 aG⟩]⟩ (J.O.length≤4611686018427387904) ?_ (fun fy=> ?_)
   ·
    refine bL [1000003] 8 ?_
    refine sLen 3 (some 27) [(26,bK (dk false) J.O),(25,az 1 2)] (dk false) J.O (fun qG=> ?_)
    exact b1 [(28,ag 0)] qG
   replace h:=h fy
   refine fc 2 ?_
   refine WpS.l8 ?_ (hd (s'':=⟨(bh 41 [(1,az 1 0),(2,az 2 0),(3,az 3 0),(27,ag (J.O.length:Int)),(28,ag 0)]),[(3,[al true,aj 0 0 (List.replicate J.ah.toNat false).length,aj 1 aQ aG.length,aj 2 0 ([]:List ae).length]),(2,[al false,aF,aF,aF]),(1,(bg false J))],[⟨0,1,List.map aX (List.replicate J.ah.toNat false)⟩,⟨aQ,2,List.map a5 aG⟩,⟨0,5,a0 4 ([]:List ae) ([]:List Nat)⟩]⟩) (Weak.tu (T:=(bh 41 [(1,az 1 0),(2,az 2 0),(3,az 3 0),(27,ag (J.O.length:Int)),(28,ag 0)])) (L:=[(3,[al true,aj 0 0 (List.replicate J.ah.toNat false).length,aj 1 aQ aG.length,aF]),(2,[al false,aF,aF,aF]),(1,(bg false J))]) (H:=[⟨0,1,List.map aX (List.replicate J.ah.toNat false)⟩,⟨aQ,2,List.map a5 aG⟩]) (cells:=[al true,aj 0 0 (List.replicate J.ah.toNat false).length,aj 1 aQ aG.length,aF]) 3 3 5 (by kernel_rfl) (by kernel_rfl)) (by kernel_rfl))
   refine WpS.l8 ?_ (hd (s'':=⟨(bh 41 [(1,az 1 0),(2,az 2 0),(3,az 3 0),(27,ag (J.O.length:Int)),(28,ag 0)]),[(3,[al true,aj 0 0 (List.replicate J.ah.toNat false).length,aj 1 aQ aG.length,aj 2 0 ([]:List ae).length]),(2,[al false,aF,aF,aF]),(1,(bg false J))],(⟨0,1,List.map aX (List.replicate J.ah.toNat false)⟩::⟨aQ,2,List.map a5 aG⟩::⟨0,5,a0 4 ([]:List ae) ([]:List Nat)⟩::⟨0,5,[]⟩::List.map bk ([]:List (List Bool)))⟩) (Weak.wI (T:=(bh 41 [(1,az 1 0),(2,az 2 0),(3,az 3 0),(27,ag (J.O.length:Int)),(28,ag 0)])) (L:=[(3,[al true,aj 0 0 (List.replicate J.ah.toNat false).length,aj 1 aQ aG.length,aj 2 0 ([]:List ae).length]),(2,[al false,aF,aF,aF]),(1,(bg false J))]) (H:=[⟨0,1,List.map aX (List.replicate J.ah.toNat false)⟩,⟨aQ,2,List.map a5 aG⟩,⟨0,5,a0 4 ([]:List ae) ([]:List Nat)⟩]) 5) (by kernel_rfl))
   obtain⟨im,h⟩:=h
   refine j8 (fun(v:List (List Bool)×Nat×Nat×List Nat×Int×List ae)=>(⟨(bh 41 [(1,az 1 0),(2,az 2 0),(3,az 3 0),(27,ag (J.O.length:Int)),(28,ag (v.2.2.2.2.1))]),[(3,[al true,aj 0 0 (List.replicate J.ah.toNat false).length,aj 1 aQ aG.length,aj 2 (v.2.1) (v.2.2.2.2.2).length]),(2,[al false,aF,aF,aF]),(1,(bg false J))],(⟨0,1,List.map aX (List.replicate J.ah.toNat false)⟩::⟨aQ,2,List.map a5 aG⟩::⟨(v.2.1),5,a0 4 (v.2.2.2.2.2) (v.2.2.2.1)⟩::⟨(v.2.2.1),5,[]⟩::List.map bk (v.1))⟩:St)) (fun(v:List (List Bool)×Nat×Nat×List Nat×Int×List ae)=>aS aQ aG c8 (v.1) (v.2.1) (v.2.2.1) (v.2.2.2.1) (v.2.2.2.2.1) (v.2.2.2.2.2)) (fun(v:List (List Bool)×Nat×Nat×List Nat×Int×List ae)=>aU aQ aG c8 (v.1) (v.2.1) (v.2.2.1) (v.2.2.2.1) (v.2.2.2.2.1) (v.2.2.2.2.2)) (([]:List (List Bool)),0,0,([]:List Nat),0,([]:List ae)) (dt []) im (fun v aZ=> ?_)
   obtain⟨aY,a1,bS,aO,bb,ws2⟩:=v
   replace h:=h aY a1 bS aO bb ws2 aZ
   dsimp only
   refine dX [1000003] 9 [(29,al (decide (bb<(J.O.length:Int))))] [1] [5] ?_
   unfold Ff at h
   obtain⟨g4,h⟩:=h
   refine cu [] [0,1,5] ((decide (bb<(J.O.length:Int)))=true) ?_ (fun jZ=> ?_)
   ·
    replace h:=g4
    refine dA (fun hH=> ?_) (fun hH=> ?_)
    ·
     refine eb ?_
     exact b_.normal (by simp only[q2,hX,hH]<;>rfl) dT
    ·
     replace h:=h hH
     refine iL 2 ?_
     refine b_.exit ?_
     refine dO.exit ?_
     refine ch.here ?_
     refine dR.normal ?_
     refine jO ⟨(bh 41 [(2,az 2 0)]),[(3,[al true,aj 0 0 (List.replicate J.ah.toNat false).length,aj 1 aQ aG.length,aj 2 a1 ws2.length]),(2,[al true,aj 0 0 (List.replicate J.ah.toNat false).length,aj 1 aQ aG.length,aj 2 a1 ws2.length]),(1,(bg false J))],(⟨0,1,List.map aX (List.replicate J.ah.toNat false)⟩::⟨aQ,2,List.map a5 aG⟩::⟨a1,5,a0 4 ws2 aO⟩::⟨bS,5,[]⟩::List.map bk aY)⟩ (True) ?_ (fun lY=> ?_)
     ·
      refine bL [1000003] 13 ?_
      exact b1 [(40,.agg [al true,aj 0 0 (List.replicate J.ah.toNat false).length,aj 1 aQ aG.length,aj 2 a1 ws2.length])] trivial
     exact hj (m1 (.agg [al true,aj 0 0 (List.replicate J.ah.toNat false).length,aj 1 aQ aG.length,aj 2 a1 ws2.length]) (h_.agg (aD.cons (m3 h.1) (aD.cons (qT (sz:=1) (by simp) rfl (vz) h.2.1) (aD.cons (qT (sz:=2) (by simp) rfl (xU) h.2.2.1) (aD.cons (Cr (s:=4) (ws:=ws2) (ids:=aO) (bs:=aY) (by simp) rfl (fun id k h=>by simpa using h) h.2.2.2) aD.nil))))))
   replace h:=h jZ
   obtain⟨h6,h⟩:=h
   refine eX [] [5] (fun L=>hM 0 3 (aj 2 (a1+1) (ws2++[(ae.mk (a4 J bb).ar (a4 J bb).af (a4 J bb).ac (a4 J bb).ao (a4 J bb).ap)]).length) L) (fun _=>(⟨0,1,List.map aX (List.replicate J.ah.toNat false)⟩::⟨aQ,2,List.map a5 aG⟩::⟨(a1+1),5,a0 4 (ws2++[(ae.mk (a4 J bb).ar (a4 J bb).af (a4 J bb).ac (a4 J bb).ao (a4 J bb).ap)]) (aO++[aY.length])⟩::⟨(bS+1),5,[[ag (a4 J bb).ar,ag (a4 J bb).af,aj (aY.length+4) 0 (a4 J bb).ac.length,al (a4 J bb).ao,ag (a4 J bb).ap]]⟩::List.map bk (aY++[(a4 J bb).ac]))) (True) ?_ (fun hp=> ?_)
   ·
    replace h:=h6
    refine fc 3 ?_
    refine dX [1000003] 10 [(4,ag bb),(30,ag bb)] [1] [5] ?_
    refine m0 [1000003] 11 XD XE [] ?_
    obtain⟨km,h⟩:=h
    refine Cy 5 (some 35) [(34,ag bb),(33,.agg (bg false J)),(32,aj 2 a1 ws2.length),(31,az 3 3)] [.agg (bg false J),ag bb] (fun L H=>pa Try.prog (iU Fi 16025) [0,1] [(34,ag bb),(33,.agg (bg false J)),(32,aj 2 a1 ws2.length),(31,az 3 3),(4,ag bb),(1,az 1 0),(2,az 2 0),(3,az 3 0),(27,ag (J.O.length:Int)),(28,ag bb)] L H) (.agg [ag (a4 J bb).ar,ag (a4 J bb).af,aj (aY.length+4) 0 (a4 J bb).ac.length,al (a4 J bb).ao,ag (a4 J bb).ap]) (⟨0,1,List.map aX (List.replicate J.ah.toNat false)⟩::⟨aQ,2,List.map a5 aG⟩::⟨a1,5,a0 4 ws2 aO⟩::⟨bS,5,[]⟩::List.map bk (aY++[(a4 J bb).ac])) (Br J bb km) (aD.cons (c3.agg (aD.cons (.int _ _) (aD.cons cz (aD.cons cz (aD.cons cz (aD.cons (.int _ _) aD.nil)))))) (aD.cons (c3.hT (.int _ _)) aD.nil)) (qC (fun _=>rfl) rfl) (qS (qR (fun _=>rfl) rfl) (by simp only[List.cons_append,List.map_nil,rl])) (sQ (ψ:=((true=true∧true=true∧((az 3 3:AV)=az 3 3))∧((true=true∧true=true∧((aj 2 a1 ws2.length:AV)=aj 2 a1 ws2.length))∧True))) (by kernel_rfl) ⟨⟨rfl,rfl,rfl⟩,⟨⟨rfl,rfl,rfl⟩,trivial⟩⟩) ?_ (er:=by simp[mq,ny,iD])
    refine zD 1 [(36,.ref 3 (bS+1) 0 1 true)] [(3,[al true,aj 0 0 (List.replicate J.ah.toNat false).length,aj 1 aQ aG.length,aj 2 a1 ws2.length]),(2,[al false,aF,aF,aF]),(1,(bg false J))] (⟨0,1,List.map aX (List.replicate J.ah.toNat false)⟩::⟨aQ,2,List.map a5 aG⟩::⟨a1,5,a0 4 ws2 aO⟩::⟨(bS+1),5,[[ag (a4 J bb).ar,ag (a4 J bb).af,aj (aY.length+4) 0 (a4 J bb).ac.length,al (a4 J bb).ao,ag (a4 J bb).ap]]⟩::List.map bk (aY++[(a4 J bb).ac])) (φ:=pa Try.prog (iU Fi 16025) [0,1] [(35,.agg [ag (a4 J bb).ar,ag (a4 J bb).af,aj (aY.length+4) 0 (a4 J bb).ac.length,al (a4 J bb).ao,ag (a4 J bb).ap]),(34,ag bb),(33,.agg (bg false J)),(32,aj 2 a1 ws2.length),(31,az 3 3),(4,ag bb),(1,az 1 0),(2,az 2 0),(3,az 3 0),(27,ag (J.O.length:Int)),(28,ag bb)] [(3,[al true,aj 0 0 (List.replicate J.ah.toNat false).length,aj 1 aQ aG.length,aj 2 a1 ws2.length]),(2,[al false,aF,aF,aF]),(1,(bg false J))] (⟨0,1,List.map aX (List.replicate J.ah.toNat false)⟩::⟨aQ,2,List.map a5 aG⟩::⟨a1,5,a0 4 ws2 aO⟩::⟨(bS+1),5,[[ag (a4 J bb).ar,ag (a4 J bb).af,aj (aY.length+4) 0 (a4 J bb).ac.length,al (a4 J bb).ao,ag (a4 J bb).ap]]⟩::List.map bk (aY++[(a4 J bb).ac]))) (sQ (ψ:=((true=true∧true=true∧((az 3 3:AV)=az 3 3))∧((true=true∧true=true∧((aj 2 a1 ws2.length:AV)=aj 2 a1 ws2.length))∧True))) (by kernel_rfl) ⟨⟨rfl,rfl,rfl⟩,⟨⟨rfl,rfl,rfl⟩,trivial⟩⟩) ?_
    have jE:=h
    refine RO 1 (some 37) [] 4 2 a1 (bS+1) 56 ws2 aO (ae.mk (a4 J bb).ar (a4 J bb).af (a4 J bb).ac (a4 J bb).ao (a4 J bb).ap) aY.length (fun _=>True) (fun r=>(⟨0,1,List.map aX (List.replicate J.ah.toNat false)⟩::⟨aQ,2,List.map a5 aG⟩::⟨(a1+1),5,r⟩::⟨(bS+1),5,[[ag (a4 J bb).ar,ag (a4 J bb).af,aj (aY.length+4) 0 (a4 J bb).ac.length,al (a4 J bb).ao,ag (a4 J bb).ap]]⟩::List.map bk (aY++[(a4 J bb).ac]))) jE.1 jE.2 trivial ?_
    refine zD 2 [(38,az 3 3)] [(3,[al true,aj 0 0 (List.replicate J.ah.toNat false).length,aj 1 aQ aG.length,aj 2 (a1+1) (ws2++[(ae.mk (a4 J bb).ar (a4 J bb).af (a4 J bb).ac (a4 J bb).ao (a4 J bb).ap)]).length]),(2,[al false,aF,aF,aF]),(1,(bg false J))] (⟨0,1,List.map aX (List.replicate J.ah.toNat false)⟩::⟨aQ,2,List.map a5 aG⟩::⟨(a1+1),5,a0 4 (ws2++[(ae.mk (a4 J bb).ar (a4 J bb).af (a4 J bb).ac (a4 J bb).ao (a4 J bb).ap)]) (aO++[aY.length])⟩::⟨(bS+1),5,[[ag (a4 J bb).ar,ag (a4 J bb).af,aj (aY.length+4) 0 (a4 J bb).ac.length,al (a4 J bb).ao,ag (a4 J bb).ap]]⟩::List.map bk (aY++[(a4 J bb).ac])) (φ:=True) trivial ?_
    refine xp [] ?_
    refine ch.normal ?_
    exact b_.normal trivial dT
   unfold Fe at h
   refine bL [1000003] 12 ?_
   refine dM [(28,ag (IntKind.i64.wrap (bb+1))),(39,ag (IntKind.i64.wrap (bb+1)))] ?_
   exact dO.again ((aY++[(a4 J bb).ac]),(a1+1),(bS+1),(aO++[aY.length]),(IntKind.i64.wrap (bb+1)),(ws2++[(ae.mk (a4 J bb).ar (a4 J bb).af (a4 J bb).ac (a4 J bb).ao (a4 J bb).ap)])) h ((Weak.clear 3 rfl:Weak ⟨(bh 41 [(28,ag (IntKind.i64.wrap (bb+1))),(39,ag (IntKind.i64.wrap (bb+1))),(1,az 1 0),(2,az 2 0),(3,az 3 0),(27,ag (J.O.length:Int))]),[(3,[al true,aj 0 0 (List.replicate J.ah.toNat false).length,aj 1 aQ aG.length,aj 2 (a1+1) (ws2++[(ae.mk (a4 J bb).ar (a4 J bb).af (a4 J bb).ac (a4 J bb).ao (a4 J bb).ap)]).length]),(2,[al false,aF,aF,aF]),(1,(bg false J))],(⟨0,1,List.map aX (List.replicate J.ah.toNat false)⟩::⟨aQ,2,List.map a5 aG⟩::⟨(a1+1),5,a0 4 (ws2++[(ae.mk (a4 J bb).ar (a4 J bb).af (a4 J bb).ac (a4 J bb).ao (a4 J bb).ap)]) (aO++[aY.length])⟩::⟨(bS+1),5,[[ag (a4 J bb).ar,ag (a4 J bb).af,aj (aY.length+4) 0 (a4 J bb).ac.length,al (a4 J bb).ao,ag (a4 J bb).ap]]⟩::List.map bk (aY++[(a4 J bb).ac]))⟩ ⟨(bh 41 [(28,ag (IntKind.i64.wrap (bb+1))),(39,ag (IntKind.i64.wrap (bb+1))),(1,az 1 0),(2,az 2 0),(3,az 3 0),(27,ag (J.O.length:Int))]),[(3,[al true,aj 0 0 (List.replicate J.ah.toNat false).length,aj 1 aQ aG.length,aj 2 (a1+1) (ws2++[(ae.mk (a4 J bb).ar (a4 J bb).af (a4 J bb).ac (a4 J bb).ao (a4 J bb).ap)]).length]),(2,[al false,aF,aF,aF]),(1,(bg false J))],(⟨0,1,List.map aX (List.replicate J.ah.toNat false)⟩::⟨aQ,2,List.map a5 aG⟩::⟨(a1+1),5,a0 4 (ws2++[(ae.mk (a4 J bb).ar (a4 J bb).af (a4 J bb).ac (a4 J bb).ao (a4 J bb).ap)]) (aO++[aY.length])⟩::⟨(bS+1),5,[]⟩::List.map bk (aY++[(a4 J bb).ac]))⟩).trans (dt []))
 replace h:=h ik
 obtain⟨mi,h⟩:=h
 refine eX [] [5] (fun L=>hM 0 2 (aj 1 (aQ+1) (aG++[(bc.mk 1 1)]).length) L) (fun H=>ea 1 ⟨(aQ+1),2,List.map a5 (aG++[(bc.mk 1 1)])⟩ H) (True) ?_ (fun h7=> ?_)
 ·
  replace h:=mi
  refine fc 1 ?_
  refine bL [1000003] 6 ?_
  have kn:=h
  refine O9 5 (some 22) [(21,.bC (List.map a5 [(bc.mk 1 1)]) true true),(20,.agg [ag 1,ag 1]),(19,aj 1 aQ aG.length),(18,az 3 2)] a5 aG [(bc.mk 1 1)] (lv true (List.map a5 [(bc.mk 1 1)])) 1 aQ 2 16 (fun r=>[⟨0,1,List.map aX (List.replicate J.ah.toNat false)⟩,⟨(aQ+1),2,r⟩]) rfl kn ?_
  refine Ck [(23,az 3 2)] [(3,[al true,aj 0 0 (List.replicate J.ah.toNat false).length,aj 1 (aQ+1) (aG++[(bc.mk 1 1)]).length,aF]),(2,[al false,aF,aF,aF]),(1,(bg false J))] [⟨0,1,List.map aX (List.replicate J.ah.toNat false)⟩,⟨(aQ+1),2,List.map a5 (aG++[(bc.mk 1 1)])⟩] ?_
  refine ch.normal ?_
  exact b_.normal trivial dT
 refine bL [1000003] 7 ?_
 refine dM [(16,ag (IntKind.i64.wrap (c8+1))),(24,ag (IntKind.i64.wrap (c8+1)))] ?_
 exact dO.again ((aQ+1),(aG++[(bc.mk 1 1)]),(IntKind.i64.wrap (c8+1))) h (dt [])
theorem XB (J:aA):bZ Try.prog 33 [.agg (bg false J)] (.agg (bW true (eI J))):=XF J (eI J) (fun _ x v=>cr J.bd.length (fun _=>false) v∧x=List.replicate v.toNat (bc.mk 1 1)) (fun _ _ v=>cA J.bd.length v) (fun _ x _ bs _ _ is v ws=>x=List.replicate J.bd.length (bc.mk 1 1)∧cr J.O.length (fun _=>false) v∧ws=(J.O.take v.toNat).map (fun w=>ha w.ah.length)∧is=List.range ws.length∧bs=ws.map ae.ac) (fun _ _ _ _ _ _ _ v _=>cA J.O.length v) (by
 unfold Fc Fh
 refine⟨fun h=> ?_,fun h=> ?_⟩
 ·have h:dQ J=false:=by simpa using h
  unfold eI;rw[if_neg (by rw[h];simp)];exact⟨rfl,rfl,rfl,rfl⟩
 have h:dQ J=true:=by simpa using h
 have cx:=sS h
 have h1:=cx.cR
 have h2:=cx.sw
 have aN:=cx.O
 have e:eI J=⟨true,List.replicate J.ah.toNat false,List.replicate J.bd.length ⟨1,1⟩,J.O.map fun w=>ha w.ah.length⟩:=by unfold eI;rw[if_pos h]
 rw[e]
 refine⟨⟨by omega,by omega,by omega⟩,fun aH=>⟨⟨c7 (dh _),rfl⟩,fun g x v aZ=> ?_⟩⟩
 obtain⟨aZ,rfl⟩:=aZ
 have ww:=aZ.2.1
 unfold Fg
 refine⟨fun hv hm=>⟨⟨?_,c7 (dh _),rfl,rfl,rfl⟩,fun bs a1 bS is k ws c1=> ?_⟩,fun hv=>⟨⟨?_,?_⟩,⟨(cI (cv aH) aZ hv rfl).1,?_⟩,(cI (cv aH) aZ hv rfl).2⟩⟩
 ·have: ¬v<(J.bd.length:Int):=by simpa using hv
  rw[show v.toNat=J.bd.length by omega]
 ·obtain⟨hx,c1,rfl,rfl,rfl⟩:=c1
  have qi:=c1.2.1
  have rC:=c1.1
  have aL:((J.O.take k.toNat).map fun w=>ha w.ah.length).length=k.toNat:=by rw[List.length_map,List.length_take];omega
  obtain⟨fj,fO,fu⟩:=vO ((J.O.take k.toNat).map fun w=>ha w.ah.length)
  unfold Ff Fe
  refine⟨fun hk=>⟨rfl,⟨by rw[List.length_replicate];omega,rfl⟩,⟨by rw[List.length_replicate];omega,hx⟩,fj,by omega,fun b hb=> ?_,?_⟩,fun hk=>⟨⟨⟨cx,rC,by simpa using hk⟩,by rw[List.length_range],by omega,by omega⟩,⟨hx,(cI (cv hm) c1 hk rfl).1,?_,?_,?_⟩,(cI (cv hm) c1 hk rfl).2⟩⟩
  ·obtain⟨y,bt,rfl⟩:=List.mem_map.1 hb
   obtain⟨w,hw,rfl⟩:=List.mem_map.1 bt
   have:=(cx.ah w (List.mem_of_mem_take hw)).2.1
   simp[ha];omega
  ·rw[fu]
   have: ¬k<(J.O.length:Int):=by simpa using hk
   rw[List.take_of_length_le (by omega)]
  ·have b9:=ca c1 hk
   rw[jL (cv hm) rC (by simpa using hk),show(k+1).toNat=k.toNat+1 by omega,List.take_succ_eq_append_getElem b9.2,←gE b9.2,List.map_append];rfl
  ·rw[List.length_append,List.length_singleton,List.range_succ,List.length_map]
   simp
  ·rw[List.map_append];rfl
 ·rw[List.length_replicate,List.length_singleton];omega
 ·rw[List.length_replicate,List.length_singleton];omega
 ·rw[jL (cv aH) aZ.1 (by simpa using hv),show(v+1).toNat=v.toNat+1 by have:=aZ.1;omega,List.replicate_succ'])
def XC:eg Try.prog:=⟨33,[.df],[.frame],none,fun x=>((eI x.1),()),fun x h=>XB x.1⟩
noncomputable def Mu:Code:=iw Try.f63
def X6:List Item:=[aq 0,aq 1,aq 2,aq 3,aq 4,aq 5,aq 6,aq 7,aq 8,aq 9,aq 10,aq 11,aq 12,aq 13,aq 14,aq 15]
def X7:List (List Nat):=[[],[0],[0,1],[0,1,2],rg 0 4,rg 0 5,rg 0 5,rg 0 5++[6],rg 0 5,rg 0 5++[8],rg 0 5++rg 6 10,rg 0 5++rg 6 11,rg 0 5++rg 6 12,rg 0 13,rg 0 14,rg 0 15]
def X8:List Item:=[aq 0,aq 1,aq 2,aq 3,aq 4,aq 5,⟨6,true,false,[1,2,3]⟩,aq 7,aq 8,⟨9,true,false,[]⟩]
def X9:List (List Nat):=[[],[],[],[2],[0],[0,4],[0,4,5],rg 0 7,rg 0 8,rg 0 9]
def X_:List Item:=[aq 0,aq 1,aq 2,aq 3,aq 4,aq 5,aq 6,aq 7,aq 8,aq 9,aq 10]
def Ya:List (List Nat):=[[],[0],[],[2],[],[4],rg 2 6,rg 2 7,rg 0 8,rg 0 9,rg 0 10]
def Fp (ay:(List bc)→Int→Prop) (aB:(List bc)→Int→Nat) (J:aA) (U:Event) (aG:(List bc)) (eu:Int):Prop:=
  ay (aG.set (nth (bz (nth J.O U.ai)) eu).sw.toNat (bc.mk (nth (bz (nth J.O U.ai)) eu).bn (nth aG (nth (bz (nth J.O U.ai)) eu).sw).a2)) (IntKind.i64.wrap (eu+1))∧aB (aG.set (nth (bz (nth J.O U.ai)) eu).sw.toNat (bc.mk (nth (bz (nth J.O U.ai)) eu).bn (nth aG (nth (bz (nth J.O U.ai)) eu).sw).a2)) (IntKind.i64.wrap (eu+1))<aB aG eu
abbrev jK (r:Type):Type:=List (List Bool)→(List Bool)→(List bc)→List Nat→Int→List ae→r
def Fz (ay:(List bc)→Int→Prop) (aB:(List bc)→Int→Nat) (dw:jK Prop) (J:aA) (M:Frame) (U:Event) (aG:(List bc)) (eu:Int):Prop:=
  ((decide (eu<((bz (nth J.O U.ai)).length:Int)))=false→dw (List.map ae.ac (aa M).O) (aa M).aw aG (List.range (aa M).O.length) (eM J (Frame.mk (aa M).ok (aa M).aw (aa M).au (view (aa M).O (List.range (aa M).O.length) (List.map ae.ac (aa M).O))) U.ai) ((aa M).O.set U.ai.toNat (ae.mk 1 (nth (aa M).O U.ai).af (nth (aa M).O U.ai).ac (nth (aa M).O U.ai).ao (nth (aa M).O U.ai).ap)))∧((decide (eu<((bz (nth J.O U.ai)).length:Int)))=true→((0≤eu∧eu.toNat<(bz (nth J.O U.ai)).length)∧(0≤(nth (bz (nth J.O U.ai)) eu).sw∧(nth (bz (nth J.O U.ai)) eu).sw.toNat<aG.length))∧(Fp ay aB J U aG eu))
def FA (ay:(List bc)→Int→Prop) (aB:(List bc)→Int→Nat) (dw:jK Prop) (J:aA) (M:Frame) (U:Event):Prop:=
  (((eM J (Frame.mk (aa M).ok (aa M).aw (aa M).au (view (aa M).O (List.range (aa M).O.length) (List.map ae.ac (aa M).O))) U.ai)==0)=true→((0≤U.ai∧U.ai.toNat<(aa M).O.length)∧((aa M).O.length=(List.range (aa M).O.length).length∧U.ai.toNat<(aa M).O.length))∧(((0≤U.ai∧U.ai.toNat<J.O.length)∧(w1 (nth J.O U.ai)))∧((bz (nth J.O U.ai)).length≤4611686018427387904→ay (aa M).au 0∧ ∀(aG:(List bc)) (eu:Int),ay aG eu→(Fz ay aB dw J M U aG eu))))∧(((eM J (Frame.mk (aa M).ok (aa M).aw (aa M).au (view (aa M).O (List.range (aa M).O.length) (List.map ae.ac (aa M).O))) U.ai)==0)=false→dw (List.map ae.ac (aa M).O) (aa M).aw (aa M).au (List.range (aa M).O.length) (eM J (Frame.mk (aa M).ok (aa M).aw (aa M).au (view (aa M).O (List.range (aa M).O.length) (List.map ae.ac (aa M).O))) U.ai) (aa M).O)
def FB (dw:jK Prop) (J:aA) (M:Frame) (U:Event):Prop:=
  (((nth (aa M).O U.ai).ao&&(fX (Frame.mk (aa M).ok (aa M).aw (aa M).au (view (aa M).O (List.range (aa M).O.length) (List.map ae.ac (aa M).O))) (nth J.O U.ai).cD))=true→((aa M).O.length=(List.range (aa M).O.length).length∧U.ai.toNat<(aa M).O.length)∧((((aa M).O.set U.ai.toNat (ae.mk 3 (nth (aa M).O U.ai).af (nth (aa M).O U.ai).ac (nth (aa M).O U.ai).ao (nth (aa M).O U.ai).ap)).length=(List.range (aa M).O.length).length∧U.ai.toNat<((aa M).O.set U.ai.toNat (ae.mk 3 (nth (aa M).O U.ai).af (nth (aa M).O U.ai).ac (nth (aa M).O U.ai).ao (nth (aa M).O U.ai).ap)).length)∧(dw (List.map ae.ac (aa M).O) (aa M).aw (aa M).au (List.range (aa M).O.length) 0 (((aa M).O.set U.ai.toNat (ae.mk 3 (nth (aa M).O U.ai).af (nth (aa M).O U.ai).ac (nth (aa M).O U.ai).ao (nth (aa M).O U.ai).ap)).set U.ai.toNat (ae.mk (nth ((aa M).O.set U.ai.toNat (ae.mk 3 (nth (aa M).O U.ai).af (nth (aa M).O U.ai).ac (nth (aa M).O U.ai).ao (nth (aa M).O U.ai).ap)) U.ai).ar (nth ((aa M).O.set U.ai.toNat (ae.mk 3 (nth (aa M).O U.ai).af (nth (aa M).O U.ai).ac (nth (aa M).O U.ai).ao (nth (aa M).O U.ai).ap)) U.ai).af (nth ((aa M).O.set U.ai.toNat (ae.mk 3 (nth (aa M).O U.ai).af (nth (aa M).O U.ai).ac (nth (aa M).O U.ai).ao (nth (aa M).O U.ai).ap)) U.ai).ac (nth ((aa M).O.set U.ai.toNat (ae.mk 3 (nth (aa M).O U.ai).af (nth (aa M).O U.ai).ac (nth (aa M).O U.ai).ao (nth (aa M).O U.ai).ap)) U.ai).ao J.dl)))))∧(((nth (aa M).O U.ai).ao&&(fX (Frame.mk (aa M).ok (aa M).aw (aa M).au (view (aa M).O (List.range (aa M).O.length) (List.map ae.ac (aa M).O))) (nth J.O U.ai).cD))=false→(wA J U.ai)∧(((aa M).O.length=(List.range (aa M).O.length).length∧U.ai.toNat<(aa M).O.length)∧(dw ((List.map ae.ac (aa M).O)++[(a4 J U.ai).ac]) (aa M).aw (aa M).au ((List.range (aa M).O.length).set U.ai.toNat (List.map ae.ac (aa M).O).length) 0 ((aa M).O.set U.ai.toNat (ae.mk (a4 J U.ai).ar (a4 J U.ai).af (a4 J U.ai).ac (a4 J U.ai).ao (a4 J U.ai).ap)))))
def FC (dw:jK Prop) (J:aA) (M:Frame) (U:Event):Prop:=
  ((((nth (aa M).O U.ai).ar !=1)&&((nth (aa M).O U.ai).ar !=2))=true→dw (List.map ae.ac (aa M).O) (aa M).aw (aa M).au (List.range (aa M).O.length) 2 (aa M).O)∧((((nth (aa M).O U.ai).ar !=1)&&((nth (aa M).O U.ai).ar !=2))=false→(((aa M).O.length=(List.range (aa M).O.length).length∧U.ai.toNat<(aa M).O.length)∧((nth (aa M).O U.ai).ao=true→(0≤U.ai∧U.ai.toNat<J.O.length)∧((aa M).aw.length≤4611686018427387904∧(aa M).au.length≤4611686018427387904∧(j7 (aa M).O (List.range (aa M).O.length) (List.map ae.ac (aa M).O)∧(aa M).O.length≤4611686018427387904∧(∀x∈(List.map ae.ac (aa M).O),List.length x≤4611686018427387904))∧uY (Frame.mk (aa M).ok (aa M).aw (aa M).au (view (aa M).O (List.range (aa M).O.length) (List.map ae.ac (aa M).O))) (nth J.O U.ai).cD)))∧(FB dw J M U))
def FD (dw:jK Prop) (J:aA) (M:Frame) (U:Event):Prop:=
  ((nth (aa M).aw (nth J.bd U.ai))=true→dw (List.map ae.ac (aa M).O) (aa M).aw (aa M).au (List.range (aa M).O.length) 3 (aa M).O)∧((nth (aa M).aw (nth J.bd U.ai))=false→(0≤U.ai∧U.ai.toNat<(aa M).au.length)∧(dw (List.map ae.ac (aa M).O) (aa M).aw ((aa M).au.set U.ai.toNat (bc.mk U.bn (nth (aa M).au U.ai).a2)) (List.range (aa M).O.length) 0 (aa M).O))
def FE (dw:jK Prop) (J:aA) (M:Frame) (U:Event):Prop:=
  ((decide (((gr J (Frame.mk (aa M).ok (aa M).aw (aa M).au (view (aa M).O (List.range (aa M).O.length) (List.map ae.ac (aa M).O))) U.ai).length:Int)>0))=true→dw (List.map ae.ac (aa M).O) (aa M).aw (aa M).au (List.range (aa M).O.length) 2 (aa M).O)∧((decide (((gr J (Frame.mk (aa M).ok (aa M).aw (aa M).au (view (aa M).O (List.range (aa M).O.length) (List.map ae.ac (aa M).O))) U.ai).length:Int)>0))=false→((0≤U.ai∧U.ai.toNat<J.bd.length)∧(0≤(nth J.bd U.ai)∧(nth J.bd U.ai).toNat<(aa M).aw.length))∧(FD dw J M U))
def FF (J:aA) (aO:List Nat) (a6:Int) (ws2:List ae):Prop:=
  ((nth (ws2.set a6.toNat (ae.mk (nth ws2 a6).ar (nth ws2 a6).af (nth ws2 a6).ac (nth ws2 a6).ao (IntKind.i64.wrap ((nth ws2 a6).ap - 1)))) a6).ap==0)=true→(wA J a6)∧((ws2.set a6.toNat (ae.mk (nth ws2 a6).ar (nth ws2 a6).af (nth ws2 a6).ac (nth ws2 a6).ao (IntKind.i64.wrap ((nth ws2 a6).ap - 1)))).length=aO.length∧a6.toNat<(ws2.set a6.toNat (ae.mk (nth ws2 a6).ar (nth ws2 a6).af (nth ws2 a6).ac (nth ws2 a6).ao (IntKind.i64.wrap ((nth ws2 a6).ap - 1)))).length)
def FG (J:aA) (aO:List Nat) (a6:Int) (ws2:List ae):Prop:=
  ((ws2.set a6.toNat (ae.mk (nth ws2 a6).ar (nth ws2 a6).af (nth ws2 a6).ac (nth ws2 a6).ao (IntKind.i64.wrap ((nth ws2 a6).ap - 1)))).length=aO.length∧a6.toNat<(ws2.set a6.toNat (ae.mk (nth ws2 a6).ar (nth ws2 a6).af (nth ws2 a6).ac (nth ws2 a6).ao (IntKind.i64.wrap ((nth ws2 a6).ap - 1)))).length)∧(FF J aO a6 ws2)
def Fq (aS:dG Prop) (aU:dG Nat) (J:aA) (b8:List (List Bool)) (aO:List Nat) (a6:Int) (ws2:List ae):Prop:=
  ((0≤a6∧a6.toNat<ws2.length)∧((ws2.length=aO.length∧a6.toNat<ws2.length)∧(((nth ws2 a6).ar==3)=true→((ws2.length=aO.length∧a6.toNat<ws2.length)∧(ws2.length=aO.length∧a6.toNat<ws2.length))∧(FG J aO a6 ws2))))∧(∀pT:List ae,(bif ((nth ws2 a6).ar==3) then(bif ((nth (ws2.set a6.toNat (ae.mk (nth ws2 a6).ar (nth ws2 a6).af (nth ws2 a6).ac (nth ws2 a6).ao (IntKind.i64.wrap ((nth ws2 a6).ap - 1)))) a6).ap==0) then((ws2.set a6.toNat (ae.mk (nth ws2 a6).ar (nth ws2 a6).af (nth ws2 a6).ac (nth ws2 a6).ao (IntKind.i64.wrap ((nth ws2 a6).ap - 1)))).set a6.toNat (ae.mk (a4 J a6).ar (a4 J a6).af (a4 J a6).ac (a4 J a6).ao (a4 J a6).ap)) else(ws2.set a6.toNat (ae.mk (nth ws2 a6).ar (nth ws2 a6).af (nth ws2 a6).ac (nth ws2 a6).ao (IntKind.i64.wrap ((nth ws2 a6).ap - 1))))) else ws2)=pT→(∀r5:List Nat,(bif ((nth ws2 a6).ar==3) then(bif ((nth (ws2.set a6.toNat (ae.mk (nth ws2 a6).ar (nth ws2 a6).af (nth ws2 a6).ac (nth ws2 a6).ao (IntKind.i64.wrap ((nth ws2 a6).ap - 1)))) a6).ap==0) then(aO.set a6.toNat b8.length) else aO) else aO)=r5→(∀r6:List (List Bool),(bif ((nth ws2 a6).ar==3) then(bif ((nth (ws2.set a6.toNat (ae.mk (nth ws2 a6).ar (nth ws2 a6).af (nth ws2 a6).ac (nth ws2 a6).ao (IntKind.i64.wrap ((nth ws2 a6).ap - 1)))) a6).ap==0) then(b8++[(a4 J a6).ac]) else b8) else b8)=r6→(aS r6 r5 (IntKind.i64.wrap (a6+1)) pT∧aU r6 r5 (IntKind.i64.wrap (a6+1)) pT<aU b8 aO a6 ws2))))
def Fs (aS:dG Prop) (aU:dG Nat) (dw:jK Prop) (J:aA) (M:Frame):Prop:=
  aS (List.map ae.ac (aa M).O) (List.range (aa M).O.length) 0 (aa M).O∧ ∀(b8:List (List Bool)) (aO:List Nat) (a6:Int) (ws2:List ae),aS b8 aO a6 ws2→(((decide (a6<((aa M).O.length:Int)))=false→dw b8 (aa M).aw (aa M).au aO 0 ws2)∧((decide (a6<((aa M).O.length:Int)))=true→Fq aS aU J b8 aO a6 ws2))
def Ft (aS:dG Prop) (aU:dG Nat) (dw:jK Prop) (J:aA) (M:Frame) (U:Event):Prop:=
  ((U.op==6)=true→((aa M).aw.length≤4611686018427387904∧(aa M).au.length≤4611686018427387904∧(j7 (aa M).O (List.range (aa M).O.length) (List.map ae.ac (aa M).O)∧(aa M).O.length≤4611686018427387904∧(∀x∈(List.map ae.ac (aa M).O),List.length x≤4611686018427387904))∧sT J (Frame.mk (aa M).ok (aa M).aw (aa M).au (view (aa M).O (List.range (aa M).O.length) (List.map ae.ac (aa M).O))) U.ai)∧((gr J (Frame.mk (aa M).ok (aa M).aw (aa M).au (view (aa M).O (List.range (aa M).O.length) (List.map ae.ac (aa M).O))) U.ai).length≤4611686018427387904→FE dw J M U))∧((U.op==6)=false→((U.op==7)=true→Fs aS aU dw J M)∧((U.op==7)=false→dw (List.map ae.ac (aa M).O) (aa M).aw (aa M).au (List.range (aa M).O.length) 0 (aa M).O))
def Fu (aS:dG Prop) (aU:dG Nat) (dw:jK Prop) (J:aA) (M:Frame) (U:Event):Prop:=
  ((bif (U.op==3) then(U.op==3) else(U.op==4))=true→(0≤U.ai∧U.ai.toNat<(aa M).aw.length)∧(dw (List.map ae.ac (aa M).O) ((aa M).aw.set U.ai.toNat (U.op==3)) (aa M).au (List.range (aa M).O.length) 0 (aa M).O))∧((bif (U.op==3) then(U.op==3) else(U.op==4))=false→((U.op==5)=true→(0≤U.ai∧U.ai.toNat<(aa M).au.length)∧(dw (List.map ae.ac (aa M).O) (aa M).aw ((aa M).au.set U.ai.toNat (bc.mk (nth (aa M).au U.ai).cy U.bn)) (List.range (aa M).O.length) 0 (aa M).O))∧((U.op==5)=false→Ft aS aU dw J M U))
def Fv (aS:dG Prop) (aU:dG Nat) (dw:jK Prop) (J:aA) (M:Frame) (U:Event):Prop:=
  ((U.op==2)=true→(0≤U.ai∧U.ai.toNat<(aa M).O.length)∧((((aa M).O.length=(List.range (aa M).O.length).length∧U.ai.toNat<(aa M).O.length)∧(((nth (aa M).O U.ai).ar !=1)=true→(aa M).O.length=(List.range (aa M).O.length).length∧U.ai.toNat<(aa M).O.length))∧(FC dw J M U)))∧((U.op==2)=false→Fu aS aU dw J M U)
def Fx (ay:(List bc)→Int→Prop) (aB:(List bc)→Int→Nat) (aS:dG Prop) (aU:dG Nat) (dw:jK Prop) (J:aA) (M:Frame) (U:Event):Prop:=
  ((U.op==1)=true→((aa M).aw.length≤4611686018427387904∧(aa M).au.length≤4611686018427387904∧(j7 (aa M).O (List.range (aa M).O.length) (List.map ae.ac (aa M).O)∧(aa M).O.length≤4611686018427387904∧(∀x∈(List.map ae.ac (aa M).O),List.length x≤4611686018427387904))∧q7 J (Frame.mk (aa M).ok (aa M).aw (aa M).au (view (aa M).O (List.range (aa M).O.length) (List.map ae.ac (aa M).O))) U.ai)∧(FA ay aB dw J M U))∧((U.op==1)=false→Fv aS aU dw J M U)
def Fy (J:aA) (M:Frame) (an:fA) (aG:(List bc)) (b8:List (List Bool)) (aO:List Nat) (ws2:List ae) (a8:(List Bool)) (cT:Int):Prop:=
  ((cT !=0)=true→(jr M)∧((cT=an.code)∧((aa M)=an.frame)))∧((!(cT !=0))=true→(a8.length≤4611686018427387904∧aG.length≤4611686018427387904∧(j7 ws2 aO b8∧ws2.length≤4611686018427387904∧(∀x∈b8,List.length x≤4611686018427387904))∧tc J (Frame.mk (aa M).ok a8 aG (view ws2 aO b8)))∧((0=an.code)∧((d_ J (Frame.mk (aa M).ok a8 aG (view ws2 aO b8)))=an.frame)))
def Fo (J:aA) (M:Frame) (U:Event) (an:fA) (ay:(List bc)→Int→Prop) (aB:(List bc)→Int→Nat) (aS:dG Prop) (aU:dG Nat) (dw:jK Prop):Prop:=
 (jr M)∧((Fx ay aB aS aU dw J M U)∧(∀(b8:List (List Bool)) (a8:(List Bool)) (aG:(List bc)) (aO:List Nat) (cT:Int) (ws2:List ae),dw b8 a8 aG aO cT ws2→(Fy J M an aG b8 aO ws2 a8 cT)))
theorem Yb (J:aA) (M:Frame) (U:Event) (an:fA) (ay:(List bc)→Int→Prop) (aB:(List bc)→Int→Nat) (aS:dG Prop) (aU:dG Nat) (dw:jK Prop) (h:Fo J M U an ay aB aS aU dw):bZ Try.prog 63 [.agg (bg false J),.agg (bW false M),.agg (je U)] (.agg (sk true an)):=by
 unfold Fo at h
 refine dz.go (fn:=Try.f63) [(0,.agg (bg false J)),(1,.agg (bW false M)),(2,.agg (je U))] Try.func63 (fun _ _=> ?_)
 show WpS _ (bT Mu 1) _ ⟨bh 200 [(0,.agg (bg false J)),(1,.agg (bW false M)),(2,.agg (je U))],[],[]⟩
 refine p6 [] 0 [(6,az 6 0),(5,az 5 0),(4,az 4 0),(3,az 3 0)] [4] [] [(6,[ag 0,al false,aF,aF,aF]),(5,(je U)),(4,(bW false M)),(3,(bg false J))] [] ?_
 refine sh [] 1 [(7,az 7 0),(14,.agg (bW false M))] [1] [4] (fun L=>(7,(bW false M))::L) id ?_
 obtain⟨aaD,h⟩:=h
 refine eX [] [5] (fun L=>er 3 [al (aa M).ok,aj 0 0 (aa M).aw.length,aj 1 0 (aa M).au.length,aj 2 0 (aa M).O.length] L) (fun _=>(⟨0,1,List.map aX (aa M).aw⟩::⟨0,2,List.map a5 (aa M).au⟩::⟨0,5,a0 3 (aa M).O (List.range (aa M).O.length)⟩::List.map bk (List.map ae.ac (aa M).O))) (True) ?_ (fun q3=> ?_)
 ·
  replace h:=aaD
  refine bL [] 2 ?_
  have q4:=h
  refine s9 2 (some 16) [(15,.agg (bW false M))] [.agg (bW false M)] (.agg [al (aa M).ok,aj 0 0 (aa M).aw.length,aj 1 0 (aa M).au.length,aj 2 0 (aa M).O.length]) (⟨0,1,List.map aX (aa M).aw⟩::⟨0,2,List.map a5 (aa M).au⟩::⟨0,5,a0 3 (aa M).O (List.range (aa M).O.length)⟩::List.map bk (List.map ae.ac (aa M).O)) (Mo M q4) (aD.cons (c3.agg (aD.cons (.bool _) (aD.cons cz (aD.cons cz (aD.cons cz aD.nil))))) aD.nil) BQ (by rw[List.nil_append];exact Pn _) ?_ (er:=by simp[mq,ny,iD])
  exact b1 [] trivial
 refine dX [] 3 [(8,ag 0)] [1] [5] ?_
 refine hB ?_
 refine dX [] 4 [(18,ag U.op),(17,az 5 0)] [1] [6] ?_
 obtain⟨aaC,h⟩:=h
 refine JF 0 (fun(v:List (List Bool)×(List Bool)×(List bc)×List Nat×Int×List ae)=>(⟨(bh 200 [(3,az 3 0),(4,az 4 0),(6,az 6 0),(7,az 7 0),(8,ag (v.2.2.2.2.1))]),[(7,(bW false M)),(6,[ag 0,al false,aF,aF,aF]),(4,[al (aa M).ok,aj 0 0 (v.2.1).length,aj 1 0 (v.2.2.1).length,aj 2 0 (v.2.2.2.2.2).length]),(3,(bg false J))],(⟨0,1,List.map aX (v.2.1)⟩::⟨0,2,List.map a5 (v.2.2.1)⟩::⟨0,5,a0 3 (v.2.2.2.2.2) (v.2.2.2.1)⟩::List.map bk (v.1))⟩:St)) (fun v=>dw (v.1) (v.2.1) (v.2.2.1) (v.2.2.2.1) (v.2.2.2.2.1) (v.2.2.2.2.2)) ?_ (fun v c1=> ?_)
 ·
  replace h:=aaC
  refine dX [] 5 [(19,al (U.op==1)),(20,al (U.op==1))] [1] [7] ?_
  unfold Fx at h
  refine dA (fun ft=> ?_) (fun ft=> ?_)
  ·
   replace h:=h.1 ft
   obtain⟨k2,h⟩:=h
   refine cu [(8,ag (eM J (Frame.mk (aa M).ok (aa M).aw (aa M).au (view (aa M).O (List.range (aa M).O.length) (List.map ae.ac (aa M).O))) U.ai))] [0,3,5] (True) ?_ (fun iA=> ?_)
   ·
    replace h:=k2
    refine bL [] 6 ?_
    obtain⟨gP,ik,hX,fy⟩:=h
    refine l3 5 (some 25) [(24,ag U.ai),(23,az 5 1),(22,.agg [al (aa M).ok,aj 0 0 (aa M).aw.length,aj 1 0 (aa M).au.length,aj 2 0 (aa M).O.length]),(21,.agg (bg false J))] [.agg (bg false J),.agg [al (aa M).ok,aj 0 0 (aa M).aw.length,aj 1 0 (aa M).au.length,aj 2 0 (aa M).O.length],ag U.ai] (Y0 J (Frame.mk (aa M).ok (aa M).aw (aa M).au (view (aa M).O (List.range (aa M).O.length) (List.map ae.ac (aa M).O))) U.ai fy) (aD.cons (c3.agg (aD.cons (.int _ _) (aD.cons cz (aD.cons cz (aD.cons cz (aD.cons (.int _ _) aD.nil)))))) (aD.cons (c3.agg (aD.cons (.bool _) (aD.cons (m2 (sz:=1) (by simp) rfl (sF) gP) (aD.cons (m2 (sz:=2) (by simp) rfl (uk) ik) (aD.cons (ta (s:=3) (ws:=(aa M).O) (ids:=(List.range (aa M).O.length)) (bs:=(List.map ae.ac (aa M).O)) (by simp) rfl (fun id k h=>by simpa using h) hX.1 hX.2.1 hX.2.2) aD.nil))))) (aD.cons (c3.hT (.int _ _)) aD.nil))) ?_
    exact b1 [(8,ag (eM J (Frame.mk (aa M).ok (aa M).aw (aa M).au (view (aa M).O (List.range (aa M).O.length) (List.map ae.ac (aa M).O))) U.ai))] trivial
   refine dX [] 7 [(27,al ((eM J (Frame.mk (aa M).ok (aa M).aw (aa M).au (view (aa M).O (List.range (aa M).O.length) (List.map ae.ac (aa M).O))) U.ai)==0)),(26,ag (eM J (Frame.mk (aa M).ok (aa M).aw (aa M).au (view (aa M).O (List.range (aa M).O.length) (List.map ae.ac (aa M).O))) U.ai))] [1] [6] ?_
   unfold FA at h
   refine dA (fun iV=> ?_) (fun iV=> ?_)
   ·
    replace h:=h.1 iV
    obtain⟨jn,h⟩:=h
    refine eX [] [0,1,6] id (fun H=>ea 2 ⟨0,5,a0 3 ((aa M).O.set U.ai.toNat (ae.mk 1 (nth (aa M).O U.ai).af (nth (aa M).O U.ai).ac (nth (aa M).O U.ai).ao (nth (aa M).O U.ai).ap)) (List.range (aa M).O.length)⟩ H) (True) ?_ (fun jZ=> ?_)
    ·
     replace h:=jn
     refine bL [] 8 ?_
     obtain⟨aeY,h⟩:=h
     refine lx 5 (some 32) [(31,ag U.ai),(30,az 5 1),(29,aj 2 0 (aa M).O.length),(28,az 4 3)] 2 0 5 aeY ?_
     have hH:=h
     refine j0 2 none [(33,.ptr 2 0 (0+U.ai.toNat) 0)] (a0 3 (aa M).O (List.range (aa M).O.length)) U.ai 0 1 0 [ag 1] 2 (a0 3 ((aa M).O.set U.ai.toNat (ae.mk 1 (nth (aa M).O U.ai).af (nth (aa M).O U.ai).ac (nth (aa M).O U.ai).ao (nth (aa M).O U.ai).ap)) (List.range (aa M).O.length)) (dF hH.1 hH.2) (kb hH.1 hH.2) ?_
     exact b1 [] trivial
    obtain⟨k1,h⟩:=h
    refine cu [(40,hh dd (bz (nth J.O U.ai))),(41,ag ((bz (nth J.O U.ai)).length:Int)),(42,ag 0)] [3,1,2] ((bz (nth J.O U.ai)).length≤4611686018427387904) ?_ (fun lY=> ?_)
    ·
     replace h:=k1
     refine bL [] 9 ?_
     obtain⟨km,h⟩:=h
     refine k5 5 (some 38) [(37,ag U.ai),(36,az 5 1),(35,bK (dk false) J.O),(34,az 3 2)] (dk false) J.O 5 km ?_
     have hp:=h
     refine l3 2 (some 40) [(39,.agg (dk false (nth J.O U.ai)))] [.agg (dk false (nth J.O U.ai))] (MB (nth J.O U.ai) hp) (aD.cons (c3.agg (aD.cons cz (aD.cons cz (aD.cons cz (aD.cons cz (aD.cons cz aD.nil)))))) aD.nil) ?_
     refine sLen 1 (some 41) [] dd (bz (nth J.O U.ai)) (fun il=> ?_)
     exact b1 [(42,ag 0)] il
    replace h:=h lY
    refine fc 1 ?_
    obtain⟨jm,h⟩:=h
    refine j8 (fun(v:(List bc)×Int)=>(⟨(bh 200 [(3,az 3 0),(4,az 4 0),(6,az 6 0),(7,az 7 0),(8,ag (eM J (Frame.mk (aa M).ok (aa M).aw (aa M).au (view (aa M).O (List.range (aa M).O.length) (List.map ae.ac (aa M).O))) U.ai)),(40,hh dd (bz (nth J.O U.ai))),(41,ag ((bz (nth J.O U.ai)).length:Int)),(42,ag (v.2))]),[(7,(bW false M)),(6,[ag 0,al false,aF,aF,aF]),(4,[al (aa M).ok,aj 0 0 (aa M).aw.length,aj 1 0 (v.1).length,aj 2 0 (aa M).O.length]),(3,(bg false J))],(⟨0,1,List.map aX (aa M).aw⟩::⟨0,2,List.map a5 (v.1)⟩::⟨0,5,a0 3 ((aa M).O.set U.ai.toNat (ae.mk 1 (nth (aa M).O U.ai).af (nth (aa M).O U.ai).ac (nth (aa M).O U.ai).ao (nth (aa M).O U.ai).ap)) (List.range (aa M).O.length)⟩::List.map bk (List.map ae.ac (aa M).O))⟩:St)) (fun(v:(List bc)×Int)=>ay (v.1) (v.2)) (fun(v:(List bc)×Int)=>aB (v.1) (v.2)) ((aa M).au,0) (dt [5]) jm (fun v aZ=> ?_)
    obtain⟨aG,eu⟩:=v
    replace h:=h aG eu aZ
    dsimp only
    refine dX [] 10 [(43,al (decide (eu<((bz (nth J.O U.ai)).length:Int))))] [1] [8] ?_
    unfold Fz at h
    obtain⟨mU,h⟩:=h
    refine cu [] [0,1,8] ((decide (eu<((bz (nth J.O U.ai)).length:Int)))=true) ?_ (fun h6=> ?_)
    ·
     replace h:=mU
     refine dA (fun g4=> ?_) (fun g4=> ?_)
     ·
      refine eb ?_
      exact b_.normal (by simp only[ft,iV,g4]<;>rfl) dT
     ·
      replace h:=h g4
      refine iL 1 ?_
      refine b_.exit ?_
      refine dO.exit ?_
      refine ch.here ?_
      refine ch.normal ?_
      exact gU.normal ((List.map ae.ac (aa M).O),(aa M).aw,aG,(List.range (aa M).O.length),(eM J (Frame.mk (aa M).ok (aa M).aw (aa M).au (view (aa M).O (List.range (aa M).O.length) (List.map ae.ac (aa M).O))) U.ai),((aa M).O.set U.ai.toNat (ae.mk 1 (nth (aa M).O U.ai).af (nth (aa M).O U.ai).ac (nth (aa M).O U.ai).ao (nth (aa M).O U.ai).ap))) h (hd (s':=⟨(bh 200 [(3,az 3 0),(4,az 4 0),(6,az 6 0),(7,az 7 0),(8,ag (eM J (Frame.mk (aa M).ok (aa M).aw (aa M).au (view (aa M).O (List.range (aa M).O.length) (List.map ae.ac (aa M).O))) U.ai))]),[(7,(bW false M)),(6,[ag 0,al false,aF,aF,aF]),(4,[al (aa M).ok,aj 0 0 (aa M).aw.length,aj 1 0 aG.length,aj 2 0 (aa M).O.length]),(3,(bg false J))],(⟨0,1,List.map aX (aa M).aw⟩::⟨0,2,List.map a5 aG⟩::⟨0,5,a0 3 ((aa M).O.set U.ai.toNat (ae.mk 1 (nth (aa M).O U.ai).af (nth (aa M).O U.ai).ac (nth (aa M).O U.ai).ao (nth (aa M).O U.ai).ap)) (List.range (aa M).O.length)⟩::List.map bk (List.map ae.ac (aa M).O))⟩) (dt (n:=200) (A':=[(3,az 3 0),(4,az 4 0),(6,az 6 0),(7,az 7 0),(8,ag (eM J (Frame.mk (aa M).ok (aa M).aw (aa M).au (view (aa M).O (List.range (aa M).O.length) (List.map ae.ac (aa M).O))) U.ai))]) (L':=[(7,(bW false M)),(6,[ag 0,al false,aF,aF,aF]),(4,[al (aa M).ok,aj 0 0 (aa M).aw.length,aj 1 0 aG.length,aj 2 0 (aa M).O.length]),(3,(bg false J))]) []) (congrArg (fun z=>(⟨(bh 200 [(3,az 3 0),(4,az 4 0),(6,az 6 0),(7,az 7 0),(8,ag (eM J (Frame.mk (aa M).ok (aa M).aw (aa M).au (view (aa M).O (List.range (aa M).O.length) (List.map ae.ac (aa M).O))) U.ai))]),[(7,(bW false M)),(6,[ag 0,al false,aF,aF,aF]),(4,[al (aa M).ok,aj 0 0 (aa M).aw.length,aj 1 0 aG.length,aj 2 0 z]),(3,(bg false J))],(⟨0,1,List.map aX (aa M).aw⟩::⟨0,2,List.map a5 aG⟩::⟨0,5,a0 3 ((aa M).O.set U.ai.toNat (ae.mk 1 (nth (aa M).O U.ai).af (nth (aa M).O U.ai).ac (nth (aa M).O U.ai).ao (nth (aa M).O U.ai).ap)) (List.range (aa M).O.length)⟩::List.map bk (List.map ae.ac (aa M).O))⟩:St)) (show(aa M).O.length=((aa M).O.set U.ai.toNat (ae.mk 1 (nth (aa M).O U.ai).af (nth (aa M).O U.ai).ac (nth (aa M).O U.ai).ao (nth (aa M).O U.ai).ap)).length by simp)))
    replace h:=h h6
    obtain⟨nt,h⟩:=h
    refine eX [] [8] (fun L=>(10,(dd (nth (bz (nth J.O U.ai)) eu)))::L) (fun H=>ea 1 ⟨0,2,List.map a5 (aG.set (nth (bz (nth J.O U.ai)) eu).sw.toNat (bc.mk (nth (bz (nth J.O U.ai)) eu).bn (nth aG (nth (bz (nth J.O U.ai)) eu).sw).a2))⟩ H) (True) ?_ (fun im=> ?_)
    ·
     replace h:=nt
     refine fc 2 ?_
     obtain⟨mi,h⟩:=h
     refine eX [(10,az 10 0)] [8] (fun L=>(10,(dd (nth (bz (nth J.O U.ai)) eu)))::L) id (True) ?_ (fun h7=> ?_)
     ·
      replace h:=mi
      refine bL [] 11 ?_
      have kn:=h
      refine k5 1 (some 44) [] dd (bz (nth J.O U.ai)) 2 kn ?_
      exact b1 [(10,az 10 0),(45,.agg (dd (nth (bz (nth J.O U.ai)) eu)))] trivial
     refine bL [] 12 ?_
     have Sn:=h
     refine lx 7 (some 52) [(51,ag (nth (bz (nth J.O U.ai)) eu).bn),(50,az 10 1),(49,ag (nth (bz (nth J.O U.ai)) eu).sw),(48,az 10 0),(47,aj 1 0 aG.length),(46,az 4 2)] 1 0 2 Sn ?_
     refine s_ 2 none [(53,.ptr 1 0 (0+(nth (bz (nth J.O U.ai)) eu).sw.toNat) 0)] a5 aG (nth (bz (nth J.O U.ai)) eu).sw 0 1 0 [ag (nth (bz (nth J.O U.ai)) eu).bn] 1 (bc.mk (nth (bz (nth J.O U.ai)) eu).bn (nth aG (nth (bz (nth J.O U.ai)) eu).sw).a2) (by simpa using Sn.2) ?_
     refine dM [] ?_
     refine ch.normal ?_
     exact b_.normal trivial dT
    unfold Fp at h
    refine bL [] 13 ?_
    refine dM [(42,ag (IntKind.i64.wrap (eu+1))),(54,ag (IntKind.i64.wrap (eu+1)))] ?_
    exact dO.again ((aG.set (nth (bz (nth J.O U.ai)) eu).sw.toNat (bc.mk (nth (bz (nth J.O U.ai)) eu).bn (nth aG (nth (bz (nth J.O U.ai)) eu).sw).a2)),(IntKind.i64.wrap (eu+1))) h (hd (s':=⟨(bh 200 [(3,az 3 0),(4,az 4 0),(6,az 6 0),(7,az 7 0),(8,ag (eM J (Frame.mk (aa M).ok (aa M).aw (aa M).au (view (aa M).O (List.range (aa M).O.length) (List.map ae.ac (aa M).O))) U.ai)),(40,hh dd (bz (nth J.O U.ai))),(41,ag ((bz (nth J.O U.ai)).length:Int)),(42,ag (IntKind.i64.wrap (eu+1)))]),[(7,(bW false M)),(6,[ag 0,al false,aF,aF,aF]),(4,[al (aa M).ok,aj 0 0 (aa M).aw.length,aj 1 0 aG.length,aj 2 0 (aa M).O.length]),(3,(bg false J))],(⟨0,1,List.map aX (aa M).aw⟩::⟨0,2,List.map a5 (aG.set (nth (bz (nth J.O U.ai)) eu).sw.toNat (bc.mk (nth (bz (nth J.O U.ai)) eu).bn (nth aG (nth (bz (nth J.O U.ai)) eu).sw).a2))⟩::⟨0,5,a0 3 ((aa M).O.set U.ai.toNat (ae.mk 1 (nth (aa M).O U.ai).af (nth (aa M).O U.ai).ac (nth (aa M).O U.ai).ao (nth (aa M).O U.ai).ap)) (List.range (aa M).O.length)⟩::List.map bk (List.map ae.ac (aa M).O))⟩) (dt (n:=200) (A':=[(3,az 3 0),(4,az 4 0),(6,az 6 0),(7,az 7 0),(8,ag (eM J (Frame.mk (aa M).ok (aa M).aw (aa M).au (view (aa M).O (List.range (aa M).O.length) (List.map ae.ac (aa M).O))) U.ai)),(40,hh dd (bz (nth J.O U.ai))),(41,ag ((bz (nth J.O U.ai)).length:Int)),(42,ag (IntKind.i64.wrap (eu+1)))]) (L':=[(7,(bW false M)),(6,[ag 0,al false,aF,aF,aF]),(4,[al (aa M).ok,aj 0 0 (aa M).aw.length,aj 1 0 aG.length,aj 2 0 (aa M).O.length]),(3,(bg false J))]) [10]) (congrArg (fun z=>(⟨(bh 200 [(3,az 3 0),(4,az 4 0),(6,az 6 0),(7,az 7 0),(8,ag (eM J (Frame.mk (aa M).ok (aa M).aw (aa M).au (view (aa M).O (List.range (aa M).O.length) (List.map ae.ac (aa M).O))) U.ai)),(40,hh dd (bz (nth J.O U.ai))),(41,ag ((bz (nth J.O U.ai)).length:Int)),(42,ag (IntKind.i64.wrap (eu+1)))]),[(7,(bW false M)),(6,[ag 0,al false,aF,aF,aF]),(4,[al (aa M).ok,aj 0 0 (aa M).aw.length,aj 1 0 z,aj 2 0 (aa M).O.length]),(3,(bg false J))],(⟨0,1,List.map aX (aa M).aw⟩::⟨0,2,List.map a5 (aG.set (nth (bz (nth J.O U.ai)) eu).sw.toNat (bc.mk (nth (bz (nth J.O U.ai)) eu).bn (nth aG (nth (bz (nth J.O U.ai)) eu).sw).a2))⟩::⟨0,5,a0 3 ((aa M).O.set U.ai.toNat (ae.mk 1 (nth (aa M).O U.ai).af (nth (aa M).O U.ai).ac (nth (aa M).O U.ai).ao (nth (aa M).O U.ai).ap)) (List.range (aa M).O.length)⟩::List.map bk (List.map ae.ac (aa M).O))⟩:St)) (show aG.length=(aG.set (nth (bz (nth J.O U.ai)) eu).sw.toNat (bc.mk (nth (bz (nth J.O U.ai)) eu).bn (nth aG (nth (bz (nth J.O U.ai)) eu).sw).a2)).length by simp)))
   ·
    replace h:=h.2 iV
    refine eb ?_
    refine ch.normal ?_
    exact gU.normal ((List.map ae.ac (aa M).O),(aa M).aw,(aa M).au,(List.range (aa M).O.length),(eM J (Frame.mk (aa M).ok (aa M).aw (aa M).au (view (aa M).O (List.range (aa M).O.length) (List.map ae.ac (aa M).O))) U.ai),(aa M).O) h (dt [5])
  ·
   replace h:=h.2 ft
   refine dX [] 14 [(55,al (U.op==2)),(56,al (U.op==2))] [1] [0,1,7] ?_
   unfold Fv at h
   refine dA (fun g5=> ?_) (fun g5=> ?_)
   ·
    replace h:=h.1 g5
    obtain⟨qH,h⟩:=h
    refine cu [(11,.ptr 2 0 (0+U.ai.toNat) 0)] [0,2,6] (True) ?_ (fun oP=> ?_)
    ·
     replace h:=qH
     refine bL [] 15 ?_
     have ae1:=h
     refine lx 5 (some 61) [(60,ag U.ai),(59,az 5 1),(58,aj 2 0 (aa M).O.length),(57,az 4 3)] 2 0 5 ae1 ?_
     exact b1 [(11,.ptr 2 0 (0+U.ai.toNat) 0)] trivial
    refine fc 3 ?_
    obtain⟨zc,h⟩:=h
    refine cu [(68,al (((nth (aa M).O U.ai).ar !=1)&&((nth (aa M).O U.ai).ar !=2)))] [7] (True) ?_ (fun ls=> ?_)
    ·
     replace h:=zc
     refine bL [] 17 ?_
     obtain⟨nu,h⟩:=h
     refine iC 4 (some 72) [(71,.ptr 2 0 (0+U.ai.toNat) 0),(70,.ptr 2 0 (0+U.ai.toNat) 0),(69,.ptr 2 0 (0+U.ai.toNat) 0)] (a0 3 (aa M).O (List.range (aa M).O.length)) U.ai 3 0 0 (ag (nth (aa M).O U.ai).ar) (dF nu.1 nu.2) ?_
     refine nx 2 74 ((nth (aa M).O U.ai).ar !=1) [(73,al ((nth (aa M).O U.ai).ar !=1))] (fun pH=> ?_) (fun pH=> ?_)
     ·
      replace h:=h pH
      have jo:=h
      refine iC 4 (some 78) [(77,.ptr 2 0 (0+U.ai.toNat) 0),(76,.ptr 2 0 (0+U.ai.toNat) 0),(75,.ptr 2 0 (0+U.ai.toNat) 0)] (a0 3 (aa M).O (List.range (aa M).O.length)) U.ai 3 0 0 (ag (nth (aa M).O U.ai).ar) (dF jo.1 jo.2) ?_
      exact b1 [(68,al ((nth (aa M).O U.ai).ar !=2)),(80,al ((nth (aa M).O U.ai).ar !=2)),(79,al ((nth (aa M).O U.ai).ar !=2))] trivial (by simp only[ft,g5,pH]<;>kernel_rfl)
     ·
      exact b1 ([(68,al false),(80,al false)]++gh [79,78,77,76,75]) trivial (by simp only[ft,g5,pH]<;>kernel_rfl)
    unfold FC at h
    refine dA (fun lZ=> ?_) (fun lZ=> ?_)
    ·
     replace h:=h.1 lZ
     refine bL [] 18 ?_
     refine dM [(8,ag 2)] ?_
     refine ch.normal ?_
     refine ch.normal ?_
     exact gU.normal ((List.map ae.ac (aa M).O),(aa M).aw,(aa M).au,(List.range (aa M).O.length),2,(aa M).O) h (dt [5])
    ·
     replace h:=h.2 lZ
     obtain⟨oR,h⟩:=h
     refine cu [(81,al ((nth (aa M).O U.ai).ao&&(fX (Frame.mk (aa M).ok (aa M).aw (aa M).au (view (aa M).O (List.range (aa M).O.length) (List.map ae.ac (aa M).O))) (nth J.O U.ai).cD)))] [0,1,7] (True) ?_ (fun k4=> ?_)
     ·
      replace h:=oR
      refine m0 [] 19 X6 X7 [] ?_
      obtain⟨jp,h⟩:=h
      refine nz 4 (some 85) [(84,.ptr 2 0 (0+U.ai.toNat) 3),(83,.ptr 2 0 (0+U.ai.toNat) 0),(82,.ptr 2 0 (0+U.ai.toNat) 0)] (a0 3 (aa M).O (List.range (aa M).O.length)) U.ai 4 3 0 (al (nth (aa M).O U.ai).ao) (dF jp.1 jp.2) ?_
      refine pN 1 86 (nth (aa M).O U.ai).ao [] (fun l0=> ?_) (fun l0=> ?_)
      ·
       replace h:=h l0
       obtain⟨l1,h⟩:=h
       refine r4 6 (some 92) [(91,ag U.ai),(90,az 5 1),(89,bK (dk false) J.O),(88,az 3 2),(87,.agg [al (aa M).ok,aj 0 0 (aa M).aw.length,aj 1 0 (aa M).au.length,aj 2 0 (aa M).O.length])] (dk false) J.O 5 l1 ?_
       obtain⟨mj,mV,mW,pI⟩:=h
       refine RP 3 (some 95) [(94,bK c0 (nth J.O U.ai).cD),(93,.dr (dk false (nth J.O U.ai)) 4)] [.agg [al (aa M).ok,aj 0 0 (aa M).aw.length,aj 1 0 (aa M).au.length,aj 2 0 (aa M).O.length],bK c0 (nth J.O U.ai).cD] (MT (Frame.mk (aa M).ok (aa M).aw (aa M).au (view (aa M).O (List.range (aa M).O.length) (List.map ae.ac (aa M).O))) (nth J.O U.ai).cD pI) (aD.cons (c3.agg (aD.cons (.bool _) (aD.cons (m2 (sz:=1) (by simp) rfl (sF) mj) (aD.cons (m2 (sz:=2) (by simp) rfl (uk) mV) (aD.cons (ta (s:=3) (ws:=(aa M).O) (ids:=(List.range (aa M).O.length)) (bs:=(List.map ae.ac (aa M).O)) (by simp) rfl (fun id k h=>by simpa using h) mW.1 mW.2.1 mW.2.2) aD.nil))))) (aD.cons (c3.hT cz) aD.nil)) ?_
       exact kM [(81,al (fX (Frame.mk (aa M).ok (aa M).aw (aa M).au (view (aa M).O (List.range (aa M).O.length) (List.map ae.ac (aa M).O))) (nth J.O U.ai).cD)),(96,al (fX (Frame.mk (aa M).ok (aa M).aw (aa M).au (view (aa M).O (List.range (aa M).O.length) (List.map ae.ac (aa M).O))) (nth J.O U.ai).cD))] trivial (by simp only[ft,g5,lZ,l0]<;>kernel_rfl)
      ·
       exact kM ([(81,al false),(96,al false)]++gh [95,94,93,92,91,90,89,88,87]) trivial (by simp only[ft,g5,lZ,l0]<;>kernel_rfl)
     unfold FB at h
     refine dA (fun rW=> ?_) (fun rW=> ?_)
     ·
      replace h:=h.1 rW
      refine m0 [] 20 X8 X9 [] ?_
      obtain⟨ml,h⟩:=h
      refine RR 7 none [(102,.ptr 2 0 (0+U.ai.toNat) 0),(101,.ptr 2 0 (0+U.ai.toNat) 0),(100,ag J.dl),(99,az 3 4),(98,.ptr 2 0 (0+U.ai.toNat) 0),(97,.ptr 2 0 (0+U.ai.toNat) 0)] (a0 3 (aa M).O (List.range (aa M).O.length)) U.ai 0 1 0 [ag 3] (fun r=>pa Try.prog (iU Mu 256942) [1,2,3] [(102,.ptr 2 0 (0+U.ai.toNat) 0),(101,.ptr 2 0 (0+U.ai.toNat) 0),(100,ag J.dl),(99,az 3 4),(98,.ptr 2 0 (0+U.ai.toNat) 0),(97,.ptr 2 0 (0+U.ai.toNat) 0),(81,al ((nth (aa M).O U.ai).ao&&(fX (Frame.mk (aa M).ok (aa M).aw (aa M).au (view (aa M).O (List.range (aa M).O.length) (List.map ae.ac (aa M).O))) (nth J.O U.ai).cD))),(11,.ptr 2 0 (0+U.ai.toNat) 0),(8,ag 0),(7,az 7 0),(6,az 6 0),(5,az 5 0),(4,az 4 0),(3,az 3 0)] [(7,(bW false M)),(6,[ag 0,al false,aF,aF,aF]),(5,(je U)),(4,[al (aa M).ok,aj 0 0 (aa M).aw.length,aj 1 0 (aa M).au.length,aj 2 0 (aa M).O.length]),(3,(bg false J))] ((fun r=>(⟨0,1,List.map aX (aa M).aw⟩::⟨0,2,List.map a5 (aa M).au⟩::⟨0,5,r⟩::List.map bk (List.map ae.ac (aa M).O))) r)) (fun r=>(⟨0,1,List.map aX (aa M).aw⟩::⟨0,2,List.map a5 (aa M).au⟩::⟨0,5,r⟩::List.map bk (List.map ae.ac (aa M).O))) (a0 3 ((aa M).O.set U.ai.toNat (ae.mk 3 (nth (aa M).O U.ai).af (nth (aa M).O U.ai).ac (nth (aa M).O U.ai).ao (nth (aa M).O U.ai).ap)) (List.range (aa M).O.length)) (dF ml.1 ml.2) (kb ml.1 ml.2) (sQ (ψ:=((true=true∧true=true∧((.ptr 2 0 (0+U.ai.toNat) 0:AV)= .ptr 2 0 (0+U.ai.toNat) 0))∧((true=true∧true=true∧((az 3 4:AV)=az 3 4))∧((true=true∧true=true∧((ag J.dl:AV)=ag J.dl))∧True)))) (by kernel_rfl) ⟨⟨rfl,rfl,rfl⟩,⟨⟨rfl,rfl,rfl⟩,⟨⟨rfl,rfl,rfl⟩,trivial⟩⟩⟩) ?_
      obtain⟨lu,h⟩:=h
      refine RR 3 none [(104,.ptr 2 0 (0+U.ai.toNat) 4),(103,.ptr 2 0 (0+U.ai.toNat) 0)] (a0 3 ((aa M).O.set U.ai.toNat (ae.mk 3 (nth (aa M).O U.ai).af (nth (aa M).O U.ai).ac (nth (aa M).O U.ai).ao (nth (aa M).O U.ai).ap)) (List.range (aa M).O.length)) U.ai 4 1 0 [ag J.dl] (fun _=>True) (fun r=>(⟨0,1,List.map aX (aa M).aw⟩::⟨0,2,List.map a5 (aa M).au⟩::⟨0,5,r⟩::List.map bk (List.map ae.ac (aa M).O))) (a0 3 (((aa M).O.set U.ai.toNat (ae.mk 3 (nth (aa M).O U.ai).af (nth (aa M).O U.ai).ac (nth (aa M).O U.ai).ao (nth (aa M).O U.ai).ap)).set U.ai.toNat (ae.mk (nth ((aa M).O.set U.ai.toNat (ae.mk 3 (nth (aa M).O U.ai).af (nth (aa M).O U.ai).ac (nth (aa M).O U.ai).ao (nth (aa M).O U.ai).ap)) U.ai).ar (nth ((aa M).O.set U.ai.toNat (ae.mk 3 (nth (aa M).O U.ai).af (nth (aa M).O U.ai).ac (nth (aa M).O U.ai).ao (nth (aa M).O U.ai).ap)) U.ai).af (nth ((aa M).O.set U.ai.toNat (ae.mk 3 (nth (aa M).O U.ai).af (nth (aa M).O U.ai).ac (nth (aa M).O U.ai).ao (nth (aa M).O U.ai).ap)) U.ai).ac (nth ((aa M).O.set U.ai.toNat (ae.mk 3 (nth (aa M).O U.ai).af (nth (aa M).O U.ai).ac (nth (aa M).O U.ai).ao (nth (aa M).O U.ai).ap)) U.ai).ao J.dl)) (List.range (aa M).O.length)) (dF lu.1 lu.2) (kb lu.1 lu.2) trivial ?_
      refine xp [] ?_
      refine ch.normal ?_
      refine ch.normal ?_
      exact gU.normal ((List.map ae.ac (aa M).O),(aa M).aw,(aa M).au,(List.range (aa M).O.length),0,(((aa M).O.set U.ai.toNat (ae.mk 3 (nth (aa M).O U.ai).af (nth (aa M).O U.ai).ac (nth (aa M).O U.ai).ao (nth (aa M).O U.ai).ap)).set U.ai.toNat (ae.mk (nth ((aa M).O.set U.ai.toNat (ae.mk 3 (nth (aa M).O U.ai).af (nth (aa M).O U.ai).ac (nth (aa M).O U.ai).ao (nth (aa M).O U.ai).ap)) U.ai).ar (nth ((aa M).O.set U.ai.toNat (ae.mk 3 (nth (aa M).O U.ai).af (nth (aa M).O U.ai).ac (nth (aa M).O U.ai).ao (nth (aa M).O U.ai).ap)) U.ai).af (nth ((aa M).O.set U.ai.toNat (ae.mk 3 (nth (aa M).O U.ai).af (nth (aa M).O U.ai).ac (nth (aa M).O U.ai).ao (nth (aa M).O U.ai).ap)) U.ai).ac (nth ((aa M).O.set U.ai.toNat (ae.mk 3 (nth (aa M).O U.ai).af (nth (aa M).O U.ai).ac (nth (aa M).O U.ai).ao (nth (aa M).O U.ai).ap)) U.ai).ao J.dl))) h (hd (s':=⟨(bh 200 [(3,az 3 0),(4,az 4 0),(6,az 6 0),(7,az 7 0),(8,ag 0)]),[(7,(bW false M)),(6,[ag 0,al false,aF,aF,aF]),(4,[al (aa M).ok,aj 0 0 (aa M).aw.length,aj 1 0 (aa M).au.length,aj 2 0 (aa M).O.length]),(3,(bg false J))],(⟨0,1,List.map aX (aa M).aw⟩::⟨0,2,List.map a5 (aa M).au⟩::⟨0,5,a0 3 (((aa M).O.set U.ai.toNat (ae.mk 3 (nth (aa M).O U.ai).af (nth (aa M).O U.ai).ac (nth (aa M).O U.ai).ao (nth (aa M).O U.ai).ap)).set U.ai.toNat (ae.mk (nth ((aa M).O.set U.ai.toNat (ae.mk 3 (nth (aa M).O U.ai).af (nth (aa M).O U.ai).ac (nth (aa M).O U.ai).ao (nth (aa M).O U.ai).ap)) U.ai).ar (nth ((aa M).O.set U.ai.toNat (ae.mk 3 (nth (aa M).O U.ai).af (nth (aa M).O U.ai).ac (nth (aa M).O U.ai).ao (nth (aa M).O U.ai).ap)) U.ai).af (nth ((aa M).O.set U.ai.toNat (ae.mk 3 (nth (aa M).O U.ai).af (nth (aa M).O U.ai).ac (nth (aa M).O U.ai).ao (nth (aa M).O U.ai).ap)) U.ai).ac (nth ((aa M).O.set U.ai.toNat (ae.mk 3 (nth (aa M).O U.ai).af (nth (aa M).O U.ai).ac (nth (aa M).O U.ai).ao (nth (aa M).O U.ai).ap)) U.ai).ao J.dl)) (List.range (aa M).O.length)⟩::List.map bk (List.map ae.ac (aa M).O))⟩) (dt (n:=200) (A':=[(3,az 3 0),(4,az 4 0),(6,az 6 0),(7,az 7 0),(8,ag 0)]) (L':=[(7,(bW false M)),(6,[ag 0,al false,aF,aF,aF]),(4,[al (aa M).ok,aj 0 0 (aa M).aw.length,aj 1 0 (aa M).au.length,aj 2 0 (aa M).O.length]),(3,(bg false J))]) [5]) (congrArg (fun z=>(⟨(bh 200 [(3,az 3 0),(4,az 4 0),(6,az 6 0),(7,az 7 0),(8,ag 0)]),[(7,(bW false M)),(6,[ag 0,al false,aF,aF,aF]),(4,[al (aa M).ok,aj 0 0 (aa M).aw.length,aj 1 0 (aa M).au.length,aj 2 0 z]),(3,(bg false J))],(⟨0,1,List.map aX (aa M).aw⟩::⟨0,2,List.map a5 (aa M).au⟩::⟨0,5,a0 3 (((aa M).O.set U.ai.toNat (ae.mk 3 (nth (aa M).O U.ai).af (nth (aa M).O U.ai).ac (nth (aa M).O U.ai).ao (nth (aa M).O U.ai).ap)).set U.ai.toNat (ae.mk (nth ((aa M).O.set U.ai.toNat (ae.mk 3 (nth (aa M).O U.ai).af (nth (aa M).O U.ai).ac (nth (aa M).O U.ai).ao (nth (aa M).O U.ai).ap)) U.ai).ar (nth ((aa M).O.set U.ai.toNat (ae.mk 3 (nth (aa M).O U.ai).af (nth (aa M).O U.ai).ac (nth (aa M).O U.ai).ao (nth (aa M).O U.ai).ap)) U.ai).af (nth ((aa M).O.set U.ai.toNat (ae.mk 3 (nth (aa M).O U.ai).af (nth (aa M).O U.ai).ac (nth (aa M).O U.ai).ao (nth (aa M).O U.ai).ap)) U.ai).ac (nth ((aa M).O.set U.ai.toNat (ae.mk 3 (nth (aa M).O U.ai).af (nth (aa M).O U.ai).ac (nth (aa M).O U.ai).ao (nth (aa M).O U.ai).ap)) U.ai).ao J.dl)) (List.range (aa M).O.length)⟩::List.map bk (List.map ae.ac (aa M).O))⟩:St)) (show(aa M).O.length=(((aa M).O.set U.ai.toNat (ae.mk 3 (nth (aa M).O U.ai).af (nth (aa M).O U.ai).ac (nth (aa M).O U.ai).ao (nth (aa M).O U.ai).ap)).set U.ai.toNat (ae.mk (nth ((aa M).O.set U.ai.toNat (ae.mk 3 (nth (aa M).O U.ai).af (nth (aa M).O U.ai).ac (nth (aa M).O U.ai).ao (nth (aa M).O U.ai).ap)) U.ai).ar (nth ((aa M).O.set U.ai.toNat (ae.mk 3 (nth (aa M).O U.ai).af (nth (aa M).O U.ai).ac (nth (aa M).O U.ai).ao (nth (aa M).O U.ai).ap)) U.ai).af (nth ((aa M).O.set U.ai.toNat (ae.mk 3 (nth (aa M).O U.ai).af (nth (aa M).O U.ai).ac (nth (aa M).O U.ai).ao (nth (aa M).O U.ai).ap)) U.ai).ac (nth ((aa M).O.set U.ai.toNat (ae.mk 3 (nth (aa M).O U.ai).af (nth (aa M).O U.ai).ac (nth (aa M).O U.ai).ao (nth (aa M).O U.ai).ap)) U.ai).ao J.dl)).length by simp)))
     ·
      replace h:=h.2 rW
      refine bL [] 16 ?_
      obtain⟨oQ,h⟩:=h
      refine s9 5 (some 66) [(65,ag U.ai),(64,az 5 1),(63,.agg (bg false J)),(62,.ptr 2 0 (0+U.ai.toNat) 0)] [.agg (bg false J),ag U.ai] (.agg [ag (a4 J U.ai).ar,ag (a4 J U.ai).af,aj ((List.map ae.ac (aa M).O).length+3) 0 (a4 J U.ai).ac.length,al (a4 J U.ai).ao,ag (a4 J U.ai).ap]) (⟨0,1,List.map aX (aa M).aw⟩::⟨0,2,List.map a5 (aa M).au⟩::⟨0,5,a0 3 (aa M).O (List.range (aa M).O.length)⟩::List.map bk ((List.map ae.ac (aa M).O)++[(a4 J U.ai).ac])) (Br J U.ai oQ) (aD.cons (c3.agg (aD.cons (.int _ _) (aD.cons cz (aD.cons cz (aD.cons cz (aD.cons (.int _ _) aD.nil)))))) (aD.cons (c3.hT (.int _ _)) aD.nil)) (qC (fun _=>rfl) rfl) (qS (qR (fun _=>rfl) rfl) (by simp only[List.cons_append,List.map_nil,rl])) ?_ (er:=by simp[mq,ny,iD])
      obtain⟨mm,h⟩:=h
      refine j0 2 none [(67,.ptr 2 0 (0+U.ai.toNat) 0)] (a0 3 (aa M).O (List.range (aa M).O.length)) U.ai 0 5 0 [ag (a4 J U.ai).ar,ag (a4 J U.ai).af,aj ((List.map ae.ac (aa M).O).length+3) 0 (a4 J U.ai).ac.length,al (a4 J U.ai).ao,ag (a4 J U.ai).ap] 2 (a0 3 ((aa M).O.set U.ai.toNat (ae.mk (a4 J U.ai).ar (a4 J U.ai).af (a4 J U.ai).ac (a4 J U.ai).ao (a4 J U.ai).ap)) ((List.range (aa M).O.length).set U.ai.toNat (List.map ae.ac (aa M).O).length)) (dF mm.1 mm.2) (vY mm.1) ?_
      refine dM [] ?_
      refine ch.normal ?_
      refine ch.normal ?_
      exact gU.normal (((List.map ae.ac (aa M).O)++[(a4 J U.ai).ac]),(aa M).aw,(aa M).au,((List.range (aa M).O.length).set U.ai.toNat (List.map ae.ac (aa M).O).length),0,((aa M).O.set U.ai.toNat (ae.mk (a4 J U.ai).ar (a4 J U.ai).af (a4 J U.ai).ac (a4 J U.ai).ao (a4 J U.ai).ap))) h (hd (s':=⟨(bh 200 [(3,az 3 0),(4,az 4 0),(6,az 6 0),(7,az 7 0),(8,ag 0)]),[(7,(bW false M)),(6,[ag 0,al false,aF,aF,aF]),(4,[al (aa M).ok,aj 0 0 (aa M).aw.length,aj 1 0 (aa M).au.length,aj 2 0 (aa M).O.length]),(3,(bg false J))],(⟨0,1,List.map aX (aa M).aw⟩::⟨0,2,List.map a5 (aa M).au⟩::⟨0,5,a0 3 ((aa M).O.set U.ai.toNat (ae.mk (a4 J U.ai).ar (a4 J U.ai).af (a4 J U.ai).ac (a4 J U.ai).ao (a4 J U.ai).ap)) ((List.range (aa M).O.length).set U.ai.toNat (List.map ae.ac (aa M).O).length)⟩::List.map bk ((List.map ae.ac (aa M).O)++[(a4 J U.ai).ac]))⟩) (dt (n:=200) (A':=[(3,az 3 0),(4,az 4 0),(6,az 6 0),(7,az 7 0),(8,ag 0)]) (L':=[(7,(bW false M)),(6,[ag 0,al false,aF,aF,aF]),(4,[al (aa M).ok,aj 0 0 (aa M).aw.length,aj 1 0 (aa M).au.length,aj 2 0 (aa M).O.length]),(3,(bg false J))]) [5]) (congrArg (fun z=>(⟨(bh 200 [(3,az 3 0),(4,az 4 0),(6,az 6 0),(7,az 7 0),(8,ag 0)]),[(7,(bW false M)),(6,[ag 0,al false,aF,aF,aF]),(4,[al (aa M).ok,aj 0 0 (aa M).aw.length,aj 1 0 (aa M).au.length,aj 2 0 z]),(3,(bg false J))],(⟨0,1,List.map aX (aa M).aw⟩::⟨0,2,List.map a5 (aa M).au⟩::⟨0,5,a0 3 ((aa M).O.set U.ai.toNat (ae.mk (a4 J U.ai).ar (a4 J U.ai).af (a4 J U.ai).ac (a4 J U.ai).ao (a4 J U.ai).ap)) ((List.range (aa M).O.length).set U.ai.toNat (List.map ae.ac (aa M).O).length)⟩::List.map bk ((List.map ae.ac (aa M).O)++[(a4 J U.ai).ac]))⟩:St)) (show(aa M).O.length=((aa M).O.set U.ai.toNat (ae.mk (a4 J U.ai).ar (a4 J U.ai).af (a4 J U.ai).ac (a4 J U.ai).ao (a4 J U.ai).ap)).length by simp)))
   ·
    replace h:=h.2 g5
    refine cu [(105,al (bif (U.op==3) then(U.op==3) else(U.op==4)))] [0,1,7] (True) ?_ (fun mn=> ?_)
    ·
     refine dX [] 21 [(105,al (U.op==3)),(106,al (U.op==3))] [1] [0,1,7] ?_
     refine dA (fun oc=> ?_) (fun oc=> ?_)
     ·
      refine eb ?_
      exact b_.normal trivial (dT (by simp only[ft,g5,oc]<;>kernel_rfl))
     ·
      refine bL [] 22 ?_
      exact b1 [(105,al (U.op==4)),(107,al (U.op==4))] trivial (by simp only[ft,g5,oc]<;>kernel_rfl)
    unfold Fu at h
    refine dA (fun od=> ?_) (fun od=> ?_)
    ·
     replace h:=h.1 od
     refine bL [] 23 ?_
     obtain⟨Sc,h⟩:=h
     refine lx 8 (some 115) [(114,al (U.op==3)),(113,ag U.op),(112,az 5 0),(111,ag U.ai),(110,az 5 1),(109,aj 0 0 (aa M).aw.length),(108,az 4 1)] 0 0 1 Sc ?_
     refine s_ 1 none [] aX (aa M).aw U.ai 0 1 0 [al (U.op==3)] 0 (U.op==3) (by simpa using Sc.2) ?_
     refine dM [] ?_
     refine ch.normal ?_
     exact gU.normal ((List.map ae.ac (aa M).O),((aa M).aw.set U.ai.toNat (U.op==3)),(aa M).au,(List.range (aa M).O.length),0,(aa M).O) h (hd (s':=⟨(bh 200 [(3,az 3 0),(4,az 4 0),(6,az 6 0),(7,az 7 0),(8,ag 0)]),[(7,(bW false M)),(6,[ag 0,al false,aF,aF,aF]),(4,[al (aa M).ok,aj 0 0 (aa M).aw.length,aj 1 0 (aa M).au.length,aj 2 0 (aa M).O.length]),(3,(bg false J))],(⟨0,1,List.map aX ((aa M).aw.set U.ai.toNat (U.op==3))⟩::⟨0,2,List.map a5 (aa M).au⟩::⟨0,5,a0 3 (aa M).O (List.range (aa M).O.length)⟩::List.map bk (List.map ae.ac (aa M).O))⟩) (dt (n:=200) (A':=[(3,az 3 0),(4,az 4 0),(6,az 6 0),(7,az 7 0),(8,ag 0)]) (L':=[(7,(bW false M)),(6,[ag 0,al false,aF,aF,aF]),(4,[al (aa M).ok,aj 0 0 (aa M).aw.length,aj 1 0 (aa M).au.length,aj 2 0 (aa M).O.length]),(3,(bg false J))]) [5]) (congrArg (fun z=>(⟨(bh 200 [(3,az 3 0),(4,az 4 0),(6,az 6 0),(7,az 7 0),(8,ag 0)]),[(7,(bW false M)),(6,[ag 0,al false,aF,aF,aF]),(4,[al (aa M).ok,aj 0 0 z,aj 1 0 (aa M).au.length,aj 2 0 (aa M).O.length]),(3,(bg false J))],(⟨0,1,List.map aX ((aa M).aw.set U.ai.toNat (U.op==3))⟩::⟨0,2,List.map a5 (aa M).au⟩::⟨0,5,a0 3 (aa M).O (List.range (aa M).O.length)⟩::List.map bk (List.map ae.ac (aa M).O))⟩:St)) (show(aa M).aw.length=((aa M).aw.set U.ai.toNat (U.op==3)).length by simp)))
    ·
     replace h:=h.2 od
     refine dX [] 24 [(116,al (U.op==5)),(117,al (U.op==5))] [1] [0,1,7] ?_
     refine dA (fun nv=> ?_) (fun nv=> ?_)
     ·
      replace h:=h.1 nv
      refine bL [] 25 ?_
      obtain⟨Sd,h⟩:=h
      refine lx 7 (some 124) [(123,ag U.bn),(122,az 5 2),(121,ag U.ai),(120,az 5 1),(119,aj 1 0 (aa M).au.length),(118,az 4 2)] 1 0 2 Sd ?_
      refine s_ 2 none [(125,.ptr 1 0 (0+U.ai.toNat) 1)] a5 (aa M).au U.ai 1 1 0 [ag U.bn] 1 (bc.mk (nth (aa M).au U.ai).cy U.bn) (by simpa using Sd.2) ?_
      refine dM [] ?_
      refine ch.normal ?_
      exact gU.normal ((List.map ae.ac (aa M).O),(aa M).aw,((aa M).au.set U.ai.toNat (bc.mk (nth (aa M).au U.ai).cy U.bn)),(List.range (aa M).O.length),0,(aa M).O) h (hd (s':=⟨(bh 200 [(3,az 3 0),(4,az 4 0),(6,az 6 0),(7,az 7 0),(8,ag 0)]),[(7,(bW false M)),(6,[ag 0,al false,aF,aF,aF]),(4,[al (aa M).ok,aj 0 0 (aa M).aw.length,aj 1 0 (aa M).au.length,aj 2 0 (aa M).O.length]),(3,(bg false J))],(⟨0,1,List.map aX (aa M).aw⟩::⟨0,2,List.map a5 ((aa M).au.set U.ai.toNat (bc.mk (nth (aa M).au U.ai).cy U.bn))⟩::⟨0,5,a0 3 (aa M).O (List.range (aa M).O.length)⟩::List.map bk (List.map ae.ac (aa M).O))⟩) (dt (n:=200) (A':=[(3,az 3 0),(4,az 4 0),(6,az 6 0),(7,az 7 0),(8,ag 0)]) (L':=[(7,(bW false M)),(6,[ag 0,al false,aF,aF,aF]),(4,[al (aa M).ok,aj 0 0 (aa M).aw.length,aj 1 0 (aa M).au.length,aj 2 0 (aa M).O.length]),(3,(bg false J))]) [5]) (congrArg (fun z=>(⟨(bh 200 [(3,az 3 0),(4,az 4 0),(6,az 6 0),(7,az 7 0),(8,ag 0)]),[(7,(bW false M)),(6,[ag 0,al false,aF,aF,aF]),(4,[al (aa M).ok,aj 0 0 (aa M).aw.length,aj 1 0 z,aj 2 0 (aa M).O.length]),(3,(bg false J))],(⟨0,1,List.map aX (aa M).aw⟩::⟨0,2,List.map a5 ((aa M).au.set U.ai.toNat (bc.mk (nth (aa M).au U.ai).cy U.bn))⟩::⟨0,5,a0 3 (aa M).O (List.range (aa M).O.length)⟩::List.map bk (List.map ae.ac (aa M).O))⟩:St)) (show(aa M).au.length=((aa M).au.set U.ai.toNat (bc.mk (nth (aa M).au U.ai).cy U.bn)).length by simp)))
     ·
      replace h:=h.2 nv
      refine dX [] 26 [(126,al (U.op==6)),(127,al (U.op==6))] [1] [0,1,7] ?_
      unfold Ft at h
      refine dA (fun kL=> ?_) (fun kL=> ?_)
      ·
       replace h:=h.1 kL
       refine fc 4 ?_
       obtain⟨s3,h⟩:=h
       refine cu [(136,al (decide (((gr J (Frame.mk (aa M).ok (aa M).aw (aa M).au (view (aa M).O (List.range (aa M).O.length) (List.map ae.ac (aa M).O))) U.ai).length:Int)>0)))] [0,2,6] ((gr J (Frame.mk (aa M).ok (aa M).aw (aa M).au (view (aa M).O (List.range (aa M).O.length) (List.map ae.ac (aa M).O))) U.ai).length≤4611686018427387904) ?_ (fun B6=> ?_)
       ·
        replace h:=s3
        refine bL [] 28 ?_
        obtain⟨pJ,rX,sX,zd⟩:=h
        refine l3 5 (some 141) [(140,ag U.ai),(139,az 5 1),(138,.agg [al (aa M).ok,aj 0 0 (aa M).aw.length,aj 1 0 (aa M).au.length,aj 2 0 (aa M).O.length]),(137,.agg (bg false J))] [.agg (bg false J),.agg [al (aa M).ok,aj 0 0 (aa M).aw.length,aj 1 0 (aa M).au.length,aj 2 0 (aa M).O.length],ag U.ai] (MG J (Frame.mk (aa M).ok (aa M).aw (aa M).au (view (aa M).O (List.range (aa M).O.length) (List.map ae.ac (aa M).O))) U.ai zd) (aD.cons (c3.agg (aD.cons (.int _ _) (aD.cons cz (aD.cons cz (aD.cons cz (aD.cons (.int _ _) aD.nil)))))) (aD.cons (c3.agg (aD.cons (.bool _) (aD.cons (m2 (sz:=1) (by simp) rfl (sF) pJ) (aD.cons (m2 (sz:=2) (by simp) rfl (uk) rX) (aD.cons (ta (s:=3) (ws:=(aa M).O) (ids:=(List.range (aa M).O.length)) (bs:=(List.map ae.ac (aa M).O)) (by simp) rfl (fun id k h=>by simpa using h) sX.1 sX.2.1 sX.2.2) aD.nil))))) (aD.cons (c3.hT (.int _ _)) aD.nil))) ?_
        refine sLen 1 (some 142) [] c0 (gr J (Frame.mk (aa M).ok (aa M).aw (aa M).au (view (aa M).O (List.range (aa M).O.length) (List.map ae.ac (aa M).O))) U.ai) (fun w5=> ?_)
        exact b1 [(136,al (decide (((gr J (Frame.mk (aa M).ok (aa M).aw (aa M).au (view (aa M).O (List.range (aa M).O.length) (List.map ae.ac (aa M).O))) U.ai).length:Int)>0))),(143,al (decide (((gr J (Frame.mk (aa M).ok (aa M).aw (aa M).au (view (aa M).O (List.range (aa M).O.length) (List.map ae.ac (aa M).O))) U.ai).length:Int)>0)))] w5
       replace h:=h B6
       unfold FE at h
       refine dA (fun rY=> ?_) (fun rY=> ?_)
       ·
        replace h:=h.1 rY
        refine bL [] 29 ?_
        refine dM [(8,ag 2)] ?_
        refine ch.normal ?_
        refine ch.normal ?_
        exact gU.normal ((List.map ae.ac (aa M).O),(aa M).aw,(aa M).au,(List.range (aa M).O.length),2,(aa M).O) h (dt [5])
       ·
        replace h:=h.2 rY
        obtain⟨s0,h⟩:=h
        refine cu [(144,al (nth (aa M).aw (nth J.bd U.ai)))] [0,1,6] (True) ?_ (fun sY=> ?_)
        ·
         replace h:=s0
         refine m0 [] 30 X_ Ya [] ?_
         obtain⟨qI,h⟩:=h
         refine r4 7 (some 151) [(150,ag U.ai),(149,az 5 1),(148,bK c0 J.bd),(147,az 3 1),(146,aj 0 0 (aa M).aw.length),(145,az 4 1)] c0 J.bd 1 qI ?_
         have Sg:=h
         refine u4 2 (some 153) [(152,ag (nth J.bd U.ai))] 0 0 1 Sg ?_
         refine xq 1 (some 154) [] aX (aa M).aw (nth J.bd U.ai) 4 0 0 (al (nth (aa M).aw (nth J.bd U.ai))) (by simpa using Sg.2) ?_
         exact kM [(144,al (nth (aa M).aw (nth J.bd U.ai)))] trivial
        unfold FD at h
        refine dA (fun sZ=> ?_) (fun sZ=> ?_)
        ·
         replace h:=h.1 sZ
         refine bL [] 31 ?_
         refine dM [(8,ag 3)] ?_
         refine ch.normal ?_
         refine ch.normal ?_
         exact gU.normal ((List.map ae.ac (aa M).O),(aa M).aw,(aa M).au,(List.range (aa M).O.length),3,(aa M).O) h (dt [5])
        ·
         replace h:=h.2 sZ
         refine bL [] 27 ?_
         obtain⟨Se,h⟩:=h
         refine lx 7 (some 134) [(133,ag U.bn),(132,az 5 2),(131,ag U.ai),(130,az 5 1),(129,aj 1 0 (aa M).au.length),(128,az 4 2)] 1 0 2 Se ?_
         refine s_ 2 none [(135,.ptr 1 0 (0+U.ai.toNat) 0)] a5 (aa M).au U.ai 0 1 0 [ag U.bn] 1 (bc.mk U.bn (nth (aa M).au U.ai).a2) (by simpa using Se.2) ?_
         refine dM [] ?_
         refine ch.normal ?_
         refine ch.normal ?_
         exact gU.normal ((List.map ae.ac (aa M).O),(aa M).aw,((aa M).au.set U.ai.toNat (bc.mk U.bn (nth (aa M).au U.ai).a2)),(List.range (aa M).O.length),0,(aa M).O) h (hd (s':=⟨(bh 200 [(3,az 3 0),(4,az 4 0),(6,az 6 0),(7,az 7 0),(8,ag 0)]),[(7,(bW false M)),(6,[ag 0,al false,aF,aF,aF]),(4,[al (aa M).ok,aj 0 0 (aa M).aw.length,aj 1 0 (aa M).au.length,aj 2 0 (aa M).O.length]),(3,(bg false J))],(⟨0,1,List.map aX (aa M).aw⟩::⟨0,2,List.map a5 ((aa M).au.set U.ai.toNat (bc.mk U.bn (nth (aa M).au U.ai).a2))⟩::⟨0,5,a0 3 (aa M).O (List.range (aa M).O.length)⟩::List.map bk (List.map ae.ac (aa M).O))⟩) (dt (n:=200) (A':=[(3,az 3 0),(4,az 4 0),(6,az 6 0),(7,az 7 0),(8,ag 0)]) (L':=[(7,(bW false M)),(6,[ag 0,al false,aF,aF,aF]),(4,[al (aa M).ok,aj 0 0 (aa M).aw.length,aj 1 0 (aa M).au.length,aj 2 0 (aa M).O.length]),(3,(bg false J))]) [5]) (congrArg (fun z=>(⟨(bh 200 [(3,az 3 0),(4,az 4 0),(6,az 6 0),(7,az 7 0),(8,ag 0)]),[(7,(bW false M)),(6,[ag 0,al false,aF,aF,aF]),(4,[al (aa M).ok,aj 0 0 (aa M).aw.length,aj 1 0 z,aj 2 0 (aa M).O.length]),(3,(bg false J))],(⟨0,1,List.map aX (aa M).aw⟩::⟨0,2,List.map a5 ((aa M).au.set U.ai.toNat (bc.mk U.bn (nth (aa M).au U.ai).a2))⟩::⟨0,5,a0 3 (aa M).O (List.range (aa M).O.length)⟩::List.map bk (List.map ae.ac (aa M).O))⟩:St)) (show(aa M).au.length=((aa M).au.set U.ai.toNat (bc.mk U.bn (nth (aa M).au U.ai).a2)).length by simp)))
      ·
       replace h:=h.2 kL
       refine dX [] 32 [(155,al (U.op==7)),(156,al (U.op==7))] [1] [0,2,3,1,2] ?_
       refine dA (fun mY=> ?_) (fun mY=> ?_)
       ·
        replace h:=h.1 mY
        refine dX [] 33 [(160,ag 0),(159,ag ((aa M).O.length:Int)),(158,aj 2 0 (aa M).O.length),(157,az 4 3)] [2] [0,1,5] ?_
        unfold Fs at h
        refine fc 5 ?_
        obtain⟨G0,h⟩:=h
        refine j8 (fun(v:List (List Bool)×List Nat×Int×List ae)=>(⟨(bh 200 [(3,az 3 0),(4,az 4 0),(6,az 6 0),(7,az 7 0),(8,ag 0),(159,ag ((aa M).O.length:Int)),(160,ag (v.2.2.1))]),[(7,(bW false M)),(6,[ag 0,al false,aF,aF,aF]),(4,[al (aa M).ok,aj 0 0 (aa M).aw.length,aj 1 0 (aa M).au.length,aj 2 0 (v.2.2.2).length]),(3,(bg false J))],(⟨0,1,List.map aX (aa M).aw⟩::⟨0,2,List.map a5 (aa M).au⟩::⟨0,5,a0 3 (v.2.2.2) (v.2.1)⟩::List.map bk (v.1))⟩:St)) (fun(v:List (List Bool)×List Nat×Int×List ae)=>aS (v.1) (v.2.1) (v.2.2.1) (v.2.2.2)) (fun(v:List (List Bool)×List Nat×Int×List ae)=>aU (v.1) (v.2.1) (v.2.2.1) (v.2.2.2)) ((List.map ae.ac (aa M).O),(List.range (aa M).O.length),0,(aa M).O) (dt [5]) G0 (fun v aZ=> ?_)
        obtain⟨b8,aO,a6,ws2⟩:=v
        replace h:=h b8 aO a6 ws2 aZ
        dsimp only
        refine dX [] 34 [(161,al (decide (a6<((aa M).O.length:Int))))] [1] [7] ?_
        obtain⟨GZ,h⟩:=h
        refine cu [] [0,1,7] ((decide (a6<((aa M).O.length:Int)))=true) ?_ (fun uO=> ?_)
        ·
         replace h:=GZ
         refine dA (fun s4=> ?_) (fun s4=> ?_)
         ·
          refine eb ?_
          exact b_.normal (by simp only[ft,g5,od,nv,kL,mY,s4]<;>rfl) dT
         ·
          replace h:=h s4
          refine iL 5 ?_
          refine b_.exit ?_
          refine dO.exit ?_
          refine ch.here ?_
          refine ch.normal ?_
          exact gU.normal (b8,(aa M).aw,(aa M).au,aO,0,ws2) h (dt [])
        replace h:=h uO
        unfold Fq at h
        obtain⟨GY,h⟩:=h
        obtain⟨pT,rZ⟩: ∃w:List ae,(bif ((nth ws2 a6).ar==3) then(bif ((nth (ws2.set a6.toNat (ae.mk (nth ws2 a6).ar (nth ws2 a6).af (nth ws2 a6).ac (nth ws2 a6).ao (IntKind.i64.wrap ((nth ws2 a6).ap - 1)))) a6).ap==0) then((ws2.set a6.toNat (ae.mk (nth ws2 a6).ar (nth ws2 a6).af (nth ws2 a6).ac (nth ws2 a6).ao (IntKind.i64.wrap ((nth ws2 a6).ap - 1)))).set a6.toNat (ae.mk (a4 J a6).ar (a4 J a6).af (a4 J a6).ac (a4 J a6).ao (a4 J a6).ap)) else(ws2.set a6.toNat (ae.mk (nth ws2 a6).ar (nth ws2 a6).af (nth ws2 a6).ac (nth ws2 a6).ao (IntKind.i64.wrap ((nth ws2 a6).ap - 1))))) else ws2)=w:=⟨_,rfl⟩
        obtain⟨r5,pK⟩: ∃w:List Nat,(bif ((nth ws2 a6).ar==3) then(bif ((nth (ws2.set a6.toNat (ae.mk (nth ws2 a6).ar (nth ws2 a6).af (nth ws2 a6).ac (nth ws2 a6).ao (IntKind.i64.wrap ((nth ws2 a6).ap - 1)))) a6).ap==0) then(aO.set a6.toNat b8.length) else aO) else aO)=w:=⟨_,rfl⟩
        obtain⟨r6,w7⟩: ∃w:List (List Bool),(bif ((nth ws2 a6).ar==3) then(bif ((nth (ws2.set a6.toNat (ae.mk (nth ws2 a6).ar (nth ws2 a6).af (nth ws2 a6).ac (nth ws2 a6).ao (IntKind.i64.wrap ((nth ws2 a6).ap - 1)))) a6).ap==0) then(b8++[(a4 J a6).ac]) else b8) else b8)=w:=⟨_,rfl⟩
        refine eX [] [7] id (fun _=>(⟨0,1,List.map aX (aa M).aw⟩::⟨0,2,List.map a5 (aa M).au⟩::⟨0,5,a0 3 pT r5⟩::List.map bk r6)) (True) ?_ (fun B7=> ?_)
        ·
         replace h:=GY
         refine fc 6 ?_
         refine dX [] 35 [(12,ag a6),(162,ag a6)] [1] [7] ?_
         obtain⟨GX,h⟩:=h
         refine cu [(13,.ptr 2 0 (0+a6.toNat) 0)] [8] (True) ?_ (fun aaF=> ?_)
         ·
          replace h:=GX
          refine bL [] 36 ?_
          have aeU:=h
          refine lx 4 (some 166) [(165,ag a6),(164,aj 2 0 ws2.length),(163,az 4 3)] 2 0 5 aeU ?_
          exact b1 [(13,.ptr 2 0 (0+a6.toNat) 0)] trivial
         obtain⟨GW,h⟩:=h
         refine cu [(171,al ((nth ws2 a6).ar==3))] [9] (True) ?_ (fun afu=> ?_)
         ·
          replace h:=GW
          refine bL [] 37 ?_
          have w8:=h
          refine iC 4 (some 170) [(169,.ptr 2 0 (0+a6.toNat) 0),(168,.ptr 2 0 (0+a6.toNat) 0),(167,.ptr 2 0 (0+a6.toNat) 0)] (a0 3 ws2 aO) a6 3 0 0 (ag (nth ws2 a6).ar) (dF w8.1 w8.2) ?_
          exact b1 [(171,al ((nth ws2 a6).ar==3))] trivial
         refine dA (fun zf=> ?_) (fun zf=> ?_)
         ·
          replace h:=h zf
          obtain⟨B5,h⟩:=h
          refine eX [] [0,1,9] id (fun H=>ea 2 ⟨0,5,a0 3 (ws2.set a6.toNat (ae.mk (nth ws2 a6).ar (nth ws2 a6).af (nth ws2 a6).ac (nth ws2 a6).ao (IntKind.i64.wrap ((nth ws2 a6).ap - 1)))) aO⟩ H) (True) ?_ (fun OJ=> ?_)
          ·
           replace h:=B5
           refine bL [] 38 ?_
           obtain⟨B8,h⟩:=h
           refine iC 4 (some 175) [(174,.ptr 2 0 (0+a6.toNat) 4),(173,.ptr 2 0 (0+a6.toNat) 0),(172,.ptr 2 0 (0+a6.toNat) 0)] (a0 3 ws2 aO) a6 3 4 0 (ag (nth ws2 a6).ap) (dF B8.1 B8.2) ?_
           have qJ:=h
           refine j0 4 none [(178,.ptr 2 0 (0+a6.toNat) 4),(177,.ptr 2 0 (0+a6.toNat) 0),(176,ag (IntKind.i64.wrap ((nth ws2 a6).ap - 1)))] (a0 3 ws2 aO) a6 4 1 0 [ag (IntKind.i64.wrap ((nth ws2 a6).ap - 1))] 2 (a0 3 (ws2.set a6.toNat (ae.mk (nth ws2 a6).ar (nth ws2 a6).af (nth ws2 a6).ac (nth ws2 a6).ao (IntKind.i64.wrap ((nth ws2 a6).ap - 1)))) aO) (dF qJ.1 qJ.2) (kb qJ.1 qJ.2) ?_
           exact b1 [] trivial
          unfold FG at h
          obtain⟨B4,h⟩:=h
          refine cu [(183,al ((nth (ws2.set a6.toNat (ae.mk (nth ws2 a6).ar (nth ws2 a6).af (nth ws2 a6).ac (nth ws2 a6).ao (IntKind.i64.wrap ((nth ws2 a6).ap - 1)))) a6).ap==0))] [9] (True) ?_ (fun GU=> ?_)
          ·
           replace h:=B4
           refine bL [] 39 ?_
           have B3:=h
           refine iC 4 (some 182) [(181,.ptr 2 0 (0+a6.toNat) 4),(180,.ptr 2 0 (0+a6.toNat) 0),(179,.ptr 2 0 (0+a6.toNat) 0)] (a0 3 (ws2.set a6.toNat (ae.mk (nth ws2 a6).ar (nth ws2 a6).af (nth ws2 a6).ac (nth ws2 a6).ao (IntKind.i64.wrap ((nth ws2 a6).ap - 1)))) aO) a6 3 4 0 (ag (nth (ws2.set a6.toNat (ae.mk (nth ws2 a6).ar (nth ws2 a6).af (nth ws2 a6).ac (nth ws2 a6).ao (IntKind.i64.wrap ((nth ws2 a6).ap - 1)))) a6).ap) (dF B3.1 B3.2) ?_
           exact b1 [(183,al ((nth (ws2.set a6.toNat (ae.mk (nth ws2 a6).ar (nth ws2 a6).af (nth ws2 a6).ac (nth ws2 a6).ao (IntKind.i64.wrap ((nth ws2 a6).ap - 1)))) a6).ap==0))] trivial
          unfold FF at h
          refine dA (fun uN=> ?_) (fun uN=> ?_)
          ·
           replace h:=h uN
           refine bL [] 40 ?_
           obtain⟨GV,h⟩:=h
           refine s9 4 (some 187) [(186,ag a6),(185,.agg (bg false J)),(184,.ptr 2 0 (0+a6.toNat) 0)] [.agg (bg false J),ag a6] (.agg [ag (a4 J a6).ar,ag (a4 J a6).af,aj (b8.length+3) 0 (a4 J a6).ac.length,al (a4 J a6).ao,ag (a4 J a6).ap]) (⟨0,1,List.map aX (aa M).aw⟩::⟨0,2,List.map a5 (aa M).au⟩::⟨0,5,a0 3 (ws2.set a6.toNat (ae.mk (nth ws2 a6).ar (nth ws2 a6).af (nth ws2 a6).ac (nth ws2 a6).ao (IntKind.i64.wrap ((nth ws2 a6).ap - 1)))) aO⟩::List.map bk (b8++[(a4 J a6).ac])) (Br J a6 GV) (aD.cons (c3.agg (aD.cons (.int _ _) (aD.cons cz (aD.cons cz (aD.cons cz (aD.cons (.int _ _) aD.nil)))))) (aD.cons (c3.hT (.int _ _)) aD.nil)) (qC (fun _=>rfl) rfl) (qS (qR (fun _=>rfl) rfl) (by simp only[List.cons_append,List.map_nil,rl])) ?_ (er:=by simp[mq,ny,iD])
           have w3:=h
           refine j0 2 none [(188,.ptr 2 0 (0+a6.toNat) 0)] (a0 3 (ws2.set a6.toNat (ae.mk (nth ws2 a6).ar (nth ws2 a6).af (nth ws2 a6).ac (nth ws2 a6).ao (IntKind.i64.wrap ((nth ws2 a6).ap - 1)))) aO) a6 0 5 0 [ag (a4 J a6).ar,ag (a4 J a6).af,aj (b8.length+3) 0 (a4 J a6).ac.length,al (a4 J a6).ao,ag (a4 J a6).ap] 2 (a0 3 ((ws2.set a6.toNat (ae.mk (nth ws2 a6).ar (nth ws2 a6).af (nth ws2 a6).ac (nth ws2 a6).ao (IntKind.i64.wrap ((nth ws2 a6).ap - 1)))).set a6.toNat (ae.mk (a4 J a6).ar (a4 J a6).af (a4 J a6).ac (a4 J a6).ao (a4 J a6).ap)) (aO.set a6.toNat b8.length)) (dF w3.1 w3.2) (vY w3.1) ?_
           refine dM [] ?_
           refine ch.normal ?_
           exact b_.normal trivial (by simp only[←rZ,←pK,←w7,ft,g5,od,nv,kL,mY,uO,zf,uN,cond_true,cond_false];exact dT)
          ·
           refine eb ?_
           refine ch.normal ?_
           exact b_.normal trivial (by simp only[←rZ,←pK,←w7,ft,g5,od,nv,kL,mY,uO,zf,uN,cond_true,cond_false];exact dT)
         ·
          refine eb ?_
          refine ch.normal ?_
          exact b_.normal trivial (by simp only[←rZ,←pK,←w7,ft,g5,od,nv,kL,mY,uO,zf,cond_true,cond_false];exact dT)
        replace h:=h pT rZ
        have Wy:pT.length=ws2.length:=by rw[←rZ];repeat' apply yN;all_goals simp
        replace h:=h r5 pK
        replace h:=h r6 w7
        refine bL [] 41 ?_
        refine dM [(160,ag (IntKind.i64.wrap (a6+1))),(189,ag (IntKind.i64.wrap (a6+1)))] ?_
        exact dO.again (r6,r5,(IntKind.i64.wrap (a6+1)),pT) h (hd (s':=⟨(bh 200 [(3,az 3 0),(4,az 4 0),(6,az 6 0),(7,az 7 0),(8,ag 0),(159,ag ((aa M).O.length:Int)),(160,ag (IntKind.i64.wrap (a6+1)))]),[(7,(bW false M)),(6,[ag 0,al false,aF,aF,aF]),(4,[al (aa M).ok,aj 0 0 (aa M).aw.length,aj 1 0 (aa M).au.length,aj 2 0 ws2.length]),(3,(bg false J))],(⟨0,1,List.map aX (aa M).aw⟩::⟨0,2,List.map a5 (aa M).au⟩::⟨0,5,a0 3 pT r5⟩::List.map bk r6)⟩) (dt (n:=200) (A':=[(3,az 3 0),(4,az 4 0),(6,az 6 0),(7,az 7 0),(8,ag 0),(159,ag ((aa M).O.length:Int)),(160,ag (IntKind.i64.wrap (a6+1)))]) (L':=[(7,(bW false M)),(6,[ag 0,al false,aF,aF,aF]),(4,[al (aa M).ok,aj 0 0 (aa M).aw.length,aj 1 0 (aa M).au.length,aj 2 0 ws2.length]),(3,(bg false J))]) []) (congrArg (fun z=>(⟨(bh 200 [(3,az 3 0),(4,az 4 0),(6,az 6 0),(7,az 7 0),(8,ag 0),(159,ag ((aa M).O.length:Int)),(160,ag (IntKind.i64.wrap (a6+1)))]),[(7,(bW false M)),(6,[ag 0,al false,aF,aF,aF]),(4,[al (aa M).ok,aj 0 0 (aa M).aw.length,aj 1 0 (aa M).au.length,aj 2 0 z]),(3,(bg false J))],(⟨0,1,List.map aX (aa M).aw⟩::⟨0,2,List.map a5 (aa M).au⟩::⟨0,5,a0 3 pT r5⟩::List.map bk r6)⟩:St)) (show ws2.length=pT.length by simp[Wy])))
       ·
        replace h:=h.2 mY
        refine eb ?_
        refine ch.normal ?_
        exact gU.normal ((List.map ae.ac (aa M).O),(aa M).aw,(aa M).au,(List.range (aa M).O.length),0,(aa M).O) h (dt [5])
 obtain⟨b8,a8,aG,aO,cT,ws2⟩:=v
 replace h:=h b8 a8 aG aO cT ws2 c1
 dsimp only
 unfold Fy at h
 obtain⟨aaB,h⟩:=h
 refine cu [] [3] ((!(cT !=0))=true) ?_ (fun G1=> ?_)
 ·
  replace h:=aaB
  refine dX [] 42 [(191,al (cT !=0)),(190,ag cT)] [1] [5] ?_
  refine dA (fun zb=> ?_) (fun zb=> ?_)
  ·
   replace h:=h zb
   obtain⟨G3,h⟩:=h
   refine eX [] [0,3,1] (fun L=>er 1 [ag cT,al (aa M).ok,hh aX (aa M).aw,hh a5 (aa M).au,hh (dD false) (aa M).O] L) id (True) ?_ (fun OE=> ?_)
   ·
    replace h:=G3
    refine bL [] 43 ?_
    have G2:=h
    refine l3 3 (some 194) [(193,.agg (bW false M)),(192,ag cT)] [.agg (bW false M)] (Mt M G2) (aD.cons (c3.agg (aD.cons (.bool _) (aD.cons cz (aD.cons cz (aD.cons cz aD.nil))))) aD.nil) ?_
    exact b1 [(195,.agg [ag cT,al (aa M).ok,hh aX (aa M).aw,hh a5 (aa M).au,hh (dD false) (aa M).O])] trivial
   exact hj (b_.ret (m1 (.agg [ag cT,al (aa M).ok,hh aX (aa M).aw,hh a5 (aa M).au,hh (dD false) (aa M).O]) (h_.agg (aD.cons (xl h.1) (aD.cons (m3 (congrArg (fun q=>q.ok) h.2)) (aD.cons (u0 (congrArg (fun q=>q.aw) h.2)) (aD.cons (u0 (congrArg (fun q=>q.au) h.2)) (aD.cons (u0 (congrArg (fun q=>q.O) h.2)) aD.nil))))))))
  ·
   refine eb ?_
   exact b_.normal (by simp only[zb]<;>rfl) dT
 replace h:=h G1
 obtain⟨aaA,h⟩:=h
 refine eX [] [0,2,1] (fun L=>er 1 [ag 0,al (d_ J (Frame.mk (aa M).ok a8 aG (view ws2 aO b8))).ok,hh aX (d_ J (Frame.mk (aa M).ok a8 aG (view ws2 aO b8))).aw,hh a5 (d_ J (Frame.mk (aa M).ok a8 aG (view ws2 aO b8))).au,hh (dD false) (d_ J (Frame.mk (aa M).ok a8 aG (view ws2 aO b8))).O] L) id (True) ?_ (fun OF=> ?_)
 ·
  replace h:=aaA
  refine bL [] 44 ?_
  obtain⟨aax,aay,G4,aaz⟩:=h
  refine l3 3 (some 198) [(197,.agg [al (aa M).ok,aj 0 0 a8.length,aj 1 0 aG.length,aj 2 0 ws2.length]),(196,.agg (bg false J))] [.agg (bg false J),.agg [al (aa M).ok,aj 0 0 a8.length,aj 1 0 aG.length,aj 2 0 ws2.length]] (MQ J (Frame.mk (aa M).ok a8 aG (view ws2 aO b8)) aaz) (aD.cons (c3.agg (aD.cons (.int _ _) (aD.cons cz (aD.cons cz (aD.cons cz (aD.cons (.int _ _) aD.nil)))))) (aD.cons (c3.agg (aD.cons (.bool _) (aD.cons (m2 (sz:=1) (by simp) rfl (sF) aax) (aD.cons (m2 (sz:=2) (by simp) rfl (uk) aay) (aD.cons (ta (s:=3) (ws:=ws2) (ids:=aO) (bs:=b8) (by simp) rfl (fun id k h=>by simpa using h) G4.1 G4.2.1 G4.2.2) aD.nil))))) aD.nil)) ?_
  exact b1 [(199,.agg [ag 0,al (d_ J (Frame.mk (aa M).ok a8 aG (view ws2 aO b8))).ok,hh aX (d_ J (Frame.mk (aa M).ok a8 aG (view ws2 aO b8))).aw,hh a5 (d_ J (Frame.mk (aa M).ok a8 aG (view ws2 aO b8))).au,hh (dD false) (d_ J (Frame.mk (aa M).ok a8 aG (view ws2 aO b8))).O])] trivial
 exact hj (m1 (.agg [ag 0,al (d_ J (Frame.mk (aa M).ok a8 aG (view ws2 aO b8))).ok,hh aX (d_ J (Frame.mk (aa M).ok a8 aG (view ws2 aO b8))).aw,hh a5 (d_ J (Frame.mk (aa M).ok a8 aG (view ws2 aO b8))).au,hh (dD false) (d_ J (Frame.mk (aa M).ok a8 aG (view ws2 aO b8))).O]) (h_.agg (aD.cons (xl h.1) (aD.cons (m3 (congrArg (fun q=>q.ok) h.2)) (aD.cons (u0 (congrArg (fun q=>q.aw) h.2)) (aD.cons (u0 (congrArg (fun q=>q.au) h.2)) (aD.cons (u0 (congrArg (fun q=>q.O) h.2)) aD.nil)))))))
theorem X4 (J:aA) (M:Frame) (U:Event) (aI:Dy J M U):bZ Try.prog 63 [.agg (bg false J),.agg (bW false M),.agg (je U)] (.agg (sk true (gW J M U))):=Yb J M U (gW J M U) (fun x v=>cr (bz (nth J.O U.ai)).length (fun _=>false) v∧x=jH ((bz (nth J.O U.ai)).take v.toNat) M.au) (fun _ v=>cA (bz (nth J.O U.ai)).length v) (fun bs is v ws=>cr M.O.length (fun _=>false) v∧gk ws is bs∧view ws is bs=hZ J v.toNat M.O) (fun _ _ v _=>cA M.O.length v) (fun bs o q is c ws=>gk ws is bs∧c=fe J M U∧(c=0→Frame.mk M.ok o q (view ws is bs)=ic J M U)) (by
 unfold Fo
 obtain⟨hf,he⟩:=aI
 have hs:=AL hf
 have lV:=hs
 obtain⟨xC,ol,zP,vf⟩:=lV
 have cx:=hf.in
 have c5:=hf.fr
 have aL:=c5.O
 have qm:=c5.aw
 have kW:=c5.au
 have yx:=cx.O
 have nk:=cx.cR
 have wo:=cx.sw
 obtain⟨fj,fO,fu⟩:=vO M.O
 have lj:gk M.O (List.range M.O.length) (M.O.map ae.ac):=⟨fj,fO,fun b hb=>by
  obtain⟨h,bX,rfl⟩:=List.mem_map.1 hb;exact vf h bX⟩
 have sv:Frame.mk (aa M).ok (aa M).aw (aa M).au (view (aa M).O (List.range (aa M).O.length) (List.map ae.ac (aa M).O))=M:=by
  show Frame.mk M.ok M.aw M.au (view M.O (List.range M.O.length) (List.map ae.ac M.O))=M
  rw[fu]
 have ll:(aa M).O.length=(List.range (aa M).O.length).length:=by rw[List.length_range]
 have gZ:(aa M).aw.length≤4611686018427387904∧(aa M).au.length≤4611686018427387904∧(j7 (aa M).O (List.range (aa M).O.length) (List.map ae.ac (aa M).O)∧(aa M).O.length≤4611686018427387904∧(∀x∈(List.map ae.ac (aa M).O),List.length x≤4611686018427387904)):=
  ⟨by show M.aw.length≤_;omega,by show M.au.length≤_;omega,fj,by show M.O.length≤_;omega,fun x hx=>by have:=lj.len x hx;omega⟩
 have lU: ∀c:Int,c=fe J M U→c≠0→gk M.O (List.range M.O.length) (M.O.map ae.ac)∧c=fe J M U∧(c=0→Frame.mk M.ok M.aw M.au (view M.O (List.range M.O.length) (M.O.map ae.ac))=ic J M U):=fun c hc ck=>⟨lj,hc,fun h=>absurd h ck⟩
 refine⟨hs,?_,fun bs o q is c ws c1=> ?_⟩
 ·unfold Fx
  refine⟨fun h1=> ?_,fun h1=> ?_⟩
  ·have h1:U.op=1:=by simpa using h1
   have br:=ri he (.inl h1)
   have rz:fe J M U=eM J M U.ai:=by unfold fe;rw[if_pos h1]
   unfold FA
   rw[sv]
   refine⟨⟨gZ.1,gZ.2.1,gZ.2.2,hf,br.1,br.2⟩,fun aP=> ?_,fun aP=> ?_⟩
   ·have aP:eM J M U.ai=0:=by simpa using aP
    have bf:U.ai.toNat<M.O.length:=by omega
    refine⟨⟨⟨br.1,bf⟩,ll,bf⟩,⟨⟨br.1,by omega⟩,?_⟩,fun hm=>⟨⟨c7 (dh _),rfl⟩,fun x v aZ=> ?_⟩⟩
    ·have:=cx.a2 _ (du (show U.ai.toNat<J.O.length by omega))
     exact⟨by omega,by omega⟩
    obtain⟨aZ,rfl⟩:=aZ
    unfold Fz Fp
    rw[sv]
    refine⟨fun hv=> ?_,fun hv=>⟨⟨ca aZ hv,?_⟩,⟨(cI (cv hm) aZ hv rfl).1,?_⟩,(cI (cv hm) aZ hv rfl).2⟩⟩
    ·have dn:=(lj.ow bf).setState 1
     refine⟨dn.G,rz.symm,fun _=> ?_⟩
     have ki: ¬v<((bz (nth J.O U.ai)).length:Int):=by simpa using hv
     have hO:=aZ.1
     have jU:=dn.gS
     rw[fu] at jU
     unfold ic
     rw[if_pos h1]
     rw[show view ((aa M).O.set U.ai.toNat (ae.mk 1 (nth (aa M).O U.ai).af (nth (aa M).O U.ai).ac (nth (aa M).O U.ai).ao (nth (aa M).O U.ai).ap)) (List.range (aa M).O.length) (List.map ae.ac (aa M).O)=_ from jU,List.take_of_length_le (by omega)]
     rfl
    ·rw[zs]
     have:=(cx.a2 _ (du (show U.ai.toNat<J.O.length by omega))).2.2 _ (du (ca aZ hv).2)
     omega
    ·have b9:=ca aZ hv
     rw[jL (cv hm) aZ.1 (by simpa using hv),show(v+1).toNat=v.toNat+1 by have:=aZ.1;omega,Pk b9.2,←gE b9.2]
   ·have aP: ¬eM J M U.ai=0:=by simpa using aP
    exact lU _ rz.symm aP
  have h1: ¬U.op=1:=by simpa using h1
  unfold Fv
  refine⟨fun h2=> ?_,fun h2=> ?_⟩
  ·have h2:U.op=2:=by simpa using h2
   have br:=ri he (.inr h2)
   have bf:U.ai.toNat<M.O.length:=by omega
   have wb:U.ai.toNat<J.O.length:=by omega
   have jT:fe J M U=if(nth M.O U.ai).ar≠1∧(nth M.O U.ai).ar≠2 then 2 else 0:=by unfold fe;rw[if_neg h1,if_pos h2]
   refine⟨⟨br.1,bf⟩,⟨⟨ll,bf⟩,fun _=>⟨ll,bf⟩⟩,?_⟩
   unfold FC
   rw[sv]
   have oC:(((nth (aa M).O U.ai).ar !=1)&&((nth (aa M).O U.ai).ar !=2))=decide ((nth M.O U.ai).ar≠1∧(nth M.O U.ai).ar≠2):=by
    rw[Bool.eq_iff_iff];simp[aa]
   rw[oC]
   refine⟨fun hc=> ?_,fun hc=>⟨⟨⟨ll,bf⟩,fun _=>⟨⟨br.1,wb⟩,gZ.1,gZ.2.1,gZ.2.2,fun x hx=> ?_⟩⟩,?_⟩⟩
   ·have hc:=of_decide_eq_true hc
    rw[if_pos hc] at jT
    exact lU 2 jT.symm (by decide)
   ·have:=(cx.cD _ (du wb)).2 x hx;omega
   ·have hc:=of_decide_eq_false hc
    rw[if_neg hc] at jT
    have dn:=lj.ow bf
    rw[fu] at dn
    unfold FB
    rw[sv]
    have bi: ∀X:Frame,X=(if((nth M.O U.ai).ao&&fX M (nth J.O U.ai).cD)=true then{M with O:=M.O.set U.ai.toNat {nth M.O U.ai with ar:=3,ap:=J.dl}} else{M with O:=M.O.set U.ai.toNat (a4 J U.ai)})→X=ic J M U:=fun X VY=>by
     unfold ic;rw[if_neg h1,if_pos h2];exact VY
    refine⟨fun ak=>⟨⟨ll,bf⟩,(dn.setState 3).fp,?_⟩,fun ak=>⟨⟨cx,br.1,br.2⟩,⟨ll,bf⟩,?_⟩⟩
    ·have fZ:=(dn.setState 3).xg J.dl
     refine⟨fZ.G,jT.symm,fun _=>bi _ ?_⟩
     have ak:((nth M.O U.ai).ao&&fX M (nth J.O U.ai).cD)=true:=ak
     rw[if_pos ak]
     have jU:=fZ.gS
     exact congrArg (Frame.mk M.ok M.aw M.au) jU
    ·have fZ:=dn.new (a4 J U.ai) (by
      have:=(cx.ah _ (du wb)).2.1
      show(List.replicate _ _).length≤_
      rw[List.length_replicate];omega)
     have I6:dg M.O ((List.range (aa M).O.length).set U.ai.toNat (List.map ae.ac (aa M).O).length) U.ai (a4 J U.ai) ((aa M).O.set U.ai.toNat (ae.mk (a4 J U.ai).ar (a4 J U.ai).af (a4 J U.ai).ac (a4 J U.ai).ao (a4 J U.ai).ap)) ((List.map ae.ac (aa M).O)++[(a4 J U.ai).ac]):=fZ
     refine⟨I6.G,jT.symm,fun _=>bi _ ?_⟩
     have ak: ¬((nth M.O U.ai).ao&&fX M (nth J.O U.ai).cD)=true:=by
      have ak:((nth M.O U.ai).ao&&fX M (nth J.O U.ai).cD)=false:=ak
      rw[ak];simp
     rw[if_neg ak,I6.gS];rfl
  have h2: ¬U.op=2:=by simpa using h2
  have ok: ∀(o:List Bool) (q:List bc),fe J M U=0→ic J M U={M with aw:=o,au:=q}→gk M.O (List.range M.O.length) (M.O.map ae.ac)∧0=fe J M U∧((0:Int)=0→Frame.mk M.ok o q (view M.O (List.range M.O.length) (M.O.map ae.ac))=ic J M U):=fun o q hc bi=>⟨lj,hc.symm,fun _=>by rw[fu,bi]⟩
  unfold Fu
  rw[y2]
  refine⟨fun aN=> ?_,fun aN=> ?_⟩
  ·have aN:=of_decide_eq_true aN
   have br:=DW he aN
   refine⟨⟨br.1,by show U.ai.toNat<M.aw.length;omega⟩,ok _ _ ?_ ?_⟩
   ·unfold fe;rw[if_neg h1,if_neg h2,if_neg (by omega)]
   ·unfold ic;rw[if_neg h1,if_neg h2,if_pos aN];rfl
  have aN:=of_decide_eq_false aN
  refine⟨fun ci=> ?_,fun ci=> ?_⟩
  ·have ci:U.op=5:=by simpa using ci
   have br:=vM he (.inl ci)
   refine⟨⟨br.1,by show U.ai.toNat<M.au.length;omega⟩,ok _ _ ?_ ?_⟩
   ·unfold fe;rw[if_neg h1,if_neg h2,if_neg (by omega)]
   ·unfold ic;rw[if_neg h1,if_neg h2,if_neg aN,if_pos ci];rfl
  have ci: ¬U.op=5:=by simpa using ci
  unfold Ft
  refine⟨fun cK=> ?_,fun cK=>⟨fun gC=> ?_,fun gC=> ?_⟩⟩
  ·have cK:U.op=6:=by simpa using cK
   have br:=vM he (.inr cK)
   have jT:fe J M U=if iR J M U.ai=true then 2 else if kj J M U.ai=true then 3 else 0:=by unfold fe;rw[if_neg h1,if_neg h2,if_pos cK]
   rw[sv]
   refine⟨⟨gZ.1,gZ.2.1,gZ.2.2,hf,br.1,br.2⟩,fun _=> ?_⟩
   unfold FE FD
   rw[sv]
   have yD:=cx.bd _ (du (show U.ai.toNat<J.bd.length by omega))
   refine⟨fun hc=> ?_,fun hc=>⟨⟨⟨br.1,by omega⟩,yD.1,by show _<M.aw.length;omega⟩,fun aC=> ?_,fun aC=>⟨⟨br.1,by show _<M.au.length;omega⟩,ok _ _ ?_ ?_⟩⟩⟩
   ·rw[if_pos (show iR J M U.ai=true from hc)] at jT
    exact lU 2 jT.symm (by decide)
   ·rw[if_neg (show ¬iR J M U.ai=true by rw[show iR J M U.ai=false from hc];simp),if_pos (show kj J M U.ai=true from aC)] at jT
    exact lU 3 jT.symm (by decide)
   ·rw[if_neg (show ¬iR J M U.ai=true by rw[show iR J M U.ai=false from hc];simp),if_neg (show ¬kj J M U.ai=true by rw[show kj J M U.ai=false from aC];simp)] at jT
    exact jT
   ·unfold ic;rw[if_neg h1,if_neg h2,if_neg aN,if_neg ci,if_pos cK];rfl
  ·have gC:U.op=7:=by simpa using gC
   unfold Fs
   refine⟨⟨c7 (dh _),lj,fu⟩,fun bs is v ws aZ=> ?_⟩
   obtain⟨aZ,G,jU⟩:=aZ
   have Bj:ws.length=M.O.length:=by rw[←i_ G.ok,jU,zF]
   refine⟨fun hv=>⟨G,?_,fun _=> ?_⟩,fun hv=> ?_⟩
   ·unfold fe;rw[if_neg h1,if_neg h2,if_neg (by omega)]
   ·have ki: ¬v<(M.O.length:Int):=by
     have hv:decide (v<(M.O.length:Int))=false:=hv
     simpa using hv
    have a3:=aZ.1
    have hb:=aZ.2.1
    rw[jU,show v.toNat=M.O.length by omega]
    unfold ic;rw[if_neg h1,if_neg h2,if_neg aN,if_neg ci,if_neg (by omega),if_pos gC];rfl
   ·have b9:=ca aZ hv
    have bf:v.toNat<ws.length:=by omega
    have wb:v.toNat<J.O.length:=by omega
    have dn:dg (hZ J v.toNat M.O) is v (nth (hZ J v.toNat M.O) v) ws bs:=dg.start G.ok G.kI bf jU G.len
    have bm:=cI (by omega) aZ hv rfl
    have qo:=jL (show(M.O.length:Int)≤4611686018427387904 by omega) aZ.1 (by
     have hv:decide (v<(M.O.length:Int))=true:=hv
     simpa using hv)
    have ua:wA J v:=⟨cx,b9.1,by omega⟩
    have v_:(a4 J v).ac.length≤1048576:=by
     have:=(cx.ah _ (du wb)).2.1
     show(List.replicate _ _).length≤_
     rw[List.length_replicate];omega
    have ek:=dn.xg (IntKind.i64.wrap ((nth ws v).ap - 1))
    have fin: ∀{c9:List Nat} {ks:List ae} {ma:List (List Bool)} {x:ae},dg (hZ J v.toNat M.O) c9 v x ks ma→x=lz J v.toNat (nth (hZ J v.toNat M.O) v)→(cr M.O.length (fun _=>false) (IntKind.i64.wrap (v+1))∧gk ks c9 ma∧view ks c9 ma=hZ J (IntKind.i64.wrap (v+1)).toNat M.O)∧cA M.O.length (IntKind.i64.wrap (v+1))<cA M.O.length v:=fun F hx=>by
     refine⟨⟨bm.1,F.G,?_⟩,bm.2⟩
     rw[F.gS,hx,qo,show(v+1).toNat=v.toNat+1 by omega]
     show _=(hZ J v.toNat M.O).set v.toNat (lz J v.toNat (nth (hZ J v.toNat M.O) (v.toNat:Int)))
     rw[jD b9.1]
    unfold Fq FG FF
    refine⟨⟨⟨b9.1,bf⟩,dn.fp,fun _=>⟨⟨dn.fp,dn.fp⟩,ek.fp,fun _=>⟨ua,ek.fp⟩⟩⟩,fun w hw i hi b hb=> ?_⟩
    have br:(nth (ws.set v.toNat (ae.mk (nth ws v).ar (nth ws v).af (nth ws v).ac (nth ws v).ao (IntKind.i64.wrap ((nth ws v).ap - 1)))) v).ap=IntKind.i64.wrap ((nth ws v).ap - 1):=ek.ap
    rw[br,dn.ar,dn.ap] at hw hi hb
    rw[dn.ap,dn.ar] at ek
    have EG:a4 J (v.toNat:Int)=a4 J v:=by rw[Int.toNat_of_nonneg b9.1]
    cases aN:((nth (hZ J v.toNat M.O) v).ar==3) with
    | false=>
     rw[aN] at hw hi hb
     subst hw;subst hi;subst hb
     refine fin dn ?_
     unfold lz;rw[if_neg (by simpa using aN)]
    | true=>
     rw[aN] at hw hi hb
     cases aT:(IntKind.i64.wrap ((nth (hZ J v.toNat M.O) v).ap - 1)==0) with
     | false=>
      rw[aT] at hw hi hb
      subst hw;subst hi;subst hb
      refine fin ek ?_
      unfold lz;rw[if_pos (by simpa using aN),if_neg (by simpa using aT)]
     | true=>
      rw[aT] at hw hi hb
      subst hw;subst hi;subst hb
      refine fin (ek.new (a4 J v) v_) ?_
      unfold lz;rw[if_pos (by simpa using aN),if_pos (by simpa using aT),EG]
  ·have gC: ¬U.op=7:=by simpa using gC
   refine ok _ _ ?_ ?_
   ·unfold fe;rw[if_neg h1,if_neg h2,if_neg (by simpa using cK)]
   ·unfold ic;rw[if_neg h1,if_neg h2,if_neg aN,if_neg ci,if_neg (by simpa using cK),if_neg gC];rfl
 ·obtain⟨G,hc,bi⟩:=c1
  unfold Fy
  refine⟨fun aP=>⟨hs,?_⟩,fun aP=> ?_⟩
  ·have aP: ¬c=0:=by simpa using aP
   unfold gW;rw[if_pos (by rw[←hc];exact aP)]
   exact⟨hc,rfl⟩
  ·have aP:c=0:=by simpa using aP
   have b9:=Dx c5 (ri he)
   rw[←bi aP] at b9
   have aC:=b9.aw
   have ak:=b9.au
   have hw:=b9.O
   have Xg:(view ws is bs).length=J.O.length:=hw
   rw[i_ G.ok] at Xg
   replace aC:(o.length:Int)=J.ah:=aC
   replace ak:q.length=J.bd.length:=ak
   refine⟨⟨by omega,by omega,⟨G.ok,by omega,fun x hx=>by have:=G.len x hx;omega⟩,cx,b9⟩,?_⟩
   unfold gW;rw[if_neg (by rw[←hc,aP];simp)]
   exact⟨rfl,by rw[←bi aP];rfl⟩)
def X5:eg Try.prog:=⟨63,[.df,.frame,.fI],[.done],some fun x=>Dy x.1 x.2.1 x.2.2.1,fun x=>((gW x.1 x.2.1 x.2.2.1),()),fun x h=>X4 x.1 x.2.1 x.2.2.1 h⟩
abbrev oX (r:Type):Type:=Nat→(List fA)→Bool→(List Bool)→(List bc)→(List ae)→Int→r
def Mb (ay:oX Prop) (aB:oX Nat) (J:aA) (M:(List Event)) (bx:Nat) (a8:(List fA)) (gw:Bool) (gx:(List Bool)) (gy:(List bc)) (gz:(List ae)) (gi:Int):Prop:=
  ((a8.length+[(fA.mk (gW J (Frame.mk gw gx gy gz) (nth M gi)).code (aa (gW J (Frame.mk gw gx gy gz) (nth M gi)).frame))].length)*88≤140737488355328∧a8.length+[(fA.mk (gW J (Frame.mk gw gx gy gz) (nth M gi)).code (aa (gW J (Frame.mk gw gx gy gz) (nth M gi)).frame))].length≤4611686018427387904)∧(ay (bx+1) (a8++[(fA.mk (gW J (Frame.mk gw gx gy gz) (nth M gi)).code (aa (gW J (Frame.mk gw gx gy gz) (nth M gi)).frame))]) (gW J (Frame.mk gw gx gy gz) (nth M gi)).frame.ok (gW J (Frame.mk gw gx gy gz) (nth M gi)).frame.aw (gW J (Frame.mk gw gx gy gz) (nth M gi)).frame.au (gW J (Frame.mk gw gx gy gz) (nth M gi)).frame.O (IntKind.i64.wrap (gi+1))∧aB (bx+1) (a8++[(fA.mk (gW J (Frame.mk gw gx gy gz) (nth M gi)).code (aa (gW J (Frame.mk gw gx gy gz) (nth M gi)).frame))]) (gW J (Frame.mk gw gx gy gz) (nth M gi)).frame.ok (gW J (Frame.mk gw gx gy gz) (nth M gi)).frame.aw (gW J (Frame.mk gw gx gy gz) (nth M gi)).frame.au (gW J (Frame.mk gw gx gy gz) (nth M gi)).frame.O (IntKind.i64.wrap (gi+1))<aB bx a8 gw gx gy gz gi)
def Mc (ay:oX Prop) (aB:oX Nat) (bx:Nat) (a8:(List fA)) (gw:Bool) (gx:(List Bool)) (gy:(List bc)) (gz:(List ae)) (gi:Int):Prop:=
  ((a8.length+[(fA.mk 1 (aa (aa (Frame.mk gw gx gy gz))))].length)*88≤140737488355328∧a8.length+[(fA.mk 1 (aa (aa (Frame.mk gw gx gy gz))))].length≤4611686018427387904)∧(ay (bx+1) (a8++[(fA.mk 1 (aa (aa (Frame.mk gw gx gy gz))))]) gw gx gy gz (IntKind.i64.wrap (gi+1))∧aB (bx+1) (a8++[(fA.mk 1 (aa (aa (Frame.mk gw gx gy gz))))]) gw gx gy gz (IntKind.i64.wrap (gi+1))<aB bx a8 gw gx gy gz gi)
def Md (ay:oX Prop) (aB:oX Nat) (J:aA) (M:(List Event)) (bx:Nat) (a8:(List fA)) (gw:Bool) (gx:(List Bool)) (gy:(List bc)) (gz:(List ae)) (gi:Int):Prop:=
  (jr (Frame.mk gw gx gy gz))∧(((eU J (nth M gi))=true→(Dy J (Frame.mk gw gx gy gz) (nth M gi))∧((jr (gW J (Frame.mk gw gx gy gz) (nth M gi)).frame)∧(Mb ay aB J M bx a8 gw gx gy gz gi)))∧((eU J (nth M gi))=false→(jr (aa (Frame.mk gw gx gy gz)))∧(Mc ay aB bx a8 gw gx gy gz gi)))
def Me (ay:oX Prop) (aB:oX Nat) (J:aA) (M:(List Event)) (an:(List fA)):Prop:=
  ay 0 ([]:List fA) (eI J).ok (eI J).aw (eI J).au (eI J).O 0∧ ∀(bx:Nat) (a8:(List fA)) (gw:Bool) (gx:(List Bool)) (gy:(List bc)) (gz:(List ae)) (gi:Int),ay bx a8 gw gx gy gz gi→(((decide (gi<(M.length:Int)))=false→a8.length≤4611686018427387904∧a8=an)∧((decide (gi<(M.length:Int)))=true→(0≤gi∧gi.toNat<M.length)∧(Md ay aB J M bx a8 gw gx gy gz gi)))
def Ma (J:aA) (M:(List Event)) (an:(List fA)) (ay:oX Prop) (aB:oX Nat):Prop:=
 (((!(dQ J)) || (decide ((M.length:Int)>1000)))=true→[]=an)∧((!((!(dQ J)) || (decide ((M.length:Int)>1000))))=true→M.length≤4611686018427387904→Me ay aB J M an)
theorem XQ (J:aA) (M:(List Event)):bZ Try.prog 22 [.agg (bg false J),bK je M] (hh (sk false) (r2 J M)):=(fun(ay:oX Prop) (aB:oX Nat) (h:Ma J M (r2 J M) ay aB)=>bZ.run (ps:=[.df,(.l .fI)]) (rs:=[(.l .done)]) (x:=(J,M,())) (r:=((r2 J M),())) ⟨48,ec,[MM,XC,X1,Yg,X5]⟩ ⟨[],[],[],[],[]⟩ (.lp [(0,6,.done)] [2,5,20,21] [(5,4),(2,5)] [.nat,(.l .done),.bool,(.l .bool),(.l .g3),(.l .held),.int] [bD 0,bD 0,e6 5 0,e6 5 1,e6 5 2,e6 5 3,22] (fun aW=>[(6,.ref 0 aW.1 aW.2.1.length false),(22,.i .i64 aW.2.2.2.2.2.2.1),(e6 5 0,.b (.v aW.2.2.1)),(e6 5 1,.l .bool aW.2.2.2.1 false true),(e6 5 2,.l .g3 aW.2.2.2.2.1 false true),(e6 5 3,.l .held aW.2.2.2.2.2.1 false true),(bD 0,.blk aW.1 .done aW.2.1 _ rfl)]) (fun aW=>ay aW.1 aW.2.1 aW.2.2.1 aW.2.2.2.1 aW.2.2.2.2.1 aW.2.2.2.2.2.1 aW.2.2.2.2.2.2.1) (fun aW=>aB aW.1 aW.2.1 aW.2.2.1 aW.2.2.2.1 aW.2.2.2.2.1 aW.2.2.2.2.2.1 aW.2.2.2.2.2.2.1) fun _=> .nil) Try.func22 h) (fun _ x a b c e v=>cr M.length (fun _=>false) v∧x=jq J (eI J) (M.take v.toNat)∧Frame.mk a b c e=np J (eI J) (M.take v.toNat)) (fun _ _ _ _ _ _ v=>cA M.length v) (by
 unfold Ma
 refine⟨fun h=> ?_,fun h aH=> ?_⟩
 ·unfold r2
  rw[if_neg]
  rintro⟨h1,h2⟩
  rw[h1] at h
  have: ¬(M.length:Int)>1000:=by omega
  simp[this] at h
 have h:dQ J=true∧(M.length:Int)≤1000:=by simpa using h
 have e:r2 J M=jq J (eI J) M:=by unfold r2;rw[if_pos ⟨h.1,by omega⟩]
 rw[e]
 unfold Me
 refine⟨⟨c7 (dh _),rfl,rfl⟩,fun g x a b c d v aZ=> ?_⟩
 obtain⟨aZ,rfl,aL⟩:=aZ
 have ww:=aZ.2.1
 have hO:=aZ.1
 have ll:(jq J (eI J) (M.take v.toNat)).length=v.toNat:=by rw[Ci,List.length_take];omega
 refine⟨fun hv=>⟨by omega,?_⟩,fun hv=>⟨ca aZ hv,?_⟩⟩
 ·have: ¬v<(M.length:Int):=by simpa using hv
  rw[List.take_of_length_le (by omega)]
 have b9:=ca aZ hv
 have bm:=cI (cv aH) aZ hv rfl
 have n0:Fit J (np J (eI J) (M.take v.toNat)):=F_ _ (Js h.1)
 have Bg:M.take (IntKind.i64.wrap (v+1)).toNat=M.take v.toNat++[nth M v]:=by
  rw[jL (cv aH) hO (by simpa using hv),show(v+1).toNat=v.toNat+1 by omega,List.take_succ_eq_append_getElem b9.2,gE b9.2]
 have uc:=O1 J (nth M v) (M.take v.toNat) (eI J)
 unfold Md
 rw[aL]
 refine⟨AL n0,fun he=>⟨⟨n0,he⟩,AL (JZ n0 he),?_⟩,fun he=>⟨AL n0,?_⟩⟩
 ·unfold Mb
  rw[aL]
  refine⟨⟨by simp only[List.length_singleton];omega,by simp only[List.length_singleton];omega⟩,⟨bm.1,?_,?_⟩,bm.2⟩
  ·rw[Bg,uc.1,if_pos he];rfl
  ·rw[Bg,uc.2,if_pos he]
 ·unfold Mc
  rw[aL]
  refine⟨⟨by simp only[List.length_singleton];omega,by simp only[List.length_singleton];omega⟩,⟨bm.1,?_,?_⟩,bm.2⟩
  ·rw[Bg,uc.1,if_neg (by rw[he];simp)];rfl
  ·rw[Bg,uc.2,if_neg (by rw[he];simp),aL])
def XR:eg Try.prog:=⟨22,[.df,(.l .fI)],[(.l .done)],none,fun x=>((r2 x.1 x.2.1),()),fun x h=>XQ x.1 x.2.1⟩
end Go.Proofs.Ytglpfccgmfhkdaa.Fw
set_option linter.unusedVariables false
namespace Go.Proofs.Ytglpfccgmfhkdaa.Fw
open Go
def qE (hg:Nat):Nat→(l:List fH)→cX (fH.es l)→List (Nat×TV)
 | _,[],_=>[]
 | i,.v e::r,x=>(i,uG e x.1)::qE hg (i+1) r x.2
 | i,.p::r,x=>(i,.ptr 0 hg 0 1 0)::qE hg (i+1) r x
def oH (hg:Nat) (ce:bI) (l:List fH) (x:cX (fH.es l)) (c:ce.T):TS:=⟨qE hg 0 l x++[(bD 0,.et hg (gA false ce c))],[],[],1⟩
theorem DL (hg:Nat): ∀(l:List fH) (x:cX (fH.es l)),(jP hg l x).length=l.length
 | [],_=>rfl
 | .v e::r,x=>congrArg Nat.succ (DL hg r x.2)
 | .p::r,x=>congrArg Nat.succ (DL hg r (show cX (fH.es r) from x))
theorem N6 {hg:Nat} {d:TV} (bi:d.bE= .undef): ∀(l:List fH) (x:cX (fH.es l)) (i t:Nat),(fN (qE hg i l x) t d).bE=if t<i then .undef else(jP hg l x).getD (t - i) .undef
 | [],x,i,t=>by
  show d.bE=_
  rw[bi];split<;>simp[jP]
 | uF::r,x,i,t=>by
  have key: ∀(v:TV) (a:AV) (y:cX (fH.es r)),v.bE=a→(fN ((i,v)::qE hg (i+1) r y) t d).bE=if t<i then .undef else(a::jP hg r y).getD (t - i) .undef:=fun v a y a3=>by
   rw[gD]
   by_cases h:i=t
   ·subst h;rw[if_pos rfl,if_neg (by omega),Nat.sub_self,a3];rfl
   ·rw[if_neg h,N6 bi r y (i+1) t]
    by_cases h2:t<i
    ·rw[if_pos (by omega),if_pos h2]
    ·rw[if_neg (by omega),if_neg h2,show t - i=(t - (i+1))+1 by omega];rfl
  cases uF with
  | v e=>exact key _ _ x.2 (N8 e x.1)
  | p=>exact key _ _ x rfl
theorem N7 {hg k:Nat} {d:TV} (hk:1000000≤k): ∀(l:List fH) (x:cX (fH.es l)) (i:Nat),i+l.length≤1000000→fN (qE hg i l x) k d=d
 | [],_,_,_=>rfl
 | uF::r,x,i,h=>by
  have key: ∀(v:TV) (y:cX (fH.es r)),fN ((i,v)::qE hg (i+1) r y) k d=d:=fun v y=>by
   simp only[List.length_cons] at h
   rw[gD,if_neg (by omega)];exact N7 hk r y (i+1) (by omega)
  cases uF with
  | v e=>exact key _ x.2
  | p=>exact key _ x
theorem M8 {hg k:Nat} {ce:bI} {l:List fH} {x:cX (fH.es l)} {c:ce.T} (aL:l.length≤1000000) (hk:1000000≤k):(oH hg ce l x c).get k=if bD 0=k then .et hg (gA false ce c) else .u:=by
 show fN (qE hg 0 l x++[(bD 0,_)]) k .u=_
 rw[rR,N7 hk l x 0 (by omega),gD];rfl
theorem M9 {hg:Nat} {ce:bI} {l:List fH} {x:cX (fH.es l)} {c:ce.T} (aL:l.length≤1000000):ii (oH hg ce l x c)=true:=by
 unfold ii
 rw[M8 aL (by unfold dC;omega),if_neg (by unfold bD dC;omega)]
theorem Y2 [Z:FZ] {fn:Func} {hg:Nat} {ce:bI} {l:List fH} {x:cX (fH.es l)} {c:ce.T} (h:l.length≤fn.ntmps) (aH:fn.ntmps≤1000000):yK fn (jP hg l x) [⟨hg,(b6 false ce c).length,[b6 false ce c]⟩]=(oH hg ce l x c).aJ fn.ntmps:=by
 have cq:jP hg l x++List.replicate (fn.ntmps - (jP hg l x).length) AV.undef=(oH hg ce l x c).tT fn.ntmps:=by
  apply List.ext_getElem?
  intro t
  show _=((List.range fn.ntmps).map fun t=>((oH hg ce l x c).get t).bE)[t]?
  rw[List.getElem?_map]
  rcases Nat.lt_or_ge t fn.ntmps with aL | aL
  ·rw[List.getElem?_range aL]
   show _=some (fN (qE hg 0 l x++[(bD 0,_)]) t .u).bE
   rw[rR,gD,if_neg (by unfold bD;omega)]
   show _=some (fN (qE hg 0 l x) t .u).bE
   rw[N6 rfl,if_neg (by omega),Nat.sub_zero]
   rcases Nat.lt_or_ge t (jP hg l x).length with h1 | h1
   ·rw[List.getElem?_append_left h1,List.getD_eq_getElem?_getD,List.getElem?_eq_getElem h1];rfl
   ·rw[List.getElem?_append_right h1,List.getElem?_replicate,if_pos (by omega),List.getD_eq_getElem?_getD,List.getElem?_eq_none h1];rfl
  ·rw[List.getElem?_eq_none (l:=List.range fn.ntmps) (by simpa using aL),List.getElem?_eq_none]
   ·rfl
   ·rw[List.length_append,List.length_replicate,DL];omega
 have aR:((oH hg ce l x c).aJ fn.ntmps).H=[⟨hg,(b6 false ce c).length,[b6 false ce c]⟩]:=by
  show(oH hg ce l x c).gg++gY (oH hg ce l x c)=_
  unfold gY;rw[M9 (by omega)]
  show[((oH hg ce l x c).get (bD 0)).ea]++[]=_
  rw[M8 (by omega) (by unfold bD;omega),if_pos rfl]
  show[Blk.mk hg (gA false ce c).length [cJ (gA false ce c)]]=_
  rw[B_ (vB false ce c),vB]
 show(⟨jP hg l x++_,[],_⟩:St)=⟨(oH hg ce l x c).tT fn.ntmps,[],((oH hg ce l x c).aJ fn.ntmps).H⟩
 rw[cq,aR]
def vQ (P:Program) (n:Nat) (fn:Func) (hg:Nat) (ce:bI) (c':ce.T) (rs:List bI) (r:cX rs) (s:TS):aV:=match s.get (bD 0) with
 | .et g a7=>
  let nc:=ce.mk (oA ce.kF a7)
  let vs:=fn.results.toList.map (OX P n s)
  .eq g hg (.eq (Nat.blt 0 s.bp&&ii s) true (.eq (cJ a7) (b6 false ce nc) (.p (nc=c') (.eq (fun H Q=>qK P ⟨s.tT n,s.cn,H⟩ fn.results.toList Q) (fun _ Q=>Q (cJ vs)) (.eq ((cJ vs).all jX) true (AH (s.gJ 0 s.bp (.et (hg+1) a7)) rs vs r .ht))))))
 | _=> .no
theorem aeF {H:List Blk}: ∀(rs:List bI) (r:cX rs) (l:List AV),aD (sa H) l (lR rs r)→h_ H (r7 l) (kS rs r):=by
 intro rs r l aI
 match rs,r,l with
 | [],_,[]=>exact .inl ⟨[],[],rfl,rfl,aD.nil⟩
 | [],_,_::_=>have:=aI.1;simp[lR] at this
 | [e],r,[]=>have:=aI.1;simp[lR] at this
 | [e],r,[v]=>exact .inr aI.head
 | [e],r,_::_::_=>have:=aI.1;simp[lR] at this
 | e::dP::rs,r,[]=>have:=aI.1;simp[lR] at this
 | e::dP::rs,r,[v]=>have:=aI.1;simp[lR] at this
 | e::dP::rs,r,v::w::l=>exact .inl ⟨_,_,rfl,rfl,aI⟩
theorem Ks [Z:FZ] {P:Program} {n:Nat} {fn:Func} {hg:Nat} {ce:bI} {c':ce.T} {rs:List bI} {r:cX rs} {s:TS} {R:Exit→TS→Prop} (k:Nat) (hk:k=(b6 false ce c').length) (h:(vQ P n fn hg ce c' rs r s).den R):
  s5 P fn (s.aJ n) fun v e3=> ∃B,e3=⟨hg,k,[b6 false ce c']⟩::B∧h_ (⟨hg+1,k,[b6 false ce c']⟩::B) v (kS rs r):=by
 subst hk
 unfold vQ at h
 split at h
 ·rename_i g a7 pn
  obtain⟨h1,h2,aN,be,ci,cK,gC⟩:=h
  subst h1
  rw[Bool.and_eq_true,Nat.blt_eq] at h2
  rw[be] at aN
  have bB: ∀q,TV.ea (.et q a7)=⟨q,(b6 false ce c').length,[b6 false ce c']⟩:=fun q=>by
   show Blk.mk q a7.length [cJ a7]=_
   rw[B_ aN,aN]
  have hb:=qV (n:=n) h2.1
  rw[pn,bB] at hb
  unfold s5
  have VO:qK P (s.aJ n) fn.results.toList=_:=congrFun ci (s.aJ n).H
  rw[congrFun VO]
  refine⟨cK,?_⟩
  obtain⟨nV,_⟩:=D5 (n:=n) gC
  rw[tz h2.1,bB] at nV
  cases aR:(s.aJ n).H with
  | nil=>rw[aR] at hb;cases hb
  | cons x B=>
   rw[aR] at hb nV
   cases hb
   exact⟨B,rfl,aeF rs r _ nV⟩
 ·exact h.elim
def IM {P:Program} (cf:g8 P) (ej:vk P) (fn:Func) (hg:Nat) (ce:bI) (l:List fH) (rs:List bI) (x:cX (fH.es l)) (c c':ce.T) (r:cX rs) (a:lb):aV:=j5 cf ej (some 1) (iw fn) (oH hg ce l x c) a fun ex s _=>match ex with
 | .normal=>vQ P cf.n fn hg ce c' rs r s
 | .ret=>vQ P cf.n fn hg ce c' rs r s
 | _=> .no
theorem iI.run {P:Program} {f:FuncId} {fn:Func} {hg:Nat} {ce:bI} {l:List fH} {rs:List bI} {x:cX (fH.es l)} {c c':ce.T} {r:cX rs} (cf:g8 P) (ej:vk P) (a:lb) {C:Prop} (hf:P.funcs[f]?=some fn) (h:C)
  (e:C=(IM cf ej fn hg ce l rs x c c' r a).nL.den:=by kernel_rfl) (e2:(IM cf ej fn hg ce l rs x c c' r a).lhs=(IM cf ej fn hg ce l rs x c c' r a).rhs:=by kernel_rfl)
  (hb:fn.body=some (iw fn):=by kernel_rfl) (hm:(fn.name== "runtime.NumGoroutine")=false:=by kernel_rfl) (aH:(Nat.beq cf.n fn.ntmps&&Nat.ble cf.n 1000000&&Nat.ble l.length cf.n)=true:=by kernel_rfl):iI P f hg (jP hg l x) (b6 false ce c) (b6 false ce c') (kS rs r):=by
 simp only[Bool.and_eq_true] at aH
 have h1:=Nat.eq_of_beq_eq_true aH.1.1
 have h2:=Nat.le_of_ble_eq_true aH.1.2
 have aN:=Nat.le_of_ble_eq_true aH.2
 refine dz.Gz hf hb hm fun iJ ga=> ?_
 letI Z:FZ:=⟨[],[]⟩
 rw[Y2 (by rw[←h1];exact aN) (by rw[←h1];exact h2),←h1]
 refine R6 h2 (fun k e=>by cases e;rw[ga];exact Nat.le_refl _) (iw fn) (R:=fun _ _=>True) (K:=fun ex s _=>match ex with
  | .normal=>vQ P cf.n fn hg ce c' rs r s
  | .ret=>vQ P cf.n fn hg ce c' rs r s
  | _=> .no) (fun ex s _ Z hs hf=> ?_) Z (@Fits.none Z _ (M9 (by omega))) (aV.full (e▸h) e2)
 have hk:(b6 false ce c).length=(b6 false ce c').length:=by rw[rh,rh]
 cases ex with
 | normal=>exact Ks _ hk hs
 | ret=>exact Ks _ hk hs
 | _=>exact hs.elim
end Go.Proofs.Ytglpfccgmfhkdaa.Fw
