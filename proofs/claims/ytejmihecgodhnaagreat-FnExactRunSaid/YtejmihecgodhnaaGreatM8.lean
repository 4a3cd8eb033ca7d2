/- Walks and summaries of functions, printed by a program of mine (tools/mk2.py), with the proofs of what they owe. -/
import Derived.Test.YtejmihecgodhnaaGreatM7
set_option linter.unusedVariables false
set_option maxRecDepth 100000
set_option maxHeartbeats 4000000
set_option linter.unusedSimpArgs false
namespace Go.Proofs.YtejmihecgodhnaaGreat.Fw
open Go
attribute [local irreducible] evS evSD WpS Weak Oper.looksAt
section
variable (ai:rU Prop) (al:rU Nat) (bb:rV Prop) (a_:rV Nat) (a0:aL) (aa:Frame) (g1:Nat) (ax:(List bL)) (gJ:Int) (aM:List (List Bool)) (g2 g3:Nat) (aD:List Nat) (bH:Int) (ws2:List av)
abbrev zq:=((nth a0.O bH).ao.length:Int)
abbrev qT:=List.replicate (zq a0 bH).toNat false
abbrev iM:=List.replicate a0.ao.toNat false
abbrev Fj:=bm 45 [(2,aJ 2 0),(3,aJ 3 0),(27,bA (dj false) a0.O),(28,ad (a0.O.length:Int)),(29,ad 0)]
abbrev o_:List AV:=[aq false,cu,cu,cu]
abbrev xk:=IntKind.i64.wrap (bH+1)
abbrev aaS:=bm 45 [(29,ad (xk bH)),(43,ad (xk bH)),(2,aJ 2 0),(3,aJ 3 0),(27,bA (dj false) a0.O),(28,ad (a0.O.length:Int))]
abbrev qU:=[(bL.mk 1 1)]
abbrev xj:=ws2++[(av.mk 0 0 (qT a0 bH) false 0)]
abbrev Fg:List AV:=[ad 0,ad 0,ap (aM.length+4) 0 (qT a0 bH).length,aq false,ad 0]
abbrev Qg:List Blk:=(⟨0,1,List.map aR (iM a0)⟩::⟨g1,2,List.map ba ax⟩::⟨(g2+1),5,aW 4 (xj a0 bH ws2) (aD++[aM.length])⟩::⟨(g3+1),5,[(Fg a0 aM bH)]⟩::List.map bj (aM++[(qT a0 bH)]))
abbrev zr:=dj false (nth a0.O bH)
abbrev Qh:List (Nat×List AV):=[(5,(zr a0 bH)),(3,[aq true,ap 0 0 (iM a0).length,ap 1 g1 ax.length,ap 2 (g2+1) (xj a0 bH ws2).length]),(2,o_)]
abbrev zs:List AV:=[aq true,ap 0 0 (iM a0).length,ap 1 g1 ax.length,ap 2 g2 ws2.length]
abbrev Qe:List (Nat×List AV):=[(3,[aq true,ap 0 0 (iM a0).length,ap 1 g1 ax.length,ap 2 0 ([]:List av).length]),(2,o_),(1,(bD false a0))]
abbrev aaN:List Blk:=(⟨0,1,List.map aR (iM a0)⟩::⟨g1,2,List.map ba ax⟩::⟨g2,5,aW 4 ws2 aD⟩::⟨(g3+1),5,[(Fg a0 aM bH)]⟩::List.map bj (aM++[(qT a0 bH)]))
abbrev p3:=[1000003]
abbrev aaO:=bm 45 [(16,ad (a0.a7.length:Int)),(17,ad 0),(3,aJ 3 0),(2,aJ 2 0),(1,aJ 1 0)]
abbrev Ju:List AV:=[aq true,ap 0 0 (iM a0).length,cu,cu]
abbrev aaP:List Blk:=[⟨0,1,List.map aR (iM a0)⟩,⟨g1,2,List.map ba ax⟩,⟨0,5,aW 4 ([]:List av) ([]:List Nat)⟩]
abbrev Qf:List AV:=[aq true,ap 0 0 (iM a0).length,ap 1 g1 ax.length,cu]
abbrev aaQ:=true=true∧true=true∧((aJ 3 3:AV)=aJ 3 3)
abbrev aaR:=true=true∧true=true∧((ap 2 g2 ws2.length:AV)=ap 2 g2 ws2.length)
abbrev Fh:=decide (gJ<(a0.a7.length:Int))
abbrev Fi:=decide (bH<(a0.O.length:Int))
abbrev B5:=IntKind.i64.wrap (gJ+1)
noncomputable def Qd:Code:=jK Tryz.f66
def aop:List Item:=[cz 0,cz 1,cz 2,cz 3,cz 4,⟨5,true,false,[0,1]⟩,cz 6,⟨7,true,false,[0,1]⟩,⟨8,true,false,[]⟩,cz 9,⟨10,true,false,[]⟩]
def aoq:List (List Nat):=[[],[0],[],[2],[2,3],[2,3,4],rg 2 6,rg 2 7,rg 0 8,rg 0 9,rg 0 10]
def P9:Prop:=
  bb g1 ax gJ (aM++[(qT a0 bH)]) (g2+1) (g3+1) (aD++[aM.length]) (xk bH) (xj a0 bH ws2)∧a_ g1 ax gJ (aM++[(qT a0 bH)]) (g2+1) (g3+1) (aD++[aM.length]) (xk bH) (xj a0 bH ws2)<a_ g1 ax gJ aM g2 g3 aD bH ws2
def P_:Prop:=
  ((0≤bH∧bH.toNat<a0.O.length)∧((0≤(zq a0 bH)∧1*(zq a0 bH)≤140737488355328∧(zq a0 bH)≤4611686018427387904)∧(ws2.length=aD.length∧((ws2.length+1)*56≤140737488355328∧ws2.length+1≤4611686018427387904))))∧(P9 bb a_ a0 g1 ax gJ aM g2 g3 aD bH ws2)
def Qa:Prop:=
  ((Fi a0 bH)=false→(true=aa.ok)∧((iM a0).length≤4611686018427387904∧(iM a0)=aa.aE)∧(ax.length≤4611686018427387904∧ax=aa.ay)∧(ll ws2 aD aM∧ws2.length≤4611686018427387904∧(∀x∈aM,List.length x≤4611686018427387904)∧view ws2 aD aM=aa.O))∧((Fi a0 bH)=true→P_ bb a_ a0 g1 ax gJ aM g2 g3 aD bH ws2)
def Qb:Prop:=
  ((Fh a0 gJ)=false→a0.O.length≤4611686018427387904→bb g1 ax gJ ([]:List (List Bool)) 0 0 ([]:List Nat) 0 ([]:List av)∧ ∀(aM:List (List Bool)) (g2:Nat) (g3:Nat) (aD:List Nat) (bH:Int) (ws2:List av),bb g1 ax gJ aM g2 g3 aD bH ws2→(Qa bb a_ a0 aa g1 ax gJ aM g2 g3 aD bH ws2))∧((Fh a0 gJ)=true→((ax.length+qU.length)*16≤140737488355328∧ax.length+qU.length≤4611686018427387904)∧(ai (g1+1) (ax++qU) (B5 gJ)∧al (g1+1) (ax++qU) (B5 gJ)<al g1 ax gJ))
def Qc:Prop:=
  ((!(eD a0))=true→(false=aa.ok)∧([]=aa.aE)∧([]=aa.ay)∧([]=aa.O))∧((!(!(eD a0)))=true→(0≤a0.ao∧1*a0.ao≤140737488355328∧a0.ao≤4611686018427387904)∧(a0.a7.length≤4611686018427387904→ai 0 ([]:List bL) 0∧ ∀(g1:Nat) (ax:(List bL)) (gJ:Int),ai g1 ax gJ→(Qb ai al bb a_ a0 aa g1 ax gJ)))
def P8 (a0:aL) (aa:Frame) (ai:rU Prop) (al:rU Nat) (bb:rV Prop) (a_:rV Nat):Prop:=
 Qc ai al bb a_ a0 aa
theorem aor (a0:aL) (aa:Frame) (ai:rU Prop) (al:rU Nat) (bb:rV Prop) (a_:rV Nat) (h:P8 a0 aa ai al bb a_):bn Tryz.prog 66 [.agg (bD false a0)] (.agg (cq true aa)):=by
 unfold P8 at h
 refine c8.go (fn:=Tryz.f66) [(0,.agg (bD false a0))] Tryz.func66 (fun _ _=> ?_)
 show WpS _ (bQ Qd 1) _ ⟨bm 45 [(0,.agg (bD false a0))],[],[]⟩
 refine sZ p3 0 [(2,aJ 2 0),(1,aJ 1 0)] [2] [] [(2,o_),(1,(bD false a0))] [] ?_
 unfold Qc at h
 obtain⟨mC,h⟩:=h
 refine cw [] [2] ((!(!(eD a0)))=true) ?_ (fun q2=> ?_)
 ·
  replace h:=mC
  refine cw [(8,aq (!(eD a0)))] [2] (True) ?_ (fun q3=> ?_)
  ·
   refine bx p3 1 ?_
   refine o7 2 (some 7) [(6,.agg (bD false a0))] [.agg (bD false a0)] (QN a0) (ah.cons (c6.agg (ah.cons (.int _ _) (ah.cons cJ (ah.cons cJ (ah.cons cJ (ah.cons (.int _ _) ah.nil)))))) ah.nil) ?_
   exact b3 [(8,aq (!(eD a0)))] trivial
  refine dB (fun q4=> ?_) (fun q4=> ?_)
  ·
   replace h:=h q4
   refine et p3 2 [(9,.agg o_)] [] [0,1,1] ?_
   exact hZ (b_.ret (rI (.agg o_) (ie.agg (ah.cons (pe h.1) (ah.cons (ub h.2.1) (ah.cons (ub h.2.2.1) (ah.cons (ub h.2.2.2) ah.nil)))))))
  ·
   refine ew ?_
   exact b_.normal (by simp only[q4]<;>rfl) ei
 replace h:=h q2
 obtain⟨mB,h⟩:=h
 refine fk [(3,aJ 3 0)] [2] (fun L=>(3,(Ju a0))::L) (fun _=>[⟨0,1,List.map aR (iM a0)⟩]) (True) ?_ (fun c0=> ?_)
 ·
  replace h:=mB
  refine bx p3 3 ?_
  have gp:=h
  refine PO 3 (some 12) [(11,ad a0.ao),(10,aJ 1 0)] aR 1 [aq false] 0 (fun r=>[⟨0,1,r⟩]) false gp ?_
  exact b3 [(3,aJ 3 0),(13,.agg (Ju a0))] trivial
 refine ig ?_
 refine cw [(16,ad (a0.a7.length:Int)),(17,ad 0)] [3] (a0.a7.length≤4611686018427387904) ?_ (fun gb=> ?_)
 ·
  refine bx p3 4 ?_
  refine sLen 3 (some 16) [(15,bA cx a0.a7),(14,aJ 1 1)] cx a0.a7 (fun jP=> ?_)
  exact b3 [(17,ad 0)] jP
 replace h:=h gb
 refine fJ 0 ?_
 refine WpS.nQ ?_ (hX (s'':=⟨(aaO a0),[(3,[aq true,ap 0 0 (iM a0).length,ap 1 0 ([]:List bL).length,cu]),(2,o_),(1,(bD false a0))],[⟨0,1,List.map aR (iM a0)⟩,⟨0,2,List.map ba ([]:List bL)⟩]⟩) (Weak.xU (T:=(aaO a0)) (L:=[(3,(Ju a0)),(2,o_),(1,(bD false a0))]) (H:=[⟨0,1,List.map aR (iM a0)⟩]) (cells:=(Ju a0)) 3 2 2 (by kernel_rfl) (by kernel_rfl)) (by kernel_rfl))
 obtain⟨kv,h⟩:=h
 refine ln (fun(v:Nat×(List bL)×Int)=>(⟨(bm 45 [(1,aJ 1 0),(2,aJ 2 0),(3,aJ 3 0),(16,ad (a0.a7.length:Int)),(17,ad (v.2.2))]),[(3,[aq true,ap 0 0 (iM a0).length,ap 1 (v.1) (v.2.1).length,cu]),(2,o_),(1,(bD false a0))],[⟨0,1,List.map aR (iM a0)⟩,⟨(v.1),2,List.map ba (v.2.1)⟩]⟩:St)) (fun(v:Nat×(List bL)×Int)=>ai (v.1) (v.2.1) (v.2.2)) (fun(v:Nat×(List bL)×Int)=>al (v.1) (v.2.1) (v.2.2)) (0,([]:List bL),0) (dw []) kv (fun v aT=> ?_)
 obtain⟨g1,ax,gJ⟩:=v
 replace h:=h g1 ax gJ aT
 dsimp only
 refine et p3 5 [(18,aq (Fh a0 gJ))] [1] [5] ?_
 unfold Qb at h
 obtain⟨mA,h⟩:=h
 refine cw [] [0,1,5] ((Fh a0 gJ)=true) ?_ (fun jz=> ?_)
 ·
  replace h:=mA
  refine dB (fun iL=> ?_) (fun iL=> ?_)
  ·
   refine ew ?_
   exact b_.normal (by simp only[q2,iL]<;>rfl) ei
  ·
   replace h:=h iL
   refine j3 0 ?_
   refine b_.exit ?_
   refine ed.exit ?_
   refine cc.here ?_
   refine ef.normal ?_
   refine ig ?_
   refine k4 ⟨(Fj a0),[(3,(Qf a0 g1 ax)),(2,o_),(1,(bD false a0))],[⟨0,1,List.map aR (iM a0)⟩,⟨g1,2,List.map ba ax⟩]⟩ (a0.O.length≤4611686018427387904) ?_ (fun gj=> ?_)
   ·
    refine bx p3 8 ?_
    refine sLen 3 (some 28) [(27,bA (dj false) a0.O),(26,aJ 1 2)] (dj false) a0.O (fun tM=> ?_)
    exact b3 [(29,ad 0)] tM
   replace h:=h gj
   refine fJ 2 ?_
   refine WpS.nQ ?_ (hX (s'':=⟨(Fj a0),(Qe a0 g1 ax),(aaP a0 g1 ax)⟩) (Weak.xU (T:=(Fj a0)) (L:=[(3,(Qf a0 g1 ax)),(2,o_),(1,(bD false a0))]) (H:=[⟨0,1,List.map aR (iM a0)⟩,⟨g1,2,List.map ba ax⟩]) (cells:=(Qf a0 g1 ax)) 3 3 5 (by kernel_rfl) (by kernel_rfl)) (by kernel_rfl))
   refine WpS.nQ ?_ (hX (s'':=⟨(Fj a0),(Qe a0 g1 ax),(⟨0,1,List.map aR (iM a0)⟩::⟨g1,2,List.map ba ax⟩::⟨0,5,aW 4 ([]:List av) ([]:List Nat)⟩::⟨0,5,[]⟩::List.map bj ([]:List (List Bool)))⟩) (Weak.Bw (T:=(Fj a0)) (L:=(Qe a0 g1 ax)) (H:=(aaP a0 g1 ax)) 5) (by kernel_rfl))
   obtain⟨ob,h⟩:=h
   refine ln (fun(v:List (List Bool)×Nat×Nat×List Nat×Int×List av)=>(⟨(bm 45 [(2,aJ 2 0),(3,aJ 3 0),(27,bA (dj false) a0.O),(28,ad (a0.O.length:Int)),(29,ad (v.2.2.2.2.1))]),[(3,[aq true,ap 0 0 (iM a0).length,ap 1 g1 ax.length,ap 2 (v.2.1) (v.2.2.2.2.2).length]),(2,o_)],(⟨0,1,List.map aR (iM a0)⟩::⟨g1,2,List.map ba ax⟩::⟨(v.2.1),5,aW 4 (v.2.2.2.2.2) (v.2.2.2.1)⟩::⟨(v.2.2.1),5,[]⟩::List.map bj (v.1))⟩:St)) (fun(v:List (List Bool)×Nat×Nat×List Nat×Int×List av)=>bb g1 ax gJ (v.1) (v.2.1) (v.2.2.1) (v.2.2.2.1) (v.2.2.2.2.1) (v.2.2.2.2.2)) (fun(v:List (List Bool)×Nat×Nat×List Nat×Int×List av)=>a_ g1 ax gJ (v.1) (v.2.1) (v.2.2.1) (v.2.2.2.1) (v.2.2.2.2.1) (v.2.2.2.2.2)) (([]:List (List Bool)),0,0,([]:List Nat),0,([]:List av)) (dw [1]) ob (fun v aT=> ?_)
   obtain⟨aM,g2,g3,aD,bH,ws2⟩:=v
   replace h:=h aM g2 g3 aD bH ws2 aT
   dsimp only
   refine et p3 9 [(30,aq (Fi a0 bH))] [1] [5] ?_
   unfold Qa at h
   obtain⟨lM,h⟩:=h
   refine cw [] [0,1,5] ((Fi a0 bH)=true) ?_ (fun ld=> ?_)
   ·
    replace h:=lM
    refine dB (fun io=> ?_) (fun io=> ?_)
    ·
     refine ew ?_
     exact b_.normal (by simp only[q2,iL,io]<;>rfl) ei
    ·
     replace h:=h io
     refine j3 2 ?_
     refine b_.exit ?_
     refine ed.exit ?_
     refine cc.here ?_
     refine ef.normal ?_
     refine k4 ⟨(bm 45 [(2,aJ 2 0)]),[(3,(zs a0 g1 ax g2 ws2)),(2,(zs a0 g1 ax g2 ws2))],(⟨0,1,List.map aR (iM a0)⟩::⟨g1,2,List.map ba ax⟩::⟨g2,5,aW 4 ws2 aD⟩::⟨g3,5,[]⟩::List.map bj aM)⟩ (True) ?_ (fun nF=> ?_)
     ·
      refine bx p3 13 ?_
      exact b3 [(44,.agg (zs a0 g1 ax g2 ws2))] trivial
     exact hZ (rI (.agg (zs a0 g1 ax g2 ws2)) (ie.agg (ah.cons (pe h.1) (ah.cons (p_ (sz:=1) (by simp) rfl (vU) h.2.1) (ah.cons (p_ (sz:=2) (by simp) rfl (x0) h.2.2.1) (ah.cons (Cs (s:=4) (ws:=ws2) (ids:=aD) (bs:=aM) (by simp) rfl (fun id k h=>by simpa using h) h.2.2.2) ah.nil))))))
   replace h:=h ld
   unfold P_ at h
   obtain⟨jh,h⟩:=h
   refine fk [] [5] (fun L=>(5,(zr a0 bH))::iz 0 3 (ap 2 (g2+1) (xj a0 bH ws2).length) L) (fun _=>(Qg a0 g1 ax aM g2 g3 aD bH ws2)) (True) ?_ (fun h8=> ?_)
   ·
    replace h:=jh
    refine fJ 3 ?_
    obtain⟨jB,h⟩:=h
    refine fk [(5,aJ 5 0)] [5] (fun L=>(5,(zr a0 bH))::L) id (True) ?_ (fun jA=> ?_)
    ·
     replace h:=jB
     refine bx p3 10 ?_
     have lL:=h
     refine mF 1 (some 31) [] (dj false) a0.O 5 lL ?_
     exact b3 [(5,aJ 5 0),(32,.agg (zr a0 bH))] trivial
    refine o5 p3 11 aop aoq [] ?_
    refine RQ 5 (some 37) [(36,bA cx (nth a0.O bH).ao),(35,aJ 5 0),(34,ap 2 g2 ws2.length),(33,aJ 3 3)] cx (nth a0.O bH).ao ?_
    obtain⟨hH,h⟩:=h
    refine ap1 1 (some 38) [] 1 [aq false] (fun r=>sb Tryz.prog (j_ Qd 16025) [0,1] [(37,ad (zq a0 bH)),(36,bA cx (nth a0.O bH).ao),(35,aJ 5 0),(34,ap 2 g2 ws2.length),(33,aJ 3 3),(5,aJ 5 0),(2,aJ 2 0),(3,aJ 3 0),(27,bA (dj false) a0.O),(28,ad (a0.O.length:Int)),(29,ad bH)] [(5,(zr a0 bH)),(3,(zs a0 g1 ax g2 ws2)),(2,o_)] r) (aM.length+4) (⟨0,1,List.map aR (iM a0)⟩::⟨g1,2,List.map ba ax⟩::⟨g2,5,aW 4 ws2 aD⟩::⟨g3,5,[]⟩::List.map bj (aM++[(qT a0 bH)])) hH (by simp) (by simp only[List.cons_append,uF]) (wW (ψ:=(aaQ∧((aaR g2 ws2)∧True))) (by kernel_rfl) ⟨⟨rfl,rfl,rfl⟩,⟨⟨rfl,rfl,rfl⟩,trivial⟩⟩) ?_
    refine FE 2 [(40,.ref 3 (g3+1) 0 1 true),(39,.agg (Fg a0 aM bH))] [(5,(zr a0 bH)),(3,(zs a0 g1 ax g2 ws2)),(2,o_)] (aaN a0 g1 ax aM g2 g3 aD bH ws2) (φ:=sb Tryz.prog (j_ Qd 16025) [0,1] [(39,.agg (Fg a0 aM bH)),(38,ap (aM.length+4) 0 (qT a0 bH).length),(37,ad (zq a0 bH)),(36,bA cx (nth a0.O bH).ao),(35,aJ 5 0),(34,ap 2 g2 ws2.length),(33,aJ 3 3),(5,aJ 5 0),(2,aJ 2 0),(3,aJ 3 0),(27,bA (dj false) a0.O),(28,ad (a0.O.length:Int)),(29,ad bH)] [(5,(zr a0 bH)),(3,(zs a0 g1 ax g2 ws2)),(2,o_)] (aaN a0 g1 ax aM g2 g3 aD bH ws2)) (wW (ψ:=(aaQ∧((aaR g2 ws2)∧True))) (by kernel_rfl) ⟨⟨rfl,rfl,rfl⟩,⟨⟨rfl,rfl,rfl⟩,trivial⟩⟩) ?_
    have jg:=h
    refine acm 1 (some 41) [] 4 2 g2 (g3+1) 56 ws2 aD (av.mk 0 0 (qT a0 bH) false 0) aM.length (fun _=>True) (fun r=>(⟨0,1,List.map aR (iM a0)⟩::⟨g1,2,List.map ba ax⟩::⟨(g2+1),5,r⟩::⟨(g3+1),5,[(Fg a0 aM bH)]⟩::List.map bj (aM++[(qT a0 bH)]))) jg.1 jg.2 trivial ?_
    refine FE 2 [(42,aJ 3 3)] (Qh a0 g1 ax g2 bH ws2) (Qg a0 g1 ax aM g2 g3 aD bH ws2) (φ:=True) trivial ?_
    refine Cy [] ?_
    refine cc.normal ?_
    exact b_.normal trivial ei
   unfold P9 at h
   refine bx p3 12 ?_
   refine d_ [(29,ad (xk bH)),(43,ad (xk bH))] ?_
   exact ed.again ((aM++[(qT a0 bH)]),(g2+1),(g3+1),(aD++[aM.length]),(xk bH),(xj a0 bH ws2)) h ((Weak.clear 3 rfl:Weak ⟨(aaS a0 bH),(Qh a0 g1 ax g2 bH ws2),(Qg a0 g1 ax aM g2 g3 aD bH ws2)⟩ ⟨(aaS a0 bH),(Qh a0 g1 ax g2 bH ws2),(⟨0,1,List.map aR (iM a0)⟩::⟨g1,2,List.map ba ax⟩::⟨(g2+1),5,aW 4 (xj a0 bH ws2) (aD++[aM.length])⟩::⟨(g3+1),5,[]⟩::List.map bj (aM++[(qT a0 bH)]))⟩).trans (dw [5]))
 replace h:=h jz
 obtain⟨ku,h⟩:=h
 refine fk [] [5] (fun L=>iz 0 2 (ap 1 (g1+1) (ax++qU).length) L) (fun H=>eG 1 ⟨(g1+1),2,List.map ba (ax++qU)⟩ H) (True) ?_ (fun pW=> ?_)
 ·
  replace h:=ku
  refine fJ 1 ?_
  refine bx p3 6 ?_
  have o0:=h
  refine aai 5 (some 23) [(22,.aP (List.map ba qU) true true),(21,.agg [ad 1,ad 1]),(20,ap 1 g1 ax.length),(19,aJ 3 2)] ba ax qU (m9 true (List.map ba qU)) 1 g1 2 16 (fun r=>[⟨0,1,List.map aR (iM a0)⟩,⟨(g1+1),2,r⟩]) rfl o0 ?_
  refine Jm [(24,aJ 3 2)] [(3,[aq true,ap 0 0 (iM a0).length,ap 1 (g1+1) (ax++qU).length,cu]),(2,o_),(1,(bD false a0))] [⟨0,1,List.map aR (iM a0)⟩,⟨(g1+1),2,List.map ba (ax++qU)⟩] ?_
  refine cc.normal ?_
  exact b_.normal trivial ei
 refine bx p3 7 ?_
 refine d_ [(17,ad (B5 gJ)),(25,ad (B5 gJ))] ?_
 exact ed.again ((g1+1),(ax++qU),(B5 gJ)) h (dw [])
theorem aon:bn Tryz.prog 66 [.agg (bD false a0)] (.agg (cq true (cA a0))):=aor a0 (cA a0) (fun _ x v=>cr a0.a7.length (fun _=>false) v∧x=List.replicate v.toNat (bL.mk 1 1)) (fun _ _ v=>cM a0.a7.length v) (fun _ x _ bs _ _ is v ws=>x=List.replicate a0.a7.length (bL.mk 1 1)∧cr a0.O.length (fun _=>false) v∧ws=(a0.O.take v.toNat).map (fun w=>hR w.ao.length)∧is=List.range ws.length∧bs=ws.map av.ae) (fun _ _ _ _ _ _ _ v _=>cM a0.O.length v) (by
 unfold P8 Qc
 refine⟨fun h=> ?_,fun h=> ?_⟩
 ·have h:eD a0=false:=by simpa using h
  unfold cA;rw[if_neg (by rw[h];simp)];exact⟨rfl,rfl,rfl,rfl⟩
 have h:eD a0=true:=by simpa using h
 have bZ:=w3 h
 have h1:=bZ.cY
 have h2:=bZ.bh
 have aC:=bZ.O
 have e:cA a0=⟨true,List.replicate a0.ao.toNat false,List.replicate a0.a7.length ⟨1,1⟩,a0.O.map fun w=>hR w.ao.length⟩:=by unfold cA;rw[if_pos h]
 rw[e]
 refine⟨⟨by omega,by omega,by omega⟩,fun ag=>⟨⟨dA (dp _),rfl⟩,fun g x v aT=> ?_⟩⟩
 obtain⟨aT,rfl⟩:=aT
 have A0:=aT.2.1
 unfold Qb B5 Fh qU
 refine⟨fun hv hm=>⟨⟨?_,dA (dp _),rfl,rfl,rfl⟩,fun bs g2 g3 is k ws dq=> ?_⟩,fun hv=>⟨⟨?_,?_⟩,⟨(da (cO ag) aT hv rfl).1,?_⟩,(da (cO ag) aT hv rfl).2⟩⟩
 ·have: ¬v<(a0.a7.length:Int):=by simpa using hv
  rw[show v.toNat=a0.a7.length by omega]
 ·obtain⟨hx,dq,rfl,rfl,rfl⟩:=dq
  have ti:=dq.2.1
  have wm:=dq.1
  have au:((a0.O.take k.toNat).map fun w=>hR w.ao.length).length=k.toNat:=by rw[List.length_map,List.length_take];omega
  obtain⟨c5,dP,eJ⟩:=x5 ((a0.O.take k.toNat).map fun w=>hR w.ao.length)
  have Vx:(decide (k<(a0.O.length:Int)))=true→1*((nth a0.O k).ao.length:Int)≤140737488355328:=fun hk=>by
   have:=(bZ.ao _ (dT (cC dq hk).2)).2.1;omega
  unfold Qa P_ P9 Fi xj xk iM qT zq
  refine⟨fun hk=>⟨rfl,⟨by rw[List.length_replicate];omega,rfl⟩,⟨by rw[List.length_replicate];omega,hx⟩,c5,by omega,fun b hb=> ?_,?_⟩,fun hk=>⟨⟨⟨wm,(cC dq hk).2⟩,⟨by omega,Vx hk,by have:=Vx hk;omega⟩,by rw[List.length_range],by omega,by omega⟩,⟨hx,(da (cO hm) dq hk rfl).1,?_,?_,?_⟩,(da (cO hm) dq hk rfl).2⟩⟩
  ·obtain⟨y,aU,rfl⟩:=List.mem_map.1 hb
   obtain⟨w,hw,rfl⟩:=List.mem_map.1 aU
   have:=(bZ.ao w (List.mem_of_mem_take hw)).2.1
   simp[hR];omega
  ·rw[eJ]
   have: ¬k<(a0.O.length:Int):=by simpa using hk
   rw[List.take_of_length_le (by omega)]
  ·have ck:=cC dq hk
   rw[kH (cO hm) wm (by simpa using hk),show(k+1).toNat=k.toNat+1 by omega,List.take_succ_eq_append_getElem ck.2,←gX ck.2,List.map_append];rfl
  ·rw[List.length_append,List.length_singleton,List.range_succ,List.length_map]
   simp
  ·rw[List.map_append];rfl
 ·rw[List.length_replicate,List.length_singleton];omega
 ·rw[List.length_replicate,List.length_singleton];omega
 ·rw[kH (cO ag) aT.1 (by simpa using hv),show(v+1).toNat=v.toNat+1 by have:=aT.1;omega,List.replicate_succ'])
def aoo:dJ Tryz.prog:=⟨66,[.eO],[.frame],none,fun x=>((cA x.1),()),fun x h=>aon x.1⟩
end
section
abbrev CO (r:Type):Type:=(List bL)→Int→(List bL)→Int→r
variable (ai:(List bL)→Int→Prop) (al:(List bL)→Int→Nat) (bb:CO Prop) (a_:CO Nat) (a0:aL) (a2:Int) (hk:Bool) (aj:List Bool) (U:List bL) (hw:List av) (hi:List Nat) (hb:List (List Bool)) (bC:(List bL)) (c4 bH:Int) (fG:(List bL)) (az:Nat)
abbrev mJ:=[(nth a0.O a2).bI,(nth a0.O a2).cR]
abbrev sG:=hw.set a2.toNat (av.mk 1 (nth hw a2).bc (nth hw a2).ae (nth hw a2).bW (nth hw a2).bU)
abbrev Rj:List Blk:=(⟨az,4,[[aq hk,ap 1 0 aj.length,ap 2 0 U.length,ap 3 0 hw.length]]⟩::⟨0,1,List.map aR aj⟩::⟨0,2,List.map ba U⟩::⟨0,5,aW 4 hw hi⟩::List.map bj hb)
abbrev zw:=IntKind.i64.wrap (c4+1)
abbrev zx:=hq dd false
abbrev Cp:=IntKind.i64.wrap (bH+1)
abbrev mK:=nth (mJ a0 a2) bH
abbrev oj:=nth (mK a0 a2 bH) c4
abbrev xt:=fG.set (oj a0 a2 c4 bH).bh.toNat (bL.mk (oj a0 a2 c4 bH).bi (nth fG (oj a0 a2 c4 bH).bh).bI)
abbrev Rk:List (Nat×AV):=[(1,.ptr 0 az 0 0),(27,.aP (List.map zx (mJ a0 a2)) true false),(28,ad ((mJ a0 a2).length:Int)),(29,ad bH),(33,bA dd (mK a0 a2 bH)),(34,ad ((mK a0 a2 bH).length:Int)),(35,ad (zw c4))]
abbrev Fv:=decide (c4<((mK a0 a2 bH).length:Int))
abbrev Fu:=decide (bH<((mJ a0 a2).length:Int))
noncomputable def apg:Code:=jK Tryz.f79
def aph:List Item:=[cz 0,cz 1,cz 2,cz 3,cz 4,cz 5,cz 6,cz 7,cz 8,cz 9,⟨10,true,false,[]⟩]
def api:List (List Nat):=[[],[0],[0,1],[0,1,2],[],[4],[],[6],rg 0 8,rg 0 9,rg 0 10]
def Rg:Prop:=
  bb bC bH (xt a0 a2 c4 bH fG) (zw c4)∧a_ bC bH (xt a0 a2 c4 bH fG) (zw c4)<a_ bC bH fG c4
def Rh:Prop:=
  ((Fv a0 a2 c4 bH)=false→ai fG (Cp bH)∧al fG (Cp bH)<al bC bH)∧((Fv a0 a2 c4 bH)=true→((0≤c4∧c4.toNat<(mK a0 a2 bH).length)∧(0≤(oj a0 a2 c4 bH).bh∧(oj a0 a2 c4 bH).bh.toNat<fG.length))∧(Rg bb a_ a0 a2 bC c4 bH fG))
def Ri:Prop:=
  ((Fu a0 a2 bH)=false→IB a0 a2 hk aj U hw hi hb aj bC (sG a2 hw) hi hb)∧((Fu a0 a2 bH)=true→(0≤bH∧bH.toNat<(mJ a0 a2).length)∧((mK a0 a2 bH).length≤4611686018427387904→bb bC bH bC 0∧ ∀(fG:(List bL)) (c4:Int),bb bC bH fG c4→(Rh ai al bb a_ a0 a2 bC c4 bH fG)))
def Rf (a0:aL) (a2:Int) (az:Nat) (hk:Bool) (aj:List Bool) (U:List bL) (hw:List av) (hi:List Nat) (hb:List (List Bool)) (ai:(List bL)→Int→Prop) (al:(List bL)→Int→Nat) (bb:CO Prop) (a_:CO Nat):Prop:=
 (0≤a2∧a2.toNat<a0.O.length)∧(((0≤a2∧a2.toNat<hw.length)∧(hw.length=hi.length∧a2.toNat<hw.length))∧((mJ a0 a2).length≤4611686018427387904→ai U 0∧ ∀(bC:(List bL)) (bH:Int),ai bC bH→(Ri ai al bb a_ a0 a2 hk aj U hw hi hb bC bH)))
theorem apj (a0:aL) (a2:Int) (az:Nat) (hk:Bool) (aj:List Bool) (U:List bL) (hw:List av) (hi:List Nat) (hb:List (List Bool)) (ai:(List bL)→Int→Prop) (al:(List bL)→Int→Nat) (bb:CO Prop) (a_:CO Nat) (h:Rf a0 a2 az hk aj U hw hi hb ai al bb a_):c8 Tryz.prog 79 [.agg (bD false a0),.ptr 0 az 0 0,ad a2] (Rj hk aj U hw hi hb az) (fun r H'=> ∃(yr:List bL) (e3:List av),r= .tup []∧H'=(⟨az,4,[[aq hk,ap 1 0 aj.length,ap 2 0 yr.length,ap 3 0 e3.length]]⟩::⟨0,1,List.map aR aj⟩::⟨0,2,List.map ba yr⟩::⟨0,5,aW 4 e3 hi⟩::List.map bj hb)∧IB a0 a2 hk aj U hw hi hb aj yr e3 hi hb):=by
 unfold Rf at h
 refine c8.go (fn:=Tryz.f79) [(0,.agg (bD false a0)),(1,.ptr 0 az 0 0),(2,ad a2)] Tryz.func79 (fun _ _=> ?_)
 show WpS _ (bQ apg 1) _ ⟨bm 51 [(0,.agg (bD false a0)),(1,.ptr 0 az 0 0),(2,ad a2)],[],(Rj hk aj U hw hi hb az)⟩
 refine vW [] 0 [(3,aJ 3 0)] [1] [0,1,2] (fun L=>(3,(bD false a0))::L) id ?_
 obtain⟨pW,h⟩:=h
 refine fk [(6,aJ 6 0)] [0,1,2] (fun L=>(6,(dj false (nth a0.O a2)))::L) id (True) ?_ (fun q2=> ?_)
 ·
  replace h:=pW
  refine bx [] 1 ?_
  have q3:=h
  refine mF 4 (some 14) [(13,ad a2),(12,bA (dj false) a0.O),(11,aJ 3 2)] (dj false) a0.O 5 q3 ?_
  exact b3 [(6,aJ 6 0),(15,.agg (dj false (nth a0.O a2)))] trivial
 obtain⟨ob,h⟩:=h
 refine fk [] [2] id (fun H=>eG 3 ⟨0,5,aW 4 (sG a2 hw) hi⟩ H) (True) ?_ (fun q4=> ?_)
 ·
  replace h:=ob
  refine bx [] 2 ?_
  refine pZ 4 (some 19) (ap 3 0 hw.length) [(18,.ptr 0 az 0 3),(17,.ptr 0 az 0 0),(16,.ptr 0 az 0 0)] (φ:=az=az) rfl ?_
  obtain⟨aqK,h⟩:=h
  refine m_ 2 (some 21) [(20,ad a2)] 3 0 5 aqK ?_
  have cQ:=h
  refine lf 2 none [(22,.ptr 3 0 (0+a2.toNat) 0)] (aW 4 hw hi) a2 0 1 0 [ad 1] 3 (aW 4 (sG a2 hw) hi) (dM cQ.1 cQ.2) (lu cQ.1 cQ.2) ?_
  exact b3 [] trivial
 refine cw [(27,.aP (List.map zx (mJ a0 a2)) true false),(28,ad ((mJ a0 a2).length:Int)),(29,ad 0)] [0,1,1] ((mJ a0 a2).length≤4611686018427387904) ?_ (fun c0=> ?_)
 ·
  refine bx [] 3 ?_
  refine sLen 6 (some 28) [(27,.aP (List.map zx (mJ a0 a2)) true false),(26,bA dd (nth a0.O a2).cR),(25,aJ 6 2),(24,bA dd (nth a0.O a2).bI),(23,aJ 6 1)] zx (mJ a0 a2) (fun gp=> ?_)
  exact b3 [(29,ad 0)] gp
 replace h:=h c0
 refine fJ 0 ?_
 obtain⟨lM,h⟩:=h
 refine ln (fun(v:(List bL)×Int)=>(⟨(bm 51 [(1,.ptr 0 az 0 0),(27,.aP (List.map zx (mJ a0 a2)) true false),(28,ad ((mJ a0 a2).length:Int)),(29,ad (v.2))]),[],(⟨az,4,[[aq hk,ap 1 0 aj.length,ap 2 0 (v.1).length,ap 3 0 hw.length]]⟩::⟨0,1,List.map aR aj⟩::⟨0,2,List.map ba (v.1)⟩::⟨0,5,aW 4 (sG a2 hw) hi⟩::List.map bj hb)⟩:St)) (fun(v:(List bL)×Int)=>ai (v.1) (v.2)) (fun(v:(List bL)×Int)=>al (v.1) (v.2)) (U,0) (dw [6,3]) lM (fun v aT=> ?_)
 obtain⟨bC,bH⟩:=v
 replace h:=h bC bH aT
 dsimp only
 refine et [] 4 [(30,aq (Fu a0 a2 bH))] [1] [4] ?_
 unfold Ri at h
 obtain⟨jh,h⟩:=h
 refine cw [] [0,1,4] ((Fu a0 a2 bH)=true) ?_ (fun jP=> ?_)
 ·
  replace h:=jh
  refine dB (fun hy=> ?_) (fun hy=> ?_)
  ·
   refine ew ?_
   exact b_.normal (by simp only[hy]<;>rfl) ei
  ·
   replace h:=h hy
   refine j3 0 ?_
   refine b_.exit ?_
   refine ed.exit ?_
   refine cc.here ?_
   refine GY (t0) [] ?_
   exact⟨bC,(sG a2 hw),rfl,(by rw[show hw.length=(sG a2 hw).length by simp]<;>rfl),h⟩
 replace h:=h jP
 refine ig ?_
 refine fJ 1 ?_
 obtain⟨jB,h⟩:=h
 refine cw [(8,bA dd (mK a0 a2 bH))] [4] (True) ?_ (fun jz=> ?_)
 ·
  replace h:=jB
  refine bx [] 5 ?_
  have iL:=h
  refine mF 1 (some 31) [] zx (mJ a0 a2) 1 iL ?_
  exact b3 [(8,bA dd (mK a0 a2 bH)),(32,bA dd (mK a0 a2 bH))] trivial
 refine cw [(33,bA dd (mK a0 a2 bH)),(34,ad ((mK a0 a2 bH).length:Int)),(35,ad 0)] [0,1,4] ((mK a0 a2 bH).length≤4611686018427387904) ?_ (fun gj=> ?_)
 ·
  refine bx [] 6 ?_
  refine sLen 2 (some 34) [(33,bA dd (mK a0 a2 bH))] dd (mK a0 a2 bH) (fun tM=> ?_)
  exact b3 [(35,ad 0)] tM
 replace h:=h gj
 refine fJ 2 ?_
 obtain⟨hH,h⟩:=h
 refine ln (fun(v:(List bL)×Int)=>(⟨(bm 51 [(1,.ptr 0 az 0 0),(27,.aP (List.map zx (mJ a0 a2)) true false),(28,ad ((mJ a0 a2).length:Int)),(29,ad bH),(33,bA dd (mK a0 a2 bH)),(34,ad ((mK a0 a2 bH).length:Int)),(35,ad (v.2))]),[],(⟨az,4,[[aq hk,ap 1 0 aj.length,ap 2 0 (v.1).length,ap 3 0 hw.length]]⟩::⟨0,1,List.map aR aj⟩::⟨0,2,List.map ba (v.1)⟩::⟨0,5,aW 4 (sG a2 hw) hi⟩::List.map bj hb)⟩:St)) (fun(v:(List bL)×Int)=>bb bC bH (v.1) (v.2)) (fun(v:(List bL)×Int)=>a_ bC bH (v.1) (v.2)) (bC,0) (dw []) hH (fun v aT=> ?_)
 obtain⟨fG,c4⟩:=v
 replace h:=h fG c4 aT
 dsimp only
 refine et [] 7 [(36,aq (Fv a0 a2 c4 bH))] [1] [7] ?_
 unfold Rh at h
 obtain⟨jg,h⟩:=h
 refine cw [] [0,1,7] ((Fv a0 a2 c4 bH)=true) ?_ (fun ld=> ?_)
 ·
  replace h:=jg
  refine dB (fun io=> ?_) (fun io=> ?_)
  ·
   refine ew ?_
   exact b_.normal (by simp only[jP,io]<;>rfl) ei
  ·
   replace h:=h io
   refine j3 2 ?_
   refine b_.exit ?_
   refine ed.exit ?_
   refine cc.here ?_
   refine cc.normal ?_
   refine ef.normal ?_
   refine bx [] 11 ?_
   refine d_ [(29,ad (Cp bH)),(50,ad (Cp bH))] ?_
   exact ed.again (fG,(Cp bH)) h (dw [])
 replace h:=h ld
 obtain⟨kZ,h⟩:=h
 refine fk [] [7] (fun L=>(10,(dd (oj a0 a2 c4 bH)))::L) (fun H=>eG 2 ⟨0,2,List.map ba (xt a0 a2 c4 bH fG)⟩ H) (True) ?_ (fun nF=> ?_)
 ·
  replace h:=kZ
  refine fJ 3 ?_
  obtain⟨lL,h⟩:=h
  refine fk [(10,aJ 10 0)] [7] (fun L=>(10,(dd (oj a0 a2 c4 bH)))::L) id (True) ?_ (fun h8=> ?_)
  ·
   replace h:=lL
   refine bx [] 8 ?_
   have jA:=h
   refine mF 1 (some 37) [] dd (mK a0 a2 bH) 2 jA ?_
   exact b3 [(10,aJ 10 0),(38,.agg (dd (oj a0 a2 c4 bH)))] trivial
  refine o5 [] 9 aph api [] ?_
  refine JR 4 (some 42) (ap 2 0 fG.length) [(41,.ptr 0 az 0 2),(40,.ptr 0 az 0 0),(39,.ptr 0 az 0 0)] (φ:=az=az) rfl ?_
  have acY:=h
  refine zD 5 (some 47) [(46,ad (oj a0 a2 c4 bH).bi),(45,aJ 10 1),(44,ad (oj a0 a2 c4 bH).bh),(43,aJ 10 0)] 2 0 2 acY ?_
  refine ap2 2 none [(48,.ptr 2 0 (0+(oj a0 a2 c4 bH).bh.toNat) 0)] ba fG (oj a0 a2 c4 bH).bh 0 1 0 [ad (oj a0 a2 c4 bH).bi] (fun _=>True) (fun r=>(⟨az,4,[[aq hk,ap 1 0 aj.length,ap 2 0 fG.length,ap 3 0 hw.length]]⟩::⟨0,1,List.map aR aj⟩::⟨0,2,r⟩::⟨0,5,aW 4 (sG a2 hw) hi⟩::List.map bj hb)) (bL.mk (oj a0 a2 c4 bH).bi (nth fG (oj a0 a2 c4 bH).bh).bI) (by simpa using acY.2) trivial ?_
  refine Cy [] ?_
  refine cc.normal ?_
  exact b_.normal trivial ei
 unfold Rg at h
 refine bx [] 10 ?_
 refine d_ [(35,ad (zw c4)),(49,ad (zw c4))] ?_
 exact ed.again ((xt a0 a2 c4 bH fG),(zw c4)) h (hX (s':=⟨(bm 51 (Rk a0 a2 c4 bH az)),[],(⟨az,4,[[aq hk,ap 1 0 aj.length,ap 2 0 fG.length,ap 3 0 hw.length]]⟩::⟨0,1,List.map aR aj⟩::⟨0,2,List.map ba (xt a0 a2 c4 bH fG)⟩::⟨0,5,aW 4 (sG a2 hw) hi⟩::List.map bj hb)⟩) (dw (n:=51) (A':=(Rk a0 a2 c4 bH az)) (L':=[]) [10]) (congrArg (fun z=>(⟨(bm 51 (Rk a0 a2 c4 bH az)),[],(⟨az,4,[[aq hk,ap 1 0 aj.length,ap 2 0 z,ap 3 0 hw.length]]⟩::⟨0,1,List.map aR aj⟩::⟨0,2,List.map ba (xt a0 a2 c4 bH fG)⟩::⟨0,5,aW 4 (sG a2 hw) hi⟩::List.map bj hb)⟩:St)) (show fG.length=(xt a0 a2 c4 bH fG).length by simp)))
theorem apf (a0:aL) (a2:Int) (az:Nat) (hk:Bool) (aj:List Bool) (U:List bL) (hw:List av) (hi:List Nat) (hb:List (List Bool)) (ab:Xi a0 a2 hk aj U hw hi hb):c8 Tryz.prog 79 [.agg (bD false a0),.ptr 0 az 0 0,ad a2] (Rj hk aj U hw hi hb az) (fun r H'=> ∃(yr:List bL) (e3:List av),r= .tup []∧H'=(⟨az,4,[[aq hk,ap 1 0 aj.length,ap 2 0 yr.length,ap 3 0 e3.length]]⟩::⟨0,1,List.map aR aj⟩::⟨0,2,List.map ba yr⟩::⟨0,5,aW 4 e3 hi⟩::List.map bj hb)∧IB a0 a2 hk aj U hw hi hb aj yr e3 hi hb):=apj a0 a2 az hk aj U hw hi hb (fun x v=>cr ((l9 (nth a0.O a2)).length:Int) (fun _=>false) v∧x=k1 ((l9 (nth a0.O a2)).take v.toNat).flatten U) (fun _ v=>cM ((l9 (nth a0.O a2)).length:Int) v) (fun x v y k=>cr ((nth (l9 (nth a0.O a2)) v).length:Int) (fun _=>false) k∧y=k1 ((nth (l9 (nth a0.O a2)) v).take k.toNat) x) (fun _ v _ k=>cM ((nth (l9 (nth a0.O a2)) v).length:Int) k) (by
 unfold Rf mJ
 obtain⟨G,bZ,t0,t1,t2,aii⟩:=ab
 have aQ:a2.toNat<hw.length:=by omega
 have kk:a2.toNat<a0.O.length:=by omega
 have bB:=bZ.bI _ (dT kk)
 have AY:=bZ.bh
 have cV:=G.uz aQ
 have dt:=cV.setState 1
 refine⟨⟨t0,kk⟩,⟨⟨t0,aQ⟩,cV.fY⟩,fun ag=>⟨⟨dA (dp _),rfl⟩,fun x v aT=> ?_⟩⟩
 obtain⟨aT,rfl⟩:=aT
 unfold Ri Fu mK sG mJ
 refine⟨fun hv=> ?_,fun hv=>⟨cC aT hv,fun hm=>⟨⟨dA (dp _),rfl⟩,fun y k dq=> ?_⟩⟩⟩
 ·have lC: ¬v<((l9 (nth a0.O a2)).length:Int):=by simpa[l9] using hv
  have h1:=aT.2.1
  refine⟨?_,dt.G,dt.ib⟩
  rw[List.take_of_length_le (by omega),acs]
 ·obtain⟨dq,rfl⟩:=dq
  have ck:=cC aT hv
  unfold Rh Rg Fv xt oj mK Cp zw mJ
  refine⟨fun hk=>⟨⟨(da (cO ag) aT hv rfl).1,?_⟩,(da (cO ag) aT hv rfl).2⟩,fun hk=>⟨⟨cC dq hk,?_⟩,⟨(da (cO hm) dq hk rfl).1,?_⟩,(da (cO hm) dq hk rfl).2⟩⟩
  ·have lx: ¬k<((nth (l9 (nth a0.O a2)) v).length:Int):=of_decide_eq_false hk
   have h1:=dq.2.1
   rw[kH (cO ag) ck.1 (by simpa using hv),show(v+1).toNat=v.toNat+1 by omega,ap8 ck.2,List.take_of_length_le (by omega),gX ck.2]
  ·have hx:=bB.2.2 _ (ap9 ck.2 (dT (cC dq hk).2))
   have e:(k1 (List.take k.toNat (nth (l9 (nth a0.O a2)) v)) (k1 (List.take v.toNat (l9 (nth a0.O a2))).flatten U)).length=U.length:=by rw[Fc,Fc]
   exact⟨hx.1,by rw[e];have:=hx.2;show(nth (nth (l9 (nth a0.O a2)) v) k).bh.toNat<_;omega⟩
  ·have ti:=cC dq hk
   rw[kH (cO hm) dq.1 (by simpa using hk),show(k+1).toNat=k.toNat+1 by omega,aat ti.2,←gX ti.2]
   rfl)
end
section
variable (ai:Int→Prop) (al:Int→Nat) (a0:aL) (a2:Int) (hk:Bool) (aj:List Bool) (U:List bL) (hw:List av) (hi:List Nat) (hb:List (List Bool)) (c4:Int) (az:Nat)
abbrev sF:=hw.set a2.toNat (av.mk 3 (nth hw a2).bc (nth hw a2).ae (nth hw a2).bW (nth hw a2).bU)
abbrev Jy:List Blk:=(⟨az,4,[[aq hk,ap 1 0 aj.length,ap 2 0 U.length,ap 3 0 hw.length]]⟩::⟨0,1,List.map aR aj⟩::⟨0,2,List.map ba U⟩::⟨0,5,aW 4 hw hi⟩::List.map bj hb)
abbrev jS:=(nth a0.O a2).ek
abbrev rM:=((nth hw a2).aF !=1)&&((nth hw a2).aF !=2)
abbrev l7:=0+a2.toNat
abbrev Ci:=IntKind.i64.wrap (c4+1)
abbrev Cj:=(sF a2 hw).set a2.toNat (av.mk (nth (sF a2 hw) a2).aF (nth (sF a2 hw) a2).bc (nth (sF a2 hw) a2).ae (nth (sF a2 hw) a2).bW a0.cB)
abbrev qW:=(nth aj (nth (jS a0 a2) c4))&&(nth hw a2).bW
abbrev Fq:=decide (c4<((jS a0 a2).length:Int))
noncomputable def aoV:Code:=jK Tryz.f80
def QQ:Prop:=
  yT a0 a2 hk aj U hw hi hb aj U (Cj a0 a2 hw) hi hb 0
def QR:Prop:=
  (qW a0 a2 aj hw c4)=true→(hw.length=hi.length∧a2.toNat<hw.length)∧(((sF a2 hw).length=hi.length∧a2.toNat<(sF a2 hw).length)∧(QQ a0 a2 hk aj U hw hi hb))
def QS:Prop:=
  ((0≤c4∧c4.toNat<(jS a0 a2).length)∧(((0≤(nth (jS a0 a2) c4)∧(nth (jS a0 a2) c4).toNat<aj.length)∧((nth aj (nth (jS a0 a2) c4))=true→hw.length=hi.length∧a2.toNat<hw.length))∧(QR a0 a2 hk aj U hw hi hb c4)))∧((!(qW a0 a2 aj hw c4))=true→ai (Ci c4)∧al (Ci c4)<al c4)
def QT:Prop:=
  ai 0∧ ∀(c4:Int),ai c4→(((Fq a0 a2 c4)=false→(H5 a2 hk aj U hw hi hb)∧(∀(vC:List av) (i18:List Nat) (z8:List (List Bool)),yB a2 hk aj U hw hi hb aj U vC i18 z8→(yT a0 a2 hk aj U hw hi hb aj U vC i18 z8 0)))∧((Fq a0 a2 c4)=true→QS ai al a0 a2 hk aj U hw hi hb c4))
def QU:Prop:=
  (((hw.length=hi.length∧a2.toNat<hw.length)∧(((nth hw a2).aF !=1)=true→hw.length=hi.length∧a2.toNat<hw.length))∧((rM a2 hw)=true→yT a0 a2 hk aj U hw hi hb aj U hw hi hb 2))∧((!(rM a2 hw))=true→(0≤a2∧a2.toNat<a0.O.length)∧((jS a0 a2).length≤4611686018427387904→QT ai al a0 a2 hk aj U hw hi hb))
def QP (a0:aL) (a2:Int) (az:Nat) (hk:Bool) (aj:List Bool) (U:List bL) (hw:List av) (hi:List Nat) (hb:List (List Bool)) (ai:Int→Prop) (al:Int→Nat):Prop:=
 (0≤a2∧a2.toNat<hw.length)∧(QU ai al a0 a2 hk aj U hw hi hb)
theorem aoW (a0:aL) (a2:Int) (az:Nat) (hk:Bool) (aj:List Bool) (U:List bL) (hw:List av) (hi:List Nat) (hb:List (List Bool)) (ai:Int→Prop) (al:Int→Nat) (h:QP a0 a2 az hk aj U hw hi hb ai al):c8 Tryz.prog 80 [.agg (bD false a0),.ptr 0 az 0 0,ad a2] (Jy hk aj U hw hi hb az) (fun r H'=> ∃(e3:List av) (eI:List Nat) (ev:List (List Bool)) (aa:Int),r=ad aa∧H'=(⟨az,4,[[aq hk,ap 1 0 aj.length,ap 2 0 U.length,ap 3 0 e3.length]]⟩::⟨0,1,List.map aR aj⟩::⟨0,2,List.map ba U⟩::⟨0,5,aW 4 e3 eI⟩::List.map bj ev)∧yT a0 a2 hk aj U hw hi hb aj U e3 eI ev aa):=by
 unfold QP at h
 refine c8.go (fn:=Tryz.f80) [(0,.agg (bD false a0)),(1,.ptr 0 az 0 0),(2,ad a2)] Tryz.func80 (fun _ _=> ?_)
 show WpS _ (bQ aoV 1) _ ⟨bm 63 [(0,.agg (bD false a0)),(1,.ptr 0 az 0 0),(2,ad a2)],[],(Jy hk aj U hw hi hb az)⟩
 refine vW [] 0 [(6,ad 0),(3,aJ 3 0)] [0,1,1] [0,1,2] (fun L=>(3,(bD false a0))::L) id ?_
 obtain⟨nH,h⟩:=h
 refine cw [(7,.ptr 3 0 (l7 a2) 0)] [3] (True) ?_ (fun q2=> ?_)
 ·
  replace h:=nH
  refine bx [] 1 ?_
  refine pZ 4 (some 13) (ap 3 0 hw.length) [(12,.ptr 0 az 0 3),(11,.ptr 0 az 0 0),(10,.ptr 0 az 0 0)] (φ:=az=az) rfl ?_
  have aqF:=h
  refine m_ 2 (some 15) [(14,ad a2)] 3 0 5 aqF ?_
  exact b3 [(7,.ptr 3 0 (l7 a2) 0)] trivial
 unfold QU at h
 obtain⟨mD,h⟩:=h
 refine cw [] [4] ((!(rM a2 hw))=true) ?_ (fun q3=> ?_)
 ·
  replace h:=mD
  obtain⟨hy,h⟩:=h
  refine cw [(27,aq (rM a2 hw))] [4] (True) ?_ (fun q4=> ?_)
  ·
   replace h:=hy
   refine bx [] 2 ?_
   obtain⟨gp,h⟩:=h
   refine jR 4 (some 19) [(18,.ptr 3 0 (l7 a2) 0),(17,.ptr 3 0 (l7 a2) 0),(16,.ptr 3 0 (l7 a2) 0)] (aW 4 hw hi) a2 3 0 0 (ad (nth hw a2).aF) (dM gp.1 gp.2) ?_
   refine p0 2 21 ((nth hw a2).aF !=1) [(20,aq ((nth hw a2).aF !=1))] (fun cQ=> ?_) (fun cQ=> ?_)
   ·
    replace h:=h cQ
    have c0:=h
    refine jR 4 (some 25) [(24,.ptr 3 0 (l7 a2) 0),(23,.ptr 3 0 (l7 a2) 0),(22,.ptr 3 0 (l7 a2) 0)] (aW 4 hw hi) a2 3 0 0 (ad (nth hw a2).aF) (dM c0.1 c0.2) ?_
    exact b3 [(27,aq ((nth hw a2).aF !=2)),(26,aq ((nth hw a2).aF !=2))] trivial (by simp only[cQ,qW,rM]<;>kernel_rfl)
   ·
    exact b3 ([(27,aq false)]++gQ [26,25,24,23,22]) trivial (by simp only[cQ,qW,rM]<;>kernel_rfl)
  refine dB (fun gb=> ?_) (fun gb=> ?_)
  ·
   replace h:=h gb
   refine et [] 3 [(6,ad 2)] [1] [] ?_
   refine hZ ?_
   refine b_.ret ?_
   refine mE (ad 2) [ad 2] ?_
   exact⟨hw,hi,hb,2,rfl,rfl,h⟩
  ·
   refine ew ?_
   exact b_.normal (by simp only[gb,qW,rM]<;>rfl) ei
 replace h:=h q3
 refine ig ?_
 obtain⟨nG,h⟩:=h
 refine cw [(33,bA cx (jS a0 a2)),(34,ad ((jS a0 a2).length:Int)),(35,ad 0)] [3] ((jS a0 a2).length≤4611686018427387904) ?_ (fun jz=> ?_)
 ·
  replace h:=nG
  refine bx [] 4 ?_
  have gj:=h
  refine mF 4 (some 31) [(30,ad a2),(29,bA (dj false) a0.O),(28,aJ 3 2)] (dj false) a0.O 5 gj ?_
  refine sLen 3 (some 34) [(33,bA cx (jS a0 a2)),(32,.dv (dj false (nth a0.O a2)) 4)] cx (jS a0 a2) (fun iL=> ?_)
  exact b3 [(35,ad 0)] iL
 replace h:=h jz
 unfold QT at h
 refine fJ 0 ?_
 obtain⟨pX,h⟩:=h
 refine ln (fun(v:Int)=>(⟨(bm 63 [(1,.ptr 0 az 0 0),(3,aJ 3 0),(7,.ptr 3 0 (l7 a2) 0),(33,bA cx (jS a0 a2)),(34,ad ((jS a0 a2).length:Int)),(35,ad v)]),[(3,(bD false a0))],(Jy hk aj U hw hi hb az)⟩:St)) (fun(v:Int)=>ai v) (fun(v:Int)=>al v) 0 (dw []) pX (fun c4 aT=> ?_)
 replace h:=h c4 aT
 refine et [] 5 [(36,aq (Fq a0 a2 c4))] [1] [6] ?_
 obtain⟨kw,h⟩:=h
 refine cw [] [0,1,6] ((Fq a0 a2 c4)=true) ?_ (fun ka=> ?_)
 ·
  replace h:=kw
  refine dB (fun ld=> ?_) (fun ld=> ?_)
  ·
   refine ew ?_
   exact b_.normal (by simp only[q3,ld,qW,rM]<;>rfl) ei
  ·
   replace h:=h ld
   refine j3 0 ?_
   refine b_.exit ?_
   refine ed.exit ?_
   refine cc.here ?_
   refine ef.normal ?_
   refine ig ?_
   refine bx [] 12 ?_
   obtain⟨lL,h⟩:=h
   refine xg 2 (some 62) [(61,.ptr 3 0 (l7 a2) 0)] [.ptr 3 0 (l7 a2) 0] _ (Q6 a2 az hk aj U hw hi hb lL) (fun r H' U=>by obtain⟨_,_,_,rfl,_⟩:=U;rfl) ?_
   rintro r H' ⟨vC,i18,z8,rfl,rfl,kZ⟩
   replace h:=h vC i18 z8 kZ
   refine d_ [] ?_
   refine ef.normal ?_
   refine k4 ⟨(bm 63 [(6,ad 0)]),[(3,(bD false a0))],(⟨az,4,[[aq hk,ap 1 0 aj.length,ap 2 0 U.length,ap 3 0 vC.length]]⟩::⟨0,1,List.map aR aj⟩::⟨0,2,List.map ba U⟩::⟨0,5,aW 4 vC i18⟩::List.map bj z8)⟩ (True) ?_ (fun jA=> ?_)
   ·
    refine bx [] 13 ?_
    exact b3 [(6,ad 0)] trivial
   refine hZ ?_
   refine mE (ad 0) [ad 0] ?_
   exact⟨vC,i18,z8,0,rfl,rfl,h⟩
 replace h:=h ka
 unfold QS at h
 obtain⟨sy,h⟩:=h
 refine cw [] [6] ((!(qW a0 a2 aj hw c4))=true) ?_ (fun jg=> ?_)
 ·
  replace h:=sy
  refine fJ 1 ?_
  obtain⟨m6,h⟩:=h
  refine cw [(9,ad (nth (jS a0 a2) c4))] [6] (True) ?_ (fun hH=> ?_)
  ·
   replace h:=m6
   refine bx [] 6 ?_
   have jB:=h
   refine mF 1 (some 37) [] cx (jS a0 a2) 1 jB ?_
   exact b3 [(9,ad (nth (jS a0 a2) c4)),(38,ad (nth (jS a0 a2) c4))] trivial
  obtain⟨rE,h⟩:=h
  refine cw [(51,aq (qW a0 a2 aj hw c4))] [0,1,6] (True) ?_ (fun jh=> ?_)
  ·
   replace h:=rE
   refine bx [] 7 ?_
   refine pZ 4 (some 42) (ap 1 0 aj.length) [(41,.ptr 0 az 0 1),(40,.ptr 0 az 0 0),(39,.ptr 0 az 0 0)] (φ:=az=az) rfl ?_
   obtain⟨acW,h⟩:=h
   refine m_ 2 (some 44) [(43,ad (nth (jS a0 a2) c4))] 1 0 1 acW ?_
   refine aak 1 (some 45) [] aR aj (nth (jS a0 a2) c4) 4 0 0 (aq (nth aj (nth (jS a0 a2) c4))) (by simpa using acW.2) ?_
   refine p0 1 46 (nth aj (nth (jS a0 a2) c4)) [] (fun lM=> ?_) (fun lM=> ?_)
   ·
    replace h:=h lM
    have ob:=h
    refine jR 4 (some 50) [(49,.ptr 3 0 (l7 a2) 3),(48,.ptr 3 0 (l7 a2) 0),(47,.ptr 3 0 (l7 a2) 0)] (aW 4 hw hi) a2 4 3 0 (aq (nth hw a2).bW) (dM ob.1 ob.2) ?_
    exact b3 [(51,aq (nth hw a2).bW)] trivial (by simp only[q3,ka,lM,qW,rM]<;>kernel_rfl)
   ·
    exact b3 ([(51,aq false)]++gQ [50,49,48,47]) trivial (by simp only[q3,ka,lM,qW,rM]<;>kernel_rfl)
  unfold QR at h
  refine dB (fun pW=> ?_) (fun pW=> ?_)
  ·
   replace h:=h pW
   obtain⟨hI,h⟩:=h
   refine fk [] [0,2,2] id (fun H=>eG 3 ⟨0,5,aW 4 (sF a2 hw) hi⟩ H) (True) ?_ (fun o0=> ?_)
   ·
    replace h:=hI
    refine bx [] 8 ?_
    have ku:=h
    refine lf 4 none [(54,.ptr 3 0 (l7 a2) 0),(53,.ptr 3 0 (l7 a2) 0),(52,.ptr 3 0 (l7 a2) 0)] (aW 4 hw hi) a2 0 1 0 [ad 3] 3 (aW 4 (sF a2 hw) hi) (dM ku.1 ku.2) (lu ku.1 ku.2) ?_
    exact b3 [] trivial
   obtain⟨mC,h⟩:=h
   refine fk [] [] id (fun H=>eG 3 ⟨0,5,aW 4 (Cj a0 a2 hw) hi⟩ H) (True) ?_ (fun mA=> ?_)
   ·
    replace h:=mC
    refine bx [] 9 ?_
    have kv:=h
    refine lf 6 none [(59,.ptr 3 0 (l7 a2) 4),(58,.ptr 3 0 (l7 a2) 0),(57,ad a0.cB),(56,aJ 3 4),(55,.ptr 3 0 (l7 a2) 0)] (aW 4 (sF a2 hw) hi) a2 4 1 0 [ad a0.cB] 3 (aW 4 (Cj a0 a2 hw) hi) (dM kv.1 kv.2) (lu kv.1 kv.2) ?_
    exact b3 [] trivial
   refine et [] 10 [(6,ad 0)] [1] [] ?_
   unfold QQ at h
   refine hZ ?_
   refine cc.ret ?_
   refine b_.ret ?_
   refine ed.ret ?_
   refine cc.ret ?_
   refine ef.ret ?_
   refine mE (ad 0) [ad 0] ?_
   exact⟨(Cj a0 a2 hw),hi,hb,0,rfl,(by rw[show hw.length=(Cj a0 a2 hw).length by simp]<;>rfl),h⟩
  ·
   refine ew ?_
   refine cc.normal ?_
   exact b_.normal (by simp only[q3,ka,pW,qW,rM]<;>rfl) ei
 replace h:=h jg
 refine bx [] 11 ?_
 refine d_ [(35,ad (Ci c4)),(60,ad (Ci c4))] ?_
 exact ed.again (Ci c4) h (dw [])
theorem aoU (a0:aL) (a2:Int) (az:Nat) (hk:Bool) (aj:List Bool) (U:List bL) (hw:List av) (hi:List Nat) (hb:List (List Bool)) (ab:Xh a0 a2 hk aj U hw hi hb):c8 Tryz.prog 80 [.agg (bD false a0),.ptr 0 az 0 0,ad a2] (Jy hk aj U hw hi hb az) (fun r H'=> ∃(e3:List av) (eI:List Nat) (ev:List (List Bool)) (aa:Int),r=ad aa∧H'=(⟨az,4,[[aq hk,ap 1 0 aj.length,ap 2 0 U.length,ap 3 0 e3.length]]⟩::⟨0,1,List.map aR aj⟩::⟨0,2,List.map ba U⟩::⟨0,5,aW 4 e3 eI⟩::List.map bj ev)∧yT a0 a2 hk aj U hw hi hb aj U e3 eI ev aa):=aoW a0 a2 az hk aj U hw hi hb (cr ((nth a0.O a2).ek.length:Int) (fun k=>nth aj (nth (nth a0.O a2).ek k)&&(nth hw a2).bW)) (cM ((nth a0.O a2).ek.length:Int)) (by
 unfold QP
 obtain⟨G,bZ,t0,t1,t2,AS⟩:=ab
 have aQ:a2.toNat<hw.length:=by omega
 have kk:a2.toNat<a0.O.length:=by omega
 have iY:=bZ.ek _ (dT kk)
 have uW:=bZ.cY
 have cV:=G.uz aQ
 have afm:(nth hw a2).aF=(nth (c1 hk aj U hw hi hb).O a2).aF:=cV.aF
 have An:(nth hw a2).bW=(nth (c1 hk aj U hw hi hb).O a2).bW:=cV.bW
 have rl:(((nth hw a2).aF !=1)&&((nth hw a2).aF !=2))=decide ((nth (c1 hk aj U hw hi hb).O a2).aF≠1∧(nth (c1 hk aj U hw hi hb).O a2).aF≠2):=by
  rw[Bool.eq_iff_iff,afm];simp
 unfold QU rM jS
 rw[rl]
 refine⟨⟨t0,aQ⟩,⟨⟨cV.fY,fun _=>cV.fY⟩,fun hc=> ?_⟩,fun hc=>⟨⟨t0,kk⟩,fun ag=> ?_⟩⟩
 ·have hc:=of_decide_eq_true hc
  have e:vR (c1 hk aj U hw hi hb) a2=2:=by unfold vR;rw[if_pos hc]
  exact⟨G,e.symm,by rw[e];rfl⟩
 have hc: ¬_:=of_decide_eq_false (by simpa only[Bool.not_eq_true'] using hc)
 have eg:vR (c1 hk aj U hw hi hb) a2=0:=by unfold vR;rw[if_neg hc]
 unfold QT Fq jS
 refine⟨dA (dp _),fun v aT=>⟨fun hv=>⟨⟨G,t0,t1⟩,fun w i b lB=> ?_⟩,fun hv=> ?_⟩⟩
 ·obtain⟨qd,lC⟩:=lB
  refine⟨qd,eg.symm,?_⟩
  rw[if_pos eg,lC]
  have j6:((nth (c1 hk aj U hw hi hb).O a2).bW&&hU (c1 hk aj U hw hi hb) (nth a0.O a2).ek)=false:=by
   rw[←An]
   have eR:=oo (q:=fun x=>nth aj x&&(nth hw a2).bW) (hV aT hv)
   cases hs:(nth hw a2).bW with
   | false=>rfl
   | true=>
    rw[Bool.true_and]
    unfold hU
    rw[List.any_eq_false]
    intro x hx
    have:=eR x hx
    simp only[hs,Bool.and_true] at this
    show ¬(nth aj x=true)
    rw[this];simp
  unfold Gq
  rw[if_neg (by rw[j6];simp)];rfl
 ·unfold QS qW Ci jS
  have ck:=cC aT hv
  have hx:=iY.2 _ (dT ck.2)
  refine⟨⟨ck,⟨⟨hx.1,by omega⟩,fun _=>cV.fY⟩,?_⟩,fun ev=>da (cO ag) aT hv (not_eq ev)⟩
  unfold QR QQ qW Cj jS sF
  intro ev
  have dt:=cV.setState 3
  refine⟨cV.fY,dt.fY,?_⟩
  have fT:=dt.B3 a0.cB
  refine⟨fT.G,eg.symm,?_⟩
  rw[if_pos eg]
  have lW:nth aj (nth (nth a0.O a2).ek v)=true∧(nth hw a2).bW=true:=by simpa using ev
  have ahf:hU (c1 hk aj U hw hi hb) (nth a0.O a2).ek=true:=by
   unfold hU;rw[List.any_eq_true];exact⟨_,dT ck.2,lW.1⟩
  unfold Gq
  rw[if_pos (by rw[ahf,←An,lW.2];rfl)]
  exact fT.ib)
end
section
variable (ai:kD Prop) (al:kD Nat) (eQ:CN Prop) (a0:aL) (J:Frame) (a2:Event) (aa:fj) (aM:List (List Bool)) (b9:List Nat) (cg:Int) (aZ:List av) (ax:(List Bool)) (bC:(List bL)) (dk:Int) (ph:List av)
abbrev l6:=aZ.set cg.toNat (av.mk (nth aZ cg).aF (nth aZ cg).bc (nth aZ cg).ae (nth aZ cg).bW (IntKind.i64.wrap ((nth aZ cg).bU - 1)))
abbrev fg:=(aV J).O
abbrev fN:=List.map av.ae (fg J)
abbrev nJ:List (Nat×List AV):=[(6,[ad 0,aq false,cu,cu,cu]),(3,(bD false a0))]
abbrev fO:=List.range (fg J).length
abbrev Fm:List (Nat×AV):=[(3,aJ 3 0),(6,aJ 6 0),(7,.ptr 0 1 0 0),(8,ad 0)]
abbrev iN:=(aV J).ok
abbrev dQ:=(aV J).ay
abbrev dW:=(aV J).aE
abbrev Ca:List AV:=[aq (iN J),ap 1 0 (dW J).length,ap 2 0 (dQ J).length,ap 3 0 (fg J).length]
abbrev gI:=[2000007]
abbrev qV:=IntKind.i64.wrap (cg+1)
abbrev vt:=((fg J).length:Int)
abbrev Qv:List (Nat×AV):=[(3,aJ 3 0),(6,aJ 6 0),(7,.ptr 0 1 0 0),(8,ad 0),(100,ad (vt J)),(101,ad (qV cg))]
abbrev Jv:List (Nat×AV):=[(0,.agg (bD false a0)),(1,.agg (cq false J)),(2,.agg (dL a2))]
abbrev B6:=(dQ J).set a2.aG.toNat (bL.mk (nth (dQ J) a2.aG).dR a2.bi)
abbrev B7:=(dQ J).set a2.aG.toNat (bL.mk a2.bi (nth (dQ J) a2.aG).bI)
abbrev Fk:=decide (((kt a0 J a2.aG).length:Int)>0)
abbrev Qw:List AV:=[ad dk,aq (iN J),ap 1 0 ax.length,ap 2 0 bC.length,ap 3 0 ph.length]
abbrev aaT:List Blk:=(⟨1,4,[(Ca J)]⟩::⟨0,1,List.map aR (dW J)⟩::⟨0,2,List.map ba (dQ J)⟩::⟨0,5,aW 4 (fg J) (fO J)⟩::List.map bj (fN J))
abbrev xl:=bm 133 Fm
abbrev Fl:=(nth (l6 cg aZ) cg).bU==0
abbrev B8:=(dW J).set a2.aG.toNat false
abbrev B9:=(dW J).set a2.aG.toNat true
abbrev tX:=(!(kh a0 J)) || (!(fD a0 a2))
abbrev Qx:List (Nat×AV):=[(101,ad (qV cg)),(127,ad (qV cg))]
abbrev pa:=0+cg.toNat
abbrev B_:=(nth aZ cg).aF !=3
abbrev aaU:List (Nat×List AV):=[(6,[ad 0,aq false,cu,cu,cu]),(5,(dL a2)),(4,(cq false J)),(3,(bD false a0))]
noncomputable def aot:Code:=jK Tryz.f28
def aov:List Item:=(List.range 10).map cz
def aow:List (List Nat):=[[],[0],[],[2],[],[4],rg 2 6,rg 2 7,rg 0 8,rg 0 9]
def Qj:Prop:=
  (((hd a0 J a2.aG)==0)=true→(Xi a0 a2.aG (iN J) (dW J) (dQ J) (fg J) (fO J) (fN J))∧(∀(jA:List bL) (CR:List av),IB a0 a2.aG (iN J) (dW J) (dQ J) (fg J) (fO J) (fN J) (dW J) jA CR (fO J) (fN J)→(eQ (fN J) (dW J) jA (fO J) (hd a0 J a2.aG) CR)))∧(((hd a0 J a2.aG)==0)=false→eQ (fN J) (dW J) (dQ J) (fO J) (hd a0 J a2.aG) (fg J))
def Qn:Prop:=
  ((nth J.aE (nth a0.a7 a2.aG))=true→eQ (fN J) (dW J) (dQ J) (fO J) 3 (fg J))∧((nth J.aE (nth a0.a7 a2.aG))=false→(0≤a2.aG∧a2.aG.toNat<(dQ J).length)∧(eQ (fN J) (dW J) (B7 J a2) (fO J) 0 (fg J)))
def Qo:Prop:=
  ((Fk a0 J a2)=true→eQ (fN J) (dW J) (dQ J) (fO J) 2 (fg J))∧((Fk a0 J a2)=false→((0≤a2.aG∧a2.aG.toNat<a0.a7.length)∧(0≤(nth a0.a7 a2.aG)∧(nth a0.a7 a2.aG).toNat<J.aE.length))∧(Qn eQ a0 J a2))
def Qp:Prop:=
  ((Fl cg aZ)=true→(H5 cg (iN J) (dW J) (dQ J) (l6 cg aZ) b9 aM)∧(∀(CT:List av) (i71:List Nat) (Aa:List (List Bool)),yB cg (iN J) (dW J) (dQ J) (l6 cg aZ) b9 aM (dW J) (dQ J) CT i71 Aa→(ai Aa i71 (qV cg) CT∧al Aa i71 (qV cg) CT<al aM b9 cg aZ)))∧((Fl cg aZ)=false→ai aM b9 (qV cg) (l6 cg aZ)∧al aM b9 (qV cg) (l6 cg aZ)<al aM b9 cg aZ)
def Qq:Prop:=
  ((l6 cg aZ).length=b9.length∧cg.toNat<(l6 cg aZ).length)∧(Qp ai al J aM b9 cg aZ)
def Qr:Prop:=
  ((aZ.length=b9.length∧cg.toNat<aZ.length)∧((B_ cg aZ)=true→ai aM b9 (qV cg) aZ∧al aM b9 (qV cg) aZ<al aM b9 cg aZ))∧((!(B_ cg aZ))=true→((aZ.length=b9.length∧cg.toNat<aZ.length)∧(aZ.length=b9.length∧cg.toNat<aZ.length))∧(Qq ai al J aM b9 cg aZ))
def Qs:Prop:=
  ai (fN J) (fO J) 0 (fg J)∧ ∀(aM:List (List Bool)) (b9:List Nat) (cg:Int) (aZ:List av),ai aM b9 cg aZ→(((decide (cg<(vt J)))=false→eQ aM (dW J) (dQ J) b9 0 aZ)∧((decide (cg<(vt J)))=true→(0≤cg∧cg.toNat<aZ.length)∧(Qr ai al J aM b9 cg aZ)))
def Qt:Prop:=
  ((a2.op==5)=true→(0≤a2.aG∧a2.aG.toNat<(dQ J).length)∧(eQ (fN J) (dW J) (B6 J a2) (fO J) 0 (fg J)))∧((a2.op==5)=false→((a2.op==6)=true→(w4 a0 J a2.aG)∧((kt a0 J a2.aG).length≤4611686018427387904→Qo eQ a0 J a2))∧((a2.op==6)=false→((a2.op==7)=true→Qs ai al eQ J)∧((a2.op==7)=false→eQ (fN J) (dW J) (dQ J) (fO J) 0 (fg J))))
def Qu:Prop:=
  ((a2.op==3)=true→(0≤a2.aG∧a2.aG.toNat<(dW J).length)∧(eQ (fN J) (B9 J a2) (dQ J) (fO J) 0 (fg J)))∧((a2.op==3)=false→((a2.op==4)=true→(0≤a2.aG∧a2.aG.toNat<(dW J).length)∧(eQ (fN J) (B8 J a2) (dQ J) (fO J) 0 (fg J)))∧((a2.op==4)=false→Qt ai al eQ a0 J a2))
def Qk:Prop:=
  ((a2.op==2)=true→(Xh a0 a2.aG (iN J) (dW J) (dQ J) (fg J) (fO J) (fN J))∧(∀(fh:List av) (i28:List Nat) (lm:List (List Bool)) (BW:Int),yT a0 a2.aG (iN J) (dW J) (dQ J) (fg J) (fO J) (fN J) (dW J) (dQ J) fh i28 lm BW→(eQ lm (dW J) (dQ J) i28 BW fh)))∧((a2.op==2)=false→Qu ai al eQ a0 J a2)
def Ql:Prop:=
  (PV a0 (iN J) ax bC aZ b9 aM)∧(∀(ph:List av) (i82:List Nat) (vQ:List (List Bool)),Fb a0 (iN J) ax bC aZ b9 aM ax bC ph i82 vQ→((dk=aa.code)∧((aV J).ok=aa.frame.ok)∧(ax.length≤4611686018427387904∧ax=aa.frame.aE)∧(bC.length≤4611686018427387904∧bC=aa.frame.ay)∧(ll ph i82 vQ∧ph.length≤4611686018427387904∧(∀x∈vQ,List.length x≤4611686018427387904)∧view ph i82 vQ=aa.frame.O)))
def Qm:Prop:=
  (((Ul a0 J)∧((!(kh a0 J))=false→Zu a0 a2))∧((tX a0 J a2)=true→(1=aa.code)∧(false=aa.frame.ok)∧([]=aa.frame.aE)∧([]=aa.frame.ay)∧([]=aa.frame.O)))∧((!(tX a0 J a2))=true→(iu J)∧((((a2.op==1)=true→(sO a0 J a2.aG)∧(Qj eQ a0 J a2))∧((a2.op==1)=false→Qk ai al eQ a0 J a2))∧(∀(aM:List (List Bool)) (ax:(List Bool)) (bC:(List bL)) (b9:List Nat) (dk:Int) (aZ:List av),eQ aM ax bC b9 dk aZ→(Ql a0 J aa aM b9 aZ ax bC dk))))
def Qi (a0:aL) (J:Frame) (a2:Event) (aa:fj) (ai:kD Prop) (al:kD Nat) (eQ:CN Prop):Prop:=
 Qm ai al eQ a0 J a2 aa
theorem aox (a0:aL) (J:Frame) (a2:Event) (aa:fj) (ai:kD Prop) (al:kD Nat) (eQ:CN Prop) (h:Qi a0 J a2 aa ai al eQ):bn Tryz.prog 28 [.agg (bD false a0),.agg (cq false J),.agg (dL a2)] (.agg (iy true aa)):=by
 unfold Qi at h
 refine c8.go (fn:=Tryz.f28) (Jv a0 J a2) Tryz.func28 (fun _ _=> ?_)
 show WpS _ (bQ aot 1) _ ⟨bm 133 (Jv a0 J a2),[],[]⟩
 refine WpS.nQ ?_ (hX (s'':=⟨(bm 133 (Jv a0 J a2)),[],[⟨0,4,[]⟩]⟩) (Weak.Bw (T:=(bm 133 (Jv a0 J a2))) (L:=[]) (H:=[]) 4) (by kernel_rfl))
 refine sZ gI 0 [(6,aJ 6 0),(5,aJ 5 0),(4,aJ 4 0),(3,aJ 3 0)] [4] [] (aaU a0 J a2) [⟨0,4,[]⟩] ?_
 unfold Qm at h
 obtain⟨sC,h⟩:=h
 refine cw [] [4] ((!(tX a0 J a2))=true) ?_ (fun q2=> ?_)
 ·
  replace h:=sC
  obtain⟨jP,h⟩:=h
  refine cw [(20,aq (tX a0 J a2))] [4] (True) ?_ (fun q3=> ?_)
  ·
   replace h:=jP
   refine bx gI 1 ?_
   obtain⟨q4,h⟩:=h
   refine o7 3 (some 13) [(12,.agg (cq false J)),(11,.agg (bD false a0))] [.agg (bD false a0),.agg (cq false J)] (aoy a0 J q4) (ah.cons (c6.agg (ah.cons (.int _ _) (ah.cons cJ (ah.cons cJ (ah.cons cJ (ah.cons (.int _ _) ah.nil)))))) (ah.cons (c6.agg (ah.cons (.bool _) (ah.cons cJ (ah.cons cJ (ah.cons cJ ah.nil))))) ah.nil)) ?_
   refine p0 2 15 (!(kh a0 J)) [(14,aq (!(kh a0 J)))] (fun cQ=> ?_) (fun cQ=> ?_)
   ·
    exact b3 ([(20,aq true)]++gQ [19,18,17,16]) trivial (by simp only[cQ,tX]<;>kernel_rfl)
   ·
    replace h:=h cQ
    have c0:=h
    refine o7 3 (some 18) [(17,.agg (dL a2)),(16,.agg (bD false a0))] [.agg (bD false a0),.agg (dL a2)] (ao1 a0 a2 c0) (ah.cons (c6.agg (ah.cons (.int _ _) (ah.cons cJ (ah.cons cJ (ah.cons cJ (ah.cons (.int _ _) ah.nil)))))) (ah.cons (c6.agg (ah.cons (.int _ _) (ah.cons (.int _ _) (ah.cons (.int _ _) ah.nil)))) ah.nil)) ?_
    exact b3 [(20,aq (!(fD a0 a2))),(19,aq (!(fD a0 a2)))] trivial (by simp only[cQ,tX]<;>kernel_rfl)
  refine dB (fun gp=> ?_) (fun gp=> ?_)
  ·
   replace h:=h gp
   refine vW gI 2 [(21,.agg [ad 1,aq false,cu,cu,cu])] [] [0,1,1] (fun L=>iz 0 0 (ad 1) L) id ?_
   exact hZ (b_.ret (rI (.agg [ad 1,aq false,cu,cu,cu]) (ie.agg (ah.cons (Ct h.1) (ah.cons (pe h.2.1) (ah.cons (ub h.2.2.1) (ah.cons (ub h.2.2.2.1) (ah.cons (ub h.2.2.2.2) ah.nil))))))))
  ·
   refine ew ?_
   exact b_.normal (by simp only[gp,tX]<;>rfl) ei
 replace h:=h q2
 obtain⟨Ps,h⟩:=h
 refine fk [(7,.ptr 0 1 0 0)] [4] id (fun _=>(aaT J)) (True) ?_ (fun hy=> ?_)
 ·
  replace h:=Ps
  refine bx gI 3 ?_
  have jz:=h
  refine tS 2 (some 23) [(22,.agg (cq false J))] [.agg (cq false J)] (.agg (Ca J)) (⟨0,4,[]⟩::⟨0,1,List.map aR (dW J)⟩::⟨0,2,List.map ba (dQ J)⟩::⟨0,5,aW 4 (fg J) (fO J)⟩::List.map bj (fN J)) (QZ J jz) (ah.cons (c6.agg (ah.cons (.bool _) (ah.cons cJ (ah.cons cJ (ah.cons cJ ah.nil))))) ah.nil) BF (tW aay (by kernel_rfl)) ?_ (er:=by simp[oh,p1,ji])
  refine Jn 1 [(7,.ptr 0 1 0 0)] (aaU a0 J a2) (⟨1,4,[[aq false,cu,cu,cu]]⟩::⟨0,1,List.map aR (dW J)⟩::⟨0,2,List.map ba (dQ J)⟩::⟨0,5,aW 4 (fg J) (fO J)⟩::List.map bj (fN J)) ?_
  refine aam 1 [] (aaT J) (φ:=1=1) (ψ:=4≤4) rfl (by decide) ?_
  exact b3 [] trivial
 refine et gI 4 [(8,ad 0)] [1] [5] ?_
 refine ig ?_
 refine et gI 5 [(25,ad a2.op),(24,aJ 5 0)] [1] [6] ?_
 obtain⟨vl,h⟩:=h
 refine Td 0 (fun(v:List (List Bool)×(List Bool)×(List bL)×List Nat×Int×List av)=>(⟨(bm 133 [(3,aJ 3 0),(6,aJ 6 0),(7,.ptr 0 1 0 0),(8,ad (v.2.2.2.2.1))]),(nJ a0),(⟨1,4,[[aq (iN J),ap 1 0 (v.2.1).length,ap 2 0 (v.2.2.1).length,ap 3 0 (v.2.2.2.2.2).length]]⟩::⟨0,1,List.map aR (v.2.1)⟩::⟨0,2,List.map ba (v.2.2.1)⟩::⟨0,5,aW 4 (v.2.2.2.2.2) (v.2.2.2.1)⟩::List.map bj (v.1))⟩:St)) (fun v=>eQ (v.1) (v.2.1) (v.2.2.1) (v.2.2.2.1) (v.2.2.2.2.1) (v.2.2.2.2.2)) ?_ (fun v dq=> ?_)
 ·
  replace h:=vl
  refine et gI 6 [(26,aq (a2.op==1)),(27,aq (a2.op==1))] [1] [7] ?_
  refine dB (fun ka=> ?_) (fun ka=> ?_)
  ·
   replace h:=h.1 ka
   obtain⟨hH,h⟩:=h
   refine cw [(8,ad (hd a0 J a2.aG))] [0,3,3,1,1] (True) ?_ (fun ld=> ?_)
   ·
    replace h:=hH
    refine bx gI 7 ?_
    have io:=h
    refine o7 5 (some 32) [(31,ad a2.aG),(30,aJ 5 1),(29,.agg (cq false J)),(28,.agg (bD false a0))] [.agg (bD false a0),.agg (cq false J),ad a2.aG] (apD a0 J a2.aG io) (ah.cons (c6.agg (ah.cons (.int _ _) (ah.cons cJ (ah.cons cJ (ah.cons cJ (ah.cons (.int _ _) ah.nil)))))) (ah.cons (c6.agg (ah.cons (.bool _) (ah.cons cJ (ah.cons cJ (ah.cons cJ ah.nil))))) (ah.cons (c6.iH (.int _ _)) ah.nil))) ?_
    exact b3 [(8,ad (hd a0 J a2.aG))] trivial
   refine et gI 8 [(34,aq ((hd a0 J a2.aG)==0)),(33,ad (hd a0 J a2.aG))] [1] [5] ?_
   unfold Qj at h
   refine dB (fun h8=> ?_) (fun h8=> ?_)
   ·
    replace h:=h.1 h8
    refine bx gI 9 ?_
    obtain⟨kZ,h⟩:=h
    refine xg 4 (some 38) [(37,ad a2.aG),(36,aJ 5 1),(35,.agg (bD false a0))] [.agg (bD false a0),.ptr 0 1 0 0,ad a2.aG] _ (apf a0 a2.aG 1 (iN J) (dW J) (dQ J) (fg J) (fO J) (fN J) kZ) (fun r H' U=>by obtain⟨_,_,rfl,_⟩:=U;rfl) ?_
    rintro r H' ⟨jA,CR,rfl,rfl,jg⟩
    replace h:=h jA CR jg
    refine d_ [] ?_
    refine cc.normal ?_
    exact hA.normal ((fN J),(dW J),jA,(fO J),(hd a0 J a2.aG),CR) h (dw [5,4])
   ·
    replace h:=h.2 h8
    refine ew ?_
    refine cc.normal ?_
    exact hA.normal ((fN J),(dW J),(dQ J),(fO J),(hd a0 J a2.aG),(fg J)) h (dw [5,4])
  ·
   replace h:=h.2 ka
   refine et gI 10 [(39,aq (a2.op==2)),(40,aq (a2.op==2))] [1] [0,1,7] ?_
   unfold Qk at h
   refine dB (fun jh=> ?_) (fun jh=> ?_)
   ·
    replace h:=h.1 jh
    refine bx gI 11 ?_
    obtain⟨ku,h⟩:=h
    refine xg 4 (some 44) [(43,ad a2.aG),(42,aJ 5 1),(41,.agg (bD false a0))] [.agg (bD false a0),.ptr 0 1 0 0,ad a2.aG] _ (aoU a0 a2.aG 1 (iN J) (dW J) (dQ J) (fg J) (fO J) (fN J) ku) (fun r H' U=>by obtain⟨_,_,_,_,rfl,_⟩:=U;rfl) ?_
    rintro r H' ⟨fh,i28,lm,BW,rfl,rfl,mA⟩
    replace h:=h fh i28 lm BW mA
    refine d_ [(8,ad BW)] ?_
    refine cc.normal ?_
    exact hA.normal (lm,(dW J),(dQ J),i28,BW,fh) h (dw [5,4])
   ·
    replace h:=h.2 jh
    refine et gI 12 [(45,aq (a2.op==3)),(46,aq (a2.op==3))] [1] [0,1,7] ?_
    unfold Qu at h
    refine dB (fun mB=> ?_) (fun mB=> ?_)
    ·
     replace h:=h.1 mB
     refine bx gI 13 ?_
     refine pZ 2 (some 48) (ap 1 0 (dW J).length) [(47,.ptr 0 1 0 1)] (φ:=1=1) rfl ?_
     obtain⟨acZ,h⟩:=h
     refine m_ 3 (some 51) [(50,ad a2.aG),(49,aJ 5 1)] 1 0 1 acZ ?_
     refine xh 1 none [] aR (dW J) a2.aG 0 1 0 [aq true] 1 true (by simpa using acZ.2) ?_
     refine d_ [] ?_
     refine cc.normal ?_
     exact hA.normal ((fN J),(B9 J a2),(dQ J),(fO J),0,(fg J)) h (hX (s':=⟨xl,(nJ a0),(⟨1,4,[(Ca J)]⟩::⟨0,1,List.map aR (B9 J a2)⟩::⟨0,2,List.map ba (dQ J)⟩::⟨0,5,aW 4 (fg J) (fO J)⟩::List.map bj (fN J))⟩) (dw (n:=133) (A':=Fm) (L':=(nJ a0)) [5,4]) (congrArg (fun z=>(⟨xl,(nJ a0),(⟨1,4,[[aq (iN J),ap 1 0 z,ap 2 0 (dQ J).length,ap 3 0 (fg J).length]]⟩::⟨0,1,List.map aR (B9 J a2)⟩::⟨0,2,List.map ba (dQ J)⟩::⟨0,5,aW 4 (fg J) (fO J)⟩::List.map bj (fN J))⟩:St)) (show(dW J).length=(B9 J a2).length by simp)))
    ·
     replace h:=h.2 mB
     refine et gI 14 [(52,aq (a2.op==4)),(53,aq (a2.op==4))] [1] [0,1,7] ?_
     refine dB (fun hI=> ?_) (fun hI=> ?_)
     ·
      replace h:=h.1 hI
      refine bx gI 15 ?_
      refine pZ 2 (some 55) (ap 1 0 (dW J).length) [(54,.ptr 0 1 0 1)] (φ:=1=1) rfl ?_
      obtain⟨ac1,h⟩:=h
      refine m_ 3 (some 58) [(57,ad a2.aG),(56,aJ 5 1)] 1 0 1 ac1 ?_
      refine xh 1 none [] aR (dW J) a2.aG 0 1 0 [aq false] 1 false (by simpa using ac1.2) ?_
      refine d_ [] ?_
      refine cc.normal ?_
      exact hA.normal ((fN J),(B8 J a2),(dQ J),(fO J),0,(fg J)) h (hX (s':=⟨xl,(nJ a0),(⟨1,4,[(Ca J)]⟩::⟨0,1,List.map aR (B8 J a2)⟩::⟨0,2,List.map ba (dQ J)⟩::⟨0,5,aW 4 (fg J) (fO J)⟩::List.map bj (fN J))⟩) (dw (n:=133) (A':=Fm) (L':=(nJ a0)) [5,4]) (congrArg (fun z=>(⟨xl,(nJ a0),(⟨1,4,[[aq (iN J),ap 1 0 z,ap 2 0 (dQ J).length,ap 3 0 (fg J).length]]⟩::⟨0,1,List.map aR (B8 J a2)⟩::⟨0,2,List.map ba (dQ J)⟩::⟨0,5,aW 4 (fg J) (fO J)⟩::List.map bj (fN J))⟩:St)) (show(dW J).length=(B8 J a2).length by simp)))
     ·
      replace h:=h.2 hI
      refine et gI 16 [(59,aq (a2.op==5)),(60,aq (a2.op==5))] [1] [0,1,7] ?_
      unfold Qt at h
      refine dB (fun m6=> ?_) (fun m6=> ?_)
      ·
       replace h:=h.1 m6
       refine bx gI 17 ?_
       refine pZ 2 (some 62) (ap 2 0 (dQ J).length) [(61,.ptr 0 1 0 2)] (φ:=1=1) rfl ?_
       obtain⟨ac3,h⟩:=h
       refine m_ 5 (some 67) [(66,ad a2.bi),(65,aJ 5 2),(64,ad a2.aG),(63,aJ 5 1)] 2 0 2 ac3 ?_
       refine xh 2 none [(68,.ptr 2 0 (0+a2.aG.toNat) 1)] ba (dQ J) a2.aG 1 1 0 [ad a2.bi] 2 (bL.mk (nth (dQ J) a2.aG).dR a2.bi) (by simpa using ac3.2) ?_
       refine d_ [] ?_
       refine cc.normal ?_
       exact hA.normal ((fN J),(dW J),(B6 J a2),(fO J),0,(fg J)) h (hX (s':=⟨xl,(nJ a0),(⟨1,4,[(Ca J)]⟩::⟨0,1,List.map aR (dW J)⟩::⟨0,2,List.map ba (B6 J a2)⟩::⟨0,5,aW 4 (fg J) (fO J)⟩::List.map bj (fN J))⟩) (dw (n:=133) (A':=Fm) (L':=(nJ a0)) [5,4]) (congrArg (fun z=>(⟨xl,(nJ a0),(⟨1,4,[[aq (iN J),ap 1 0 (dW J).length,ap 2 0 z,ap 3 0 (fg J).length]]⟩::⟨0,1,List.map aR (dW J)⟩::⟨0,2,List.map ba (B6 J a2)⟩::⟨0,5,aW 4 (fg J) (fO J)⟩::List.map bj (fN J))⟩:St)) (show(dQ J).length=(B6 J a2).length by simp)))
      ·
       replace h:=h.2 m6
       refine et gI 18 [(69,aq (a2.op==6)),(70,aq (a2.op==6))] [1] [0,1,7] ?_
       refine dB (fun kw=> ?_) (fun kw=> ?_)
       ·
        replace h:=h.1 kw
        obtain⟨kx,h⟩:=h
        refine cw [(77,aq (Fk a0 J a2))] [0,2,6] ((kt a0 J a2.aG).length≤4611686018427387904) ?_ (fun pX=> ?_)
        ·
         replace h:=kx
         refine bx gI 19 ?_
         have nG:=h
         refine o7 5 (some 75) [(74,ad a2.aG),(73,aJ 5 1),(72,.agg (cq false J)),(71,.agg (bD false a0))] [.agg (bD false a0),.agg (cq false J),ad a2.aG] (abP a0 J a2.aG nG) (ah.cons (c6.agg (ah.cons (.int _ _) (ah.cons cJ (ah.cons cJ (ah.cons cJ (ah.cons (.int _ _) ah.nil)))))) (ah.cons (c6.agg (ah.cons (.bool _) (ah.cons cJ (ah.cons cJ (ah.cons cJ ah.nil))))) (ah.cons (c6.iH (.int _ _)) ah.nil))) ?_
         refine sLen 1 (some 76) [] cx (kt a0 J a2.aG) (fun mD=> ?_)
         exact b3 [(77,aq (Fk a0 J a2))] mD
        replace h:=h pX
        unfold Qo at h
        refine dB (fun nH=> ?_) (fun nH=> ?_)
        ·
         replace h:=h.1 nH
         refine bx gI 20 ?_
         refine d_ [(8,ad 2)] ?_
         refine cc.normal ?_
         exact hA.normal ((fN J),(dW J),(dQ J),(fO J),2,(fg J)) h (dw [5,4])
        ·
         replace h:=h.2 nH
         obtain⟨nI,h⟩:=h
         refine cw [(87,aq (nth J.aE (nth a0.a7 a2.aG)))] [0,1,4,1,1] (True) ?_ (fun oc=> ?_)
         ·
          replace h:=nI
          refine o5 gI 21 aov aow [] ?_
          obtain⟨o2,h⟩:=h
          refine vA 7 (some 84) [(83,ad a2.aG),(82,aJ 5 1),(81,bA cx a0.a7),(80,aJ 3 1),(79,bA aR J.aE),(78,aJ 4 1)] cx a0.a7 1 o2 ?_
          have o1:=h
          refine vA 2 (some 86) [(85,ad (nth a0.a7 a2.aG))] aR J.aE 1 o1 ?_
          exact l8 [(87,aq (nth J.aE (nth a0.a7 a2.aG)))] trivial
         unfold Qn at h
         refine dB (fun sA=> ?_) (fun sA=> ?_)
         ·
          replace h:=h.1 sA
          refine bx gI 22 ?_
          refine d_ [(8,ad 3)] ?_
          refine cc.normal ?_
          exact hA.normal ((fN J),(dW J),(dQ J),(fO J),3,(fg J)) h (dw [5,4])
         ·
          replace h:=h.2 sA
          refine bx gI 23 ?_
          refine pZ 2 (some 89) (ap 2 0 (dQ J).length) [(88,.ptr 0 1 0 2)] (φ:=1=1) rfl ?_
          obtain⟨ac4,h⟩:=h
          refine m_ 5 (some 94) [(93,ad a2.bi),(92,aJ 5 2),(91,ad a2.aG),(90,aJ 5 1)] 2 0 2 ac4 ?_
          refine xh 2 none [(95,.ptr 2 0 (0+a2.aG.toNat) 0)] ba (dQ J) a2.aG 0 1 0 [ad a2.bi] 2 (bL.mk a2.bi (nth (dQ J) a2.aG).bI) (by simpa using ac4.2) ?_
          refine d_ [] ?_
          refine cc.normal ?_
          exact hA.normal ((fN J),(dW J),(B7 J a2),(fO J),0,(fg J)) h (hX (s':=⟨xl,(nJ a0),(⟨1,4,[(Ca J)]⟩::⟨0,1,List.map aR (dW J)⟩::⟨0,2,List.map ba (B7 J a2)⟩::⟨0,5,aW 4 (fg J) (fO J)⟩::List.map bj (fN J))⟩) (dw (n:=133) (A':=Fm) (L':=(nJ a0)) [5,4]) (congrArg (fun z=>(⟨xl,(nJ a0),(⟨1,4,[[aq (iN J),ap 1 0 (dW J).length,ap 2 0 z,ap 3 0 (fg J).length]]⟩::⟨0,1,List.map aR (dW J)⟩::⟨0,2,List.map ba (B7 J a2)⟩::⟨0,5,aW 4 (fg J) (fO J)⟩::List.map bj (fN J))⟩:St)) (show(dQ J).length=(B7 J a2).length by simp)))
       ·
        replace h:=h.2 kw
        refine et gI 24 [(96,aq (a2.op==7)),(97,aq (a2.op==7))] [1] [0,2,3,2,1] ?_
        refine dB (fun m7=> ?_) (fun m7=> ?_)
        ·
         replace h:=h.1 m7
         refine cw [(100,ad (vt J)),(101,ad 0)] [0,1,4] (True) ?_ (fun od=> ?_)
         ·
          refine bx gI 25 ?_
          refine pZ 2 (some 99) (ap 3 0 (fg J).length) [(98,.ptr 0 1 0 3)] (φ:=1=1) rfl ?_
          exact b3 [(101,ad 0),(100,ad (vt J))] trivial
         unfold Qs at h
         refine fJ 1 ?_
         obtain⟨o4,h⟩:=h
         refine ln (fun(v:List (List Bool)×List Nat×Int×List av)=>(⟨(bm 133 [(3,aJ 3 0),(6,aJ 6 0),(7,.ptr 0 1 0 0),(8,ad 0),(100,ad (vt J)),(101,ad (v.2.2.1))]),(nJ a0),(⟨1,4,[[aq (iN J),ap 1 0 (dW J).length,ap 2 0 (dQ J).length,ap 3 0 (v.2.2.2).length]]⟩::⟨0,1,List.map aR (dW J)⟩::⟨0,2,List.map ba (dQ J)⟩::⟨0,5,aW 4 (v.2.2.2) (v.2.1)⟩::List.map bj (v.1))⟩:St)) (fun(v:List (List Bool)×List Nat×Int×List av)=>ai (v.1) (v.2.1) (v.2.2.1) (v.2.2.2)) (fun(v:List (List Bool)×List Nat×Int×List av)=>al (v.1) (v.2.1) (v.2.2.1) (v.2.2.2)) ((fN J),(fO J),0,(aV J).O) (dw [5,4]) o4 (fun v aT=> ?_)
         obtain⟨aM,b9,cg,aZ⟩:=v
         replace h:=h aM b9 cg aZ aT
         dsimp only
         refine et gI 26 [(102,aq (decide (cg<(vt J))))] [1] [6] ?_
         obtain⟨BT,h⟩:=h
         refine cw [] [0,1,6] ((decide (cg<(vt J)))=true) ?_ (fun oe=> ?_)
         ·
          replace h:=BT
          refine dB (fun rG=> ?_) (fun rG=> ?_)
          ·
           refine ew ?_
           exact b_.normal (by simp only[q2,ka,jh,mB,hI,m6,kw,m7,rG,tX]<;>rfl) ei
          ·
           replace h:=h rG
           refine j3 1 ?_
           refine b_.exit ?_
           refine ed.exit ?_
           refine cc.here ?_
           refine cc.normal ?_
           exact hA.normal (aM,(dW J),(dQ J),b9,0,aZ) h (dw [])
         replace h:=h oe
         refine ig ?_
         refine fJ 2 ?_
         refine et gI 27 [(9,ad cg),(103,ad cg)] [1] [6] ?_
         obtain⟨w_,h⟩:=h
         refine cw [(10,.ptr 3 0 (pa cg) 0)] [0,1,6] (True) ?_ (fun tN=> ?_)
         ·
          replace h:=w_
          refine bx gI 28 ?_
          refine pZ 2 (some 105) (ap 3 0 aZ.length) [(104,.ptr 0 1 0 3)] (φ:=1=1) rfl ?_
          have aqD:=h
          refine m_ 2 (some 107) [(106,ad cg)] 3 0 5 aqD ?_
          exact b3 [(10,.ptr 3 0 (pa cg) 0)] trivial
         unfold Qr at h
         obtain⟨w9,h⟩:=h
         refine cw [] [7] ((!(B_ cg aZ))=true) ?_ (fun og=> ?_)
         ·
          replace h:=w9
          obtain⟨qQ,h⟩:=h
          refine cw [(112,aq (B_ cg aZ))] [7] (True) ?_ (fun BR=> ?_)
          ·
           replace h:=qQ
           refine bx gI 29 ?_
           have qO:=h
           refine jR 4 (some 111) [(110,.ptr 3 0 (pa cg) 0),(109,.ptr 3 0 (pa cg) 0),(108,.ptr 3 0 (pa cg) 0)] (aW 4 aZ b9) cg 3 0 0 (ad (nth aZ cg).aF) (dM qO.1 qO.2) ?_
           exact b3 [(112,aq (B_ cg aZ))] trivial
          refine dB (fun qP=> ?_) (fun qP=> ?_)
          ·
           replace h:=h qP
           refine j3 2 ?_
           refine b_.exit ?_
           refine cc.here ?_
           refine ef.normal ?_
           refine bx gI 33 ?_
           refine d_ (Qx cg) ?_
           exact ed.again (aM,b9,(qV cg),aZ) h (dw [])
          ·
           refine ew ?_
           exact b_.normal (by simp only[q2,ka,jh,mB,hI,m6,kw,m7,oe,qP,tX]<;>rfl) ei
         replace h:=h og
         obtain⟨w8,h⟩:=h
         refine fk [] [7] id (fun H=>eG 3 ⟨0,5,aW 4 (l6 cg aZ) b9⟩ H) (True) ?_ (fun pY=> ?_)
         ·
          replace h:=w8
          refine bx gI 30 ?_
          obtain⟨l5,h⟩:=h
          refine jR 4 (some 116) [(115,.ptr 3 0 (pa cg) 4),(114,.ptr 3 0 (pa cg) 0),(113,.ptr 3 0 (pa cg) 0)] (aW 4 aZ b9) cg 3 4 0 (ad (nth aZ cg).bU) (dM l5.1 l5.2) ?_
          have o3:=h
          refine lf 4 none [(119,.ptr 3 0 (pa cg) 4),(118,.ptr 3 0 (pa cg) 0),(117,ad (IntKind.i64.wrap ((nth aZ cg).bU - 1)))] (aW 4 aZ b9) cg 4 1 0 [ad (IntKind.i64.wrap ((nth aZ cg).bU - 1))] 3 (aW 4 (l6 cg aZ) b9) (dM o3.1 o3.2) (lu o3.1 o3.2) ?_
          exact b3 [] trivial
         unfold Qq at h
         obtain⟨tO,h⟩:=h
         refine cw [(124,aq (Fl cg aZ))] [7] (True) ?_ (fun I_=> ?_)
         ·
          replace h:=tO
          refine bx gI 31 ?_
          have sB:=h
          refine jR 4 (some 123) [(122,.ptr 3 0 (pa cg) 4),(121,.ptr 3 0 (pa cg) 0),(120,.ptr 3 0 (pa cg) 0)] (aW 4 (l6 cg aZ) b9) cg 3 4 0 (ad (nth (l6 cg aZ) cg).bU) (dM sB.1 sB.2) ?_
          exact b3 [(124,aq (Fl cg aZ))] trivial
         unfold Qp at h
         refine dB (fun vj=> ?_) (fun vj=> ?_)
         ·
          replace h:=h.1 vj
          refine bx gI 32 ?_
          obtain⟨vk,h⟩:=h
          refine aal (⟨1,4,[[aq (iN J),ap 1 0 (dW J).length,ap 2 0 (dQ J).length,ap 3 0 (l6 cg aZ).length]]⟩::⟨0,1,List.map aR (dW J)⟩::⟨0,2,List.map ba (dQ J)⟩::⟨0,5,aW 4 (l6 cg aZ) b9⟩::List.map bj aM) (by rw[show aZ.length=(l6 cg aZ).length by simp]<;>rfl) ?_
          refine xg 2 (some 126) [(125,.ptr 3 0 (pa cg) 0)] [.ptr 3 0 (pa cg) 0] _ (Q6 cg 1 (iN J) (dW J) (dQ J) (l6 cg aZ) b9 aM vk) (fun r H' U=>by obtain⟨_,_,_,rfl,_⟩:=U;rfl) ?_
          rintro r H' ⟨CT,i71,Aa,rfl,rfl,w7⟩
          replace h:=h CT i71 Aa w7
          refine d_ [] ?_
          refine cc.normal ?_
          refine ef.normal ?_
          refine bx gI 33 ?_
          refine d_ (Qx cg) ?_
          exact ed.again (Aa,i71,(qV cg),CT) h (dw [])
         ·
          replace h:=h.2 vj
          refine ew ?_
          refine cc.normal ?_
          refine ef.normal ?_
          refine bx gI 33 ?_
          refine d_ (Qx cg) ?_
          exact ed.again (aM,b9,(qV cg),(l6 cg aZ)) h (hX (s':=⟨(bm 133 (Qv J cg)),(nJ a0),(⟨1,4,[[aq (iN J),ap 1 0 (dW J).length,ap 2 0 (dQ J).length,ap 3 0 aZ.length]]⟩::⟨0,1,List.map aR (dW J)⟩::⟨0,2,List.map ba (dQ J)⟩::⟨0,5,aW 4 (l6 cg aZ) b9⟩::List.map bj aM)⟩) (dw (n:=133) (A':=(Qv J cg)) (L':=(nJ a0)) []) (congrArg (fun z=>(⟨(bm 133 (Qv J cg)),(nJ a0),(⟨1,4,[[aq (iN J),ap 1 0 (dW J).length,ap 2 0 (dQ J).length,ap 3 0 z]]⟩::⟨0,1,List.map aR (dW J)⟩::⟨0,2,List.map ba (dQ J)⟩::⟨0,5,aW 4 (l6 cg aZ) b9⟩::List.map bj aM)⟩:St)) (show aZ.length=(l6 cg aZ).length by simp)))
        ·
         replace h:=h.2 m7
         refine ew ?_
         refine cc.normal ?_
         exact hA.normal ((fN J),(dW J),(dQ J),(fO J),0,(fg J)) h (dw [5,4])
 obtain⟨aM,ax,bC,b9,dk,aZ⟩:=v
 replace h:=h aM ax bC b9 dk aZ dq
 dsimp only
 unfold Ql at h
 refine ig ?_
 refine bx gI 34 ?_
 obtain⟨Ja,h⟩:=h
 refine xg 2 (some 129) [(128,.agg (bD false a0))] [.agg (bD false a0),.ptr 0 1 0 0] _ (abJ a0 1 (iN J) ax bC aZ b9 aM Ja) (fun r H' U=>by obtain⟨_,_,_,rfl,_⟩:=U;rfl) ?_
 rintro r H' ⟨ph,i82,vQ,rfl,rfl,EZ⟩
 replace h:=h ph i82 vQ EZ
 refine d_ [] ?_
 refine ef.normal ?_
 refine k4 ⟨(bm 133 [(6,aJ 6 0)]),[(6,(Qw J ax bC dk ph)),(3,(bD false a0))],(⟨1,4,[[aq (iN J),ap 1 0 ax.length,ap 2 0 bC.length,ap 3 0 ph.length]]⟩::⟨0,1,List.map aR ax⟩::⟨0,2,List.map ba bC⟩::⟨0,5,aW 4 ph i82⟩::List.map bj vQ)⟩ (True) ?_ (fun xa=> ?_)
 ·
  refine bx gI 35 ?_
  refine pZ 2 (some 131) (.agg [aq (iN J),ap 1 0 ax.length,ap 2 0 bC.length,ap 3 0 ph.length]) [(130,ad dk)] (φ:=1=1) rfl ?_
  exact b3 [(132,.agg (Qw J ax bC dk ph))] trivial
 exact hZ (rI (.agg (Qw J ax bC dk ph)) (ie.agg (ah.cons (Ct h.1) (ah.cons (pe h.2.1) (ah.cons (p_ (sz:=1) (by simp) rfl (vU) h.2.2.1) (ah.cons (p_ (sz:=2) (by simp) rfl (x0) h.2.2.2.1) (ah.cons (Cs (s:=4) (ws:=ph) (ids:=i82) (bs:=vQ) (by simp) rfl (fun id k h=>by simpa using h) h.2.2.2.2) ah.nil)))))))
theorem aos (ab:PN a0 J a2):bn Tryz.prog 28 [.agg (bD false a0),.agg (cq false J),.agg (dL a2)] (.agg (iy true (na a0 J a2))):=aox a0 J a2 (na a0 J a2) (fun bs is v ws=>cr J.O.length (fun _=>false) v∧gB ws is bs∧view ws is bs=iP a0 v.toNat J.O) (fun _ _ v _=>cM J.O.length v) (fun bs o q is c ws=>gB ws is bs∧c=fK a0 J a2∧Frame.mk J.ok o q (view ws is bs)=kX a0 J a2) (by
 unfold Qi Qm tX
 have hs:iu J:=ab
 have ny:=hs
 obtain⟨kI,z2,z3,z4⟩:=ny
 refine⟨⟨⟨hs,fun hk=> ?_⟩,fun hc=> ?_⟩,fun hc=> ?_⟩
 ·have hk:kh a0 J=true:=by simpa using hk
  have h1:=(L3 hk).in.cY
  exact⟨by omega,by omega⟩
 ·have hc: ¬(kh a0 J&&fD a0 a2)=true:=by
   intro h;rw[Bool.and_eq_true] at h;rw[h.1,h.2] at hc;cases hc
  have e:na a0 J a2=⟨1,⟨false,[],[],[]⟩⟩:=by unfold na;rw[if_neg hc]
  rw[e];exact⟨rfl,rfl,rfl,rfl,rfl⟩
 have hc:kh a0 J=true∧fD a0 a2=true:=by simpa using hc
 obtain⟨hk,he⟩:=hc
 have hf:=L3 hk
 have bZ:=hf.in
 have dn:=hf.fr
 have au:=dn.O
 have tk:=dn.aE
 have oL:=dn.ay
 have D2:=bZ.O
 have uW:=bZ.cY
 have AY:=bZ.bh
 have MS:na a0 J a2=⟨fK a0 J a2,dV a0 (kX a0 J a2)⟩:=by unfold na;rw[if_pos (by rw[hk,he];rfl)]
 obtain⟨c5,dP,eJ⟩:=x5 J.O
 have nV:gB J.O (List.range J.O.length) (J.O.map av.ae):=⟨c5,dP,fun b hb=>by
  obtain⟨h,bt,rfl⟩:=List.mem_map.1 hb;exact z4 h bt⟩
 have HT:c1 (aV J).ok (aV J).aE (aV J).ay (aV J).O (List.range (aV J).O.length) (List.map av.ae (aV J).O)=J:=by
  show Frame.mk J.ok J.aE J.ay (view J.O (List.range J.O.length) (List.map av.ae J.O))=J
  rw[eJ]
 have tp:view (aV J).O (List.range (aV J).O.length) (List.map av.ae (aV J).O)=J.O:=eJ
 have j6: ∀c:Int,c=fK a0 J a2→c≠0→gB J.O (List.range J.O.length) (J.O.map av.ae)∧c=fK a0 J a2∧Frame.mk J.ok J.aE J.ay (view J.O (List.range J.O.length) (J.O.map av.ae))=kX a0 J a2:=fun c hc b7=>⟨nV,hc,by
  unfold kX;rw[if_neg (by rw[←hc];exact b7),eJ]⟩
 have MJ:fK a0 J a2=0→kX a0 J a2=jq a0 J a2:=fun h=>by unfold kX;rw[if_pos h]
 refine⟨hs,⟨fun h1=> ?_,fun h1=> ?_⟩,fun bs o q is c ws dq=> ?_⟩
 ·have h1:a2.op=1:=by simpa using h1
  have aO:=s6 he (.inl h1)
  have uP:fK a0 J a2=hd a0 J a2.aG:=by unfold fK;rw[if_pos h1]
  unfold Qj dW dQ iN fO fN fg
  refine⟨⟨hf,aO.1,aO.2⟩,fun aH=>⟨⟨nV,bZ,aO.1,by show a2.aG<(J.O.length:Int);omega,aO.2,oL⟩,fun q w lB=> ?_⟩,fun aH=> ?_⟩
  ·have aH:hd a0 J a2.aG=0:=by simpa using aH
   obtain⟨U,G,hv⟩:=lB
   rw[tp] at hv
   refine⟨G,uP.symm,?_⟩
   rw[MJ (by rw[uP,aH])]
   unfold jq
   rw[if_pos h1,hv,U];rfl
  ·have aH: ¬hd a0 J a2.aG=0:=by simpa using aH
   exact j6 _ uP.symm aH
 ·have h1: ¬a2.op=1:=by simpa using h1
  unfold Qk dW dQ iN fO fN fg
  refine⟨fun h2=> ?_,fun h2=> ?_⟩
  ·have h2:a2.op=2:=by simpa using h2
   have aO:=s6 he (.inr h2)
   refine⟨⟨nV,bZ,aO.1,by show a2.aG<(J.O.length:Int);omega,aO.2,tk⟩,fun w i b r lB=> ?_⟩
   unfold yT at lB
   rw[HT,tp] at lB
   obtain⟨G,ak,hv⟩:=lB
   have uP:fK a0 J a2=vR J a2.aG:=by unfold fK;rw[if_neg h1,if_pos h2];rfl
   refine⟨G,ak.trans uP.symm,?_⟩
   unfold kX
   rw[uP,hv]
   by_cases aH:vR J a2.aG=0
   ·rw[if_pos aH,if_pos aH]
    unfold jq Gq
    rw[if_neg h1,if_pos h2,VJ dn aO.1 aO.2]
    split<;>rfl
   ·rw[if_neg aH,if_neg aH];rfl
  have h2: ¬a2.op=2:=by simpa using h2
  have ok: ∀(o:List Bool) (q:List bL),fK a0 J a2=0→jq a0 J a2={J with aE:=o,ay:=q}→gB J.O (List.range J.O.length) (J.O.map av.ae)∧0=fK a0 J a2∧Frame.mk J.ok o q (view J.O (List.range J.O.length) (J.O.map av.ae))=kX a0 J a2:=fun o q hc aY=>⟨nV,hc.symm,by rw[MJ hc,eJ,aY]⟩
  unfold Qu B9 B8 dW dQ fO fN fg
  refine⟨fun aC=> ?_,fun aC=>⟨fun bg=> ?_,fun bg=> ?_⟩⟩
  ·have aC:a2.op=3:=by simpa using aC
   have aO:=LK he (.inl aC)
   refine⟨⟨aO.1,by show a2.aG.toNat<J.aE.length;omega⟩,ok _ _ ?_ ?_⟩
   ·unfold fK;rw[if_neg h1,if_neg h2,if_neg (by omega)]
   ·unfold jq;rw[if_neg h1,if_neg h2,if_pos (.inl aC),aC];rfl
  ·have bg:a2.op=4:=by simpa using bg
   have aO:=LK he (.inr bg)
   refine⟨⟨aO.1,by show a2.aG.toNat<J.aE.length;omega⟩,ok _ _ ?_ ?_⟩
   ·unfold fK;rw[if_neg h1,if_neg h2,if_neg (by omega)]
   ·unfold jq;rw[if_neg h1,if_neg h2,if_pos (.inr bg),bg];rfl
  have qw: ¬a2.op=3:=by simpa using aC
  have qx: ¬a2.op=4:=by simpa using bg
  have aC: ¬(a2.op=3∨a2.op=4):=by omega
  unfold Qt B6 dW dQ fO fN fg
  refine⟨fun ch=> ?_,fun ch=> ?_⟩
  ·have ch:a2.op=5:=by simpa using ch
   have aO:=As he (.inl ch)
   refine⟨⟨aO.1,by show a2.aG.toNat<J.ay.length;omega⟩,ok _ _ ?_ ?_⟩
   ·unfold fK;rw[if_neg h1,if_neg h2,if_neg (by omega)]
   ·unfold jq;rw[if_neg h1,if_neg h2,if_neg aC,if_pos ch];rfl
  have ch: ¬a2.op=5:=by simpa using ch
  refine⟨fun cy=> ?_,fun cy=>⟨fun hr=> ?_,fun hr=> ?_⟩⟩
  ·have cy:a2.op=6:=by simpa using cy
   have aO:=As he (.inr cy)
   have ii:fK a0 J a2=if j9 a0 J a2.aG=true then 2 else if lH a0 J a2.aG=true then 3 else 0:=by unfold fK;rw[if_neg h1,if_neg h2,if_pos cy]
   refine⟨⟨hf,aO.1,aO.2⟩,fun _=> ?_⟩
   unfold Qo Qn Fk B7 dW dQ fO fN fg
   have MX:=bZ.a7 _ (dT (show a2.aG.toNat<a0.a7.length by omega))
   refine⟨fun hc=> ?_,fun hc=>⟨⟨⟨aO.1,by omega⟩,MX.1,by omega⟩,fun aj=> ?_,fun aj=>⟨⟨aO.1,by show _<J.ay.length;omega⟩,ok _ _ ?_ ?_⟩⟩⟩
   ·rw[if_pos (show j9 a0 J a2.aG=true from hc)] at ii
    exact j6 2 ii.symm (by decide)
   ·rw[if_neg (show ¬j9 a0 J a2.aG=true by rw[show j9 a0 J a2.aG=false from hc];simp),if_pos (show lH a0 J a2.aG=true from aj)] at ii
    exact j6 3 ii.symm (by decide)
   ·rw[if_neg (show ¬j9 a0 J a2.aG=true by rw[show j9 a0 J a2.aG=false from hc];simp),if_neg (show ¬lH a0 J a2.aG=true by rw[show lH a0 J a2.aG=false from aj];simp)] at ii
    exact ii
   ·unfold jq;rw[if_neg h1,if_neg h2,if_neg aC,if_neg ch,if_pos cy];rfl
  ·have cy: ¬a2.op=6:=by simpa using cy
   have hr:a2.op=7:=by simpa using hr
   have ii:fK a0 J a2=0:=by unfold fK;rw[if_neg h1,if_neg h2,if_neg cy]
   unfold Qs vt dW dQ fO fN fg
   refine⟨⟨dA (dp _),nV,eJ⟩,fun bs is v ws aT=> ?_⟩
   obtain⟨aT,G,k7⟩:=aT
   have HW:ws.length=J.O.length:=by rw[←jT G.ok,k7,FG]
   refine⟨fun hv=>⟨G,ii.symm,?_⟩,fun hv=> ?_⟩
   ·have lC: ¬v<(J.O.length:Int):=of_decide_eq_false hv
    have aw:=aT.1
    have hb:=aT.2.1
    rw[MJ ii,k7,show v.toNat=J.O.length by omega]
    unfold jq;rw[if_neg h1,if_neg h2,if_neg aC,if_neg ch,if_neg cy,if_pos hr];rfl
   ·have ck:=cC aT hv
    have aQ:v.toNat<ws.length:=by omega
    have AM:v.toNat<a0.O.length:=by omega
    have cV:dl (iP a0 v.toNat J.O) is v (nth (iP a0 v.toNat J.O) v) ws bs:=dl.start G.ok G.lE aQ k7 G.len
    have a6:=da (by omega) aT hv rfl
    have tq:=kH (show(J.O.length:Int)≤4611686018427387904 by omega) aT.1 (of_decide_eq_true hv)
    have dt:=cV.B3 (IntKind.i64.wrap ((nth ws v).bU - 1))
    have fin: ∀{df:List Nat} {lQ:List av} {nT:List (List Bool)} {x:av},dl (iP a0 v.toNat J.O) df v x lQ nT→x=nf a0 v.toNat (nth (iP a0 v.toNat J.O) v)→(cr J.O.length (fun _=>false) (IntKind.i64.wrap (v+1))∧gB lQ df nT∧view lQ df nT=iP a0 (IntKind.i64.wrap (v+1)).toNat J.O)∧cM J.O.length (IntKind.i64.wrap (v+1))<cM J.O.length v:=fun F hx=>by
     refine⟨⟨a6.1,F.G,?_⟩,a6.2⟩
     rw[F.ib,hx,tq,show(v+1).toNat=v.toNat+1 by omega]
     show _=(iP a0 v.toNat J.O).set v.toNat (nf a0 v.toNat (nth (iP a0 v.toNat J.O) (v.toNat:Int)))
     rw[lG ck.1]
    have aO:(nth (ws.set v.toNat (av.mk (nth ws v).aF (nth ws v).bc (nth ws v).ae (nth ws v).bW (IntKind.i64.wrap ((nth ws v).bU - 1)))) v).bU=IntKind.i64.wrap ((nth ws v).bU - 1):=dt.bU
    have MC:c7 a0 (v.toNat:Int)=c7 a0 v:=by rw[Int.toNat_of_nonneg ck.1]
    unfold Qr Qq Qp B_ Fl qV dW dQ iN l6
    rw[aO,cV.bU,cV.aF]
    rw[cV.bU,cV.aF] at dt
    refine⟨⟨ck.1,aQ⟩,⟨cV.fY,fun aC=>fin cV ?_⟩,fun aC=>⟨⟨cV.fY,cV.fY⟩,dt.fY,fun aA=>⟨⟨dt.G,ck.1,by have:=dt.lt;omega⟩,fun w i b lB=> ?_⟩,fun aA=>fin dt ?_⟩⟩
    ·unfold nf;rw[if_neg (by simpa using aC)]
    ·obtain⟨qd,lC⟩:=lB
     refine fin (dt.again qd lC) ?_
     have hb:=RU dn v.toNat
     have ev:=VJ hb ck.1 (by omega)
     unfold nf
     rw[if_pos (by simpa using aC),if_pos (by simpa using aA),MC,←ev,dt.BD]
    ·unfold nf;rw[if_pos (by simpa using aC),if_neg (by simpa using aA)]
  ·have cy: ¬a2.op=6:=by simpa using cy
   have hr: ¬a2.op=7:=by simpa using hr
   refine ok _ _ ?_ ?_
   ·unfold fK;rw[if_neg h1,if_neg h2,if_neg cy]
   ·unfold jq;rw[if_neg h1,if_neg h2,if_neg aC,if_neg ch,if_neg cy,if_neg hr];rfl
 ·obtain⟨G,hc,aY⟩:=dq
  have ck:=YB dn he
  have pD:c1 (aV J).ok o q ws is bs=kX a0 J a2:=aY
  have mo:=vr a0 (kX a0 J a2) (kX a0 J a2).O.length
  unfold Ql iN
  refine⟨⟨G,bZ,by rw[pD];exact ck⟩,fun w i b lB=> ?_⟩
  obtain⟨qd,lC⟩:=lB
  rw[pD] at lC
  rw[←aY] at ck
  have aj:=ck.aE
  have U:=ck.ay
  replace aj:(o.length:Int)=a0.ao:=aj
  replace U:q.length=a0.a7.length:=U
  have HW:w.length=(kX a0 J a2).O.length:=by rw[←jT qd.ok,lC];exact rJ _ _ _
  have hml:(kX a0 J a2).O.length=a0.O.length:=by rw[←aY];exact ck.O
  rw[MS]
  refine⟨hc,?_,⟨by omega,?_⟩,⟨by omega,?_⟩,qd.ok,by omega,fun x hx=>by have:=qd.len x hx;omega,lC⟩
  ·show J.ok=(dV a0 (kX a0 J a2)).ok
   unfold dV;rw[mo.1,←aY]
  ·show o=(dV a0 (kX a0 J a2)).aE
   unfold dV;rw[mo.2.1,←aY]
  ·show q=(dV a0 (kX a0 J a2)).ay
   unfold dV;rw[mo.2.2,←aY])
def aou:dJ Tryz.prog:=⟨28,[.eO,.frame,.fQ],[.done],some fun x=>PN x.1 x.2.1 x.2.2.1,fun x=>((na x.1 x.2.1 x.2.2.1),()),fun x h=>aos x.1 x.2.1 x.2.2.1 h⟩
end
section
abbrev CP (r:Type):Type:=Nat→(List fj)→Bool→(List Bool)→(List bL)→(List av)→Int→r
variable (ai:CP Prop) (al:CP Nat) (a0:aL) (J:(List Event)) (g0:Nat) (aI:(List fj)) (gq:Bool) (gr:(List Bool)) (gu:(List bL)) (gv:(List av)) (ha:Int) (aa:(List fj))
abbrev nc:=na a0 (Frame.mk gq gr gu gv) (nth J ha)
abbrev tZ:=aV (Frame.mk gq gr gu gv)
abbrev Fo:=[(fj.mk (nc a0 J gq gr gu gv ha).code (tZ gq gr gu gv))]
def aa7:Prop:=
  ((aI.length+(Fo a0 J gq gr gu gv ha).length)*88≤140737488355328∧aI.length+(Fo a0 J gq gr gu gv ha).length≤4611686018427387904)∧(ai (g0+1) (aI++(Fo a0 J gq gr gu gv ha)) (tZ gq gr gu gv).ok (tZ gq gr gu gv).aE (tZ gq gr gu gv).ay (tZ gq gr gu gv).O (IntKind.i64.wrap (ha+1))∧al (g0+1) (aI++(Fo a0 J gq gr gu gv ha)) (tZ gq gr gu gv).ok (tZ gq gr gu gv).aE (tZ gq gr gu gv).ay (tZ gq gr gu gv).O (IntKind.i64.wrap (ha+1))<al g0 aI gq gr gu gv ha)
def aa8:Prop:=
  ((aI.length+[(nc a0 J gq gr gu gv ha)].length)*88≤140737488355328∧aI.length+[(nc a0 J gq gr gu gv ha)].length≤4611686018427387904)∧(ai (g0+1) (aI++[(nc a0 J gq gr gu gv ha)]) (nc a0 J gq gr gu gv ha).frame.ok (nc a0 J gq gr gu gv ha).frame.aE (nc a0 J gq gr gu gv ha).frame.ay (nc a0 J gq gr gu gv ha).frame.O (IntKind.i64.wrap (ha+1))∧al (g0+1) (aI++[(nc a0 J gq gr gu gv ha)]) (nc a0 J gq gr gu gv ha).frame.ok (nc a0 J gq gr gu gv ha).frame.aE (nc a0 J gq gr gu gv ha).frame.ay (nc a0 J gq gr gu gv ha).frame.O (IntKind.i64.wrap (ha+1))<al g0 aI gq gr gu gv ha)
def aa9:Prop:=
  (0≤ha∧ha.toNat<J.length)∧((PN a0 (Frame.mk gq gr gu gv) (nth J ha))∧((((nc a0 J gq gr gu gv ha).code==1)=true→(iu (Frame.mk gq gr gu gv))∧(aa7 ai al a0 J g0 aI gq gr gu gv ha))∧(((nc a0 J gq gr gu gv ha).code==1)=false→aa8 ai al a0 J g0 aI gq gr gu gv ha)))
def aa_:Prop:=
  ai 0 ([]:List fj) (cA a0).ok (cA a0).aE (cA a0).ay (cA a0).O 0∧ ∀(g0:Nat) (aI:(List fj)) (gq:Bool) (gr:(List Bool)) (gu:(List bL)) (gv:(List av)) (ha:Int),ai g0 aI gq gr gu gv ha→(((decide (ha<(J.length:Int)))=false→aI.length≤4611686018427387904∧aI=aa)∧((decide (ha<(J.length:Int)))=true→aa9 ai al a0 J g0 aI gq gr gu gv ha))
def aa6 (a0:aL) (J:(List Event)) (aa:(List fj)) (ai:CP Prop) (al:CP Nat):Prop:=
 (((!(eD a0)) || (decide ((J.length:Int)>1000)))=true→[]=aa)∧((!((!(eD a0)) || (decide ((J.length:Int)>1000))))=true→J.length≤4611686018427387904→aa_ ai al a0 J aa)
theorem aoF:bn Tryz.prog 20 [.agg (bD false a0),bA dL J] (pt (iy false) (sE a0 J)):=(fun(ai:CP Prop) (al:CP Nat) (h:aa6 a0 J (sE a0 J) ai al)=>bn.run (ps:=[.eO,(.l .fQ)]) (rs:=[(.l .done)]) (x:=(a0,J,())) (r:=((sE a0 J),())) ⟨44,dy,[aoP,aoo,aou,ao0]⟩ ⟨[],[],[],[],[]⟩ (.lp [(0,6,.done)] [2,5,20,21] [(5,4),(2,5)] [.nat,(.l .done),.bool,(.l .bool),(.l .e0),(.l .held),.int] [bJ 0,bJ 0,h4 5 0,h4 5 1,h4 5 2,h4 5 3,22] (fun aS=>[(6,.ref 0 aS.1 aS.2.1.length false),(22,.i .i64 aS.2.2.2.2.2.2.1),(h4 5 0,.b (.v aS.2.2.1)),(h4 5 1,.l .bool aS.2.2.2.1 false true),(h4 5 2,.l .e0 aS.2.2.2.2.1 false true),(h4 5 3,.l .held aS.2.2.2.2.2.1 false true),(bJ 0,.blk aS.1 .done aS.2.1 _ rfl)]) (fun aS=>ai aS.1 aS.2.1 aS.2.2.1 aS.2.2.2.1 aS.2.2.2.2.1 aS.2.2.2.2.2.1 aS.2.2.2.2.2.2.1) (fun aS=>al aS.1 aS.2.1 aS.2.2.1 aS.2.2.2.1 aS.2.2.2.2.1 aS.2.2.2.2.2.1 aS.2.2.2.2.2.2.1) fun _=> .nil) Tryz.func20 h) (fun _ x a b c e v=>cr J.length (fun _=>false) v∧x=p2 a0 (cA a0) (J.take v.toNat)∧Frame.mk a b c e=nb a0 (cA a0) (J.take v.toNat)) (fun _ _ _ _ _ _ v=>cM J.length v) (by
 unfold aa6
 refine⟨fun h=> ?_,fun h ag=> ?_⟩
 ·unfold sE
  rw[if_neg]
  rintro⟨h1,h2⟩
  rw[h1] at h
  have: ¬(J.length:Int)>1000:=by omega
  simp[this] at h
 have h:eD a0=true∧(J.length:Int)≤1000:=by simpa using h
 have e:sE a0 J=p2 a0 (cA a0) J:=by unfold sE;rw[if_pos ⟨h.1,by omega⟩]
 rw[e]
 unfold aa_
 refine⟨⟨dA (dp _),rfl,rfl⟩,fun g x a b c d v aT=> ?_⟩
 obtain⟨aT,rfl,au⟩:=aT
 have A0:=aT.2.1
 have iB:=aT.1
 have m1:(p2 a0 (cA a0) (J.take v.toNat)).length=v.toNat:=by rw[aaL,List.length_take];omega
 refine⟨fun hv=>⟨by omega,?_⟩,fun hv=> ?_⟩
 ·have: ¬v<(J.length:Int):=by simpa using hv
  rw[List.take_of_length_le (by omega)]
 have ck:=cC aT hv
 have a6:=da (cO ag) aT hv rfl
 have HR:iu (nb a0 (cA a0) (J.take v.toNat)):=aaM _ (Av (Gs h.1))
 have yw:J.take (IntKind.i64.wrap (v+1)).toNat=J.take v.toNat++[nth J v]:=by
  rw[kH (cO ag) iB (by simpa using hv),show(v+1).toNat=v.toNat+1 by omega,List.take_succ_eq_append_getElem ck.2,gX ck.2]
 have tm:=QJ a0 (nth J v) (J.take v.toNat) (cA a0)
 unfold aa9 nc
 rw[au]
 refine⟨ck,HR,fun he=>⟨HR,?_⟩,fun he=> ?_⟩
 ·have he:(na a0 (nb a0 (cA a0) (J.take v.toNat)) (nth J v)).code=1:=by simpa using he
  have hs:o9 a0 (nb a0 (cA a0) (J.take v.toNat)) (nth J v)=⟨(na a0 (nb a0 (cA a0) (J.take v.toNat)) (nth J v)).code,nb a0 (cA a0) (J.take v.toNat)⟩:=by unfold o9;rw[if_pos he]
  unfold aa7 Fo tZ nc
  rw[au]
  refine⟨⟨by simp only[List.length_singleton];omega,by simp only[List.length_singleton];omega⟩,⟨a6.1,?_,?_⟩,a6.2⟩
  ·rw[yw,tm.1,hs];rfl
  ·rw[yw,tm.2,hs];rfl
 ·have he: ¬(na a0 (nb a0 (cA a0) (J.take v.toNat)) (nth J v)).code=1:=by simpa using he
  have hs:o9 a0 (nb a0 (cA a0) (J.take v.toNat)) (nth J v)=na a0 (nb a0 (cA a0) (J.take v.toNat)) (nth J v):=by unfold o9;rw[if_neg he]
  unfold aa8 nc
  rw[au]
  refine⟨⟨by simp only[List.length_singleton];omega,by simp only[List.length_singleton];omega⟩,⟨a6.1,?_,?_⟩,a6.2⟩
  ·rw[yw,tm.1,hs]
  ·rw[yw,tm.2,hs])
end
end Go.Proofs.YtejmihecgodhnaaGreat.Fw
set_option linter.unusedVariables false
namespace Go.Proofs.YtejmihecgodhnaaGreat.Fw
open Go Go.RowKit
theorem To {es:List Event} {l:Int} (hk:jw es l) {w:World} {v:Value} (h:V2 (Env.at w) (.aP (es.map dL) false false) v):
    Calls Tryz.prog 19 #[v,.int .i64 l] w fun e w'=>e= .returned (.int .i64 (fc es l))∧Below w.heap.size w w':=
  bn.int (vs:=[v,.int .i64 l]) (ak5 es l hk) (.cons h (.cons (a1.int _ _) .nil))
theorem GD {es:List Event} (ab:small es) {w:World} {v:Value} (h:V2 (Env.at w) (.aP (es.map dL) false false) v):
    Calls Tryz.prog 21 #[v] w fun e w'=> ∃A c,e= .returned (.slice A es.length c)∧Below w.heap.size w w'∧ep w' (ec w w') (.aP (es.map dL) false false) (.slice A es.length c):=by
  refine(bn.CA (e:= .l .fQ) (x:=es) (vs:=[v]) (alh es ab) (.cons h .nil)).mono ?_
  rintro e w' ⟨ea,h1,h2,aC⟩
  have aC:ep w' (ec w w') (.aP (es.map dL) false false) ea:=aC
  obtain⟨A,c,rfl,_⟩:=vB aC
  rw[List.length_map] at h1 aC
  exact⟨A,c,h1,h2,aC⟩
theorem aeO {p:aL} {es:List Event} {de:List fj} (rm:xd p es=de) {w:World} {v u:Value} (h:V2 (Env.at w) (.agg (bD false p)) v) (h':V2 (Env.at w) (.aP (es.map dL) false false) u):
    Calls Tryz.prog 20 #[v,u] w fun e w'=> ∃A c,e= .returned (.slice A de.length c)∧Below w.heap.size w w'∧ep w' (ec w w') (.aP (de.map (iy false)) false false) (.slice A de.length c):=by
  have rm:sE p es=de:=(aol p es).trans rm
  subst rm
  refine(bn.CA (e:= .l .done) (x:=sE p es) (vs:=[v,u]) (aoF p es) (.cons h (.cons h' .nil))).mono ?_
  rintro e w' ⟨ea,h1,h2,aC⟩
  have aC:ep w' (ec w w') (.aP ((sE p es).map (iy false)) false false) ea:=aC
  obtain⟨A,c,rfl,_⟩:=vB aC
  rw[List.length_map] at h1 aC
  exact⟨A,c,h1,h2,aC⟩
theorem K8 {de:List fj} {w:World} {v u:Value} (h:V2 (Env.at w) (.aP (de.map (iy false)) false false) v) (k:V2 (Env.at w) (.aP (de.map (iy false)) false false) u):
    Calls Tryz.prog 23 #[v,u] w fun e w'=>e= .returned (.bool true)∧Below w.heap.size w w':=by
  have:=bn.bool (vs:=[v,u]) (akn de de) (.cons h (.cons k .nil))
  unfold eqv at this
  rw[decide_eq_true rfl] at this
  exact this
theorem aeE {es:List Event} {w:World} {v u:Value} (h:V2 (Env.at w) (.aP (es.map dL) false false) v) (k:V2 (Env.at w) (.aP (es.map dL) false false) u):
    Calls Tryz.prog 24 #[v,u] w fun e w'=>e= .returned (.bool true)∧Below w.heap.size w w':=by
  have:=bn.bool (vs:=[v,u]) (aks es es) (.cons h (.cons k .nil))
  unfold eqv at this
  rw[decide_eq_true rfl] at this
  exact this
theorem aeK {es:List Event} {w:World} {B:Nat→Prop} {v:Value} {k:Int} (h:ep w B (.aP (es.map dL) false false) v) (dF: ∀c,B c→Plain w c) (aA:0≤k) (h1:k+(es.length*3:Nat)≤4611686018427387904):
    Calls Tryz.prog 25 #[v,.int .i64 k] w fun e w'=>e= .returned (.int .i64 (k+(es.length*3:Nat)))∧dY B w w':=by
  have hb: ∀c,B c→B c∧Plain w c:=fun c hc=>⟨hc,dF c hc⟩
  have r:a1 w B (fun _=>False) (.aP (es.map dL) false false) v:=h
  have hk:=Br (e:= .fQ) (S:=B) (fun _ _=>1) r hb (fun _ h=>h.elim) fun x _ PB j bX a u _ ac aw ak=>by
    match j,ac,aw with
    | 0,ac,aw=>cases ac;cases aw;exact Bq ak
    | 1,ac,aw=>cases ac;cases aw;exact Bq ak
    | 2,ac,aw=>cases ac;cases aw;exact Bq ak
  have e:(es.map fun x=>cU (fun _=>1) (aX.bN .fQ).length).sum=es.length*3:=FD 3 es
  rw[e] at hk
  exact ame w B _ v k hk aA h1
def oN (lo hi:Nat) (de:List fj) (v:Value) (L:dm):dE where
  lo:=lo
  hi:=hi
  P:=fun w=>ep w (jX w lo hi) (.aP (de.map (iy false)) false false) v∧dZ w (jX w lo hi) (.l .done) 0 0 L v
  ar:=fun w w' h ab=>⟨ab.1.cT (fun c hc=>h c hc.1 hc.2.1) fun c hc=>⟨hc.1,hc.2.1,hc.2.2.same (h c hc.1 hc.2.1)⟩,ab.2.cT (fun c hc=>h c hc.1 hc.2.1) fun c hc=>⟨hc.1,hc.2.1,hc.2.2.same (h c hc.1 hc.2.1)⟩⟩
def wy (lo hi:Nat) (v:Value) (L:dm) (k:Int):dE where
  lo:=lo
  hi:=hi
  P:=fun w=>dZ w (jX w lo hi) (.l .done) 0 0 L v∧e8 w L k
  ar:=fun w w' h ab=>⟨ab.1.cT (fun c hc=>h c hc.1 hc.2.1) fun c hc=>⟨hc.1,hc.2.1,hc.2.2.same (h c hc.1 hc.2.1)⟩,ab.2.same ab.1.Is fun c hc=>h c hc.1 hc.2.1⟩
theorem cI.Y2 {W w w':World} {l:List dE} {de:List fj} {v:Value} {L:dm} (h:cI W w l) (hb:Below w.heap.size w w') (aO:ep w' (ec w w') (.aP (de.map (iy false)) false false) v) (hf:dZ w' (ec w w') (.l .done) 0 0 L v):cI W w' (l++[oN w.heap.size w'.heap.size de v L]):=
  h.made hb (oN w.heap.size w'.heap.size de v L) rfl rfl ⟨aO,hf⟩
theorem oN.at {W w:World} {l:List dE} (h:cI W w l) (j:Nat) {lo hi:Nat} {de:List fj} {v:Value} {L:dm} (e:l[j]?=some (oN lo hi de v L):=by rfl):V2 (Env.at w) (.aP (de.map (iy false)) false false) v:=
  (h.get j e).1.at fun c hc=>Nat.lt_of_lt_of_le hc.2.1 (h.hi j e)
theorem oN.xw {W w:World} {l:List dE} (h:cI W w l) (j:Nat) {lo hi:Nat} {de:List fj} {v:Value} {L:dm} (e:l[j]?=some (oN lo hi de v L)):dZ w (jX w lo hi) (.l .done) 0 0 L v:=(h.get j e).2
theorem wy.pR {W w:World} {l:List dE} (h:cI W w l) (j:Nat) {lo hi:Nat} {v:Value} {L:dm} {k:Int} (e:l[j]?=some (wy lo hi v L k)):dZ w (jX w lo hi) (.l .done) 0 0 L v∧e8 w L k:=h.get j e
theorem cI.amy {W w w':World} {l:List dE} (h:cI W w l) (j:Nat) {lo hi:Nat} {de:List fj} {v:Value} {L:dm} {k:Int} (e:l[j]?=some (oN lo hi de v L)) (ac:W.heap.size≤lo) (hm:gC w w' (jX w lo hi) L k):cI W w' (l.set j (wy lo hi v L k)):=
  h.mark j (oN lo hi de v L) e ac (fun c hc=>⟨hc.1,hc.2.1⟩) hm.fL (wy lo hi v L k) rfl rfl ⟨((h.get j e).2.fL hm.fL).cT (fun _ _=>rfl) hm.fL.pl,hm.pR⟩
theorem anC (p:aL) (es:List Event):((xd p es).map fun d=>2+mv d.frame).sum≤10000000000:=by
  unfold xd
  split
  · rename_i h
    have bZ:=w3 h.1
    have hx: ∀d∈lN p (cA p) es,(fun d:fj=>2+mv d.frame) d≤1000002:=fun d aY=>by
      have key: ∀(es:List Event) {f:Frame},Fit p f→ ∀d∈lN p f es,mv d.frame≤1000000:=fun es=>by
        induction es with
        | nil=>intro f hf d aY;cases aY
        | cons e es bp=>
          intro f hf d aY
          unfold lN at aY
          split at aY
          · rename_i he
            rcases List.mem_cons.1 aY with rfl | aY
            · exact YJ bZ (GO hf he).fr
            · exact bp (GO hf he) d aY
          · rcases List.mem_cons.1 aY with rfl | aY
            · exact YJ bZ hf.fr
            · exact bp hf d aY
      have:=key es (Gs h.1) d aY
      show 2+mv d.frame≤_
      omega
    have:=RK hx
    rw[xe] at this
    have:=Nat.mul_le_mul_right 1000002 h.2
    omega
  · exact Nat.zero_le _
set_option linter.unusedSimpArgs false
open Go Go.RowKit
set_option maxHeartbeats 4000000
set_option maxRecDepth 100000
theorem akc (p:aL) (es:List Event) (W:World) (iU iV iW lk:Option Addr) (a0 J a2 d0 d1 d2 fV kf:Nat) (ps kr:Int) (de:List fj) (rm:xd p es=de)
    (h1:ep W (fun c=>c<W.heap.size) (.agg (bD false p)) (.agg #[.int .i64 ps,.slice iU a0 d0,.slice iV J d1,.slice iW a2 d2,.int .i64 kr]))
    (h2:ep W (fun c=>c<W.heap.size) (.aP (es.map dL) false false) (.slice lk fV kf))
    (j6:(de.map fun d=>2+mv d.frame).sum≤10000000000) (hs:mz p≤1048576) (ww:mz p+es.length≤1048576):
    Calls Tryz.prog 4 #[.agg #[.int .i64 ps,.slice iU a0 d0,.slice iV J d1,.slice iW a2 d2,.int .i64 kr],.slice lk fV kf] W fun e w'=>e= .returned (.bool true)∧Below W.heap.size W w':=by
  have r0:Hid (cI W W [k8 W.heap.size (.agg (bD false p)) (.agg #[.int .i64 ps,.slice iU a0 d0,.slice iV J d1,.slice iW a2 d2,.int .i64 kr]) (.aP (es.map dL) false false) (.slice lk fV kf)]):=(cI.start W).add (k8 W.heap.size _ _ _ _) (Nat.le_refl _) ⟨h1,h2⟩ (fun j h=>by cases h)
  have mQ:=Lib.hid (r0.out.box #[.int .i64 ps,.slice iU a0 d0,.slice iV J d1,.slice iW a2 d2,.int .i64 kr] 26)
  clear r0 h1 h2
  have kI:sI p 1048576=1048576 - mz p:=by unfold sI fR;rw[if_neg (by omega)]
  have z2:fc es (1048576 - mz p)=1048576 - mz p - es.length:=by unfold fc fR;rw[if_neg (by omega)]
  obtain⟨z,qD⟩: ∃y:Int,(1048576:Int) - mz p=y:=⟨_,rfl⟩
  obtain⟨aqS,qE⟩: ∃y:Int,z - es.length=y:=⟨_,rfl⟩
  rw[qD] at kI z2
  rw[qE] at z2
  have xT:Hid (0≤z∧z≤1048576):=by unfold Hid;omega
  have De:=Lib.hid kI;clear kI
  have Z2:=Lib.hid z2;clear z2
  have Gc:Hid (P6 p):=hs
  have Gb:Hid (small es):=(show es.length≤1048576 by omega)
  have vL:=Lib.hid rm;clear rm
  obtain⟨ct,lY⟩: ∃n,(de.map fun d=>2+mv d.frame).sum=n:=⟨_,rfl⟩
  rw[lY] at j6
  obtain⟨c_,mY⟩: ∃y:Int,(1:Int)+(wS p:Nat)=y:=⟨_,rfl⟩
  obtain⟨hj,nZ⟩: ∃y:Int,c_+(es.length*3:Nat)=y:=⟨_,rfl⟩
  obtain⟨n9,HA⟩: ∃y:Int,(1:Int)+(ct:Nat)=y:=⟨_,rfl⟩
  have adV:=amk p
  have adt:Hid ((1:Int)+(wS p:Nat)≤4611686018427387904):=by unfold Hid;omega
  have SA:Hid (0≤c_∧c_+(es.length*3:Nat)≤4611686018427387904):=by unfold Hid;omega
  have adu:Hid ((1:Int)+(ct:Nat)≤4611686018427387904):=by unfold Hid;omega
  have g1:decide (z<0)=false:=decide_eq_false (by omega)
  have g2:decide (aqS<0)=false:=decide_eq_false (by omega)
  have g3:decide (hj<0)=false:=decide_eq_false (by omega)
  have g4:decide (n9<0)=false:=decide_eq_false (by omega)
  have r2:=Lib.hid mY
  have xL:=Lib.hid nZ
  have zT:=Lib.hid HA
  have adv:=Lib.hid lY
  clear mY nZ HA lY adV j6 qD qE hs ww
  go_enter Tryz.func4,Tryz.ntmps4
  go_wp2_with (go_at_call 6;refine(K_ (p:=p) (l:=1048576) ⟨by omega,by omega⟩ (k8.at mQ.out 0).1).mono ?_)
  rw[De.out]
  first
  | (rintro e bq rfl hb)
  | (rintro e bq ⟨rfl,hb⟩)
  have oz:=Lib.hid (mQ.out.below hb);clear hb mQ
  go_wp2_with (go_at_call 19;refine(To (es:=es) (l:=z) xT.out (k8.at oz.out 0).2).mono ?_)
  rw[Z2.out]
  first
  | (rintro e bo rfl hb)
  | (rintro e bo ⟨rfl,hb⟩)
  have q5:=Lib.hid (oz.out.below hb);clear hb oz
  obtain⟨cG,q1,q2,q3,q4⟩:=pu (q5.out.get 1)
  go_wp2_with (go_at_call 9;refine(GF Gc.out (k8.at q5.out 0).1).mono ?_)
  first
  | (rintro e bK bR aI bO ax bM bC rfl hb aO)
  | (rintro e bK ⟨bR,aI,bO,ax,bM,bC,rfl,hb,aO⟩)
  have zQ:=Lib.hid (q5.out.below hb)
  have xK:=Lib.hid (y6 aO)
  clear cG q1 q2 q3 q4 hb aO q5
  go_wp2_with (go_at_call 21;refine(GD Gb.out (k8.at zQ.out 0).2).mono ?_)
  first
  | (rintro e fF ui fq rfl hb aO)
  | (rintro e fF ⟨ui,fq,rfl,hb,aO⟩)
  have Sq:=Lib.hid (zQ.out.below hb)
  have zR:=Lib.hid (V2.below xK.out hb)
  have C9:=Lib.hid (y6 aO)
  clear hb aO zQ xK
  go_wp2_with (go_at_call 20;refine(aeO vL.out zR.out C9.out).mono ?_)
  first
  | (rintro e fi hY g0 rfl hb aO)
  | (rintro e fi ⟨hY,g0,rfl,hb,aO⟩)
  have F2:=Lib.hid (Sq.out.EM hb aO)
  clear hb aO Sq zR C9
  obtain⟨cG,q1,q2,q3,q4⟩:=pu (F2.out.get 1)
  go_wp2_with (go_at_call 9;refine(GF Gc.out (k8.at F2.out 0).1).mono ?_)
  first
  | (rintro e hW fu aI fv ax fw bC rfl hb aO)
  | (rintro e hW ⟨fu,aI,fv,ax,fw,bC,rfl,hb,aO⟩)
  have Sr:=Lib.hid (F2.out.EM hb aO);clear cG q1 q2 q3 q4 hb aO F2
  have Kk:=Lib.hid (Sr.out.box #[.int .i64 p.ao,.slice fu p.a7.length aI,.slice fv p.O.length ax,.slice fw p.bG.length bC,.int .i64 p.cB] 39);clear Sr
  go_wp2_with (go_at_call 21;refine(GD Gb.out (k8.at Kk.out 0).2).mono ?_)
  first
  | (rintro e nP uw fq rfl hb aO)
  | (rintro e nP ⟨uw,fq,rfl,hb,aO⟩)
  have C4:=Lib.hid (Kk.out.EM hb aO);clear hb aO Kk
  obtain⟨cG,q1,q2,q3,q4⟩:=pu (C4.out.get 4)
  go_wp2_with (go_at_call 22;refine(Tn vL.out (gl.at C4.out 3) (gl.at C4.out 5)).mono ?_)
  rintro e FK ⟨dx,aA,L,rfl,hb,aO,hf,aY,au⟩
  have FS:Hid (cI W FK [k8 W.heap.size (.agg (bD false p)) (.agg #[.int .i64 ps,.slice iU a0 d0,.slice iV J d1,.slice iW a2 d2,.int .i64 kr]) (.aP (es.map dL) false false) (.slice lk fV kf),pJ W.heap.size #[.int .i64 ps,.slice iU a0 d0,.slice iV J d1,.slice iW a2 d2,.int .i64 kr] 26,gl fF.heap.size fi.heap.size (.aP (de.map (iy false)) false false) (.slice hY de.length g0),gl fi.heap.size hW.heap.size (.agg (bD false p)) (.agg #[.int .i64 p.ao,.slice fu p.a7.length aI,.slice fv p.O.length ax,.slice fw p.bG.length bC,.int .i64 p.cB]),pJ hW.heap.size #[.int .i64 p.ao,.slice fu p.a7.length aI,.slice fv p.O.length ax,.slice fw p.bG.length bC,.int .i64 p.cB] 39,gl (hW.alloc (.cells #[.int .i64 p.ao,.slice fu p.a7.length aI,.slice fv p.O.length ax,.slice fw p.bG.length bC,.int .i64 p.cB] 39)).heap.size nP.heap.size (.aP (es.map dL) false false) (.slice uw es.length fq),oN nP.heap.size FK.heap.size de (.slice dx de.length aA) L]):=C4.out.Y2 hb aO hf
  have uk:=Lib.hid aY
  have qf:Hid (L.length=ct):=au.trans adv.out
  clear cG q1 q2 q3 q4 hb aO hf aY au C4
  go_wp2_with (go_at_call 23;refine(K8 (oN.at FS.out 6) (gl.at FS.out 2)).mono ?_)
  first
  | (rintro e acG rfl hb)
  | (rintro e acG ⟨rfl,hb⟩)
  have FT:Hid (cI W acG [k8 W.heap.size (.agg (bD false p)) (.agg #[.int .i64 ps,.slice iU a0 d0,.slice iV J d1,.slice iW a2 d2,.int .i64 kr]) (.aP (es.map dL) false false) (.slice lk fV kf),pJ W.heap.size #[.int .i64 ps,.slice iU a0 d0,.slice iV J d1,.slice iW a2 d2,.int .i64 kr] 26,gl fF.heap.size fi.heap.size (.aP (de.map (iy false)) false false) (.slice hY de.length g0),gl fi.heap.size hW.heap.size (.agg (bD false p)) (.agg #[.int .i64 p.ao,.slice fu p.a7.length aI,.slice fv p.O.length ax,.slice fw p.bG.length bC,.int .i64 p.cB]),pJ hW.heap.size #[.int .i64 p.ao,.slice fu p.a7.length aI,.slice fv p.O.length ax,.slice fw p.bG.length bC,.int .i64 p.cB] 39,gl (hW.alloc (.cells #[.int .i64 p.ao,.slice fu p.a7.length aI,.slice fv p.O.length ax,.slice fw p.bG.length bC,.int .i64 p.cB] 39)).heap.size nP.heap.size (.aP (es.map dL) false false) (.slice uw es.length fq),oN nP.heap.size FK.heap.size de (.slice dx de.length aA) L]):=FS.out.below hb
  clear hb FS
  go_wp2_with fail
  go_region_held3 (fun w'=>cI W w' [k8 W.heap.size (.agg (bD false p)) (.agg #[.int .i64 ps,.slice iU a0 d0,.slice iV J d1,.slice iW a2 d2,.int .i64 kr]) (.aP (es.map dL) false false) (.slice lk fV kf),pJ W.heap.size #[.int .i64 ps,.slice iU a0 d0,.slice iV J d1,.slice iW a2 d2,.int .i64 kr] 26,gl fF.heap.size fi.heap.size (.aP (de.map (iy false)) false false) (.slice hY de.length g0),gl fi.heap.size hW.heap.size (.agg (bD false p)) (.agg #[.int .i64 p.ao,.slice fu p.a7.length aI,.slice fv p.O.length ax,.slice fw p.bG.length bC,.int .i64 p.cB]),pJ hW.heap.size #[.int .i64 p.ao,.slice fu p.a7.length aI,.slice fv p.O.length ax,.slice fw p.bG.length bC,.int .i64 p.cB] 39,gl (hW.alloc (.cells #[.int .i64 p.ao,.slice fu p.a7.length aI,.slice fv p.O.length ax,.slice fw p.bG.length bC,.int .i64 p.cB] 39)).heap.size nP.heap.size (.aP (es.map dL) false false) (.slice uw es.length fq),oN nP.heap.size FK.heap.size de (.slice dx de.length aA) L]∧w'.cell? ⟨hW.heap.size,0,none⟩=some (.int .i64 p.ao)∧w'.cell? ⟨hW.heap.size,1,none⟩=some (.slice fu p.a7.length aI)∧w'.cell? ⟨hW.heap.size,2,none⟩=some (.slice fv p.O.length ax)∧w'.cell? ⟨hW.heap.size,3,none⟩=some (.slice fw p.bG.length bC)∧w'.cell? ⟨hW.heap.size,4,none⟩=some (.int .i64 p.cB)∧w'.cell? ⟨W.heap.size,0,none⟩=some (.int .i64 ps)∧w'.cell? ⟨W.heap.size,1,none⟩=some (.slice iU a0 d0)∧w'.cell? ⟨W.heap.size,2,none⟩=some (.slice iV J d1)∧w'.cell? ⟨W.heap.size,3,none⟩=some (.slice iW a2 d2)∧w'.cell? ⟨W.heap.size,4,none⟩=some (.int .i64 kr))
    (first
      | exact aah FT.out.drewN 4 1
      | (refine aah ?_ 4 1 rfl rfl;assumption))
    (first
      | (go_at_call 9;refine(GF Gc.out (k8.at FT.out.drewN 0).1).mono ?_;rintro e arB ⟨cL,hJ,aqX,hL,aqY,iQ,rfl,yf,Ea⟩;have DX:=FT.out.drewN.below yf)
      | (go_at_call 13;refine(aeF (gl.at DX 3) (y6 Ea)).mono ?_;rintro e aqg ⟨rfl,tc⟩;have Vh:=DX.below tc))
  have Kh:Hid (cI W aqg [k8 W.heap.size (.agg (bD false p)) (.agg #[.int .i64 ps,.slice iU a0 d0,.slice iV J d1,.slice iW a2 d2,.int .i64 kr]) (.aP (es.map dL) false false) (.slice lk fV kf),pJ W.heap.size #[.int .i64 ps,.slice iU a0 d0,.slice iV J d1,.slice iW a2 d2,.int .i64 kr] 26,gl fF.heap.size fi.heap.size (.aP (de.map (iy false)) false false) (.slice hY de.length g0),gl fi.heap.size hW.heap.size (.agg (bD false p)) (.agg #[.int .i64 p.ao,.slice fu p.a7.length aI,.slice fv p.O.length ax,.slice fw p.bG.length bC,.int .i64 p.cB]),pJ hW.heap.size #[.int .i64 p.ao,.slice fu p.a7.length aI,.slice fv p.O.length ax,.slice fw p.bG.length bC,.int .i64 p.cB] 39,gl (hW.alloc (.cells #[.int .i64 p.ao,.slice fu p.a7.length aI,.slice fv p.O.length ax,.slice fw p.bG.length bC,.int .i64 p.cB] 39)).heap.size nP.heap.size (.aP (es.map dL) false false) (.slice uw es.length fq),oN nP.heap.size FK.heap.size de (.slice dx de.length aA) L]):=Vh
  clear Vh DX yf tc Ea FT
  go_wp2_with (go_at_call 21;refine(GD Gb.out (k8.at Kh.out 0).2).mono ?_)
  first
  | (rintro e aqh ui b0 rfl hb aO)
  | (rintro e aqh ⟨ui,b0,rfl,hb,aO⟩)
  have Ki:=Lib.hid (Kh.out.below hb)
  have Sy:=Lib.hid (y6 aO)
  clear hb aO Kh
  go_wp2_with (go_at_call 24;refine(aeE (gl.at Ki.out 5) Sy.out).mono ?_)
  first
  | (rintro e zG rfl hb)
  | (rintro e zG ⟨rfl,hb⟩)
  have C3:=Lib.hid (Ki.out.below hb);clear hb Ki Sy
  obtain⟨cG,q1,q2,q3,q4⟩:=pu (C3.out.get 4)
  go_wp2_with (go_at_call 15;refine(aeL (C3.out.told 3 rfl) (fun c hc=>hc.2.2) (by decide) adt.out).mono ?_)
  rw[r2.out]
  first
  | (rintro e aqi rfl hb)
  | (rintro e aqi ⟨rfl,hb⟩)
  have FU:=Lib.hid (C3.out.forget 3 rfl (C3.out.after 0 3 rfl rfl (by omega)) hb);clear cG q1 q2 q3 q4 hb C3
  go_wp2_with (go_at_call 25;refine(aeK (FU.out.told 5 rfl) (fun c hc=>hc.2.2) SA.out.1 SA.out.2).mono ?_)
  rw[xL.out]
  first
  | (rintro e aqj rfl hb)
  | (rintro e aqj ⟨rfl,hb⟩)
  have FV:=Lib.hid (FU.out.forget 5 rfl (FU.out.after 0 5 rfl rfl (by omega)) hb);clear hb FU
  go_wp2_with (go_at_call 23;refine(K8 (oN.at FV.out 6) (gl.at FV.out 2)).mono ?_)
  first
  | (rintro e ds rfl hb)
  | (rintro e ds ⟨rfl,hb⟩)
  have FW:=Lib.hid (FV.out.below hb);clear hb FV
  have Kt:Hid ((1:Int)+(L.length:Nat)≤4611686018427387904):=by rw[qf.out];exact adu.out
  go_wp2_with (go_at_call 26;refine(apX _ _ _ _ _ (oN.xw FW.out 6 rfl) uk.out (by decide) Kt.out).mono ?_)
  rw[qf.out,zT.out]
  first
  | (rintro e vC rfl hb)
  | (rintro e vC ⟨rfl,hb⟩)
  have FX:=Lib.hid (FW.out.amy 6 rfl (FW.out.after 0 6 rfl rfl (by omega)) hb);clear hb FW
  go_wp2_with (go_at_call 27;refine(UY _ _ _ _ _ (wy.pR FX.out 6 rfl).1 (wy.pR FX.out 6 rfl).2 (by decide) Kt.out).mono ?_)
  rw[qf.out,zT.out]
  first
  | (rintro e aqk rfl hb)
  | (rintro e aqk ⟨rfl,hb⟩)
  have FY:=Lib.hid (FX.out.below hb);clear hb FX
  obtain⟨cG,q1,q2,q3,q4⟩:=pu (FY.out.get 1)
  go_wp2_with (go_at_call 9;refine(GF Gc.out (k8.at FY.out 0).1).mono ?_)
  first
  | (rintro e cS jl bE jm bz jn bu rfl hb aO)
  | (rintro e cS ⟨jl,bE,jm,bz,jn,bu,rfl,hb,aO⟩)
  have Kj:=Lib.hid (FY.out.below hb)
  have xK:=Lib.hid (y6 aO)
  clear cG q1 q2 q3 q4 hb aO FY
  go_wp2_with (go_at_call 21;refine(GD Gb.out (k8.at Kj.out 0).2).mono ?_)
  first
  | (rintro e aql jo d0 rfl hb aO)
  | (rintro e aql ⟨jo,d0,rfl,hb,aO⟩)
  have Sp:=Lib.hid (Kj.out.below hb)
  have zR:=Lib.hid (V2.below xK.out hb)
  have C9:=Lib.hid (y6 aO)
  clear hb aO Kj xK
  go_wp2_with (go_at_call 22;refine(Tn vL.out zR.out C9.out).mono ?_)
  rintro e CR ⟨eQ,cF,aqW,rfl,hb,aO,hf,aY,au⟩
  have F0:=Lib.hid (Sp.out.EM hb aO)
  clear hb aO hf aY au Sp zR C9
  go_wp2_with (go_at_call 23;refine(K8 (gl.at F0.out 7) (gl.at F0.out 2)).mono ?_)
  first
  | (rintro e aqm rfl hb)
  | (rintro e aqm ⟨rfl,hb⟩)
  have F1:=Lib.hid (F0.out.below hb);clear hb F0
  go_wp2_with (go_at_call 27;refine(UY _ _ _ _ _ (wy.pR F1.out 6 rfl).1 (wy.pR F1.out 6 rfl).2 (by decide) Kt.out).mono ?_)
  rw[qf.out,zT.out]
  first
  | (rintro e aqn rfl hb)
  | (rintro e aqn ⟨rfl,hb⟩)
  have adg:=Lib.hid (F1.out.below hb);clear hb F1
  go_wp2
  go_ret
  exact⟨rfl,adg.out.end⟩
theorem akd (p:aL) (es:List Event) (W:World) (iU iV iW lk:Option Addr) (a0 J a2 d0 d1 d2 fV kf:Nat) (ps kr:Int)
    (h1:ep W (fun c=>c<W.heap.size) (.agg (bD false p)) (.agg #[.int .i64 ps,.slice iU a0 d0,.slice iV J d1,.slice iW a2 d2,.int .i64 kr])) (hs:1048576<mz p):
    Calls Tryz.prog 4 #[.agg #[.int .i64 ps,.slice iU a0 d0,.slice iV J d1,.slice iW a2 d2,.int .i64 kr],.slice lk fV kf] W fun e w'=>e= .returned (.bool true)∧Below W.heap.size W w':=by
  have qe:Hid (Below W.heap.size W (W.alloc (.cells #[.int .i64 ps,.slice iU a0 d0,.slice iV J d1,.slice iW a2 d2,.int .i64 kr] 26))):=(Below.refl _ _).alloc (Nat.le_refl _) _
  have jp:Hid (V2 (Env.at (W.alloc (.cells #[.int .i64 ps,.slice iU a0 d0,.slice iV J d1,.slice iW a2 d2,.int .i64 kr] 26))) (.agg (bD false p)) (.agg #[.int .i64 ps,.slice iU a0 d0,.slice iV J d1,.slice iW a2 d2,.int .i64 kr])):=(h1.cT (fun c hc=>qe.out.block c hc) (fun _ h=>h)).at fun c hc=>Nat.lt_of_lt_of_le hc qe.out.size
  have De:Hid (sI p 1048576= -1):=by unfold Hid sI fR;rw[if_pos (by omega)]
  clear h1 hs
  go_enter Tryz.func4,Tryz.ntmps4
  go_wp2_with (go_at_call 6;refine(K_ (p:=p) (l:=1048576) ⟨by omega,by omega⟩ jp.out).mono ?_)
  rw[De.out]
  first
  | (rintro e bq rfl hb)
  | (rintro e bq ⟨rfl,hb⟩)
  have adb:=Lib.hid (qe.out.trans (hb.mono qe.out.size));clear hb
  go_wp2
  go_ret
  exact⟨rfl,adb.out⟩
theorem ake (p:aL) (es:List Event) (W:World) (iU iV iW lk:Option Addr) (a0 J a2 d0 d1 d2 fV kf:Nat) (ps kr:Int)
    (h1:ep W (fun c=>c<W.heap.size) (.agg (bD false p)) (.agg #[.int .i64 ps,.slice iU a0 d0,.slice iV J d1,.slice iW a2 d2,.int .i64 kr]))
    (h2:ep W (fun c=>c<W.heap.size) (.aP (es.map dL) false false) (.slice lk fV kf))
    (hs:mz p≤1048576) (ww:1048576<mz p+es.length):
    Calls Tryz.prog 4 #[.agg #[.int .i64 ps,.slice iU a0 d0,.slice iV J d1,.slice iW a2 d2,.int .i64 kr],.slice lk fV kf] W fun e w'=>e= .returned (.bool true)∧Below W.heap.size W w':=by
  have r0:Hid (cI W W [k8 W.heap.size (.agg (bD false p)) (.agg #[.int .i64 ps,.slice iU a0 d0,.slice iV J d1,.slice iW a2 d2,.int .i64 kr]) (.aP (es.map dL) false false) (.slice lk fV kf)]):=(cI.start W).add (k8 W.heap.size _ _ _ _) (Nat.le_refl _) ⟨h1,h2⟩ (fun j h=>by cases h)
  have mQ:=Lib.hid (r0.out.box #[.int .i64 ps,.slice iU a0 d0,.slice iV J d1,.slice iW a2 d2,.int .i64 kr] 26)
  clear r0 h1 h2
  have kI:sI p 1048576=1048576 - mz p:=by unfold sI fR;rw[if_neg (by omega)]
  have z2:fc es (1048576 - mz p)= -1:=by unfold fc fR;rw[if_pos (by omega)]
  obtain⟨gf,yx⟩: ∃y:Int,(1048576:Int) - mz p=y:=⟨_,rfl⟩
  rw[yx] at kI z2
  have xT:Hid (0≤gf∧gf≤1048576):=by unfold Hid;omega
  have De:=Lib.hid kI;clear kI
  have Z2:=Lib.hid z2;clear z2
  have g1:decide (gf<0)=false:=decide_eq_false (by omega)
  clear yx hs ww
  go_enter Tryz.func4,Tryz.ntmps4
  go_wp2_with (go_at_call 6;refine(K_ (p:=p) (l:=1048576) ⟨by omega,by omega⟩ (k8.at mQ.out 0).1).mono ?_)
  rw[De.out]
  first
  | (rintro e bq rfl hb)
  | (rintro e bq ⟨rfl,hb⟩)
  have oz:=Lib.hid (mQ.out.below hb);clear hb mQ
  go_wp2_with (go_at_call 19;refine(To (es:=es) (l:=gf) xT.out (k8.at oz.out 0).2).mono ?_)
  rw[Z2.out]
  first
  | (rintro e bo rfl hb)
  | (rintro e bo ⟨rfl,hb⟩)
  have q5:=Lib.hid (oz.out.below hb);clear hb oz
  go_wp2
  go_ret
  exact⟨rfl,q5.out.end⟩
theorem akf (a0:aL) (J:List Event):bn Tryz.prog 4 [.agg (bD false a0),.aP (J.map dL) false false] (.bool true):=by
  refine bn.amv (by kernel_rfl) fun W vs aw=> ?_
  obtain⟨arq,vs,rfl,h1,aw⟩:=aw.cons_inv
  obtain⟨agz,vs,rfl,h2,aw⟩:=aw.cons_inv
  obtain rfl:=aw.pT
  have t1:=aqs (e:= .eO) (x:=a0) h1
  have t2:ep W (fun c=>c<W.heap.size) (.aP (J.map dL) false false) agz:=a1.YS (e:= .l .fQ) (x:=J) (PA:=fun c=>c<W.heap.size) (PF:=fun c=>c<W.heap.size∧Plain W c) (fun _ h=>h) h2
  obtain⟨iU,d0,iV,d1,iW,d2,rfl,_⟩:=JV t1
  obtain⟨cj,eg,rfl,_⟩:=vB t2
  by_cases hs:mz a0≤1048576
  · by_cases ww:mz a0+J.length≤1048576
    · exact akc a0 J W iU iV iW cj _ _ _ d0 d1 d2 _ eg _ _ _ rfl t1 t2 (anC a0 J) hs ww
    · exact ake a0 J W iU iV iW cj _ _ _ d0 d1 d2 _ eg _ _ t1 t2 hs (by omega)
  · exact akd a0 J W iU iV iW cj _ _ _ d0 d1 d2 _ eg _ _ t1 (by omega)
end Go.Proofs.YtejmihecgodhnaaGreat.Fw
