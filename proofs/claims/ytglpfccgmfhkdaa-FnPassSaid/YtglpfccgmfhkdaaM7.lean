/- Walks and summaries of functions, printed by a program of mine (tools/mk2.py), with the proofs of what they owe. -/
import Derived.Test.YtglpfccgmfhkdaaM6
set_option linter.unusedVariables false
set_option maxRecDepth 100000
set_option maxHeartbeats 4000000
set_option linter.unusedSimpArgs false
namespace Go.Proofs.Ytglpfccgmfhkdaa.Fw
open Go
attribute [local irreducible] evS evSD WpS Weak Oper.looksAt
noncomputable def EI:Code:=hM Try.f32
def Xr:List Item:=[au 0,au 1,au 2,au 3,au 4,⟨5,true,false,[0,1]⟩,au 6,⟨7,true,false,[0,1]⟩,⟨8,true,false,[]⟩,au 9,⟨10,true,false,[]⟩]
def Xs:List (List Nat):=[[],[0],[],[2],[2,3],[2,3,4],rg 2 6,rg 2 7,rg 0 8,rg 0 9,rg 0 10]
def ED (aW:Nat→(List aN)→Int→List (List Bool)→Nat→Nat→List Nat→Int→List aa→Prop) (aX:Nat→(List aN)→Int→List (List Bool)→Nat→Nat→List Nat→Int→List aa→Nat) (J:aB) (a3:Nat) (aL:(List aN)) (fh:Int) (aG:List (List Bool)) (aY bX:Nat) (aE:List Nat) (bH:Int) (ws2:List aa):Prop:=
  aW a3 aL fh (aG++[(List.replicate (((nth J.ways bH).ai).length:Int).toNat false)]) (aY+1) (bX+1) (aE++[aG.length]) (IntKind.i64.wrap (bH+1)) (ws2++[(aa.mk 0 0 (List.replicate (((nth J.ways bH).ai).length:Int).toNat false) false 0)])∧aX a3 aL fh (aG++[(List.replicate (((nth J.ways bH).ai).length:Int).toNat false)]) (aY+1) (bX+1) (aE++[aG.length]) (IntKind.i64.wrap (bH+1)) (ws2++[(aa.mk 0 0 (List.replicate (((nth J.ways bH).ai).length:Int).toNat false) false 0)])<aX a3 aL fh aG aY bX aE bH ws2
def EE (aW:Nat→(List aN)→Int→List (List Bool)→Nat→Nat→List Nat→Int→List aa→Prop) (aX:Nat→(List aN)→Int→List (List Bool)→Nat→Nat→List Nat→Int→List aa→Nat) (J:aB) (a3:Nat) (aL:(List aN)) (fh:Int) (aG:List (List Bool)) (aY bX:Nat) (aE:List Nat) (bH:Int) (ws2:List aa):Prop:=
  ((0≤bH∧bH.toNat<J.ways.length)∧((0≤(((nth J.ways bH).ai).length:Int)∧1*(((nth J.ways bH).ai).length:Int)≤140737488355328∧(((nth J.ways bH).ai).length:Int)≤4611686018427387904)∧(ws2.length=aE.length∧((ws2.length+1)*56≤140737488355328∧ws2.length+1≤4611686018427387904))))∧(ED aW aX J a3 aL fh aG aY bX aE bH ws2)
def EF (aW:Nat→(List aN)→Int→List (List Bool)→Nat→Nat→List Nat→Int→List aa→Prop) (aX:Nat→(List aN)→Int→List (List Bool)→Nat→Nat→List Nat→Int→List aa→Nat) (J:aB) (ar:Frame) (a3:Nat) (aL:(List aN)) (fh:Int) (aG:List (List Bool)) (aY bX:Nat) (aE:List Nat) (bH:Int) (ws2:List aa):Prop:=
  ((decide (bH<(J.ways.length:Int)))=false→(true=ar.ok)∧((List.replicate J.ai.toNat false).length≤4611686018427387904∧(List.replicate J.ai.toNat false)=ar.al)∧(aL.length≤4611686018427387904∧aL=ar.ak)∧(iQ ws2 aE aG∧ws2.length≤4611686018427387904∧(∀x∈aG,List.length x≤4611686018427387904)∧view ws2 aE aG=ar.ways))∧((decide (bH<(J.ways.length:Int)))=true→EE aW aX J a3 aL fh aG aY bX aE bH ws2)
def EG (aw:Nat→(List aN)→Int→Prop) (ay:Nat→(List aN)→Int→Nat) (aW:Nat→(List aN)→Int→List (List Bool)→Nat→Nat→List Nat→Int→List aa→Prop) (aX:Nat→(List aN)→Int→List (List Bool)→Nat→Nat→List Nat→Int→List aa→Nat) (J:aB) (ar:Frame) (a3:Nat) (aL:(List aN)) (fh:Int):Prop:=
  ((decide (fh<(J.bh.length:Int)))=false→J.ways.length≤4611686018427387904→aW a3 aL fh ([]:List (List Bool)) 0 0 ([]:List Nat) 0 ([]:List aa)∧ ∀(aG:List (List Bool)) (aY:Nat) (bX:Nat) (aE:List Nat) (bH:Int) (ws2:List aa),aW a3 aL fh aG aY bX aE bH ws2→(EF aW aX J ar a3 aL fh aG aY bX aE bH ws2))∧((decide (fh<(J.bh.length:Int)))=true→((aL.length+[(aN.mk 1 1)].length)*16≤140737488355328∧aL.length+[(aN.mk 1 1)].length≤4611686018427387904)∧(aw (a3+1) (aL++[(aN.mk 1 1)]) (IntKind.i64.wrap (fh+1))∧ay (a3+1) (aL++[(aN.mk 1 1)]) (IntKind.i64.wrap (fh+1))<ay a3 aL fh))
def EH (aw:Nat→(List aN)→Int→Prop) (ay:Nat→(List aN)→Int→Nat) (aW:Nat→(List aN)→Int→List (List Bool)→Nat→Nat→List Nat→Int→List aa→Prop) (aX:Nat→(List aN)→Int→List (List Bool)→Nat→Nat→List Nat→Int→List aa→Nat) (J:aB) (ar:Frame):Prop:=
  ((!(dv J))=true→(false=ar.ok)∧([]=ar.al)∧([]=ar.ak)∧([]=ar.ways))∧((!(!(dv J)))=true→(0≤J.ai∧1*J.ai≤140737488355328∧J.ai≤4611686018427387904)∧(J.bh.length≤4611686018427387904→aw 0 ([]:List aN) 0∧ ∀(a3:Nat) (aL:(List aN)) (fh:Int),aw a3 aL fh→(EG aw ay aW aX J ar a3 aL fh)))
def EC (J:aB) (ar:Frame) (aw:Nat→(List aN)→Int→Prop) (ay:Nat→(List aN)→Int→Nat) (aW:Nat→(List aN)→Int→List (List Bool)→Nat→Nat→List Nat→Int→List aa→Prop) (aX:Nat→(List aN)→Int→List (List Bool)→Nat→Nat→List Nat→Int→List aa→Nat):Prop:=
 EH aw ay aW aX J ar
theorem Xt (J:aB) (ar:Frame) (aw:Nat→(List aN)→Int→Prop) (ay:Nat→(List aN)→Int→Nat) (aW:Nat→(List aN)→Int→List (List Bool)→Nat→Nat→List Nat→Int→List aa→Prop) (aX:Nat→(List aN)→Int→List (List Bool)→Nat→Nat→List Nat→Int→List aa→Nat) (h:EC J ar aw ay aW aX):b3 Try.prog 32 [.agg (a8 false J)] (.agg (bS true ar)):=by
 unfold EC at h
 refine dj.go (fn:=Try.f32) [(0,.agg (a8 false J))] Try.func32 ?_
 show WpS _ (bK EI 1) _ ⟨a4 45 [(0,.agg (a8 false J))],[],[]⟩
 refine m_ [1000003] 0 [(2,an 2 0),(1,an 1 0)] [2] [] [(2,[ah false,ao,ao,ao]),(1,(a8 false J))] [] ?_
 unfold EH at h
 obtain⟨ke,h⟩:=h
 refine b0 [] [2] ((!(!(dv J)))=true) ?_ (fun q2=> ?_)
 ·
  replace h:=ke
  refine b0 [(8,ah (!(dv J)))] [2] (True) ?_ (fun q3=> ?_)
  ·
   refine bm [1000003] 1 ?_
   refine ic 2 (some 7) [(6,.agg (a8 false J))] [.agg (a8 false J)] (E9 J) (av.cons (ck.agg (av.cons (.int _ _) (av.cons b7 (av.cons b7 (av.cons b7 (av.cons (.int _ _) av.nil)))))) av.nil) ?_
   exact bL [(8,ah (!(dv J)))] trivial
  refine cN (fun q4=> ?_) (fun q4=> ?_)
  ·
   replace h:=h q4
   refine cQ [1000003] 2 [(9,.agg [ah false,ao,ao,ao])] [] [0,1,1] ?_
   exact e8 (bR.ret (iz (.agg [ah false,ao,ao,ao]) (gd.agg (av.cons (iN h.1) (av.cons (nA h.2.1) (av.cons (nA h.2.2.1) (av.cons (nA h.2.2.2) av.nil)))))))
  ·
   refine c6 ?_
   exact bR.normal (by simp only[q4]<;>rfl) cW
 replace h:=h q2
 obtain⟨kd,h⟩:=h
 refine dD [(3,an 3 0)] [2] (fun L=>(3,[ah true,ae 0 0 ((List.replicate J.ai.toNat false).length),ao,ao])::L) (fun _=>[⟨0,1,List.map aH (List.replicate J.ai.toNat false)⟩]) (True) ?_ (fun cT=> ?_)
 ·
  replace h:=kd
  refine bm [1000003] 3 ?_
  have et:=h
  refine Ep 3 (some 12) [(11,ac J.ai),(10,an 1 0)] aH 1 [ah false] 0 (fun r=>[⟨0,1,r⟩]) false et ?_
  exact bL [(3,an 3 0),(13,.agg [ah true,ae 0 0 ((List.replicate J.ai.toNat false).length),ao,ao])] trivial
 refine fy ?_
 refine b0 [(16,ac (J.bh.length:Int)),(17,ac 0)] [3] (J.bh.length≤4611686018427387904) ?_ (fun eB=> ?_)
 ·
  refine bm [1000003] 4 ?_
  refine sLen 3 (some 16) [(15,bo bW J.bh),(14,an 1 1)] bW J.bh (fun gU=> ?_)
  exact bL [(17,ac 0)] gU
 replace h:=h eB
 refine dM 0 ?_
 refine WpS.jd ?_ (fK (s'':=⟨(a4 45 [(16,ac (J.bh.length:Int)),(17,ac 0),(3,an 3 0),(2,an 2 0),(1,an 1 0)]),[(3,[ah true,ae 0 0 ((List.replicate J.ai.toNat false).length),ae 1 0 (([]:List aN).length),ao]),(2,[ah false,ao,ao,ao]),(1,(a8 false J))],[⟨0,1,List.map aH (List.replicate J.ai.toNat false)⟩,⟨0,2,List.map a1 ([]:List aN)⟩]⟩) (Weak.nG (T:=(a4 45 [(16,ac (J.bh.length:Int)),(17,ac 0),(3,an 3 0),(2,an 2 0),(1,an 1 0)])) (L:=[(3,[ah true,ae 0 0 ((List.replicate J.ai.toNat false).length),ao,ao]),(2,[ah false,ao,ao,ao]),(1,(a8 false J))]) (H:=[⟨0,1,List.map aH (List.replicate J.ai.toNat false)⟩]) (cells:=[ah true,ae 0 0 ((List.replicate J.ai.toNat false).length),ao,ao]) 3 2 2 (by kernel_rfl) (by kernel_rfl)) (by kernel_rfl))
 obtain⟨hn,h⟩:=h
 refine hr (fun(v:Nat×(List aN)×Int)=>(⟨(a4 45 [(1,an 1 0),(2,an 2 0),(3,an 3 0),(16,ac (J.bh.length:Int)),(17,ac (v.2.2))]),[(3,[ah true,ae 0 0 ((List.replicate J.ai.toNat false).length),ae 1 (v.1) ((v.2.1).length),ao]),(2,[ah false,ao,ao,ao]),(1,(a8 false J))],[⟨0,1,List.map aH (List.replicate J.ai.toNat false)⟩,⟨(v.1),2,List.map a1 (v.2.1)⟩]⟩:St)) (fun(v:Nat×(List aN)×Int)=>aw (v.1) (v.2.1) (v.2.2)) (fun(v:Nat×(List aN)×Int)=>ay (v.1) (v.2.1) (v.2.2)) (0,([]:List aN),0) (cC []) hn (fun v aM=> ?_)
 obtain⟨a3,aL,fh⟩:=v
 replace h:=h a3 aL fh aM
 dsimp only
 refine cQ [1000003] 5 [(18,ah (decide (fh<(J.bh.length:Int))))] [1] [5] ?_
 unfold EG at h
 obtain⟨jU,h⟩:=h
 refine b0 [] [0,1,5] ((decide (fh<(J.bh.length:Int)))=true) ?_ (fun fI=> ?_)
 ·
  replace h:=jU
  refine cN (fun gw=> ?_) (fun gw=> ?_)
  ·
   refine c6 ?_
   exact bR.normal (by simp only[q2,gw]<;>rfl) cW
  ·
   replace h:=h gw
   refine gG 0 ?_
   refine bR.exit ?_
   refine cU.exit ?_
   refine bZ.here ?_
   refine c4.normal ?_
   refine fy ?_
   refine gX ⟨(a4 45 [(2,an 2 0),(3,an 3 0),(27,bo (c9 false) J.ways),(28,ac (J.ways.length:Int)),(29,ac 0)]),[(3,[ah true,ae 0 0 ((List.replicate J.ai.toNat false).length),ae 1 a3 aL.length,ao]),(2,[ah false,ao,ao,ao]),(1,(a8 false J))],[⟨0,1,List.map aH (List.replicate J.ai.toNat false)⟩,⟨a3,2,List.map a1 aL⟩]⟩ (J.ways.length≤4611686018427387904) ?_ (fun eU=> ?_)
   ·
    refine bm [1000003] 8 ?_
    refine sLen 3 (some 28) [(27,bo (c9 false) J.ways),(26,an 1 2)] (c9 false) J.ways (fun mq=> ?_)
    exact bL [(29,ac 0)] mq
   replace h:=h eU
   refine dM 2 ?_
   refine WpS.jd ?_ (fK (s'':=⟨(a4 45 [(2,an 2 0),(3,an 3 0),(27,bo (c9 false) J.ways),(28,ac (J.ways.length:Int)),(29,ac 0)]),[(3,[ah true,ae 0 0 ((List.replicate J.ai.toNat false).length),ae 1 a3 aL.length,ae 2 0 (([]:List aa).length)]),(2,[ah false,ao,ao,ao]),(1,(a8 false J))],[⟨0,1,List.map aH (List.replicate J.ai.toNat false)⟩,⟨a3,2,List.map a1 aL⟩,⟨0,5,aT 4 ([]:List aa) ([]:List Nat)⟩]⟩) (Weak.nG (T:=(a4 45 [(2,an 2 0),(3,an 3 0),(27,bo (c9 false) J.ways),(28,ac (J.ways.length:Int)),(29,ac 0)])) (L:=[(3,[ah true,ae 0 0 ((List.replicate J.ai.toNat false).length),ae 1 a3 aL.length,ao]),(2,[ah false,ao,ao,ao]),(1,(a8 false J))]) (H:=[⟨0,1,List.map aH (List.replicate J.ai.toNat false)⟩,⟨a3,2,List.map a1 aL⟩]) (cells:=[ah true,ae 0 0 ((List.replicate J.ai.toNat false).length),ae 1 a3 aL.length,ao]) 3 3 5 (by kernel_rfl) (by kernel_rfl)) (by kernel_rfl))
   refine WpS.jd ?_ (fK (s'':=⟨(a4 45 [(2,an 2 0),(3,an 3 0),(27,bo (c9 false) J.ways),(28,ac (J.ways.length:Int)),(29,ac 0)]),[(3,[ah true,ae 0 0 ((List.replicate J.ai.toNat false).length),ae 1 a3 aL.length,ae 2 0 (([]:List aa).length)]),(2,[ah false,ao,ao,ao]),(1,(a8 false J))],(⟨0,1,List.map aH (List.replicate J.ai.toNat false)⟩::⟨a3,2,List.map a1 aL⟩::⟨0,5,aT 4 ([]:List aa) ([]:List Nat)⟩::⟨0,5,[]⟩::List.map bc ([]:List (List Bool)))⟩) (Weak.so (T:=(a4 45 [(2,an 2 0),(3,an 3 0),(27,bo (c9 false) J.ways),(28,ac (J.ways.length:Int)),(29,ac 0)])) (L:=[(3,[ah true,ae 0 0 ((List.replicate J.ai.toNat false).length),ae 1 a3 aL.length,ae 2 0 (([]:List aa).length)]),(2,[ah false,ao,ao,ao]),(1,(a8 false J))]) (H:=[⟨0,1,List.map aH (List.replicate J.ai.toNat false)⟩,⟨a3,2,List.map a1 aL⟩,⟨0,5,aT 4 ([]:List aa) ([]:List Nat)⟩]) 5) (by kernel_rfl))
   obtain⟨ix,h⟩:=h
   refine hr (fun(v:List (List Bool)×Nat×Nat×List Nat×Int×List aa)=>(⟨(a4 45 [(2,an 2 0),(3,an 3 0),(27,bo (c9 false) J.ways),(28,ac (J.ways.length:Int)),(29,ac (v.2.2.2.2.1))]),[(3,[ah true,ae 0 0 ((List.replicate J.ai.toNat false).length),ae 1 a3 aL.length,ae 2 (v.2.1) ((v.2.2.2.2.2).length)]),(2,[ah false,ao,ao,ao])],(⟨0,1,List.map aH (List.replicate J.ai.toNat false)⟩::⟨a3,2,List.map a1 aL⟩::⟨(v.2.1),5,aT 4 (v.2.2.2.2.2) (v.2.2.2.1)⟩::⟨(v.2.2.1),5,[]⟩::List.map bc (v.1))⟩:St)) (fun(v:List (List Bool)×Nat×Nat×List Nat×Int×List aa)=>aW a3 aL fh (v.1) (v.2.1) (v.2.2.1) (v.2.2.2.1) (v.2.2.2.2.1) (v.2.2.2.2.2)) (fun(v:List (List Bool)×Nat×Nat×List Nat×Int×List aa)=>aX a3 aL fh (v.1) (v.2.1) (v.2.2.1) (v.2.2.2.1) (v.2.2.2.2.1) (v.2.2.2.2.2)) (([]:List (List Bool)),0,0,([]:List Nat),0,([]:List aa)) (cC [1]) ix (fun v aM=> ?_)
   obtain⟨aG,aY,bX,aE,bH,ws2⟩:=v
   replace h:=h aG aY bX aE bH ws2 aM
   dsimp only
   refine cQ [1000003] 9 [(30,ah (decide (bH<(J.ways.length:Int))))] [1] [5] ?_
   unfold EF at h
   obtain⟨jv,h⟩:=h
   refine b0 [] [0,1,5] ((decide (bH<(J.ways.length:Int)))=true) ?_ (fun h_=> ?_)
   ·
    replace h:=jv
    refine cN (fun fX=> ?_) (fun fX=> ?_)
    ·
     refine c6 ?_
     exact bR.normal (by simp only[q2,gw,fX]<;>rfl) cW
    ·
     replace h:=h fX
     refine gG 2 ?_
     refine bR.exit ?_
     refine cU.exit ?_
     refine bZ.here ?_
     refine c4.normal ?_
     refine gX ⟨(a4 45 [(2,an 2 0)]),[(3,[ah true,ae 0 0 ((List.replicate J.ai.toNat false).length),ae 1 a3 aL.length,ae 2 aY ws2.length]),(2,[ah true,ae 0 0 ((List.replicate J.ai.toNat false).length),ae 1 a3 aL.length,ae 2 aY ws2.length])],(⟨0,1,List.map aH (List.replicate J.ai.toNat false)⟩::⟨a3,2,List.map a1 aL⟩::⟨aY,5,aT 4 ws2 aE⟩::⟨bX,5,[]⟩::List.map bc aG)⟩ (True) ?_ (fun ju=> ?_)
     ·
      refine bm [1000003] 13 ?_
      exact bL [(44,.agg [ah true,ae 0 0 ((List.replicate J.ai.toNat false).length),ae 1 a3 aL.length,ae 2 aY ws2.length])] trivial
     exact e8 (iz (.agg [ah true,ae 0 0 ((List.replicate J.ai.toNat false).length),ae 1 a3 aL.length,ae 2 aY ws2.length]) (gd.agg (av.cons (iN h.1) (av.cons (l0 (sz:=1) (by simp) rfl (rF) h.2.1) (av.cons (l0 (sz:=2) (by simp) rfl (tf) h.2.2.1) (av.cons (wZ (s:=4) (ws:=ws2) (ids:=aE) (bs:=aG) (by simp) rfl (fun id k h=>by simpa using h) h.2.2.2) av.nil))))))
   replace h:=h h_
   unfold EE at h
   obtain⟨gh,h⟩:=h
   refine dD [] [5] (fun L=>(5,(c9 false (nth J.ways bH)))::fM 0 3 (ae 2 (aY+1) ((ws2++[(aa.mk 0 0 (List.replicate (((nth J.ways bH).ai).length:Int).toNat false) false 0)]).length)) L) (fun _=>(⟨0,1,List.map aH (List.replicate J.ai.toNat false)⟩::⟨a3,2,List.map a1 aL⟩::⟨(aY+1),5,aT 4 (ws2++[(aa.mk 0 0 (List.replicate (((nth J.ways bH).ai).length:Int).toNat false) false 0)]) (aE++[aG.length])⟩::⟨(bX+1),5,[[ac 0,ac 0,ae (aG.length+4) 0 ((List.replicate (((nth J.ways bH).ai).length:Int).toNat false).length),ah false,ac 0]]⟩::List.map bc (aG++[(List.replicate (((nth J.ways bH).ai).length:Int).toNat false)]))) (True) ?_ (fun fS=> ?_)
   ·
    replace h:=gh
    refine dM 3 ?_
    obtain⟨gz,h⟩:=h
    refine dD [(5,an 5 0)] [5] (fun L=>(5,(c9 false (nth J.ways bH)))::L) id (True) ?_ (fun gx=> ?_)
    ·
     replace h:=gz
     refine bm [1000003] 10 ?_
     have ia:=h
     refine hT 1 (some 31) [] (c9 false) J.ways 5 ia ?_
     exact bL [(5,an 5 0),(32,.agg (c9 false (nth J.ways bH)))] trivial
    refine lW [1000003] 11 Xr Xs [] ?_
    refine F0 5 (some 37) [(36,bo bW ((nth J.ways bH).ai)),(35,an 5 0),(34,ae 2 aY ws2.length),(33,an 3 3)] bW ((nth J.ways bH).ai) ?_
    obtain⟨ff,h⟩:=h
    refine Y5 1 (some 38) [] 1 [ah false] (fun r=>nP Try.prog (h9 EI 16025) [0,1] [(37,ac (((nth J.ways bH).ai).length:Int)),(36,bo bW ((nth J.ways bH).ai)),(35,an 5 0),(34,ae 2 aY ws2.length),(33,an 3 3),(5,an 5 0),(2,an 2 0),(3,an 3 0),(27,bo (c9 false) J.ways),(28,ac (J.ways.length:Int)),(29,ac bH)] [(5,(c9 false (nth J.ways bH))),(3,[ah true,ae 0 0 ((List.replicate J.ai.toNat false).length),ae 1 a3 aL.length,ae 2 aY ws2.length]),(2,[ah false,ao,ao,ao])] r) (aG.length+4) (⟨0,1,List.map aH (List.replicate J.ai.toNat false)⟩::⟨a3,2,List.map a1 aL⟩::⟨aY,5,aT 4 ws2 aE⟩::⟨bX,5,[]⟩::List.map bc (aG++[(List.replicate (((nth J.ways bH).ai).length:Int).toNat false)])) ff (by simp) (by simp only[List.cons_append,oA]) (qV (ψ:=((true=true∧true=true∧((an 3 3:AV)=an 3 3))∧((true=true∧true=true∧((ae 2 aY ws2.length:AV)=ae 2 aY ws2.length))∧True))) (by kernel_rfl) ⟨⟨rfl,rfl,rfl⟩,⟨⟨rfl,rfl,rfl⟩,trivial⟩⟩) ?_
    refine w2 2 [(40,.ref 3 (bX+1) 0 1 true),(39,.agg [ac 0,ac 0,ae (aG.length+4) 0 ((List.replicate (((nth J.ways bH).ai).length:Int).toNat false).length),ah false,ac 0])] [(5,(c9 false (nth J.ways bH))),(3,[ah true,ae 0 0 ((List.replicate J.ai.toNat false).length),ae 1 a3 aL.length,ae 2 aY ws2.length]),(2,[ah false,ao,ao,ao])] (⟨0,1,List.map aH (List.replicate J.ai.toNat false)⟩::⟨a3,2,List.map a1 aL⟩::⟨aY,5,aT 4 ws2 aE⟩::⟨(bX+1),5,[[ac 0,ac 0,ae (aG.length+4) 0 ((List.replicate (((nth J.ways bH).ai).length:Int).toNat false).length),ah false,ac 0]]⟩::List.map bc (aG++[(List.replicate (((nth J.ways bH).ai).length:Int).toNat false)])) (φ:=nP Try.prog (h9 EI 16025) [0,1] [(39,.agg [ac 0,ac 0,ae (aG.length+4) 0 ((List.replicate (((nth J.ways bH).ai).length:Int).toNat false).length),ah false,ac 0]),(38,ae (aG.length+4) 0 ((List.replicate (((nth J.ways bH).ai).length:Int).toNat false).length)),(37,ac (((nth J.ways bH).ai).length:Int)),(36,bo bW ((nth J.ways bH).ai)),(35,an 5 0),(34,ae 2 aY ws2.length),(33,an 3 3),(5,an 5 0),(2,an 2 0),(3,an 3 0),(27,bo (c9 false) J.ways),(28,ac (J.ways.length:Int)),(29,ac bH)] [(5,(c9 false (nth J.ways bH))),(3,[ah true,ae 0 0 ((List.replicate J.ai.toNat false).length),ae 1 a3 aL.length,ae 2 aY ws2.length]),(2,[ah false,ao,ao,ao])] (⟨0,1,List.map aH (List.replicate J.ai.toNat false)⟩::⟨a3,2,List.map a1 aL⟩::⟨aY,5,aT 4 ws2 aE⟩::⟨(bX+1),5,[[ac 0,ac 0,ae (aG.length+4) 0 ((List.replicate (((nth J.ways bH).ai).length:Int).toNat false).length),ah false,ac 0]]⟩::List.map bc (aG++[(List.replicate (((nth J.ways bH).ai).length:Int).toNat false)]))) (qV (ψ:=((true=true∧true=true∧((an 3 3:AV)=an 3 3))∧((true=true∧true=true∧((ae 2 aY ws2.length:AV)=ae 2 aY ws2.length))∧True))) (by kernel_rfl) ⟨⟨rfl,rfl,rfl⟩,⟨⟨rfl,rfl,rfl⟩,trivial⟩⟩) ?_
    have gy:=h
    refine NP 1 (some 41) [] 4 2 aY (bX+1) 56 ws2 aE (aa.mk 0 0 (List.replicate (((nth J.ways bH).ai).length:Int).toNat false) false 0) aG.length (fun _=>True) (fun r=>(⟨0,1,List.map aH (List.replicate J.ai.toNat false)⟩::⟨a3,2,List.map a1 aL⟩::⟨(aY+1),5,r⟩::⟨(bX+1),5,[[ac 0,ac 0,ae (aG.length+4) 0 ((List.replicate (((nth J.ways bH).ai).length:Int).toNat false).length),ah false,ac 0]]⟩::List.map bc (aG++[(List.replicate (((nth J.ways bH).ai).length:Int).toNat false)]))) gy.1 gy.2 trivial ?_
    refine w2 2 [(42,an 3 3)] [(5,(c9 false (nth J.ways bH))),(3,[ah true,ae 0 0 ((List.replicate J.ai.toNat false).length),ae 1 a3 aL.length,ae 2 (aY+1) ((ws2++[(aa.mk 0 0 (List.replicate (((nth J.ways bH).ai).length:Int).toNat false) false 0)]).length)]),(2,[ah false,ao,ao,ao])] (⟨0,1,List.map aH (List.replicate J.ai.toNat false)⟩::⟨a3,2,List.map a1 aL⟩::⟨(aY+1),5,aT 4 (ws2++[(aa.mk 0 0 (List.replicate (((nth J.ways bH).ai).length:Int).toNat false) false 0)]) (aE++[aG.length])⟩::⟨(bX+1),5,[[ac 0,ac 0,ae (aG.length+4) 0 ((List.replicate (((nth J.ways bH).ai).length:Int).toNat false).length),ah false,ac 0]]⟩::List.map bc (aG++[(List.replicate (((nth J.ways bH).ai).length:Int).toNat false)])) (φ:=True) trivial ?_
    refine u4 [] ?_
    refine bZ.normal ?_
    exact bR.normal trivial cW
   unfold ED at h
   refine bm [1000003] 12 ?_
   refine df [(29,ac (IntKind.i64.wrap (bH+1))),(43,ac (IntKind.i64.wrap (bH+1)))] ?_
   exact cU.again ((aG++[(List.replicate (((nth J.ways bH).ai).length:Int).toNat false)]),(aY+1),(bX+1),(aE++[aG.length]),(IntKind.i64.wrap (bH+1)),(ws2++[(aa.mk 0 0 (List.replicate (((nth J.ways bH).ai).length:Int).toNat false) false 0)])) h ((Weak.clear 3 rfl:Weak ⟨(a4 45 [(29,ac (IntKind.i64.wrap (bH+1))),(43,ac (IntKind.i64.wrap (bH+1))),(2,an 2 0),(3,an 3 0),(27,bo (c9 false) J.ways),(28,ac (J.ways.length:Int))]),[(5,(c9 false (nth J.ways bH))),(3,[ah true,ae 0 0 ((List.replicate J.ai.toNat false).length),ae 1 a3 aL.length,ae 2 (aY+1) ((ws2++[(aa.mk 0 0 (List.replicate (((nth J.ways bH).ai).length:Int).toNat false) false 0)]).length)]),(2,[ah false,ao,ao,ao])],(⟨0,1,List.map aH (List.replicate J.ai.toNat false)⟩::⟨a3,2,List.map a1 aL⟩::⟨(aY+1),5,aT 4 (ws2++[(aa.mk 0 0 (List.replicate (((nth J.ways bH).ai).length:Int).toNat false) false 0)]) (aE++[aG.length])⟩::⟨(bX+1),5,[[ac 0,ac 0,ae (aG.length+4) 0 ((List.replicate (((nth J.ways bH).ai).length:Int).toNat false).length),ah false,ac 0]]⟩::List.map bc (aG++[(List.replicate (((nth J.ways bH).ai).length:Int).toNat false)]))⟩ ⟨(a4 45 [(29,ac (IntKind.i64.wrap (bH+1))),(43,ac (IntKind.i64.wrap (bH+1))),(2,an 2 0),(3,an 3 0),(27,bo (c9 false) J.ways),(28,ac (J.ways.length:Int))]),[(5,(c9 false (nth J.ways bH))),(3,[ah true,ae 0 0 ((List.replicate J.ai.toNat false).length),ae 1 a3 aL.length,ae 2 (aY+1) ((ws2++[(aa.mk 0 0 (List.replicate (((nth J.ways bH).ai).length:Int).toNat false) false 0)]).length)]),(2,[ah false,ao,ao,ao])],(⟨0,1,List.map aH (List.replicate J.ai.toNat false)⟩::⟨a3,2,List.map a1 aL⟩::⟨(aY+1),5,aT 4 (ws2++[(aa.mk 0 0 (List.replicate (((nth J.ways bH).ai).length:Int).toNat false) false 0)]) (aE++[aG.length])⟩::⟨(bX+1),5,[]⟩::List.map bc (aG++[(List.replicate (((nth J.ways bH).ai).length:Int).toNat false)]))⟩).trans (cC [5]))
 replace h:=h fI
 obtain⟨ib,h⟩:=h
 refine dD [] [5] (fun L=>fM 0 2 (ae 1 (a3+1) ((aL++[(aN.mk 1 1)]).length)) L) (fun H=>dC 1 ⟨(a3+1),2,List.map a1 (aL++[(aN.mk 1 1)])⟩ H) (True) ?_ (fun hl=> ?_)
 ·
  replace h:=ib
  refine dM 1 ?_
  refine bm [1000003] 6 ?_
  have hP:=h
  refine ra 5 (some 23) [(22,.be (List.map a1 [(aN.mk 1 1)]) true true),(21,.agg [ac 1,ac 1]),(20,ae 1 a3 aL.length),(19,an 3 2)] a1 aL [(aN.mk 1 1)] (hR true (List.map a1 [(aN.mk 1 1)])) 1 a3 2 16 (fun r=>[⟨0,1,List.map aH (List.replicate J.ai.toNat false)⟩,⟨(a3+1),2,r⟩]) rfl hP ?_
  refine sG [(24,an 3 2)] [(3,[ah true,ae 0 0 ((List.replicate J.ai.toNat false).length),ae 1 (a3+1) ((aL++[(aN.mk 1 1)]).length),ao]),(2,[ah false,ao,ao,ao]),(1,(a8 false J))] [⟨0,1,List.map aH (List.replicate J.ai.toNat false)⟩,⟨(a3+1),2,List.map a1 (aL++[(aN.mk 1 1)])⟩] ?_
  refine bZ.normal ?_
  exact bR.normal trivial cW
 refine bm [1000003] 7 ?_
 refine df [(17,ac (IntKind.i64.wrap (fh+1))),(25,ac (IntKind.i64.wrap (fh+1)))] ?_
 exact cU.again ((a3+1),(aL++[(aN.mk 1 1)]),(IntKind.i64.wrap (fh+1))) h (cC [])
theorem Xp (J:aB):b3 Try.prog 32 [.agg (a8 false J)] (.agg (bS true (dn J))):=Xt J (dn J) (fun _ x v=>cg J.bh.length (fun _=>false) v∧x=List.replicate v.toNat (aN.mk 1 1)) (fun _ _ v=>cn J.bh.length v) (fun _ x _ bs _ _ is v ws=>x=List.replicate J.bh.length (aN.mk 1 1)∧cg J.ways.length (fun _=>false) v∧ws=(J.ways.take v.toNat).map (fun w=>gE w.ai.length)∧is=List.range ws.length∧bs=ws.map aa.been) (fun _ _ _ _ _ _ _ v _=>cn J.ways.length v) (by
 unfold EC EH
 refine⟨fun h=> ?_,fun h=> ?_⟩
 ·have h:dv J=false:=by simpa using h
  unfold dn;rw[if_neg (by rw[h];simp)];exact⟨rfl,rfl,rfl,rfl⟩
 have h:dv J=true:=by simpa using h
 have cA:=sw h
 have h1:=cA.cK
 have h2:=cA.bb
 have aS:=cA.ways
 have e:dn J=⟨true,List.replicate J.ai.toNat false,List.replicate J.bh.length ⟨1,1⟩,J.ways.map fun w=>gE w.ai.length⟩:=by unfold dn;rw[if_pos h]
 rw[e]
 refine⟨⟨by omega,by omega,by omega⟩,fun aC=>⟨⟨cS (de _),rfl⟩,fun g x v aM=> ?_⟩⟩
 obtain⟨aM,rfl⟩:=aM
 have qK:=aM.2.1
 unfold EG
 refine⟨fun hv hm=>⟨⟨?_,cS (de _),rfl,rfl,rfl⟩,fun bs aY bX is k ws cu=> ?_⟩,fun hv=>⟨⟨?_,?_⟩,⟨(cq (ci aC) aM hv rfl).1,?_⟩,(cq (ci aC) aM hv rfl).2⟩⟩
 ·have: ¬v<(J.bh.length:Int):=by simpa using hv
  rw[show v.toNat=J.bh.length by omega]
 ·obtain⟨hx,cu,rfl,rfl,rfl⟩:=cu
  have n0:=cu.2.1
  have pI:=cu.1
  have aI:((J.ways.take k.toNat).map fun w=>gE w.ai.length).length=k.toNat:=by rw[List.length_map,List.length_take];omega
  obtain⟨eS,fY,fg⟩:=rK ((J.ways.take k.toNat).map fun w=>gE w.ai.length)
  have IV:(decide (k<(J.ways.length:Int)))=true→1*(((nth J.ways k).ai).length:Int)≤140737488355328:=fun hk=>by
   have:=(cA.ai _ (dt (b8 cu hk).2)).2.1;omega
  unfold EF EE ED
  refine⟨fun hk=>⟨rfl,⟨by rw[List.length_replicate];omega,rfl⟩,⟨by rw[List.length_replicate];omega,hx⟩,eS,by omega,fun b hb=> ?_,?_⟩,fun hk=>⟨⟨⟨pI,(b8 cu hk).2⟩,⟨by omega,IV hk,by have:=IV hk;omega⟩,by rw[List.length_range],by omega,by omega⟩,⟨hx,(cq (ci hm) cu hk rfl).1,?_,?_,?_⟩,(cq (ci hm) cu hk rfl).2⟩⟩
  ·obtain⟨y,bA,rfl⟩:=List.mem_map.1 hb
   obtain⟨w,hw,rfl⟩:=List.mem_map.1 bA
   have:=(cA.ai w (List.mem_of_mem_take hw)).2.1
   simp[gE];omega
  ·rw[fg]
   have: ¬k<(J.ways.length:Int):=by simpa using hk
   rw[List.take_of_length_le (by omega)]
  ·have b4:=b8 cu hk
   rw[ho (ci hm) pI (by simpa using hk),show(k+1).toNat=k.toNat+1 by omega,List.take_succ_eq_append_getElem b4.2,←fv b4.2,List.map_append];rfl
  ·rw[List.length_append,List.length_singleton,List.range_succ,List.length_map]
   simp
  ·rw[List.map_append];rfl
 ·rw[List.length_replicate,List.length_singleton];omega
 ·rw[List.length_replicate,List.length_singleton];omega
 ·rw[ho (ci aC) aM.1 (by simpa using hv),show(v+1).toNat=v.toNat+1 by have:=aM.1;omega,List.replicate_succ'])
def Xq:ev Try.prog:=⟨32,[.dW],[.frame],none,fun x=>((dn x.1),()),fun x h=>Xp x.1⟩
noncomputable def Yn:Code:=hM Try.f136
def Yo:List Item:=[au 0,au 1,au 2,au 3,au 4,au 5,au 6,au 7,au 8,au 9,⟨10,true,false,[]⟩]
def Yp:List (List Nat):=[[],[0],[0,1],[0,1,2],[],[4],[],[6],rg 0 8,rg 0 9,rg 0 10]
def FA (aW:(List aN)→Int→(List aN)→Int→Prop) (aX:(List aN)→Int→(List aN)→Int→Nat) (J:aB) (O:Int) (bQ:(List aN)) (cB bH:Int) (dV:(List aN)):Prop:=
  aW bQ bH (dV.set ((nth (nth [(nth J.ways O).aZ,(nth J.ways O).br] bH) cB).bb).toNat (aN.mk ((nth (nth [(nth J.ways O).aZ,(nth J.ways O).br] bH) cB).bx) ((nth dV ((nth (nth [(nth J.ways O).aZ,(nth J.ways O).br] bH) cB).bb)).aZ))) (IntKind.i64.wrap (cB+1))∧aX bQ bH (dV.set ((nth (nth [(nth J.ways O).aZ,(nth J.ways O).br] bH) cB).bb).toNat (aN.mk ((nth (nth [(nth J.ways O).aZ,(nth J.ways O).br] bH) cB).bx) ((nth dV ((nth (nth [(nth J.ways O).aZ,(nth J.ways O).br] bH) cB).bb)).aZ))) (IntKind.i64.wrap (cB+1))<aX bQ bH dV cB
def FB (aw:(List aN)→Int→Prop) (ay:(List aN)→Int→Nat) (aW:(List aN)→Int→(List aN)→Int→Prop) (aX:(List aN)→Int→(List aN)→Int→Nat) (J:aB) (O:Int) (bQ:(List aN)) (cB bH:Int) (dV:(List aN)):Prop:=
  ((decide (cB<((nth [(nth J.ways O).aZ,(nth J.ways O).br] bH).length:Int)))=false→aw dV (IntKind.i64.wrap (bH+1))∧ay dV (IntKind.i64.wrap (bH+1))<ay bQ bH)∧((decide (cB<((nth [(nth J.ways O).aZ,(nth J.ways O).br] bH).length:Int)))=true→((0≤cB∧cB.toNat<(nth [(nth J.ways O).aZ,(nth J.ways O).br] bH).length)∧(0≤((nth (nth [(nth J.ways O).aZ,(nth J.ways O).br] bH) cB).bb)∧((nth (nth [(nth J.ways O).aZ,(nth J.ways O).br] bH) cB).bb).toNat<dV.length))∧(FA aW aX J O bQ cB bH dV))
def FC (aw:(List aN)→Int→Prop) (ay:(List aN)→Int→Nat) (aW:(List aN)→Int→(List aN)→Int→Prop) (aX:(List aN)→Int→(List aN)→Int→Nat) (J:aB) (O:Int) (hk:Bool) (ax:List Bool) (aj:List aN) (hw:List aa) (hi:List Nat) (hb:List (List Bool)) (bQ:(List aN)) (bH:Int):Prop:=
  ((decide (bH<([(nth J.ways O).aZ,(nth J.ways O).br].length:Int)))=false→yP J O hk ax aj hw hi hb ax bQ (hw.set O.toNat (aa.mk 1 ((nth hw O).gone) ((nth hw O).been) ((nth hw O).shown) ((nth hw O).timer))) hi hb)∧((decide (bH<([(nth J.ways O).aZ,(nth J.ways O).br].length:Int)))=true→(0≤bH∧bH.toNat<[(nth J.ways O).aZ,(nth J.ways O).br].length)∧((nth [(nth J.ways O).aZ,(nth J.ways O).br] bH).length≤4611686018427387904→aW bQ bH bQ 0∧ ∀(dV:(List aN)) (cB:Int),aW bQ bH dV cB→(FB aw ay aW aX J O bQ cB bH dV)))
def Fz (J:aB) (O:Int) (aO:Nat) (hk:Bool) (ax:List Bool) (aj:List aN) (hw:List aa) (hi:List Nat) (hb:List (List Bool)) (aw:(List aN)→Int→Prop) (ay:(List aN)→Int→Nat) (aW:(List aN)→Int→(List aN)→Int→Prop) (aX:(List aN)→Int→(List aN)→Int→Nat):Prop:=
 (0≤O∧O.toNat<J.ways.length)∧(((0≤O∧O.toNat<hw.length)∧(hw.length=hi.length∧O.toNat<hw.length))∧([(nth J.ways O).aZ,(nth J.ways O).br].length≤4611686018427387904→aw aj 0∧ ∀(bQ:(List aN)) (bH:Int),aw bQ bH→(FC aw ay aW aX J O hk ax aj hw hi hb bQ bH)))
theorem Yq (J:aB) (O:Int) (aO:Nat) (hk:Bool) (ax:List Bool) (aj:List aN) (hw:List aa) (hi:List Nat) (hb:List (List Bool)) (aw:(List aN)→Int→Prop) (ay:(List aN)→Int→Nat) (aW:(List aN)→Int→(List aN)→Int→Prop) (aX:(List aN)→Int→(List aN)→Int→Nat) (h:Fz J O aO hk ax aj hw hi hb aw ay aW aX):dj Try.prog 136 [.agg (a8 false J),.ptr 0 aO 0 0,ac O] (⟨aO,4,[[ah hk,ae 1 0 ax.length,ae 2 0 aj.length,ae 3 0 hw.length]]⟩::⟨0,1,List.map aH ax⟩::⟨0,2,List.map a1 aj⟩::⟨0,5,aT 4 hw hi⟩::List.map bc hb) (fun r H'=> ∃(r5:List aN) (eb:List aa),r= .tup []∧H'=(⟨aO,4,[[ah hk,ae 1 0 ax.length,ae 2 0 r5.length,ae 3 0 eb.length]]⟩::⟨0,1,List.map aH ax⟩::⟨0,2,List.map a1 r5⟩::⟨0,5,aT 4 eb hi⟩::List.map bc hb)∧yP J O hk ax aj hw hi hb ax r5 eb hi hb):=by
 unfold Fz at h
 refine dj.go (fn:=Try.f136) [(0,.agg (a8 false J)),(1,.ptr 0 aO 0 0),(2,ac O)] Try.func136 ?_
 show WpS _ (bK Yn 1) _ ⟨a4 51 [(0,.agg (a8 false J)),(1,.ptr 0 aO 0 0),(2,ac O)],[],(⟨aO,4,[[ah hk,ae 1 0 ax.length,ae 2 0 aj.length,ae 3 0 hw.length]]⟩::⟨0,1,List.map aH ax⟩::⟨0,2,List.map a1 aj⟩::⟨0,5,aT 4 hw hi⟩::List.map bc hb)⟩
 refine l9 [] 0 [(3,an 3 0)] [1] [0,1,2] (fun L=>(3,(a8 false J))::L) id ?_
 obtain⟨hl,h⟩:=h
 refine dD [(6,an 6 0)] [0,1,2] (fun L=>(6,(c9 false (nth J.ways O)))::L) id (True) ?_ (fun q2=> ?_)
 ·
  replace h:=hl
  refine bm [] 1 ?_
  have q3:=h
  refine hT 4 (some 14) [(13,ac O),(12,bo (c9 false) J.ways),(11,an 3 2)] (c9 false) J.ways 5 q3 ?_
  exact bL [(6,an 6 0),(15,.agg (c9 false (nth J.ways O)))] trivial
 obtain⟨ix,h⟩:=h
 refine dD [] [2] id (fun H=>dC 3 ⟨0,5,aT 4 (hw.set O.toNat (aa.mk 1 ((nth hw O).gone) ((nth hw O).been) ((nth hw O).shown) ((nth hw O).timer))) hi⟩ H) (True) ?_ (fun q4=> ?_)
 ·
  replace h:=ix
  refine bm [] 2 ?_
  refine ld 4 (some 19) (ae 3 0 hw.length) [(18,.ptr 0 aO 0 3),(17,.ptr 0 aO 0 0),(16,.ptr 0 aO 0 0)] (φ:=aO=aO) rfl ?_
  obtain⟨Zw,h⟩:=h
  refine kH 2 (some 21) [(20,ac O)] 3 0 5 Zw ?_
  have cx:=h
  refine jb 2 none [(22,.ptr 3 0 (0+O.toNat) 0)] (aT 4 hw hi) O 0 1 0 [ac 1] 3 (aT 4 (hw.set O.toNat (aa.mk 1 ((nth hw O).gone) ((nth hw O).been) ((nth hw O).shown) ((nth hw O).timer))) hi) (dq cx.1 cx.2) (jk cx.1 cx.2) ?_
  exact bL [] trivial
 refine b0 [(27,.be (List.map (eX cD false) [(nth J.ways O).aZ,(nth J.ways O).br]) true false),(28,ac ([(nth J.ways O).aZ,(nth J.ways O).br].length:Int)),(29,ac 0)] [0,1,1] ([(nth J.ways O).aZ,(nth J.ways O).br].length≤4611686018427387904) ?_ (fun cT=> ?_)
 ·
  refine bm [] 3 ?_
  refine sLen 6 (some 28) [(27,.be (List.map (eX cD false) [(nth J.ways O).aZ,(nth J.ways O).br]) true false),(26,bo cD ((nth J.ways O).br)),(25,an 6 2),(24,bo cD ((nth J.ways O).aZ)),(23,an 6 1)] (eX cD false) [(nth J.ways O).aZ,(nth J.ways O).br] (fun et=> ?_)
  exact bL [(29,ac 0)] et
 replace h:=h cT
 refine dM 0 ?_
 obtain⟨jv,h⟩:=h
 refine hr (fun(v:(List aN)×Int)=>(⟨(a4 51 [(1,.ptr 0 aO 0 0),(27,.be (List.map (eX cD false) [(nth J.ways O).aZ,(nth J.ways O).br]) true false),(28,ac ([(nth J.ways O).aZ,(nth J.ways O).br].length:Int)),(29,ac (v.2))]),[],(⟨aO,4,[[ah hk,ae 1 0 ax.length,ae 2 0 ((v.1).length),ae 3 0 hw.length]]⟩::⟨0,1,List.map aH ax⟩::⟨0,2,List.map a1 (v.1)⟩::⟨0,5,aT 4 (hw.set O.toNat (aa.mk 1 ((nth hw O).gone) ((nth hw O).been) ((nth hw O).shown) ((nth hw O).timer))) hi⟩::List.map bc hb)⟩:St)) (fun(v:(List aN)×Int)=>aw (v.1) (v.2)) (fun(v:(List aN)×Int)=>ay (v.1) (v.2)) (aj,0) (cC [6,3]) jv (fun v aM=> ?_)
 obtain⟨bQ,bH⟩:=v
 replace h:=h bQ bH aM
 dsimp only
 refine cQ [] 4 [(30,ah (decide (bH<([(nth J.ways O).aZ,(nth J.ways O).br].length:Int))))] [1] [4] ?_
 unfold FC at h
 obtain⟨gh,h⟩:=h
 refine b0 [] [0,1,4] ((decide (bH<([(nth J.ways O).aZ,(nth J.ways O).br].length:Int)))=true) ?_ (fun gU=> ?_)
 ·
  replace h:=gh
  refine cN (fun fH=> ?_) (fun fH=> ?_)
  ·
   refine c6 ?_
   exact bR.normal (by simp only[fH]<;>rfl) cW
  ·
   replace h:=h fH
   refine gG 0 ?_
   refine bR.exit ?_
   refine cU.exit ?_
   refine bZ.here ?_
   refine xR (t0) [] ?_
   exact⟨bQ,(hw.set O.toNat (aa.mk 1 ((nth hw O).gone) ((nth hw O).been) ((nth hw O).shown) ((nth hw O).timer))),rfl,(by rw[show hw.length=(hw.set O.toNat (aa.mk 1 ((nth hw O).gone) ((nth hw O).been) ((nth hw O).shown) ((nth hw O).timer))).length by simp]<;>rfl),h⟩
 replace h:=h gU
 refine fy ?_
 refine dM 1 ?_
 obtain⟨gz,h⟩:=h
 refine b0 [(8,bo cD (nth [(nth J.ways O).aZ,(nth J.ways O).br] bH))] [4] (True) ?_ (fun fI=> ?_)
 ·
  replace h:=gz
  refine bm [] 5 ?_
  have gw:=h
  refine hT 1 (some 31) [] (eX cD false) [(nth J.ways O).aZ,(nth J.ways O).br] 1 gw ?_
  exact bL [(8,bo cD (nth [(nth J.ways O).aZ,(nth J.ways O).br] bH)),(32,bo cD (nth [(nth J.ways O).aZ,(nth J.ways O).br] bH))] trivial
 refine b0 [(33,bo cD (nth [(nth J.ways O).aZ,(nth J.ways O).br] bH)),(34,ac ((nth [(nth J.ways O).aZ,(nth J.ways O).br] bH).length:Int)),(35,ac 0)] [0,1,4] ((nth [(nth J.ways O).aZ,(nth J.ways O).br] bH).length≤4611686018427387904) ?_ (fun eU=> ?_)
 ·
  refine bm [] 6 ?_
  refine sLen 2 (some 34) [(33,bo cD (nth [(nth J.ways O).aZ,(nth J.ways O).br] bH))] cD (nth [(nth J.ways O).aZ,(nth J.ways O).br] bH) (fun mq=> ?_)
  exact bL [(35,ac 0)] mq
 replace h:=h eU
 refine dM 2 ?_
 obtain⟨ff,h⟩:=h
 refine hr (fun(v:(List aN)×Int)=>(⟨(a4 51 [(1,.ptr 0 aO 0 0),(27,.be (List.map (eX cD false) [(nth J.ways O).aZ,(nth J.ways O).br]) true false),(28,ac ([(nth J.ways O).aZ,(nth J.ways O).br].length:Int)),(29,ac bH),(33,bo cD (nth [(nth J.ways O).aZ,(nth J.ways O).br] bH)),(34,ac ((nth [(nth J.ways O).aZ,(nth J.ways O).br] bH).length:Int)),(35,ac (v.2))]),[],(⟨aO,4,[[ah hk,ae 1 0 ax.length,ae 2 0 ((v.1).length),ae 3 0 hw.length]]⟩::⟨0,1,List.map aH ax⟩::⟨0,2,List.map a1 (v.1)⟩::⟨0,5,aT 4 (hw.set O.toNat (aa.mk 1 ((nth hw O).gone) ((nth hw O).been) ((nth hw O).shown) ((nth hw O).timer))) hi⟩::List.map bc hb)⟩:St)) (fun(v:(List aN)×Int)=>aW bQ bH (v.1) (v.2)) (fun(v:(List aN)×Int)=>aX bQ bH (v.1) (v.2)) (bQ,0) (cC []) ff (fun v aM=> ?_)
 obtain⟨dV,cB⟩:=v
 replace h:=h dV cB aM
 dsimp only
 refine cQ [] 7 [(36,ah (decide (cB<((nth [(nth J.ways O).aZ,(nth J.ways O).br] bH).length:Int))))] [1] [7] ?_
 unfold FB at h
 obtain⟨gy,h⟩:=h
 refine b0 [] [0,1,7] ((decide (cB<((nth [(nth J.ways O).aZ,(nth J.ways O).br] bH).length:Int)))=true) ?_ (fun h_=> ?_)
 ·
  replace h:=gy
  refine cN (fun fX=> ?_) (fun fX=> ?_)
  ·
   refine c6 ?_
   exact bR.normal (by simp only[gU,fX]<;>rfl) cW
  ·
   replace h:=h fX
   refine gG 2 ?_
   refine bR.exit ?_
   refine cU.exit ?_
   refine bZ.here ?_
   refine bZ.normal ?_
   refine c4.normal ?_
   refine bm [] 11 ?_
   refine df [(29,ac (IntKind.i64.wrap (bH+1))),(50,ac (IntKind.i64.wrap (bH+1)))] ?_
   exact cU.again (dV,(IntKind.i64.wrap (bH+1))) h (cC [])
 replace h:=h h_
 obtain⟨eA,h⟩:=h
 refine dD [] [7] (fun L=>(10,(cD (nth (nth [(nth J.ways O).aZ,(nth J.ways O).br] bH) cB)))::L) (fun H=>dC 2 ⟨0,2,List.map a1 (dV.set ((nth (nth [(nth J.ways O).aZ,(nth J.ways O).br] bH) cB).bb).toNat (aN.mk ((nth (nth [(nth J.ways O).aZ,(nth J.ways O).br] bH) cB).bx) ((nth dV ((nth (nth [(nth J.ways O).aZ,(nth J.ways O).br] bH) cB).bb)).aZ)))⟩ H) (True) ?_ (fun ju=> ?_)
 ·
  replace h:=eA
  refine dM 3 ?_
  obtain⟨ia,h⟩:=h
  refine dD [(10,an 10 0)] [7] (fun L=>(10,(cD (nth (nth [(nth J.ways O).aZ,(nth J.ways O).br] bH) cB)))::L) id (True) ?_ (fun fS=> ?_)
  ·
   replace h:=ia
   refine bm [] 8 ?_
   have gx:=h
   refine hT 1 (some 37) [] cD (nth [(nth J.ways O).aZ,(nth J.ways O).br] bH) 2 gx ?_
   exact bL [(10,an 10 0),(38,.agg (cD (nth (nth [(nth J.ways O).aZ,(nth J.ways O).br] bH) cB)))] trivial
  refine lW [] 9 Yo Yp [] ?_
  refine zE 4 (some 42) (ae 2 0 dV.length) [(41,.ptr 0 aO 0 2),(40,.ptr 0 aO 0 0),(39,.ptr 0 aO 0 0)] (φ:=aO=aO) rfl ?_
  have Oi:=h
  refine sR 5 (some 47) [(46,ac ((nth (nth [(nth J.ways O).aZ,(nth J.ways O).br] bH) cB).bx)),(45,an 10 1),(44,ac ((nth (nth [(nth J.ways O).aZ,(nth J.ways O).br] bH) cB).bb)),(43,an 10 0)] 2 0 2 Oi ?_
  refine Y6 2 none [(48,.ptr 2 0 (0+((nth (nth [(nth J.ways O).aZ,(nth J.ways O).br] bH) cB).bb).toNat) 0)] a1 dV ((nth (nth [(nth J.ways O).aZ,(nth J.ways O).br] bH) cB).bb) 0 1 0 [ac ((nth (nth [(nth J.ways O).aZ,(nth J.ways O).br] bH) cB).bx)] (fun _=>True) (fun r=>(⟨aO,4,[[ah hk,ae 1 0 ax.length,ae 2 0 dV.length,ae 3 0 hw.length]]⟩::⟨0,1,List.map aH ax⟩::⟨0,2,r⟩::⟨0,5,aT 4 (hw.set O.toNat (aa.mk 1 ((nth hw O).gone) ((nth hw O).been) ((nth hw O).shown) ((nth hw O).timer))) hi⟩::List.map bc hb)) (aN.mk ((nth (nth [(nth J.ways O).aZ,(nth J.ways O).br] bH) cB).bx) ((nth dV ((nth (nth [(nth J.ways O).aZ,(nth J.ways O).br] bH) cB).bb)).aZ)) (by simpa using Oi.2) trivial ?_
  refine u4 [] ?_
  refine bZ.normal ?_
  exact bR.normal trivial cW
 unfold FA at h
 refine bm [] 10 ?_
 refine df [(35,ac (IntKind.i64.wrap (cB+1))),(49,ac (IntKind.i64.wrap (cB+1)))] ?_
 exact cU.again ((dV.set ((nth (nth [(nth J.ways O).aZ,(nth J.ways O).br] bH) cB).bb).toNat (aN.mk ((nth (nth [(nth J.ways O).aZ,(nth J.ways O).br] bH) cB).bx) ((nth dV ((nth (nth [(nth J.ways O).aZ,(nth J.ways O).br] bH) cB).bb)).aZ))),(IntKind.i64.wrap (cB+1))) h (fK (s':=⟨(a4 51 [(1,.ptr 0 aO 0 0),(27,.be (List.map (eX cD false) [(nth J.ways O).aZ,(nth J.ways O).br]) true false),(28,ac ([(nth J.ways O).aZ,(nth J.ways O).br].length:Int)),(29,ac bH),(33,bo cD (nth [(nth J.ways O).aZ,(nth J.ways O).br] bH)),(34,ac ((nth [(nth J.ways O).aZ,(nth J.ways O).br] bH).length:Int)),(35,ac (IntKind.i64.wrap (cB+1)))]),[],(⟨aO,4,[[ah hk,ae 1 0 ax.length,ae 2 0 dV.length,ae 3 0 hw.length]]⟩::⟨0,1,List.map aH ax⟩::⟨0,2,List.map a1 (dV.set ((nth (nth [(nth J.ways O).aZ,(nth J.ways O).br] bH) cB).bb).toNat (aN.mk ((nth (nth [(nth J.ways O).aZ,(nth J.ways O).br] bH) cB).bx) ((nth dV ((nth (nth [(nth J.ways O).aZ,(nth J.ways O).br] bH) cB).bb)).aZ)))⟩::⟨0,5,aT 4 (hw.set O.toNat (aa.mk 1 ((nth hw O).gone) ((nth hw O).been) ((nth hw O).shown) ((nth hw O).timer))) hi⟩::List.map bc hb)⟩) (cC (n:=51) (A':=[(1,.ptr 0 aO 0 0),(27,.be (List.map (eX cD false) [(nth J.ways O).aZ,(nth J.ways O).br]) true false),(28,ac ([(nth J.ways O).aZ,(nth J.ways O).br].length:Int)),(29,ac bH),(33,bo cD (nth [(nth J.ways O).aZ,(nth J.ways O).br] bH)),(34,ac ((nth [(nth J.ways O).aZ,(nth J.ways O).br] bH).length:Int)),(35,ac (IntKind.i64.wrap (cB+1)))]) (L':=[]) [10]) (congrArg (fun z=>(⟨(a4 51 [(1,.ptr 0 aO 0 0),(27,.be (List.map (eX cD false) [(nth J.ways O).aZ,(nth J.ways O).br]) true false),(28,ac ([(nth J.ways O).aZ,(nth J.ways O).br].length:Int)),(29,ac bH),(33,bo cD (nth [(nth J.ways O).aZ,(nth J.ways O).br] bH)),(34,ac ((nth [(nth J.ways O).aZ,(nth J.ways O).br] bH).length:Int)),(35,ac (IntKind.i64.wrap (cB+1)))]),[],(⟨aO,4,[[ah hk,ae 1 0 ax.length,ae 2 0 z,ae 3 0 hw.length]]⟩::⟨0,1,List.map aH ax⟩::⟨0,2,List.map a1 (dV.set ((nth (nth [(nth J.ways O).aZ,(nth J.ways O).br] bH) cB).bb).toNat (aN.mk ((nth (nth [(nth J.ways O).aZ,(nth J.ways O).br] bH) cB).bx) ((nth dV ((nth (nth [(nth J.ways O).aZ,(nth J.ways O).br] bH) cB).bb)).aZ)))⟩::⟨0,5,aT 4 (hw.set O.toNat (aa.mk 1 ((nth hw O).gone) ((nth hw O).been) ((nth hw O).shown) ((nth hw O).timer))) hi⟩::List.map bc hb)⟩:St)) (show dV.length=(dV.set ((nth (nth [(nth J.ways O).aZ,(nth J.ways O).br] bH) cB).bb).toNat (aN.mk ((nth (nth [(nth J.ways O).aZ,(nth J.ways O).br] bH) cB).bx) ((nth dV ((nth (nth [(nth J.ways O).aZ,(nth J.ways O).br] bH) cB).bb)).aZ))).length by simp)))
theorem Ym (J:aB) (O:Int) (aO:Nat) (hk:Bool) (ax:List Bool) (aj:List aN) (hw:List aa) (hi:List Nat) (hb:List (List Bool)) (aF:Ki J O hk ax aj hw hi hb):dj Try.prog 136 [.agg (a8 false J),.ptr 0 aO 0 0,ac O] (⟨aO,4,[[ah hk,ae 1 0 ax.length,ae 2 0 aj.length,ae 3 0 hw.length]]⟩::⟨0,1,List.map aH ax⟩::⟨0,2,List.map a1 aj⟩::⟨0,5,aT 4 hw hi⟩::List.map bc hb) (fun r H'=> ∃(r5:List aN) (eb:List aa),r= .tup []∧H'=(⟨aO,4,[[ah hk,ae 1 0 ax.length,ae 2 0 r5.length,ae 3 0 eb.length]]⟩::⟨0,1,List.map aH ax⟩::⟨0,2,List.map a1 r5⟩::⟨0,5,aT 4 eb hi⟩::List.map bc hb)∧yP J O hk ax aj hw hi hb ax r5 eb hi hb):=Yq J O aO hk ax aj hw hi hb (fun x v=>cg ((jZ (nth J.ways O)).length:Int) (fun _=>false) v∧x=iL ((jZ (nth J.ways O)).take v.toNat).flatten aj) (fun _ v=>cn ((jZ (nth J.ways O)).length:Int) v) (fun x v y k=>cg ((nth (jZ (nth J.ways O)) v).length:Int) (fun _=>false) k∧y=iL ((nth (jZ (nth J.ways O)) v).take k.toNat) x) (fun _ v _ k=>cn ((nth (jZ (nth J.ways O)) v).length:Int) k) (by
 unfold Fz
 obtain⟨G,cA,t0,t1,t2,SN⟩:=aF
 have bg:O.toNat<hw.length:=by omega
 have io:O.toNat<J.ways.length:=by omega
 have bT:=cA.aZ _ (dt io)
 have tW:=cA.bb
 have dh:=G.pq bg
 have dP:=dh.setState 1
 refine⟨⟨t0,io⟩,⟨⟨t0,bg⟩,dh.e0⟩,fun aC=>⟨⟨cS (de _),rfl⟩,fun x v aM=> ?_⟩⟩
 obtain⟨aM,rfl⟩:=aM
 unfold FC
 refine⟨fun hv=> ?_,fun hv=>⟨b8 aM hv,fun hm=>⟨⟨cS (de _),rfl⟩,fun y k cu=> ?_⟩⟩⟩
 ·have jp: ¬v<((jZ (nth J.ways O)).length:Int):=by simpa[jZ] using hv
  have h1:=aM.2.1
  refine⟨?_,dP.G,dP.gN⟩
  rw[List.take_of_length_le (by omega),NU]
 ·obtain⟨cu,rfl⟩:=cu
  have b4:=b8 aM hv
  unfold FB FA
  refine⟨fun hk=>⟨⟨(cq (ci aC) aM hv rfl).1,?_⟩,(cq (ci aC) aM hv rfl).2⟩,fun hk=>⟨⟨b8 cu hk,?_⟩,⟨(cq (ci hm) cu hk rfl).1,?_⟩,(cq (ci hm) cu hk rfl).2⟩⟩
  ·have iF: ¬k<((nth (jZ (nth J.ways O)) v).length:Int):=of_decide_eq_false hk
   have h1:=cu.2.1
   rw[ho (ci aC) b4.1 (by simpa using hv),show(v+1).toNat=v.toNat+1 by omega,Y8 b4.2,List.take_of_length_le (by omega),fv b4.2]
  ·have hx:=bT.2.2 _ (Y9 b4.2 (dt (b8 cu hk).2))
   have e:(iL (List.take k.toNat (nth (jZ (nth J.ways O)) v)) (iL (List.take v.toNat (jZ (nth J.ways O))).flatten aj)).length=aj.length:=by rw[wV,wV]
   exact⟨hx.1,by rw[e];have:=hx.2;show(nth (nth (jZ (nth J.ways O)) v) k).bb.toNat<_;omega⟩
  ·have n0:=b8 cu hk
   rw[ho (ci hm) cu.1 (by simpa using hk),show(k+1).toNat=k.toNat+1 by omega,Mb n0.2,←fv n0.2]
   rfl)
noncomputable def X0:Code:=hM Try.f137
def Fa (J:aB) (O:Int) (hk:Bool) (ax:List Bool) (aj:List aN) (hw:List aa) (hi:List Nat) (hb:List (List Bool)):Prop:=
  sg J O hk ax aj hw hi hb ax aj ((hw.set O.toNat (aa.mk 3 ((nth hw O).gone) ((nth hw O).been) ((nth hw O).shown) ((nth hw O).timer))).set O.toNat (aa.mk ((nth (hw.set O.toNat (aa.mk 3 ((nth hw O).gone) ((nth hw O).been) ((nth hw O).shown) ((nth hw O).timer))) O).state) ((nth (hw.set O.toNat (aa.mk 3 ((nth hw O).gone) ((nth hw O).been) ((nth hw O).shown) ((nth hw O).timer))) O).gone) ((nth (hw.set O.toNat (aa.mk 3 ((nth hw O).gone) ((nth hw O).been) ((nth hw O).shown) ((nth hw O).timer))) O).been) ((nth (hw.set O.toNat (aa.mk 3 ((nth hw O).gone) ((nth hw O).been) ((nth hw O).shown) ((nth hw O).timer))) O).shown) J.hold)) hi hb 0
def Fb (J:aB) (O:Int) (hk:Bool) (ax:List Bool) (aj:List aN) (hw:List aa) (hi:List Nat) (hb:List (List Bool)) (cB:Int):Prop:=
  ((nth ax (nth ((nth J.ways O).ct) cB))&&((nth hw O).shown))=true→(hw.length=hi.length∧O.toNat<hw.length)∧(((hw.set O.toNat (aa.mk 3 ((nth hw O).gone) ((nth hw O).been) ((nth hw O).shown) ((nth hw O).timer))).length=hi.length∧O.toNat<(hw.set O.toNat (aa.mk 3 ((nth hw O).gone) ((nth hw O).been) ((nth hw O).shown) ((nth hw O).timer))).length)∧(Fa J O hk ax aj hw hi hb))
def Fc (aw:Int→Prop) (ay:Int→Nat) (J:aB) (O:Int) (hk:Bool) (ax:List Bool) (aj:List aN) (hw:List aa) (hi:List Nat) (hb:List (List Bool)) (cB:Int):Prop:=
  ((0≤cB∧cB.toNat<((nth J.ways O).ct).length)∧(((0≤(nth ((nth J.ways O).ct) cB)∧(nth ((nth J.ways O).ct) cB).toNat<ax.length)∧((nth ax (nth ((nth J.ways O).ct) cB))=true→hw.length=hi.length∧O.toNat<hw.length))∧(Fb J O hk ax aj hw hi hb cB)))∧((!((nth ax (nth ((nth J.ways O).ct) cB))&&((nth hw O).shown)))=true→aw (IntKind.i64.wrap (cB+1))∧ay (IntKind.i64.wrap (cB+1))<ay cB)
def Fe (aw:Int→Prop) (ay:Int→Nat) (J:aB) (O:Int) (hk:Bool) (ax:List Bool) (aj:List aN) (hw:List aa) (hi:List Nat) (hb:List (List Bool)):Prop:=
  aw 0∧ ∀(cB:Int),aw cB→(((decide (cB<(((nth J.ways O).ct).length:Int)))=false→(yI O hk ax aj hw hi hb)∧(∀(sU:List aa) (i18:List Nat) (s7:List (List Bool)),sc O hk ax aj hw hi hb ax aj sU i18 s7→(sg J O hk ax aj hw hi hb ax aj sU i18 s7 0)))∧((decide (cB<(((nth J.ways O).ct).length:Int)))=true→Fc aw ay J O hk ax aj hw hi hb cB))
def Ff (aw:Int→Prop) (ay:Int→Nat) (J:aB) (O:Int) (hk:Bool) (ax:List Bool) (aj:List aN) (hw:List aa) (hi:List Nat) (hb:List (List Bool)):Prop:=
  (((hw.length=hi.length∧O.toNat<hw.length)∧((((nth hw O).state) !=1)=true→hw.length=hi.length∧O.toNat<hw.length))∧(((((nth hw O).state) !=1)&&(((nth hw O).state) !=2))=true→sg J O hk ax aj hw hi hb ax aj hw hi hb 2))∧((!((((nth hw O).state) !=1)&&(((nth hw O).state) !=2)))=true→(0≤O∧O.toNat<J.ways.length)∧(((nth J.ways O).ct).length≤4611686018427387904→Fe aw ay J O hk ax aj hw hi hb))
def E_ (J:aB) (O:Int) (aO:Nat) (hk:Bool) (ax:List Bool) (aj:List aN) (hw:List aa) (hi:List Nat) (hb:List (List Bool)) (aw:Int→Prop) (ay:Int→Nat):Prop:=
 (0≤O∧O.toNat<hw.length)∧(Ff aw ay J O hk ax aj hw hi hb)
theorem X1 (J:aB) (O:Int) (aO:Nat) (hk:Bool) (ax:List Bool) (aj:List aN) (hw:List aa) (hi:List Nat) (hb:List (List Bool)) (aw:Int→Prop) (ay:Int→Nat) (h:E_ J O aO hk ax aj hw hi hb aw ay):dj Try.prog 137 [.agg (a8 false J),.ptr 0 aO 0 0,ac O] (⟨aO,4,[[ah hk,ae 1 0 ax.length,ae 2 0 aj.length,ae 3 0 hw.length]]⟩::⟨0,1,List.map aH ax⟩::⟨0,2,List.map a1 aj⟩::⟨0,5,aT 4 hw hi⟩::List.map bc hb) (fun r H'=> ∃(eb:List aa) (fz:List Nat) (dA:List (List Bool)) (ar:Int),r=ac ar∧H'=(⟨aO,4,[[ah hk,ae 1 0 ax.length,ae 2 0 aj.length,ae 3 0 eb.length]]⟩::⟨0,1,List.map aH ax⟩::⟨0,2,List.map a1 aj⟩::⟨0,5,aT 4 eb fz⟩::List.map bc dA)∧sg J O hk ax aj hw hi hb ax aj eb fz dA ar):=by
 unfold E_ at h
 refine dj.go (fn:=Try.f137) [(0,.agg (a8 false J)),(1,.ptr 0 aO 0 0),(2,ac O)] Try.func137 ?_
 show WpS _ (bK X0 1) _ ⟨a4 63 [(0,.agg (a8 false J)),(1,.ptr 0 aO 0 0),(2,ac O)],[],(⟨aO,4,[[ah hk,ae 1 0 ax.length,ae 2 0 aj.length,ae 3 0 hw.length]]⟩::⟨0,1,List.map aH ax⟩::⟨0,2,List.map a1 aj⟩::⟨0,5,aT 4 hw hi⟩::List.map bc hb)⟩
 refine l9 [] 0 [(6,ac 0),(3,an 3 0)] [0,1,1] [0,1,2] (fun L=>(3,(a8 false J))::L) id ?_
 obtain⟨jw,h⟩:=h
 refine b0 [(7,.ptr 3 0 (0+O.toNat) 0)] [3] (True) ?_ (fun q2=> ?_)
 ·
  replace h:=jw
  refine bm [] 1 ?_
  refine ld 4 (some 13) (ae 3 0 hw.length) [(12,.ptr 0 aO 0 3),(11,.ptr 0 aO 0 0),(10,.ptr 0 aO 0 0)] (φ:=aO=aO) rfl ?_
  have Zr:=h
  refine kH 2 (some 15) [(14,ac O)] 3 0 5 Zr ?_
  exact bL [(7,.ptr 3 0 (0+O.toNat) 0)] trivial
 unfold Ff at h
 obtain⟨kg,h⟩:=h
 refine b0 [] [4] ((!((((nth hw O).state) !=1)&&(((nth hw O).state) !=2)))=true) ?_ (fun q3=> ?_)
 ·
  replace h:=kg
  obtain⟨fH,h⟩:=h
  refine b0 [(27,ah ((((nth hw O).state) !=1)&&(((nth hw O).state) !=2)))] [4] (True) ?_ (fun q4=> ?_)
  ·
   replace h:=fH
   refine bm [] 2 ?_
   obtain⟨et,h⟩:=h
   refine hU 4 (some 19) [(18,.ptr 3 0 (0+O.toNat) 0),(17,.ptr 3 0 (0+O.toNat) 0),(16,.ptr 3 0 (0+O.toNat) 0)] (aT 4 hw hi) O 3 0 0 (ac ((nth hw O).state)) (dq et.1 et.2) ?_
   refine kI 2 21 (((nth hw O).state) !=1) [(20,ah (((nth hw O).state) !=1))] (fun cx=> ?_) (fun cx=> ?_)
   ·
    replace h:=h cx
    have cT:=h
    refine hU 4 (some 25) [(24,.ptr 3 0 (0+O.toNat) 0),(23,.ptr 3 0 (0+O.toNat) 0),(22,.ptr 3 0 (0+O.toNat) 0)] (aT 4 hw hi) O 3 0 0 (ac ((nth hw O).state)) (dq cT.1 cT.2) ?_
    exact bL [(27,ah (((nth hw O).state) !=2)),(26,ah (((nth hw O).state) !=2))] trivial (by simp only[cx]<;>kernel_rfl)
   ·
    exact bL ([(27,ah false)]++e4 [26,25,24,23,22]) trivial (by simp only[cx]<;>kernel_rfl)
  refine cN (fun eB=> ?_) (fun eB=> ?_)
  ·
   replace h:=h eB
   refine cQ [] 3 [(6,ac 2)] [1] [] ?_
   refine e8 ?_
   refine bR.ret ?_
   refine lz (ac 2) [ac 2] ?_
   exact⟨hw,hi,hb,2,rfl,rfl,h⟩
  ·
   refine c6 ?_
   exact bR.normal (by simp only[eB]<;>rfl) cW
 replace h:=h q3
 refine fy ?_
 obtain⟨kf,h⟩:=h
 refine b0 [(33,bo bW ((nth J.ways O).ct)),(34,ac (((nth J.ways O).ct).length:Int)),(35,ac 0)] [3] (((nth J.ways O).ct).length≤4611686018427387904) ?_ (fun fI=> ?_)
 ·
  replace h:=kf
  refine bm [] 4 ?_
  have eU:=h
  refine hT 4 (some 31) [(30,ac O),(29,bo (c9 false) J.ways),(28,an 3 2)] (c9 false) J.ways 5 eU ?_
  refine sLen 3 (some 34) [(33,bo bW ((nth J.ways O).ct)),(32,.cZ (c9 false (nth J.ways O)) 4)] bW ((nth J.ways O).ct) (fun gw=> ?_)
  exact bL [(35,ac 0)] gw
 replace h:=h fI
 unfold Fe at h
 refine dM 0 ?_
 obtain⟨kD,h⟩:=h
 refine hr (fun(v:Int)=>(⟨(a4 63 [(1,.ptr 0 aO 0 0),(3,an 3 0),(7,.ptr 3 0 (0+O.toNat) 0),(33,bo bW ((nth J.ways O).ct)),(34,ac (((nth J.ways O).ct).length:Int)),(35,ac v)]),[(3,(a8 false J))],(⟨aO,4,[[ah hk,ae 1 0 ax.length,ae 2 0 aj.length,ae 3 0 hw.length]]⟩::⟨0,1,List.map aH ax⟩::⟨0,2,List.map a1 aj⟩::⟨0,5,aT 4 hw hi⟩::List.map bc hb)⟩:St)) (fun(v:Int)=>aw v) (fun(v:Int)=>ay v) 0 (cC []) kD (fun cB aM=> ?_)
 replace h:=h cB aM
 refine cQ [] 5 [(36,ah (decide (cB<(((nth J.ways O).ct).length:Int))))] [1] [6] ?_
 obtain⟨iy,h⟩:=h
 refine b0 [] [0,1,6] ((decide (cB<(((nth J.ways O).ct).length:Int)))=true) ?_ (fun gT=> ?_)
 ·
  replace h:=iy
  refine cN (fun h_=> ?_) (fun h_=> ?_)
  ·
   refine c6 ?_
   exact bR.normal (by simp only[q3,h_]<;>rfl) cW
  ·
   replace h:=h h_
   refine gG 0 ?_
   refine bR.exit ?_
   refine cU.exit ?_
   refine bZ.here ?_
   refine c4.normal ?_
   refine fy ?_
   refine bm [] 12 ?_
   obtain⟨ia,h⟩:=h
   refine rb 2 (some 62) [(61,.ptr 3 0 (0+O.toNat) 0)] [.ptr 3 0 (0+O.toNat) 0] _ (Fs O aO hk ax aj hw hi hb ia) (fun r H' aj=>by obtain⟨_,_,_,rfl,_⟩:=aj;rfl) ?_
   rintro r H' ⟨sU,i18,s7,rfl,rfl,eA⟩
   replace h:=h sU i18 s7 eA
   refine df [] ?_
   refine c4.normal ?_
   refine gX ⟨(a4 63 [(6,ac 0)]),[(3,(a8 false J))],(⟨aO,4,[[ah hk,ae 1 0 ax.length,ae 2 0 aj.length,ae 3 0 sU.length]]⟩::⟨0,1,List.map aH ax⟩::⟨0,2,List.map a1 aj⟩::⟨0,5,aT 4 sU i18⟩::List.map bc s7)⟩ (True) ?_ (fun gx=> ?_)
   ·
    refine bm [] 13 ?_
    exact bL [(6,ac 0)] trivial
   refine e8 ?_
   refine lz (ac 0) [ac 0] ?_
   exact⟨sU,i18,s7,0,rfl,rfl,h⟩
 replace h:=h gT
 unfold Fc at h
 obtain⟨ns,h⟩:=h
 refine b0 [] [6] ((!((nth ax (nth ((nth J.ways O).ct) cB))&&((nth hw O).shown)))=true) ?_ (fun gy=> ?_)
 ·
  replace h:=ns
  refine dM 1 ?_
  obtain⟨iY,h⟩:=h
  refine b0 [(9,ac (nth ((nth J.ways O).ct) cB))] [6] (True) ?_ (fun ff=> ?_)
  ·
   replace h:=iY
   refine bm [] 6 ?_
   have gz:=h
   refine hT 1 (some 37) [] bW ((nth J.ways O).ct) 1 gz ?_
   exact bL [(9,ac (nth ((nth J.ways O).ct) cB)),(38,ac (nth ((nth J.ways O).ct) cB))] trivial
  obtain⟨nr,h⟩:=h
  refine b0 [(51,ah ((nth ax (nth ((nth J.ways O).ct) cB))&&((nth hw O).shown)))] [0,1,6] (True) ?_ (fun gh=> ?_)
  ·
   replace h:=nr
   refine bm [] 7 ?_
   refine ld 4 (some 42) (ae 1 0 ax.length) [(41,.ptr 0 aO 0 1),(40,.ptr 0 aO 0 0),(39,.ptr 0 aO 0 0)] (φ:=aO=aO) rfl ?_
   obtain⟨Og,h⟩:=h
   refine kH 2 (some 44) [(43,ac (nth ((nth J.ways O).ct) cB))] 1 0 1 Og ?_
   refine L3 1 (some 45) [] aH ax (nth ((nth J.ways O).ct) cB) 4 0 0 (ah (nth ax (nth ((nth J.ways O).ct) cB))) (by simpa using Og.2) ?_
   refine kI 1 46 (nth ax (nth ((nth J.ways O).ct) cB)) [] (fun jv=> ?_) (fun jv=> ?_)
   ·
    replace h:=h jv
    have ix:=h
    refine hU 4 (some 50) [(49,.ptr 3 0 (0+O.toNat) 3),(48,.ptr 3 0 (0+O.toNat) 0),(47,.ptr 3 0 (0+O.toNat) 0)] (aT 4 hw hi) O 4 3 0 (ah ((nth hw O).shown)) (dq ix.1 ix.2) ?_
    exact bL [(51,ah ((nth hw O).shown))] trivial (by simp only[q3,gT,jv]<;>kernel_rfl)
   ·
    exact bL ([(51,ah false)]++e4 [50,49,48,47]) trivial (by simp only[q3,gT,jv]<;>kernel_rfl)
  unfold Fb at h
  refine cN (fun hl=> ?_) (fun hl=> ?_)
  ·
   replace h:=h hl
   obtain⟨eV,h⟩:=h
   refine dD [] [0,2,2] id (fun H=>dC 3 ⟨0,5,aT 4 (hw.set O.toNat (aa.mk 3 ((nth hw O).gone) ((nth hw O).been) ((nth hw O).shown) ((nth hw O).timer))) hi⟩ H) (True) ?_ (fun hP=> ?_)
   ·
    replace h:=eV
    refine bm [] 8 ?_
    have ib:=h
    refine jb 4 none [(54,.ptr 3 0 (0+O.toNat) 0),(53,.ptr 3 0 (0+O.toNat) 0),(52,.ptr 3 0 (0+O.toNat) 0)] (aT 4 hw hi) O 0 1 0 [ac 3] 3 (aT 4 (hw.set O.toNat (aa.mk 3 ((nth hw O).gone) ((nth hw O).been) ((nth hw O).shown) ((nth hw O).timer))) hi) (dq ib.1 ib.2) (jk ib.1 ib.2) ?_
    exact bL [] trivial
   obtain⟨ke,h⟩:=h
   refine dD [] [] id (fun H=>dC 3 ⟨0,5,aT 4 ((hw.set O.toNat (aa.mk 3 ((nth hw O).gone) ((nth hw O).been) ((nth hw O).shown) ((nth hw O).timer))).set O.toNat (aa.mk ((nth (hw.set O.toNat (aa.mk 3 ((nth hw O).gone) ((nth hw O).been) ((nth hw O).shown) ((nth hw O).timer))) O).state) ((nth (hw.set O.toNat (aa.mk 3 ((nth hw O).gone) ((nth hw O).been) ((nth hw O).shown) ((nth hw O).timer))) O).gone) ((nth (hw.set O.toNat (aa.mk 3 ((nth hw O).gone) ((nth hw O).been) ((nth hw O).shown) ((nth hw O).timer))) O).been) ((nth (hw.set O.toNat (aa.mk 3 ((nth hw O).gone) ((nth hw O).been) ((nth hw O).shown) ((nth hw O).timer))) O).shown) J.hold)) hi⟩ H) (True) ?_ (fun jU=> ?_)
   ·
    replace h:=ke
    refine bm [] 9 ?_
    have hn:=h
    refine jb 6 none [(59,.ptr 3 0 (0+O.toNat) 4),(58,.ptr 3 0 (0+O.toNat) 0),(57,ac J.hold),(56,an 3 4),(55,.ptr 3 0 (0+O.toNat) 0)] (aT 4 (hw.set O.toNat (aa.mk 3 ((nth hw O).gone) ((nth hw O).been) ((nth hw O).shown) ((nth hw O).timer))) hi) O 4 1 0 [ac J.hold] 3 (aT 4 ((hw.set O.toNat (aa.mk 3 ((nth hw O).gone) ((nth hw O).been) ((nth hw O).shown) ((nth hw O).timer))).set O.toNat (aa.mk ((nth (hw.set O.toNat (aa.mk 3 ((nth hw O).gone) ((nth hw O).been) ((nth hw O).shown) ((nth hw O).timer))) O).state) ((nth (hw.set O.toNat (aa.mk 3 ((nth hw O).gone) ((nth hw O).been) ((nth hw O).shown) ((nth hw O).timer))) O).gone) ((nth (hw.set O.toNat (aa.mk 3 ((nth hw O).gone) ((nth hw O).been) ((nth hw O).shown) ((nth hw O).timer))) O).been) ((nth (hw.set O.toNat (aa.mk 3 ((nth hw O).gone) ((nth hw O).been) ((nth hw O).shown) ((nth hw O).timer))) O).shown) J.hold)) hi) (dq hn.1 hn.2) (jk hn.1 hn.2) ?_
    exact bL [] trivial
   refine cQ [] 10 [(6,ac 0)] [1] [] ?_
   unfold Fa at h
   refine e8 ?_
   refine bZ.ret ?_
   refine bR.ret ?_
   refine cU.ret ?_
   refine bZ.ret ?_
   refine c4.ret ?_
   refine lz (ac 0) [ac 0] ?_
   exact⟨((hw.set O.toNat (aa.mk 3 ((nth hw O).gone) ((nth hw O).been) ((nth hw O).shown) ((nth hw O).timer))).set O.toNat (aa.mk ((nth (hw.set O.toNat (aa.mk 3 ((nth hw O).gone) ((nth hw O).been) ((nth hw O).shown) ((nth hw O).timer))) O).state) ((nth (hw.set O.toNat (aa.mk 3 ((nth hw O).gone) ((nth hw O).been) ((nth hw O).shown) ((nth hw O).timer))) O).gone) ((nth (hw.set O.toNat (aa.mk 3 ((nth hw O).gone) ((nth hw O).been) ((nth hw O).shown) ((nth hw O).timer))) O).been) ((nth (hw.set O.toNat (aa.mk 3 ((nth hw O).gone) ((nth hw O).been) ((nth hw O).shown) ((nth hw O).timer))) O).shown) J.hold)),hi,hb,0,rfl,(by rw[show hw.length=((hw.set O.toNat (aa.mk 3 ((nth hw O).gone) ((nth hw O).been) ((nth hw O).shown) ((nth hw O).timer))).set O.toNat (aa.mk ((nth (hw.set O.toNat (aa.mk 3 ((nth hw O).gone) ((nth hw O).been) ((nth hw O).shown) ((nth hw O).timer))) O).state) ((nth (hw.set O.toNat (aa.mk 3 ((nth hw O).gone) ((nth hw O).been) ((nth hw O).shown) ((nth hw O).timer))) O).gone) ((nth (hw.set O.toNat (aa.mk 3 ((nth hw O).gone) ((nth hw O).been) ((nth hw O).shown) ((nth hw O).timer))) O).been) ((nth (hw.set O.toNat (aa.mk 3 ((nth hw O).gone) ((nth hw O).been) ((nth hw O).shown) ((nth hw O).timer))) O).shown) J.hold)).length by simp]<;>rfl),h⟩
  ·
   refine c6 ?_
   refine bZ.normal ?_
   exact bR.normal (by simp only[q3,gT,hl]<;>rfl) cW
 replace h:=h gy
 refine bm [] 11 ?_
 refine df [(35,ac (IntKind.i64.wrap (cB+1))),(60,ac (IntKind.i64.wrap (cB+1)))] ?_
 exact cU.again (IntKind.i64.wrap (cB+1)) h (cC [])
theorem XZ (J:aB) (O:Int) (aO:Nat) (hk:Bool) (ax:List Bool) (aj:List aN) (hw:List aa) (hi:List Nat) (hb:List (List Bool)) (aF:Kh J O hk ax aj hw hi hb):dj Try.prog 137 [.agg (a8 false J),.ptr 0 aO 0 0,ac O] (⟨aO,4,[[ah hk,ae 1 0 ax.length,ae 2 0 aj.length,ae 3 0 hw.length]]⟩::⟨0,1,List.map aH ax⟩::⟨0,2,List.map a1 aj⟩::⟨0,5,aT 4 hw hi⟩::List.map bc hb) (fun r H'=> ∃(eb:List aa) (fz:List Nat) (dA:List (List Bool)) (ar:Int),r=ac ar∧H'=(⟨aO,4,[[ah hk,ae 1 0 ax.length,ae 2 0 aj.length,ae 3 0 eb.length]]⟩::⟨0,1,List.map aH ax⟩::⟨0,2,List.map a1 aj⟩::⟨0,5,aT 4 eb fz⟩::List.map bc dA)∧sg J O hk ax aj hw hi hb ax aj eb fz dA ar):=X1 J O aO hk ax aj hw hi hb (cg ((nth J.ways O).ct.length:Int) (fun k=>nth ax (nth (nth J.ways O).ct k)&&(nth hw O).shown)) (cn ((nth J.ways O).ct.length:Int)) (by
 unfold E_
 obtain⟨G,cA,t0,t1,t2,tP⟩:=aF
 have bg:O.toNat<hw.length:=by omega
 have io:O.toNat<J.ways.length:=by omega
 have gY:=cA.ct _ (dt io)
 have pN:=cA.cK
 have dh:=G.pq bg
 have P4:(nth hw O).state=(nth (cL hk ax aj hw hi hb).ways O).state:=dh.state
 have tj:(nth hw O).shown=(nth (cL hk ax aj hw hi hb).ways O).shown:=dh.shown
 have ng:((((nth hw O).state) !=1)&&(((nth hw O).state) !=2))=decide ((nth (cL hk ax aj hw hi hb).ways O).state≠1∧(nth (cL hk ax aj hw hi hb).ways O).state≠2):=by
  rw[Bool.eq_iff_iff,P4];simp
 unfold Ff
 rw[ng]
 refine⟨⟨t0,bg⟩,⟨⟨dh.e0,fun _=>dh.e0⟩,fun hc=> ?_⟩,fun hc=>⟨⟨t0,io⟩,fun aC=> ?_⟩⟩
 ·have hc:=of_decide_eq_true hc
  have e:qk (cL hk ax aj hw hi hb) O=2:=by unfold qk;rw[if_pos hc]
  exact⟨G,e.symm,by rw[e];rfl⟩
 have hc: ¬_:=of_decide_eq_false (by simpa only[Bool.not_eq_true'] using hc)
 have jf:qk (cL hk ax aj hw hi hb) O=0:=by unfold qk;rw[if_neg hc]
 unfold Fe
 refine⟨cS (de _),fun v aM=>⟨fun hv=>⟨⟨G,t0,t1⟩,fun w i b jn=> ?_⟩,fun hv=> ?_⟩⟩
 ·obtain⟨mC,jp⟩:=jn
  refine⟨mC,jf.symm,?_⟩
  rw[if_pos jf,jp]
  have k6:((nth (cL hk ax aj hw hi hb).ways O).shown&&fZ (cL hk ax aj hw hi hb) (nth J.ways O).ct)=false:=by
   rw[←tj]
   have dZ:=lD (q:=fun x=>nth ax x&&(nth hw O).shown) (ga aM hv)
   cases hs:(nth hw O).shown with
   | false=>rfl
   | true=>
    rw[Bool.true_and]
    unfold fZ
    rw[List.any_eq_false]
    intro x hx
    have:=dZ x hx
    simp only[hs,Bool.and_true] at this
    show ¬(nth ax x=true)
    rw[this];simp
  unfold xu
  rw[if_neg (by rw[k6];simp)];rfl
 ·unfold Fc
  have b4:=b8 aM hv
  have hx:=gY.2 _ (dt b4.2)
  refine⟨⟨b4,⟨⟨hx.1,by omega⟩,fun _=>dh.e0⟩,?_⟩,fun dA=>cq (ci aC) aM hv (not_eq dA)⟩
  unfold Fb Fa
  intro dA
  have dP:=dh.setState 3
  refine⟨dh.e0,dP.e0,?_⟩
  have fx:=dP.uX J.hold
  refine⟨fx.G,jf.symm,?_⟩
  rw[if_pos jf]
  have jK:nth ax (nth (nth J.ways O).ct v)=true∧(nth hw O).shown=true:=by simpa using dA
  have RO:fZ (cL hk ax aj hw hi hb) (nth J.ways O).ct=true:=by
   unfold fZ;rw[List.any_eq_true];exact⟨_,dt b4.2,jK.1⟩
  unfold xu
  rw[if_pos (by rw[RO,←tj,jK.2];rfl)]
  exact fx.gN)
noncomputable def Xv:Code:=hM Try.f92
def Xx:List Item:=[au 0,au 1,au 2,au 3,au 4,au 5,au 6,au 7,au 8,au 9]
def Xy:List (List Nat):=[[],[0],[],[2],[],[4],rg 2 6,rg 2 7,rg 0 8,rg 0 9]
def EK (cz:List (List Bool)→(List Bool)→(List aN)→List Nat→Int→List aa→Prop) (J:aB) (M:Frame) (O:Event):Prop:=
  (((d_ J M O.ag)==0)=true→(Ki J O.ag ((U M).ok) ((U M).al) ((U M).ak) ((U M).ways) (List.range ((U M).ways).length) (List.map aa.been ((U M).ways)))∧(∀(gx:List aN) (w9:List aa),yP J O.ag ((U M).ok) ((U M).al) ((U M).ak) ((U M).ways) (List.range ((U M).ways).length) (List.map aa.been ((U M).ways)) ((U M).al) gx w9 (List.range ((U M).ways).length) (List.map aa.been ((U M).ways))→(cz (List.map aa.been ((U M).ways)) ((U M).al) gx (List.range ((U M).ways).length) (d_ J M O.ag) w9)))∧(((d_ J M O.ag)==0)=false→cz (List.map aa.been ((U M).ways)) ((U M).al) ((U M).ak) (List.range ((U M).ways).length) (d_ J M O.ag) ((U M).ways))
def EO (cz:List (List Bool)→(List Bool)→(List aN)→List Nat→Int→List aa→Prop) (J:aB) (M:Frame) (O:Event):Prop:=
  ((nth M.al (nth J.bh O.ag))=true→cz (List.map aa.been ((U M).ways)) ((U M).al) ((U M).ak) (List.range ((U M).ways).length) 3 ((U M).ways))∧((nth M.al (nth J.bh O.ag))=false→(0≤O.ag∧O.ag.toNat<((U M).ak).length)∧(cz (List.map aa.been ((U M).ways)) ((U M).al) (((U M).ak).set O.ag.toNat (aN.mk O.bx ((nth ((U M).ak) O.ag).aZ))) (List.range ((U M).ways).length) 0 ((U M).ways)))
def EP (cz:List (List Bool)→(List Bool)→(List aN)→List Nat→Int→List aa→Prop) (J:aB) (M:Frame) (O:Event):Prop:=
  ((decide (((fQ J M O.ag).length:Int)>0))=true→cz (List.map aa.been ((U M).ways)) ((U M).al) ((U M).ak) (List.range ((U M).ways).length) 2 ((U M).ways))∧((decide (((fQ J M O.ag).length:Int)>0))=false→((0≤O.ag∧O.ag.toNat<J.bh.length)∧(0≤(nth J.bh O.ag)∧(nth J.bh O.ag).toNat<M.al.length))∧(EO cz J M O))
def EQ (aw:List (List Bool)→List Nat→Int→List aa→Prop) (ay:List (List Bool)→List Nat→Int→List aa→Nat) (M:Frame) (aG:List (List Bool)) (b2:List Nat) (bn:Int) (az:List aa):Prop:=
  ((((nth (az.set bn.toNat (aa.mk ((nth az bn).state) ((nth az bn).gone) ((nth az bn).been) ((nth az bn).shown) (IntKind.i64.wrap (((nth az bn).timer) - 1)))) bn).timer)==0)=true→(yI bn ((U M).ok) ((U M).al) ((U M).ak) (az.set bn.toNat (aa.mk ((nth az bn).state) ((nth az bn).gone) ((nth az bn).been) ((nth az bn).shown) (IntKind.i64.wrap (((nth az bn).timer) - 1)))) b2 aG)∧(∀(u_:List aa) (i71:List Nat) (s9:List (List Bool)),sc bn ((U M).ok) ((U M).al) ((U M).ak) (az.set bn.toNat (aa.mk ((nth az bn).state) ((nth az bn).gone) ((nth az bn).been) ((nth az bn).shown) (IntKind.i64.wrap (((nth az bn).timer) - 1)))) b2 aG ((U M).al) ((U M).ak) u_ i71 s9→(aw s9 i71 (IntKind.i64.wrap (bn+1)) u_∧ay s9 i71 (IntKind.i64.wrap (bn+1)) u_<ay aG b2 bn az)))∧((((nth (az.set bn.toNat (aa.mk ((nth az bn).state) ((nth az bn).gone) ((nth az bn).been) ((nth az bn).shown) (IntKind.i64.wrap (((nth az bn).timer) - 1)))) bn).timer)==0)=false→aw aG b2 (IntKind.i64.wrap (bn+1)) (az.set bn.toNat (aa.mk ((nth az bn).state) ((nth az bn).gone) ((nth az bn).been) ((nth az bn).shown) (IntKind.i64.wrap (((nth az bn).timer) - 1))))∧ay aG b2 (IntKind.i64.wrap (bn+1)) (az.set bn.toNat (aa.mk ((nth az bn).state) ((nth az bn).gone) ((nth az bn).been) ((nth az bn).shown) (IntKind.i64.wrap (((nth az bn).timer) - 1))))<ay aG b2 bn az)
def ER (aw:List (List Bool)→List Nat→Int→List aa→Prop) (ay:List (List Bool)→List Nat→Int→List aa→Nat) (M:Frame) (aG:List (List Bool)) (b2:List Nat) (bn:Int) (az:List aa):Prop:=
  ((az.set bn.toNat (aa.mk ((nth az bn).state) ((nth az bn).gone) ((nth az bn).been) ((nth az bn).shown) (IntKind.i64.wrap (((nth az bn).timer) - 1)))).length=b2.length∧bn.toNat<(az.set bn.toNat (aa.mk ((nth az bn).state) ((nth az bn).gone) ((nth az bn).been) ((nth az bn).shown) (IntKind.i64.wrap (((nth az bn).timer) - 1)))).length)∧(EQ aw ay M aG b2 bn az)
def ES (aw:List (List Bool)→List Nat→Int→List aa→Prop) (ay:List (List Bool)→List Nat→Int→List aa→Nat) (M:Frame) (aG:List (List Bool)) (b2:List Nat) (bn:Int) (az:List aa):Prop:=
  ((az.length=b2.length∧bn.toNat<az.length)∧((((nth az bn).state) !=3)=true→aw aG b2 (IntKind.i64.wrap (bn+1)) az∧ay aG b2 (IntKind.i64.wrap (bn+1)) az<ay aG b2 bn az))∧((!(((nth az bn).state) !=3))=true→((az.length=b2.length∧bn.toNat<az.length)∧(az.length=b2.length∧bn.toNat<az.length))∧(ER aw ay M aG b2 bn az))
def ET (aw:List (List Bool)→List Nat→Int→List aa→Prop) (ay:List (List Bool)→List Nat→Int→List aa→Nat) (cz:List (List Bool)→(List Bool)→(List aN)→List Nat→Int→List aa→Prop) (M:Frame):Prop:=
  aw (List.map aa.been ((U M).ways)) (List.range ((U M).ways).length) 0 ((U M).ways)∧ ∀(aG:List (List Bool)) (b2:List Nat) (bn:Int) (az:List aa),aw aG b2 bn az→(((decide (bn<(((U M).ways).length:Int)))=false→cz aG ((U M).al) ((U M).ak) b2 0 az)∧((decide (bn<(((U M).ways).length:Int)))=true→(0≤bn∧bn.toNat<az.length)∧(ES aw ay M aG b2 bn az)))
def EU (aw:List (List Bool)→List Nat→Int→List aa→Prop) (ay:List (List Bool)→List Nat→Int→List aa→Nat) (cz:List (List Bool)→(List Bool)→(List aN)→List Nat→Int→List aa→Prop) (J:aB) (M:Frame) (O:Event):Prop:=
  ((O.op==5)=true→(0≤O.ag∧O.ag.toNat<((U M).ak).length)∧(cz (List.map aa.been ((U M).ways)) ((U M).al) (((U M).ak).set O.ag.toNat (aN.mk ((nth ((U M).ak) O.ag).want) O.bx)) (List.range ((U M).ways).length) 0 ((U M).ways)))∧((O.op==5)=false→((O.op==6)=true→(q0 J M O.ag)∧((fQ J M O.ag).length≤4611686018427387904→EP cz J M O))∧((O.op==6)=false→((O.op==7)=true→ET aw ay cz M)∧((O.op==7)=false→cz (List.map aa.been ((U M).ways)) ((U M).al) ((U M).ak) (List.range ((U M).ways).length) 0 ((U M).ways))))
def EV (aw:List (List Bool)→List Nat→Int→List aa→Prop) (ay:List (List Bool)→List Nat→Int→List aa→Nat) (cz:List (List Bool)→(List Bool)→(List aN)→List Nat→Int→List aa→Prop) (J:aB) (M:Frame) (O:Event):Prop:=
  ((O.op==3)=true→(0≤O.ag∧O.ag.toNat<((U M).al).length)∧(cz (List.map aa.been ((U M).ways)) (((U M).al).set O.ag.toNat true) ((U M).ak) (List.range ((U M).ways).length) 0 ((U M).ways)))∧((O.op==3)=false→((O.op==4)=true→(0≤O.ag∧O.ag.toNat<((U M).al).length)∧(cz (List.map aa.been ((U M).ways)) (((U M).al).set O.ag.toNat false) ((U M).ak) (List.range ((U M).ways).length) 0 ((U M).ways)))∧((O.op==4)=false→EU aw ay cz J M O))
def EL (aw:List (List Bool)→List Nat→Int→List aa→Prop) (ay:List (List Bool)→List Nat→Int→List aa→Nat) (cz:List (List Bool)→(List Bool)→(List aN)→List Nat→Int→List aa→Prop) (J:aB) (M:Frame) (O:Event):Prop:=
  ((O.op==2)=true→(Kh J O.ag ((U M).ok) ((U M).al) ((U M).ak) ((U M).ways) (List.range ((U M).ways).length) (List.map aa.been ((U M).ways)))∧(∀(eH:List aa) (i28:List Nat) (j2:List (List Bool)) (uO:Int),sg J O.ag ((U M).ok) ((U M).al) ((U M).ak) ((U M).ways) (List.range ((U M).ways).length) (List.map aa.been ((U M).ways)) ((U M).al) ((U M).ak) eH i28 j2 uO→(cz j2 ((U M).al) ((U M).ak) i28 uO eH)))∧((O.op==2)=false→EV aw ay cz J M O)
def EM (J:aB) (M:Frame) (ar:cP) (aG:List (List Bool)) (b2:List Nat) (az:List aa) (aL:(List Bool)) (bQ:(List aN)) (bP:Int):Prop:=
  (Ew J ((U M).ok) aL bQ az b2 aG)∧(∀(m5:List aa) (i82:List Nat) (qj:List (List Bool)),wU J ((U M).ok) aL bQ az b2 aG aL bQ m5 i82 qj→((bP=ar.code)∧((U M).ok=ar.frame.ok)∧(aL.length≤4611686018427387904∧aL=ar.frame.al)∧(bQ.length≤4611686018427387904∧bQ=ar.frame.ak)∧(iQ m5 i82 qj∧m5.length≤4611686018427387904∧(∀x∈qj,List.length x≤4611686018427387904)∧view m5 i82 qj=ar.frame.ways)))
def EN (aw:List (List Bool)→List Nat→Int→List aa→Prop) (ay:List (List Bool)→List Nat→Int→List aa→Nat) (cz:List (List Bool)→(List Bool)→(List aN)→List Nat→Int→List aa→Prop) (J:aB) (M:Frame) (O:Event) (ar:cP):Prop:=
  (((HT J M)∧((!(hz J M))=false→Lo J O))∧(((!(hz J M)) || (!(eh J O)))=true→(1=ar.code)∧(false=ar.frame.ok)∧([]=ar.frame.al)∧([]=ar.frame.ak)∧([]=ar.frame.ways)))∧((!((!(hz J M)) || (!(eh J O))))=true→(gK M)∧((((O.op==1)=true→(pj J M O.ag)∧(EK cz J M O))∧((O.op==1)=false→EL aw ay cz J M O))∧(∀(aG:List (List Bool)) (aL:(List Bool)) (bQ:(List aN)) (b2:List Nat) (bP:Int) (az:List aa),cz aG aL bQ b2 bP az→(EM J M ar aG b2 az aL bQ bP))))
def EJ (J:aB) (M:Frame) (O:Event) (ar:cP) (aw:List (List Bool)→List Nat→Int→List aa→Prop) (ay:List (List Bool)→List Nat→Int→List aa→Nat) (cz:List (List Bool)→(List Bool)→(List aN)→List Nat→Int→List aa→Prop):Prop:=
 EN aw ay cz J M O ar
theorem Xz (J:aB) (M:Frame) (O:Event) (ar:cP) (aw:List (List Bool)→List Nat→Int→List aa→Prop) (ay:List (List Bool)→List Nat→Int→List aa→Nat) (cz:List (List Bool)→(List Bool)→(List aN)→List Nat→Int→List aa→Prop) (h:EJ J M O ar aw ay cz):b3 Try.prog 92 [.agg (a8 false J),.agg (bS false M),.agg (eE O)] (.agg (fT true ar)):=by
 unfold EJ at h
 refine dj.go (fn:=Try.f92) [(0,.agg (a8 false J)),(1,.agg (bS false M)),(2,.agg (eE O))] Try.func92 ?_
 show WpS _ (bK Xv 1) _ ⟨a4 133 [(0,.agg (a8 false J)),(1,.agg (bS false M)),(2,.agg (eE O))],[],[]⟩
 refine WpS.jd ?_ (fK (s'':=⟨(a4 133 [(0,.agg (a8 false J)),(1,.agg (bS false M)),(2,.agg (eE O))]),[],[⟨0,4,[]⟩]⟩) (Weak.so (T:=(a4 133 [(0,.agg (a8 false J)),(1,.agg (bS false M)),(2,.agg (eE O))])) (L:=[]) (H:=[]) 4) (by kernel_rfl))
 refine m_ [2000007] 0 [(6,an 6 0),(5,an 5 0),(4,an 4 0),(3,an 3 0)] [4] [] [(6,[ac 0,ah false,ao,ao,ao]),(5,(eE O)),(4,(bS false M)),(3,(a8 false J))] [⟨0,4,[]⟩] ?_
 unfold EN at h
 obtain⟨oe,h⟩:=h
 refine b0 [] [4] ((!((!(hz J M)) || (!(eh J O))))=true) ?_ (fun q2=> ?_)
 ·
  replace h:=oe
  obtain⟨gU,h⟩:=h
  refine b0 [(20,ah ((!(hz J M)) || (!(eh J O))))] [4] (True) ?_ (fun q3=> ?_)
  ·
   replace h:=gU
   refine bm [2000007] 1 ?_
   obtain⟨q4,h⟩:=h
   refine ic 3 (some 13) [(12,.agg (bS false M)),(11,.agg (a8 false J))] [.agg (a8 false J),.agg (bS false M)] (XA J M q4) (av.cons (ck.agg (av.cons (.int _ _) (av.cons b7 (av.cons b7 (av.cons b7 (av.cons (.int _ _) av.nil)))))) (av.cons (ck.agg (av.cons (.bool _) (av.cons b7 (av.cons b7 (av.cons b7 av.nil))))) av.nil)) ?_
   refine kI 2 15 (!(hz J M)) [(14,ah (!(hz J M)))] (fun cx=> ?_) (fun cx=> ?_)
   ·
    exact bL ([(20,ah true)]++e4 [19,18,17,16]) trivial (by simp only[cx]<;>kernel_rfl)
   ·
    replace h:=h cx
    have cT:=h
    refine ic 3 (some 18) [(17,.agg (eE O)),(16,.agg (a8 false J))] [.agg (a8 false J),.agg (eE O)] (X8 J O cT) (av.cons (ck.agg (av.cons (.int _ _) (av.cons b7 (av.cons b7 (av.cons b7 (av.cons (.int _ _) av.nil)))))) (av.cons (ck.agg (av.cons (.int _ _) (av.cons (.int _ _) (av.cons (.int _ _) av.nil)))) av.nil)) ?_
    exact bL [(20,ah (!(eh J O))),(19,ah (!(eh J O)))] trivial (by simp only[cx]<;>kernel_rfl)
  refine cN (fun et=> ?_) (fun et=> ?_)
  ·
   replace h:=h et
   refine l9 [2000007] 2 [(21,.agg [ac 1,ah false,ao,ao,ao])] [] [0,1,1] (fun L=>fM 0 0 (ac 1) L) id ?_
   exact e8 (bR.ret (iz (.agg [ac 1,ah false,ao,ao,ao]) (gd.agg (av.cons (rh h.1) (av.cons (iN h.2.1) (av.cons (nA h.2.2.1) (av.cons (nA h.2.2.2.1) (av.cons (nA h.2.2.2.2) av.nil))))))))
  ·
   refine c6 ?_
   exact bR.normal (by simp only[et]<;>rfl) cW
 replace h:=h q2
 obtain⟨zk,h⟩:=h
 refine dD [(7,.ptr 0 1 0 0)] [4] id (fun _=>(⟨1,4,[[ah ((U M).ok),ae 1 0 (((U M).al).length),ae 2 0 (((U M).ak).length),ae 3 0 (((U M).ways).length)]]⟩::⟨0,1,List.map aH ((U M).al)⟩::⟨0,2,List.map a1 ((U M).ak)⟩::⟨0,5,aT 4 ((U M).ways) (List.range ((U M).ways).length)⟩::List.map bc (List.map aa.been ((U M).ways)))) (True) ?_ (fun fH=> ?_)
 ·
  replace h:=zk
  refine bm [2000007] 3 ?_
  have fI:=h
  refine rc 2 (some 23) [(22,.agg (bS false M))] [.agg (bS false M)] (.agg [ah ((U M).ok),ae 1 0 (((U M).al).length),ae 2 0 (((U M).ak).length),ae 3 0 (((U M).ways).length)]) (⟨0,4,[]⟩::⟨0,1,List.map aH ((U M).al)⟩::⟨0,2,List.map a1 ((U M).ak)⟩::⟨0,5,aT 4 ((U M).ways) (List.range ((U M).ways).length)⟩::List.map bc (List.map aa.been ((U M).ways))) (MV M fI) (av.cons (ck.agg (av.cons (.bool _) (av.cons b7 (av.cons b7 (av.cons b7 av.nil))))) av.nil) y7 (pf Mg (by kernel_rfl)) ?_ (er:=by simp[lB,mu,hV])
  refine wS 1 [(7,.ptr 0 1 0 0)] [(6,[ac 0,ah false,ao,ao,ao]),(5,(eE O)),(4,(bS false M)),(3,(a8 false J))] (⟨1,4,[[ah false,ao,ao,ao]]⟩::⟨0,1,List.map aH ((U M).al)⟩::⟨0,2,List.map a1 ((U M).ak)⟩::⟨0,5,aT 4 ((U M).ways) (List.range ((U M).ways).length)⟩::List.map bc (List.map aa.been ((U M).ways))) ?_
  refine L5 1 [] (⟨1,4,[[ah ((U M).ok),ae 1 0 (((U M).al).length),ae 2 0 (((U M).ak).length),ae 3 0 (((U M).ways).length)]]⟩::⟨0,1,List.map aH ((U M).al)⟩::⟨0,2,List.map a1 ((U M).ak)⟩::⟨0,5,aT 4 ((U M).ways) (List.range ((U M).ways).length)⟩::List.map bc (List.map aa.been ((U M).ways))) (φ:=1=1) (ψ:=4≤4) rfl (by decide) ?_
  exact bL [] trivial
 refine cQ [2000007] 4 [(8,ac 0)] [1] [5] ?_
 refine fy ?_
 refine cQ [2000007] 5 [(25,ac O.op),(24,an 5 0)] [1] [6] ?_
 obtain⟨p3,h⟩:=h
 refine GU 0 (fun(v:List (List Bool)×(List Bool)×(List aN)×List Nat×Int×List aa)=>(⟨(a4 133 [(3,an 3 0),(6,an 6 0),(7,.ptr 0 1 0 0),(8,ac (v.2.2.2.2.1))]),[(6,[ac 0,ah false,ao,ao,ao]),(3,(a8 false J))],(⟨1,4,[[ah ((U M).ok),ae 1 0 ((v.2.1).length),ae 2 0 ((v.2.2.1).length),ae 3 0 ((v.2.2.2.2.2).length)]]⟩::⟨0,1,List.map aH (v.2.1)⟩::⟨0,2,List.map a1 (v.2.2.1)⟩::⟨0,5,aT 4 (v.2.2.2.2.2) (v.2.2.2.1)⟩::List.map bc (v.1))⟩:St)) (fun v=>cz (v.1) (v.2.1) (v.2.2.1) (v.2.2.2.1) (v.2.2.2.2.1) (v.2.2.2.2.2)) ?_ (fun v cu=> ?_)
 ·
  replace h:=p3
  refine cQ [2000007] 6 [(26,ah (O.op==1)),(27,ah (O.op==1))] [1] [7] ?_
  refine cN (fun gT=> ?_) (fun gT=> ?_)
  ·
   replace h:=h.1 gT
   obtain⟨ff,h⟩:=h
   refine b0 [(8,ac (d_ J M O.ag))] [0,3,3,1,1] (True) ?_ (fun h_=> ?_)
   ·
    replace h:=ff
    refine bm [2000007] 7 ?_
    have fX:=h
    refine ic 5 (some 32) [(31,ac O.ag),(30,an 5 1),(29,.agg (bS false M)),(28,.agg (a8 false J))] [.agg (a8 false J),.agg (bS false M),ac O.ag] (YK J M O.ag fX) (av.cons (ck.agg (av.cons (.int _ _) (av.cons b7 (av.cons b7 (av.cons b7 (av.cons (.int _ _) av.nil)))))) (av.cons (ck.agg (av.cons (.bool _) (av.cons b7 (av.cons b7 (av.cons b7 av.nil))))) (av.cons (ck.ee (.int _ _)) av.nil))) ?_
    exact bL [(8,ac (d_ J M O.ag))] trivial
   refine cQ [2000007] 8 [(34,ah ((d_ J M O.ag)==0)),(33,ac (d_ J M O.ag))] [1] [5] ?_
   unfold EK at h
   refine cN (fun fS=> ?_) (fun fS=> ?_)
   ·
    replace h:=h.1 fS
    refine bm [2000007] 9 ?_
    obtain⟨eA,h⟩:=h
    refine rb 4 (some 38) [(37,ac O.ag),(36,an 5 1),(35,.agg (a8 false J))] [.agg (a8 false J),.ptr 0 1 0 0,ac O.ag] _ (Ym J O.ag 1 ((U M).ok) ((U M).al) ((U M).ak) ((U M).ways) (List.range ((U M).ways).length) (List.map aa.been ((U M).ways)) eA) (fun r H' aj=>by obtain⟨_,_,rfl,_⟩:=aj;rfl) ?_
    rintro r H' ⟨gx,w9,rfl,rfl,gy⟩
    replace h:=h gx w9 gy
    refine df [] ?_
    refine bZ.normal ?_
    exact fm.normal ((List.map aa.been ((U M).ways)),((U M).al),gx,(List.range ((U M).ways).length),(d_ J M O.ag),w9) h (cC [5,4])
   ·
    replace h:=h.2 fS
    refine c6 ?_
    refine bZ.normal ?_
    exact fm.normal ((List.map aa.been ((U M).ways)),((U M).al),((U M).ak),(List.range ((U M).ways).length),(d_ J M O.ag),((U M).ways)) h (cC [5,4])
  ·
   replace h:=h.2 gT
   refine cQ [2000007] 10 [(39,ah (O.op==2)),(40,ah (O.op==2))] [1] [0,1,7] ?_
   unfold EL at h
   refine cN (fun gh=> ?_) (fun gh=> ?_)
   ·
    replace h:=h.1 gh
    refine bm [2000007] 11 ?_
    obtain⟨ib,h⟩:=h
    refine rb 4 (some 44) [(43,ac O.ag),(42,an 5 1),(41,.agg (a8 false J))] [.agg (a8 false J),.ptr 0 1 0 0,ac O.ag] _ (XZ J O.ag 1 ((U M).ok) ((U M).al) ((U M).ak) ((U M).ways) (List.range ((U M).ways).length) (List.map aa.been ((U M).ways)) ib) (fun r H' aj=>by obtain⟨_,_,_,_,rfl,_⟩:=aj;rfl) ?_
    rintro r H' ⟨eH,i28,j2,uO,rfl,rfl,jU⟩
    replace h:=h eH i28 j2 uO jU
    refine df [(8,ac uO)] ?_
    refine bZ.normal ?_
    exact fm.normal (j2,((U M).al),((U M).ak),i28,uO,eH) h (cC [5,4])
   ·
    replace h:=h.2 gh
    refine cQ [2000007] 12 [(45,ah (O.op==3)),(46,ah (O.op==3))] [1] [0,1,7] ?_
    unfold EV at h
    refine cN (fun kd=> ?_) (fun kd=> ?_)
    ·
     replace h:=h.1 kd
     refine bm [2000007] 13 ?_
     refine ld 2 (some 48) (ae 1 0 (((U M).al).length)) [(47,.ptr 0 1 0 1)] (φ:=1=1) rfl ?_
     obtain⟨Oj,h⟩:=h
     refine kH 3 (some 51) [(50,ac O.ag),(49,an 5 1)] 1 0 1 Oj ?_
     refine re 1 none [] aH ((U M).al) O.ag 0 1 0 [ah true] 1 true (by simpa using Oj.2) ?_
     refine df [] ?_
     refine bZ.normal ?_
     exact fm.normal ((List.map aa.been ((U M).ways)),(((U M).al).set O.ag.toNat true),((U M).ak),(List.range ((U M).ways).length),0,((U M).ways)) h (fK (s':=⟨(a4 133 [(3,an 3 0),(6,an 6 0),(7,.ptr 0 1 0 0),(8,ac 0)]),[(6,[ac 0,ah false,ao,ao,ao]),(3,(a8 false J))],(⟨1,4,[[ah ((U M).ok),ae 1 0 (((U M).al).length),ae 2 0 (((U M).ak).length),ae 3 0 (((U M).ways).length)]]⟩::⟨0,1,List.map aH (((U M).al).set O.ag.toNat true)⟩::⟨0,2,List.map a1 ((U M).ak)⟩::⟨0,5,aT 4 ((U M).ways) (List.range ((U M).ways).length)⟩::List.map bc (List.map aa.been ((U M).ways)))⟩) (cC (n:=133) (A':=[(3,an 3 0),(6,an 6 0),(7,.ptr 0 1 0 0),(8,ac 0)]) (L':=[(6,[ac 0,ah false,ao,ao,ao]),(3,(a8 false J))]) [5,4]) (congrArg (fun z=>(⟨(a4 133 [(3,an 3 0),(6,an 6 0),(7,.ptr 0 1 0 0),(8,ac 0)]),[(6,[ac 0,ah false,ao,ao,ao]),(3,(a8 false J))],(⟨1,4,[[ah ((U M).ok),ae 1 0 z,ae 2 0 (((U M).ak).length),ae 3 0 (((U M).ways).length)]]⟩::⟨0,1,List.map aH (((U M).al).set O.ag.toNat true)⟩::⟨0,2,List.map a1 ((U M).ak)⟩::⟨0,5,aT 4 ((U M).ways) (List.range ((U M).ways).length)⟩::List.map bc (List.map aa.been ((U M).ways)))⟩:St)) (show((U M).al).length=(((U M).al).set O.ag.toNat true).length by simp)))
    ·
     replace h:=h.2 kd
     refine cQ [2000007] 14 [(52,ah (O.op==4)),(53,ah (O.op==4))] [1] [0,1,7] ?_
     refine cN (fun eV=> ?_) (fun eV=> ?_)
     ·
      replace h:=h.1 eV
      refine bm [2000007] 15 ?_
      refine ld 2 (some 55) (ae 1 0 (((U M).al).length)) [(54,.ptr 0 1 0 1)] (φ:=1=1) rfl ?_
      obtain⟨Ol,h⟩:=h
      refine kH 3 (some 58) [(57,ac O.ag),(56,an 5 1)] 1 0 1 Ol ?_
      refine re 1 none [] aH ((U M).al) O.ag 0 1 0 [ah false] 1 false (by simpa using Ol.2) ?_
      refine df [] ?_
      refine bZ.normal ?_
      exact fm.normal ((List.map aa.been ((U M).ways)),(((U M).al).set O.ag.toNat false),((U M).ak),(List.range ((U M).ways).length),0,((U M).ways)) h (fK (s':=⟨(a4 133 [(3,an 3 0),(6,an 6 0),(7,.ptr 0 1 0 0),(8,ac 0)]),[(6,[ac 0,ah false,ao,ao,ao]),(3,(a8 false J))],(⟨1,4,[[ah ((U M).ok),ae 1 0 (((U M).al).length),ae 2 0 (((U M).ak).length),ae 3 0 (((U M).ways).length)]]⟩::⟨0,1,List.map aH (((U M).al).set O.ag.toNat false)⟩::⟨0,2,List.map a1 ((U M).ak)⟩::⟨0,5,aT 4 ((U M).ways) (List.range ((U M).ways).length)⟩::List.map bc (List.map aa.been ((U M).ways)))⟩) (cC (n:=133) (A':=[(3,an 3 0),(6,an 6 0),(7,.ptr 0 1 0 0),(8,ac 0)]) (L':=[(6,[ac 0,ah false,ao,ao,ao]),(3,(a8 false J))]) [5,4]) (congrArg (fun z=>(⟨(a4 133 [(3,an 3 0),(6,an 6 0),(7,.ptr 0 1 0 0),(8,ac 0)]),[(6,[ac 0,ah false,ao,ao,ao]),(3,(a8 false J))],(⟨1,4,[[ah ((U M).ok),ae 1 0 z,ae 2 0 (((U M).ak).length),ae 3 0 (((U M).ways).length)]]⟩::⟨0,1,List.map aH (((U M).al).set O.ag.toNat false)⟩::⟨0,2,List.map a1 ((U M).ak)⟩::⟨0,5,aT 4 ((U M).ways) (List.range ((U M).ways).length)⟩::List.map bc (List.map aa.been ((U M).ways)))⟩:St)) (show((U M).al).length=(((U M).al).set O.ag.toNat false).length by simp)))
     ·
      replace h:=h.2 eV
      refine cQ [2000007] 16 [(59,ah (O.op==5)),(60,ah (O.op==5))] [1] [0,1,7] ?_
      unfold EU at h
      refine cN (fun iY=> ?_) (fun iY=> ?_)
      ·
       replace h:=h.1 iY
       refine bm [2000007] 17 ?_
       refine ld 2 (some 62) (ae 2 0 (((U M).ak).length)) [(61,.ptr 0 1 0 2)] (φ:=1=1) rfl ?_
       obtain⟨On,h⟩:=h
       refine kH 5 (some 67) [(66,ac O.bx),(65,an 5 2),(64,ac O.ag),(63,an 5 1)] 2 0 2 On ?_
       refine re 2 none [(68,.ptr 2 0 (0+O.ag.toNat) 1)] a1 ((U M).ak) O.ag 1 1 0 [ac O.bx] 2 (aN.mk ((nth ((U M).ak) O.ag).want) O.bx) (by simpa using On.2) ?_
       refine df [] ?_
       refine bZ.normal ?_
       exact fm.normal ((List.map aa.been ((U M).ways)),((U M).al),(((U M).ak).set O.ag.toNat (aN.mk ((nth ((U M).ak) O.ag).want) O.bx)),(List.range ((U M).ways).length),0,((U M).ways)) h (fK (s':=⟨(a4 133 [(3,an 3 0),(6,an 6 0),(7,.ptr 0 1 0 0),(8,ac 0)]),[(6,[ac 0,ah false,ao,ao,ao]),(3,(a8 false J))],(⟨1,4,[[ah ((U M).ok),ae 1 0 (((U M).al).length),ae 2 0 (((U M).ak).length),ae 3 0 (((U M).ways).length)]]⟩::⟨0,1,List.map aH ((U M).al)⟩::⟨0,2,List.map a1 (((U M).ak).set O.ag.toNat (aN.mk ((nth ((U M).ak) O.ag).want) O.bx))⟩::⟨0,5,aT 4 ((U M).ways) (List.range ((U M).ways).length)⟩::List.map bc (List.map aa.been ((U M).ways)))⟩) (cC (n:=133) (A':=[(3,an 3 0),(6,an 6 0),(7,.ptr 0 1 0 0),(8,ac 0)]) (L':=[(6,[ac 0,ah false,ao,ao,ao]),(3,(a8 false J))]) [5,4]) (congrArg (fun z=>(⟨(a4 133 [(3,an 3 0),(6,an 6 0),(7,.ptr 0 1 0 0),(8,ac 0)]),[(6,[ac 0,ah false,ao,ao,ao]),(3,(a8 false J))],(⟨1,4,[[ah ((U M).ok),ae 1 0 (((U M).al).length),ae 2 0 z,ae 3 0 (((U M).ways).length)]]⟩::⟨0,1,List.map aH ((U M).al)⟩::⟨0,2,List.map a1 (((U M).ak).set O.ag.toNat (aN.mk ((nth ((U M).ak) O.ag).want) O.bx))⟩::⟨0,5,aT 4 ((U M).ways) (List.range ((U M).ways).length)⟩::List.map bc (List.map aa.been ((U M).ways)))⟩:St)) (show((U M).ak).length=(((U M).ak).set O.ag.toNat (aN.mk ((nth ((U M).ak) O.ag).want) O.bx)).length by simp)))
      ·
       replace h:=h.2 iY
       refine cQ [2000007] 18 [(69,ah (O.op==6)),(70,ah (O.op==6))] [1] [0,1,7] ?_
       refine cN (fun iy=> ?_) (fun iy=> ?_)
       ·
        replace h:=h.1 iy
        obtain⟨hQ,h⟩:=h
        refine b0 [(77,ah (decide (((fQ J M O.ag).length:Int)>0)))] [0,2,6] ((fQ J M O.ag).length≤4611686018427387904) ?_ (fun kD=> ?_)
        ·
         replace h:=hQ
         refine bm [2000007] 19 ?_
         have kf:=h
         refine ic 5 (some 75) [(74,ac O.ag),(73,an 5 1),(72,.agg (bS false M)),(71,.agg (a8 false J))] [.agg (a8 false J),.agg (bS false M),ac O.ag] (Nm J M O.ag kf) (av.cons (ck.agg (av.cons (.int _ _) (av.cons b7 (av.cons b7 (av.cons b7 (av.cons (.int _ _) av.nil)))))) (av.cons (ck.agg (av.cons (.bool _) (av.cons b7 (av.cons b7 (av.cons b7 av.nil))))) (av.cons (ck.ee (.int _ _)) av.nil))) ?_
         refine sLen 1 (some 76) [] bW (fQ J M O.ag) (fun kg=> ?_)
         exact bL [(77,ah (decide (((fQ J M O.ag).length:Int)>0)))] kg
        replace h:=h kD
        unfold EP at h
        refine cN (fun jw=> ?_) (fun jw=> ?_)
        ·
         replace h:=h.1 jw
         refine bm [2000007] 20 ?_
         refine df [(8,ac 2)] ?_
         refine bZ.normal ?_
         exact fm.normal ((List.map aa.been ((U M).ways)),((U M).al),((U M).ak),(List.range ((U M).ways).length),2,((U M).ways)) h (cC [5,4])
        ·
         replace h:=h.2 jw
         obtain⟨jV,h⟩:=h
         refine b0 [(87,ah (nth M.al (nth J.bh O.ag)))] [0,1,4,1,1] (True) ?_ (fun kE=> ?_)
         ·
          replace h:=jV
          refine lW [2000007] 21 Xx Xy [] ?_
          obtain⟨la,h⟩:=h
          refine p_ 7 (some 84) [(83,ac O.ag),(82,an 5 1),(81,bo bW J.bh),(80,an 3 1),(79,bo aH M.al),(78,an 4 1)] bW J.bh 1 la ?_
          have lv:=h
          refine p_ 2 (some 86) [(85,ac (nth J.bh O.ag))] aH M.al 1 lv ?_
          exact jY [(87,ah (nth M.al (nth J.bh O.ag)))] trivial
         unfold EO at h
         refine cN (fun m0=> ?_) (fun m0=> ?_)
         ·
          replace h:=h.1 m0
          refine bm [2000007] 22 ?_
          refine df [(8,ac 3)] ?_
          refine bZ.normal ?_
          exact fm.normal ((List.map aa.been ((U M).ways)),((U M).al),((U M).ak),(List.range ((U M).ways).length),3,((U M).ways)) h (cC [5,4])
         ·
          replace h:=h.2 m0
          refine bm [2000007] 23 ?_
          refine ld 2 (some 89) (ae 2 0 (((U M).ak).length)) [(88,.ptr 0 1 0 2)] (φ:=1=1) rfl ?_
          obtain⟨Oo,h⟩:=h
          refine kH 5 (some 94) [(93,ac O.bx),(92,an 5 2),(91,ac O.ag),(90,an 5 1)] 2 0 2 Oo ?_
          refine re 2 none [(95,.ptr 2 0 (0+O.ag.toNat) 0)] a1 ((U M).ak) O.ag 0 1 0 [ac O.bx] 2 (aN.mk O.bx ((nth ((U M).ak) O.ag).aZ)) (by simpa using Oo.2) ?_
          refine df [] ?_
          refine bZ.normal ?_
          exact fm.normal ((List.map aa.been ((U M).ways)),((U M).al),(((U M).ak).set O.ag.toNat (aN.mk O.bx ((nth ((U M).ak) O.ag).aZ))),(List.range ((U M).ways).length),0,((U M).ways)) h (fK (s':=⟨(a4 133 [(3,an 3 0),(6,an 6 0),(7,.ptr 0 1 0 0),(8,ac 0)]),[(6,[ac 0,ah false,ao,ao,ao]),(3,(a8 false J))],(⟨1,4,[[ah ((U M).ok),ae 1 0 (((U M).al).length),ae 2 0 (((U M).ak).length),ae 3 0 (((U M).ways).length)]]⟩::⟨0,1,List.map aH ((U M).al)⟩::⟨0,2,List.map a1 (((U M).ak).set O.ag.toNat (aN.mk O.bx ((nth ((U M).ak) O.ag).aZ)))⟩::⟨0,5,aT 4 ((U M).ways) (List.range ((U M).ways).length)⟩::List.map bc (List.map aa.been ((U M).ways)))⟩) (cC (n:=133) (A':=[(3,an 3 0),(6,an 6 0),(7,.ptr 0 1 0 0),(8,ac 0)]) (L':=[(6,[ac 0,ah false,ao,ao,ao]),(3,(a8 false J))]) [5,4]) (congrArg (fun z=>(⟨(a4 133 [(3,an 3 0),(6,an 6 0),(7,.ptr 0 1 0 0),(8,ac 0)]),[(6,[ac 0,ah false,ao,ao,ao]),(3,(a8 false J))],(⟨1,4,[[ah ((U M).ok),ae 1 0 (((U M).al).length),ae 2 0 z,ae 3 0 (((U M).ways).length)]]⟩::⟨0,1,List.map aH ((U M).al)⟩::⟨0,2,List.map a1 (((U M).ak).set O.ag.toNat (aN.mk O.bx ((nth ((U M).ak) O.ag).aZ)))⟩::⟨0,5,aT 4 ((U M).ways) (List.range ((U M).ways).length)⟩::List.map bc (List.map aa.been ((U M).ways)))⟩:St)) (show((U M).ak).length=(((U M).ak).set O.ag.toNat (aN.mk O.bx ((nth ((U M).ak) O.ag).aZ))).length by simp)))
       ·
        replace h:=h.2 iy
        refine cQ [2000007] 24 [(96,ah (O.op==7)),(97,ah (O.op==7))] [1] [0,2,3,2,1] ?_
        refine cN (fun jx=> ?_) (fun jx=> ?_)
        ·
         replace h:=h.1 jx
         refine b0 [(100,ac (((U M).ways).length:Int)),(101,ac 0)] [0,1,4] (True) ?_ (fun kG=> ?_)
         ·
          refine bm [2000007] 25 ?_
          refine ld 2 (some 99) (ae 3 0 (((U M).ways).length)) [(98,.ptr 0 1 0 3)] (φ:=1=1) rfl ?_
          exact bL [(101,ac 0),(100,ac (((U M).ways).length:Int))] trivial
         unfold ET at h
         refine dM 1 ?_
         obtain⟨lc,h⟩:=h
         refine hr (fun(v:List (List Bool)×List Nat×Int×List aa)=>(⟨(a4 133 [(3,an 3 0),(6,an 6 0),(7,.ptr 0 1 0 0),(8,ac 0),(100,ac (((U M).ways).length:Int)),(101,ac (v.2.2.1))]),[(6,[ac 0,ah false,ao,ao,ao]),(3,(a8 false J))],(⟨1,4,[[ah ((U M).ok),ae 1 0 (((U M).al).length),ae 2 0 (((U M).ak).length),ae 3 0 ((v.2.2.2).length)]]⟩::⟨0,1,List.map aH ((U M).al)⟩::⟨0,2,List.map a1 ((U M).ak)⟩::⟨0,5,aT 4 (v.2.2.2) (v.2.1)⟩::List.map bc (v.1))⟩:St)) (fun(v:List (List Bool)×List Nat×Int×List aa)=>aw (v.1) (v.2.1) (v.2.2.1) (v.2.2.2)) (fun(v:List (List Bool)×List Nat×Int×List aa)=>ay (v.1) (v.2.1) (v.2.2.1) (v.2.2.2)) ((List.map aa.been ((U M).ways)),(List.range ((U M).ways).length),0,(U M).ways) (cC [5,4]) lc (fun v aM=> ?_)
         obtain⟨aG,b2,bn,az⟩:=v
         replace h:=h aG b2 bn az aM
         dsimp only
         refine cQ [2000007] 26 [(102,ah (decide (bn<(((U M).ways).length:Int))))] [1] [6] ?_
         obtain⟨q7,h⟩:=h
         refine b0 [] [0,1,6] ((decide (bn<(((U M).ways).length:Int)))=true) ?_ (fun ly=> ?_)
         ·
          replace h:=q7
          refine cN (fun nt=> ?_) (fun nt=> ?_)
          ·
           refine c6 ?_
           exact bR.normal (by simp only[q2,gT,gh,kd,eV,iY,iy,jx,nt]<;>rfl) cW
          ·
           replace h:=h nt
           refine gG 1 ?_
           refine bR.exit ?_
           refine cU.exit ?_
           refine bZ.here ?_
           refine bZ.normal ?_
           exact fm.normal (aG,((U M).al),((U M).ak),b2,0,az) h (cC [])
         replace h:=h ly
         refine fy ?_
         refine dM 2 ?_
         refine cQ [2000007] 27 [(9,ac bn),(103,ac bn)] [1] [6] ?_
         obtain⟨o9,h⟩:=h
         refine b0 [(10,.ptr 3 0 (0+bn.toNat) 0)] [0,1,6] (True) ?_ (fun o2=> ?_)
         ·
          replace h:=o9
          refine bm [2000007] 28 ?_
          refine ld 2 (some 105) (ae 3 0 az.length) [(104,.ptr 0 1 0 3)] (φ:=1=1) rfl ?_
          have Zp:=h
          refine kH 2 (some 107) [(106,ac bn)] 3 0 5 Zp ?_
          exact bL [(10,.ptr 3 0 (0+bn.toNat) 0)] trivial
         unfold ES at h
         obtain⟨o8,h⟩:=h
         refine b0 [] [7] ((!(((nth az bn).state) !=3))=true) ?_ (fun jW=> ?_)
         ·
          replace h:=o8
          obtain⟨mr,h⟩:=h
          refine b0 [(112,ah (((nth az bn).state) !=3))] [7] (True) ?_ (fun o3=> ?_)
          ·
           replace h:=mr
           refine bm [2000007] 29 ?_
           have m1:=h
           refine hU 4 (some 111) [(110,.ptr 3 0 (0+bn.toNat) 0),(109,.ptr 3 0 (0+bn.toNat) 0),(108,.ptr 3 0 (0+bn.toNat) 0)] (aT 4 az b2) bn 3 0 0 (ac ((nth az bn).state)) (dq m1.1 m1.2) ?_
           exact bL [(112,ah (((nth az bn).state) !=3))] trivial
          refine cN (fun kh=> ?_) (fun kh=> ?_)
          ·
           replace h:=h kh
           refine gG 2 ?_
           refine bR.exit ?_
           refine bZ.here ?_
           refine c4.normal ?_
           refine bm [2000007] 33 ?_
           refine df [(101,ac (IntKind.i64.wrap (bn+1))),(127,ac (IntKind.i64.wrap (bn+1)))] ?_
           exact cU.again (aG,b2,(IntKind.i64.wrap (bn+1)),az) h (cC [])
          ·
           refine c6 ?_
           exact bR.normal (by simp only[q2,gT,gh,kd,eV,iY,iy,jx,ly,kh]<;>rfl) cW
         replace h:=h jW
         obtain⟨o7,h⟩:=h
         refine dD [] [7] id (fun H=>dC 3 ⟨0,5,aT 4 (az.set bn.toNat (aa.mk ((nth az bn).state) ((nth az bn).gone) ((nth az bn).been) ((nth az bn).shown) (IntKind.i64.wrap (((nth az bn).timer) - 1)))) b2⟩ H) (True) ?_ (fun ki=> ?_)
         ·
          replace h:=o7
          refine bm [2000007] 30 ?_
          obtain⟨iZ,h⟩:=h
          refine hU 4 (some 116) [(115,.ptr 3 0 (0+bn.toNat) 4),(114,.ptr 3 0 (0+bn.toNat) 0),(113,.ptr 3 0 (0+bn.toNat) 0)] (aT 4 az b2) bn 3 4 0 (ac ((nth az bn).timer)) (dq iZ.1 iZ.2) ?_
          have lb:=h
          refine jb 4 none [(119,.ptr 3 0 (0+bn.toNat) 4),(118,.ptr 3 0 (0+bn.toNat) 0),(117,ac (IntKind.i64.wrap (((nth az bn).timer) - 1)))] (aT 4 az b2) bn 4 1 0 [ac (IntKind.i64.wrap (((nth az bn).timer) - 1))] 3 (aT 4 (az.set bn.toNat (aa.mk ((nth az bn).state) ((nth az bn).gone) ((nth az bn).been) ((nth az bn).shown) (IntKind.i64.wrap (((nth az bn).timer) - 1)))) b2) (dq lb.1 lb.2) (jk lb.1 lb.2) ?_
          exact bL [] trivial
         unfold ER at h
         obtain⟨nv,h⟩:=h
         refine b0 [(124,ah (((nth (az.set bn.toNat (aa.mk ((nth az bn).state) ((nth az bn).gone) ((nth az bn).been) ((nth az bn).shown) (IntKind.i64.wrap (((nth az bn).timer) - 1)))) bn).timer)==0))] [7] (True) ?_ (fun uL=> ?_)
         ·
          replace h:=nv
          refine bm [2000007] 31 ?_
          have nu:=h
          refine hU 4 (some 123) [(122,.ptr 3 0 (0+bn.toNat) 4),(121,.ptr 3 0 (0+bn.toNat) 0),(120,.ptr 3 0 (0+bn.toNat) 0)] (aT 4 (az.set bn.toNat (aa.mk ((nth az bn).state) ((nth az bn).gone) ((nth az bn).been) ((nth az bn).shown) (IntKind.i64.wrap (((nth az bn).timer) - 1)))) b2) bn 3 4 0 (ac ((nth (az.set bn.toNat (aa.mk ((nth az bn).state) ((nth az bn).gone) ((nth az bn).been) ((nth az bn).shown) (IntKind.i64.wrap (((nth az bn).timer) - 1)))) bn).timer)) (dq nu.1 nu.2) ?_
          exact bL [(124,ah (((nth (az.set bn.toNat (aa.mk ((nth az bn).state) ((nth az bn).gone) ((nth az bn).been) ((nth az bn).shown) (IntKind.i64.wrap (((nth az bn).timer) - 1)))) bn).timer)==0))] trivial
         unfold EQ at h
         refine cN (fun ms=> ?_) (fun ms=> ?_)
         ·
          replace h:=h.1 ms
          refine bm [2000007] 32 ?_
          obtain⟨p1,h⟩:=h
          refine L4 (⟨1,4,[[ah ((U M).ok),ae 1 0 (((U M).al).length),ae 2 0 (((U M).ak).length),ae 3 0 ((az.set bn.toNat (aa.mk ((nth az bn).state) ((nth az bn).gone) ((nth az bn).been) ((nth az bn).shown) (IntKind.i64.wrap (((nth az bn).timer) - 1)))).length)]]⟩::⟨0,1,List.map aH ((U M).al)⟩::⟨0,2,List.map a1 ((U M).ak)⟩::⟨0,5,aT 4 (az.set bn.toNat (aa.mk ((nth az bn).state) ((nth az bn).gone) ((nth az bn).been) ((nth az bn).shown) (IntKind.i64.wrap (((nth az bn).timer) - 1)))) b2⟩::List.map bc aG) (by rw[show az.length=(az.set bn.toNat (aa.mk ((nth az bn).state) ((nth az bn).gone) ((nth az bn).been) ((nth az bn).shown) (IntKind.i64.wrap (((nth az bn).timer) - 1)))).length by simp]<;>rfl) ?_
          refine rb 2 (some 126) [(125,.ptr 3 0 (0+bn.toNat) 0)] [.ptr 3 0 (0+bn.toNat) 0] _ (Fs bn 1 ((U M).ok) ((U M).al) ((U M).ak) (az.set bn.toNat (aa.mk ((nth az bn).state) ((nth az bn).gone) ((nth az bn).been) ((nth az bn).shown) (IntKind.i64.wrap (((nth az bn).timer) - 1)))) b2 aG p1) (fun r H' aj=>by obtain⟨_,_,_,rfl,_⟩:=aj;rfl) ?_
          rintro r H' ⟨u_,i71,s9,rfl,rfl,o6⟩
          replace h:=h u_ i71 s9 o6
          refine df [] ?_
          refine bZ.normal ?_
          refine c4.normal ?_
          refine bm [2000007] 33 ?_
          refine df [(101,ac (IntKind.i64.wrap (bn+1))),(127,ac (IntKind.i64.wrap (bn+1)))] ?_
          exact cU.again (s9,i71,(IntKind.i64.wrap (bn+1)),u_) h (cC [])
         ·
          replace h:=h.2 ms
          refine c6 ?_
          refine bZ.normal ?_
          refine c4.normal ?_
          refine bm [2000007] 33 ?_
          refine df [(101,ac (IntKind.i64.wrap (bn+1))),(127,ac (IntKind.i64.wrap (bn+1)))] ?_
          exact cU.again (aG,b2,(IntKind.i64.wrap (bn+1)),(az.set bn.toNat (aa.mk ((nth az bn).state) ((nth az bn).gone) ((nth az bn).been) ((nth az bn).shown) (IntKind.i64.wrap (((nth az bn).timer) - 1))))) h (fK (s':=⟨(a4 133 [(3,an 3 0),(6,an 6 0),(7,.ptr 0 1 0 0),(8,ac 0),(100,ac (((U M).ways).length:Int)),(101,ac (IntKind.i64.wrap (bn+1)))]),[(6,[ac 0,ah false,ao,ao,ao]),(3,(a8 false J))],(⟨1,4,[[ah ((U M).ok),ae 1 0 (((U M).al).length),ae 2 0 (((U M).ak).length),ae 3 0 az.length]]⟩::⟨0,1,List.map aH ((U M).al)⟩::⟨0,2,List.map a1 ((U M).ak)⟩::⟨0,5,aT 4 (az.set bn.toNat (aa.mk ((nth az bn).state) ((nth az bn).gone) ((nth az bn).been) ((nth az bn).shown) (IntKind.i64.wrap (((nth az bn).timer) - 1)))) b2⟩::List.map bc aG)⟩) (cC (n:=133) (A':=[(3,an 3 0),(6,an 6 0),(7,.ptr 0 1 0 0),(8,ac 0),(100,ac (((U M).ways).length:Int)),(101,ac (IntKind.i64.wrap (bn+1)))]) (L':=[(6,[ac 0,ah false,ao,ao,ao]),(3,(a8 false J))]) []) (congrArg (fun z=>(⟨(a4 133 [(3,an 3 0),(6,an 6 0),(7,.ptr 0 1 0 0),(8,ac 0),(100,ac (((U M).ways).length:Int)),(101,ac (IntKind.i64.wrap (bn+1)))]),[(6,[ac 0,ah false,ao,ao,ao]),(3,(a8 false J))],(⟨1,4,[[ah ((U M).ok),ae 1 0 (((U M).al).length),ae 2 0 (((U M).ak).length),ae 3 0 z]]⟩::⟨0,1,List.map aH ((U M).al)⟩::⟨0,2,List.map a1 ((U M).ak)⟩::⟨0,5,aT 4 (az.set bn.toNat (aa.mk ((nth az bn).state) ((nth az bn).gone) ((nth az bn).been) ((nth az bn).shown) (IntKind.i64.wrap (((nth az bn).timer) - 1)))) b2⟩::List.map bc aG)⟩:St)) (show az.length=(az.set bn.toNat (aa.mk ((nth az bn).state) ((nth az bn).gone) ((nth az bn).been) ((nth az bn).shown) (IntKind.i64.wrap (((nth az bn).timer) - 1)))).length by simp)))
        ·
         replace h:=h.2 jx
         refine c6 ?_
         refine bZ.normal ?_
         exact fm.normal ((List.map aa.been ((U M).ways)),((U M).al),((U M).ak),(List.range ((U M).ways).length),0,((U M).ways)) h (cC [5,4])
 obtain⟨aG,aL,bQ,b2,bP,az⟩:=v
 replace h:=h aG aL bQ b2 bP az cu
 dsimp only
 unfold EM at h
 refine fy ?_
 refine bm [2000007] 34 ?_
 obtain⟨wN,h⟩:=h
 refine rb 2 (some 129) [(128,.agg (a8 false J))] [.agg (a8 false J),.ptr 0 1 0 0] _ (Ng J 1 ((U M).ok) aL bQ az b2 aG wN) (fun r H' aj=>by obtain⟨_,_,_,rfl,_⟩:=aj;rfl) ?_
 rintro r H' ⟨m5,i82,qj,rfl,rfl,sA⟩
 replace h:=h m5 i82 qj sA
 refine df [] ?_
 refine c4.normal ?_
 refine gX ⟨(a4 133 [(6,an 6 0)]),[(6,[ac bP,ah ((U M).ok),ae 1 0 aL.length,ae 2 0 bQ.length,ae 3 0 m5.length]),(3,(a8 false J))],(⟨1,4,[[ah ((U M).ok),ae 1 0 aL.length,ae 2 0 bQ.length,ae 3 0 m5.length]]⟩::⟨0,1,List.map aH aL⟩::⟨0,2,List.map a1 bQ⟩::⟨0,5,aT 4 m5 i82⟩::List.map bc qj)⟩ (True) ?_ (fun o_=> ?_)
 ·
  refine bm [2000007] 35 ?_
  refine ld 2 (some 131) (.agg [ah ((U M).ok),ae 1 0 aL.length,ae 2 0 bQ.length,ae 3 0 m5.length]) [(130,ac bP)] (φ:=1=1) rfl ?_
  exact bL [(132,.agg [ac bP,ah ((U M).ok),ae 1 0 aL.length,ae 2 0 bQ.length,ae 3 0 m5.length])] trivial
 exact e8 (iz (.agg [ac bP,ah ((U M).ok),ae 1 0 aL.length,ae 2 0 bQ.length,ae 3 0 m5.length]) (gd.agg (av.cons (rh h.1) (av.cons (iN h.2.1) (av.cons (l0 (sz:=1) (by simp) rfl (rF) h.2.2.1) (av.cons (l0 (sz:=2) (by simp) rfl (tf) h.2.2.2.1) (av.cons (wZ (s:=4) (ws:=m5) (ids:=i82) (bs:=qj) (by simp) rfl (fun id k h=>by simpa using h) h.2.2.2.2) av.nil)))))))
theorem Xu (J:aB) (M:Frame) (O:Event) (aF:Eo J M O):b3 Try.prog 92 [.agg (a8 false J),.agg (bS false M),.agg (eE O)] (.agg (fT true (f_ J M O))):=Xz J M O (f_ J M O) (fun bs is v ws=>cg M.ways.length (fun _=>false) v∧fL ws is bs∧view ws is bs=g8 J v.toNat M.ways) (fun _ _ v _=>cn M.ways.length v) (fun bs o q is c ws=>fL ws is bs∧c=eM J M O∧Frame.mk M.ok o q (view ws is bs)=iJ J M O) (by
 unfold EJ EN
 have hs:gK M:=aF
 have k7:=hs
 obtain⟨vc,m6,w_,sZ⟩:=k7
 refine⟨⟨⟨hs,fun hk=> ?_⟩,fun hc=> ?_⟩,fun hc=> ?_⟩
 ·have hk:hz J M=true:=by simpa using hk
  have h1:=(Be hk).in.cK
  exact⟨by omega,by omega⟩
 ·have hc: ¬(hz J M&&eh J O)=true:=by
   intro h;rw[Bool.and_eq_true] at h;rw[h.1,h.2] at hc;cases hc
  have e:f_ J M O=⟨1,⟨false,[],[],[]⟩⟩:=by unfold f_;rw[if_neg hc]
  rw[e];exact⟨rfl,rfl,rfl,rfl,rfl⟩
 have hc:hz J M=true∧eh J O=true:=by simpa using hc
 obtain⟨hk,he⟩:=hc
 have hf:=Be hk
 have cA:=hf.in
 have da:=hf.fr
 have aI:=da.ways
 have oM:=da.al
 have lQ:=da.ak
 have vX:=cA.ways
 have pN:=cA.cK
 have tW:=cA.bb
 have BV:f_ J M O=⟨eM J M O,dQ J (iJ J M O)⟩:=by unfold f_;rw[if_pos (by rw[hk,he];rfl)]
 obtain⟨eS,fY,fg⟩:=rK M.ways
 have kv:fL M.ways (List.range M.ways.length) (M.ways.map aa.been):=⟨eS,fY,fun b hb=>by
  obtain⟨h,bV,rfl⟩:=List.mem_map.1 hb;exact sZ h bV⟩
 have yA:cL ((U M).ok) ((U M).al) ((U M).ak) ((U M).ways) (List.range ((U M).ways).length) (List.map aa.been ((U M).ways))=M:=by
  show Frame.mk M.ok M.al M.ak (view M.ways (List.range M.ways.length) (List.map aa.been M.ways))=M
  rw[fg]
 have I2:view ((U M).ways) (List.range ((U M).ways).length) (List.map aa.been ((U M).ways))=M.ways:=fg
 have k6: ∀c:Int,c=eM J M O→c≠0→fL M.ways (List.range M.ways.length) (M.ways.map aa.been)∧c=eM J M O∧Frame.mk M.ok M.al M.ak (view M.ways (List.range M.ways.length) (M.ways.map aa.been))=iJ J M O:=fun c hc cO=>⟨kv,hc,by
  unfold iJ;rw[if_neg (by rw[←hc];exact cO),fg]⟩
 have BP:eM J M O=0→iJ J M O=ht J M O:=fun h=>by unfold iJ;rw[if_pos h]
 refine⟨hs,⟨fun h1=> ?_,fun h1=> ?_⟩,fun bs o q is c ws cu=> ?_⟩
 ·have h1:O.op=1:=by simpa using h1
  have bu:=pw he (.inl h1)
  have pE:eM J M O=d_ J M O.ag:=by unfold eM;rw[if_pos h1]
  unfold EK
  refine⟨⟨hf,bu.1,bu.2⟩,fun aQ=>⟨⟨kv,cA,bu.1,by show O.ag<(M.ways.length:Int);omega,bu.2,lQ⟩,fun q w jn=> ?_⟩,fun aQ=> ?_⟩
  ·have aQ:d_ J M O.ag=0:=by simpa using aQ
   obtain⟨aj,G,hv⟩:=jn
   rw[I2] at hv
   refine⟨G,pE.symm,?_⟩
   rw[BP (by rw[pE,aQ])]
   unfold ht
   rw[if_pos h1,hv,aj];rfl
  ·have aQ: ¬d_ J M O.ag=0:=by simpa using aQ
   exact k6 _ pE.symm aQ
 ·have h1: ¬O.op=1:=by simpa using h1
  unfold EL
  refine⟨fun h2=> ?_,fun h2=> ?_⟩
  ·have h2:O.op=2:=by simpa using h2
   have bu:=pw he (.inr h2)
   refine⟨⟨kv,cA,bu.1,by show O.ag<(M.ways.length:Int);omega,bu.2,oM⟩,fun w i b r jn=> ?_⟩
   unfold sg at jn
   rw[yA,I2] at jn
   obtain⟨G,aJ,hv⟩:=jn
   have pE:eM J M O=qk M O.ag:=by unfold eM;rw[if_neg h1,if_pos h2];rfl
   refine⟨G,aJ.trans pE.symm,?_⟩
   unfold iJ
   rw[pE,hv]
   by_cases aQ:qk M O.ag=0
   ·rw[if_pos aQ,if_pos aQ]
    unfold ht xu
    rw[if_neg h1,if_pos h2,I7 da bu.1 bu.2]
    split<;>rfl
   ·rw[if_neg aQ,if_neg aQ];rfl
  have h2: ¬O.op=2:=by simpa using h2
  have ok: ∀(o:List Bool) (q:List aN),eM J M O=0→ht J M O={M with al:=o,ak:=q}→fL M.ways (List.range M.ways.length) (M.ways.map aa.been)∧0=eM J M O∧Frame.mk M.ok o q (view M.ways (List.range M.ways.length) (M.ways.map aa.been))=iJ J M O:=fun o q hc bp=>⟨kv,hc.symm,by rw[BP hc,fg,bp]⟩
  unfold EV
  refine⟨fun aS=> ?_,fun aS=>⟨fun bt=> ?_,fun bt=> ?_⟩⟩
  ·have aS:O.op=3:=by simpa using aS
   have bu:=A1 he (.inl aS)
   refine⟨⟨bu.1,by show O.ag.toNat<M.al.length;omega⟩,ok _ _ ?_ ?_⟩
   ·unfold eM;rw[if_neg h1,if_neg h2,if_neg (by omega)]
   ·unfold ht;rw[if_neg h1,if_neg h2,if_pos (.inl aS),aS];rfl
  ·have bt:O.op=4:=by simpa using bt
   have bu:=A1 he (.inr bt)
   refine⟨⟨bu.1,by show O.ag.toNat<M.al.length;omega⟩,ok _ _ ?_ ?_⟩
   ·unfold eM;rw[if_neg h1,if_neg h2,if_neg (by omega)]
   ·unfold ht;rw[if_neg h1,if_neg h2,if_pos (.inr bt),bt];rfl
  have ZL: ¬O.op=3:=by simpa using aS
  have ZM: ¬O.op=4:=by simpa using bt
  have aS: ¬(O.op=3∨O.op=4):=by omega
  unfold EU
  refine⟨fun cb=> ?_,fun cb=> ?_⟩
  ·have cb:O.op=5:=by simpa using cb
   have bu:=tq he (.inl cb)
   refine⟨⟨bu.1,by show O.ag.toNat<M.ak.length;omega⟩,ok _ _ ?_ ?_⟩
   ·unfold eM;rw[if_neg h1,if_neg h2,if_neg (by omega)]
   ·unfold ht;rw[if_neg h1,if_neg h2,if_neg aS,if_pos cb];rfl
  have cb: ¬O.op=5:=by simpa using cb
  refine⟨fun cE=> ?_,fun cE=>⟨fun gp=> ?_,fun gp=> ?_⟩⟩
  ·have cE:O.op=6:=by simpa using cE
   have bu:=tq he (.inr cE)
   have iT:eM J M O=if h6 J M O.ag=true then 2 else if js J M O.ag=true then 3 else 0:=by unfold eM;rw[if_neg h1,if_neg h2,if_pos cE]
   refine⟨⟨hf,bu.1,bu.2⟩,fun _=> ?_⟩
   unfold EP EO
   have BZ:=cA.bh _ (dt (show O.ag.toNat<J.bh.length by omega))
   refine⟨fun hc=> ?_,fun hc=>⟨⟨⟨bu.1,by omega⟩,BZ.1,by omega⟩,fun ax=> ?_,fun ax=>⟨⟨bu.1,by show _<M.ak.length;omega⟩,ok _ _ ?_ ?_⟩⟩⟩
   ·rw[if_pos (show h6 J M O.ag=true from hc)] at iT
    exact k6 2 iT.symm (by decide)
   ·rw[if_neg (show ¬h6 J M O.ag=true by rw[show h6 J M O.ag=false from hc];simp),if_pos (show js J M O.ag=true from ax)] at iT
    exact k6 3 iT.symm (by decide)
   ·rw[if_neg (show ¬h6 J M O.ag=true by rw[show h6 J M O.ag=false from hc];simp),if_neg (show ¬js J M O.ag=true by rw[show js J M O.ag=false from ax];simp)] at iT
    exact iT
   ·unfold ht;rw[if_neg h1,if_neg h2,if_neg aS,if_neg cb,if_pos cE];rfl
  ·have cE: ¬O.op=6:=by simpa using cE
   have gp:O.op=7:=by simpa using gp
   have iT:eM J M O=0:=by unfold eM;rw[if_neg h1,if_neg h2,if_neg cE]
   unfold ET
   refine⟨⟨cS (de _),kv,fg⟩,fun bs is v ws aM=> ?_⟩
   obtain⟨aM,G,iU⟩:=aM
   have t_:ws.length=M.ways.length:=by rw[←ii G.ok,iU,w4]
   refine⟨fun hv=>⟨G,iT.symm,?_⟩,fun hv=> ?_⟩
   ·have jp: ¬v<(M.ways.length:Int):=of_decide_eq_false hv
    have a6:=aM.1
    have hb:=aM.2.1
    rw[BP iT,iU,show v.toNat=M.ways.length by omega]
    unfold ht;rw[if_neg h1,if_neg h2,if_neg aS,if_neg cb,if_neg cE,if_pos gp];rfl
   ·have b4:=b8 aM hv
    have bg:v.toNat<ws.length:=by omega
    have tK:v.toNat<J.ways.length:=by omega
    have dh:c7 (g8 J v.toNat M.ways) is v (nth (g8 J v.toNat M.ways) v) ws bs:=c7.start G.ok G.jR bg iU G.len
    have bd:=cq (by omega) aM hv rfl
    have oO:=ho (show(M.ways.length:Int)≤4611686018427387904 by omega) aM.1 (of_decide_eq_true hv)
    have dP:=dh.uX (IntKind.i64.wrap ((nth ws v).timer - 1))
    have fin: ∀{cX:List Nat} {jD:List aa} {ll:List (List Bool)} {x:aa},c7 (g8 J v.toNat M.ways) cX v x jD ll→x=kM J v.toNat (nth (g8 J v.toNat M.ways) v)→(cg M.ways.length (fun _=>false) (IntKind.i64.wrap (v+1))∧fL jD cX ll∧view jD cX ll=g8 J (IntKind.i64.wrap (v+1)).toNat M.ways)∧cn M.ways.length (IntKind.i64.wrap (v+1))<cn M.ways.length v:=fun F hx=>by
     refine⟨⟨bd.1,F.G,?_⟩,bd.2⟩
     rw[F.gN,hx,oO,show(v+1).toNat=v.toNat+1 by omega]
     show _=(g8 J v.toNat M.ways).set v.toNat (kM J v.toNat (nth (g8 J v.toNat M.ways) (v.toNat:Int)))
     rw[jr b4.1]
    have bu:(nth (ws.set v.toNat (aa.mk ((nth ws v).state) ((nth ws v).gone) ((nth ws v).been) ((nth ws v).shown) (IntKind.i64.wrap (((nth ws v).timer) - 1)))) v).timer=IntKind.i64.wrap ((nth ws v).timer - 1):=dP.timer
    have BH:a2 J (v.toNat:Int)=a2 J v:=by rw[Int.toNat_of_nonneg b4.1]
    unfold ES ER EQ
    rw[bu,dh.timer,dh.state]
    rw[dh.timer,dh.state] at dP
    refine⟨⟨b4.1,bg⟩,⟨dh.e0,fun aS=>fin dh ?_⟩,fun aS=>⟨⟨dh.e0,dh.e0⟩,dP.e0,fun a0=>⟨⟨dP.G,b4.1,by have:=dP.lt;omega⟩,fun w i b jn=> ?_⟩,fun a0=>fin dP ?_⟩⟩
    ·unfold kM;rw[if_neg (by simpa using aS)]
    ·obtain⟨mC,jp⟩:=jn
     refine fin (dP.again mC jp) ?_
     have hb:=F4 da v.toNat
     have dA:=I7 hb b4.1 (by omega)
     unfold kM
     rw[if_pos (by simpa using aS),if_pos (by simpa using a0),BH,←dA,dP.uw]
    ·unfold kM;rw[if_pos (by simpa using aS),if_neg (by simpa using a0)]
  ·have cE: ¬O.op=6:=by simpa using cE
   have gp: ¬O.op=7:=by simpa using gp
   refine ok _ _ ?_ ?_
   ·unfold eM;rw[if_neg h1,if_neg h2,if_neg cE]
   ·unfold ht;rw[if_neg h1,if_neg h2,if_neg aS,if_neg cb,if_neg cE,if_neg gp];rfl
 ·obtain⟨G,hc,bp⟩:=cu
  have b4:=KK da he
  have nW:cL ((U M).ok) o q ws is bs=iJ J M O:=bp
  have j8:=p7 J (iJ J M O) (iJ J M O).ways.length
  unfold EM
  refine⟨⟨G,cA,by rw[nW];exact b4⟩,fun w i b jn=> ?_⟩
  obtain⟨mC,jp⟩:=jn
  rw[nW] at jp
  rw[←bp] at b4
  have ax:=b4.al
  have aj:=b4.ak
  replace ax:(o.length:Int)=J.ai:=ax
  replace aj:q.length=J.bh.length:=aj
  have t_:w.length=(iJ J M O).ways.length:=by rw[←ii mC.ok,jp];exact ny _ _ _
  have hml:(iJ J M O).ways.length=J.ways.length:=by rw[←bp];exact b4.ways
  rw[BV]
  refine⟨hc,?_,⟨by omega,?_⟩,⟨by omega,?_⟩,mC.ok,by omega,fun x hx=>by have:=mC.len x hx;omega,jp⟩
  ·show M.ok=(dQ J (iJ J M O)).ok
   unfold dQ;rw[j8.1,←bp]
  ·show o=(dQ J (iJ J M O)).al
   unfold dQ;rw[j8.2.1,←bp]
  ·show q=(dQ J (iJ J M O)).ak
   unfold dQ;rw[j8.2.2,←bp])
def Xw:ev Try.prog:=⟨92,[.dW,.frame,.iS],[.done],some fun x=>Eo x.1 x.2.1 x.2.2.1,fun x=>((f_ x.1 x.2.1 x.2.2.1),()),fun x h=>Xu x.1 x.2.1 x.2.2.1 h⟩
noncomputable def X5:Code:=hM Try.f93
def Fl (aw:List (List Bool)→Nat→Nat→List Nat→Int→List aa→Prop) (ay:List (List Bool)→Nat→Nat→List Nat→Int→List aa→Nat) (J:Frame) (aG:List (List Bool)) (aY bX:Nat) (aE:List Nat) (aK:Int) (ws2:List aa):Prop:=
  aw (aG++[(nth J.ways aK).been]) (aY+1) (bX+1) (aE++[aG.length]) (IntKind.i64.wrap (aK+1)) (ws2++[(aa.mk ((nth J.ways aK).state) ((nth J.ways aK).gone) ((nth J.ways aK).been) ((nth J.ways aK).shown) ((nth J.ways aK).timer))])∧ay (aG++[(nth J.ways aK).been]) (aY+1) (bX+1) (aE++[aG.length]) (IntKind.i64.wrap (aK+1)) (ws2++[(aa.mk ((nth J.ways aK).state) ((nth J.ways aK).gone) ((nth J.ways aK).been) ((nth J.ways aK).shown) ((nth J.ways aK).timer))])<ay aG aY bX aE aK ws2
def Fm (aw:List (List Bool)→Nat→Nat→List Nat→Int→List aa→Prop) (ay:List (List Bool)→Nat→Nat→List Nat→Int→List aa→Nat) (J ar:Frame) (aG:List (List Bool)) (aY bX:Nat) (aE:List Nat) (aK:Int) (ws2:List aa):Prop:=
  ((decide (aK<(J.ways.length:Int)))=false→(J.ok=ar.ok)∧(J.al.length≤4611686018427387904∧J.al=ar.al)∧(J.ak.length≤4611686018427387904∧J.ak=ar.ak)∧(iQ ws2 aE aG∧ws2.length≤4611686018427387904∧(∀x∈aG,List.length x≤4611686018427387904)∧view ws2 aE aG=ar.ways))∧((decide (aK<(J.ways.length:Int)))=true→((0≤aK∧aK.toNat<J.ways.length)∧((((nth J.ways aK).been).length*1≤140737488355328∧((nth J.ways aK).been).length≤4611686018427387904)∧(ws2.length=aE.length∧((ws2.length+1)*56≤140737488355328∧ws2.length+1≤4611686018427387904))))∧(Fl aw ay J aG aY bX aE aK ws2))
def Fo (aw:List (List Bool)→Nat→Nat→List Nat→Int→List aa→Prop) (ay:List (List Bool)→Nat→Nat→List Nat→Int→List aa→Nat) (J ar:Frame):Prop:=
  (J.al.length*1≤140737488355328∧J.al.length≤4611686018427387904)∧((J.ak.length*16≤140737488355328∧J.ak.length≤4611686018427387904)∧(J.ways.length≤4611686018427387904→aw ([]:List (List Bool)) 0 0 ([]:List Nat) 0 ([]:List aa)∧ ∀(aG:List (List Bool)) (aY:Nat) (bX:Nat) (aE:List Nat) (aK:Int) (ws2:List aa),aw aG aY bX aE aK ws2→(Fm aw ay J ar aG aY bX aE aK ws2)))
def Fk (J:Frame) (ar:Frame) (aw:List (List Bool)→Nat→Nat→List Nat→Int→List aa→Prop) (ay:List (List Bool)→Nat→Nat→List Nat→Int→List aa→Nat):Prop:=
 Fo aw ay J ar
theorem X7 (J:Frame) (ar:Frame) (aw:List (List Bool)→Nat→Nat→List Nat→Int→List aa→Prop) (ay:List (List Bool)→Nat→Nat→List Nat→Int→List aa→Nat) (h:Fk J ar aw ay):b3 Try.prog 93 [.agg (bS false J)] (.agg (bS true ar)):=by
 unfold Fk at h
 refine dj.go (fn:=Try.f93) [(0,.agg (bS false J))] Try.func93 ?_
 show WpS _ (bK X5 1) _ ⟨a4 43 [(0,.agg (bS false J))],[],[]⟩
 refine m_ [1000003] 0 [(2,an 2 0),(1,an 1 0)] [2] [] [(2,[ah false,ao,ao,ao]),(1,(bS false J))] [] ?_
 refine l9 [1000003] 1 [(3,an 3 0),(9,.agg [ah J.ok,ao,ao,ao]),(8,ah J.ok),(7,an 1 0)] [1] [2] (fun L=>(3,[ah J.ok,ao,ao,ao])::L) id ?_
 unfold Fo at h
 obtain⟨gh,h⟩:=h
 refine dD [] [3] (fun L=>fM 0 1 (ae 0 0 J.al.length) L) (fun _=>[⟨0,1,List.map aH J.al⟩]) (True) ?_ (fun q3=> ?_)
 ·
  replace h:=gh
  refine bm [1000003] 2 ?_
  have q4:=h
  refine pc 5 (some 14) [(13,bo aH J.al),(12,an 1 1),(11,ao),(10,an 3 1)] aH J.al (hR false (List.map aH J.al)) 0 1 1 (fun r=>[⟨0,1,r⟩]) rfl q4 ?_
  exact bL [(15,an 3 1)] trivial
 obtain⟨gz,h⟩:=h
 refine dD [] [3] (fun L=>fM 0 2 (ae 1 0 J.ak.length) L) (fun H=>H++[⟨0,2,List.map a1 J.ak⟩]) (True) ?_ (fun cx=> ?_)
 ·
  replace h:=gz
  refine bm [1000003] 3 ?_
  have cT:=h
  refine pc 5 (some 20) [(19,bo a1 J.ak),(18,an 1 2),(17,ao),(16,an 3 2)] a1 J.ak (hR false (List.map a1 J.ak)) 1 2 16 (fun r=>[⟨0,1,List.map aH J.al⟩,⟨0,2,r⟩]) rfl cT ?_
  exact bL [(21,an 3 2)] trivial
 refine fy ?_
 refine b0 [(23,bo (cd false) J.ways),(24,ac (J.ways.length:Int)),(25,ac 0)] [2] (J.ways.length≤4611686018427387904) ?_ (fun et=> ?_)
 ·
  refine bm [1000003] 4 ?_
  refine sLen 3 (some 24) [(23,bo (cd false) J.ways),(22,an 1 3)] (cd false) J.ways (fun eB=> ?_)
  exact bL [(25,ac 0)] eB
 replace h:=h et
 refine dM 0 ?_
 refine WpS.jd ?_ (fK (s'':=⟨(a4 43 [(23,bo (cd false) J.ways),(24,ac (J.ways.length:Int)),(25,ac 0),(3,an 3 0),(2,an 2 0)]),[(3,[ah J.ok,ae 0 0 J.al.length,ae 1 0 J.ak.length,ae 2 0 (([]:List aa).length)]),(2,[ah false,ao,ao,ao]),(1,(bS false J))],[⟨0,1,List.map aH J.al⟩,⟨0,2,List.map a1 J.ak⟩,⟨0,5,aT 4 ([]:List aa) ([]:List Nat)⟩]⟩) (Weak.nG (T:=(a4 43 [(23,bo (cd false) J.ways),(24,ac (J.ways.length:Int)),(25,ac 0),(3,an 3 0),(2,an 2 0)])) (L:=[(3,[ah J.ok,ae 0 0 J.al.length,ae 1 0 J.ak.length,ao]),(2,[ah false,ao,ao,ao]),(1,(bS false J))]) (H:=[⟨0,1,List.map aH J.al⟩,⟨0,2,List.map a1 J.ak⟩]) (cells:=[ah J.ok,ae 0 0 J.al.length,ae 1 0 J.ak.length,ao]) 3 3 5 (by kernel_rfl) (by kernel_rfl)) (by kernel_rfl))
 refine WpS.jd ?_ (fK (s'':=⟨(a4 43 [(23,bo (cd false) J.ways),(24,ac (J.ways.length:Int)),(25,ac 0),(3,an 3 0),(2,an 2 0)]),[(3,[ah J.ok,ae 0 0 J.al.length,ae 1 0 J.ak.length,ae 2 0 (([]:List aa).length)]),(2,[ah false,ao,ao,ao]),(1,(bS false J))],(⟨0,1,List.map aH J.al⟩::⟨0,2,List.map a1 J.ak⟩::⟨0,5,aT 4 ([]:List aa) ([]:List Nat)⟩::⟨0,5,[]⟩::List.map bc ([]:List (List Bool)))⟩) (Weak.so (T:=(a4 43 [(23,bo (cd false) J.ways),(24,ac (J.ways.length:Int)),(25,ac 0),(3,an 3 0),(2,an 2 0)])) (L:=[(3,[ah J.ok,ae 0 0 J.al.length,ae 1 0 J.ak.length,ae 2 0 (([]:List aa).length)]),(2,[ah false,ao,ao,ao]),(1,(bS false J))]) (H:=[⟨0,1,List.map aH J.al⟩,⟨0,2,List.map a1 J.ak⟩,⟨0,5,aT 4 ([]:List aa) ([]:List Nat)⟩]) 5) (by kernel_rfl))
 obtain⟨ff,h⟩:=h
 refine hr (fun(v:List (List Bool)×Nat×Nat×List Nat×Int×List aa)=>(⟨(a4 43 [(2,an 2 0),(3,an 3 0),(23,bo (cd false) J.ways),(24,ac (J.ways.length:Int)),(25,ac (v.2.2.2.2.1))]),[(3,[ah J.ok,ae 0 0 J.al.length,ae 1 0 J.ak.length,ae 2 (v.2.1) ((v.2.2.2.2.2).length)]),(2,[ah false,ao,ao,ao])],(⟨0,1,List.map aH J.al⟩::⟨0,2,List.map a1 J.ak⟩::⟨(v.2.1),5,aT 4 (v.2.2.2.2.2) (v.2.2.2.1)⟩::⟨(v.2.2.1),5,[]⟩::List.map bc (v.1))⟩:St)) (fun(v:List (List Bool)×Nat×Nat×List Nat×Int×List aa)=>aw (v.1) (v.2.1) (v.2.2.1) (v.2.2.2.1) (v.2.2.2.2.1) (v.2.2.2.2.2)) (fun(v:List (List Bool)×Nat×Nat×List Nat×Int×List aa)=>ay (v.1) (v.2.1) (v.2.2.1) (v.2.2.2.1) (v.2.2.2.2.1) (v.2.2.2.2.2)) (([]:List (List Bool)),0,0,([]:List Nat),0,([]:List aa)) (cC [1]) ff (fun v aM=> ?_)
 obtain⟨aG,aY,bX,aE,aK,ws2⟩:=v
 replace h:=h aG aY bX aE aK ws2 aM
 dsimp only
 refine cQ [1000003] 5 [(26,ah (decide (aK<(J.ways.length:Int))))] [1] [5] ?_
 unfold Fm at h
 obtain⟨gy,h⟩:=h
 refine b0 [] [0,1,5] ((decide (aK<(J.ways.length:Int)))=true) ?_ (fun fH=> ?_)
 ·
  replace h:=gy
  refine cN (fun fI=> ?_) (fun fI=> ?_)
  ·
   refine c6 ?_
   exact bR.normal (by simp only[fI]<;>rfl) cW
  ·
   replace h:=h fI
   refine gG 0 ?_
   refine bR.exit ?_
   refine cU.exit ?_
   refine bZ.here ?_
   refine c4.normal ?_
   refine gX ⟨(a4 43 [(2,an 2 0)]),[(3,[ah J.ok,ae 0 0 J.al.length,ae 1 0 J.ak.length,ae 2 aY ws2.length]),(2,[ah J.ok,ae 0 0 J.al.length,ae 1 0 J.ak.length,ae 2 aY ws2.length])],(⟨0,1,List.map aH J.al⟩::⟨0,2,List.map a1 J.ak⟩::⟨aY,5,aT 4 ws2 aE⟩::⟨bX,5,[]⟩::List.map bc aG)⟩ (True) ?_ (fun gw=> ?_)
   ·
    refine bm [1000003] 11 ?_
    exact bL [(42,.agg [ah J.ok,ae 0 0 J.al.length,ae 1 0 J.ak.length,ae 2 aY ws2.length])] trivial
   exact e8 (iz (.agg [ah J.ok,ae 0 0 J.al.length,ae 1 0 J.ak.length,ae 2 aY ws2.length]) (gd.agg (av.cons (iN h.1) (av.cons (l0 (sz:=1) (by simp) rfl (rF) h.2.1) (av.cons (l0 (sz:=2) (by simp) rfl (tf) h.2.2.1) (av.cons (wZ (s:=4) (ws:=ws2) (ids:=aE) (bs:=aG) (by simp) rfl (fun id k h=>by simpa using h) h.2.2.2) av.nil))))))
 replace h:=h fH
 obtain⟨eA,h⟩:=h
 refine dD [] [5] (fun L=>(6,[ac ((nth J.ways aK).state),ac ((nth J.ways aK).gone),ae (aG.length+4) 0 (((nth J.ways aK).been).length),ah ((nth J.ways aK).shown),ac ((nth J.ways aK).timer)])::(5,(cd false (nth J.ways aK)))::fM 0 3 (ae 2 (aY+1) ((ws2++[(aa.mk ((nth J.ways aK).state) ((nth J.ways aK).gone) ((nth J.ways aK).been) ((nth J.ways aK).shown) ((nth J.ways aK).timer))]).length)) L) (fun _=>(⟨0,1,List.map aH J.al⟩::⟨0,2,List.map a1 J.ak⟩::⟨(aY+1),5,aT 4 (ws2++[(aa.mk ((nth J.ways aK).state) ((nth J.ways aK).gone) ((nth J.ways aK).been) ((nth J.ways aK).shown) ((nth J.ways aK).timer))]) (aE++[aG.length])⟩::⟨(bX+1),5,[[ac ((nth J.ways aK).state),ac ((nth J.ways aK).gone),ae (aG.length+4) 0 (((nth J.ways aK).been).length),ah ((nth J.ways aK).shown),ac ((nth J.ways aK).timer)]]⟩::List.map bc (aG++[(nth J.ways aK).been]))) (True) ?_ (fun eU=> ?_)
 ·
  replace h:=eA
  refine dM 1 ?_
  obtain⟨ia,h⟩:=h
  refine dD [(5,an 5 0)] [5] (fun L=>(5,(cd false (nth J.ways aK)))::L) id (True) ?_ (fun mq=> ?_)
  ·
   replace h:=ia
   refine bm [1000003] 6 ?_
   have gT:=h
   refine hT 1 (some 27) [] (cd false) J.ways 5 gT ?_
   exact bL [(5,an 5 0),(28,.agg (cd false (nth J.ways aK)))] trivial
  refine l9 [1000003] 7 [(6,an 6 0),(29,.agg (cd false (nth J.ways aK)))] [1] [6] (fun L=>(6,(cd false (nth J.ways aK)))::L) id ?_
  obtain⟨gx,h⟩:=h
  refine dD [] [1,1,5] (fun L=>er 0 [ac ((nth J.ways aK).state),ac ((nth J.ways aK).gone),ae (aG.length+4) 0 (((nth J.ways aK).been).length),ah ((nth J.ways aK).shown),ac ((nth J.ways aK).timer)] L) (fun _=>(⟨0,1,List.map aH J.al⟩::⟨0,2,List.map a1 J.ak⟩::⟨aY,5,aT 4 ws2 aE⟩::⟨bX,5,[]⟩::List.map bc (aG++[(nth J.ways aK).been]))) (True) ?_ (fun fX=> ?_)
  ·
   replace h:=gx
   refine bm [1000003] 8 ?_
   have ju:=h
   refine L2 4 (some 33) [(32,bo aH ((nth J.ways aK).been)),(31,an 5 2),(30,ao)] ((nth J.ways aK).been) 1 (aG.length+4) (⟨0,1,List.map aH J.al⟩::⟨0,2,List.map a1 J.ak⟩::⟨aY,5,aT 4 ws2 aE⟩::⟨bX,5,[]⟩::List.map bc (aG++[(nth J.ways aK).been])) ju (by simp) (by simp only[List.cons_append,oA]) ?_
   exact bL [(34,an 6 2)] trivial
  refine bm [1000003] 9 ?_
  refine wS 4 [(38,.ref 3 (bX+1) 0 1 true),(37,.agg [ac ((nth J.ways aK).state),ac ((nth J.ways aK).gone),ae (aG.length+4) 0 (((nth J.ways aK).been).length),ah ((nth J.ways aK).shown),ac ((nth J.ways aK).timer)]),(36,ae 2 aY ws2.length),(35,an 3 3)] [(6,[ac ((nth J.ways aK).state),ac ((nth J.ways aK).gone),ae (aG.length+4) 0 (((nth J.ways aK).been).length),ah ((nth J.ways aK).shown),ac ((nth J.ways aK).timer)]),(5,(cd false (nth J.ways aK))),(3,[ah J.ok,ae 0 0 J.al.length,ae 1 0 J.ak.length,ae 2 aY ws2.length]),(2,[ah false,ao,ao,ao])] (⟨0,1,List.map aH J.al⟩::⟨0,2,List.map a1 J.ak⟩::⟨aY,5,aT 4 ws2 aE⟩::⟨(bX+1),5,[[ac ((nth J.ways aK).state),ac ((nth J.ways aK).gone),ae (aG.length+4) 0 (((nth J.ways aK).been).length),ah ((nth J.ways aK).shown),ac ((nth J.ways aK).timer)]]⟩::List.map bc (aG++[(nth J.ways aK).been])) ?_
  have fS:=h
  refine En 1 (some 39) [] 4 2 aY (bX+1) 56 ws2 aE (aa.mk ((nth J.ways aK).state) ((nth J.ways aK).gone) ((nth J.ways aK).been) ((nth J.ways aK).shown) ((nth J.ways aK).timer)) aG.length (fun r=>(⟨0,1,List.map aH J.al⟩::⟨0,2,List.map a1 J.ak⟩::⟨(aY+1),5,r⟩::⟨(bX+1),5,[[ac ((nth J.ways aK).state),ac ((nth J.ways aK).gone),ae (aG.length+4) 0 (((nth J.ways aK).been).length),ah ((nth J.ways aK).shown),ac ((nth J.ways aK).timer)]]⟩::List.map bc (aG++[(nth J.ways aK).been]))) fS.1 fS.2 ?_
  refine sG [(40,an 3 3)] [(6,[ac ((nth J.ways aK).state),ac ((nth J.ways aK).gone),ae (aG.length+4) 0 (((nth J.ways aK).been).length),ah ((nth J.ways aK).shown),ac ((nth J.ways aK).timer)]),(5,(cd false (nth J.ways aK))),(3,[ah J.ok,ae 0 0 J.al.length,ae 1 0 J.ak.length,ae 2 (aY+1) ((ws2++[(aa.mk ((nth J.ways aK).state) ((nth J.ways aK).gone) ((nth J.ways aK).been) ((nth J.ways aK).shown) ((nth J.ways aK).timer))]).length)]),(2,[ah false,ao,ao,ao])] (⟨0,1,List.map aH J.al⟩::⟨0,2,List.map a1 J.ak⟩::⟨(aY+1),5,aT 4 (ws2++[(aa.mk ((nth J.ways aK).state) ((nth J.ways aK).gone) ((nth J.ways aK).been) ((nth J.ways aK).shown) ((nth J.ways aK).timer))]) (aE++[aG.length])⟩::⟨(bX+1),5,[[ac ((nth J.ways aK).state),ac ((nth J.ways aK).gone),ae (aG.length+4) 0 (((nth J.ways aK).been).length),ah ((nth J.ways aK).shown),ac ((nth J.ways aK).timer)]]⟩::List.map bc (aG++[(nth J.ways aK).been])) ?_
  refine bZ.normal ?_
  exact bR.normal trivial cW
 unfold Fl at h
 refine bm [1000003] 10 ?_
 refine df [(25,ac (IntKind.i64.wrap (aK+1))),(41,ac (IntKind.i64.wrap (aK+1)))] ?_
 exact cU.again ((aG++[(nth J.ways aK).been]),(aY+1),(bX+1),(aE++[aG.length]),(IntKind.i64.wrap (aK+1)),(ws2++[(aa.mk ((nth J.ways aK).state) ((nth J.ways aK).gone) ((nth J.ways aK).been) ((nth J.ways aK).shown) ((nth J.ways aK).timer))])) h ((Weak.clear 3 rfl:Weak ⟨(a4 43 [(25,ac (IntKind.i64.wrap (aK+1))),(41,ac (IntKind.i64.wrap (aK+1))),(2,an 2 0),(3,an 3 0),(23,bo (cd false) J.ways),(24,ac (J.ways.length:Int))]),[(6,[ac ((nth J.ways aK).state),ac ((nth J.ways aK).gone),ae (aG.length+4) 0 (((nth J.ways aK).been).length),ah ((nth J.ways aK).shown),ac ((nth J.ways aK).timer)]),(5,(cd false (nth J.ways aK))),(3,[ah J.ok,ae 0 0 J.al.length,ae 1 0 J.ak.length,ae 2 (aY+1) ((ws2++[(aa.mk ((nth J.ways aK).state) ((nth J.ways aK).gone) ((nth J.ways aK).been) ((nth J.ways aK).shown) ((nth J.ways aK).timer))]).length)]),(2,[ah false,ao,ao,ao])],(⟨0,1,List.map aH J.al⟩::⟨0,2,List.map a1 J.ak⟩::⟨(aY+1),5,aT 4 (ws2++[(aa.mk ((nth J.ways aK).state) ((nth J.ways aK).gone) ((nth J.ways aK).been) ((nth J.ways aK).shown) ((nth J.ways aK).timer))]) (aE++[aG.length])⟩::⟨(bX+1),5,[[ac ((nth J.ways aK).state),ac ((nth J.ways aK).gone),ae (aG.length+4) 0 (((nth J.ways aK).been).length),ah ((nth J.ways aK).shown),ac ((nth J.ways aK).timer)]]⟩::List.map bc (aG++[(nth J.ways aK).been]))⟩ ⟨(a4 43 [(25,ac (IntKind.i64.wrap (aK+1))),(41,ac (IntKind.i64.wrap (aK+1))),(2,an 2 0),(3,an 3 0),(23,bo (cd false) J.ways),(24,ac (J.ways.length:Int))]),[(6,[ac ((nth J.ways aK).state),ac ((nth J.ways aK).gone),ae (aG.length+4) 0 (((nth J.ways aK).been).length),ah ((nth J.ways aK).shown),ac ((nth J.ways aK).timer)]),(5,(cd false (nth J.ways aK))),(3,[ah J.ok,ae 0 0 J.al.length,ae 1 0 J.ak.length,ae 2 (aY+1) ((ws2++[(aa.mk ((nth J.ways aK).state) ((nth J.ways aK).gone) ((nth J.ways aK).been) ((nth J.ways aK).shown) ((nth J.ways aK).timer))]).length)]),(2,[ah false,ao,ao,ao])],(⟨0,1,List.map aH J.al⟩::⟨0,2,List.map a1 J.ak⟩::⟨(aY+1),5,aT 4 (ws2++[(aa.mk ((nth J.ways aK).state) ((nth J.ways aK).gone) ((nth J.ways aK).been) ((nth J.ways aK).shown) ((nth J.ways aK).timer))]) (aE++[aG.length])⟩::⟨(bX+1),5,[]⟩::List.map bc (aG++[(nth J.ways aK).been]))⟩).trans (cC [6,5]))
theorem X4 (J:Frame) (aF:gK J):b3 Try.prog 93 [.agg (bS false J)] (.agg (bS true (U J))):=X7 J (U J) (fun bs _ _ is v ws=>cg J.ways.length (fun _=>false) v∧ws=J.ways.take v.toNat∧is=List.range ws.length∧bs=ws.map aa.been) (fun _ _ _ _ v _=>cn J.ways.length v) (by
 unfold Fk Fo
 obtain⟨wz,wA,DT,qY⟩:=aF
 refine⟨⟨by omega,by omega⟩,⟨by omega,by omega⟩,fun aC=>⟨⟨cS (de _),rfl,rfl,rfl⟩,fun bs aY bX is v ws aM=> ?_⟩⟩
 unfold Fm Fl
 obtain⟨aM,rfl,hi,hb⟩:=aM
 refine⟨fun hv=> ?_,fun hv=>⟨⟨b8 aM hv,?_,?_,?_,?_⟩,⟨(cq (ci aC) aM hv rfl).1,?_,?_,?_⟩,(cq (ci aC) aM hv rfl).2⟩⟩
 ·have: ¬v<(J.ways.length:Int):=by simpa using hv
  have h1:=aM.1
  rw[List.take_of_length_le (by omega)] at hi hb ⊢
  obtain⟨eS,fY,fg⟩:=rK J.ways
  subst hi;subst hb
  exact⟨rfl,⟨by omega,rfl⟩,⟨by omega,rfl⟩,eS,by omega,fun b hb=>by
   obtain⟨h,bV,rfl⟩:=List.mem_map.1 hb;have:=qY h bV;omega,fg⟩
 ·have:=qY _ (dt (b8 aM hv).2)
  exact⟨by omega,by omega⟩
 ·rw[hi];simp
 ·rw[List.length_take];omega
 ·rw[List.length_take];omega
 ·have b4:=b8 aM hv
  rw[ho (ci aC) b4.1 (by omega),show(v+1).toNat=v.toNat+1 by omega,List.take_succ_eq_append_getElem b4.2,←fv b4.2]
 ·rw[hi,hb];simp[List.range_succ]
 ·rw[hb,List.map_append];rfl)
def X6:ev Try.prog:=⟨93,[.frame],[.frame],some fun x=>gK x.1,fun x=>((U x.1),()),fun x h=>X4 x.1 h⟩
def MH (aw:Nat→(List cP)→Bool→(List Bool)→(List aN)→(List aa)→Int→Prop) (ay:Nat→(List cP)→Bool→(List Bool)→(List aN)→(List aa)→Int→Nat) (J:aB) (M:(List Event)) (aR:Nat) (aA:(List cP)) (c0:Bool) (c1:(List Bool)) (c2:(List aN)) (c3:(List aa)) (db:Int):Prop:=
  ((aA.length+[(cP.mk ((f_ J (Frame.mk c0 c1 c2 c3) (nth M db)).code) (U (Frame.mk c0 c1 c2 c3)))].length)*88≤140737488355328∧aA.length+[(cP.mk ((f_ J (Frame.mk c0 c1 c2 c3) (nth M db)).code) (U (Frame.mk c0 c1 c2 c3)))].length≤4611686018427387904)∧(aw (aR+1) (aA++[(cP.mk ((f_ J (Frame.mk c0 c1 c2 c3) (nth M db)).code) (U (Frame.mk c0 c1 c2 c3)))]) ((U (Frame.mk c0 c1 c2 c3)).ok) ((U (Frame.mk c0 c1 c2 c3)).al) ((U (Frame.mk c0 c1 c2 c3)).ak) ((U (Frame.mk c0 c1 c2 c3)).ways) (IntKind.i64.wrap (db+1))∧ay (aR+1) (aA++[(cP.mk ((f_ J (Frame.mk c0 c1 c2 c3) (nth M db)).code) (U (Frame.mk c0 c1 c2 c3)))]) ((U (Frame.mk c0 c1 c2 c3)).ok) ((U (Frame.mk c0 c1 c2 c3)).al) ((U (Frame.mk c0 c1 c2 c3)).ak) ((U (Frame.mk c0 c1 c2 c3)).ways) (IntKind.i64.wrap (db+1))<ay aR aA c0 c1 c2 c3 db)
def MI (aw:Nat→(List cP)→Bool→(List Bool)→(List aN)→(List aa)→Int→Prop) (ay:Nat→(List cP)→Bool→(List Bool)→(List aN)→(List aa)→Int→Nat) (J:aB) (M:(List Event)) (aR:Nat) (aA:(List cP)) (c0:Bool) (c1:(List Bool)) (c2:(List aN)) (c3:(List aa)) (db:Int):Prop:=
  ((aA.length+[(f_ J (Frame.mk c0 c1 c2 c3) (nth M db))].length)*88≤140737488355328∧aA.length+[(f_ J (Frame.mk c0 c1 c2 c3) (nth M db))].length≤4611686018427387904)∧(aw (aR+1) (aA++[(f_ J (Frame.mk c0 c1 c2 c3) (nth M db))]) ((f_ J (Frame.mk c0 c1 c2 c3) (nth M db)).frame.ok) ((f_ J (Frame.mk c0 c1 c2 c3) (nth M db)).frame.al) ((f_ J (Frame.mk c0 c1 c2 c3) (nth M db)).frame.ak) ((f_ J (Frame.mk c0 c1 c2 c3) (nth M db)).frame.ways) (IntKind.i64.wrap (db+1))∧ay (aR+1) (aA++[(f_ J (Frame.mk c0 c1 c2 c3) (nth M db))]) ((f_ J (Frame.mk c0 c1 c2 c3) (nth M db)).frame.ok) ((f_ J (Frame.mk c0 c1 c2 c3) (nth M db)).frame.al) ((f_ J (Frame.mk c0 c1 c2 c3) (nth M db)).frame.ak) ((f_ J (Frame.mk c0 c1 c2 c3) (nth M db)).frame.ways) (IntKind.i64.wrap (db+1))<ay aR aA c0 c1 c2 c3 db)
def MJ (aw:Nat→(List cP)→Bool→(List Bool)→(List aN)→(List aa)→Int→Prop) (ay:Nat→(List cP)→Bool→(List Bool)→(List aN)→(List aa)→Int→Nat) (J:aB) (M:(List Event)) (aR:Nat) (aA:(List cP)) (c0:Bool) (c1:(List Bool)) (c2:(List aN)) (c3:(List aa)) (db:Int):Prop:=
  (0≤db∧db.toNat<M.length)∧((Eo J (Frame.mk c0 c1 c2 c3) (nth M db))∧(((((f_ J (Frame.mk c0 c1 c2 c3) (nth M db)).code)==1)=true→(gK (Frame.mk c0 c1 c2 c3))∧(MH aw ay J M aR aA c0 c1 c2 c3 db))∧((((f_ J (Frame.mk c0 c1 c2 c3) (nth M db)).code)==1)=false→MI aw ay J M aR aA c0 c1 c2 c3 db)))
def MK (aw:Nat→(List cP)→Bool→(List Bool)→(List aN)→(List aa)→Int→Prop) (ay:Nat→(List cP)→Bool→(List Bool)→(List aN)→(List aa)→Int→Nat) (J:aB) (M:(List Event)) (ar:(List cP)):Prop:=
  aw 0 ([]:List cP) ((dn J).ok) ((dn J).al) ((dn J).ak) ((dn J).ways) 0∧ ∀(aR:Nat) (aA:(List cP)) (c0:Bool) (c1:(List Bool)) (c2:(List aN)) (c3:(List aa)) (db:Int),aw aR aA c0 c1 c2 c3 db→(((decide (db<(M.length:Int)))=false→aA.length≤4611686018427387904∧aA=ar)∧((decide (db<(M.length:Int)))=true→MJ aw ay J M aR aA c0 c1 c2 c3 db))
def MG (J:aB) (M:(List Event)) (ar:(List cP)) (aw:Nat→(List cP)→Bool→(List Bool)→(List aN)→(List aa)→Int→Prop) (ay:Nat→(List cP)→Bool→(List Bool)→(List aN)→(List aa)→Int→Nat):Prop:=
 (((!(dv J)) || (decide ((M.length:Int)>1000)))=true→[]=ar)∧((!((!(dv J)) || (decide ((M.length:Int)>1000))))=true→M.length≤4611686018427387904→MK aw ay J M ar)
theorem XK (J:aB) (M:(List Event)):b3 Try.prog 39 [.agg (a8 false J),bo eE M] (eJ (fT false) (lY J M)):=(fun(aw:Nat→(List cP)→Bool→(List Bool)→(List aN)→(List aa)→Int→Prop) (ay:Nat→(List cP)→Bool→(List Bool)→(List aN)→(List aa)→Int→Nat) (h:MG J M (lY J M) aw ay)=>b3.run (ps:=[.dW,(.l .iS)]) (rs:=[(.l .done)]) (x:=(J,M,())) (r:=((lY J M),())) ⟨44,eN,[XU,Xq,Xw,X6]⟩ ⟨[],[],[],[]⟩ (.lp [(0,6,.done)] [2,5,20,21] [(5,4),(2,5)] [.nat,(.l .done),.bool,(.l .bool),(.l .g6),(.l .held),.int] [bY 0,bY 0,fB 5 0,fB 5 1,fB 5 2,fB 5 3,22] (fun a_=>[(6,.ref 0 a_.1 a_.2.1.length false),(22,.i .i64 a_.2.2.2.2.2.2.1),(fB 5 0,.b (.v a_.2.2.1)),(fB 5 1,.l .bool a_.2.2.2.1 false true),(fB 5 2,.l .g6 a_.2.2.2.2.1 false true),(fB 5 3,.l .held a_.2.2.2.2.2.1 false true),(bY 0,.blk a_.1 .done a_.2.1 _ rfl)]) (fun a_=>aw a_.1 a_.2.1 a_.2.2.1 a_.2.2.2.1 a_.2.2.2.2.1 a_.2.2.2.2.2.1 a_.2.2.2.2.2.2.1) (fun a_=>ay a_.1 a_.2.1 a_.2.2.1 a_.2.2.2.1 a_.2.2.2.2.1 a_.2.2.2.2.2.1 a_.2.2.2.2.2.2.1) fun _=> .nil) Try.func39 h) (fun _ x a b c e v=>cg M.length (fun _=>false) v∧x=mv J (dn J) (M.take v.toNat)∧Frame.mk a b c e=kK J (dn J) (M.take v.toNat)) (fun _ _ _ _ _ _ v=>cn M.length v) (by
 unfold MG
 refine⟨fun h=> ?_,fun h aC=> ?_⟩
 ·unfold lY
  rw[if_neg]
  rintro⟨h1,h2⟩
  rw[h1] at h
  have: ¬(M.length:Int)>1000:=by omega
  simp[this] at h
 have h:dv J=true∧(M.length:Int)≤1000:=by simpa using h
 have e:lY J M=mv J (dn J) M:=by unfold lY;rw[if_pos ⟨h.1,by omega⟩]
 rw[e]
 unfold MK
 refine⟨⟨cS (de _),rfl,rfl⟩,fun g x a b c d v aM=> ?_⟩
 obtain⟨aM,rfl,aI⟩:=aM
 have qK:=aM.2.1
 have fA:=aM.1
 have jo:(mv J (dn J) (M.take v.toNat)).length=v.toNat:=by rw[Mu,List.length_take];omega
 refine⟨fun hv=>⟨by omega,?_⟩,fun hv=> ?_⟩
 ·have: ¬v<(M.length:Int):=by simpa using hv
  rw[List.take_of_length_le (by omega)]
 have b4:=b8 aM hv
 have bd:=cq (ci aC) aM hv rfl
 have yy:gK (kK J (dn J) (M.take v.toNat)):=Mv _ (tu (z7 h.1))
 have pQ:M.take (IntKind.i64.wrap (v+1)).toNat=M.take v.toNat++[nth M v]:=by
  rw[ho (ci aC) fA (by simpa using hv),show(v+1).toNat=v.toNat+1 by omega,List.take_succ_eq_append_getElem b4.2,fv b4.2]
 have nk:=E6 J (nth M v) (M.take v.toNat) (dn J)
 unfold MJ
 rw[aI]
 refine⟨b4,yy,fun he=>⟨yy,?_⟩,fun he=> ?_⟩
 ·have he:(f_ J (kK J (dn J) (M.take v.toNat)) (nth M v)).code=1:=by simpa using he
  have hs:lZ J (kK J (dn J) (M.take v.toNat)) (nth M v)=⟨(f_ J (kK J (dn J) (M.take v.toNat)) (nth M v)).code,kK J (dn J) (M.take v.toNat)⟩:=by unfold lZ;rw[if_pos he]
  unfold MH
  rw[aI]
  refine⟨⟨by simp only[List.length_singleton];omega,by simp only[List.length_singleton];omega⟩,⟨bd.1,?_,?_⟩,bd.2⟩
  ·rw[pQ,nk.1,hs];rfl
  ·rw[pQ,nk.2,hs];rfl
 ·have he: ¬(f_ J (kK J (dn J) (M.take v.toNat)) (nth M v)).code=1:=by simpa using he
  have hs:lZ J (kK J (dn J) (M.take v.toNat)) (nth M v)=f_ J (kK J (dn J) (M.take v.toNat)) (nth M v):=by unfold lZ;rw[if_neg he]
  unfold MI
  rw[aI]
  refine⟨⟨by simp only[List.length_singleton];omega,by simp only[List.length_singleton];omega⟩,⟨bd.1,?_,?_⟩,bd.2⟩
  ·rw[pQ,nk.1,hs]
  ·rw[pQ,nk.2,hs])
end Go.Proofs.Ytglpfccgmfhkdaa.Fw
/- Walks and summaries of functions, printed by a program of mine (tools/mk2.py), with the proofs of what they owe. -/
set_option linter.unusedVariables false
set_option maxRecDepth 100000
set_option maxHeartbeats 4000000
set_option linter.unusedSimpArgs false
namespace Go.Proofs.Ytglpfccgmfhkdaa.Fw
open Go
attribute [local irreducible] evS evSD WpS Weak Oper.looksAt
def UN:List Item:=[au 0,au 1,au 2,au 3,au 4,au 5,au 6,au 7,au 8]
def UO:List (List Nat):=[[],[],[0,1],[0,1,2],[],[],[4,5],[4,5,6],rg 0 8]
def Kl (aw:Int→Prop) (ay:Int→Nat) (J M:(List Bool)) (ar:Bool):Prop:=
  ((J.length≤4611686018427387904)∧(M.length≤4611686018427387904)→((J.length:Int) !=(M.length:Int))=true→false=ar)∧((J.length≤4611686018427387904)∧(M.length≤4611686018427387904)∧((!((J.length:Int) !=(M.length:Int)))=true)→aw 0∧ ∀(bi:Int),aw bi→(((decide (bi<(J.length:Int)))=false→true=ar)∧((decide (bi<(J.length:Int)))=true→(((0≤bi∧bi.toNat<J.length)∧(0≤bi∧bi.toNat<M.length))∧(((nth J bi) !=(nth M bi))=true→false=ar))∧((!((nth J bi) !=(nth M bi)))=true→aw (IntKind.i64.wrap (bi+1))∧ay (IntKind.i64.wrap (bi+1))<ay bi))))
def Kk (J:(List Bool)) (M:(List Bool)) (ar:Bool) (aw:Int→Prop) (ay:Int→Nat):Prop:=
 Kl aw ay J M ar
theorem UL (J:(List Bool)) (M:(List Bool)):b3 Try.prog 135 [bo aH J,bo aH M] (ah (eqv J M)):=(fun(aw:Int→Prop) (ay:Int→Nat) (h:Kk J M (eqv J M) aw ay)=>b3.run (ps:=[(.l .bool),(.l .bool)]) (rs:=[.bool]) (x:=(J,M,())) (r:=((eqv J M),())) ⟨26,eN,[]⟩ ⟨[12],[(6,UN,UO)],[],[]⟩ (e1 [0,1,12] [] 13 aw ay fun _=> .nil) Try.func135 h) (cg J.length (fun v=>nth J v !=nth M v)) (cn J.length) (by
 unfold Kk Kl
 exact Qb (ne:=fun v=>nth J v !=nth M v) (fun v=>by simp[eqv]))
def UM:ev Try.prog:=⟨135,[(.l .bool),(.l .bool)],[.bool],none,fun x=>((eqv x.1 x.2.1),()),fun x h=>UL x.1 x.2.1⟩
def UU:List Item:=[au 0,au 1,au 2,au 3,au 4,au 5,au 6,au 7,au 8,au 9,au 10]
def UW:List (List Nat):=[[],[0],[],[0,1,2],rg 0 4,[],[5],[],[5,6,7],rg 5 9,rg 0 10]
def Ks (J M:Frame) (ar:Bool) (eC:Int):Prop:=
  (0≤eC∧eC.toNat<J.ways.length)∧((0≤eC∧eC.toNat<M.ways.length)∧(((((nth J.ways eC).state) !=((nth M.ways eC).state)) || ((((nth J.ways eC).gone) !=((nth M.ways eC).gone)) || ((((nth J.ways eC).shown) !=((nth M.ways eC).shown)) || ((((nth J.ways eC).timer) !=((nth M.ways eC).timer)) || (!(eqv ((nth J.ways eC).been) ((nth M.ways eC).been)))))))=true→false=ar))
def Kt (aW:Int→Int→Prop) (aX:Int→Int→Nat) (J M:Frame) (ar:Bool) (hG eC:Int):Prop:=
  (Ks J M ar eC)∧((!((((nth J.ways eC).state) !=((nth M.ways eC).state)) || ((((nth J.ways eC).gone) !=((nth M.ways eC).gone)) || ((((nth J.ways eC).shown) !=((nth M.ways eC).shown)) || ((((nth J.ways eC).timer) !=((nth M.ways eC).timer)) || (!(eqv ((nth J.ways eC).been) ((nth M.ways eC).been))))))))=true→aW hG (IntKind.i64.wrap (eC+1))∧aX hG (IntKind.i64.wrap (eC+1))<aX hG eC)
def Ku (aw:Int→Prop) (ay:Int→Nat) (J M:Frame) (ar:Bool) (hG:Int):Prop:=
  (((0≤hG∧hG.toNat<J.ak.length)∧(0≤hG∧hG.toNat<M.ak.length))∧((!(((nth J.ak hG).want)==((nth M.ak hG).want)&&((nth J.ak hG).aZ)==((nth M.ak hG).aZ)))=true→false=ar))∧((!(!(((nth J.ak hG).want)==((nth M.ak hG).want)&&((nth J.ak hG).aZ)==((nth M.ak hG).aZ))))=true→aw (IntKind.i64.wrap (hG+1))∧ay (IntKind.i64.wrap (hG+1))<ay hG)
def Kv (aw:Int→Prop) (ay:Int→Nat) (aW:Int→Int→Prop) (aX:Int→Int→Nat) (J M:Frame) (ar:Bool):Prop:=
  aw 0∧ ∀(hG:Int),aw hG→(((decide (hG<(J.ak.length:Int)))=false→J.ways.length≤4611686018427387904→aW hG 0∧ ∀(eC:Int),aW hG eC→(((decide (eC<(J.ways.length:Int)))=false→true=ar)∧((decide (eC<(J.ways.length:Int)))=true→Kt aW aX J M ar hG eC)))∧((decide (hG<(J.ak.length:Int)))=true→Ku aw ay J M ar hG))
def Kw (aw:Int→Prop) (ay:Int→Nat) (aW:Int→Int→Prop) (aX:Int→Int→Nat) (J M:Frame) (ar:Bool):Prop:=
  (((J.ok !=M.ok) || ((!(eqv J.al M.al)) || (((J.ak.length:Int) !=(M.ak.length:Int)) || ((J.ways.length:Int) !=(M.ways.length:Int)))))=true→false=ar)∧((!((J.ok !=M.ok) || ((!(eqv J.al M.al)) || (((J.ak.length:Int) !=(M.ak.length:Int)) || ((J.ways.length:Int) !=(M.ways.length:Int))))))=true→J.ak.length≤4611686018427387904→Kv aw ay aW aX J M ar)
def Kr (J:Frame) (M:Frame) (ar:Bool) (aw:Int→Prop) (ay:Int→Nat) (aW:Int→Int→Prop) (aX:Int→Int→Nat):Prop:=
 Kw aw ay aW aX J M ar
theorem US (J:Frame) (M:Frame):b3 Try.prog 91 [.agg (bS false J),.agg (bS false M)] (ah (eqv J M)):=(fun(aw:Int→Prop) (ay:Int→Nat) (aW:Int→Int→Prop) (aX:Int→Int→Nat) (h:Kr J M (eqv J M) aw ay aW aX)=>b3.run (ps:=[.frame,.frame]) (rs:=[.bool]) (x:=(J,M,())) (r:=((eqv J M),())) ⟨109,eN,[UM]⟩ ⟨[],[(6,UU,UW)],[],[]⟩ (e1 [2,3,42] [(3,4),(2,4)] 43 aw ay fun a_=>(e1 [2,3,60] [(3,4),(2,4)] 61 (aW a_) (aX a_) fun _=> .nil)) Try.func91 h) (cg J.ak.length (fun v=> !(eqv (nth J.ak v) (nth M.ak v)))) (cn J.ak.length) (fun _=>cg J.ways.length (fun v=> !(eqv (nth J.ways v) (nth M.ways v)))) (fun _=>cn J.ways.length) (by
 unfold Kr Kw
 refine⟨fun aj=>xV fun e=>by rw[e] at aj;simp[eqv] at aj,fun aj aC=> ?_⟩
 have aj:J.ok=M.ok∧J.al=M.al∧J.ak.length=M.ak.length∧J.ways.length=M.ways.length:=by
  simp only[Bool.not_eq_true',Bool.or_eq_false_iff,bne_eq_false_iff_eq,eqv,Bool.not_eq_false',decide_eq_true_eq] at aj
  exact⟨aj.1,aj.2.1,by omega,by omega⟩
 obtain⟨q1,q2,q3,q4⟩:=aj
 have no:J≠M→false=eqv J M:=xV
 unfold Kv
 refine⟨cS (de _),fun v aM=>⟨fun hv hm=> ?_,fun hv=> ?_⟩⟩
 ·have tn:J.ak=M.ak:=uR q3 fun j cr eQ=>by
   have aj:(!(eqv (nth J.ak j) (nth M.ak j)))=false:=ga aM hv j cr eQ
   simpa[eqv] using aj
  refine⟨cS (de _),fun u cu=>⟨fun hu=>Hn ?_,fun hu=> ?_⟩⟩
  ·have HA:J.ways=M.ways:=uR q4 fun j cr eQ=>by
    have aj:(!(eqv (nth J.ways j) (nth M.ways j)))=false:=ga cu hu j cr eQ
    simpa[eqv] using aj
   cases J;cases M
   simp only at q1 q2 tn HA
   subst q1;subst q2;subst tn;subst HA;rfl
  ·have b4:=b8 cu hu
   unfold Kt Ks
   refine⟨⟨b4,⟨by omega,by omega⟩,fun aj=>no fun e=> ?_⟩,fun aj=>cq (ci hm) cu hu ?_⟩
   ·exact KR.1 aj (by rw[e])
   ·show(!(eqv (nth J.ways u) (nth M.ways u)))=false
    by_cases e:nth J.ways u=nth M.ways u
    ·simp[eqv,e]
    ·rw[KR.2 e] at aj;cases aj
 ·have b4:=b8 aM hv
  unfold Ku
  refine⟨⟨⟨b4,by omega,by omega⟩,fun aj=>no fun e=> ?_⟩,fun aj=>cq (ci aC) aM hv ?_⟩
  ·exact KS.1 aj (by rw[e])
  ·show(!(eqv (nth J.ak v) (nth M.ak v)))=false
   by_cases e:nth J.ak v=nth M.ak v
   ·simp[eqv,e]
   ·rw[KS.2 e] at aj;cases aj)
def UT:ev Try.prog:=⟨91,[.frame,.frame],[.bool],none,fun x=>((eqv x.1 x.2.1),()),fun x h=>US x.1 x.2.1⟩
def UQ:List Item:=[au 0,au 1,au 2,au 3,au 4,au 5,au 6,au 7,au 8,au 9,au 10,au 11,au 12,au 13,au 14,au 15,au 16,au 17,au 18,au 19,au 20,au 21,au 22,au 23,au 24]
def UR:List (List Nat):=[[],[],[0,1],[0,1,2],rg 0 4,[],[],[5,6],[5,6,7],rg 5 9,rg 0 10,rg 0 11,rg 0 12,rg 0 12,rg 0 14,rg 0 15,rg 0 16,rg 0 12,rg 0 12,rg 0 12++[17,18],rg 0 12++[17,18,19],rg 0 12++rg 17 21,rg 0 22,rg 0 23,rg 0 24]
def Ko (aw:Int→Prop) (ay:Int→Nat) (J M:(List cP)) (ar:Bool) (bi:Int):Prop:=
  (((0≤bi∧bi.toNat<J.length)∧((0≤bi∧bi.toNat<M.length)∧((((nth J bi).code) !=((nth M bi).code))=false→(0≤bi∧bi.toNat<J.length)∧(0≤bi∧bi.toNat<M.length))))∧(((((nth J bi).code) !=((nth M bi).code)) || (!(eqv ((nth J bi).frame) ((nth M bi).frame))))=true→false=ar))∧((!((((nth J bi).code) !=((nth M bi).code)) || (!(eqv ((nth J bi).frame) ((nth M bi).frame)))))=true→aw (IntKind.i64.wrap (bi+1))∧ay (IntKind.i64.wrap (bi+1))<ay bi)
def Kq (aw:Int→Prop) (ay:Int→Nat) (J M:(List cP)) (ar:Bool):Prop:=
  ((J.length≤4611686018427387904)∧(M.length≤4611686018427387904)→((J.length:Int) !=(M.length:Int))=true→false=ar)∧((J.length≤4611686018427387904)∧(M.length≤4611686018427387904)∧((!((J.length:Int) !=(M.length:Int)))=true)→aw 0∧ ∀(bi:Int),aw bi→(((decide (bi<(J.length:Int)))=false→true=ar)∧((decide (bi<(J.length:Int)))=true→Ko aw ay J M ar bi)))
def Kn (J:(List cP)) (M:(List cP)) (ar:Bool) (aw:Int→Prop) (ay:Int→Nat):Prop:=
 Kq aw ay J M ar
theorem UP (J:(List cP)) (M:(List cP)):b3 Try.prog 38 [bo (fT false) J,bo (fT false) M] (ah (eqv J M)):=(fun(aw:Int→Prop) (ay:Int→Nat) (h:Kn J M (eqv J M) aw ay)=>b3.run (ps:=[(.l .done),(.l .done)]) (rs:=[.bool]) (x:=(J,M,())) (r:=((eqv J M),())) ⟨42,eN,[UT]⟩ ⟨[12],[(6,UQ,UR)],[],[]⟩ (e1 [0,1,12] [] 13 aw ay fun _=> .nil) Try.func38 h) (cg J.length (fun v=> !(eqv (nth J v) (nth M v)))) (cn J.length) (by
 unfold Kn Kq
 refine⟨fun _ h=>xV fun e=>by rw[e] at h;simp at h,fun⟨h1,h2,aS⟩=> ?_⟩
 have aI:J.length=M.length:=by
  have:(J.length:Int)=M.length:=by simpa using aS
  omega
 refine⟨cS (de _),fun v aM=>⟨fun hv=> ?_,fun hv=> ?_⟩⟩
 ·exact Hn (uR aI fun j cr eQ=>by
   have aj:(!(eqv (nth J j) (nth M j)))=false:=ga aM hv j cr eQ
   simpa[eqv] using aj)
 have b4:=b8 aM hv
 have vS:0≤v∧v.toNat<M.length:=by omega
 unfold Ko
 refine⟨⟨⟨b4,vS,fun _=>⟨b4,vS⟩⟩,fun aj=>xV fun e=> ?_⟩,fun aj=>cq (ci h1) aM hv ?_⟩
 ·exact KQ.1 aj (by rw[e])
 ·show(!(eqv (nth J v) (nth M v)))=false
  by_cases e:nth J v=nth M v
  ·simp[eqv,e]
  ·rw[KQ.2 e] at aj;cases aj)
end Go.Proofs.Ytglpfccgmfhkdaa.Fw
/- Walks and summaries of functions, printed by a program of mine (tools/mk2.py), with the proofs of what they owe. -/
set_option linter.unusedVariables false
set_option maxRecDepth 100000
set_option maxHeartbeats 4000000
set_option linter.unusedSimpArgs false
namespace Go.Proofs.Ytglpfccgmfhkdaa.Fw
open Go
attribute [local irreducible] evS evSD WpS Weak Oper.looksAt
noncomputable def UJ:Code:=hM Try.f8
def C9 (jE:Nat→(List Event)→Int→Int→Nat→(List Event)→Int→Nat→(List Event)→Nat→(List Event)→Prop) (J:(List UInt8)) (aR:Nat) (aA:(List Event)) (bP cl:Int) (gn:Nat) (gl:(List Event)) (k0:Nat) (kP:(List Event)) (bi:Int):Prop:=
  ((decide (bi ≥ (IntKind.i64.wrap (1+((af J 2).tmod 2)))))=true→((kP.length+[(Event.mk 4 (IntKind.i64.wrap (bi - (IntKind.i64.wrap (1+((af J 2).tmod 2))))) 0)].length)*24≤140737488355328∧kP.length+[(Event.mk 4 (IntKind.i64.wrap (bi - (IntKind.i64.wrap (1+((af J 2).tmod 2))))) 0)].length≤4611686018427387904)∧(jE aR aA bP cl gn gl bi k0 kP (k0+1) (kP++[(Event.mk 4 (IntKind.i64.wrap (bi - (IntKind.i64.wrap (1+((af J 2).tmod 2))))) 0)])))∧((decide (bi ≥ (IntKind.i64.wrap (1+((af J 2).tmod 2)))))=false→jE aR aA bP cl gn gl bi k0 kP k0 kP)
def Dj (J:(List UInt8)) (ar:Bool) (bM:(List Event)):Prop:=
  ((((nth (bw (bk (IntKind.i64.wrap (2+((af J 0).tmod 7))) ((af J 1).tmod (IntKind.i64.wrap ((IntKind.i64.wrap (2+((af J 0).tmod 7)))+1))) 5) bM) (IntKind.i64.wrap (((bw (bk (IntKind.i64.wrap (2+((af J 0).tmod 7))) ((af J 1).tmod (IntKind.i64.wrap ((IntKind.i64.wrap (2+((af J 0).tmod 7)))+1))) 5) bM).length:Int) - 1))).frame.ways).length:Int) !=1)=true→false=ar
def Dk (J:(List UInt8)) (ar:Bool) (bM:(List Event)):Prop:=
  ((((nth ((nth (bw (bk (IntKind.i64.wrap (2+((af J 0).tmod 7))) ((af J 1).tmod (IntKind.i64.wrap ((IntKind.i64.wrap (2+((af J 0).tmod 7)))+1))) 5) bM) (IntKind.i64.wrap (((bw (bk (IntKind.i64.wrap (2+((af J 0).tmod 7))) ((af J 1).tmod (IntKind.i64.wrap ((IntKind.i64.wrap (2+((af J 0).tmod 7)))+1))) 5) bM).length:Int) - 1))).frame.ways) 0).state)==0)&&(eqv (bw (bk (IntKind.i64.wrap (2+((af J 0).tmod 7))) ((af J 1).tmod (IntKind.i64.wrap ((IntKind.i64.wrap (2+((af J 0).tmod 7)))+1))) 5) bM) (lY (bk (IntKind.i64.wrap (2+((af J 0).tmod 7))) ((af J 1).tmod (IntKind.i64.wrap ((IntKind.i64.wrap (2+((af J 0).tmod 7)))+1))) 5) bM)))=ar
def Dl (J:(List UInt8)) (ar:Bool) (bi:Int) (bM:(List Event)):Prop:=
  ((bif (decide ((IntKind.i64.wrap ((IntKind.i64.wrap (bi - (IntKind.i64.wrap (1+((af J 2).tmod 2)))))+1))<0)) then 0 else(IntKind.i64.wrap ((IntKind.i64.wrap (bi - (IntKind.i64.wrap (1+((af J 2).tmod 2)))))+1)))==(IntKind.i64.wrap (2+((af J 0).tmod 7))))=true→(((0:Int)≤0∧(0:Int).toNat<((nth (bw (bk (IntKind.i64.wrap (2+((af J 0).tmod 7))) ((af J 1).tmod (IntKind.i64.wrap ((IntKind.i64.wrap (2+((af J 0).tmod 7)))+1))) 5) bM) (IntKind.i64.wrap (((bw (bk (IntKind.i64.wrap (2+((af J 0).tmod 7))) ((af J 1).tmod (IntKind.i64.wrap ((IntKind.i64.wrap (2+((af J 0).tmod 7)))+1))) 5) bM).length:Int) - 1))).frame.ways).length)∧((((nth ((nth (bw (bk (IntKind.i64.wrap (2+((af J 0).tmod 7))) ((af J 1).tmod (IntKind.i64.wrap ((IntKind.i64.wrap (2+((af J 0).tmod 7)))+1))) 5) bM) (IntKind.i64.wrap (((bw (bk (IntKind.i64.wrap (2+((af J 0).tmod 7))) ((af J 1).tmod (IntKind.i64.wrap ((IntKind.i64.wrap (2+((af J 0).tmod 7)))+1))) 5) bM).length:Int) - 1))).frame.ways) 0).state)==0)=true→bM.length≤4611686018427387904))∧(Dk J ar bM)
def Dm (bG:Nat→(List Event)→Int→Int→Nat→(List Event)→Int→Prop) (bE:Nat→(List Event)→Int→Int→Nat→(List Event)→Int→Nat) (J:(List UInt8)) (ar:Bool) (aR:Nat) (aA:(List Event)) (bP cl:Int) (gn:Nat) (gl:(List Event)) (bi:Int) (ku:Nat) (bM:(List Event)):Prop:=
  (((((nth ((nth (bw (bk (IntKind.i64.wrap (2+((af J 0).tmod 7))) ((af J 1).tmod (IntKind.i64.wrap ((IntKind.i64.wrap (2+((af J 0).tmod 7)))+1))) 5) bM) (IntKind.i64.wrap (((bw (bk (IntKind.i64.wrap (2+((af J 0).tmod 7))) ((af J 1).tmod (IntKind.i64.wrap ((IntKind.i64.wrap (2+((af J 0).tmod 7)))+1))) 5) bM).length:Int) - 1))).frame.ways) 0).state) !=4) || (((nth ((nth (bw (bk (IntKind.i64.wrap (2+((af J 0).tmod 7))) ((af J 1).tmod (IntKind.i64.wrap ((IntKind.i64.wrap (2+((af J 0).tmod 7)))+1))) 5) bM) (IntKind.i64.wrap (((bw (bk (IntKind.i64.wrap (2+((af J 0).tmod 7))) ((af J 1).tmod (IntKind.i64.wrap ((IntKind.i64.wrap (2+((af J 0).tmod 7)))+1))) 5) bM).length:Int) - 1))).frame.ways) 0).gone) !=(bif (decide ((IntKind.i64.wrap ((IntKind.i64.wrap (bi - (IntKind.i64.wrap (1+((af J 2).tmod 2)))))+1))<0)) then 0 else(IntKind.i64.wrap ((IntKind.i64.wrap (bi - (IntKind.i64.wrap (1+((af J 2).tmod 2)))))+1)))))=true→false=ar)∧(((((nth ((nth (bw (bk (IntKind.i64.wrap (2+((af J 0).tmod 7))) ((af J 1).tmod (IntKind.i64.wrap ((IntKind.i64.wrap (2+((af J 0).tmod 7)))+1))) 5) bM) (IntKind.i64.wrap (((bw (bk (IntKind.i64.wrap (2+((af J 0).tmod 7))) ((af J 1).tmod (IntKind.i64.wrap ((IntKind.i64.wrap (2+((af J 0).tmod 7)))+1))) 5) bM).length:Int) - 1))).frame.ways) 0).state) !=4) || (((nth ((nth (bw (bk (IntKind.i64.wrap (2+((af J 0).tmod 7))) ((af J 1).tmod (IntKind.i64.wrap ((IntKind.i64.wrap (2+((af J 0).tmod 7)))+1))) 5) bM) (IntKind.i64.wrap (((bw (bk (IntKind.i64.wrap (2+((af J 0).tmod 7))) ((af J 1).tmod (IntKind.i64.wrap ((IntKind.i64.wrap (2+((af J 0).tmod 7)))+1))) 5) bM).length:Int) - 1))).frame.ways) 0).gone) !=(bif (decide ((IntKind.i64.wrap ((IntKind.i64.wrap (bi - (IntKind.i64.wrap (1+((af J 2).tmod 2)))))+1))<0)) then 0 else(IntKind.i64.wrap ((IntKind.i64.wrap (bi - (IntKind.i64.wrap (1+((af J 2).tmod 2)))))+1)))))=false→bG aR aA bP cl ku bM (IntKind.i64.wrap (bi+1))∧bE aR aA bP cl ku bM (IntKind.i64.wrap (bi+1))<bE aR aA bP cl gn gl bi)
def Dn (bG:Nat→(List Event)→Int→Int→Nat→(List Event)→Int→Prop) (bE:Nat→(List Event)→Int→Int→Nat→(List Event)→Int→Nat) (J:(List UInt8)) (ar:Bool) (aR:Nat) (aA:(List Event)) (bP cl:Int) (gn:Nat) (gl:(List Event)) (bi:Int) (ku:Nat) (bM:(List Event)):Prop:=
  (((0:Int)≤0∧(0:Int).toNat<((nth (bw (bk (IntKind.i64.wrap (2+((af J 0).tmod 7))) ((af J 1).tmod (IntKind.i64.wrap ((IntKind.i64.wrap (2+((af J 0).tmod 7)))+1))) 5) bM) (IntKind.i64.wrap (((bw (bk (IntKind.i64.wrap (2+((af J 0).tmod 7))) ((af J 1).tmod (IntKind.i64.wrap ((IntKind.i64.wrap (2+((af J 0).tmod 7)))+1))) 5) bM).length:Int) - 1))).frame.ways).length)∧((((nth ((nth (bw (bk (IntKind.i64.wrap (2+((af J 0).tmod 7))) ((af J 1).tmod (IntKind.i64.wrap ((IntKind.i64.wrap (2+((af J 0).tmod 7)))+1))) 5) bM) (IntKind.i64.wrap (((bw (bk (IntKind.i64.wrap (2+((af J 0).tmod 7))) ((af J 1).tmod (IntKind.i64.wrap ((IntKind.i64.wrap (2+((af J 0).tmod 7)))+1))) 5) bM).length:Int) - 1))).frame.ways) 0).state) !=4)=false→(0:Int)≤0∧(0:Int).toNat<((nth (bw (bk (IntKind.i64.wrap (2+((af J 0).tmod 7))) ((af J 1).tmod (IntKind.i64.wrap ((IntKind.i64.wrap (2+((af J 0).tmod 7)))+1))) 5) bM) (IntKind.i64.wrap (((bw (bk (IntKind.i64.wrap (2+((af J 0).tmod 7))) ((af J 1).tmod (IntKind.i64.wrap ((IntKind.i64.wrap (2+((af J 0).tmod 7)))+1))) 5) bM).length:Int) - 1))).frame.ways).length))∧(Dm bG bE J ar aR aA bP cl gn gl bi ku bM)
def Dp (bG:Nat→(List Event)→Int→Int→Nat→(List Event)→Int→Prop) (bE:Nat→(List Event)→Int→Int→Nat→(List Event)→Int→Nat) (J:(List UInt8)) (ar:Bool) (aR:Nat) (aA:(List Event)) (bP cl:Int) (gn:Nat) (gl:(List Event)) (bi:Int) (ku:Nat) (bM:(List Event)):Prop:=
  (((nth (bw (bk (IntKind.i64.wrap (2+((af J 0).tmod 7))) ((af J 1).tmod (IntKind.i64.wrap ((IntKind.i64.wrap (2+((af J 0).tmod 7)))+1))) 5) bM) (IntKind.i64.wrap (((bw (bk (IntKind.i64.wrap (2+((af J 0).tmod 7))) ((af J 1).tmod (IntKind.i64.wrap ((IntKind.i64.wrap (2+((af J 0).tmod 7)))+1))) 5) bM).length:Int) - 1))).frame.ways).length≤4611686018427387904→Dj J ar bM)∧((((nth (bw (bk (IntKind.i64.wrap (2+((af J 0).tmod 7))) ((af J 1).tmod (IntKind.i64.wrap ((IntKind.i64.wrap (2+((af J 0).tmod 7)))+1))) 5) bM) (IntKind.i64.wrap (((bw (bk (IntKind.i64.wrap (2+((af J 0).tmod 7))) ((af J 1).tmod (IntKind.i64.wrap ((IntKind.i64.wrap (2+((af J 0).tmod 7)))+1))) 5) bM).length:Int) - 1))).frame.ways).length≤4611686018427387904)∧((!((((nth (bw (bk (IntKind.i64.wrap (2+((af J 0).tmod 7))) ((af J 1).tmod (IntKind.i64.wrap ((IntKind.i64.wrap (2+((af J 0).tmod 7)))+1))) 5) bM) (IntKind.i64.wrap (((bw (bk (IntKind.i64.wrap (2+((af J 0).tmod 7))) ((af J 1).tmod (IntKind.i64.wrap ((IntKind.i64.wrap (2+((af J 0).tmod 7)))+1))) 5) bM).length:Int) - 1))).frame.ways).length:Int) !=1))=true)→(Dl J ar bi bM)∧((!((bif (decide ((IntKind.i64.wrap ((IntKind.i64.wrap (bi - (IntKind.i64.wrap (1+((af J 2).tmod 2)))))+1))<0)) then 0 else(IntKind.i64.wrap ((IntKind.i64.wrap (bi - (IntKind.i64.wrap (1+((af J 2).tmod 2)))))+1)))==(IntKind.i64.wrap (2+((af J 0).tmod 7)))))=true→Dn bG bE J ar aR aA bP cl gn gl bi ku bM))
def Dq (bG:Nat→(List Event)→Int→Int→Nat→(List Event)→Int→Prop) (bE:Nat→(List Event)→Int→Int→Nat→(List Event)→Int→Nat) (J:(List UInt8)) (ar:Bool) (aR:Nat) (aA:(List Event)) (bP cl:Int) (gn:Nat) (gl:(List Event)) (bi:Int) (ku:Nat) (bM:(List Event)):Prop:=
  ((bw (bk (IntKind.i64.wrap (2+((af J 0).tmod 7))) ((af J 1).tmod (IntKind.i64.wrap ((IntKind.i64.wrap (2+((af J 0).tmod 7)))+1))) 5) bM).length≤4611686018427387904→0≤(IntKind.i64.wrap (((bw (bk (IntKind.i64.wrap (2+((af J 0).tmod 7))) ((af J 1).tmod (IntKind.i64.wrap ((IntKind.i64.wrap (2+((af J 0).tmod 7)))+1))) 5) bM).length:Int) - 1))∧(IntKind.i64.wrap (((bw (bk (IntKind.i64.wrap (2+((af J 0).tmod 7))) ((af J 1).tmod (IntKind.i64.wrap ((IntKind.i64.wrap (2+((af J 0).tmod 7)))+1))) 5) bM).length:Int) - 1)).toNat<(bw (bk (IntKind.i64.wrap (2+((af J 0).tmod 7))) ((af J 1).tmod (IntKind.i64.wrap ((IntKind.i64.wrap (2+((af J 0).tmod 7)))+1))) 5) bM).length)∧((bw (bk (IntKind.i64.wrap (2+((af J 0).tmod 7))) ((af J 1).tmod (IntKind.i64.wrap ((IntKind.i64.wrap (2+((af J 0).tmod 7)))+1))) 5) bM).length≤4611686018427387904→Dp bG bE J ar aR aA bP cl gn gl bi ku bM)
def Dr (bG:Nat→(List Event)→Int→Int→Nat→(List Event)→Int→Prop) (bE:Nat→(List Event)→Int→Int→Nat→(List Event)→Int→Nat) (cz:Nat→(List Event)→Int→Int→Nat→(List Event)→Int→Nat→(List Event)→Prop) (jE:Nat→(List Event)→Int→Int→Nat→(List Event)→Int→Nat→(List Event)→Nat→(List Event)→Prop) (J:(List UInt8)) (ar:Bool) (aR:Nat) (aA:(List Event)) (bP cl:Int) (gn:Nat) (gl:(List Event)) (bi:Int):Prop:=
  (((decide (bi<(IntKind.i64.wrap (2+((af J 0).tmod 7)))))=true→((gl.length+[(Event.mk 3 bi 0)].length)*24≤140737488355328∧gl.length+[(Event.mk 3 bi 0)].length≤4611686018427387904)∧(cz aR aA bP cl gn gl bi (gn+1) (gl++[(Event.mk 3 bi 0)])))∧((decide (bi<(IntKind.i64.wrap (2+((af J 0).tmod 7)))))=false→cz aR aA bP cl gn gl bi gn gl))∧(∀(k0:Nat) (kP:(List Event)),cz aR aA bP cl gn gl bi k0 kP→((C9 jE J aR aA bP cl gn gl k0 kP bi)∧(∀(ku:Nat) (bM:(List Event)),jE aR aA bP cl gn gl bi k0 kP ku bM→((bM.length≤4611686018427387904)∧(Dq bG bE J ar aR aA bP cl gn gl bi ku bM)))))
def C_ (bG:Nat→(List Event)→Int→Int→Nat→(List Event)→Int→Prop) (bE:Nat→(List Event)→Int→Int→Nat→(List Event)→Int→Nat) (cz:Nat→(List Event)→Int→Int→Nat→(List Event)→Int→Nat→(List Event)→Prop) (jE:Nat→(List Event)→Int→Int→Nat→(List Event)→Int→Nat→(List Event)→Nat→(List Event)→Prop) (J:(List UInt8)) (ar:Bool) (aR:Nat) (aA:(List Event)) (bP cl:Int):Prop:=
  bG aR aA bP cl aR aA 0∧ ∀(gn:Nat) (gl:(List Event)) (bi:Int),bG aR aA bP cl gn gl bi→(((decide (bi<(IntKind.i64.wrap ((IntKind.i64.wrap (2+((af J 0).tmod 7)))+(IntKind.i64.wrap (1+((af J 2).tmod 2)))))))=false→false=ar)∧((decide (bi<(IntKind.i64.wrap ((IntKind.i64.wrap (2+((af J 0).tmod 7)))+(IntKind.i64.wrap (1+((af J 2).tmod 2)))))))=true→Dr bG bE cz jE J ar aR aA bP cl gn gl bi))
def Da (J:(List UInt8)) (ar:Bool) (aA:(List Event)) (cl:Int):Prop:=
  ((((nth (bw (bk (IntKind.i64.wrap (2+((af J 0).tmod 7))) ((af J 1).tmod (IntKind.i64.wrap ((IntKind.i64.wrap (2+((af J 0).tmod 7)))+1))) 5) aA) cl).code) !=0) || (((((nth (bw (bk (IntKind.i64.wrap (2+((af J 0).tmod 7))) ((af J 1).tmod (IntKind.i64.wrap ((IntKind.i64.wrap (2+((af J 0).tmod 7)))+1))) 5) aA) cl).frame.ways).length:Int) !=1) || (((nth ((nth (bw (bk (IntKind.i64.wrap (2+((af J 0).tmod 7))) ((af J 1).tmod (IntKind.i64.wrap ((IntKind.i64.wrap (2+((af J 0).tmod 7)))+1))) 5) aA) cl).frame.ways) 0).state) !=(bif (cl==((af J 1).tmod (IntKind.i64.wrap ((IntKind.i64.wrap (2+((af J 0).tmod 7)))+1)))) then 2 else 1))))=true→false=ar
def Db (J:(List UInt8)) (ar:Bool) (aA:(List Event)) (cl:Int):Prop:=
  ((((nth (bw (bk (IntKind.i64.wrap (2+((af J 0).tmod 7))) ((af J 1).tmod (IntKind.i64.wrap ((IntKind.i64.wrap (2+((af J 0).tmod 7)))+1))) 5) aA) cl).code) !=0)=false→((nth (bw (bk (IntKind.i64.wrap (2+((af J 0).tmod 7))) ((af J 1).tmod (IntKind.i64.wrap ((IntKind.i64.wrap (2+((af J 0).tmod 7)))+1))) 5) aA) cl).frame.ways).length≤4611686018427387904→((((nth (bw (bk (IntKind.i64.wrap (2+((af J 0).tmod 7))) ((af J 1).tmod (IntKind.i64.wrap ((IntKind.i64.wrap (2+((af J 0).tmod 7)))+1))) 5) aA) cl).frame.ways).length:Int) !=1)=false→(0:Int)≤0∧(0:Int).toNat<((nth (bw (bk (IntKind.i64.wrap (2+((af J 0).tmod 7))) ((af J 1).tmod (IntKind.i64.wrap ((IntKind.i64.wrap (2+((af J 0).tmod 7)))+1))) 5) aA) cl).frame.ways).length)∧(Da J ar aA cl)
def Dc (aW:Nat→(List Event)→Int→Int→Prop) (aX:Nat→(List Event)→Int→Int→Nat) (J:(List UInt8)) (ar:Bool) (aR:Nat) (aA:(List Event)) (bP cl:Int):Prop:=
  ((0≤cl∧cl.toNat<(bw (bk (IntKind.i64.wrap (2+((af J 0).tmod 7))) ((af J 1).tmod (IntKind.i64.wrap ((IntKind.i64.wrap (2+((af J 0).tmod 7)))+1))) 5) aA).length)∧(Db J ar aA cl))∧((!((((nth (bw (bk (IntKind.i64.wrap (2+((af J 0).tmod 7))) ((af J 1).tmod (IntKind.i64.wrap ((IntKind.i64.wrap (2+((af J 0).tmod 7)))+1))) 5) aA) cl).code) !=0) || (((((nth (bw (bk (IntKind.i64.wrap (2+((af J 0).tmod 7))) ((af J 1).tmod (IntKind.i64.wrap ((IntKind.i64.wrap (2+((af J 0).tmod 7)))+1))) 5) aA) cl).frame.ways).length:Int) !=1) || (((nth ((nth (bw (bk (IntKind.i64.wrap (2+((af J 0).tmod 7))) ((af J 1).tmod (IntKind.i64.wrap ((IntKind.i64.wrap (2+((af J 0).tmod 7)))+1))) 5) aA) cl).frame.ways) 0).state) !=(bif (cl==((af J 1).tmod (IntKind.i64.wrap ((IntKind.i64.wrap (2+((af J 0).tmod 7)))+1)))) then 2 else 1)))))=true→aW aR aA bP (IntKind.i64.wrap (cl+1))∧aX aR aA bP (IntKind.i64.wrap (cl+1))<aX aR aA bP cl)
def Dd (aW:Nat→(List Event)→Int→Int→Prop) (aX:Nat→(List Event)→Int→Int→Nat) (bG:Nat→(List Event)→Int→Int→Nat→(List Event)→Int→Prop) (bE:Nat→(List Event)→Int→Int→Nat→(List Event)→Int→Nat) (cz:Nat→(List Event)→Int→Int→Nat→(List Event)→Int→Nat→(List Event)→Prop) (jE:Nat→(List Event)→Int→Int→Nat→(List Event)→Int→Nat→(List Event)→Nat→(List Event)→Prop) (J:(List UInt8)) (ar:Bool) (aR:Nat) (aA:(List Event)) (bP cl:Int):Prop:=
  ((decide (cl<((bw (bk (IntKind.i64.wrap (2+((af J 0).tmod 7))) ((af J 1).tmod (IntKind.i64.wrap ((IntKind.i64.wrap (2+((af J 0).tmod 7)))+1))) 5) aA).length:Int)))=false→((((bw (bk (IntKind.i64.wrap (2+((af J 0).tmod 7))) ((af J 1).tmod (IntKind.i64.wrap ((IntKind.i64.wrap (2+((af J 0).tmod 7)))+1))) 5) aA).length:Int) !=(IntKind.i64.wrap (((af J 1).tmod (IntKind.i64.wrap ((IntKind.i64.wrap (2+((af J 0).tmod 7)))+1)))+1)))=true→false=ar)∧((!(((bw (bk (IntKind.i64.wrap (2+((af J 0).tmod 7))) ((af J 1).tmod (IntKind.i64.wrap ((IntKind.i64.wrap (2+((af J 0).tmod 7)))+1))) 5) aA).length:Int) !=(IntKind.i64.wrap (((af J 1).tmod (IntKind.i64.wrap ((IntKind.i64.wrap (2+((af J 0).tmod 7)))+1)))+1))))=true→C_ bG bE cz jE J ar aR aA bP cl))∧((decide (cl<((bw (bk (IntKind.i64.wrap (2+((af J 0).tmod 7))) ((af J 1).tmod (IntKind.i64.wrap ((IntKind.i64.wrap (2+((af J 0).tmod 7)))+1))) 5) aA).length:Int)))=true→Dc aW aX J ar aR aA bP cl)
def De (aW:Nat→(List Event)→Int→Int→Prop) (aX:Nat→(List Event)→Int→Int→Nat) (bG:Nat→(List Event)→Int→Int→Nat→(List Event)→Int→Prop) (bE:Nat→(List Event)→Int→Int→Nat→(List Event)→Int→Nat) (cz:Nat→(List Event)→Int→Int→Nat→(List Event)→Int→Nat→(List Event)→Prop) (jE:Nat→(List Event)→Int→Int→Nat→(List Event)→Int→Nat→(List Event)→Nat→(List Event)→Prop) (J:(List UInt8)) (ar:Bool) (aR:Nat) (aA:(List Event)) (bP:Int):Prop:=
  (decide (bP<((af J 1).tmod (IntKind.i64.wrap ((IntKind.i64.wrap (2+((af J 0).tmod 7)))+1)))))=false→(aA.length≤4611686018427387904)∧((bw (bk (IntKind.i64.wrap (2+((af J 0).tmod 7))) ((af J 1).tmod (IntKind.i64.wrap ((IntKind.i64.wrap (2+((af J 0).tmod 7)))+1))) 5) aA).length≤4611686018427387904→aW aR aA bP 0∧ ∀(cl:Int),aW aR aA bP cl→(Dd aW aX bG bE cz jE J ar aR aA bP cl))
def Df (aw:Nat→(List Event)→Int→Prop) (ay:Nat→(List Event)→Int→Nat) (J:(List UInt8)) (aR:Nat) (aA:(List Event)) (bP:Int):Prop:=
  aw (aR+1) (aA++[(Event.mk 5 (IntKind.i64.wrap ((IntKind.i64.wrap (((af J 1).tmod (IntKind.i64.wrap ((IntKind.i64.wrap (2+((af J 0).tmod 7)))+1))) - 1)) - bP)) 2)]) (IntKind.i64.wrap (bP+1))∧ay (aR+1) (aA++[(Event.mk 5 (IntKind.i64.wrap ((IntKind.i64.wrap (((af J 1).tmod (IntKind.i64.wrap ((IntKind.i64.wrap (2+((af J 0).tmod 7)))+1))) - 1)) - bP)) 2)]) (IntKind.i64.wrap (bP+1))<ay aR aA bP
def Dg (aw:Nat→(List Event)→Int→Prop) (ay:Nat→(List Event)→Int→Nat) (J:(List UInt8)) (aR:Nat) (aA:(List Event)) (bP:Int):Prop:=
  ((aA.length+[(Event.mk 5 (IntKind.i64.wrap ((IntKind.i64.wrap (((af J 1).tmod (IntKind.i64.wrap ((IntKind.i64.wrap (2+((af J 0).tmod 7)))+1))) - 1)) - bP)) 2)].length)*24≤140737488355328∧aA.length+[(Event.mk 5 (IntKind.i64.wrap ((IntKind.i64.wrap (((af J 1).tmod (IntKind.i64.wrap ((IntKind.i64.wrap (2+((af J 0).tmod 7)))+1))) - 1)) - bP)) 2)].length≤4611686018427387904)∧(Df aw ay J aR aA bP)
def Dh (aw:Nat→(List Event)→Int→Prop) (ay:Nat→(List Event)→Int→Nat) (aW:Nat→(List Event)→Int→Int→Prop) (aX:Nat→(List Event)→Int→Int→Nat) (bG:Nat→(List Event)→Int→Int→Nat→(List Event)→Int→Prop) (bE:Nat→(List Event)→Int→Int→Nat→(List Event)→Int→Nat) (cz:Nat→(List Event)→Int→Int→Nat→(List Event)→Int→Nat→(List Event)→Prop) (jE:Nat→(List Event)→Int→Int→Nat→(List Event)→Int→Nat→(List Event)→Nat→(List Event)→Prop) (J:(List UInt8)) (ar:Bool):Prop:=
  (KH (IntKind.i64.wrap (2+((af J 0).tmod 7))) ((af J 1).tmod (IntKind.i64.wrap ((IntKind.i64.wrap (2+((af J 0).tmod 7)))+1))) 5)∧(aw 0 ([(Event.mk 1 0 0)]:List Event) 0∧ ∀(aR:Nat) (aA:(List Event)) (bP:Int),aw aR aA bP→((De aW aX bG bE cz jE J ar aR aA bP)∧((decide (bP<((af J 1).tmod (IntKind.i64.wrap ((IntKind.i64.wrap (2+((af J 0).tmod 7)))+1)))))=true→Dg aw ay J aR aA bP)))
def Di (aw:Nat→(List Event)→Int→Prop) (ay:Nat→(List Event)→Int→Nat) (aW:Nat→(List Event)→Int→Int→Prop) (aX:Nat→(List Event)→Int→Int→Nat) (bG:Nat→(List Event)→Int→Int→Nat→(List Event)→Int→Prop) (bE:Nat→(List Event)→Int→Int→Nat→(List Event)→Int→Nat) (cz:Nat→(List Event)→Int→Int→Nat→(List Event)→Int→Nat→(List Event)→Prop) (jE:Nat→(List Event)→Int→Int→Nat→(List Event)→Int→Nat→(List Event)→Nat→(List Event)→Prop) (J:(List UInt8)) (ar:Bool):Prop:=
  (J.length≤4611686018427387904→(decide ((J.length:Int)>1048576))=true→true=ar)∧((J.length≤4611686018427387904)∧((!(decide ((J.length:Int)>1048576)))=true)→((zN J 0)∧((7:Int)≠0))∧(((zN J 1)∧((IntKind.i64.wrap ((IntKind.i64.wrap (2+((af J 0).tmod 7)))+1))≠0))∧(((zN J 2)∧((2:Int)≠0))∧(Dh aw ay aW aX bG bE cz jE J ar))))
def C8 (J:(List UInt8)) (ar:Bool) (aw:Nat→(List Event)→Int→Prop) (ay:Nat→(List Event)→Int→Nat) (aW:Nat→(List Event)→Int→Int→Prop) (aX:Nat→(List Event)→Int→Int→Nat) (bG:Nat→(List Event)→Int→Int→Nat→(List Event)→Int→Prop) (bE:Nat→(List Event)→Int→Int→Nat→(List Event)→Int→Nat) (cz:Nat→(List Event)→Int→Int→Nat→(List Event)→Int→Nat→(List Event)→Prop) (jE:Nat→(List Event)→Int→Int→Nat→(List Event)→Int→Nat→(List Event)→Nat→(List Event)→Prop):Prop:=
 Di aw ay aW aX bG bE cz jE J ar
theorem UK (J:(List UInt8)) (ar:Bool) (aw:Nat→(List Event)→Int→Prop) (ay:Nat→(List Event)→Int→Nat) (aW:Nat→(List Event)→Int→Int→Prop) (aX:Nat→(List Event)→Int→Int→Nat) (bG:Nat→(List Event)→Int→Int→Nat→(List Event)→Int→Prop) (bE:Nat→(List Event)→Int→Int→Nat→(List Event)→Int→Nat) (cz:Nat→(List Event)→Int→Int→Nat→(List Event)→Int→Nat→(List Event)→Prop) (jE:Nat→(List Event)→Int→Int→Nat→(List Event)→Int→Nat→(List Event)→Nat→(List Event)→Prop) (h:C8 J ar aw ay aW aX bG bE cz jE):b3 Try.prog 8 [bo jg J] (ah ar):=by
 unfold C8 at h
 refine dj.go (fn:=Try.f8) [(0,bo jg J)] Try.func8 ?_
 show WpS _ (bK UJ 1) _ ⟨a4 162 [(0,bo jg J)],[],[]⟩
 refine cQ [500036] 0 [(2,ah false)] [] [1] ?_
 unfold Di at h
 obtain⟨D4,h⟩:=h
 refine b0 [] [1] ((J.length≤4611686018427387904)∧((!(decide ((J.length:Int)>1048576)))=true)) ?_ (fun q2=> ?_)
 ·
  replace h:=D4
  refine b0 [(18,ah (decide ((J.length:Int)>1048576)))] [1] (J.length≤4611686018427387904) ?_ (fun q3=> ?_)
  ·
   refine bm [500036] 1 ?_
   refine sLen 2 (some 17) [(16,bo jg J)] jg J (fun q4=> ?_)
   exact bL [(18,ah (decide ((J.length:Int)>1048576)))] q4
  replace h:=h q3
  refine cN (fun cx=> ?_) (fun cx=> ?_)
  ·
   replace h:=h cx
   refine cQ [500036] 2 [(2,ah true)] [1] [] ?_
   exact e8 (bR.ret (iz (ah true) (gd.ee (iN h))))
  ·
   refine c6 ?_
   exact bR.normal ⟨q3,(by simp only[cx]<;>rfl)⟩ cW
 replace h:=h q2
 obtain⟨wL,h⟩:=h
 refine b0 [(3,ac (IntKind.i64.wrap (2+((af J 0).tmod 7))))] [1] (True) ?_ (fun et=> ?_)
 ·
  replace h:=wL
  refine bm [500036] 3 ?_
  obtain⟨eB,h⟩:=h
  refine ic 2 (some 20) [(19,bo jg J)] [bo jg J,ac 0] (Ds J 0 eB) (av.cons (ck.ee b7) (av.cons (ck.ee (.int _ _)) av.nil)) ?_
  have gU:=h
  refine ld 1 (some 21) (ac ((af J 0).tmod 7)) [] gU ?_
  exact bL [(3,ac (IntKind.i64.wrap (2+((af J 0).tmod 7)))),(22,ac (IntKind.i64.wrap (2+((af J 0).tmod 7))))] trivial
 obtain⟨wK,h⟩:=h
 refine b0 [(4,ac ((af J 1).tmod (IntKind.i64.wrap ((IntKind.i64.wrap (2+((af J 0).tmod 7)))+1))))] [2] (True) ?_ (fun fH=> ?_)
 ·
  replace h:=wK
  refine bm [500036] 4 ?_
  obtain⟨fI,h⟩:=h
  refine ic 2 (some 24) [(23,bo jg J)] [bo jg J,ac 1] (Ds J 1 fI) (av.cons (ck.ee b7) (av.cons (ck.ee (.int _ _)) av.nil)) ?_
  have gw:=h
  refine ld 3 (some 27) (ac ((af J 1).tmod (IntKind.i64.wrap ((IntKind.i64.wrap (2+((af J 0).tmod 7)))+1)))) [(26,ac (IntKind.i64.wrap ((IntKind.i64.wrap (2+((af J 0).tmod 7)))+1))),(25,ac (IntKind.i64.wrap (2+((af J 0).tmod 7))))] gw ?_
  exact bL [(4,ac ((af J 1).tmod (IntKind.i64.wrap ((IntKind.i64.wrap (2+((af J 0).tmod 7)))+1))))] trivial
 obtain⟨wJ,h⟩:=h
 refine b0 [(5,ac (IntKind.i64.wrap (1+((af J 2).tmod 2))))] [2] (True) ?_ (fun eU=> ?_)
 ·
  replace h:=wJ
  refine bm [500036] 5 ?_
  obtain⟨mq,h⟩:=h
  refine ic 2 (some 29) [(28,bo jg J)] [bo jg J,ac 2] (Ds J 2 mq) (av.cons (ck.ee b7) (av.cons (ck.ee (.int _ _)) av.nil)) ?_
  have gT:=h
  refine ld 1 (some 30) (ac ((af J 2).tmod 2)) [] gT ?_
  exact bL [(5,ac (IntKind.i64.wrap (1+((af J 2).tmod 2)))),(31,ac (IntKind.i64.wrap (1+((af J 2).tmod 2))))] trivial
 unfold Dh at h
 obtain⟨wI,h⟩:=h
 refine O_ [(6,an 6 0)] [3] [(6,(a8 true (bk (IntKind.i64.wrap (2+((af J 0).tmod 7))) ((af J 1).tmod (IntKind.i64.wrap ((IntKind.i64.wrap (2+((af J 0).tmod 7)))+1))) 5)))] [] (True) ?_ (fun h_=> ?_)
 ·
  replace h:=wI
  refine bm [500036] 6 ?_
  have fX:=h
  refine ic 3 (some 34) [(33,ac ((af J 1).tmod (IntKind.i64.wrap ((IntKind.i64.wrap (2+((af J 0).tmod 7)))+1)))),(32,ac (IntKind.i64.wrap (2+((af J 0).tmod 7))))] [ac (IntKind.i64.wrap (2+((af J 0).tmod 7))),ac ((af J 1).tmod (IntKind.i64.wrap ((IntKind.i64.wrap (2+((af J 0).tmod 7)))+1))),ac 5] (XD (IntKind.i64.wrap (2+((af J 0).tmod 7))) ((af J 1).tmod (IntKind.i64.wrap ((IntKind.i64.wrap (2+((af J 0).tmod 7)))+1))) 5 fX) (av.cons (ck.ee (.int _ _)) (av.cons (ck.ee (.int _ _)) (av.cons (ck.ee (.int _ _)) av.nil))) ?_
  exact bL [(6,an 6 0)] trivial
 refine l9 [500036] 7 [(7,ae 0 0 (([(Event.mk 1 0 0)]:List Event).length)),(36,ae 0 0 (([(Event.mk 1 0 0)]:List Event).length)),(35,.agg [ac 1,ac 0,ac 0])] [1] [4] id (fun _=>[⟨0,3,List.map eE ([(Event.mk 1 0 0)]:List Event)⟩]) ?_
 refine fy ?_
 refine cQ [500036] 8 [(8,ac 0)] [1] [5] ?_
 refine dM 0 ?_
 obtain⟨wH,h⟩:=h
 refine hr (fun(v:Nat×(List Event)×Int)=>(⟨(a4 162 [(3,ac (IntKind.i64.wrap (2+((af J 0).tmod 7)))),(4,ac ((af J 1).tmod (IntKind.i64.wrap ((IntKind.i64.wrap (2+((af J 0).tmod 7)))+1)))),(5,ac (IntKind.i64.wrap (1+((af J 2).tmod 2)))),(6,an 6 0),(7,ae 0 (v.1) ((v.2.1).length)),(8,ac (v.2.2))]),[(6,(a8 true (bk (IntKind.i64.wrap (2+((af J 0).tmod 7))) ((af J 1).tmod (IntKind.i64.wrap ((IntKind.i64.wrap (2+((af J 0).tmod 7)))+1))) 5)))],[⟨(v.1),3,List.map eE (v.2.1)⟩]⟩:St)) (fun(v:Nat×(List Event)×Int)=>aw (v.1) (v.2.1) (v.2.2)) (fun(v:Nat×(List Event)×Int)=>ay (v.1) (v.2.1) (v.2.2)) (0,([(Event.mk 1 0 0)]:List Event),0) (cC []) wH (fun v aM=> ?_)
 obtain⟨aR,aA,bP⟩:=v
 replace h:=h aR aA bP aM
 dsimp only
 obtain⟨wG,h⟩:=h
 refine b0 [] [6] ((decide (bP<((af J 1).tmod (IntKind.i64.wrap ((IntKind.i64.wrap (2+((af J 0).tmod 7)))+1)))))=true) ?_ (fun gx=> ?_)
 ·
  replace h:=wG
  refine cQ [500036] 9 [(39,ah (decide (bP<((af J 1).tmod (IntKind.i64.wrap ((IntKind.i64.wrap (2+((af J 0).tmod 7)))+1)))))),(38,ac ((af J 1).tmod (IntKind.i64.wrap ((IntKind.i64.wrap (2+((af J 0).tmod 7)))+1)))),(37,ac bP)] [1] [6] ?_
  unfold De at h
  refine cN (fun eA=> ?_) (fun eA=> ?_)
  ·
   refine c6 ?_
   exact bR.normal (by simp only[q2.2,eA]<;>rfl) cW
  ·
   replace h:=h eA
   refine gG 0 ?_
   refine bR.exit ?_
   refine cU.exit ?_
   refine bZ.here ?_
   refine c4.normal ?_
   obtain⟨wF,h⟩:=h
   refine gX ⟨(a4 162 [(3,ac (IntKind.i64.wrap (2+((af J 0).tmod 7)))),(4,ac ((af J 1).tmod (IntKind.i64.wrap ((IntKind.i64.wrap (2+((af J 0).tmod 7)))+1)))),(5,ac (IntKind.i64.wrap (1+((af J 2).tmod 2)))),(6,an 6 0),(7,ae 0 aR aA.length),(9,eJ (fT false) (bw (bk (IntKind.i64.wrap (2+((af J 0).tmod 7))) ((af J 1).tmod (IntKind.i64.wrap ((IntKind.i64.wrap (2+((af J 0).tmod 7)))+1))) 5) aA))]),[(6,(a8 true (bk (IntKind.i64.wrap (2+((af J 0).tmod 7))) ((af J 1).tmod (IntKind.i64.wrap ((IntKind.i64.wrap (2+((af J 0).tmod 7)))+1))) 5)))],[⟨aR,3,List.map eE aA⟩]⟩ (True) ?_ (fun gy=> ?_)
   ·
    replace h:=wF
    refine bm [500036] 12 ?_
    have ff:=h
    refine ic 3 (some 52) [(51,ae 0 aR aA.length),(50,.agg (a8 true (bk (IntKind.i64.wrap (2+((af J 0).tmod 7))) ((af J 1).tmod (IntKind.i64.wrap ((IntKind.i64.wrap (2+((af J 0).tmod 7)))+1))) 5)))] [.agg (a8 true (bk (IntKind.i64.wrap (2+((af J 0).tmod 7))) ((af J 1).tmod (IntKind.i64.wrap ((IntKind.i64.wrap (2+((af J 0).tmod 7)))+1))) 5)),ae 0 aR aA.length] (Jm (bk (IntKind.i64.wrap (2+((af J 0).tmod 7))) ((af J 1).tmod (IntKind.i64.wrap ((IntKind.i64.wrap (2+((af J 0).tmod 7)))+1))) 5) aA) (av.cons (ck.agg (av.cons (.int _ _) (av.cons b7 (av.cons b7 (av.cons b7 (av.cons (.int _ _) av.nil)))))) (av.cons (ck.ee (kJ (sz:=3) (by simp) rfl (B8) ff)) av.nil)) ?_
    exact bL [(9,eJ (fT false) (bw (bk (IntKind.i64.wrap (2+((af J 0).tmod 7))) ((af J 1).tmod (IntKind.i64.wrap ((IntKind.i64.wrap (2+((af J 0).tmod 7)))+1))) 5) aA))] trivial
   refine fy ?_
   refine b0 [(53,eJ (fT false) (bw (bk (IntKind.i64.wrap (2+((af J 0).tmod 7))) ((af J 1).tmod (IntKind.i64.wrap ((IntKind.i64.wrap (2+((af J 0).tmod 7)))+1))) 5) aA)),(54,ac ((bw (bk (IntKind.i64.wrap (2+((af J 0).tmod 7))) ((af J 1).tmod (IntKind.i64.wrap ((IntKind.i64.wrap (2+((af J 0).tmod 7)))+1))) 5) aA).length:Int)),(55,ac 0)] [6] ((bw (bk (IntKind.i64.wrap (2+((af J 0).tmod 7))) ((af J 1).tmod (IntKind.i64.wrap ((IntKind.i64.wrap (2+((af J 0).tmod 7)))+1))) 5) aA).length≤4611686018427387904) ?_ (fun gz=> ?_)
   ·
    refine bm [500036] 13 ?_
    refine sLen 2 (some 54) [(53,eJ (fT false) (bw (bk (IntKind.i64.wrap (2+((af J 0).tmod 7))) ((af J 1).tmod (IntKind.i64.wrap ((IntKind.i64.wrap (2+((af J 0).tmod 7)))+1))) 5) aA))] (fT false) (bw (bk (IntKind.i64.wrap (2+((af J 0).tmod 7))) ((af J 1).tmod (IntKind.i64.wrap ((IntKind.i64.wrap (2+((af J 0).tmod 7)))+1))) 5) aA) (fun gh=> ?_)
    exact bL [(55,ac 0)] gh
   replace h:=h gz
   refine dM 2 ?_
   obtain⟨p0,h⟩:=h
   refine hr (fun(v:Int)=>(⟨(a4 162 [(3,ac (IntKind.i64.wrap (2+((af J 0).tmod 7)))),(4,ac ((af J 1).tmod (IntKind.i64.wrap ((IntKind.i64.wrap (2+((af J 0).tmod 7)))+1)))),(5,ac (IntKind.i64.wrap (1+((af J 2).tmod 2)))),(6,an 6 0),(7,ae 0 aR aA.length),(9,eJ (fT false) (bw (bk (IntKind.i64.wrap (2+((af J 0).tmod 7))) ((af J 1).tmod (IntKind.i64.wrap ((IntKind.i64.wrap (2+((af J 0).tmod 7)))+1))) 5) aA)),(53,eJ (fT false) (bw (bk (IntKind.i64.wrap (2+((af J 0).tmod 7))) ((af J 1).tmod (IntKind.i64.wrap ((IntKind.i64.wrap (2+((af J 0).tmod 7)))+1))) 5) aA)),(54,ac ((bw (bk (IntKind.i64.wrap (2+((af J 0).tmod 7))) ((af J 1).tmod (IntKind.i64.wrap ((IntKind.i64.wrap (2+((af J 0).tmod 7)))+1))) 5) aA).length:Int)),(55,ac v)]),[(6,(a8 true (bk (IntKind.i64.wrap (2+((af J 0).tmod 7))) ((af J 1).tmod (IntKind.i64.wrap ((IntKind.i64.wrap (2+((af J 0).tmod 7)))+1))) 5)))],[⟨aR,3,List.map eE aA⟩]⟩:St)) (fun(v:Int)=>aW aR aA bP v) (fun(v:Int)=>aX aR aA bP v) 0 (cC []) p0 (fun cl aM=> ?_)
   replace h:=h cl aM
   refine cQ [500036] 14 [(56,ah (decide (cl<((bw (bk (IntKind.i64.wrap (2+((af J 0).tmod 7))) ((af J 1).tmod (IntKind.i64.wrap ((IntKind.i64.wrap (2+((af J 0).tmod 7)))+1))) 5) aA).length:Int))))] [1] [9] ?_
   unfold Dd at h
   obtain⟨uH,h⟩:=h
   refine b0 [] [0,1,9] ((decide (cl<((bw (bk (IntKind.i64.wrap (2+((af J 0).tmod 7))) ((af J 1).tmod (IntKind.i64.wrap ((IntKind.i64.wrap (2+((af J 0).tmod 7)))+1))) 5) aA).length:Int)))=true) ?_ (fun ix=> ?_)
   ·
    replace h:=uH
    refine cN (fun hl=> ?_) (fun hl=> ?_)
    ·
     refine c6 ?_
     exact bR.normal (by simp only[q2.2,eA,hl]<;>rfl) cW
    ·
     replace h:=h hl
     refine gG 2 ?_
     refine bR.exit ?_
     refine cU.exit ?_
     refine bZ.here ?_
     refine c4.normal ?_
     obtain⟨p2,h⟩:=h
     refine gX ⟨(a4 162 [(3,ac (IntKind.i64.wrap (2+((af J 0).tmod 7)))),(5,ac (IntKind.i64.wrap (1+((af J 2).tmod 2)))),(6,an 6 0),(7,ae 0 aR aA.length)]),[(6,(a8 true (bk (IntKind.i64.wrap (2+((af J 0).tmod 7))) ((af J 1).tmod (IntKind.i64.wrap ((IntKind.i64.wrap (2+((af J 0).tmod 7)))+1))) 5)))],[⟨aR,3,List.map eE aA⟩]⟩ ((!(((bw (bk (IntKind.i64.wrap (2+((af J 0).tmod 7))) ((af J 1).tmod (IntKind.i64.wrap ((IntKind.i64.wrap (2+((af J 0).tmod 7)))+1))) 5) aA).length:Int) !=(IntKind.i64.wrap (((af J 1).tmod (IntKind.i64.wrap ((IntKind.i64.wrap (2+((af J 0).tmod 7)))+1)))+1))))=true) ?_ (fun hP=> ?_)
     ·
      replace h:=p2
      refine gX ⟨(a4 162 [(3,ac (IntKind.i64.wrap (2+((af J 0).tmod 7)))),(5,ac (IntKind.i64.wrap (1+((af J 2).tmod 2)))),(6,an 6 0),(7,ae 0 aR aA.length),(88,ah (((bw (bk (IntKind.i64.wrap (2+((af J 0).tmod 7))) ((af J 1).tmod (IntKind.i64.wrap ((IntKind.i64.wrap (2+((af J 0).tmod 7)))+1))) 5) aA).length:Int) !=(IntKind.i64.wrap (((af J 1).tmod (IntKind.i64.wrap ((IntKind.i64.wrap (2+((af J 0).tmod 7)))+1)))+1))))]),[(6,(a8 true (bk (IntKind.i64.wrap (2+((af J 0).tmod 7))) ((af J 1).tmod (IntKind.i64.wrap ((IntKind.i64.wrap (2+((af J 0).tmod 7)))+1))) 5)))],[⟨aR,3,List.map eE aA⟩]⟩ (True) ?_ (fun ib=> ?_)
      ·
       refine bm [500036] 22 ?_
       refine sLen 2 (some 85) [(84,eJ (fT false) (bw (bk (IntKind.i64.wrap (2+((af J 0).tmod 7))) ((af J 1).tmod (IntKind.i64.wrap ((IntKind.i64.wrap (2+((af J 0).tmod 7)))+1))) 5) aA))] (fT false) (bw (bk (IntKind.i64.wrap (2+((af J 0).tmod 7))) ((af J 1).tmod (IntKind.i64.wrap ((IntKind.i64.wrap (2+((af J 0).tmod 7)))+1))) 5) aA) (fun jU=> ?_)
       exact bL [(88,ah (((bw (bk (IntKind.i64.wrap (2+((af J 0).tmod 7))) ((af J 1).tmod (IntKind.i64.wrap ((IntKind.i64.wrap (2+((af J 0).tmod 7)))+1))) 5) aA).length:Int) !=(IntKind.i64.wrap (((af J 1).tmod (IntKind.i64.wrap ((IntKind.i64.wrap (2+((af J 0).tmod 7)))+1)))+1)))),(87,ac (IntKind.i64.wrap (((af J 1).tmod (IntKind.i64.wrap ((IntKind.i64.wrap (2+((af J 0).tmod 7)))+1)))+1))),(86,ac ((af J 1).tmod (IntKind.i64.wrap ((IntKind.i64.wrap (2+((af J 0).tmod 7)))+1))))] trivial
      refine pu (.tmp 88) (((bw (bk (IntKind.i64.wrap (2+((af J 0).tmod 7))) ((af J 1).tmod (IntKind.i64.wrap ((IntKind.i64.wrap (2+((af J 0).tmod 7)))+1))) 5) aA).length:Int) !=(IntKind.i64.wrap (((af J 1).tmod (IntKind.i64.wrap ((IntKind.i64.wrap (2+((af J 0).tmod 7)))+1)))+1))) (fun hn=> ?_) (fun hn=> ?_)
      ·
       replace h:=h hn
       refine cQ [500036] 23 [(2,ah false)] [1] [] ?_
       exact e8 (bR.ret (iz (ah false) (gd.ee (iN h))))
      ·
       refine c6 ?_
       exact bR.normal (by simp only[q2.2,eA,hl,hn]<;>rfl) cW
     replace h:=h hP
     refine fy ?_
     refine cQ [500036] 24 [(13,ac 0)] [1] [4] ?_
     unfold C_ at h
     refine dM 4 ?_
     obtain⟨LH,h⟩:=h
     refine hr (fun(v:Nat×(List Event)×Int)=>(⟨(a4 162 [(3,ac (IntKind.i64.wrap (2+((af J 0).tmod 7)))),(5,ac (IntKind.i64.wrap (1+((af J 2).tmod 2)))),(6,an 6 0),(7,ae 0 (v.1) ((v.2.1).length)),(13,ac (v.2.2))]),[(6,(a8 true (bk (IntKind.i64.wrap (2+((af J 0).tmod 7))) ((af J 1).tmod (IntKind.i64.wrap ((IntKind.i64.wrap (2+((af J 0).tmod 7)))+1))) 5)))],[⟨(v.1),3,List.map eE (v.2.1)⟩]⟩:St)) (fun(v:Nat×(List Event)×Int)=>bG aR aA bP cl (v.1) (v.2.1) (v.2.2)) (fun(v:Nat×(List Event)×Int)=>bE aR aA bP cl (v.1) (v.2.1) (v.2.2)) (aR,aA,0) (cC []) LH (fun v aM=> ?_)
     obtain⟨gn,gl,bi⟩:=v
     replace h:=h gn gl bi aM
     dsimp only
     obtain⟨zj,h⟩:=h
     refine b0 [] [5] ((decide (bi<(IntKind.i64.wrap ((IntKind.i64.wrap (2+((af J 0).tmod 7)))+(IntKind.i64.wrap (1+((af J 2).tmod 2)))))))=true) ?_ (fun eV=> ?_)
     ·
      replace h:=zj
      refine cQ [500036] 25 [(93,ah (decide (bi<(IntKind.i64.wrap ((IntKind.i64.wrap (2+((af J 0).tmod 7)))+(IntKind.i64.wrap (1+((af J 2).tmod 2)))))))),(92,ac (IntKind.i64.wrap ((IntKind.i64.wrap (2+((af J 0).tmod 7)))+(IntKind.i64.wrap (1+((af J 2).tmod 2)))))),(91,ac (IntKind.i64.wrap (1+((af J 2).tmod 2)))),(90,ac (IntKind.i64.wrap (2+((af J 0).tmod 7)))),(89,ac bi)] [1] [5] ?_
      refine cN (fun iY=> ?_) (fun iY=> ?_)
      ·
       refine c6 ?_
       exact bR.normal (by simp only[q2.2,eA,hl,hP,iY]<;>rfl) cW
      ·
       replace h:=h iY
       refine gG 4 ?_
       refine bR.exit ?_
       refine cU.exit ?_
       refine bZ.here ?_
       refine c4.normal ?_
       refine gX ⟨(a4 162 [(2,ah false)]),[(6,(a8 true (bk (IntKind.i64.wrap (2+((af J 0).tmod 7))) ((af J 1).tmod (IntKind.i64.wrap ((IntKind.i64.wrap (2+((af J 0).tmod 7)))+1))) 5)))],[⟨gn,3,List.map eE gl⟩]⟩ (True) ?_ (fun ns=> ?_)
       ·
        refine bm [500036] 42 ?_
        exact bL [(2,ah false)] trivial
       exact e8 (iz (ah false) (gd.ee (iN h)))
     replace h:=h eV
     unfold Dr at h
     refine fy ?_
     refine dM 5 ?_
     obtain⟨lc,h⟩:=h
     refine GV (fun(v:Nat×(List Event))=>(⟨(a4 162 [(3,ac (IntKind.i64.wrap (2+((af J 0).tmod 7)))),(5,ac (IntKind.i64.wrap (1+((af J 2).tmod 2)))),(6,an 6 0),(7,ae 0 (v.1) ((v.2).length)),(13,ac bi)]),[(6,(a8 true (bk (IntKind.i64.wrap (2+((af J 0).tmod 7))) ((af J 1).tmod (IntKind.i64.wrap ((IntKind.i64.wrap (2+((af J 0).tmod 7)))+1))) 5)))],[⟨(v.1),3,List.map eE (v.2)⟩]⟩:St)) (fun v=>cz aR aA bP cl gn gl bi (v.1) (v.2)) ?_ (fun v cu=> ?_)
     ·
      replace h:=lc
      refine cQ [500036] 27 [(98,ah (decide (bi<(IntKind.i64.wrap (2+((af J 0).tmod 7)))))),(97,ac (IntKind.i64.wrap (2+((af J 0).tmod 7)))),(96,ac bi)] [1] [5] ?_
      refine cN (fun kD=> ?_) (fun kD=> ?_)
      ·
       replace h:=h.1 kD
       refine bm [500036] 28 ?_
       obtain⟨kf,h⟩:=h
       refine ra 5 (some 103) [(102,.be (List.map eE [(Event.mk 3 bi 0)]) true true),(101,.agg [ac 3,ac bi,ac 0]),(100,ac bi),(99,ae 0 gn gl.length)] eE gl [(Event.mk 3 bi 0)] (hR true (List.map eE [(Event.mk 3 bi 0)])) 0 gn 3 24 (fun r=>[⟨(gn+1),3,r⟩]) rfl kf ?_
       refine df [(7,ae 0 (gn+1) ((gl++[(Event.mk 3 bi 0)]).length))] ?_
       exact fm.normal ((gn+1),(gl++[(Event.mk 3 bi 0)])) h (cC [])
      ·
       replace h:=h.2 kD
       refine c6 ?_
       exact fm.normal (gn,gl) h (cC [])
     obtain⟨k0,kP⟩:=v
     replace h:=h k0 kP cu
     dsimp only
     obtain⟨q7,h⟩:=h
     refine GV (fun(v:Nat×(List Event))=>(⟨(a4 162 [(3,ac (IntKind.i64.wrap (2+((af J 0).tmod 7)))),(5,ac (IntKind.i64.wrap (1+((af J 2).tmod 2)))),(6,an 6 0),(7,ae 0 (v.1) ((v.2).length)),(13,ac bi)]),[(6,(a8 true (bk (IntKind.i64.wrap (2+((af J 0).tmod 7))) ((af J 1).tmod (IntKind.i64.wrap ((IntKind.i64.wrap (2+((af J 0).tmod 7)))+1))) 5)))],[⟨(v.1),3,List.map eE (v.2)⟩]⟩:St)) (fun v=>jE aR aA bP cl gn gl bi k0 kP (v.1) (v.2)) ?_ (fun v cu=> ?_)
     ·
      replace h:=q7
      refine cQ [500036] 29 [(106,ah (decide (bi ≥ (IntKind.i64.wrap (1+((af J 2).tmod 2)))))),(105,ac (IntKind.i64.wrap (1+((af J 2).tmod 2)))),(104,ac bi)] [1] [5] ?_
      unfold C9 at h
      refine cN (fun jw=> ?_) (fun jw=> ?_)
      ·
       replace h:=h.1 jw
       refine bm [500036] 30 ?_
       obtain⟨kE,h⟩:=h
       refine ra 7 (some 113) [(112,.be (List.map eE [(Event.mk 4 (IntKind.i64.wrap (bi - (IntKind.i64.wrap (1+((af J 2).tmod 2))))) 0)]) true true),(111,.agg [ac 4,ac (IntKind.i64.wrap (bi - (IntKind.i64.wrap (1+((af J 2).tmod 2))))),ac 0]),(110,ac (IntKind.i64.wrap (bi - (IntKind.i64.wrap (1+((af J 2).tmod 2)))))),(109,ac (IntKind.i64.wrap (1+((af J 2).tmod 2)))),(108,ac bi),(107,ae 0 k0 kP.length)] eE kP [(Event.mk 4 (IntKind.i64.wrap (bi - (IntKind.i64.wrap (1+((af J 2).tmod 2))))) 0)] (hR true (List.map eE [(Event.mk 4 (IntKind.i64.wrap (bi - (IntKind.i64.wrap (1+((af J 2).tmod 2))))) 0)])) 0 k0 3 24 (fun r=>[⟨(k0+1),3,r⟩]) rfl kE ?_
       refine df [(7,ae 0 (k0+1) ((kP++[(Event.mk 4 (IntKind.i64.wrap (bi - (IntKind.i64.wrap (1+((af J 2).tmod 2))))) 0)]).length))] ?_
       exact fm.normal ((k0+1),(kP++[(Event.mk 4 (IntKind.i64.wrap (bi - (IntKind.i64.wrap (1+((af J 2).tmod 2))))) 0)])) h (cC [])
      ·
       replace h:=h.2 jw
       refine c6 ?_
       exact fm.normal (k0,kP) h (cC [])
     obtain⟨ku,bM⟩:=v
     replace h:=h ku bM cu
     dsimp only
     obtain⟨o9,h⟩:=h
     refine b0 [(9,eJ (fT false) (bw (bk (IntKind.i64.wrap (2+((af J 0).tmod 7))) ((af J 1).tmod (IntKind.i64.wrap ((IntKind.i64.wrap (2+((af J 0).tmod 7)))+1))) 5) bM))] [5] (True) ?_ (fun lv=> ?_)
     ·
      replace h:=o9
      refine bm [500036] 31 ?_
      have la:=h
      refine ic 3 (some 116) [(115,ae 0 ku bM.length),(114,.agg (a8 true (bk (IntKind.i64.wrap (2+((af J 0).tmod 7))) ((af J 1).tmod (IntKind.i64.wrap ((IntKind.i64.wrap (2+((af J 0).tmod 7)))+1))) 5)))] [.agg (a8 true (bk (IntKind.i64.wrap (2+((af J 0).tmod 7))) ((af J 1).tmod (IntKind.i64.wrap ((IntKind.i64.wrap (2+((af J 0).tmod 7)))+1))) 5)),ae 0 ku bM.length] (Jm (bk (IntKind.i64.wrap (2+((af J 0).tmod 7))) ((af J 1).tmod (IntKind.i64.wrap ((IntKind.i64.wrap (2+((af J 0).tmod 7)))+1))) 5) bM) (av.cons (ck.agg (av.cons (.int _ _) (av.cons b7 (av.cons b7 (av.cons b7 (av.cons (.int _ _) av.nil)))))) (av.cons (ck.ee (kJ (sz:=3) (by simp) rfl (B8) la)) av.nil)) ?_
      exact bL [(9,eJ (fT false) (bw (bk (IntKind.i64.wrap (2+((af J 0).tmod 7))) ((af J 1).tmod (IntKind.i64.wrap ((IntKind.i64.wrap (2+((af J 0).tmod 7)))+1))) 5) bM))] trivial
     unfold Dq at h
     obtain⟨o8,h⟩:=h
     refine b0 [(14,bo (cd false) ((nth (bw (bk (IntKind.i64.wrap (2+((af J 0).tmod 7))) ((af J 1).tmod (IntKind.i64.wrap ((IntKind.i64.wrap (2+((af J 0).tmod 7)))+1))) 5) bM) (IntKind.i64.wrap (((bw (bk (IntKind.i64.wrap (2+((af J 0).tmod 7))) ((af J 1).tmod (IntKind.i64.wrap ((IntKind.i64.wrap (2+((af J 0).tmod 7)))+1))) 5) bM).length:Int) - 1))).frame.ways))] [6] ((bw (bk (IntKind.i64.wrap (2+((af J 0).tmod 7))) ((af J 1).tmod (IntKind.i64.wrap ((IntKind.i64.wrap (2+((af J 0).tmod 7)))+1))) 5) bM).length≤4611686018427387904) ?_ (fun m0=> ?_)
     ·
      replace h:=o8
      refine bm [500036] 32 ?_
      refine sLen 3 (some 119) [(118,eJ (fT false) (bw (bk (IntKind.i64.wrap (2+((af J 0).tmod 7))) ((af J 1).tmod (IntKind.i64.wrap ((IntKind.i64.wrap (2+((af J 0).tmod 7)))+1))) 5) bM)),(117,eJ (fT false) (bw (bk (IntKind.i64.wrap (2+((af J 0).tmod 7))) ((af J 1).tmod (IntKind.i64.wrap ((IntKind.i64.wrap (2+((af J 0).tmod 7)))+1))) 5) bM))] (fT false) (bw (bk (IntKind.i64.wrap (2+((af J 0).tmod 7))) ((af J 1).tmod (IntKind.i64.wrap ((IntKind.i64.wrap (2+((af J 0).tmod 7)))+1))) 5) bM) (fun jV=> ?_)
      replace h:=h jV
      have hQ:=h
      refine hT 2 (some 121) [(120,ac (IntKind.i64.wrap (((bw (bk (IntKind.i64.wrap (2+((af J 0).tmod 7))) ((af J 1).tmod (IntKind.i64.wrap ((IntKind.i64.wrap (2+((af J 0).tmod 7)))+1))) 5) bM).length:Int) - 1)))] (fT false) (bw (bk (IntKind.i64.wrap (2+((af J 0).tmod 7))) ((af J 1).tmod (IntKind.i64.wrap ((IntKind.i64.wrap (2+((af J 0).tmod 7)))+1))) 5) bM) 5 hQ ?_
      exact bL [(14,bo (cd false) ((nth (bw (bk (IntKind.i64.wrap (2+((af J 0).tmod 7))) ((af J 1).tmod (IntKind.i64.wrap ((IntKind.i64.wrap (2+((af J 0).tmod 7)))+1))) 5) bM) (IntKind.i64.wrap (((bw (bk (IntKind.i64.wrap (2+((af J 0).tmod 7))) ((af J 1).tmod (IntKind.i64.wrap ((IntKind.i64.wrap (2+((af J 0).tmod 7)))+1))) 5) bM).length:Int) - 1))).frame.ways)),(124,bo (cd false) ((nth (bw (bk (IntKind.i64.wrap (2+((af J 0).tmod 7))) ((af J 1).tmod (IntKind.i64.wrap ((IntKind.i64.wrap (2+((af J 0).tmod 7)))+1))) 5) bM) (IntKind.i64.wrap (((bw (bk (IntKind.i64.wrap (2+((af J 0).tmod 7))) ((af J 1).tmod (IntKind.i64.wrap ((IntKind.i64.wrap (2+((af J 0).tmod 7)))+1))) 5) bM).length:Int) - 1))).frame.ways)),(123,.cZ (fT false (nth (bw (bk (IntKind.i64.wrap (2+((af J 0).tmod 7))) ((af J 1).tmod (IntKind.i64.wrap ((IntKind.i64.wrap (2+((af J 0).tmod 7)))+1))) 5) bM) (IntKind.i64.wrap (((bw (bk (IntKind.i64.wrap (2+((af J 0).tmod 7))) ((af J 1).tmod (IntKind.i64.wrap ((IntKind.i64.wrap (2+((af J 0).tmod 7)))+1))) 5) bM).length:Int) - 1)))) 4),(122,.cZ (fT false (nth (bw (bk (IntKind.i64.wrap (2+((af J 0).tmod 7))) ((af J 1).tmod (IntKind.i64.wrap ((IntKind.i64.wrap (2+((af J 0).tmod 7)))+1))) 5) bM) (IntKind.i64.wrap (((bw (bk (IntKind.i64.wrap (2+((af J 0).tmod 7))) ((af J 1).tmod (IntKind.i64.wrap ((IntKind.i64.wrap (2+((af J 0).tmod 7)))+1))) 5) bM).length:Int) - 1)))) 1)] jV
     replace h:=h m0
     unfold Dp at h
     obtain⟨o7,h⟩:=h
     refine b0 [] [7] ((((nth (bw (bk (IntKind.i64.wrap (2+((af J 0).tmod 7))) ((af J 1).tmod (IntKind.i64.wrap ((IntKind.i64.wrap (2+((af J 0).tmod 7)))+1))) 5) bM) (IntKind.i64.wrap (((bw (bk (IntKind.i64.wrap (2+((af J 0).tmod 7))) ((af J 1).tmod (IntKind.i64.wrap ((IntKind.i64.wrap (2+((af J 0).tmod 7)))+1))) 5) bM).length:Int) - 1))).frame.ways).length≤4611686018427387904)∧((!((((nth (bw (bk (IntKind.i64.wrap (2+((af J 0).tmod 7))) ((af J 1).tmod (IntKind.i64.wrap ((IntKind.i64.wrap (2+((af J 0).tmod 7)))+1))) 5) bM) (IntKind.i64.wrap (((bw (bk (IntKind.i64.wrap (2+((af J 0).tmod 7))) ((af J 1).tmod (IntKind.i64.wrap ((IntKind.i64.wrap (2+((af J 0).tmod 7)))+1))) 5) bM).length:Int) - 1))).frame.ways).length:Int) !=1))=true)) ?_ (fun kF=> ?_)
     ·
      replace h:=o7
      refine b0 [(127,ah ((((nth (bw (bk (IntKind.i64.wrap (2+((af J 0).tmod 7))) ((af J 1).tmod (IntKind.i64.wrap ((IntKind.i64.wrap (2+((af J 0).tmod 7)))+1))) 5) bM) (IntKind.i64.wrap (((bw (bk (IntKind.i64.wrap (2+((af J 0).tmod 7))) ((af J 1).tmod (IntKind.i64.wrap ((IntKind.i64.wrap (2+((af J 0).tmod 7)))+1))) 5) bM).length:Int) - 1))).frame.ways).length:Int) !=1))] [7] (((nth (bw (bk (IntKind.i64.wrap (2+((af J 0).tmod 7))) ((af J 1).tmod (IntKind.i64.wrap ((IntKind.i64.wrap (2+((af J 0).tmod 7)))+1))) 5) bM) (IntKind.i64.wrap (((bw (bk (IntKind.i64.wrap (2+((af J 0).tmod 7))) ((af J 1).tmod (IntKind.i64.wrap ((IntKind.i64.wrap (2+((af J 0).tmod 7)))+1))) 5) bM).length:Int) - 1))).frame.ways).length≤4611686018427387904) ?_ (fun jx=> ?_)
      ·
       refine bm [500036] 33 ?_
       refine sLen 2 (some 126) [(125,bo (cd false) ((nth (bw (bk (IntKind.i64.wrap (2+((af J 0).tmod 7))) ((af J 1).tmod (IntKind.i64.wrap ((IntKind.i64.wrap (2+((af J 0).tmod 7)))+1))) 5) bM) (IntKind.i64.wrap (((bw (bk (IntKind.i64.wrap (2+((af J 0).tmod 7))) ((af J 1).tmod (IntKind.i64.wrap ((IntKind.i64.wrap (2+((af J 0).tmod 7)))+1))) 5) bM).length:Int) - 1))).frame.ways))] (cd false) ((nth (bw (bk (IntKind.i64.wrap (2+((af J 0).tmod 7))) ((af J 1).tmod (IntKind.i64.wrap ((IntKind.i64.wrap (2+((af J 0).tmod 7)))+1))) 5) bM) (IntKind.i64.wrap (((bw (bk (IntKind.i64.wrap (2+((af J 0).tmod 7))) ((af J 1).tmod (IntKind.i64.wrap ((IntKind.i64.wrap (2+((af J 0).tmod 7)))+1))) 5) bM).length:Int) - 1))).frame.ways) (fun kG=> ?_)
       exact bL [(127,ah ((((nth (bw (bk (IntKind.i64.wrap (2+((af J 0).tmod 7))) ((af J 1).tmod (IntKind.i64.wrap ((IntKind.i64.wrap (2+((af J 0).tmod 7)))+1))) 5) bM) (IntKind.i64.wrap (((bw (bk (IntKind.i64.wrap (2+((af J 0).tmod 7))) ((af J 1).tmod (IntKind.i64.wrap ((IntKind.i64.wrap (2+((af J 0).tmod 7)))+1))) 5) bM).length:Int) - 1))).frame.ways).length:Int) !=1))] kG
      replace h:=h jx
      unfold Dj at h
      refine cN (fun lx=> ?_) (fun lx=> ?_)
      ·
       replace h:=h lx
       refine cQ [500036] 34 [(2,ah false)] [1] [] ?_
       exact e8 (bR.ret (bZ.ret (c4.ret (cU.ret (bZ.ret (c4.ret (iz (ah false) (gd.ee (iN h)))))))))
      ·
       refine c6 ?_
       exact bR.normal ⟨jx,(by simp only[q2.2,eA,hl,hP,eV,lx]<;>rfl)⟩ cW
     replace h:=h kF
     refine cQ [500036] 35 [(15,ac (IntKind.i64.wrap ((IntKind.i64.wrap (bi - (IntKind.i64.wrap (1+((af J 2).tmod 2)))))+1))),(131,ac (IntKind.i64.wrap ((IntKind.i64.wrap (bi - (IntKind.i64.wrap (1+((af J 2).tmod 2)))))+1))),(130,ac (IntKind.i64.wrap (bi - (IntKind.i64.wrap (1+((af J 2).tmod 2)))))),(129,ac (IntKind.i64.wrap (1+((af J 2).tmod 2)))),(128,ac bi)] [1] [7] ?_
     refine b0 [(15,ac (bif (decide ((IntKind.i64.wrap ((IntKind.i64.wrap (bi - (IntKind.i64.wrap (1+((af J 2).tmod 2)))))+1))<0)) then 0 else(IntKind.i64.wrap ((IntKind.i64.wrap (bi - (IntKind.i64.wrap (1+((af J 2).tmod 2)))))+1))))] [0,1,7] (True) ?_ (fun uK=> ?_)
     ·
      refine cQ [500036] 36 [(133,ah (decide ((IntKind.i64.wrap ((IntKind.i64.wrap (bi - (IntKind.i64.wrap (1+((af J 2).tmod 2)))))+1))<0))),(132,ac (IntKind.i64.wrap ((IntKind.i64.wrap (bi - (IntKind.i64.wrap (1+((af J 2).tmod 2)))))+1)))] [1] [8] ?_
      refine cN (fun jW=> ?_) (fun jW=> ?_)
      ·
       refine bm [500036] 37 ?_
       exact bL [(15,ac 0)] trivial (by simp only[q2.2,eA,hl,hP,eV,kF.2,jW]<;>kernel_rfl)
      ·
       refine c6 ?_
       exact bR.normal trivial (cW (by simp only[q2.2,eA,hl,hP,eV,kF.2,jW]<;>kernel_rfl))
     obtain⟨nv,h⟩:=h
     refine b0 [] [2,1,5] ((!((bif (decide ((IntKind.i64.wrap ((IntKind.i64.wrap (bi - (IntKind.i64.wrap (1+((af J 2).tmod 2)))))+1))<0)) then 0 else(IntKind.i64.wrap ((IntKind.i64.wrap (bi - (IntKind.i64.wrap (1+((af J 2).tmod 2)))))+1)))==(IntKind.i64.wrap (2+((af J 0).tmod 7)))))=true) ?_ (fun o3=> ?_)
     ·
      replace h:=nv
      refine cQ [500036] 38 [(136,ah ((bif (decide ((IntKind.i64.wrap ((IntKind.i64.wrap (bi - (IntKind.i64.wrap (1+((af J 2).tmod 2)))))+1))<0)) then 0 else(IntKind.i64.wrap ((IntKind.i64.wrap (bi - (IntKind.i64.wrap (1+((af J 2).tmod 2)))))+1)))==(IntKind.i64.wrap (2+((af J 0).tmod 7))))),(135,ac (IntKind.i64.wrap (2+((af J 0).tmod 7)))),(134,ac (bif (decide ((IntKind.i64.wrap ((IntKind.i64.wrap (bi - (IntKind.i64.wrap (1+((af J 2).tmod 2)))))+1))<0)) then 0 else(IntKind.i64.wrap ((IntKind.i64.wrap (bi - (IntKind.i64.wrap (1+((af J 2).tmod 2)))))+1))))] [1] [8] ?_
      unfold Dl at h
      refine cN (fun kh=> ?_) (fun kh=> ?_)
      ·
       replace h:=h kh
       obtain⟨uL,h⟩:=h
       refine b0 [(2,ah ((((nth ((nth (bw (bk (IntKind.i64.wrap (2+((af J 0).tmod 7))) ((af J 1).tmod (IntKind.i64.wrap ((IntKind.i64.wrap (2+((af J 0).tmod 7)))+1))) 5) bM) (IntKind.i64.wrap (((bw (bk (IntKind.i64.wrap (2+((af J 0).tmod 7))) ((af J 1).tmod (IntKind.i64.wrap ((IntKind.i64.wrap (2+((af J 0).tmod 7)))+1))) 5) bM).length:Int) - 1))).frame.ways) 0).state)==0)&&(eqv (bw (bk (IntKind.i64.wrap (2+((af J 0).tmod 7))) ((af J 1).tmod (IntKind.i64.wrap ((IntKind.i64.wrap (2+((af J 0).tmod 7)))+1))) 5) bM) (lY (bk (IntKind.i64.wrap (2+((af J 0).tmod 7))) ((af J 1).tmod (IntKind.i64.wrap ((IntKind.i64.wrap (2+((af J 0).tmod 7)))+1))) 5) bM))))] [] (True) ?_ (fun mr=> ?_)
       ·
        replace h:=uL
        refine bm [500036] 39 ?_
        obtain⟨iZ,h⟩:=h
        refine hT 2 (some 138) [(137,bo (cd false) ((nth (bw (bk (IntKind.i64.wrap (2+((af J 0).tmod 7))) ((af J 1).tmod (IntKind.i64.wrap ((IntKind.i64.wrap (2+((af J 0).tmod 7)))+1))) 5) bM) (IntKind.i64.wrap (((bw (bk (IntKind.i64.wrap (2+((af J 0).tmod 7))) ((af J 1).tmod (IntKind.i64.wrap ((IntKind.i64.wrap (2+((af J 0).tmod 7)))+1))) 5) bM).length:Int) - 1))).frame.ways))] (cd false) ((nth (bw (bk (IntKind.i64.wrap (2+((af J 0).tmod 7))) ((af J 1).tmod (IntKind.i64.wrap ((IntKind.i64.wrap (2+((af J 0).tmod 7)))+1))) 5) bM) (IntKind.i64.wrap (((bw (bk (IntKind.i64.wrap (2+((af J 0).tmod 7))) ((af J 1).tmod (IntKind.i64.wrap ((IntKind.i64.wrap (2+((af J 0).tmod 7)))+1))) 5) bM).length:Int) - 1))).frame.ways) 5 iZ ?_
        refine kI 4 142 (((nth ((nth (bw (bk (IntKind.i64.wrap (2+((af J 0).tmod 7))) ((af J 1).tmod (IntKind.i64.wrap ((IntKind.i64.wrap (2+((af J 0).tmod 7)))+1))) 5) bM) (IntKind.i64.wrap (((bw (bk (IntKind.i64.wrap (2+((af J 0).tmod 7))) ((af J 1).tmod (IntKind.i64.wrap ((IntKind.i64.wrap (2+((af J 0).tmod 7)))+1))) 5) bM).length:Int) - 1))).frame.ways) 0).state)==0) [(141,ah (((nth ((nth (bw (bk (IntKind.i64.wrap (2+((af J 0).tmod 7))) ((af J 1).tmod (IntKind.i64.wrap ((IntKind.i64.wrap (2+((af J 0).tmod 7)))+1))) 5) bM) (IntKind.i64.wrap (((bw (bk (IntKind.i64.wrap (2+((af J 0).tmod 7))) ((af J 1).tmod (IntKind.i64.wrap ((IntKind.i64.wrap (2+((af J 0).tmod 7)))+1))) 5) bM).length:Int) - 1))).frame.ways) 0).state)==0)),(140,ac ((nth ((nth (bw (bk (IntKind.i64.wrap (2+((af J 0).tmod 7))) ((af J 1).tmod (IntKind.i64.wrap ((IntKind.i64.wrap (2+((af J 0).tmod 7)))+1))) 5) bM) (IntKind.i64.wrap (((bw (bk (IntKind.i64.wrap (2+((af J 0).tmod 7))) ((af J 1).tmod (IntKind.i64.wrap ((IntKind.i64.wrap (2+((af J 0).tmod 7)))+1))) 5) bM).length:Int) - 1))).frame.ways) 0).state)),(139,.cZ (cd false (nth ((nth (bw (bk (IntKind.i64.wrap (2+((af J 0).tmod 7))) ((af J 1).tmod (IntKind.i64.wrap ((IntKind.i64.wrap (2+((af J 0).tmod 7)))+1))) 5) bM) (IntKind.i64.wrap (((bw (bk (IntKind.i64.wrap (2+((af J 0).tmod 7))) ((af J 1).tmod (IntKind.i64.wrap ((IntKind.i64.wrap (2+((af J 0).tmod 7)))+1))) 5) bM).length:Int) - 1))).frame.ways) 0)) 0)] (fun ki=> ?_) (fun ki=> ?_)
        ·
         replace h:=h ki
         have lb:=h
         refine ic 4 (some 146) [(145,ae 0 ku bM.length),(144,.agg (a8 true (bk (IntKind.i64.wrap (2+((af J 0).tmod 7))) ((af J 1).tmod (IntKind.i64.wrap ((IntKind.i64.wrap (2+((af J 0).tmod 7)))+1))) 5))),(143,eJ (fT false) (bw (bk (IntKind.i64.wrap (2+((af J 0).tmod 7))) ((af J 1).tmod (IntKind.i64.wrap ((IntKind.i64.wrap (2+((af J 0).tmod 7)))+1))) 5) bM))] [.agg (a8 true (bk (IntKind.i64.wrap (2+((af J 0).tmod 7))) ((af J 1).tmod (IntKind.i64.wrap ((IntKind.i64.wrap (2+((af J 0).tmod 7)))+1))) 5)),ae 0 ku bM.length] (XK (bk (IntKind.i64.wrap (2+((af J 0).tmod 7))) ((af J 1).tmod (IntKind.i64.wrap ((IntKind.i64.wrap (2+((af J 0).tmod 7)))+1))) 5) bM) (av.cons (ck.agg (av.cons (.int _ _) (av.cons b7 (av.cons b7 (av.cons b7 (av.cons (.int _ _) av.nil)))))) (av.cons (ck.ee (kJ (sz:=3) (by simp) rfl (B8) lb)) av.nil)) ?_
         refine ic 1 (some 147) [] [eJ (fT false) (bw (bk (IntKind.i64.wrap (2+((af J 0).tmod 7))) ((af J 1).tmod (IntKind.i64.wrap ((IntKind.i64.wrap (2+((af J 0).tmod 7)))+1))) 5) bM),eJ (fT false) (lY (bk (IntKind.i64.wrap (2+((af J 0).tmod 7))) ((af J 1).tmod (IntKind.i64.wrap ((IntKind.i64.wrap (2+((af J 0).tmod 7)))+1))) 5) bM)] (UP (bw (bk (IntKind.i64.wrap (2+((af J 0).tmod 7))) ((af J 1).tmod (IntKind.i64.wrap ((IntKind.i64.wrap (2+((af J 0).tmod 7)))+1))) 5) bM) (lY (bk (IntKind.i64.wrap (2+((af J 0).tmod 7))) ((af J 1).tmod (IntKind.i64.wrap ((IntKind.i64.wrap (2+((af J 0).tmod 7)))+1))) 5) bM)) (av.cons (ck.ee b7) (av.cons (ck.ee b7) av.nil)) ?_
         exact bL [(2,ah (eqv (bw (bk (IntKind.i64.wrap (2+((af J 0).tmod 7))) ((af J 1).tmod (IntKind.i64.wrap ((IntKind.i64.wrap (2+((af J 0).tmod 7)))+1))) 5) bM) (lY (bk (IntKind.i64.wrap (2+((af J 0).tmod 7))) ((af J 1).tmod (IntKind.i64.wrap ((IntKind.i64.wrap (2+((af J 0).tmod 7)))+1))) 5) bM))),(148,ah (eqv (bw (bk (IntKind.i64.wrap (2+((af J 0).tmod 7))) ((af J 1).tmod (IntKind.i64.wrap ((IntKind.i64.wrap (2+((af J 0).tmod 7)))+1))) 5) bM) (lY (bk (IntKind.i64.wrap (2+((af J 0).tmod 7))) ((af J 1).tmod (IntKind.i64.wrap ((IntKind.i64.wrap (2+((af J 0).tmod 7)))+1))) 5) bM)))] trivial (by simp only[q2.2,eA,hl,hP,eV,kF.2,kh,ki]<;>kernel_rfl)
        ·
         exact bL ([(2,ah false),(148,ah false)]++e4 [147,146,145,144,143]) trivial (by simp only[q2.2,eA,hl,hP,eV,kF.2,kh,ki]<;>kernel_rfl)
       unfold Dk at h
       exact e8 (bR.ret (bZ.ret (c4.ret (cU.ret (bZ.ret (c4.ret (iz (ah ((((nth ((nth (bw (bk (IntKind.i64.wrap (2+((af J 0).tmod 7))) ((af J 1).tmod (IntKind.i64.wrap ((IntKind.i64.wrap (2+((af J 0).tmod 7)))+1))) 5) bM) (IntKind.i64.wrap (((bw (bk (IntKind.i64.wrap (2+((af J 0).tmod 7))) ((af J 1).tmod (IntKind.i64.wrap ((IntKind.i64.wrap (2+((af J 0).tmod 7)))+1))) 5) bM).length:Int) - 1))).frame.ways) 0).state)==0)&&(eqv (bw (bk (IntKind.i64.wrap (2+((af J 0).tmod 7))) ((af J 1).tmod (IntKind.i64.wrap ((IntKind.i64.wrap (2+((af J 0).tmod 7)))+1))) 5) bM) (lY (bk (IntKind.i64.wrap (2+((af J 0).tmod 7))) ((af J 1).tmod (IntKind.i64.wrap ((IntKind.i64.wrap (2+((af J 0).tmod 7)))+1))) 5) bM)))) (gd.ee (iN h)))))))))
      ·
       refine c6 ?_
       exact bR.normal (by simp only[q2.2,eA,hl,hP,eV,kF.2,kh]<;>rfl) cW
     replace h:=h o3
     unfold Dn at h
     obtain⟨o6,h⟩:=h
     refine b0 [(161,ah ((((nth ((nth (bw (bk (IntKind.i64.wrap (2+((af J 0).tmod 7))) ((af J 1).tmod (IntKind.i64.wrap ((IntKind.i64.wrap (2+((af J 0).tmod 7)))+1))) 5) bM) (IntKind.i64.wrap (((bw (bk (IntKind.i64.wrap (2+((af J 0).tmod 7))) ((af J 1).tmod (IntKind.i64.wrap ((IntKind.i64.wrap (2+((af J 0).tmod 7)))+1))) 5) bM).length:Int) - 1))).frame.ways) 0).state) !=4) || (((nth ((nth (bw (bk (IntKind.i64.wrap (2+((af J 0).tmod 7))) ((af J 1).tmod (IntKind.i64.wrap ((IntKind.i64.wrap (2+((af J 0).tmod 7)))+1))) 5) bM) (IntKind.i64.wrap (((bw (bk (IntKind.i64.wrap (2+((af J 0).tmod 7))) ((af J 1).tmod (IntKind.i64.wrap ((IntKind.i64.wrap (2+((af J 0).tmod 7)))+1))) 5) bM).length:Int) - 1))).frame.ways) 0).gone) !=(bif (decide ((IntKind.i64.wrap ((IntKind.i64.wrap (bi - (IntKind.i64.wrap (1+((af J 2).tmod 2)))))+1))<0)) then 0 else(IntKind.i64.wrap ((IntKind.i64.wrap (bi - (IntKind.i64.wrap (1+((af J 2).tmod 2)))))+1))))))] [0,2,5] (True) ?_ (fun nu=> ?_)
     ·
      replace h:=o6
      refine bm [500036] 40 ?_
      obtain⟨sy,h⟩:=h
      refine hT 2 (some 150) [(149,bo (cd false) ((nth (bw (bk (IntKind.i64.wrap (2+((af J 0).tmod 7))) ((af J 1).tmod (IntKind.i64.wrap ((IntKind.i64.wrap (2+((af J 0).tmod 7)))+1))) 5) bM) (IntKind.i64.wrap (((bw (bk (IntKind.i64.wrap (2+((af J 0).tmod 7))) ((af J 1).tmod (IntKind.i64.wrap ((IntKind.i64.wrap (2+((af J 0).tmod 7)))+1))) 5) bM).length:Int) - 1))).frame.ways))] (cd false) ((nth (bw (bk (IntKind.i64.wrap (2+((af J 0).tmod 7))) ((af J 1).tmod (IntKind.i64.wrap ((IntKind.i64.wrap (2+((af J 0).tmod 7)))+1))) 5) bM) (IntKind.i64.wrap (((bw (bk (IntKind.i64.wrap (2+((af J 0).tmod 7))) ((af J 1).tmod (IntKind.i64.wrap ((IntKind.i64.wrap (2+((af J 0).tmod 7)))+1))) 5) bM).length:Int) - 1))).frame.ways) 5 sy ?_
      refine kI 4 154 (((nth ((nth (bw (bk (IntKind.i64.wrap (2+((af J 0).tmod 7))) ((af J 1).tmod (IntKind.i64.wrap ((IntKind.i64.wrap (2+((af J 0).tmod 7)))+1))) 5) bM) (IntKind.i64.wrap (((bw (bk (IntKind.i64.wrap (2+((af J 0).tmod 7))) ((af J 1).tmod (IntKind.i64.wrap ((IntKind.i64.wrap (2+((af J 0).tmod 7)))+1))) 5) bM).length:Int) - 1))).frame.ways) 0).state) !=4) [(153,ah (((nth ((nth (bw (bk (IntKind.i64.wrap (2+((af J 0).tmod 7))) ((af J 1).tmod (IntKind.i64.wrap ((IntKind.i64.wrap (2+((af J 0).tmod 7)))+1))) 5) bM) (IntKind.i64.wrap (((bw (bk (IntKind.i64.wrap (2+((af J 0).tmod 7))) ((af J 1).tmod (IntKind.i64.wrap ((IntKind.i64.wrap (2+((af J 0).tmod 7)))+1))) 5) bM).length:Int) - 1))).frame.ways) 0).state) !=4)),(152,ac ((nth ((nth (bw (bk (IntKind.i64.wrap (2+((af J 0).tmod 7))) ((af J 1).tmod (IntKind.i64.wrap ((IntKind.i64.wrap (2+((af J 0).tmod 7)))+1))) 5) bM) (IntKind.i64.wrap (((bw (bk (IntKind.i64.wrap (2+((af J 0).tmod 7))) ((af J 1).tmod (IntKind.i64.wrap ((IntKind.i64.wrap (2+((af J 0).tmod 7)))+1))) 5) bM).length:Int) - 1))).frame.ways) 0).state)),(151,.cZ (cd false (nth ((nth (bw (bk (IntKind.i64.wrap (2+((af J 0).tmod 7))) ((af J 1).tmod (IntKind.i64.wrap ((IntKind.i64.wrap (2+((af J 0).tmod 7)))+1))) 5) bM) (IntKind.i64.wrap (((bw (bk (IntKind.i64.wrap (2+((af J 0).tmod 7))) ((af J 1).tmod (IntKind.i64.wrap ((IntKind.i64.wrap (2+((af J 0).tmod 7)))+1))) 5) bM).length:Int) - 1))).frame.ways) 0)) 0)] (fun ms=> ?_) (fun ms=> ?_)
      ·
       exact bL ([(161,ah true)]++e4 [160,159,158,157,156,155]) trivial (by simp only[q2.2,eA,hl,hP,eV,kF.2,o3,ms]<;>kernel_rfl)
      ·
       replace h:=h ms
       have o4:=h
       refine hT 2 (some 156) [(155,bo (cd false) ((nth (bw (bk (IntKind.i64.wrap (2+((af J 0).tmod 7))) ((af J 1).tmod (IntKind.i64.wrap ((IntKind.i64.wrap (2+((af J 0).tmod 7)))+1))) 5) bM) (IntKind.i64.wrap (((bw (bk (IntKind.i64.wrap (2+((af J 0).tmod 7))) ((af J 1).tmod (IntKind.i64.wrap ((IntKind.i64.wrap (2+((af J 0).tmod 7)))+1))) 5) bM).length:Int) - 1))).frame.ways))] (cd false) ((nth (bw (bk (IntKind.i64.wrap (2+((af J 0).tmod 7))) ((af J 1).tmod (IntKind.i64.wrap ((IntKind.i64.wrap (2+((af J 0).tmod 7)))+1))) 5) bM) (IntKind.i64.wrap (((bw (bk (IntKind.i64.wrap (2+((af J 0).tmod 7))) ((af J 1).tmod (IntKind.i64.wrap ((IntKind.i64.wrap (2+((af J 0).tmod 7)))+1))) 5) bM).length:Int) - 1))).frame.ways) 5 o4 ?_
       exact bL [(161,ah (((nth ((nth (bw (bk (IntKind.i64.wrap (2+((af J 0).tmod 7))) ((af J 1).tmod (IntKind.i64.wrap ((IntKind.i64.wrap (2+((af J 0).tmod 7)))+1))) 5) bM) (IntKind.i64.wrap (((bw (bk (IntKind.i64.wrap (2+((af J 0).tmod 7))) ((af J 1).tmod (IntKind.i64.wrap ((IntKind.i64.wrap (2+((af J 0).tmod 7)))+1))) 5) bM).length:Int) - 1))).frame.ways) 0).gone) !=(bif (decide ((IntKind.i64.wrap ((IntKind.i64.wrap (bi - (IntKind.i64.wrap (1+((af J 2).tmod 2)))))+1))<0)) then 0 else(IntKind.i64.wrap ((IntKind.i64.wrap (bi - (IntKind.i64.wrap (1+((af J 2).tmod 2)))))+1))))),(160,ah (((nth ((nth (bw (bk (IntKind.i64.wrap (2+((af J 0).tmod 7))) ((af J 1).tmod (IntKind.i64.wrap ((IntKind.i64.wrap (2+((af J 0).tmod 7)))+1))) 5) bM) (IntKind.i64.wrap (((bw (bk (IntKind.i64.wrap (2+((af J 0).tmod 7))) ((af J 1).tmod (IntKind.i64.wrap ((IntKind.i64.wrap (2+((af J 0).tmod 7)))+1))) 5) bM).length:Int) - 1))).frame.ways) 0).gone) !=(bif (decide ((IntKind.i64.wrap ((IntKind.i64.wrap (bi - (IntKind.i64.wrap (1+((af J 2).tmod 2)))))+1))<0)) then 0 else(IntKind.i64.wrap ((IntKind.i64.wrap (bi - (IntKind.i64.wrap (1+((af J 2).tmod 2)))))+1))))),(159,ac (bif (decide ((IntKind.i64.wrap ((IntKind.i64.wrap (bi - (IntKind.i64.wrap (1+((af J 2).tmod 2)))))+1))<0)) then 0 else(IntKind.i64.wrap ((IntKind.i64.wrap (bi - (IntKind.i64.wrap (1+((af J 2).tmod 2)))))+1)))),(158,ac ((nth ((nth (bw (bk (IntKind.i64.wrap (2+((af J 0).tmod 7))) ((af J 1).tmod (IntKind.i64.wrap ((IntKind.i64.wrap (2+((af J 0).tmod 7)))+1))) 5) bM) (IntKind.i64.wrap (((bw (bk (IntKind.i64.wrap (2+((af J 0).tmod 7))) ((af J 1).tmod (IntKind.i64.wrap ((IntKind.i64.wrap (2+((af J 0).tmod 7)))+1))) 5) bM).length:Int) - 1))).frame.ways) 0).gone)),(157,.cZ (cd false (nth ((nth (bw (bk (IntKind.i64.wrap (2+((af J 0).tmod 7))) ((af J 1).tmod (IntKind.i64.wrap ((IntKind.i64.wrap (2+((af J 0).tmod 7)))+1))) 5) bM) (IntKind.i64.wrap (((bw (bk (IntKind.i64.wrap (2+((af J 0).tmod 7))) ((af J 1).tmod (IntKind.i64.wrap ((IntKind.i64.wrap (2+((af J 0).tmod 7)))+1))) 5) bM).length:Int) - 1))).frame.ways) 0)) 1)] trivial (by simp only[q2.2,eA,hl,hP,eV,kF.2,o3,ms]<;>kernel_rfl)
     unfold Dm at h
     refine cN (fun o5=> ?_) (fun o5=> ?_)
     ·
      replace h:=h.1 o5
      refine cQ [500036] 41 [(2,ah false)] [1] [] ?_
      exact e8 (bZ.ret (c4.ret (cU.ret (bZ.ret (c4.ret (iz (ah false) (gd.ee (iN h))))))))
     ·
      replace h:=h.2 o5
      refine c6 ?_
      refine bZ.normal ?_
      refine c4.normal ?_
      refine bm [500036] 26 ?_
      refine df [(13,ac (IntKind.i64.wrap (bi+1))),(95,ac (IntKind.i64.wrap (bi+1))),(94,ac bi)] ?_
      exact cU.again (ku,bM,(IntKind.i64.wrap (bi+1))) h (cC [])
   replace h:=h ix
   unfold Dc at h
   obtain⟨wE,h⟩:=h
   refine dD [] [9] (fun L=>(11,(fT false (nth (bw (bk (IntKind.i64.wrap (2+((af J 0).tmod 7))) ((af J 1).tmod (IntKind.i64.wrap ((IntKind.i64.wrap (2+((af J 0).tmod 7)))+1))) 5) aA) cl)))::L) id ((!((((nth (bw (bk (IntKind.i64.wrap (2+((af J 0).tmod 7))) ((af J 1).tmod (IntKind.i64.wrap ((IntKind.i64.wrap (2+((af J 0).tmod 7)))+1))) 5) aA) cl).code) !=0) || (((((nth (bw (bk (IntKind.i64.wrap (2+((af J 0).tmod 7))) ((af J 1).tmod (IntKind.i64.wrap ((IntKind.i64.wrap (2+((af J 0).tmod 7)))+1))) 5) aA) cl).frame.ways).length:Int) !=1) || (((nth ((nth (bw (bk (IntKind.i64.wrap (2+((af J 0).tmod 7))) ((af J 1).tmod (IntKind.i64.wrap ((IntKind.i64.wrap (2+((af J 0).tmod 7)))+1))) 5) aA) cl).frame.ways) 0).state) !=(bif (cl==((af J 1).tmod (IntKind.i64.wrap ((IntKind.i64.wrap (2+((af J 0).tmod 7)))+1)))) then 2 else 1)))))=true) ?_ (fun o_=> ?_)
   ·
    replace h:=wE
    refine dM 3 ?_
    obtain⟨uN,h⟩:=h
    refine dD [(10,ac cl),(11,an 11 0)] [9] (fun L=>(11,(fT false (nth (bw (bk (IntKind.i64.wrap (2+((af J 0).tmod 7))) ((af J 1).tmod (IntKind.i64.wrap ((IntKind.i64.wrap (2+((af J 0).tmod 7)))+1))) 5) aA) cl)))::L) id (True) ?_ (fun wN=> ?_)
    ·
     replace h:=uN
     refine bm [500036] 15 ?_
     have sA:=h
     refine hT 2 (some 58) [(57,ac cl)] (fT false) (bw (bk (IntKind.i64.wrap (2+((af J 0).tmod 7))) ((af J 1).tmod (IntKind.i64.wrap ((IntKind.i64.wrap (2+((af J 0).tmod 7)))+1))) 5) aA) 5 sA ?_
     exact bL [(10,ac cl),(11,an 11 0),(59,.agg (fT false (nth (bw (bk (IntKind.i64.wrap (2+((af J 0).tmod 7))) ((af J 1).tmod (IntKind.i64.wrap ((IntKind.i64.wrap (2+((af J 0).tmod 7)))+1))) 5) aA) cl)))] trivial
    refine cQ [500036] 16 [(12,ac 1)] [1] [11] ?_
    refine b0 [(12,ac (bif (cl==((af J 1).tmod (IntKind.i64.wrap ((IntKind.i64.wrap (2+((af J 0).tmod 7)))+1)))) then 2 else 1))] [0,2,10] (True) ?_ (fun zk=> ?_)
    ·
     refine cQ [500036] 17 [(62,ah (cl==((af J 1).tmod (IntKind.i64.wrap ((IntKind.i64.wrap (2+((af J 0).tmod 7)))+1))))),(61,ac ((af J 1).tmod (IntKind.i64.wrap ((IntKind.i64.wrap (2+((af J 0).tmod 7)))+1)))),(60,ac cl)] [1] [1,1,10] ?_
     refine cN (fun uM=> ?_) (fun uM=> ?_)
     ·
      refine bm [500036] 18 ?_
      exact bL [(12,ac 2)] trivial (by simp only[q2.2,eA,ix,uM]<;>kernel_rfl)
     ·
      refine c6 ?_
      exact bR.normal trivial (cW (by simp only[q2.2,eA,ix,uM]<;>kernel_rfl))
    unfold Db at h
    obtain⟨nw,h⟩:=h
    refine b0 [(82,ah ((((nth (bw (bk (IntKind.i64.wrap (2+((af J 0).tmod 7))) ((af J 1).tmod (IntKind.i64.wrap ((IntKind.i64.wrap (2+((af J 0).tmod 7)))+1))) 5) aA) cl).code) !=0) || (((((nth (bw (bk (IntKind.i64.wrap (2+((af J 0).tmod 7))) ((af J 1).tmod (IntKind.i64.wrap ((IntKind.i64.wrap (2+((af J 0).tmod 7)))+1))) 5) aA) cl).frame.ways).length:Int) !=1) || (((nth ((nth (bw (bk (IntKind.i64.wrap (2+((af J 0).tmod 7))) ((af J 1).tmod (IntKind.i64.wrap ((IntKind.i64.wrap (2+((af J 0).tmod 7)))+1))) 5) aA) cl).frame.ways) 0).state) !=(bif (cl==((af J 1).tmod (IntKind.i64.wrap ((IntKind.i64.wrap (2+((af J 0).tmod 7)))+1)))) then 2 else 1)))))] [0,2,9] (True) ?_ (fun sB=> ?_)
    ·
     replace h:=nw
     refine bm [500036] 19 ?_
     refine kI 4 66 (((nth (bw (bk (IntKind.i64.wrap (2+((af J 0).tmod 7))) ((af J 1).tmod (IntKind.i64.wrap ((IntKind.i64.wrap (2+((af J 0).tmod 7)))+1))) 5) aA) cl).code) !=0) [(65,ah (((nth (bw (bk (IntKind.i64.wrap (2+((af J 0).tmod 7))) ((af J 1).tmod (IntKind.i64.wrap ((IntKind.i64.wrap (2+((af J 0).tmod 7)))+1))) 5) aA) cl).code) !=0)),(64,ac ((nth (bw (bk (IntKind.i64.wrap (2+((af J 0).tmod 7))) ((af J 1).tmod (IntKind.i64.wrap ((IntKind.i64.wrap (2+((af J 0).tmod 7)))+1))) 5) aA) cl).code)),(63,an 11 0)] (fun sC=> ?_) (fun sC=> ?_)
     ·
      exact bL ([(82,ah true)]++e4 [81,80,79,78,77,76,75,74]++[(73,ah true),(72,ah true)]++e4 [71,70,69,68,67]) trivial (by simp only[q2.2,eA,ix,sC]<;>kernel_rfl)
     ·
      replace h:=h sC
      refine sLen 4 (some 70) [(69,bo (cd false) ((nth (bw (bk (IntKind.i64.wrap (2+((af J 0).tmod 7))) ((af J 1).tmod (IntKind.i64.wrap ((IntKind.i64.wrap (2+((af J 0).tmod 7)))+1))) 5) aA) cl).frame.ways)),(68,an 11 4),(67,an 11 1)] (cd false) ((nth (bw (bk (IntKind.i64.wrap (2+((af J 0).tmod 7))) ((af J 1).tmod (IntKind.i64.wrap ((IntKind.i64.wrap (2+((af J 0).tmod 7)))+1))) 5) aA) cl).frame.ways) (fun D8=> ?_)
      replace h:=h D8
      refine kI 3 73 ((((nth (bw (bk (IntKind.i64.wrap (2+((af J 0).tmod 7))) ((af J 1).tmod (IntKind.i64.wrap ((IntKind.i64.wrap (2+((af J 0).tmod 7)))+1))) 5) aA) cl).frame.ways).length:Int) !=1) [(72,ah ((((nth (bw (bk (IntKind.i64.wrap (2+((af J 0).tmod 7))) ((af J 1).tmod (IntKind.i64.wrap ((IntKind.i64.wrap (2+((af J 0).tmod 7)))+1))) 5) aA) cl).frame.ways).length:Int) !=1)),(71,ah ((((nth (bw (bk (IntKind.i64.wrap (2+((af J 0).tmod 7))) ((af J 1).tmod (IntKind.i64.wrap ((IntKind.i64.wrap (2+((af J 0).tmod 7)))+1))) 5) aA) cl).frame.ways).length:Int) !=1))] (fun wO=> ?_) (fun wO=> ?_)
      ·
       exact bL ([(82,ah true)]++e4 [81,80,79,78,77,76,75,74]) trivial (by simp only[q2.2,eA,ix,sC,wO]<;>kernel_rfl)
      ·
       replace h:=h wO
       have q8:=h
       refine hT 4 (some 77) [(76,bo (cd false) ((nth (bw (bk (IntKind.i64.wrap (2+((af J 0).tmod 7))) ((af J 1).tmod (IntKind.i64.wrap ((IntKind.i64.wrap (2+((af J 0).tmod 7)))+1))) 5) aA) cl).frame.ways)),(75,an 11 4),(74,an 11 1)] (cd false) ((nth (bw (bk (IntKind.i64.wrap (2+((af J 0).tmod 7))) ((af J 1).tmod (IntKind.i64.wrap ((IntKind.i64.wrap (2+((af J 0).tmod 7)))+1))) 5) aA) cl).frame.ways) 5 q8 ?_
       exact bL [(82,ah (((nth ((nth (bw (bk (IntKind.i64.wrap (2+((af J 0).tmod 7))) ((af J 1).tmod (IntKind.i64.wrap ((IntKind.i64.wrap (2+((af J 0).tmod 7)))+1))) 5) aA) cl).frame.ways) 0).state) !=(bif (cl==((af J 1).tmod (IntKind.i64.wrap ((IntKind.i64.wrap (2+((af J 0).tmod 7)))+1)))) then 2 else 1))),(81,ah (((nth ((nth (bw (bk (IntKind.i64.wrap (2+((af J 0).tmod 7))) ((af J 1).tmod (IntKind.i64.wrap ((IntKind.i64.wrap (2+((af J 0).tmod 7)))+1))) 5) aA) cl).frame.ways) 0).state) !=(bif (cl==((af J 1).tmod (IntKind.i64.wrap ((IntKind.i64.wrap (2+((af J 0).tmod 7)))+1)))) then 2 else 1))),(80,ac (bif (cl==((af J 1).tmod (IntKind.i64.wrap ((IntKind.i64.wrap (2+((af J 0).tmod 7)))+1)))) then 2 else 1)),(79,ac ((nth ((nth (bw (bk (IntKind.i64.wrap (2+((af J 0).tmod 7))) ((af J 1).tmod (IntKind.i64.wrap ((IntKind.i64.wrap (2+((af J 0).tmod 7)))+1))) 5) aA) cl).frame.ways) 0).state)),(78,.cZ (cd false (nth ((nth (bw (bk (IntKind.i64.wrap (2+((af J 0).tmod 7))) ((af J 1).tmod (IntKind.i64.wrap ((IntKind.i64.wrap (2+((af J 0).tmod 7)))+1))) 5) aA) cl).frame.ways) 0)) 0)] trivial (by simp only[q2.2,eA,ix,sC,wO]<;>kernel_rfl)
    unfold Da at h
    refine cN (fun p4=> ?_) (fun p4=> ?_)
    ·
     replace h:=h p4
     refine cQ [500036] 20 [(2,ah false)] [1] [] ?_
     exact e8 (bZ.ret (bR.ret (cU.ret (bZ.ret (c4.ret (iz (ah false) (gd.ee (iN h))))))))
    ·
     refine c6 ?_
     refine bZ.normal ?_
     exact bR.normal (by simp only[q2.2,eA,ix,p4]<;>rfl) cW
   replace h:=h o_
   refine bm [500036] 21 ?_
   refine df [(55,ac (IntKind.i64.wrap (cl+1))),(83,ac (IntKind.i64.wrap (cl+1)))] ?_
   exact cU.again (IntKind.i64.wrap (cl+1)) h (cC [11])
 replace h:=h gx
 unfold Dg at h
 obtain⟨uJ,h⟩:=h
 refine dD [(7,ae 0 (aR+1) ((aA++[(Event.mk 5 (IntKind.i64.wrap ((IntKind.i64.wrap (((af J 1).tmod (IntKind.i64.wrap ((IntKind.i64.wrap (2+((af J 0).tmod 7)))+1))) - 1)) - bP)) 2)]).length))] [4,1,1] id (fun H=>dC 0 ⟨(aR+1),3,List.map eE (aA++[(Event.mk 5 (IntKind.i64.wrap ((IntKind.i64.wrap (((af J 1).tmod (IntKind.i64.wrap ((IntKind.i64.wrap (2+((af J 0).tmod 7)))+1))) - 1)) - bP)) 2)])⟩ H) (True) ?_ (fun sx=> ?_)
 ·
  replace h:=uJ
  refine dM 1 ?_
  refine bm [500036] 11 ?_
  have uI:=h
  refine ra 8 (some 49) [(48,.be (List.map eE [(Event.mk 5 (IntKind.i64.wrap ((IntKind.i64.wrap (((af J 1).tmod (IntKind.i64.wrap ((IntKind.i64.wrap (2+((af J 0).tmod 7)))+1))) - 1)) - bP)) 2)]) true true),(47,.agg [ac 5,ac (IntKind.i64.wrap ((IntKind.i64.wrap (((af J 1).tmod (IntKind.i64.wrap ((IntKind.i64.wrap (2+((af J 0).tmod 7)))+1))) - 1)) - bP)),ac 2]),(46,ac (IntKind.i64.wrap ((IntKind.i64.wrap (((af J 1).tmod (IntKind.i64.wrap ((IntKind.i64.wrap (2+((af J 0).tmod 7)))+1))) - 1)) - bP))),(45,ac bP),(44,ac (IntKind.i64.wrap (((af J 1).tmod (IntKind.i64.wrap ((IntKind.i64.wrap (2+((af J 0).tmod 7)))+1))) - 1))),(43,ac ((af J 1).tmod (IntKind.i64.wrap ((IntKind.i64.wrap (2+((af J 0).tmod 7)))+1)))),(42,ae 0 aR aA.length)] eE aA [(Event.mk 5 (IntKind.i64.wrap ((IntKind.i64.wrap (((af J 1).tmod (IntKind.i64.wrap ((IntKind.i64.wrap (2+((af J 0).tmod 7)))+1))) - 1)) - bP)) 2)] (hR true (List.map eE [(Event.mk 5 (IntKind.i64.wrap ((IntKind.i64.wrap (((af J 1).tmod (IntKind.i64.wrap ((IntKind.i64.wrap (2+((af J 0).tmod 7)))+1))) - 1)) - bP)) 2)])) 0 aR 3 24 (fun r=>[⟨(aR+1),3,r⟩]) rfl uI ?_
  refine df [(7,ae 0 (aR+1) ((aA++[(Event.mk 5 (IntKind.i64.wrap ((IntKind.i64.wrap (((af J 1).tmod (IntKind.i64.wrap ((IntKind.i64.wrap (2+((af J 0).tmod 7)))+1))) - 1)) - bP)) 2)]).length))] ?_
  refine bZ.normal ?_
  exact bR.normal trivial cW
 unfold Df at h
 refine bm [500036] 10 ?_
 refine df [(8,ac (IntKind.i64.wrap (bP+1))),(41,ac (IntKind.i64.wrap (bP+1))),(40,ac bP)] ?_
 exact cU.again ((aR+1),(aA++[(Event.mk 5 (IntKind.i64.wrap ((IntKind.i64.wrap (((af J 1).tmod (IntKind.i64.wrap ((IntKind.i64.wrap (2+((af J 0).tmod 7)))+1))) - 1)) - bP)) 2)]),(IntKind.i64.wrap (bP+1))) h (cC [])
theorem UI (J:(List UInt8)):b3 Try.prog 8 [bo jg J] (ah (Gi J)):=UK J (Gi J) (fun _ x v=>cg (k9 J) (fun _=>false) v∧x=nd (k9 J).toNat v.toNat) (fun _ _ v=>cn (k9 J) v) (fun _ x _ v=>x=nd (k9 J).toNat (k9 J).toNat∧cg (k9 J+1) (fun _=>false) v) (fun _ _ _ v=>cn (k9 J+1) v) (fun _ _ _ _ _ x v=>(0≤v∧v<k_ J+o1 J)∧x=jI (k_ J).toNat (k9 J).toNat (o1 J).toNat v.toNat) (fun _ _ _ _ _ _ v=>cn (k_ J+o1 J) v) (fun _ _ _ _ _ _ v _ x=>x=(if v<k_ J then jI (k_ J).toNat (k9 J).toNat (o1 J).toNat v.toNat++[⟨3,v,0⟩] else jI (k_ J).toNat (k9 J).toNat (o1 J).toNat v.toNat)) (fun _ _ _ _ _ _ v _ _ _ x=>x=jI (k_ J).toNat (k9 J).toNat (o1 J).toNat (v.toNat+1)) (by
 obtain⟨n,m,l,gY,j5,bT,mY,n2,So,Si⟩:=VQ J
 have P:=VY mY n2 So Si
 have oG:IntKind.i64.wrap (2+(af J 0).tmod 7)=(n:Int):=gY
 have oF:(af J 1).tmod (IntKind.i64.wrap ((n:Int)+1))=(m:Int):=by
  have e:k9 J=(m:Int):=j5
  unfold k9 at e;rw[gY] at e;exact e
 have oE:IntKind.i64.wrap (1+(af J 2).tmod 2)=(l:Int):=bT
 have tS:(bw (bk n m 5) (nd m m)).length=m+1:=by rw[zu P.k1 (by rw[qv];omega),sF,qv]
 have kx:IntKind.i64.wrap ((n:Int)+l)=(n:Int)+l:=gb (by omega) (by omega)
 unfold C8 Di
 simp only[oG,oF,oE]
 refine⟨fun _ _=>rfl,fun⟨_,aI⟩=> ?_⟩
 have aI:J.length≤1048576:=by
  have aI: ¬((J.length:Int)>1048576):=by simpa using aI
  omega
 refine⟨⟨⟨aI,by decide⟩,by decide⟩,⟨⟨aI,by decide⟩,by rw[show IntKind.i64.wrap ((n:Int)+1)=(n:Int)+1 from gb (by omega) (by omega)];omega⟩,⟨⟨aI,by decide⟩,by decide⟩,?_⟩
 unfold Dh
 simp only[oG,oF,oE,gY,j5,bT,Int.toNat_natCast]
 refine⟨⟨by omega,by omega,by omega,by omega⟩,⟨cS (by omega),rfl⟩,fun g x v aM=> ?_⟩
 obtain⟨aM,rfl⟩:=aM
 have fA:=aM.1
 have I1:=aM.2.1
 refine⟨?_,fun hv=> ?_⟩
 ·unfold De
  simp only[oG,oF,oE,gY,j5,bT,Int.toNat_natCast]
  intro hv
  have jp: ¬v<(m:Int):=of_decide_eq_false hv
  have I1:v.toNat=m:=by omega
  rw[I1]
  refine⟨by rw[qv];omega,fun aJ=>⟨⟨rfl,cS (by omega)⟩,fun u jJ=> ?_⟩⟩
  obtain⟨_,jJ⟩:=jJ
  have IY:=jJ.1
  have ZX:=jJ.2.1
  unfold Dd
  simp only[oG,oF,oE,gY,j5,bT,Int.toNat_natCast]
  rw[tS]
  refine⟨fun hu=>⟨fun aj=> ?_,fun _=> ?_⟩,fun hu=> ?_⟩
  ·rw[show IntKind.i64.wrap ((m:Int)+1)=(m:Int)+1 from gb (by omega) (by omega)] at aj
   simp at aj
  ·unfold C_
   simp only[oG,oF,oE,gY,j5,bT,Int.toNat_natCast]
   rw[kx]
   refine⟨⟨⟨by omega,by omega⟩,rfl⟩,fun dy lH w cu=> ?_⟩
   obtain⟨⟨a_,b_⟩,rfl⟩:=cu
   refine⟨fun hw=>absurd b_ (of_decide_eq_false hw),fun _=> ?_⟩
   obtain⟨k,rfl⟩: ∃k:Nat,w=k:=⟨w.toNat,by omega⟩
   have hk:k<n+l:=by omega
   have hlen:=xW n m l k
   have BL:=xW n m l (k+1)
   obtain⟨y,bA,hs,aO⟩:=P.two k hk
   have jo:(bw (bk n m 5) (jI n m l (k+1))).length=(jI n m l (k+1)).length:=by rw[zu P.k1 (by omega),sF]
   have t_:IntKind.i64.wrap (((jI n m l (k+1)).length:Int) - 1)=((jI n m l (k+1)).length:Int) - 1:=gb (by omega) (by omega)
   have I3:IntKind.i64.wrap ((k:Int) - l)=(k:Int) - l:=gb (by omega) (by omega)
   have k4:IntKind.i64.wrap ((k:Int)+1)=(k:Int)+1:=gb (by omega) (by omega)
   have kv:(bif (decide ((IntKind.i64.wrap ((k:Int) - l+1))<0)) then 0 else(IntKind.i64.wrap ((k:Int) - l+1)))=((k+1 - l:Nat):Int):=by
    rw[show IntKind.i64.wrap ((k:Int) - l+1)=(k:Int) - l+1 from gb (by omega) (by omega)]
    by_cases c:(k:Int) - l+1<0
    ·rw[show decide ((k:Int) - l+1<0)=true by simpa using c]
     show(0:Int)=_;omega
    ·rw[show decide ((k:Int) - l+1<0)=false by simpa using c]
     show(k:Int) - l+1=_;omega
   unfold Dr
   simp only[oG,oF,oE,gY,j5,bT,Int.toNat_natCast]
   refine⟨⟨fun hc=>⟨⟨by simp only[List.length_singleton];omega,by simp only[List.length_singleton];omega⟩,?_⟩,fun hc=> ?_⟩,fun ZK Ge Ic=> ?_⟩
   ·rw[if_pos (of_decide_eq_true hc)]
   ·rw[if_neg (of_decide_eq_false hc)]
   have ZY:Ge.length≤m+1+2*k+1:=by
    rw[Ic];split
    ·rw[List.length_append,List.length_singleton];omega
    ·omega
   have I4:jI n m l (k+1)=if l≤k then Ge++[⟨4,(k:Int) - l,0⟩] else Ge:=by
    conv=>lhs;unfold jI
    rw[Ic]
    by_cases c:k<n
    ·have ea:(k:Int)<n:=by omega
     rw[if_pos c,if_pos ea]
    ·have ea: ¬(k:Int)<n:=by omega
     rw[if_neg c,if_neg ea]
   refine⟨?_,fun bX Gf tB=> ?_⟩
   ·unfold C9
    simp only[oG,oF,oE,gY,j5,bT,Int.toNat_natCast,I3]
    refine⟨fun hc=>⟨⟨by simp only[List.length_singleton];omega,by simp only[List.length_singleton];omega⟩,?_⟩,fun hc=> ?_⟩
    ·have hc:=of_decide_eq_true hc
     rw[I4,if_pos (by omega)]
    ·have hc:=of_decide_eq_false hc
     rw[I4,if_neg (by omega)]
   subst tB
   refine⟨by omega,?_⟩
   have ky:=BL.1
   unfold Dq Dp Dn Dm Dl Dk Dj
   simp only[oG,oF,oE,gY,j5,bT,Int.toNat_natCast,jo,t_,I3,kv,bA,Xn,k4]
   have a0:nth [y] (0:Int)=y:=rfl
   rw[a0,hs]
   refine⟨fun _=>⟨by omega,by omega⟩,fun _=>⟨fun _ aj=>by simp at aj,fun _=>⟨fun aj=>⟨⟨⟨by decide,Nat.lt_add_one 0⟩,fun _=>by omega⟩,?_⟩,fun aj=>⟨⟨⟨by decide,Nat.lt_add_one 0⟩,fun _=>⟨by decide,Nat.lt_add_one 0⟩⟩,fun lR=> ?_,fun _=>⟨⟨⟨by omega,?_⟩,?_⟩,?_⟩⟩⟩⟩⟩
   ·have aj:((k+1 - l:Nat):Int)=n:=by simpa using aj
    rw[if_pos (by omega)]
    simp[eqv,Gi]
   ·have aj: ¬((k+1 - l:Nat):Int)=n:=by simpa using aj
    have cO:k+1<n+l:=by omega
    rw[if_neg (by omega),aO cO] at lR
    simp at lR
   ·have aj: ¬((k+1 - l:Nat):Int)=n:=by simpa using aj
    omega
   ·rw[show((k:Int)+1).toNat=k+1 by omega]
   ·unfold cn;omega
  ·have lS:u<((m+1:Nat):Int):=of_decide_eq_true hu
   obtain⟨bF,y,bA,hs⟩:=P.one u IY (by omega)
   unfold Dc Db Da
   simp only[oG,oF,oE,gY,j5,bT,Int.toNat_natCast,bA,bF,tS]
   have a0:nth [y] (0:Int)=y:=rfl
   rw[a0,hs]
   have bd:=cq (N:=(m:Int)+1) (by omega) jJ (decide_eq_true (by omega)) rfl
   refine⟨⟨⟨IY,by omega⟩,fun _ _ _=>⟨by decide,Nat.lt_add_one 0⟩,fun aj=> ?_⟩,fun _=>⟨⟨trivial,bd.1⟩,bd.2⟩⟩
   by_cases c:u=m
   ·rw[if_pos c,show(u==(m:Int))=true by simpa using c] at aj
    simp at aj
   ·rw[if_neg c,show(u==(m:Int))=false by simpa using c] at aj
    simp at aj
 ·have bd:=cq (by omega) aM hv rfl
  have jp:v<(m:Int):=of_decide_eq_true hv
  have me:=qv m v.toNat
  unfold Dg Df
  simp only[oG,oF,oE,gY,j5,bT,Int.toNat_natCast]
  refine⟨⟨by rw[me];simp only[List.length_singleton];omega,by rw[me];simp only[List.length_singleton];omega⟩,⟨bd.1,?_⟩,bd.2⟩
  rw[ho (by omega) fA jp,show(v+1).toNat=v.toNat+1 by omega,show IntKind.i64.wrap ((m:Int) - 1)=(m:Int) - 1 from gb (by omega) (by omega),show IntKind.i64.wrap ((m:Int) - 1 - v)=(m:Int) - 1 - v from gb (by omega) (by omega)]
  conv=>rhs;unfold nd
  rw[Int.toNat_of_nonneg fA])
end Go.Proofs.Ytglpfccgmfhkdaa.Fw
