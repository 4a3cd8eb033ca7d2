/- Walks and summaries of functions, printed by a program of mine (tools/mk2.py), with the proofs of what they owe. -/
import Derived.Test.YtglpfccgmfhkdaaM6
set_option linter.unusedVariables false
set_option maxRecDepth 100000
set_option maxHeartbeats 4000000
set_option linter.unusedSimpArgs false
namespace Go.Proofs.Ytglpfccgmfhkdaa.Fw
open Go
attribute [local irreducible] evS evSD WpS Weak Oper.looksAt
noncomputable def F5:Code:=iI Try.f33
def Zw:List Item:=[ap 0,ap 1,ap 2,ap 3,⟨4,true,false,[0,1]⟩,⟨5,true,false,[0,1]⟩,⟨6,true,false,[]⟩,ap 7,⟨8,true,false,[]⟩]
def Zx:List (List Nat):=[[],[0],[],[],[2,3],[2,3,4],rg 0 6,rg 0 7,rg 0 8]
abbrev iQ (r:Type):Type:=Nat→(List a_)→Int→List (List Bool)→Nat→Nat→List Nat→Int→List ad→r
def F1 (aQ:iQ Prop) (aR:iQ Nat) (J:az) (aT:Nat) (aH:(List a_)) (dg:Int) (aZ:List (List Bool)) (a1 bT:Nat) (aS:List Nat) (bd:Int) (ws2:List ad):Prop:=
  aQ aT aH dg (aZ++[(a6 J bd).ac]) (a1+1) (bT+1) (aS++[aZ.length]) (IntKind.i64.wrap (bd+1)) (ws2++[(ad.mk (a6 J bd).ao (a6 J bd).ag (a6 J bd).ac (a6 J bd).aq (a6 J bd).ar)])∧aR aT aH dg (aZ++[(a6 J bd).ac]) (a1+1) (bT+1) (aS++[aZ.length]) (IntKind.i64.wrap (bd+1)) (ws2++[(ad.mk (a6 J bd).ao (a6 J bd).ag (a6 J bd).ac (a6 J bd).aq (a6 J bd).ar)])<aR aT aH dg aZ a1 bT aS bd ws2
def F2 (aQ:iQ Prop) (aR:iQ Nat) (J:az) (al:Frame) (aT:Nat) (aH:(List a_)) (dg:Int) (aZ:List (List Bool)) (a1 bT:Nat) (aS:List Nat) (bd:Int) (ws2:List ad):Prop:=
  ((decide (bd<(J.O.length:Int)))=false→(true=al.ok)∧((List.replicate J.af.toNat false).length≤4611686018427387904∧(List.replicate J.af.toNat false)=al.av)∧(aH.length≤4611686018427387904∧aH=al.au)∧(ke ws2 aS aZ∧ws2.length≤4611686018427387904∧(∀x∈aZ,List.length x≤4611686018427387904)∧view ws2 aS aZ=al.O))∧((decide (bd<(J.O.length:Int)))=true→((w1 J bd)∧(ws2.length=aS.length∧((ws2.length+1)*56≤140737488355328∧ws2.length+1≤4611686018427387904)))∧(F1 aQ aR J aT aH dg aZ a1 bT aS bd ws2))
abbrev mP (r:Type):Type:=Nat→(List a_)→Int→r
def F3 (ay:mP Prop) (aB:mP Nat) (aQ:iQ Prop) (aR:iQ Nat) (J:az) (al:Frame) (aT:Nat) (aH:(List a_)) (dg:Int):Prop:=
  ((decide (dg<(J.be.length:Int)))=false→J.O.length≤4611686018427387904→aQ aT aH dg ([]:List (List Bool)) 0 0 ([]:List Nat) 0 ([]:List ad)∧ ∀(aZ:List (List Bool)) (a1:Nat) (bT:Nat) (aS:List Nat) (bd:Int) (ws2:List ad),aQ aT aH dg aZ a1 bT aS bd ws2→(F2 aQ aR J al aT aH dg aZ a1 bT aS bd ws2))∧((decide (dg<(J.be.length:Int)))=true→((aH.length+[(a_.mk 1 1)].length)*16≤140737488355328∧aH.length+[(a_.mk 1 1)].length≤4611686018427387904)∧(ay (aT+1) (aH++[(a_.mk 1 1)]) (IntKind.i64.wrap (dg+1))∧aB (aT+1) (aH++[(a_.mk 1 1)]) (IntKind.i64.wrap (dg+1))<aB aT aH dg))
def F4 (ay:mP Prop) (aB:mP Nat) (aQ:iQ Prop) (aR:iQ Nat) (J:az) (al:Frame):Prop:=
  ((!(ea J))=true→(false=al.ok)∧([]=al.av)∧([]=al.au)∧([]=al.O))∧((!(!(ea J)))=true→(0≤J.af∧1*J.af≤140737488355328∧J.af≤4611686018427387904)∧(J.be.length≤4611686018427387904→ay 0 ([]:List a_) 0∧ ∀(aT:Nat) (aH:(List a_)) (dg:Int),ay aT aH dg→(F3 ay aB aQ aR J al aT aH dg)))
def F0 (J:az) (al:Frame) (ay:mP Prop) (aB:mP Nat) (aQ:iQ Prop) (aR:iQ Nat):Prop:=
 F4 ay aB aQ aR J al
theorem Zy (J:az) (al:Frame) (ay:mP Prop) (aB:mP Nat) (aQ:iQ Prop) (aR:iQ Nat) (h:F0 J al ay aB aQ aR):b2 Try.prog 33 [.agg (bg false J)] (.agg (b1 true al)):=by
 unfold F0 at h
 refine dI.go (fn:=Try.f33) [(0,.agg (bg false J))] Try.func33 (fun _ _=> ?_)
 show WpS _ (bX F5 1) _ ⟨bh 41 [(0,.agg (bg false J))],[],[]⟩
 refine qx [1000003] 0 [(2,aA 2 0),(1,aA 1 0)] [2] [] [(2,[an false,aG,aG,aG]),(1,(bg false J))] [] ?_
 unfold F4 at h
 obtain⟨k_,h⟩:=h
 refine cD [] [2] ((!(!(ea J)))=true) ?_ (fun q2=> ?_)
 ·
  replace h:=k_
  refine cD [(7,an (!(ea J)))] [2] (True) ?_ (fun q3=> ?_)
  ·
   refine bL [1000003] 1 ?_
   refine mj 2 (some 6) [(5,.agg (bg false J))] [.agg (bg false J)] (Nr J) (aD.cons (da.agg (aD.cons (.int _ _) (aD.cons cI (aD.cons cI (aD.cons cI (aD.cons (.int _ _) aD.nil)))))) aD.nil) ?_
   exact b5 [(7,an (!(ea J)))] trivial
  refine dJ (fun q4=> ?_) (fun q4=> ?_)
  ·
   replace h:=h q4
   refine ei [1000003] 2 [(8,.agg [an false,aG,aG,aG])] [] [0,1,1] ?_
   exact hB (ci.ret (nk (.agg [an false,aG,aG,aG]) (im.agg (aD.cons (nm h.1) (aD.cons (rn h.2.1) (aD.cons (rn h.2.2.1) (aD.cons (rn h.2.2.2) aD.nil)))))))
  ·
   refine ep ?_
   exact ci.normal (by simp only[q4]<;>rfl) ef
 replace h:=h q2
 obtain⟨ju,h⟩:=h
 refine e_ [(3,aA 3 0)] [2] (fun L=>(3,[an true,ak 0 0 (List.replicate J.af.toNat false).length,aG,aG])::L) (fun _=>[⟨0,1,List.map aY (List.replicate J.af.toNat false)⟩]) (True) ?_ (fun c4=> ?_)
 ·
  replace h:=ju
  refine bL [1000003] 3 ?_
  have fN:=h
  refine H5 3 (some 11) [(10,ah J.af),(9,aA 1 0)] aY 1 [an false] 0 (fun r=>[⟨0,1,r⟩]) false fN ?_
  exact b5 [(3,aA 3 0),(12,.agg [an true,ak 0 0 (List.replicate J.af.toNat false).length,aG,aG])] trivial
 refine hN ?_
 refine cD [(15,ah (J.be.length:Int)),(16,ah 0)] [3] (J.be.length≤4611686018427387904) ?_ (fun fD=> ?_)
 ·
  refine bL [1000003] 4 ?_
  refine sLen 3 (some 15) [(14,bK c_ J.be),(13,aA 1 1)] c_ J.be (fun iM=> ?_)
  exact b5 [(16,ah 0)] iM
 replace h:=h fD
 refine fo 0 ?_
 refine WpS.mq ?_ (hz (s'':=⟨(bh 41 [(15,ah (J.be.length:Int)),(16,ah 0),(3,aA 3 0),(2,aA 2 0),(1,aA 1 0)]),[(3,[an true,ak 0 0 (List.replicate J.af.toNat false).length,ak 1 0 ([]:List a_).length,aG]),(2,[an false,aG,aG,aG]),(1,(bg false J))],[⟨0,1,List.map aY (List.replicate J.af.toNat false)⟩,⟨0,2,List.map a7 ([]:List a_)⟩]⟩) (Weak.tU (T:=(bh 41 [(15,ah (J.be.length:Int)),(16,ah 0),(3,aA 3 0),(2,aA 2 0),(1,aA 1 0)])) (L:=[(3,[an true,ak 0 0 (List.replicate J.af.toNat false).length,aG,aG]),(2,[an false,aG,aG,aG]),(1,(bg false J))]) (H:=[⟨0,1,List.map aY (List.replicate J.af.toNat false)⟩]) (cells:=[an true,ak 0 0 (List.replicate J.af.toNat false).length,aG,aG]) 3 2 2 (by kernel_rfl) (by kernel_rfl)) (by kernel_rfl))
 obtain⟨nd,h⟩:=h
 refine kf (fun(v:Nat×(List a_)×Int)=>(⟨(bh 41 [(1,aA 1 0),(2,aA 2 0),(3,aA 3 0),(15,ah (J.be.length:Int)),(16,ah (v.2.2))]),[(3,[an true,ak 0 0 (List.replicate J.af.toNat false).length,ak 1 (v.1) (v.2.1).length,aG]),(2,[an false,aG,aG,aG]),(1,(bg false J))],[⟨0,1,List.map aY (List.replicate J.af.toNat false)⟩,⟨(v.1),2,List.map a7 (v.2.1)⟩]⟩:St)) (fun(v:Nat×(List a_)×Int)=>ay (v.1) (v.2.1) (v.2.2)) (fun(v:Nat×(List a_)×Int)=>aB (v.1) (v.2.1) (v.2.2)) (0,([]:List a_),0) (dC []) nd (fun v aX=> ?_)
 obtain⟨aT,aH,dg⟩:=v
 replace h:=h aT aH dg aX
 dsimp only
 refine ei [1000003] 5 [(17,an (decide (dg<(J.be.length:Int))))] [1] [5] ?_
 unfold F3 at h
 obtain⟨nM,h⟩:=h
 refine cD [] [0,1,5] ((decide (dg<(J.be.length:Int)))=true) ?_ (fun ix=> ?_)
 ·
  replace h:=nM
  refine dJ (fun h_=> ?_) (fun h_=> ?_)
  ·
   refine ep ?_
   exact ci.normal (by simp only[q2,h_]<;>rfl) ef
  ·
   replace h:=h h_
   refine iY 0 ?_
   refine ci.exit ?_
   refine dZ.exit ?_
   refine cr.here ?_
   refine eb.normal ?_
   refine hN ?_
   refine jW ⟨(bh 41 [(1,aA 1 0),(2,aA 2 0),(3,aA 3 0),(27,ah (J.O.length:Int)),(28,ah 0)]),[(3,[an true,ak 0 0 (List.replicate J.af.toNat false).length,ak 1 aT aH.length,aG]),(2,[an false,aG,aG,aG]),(1,(bg false J))],[⟨0,1,List.map aY (List.replicate J.af.toNat false)⟩,⟨aT,2,List.map a7 aH⟩]⟩ (J.O.length≤4611686018427387904) ?_ (fun fH=> ?_)
   ·
    refine bL [1000003] 8 ?_
    refine sLen 3 (some 27) [(26,bK (dw false) J.O),(25,aA 1 2)] (dw false) J.O (fun q9=> ?_)
    exact b5 [(28,ah 0)] q9
   replace h:=h fH
   refine fo 2 ?_
   refine WpS.mq ?_ (hz (s'':=⟨(bh 41 [(1,aA 1 0),(2,aA 2 0),(3,aA 3 0),(27,ah (J.O.length:Int)),(28,ah 0)]),[(3,[an true,ak 0 0 (List.replicate J.af.toNat false).length,ak 1 aT aH.length,ak 2 0 ([]:List ad).length]),(2,[an false,aG,aG,aG]),(1,(bg false J))],[⟨0,1,List.map aY (List.replicate J.af.toNat false)⟩,⟨aT,2,List.map a7 aH⟩,⟨0,5,a0 4 ([]:List ad) ([]:List Nat)⟩]⟩) (Weak.tU (T:=(bh 41 [(1,aA 1 0),(2,aA 2 0),(3,aA 3 0),(27,ah (J.O.length:Int)),(28,ah 0)])) (L:=[(3,[an true,ak 0 0 (List.replicate J.af.toNat false).length,ak 1 aT aH.length,aG]),(2,[an false,aG,aG,aG]),(1,(bg false J))]) (H:=[⟨0,1,List.map aY (List.replicate J.af.toNat false)⟩,⟨aT,2,List.map a7 aH⟩]) (cells:=[an true,ak 0 0 (List.replicate J.af.toNat false).length,ak 1 aT aH.length,aG]) 3 3 5 (by kernel_rfl) (by kernel_rfl)) (by kernel_rfl))
   refine WpS.mq ?_ (hz (s'':=⟨(bh 41 [(1,aA 1 0),(2,aA 2 0),(3,aA 3 0),(27,ah (J.O.length:Int)),(28,ah 0)]),[(3,[an true,ak 0 0 (List.replicate J.af.toNat false).length,ak 1 aT aH.length,ak 2 0 ([]:List ad).length]),(2,[an false,aG,aG,aG]),(1,(bg false J))],(⟨0,1,List.map aY (List.replicate J.af.toNat false)⟩::⟨aT,2,List.map a7 aH⟩::⟨0,5,a0 4 ([]:List ad) ([]:List Nat)⟩::⟨0,5,[]⟩::List.map bm ([]:List (List Bool)))⟩) (Weak.w9 (T:=(bh 41 [(1,aA 1 0),(2,aA 2 0),(3,aA 3 0),(27,ah (J.O.length:Int)),(28,ah 0)])) (L:=[(3,[an true,ak 0 0 (List.replicate J.af.toNat false).length,ak 1 aT aH.length,ak 2 0 ([]:List ad).length]),(2,[an false,aG,aG,aG]),(1,(bg false J))]) (H:=[⟨0,1,List.map aY (List.replicate J.af.toNat false)⟩,⟨aT,2,List.map a7 aH⟩,⟨0,5,a0 4 ([]:List ad) ([]:List Nat)⟩]) 5) (by kernel_rfl))
   obtain⟨iz,h⟩:=h
   refine kf (fun(v:List (List Bool)×Nat×Nat×List Nat×Int×List ad)=>(⟨(bh 41 [(1,aA 1 0),(2,aA 2 0),(3,aA 3 0),(27,ah (J.O.length:Int)),(28,ah (v.2.2.2.2.1))]),[(3,[an true,ak 0 0 (List.replicate J.af.toNat false).length,ak 1 aT aH.length,ak 2 (v.2.1) (v.2.2.2.2.2).length]),(2,[an false,aG,aG,aG]),(1,(bg false J))],(⟨0,1,List.map aY (List.replicate J.af.toNat false)⟩::⟨aT,2,List.map a7 aH⟩::⟨(v.2.1),5,a0 4 (v.2.2.2.2.2) (v.2.2.2.1)⟩::⟨(v.2.2.1),5,[]⟩::List.map bm (v.1))⟩:St)) (fun(v:List (List Bool)×Nat×Nat×List Nat×Int×List ad)=>aQ aT aH dg (v.1) (v.2.1) (v.2.2.1) (v.2.2.2.1) (v.2.2.2.2.1) (v.2.2.2.2.2)) (fun(v:List (List Bool)×Nat×Nat×List Nat×Int×List ad)=>aR aT aH dg (v.1) (v.2.1) (v.2.2.1) (v.2.2.2.1) (v.2.2.2.2.1) (v.2.2.2.2.2)) (([]:List (List Bool)),0,0,([]:List Nat),0,([]:List ad)) (dC []) iz (fun v aX=> ?_)
   obtain⟨aZ,a1,bT,aS,bd,ws2⟩:=v
   replace h:=h aZ a1 bT aS bd ws2 aX
   dsimp only
   refine ei [1000003] 9 [(29,an (decide (bd<(J.O.length:Int))))] [1] [5] ?_
   unfold F2 at h
   obtain⟨ha,h⟩:=h
   refine cD [] [0,1,5] ((decide (bd<(J.O.length:Int)))=true) ?_ (fun j7=> ?_)
   ·
    replace h:=ha
    refine dJ (fun hS=> ?_) (fun hS=> ?_)
    ·
     refine ep ?_
     exact ci.normal (by simp only[q2,h_,hS]<;>rfl) ef
    ·
     replace h:=h hS
     refine iY 2 ?_
     refine ci.exit ?_
     refine dZ.exit ?_
     refine cr.here ?_
     refine eb.normal ?_
     refine jW ⟨(bh 41 [(2,aA 2 0)]),[(3,[an true,ak 0 0 (List.replicate J.af.toNat false).length,ak 1 aT aH.length,ak 2 a1 ws2.length]),(2,[an true,ak 0 0 (List.replicate J.af.toNat false).length,ak 1 aT aH.length,ak 2 a1 ws2.length]),(1,(bg false J))],(⟨0,1,List.map aY (List.replicate J.af.toNat false)⟩::⟨aT,2,List.map a7 aH⟩::⟨a1,5,a0 4 ws2 aS⟩::⟨bT,5,[]⟩::List.map bm aZ)⟩ (True) ?_ (fun mc=> ?_)
     ·
      refine bL [1000003] 13 ?_
      exact b5 [(40,.agg [an true,ak 0 0 (List.replicate J.af.toNat false).length,ak 1 aT aH.length,ak 2 a1 ws2.length])] trivial
     exact hB (nk (.agg [an true,ak 0 0 (List.replicate J.af.toNat false).length,ak 1 aT aH.length,ak 2 a1 ws2.length]) (im.agg (aD.cons (nm h.1) (aD.cons (rm (sz:=1) (by simp) rfl (v0) h.2.1) (aD.cons (rm (sz:=2) (by simp) rfl (yn) h.2.2.1) (aD.cons (C3 (s:=4) (ws:=ws2) (ids:=aS) (bs:=aZ) (by simp) rfl (fun id k h=>by simpa using h) h.2.2.2) aD.nil))))))
   replace h:=h j7
   obtain⟨ih,h⟩:=h
   refine e_ [] [5] (fun L=>hY 0 3 (ak 2 (a1+1) (ws2++[(ad.mk (a6 J bd).ao (a6 J bd).ag (a6 J bd).ac (a6 J bd).aq (a6 J bd).ar)]).length) L) (fun _=>(⟨0,1,List.map aY (List.replicate J.af.toNat false)⟩::⟨aT,2,List.map a7 aH⟩::⟨(a1+1),5,a0 4 (ws2++[(ad.mk (a6 J bd).ao (a6 J bd).ag (a6 J bd).ac (a6 J bd).aq (a6 J bd).ar)]) (aS++[aZ.length])⟩::⟨(bT+1),5,[[ah (a6 J bd).ao,ah (a6 J bd).ag,ak (aZ.length+4) 0 (a6 J bd).ac.length,an (a6 J bd).aq,ah (a6 J bd).ar]]⟩::List.map bm (aZ++[(a6 J bd).ac]))) (True) ?_ (fun hF=> ?_)
   ·
    replace h:=ih
    refine fo 3 ?_
    refine ei [1000003] 10 [(4,ah bd),(30,ah bd)] [1] [5] ?_
    refine nj [1000003] 11 Zw Zx [] ?_
    obtain⟨ku,h⟩:=h
    refine Dd 5 (some 35) [(34,ah bd),(33,.agg (bg false J)),(32,ak 2 a1 ws2.length),(31,aA 3 3)] [.agg (bg false J),ah bd] (fun L H=>pD Try.prog (jg F5 16025) [0,1] [(34,ah bd),(33,.agg (bg false J)),(32,ak 2 a1 ws2.length),(31,aA 3 3),(4,ah bd),(1,aA 1 0),(2,aA 2 0),(3,aA 3 0),(27,ah (J.O.length:Int)),(28,ah bd)] L H) (.agg [ah (a6 J bd).ao,ah (a6 J bd).ag,ak (aZ.length+4) 0 (a6 J bd).ac.length,an (a6 J bd).aq,ah (a6 J bd).ar]) (⟨0,1,List.map aY (List.replicate J.af.toNat false)⟩::⟨aT,2,List.map a7 aH⟩::⟨a1,5,a0 4 ws2 aS⟩::⟨bT,5,[]⟩::List.map bm (aZ++[(a6 J bd).ac])) (B5 J bd ku) (aD.cons (da.agg (aD.cons (.int _ _) (aD.cons cI (aD.cons cI (aD.cons cI (aD.cons (.int _ _) aD.nil)))))) (aD.cons (da.h8 (.int _ _)) aD.nil)) (q5 (fun _=>rfl) rfl) (rl (rk (fun _=>rfl) rfl) (by simp only[List.cons_append,List.map_nil,rM])) (th (ψ:=((true=true∧true=true∧((aA 3 3:AV)=aA 3 3))∧((true=true∧true=true∧((ak 2 a1 ws2.length:AV)=ak 2 a1 ws2.length))∧True))) (by kernel_rfl) ⟨⟨rfl,rfl,rfl⟩,⟨⟨rfl,rfl,rfl⟩,trivial⟩⟩) ?_ (er:=by simp[mK,nR,iP])
    refine Aa 1 [(36,.ref 3 (bT+1) 0 1 true)] [(3,[an true,ak 0 0 (List.replicate J.af.toNat false).length,ak 1 aT aH.length,ak 2 a1 ws2.length]),(2,[an false,aG,aG,aG]),(1,(bg false J))] (⟨0,1,List.map aY (List.replicate J.af.toNat false)⟩::⟨aT,2,List.map a7 aH⟩::⟨a1,5,a0 4 ws2 aS⟩::⟨(bT+1),5,[[ah (a6 J bd).ao,ah (a6 J bd).ag,ak (aZ.length+4) 0 (a6 J bd).ac.length,an (a6 J bd).aq,ah (a6 J bd).ar]]⟩::List.map bm (aZ++[(a6 J bd).ac])) (φ:=pD Try.prog (jg F5 16025) [0,1] [(35,.agg [ah (a6 J bd).ao,ah (a6 J bd).ag,ak (aZ.length+4) 0 (a6 J bd).ac.length,an (a6 J bd).aq,ah (a6 J bd).ar]),(34,ah bd),(33,.agg (bg false J)),(32,ak 2 a1 ws2.length),(31,aA 3 3),(4,ah bd),(1,aA 1 0),(2,aA 2 0),(3,aA 3 0),(27,ah (J.O.length:Int)),(28,ah bd)] [(3,[an true,ak 0 0 (List.replicate J.af.toNat false).length,ak 1 aT aH.length,ak 2 a1 ws2.length]),(2,[an false,aG,aG,aG]),(1,(bg false J))] (⟨0,1,List.map aY (List.replicate J.af.toNat false)⟩::⟨aT,2,List.map a7 aH⟩::⟨a1,5,a0 4 ws2 aS⟩::⟨(bT+1),5,[[ah (a6 J bd).ao,ah (a6 J bd).ag,ak (aZ.length+4) 0 (a6 J bd).ac.length,an (a6 J bd).aq,ah (a6 J bd).ar]]⟩::List.map bm (aZ++[(a6 J bd).ac]))) (th (ψ:=((true=true∧true=true∧((aA 3 3:AV)=aA 3 3))∧((true=true∧true=true∧((ak 2 a1 ws2.length:AV)=ak 2 a1 ws2.length))∧True))) (by kernel_rfl) ⟨⟨rfl,rfl,rfl⟩,⟨⟨rfl,rfl,rfl⟩,trivial⟩⟩) ?_
    have jM:=h
    refine SW 1 (some 37) [] 4 2 a1 (bT+1) 56 ws2 aS (ad.mk (a6 J bd).ao (a6 J bd).ag (a6 J bd).ac (a6 J bd).aq (a6 J bd).ar) aZ.length (fun _=>True) (fun r=>(⟨0,1,List.map aY (List.replicate J.af.toNat false)⟩::⟨aT,2,List.map a7 aH⟩::⟨(a1+1),5,r⟩::⟨(bT+1),5,[[ah (a6 J bd).ao,ah (a6 J bd).ag,ak (aZ.length+4) 0 (a6 J bd).ac.length,an (a6 J bd).aq,ah (a6 J bd).ar]]⟩::List.map bm (aZ++[(a6 J bd).ac]))) jM.1 jM.2 trivial ?_
    refine Aa 2 [(38,aA 3 3)] [(3,[an true,ak 0 0 (List.replicate J.af.toNat false).length,ak 1 aT aH.length,ak 2 (a1+1) (ws2++[(ad.mk (a6 J bd).ao (a6 J bd).ag (a6 J bd).ac (a6 J bd).aq (a6 J bd).ar)]).length]),(2,[an false,aG,aG,aG]),(1,(bg false J))] (⟨0,1,List.map aY (List.replicate J.af.toNat false)⟩::⟨aT,2,List.map a7 aH⟩::⟨(a1+1),5,a0 4 (ws2++[(ad.mk (a6 J bd).ao (a6 J bd).ag (a6 J bd).ac (a6 J bd).aq (a6 J bd).ar)]) (aS++[aZ.length])⟩::⟨(bT+1),5,[[ah (a6 J bd).ao,ah (a6 J bd).ag,ak (aZ.length+4) 0 (a6 J bd).ac.length,an (a6 J bd).aq,ah (a6 J bd).ar]]⟩::List.map bm (aZ++[(a6 J bd).ac])) (φ:=True) trivial ?_
    refine xR [] ?_
    refine cr.normal ?_
    exact ci.normal trivial ef
   unfold F1 at h
   refine bL [1000003] 12 ?_
   refine dX [(28,ah (IntKind.i64.wrap (bd+1))),(39,ah (IntKind.i64.wrap (bd+1)))] ?_
   exact dZ.again ((aZ++[(a6 J bd).ac]),(a1+1),(bT+1),(aS++[aZ.length]),(IntKind.i64.wrap (bd+1)),(ws2++[(ad.mk (a6 J bd).ao (a6 J bd).ag (a6 J bd).ac (a6 J bd).aq (a6 J bd).ar)])) h ((Weak.clear 3 rfl:Weak ⟨(bh 41 [(28,ah (IntKind.i64.wrap (bd+1))),(39,ah (IntKind.i64.wrap (bd+1))),(1,aA 1 0),(2,aA 2 0),(3,aA 3 0),(27,ah (J.O.length:Int))]),[(3,[an true,ak 0 0 (List.replicate J.af.toNat false).length,ak 1 aT aH.length,ak 2 (a1+1) (ws2++[(ad.mk (a6 J bd).ao (a6 J bd).ag (a6 J bd).ac (a6 J bd).aq (a6 J bd).ar)]).length]),(2,[an false,aG,aG,aG]),(1,(bg false J))],(⟨0,1,List.map aY (List.replicate J.af.toNat false)⟩::⟨aT,2,List.map a7 aH⟩::⟨(a1+1),5,a0 4 (ws2++[(ad.mk (a6 J bd).ao (a6 J bd).ag (a6 J bd).ac (a6 J bd).aq (a6 J bd).ar)]) (aS++[aZ.length])⟩::⟨(bT+1),5,[[ah (a6 J bd).ao,ah (a6 J bd).ag,ak (aZ.length+4) 0 (a6 J bd).ac.length,an (a6 J bd).aq,ah (a6 J bd).ar]]⟩::List.map bm (aZ++[(a6 J bd).ac]))⟩ ⟨(bh 41 [(28,ah (IntKind.i64.wrap (bd+1))),(39,ah (IntKind.i64.wrap (bd+1))),(1,aA 1 0),(2,aA 2 0),(3,aA 3 0),(27,ah (J.O.length:Int))]),[(3,[an true,ak 0 0 (List.replicate J.af.toNat false).length,ak 1 aT aH.length,ak 2 (a1+1) (ws2++[(ad.mk (a6 J bd).ao (a6 J bd).ag (a6 J bd).ac (a6 J bd).aq (a6 J bd).ar)]).length]),(2,[an false,aG,aG,aG]),(1,(bg false J))],(⟨0,1,List.map aY (List.replicate J.af.toNat false)⟩::⟨aT,2,List.map a7 aH⟩::⟨(a1+1),5,a0 4 (ws2++[(ad.mk (a6 J bd).ao (a6 J bd).ag (a6 J bd).ac (a6 J bd).aq (a6 J bd).ar)]) (aS++[aZ.length])⟩::⟨(bT+1),5,[]⟩::List.map bm (aZ++[(a6 J bd).ac]))⟩).trans (dC []))
 replace h:=h ix
 obtain⟨mE,h⟩:=h
 refine e_ [] [5] (fun L=>hY 0 2 (ak 1 (aT+1) (aH++[(a_.mk 1 1)]).length) L) (fun H=>eo 1 ⟨(aT+1),2,List.map a7 (aH++[(a_.mk 1 1)])⟩ H) (True) ?_ (fun ii=> ?_)
 ·
  replace h:=mE
  refine fo 1 ?_
  refine bL [1000003] 6 ?_
  have kv:=h
  refine Qf 5 (some 22) [(21,.bD (List.map a7 [(a_.mk 1 1)]) true true),(20,.agg [ah 1,ah 1]),(19,ak 1 aT aH.length),(18,aA 3 2)] a7 aH [(a_.mk 1 1)] (lL true (List.map a7 [(a_.mk 1 1)])) 1 aT 2 16 (fun r=>[⟨0,1,List.map aY (List.replicate J.af.toNat false)⟩,⟨(aT+1),2,r⟩]) rfl kv ?_
  refine CX [(23,aA 3 2)] [(3,[an true,ak 0 0 (List.replicate J.af.toNat false).length,ak 1 (aT+1) (aH++[(a_.mk 1 1)]).length,aG]),(2,[an false,aG,aG,aG]),(1,(bg false J))] [⟨0,1,List.map aY (List.replicate J.af.toNat false)⟩,⟨(aT+1),2,List.map a7 (aH++[(a_.mk 1 1)])⟩] ?_
  refine cr.normal ?_
  exact ci.normal trivial ef
 refine bL [1000003] 7 ?_
 refine dX [(16,ah (IntKind.i64.wrap (dg+1))),(24,ah (IntKind.i64.wrap (dg+1)))] ?_
 exact dZ.again ((aT+1),(aH++[(a_.mk 1 1)]),(IntKind.i64.wrap (dg+1))) h (dC [])
theorem Zv (J:az):b2 Try.prog 33 [.agg (bg false J)] (.agg (b1 true (en J))):=Zy J (en J) (fun _ x v=>cl J.be.length (fun _=>false) v∧x=List.replicate v.toNat (a_.mk 1 1)) (fun _ _ v=>cy J.be.length v) (fun _ x _ bs _ _ is v ws=>x=List.replicate J.be.length (a_.mk 1 1)∧cl J.O.length (fun _=>false) v∧ws=(J.O.take v.toNat).map (fun w=>hq w.af.length)∧is=List.range ws.length∧bs=ws.map ad.ac) (fun _ _ _ _ _ _ _ v _=>cy J.O.length v) (by
 unfold F0 F4
 refine⟨fun h=> ?_,fun h=> ?_⟩
 ·have h:ea J=false:=by simpa using h
  unfold en;rw[if_neg (by rw[h];simp)];exact⟨rfl,rfl,rfl,rfl⟩
 have h:ea J=true:=by simpa using h
 have cx:=tj h
 have h1:=cx.c0
 have h2:=cx.sw
 have aP:=cx.O
 have e:en J=⟨true,List.replicate J.af.toNat false,List.replicate J.be.length ⟨1,1⟩,J.O.map fun w=>hq w.af.length⟩:=by unfold en;rw[if_pos h]
 rw[e]
 refine⟨⟨by omega,by omega,by omega⟩,fun aF=>⟨⟨c6 (dd _),rfl⟩,fun g x v aX=> ?_⟩⟩
 obtain⟨aX,rfl⟩:=aX
 have wW:=aX.2.1
 unfold F3
 refine⟨fun hv hm=>⟨⟨?_,c6 (dd _),rfl,rfl,rfl⟩,fun bs a1 bT is k ws cZ=> ?_⟩,fun hv=>⟨⟨?_,?_⟩,⟨(cG (cq aF) aX hv rfl).1,?_⟩,(cG (cq aF) aX hv rfl).2⟩⟩
 ·have: ¬v<(J.be.length:Int):=by simpa using hv
  rw[show v.toNat=J.be.length by omega]
 ·obtain⟨hx,cZ,rfl,rfl,rfl⟩:=cZ
  have qL:=cZ.2.1
  have rW:=cZ.1
  have aL:((J.O.take k.toNat).map fun w=>hq w.af.length).length=k.toNat:=by rw[List.length_map,List.length_take];omega
  obtain⟨fs,fX,fw⟩:=wk ((J.O.take k.toNat).map fun w=>hq w.af.length)
  unfold F2 F1
  refine⟨fun hk=>⟨rfl,⟨by rw[List.length_replicate];omega,rfl⟩,⟨by rw[List.length_replicate];omega,hx⟩,fs,by omega,fun b hb=> ?_,?_⟩,fun hk=>⟨⟨⟨cx,rW,by simpa using hk⟩,by rw[List.length_range],by omega,by omega⟩,⟨hx,(cG (cq hm) cZ hk rfl).1,?_,?_,?_⟩,(cG (cq hm) cZ hk rfl).2⟩⟩
  ·obtain⟨y,hy,rfl⟩:=List.mem_map.1 hb
   obtain⟨w,hw,rfl⟩:=List.mem_map.1 hy
   have:=(cx.af w (List.mem_of_mem_take hw)).2.1
   simp[hq];omega
  ·rw[fw]
   have: ¬k<(J.O.length:Int):=by simpa using hk
   rw[List.take_of_length_le (by omega)]
  ·have b9:=b8 cZ hk
   rw[iE (cq hm) rW (by simpa using hk),show(k+1).toNat=k.toNat+1 by omega,List.take_succ_eq_append_getElem b9.2,←gq b9.2,List.map_append];rfl
  ·rw[List.length_append,List.length_singleton,List.range_succ,List.length_map]
   simp
  ·rw[List.map_append];rfl
 ·rw[List.length_replicate,List.length_singleton];omega
 ·rw[List.length_replicate,List.length_singleton];omega
 ·rw[iE (cq aF) aX.1 (by simpa using hv),show(v+1).toNat=v.toNat+1 by have:=aX.1;omega,List.replicate_succ'])
def Mv:ey Try.prog:=⟨33,[.dr],[.frame],none,fun x=>((en x.1),()),fun x h=>Zv x.1⟩
noncomputable def M9:Code:=iI Try.f63
def ZY:List Item:=[ap 0,ap 1,ap 2,ap 3,ap 4,ap 5,ap 6,ap 7,ap 8,ap 9,ap 10,ap 11,ap 12,ap 13,ap 14,ap 15]
def ZZ:List (List Nat):=[[],[0],[0,1],[0,1,2],rg 0 4,rg 0 5,rg 0 5,rg 0 5++[6],rg 0 5,rg 0 5++[8],rg 0 5++rg 6 10,rg 0 5++rg 6 11,rg 0 5++rg 6 12,rg 0 13,rg 0 14,rg 0 15]
def Z0:List Item:=[ap 0,ap 1,ap 2,ap 3,ap 4,ap 5,⟨6,true,false,[1,2,3]⟩,ap 7,ap 8,⟨9,true,false,[]⟩]
def Z1:List (List Nat):=[[],[],[],[2],[0],[0,4],[0,4,5],rg 0 7,rg 0 8,rg 0 9]
def Z3:List Item:=[ap 0,ap 1,ap 2,ap 3,ap 4,ap 5,ap 6,ap 7,ap 8,ap 9,ap 10]
def Z4:List (List Nat):=[[],[0],[],[2],[],[4],rg 2 6,rg 2 7,rg 0 8,rg 0 9,rg 0 10]
def Ga (ay:(List a_)→Int→Prop) (aB:(List a_)→Int→Nat) (J:az) (U:Event) (aH:(List a_)) (eJ:Int):Prop:=
  ay (aH.set (nth (bz (nth J.O U.ai)) eJ).sw.toNat (a_.mk (nth (bz (nth J.O U.ai)) eJ).bp (nth aH (nth (bz (nth J.O U.ai)) eJ).sw).a2)) (IntKind.i64.wrap (eJ+1))∧aB (aH.set (nth (bz (nth J.O U.ai)) eJ).sw.toNat (a_.mk (nth (bz (nth J.O U.ai)) eJ).bp (nth aH (nth (bz (nth J.O U.ai)) eJ).sw).a2)) (IntKind.i64.wrap (eJ+1))<aB aH eJ
abbrev jT (r:Type):Type:=List (List Bool)→(List Bool)→(List a_)→List Nat→Int→List ad→r
def Gi (ay:(List a_)→Int→Prop) (aB:(List a_)→Int→Nat) (dE:jT Prop) (J:az) (M:Frame) (U:Event) (aH:(List a_)) (eJ:Int):Prop:=
  ((decide (eJ<((bz (nth J.O U.ai)).length:Int)))=false→dE (List.map ad.ac (aa M).O) (aa M).av aH (List.range (aa M).O.length) (eY J (Frame.mk (aa M).ok (aa M).av (aa M).au (view (aa M).O (List.range (aa M).O.length) (List.map ad.ac (aa M).O))) U.ai) ((aa M).O.set U.ai.toNat (ad.mk 1 (nth (aa M).O U.ai).ag (nth (aa M).O U.ai).ac (nth (aa M).O U.ai).aq (nth (aa M).O U.ai).ar)))∧((decide (eJ<((bz (nth J.O U.ai)).length:Int)))=true→((0≤eJ∧eJ.toNat<(bz (nth J.O U.ai)).length)∧(0≤(nth (bz (nth J.O U.ai)) eJ).sw∧(nth (bz (nth J.O U.ai)) eJ).sw.toNat<aH.length))∧(Ga ay aB J U aH eJ))
def Gj (ay:(List a_)→Int→Prop) (aB:(List a_)→Int→Nat) (dE:jT Prop) (J:az) (M:Frame) (U:Event):Prop:=
  (((eY J (Frame.mk (aa M).ok (aa M).av (aa M).au (view (aa M).O (List.range (aa M).O.length) (List.map ad.ac (aa M).O))) U.ai)==0)=true→((0≤U.ai∧U.ai.toNat<(aa M).O.length)∧((aa M).O.length=(List.range (aa M).O.length).length∧U.ai.toNat<(aa M).O.length))∧(((0≤U.ai∧U.ai.toNat<J.O.length)∧(xq (nth J.O U.ai)))∧((bz (nth J.O U.ai)).length≤4611686018427387904→ay (aa M).au 0∧ ∀(aH:(List a_)) (eJ:Int),ay aH eJ→(Gi ay aB dE J M U aH eJ))))∧(((eY J (Frame.mk (aa M).ok (aa M).av (aa M).au (view (aa M).O (List.range (aa M).O.length) (List.map ad.ac (aa M).O))) U.ai)==0)=false→dE (List.map ad.ac (aa M).O) (aa M).av (aa M).au (List.range (aa M).O.length) (eY J (Frame.mk (aa M).ok (aa M).av (aa M).au (view (aa M).O (List.range (aa M).O.length) (List.map ad.ac (aa M).O))) U.ai) (aa M).O)
def Gk (dE:jT Prop) (J:az) (M:Frame) (U:Event):Prop:=
  (((nth (aa M).O U.ai).aq&&(gh (Frame.mk (aa M).ok (aa M).av (aa M).au (view (aa M).O (List.range (aa M).O.length) (List.map ad.ac (aa M).O))) (nth J.O U.ai).cu))=true→((aa M).O.length=(List.range (aa M).O.length).length∧U.ai.toNat<(aa M).O.length)∧((((aa M).O.set U.ai.toNat (ad.mk 3 (nth (aa M).O U.ai).ag (nth (aa M).O U.ai).ac (nth (aa M).O U.ai).aq (nth (aa M).O U.ai).ar)).length=(List.range (aa M).O.length).length∧U.ai.toNat<((aa M).O.set U.ai.toNat (ad.mk 3 (nth (aa M).O U.ai).ag (nth (aa M).O U.ai).ac (nth (aa M).O U.ai).aq (nth (aa M).O U.ai).ar)).length)∧(dE (List.map ad.ac (aa M).O) (aa M).av (aa M).au (List.range (aa M).O.length) 0 (((aa M).O.set U.ai.toNat (ad.mk 3 (nth (aa M).O U.ai).ag (nth (aa M).O U.ai).ac (nth (aa M).O U.ai).aq (nth (aa M).O U.ai).ar)).set U.ai.toNat (ad.mk (nth ((aa M).O.set U.ai.toNat (ad.mk 3 (nth (aa M).O U.ai).ag (nth (aa M).O U.ai).ac (nth (aa M).O U.ai).aq (nth (aa M).O U.ai).ar)) U.ai).ao (nth ((aa M).O.set U.ai.toNat (ad.mk 3 (nth (aa M).O U.ai).ag (nth (aa M).O U.ai).ac (nth (aa M).O U.ai).aq (nth (aa M).O U.ai).ar)) U.ai).ag (nth ((aa M).O.set U.ai.toNat (ad.mk 3 (nth (aa M).O U.ai).ag (nth (aa M).O U.ai).ac (nth (aa M).O U.ai).aq (nth (aa M).O U.ai).ar)) U.ai).ac (nth ((aa M).O.set U.ai.toNat (ad.mk 3 (nth (aa M).O U.ai).ag (nth (aa M).O U.ai).ac (nth (aa M).O U.ai).aq (nth (aa M).O U.ai).ar)) U.ai).aq J.dx)))))∧(((nth (aa M).O U.ai).aq&&(gh (Frame.mk (aa M).ok (aa M).av (aa M).au (view (aa M).O (List.range (aa M).O.length) (List.map ad.ac (aa M).O))) (nth J.O U.ai).cu))=false→(w1 J U.ai)∧(((aa M).O.length=(List.range (aa M).O.length).length∧U.ai.toNat<(aa M).O.length)∧(dE ((List.map ad.ac (aa M).O)++[(a6 J U.ai).ac]) (aa M).av (aa M).au ((List.range (aa M).O.length).set U.ai.toNat (List.map ad.ac (aa M).O).length) 0 ((aa M).O.set U.ai.toNat (ad.mk (a6 J U.ai).ao (a6 J U.ai).ag (a6 J U.ai).ac (a6 J U.ai).aq (a6 J U.ai).ar)))))
def Gl (dE:jT Prop) (J:az) (M:Frame) (U:Event):Prop:=
  ((((nth (aa M).O U.ai).ao !=1)&&((nth (aa M).O U.ai).ao !=2))=true→dE (List.map ad.ac (aa M).O) (aa M).av (aa M).au (List.range (aa M).O.length) 2 (aa M).O)∧((((nth (aa M).O U.ai).ao !=1)&&((nth (aa M).O U.ai).ao !=2))=false→(((aa M).O.length=(List.range (aa M).O.length).length∧U.ai.toNat<(aa M).O.length)∧((nth (aa M).O U.ai).aq=true→(0≤U.ai∧U.ai.toNat<J.O.length)∧((aa M).av.length≤4611686018427387904∧(aa M).au.length≤4611686018427387904∧(ke (aa M).O (List.range (aa M).O.length) (List.map ad.ac (aa M).O)∧(aa M).O.length≤4611686018427387904∧(∀x∈(List.map ad.ac (aa M).O),List.length x≤4611686018427387904))∧vp (Frame.mk (aa M).ok (aa M).av (aa M).au (view (aa M).O (List.range (aa M).O.length) (List.map ad.ac (aa M).O))) (nth J.O U.ai).cu)))∧(Gk dE J M U))
def Gm (dE:jT Prop) (J:az) (M:Frame) (U:Event):Prop:=
  ((nth (aa M).av (nth J.be U.ai))=true→dE (List.map ad.ac (aa M).O) (aa M).av (aa M).au (List.range (aa M).O.length) 3 (aa M).O)∧((nth (aa M).av (nth J.be U.ai))=false→(0≤U.ai∧U.ai.toNat<(aa M).au.length)∧(dE (List.map ad.ac (aa M).O) (aa M).av ((aa M).au.set U.ai.toNat (a_.mk U.bp (nth (aa M).au U.ai).a2)) (List.range (aa M).O.length) 0 (aa M).O))
def Gn (dE:jT Prop) (J:az) (M:Frame) (U:Event):Prop:=
  ((decide (((gE J (Frame.mk (aa M).ok (aa M).av (aa M).au (view (aa M).O (List.range (aa M).O.length) (List.map ad.ac (aa M).O))) U.ai).length:Int)>0))=true→dE (List.map ad.ac (aa M).O) (aa M).av (aa M).au (List.range (aa M).O.length) 2 (aa M).O)∧((decide (((gE J (Frame.mk (aa M).ok (aa M).av (aa M).au (view (aa M).O (List.range (aa M).O.length) (List.map ad.ac (aa M).O))) U.ai).length:Int)>0))=false→((0≤U.ai∧U.ai.toNat<J.be.length)∧(0≤(nth J.be U.ai)∧(nth J.be U.ai).toNat<(aa M).av.length))∧(Gm dE J M U))
def Gp (J:az) (aS:List Nat) (a9:Int) (ws2:List ad):Prop:=
  ((nth (ws2.set a9.toNat (ad.mk (nth ws2 a9).ao (nth ws2 a9).ag (nth ws2 a9).ac (nth ws2 a9).aq (IntKind.i64.wrap ((nth ws2 a9).ar - 1)))) a9).ar==0)=true→(w1 J a9)∧((ws2.set a9.toNat (ad.mk (nth ws2 a9).ao (nth ws2 a9).ag (nth ws2 a9).ac (nth ws2 a9).aq (IntKind.i64.wrap ((nth ws2 a9).ar - 1)))).length=aS.length∧a9.toNat<(ws2.set a9.toNat (ad.mk (nth ws2 a9).ao (nth ws2 a9).ag (nth ws2 a9).ac (nth ws2 a9).aq (IntKind.i64.wrap ((nth ws2 a9).ar - 1)))).length)
def Gq (J:az) (aS:List Nat) (a9:Int) (ws2:List ad):Prop:=
  ((ws2.set a9.toNat (ad.mk (nth ws2 a9).ao (nth ws2 a9).ag (nth ws2 a9).ac (nth ws2 a9).aq (IntKind.i64.wrap ((nth ws2 a9).ar - 1)))).length=aS.length∧a9.toNat<(ws2.set a9.toNat (ad.mk (nth ws2 a9).ao (nth ws2 a9).ag (nth ws2 a9).ac (nth ws2 a9).aq (IntKind.i64.wrap ((nth ws2 a9).ar - 1)))).length)∧(Gp J aS a9 ws2)
def Gb (aQ:dQ Prop) (aR:dQ Nat) (J:az) (cd:List (List Bool)) (aS:List Nat) (a9:Int) (ws2:List ad):Prop:=
  ((0≤a9∧a9.toNat<ws2.length)∧((ws2.length=aS.length∧a9.toNat<ws2.length)∧(((nth ws2 a9).ao==3)=true→((ws2.length=aS.length∧a9.toNat<ws2.length)∧(ws2.length=aS.length∧a9.toNat<ws2.length))∧(Gq J aS a9 ws2))))∧(∀qj:List ad,(bif ((nth ws2 a9).ao==3) then(bif ((nth (ws2.set a9.toNat (ad.mk (nth ws2 a9).ao (nth ws2 a9).ag (nth ws2 a9).ac (nth ws2 a9).aq (IntKind.i64.wrap ((nth ws2 a9).ar - 1)))) a9).ar==0) then((ws2.set a9.toNat (ad.mk (nth ws2 a9).ao (nth ws2 a9).ag (nth ws2 a9).ac (nth ws2 a9).aq (IntKind.i64.wrap ((nth ws2 a9).ar - 1)))).set a9.toNat (ad.mk (a6 J a9).ao (a6 J a9).ag (a6 J a9).ac (a6 J a9).aq (a6 J a9).ar)) else(ws2.set a9.toNat (ad.mk (nth ws2 a9).ao (nth ws2 a9).ag (nth ws2 a9).ac (nth ws2 a9).aq (IntKind.i64.wrap ((nth ws2 a9).ar - 1))))) else ws2)=qj→(∀su:List Nat,(bif ((nth ws2 a9).ao==3) then(bif ((nth (ws2.set a9.toNat (ad.mk (nth ws2 a9).ao (nth ws2 a9).ag (nth ws2 a9).ac (nth ws2 a9).aq (IntKind.i64.wrap ((nth ws2 a9).ar - 1)))) a9).ar==0) then(aS.set a9.toNat cd.length) else aS) else aS)=su→(∀sv:List (List Bool),(bif ((nth ws2 a9).ao==3) then(bif ((nth (ws2.set a9.toNat (ad.mk (nth ws2 a9).ao (nth ws2 a9).ag (nth ws2 a9).ac (nth ws2 a9).aq (IntKind.i64.wrap ((nth ws2 a9).ar - 1)))) a9).ar==0) then(cd++[(a6 J a9).ac]) else cd) else cd)=sv→(aQ sv su (IntKind.i64.wrap (a9+1)) qj∧aR sv su (IntKind.i64.wrap (a9+1)) qj<aR cd aS a9 ws2))))
def Gc (aQ:dQ Prop) (aR:dQ Nat) (dE:jT Prop) (J:az) (M:Frame):Prop:=
  aQ (List.map ad.ac (aa M).O) (List.range (aa M).O.length) 0 (aa M).O∧ ∀(cd:List (List Bool)) (aS:List Nat) (a9:Int) (ws2:List ad),aQ cd aS a9 ws2→(((decide (a9<((aa M).O.length:Int)))=false→dE cd (aa M).av (aa M).au aS 0 ws2)∧((decide (a9<((aa M).O.length:Int)))=true→Gb aQ aR J cd aS a9 ws2))
def Gd (aQ:dQ Prop) (aR:dQ Nat) (dE:jT Prop) (J:az) (M:Frame) (U:Event):Prop:=
  ((U.op==6)=true→((aa M).av.length≤4611686018427387904∧(aa M).au.length≤4611686018427387904∧(ke (aa M).O (List.range (aa M).O.length) (List.map ad.ac (aa M).O)∧(aa M).O.length≤4611686018427387904∧(∀x∈(List.map ad.ac (aa M).O),List.length x≤4611686018427387904))∧tk J (Frame.mk (aa M).ok (aa M).av (aa M).au (view (aa M).O (List.range (aa M).O.length) (List.map ad.ac (aa M).O))) U.ai)∧((gE J (Frame.mk (aa M).ok (aa M).av (aa M).au (view (aa M).O (List.range (aa M).O.length) (List.map ad.ac (aa M).O))) U.ai).length≤4611686018427387904→Gn dE J M U))∧((U.op==6)=false→((U.op==7)=true→Gc aQ aR dE J M)∧((U.op==7)=false→dE (List.map ad.ac (aa M).O) (aa M).av (aa M).au (List.range (aa M).O.length) 0 (aa M).O))
def Ge (aQ:dQ Prop) (aR:dQ Nat) (dE:jT Prop) (J:az) (M:Frame) (U:Event):Prop:=
  ((bif (U.op==3) then(U.op==3) else(U.op==4))=true→(0≤U.ai∧U.ai.toNat<(aa M).av.length)∧(dE (List.map ad.ac (aa M).O) ((aa M).av.set U.ai.toNat (U.op==3)) (aa M).au (List.range (aa M).O.length) 0 (aa M).O))∧((bif (U.op==3) then(U.op==3) else(U.op==4))=false→((U.op==5)=true→(0≤U.ai∧U.ai.toNat<(aa M).au.length)∧(dE (List.map ad.ac (aa M).O) (aa M).av ((aa M).au.set U.ai.toNat (a_.mk (nth (aa M).au U.ai).cH U.bp)) (List.range (aa M).O.length) 0 (aa M).O))∧((U.op==5)=false→Gd aQ aR dE J M U))
def Gf (aQ:dQ Prop) (aR:dQ Nat) (dE:jT Prop) (J:az) (M:Frame) (U:Event):Prop:=
  ((U.op==2)=true→(0≤U.ai∧U.ai.toNat<(aa M).O.length)∧((((aa M).O.length=(List.range (aa M).O.length).length∧U.ai.toNat<(aa M).O.length)∧(((nth (aa M).O U.ai).ao !=1)=true→(aa M).O.length=(List.range (aa M).O.length).length∧U.ai.toNat<(aa M).O.length))∧(Gl dE J M U)))∧((U.op==2)=false→Ge aQ aR dE J M U)
def Gg (ay:(List a_)→Int→Prop) (aB:(List a_)→Int→Nat) (aQ:dQ Prop) (aR:dQ Nat) (dE:jT Prop) (J:az) (M:Frame) (U:Event):Prop:=
  ((U.op==1)=true→((aa M).av.length≤4611686018427387904∧(aa M).au.length≤4611686018427387904∧(ke (aa M).O (List.range (aa M).O.length) (List.map ad.ac (aa M).O)∧(aa M).O.length≤4611686018427387904∧(∀x∈(List.map ad.ac (aa M).O),List.length x≤4611686018427387904))∧rB J (Frame.mk (aa M).ok (aa M).av (aa M).au (view (aa M).O (List.range (aa M).O.length) (List.map ad.ac (aa M).O))) U.ai)∧(Gj ay aB dE J M U))∧((U.op==1)=false→Gf aQ aR dE J M U)
def Gh (J:az) (M:Frame) (al:fJ) (aH:(List a_)) (cd:List (List Bool)) (aS:List Nat) (ws2:List ad) (a3:(List Bool)) (c2:Int):Prop:=
  ((c2 !=0)=true→(jz M)∧((c2=al.code)∧((aa M)=al.frame)))∧((!(c2 !=0))=true→(a3.length≤4611686018427387904∧aH.length≤4611686018427387904∧(ke ws2 aS cd∧ws2.length≤4611686018427387904∧(∀x∈cd,List.length x≤4611686018427387904))∧tD J (Frame.mk (aa M).ok a3 aH (view ws2 aS cd)))∧((0=al.code)∧((ee J (Frame.mk (aa M).ok a3 aH (view ws2 aS cd)))=al.frame)))
def F_ (J:az) (M:Frame) (U:Event) (al:fJ) (ay:(List a_)→Int→Prop) (aB:(List a_)→Int→Nat) (aQ:dQ Prop) (aR:dQ Nat) (dE:jT Prop):Prop:=
 (jz M)∧((Gg ay aB aQ aR dE J M U)∧(∀(cd:List (List Bool)) (a3:(List Bool)) (aH:(List a_)) (aS:List Nat) (c2:Int) (ws2:List ad),dE cd a3 aH aS c2 ws2→(Gh J M al aH cd aS ws2 a3 c2)))
theorem Z5 (J:az) (M:Frame) (U:Event) (al:fJ) (ay:(List a_)→Int→Prop) (aB:(List a_)→Int→Nat) (aQ:dQ Prop) (aR:dQ Nat) (dE:jT Prop) (h:F_ J M U al ay aB aQ aR dE):b2 Try.prog 63 [.agg (bg false J),.agg (b1 false M),.agg (jo U)] (.agg (sN true al)):=by
 unfold F_ at h
 refine dI.go (fn:=Try.f63) [(0,.agg (bg false J)),(1,.agg (b1 false M)),(2,.agg (jo U))] Try.func63 (fun _ _=> ?_)
 show WpS _ (bX M9 1) _ ⟨bh 200 [(0,.agg (bg false J)),(1,.agg (b1 false M)),(2,.agg (jo U))],[],[]⟩
 refine qx [] 0 [(6,aA 6 0),(5,aA 5 0),(4,aA 4 0),(3,aA 3 0)] [4] [] [(6,[ah 0,an false,aG,aG,aG]),(5,(jo U)),(4,(b1 false M)),(3,(bg false J))] [] ?_
 refine sK [] 1 [(7,aA 7 0),(14,.agg (b1 false M))] [1] [4] (fun L=>(7,(b1 false M))::L) id ?_
 obtain⟨acF,h⟩:=h
 refine e_ [] [5] (fun L=>er 3 [an (aa M).ok,ak 0 0 (aa M).av.length,ak 1 0 (aa M).au.length,ak 2 0 (aa M).O.length] L) (fun _=>(⟨0,1,List.map aY (aa M).av⟩::⟨0,2,List.map a7 (aa M).au⟩::⟨0,5,a0 3 (aa M).O (List.range (aa M).O.length)⟩::List.map bm (List.map ad.ac (aa M).O))) (True) ?_ (fun q3=> ?_)
 ·
  replace h:=acF
  refine bL [] 2 ?_
  have q4:=h
  refine tz 2 (some 16) [(15,.agg (b1 false M))] [.agg (b1 false M)] (.agg [an (aa M).ok,ak 0 0 (aa M).av.length,ak 1 0 (aa M).au.length,ak 2 0 (aa M).O.length]) (⟨0,1,List.map aY (aa M).av⟩::⟨0,2,List.map a7 (aa M).au⟩::⟨0,5,a0 3 (aa M).O (List.range (aa M).O.length)⟩::List.map bm (List.map ad.ac (aa M).O)) (M3 M q4) (aD.cons (da.agg (aD.cons (.bool _) (aD.cons cI (aD.cons cI (aD.cons cI aD.nil))))) aD.nil) Cs (by rw[List.nil_append];exact Qt _) ?_ (er:=by simp[mK,nR,iP])
  exact b5 [] trivial
 refine ei [] 3 [(8,ah 0)] [1] [5] ?_
 refine hN ?_
 refine ei [] 4 [(18,ah U.op),(17,aA 5 0)] [1] [6] ?_
 obtain⟨acE,h⟩:=h
 refine Ki 0 (fun(v:List (List Bool)×(List Bool)×(List a_)×List Nat×Int×List ad)=>(⟨(bh 200 [(3,aA 3 0),(4,aA 4 0),(6,aA 6 0),(7,aA 7 0),(8,ah (v.2.2.2.2.1))]),[(7,(b1 false M)),(6,[ah 0,an false,aG,aG,aG]),(4,[an (aa M).ok,ak 0 0 (v.2.1).length,ak 1 0 (v.2.2.1).length,ak 2 0 (v.2.2.2.2.2).length]),(3,(bg false J))],(⟨0,1,List.map aY (v.2.1)⟩::⟨0,2,List.map a7 (v.2.2.1)⟩::⟨0,5,a0 3 (v.2.2.2.2.2) (v.2.2.2.1)⟩::List.map bm (v.1))⟩:St)) (fun v=>dE (v.1) (v.2.1) (v.2.2.1) (v.2.2.2.1) (v.2.2.2.2.1) (v.2.2.2.2.2)) ?_ (fun v cZ=> ?_)
 ·
  replace h:=acE
  refine ei [] 5 [(19,an (U.op==1)),(20,an (U.op==1))] [1] [7] ?_
  unfold Gg at h
  refine dJ (fun fD=> ?_) (fun fD=> ?_)
  ·
   replace h:=h.1 fD
   obtain⟨la,h⟩:=h
   refine cD [(8,ah (eY J (Frame.mk (aa M).ok (aa M).av (aa M).au (view (aa M).O (List.range (aa M).O.length) (List.map ad.ac (aa M).O))) U.ai))] [0,3,5] (True) ?_ (fun iM=> ?_)
   ·
    replace h:=la
    refine bL [] 6 ?_
    obtain⟨gX,ix,h_,fH⟩:=h
    refine mj 5 (some 25) [(24,ah U.ai),(23,aA 5 1),(22,.agg [an (aa M).ok,ak 0 0 (aa M).av.length,ak 1 0 (aa M).au.length,ak 2 0 (aa M).O.length]),(21,.agg (bg false J))] [.agg (bg false J),.agg [an (aa M).ok,ak 0 0 (aa M).av.length,ak 1 0 (aa M).au.length,ak 2 0 (aa M).O.length],ah U.ai] (aaU J (Frame.mk (aa M).ok (aa M).av (aa M).au (view (aa M).O (List.range (aa M).O.length) (List.map ad.ac (aa M).O))) U.ai fH) (aD.cons (da.agg (aD.cons (.int _ _) (aD.cons cI (aD.cons cI (aD.cons cI (aD.cons (.int _ _) aD.nil)))))) (aD.cons (da.agg (aD.cons (.bool _) (aD.cons (nl (sz:=1) (by simp) rfl (s7) gX) (aD.cons (nl (sz:=2) (by simp) rfl (uM) ix) (aD.cons (tB (s:=3) (ws:=(aa M).O) (ids:=(List.range (aa M).O.length)) (bs:=(List.map ad.ac (aa M).O)) (by simp) rfl (fun id k h=>by simpa using h) h_.1 h_.2.1 h_.2.2) aD.nil))))) (aD.cons (da.h8 (.int _ _)) aD.nil))) ?_
    exact b5 [(8,ah (eY J (Frame.mk (aa M).ok (aa M).av (aa M).au (view (aa M).O (List.range (aa M).O.length) (List.map ad.ac (aa M).O))) U.ai))] trivial
   refine ei [] 7 [(27,an ((eY J (Frame.mk (aa M).ok (aa M).av (aa M).au (view (aa M).O (List.range (aa M).O.length) (List.map ad.ac (aa M).O))) U.ai)==0)),(26,ah (eY J (Frame.mk (aa M).ok (aa M).av (aa M).au (view (aa M).O (List.range (aa M).O.length) (List.map ad.ac (aa M).O))) U.ai))] [1] [6] ?_
   unfold Gj at h
   refine dJ (fun jh=> ?_) (fun jh=> ?_)
   ·
    replace h:=h.1 jh
    obtain⟨jv,h⟩:=h
    refine e_ [] [0,1,6] id (fun H=>eo 2 ⟨0,5,a0 3 ((aa M).O.set U.ai.toNat (ad.mk 1 (nth (aa M).O U.ai).ag (nth (aa M).O U.ai).ac (nth (aa M).O U.ai).aq (nth (aa M).O U.ai).ar)) (List.range (aa M).O.length)⟩ H) (True) ?_ (fun j7=> ?_)
    ·
     replace h:=jv
     refine bL [] 8 ?_
     obtain⟨agX,h⟩:=h
     refine lM 5 (some 32) [(31,ah U.ai),(30,aA 5 1),(29,ak 2 0 (aa M).O.length),(28,aA 4 3)] 2 0 5 agX ?_
     have hS:=h
     refine j8 2 none [(33,.ptr 2 0 (0+U.ai.toNat) 0)] (a0 3 (aa M).O (List.range (aa M).O.length)) U.ai 0 1 0 [ah 1] 2 (a0 3 ((aa M).O.set U.ai.toNat (ad.mk 1 (nth (aa M).O U.ai).ag (nth (aa M).O U.ai).ac (nth (aa M).O U.ai).aq (nth (aa M).O U.ai).ar)) (List.range (aa M).O.length)) (dO hS.1 hS.2) (kj hS.1 hS.2) ?_
     exact b5 [] trivial
    obtain⟨k_,h⟩:=h
    refine cD [(40,hA dp (bz (nth J.O U.ai))),(41,ah ((bz (nth J.O U.ai)).length:Int)),(42,ah 0)] [3,1,2] ((bz (nth J.O U.ai)).length≤4611686018427387904) ?_ (fun mc=> ?_)
    ·
     replace h:=k_
     refine bL [] 9 ?_
     obtain⟨ku,h⟩:=h
     refine ld 5 (some 38) [(37,ah U.ai),(36,aA 5 1),(35,bK (dw false) J.O),(34,aA 3 2)] (dw false) J.O 5 ku ?_
     have hF:=h
     refine mj 2 (some 40) [(39,.agg (dw false (nth J.O U.ai)))] [.agg (dw false (nth J.O U.ai))] (Ni (nth J.O U.ai) hF) (aD.cons (da.agg (aD.cons cI (aD.cons cI (aD.cons cI (aD.cons cI (aD.cons cI aD.nil)))))) aD.nil) ?_
     refine sLen 1 (some 41) [] dp (bz (nth J.O U.ai)) (fun iy=> ?_)
     exact b5 [(42,ah 0)] iy
    replace h:=h mc
    refine fo 1 ?_
    obtain⟨ju,h⟩:=h
    refine kf (fun(v:(List a_)×Int)=>(⟨(bh 200 [(3,aA 3 0),(4,aA 4 0),(6,aA 6 0),(7,aA 7 0),(8,ah (eY J (Frame.mk (aa M).ok (aa M).av (aa M).au (view (aa M).O (List.range (aa M).O.length) (List.map ad.ac (aa M).O))) U.ai)),(40,hA dp (bz (nth J.O U.ai))),(41,ah ((bz (nth J.O U.ai)).length:Int)),(42,ah (v.2))]),[(7,(b1 false M)),(6,[ah 0,an false,aG,aG,aG]),(4,[an (aa M).ok,ak 0 0 (aa M).av.length,ak 1 0 (v.1).length,ak 2 0 (aa M).O.length]),(3,(bg false J))],(⟨0,1,List.map aY (aa M).av⟩::⟨0,2,List.map a7 (v.1)⟩::⟨0,5,a0 3 ((aa M).O.set U.ai.toNat (ad.mk 1 (nth (aa M).O U.ai).ag (nth (aa M).O U.ai).ac (nth (aa M).O U.ai).aq (nth (aa M).O U.ai).ar)) (List.range (aa M).O.length)⟩::List.map bm (List.map ad.ac (aa M).O))⟩:St)) (fun(v:(List a_)×Int)=>ay (v.1) (v.2)) (fun(v:(List a_)×Int)=>aB (v.1) (v.2)) ((aa M).au,0) (dC [5]) ju (fun v aX=> ?_)
    obtain⟨aH,eJ⟩:=v
    replace h:=h aH eJ aX
    dsimp only
    refine ei [] 10 [(43,an (decide (eJ<((bz (nth J.O U.ai)).length:Int))))] [1] [8] ?_
    unfold Gi at h
    obtain⟨nd,h⟩:=h
    refine cD [] [0,1,8] ((decide (eJ<((bz (nth J.O U.ai)).length:Int)))=true) ?_ (fun ih=> ?_)
    ·
     replace h:=nd
     refine dJ (fun ha=> ?_) (fun ha=> ?_)
     ·
      refine ep ?_
      exact ci.normal (by simp only[fD,jh,ha]<;>rfl) ef
     ·
      replace h:=h ha
      refine iY 1 ?_
      refine ci.exit ?_
      refine dZ.exit ?_
      refine cr.here ?_
      refine cr.normal ?_
      exact g2.normal ((List.map ad.ac (aa M).O),(aa M).av,aH,(List.range (aa M).O.length),(eY J (Frame.mk (aa M).ok (aa M).av (aa M).au (view (aa M).O (List.range (aa M).O.length) (List.map ad.ac (aa M).O))) U.ai),((aa M).O.set U.ai.toNat (ad.mk 1 (nth (aa M).O U.ai).ag (nth (aa M).O U.ai).ac (nth (aa M).O U.ai).aq (nth (aa M).O U.ai).ar))) h (hz (s':=⟨(bh 200 [(3,aA 3 0),(4,aA 4 0),(6,aA 6 0),(7,aA 7 0),(8,ah (eY J (Frame.mk (aa M).ok (aa M).av (aa M).au (view (aa M).O (List.range (aa M).O.length) (List.map ad.ac (aa M).O))) U.ai))]),[(7,(b1 false M)),(6,[ah 0,an false,aG,aG,aG]),(4,[an (aa M).ok,ak 0 0 (aa M).av.length,ak 1 0 aH.length,ak 2 0 (aa M).O.length]),(3,(bg false J))],(⟨0,1,List.map aY (aa M).av⟩::⟨0,2,List.map a7 aH⟩::⟨0,5,a0 3 ((aa M).O.set U.ai.toNat (ad.mk 1 (nth (aa M).O U.ai).ag (nth (aa M).O U.ai).ac (nth (aa M).O U.ai).aq (nth (aa M).O U.ai).ar)) (List.range (aa M).O.length)⟩::List.map bm (List.map ad.ac (aa M).O))⟩) (dC (n:=200) (A':=[(3,aA 3 0),(4,aA 4 0),(6,aA 6 0),(7,aA 7 0),(8,ah (eY J (Frame.mk (aa M).ok (aa M).av (aa M).au (view (aa M).O (List.range (aa M).O.length) (List.map ad.ac (aa M).O))) U.ai))]) (L':=[(7,(b1 false M)),(6,[ah 0,an false,aG,aG,aG]),(4,[an (aa M).ok,ak 0 0 (aa M).av.length,ak 1 0 aH.length,ak 2 0 (aa M).O.length]),(3,(bg false J))]) []) (congrArg (fun z=>(⟨(bh 200 [(3,aA 3 0),(4,aA 4 0),(6,aA 6 0),(7,aA 7 0),(8,ah (eY J (Frame.mk (aa M).ok (aa M).av (aa M).au (view (aa M).O (List.range (aa M).O.length) (List.map ad.ac (aa M).O))) U.ai))]),[(7,(b1 false M)),(6,[ah 0,an false,aG,aG,aG]),(4,[an (aa M).ok,ak 0 0 (aa M).av.length,ak 1 0 aH.length,ak 2 0 z]),(3,(bg false J))],(⟨0,1,List.map aY (aa M).av⟩::⟨0,2,List.map a7 aH⟩::⟨0,5,a0 3 ((aa M).O.set U.ai.toNat (ad.mk 1 (nth (aa M).O U.ai).ag (nth (aa M).O U.ai).ac (nth (aa M).O U.ai).aq (nth (aa M).O U.ai).ar)) (List.range (aa M).O.length)⟩::List.map bm (List.map ad.ac (aa M).O))⟩:St)) (show(aa M).O.length=((aa M).O.set U.ai.toNat (ad.mk 1 (nth (aa M).O U.ai).ag (nth (aa M).O U.ai).ac (nth (aa M).O U.ai).aq (nth (aa M).O U.ai).ar)).length by simp)))
    replace h:=h ih
    obtain⟨nM,h⟩:=h
    refine e_ [] [8] (fun L=>(10,(dp (nth (bz (nth J.O U.ai)) eJ)))::L) (fun H=>eo 1 ⟨0,2,List.map a7 (aH.set (nth (bz (nth J.O U.ai)) eJ).sw.toNat (a_.mk (nth (bz (nth J.O U.ai)) eJ).bp (nth aH (nth (bz (nth J.O U.ai)) eJ).sw).a2))⟩ H) (True) ?_ (fun iz=> ?_)
    ·
     replace h:=nM
     refine fo 2 ?_
     obtain⟨mE,h⟩:=h
     refine e_ [(10,aA 10 0)] [8] (fun L=>(10,(dp (nth (bz (nth J.O U.ai)) eJ)))::L) id (True) ?_ (fun ii=> ?_)
     ·
      replace h:=mE
      refine bL [] 11 ?_
      have kv:=h
      refine ld 1 (some 44) [] dp (bz (nth J.O U.ai)) 2 kv ?_
      exact b5 [(10,aA 10 0),(45,.agg (dp (nth (bz (nth J.O U.ai)) eJ)))] trivial
     refine bL [] 12 ?_
     have Tx:=h
     refine lM 7 (some 52) [(51,ah (nth (bz (nth J.O U.ai)) eJ).bp),(50,aA 10 1),(49,ah (nth (bz (nth J.O U.ai)) eJ).sw),(48,aA 10 0),(47,ak 1 0 aH.length),(46,aA 4 2)] 1 0 2 Tx ?_
     refine tA 2 none [(53,.ptr 1 0 (0+(nth (bz (nth J.O U.ai)) eJ).sw.toNat) 0)] a7 aH (nth (bz (nth J.O U.ai)) eJ).sw 0 1 0 [ah (nth (bz (nth J.O U.ai)) eJ).bp] 1 (a_.mk (nth (bz (nth J.O U.ai)) eJ).bp (nth aH (nth (bz (nth J.O U.ai)) eJ).sw).a2) (by simpa using Tx.2) ?_
     refine dX [] ?_
     refine cr.normal ?_
     exact ci.normal trivial ef
    unfold Ga at h
    refine bL [] 13 ?_
    refine dX [(42,ah (IntKind.i64.wrap (eJ+1))),(54,ah (IntKind.i64.wrap (eJ+1)))] ?_
    exact dZ.again ((aH.set (nth (bz (nth J.O U.ai)) eJ).sw.toNat (a_.mk (nth (bz (nth J.O U.ai)) eJ).bp (nth aH (nth (bz (nth J.O U.ai)) eJ).sw).a2)),(IntKind.i64.wrap (eJ+1))) h (hz (s':=⟨(bh 200 [(3,aA 3 0),(4,aA 4 0),(6,aA 6 0),(7,aA 7 0),(8,ah (eY J (Frame.mk (aa M).ok (aa M).av (aa M).au (view (aa M).O (List.range (aa M).O.length) (List.map ad.ac (aa M).O))) U.ai)),(40,hA dp (bz (nth J.O U.ai))),(41,ah ((bz (nth J.O U.ai)).length:Int)),(42,ah (IntKind.i64.wrap (eJ+1)))]),[(7,(b1 false M)),(6,[ah 0,an false,aG,aG,aG]),(4,[an (aa M).ok,ak 0 0 (aa M).av.length,ak 1 0 aH.length,ak 2 0 (aa M).O.length]),(3,(bg false J))],(⟨0,1,List.map aY (aa M).av⟩::⟨0,2,List.map a7 (aH.set (nth (bz (nth J.O U.ai)) eJ).sw.toNat (a_.mk (nth (bz (nth J.O U.ai)) eJ).bp (nth aH (nth (bz (nth J.O U.ai)) eJ).sw).a2))⟩::⟨0,5,a0 3 ((aa M).O.set U.ai.toNat (ad.mk 1 (nth (aa M).O U.ai).ag (nth (aa M).O U.ai).ac (nth (aa M).O U.ai).aq (nth (aa M).O U.ai).ar)) (List.range (aa M).O.length)⟩::List.map bm (List.map ad.ac (aa M).O))⟩) (dC (n:=200) (A':=[(3,aA 3 0),(4,aA 4 0),(6,aA 6 0),(7,aA 7 0),(8,ah (eY J (Frame.mk (aa M).ok (aa M).av (aa M).au (view (aa M).O (List.range (aa M).O.length) (List.map ad.ac (aa M).O))) U.ai)),(40,hA dp (bz (nth J.O U.ai))),(41,ah ((bz (nth J.O U.ai)).length:Int)),(42,ah (IntKind.i64.wrap (eJ+1)))]) (L':=[(7,(b1 false M)),(6,[ah 0,an false,aG,aG,aG]),(4,[an (aa M).ok,ak 0 0 (aa M).av.length,ak 1 0 aH.length,ak 2 0 (aa M).O.length]),(3,(bg false J))]) [10]) (congrArg (fun z=>(⟨(bh 200 [(3,aA 3 0),(4,aA 4 0),(6,aA 6 0),(7,aA 7 0),(8,ah (eY J (Frame.mk (aa M).ok (aa M).av (aa M).au (view (aa M).O (List.range (aa M).O.length) (List.map ad.ac (aa M).O))) U.ai)),(40,hA dp (bz (nth J.O U.ai))),(41,ah ((bz (nth J.O U.ai)).length:Int)),(42,ah (IntKind.i64.wrap (eJ+1)))]),[(7,(b1 false M)),(6,[ah 0,an false,aG,aG,aG]),(4,[an (aa M).ok,ak 0 0 (aa M).av.length,ak 1 0 z,ak 2 0 (aa M).O.length]),(3,(bg false J))],(⟨0,1,List.map aY (aa M).av⟩::⟨0,2,List.map a7 (aH.set (nth (bz (nth J.O U.ai)) eJ).sw.toNat (a_.mk (nth (bz (nth J.O U.ai)) eJ).bp (nth aH (nth (bz (nth J.O U.ai)) eJ).sw).a2))⟩::⟨0,5,a0 3 ((aa M).O.set U.ai.toNat (ad.mk 1 (nth (aa M).O U.ai).ag (nth (aa M).O U.ai).ac (nth (aa M).O U.ai).aq (nth (aa M).O U.ai).ar)) (List.range (aa M).O.length)⟩::List.map bm (List.map ad.ac (aa M).O))⟩:St)) (show aH.length=(aH.set (nth (bz (nth J.O U.ai)) eJ).sw.toNat (a_.mk (nth (bz (nth J.O U.ai)) eJ).bp (nth aH (nth (bz (nth J.O U.ai)) eJ).sw).a2)).length by simp)))
   ·
    replace h:=h.2 jh
    refine ep ?_
    refine cr.normal ?_
    exact g2.normal ((List.map ad.ac (aa M).O),(aa M).av,(aa M).au,(List.range (aa M).O.length),(eY J (Frame.mk (aa M).ok (aa M).av (aa M).au (view (aa M).O (List.range (aa M).O.length) (List.map ad.ac (aa M).O))) U.ai),(aa M).O) h (dC [5])
  ·
   replace h:=h.2 fD
   refine ei [] 14 [(55,an (U.op==2)),(56,an (U.op==2))] [1] [0,1,7] ?_
   unfold Gf at h
   refine dJ (fun hd=> ?_) (fun hd=> ?_)
   ·
    replace h:=h.1 hd
    obtain⟨q_,h⟩:=h
    refine cD [(11,.ptr 2 0 (0+U.ai.toNat) 0)] [0,2,6] (True) ?_ (fun o_=> ?_)
    ·
     replace h:=q_
     refine bL [] 15 ?_
     have ag0:=h
     refine lM 5 (some 61) [(60,ah U.ai),(59,aA 5 1),(58,ak 2 0 (aa M).O.length),(57,aA 4 3)] 2 0 5 ag0 ?_
     exact b5 [(11,.ptr 2 0 (0+U.ai.toNat) 0)] trivial
    refine fo 3 ?_
    obtain⟨zI,h⟩:=h
    refine cD [(68,an (((nth (aa M).O U.ai).ao !=1)&&((nth (aa M).O U.ai).ao !=2)))] [7] (True) ?_ (fun lJ=> ?_)
    ·
     replace h:=zI
     refine bL [] 17 ?_
     obtain⟨nN,h⟩:=h
     refine iO 4 (some 72) [(71,.ptr 2 0 (0+U.ai.toNat) 0),(70,.ptr 2 0 (0+U.ai.toNat) 0),(69,.ptr 2 0 (0+U.ai.toNat) 0)] (a0 3 (aa M).O (List.range (aa M).O.length)) U.ai 3 0 0 (ah (nth (aa M).O U.ai).ao) (dO nN.1 nN.2) ?_
     refine nQ 2 74 ((nth (aa M).O U.ai).ao !=1) [(73,an ((nth (aa M).O U.ai).ao !=1))] (fun p7=> ?_) (fun p7=> ?_)
     ·
      replace h:=h p7
      have jw:=h
      refine iO 4 (some 78) [(77,.ptr 2 0 (0+U.ai.toNat) 0),(76,.ptr 2 0 (0+U.ai.toNat) 0),(75,.ptr 2 0 (0+U.ai.toNat) 0)] (a0 3 (aa M).O (List.range (aa M).O.length)) U.ai 3 0 0 (ah (nth (aa M).O U.ai).ao) (dO jw.1 jw.2) ?_
      exact b5 [(68,an ((nth (aa M).O U.ai).ao !=2)),(80,an ((nth (aa M).O U.ai).ao !=2)),(79,an ((nth (aa M).O U.ai).ao !=2))] trivial (by simp only[fD,hd,p7]<;>kernel_rfl)
     ·
      exact b5 ([(68,an false),(80,an false)]++gv [79,78,77,76,75]) trivial (by simp only[fD,hd,p7]<;>kernel_rfl)
    unfold Gl at h
    refine dJ (fun me=> ?_) (fun me=> ?_)
    ·
     replace h:=h.1 me
     refine bL [] 18 ?_
     refine dX [(8,ah 2)] ?_
     refine cr.normal ?_
     refine cr.normal ?_
     exact g2.normal ((List.map ad.ac (aa M).O),(aa M).av,(aa M).au,(List.range (aa M).O.length),2,(aa M).O) h (dC [5])
    ·
     replace h:=h.2 me
     obtain⟨pb,h⟩:=h
     refine cD [(81,an ((nth (aa M).O U.ai).aq&&(gh (Frame.mk (aa M).ok (aa M).av (aa M).au (view (aa M).O (List.range (aa M).O.length) (List.map ad.ac (aa M).O))) (nth J.O U.ai).cu)))] [0,1,7] (True) ?_ (fun lc=> ?_)
     ·
      replace h:=pb
      refine nj [] 19 ZY ZZ [] ?_
      obtain⟨jx,h⟩:=h
      refine nS 4 (some 85) [(84,.ptr 2 0 (0+U.ai.toNat) 3),(83,.ptr 2 0 (0+U.ai.toNat) 0),(82,.ptr 2 0 (0+U.ai.toNat) 0)] (a0 3 (aa M).O (List.range (aa M).O.length)) U.ai 4 3 0 (an (nth (aa M).O U.ai).aq) (dO jx.1 jx.2) ?_
      refine qd 1 86 (nth (aa M).O U.ai).aq [] (fun mf=> ?_) (fun mf=> ?_)
      ·
       replace h:=h mf
       obtain⟨mg,h⟩:=h
       refine st 6 (some 92) [(91,ah U.ai),(90,aA 5 1),(89,bK (dw false) J.O),(88,aA 3 2),(87,.agg [an (aa M).ok,ak 0 0 (aa M).av.length,ak 1 0 (aa M).au.length,ak 2 0 (aa M).O.length])] (dw false) J.O 5 mg ?_
       obtain⟨mF,nf,ng,p8⟩:=h
       refine SX 3 (some 95) [(94,bK c_ (nth J.O U.ai).cu),(93,.dA (dw false (nth J.O U.ai)) 4)] [.agg [an (aa M).ok,ak 0 0 (aa M).av.length,ak 1 0 (aa M).au.length,ak 2 0 (aa M).O.length],bK c_ (nth J.O U.ai).cu] (Nz (Frame.mk (aa M).ok (aa M).av (aa M).au (view (aa M).O (List.range (aa M).O.length) (List.map ad.ac (aa M).O))) (nth J.O U.ai).cu p8) (aD.cons (da.agg (aD.cons (.bool _) (aD.cons (nl (sz:=1) (by simp) rfl (s7) mF) (aD.cons (nl (sz:=2) (by simp) rfl (uM) nf) (aD.cons (tB (s:=3) (ws:=(aa M).O) (ids:=(List.range (aa M).O.length)) (bs:=(List.map ad.ac (aa M).O)) (by simp) rfl (fun id k h=>by simpa using h) ng.1 ng.2.1 ng.2.2) aD.nil))))) (aD.cons (da.h8 cI) aD.nil)) ?_
       exact kU [(81,an (gh (Frame.mk (aa M).ok (aa M).av (aa M).au (view (aa M).O (List.range (aa M).O.length) (List.map ad.ac (aa M).O))) (nth J.O U.ai).cu)),(96,an (gh (Frame.mk (aa M).ok (aa M).av (aa M).au (view (aa M).O (List.range (aa M).O.length) (List.map ad.ac (aa M).O))) (nth J.O U.ai).cu))] trivial (by simp only[fD,hd,me,mf]<;>kernel_rfl)
      ·
       exact kU ([(81,an false),(96,an false)]++gv [95,94,93,92,91,90,89,88,87]) trivial (by simp only[fD,hd,me,mf]<;>kernel_rfl)
     unfold Gk at h
     refine dJ (fun sk=> ?_) (fun sk=> ?_)
     ·
      replace h:=h.1 sk
      refine nj [] 20 Z0 Z1 [] ?_
      obtain⟨mG,h⟩:=h
      refine SZ 7 none [(102,.ptr 2 0 (0+U.ai.toNat) 0),(101,.ptr 2 0 (0+U.ai.toNat) 0),(100,ah J.dx),(99,aA 3 4),(98,.ptr 2 0 (0+U.ai.toNat) 0),(97,.ptr 2 0 (0+U.ai.toNat) 0)] (a0 3 (aa M).O (List.range (aa M).O.length)) U.ai 0 1 0 [ah 3] (fun r=>pD Try.prog (jg M9 256942) [1,2,3] [(102,.ptr 2 0 (0+U.ai.toNat) 0),(101,.ptr 2 0 (0+U.ai.toNat) 0),(100,ah J.dx),(99,aA 3 4),(98,.ptr 2 0 (0+U.ai.toNat) 0),(97,.ptr 2 0 (0+U.ai.toNat) 0),(81,an ((nth (aa M).O U.ai).aq&&(gh (Frame.mk (aa M).ok (aa M).av (aa M).au (view (aa M).O (List.range (aa M).O.length) (List.map ad.ac (aa M).O))) (nth J.O U.ai).cu))),(11,.ptr 2 0 (0+U.ai.toNat) 0),(8,ah 0),(7,aA 7 0),(6,aA 6 0),(5,aA 5 0),(4,aA 4 0),(3,aA 3 0)] [(7,(b1 false M)),(6,[ah 0,an false,aG,aG,aG]),(5,(jo U)),(4,[an (aa M).ok,ak 0 0 (aa M).av.length,ak 1 0 (aa M).au.length,ak 2 0 (aa M).O.length]),(3,(bg false J))] ((fun r=>(⟨0,1,List.map aY (aa M).av⟩::⟨0,2,List.map a7 (aa M).au⟩::⟨0,5,r⟩::List.map bm (List.map ad.ac (aa M).O))) r)) (fun r=>(⟨0,1,List.map aY (aa M).av⟩::⟨0,2,List.map a7 (aa M).au⟩::⟨0,5,r⟩::List.map bm (List.map ad.ac (aa M).O))) (a0 3 ((aa M).O.set U.ai.toNat (ad.mk 3 (nth (aa M).O U.ai).ag (nth (aa M).O U.ai).ac (nth (aa M).O U.ai).aq (nth (aa M).O U.ai).ar)) (List.range (aa M).O.length)) (dO mG.1 mG.2) (kj mG.1 mG.2) (th (ψ:=((true=true∧true=true∧((.ptr 2 0 (0+U.ai.toNat) 0:AV)= .ptr 2 0 (0+U.ai.toNat) 0))∧((true=true∧true=true∧((aA 3 4:AV)=aA 3 4))∧((true=true∧true=true∧((ah J.dx:AV)=ah J.dx))∧True)))) (by kernel_rfl) ⟨⟨rfl,rfl,rfl⟩,⟨⟨rfl,rfl,rfl⟩,⟨⟨rfl,rfl,rfl⟩,trivial⟩⟩⟩) ?_
      obtain⟨lK,h⟩:=h
      refine SZ 3 none [(104,.ptr 2 0 (0+U.ai.toNat) 4),(103,.ptr 2 0 (0+U.ai.toNat) 0)] (a0 3 ((aa M).O.set U.ai.toNat (ad.mk 3 (nth (aa M).O U.ai).ag (nth (aa M).O U.ai).ac (nth (aa M).O U.ai).aq (nth (aa M).O U.ai).ar)) (List.range (aa M).O.length)) U.ai 4 1 0 [ah J.dx] (fun _=>True) (fun r=>(⟨0,1,List.map aY (aa M).av⟩::⟨0,2,List.map a7 (aa M).au⟩::⟨0,5,r⟩::List.map bm (List.map ad.ac (aa M).O))) (a0 3 (((aa M).O.set U.ai.toNat (ad.mk 3 (nth (aa M).O U.ai).ag (nth (aa M).O U.ai).ac (nth (aa M).O U.ai).aq (nth (aa M).O U.ai).ar)).set U.ai.toNat (ad.mk (nth ((aa M).O.set U.ai.toNat (ad.mk 3 (nth (aa M).O U.ai).ag (nth (aa M).O U.ai).ac (nth (aa M).O U.ai).aq (nth (aa M).O U.ai).ar)) U.ai).ao (nth ((aa M).O.set U.ai.toNat (ad.mk 3 (nth (aa M).O U.ai).ag (nth (aa M).O U.ai).ac (nth (aa M).O U.ai).aq (nth (aa M).O U.ai).ar)) U.ai).ag (nth ((aa M).O.set U.ai.toNat (ad.mk 3 (nth (aa M).O U.ai).ag (nth (aa M).O U.ai).ac (nth (aa M).O U.ai).aq (nth (aa M).O U.ai).ar)) U.ai).ac (nth ((aa M).O.set U.ai.toNat (ad.mk 3 (nth (aa M).O U.ai).ag (nth (aa M).O U.ai).ac (nth (aa M).O U.ai).aq (nth (aa M).O U.ai).ar)) U.ai).aq J.dx)) (List.range (aa M).O.length)) (dO lK.1 lK.2) (kj lK.1 lK.2) trivial ?_
      refine xR [] ?_
      refine cr.normal ?_
      refine cr.normal ?_
      exact g2.normal ((List.map ad.ac (aa M).O),(aa M).av,(aa M).au,(List.range (aa M).O.length),0,(((aa M).O.set U.ai.toNat (ad.mk 3 (nth (aa M).O U.ai).ag (nth (aa M).O U.ai).ac (nth (aa M).O U.ai).aq (nth (aa M).O U.ai).ar)).set U.ai.toNat (ad.mk (nth ((aa M).O.set U.ai.toNat (ad.mk 3 (nth (aa M).O U.ai).ag (nth (aa M).O U.ai).ac (nth (aa M).O U.ai).aq (nth (aa M).O U.ai).ar)) U.ai).ao (nth ((aa M).O.set U.ai.toNat (ad.mk 3 (nth (aa M).O U.ai).ag (nth (aa M).O U.ai).ac (nth (aa M).O U.ai).aq (nth (aa M).O U.ai).ar)) U.ai).ag (nth ((aa M).O.set U.ai.toNat (ad.mk 3 (nth (aa M).O U.ai).ag (nth (aa M).O U.ai).ac (nth (aa M).O U.ai).aq (nth (aa M).O U.ai).ar)) U.ai).ac (nth ((aa M).O.set U.ai.toNat (ad.mk 3 (nth (aa M).O U.ai).ag (nth (aa M).O U.ai).ac (nth (aa M).O U.ai).aq (nth (aa M).O U.ai).ar)) U.ai).aq J.dx))) h (hz (s':=⟨(bh 200 [(3,aA 3 0),(4,aA 4 0),(6,aA 6 0),(7,aA 7 0),(8,ah 0)]),[(7,(b1 false M)),(6,[ah 0,an false,aG,aG,aG]),(4,[an (aa M).ok,ak 0 0 (aa M).av.length,ak 1 0 (aa M).au.length,ak 2 0 (aa M).O.length]),(3,(bg false J))],(⟨0,1,List.map aY (aa M).av⟩::⟨0,2,List.map a7 (aa M).au⟩::⟨0,5,a0 3 (((aa M).O.set U.ai.toNat (ad.mk 3 (nth (aa M).O U.ai).ag (nth (aa M).O U.ai).ac (nth (aa M).O U.ai).aq (nth (aa M).O U.ai).ar)).set U.ai.toNat (ad.mk (nth ((aa M).O.set U.ai.toNat (ad.mk 3 (nth (aa M).O U.ai).ag (nth (aa M).O U.ai).ac (nth (aa M).O U.ai).aq (nth (aa M).O U.ai).ar)) U.ai).ao (nth ((aa M).O.set U.ai.toNat (ad.mk 3 (nth (aa M).O U.ai).ag (nth (aa M).O U.ai).ac (nth (aa M).O U.ai).aq (nth (aa M).O U.ai).ar)) U.ai).ag (nth ((aa M).O.set U.ai.toNat (ad.mk 3 (nth (aa M).O U.ai).ag (nth (aa M).O U.ai).ac (nth (aa M).O U.ai).aq (nth (aa M).O U.ai).ar)) U.ai).ac (nth ((aa M).O.set U.ai.toNat (ad.mk 3 (nth (aa M).O U.ai).ag (nth (aa M).O U.ai).ac (nth (aa M).O U.ai).aq (nth (aa M).O U.ai).ar)) U.ai).aq J.dx)) (List.range (aa M).O.length)⟩::List.map bm (List.map ad.ac (aa M).O))⟩) (dC (n:=200) (A':=[(3,aA 3 0),(4,aA 4 0),(6,aA 6 0),(7,aA 7 0),(8,ah 0)]) (L':=[(7,(b1 false M)),(6,[ah 0,an false,aG,aG,aG]),(4,[an (aa M).ok,ak 0 0 (aa M).av.length,ak 1 0 (aa M).au.length,ak 2 0 (aa M).O.length]),(3,(bg false J))]) [5]) (congrArg (fun z=>(⟨(bh 200 [(3,aA 3 0),(4,aA 4 0),(6,aA 6 0),(7,aA 7 0),(8,ah 0)]),[(7,(b1 false M)),(6,[ah 0,an false,aG,aG,aG]),(4,[an (aa M).ok,ak 0 0 (aa M).av.length,ak 1 0 (aa M).au.length,ak 2 0 z]),(3,(bg false J))],(⟨0,1,List.map aY (aa M).av⟩::⟨0,2,List.map a7 (aa M).au⟩::⟨0,5,a0 3 (((aa M).O.set U.ai.toNat (ad.mk 3 (nth (aa M).O U.ai).ag (nth (aa M).O U.ai).ac (nth (aa M).O U.ai).aq (nth (aa M).O U.ai).ar)).set U.ai.toNat (ad.mk (nth ((aa M).O.set U.ai.toNat (ad.mk 3 (nth (aa M).O U.ai).ag (nth (aa M).O U.ai).ac (nth (aa M).O U.ai).aq (nth (aa M).O U.ai).ar)) U.ai).ao (nth ((aa M).O.set U.ai.toNat (ad.mk 3 (nth (aa M).O U.ai).ag (nth (aa M).O U.ai).ac (nth (aa M).O U.ai).aq (nth (aa M).O U.ai).ar)) U.ai).ag (nth ((aa M).O.set U.ai.toNat (ad.mk 3 (nth (aa M).O U.ai).ag (nth (aa M).O U.ai).ac (nth (aa M).O U.ai).aq (nth (aa M).O U.ai).ar)) U.ai).ac (nth ((aa M).O.set U.ai.toNat (ad.mk 3 (nth (aa M).O U.ai).ag (nth (aa M).O U.ai).ac (nth (aa M).O U.ai).aq (nth (aa M).O U.ai).ar)) U.ai).aq J.dx)) (List.range (aa M).O.length)⟩::List.map bm (List.map ad.ac (aa M).O))⟩:St)) (show(aa M).O.length=(((aa M).O.set U.ai.toNat (ad.mk 3 (nth (aa M).O U.ai).ag (nth (aa M).O U.ai).ac (nth (aa M).O U.ai).aq (nth (aa M).O U.ai).ar)).set U.ai.toNat (ad.mk (nth ((aa M).O.set U.ai.toNat (ad.mk 3 (nth (aa M).O U.ai).ag (nth (aa M).O U.ai).ac (nth (aa M).O U.ai).aq (nth (aa M).O U.ai).ar)) U.ai).ao (nth ((aa M).O.set U.ai.toNat (ad.mk 3 (nth (aa M).O U.ai).ag (nth (aa M).O U.ai).ac (nth (aa M).O U.ai).aq (nth (aa M).O U.ai).ar)) U.ai).ag (nth ((aa M).O.set U.ai.toNat (ad.mk 3 (nth (aa M).O U.ai).ag (nth (aa M).O U.ai).ac (nth (aa M).O U.ai).aq (nth (aa M).O U.ai).ar)) U.ai).ac (nth ((aa M).O.set U.ai.toNat (ad.mk 3 (nth (aa M).O U.ai).ag (nth (aa M).O U.ai).ac (nth (aa M).O U.ai).aq (nth (aa M).O U.ai).ar)) U.ai).aq J.dx)).length by simp)))
     ·
      replace h:=h.2 sk
      refine bL [] 16 ?_
      obtain⟨pa,h⟩:=h
      refine tz 5 (some 66) [(65,ah U.ai),(64,aA 5 1),(63,.agg (bg false J)),(62,.ptr 2 0 (0+U.ai.toNat) 0)] [.agg (bg false J),ah U.ai] (.agg [ah (a6 J U.ai).ao,ah (a6 J U.ai).ag,ak ((List.map ad.ac (aa M).O).length+3) 0 (a6 J U.ai).ac.length,an (a6 J U.ai).aq,ah (a6 J U.ai).ar]) (⟨0,1,List.map aY (aa M).av⟩::⟨0,2,List.map a7 (aa M).au⟩::⟨0,5,a0 3 (aa M).O (List.range (aa M).O.length)⟩::List.map bm ((List.map ad.ac (aa M).O)++[(a6 J U.ai).ac])) (B5 J U.ai pa) (aD.cons (da.agg (aD.cons (.int _ _) (aD.cons cI (aD.cons cI (aD.cons cI (aD.cons (.int _ _) aD.nil)))))) (aD.cons (da.h8 (.int _ _)) aD.nil)) (q5 (fun _=>rfl) rfl) (rl (rk (fun _=>rfl) rfl) (by simp only[List.cons_append,List.map_nil,rM])) ?_ (er:=by simp[mK,nR,iP])
      obtain⟨mH,h⟩:=h
      refine j8 2 none [(67,.ptr 2 0 (0+U.ai.toNat) 0)] (a0 3 (aa M).O (List.range (aa M).O.length)) U.ai 0 5 0 [ah (a6 J U.ai).ao,ah (a6 J U.ai).ag,ak ((List.map ad.ac (aa M).O).length+3) 0 (a6 J U.ai).ac.length,an (a6 J U.ai).aq,ah (a6 J U.ai).ar] 2 (a0 3 ((aa M).O.set U.ai.toNat (ad.mk (a6 J U.ai).ao (a6 J U.ai).ag (a6 J U.ai).ac (a6 J U.ai).aq (a6 J U.ai).ar)) ((List.range (aa M).O.length).set U.ai.toNat (List.map ad.ac (aa M).O).length)) (dO mH.1 mH.2) (wz mH.1) ?_
      refine dX [] ?_
      refine cr.normal ?_
      refine cr.normal ?_
      exact g2.normal (((List.map ad.ac (aa M).O)++[(a6 J U.ai).ac]),(aa M).av,(aa M).au,((List.range (aa M).O.length).set U.ai.toNat (List.map ad.ac (aa M).O).length),0,((aa M).O.set U.ai.toNat (ad.mk (a6 J U.ai).ao (a6 J U.ai).ag (a6 J U.ai).ac (a6 J U.ai).aq (a6 J U.ai).ar))) h (hz (s':=⟨(bh 200 [(3,aA 3 0),(4,aA 4 0),(6,aA 6 0),(7,aA 7 0),(8,ah 0)]),[(7,(b1 false M)),(6,[ah 0,an false,aG,aG,aG]),(4,[an (aa M).ok,ak 0 0 (aa M).av.length,ak 1 0 (aa M).au.length,ak 2 0 (aa M).O.length]),(3,(bg false J))],(⟨0,1,List.map aY (aa M).av⟩::⟨0,2,List.map a7 (aa M).au⟩::⟨0,5,a0 3 ((aa M).O.set U.ai.toNat (ad.mk (a6 J U.ai).ao (a6 J U.ai).ag (a6 J U.ai).ac (a6 J U.ai).aq (a6 J U.ai).ar)) ((List.range (aa M).O.length).set U.ai.toNat (List.map ad.ac (aa M).O).length)⟩::List.map bm ((List.map ad.ac (aa M).O)++[(a6 J U.ai).ac]))⟩) (dC (n:=200) (A':=[(3,aA 3 0),(4,aA 4 0),(6,aA 6 0),(7,aA 7 0),(8,ah 0)]) (L':=[(7,(b1 false M)),(6,[ah 0,an false,aG,aG,aG]),(4,[an (aa M).ok,ak 0 0 (aa M).av.length,ak 1 0 (aa M).au.length,ak 2 0 (aa M).O.length]),(3,(bg false J))]) [5]) (congrArg (fun z=>(⟨(bh 200 [(3,aA 3 0),(4,aA 4 0),(6,aA 6 0),(7,aA 7 0),(8,ah 0)]),[(7,(b1 false M)),(6,[ah 0,an false,aG,aG,aG]),(4,[an (aa M).ok,ak 0 0 (aa M).av.length,ak 1 0 (aa M).au.length,ak 2 0 z]),(3,(bg false J))],(⟨0,1,List.map aY (aa M).av⟩::⟨0,2,List.map a7 (aa M).au⟩::⟨0,5,a0 3 ((aa M).O.set U.ai.toNat (ad.mk (a6 J U.ai).ao (a6 J U.ai).ag (a6 J U.ai).ac (a6 J U.ai).aq (a6 J U.ai).ar)) ((List.range (aa M).O.length).set U.ai.toNat (List.map ad.ac (aa M).O).length)⟩::List.map bm ((List.map ad.ac (aa M).O)++[(a6 J U.ai).ac]))⟩:St)) (show(aa M).O.length=((aa M).O.set U.ai.toNat (ad.mk (a6 J U.ai).ao (a6 J U.ai).ag (a6 J U.ai).ac (a6 J U.ai).aq (a6 J U.ai).ar)).length by simp)))
   ·
    replace h:=h.2 hd
    refine cD [(105,an (bif (U.op==3) then(U.op==3) else(U.op==4)))] [0,1,7] (True) ?_ (fun mI=> ?_)
    ·
     refine ei [] 21 [(105,an (U.op==3)),(106,an (U.op==3))] [1] [0,1,7] ?_
     refine dJ (fun oE=> ?_) (fun oE=> ?_)
     ·
      refine ep ?_
      exact ci.normal trivial (ef (by simp only[fD,hd,oE]<;>kernel_rfl))
     ·
      refine bL [] 22 ?_
      exact b5 [(105,an (U.op==4)),(107,an (U.op==4))] trivial (by simp only[fD,hd,oE]<;>kernel_rfl)
    unfold Ge at h
    refine dJ (fun oF=> ?_) (fun oF=> ?_)
    ·
     replace h:=h.1 oF
     refine bL [] 23 ?_
     obtain⟨Tm,h⟩:=h
     refine lM 8 (some 115) [(114,an (U.op==3)),(113,ah U.op),(112,aA 5 0),(111,ah U.ai),(110,aA 5 1),(109,ak 0 0 (aa M).av.length),(108,aA 4 1)] 0 0 1 Tm ?_
     refine tA 1 none [] aY (aa M).av U.ai 0 1 0 [an (U.op==3)] 0 (U.op==3) (by simpa using Tm.2) ?_
     refine dX [] ?_
     refine cr.normal ?_
     exact g2.normal ((List.map ad.ac (aa M).O),((aa M).av.set U.ai.toNat (U.op==3)),(aa M).au,(List.range (aa M).O.length),0,(aa M).O) h (hz (s':=⟨(bh 200 [(3,aA 3 0),(4,aA 4 0),(6,aA 6 0),(7,aA 7 0),(8,ah 0)]),[(7,(b1 false M)),(6,[ah 0,an false,aG,aG,aG]),(4,[an (aa M).ok,ak 0 0 (aa M).av.length,ak 1 0 (aa M).au.length,ak 2 0 (aa M).O.length]),(3,(bg false J))],(⟨0,1,List.map aY ((aa M).av.set U.ai.toNat (U.op==3))⟩::⟨0,2,List.map a7 (aa M).au⟩::⟨0,5,a0 3 (aa M).O (List.range (aa M).O.length)⟩::List.map bm (List.map ad.ac (aa M).O))⟩) (dC (n:=200) (A':=[(3,aA 3 0),(4,aA 4 0),(6,aA 6 0),(7,aA 7 0),(8,ah 0)]) (L':=[(7,(b1 false M)),(6,[ah 0,an false,aG,aG,aG]),(4,[an (aa M).ok,ak 0 0 (aa M).av.length,ak 1 0 (aa M).au.length,ak 2 0 (aa M).O.length]),(3,(bg false J))]) [5]) (congrArg (fun z=>(⟨(bh 200 [(3,aA 3 0),(4,aA 4 0),(6,aA 6 0),(7,aA 7 0),(8,ah 0)]),[(7,(b1 false M)),(6,[ah 0,an false,aG,aG,aG]),(4,[an (aa M).ok,ak 0 0 z,ak 1 0 (aa M).au.length,ak 2 0 (aa M).O.length]),(3,(bg false J))],(⟨0,1,List.map aY ((aa M).av.set U.ai.toNat (U.op==3))⟩::⟨0,2,List.map a7 (aa M).au⟩::⟨0,5,a0 3 (aa M).O (List.range (aa M).O.length)⟩::List.map bm (List.map ad.ac (aa M).O))⟩:St)) (show(aa M).av.length=((aa M).av.set U.ai.toNat (U.op==3)).length by simp)))
    ·
     replace h:=h.2 oF
     refine ei [] 24 [(116,an (U.op==5)),(117,an (U.op==5))] [1] [0,1,7] ?_
     refine dJ (fun nO=> ?_) (fun nO=> ?_)
     ·
      replace h:=h.1 nO
      refine bL [] 25 ?_
      obtain⟨Tn,h⟩:=h
      refine lM 7 (some 124) [(123,ah U.bp),(122,aA 5 2),(121,ah U.ai),(120,aA 5 1),(119,ak 1 0 (aa M).au.length),(118,aA 4 2)] 1 0 2 Tn ?_
      refine tA 2 none [(125,.ptr 1 0 (0+U.ai.toNat) 1)] a7 (aa M).au U.ai 1 1 0 [ah U.bp] 1 (a_.mk (nth (aa M).au U.ai).cH U.bp) (by simpa using Tn.2) ?_
      refine dX [] ?_
      refine cr.normal ?_
      exact g2.normal ((List.map ad.ac (aa M).O),(aa M).av,((aa M).au.set U.ai.toNat (a_.mk (nth (aa M).au U.ai).cH U.bp)),(List.range (aa M).O.length),0,(aa M).O) h (hz (s':=⟨(bh 200 [(3,aA 3 0),(4,aA 4 0),(6,aA 6 0),(7,aA 7 0),(8,ah 0)]),[(7,(b1 false M)),(6,[ah 0,an false,aG,aG,aG]),(4,[an (aa M).ok,ak 0 0 (aa M).av.length,ak 1 0 (aa M).au.length,ak 2 0 (aa M).O.length]),(3,(bg false J))],(⟨0,1,List.map aY (aa M).av⟩::⟨0,2,List.map a7 ((aa M).au.set U.ai.toNat (a_.mk (nth (aa M).au U.ai).cH U.bp))⟩::⟨0,5,a0 3 (aa M).O (List.range (aa M).O.length)⟩::List.map bm (List.map ad.ac (aa M).O))⟩) (dC (n:=200) (A':=[(3,aA 3 0),(4,aA 4 0),(6,aA 6 0),(7,aA 7 0),(8,ah 0)]) (L':=[(7,(b1 false M)),(6,[ah 0,an false,aG,aG,aG]),(4,[an (aa M).ok,ak 0 0 (aa M).av.length,ak 1 0 (aa M).au.length,ak 2 0 (aa M).O.length]),(3,(bg false J))]) [5]) (congrArg (fun z=>(⟨(bh 200 [(3,aA 3 0),(4,aA 4 0),(6,aA 6 0),(7,aA 7 0),(8,ah 0)]),[(7,(b1 false M)),(6,[ah 0,an false,aG,aG,aG]),(4,[an (aa M).ok,ak 0 0 (aa M).av.length,ak 1 0 z,ak 2 0 (aa M).O.length]),(3,(bg false J))],(⟨0,1,List.map aY (aa M).av⟩::⟨0,2,List.map a7 ((aa M).au.set U.ai.toNat (a_.mk (nth (aa M).au U.ai).cH U.bp))⟩::⟨0,5,a0 3 (aa M).O (List.range (aa M).O.length)⟩::List.map bm (List.map ad.ac (aa M).O))⟩:St)) (show(aa M).au.length=((aa M).au.set U.ai.toNat (a_.mk (nth (aa M).au U.ai).cH U.bp)).length by simp)))
     ·
      replace h:=h.2 nO
      refine ei [] 26 [(126,an (U.op==6)),(127,an (U.op==6))] [1] [0,1,7] ?_
      unfold Gd at h
      refine dJ (fun kT=> ?_) (fun kT=> ?_)
      ·
       replace h:=h.1 kT
       refine fo 4 ?_
       obtain⟨ts,h⟩:=h
       refine cD [(136,an (decide (((gE J (Frame.mk (aa M).ok (aa M).av (aa M).au (view (aa M).O (List.range (aa M).O.length) (List.map ad.ac (aa M).O))) U.ai).length:Int)>0)))] [0,2,6] ((gE J (Frame.mk (aa M).ok (aa M).av (aa M).au (view (aa M).O (List.range (aa M).O.length) (List.map ad.ac (aa M).O))) U.ai).length≤4611686018427387904) ?_ (fun CI=> ?_)
       ·
        replace h:=ts
        refine bL [] 28 ?_
        obtain⟨p9,sl,tn,zJ⟩:=h
        refine mj 5 (some 141) [(140,ah U.ai),(139,aA 5 1),(138,.agg [an (aa M).ok,ak 0 0 (aa M).av.length,ak 1 0 (aa M).au.length,ak 2 0 (aa M).O.length]),(137,.agg (bg false J))] [.agg (bg false J),.agg [an (aa M).ok,ak 0 0 (aa M).av.length,ak 1 0 (aa M).au.length,ak 2 0 (aa M).O.length],ah U.ai] (Nn J (Frame.mk (aa M).ok (aa M).av (aa M).au (view (aa M).O (List.range (aa M).O.length) (List.map ad.ac (aa M).O))) U.ai zJ) (aD.cons (da.agg (aD.cons (.int _ _) (aD.cons cI (aD.cons cI (aD.cons cI (aD.cons (.int _ _) aD.nil)))))) (aD.cons (da.agg (aD.cons (.bool _) (aD.cons (nl (sz:=1) (by simp) rfl (s7) p9) (aD.cons (nl (sz:=2) (by simp) rfl (uM) sl) (aD.cons (tB (s:=3) (ws:=(aa M).O) (ids:=(List.range (aa M).O.length)) (bs:=(List.map ad.ac (aa M).O)) (by simp) rfl (fun id k h=>by simpa using h) tn.1 tn.2.1 tn.2.2) aD.nil))))) (aD.cons (da.h8 (.int _ _)) aD.nil))) ?_
        refine sLen 1 (some 142) [] c_ (gE J (Frame.mk (aa M).ok (aa M).av (aa M).au (view (aa M).O (List.range (aa M).O.length) (List.map ad.ac (aa M).O))) U.ai) (fun xw=> ?_)
        exact b5 [(136,an (decide (((gE J (Frame.mk (aa M).ok (aa M).av (aa M).au (view (aa M).O (List.range (aa M).O.length) (List.map ad.ac (aa M).O))) U.ai).length:Int)>0))),(143,an (decide (((gE J (Frame.mk (aa M).ok (aa M).av (aa M).au (view (aa M).O (List.range (aa M).O.length) (List.map ad.ac (aa M).O))) U.ai).length:Int)>0)))] xw
       replace h:=h CI
       unfold Gn at h
       refine dJ (fun sm=> ?_) (fun sm=> ?_)
       ·
        replace h:=h.1 sm
        refine bL [] 29 ?_
        refine dX [(8,ah 2)] ?_
        refine cr.normal ?_
        refine cr.normal ?_
        exact g2.normal ((List.map ad.ac (aa M).O),(aa M).av,(aa M).au,(List.range (aa M).O.length),2,(aa M).O) h (dC [5])
       ·
        replace h:=h.2 sm
        obtain⟨tr,h⟩:=h
        refine cD [(144,an (nth (aa M).av (nth J.be U.ai)))] [0,1,6] (True) ?_ (fun tp=> ?_)
        ·
         replace h:=tr
         refine nj [] 30 Z3 Z4 [] ?_
         obtain⟨ra,h⟩:=h
         refine st 7 (some 151) [(150,ah U.ai),(149,aA 5 1),(148,bK c_ J.be),(147,aA 3 1),(146,ak 0 0 (aa M).av.length),(145,aA 4 1)] c_ J.be 1 ra ?_
         have Tq:=h
         refine vw 2 (some 153) [(152,ah (nth J.be U.ai))] 0 0 1 Tq ?_
         refine xS 1 (some 154) [] aY (aa M).av (nth J.be U.ai) 4 0 0 (an (nth (aa M).av (nth J.be U.ai))) (by simpa using Tq.2) ?_
         exact kU [(144,an (nth (aa M).av (nth J.be U.ai)))] trivial
        unfold Gm at h
        refine dJ (fun tq=> ?_) (fun tq=> ?_)
        ·
         replace h:=h.1 tq
         refine bL [] 31 ?_
         refine dX [(8,ah 3)] ?_
         refine cr.normal ?_
         refine cr.normal ?_
         exact g2.normal ((List.map ad.ac (aa M).O),(aa M).av,(aa M).au,(List.range (aa M).O.length),3,(aa M).O) h (dC [5])
        ·
         replace h:=h.2 tq
         refine bL [] 27 ?_
         obtain⟨To,h⟩:=h
         refine lM 7 (some 134) [(133,ah U.bp),(132,aA 5 2),(131,ah U.ai),(130,aA 5 1),(129,ak 1 0 (aa M).au.length),(128,aA 4 2)] 1 0 2 To ?_
         refine tA 2 none [(135,.ptr 1 0 (0+U.ai.toNat) 0)] a7 (aa M).au U.ai 0 1 0 [ah U.bp] 1 (a_.mk U.bp (nth (aa M).au U.ai).a2) (by simpa using To.2) ?_
         refine dX [] ?_
         refine cr.normal ?_
         refine cr.normal ?_
         exact g2.normal ((List.map ad.ac (aa M).O),(aa M).av,((aa M).au.set U.ai.toNat (a_.mk U.bp (nth (aa M).au U.ai).a2)),(List.range (aa M).O.length),0,(aa M).O) h (hz (s':=⟨(bh 200 [(3,aA 3 0),(4,aA 4 0),(6,aA 6 0),(7,aA 7 0),(8,ah 0)]),[(7,(b1 false M)),(6,[ah 0,an false,aG,aG,aG]),(4,[an (aa M).ok,ak 0 0 (aa M).av.length,ak 1 0 (aa M).au.length,ak 2 0 (aa M).O.length]),(3,(bg false J))],(⟨0,1,List.map aY (aa M).av⟩::⟨0,2,List.map a7 ((aa M).au.set U.ai.toNat (a_.mk U.bp (nth (aa M).au U.ai).a2))⟩::⟨0,5,a0 3 (aa M).O (List.range (aa M).O.length)⟩::List.map bm (List.map ad.ac (aa M).O))⟩) (dC (n:=200) (A':=[(3,aA 3 0),(4,aA 4 0),(6,aA 6 0),(7,aA 7 0),(8,ah 0)]) (L':=[(7,(b1 false M)),(6,[ah 0,an false,aG,aG,aG]),(4,[an (aa M).ok,ak 0 0 (aa M).av.length,ak 1 0 (aa M).au.length,ak 2 0 (aa M).O.length]),(3,(bg false J))]) [5]) (congrArg (fun z=>(⟨(bh 200 [(3,aA 3 0),(4,aA 4 0),(6,aA 6 0),(7,aA 7 0),(8,ah 0)]),[(7,(b1 false M)),(6,[ah 0,an false,aG,aG,aG]),(4,[an (aa M).ok,ak 0 0 (aa M).av.length,ak 1 0 z,ak 2 0 (aa M).O.length]),(3,(bg false J))],(⟨0,1,List.map aY (aa M).av⟩::⟨0,2,List.map a7 ((aa M).au.set U.ai.toNat (a_.mk U.bp (nth (aa M).au U.ai).a2))⟩::⟨0,5,a0 3 (aa M).O (List.range (aa M).O.length)⟩::List.map bm (List.map ad.ac (aa M).O))⟩:St)) (show(aa M).au.length=((aa M).au.set U.ai.toNat (a_.mk U.bp (nth (aa M).au U.ai).a2)).length by simp)))
      ·
       replace h:=h.2 kT
       refine ei [] 32 [(155,an (U.op==7)),(156,an (U.op==7))] [1] [0,2,3,1,2] ?_
       refine dJ (fun ni=> ?_) (fun ni=> ?_)
       ·
        replace h:=h.1 ni
        refine ei [] 33 [(160,ah 0),(159,ah ((aa M).O.length:Int)),(158,ak 2 0 (aa M).O.length),(157,aA 4 3)] [2] [0,1,5] ?_
        unfold Gc at h
        refine fo 5 ?_
        obtain⟨HK,h⟩:=h
        refine kf (fun(v:List (List Bool)×List Nat×Int×List ad)=>(⟨(bh 200 [(3,aA 3 0),(4,aA 4 0),(6,aA 6 0),(7,aA 7 0),(8,ah 0),(159,ah ((aa M).O.length:Int)),(160,ah (v.2.2.1))]),[(7,(b1 false M)),(6,[ah 0,an false,aG,aG,aG]),(4,[an (aa M).ok,ak 0 0 (aa M).av.length,ak 1 0 (aa M).au.length,ak 2 0 (v.2.2.2).length]),(3,(bg false J))],(⟨0,1,List.map aY (aa M).av⟩::⟨0,2,List.map a7 (aa M).au⟩::⟨0,5,a0 3 (v.2.2.2) (v.2.1)⟩::List.map bm (v.1))⟩:St)) (fun(v:List (List Bool)×List Nat×Int×List ad)=>aQ (v.1) (v.2.1) (v.2.2.1) (v.2.2.2)) (fun(v:List (List Bool)×List Nat×Int×List ad)=>aR (v.1) (v.2.1) (v.2.2.1) (v.2.2.2)) ((List.map ad.ac (aa M).O),(List.range (aa M).O.length),0,(aa M).O) (dC [5]) HK (fun v aX=> ?_)
        obtain⟨cd,aS,a9,ws2⟩:=v
        replace h:=h cd aS a9 ws2 aX
        dsimp only
        refine ei [] 34 [(161,an (decide (a9<((aa M).O.length:Int))))] [1] [7] ?_
        obtain⟨HJ,h⟩:=h
        refine cD [] [0,1,7] ((decide (a9<((aa M).O.length:Int)))=true) ?_ (fun vf=> ?_)
        ·
         replace h:=HJ
         refine dJ (fun tt=> ?_) (fun tt=> ?_)
         ·
          refine ep ?_
          exact ci.normal (by simp only[fD,hd,oF,nO,kT,ni,tt]<;>rfl) ef
         ·
          replace h:=h tt
          refine iY 5 ?_
          refine ci.exit ?_
          refine dZ.exit ?_
          refine cr.here ?_
          refine cr.normal ?_
          exact g2.normal (cd,(aa M).av,(aa M).au,aS,0,ws2) h (dC [])
        replace h:=h vf
        unfold Gb at h
        obtain⟨HI,h⟩:=h
        obtain⟨qj,sn⟩: ∃w:List ad,(bif ((nth ws2 a9).ao==3) then(bif ((nth (ws2.set a9.toNat (ad.mk (nth ws2 a9).ao (nth ws2 a9).ag (nth ws2 a9).ac (nth ws2 a9).aq (IntKind.i64.wrap ((nth ws2 a9).ar - 1)))) a9).ar==0) then((ws2.set a9.toNat (ad.mk (nth ws2 a9).ao (nth ws2 a9).ag (nth ws2 a9).ac (nth ws2 a9).aq (IntKind.i64.wrap ((nth ws2 a9).ar - 1)))).set a9.toNat (ad.mk (a6 J a9).ao (a6 J a9).ag (a6 J a9).ac (a6 J a9).aq (a6 J a9).ar)) else(ws2.set a9.toNat (ad.mk (nth ws2 a9).ao (nth ws2 a9).ag (nth ws2 a9).ac (nth ws2 a9).aq (IntKind.i64.wrap ((nth ws2 a9).ar - 1))))) else ws2)=w:=⟨_,rfl⟩
        obtain⟨su,p_⟩: ∃w:List Nat,(bif ((nth ws2 a9).ao==3) then(bif ((nth (ws2.set a9.toNat (ad.mk (nth ws2 a9).ao (nth ws2 a9).ag (nth ws2 a9).ac (nth ws2 a9).aq (IntKind.i64.wrap ((nth ws2 a9).ar - 1)))) a9).ar==0) then(aS.set a9.toNat cd.length) else aS) else aS)=w:=⟨_,rfl⟩
        obtain⟨sv,xy⟩: ∃w:List (List Bool),(bif ((nth ws2 a9).ao==3) then(bif ((nth (ws2.set a9.toNat (ad.mk (nth ws2 a9).ao (nth ws2 a9).ag (nth ws2 a9).ac (nth ws2 a9).aq (IntKind.i64.wrap ((nth ws2 a9).ar - 1)))) a9).ar==0) then(cd++[(a6 J a9).ac]) else cd) else cd)=w:=⟨_,rfl⟩
        refine e_ [] [7] id (fun _=>(⟨0,1,List.map aY (aa M).av⟩::⟨0,2,List.map a7 (aa M).au⟩::⟨0,5,a0 3 qj su⟩::List.map bm sv)) (True) ?_ (fun CJ=> ?_)
        ·
         replace h:=HI
         refine fo 6 ?_
         refine ei [] 35 [(12,ah a9),(162,ah a9)] [1] [7] ?_
         obtain⟨HH,h⟩:=h
         refine cD [(13,.ptr 2 0 (0+a9.toNat) 0)] [8] (True) ?_ (fun acH=> ?_)
         ·
          replace h:=HH
          refine bL [] 36 ?_
          have agT:=h
          refine lM 4 (some 166) [(165,ah a9),(164,ak 2 0 ws2.length),(163,aA 4 3)] 2 0 5 agT ?_
          exact b5 [(13,.ptr 2 0 (0+a9.toNat) 0)] trivial
         obtain⟨HG,h⟩:=h
         refine cD [(171,an ((nth ws2 a9).ao==3))] [9] (True) ?_ (fun ahn=> ?_)
         ·
          replace h:=HG
          refine bL [] 37 ?_
          have xz:=h
          refine iO 4 (some 170) [(169,.ptr 2 0 (0+a9.toNat) 0),(168,.ptr 2 0 (0+a9.toNat) 0),(167,.ptr 2 0 (0+a9.toNat) 0)] (a0 3 ws2 aS) a9 3 0 0 (ah (nth ws2 a9).ao) (dO xz.1 xz.2) ?_
          exact b5 [(171,an ((nth ws2 a9).ao==3))] trivial
         refine dJ (fun zL=> ?_) (fun zL=> ?_)
         ·
          replace h:=h zL
          obtain⟨CH,h⟩:=h
          refine e_ [] [0,1,9] id (fun H=>eo 2 ⟨0,5,a0 3 (ws2.set a9.toNat (ad.mk (nth ws2 a9).ao (nth ws2 a9).ag (nth ws2 a9).ac (nth ws2 a9).aq (IntKind.i64.wrap ((nth ws2 a9).ar - 1)))) aS⟩ H) (True) ?_ (fun PN=> ?_)
          ·
           replace h:=CH
           refine bL [] 38 ?_
           obtain⟨CK,h⟩:=h
           refine iO 4 (some 175) [(174,.ptr 2 0 (0+a9.toNat) 4),(173,.ptr 2 0 (0+a9.toNat) 0),(172,.ptr 2 0 (0+a9.toNat) 0)] (a0 3 ws2 aS) a9 3 4 0 (ah (nth ws2 a9).ar) (dO CK.1 CK.2) ?_
           have rb:=h
           refine j8 4 none [(178,.ptr 2 0 (0+a9.toNat) 4),(177,.ptr 2 0 (0+a9.toNat) 0),(176,ah (IntKind.i64.wrap ((nth ws2 a9).ar - 1)))] (a0 3 ws2 aS) a9 4 1 0 [ah (IntKind.i64.wrap ((nth ws2 a9).ar - 1))] 2 (a0 3 (ws2.set a9.toNat (ad.mk (nth ws2 a9).ao (nth ws2 a9).ag (nth ws2 a9).ac (nth ws2 a9).aq (IntKind.i64.wrap ((nth ws2 a9).ar - 1)))) aS) (dO rb.1 rb.2) (kj rb.1 rb.2) ?_
           exact b5 [] trivial
          unfold Gq at h
          obtain⟨CG,h⟩:=h
          refine cD [(183,an ((nth (ws2.set a9.toNat (ad.mk (nth ws2 a9).ao (nth ws2 a9).ag (nth ws2 a9).ac (nth ws2 a9).aq (IntKind.i64.wrap ((nth ws2 a9).ar - 1)))) a9).ar==0))] [9] (True) ?_ (fun HE=> ?_)
          ·
           replace h:=CG
           refine bL [] 39 ?_
           have CF:=h
           refine iO 4 (some 182) [(181,.ptr 2 0 (0+a9.toNat) 4),(180,.ptr 2 0 (0+a9.toNat) 0),(179,.ptr 2 0 (0+a9.toNat) 0)] (a0 3 (ws2.set a9.toNat (ad.mk (nth ws2 a9).ao (nth ws2 a9).ag (nth ws2 a9).ac (nth ws2 a9).aq (IntKind.i64.wrap ((nth ws2 a9).ar - 1)))) aS) a9 3 4 0 (ah (nth (ws2.set a9.toNat (ad.mk (nth ws2 a9).ao (nth ws2 a9).ag (nth ws2 a9).ac (nth ws2 a9).aq (IntKind.i64.wrap ((nth ws2 a9).ar - 1)))) a9).ar) (dO CF.1 CF.2) ?_
           exact b5 [(183,an ((nth (ws2.set a9.toNat (ad.mk (nth ws2 a9).ao (nth ws2 a9).ag (nth ws2 a9).ac (nth ws2 a9).aq (IntKind.i64.wrap ((nth ws2 a9).ar - 1)))) a9).ar==0))] trivial
          unfold Gp at h
          refine dJ (fun ve=> ?_) (fun ve=> ?_)
          ·
           replace h:=h ve
           refine bL [] 40 ?_
           obtain⟨HF,h⟩:=h
           refine tz 4 (some 187) [(186,ah a9),(185,.agg (bg false J)),(184,.ptr 2 0 (0+a9.toNat) 0)] [.agg (bg false J),ah a9] (.agg [ah (a6 J a9).ao,ah (a6 J a9).ag,ak (cd.length+3) 0 (a6 J a9).ac.length,an (a6 J a9).aq,ah (a6 J a9).ar]) (⟨0,1,List.map aY (aa M).av⟩::⟨0,2,List.map a7 (aa M).au⟩::⟨0,5,a0 3 (ws2.set a9.toNat (ad.mk (nth ws2 a9).ao (nth ws2 a9).ag (nth ws2 a9).ac (nth ws2 a9).aq (IntKind.i64.wrap ((nth ws2 a9).ar - 1)))) aS⟩::List.map bm (cd++[(a6 J a9).ac])) (B5 J a9 HF) (aD.cons (da.agg (aD.cons (.int _ _) (aD.cons cI (aD.cons cI (aD.cons cI (aD.cons (.int _ _) aD.nil)))))) (aD.cons (da.h8 (.int _ _)) aD.nil)) (q5 (fun _=>rfl) rfl) (rl (rk (fun _=>rfl) rfl) (by simp only[List.cons_append,List.map_nil,rM])) ?_ (er:=by simp[mK,nR,iP])
           have xu:=h
           refine j8 2 none [(188,.ptr 2 0 (0+a9.toNat) 0)] (a0 3 (ws2.set a9.toNat (ad.mk (nth ws2 a9).ao (nth ws2 a9).ag (nth ws2 a9).ac (nth ws2 a9).aq (IntKind.i64.wrap ((nth ws2 a9).ar - 1)))) aS) a9 0 5 0 [ah (a6 J a9).ao,ah (a6 J a9).ag,ak (cd.length+3) 0 (a6 J a9).ac.length,an (a6 J a9).aq,ah (a6 J a9).ar] 2 (a0 3 ((ws2.set a9.toNat (ad.mk (nth ws2 a9).ao (nth ws2 a9).ag (nth ws2 a9).ac (nth ws2 a9).aq (IntKind.i64.wrap ((nth ws2 a9).ar - 1)))).set a9.toNat (ad.mk (a6 J a9).ao (a6 J a9).ag (a6 J a9).ac (a6 J a9).aq (a6 J a9).ar)) (aS.set a9.toNat cd.length)) (dO xu.1 xu.2) (wz xu.1) ?_
           refine dX [] ?_
           refine cr.normal ?_
           exact ci.normal trivial (by simp only[←sn,←p_,←xy,fD,hd,oF,nO,kT,ni,vf,zL,ve,cond_true,cond_false];exact ef)
          ·
           refine ep ?_
           refine cr.normal ?_
           exact ci.normal trivial (by simp only[←sn,←p_,←xy,fD,hd,oF,nO,kT,ni,vf,zL,ve,cond_true,cond_false];exact ef)
         ·
          refine ep ?_
          refine cr.normal ?_
          exact ci.normal trivial (by simp only[←sn,←p_,←xy,fD,hd,oF,nO,kT,ni,vf,zL,cond_true,cond_false];exact ef)
        replace h:=h qj sn
        have Ys:qj.length=ws2.length:=by rw[←sn];repeat' apply zi;all_goals simp
        replace h:=h su p_
        replace h:=h sv xy
        refine bL [] 41 ?_
        refine dX [(160,ah (IntKind.i64.wrap (a9+1))),(189,ah (IntKind.i64.wrap (a9+1)))] ?_
        exact dZ.again (sv,su,(IntKind.i64.wrap (a9+1)),qj) h (hz (s':=⟨(bh 200 [(3,aA 3 0),(4,aA 4 0),(6,aA 6 0),(7,aA 7 0),(8,ah 0),(159,ah ((aa M).O.length:Int)),(160,ah (IntKind.i64.wrap (a9+1)))]),[(7,(b1 false M)),(6,[ah 0,an false,aG,aG,aG]),(4,[an (aa M).ok,ak 0 0 (aa M).av.length,ak 1 0 (aa M).au.length,ak 2 0 ws2.length]),(3,(bg false J))],(⟨0,1,List.map aY (aa M).av⟩::⟨0,2,List.map a7 (aa M).au⟩::⟨0,5,a0 3 qj su⟩::List.map bm sv)⟩) (dC (n:=200) (A':=[(3,aA 3 0),(4,aA 4 0),(6,aA 6 0),(7,aA 7 0),(8,ah 0),(159,ah ((aa M).O.length:Int)),(160,ah (IntKind.i64.wrap (a9+1)))]) (L':=[(7,(b1 false M)),(6,[ah 0,an false,aG,aG,aG]),(4,[an (aa M).ok,ak 0 0 (aa M).av.length,ak 1 0 (aa M).au.length,ak 2 0 ws2.length]),(3,(bg false J))]) []) (congrArg (fun z=>(⟨(bh 200 [(3,aA 3 0),(4,aA 4 0),(6,aA 6 0),(7,aA 7 0),(8,ah 0),(159,ah ((aa M).O.length:Int)),(160,ah (IntKind.i64.wrap (a9+1)))]),[(7,(b1 false M)),(6,[ah 0,an false,aG,aG,aG]),(4,[an (aa M).ok,ak 0 0 (aa M).av.length,ak 1 0 (aa M).au.length,ak 2 0 z]),(3,(bg false J))],(⟨0,1,List.map aY (aa M).av⟩::⟨0,2,List.map a7 (aa M).au⟩::⟨0,5,a0 3 qj su⟩::List.map bm sv)⟩:St)) (show ws2.length=qj.length by simp[Ys])))
       ·
        replace h:=h.2 ni
        refine ep ?_
        refine cr.normal ?_
        exact g2.normal ((List.map ad.ac (aa M).O),(aa M).av,(aa M).au,(List.range (aa M).O.length),0,(aa M).O) h (dC [5])
 obtain⟨cd,a3,aH,aS,c2,ws2⟩:=v
 replace h:=h cd a3 aH aS c2 ws2 cZ
 dsimp only
 unfold Gh at h
 obtain⟨acD,h⟩:=h
 refine cD [] [3] ((!(c2 !=0))=true) ?_ (fun HL=> ?_)
 ·
  replace h:=acD
  refine ei [] 42 [(191,an (c2 !=0)),(190,ah c2)] [1] [5] ?_
  refine dJ (fun zH=> ?_) (fun zH=> ?_)
  ·
   replace h:=h zH
   obtain⟨HN,h⟩:=h
   refine e_ [] [0,3,1] (fun L=>er 1 [ah c2,an (aa M).ok,hA aY (aa M).av,hA a7 (aa M).au,hA (dM false) (aa M).O] L) id (True) ?_ (fun PI=> ?_)
   ·
    replace h:=HN
    refine bL [] 43 ?_
    have HM:=h
    refine mj 3 (some 194) [(193,.agg (b1 false M)),(192,ah c2)] [.agg (b1 false M)] (M8 M HM) (aD.cons (da.agg (aD.cons (.bool _) (aD.cons cI (aD.cons cI (aD.cons cI aD.nil))))) aD.nil) ?_
    exact b5 [(195,.agg [ah c2,an (aa M).ok,hA aY (aa M).av,hA a7 (aa M).au,hA (dM false) (aa M).O])] trivial
   exact hB (ci.ret (nk (.agg [ah c2,an (aa M).ok,hA aY (aa M).av,hA a7 (aa M).au,hA (dM false) (aa M).O]) (im.agg (aD.cons (xN h.1) (aD.cons (nm (congrArg (fun q=>q.ok) h.2)) (aD.cons (vr (congrArg (fun q=>q.av) h.2)) (aD.cons (vr (congrArg (fun q=>q.au) h.2)) (aD.cons (vr (congrArg (fun q=>q.O) h.2)) aD.nil))))))))
  ·
   refine ep ?_
   exact ci.normal (by simp only[zH]<;>rfl) ef
 replace h:=h HL
 obtain⟨acC,h⟩:=h
 refine e_ [] [0,2,1] (fun L=>er 1 [ah 0,an (ee J (Frame.mk (aa M).ok a3 aH (view ws2 aS cd))).ok,hA aY (ee J (Frame.mk (aa M).ok a3 aH (view ws2 aS cd))).av,hA a7 (ee J (Frame.mk (aa M).ok a3 aH (view ws2 aS cd))).au,hA (dM false) (ee J (Frame.mk (aa M).ok a3 aH (view ws2 aS cd))).O] L) id (True) ?_ (fun PJ=> ?_)
 ·
  replace h:=acC
  refine bL [] 44 ?_
  obtain⟨acz,acA,HO,acB⟩:=h
  refine mj 3 (some 198) [(197,.agg [an (aa M).ok,ak 0 0 a3.length,ak 1 0 aH.length,ak 2 0 ws2.length]),(196,.agg (bg false J))] [.agg (bg false J),.agg [an (aa M).ok,ak 0 0 a3.length,ak 1 0 aH.length,ak 2 0 ws2.length]] (Nw J (Frame.mk (aa M).ok a3 aH (view ws2 aS cd)) acB) (aD.cons (da.agg (aD.cons (.int _ _) (aD.cons cI (aD.cons cI (aD.cons cI (aD.cons (.int _ _) aD.nil)))))) (aD.cons (da.agg (aD.cons (.bool _) (aD.cons (nl (sz:=1) (by simp) rfl (s7) acz) (aD.cons (nl (sz:=2) (by simp) rfl (uM) acA) (aD.cons (tB (s:=3) (ws:=ws2) (ids:=aS) (bs:=cd) (by simp) rfl (fun id k h=>by simpa using h) HO.1 HO.2.1 HO.2.2) aD.nil))))) aD.nil)) ?_
  exact b5 [(199,.agg [ah 0,an (ee J (Frame.mk (aa M).ok a3 aH (view ws2 aS cd))).ok,hA aY (ee J (Frame.mk (aa M).ok a3 aH (view ws2 aS cd))).av,hA a7 (ee J (Frame.mk (aa M).ok a3 aH (view ws2 aS cd))).au,hA (dM false) (ee J (Frame.mk (aa M).ok a3 aH (view ws2 aS cd))).O])] trivial
 exact hB (nk (.agg [ah 0,an (ee J (Frame.mk (aa M).ok a3 aH (view ws2 aS cd))).ok,hA aY (ee J (Frame.mk (aa M).ok a3 aH (view ws2 aS cd))).av,hA a7 (ee J (Frame.mk (aa M).ok a3 aH (view ws2 aS cd))).au,hA (dM false) (ee J (Frame.mk (aa M).ok a3 aH (view ws2 aS cd))).O]) (im.agg (aD.cons (xN h.1) (aD.cons (nm (congrArg (fun q=>q.ok) h.2)) (aD.cons (vr (congrArg (fun q=>q.av) h.2)) (aD.cons (vr (congrArg (fun q=>q.au) h.2)) (aD.cons (vr (congrArg (fun q=>q.O) h.2)) aD.nil)))))))
theorem ZW (J:az) (M:Frame) (U:Event) (aI:Ea J M U):b2 Try.prog 63 [.agg (bg false J),.agg (b1 false M),.agg (jo U)] (.agg (sN true (gP J M U))):=Z5 J M U (gP J M U) (fun x v=>cl (bz (nth J.O U.ai)).length (fun _=>false) v∧x=jP ((bz (nth J.O U.ai)).take v.toNat) M.au) (fun _ v=>cy (bz (nth J.O U.ai)).length v) (fun bs is v ws=>cl M.O.length (fun _=>false) v∧gy ws is bs∧view ws is bs=hU J v.toNat M.O) (fun _ _ v _=>cy M.O.length v) (fun bs o q is c ws=>gy ws is bs∧c=e8 J M U∧(c=0→Frame.mk M.ok o q (view ws is bs)=ff J M U)) (by
 unfold F_
 obtain⟨hf,he⟩:=aI
 have hs:=Bl hf
 have l_:=hs
 obtain⟨x5,oK,An,vH⟩:=l_
 have cx:=hf.in
 have dc:=hf.fr
 have aL:=dc.O
 have qP:=dc.av
 have k5:=dc.au
 have y3:=cx.O
 have nE:=cx.c0
 have wS:=cx.sw
 obtain⟨fs,fX,fw⟩:=wk M.O
 have lA:gy M.O (List.range M.O.length) (M.O.map ad.ac):=⟨fs,fX,fun b hb=>by
  obtain⟨h,bY,rfl⟩:=List.mem_map.1 hb;exact vH h bY⟩
 have sX:Frame.mk (aa M).ok (aa M).av (aa M).au (view (aa M).O (List.range (aa M).O.length) (List.map ad.ac (aa M).O))=M:=by
  show Frame.mk M.ok M.av M.au (view M.O (List.range M.O.length) (List.map ad.ac M.O))=M
  rw[fw]
 have lE:(aa M).O.length=(List.range (aa M).O.length).length:=by rw[List.length_range]
 have g6:(aa M).av.length≤4611686018427387904∧(aa M).au.length≤4611686018427387904∧(ke (aa M).O (List.range (aa M).O.length) (List.map ad.ac (aa M).O)∧(aa M).O.length≤4611686018427387904∧(∀x∈(List.map ad.ac (aa M).O),List.length x≤4611686018427387904)):=
  ⟨by show M.av.length≤_;omega,by show M.au.length≤_;omega,fs,by show M.O.length≤_;omega,fun x hx=>by have:=lA.len x hx;omega⟩
 have l9: ∀c:Int,c=e8 J M U→c≠0→gy M.O (List.range M.O.length) (M.O.map ad.ac)∧c=e8 J M U∧(c=0→Frame.mk M.ok M.av M.au (view M.O (List.range M.O.length) (M.O.map ad.ac))=ff J M U):=fun c hc cm=>⟨lA,hc,fun h=>absurd h cm⟩
 refine⟨hs,?_,fun bs o q is c ws cZ=> ?_⟩
 ·unfold Gg
  refine⟨fun h1=> ?_,fun h1=> ?_⟩
  ·have h1:U.op=1:=by simpa using h1
   have bu:=oc he (.inl h1)
   have rT:e8 J M U=eY J M U.ai:=by unfold e8;rw[if_pos h1]
   unfold Gj
   rw[sX]
   refine⟨⟨g6.1,g6.2.1,g6.2.2,hf,bu.1,bu.2⟩,fun aO=> ?_,fun aO=> ?_⟩
   ·have aO:eY J M U.ai=0:=by simpa using aO
    have bf:U.ai.toNat<M.O.length:=by omega
    refine⟨⟨⟨bu.1,bf⟩,lE,bf⟩,⟨⟨bu.1,by omega⟩,?_⟩,fun hm=>⟨⟨c6 (dd _),rfl⟩,fun x v aX=> ?_⟩⟩
    ·have:=cx.a2 _ (dq (show U.ai.toNat<J.O.length by omega))
     exact⟨by omega,by omega⟩
    obtain⟨aX,rfl⟩:=aX
    unfold Gi Ga
    rw[sX]
    refine⟨fun hv=> ?_,fun hv=>⟨⟨b8 aX hv,?_⟩,⟨(cG (cq hm) aX hv rfl).1,?_⟩,(cG (cq hm) aX hv rfl).2⟩⟩
    ·have dz:=(lA.oR bf).setState 1
     refine⟨dz.G,rT.symm,fun _=> ?_⟩
     have kq: ¬v<((bz (nth J.O U.ai)).length:Int):=by simpa using hv
     have h3:=aX.1
     have j2:=dz.g0
     rw[fw] at j2
     unfold ff
     rw[if_pos h1]
     rw[show view ((aa M).O.set U.ai.toNat (ad.mk 1 (nth (aa M).O U.ai).ag (nth (aa M).O U.ai).ac (nth (aa M).O U.ai).aq (nth (aa M).O U.ai).ar)) (List.range (aa M).O.length) (List.map ad.ac (aa M).O)=_ from j2,List.take_of_length_le (by omega)]
     rfl
    ·rw[zZ]
     have:=(cx.a2 _ (dq (show U.ai.toNat<J.O.length by omega))).2.2 _ (dq (b8 aX hv).2)
     omega
    ·have b9:=b8 aX hv
     rw[iE (cq hm) aX.1 (by simpa using hv),show(v+1).toNat=v.toNat+1 by have:=aX.1;omega,Qq b9.2,←gq b9.2]
   ·have aO: ¬eY J M U.ai=0:=by simpa using aO
    exact l9 _ rT.symm aO
  have h1: ¬U.op=1:=by simpa using h1
  unfold Gf
  refine⟨fun h2=> ?_,fun h2=> ?_⟩
  ·have h2:U.op=2:=by simpa using h2
   have bu:=oc he (.inr h2)
   have bf:U.ai.toNat<M.O.length:=by omega
   have wJ:U.ai.toNat<J.O.length:=by omega
   have j1:e8 J M U=if(nth M.O U.ai).ao≠1∧(nth M.O U.ai).ao≠2 then 2 else 0:=by unfold e8;rw[if_neg h1,if_pos h2]
   refine⟨⟨bu.1,bf⟩,⟨⟨lE,bf⟩,fun _=>⟨lE,bf⟩⟩,?_⟩
   unfold Gl
   rw[sX]
   have oX:(((nth (aa M).O U.ai).ao !=1)&&((nth (aa M).O U.ai).ao !=2))=decide ((nth M.O U.ai).ao≠1∧(nth M.O U.ai).ao≠2):=by
    rw[Bool.eq_iff_iff];simp[aa]
   rw[oX]
   refine⟨fun hc=> ?_,fun hc=>⟨⟨⟨lE,bf⟩,fun _=>⟨⟨bu.1,wJ⟩,g6.1,g6.2.1,g6.2.2,fun x hx=> ?_⟩⟩,?_⟩⟩
   ·have hc:=of_decide_eq_true hc
    rw[if_pos hc] at j1
    exact l9 2 j1.symm (by decide)
   ·have:=(cx.cu _ (dq wJ)).2 x hx;omega
   ·have hc:=of_decide_eq_false hc
    rw[if_neg hc] at j1
    have dz:=lA.oR bf
    rw[fw] at dz
    unfold Gk
    rw[sX]
    have bj: ∀X:Frame,X=(if((nth M.O U.ai).aq&&gh M (nth J.O U.ai).cu)=true then{M with O:=M.O.set U.ai.toNat {nth M.O U.ai with ao:=3,ar:=J.dx}} else{M with O:=M.O.set U.ai.toNat (a6 J U.ai)})→X=ff J M U:=fun X XJ=>by
     unfold ff;rw[if_neg h1,if_pos h2];exact XJ
    refine⟨fun aj=>⟨⟨lE,bf⟩,(dz.setState 3).fA,?_⟩,fun aj=>⟨⟨cx,bu.1,bu.2⟩,⟨lE,bf⟩,?_⟩⟩
    ·have gj:=(dz.setState 3).xI J.dx
     refine⟨gj.G,j1.symm,fun _=>bj _ ?_⟩
     have aj:((nth M.O U.ai).aq&&gh M (nth J.O U.ai).cu)=true:=aj
     rw[if_pos aj]
     have j2:=gj.g0
     exact congrArg (Frame.mk M.ok M.av M.au) j2
    ·have gj:=dz.new (a6 J U.ai) (by
      have:=(cx.af _ (dq wJ)).2.1
      show(List.replicate _ _).length≤_
      rw[List.length_replicate];omega)
     have JK:dt M.O ((List.range (aa M).O.length).set U.ai.toNat (List.map ad.ac (aa M).O).length) U.ai (a6 J U.ai) ((aa M).O.set U.ai.toNat (ad.mk (a6 J U.ai).ao (a6 J U.ai).ag (a6 J U.ai).ac (a6 J U.ai).aq (a6 J U.ai).ar)) ((List.map ad.ac (aa M).O)++[(a6 J U.ai).ac]):=gj
     refine⟨JK.G,j1.symm,fun _=>bj _ ?_⟩
     have aj: ¬((nth M.O U.ai).aq&&gh M (nth J.O U.ai).cu)=true:=by
      have aj:((nth M.O U.ai).aq&&gh M (nth J.O U.ai).cu)=false:=aj
      rw[aj];simp
     rw[if_neg aj,JK.g0];rfl
  have h2: ¬U.op=2:=by simpa using h2
  have ok: ∀(o:List Bool) (q:List a_),e8 J M U=0→ff J M U={M with av:=o,au:=q}→gy M.O (List.range M.O.length) (M.O.map ad.ac)∧0=e8 J M U∧((0:Int)=0→Frame.mk M.ok o q (view M.O (List.range M.O.length) (M.O.map ad.ac))=ff J M U):=fun o q hc bj=>⟨lA,hc.symm,fun _=>by rw[fw,bj]⟩
  unfold Ge
  rw[zx]
  refine⟨fun aP=> ?_,fun aP=> ?_⟩
  ·have aP:=of_decide_eq_true aP
   have bu:=Ey he aP
   refine⟨⟨bu.1,by show U.ai.toNat<M.av.length;omega⟩,ok _ _ ?_ ?_⟩
   ·unfold e8;rw[if_neg h1,if_neg h2,if_neg (by omega)]
   ·unfold ff;rw[if_neg h1,if_neg h2,if_pos aP];rfl
  have aP:=of_decide_eq_false aP
  refine⟨fun cs=> ?_,fun cs=> ?_⟩
  ·have cs:U.op=5:=by simpa using cs
   have bu:=wi he (.inl cs)
   refine⟨⟨bu.1,by show U.ai.toNat<M.au.length;omega⟩,ok _ _ ?_ ?_⟩
   ·unfold e8;rw[if_neg h1,if_neg h2,if_neg (by omega)]
   ·unfold ff;rw[if_neg h1,if_neg h2,if_neg aP,if_pos cs];rfl
  have cs: ¬U.op=5:=by simpa using cs
  unfold Gd
  refine⟨fun cT=> ?_,fun cT=>⟨fun gk=> ?_,fun gk=> ?_⟩⟩
  ·have cT:U.op=6:=by simpa using cT
   have bu:=wi he (.inr cT)
   have j1:e8 J M U=if je J M U.ai=true then 2 else if kr J M U.ai=true then 3 else 0:=by unfold e8;rw[if_neg h1,if_neg h2,if_pos cT]
   rw[sX]
   refine⟨⟨g6.1,g6.2.1,g6.2.2,hf,bu.1,bu.2⟩,fun _=> ?_⟩
   unfold Gn Gm
   rw[sX]
   have FL:=cx.be _ (dq (show U.ai.toNat<J.be.length by omega))
   refine⟨fun hc=> ?_,fun hc=>⟨⟨⟨bu.1,by omega⟩,FL.1,by show _<M.av.length;omega⟩,fun aC=> ?_,fun aC=>⟨⟨bu.1,by show _<M.au.length;omega⟩,ok _ _ ?_ ?_⟩⟩⟩
   ·rw[if_pos (show je J M U.ai=true from hc)] at j1
    exact l9 2 j1.symm (by decide)
   ·rw[if_neg (show ¬je J M U.ai=true by rw[show je J M U.ai=false from hc];simp),if_pos (show kr J M U.ai=true from aC)] at j1
    exact l9 3 j1.symm (by decide)
   ·rw[if_neg (show ¬je J M U.ai=true by rw[show je J M U.ai=false from hc];simp),if_neg (show ¬kr J M U.ai=true by rw[show kr J M U.ai=false from aC];simp)] at j1
    exact j1
   ·unfold ff;rw[if_neg h1,if_neg h2,if_neg aP,if_neg cs,if_pos cT];rfl
  ·have gk:U.op=7:=by simpa using gk
   unfold Gc
   refine⟨⟨c6 (dd _),lA,fw⟩,fun bs is v ws aX=> ?_⟩
   obtain⟨aX,G,j2⟩:=aX
   have BX:ws.length=M.O.length:=by rw[←jl G.ok,j2,Ac]
   refine⟨fun hv=>⟨G,?_,fun _=> ?_⟩,fun hv=> ?_⟩
   ·unfold e8;rw[if_neg h1,if_neg h2,if_neg (by omega)]
   ·have kq: ¬v<(M.O.length:Int):=by
     have hv:decide (v<(M.O.length:Int))=false:=hv
     simpa using hv
    have a4:=aX.1
    have hb:=aX.2.1
    rw[j2,show v.toNat=M.O.length by omega]
    unfold ff;rw[if_neg h1,if_neg h2,if_neg aP,if_neg cs,if_neg (by omega),if_pos gk];rfl
   ·have b9:=b8 aX hv
    have bf:v.toNat<ws.length:=by omega
    have wJ:v.toNat<J.O.length:=by omega
    have dz:dt (hU J v.toNat M.O) is v (nth (hU J v.toNat M.O) v) ws bs:=dt.start G.ok G.kQ bf j2 G.len
    have bi:=cG (by omega) aX hv rfl
    have qR:=iE (show(M.O.length:Int)≤4611686018427387904 by omega) aX.1 (by
     have hv:decide (v<(M.O.length:Int))=true:=hv
     simpa using hv)
    have uC:w1 J v:=⟨cx,b9.1,by omega⟩
    have wH:(a6 J v).ac.length≤1048576:=by
     have:=(cx.af _ (dq wJ)).2.1
     show(List.replicate _ _).length≤_
     rw[List.length_replicate];omega
    have eC:=dz.xI (IntKind.i64.wrap ((nth ws v).ar - 1))
    have fin: ∀{dh:List Nat} {kA:List ad} {mu:List (List Bool)} {x:ad},dt (hU J v.toNat M.O) dh v x kA mu→x=lj J v.toNat (nth (hU J v.toNat M.O) v)→(cl M.O.length (fun _=>false) (IntKind.i64.wrap (v+1))∧gy kA dh mu∧view kA dh mu=hU J (IntKind.i64.wrap (v+1)).toNat M.O)∧cy M.O.length (IntKind.i64.wrap (v+1))<cy M.O.length v:=fun F hx=>by
     refine⟨⟨bi.1,F.G,?_⟩,bi.2⟩
     rw[F.g0,hx,qR,show(v+1).toNat=v.toNat+1 by omega]
     show _=(hU J v.toNat M.O).set v.toNat (lj J v.toNat (nth (hU J v.toNat M.O) (v.toNat:Int)))
     rw[ig b9.1]
    unfold Gb Gq Gp
    refine⟨⟨⟨b9.1,bf⟩,dz.fA,fun _=>⟨⟨dz.fA,dz.fA⟩,eC.fA,fun _=>⟨uC,eC.fA⟩⟩⟩,fun w hw i hi b hb=> ?_⟩
    have bu:(nth (ws.set v.toNat (ad.mk (nth ws v).ao (nth ws v).ag (nth ws v).ac (nth ws v).aq (IntKind.i64.wrap ((nth ws v).ar - 1)))) v).ar=IntKind.i64.wrap ((nth ws v).ar - 1):=eC.ar
    rw[bu,dz.ao,dz.ar] at hw hi hb
    rw[dz.ar,dz.ao] at eC
    have Fq:a6 J (v.toNat:Int)=a6 J v:=by rw[Int.toNat_of_nonneg b9.1]
    cases aP:((nth (hU J v.toNat M.O) v).ao==3) with
    | false=>
     rw[aP] at hw hi hb
     subst hw;subst hi;subst hb
     refine fin dz ?_
     unfold lj;rw[if_neg (by simpa using aP)]
    | true=>
     rw[aP] at hw hi hb
     cases aU:(IntKind.i64.wrap ((nth (hU J v.toNat M.O) v).ar - 1)==0) with
     | false=>
      rw[aU] at hw hi hb
      subst hw;subst hi;subst hb
      refine fin eC ?_
      unfold lj;rw[if_pos (by simpa using aP),if_neg (by simpa using aU)]
     | true=>
      rw[aU] at hw hi hb
      subst hw;subst hi;subst hb
      refine fin (eC.new (a6 J v) wH) ?_
      unfold lj;rw[if_pos (by simpa using aP),if_pos (by simpa using aU),Fq]
  ·have gk: ¬U.op=7:=by simpa using gk
   refine ok _ _ ?_ ?_
   ·unfold e8;rw[if_neg h1,if_neg h2,if_neg (by simpa using cT)]
   ·unfold ff;rw[if_neg h1,if_neg h2,if_neg aP,if_neg cs,if_neg (by simpa using cT),if_neg gk];rfl
 ·obtain⟨G,hc,bj⟩:=cZ
  unfold Gh
  refine⟨fun aO=>⟨hs,?_⟩,fun aO=> ?_⟩
  ·have aO: ¬c=0:=by simpa using aO
   unfold gP;rw[if_pos (by rw[←hc];exact aO)]
   exact⟨hc,rfl⟩
  ·have aO:c=0:=by simpa using aO
   have b9:=yr dc (oc he)
   rw[←bj aO] at b9
   have aC:=b9.av
   have aj:=b9.au
   have hw:=b9.O
   have Y_:(view ws is bs).length=J.O.length:=hw
   rw[jl G.ok] at Y_
   replace aC:(o.length:Int)=J.af:=aC
   replace aj:q.length=J.be.length:=aj
   refine⟨⟨by omega,by omega,⟨G.ok,by omega,fun x hx=>by have:=G.len x hx;omega⟩,cx,b9⟩,?_⟩
   unfold gP;rw[if_neg (by rw[←hc,aO];simp)]
   exact⟨rfl,by rw[←bj aO];rfl⟩)
def ZX:ey Try.prog:=⟨63,[.dr,.frame,.fR],[.done],some fun x=>Ea x.1 x.2.1 x.2.2.1,fun x=>((gP x.1 x.2.1 x.2.2.1),()),fun x h=>ZW x.1 x.2.1 x.2.2.1 h⟩
abbrev ph (r:Type):Type:=Nat→(List fJ)→Bool→(List Bool)→(List a_)→(List ad)→Int→r
def MP (ay:ph Prop) (aB:ph Nat) (J:az) (M:(List Event)) (bw:Nat) (a3:(List fJ)) (dm:Bool) (cY:(List Bool)) (dn:(List a_)) (cC:(List ad)) (gw:Int):Prop:=
  ((a3.length+[(fJ.mk (gP J (Frame.mk dm cY dn cC) (nth M gw)).code (aa (gP J (Frame.mk dm cY dn cC) (nth M gw)).frame))].length)*88≤140737488355328∧a3.length+[(fJ.mk (gP J (Frame.mk dm cY dn cC) (nth M gw)).code (aa (gP J (Frame.mk dm cY dn cC) (nth M gw)).frame))].length≤4611686018427387904)∧(ay (bw+1) (a3++[(fJ.mk (gP J (Frame.mk dm cY dn cC) (nth M gw)).code (aa (gP J (Frame.mk dm cY dn cC) (nth M gw)).frame))]) (gP J (Frame.mk dm cY dn cC) (nth M gw)).frame.ok (gP J (Frame.mk dm cY dn cC) (nth M gw)).frame.av (gP J (Frame.mk dm cY dn cC) (nth M gw)).frame.au (gP J (Frame.mk dm cY dn cC) (nth M gw)).frame.O (IntKind.i64.wrap (gw+1))∧aB (bw+1) (a3++[(fJ.mk (gP J (Frame.mk dm cY dn cC) (nth M gw)).code (aa (gP J (Frame.mk dm cY dn cC) (nth M gw)).frame))]) (gP J (Frame.mk dm cY dn cC) (nth M gw)).frame.ok (gP J (Frame.mk dm cY dn cC) (nth M gw)).frame.av (gP J (Frame.mk dm cY dn cC) (nth M gw)).frame.au (gP J (Frame.mk dm cY dn cC) (nth M gw)).frame.O (IntKind.i64.wrap (gw+1))<aB bw a3 dm cY dn cC gw)
def MQ (ay:ph Prop) (aB:ph Nat) (bw:Nat) (a3:(List fJ)) (dm:Bool) (cY:(List Bool)) (dn:(List a_)) (cC:(List ad)) (gw:Int):Prop:=
  ((a3.length+[(fJ.mk 1 (aa (aa (Frame.mk dm cY dn cC))))].length)*88≤140737488355328∧a3.length+[(fJ.mk 1 (aa (aa (Frame.mk dm cY dn cC))))].length≤4611686018427387904)∧(ay (bw+1) (a3++[(fJ.mk 1 (aa (aa (Frame.mk dm cY dn cC))))]) dm cY dn cC (IntKind.i64.wrap (gw+1))∧aB (bw+1) (a3++[(fJ.mk 1 (aa (aa (Frame.mk dm cY dn cC))))]) dm cY dn cC (IntKind.i64.wrap (gw+1))<aB bw a3 dm cY dn cC gw)
def MR (ay:ph Prop) (aB:ph Nat) (J:az) (M:(List Event)) (bw:Nat) (a3:(List fJ)) (dm:Bool) (cY:(List Bool)) (dn:(List a_)) (cC:(List ad)) (gw:Int):Prop:=
  (jz (Frame.mk dm cY dn cC))∧(((eZ J (nth M gw))=true→(Ea J (Frame.mk dm cY dn cC) (nth M gw))∧((jz (gP J (Frame.mk dm cY dn cC) (nth M gw)).frame)∧(MP ay aB J M bw a3 dm cY dn cC gw)))∧((eZ J (nth M gw))=false→(jz (aa (Frame.mk dm cY dn cC)))∧(MQ ay aB bw a3 dm cY dn cC gw)))
def MS (ay:ph Prop) (aB:ph Nat) (J:az) (M:(List Event)) (al:(List fJ)):Prop:=
  ay 0 ([]:List fJ) (en J).ok (en J).av (en J).au (en J).O 0∧ ∀(bw:Nat) (a3:(List fJ)) (dm:Bool) (cY:(List Bool)) (dn:(List a_)) (cC:(List ad)) (gw:Int),ay bw a3 dm cY dn cC gw→(((decide (gw<(M.length:Int)))=false→a3.length≤4611686018427387904∧a3=al)∧((decide (gw<(M.length:Int)))=true→(0≤gw∧gw.toNat<M.length)∧(MR ay aB J M bw a3 dm cY dn cC gw)))
def MO (J:az) (M:(List Event)) (al:(List fJ)) (ay:ph Prop) (aB:ph Nat):Prop:=
 (((!(ea J)) || (decide ((M.length:Int)>1000)))=true→[]=al)∧((!((!(ea J)) || (decide ((M.length:Int)>1000))))=true→M.length≤4611686018427387904→MS ay aB J M al)
theorem ZJ (J:az) (M:(List Event)):b2 Try.prog 22 [.agg (bg false J),bK jo M] (hA (sN false) (sq J M)):=(fun(ay:ph Prop) (aB:ph Nat) (h:MO J M (sq J M) ay aB)=>b2.run (ps:=[.dr,(.l .fR)]) (rs:=[(.l .done)]) (x:=(J,M,())) (r:=((sq J M),())) ⟨48,eh,[Ns,Mv,ZT,Z_,ZX]⟩ ⟨[],[],[],[],[]⟩ (.lp [(0,6,.done)] [2,5,20,21] [(5,4),(2,5)] [.nat,(.l .done),.bool,(.l .bool),(.l .gK),(.l .held),.int] [bC 0,bC 0,eG 5 0,eG 5 1,eG 5 2,eG 5 3,22] (fun aN=>[(6,.ref 0 aN.1 aN.2.1.length false),(22,.i .i64 aN.2.2.2.2.2.2.1),(eG 5 0,.b (.v aN.2.2.1)),(eG 5 1,.l .bool aN.2.2.2.1 false true),(eG 5 2,.l .gK aN.2.2.2.2.1 false true),(eG 5 3,.l .held aN.2.2.2.2.2.1 false true),(bC 0,.blk aN.1 .done aN.2.1 _ rfl)]) (fun aN=>ay aN.1 aN.2.1 aN.2.2.1 aN.2.2.2.1 aN.2.2.2.2.1 aN.2.2.2.2.2.1 aN.2.2.2.2.2.2.1) (fun aN=>aB aN.1 aN.2.1 aN.2.2.1 aN.2.2.2.1 aN.2.2.2.2.1 aN.2.2.2.2.2.1 aN.2.2.2.2.2.2.1) fun _=> .nil) Try.func22 h) (fun _ x a b c e v=>cl M.length (fun _=>false) v∧x=jy J (en J) (M.take v.toNat)∧Frame.mk a b c e=nI J (en J) (M.take v.toNat)) (fun _ _ _ _ _ _ v=>cy M.length v) (by
 unfold MO
 refine⟨fun h=> ?_,fun h aF=> ?_⟩
 ·unfold sq
  rw[if_neg]
  rintro⟨h1,h2⟩
  rw[h1] at h
  have: ¬(M.length:Int)>1000:=by omega
  simp[this] at h
 have h:ea J=true∧(M.length:Int)≤1000:=by simpa using h
 have e:sq J M=jy J (en J) M:=by unfold sq;rw[if_pos ⟨h.1,by omega⟩]
 rw[e]
 unfold MS
 refine⟨⟨c6 (dd _),rfl,rfl⟩,fun g x a b c d v aX=> ?_⟩
 obtain⟨aX,rfl,aL⟩:=aX
 have wW:=aX.2.1
 have h3:=aX.1
 have lE:(jy J (en J) (M.take v.toNat)).length=v.toNat:=by rw[CV,List.length_take];omega
 refine⟨fun hv=>⟨by omega,?_⟩,fun hv=>⟨b8 aX hv,?_⟩⟩
 ·have: ¬v<(M.length:Int):=by simpa using hv
  rw[List.take_of_length_le (by omega)]
 have b9:=b8 aX hv
 have bi:=cG (cq aF) aX hv rfl
 have oo:Fit J (nI J (en J) (M.take v.toNat)):=GV _ (J7 h.1)
 have BU:M.take (IntKind.i64.wrap (v+1)).toNat=M.take v.toNat++[nth M v]:=by
  rw[iE (cq aF) h3 (by simpa using hv),show(v+1).toNat=v.toNat+1 by omega,List.take_succ_eq_append_getElem b9.2,gq b9.2]
 have uE:=P8 J (nth M v) (M.take v.toNat) (en J)
 unfold MR
 rw[aL]
 refine⟨Bl oo,fun he=>⟨⟨oo,he⟩,Bl (KD oo he),?_⟩,fun he=>⟨Bl oo,?_⟩⟩
 ·unfold MP
  rw[aL]
  refine⟨⟨by simp only[List.length_singleton];omega,by simp only[List.length_singleton];omega⟩,⟨bi.1,?_,?_⟩,bi.2⟩
  ·rw[BU,uE.1,if_pos he];rfl
  ·rw[BU,uE.2,if_pos he]
 ·unfold MQ
  rw[aL]
  refine⟨⟨by simp only[List.length_singleton];omega,by simp only[List.length_singleton];omega⟩,⟨bi.1,?_,?_⟩,bi.2⟩
  ·rw[BU,uE.1,if_neg (by rw[he];simp)];rfl
  ·rw[BU,uE.2,if_neg (by rw[he];simp),aL])
def MT:ey Try.prog:=⟨22,[.dr,(.l .fR)],[(.l .done)],none,fun x=>((sq x.1 x.2.1),()),fun x h=>ZJ x.1 x.2.1⟩
end Go.Proofs.Ytglpfccgmfhkdaa.Fw
set_option linter.unusedVariables false
namespace Go.Proofs.Ytglpfccgmfhkdaa.Fw
open Go
def q7 (hg:Nat):Nat→(l:List fQ)→c7 (fQ.es l)→List (Nat×TV)
 | _,[],_=>[]
 | i,.v e::r,x=>(i,u5 e x.1)::q7 hg (i+1) r x.2
 | i,.p::r,x=>(i,.ptr 0 hg 0 1 0)::q7 hg (i+1) r x
def o3 (hg:Nat) (ce:bI) (l:List fQ) (x:c7 (fQ.es l)) (c:ce.T):TS:=⟨q7 hg 0 l x++[(bC 0,.eI hg (gI false ce c))],[],[],1⟩
theorem Em (hg:Nat): ∀(l:List fQ) (x:c7 (fQ.es l)),(jX hg l x).length=l.length
 | [],_=>rfl
 | .v e::r,x=>congrArg Nat.succ (Em hg r x.2)
 | .p::r,x=>congrArg Nat.succ (Em hg r (show c7 (fQ.es r) from x))
theorem O8 {hg:Nat} {d:TV} (bj:d.bE= .undef): ∀(l:List fQ) (x:c7 (fQ.es l)) (i t:Nat),(fW (q7 hg i l x) t d).bE=if t<i then .undef else(jX hg l x).getD (t - i) .undef
 | [],x,i,t=>by
  show d.bE=_
  rw[bj];split<;>simp[jX]
 | si::r,x,i,t=>by
  have key: ∀(v:TV) (a:AV) (y:c7 (fQ.es r)),v.bE=a→(fW ((i,v)::q7 hg (i+1) r y) t d).bE=if t<i then .undef else(a::jX hg r y).getD (t - i) .undef:=fun v a y a4=>by
   rw[gJ]
   by_cases h:i=t
   ·subst h;rw[if_pos rfl,if_neg (by omega),Nat.sub_self,a4];rfl
   ·rw[if_neg h,O8 bj r y (i+1) t]
    by_cases h2:t<i
    ·rw[if_pos (by omega),if_pos h2]
    ·rw[if_neg (by omega),if_neg h2,show t - i=(t - (i+1))+1 by omega];rfl
  cases si with
  | v e=>exact key _ _ x.2 (O_ e x.1)
  | p=>exact key _ _ x rfl
theorem O9 {hg k:Nat} {d:TV} (hk:1000000≤k): ∀(l:List fQ) (x:c7 (fQ.es l)) (i:Nat),i+l.length≤1000000→fW (q7 hg i l x) k d=d
 | [],_,_,_=>rfl
 | si::r,x,i,h=>by
  have key: ∀(v:TV) (y:c7 (fQ.es r)),fW ((i,v)::q7 hg (i+1) r y) k d=d:=fun v y=>by
   simp only[List.length_cons] at h
   rw[gJ,if_neg (by omega)];exact O9 hk r y (i+1) (by omega)
  cases si with
  | v e=>exact key _ x.2
  | p=>exact key _ x
theorem NO {hg k:Nat} {ce:bI} {l:List fQ} {x:c7 (fQ.es l)} {c:ce.T} (aL:l.length≤1000000) (hk:1000000≤k):(o3 hg ce l x c).get k=if bC 0=k then .eI hg (gI false ce c) else .u:=by
 show fW (q7 hg 0 l x++[(bC 0,_)]) k .u=_
 rw[sc,O9 hk l x 0 (by omega),gJ];rfl
theorem NP {hg:Nat} {ce:bI} {l:List fQ} {x:c7 (fQ.es l)} {c:ce.T} (aL:l.length≤1000000):iv (o3 hg ce l x c)=true:=by
 unfold iv
 rw[NO aL (by unfold dL;omega),if_neg (by unfold bC dL;omega)]
theorem aaW [Z:FZ] {fn:Func} {hg:Nat} {ce:bI} {l:List fQ} {x:c7 (fQ.es l)} {c:ce.T} (h:l.length≤fn.ntmps) (aF:fn.ntmps≤1000000):zf fn (jX hg l x) [⟨hg,(cb false ce c).length,[cb false ce c]⟩]=(o3 hg ce l x c).aJ fn.ntmps:=by
 have cj:jX hg l x++List.replicate (fn.ntmps - (jX hg l x).length) AV.undef=(o3 hg ce l x c).tT fn.ntmps:=by
  apply List.ext_getElem?
  intro t
  show _=((List.range fn.ntmps).map fun t=>((o3 hg ce l x c).get t).bE)[t]?
  rw[List.getElem?_map]
  rcases Nat.lt_or_ge t fn.ntmps with aL | aL
  ·rw[List.getElem?_range aL]
   show _=some (fW (q7 hg 0 l x++[(bC 0,_)]) t .u).bE
   rw[sc,gJ,if_neg (by unfold bC;omega)]
   show _=some (fW (q7 hg 0 l x) t .u).bE
   rw[O8 rfl,if_neg (by omega),Nat.sub_zero]
   rcases Nat.lt_or_ge t (jX hg l x).length with h1 | h1
   ·rw[List.getElem?_append_left h1,List.getD_eq_getElem?_getD,List.getElem?_eq_getElem h1];rfl
   ·rw[List.getElem?_append_right h1,List.getElem?_replicate,if_pos (by omega),List.getD_eq_getElem?_getD,List.getElem?_eq_none h1];rfl
  ·rw[List.getElem?_eq_none (l:=List.range fn.ntmps) (by simpa using aL),List.getElem?_eq_none]
   ·rfl
   ·rw[List.length_append,List.length_replicate,Em];omega
 have aV:((o3 hg ce l x c).aJ fn.ntmps).H=[⟨hg,(cb false ce c).length,[cb false ce c]⟩]:=by
  show(o3 hg ce l x c).gu++g5 (o3 hg ce l x c)=_
  unfold g5;rw[NP (by omega)]
  show[((o3 hg ce l x c).get (bC 0)).eo]++[]=_
  rw[NO (by omega) (by unfold bC;omega),if_pos rfl]
  show[Blk.mk hg (gI false ce c).length [cS (gI false ce c)]]=_
  rw[CM (v5 false ce c),v5]
 show(⟨jX hg l x++_,[],_⟩:St)=⟨(o3 hg ce l x c).tT fn.ntmps,[],((o3 hg ce l x c).aJ fn.ntmps).H⟩
 rw[cj,aV]
def wm (P:Program) (n:Nat) (fn:Func) (hg:Nat) (ce:bI) (c':ce.T) (rs:List bI) (r:c7 rs) (s:TS):aW:=match s.get (bC 0) with
 | .eI g ba=>
  let nx:=ce.mk (oV ce.kN ba)
  let vs:=fn.results.toList.map (P4 P n s)
  .eq g hg (.eq (Nat.blt 0 s.br&&iv s) true (.eq (cS ba) (cb false ce nx) (.p (nx=c') (.eq (fun H Q=>rc P ⟨s.tT n,s.cw,H⟩ fn.results.toList Q) (fun _ Q=>Q (cS vs)) (.eq ((cS vs).all j5) true (Bh (s.gO 0 s.br (.eI (hg+1) ba)) rs vs r .hI))))))
 | _=> .no
theorem agE {H:List Blk}: ∀(rs:List bI) (r:c7 rs) (l:List AV),aD (sD H) l (l5 rs r)→im H (sx l) (k0 rs r):=by
 intro rs r l aI
 match rs,r,l with
 | [],_,[]=>exact .inl ⟨[],[],rfl,rfl,aD.nil⟩
 | [],_,_::_=>have:=aI.1;simp[l5] at this
 | [e],r,[]=>have:=aI.1;simp[l5] at this
 | [e],r,[v]=>exact .inr aI.head
 | [e],r,_::_::_=>have:=aI.1;simp[l5] at this
 | e::d_::rs,r,[]=>have:=aI.1;simp[l5] at this
 | e::d_::rs,r,[v]=>have:=aI.1;simp[l5] at this
 | e::d_::rs,r,v::w::l=>exact .inl ⟨_,_,rfl,rfl,aI⟩
theorem K6 [Z:FZ] {P:Program} {n:Nat} {fn:Func} {hg:Nat} {ce:bI} {c':ce.T} {rs:List bI} {r:c7 rs} {s:TS} {R:Exit→TS→Prop} (k:Nat) (hk:k=(cb false ce c').length) (h:(wm P n fn hg ce c' rs r s).den R):
  tu P fn (s.aJ n) fun v fe=> ∃B,fe=⟨hg,k,[cb false ce c']⟩::B∧im (⟨hg+1,k,[cb false ce c']⟩::B) v (k0 rs r):=by
 subst hk
 unfold wm at h
 split at h
 ·rename_i g ba pO
  obtain⟨h1,h2,aP,a8,cs,cT,gk⟩:=h
  subst h1
  rw[Bool.and_eq_true,Nat.blt_eq] at h2
  rw[a8] at aP
  have bA: ∀q,TV.eo (.eI q ba)=⟨q,(cb false ce c').length,[cb false ce c']⟩:=fun q=>by
   show Blk.mk q ba.length [cS ba]=_
   rw[CM aP,aP]
  have hb:=rp (n:=n) h2.1
  rw[pO,bA] at hb
  unfold tu
  have Xz:rc P (s.aJ n) fn.results.toList=_:=congrFun cs (s.aJ n).H
  rw[congrFun Xz]
  refine⟨cT,?_⟩
  obtain⟨oh,_⟩:=EH (n:=n) gk
  rw[tY h2.1,bA] at oh
  cases aV:(s.aJ n).H with
  | nil=>rw[aV] at hb;cases hb
  | cons x B=>
   rw[aV] at hb oh
   cases hb
   exact⟨B,rfl,agE rs r _ oh⟩
 ·exact h.elim
def Js {P:Program} (cf:hl P) (eA:vM P) (fn:Func) (hg:Nat) (ce:bI) (l:List fQ) (rs:List bI) (x:c7 (fQ.es l)) (c c':ce.T) (r:c7 rs) (a:lq):aW:=kc cf eA (some 1) (iI fn) (o3 hg ce l x c) a fun ex s _=>match ex with
 | .normal=>wm P cf.n fn hg ce c' rs r s
 | .ret=>wm P cf.n fn hg ce c' rs r s
 | _=> .no
theorem iV.run {P:Program} {f:FuncId} {fn:Func} {hg:Nat} {ce:bI} {l:List fQ} {rs:List bI} {x:c7 (fQ.es l)} {c c':ce.T} {r:c7 rs} (cf:hl P) (eA:vM P) (a:lq) {C:Prop} (hf:P.funcs[f]?=some fn) (h:C)
  (e:C=(Js cf eA fn hg ce l rs x c c' r a).n6.den:=by kernel_rfl) (e2:(Js cf eA fn hg ce l rs x c c' r a).lhs=(Js cf eA fn hg ce l rs x c c' r a).rhs:=by kernel_rfl)
  (hb:fn.body=some (iI fn):=by kernel_rfl) (hm:(fn.name== "runtime.NumGoroutine")=false:=by kernel_rfl) (aF:(Nat.beq cf.n fn.ntmps&&Nat.ble cf.n 1000000&&Nat.ble l.length cf.n)=true:=by kernel_rfl):iV P f hg (jX hg l x) (cb false ce c) (cb false ce c') (k0 rs r):=by
 simp only[Bool.and_eq_true] at aF
 have h1:=Nat.eq_of_beq_eq_true aF.1.1
 have h2:=Nat.le_of_ble_eq_true aF.1.2
 have aP:=Nat.le_of_ble_eq_true aF.2
 refine dI.Hm hf hb hm fun iW gm=> ?_
 letI Z:FZ:=⟨[],[]⟩
 rw[aaW (by rw[←h1];exact aP) (by rw[←h1];exact h2),←h1]
 refine Te h2 (fun k e=>by cases e;rw[gm];exact Nat.le_refl _) (iI fn) (R:=fun _ _=>True) (K:=fun ex s _=>match ex with
  | .normal=>wm P cf.n fn hg ce c' rs r s
  | .ret=>wm P cf.n fn hg ce c' rs r s
  | _=> .no) (fun ex s _ Z hs hf=> ?_) Z (@Fits.none Z _ (NP (by omega))) (aW.full (e▸h) e2)
 have hk:(cb false ce c).length=(cb false ce c').length:=by rw[rK,rK]
 cases ex with
 | normal=>exact K6 _ hk hs
 | ret=>exact K6 _ hk hs
 | _=>exact hs.elim
end Go.Proofs.Ytglpfccgmfhkdaa.Fw
