/- Walks and summaries of functions, printed by a program of mine (tools/mk2.py), with the proofs of what they owe. -/
import Derived.Test.YtglpfccgmfhkdaaM6
set_option linter.unusedVariables false
set_option maxRecDepth 100000
set_option maxHeartbeats 4000000
set_option linter.unusedSimpArgs false
namespace Go.Proofs.Ytglpfccgmfhkdaa.Fw
open Go
attribute [local irreducible] evS evSD WpS Weak Oper.looksAt
noncomputable def FN:Code:=iE Try.f33
def Yq:List Item:=[ao 0,ao 1,ao 2,ao 3,⟨4,true,false,[0,1]⟩,⟨5,true,false,[0,1]⟩,⟨6,true,false,[]⟩,ao 7,⟨8,true,false,[]⟩]
def Yr:List (List Nat):=[[],[0],[],[],[2,3],[2,3,4],rg 0 6,rg 0 7,rg 0 8]
abbrev iP (r:Type):Type:=Nat→(List a8)→Int→List (List Bool)→Nat→Nat→List Nat→Int→List ad→r
def FJ (aU:iP Prop) (aV:iP Nat) (J:az) (aR:Nat) (aH:(List a8)) (dh:Int) (aZ:List (List Bool)) (a2 bS:Nat) (aQ:List Nat) (be:Int) (ws2:List ad):Prop:=
  aU aR aH dh (aZ++[(a6 J be).ac]) (a2+1) (bS+1) (aQ++[aZ.length]) (IntKind.i64.wrap (be+1)) (ws2++[(ad.mk (a6 J be).aq (a6 J be).af (a6 J be).ac (a6 J be).ar (a6 J be).au)])∧aV aR aH dh (aZ++[(a6 J be).ac]) (a2+1) (bS+1) (aQ++[aZ.length]) (IntKind.i64.wrap (be+1)) (ws2++[(ad.mk (a6 J be).aq (a6 J be).af (a6 J be).ac (a6 J be).ar (a6 J be).au)])<aV aR aH dh aZ a2 bS aQ be ws2
def FK (aU:iP Prop) (aV:iP Nat) (J:az) (al:Frame) (aR:Nat) (aH:(List a8)) (dh:Int) (aZ:List (List Bool)) (a2 bS:Nat) (aQ:List Nat) (be:Int) (ws2:List ad):Prop:=
  ((decide (be<(J.O.length:Int)))=false→(true=al.ok)∧((List.replicate J.ai.toNat false).length≤4611686018427387904∧(List.replicate J.ai.toNat false)=al.aw)∧(aH.length≤4611686018427387904∧aH=al.ap)∧(kl ws2 aQ aZ∧ws2.length≤4611686018427387904∧(∀x∈aZ,List.length x≤4611686018427387904)∧view ws2 aQ aZ=al.O))∧((decide (be<(J.O.length:Int)))=true→((wX J be)∧(ws2.length=aQ.length∧((ws2.length+1)*56≤140737488355328∧ws2.length+1≤4611686018427387904)))∧(FJ aU aV J aR aH dh aZ a2 bS aQ be ws2))
abbrev mN (r:Type):Type:=Nat→(List a8)→Int→r
def FL (ay:mN Prop) (aB:mN Nat) (aU:iP Prop) (aV:iP Nat) (J:az) (al:Frame) (aR:Nat) (aH:(List a8)) (dh:Int):Prop:=
  ((decide (dh<(J.a5.length:Int)))=false→J.O.length≤4611686018427387904→aU aR aH dh ([]:List (List Bool)) 0 0 ([]:List Nat) 0 ([]:List ad)∧ ∀(aZ:List (List Bool)) (a2:Nat) (bS:Nat) (aQ:List Nat) (be:Int) (ws2:List ad),aU aR aH dh aZ a2 bS aQ be ws2→(FK aU aV J al aR aH dh aZ a2 bS aQ be ws2))∧((decide (dh<(J.a5.length:Int)))=true→((aH.length+[(a8.mk 1 1)].length)*16≤140737488355328∧aH.length+[(a8.mk 1 1)].length≤4611686018427387904)∧(ay (aR+1) (aH++[(a8.mk 1 1)]) (IntKind.i64.wrap (dh+1))∧aB (aR+1) (aH++[(a8.mk 1 1)]) (IntKind.i64.wrap (dh+1))<aB aR aH dh))
def FM (ay:mN Prop) (aB:mN Nat) (aU:iP Prop) (aV:iP Nat) (J:az) (al:Frame):Prop:=
  ((!(dT J))=true→(false=al.ok)∧([]=al.aw)∧([]=al.ap)∧([]=al.O))∧((!(!(dT J)))=true→(0≤J.ai∧1*J.ai≤140737488355328∧J.ai≤4611686018427387904)∧(J.a5.length≤4611686018427387904→ay 0 ([]:List a8) 0∧ ∀(aR:Nat) (aH:(List a8)) (dh:Int),ay aR aH dh→(FL ay aB aU aV J al aR aH dh)))
def FI (J:az) (al:Frame) (ay:mN Prop) (aB:mN Nat) (aU:iP Prop) (aV:iP Nat):Prop:=
 FM ay aB aU aV J al
theorem Ys (J:az) (al:Frame) (ay:mN Prop) (aB:mN Nat) (aU:iP Prop) (aV:iP Nat) (h:FI J al ay aB aU aV):b2 Try.prog 33 [.agg (bg false J)] (.agg (bZ true al)):=by
 unfold FI at h
 refine dH.go (fn:=Try.f33) [(0,.agg (bg false J))] Try.func33 (fun _ _=> ?_)
 show WpS _ (bT FN 1) _ ⟨bi 41 [(0,.agg (bg false J))],[],[]⟩
 refine qq [1000003] 0 [(2,aA 2 0),(1,aA 1 0)] [2] [] [(2,[an false,aF,aF,aF]),(1,(bg false J))] [] ?_
 unfold FM at h
 obtain⟨lc,h⟩:=h
 refine cB [] [2] ((!(!(dT J)))=true) ?_ (fun q2=> ?_)
 ·
  replace h:=lc
  refine cB [(7,an (!(dT J)))] [2] (True) ?_ (fun q3=> ?_)
  ·
   refine bM [1000003] 1 ?_
   refine mg 2 (some 6) [(5,.agg (bg false J))] [.agg (bg false J)] (Nr J) (aD.cons (dc.agg (aD.cons (.int _ _) (aD.cons cH (aD.cons cH (aD.cons cH (aD.cons (.int _ _) aD.nil)))))) aD.nil) ?_
   exact b6 [(7,an (!(dT J)))] trivial
  refine dI (fun q4=> ?_) (fun q4=> ?_)
  ·
   replace h:=h q4
   refine ej [1000003] 2 [(8,.agg [an false,aF,aF,aF])] [] [0,1,1] ?_
   exact hr (ci.ret (nm (.agg [an false,aF,aF,aF]) (ii.agg (aD.cons (np h.1) (aD.cons (rj h.2.1) (aD.cons (rj h.2.2.1) (aD.cons (rj h.2.2.2) aD.nil)))))))
  ·
   refine eo ?_
   exact ci.normal (by simp only[q4]<;>rfl) ed
 replace h:=h q2
 obtain⟨jC,h⟩:=h
 refine fa [(3,aA 3 0)] [2] (fun L=>(3,[an true,aj 0 0 (List.replicate J.ai.toNat false).length,aF,aF])::L) (fun _=>[⟨0,1,List.map aY (List.replicate J.ai.toNat false)⟩]) (True) ?_ (fun c6=> ?_)
 ·
  replace h:=jC
  refine bM [1000003] 3 ?_
  have fP:=h
  refine HN 3 (some 11) [(10,ag J.ai),(9,aA 1 0)] aY 1 [an false] 0 (fun r=>[⟨0,1,r⟩]) false fP ?_
  exact b6 [(3,aA 3 0),(12,.agg [an true,aj 0 0 (List.replicate J.ai.toNat false).length,aF,aF])] trivial
 refine hJ ?_
 refine cB [(15,ag (J.a5.length:Int)),(16,ag 0)] [3] (J.a5.length≤4611686018427387904) ?_ (fun fD=> ?_)
 ·
  refine bM [1000003] 4 ?_
  refine sLen 3 (some 15) [(14,bL c_ J.a5),(13,aA 1 1)] c_ J.a5 (fun iJ=> ?_)
  exact b6 [(16,ag 0)] iJ
 replace h:=h fD
 refine fs 0 ?_
 refine WpS.mn ?_ (hq (s'':=⟨(bi 41 [(15,ag (J.a5.length:Int)),(16,ag 0),(3,aA 3 0),(2,aA 2 0),(1,aA 1 0)]),[(3,[an true,aj 0 0 (List.replicate J.ai.toNat false).length,aj 1 0 ([]:List a8).length,aF]),(2,[an false,aF,aF,aF]),(1,(bg false J))],[⟨0,1,List.map aY (List.replicate J.ai.toNat false)⟩,⟨0,2,List.map a7 ([]:List a8)⟩]⟩) (Weak.tP (T:=(bi 41 [(15,ag (J.a5.length:Int)),(16,ag 0),(3,aA 3 0),(2,aA 2 0),(1,aA 1 0)])) (L:=[(3,[an true,aj 0 0 (List.replicate J.ai.toNat false).length,aF,aF]),(2,[an false,aF,aF,aF]),(1,(bg false J))]) (H:=[⟨0,1,List.map aY (List.replicate J.ai.toNat false)⟩]) (cells:=[an true,aj 0 0 (List.replicate J.ai.toNat false).length,aF,aF]) 3 2 2 (by kernel_rfl) (by kernel_rfl)) (by kernel_rfl))
 obtain⟨nf,h⟩:=h
 refine km (fun(v:Nat×(List a8)×Int)=>(⟨(bi 41 [(1,aA 1 0),(2,aA 2 0),(3,aA 3 0),(15,ag (J.a5.length:Int)),(16,ag (v.2.2))]),[(3,[an true,aj 0 0 (List.replicate J.ai.toNat false).length,aj 1 (v.1) (v.2.1).length,aF]),(2,[an false,aF,aF,aF]),(1,(bg false J))],[⟨0,1,List.map aY (List.replicate J.ai.toNat false)⟩,⟨(v.1),2,List.map a7 (v.2.1)⟩]⟩:St)) (fun(v:Nat×(List a8)×Int)=>ay (v.1) (v.2.1) (v.2.2)) (fun(v:Nat×(List a8)×Int)=>aB (v.1) (v.2.1) (v.2.2)) (0,([]:List a8),0) (dC []) nf (fun v a0=> ?_)
 obtain⟨aR,aH,dh⟩:=v
 replace h:=h aR aH dh a0
 dsimp only
 refine ej [1000003] 5 [(17,an (decide (dh<(J.a5.length:Int))))] [1] [5] ?_
 unfold FL at h
 obtain⟨nP,h⟩:=h
 refine cB [] [0,1,5] ((decide (dh<(J.a5.length:Int)))=true) ?_ (fun iw=> ?_)
 ·
  replace h:=nP
  refine dI (fun h6=> ?_) (fun h6=> ?_)
  ·
   refine eo ?_
   exact ci.normal (by simp only[q2,h6]<;>rfl) ed
  ·
   replace h:=h h6
   refine iZ 0 ?_
   refine ci.exit ?_
   refine d_.exit ?_
   refine cm.here ?_
   refine eb.normal ?_
   refine hJ ?_
   refine j4 ⟨(bi 41 [(1,aA 1 0),(2,aA 2 0),(3,aA 3 0),(27,ag (J.O.length:Int)),(28,ag 0)]),[(3,[an true,aj 0 0 (List.replicate J.ai.toNat false).length,aj 1 aR aH.length,aF]),(2,[an false,aF,aF,aF]),(1,(bg false J))],[⟨0,1,List.map aY (List.replicate J.ai.toNat false)⟩,⟨aR,2,List.map a7 aH⟩]⟩ (J.O.length≤4611686018427387904) ?_ (fun fI=> ?_)
   ·
    refine bM [1000003] 8 ?_
    refine sLen 3 (some 27) [(26,bL (dw false) J.O),(25,aA 1 2)] (dw false) J.O (fun q5=> ?_)
    exact b6 [(28,ag 0)] q5
   replace h:=h fI
   refine fs 2 ?_
   refine WpS.mn ?_ (hq (s'':=⟨(bi 41 [(1,aA 1 0),(2,aA 2 0),(3,aA 3 0),(27,ag (J.O.length:Int)),(28,ag 0)]),[(3,[an true,aj 0 0 (List.replicate J.ai.toNat false).length,aj 1 aR aH.length,aj 2 0 ([]:List ad).length]),(2,[an false,aF,aF,aF]),(1,(bg false J))],[⟨0,1,List.map aY (List.replicate J.ai.toNat false)⟩,⟨aR,2,List.map a7 aH⟩,⟨0,5,a1 4 ([]:List ad) ([]:List Nat)⟩]⟩) (Weak.tP (T:=(bi 41 [(1,aA 1 0),(2,aA 2 0),(3,aA 3 0),(27,ag (J.O.length:Int)),(28,ag 0)])) (L:=[(3,[an true,aj 0 0 (List.replicate J.ai.toNat false).length,aj 1 aR aH.length,aF]),(2,[an false,aF,aF,aF]),(1,(bg false J))]) (H:=[⟨0,1,List.map aY (List.replicate J.ai.toNat false)⟩,⟨aR,2,List.map a7 aH⟩]) (cells:=[an true,aj 0 0 (List.replicate J.ai.toNat false).length,aj 1 aR aH.length,aF]) 3 3 5 (by kernel_rfl) (by kernel_rfl)) (by kernel_rfl))
   refine WpS.mn ?_ (hq (s'':=⟨(bi 41 [(1,aA 1 0),(2,aA 2 0),(3,aA 3 0),(27,ag (J.O.length:Int)),(28,ag 0)]),[(3,[an true,aj 0 0 (List.replicate J.ai.toNat false).length,aj 1 aR aH.length,aj 2 0 ([]:List ad).length]),(2,[an false,aF,aF,aF]),(1,(bg false J))],(⟨0,1,List.map aY (List.replicate J.ai.toNat false)⟩::⟨aR,2,List.map a7 aH⟩::⟨0,5,a1 4 ([]:List ad) ([]:List Nat)⟩::⟨0,5,[]⟩::List.map bo ([]:List (List Bool)))⟩) (Weak.w5 (T:=(bi 41 [(1,aA 1 0),(2,aA 2 0),(3,aA 3 0),(27,ag (J.O.length:Int)),(28,ag 0)])) (L:=[(3,[an true,aj 0 0 (List.replicate J.ai.toNat false).length,aj 1 aR aH.length,aj 2 0 ([]:List ad).length]),(2,[an false,aF,aF,aF]),(1,(bg false J))]) (H:=[⟨0,1,List.map aY (List.replicate J.ai.toNat false)⟩,⟨aR,2,List.map a7 aH⟩,⟨0,5,a1 4 ([]:List ad) ([]:List Nat)⟩]) 5) (by kernel_rfl))
   obtain⟨iy,h⟩:=h
   refine km (fun(v:List (List Bool)×Nat×Nat×List Nat×Int×List ad)=>(⟨(bi 41 [(1,aA 1 0),(2,aA 2 0),(3,aA 3 0),(27,ag (J.O.length:Int)),(28,ag (v.2.2.2.2.1))]),[(3,[an true,aj 0 0 (List.replicate J.ai.toNat false).length,aj 1 aR aH.length,aj 2 (v.2.1) (v.2.2.2.2.2).length]),(2,[an false,aF,aF,aF]),(1,(bg false J))],(⟨0,1,List.map aY (List.replicate J.ai.toNat false)⟩::⟨aR,2,List.map a7 aH⟩::⟨(v.2.1),5,a1 4 (v.2.2.2.2.2) (v.2.2.2.1)⟩::⟨(v.2.2.1),5,[]⟩::List.map bo (v.1))⟩:St)) (fun(v:List (List Bool)×Nat×Nat×List Nat×Int×List ad)=>aU aR aH dh (v.1) (v.2.1) (v.2.2.1) (v.2.2.2.1) (v.2.2.2.2.1) (v.2.2.2.2.2)) (fun(v:List (List Bool)×Nat×Nat×List Nat×Int×List ad)=>aV aR aH dh (v.1) (v.2.1) (v.2.2.1) (v.2.2.2.1) (v.2.2.2.2.1) (v.2.2.2.2.2)) (([]:List (List Bool)),0,0,([]:List Nat),0,([]:List ad)) (dC []) iy (fun v a0=> ?_)
   obtain⟨aZ,a2,bS,aQ,be,ws2⟩:=v
   replace h:=h aZ a2 bS aQ be ws2 a0
   dsimp only
   refine ej [1000003] 9 [(29,an (decide (be<(J.O.length:Int))))] [1] [5] ?_
   unfold FK at h
   obtain⟨g_,h⟩:=h
   refine cB [] [0,1,5] ((decide (be<(J.O.length:Int)))=true) ?_ (fun ke=> ?_)
   ·
    replace h:=g_
    refine dI (fun hR=> ?_) (fun hR=> ?_)
    ·
     refine eo ?_
     exact ci.normal (by simp only[q2,h6,hR]<;>rfl) ed
    ·
     replace h:=h hR
     refine iZ 2 ?_
     refine ci.exit ?_
     refine d_.exit ?_
     refine cm.here ?_
     refine eb.normal ?_
     refine j4 ⟨(bi 41 [(2,aA 2 0)]),[(3,[an true,aj 0 0 (List.replicate J.ai.toNat false).length,aj 1 aR aH.length,aj 2 a2 ws2.length]),(2,[an true,aj 0 0 (List.replicate J.ai.toNat false).length,aj 1 aR aH.length,aj 2 a2 ws2.length]),(1,(bg false J))],(⟨0,1,List.map aY (List.replicate J.ai.toNat false)⟩::⟨aR,2,List.map a7 aH⟩::⟨a2,5,a1 4 ws2 aQ⟩::⟨bS,5,[]⟩::List.map bo aZ)⟩ (True) ?_ (fun mb=> ?_)
     ·
      refine bM [1000003] 13 ?_
      exact b6 [(40,.agg [an true,aj 0 0 (List.replicate J.ai.toNat false).length,aj 1 aR aH.length,aj 2 a2 ws2.length])] trivial
     exact hr (nm (.agg [an true,aj 0 0 (List.replicate J.ai.toNat false).length,aj 1 aR aH.length,aj 2 a2 ws2.length]) (ii.agg (aD.cons (np h.1) (aD.cons (ri (sz:=1) (by simp) rfl (vV) h.2.1) (aD.cons (ri (sz:=2) (by simp) rfl (yi) h.2.2.1) (aD.cons (CV (s:=4) (ws:=ws2) (ids:=aQ) (bs:=aZ) (by simp) rfl (fun id k h=>by simpa using h) h.2.2.2) aD.nil))))))
   replace h:=h ke
   obtain⟨ic,h⟩:=h
   refine fa [] [5] (fun L=>hV 0 3 (aj 2 (a2+1) (ws2++[(ad.mk (a6 J be).aq (a6 J be).af (a6 J be).ac (a6 J be).ar (a6 J be).au)]).length) L) (fun _=>(⟨0,1,List.map aY (List.replicate J.ai.toNat false)⟩::⟨aR,2,List.map a7 aH⟩::⟨(a2+1),5,a1 4 (ws2++[(ad.mk (a6 J be).aq (a6 J be).af (a6 J be).ac (a6 J be).ar (a6 J be).au)]) (aQ++[aZ.length])⟩::⟨(bS+1),5,[[ag (a6 J be).aq,ag (a6 J be).af,aj (aZ.length+4) 0 (a6 J be).ac.length,an (a6 J be).ar,ag (a6 J be).au]]⟩::List.map bo (aZ++[(a6 J be).ac]))) (True) ?_ (fun hA=> ?_)
   ·
    replace h:=ic
    refine fs 3 ?_
    refine ej [1000003] 10 [(4,ag be),(30,ag be)] [1] [5] ?_
    refine nl [1000003] 11 Yq Yr [] ?_
    obtain⟨kB,h⟩:=h
    refine C5 5 (some 35) [(34,ag be),(33,.agg (bg false J)),(32,aj 2 a2 ws2.length),(31,aA 3 3)] [.agg (bg false J),ag be] (fun L H=>pz Try.prog (ji FN 16025) [0,1] [(34,ag be),(33,.agg (bg false J)),(32,aj 2 a2 ws2.length),(31,aA 3 3),(4,ag be),(1,aA 1 0),(2,aA 2 0),(3,aA 3 0),(27,ag (J.O.length:Int)),(28,ag be)] L H) (.agg [ag (a6 J be).aq,ag (a6 J be).af,aj (aZ.length+4) 0 (a6 J be).ac.length,an (a6 J be).ar,ag (a6 J be).au]) (⟨0,1,List.map aY (List.replicate J.ai.toNat false)⟩::⟨aR,2,List.map a7 aH⟩::⟨a2,5,a1 4 ws2 aQ⟩::⟨bS,5,[]⟩::List.map bo (aZ++[(a6 J be).ac])) (BX J be kB) (aD.cons (dc.agg (aD.cons (.int _ _) (aD.cons cH (aD.cons cH (aD.cons cH (aD.cons (.int _ _) aD.nil)))))) (aD.cons (dc.h4 (.int _ _)) aD.nil)) (qW (fun _=>rfl) rfl) (rh (rf (fun _=>rfl) rfl) (by simp only[List.cons_append,List.map_nil,rL])) (tg (ψ:=((true=true∧true=true∧((aA 3 3:AV)=aA 3 3))∧((true=true∧true=true∧((aj 2 a2 ws2.length:AV)=aj 2 a2 ws2.length))∧True))) (by kernel_rfl) ⟨⟨rfl,rfl,rfl⟩,⟨⟨rfl,rfl,rfl⟩,trivial⟩⟩) ?_ (er:=by simp[mI,nU,iM])
    refine z4 1 [(36,.ref 3 (bS+1) 0 1 true)] [(3,[an true,aj 0 0 (List.replicate J.ai.toNat false).length,aj 1 aR aH.length,aj 2 a2 ws2.length]),(2,[an false,aF,aF,aF]),(1,(bg false J))] (⟨0,1,List.map aY (List.replicate J.ai.toNat false)⟩::⟨aR,2,List.map a7 aH⟩::⟨a2,5,a1 4 ws2 aQ⟩::⟨(bS+1),5,[[ag (a6 J be).aq,ag (a6 J be).af,aj (aZ.length+4) 0 (a6 J be).ac.length,an (a6 J be).ar,ag (a6 J be).au]]⟩::List.map bo (aZ++[(a6 J be).ac])) (φ:=pz Try.prog (ji FN 16025) [0,1] [(35,.agg [ag (a6 J be).aq,ag (a6 J be).af,aj (aZ.length+4) 0 (a6 J be).ac.length,an (a6 J be).ar,ag (a6 J be).au]),(34,ag be),(33,.agg (bg false J)),(32,aj 2 a2 ws2.length),(31,aA 3 3),(4,ag be),(1,aA 1 0),(2,aA 2 0),(3,aA 3 0),(27,ag (J.O.length:Int)),(28,ag be)] [(3,[an true,aj 0 0 (List.replicate J.ai.toNat false).length,aj 1 aR aH.length,aj 2 a2 ws2.length]),(2,[an false,aF,aF,aF]),(1,(bg false J))] (⟨0,1,List.map aY (List.replicate J.ai.toNat false)⟩::⟨aR,2,List.map a7 aH⟩::⟨a2,5,a1 4 ws2 aQ⟩::⟨(bS+1),5,[[ag (a6 J be).aq,ag (a6 J be).af,aj (aZ.length+4) 0 (a6 J be).ac.length,an (a6 J be).ar,ag (a6 J be).au]]⟩::List.map bo (aZ++[(a6 J be).ac]))) (tg (ψ:=((true=true∧true=true∧((aA 3 3:AV)=aA 3 3))∧((true=true∧true=true∧((aj 2 a2 ws2.length:AV)=aj 2 a2 ws2.length))∧True))) (by kernel_rfl) ⟨⟨rfl,rfl,rfl⟩,⟨⟨rfl,rfl,rfl⟩,trivial⟩⟩) ?_
    have jW:=h
    refine SG 1 (some 37) [] 4 2 a2 (bS+1) 56 ws2 aQ (ad.mk (a6 J be).aq (a6 J be).af (a6 J be).ac (a6 J be).ar (a6 J be).au) aZ.length (fun _=>True) (fun r=>(⟨0,1,List.map aY (List.replicate J.ai.toNat false)⟩::⟨aR,2,List.map a7 aH⟩::⟨(a2+1),5,r⟩::⟨(bS+1),5,[[ag (a6 J be).aq,ag (a6 J be).af,aj (aZ.length+4) 0 (a6 J be).ac.length,an (a6 J be).ar,ag (a6 J be).au]]⟩::List.map bo (aZ++[(a6 J be).ac]))) jW.1 jW.2 trivial ?_
    refine z4 2 [(38,aA 3 3)] [(3,[an true,aj 0 0 (List.replicate J.ai.toNat false).length,aj 1 aR aH.length,aj 2 (a2+1) (ws2++[(ad.mk (a6 J be).aq (a6 J be).af (a6 J be).ac (a6 J be).ar (a6 J be).au)]).length]),(2,[an false,aF,aF,aF]),(1,(bg false J))] (⟨0,1,List.map aY (List.replicate J.ai.toNat false)⟩::⟨aR,2,List.map a7 aH⟩::⟨(a2+1),5,a1 4 (ws2++[(ad.mk (a6 J be).aq (a6 J be).af (a6 J be).ac (a6 J be).ar (a6 J be).au)]) (aQ++[aZ.length])⟩::⟨(bS+1),5,[[ag (a6 J be).aq,ag (a6 J be).af,aj (aZ.length+4) 0 (a6 J be).ac.length,an (a6 J be).ar,ag (a6 J be).au]]⟩::List.map bo (aZ++[(a6 J be).ac])) (φ:=True) trivial ?_
    refine xO [] ?_
    refine cm.normal ?_
    exact ci.normal trivial ed
   unfold FJ at h
   refine bM [1000003] 12 ?_
   refine dY [(28,ag (IntKind.i64.wrap (be+1))),(39,ag (IntKind.i64.wrap (be+1)))] ?_
   exact d_.again ((aZ++[(a6 J be).ac]),(a2+1),(bS+1),(aQ++[aZ.length]),(IntKind.i64.wrap (be+1)),(ws2++[(ad.mk (a6 J be).aq (a6 J be).af (a6 J be).ac (a6 J be).ar (a6 J be).au)])) h ((Weak.clear 3 rfl:Weak ⟨(bi 41 [(28,ag (IntKind.i64.wrap (be+1))),(39,ag (IntKind.i64.wrap (be+1))),(1,aA 1 0),(2,aA 2 0),(3,aA 3 0),(27,ag (J.O.length:Int))]),[(3,[an true,aj 0 0 (List.replicate J.ai.toNat false).length,aj 1 aR aH.length,aj 2 (a2+1) (ws2++[(ad.mk (a6 J be).aq (a6 J be).af (a6 J be).ac (a6 J be).ar (a6 J be).au)]).length]),(2,[an false,aF,aF,aF]),(1,(bg false J))],(⟨0,1,List.map aY (List.replicate J.ai.toNat false)⟩::⟨aR,2,List.map a7 aH⟩::⟨(a2+1),5,a1 4 (ws2++[(ad.mk (a6 J be).aq (a6 J be).af (a6 J be).ac (a6 J be).ar (a6 J be).au)]) (aQ++[aZ.length])⟩::⟨(bS+1),5,[[ag (a6 J be).aq,ag (a6 J be).af,aj (aZ.length+4) 0 (a6 J be).ac.length,an (a6 J be).ar,ag (a6 J be).au]]⟩::List.map bo (aZ++[(a6 J be).ac]))⟩ ⟨(bi 41 [(28,ag (IntKind.i64.wrap (be+1))),(39,ag (IntKind.i64.wrap (be+1))),(1,aA 1 0),(2,aA 2 0),(3,aA 3 0),(27,ag (J.O.length:Int))]),[(3,[an true,aj 0 0 (List.replicate J.ai.toNat false).length,aj 1 aR aH.length,aj 2 (a2+1) (ws2++[(ad.mk (a6 J be).aq (a6 J be).af (a6 J be).ac (a6 J be).ar (a6 J be).au)]).length]),(2,[an false,aF,aF,aF]),(1,(bg false J))],(⟨0,1,List.map aY (List.replicate J.ai.toNat false)⟩::⟨aR,2,List.map a7 aH⟩::⟨(a2+1),5,a1 4 (ws2++[(ad.mk (a6 J be).aq (a6 J be).af (a6 J be).ac (a6 J be).ar (a6 J be).au)]) (aQ++[aZ.length])⟩::⟨(bS+1),5,[]⟩::List.map bo (aZ++[(a6 J be).ac]))⟩).trans (dC []))
 replace h:=h iw
 obtain⟨mC,h⟩:=h
 refine fa [] [5] (fun L=>hV 0 2 (aj 1 (aR+1) (aH++[(a8.mk 1 1)]).length) L) (fun H=>en 1 ⟨(aR+1),2,List.map a7 (aH++[(a8.mk 1 1)])⟩ H) (True) ?_ (fun ie=> ?_)
 ·
  replace h:=mC
  refine fs 1 ?_
  refine bM [1000003] 6 ?_
  have kC:=h
  refine P3 5 (some 22) [(21,.bC (List.map a7 [(a8.mk 1 1)]) true true),(20,.agg [ag 1,ag 1]),(19,aj 1 aR aH.length),(18,aA 3 2)] a7 aH [(a8.mk 1 1)] (lJ true (List.map a7 [(a8.mk 1 1)])) 1 aR 2 16 (fun r=>[⟨0,1,List.map aY (List.replicate J.ai.toNat false)⟩,⟨(aR+1),2,r⟩]) rfl kC ?_
  refine CP [(23,aA 3 2)] [(3,[an true,aj 0 0 (List.replicate J.ai.toNat false).length,aj 1 (aR+1) (aH++[(a8.mk 1 1)]).length,aF]),(2,[an false,aF,aF,aF]),(1,(bg false J))] [⟨0,1,List.map aY (List.replicate J.ai.toNat false)⟩,⟨(aR+1),2,List.map a7 (aH++[(a8.mk 1 1)])⟩] ?_
  refine cm.normal ?_
  exact ci.normal trivial ed
 refine bM [1000003] 7 ?_
 refine dY [(16,ag (IntKind.i64.wrap (dh+1))),(24,ag (IntKind.i64.wrap (dh+1)))] ?_
 exact d_.again ((aR+1),(aH++[(a8.mk 1 1)]),(IntKind.i64.wrap (dh+1))) h (dC [])
theorem Yp (J:az):b2 Try.prog 33 [.agg (bg false J)] (.agg (bZ true (ei J))):=Ys J (ei J) (fun _ x v=>ct J.a5.length (fun _=>false) v∧x=List.replicate v.toNat (a8.mk 1 1)) (fun _ _ v=>cG J.a5.length v) (fun _ x _ bs _ _ is v ws=>x=List.replicate J.a5.length (a8.mk 1 1)∧ct J.O.length (fun _=>false) v∧ws=(J.O.take v.toNat).map (fun w=>g8 w.ai.length)∧is=List.range ws.length∧bs=ws.map ad.ac) (fun _ _ _ _ _ _ _ v _=>cG J.O.length v) (by
 unfold FI FM
 refine⟨fun h=> ?_,fun h=> ?_⟩
 ·have h:dT J=false:=by simpa using h
  unfold ei;rw[if_neg (by rw[h];simp)];exact⟨rfl,rfl,rfl,rfl⟩
 have h:dT J=true:=by simpa using h
 have cF:=sh h
 have h1:=cF.c2
 have h2:=cF.sw
 have aO:=cF.O
 have e:ei J=⟨true,List.replicate J.ai.toNat false,List.replicate J.a5.length ⟨1,1⟩,J.O.map fun w=>g8 w.ai.length⟩:=by unfold ei;rw[if_pos h]
 rw[e]
 refine⟨⟨by omega,by omega,by omega⟩,fun aG=>⟨⟨df (dp _),rfl⟩,fun g x v a0=> ?_⟩⟩
 obtain⟨a0,rfl⟩:=a0
 have wT:=a0.2.1
 unfold FL
 refine⟨fun hv hm=>⟨⟨?_,df (dp _),rfl,rfl,rfl⟩,fun bs a2 bS is k ws de=> ?_⟩,fun hv=>⟨⟨?_,?_⟩,⟨(cO (cw aG) a0 hv rfl).1,?_⟩,(cO (cw aG) a0 hv rfl).2⟩⟩
 ·have: ¬v<(J.a5.length:Int):=by simpa using hv
  rw[show v.toNat=J.a5.length by omega]
 ·obtain⟨hx,de,rfl,rfl,rfl⟩:=de
  have qE:=de.2.1
  have rX:=de.1
  have aL:((J.O.take k.toNat).map fun w=>g8 w.ai.length).length=k.toNat:=by rw[List.length_map,List.length_take];omega
  obtain⟨fv,fZ,fE⟩:=we ((J.O.take k.toNat).map fun w=>g8 w.ai.length)
  unfold FK FJ
  refine⟨fun hk=>⟨rfl,⟨by rw[List.length_replicate];omega,rfl⟩,⟨by rw[List.length_replicate];omega,hx⟩,fv,by omega,fun b hb=> ?_,?_⟩,fun hk=>⟨⟨⟨cF,rX,by simpa using hk⟩,by rw[List.length_range],by omega,by omega⟩,⟨hx,(cO (cw hm) de hk rfl).1,?_,?_,?_⟩,(cO (cw hm) de hk rfl).2⟩⟩
  ·obtain⟨y,bm,rfl⟩:=List.mem_map.1 hb
   obtain⟨w,hw,rfl⟩:=List.mem_map.1 bm
   have:=(cF.ai w (List.mem_of_mem_take hw)).2.1
   simp[g8];omega
  ·rw[fE]
   have: ¬k<(J.O.length:Int):=by simpa using hk
   rw[List.take_of_length_le (by omega)]
  ·have b9:=cb de hk
   rw[iU (cw hm) rX (by simpa using hk),show(k+1).toNat=k.toNat+1 by omega,List.take_succ_eq_append_getElem b9.2,←gk b9.2,List.map_append];rfl
  ·rw[List.length_append,List.length_singleton,List.range_succ,List.length_map]
   simp
  ·rw[List.map_append];rfl
 ·rw[List.length_replicate,List.length_singleton];omega
 ·rw[List.length_replicate,List.length_singleton];omega
 ·rw[iU (cw aG) a0.1 (by simpa using hv),show(v+1).toNat=v.toNat+1 by have:=a0.1;omega,List.replicate_succ'])
def Mx:eC Try.prog:=⟨33,[.dt],[.frame],none,fun x=>((ei x.1),()),fun x h=>Yp x.1⟩
noncomputable def M_:Code:=iE Try.f63
def YT:List Item:=[ao 0,ao 1,ao 2,ao 3,ao 4,ao 5,ao 6,ao 7,ao 8,ao 9,ao 10,ao 11,ao 12,ao 13,ao 14,ao 15]
def YU:List (List Nat):=[[],[0],[0,1],[0,1,2],rg 0 4,rg 0 5,rg 0 5,rg 0 5++[6],rg 0 5,rg 0 5++[8],rg 0 5++rg 6 10,rg 0 5++rg 6 11,rg 0 5++rg 6 12,rg 0 13,rg 0 14,rg 0 15]
def YV:List Item:=[ao 0,ao 1,ao 2,ao 3,ao 4,ao 5,⟨6,true,false,[1,2,3]⟩,ao 7,ao 8,⟨9,true,false,[]⟩]
def YW:List (List Nat):=[[],[],[],[2],[0],[0,4],[0,4,5],rg 0 7,rg 0 8,rg 0 9]
def YX:List Item:=[ao 0,ao 1,ao 2,ao 3,ao 4,ao 5,ao 6,ao 7,ao 8,ao 9,ao 10]
def YY:List (List Nat):=[[],[0],[],[2],[],[4],rg 2 6,rg 2 7,rg 0 8,rg 0 9,rg 0 10]
def FT (ay:(List a8)→Int→Prop) (aB:(List a8)→Int→Nat) (J:az) (U:Event) (aH:(List a8)) (eO:Int):Prop:=
  ay (aH.set (nth (bA (nth J.O U.ah)) eO).sw.toNat (a8.mk (nth (bA (nth J.O U.ah)) eO).bj (nth aH (nth (bA (nth J.O U.ah)) eO).sw).aX)) (IntKind.i64.wrap (eO+1))∧aB (aH.set (nth (bA (nth J.O U.ah)) eO).sw.toNat (a8.mk (nth (bA (nth J.O U.ah)) eO).bj (nth aH (nth (bA (nth J.O U.ah)) eO).sw).aX)) (IntKind.i64.wrap (eO+1))<aB aH eO
abbrev j1 (r:Type):Type:=List (List Bool)→(List Bool)→(List a8)→List Nat→Int→List ad→r
def F2 (ay:(List a8)→Int→Prop) (aB:(List a8)→Int→Nat) (dE:j1 Prop) (J:az) (M:Frame) (U:Event) (aH:(List a8)) (eO:Int):Prop:=
  ((decide (eO<((bA (nth J.O U.ah)).length:Int)))=false→dE (List.map ad.ac (aa M).O) (aa M).aw aH (List.range (aa M).O.length) (eA J (Frame.mk (aa M).ok (aa M).aw (aa M).ap (view (aa M).O (List.range (aa M).O.length) (List.map ad.ac (aa M).O))) U.ah) ((aa M).O.set U.ah.toNat (ad.mk 1 (nth (aa M).O U.ah).af (nth (aa M).O U.ah).ac (nth (aa M).O U.ah).ar (nth (aa M).O U.ah).au)))∧((decide (eO<((bA (nth J.O U.ah)).length:Int)))=true→((0≤eO∧eO.toNat<(bA (nth J.O U.ah)).length)∧(0≤(nth (bA (nth J.O U.ah)) eO).sw∧(nth (bA (nth J.O U.ah)) eO).sw.toNat<aH.length))∧(FT ay aB J U aH eO))
def F3 (ay:(List a8)→Int→Prop) (aB:(List a8)→Int→Nat) (dE:j1 Prop) (J:az) (M:Frame) (U:Event):Prop:=
  (((eA J (Frame.mk (aa M).ok (aa M).aw (aa M).ap (view (aa M).O (List.range (aa M).O.length) (List.map ad.ac (aa M).O))) U.ah)==0)=true→((0≤U.ah∧U.ah.toNat<(aa M).O.length)∧((aa M).O.length=(List.range (aa M).O.length).length∧U.ah.toNat<(aa M).O.length))∧(((0≤U.ah∧U.ah.toNat<J.O.length)∧(xn (nth J.O U.ah)))∧((bA (nth J.O U.ah)).length≤4611686018427387904→ay (aa M).ap 0∧ ∀(aH:(List a8)) (eO:Int),ay aH eO→(F2 ay aB dE J M U aH eO))))∧(((eA J (Frame.mk (aa M).ok (aa M).aw (aa M).ap (view (aa M).O (List.range (aa M).O.length) (List.map ad.ac (aa M).O))) U.ah)==0)=false→dE (List.map ad.ac (aa M).O) (aa M).aw (aa M).ap (List.range (aa M).O.length) (eA J (Frame.mk (aa M).ok (aa M).aw (aa M).ap (view (aa M).O (List.range (aa M).O.length) (List.map ad.ac (aa M).O))) U.ah) (aa M).O)
def F4 (dE:j1 Prop) (J:az) (M:Frame) (U:Event):Prop:=
  (((nth (aa M).O U.ah).ar&&(gH (Frame.mk (aa M).ok (aa M).aw (aa M).ap (view (aa M).O (List.range (aa M).O.length) (List.map ad.ac (aa M).O))) (nth J.O U.ah).cK))=true→((aa M).O.length=(List.range (aa M).O.length).length∧U.ah.toNat<(aa M).O.length)∧((((aa M).O.set U.ah.toNat (ad.mk 3 (nth (aa M).O U.ah).af (nth (aa M).O U.ah).ac (nth (aa M).O U.ah).ar (nth (aa M).O U.ah).au)).length=(List.range (aa M).O.length).length∧U.ah.toNat<((aa M).O.set U.ah.toNat (ad.mk 3 (nth (aa M).O U.ah).af (nth (aa M).O U.ah).ac (nth (aa M).O U.ah).ar (nth (aa M).O U.ah).au)).length)∧(dE (List.map ad.ac (aa M).O) (aa M).aw (aa M).ap (List.range (aa M).O.length) 0 (((aa M).O.set U.ah.toNat (ad.mk 3 (nth (aa M).O U.ah).af (nth (aa M).O U.ah).ac (nth (aa M).O U.ah).ar (nth (aa M).O U.ah).au)).set U.ah.toNat (ad.mk (nth ((aa M).O.set U.ah.toNat (ad.mk 3 (nth (aa M).O U.ah).af (nth (aa M).O U.ah).ac (nth (aa M).O U.ah).ar (nth (aa M).O U.ah).au)) U.ah).aq (nth ((aa M).O.set U.ah.toNat (ad.mk 3 (nth (aa M).O U.ah).af (nth (aa M).O U.ah).ac (nth (aa M).O U.ah).ar (nth (aa M).O U.ah).au)) U.ah).af (nth ((aa M).O.set U.ah.toNat (ad.mk 3 (nth (aa M).O U.ah).af (nth (aa M).O U.ah).ac (nth (aa M).O U.ah).ar (nth (aa M).O U.ah).au)) U.ah).ac (nth ((aa M).O.set U.ah.toNat (ad.mk 3 (nth (aa M).O U.ah).af (nth (aa M).O U.ah).ac (nth (aa M).O U.ah).ar (nth (aa M).O U.ah).au)) U.ah).ar J.dx)))))∧(((nth (aa M).O U.ah).ar&&(gH (Frame.mk (aa M).ok (aa M).aw (aa M).ap (view (aa M).O (List.range (aa M).O.length) (List.map ad.ac (aa M).O))) (nth J.O U.ah).cK))=false→(wX J U.ah)∧(((aa M).O.length=(List.range (aa M).O.length).length∧U.ah.toNat<(aa M).O.length)∧(dE ((List.map ad.ac (aa M).O)++[(a6 J U.ah).ac]) (aa M).aw (aa M).ap ((List.range (aa M).O.length).set U.ah.toNat (List.map ad.ac (aa M).O).length) 0 ((aa M).O.set U.ah.toNat (ad.mk (a6 J U.ah).aq (a6 J U.ah).af (a6 J U.ah).ac (a6 J U.ah).ar (a6 J U.ah).au)))))
def F5 (dE:j1 Prop) (J:az) (M:Frame) (U:Event):Prop:=
  ((((nth (aa M).O U.ah).aq !=1)&&((nth (aa M).O U.ah).aq !=2))=true→dE (List.map ad.ac (aa M).O) (aa M).aw (aa M).ap (List.range (aa M).O.length) 2 (aa M).O)∧((((nth (aa M).O U.ah).aq !=1)&&((nth (aa M).O U.ah).aq !=2))=false→(((aa M).O.length=(List.range (aa M).O.length).length∧U.ah.toNat<(aa M).O.length)∧((nth (aa M).O U.ah).ar=true→(0≤U.ah∧U.ah.toNat<J.O.length)∧((aa M).aw.length≤4611686018427387904∧(aa M).ap.length≤4611686018427387904∧(kl (aa M).O (List.range (aa M).O.length) (List.map ad.ac (aa M).O)∧(aa M).O.length≤4611686018427387904∧(∀x∈(List.map ad.ac (aa M).O),List.length x≤4611686018427387904))∧vk (Frame.mk (aa M).ok (aa M).aw (aa M).ap (view (aa M).O (List.range (aa M).O.length) (List.map ad.ac (aa M).O))) (nth J.O U.ah).cK)))∧(F4 dE J M U))
def F6 (dE:j1 Prop) (J:az) (M:Frame) (U:Event):Prop:=
  ((nth (aa M).aw (nth J.a5 U.ah))=true→dE (List.map ad.ac (aa M).O) (aa M).aw (aa M).ap (List.range (aa M).O.length) 3 (aa M).O)∧((nth (aa M).aw (nth J.a5 U.ah))=false→(0≤U.ah∧U.ah.toNat<(aa M).ap.length)∧(dE (List.map ad.ac (aa M).O) (aa M).aw ((aa M).ap.set U.ah.toNat (a8.mk U.bj (nth (aa M).ap U.ah).aX)) (List.range (aa M).O.length) 0 (aa M).O))
def F7 (dE:j1 Prop) (J:az) (M:Frame) (U:Event):Prop:=
  ((decide (((fO J (Frame.mk (aa M).ok (aa M).aw (aa M).ap (view (aa M).O (List.range (aa M).O.length) (List.map ad.ac (aa M).O))) U.ah).length:Int)>0))=true→dE (List.map ad.ac (aa M).O) (aa M).aw (aa M).ap (List.range (aa M).O.length) 2 (aa M).O)∧((decide (((fO J (Frame.mk (aa M).ok (aa M).aw (aa M).ap (view (aa M).O (List.range (aa M).O.length) (List.map ad.ac (aa M).O))) U.ah).length:Int)>0))=false→((0≤U.ah∧U.ah.toNat<J.a5.length)∧(0≤(nth J.a5 U.ah)∧(nth J.a5 U.ah).toNat<(aa M).aw.length))∧(F6 dE J M U))
def F8 (J:az) (aQ:List Nat) (a9:Int) (ws2:List ad):Prop:=
  ((nth (ws2.set a9.toNat (ad.mk (nth ws2 a9).aq (nth ws2 a9).af (nth ws2 a9).ac (nth ws2 a9).ar (IntKind.i64.wrap ((nth ws2 a9).au - 1)))) a9).au==0)=true→(wX J a9)∧((ws2.set a9.toNat (ad.mk (nth ws2 a9).aq (nth ws2 a9).af (nth ws2 a9).ac (nth ws2 a9).ar (IntKind.i64.wrap ((nth ws2 a9).au - 1)))).length=aQ.length∧a9.toNat<(ws2.set a9.toNat (ad.mk (nth ws2 a9).aq (nth ws2 a9).af (nth ws2 a9).ac (nth ws2 a9).ar (IntKind.i64.wrap ((nth ws2 a9).au - 1)))).length)
def F9 (J:az) (aQ:List Nat) (a9:Int) (ws2:List ad):Prop:=
  ((ws2.set a9.toNat (ad.mk (nth ws2 a9).aq (nth ws2 a9).af (nth ws2 a9).ac (nth ws2 a9).ar (IntKind.i64.wrap ((nth ws2 a9).au - 1)))).length=aQ.length∧a9.toNat<(ws2.set a9.toNat (ad.mk (nth ws2 a9).aq (nth ws2 a9).af (nth ws2 a9).ac (nth ws2 a9).ar (IntKind.i64.wrap ((nth ws2 a9).au - 1)))).length)∧(F8 J aQ a9 ws2)
def FU (aU:dQ Prop) (aV:dQ Nat) (J:az) (cg:List (List Bool)) (aQ:List Nat) (a9:Int) (ws2:List ad):Prop:=
  ((0≤a9∧a9.toNat<ws2.length)∧((ws2.length=aQ.length∧a9.toNat<ws2.length)∧(((nth ws2 a9).aq==3)=true→((ws2.length=aQ.length∧a9.toNat<ws2.length)∧(ws2.length=aQ.length∧a9.toNat<ws2.length))∧(F9 J aQ a9 ws2))))∧(∀qc:List ad,(bif ((nth ws2 a9).aq==3) then(bif ((nth (ws2.set a9.toNat (ad.mk (nth ws2 a9).aq (nth ws2 a9).af (nth ws2 a9).ac (nth ws2 a9).ar (IntKind.i64.wrap ((nth ws2 a9).au - 1)))) a9).au==0) then((ws2.set a9.toNat (ad.mk (nth ws2 a9).aq (nth ws2 a9).af (nth ws2 a9).ac (nth ws2 a9).ar (IntKind.i64.wrap ((nth ws2 a9).au - 1)))).set a9.toNat (ad.mk (a6 J a9).aq (a6 J a9).af (a6 J a9).ac (a6 J a9).ar (a6 J a9).au)) else(ws2.set a9.toNat (ad.mk (nth ws2 a9).aq (nth ws2 a9).af (nth ws2 a9).ac (nth ws2 a9).ar (IntKind.i64.wrap ((nth ws2 a9).au - 1))))) else ws2)=qc→(∀st:List Nat,(bif ((nth ws2 a9).aq==3) then(bif ((nth (ws2.set a9.toNat (ad.mk (nth ws2 a9).aq (nth ws2 a9).af (nth ws2 a9).ac (nth ws2 a9).ar (IntKind.i64.wrap ((nth ws2 a9).au - 1)))) a9).au==0) then(aQ.set a9.toNat cg.length) else aQ) else aQ)=st→(∀su:List (List Bool),(bif ((nth ws2 a9).aq==3) then(bif ((nth (ws2.set a9.toNat (ad.mk (nth ws2 a9).aq (nth ws2 a9).af (nth ws2 a9).ac (nth ws2 a9).ar (IntKind.i64.wrap ((nth ws2 a9).au - 1)))) a9).au==0) then(cg++[(a6 J a9).ac]) else cg) else cg)=su→(aU su st (IntKind.i64.wrap (a9+1)) qc∧aV su st (IntKind.i64.wrap (a9+1)) qc<aV cg aQ a9 ws2))))
def FV (aU:dQ Prop) (aV:dQ Nat) (dE:j1 Prop) (J:az) (M:Frame):Prop:=
  aU (List.map ad.ac (aa M).O) (List.range (aa M).O.length) 0 (aa M).O∧ ∀(cg:List (List Bool)) (aQ:List Nat) (a9:Int) (ws2:List ad),aU cg aQ a9 ws2→(((decide (a9<((aa M).O.length:Int)))=false→dE cg (aa M).aw (aa M).ap aQ 0 ws2)∧((decide (a9<((aa M).O.length:Int)))=true→FU aU aV J cg aQ a9 ws2))
def FW (aU:dQ Prop) (aV:dQ Nat) (dE:j1 Prop) (J:az) (M:Frame) (U:Event):Prop:=
  ((U.op==6)=true→((aa M).aw.length≤4611686018427387904∧(aa M).ap.length≤4611686018427387904∧(kl (aa M).O (List.range (aa M).O.length) (List.map ad.ac (aa M).O)∧(aa M).O.length≤4611686018427387904∧(∀x∈(List.map ad.ac (aa M).O),List.length x≤4611686018427387904))∧si J (Frame.mk (aa M).ok (aa M).aw (aa M).ap (view (aa M).O (List.range (aa M).O.length) (List.map ad.ac (aa M).O))) U.ah)∧((fO J (Frame.mk (aa M).ok (aa M).aw (aa M).ap (view (aa M).O (List.range (aa M).O.length) (List.map ad.ac (aa M).O))) U.ah).length≤4611686018427387904→F7 dE J M U))∧((U.op==6)=false→((U.op==7)=true→FV aU aV dE J M)∧((U.op==7)=false→dE (List.map ad.ac (aa M).O) (aa M).aw (aa M).ap (List.range (aa M).O.length) 0 (aa M).O))
def FX (aU:dQ Prop) (aV:dQ Nat) (dE:j1 Prop) (J:az) (M:Frame) (U:Event):Prop:=
  ((bif (U.op==3) then(U.op==3) else(U.op==4))=true→(0≤U.ah∧U.ah.toNat<(aa M).aw.length)∧(dE (List.map ad.ac (aa M).O) ((aa M).aw.set U.ah.toNat (U.op==3)) (aa M).ap (List.range (aa M).O.length) 0 (aa M).O))∧((bif (U.op==3) then(U.op==3) else(U.op==4))=false→((U.op==5)=true→(0≤U.ah∧U.ah.toNat<(aa M).ap.length)∧(dE (List.map ad.ac (aa M).O) (aa M).aw ((aa M).ap.set U.ah.toNat (a8.mk (nth (aa M).ap U.ah).b5 U.bj)) (List.range (aa M).O.length) 0 (aa M).O))∧((U.op==5)=false→FW aU aV dE J M U))
def FY (aU:dQ Prop) (aV:dQ Nat) (dE:j1 Prop) (J:az) (M:Frame) (U:Event):Prop:=
  ((U.op==2)=true→(0≤U.ah∧U.ah.toNat<(aa M).O.length)∧((((aa M).O.length=(List.range (aa M).O.length).length∧U.ah.toNat<(aa M).O.length)∧(((nth (aa M).O U.ah).aq !=1)=true→(aa M).O.length=(List.range (aa M).O.length).length∧U.ah.toNat<(aa M).O.length))∧(F5 dE J M U)))∧((U.op==2)=false→FX aU aV dE J M U)
def F0 (ay:(List a8)→Int→Prop) (aB:(List a8)→Int→Nat) (aU:dQ Prop) (aV:dQ Nat) (dE:j1 Prop) (J:az) (M:Frame) (U:Event):Prop:=
  ((U.op==1)=true→((aa M).aw.length≤4611686018427387904∧(aa M).ap.length≤4611686018427387904∧(kl (aa M).O (List.range (aa M).O.length) (List.map ad.ac (aa M).O)∧(aa M).O.length≤4611686018427387904∧(∀x∈(List.map ad.ac (aa M).O),List.length x≤4611686018427387904))∧ry J (Frame.mk (aa M).ok (aa M).aw (aa M).ap (view (aa M).O (List.range (aa M).O.length) (List.map ad.ac (aa M).O))) U.ah)∧(F3 ay aB dE J M U))∧((U.op==1)=false→FY aU aV dE J M U)
def F1 (J:az) (M:Frame) (al:fK) (aH:(List a8)) (cg:List (List Bool)) (aQ:List Nat) (ws2:List ad) (ba:(List Bool)) (c4:Int):Prop:=
  ((c4 !=0)=true→(jH M)∧((c4=al.code)∧((aa M)=al.frame)))∧((!(c4 !=0))=true→(ba.length≤4611686018427387904∧aH.length≤4611686018427387904∧(kl ws2 aQ cg∧ws2.length≤4611686018427387904∧(∀x∈cg,List.length x≤4611686018427387904))∧tA J (Frame.mk (aa M).ok ba aH (view ws2 aQ cg)))∧((0=al.code)∧((ea J (Frame.mk (aa M).ok ba aH (view ws2 aQ cg)))=al.frame)))
def FS (J:az) (M:Frame) (U:Event) (al:fK) (ay:(List a8)→Int→Prop) (aB:(List a8)→Int→Nat) (aU:dQ Prop) (aV:dQ Nat) (dE:j1 Prop):Prop:=
 (jH M)∧((F0 ay aB aU aV dE J M U)∧(∀(cg:List (List Bool)) (ba:(List Bool)) (aH:(List a8)) (aQ:List Nat) (c4:Int) (ws2:List ad),dE cg ba aH aQ c4 ws2→(F1 J M al aH cg aQ ws2 ba c4)))
theorem YZ (J:az) (M:Frame) (U:Event) (al:fK) (ay:(List a8)→Int→Prop) (aB:(List a8)→Int→Nat) (aU:dQ Prop) (aV:dQ Nat) (dE:j1 Prop) (h:FS J M U al ay aB aU aV dE):b2 Try.prog 63 [.agg (bg false J),.agg (bZ false M),.agg (ju U)] (.agg (sL true al)):=by
 unfold FS at h
 refine dH.go (fn:=Try.f63) [(0,.agg (bg false J)),(1,.agg (bZ false M)),(2,.agg (ju U))] Try.func63 (fun _ _=> ?_)
 show WpS _ (bT M_ 1) _ ⟨bi 200 [(0,.agg (bg false J)),(1,.agg (bZ false M)),(2,.agg (ju U))],[],[]⟩
 refine qq [] 0 [(6,aA 6 0),(5,aA 5 0),(4,aA 4 0),(3,aA 3 0)] [4] [] [(6,[ag 0,an false,aF,aF,aF]),(5,(ju U)),(4,(bZ false M)),(3,(bg false J))] [] ?_
 refine sI [] 1 [(7,aA 7 0),(14,.agg (bZ false M))] [1] [4] (fun L=>(7,(bZ false M))::L) id ?_
 obtain⟨abw,h⟩:=h
 refine fa [] [5] (fun L=>er 3 [an (aa M).ok,aj 0 0 (aa M).aw.length,aj 1 0 (aa M).ap.length,aj 2 0 (aa M).O.length] L) (fun _=>(⟨0,1,List.map aY (aa M).aw⟩::⟨0,2,List.map a7 (aa M).ap⟩::⟨0,5,a1 3 (aa M).O (List.range (aa M).O.length)⟩::List.map bo (List.map ad.ac (aa M).O))) (True) ?_ (fun q3=> ?_)
 ·
  replace h:=abw
  refine bM [] 2 ?_
  have q4:=h
  refine tv 2 (some 16) [(15,.agg (bZ false M))] [.agg (bZ false M)] (.agg [an (aa M).ok,aj 0 0 (aa M).aw.length,aj 1 0 (aa M).ap.length,aj 2 0 (aa M).O.length]) (⟨0,1,List.map aY (aa M).aw⟩::⟨0,2,List.map a7 (aa M).ap⟩::⟨0,5,a1 3 (aa M).O (List.range (aa M).O.length)⟩::List.map bo (List.map ad.ac (aa M).O)) (M4 M q4) (aD.cons (dc.agg (aD.cons (.bool _) (aD.cons cH (aD.cons cH (aD.cons cH aD.nil))))) aD.nil) Cm (by rw[List.nil_append];exact Qg _) ?_ (er:=by simp[mI,nU,iM])
  exact b6 [] trivial
 refine ej [] 3 [(8,ag 0)] [1] [5] ?_
 refine hJ ?_
 refine ej [] 4 [(18,ag U.op),(17,aA 5 0)] [1] [6] ?_
 obtain⟨abv,h⟩:=h
 refine Kb 0 (fun(v:List (List Bool)×(List Bool)×(List a8)×List Nat×Int×List ad)=>(⟨(bi 200 [(3,aA 3 0),(4,aA 4 0),(6,aA 6 0),(7,aA 7 0),(8,ag (v.2.2.2.2.1))]),[(7,(bZ false M)),(6,[ag 0,an false,aF,aF,aF]),(4,[an (aa M).ok,aj 0 0 (v.2.1).length,aj 1 0 (v.2.2.1).length,aj 2 0 (v.2.2.2.2.2).length]),(3,(bg false J))],(⟨0,1,List.map aY (v.2.1)⟩::⟨0,2,List.map a7 (v.2.2.1)⟩::⟨0,5,a1 3 (v.2.2.2.2.2) (v.2.2.2.1)⟩::List.map bo (v.1))⟩:St)) (fun v=>dE (v.1) (v.2.1) (v.2.2.1) (v.2.2.2.1) (v.2.2.2.2.1) (v.2.2.2.2.2)) ?_ (fun v de=> ?_)
 ·
  replace h:=abv
  refine ej [] 5 [(19,an (U.op==1)),(20,an (U.op==1))] [1] [7] ?_
  unfold F0 at h
  refine dI (fun fD=> ?_) (fun fD=> ?_)
  ·
   replace h:=h.1 fD
   obtain⟨ld,h⟩:=h
   refine cB [(8,ag (eA J (Frame.mk (aa M).ok (aa M).aw (aa M).ap (view (aa M).O (List.range (aa M).O.length) (List.map ad.ac (aa M).O))) U.ah))] [0,3,5] (True) ?_ (fun iJ=> ?_)
   ·
    replace h:=ld
    refine bM [] 6 ?_
    obtain⟨gW,iw,h6,fI⟩:=h
    refine mg 5 (some 25) [(24,ag U.ah),(23,aA 5 1),(22,.agg [an (aa M).ok,aj 0 0 (aa M).aw.length,aj 1 0 (aa M).ap.length,aj 2 0 (aa M).O.length]),(21,.agg (bg false J))] [.agg (bg false J),.agg [an (aa M).ok,aj 0 0 (aa M).aw.length,aj 1 0 (aa M).ap.length,aj 2 0 (aa M).O.length],ag U.ah] (ZM J (Frame.mk (aa M).ok (aa M).aw (aa M).ap (view (aa M).O (List.range (aa M).O.length) (List.map ad.ac (aa M).O))) U.ah fI) (aD.cons (dc.agg (aD.cons (.int _ _) (aD.cons cH (aD.cons cH (aD.cons cH (aD.cons (.int _ _) aD.nil)))))) (aD.cons (dc.agg (aD.cons (.bool _) (aD.cons (nn (sz:=1) (by simp) rfl (s6) gW) (aD.cons (nn (sz:=2) (by simp) rfl (uI) iw) (aD.cons (tx (s:=3) (ws:=(aa M).O) (ids:=(List.range (aa M).O.length)) (bs:=(List.map ad.ac (aa M).O)) (by simp) rfl (fun id k h=>by simpa using h) h6.1 h6.2.1 h6.2.2) aD.nil))))) (aD.cons (dc.h4 (.int _ _)) aD.nil))) ?_
    exact b6 [(8,ag (eA J (Frame.mk (aa M).ok (aa M).aw (aa M).ap (view (aa M).O (List.range (aa M).O.length) (List.map ad.ac (aa M).O))) U.ah))] trivial
   refine ej [] 7 [(27,an ((eA J (Frame.mk (aa M).ok (aa M).aw (aa M).ap (view (aa M).O (List.range (aa M).O.length) (List.map ad.ac (aa M).O))) U.ah)==0)),(26,ag (eA J (Frame.mk (aa M).ok (aa M).aw (aa M).ap (view (aa M).O (List.range (aa M).O.length) (List.map ad.ac (aa M).O))) U.ah))] [1] [6] ?_
   unfold F3 at h
   refine dI (fun jj=> ?_) (fun jj=> ?_)
   ·
    replace h:=h.1 jj
    obtain⟨jD,h⟩:=h
    refine fa [] [0,1,6] id (fun H=>en 2 ⟨0,5,a1 3 ((aa M).O.set U.ah.toNat (ad.mk 1 (nth (aa M).O U.ah).af (nth (aa M).O U.ah).ac (nth (aa M).O U.ah).ar (nth (aa M).O U.ah).au)) (List.range (aa M).O.length)⟩ H) (True) ?_ (fun ke=> ?_)
    ·
     replace h:=jD
     refine bM [] 8 ?_
     obtain⟨afR,h⟩:=h
     refine lK 5 (some 32) [(31,ag U.ah),(30,aA 5 1),(29,aj 2 0 (aa M).O.length),(28,aA 4 3)] 2 0 5 afR ?_
     have hR:=h
     refine kf 2 none [(33,.ptr 2 0 (0+U.ah.toNat) 0)] (a1 3 (aa M).O (List.range (aa M).O.length)) U.ah 0 1 0 [ag 1] 2 (a1 3 ((aa M).O.set U.ah.toNat (ad.mk 1 (nth (aa M).O U.ah).af (nth (aa M).O U.ah).ac (nth (aa M).O U.ah).ar (nth (aa M).O U.ah).au)) (List.range (aa M).O.length)) (dO hR.1 hR.2) (kq hR.1 hR.2) ?_
     exact b6 [] trivial
    obtain⟨lc,h⟩:=h
    refine cB [(40,hl dn (bA (nth J.O U.ah))),(41,ag ((bA (nth J.O U.ah)).length:Int)),(42,ag 0)] [3,1,2] ((bA (nth J.O U.ah)).length≤4611686018427387904) ?_ (fun mb=> ?_)
    ·
     replace h:=lc
     refine bM [] 9 ?_
     obtain⟨kB,h⟩:=h
     refine li 5 (some 38) [(37,ag U.ah),(36,aA 5 1),(35,bL (dw false) J.O),(34,aA 3 2)] (dw false) J.O 5 kB ?_
     have hA:=h
     refine mg 2 (some 40) [(39,.agg (dw false (nth J.O U.ah)))] [.agg (dw false (nth J.O U.ah))] (Nh (nth J.O U.ah) hA) (aD.cons (dc.agg (aD.cons cH (aD.cons cH (aD.cons cH (aD.cons cH (aD.cons cH aD.nil)))))) aD.nil) ?_
     refine sLen 1 (some 41) [] dn (bA (nth J.O U.ah)) (fun ix=> ?_)
     exact b6 [(42,ag 0)] ix
    replace h:=h mb
    refine fs 1 ?_
    obtain⟨jC,h⟩:=h
    refine km (fun(v:(List a8)×Int)=>(⟨(bi 200 [(3,aA 3 0),(4,aA 4 0),(6,aA 6 0),(7,aA 7 0),(8,ag (eA J (Frame.mk (aa M).ok (aa M).aw (aa M).ap (view (aa M).O (List.range (aa M).O.length) (List.map ad.ac (aa M).O))) U.ah)),(40,hl dn (bA (nth J.O U.ah))),(41,ag ((bA (nth J.O U.ah)).length:Int)),(42,ag (v.2))]),[(7,(bZ false M)),(6,[ag 0,an false,aF,aF,aF]),(4,[an (aa M).ok,aj 0 0 (aa M).aw.length,aj 1 0 (v.1).length,aj 2 0 (aa M).O.length]),(3,(bg false J))],(⟨0,1,List.map aY (aa M).aw⟩::⟨0,2,List.map a7 (v.1)⟩::⟨0,5,a1 3 ((aa M).O.set U.ah.toNat (ad.mk 1 (nth (aa M).O U.ah).af (nth (aa M).O U.ah).ac (nth (aa M).O U.ah).ar (nth (aa M).O U.ah).au)) (List.range (aa M).O.length)⟩::List.map bo (List.map ad.ac (aa M).O))⟩:St)) (fun(v:(List a8)×Int)=>ay (v.1) (v.2)) (fun(v:(List a8)×Int)=>aB (v.1) (v.2)) ((aa M).ap,0) (dC [5]) jC (fun v a0=> ?_)
    obtain⟨aH,eO⟩:=v
    replace h:=h aH eO a0
    dsimp only
    refine ej [] 10 [(43,an (decide (eO<((bA (nth J.O U.ah)).length:Int))))] [1] [8] ?_
    unfold F2 at h
    obtain⟨nf,h⟩:=h
    refine cB [] [0,1,8] ((decide (eO<((bA (nth J.O U.ah)).length:Int)))=true) ?_ (fun ic=> ?_)
    ·
     replace h:=nf
     refine dI (fun g_=> ?_) (fun g_=> ?_)
     ·
      refine eo ?_
      exact ci.normal (by simp only[fD,jj,g_]<;>rfl) ed
     ·
      replace h:=h g_
      refine iZ 1 ?_
      refine ci.exit ?_
      refine d_.exit ?_
      refine cm.here ?_
      refine cm.normal ?_
      exact g1.normal ((List.map ad.ac (aa M).O),(aa M).aw,aH,(List.range (aa M).O.length),(eA J (Frame.mk (aa M).ok (aa M).aw (aa M).ap (view (aa M).O (List.range (aa M).O.length) (List.map ad.ac (aa M).O))) U.ah),((aa M).O.set U.ah.toNat (ad.mk 1 (nth (aa M).O U.ah).af (nth (aa M).O U.ah).ac (nth (aa M).O U.ah).ar (nth (aa M).O U.ah).au))) h (hq (s':=⟨(bi 200 [(3,aA 3 0),(4,aA 4 0),(6,aA 6 0),(7,aA 7 0),(8,ag (eA J (Frame.mk (aa M).ok (aa M).aw (aa M).ap (view (aa M).O (List.range (aa M).O.length) (List.map ad.ac (aa M).O))) U.ah))]),[(7,(bZ false M)),(6,[ag 0,an false,aF,aF,aF]),(4,[an (aa M).ok,aj 0 0 (aa M).aw.length,aj 1 0 aH.length,aj 2 0 (aa M).O.length]),(3,(bg false J))],(⟨0,1,List.map aY (aa M).aw⟩::⟨0,2,List.map a7 aH⟩::⟨0,5,a1 3 ((aa M).O.set U.ah.toNat (ad.mk 1 (nth (aa M).O U.ah).af (nth (aa M).O U.ah).ac (nth (aa M).O U.ah).ar (nth (aa M).O U.ah).au)) (List.range (aa M).O.length)⟩::List.map bo (List.map ad.ac (aa M).O))⟩) (dC (n:=200) (A':=[(3,aA 3 0),(4,aA 4 0),(6,aA 6 0),(7,aA 7 0),(8,ag (eA J (Frame.mk (aa M).ok (aa M).aw (aa M).ap (view (aa M).O (List.range (aa M).O.length) (List.map ad.ac (aa M).O))) U.ah))]) (L':=[(7,(bZ false M)),(6,[ag 0,an false,aF,aF,aF]),(4,[an (aa M).ok,aj 0 0 (aa M).aw.length,aj 1 0 aH.length,aj 2 0 (aa M).O.length]),(3,(bg false J))]) []) (congrArg (fun z=>(⟨(bi 200 [(3,aA 3 0),(4,aA 4 0),(6,aA 6 0),(7,aA 7 0),(8,ag (eA J (Frame.mk (aa M).ok (aa M).aw (aa M).ap (view (aa M).O (List.range (aa M).O.length) (List.map ad.ac (aa M).O))) U.ah))]),[(7,(bZ false M)),(6,[ag 0,an false,aF,aF,aF]),(4,[an (aa M).ok,aj 0 0 (aa M).aw.length,aj 1 0 aH.length,aj 2 0 z]),(3,(bg false J))],(⟨0,1,List.map aY (aa M).aw⟩::⟨0,2,List.map a7 aH⟩::⟨0,5,a1 3 ((aa M).O.set U.ah.toNat (ad.mk 1 (nth (aa M).O U.ah).af (nth (aa M).O U.ah).ac (nth (aa M).O U.ah).ar (nth (aa M).O U.ah).au)) (List.range (aa M).O.length)⟩::List.map bo (List.map ad.ac (aa M).O))⟩:St)) (show(aa M).O.length=((aa M).O.set U.ah.toNat (ad.mk 1 (nth (aa M).O U.ah).af (nth (aa M).O U.ah).ac (nth (aa M).O U.ah).ar (nth (aa M).O U.ah).au)).length by simp)))
    replace h:=h ic
    obtain⟨nP,h⟩:=h
    refine fa [] [8] (fun L=>(10,(dn (nth (bA (nth J.O U.ah)) eO)))::L) (fun H=>en 1 ⟨0,2,List.map a7 (aH.set (nth (bA (nth J.O U.ah)) eO).sw.toNat (a8.mk (nth (bA (nth J.O U.ah)) eO).bj (nth aH (nth (bA (nth J.O U.ah)) eO).sw).aX))⟩ H) (True) ?_ (fun iy=> ?_)
    ·
     replace h:=nP
     refine fs 2 ?_
     obtain⟨mC,h⟩:=h
     refine fa [(10,aA 10 0)] [8] (fun L=>(10,(dn (nth (bA (nth J.O U.ah)) eO)))::L) id (True) ?_ (fun ie=> ?_)
     ·
      replace h:=mC
      refine bM [] 11 ?_
      have kC:=h
      refine li 1 (some 44) [] dn (bA (nth J.O U.ah)) 2 kC ?_
      exact b6 [(10,aA 10 0),(45,.agg (dn (nth (bA (nth J.O U.ah)) eO)))] trivial
     refine bM [] 12 ?_
     have Th:=h
     refine lK 7 (some 52) [(51,ag (nth (bA (nth J.O U.ah)) eO).bj),(50,aA 10 1),(49,ag (nth (bA (nth J.O U.ah)) eO).sw),(48,aA 10 0),(47,aj 1 0 aH.length),(46,aA 4 2)] 1 0 2 Th ?_
     refine tw 2 none [(53,.ptr 1 0 (0+(nth (bA (nth J.O U.ah)) eO).sw.toNat) 0)] a7 aH (nth (bA (nth J.O U.ah)) eO).sw 0 1 0 [ag (nth (bA (nth J.O U.ah)) eO).bj] 1 (a8.mk (nth (bA (nth J.O U.ah)) eO).bj (nth aH (nth (bA (nth J.O U.ah)) eO).sw).aX) (by simpa using Th.2) ?_
     refine dY [] ?_
     refine cm.normal ?_
     exact ci.normal trivial ed
    unfold FT at h
    refine bM [] 13 ?_
    refine dY [(42,ag (IntKind.i64.wrap (eO+1))),(54,ag (IntKind.i64.wrap (eO+1)))] ?_
    exact d_.again ((aH.set (nth (bA (nth J.O U.ah)) eO).sw.toNat (a8.mk (nth (bA (nth J.O U.ah)) eO).bj (nth aH (nth (bA (nth J.O U.ah)) eO).sw).aX)),(IntKind.i64.wrap (eO+1))) h (hq (s':=⟨(bi 200 [(3,aA 3 0),(4,aA 4 0),(6,aA 6 0),(7,aA 7 0),(8,ag (eA J (Frame.mk (aa M).ok (aa M).aw (aa M).ap (view (aa M).O (List.range (aa M).O.length) (List.map ad.ac (aa M).O))) U.ah)),(40,hl dn (bA (nth J.O U.ah))),(41,ag ((bA (nth J.O U.ah)).length:Int)),(42,ag (IntKind.i64.wrap (eO+1)))]),[(7,(bZ false M)),(6,[ag 0,an false,aF,aF,aF]),(4,[an (aa M).ok,aj 0 0 (aa M).aw.length,aj 1 0 aH.length,aj 2 0 (aa M).O.length]),(3,(bg false J))],(⟨0,1,List.map aY (aa M).aw⟩::⟨0,2,List.map a7 (aH.set (nth (bA (nth J.O U.ah)) eO).sw.toNat (a8.mk (nth (bA (nth J.O U.ah)) eO).bj (nth aH (nth (bA (nth J.O U.ah)) eO).sw).aX))⟩::⟨0,5,a1 3 ((aa M).O.set U.ah.toNat (ad.mk 1 (nth (aa M).O U.ah).af (nth (aa M).O U.ah).ac (nth (aa M).O U.ah).ar (nth (aa M).O U.ah).au)) (List.range (aa M).O.length)⟩::List.map bo (List.map ad.ac (aa M).O))⟩) (dC (n:=200) (A':=[(3,aA 3 0),(4,aA 4 0),(6,aA 6 0),(7,aA 7 0),(8,ag (eA J (Frame.mk (aa M).ok (aa M).aw (aa M).ap (view (aa M).O (List.range (aa M).O.length) (List.map ad.ac (aa M).O))) U.ah)),(40,hl dn (bA (nth J.O U.ah))),(41,ag ((bA (nth J.O U.ah)).length:Int)),(42,ag (IntKind.i64.wrap (eO+1)))]) (L':=[(7,(bZ false M)),(6,[ag 0,an false,aF,aF,aF]),(4,[an (aa M).ok,aj 0 0 (aa M).aw.length,aj 1 0 aH.length,aj 2 0 (aa M).O.length]),(3,(bg false J))]) [10]) (congrArg (fun z=>(⟨(bi 200 [(3,aA 3 0),(4,aA 4 0),(6,aA 6 0),(7,aA 7 0),(8,ag (eA J (Frame.mk (aa M).ok (aa M).aw (aa M).ap (view (aa M).O (List.range (aa M).O.length) (List.map ad.ac (aa M).O))) U.ah)),(40,hl dn (bA (nth J.O U.ah))),(41,ag ((bA (nth J.O U.ah)).length:Int)),(42,ag (IntKind.i64.wrap (eO+1)))]),[(7,(bZ false M)),(6,[ag 0,an false,aF,aF,aF]),(4,[an (aa M).ok,aj 0 0 (aa M).aw.length,aj 1 0 z,aj 2 0 (aa M).O.length]),(3,(bg false J))],(⟨0,1,List.map aY (aa M).aw⟩::⟨0,2,List.map a7 (aH.set (nth (bA (nth J.O U.ah)) eO).sw.toNat (a8.mk (nth (bA (nth J.O U.ah)) eO).bj (nth aH (nth (bA (nth J.O U.ah)) eO).sw).aX))⟩::⟨0,5,a1 3 ((aa M).O.set U.ah.toNat (ad.mk 1 (nth (aa M).O U.ah).af (nth (aa M).O U.ah).ac (nth (aa M).O U.ah).ar (nth (aa M).O U.ah).au)) (List.range (aa M).O.length)⟩::List.map bo (List.map ad.ac (aa M).O))⟩:St)) (show aH.length=(aH.set (nth (bA (nth J.O U.ah)) eO).sw.toNat (a8.mk (nth (bA (nth J.O U.ah)) eO).bj (nth aH (nth (bA (nth J.O U.ah)) eO).sw).aX)).length by simp)))
   ·
    replace h:=h.2 jj
    refine eo ?_
    refine cm.normal ?_
    exact g1.normal ((List.map ad.ac (aa M).O),(aa M).aw,(aa M).ap,(List.range (aa M).O.length),(eA J (Frame.mk (aa M).ok (aa M).aw (aa M).ap (view (aa M).O (List.range (aa M).O.length) (List.map ad.ac (aa M).O))) U.ah),(aa M).O) h (dC [5])
  ·
   replace h:=h.2 fD
   refine ej [] 14 [(55,an (U.op==2)),(56,an (U.op==2))] [1] [0,1,7] ?_
   unfold FY at h
   refine dI (fun ha=> ?_) (fun ha=> ?_)
   ·
    replace h:=h.1 ha
    obtain⟨q6,h⟩:=h
    refine cB [(11,.ptr 2 0 (0+U.ah.toNat) 0)] [0,2,6] (True) ?_ (fun o8=> ?_)
    ·
     replace h:=q6
     refine bM [] 15 ?_
     have afU:=h
     refine lK 5 (some 61) [(60,ag U.ah),(59,aA 5 1),(58,aj 2 0 (aa M).O.length),(57,aA 4 3)] 2 0 5 afU ?_
     exact b6 [(11,.ptr 2 0 (0+U.ah.toNat) 0)] trivial
    refine fs 3 ?_
    obtain⟨zD,h⟩:=h
    refine cB [(68,an (((nth (aa M).O U.ah).aq !=1)&&((nth (aa M).O U.ah).aq !=2)))] [7] (True) ?_ (fun lH=> ?_)
    ·
     replace h:=zD
     refine bM [] 17 ?_
     obtain⟨nQ,h⟩:=h
     refine iL 4 (some 72) [(71,.ptr 2 0 (0+U.ah.toNat) 0),(70,.ptr 2 0 (0+U.ah.toNat) 0),(69,.ptr 2 0 (0+U.ah.toNat) 0)] (a1 3 (aa M).O (List.range (aa M).O.length)) U.ah 3 0 0 (ag (nth (aa M).O U.ah).aq) (dO nQ.1 nQ.2) ?_
     refine nT 2 74 ((nth (aa M).O U.ah).aq !=1) [(73,an ((nth (aa M).O U.ah).aq !=1))] (fun p1=> ?_) (fun p1=> ?_)
     ·
      replace h:=h p1
      have jE:=h
      refine iL 4 (some 78) [(77,.ptr 2 0 (0+U.ah.toNat) 0),(76,.ptr 2 0 (0+U.ah.toNat) 0),(75,.ptr 2 0 (0+U.ah.toNat) 0)] (a1 3 (aa M).O (List.range (aa M).O.length)) U.ah 3 0 0 (ag (nth (aa M).O U.ah).aq) (dO jE.1 jE.2) ?_
      exact b6 [(68,an ((nth (aa M).O U.ah).aq !=2)),(80,an ((nth (aa M).O U.ah).aq !=2)),(79,an ((nth (aa M).O U.ah).aq !=2))] trivial (by simp only[fD,ha,p1]<;>kernel_rfl)
     ·
      exact b6 ([(68,an false),(80,an false)]++gx [79,78,77,76,75]) trivial (by simp only[fD,ha,p1]<;>kernel_rfl)
    unfold F5 at h
    refine dI (fun mc=> ?_) (fun mc=> ?_)
    ·
     replace h:=h.1 mc
     refine bM [] 18 ?_
     refine dY [(8,ag 2)] ?_
     refine cm.normal ?_
     refine cm.normal ?_
     exact g1.normal ((List.map ad.ac (aa M).O),(aa M).aw,(aa M).ap,(List.range (aa M).O.length),2,(aa M).O) h (dC [5])
    ·
     replace h:=h.2 mc
     obtain⟨o_,h⟩:=h
     refine cB [(81,an ((nth (aa M).O U.ah).ar&&(gH (Frame.mk (aa M).ok (aa M).aw (aa M).ap (view (aa M).O (List.range (aa M).O.length) (List.map ad.ac (aa M).O))) (nth J.O U.ah).cK)))] [0,1,7] (True) ?_ (fun lg=> ?_)
     ·
      replace h:=o_
      refine nl [] 19 YT YU [] ?_
      obtain⟨jF,h⟩:=h
      refine nV 4 (some 85) [(84,.ptr 2 0 (0+U.ah.toNat) 3),(83,.ptr 2 0 (0+U.ah.toNat) 0),(82,.ptr 2 0 (0+U.ah.toNat) 0)] (a1 3 (aa M).O (List.range (aa M).O.length)) U.ah 4 3 0 (an (nth (aa M).O U.ah).ar) (dO jF.1 jF.2) ?_
      refine p7 1 86 (nth (aa M).O U.ah).ar [] (fun me=> ?_) (fun me=> ?_)
      ·
       replace h:=h me
       obtain⟨mf,h⟩:=h
       refine sr 6 (some 92) [(91,ag U.ah),(90,aA 5 1),(89,bL (dw false) J.O),(88,aA 3 2),(87,.agg [an (aa M).ok,aj 0 0 (aa M).aw.length,aj 1 0 (aa M).ap.length,aj 2 0 (aa M).O.length])] (dw false) J.O 5 mf ?_
       obtain⟨mD,ng,nh,p2⟩:=h
       refine SH 3 (some 95) [(94,bL c_ (nth J.O U.ah).cK),(93,.dA (dw false (nth J.O U.ah)) 4)] [.agg [an (aa M).ok,aj 0 0 (aa M).aw.length,aj 1 0 (aa M).ap.length,aj 2 0 (aa M).O.length],bL c_ (nth J.O U.ah).cK] (Nz (Frame.mk (aa M).ok (aa M).aw (aa M).ap (view (aa M).O (List.range (aa M).O.length) (List.map ad.ac (aa M).O))) (nth J.O U.ah).cK p2) (aD.cons (dc.agg (aD.cons (.bool _) (aD.cons (nn (sz:=1) (by simp) rfl (s6) mD) (aD.cons (nn (sz:=2) (by simp) rfl (uI) ng) (aD.cons (tx (s:=3) (ws:=(aa M).O) (ids:=(List.range (aa M).O.length)) (bs:=(List.map ad.ac (aa M).O)) (by simp) rfl (fun id k h=>by simpa using h) nh.1 nh.2.1 nh.2.2) aD.nil))))) (aD.cons (dc.h4 cH) aD.nil)) ?_
       exact kY [(81,an (gH (Frame.mk (aa M).ok (aa M).aw (aa M).ap (view (aa M).O (List.range (aa M).O.length) (List.map ad.ac (aa M).O))) (nth J.O U.ah).cK)),(96,an (gH (Frame.mk (aa M).ok (aa M).aw (aa M).ap (view (aa M).O (List.range (aa M).O.length) (List.map ad.ac (aa M).O))) (nth J.O U.ah).cK))] trivial (by simp only[fD,ha,mc,me]<;>kernel_rfl)
      ·
       exact kY ([(81,an false),(96,an false)]++gx [95,94,93,92,91,90,89,88,87]) trivial (by simp only[fD,ha,mc,me]<;>kernel_rfl)
     unfold F4 at h
     refine dI (fun sj=> ?_) (fun sj=> ?_)
     ·
      replace h:=h.1 sj
      refine nl [] 20 YV YW [] ?_
      obtain⟨mE,h⟩:=h
      refine SJ 7 none [(102,.ptr 2 0 (0+U.ah.toNat) 0),(101,.ptr 2 0 (0+U.ah.toNat) 0),(100,ag J.dx),(99,aA 3 4),(98,.ptr 2 0 (0+U.ah.toNat) 0),(97,.ptr 2 0 (0+U.ah.toNat) 0)] (a1 3 (aa M).O (List.range (aa M).O.length)) U.ah 0 1 0 [ag 3] (fun r=>pz Try.prog (ji M_ 256942) [1,2,3] [(102,.ptr 2 0 (0+U.ah.toNat) 0),(101,.ptr 2 0 (0+U.ah.toNat) 0),(100,ag J.dx),(99,aA 3 4),(98,.ptr 2 0 (0+U.ah.toNat) 0),(97,.ptr 2 0 (0+U.ah.toNat) 0),(81,an ((nth (aa M).O U.ah).ar&&(gH (Frame.mk (aa M).ok (aa M).aw (aa M).ap (view (aa M).O (List.range (aa M).O.length) (List.map ad.ac (aa M).O))) (nth J.O U.ah).cK))),(11,.ptr 2 0 (0+U.ah.toNat) 0),(8,ag 0),(7,aA 7 0),(6,aA 6 0),(5,aA 5 0),(4,aA 4 0),(3,aA 3 0)] [(7,(bZ false M)),(6,[ag 0,an false,aF,aF,aF]),(5,(ju U)),(4,[an (aa M).ok,aj 0 0 (aa M).aw.length,aj 1 0 (aa M).ap.length,aj 2 0 (aa M).O.length]),(3,(bg false J))] ((fun r=>(⟨0,1,List.map aY (aa M).aw⟩::⟨0,2,List.map a7 (aa M).ap⟩::⟨0,5,r⟩::List.map bo (List.map ad.ac (aa M).O))) r)) (fun r=>(⟨0,1,List.map aY (aa M).aw⟩::⟨0,2,List.map a7 (aa M).ap⟩::⟨0,5,r⟩::List.map bo (List.map ad.ac (aa M).O))) (a1 3 ((aa M).O.set U.ah.toNat (ad.mk 3 (nth (aa M).O U.ah).af (nth (aa M).O U.ah).ac (nth (aa M).O U.ah).ar (nth (aa M).O U.ah).au)) (List.range (aa M).O.length)) (dO mE.1 mE.2) (kq mE.1 mE.2) (tg (ψ:=((true=true∧true=true∧((.ptr 2 0 (0+U.ah.toNat) 0:AV)= .ptr 2 0 (0+U.ah.toNat) 0))∧((true=true∧true=true∧((aA 3 4:AV)=aA 3 4))∧((true=true∧true=true∧((ag J.dx:AV)=ag J.dx))∧True)))) (by kernel_rfl) ⟨⟨rfl,rfl,rfl⟩,⟨⟨rfl,rfl,rfl⟩,⟨⟨rfl,rfl,rfl⟩,trivial⟩⟩⟩) ?_
      obtain⟨lI,h⟩:=h
      refine SJ 3 none [(104,.ptr 2 0 (0+U.ah.toNat) 4),(103,.ptr 2 0 (0+U.ah.toNat) 0)] (a1 3 ((aa M).O.set U.ah.toNat (ad.mk 3 (nth (aa M).O U.ah).af (nth (aa M).O U.ah).ac (nth (aa M).O U.ah).ar (nth (aa M).O U.ah).au)) (List.range (aa M).O.length)) U.ah 4 1 0 [ag J.dx] (fun _=>True) (fun r=>(⟨0,1,List.map aY (aa M).aw⟩::⟨0,2,List.map a7 (aa M).ap⟩::⟨0,5,r⟩::List.map bo (List.map ad.ac (aa M).O))) (a1 3 (((aa M).O.set U.ah.toNat (ad.mk 3 (nth (aa M).O U.ah).af (nth (aa M).O U.ah).ac (nth (aa M).O U.ah).ar (nth (aa M).O U.ah).au)).set U.ah.toNat (ad.mk (nth ((aa M).O.set U.ah.toNat (ad.mk 3 (nth (aa M).O U.ah).af (nth (aa M).O U.ah).ac (nth (aa M).O U.ah).ar (nth (aa M).O U.ah).au)) U.ah).aq (nth ((aa M).O.set U.ah.toNat (ad.mk 3 (nth (aa M).O U.ah).af (nth (aa M).O U.ah).ac (nth (aa M).O U.ah).ar (nth (aa M).O U.ah).au)) U.ah).af (nth ((aa M).O.set U.ah.toNat (ad.mk 3 (nth (aa M).O U.ah).af (nth (aa M).O U.ah).ac (nth (aa M).O U.ah).ar (nth (aa M).O U.ah).au)) U.ah).ac (nth ((aa M).O.set U.ah.toNat (ad.mk 3 (nth (aa M).O U.ah).af (nth (aa M).O U.ah).ac (nth (aa M).O U.ah).ar (nth (aa M).O U.ah).au)) U.ah).ar J.dx)) (List.range (aa M).O.length)) (dO lI.1 lI.2) (kq lI.1 lI.2) trivial ?_
      refine xO [] ?_
      refine cm.normal ?_
      refine cm.normal ?_
      exact g1.normal ((List.map ad.ac (aa M).O),(aa M).aw,(aa M).ap,(List.range (aa M).O.length),0,(((aa M).O.set U.ah.toNat (ad.mk 3 (nth (aa M).O U.ah).af (nth (aa M).O U.ah).ac (nth (aa M).O U.ah).ar (nth (aa M).O U.ah).au)).set U.ah.toNat (ad.mk (nth ((aa M).O.set U.ah.toNat (ad.mk 3 (nth (aa M).O U.ah).af (nth (aa M).O U.ah).ac (nth (aa M).O U.ah).ar (nth (aa M).O U.ah).au)) U.ah).aq (nth ((aa M).O.set U.ah.toNat (ad.mk 3 (nth (aa M).O U.ah).af (nth (aa M).O U.ah).ac (nth (aa M).O U.ah).ar (nth (aa M).O U.ah).au)) U.ah).af (nth ((aa M).O.set U.ah.toNat (ad.mk 3 (nth (aa M).O U.ah).af (nth (aa M).O U.ah).ac (nth (aa M).O U.ah).ar (nth (aa M).O U.ah).au)) U.ah).ac (nth ((aa M).O.set U.ah.toNat (ad.mk 3 (nth (aa M).O U.ah).af (nth (aa M).O U.ah).ac (nth (aa M).O U.ah).ar (nth (aa M).O U.ah).au)) U.ah).ar J.dx))) h (hq (s':=⟨(bi 200 [(3,aA 3 0),(4,aA 4 0),(6,aA 6 0),(7,aA 7 0),(8,ag 0)]),[(7,(bZ false M)),(6,[ag 0,an false,aF,aF,aF]),(4,[an (aa M).ok,aj 0 0 (aa M).aw.length,aj 1 0 (aa M).ap.length,aj 2 0 (aa M).O.length]),(3,(bg false J))],(⟨0,1,List.map aY (aa M).aw⟩::⟨0,2,List.map a7 (aa M).ap⟩::⟨0,5,a1 3 (((aa M).O.set U.ah.toNat (ad.mk 3 (nth (aa M).O U.ah).af (nth (aa M).O U.ah).ac (nth (aa M).O U.ah).ar (nth (aa M).O U.ah).au)).set U.ah.toNat (ad.mk (nth ((aa M).O.set U.ah.toNat (ad.mk 3 (nth (aa M).O U.ah).af (nth (aa M).O U.ah).ac (nth (aa M).O U.ah).ar (nth (aa M).O U.ah).au)) U.ah).aq (nth ((aa M).O.set U.ah.toNat (ad.mk 3 (nth (aa M).O U.ah).af (nth (aa M).O U.ah).ac (nth (aa M).O U.ah).ar (nth (aa M).O U.ah).au)) U.ah).af (nth ((aa M).O.set U.ah.toNat (ad.mk 3 (nth (aa M).O U.ah).af (nth (aa M).O U.ah).ac (nth (aa M).O U.ah).ar (nth (aa M).O U.ah).au)) U.ah).ac (nth ((aa M).O.set U.ah.toNat (ad.mk 3 (nth (aa M).O U.ah).af (nth (aa M).O U.ah).ac (nth (aa M).O U.ah).ar (nth (aa M).O U.ah).au)) U.ah).ar J.dx)) (List.range (aa M).O.length)⟩::List.map bo (List.map ad.ac (aa M).O))⟩) (dC (n:=200) (A':=[(3,aA 3 0),(4,aA 4 0),(6,aA 6 0),(7,aA 7 0),(8,ag 0)]) (L':=[(7,(bZ false M)),(6,[ag 0,an false,aF,aF,aF]),(4,[an (aa M).ok,aj 0 0 (aa M).aw.length,aj 1 0 (aa M).ap.length,aj 2 0 (aa M).O.length]),(3,(bg false J))]) [5]) (congrArg (fun z=>(⟨(bi 200 [(3,aA 3 0),(4,aA 4 0),(6,aA 6 0),(7,aA 7 0),(8,ag 0)]),[(7,(bZ false M)),(6,[ag 0,an false,aF,aF,aF]),(4,[an (aa M).ok,aj 0 0 (aa M).aw.length,aj 1 0 (aa M).ap.length,aj 2 0 z]),(3,(bg false J))],(⟨0,1,List.map aY (aa M).aw⟩::⟨0,2,List.map a7 (aa M).ap⟩::⟨0,5,a1 3 (((aa M).O.set U.ah.toNat (ad.mk 3 (nth (aa M).O U.ah).af (nth (aa M).O U.ah).ac (nth (aa M).O U.ah).ar (nth (aa M).O U.ah).au)).set U.ah.toNat (ad.mk (nth ((aa M).O.set U.ah.toNat (ad.mk 3 (nth (aa M).O U.ah).af (nth (aa M).O U.ah).ac (nth (aa M).O U.ah).ar (nth (aa M).O U.ah).au)) U.ah).aq (nth ((aa M).O.set U.ah.toNat (ad.mk 3 (nth (aa M).O U.ah).af (nth (aa M).O U.ah).ac (nth (aa M).O U.ah).ar (nth (aa M).O U.ah).au)) U.ah).af (nth ((aa M).O.set U.ah.toNat (ad.mk 3 (nth (aa M).O U.ah).af (nth (aa M).O U.ah).ac (nth (aa M).O U.ah).ar (nth (aa M).O U.ah).au)) U.ah).ac (nth ((aa M).O.set U.ah.toNat (ad.mk 3 (nth (aa M).O U.ah).af (nth (aa M).O U.ah).ac (nth (aa M).O U.ah).ar (nth (aa M).O U.ah).au)) U.ah).ar J.dx)) (List.range (aa M).O.length)⟩::List.map bo (List.map ad.ac (aa M).O))⟩:St)) (show(aa M).O.length=(((aa M).O.set U.ah.toNat (ad.mk 3 (nth (aa M).O U.ah).af (nth (aa M).O U.ah).ac (nth (aa M).O U.ah).ar (nth (aa M).O U.ah).au)).set U.ah.toNat (ad.mk (nth ((aa M).O.set U.ah.toNat (ad.mk 3 (nth (aa M).O U.ah).af (nth (aa M).O U.ah).ac (nth (aa M).O U.ah).ar (nth (aa M).O U.ah).au)) U.ah).aq (nth ((aa M).O.set U.ah.toNat (ad.mk 3 (nth (aa M).O U.ah).af (nth (aa M).O U.ah).ac (nth (aa M).O U.ah).ar (nth (aa M).O U.ah).au)) U.ah).af (nth ((aa M).O.set U.ah.toNat (ad.mk 3 (nth (aa M).O U.ah).af (nth (aa M).O U.ah).ac (nth (aa M).O U.ah).ar (nth (aa M).O U.ah).au)) U.ah).ac (nth ((aa M).O.set U.ah.toNat (ad.mk 3 (nth (aa M).O U.ah).af (nth (aa M).O U.ah).ac (nth (aa M).O U.ah).ar (nth (aa M).O U.ah).au)) U.ah).ar J.dx)).length by simp)))
     ·
      replace h:=h.2 sj
      refine bM [] 16 ?_
      obtain⟨o9,h⟩:=h
      refine tv 5 (some 66) [(65,ag U.ah),(64,aA 5 1),(63,.agg (bg false J)),(62,.ptr 2 0 (0+U.ah.toNat) 0)] [.agg (bg false J),ag U.ah] (.agg [ag (a6 J U.ah).aq,ag (a6 J U.ah).af,aj ((List.map ad.ac (aa M).O).length+3) 0 (a6 J U.ah).ac.length,an (a6 J U.ah).ar,ag (a6 J U.ah).au]) (⟨0,1,List.map aY (aa M).aw⟩::⟨0,2,List.map a7 (aa M).ap⟩::⟨0,5,a1 3 (aa M).O (List.range (aa M).O.length)⟩::List.map bo ((List.map ad.ac (aa M).O)++[(a6 J U.ah).ac])) (BX J U.ah o9) (aD.cons (dc.agg (aD.cons (.int _ _) (aD.cons cH (aD.cons cH (aD.cons cH (aD.cons (.int _ _) aD.nil)))))) (aD.cons (dc.h4 (.int _ _)) aD.nil)) (qW (fun _=>rfl) rfl) (rh (rf (fun _=>rfl) rfl) (by simp only[List.cons_append,List.map_nil,rL])) ?_ (er:=by simp[mI,nU,iM])
      obtain⟨mF,h⟩:=h
      refine kf 2 none [(67,.ptr 2 0 (0+U.ah.toNat) 0)] (a1 3 (aa M).O (List.range (aa M).O.length)) U.ah 0 5 0 [ag (a6 J U.ah).aq,ag (a6 J U.ah).af,aj ((List.map ad.ac (aa M).O).length+3) 0 (a6 J U.ah).ac.length,an (a6 J U.ah).ar,ag (a6 J U.ah).au] 2 (a1 3 ((aa M).O.set U.ah.toNat (ad.mk (a6 J U.ah).aq (a6 J U.ah).af (a6 J U.ah).ac (a6 J U.ah).ar (a6 J U.ah).au)) ((List.range (aa M).O.length).set U.ah.toNat (List.map ad.ac (aa M).O).length)) (dO mF.1 mF.2) (wv mF.1) ?_
      refine dY [] ?_
      refine cm.normal ?_
      refine cm.normal ?_
      exact g1.normal (((List.map ad.ac (aa M).O)++[(a6 J U.ah).ac]),(aa M).aw,(aa M).ap,((List.range (aa M).O.length).set U.ah.toNat (List.map ad.ac (aa M).O).length),0,((aa M).O.set U.ah.toNat (ad.mk (a6 J U.ah).aq (a6 J U.ah).af (a6 J U.ah).ac (a6 J U.ah).ar (a6 J U.ah).au))) h (hq (s':=⟨(bi 200 [(3,aA 3 0),(4,aA 4 0),(6,aA 6 0),(7,aA 7 0),(8,ag 0)]),[(7,(bZ false M)),(6,[ag 0,an false,aF,aF,aF]),(4,[an (aa M).ok,aj 0 0 (aa M).aw.length,aj 1 0 (aa M).ap.length,aj 2 0 (aa M).O.length]),(3,(bg false J))],(⟨0,1,List.map aY (aa M).aw⟩::⟨0,2,List.map a7 (aa M).ap⟩::⟨0,5,a1 3 ((aa M).O.set U.ah.toNat (ad.mk (a6 J U.ah).aq (a6 J U.ah).af (a6 J U.ah).ac (a6 J U.ah).ar (a6 J U.ah).au)) ((List.range (aa M).O.length).set U.ah.toNat (List.map ad.ac (aa M).O).length)⟩::List.map bo ((List.map ad.ac (aa M).O)++[(a6 J U.ah).ac]))⟩) (dC (n:=200) (A':=[(3,aA 3 0),(4,aA 4 0),(6,aA 6 0),(7,aA 7 0),(8,ag 0)]) (L':=[(7,(bZ false M)),(6,[ag 0,an false,aF,aF,aF]),(4,[an (aa M).ok,aj 0 0 (aa M).aw.length,aj 1 0 (aa M).ap.length,aj 2 0 (aa M).O.length]),(3,(bg false J))]) [5]) (congrArg (fun z=>(⟨(bi 200 [(3,aA 3 0),(4,aA 4 0),(6,aA 6 0),(7,aA 7 0),(8,ag 0)]),[(7,(bZ false M)),(6,[ag 0,an false,aF,aF,aF]),(4,[an (aa M).ok,aj 0 0 (aa M).aw.length,aj 1 0 (aa M).ap.length,aj 2 0 z]),(3,(bg false J))],(⟨0,1,List.map aY (aa M).aw⟩::⟨0,2,List.map a7 (aa M).ap⟩::⟨0,5,a1 3 ((aa M).O.set U.ah.toNat (ad.mk (a6 J U.ah).aq (a6 J U.ah).af (a6 J U.ah).ac (a6 J U.ah).ar (a6 J U.ah).au)) ((List.range (aa M).O.length).set U.ah.toNat (List.map ad.ac (aa M).O).length)⟩::List.map bo ((List.map ad.ac (aa M).O)++[(a6 J U.ah).ac]))⟩:St)) (show(aa M).O.length=((aa M).O.set U.ah.toNat (ad.mk (a6 J U.ah).aq (a6 J U.ah).af (a6 J U.ah).ac (a6 J U.ah).ar (a6 J U.ah).au)).length by simp)))
   ·
    replace h:=h.2 ha
    refine cB [(105,an (bif (U.op==3) then(U.op==3) else(U.op==4)))] [0,1,7] (True) ?_ (fun mG=> ?_)
    ·
     refine ej [] 21 [(105,an (U.op==3)),(106,an (U.op==3))] [1] [0,1,7] ?_
     refine dI (fun oB=> ?_) (fun oB=> ?_)
     ·
      refine eo ?_
      exact ci.normal trivial (ed (by simp only[fD,ha,oB]<;>kernel_rfl))
     ·
      refine bM [] 22 ?_
      exact b6 [(105,an (U.op==4)),(107,an (U.op==4))] trivial (by simp only[fD,ha,oB]<;>kernel_rfl)
    unfold FX at h
    refine dI (fun oC=> ?_) (fun oC=> ?_)
    ·
     replace h:=h.1 oC
     refine bM [] 23 ?_
     obtain⟨S7,h⟩:=h
     refine lK 8 (some 115) [(114,an (U.op==3)),(113,ag U.op),(112,aA 5 0),(111,ag U.ah),(110,aA 5 1),(109,aj 0 0 (aa M).aw.length),(108,aA 4 1)] 0 0 1 S7 ?_
     refine tw 1 none [] aY (aa M).aw U.ah 0 1 0 [an (U.op==3)] 0 (U.op==3) (by simpa using S7.2) ?_
     refine dY [] ?_
     refine cm.normal ?_
     exact g1.normal ((List.map ad.ac (aa M).O),((aa M).aw.set U.ah.toNat (U.op==3)),(aa M).ap,(List.range (aa M).O.length),0,(aa M).O) h (hq (s':=⟨(bi 200 [(3,aA 3 0),(4,aA 4 0),(6,aA 6 0),(7,aA 7 0),(8,ag 0)]),[(7,(bZ false M)),(6,[ag 0,an false,aF,aF,aF]),(4,[an (aa M).ok,aj 0 0 (aa M).aw.length,aj 1 0 (aa M).ap.length,aj 2 0 (aa M).O.length]),(3,(bg false J))],(⟨0,1,List.map aY ((aa M).aw.set U.ah.toNat (U.op==3))⟩::⟨0,2,List.map a7 (aa M).ap⟩::⟨0,5,a1 3 (aa M).O (List.range (aa M).O.length)⟩::List.map bo (List.map ad.ac (aa M).O))⟩) (dC (n:=200) (A':=[(3,aA 3 0),(4,aA 4 0),(6,aA 6 0),(7,aA 7 0),(8,ag 0)]) (L':=[(7,(bZ false M)),(6,[ag 0,an false,aF,aF,aF]),(4,[an (aa M).ok,aj 0 0 (aa M).aw.length,aj 1 0 (aa M).ap.length,aj 2 0 (aa M).O.length]),(3,(bg false J))]) [5]) (congrArg (fun z=>(⟨(bi 200 [(3,aA 3 0),(4,aA 4 0),(6,aA 6 0),(7,aA 7 0),(8,ag 0)]),[(7,(bZ false M)),(6,[ag 0,an false,aF,aF,aF]),(4,[an (aa M).ok,aj 0 0 z,aj 1 0 (aa M).ap.length,aj 2 0 (aa M).O.length]),(3,(bg false J))],(⟨0,1,List.map aY ((aa M).aw.set U.ah.toNat (U.op==3))⟩::⟨0,2,List.map a7 (aa M).ap⟩::⟨0,5,a1 3 (aa M).O (List.range (aa M).O.length)⟩::List.map bo (List.map ad.ac (aa M).O))⟩:St)) (show(aa M).aw.length=((aa M).aw.set U.ah.toNat (U.op==3)).length by simp)))
    ·
     replace h:=h.2 oC
     refine ej [] 24 [(116,an (U.op==5)),(117,an (U.op==5))] [1] [0,1,7] ?_
     refine dI (fun nR=> ?_) (fun nR=> ?_)
     ·
      replace h:=h.1 nR
      refine bM [] 25 ?_
      obtain⟨S8,h⟩:=h
      refine lK 7 (some 124) [(123,ag U.bj),(122,aA 5 2),(121,ag U.ah),(120,aA 5 1),(119,aj 1 0 (aa M).ap.length),(118,aA 4 2)] 1 0 2 S8 ?_
      refine tw 2 none [(125,.ptr 1 0 (0+U.ah.toNat) 1)] a7 (aa M).ap U.ah 1 1 0 [ag U.bj] 1 (a8.mk (nth (aa M).ap U.ah).b5 U.bj) (by simpa using S8.2) ?_
      refine dY [] ?_
      refine cm.normal ?_
      exact g1.normal ((List.map ad.ac (aa M).O),(aa M).aw,((aa M).ap.set U.ah.toNat (a8.mk (nth (aa M).ap U.ah).b5 U.bj)),(List.range (aa M).O.length),0,(aa M).O) h (hq (s':=⟨(bi 200 [(3,aA 3 0),(4,aA 4 0),(6,aA 6 0),(7,aA 7 0),(8,ag 0)]),[(7,(bZ false M)),(6,[ag 0,an false,aF,aF,aF]),(4,[an (aa M).ok,aj 0 0 (aa M).aw.length,aj 1 0 (aa M).ap.length,aj 2 0 (aa M).O.length]),(3,(bg false J))],(⟨0,1,List.map aY (aa M).aw⟩::⟨0,2,List.map a7 ((aa M).ap.set U.ah.toNat (a8.mk (nth (aa M).ap U.ah).b5 U.bj))⟩::⟨0,5,a1 3 (aa M).O (List.range (aa M).O.length)⟩::List.map bo (List.map ad.ac (aa M).O))⟩) (dC (n:=200) (A':=[(3,aA 3 0),(4,aA 4 0),(6,aA 6 0),(7,aA 7 0),(8,ag 0)]) (L':=[(7,(bZ false M)),(6,[ag 0,an false,aF,aF,aF]),(4,[an (aa M).ok,aj 0 0 (aa M).aw.length,aj 1 0 (aa M).ap.length,aj 2 0 (aa M).O.length]),(3,(bg false J))]) [5]) (congrArg (fun z=>(⟨(bi 200 [(3,aA 3 0),(4,aA 4 0),(6,aA 6 0),(7,aA 7 0),(8,ag 0)]),[(7,(bZ false M)),(6,[ag 0,an false,aF,aF,aF]),(4,[an (aa M).ok,aj 0 0 (aa M).aw.length,aj 1 0 z,aj 2 0 (aa M).O.length]),(3,(bg false J))],(⟨0,1,List.map aY (aa M).aw⟩::⟨0,2,List.map a7 ((aa M).ap.set U.ah.toNat (a8.mk (nth (aa M).ap U.ah).b5 U.bj))⟩::⟨0,5,a1 3 (aa M).O (List.range (aa M).O.length)⟩::List.map bo (List.map ad.ac (aa M).O))⟩:St)) (show(aa M).ap.length=((aa M).ap.set U.ah.toNat (a8.mk (nth (aa M).ap U.ah).b5 U.bj)).length by simp)))
     ·
      replace h:=h.2 nR
      refine ej [] 26 [(126,an (U.op==6)),(127,an (U.op==6))] [1] [0,1,7] ?_
      unfold FW at h
      refine dI (fun kX=> ?_) (fun kX=> ?_)
      ·
       replace h:=h.1 kX
       refine fs 4 ?_
       obtain⟨tp,h⟩:=h
       refine cB [(136,an (decide (((fO J (Frame.mk (aa M).ok (aa M).aw (aa M).ap (view (aa M).O (List.range (aa M).O.length) (List.map ad.ac (aa M).O))) U.ah).length:Int)>0)))] [0,2,6] ((fO J (Frame.mk (aa M).ok (aa M).aw (aa M).ap (view (aa M).O (List.range (aa M).O.length) (List.map ad.ac (aa M).O))) U.ah).length≤4611686018427387904) ?_ (fun CA=> ?_)
       ·
        replace h:=tp
        refine bM [] 28 ?_
        obtain⟨p3,sk,tk,zE⟩:=h
        refine mg 5 (some 141) [(140,ag U.ah),(139,aA 5 1),(138,.agg [an (aa M).ok,aj 0 0 (aa M).aw.length,aj 1 0 (aa M).ap.length,aj 2 0 (aa M).O.length]),(137,.agg (bg false J))] [.agg (bg false J),.agg [an (aa M).ok,aj 0 0 (aa M).aw.length,aj 1 0 (aa M).ap.length,aj 2 0 (aa M).O.length],ag U.ah] (Nm J (Frame.mk (aa M).ok (aa M).aw (aa M).ap (view (aa M).O (List.range (aa M).O.length) (List.map ad.ac (aa M).O))) U.ah zE) (aD.cons (dc.agg (aD.cons (.int _ _) (aD.cons cH (aD.cons cH (aD.cons cH (aD.cons (.int _ _) aD.nil)))))) (aD.cons (dc.agg (aD.cons (.bool _) (aD.cons (nn (sz:=1) (by simp) rfl (s6) p3) (aD.cons (nn (sz:=2) (by simp) rfl (uI) sk) (aD.cons (tx (s:=3) (ws:=(aa M).O) (ids:=(List.range (aa M).O.length)) (bs:=(List.map ad.ac (aa M).O)) (by simp) rfl (fun id k h=>by simpa using h) tk.1 tk.2.1 tk.2.2) aD.nil))))) (aD.cons (dc.h4 (.int _ _)) aD.nil))) ?_
        refine sLen 1 (some 142) [] c_ (fO J (Frame.mk (aa M).ok (aa M).aw (aa M).ap (view (aa M).O (List.range (aa M).O.length) (List.map ad.ac (aa M).O))) U.ah) (fun xt=> ?_)
        exact b6 [(136,an (decide (((fO J (Frame.mk (aa M).ok (aa M).aw (aa M).ap (view (aa M).O (List.range (aa M).O.length) (List.map ad.ac (aa M).O))) U.ah).length:Int)>0))),(143,an (decide (((fO J (Frame.mk (aa M).ok (aa M).aw (aa M).ap (view (aa M).O (List.range (aa M).O.length) (List.map ad.ac (aa M).O))) U.ah).length:Int)>0)))] xt
       replace h:=h CA
       unfold F7 at h
       refine dI (fun sl=> ?_) (fun sl=> ?_)
       ·
        replace h:=h.1 sl
        refine bM [] 29 ?_
        refine dY [(8,ag 2)] ?_
        refine cm.normal ?_
        refine cm.normal ?_
        exact g1.normal ((List.map ad.ac (aa M).O),(aa M).aw,(aa M).ap,(List.range (aa M).O.length),2,(aa M).O) h (dC [5])
       ·
        replace h:=h.2 sl
        obtain⟨tn,h⟩:=h
        refine cB [(144,an (nth (aa M).aw (nth J.a5 U.ah)))] [0,1,6] (True) ?_ (fun tl=> ?_)
        ·
         replace h:=tn
         refine nl [] 30 YX YY [] ?_
         obtain⟨q7,h⟩:=h
         refine sr 7 (some 151) [(150,ag U.ah),(149,aA 5 1),(148,bL c_ J.a5),(147,aA 3 1),(146,aj 0 0 (aa M).aw.length),(145,aA 4 1)] c_ J.a5 1 q7 ?_
         have Ta:=h
         refine vq 2 (some 153) [(152,ag (nth J.a5 U.ah))] 0 0 1 Ta ?_
         refine xP 1 (some 154) [] aY (aa M).aw (nth J.a5 U.ah) 4 0 0 (an (nth (aa M).aw (nth J.a5 U.ah))) (by simpa using Ta.2) ?_
         exact kY [(144,an (nth (aa M).aw (nth J.a5 U.ah)))] trivial
        unfold F6 at h
        refine dI (fun tm=> ?_) (fun tm=> ?_)
        ·
         replace h:=h.1 tm
         refine bM [] 31 ?_
         refine dY [(8,ag 3)] ?_
         refine cm.normal ?_
         refine cm.normal ?_
         exact g1.normal ((List.map ad.ac (aa M).O),(aa M).aw,(aa M).ap,(List.range (aa M).O.length),3,(aa M).O) h (dC [5])
        ·
         replace h:=h.2 tm
         refine bM [] 27 ?_
         obtain⟨S9,h⟩:=h
         refine lK 7 (some 134) [(133,ag U.bj),(132,aA 5 2),(131,ag U.ah),(130,aA 5 1),(129,aj 1 0 (aa M).ap.length),(128,aA 4 2)] 1 0 2 S9 ?_
         refine tw 2 none [(135,.ptr 1 0 (0+U.ah.toNat) 0)] a7 (aa M).ap U.ah 0 1 0 [ag U.bj] 1 (a8.mk U.bj (nth (aa M).ap U.ah).aX) (by simpa using S9.2) ?_
         refine dY [] ?_
         refine cm.normal ?_
         refine cm.normal ?_
         exact g1.normal ((List.map ad.ac (aa M).O),(aa M).aw,((aa M).ap.set U.ah.toNat (a8.mk U.bj (nth (aa M).ap U.ah).aX)),(List.range (aa M).O.length),0,(aa M).O) h (hq (s':=⟨(bi 200 [(3,aA 3 0),(4,aA 4 0),(6,aA 6 0),(7,aA 7 0),(8,ag 0)]),[(7,(bZ false M)),(6,[ag 0,an false,aF,aF,aF]),(4,[an (aa M).ok,aj 0 0 (aa M).aw.length,aj 1 0 (aa M).ap.length,aj 2 0 (aa M).O.length]),(3,(bg false J))],(⟨0,1,List.map aY (aa M).aw⟩::⟨0,2,List.map a7 ((aa M).ap.set U.ah.toNat (a8.mk U.bj (nth (aa M).ap U.ah).aX))⟩::⟨0,5,a1 3 (aa M).O (List.range (aa M).O.length)⟩::List.map bo (List.map ad.ac (aa M).O))⟩) (dC (n:=200) (A':=[(3,aA 3 0),(4,aA 4 0),(6,aA 6 0),(7,aA 7 0),(8,ag 0)]) (L':=[(7,(bZ false M)),(6,[ag 0,an false,aF,aF,aF]),(4,[an (aa M).ok,aj 0 0 (aa M).aw.length,aj 1 0 (aa M).ap.length,aj 2 0 (aa M).O.length]),(3,(bg false J))]) [5]) (congrArg (fun z=>(⟨(bi 200 [(3,aA 3 0),(4,aA 4 0),(6,aA 6 0),(7,aA 7 0),(8,ag 0)]),[(7,(bZ false M)),(6,[ag 0,an false,aF,aF,aF]),(4,[an (aa M).ok,aj 0 0 (aa M).aw.length,aj 1 0 z,aj 2 0 (aa M).O.length]),(3,(bg false J))],(⟨0,1,List.map aY (aa M).aw⟩::⟨0,2,List.map a7 ((aa M).ap.set U.ah.toNat (a8.mk U.bj (nth (aa M).ap U.ah).aX))⟩::⟨0,5,a1 3 (aa M).O (List.range (aa M).O.length)⟩::List.map bo (List.map ad.ac (aa M).O))⟩:St)) (show(aa M).ap.length=((aa M).ap.set U.ah.toNat (a8.mk U.bj (nth (aa M).ap U.ah).aX)).length by simp)))
      ·
       replace h:=h.2 kX
       refine ej [] 32 [(155,an (U.op==7)),(156,an (U.op==7))] [1] [0,2,3,1,2] ?_
       refine dI (fun nj=> ?_) (fun nj=> ?_)
       ·
        replace h:=h.1 nj
        refine ej [] 33 [(160,ag 0),(159,ag ((aa M).O.length:Int)),(158,aj 2 0 (aa M).O.length),(157,aA 4 3)] [2] [0,1,5] ?_
        unfold FV at h
        refine fs 5 ?_
        obtain⟨Hr,h⟩:=h
        refine km (fun(v:List (List Bool)×List Nat×Int×List ad)=>(⟨(bi 200 [(3,aA 3 0),(4,aA 4 0),(6,aA 6 0),(7,aA 7 0),(8,ag 0),(159,ag ((aa M).O.length:Int)),(160,ag (v.2.2.1))]),[(7,(bZ false M)),(6,[ag 0,an false,aF,aF,aF]),(4,[an (aa M).ok,aj 0 0 (aa M).aw.length,aj 1 0 (aa M).ap.length,aj 2 0 (v.2.2.2).length]),(3,(bg false J))],(⟨0,1,List.map aY (aa M).aw⟩::⟨0,2,List.map a7 (aa M).ap⟩::⟨0,5,a1 3 (v.2.2.2) (v.2.1)⟩::List.map bo (v.1))⟩:St)) (fun(v:List (List Bool)×List Nat×Int×List ad)=>aU (v.1) (v.2.1) (v.2.2.1) (v.2.2.2)) (fun(v:List (List Bool)×List Nat×Int×List ad)=>aV (v.1) (v.2.1) (v.2.2.1) (v.2.2.2)) ((List.map ad.ac (aa M).O),(List.range (aa M).O.length),0,(aa M).O) (dC [5]) Hr (fun v a0=> ?_)
        obtain⟨cg,aQ,a9,ws2⟩:=v
        replace h:=h cg aQ a9 ws2 a0
        dsimp only
        refine ej [] 34 [(161,an (decide (a9<((aa M).O.length:Int))))] [1] [7] ?_
        obtain⟨Hq,h⟩:=h
        refine cB [] [0,1,7] ((decide (a9<((aa M).O.length:Int)))=true) ?_ (fun u_=> ?_)
        ·
         replace h:=Hq
         refine dI (fun tq=> ?_) (fun tq=> ?_)
         ·
          refine eo ?_
          exact ci.normal (by simp only[fD,ha,oC,nR,kX,nj,tq]<;>rfl) ed
         ·
          replace h:=h tq
          refine iZ 5 ?_
          refine ci.exit ?_
          refine d_.exit ?_
          refine cm.here ?_
          refine cm.normal ?_
          exact g1.normal (cg,(aa M).aw,(aa M).ap,aQ,0,ws2) h (dC [])
        replace h:=h u_
        unfold FU at h
        obtain⟨Hp,h⟩:=h
        obtain⟨qc,sm⟩: ∃w:List ad,(bif ((nth ws2 a9).aq==3) then(bif ((nth (ws2.set a9.toNat (ad.mk (nth ws2 a9).aq (nth ws2 a9).af (nth ws2 a9).ac (nth ws2 a9).ar (IntKind.i64.wrap ((nth ws2 a9).au - 1)))) a9).au==0) then((ws2.set a9.toNat (ad.mk (nth ws2 a9).aq (nth ws2 a9).af (nth ws2 a9).ac (nth ws2 a9).ar (IntKind.i64.wrap ((nth ws2 a9).au - 1)))).set a9.toNat (ad.mk (a6 J a9).aq (a6 J a9).af (a6 J a9).ac (a6 J a9).ar (a6 J a9).au)) else(ws2.set a9.toNat (ad.mk (nth ws2 a9).aq (nth ws2 a9).af (nth ws2 a9).ac (nth ws2 a9).ar (IntKind.i64.wrap ((nth ws2 a9).au - 1))))) else ws2)=w:=⟨_,rfl⟩
        obtain⟨st,p4⟩: ∃w:List Nat,(bif ((nth ws2 a9).aq==3) then(bif ((nth (ws2.set a9.toNat (ad.mk (nth ws2 a9).aq (nth ws2 a9).af (nth ws2 a9).ac (nth ws2 a9).ar (IntKind.i64.wrap ((nth ws2 a9).au - 1)))) a9).au==0) then(aQ.set a9.toNat cg.length) else aQ) else aQ)=w:=⟨_,rfl⟩
        obtain⟨su,xv⟩: ∃w:List (List Bool),(bif ((nth ws2 a9).aq==3) then(bif ((nth (ws2.set a9.toNat (ad.mk (nth ws2 a9).aq (nth ws2 a9).af (nth ws2 a9).ac (nth ws2 a9).ar (IntKind.i64.wrap ((nth ws2 a9).au - 1)))) a9).au==0) then(cg++[(a6 J a9).ac]) else cg) else cg)=w:=⟨_,rfl⟩
        refine fa [] [7] id (fun _=>(⟨0,1,List.map aY (aa M).aw⟩::⟨0,2,List.map a7 (aa M).ap⟩::⟨0,5,a1 3 qc st⟩::List.map bo su)) (True) ?_ (fun CB=> ?_)
        ·
         replace h:=Hp
         refine fs 6 ?_
         refine ej [] 35 [(12,ag a9),(162,ag a9)] [1] [7] ?_
         obtain⟨Ho,h⟩:=h
         refine cB [(13,.ptr 2 0 (0+a9.toNat) 0)] [8] (True) ?_ (fun aby=> ?_)
         ·
          replace h:=Ho
          refine bM [] 36 ?_
          have afN:=h
          refine lK 4 (some 166) [(165,ag a9),(164,aj 2 0 ws2.length),(163,aA 4 3)] 2 0 5 afN ?_
          exact b6 [(13,.ptr 2 0 (0+a9.toNat) 0)] trivial
         obtain⟨Hn,h⟩:=h
         refine cB [(171,an ((nth ws2 a9).aq==3))] [9] (True) ?_ (fun agq=> ?_)
         ·
          replace h:=Hn
          refine bM [] 37 ?_
          have xw:=h
          refine iL 4 (some 170) [(169,.ptr 2 0 (0+a9.toNat) 0),(168,.ptr 2 0 (0+a9.toNat) 0),(167,.ptr 2 0 (0+a9.toNat) 0)] (a1 3 ws2 aQ) a9 3 0 0 (ag (nth ws2 a9).aq) (dO xw.1 xw.2) ?_
          exact b6 [(171,an ((nth ws2 a9).aq==3))] trivial
         refine dI (fun zG=> ?_) (fun zG=> ?_)
         ·
          replace h:=h zG
          obtain⟨Cz,h⟩:=h
          refine fa [] [0,1,9] id (fun H=>en 2 ⟨0,5,a1 3 (ws2.set a9.toNat (ad.mk (nth ws2 a9).aq (nth ws2 a9).af (nth ws2 a9).ac (nth ws2 a9).ar (IntKind.i64.wrap ((nth ws2 a9).au - 1)))) aQ⟩ H) (True) ?_ (fun PC=> ?_)
          ·
           replace h:=Cz
           refine bM [] 38 ?_
           obtain⟨CC,h⟩:=h
           refine iL 4 (some 175) [(174,.ptr 2 0 (0+a9.toNat) 4),(173,.ptr 2 0 (0+a9.toNat) 0),(172,.ptr 2 0 (0+a9.toNat) 0)] (a1 3 ws2 aQ) a9 3 4 0 (ag (nth ws2 a9).au) (dO CC.1 CC.2) ?_
           have q8:=h
           refine kf 4 none [(178,.ptr 2 0 (0+a9.toNat) 4),(177,.ptr 2 0 (0+a9.toNat) 0),(176,ag (IntKind.i64.wrap ((nth ws2 a9).au - 1)))] (a1 3 ws2 aQ) a9 4 1 0 [ag (IntKind.i64.wrap ((nth ws2 a9).au - 1))] 2 (a1 3 (ws2.set a9.toNat (ad.mk (nth ws2 a9).aq (nth ws2 a9).af (nth ws2 a9).ac (nth ws2 a9).ar (IntKind.i64.wrap ((nth ws2 a9).au - 1)))) aQ) (dO q8.1 q8.2) (kq q8.1 q8.2) ?_
           exact b6 [] trivial
          unfold F9 at h
          obtain⟨Cy,h⟩:=h
          refine cB [(183,an ((nth (ws2.set a9.toNat (ad.mk (nth ws2 a9).aq (nth ws2 a9).af (nth ws2 a9).ac (nth ws2 a9).ar (IntKind.i64.wrap ((nth ws2 a9).au - 1)))) a9).au==0))] [9] (True) ?_ (fun Hl=> ?_)
          ·
           replace h:=Cy
           refine bM [] 39 ?_
           have Cx:=h
           refine iL 4 (some 182) [(181,.ptr 2 0 (0+a9.toNat) 4),(180,.ptr 2 0 (0+a9.toNat) 0),(179,.ptr 2 0 (0+a9.toNat) 0)] (a1 3 (ws2.set a9.toNat (ad.mk (nth ws2 a9).aq (nth ws2 a9).af (nth ws2 a9).ac (nth ws2 a9).ar (IntKind.i64.wrap ((nth ws2 a9).au - 1)))) aQ) a9 3 4 0 (ag (nth (ws2.set a9.toNat (ad.mk (nth ws2 a9).aq (nth ws2 a9).af (nth ws2 a9).ac (nth ws2 a9).ar (IntKind.i64.wrap ((nth ws2 a9).au - 1)))) a9).au) (dO Cx.1 Cx.2) ?_
           exact b6 [(183,an ((nth (ws2.set a9.toNat (ad.mk (nth ws2 a9).aq (nth ws2 a9).af (nth ws2 a9).ac (nth ws2 a9).ar (IntKind.i64.wrap ((nth ws2 a9).au - 1)))) a9).au==0))] trivial
          unfold F8 at h
          refine dI (fun u9=> ?_) (fun u9=> ?_)
          ·
           replace h:=h u9
           refine bM [] 40 ?_
           obtain⟨Hm,h⟩:=h
           refine tv 4 (some 187) [(186,ag a9),(185,.agg (bg false J)),(184,.ptr 2 0 (0+a9.toNat) 0)] [.agg (bg false J),ag a9] (.agg [ag (a6 J a9).aq,ag (a6 J a9).af,aj (cg.length+3) 0 (a6 J a9).ac.length,an (a6 J a9).ar,ag (a6 J a9).au]) (⟨0,1,List.map aY (aa M).aw⟩::⟨0,2,List.map a7 (aa M).ap⟩::⟨0,5,a1 3 (ws2.set a9.toNat (ad.mk (nth ws2 a9).aq (nth ws2 a9).af (nth ws2 a9).ac (nth ws2 a9).ar (IntKind.i64.wrap ((nth ws2 a9).au - 1)))) aQ⟩::List.map bo (cg++[(a6 J a9).ac])) (BX J a9 Hm) (aD.cons (dc.agg (aD.cons (.int _ _) (aD.cons cH (aD.cons cH (aD.cons cH (aD.cons (.int _ _) aD.nil)))))) (aD.cons (dc.h4 (.int _ _)) aD.nil)) (qW (fun _=>rfl) rfl) (rh (rf (fun _=>rfl) rfl) (by simp only[List.cons_append,List.map_nil,rL])) ?_ (er:=by simp[mI,nU,iM])
           have xq:=h
           refine kf 2 none [(188,.ptr 2 0 (0+a9.toNat) 0)] (a1 3 (ws2.set a9.toNat (ad.mk (nth ws2 a9).aq (nth ws2 a9).af (nth ws2 a9).ac (nth ws2 a9).ar (IntKind.i64.wrap ((nth ws2 a9).au - 1)))) aQ) a9 0 5 0 [ag (a6 J a9).aq,ag (a6 J a9).af,aj (cg.length+3) 0 (a6 J a9).ac.length,an (a6 J a9).ar,ag (a6 J a9).au] 2 (a1 3 ((ws2.set a9.toNat (ad.mk (nth ws2 a9).aq (nth ws2 a9).af (nth ws2 a9).ac (nth ws2 a9).ar (IntKind.i64.wrap ((nth ws2 a9).au - 1)))).set a9.toNat (ad.mk (a6 J a9).aq (a6 J a9).af (a6 J a9).ac (a6 J a9).ar (a6 J a9).au)) (aQ.set a9.toNat cg.length)) (dO xq.1 xq.2) (wv xq.1) ?_
           refine dY [] ?_
           refine cm.normal ?_
           exact ci.normal trivial (by simp only[←sm,←p4,←xv,fD,ha,oC,nR,kX,nj,u_,zG,u9,cond_true,cond_false];exact ed)
          ·
           refine eo ?_
           refine cm.normal ?_
           exact ci.normal trivial (by simp only[←sm,←p4,←xv,fD,ha,oC,nR,kX,nj,u_,zG,u9,cond_true,cond_false];exact ed)
         ·
          refine eo ?_
          refine cm.normal ?_
          exact ci.normal trivial (by simp only[←sm,←p4,←xv,fD,ha,oC,nR,kX,nj,u_,zG,cond_true,cond_false];exact ed)
        replace h:=h qc sm
        have Xs:qc.length=ws2.length:=by rw[←sm];repeat' apply zd;all_goals simp
        replace h:=h st p4
        replace h:=h su xv
        refine bM [] 41 ?_
        refine dY [(160,ag (IntKind.i64.wrap (a9+1))),(189,ag (IntKind.i64.wrap (a9+1)))] ?_
        exact d_.again (su,st,(IntKind.i64.wrap (a9+1)),qc) h (hq (s':=⟨(bi 200 [(3,aA 3 0),(4,aA 4 0),(6,aA 6 0),(7,aA 7 0),(8,ag 0),(159,ag ((aa M).O.length:Int)),(160,ag (IntKind.i64.wrap (a9+1)))]),[(7,(bZ false M)),(6,[ag 0,an false,aF,aF,aF]),(4,[an (aa M).ok,aj 0 0 (aa M).aw.length,aj 1 0 (aa M).ap.length,aj 2 0 ws2.length]),(3,(bg false J))],(⟨0,1,List.map aY (aa M).aw⟩::⟨0,2,List.map a7 (aa M).ap⟩::⟨0,5,a1 3 qc st⟩::List.map bo su)⟩) (dC (n:=200) (A':=[(3,aA 3 0),(4,aA 4 0),(6,aA 6 0),(7,aA 7 0),(8,ag 0),(159,ag ((aa M).O.length:Int)),(160,ag (IntKind.i64.wrap (a9+1)))]) (L':=[(7,(bZ false M)),(6,[ag 0,an false,aF,aF,aF]),(4,[an (aa M).ok,aj 0 0 (aa M).aw.length,aj 1 0 (aa M).ap.length,aj 2 0 ws2.length]),(3,(bg false J))]) []) (congrArg (fun z=>(⟨(bi 200 [(3,aA 3 0),(4,aA 4 0),(6,aA 6 0),(7,aA 7 0),(8,ag 0),(159,ag ((aa M).O.length:Int)),(160,ag (IntKind.i64.wrap (a9+1)))]),[(7,(bZ false M)),(6,[ag 0,an false,aF,aF,aF]),(4,[an (aa M).ok,aj 0 0 (aa M).aw.length,aj 1 0 (aa M).ap.length,aj 2 0 z]),(3,(bg false J))],(⟨0,1,List.map aY (aa M).aw⟩::⟨0,2,List.map a7 (aa M).ap⟩::⟨0,5,a1 3 qc st⟩::List.map bo su)⟩:St)) (show ws2.length=qc.length by simp[Xs])))
       ·
        replace h:=h.2 nj
        refine eo ?_
        refine cm.normal ?_
        exact g1.normal ((List.map ad.ac (aa M).O),(aa M).aw,(aa M).ap,(List.range (aa M).O.length),0,(aa M).O) h (dC [5])
 obtain⟨cg,ba,aH,aQ,c4,ws2⟩:=v
 replace h:=h cg ba aH aQ c4 ws2 de
 dsimp only
 unfold F1 at h
 obtain⟨abu,h⟩:=h
 refine cB [] [3] ((!(c4 !=0))=true) ?_ (fun Hs=> ?_)
 ·
  replace h:=abu
  refine ej [] 42 [(191,an (c4 !=0)),(190,ag c4)] [1] [5] ?_
  refine dI (fun zC=> ?_) (fun zC=> ?_)
  ·
   replace h:=h zC
   obtain⟨Hu,h⟩:=h
   refine fa [] [0,3,1] (fun L=>er 1 [ag c4,an (aa M).ok,hl aY (aa M).aw,hl a7 (aa M).ap,hl (dM false) (aa M).O] L) id (True) ?_ (fun Pv=> ?_)
   ·
    replace h:=Hu
    refine bM [] 43 ?_
    have Ht:=h
    refine mg 3 (some 194) [(193,.agg (bZ false M)),(192,ag c4)] [.agg (bZ false M)] (M9 M Ht) (aD.cons (dc.agg (aD.cons (.bool _) (aD.cons cH (aD.cons cH (aD.cons cH aD.nil))))) aD.nil) ?_
    exact b6 [(195,.agg [ag c4,an (aa M).ok,hl aY (aa M).aw,hl a7 (aa M).ap,hl (dM false) (aa M).O])] trivial
   exact hr (ci.ret (nm (.agg [ag c4,an (aa M).ok,hl aY (aa M).aw,hl a7 (aa M).ap,hl (dM false) (aa M).O]) (ii.agg (aD.cons (xK h.1) (aD.cons (np (congrArg (fun q=>q.ok) h.2)) (aD.cons (vm (congrArg (fun q=>q.aw) h.2)) (aD.cons (vm (congrArg (fun q=>q.ap) h.2)) (aD.cons (vm (congrArg (fun q=>q.O) h.2)) aD.nil))))))))
  ·
   refine eo ?_
   exact ci.normal (by simp only[zC]<;>rfl) ed
 replace h:=h Hs
 obtain⟨abt,h⟩:=h
 refine fa [] [0,2,1] (fun L=>er 1 [ag 0,an (ea J (Frame.mk (aa M).ok ba aH (view ws2 aQ cg))).ok,hl aY (ea J (Frame.mk (aa M).ok ba aH (view ws2 aQ cg))).aw,hl a7 (ea J (Frame.mk (aa M).ok ba aH (view ws2 aQ cg))).ap,hl (dM false) (ea J (Frame.mk (aa M).ok ba aH (view ws2 aQ cg))).O] L) id (True) ?_ (fun Pw=> ?_)
 ·
  replace h:=abt
  refine bM [] 44 ?_
  obtain⟨abp,abq,Hv,abr⟩:=h
  refine mg 3 (some 198) [(197,.agg [an (aa M).ok,aj 0 0 ba.length,aj 1 0 aH.length,aj 2 0 ws2.length]),(196,.agg (bg false J))] [.agg (bg false J),.agg [an (aa M).ok,aj 0 0 ba.length,aj 1 0 aH.length,aj 2 0 ws2.length]] (Nw J (Frame.mk (aa M).ok ba aH (view ws2 aQ cg)) abr) (aD.cons (dc.agg (aD.cons (.int _ _) (aD.cons cH (aD.cons cH (aD.cons cH (aD.cons (.int _ _) aD.nil)))))) (aD.cons (dc.agg (aD.cons (.bool _) (aD.cons (nn (sz:=1) (by simp) rfl (s6) abp) (aD.cons (nn (sz:=2) (by simp) rfl (uI) abq) (aD.cons (tx (s:=3) (ws:=ws2) (ids:=aQ) (bs:=cg) (by simp) rfl (fun id k h=>by simpa using h) Hv.1 Hv.2.1 Hv.2.2) aD.nil))))) aD.nil)) ?_
  exact b6 [(199,.agg [ag 0,an (ea J (Frame.mk (aa M).ok ba aH (view ws2 aQ cg))).ok,hl aY (ea J (Frame.mk (aa M).ok ba aH (view ws2 aQ cg))).aw,hl a7 (ea J (Frame.mk (aa M).ok ba aH (view ws2 aQ cg))).ap,hl (dM false) (ea J (Frame.mk (aa M).ok ba aH (view ws2 aQ cg))).O])] trivial
 exact hr (nm (.agg [ag 0,an (ea J (Frame.mk (aa M).ok ba aH (view ws2 aQ cg))).ok,hl aY (ea J (Frame.mk (aa M).ok ba aH (view ws2 aQ cg))).aw,hl a7 (ea J (Frame.mk (aa M).ok ba aH (view ws2 aQ cg))).ap,hl (dM false) (ea J (Frame.mk (aa M).ok ba aH (view ws2 aQ cg))).O]) (ii.agg (aD.cons (xK h.1) (aD.cons (np (congrArg (fun q=>q.ok) h.2)) (aD.cons (vm (congrArg (fun q=>q.aw) h.2)) (aD.cons (vm (congrArg (fun q=>q.ap) h.2)) (aD.cons (vm (congrArg (fun q=>q.O) h.2)) aD.nil)))))))
theorem YR (J:az) (M:Frame) (U:Event) (aI:D2 J M U):b2 Try.prog 63 [.agg (bg false J),.agg (bZ false M),.agg (ju U)] (.agg (sL true (gK J M U))):=YZ J M U (gK J M U) (fun x v=>ct (bA (nth J.O U.ah)).length (fun _=>false) v∧x=h7 ((bA (nth J.O U.ah)).take v.toNat) M.ap) (fun _ v=>cG (bA (nth J.O U.ah)).length v) (fun bs is v ws=>ct M.O.length (fun _=>false) v∧gA ws is bs∧view ws is bs=hD J v.toNat M.O) (fun _ _ v _=>cG M.O.length v) (fun bs o q is c ws=>gA ws is bs∧c=eH J M U∧(c=0→Frame.mk M.ok o q (view ws is bs)=fk J M U)) (by
 unfold FS
 obtain⟨hf,he⟩:=aI
 have hs:=Bf hf
 have l7:=hs
 obtain⟨x1,oH,Af,vC⟩:=l7
 have cF:=hf.in
 have cZ:=hf.fr
 have aL:=cZ.O
 have nG:=cZ.aw
 have k8:=cZ.ap
 have yX:=cF.O
 have nH:=cF.c2
 have wP:=cF.sw
 obtain⟨fv,fZ,fE⟩:=we M.O
 have lA:gA M.O (List.range M.O.length) (M.O.map ad.ac):=⟨fv,fZ,fun b hb=>by
  obtain⟨h,b0,rfl⟩:=List.mem_map.1 hb;exact vC h b0⟩
 have sW:Frame.mk (aa M).ok (aa M).aw (aa M).ap (view (aa M).O (List.range (aa M).O.length) (List.map ad.ac (aa M).O))=M:=by
  show Frame.mk M.ok M.aw M.ap (view M.O (List.range M.O.length) (List.map ad.ac M.O))=M
  rw[fE]
 have lC:(aa M).O.length=(List.range (aa M).O.length).length:=by rw[List.length_range]
 have g5:(aa M).aw.length≤4611686018427387904∧(aa M).ap.length≤4611686018427387904∧(kl (aa M).O (List.range (aa M).O.length) (List.map ad.ac (aa M).O)∧(aa M).O.length≤4611686018427387904∧(∀x∈(List.map ad.ac (aa M).O),List.length x≤4611686018427387904)):=
  ⟨by show M.aw.length≤_;omega,by show M.ap.length≤_;omega,fv,by show M.O.length≤_;omega,fun x hx=>by have:=lA.len x hx;omega⟩
 have l6: ∀c:Int,c=eH J M U→c≠0→gA M.O (List.range M.O.length) (M.O.map ad.ac)∧c=eH J M U∧(c=0→Frame.mk M.ok M.aw M.ap (view M.O (List.range M.O.length) (M.O.map ad.ac))=fk J M U):=fun c hc cl=>⟨lA,hc,fun h=>absurd h cl⟩
 refine⟨hs,?_,fun bs o q is c ws de=> ?_⟩
 ·unfold F0
  refine⟨fun h1=> ?_,fun h1=> ?_⟩
  ·have h1:U.op=1:=by simpa using h1
   have bq:=mY he (.inl h1)
   have rU:eH J M U=eA J M U.ah:=by unfold eH;rw[if_pos h1]
   unfold F3
   rw[sW]
   refine⟨⟨g5.1,g5.2.1,g5.2.2,hf,bq.1,bq.2⟩,fun aP=> ?_,fun aP=> ?_⟩
   ·have aP:eA J M U.ah=0:=by simpa using aP
    have bf:U.ah.toNat<M.O.length:=by omega
    refine⟨⟨⟨bq.1,bf⟩,lC,bf⟩,⟨⟨bq.1,by omega⟩,?_⟩,fun hm=>⟨⟨df (dp _),rfl⟩,fun x v a0=> ?_⟩⟩
    ·have:=cF.aX _ (dz (show U.ah.toNat<J.O.length by omega))
     exact⟨by omega,by omega⟩
    obtain⟨a0,rfl⟩:=a0
    unfold F2 FT
    rw[sW]
    refine⟨fun hv=> ?_,fun hv=>⟨⟨cb a0 hv,?_⟩,⟨(cO (cw hm) a0 hv rfl).1,?_⟩,(cO (cw hm) a0 hv rfl).2⟩⟩
    ·have dy:=(lA.oO bf).setState 1
     refine⟨dy.G,rU.symm,fun _=> ?_⟩
     have kx: ¬v<((bA (nth J.O U.ah)).length:Int):=by simpa using hv
     have hX:=a0.1
     have j_:=dy.gZ
     rw[fE] at j_
     unfold fk
     rw[if_pos h1]
     rw[show view ((aa M).O.set U.ah.toNat (ad.mk 1 (nth (aa M).O U.ah).af (nth (aa M).O U.ah).ac (nth (aa M).O U.ah).ar (nth (aa M).O U.ah).au)) (List.range (aa M).O.length) (List.map ad.ac (aa M).O)=_ from j_,List.take_of_length_le (by omega)]
     rfl
    ·rw[zT]
     have:=(cF.aX _ (dz (show U.ah.toNat<J.O.length by omega))).2.2 _ (dz (cb a0 hv).2)
     omega
    ·have b9:=cb a0 hv
     rw[iU (cw hm) a0.1 (by simpa using hv),show(v+1).toNat=v.toNat+1 by have:=a0.1;omega,Qd b9.2,←gk b9.2]
   ·have aP: ¬eA J M U.ah=0:=by simpa using aP
    exact l6 _ rU.symm aP
  have h1: ¬U.op=1:=by simpa using h1
  unfold FY
  refine⟨fun h2=> ?_,fun h2=> ?_⟩
  ·have h2:U.op=2:=by simpa using h2
   have bq:=mY he (.inr h2)
   have bf:U.ah.toNat<M.O.length:=by omega
   have wF:U.ah.toNat<J.O.length:=by omega
   have j9:eH J M U=if(nth M.O U.ah).aq≠1∧(nth M.O U.ah).aq≠2 then 2 else 0:=by unfold eH;rw[if_neg h1,if_pos h2]
   refine⟨⟨bq.1,bf⟩,⟨⟨lC,bf⟩,fun _=>⟨lC,bf⟩⟩,?_⟩
   unfold F5
   rw[sW]
   have oU:(((nth (aa M).O U.ah).aq !=1)&&((nth (aa M).O U.ah).aq !=2))=decide ((nth M.O U.ah).aq≠1∧(nth M.O U.ah).aq≠2):=by
    rw[Bool.eq_iff_iff];simp[aa]
   rw[oU]
   refine⟨fun hc=> ?_,fun hc=>⟨⟨⟨lC,bf⟩,fun _=>⟨⟨bq.1,wF⟩,g5.1,g5.2.1,g5.2.2,fun x hx=> ?_⟩⟩,?_⟩⟩
   ·have hc:=of_decide_eq_true hc
    rw[if_pos hc] at j9
    exact l6 2 j9.symm (by decide)
   ·have:=(cF.cK _ (dz wF)).2 x hx;omega
   ·have hc:=of_decide_eq_false hc
    rw[if_neg hc] at j9
    have dy:=lA.oO bf
    rw[fE] at dy
    unfold F4
    rw[sW]
    have bh: ∀X:Frame,X=(if((nth M.O U.ah).ar&&gH M (nth J.O U.ah).cK)=true then{M with O:=M.O.set U.ah.toNat {nth M.O U.ah with aq:=3,au:=J.dx}} else{M with O:=M.O.set U.ah.toNat (a6 J U.ah)})→X=fk J M U:=fun X yH=>by
     unfold fk;rw[if_neg h1,if_pos h2];exact yH
    refine⟨fun ak=>⟨⟨lC,bf⟩,(dy.setState 3).fo,?_⟩,fun ak=>⟨⟨cF,bq.1,bq.2⟩,⟨lC,bf⟩,?_⟩⟩
    ·have gn:=(dy.setState 3).xF J.dx
     refine⟨gn.G,j9.symm,fun _=>bh _ ?_⟩
     have ak:((nth M.O U.ah).ar&&gH M (nth J.O U.ah).cK)=true:=ak
     rw[if_pos ak]
     have j_:=gn.gZ
     exact congrArg (Frame.mk M.ok M.aw M.ap) j_
    ·have gn:=dy.new (a6 J U.ah) (by
      have:=(cF.ai _ (dz wF)).2.1
      show(List.replicate _ _).length≤_
      rw[List.length_replicate];omega)
     have JB:dr M.O ((List.range (aa M).O.length).set U.ah.toNat (List.map ad.ac (aa M).O).length) U.ah (a6 J U.ah) ((aa M).O.set U.ah.toNat (ad.mk (a6 J U.ah).aq (a6 J U.ah).af (a6 J U.ah).ac (a6 J U.ah).ar (a6 J U.ah).au)) ((List.map ad.ac (aa M).O)++[(a6 J U.ah).ac]):=gn
     refine⟨JB.G,j9.symm,fun _=>bh _ ?_⟩
     have ak: ¬((nth M.O U.ah).ar&&gH M (nth J.O U.ah).cK)=true:=by
      have ak:((nth M.O U.ah).ar&&gH M (nth J.O U.ah).cK)=false:=ak
      rw[ak];simp
     rw[if_neg ak,JB.gZ];rfl
  have h2: ¬U.op=2:=by simpa using h2
  have ok: ∀(o:List Bool) (q:List a8),eH J M U=0→fk J M U={M with aw:=o,ap:=q}→gA M.O (List.range M.O.length) (M.O.map ad.ac)∧0=eH J M U∧((0:Int)=0→Frame.mk M.ok o q (view M.O (List.range M.O.length) (M.O.map ad.ac))=fk J M U):=fun o q hc bh=>⟨lA,hc.symm,fun _=>by rw[fE,bh]⟩
  unfold FX
  rw[zs]
  refine⟨fun aO=> ?_,fun aO=> ?_⟩
  ·have aO:=of_decide_eq_true aO
   have bq:=En he aO
   refine⟨⟨bq.1,by show U.ah.toNat<M.aw.length;omega⟩,ok _ _ ?_ ?_⟩
   ·unfold eH;rw[if_neg h1,if_neg h2,if_neg (by omega)]
   ·unfold fk;rw[if_neg h1,if_neg h2,if_pos aO];rfl
  have aO:=of_decide_eq_false aO
  refine⟨fun ch=> ?_,fun ch=> ?_⟩
  ·have ch:U.op=5:=by simpa using ch
   have bq:=wb he (.inl ch)
   refine⟨⟨bq.1,by show U.ah.toNat<M.ap.length;omega⟩,ok _ _ ?_ ?_⟩
   ·unfold eH;rw[if_neg h1,if_neg h2,if_neg (by omega)]
   ·unfold fk;rw[if_neg h1,if_neg h2,if_neg aO,if_pos ch];rfl
  have ch: ¬U.op=5:=by simpa using ch
  unfold FW
  refine⟨fun cD=> ?_,fun cD=>⟨fun gp=> ?_,fun gp=> ?_⟩⟩
  ·have cD:U.op=6:=by simpa using cD
   have bq:=wb he (.inr cD)
   have j9:eH J M U=if hO J M U.ah=true then 2 else if jV J M U.ah=true then 3 else 0:=by unfold eH;rw[if_neg h1,if_neg h2,if_pos cD]
   rw[sW]
   refine⟨⟨g5.1,g5.2.1,g5.2.2,hf,bq.1,bq.2⟩,fun _=> ?_⟩
   unfold F7 F6
   rw[sW]
   have Ft:=cF.a5 _ (dz (show U.ah.toNat<J.a5.length by omega))
   refine⟨fun hc=> ?_,fun hc=>⟨⟨⟨bq.1,by omega⟩,Ft.1,by show _<M.aw.length;omega⟩,fun aC=> ?_,fun aC=>⟨⟨bq.1,by show _<M.ap.length;omega⟩,ok _ _ ?_ ?_⟩⟩⟩
   ·rw[if_pos (show hO J M U.ah=true from hc)] at j9
    exact l6 2 j9.symm (by decide)
   ·rw[if_neg (show ¬hO J M U.ah=true by rw[show hO J M U.ah=false from hc];simp),if_pos (show jV J M U.ah=true from aC)] at j9
    exact l6 3 j9.symm (by decide)
   ·rw[if_neg (show ¬hO J M U.ah=true by rw[show hO J M U.ah=false from hc];simp),if_neg (show ¬jV J M U.ah=true by rw[show jV J M U.ah=false from aC];simp)] at j9
    exact j9
   ·unfold fk;rw[if_neg h1,if_neg h2,if_neg aO,if_neg ch,if_pos cD];rfl
  ·have gp:U.op=7:=by simpa using gp
   unfold FV
   refine⟨⟨df (dp _),lA,fE⟩,fun bs is v ws a0=> ?_⟩
   obtain⟨a0,G,j_⟩:=a0
   have BP:ws.length=M.O.length:=by rw[←jo G.ok,j_,z6]
   refine⟨fun hv=>⟨G,?_,fun _=> ?_⟩,fun hv=> ?_⟩
   ·unfold eH;rw[if_neg h1,if_neg h2,if_neg (by omega)]
   ·have kx: ¬v<(M.O.length:Int):=by
     have hv:decide (v<(M.O.length:Int))=false:=hv
     simpa using hv
    have a3:=a0.1
    have hb:=a0.2.1
    rw[j_,show v.toNat=M.O.length by omega]
    unfold fk;rw[if_neg h1,if_neg h2,if_neg aO,if_neg ch,if_neg (by omega),if_pos gp];rfl
   ·have b9:=cb a0 hv
    have bf:v.toNat<ws.length:=by omega
    have wF:v.toNat<J.O.length:=by omega
    have dy:dr (hD J v.toNat M.O) is v (nth (hD J v.toNat M.O) v) ws bs:=dr.start G.ok G.kV bf j_ G.len
    have bk:=cO (by omega) a0 hv rfl
    have qJ:=iU (show(M.O.length:Int)≤4611686018427387904 by omega) a0.1 (by
     have hv:decide (v<(M.O.length:Int))=true:=hv
     simpa using hv)
    have uy:wX J v:=⟨cF,b9.1,by omega⟩
    have wD:(a6 J v).ac.length≤1048576:=by
     have:=(cF.ai _ (dz wF)).2.1
     show(List.replicate _ _).length≤_
     rw[List.length_replicate];omega
    have eE:=dy.xF (IntKind.i64.wrap ((nth ws v).au - 1))
    have fin: ∀{di:List Nat} {kH:List ad} {mr:List (List Bool)} {x:ad},dr (hD J v.toNat M.O) di v x kH mr→x=kZ J v.toNat (nth (hD J v.toNat M.O) v)→(ct M.O.length (fun _=>false) (IntKind.i64.wrap (v+1))∧gA kH di mr∧view kH di mr=hD J (IntKind.i64.wrap (v+1)).toNat M.O)∧cG M.O.length (IntKind.i64.wrap (v+1))<cG M.O.length v:=fun F hx=>by
     refine⟨⟨bk.1,F.G,?_⟩,bk.2⟩
     rw[F.gZ,hx,qJ,show(v+1).toNat=v.toNat+1 by omega]
     show _=(hD J v.toNat M.O).set v.toNat (kZ J v.toNat (nth (hD J v.toNat M.O) (v.toNat:Int)))
     rw[jy b9.1]
    unfold FU F9 F8
    refine⟨⟨⟨b9.1,bf⟩,dy.fo,fun _=>⟨⟨dy.fo,dy.fo⟩,eE.fo,fun _=>⟨uy,eE.fo⟩⟩⟩,fun w hw i hi b hb=> ?_⟩
    have bq:(nth (ws.set v.toNat (ad.mk (nth ws v).aq (nth ws v).af (nth ws v).ac (nth ws v).ar (IntKind.i64.wrap ((nth ws v).au - 1)))) v).au=IntKind.i64.wrap ((nth ws v).au - 1):=eE.au
    rw[bq,dy.aq,dy.au] at hw hi hb
    rw[dy.au,dy.aq] at eE
    have E8:a6 J (v.toNat:Int)=a6 J v:=by rw[Int.toNat_of_nonneg b9.1]
    cases aO:((nth (hD J v.toNat M.O) v).aq==3) with
    | false=>
     rw[aO] at hw hi hb
     subst hw;subst hi;subst hb
     refine fin dy ?_
     unfold kZ;rw[if_neg (by simpa using aO)]
    | true=>
     rw[aO] at hw hi hb
     cases aT:(IntKind.i64.wrap ((nth (hD J v.toNat M.O) v).au - 1)==0) with
     | false=>
      rw[aT] at hw hi hb
      subst hw;subst hi;subst hb
      refine fin eE ?_
      unfold kZ;rw[if_pos (by simpa using aO),if_neg (by simpa using aT)]
     | true=>
      rw[aT] at hw hi hb
      subst hw;subst hi;subst hb
      refine fin (eE.new (a6 J v) wD) ?_
      unfold kZ;rw[if_pos (by simpa using aO),if_pos (by simpa using aT),E8]
  ·have gp: ¬U.op=7:=by simpa using gp
   refine ok _ _ ?_ ?_
   ·unfold eH;rw[if_neg h1,if_neg h2,if_neg (by simpa using cD)]
   ·unfold fk;rw[if_neg h1,if_neg h2,if_neg aO,if_neg ch,if_neg (by simpa using cD),if_neg gp];rfl
 ·obtain⟨G,hc,bh⟩:=de
  unfold F1
  refine⟨fun aP=>⟨hs,?_⟩,fun aP=> ?_⟩
  ·have aP: ¬c=0:=by simpa using aP
   unfold gK;rw[if_pos (by rw[←hc];exact aP)]
   exact⟨hc,rfl⟩
  ·have aP:c=0:=by simpa using aP
   have b9:=AP cZ (mY he)
   rw[←bh aP] at b9
   have aC:=b9.aw
   have ak:=b9.ap
   have hw:=b9.O
   have X5:(view ws is bs).length=J.O.length:=hw
   rw[jo G.ok] at X5
   replace aC:(o.length:Int)=J.ai:=aC
   replace ak:q.length=J.a5.length:=ak
   refine⟨⟨by omega,by omega,⟨G.ok,by omega,fun x hx=>by have:=G.len x hx;omega⟩,cF,b9⟩,?_⟩
   unfold gK;rw[if_neg (by rw[←hc,aP];simp)]
   exact⟨rfl,by rw[←bh aP];rfl⟩)
def YS:eC Try.prog:=⟨63,[.dt,.frame,.fT],[.done],some fun x=>D2 x.1 x.2.1 x.2.2.1,fun x=>((gK x.1 x.2.1 x.2.2.1),()),fun x h=>YR x.1 x.2.1 x.2.2.1 h⟩
abbrev pg (r:Type):Type:=Nat→(List fK)→Bool→(List Bool)→(List a8)→(List ad)→Int→r
def MR (ay:pg Prop) (aB:pg Nat) (J:az) (M:(List Event)) (bB:Nat) (ba:(List fK)) (c0:Bool) (cE:(List Bool)) (cJ:(List a8)) (c1:(List ad)) (gy:Int):Prop:=
  ((ba.length+[(fK.mk (gK J (Frame.mk c0 cE cJ c1) (nth M gy)).code (aa (gK J (Frame.mk c0 cE cJ c1) (nth M gy)).frame))].length)*88≤140737488355328∧ba.length+[(fK.mk (gK J (Frame.mk c0 cE cJ c1) (nth M gy)).code (aa (gK J (Frame.mk c0 cE cJ c1) (nth M gy)).frame))].length≤4611686018427387904)∧(ay (bB+1) (ba++[(fK.mk (gK J (Frame.mk c0 cE cJ c1) (nth M gy)).code (aa (gK J (Frame.mk c0 cE cJ c1) (nth M gy)).frame))]) (gK J (Frame.mk c0 cE cJ c1) (nth M gy)).frame.ok (gK J (Frame.mk c0 cE cJ c1) (nth M gy)).frame.aw (gK J (Frame.mk c0 cE cJ c1) (nth M gy)).frame.ap (gK J (Frame.mk c0 cE cJ c1) (nth M gy)).frame.O (IntKind.i64.wrap (gy+1))∧aB (bB+1) (ba++[(fK.mk (gK J (Frame.mk c0 cE cJ c1) (nth M gy)).code (aa (gK J (Frame.mk c0 cE cJ c1) (nth M gy)).frame))]) (gK J (Frame.mk c0 cE cJ c1) (nth M gy)).frame.ok (gK J (Frame.mk c0 cE cJ c1) (nth M gy)).frame.aw (gK J (Frame.mk c0 cE cJ c1) (nth M gy)).frame.ap (gK J (Frame.mk c0 cE cJ c1) (nth M gy)).frame.O (IntKind.i64.wrap (gy+1))<aB bB ba c0 cE cJ c1 gy)
def MS (ay:pg Prop) (aB:pg Nat) (bB:Nat) (ba:(List fK)) (c0:Bool) (cE:(List Bool)) (cJ:(List a8)) (c1:(List ad)) (gy:Int):Prop:=
  ((ba.length+[(fK.mk 1 (aa (aa (Frame.mk c0 cE cJ c1))))].length)*88≤140737488355328∧ba.length+[(fK.mk 1 (aa (aa (Frame.mk c0 cE cJ c1))))].length≤4611686018427387904)∧(ay (bB+1) (ba++[(fK.mk 1 (aa (aa (Frame.mk c0 cE cJ c1))))]) c0 cE cJ c1 (IntKind.i64.wrap (gy+1))∧aB (bB+1) (ba++[(fK.mk 1 (aa (aa (Frame.mk c0 cE cJ c1))))]) c0 cE cJ c1 (IntKind.i64.wrap (gy+1))<aB bB ba c0 cE cJ c1 gy)
def MT (ay:pg Prop) (aB:pg Nat) (J:az) (M:(List Event)) (bB:Nat) (ba:(List fK)) (c0:Bool) (cE:(List Bool)) (cJ:(List a8)) (c1:(List ad)) (gy:Int):Prop:=
  (jH (Frame.mk c0 cE cJ c1))∧(((ey J (nth M gy))=true→(D2 J (Frame.mk c0 cE cJ c1) (nth M gy))∧((jH (gK J (Frame.mk c0 cE cJ c1) (nth M gy)).frame)∧(MR ay aB J M bB ba c0 cE cJ c1 gy)))∧((ey J (nth M gy))=false→(jH (aa (Frame.mk c0 cE cJ c1)))∧(MS ay aB bB ba c0 cE cJ c1 gy)))
def MU (ay:pg Prop) (aB:pg Nat) (J:az) (M:(List Event)) (al:(List fK)):Prop:=
  ay 0 ([]:List fK) (ei J).ok (ei J).aw (ei J).ap (ei J).O 0∧ ∀(bB:Nat) (ba:(List fK)) (c0:Bool) (cE:(List Bool)) (cJ:(List a8)) (c1:(List ad)) (gy:Int),ay bB ba c0 cE cJ c1 gy→(((decide (gy<(M.length:Int)))=false→ba.length≤4611686018427387904∧ba=al)∧((decide (gy<(M.length:Int)))=true→(0≤gy∧gy.toNat<M.length)∧(MT ay aB J M bB ba c0 cE cJ c1 gy)))
def MQ (J:az) (M:(List Event)) (al:(List fK)) (ay:pg Prop) (aB:pg Nat):Prop:=
 (((!(dT J)) || (decide ((M.length:Int)>1000)))=true→[]=al)∧((!((!(dT J)) || (decide ((M.length:Int)>1000))))=true→M.length≤4611686018427387904→MU ay aB J M al)
theorem YD (J:az) (M:(List Event)):b2 Try.prog 22 [.agg (bg false J),bL ju M] (hl (sL false) (sp J M)):=(fun(ay:pg Prop) (aB:pg Nat) (h:MQ J M (sp J M) ay aB)=>b2.run (ps:=[.dt,(.l .fT)]) (rs:=[(.l .done)]) (x:=(J,M,())) (r:=((sp J M),())) ⟨48,ep,[Ns,Mx,YO,Y4,YS]⟩ ⟨[],[],[],[],[]⟩ (.lp [(0,6,.done)] [2,5,20,21] [(5,4),(2,5)] [.nat,(.l .done),.bool,(.l .bool),(.l .gM),(.l .held),.int] [bD 0,bD 0,eL 5 0,eL 5 1,eL 5 2,eL 5 3,22] (fun aM=>[(6,.ref 0 aM.1 aM.2.1.length false),(22,.i .i64 aM.2.2.2.2.2.2.1),(eL 5 0,.b (.v aM.2.2.1)),(eL 5 1,.l .bool aM.2.2.2.1 false true),(eL 5 2,.l .gM aM.2.2.2.2.1 false true),(eL 5 3,.l .held aM.2.2.2.2.2.1 false true),(bD 0,.blk aM.1 .done aM.2.1 _ rfl)]) (fun aM=>ay aM.1 aM.2.1 aM.2.2.1 aM.2.2.2.1 aM.2.2.2.2.1 aM.2.2.2.2.2.1 aM.2.2.2.2.2.2.1) (fun aM=>aB aM.1 aM.2.1 aM.2.2.1 aM.2.2.2.1 aM.2.2.2.2.1 aM.2.2.2.2.2.1 aM.2.2.2.2.2.2.1) fun _=> .nil) Try.func22 h) (fun _ x a b c e v=>ct M.length (fun _=>false) v∧x=jG J (ei J) (M.take v.toNat)∧Frame.mk a b c e=nL J (ei J) (M.take v.toNat)) (fun _ _ _ _ _ _ v=>cG M.length v) (by
 unfold MQ
 refine⟨fun h=> ?_,fun h aG=> ?_⟩
 ·unfold sp
  rw[if_neg]
  rintro⟨h1,h2⟩
  rw[h1] at h
  have: ¬(M.length:Int)>1000:=by omega
  simp[this] at h
 have h:dT J=true∧(M.length:Int)≤1000:=by simpa using h
 have e:sp J M=jG J (ei J) M:=by unfold sp;rw[if_pos ⟨h.1,by omega⟩]
 rw[e]
 unfold MU
 refine⟨⟨df (dp _),rfl,rfl⟩,fun g x a b c d v a0=> ?_⟩
 obtain⟨a0,rfl,aL⟩:=a0
 have wT:=a0.2.1
 have hX:=a0.1
 have lC:(jG J (ei J) (M.take v.toNat)).length=v.toNat:=by rw[CN,List.length_take];omega
 refine⟨fun hv=>⟨by omega,?_⟩,fun hv=>⟨cb a0 hv,?_⟩⟩
 ·have: ¬v<(M.length:Int):=by simpa using hv
  rw[List.take_of_length_le (by omega)]
 have b9:=cb a0 hv
 have bk:=cO (cw aG) a0 hv rfl
 have m7:Fit J (nL J (ei J) (M.take v.toNat)):=GC _ (JY h.1)
 have BM:M.take (IntKind.i64.wrap (v+1)).toNat=M.take v.toNat++[nth M v]:=by
  rw[iU (cw aG) hX (by simpa using hv),show(v+1).toNat=v.toNat+1 by omega,List.take_succ_eq_append_getElem b9.2,gk b9.2]
 have uA:=PV J (nth M v) (M.take v.toNat) (ei J)
 unfold MT
 rw[aL]
 refine⟨Bf m7,fun he=>⟨⟨m7,he⟩,Bf (Kw m7 he),?_⟩,fun he=>⟨Bf m7,?_⟩⟩
 ·unfold MR
  rw[aL]
  refine⟨⟨by simp only[List.length_singleton];omega,by simp only[List.length_singleton];omega⟩,⟨bk.1,?_,?_⟩,bk.2⟩
  ·rw[BM,uA.1,if_pos he];rfl
  ·rw[BM,uA.2,if_pos he]
 ·unfold MS
  rw[aL]
  refine⟨⟨by simp only[List.length_singleton];omega,by simp only[List.length_singleton];omega⟩,⟨bk.1,?_,?_⟩,bk.2⟩
  ·rw[BM,uA.1,if_neg (by rw[he];simp)];rfl
  ·rw[BM,uA.2,if_neg (by rw[he];simp),aL])
def YE:eC Try.prog:=⟨22,[.dt,(.l .fT)],[(.l .done)],none,fun x=>((sp x.1 x.2.1),()),fun x h=>YD x.1 x.2.1⟩
end Go.Proofs.Ytglpfccgmfhkdaa.Fw
set_option linter.unusedVariables false
namespace Go.Proofs.Ytglpfccgmfhkdaa.Fw
open Go
def qZ (hg:Nat):Nat→(l:List fS)→c8 (fS.es l)→List (Nat×TV)
 | _,[],_=>[]
 | i,.v e::r,x=>(i,u0 e x.1)::qZ hg (i+1) r x.2
 | i,.p::r,x=>(i,.ptr 0 hg 0 1 0)::qZ hg (i+1) r x
def oY (hg:Nat) (ce:bJ) (l:List fS) (x:c8 (fS.es l)) (c:ce.T):TS:=⟨qZ hg 0 l x++[(bD 0,.eN hg (gJ false ce c))],[],[],1⟩
theorem Ed (hg:Nat): ∀(l:List fS) (x:c8 (fS.es l)),(j5 hg l x).length=l.length
 | [],_=>rfl
 | .v e::r,x=>congrArg Nat.succ (Ed hg r x.2)
 | .p::r,x=>congrArg Nat.succ (Ed hg r (show c8 (fS.es r) from x))
theorem OZ {hg:Nat} {d:TV} (bh:d.bE= .undef): ∀(l:List fS) (x:c8 (fS.es l)) (i t:Nat),(fY (qZ hg i l x) t d).bE=if t<i then .undef else(j5 hg l x).getD (t - i) .undef
 | [],x,i,t=>by
  show d.bE=_
  rw[bh];split<;>simp[j5]
 | qY::r,x,i,t=>by
  have key: ∀(v:TV) (a:AV) (y:c8 (fS.es r)),v.bE=a→(fY ((i,v)::qZ hg (i+1) r y) t d).bE=if t<i then .undef else(a::j5 hg r y).getD (t - i) .undef:=fun v a y a3=>by
   rw[gL]
   by_cases h:i=t
   ·subst h;rw[if_pos rfl,if_neg (by omega),Nat.sub_self,a3];rfl
   ·rw[if_neg h,OZ bh r y (i+1) t]
    by_cases h2:t<i
    ·rw[if_pos (by omega),if_pos h2]
    ·rw[if_neg (by omega),if_neg h2,show t - i=(t - (i+1))+1 by omega];rfl
  cases qY with
  | v e=>exact key _ _ x.2 (O1 e x.1)
  | p=>exact key _ _ x rfl
theorem O0 {hg k:Nat} {d:TV} (hk:1000000≤k): ∀(l:List fS) (x:c8 (fS.es l)) (i:Nat),i+l.length≤1000000→fY (qZ hg i l x) k d=d
 | [],_,_,_=>rfl
 | qY::r,x,i,h=>by
  have key: ∀(v:TV) (y:c8 (fS.es r)),fY ((i,v)::qZ hg (i+1) r y) k d=d:=fun v y=>by
   simp only[List.length_cons] at h
   rw[gL,if_neg (by omega)];exact O0 hk r y (i+1) (by omega)
  cases qY with
  | v e=>exact key _ x.2
  | p=>exact key _ x
theorem NO {hg k:Nat} {ce:bJ} {l:List fS} {x:c8 (fS.es l)} {c:ce.T} (aL:l.length≤1000000) (hk:1000000≤k):(oY hg ce l x c).get k=if bD 0=k then .eN hg (gJ false ce c) else .u:=by
 show fY (qZ hg 0 l x++[(bD 0,_)]) k .u=_
 rw[sc,O0 hk l x 0 (by omega),gL];rfl
theorem NP {hg:Nat} {ce:bJ} {l:List fS} {x:c8 (fS.es l)} {c:ce.T} (aL:l.length≤1000000):iu (oY hg ce l x c)=true:=by
 unfold iu
 rw[NO aL (by unfold dK;omega),if_neg (by unfold bD dK;omega)]
theorem ZO [Z:FZ] {fn:Func} {hg:Nat} {ce:bJ} {l:List fS} {x:c8 (fS.es l)} {c:ce.T} (h:l.length≤fn.ntmps) (aG:fn.ntmps≤1000000):za fn (j5 hg l x) [⟨hg,(cd false ce c).length,[cd false ce c]⟩]=(oY hg ce l x c).aJ fn.ntmps:=by
 have cu:j5 hg l x++List.replicate (fn.ntmps - (j5 hg l x).length) AV.undef=(oY hg ce l x c).tT fn.ntmps:=by
  apply List.ext_getElem?
  intro t
  show _=((List.range fn.ntmps).map fun t=>((oY hg ce l x c).get t).bE)[t]?
  rw[List.getElem?_map]
  rcases Nat.lt_or_ge t fn.ntmps with aL | aL
  ·rw[List.getElem?_range aL]
   show _=some (fY (qZ hg 0 l x++[(bD 0,_)]) t .u).bE
   rw[sc,gL,if_neg (by unfold bD;omega)]
   show _=some (fY (qZ hg 0 l x) t .u).bE
   rw[OZ rfl,if_neg (by omega),Nat.sub_zero]
   rcases Nat.lt_or_ge t (j5 hg l x).length with h1 | h1
   ·rw[List.getElem?_append_left h1,List.getD_eq_getElem?_getD,List.getElem?_eq_getElem h1];rfl
   ·rw[List.getElem?_append_right h1,List.getElem?_replicate,if_pos (by omega),List.getD_eq_getElem?_getD,List.getElem?_eq_none h1];rfl
  ·rw[List.getElem?_eq_none (l:=List.range fn.ntmps) (by simpa using aL),List.getElem?_eq_none]
   ·rfl
   ·rw[List.length_append,List.length_replicate,Ed];omega
 have aS:((oY hg ce l x c).aJ fn.ntmps).H=[⟨hg,(cd false ce c).length,[cd false ce c]⟩]:=by
  show(oY hg ce l x c).gw++g4 (oY hg ce l x c)=_
  unfold g4;rw[NP (by omega)]
  show[((oY hg ce l x c).get (bD 0)).en]++[]=_
  rw[NO (by omega) (by unfold bD;omega),if_pos rfl]
  show[Blk.mk hg (gJ false ce c).length [cS (gJ false ce c)]]=_
  rw[CE (vX false ce c),vX]
 show(⟨j5 hg l x++_,[],_⟩:St)=⟨(oY hg ce l x c).tT fn.ntmps,[],((oY hg ce l x c).aJ fn.ntmps).H⟩
 rw[cu,aS]
def wh (P:Program) (n:Nat) (fn:Func) (hg:Nat) (ce:bJ) (c':ce.T) (rs:List bJ) (r:c8 rs) (s:TS):aW:=match s.get (bD 0) with
 | .eN g a_=>
  let nz:=ce.mk (oS ce.kT a_)
  let vs:=fn.results.toList.map (PR P n s)
  .eq g hg (.eq (Nat.blt 0 s.bu&&iu s) true (.eq (cS a_) (cd false ce nz) (.p (nz=c') (.eq (fun H Q=>q9 P ⟨s.tT n,s.cs,H⟩ fn.results.toList Q) (fun _ Q=>Q (cS vs)) (.eq ((cS vs).all kc) true (Bb (s.gQ 0 s.bu (.eN (hg+1) a_)) rs vs r .hE))))))
 | _=> .no
theorem afx {H:List Blk}: ∀(rs:List bJ) (r:c8 rs) (l:List AV),aD (sB H) l (l2 rs r)→ii H (sv l) (k5 rs r):=by
 intro rs r l aI
 match rs,r,l with
 | [],_,[]=>exact .inl ⟨[],[],rfl,rfl,aD.nil⟩
 | [],_,_::_=>have:=aI.1;simp[l2] at this
 | [e],r,[]=>have:=aI.1;simp[l2] at this
 | [e],r,[v]=>exact .inr aI.head
 | [e],r,_::_::_=>have:=aI.1;simp[l2] at this
 | e::dS::rs,r,[]=>have:=aI.1;simp[l2] at this
 | e::dS::rs,r,[v]=>have:=aI.1;simp[l2] at this
 | e::dS::rs,r,v::w::l=>exact .inl ⟨_,_,rfl,rfl,aI⟩
theorem KY [Z:FZ] {P:Program} {n:Nat} {fn:Func} {hg:Nat} {ce:bJ} {c':ce.T} {rs:List bJ} {r:c8 rs} {s:TS} {R:Exit→TS→Prop} (k:Nat) (hk:k=(cd false ce c').length) (h:(wh P n fn hg ce c' rs r s).den R):
  tr P fn (s.aJ n) fun v fg=> ∃B,fg=⟨hg,k,[cd false ce c']⟩::B∧ii (⟨hg+1,k,[cd false ce c']⟩::B) v (k5 rs r):=by
 subst hk
 unfold wh at h
 split at h
 ·rename_i g a_ pK
  obtain⟨h1,h2,aO,bd,ch,cD,gp⟩:=h
  subst h1
  rw[Bool.and_eq_true,Nat.blt_eq] at h2
  rw[bd] at aO
  have br: ∀q,TV.en (.eN q a_)=⟨q,(cd false ce c').length,[cd false ce c']⟩:=fun q=>by
   show Blk.mk q a_.length [cS a_]=_
   rw[CE aO,aO]
  have hb:=rk (n:=n) h2.1
  rw[pK,br] at hb
  unfold tr
  have WK:q9 P (s.aJ n) fn.results.toList=_:=congrFun ch (s.aJ n).H
  rw[congrFun WK]
  refine⟨cD,?_⟩
  obtain⟨oh,_⟩:=Ew (n:=n) gp
  rw[tU h2.1,br] at oh
  cases aS:(s.aJ n).H with
  | nil=>rw[aS] at hb;cases hb
  | cons x B=>
   rw[aS] at hb oh
   cases hb
   exact⟨B,rfl,afx rs r _ oh⟩
 ·exact h.elim
def Jf {P:Program} (cf:hj P) (ez:vH P) (fn:Func) (hg:Nat) (ce:bJ) (l:List fS) (rs:List bJ) (x:c8 (fS.es l)) (c c':ce.T) (r:c8 rs) (a:lr):aW:=kj cf ez (some 1) (iE fn) (oY hg ce l x c) a fun ex s _=>match ex with
 | .normal=>wh P cf.n fn hg ce c' rs r s
 | .ret=>wh P cf.n fn hg ce c' rs r s
 | _=> .no
theorem iW.run {P:Program} {f:FuncId} {fn:Func} {hg:Nat} {ce:bJ} {l:List fS} {rs:List bJ} {x:c8 (fS.es l)} {c c':ce.T} {r:c8 rs} (cf:hj P) (ez:vH P) (a:lr) {C:Prop} (hf:P.funcs[f]?=some fn) (h:C)
  (e:C=(Jf cf ez fn hg ce l rs x c c' r a).n9.den:=by kernel_rfl) (e2:(Jf cf ez fn hg ce l rs x c c' r a).lhs=(Jf cf ez fn hg ce l rs x c c' r a).rhs:=by kernel_rfl)
  (hb:fn.body=some (iE fn):=by kernel_rfl) (hm:(fn.name== "runtime.NumGoroutine")=false:=by kernel_rfl) (aG:(Nat.beq cf.n fn.ntmps&&Nat.ble cf.n 1000000&&Nat.ble l.length cf.n)=true:=by kernel_rfl):iW P f hg (j5 hg l x) (cd false ce c) (cd false ce c') (k5 rs r):=by
 simp only[Bool.and_eq_true] at aG
 have h1:=Nat.eq_of_beq_eq_true aG.1.1
 have h2:=Nat.le_of_ble_eq_true aG.1.2
 have aO:=Nat.le_of_ble_eq_true aG.2
 refine dH.G3 hf hb hm fun iX gr=> ?_
 letI Z:FZ:=⟨[],[]⟩
 rw[ZO (by rw[←h1];exact aO) (by rw[←h1];exact h2),←h1]
 refine S0 h2 (fun k e=>by cases e;rw[gr];exact Nat.le_refl _) (iE fn) (R:=fun _ _=>True) (K:=fun ex s _=>match ex with
  | .normal=>wh P cf.n fn hg ce c' rs r s
  | .ret=>wh P cf.n fn hg ce c' rs r s
  | _=> .no) (fun ex s _ Z hs hf=> ?_) Z (@Fits.none Z _ (NP (by omega))) (aW.full (e▸h) e2)
 have hk:(cd false ce c).length=(cd false ce c').length:=by rw[rJ,rJ]
 cases ex with
 | normal=>exact KY _ hk hs
 | ret=>exact KY _ hk hs
 | _=>exact hs.elim
end Go.Proofs.Ytglpfccgmfhkdaa.Fw
