/- Walks and summaries of functions, printed by a program of mine (tools/mk2.py), with the proofs of what they owe. -/
import Derived.Test.YtglpfccgmfhkdaaM7
set_option linter.unusedVariables false
set_option maxRecDepth 100000
set_option maxHeartbeats 4000000
set_option linter.unusedSimpArgs false
namespace Go.Proofs.Ytglpfccgmfhkdaa.Fw
open Go
attribute [local irreducible] evS evSD WpS Weak Oper.looksAt
noncomputable def H_:Code:=iE Try.f32
def ac1:List Item:=[ao 0,ao 1,ao 2,ao 3,ao 4,⟨5,true,false,[0,1]⟩,ao 6,⟨7,true,false,[0,1]⟩,⟨8,true,false,[]⟩,ao 9,⟨10,true,false,[]⟩]
def ac2:List (List Nat):=[[],[0],[],[2],[2,3],[2,3,4],rg 2 6,rg 2 7,rg 0 8,rg 0 9,rg 0 10]
def H5 (aU:iP Prop) (aV:iP Nat) (J:az) (aR:Nat) (aH:(List a8)) (eW:Int) (aZ:List (List Bool)) (a2 bS:Nat) (aQ:List Nat) (bP:Int) (ws2:List ad):Prop:=
  aU aR aH eW (aZ++[(List.replicate ((nth J.O bP).ai.length:Int).toNat false)]) (a2+1) (bS+1) (aQ++[aZ.length]) (IntKind.i64.wrap (bP+1)) (ws2++[(ad.mk 0 0 (List.replicate ((nth J.O bP).ai.length:Int).toNat false) false 0)])∧aV aR aH eW (aZ++[(List.replicate ((nth J.O bP).ai.length:Int).toNat false)]) (a2+1) (bS+1) (aQ++[aZ.length]) (IntKind.i64.wrap (bP+1)) (ws2++[(ad.mk 0 0 (List.replicate ((nth J.O bP).ai.length:Int).toNat false) false 0)])<aV aR aH eW aZ a2 bS aQ bP ws2
def H6 (aU:iP Prop) (aV:iP Nat) (J:az) (aR:Nat) (aH:(List a8)) (eW:Int) (aZ:List (List Bool)) (a2 bS:Nat) (aQ:List Nat) (bP:Int) (ws2:List ad):Prop:=
  ((0≤bP∧bP.toNat<J.O.length)∧((0≤((nth J.O bP).ai.length:Int)∧1*((nth J.O bP).ai.length:Int)≤140737488355328∧((nth J.O bP).ai.length:Int)≤4611686018427387904)∧(ws2.length=aQ.length∧((ws2.length+1)*56≤140737488355328∧ws2.length+1≤4611686018427387904))))∧(H5 aU aV J aR aH eW aZ a2 bS aQ bP ws2)
def H7 (aU:iP Prop) (aV:iP Nat) (J:az) (al:Frame) (aR:Nat) (aH:(List a8)) (eW:Int) (aZ:List (List Bool)) (a2 bS:Nat) (aQ:List Nat) (bP:Int) (ws2:List ad):Prop:=
  ((decide (bP<(J.O.length:Int)))=false→(true=al.ok)∧((List.replicate J.ai.toNat false).length≤4611686018427387904∧(List.replicate J.ai.toNat false)=al.aw)∧(aH.length≤4611686018427387904∧aH=al.ap)∧(kl ws2 aQ aZ∧ws2.length≤4611686018427387904∧(∀x∈aZ,List.length x≤4611686018427387904)∧view ws2 aQ aZ=al.O))∧((decide (bP<(J.O.length:Int)))=true→H6 aU aV J aR aH eW aZ a2 bS aQ bP ws2)
def H8 (ay:mN Prop) (aB:mN Nat) (aU:iP Prop) (aV:iP Nat) (J:az) (al:Frame) (aR:Nat) (aH:(List a8)) (eW:Int):Prop:=
  ((decide (eW<(J.a5.length:Int)))=false→J.O.length≤4611686018427387904→aU aR aH eW ([]:List (List Bool)) 0 0 ([]:List Nat) 0 ([]:List ad)∧ ∀(aZ:List (List Bool)) (a2:Nat) (bS:Nat) (aQ:List Nat) (bP:Int) (ws2:List ad),aU aR aH eW aZ a2 bS aQ bP ws2→(H7 aU aV J al aR aH eW aZ a2 bS aQ bP ws2))∧((decide (eW<(J.a5.length:Int)))=true→((aH.length+[(a8.mk 1 1)].length)*16≤140737488355328∧aH.length+[(a8.mk 1 1)].length≤4611686018427387904)∧(ay (aR+1) (aH++[(a8.mk 1 1)]) (IntKind.i64.wrap (eW+1))∧aB (aR+1) (aH++[(a8.mk 1 1)]) (IntKind.i64.wrap (eW+1))<aB aR aH eW))
def H9 (ay:mN Prop) (aB:mN Nat) (aU:iP Prop) (aV:iP Nat) (J:az) (al:Frame):Prop:=
  ((!(dT J))=true→(false=al.ok)∧([]=al.aw)∧([]=al.ap)∧([]=al.O))∧((!(!(dT J)))=true→(0≤J.ai∧1*J.ai≤140737488355328∧J.ai≤4611686018427387904)∧(J.a5.length≤4611686018427387904→ay 0 ([]:List a8) 0∧ ∀(aR:Nat) (aH:(List a8)) (eW:Int),ay aR aH eW→(H8 ay aB aU aV J al aR aH eW)))
def H4 (J:az) (al:Frame) (ay:mN Prop) (aB:mN Nat) (aU:iP Prop) (aV:iP Nat):Prop:=
 H9 ay aB aU aV J al
theorem ac3 (J:az) (al:Frame) (ay:mN Prop) (aB:mN Nat) (aU:iP Prop) (aV:iP Nat) (h:H4 J al ay aB aU aV):b2 Try.prog 32 [.agg (bg false J)] (.agg (bZ true al)):=by
 unfold H4 at h
 refine dH.go (fn:=Try.f32) [(0,.agg (bg false J))] Try.func32 (fun _ _=> ?_)
 show WpS _ (bT H_ 1) _ ⟨bi 45 [(0,.agg (bg false J))],[],[]⟩
 refine qq [1000003] 0 [(2,aA 2 0),(1,aA 1 0)] [2] [] [(2,[an false,aF,aF,aF]),(1,(bg false J))] [] ?_
 unfold H9 at h
 obtain⟨lf,h⟩:=h
 refine cB [] [2] ((!(!(dT J)))=true) ?_ (fun q2=> ?_)
 ·
  replace h:=lf
  refine cB [(8,an (!(dT J)))] [2] (True) ?_ (fun q3=> ?_)
  ·
   refine bM [1000003] 1 ?_
   refine mg 2 (some 7) [(6,.agg (bg false J))] [.agg (bg false J)] (QX J) (aD.cons (dc.agg (aD.cons (.int _ _) (aD.cons cH (aD.cons cH (aD.cons cH (aD.cons (.int _ _) aD.nil)))))) aD.nil) ?_
   exact b6 [(8,an (!(dT J)))] trivial
  refine dI (fun q4=> ?_) (fun q4=> ?_)
  ·
   replace h:=h q4
   refine ej [1000003] 2 [(9,.agg [an false,aF,aF,aF])] [] [0,1,1] ?_
   exact hr (ci.ret (nm (.agg [an false,aF,aF,aF]) (ii.agg (aD.cons (np h.1) (aD.cons (rj h.2.1) (aD.cons (rj h.2.2.1) (aD.cons (rj h.2.2.2) aD.nil)))))))
  ·
   refine eo ?_
   exact ci.normal (by simp only[q4]<;>rfl) ed
 replace h:=h q2
 obtain⟨ld,h⟩:=h
 refine fa [(3,aA 3 0)] [2] (fun L=>(3,[an true,aj 0 0 (List.replicate J.ai.toNat false).length,aF,aF])::L) (fun _=>[⟨0,1,List.map aY (List.replicate J.ai.toNat false)⟩]) (True) ?_ (fun c6=> ?_)
 ·
  replace h:=ld
  refine bM [1000003] 3 ?_
  have fP:=h
  refine HN 3 (some 12) [(11,ag J.ai),(10,aA 1 0)] aY 1 [an false] 0 (fun r=>[⟨0,1,r⟩]) false fP ?_
  exact b6 [(3,aA 3 0),(13,.agg [an true,aj 0 0 (List.replicate J.ai.toNat false).length,aF,aF])] trivial
 refine hJ ?_
 refine cB [(16,ag (J.a5.length:Int)),(17,ag 0)] [3] (J.a5.length≤4611686018427387904) ?_ (fun fD=> ?_)
 ·
  refine bM [1000003] 4 ?_
  refine sLen 3 (some 16) [(15,bL c_ J.a5),(14,aA 1 1)] c_ J.a5 (fun iJ=> ?_)
  exact b6 [(17,ag 0)] iJ
 replace h:=h fD
 refine fs 0 ?_
 refine WpS.mn ?_ (hq (s'':=⟨(bi 45 [(16,ag (J.a5.length:Int)),(17,ag 0),(3,aA 3 0),(2,aA 2 0),(1,aA 1 0)]),[(3,[an true,aj 0 0 (List.replicate J.ai.toNat false).length,aj 1 0 ([]:List a8).length,aF]),(2,[an false,aF,aF,aF]),(1,(bg false J))],[⟨0,1,List.map aY (List.replicate J.ai.toNat false)⟩,⟨0,2,List.map a7 ([]:List a8)⟩]⟩) (Weak.tP (T:=(bi 45 [(16,ag (J.a5.length:Int)),(17,ag 0),(3,aA 3 0),(2,aA 2 0),(1,aA 1 0)])) (L:=[(3,[an true,aj 0 0 (List.replicate J.ai.toNat false).length,aF,aF]),(2,[an false,aF,aF,aF]),(1,(bg false J))]) (H:=[⟨0,1,List.map aY (List.replicate J.ai.toNat false)⟩]) (cells:=[an true,aj 0 0 (List.replicate J.ai.toNat false).length,aF,aF]) 3 2 2 (by kernel_rfl) (by kernel_rfl)) (by kernel_rfl))
 obtain⟨jD,h⟩:=h
 refine km (fun(v:Nat×(List a8)×Int)=>(⟨(bi 45 [(1,aA 1 0),(2,aA 2 0),(3,aA 3 0),(16,ag (J.a5.length:Int)),(17,ag (v.2.2))]),[(3,[an true,aj 0 0 (List.replicate J.ai.toNat false).length,aj 1 (v.1) (v.2.1).length,aF]),(2,[an false,aF,aF,aF]),(1,(bg false J))],[⟨0,1,List.map aY (List.replicate J.ai.toNat false)⟩,⟨(v.1),2,List.map a7 (v.2.1)⟩]⟩:St)) (fun(v:Nat×(List a8)×Int)=>ay (v.1) (v.2.1) (v.2.2)) (fun(v:Nat×(List a8)×Int)=>aB (v.1) (v.2.1) (v.2.2)) (0,([]:List a8),0) (dC []) jD (fun v a0=> ?_)
 obtain⟨aR,aH,eW⟩:=v
 replace h:=h aR aH eW a0
 dsimp only
 refine ej [1000003] 5 [(18,an (decide (eW<(J.a5.length:Int))))] [1] [5] ?_
 unfold H8 at h
 obtain⟨lc,h⟩:=h
 refine cB [] [0,1,5] ((decide (eW<(J.a5.length:Int)))=true) ?_ (fun iw=> ?_)
 ·
  replace h:=lc
  refine dI (fun h6=> ?_) (fun h6=> ?_)
  ·
   refine eo ?_
   exact ci.normal (by simp only[q2,h6]<;>rfl) ed
  ·
   replace h:=h h6
   refine iZ 0 ?_
   refine ci.exit ?_
   refine d_.exit ?_
   refine cm.here ?_
   refine eb.normal ?_
   refine hJ ?_
   refine j4 ⟨(bi 45 [(2,aA 2 0),(3,aA 3 0),(27,bL (dw false) J.O),(28,ag (J.O.length:Int)),(29,ag 0)]),[(3,[an true,aj 0 0 (List.replicate J.ai.toNat false).length,aj 1 aR aH.length,aF]),(2,[an false,aF,aF,aF]),(1,(bg false J))],[⟨0,1,List.map aY (List.replicate J.ai.toNat false)⟩,⟨aR,2,List.map a7 aH⟩]⟩ (J.O.length≤4611686018427387904) ?_ (fun fI=> ?_)
   ·
    refine bM [1000003] 8 ?_
    refine sLen 3 (some 28) [(27,bL (dw false) J.O),(26,aA 1 2)] (dw false) J.O (fun q5=> ?_)
    exact b6 [(29,ag 0)] q5
   replace h:=h fI
   refine fs 2 ?_
   refine WpS.mn ?_ (hq (s'':=⟨(bi 45 [(2,aA 2 0),(3,aA 3 0),(27,bL (dw false) J.O),(28,ag (J.O.length:Int)),(29,ag 0)]),[(3,[an true,aj 0 0 (List.replicate J.ai.toNat false).length,aj 1 aR aH.length,aj 2 0 ([]:List ad).length]),(2,[an false,aF,aF,aF]),(1,(bg false J))],[⟨0,1,List.map aY (List.replicate J.ai.toNat false)⟩,⟨aR,2,List.map a7 aH⟩,⟨0,5,a1 4 ([]:List ad) ([]:List Nat)⟩]⟩) (Weak.tP (T:=(bi 45 [(2,aA 2 0),(3,aA 3 0),(27,bL (dw false) J.O),(28,ag (J.O.length:Int)),(29,ag 0)])) (L:=[(3,[an true,aj 0 0 (List.replicate J.ai.toNat false).length,aj 1 aR aH.length,aF]),(2,[an false,aF,aF,aF]),(1,(bg false J))]) (H:=[⟨0,1,List.map aY (List.replicate J.ai.toNat false)⟩,⟨aR,2,List.map a7 aH⟩]) (cells:=[an true,aj 0 0 (List.replicate J.ai.toNat false).length,aj 1 aR aH.length,aF]) 3 3 5 (by kernel_rfl) (by kernel_rfl)) (by kernel_rfl))
   refine WpS.mn ?_ (hq (s'':=⟨(bi 45 [(2,aA 2 0),(3,aA 3 0),(27,bL (dw false) J.O),(28,ag (J.O.length:Int)),(29,ag 0)]),[(3,[an true,aj 0 0 (List.replicate J.ai.toNat false).length,aj 1 aR aH.length,aj 2 0 ([]:List ad).length]),(2,[an false,aF,aF,aF]),(1,(bg false J))],(⟨0,1,List.map aY (List.replicate J.ai.toNat false)⟩::⟨aR,2,List.map a7 aH⟩::⟨0,5,a1 4 ([]:List ad) ([]:List Nat)⟩::⟨0,5,[]⟩::List.map bo ([]:List (List Bool)))⟩) (Weak.w5 (T:=(bi 45 [(2,aA 2 0),(3,aA 3 0),(27,bL (dw false) J.O),(28,ag (J.O.length:Int)),(29,ag 0)])) (L:=[(3,[an true,aj 0 0 (List.replicate J.ai.toNat false).length,aj 1 aR aH.length,aj 2 0 ([]:List ad).length]),(2,[an false,aF,aF,aF]),(1,(bg false J))]) (H:=[⟨0,1,List.map aY (List.replicate J.ai.toNat false)⟩,⟨aR,2,List.map a7 aH⟩,⟨0,5,a1 4 ([]:List ad) ([]:List Nat)⟩]) 5) (by kernel_rfl))
   obtain⟨mC,h⟩:=h
   refine km (fun(v:List (List Bool)×Nat×Nat×List Nat×Int×List ad)=>(⟨(bi 45 [(2,aA 2 0),(3,aA 3 0),(27,bL (dw false) J.O),(28,ag (J.O.length:Int)),(29,ag (v.2.2.2.2.1))]),[(3,[an true,aj 0 0 (List.replicate J.ai.toNat false).length,aj 1 aR aH.length,aj 2 (v.2.1) (v.2.2.2.2.2).length]),(2,[an false,aF,aF,aF])],(⟨0,1,List.map aY (List.replicate J.ai.toNat false)⟩::⟨aR,2,List.map a7 aH⟩::⟨(v.2.1),5,a1 4 (v.2.2.2.2.2) (v.2.2.2.1)⟩::⟨(v.2.2.1),5,[]⟩::List.map bo (v.1))⟩:St)) (fun(v:List (List Bool)×Nat×Nat×List Nat×Int×List ad)=>aU aR aH eW (v.1) (v.2.1) (v.2.2.1) (v.2.2.2.1) (v.2.2.2.2.1) (v.2.2.2.2.2)) (fun(v:List (List Bool)×Nat×Nat×List Nat×Int×List ad)=>aV aR aH eW (v.1) (v.2.1) (v.2.2.1) (v.2.2.2.1) (v.2.2.2.2.1) (v.2.2.2.2.2)) (([]:List (List Bool)),0,0,([]:List Nat),0,([]:List ad)) (dC [1]) mC (fun v a0=> ?_)
   obtain⟨aZ,a2,bS,aQ,bP,ws2⟩:=v
   replace h:=h aZ a2 bS aQ bP ws2 a0
   dsimp only
   refine ej [1000003] 9 [(30,an (decide (bP<(J.O.length:Int))))] [1] [5] ?_
   unfold H7 at h
   obtain⟨kC,h⟩:=h
   refine cB [] [0,1,5] ((decide (bP<(J.O.length:Int)))=true) ?_ (fun ke=> ?_)
   ·
    replace h:=kC
    refine dI (fun hR=> ?_) (fun hR=> ?_)
    ·
     refine eo ?_
     exact ci.normal (by simp only[q2,h6,hR]<;>rfl) ed
    ·
     replace h:=h hR
     refine iZ 2 ?_
     refine ci.exit ?_
     refine d_.exit ?_
     refine cm.here ?_
     refine eb.normal ?_
     refine j4 ⟨(bi 45 [(2,aA 2 0)]),[(3,[an true,aj 0 0 (List.replicate J.ai.toNat false).length,aj 1 aR aH.length,aj 2 a2 ws2.length]),(2,[an true,aj 0 0 (List.replicate J.ai.toNat false).length,aj 1 aR aH.length,aj 2 a2 ws2.length])],(⟨0,1,List.map aY (List.replicate J.ai.toNat false)⟩::⟨aR,2,List.map a7 aH⟩::⟨a2,5,a1 4 ws2 aQ⟩::⟨bS,5,[]⟩::List.map bo aZ)⟩ (True) ?_ (fun mb=> ?_)
     ·
      refine bM [1000003] 13 ?_
      exact b6 [(44,.agg [an true,aj 0 0 (List.replicate J.ai.toNat false).length,aj 1 aR aH.length,aj 2 a2 ws2.length])] trivial
     exact hr (nm (.agg [an true,aj 0 0 (List.replicate J.ai.toNat false).length,aj 1 aR aH.length,aj 2 a2 ws2.length]) (ii.agg (aD.cons (np h.1) (aD.cons (ri (sz:=1) (by simp) rfl (vV) h.2.1) (aD.cons (ri (sz:=2) (by simp) rfl (yi) h.2.2.1) (aD.cons (CV (s:=4) (ws:=ws2) (ids:=aQ) (bs:=aZ) (by simp) rfl (fun id k h=>by simpa using h) h.2.2.2) aD.nil))))))
   replace h:=h ke
   unfold H6 at h
   obtain⟨ie,h⟩:=h
   refine fa [] [5] (fun L=>(5,(dw false (nth J.O bP)))::hV 0 3 (aj 2 (a2+1) (ws2++[(ad.mk 0 0 (List.replicate ((nth J.O bP).ai.length:Int).toNat false) false 0)]).length) L) (fun _=>(⟨0,1,List.map aY (List.replicate J.ai.toNat false)⟩::⟨aR,2,List.map a7 aH⟩::⟨(a2+1),5,a1 4 (ws2++[(ad.mk 0 0 (List.replicate ((nth J.O bP).ai.length:Int).toNat false) false 0)]) (aQ++[aZ.length])⟩::⟨(bS+1),5,[[ag 0,ag 0,aj (aZ.length+4) 0 (List.replicate ((nth J.O bP).ai.length:Int).toNat false).length,an false,ag 0]]⟩::List.map bo (aZ++[(List.replicate ((nth J.O bP).ai.length:Int).toNat false)]))) (True) ?_ (fun hA=> ?_)
   ·
    replace h:=ie
    refine fs 3 ?_
    obtain⟨iy,h⟩:=h
    refine fa [(5,aA 5 0)] [5] (fun L=>(5,(dw false (nth J.O bP)))::L) id (True) ?_ (fun ix=> ?_)
    ·
     replace h:=iy
     refine bM [1000003] 10 ?_
     have kB:=h
     refine li 1 (some 31) [] (dw false) J.O 5 kB ?_
     exact b6 [(5,aA 5 0),(32,.agg (dw false (nth J.O bP)))] trivial
    refine nl [1000003] 11 ac1 ac2 [] ?_
    refine Ja 5 (some 37) [(36,bL c_ (nth J.O bP).ai),(35,aA 5 0),(34,aj 2 a2 ws2.length),(33,aA 3 3)] c_ (nth J.O bP).ai ?_
    obtain⟨g_,h⟩:=h
    refine afd 1 (some 38) [] 1 [an false] (fun r=>pz Try.prog (ji H_ 16025) [0,1] [(37,ag ((nth J.O bP).ai.length:Int)),(36,bL c_ (nth J.O bP).ai),(35,aA 5 0),(34,aj 2 a2 ws2.length),(33,aA 3 3),(5,aA 5 0),(2,aA 2 0),(3,aA 3 0),(27,bL (dw false) J.O),(28,ag (J.O.length:Int)),(29,ag bP)] [(5,(dw false (nth J.O bP))),(3,[an true,aj 0 0 (List.replicate J.ai.toNat false).length,aj 1 aR aH.length,aj 2 a2 ws2.length]),(2,[an false,aF,aF,aF])] r) (aZ.length+4) (⟨0,1,List.map aY (List.replicate J.ai.toNat false)⟩::⟨aR,2,List.map a7 aH⟩::⟨a2,5,a1 4 ws2 aQ⟩::⟨bS,5,[]⟩::List.map bo (aZ++[(List.replicate ((nth J.O bP).ai.length:Int).toNat false)])) g_ (by simp) (by simp only[List.cons_append,rL]) (tg (ψ:=((true=true∧true=true∧((aA 3 3:AV)=aA 3 3))∧((true=true∧true=true∧((aj 2 a2 ws2.length:AV)=aj 2 a2 ws2.length))∧True))) (by kernel_rfl) ⟨⟨rfl,rfl,rfl⟩,⟨⟨rfl,rfl,rfl⟩,trivial⟩⟩) ?_
    refine z4 2 [(40,.ref 3 (bS+1) 0 1 true),(39,.agg [ag 0,ag 0,aj (aZ.length+4) 0 (List.replicate ((nth J.O bP).ai.length:Int).toNat false).length,an false,ag 0])] [(5,(dw false (nth J.O bP))),(3,[an true,aj 0 0 (List.replicate J.ai.toNat false).length,aj 1 aR aH.length,aj 2 a2 ws2.length]),(2,[an false,aF,aF,aF])] (⟨0,1,List.map aY (List.replicate J.ai.toNat false)⟩::⟨aR,2,List.map a7 aH⟩::⟨a2,5,a1 4 ws2 aQ⟩::⟨(bS+1),5,[[ag 0,ag 0,aj (aZ.length+4) 0 (List.replicate ((nth J.O bP).ai.length:Int).toNat false).length,an false,ag 0]]⟩::List.map bo (aZ++[(List.replicate ((nth J.O bP).ai.length:Int).toNat false)])) (φ:=pz Try.prog (ji H_ 16025) [0,1] [(39,.agg [ag 0,ag 0,aj (aZ.length+4) 0 (List.replicate ((nth J.O bP).ai.length:Int).toNat false).length,an false,ag 0]),(38,aj (aZ.length+4) 0 (List.replicate ((nth J.O bP).ai.length:Int).toNat false).length),(37,ag ((nth J.O bP).ai.length:Int)),(36,bL c_ (nth J.O bP).ai),(35,aA 5 0),(34,aj 2 a2 ws2.length),(33,aA 3 3),(5,aA 5 0),(2,aA 2 0),(3,aA 3 0),(27,bL (dw false) J.O),(28,ag (J.O.length:Int)),(29,ag bP)] [(5,(dw false (nth J.O bP))),(3,[an true,aj 0 0 (List.replicate J.ai.toNat false).length,aj 1 aR aH.length,aj 2 a2 ws2.length]),(2,[an false,aF,aF,aF])] (⟨0,1,List.map aY (List.replicate J.ai.toNat false)⟩::⟨aR,2,List.map a7 aH⟩::⟨a2,5,a1 4 ws2 aQ⟩::⟨(bS+1),5,[[ag 0,ag 0,aj (aZ.length+4) 0 (List.replicate ((nth J.O bP).ai.length:Int).toNat false).length,an false,ag 0]]⟩::List.map bo (aZ++[(List.replicate ((nth J.O bP).ai.length:Int).toNat false)]))) (tg (ψ:=((true=true∧true=true∧((aA 3 3:AV)=aA 3 3))∧((true=true∧true=true∧((aj 2 a2 ws2.length:AV)=aj 2 a2 ws2.length))∧True))) (by kernel_rfl) ⟨⟨rfl,rfl,rfl⟩,⟨⟨rfl,rfl,rfl⟩,trivial⟩⟩) ?_
    have ic:=h
    refine SG 1 (some 41) [] 4 2 a2 (bS+1) 56 ws2 aQ (ad.mk 0 0 (List.replicate ((nth J.O bP).ai.length:Int).toNat false) false 0) aZ.length (fun _=>True) (fun r=>(⟨0,1,List.map aY (List.replicate J.ai.toNat false)⟩::⟨aR,2,List.map a7 aH⟩::⟨(a2+1),5,r⟩::⟨(bS+1),5,[[ag 0,ag 0,aj (aZ.length+4) 0 (List.replicate ((nth J.O bP).ai.length:Int).toNat false).length,an false,ag 0]]⟩::List.map bo (aZ++[(List.replicate ((nth J.O bP).ai.length:Int).toNat false)]))) ic.1 ic.2 trivial ?_
    refine z4 2 [(42,aA 3 3)] [(5,(dw false (nth J.O bP))),(3,[an true,aj 0 0 (List.replicate J.ai.toNat false).length,aj 1 aR aH.length,aj 2 (a2+1) (ws2++[(ad.mk 0 0 (List.replicate ((nth J.O bP).ai.length:Int).toNat false) false 0)]).length]),(2,[an false,aF,aF,aF])] (⟨0,1,List.map aY (List.replicate J.ai.toNat false)⟩::⟨aR,2,List.map a7 aH⟩::⟨(a2+1),5,a1 4 (ws2++[(ad.mk 0 0 (List.replicate ((nth J.O bP).ai.length:Int).toNat false) false 0)]) (aQ++[aZ.length])⟩::⟨(bS+1),5,[[ag 0,ag 0,aj (aZ.length+4) 0 (List.replicate ((nth J.O bP).ai.length:Int).toNat false).length,an false,ag 0]]⟩::List.map bo (aZ++[(List.replicate ((nth J.O bP).ai.length:Int).toNat false)])) (φ:=True) trivial ?_
    refine xO [] ?_
    refine cm.normal ?_
    exact ci.normal trivial ed
   unfold H5 at h
   refine bM [1000003] 12 ?_
   refine dY [(29,ag (IntKind.i64.wrap (bP+1))),(43,ag (IntKind.i64.wrap (bP+1)))] ?_
   exact d_.again ((aZ++[(List.replicate ((nth J.O bP).ai.length:Int).toNat false)]),(a2+1),(bS+1),(aQ++[aZ.length]),(IntKind.i64.wrap (bP+1)),(ws2++[(ad.mk 0 0 (List.replicate ((nth J.O bP).ai.length:Int).toNat false) false 0)])) h ((Weak.clear 3 rfl:Weak ⟨(bi 45 [(29,ag (IntKind.i64.wrap (bP+1))),(43,ag (IntKind.i64.wrap (bP+1))),(2,aA 2 0),(3,aA 3 0),(27,bL (dw false) J.O),(28,ag (J.O.length:Int))]),[(5,(dw false (nth J.O bP))),(3,[an true,aj 0 0 (List.replicate J.ai.toNat false).length,aj 1 aR aH.length,aj 2 (a2+1) (ws2++[(ad.mk 0 0 (List.replicate ((nth J.O bP).ai.length:Int).toNat false) false 0)]).length]),(2,[an false,aF,aF,aF])],(⟨0,1,List.map aY (List.replicate J.ai.toNat false)⟩::⟨aR,2,List.map a7 aH⟩::⟨(a2+1),5,a1 4 (ws2++[(ad.mk 0 0 (List.replicate ((nth J.O bP).ai.length:Int).toNat false) false 0)]) (aQ++[aZ.length])⟩::⟨(bS+1),5,[[ag 0,ag 0,aj (aZ.length+4) 0 (List.replicate ((nth J.O bP).ai.length:Int).toNat false).length,an false,ag 0]]⟩::List.map bo (aZ++[(List.replicate ((nth J.O bP).ai.length:Int).toNat false)]))⟩ ⟨(bi 45 [(29,ag (IntKind.i64.wrap (bP+1))),(43,ag (IntKind.i64.wrap (bP+1))),(2,aA 2 0),(3,aA 3 0),(27,bL (dw false) J.O),(28,ag (J.O.length:Int))]),[(5,(dw false (nth J.O bP))),(3,[an true,aj 0 0 (List.replicate J.ai.toNat false).length,aj 1 aR aH.length,aj 2 (a2+1) (ws2++[(ad.mk 0 0 (List.replicate ((nth J.O bP).ai.length:Int).toNat false) false 0)]).length]),(2,[an false,aF,aF,aF])],(⟨0,1,List.map aY (List.replicate J.ai.toNat false)⟩::⟨aR,2,List.map a7 aH⟩::⟨(a2+1),5,a1 4 (ws2++[(ad.mk 0 0 (List.replicate ((nth J.O bP).ai.length:Int).toNat false) false 0)]) (aQ++[aZ.length])⟩::⟨(bS+1),5,[]⟩::List.map bo (aZ++[(List.replicate ((nth J.O bP).ai.length:Int).toNat false)]))⟩).trans (dC [5]))
 replace h:=h iw
 obtain⟨jC,h⟩:=h
 refine fa [] [5] (fun L=>hV 0 2 (aj 1 (aR+1) (aH++[(a8.mk 1 1)]).length) L) (fun H=>en 1 ⟨(aR+1),2,List.map a7 (aH++[(a8.mk 1 1)])⟩ H) (True) ?_ (fun nP=> ?_)
 ·
  replace h:=jC
  refine fs 1 ?_
  refine bM [1000003] 6 ?_
  have nf:=h
  refine P3 5 (some 23) [(22,.bC (List.map a7 [(a8.mk 1 1)]) true true),(21,.agg [ag 1,ag 1]),(20,aj 1 aR aH.length),(19,aA 3 2)] a7 aH [(a8.mk 1 1)] (lJ true (List.map a7 [(a8.mk 1 1)])) 1 aR 2 16 (fun r=>[⟨0,1,List.map aY (List.replicate J.ai.toNat false)⟩,⟨(aR+1),2,r⟩]) rfl nf ?_
  refine CP [(24,aA 3 2)] [(3,[an true,aj 0 0 (List.replicate J.ai.toNat false).length,aj 1 (aR+1) (aH++[(a8.mk 1 1)]).length,aF]),(2,[an false,aF,aF,aF]),(1,(bg false J))] [⟨0,1,List.map aY (List.replicate J.ai.toNat false)⟩,⟨(aR+1),2,List.map a7 (aH++[(a8.mk 1 1)])⟩] ?_
  refine cm.normal ?_
  exact ci.normal trivial ed
 refine bM [1000003] 7 ?_
 refine dY [(17,ag (IntKind.i64.wrap (eW+1))),(25,ag (IntKind.i64.wrap (eW+1)))] ?_
 exact d_.again ((aR+1),(aH++[(a8.mk 1 1)]),(IntKind.i64.wrap (eW+1))) h (dC [])
theorem acZ (J:az):b2 Try.prog 32 [.agg (bg false J)] (.agg (bZ true (ei J))):=ac3 J (ei J) (fun _ x v=>ct J.a5.length (fun _=>false) v∧x=List.replicate v.toNat (a8.mk 1 1)) (fun _ _ v=>cG J.a5.length v) (fun _ x _ bs _ _ is v ws=>x=List.replicate J.a5.length (a8.mk 1 1)∧ct J.O.length (fun _=>false) v∧ws=(J.O.take v.toNat).map (fun w=>g8 w.ai.length)∧is=List.range ws.length∧bs=ws.map ad.ac) (fun _ _ _ _ _ _ _ v _=>cG J.O.length v) (by
 unfold H4 H9
 refine⟨fun h=> ?_,fun h=> ?_⟩
 ·have h:dT J=false:=by simpa using h
  unfold ei;rw[if_neg (by rw[h];simp)];exact⟨rfl,rfl,rfl,rfl⟩
 have h:dT J=true:=by simpa using h
 have cF:=sh h
 have h1:=cF.c2
 have h2:=cF.sw
 have aO:=cF.O
 have e:ei J=⟨true,List.replicate J.ai.toNat false,List.replicate J.a5.length ⟨1,1⟩,J.O.map fun w=>g8 w.ai.length⟩:=by unfold ei;rw[if_pos h]
 rw[e]
 refine⟨⟨by omega,by omega,by omega⟩,fun aG=>⟨⟨df (dp _),rfl⟩,fun g x v a0=> ?_⟩⟩
 obtain⟨a0,rfl⟩:=a0
 have wT:=a0.2.1
 unfold H8
 refine⟨fun hv hm=>⟨⟨?_,df (dp _),rfl,rfl,rfl⟩,fun bs a2 bS is k ws de=> ?_⟩,fun hv=>⟨⟨?_,?_⟩,⟨(cO (cw aG) a0 hv rfl).1,?_⟩,(cO (cw aG) a0 hv rfl).2⟩⟩
 ·have: ¬v<(J.a5.length:Int):=by simpa using hv
  rw[show v.toNat=J.a5.length by omega]
 ·obtain⟨hx,de,rfl,rfl,rfl⟩:=de
  have qE:=de.2.1
  have rX:=de.1
  have aL:((J.O.take k.toNat).map fun w=>g8 w.ai.length).length=k.toNat:=by rw[List.length_map,List.length_take];omega
  obtain⟨fv,fZ,fE⟩:=we ((J.O.take k.toNat).map fun w=>g8 w.ai.length)
  have Mk:(decide (k<(J.O.length:Int)))=true→1*((nth J.O k).ai.length:Int)≤140737488355328:=fun hk=>by
   have:=(cF.ai _ (dz (cb de hk).2)).2.1;omega
  unfold H7 H6 H5
  refine⟨fun hk=>⟨rfl,⟨by rw[List.length_replicate];omega,rfl⟩,⟨by rw[List.length_replicate];omega,hx⟩,fv,by omega,fun b hb=> ?_,?_⟩,fun hk=>⟨⟨⟨rX,(cb de hk).2⟩,⟨by omega,Mk hk,by have:=Mk hk;omega⟩,by rw[List.length_range],by omega,by omega⟩,⟨hx,(cO (cw hm) de hk rfl).1,?_,?_,?_⟩,(cO (cw hm) de hk rfl).2⟩⟩
  ·obtain⟨y,bm,rfl⟩:=List.mem_map.1 hb
   obtain⟨w,hw,rfl⟩:=List.mem_map.1 bm
   have:=(cF.ai w (List.mem_of_mem_take hw)).2.1
   simp[g8];omega
  ·rw[fE]
   have: ¬k<(J.O.length:Int):=by simpa using hk
   rw[List.take_of_length_le (by omega)]
  ·have b9:=cb de hk
   rw[iU (cw hm) rX (by simpa using hk),show(k+1).toNat=k.toNat+1 by omega,List.take_succ_eq_append_getElem b9.2,←gk b9.2,List.map_append];rfl
  ·rw[List.length_append,List.length_singleton,List.range_succ,List.length_map]
   simp
  ·rw[List.map_append];rfl
 ·rw[List.length_replicate,List.length_singleton];omega
 ·rw[List.length_replicate,List.length_singleton];omega
 ·rw[iU (cw aG) a0.1 (by simpa using hv),show(v+1).toNat=v.toNat+1 by have:=a0.1;omega,List.replicate_succ'])
def ac0:eC Try.prog:=⟨32,[.dt],[.frame],none,fun x=>((ei x.1),()),fun x h=>acZ x.1⟩
noncomputable def adW:Code:=iE Try.f136
def adX:List Item:=[ao 0,ao 1,ao 2,ao 3,ao 4,ao 5,ao 6,ao 7,ao 8,ao 9,⟨10,true,false,[]⟩]
def adY:List (List Nat):=[[],[0],[0,1],[0,1,2],[],[4],[],[6],rg 0 8,rg 0 9,rg 0 10]
abbrev rr (r:Type):Type:=(List a8)→Int→(List a8)→Int→r
def IP (aU:rr Prop) (aV:rr Nat) (J:az) (U:Int) (bz:(List a8)) (cT bP:Int) (eY:(List a8)):Prop:=
  aU bz bP (eY.set (nth (nth [(nth J.O U).aX,(nth J.O U).bx] bP) cT).sw.toNat (a8.mk (nth (nth [(nth J.O U).aX,(nth J.O U).bx] bP) cT).bj (nth eY (nth (nth [(nth J.O U).aX,(nth J.O U).bx] bP) cT).sw).aX)) (IntKind.i64.wrap (cT+1))∧aV bz bP (eY.set (nth (nth [(nth J.O U).aX,(nth J.O U).bx] bP) cT).sw.toNat (a8.mk (nth (nth [(nth J.O U).aX,(nth J.O U).bx] bP) cT).bj (nth eY (nth (nth [(nth J.O U).aX,(nth J.O U).bx] bP) cT).sw).aX)) (IntKind.i64.wrap (cT+1))<aV bz bP eY cT
def IQ (ay:(List a8)→Int→Prop) (aB:(List a8)→Int→Nat) (aU:rr Prop) (aV:rr Nat) (J:az) (U:Int) (bz:(List a8)) (cT bP:Int) (eY:(List a8)):Prop:=
  ((decide (cT<((nth [(nth J.O U).aX,(nth J.O U).bx] bP).length:Int)))=false→ay eY (IntKind.i64.wrap (bP+1))∧aB eY (IntKind.i64.wrap (bP+1))<aB bz bP)∧((decide (cT<((nth [(nth J.O U).aX,(nth J.O U).bx] bP).length:Int)))=true→((0≤cT∧cT.toNat<(nth [(nth J.O U).aX,(nth J.O U).bx] bP).length)∧(0≤(nth (nth [(nth J.O U).aX,(nth J.O U).bx] bP) cT).sw∧(nth (nth [(nth J.O U).aX,(nth J.O U).bx] bP) cT).sw.toNat<eY.length))∧(IP aU aV J U bz cT bP eY))
def IR (ay:(List a8)→Int→Prop) (aB:(List a8)→Int→Nat) (aU:rr Prop) (aV:rr Nat) (J:az) (U:Int) (hk:Bool) (aC:List Bool) (ak:List a8) (hw:List ad) (hi:List Nat) (hb:List (List Bool)) (bz:(List a8)) (bP:Int):Prop:=
  ((decide (bP<([(nth J.O U).aX,(nth J.O U).bx].length:Int)))=false→B2 J U hk aC ak hw hi hb aC bz (hw.set U.toNat (ad.mk 1 (nth hw U).af (nth hw U).ac (nth hw U).ar (nth hw U).au)) hi hb)∧((decide (bP<([(nth J.O U).aX,(nth J.O U).bx].length:Int)))=true→(0≤bP∧bP.toNat<[(nth J.O U).aX,(nth J.O U).bx].length)∧((nth [(nth J.O U).aX,(nth J.O U).bx] bP).length≤4611686018427387904→aU bz bP bz 0∧ ∀(eY:(List a8)) (cT:Int),aU bz bP eY cT→(IQ ay aB aU aV J U bz cT bP eY)))
def IN (J:az) (U:Int) (hg:Nat) (hk:Bool) (aC:List Bool) (ak:List a8) (hw:List ad) (hi:List Nat) (hb:List (List Bool)) (ay:(List a8)→Int→Prop) (aB:(List a8)→Int→Nat) (aU:rr Prop) (aV:rr Nat):Prop:=
 (0≤U∧U.toNat<J.O.length)∧(((0≤U∧U.toNat<hw.length)∧(hw.length=hi.length∧U.toNat<hw.length))∧([(nth J.O U).aX,(nth J.O U).bx].length≤4611686018427387904→ay ak 0∧ ∀(bz:(List a8)) (bP:Int),ay bz bP→(IR ay aB aU aV J U hk aC ak hw hi hb bz bP)))
theorem adZ (J:az) (U:Int) (hg:Nat) (hk:Bool) (aC:List Bool) (ak:List a8) (hw:List ad) (hi:List Nat) (hb:List (List Bool)) (ay:(List a8)→Int→Prop) (aB:(List a8)→Int→Nat) (aU:rr Prop) (aV:rr Nat) (h:IN J U hg hk aC ak hw hi hb ay aB aU aV):dH Try.prog 136 [.agg (bg false J),.ptr 0 hg 0 0,ag U] (⟨hg,4,[[an hk,aj 1 0 aC.length,aj 2 0 ak.length,aj 3 0 hw.length]]⟩::⟨0,1,List.map aY aC⟩::⟨0,2,List.map a7 ak⟩::⟨0,5,a1 4 hw hi⟩::List.map bo hb) (fun r H'=> ∃(uz:List a8) (e4:List ad),r= .tup []∧H'=(⟨hg,4,[[an hk,aj 1 0 aC.length,aj 2 0 uz.length,aj 3 0 e4.length]]⟩::⟨0,1,List.map aY aC⟩::⟨0,2,List.map a7 uz⟩::⟨0,5,a1 4 e4 hi⟩::List.map bo hb)∧B2 J U hk aC ak hw hi hb aC uz e4 hi hb):=by
 unfold IN at h
 refine dH.go (fn:=Try.f136) [(0,.agg (bg false J)),(1,.ptr 0 hg 0 0),(2,ag U)] Try.func136 (fun _ _=> ?_)
 show WpS _ (bT adW 1) _ ⟨bi 51 [(0,.agg (bg false J)),(1,.ptr 0 hg 0 0),(2,ag U)],[],(⟨hg,4,[[an hk,aj 1 0 aC.length,aj 2 0 ak.length,aj 3 0 hw.length]]⟩::⟨0,1,List.map aY aC⟩::⟨0,2,List.map a7 ak⟩::⟨0,5,a1 4 hw hi⟩::List.map bo hb)⟩
 refine sI [] 0 [(3,aA 3 0)] [1] [0,1,2] (fun L=>(3,(bg false J))::L) id ?_
 obtain⟨nP,h⟩:=h
 refine fa [(6,aA 6 0)] [0,1,2] (fun L=>(6,(dw false (nth J.O U)))::L) id (True) ?_ (fun q2=> ?_)
 ·
  replace h:=nP
  refine bM [] 1 ?_
  have q3:=h
  refine li 4 (some 14) [(13,ag U),(12,bL (dw false) J.O),(11,aA 3 2)] (dw false) J.O 5 q3 ?_
  exact b6 [(6,aA 6 0),(15,.agg (dw false (nth J.O U)))] trivial
 obtain⟨mC,h⟩:=h
 refine fa [] [2] id (fun H=>en 3 ⟨0,5,a1 4 (hw.set U.toNat (ad.mk 1 (nth hw U).af (nth hw U).ac (nth hw U).ar (nth hw U).au)) hi⟩ H) (True) ?_ (fun q4=> ?_)
 ·
  replace h:=mC
  refine bM [] 2 ?_
  refine nS 4 (some 19) (aj 3 0 hw.length) [(18,.ptr 0 hg 0 3),(17,.ptr 0 hg 0 0),(16,.ptr 0 hg 0 0)] (φ:=hg=hg) rfl ?_
  obtain⟨afQ,h⟩:=h
  refine lK 2 (some 21) [(20,ag U)] 3 0 5 afQ ?_
  have cR:=h
  refine kf 2 none [(22,.ptr 3 0 (0+U.toNat) 0)] (a1 4 hw hi) U 0 1 0 [ag 1] 3 (a1 4 (hw.set U.toNat (ad.mk 1 (nth hw U).af (nth hw U).ac (nth hw U).ar (nth hw U).au)) hi) (dO cR.1 cR.2) (kq cR.1 cR.2) ?_
  exact b6 [] trivial
 refine cB [(27,.bC (List.map (ja dn false) [(nth J.O U).aX,(nth J.O U).bx]) true false),(28,ag ([(nth J.O U).aX,(nth J.O U).bx].length:Int)),(29,ag 0)] [0,1,1] ([(nth J.O U).aX,(nth J.O U).bx].length≤4611686018427387904) ?_ (fun c6=> ?_)
 ·
  refine bM [] 3 ?_
  refine sLen 6 (some 28) [(27,.bC (List.map (ja dn false) [(nth J.O U).aX,(nth J.O U).bx]) true false),(26,bL dn (nth J.O U).bx),(25,aA 6 2),(24,bL dn (nth J.O U).aX),(23,aA 6 1)] (ja dn false) [(nth J.O U).aX,(nth J.O U).bx] (fun fP=> ?_)
  exact b6 [(29,ag 0)] fP
 replace h:=h c6
 refine fs 0 ?_
 obtain⟨kC,h⟩:=h
 refine km (fun(v:(List a8)×Int)=>(⟨(bi 51 [(1,.ptr 0 hg 0 0),(27,.bC (List.map (ja dn false) [(nth J.O U).aX,(nth J.O U).bx]) true false),(28,ag ([(nth J.O U).aX,(nth J.O U).bx].length:Int)),(29,ag (v.2))]),[],(⟨hg,4,[[an hk,aj 1 0 aC.length,aj 2 0 (v.1).length,aj 3 0 hw.length]]⟩::⟨0,1,List.map aY aC⟩::⟨0,2,List.map a7 (v.1)⟩::⟨0,5,a1 4 (hw.set U.toNat (ad.mk 1 (nth hw U).af (nth hw U).ac (nth hw U).ar (nth hw U).au)) hi⟩::List.map bo hb)⟩:St)) (fun(v:(List a8)×Int)=>ay (v.1) (v.2)) (fun(v:(List a8)×Int)=>aB (v.1) (v.2)) (ak,0) (dC [6,3]) kC (fun v a0=> ?_)
 obtain⟨bz,bP⟩:=v
 replace h:=h bz bP a0
 dsimp only
 refine ej [] 4 [(30,an (decide (bP<([(nth J.O U).aX,(nth J.O U).bx].length:Int))))] [1] [4] ?_
 unfold IR at h
 obtain⟨ie,h⟩:=h
 refine cB [] [0,1,4] ((decide (bP<([(nth J.O U).aX,(nth J.O U).bx].length:Int)))=true) ?_ (fun iJ=> ?_)
 ·
  replace h:=ie
  refine dI (fun gW=> ?_) (fun gW=> ?_)
  ·
   refine eo ?_
   exact ci.normal (by simp only[gW]<;>rfl) ed
  ·
   replace h:=h gW
   refine iZ 0 ?_
   refine ci.exit ?_
   refine d_.exit ?_
   refine cm.here ?_
   refine AW (t0) [] ?_
   exact⟨bz,(hw.set U.toNat (ad.mk 1 (nth hw U).af (nth hw U).ac (nth hw U).ar (nth hw U).au)),rfl,(by rw[show hw.length=(hw.set U.toNat (ad.mk 1 (nth hw U).af (nth hw U).ac (nth hw U).ar (nth hw U).au)).length by simp]<;>rfl),h⟩
 replace h:=h iJ
 refine hJ ?_
 refine fs 1 ?_
 obtain⟨iy,h⟩:=h
 refine cB [(8,bL dn (nth [(nth J.O U).aX,(nth J.O U).bx] bP))] [4] (True) ?_ (fun iw=> ?_)
 ·
  replace h:=iy
  refine bM [] 5 ?_
  have h6:=h
  refine li 1 (some 31) [] (ja dn false) [(nth J.O U).aX,(nth J.O U).bx] 1 h6 ?_
  exact b6 [(8,bL dn (nth [(nth J.O U).aX,(nth J.O U).bx] bP)),(32,bL dn (nth [(nth J.O U).aX,(nth J.O U).bx] bP))] trivial
 refine cB [(33,bL dn (nth [(nth J.O U).aX,(nth J.O U).bx] bP)),(34,ag ((nth [(nth J.O U).aX,(nth J.O U).bx] bP).length:Int)),(35,ag 0)] [0,1,4] ((nth [(nth J.O U).aX,(nth J.O U).bx] bP).length≤4611686018427387904) ?_ (fun fI=> ?_)
 ·
  refine bM [] 6 ?_
  refine sLen 2 (some 34) [(33,bL dn (nth [(nth J.O U).aX,(nth J.O U).bx] bP))] dn (nth [(nth J.O U).aX,(nth J.O U).bx] bP) (fun q5=> ?_)
  exact b6 [(35,ag 0)] q5
 replace h:=h fI
 refine fs 2 ?_
 obtain⟨g_,h⟩:=h
 refine km (fun(v:(List a8)×Int)=>(⟨(bi 51 [(1,.ptr 0 hg 0 0),(27,.bC (List.map (ja dn false) [(nth J.O U).aX,(nth J.O U).bx]) true false),(28,ag ([(nth J.O U).aX,(nth J.O U).bx].length:Int)),(29,ag bP),(33,bL dn (nth [(nth J.O U).aX,(nth J.O U).bx] bP)),(34,ag ((nth [(nth J.O U).aX,(nth J.O U).bx] bP).length:Int)),(35,ag (v.2))]),[],(⟨hg,4,[[an hk,aj 1 0 aC.length,aj 2 0 (v.1).length,aj 3 0 hw.length]]⟩::⟨0,1,List.map aY aC⟩::⟨0,2,List.map a7 (v.1)⟩::⟨0,5,a1 4 (hw.set U.toNat (ad.mk 1 (nth hw U).af (nth hw U).ac (nth hw U).ar (nth hw U).au)) hi⟩::List.map bo hb)⟩:St)) (fun(v:(List a8)×Int)=>aU bz bP (v.1) (v.2)) (fun(v:(List a8)×Int)=>aV bz bP (v.1) (v.2)) (bz,0) (dC []) g_ (fun v a0=> ?_)
 obtain⟨eY,cT⟩:=v
 replace h:=h eY cT a0
 dsimp only
 refine ej [] 7 [(36,an (decide (cT<((nth [(nth J.O U).aX,(nth J.O U).bx] bP).length:Int))))] [1] [7] ?_
 unfold IQ at h
 obtain⟨ic,h⟩:=h
 refine cB [] [0,1,7] ((decide (cT<((nth [(nth J.O U).aX,(nth J.O U).bx] bP).length:Int)))=true) ?_ (fun ke=> ?_)
 ·
  replace h:=ic
  refine dI (fun hR=> ?_) (fun hR=> ?_)
  ·
   refine eo ?_
   exact ci.normal (by simp only[iJ,hR]<;>rfl) ed
  ·
   replace h:=h hR
   refine iZ 2 ?_
   refine ci.exit ?_
   refine d_.exit ?_
   refine cm.here ?_
   refine cm.normal ?_
   refine eb.normal ?_
   refine bM [] 11 ?_
   refine dY [(29,ag (IntKind.i64.wrap (bP+1))),(50,ag (IntKind.i64.wrap (bP+1)))] ?_
   exact d_.again (eY,(IntKind.i64.wrap (bP+1))) h (dC [])
 replace h:=h ke
 obtain⟨jW,h⟩:=h
 refine fa [] [7] (fun L=>(10,(dn (nth (nth [(nth J.O U).aX,(nth J.O U).bx] bP) cT)))::L) (fun H=>en 2 ⟨0,2,List.map a7 (eY.set (nth (nth [(nth J.O U).aX,(nth J.O U).bx] bP) cT).sw.toNat (a8.mk (nth (nth [(nth J.O U).aX,(nth J.O U).bx] bP) cT).bj (nth eY (nth (nth [(nth J.O U).aX,(nth J.O U).bx] bP) cT).sw).aX))⟩ H) (True) ?_ (fun mb=> ?_)
 ·
  replace h:=jW
  refine fs 3 ?_
  obtain⟨kB,h⟩:=h
  refine fa [(10,aA 10 0)] [7] (fun L=>(10,(dn (nth (nth [(nth J.O U).aX,(nth J.O U).bx] bP) cT)))::L) id (True) ?_ (fun hA=> ?_)
  ·
   replace h:=kB
   refine bM [] 8 ?_
   have ix:=h
   refine li 1 (some 37) [] dn (nth [(nth J.O U).aX,(nth J.O U).bx] bP) 2 ix ?_
   exact b6 [(10,aA 10 0),(38,.agg (dn (nth (nth [(nth J.O U).aX,(nth J.O U).bx] bP) cT)))] trivial
  refine nl [] 9 adX adY [] ?_
  refine C4 4 (some 42) (aj 2 0 eY.length) [(41,.ptr 0 hg 0 2),(40,.ptr 0 hg 0 0),(39,.ptr 0 hg 0 0)] (φ:=hg=hg) rfl ?_
  have Tf:=h
  refine vq 5 (some 47) [(46,ag (nth (nth [(nth J.O U).aX,(nth J.O U).bx] bP) cT).bj),(45,aA 10 1),(44,ag (nth (nth [(nth J.O U).aX,(nth J.O U).bx] bP) cT).sw),(43,aA 10 0)] 2 0 2 Tf ?_
  refine afe 2 none [(48,.ptr 2 0 (0+(nth (nth [(nth J.O U).aX,(nth J.O U).bx] bP) cT).sw.toNat) 0)] a7 eY (nth (nth [(nth J.O U).aX,(nth J.O U).bx] bP) cT).sw 0 1 0 [ag (nth (nth [(nth J.O U).aX,(nth J.O U).bx] bP) cT).bj] (fun _=>True) (fun r=>(⟨hg,4,[[an hk,aj 1 0 aC.length,aj 2 0 eY.length,aj 3 0 hw.length]]⟩::⟨0,1,List.map aY aC⟩::⟨0,2,r⟩::⟨0,5,a1 4 (hw.set U.toNat (ad.mk 1 (nth hw U).af (nth hw U).ac (nth hw U).ar (nth hw U).au)) hi⟩::List.map bo hb)) (a8.mk (nth (nth [(nth J.O U).aX,(nth J.O U).bx] bP) cT).bj (nth eY (nth (nth [(nth J.O U).aX,(nth J.O U).bx] bP) cT).sw).aX) (by simpa using Tf.2) trivial ?_
  refine xO [] ?_
  refine cm.normal ?_
  exact ci.normal trivial ed
 unfold IP at h
 refine bM [] 10 ?_
 refine dY [(35,ag (IntKind.i64.wrap (cT+1))),(49,ag (IntKind.i64.wrap (cT+1)))] ?_
 exact d_.again ((eY.set (nth (nth [(nth J.O U).aX,(nth J.O U).bx] bP) cT).sw.toNat (a8.mk (nth (nth [(nth J.O U).aX,(nth J.O U).bx] bP) cT).bj (nth eY (nth (nth [(nth J.O U).aX,(nth J.O U).bx] bP) cT).sw).aX)),(IntKind.i64.wrap (cT+1))) h (hq (s':=⟨(bi 51 [(1,.ptr 0 hg 0 0),(27,.bC (List.map (ja dn false) [(nth J.O U).aX,(nth J.O U).bx]) true false),(28,ag ([(nth J.O U).aX,(nth J.O U).bx].length:Int)),(29,ag bP),(33,bL dn (nth [(nth J.O U).aX,(nth J.O U).bx] bP)),(34,ag ((nth [(nth J.O U).aX,(nth J.O U).bx] bP).length:Int)),(35,ag (IntKind.i64.wrap (cT+1)))]),[],(⟨hg,4,[[an hk,aj 1 0 aC.length,aj 2 0 eY.length,aj 3 0 hw.length]]⟩::⟨0,1,List.map aY aC⟩::⟨0,2,List.map a7 (eY.set (nth (nth [(nth J.O U).aX,(nth J.O U).bx] bP) cT).sw.toNat (a8.mk (nth (nth [(nth J.O U).aX,(nth J.O U).bx] bP) cT).bj (nth eY (nth (nth [(nth J.O U).aX,(nth J.O U).bx] bP) cT).sw).aX))⟩::⟨0,5,a1 4 (hw.set U.toNat (ad.mk 1 (nth hw U).af (nth hw U).ac (nth hw U).ar (nth hw U).au)) hi⟩::List.map bo hb)⟩) (dC (n:=51) (A':=[(1,.ptr 0 hg 0 0),(27,.bC (List.map (ja dn false) [(nth J.O U).aX,(nth J.O U).bx]) true false),(28,ag ([(nth J.O U).aX,(nth J.O U).bx].length:Int)),(29,ag bP),(33,bL dn (nth [(nth J.O U).aX,(nth J.O U).bx] bP)),(34,ag ((nth [(nth J.O U).aX,(nth J.O U).bx] bP).length:Int)),(35,ag (IntKind.i64.wrap (cT+1)))]) (L':=[]) [10]) (congrArg (fun z=>(⟨(bi 51 [(1,.ptr 0 hg 0 0),(27,.bC (List.map (ja dn false) [(nth J.O U).aX,(nth J.O U).bx]) true false),(28,ag ([(nth J.O U).aX,(nth J.O U).bx].length:Int)),(29,ag bP),(33,bL dn (nth [(nth J.O U).aX,(nth J.O U).bx] bP)),(34,ag ((nth [(nth J.O U).aX,(nth J.O U).bx] bP).length:Int)),(35,ag (IntKind.i64.wrap (cT+1)))]),[],(⟨hg,4,[[an hk,aj 1 0 aC.length,aj 2 0 z,aj 3 0 hw.length]]⟩::⟨0,1,List.map aY aC⟩::⟨0,2,List.map a7 (eY.set (nth (nth [(nth J.O U).aX,(nth J.O U).bx] bP) cT).sw.toNat (a8.mk (nth (nth [(nth J.O U).aX,(nth J.O U).bx] bP) cT).bj (nth eY (nth (nth [(nth J.O U).aX,(nth J.O U).bx] bP) cT).sw).aX))⟩::⟨0,5,a1 4 (hw.set U.toNat (ad.mk 1 (nth hw U).af (nth hw U).ac (nth hw U).ar (nth hw U).au)) hi⟩::List.map bo hb)⟩:St)) (show eY.length=(eY.set (nth (nth [(nth J.O U).aX,(nth J.O U).bx] bP) cT).sw.toNat (a8.mk (nth (nth [(nth J.O U).aX,(nth J.O U).bx] bP) cT).bj (nth eY (nth (nth [(nth J.O U).aX,(nth J.O U).bx] bP) cT).sw).aX)).length by simp)))
theorem adV (J:az) (U:Int) (hg:Nat) (hk:Bool) (aC:List Bool) (ak:List a8) (hw:List ad) (hi:List Nat) (hb:List (List Bool)) (aI:NZ J U hk aC ak hw hi hb):dH Try.prog 136 [.agg (bg false J),.ptr 0 hg 0 0,ag U] (⟨hg,4,[[an hk,aj 1 0 aC.length,aj 2 0 ak.length,aj 3 0 hw.length]]⟩::⟨0,1,List.map aY aC⟩::⟨0,2,List.map a7 ak⟩::⟨0,5,a1 4 hw hi⟩::List.map bo hb) (fun r H'=> ∃(uz:List a8) (e4:List ad),r= .tup []∧H'=(⟨hg,4,[[an hk,aj 1 0 aC.length,aj 2 0 uz.length,aj 3 0 e4.length]]⟩::⟨0,1,List.map aY aC⟩::⟨0,2,List.map a7 uz⟩::⟨0,5,a1 4 e4 hi⟩::List.map bo hb)∧B2 J U hk aC ak hw hi hb aC uz e4 hi hb):=adZ J U hg hk aC ak hw hi hb (fun x v=>ct ((k0 (nth J.O U)).length:Int) (fun _=>false) v∧x=h7 ((k0 (nth J.O U)).take v.toNat).flatten ak) (fun _ v=>cG ((k0 (nth J.O U)).length:Int) v) (fun x v y k=>ct ((nth (k0 (nth J.O U)) v).length:Int) (fun _=>false) k∧y=h7 ((nth (k0 (nth J.O U)) v).take k.toNat) x) (fun _ v _ k=>cG ((nth (k0 (nth J.O U)) v).length:Int) k) (by
 unfold IN
 obtain⟨G,cF,t0,t1,t2,Mh⟩:=aI
 have bf:U.toNat<hw.length:=by omega
 have io:U.toNat<J.O.length:=by omega
 have b1:=cF.aX _ (dz io)
 have wP:=cF.sw
 have dy:=G.oO bf
 have eE:=dy.setState 1
 refine⟨⟨t0,io⟩,⟨⟨t0,bf⟩,dy.fo⟩,fun aG=>⟨⟨df (dp _),rfl⟩,fun x v a0=> ?_⟩⟩
 obtain⟨a0,rfl⟩:=a0
 unfold IR
 refine⟨fun hv=> ?_,fun hv=>⟨cb a0 hv,fun hm=>⟨⟨df (dp _),rfl⟩,fun y k de=> ?_⟩⟩⟩
 ·have kx: ¬v<((k0 (nth J.O U)).length:Int):=by simpa[k0] using hv
  have h1:=a0.2.1
  refine⟨?_,eE.G,eE.gZ⟩
  rw[List.take_of_length_le (by omega),SL]
 ·obtain⟨de,rfl⟩:=de
  have b9:=cb a0 hv
  unfold IQ IP
  refine⟨fun hk=>⟨⟨(cO (cw aG) a0 hv rfl).1,?_⟩,(cO (cw aG) a0 hv rfl).2⟩,fun hk=>⟨⟨cb de hk,?_⟩,⟨(cO (cw hm) de hk rfl).1,?_⟩,(cO (cw hm) de hk rfl).2⟩⟩
  ·have jP: ¬k<((nth (k0 (nth J.O U)) v).length:Int):=of_decide_eq_false hk
   have h1:=de.2.1
   rw[iU (cw aG) b9.1 (by simpa using hv),show(v+1).toNat=v.toNat+1 by omega,afg b9.2,List.take_of_length_le (by omega),gk b9.2]
  ·have hx:=b1.2.2 _ (afh b9.2 (dz (cb de hk).2))
   have e:(h7 (List.take k.toNat (nth (k0 (nth J.O U)) v)) (h7 (List.take v.toNat (k0 (nth J.O U))).flatten ak)).length=ak.length:=by rw[zT,zT]
   exact⟨hx.1,by rw[e];have:=hx.2;show(nth (nth (k0 (nth J.O U)) v) k).sw.toNat<_;omega⟩
  ·have qE:=cb de hk
   rw[iU (cw hm) de.1 (by simpa using hk),show(k+1).toNat=k.toNat+1 by omega,Qd qE.2,←gk qE.2]
   rfl)
noncomputable def adC:Code:=iE Try.f137
def Iw (J:az) (U:Int) (hk:Bool) (aC:List Bool) (ak:List a8) (hw:List ad) (hi:List Nat) (hb:List (List Bool)):Prop:=
  uN J U hk aC ak hw hi hb aC ak ((hw.set U.toNat (ad.mk 3 (nth hw U).af (nth hw U).ac (nth hw U).ar (nth hw U).au)).set U.toNat (ad.mk (nth (hw.set U.toNat (ad.mk 3 (nth hw U).af (nth hw U).ac (nth hw U).ar (nth hw U).au)) U).aq (nth (hw.set U.toNat (ad.mk 3 (nth hw U).af (nth hw U).ac (nth hw U).ar (nth hw U).au)) U).af (nth (hw.set U.toNat (ad.mk 3 (nth hw U).af (nth hw U).ac (nth hw U).ar (nth hw U).au)) U).ac (nth (hw.set U.toNat (ad.mk 3 (nth hw U).af (nth hw U).ac (nth hw U).ar (nth hw U).au)) U).ar J.dx)) hi hb 0
def Ix (J:az) (U:Int) (hk:Bool) (aC:List Bool) (ak:List a8) (hw:List ad) (hi:List Nat) (hb:List (List Bool)) (cT:Int):Prop:=
  ((nth aC (nth (nth J.O U).cK cT))&&(nth hw U).ar)=true→(hw.length=hi.length∧U.toNat<hw.length)∧(((hw.set U.toNat (ad.mk 3 (nth hw U).af (nth hw U).ac (nth hw U).ar (nth hw U).au)).length=hi.length∧U.toNat<(hw.set U.toNat (ad.mk 3 (nth hw U).af (nth hw U).ac (nth hw U).ar (nth hw U).au)).length)∧(Iw J U hk aC ak hw hi hb))
def Iy (ay:Int→Prop) (aB:Int→Nat) (J:az) (U:Int) (hk:Bool) (aC:List Bool) (ak:List a8) (hw:List ad) (hi:List Nat) (hb:List (List Bool)) (cT:Int):Prop:=
  ((0≤cT∧cT.toNat<(nth J.O U).cK.length)∧(((0≤(nth (nth J.O U).cK cT)∧(nth (nth J.O U).cK cT).toNat<aC.length)∧((nth aC (nth (nth J.O U).cK cT))=true→hw.length=hi.length∧U.toNat<hw.length))∧(Ix J U hk aC ak hw hi hb cT)))∧((!((nth aC (nth (nth J.O U).cK cT))&&(nth hw U).ar))=true→ay (IntKind.i64.wrap (cT+1))∧aB (IntKind.i64.wrap (cT+1))<aB cT)
def Iz (ay:Int→Prop) (aB:Int→Nat) (J:az) (U:Int) (hk:Bool) (aC:List Bool) (ak:List a8) (hw:List ad) (hi:List Nat) (hb:List (List Bool)):Prop:=
  ay 0∧ ∀(cT:Int),ay cT→(((decide (cT<((nth J.O U).cK.length:Int)))=false→(BT U hk aC ak hw hi hb)∧(∀(vv:List ad) (i18:List Nat) (vN:List (List Bool)),uJ U hk aC ak hw hi hb aC ak vv i18 vN→(uN J U hk aC ak hw hi hb aC ak vv i18 vN 0)))∧((decide (cT<((nth J.O U).cK.length:Int)))=true→Iy ay aB J U hk aC ak hw hi hb cT))
def IA (ay:Int→Prop) (aB:Int→Nat) (J:az) (U:Int) (hk:Bool) (aC:List Bool) (ak:List a8) (hw:List ad) (hi:List Nat) (hb:List (List Bool)):Prop:=
  (((hw.length=hi.length∧U.toNat<hw.length)∧(((nth hw U).aq !=1)=true→hw.length=hi.length∧U.toNat<hw.length))∧((((nth hw U).aq !=1)&&((nth hw U).aq !=2))=true→uN J U hk aC ak hw hi hb aC ak hw hi hb 2))∧((!(((nth hw U).aq !=1)&&((nth hw U).aq !=2)))=true→(0≤U∧U.toNat<J.O.length)∧((nth J.O U).cK.length≤4611686018427387904→Iz ay aB J U hk aC ak hw hi hb))
def Iv (J:az) (U:Int) (hg:Nat) (hk:Bool) (aC:List Bool) (ak:List a8) (hw:List ad) (hi:List Nat) (hb:List (List Bool)) (ay:Int→Prop) (aB:Int→Nat):Prop:=
 (0≤U∧U.toNat<hw.length)∧(IA ay aB J U hk aC ak hw hi hb)
theorem adD (J:az) (U:Int) (hg:Nat) (hk:Bool) (aC:List Bool) (ak:List a8) (hw:List ad) (hi:List Nat) (hb:List (List Bool)) (ay:Int→Prop) (aB:Int→Nat) (h:Iv J U hg hk aC ak hw hi hb ay aB):dH Try.prog 137 [.agg (bg false J),.ptr 0 hg 0 0,ag U] (⟨hg,4,[[an hk,aj 1 0 aC.length,aj 2 0 ak.length,aj 3 0 hw.length]]⟩::⟨0,1,List.map aY aC⟩::⟨0,2,List.map a7 ak⟩::⟨0,5,a1 4 hw hi⟩::List.map bo hb) (fun r H'=> ∃(e4:List ad) (gg:List Nat) (ek:List (List Bool)) (al:Int),r=ag al∧H'=(⟨hg,4,[[an hk,aj 1 0 aC.length,aj 2 0 ak.length,aj 3 0 e4.length]]⟩::⟨0,1,List.map aY aC⟩::⟨0,2,List.map a7 ak⟩::⟨0,5,a1 4 e4 gg⟩::List.map bo ek)∧uN J U hk aC ak hw hi hb aC ak e4 gg ek al):=by
 unfold Iv at h
 refine dH.go (fn:=Try.f137) [(0,.agg (bg false J)),(1,.ptr 0 hg 0 0),(2,ag U)] Try.func137 (fun _ _=> ?_)
 show WpS _ (bT adC 1) _ ⟨bi 63 [(0,.agg (bg false J)),(1,.ptr 0 hg 0 0),(2,ag U)],[],(⟨hg,4,[[an hk,aj 1 0 aC.length,aj 2 0 ak.length,aj 3 0 hw.length]]⟩::⟨0,1,List.map aY aC⟩::⟨0,2,List.map a7 ak⟩::⟨0,5,a1 4 hw hi⟩::List.map bo hb)⟩
 refine sI [] 0 [(6,ag 0),(3,aA 3 0)] [0,1,1] [0,1,2] (fun L=>(3,(bg false J))::L) id ?_
 obtain⟨me,h⟩:=h
 refine cB [(7,.ptr 3 0 (0+U.toNat) 0)] [3] (True) ?_ (fun q2=> ?_)
 ·
  replace h:=me
  refine bM [] 1 ?_
  refine nS 4 (some 13) (aj 3 0 hw.length) [(12,.ptr 0 hg 0 3),(11,.ptr 0 hg 0 0),(10,.ptr 0 hg 0 0)] (φ:=hg=hg) rfl ?_
  have afL:=h
  refine lK 2 (some 15) [(14,ag U)] 3 0 5 afL ?_
  exact b6 [(7,.ptr 3 0 (0+U.toNat) 0)] trivial
 unfold IA at h
 obtain⟨lg,h⟩:=h
 refine cB [] [4] ((!(((nth hw U).aq !=1)&&((nth hw U).aq !=2)))=true) ?_ (fun q3=> ?_)
 ·
  replace h:=lg
  obtain⟨gW,h⟩:=h
  refine cB [(27,an (((nth hw U).aq !=1)&&((nth hw U).aq !=2)))] [4] (True) ?_ (fun q4=> ?_)
  ·
   replace h:=gW
   refine bM [] 2 ?_
   obtain⟨fP,h⟩:=h
   refine iL 4 (some 19) [(18,.ptr 3 0 (0+U.toNat) 0),(17,.ptr 3 0 (0+U.toNat) 0),(16,.ptr 3 0 (0+U.toNat) 0)] (a1 4 hw hi) U 3 0 0 (ag (nth hw U).aq) (dO fP.1 fP.2) ?_
   refine nT 2 21 ((nth hw U).aq !=1) [(20,an ((nth hw U).aq !=1))] (fun cR=> ?_) (fun cR=> ?_)
   ·
    replace h:=h cR
    have c6:=h
    refine iL 4 (some 25) [(24,.ptr 3 0 (0+U.toNat) 0),(23,.ptr 3 0 (0+U.toNat) 0),(22,.ptr 3 0 (0+U.toNat) 0)] (a1 4 hw hi) U 3 0 0 (ag (nth hw U).aq) (dO c6.1 c6.2) ?_
    exact b6 [(27,an ((nth hw U).aq !=2)),(26,an ((nth hw U).aq !=2))] trivial (by simp only[cR]<;>kernel_rfl)
   ·
    exact b6 ([(27,an false)]++gx [26,25,24,23,22]) trivial (by simp only[cR]<;>kernel_rfl)
  refine dI (fun fD=> ?_) (fun fD=> ?_)
  ·
   replace h:=h fD
   refine ej [] 3 [(6,ag 2)] [1] [] ?_
   refine hr ?_
   refine ci.ret ?_
   refine mH (ag 2) [ag 2] ?_
   exact⟨hw,hi,hb,2,rfl,rfl,h⟩
  ·
   refine eo ?_
   exact ci.normal (by simp only[fD]<;>rfl) ed
 replace h:=h q3
 refine hJ ?_
 obtain⟨mc,h⟩:=h
 refine cB [(33,bL c_ (nth J.O U).cK),(34,ag ((nth J.O U).cK.length:Int)),(35,ag 0)] [3] ((nth J.O U).cK.length≤4611686018427387904) ?_ (fun iw=> ?_)
 ·
  replace h:=mc
  refine bM [] 4 ?_
  have fI:=h
  refine li 4 (some 31) [(30,ag U),(29,bL (dw false) J.O),(28,aA 3 2)] (dw false) J.O 5 fI ?_
  refine sLen 3 (some 34) [(33,bL c_ (nth J.O U).cK),(32,.dA (dw false (nth J.O U)) 4)] c_ (nth J.O U).cK (fun h6=> ?_)
  exact b6 [(35,ag 0)] h6
 replace h:=h iw
 unfold Iz at h
 refine fs 0 ?_
 obtain⟨nQ,h⟩:=h
 refine km (fun(v:Int)=>(⟨(bi 63 [(1,.ptr 0 hg 0 0),(3,aA 3 0),(7,.ptr 3 0 (0+U.toNat) 0),(33,bL c_ (nth J.O U).cK),(34,ag ((nth J.O U).cK.length:Int)),(35,ag v)]),[(3,(bg false J))],(⟨hg,4,[[an hk,aj 1 0 aC.length,aj 2 0 ak.length,aj 3 0 hw.length]]⟩::⟨0,1,List.map aY aC⟩::⟨0,2,List.map a7 ak⟩::⟨0,5,a1 4 hw hi⟩::List.map bo hb)⟩:St)) (fun(v:Int)=>ay v) (fun(v:Int)=>aB v) 0 (dC []) nQ (fun cT a0=> ?_)
 replace h:=h cT a0
 refine ej [] 5 [(36,an (decide (cT<((nth J.O U).cK.length:Int))))] [1] [6] ?_
 obtain⟨jE,h⟩:=h
 refine cB [] [0,1,6] ((decide (cT<((nth J.O U).cK.length:Int)))=true) ?_ (fun jj=> ?_)
 ·
  replace h:=jE
  refine dI (fun ke=> ?_) (fun ke=> ?_)
  ·
   refine eo ?_
   exact ci.normal (by simp only[q3,ke]<;>rfl) ed
  ·
   replace h:=h ke
   refine iZ 0 ?_
   refine ci.exit ?_
   refine d_.exit ?_
   refine cm.here ?_
   refine eb.normal ?_
   refine hJ ?_
   refine bM [] 12 ?_
   obtain⟨kB,h⟩:=h
   refine tu 2 (some 62) [(61,.ptr 3 0 (0+U.toNat) 0)] [.ptr 3 0 (0+U.toNat) 0] _ (IH U hg hk aC ak hw hi hb kB) (fun r H' ak=>by obtain⟨_,_,_,rfl,_⟩:=ak;rfl) ?_
   rintro r H' ⟨vv,i18,vN,rfl,rfl,jW⟩
   replace h:=h vv i18 vN jW
   refine dY [] ?_
   refine eb.normal ?_
   refine j4 ⟨(bi 63 [(6,ag 0)]),[(3,(bg false J))],(⟨hg,4,[[an hk,aj 1 0 aC.length,aj 2 0 ak.length,aj 3 0 vv.length]]⟩::⟨0,1,List.map aY aC⟩::⟨0,2,List.map a7 ak⟩::⟨0,5,a1 4 vv i18⟩::List.map bo vN)⟩ (True) ?_ (fun ix=> ?_)
   ·
    refine bM [] 13 ?_
    exact b6 [(6,ag 0)] trivial
   refine hr ?_
   refine mH (ag 0) [ag 0] ?_
   exact⟨vv,i18,vN,0,rfl,rfl,h⟩
 replace h:=h jj
 unfold Iy at h
 obtain⟨p1,h⟩:=h
 refine cB [] [6] ((!((nth aC (nth (nth J.O U).cK cT))&&(nth hw U).ar))=true) ?_ (fun ic=> ?_)
 ·
  replace h:=p1
  refine fs 1 ?_
  obtain⟨lH,h⟩:=h
  refine cB [(9,ag (nth (nth J.O U).cK cT))] [6] (True) ?_ (fun g_=> ?_)
  ·
   replace h:=lH
   refine bM [] 6 ?_
   have iy:=h
   refine li 1 (some 37) [] c_ (nth J.O U).cK 1 iy ?_
   exact b6 [(9,ag (nth (nth J.O U).cK cT)),(38,ag (nth (nth J.O U).cK cT))] trivial
  obtain⟨o8,h⟩:=h
  refine cB [(51,an ((nth aC (nth (nth J.O U).cK cT))&&(nth hw U).ar))] [0,1,6] (True) ?_ (fun ie=> ?_)
  ·
   replace h:=o8
   refine bM [] 7 ?_
   refine nS 4 (some 42) (aj 1 0 aC.length) [(41,.ptr 0 hg 0 1),(40,.ptr 0 hg 0 0),(39,.ptr 0 hg 0 0)] (φ:=hg=hg) rfl ?_
   obtain⟨Td,h⟩:=h
   refine lK 2 (some 44) [(43,ag (nth (nth J.O U).cK cT))] 1 0 1 Td ?_
   refine P5 1 (some 45) [] aY aC (nth (nth J.O U).cK cT) 4 0 0 (an (nth aC (nth (nth J.O U).cK cT))) (by simpa using Td.2) ?_
   refine nT 1 46 (nth aC (nth (nth J.O U).cK cT)) [] (fun kC=> ?_) (fun kC=> ?_)
   ·
    replace h:=h kC
    have mC:=h
    refine iL 4 (some 50) [(49,.ptr 3 0 (0+U.toNat) 3),(48,.ptr 3 0 (0+U.toNat) 0),(47,.ptr 3 0 (0+U.toNat) 0)] (a1 4 hw hi) U 4 3 0 (an (nth hw U).ar) (dO mC.1 mC.2) ?_
    exact b6 [(51,an (nth hw U).ar)] trivial (by simp only[q3,jj,kC]<;>kernel_rfl)
   ·
    exact b6 ([(51,an false)]++gx [50,49,48,47]) trivial (by simp only[q3,jj,kC]<;>kernel_rfl)
  unfold Ix at h
  refine dI (fun nP=> ?_) (fun nP=> ?_)
  ·
   replace h:=h nP
   obtain⟨ha,h⟩:=h
   refine fa [] [0,2,2] id (fun H=>en 3 ⟨0,5,a1 4 (hw.set U.toNat (ad.mk 3 (nth hw U).af (nth hw U).ac (nth hw U).ar (nth hw U).au)) hi⟩ H) (True) ?_ (fun nf=> ?_)
   ·
    replace h:=ha
    refine bM [] 8 ?_
    have jC:=h
    refine kf 4 none [(54,.ptr 3 0 (0+U.toNat) 0),(53,.ptr 3 0 (0+U.toNat) 0),(52,.ptr 3 0 (0+U.toNat) 0)] (a1 4 hw hi) U 0 1 0 [ag 3] 3 (a1 4 (hw.set U.toNat (ad.mk 3 (nth hw U).af (nth hw U).ac (nth hw U).ar (nth hw U).au)) hi) (dO jC.1 jC.2) (kq jC.1 jC.2) ?_
    exact b6 [] trivial
   obtain⟨lf,h⟩:=h
   refine fa [] [] id (fun H=>en 3 ⟨0,5,a1 4 ((hw.set U.toNat (ad.mk 3 (nth hw U).af (nth hw U).ac (nth hw U).ar (nth hw U).au)).set U.toNat (ad.mk (nth (hw.set U.toNat (ad.mk 3 (nth hw U).af (nth hw U).ac (nth hw U).ar (nth hw U).au)) U).aq (nth (hw.set U.toNat (ad.mk 3 (nth hw U).af (nth hw U).ac (nth hw U).ar (nth hw U).au)) U).af (nth (hw.set U.toNat (ad.mk 3 (nth hw U).af (nth hw U).ac (nth hw U).ar (nth hw U).au)) U).ac (nth (hw.set U.toNat (ad.mk 3 (nth hw U).af (nth hw U).ac (nth hw U).ar (nth hw U).au)) U).ar J.dx)) hi⟩ H) (True) ?_ (fun lc=> ?_)
   ·
    replace h:=lf
    refine bM [] 9 ?_
    have jD:=h
    refine kf 6 none [(59,.ptr 3 0 (0+U.toNat) 4),(58,.ptr 3 0 (0+U.toNat) 0),(57,ag J.dx),(56,aA 3 4),(55,.ptr 3 0 (0+U.toNat) 0)] (a1 4 (hw.set U.toNat (ad.mk 3 (nth hw U).af (nth hw U).ac (nth hw U).ar (nth hw U).au)) hi) U 4 1 0 [ag J.dx] 3 (a1 4 ((hw.set U.toNat (ad.mk 3 (nth hw U).af (nth hw U).ac (nth hw U).ar (nth hw U).au)).set U.toNat (ad.mk (nth (hw.set U.toNat (ad.mk 3 (nth hw U).af (nth hw U).ac (nth hw U).ar (nth hw U).au)) U).aq (nth (hw.set U.toNat (ad.mk 3 (nth hw U).af (nth hw U).ac (nth hw U).ar (nth hw U).au)) U).af (nth (hw.set U.toNat (ad.mk 3 (nth hw U).af (nth hw U).ac (nth hw U).ar (nth hw U).au)) U).ac (nth (hw.set U.toNat (ad.mk 3 (nth hw U).af (nth hw U).ac (nth hw U).ar (nth hw U).au)) U).ar J.dx)) hi) (dO jD.1 jD.2) (kq jD.1 jD.2) ?_
    exact b6 [] trivial
   refine ej [] 10 [(6,ag 0)] [1] [] ?_
   unfold Iw at h
   refine hr ?_
   refine cm.ret ?_
   refine ci.ret ?_
   refine d_.ret ?_
   refine cm.ret ?_
   refine eb.ret ?_
   refine mH (ag 0) [ag 0] ?_
   exact⟨((hw.set U.toNat (ad.mk 3 (nth hw U).af (nth hw U).ac (nth hw U).ar (nth hw U).au)).set U.toNat (ad.mk (nth (hw.set U.toNat (ad.mk 3 (nth hw U).af (nth hw U).ac (nth hw U).ar (nth hw U).au)) U).aq (nth (hw.set U.toNat (ad.mk 3 (nth hw U).af (nth hw U).ac (nth hw U).ar (nth hw U).au)) U).af (nth (hw.set U.toNat (ad.mk 3 (nth hw U).af (nth hw U).ac (nth hw U).ar (nth hw U).au)) U).ac (nth (hw.set U.toNat (ad.mk 3 (nth hw U).af (nth hw U).ac (nth hw U).ar (nth hw U).au)) U).ar J.dx)),hi,hb,0,rfl,(by rw[show hw.length=((hw.set U.toNat (ad.mk 3 (nth hw U).af (nth hw U).ac (nth hw U).ar (nth hw U).au)).set U.toNat (ad.mk (nth (hw.set U.toNat (ad.mk 3 (nth hw U).af (nth hw U).ac (nth hw U).ar (nth hw U).au)) U).aq (nth (hw.set U.toNat (ad.mk 3 (nth hw U).af (nth hw U).ac (nth hw U).ar (nth hw U).au)) U).af (nth (hw.set U.toNat (ad.mk 3 (nth hw U).af (nth hw U).ac (nth hw U).ar (nth hw U).au)) U).ac (nth (hw.set U.toNat (ad.mk 3 (nth hw U).af (nth hw U).ac (nth hw U).ar (nth hw U).au)) U).ar J.dx)).length by simp]<;>rfl),h⟩
  ·
   refine eo ?_
   refine cm.normal ?_
   exact ci.normal (by simp only[q3,jj,nP]<;>rfl) ed
 replace h:=h ic
 refine bM [] 11 ?_
 refine dY [(35,ag (IntKind.i64.wrap (cT+1))),(60,ag (IntKind.i64.wrap (cT+1)))] ?_
 exact d_.again (IntKind.i64.wrap (cT+1)) h (dC [])
theorem adB (J:az) (U:Int) (hg:Nat) (hk:Bool) (aC:List Bool) (ak:List a8) (hw:List ad) (hi:List Nat) (hb:List (List Bool)) (aI:NY J U hk aC ak hw hi hb):dH Try.prog 137 [.agg (bg false J),.ptr 0 hg 0 0,ag U] (⟨hg,4,[[an hk,aj 1 0 aC.length,aj 2 0 ak.length,aj 3 0 hw.length]]⟩::⟨0,1,List.map aY aC⟩::⟨0,2,List.map a7 ak⟩::⟨0,5,a1 4 hw hi⟩::List.map bo hb) (fun r H'=> ∃(e4:List ad) (gg:List Nat) (ek:List (List Bool)) (al:Int),r=ag al∧H'=(⟨hg,4,[[an hk,aj 1 0 aC.length,aj 2 0 ak.length,aj 3 0 e4.length]]⟩::⟨0,1,List.map aY aC⟩::⟨0,2,List.map a7 ak⟩::⟨0,5,a1 4 e4 gg⟩::List.map bo ek)∧uN J U hk aC ak hw hi hb aC ak e4 gg ek al):=adD J U hg hk aC ak hw hi hb (ct ((nth J.O U).cK.length:Int) (fun k=>nth aC (nth (nth J.O U).cK k)&&(nth hw U).ar)) (cG ((nth J.O U).cK.length:Int)) (by
 unfold Iv
 obtain⟨G,cF,t0,t1,t2,wK⟩:=aI
 have bf:U.toNat<hw.length:=by omega
 have io:U.toNat<J.O.length:=by omega
 have kM:=cF.cK _ (dz io)
 have nH:=cF.c2
 have dy:=G.oO bf
 have U0:(nth hw U).aq=(nth (c7 hk aC ak hw hi hb).O U).aq:=dy.aq
 have v7:(nth hw U).ar=(nth (c7 hk aC ak hw hi hb).O U).ar:=dy.ar
 have oU:(((nth hw U).aq !=1)&&((nth hw U).aq !=2))=decide ((nth (c7 hk aC ak hw hi hb).O U).aq≠1∧(nth (c7 hk aC ak hw hi hb).O U).aq≠2):=by
  rw[Bool.eq_iff_iff,U0];simp
 unfold IA
 rw[oU]
 refine⟨⟨t0,bf⟩,⟨⟨dy.fo,fun _=>dy.fo⟩,fun hc=> ?_⟩,fun hc=>⟨⟨t0,io⟩,fun aG=> ?_⟩⟩
 ·have hc:=of_decide_eq_true hc
  have e:sF (c7 hk aC ak hw hi hb) U=2:=by unfold sF;rw[if_pos hc]
  exact⟨G,e.symm,by rw[e];rfl⟩
 have hc: ¬_:=of_decide_eq_false (by simpa only[Bool.not_eq_true'] using hc)
 have il:sF (c7 hk aC ak hw hi hb) U=0:=by unfold sF;rw[if_neg hc]
 unfold Iz
 refine⟨df (dp _),fun v a0=>⟨fun hv=>⟨⟨G,t0,t1⟩,fun w i b kv=> ?_⟩,fun hv=> ?_⟩⟩
 ·obtain⟨n4,kx⟩:=kv
  refine⟨n4,il.symm,?_⟩
  rw[if_pos il,kx]
  have l6:((nth (c7 hk aC ak hw hi hb).O U).ar&&gH (c7 hk aC ak hw hi hb) (nth J.O U).cK)=false:=by
   rw[←v7]
   have eK:=ml (q:=fun x=>nth aC x&&(nth hw U).ar) (gO a0 hv)
   cases hs:(nth hw U).ar with
   | false=>rfl
   | true=>
    rw[Bool.true_and]
    unfold gH
    rw[List.any_eq_false]
    intro x hx
    have:=eK x hx
    simp only[hs,Bool.and_true] at this
    show ¬(nth aC x=true)
    rw[this];simp
  unfold Ax
  rw[if_neg (by rw[l6];simp)];rfl
 ·unfold Iy
  have b9:=cb a0 hv
  have hx:=kM.2 _ (dz b9.2)
  refine⟨⟨b9,⟨⟨hx.1,by omega⟩,fun _=>dy.fo⟩,?_⟩,fun ek=>cO (cw aG) a0 hv (not_eq ek)⟩
  unfold Ix Iw
  intro ek
  have eE:=dy.setState 3
  refine⟨dy.fo,eE.fo,?_⟩
  have gn:=eE.xF J.dx
  refine⟨gn.G,il.symm,?_⟩
  rw[if_pos il]
  have j8:nth aC (nth (nth J.O U).cK v)=true∧(nth hw U).ar=true:=by simpa using ek
  have WW:gH (c7 hk aC ak hw hi hb) (nth J.O U).cK=true:=by
   unfold gH;rw[List.any_eq_true];exact⟨_,dz b9.2,j8.1⟩
  unfold Ax
  rw[if_pos (by rw[WW,←v7,j8.2];rfl)]
  exact gn.gZ)
noncomputable def ac5:Code:=iE Try.f92
def ac7:List Item:=[ao 0,ao 1,ao 2,ao 3,ao 4,ao 5,ao 6,ao 7,ao 8,ao 9]
def ac8:List (List Nat):=[[],[0],[],[2],[],[4],rg 2 6,rg 2 7,rg 0 8,rg 0 9]
def Ib (dE:j1 Prop) (J:az) (M:Frame) (U:Event):Prop:=
  (((eA J M U.ah)==0)=true→(NZ J U.ah (aa M).ok (aa M).aw (aa M).ap (aa M).O (List.range (aa M).O.length) (List.map ad.ac (aa M).O))∧(∀(ix:List a8) (Ab:List ad),B2 J U.ah (aa M).ok (aa M).aw (aa M).ap (aa M).O (List.range (aa M).O.length) (List.map ad.ac (aa M).O) (aa M).aw ix Ab (List.range (aa M).O.length) (List.map ad.ac (aa M).O)→(dE (List.map ad.ac (aa M).O) (aa M).aw ix (List.range (aa M).O.length) (eA J M U.ah) Ab)))∧(((eA J M U.ah)==0)=false→dE (List.map ad.ac (aa M).O) (aa M).aw (aa M).ap (List.range (aa M).O.length) (eA J M U.ah) (aa M).O)
def Ig (dE:j1 Prop) (J:az) (M:Frame) (U:Event):Prop:=
  ((nth M.aw (nth J.a5 U.ah))=true→dE (List.map ad.ac (aa M).O) (aa M).aw (aa M).ap (List.range (aa M).O.length) 3 (aa M).O)∧((nth M.aw (nth J.a5 U.ah))=false→(0≤U.ah∧U.ah.toNat<(aa M).ap.length)∧(dE (List.map ad.ac (aa M).O) (aa M).aw ((aa M).ap.set U.ah.toNat (a8.mk U.bj (nth (aa M).ap U.ah).aX)) (List.range (aa M).O.length) 0 (aa M).O))
def Ih (dE:j1 Prop) (J:az) (M:Frame) (U:Event):Prop:=
  ((decide (((fO J M U.ah).length:Int)>0))=true→dE (List.map ad.ac (aa M).O) (aa M).aw (aa M).ap (List.range (aa M).O.length) 2 (aa M).O)∧((decide (((fO J M U.ah).length:Int)>0))=false→((0≤U.ah∧U.ah.toNat<J.a5.length)∧(0≤(nth J.a5 U.ah)∧(nth J.a5 U.ah).toNat<M.aw.length))∧(Ig dE J M U))
def Ii (ay:dQ Prop) (aB:dQ Nat) (M:Frame) (aZ:List (List Bool)) (b7:List Nat) (bp:Int) (aE:List ad):Prop:=
  (((nth (aE.set bp.toNat (ad.mk (nth aE bp).aq (nth aE bp).af (nth aE bp).ac (nth aE bp).ar (IntKind.i64.wrap ((nth aE bp).au - 1)))) bp).au==0)=true→(BT bp (aa M).ok (aa M).aw (aa M).ap (aE.set bp.toNat (ad.mk (nth aE bp).aq (nth aE bp).af (nth aE bp).ac (nth aE bp).ar (IntKind.i64.wrap ((nth aE bp).au - 1)))) b7 aZ)∧(∀(xV:List ad) (i71:List Nat) (vP:List (List Bool)),uJ bp (aa M).ok (aa M).aw (aa M).ap (aE.set bp.toNat (ad.mk (nth aE bp).aq (nth aE bp).af (nth aE bp).ac (nth aE bp).ar (IntKind.i64.wrap ((nth aE bp).au - 1)))) b7 aZ (aa M).aw (aa M).ap xV i71 vP→(ay vP i71 (IntKind.i64.wrap (bp+1)) xV∧aB vP i71 (IntKind.i64.wrap (bp+1)) xV<aB aZ b7 bp aE)))∧(((nth (aE.set bp.toNat (ad.mk (nth aE bp).aq (nth aE bp).af (nth aE bp).ac (nth aE bp).ar (IntKind.i64.wrap ((nth aE bp).au - 1)))) bp).au==0)=false→ay aZ b7 (IntKind.i64.wrap (bp+1)) (aE.set bp.toNat (ad.mk (nth aE bp).aq (nth aE bp).af (nth aE bp).ac (nth aE bp).ar (IntKind.i64.wrap ((nth aE bp).au - 1))))∧aB aZ b7 (IntKind.i64.wrap (bp+1)) (aE.set bp.toNat (ad.mk (nth aE bp).aq (nth aE bp).af (nth aE bp).ac (nth aE bp).ar (IntKind.i64.wrap ((nth aE bp).au - 1))))<aB aZ b7 bp aE)
def Ij (ay:dQ Prop) (aB:dQ Nat) (M:Frame) (aZ:List (List Bool)) (b7:List Nat) (bp:Int) (aE:List ad):Prop:=
  ((aE.set bp.toNat (ad.mk (nth aE bp).aq (nth aE bp).af (nth aE bp).ac (nth aE bp).ar (IntKind.i64.wrap ((nth aE bp).au - 1)))).length=b7.length∧bp.toNat<(aE.set bp.toNat (ad.mk (nth aE bp).aq (nth aE bp).af (nth aE bp).ac (nth aE bp).ar (IntKind.i64.wrap ((nth aE bp).au - 1)))).length)∧(Ii ay aB M aZ b7 bp aE)
def Ik (ay:dQ Prop) (aB:dQ Nat) (M:Frame) (aZ:List (List Bool)) (b7:List Nat) (bp:Int) (aE:List ad):Prop:=
  ((aE.length=b7.length∧bp.toNat<aE.length)∧(((nth aE bp).aq !=3)=true→ay aZ b7 (IntKind.i64.wrap (bp+1)) aE∧aB aZ b7 (IntKind.i64.wrap (bp+1)) aE<aB aZ b7 bp aE))∧((!((nth aE bp).aq !=3))=true→((aE.length=b7.length∧bp.toNat<aE.length)∧(aE.length=b7.length∧bp.toNat<aE.length))∧(Ij ay aB M aZ b7 bp aE))
def Il (ay:dQ Prop) (aB:dQ Nat) (dE:j1 Prop) (M:Frame):Prop:=
  ay (List.map ad.ac (aa M).O) (List.range (aa M).O.length) 0 (aa M).O∧ ∀(aZ:List (List Bool)) (b7:List Nat) (bp:Int) (aE:List ad),ay aZ b7 bp aE→(((decide (bp<((aa M).O.length:Int)))=false→dE aZ (aa M).aw (aa M).ap b7 0 aE)∧((decide (bp<((aa M).O.length:Int)))=true→(0≤bp∧bp.toNat<aE.length)∧(Ik ay aB M aZ b7 bp aE)))
def Im (ay:dQ Prop) (aB:dQ Nat) (dE:j1 Prop) (J:az) (M:Frame) (U:Event):Prop:=
  ((U.op==5)=true→(0≤U.ah∧U.ah.toNat<(aa M).ap.length)∧(dE (List.map ad.ac (aa M).O) (aa M).aw ((aa M).ap.set U.ah.toNat (a8.mk (nth (aa M).ap U.ah).b5 U.bj)) (List.range (aa M).O.length) 0 (aa M).O))∧((U.op==5)=false→((U.op==6)=true→(si J M U.ah)∧((fO J M U.ah).length≤4611686018427387904→Ih dE J M U))∧((U.op==6)=false→((U.op==7)=true→Il ay aB dE M)∧((U.op==7)=false→dE (List.map ad.ac (aa M).O) (aa M).aw (aa M).ap (List.range (aa M).O.length) 0 (aa M).O)))
def Io (ay:dQ Prop) (aB:dQ Nat) (dE:j1 Prop) (J:az) (M:Frame) (U:Event):Prop:=
  ((U.op==3)=true→(0≤U.ah∧U.ah.toNat<(aa M).aw.length)∧(dE (List.map ad.ac (aa M).O) ((aa M).aw.set U.ah.toNat true) (aa M).ap (List.range (aa M).O.length) 0 (aa M).O))∧((U.op==3)=false→((U.op==4)=true→(0≤U.ah∧U.ah.toNat<(aa M).aw.length)∧(dE (List.map ad.ac (aa M).O) ((aa M).aw.set U.ah.toNat false) (aa M).ap (List.range (aa M).O.length) 0 (aa M).O))∧((U.op==4)=false→Im ay aB dE J M U))
def Ic (ay:dQ Prop) (aB:dQ Nat) (dE:j1 Prop) (J:az) (M:Frame) (U:Event):Prop:=
  ((U.op==2)=true→(NY J U.ah (aa M).ok (aa M).aw (aa M).ap (aa M).O (List.range (aa M).O.length) (List.map ad.ac (aa M).O))∧(∀(fm:List ad) (i28:List Nat) (k3:List (List Bool)) (xx:Int),uN J U.ah (aa M).ok (aa M).aw (aa M).ap (aa M).O (List.range (aa M).O.length) (List.map ad.ac (aa M).O) (aa M).aw (aa M).ap fm i28 k3 xx→(dE k3 (aa M).aw (aa M).ap i28 xx fm)))∧((U.op==2)=false→Io ay aB dE J M U)
def Ie (J:az) (M:Frame) (al:fK) (aZ:List (List Bool)) (b7:List Nat) (aE:List ad) (aH:(List Bool)) (bz:(List a8)) (c4:Int):Prop:=
  (HU J (aa M).ok aH bz aE b7 aZ)∧(∀(oG:List ad) (i82:List Nat) (sE:List (List Bool)),zS J (aa M).ok aH bz aE b7 aZ aH bz oG i82 sE→((c4=al.code)∧((aa M).ok=al.frame.ok)∧(aH.length≤4611686018427387904∧aH=al.frame.aw)∧(bz.length≤4611686018427387904∧bz=al.frame.ap)∧(kl oG i82 sE∧oG.length≤4611686018427387904∧(∀x∈sE,List.length x≤4611686018427387904)∧view oG i82 sE=al.frame.O)))
def If (ay:dQ Prop) (aB:dQ Nat) (dE:j1 Prop) (J:az) (M:Frame) (U:Event) (al:fK):Prop:=
  (((yu J M)∧((!(eI J M))=false→Pf J U))∧(((!(eI J M)) || (!(ey J U)))=true→(1=al.code)∧(false=al.frame.ok)∧([]=al.frame.aw)∧([]=al.frame.ap)∧([]=al.frame.O)))∧((!((!(eI J M)) || (!(ey J U))))=true→(jH M)∧((((U.op==1)=true→(ry J M U.ah)∧(Ib dE J M U))∧((U.op==1)=false→Ic ay aB dE J M U))∧(∀(aZ:List (List Bool)) (aH:(List Bool)) (bz:(List a8)) (b7:List Nat) (c4:Int) (aE:List ad),dE aZ aH bz b7 c4 aE→(Ie J M al aZ b7 aE aH bz c4))))
def Ia (J:az) (M:Frame) (U:Event) (al:fK) (ay:dQ Prop) (aB:dQ Nat) (dE:j1 Prop):Prop:=
 If ay aB dE J M U al
theorem ac9 (J:az) (M:Frame) (U:Event) (al:fK) (ay:dQ Prop) (aB:dQ Nat) (dE:j1 Prop) (h:Ia J M U al ay aB dE):b2 Try.prog 92 [.agg (bg false J),.agg (bZ false M),.agg (ju U)] (.agg (sL true al)):=by
 unfold Ia at h
 refine dH.go (fn:=Try.f92) [(0,.agg (bg false J)),(1,.agg (bZ false M)),(2,.agg (ju U))] Try.func92 (fun _ _=> ?_)
 show WpS _ (bT ac5 1) _ ⟨bi 133 [(0,.agg (bg false J)),(1,.agg (bZ false M)),(2,.agg (ju U))],[],[]⟩
 refine WpS.mn ?_ (hq (s'':=⟨(bi 133 [(0,.agg (bg false J)),(1,.agg (bZ false M)),(2,.agg (ju U))]),[],[⟨0,4,[]⟩]⟩) (Weak.w5 (T:=(bi 133 [(0,.agg (bg false J)),(1,.agg (bZ false M)),(2,.agg (ju U))])) (L:=[]) (H:=[]) 4) (by kernel_rfl))
 refine qq [2000007] 0 [(6,aA 6 0),(5,aA 5 0),(4,aA 4 0),(3,aA 3 0)] [4] [] [(6,[ag 0,an false,aF,aF,aF]),(5,(ju U)),(4,(bZ false M)),(3,(bg false J))] [⟨0,4,[]⟩] ?_
 unfold If at h
 obtain⟨p4,h⟩:=h
 refine cB [] [4] ((!((!(eI J M)) || (!(ey J U))))=true) ?_ (fun q2=> ?_)
 ·
  replace h:=p4
  obtain⟨iJ,h⟩:=h
  refine cB [(20,an ((!(eI J M)) || (!(ey J U))))] [4] (True) ?_ (fun q3=> ?_)
  ·
   replace h:=iJ
   refine bM [2000007] 1 ?_
   obtain⟨q4,h⟩:=h
   refine mg 3 (some 13) [(12,.agg (bZ false M)),(11,.agg (bg false J))] [.agg (bg false J),.agg (bZ false M)] (adh J M q4) (aD.cons (dc.agg (aD.cons (.int _ _) (aD.cons cH (aD.cons cH (aD.cons cH (aD.cons (.int _ _) aD.nil)))))) (aD.cons (dc.agg (aD.cons (.bool _) (aD.cons cH (aD.cons cH (aD.cons cH aD.nil))))) aD.nil)) ?_
   refine nT 2 15 (!(eI J M)) [(14,an (!(eI J M)))] (fun cR=> ?_) (fun cR=> ?_)
   ·
    exact b6 ([(20,an true)]++gx [19,18,17,16]) trivial (by simp only[cR]<;>kernel_rfl)
   ·
    replace h:=h cR
    have c6:=h
    refine mg 3 (some 18) [(17,.agg (ju U)),(16,.agg (bg false J))] [.agg (bg false J),.agg (ju U)] (adG J U c6) (aD.cons (dc.agg (aD.cons (.int _ _) (aD.cons cH (aD.cons cH (aD.cons cH (aD.cons (.int _ _) aD.nil)))))) (aD.cons (dc.agg (aD.cons (.int _ _) (aD.cons (.int _ _) (aD.cons (.int _ _) aD.nil)))) aD.nil)) ?_
    exact b6 [(20,an (!(ey J U))),(19,an (!(ey J U)))] trivial (by simp only[cR]<;>kernel_rfl)
  refine dI (fun fP=> ?_) (fun fP=> ?_)
  ·
   replace h:=h fP
   refine sI [2000007] 2 [(21,.agg [ag 1,an false,aF,aF,aF])] [] [0,1,1] (fun L=>hV 0 0 (ag 1) L) id ?_
   exact hr (ci.ret (nm (.agg [ag 1,an false,aF,aF,aF]) (ii.agg (aD.cons (xK h.1) (aD.cons (np h.2.1) (aD.cons (rj h.2.2.1) (aD.cons (rj h.2.2.2.1) (aD.cons (rj h.2.2.2.2) aD.nil))))))))
  ·
   refine eo ?_
   exact ci.normal (by simp only[fP]<;>rfl) ed
 replace h:=h q2
 obtain⟨Hw,h⟩:=h
 refine fa [(7,.ptr 0 1 0 0)] [4] id (fun _=>(⟨1,4,[[an (aa M).ok,aj 1 0 (aa M).aw.length,aj 2 0 (aa M).ap.length,aj 3 0 (aa M).O.length]]⟩::⟨0,1,List.map aY (aa M).aw⟩::⟨0,2,List.map a7 (aa M).ap⟩::⟨0,5,a1 4 (aa M).O (List.range (aa M).O.length)⟩::List.map bo (List.map ad.ac (aa M).O))) (True) ?_ (fun gW=> ?_)
 ·
  replace h:=Hw
  refine bM [2000007] 3 ?_
  have iw:=h
  refine tv 2 (some 23) [(22,.agg (bZ false M))] [.agg (bZ false M)] (.agg [an (aa M).ok,aj 1 0 (aa M).aw.length,aj 2 0 (aa M).ap.length,aj 3 0 (aa M).O.length]) (⟨0,4,[]⟩::⟨0,1,List.map aY (aa M).aw⟩::⟨0,2,List.map a7 (aa M).ap⟩::⟨0,5,a1 4 (aa M).O (List.range (aa M).O.length)⟩::List.map bo (List.map ad.ac (aa M).O)) (Q1 M iw) (aD.cons (dc.agg (aD.cons (.bool _) (aD.cons cH (aD.cons cH (aD.cons cH aD.nil))))) aD.nil) Cm (rh Qh (by kernel_rfl)) ?_ (er:=by simp[mI,nU,iM])
  refine CQ 1 [(7,.ptr 0 1 0 0)] [(6,[ag 0,an false,aF,aF,aF]),(5,(ju U)),(4,(bZ false M)),(3,(bg false J))] (⟨1,4,[[an false,aF,aF,aF]]⟩::⟨0,1,List.map aY (aa M).aw⟩::⟨0,2,List.map a7 (aa M).ap⟩::⟨0,5,a1 4 (aa M).O (List.range (aa M).O.length)⟩::List.map bo (List.map ad.ac (aa M).O)) ?_
  refine P7 1 [] (⟨1,4,[[an (aa M).ok,aj 1 0 (aa M).aw.length,aj 2 0 (aa M).ap.length,aj 3 0 (aa M).O.length]]⟩::⟨0,1,List.map aY (aa M).aw⟩::⟨0,2,List.map a7 (aa M).ap⟩::⟨0,5,a1 4 (aa M).O (List.range (aa M).O.length)⟩::List.map bo (List.map ad.ac (aa M).O)) (φ:=1=1) (ψ:=4≤4) rfl (by decide) ?_
  exact b6 [] trivial
 refine ej [2000007] 4 [(8,ag 0)] [1] [5] ?_
 refine hJ ?_
 refine ej [2000007] 5 [(25,ag U.op),(24,aA 5 0)] [1] [6] ?_
 obtain⟨sm,h⟩:=h
 refine Kb 0 (fun(v:List (List Bool)×(List Bool)×(List a8)×List Nat×Int×List ad)=>(⟨(bi 133 [(3,aA 3 0),(6,aA 6 0),(7,.ptr 0 1 0 0),(8,ag (v.2.2.2.2.1))]),[(6,[ag 0,an false,aF,aF,aF]),(3,(bg false J))],(⟨1,4,[[an (aa M).ok,aj 1 0 (v.2.1).length,aj 2 0 (v.2.2.1).length,aj 3 0 (v.2.2.2.2.2).length]]⟩::⟨0,1,List.map aY (v.2.1)⟩::⟨0,2,List.map a7 (v.2.2.1)⟩::⟨0,5,a1 4 (v.2.2.2.2.2) (v.2.2.2.1)⟩::List.map bo (v.1))⟩:St)) (fun v=>dE (v.1) (v.2.1) (v.2.2.1) (v.2.2.2.1) (v.2.2.2.2.1) (v.2.2.2.2.2)) ?_ (fun v de=> ?_)
 ·
  replace h:=sm
  refine ej [2000007] 6 [(26,an (U.op==1)),(27,an (U.op==1))] [1] [7] ?_
  refine dI (fun jj=> ?_) (fun jj=> ?_)
  ·
   replace h:=h.1 jj
   obtain⟨g_,h⟩:=h
   refine cB [(8,ag (eA J M U.ah))] [0,3,3,1,1] (True) ?_ (fun ke=> ?_)
   ·
    replace h:=g_
    refine bM [2000007] 7 ?_
    have hR:=h
    refine mg 5 (some 32) [(31,ag U.ah),(30,aA 5 1),(29,.agg (bZ false M)),(28,.agg (bg false J))] [.agg (bg false J),.agg (bZ false M),ag U.ah] (aei J M U.ah hR) (aD.cons (dc.agg (aD.cons (.int _ _) (aD.cons cH (aD.cons cH (aD.cons cH (aD.cons (.int _ _) aD.nil)))))) (aD.cons (dc.agg (aD.cons (.bool _) (aD.cons cH (aD.cons cH (aD.cons cH aD.nil))))) (aD.cons (dc.h4 (.int _ _)) aD.nil))) ?_
    exact b6 [(8,ag (eA J M U.ah))] trivial
   refine ej [2000007] 8 [(34,an ((eA J M U.ah)==0)),(33,ag (eA J M U.ah))] [1] [5] ?_
   unfold Ib at h
   refine dI (fun hA=> ?_) (fun hA=> ?_)
   ·
    replace h:=h.1 hA
    refine bM [2000007] 9 ?_
    obtain⟨jW,h⟩:=h
    refine tu 4 (some 38) [(37,ag U.ah),(36,aA 5 1),(35,.agg (bg false J))] [.agg (bg false J),.ptr 0 1 0 0,ag U.ah] _ (adV J U.ah 1 (aa M).ok (aa M).aw (aa M).ap (aa M).O (List.range (aa M).O.length) (List.map ad.ac (aa M).O) jW) (fun r H' ak=>by obtain⟨_,_,rfl,_⟩:=ak;rfl) ?_
    rintro r H' ⟨ix,Ab,rfl,rfl,ic⟩
    replace h:=h ix Ab ic
    refine dY [] ?_
    refine cm.normal ?_
    exact g1.normal ((List.map ad.ac (aa M).O),(aa M).aw,ix,(List.range (aa M).O.length),(eA J M U.ah),Ab) h (dC [5,4])
   ·
    replace h:=h.2 hA
    refine eo ?_
    refine cm.normal ?_
    exact g1.normal ((List.map ad.ac (aa M).O),(aa M).aw,(aa M).ap,(List.range (aa M).O.length),(eA J M U.ah),(aa M).O) h (dC [5,4])
  ·
   replace h:=h.2 jj
   refine ej [2000007] 10 [(39,an (U.op==2)),(40,an (U.op==2))] [1] [0,1,7] ?_
   unfold Ic at h
   refine dI (fun ie=> ?_) (fun ie=> ?_)
   ·
    replace h:=h.1 ie
    refine bM [2000007] 11 ?_
    obtain⟨jC,h⟩:=h
    refine tu 4 (some 44) [(43,ag U.ah),(42,aA 5 1),(41,.agg (bg false J))] [.agg (bg false J),.ptr 0 1 0 0,ag U.ah] _ (adB J U.ah 1 (aa M).ok (aa M).aw (aa M).ap (aa M).O (List.range (aa M).O.length) (List.map ad.ac (aa M).O) jC) (fun r H' ak=>by obtain⟨_,_,_,_,rfl,_⟩:=ak;rfl) ?_
    rintro r H' ⟨fm,i28,k3,xx,rfl,rfl,lc⟩
    replace h:=h fm i28 k3 xx lc
    refine dY [(8,ag xx)] ?_
    refine cm.normal ?_
    exact g1.normal (k3,(aa M).aw,(aa M).ap,i28,xx,fm) h (dC [5,4])
   ·
    replace h:=h.2 ie
    refine ej [2000007] 12 [(45,an (U.op==3)),(46,an (U.op==3))] [1] [0,1,7] ?_
    unfold Io at h
    refine dI (fun ld=> ?_) (fun ld=> ?_)
    ·
     replace h:=h.1 ld
     refine bM [2000007] 13 ?_
     refine nS 2 (some 48) (aj 1 0 (aa M).aw.length) [(47,.ptr 0 1 0 1)] (φ:=1=1) rfl ?_
     obtain⟨Tg,h⟩:=h
     refine lK 3 (some 51) [(50,ag U.ah),(49,aA 5 1)] 1 0 1 Tg ?_
     refine tw 1 none [] aY (aa M).aw U.ah 0 1 0 [an true] 1 true (by simpa using Tg.2) ?_
     refine dY [] ?_
     refine cm.normal ?_
     exact g1.normal ((List.map ad.ac (aa M).O),((aa M).aw.set U.ah.toNat true),(aa M).ap,(List.range (aa M).O.length),0,(aa M).O) h (hq (s':=⟨(bi 133 [(3,aA 3 0),(6,aA 6 0),(7,.ptr 0 1 0 0),(8,ag 0)]),[(6,[ag 0,an false,aF,aF,aF]),(3,(bg false J))],(⟨1,4,[[an (aa M).ok,aj 1 0 (aa M).aw.length,aj 2 0 (aa M).ap.length,aj 3 0 (aa M).O.length]]⟩::⟨0,1,List.map aY ((aa M).aw.set U.ah.toNat true)⟩::⟨0,2,List.map a7 (aa M).ap⟩::⟨0,5,a1 4 (aa M).O (List.range (aa M).O.length)⟩::List.map bo (List.map ad.ac (aa M).O))⟩) (dC (n:=133) (A':=[(3,aA 3 0),(6,aA 6 0),(7,.ptr 0 1 0 0),(8,ag 0)]) (L':=[(6,[ag 0,an false,aF,aF,aF]),(3,(bg false J))]) [5,4]) (congrArg (fun z=>(⟨(bi 133 [(3,aA 3 0),(6,aA 6 0),(7,.ptr 0 1 0 0),(8,ag 0)]),[(6,[ag 0,an false,aF,aF,aF]),(3,(bg false J))],(⟨1,4,[[an (aa M).ok,aj 1 0 z,aj 2 0 (aa M).ap.length,aj 3 0 (aa M).O.length]]⟩::⟨0,1,List.map aY ((aa M).aw.set U.ah.toNat true)⟩::⟨0,2,List.map a7 (aa M).ap⟩::⟨0,5,a1 4 (aa M).O (List.range (aa M).O.length)⟩::List.map bo (List.map ad.ac (aa M).O))⟩:St)) (show(aa M).aw.length=((aa M).aw.set U.ah.toNat true).length by simp)))
    ·
     replace h:=h.2 ld
     refine ej [2000007] 14 [(52,an (U.op==4)),(53,an (U.op==4))] [1] [0,1,7] ?_
     refine dI (fun ha=> ?_) (fun ha=> ?_)
     ·
      replace h:=h.1 ha
      refine bM [2000007] 15 ?_
      refine nS 2 (some 55) (aj 1 0 (aa M).aw.length) [(54,.ptr 0 1 0 1)] (φ:=1=1) rfl ?_
      obtain⟨Ti,h⟩:=h
      refine lK 3 (some 58) [(57,ag U.ah),(56,aA 5 1)] 1 0 1 Ti ?_
      refine tw 1 none [] aY (aa M).aw U.ah 0 1 0 [an false] 1 false (by simpa using Ti.2) ?_
      refine dY [] ?_
      refine cm.normal ?_
      exact g1.normal ((List.map ad.ac (aa M).O),((aa M).aw.set U.ah.toNat false),(aa M).ap,(List.range (aa M).O.length),0,(aa M).O) h (hq (s':=⟨(bi 133 [(3,aA 3 0),(6,aA 6 0),(7,.ptr 0 1 0 0),(8,ag 0)]),[(6,[ag 0,an false,aF,aF,aF]),(3,(bg false J))],(⟨1,4,[[an (aa M).ok,aj 1 0 (aa M).aw.length,aj 2 0 (aa M).ap.length,aj 3 0 (aa M).O.length]]⟩::⟨0,1,List.map aY ((aa M).aw.set U.ah.toNat false)⟩::⟨0,2,List.map a7 (aa M).ap⟩::⟨0,5,a1 4 (aa M).O (List.range (aa M).O.length)⟩::List.map bo (List.map ad.ac (aa M).O))⟩) (dC (n:=133) (A':=[(3,aA 3 0),(6,aA 6 0),(7,.ptr 0 1 0 0),(8,ag 0)]) (L':=[(6,[ag 0,an false,aF,aF,aF]),(3,(bg false J))]) [5,4]) (congrArg (fun z=>(⟨(bi 133 [(3,aA 3 0),(6,aA 6 0),(7,.ptr 0 1 0 0),(8,ag 0)]),[(6,[ag 0,an false,aF,aF,aF]),(3,(bg false J))],(⟨1,4,[[an (aa M).ok,aj 1 0 z,aj 2 0 (aa M).ap.length,aj 3 0 (aa M).O.length]]⟩::⟨0,1,List.map aY ((aa M).aw.set U.ah.toNat false)⟩::⟨0,2,List.map a7 (aa M).ap⟩::⟨0,5,a1 4 (aa M).O (List.range (aa M).O.length)⟩::List.map bo (List.map ad.ac (aa M).O))⟩:St)) (show(aa M).aw.length=((aa M).aw.set U.ah.toNat false).length by simp)))
     ·
      replace h:=h.2 ha
      refine ej [2000007] 16 [(59,an (U.op==5)),(60,an (U.op==5))] [1] [0,1,7] ?_
      unfold Im at h
      refine dI (fun lH=> ?_) (fun lH=> ?_)
      ·
       replace h:=h.1 lH
       refine bM [2000007] 17 ?_
       refine nS 2 (some 62) (aj 2 0 (aa M).ap.length) [(61,.ptr 0 1 0 2)] (φ:=1=1) rfl ?_
       obtain⟨Tk,h⟩:=h
       refine lK 5 (some 67) [(66,ag U.bj),(65,aA 5 2),(64,ag U.ah),(63,aA 5 1)] 2 0 2 Tk ?_
       refine tw 2 none [(68,.ptr 2 0 (0+U.ah.toNat) 1)] a7 (aa M).ap U.ah 1 1 0 [ag U.bj] 2 (a8.mk (nth (aa M).ap U.ah).b5 U.bj) (by simpa using Tk.2) ?_
       refine dY [] ?_
       refine cm.normal ?_
       exact g1.normal ((List.map ad.ac (aa M).O),(aa M).aw,((aa M).ap.set U.ah.toNat (a8.mk (nth (aa M).ap U.ah).b5 U.bj)),(List.range (aa M).O.length),0,(aa M).O) h (hq (s':=⟨(bi 133 [(3,aA 3 0),(6,aA 6 0),(7,.ptr 0 1 0 0),(8,ag 0)]),[(6,[ag 0,an false,aF,aF,aF]),(3,(bg false J))],(⟨1,4,[[an (aa M).ok,aj 1 0 (aa M).aw.length,aj 2 0 (aa M).ap.length,aj 3 0 (aa M).O.length]]⟩::⟨0,1,List.map aY (aa M).aw⟩::⟨0,2,List.map a7 ((aa M).ap.set U.ah.toNat (a8.mk (nth (aa M).ap U.ah).b5 U.bj))⟩::⟨0,5,a1 4 (aa M).O (List.range (aa M).O.length)⟩::List.map bo (List.map ad.ac (aa M).O))⟩) (dC (n:=133) (A':=[(3,aA 3 0),(6,aA 6 0),(7,.ptr 0 1 0 0),(8,ag 0)]) (L':=[(6,[ag 0,an false,aF,aF,aF]),(3,(bg false J))]) [5,4]) (congrArg (fun z=>(⟨(bi 133 [(3,aA 3 0),(6,aA 6 0),(7,.ptr 0 1 0 0),(8,ag 0)]),[(6,[ag 0,an false,aF,aF,aF]),(3,(bg false J))],(⟨1,4,[[an (aa M).ok,aj 1 0 (aa M).aw.length,aj 2 0 z,aj 3 0 (aa M).O.length]]⟩::⟨0,1,List.map aY (aa M).aw⟩::⟨0,2,List.map a7 ((aa M).ap.set U.ah.toNat (a8.mk (nth (aa M).ap U.ah).b5 U.bj))⟩::⟨0,5,a1 4 (aa M).O (List.range (aa M).O.length)⟩::List.map bo (List.map ad.ac (aa M).O))⟩:St)) (show(aa M).ap.length=((aa M).ap.set U.ah.toNat (a8.mk (nth (aa M).ap U.ah).b5 U.bj)).length by simp)))
      ·
       replace h:=h.2 lH
       refine ej [2000007] 18 [(69,an (U.op==6)),(70,an (U.op==6))] [1] [0,1,7] ?_
       refine dI (fun jE=> ?_) (fun jE=> ?_)
       ·
        replace h:=h.1 jE
        obtain⟨jF,h⟩:=h
        refine cB [(77,an (decide (((fO J M U.ah).length:Int)>0)))] [0,2,6] ((fO J M U.ah).length≤4611686018427387904) ?_ (fun nQ=> ?_)
        ·
         replace h:=jF
         refine bM [2000007] 19 ?_
         have mc:=h
         refine mg 5 (some 75) [(74,ag U.ah),(73,aA 5 1),(72,.agg (bZ false M)),(71,.agg (bg false J))] [.agg (bg false J),.agg (bZ false M),ag U.ah] (Rr J M U.ah mc) (aD.cons (dc.agg (aD.cons (.int _ _) (aD.cons cH (aD.cons cH (aD.cons cH (aD.cons (.int _ _) aD.nil)))))) (aD.cons (dc.agg (aD.cons (.bool _) (aD.cons cH (aD.cons cH (aD.cons cH aD.nil))))) (aD.cons (dc.h4 (.int _ _)) aD.nil))) ?_
         refine sLen 1 (some 76) [] c_ (fO J M U.ah) (fun lg=> ?_)
         exact b6 [(77,an (decide (((fO J M U.ah).length:Int)>0)))] lg
        replace h:=h nQ
        unfold Ih at h
        refine dI (fun me=> ?_) (fun me=> ?_)
        ·
         replace h:=h.1 me
         refine bM [2000007] 20 ?_
         refine dY [(8,ag 2)] ?_
         refine cm.normal ?_
         exact g1.normal ((List.map ad.ac (aa M).O),(aa M).aw,(aa M).ap,(List.range (aa M).O.length),2,(aa M).O) h (dC [5,4])
        ·
         replace h:=h.2 me
         obtain⟨mf,h⟩:=h
         refine cB [(87,an (nth M.aw (nth J.a5 U.ah)))] [0,1,4,1,1] (True) ?_ (fun mD=> ?_)
         ·
          replace h:=mf
          refine nl [2000007] 21 ac7 ac8 [] ?_
          obtain⟨nh,h⟩:=h
          refine sr 7 (some 84) [(83,ag U.ah),(82,aA 5 1),(81,bL c_ J.a5),(80,aA 3 1),(79,bL aY M.aw),(78,aA 4 1)] c_ J.a5 1 nh ?_
          have ng:=h
          refine sr 2 (some 86) [(85,ag (nth J.a5 U.ah))] aY M.aw 1 ng ?_
          exact kY [(87,an (nth M.aw (nth J.a5 U.ah)))] trivial
         unfold Ig at h
         refine dI (fun p2=> ?_) (fun p2=> ?_)
         ·
          replace h:=h.1 p2
          refine bM [2000007] 22 ?_
          refine dY [(8,ag 3)] ?_
          refine cm.normal ?_
          exact g1.normal ((List.map ad.ac (aa M).O),(aa M).aw,(aa M).ap,(List.range (aa M).O.length),3,(aa M).O) h (dC [5,4])
         ·
          replace h:=h.2 p2
          refine bM [2000007] 23 ?_
          refine nS 2 (some 89) (aj 2 0 (aa M).ap.length) [(88,.ptr 0 1 0 2)] (φ:=1=1) rfl ?_
          obtain⟨Tl,h⟩:=h
          refine lK 5 (some 94) [(93,ag U.bj),(92,aA 5 2),(91,ag U.ah),(90,aA 5 1)] 2 0 2 Tl ?_
          refine tw 2 none [(95,.ptr 2 0 (0+U.ah.toNat) 0)] a7 (aa M).ap U.ah 0 1 0 [ag U.bj] 2 (a8.mk U.bj (nth (aa M).ap U.ah).aX) (by simpa using Tl.2) ?_
          refine dY [] ?_
          refine cm.normal ?_
          exact g1.normal ((List.map ad.ac (aa M).O),(aa M).aw,((aa M).ap.set U.ah.toNat (a8.mk U.bj (nth (aa M).ap U.ah).aX)),(List.range (aa M).O.length),0,(aa M).O) h (hq (s':=⟨(bi 133 [(3,aA 3 0),(6,aA 6 0),(7,.ptr 0 1 0 0),(8,ag 0)]),[(6,[ag 0,an false,aF,aF,aF]),(3,(bg false J))],(⟨1,4,[[an (aa M).ok,aj 1 0 (aa M).aw.length,aj 2 0 (aa M).ap.length,aj 3 0 (aa M).O.length]]⟩::⟨0,1,List.map aY (aa M).aw⟩::⟨0,2,List.map a7 ((aa M).ap.set U.ah.toNat (a8.mk U.bj (nth (aa M).ap U.ah).aX))⟩::⟨0,5,a1 4 (aa M).O (List.range (aa M).O.length)⟩::List.map bo (List.map ad.ac (aa M).O))⟩) (dC (n:=133) (A':=[(3,aA 3 0),(6,aA 6 0),(7,.ptr 0 1 0 0),(8,ag 0)]) (L':=[(6,[ag 0,an false,aF,aF,aF]),(3,(bg false J))]) [5,4]) (congrArg (fun z=>(⟨(bi 133 [(3,aA 3 0),(6,aA 6 0),(7,.ptr 0 1 0 0),(8,ag 0)]),[(6,[ag 0,an false,aF,aF,aF]),(3,(bg false J))],(⟨1,4,[[an (aa M).ok,aj 1 0 (aa M).aw.length,aj 2 0 z,aj 3 0 (aa M).O.length]]⟩::⟨0,1,List.map aY (aa M).aw⟩::⟨0,2,List.map a7 ((aa M).ap.set U.ah.toNat (a8.mk U.bj (nth (aa M).ap U.ah).aX))⟩::⟨0,5,a1 4 (aa M).O (List.range (aa M).O.length)⟩::List.map bo (List.map ad.ac (aa M).O))⟩:St)) (show(aa M).ap.length=((aa M).ap.set U.ah.toNat (a8.mk U.bj (nth (aa M).ap U.ah).aX)).length by simp)))
       ·
        replace h:=h.2 jE
        refine ej [2000007] 24 [(96,an (U.op==7)),(97,an (U.op==7))] [1] [0,2,3,2,1] ?_
        refine dI (fun lI=> ?_) (fun lI=> ?_)
        ·
         replace h:=h.1 lI
         refine cB [(100,ag ((aa M).O.length:Int)),(101,ag 0)] [0,1,4] (True) ?_ (fun mE=> ?_)
         ·
          refine bM [2000007] 25 ?_
          refine nS 2 (some 99) (aj 3 0 (aa M).O.length) [(98,.ptr 0 1 0 3)] (φ:=1=1) rfl ?_
          exact b6 [(101,ag 0),(100,ag ((aa M).O.length:Int))] trivial
         unfold Il at h
         refine fs 1 ?_
         obtain⟨nj,h⟩:=h
         refine km (fun(v:List (List Bool)×List Nat×Int×List ad)=>(⟨(bi 133 [(3,aA 3 0),(6,aA 6 0),(7,.ptr 0 1 0 0),(8,ag 0),(100,ag ((aa M).O.length:Int)),(101,ag (v.2.2.1))]),[(6,[ag 0,an false,aF,aF,aF]),(3,(bg false J))],(⟨1,4,[[an (aa M).ok,aj 1 0 (aa M).aw.length,aj 2 0 (aa M).ap.length,aj 3 0 (v.2.2.2).length]]⟩::⟨0,1,List.map aY (aa M).aw⟩::⟨0,2,List.map a7 (aa M).ap⟩::⟨0,5,a1 4 (v.2.2.2) (v.2.1)⟩::List.map bo (v.1))⟩:St)) (fun(v:List (List Bool)×List Nat×Int×List ad)=>ay (v.1) (v.2.1) (v.2.2.1) (v.2.2.2)) (fun(v:List (List Bool)×List Nat×Int×List ad)=>aB (v.1) (v.2.1) (v.2.2.1) (v.2.2.2)) ((List.map ad.ac (aa M).O),(List.range (aa M).O.length),0,(aa M).O) (dC [5,4]) nj (fun v a0=> ?_)
         obtain⟨aZ,b7,bp,aE⟩:=v
         replace h:=h aZ b7 bp aE a0
         dsimp only
         refine ej [2000007] 26 [(102,an (decide (bp<((aa M).O.length:Int))))] [1] [6] ?_
         obtain⟨xu,h⟩:=h
         refine cB [] [0,1,6] ((decide (bp<((aa M).O.length:Int)))=true) ?_ (fun mF=> ?_)
         ·
          replace h:=xu
          refine dI (fun o_=> ?_) (fun o_=> ?_)
          ·
           refine eo ?_
           exact ci.normal (by simp only[q2,jj,ie,ld,ha,lH,jE,lI,o_]<;>rfl) ed
          ·
           replace h:=h o_
           refine iZ 1 ?_
           refine ci.exit ?_
           refine d_.exit ?_
           refine cm.here ?_
           refine cm.normal ?_
           exact g1.normal (aZ,(aa M).aw,(aa M).ap,b7,0,aE) h (dC [])
         replace h:=h mF
         refine hJ ?_
         refine fs 2 ?_
         refine ej [2000007] 27 [(9,ag bp),(103,ag bp)] [1] [6] ?_
         obtain⟨tp,h⟩:=h
         refine cB [(10,.ptr 3 0 (0+bp.toNat) 0)] [0,1,6] (True) ?_ (fun q6=> ?_)
         ·
          replace h:=tp
          refine bM [2000007] 28 ?_
          refine nS 2 (some 105) (aj 3 0 aE.length) [(104,.ptr 0 1 0 3)] (φ:=1=1) rfl ?_
          have afJ:=h
          refine lK 2 (some 107) [(106,ag bp)] 3 0 5 afJ ?_
          exact b6 [(10,.ptr 3 0 (0+bp.toNat) 0)] trivial
         unfold Ik at h
         obtain⟨tn,h⟩:=h
         refine cB [] [7] ((!((nth aE bp).aq !=3))=true) ?_ (fun mG=> ?_)
         ·
          replace h:=tn
          obtain⟨oD,h⟩:=h
          refine cB [(112,an ((nth aE bp).aq !=3))] [7] (True) ?_ (fun xr=> ?_)
          ·
           replace h:=oD
           refine bM [2000007] 29 ?_
           have oB:=h
           refine iL 4 (some 111) [(110,.ptr 3 0 (0+bp.toNat) 0),(109,.ptr 3 0 (0+bp.toNat) 0),(108,.ptr 3 0 (0+bp.toNat) 0)] (a1 4 aE b7) bp 3 0 0 (ag (nth aE bp).aq) (dO oB.1 oB.2) ?_
           exact b6 [(112,an ((nth aE bp).aq !=3))] trivial
          refine dI (fun oC=> ?_) (fun oC=> ?_)
          ·
           replace h:=h oC
           refine iZ 2 ?_
           refine ci.exit ?_
           refine cm.here ?_
           refine eb.normal ?_
           refine bM [2000007] 33 ?_
           refine dY [(101,ag (IntKind.i64.wrap (bp+1))),(127,ag (IntKind.i64.wrap (bp+1)))] ?_
           exact d_.again (aZ,b7,(IntKind.i64.wrap (bp+1)),aE) h (dC [])
          ·
           refine eo ?_
           exact ci.normal (by simp only[q2,jj,ie,ld,ha,lH,jE,lI,mF,oC]<;>rfl) ed
         replace h:=h mG
         obtain⟨tm,h⟩:=h
         refine fa [] [7] id (fun H=>en 3 ⟨0,5,a1 4 (aE.set bp.toNat (ad.mk (nth aE bp).aq (nth aE bp).af (nth aE bp).ac (nth aE bp).ar (IntKind.i64.wrap ((nth aE bp).au - 1)))) b7⟩ H) (True) ?_ (fun nR=> ?_)
         ·
          replace h:=tm
          refine bM [2000007] 30 ?_
          obtain⟨kX,h⟩:=h
          refine iL 4 (some 116) [(115,.ptr 3 0 (0+bp.toNat) 4),(114,.ptr 3 0 (0+bp.toNat) 0),(113,.ptr 3 0 (0+bp.toNat) 0)] (a1 4 aE b7) bp 3 4 0 (ag (nth aE bp).au) (dO kX.1 kX.2) ?_
          have ni:=h
          refine kf 4 none [(119,.ptr 3 0 (0+bp.toNat) 4),(118,.ptr 3 0 (0+bp.toNat) 0),(117,ag (IntKind.i64.wrap ((nth aE bp).au - 1)))] (a1 4 aE b7) bp 4 1 0 [ag (IntKind.i64.wrap ((nth aE bp).au - 1))] 3 (a1 4 (aE.set bp.toNat (ad.mk (nth aE bp).aq (nth aE bp).af (nth aE bp).ac (nth aE bp).ar (IntKind.i64.wrap ((nth aE bp).au - 1)))) b7) (dO ni.1 ni.2) (kq ni.1 ni.2) ?_
          exact b6 [] trivial
         unfold Ij at h
         obtain⟨q7,h⟩:=h
         refine cB [(124,an ((nth (aE.set bp.toNat (ad.mk (nth aE bp).aq (nth aE bp).af (nth aE bp).ac (nth aE bp).ar (IntKind.i64.wrap ((nth aE bp).au - 1)))) bp).au==0))] [7] (True) ?_ (fun CA=> ?_)
         ·
          replace h:=q7
          refine bM [2000007] 31 ?_
          have p3:=h
          refine iL 4 (some 123) [(122,.ptr 3 0 (0+bp.toNat) 4),(121,.ptr 3 0 (0+bp.toNat) 0),(120,.ptr 3 0 (0+bp.toNat) 0)] (a1 4 (aE.set bp.toNat (ad.mk (nth aE bp).aq (nth aE bp).af (nth aE bp).ac (nth aE bp).ar (IntKind.i64.wrap ((nth aE bp).au - 1)))) b7) bp 3 4 0 (ag (nth (aE.set bp.toNat (ad.mk (nth aE bp).aq (nth aE bp).af (nth aE bp).ac (nth aE bp).ar (IntKind.i64.wrap ((nth aE bp).au - 1)))) bp).au) (dO p3.1 p3.2) ?_
          exact b6 [(124,an ((nth (aE.set bp.toNat (ad.mk (nth aE bp).aq (nth aE bp).af (nth aE bp).ac (nth aE bp).ar (IntKind.i64.wrap ((nth aE bp).au - 1)))) bp).au==0))] trivial
         unfold Ii at h
         refine dI (fun sk=> ?_) (fun sk=> ?_)
         ·
          replace h:=h.1 sk
          refine bM [2000007] 32 ?_
          obtain⟨sl,h⟩:=h
          refine P6 (⟨1,4,[[an (aa M).ok,aj 1 0 (aa M).aw.length,aj 2 0 (aa M).ap.length,aj 3 0 (aE.set bp.toNat (ad.mk (nth aE bp).aq (nth aE bp).af (nth aE bp).ac (nth aE bp).ar (IntKind.i64.wrap ((nth aE bp).au - 1)))).length]]⟩::⟨0,1,List.map aY (aa M).aw⟩::⟨0,2,List.map a7 (aa M).ap⟩::⟨0,5,a1 4 (aE.set bp.toNat (ad.mk (nth aE bp).aq (nth aE bp).af (nth aE bp).ac (nth aE bp).ar (IntKind.i64.wrap ((nth aE bp).au - 1)))) b7⟩::List.map bo aZ) (by rw[show aE.length=(aE.set bp.toNat (ad.mk (nth aE bp).aq (nth aE bp).af (nth aE bp).ac (nth aE bp).ar (IntKind.i64.wrap ((nth aE bp).au - 1)))).length by simp]<;>rfl) ?_
          refine tu 2 (some 126) [(125,.ptr 3 0 (0+bp.toNat) 0)] [.ptr 3 0 (0+bp.toNat) 0] _ (IH bp 1 (aa M).ok (aa M).aw (aa M).ap (aE.set bp.toNat (ad.mk (nth aE bp).aq (nth aE bp).af (nth aE bp).ac (nth aE bp).ar (IntKind.i64.wrap ((nth aE bp).au - 1)))) b7 aZ sl) (fun r H' ak=>by obtain⟨_,_,_,rfl,_⟩:=ak;rfl) ?_
          rintro r H' ⟨xV,i71,vP,rfl,rfl,tl⟩
          replace h:=h xV i71 vP tl
          refine dY [] ?_
          refine cm.normal ?_
          refine eb.normal ?_
          refine bM [2000007] 33 ?_
          refine dY [(101,ag (IntKind.i64.wrap (bp+1))),(127,ag (IntKind.i64.wrap (bp+1)))] ?_
          exact d_.again (vP,i71,(IntKind.i64.wrap (bp+1)),xV) h (dC [])
         ·
          replace h:=h.2 sk
          refine eo ?_
          refine cm.normal ?_
          refine eb.normal ?_
          refine bM [2000007] 33 ?_
          refine dY [(101,ag (IntKind.i64.wrap (bp+1))),(127,ag (IntKind.i64.wrap (bp+1)))] ?_
          exact d_.again (aZ,b7,(IntKind.i64.wrap (bp+1)),(aE.set bp.toNat (ad.mk (nth aE bp).aq (nth aE bp).af (nth aE bp).ac (nth aE bp).ar (IntKind.i64.wrap ((nth aE bp).au - 1))))) h (hq (s':=⟨(bi 133 [(3,aA 3 0),(6,aA 6 0),(7,.ptr 0 1 0 0),(8,ag 0),(100,ag ((aa M).O.length:Int)),(101,ag (IntKind.i64.wrap (bp+1)))]),[(6,[ag 0,an false,aF,aF,aF]),(3,(bg false J))],(⟨1,4,[[an (aa M).ok,aj 1 0 (aa M).aw.length,aj 2 0 (aa M).ap.length,aj 3 0 aE.length]]⟩::⟨0,1,List.map aY (aa M).aw⟩::⟨0,2,List.map a7 (aa M).ap⟩::⟨0,5,a1 4 (aE.set bp.toNat (ad.mk (nth aE bp).aq (nth aE bp).af (nth aE bp).ac (nth aE bp).ar (IntKind.i64.wrap ((nth aE bp).au - 1)))) b7⟩::List.map bo aZ)⟩) (dC (n:=133) (A':=[(3,aA 3 0),(6,aA 6 0),(7,.ptr 0 1 0 0),(8,ag 0),(100,ag ((aa M).O.length:Int)),(101,ag (IntKind.i64.wrap (bp+1)))]) (L':=[(6,[ag 0,an false,aF,aF,aF]),(3,(bg false J))]) []) (congrArg (fun z=>(⟨(bi 133 [(3,aA 3 0),(6,aA 6 0),(7,.ptr 0 1 0 0),(8,ag 0),(100,ag ((aa M).O.length:Int)),(101,ag (IntKind.i64.wrap (bp+1)))]),[(6,[ag 0,an false,aF,aF,aF]),(3,(bg false J))],(⟨1,4,[[an (aa M).ok,aj 1 0 (aa M).aw.length,aj 2 0 (aa M).ap.length,aj 3 0 z]]⟩::⟨0,1,List.map aY (aa M).aw⟩::⟨0,2,List.map a7 (aa M).ap⟩::⟨0,5,a1 4 (aE.set bp.toNat (ad.mk (nth aE bp).aq (nth aE bp).af (nth aE bp).ac (nth aE bp).ar (IntKind.i64.wrap ((nth aE bp).au - 1)))) b7⟩::List.map bo aZ)⟩:St)) (show aE.length=(aE.set bp.toNat (ad.mk (nth aE bp).aq (nth aE bp).af (nth aE bp).ac (nth aE bp).ar (IntKind.i64.wrap ((nth aE bp).au - 1)))).length by simp)))
        ·
         replace h:=h.2 lI
         refine eo ?_
         refine cm.normal ?_
         exact g1.normal ((List.map ad.ac (aa M).O),(aa M).aw,(aa M).ap,(List.range (aa M).O.length),0,(aa M).O) h (dC [5,4])
 obtain⟨aZ,aH,bz,b7,c4,aE⟩:=v
 replace h:=h aZ aH bz b7 c4 aE de
 dsimp only
 unfold Ie at h
 refine hJ ?_
 refine bM [2000007] 34 ?_
 obtain⟨CB,h⟩:=h
 refine tu 2 (some 129) [(128,.agg (bg false J))] [.agg (bg false J),.ptr 0 1 0 0] _ (Rl J 1 (aa M).ok aH bz aE b7 aZ CB) (fun r H' ak=>by obtain⟨_,_,_,rfl,_⟩:=ak;rfl) ?_
 rintro r H' ⟨oG,i82,sE,rfl,rfl,zF⟩
 replace h:=h oG i82 sE zF
 refine dY [] ?_
 refine eb.normal ?_
 refine j4 ⟨(bi 133 [(6,aA 6 0)]),[(6,[ag c4,an (aa M).ok,aj 1 0 aH.length,aj 2 0 bz.length,aj 3 0 oG.length]),(3,(bg false J))],(⟨1,4,[[an (aa M).ok,aj 1 0 aH.length,aj 2 0 bz.length,aj 3 0 oG.length]]⟩::⟨0,1,List.map aY aH⟩::⟨0,2,List.map a7 bz⟩::⟨0,5,a1 4 oG i82⟩::List.map bo sE)⟩ (True) ?_ (fun tq=> ?_)
 ·
  refine bM [2000007] 35 ?_
  refine nS 2 (some 131) (.agg [an (aa M).ok,aj 1 0 aH.length,aj 2 0 bz.length,aj 3 0 oG.length]) [(130,ag c4)] (φ:=1=1) rfl ?_
  exact b6 [(132,.agg [ag c4,an (aa M).ok,aj 1 0 aH.length,aj 2 0 bz.length,aj 3 0 oG.length])] trivial
 exact hr (nm (.agg [ag c4,an (aa M).ok,aj 1 0 aH.length,aj 2 0 bz.length,aj 3 0 oG.length]) (ii.agg (aD.cons (xK h.1) (aD.cons (np h.2.1) (aD.cons (ri (sz:=1) (by simp) rfl (vV) h.2.2.1) (aD.cons (ri (sz:=2) (by simp) rfl (yi) h.2.2.2.1) (aD.cons (CV (s:=4) (ws:=oG) (ids:=i82) (bs:=sE) (by simp) rfl (fun id k h=>by simpa using h) h.2.2.2.2) aD.nil)))))))
theorem ac4 (J:az) (M:Frame) (U:Event) (aI:CO J M U):b2 Try.prog 92 [.agg (bg false J),.agg (bZ false M),.agg (ju U)] (.agg (sL true (gv J M U))):=ac9 J M U (gv J M U) (fun bs is v ws=>ct M.O.length (fun _=>false) v∧gA ws is bs∧view ws is bs=hD J v.toNat M.O) (fun _ _ v _=>cG M.O.length v) (fun bs o q is c ws=>gA ws is bs∧c=eH J M U∧Frame.mk M.ok o q (view ws is bs)=jU J M U) (by
 unfold Ia If
 have hs:jH M:=aI
 have l7:=hs
 obtain⟨x1,oH,Af,vC⟩:=l7
 refine⟨⟨⟨hs,fun hk=> ?_⟩,fun hc=> ?_⟩,fun hc=> ?_⟩
 ·have hk:eI J M=true:=by simpa using hk
  have h1:=(ms hk).in.c2
  exact⟨by omega,by omega⟩
 ·have hc: ¬(eI J M&&ey J U)=true:=by
   intro h;rw[Bool.and_eq_true] at h;rw[h.1,h.2] at hc;cases hc
  have e:gv J M U=⟨1,⟨false,[],[],[]⟩⟩:=by unfold gv;rw[if_neg hc]
  rw[e];exact⟨rfl,rfl,rfl,rfl,rfl⟩
 have hc:eI J M=true∧ey J U=true:=by simpa using hc
 obtain⟨hk,he⟩:=hc
 have hf:=ms hk
 have cF:=hf.in
 have cZ:=hf.fr
 have aL:=cZ.O
 have nG:=cZ.aw
 have k8:=cZ.ap
 have yX:=cF.O
 have nH:=cF.c2
 have wP:=cF.sw
 have Fm:gv J M U=⟨eH J M U,ea J (jU J M U)⟩:=by unfold gv;rw[if_pos (by rw[hk,he];rfl)]
 obtain⟨fv,fZ,fE⟩:=we M.O
 have lA:gA M.O (List.range M.O.length) (M.O.map ad.ac):=⟨fv,fZ,fun b hb=>by
  obtain⟨h,b0,rfl⟩:=List.mem_map.1 hb;exact vC h b0⟩
 have BL:c7 (aa M).ok (aa M).aw (aa M).ap (aa M).O (List.range (aa M).O.length) (List.map ad.ac (aa M).O)=M:=by
  show Frame.mk M.ok M.aw M.ap (view M.O (List.range M.O.length) (List.map ad.ac M.O))=M
  rw[fE]
 have Mp:view (aa M).O (List.range (aa M).O.length) (List.map ad.ac (aa M).O)=M.O:=fE
 have l6: ∀c:Int,c=eH J M U→c≠0→gA M.O (List.range M.O.length) (M.O.map ad.ac)∧c=eH J M U∧Frame.mk M.ok M.aw M.ap (view M.O (List.range M.O.length) (M.O.map ad.ac))=jU J M U:=fun c hc cl=>⟨lA,hc,by
  unfold jU;rw[if_neg (by rw[←hc];exact cl),fE]⟩
 have Fg:eH J M U=0→jU J M U=fk J M U:=fun h=>by unfold jU;rw[if_pos h]
 refine⟨hs,⟨fun h1=> ?_,fun h1=> ?_⟩,fun bs o q is c ws de=> ?_⟩
 ·have h1:U.op=1:=by simpa using h1
  have bq:=mY he (.inl h1)
  have rU:eH J M U=eA J M U.ah:=by unfold eH;rw[if_pos h1]
  unfold Ib
  refine⟨⟨hf,bq.1,bq.2⟩,fun aP=>⟨⟨lA,cF,bq.1,by show U.ah<(M.O.length:Int);omega,bq.2,k8⟩,fun q w kv=> ?_⟩,fun aP=> ?_⟩
  ·have aP:eA J M U.ah=0:=by simpa using aP
   obtain⟨ak,G,hv⟩:=kv
   rw[Mp] at hv
   refine⟨G,rU.symm,?_⟩
   rw[Fg (by rw[rU,aP])]
   unfold fk
   rw[if_pos h1,hv,ak];rfl
  ·have aP: ¬eA J M U.ah=0:=by simpa using aP
   exact l6 _ rU.symm aP
 ·have h1: ¬U.op=1:=by simpa using h1
  unfold Ic
  refine⟨fun h2=> ?_,fun h2=> ?_⟩
  ·have h2:U.op=2:=by simpa using h2
   have bq:=mY he (.inr h2)
   refine⟨⟨lA,cF,bq.1,by show U.ah<(M.O.length:Int);omega,bq.2,nG⟩,fun w i b r kv=> ?_⟩
   unfold uN at kv
   rw[BL,Mp] at kv
   obtain⟨G,aK,hv⟩:=kv
   have rU:eH J M U=sF M U.ah:=by unfold eH;rw[if_neg h1,if_pos h2];rfl
   refine⟨G,aK.trans rU.symm,?_⟩
   unfold jU
   rw[rU,hv]
   by_cases aP:sF M U.ah=0
   ·rw[if_pos aP,if_pos aP]
    unfold fk Ax
    rw[if_neg h1,if_pos h2,Mu cZ bq.1 bq.2]
    split<;>rfl
   ·rw[if_neg aP,if_neg aP];rfl
  have h2: ¬U.op=2:=by simpa using h2
  have ok: ∀(o:List Bool) (q:List a8),eH J M U=0→fk J M U={M with aw:=o,ap:=q}→gA M.O (List.range M.O.length) (M.O.map ad.ac)∧0=eH J M U∧Frame.mk M.ok o q (view M.O (List.range M.O.length) (M.O.map ad.ac))=jU J M U:=fun o q hc bh=>⟨lA,hc.symm,by rw[Fg hc,fE,bh]⟩
  unfold Io
  refine⟨fun aO=> ?_,fun aO=>⟨fun bd=> ?_,fun bd=> ?_⟩⟩
  ·have aO:U.op=3:=by simpa using aO
   have bq:=En he (.inl aO)
   refine⟨⟨bq.1,by show U.ah.toNat<M.aw.length;omega⟩,ok _ _ ?_ ?_⟩
   ·unfold eH;rw[if_neg h1,if_neg h2,if_neg (by omega)]
   ·unfold fk;rw[if_neg h1,if_neg h2,if_pos (.inl aO),aO];rfl
  ·have bd:U.op=4:=by simpa using bd
   have bq:=En he (.inr bd)
   refine⟨⟨bq.1,by show U.ah.toNat<M.aw.length;omega⟩,ok _ _ ?_ ?_⟩
   ·unfold eH;rw[if_neg h1,if_neg h2,if_neg (by omega)]
   ·unfold fk;rw[if_neg h1,if_neg h2,if_pos (.inr bd),bd];rfl
  have af3: ¬U.op=3:=by simpa using aO
  have af4: ¬U.op=4:=by simpa using bd
  have aO: ¬(U.op=3∨U.op=4):=by omega
  unfold Im
  refine⟨fun ch=> ?_,fun ch=> ?_⟩
  ·have ch:U.op=5:=by simpa using ch
   have bq:=wb he (.inl ch)
   refine⟨⟨bq.1,by show U.ah.toNat<M.ap.length;omega⟩,ok _ _ ?_ ?_⟩
   ·unfold eH;rw[if_neg h1,if_neg h2,if_neg (by omega)]
   ·unfold fk;rw[if_neg h1,if_neg h2,if_neg aO,if_pos ch];rfl
  have ch: ¬U.op=5:=by simpa using ch
  refine⟨fun cD=> ?_,fun cD=>⟨fun gp=> ?_,fun gp=> ?_⟩⟩
  ·have cD:U.op=6:=by simpa using cD
   have bq:=wb he (.inr cD)
   have j9:eH J M U=if hO J M U.ah=true then 2 else if jV J M U.ah=true then 3 else 0:=by unfold eH;rw[if_neg h1,if_neg h2,if_pos cD]
   refine⟨⟨hf,bq.1,bq.2⟩,fun _=> ?_⟩
   unfold Ih Ig
   have Ft:=cF.a5 _ (dz (show U.ah.toNat<J.a5.length by omega))
   refine⟨fun hc=> ?_,fun hc=>⟨⟨⟨bq.1,by omega⟩,Ft.1,by omega⟩,fun aC=> ?_,fun aC=>⟨⟨bq.1,by show _<M.ap.length;omega⟩,ok _ _ ?_ ?_⟩⟩⟩
   ·rw[if_pos (show hO J M U.ah=true from hc)] at j9
    exact l6 2 j9.symm (by decide)
   ·rw[if_neg (show ¬hO J M U.ah=true by rw[show hO J M U.ah=false from hc];simp),if_pos (show jV J M U.ah=true from aC)] at j9
    exact l6 3 j9.symm (by decide)
   ·rw[if_neg (show ¬hO J M U.ah=true by rw[show hO J M U.ah=false from hc];simp),if_neg (show ¬jV J M U.ah=true by rw[show jV J M U.ah=false from aC];simp)] at j9
    exact j9
   ·unfold fk;rw[if_neg h1,if_neg h2,if_neg aO,if_neg ch,if_pos cD];rfl
  ·have cD: ¬U.op=6:=by simpa using cD
   have gp:U.op=7:=by simpa using gp
   have j9:eH J M U=0:=by unfold eH;rw[if_neg h1,if_neg h2,if_neg cD]
   unfold Il
   refine⟨⟨df (dp _),lA,fE⟩,fun bs is v ws a0=> ?_⟩
   obtain⟨a0,G,j_⟩:=a0
   have BP:ws.length=M.O.length:=by rw[←jo G.ok,j_,z6]
   refine⟨fun hv=>⟨G,j9.symm,?_⟩,fun hv=> ?_⟩
   ·have kx: ¬v<(M.O.length:Int):=of_decide_eq_false hv
    have a3:=a0.1
    have hb:=a0.2.1
    rw[Fg j9,j_,show v.toNat=M.O.length by omega]
    unfold fk;rw[if_neg h1,if_neg h2,if_neg aO,if_neg ch,if_neg cD,if_pos gp];rfl
   ·have b9:=cb a0 hv
    have bf:v.toNat<ws.length:=by omega
    have wF:v.toNat<J.O.length:=by omega
    have dy:dr (hD J v.toNat M.O) is v (nth (hD J v.toNat M.O) v) ws bs:=dr.start G.ok G.kV bf j_ G.len
    have bk:=cO (by omega) a0 hv rfl
    have qJ:=iU (show(M.O.length:Int)≤4611686018427387904 by omega) a0.1 (of_decide_eq_true hv)
    have eE:=dy.xF (IntKind.i64.wrap ((nth ws v).au - 1))
    have fin: ∀{di:List Nat} {kH:List ad} {mr:List (List Bool)} {x:ad},dr (hD J v.toNat M.O) di v x kH mr→x=kZ J v.toNat (nth (hD J v.toNat M.O) v)→(ct M.O.length (fun _=>false) (IntKind.i64.wrap (v+1))∧gA kH di mr∧view kH di mr=hD J (IntKind.i64.wrap (v+1)).toNat M.O)∧cG M.O.length (IntKind.i64.wrap (v+1))<cG M.O.length v:=fun F hx=>by
     refine⟨⟨bk.1,F.G,?_⟩,bk.2⟩
     rw[F.gZ,hx,qJ,show(v+1).toNat=v.toNat+1 by omega]
     show _=(hD J v.toNat M.O).set v.toNat (kZ J v.toNat (nth (hD J v.toNat M.O) (v.toNat:Int)))
     rw[jy b9.1]
    have bq:(nth (ws.set v.toNat (ad.mk (nth ws v).aq (nth ws v).af (nth ws v).ac (nth ws v).ar (IntKind.i64.wrap ((nth ws v).au - 1)))) v).au=IntKind.i64.wrap ((nth ws v).au - 1):=eE.au
    have E8:a6 J (v.toNat:Int)=a6 J v:=by rw[Int.toNat_of_nonneg b9.1]
    unfold Ik Ij Ii
    rw[bq,dy.au,dy.aq]
    rw[dy.au,dy.aq] at eE
    refine⟨⟨b9.1,bf⟩,⟨dy.fo,fun aO=>fin dy ?_⟩,fun aO=>⟨⟨dy.fo,dy.fo⟩,eE.fo,fun aT=>⟨⟨eE.G,b9.1,by have:=eE.lt;omega⟩,fun w i b kv=> ?_⟩,fun aT=>fin eE ?_⟩⟩
    ·unfold kZ;rw[if_neg (by simpa using aO)]
    ·obtain⟨n4,kx⟩:=kv
     refine fin (eE.again n4 kx) ?_
     have hb:=Je cZ v.toNat
     have ek:=Mu hb b9.1 (by omega)
     unfold kZ
     rw[if_pos (by simpa using aO),if_pos (by simpa using aT),E8,←ek,eE.xc]
    ·unfold kZ;rw[if_pos (by simpa using aO),if_neg (by simpa using aT)]
  ·have cD: ¬U.op=6:=by simpa using cD
   have gp: ¬U.op=7:=by simpa using gp
   refine ok _ _ ?_ ?_
   ·unfold eH;rw[if_neg h1,if_neg h2,if_neg cD]
   ·unfold fk;rw[if_neg h1,if_neg h2,if_neg aO,if_neg ch,if_neg cD,if_neg gp];rfl
 ·obtain⟨G,hc,bh⟩:=de
  have b9:=aaE cZ he
  have pG:c7 (aa M).ok o q ws is bs=jU J M U:=bh
  have k9:=pc J (jU J M U) (jU J M U).O.length
  unfold Ie
  refine⟨⟨G,cF,by rw[pG];exact b9⟩,fun w i b kv=> ?_⟩
  obtain⟨n4,kx⟩:=kv
  rw[pG] at kx
  rw[←bh] at b9
  have aC:=b9.aw
  have ak:=b9.ap
  replace aC:(o.length:Int)=J.ai:=aC
  replace ak:q.length=J.a5.length:=ak
  have BP:w.length=(jU J M U).O.length:=by rw[←jo n4.ok,kx];exact pb _ _ _
  have hml:(jU J M U).O.length=J.O.length:=by rw[←bh];exact b9.O
  rw[Fm]
  refine⟨hc,?_,⟨by omega,?_⟩,⟨by omega,?_⟩,n4.ok,by omega,fun x hx=>by have:=n4.len x hx;omega,kx⟩
  ·show M.ok=(ea J (jU J M U)).ok
   unfold ea;rw[k9.1,←bh]
  ·show o=(ea J (jU J M U)).aw
   unfold ea;rw[k9.2.1,←bh]
  ·show q=(ea J (jU J M U)).ap
   unfold ea;rw[k9.2.2,←bh])
def ac6:eC Try.prog:=⟨92,[.dt,.frame,.fT],[.done],some fun x=>CO x.1 x.2.1 x.2.2.1,fun x=>((gv x.1 x.2.1 x.2.2.1),()),fun x h=>ac4 x.1 x.2.1 x.2.2.1 h⟩
def aex:List Item:=[ao 0,ao 1,ao 2,ao 3,ao 4,ao 5,ao 6,ao 7,ao 8,ao 9]
def aey:List (List Nat):=[[],[0],[0,1],[0,1,2],[],[4],[4,5],[4,5,6],rg 4 8,rg 0 9]
def aez:List Item:=[ao 0,ao 1,ao 2,ao 3,ao 4,ao 5,ao 6,ao 7,ao 8,ao 9,ao 10]
def aeA:List (List Nat):=[[],[0],[0,1],[0,1,2],[],[4],[4,5],[4,5,6],rg 0 8,rg 0 9,rg 0 10]
def RX (c c':bc) (al:Int):Prop:=
  ((bc.mk c.code (IntKind.i64.wrap (c.pos+1)) (IntKind.u64.wrap ((IntKind.u64.wrap (c.tz*6364136223846793005))+1442695040888963407)))=c')∧((IntKind.i64.wrap ((IntKind.u64.wrap (((BitVec.ofInt IntKind.u64.bits ((IntKind.u64.wrap ((IntKind.u64.wrap (c.tz*6364136223846793005))+1442695040888963407)).fdiv (2 ^ (min (40:Int).toNat IntKind.u64.bits)))&&&BitVec.ofInt IntKind.u64.bits 255).toNat:Int)))))=al)
def RY (c c':bc) (al:Int):Prop:=
  ((decide (c.pos<(c.code.length:Int)))=true→(0≤c.pos∧c.pos.toNat<c.code.length)∧(((bc.mk c.code (IntKind.i64.wrap (c.pos+1)) (IntKind.u64.wrap ((IntKind.u64.wrap ((IntKind.u64.wrap (c.tz*6364136223846793005))+(IntKind.u64.wrap (((nth c.code c.pos).toNat:Int)))))+1442695040888963407)))=c')∧((IntKind.i64.wrap (((nth c.code c.pos).toNat:Int)))=al)))∧((!(decide (c.pos<(c.code.length:Int))))=true→(0≤(40:Int))∧(RX c c' al))
def RW (c c':bc) (al:Int):Prop:=
 RY c c' al
theorem aev (hg:Nat) (c:bc) (aI:bX 1 c):iW Try.prog 163 hg (j5 hg [.p] ()) (cd false .dd c) (cd false .dd (lE c)) (k5 [.int] ((nb c),())):=(fun(h:RW c (lE c) (nb c))=>iW.run (hg:=hg) (ce:= .dd) (l:=[.p]) (rs:=[.int]) (x:=()) (c:=c) (c':=(lE c)) (r:=((nb c),())) ⟨68,ep,[]⟩ ⟨[],[(1,aex,aey),(2,aez,aeA)],[],[],[]⟩ .nil Try.func163 h) (by
 unfold RW RY RX lE nb
 cases hb:decide (c.pos<(c.code.length:Int)) with
 | true=>
  have h1:c.pos<(c.code.length:Int):=by simpa using hb
  exact⟨fun _=>⟨⟨aI.1,by have:=aI.1;omega⟩,rfl,rfl⟩,fun h=>(by cases h)⟩
 | false=>exact⟨fun h=>(by cases h),fun _=>⟨by decide,rfl,rfl⟩⟩)
def aew:ls Try.prog:=⟨163,.dd,[.p],[.int],fun x c=>bX 1 c,fun x c=>lE c,fun x c=>((nb c),()),fun g x c h=>aev g c h⟩
def R1 (M:Int) (c c':bc) (al:Int):Prop:=
 ((decide (M≤1))=true→(c=c')∧(0=al))∧((!(decide (M≤1)))=true→(bX 1 c)∧(((decide (M>200))=true→bX 1 (lE c))∧((M≠0)∧(((bif (decide (M>200)) then(lE (lE c)) else(lE c))=c')∧(((bif (decide (M>200)) then(IntKind.i64.wrap ((IntKind.i64.wrap ((nb c)*256))+(nb (lE c)))) else(nb c)).tmod M)=al)))))
theorem aeD (hg:Nat) (M:Int) (c:bc) (aI:iI M c):iW Try.prog 148 hg (j5 hg [.p,.v .int] (M,())) (cd false .dd c) (cd false .dd (bN M c)) (k5 [.int] ((cN M c),())):=(fun(h:R1 M c (bN M c) (cN M c))=>iW.run (hg:=hg) (ce:= .dd) (l:=[.p,.v .int]) (rs:=[.int]) (x:=(M,())) (c:=c) (c':=(bN M c)) (r:=((cN M c),())) ⟨20,ep,[]⟩ ⟨[],[],[],[aew],[]⟩ .nil Try.func148 h) (by
 unfold R1 bN cN
 refine⟨fun h=> ?_,fun h=> ?_⟩
 ·have h:M≤1:=by simpa using h
  rw[if_pos h,if_pos h];exact⟨rfl,rfl⟩
 ·have h: ¬M≤1:=by simpa using h
  rw[if_neg h,if_neg h]
  exact⟨aI.mono (by omega),fun _=>bX.next (k:=1) aI (by omega),by omega,rfl,rfl⟩)
def z0:ls Try.prog:=⟨148,.dd,[.p,.v .int],[.int],fun x c=>iI x.1 c,fun x c=>bN x.1 c,fun x c=>((cN x.1 c),()),fun g x c h=>aeD g x.1 c h⟩
abbrev mO (r:Type):Type:=bc→Nat→(List Int)→Int→r
def Sg (ay:mO Prop) (aB:mO Nat) (M:Int) (db:(List Int)) (bO:bc) (aR:Nat) (aH:(List Int)) (v10:Int):Prop:=
  (((!(meets [(cN M bO)] aH))&&(!(meets [(cN M bO)] db)))=true→((aH.length+[(cN M bO)].length)*8≤140737488355328∧aH.length+[(cN M bO)].length≤4611686018427387904)∧(ay (bN M bO) (aR+1) (aH++[(cN M bO)]) (IntKind.i64.wrap (v10 - 1))∧aB (bN M bO) (aR+1) (aH++[(cN M bO)]) (IntKind.i64.wrap (v10 - 1))<aB bO aR aH v10))∧(((!(meets [(cN M bO)] aH))&&(!(meets [(cN M bO)] db)))=false→ay (bN M bO) aR aH (IntKind.i64.wrap (v10 - 1))∧aB (bN M bO) aR aH (IntKind.i64.wrap (v10 - 1))<aB bO aR aH v10)
def Sh (ay:mO Prop) (aB:mO Nat) (M U:Int) (db:(List Int)) (c c':bc) (al:(List Int)):Prop:=
  (iI (IntKind.i64.wrap (U+1)) c)∧(ay (bN (IntKind.i64.wrap (U+1)) c) 0 ([]:List Int) (cN (IntKind.i64.wrap (U+1)) c)∧ ∀(bO:bc) (aR:Nat) (aH:(List Int)) (v10:Int),ay bO aR aH v10→(((decide (v10>0))=false→(bO=c')∧(aH.length≤4611686018427387904∧aH=al))∧((decide (v10>0))=true→(iI M bO)∧((aH.length≤4611686018427387904)∧(Sg ay aB M db bO aR aH v10)))))
def Sf (M:Int) (U:Int) (db:(List Int)) (c c':bc) (al:(List Int)) (ay:mO Prop) (aB:mO Nat):Prop:=
 Sh ay aB M U db c c' al
theorem aeO (hg:Nat) (M:Int) (U:Int) (db:(List Int)) (c:bc) (aI:zX M U db c):iW Try.prog 149 hg (j5 hg [.p,.v .int,.v .int,.v (.l .int)] (M,U,db,())) (cd false .dd c) (cd false .dd (h8 M U db c)) (k5 [(.l .int)] ((hC M U db c),())):=(fun(ay:mO Prop) (aB:mO Nat) (h:Sf M U db c (h8 M U db c) (hC M U db c) ay aB)=>iW.run (hg:=hg) (ce:= .dd) (l:=[.p,.v .int,.v .int,.v (.l .int)]) (rs:=[(.l .int)]) (x:=(M,U,db,())) (c:=c) (c':=(h8 M U db c)) (r:=((hC M U db c),())) ⟨40,ep,[zZ]⟩ ⟨[],[],[],[z0],[]⟩ (.lp [(0,9,.int)] [0,1,3] [] [.dd,.nat,(.l .int),.int] [bD 0,bD 1,bD 1,10] (fun aM=>[(9,.ref 1 aM.2.1 aM.2.2.1.length false),(10,.i .i64 aM.2.2.2.1),(bD 0,.eN hg (gJ false .dd aM.1)),(bD 1,.blk aM.2.1 .int aM.2.2.1 _ rfl)]) (fun aM=>ay aM.1 aM.2.1 aM.2.2.1 aM.2.2.2.1) (fun aM=>aB aM.1 aM.2.1 aM.2.2.1 aM.2.2.2.1) fun _=> .nil) Try.func149 h) (fun d _ x v=>(0≤v∧v≤4)∧bX (2*v) d∧x.length+v.toNat≤4∧vl M db v.toNat d x=H3 M U db c) (fun _ _ _ v=>v.toNat) (by
 obtain⟨ak,aT,bd⟩:=aI
 have hw:IntKind.i64.wrap (U+1)=U+1:=fG (by omega) (by omega)
 have hv:=nd (IntKind.i64.wrap (U+1)) c
 have kM:=QE (c:=c) aT bd
 unfold zW at kM
 unfold Sf Sh
 refine⟨ak.mono (by omega),⟨⟨hv.1,by omega⟩,(bX.pick (k:=8) (ak.mono (by omega)) (by omega)).mono (by omega),by show 0+_≤4;omega,rfl⟩,fun bO aR aH v ⟨aK,aI,aL,he⟩=>⟨fun hv=> ?_,fun hv=>⟨aI.mono ?_,by omega,?_⟩⟩⟩
 ·have hv: ¬v>0:=by simpa using hv
  have il:v.toNat=0:=by omega
  rw[il] at he
  unfold h8 hC
  rw[←he]
  exact⟨rfl,by omega,rfl⟩
 ·have hv:v>0:=by simpa using hv
  omega
 ·have hv:v>0:=by simpa using hv
  have mZ:IntKind.i64.wrap (v - 1)=v - 1:=fG (by omega) (by omega)
  have rI:v.toNat=(v - 1).toNat+1:=by omega
  have bh:bX (2*(v - 1)) (bN M bO):=bX.pick (aI.mono (by omega)) (by omega)
  rw[rI] at he
  unfold vl at he
  unfold Sg
  rw[mZ]
  refine⟨fun hb=>⟨⟨by simp;omega,by simp;omega⟩,⟨⟨by omega,by omega⟩,bh,by simp;omega,?_⟩,by show(v - 1).toNat<v.toNat;omega⟩,fun hb=>⟨⟨⟨by omega,by omega⟩,bh,by omega,?_⟩,by show(v - 1).toNat<v.toNat;omega⟩⟩
  ·rw[if_pos hb] at he;exact he
  ·rw[if_neg (by rw[hb];simp)] at he;exact he)
def aeP:ls Try.prog:=⟨149,.dd,[.p,.v .int,.v .int,.v (.l .int)],[(.l .int)],fun x c=>zX x.1 x.2.1 x.2.2.1 c,fun x c=>h8 x.1 x.2.1 x.2.2.1 c,fun x c=>((hC x.1 x.2.1 x.2.2.1 c),()),fun g x c h=>aeO g x.1 x.2.1 x.2.2.1 c h⟩
def R0 (c c':bc) (al:Event):Prop:=
  (((cN 2 (bN 4 (bN 8 (bN 9 c))))==0)=true→((bN 2 (bN 4 (bN 8 (bN 9 c))))=c')∧(((cN 9 c)=al.op)∧((IntKind.i64.wrap ((cN 8 (bN 9 c)) - 1))=al.ah)∧(0=al.bj)))∧(((cN 2 (bN 4 (bN 8 (bN 9 c))))==0)=false→((bN 2 (bN 4 (bN 8 (bN 9 c))))=c')∧(((cN 9 c)=al.op)∧((IntKind.i64.wrap ((cN 8 (bN 9 c)) - 1))=al.ah)∧((IntKind.i64.wrap ((cN 4 (bN 8 (bN 9 c))) - 1))=al.bj)))
def RZ (M:az) (c c':bc) (al:Event):Prop:=
 ((iI 9 c)∧((iI 8 (bN 9 c))∧(iI 4 (bN 8 (bN 9 c)))))∧((iI 2 (bN 4 (bN 8 (bN 9 c))))∧(R0 c c' al))
theorem aeB (hg:Nat) (M:az) (c:bc) (aI:G2 M c):iW Try.prog 151 hg (j5 hg [.p,.v .dt] (M,())) (cd false .dd c) (cd false .dd (o4 M c)) (k5 [.fT] ((iH M c),())):=(fun(h:RZ M c (o4 M c) (iH M c))=>iW.run (hg:=hg) (ce:= .dd) (l:=[.p,.v .dt]) (rs:=[.fT]) (x:=(M,())) (c:=c) (c':=(o4 M c)) (r:=((iH M c),())) ⟨20,ep,[]⟩ ⟨[],[],[],[z0],[]⟩ .nil Try.func151 h) (by
 unfold RZ R0 o4 iH
 have h1:bX 6 (bN 9 c):=bX.pick (aI.mono (by omega)) (by omega)
 have h2:bX 4 (bN 8 (bN 9 c)):=bX.pick (h1.mono (by omega)) (by omega)
 have aO:bX 2 (bN 4 (bN 8 (bN 9 c))):=bX.pick (h2.mono (by omega)) (by omega)
 refine⟨⟨aI.mono (by omega),h1.mono (by omega),h2.mono (by omega)⟩,aO.mono (by omega),fun h=>⟨rfl,rfl,rfl,?_⟩,fun h=>⟨rfl,rfl,rfl,?_⟩⟩
 ·rw[h];rfl
 ·rw[h];rfl)
def aeC:ls Try.prog:=⟨151,.dd,[.p,.v .dt],[.fT],fun x c=>G2 x.1 c,fun x c=>o4 x.1 c,fun x c=>((iH x.1 c),()),fun g x c h=>aeB g x.1 c h⟩
def aeS:List Item:=[ao 0,ao 1,ao 2,ao 3,ao 4,ao 5,ao 6,ao 7,ao 8,ao 9,ao 10,ao 11,ao 12,ao 13,ao 14,ao 15,ao 16,ao 17,ao 18,ao 19,ao 20,ao 21,ao 22,ao 23,ao 24,ao 25,ao 26,ao 27]
def aeT:List (List Nat):=[[],[0],[0,1],[0,1,2],rg 0 4,rg 0 5,rg 0 4,rg 0 7,rg 0 8,rg 0 9,rg 0 10,rg 0 11,rg 0 11,rg 0 11++[12],rg 0 11++[12,13],rg 0 15,rg 0 16,rg 0 17,rg 0 18,rg 0 17,rg 0 17,rg 0 17++[20],rg 0 17++[19,20,21],rg 0 17++rg 19 23,rg 0 24,rg 0 25,rg 0 26,rg 0 27]
def Sj (M:az) (U:Frame) (c c':bc) (al:Event) (dk c9:Int):Prop:=
  ((((nth U.O c9).aq==4)=true→(0≤(nth (nth M.O c9).ai dk)∧(nth (nth M.O c9).ai dk).toNat<U.aw.length)∧((nth U.aw (nth (nth M.O c9).ai dk))=true→(dk==(IntKind.i64.wrap (((nth M.O c9).ai.length:Int) - 1)))=false→(0≤(IntKind.i64.wrap (dk+1))∧(IntKind.i64.wrap (dk+1)).toNat<(nth M.O c9).ai.length)∧(0≤(nth (nth M.O c9).ai (IntKind.i64.wrap (dk+1)))∧(nth (nth M.O c9).ai (IntKind.i64.wrap (dk+1))).toNat<U.aw.length)))∧((((nth U.O c9).aq==4)&&((nth U.aw (nth (nth M.O c9).ai dk))&&((dk==(IntKind.i64.wrap (((nth M.O c9).ai.length:Int) - 1))) || (nth U.aw (nth (nth M.O c9).ai (IntKind.i64.wrap (dk+1)))))))=true→(c=c')∧((4=al.op)∧((nth (nth M.O c9).ai dk)=al.ah)∧(0=al.bj))))∧((!(((nth U.O c9).aq==4)&&((nth U.aw (nth (nth M.O c9).ai dk))&&((dk==(IntKind.i64.wrap (((nth M.O c9).ai.length:Int) - 1))) || (nth U.aw (nth (nth M.O c9).ai (IntKind.i64.wrap (dk+1))))))))=true→((decide (dk ≥ (nth U.O c9).af))=true→0≤dk∧dk.toNat<(nth U.O c9).ac.length)∧(((decide (dk ≥ (nth U.O c9).af))&&(!(nth (nth U.O c9).ac dk)))=true→(c=c')∧((3=al.op)∧((nth (nth M.O c9).ai dk)=al.ah)∧(0=al.bj))))
def Sk (aU:Int→Int→Prop) (aV:Int→Int→Nat) (M:az) (U:Frame) (c c':bc) (al:Event) (dk c9:Int):Prop:=
  ((0≤dk∧dk.toNat<(nth M.O c9).ai.length)∧(Sj M U c c' al dk c9))∧(((!(((nth U.O c9).aq==4)&&((nth U.aw (nth (nth M.O c9).ai dk))&&((dk==(IntKind.i64.wrap (((nth M.O c9).ai.length:Int) - 1))) || (nth U.aw (nth (nth M.O c9).ai (IntKind.i64.wrap (dk+1))))))))&&(!((decide (dk ≥ (nth U.O c9).af))&&(!(nth (nth U.O c9).ac dk)))))=true→aU c9 (IntKind.i64.wrap (dk+1))∧aV c9 (IntKind.i64.wrap (dk+1))<aV c9 dk)
def Sl (ay:Int→Prop) (aB:Int→Nat) (aU:Int→Int→Prop) (aV:Int→Int→Nat) (M:az) (U:Frame) (c c':bc) (al:Event) (c9:Int):Prop:=
  (0≤c9∧c9.toNat<M.O.length)∧((nth M.O c9).ai.length≤4611686018427387904→aU c9 0∧ ∀(dk:Int),aU c9 dk→(((decide (dk<((nth M.O c9).ai.length:Int)))=false→ay (IntKind.i64.wrap (c9+1))∧aB (IntKind.i64.wrap (c9+1))<aB c9)∧((decide (dk<((nth M.O c9).ai.length:Int)))=true→Sk aU aV M U c c' al dk c9)))
def Sm (ay:Int→Prop) (aB:Int→Nat) (aU:Int→Int→Prop) (aV:Int→Int→Nat) (M:az) (U:Frame) (c c':bc) (al:Event) (c9:Int):Prop:=
  ((decide (c9<(U.O.length:Int)))=false→(c=c')∧((1=al.op)∧(0=al.ah)∧(0=al.bj)))∧((decide (c9<(U.O.length:Int)))=true→(0≤c9∧c9.toNat<U.O.length)∧(((((nth U.O c9).aq==0) || ((nth U.O c9).aq==1))=true→ay (IntKind.i64.wrap (c9+1))∧aB (IntKind.i64.wrap (c9+1))<aB c9)∧((!(((nth U.O c9).aq==0) || ((nth U.O c9).aq==1)))=true→Sl ay aB aU aV M U c c' al c9)))
def Si (M:az) (U:Frame) (c c':bc) (al:Event) (ay:Int→Prop) (aB:Int→Nat) (aU:Int→Int→Prop) (aV:Int→Int→Nat):Prop:=
 U.O.length≤4611686018427387904→ay 0∧ ∀(c9:Int),ay c9→(Sm ay aB aU aV M U c c' al c9)
theorem aeQ (hg:Nat) (M:az) (U:Frame) (c:bc) (aI:Jh M U c):iW Try.prog 164 hg (j5 hg [.p,.v .dt,.v .frame] (M,U,())) (cd false .dd c) (cd false .dd (z7 M U c)) (k5 [.fT] ((p_ M U c),())):=(fun(ay:Int→Prop) (aB:Int→Nat) (aU:Int→Int→Prop) (aV:Int→Int→Nat) (h:Si M U c (z7 M U c) (p_ M U c) ay aB aU aV)=>iW.run (hg:=hg) (ce:= .dd) (l:=[.p,.v .dt,.v .frame]) (rs:=[.fT]) (x:=(M,U,())) (c:=c) (c':=(z7 M U c)) (r:=((p_ M U c),())) ⟨88,ep,[]⟩ ⟨[],[(9,aeS,aeT)],[],[],[]⟩ (e9 [4,5,6,13,14] [(6,3),(5,4),(4,5)] 15 ay aB fun aM=>(e9 [4,5,6,8,9,13,14,15,34,35] [(8,5),(6,3),(5,4),(4,5)] 36 (aU aM) (aV aM) fun _=> .nil)) Try.func164 h) (fun i=>(0≤i∧i≤U.O.length)∧xR M U (U.O.length - i).toNat i=p_ M U c) (fun i=>(U.O.length - i).toNat) (fun i k=>(0≤k∧k≤(nth M.O i).ai.length)∧vu M U i ((nth M.O i).ai.length - k).toNat k=vu M U i (nth M.O i).ai.length 0) (fun i k=>((nth M.O i).ai.length - k).toNat) (by
 obtain⟨cF,cZ⟩:=aI
 have agk:U.O.length=M.O.length:=cZ.O
 have hw:=cF.O
 unfold Si
 refine fun aG=>⟨⟨⟨Int.le_refl _,by omega⟩,by show xR M U ((U.O.length:Int) - 0).toNat 0=_;rw[show((U.O.length:Int) - 0).toNat=U.O.length by omega];rfl⟩,fun i ⟨⟨i0,i1⟩,hi⟩=> ?_⟩
 unfold Sm
 refine⟨fun he=> ?_,fun bf=> ?_⟩
 ·have he: ¬i<(U.O.length:Int):=by simpa using he
  rw[show((U.O.length:Int) - i).toNat=0 by omega] at hi
  rw[←hi];exact⟨rfl,rfl,rfl,rfl⟩
 have bf:i<(U.O.length:Int):=by simpa using bf
 have mZ:IntKind.i64.wrap (i+1)=i+1:=fG (by omega) (by omega)
 have hm:=cF.ai _ (dz (xs:=M.O) (i:=i) (by omega))
 have hb:=cZ.ac i.toNat (nth U.O i) (nth M.O i) (gV (by omega)) (gV (by omega))
 have hg:=cZ.af _ (dz (xs:=U.O) (i:=i) (by omega))
 have rI:((U.O.length:Int) - i).toNat=((U.O.length:Int) - (i+1)).toNat+1:=by omega
 rw[rI] at hi
 unfold xR at hi
 refine⟨⟨i0,by omega⟩,fun rT=> ?_,fun rT=> ?_⟩
 ·rw[if_pos rT] at hi
  rw[mZ];exact⟨⟨⟨by omega,by omega⟩,hi⟩,by show((U.O.length:Int) - (i+1)).toNat<((U.O.length:Int) - i).toNat;omega⟩
 have rT:(((nth U.O i).aq==0) || ((nth U.O i).aq==1))=false:=by simpa using rT
 rw[if_neg (by rw[rT];simp)] at hi
 unfold Sl
 refine⟨⟨i0,by omega⟩,fun aL=>⟨⟨⟨Int.le_refl _,by omega⟩,by show vu M U i (((nth M.O i).ai.length:Int) - 0).toNat 0=_;rw[show(((nth M.O i).ai.length:Int) - 0).toNat=(nth M.O i).ai.length by omega]⟩,fun k ⟨⟨a4,da⟩,hk⟩=>⟨fun he=> ?_,fun kO=> ?_⟩⟩⟩
 ·have he: ¬k<((nth M.O i).ai.length:Int):=by simpa using he
  rw[show(((nth M.O i).ai.length:Int) - k).toNat=0 by omega] at hk
  rw[←hk] at hi
  rw[mZ];exact⟨⟨⟨by omega,by omega⟩,hi⟩,by show((U.O.length:Int) - (i+1)).toNat<((U.O.length:Int) - i).toNat;omega⟩
 have kO:k<((nth M.O i).ai.length:Int):=by simpa using kO
 have B1:IntKind.i64.wrap (k+1)=k+1:=fG (by omega) (by omega)
 have l8:IntKind.i64.wrap (((nth M.O i).ai.length:Int) - 1)=(nth M.O i).ai.length - 1:=fG (by omega) (by omega)
 have ez:(((nth M.O i).ai.length:Int) - k).toNat=(((nth M.O i).ai.length:Int) - (k+1)).toNat+1:=by omega
 have aC:=cZ.aw
 have hs:=hm.2.2 _ (dz (xs:=(nth M.O i).ai) (i:=k) (by omega))
 rw[ez] at hk
 revert hk hi
 generalize lA:vu M U i (nth M.O i).ai.length 0=G
 intro hi hk
 unfold vu at hk
 unfold Sk
 refine⟨⟨⟨a4,by omega⟩,?_⟩,fun hb=> ?_⟩
 ·unfold Sj
  refine⟨⟨fun _=>⟨⟨hs.1,by omega⟩,fun _ cl=> ?_⟩,fun hb=> ?_⟩,fun hb=>⟨fun _=>⟨a4,by omega⟩,fun j8=> ?_⟩⟩
  ·rw[l8] at cl
   have cl:k≠(nth M.O i).ai.length - 1:=by simpa using cl
   rw[B1]
   have BI:=hm.2.2 _ (dz (xs:=(nth M.O i).ai) (i:=k+1) (by omega))
   exact⟨⟨by omega,by omega⟩,BI.1,by omega⟩
  ·rw[if_pos hb] at hk
   rw[←hk] at hi
   rw[←hi];exact⟨rfl,rfl,rfl,rfl⟩
  ·rw[if_neg (by rw[not_eq hb];simp),if_pos j8] at hk
   rw[←hk] at hi
   rw[←hi];exact⟨rfl,rfl,rfl,rfl⟩
 ·rw[Bool.and_eq_true] at hb
  rw[if_neg (by rw[not_eq hb.1];simp),if_neg (by rw[not_eq hb.2];simp)] at hk
  rw[B1]
  exact⟨⟨⟨by omega,by omega⟩,hk.trans lA.symm⟩,by show(((nth M.O i).ai.length:Int) - (k+1)).toNat<(((nth M.O i).ai.length:Int) - k).toNat;omega⟩)
def aeR:ls Try.prog:=⟨164,.dd,[.p,.v .dt,.v .frame],[.fT],fun x c=>Jh x.1 x.2.1 c,fun x c=>z7 x.1 x.2.1 c,fun x c=>((p_ x.1 x.2.1 c),()),fun g x c h=>aeQ g x.1 x.2.1 c h⟩
def RL (M:az) (c c':bc) (al:Event):Prop:=
  ((hh M c)=c')∧((1=al.op)∧((xZ M c)=al.ah)∧(0=al.bj))
def RN (M:az) (c c':bc) (al:Event):Prop:=
  ((hh M c)=c')∧((2=al.op)∧((xZ M c)=al.ah)∧(0=al.bj))
def RQ (M:az) (c c':bc) (al:Event):Prop:=
  ((hh M c)=c')∧((3=al.op)∧((xY M c)=al.ah)∧(0=al.bj))
def RR (M:az) (c c':bc) (al:Event):Prop:=
  ((hh M c)=c')∧((4=al.op)∧((xY M c)=al.ah)∧(0=al.bj))
def RS (M:az) (c c':bc) (al:Event):Prop:=
  ((bN 2 (hh M c))=c')∧((6=al.op)∧((kI M c)=al.ah)∧((IntKind.i64.wrap (1+(cN 2 (hh M c))))=al.bj))
def RT (M:az) (c c':bc) (al:Event):Prop:=
  ((hh M c)=c')∧((7=al.op)∧(0=al.ah)∧(0=al.bj))
def RU (M:az) (U:Frame) (c c':bc) (al:Event):Prop:=
  ((hh M c)=c')∧((5=al.op)∧((kI M c)=al.ah)∧((nth U.ap (kI M c)).b5=al.bj))
def aes (M:az) (U:Frame) (c c':bc) (al:Event):Prop:=
  (decide ((U.ap.length:Int)>(kI M c)))=true→(0≤(kI M c)∧(kI M c).toNat<U.ap.length)∧(RU M U c c' al)
def RV (M:az) (c c':bc) (al:Event):Prop:=
  ((bN 3 (hh M c))=c')∧((5=al.op)∧((kI M c)=al.ah)∧((cN 3 (hh M c))=al.bj))
def aej (M:az) (c c':bc) (al:Event):Prop:=
  ((fR M c)==16)=true→(iI 3 (hh M c))∧(RV M c c' al)
def aek (M:az) (U:Frame) (c c':bc) (al:Event):Prop:=
  ((vA (fR M c))=true→U.ap.length≤4611686018427387904→aes M U c c' al)∧((vA (fR M c))=false→aej M c c' al)
def ael (M:az) (U:Frame) (c c':bc) (al:Event):Prop:=
  ((lR 11 12 (fR M c))=true→RT M c c' al)∧((lR 11 12 (fR M c))=false→aek M U c c' al)
def aem (M:az) (U:Frame) (c c':bc) (al:Event):Prop:=
  (((fR M c)==10)=true→(iI 2 (hh M c))∧(RS M c c' al))∧(((fR M c)==10)=false→ael M U c c' al)
def aen (M:az) (U:Frame) (c c':bc) (al:Event):Prop:=
  ((lR 8 9 (fR M c))=true→RR M c c' al)∧((lR 8 9 (fR M c))=false→aem M U c c' al)
def aeo (M:az) (U:Frame) (c c':bc) (al:Event):Prop:=
  ((lR 6 7 (fR M c))=true→RQ M c c' al)∧((lR 6 7 (fR M c))=false→aen M U c c' al)
def aep (M:az) (U:Frame) (c c':bc) (al:Event):Prop:=
  ((lR 4 5 (fR M c))=true→RN M c c' al)∧((lR 4 5 (fR M c))=false→aeo M U c c' al)
def aeq (M:az) (U:Frame) (c c':bc) (al:Event):Prop:=
  ((xX (fR M c))=true→RL M c c' al)∧((xX (fR M c))=false→aep M U c c' al)
def RM (M:az) (U:Frame) (c c':bc) (al:Event):Prop:=
  ((z7 M U (hh M c))=c')∧(((p_ M U (hh M c)).op=al.op)∧((p_ M U (hh M c)).ah=al.ah)∧((p_ M U (hh M c)).bj=al.bj))
def aer (M:az) (U:Frame) (c c':bc) (al:Event):Prop:=
  (Jh M U (hh M c))∧(RM M U c c' al)
def RO (M:az) (U:Frame) (c c':bc) (al:Event):Prop:=
  ((iI 20 (Ae M c))∧(aeq M U c c' al))∧((!(xX (fR M c))&&(!(lR 4 5 (fR M c))&&(!(lR 6 7 (fR M c))&&(!(lR 8 9 (fR M c))&&(!((fR M c)==10)&&(!(lR 11 12 (fR M c))&&(bif (vA (fR M c)) then(!(decide ((U.ap.length:Int)>(kI M c)))) else(!((fR M c)==16)))))))))=true→aer M U c c' al)
def RP (M:az) (U:Frame) (c c':bc) (al:Event):Prop:=
  (M.a5.length≤4611686018427387904→(decide ((M.a5.length:Int)>0))=true→iI (M.a5.length:Int) (Ad M c))∧(M.a5.length≤4611686018427387904→RO M U c c' al)
def RK (M:az) (U:Frame) (c c':bc) (al:Event):Prop:=
 (M.O.length≤4611686018427387904→(decide ((M.O.length:Int)>0))=true→iI (M.O.length:Int) c)∧(M.O.length≤4611686018427387904→((decide (M.ai>0))=true→iI M.ai (Ac M c))∧(RP M U c c' al))
theorem aet (hg:Nat) (M:az) (U:Frame) (c:bc) (aI:Eo M U c):iW Try.prog 150 hg (j5 hg [.p,.v .dt,.v .frame] (M,U,())) (cd false .dd c) (cd false .dd (eS M U c)) (k5 [.fT] ((ft M U c),())):=(fun(h:RK M U c (eS M U c) (ft M U c))=>iW.run (hg:=hg) (ce:= .dd) (l:=[.p,.v .dt,.v .frame]) (rs:=[.fT]) (x:=(M,U,())) (c:=c) (c':=(eS M U c)) (r:=((ft M U c),())) ⟨97,ep,[]⟩ ⟨[17,33],[],[],[z0,aeR],[]⟩ .nil Try.func150 h) (by
 obtain⟨hs,ak⟩:=aI
 have h1:bX 8 (Ac M c):=bX.xk (ak.mono (by omega)) (by omega)
 have h2:bX 6 (Ad M c):=bX.xk (h1.mono (by omega)) (by omega)
 have aO:bX 4 (Ae M c):=bX.xk (h2.mono (by omega)) (by omega)
 have bd:bX 2 (hh M c):=bX.pick (aO.mono (by omega)) (by omega)
 have qY:0≤kI M c:=by
  unfold kI
  cases decide ((M.a5.length:Int)>0) with
  | true=>exact(nd _ _).1
  | false=>exact Int.le_refl _
 have sT:fR M c≠10→fR M c≠16→eS M U c=hh M c:=fun l9 n2=>by
  unfold eS;rw[if_neg l9,if_neg n2]
 unfold RK RP RO
 refine⟨fun _ _=>ak.mono (by omega),fun _=>⟨fun _=>h1.mono (by omega),fun _ _=>h2.mono (by omega),fun _=>⟨⟨aO.mono (by omega),?_⟩,fun hb=>⟨hs,?_⟩⟩⟩⟩
 ·refine⟨fun j3=> ?_,fun j3=>⟨fun jL=> ?_,fun jL=>⟨fun pt=> ?_,fun pt=>⟨fun qj=> ?_,fun qj=>⟨fun qg=>⟨bd,?_⟩,fun qg=>⟨fun sD=> ?_,fun sD=>⟨fun qh _ bh=>⟨⟨qY,?_⟩,?_⟩,fun qh JT=>⟨bd,?_⟩⟩⟩⟩⟩⟩⟩⟩
  ·have:=afC j3
   unfold RL
   rw[sT (by omega) (by omega),show ft M U c=⟨1,xZ M c,0⟩ by unfold ft;rw[j3];rfl]
   exact⟨rfl,rfl,rfl,rfl⟩
  ·have:=Dc jL
   unfold RN
   rw[sT (by omega) (by omega),show ft M U c=⟨2,xZ M c,0⟩ by unfold ft;rw[j3,jL];rfl]
   exact⟨rfl,rfl,rfl,rfl⟩
  ·have:=Dc pt
   unfold RQ
   rw[sT (by omega) (by omega),show ft M U c=⟨3,xY M c,0⟩ by unfold ft;rw[j3,jL,pt];rfl]
   exact⟨rfl,rfl,rfl,rfl⟩
  ·have:=Dc qj
   unfold RR
   rw[sT (by omega) (by omega),show ft M U c=⟨4,xY M c,0⟩ by unfold ft;rw[j3,jL,pt,qj];rfl]
   exact⟨rfl,rfl,rfl,rfl⟩
  ·have e:fR M c=10:=by simpa using qg
   unfold RS
   rw[show eS M U c=bN 2 (hh M c) by unfold eS;rw[if_pos e],show ft M U c=⟨6,kI M c,IntKind.i64.wrap (1+cN 2 (hh M c))⟩ by unfold ft;rw[j3,jL,pt,qj,qg];rfl]
   exact⟨rfl,rfl,rfl,rfl⟩
  ·have:=Dc sD
   unfold RT
   rw[sT (by omega) (by omega),show ft M U c=⟨7,0,0⟩ by unfold ft;rw[j3,jL,pt,qj,qg,sD];rfl]
   exact⟨rfl,rfl,rfl,rfl⟩
  ·have:(U.ap.length:Int)>kI M c:=by simpa using bh
   omega
  ·have:=S4 qh
   unfold RU
   rw[sT (by omega) (by omega),show ft M U c=⟨5,kI M c,(nth U.ap (kI M c)).b5⟩ by unfold ft;rw[j3,jL,pt,qj,qg,sD,qh,bh];rfl]
   exact⟨rfl,rfl,rfl,rfl⟩
  ·have e:fR M c=16:=by simpa using JT
   unfold RV
   rw[show eS M U c=bN 3 (hh M c) by unfold eS;rw[if_neg (by omega),if_pos e],show ft M U c=⟨5,kI M c,cN 3 (hh M c)⟩ by unfold ft;rw[j3,jL,pt,qj,qg,sD,qh,JT];rfl]
   exact⟨rfl,rfl,rfl,rfl⟩
 ·simp only[Bool.and_eq_true,Bool.not_eq_true'] at hb
  obtain⟨j3,jL,pt,qj,qg,sD,hb⟩:=hb
  have UX:fR M c≠10:=by simpa using qg
  have key:eS M U c=hh M c∧ft M U c=p_ M U (hh M c):=by
   cases qh:vA (fR M c) with
   | true=>
    have:=S4 qh
    rw[qh] at hb
    have hb:decide ((U.ap.length:Int)>kI M c)=false:=by simpa using hb
    exact⟨sT (by omega) (by omega),by unfold ft;rw[j3,jL,pt,qj,qg,sD,qh,hb];rfl⟩
   | false=>
    rw[qh] at hb
    have hb:(fR M c==16)=false:=by simpa using hb
    exact⟨sT UX (by simpa using hb),by unfold ft;rw[j3,jL,pt,qj,qg,sD,qh,hb];rfl⟩
  unfold RM
  rw[key.1,key.2]
  exact⟨rfl,rfl,rfl,rfl⟩)
def aeu:ls Try.prog:=⟨150,.dd,[.p,.v .dt,.v .frame],[.fT],fun x c=>Eo x.1 x.2.1 c,fun x c=>eS x.1 x.2.1 c,fun x c=>((ft x.1 x.2.1 c),()),fun g x c h=>aet g x.1 x.2.1 c h⟩
def aeM:List Item:=[ao 0,ao 1,ao 2,ao 3,ao 4,⟨5,true,false,[0,1]⟩,ao 6,⟨7,true,false,[]⟩,ao 8,⟨9,true,false,[]⟩]
def aeN:List (List Nat):=[[],[0],[],[],[3],[2,3,4],rg 2 6,rg 0 7,rg 0 8,rg 0 9]
def aeG:List Item:=[ao 0,ao 1,ao 2,ao 3,⟨4,true,false,[0,1,2]⟩,ao 5,ao 6,ao 7,⟨8,true,false,[]⟩,ao 9,⟨10,true,false,[]⟩]
def aeH:List (List Nat):=[[],[0],[],[],[3],[3,4],rg 2 6,rg 2 7,rg 0 8,rg 0 9,rg 0 10]
def aeI:List Item:=[ao 0,ao 1,ao 2,ao 3,⟨4,true,false,[0,1,2]⟩,ao 5,ao 6,ao 7,⟨8,true,false,[]⟩,ao 9,⟨10,true,false,[]⟩]
def aeJ:List (List Nat):=[[],[0],[],[],[3],[3,4],rg 2 6,rg 2 7,rg 0 8,rg 0 9,rg 0 10]
def aeK:List Item:=[ao 0,ao 1,ao 2,ao 3,ao 4,ao 5,ao 6,ao 7,ao 8,ao 9,ao 10,ao 11,ao 12,ao 13,ao 14,ao 15,ao 16,ao 17,ao 18,ao 19,ao 20,ao 21,⟨22,true,false,[0,1]⟩,ao 23,ao 24,ao 25,⟨26,true,false,[]⟩]
def aeL:List (List Nat):=[[],[],[],[],[2,3],[2,3,4],rg 2 6,rg 2 7,rg 2 6,rg 2 9,rg 2 10,rg 2 11,rg 2 6,rg 2 6++[12],rg 2 6,rg 2 6++[12,13,14],rg 2 6++rg 12 16,rg 2 6++rg 12 17,rg 2 18,rg 2 19,rg 2 20,rg 2 21,rg 2 22,rg 2 23,rg 2 24,rg 0 25,rg 0 26]
abbrev mP (r:Type):Type:=bc→Nat→(List Int)→Int→bc→Nat→(List Way)→Int→bc→Nat→(List (List Bool))→Int→bc→(List Bool)→Int→r
def R3 (bU:mP Prop) (bV:mP Nat) (bO:bc) (aR:Nat) (aH:(List Int)) (v4:Int) (dV dm:bc) (a2 bS:Nat) (bz:(List Way)) (ee:(List (List Bool))) (eP:(List Bool)) (dg eV fJ:Int) (eR:bc):Prop:=
  ((decide (eV<fJ))=true→(0≤eV∧eV.toNat<ee.length)∧((eV.toNat<ee.length)∧((0≤fJ∧fJ.toNat<(nth ee eV).length)∧((0≤eV∧eV.toNat<eP.length)∧((eV.toNat<eP.length)∧(bU bO aR aH v4 dV a2 bz dg dm bS ee fJ eR (eP.set eV.toNat (nth (nth ee eV) fJ)) (IntKind.i64.wrap (eV+1))∧bV bO aR aH v4 dV a2 bz dg dm bS ee fJ eR (eP.set eV.toNat (nth (nth ee eV) fJ)) (IntKind.i64.wrap (eV+1))<bV bO aR aH v4 dV a2 bz dg dm bS ee fJ eR eP eV))))))∧((decide (eV<fJ))=false→((fJ==eV)=true→(0≤eV∧eV.toNat<eP.length)∧((eV.toNat<eP.length)∧(bU bO aR aH v4 dV a2 bz dg dm bS ee fJ eR (eP.set eV.toNat true) (IntKind.i64.wrap (eV+1))∧bV bO aR aH v4 dV a2 bz dg dm bS ee fJ eR (eP.set eV.toNat true) (IntKind.i64.wrap (eV+1))<bV bO aR aH v4 dV a2 bz dg dm bS ee fJ eR eP eV)))∧((fJ==eV)=false→(0≤fJ∧fJ.toNat<bz.length)∧((fJ.toNat<bz.length)∧((0≤eV∧eV.toNat<bz.length)∧((eV.toNat<bz.length)∧(((meets (nth bz fJ).ai (nth bz eV).ai)=true→(0≤eV∧eV.toNat<eP.length)∧((eV.toNat<eP.length)∧(bU bO aR aH v4 dV a2 bz dg dm bS ee fJ eR (eP.set eV.toNat true) (IntKind.i64.wrap (eV+1))∧bV bO aR aH v4 dV a2 bz dg dm bS ee fJ eR (eP.set eV.toNat true) (IntKind.i64.wrap (eV+1))<bV bO aR aH v4 dV a2 bz dg dm bS ee fJ eR eP eV)))∧((meets (nth bz fJ).ai (nth bz eV).ai)=false→(iI 4 eR)∧((0≤eV∧eV.toNat<eP.length)∧((eV.toNat<eP.length)∧(bU bO aR aH v4 dV a2 bz dg dm bS ee fJ (bN 4 eR) (eP.set eV.toNat ((cN 4 eR)==0)) (IntKind.i64.wrap (eV+1))∧bV bO aR aH v4 dV a2 bz dg dm bS ee fJ (bN 4 eR) (eP.set eV.toNat ((cN 4 eR)==0)) (IntKind.i64.wrap (eV+1))<bV bO aR aH v4 dV a2 bz dg dm bS ee fJ eR eP eV))))))))))
abbrev nY (r:Type):Type:=bc→Nat→(List Int)→Int→bc→Nat→(List Way)→Int→bc→Nat→(List (List Bool))→Int→r
def R8 (bw:nY Prop) (bt:nY Nat) (bU:mP Prop) (bV:mP Nat) (bO:bc) (aR:Nat) (aH:(List Int)) (v4:Int) (dV dm:bc) (a2 bS:Nat) (bz:(List Way)) (ee:(List (List Bool))) (eP:(List Bool)) (dg eV fJ:Int) (eR:bc):Prop:=
  ((decide (eV<(bz.length:Int)))=false→(eP.length≤4611686018427387904)∧(((ee.length+[eP].length)*24≤140737488355328∧ee.length+[eP].length≤4611686018427387904)∧(bw bO aR aH v4 dV a2 bz dg eR (bS+1) (ee++[eP]) (IntKind.i64.wrap (fJ+1))∧bt bO aR aH v4 dV a2 bz dg eR (bS+1) (ee++[eP]) (IntKind.i64.wrap (fJ+1))<bt bO aR aH v4 dV a2 bz dg dm bS ee fJ)))∧((decide (eV<(bz.length:Int)))=true→R3 bU bV bO aR aH v4 dV dm a2 bS bz ee eP dg eV fJ eR)
def R9 (bw:nY Prop) (bt:nY Nat) (bU:mP Prop) (bV:mP Nat) (bO:bc) (aR:Nat) (aH:(List Int)) (v4:Int) (dV dm:bc) (a2 bS:Nat) (bz:(List Way)) (ee:(List (List Bool))) (dg fJ:Int):Prop:=
  (0≤(bz.length:Int)∧1*(bz.length:Int)≤140737488355328∧(bz.length:Int)≤4611686018427387904)∧(bU bO aR aH v4 dV a2 bz dg dm bS ee fJ dm (List.replicate (bz.length:Int).toNat false) 0∧ ∀(eR:bc) (eP:(List Bool)) (eV:Int),bU bO aR aH v4 dV a2 bz dg dm bS ee fJ eR eP eV→(R8 bw bt bU bV bO aR aH v4 dV dm a2 bS bz ee eP dg eV fJ eR))
def R_ (bw:nY Prop) (bt:nY Nat) (bU:mP Prop) (bV:mP Nat) (c c':bc) (al:az) (bO:bc) (aR:Nat) (aH:(List Int)) (v4:Int) (dV dm:bc) (a2 bS:Nat) (bz:(List Way)) (ee:(List (List Bool))) (dg fJ:Int):Prop:=
  ((decide (fJ<(bz.length:Int)))=false→(dm=c')∧(((ds c)=al.ai)∧(aH.length≤4611686018427387904∧aH=al.a5)∧(bz.length≤4611686018427387904∧bz=al.O)∧(ee.length≤4611686018427387904∧ee=al.bW)∧((u6 c)=al.dx)))∧((decide (fJ<(bz.length:Int)))=true→R9 bw bt bU bV bO aR aH v4 dV dm a2 bS bz ee dg fJ)
abbrev lO (r:Type):Type:=bc→Nat→(List Int)→Int→bc→Nat→(List Way)→Int→bc→(List Int)→bc→Nat→Nat→(List cv)→(List cv)→Int→r
def Sa (j2:lO Prop) (jf:lO Nat) (bO:bc) (aR:Nat) (aH:(List Int)) (v4:Int) (dV:bc) (eZ:(List Int)) (dm:bc) (a2 bS:Nat) (bz:(List Way)) (ee:(List cv)) (hG:Int) (l3:Nat) (eP:(List cv)) (dg:Int) (eR:bc):Prop:=
  (((cN 3 eR)==0)=true→(iI 2 (bN 3 eR))∧(((eP.length+[(cv.mk hG (IntKind.i64.wrap (1+(cN 2 (bN 3 eR)))))].length)*16≤140737488355328∧eP.length+[(cv.mk hG (IntKind.i64.wrap (1+(cN 2 (bN 3 eR)))))].length≤4611686018427387904)∧(j2 bO aR aH v4 dV a2 bz dg dm eZ (bN 2 (bN 3 eR)) bS (l3+1) ee (eP++[(cv.mk hG (IntKind.i64.wrap (1+(cN 2 (bN 3 eR)))))]) (IntKind.i64.wrap (hG+1))∧jf bO aR aH v4 dV a2 bz dg dm eZ (bN 2 (bN 3 eR)) bS (l3+1) ee (eP++[(cv.mk hG (IntKind.i64.wrap (1+(cN 2 (bN 3 eR)))))]) (IntKind.i64.wrap (hG+1))<jf bO aR aH v4 dV a2 bz dg dm eZ eR bS l3 ee eP hG)))∧(((cN 3 eR)==0)=false→j2 bO aR aH v4 dV a2 bz dg dm eZ (bN 3 eR) bS l3 ee eP (IntKind.i64.wrap (hG+1))∧jf bO aR aH v4 dV a2 bz dg dm eZ (bN 3 eR) bS l3 ee eP (IntKind.i64.wrap (hG+1))<jf bO aR aH v4 dV a2 bz dg dm eZ eR bS l3 ee eP hG)
def Sb (j2:lO Prop) (jf:lO Nat) (bO:bc) (aR:Nat) (aH:(List Int)) (v4:Int) (dV:bc) (eZ:(List Int)) (dm:bc) (a2 bS:Nat) (bz:(List Way)) (ee:(List cv)) (hG:Int) (l3:Nat) (eP:(List cv)) (dg:Int) (eR:bc):Prop:=
  ((meets [(nth aH hG)] eZ)=true→(iI 2 eR)∧(((ee.length+[(cv.mk hG (IntKind.i64.wrap (1+(cN 2 eR))))].length)*16≤140737488355328∧ee.length+[(cv.mk hG (IntKind.i64.wrap (1+(cN 2 eR))))].length≤4611686018427387904)∧(j2 bO aR aH v4 dV a2 bz dg dm eZ (bN 2 eR) (bS+1) l3 (ee++[(cv.mk hG (IntKind.i64.wrap (1+(cN 2 eR))))]) eP (IntKind.i64.wrap (hG+1))∧jf bO aR aH v4 dV a2 bz dg dm eZ (bN 2 eR) (bS+1) l3 (ee++[(cv.mk hG (IntKind.i64.wrap (1+(cN 2 eR))))]) eP (IntKind.i64.wrap (hG+1))<jf bO aR aH v4 dV a2 bz dg dm eZ eR bS l3 ee eP hG)))∧((meets [(nth aH hG)] eZ)=false→(iI 3 eR)∧(Sa j2 jf bO aR aH v4 dV eZ dm a2 bS bz ee hG l3 eP dg eR))
abbrev nZ (r:Type):Type:=bc→Nat→(List Int)→Int→bc→Nat→(List Way)→Int→r
def Sc (aU:nZ Prop) (aV:nZ Nat) (j2:lO Prop) (jf:lO Nat) (c bO:bc) (aR:Nat) (aH:(List Int)) (v4:Int) (dV:bc) (eZ:(List Int)) (dm:bc) (a2 bS:Nat) (bz:(List Way)) (ee:(List cv)) (hG:Int) (l3:Nat) (eP:(List cv)) (dg:Int) (eR:bc):Prop:=
  ((decide (hG<(aH.length:Int)))=false→(ee.length≤4611686018427387904)∧((eP.length≤4611686018427387904)∧(((bz.length+[(Way.mk eZ ee eP (hC (ds c) 2 eZ dm) (hC (ds c) 2 eZ (h8 (ds c) 2 eZ dm)))].length)*120≤140737488355328∧bz.length+[(Way.mk eZ ee eP (hC (ds c) 2 eZ dm) (hC (ds c) 2 eZ (h8 (ds c) 2 eZ dm)))].length≤4611686018427387904)∧(aU bO aR aH v4 eR (a2+1) (bz++[(Way.mk eZ ee eP (hC (ds c) 2 eZ dm) (hC (ds c) 2 eZ (h8 (ds c) 2 eZ dm)))]) (IntKind.i64.wrap (dg - 1))∧aV bO aR aH v4 eR (a2+1) (bz++[(Way.mk eZ ee eP (hC (ds c) 2 eZ dm) (hC (ds c) 2 eZ (h8 (ds c) 2 eZ dm)))]) (IntKind.i64.wrap (dg - 1))<aV bO aR aH v4 dV a2 bz dg))))∧((decide (hG<(aH.length:Int)))=true→((0≤hG∧hG.toNat<aH.length)∧(hG.toNat<aH.length))∧(Sb j2 jf bO aR aH v4 dV eZ dm a2 bS bz ee hG l3 eP dg eR))
def Sd (aU:nZ Prop) (aV:nZ Nat) (j2:lO Prop) (jf:lO Nat) (c bO:bc) (aR:Nat) (aH:(List Int)) (v4:Int) (dV:bc) (eZ:(List Int)) (dm:bc) (a2:Nat) (bz:(List Way)) (dg:Int):Prop:=
  j2 bO aR aH v4 dV a2 bz dg dm eZ (h8 (ds c) 2 eZ (h8 (ds c) 2 eZ dm)) 0 0 ([]:List cv) ([]:List cv) 0∧ ∀(eR:bc) (bS:Nat) (l3:Nat) (ee:(List cv)) (eP:(List cv)) (hG:Int),j2 bO aR aH v4 dV a2 bz dg dm eZ eR bS l3 ee eP hG→(Sc aU aV j2 jf c bO aR aH v4 dV eZ dm a2 bS bz ee hG l3 eP dg eR)
abbrev ph (r:Type):Type:=bc→Nat→(List Int)→Int→bc→Nat→(List Way)→Int→bc→(List Int)→r
def Se (cx:ph Prop) (cy:ph Nat) (c bO:bc) (aR:Nat) (aH:(List Int)) (v4:Int) (dV:bc) (eZ:(List Int)) (dm:bc) (a2:Nat) (bz:(List Way)) (dg:Int):Prop:=
  ((((hC (ds c) 4 [] dm).length:Int)==0)=true→(iI (ds c) (h8 (ds c) 4 [] dm))∧(cx bO aR aH v4 dV a2 bz dg (bN (ds c) (h8 (ds c) 4 [] dm)) ([(cN (ds c) (h8 (ds c) 4 [] dm))])∧cy bO aR aH v4 dV a2 bz dg (bN (ds c) (h8 (ds c) 4 [] dm)) ([(cN (ds c) (h8 (ds c) 4 [] dm))])<cy bO aR aH v4 dV a2 bz dg dm eZ))∧((((hC (ds c) 4 [] dm).length:Int)==0)=false→cx bO aR aH v4 dV a2 bz dg (h8 (ds c) 4 [] dm) (hC (ds c) 4 [] dm)∧cy bO aR aH v4 dV a2 bz dg (h8 (ds c) 4 [] dm) (hC (ds c) 4 [] dm)<cy bO aR aH v4 dV a2 bz dg dm eZ)
def R4 (aU:nZ Prop) (aV:nZ Nat) (cx:ph Prop) (cy:ph Nat) (j2:lO Prop) (jf:lO Nat) (c bO:bc) (aR:Nat) (aH:(List Int)) (v4:Int) (dV:bc) (eZ:(List Int)) (dm:bc) (a2:Nat) (bz:(List Way)) (dg:Int):Prop:=
  (eZ.length≤4611686018427387904→((eZ.length:Int)==0)=false→(zX (ds c) 2 eZ dm)∧((zX (ds c) 2 eZ (h8 (ds c) 2 eZ dm))∧(Sd aU aV j2 jf c bO aR aH v4 dV eZ dm a2 bz dg)))∧((eZ.length≤4611686018427387904)∧(((eZ.length:Int)==0)=true)→(zX (ds c) 4 [] dm)∧((hC (ds c) 4 [] dm).length≤4611686018427387904→Se cx cy c bO aR aH v4 dV eZ dm a2 bz dg))
def R5 (aU:nZ Prop) (aV:nZ Nat) (bw:nY Prop) (bt:nY Nat) (bU:mP Prop) (bV:mP Nat) (cx:ph Prop) (cy:ph Nat) (j2:lO Prop) (jf:lO Nat) (c c':bc) (al:az) (bO:bc) (aR:Nat) (aH:(List Int)) (v4:Int) (dV:bc) (a2:Nat) (bz:(List Way)) (dg:Int):Prop:=
  ((decide (dg>0))=false→bw bO aR aH v4 dV a2 bz dg dV 0 ([]:List (List Bool)) 0∧ ∀(dm:bc) (bS:Nat) (ee:(List (List Bool))) (fJ:Int),bw bO aR aH v4 dV a2 bz dg dm bS ee fJ→(R_ bw bt bU bV c c' al bO aR aH v4 dV dm a2 bS bz ee dg fJ))∧((decide (dg>0))=true→cx bO aR aH v4 dV a2 bz dg dV []∧ ∀(dm:bc) (eZ:(List Int)),cx bO aR aH v4 dV a2 bz dg dm eZ→(R4 aU aV cx cy j2 jf c bO aR aH v4 dV eZ dm a2 bz dg))
def R6 (ay:mO Prop) (aB:mO Nat) (c bO:bc) (aR:Nat) (aH:(List Int)) (v4:Int):Prop:=
  ((iI (ds c) bO)∧((aH.length+[(cN (ds c) bO)].length)*8≤140737488355328∧aH.length+[(cN (ds c) bO)].length≤4611686018427387904))∧(ay (bN (ds c) bO) (aR+1) (aH++[(cN (ds c) bO)]) (IntKind.i64.wrap (v4 - 1))∧aB (bN (ds c) bO) (aR+1) (aH++[(cN (ds c) bO)]) (IntKind.i64.wrap (v4 - 1))<aB bO aR aH v4)
def R7 (ay:mO Prop) (aB:mO Nat) (aU:nZ Prop) (aV:nZ Nat) (bw:nY Prop) (bt:nY Nat) (bU:mP Prop) (bV:mP Nat) (cx:ph Prop) (cy:ph Nat) (j2:lO Prop) (jf:lO Nat) (c c':bc) (al:az):Prop:=
  ay (bN 4 (bN 6 (bN 6 c))) 0 ([]:List Int) (cN 4 (bN 6 (bN 6 c)))∧ ∀(bO:bc) (aR:Nat) (aH:(List Int)) (v4:Int),ay bO aR aH v4→(((decide (v4>0))=false→(iI 5 bO)∧(aU bO aR aH v4 (bN 5 bO) 0 ([]:List Way) (IntKind.i64.wrap (1+(cN 5 bO)))∧ ∀(dV:bc) (a2:Nat) (bz:(List Way)) (dg:Int),aU bO aR aH v4 dV a2 bz dg→(R5 aU aV bw bt bU bV cx cy j2 jf c c' al bO aR aH v4 dV a2 bz dg)))∧((decide (v4>0))=true→R6 ay aB c bO aR aH v4))
def R2 (c c':bc) (al:az) (ay:mO Prop) (aB:mO Nat) (aU:nZ Prop) (aV:nZ Nat) (bw:nY Prop) (bt:nY Nat) (bU:mP Prop) (bV:mP Nat) (cx:ph Prop) (cy:ph Nat) (j2:lO Prop) (jf:lO Nat):Prop:=
 ((iI 6 c)∧(iI 6 (bN 6 c)))∧((iI 4 (bN 6 (bN 6 c)))∧(R7 ay aB aU aV bw bt bU bV cx cy j2 jf c c' al))
theorem aeE (hg:Nat) (c:bc) (aI:Hc c):iW Try.prog 109 hg (j5 hg [.p] ()) (cd false .dd c) (cd false .dd (q0 c)) (k5 [.dt] ((lG c),())):=(fun(ay:mO Prop) (aB:mO Nat) (aU:nZ Prop) (aV:nZ Nat) (bw:nY Prop) (bt:nY Nat) (bU:mP Prop) (bV:mP Nat) (cx:ph Prop) (cy:ph Nat) (j2:lO Prop) (jf:lO Nat) (h:R2 c (q0 c) (lG c) ay aB aU aV bw bt bU bV cx cy j2 jf)=>iW.run (hg:=hg) (ce:= .dd) (l:=[.p]) (rs:=[.dt]) (x:=()) (c:=c) (c':=(q0 c)) (r:=((lG c),())) ⟨182,ep,[zZ]⟩ ⟨[],[(5,aeM,aeN),(20,aeG,aeH),(22,aeI,aeJ),(34,aeK,aeL)],[],[z0,aeP],[(24,[(7,1),(7,2)],[]),(36,[(0,10)],[])]⟩ (.lp [(4,1,.int)] [0,2,3] [(3,5),(2,5)] [.dd,.nat,(.l .int),.int] [bD 0,bD 1,bD 1,4] (fun aM=>[(4,.i .i64 aM.2.2.2.1),(eL 3 1,.ref 1 aM.2.1 aM.2.2.1.length false),(bD 0,.eN hg (gJ false .dd aM.1)),(bD 1,.blk aM.2.1 .int aM.2.2.1 _ rfl)]) (fun aM=>ay aM.1 aM.2.1 aM.2.2.1 aM.2.2.2.1) (fun aM=>aB aM.1 aM.2.1 aM.2.2.1 aM.2.2.2.1) fun aM=>(.lp [(4,2,.ki)] [0,2,3] [(3,5),(2,5)] [.dd,.nat,(.l .ki),.int] [bD 0,bD 2,bD 2,5] (fun bI=>[(5,.i .i64 bI.2.2.2.1),(eL 3 2,.ref 2 bI.2.1 bI.2.2.1.length false),(bD 0,.eN hg (gJ false .dd bI.1)),(bD 2,.blk bI.2.1 .ki bI.2.2.1 _ rfl)]) (fun bI=>aU aM.1 aM.2.1 aM.2.2.1 aM.2.2.2.1 bI.1 bI.2.1 bI.2.2.1 bI.2.2.2.1) (fun bI=>aV aM.1 aM.2.1 aM.2.2.1 aM.2.2.2.1 bI.1 bI.2.1 bI.2.2.1 bI.2.2.2.1) fun bI=>(.tV (.lp [(4,3,(.l .bool))] [0,2,3,119] [(3,5),(2,5)] [.dd,.nat,(.l (.l .bool)),.int] [bD 0,bD 3,bD 3,120] (fun b_=>[(120,.i .i64 b_.2.2.2.1),(eL 3 3,.ref 3 b_.2.1 b_.2.2.1.length false),(bD 0,.eN hg (gJ false .dd b_.1)),(bD 3,.blk b_.2.1 (.l .bool) b_.2.2.1 _ rfl)]) (fun b_=>bw aM.1 aM.2.1 aM.2.2.1 aM.2.2.2.1 bI.1 bI.2.1 bI.2.2.1 bI.2.2.2.1 b_.1 b_.2.1 b_.2.2.1 b_.2.2.2.1) (fun b_=>bt aM.1 aM.2.1 aM.2.2.1 aM.2.2.2.1 bI.1 bI.2.1 bI.2.2.1 bI.2.2.2.1 b_.1 b_.2.1 b_.2.2.1 b_.2.2.2.1) fun b_=>(.lp [] [0,2,3,9,119,120,129] [(3,5),(2,5)] [.dd,(.l .bool),.int] [bD 0,bD 4,130] (fun dL=>[(10,.ref 4 0 dL.2.1.length false),(130,.i .i64 dL.2.2.1),(bD 0,.eN hg (gJ false .dd dL.1)),(bD 4,.blk 0 .bool dL.2.1 _ rfl)]) (fun dL=>bU aM.1 aM.2.1 aM.2.2.1 aM.2.2.2.1 bI.1 bI.2.1 bI.2.2.1 bI.2.2.2.1 b_.1 b_.2.1 b_.2.2.1 b_.2.2.2.1 dL.1 dL.2.1 dL.2.2.1) (fun dL=>bV aM.1 aM.2.1 aM.2.2.1 aM.2.2.2.1 bI.1 bI.2.1 bI.2.2.1 bI.2.2.2.1 b_.1 b_.2.1 b_.2.2.1 b_.2.2.2.1 dL.1 dL.2.1 dL.2.2.1) fun _=> .nil)) (.lp [] [0,2,3,5,6] [(6,5),(3,5),(2,5)] [.dd,(.l .int)] [bD 0,eL 6 0] (fun hI=>[(eL 6 0,.l .int hI.2.1 false true),(bD 0,.eN hg (gJ false .dd hI.1))]) (fun hI=>cx aM.1 aM.2.1 aM.2.2.1 aM.2.2.2.1 bI.1 bI.2.1 bI.2.2.1 bI.2.2.2.1 hI.1 hI.2.1) (fun hI=>cy aM.1 aM.2.1 aM.2.2.1 aM.2.2.2.1 bI.1 bI.2.1 bI.2.2.1 bI.2.2.2.1 hI.1 hI.2.1) fun hI=>(.lp [(7,1,.bj),(7,2,.bj)] [0,2,3,5,6,75,76] [(6,5),(3,5),(2,5)] [.dd,.nat,.nat,(.l .bj),(.l .bj),.int] [bD 0,bD 3,bD 4,bD 3,bD 4,77] (fun iS=>[(77,.i .i64 iS.2.2.2.2.2.1),(eL 6 1,.ref 3 iS.2.1 iS.2.2.2.1.length false),(eL 6 2,.ref 4 iS.2.2.1 iS.2.2.2.2.1.length false),(bD 0,.eN hg (gJ false .dd iS.1)),(bD 3,.blk iS.2.1 .bj iS.2.2.2.1 _ rfl),(bD 4,.blk iS.2.2.1 .bj iS.2.2.2.2.1 _ rfl)]) (fun iS=>j2 aM.1 aM.2.1 aM.2.2.1 aM.2.2.2.1 bI.1 bI.2.1 bI.2.2.1 bI.2.2.2.1 hI.1 hI.2.1 iS.1 iS.2.1 iS.2.2.1 iS.2.2.2.1 iS.2.2.2.2.1 iS.2.2.2.2.2.1) (fun iS=>jf aM.1 aM.2.1 aM.2.2.1 aM.2.2.2.1 bI.1 bI.2.1 bI.2.2.1 bI.2.2.2.1 hI.1 hI.2.1 iS.1 iS.2.1 iS.2.2.1 iS.2.2.2.1 iS.2.2.2.2.1 iS.2.2.2.2.2.1) fun _=> .nil))))) Try.func109 h) (fun d _ x v=>(0≤v∧v≤3)∧bX (272+2*v) d∧x.length+v.toNat≤3∧tC (ds c) v.toNat d x=gF c) (fun _ _ _ v=>v.toNat) (fun _ _ _ _ d _ x v=>(0≤v∧v≤5)∧bX (50+44*v) d∧x.length+v.toNat≤5∧tH (ds c) (gF c).2 v.toNat d x=eM c) (fun _ _ _ _ _ _ _ v=>v.toNat) (fun _ _ _ _ _ _ _ _ d _ x v=>(0≤v∧v≤(eM c).2.length)∧bX (10*(5 - v)) d∧(x.length:Int)=v∧(∀j:Int,0≤j→j<v→(nth x j).length=(eM c).2.length)∧tW (eM c).2 ((eM c).2.length - v).toNat v d x=u5 c) (fun _ _ _ _ _ _ _ _ _ _ _ v=>((eM c).2.length - v).toNat) (fun _ _ _ _ _ _ _ _ e _ y i d x v=>(0≤v∧v≤(eM c).2.length)∧bX (10*(5 - (i+1))+2*(5 - v)) d∧x.length=(eM c).2.length∧p6 (eM c).2 y i ((eM c).2.length - v).toNat v d x=zM (eM c).2 y i e) (fun _ _ _ _ _ _ _ _ _ _ _ _ _ _ v=>((eM c).2.length - v).toNat) (fun _ _ _ _ e _ _ v d x=>(x=[]∧d=e)∨(x≠[]∧(d,x)=jY (ds c) e)) (fun _ _ _ _ _ _ _ _ _ x=>1 - x.length) (fun _ _ _ _ e _ _ w _ _ d _ _ x y v=>(0≤v∧v≤(gF c).2.length)∧bX (50+44*(w - 1)+4*(3 - v)) d∧(x.length:Int)+y.length≤v∧oy (gF c).2 (jY (ds c) e).2 ((gF c).2.length - v).toNat v d x y=zg (ds c) (gF c).2 e) (fun _ _ _ _ _ _ _ _ _ _ _ _ _ _ _ v=>((gF c).2.length - v).toNat) (by
 replace aI:bX 300 c:=aI
 have m4:=Cr c
 have q1:bX 298 (bN 6 c):=bX.pick (aI.mono (by omega)) (by omega)
 have q2:bX 296 (bN 6 (bN 6 c)):=bX.pick (q1.mono (by omega)) (by omega)
 have q3:bX 294 (bN 4 (bN 6 (bN 6 c))):=bX.pick (q2.mono (by omega)) (by omega)
 have bd:=nd 4 (bN 6 (bN 6 c))
 have af5:=bd.2 (by omega)
 unfold R2
 refine⟨⟨aI.mono (by omega),q1.mono (by omega)⟩,q2.mono (by omega),?_⟩
 unfold R7
 refine⟨⟨⟨bd.1,by omega⟩,q3.mono (by omega),by show 0+_≤3;omega,rfl⟩,fun bO aR aH v4 ⟨pM,wz,age,um⟩=>⟨fun hv=> ?_,fun hv=> ?_⟩⟩
 case refine_2=>
  have hv:v4>0:=by simpa using hv
  have mZ:IntKind.i64.wrap (v4 - 1)=v4 - 1:=fG (by omega) (by omega)
  rw[show v4.toNat=(v4 - 1).toNat+1 by omega] at um
  unfold tC at um
  unfold R6
  rw[mZ]
  exact⟨⟨wz.mono (by omega),by simp;omega,by simp;omega⟩,⟨⟨by omega,by omega⟩,bX.pick (k:=272+2*(v4 - 1)) (wz.mono (by omega)) (by omega),by simp;omega,um⟩,by show(v4 - 1).toNat<v4.toNat;omega⟩
 have hv: ¬v4>0:=by simpa using hv
 rw[show v4.toNat=0 by omega] at um
 have yn:bO=(gF c).1:=by rw[←um];rfl
 have ex:aH=(gF c).2:=by rw[←um];rfl
 clear um
 subst yn;subst ex
 have ch:=K8 (gF c).1
 refine⟨wz.mono (by omega),⟨⟨by omega,by omega⟩,(bX.pick (k:=270) (wz.mono (by omega)) (by omega)).mono (by omega),by show 0+_≤5;omega,rfl⟩,fun d a2 ws dg ⟨BG,Bm,oW,sU⟩=> ?_⟩
 unfold R5
 refine⟨fun y9=> ?_,fun y9=> ?_⟩
 ·have y9: ¬dg>0:=by simpa using y9
  rw[show dg.toNat=0 by omega] at sU
  have br:d=(eM c).1:=by rw[←sU];rfl
  have e2:ws=(eM c).2:=by rw[←sU];rfl
  clear sU
  subst br;subst e2
  refine⟨⟨⟨Int.le_refl _,by omega⟩,Bm.mono (by omega),rfl,fun j cq e6=>by omega,by show tW _ (((eM c).2.length:Int) - 0).toNat _ _ _=_;rw[show(((eM c).2.length:Int) - 0).toNat=(eM c).2.length by omega];rfl⟩,fun e bS bs i ⟨BH,rV,L1,e1,wA⟩=> ?_⟩
  unfold R_
  refine⟨fun hi=> ?_,fun hi=> ?_⟩
  ·have hi: ¬i<((eM c).2.length:Int):=by simpa using hi
   rw[show(((eM c).2.length:Int) - i).toNat=0 by omega] at wA
   unfold q0 lG
   rw[←wA]
   exact⟨rfl,rfl,⟨by omega,rfl⟩,⟨by omega,rfl⟩,⟨by omega,rfl⟩,rfl⟩
  have hi:i<((eM c).2.length:Int):=by simpa using hi
  have ZQ:IntKind.i64.wrap (i+1)=i+1:=fG (by omega) (by omega)
  unfold R9
  refine⟨⟨by omega,by omega,by omega⟩,⟨⟨Int.le_refl _,by omega⟩,rV.mono (by omega),by simp,by show p6 _ _ _ (((eM c).2.length:Int) - 0).toNat _ _ _=_;rw[show(((eM c).2.length:Int) - 0).toNat=(eM c).2.length by omega];rfl⟩,fun f r k ⟨XT,Bn,L2,om⟩=> ?_⟩
  unfold R8
  refine⟨fun hk=> ?_,fun hk=> ?_⟩
  ·have hk: ¬k<((eM c).2.length:Int):=by simpa using hk
   rw[show(((eM c).2.length:Int) - k).toNat=0 by omega] at om
   rw[show(((eM c).2.length:Int) - i).toNat=(((eM c).2.length:Int) - (i+1)).toNat+1 by omega] at wA
   unfold tW at wA
   rw[←om] at wA
   rw[ZQ]
   refine⟨by omega,⟨by simp;omega,by simp;omega⟩,⟨⟨by omega,by omega⟩,Bn.mono (by omega),by simp;omega,fun j cq e6=> ?_,wA⟩,by show(((eM c).2.length:Int) - (i+1)).toNat<(((eM c).2.length:Int) - i).toNat;omega⟩
   rw[GZ cq]
   split
   ·exact e1 j cq (by omega)
   ·rw[if_pos (by omega)];exact L2
  have hk:k<((eM c).2.length:Int):=by simpa using hk
  have B1:IntKind.i64.wrap (k+1)=k+1:=fG (by omega) (by omega)
  rw[show(((eM c).2.length:Int) - k).toNat=(((eM c).2.length:Int) - (k+1)).toNat+1 by omega] at om
  unfold p6 at om
  have a4:0≤k:=XT.1
  have l8:k.toNat<r.length:=by omega
  have oz:(((eM c).2.length:Int) - (k+1)).toNat<(((eM c).2.length:Int) - k).toNat:=by omega
  have rg:(0≤k+1∧k+1≤((eM c).2.length:Int)):=by omega
  have E3:bX (10*(5 - (i+1))+2*(5 - (k+1))) f:=Bn.mono (by omega)
  have CS: ∀b:Bool,(r.set k.toNat b).length=(eM c).2.length:=fun b=>by rw[List.length_set];exact L2
  unfold R3
  rw[B1]
  refine⟨fun bf=> ?_,fun fV=> ?_⟩
  ·rw[if_pos bf] at om
   have bf:k<i:=by simpa using bf
   have:=e1 k a4 bf
   exact⟨⟨a4,by omega⟩,by omega,⟨by omega,by omega⟩,⟨a4,l8⟩,l8,⟨rg,E3,CS _,om⟩,oz⟩
  rw[if_neg (by rw[fV];simp)] at om
  refine⟨fun yN=> ?_,fun cl=>⟨⟨by omega,by omega⟩,by omega,⟨a4,by omega⟩,by omega,fun hm=> ?_,fun hm=> ?_⟩⟩
  ·rw[if_pos yN] at om
   exact⟨⟨a4,l8⟩,l8,⟨rg,E3,CS _,om⟩,oz⟩
  ·rw[if_neg (by rw[cl];simp),if_pos hm] at om
   exact⟨⟨a4,l8⟩,l8,⟨rg,E3,CS _,om⟩,oz⟩
  ·rw[if_neg (by rw[cl];simp),if_neg (by rw[hm];simp)] at om
   exact⟨Bn.mono (by omega),⟨a4,l8⟩,l8,⟨rg,bX.pick (Bn.mono (by omega)) (by omega),CS _,om⟩,oz⟩
 have y9:dg>0:=by simpa using y9
 refine⟨.inl ⟨rfl,rfl⟩,fun e ss a0=> ?_⟩
 unfold R4
 refine⟨fun s5 cl=> ?_,fun⟨s5,yN⟩=> ?_⟩
 case refine_2=>
  have Mi:ss=[]:=by
   have:ss.length=0:=by simpa using yN
   exact List.length_eq_zero_iff.1 this
  rcases a0 with⟨_,rfl⟩ | ⟨cl,_⟩
  case inr=>exact absurd Mi cl
  subst Mi
  have y4:=xH (n:=ds c) (no:=[]) (c:=e) (q:=40+44*dg) (m:=4) (by omega) (Bm.mono (by omega)) (by omega) (by omega) (by omega)
  refine⟨⟨Bm.mono (by omega),by omega,by omega⟩,fun agf=> ?_⟩
  unfold Se
  refine⟨fun aP=>⟨y4.1.mono (by omega),.inr ⟨by simp,by unfold jY;rw[if_pos aP]⟩,by show 1 - [_].length<1 - ([]:List Int).length;simp⟩,fun aP=>⟨.inr ⟨fun il=>by rw[il] at aP;simp at aP,by unfold jY;rw[if_neg (by rw[aP];simp)]⟩,?_⟩⟩
  have:(hC (ds c) 4 [] e).length≠0:=fun il=>by rw[il] at aP;simp at aP
  show 1 - (hC (ds c) 4 [] e).length<1 - ([]:List Int).length
  simp;omega
 have nH:(e,ss)=jY (ds c) d:=by
  rcases a0 with⟨rfl,_⟩ | ⟨_,h⟩
  ·simp at cl
  ·exact h
 have e2:(jY (ds c) d).2=ss:=by rw[←nH]
 have y4:=P_ (n:=ds c) (c:=d) (q:=38+44*dg) (by omega) (Bm.mono (by omega)) (by omega)
 rw[←nH] at y4
 have wU:=xH (n:=ds c) (no:=ss) (c:=e) (q:=28+44*dg) (m:=2) (by omega) (y4.1.mono (by omega)) (by omega) (by omega) (by omega)
 have X2:=xH (n:=ds c) (no:=ss) (c:=h8 (ds c) 2 ss e) (q:=18+44*dg) (m:=2) (by omega) (wU.1.mono (by omega)) (by omega) (by omega) (by omega)
 refine⟨⟨y4.1.mono (by omega),by omega,by omega⟩,⟨wU.1.mono (by omega),by omega,by omega⟩,?_⟩
 unfold Sd
 refine⟨⟨⟨Int.le_refl _,by omega⟩,X2.1.mono (by omega),by simp,?_⟩,fun f bS l3 x y v ⟨agi,yL,Fb,pH⟩=> ?_⟩
 ·show oy _ _ (((gF c).2.length:Int) - 0).toNat _ _ _ _=_
  rw[show(((gF c).2.length:Int) - 0).toNat=(gF c).2.length by omega]
  unfold zg
  rw[←nH]
 have gZ:v<((gF c).2.length:Int)→IntKind.i64.wrap (v+1)=v+1:=fun _=>fG (by omega) (by omega)
 unfold Sc
 refine⟨fun hv=> ?_,fun hv=> ?_⟩
 ·have hv: ¬v<((gF c).2.length:Int):=by simpa using hv
  rw[show(((gF c).2.length:Int) - v).toNat=0 by omega] at pH
  have Vd:vz (ds c) (gF c).2 d=(f,Way.mk ss x y (hC (ds c) 2 ss e) (hC (ds c) 2 ss (h8 (ds c) 2 ss e))):=by
   unfold vz
   rw[←pH,←nH];rfl
  rw[show dg.toNat=(dg - 1).toNat+1 by omega] at sU
  unfold tH at sU
  rw[Vd] at sU
  have iS:IntKind.i64.wrap (dg - 1)=dg - 1:=fG (by omega) (by omega)
  rw[iS]
  exact⟨by omega,by omega,⟨by simp;omega,by simp;omega⟩,⟨⟨by omega,by omega⟩,yL.mono (by omega),by simp;omega,sU⟩,by show(dg - 1).toNat<dg.toNat;omega⟩
 have hv:v<((gF c).2.length:Int):=by simpa using hv
 rw[show(((gF c).2.length:Int) - v).toNat=(((gF c).2.length:Int) - (v+1)).toNat+1 by omega] at pH
 unfold oy at pH
 have oz:(((gF c).2.length:Int) - (v+1)).toNat<(((gF c).2.length:Int) - v).toNat:=by omega
 have rg:(0≤v+1∧v+1≤((gF c).2.length:Int)):=by omega
 unfold Sb
 rw[gZ hv]
 refine⟨⟨⟨by omega,by omega⟩,by omega⟩,fun hm=> ?_,fun hm=>⟨yL.mono (by omega),?_⟩⟩
 ·rw[←e2] at hm
  rw[if_pos hm] at pH
  exact⟨yL.mono (by omega),⟨by simp;omega,by simp;omega⟩,⟨rg,bX.pick (yL.mono (by omega)) (by omega),by simp;omega,pH⟩,oz⟩
 ·rw[←e2] at hm
  rw[if_neg (by rw[hm];simp)] at pH
  have aO:bX (50+44*(dg - 1)+4*(3 - (v+1))+2) (bN 3 f):=bX.pick (yL.mono (by omega)) (by omega)
  unfold Sa
  rw[gZ hv]
  refine⟨fun hk=> ?_,fun hk=> ?_⟩
  ·rw[if_pos hk] at pH
   exact⟨aO.mono (by omega),⟨by simp;omega,by simp;omega⟩,⟨rg,bX.pick aO (by omega),by simp;omega,pH⟩,oz⟩
  ·rw[if_neg (by rw[hk];simp)] at pH
   exact⟨⟨rg,aO.mono (by omega),by omega,pH⟩,oz⟩)
def aeF:ls Try.prog:=⟨109,.dd,[.p],[.dt],fun x c=>Hc c,fun x c=>q0 c,fun x c=>((lG c),()),fun g x c h=>aeE g c h⟩
abbrev pi (r:Type):Type:=bc→Nat→(List Event)→Bool→(List Bool)→(List a8)→(List ad)→Int→r
def So (ay:pi Prop) (aB:pi Nat) (M:az) (bO:bc) (aR:Nat) (aH:(List Event)) (cU:Bool) (cV:(List Bool)) (cW:(List a8)) (cX:(List ad)) (cc:Int):Prop:=
  (((gv M (Frame.mk cU cV cW cX) (iH M (bN 30 (eS M (Frame.mk cU cV cW cX) bO)))).code !=1)=true→((aH.length+[(iH M (bN 30 (eS M (Frame.mk cU cV cW cX) bO)))].length)*24≤140737488355328∧aH.length+[(iH M (bN 30 (eS M (Frame.mk cU cV cW cX) bO)))].length≤4611686018427387904)∧(ay (o4 M (bN 30 (eS M (Frame.mk cU cV cW cX) bO))) (aR+1) (aH++[(iH M (bN 30 (eS M (Frame.mk cU cV cW cX) bO)))]) (gv M (Frame.mk cU cV cW cX) (iH M (bN 30 (eS M (Frame.mk cU cV cW cX) bO)))).frame.ok (gv M (Frame.mk cU cV cW cX) (iH M (bN 30 (eS M (Frame.mk cU cV cW cX) bO)))).frame.aw (gv M (Frame.mk cU cV cW cX) (iH M (bN 30 (eS M (Frame.mk cU cV cW cX) bO)))).frame.ap (gv M (Frame.mk cU cV cW cX) (iH M (bN 30 (eS M (Frame.mk cU cV cW cX) bO)))).frame.O (IntKind.i64.wrap (cc - 1))∧aB (o4 M (bN 30 (eS M (Frame.mk cU cV cW cX) bO))) (aR+1) (aH++[(iH M (bN 30 (eS M (Frame.mk cU cV cW cX) bO)))]) (gv M (Frame.mk cU cV cW cX) (iH M (bN 30 (eS M (Frame.mk cU cV cW cX) bO)))).frame.ok (gv M (Frame.mk cU cV cW cX) (iH M (bN 30 (eS M (Frame.mk cU cV cW cX) bO)))).frame.aw (gv M (Frame.mk cU cV cW cX) (iH M (bN 30 (eS M (Frame.mk cU cV cW cX) bO)))).frame.ap (gv M (Frame.mk cU cV cW cX) (iH M (bN 30 (eS M (Frame.mk cU cV cW cX) bO)))).frame.O (IntKind.i64.wrap (cc - 1))<aB bO aR aH cU cV cW cX cc))∧(((gv M (Frame.mk cU cV cW cX) (iH M (bN 30 (eS M (Frame.mk cU cV cW cX) bO)))).code !=1)=false→((aH.length+[(iH M (bN 30 (eS M (Frame.mk cU cV cW cX) bO)))].length)*24≤140737488355328∧aH.length+[(iH M (bN 30 (eS M (Frame.mk cU cV cW cX) bO)))].length≤4611686018427387904)∧(ay (o4 M (bN 30 (eS M (Frame.mk cU cV cW cX) bO))) (aR+1) (aH++[(iH M (bN 30 (eS M (Frame.mk cU cV cW cX) bO)))]) cU cV cW cX (IntKind.i64.wrap (cc - 1))∧aB (o4 M (bN 30 (eS M (Frame.mk cU cV cW cX) bO))) (aR+1) (aH++[(iH M (bN 30 (eS M (Frame.mk cU cV cW cX) bO)))]) cU cV cW cX (IntKind.i64.wrap (cc - 1))<aB bO aR aH cU cV cW cX cc))
def Sp (ay:pi Prop) (aB:pi Nat) (M:az) (bO:bc) (aR:Nat) (aH:(List Event)) (cU:Bool) (cV:(List Bool)) (cW:(List a8)) (cX:(List ad)) (cc:Int):Prop:=
  (((gv M (Frame.mk cU cV cW cX) (ft M (Frame.mk cU cV cW cX) bO)).code !=1)=true→((aH.length+[(ft M (Frame.mk cU cV cW cX) bO)].length)*24≤140737488355328∧aH.length+[(ft M (Frame.mk cU cV cW cX) bO)].length≤4611686018427387904)∧(ay (bN 30 (eS M (Frame.mk cU cV cW cX) bO)) (aR+1) (aH++[(ft M (Frame.mk cU cV cW cX) bO)]) (gv M (Frame.mk cU cV cW cX) (ft M (Frame.mk cU cV cW cX) bO)).frame.ok (gv M (Frame.mk cU cV cW cX) (ft M (Frame.mk cU cV cW cX) bO)).frame.aw (gv M (Frame.mk cU cV cW cX) (ft M (Frame.mk cU cV cW cX) bO)).frame.ap (gv M (Frame.mk cU cV cW cX) (ft M (Frame.mk cU cV cW cX) bO)).frame.O (IntKind.i64.wrap (cc - 1))∧aB (bN 30 (eS M (Frame.mk cU cV cW cX) bO)) (aR+1) (aH++[(ft M (Frame.mk cU cV cW cX) bO)]) (gv M (Frame.mk cU cV cW cX) (ft M (Frame.mk cU cV cW cX) bO)).frame.ok (gv M (Frame.mk cU cV cW cX) (ft M (Frame.mk cU cV cW cX) bO)).frame.aw (gv M (Frame.mk cU cV cW cX) (ft M (Frame.mk cU cV cW cX) bO)).frame.ap (gv M (Frame.mk cU cV cW cX) (ft M (Frame.mk cU cV cW cX) bO)).frame.O (IntKind.i64.wrap (cc - 1))<aB bO aR aH cU cV cW cX cc))∧(((gv M (Frame.mk cU cV cW cX) (ft M (Frame.mk cU cV cW cX) bO)).code !=1)=false→((aH.length+[(ft M (Frame.mk cU cV cW cX) bO)].length)*24≤140737488355328∧aH.length+[(ft M (Frame.mk cU cV cW cX) bO)].length≤4611686018427387904)∧(ay (bN 30 (eS M (Frame.mk cU cV cW cX) bO)) (aR+1) (aH++[(ft M (Frame.mk cU cV cW cX) bO)]) cU cV cW cX (IntKind.i64.wrap (cc - 1))∧aB (bN 30 (eS M (Frame.mk cU cV cW cX) bO)) (aR+1) (aH++[(ft M (Frame.mk cU cV cW cX) bO)]) cU cV cW cX (IntKind.i64.wrap (cc - 1))<aB bO aR aH cU cV cW cX cc))
def Sq (ay:pi Prop) (aB:pi Nat) (M:az) (bO:bc) (aR:Nat) (aH:(List Event)) (cU:Bool) (cV:(List Bool)) (cW:(List a8)) (cX:(List ad)) (cc:Int):Prop:=
  (((cN 30 (eS M (Frame.mk cU cV cW cX) bO))==0)=true→(G2 M (bN 30 (eS M (Frame.mk cU cV cW cX) bO)))∧((CO M (Frame.mk cU cV cW cX) (iH M (bN 30 (eS M (Frame.mk cU cV cW cX) bO))))∧(So ay aB M bO aR aH cU cV cW cX cc)))∧(((cN 30 (eS M (Frame.mk cU cV cW cX) bO))==0)=false→(CO M (Frame.mk cU cV cW cX) (ft M (Frame.mk cU cV cW cX) bO))∧(Sp ay aB M bO aR aH cU cV cW cX cc))
def Sr (ay:pi Prop) (aB:pi Nat) (M:az) (U:Int) (c c':bc) (al:(List Event)):Prop:=
  ay (bN U c) 0 ([]:List Event) (ei M).ok (ei M).aw (ei M).ap (ei M).O (cN U c)∧ ∀(bO:bc) (aR:Nat) (aH:(List Event)) (cU:Bool) (cV:(List Bool)) (cW:(List a8)) (cX:(List ad)) (cc:Int),ay bO aR aH cU cV cW cX cc→(((decide (cc>0))=false→(bO=c')∧(aH.length≤4611686018427387904∧aH=al))∧((decide (cc>0))=true→(Eo M (Frame.mk cU cV cW cX) bO)∧((iI 30 (eS M (Frame.mk cU cV cW cX) bO))∧(Sq ay aB M bO aR aH cU cV cW cX cc))))
def Sn (M:az) (U:Int) (c c':bc) (al:(List Event)) (ay:pi Prop) (aB:pi Nat):Prop:=
 (iI U c)∧(Sr ay aB M U c c' al)
theorem aeU (hg:Nat) (M:az) (U:Int) (c:bc) (aI:AR M U c):iW Try.prog 110 hg (j5 hg [.p,.v .dt,.v .int] (M,U,())) (cd false .dd c) (cd false .dd (ym M U c)) (k5 [(.l .fT)] ((sJ M U c),())):=(fun(ay:pi Prop) (aB:pi Nat) (h:Sn M U c (ym M U c) (sJ M U c) ay aB)=>iW.run (hg:=hg) (ce:= .dd) (l:=[.p,.v .dt,.v .int]) (rs:=[(.l .fT)]) (x:=(M,U,())) (c:=c) (c':=(ym M U c)) (r:=((sJ M U c),())) ⟨45,ep,[ac0,ac6]⟩ ⟨[],[],[],[z0,aeu,aeC],[]⟩ (.lp [(0,7,.fT)] [0,4,8] [(8,4),(4,5)] [.dd,.nat,(.l .fT),.bool,(.l .bool),(.l .gM),(.l .held),.int] [bD 0,bD 1,bD 1,eL 8 0,eL 8 1,eL 8 2,eL 8 3,9] (fun aM=>[(7,.ref 1 aM.2.1 aM.2.2.1.length false),(9,.i .i64 aM.2.2.2.2.2.2.2.1),(eL 8 0,.b (.v aM.2.2.2.1)),(eL 8 1,.l .bool aM.2.2.2.2.1 false true),(eL 8 2,.l .gM aM.2.2.2.2.2.1 false true),(eL 8 3,.l .held aM.2.2.2.2.2.2.1 false true),(bD 0,.eN hg (gJ false .dd aM.1)),(bD 1,.blk aM.2.1 .fT aM.2.2.1 _ rfl)]) (fun aM=>ay aM.1 aM.2.1 aM.2.2.1 aM.2.2.2.1 aM.2.2.2.2.1 aM.2.2.2.2.2.1 aM.2.2.2.2.2.2.1 aM.2.2.2.2.2.2.2.1) (fun aM=>aB aM.1 aM.2.1 aM.2.2.1 aM.2.2.2.1 aM.2.2.2.2.1 aM.2.2.2.2.2.1 aM.2.2.2.2.2.2.1 aM.2.2.2.2.2.2.2.1) fun _=> .nil) Try.func110 h) (fun d _ x a b o e v=>(0≤v∧v≤49)∧bX (20*v) d∧eI M (Frame.mk a b o e)=true∧x.length+v.toNat≤49∧sq M v.toNat (Frame.mk a b o e) d x=D7 M U c) (fun _ _ _ _ _ _ _ v=>v.toNat) (by
 obtain⟨hg,ak,aV,agl⟩:=aI
 have hv:=nd U c
 have hv2:=hv.2 aV
 have wz:bX 998 (bN U c):=bX.pick (ak.mono (by omega)) (by omega)
 unfold Sn Sr
 refine⟨ak.mono (by omega),⟨⟨hv.1,by omega⟩,wz.mono (by omega),Az hg,by show 0+_≤49;omega,rfl⟩,fun d g x k o q w v ⟨aK,bh,hf,aL,he⟩=>⟨fun hv=> ?_,fun hv=> ?_⟩⟩
 ·have hv: ¬v>0:=by simpa using hv
  rw[show v.toNat=0 by omega] at he
  unfold ym sJ
  rw[←he]
  exact⟨rfl,by omega,rfl⟩
 have hv:v>0:=by simpa using hv
 have mZ:IntKind.i64.wrap (v - 1)=v - 1:=fG (by omega) (by omega)
 have fit:=ms hf
 have h1:bX 10 (eS M (Frame.mk k o q w) d):=KT (bh.mono (by omega)) (by omega)
 have h2:bX 8 (bN 30 (eS M (Frame.mk k o q w) d)):=bX.pick (h1.mono (by omega)) (by omega)
 have o1: ∀e:Event,(x.length+[e].length)*24≤140737488355328∧x.length+[e].length≤4611686018427387904:=fun e=>⟨by simp;omega,by simp;omega⟩
 have kS: ∀e:Event,(x++[e]).length+(v - 1).toNat≤49:=fun e=>by simp;omega
 have oz:(v - 1).toNat<v.toNat:=by omega
 refine⟨⟨⟨fit.in,fit.fr⟩,bh.mono (by omega)⟩,h1.mono (by omega),?_⟩
 unfold Sq
 refine⟨fun hb=>⟨h2,Cg hf,?_⟩,fun hb=>⟨Cg hf,?_⟩⟩
 ·obtain⟨aR,a2,bS⟩:=PZ hf hv bh he (show rb M (Frame.mk k o q w) d=(iH M (bN 30 (eS M (Frame.mk k o q w) d)),o4 M (bN 30 (eS M (Frame.mk k o q w) d))) by unfold rb;rw[hb];rfl)
  unfold So
  rw[mZ]
  exact⟨fun hc=>⟨o1 _,⟨⟨by omega,by omega⟩,aR,(a2 hc).1,kS _,(a2 hc).2⟩,oz⟩,fun hc=>⟨o1 _,⟨⟨by omega,by omega⟩,aR,hf,kS _,bS hc⟩,oz⟩⟩
 ·obtain⟨aR,a2,bS⟩:=PZ hf hv bh he (show rb M (Frame.mk k o q w) d=(ft M (Frame.mk k o q w) d,bN 30 (eS M (Frame.mk k o q w) d)) by unfold rb;rw[hb];rfl)
  unfold Sp
  rw[mZ]
  exact⟨fun hc=>⟨o1 _,⟨⟨by omega,by omega⟩,aR,(a2 hc).1,kS _,(a2 hc).2⟩,oz⟩,fun hc=>⟨o1 _,⟨⟨by omega,by omega⟩,aR,hf,kS _,bS hc⟩,oz⟩⟩)
def aeV:ls Try.prog:=⟨110,.dd,[.p,.v .dt,.v .int],[(.l .fT)],fun x c=>AR x.1 x.2.1 c,fun x c=>ym x.1 x.2.1 c,fun x c=>((sJ x.1 x.2.1 c),()),fun g x c h=>aeU g x.1 x.2.1 c h⟩
def adf:List Item:=[ao 0,ao 1,ao 2,⟨3,true,false,[0]⟩,⟨4,true,false,[]⟩,ao 5]
def adg:List (List Nat):=[[],[],[],[1,2],rg 0 4,rg 0 5]
def ada (J:(List UInt8)) (al:az×(List Event)):Prop:=
  (Hc (bc.mk J 0 0))∧((AR (lG (bc.mk J 0 0)) 50 (q0 (bc.mk J 0 0)))∧(((lG (bc.mk J 0 0)).ai=al.1.ai)∧((lG (bc.mk J 0 0)).a5=al.1.a5)∧((lG (bc.mk J 0 0)).O=al.1.O)∧((lG (bc.mk J 0 0)).bW=al.1.bW)∧((lG (bc.mk J 0 0)).dx=al.1.dx)∧((sJ (lG (bc.mk J 0 0)) 50 (q0 (bc.mk J 0 0)))=al.2)))
def ac_ (J:(List UInt8)) (al:az×(List Event)):Prop:=
 ada J al
theorem adb (J:(List UInt8)):b2 Try.prog 46 [bL qu J] (.tup [.agg (bg true ((pw J).1)),hl ju ((pw J).2)]):=(fun(h:ac_ J (pw J))=>b2.run (ps:=[(.l .u8)]) (rs:=[.dt,(.l .fT)]) (x:=(J,())) (r:=((pw J).1,(pw J).2,())) ⟨15,ep,[]⟩ ⟨[],[(3,adf,adg)],[],[aeF,aeV],[]⟩ .nil Try.func46 h) (by
 exact⟨(D4 J).mono (by omega),UP J,rfl,rfl,rfl,rfl,rfl,rfl⟩)
def ade:eC Try.prog:=⟨46,[(.l .u8)],[.dt,(.l .fT)],none,fun x=>((pw x.1).1,(pw x.1).2,()),fun x h=>adb x.1⟩
def MP (J:az) (M:Frame) (U:Int) (al:(List Int)):Prop:=
 ((yu J M)∧(((!(eI J M)) || (!(pT U (J.a5.length:Int))))=true→[]=al))∧((!((!(eI J M)) || (!(pT U (J.a5.length:Int)))))=true→(si J M U)∧((fO J M U)=al))
theorem YB (J:az) (M:Frame) (U:Int) (aI:wl J M U):b2 Try.prog 49 [.agg (bg false J),.agg (bZ false M),ag U] (hl c_ (eG J M U)):=(fun(h:MP J M U (eG J M U))=>b2.run (ps:=[.dt,.frame,.int]) (rs:=[(.l .int)]) (x:=(J,M,U,())) (r:=((eG J M U),())) ⟨23,ep,[Yu,Zf,Nn]⟩ ⟨[],[],[],[],[]⟩ .nil Try.func49 h) (by
 unfold MP eG
 refine⟨⟨aI,fun h=> ?_⟩,fun h=> ?_⟩
 ·cases hf:eI J M<;>cases hi:pT U (J.a5.length:Int)<;>simp[hf,hi] at h ⊢
 ·cases hf:eI J M<;>cases hi:pT U (J.a5.length:Int)<;>simp[hf,hi] at h
  unfold pT at hi
  simp at hi
  exact⟨⟨ms hf,hi.1,hi.2⟩,rfl⟩)
def YC:eC Try.prog:=⟨49,[.dt,.frame,.int],[(.l .int)],some fun x=>wl x.1 x.2.1 x.2.2.1,fun x=>((eG x.1 x.2.1 x.2.2.1),()),fun x h=>YB x.1 x.2.1 x.2.2.1 h⟩
def Z3:List Item:=[ao 0,ao 1,ao 2,ao 3,ao 4,ao 5,ao 6,ao 7,ao 8,ao 9,ao 10,ao 11,ao 12,ao 13,ao 14,ao 15,ao 16,ao 17,ao 18,ao 19,ao 20,ao 21,ao 22,ao 23,ao 24,ao 25,ao 26,ao 27,ao 28,ao 29,ao 30,ao 31,ao 32,ao 33,ao 34,ao 35,ao 36,ao 37,ao 38,ao 39,ao 40,ao 41,ao 42,ao 43,ao 44,ao 45,ao 46,ao 47,ao 48]
def Z4:List (List Nat):=[[],[0],[],[2],[],[2,3,4],rg 2 6,rg 2 7,rg 0 8,rg 0 9,rg 0 10,rg 0 10,rg 0 12,rg 0 13,rg 0 14,rg 0 15,rg 0 16,rg 0 17,rg 0 17,rg 0 19,rg 0 20,rg 0 21,rg 0 22,rg 0 23,rg 0 24,rg 0 25,rg 0 26,rg 0 27,rg 0 28,rg 0 29,rg 0 30,rg 0 31,rg 0 30,rg 0 30++[32],rg 0 30,rg 0 30++[32,33,34],rg 0 30++rg 32 36,rg 0 37,rg 0 38,rg 0 39,rg 0 40,rg 0 41,rg 0 41,rg 0 41,rg 0 44,rg 0 45,rg 0 46,rg 0 47,rg 0 48]
def N2 (J:(List UInt8)) (al:Bool) (cj:Int) (c0:Bool) (cE:(List Bool)) (cJ:(List a8)) (c1:(List ad)) (b8:Int):Prop:=
  (((nth (nth (cI J) b8).frame.ap cj).b5 !=(nth cJ cj).b5)&&(bif ((nth (iG J) b8).op !=1) then(((nth (iG J) b8).op !=6) || (((nth (cI J) b8).code !=0) || ((nth cE (nth (b4 J).a5 cj)) || (decide (((eG (b4 J) (Frame.mk c0 cE cJ c1) cj).length:Int)>0))))) else(((nth (cI J) b8).code !=0) || ((nth cE (nth (b4 J).a5 cj)) || (decide (((eG (b4 J) (Frame.mk c0 cE cJ c1) cj).length:Int)>0))))))=true→false=al
abbrev iQ (r:Type):Type:=Bool→(List Bool)→(List a8)→(List ad)→Int→Int→Int→Bool→Int→Bool→Int→r
def N7 (cx:iQ Prop) (cy:iQ Nat) (J:(List UInt8)) (bY:Bool) (jm:Int) (ru:Bool) (mT eD cj:Int) (c0:Bool) (cE:(List Bool)) (cJ:(List a8)) (c1:(List ad)) (b8:Int):Prop:=
  cx c0 cE cJ c1 b8 cj eD bY jm (ru || (((nth (nth (b4 J).O (nth (eG (b4 J) (nth (cI J) b8).frame cj) eD)).bx mT).sw==cj)&&((nth (nth (b4 J).O (nth (eG (b4 J) (nth (cI J) b8).frame cj) eD)).bx mT).bj==(nth (nth (cI J) b8).frame.ap cj).b5))) (IntKind.i64.wrap (mT+1))∧cy c0 cE cJ c1 b8 cj eD bY jm (ru || (((nth (nth (b4 J).O (nth (eG (b4 J) (nth (cI J) b8).frame cj) eD)).bx mT).sw==cj)&&((nth (nth (b4 J).O (nth (eG (b4 J) (nth (cI J) b8).frame cj) eD)).bx mT).bj==(nth (nth (cI J) b8).frame.ap cj).b5))) (IntKind.i64.wrap (mT+1))<cy c0 cE cJ c1 b8 cj eD bY jm ru mT
abbrev jJ (r:Type):Type:=Bool→(List Bool)→(List a8)→(List ad)→Int→Int→Int→r
def N8 (bw:jJ Prop) (bt:jJ Nat) (cx:iQ Prop) (cy:iQ Nat) (J:(List UInt8)) (al bY:Bool) (jm:Int) (ru:Bool) (mT eD cj:Int) (c0:Bool) (cE:(List Bool)) (cJ:(List a8)) (c1:(List ad)) (b8:Int):Prop:=
  ((decide (mT<((nth (b4 J).O (nth (eG (b4 J) (nth (cI J) b8).frame cj) eD)).bx.length:Int)))=false→((!ru)=true→false=al)∧((!ru)=false→bw c0 cE cJ c1 b8 cj (IntKind.i64.wrap (eD+1))∧bt c0 cE cJ c1 b8 cj (IntKind.i64.wrap (eD+1))<bt c0 cE cJ c1 b8 cj eD))∧((decide (mT<((nth (b4 J).O (nth (eG (b4 J) (nth (cI J) b8).frame cj) eD)).bx.length:Int)))=true→(0≤mT∧mT.toNat<(nth (b4 J).O (nth (eG (b4 J) (nth (cI J) b8).frame cj) eD)).bx.length)∧(N7 cx cy J bY jm ru mT eD cj c0 cE cJ c1 b8))
abbrev jK (r:Type):Type:=Bool→(List Bool)→(List a8)→(List ad)→Int→Int→Int→Bool→Int→r
def N9 (bU:jK Prop) (bV:jK Nat) (J:(List UInt8)) (bY:Bool) (jm eD cj:Int) (c0:Bool) (cE:(List Bool)) (cJ:(List a8)) (c1:(List ad)) (b8:Int):Prop:=
  bU c0 cE cJ c1 b8 cj eD (bY || (((nth (nth (b4 J).O (nth (eG (b4 J) (nth (cI J) b8).frame cj) eD)).aX jm).sw==cj)&&((nth (nth (b4 J).O (nth (eG (b4 J) (nth (cI J) b8).frame cj) eD)).aX jm).bj==(nth (nth (cI J) b8).frame.ap cj).b5))) (IntKind.i64.wrap (jm+1))∧bV c0 cE cJ c1 b8 cj eD (bY || (((nth (nth (b4 J).O (nth (eG (b4 J) (nth (cI J) b8).frame cj) eD)).aX jm).sw==cj)&&((nth (nth (b4 J).O (nth (eG (b4 J) (nth (cI J) b8).frame cj) eD)).aX jm).bj==(nth (nth (cI J) b8).frame.ap cj).b5))) (IntKind.i64.wrap (jm+1))<bV c0 cE cJ c1 b8 cj eD bY jm
def N_ (bw:jJ Prop) (bt:jJ Nat) (bU:jK Prop) (bV:jK Nat) (cx:iQ Prop) (cy:iQ Nat) (J:(List UInt8)) (al bY:Bool) (jm eD cj:Int) (c0:Bool) (cE:(List Bool)) (cJ:(List a8)) (c1:(List ad)) (b8:Int):Prop:=
  ((decide (jm<((nth (b4 J).O (nth (eG (b4 J) (nth (cI J) b8).frame cj) eD)).aX.length:Int)))=false→(0≤(nth (eG (b4 J) (nth (cI J) b8).frame cj) eD)∧(nth (eG (b4 J) (nth (cI J) b8).frame cj) eD).toNat<(b4 J).O.length)∧((nth (b4 J).O (nth (eG (b4 J) (nth (cI J) b8).frame cj) eD)).bx.length≤4611686018427387904→cx c0 cE cJ c1 b8 cj eD bY jm bY 0∧ ∀(ru:Bool) (mT:Int),cx c0 cE cJ c1 b8 cj eD bY jm ru mT→(N8 bw bt cx cy J al bY jm ru mT eD cj c0 cE cJ c1 b8)))∧((decide (jm<((nth (b4 J).O (nth (eG (b4 J) (nth (cI J) b8).frame cj) eD)).aX.length:Int)))=true→(0≤jm∧jm.toNat<(nth (b4 J).O (nth (eG (b4 J) (nth (cI J) b8).frame cj) eD)).aX.length)∧(N9 bU bV J bY jm eD cj c0 cE cJ c1 b8))
def Oa (bw:jJ Prop) (bt:jJ Nat) (bU:jK Prop) (bV:jK Nat) (cx:iQ Prop) (cy:iQ Nat) (J:(List UInt8)) (al:Bool) (eD cj:Int) (c0:Bool) (cE:(List Bool)) (cJ:(List a8)) (c1:(List ad)) (b8:Int):Prop:=
  (0≤(nth (eG (b4 J) (nth (cI J) b8).frame cj) eD)∧(nth (eG (b4 J) (nth (cI J) b8).frame cj) eD).toNat<(b4 J).O.length)∧((nth (b4 J).O (nth (eG (b4 J) (nth (cI J) b8).frame cj) eD)).aX.length≤4611686018427387904→bU c0 cE cJ c1 b8 cj eD false 0∧ ∀(bY:Bool) (jm:Int),bU c0 cE cJ c1 b8 cj eD bY jm→(N_ bw bt bU bV cx cy J al bY jm eD cj c0 cE cJ c1 b8))
def Ob (bw:jJ Prop) (bt:jJ Nat) (bU:jK Prop) (bV:jK Nat) (cx:iQ Prop) (cy:iQ Nat) (J:(List UInt8)) (al:Bool) (eD cj:Int) (c0:Bool) (cE:(List Bool)) (cJ:(List a8)) (c1:(List ad)) (b8:Int):Prop:=
  (((decide ((nth (eG (b4 J) (nth (cI J) b8).frame cj) eD)<0)) || (decide ((nth (eG (b4 J) (nth (cI J) b8).frame cj) eD) ≥ ((b4 J).O.length:Int))))=true→false=al)∧((!((decide ((nth (eG (b4 J) (nth (cI J) b8).frame cj) eD)<0)) || (decide ((nth (eG (b4 J) (nth (cI J) b8).frame cj) eD) ≥ ((b4 J).O.length:Int)))))=true→Oa bw bt bU bV cx cy J al eD cj c0 cE cJ c1 b8)
abbrev mQ (r:Type):Type:=Bool→(List Bool)→(List a8)→(List ad)→Int→Int→r
def Oc (aU:mQ Prop) (aV:mQ Nat) (bw:jJ Prop) (bt:jJ Nat) (bU:jK Prop) (bV:jK Nat) (cx:iQ Prop) (cy:iQ Nat) (J:(List UInt8)) (al:Bool) (eD cj:Int) (c0:Bool) (cE:(List Bool)) (cJ:(List a8)) (c1:(List ad)) (b8:Int):Prop:=
  ((decide (eD<((eG (b4 J) (nth (cI J) b8).frame cj).length:Int)))=false→aU c0 cE cJ c1 b8 (IntKind.i64.wrap (cj+1))∧aV c0 cE cJ c1 b8 (IntKind.i64.wrap (cj+1))<aV c0 cE cJ c1 b8 cj)∧((decide (eD<((eG (b4 J) (nth (cI J) b8).frame cj).length:Int)))=true→(0≤eD∧eD.toNat<(eG (b4 J) (nth (cI J) b8).frame cj).length)∧(Ob bw bt bU bV cx cy J al eD cj c0 cE cJ c1 b8))
def Od (aU:mQ Prop) (aV:mQ Nat) (bw:jJ Prop) (bt:jJ Nat) (bU:jK Prop) (bV:jK Nat) (cx:iQ Prop) (cy:iQ Nat) (J:(List UInt8)) (al:Bool) (cj:Int) (c0:Bool) (cE:(List Bool)) (cJ:(List a8)) (c1:(List ad)) (b8:Int):Prop:=
  (((0≤cj∧cj.toNat<cJ.length)∧(((nth (nth (cI J) b8).frame.ap cj).b5 !=(nth cJ cj).b5)=true→(0≤b8∧b8.toNat<(iG J).length)∧((((nth (iG J) b8).op !=1)=true→(0≤b8∧b8.toNat<(iG J).length)∧(((nth (iG J) b8).op !=6)=false→((nth (cI J) b8).code !=0)=false→(0≤cj∧cj.toNat<(b4 J).a5.length)∧((0≤(nth (b4 J).a5 cj)∧(nth (b4 J).a5 cj).toNat<cE.length)∧((nth cE (nth (b4 J).a5 cj))=false→wl (b4 J) (Frame.mk c0 cE cJ c1) cj))))∧(((nth (iG J) b8).op !=1)=false→((nth (cI J) b8).code !=0)=false→(0≤cj∧cj.toNat<(b4 J).a5.length)∧((0≤(nth (b4 J).a5 cj)∧(nth (b4 J).a5 cj).toNat<cE.length)∧((nth cE (nth (b4 J).a5 cj))=false→wl (b4 J) (Frame.mk c0 cE cJ c1) cj))))))∧(N2 J al cj c0 cE cJ c1 b8))∧((!(((nth (nth (cI J) b8).frame.ap cj).b5 !=(nth cJ cj).b5)&&(bif ((nth (iG J) b8).op !=1) then(((nth (iG J) b8).op !=6) || (((nth (cI J) b8).code !=0) || ((nth cE (nth (b4 J).a5 cj)) || (decide (((eG (b4 J) (Frame.mk c0 cE cJ c1) cj).length:Int)>0))))) else(((nth (cI J) b8).code !=0) || ((nth cE (nth (b4 J).a5 cj)) || (decide (((eG (b4 J) (Frame.mk c0 cE cJ c1) cj).length:Int)>0)))))))=true→(wl (b4 J) (nth (cI J) b8).frame cj)∧((eG (b4 J) (nth (cI J) b8).frame cj).length≤4611686018427387904→bw c0 cE cJ c1 b8 cj 0∧ ∀(eD:Int),bw c0 cE cJ c1 b8 cj eD→(Oc aU aV bw bt bU bV cx cy J al eD cj c0 cE cJ c1 b8)))
abbrev pj (r:Type):Type:=Bool→(List Bool)→(List a8)→(List ad)→Int→r
def N3 (ay:pj Prop) (aB:pj Nat) (aU:mQ Prop) (aV:mQ Nat) (bw:jJ Prop) (bt:jJ Nat) (bU:jK Prop) (bV:jK Nat) (cx:iQ Prop) (cy:iQ Nat) (J:(List UInt8)) (al:Bool) (cj:Int) (c0:Bool) (cE:(List Bool)) (cJ:(List a8)) (c1:(List ad)) (b8:Int):Prop:=
  ((decide (cj<((nth (cI J) b8).frame.ap.length:Int)))=false→ay (nth (cI J) b8).frame.ok (nth (cI J) b8).frame.aw (nth (cI J) b8).frame.ap (nth (cI J) b8).frame.O (IntKind.i64.wrap (b8+1))∧aB (nth (cI J) b8).frame.ok (nth (cI J) b8).frame.aw (nth (cI J) b8).frame.ap (nth (cI J) b8).frame.O (IntKind.i64.wrap (b8+1))<aB c0 cE cJ c1 b8)∧((decide (cj<((nth (cI J) b8).frame.ap.length:Int)))=true→(0≤cj∧cj.toNat<(nth (cI J) b8).frame.ap.length)∧(Od aU aV bw bt bU bV cx cy J al cj c0 cE cJ c1 b8))
def N4 (ay:pj Prop) (aB:pj Nat) (aU:mQ Prop) (aV:mQ Nat) (bw:jJ Prop) (bt:jJ Nat) (bU:jK Prop) (bV:jK Nat) (cx:iQ Prop) (cy:iQ Nat) (J:(List UInt8)) (al c0:Bool) (cE:(List Bool)) (cJ:(List a8)) (c1:(List ad)) (b8:Int):Prop:=
  (((nth (cI J) b8).frame.ap.length≤4611686018427387904)∧((b4 J).a5.length≤4611686018427387904)→((((nth (cI J) b8).frame.ap.length:Int) !=((b4 J).a5.length:Int)) || (((cJ.length:Int) !=((b4 J).a5.length:Int)) || ((cE.length:Int) !=(b4 J).ai)))=true→false=al)∧(((nth (cI J) b8).frame.ap.length≤4611686018427387904)∧((b4 J).a5.length≤4611686018427387904)∧((!((((nth (cI J) b8).frame.ap.length:Int) !=((b4 J).a5.length:Int)) || (((cJ.length:Int) !=((b4 J).a5.length:Int)) || ((cE.length:Int) !=(b4 J).ai))))=true)→aU c0 cE cJ c1 b8 0∧ ∀(cj:Int),aU c0 cE cJ c1 b8 cj→(N3 ay aB aU aV bw bt bU bV cx cy J al cj c0 cE cJ c1 b8))
def N5 (ay:pj Prop) (aB:pj Nat) (aU:mQ Prop) (aV:mQ Nat) (bw:jJ Prop) (bt:jJ Nat) (bU:jK Prop) (bV:jK Nat) (cx:iQ Prop) (cy:iQ Nat) (J:(List UInt8)) (al:Bool):Prop:=
  ay (ei (b4 J)).ok (ei (b4 J)).aw (ei (b4 J)).ap (ei (b4 J)).O 0∧ ∀(c0:Bool) (cE:(List Bool)) (cJ:(List a8)) (c1:(List ad)) (b8:Int),ay c0 cE cJ c1 b8→(((decide (b8<((cI J).length:Int)))=false→true=al)∧((decide (b8<((cI J).length:Int)))=true→(0≤b8∧b8.toNat<(cI J).length)∧(N4 ay aB aU aV bw bt bU bV cx cy J al c0 cE cJ c1 b8)))
def N6 (ay:pj Prop) (aB:pj Nat) (aU:mQ Prop) (aV:mQ Nat) (bw:jJ Prop) (bt:jJ Nat) (bU:jK Prop) (bV:jK Nat) (cx:iQ Prop) (cy:iQ Nat) (J:(List UInt8)) (al:Bool):Prop:=
  (((cI J).length≤4611686018427387904)∧((iG J).length≤4611686018427387904)→(((cI J).length:Int) !=((iG J).length:Int))=true→false=al)∧(((cI J).length≤4611686018427387904)∧((iG J).length≤4611686018427387904)∧((!(((cI J).length:Int) !=((iG J).length:Int)))=true)→N5 ay aB aU aV bw bt bU bV cx cy J al)
def N1 (J:(List UInt8)) (al:Bool) (ay:pj Prop) (aB:pj Nat) (aU:mQ Prop) (aV:mQ Nat) (bw:jJ Prop) (bt:jJ Nat) (bU:jK Prop) (bV:jK Nat) (cx:iQ Prop) (cy:iQ Nat):Prop:=
 (J.length≤4611686018427387904→(decide ((J.length:Int)>1048576))=true→true=al)∧((J.length≤4611686018427387904)∧((!(decide ((J.length:Int)>1048576)))=true)→N6 ay aB aU aV bw bt bU bV cx cy J al)
theorem Z1 (J:(List UInt8)):b2 Try.prog 14 [bL qu J] (an (Jt J)):=(fun(ay:pj Prop) (aB:pj Nat) (aU:mQ Prop) (aV:mQ Nat) (bw:jJ Prop) (bt:jJ Nat) (bU:jK Prop) (bV:jK Nat) (cx:iQ Prop) (cy:iQ Nat) (h:N1 J (Jt J) ay aB aU aV bw bt bU bV cx cy)=>b2.run (ps:=[(.l .u8)]) (rs:=[.bool]) (x:=(J,())) (r:=((Jt J),())) ⟨204,ep,[ade,Mx,YE,YC]⟩ ⟨[37,57,71],[(16,Z3,Z4)],[],[],[]⟩ (.lp [] [3,4,5,36,37] [(5,4),(3,5)] [.bool,(.l .bool),(.l .gM),(.l .held),.int] [eL 5 0,eL 5 1,eL 5 2,eL 5 3,38] (fun aM=>[(38,.i .i64 aM.2.2.2.2.1),(eL 5 0,.b (.v aM.1)),(eL 5 1,.l .bool aM.2.1 false false),(eL 5 2,.l .gM aM.2.2.1 false false),(eL 5 3,.l .held aM.2.2.2.1 false false)]) (fun aM=>ay aM.1 aM.2.1 aM.2.2.1 aM.2.2.2.1 aM.2.2.2.2.1) (fun aM=>aB aM.1 aM.2.1 aM.2.2.1 aM.2.2.2.1 aM.2.2.2.2.1) fun aM=>(e9 [3,4,5,7,8,36,37,38,70,71] [(8,5),(5,4),(3,5)] 72 (aU aM.1 aM.2.1 aM.2.2.1 aM.2.2.2.1 aM.2.2.2.2.1) (aV aM.1 aM.2.1 aM.2.2.1 aM.2.2.2.1 aM.2.2.2.2.1) fun bI=>(e9 [3,4,5,7,8,9,10,36,37,38,70,71,72,130,131] [(10,2),(8,5),(5,4),(3,5)] 132 (bw aM.1 aM.2.1 aM.2.2.1 aM.2.2.2.1 aM.2.2.2.2.1 bI) (bt aM.1 aM.2.1 aM.2.2.1 aM.2.2.2.1 aM.2.2.2.2.1 bI) fun b_=>(.lp [] [3,4,5,7,8,9,10,12,36,37,38,70,71,72,130,131,132,150,151] [(10,2),(8,5),(5,4),(3,5)] [.bool,.int] [13,152] (fun dL=>[(13,.b (.v dL.1)),(152,.i .i64 dL.2.1)]) (fun dL=>bU aM.1 aM.2.1 aM.2.2.1 aM.2.2.2.1 aM.2.2.2.2.1 bI b_ dL.1 dL.2.1) (fun dL=>bV aM.1 aM.2.1 aM.2.2.1 aM.2.2.2.1 aM.2.2.2.2.1 bI b_ dL.1 dL.2.1) fun dL=>(.lp [] [3,4,5,7,8,9,10,36,37,38,70,71,72,130,131,132,176,177] [(10,2),(8,5),(5,4),(3,5)] [.bool,.int] [13,178] (fun hI=>[(13,.b (.v hI.1)),(178,.i .i64 hI.2.1)]) (fun hI=>cx aM.1 aM.2.1 aM.2.2.1 aM.2.2.2.1 aM.2.2.2.2.1 bI b_ dL.1 dL.2.1 hI.1 hI.2.1) (fun hI=>cy aM.1 aM.2.1 aM.2.2.1 aM.2.2.2.1 aM.2.2.2.2.1 bI b_ dL.1 dL.2.1 hI.1 hI.2.1) fun _=> .nil))))) Try.func14 h) (fun k o q w v=>ct (cI J).length (fun _=>false) v∧Frame.mk k o q w=o7 J v) (fun _ _ _ _=>cG (cI J).length) (fun _ _ _ _ v=>ct (nth (cI J) v).frame.ap.length (fun _=>false)) (fun _ _ _ _ v=>cG (nth (cI J) v).frame.ap.length) (fun _ _ _ _ v k=>ct (eG (b4 J) (nth (cI J) v).frame k).length (fun _=>false)) (fun _ _ _ _ v k=>cG (eG (b4 J) (nth (cI J) v).frame k).length) (fun _ _ _ _ v k x b j=>ct (nth (b4 J).O (nth (eG (b4 J) (nth (cI J) v).frame k) x)).aX.length (fun _=>false) j∧b=rN ((nth (b4 J).O (nth (eG (b4 J) (nth (cI J) v).frame k) x)).aX.take j.toNat) k (nth (nth (cI J) v).frame.ap k).b5) (fun _ _ _ _ v k x _=>cG (nth (b4 J).O (nth (eG (b4 J) (nth (cI J) v).frame k) x)).aX.length) (fun _ _ _ _ v k x b _ d j=>ct (nth (b4 J).O (nth (eG (b4 J) (nth (cI J) v).frame k) x)).bx.length (fun _=>false) j∧d=(b || rN ((nth (b4 J).O (nth (eG (b4 J) (nth (cI J) v).frame k) x)).bx.take j.toNat) k (nth (nth (cI J) v).frame.ap k).b5)) (fun _ _ _ _ v k x _ _ _=>cG (nth (b4 J).O (nth (eG (b4 J) (nth (cI J) v).frame k) x)).bx.length) (by
 have hlen:=abC J
 unfold N1
 refine⟨fun _ _=>rfl,fun _=> ?_⟩
 unfold N6
 refine⟨fun _ h=>by rw[hlen] at h;simp at h,fun⟨h1,h2,_⟩=> ?_⟩
 unfold N5
 refine⟨⟨df (dp _),rfl⟩,fun k o q w v ⟨a0,he⟩=>⟨fun _=>rfl,fun hv=>⟨cb a0 hv,?_⟩⟩⟩
 have b9:=cb a0 hv
 have BA:v.toNat<(iG J).length:=by omega
 have y2:=Hf (code:=J) b9.1 BA
 have fA:=abD (code:=J) b9.1 BA
 have oo:=Lf fA
 have io:=Lf y2
 have cF:=(ms fA).in
 have rI:=Hy (code:=J) b9.1 BA
 have m7:rB (b4 J) (nth (cI J) v).frame:=by
  have:=K7 (code:=J) (v.toNat+1) (by omega)
  rw[show((v.toNat+1:Nat):Int)=v+1 by omega,He b9.1] at this
  exact this
 have br:o=(o7 J v).aw:=by rw[←he]
 have e2:q=(o7 J v).ap:=by rw[←he]
 have OQ:(o.length:Int)=(b4 J).ai:=by rw[br];exact io.1
 have abz:q.length=(b4 J).a5.length:=by rw[e2];exact io.2.1
 unfold N4
 refine⟨fun _ h=>by rw[oo.2.1,OQ,abz] at h;simp at h,fun⟨bI,b_,_⟩=>⟨df (dp _),fun i de=> ?_⟩⟩
 unfold N3
 refine⟨fun _=> ?_,fun hi=>⟨cb de hi,?_⟩⟩
 ·have up:=cO (cw h1) a0 hv rfl
  have mZ:=iU (cw h1) b9.1 (by simpa using hv)
  rw[mZ] at up ⊢
  exact⟨⟨up.1,(He b9.1).symm⟩,up.2⟩
 have BV:=cb de hi
 have i1:i<(b4 J).a5.length:=by omega
 have Oi:0≤v∧v.toNat<(iG J).length:=⟨b9.1,BA⟩
 have sin:0≤i∧i.toNat<(b4 J).a5.length:=⟨BV.1,by omega⟩
 have hs:=cF.a5 _ (dz sin.2)
 have OP:0≤nth (b4 J).a5 i∧(nth (b4 J).a5 i).toNat<o.length:=⟨hs.1,by omega⟩
 have BJ:wl (b4 J) (Frame.mk k o q w) i:=by rw[he];exact Cg y2
 have next:=cO (cw bI) de hi rfl
 unfold Od
 refine⟨⟨⟨⟨BV.1,by omega⟩,fun _=>⟨Oi,fun _=>⟨Oi,fun _ _=>⟨sin,OP,fun _=>BJ⟩⟩,fun _ _=>⟨sin,OP,fun _=>BJ⟩⟩⟩,?_⟩,fun _=>⟨Cg fA,fun aL=>⟨df (dp _),fun x yH=> ?_⟩⟩⟩
 ·unfold N2
  intro aG
  rw[Bool.and_eq_true] at aG
  have hw:(nth (mi (b4 J) (o7 J v) (nth (iG J) v)).frame.ap i).b5≠(nth (o7 J v).ap i).b5:=by
   have:=aG.1
   rw[rI,e2] at this
   simpa using this
  obtain⟨s1,s2,lh,HM⟩:=still_step y2 BV.1 i1 hw
  have yY:=aG.2
  rw[rI,he,s2,HM,br,lh] at yY
  rcases s1 with s1 | s1<;>rw[s1] at yY<;>simp at yY
 unfold Oc
 refine⟨fun _=>next,fun hx=>⟨cb yH hx,?_⟩⟩
 have afF:=cb yH hx
 obtain⟨qY,xi,xj⟩:=aat (dz afF.2)
 have cZ:=Vr (m7 _ _ qY xi BV.1 i1 xj)
 have SZ:0≤nth (eG (b4 J) (nth (cI J) v).frame i) x∧(nth (eG (b4 J) (nth (cI J) v).frame i) x).toNat<(b4 J).O.length:=⟨qY,by omega⟩
 unfold Ob
 refine⟨fun h=>by simp at h;omega,fun _=> ?_⟩
 unfold Oa
 refine⟨SZ,fun fo=>⟨⟨df (dp _),by simp[rN]⟩,fun b j ⟨aN,hb⟩=> ?_⟩⟩
 unfold N_
 refine⟨fun LZ=>⟨SZ,fun jT=>⟨⟨df (dp _),by simp[rN]⟩,fun d y ⟨bm,bh⟩=> ?_⟩⟩,fun l5=>⟨cb aN l5,?_⟩⟩
 ·have LZ: ¬j<((nth (b4 J).O (nth (eG (b4 J) (nth (cI J) v).frame i) x)).aX.length:Int):=by simpa using LZ
  have yo:=aN.2.1
  rw[show j.toNat=(nth (b4 J).O (nth (eG (b4 J) (nth (cI J) v).frame i) x)).aX.length by omega,List.take_length] at hb
  unfold N8
  refine⟨fun Ms=> ?_,fun r5=>⟨cb bm r5,?_⟩⟩
  ·have Ms: ¬y<((nth (b4 J).O (nth (eG (b4 J) (nth (cI J) v).frame i) x)).bx.length:Int):=by simpa using Ms
   have A5:=bm.2.1
   rw[show y.toNat=(nth (b4 J).O (nth (eG (b4 J) (nth (cI J) v).frame i) x)).bx.length by omega,List.take_length,hb,cZ] at bh
   rw[bh]
   exact⟨fun h=>(by cases h),fun _=>cO (cw aL) yH hx rfl⟩
  ·have up:=cO (cw jT) bm r5 rfl
   have Ju:=cb bm r5
   have mZ:=iU (cw jT) Ju.1 (by simpa using r5)
   unfold N7
   rw[mZ] at up ⊢
   exact⟨⟨up.1,by rw[K6 Ju.1 Ju.2,bh,Bool.or_assoc]⟩,up.2⟩
 ·have up:=cO (cw fo) aN l5 rfl
  have Gv:=cb aN l5
  have mZ:=iU (cw fo) Gv.1 (by simpa using l5)
  unfold N9
  rw[mZ] at up ⊢
  exact⟨⟨up.1,by rw[K6 Gv.1 Gv.2,hb]⟩,up.2⟩)
end Go.Proofs.Ytglpfccgmfhkdaa.Fw
