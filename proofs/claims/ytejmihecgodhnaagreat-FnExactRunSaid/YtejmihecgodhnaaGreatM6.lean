/- Walks and summaries of functions, printed by a program of mine (tools/mk2.py), with the proofs of what they owe. -/
import Derived.Test.YtejmihecgodhnaaGreatM5
set_option linter.unusedVariables false
set_option maxRecDepth 100000
set_option maxHeartbeats 4000000
set_option linter.unusedSimpArgs false
namespace Go.Proofs.YtejmihecgodhnaaGreat.Fw
open Go
attribute [local irreducible] evS evSD WpS Weak Oper.looksAt
section
variable (a0:c9) (J:Int) (aa:Bool)
def ajq:Prop:=
 (a0.bh==J)=aa
theorem ajr:bn Tryz.prog 133 [.agg (dd a0),.dv [ad J] 0] (aq (yX a0 J)):=(fun(h:ajq a0 J (yX a0 J))=>bn.run (ps:=[.bi,(.ptr .int)]) (rs:=[.bool]) (x:=(a0,J,())) (r:=((yX a0 J),())) ⟨8,dy,[]⟩ ⟨[],[],[],[],[]⟩ .nil Tryz.func133 h) (by
 exact rfl)
def ajs:dJ Tryz.prog:=⟨133,[.bi,(.ptr .int)],[.bool],none,fun x=>((yX x.1 x.2.1),()),fun x h=>ajr x.1 x.2.1⟩
end
section
variable (a0:(List c9)) (J aa:Int) (ai:Int→Prop) (al:Int→Nat)
def aaB:Prop:=
 a0.length≤4611686018427387904→ai 0∧ ∀(dk:Int),ai dk→(((decide (dk<(a0.length:Int)))=false→(-1)=aa)∧((decide (dk<(a0.length:Int)))=true→((0≤dk∧dk.toNat<a0.length)∧((yX (nth a0 dk) J)=true→dk=aa))∧((!(yX (nth a0 dk) J))=true→ai (IntKind.i64.wrap (dk+1))∧al (IntKind.i64.wrap (dk+1))<al dk)))
theorem aob:bn Tryz.prog 138 [bA dd a0,.fn 133 [.dv [ad J] 0]] (ad (u0 a0 J)):=(fun(ai:Int→Prop) (al:Int→Nat) (h:aaB a0 J (u0 a0 J) ai al)=>bn.run (ps:=[(.l .bi),(.j4 133 (.ptr .int))]) (rs:=[.int]) (x:=(a0,J,())) (r:=((u0 a0 J),())) ⟨19,dy,[ajs]⟩ ⟨[],[],[],[],[]⟩ (fz [0,1,7] [] 8 ai al fun _=> .nil) Tryz.func138 h) (cr a0.length (fun j=>yX (nth a0 j) J)) (cM a0.length) (by
 unfold aaB
 intro ag
 refine⟨dA (dp _),fun v aT=>⟨fun hv=> ?_,fun hv=>⟨⟨cC aT hv,fun ab=> ?_⟩,fun ab=>da (cO ag) aT hv (not_eq ab)⟩⟩⟩
 ·unfold u0;rw[ue (q:=fun x:c9=>x.bh==J) aT hv];rfl
 ·unfold u0;rw[ud (q:=fun x:c9=>x.bh==J) aT hv ab]
  have:=aT.1
  show v=(v.toNat:Int)
  omega)
def aoc:dJ Tryz.prog:=⟨138,[(.l .bi),(.j4 133 (.ptr .int))],[.int],none,fun x=>((u0 x.1 x.2.1),()),fun x h=>aob x.1 x.2.1⟩
end
section
variable (a0:(List c9)) (J:Int) (aa:Bool)
def an8:Prop:=
 (decide ((u0 a0 J) ≥ 0))=aa
theorem an9:bn Tryz.prog 132 [bA dd a0,.fn 133 [.dv [ad J] 0]] (aq (m4 a0 J)):=(fun(h:an8 a0 J (m4 a0 J))=>bn.run (ps:=[(.l .bi),(.j4 133 (.ptr .int))]) (rs:=[.bool]) (x:=(a0,J,())) (r:=((m4 a0 J),())) ⟨9,dy,[aoc]⟩ ⟨[],[],[],[],[]⟩ .nil Tryz.func132 h) (by
 exact aiO a0 J)
def an_:dJ Tryz.prog:=⟨132,[(.l .bi),(.j4 133 (.ptr .int))],[.bool],none,fun x=>((m4 x.1 x.2.1),()),fun x h=>an9 x.1 x.2.1⟩
end
section
variable (a0:(List c9)) (J:Int) (aa:Bool)
def ajt:Prop:=
 (m4 a0 J)=aa
theorem aju:bn Tryz.prog 125 [bA dd a0,ad J] (aq (m4 a0 J)):=(fun(h:ajt a0 J (m4 a0 J))=>bn.run (ps:=[(.l .bi),.int]) (rs:=[.bool]) (x:=(a0,J,())) (r:=((m4 a0 J),())) ⟨8,dy,[an_]⟩ ⟨[],[],[],[],[]⟩ .nil Tryz.func125 h) (by
 exact rfl)
def ajv:dJ Tryz.prog:=⟨125,[(.l .bi),.int],[.bool],none,fun x=>((m4 x.1 x.2.1),()),fun x h=>aju x.1 x.2.1⟩
end
section
abbrev ng (r:Type):Type:=Nat→(List Int)→Int→r
variable (ai:ng Prop) (al:ng Nat) (a0:aL) (J:Frame) (a2:Int) (g0:Nat) (aI:(List Int)) (dD:Int)
abbrev N4:=(m4 (nth a0.O dD).cR a2) || ((m4 (nth a0.O dD).bI a2)&&(kQ a0 J dD (nth a0.a7 a2)))
abbrev yL:=IntKind.i64.wrap (dD+1)
def ajB:List Item:=(List.range 21).map cz
def ajC:List (List Nat):=[[],[0],[],[0,1,2],rg 0 4,rg 0 5,rg 0 6,rg 0 5,rg 0 8,rg 0 9,rg 0 10,rg 0 10,rg 0 10,rg 0 10,rg 0 10++[13],rg 0 10,rg 0 10++[13,14,15],rg 0 10++rg 13 17,rg 0 18,rg 0 19,rg 0 20]
def WA:Prop:=
  ((N4 a0 J a2 dD)=true→((aI.length+[dD].length)*8≤140737488355328∧aI.length+[dD].length≤4611686018427387904)∧(ai (g0+1) (aI++[dD]) (yL dD)∧al (g0+1) (aI++[dD]) (yL dD)<al g0 aI dD))∧((N4 a0 J a2 dD)=false→ai g0 aI (yL dD)∧al g0 aI (yL dD)<al g0 aI dD)
def WB:Prop:=
  ((0≤dD∧dD.toNat<J.O.length)∧(((nth J.O dD).aF==0)=true→ai g0 aI (yL dD)∧al g0 aI (yL dD)<al g0 aI dD))∧((!((nth J.O dD).aF==0))=true→((m4 (nth a0.O dD).cR a2)=false→(m4 (nth a0.O dD).bI a2)=true→(0≤a2∧a2.toNat<a0.a7.length)∧(AT a0 J dD (nth a0.a7 a2)))∧(WA ai al a0 J a2 g0 aI dD))
def Wz (a0:aL) (J:Frame) (a2:Int) (aa:(List Int)) (ai:ng Prop) (al:ng Nat):Prop:=
 a0.O.length≤4611686018427387904→ai 0 ([]:List Int) 0∧ ∀(g0:Nat) (aI:(List Int)) (dD:Int),ai g0 aI dD→(((decide (dD<(a0.O.length:Int)))=false→aI.length≤4611686018427387904∧aI=aa)∧((decide (dD<(a0.O.length:Int)))=true→(0≤dD∧dD.toNat<a0.O.length)∧(WB ai al a0 J a2 g0 aI dD)))
theorem WC (ab:w4 a0 J a2):bn Tryz.prog 99 [.agg (bD false a0),.agg (cq false J),ad a2] (pt cx (kt a0 J a2)):=(fun(ai:ng Prop) (al:ng Nat) (h:Wz a0 J a2 (kt a0 J a2) ai al)=>bn.run (ps:=[.eO,.frame,.int]) (rs:=[(.l .int)]) (x:=(a0,J,a2,())) (r:=((kt a0 J a2),())) ⟨52,dy,[ajv,ajn]⟩ ⟨[],[(6,ajB,ajC)],[],[],[]⟩ (.lp [(0,7,.int)] [2,3,4,11,12] [(4,4),(3,5)] [.nat,(.l .int),.int] [bJ 0,bJ 0,13] (fun aS=>[(7,.ref 0 aS.1 aS.2.1.length false),(13,.i .i64 aS.2.2.1),(bJ 0,.blk aS.1 .int aS.2.1 _ rfl)]) (fun aS=>ai aS.1 aS.2.1 aS.2.2.1) (fun aS=>al aS.1 aS.2.1 aS.2.2.1) fun _=> .nil) Tryz.func99 h) (fun _ x v=>cr a0.O.length (fun _=>false) v∧x=eu (fun i=>ov a0 J i a2) v) (fun _ _ v=>cM a0.O.length v) (by
 unfold Wz
 obtain⟨hf,aA,h1⟩:=ab
 have hw:=hf.fr.O
 have D2:=hf.in.O
 have wq:=hf.in.a7
 intro ag
 refine⟨⟨dA (dp _),rfl⟩,fun g x v aT=> ?_⟩
 obtain⟨aT,rfl⟩:=aT
 have iB:=aT.1
 have hlen:=v7 (fun i=>ov a0 J i a2) v
 have A0:=aT.2.1
 refine⟨fun hv=>⟨by omega,?_⟩,fun hv=>⟨cC aT hv,?_⟩⟩
 ·have: ¬v<(a0.O.length:Int):=by simpa using hv
  rw[show v=(a0.O.length:Int) by omega];rfl
 have ck:=cC aT hv
 have a6:=da (cO ag) aT hv rfl
 have tq:IntKind.i64.wrap (v+1)=v+1:=kH (cO ag) iB (by simpa using hv)
 have uh:ov a0 J v a2=true→(cr a0.O.length (fun _=>false) (IntKind.i64.wrap (v+1))∧eu (fun i=>ov a0 J i a2) v++[v]=eu (fun i=>ov a0 J i a2) (IntKind.i64.wrap (v+1))):=fun h=>⟨a6.1,by rw[tq,Dx iB,if_pos h]⟩
 have no:ov a0 J v a2=false→(cr a0.O.length (fun _=>false) (IntKind.i64.wrap (v+1))∧eu (fun i=>ov a0 J i a2) v=eu (fun i=>ov a0 J i a2) (IntKind.i64.wrap (v+1))):=fun h=>⟨a6.1,by rw[tq,Dx iB,if_neg (by rw[h];simp)]⟩
 unfold WB WA yL N4
 refine⟨⟨⟨iB,by omega⟩,fun aH=>⟨no ?_,a6.2⟩⟩,fun aH=>⟨fun _ _=>⟨⟨aA,by omega⟩,hf,iB,by omega⟩,⟨fun U=>⟨⟨?_,?_⟩,uh ?_,a6.2⟩,fun U=>⟨no ?_,a6.2⟩⟩⟩⟩
 ·unfold ov
  rw[show((nth J.O v).aF !=0)=false by simpa using aH];rfl
 ·simp only[List.length_singleton];omega
 ·simp only[List.length_singleton];omega
 ·unfold ov
  rw[show((nth J.O v).aF !=0)=true by simpa using aH];exact U
 ·unfold ov
  rw[show((nth J.O v).aF !=0)=true by simpa using aH];exact U)
def ajA:dJ Tryz.prog:=⟨99,[.eO,.frame,.int],[(.l .int)],some fun x=>w4 x.1 x.2.1 x.2.2.1,fun x=>((kt x.1 x.2.1 x.2.2.1),()),fun x h=>WC x.1 x.2.1 x.2.2.1 h⟩
end
section
variable (ai:Int→Prop) (al:Int→Nat) (bb:Int→Int→Prop) (a_:Int→Int→Nat) (a0:aL) (J:Frame) (a2 a3 aa dI eS:Int)
abbrev ua:=(nth a0.O a2).bI
abbrev vy:=(nth a0.O a2).cR
def apB:List Item:=(List.range 15).map cz
def apC:List (List Nat):=[[],[0],[],[0,1,2],rg 0 4,rg 0 5,rg 0 5,rg 0 5,rg 0 5,rg 0 5++[8],rg 0 5,rg 0 5++[8,9,10],rg 0 5++rg 8 12,rg 0 13,rg 0 14]
def ab5:Prop:=
  ((0≤eS∧eS.toNat<(ua a0 a2).length)∧((((nth (ua a0 a2) eS).bh==a3)=true→(0≤a3∧a3.toNat<a0.a7.length)∧(AT a0 J a2 (nth a0.a7 a3)))∧((((nth (ua a0 a2) eS).bh==a3)&&(kQ a0 J a2 (nth a0.a7 a3)))=true→(nth (ua a0 a2) eS).bi=aa)))∧((!(((nth (ua a0 a2) eS).bh==a3)&&(kQ a0 J a2 (nth a0.a7 a3))))=true→bb dI (IntKind.i64.wrap (eS+1))∧a_ dI (IntKind.i64.wrap (eS+1))<a_ dI eS)
def ab6:Prop:=
  ((decide (dI<((vy a0 a2).length:Int)))=false→(0≤a2∧a2.toNat<a0.O.length)∧((ua a0 a2).length≤4611686018427387904→bb dI 0∧ ∀(eS:Int),bb dI eS→(((decide (eS<((ua a0 a2).length:Int)))=false→0=aa)∧((decide (eS<((ua a0 a2).length:Int)))=true→ab5 bb a_ a0 J a2 a3 aa dI eS))))∧((decide (dI<((vy a0 a2).length:Int)))=true→((0≤dI∧dI.toNat<(vy a0 a2).length)∧(((nth (vy a0 a2) dI).bh==a3)=true→(nth (vy a0 a2) dI).bi=aa))∧((!((nth (vy a0 a2) dI).bh==a3))=true→ai (IntKind.i64.wrap (dI+1))∧al (IntKind.i64.wrap (dI+1))<al dI))
def ab4 (a0:aL) (J:Frame) (a2:Int) (a3:Int) (aa:Int) (ai:Int→Prop) (al:Int→Nat) (bb:Int→Int→Prop) (a_:Int→Int→Nat):Prop:=
 ((0≤a2∧a2.toNat<J.O.length)∧(((nth J.O a2).aF==0)=true→0=aa))∧((!((nth J.O a2).aF==0))=true→(0≤a2∧a2.toNat<a0.O.length)∧((vy a0 a2).length≤4611686018427387904→ai 0∧ ∀(dI:Int),ai dI→(ab6 ai al bb a_ a0 J a2 a3 aa dI)))
theorem apz (ab:R9 a0 J a2 a3):bn Tryz.prog 112 [.agg (bD false a0),.agg (cq false J),ad a2,ad a3] (ad (rX a0 J a2 a3)):=(fun(ai:Int→Prop) (al:Int→Nat) (bb:Int→Int→Prop) (a_:Int→Int→Nat) (h:ab4 a0 J a2 a3 (rX a0 J a2 a3) ai al bb a_)=>bn.run (ps:=[.eO,.frame,.int,.int]) (rs:=[.int]) (x:=(a0,J,a2,a3,())) (r:=((rX a0 J a2 a3),())) ⟨67,dy,[apr]⟩ ⟨[],[(12,apB,apC)],[],[],[]⟩ (fz [2,3,4,5,25,26] [(5,4),(4,5)] 27 ai al fun aS=>(fz [2,3,4,5,43,44] [(5,4),(4,5)] 45 (bb aS) (a_ aS) fun _=> .nil)) Tryz.func112 h) (cr (nth a0.O a2).cR.length (fun j=>(nth (nth a0.O a2).cR j).bh==a3)) (cM (nth a0.O a2).cR.length) (fun _=>cr (nth a0.O a2).bI.length (fun j=>(nth (nth a0.O a2).bI j).bh==a3&&kQ a0 J a2 (nth a0.a7 a3))) (fun _=>cM (nth a0.O a2).bI.length) (by
 unfold ab4 vy
 obtain⟨hf,aA,h1,h2,aC⟩:=ab
 have hw:=hf.fr.O
 refine⟨⟨⟨aA,by omega⟩,fun aH=> ?_⟩,fun aH=>⟨⟨aA,by omega⟩,fun ag=>⟨dA (dp _),fun v aT=> ?_⟩⟩⟩
 ·unfold rX;rw[if_pos (by simpa using aH)]
 have aH: ¬(nth J.O a2).aF=0:=by simpa using aH
 unfold ab6 vy ua
 refine⟨fun hv=>⟨⟨aA,by omega⟩,fun hm=>⟨dA (dp _),fun k hK=> ?_⟩⟩,fun hv=>⟨⟨cC aT hv,fun hb=> ?_⟩,fun hb=>da (cO ag) aT hv (not_eq hb)⟩⟩
 ·have aN:=ue (q:=fun x:c9=>x.bh==a3) aT hv
  unfold ab5 ua
  refine⟨fun hk=> ?_,fun hk=>⟨⟨cC hK hk,fun _=>⟨⟨h2,by omega⟩,hf,aA,h1⟩,fun hb=> ?_⟩,fun hb=>da (cO hm) hK hk (not_eq hb)⟩⟩
  ·unfold rX
   rw[if_neg aH,aN]
   simp only
   rw[ue (q:=fun x:c9=>x.bh==a3&&kQ a0 J a2 (nth a0.a7 a3)) hK hk]
  ·unfold rX
   rw[if_neg aH,aN]
   simp only
   rw[ud (q:=fun x:c9=>x.bh==a3&&kQ a0 J a2 (nth a0.a7 a3)) hK hk hb]
   simp only[lG hK.1]
 ·unfold rX
  rw[if_neg aH,ud (q:=fun x:c9=>x.bh==a3) aT hv hb]
  simp only[lG aT.1])
def apA:dJ Tryz.prog:=⟨112,[.eO,.frame,.int,.int],[.int],some fun x=>R9 x.1 x.2.1 x.2.2.1 x.2.2.2.1,fun x=>((rX x.1 x.2.1 x.2.2.1 x.2.2.2.1),()),fun x h=>apz x.1 x.2.1 x.2.2.1 x.2.2.2.1 h⟩
end
section
variable (ai:ng Prop) (al:ng Nat) (a0:aL) (J:Frame) (a2:Int) (g0:Nat) (aI:(List Int)) (v12:Int)
def abO:Prop:=
  ((decide ((rX a0 J v12 a2)>0))=true→((aI.length+[v12].length)*8≤140737488355328∧aI.length+[v12].length≤4611686018427387904)∧(ai (g0+1) (aI++[v12]) (IntKind.i64.wrap (v12+1))∧al (g0+1) (aI++[v12]) (IntKind.i64.wrap (v12+1))<al g0 aI v12))∧((decide ((rX a0 J v12 a2)>0))=false→ai g0 aI (IntKind.i64.wrap (v12+1))∧al g0 aI (IntKind.i64.wrap (v12+1))<al g0 aI v12)
def abN (a0:aL) (J:Frame) (a2:Int) (aa:(List Int)) (ai:ng Prop) (al:ng Nat):Prop:=
 a0.O.length≤4611686018427387904→ai 0 ([]:List Int) 0∧ ∀(g0:Nat) (aI:(List Int)) (v12:Int),ai g0 aI v12→(((decide (v12<(a0.O.length:Int)))=false→aI.length≤4611686018427387904∧aI=aa)∧((decide (v12<(a0.O.length:Int)))=true→(R9 a0 J v12 a2)∧(abO ai al a0 J a2 g0 aI v12)))
theorem abP (ab:w4 a0 J a2):bn Tryz.prog 81 [.agg (bD false a0),.agg (cq false J),ad a2] (pt cx (kt a0 J a2)):=(fun(ai:ng Prop) (al:ng Nat) (h:abN a0 J a2 (kt a0 J a2) ai al)=>bn.run (ps:=[.eO,.frame,.int]) (rs:=[(.l .int)]) (x:=(a0,J,a2,())) (r:=((kt a0 J a2),())) ⟨27,dy,[apA]⟩ ⟨[],[],[],[],[]⟩ (.lp [(0,7,.int)] [2,3,4,11] [(4,4),(3,5)] [.nat,(.l .int),.int] [bJ 0,bJ 0,12] (fun aS=>[(7,.ref 0 aS.1 aS.2.1.length false),(12,.i .i64 aS.2.2.1),(bJ 0,.blk aS.1 .int aS.2.1 _ rfl)]) (fun aS=>ai aS.1 aS.2.1 aS.2.2.1) (fun aS=>al aS.1 aS.2.1 aS.2.2.1) fun _=> .nil) Tryz.func81 h) (fun _ x v=>cr a0.O.length (fun _=>false) v∧x=eu (fun i=>ov a0 J i a2) v) (fun _ _ v=>cM a0.O.length v) (by
 unfold abN
 obtain⟨hf,aA,h1⟩:=ab
 have D2:=hf.in.O
 intro ag
 refine⟨⟨dA (dp _),rfl⟩,fun g x v aT=> ?_⟩
 obtain⟨aT,rfl⟩:=aT
 have iB:=aT.1
 have hlen:=v7 (fun i=>ov a0 J i a2) v
 have A0:=aT.2.1
 refine⟨fun hv=>⟨by omega,?_⟩,fun hv=>⟨⟨hf,iB,by have:=cC aT hv;omega,aA,h1⟩,?_⟩⟩
 ·have: ¬v<(a0.O.length:Int):=by simpa using hv
  rw[show v=(a0.O.length:Int) by omega];rfl
 have a6:=da (cO ag) aT hv rfl
 have tq:IntKind.i64.wrap (v+1)=v+1:=kH (cO ag) iB (by simpa using hv)
 unfold abO
 rw[aqq hf.oF (cC aT hv).2]
 refine⟨fun U=>⟨⟨?_,?_⟩,⟨a6.1,by rw[tq,Dx iB,if_pos U]⟩,a6.2⟩,fun U=>⟨⟨a6.1,by rw[tq,Dx iB,if_neg (by rw[U];simp)]⟩,a6.2⟩⟩
 ·simp only[List.length_singleton];omega
 ·simp only[List.length_singleton];omega)
def aps:dJ Tryz.prog:=⟨81,[.eO,.frame,.int],[(.l .int)],some fun x=>w4 x.1 x.2.1 x.2.2.1,fun x=>((kt x.1 x.2.1 x.2.2.1),()),fun x h=>abP x.1 x.2.1 x.2.2.1 h⟩
end
section
abbrev CF (r:Type):Type:=Nat→(List Int)→Int→Nat→(List Int)→Int→r
abbrev CG (r:Type):Type:=Nat→(List Int)→Int→Nat→(List Int)→Int→Nat→(List Int)→Int→Bool→Bool→r
abbrev CH (r:Type):Type:=Nat→(List Int)→Int→Nat→(List Int)→Int→Nat→(List Int)→Int→Bool→Bool→Nat→(List Int)→Int→Bool→Bool→r
variable (ai:ng Prop) (al:ng Nat) (bb:CF Prop) (a_:CF Nat) (b8:CG Prop) (bw:CG Nat) (dK:CH Prop) (cX:CH Nat) (a0:aL) (J:Frame) (a2:Int) (aa:sR×Bool×Bool) (g0:Nat) (aI:(List Int)) (en:Int) (g1:Nat) (ax:(List Int)) (v76:Int) (g2:Nat) (bC:(List Int)) (kE:Int) (gd dk:Bool) (eY:Int) (nv:Nat) (fG:(List Int)) (oq ot:Bool)
abbrev Ns:=(en !=a2)&&(((nth J.O en).aF !=0)&&((nth (nth a0.bG a2) en) || ((meets (nth a0.O a2).ao (nth a0.O en).di) || (meets (nth a0.O a2).di (nth a0.O en).ao))))
abbrev yC:=decide (((kt a0 J eY).length:Int)>0)
abbrev Nt:=((nth (bV (nth a0.O a2)) kE).bh !=eY) || ((nth J.ay eY).dR==(nth (bV (nth a0.O a2)) kE).bi)
abbrev wD:=IntKind.i64.wrap (kE+1)
abbrev Nu:=(nth J.aE v76)&&((hh (nth a0.O a2).ao v76) || (hh (nth a0.O a2).di v76))
abbrev yD:=nth J.aE (nth a0.a7 eY)
def ai4:List Item:=(List.range 15).map cz
def ai5:List (List Nat):=[[],[0],[],[0,1,2],rg 0 4,rg 0 5,rg 0 6,rg 0 5,rg 0 8,rg 0 9,rg 0 10,rg 0 5,rg 0 5++[11],rg 0 13,rg 0 14]
def ai6:List Item:=(List.range 10).map cz
def ai7:List (List Nat):=[[],[0],[],[2],[],[2,3,4],rg 2 6,rg 0 7,rg 0 8,rg 0 9]
def V1:Prop:=
  (((yC a0 J eY) || (yD a0 J eY))=true→((fG.length+[eY].length)*8≤140737488355328∧fG.length+[eY].length≤4611686018427387904)∧(dK g0 aI en g1 ax v76 g2 bC eY gd dk (nv+1) (fG++[eY]) (wD kE) (oq || (yC a0 J eY)) (ot || (yD a0 J eY))∧cX g0 aI en g1 ax v76 g2 bC eY gd dk (nv+1) (fG++[eY]) (wD kE) (oq || (yC a0 J eY)) (ot || (yD a0 J eY))<cX g0 aI en g1 ax v76 g2 bC eY gd dk nv fG kE oq ot))∧(((yC a0 J eY) || (yD a0 J eY))=false→dK g0 aI en g1 ax v76 g2 bC eY gd dk nv fG (wD kE) (oq || (yC a0 J eY)) (ot || (yD a0 J eY))∧cX g0 aI en g1 ax v76 g2 bC eY gd dk nv fG (wD kE) (oq || (yC a0 J eY)) (ot || (yD a0 J eY))<cX g0 aI en g1 ax v76 g2 bC eY gd dk nv fG kE oq ot)
def V4:Prop:=
  ((((nth (bV (nth a0.O a2)) kE).bh !=eY)=false→0≤eY∧eY.toNat<J.ay.length)∧((Nt a0 J a2 kE eY)=true→dK g0 aI en g1 ax v76 g2 bC eY gd dk nv fG (wD kE) oq ot∧cX g0 aI en g1 ax v76 g2 bC eY gd dk nv fG (wD kE) oq ot<cX g0 aI en g1 ax v76 g2 bC eY gd dk nv fG kE oq ot))∧((!(Nt a0 J a2 kE eY))=true→(w4 a0 J eY)∧((kt a0 J eY).length≤4611686018427387904→((0≤eY∧eY.toNat<a0.a7.length)∧(0≤(nth a0.a7 eY)∧(nth a0.a7 eY).toNat<J.aE.length))∧(V1 dK cX a0 J g0 aI en g1 ax v76 g2 bC kE gd dk eY nv fG oq ot)))
def V5:Prop:=
  ((decide (kE<((bV (nth a0.O a2)).length:Int)))=false→b8 g0 aI en g1 ax v76 nv fG (IntKind.i64.wrap (eY+1)) oq ot∧bw g0 aI en g1 ax v76 nv fG (IntKind.i64.wrap (eY+1)) oq ot<bw g0 aI en g1 ax v76 g2 bC eY gd dk)∧((decide (kE<((bV (nth a0.O a2)).length:Int)))=true→(0≤kE∧kE.toNat<(bV (nth a0.O a2)).length)∧(V4 dK cX a0 J a2 g0 aI en g1 ax v76 g2 bC kE gd dk eY nv fG oq ot))
def V6:Prop:=
  ((decide (eY<(a0.a7.length:Int)))=false→(aI.length≤4611686018427387904∧aI=aa.1.O)∧(ax.length≤4611686018427387904∧ax=aa.1.ao)∧(bC.length≤4611686018427387904∧bC=aa.1.ay)∧(gd=aa.2.1)∧(dk=aa.2.2))∧((decide (eY<(a0.a7.length:Int)))=true→(BN (nth a0.O a2))∧((bV (nth a0.O a2)).length≤4611686018427387904→dK g0 aI en g1 ax v76 g2 bC eY gd dk g2 bC 0 gd dk∧ ∀(nv:Nat) (fG:(List Int)) (kE:Int) (oq:Bool) (ot:Bool),dK g0 aI en g1 ax v76 g2 bC eY gd dk nv fG kE oq ot→(V5 b8 bw dK cX a0 J a2 g0 aI en g1 ax v76 g2 bC kE gd dk eY nv fG oq ot)))
def V7:Prop:=
  ((Nu a0 J a2 v76)=true→((ax.length+[v76].length)*8≤140737488355328∧ax.length+[v76].length≤4611686018427387904)∧(bb g0 aI en (g1+1) (ax++[v76]) (IntKind.i64.wrap (v76+1))∧a_ g0 aI en (g1+1) (ax++[v76]) (IntKind.i64.wrap (v76+1))<a_ g0 aI en g1 ax v76))∧((Nu a0 J a2 v76)=false→bb g0 aI en g1 ax (IntKind.i64.wrap (v76+1))∧a_ g0 aI en g1 ax (IntKind.i64.wrap (v76+1))<a_ g0 aI en g1 ax v76)
def V8:Prop:=
  ((decide (v76<a0.ao))=false→a0.a7.length≤4611686018427387904→b8 g0 aI en g1 ax v76 0 ([]:List Int) 0 false false∧ ∀(g2:Nat) (bC:(List Int)) (eY:Int) (gd:Bool) (dk:Bool),b8 g0 aI en g1 ax v76 g2 bC eY gd dk→(V6 b8 bw dK cX a0 J a2 aa g0 aI en g1 ax v76 g2 bC gd dk eY))∧((decide (v76<a0.ao))=true→(0≤v76∧v76.toNat<J.aE.length)∧(V7 bb a_ a0 J a2 g0 aI en g1 ax v76))
def V9:Prop:=
  ((Ns a0 J a2 en)=true→((aI.length+[en].length)*8≤140737488355328∧aI.length+[en].length≤4611686018427387904)∧(ai (g0+1) (aI++[en]) (IntKind.i64.wrap (en+1))∧al (g0+1) (aI++[en]) (IntKind.i64.wrap (en+1))<al g0 aI en))∧((Ns a0 J a2 en)=false→ai g0 aI (IntKind.i64.wrap (en+1))∧al g0 aI (IntKind.i64.wrap (en+1))<al g0 aI en)
def V_:Prop:=
  ((decide (en<(a0.O.length:Int)))=false→bb g0 aI en 0 ([]:List Int) 0∧ ∀(g1:Nat) (ax:(List Int)) (v76:Int),bb g0 aI en g1 ax v76→(V8 bb a_ b8 bw dK cX a0 J a2 aa g0 aI en g1 ax v76))∧((decide (en<(a0.O.length:Int)))=true→(0≤en∧en.toNat<a0.O.length)∧(((en !=a2)=true→(0≤en∧en.toNat<J.O.length)∧(((nth J.O en).aF !=0)=true→(0≤a2∧a2.toNat<a0.bG.length)∧(0≤en∧en.toNat<(nth a0.bG a2).length)))∧(V9 ai al a0 J a2 g0 aI en)))
def V0 (a0:aL) (J:Frame) (a2:Int) (aa:sR×Bool×Bool) (ai:ng Prop) (al:ng Nat) (bb:CF Prop) (a_:CF Nat) (b8:CG Prop) (bw:CG Nat) (dK:CH Prop) (cX:CH Nat):Prop:=
 (0≤a2∧a2.toNat<a0.O.length)∧(a0.O.length≤4611686018427387904→ai 0 ([]:List Int) 0∧ ∀(g0:Nat) (aI:(List Int)) (en:Int),ai g0 aI en→(V_ ai al bb a_ b8 bw dK cX a0 J a2 aa g0 aI en))
theorem ai1 (ab:sO a0 J a2):zO Tryz.prog 51 [.agg (bD false a0),.agg (cq false J),ad a2] (.tup [.agg (GS true ((j2 a0 J a2).1)),aq ((j2 a0 J a2).2.1),aq ((j2 a0 J a2).2.2)]):=(fun(ai:ng Prop) (al:ng Nat) (bb:CF Prop) (a_:CF Nat) (b8:CG Prop) (bw:CG Nat) (dK:CH Prop) (cX:CH Nat) (h:V0 a0 J a2 (j2 a0 J a2) ai al bb a_ b8 bw dK cX)=>zO.run (ps:=[.eO,.frame,.int]) (rs:=[.stays,.bool,.bool]) (x:=(a0,J,a2,())) (r:=((j2 a0 J a2).1,(j2 a0 J a2).2.1,(j2 a0 J a2).2.2,())) ⟨169,dy,[N3,ajA,Jr,N1]⟩ ⟨[],[(20,ai4,ai5),(22,ai6,ai7)],[],[],[]⟩ (.lp [(7,0,.int)] [2,3,4,6,7,8,9,24,25] [(9,5),(6,3),(4,4),(3,5)] [.nat,(.l .int),.int] [bJ 0,bJ 0,26] (fun aS=>[(26,.i .i64 aS.2.2.1),(h4 6 0,.ref 0 aS.1 aS.2.1.length false),(bJ 0,.blk aS.1 .int aS.2.1 _ rfl)]) (fun aS=>ai aS.1 aS.2.1 aS.2.2.1) (fun aS=>al aS.1 aS.2.1 aS.2.2.1) fun aS=>(.lp [(7,1,.int)] [3,4,6,7,8,9,75] [(9,5),(6,3),(4,4),(3,5)] [.nat,(.l .int),.int] [bJ 1,bJ 1,76] (fun bq=>[(76,.i .i64 bq.2.2.1),(h4 6 1,.ref 1 bq.1 bq.2.1.length false),(bJ 1,.blk bq.1 .int bq.2.1 _ rfl)]) (fun bq=>bb aS.1 aS.2.1 aS.2.2.1 bq.1 bq.2.1 bq.2.2.1) (fun bq=>a_ aS.1 aS.2.1 aS.2.2.1 bq.1 bq.2.1 bq.2.2.1) fun bq=>(.lp [(7,2,.int)] [3,4,6,9,105] [(9,5),(6,3),(4,4),(3,5)] [.nat,(.l .int),.int,.bool,.bool] [bJ 2,bJ 2,106,7,8] (fun bo=>[(7,.b (.v bo.2.2.2.1)),(8,.b (.v bo.2.2.2.2.1)),(106,.i .i64 bo.2.2.1),(h4 6 2,.ref 2 bo.1 bo.2.1.length false),(bJ 2,.blk bo.1 .int bo.2.1 _ rfl)]) (fun bo=>b8 aS.1 aS.2.1 aS.2.2.1 bq.1 bq.2.1 bq.2.2.1 bo.1 bo.2.1 bo.2.2.1 bo.2.2.2.1 bo.2.2.2.2.1) (fun bo=>bw aS.1 aS.2.1 aS.2.2.1 bq.1 bq.2.1 bq.2.2.1 bo.1 bo.2.1 bo.2.2.1 bo.2.2.2.1 bo.2.2.2.2.1) fun bo=>(.lp [] [3,4,6,9,13,105,106,110,111] [(9,5),(6,3),(4,4),(3,5)] [.nat,(.l .int),.int,.bool,.bool] [bJ 2,bJ 2,112,7,8] (fun bK=>[(7,.b (.v bK.2.2.2.1)),(8,.b (.v bK.2.2.2.2.1)),(112,.i .i64 bK.2.2.1),(h4 6 2,.ref 2 bK.1 bK.2.1.length false),(bJ 2,.blk bK.1 .int bK.2.1 _ rfl)]) (fun bK=>dK aS.1 aS.2.1 aS.2.2.1 bq.1 bq.2.1 bq.2.2.1 bo.1 bo.2.1 bo.2.2.1 bo.2.2.2.1 bo.2.2.2.2.1 bK.1 bK.2.1 bK.2.2.1 bK.2.2.2.1 bK.2.2.2.2.1) (fun bK=>cX aS.1 aS.2.1 aS.2.2.1 bq.1 bq.2.1 bq.2.2.1 bo.1 bo.2.1 bo.2.2.1 bo.2.2.2.1 bo.2.2.2.2.1 bK.1 bK.2.1 bK.2.2.1 bK.2.2.2.1 bK.2.2.2.2.1) fun _=> .nil)))) Tryz.func51 h) (fun _ x v=>cr a0.O.length (fun _=>false) v∧x=eu (mm a0 J a2) v) (fun _ _ v=>cM a0.O.length v) (fun _ aI _ _ ax v=>aI=eu (mm a0 J a2) a0.O.length∧cr a0.ao (fun _=>false) v∧ax=eu (pF a0 J a2) v) (fun _ _ _ _ _ v=>cM a0.ao v) (fun _ aI _ _ ax _ _ bC v a b=>aI=eu (mm a0 J a2) a0.O.length∧ax=eu (pF a0 J a2) a0.ao∧cr a0.a7.length (fun _=>false) v∧bC=eu (ml a0 J a2) v∧a=Aw a0 J a2 v∧b=Fe a0 J a2 v) (fun _ _ _ _ _ _ _ _ v _ _=>cM a0.a7.length v) (fun _ _ _ _ _ _ _ x k a b _ mO j hB b4=>ad7 a0 J a2 k x a b mO j hB b4) (fun _ _ _ _ _ _ _ _ _ _ _ _ _ j _ _=>cM (bV (nth a0.O a2)).length j) (by
 unfold V0
 obtain⟨hf,aA,h1⟩:=ab
 have hw:=hf.fr.O
 have oL:=hf.fr.ay
 have tk:=hf.fr.aE
 have bZ:=hf.in
 have D2:=bZ.O
 have AY:=bZ.bh
 have uW:=bZ.cY
 have dF:=I1 hf.oF
 have aQ:a2.toNat<a0.O.length:=by omega
 have D1:=dT aQ
 have ja:=OX hf.oF D1
 refine⟨⟨aA,aQ⟩,fun ag=>⟨⟨dA (dp _),rfl⟩,fun g x v aT=> ?_⟩⟩
 obtain⟨aT,rfl⟩:=aT
 have hlen:=v7 (mm a0 J a2) v
 have A0:=aT.2.1
 unfold V_
 refine⟨fun hv=>⟨⟨Au aT hv,dA uW.1,rfl⟩,fun g1 ax s dq=> ?_⟩,fun hv=>⟨cC aT hv,⟨fun _=> ?_,?_⟩⟩⟩
 ·obtain⟨iC,dq,rfl⟩:=dq
  have ahQ:=v7 (pF a0 J a2) s
  have aik:=dq.2.1
  unfold V8
  refine⟨fun hs hm=>⟨⟨iC,Au dq hs,dA (dp _),rfl,rfl,rfl⟩,fun g2 bC k a b hK=> ?_⟩,fun hs=> ?_⟩
  ·obtain⟨_,tr,hK,rfl,rfl,rfl⟩:=hK
   have HG:=v7 (ml a0 J a2) k
   have ti:=hK.2.1
   unfold V6
   refine⟨fun hk=> ?_,fun hk=>⟨⟨by have:=(bZ.bI _ D1).1;omega,by have:=(bZ.bI _ D1).2.1;omega⟩,fun oK=> ?_⟩⟩
   ·have aN:=Au (q:=ml a0 J a2) hK hk
    have e:k=a0.a7.length:=by
     have: ¬k<(a0.a7.length:Int):=by simpa using hk
     omega
    refine⟨⟨by omega,iC⟩,⟨by omega,tr⟩,⟨by omega,aN⟩,?_,?_⟩
    ·rw[e];rfl
    ·rw[e];rfl
   ·have DW:=cC hK hk
    have mY:=da (cO hm) hK hk rfl
    refine⟨⟨dA (dp _),by simp[pS],by simp[pS],by simp[pS]⟩,fun nv fG j hB b4 bB=> ?_⟩
    obtain⟨bB,rfl,rfl,rfl⟩:=bB
    unfold V5
    refine⟨fun ac=> ?_,fun ac=>⟨cC bB ac,?_⟩⟩
    ·have js: ¬j<((bV (nth a0.O a2)).length:Int):=by simpa using ac
     rw[anM _ _ _ _ (j:=j.toNat) (by omega)]
     have s1:=s9 (q:=ml a0 J a2) (cO hm) hK hk
     have s2:=(s9 (q:=fun k=>l4 a0 J a2 k&&j9 a0 J k) (cO hm) hK hk).2.2
     have o6:=(s9 (q:=fun k=>l4 a0 J a2 k&&lH a0 J k) (cO hm) hK hk).2.2
     refine⟨⟨iC,tr,mY.1,?_,s2.symm,o6.symm⟩,mY.2⟩
     cases U:ml a0 J a2 k with
     | true=>rw[if_pos (show(l4 a0 J a2 k&&(j9 a0 J k || lH a0 J k))=true from U)];exact s1.1 U
     | false=>rw[if_neg (by rw[show(l4 a0 J a2 k&&(j9 a0 J k || lH a0 J k))=false from U];simp)];exact s1.2.1 U
    ·have Hy:=cC bB ac
     have yn:=da (cO oK) bB ac rfl
     have GW:(IntKind.i64.wrap (j+1)).toNat=j.toNat+1:=by rw[kH (cO oK) bB.1 (by simpa using ac)];omega
     have uZ:=anO (f:=J) (k:=k) Hy.2
     have ahZ:nth (bV (nth a0.O a2)) j=(bV (nth a0.O a2))[j.toNat]'Hy.2:=gX Hy.2
     have MW:=bZ.a7 _ (dT DW.2)
     have Mo: ∀(c:Prop) [Decidable c],(if c then eu (ml a0 J a2) k++[k] else eu (ml a0 J a2) k).length≤41:=fun c _=>by
      split
      ·rw[List.length_append,List.length_singleton];omega
      ·omega
     unfold V4 wD Nt
     rw[ahZ]
     refine⟨⟨fun _=>⟨hK.1,by omega⟩,fun U=> ?_⟩,fun U=>⟨⟨hf,hK.1,by omega⟩,fun kk=>⟨⟨⟨hK.1,DW.2⟩,MW.1,by omega⟩,?_⟩⟩⟩
     ·have:((bV (nth a0.O a2))[j.toNat].bh==k&& !((nth J.ay k).dR==(bV (nth a0.O a2))[j.toNat].bi))=false:=by
       revert U
       rw[show((bV (nth a0.O a2))[j.toNat].bh !=k)= !((bV (nth a0.O a2))[j.toNat].bh==k) from rfl]
       cases((bV (nth a0.O a2))[j.toNat].bh==k)<;>cases((nth J.ay k).dR==(bV (nth a0.O a2))[j.toNat].bi)<;>simp
      rw[this,Bool.or_false] at uZ
      exact⟨⟨yn.1,by rw[GW,uZ],by rw[GW,uZ],by rw[GW,uZ]⟩,yn.2⟩
     ·have mn:((bV (nth a0.O a2))[j.toNat].bh==k)=true∧((nth J.ay k).dR==(bV (nth a0.O a2))[j.toNat].bi)=false:=by
       revert U
       rw[show((bV (nth a0.O a2))[j.toNat].bh !=k)= !((bV (nth a0.O a2))[j.toNat].bh==k) from rfl]
       cases((bV (nth a0.O a2))[j.toNat].bh==k)<;>cases((nth J.ay k).dR==(bV (nth a0.O a2))[j.toNat].bi)<;>simp
      have j6:=anN (f:=J) ja Hy.2 mn.1
      rw[j6,mn.1,mn.2] at uZ
      rw[j6]
      unfold V1 yD wD yC
      have jr:(decide (((kt a0 J k).length:Int)>0))=j9 a0 J k:=rfl
      have oD:nth J.aE (nth a0.a7 k)=lH a0 J k:=rfl
      rw[jr,oD]
      simp only[Bool.false_and,Bool.or_false,if_false,Bool.false_eq_true]
      have E: ∀c:Bool,(pS a0 J a2 k (IntKind.i64.wrap (j+1)).toNat&&c)=c:=fun c=>by rw[GW,uZ];rfl
      refine⟨fun hc=>⟨⟨by simp only[List.length_singleton];omega,by simp only[List.length_singleton];omega⟩,⟨yn.1,?_,by rw[E],by rw[E]⟩,yn.2⟩,fun hc=>⟨⟨yn.1,?_,by rw[E],by rw[E]⟩,yn.2⟩⟩
      ·rw[E,if_pos hc]
      ·rw[E,if_neg (by rw[hc];simp)]
  ·have uY:0≤s∧s<a0.ao:=⟨dq.1,by simpa using hs⟩
   have a6:=da (N:=a0.ao) (by omega) dq hs rfl
   have s1:=s9 (q:=pF a0 J a2) (N:=a0.ao) (by omega) dq hs
   refine⟨⟨dq.1,by omega⟩,?_⟩
   unfold V7 Nu
   exact⟨fun U=>⟨⟨by simp only[List.length_singleton];omega,by simp only[List.length_singleton];omega⟩,⟨iC,a6.1,s1.1 U⟩,a6.2⟩,fun U=>⟨⟨iC,a6.1,s1.2.1 U⟩,a6.2⟩⟩
 ·have ck:=cC aT hv
  have iA:=dF.len
  have eM:=dF.row a2 aA h1
  exact⟨⟨ck.1,by omega⟩,fun _=>⟨⟨aA,by omega⟩,ck.1,by omega⟩⟩
 ·have a6:=da (cO ag) aT hv rfl
  have s1:=s9 (q:=mm a0 J a2) (cO ag) aT hv
  unfold V9 Ns
  exact⟨fun U=>⟨⟨by simp only[List.length_singleton];omega,by simp only[List.length_singleton];omega⟩,⟨a6.1,s1.1 U⟩,a6.2⟩,fun U=>⟨⟨a6.1,s1.2.1 U⟩,a6.2⟩⟩)
theorem ai2 (ab:sO a0 J a2):bn Tryz.prog 51 [.agg (bD false a0),.agg (cq false J),ad a2] (.tup [.agg (GS true ((j2 a0 J a2).1)),aq ((j2 a0 J a2).2.1),aq ((j2 a0 J a2).2.2)]):=(ai1 a0 J a2 ab).v
def ai3:dJ Tryz.prog:=⟨51,[.eO,.frame,.int],[.stays,.bool,.bool],some fun x=>sO x.1 x.2.1 x.2.2.1,fun x=>((j2 x.1 x.2.1 x.2.2.1).1,(j2 x.1 x.2.1 x.2.2.1).2.1,(j2 x.1 x.2.1 x.2.2.1).2.2,()),fun x h=>ai2 x.1 x.2.1 x.2.2.1 h⟩
end
section
abbrev CI (r:Type):Type:=Nat→(List Int)→Int→Int→r
abbrev CJ (r:Type):Type:=Nat→(List Int)→Int→Int→Nat→(List Int)→Int→Int→r
abbrev CK (r:Type):Type:=Nat→(List Int)→Int→Int→Nat→(List Int)→Int→Int→Nat→(List Int)→Int→Int→r
abbrev CL (r:Type):Type:=Nat→(List Int)→Int→Int→Nat→(List Int)→Int→Int→Nat→(List Int)→Int→Int→Int→Int→r
abbrev CM (r:Type):Type:=Nat→(List Int)→Int→Int→Nat→(List Int)→Int→Int→Nat→(List Int)→Int→Int→Int→Int→Int→Int→r
variable (ai:CI Prop) (al:CI Nat) (bb:CJ Prop) (a_:CJ Nat) (b8:CK Prop) (bw:CK Nat) (dK:CL Prop) (cX:CL Nat) (gg:CM Prop) (eZ:CM Nat) (a0:aL) (J:Frame) (a2:Int) (aa:sR×Int) (g0:Nat) (aI:(List Int)) (v28 v9:Int) (g1:Nat) (ax:(List Int)) (v12 fe pg nh v127 uf:Int) (g2:Nat) (bC:(List Int)) (dX dD:Int)
abbrev p9:=[(nth a0.O a2).bI,(nth a0.O a2).cR]
abbrev RA:=(v28 !=a2)&&(((nth J.O v28).aF !=0)&&((nth (nth a0.bG a2) v28) || ((meets (nth a0.O a2).ao (nth a0.O v28).di) || (meets (nth a0.O a2).di (nth a0.O v28).ao))))
abbrev qX:=IntKind.i64.wrap (dX+1)
abbrev JI:=(bC.length+[dX].length)*8≤140737488355328∧bC.length+[dX].length≤4611686018427387904
abbrev RB:=(nth J.aE v12)&&((meets [v12] (nth a0.O a2).ao) || (meets [v12] (nth a0.O a2).di))
abbrev zz:=IntKind.i64.wrap (v12+1)
abbrev RC:=bif ((nth (nth (p9 a0 a2) v127) pg).bh==dX) then(nth (nth (p9 a0 a2) v127) pg).bi else uf
def apx:List Item:=(List.range 44).map cz
def apy:List (List Nat):=[[],[],[0,1],[0,1,2],rg 0 4,rg 0 5,rg 0 4,rg 0 7,rg 0 8,rg 0 9,rg 0 10,rg 0 11,rg 0 12,rg 0 13,rg 0 14,rg 0 13,rg 0 16,rg 0 17,rg 0 13,rg 0 19,rg 0 20,rg 0 21,rg 0 22,rg 0 23,rg 0 22,rg 0 22++[24],rg 0 22,rg 0 22++[24,25,26],rg 0 22++rg 24 28,rg 0 22++rg 24 29,rg 0 30,rg 0 31,rg 0 32,rg 0 33,rg 0 34,rg 0 33,rg 0 33++[35],rg 0 33,rg 0 33++[35,36,37],rg 0 33++rg 35 39,rg 0 33++rg 35 40,rg 0 41,rg 0 42,rg 0 43]
def apv:List Item:=(List.range 9).map cz
def apw:List (List Nat):=[[],[0],[],[2],[],[2,3,4],rg 2 6,rg 0 7,rg 0 8]
def abR:Prop:=
  ((dD==0)=true→b8 g0 aI v28 v9 g1 ax v12 fe (g2+1) (bC++[dX]) (qX dX) 6∧bw g0 aI v28 v9 g1 ax v12 fe (g2+1) (bC++[dX]) (qX dX) 6<bw g0 aI v28 v9 g1 ax v12 fe g2 bC dX dD)∧((dD==0)=false→b8 g0 aI v28 v9 g1 ax v12 fe (g2+1) (bC++[dX]) (qX dX) dD∧bw g0 aI v28 v9 g1 ax v12 fe (g2+1) (bC++[dX]) (qX dX) dD<bw g0 aI v28 v9 g1 ax v12 fe g2 bC dX dD)
def abW:Prop:=
  ((nth J.aE (nth a0.a7 dX))=true→(JI bC dX)∧(abR b8 bw g0 aI v28 v9 g1 ax v12 fe g2 bC dX dD))∧((nth J.aE (nth a0.a7 dX))=false→b8 g0 aI v28 v9 g1 ax v12 fe g2 bC (qX dX) dD∧bw g0 aI v28 v9 g1 ax v12 fe g2 bC (qX dX) dD<bw g0 aI v28 v9 g1 ax v12 fe g2 bC dX dD)
def abX:Prop:=
  ((decide (((kt a0 J dX).length:Int)>0))=true→(JI bC dX)∧(b8 g0 aI v28 v9 g1 ax v12 fe (g2+1) (bC++[dX]) (qX dX) 5∧bw g0 aI v28 v9 g1 ax v12 fe (g2+1) (bC++[dX]) (qX dX) 5<bw g0 aI v28 v9 g1 ax v12 fe g2 bC dX dD))∧((decide (((kt a0 J dX).length:Int)>0))=false→((0≤dX∧dX.toNat<a0.a7.length)∧(0≤(nth a0.a7 dX)∧(nth a0.a7 dX).toNat<J.aE.length))∧(abW b8 bw a0 J g0 aI v28 v9 g1 ax v12 fe g2 bC dX dD))
def abY:Prop:=
  gg g0 aI v28 v9 g1 ax v12 fe g2 bC dX dD v127 nh (IntKind.i64.wrap (pg+1)) (RC a0 a2 pg v127 uf dX)∧eZ g0 aI v28 v9 g1 ax v12 fe g2 bC dX dD v127 nh (IntKind.i64.wrap (pg+1)) (RC a0 a2 pg v127 uf dX)<eZ g0 aI v28 v9 g1 ax v12 fe g2 bC dX dD v127 nh pg uf
def abZ:Prop:=
  ((decide (pg<((nth (p9 a0 a2) v127).length:Int)))=false→dK g0 aI v28 v9 g1 ax v12 fe g2 bC dX dD (IntKind.i64.wrap (v127+1)) uf∧cX g0 aI v28 v9 g1 ax v12 fe g2 bC dX dD (IntKind.i64.wrap (v127+1)) uf<cX g0 aI v28 v9 g1 ax v12 fe g2 bC dX dD v127 nh)∧((decide (pg<((nth (p9 a0 a2) v127).length:Int)))=true→(0≤pg∧pg.toNat<(nth (p9 a0 a2) v127).length)∧(abY gg eZ a0 a2 g0 aI v28 v9 g1 ax v12 fe pg nh v127 uf g2 bC dX dD))
def ab0:Prop:=
  (0≤v127∧v127.toNat<(p9 a0 a2).length)∧((nth (p9 a0 a2) v127).length≤4611686018427387904→gg g0 aI v28 v9 g1 ax v12 fe g2 bC dX dD v127 nh 0 nh∧ ∀(pg:Int) (uf:Int),gg g0 aI v28 v9 g1 ax v12 fe g2 bC dX dD v127 nh pg uf→(abZ dK cX gg eZ a0 a2 g0 aI v28 v9 g1 ax v12 fe pg nh v127 uf g2 bC dX dD))
def ab1:Prop:=
  ((decide (v127<((p9 a0 a2).length:Int)))=false→(((nh==0)=false→0≤dX∧dX.toNat<J.ay.length)∧(((nh==0) || (nh==(nth J.ay dX).dR))=true→b8 g0 aI v28 v9 g1 ax v12 fe g2 bC (qX dX) dD∧bw g0 aI v28 v9 g1 ax v12 fe g2 bC (qX dX) dD<bw g0 aI v28 v9 g1 ax v12 fe g2 bC dX dD))∧((!((nh==0) || (nh==(nth J.ay dX).dR)))=true→(w4 a0 J dX)∧((kt a0 J dX).length≤4611686018427387904→abX b8 bw a0 J g0 aI v28 v9 g1 ax v12 fe g2 bC dX dD)))∧((decide (v127<((p9 a0 a2).length:Int)))=true→ab0 dK cX gg eZ a0 a2 g0 aI v28 v9 g1 ax v12 fe nh v127 g2 bC dX dD)
def ab2:Prop:=
  ((decide (dX<(a0.a7.length:Int)))=false→(aI.length≤4611686018427387904∧aI=aa.1.O)∧(ax.length≤4611686018427387904∧ax=aa.1.ao)∧(bC.length≤4611686018427387904∧bC=aa.1.ay)∧((bif (fe==0) then dD else fe)=aa.2))∧((decide (dX<(a0.a7.length:Int)))=true→(p9 a0 a2).length≤4611686018427387904→dK g0 aI v28 v9 g1 ax v12 fe g2 bC dX dD 0 0∧ ∀(v127:Int) (nh:Int),dK g0 aI v28 v9 g1 ax v12 fe g2 bC dX dD v127 nh→(ab1 b8 bw dK cX gg eZ a0 J a2 g0 aI v28 v9 g1 ax v12 fe nh v127 g2 bC dX dD))
def ab3:Prop:=
  ((RB a0 J a2 v12)=true→((ax.length+[v12].length)*8≤140737488355328∧ax.length+[v12].length≤4611686018427387904)∧(((fe==0)=true→bb g0 aI v28 v9 (g1+1) (ax++[v12]) (zz v12) 4∧a_ g0 aI v28 v9 (g1+1) (ax++[v12]) (zz v12) 4<a_ g0 aI v28 v9 g1 ax v12 fe)∧((fe==0)=false→bb g0 aI v28 v9 (g1+1) (ax++[v12]) (zz v12) fe∧a_ g0 aI v28 v9 (g1+1) (ax++[v12]) (zz v12) fe<a_ g0 aI v28 v9 g1 ax v12 fe)))∧((RB a0 J a2 v12)=false→bb g0 aI v28 v9 g1 ax (zz v12) fe∧a_ g0 aI v28 v9 g1 ax (zz v12) fe<a_ g0 aI v28 v9 g1 ax v12 fe)
def abS:Prop:=
  ((decide (v12<a0.ao))=false→a0.a7.length≤4611686018427387904→b8 g0 aI v28 v9 g1 ax v12 fe 0 ([]:List Int) 0 0∧ ∀(g2:Nat) (bC:(List Int)) (dX:Int) (dD:Int),b8 g0 aI v28 v9 g1 ax v12 fe g2 bC dX dD→(ab2 b8 bw dK cX gg eZ a0 J a2 aa g0 aI v28 v9 g1 ax v12 fe g2 bC dX dD))∧((decide (v12<a0.ao))=true→(0≤v12∧v12.toNat<J.aE.length)∧(ab3 bb a_ a0 J a2 g0 aI v28 v9 g1 ax v12 fe))
def abT:Prop:=
  ((RA a0 J a2 v28)=true→((aI.length+[v28].length)*8≤140737488355328∧aI.length+[v28].length≤4611686018427387904)∧(ai (g0+1) (aI++[v28]) (IntKind.i64.wrap (v28+1)) 3∧al (g0+1) (aI++[v28]) (IntKind.i64.wrap (v28+1)) 3<al g0 aI v28 v9))∧((RA a0 J a2 v28)=false→ai g0 aI (IntKind.i64.wrap (v28+1)) v9∧al g0 aI (IntKind.i64.wrap (v28+1)) v9<al g0 aI v28 v9)
def abU:Prop:=
  ((v28 !=a2)=true→(0≤v28∧v28.toNat<J.O.length)∧(((nth J.O v28).aF !=0)=true→(0≤a2∧a2.toNat<a0.bG.length)∧((0≤v28∧v28.toNat<(nth a0.bG a2).length)∧((nth (nth a0.bG a2) v28)=false→(0≤v28∧v28.toNat<a0.O.length)∧((meets (nth a0.O a2).ao (nth a0.O v28).di)=false→0≤v28∧v28.toNat<a0.O.length)))))∧(abT ai al a0 J a2 g0 aI v28 v9)
def abV:Prop:=
  ai 0 ([]:List Int) 0 0∧ ∀(g0:Nat) (aI:(List Int)) (v28:Int) (v9:Int),ai g0 aI v28 v9→(((decide (v28<(a0.O.length:Int)))=false→bb g0 aI v28 v9 0 ([]:List Int) 0 v9∧ ∀(g1:Nat) (ax:(List Int)) (v12:Int) (fe:Int),bb g0 aI v28 v9 g1 ax v12 fe→(abS bb a_ b8 bw dK cX gg eZ a0 J a2 aa g0 aI v28 v9 g1 ax v12 fe))∧((decide (v28<(a0.O.length:Int)))=true→abU ai al a0 J a2 g0 aI v28 v9))
def abQ (a0:aL) (J:Frame) (a2:Int) (aa:sR×Int) (ai:CI Prop) (al:CI Nat) (bb:CJ Prop) (a_:CJ Nat) (b8:CK Prop) (bw:CK Nat) (dK:CL Prop) (cX:CL Nat) (gg:CM Prop) (eZ:CM Nat):Prop:=
 (0≤a2∧a2.toNat<a0.O.length)∧(a0.O.length≤4611686018427387904→abV ai al bb a_ b8 bw dK cX gg eZ a0 J a2 aa)
theorem apt (ab:sO a0 J a2):bn Tryz.prog 42 [.agg (bD false a0),.agg (cq false J),ad a2] (.tup [.agg (GS true ((xv a0 J a2).1)),ad ((xv a0 J a2).2)]):=(fun(ai:CI Prop) (al:CI Nat) (bb:CJ Prop) (a_:CJ Nat) (b8:CK Prop) (bw:CK Nat) (dK:CL Prop) (cX:CL Nat) (gg:CM Prop) (eZ:CM Nat) (h:abQ a0 J a2 (xv a0 J a2) ai al bb a_ b8 bw dK cX gg eZ)=>bn.run (ps:=[.eO,.frame,.int]) (rs:=[.stays,.int]) (x:=(a0,J,a2,())) (r:=((xv a0 J a2).1,(xv a0 J a2).2,())) ⟨192,dy,[aps,QM]⟩ ⟨[],[(7,apx,apy),(37,apv,apw)],[],[],[]⟩ (.lp [(9,0,.int)] [2,3,4,6,8,10,27] [(10,5),(8,3),(6,3),(4,4),(3,5)] [.nat,(.l .int),.int,.int] [bJ 0,bJ 0,28,9] (fun aS=>[(9,.i .i64 aS.2.2.2.1),(28,.i .i64 aS.2.2.1),(h4 8 0,.ref 0 aS.1 aS.2.1.length false),(bJ 0,.blk aS.1 .int aS.2.1 _ rfl)]) (fun aS=>ai aS.1 aS.2.1 aS.2.2.1 aS.2.2.2.1) (fun aS=>al aS.1 aS.2.1 aS.2.2.1 aS.2.2.2.1) fun aS=>(.lp [(9,1,.int)] [3,4,6,8,10] [(10,5),(8,3),(6,3),(4,4),(3,5)] [.nat,(.l .int),.int,.int] [bJ 1,bJ 1,12,9] (fun bq=>[(9,.i .i64 bq.2.2.2.1),(12,.i .i64 bq.2.2.1),(h4 8 1,.ref 1 bq.1 bq.2.1.length false),(bJ 1,.blk bq.1 .int bq.2.1 _ rfl)]) (fun bq=>bb aS.1 aS.2.1 aS.2.2.1 aS.2.2.2.1 bq.1 bq.2.1 bq.2.2.1 bq.2.2.2.1) (fun bq=>a_ aS.1 aS.2.1 aS.2.2.1 aS.2.2.2.1 bq.1 bq.2.1 bq.2.2.1 bq.2.2.2.1) fun bq=>(.lp [(9,2,.int)] [3,4,6,8,9,10,117] [(10,5),(8,3),(6,3),(4,4),(3,5)] [.nat,(.l .int),.int,.int] [bJ 2,bJ 2,118,13] (fun bo=>[(13,.i .i64 bo.2.2.2.1),(118,.i .i64 bo.2.2.1),(h4 8 2,.ref 2 bo.1 bo.2.1.length false),(bJ 2,.blk bo.1 .int bo.2.1 _ rfl)]) (fun bo=>b8 aS.1 aS.2.1 aS.2.2.1 aS.2.2.2.1 bq.1 bq.2.1 bq.2.2.1 bq.2.2.2.1 bo.1 bo.2.1 bo.2.2.1 bo.2.2.2.1) (fun bo=>bw aS.1 aS.2.1 aS.2.2.1 aS.2.2.2.1 bq.1 bq.2.1 bq.2.2.1 bq.2.2.2.1 bo.1 bo.2.1 bo.2.2.1 bo.2.2.2.1) fun bo=>(.lp [] [3,4,6,8,9,10,13,14,117,118,125,126] [(10,5),(8,3),(6,3),(4,4),(3,5)] [.int,.int] [127,15] (fun bK=>[(15,.i .i64 bK.2.1),(127,.i .i64 bK.1)]) (fun bK=>dK aS.1 aS.2.1 aS.2.2.1 aS.2.2.2.1 bq.1 bq.2.1 bq.2.2.1 bq.2.2.2.1 bo.1 bo.2.1 bo.2.2.1 bo.2.2.2.1 bK.1 bK.2.1) (fun bK=>cX aS.1 aS.2.1 aS.2.2.1 aS.2.2.2.1 bq.1 bq.2.1 bq.2.2.1 bq.2.2.2.1 bo.1 bo.2.1 bo.2.2.1 bo.2.2.2.1 bK.1 bK.2.1) fun bK=>(.lp [] [3,4,6,8,9,10,13,14,117,118,125,126,127,131,132] [(10,5),(8,3),(6,3),(4,4),(3,5)] [.int,.int] [133,15] (fun fF=>[(15,.i .i64 fF.2.1),(133,.i .i64 fF.1)]) (fun fF=>gg aS.1 aS.2.1 aS.2.2.1 aS.2.2.2.1 bq.1 bq.2.1 bq.2.2.1 bq.2.2.2.1 bo.1 bo.2.1 bo.2.2.1 bo.2.2.2.1 bK.1 bK.2.1 fF.1 fF.2.1) (fun fF=>eZ aS.1 aS.2.1 aS.2.2.1 aS.2.2.2.1 bq.1 bq.2.1 bq.2.2.1 bq.2.2.2.1 bo.1 bo.2.1 bo.2.2.1 bo.2.2.2.1 bK.1 bK.2.1 fF.1 fF.2.1) fun _=> .nil))))) Tryz.func42 h) (fun _ x v c=>cr a0.O.length (fun _=>false) v∧x=eu (mm a0 J a2) v∧c=(if x≠[] then 3 else 0)) (fun _ _ v _=>cM a0.O.length v) (fun _ aI _ _ _ ax v c=>aI=eu (mm a0 J a2) a0.O.length∧cr a0.ao (fun _=>false) v∧ax=eu (pF a0 J a2) v∧c=(if aI≠[] then 3 else if ax≠[] then 4 else 0)) (fun _ _ _ _ _ _ v _=>cM a0.ao v) (fun _ aI _ _ _ ax _ c _ bC v h=>aI=eu (mm a0 J a2) a0.O.length∧ax=eu (pF a0 J a2) a0.ao∧c=(if aI≠[] then 3 else if ax≠[] then 4 else 0)∧cr a0.a7.length (fun _=>false) v∧bC=eu (ml a0 J a2) v∧h=AH a0 J a2 v) (fun _ _ _ _ _ _ _ _ _ _ v _=>cM a0.a7.length v) (fun _ _ _ _ _ _ _ _ _ _ k _ i l=>cr ([(nth a0.O a2).bI,(nth a0.O a2).cR].length:Int) (fun _=>false) i∧l=tF 0 ([(nth a0.O a2).bI,(nth a0.O a2).cR].take i.toNat).flatten k) (fun _ _ _ _ _ _ _ _ _ _ _ _ i _=>cM ([(nth a0.O a2).bI,(nth a0.O a2).cR].length:Int) i) (fun _ _ _ _ _ _ _ _ _ _ k _ i l j fH=>cr (nth [(nth a0.O a2).bI,(nth a0.O a2).cR] i).length (fun _=>false) j∧fH=tF l ((nth [(nth a0.O a2).bI,(nth a0.O a2).cR] i).take j.toNat) k) (fun _ _ _ _ _ _ _ _ _ _ _ _ i _ j _=>cM (nth [(nth a0.O a2).bI,(nth a0.O a2).cR] i).length j) (by
 unfold abQ abV
 obtain⟨hf,aA,h1⟩:=ab
 have hw:=hf.fr.O
 have oL:=hf.fr.ay
 have tk:=hf.fr.aE
 have bZ:=hf.in
 have D2:=bZ.O
 have AY:=bZ.bh
 have uW:=bZ.cY
 have dF:=I1 hf.oF
 have aQ:a2.toNat<a0.O.length:=by omega
 have D1:=dT aQ
 have ja:=OX hf.oF D1
 refine⟨⟨aA,aQ⟩,fun ag=>⟨⟨dA (dp _),rfl,rfl⟩,fun g x v c aT=> ?_⟩⟩
 obtain⟨aT,rfl,rfl⟩:=aT
 have hlen:=v7 (mm a0 J a2) v
 have A0:=aT.2.1
 refine⟨fun hv=>⟨⟨Au aT hv,dA uW.1,rfl,by simp[afN]⟩,fun g1 ax s bz dq=> ?_⟩,fun hv=> ?_⟩
 ·obtain⟨iC,dq,rfl,rfl⟩:=dq
  have ahQ:=v7 (pF a0 J a2) s
  have aik:=dq.2.1
  unfold abS
  refine⟨fun hs hm=>⟨⟨iC,Au dq hs,rfl,dA (dp _),rfl,rfl⟩,fun g2 bC k aY hK=> ?_⟩,fun hs=> ?_⟩
  ·obtain⟨_,tr,hc,hK,rfl,rfl⟩:=hK
   have HG:=v7 (ml a0 J a2) k
   have ti:=hK.2.1
   unfold ab2 p9
   refine⟨fun hk=> ?_,fun hk h2=>⟨⟨dA (dp _),rfl⟩,fun i l bB=> ?_⟩⟩
   ·have aN:=Au (q:=ml a0 J a2) hK hk
    have e:k=a0.a7.length:=by
     have: ¬k<(a0.a7.length:Int):=by simpa using hk
     omega
    refine⟨⟨by omega,iC⟩,⟨by omega,tr⟩,⟨by omega,aN⟩,?_⟩
    show _=codeF a0 J a2
    unfold codeF
    show _=if eu (mm a0 J a2) a0.O.length≠[] then 3 else if eu (pF a0 J a2) a0.ao≠[] then 4 else _
    rw[iC,tr]
    by_cases kI:eu (mm a0 J a2) a0.O.length≠[]
    ·rw[if_pos kI,if_pos kI];rfl
    ·rw[if_neg kI,if_neg kI]
     by_cases z2:eu (pF a0 J a2) a0.ao≠[]
     ·rw[if_pos z2,if_pos z2];rfl
     ·rw[if_neg z2,if_neg z2,e];rfl
   ·have DW:=cC hK hk
    have mY:=da (cO hm) hK hk rfl
    have s1:=s9 (q:=ml a0 J a2) (cO hm) hK hk
    have s2:=(s9 (q:=fun k=>l4 a0 J a2 k&&j9 a0 J k) (cO hm) hK hk).2.2
    have o6:=(s9 (q:=fun k=>l4 a0 J a2 k&&lH a0 J k) (cO hm) hK hk).2.2
    have yu:Aw a0 J a2 (IntKind.i64.wrap (k+1))=(Aw a0 J a2 k || (l4 a0 J a2 k&&j9 a0 J k)):=s2
    have yv:Fe a0 J a2 (IntKind.i64.wrap (k+1))=(Fe a0 J a2 k || (l4 a0 J a2 k&&lH a0 J k)):=o6
    obtain⟨bB,rfl⟩:=bB
    unfold ab1 qX p9
    refine⟨fun hi=> ?_,fun hi=> ?_⟩
    ·have ahO:i=2:=by
      have a:=bB.2.1
      have: ¬i<(([(nth a0.O a2).bI,(nth a0.O a2).cR].length:Nat):Int):=by simpa using hi
      simp at a this;omega
     have b7:(List.take i.toNat [(nth a0.O a2).bI,(nth a0.O a2).cR]).flatten=bV (nth a0.O a2):=by rw[ahO];simp[bV]
     rw[b7]
     have aj:=alL (f:=J) (k:=k) hf.oF aQ
     refine⟨⟨fun _=>⟨hK.1,by omega⟩,fun U=> ?_⟩,fun U=>⟨⟨hf,hK.1,by omega⟩,fun kk=> ?_⟩⟩
     ·rw[aj] at U
      have U:l4 a0 J a2 k=false:=by simpa using U
      refine⟨⟨iC,tr,hc,mY.1,s1.2.1 (by unfold ml;rw[U];rfl),?_⟩,mY.2⟩
      unfold AH;rw[yu,yv,U];simp
     ·rw[aj] at U
      have U:l4 a0 J a2 k=true:=by simpa using U
      have MW:=bZ.a7 _ (dT DW.2)
      unfold abX JI qX
      have jr:(decide (((kt a0 J k).length:Int)>0))=j9 a0 J k:=rfl
      rw[jr]
      rw[U,Bool.true_and] at yu yv
      have Ad:((eu (ml a0 J a2) k).length+[k].length)*8≤140737488355328∧(eu (ml a0 J a2) k).length+[k].length≤4611686018427387904:=by
       simp only[List.length_singleton];omega
      refine⟨fun au=>⟨Ad,⟨iC,tr,hc,mY.1,s1.1 (by unfold ml;rw[U,au];rfl),?_⟩,mY.2⟩,fun au=>⟨⟨⟨hK.1,DW.2⟩,MW.1,by omega⟩,?_⟩⟩
      ·unfold AH;rw[yu,au,Bool.or_true];rfl
      ·rw[au,Bool.or_false] at yu
       unfold abW abR JI qX
       have oD:nth J.aE (nth a0.a7 k)=lH a0 J k:=rfl
       rw[oD]
       refine⟨fun D4=>⟨Ad,?_⟩,fun D4=>⟨⟨iC,tr,hc,mY.1,s1.2.1 (by unfold ml;rw[U,au,D4];rfl),?_⟩,mY.2⟩⟩
       ·rw[D4,Bool.or_true] at yv
        have bt:=s1.1 (show ml a0 J a2 k=true by unfold ml;rw[U,au,D4];rfl)
        refine⟨fun aH=>⟨⟨iC,tr,hc,mY.1,bt,?_⟩,mY.2⟩,fun aH=>⟨⟨iC,tr,hc,mY.1,bt,?_⟩,mY.2⟩⟩
        ·unfold AH at aH ⊢
         rw[yu,yv]
         cases ch:Aw a0 J a2 k with
         | true=>rw[ch] at aH;simp at aH
         | false=>simp
        ·unfold AH at aH ⊢
         rw[yu,yv]
         cases ch:Aw a0 J a2 k with
         | true=>simp
         | false=>
          rw[ch] at aH
          cases cy:Fe a0 J a2 k with
          | true=>simp
          | false=>rw[cy] at aH;simp at aH
       ·rw[D4,Bool.or_false] at yv
        unfold AH;rw[yu,yv]
    ·unfold ab0 p9
     refine⟨cC bB hi,fun kj=>⟨⟨dA (dp _),rfl⟩,fun j fH tb=> ?_⟩⟩
     obtain⟨tb,rfl⟩:=tb
     unfold abZ abY RC p9
     refine⟨fun ac=> ?_,fun ac=>⟨cC tb ac,?_⟩⟩
     ·have a6:=da (cO h2) bB hi rfl
      refine⟨⟨a6.1,?_⟩,a6.2⟩
      have eI:=cC bB hi
      rw[kH (cO h2) bB.1 (by simpa using hi),show(i+1).toNat=i.toNat+1 by omega,List.take_succ_eq_append_getElem eI.2,List.flatten_append]
      have js: ¬j<((nth [(nth a0.O a2).bI,(nth a0.O a2).cR] i).length:Int):=by simpa using ac
      have Vf:=tb.1
      have aO:(nth [(nth a0.O a2).bI,(nth a0.O a2).cR] i).take j.toNat=nth [(nth a0.O a2).bI,(nth a0.O a2).cR] i:=List.take_of_length_le (by omega)
      rw[aO,gX eI.2]
      unfold tF
      rw[List.foldl_append]
      simp
     ·have a6:=da (cO kj) tb ac rfl
      refine⟨⟨a6.1,?_⟩,a6.2⟩
      have js:=cC tb ac
      rw[kH (cO kj) tb.1 (by simpa using ac),show(j+1).toNat=j.toNat+1 by omega,List.take_succ_eq_append_getElem js.2,gX js.2]
      unfold tF
      rw[List.foldl_append];rfl
  ·have uY:0≤s∧s<a0.ao:=⟨dq.1,by simpa using hs⟩
   have a6:=da (N:=a0.ao) (by omega) dq hs rfl
   have s1:=s9 (q:=pF a0 J a2) (N:=a0.ao) (by omega) dq hs
   refine⟨⟨dq.1,by omega⟩,?_⟩
   unfold ab3 zz RB
   rw[Bt,Bt]
   have Ad:((eu (pF a0 J a2) s).length+[s].length)*8≤140737488355328∧(eu (pF a0 J a2) s).length+[s].length≤4611686018427387904:=by
    simp only[List.length_singleton];omega
   refine⟨fun U=>⟨Ad,fun aH=> ?_,fun aH=> ?_⟩,fun U=>⟨⟨iC,a6.1,s1.2.1 U,?_⟩,a6.2⟩⟩
   ·refine⟨⟨iC,a6.1,s1.1 U,?_⟩,a6.2⟩
    by_cases z:eu (mm a0 J a2) v≠[]
    ·rw[if_pos z] at aH;simp at aH
    ·rw[if_neg z,if_pos (by simp)]
   ·refine⟨⟨iC,a6.1,s1.1 U,?_⟩,a6.2⟩
    by_cases z:eu (mm a0 J a2) v≠[]
    ·rw[if_pos z,if_pos z]
    ·rw[if_neg z,if_neg z]
     rw[if_neg z] at aH
     by_cases z2:eu (pF a0 J a2) s≠[]
     ·rw[if_pos z2,if_pos (by simp)]
     ·rw[if_neg z2] at aH;simp at aH
   ·rfl
 ·have ck:=cC aT hv
  have iA:=dF.len
  have eM:=dF.row a2 aA h1
  have a6:=da (cO ag) aT hv rfl
  have s1:=s9 (q:=mm a0 J a2) (cO ag) aT hv
  unfold abU abT RA
  have Ad:((eu (mm a0 J a2) v).length+[v].length)*8≤140737488355328∧(eu (mm a0 J a2) v).length+[v].length≤4611686018427387904:=by
   simp only[List.length_singleton];omega
  refine⟨fun _=>⟨⟨ck.1,by omega⟩,fun _=>⟨⟨aA,by omega⟩,⟨ck.1,by omega⟩,fun _=>⟨ck,fun _=>ck⟩⟩⟩,fun U=>⟨Ad,⟨a6.1,s1.1 U,by rw[if_pos (by simp)]⟩,a6.2⟩,fun U=>⟨⟨a6.1,s1.2.1 U,rfl⟩,a6.2⟩⟩)
def apu:dJ Tryz.prog:=⟨42,[.eO,.frame,.int],[.stays,.int],some fun x=>sO x.1 x.2.1 x.2.2.1,fun x=>((xv x.1 x.2.1 x.2.2.1).1,(xv x.1 x.2.1 x.2.2.1).2,()),fun x h=>apt x.1 x.2.1 x.2.2.1 h⟩
end
section
variable (a0:aL) (J:Frame) (a2 aa:Int)
def ab7:Prop:=
 ((0≤a2∧a2.toNat<J.O.length)∧(((nth J.O a2).aF !=0)=true→2=aa))∧((!((nth J.O a2).aF !=0))=true→(sO a0 J a2)∧((xv a0 J a2).2=aa))
theorem apD (ab:sO a0 J a2):bn Tryz.prog 78 [.agg (bD false a0),.agg (cq false J),ad a2] (ad (hd a0 J a2)):=(fun(h:ab7 a0 J a2 (hd a0 J a2))=>bn.run (ps:=[.eO,.frame,.int]) (rs:=[.int]) (x:=(a0,J,a2,())) (r:=((hd a0 J a2),())) ⟨24,dy,[apu]⟩ ⟨[],[],[],[],[]⟩ .nil Tryz.func78 h) (by
 unfold ab7
 have wv:=ab
 obtain⟨hf,aA,h1⟩:=wv
 have hw:=hf.fr.O
 refine⟨⟨⟨aA,by omega⟩,fun aH=> ?_⟩,fun aH=>⟨ab,?_⟩⟩
 ·unfold hd;rw[if_pos (by simpa using aH)]
 ·unfold hd;rw[if_neg (by simpa using aH)];rfl)
end
section
variable (a0:aL) (J:Frame) (a2 aa:Int)
abbrev Iq:=decide ((((j2 a0 J a2).1).ao.length:Int)>0)
abbrev Ir:=decide ((((j2 a0 J a2).1).O.length:Int)>0)
def W6:Prop:=
  ((Ir a0 J a2)=true→3=aa)∧((Ir a0 J a2)=false→((j2 a0 J a2).1).ao.length≤4611686018427387904→((Iq a0 J a2)=true→4=aa)∧((Iq a0 J a2)=false→((j2 a0 J a2).2.1=true→5=aa)∧((j2 a0 J a2).2.1=false→(j2 a0 J a2).2.2=true→6=aa)))
def W7:Prop:=
  ((0≤a2∧a2.toNat<J.O.length)∧((((nth J.O a2).aF !=0)=true→2=aa)∧(((nth J.O a2).aF !=0)=false→((j2 a0 J a2).1).O.length≤4611686018427387904→W6 a0 J a2 aa)))∧((((j2 a0 J a2).1).O.length≤4611686018427387904)∧(((j2 a0 J a2).1).ao.length≤4611686018427387904)∧((!((nth J.O a2).aF !=0)&&(!(Ir a0 J a2)&&(!(Iq a0 J a2)&&(!((j2 a0 J a2).2.1)&&(!((j2 a0 J a2).2.2))))))=true)→0=aa)
def W5:Prop:=
 (sO a0 J a2)∧(W7 a0 J a2 aa)
theorem ajZ (ab:sO a0 J a2):bn Tryz.prog 110 [.agg (bD false a0),.agg (cq false J),ad a2] (ad (hd a0 J a2)):=(fun(h:W5 a0 J a2 (hd a0 J a2))=>bn.run (ps:=[.eO,.frame,.int]) (rs:=[.int]) (x:=(a0,J,a2,())) (r:=((hd a0 J a2),())) ⟨40,dy,[ai3]⟩ ⟨[],[],[],[],[]⟩ .nil Tryz.func110 h) (by
 unfold W5 W7 W6 Ir Iq
 have wv:=ab
 obtain⟨hf,aA,h1⟩:=wv
 have hw:=hf.fr.O
 have afn:j2 a0 J a2=(nd a0 J a2,Dz a0 J a2,Jq a0 J a2):=rfl
 rw[afn]
 have aN:(decide (((nd a0 J a2).O.length:Int)>0))=true↔(nd a0 J a2).O≠[]:=by
  rw[decide_eq_true_eq,←List.length_pos_iff];omega
 have e2:(decide (((nd a0 J a2).ao.length:Int)>0))=true↔(nd a0 J a2).ao≠[]:=by
  rw[decide_eq_true_eq,←List.length_pos_iff];omega
 refine⟨ab,⟨⟨aA,by omega⟩,fun aH=> ?_,fun aH _=>⟨fun aw=> ?_,fun aw _=>⟨fun hb=> ?_,fun hb=>⟨fun hc=> ?_,fun hc aY=> ?_⟩⟩⟩⟩,fun U=> ?_⟩
 ·unfold hd;rw[if_pos (by simpa using aH)]
 ·unfold hd codeF;rw[if_neg (by simpa using aH),if_pos (aN.1 aw)]
 ·unfold hd codeF;rw[if_neg (by simpa using aH),if_neg (fun h=>by rw[show(decide (((nd a0 J a2).O.length:Int)>0))=true from aN.2 h] at aw;cases aw),if_pos (e2.1 hb)]
 ·unfold hd codeF;rw[if_neg (by simpa using aH),if_neg (fun h=>by rw[show(decide (((nd a0 J a2).O.length:Int)>0))=true from aN.2 h] at aw;cases aw),if_neg (fun h=>by rw[show(decide (((nd a0 J a2).ao.length:Int)>0))=true from e2.2 h] at hb;cases hb),if_pos hc]
 ·unfold hd codeF;rw[if_neg (by simpa using aH),if_neg (fun h=>by rw[show(decide (((nd a0 J a2).O.length:Int)>0))=true from aN.2 h] at aw;cases aw),if_neg (fun h=>by rw[show(decide (((nd a0 J a2).ao.length:Int)>0))=true from e2.2 h] at hb;cases hb),if_neg (by rw[show Dz a0 J a2=false from hc];simp),if_pos aY]
 ·have U:=U.2.2
  simp only[Bool.and_eq_true,Bool.not_eq_true'] at U
  obtain⟨q1,q2,q3,q4,cQ⟩:=U
  unfold hd codeF;rw[if_neg (by simpa using q1),if_neg (fun h=>by rw[show(decide (((nd a0 J a2).O.length:Int)>0))=true from aN.2 h] at q2;cases q2),if_neg (fun h=>by rw[show(decide (((nd a0 J a2).ao.length:Int)>0))=true from e2.2 h] at q3;cases q3),if_neg (by rw[show Dz a0 J a2=false from q4];simp),if_neg (by rw[show Jq a0 J a2=false from cQ];simp)])
end
section
abbrev CN (r:Type):Type:=List (List Bool)→(List Bool)→(List bL)→List Nat→Int→List av→r
variable (ai:(List bL)→Int→Prop) (al:(List bL)→Int→Nat) (bb:kD Prop) (a_:kD Nat) (eQ:CN Prop) (a0:aL) (J:Frame) (aa:fj) (a2:Event) (ax:(List bL)) (bP:List (List Bool)) (aD:List Nat) (fp v160:Int) (ws2:List av) (aI:(List Bool)) (dk:Int) (qZ:List av) (sM:List Nat) (sN:List (List Bool))
abbrev c2:=(aV J).O
abbrev tu:=(c2 J).set a2.aG.toNat (av.mk 3 (nth (c2 J) a2.aG).bc (nth (c2 J) a2.aG).ae (nth (c2 J) a2.aG).bW (nth (c2 J) a2.aG).bU)
abbrev eA:=(aV J).aE
abbrev dN:=(aV J).ay
abbrev jc:=(aV J).ok
abbrev eB:=List.map av.ae (c2 J)
abbrev eC:=List.range (c2 J).length
abbrev lD:=Frame.mk (jc J) (eA J) (dN J) (view (c2 J) (eC J) (eB J))
abbrev Bb:List Blk:=(⟨0,1,List.map aR aI⟩::⟨0,2,List.map ba ax⟩::⟨0,5,aW 3 ws2 aD⟩::List.map bj bP)
abbrev pN:=ws2.set v160.toNat (av.mk (nth ws2 v160).aF (nth ws2 v160).bc (nth ws2 v160).ae (nth ws2 v160).bW (IntKind.i64.wrap ((nth ws2 v160).bU - 1)))
abbrev n7:=(eA J).length
abbrev tw:List AV:=[aq (jc J),ap 0 0 (n7 J),ap 1 0 (dN J).length,ap 2 0 (c2 J).length]
abbrev u7:=(c2 J).set a2.aG.toNat (av.mk 1 (nth (c2 J) a2.aG).bc (nth (c2 J) a2.aG).ae (nth (c2 J) a2.aG).bW (nth (c2 J) a2.aG).bU)
abbrev m2:=Frame.mk (jc J) aI ax (view ws2 aD bP)
abbrev oT:=List.length (Bb ax bP aD ws2 aI)
abbrev If:List AV:=[ad 0,aq (dV a0 (m2 J ax bP aD ws2 aI)).ok,ap ((oT ax bP aD ws2 aI)+0) 0 (dV a0 (m2 J ax bP aD ws2 aI)).aE.length,ap ((oT ax bP aD ws2 aI)+1) 0 (dV a0 (m2 J ax bP aD ws2 aI)).ay.length,ap ((oT ax bP aD ws2 aI)+2) 0 (dV a0 (m2 J ax bP aD ws2 aI)).O.length]
abbrev A9:List (Nat×AV):=[(3,aJ 3 0),(4,aJ 4 0),(6,aJ 6 0),(7,aJ 7 0),(8,ad 0)]
abbrev k_:=bV (nth a0.O a2.aG)
abbrev u_:=(nth (k_ a0 a2) fp).bh
abbrev yE:=ax.set (u_ a0 a2 fp).toNat (bL.mk (nth (k_ a0 a2) fp).bi (nth ax (u_ a0 a2 fp)).bI)
abbrev A_:=(tu J a2).set a2.aG.toNat (av.mk (nth (tu J a2) a2.aG).aF (nth (tu J a2) a2.aG).bc (nth (tu J a2) a2.aG).ae (nth (tu J a2) a2.aG).bW a0.cB)
abbrev n4:List AV:=[ad 0,aq false,cu,cu,cu]
abbrev Ba:=(c2 J).set a2.aG.toNat (av.mk (c7 a0 a2.aG).aF (c7 a0 a2.aG).bc (c7 a0 a2.aG).ae (c7 a0 a2.aG).bW (c7 a0 a2.aG).bU)
abbrev Ib:List AV:=[ad dk,aq (jc J),ap ((oT ax bP aD ws2 aI)+0) 0 (n7 J),ap ((oT ax bP aD ws2 aI)+1) 0 (dN J).length,ap ((oT ax bP aD ws2 aI)+2) 0 (c2 J).length]
abbrev Wh:=(Bb ax bP aD ws2 aI)++List.map (ir (oT ax bP aD ws2 aI)) (⟨0,1,List.map aR (dV a0 (m2 J ax bP aD ws2 aI)).aE⟩::⟨0,2,List.map ba (dV a0 (m2 J ax bP aD ws2 aI)).ay⟩::⟨0,5,aW 3 (dV a0 (m2 J ax bP aD ws2 aI)).O (List.range (dV a0 (m2 J ax bP aD ws2 aI)).O.length)⟩::List.map bj (List.map av.ae (dV a0 (m2 J ax bP aD ws2 aI)).O))
abbrev Ic:List Blk:=(⟨0,1,List.map aR (eA J)⟩::⟨0,2,List.map ba (dN J)⟩::⟨0,5,aW 3 (c2 J) (eC J)⟩::List.map bj (eB J))
abbrev oO:=hd a0 (lD J) a2.aG
abbrev yI:=IntKind.i64.wrap (fp+1)
abbrev NT:List (Nat×AV):=[(3,aJ 3 0),(4,aJ 4 0),(6,aJ 6 0),(7,aJ 7 0),(8,ad (oO a0 J a2)),(40,pt dd (k_ a0 a2)),(41,ad ((k_ a0 a2).length:Int)),(42,ad (yI fp))]
abbrev ik:=bD false a0
abbrev jM:=cq false J
abbrev tv:List (Nat×List AV):=[(7,(jM J)),(6,n4),(4,(tw J)),(3,(ik a0))]
abbrev NU:=(pN v160 ws2).set v160.toNat (av.mk (c7 a0 v160).aF (c7 a0 v160).bc (c7 a0 v160).ae (c7 a0 v160).bW (c7 a0 v160).bU)
abbrev Ie:List (Nat×List AV):=[(7,(jM J)),(6,n4),(4,[aq (jc J),ap 0 0 (n7 J),ap 1 0 ax.length,ap 2 0 (c2 J).length]),(3,(ik a0))]
abbrev yH:=IntKind.i64.wrap (v160+1)
abbrev NV:List (Nat×AV):=[(3,aJ 3 0),(4,aJ 4 0),(6,aJ 6 0),(7,aJ 7 0),(8,ad 0),(159,ad ((c2 J).length:Int)),(160,ad (yH v160))]
abbrev En:=(dN J).set a2.aG.toNat (bL.mk (nth (dN J) a2.aG).dR a2.bi)
abbrev Eo:=(dN J).set a2.aG.toNat (bL.mk a2.bi (nth (dN J) a2.aG).bI)
abbrev iF:=0+a2.aG.toNat
abbrev u6:=(c2 J).length=(eC J).length∧a2.aG.toNat<(c2 J).length
abbrev NW:List Blk:=(⟨0,1,List.map aR (eA J)⟩::⟨0,2,List.map ba (dN J)⟩::⟨0,5,aW 3 qZ sM⟩::List.map bj sN)
abbrev ru:=(nth (c2 J) a2.aG).aF
abbrev yF:=(nth (pN v160 ws2) v160).bU==0
abbrev Et:=(eC J).set a2.aG.toNat (eB J).length
abbrev Wi:List Blk:=(⟨0,1,List.map aR (eA J)⟩::⟨0,2,List.map ba (dN J)⟩::⟨0,5,aW 3 (Ba a0 J a2) (Et J a2)⟩::List.map bj ((eB J)++[(c7 a0 a2.aG).ae]))
abbrev u9:=(nth a0.O a2.aG).ek
abbrev nA:=(nth (c2 J) a2.aG).bW&&(hU (lD J) (u9 a0 a2))
abbrev Es:=(eA J).set a2.aG.toNat (a2.op==3)
abbrev Wj:List Blk:=(⟨0,1,List.map aR (Es J a2)⟩::⟨0,2,List.map ba (dN J)⟩::⟨0,5,aW 3 (c2 J) (eC J)⟩::List.map bj (eB J))
abbrev NX:List (Nat×AV):=[(3,aJ 3 0),(4,aJ 4 0),(6,aJ 6 0),(7,aJ 7 0),(8,ad (oO a0 J a2))]
abbrev Wk:List AV:=[ad (c7 a0 a2.aG).aF,ad (c7 a0 a2.aG).bc,ap ((eB J).length+3) 0 (c7 a0 a2.aG).ae.length,aq (c7 a0 a2.aG).bW,ad (c7 a0 a2.aG).bU]
abbrev Bc:=decide (((kt a0 (lD J) a2.aG).length:Int)>0)
abbrev Wl:List Blk:=(⟨0,1,List.map aR (eA J)⟩::⟨0,2,List.map ba (En J a2)⟩::⟨0,5,aW 3 (c2 J) (eC J)⟩::List.map bj (eB J))
abbrev Wm:List Blk:=(⟨0,1,List.map aR (eA J)⟩::⟨0,2,List.map ba (Eo J a2)⟩::⟨0,5,aW 3 (c2 J) (eC J)⟩::List.map bj (eB J))
abbrev Wn:List Blk:=(⟨0,1,List.map aR (eA J)⟩::⟨0,2,List.map ba (dN J)⟩::⟨0,5,aW 3 (A_ a0 J a2) (eC J)⟩::List.map bj (eB J))
abbrev Wo:List AV:=[ad (c7 a0 v160).aF,ad (c7 a0 v160).bc,ap (bP.length+3) 0 (c7 a0 v160).ae.length,aq (c7 a0 v160).bW,ad (c7 a0 v160).bU]
abbrev Wp:List Blk:=(⟨0,1,List.map aR (eA J)⟩::⟨0,2,List.map ba (yE a0 a2 ax fp)⟩::⟨0,5,aW 3 (u7 J a2) (eC J)⟩::List.map bj (eB J))
abbrev Wq:List Blk:=(⟨0,1,List.map aR (eA J)⟩::⟨0,2,List.map ba ax⟩::⟨0,5,aW 3 (u7 J a2) (eC J)⟩::List.map bj (eB J))
abbrev yG:=(nth ws2 v160).aF==3
abbrev Wr:List (Nat×List AV):=[(7,(jM J)),(6,n4),(4,[aq (jc J),ap 0 0 (n7 J),ap 1 0 (dN J).length,ap 2 0 ws2.length]),(3,(ik a0))]
abbrev n5:=bif (a2.op==3) then(a2.op==3) else(a2.op==4)
abbrev tx:=bm 200 A9
abbrev Bd:=aW 3 (c2 J) (eC J)
abbrev n6:=((ru J a2) !=1)&&((ru J a2) !=2)
abbrev Be:=nth (eA J) (nth a0.a7 a2.aG)
abbrev oP:=bif (yG v160 ws2) then(bif (yF v160 ws2) then(NU a0 v160 ws2) else(pN v160 ws2)) else ws2
abbrev Ep:=decide (v160<((c2 J).length:Int))
abbrev Er:=decide (fp<((k_ a0 a2).length:Int))
abbrev oQ:=bif (yG v160 ws2) then(bif (yF v160 ws2) then(bP++[(c7 a0 v160).ae]) else bP) else bP
abbrev oR:=bif (yG v160 ws2) then(bif (yF v160 ws2) then(aD.set v160.toNat bP.length) else aD) else aD
abbrev oS:=0+v160.toNat
abbrev yJ:=[0,1,7]
noncomputable def Wg:Code:=jK Tryz.f72
def ajb:List Item:=(List.range 16).map cz
def ajc:List (List Nat):=[[],[0],[0,1],[0,1,2],rg 0 4,rg 0 5,rg 0 5,rg 0 5++[6],rg 0 5,rg 0 5++[8],rg 0 5++rg 6 10,rg 0 5++rg 6 11,rg 0 5++rg 6 12,rg 0 13,rg 0 14,rg 0 15]
def ajd:List Item:=[cz 0,cz 1,cz 2,cz 3,cz 4,cz 5,⟨6,true,false,[1,2,3]⟩,cz 7,cz 8,⟨9,true,false,[]⟩]
def aje:List (List Nat):=[[],[],[],[2],[0],[0,4],[0,4,5],rg 0 7,rg 0 8,rg 0 9]
def ajf:List Item:=(List.range 11).map cz
def ajg:List (List Nat):=[[],[0],[],[2],[],[4],rg 2 6,rg 2 7,rg 0 8,rg 0 9,rg 0 10]
def ND:Prop:=
  ai (yE a0 a2 ax fp) (yI fp)∧al (yE a0 a2 ax fp) (yI fp)<al ax fp
def NL:Prop:=
  ((Er a0 a2 fp)=false→eQ (eB J) (eA J) ax (eC J) (oO a0 J a2) (u7 J a2))∧((Er a0 a2 fp)=true→((0≤fp∧fp.toNat<(k_ a0 a2).length)∧(0≤(u_ a0 a2 fp)∧(u_ a0 a2 fp).toNat<ax.length))∧(ND ai al a0 a2 ax fp))
def NM:Prop:=
  (((oO a0 J a2)==0)=true→((0≤a2.aG∧a2.aG.toNat<(c2 J).length)∧(u6 J a2))∧(((0≤a2.aG∧a2.aG.toNat<a0.O.length)∧(BN (nth a0.O a2.aG)))∧((k_ a0 a2).length≤4611686018427387904→ai (dN J) 0∧ ∀(ax:(List bL)) (fp:Int),ai ax fp→(NL ai al eQ a0 J a2 ax fp))))∧(((oO a0 J a2)==0)=false→eQ (eB J) (eA J) (dN J) (eC J) (oO a0 J a2) (c2 J))
def NN:Prop:=
  ((nA a0 J a2)=true→(u6 J a2)∧(((tu J a2).length=(eC J).length∧a2.aG.toNat<(tu J a2).length)∧(eQ (eB J) (eA J) (dN J) (eC J) 0 (A_ a0 J a2))))∧((nA a0 J a2)=false→(A4 a0 a2.aG)∧((u6 J a2)∧(eQ ((eB J)++[(c7 a0 a2.aG).ae]) (eA J) (dN J) (Et J a2) 0 (Ba a0 J a2))))
def NO:Prop:=
  ((n6 J a2)=true→eQ (eB J) (eA J) (dN J) (eC J) 2 (c2 J))∧((n6 J a2)=false→((u6 J a2)∧((nth (c2 J) a2.aG).bW=true→(0≤a2.aG∧a2.aG.toNat<a0.O.length)∧((eA J).length≤4611686018427387904∧(dN J).length≤4611686018427387904∧(ll (c2 J) (eC J) (eB J)∧(c2 J).length≤4611686018427387904∧(∀x∈(eB J),List.length x≤4611686018427387904))∧zp (lD J) (u9 a0 a2))))∧(NN eQ a0 J a2))
def NP:Prop:=
  ((Be a0 J a2)=true→eQ (eB J) (eA J) (dN J) (eC J) 3 (c2 J))∧((Be a0 J a2)=false→(0≤a2.aG∧a2.aG.toNat<(dN J).length)∧(eQ (eB J) (eA J) (Eo J a2) (eC J) 0 (c2 J)))
def NQ:Prop:=
  ((Bc a0 J a2)=true→eQ (eB J) (eA J) (dN J) (eC J) 2 (c2 J))∧((Bc a0 J a2)=false→((0≤a2.aG∧a2.aG.toNat<a0.a7.length)∧(0≤(nth a0.a7 a2.aG)∧(nth a0.a7 a2.aG).toNat<(eA J).length))∧(NP eQ a0 J a2))
def NR:Prop:=
  (yF v160 ws2)=true→(A4 a0 v160)∧((pN v160 ws2).length=aD.length∧v160.toNat<(pN v160 ws2).length)
def NS:Prop:=
  ((pN v160 ws2).length=aD.length∧v160.toNat<(pN v160 ws2).length)∧(NR a0 aD v160 ws2)
def NE:Prop:=
  ((0≤v160∧v160.toNat<ws2.length)∧((ws2.length=aD.length∧v160.toNat<ws2.length)∧((yG v160 ws2)=true→((ws2.length=aD.length∧v160.toNat<ws2.length)∧(ws2.length=aD.length∧v160.toNat<ws2.length))∧(NS a0 aD v160 ws2))))∧(∀qZ:List av,(oP a0 v160 ws2)=qZ→(∀sM:List Nat,(oR bP aD v160 ws2)=sM→(∀sN:List (List Bool),(oQ a0 bP v160 ws2)=sN→(bb sN sM (yH v160) qZ∧a_ sN sM (yH v160) qZ<a_ bP aD v160 ws2))))
def NF:Prop:=
  bb (eB J) (eC J) 0 (c2 J)∧ ∀(bP:List (List Bool)) (aD:List Nat) (v160:Int) (ws2:List av),bb bP aD v160 ws2→(((Ep J v160)=false→eQ bP (eA J) (dN J) aD 0 ws2)∧((Ep J v160)=true→NE bb a_ a0 bP aD v160 ws2))
def NG:Prop:=
  ((a2.op==6)=true→((eA J).length≤4611686018427387904∧(dN J).length≤4611686018427387904∧(ll (c2 J) (eC J) (eB J)∧(c2 J).length≤4611686018427387904∧(∀x∈(eB J),List.length x≤4611686018427387904))∧w4 a0 (lD J) a2.aG)∧((kt a0 (lD J) a2.aG).length≤4611686018427387904→NQ eQ a0 J a2))∧((a2.op==6)=false→((a2.op==7)=true→NF bb a_ eQ a0 J)∧((a2.op==7)=false→eQ (eB J) (eA J) (dN J) (eC J) 0 (c2 J)))
def NH:Prop:=
  ((n5 a2)=true→(0≤a2.aG∧a2.aG.toNat<(eA J).length)∧(eQ (eB J) (Es J a2) (dN J) (eC J) 0 (c2 J)))∧((n5 a2)=false→((a2.op==5)=true→(0≤a2.aG∧a2.aG.toNat<(dN J).length)∧(eQ (eB J) (eA J) (En J a2) (eC J) 0 (c2 J)))∧((a2.op==5)=false→NG bb a_ eQ a0 J a2))
def NI:Prop:=
  ((a2.op==2)=true→(0≤a2.aG∧a2.aG.toNat<(c2 J).length)∧(((u6 J a2)∧(((ru J a2) !=1)=true→(c2 J).length=(eC J).length∧a2.aG.toNat<(c2 J).length))∧(NO eQ a0 J a2)))∧((a2.op==2)=false→NH bb a_ eQ a0 J a2)
def NJ:Prop:=
  ((a2.op==1)=true→((eA J).length≤4611686018427387904∧(dN J).length≤4611686018427387904∧(ll (c2 J) (eC J) (eB J)∧(c2 J).length≤4611686018427387904∧(∀x∈(eB J),List.length x≤4611686018427387904))∧sO a0 (lD J) a2.aG)∧(NM ai al eQ a0 J a2))∧((a2.op==1)=false→NI bb a_ eQ a0 J a2)
def NK:Prop:=
  ((dk !=0)=true→(iu J)∧(dk=aa.code∧(aV J)=aa.frame))∧((!(dk !=0))=true→(aI.length≤4611686018427387904∧ax.length≤4611686018427387904∧(ll ws2 aD bP∧ws2.length≤4611686018427387904∧(∀x∈bP,List.length x≤4611686018427387904))∧Jp a0 (m2 J ax bP aD ws2 aI))∧(0=aa.code∧(dV a0 (m2 J ax bP aD ws2 aI))=aa.frame))
def NC (a0:aL) (J:Frame) (a2:Event) (aa:fj) (ai:(List bL)→Int→Prop) (al:(List bL)→Int→Nat) (bb:kD Prop) (a_:kD Nat) (eQ:CN Prop):Prop:=
 (iu J)∧((NJ ai al bb a_ eQ a0 J a2)∧(∀(bP:List (List Bool)) (aI:(List Bool)) (ax:(List bL)) (aD:List Nat) (dk:Int) (ws2:List av),eQ bP aI ax aD dk ws2→(NK a0 J aa ax bP aD ws2 aI dk)))
theorem ajh (a0:aL) (J:Frame) (a2:Event) (aa:fj) (ai:(List bL)→Int→Prop) (al:(List bL)→Int→Nat) (bb:kD Prop) (a_:kD Nat) (eQ:CN Prop) (h:NC a0 J a2 aa ai al bb a_ eQ):c8 Tryz.prog 72 [.agg (ik a0),.agg (jM J),.agg (dL a2)] [] (fun r H=>r= .agg [ad aa.code,aq aa.frame.ok,ap 0 0 aa.frame.aE.length,ap 1 0 aa.frame.ay.length,ap 2 0 aa.frame.O.length]∧H=(⟨0,1,List.map aR aa.frame.aE⟩::⟨0,2,List.map ba aa.frame.ay⟩::⟨0,5,aW 3 aa.frame.O (List.range aa.frame.O.length)⟩::List.map bj (List.map av.ae aa.frame.O))):=by
 refine c8.toOwn ?_
 unfold NC at h
 refine c8.go (fn:=Tryz.f72) [(0,.agg (ik a0)),(1,.agg (jM J)),(2,.agg (dL a2))] Tryz.func72 (fun _ _=> ?_)
 show WpS _ (bQ Wg 1) _ ⟨bm 200 [(0,.agg (ik a0)),(1,.agg (jM J)),(2,.agg (dL a2))],[],[]⟩
 refine sZ [] 0 [(6,aJ 6 0),(5,aJ 5 0),(4,aJ 4 0),(3,aJ 3 0)] [4] [] [(6,n4),(5,(dL a2)),(4,(jM J)),(3,(ik a0))] [] ?_
 refine vW [] 1 [(7,aJ 7 0),(14,.agg (jM J))] [1] [4] (fun L=>(7,(jM J))::L) id ?_
 obtain⟨am9,h⟩:=h
 refine fk [] [5] (fun L=>er 3 (tw J) L) (fun _=>(Ic J)) (True) ?_ (fun q3=> ?_)
 ·
  replace h:=am9
  refine bx [] 2 ?_
  have q4:=h
  refine tS 2 (some 16) [(15,.agg (jM J))] [.agg (jM J)] (.agg (tw J)) (Ic J) (H9 J q4) (ah.cons (c6.agg (ah.cons (.bool _) (ah.cons cJ (ah.cons cJ (ah.cons cJ ah.nil))))) ah.nil) BF (by rw[List.nil_append];exact aax _) ?_ (er:=by simp[oh,p1,ji])
  exact b3 [] trivial
 refine et [] 3 [(8,ad 0)] [1] [5] ?_
 refine ig ?_
 refine et [] 4 [(18,ad a2.op),(17,aJ 5 0)] [1] [6] ?_
 obtain⟨am8,h⟩:=h
 refine Td 0 (fun(v:List (List Bool)×(List Bool)×(List bL)×List Nat×Int×List av)=>(⟨(bm 200 [(3,aJ 3 0),(4,aJ 4 0),(6,aJ 6 0),(7,aJ 7 0),(8,ad (v.2.2.2.2.1))]),[(7,(jM J)),(6,n4),(4,[aq (jc J),ap 0 0 (v.2.1).length,ap 1 0 (v.2.2.1).length,ap 2 0 (v.2.2.2.2.2).length]),(3,(ik a0))],(⟨0,1,List.map aR (v.2.1)⟩::⟨0,2,List.map ba (v.2.2.1)⟩::⟨0,5,aW 3 (v.2.2.2.2.2) (v.2.2.2.1)⟩::List.map bj (v.1))⟩:St)) (fun v=>eQ (v.1) (v.2.1) (v.2.2.1) (v.2.2.2.1) (v.2.2.2.2.1) (v.2.2.2.2.2)) ?_ (fun v dq=> ?_)
 ·
  replace h:=am8
  refine et [] 5 [(19,aq (a2.op==1)),(20,aq (a2.op==1))] [1] [7] ?_
  unfold NJ at h
  refine dB (fun gb=> ?_) (fun gb=> ?_)
  ·
   replace h:=h.1 gb
   obtain⟨mB,h⟩:=h
   refine cw [(8,ad (oO a0 J a2))] [0,3,5] (True) ?_ (fun jP=> ?_)
   ·
    replace h:=mB
    refine bx [] 6 ?_
    obtain⟨hy,jz,iL,gj⟩:=h
    refine o7 5 (some 25) [(24,ad a2.aG),(23,aJ 5 1),(22,.agg (tw J)),(21,.agg (ik a0))] [.agg (ik a0),.agg (tw J),ad a2.aG] (ajZ a0 (lD J) a2.aG gj) (ah.cons (c6.agg (ah.cons (.int _ _) (ah.cons cJ (ah.cons cJ (ah.cons cJ (ah.cons (.int _ _) ah.nil)))))) (ah.cons (c6.agg (ah.cons (.bool _) (ah.cons (o8 (sz:=1) (by simp) rfl (wx) hy) (ah.cons (o8 (sz:=2) (by simp) rfl (yA) jz) (ah.cons (xi (s:=3) (ws:=(aV J).O) (ids:=(eC J)) (bs:=(eB J)) (by simp) rfl (fun id k h=>by simpa using h) iL.1 iL.2.1 iL.2.2) ah.nil))))) (ah.cons (c6.iH (.int _ _)) ah.nil))) ?_
    exact b3 [(8,ad (oO a0 J a2))] trivial
   refine et [] 7 [(27,aq ((oO a0 J a2)==0)),(26,ad (oO a0 J a2))] [1] [6] ?_
   unfold NM at h
   refine dB (fun ka=> ?_) (fun ka=> ?_)
   ·
    replace h:=h.1 ka
    obtain⟨kv,h⟩:=h
    refine fk [] [0,1,6] id (fun H=>eG 2 ⟨0,5,aW 3 (u7 J a2) (eC J)⟩ H) (True) ?_ (fun ld=> ?_)
    ·
     replace h:=kv
     refine bx [] 8 ?_
     obtain⟨aqL,h⟩:=h
     refine m_ 5 (some 32) [(31,ad a2.aG),(30,aJ 5 1),(29,ap 2 0 (c2 J).length),(28,aJ 4 3)] 2 0 5 aqL ?_
     have io:=h
     refine lf 2 none [(33,.ptr 2 0 (iF a2) 0)] (Bd J) a2.aG 0 1 0 [ad 1] 2 (aW 3 (u7 J a2) (eC J)) (dM io.1 io.2) (lu io.1 io.2) ?_
     exact b3 [] trivial
    obtain⟨mA,h⟩:=h
    refine cw [(40,pt dd (k_ a0 a2)),(41,ad ((k_ a0 a2).length:Int)),(42,ad 0)] [3,1,2] ((k_ a0 a2).length≤4611686018427387904) ?_ (fun nF=> ?_)
    ·
     replace h:=mA
     refine bx [] 9 ?_
     obtain⟨lL,h⟩:=h
     refine mF 5 (some 38) [(37,ad a2.aG),(36,aJ 5 1),(35,bA (dj false) a0.O),(34,aJ 3 2)] (dj false) a0.O 5 lL ?_
     have h8:=h
     refine o7 2 (some 40) [(39,.agg (dj false (nth a0.O a2.aG)))] [.agg (dj false (nth a0.O a2.aG))] (Wx (nth a0.O a2.aG) h8) (ah.cons (c6.agg (ah.cons cJ (ah.cons cJ (ah.cons cJ (ah.cons cJ (ah.cons cJ ah.nil)))))) ah.nil) ?_
     refine sLen 1 (some 41) [] dd (k_ a0 a2) (fun jA=> ?_)
     exact b3 [(42,ad 0)] jA
    replace h:=h nF
    refine fJ 1 ?_
    obtain⟨ku,h⟩:=h
    refine ln (fun(v:(List bL)×Int)=>(⟨(bm 200 [(3,aJ 3 0),(4,aJ 4 0),(6,aJ 6 0),(7,aJ 7 0),(8,ad (oO a0 J a2)),(40,pt dd (k_ a0 a2)),(41,ad ((k_ a0 a2).length:Int)),(42,ad (v.2))]),[(7,(jM J)),(6,n4),(4,[aq (jc J),ap 0 0 (n7 J),ap 1 0 (v.1).length,ap 2 0 (c2 J).length]),(3,(ik a0))],(⟨0,1,List.map aR (eA J)⟩::⟨0,2,List.map ba (v.1)⟩::⟨0,5,aW 3 (u7 J a2) (eC J)⟩::List.map bj (eB J))⟩:St)) (fun(v:(List bL)×Int)=>ai (v.1) (v.2)) (fun(v:(List bL)×Int)=>al (v.1) (v.2)) ((aV J).ay,0) (dw [5]) ku (fun v aT=> ?_)
    obtain⟨ax,fp⟩:=v
    replace h:=h ax fp aT
    dsimp only
    refine et [] 10 [(43,aq (Er a0 a2 fp))] [1] [8] ?_
    unfold NL at h
    obtain⟨o0,h⟩:=h
    refine cw [] [0,1,8] ((Er a0 a2 fp)=true) ?_ (fun jg=> ?_)
    ·
     replace h:=o0
     refine dB (fun hH=> ?_) (fun hH=> ?_)
     ·
      refine ew ?_
      exact b_.normal (by simp only[gb,ka,hH,oR,oQ,oP,n6,n5,nA]<;>rfl) ei
     ·
      replace h:=h hH
      refine j3 1 ?_
      refine b_.exit ?_
      refine ed.exit ?_
      refine cc.here ?_
      refine cc.normal ?_
      exact hA.normal ((eB J),(eA J),ax,(eC J),(oO a0 J a2),(u7 J a2)) h (hX (s':=⟨(bm 200 (NX a0 J a2)),(Ie a0 J ax),(Wq J a2 ax)⟩) (dw (n:=200) (A':=(NX a0 J a2)) (L':=(Ie a0 J ax)) []) (congrArg (fun z=>(⟨(bm 200 (NX a0 J a2)),[(7,(jM J)),(6,n4),(4,[aq (jc J),ap 0 0 (n7 J),ap 1 0 ax.length,ap 2 0 z]),(3,(ik a0))],(Wq J a2 ax)⟩:St)) (show(c2 J).length=(u7 J a2).length by simp)))
    replace h:=h jg
    obtain⟨pW,h⟩:=h
    refine fk [] [8] (fun L=>(10,(dd (nth (k_ a0 a2) fp)))::L) (fun H=>eG 1 ⟨0,2,List.map ba (yE a0 a2 ax fp)⟩ H) (True) ?_ (fun jB=> ?_)
    ·
     replace h:=pW
     refine fJ 2 ?_
     obtain⟨ob,h⟩:=h
     refine fk [(10,aJ 10 0)] [8] (fun L=>(10,(dd (nth (k_ a0 a2) fp)))::L) id (True) ?_ (fun jh=> ?_)
     ·
      replace h:=ob
      refine bx [] 11 ?_
      have lM:=h
      refine mF 1 (some 44) [] dd (k_ a0 a2) 2 lM ?_
      exact b3 [(10,aJ 10 0),(45,.agg (dd (nth (k_ a0 a2) fp)))] trivial
     refine bx [] 12 ?_
     have ac0:=h
     refine m_ 7 (some 52) [(51,ad (nth (k_ a0 a2) fp).bi),(50,aJ 10 1),(49,ad (u_ a0 a2 fp)),(48,aJ 10 0),(47,ap 1 0 ax.length),(46,aJ 4 2)] 1 0 2 ac0 ?_
     refine xh 2 none [(53,.ptr 1 0 (0+(u_ a0 a2 fp).toNat) 0)] ba ax (u_ a0 a2 fp) 0 1 0 [ad (nth (k_ a0 a2) fp).bi] 1 (bL.mk (nth (k_ a0 a2) fp).bi (nth ax (u_ a0 a2 fp)).bI) (by simpa using ac0.2) ?_
     refine d_ [] ?_
     refine cc.normal ?_
     exact b_.normal trivial ei
    unfold ND at h
    refine bx [] 13 ?_
    refine d_ [(42,ad (yI fp)),(54,ad (yI fp))] ?_
    exact ed.again ((yE a0 a2 ax fp),(yI fp)) h (hX (s':=⟨(bm 200 (NT a0 J a2 fp)),(Ie a0 J ax),(Wp a0 J a2 ax fp)⟩) (dw (n:=200) (A':=(NT a0 J a2 fp)) (L':=(Ie a0 J ax)) [10]) (congrArg (fun z=>(⟨(bm 200 (NT a0 J a2 fp)),[(7,(jM J)),(6,n4),(4,[aq (jc J),ap 0 0 (n7 J),ap 1 0 z,ap 2 0 (c2 J).length]),(3,(ik a0))],(Wp a0 J a2 ax fp)⟩:St)) (show ax.length=(yE a0 a2 ax fp).length by simp)))
   ·
    replace h:=h.2 ka
    refine ew ?_
    refine cc.normal ?_
    exact hA.normal ((eB J),(eA J),(dN J),(eC J),(oO a0 J a2),(c2 J)) h (dw [5])
  ·
   replace h:=h.2 gb
   refine et [] 14 [(55,aq (a2.op==2)),(56,aq (a2.op==2))] [1] yJ ?_
   unfold NI at h
   refine dB (fun hI=> ?_) (fun hI=> ?_)
   ·
    replace h:=h.1 hI
    obtain⟨tN,h⟩:=h
    refine cw [(11,.ptr 2 0 (iF a2) 0)] [0,2,6] (True) ?_ (fun rE=> ?_)
    ·
     replace h:=tN
     refine bx [] 15 ?_
     have aqO:=h
     refine m_ 5 (some 61) [(60,ad a2.aG),(59,aJ 5 1),(58,ap 2 0 (c2 J).length),(57,aJ 4 3)] 2 0 5 aqO ?_
     exact b3 [(11,.ptr 2 0 (iF a2) 0)] trivial
    refine fJ 3 ?_
    obtain⟨EX,h⟩:=h
    refine cw [(68,aq (n6 J a2))] [7] (True) ?_ (fun m6=> ?_)
    ·
     replace h:=EX
     refine bx [] 17 ?_
     obtain⟨pX,h⟩:=h
     refine jR 4 (some 72) [(71,.ptr 2 0 (iF a2) 0),(70,.ptr 2 0 (iF a2) 0),(69,.ptr 2 0 (iF a2) 0)] (Bd J) a2.aG 3 0 0 (ad (ru J a2)) (dM pX.1 pX.2) ?_
     refine p0 2 74 ((ru J a2) !=1) [(73,aq ((ru J a2) !=1))] (fun sy=> ?_) (fun sy=> ?_)
     ·
      replace h:=h sy
      have kw:=h
      refine jR 4 (some 78) [(77,.ptr 2 0 (iF a2) 0),(76,.ptr 2 0 (iF a2) 0),(75,.ptr 2 0 (iF a2) 0)] (Bd J) a2.aG 3 0 0 (ad (ru J a2)) (dM kw.1 kw.2) ?_
      exact b3 [(68,aq ((ru J a2) !=2)),(80,aq ((ru J a2) !=2)),(79,aq ((ru J a2) !=2))] trivial (by simp only[gb,hI,sy,oR,oQ,oP,n6,n5,nA]<;>kernel_rfl)
     ·
      exact b3 ([(68,aq false),(80,aq false)]++gQ [79,78,77,76,75]) trivial (by simp only[gb,hI,sy,oR,oQ,oP,n6,n5,nA]<;>kernel_rfl)
    unfold NO at h
    refine dB (fun nG=> ?_) (fun nG=> ?_)
    ·
     replace h:=h.1 nG
     refine bx [] 18 ?_
     refine d_ [(8,ad 2)] ?_
     refine cc.normal ?_
     refine cc.normal ?_
     exact hA.normal ((eB J),(eA J),(dN J),(eC J),2,(c2 J)) h (dw [5])
    ·
     replace h:=h.2 nG
     obtain⟨rG,h⟩:=h
     refine cw [(81,aq (nA a0 J a2))] yJ (True) ?_ (fun mD=> ?_)
     ·
      replace h:=rG
      refine o5 [] 19 ajb ajc [] ?_
      obtain⟨kx,h⟩:=h
      refine qa 4 (some 85) [(84,.ptr 2 0 (iF a2) 3),(83,.ptr 2 0 (iF a2) 0),(82,.ptr 2 0 (iF a2) 0)] (Bd J) a2.aG 4 3 0 (aq (nth (c2 J) a2.aG).bW) (dM kx.1 kx.2) ?_
      refine sJ 1 86 (nth (c2 J) a2.aG).bW [] (fun nH=> ?_) (fun nH=> ?_)
      ·
       replace h:=h nH
       obtain⟨nI,h⟩:=h
       refine vA 6 (some 92) [(91,ad a2.aG),(90,aJ 5 1),(89,bA (dj false) a0.O),(88,aJ 3 2),(87,.agg (tw J))] (dj false) a0.O 5 nI ?_
       obtain⟨oc,o1,o2,sA⟩:=h
       refine acn 3 (some 95) [(94,bA cx (u9 a0 a2)),(93,.dv (dj false (nth a0.O a2.aG)) 4)] [.agg (tw J),bA cx (u9 a0 a2)] (WU (lD J) (u9 a0 a2) sA) (ah.cons (c6.agg (ah.cons (.bool _) (ah.cons (o8 (sz:=1) (by simp) rfl (wx) oc) (ah.cons (o8 (sz:=2) (by simp) rfl (yA) o1) (ah.cons (xi (s:=3) (ws:=(aV J).O) (ids:=(eC J)) (bs:=(eB J)) (by simp) rfl (fun id k h=>by simpa using h) o2.1 o2.2.1 o2.2.2) ah.nil))))) (ah.cons (c6.iH cJ) ah.nil)) ?_
       exact l8 [(81,aq (hU (lD J) (u9 a0 a2))),(96,aq (hU (lD J) (u9 a0 a2)))] trivial (by simp only[gb,hI,nG,nH,oR,oQ,oP,n6,n5,nA]<;>kernel_rfl)
      ·
       exact l8 ([(81,aq false),(96,aq false)]++gQ [95,94,93,92,91,90,89,88,87]) trivial (by simp only[gb,hI,nG,nH,oR,oQ,oP,n6,n5,nA]<;>kernel_rfl)
     unfold NN at h
     refine dB (fun vi=> ?_) (fun vi=> ?_)
     ·
      replace h:=h.1 vi
      refine o5 [] 20 ajd aje [] ?_
      obtain⟨od,h⟩:=h
      refine acp 7 none [(102,.ptr 2 0 (iF a2) 0),(101,.ptr 2 0 (iF a2) 0),(100,ad a0.cB),(99,aJ 3 4),(98,.ptr 2 0 (iF a2) 0),(97,.ptr 2 0 (iF a2) 0)] (Bd J) a2.aG 0 1 0 [ad 3] (fun r=>sb Tryz.prog (j_ Wg 256942) [1,2,3] [(102,.ptr 2 0 (iF a2) 0),(101,.ptr 2 0 (iF a2) 0),(100,ad a0.cB),(99,aJ 3 4),(98,.ptr 2 0 (iF a2) 0),(97,.ptr 2 0 (iF a2) 0),(81,aq (nA a0 J a2)),(11,.ptr 2 0 (iF a2) 0),(8,ad 0),(7,aJ 7 0),(6,aJ 6 0),(5,aJ 5 0),(4,aJ 4 0),(3,aJ 3 0)] [(7,(jM J)),(6,n4),(5,(dL a2)),(4,(tw J)),(3,(ik a0))] ((fun r=>(⟨0,1,List.map aR (eA J)⟩::⟨0,2,List.map ba (dN J)⟩::⟨0,5,r⟩::List.map bj (eB J))) r)) (fun r=>(⟨0,1,List.map aR (eA J)⟩::⟨0,2,List.map ba (dN J)⟩::⟨0,5,r⟩::List.map bj (eB J))) (aW 3 (tu J a2) (eC J)) (dM od.1 od.2) (lu od.1 od.2) (wW (ψ:=((true=true∧true=true∧((.ptr 2 0 (iF a2) 0:AV)= .ptr 2 0 (iF a2) 0))∧((true=true∧true=true∧((aJ 3 4:AV)=aJ 3 4))∧((true=true∧true=true∧((ad a0.cB:AV)=ad a0.cB))∧True)))) (by kernel_rfl) ⟨⟨rfl,rfl,rfl⟩,⟨⟨rfl,rfl,rfl⟩,⟨⟨rfl,rfl,rfl⟩,trivial⟩⟩⟩) ?_
      obtain⟨m7,h⟩:=h
      refine acp 3 none [(104,.ptr 2 0 (iF a2) 4),(103,.ptr 2 0 (iF a2) 0)] (aW 3 (tu J a2) (eC J)) a2.aG 4 1 0 [ad a0.cB] (fun _=>True) (fun r=>(⟨0,1,List.map aR (eA J)⟩::⟨0,2,List.map ba (dN J)⟩::⟨0,5,r⟩::List.map bj (eB J))) (aW 3 (A_ a0 J a2) (eC J)) (dM m7.1 m7.2) (lu m7.1 m7.2) trivial ?_
      refine Cy [] ?_
      refine cc.normal ?_
      refine cc.normal ?_
      exact hA.normal ((eB J),(eA J),(dN J),(eC J),0,(A_ a0 J a2)) h (hX (s':=⟨tx,(tv a0 J),(Wn a0 J a2)⟩) (dw (n:=200) (A':=A9) (L':=(tv a0 J)) [5]) (congrArg (fun z=>(⟨tx,[(7,(jM J)),(6,n4),(4,[aq (jc J),ap 0 0 (n7 J),ap 1 0 (dN J).length,ap 2 0 z]),(3,(ik a0))],(Wn a0 J a2)⟩:St)) (show(c2 J).length=(A_ a0 J a2).length by simp)))
     ·
      replace h:=h.2 vi
      refine bx [] 16 ?_
      obtain⟨rF,h⟩:=h
      refine tS 5 (some 66) [(65,ad a2.aG),(64,aJ 5 1),(63,.agg (ik a0)),(62,.ptr 2 0 (iF a2) 0)] [.agg (ik a0),ad a2.aG] (.agg (Wk a0 J a2)) (⟨0,1,List.map aR (eA J)⟩::⟨0,2,List.map ba (dN J)⟩::⟨0,5,aW 3 (c2 J) (eC J)⟩::List.map bj ((eB J)++[(c7 a0 a2.aG).ae])) (Ii a0 a2.aG rF) (ah.cons (c6.agg (ah.cons (.int _ _) (ah.cons cJ (ah.cons cJ (ah.cons cJ (ah.cons (.int _ _) ah.nil)))))) (ah.cons (c6.iH (.int _ _)) ah.nil)) (tK (fun _=>rfl) rfl) (tW (tV (fun _=>rfl) rfl) (by simp only[List.cons_append,List.map_nil,uF])) ?_ (er:=by simp[oh,p1,ji])
      obtain⟨oe,h⟩:=h
      refine lf 2 none [(67,.ptr 2 0 (iF a2) 0)] (Bd J) a2.aG 0 5 0 (Wk a0 J a2) 2 (aW 3 (Ba a0 J a2) (Et J a2)) (dM oe.1 oe.2) (AD oe.1) ?_
      refine d_ [] ?_
      refine cc.normal ?_
      refine cc.normal ?_
      exact hA.normal (((eB J)++[(c7 a0 a2.aG).ae]),(eA J),(dN J),(Et J a2),0,(Ba a0 J a2)) h (hX (s':=⟨tx,(tv a0 J),(Wi a0 J a2)⟩) (dw (n:=200) (A':=A9) (L':=(tv a0 J)) [5]) (congrArg (fun z=>(⟨tx,[(7,(jM J)),(6,n4),(4,[aq (jc J),ap 0 0 (n7 J),ap 1 0 (dN J).length,ap 2 0 z]),(3,(ik a0))],(Wi a0 J a2)⟩:St)) (show(c2 J).length=(Ba a0 J a2).length by simp)))
   ·
    replace h:=h.2 hI
    refine cw [(105,aq (n5 a2))] yJ (True) ?_ (fun og=> ?_)
    ·
     refine et [] 21 [(105,aq (a2.op==3)),(106,aq (a2.op==3))] [1] yJ ?_
     refine dB (fun qO=> ?_) (fun qO=> ?_)
     ·
      refine ew ?_
      exact b_.normal trivial (ei (by simp only[gb,hI,qO,oR,oQ,oP,n6,n5,nA]<;>kernel_rfl))
     ·
      refine bx [] 22 ?_
      exact b3 [(105,aq (a2.op==4)),(107,aq (a2.op==4))] trivial (by simp only[gb,hI,qO,oR,oQ,oP,n6,n5,nA]<;>kernel_rfl)
    unfold NH at h
    refine dB (fun qP=> ?_) (fun qP=> ?_)
    ·
     replace h:=h.1 qP
     refine bx [] 23 ?_
     obtain⟨acP,h⟩:=h
     refine m_ 8 (some 115) [(114,aq (a2.op==3)),(113,ad a2.op),(112,aJ 5 0),(111,ad a2.aG),(110,aJ 5 1),(109,ap 0 0 (n7 J)),(108,aJ 4 1)] 0 0 1 acP ?_
     refine xh 1 none [] aR (eA J) a2.aG 0 1 0 [aq (a2.op==3)] 0 (a2.op==3) (by simpa using acP.2) ?_
     refine d_ [] ?_
     refine cc.normal ?_
     exact hA.normal ((eB J),(Es J a2),(dN J),(eC J),0,(c2 J)) h (hX (s':=⟨tx,(tv a0 J),(Wj J a2)⟩) (dw (n:=200) (A':=A9) (L':=(tv a0 J)) [5]) (congrArg (fun z=>(⟨tx,[(7,(jM J)),(6,n4),(4,[aq (jc J),ap 0 0 z,ap 1 0 (dN J).length,ap 2 0 (c2 J).length]),(3,(ik a0))],(Wj J a2)⟩:St)) (show(eA J).length=(Es J a2).length by simp)))
    ·
     replace h:=h.2 qP
     refine et [] 24 [(116,aq (a2.op==5)),(117,aq (a2.op==5))] [1] yJ ?_
     refine dB (fun pY=> ?_) (fun pY=> ?_)
     ·
      replace h:=h.1 pY
      refine bx [] 25 ?_
      obtain⟨acQ,h⟩:=h
      refine m_ 7 (some 124) [(123,ad a2.bi),(122,aJ 5 2),(121,ad a2.aG),(120,aJ 5 1),(119,ap 1 0 (dN J).length),(118,aJ 4 2)] 1 0 2 acQ ?_
      refine xh 2 none [(125,.ptr 1 0 (iF a2) 1)] ba (dN J) a2.aG 1 1 0 [ad a2.bi] 1 (bL.mk (nth (dN J) a2.aG).dR a2.bi) (by simpa using acQ.2) ?_
      refine d_ [] ?_
      refine cc.normal ?_
      exact hA.normal ((eB J),(eA J),(En J a2),(eC J),0,(c2 J)) h (hX (s':=⟨tx,(tv a0 J),(Wl J a2)⟩) (dw (n:=200) (A':=A9) (L':=(tv a0 J)) [5]) (congrArg (fun z=>(⟨tx,[(7,(jM J)),(6,n4),(4,[aq (jc J),ap 0 0 (n7 J),ap 1 0 z,ap 2 0 (c2 J).length]),(3,(ik a0))],(Wl J a2)⟩:St)) (show(dN J).length=(En J a2).length by simp)))
     ·
      replace h:=h.2 pY
      refine et [] 26 [(126,aq (a2.op==6)),(127,aq (a2.op==6))] [1] yJ ?_
      unfold NG at h
      refine dB (fun l5=> ?_) (fun l5=> ?_)
      ·
       replace h:=h.1 l5
       refine fJ 4 ?_
       obtain⟨w_,h⟩:=h
       refine cw [(136,aq (Bc a0 J a2))] [0,2,6] ((kt a0 (lD J) a2.aG).length≤4611686018427387904) ?_ (fun I_=> ?_)
       ·
        replace h:=w_
        refine bx [] 28 ?_
        obtain⟨sB,vj,w6,EY⟩:=h
        refine o7 5 (some 141) [(140,ad a2.aG),(139,aJ 5 1),(138,.agg (tw J)),(137,.agg (ik a0))] [.agg (ik a0),.agg (tw J),ad a2.aG] (WC a0 (lD J) a2.aG EY) (ah.cons (c6.agg (ah.cons (.int _ _) (ah.cons cJ (ah.cons cJ (ah.cons cJ (ah.cons (.int _ _) ah.nil)))))) (ah.cons (c6.agg (ah.cons (.bool _) (ah.cons (o8 (sz:=1) (by simp) rfl (wx) sB) (ah.cons (o8 (sz:=2) (by simp) rfl (yA) vj) (ah.cons (xi (s:=3) (ws:=(aV J).O) (ids:=(eC J)) (bs:=(eB J)) (by simp) rfl (fun id k h=>by simpa using h) w6.1 w6.2.1 w6.2.2) ah.nil))))) (ah.cons (c6.iH (.int _ _)) ah.nil))) ?_
        refine sLen 1 (some 142) [] cx (kt a0 (lD J) a2.aG) (fun BS=> ?_)
        exact b3 [(136,aq (Bc a0 J a2)),(143,aq (Bc a0 J a2))] BS
       replace h:=h I_
       unfold NQ at h
       refine dB (fun vk=> ?_) (fun vk=> ?_)
       ·
        replace h:=h.1 vk
        refine bx [] 29 ?_
        refine d_ [(8,ad 2)] ?_
        refine cc.normal ?_
        refine cc.normal ?_
        exact hA.normal ((eB J),(eA J),(dN J),(eC J),2,(c2 J)) h (dw [5])
       ·
        replace h:=h.2 vk
        obtain⟨w9,h⟩:=h
        refine cw [(144,aq (Be a0 J a2))] [0,1,6] (True) ?_ (fun w7=> ?_)
        ·
         replace h:=w9
         refine o5 [] 30 ajf ajg [] ?_
         obtain⟨tO,h⟩:=h
         refine vA 7 (some 151) [(150,ad a2.aG),(149,aJ 5 1),(148,bA cx a0.a7),(147,aJ 3 1),(146,ap 0 0 (n7 J)),(145,aJ 4 1)] cx a0.a7 1 tO ?_
         have acT:=h
         refine zD 2 (some 153) [(152,ad (nth a0.a7 a2.aG))] 0 0 1 acT ?_
         refine Cz 1 (some 154) [] aR (eA J) (nth a0.a7 a2.aG) 4 0 0 (aq (Be a0 J a2)) (by simpa using acT.2) ?_
         exact l8 [(144,aq (Be a0 J a2))] trivial
        unfold NP at h
        refine dB (fun w8=> ?_) (fun w8=> ?_)
        ·
         replace h:=h.1 w8
         refine bx [] 31 ?_
         refine d_ [(8,ad 3)] ?_
         refine cc.normal ?_
         refine cc.normal ?_
         exact hA.normal ((eB J),(eA J),(dN J),(eC J),3,(c2 J)) h (dw [5])
        ·
         replace h:=h.2 w8
         refine bx [] 27 ?_
         obtain⟨acR,h⟩:=h
         refine m_ 7 (some 134) [(133,ad a2.bi),(132,aJ 5 2),(131,ad a2.aG),(130,aJ 5 1),(129,ap 1 0 (dN J).length),(128,aJ 4 2)] 1 0 2 acR ?_
         refine xh 2 none [(135,.ptr 1 0 (iF a2) 0)] ba (dN J) a2.aG 0 1 0 [ad a2.bi] 1 (bL.mk a2.bi (nth (dN J) a2.aG).bI) (by simpa using acR.2) ?_
         refine d_ [] ?_
         refine cc.normal ?_
         refine cc.normal ?_
         exact hA.normal ((eB J),(eA J),(Eo J a2),(eC J),0,(c2 J)) h (hX (s':=⟨tx,(tv a0 J),(Wm J a2)⟩) (dw (n:=200) (A':=A9) (L':=(tv a0 J)) [5]) (congrArg (fun z=>(⟨tx,[(7,(jM J)),(6,n4),(4,[aq (jc J),ap 0 0 (n7 J),ap 1 0 z,ap 2 0 (c2 J).length]),(3,(ik a0))],(Wm J a2)⟩:St)) (show(dN J).length=(Eo J a2).length by simp)))
      ·
       replace h:=h.2 l5
       refine et [] 32 [(155,aq (a2.op==7)),(156,aq (a2.op==7))] [1] [0,2,3,1,2] ?_
       refine dB (fun o4=> ?_) (fun o4=> ?_)
       ·
        replace h:=h.1 o4
        refine et [] 33 [(160,ad 0),(159,ad ((c2 J).length:Int)),(158,ap 2 0 (c2 J).length),(157,aJ 4 3)] [2] [0,1,5] ?_
        unfold NF at h
        refine fJ 5 ?_
        obtain⟨Pn,h⟩:=h
        refine ln (fun(v:List (List Bool)×List Nat×Int×List av)=>(⟨(bm 200 [(3,aJ 3 0),(4,aJ 4 0),(6,aJ 6 0),(7,aJ 7 0),(8,ad 0),(159,ad ((c2 J).length:Int)),(160,ad (v.2.2.1))]),[(7,(jM J)),(6,n4),(4,[aq (jc J),ap 0 0 (n7 J),ap 1 0 (dN J).length,ap 2 0 (v.2.2.2).length]),(3,(ik a0))],(⟨0,1,List.map aR (eA J)⟩::⟨0,2,List.map ba (dN J)⟩::⟨0,5,aW 3 (v.2.2.2) (v.2.1)⟩::List.map bj (v.1))⟩:St)) (fun(v:List (List Bool)×List Nat×Int×List av)=>bb (v.1) (v.2.1) (v.2.2.1) (v.2.2.2)) (fun(v:List (List Bool)×List Nat×Int×List av)=>a_ (v.1) (v.2.1) (v.2.2.1) (v.2.2.2)) ((eB J),(eC J),0,(aV J).O) (dw [5]) Pn (fun v aT=> ?_)
        obtain⟨bP,aD,v160,ws2⟩:=v
        replace h:=h bP aD v160 ws2 aT
        dsimp only
        refine et [] 34 [(161,aq (Ep J v160))] [1] [7] ?_
        obtain⟨Pm,h⟩:=h
        refine cw [] yJ ((Ep J v160)=true) ?_ (fun zg=> ?_)
        ·
         replace h:=Pm
         refine dB (fun xa=> ?_) (fun xa=> ?_)
         ·
          refine ew ?_
          exact b_.normal (by simp only[gb,hI,qP,pY,l5,o4,xa,oR,oQ,oP,n6,n5,nA]<;>rfl) ei
         ·
          replace h:=h xa
          refine j3 5 ?_
          refine b_.exit ?_
          refine ed.exit ?_
          refine cc.here ?_
          refine cc.normal ?_
          exact hA.normal (bP,(eA J),(dN J),aD,0,ws2) h (dw [])
        replace h:=h zg
        unfold NE at h
        obtain⟨Pl,h⟩:=h
        obtain⟨qZ,vl⟩: ∃w:List av,(oP a0 v160 ws2)=w:=⟨_,rfl⟩
        obtain⟨sM,sC⟩: ∃w:List Nat,(oR bP aD v160 ws2)=w:=⟨_,rfl⟩
        obtain⟨sN,BU⟩: ∃w:List (List Bool),(oQ a0 bP v160 ws2)=w:=⟨_,rfl⟩
        refine fk [] [7] id (fun _=>(NW J qZ sM sN)) (True) ?_ (fun Ja=> ?_)
        ·
         replace h:=Pl
         refine fJ 6 ?_
         refine et [] 35 [(12,ad v160),(162,ad v160)] [1] [7] ?_
         obtain⟨Pk,h⟩:=h
         refine cw [(13,.ptr 2 0 (oS v160) 0)] [8] (True) ?_ (fun ana=> ?_)
         ·
          replace h:=Pk
          refine bx [] 36 ?_
          have aqH:=h
          refine m_ 4 (some 166) [(165,ad v160),(164,ap 2 0 ws2.length),(163,aJ 4 3)] 2 0 5 aqH ?_
          exact b3 [(13,.ptr 2 0 (oS v160) 0)] trivial
         obtain⟨Pj,h⟩:=h
         refine cw [(171,aq (yG v160 ws2))] [9] (True) ?_ (fun ars=> ?_)
         ·
          replace h:=Pj
          refine bx [] 37 ?_
          have BV:=h
          refine jR 4 (some 170) [(169,.ptr 2 0 (oS v160) 0),(168,.ptr 2 0 (oS v160) 0),(167,.ptr 2 0 (oS v160) 0)] (aW 3 ws2 aD) v160 3 0 0 (ad (nth ws2 v160).aF) (dM BV.1 BV.2) ?_
          exact b3 [(171,aq (yG v160 ws2))] trivial
         refine dB (fun E0=> ?_) (fun E0=> ?_)
         ·
          replace h:=h E0
          obtain⟨I9,h⟩:=h
          refine fk [] [0,1,9] id (fun H=>eG 2 ⟨0,5,aW 3 (pN v160 ws2) aD⟩ H) (True) ?_ (fun ZO=> ?_)
          ·
           replace h:=I9
           refine bx [] 38 ?_
           obtain⟨Jb,h⟩:=h
           refine jR 4 (some 175) [(174,.ptr 2 0 (oS v160) 4),(173,.ptr 2 0 (oS v160) 0),(172,.ptr 2 0 (oS v160) 0)] (aW 3 ws2 aD) v160 3 4 0 (ad (nth ws2 v160).bU) (dM Jb.1 Jb.2) ?_
           have tP:=h
           refine lf 4 none [(178,.ptr 2 0 (oS v160) 4),(177,.ptr 2 0 (oS v160) 0),(176,ad (IntKind.i64.wrap ((nth ws2 v160).bU - 1)))] (aW 3 ws2 aD) v160 4 1 0 [ad (IntKind.i64.wrap ((nth ws2 v160).bU - 1))] 2 (aW 3 (pN v160 ws2) aD) (dM tP.1 tP.2) (lu tP.1 tP.2) ?_
           exact b3 [] trivial
          unfold NS at h
          obtain⟨I8,h⟩:=h
          refine cw [(183,aq (yF v160 ws2))] [9] (True) ?_ (fun Pg=> ?_)
          ·
           replace h:=I8
           refine bx [] 39 ?_
           have I7:=h
           refine jR 4 (some 182) [(181,.ptr 2 0 (oS v160) 4),(180,.ptr 2 0 (oS v160) 0),(179,.ptr 2 0 (oS v160) 0)] (aW 3 (pN v160 ws2) aD) v160 3 4 0 (ad (nth (pN v160 ws2) v160).bU) (dM I7.1 I7.2) ?_
           exact b3 [(183,aq (yF v160 ws2))] trivial
          unfold NR at h
          refine dB (fun zf=> ?_) (fun zf=> ?_)
          ·
           replace h:=h zf
           refine bx [] 40 ?_
           obtain⟨Ph,h⟩:=h
           refine tS 4 (some 187) [(186,ad v160),(185,.agg (ik a0)),(184,.ptr 2 0 (oS v160) 0)] [.agg (ik a0),ad v160] (.agg (Wo a0 bP v160)) (⟨0,1,List.map aR (eA J)⟩::⟨0,2,List.map ba (dN J)⟩::⟨0,5,aW 3 (pN v160 ws2) aD⟩::List.map bj (bP++[(c7 a0 v160).ae])) (Ii a0 v160 Ph) (ah.cons (c6.agg (ah.cons (.int _ _) (ah.cons cJ (ah.cons cJ (ah.cons cJ (ah.cons (.int _ _) ah.nil)))))) (ah.cons (c6.iH (.int _ _)) ah.nil)) (tK (fun _=>rfl) rfl) (tW (tV (fun _=>rfl) rfl) (by simp only[List.cons_append,List.map_nil,uF])) ?_ (er:=by simp[oh,p1,ji])
           have BQ:=h
           refine lf 2 none [(188,.ptr 2 0 (oS v160) 0)] (aW 3 (pN v160 ws2) aD) v160 0 5 0 (Wo a0 bP v160) 2 (aW 3 (NU a0 v160 ws2) (aD.set v160.toNat bP.length)) (dM BQ.1 BQ.2) (AD BQ.1) ?_
           refine d_ [] ?_
           refine cc.normal ?_
           exact b_.normal trivial (by simp only[←vl,←sC,←BU,gb,hI,qP,pY,l5,o4,zg,E0,zf,cond_true,cond_false,oR,oQ,oP,n6,n5,nA];exact ei)
          ·
           refine ew ?_
           refine cc.normal ?_
           exact b_.normal trivial (by simp only[←vl,←sC,←BU,gb,hI,qP,pY,l5,o4,zg,E0,zf,cond_true,cond_false,oR,oQ,oP,n6,n5,nA];exact ei)
         ·
          refine ew ?_
          refine cc.normal ?_
          exact b_.normal trivial (by simp only[←vl,←sC,←BU,gb,hI,qP,pY,l5,o4,zg,E0,cond_true,cond_false,oR,oQ,oP,n6,n5,nA];exact ei)
        replace h:=h qZ vl
        have ahS:qZ.length=ws2.length:=by rw[←vl];repeat' apply Ez;all_goals simp
        replace h:=h sM sC
        replace h:=h sN BU
        refine bx [] 41 ?_
        refine d_ [(160,ad (yH v160)),(189,ad (yH v160))] ?_
        exact ed.again (sN,sM,(yH v160),qZ) h (hX (s':=⟨(bm 200 (NV J v160)),(Wr a0 J ws2),(NW J qZ sM sN)⟩) (dw (n:=200) (A':=(NV J v160)) (L':=(Wr a0 J ws2)) []) (congrArg (fun z=>(⟨(bm 200 (NV J v160)),[(7,(jM J)),(6,n4),(4,[aq (jc J),ap 0 0 (n7 J),ap 1 0 (dN J).length,ap 2 0 z]),(3,(ik a0))],(NW J qZ sM sN)⟩:St)) (show ws2.length=qZ.length by simp[ahS])))
       ·
        replace h:=h.2 o4
        refine ew ?_
        refine cc.normal ?_
        exact hA.normal ((eB J),(eA J),(dN J),(eC J),0,(c2 J)) h (dw [5])
 obtain⟨bP,aI,ax,aD,dk,ws2⟩:=v
 replace h:=h bP aI ax aD dk ws2 dq
 dsimp only
 unfold NK at h
 obtain⟨am7,h⟩:=h
 refine cw [] [3] ((!(dk !=0))=true) ?_ (fun Po=> ?_)
 ·
  replace h:=am7
  refine et [] 42 [(191,aq (dk !=0)),(190,ad dk)] [1] [5] ?_
  refine dB (fun EW=> ?_) (fun EW=> ?_)
  ·
   replace h:=h EW
   obtain⟨Pq,h⟩:=h
   refine fk [] [0,3,1] (fun L=>er 1 (Ib J ax bP aD ws2 aI dk) L) (fun _=>((Bb ax bP aD ws2 aI)++List.map (ir (oT ax bP aD ws2 aI)) (Ic J))) (True) ?_ (fun ZJ=> ?_)
   ·
    replace h:=Pq
    refine bx [] 43 ?_
    have Pp:=h
    refine tS 3 (some 194) [(193,.agg (jM J)),(192,ad dk)] [.agg (jM J)] (.agg [aq (jc J),ap ((oT ax bP aD ws2 aI)+0) 0 (n7 J),ap ((oT ax bP aD ws2 aI)+1) 0 (dN J).length,ap ((oT ax bP aD ws2 aI)+2) 0 (c2 J).length]) ((Bb ax bP aD ws2 aI)++List.map (ir (oT ax bP aD ws2 aI)) (Ic J)) (H9 J Pp) (ah.cons (c6.agg (ah.cons (.bool _) (ah.cons cJ (ah.cons cJ (ah.cons cJ ah.nil))))) ah.nil) BF rfl ?_ (er:=rfl)
    exact b3 [(195,.agg (Ib J ax bP aD ws2 aI dk))] trivial
   refine hZ ?_
   refine b_.ret ?_
   refine mE (.agg (Ib J ax bP aD ws2 aI dk)) [.agg (Ib J ax bP aD ws2 aI dk)] ?_
   exact Ze (H:=(Bb ax bP aD ws2 aI)) (T:=(aV J)) (pre:=[dk]) (pre':=[aa.code]) ⟨congrArg (fun x=>[x]) h.1,h.2⟩
  ·
   refine ew ?_
   exact b_.normal (by simp only[EW,oR,oQ,oP,n6,n5,nA]<;>rfl) ei
 replace h:=h Po
 obtain⟨am6,h⟩:=h
 refine fk [] [0,2,1] (fun L=>er 1 (If a0 J ax bP aD ws2 aI) L) (fun _=>(Wh a0 J ax bP aD ws2 aI)) (True) ?_ (fun ZK=> ?_)
 ·
  replace h:=am6
  refine bx [] 44 ?_
  obtain⟨am3,am4,Pr,am5⟩:=h
  refine tS 3 (some 198) [(197,.agg [aq (jc J),ap 0 0 aI.length,ap 1 0 ax.length,ap 2 0 ws2.length]),(196,.agg (ik a0))] [.agg (ik a0),.agg [aq (jc J),ap 0 0 aI.length,ap 1 0 ax.length,ap 2 0 ws2.length]] (.agg [aq (dV a0 (m2 J ax bP aD ws2 aI)).ok,ap ((oT ax bP aD ws2 aI)+0) 0 (dV a0 (m2 J ax bP aD ws2 aI)).aE.length,ap ((oT ax bP aD ws2 aI)+1) 0 (dV a0 (m2 J ax bP aD ws2 aI)).ay.length,ap ((oT ax bP aD ws2 aI)+2) 0 (dV a0 (m2 J ax bP aD ws2 aI)).O.length]) (Wh a0 J ax bP aD ws2 aI) (ajH a0 (m2 J ax bP aD ws2 aI) am5) (ah.cons (c6.agg (ah.cons (.int _ _) (ah.cons cJ (ah.cons cJ (ah.cons cJ (ah.cons (.int _ _) ah.nil)))))) (ah.cons (c6.agg (ah.cons (.bool _) (ah.cons (o8 (sz:=1) (by simp) rfl (wx) am3) (ah.cons (o8 (sz:=2) (by simp) rfl (yA) am4) (ah.cons (xi (s:=3) (ws:=ws2) (ids:=aD) (bs:=bP) (by simp) rfl (fun id k h=>by simpa using h) Pr.1 Pr.2.1 Pr.2.2) ah.nil))))) ah.nil)) BF rfl ?_ (er:=rfl)
  exact b3 [(199,.agg (If a0 J ax bP aD ws2 aI))] trivial
 refine hZ ?_
 refine mE (.agg (If a0 J ax bP aD ws2 aI)) [.agg (If a0 J ax bP aD ws2 aI)] ?_
 exact Ze (H:=(Bb ax bP aD ws2 aI)) (T:=(dV a0 (m2 J ax bP aD ws2 aI))) (pre:=[0]) (pre':=[aa.code]) ⟨congrArg (fun x=>[x]) h.1,h.2⟩
theorem aja (ab:GN a0 J a2):c8 Tryz.prog 72 [.agg (ik a0),.agg (jM J),.agg (dL a2)] [] (fun r H=>r= .agg [ad (ih a0 J a2).code,aq (ih a0 J a2).frame.ok,ap 0 0 (ih a0 J a2).frame.aE.length,ap 1 0 (ih a0 J a2).frame.ay.length,ap 2 0 (ih a0 J a2).frame.O.length]∧H=(⟨0,1,List.map aR (ih a0 J a2).frame.aE⟩::⟨0,2,List.map ba (ih a0 J a2).frame.ay⟩::⟨0,5,aW 3 (ih a0 J a2).frame.O (List.range (ih a0 J a2).frame.O.length)⟩::List.map bj (List.map av.ae (ih a0 J a2).frame.O))):=ajh a0 J a2 (ih a0 J a2) (fun x v=>cr (bV (nth a0.O a2.aG)).length (fun _=>false) v∧x=k1 ((bV (nth a0.O a2.aG)).take v.toNat) J.ay) (fun _ v=>cM (bV (nth a0.O a2.aG)).length v) (fun bs is v ws=>cr J.O.length (fun _=>false) v∧gB ws is bs∧view ws is bs=iP a0 v.toNat J.O) (fun _ _ v _=>cM J.O.length v) (fun bs o q is c ws=>gB ws is bs∧c=fK a0 J a2∧(c=0→Frame.mk J.ok o q (view ws is bs)=jq a0 J a2)) (by
 unfold NC
 obtain⟨hf,he⟩:=ab
 have hs:=Av hf
 have ny:=hs
 obtain⟨kI,z2,z3,z4⟩:=ny
 have bZ:=hf.in
 have dn:=hf.fr
 have au:=dn.O
 have tk:=dn.aE
 have oL:=dn.ay
 have D2:=bZ.O
 have uW:=bZ.cY
 have AY:=bZ.bh
 obtain⟨c5,dP,eJ⟩:=x5 J.O
 have nV:gB J.O (List.range J.O.length) (J.O.map av.ae):=⟨c5,dP,fun b hb=>by
  obtain⟨h,bt,rfl⟩:=List.mem_map.1 hb;exact z4 h bt⟩
 have wh:Frame.mk (aV J).ok (aV J).aE (aV J).ay (view (aV J).O (List.range (aV J).O.length) (List.map av.ae (aV J).O))=J:=by
  show Frame.mk J.ok J.aE J.ay (view J.O (List.range J.O.length) (List.map av.ae J.O))=J
  rw[eJ]
 have m1:(aV J).O.length=(List.range (aV J).O.length).length:=by rw[List.length_range]
 have eH:(aV J).aE.length≤4611686018427387904∧(aV J).ay.length≤4611686018427387904∧(ll (aV J).O (List.range (aV J).O.length) (List.map av.ae (aV J).O)∧(aV J).O.length≤4611686018427387904∧(∀x∈(List.map av.ae (aV J).O),List.length x≤4611686018427387904)):=
  ⟨by show J.aE.length≤_;omega,by show J.ay.length≤_;omega,c5,by show J.O.length≤_;omega,fun x hx=>by have:=nV.len x hx;omega⟩
 have j6: ∀c:Int,c=fK a0 J a2→c≠0→gB J.O (List.range J.O.length) (J.O.map av.ae)∧c=fK a0 J a2∧(c=0→Frame.mk J.ok J.aE J.ay (view J.O (List.range J.O.length) (J.O.map av.ae))=jq a0 J a2):=fun c hc b7=>⟨nV,hc,fun h=>absurd h b7⟩
 refine⟨hs,?_,fun bs o q is c ws dq=> ?_⟩
 ·unfold NJ lD eC eB jc dN eA c2
  refine⟨fun h1=> ?_,fun h1=> ?_⟩
  ·have h1:a2.op=1:=by simpa using h1
   have aO:=s6 he (.inl h1)
   have uP:fK a0 J a2=hd a0 J a2.aG:=by unfold fK;rw[if_pos h1]
   unfold NM u6 oO k_ lD eC eB jc dN eA c2
   rw[wh]
   refine⟨⟨eH.1,eH.2.1,eH.2.2,hf,aO.1,aO.2⟩,fun aH=> ?_,fun aH=> ?_⟩
   ·have aH:hd a0 J a2.aG=0:=by simpa using aH
    have aQ:a2.aG.toNat<J.O.length:=by omega
    refine⟨⟨⟨aO.1,aQ⟩,m1,aQ⟩,⟨⟨aO.1,by omega⟩,?_⟩,fun hm=>⟨⟨dA (dp _),rfl⟩,fun x v aT=> ?_⟩⟩
    ·have:=bZ.bI _ (dT (show a2.aG.toNat<a0.O.length by omega))
     exact⟨by omega,by omega⟩
    obtain⟨aT,rfl⟩:=aT
    unfold NL ND Er yI oO yE u_ k_ u7 lD eC eB jc dN eA c2
    rw[wh]
    refine⟨fun hv=> ?_,fun hv=>⟨⟨cC aT hv,?_⟩,⟨(da (cO hm) aT hv rfl).1,?_⟩,(da (cO hm) aT hv rfl).2⟩⟩
    ·have cV:=(nV.uz aQ).setState 1
     refine⟨cV.G,uP.symm,fun _=> ?_⟩
     have lC: ¬v<((bV (nth a0.O a2.aG)).length:Int):=by simpa using hv
     have iB:=aT.1
     have k7:=cV.ib
     rw[eJ] at k7
     unfold jq
     rw[if_pos h1]
     rw[show view ((aV J).O.set a2.aG.toNat (av.mk 1 (nth (aV J).O a2.aG).bc (nth (aV J).O a2.aG).ae (nth (aV J).O a2.aG).bW (nth (aV J).O a2.aG).bU)) (List.range (aV J).O.length) (List.map av.ae (aV J).O)=_ from k7,List.take_of_length_le (by omega)]
     rfl
    ·rw[Fc]
     have:=(bZ.bI _ (dT (show a2.aG.toNat<a0.O.length by omega))).2.2 _ (dT (cC aT hv).2)
     omega
    ·have ck:=cC aT hv
     rw[kH (cO hm) aT.1 (by simpa using hv),show(v+1).toNat=v.toNat+1 by have:=aT.1;omega,aat ck.2,←gX ck.2]
   ·have aH: ¬hd a0 J a2.aG=0:=by simpa using aH
    exact j6 _ uP.symm aH
  have h1: ¬a2.op=1:=by simpa using h1
  unfold NI ru u6 eC c2
  refine⟨fun h2=> ?_,fun h2=> ?_⟩
  ·have h2:a2.op=2:=by simpa using h2
   have aO:=s6 he (.inr h2)
   have aQ:a2.aG.toNat<J.O.length:=by omega
   have AM:a2.aG.toNat<a0.O.length:=by omega
   have ii:fK a0 J a2=if(nth J.O a2.aG).aF≠1∧(nth J.O a2.aG).aF≠2 then 2 else 0:=by unfold fK;rw[if_neg h1,if_pos h2]
   refine⟨⟨aO.1,aQ⟩,⟨⟨m1,aQ⟩,fun _=>⟨m1,aQ⟩⟩,?_⟩
   unfold NO n6 u9 ru u6 lD eC eB jc dN eA c2
   rw[wh]
   have rl:(((nth (aV J).O a2.aG).aF !=1)&&((nth (aV J).O a2.aG).aF !=2))=decide ((nth J.O a2.aG).aF≠1∧(nth J.O a2.aG).aF≠2):=by
    rw[Bool.eq_iff_iff];simp[aV]
   rw[rl]
   refine⟨fun hc=> ?_,fun hc=>⟨⟨⟨m1,aQ⟩,fun _=>⟨⟨aO.1,AM⟩,eH.1,eH.2.1,eH.2.2,fun x hx=> ?_⟩⟩,?_⟩⟩
   ·have hc:=of_decide_eq_true hc
    rw[if_pos hc] at ii
    exact j6 2 ii.symm (by decide)
   ·have:=(bZ.ek _ (dT AM)).2 x hx;omega
   ·have hc:=of_decide_eq_false hc
    rw[if_neg hc] at ii
    have cV:=nV.uz aQ
    rw[eJ] at cV
    unfold NN nA u9 Et u6 Ba A_ lD eC eB jc dN eA tu c2
    rw[wh]
    have aY: ∀X:Frame,X=(if((nth J.O a2.aG).bW&&hU J (nth a0.O a2.aG).ek)=true then{J with O:=J.O.set a2.aG.toNat {nth J.O a2.aG with aF:=3,bU:=a0.cB}} else{J with O:=J.O.set a2.aG.toNat (c7 a0 a2.aG)})→X=jq a0 J a2:=fun X wb=>by
     unfold jq;rw[if_neg h1,if_pos h2];exact wb
    refine⟨fun U=>⟨⟨m1,aQ⟩,(cV.setState 3).fY,?_⟩,fun U=>⟨⟨bZ,aO.1,aO.2⟩,⟨m1,aQ⟩,?_⟩⟩
    ·have fT:=(cV.setState 3).B3 a0.cB
     refine⟨fT.G,ii.symm,fun _=>aY _ ?_⟩
     have U:((nth J.O a2.aG).bW&&hU J (nth a0.O a2.aG).ek)=true:=U
     rw[if_pos U]
     have k7:=fT.ib
     exact congrArg (Frame.mk J.ok J.aE J.ay) k7
    ·have fT:=cV.new (c7 a0 a2.aG) (by
      have:=(bZ.ao _ (dT AM)).2.1
      show(List.replicate _ _).length≤_
      rw[List.length_replicate];omega)
     have Sl:dl J.O ((List.range (aV J).O.length).set a2.aG.toNat (List.map av.ae (aV J).O).length) a2.aG (c7 a0 a2.aG) ((aV J).O.set a2.aG.toNat (av.mk (c7 a0 a2.aG).aF (c7 a0 a2.aG).bc (c7 a0 a2.aG).ae (c7 a0 a2.aG).bW (c7 a0 a2.aG).bU)) ((List.map av.ae (aV J).O)++[(c7 a0 a2.aG).ae]):=fT
     refine⟨Sl.G,ii.symm,fun _=>aY _ ?_⟩
     have U: ¬((nth J.O a2.aG).bW&&hU J (nth a0.O a2.aG).ek)=true:=by
      have U:((nth J.O a2.aG).bW&&hU J (nth a0.O a2.aG).ek)=false:=U
      rw[U];simp
     rw[if_neg U,Sl.ib];rfl
  have h2: ¬a2.op=2:=by simpa using h2
  have ok: ∀(o:List Bool) (q:List bL),fK a0 J a2=0→jq a0 J a2={J with aE:=o,ay:=q}→gB J.O (List.range J.O.length) (J.O.map av.ae)∧0=fK a0 J a2∧((0:Int)=0→Frame.mk J.ok o q (view J.O (List.range J.O.length) (J.O.map av.ae))=jq a0 J a2):=fun o q hc aY=>⟨nV,hc.symm,fun _=>by rw[eJ,aY]⟩
  unfold NH n5 Es En eC eB dN eA c2
  rw[EO]
  refine⟨fun aC=> ?_,fun aC=> ?_⟩
  ·have aC:=of_decide_eq_true aC
   have aO:=LK he aC
   refine⟨⟨aO.1,by show a2.aG.toNat<J.aE.length;omega⟩,ok _ _ ?_ ?_⟩
   ·unfold fK;rw[if_neg h1,if_neg h2,if_neg (by omega)]
   ·unfold jq;rw[if_neg h1,if_neg h2,if_pos aC];rfl
  have aC:=of_decide_eq_false aC
  refine⟨fun ch=> ?_,fun ch=> ?_⟩
  ·have ch:a2.op=5:=by simpa using ch
   have aO:=As he (.inl ch)
   refine⟨⟨aO.1,by show a2.aG.toNat<J.ay.length;omega⟩,ok _ _ ?_ ?_⟩
   ·unfold fK;rw[if_neg h1,if_neg h2,if_neg (by omega)]
   ·unfold jq;rw[if_neg h1,if_neg h2,if_neg aC,if_pos ch];rfl
  have ch: ¬a2.op=5:=by simpa using ch
  unfold NG lD eC eB jc dN eA c2
  refine⟨fun cy=> ?_,fun cy=>⟨fun hr=> ?_,fun hr=> ?_⟩⟩
  ·have cy:a2.op=6:=by simpa using cy
   have aO:=As he (.inr cy)
   have ii:fK a0 J a2=if j9 a0 J a2.aG=true then 2 else if lH a0 J a2.aG=true then 3 else 0:=by unfold fK;rw[if_neg h1,if_neg h2,if_pos cy]
   rw[wh]
   refine⟨⟨eH.1,eH.2.1,eH.2.2,hf,aO.1,aO.2⟩,fun _=> ?_⟩
   unfold NQ NP Be Bc Eo lD eC eB jc dN eA c2
   rw[wh]
   have MX:=bZ.a7 _ (dT (show a2.aG.toNat<a0.a7.length by omega))
   refine⟨fun hc=> ?_,fun hc=>⟨⟨⟨aO.1,by omega⟩,MX.1,by show _<J.aE.length;omega⟩,fun aj=> ?_,fun aj=>⟨⟨aO.1,by show _<J.ay.length;omega⟩,ok _ _ ?_ ?_⟩⟩⟩
   ·rw[if_pos (show j9 a0 J a2.aG=true from hc)] at ii
    exact j6 2 ii.symm (by decide)
   ·rw[if_neg (show ¬j9 a0 J a2.aG=true by rw[show j9 a0 J a2.aG=false from hc];simp),if_pos (show lH a0 J a2.aG=true from aj)] at ii
    exact j6 3 ii.symm (by decide)
   ·rw[if_neg (show ¬j9 a0 J a2.aG=true by rw[show j9 a0 J a2.aG=false from hc];simp),if_neg (show ¬lH a0 J a2.aG=true by rw[show lH a0 J a2.aG=false from aj];simp)] at ii
    exact ii
   ·unfold jq;rw[if_neg h1,if_neg h2,if_neg aC,if_neg ch,if_pos cy];rfl
  ·have hr:a2.op=7:=by simpa using hr
   unfold NF Ep eC eB dN eA c2
   refine⟨⟨dA (dp _),nV,eJ⟩,fun bs is v ws aT=> ?_⟩
   obtain⟨aT,G,k7⟩:=aT
   have HW:ws.length=J.O.length:=by rw[←jT G.ok,k7,FG]
   refine⟨fun hv=>⟨G,?_,fun _=> ?_⟩,fun hv=> ?_⟩
   ·unfold fK;rw[if_neg h1,if_neg h2,if_neg (by omega)]
   ·have lC: ¬v<(J.O.length:Int):=by
     have hv:decide (v<(J.O.length:Int))=false:=hv
     simpa using hv
    have aw:=aT.1
    have hb:=aT.2.1
    rw[k7,show v.toNat=J.O.length by omega]
    unfold jq;rw[if_neg h1,if_neg h2,if_neg aC,if_neg ch,if_neg (by omega),if_pos hr];rfl
   ·have ck:=cC aT hv
    have aQ:v.toNat<ws.length:=by omega
    have AM:v.toNat<a0.O.length:=by omega
    have cV:dl (iP a0 v.toNat J.O) is v (nth (iP a0 v.toNat J.O) v) ws bs:=dl.start G.ok G.lE aQ k7 G.len
    have a6:=da (by omega) aT hv rfl
    have tq:=kH (show(J.O.length:Int)≤4611686018427387904 by omega) aT.1 (by
     have hv:decide (v<(J.O.length:Int))=true:=hv
     simpa using hv)
    have yq:A4 a0 v:=⟨bZ,ck.1,by omega⟩
    have th:(c7 a0 v).ae.length≤1048576:=by
     have:=(bZ.ao _ (dT AM)).2.1
     show(List.replicate _ _).length≤_
     rw[List.length_replicate];omega
    have dt:=cV.B3 (IntKind.i64.wrap ((nth ws v).bU - 1))
    have fin: ∀{df:List Nat} {lQ:List av} {nT:List (List Bool)} {x:av},dl (iP a0 v.toNat J.O) df v x lQ nT→x=nf a0 v.toNat (nth (iP a0 v.toNat J.O) v)→(cr J.O.length (fun _=>false) (IntKind.i64.wrap (v+1))∧gB lQ df nT∧view lQ df nT=iP a0 (IntKind.i64.wrap (v+1)).toNat J.O)∧cM J.O.length (IntKind.i64.wrap (v+1))<cM J.O.length v:=fun F hx=>by
     refine⟨⟨a6.1,F.G,?_⟩,a6.2⟩
     rw[F.ib,hx,tq,show(v+1).toNat=v.toNat+1 by omega]
     show _=(iP a0 v.toNat J.O).set v.toNat (nf a0 v.toNat (nth (iP a0 v.toNat J.O) (v.toNat:Int)))
     rw[lG ck.1]
    unfold NE NS NR oR oQ oP yG yF yH NU pN
    refine⟨⟨⟨ck.1,aQ⟩,cV.fY,fun _=>⟨⟨cV.fY,cV.fY⟩,dt.fY,fun _=>⟨yq,dt.fY⟩⟩⟩,fun w hw i hi b hb=> ?_⟩
    have aO:(nth (ws.set v.toNat (av.mk (nth ws v).aF (nth ws v).bc (nth ws v).ae (nth ws v).bW (IntKind.i64.wrap ((nth ws v).bU - 1)))) v).bU=IntKind.i64.wrap ((nth ws v).bU - 1):=dt.bU
    rw[aO,cV.aF,cV.bU] at hw hi hb
    rw[cV.bU,cV.aF] at dt
    have MC:c7 a0 (v.toNat:Int)=c7 a0 v:=by rw[Int.toNat_of_nonneg ck.1]
    cases aC:((nth (iP a0 v.toNat J.O) v).aF==3) with
    | false=>
     rw[aC] at hw hi hb
     subst hw;subst hi;subst hb
     refine fin cV ?_
     unfold nf;rw[if_neg (by simpa using aC)]
    | true=>
     rw[aC] at hw hi hb
     cases aA:(IntKind.i64.wrap ((nth (iP a0 v.toNat J.O) v).bU - 1)==0) with
     | false=>
      rw[aA] at hw hi hb
      subst hw;subst hi;subst hb
      refine fin dt ?_
      unfold nf;rw[if_pos (by simpa using aC),if_neg (by simpa using aA)]
     | true=>
      rw[aA] at hw hi hb
      subst hw;subst hi;subst hb
      refine fin (dt.new (c7 a0 v) th) ?_
      unfold nf;rw[if_pos (by simpa using aC),if_pos (by simpa using aA),MC]
  ·have hr: ¬a2.op=7:=by simpa using hr
   refine ok _ _ ?_ ?_
   ·unfold fK;rw[if_neg h1,if_neg h2,if_neg (by simpa using cy)]
   ·unfold jq;rw[if_neg h1,if_neg h2,if_neg aC,if_neg ch,if_neg (by simpa using cy),if_neg hr];rfl
 ·obtain⟨G,hc,aY⟩:=dq
  unfold NK m2 jc
  refine⟨fun aH=>⟨hs,?_⟩,fun aH=> ?_⟩
  ·have aH: ¬c=0:=by simpa using aH
   unfold ih;rw[if_pos (by rw[←hc];exact aH)]
   exact⟨hc,rfl⟩
  ·have aH:c=0:=by simpa using aH
   have ck:=GM dn (s6 he)
   rw[←aY aH] at ck
   have aj:=ck.aE
   have U:=ck.ay
   have hw:=ck.O
   have aiv:(view ws is bs).length=a0.O.length:=hw
   rw[jT G.ok] at aiv
   replace aj:(o.length:Int)=a0.ao:=aj
   replace U:q.length=a0.a7.length:=U
   refine⟨⟨by omega,by omega,⟨G.ok,by omega,fun x hx=>by have:=G.len x hx;omega⟩,bZ,ck⟩,?_⟩
   unfold ih;rw[if_neg (by rw[←hc,aH];simp)]
   exact⟨rfl,by rw[←aY aH];rfl⟩)
end
end Go.Proofs.YtejmihecgodhnaaGreat.Fw
set_option linter.unusedVariables false
namespace Go.Proofs.YtejmihecgodhnaaGreat.Fw
open Go
section
variable {P:Program} {esc:List Nat} {ops:Array Oper} {n:Nat} {X:List Item} {i0:Nat} {A:List (Nat×AV)} {L:List (Nat×List AV)} {H:List Blk} {K:List (Nat×AV)→List (Nat×List AV)→List Blk→Prop}
theorem ap1 (a8:Nat) (d:Option Nat) (N:List (Nat×AV)) {i:Int} (B:Int) (z:List AV) (F:List Blk→Prop) (m:Nat) (me:List Blk) (aA:0≤i∧B*i≤140737488355328∧i≤4611686018427387904) (au:H.length=m) (hx:H++[⟨0,1,List.map aR (List.replicate i.toNat false)⟩]=me) (dn:F me)
  (h:evSD P esc ops n (X.drop (i0+a8)) (dg d (.ref m 0 0 (List.replicate i.toNat false).length false) N A) L me K) (aH:z=aR false:=by rfl)
  (e: ∀K,evSD P esc ops n ((X.drop i0).take a8) A L H K=(0≤i∧i≤i∧B*i≤140737488355328∧i≤4611686018427387904∧F (H++[⟨0,1,List.replicate i.toNat z⟩])∧K (dg d (.ref H.length 0 0 i.toNat false) N A) L (H++[⟨0,1,List.replicate i.toNat z⟩])):=by intro K;kernel_rfl):evSD P esc ops n (X.drop i0) A L H K:=by
 rw[mW X i0 a8,e]
 subst au;subst hx;subst aH
 rw[List.length_replicate,List.map_replicate] at h
 rw[List.map_replicate] at dn
 exact⟨aA.1,Int.le_refl _,aA.2.1,aA.2.2,⟨dn,h⟩⟩
end
theorem anQ (a b:List c9) (q:List bL):k1 (a++b) q=k1 b (k1 a q):=by unfold k1;rw[List.foldl_append]
def l9 (w:Way):List (List c9):=[w.bI,w.cR]
theorem acs (w:Way):(l9 w).flatten=bV w:=by simp[l9,bV]
theorem ap8 {w:Way} {j:Nat} {q:List bL} (h:j<(l9 w).length):k1 ((l9 w).take (j+1)).flatten q=k1 (l9 w)[j] (k1 ((l9 w).take j).flatten q):=by
 rw[List.take_succ_eq_append_getElem h,List.flatten_append,anQ];simp
theorem ap9 {w:Way} {v:Int} {x:c9} (h:v.toNat<(l9 w).length) (hx:x∈nth (l9 w) v):x∈bV w:=by
 rw[←acs];exact List.mem_flatten.2 ⟨_,dT h,hx⟩
def Xi (p:aL) (t:Int) (k:Bool) (o:List Bool) (q:List bL) (w:List av) (i:List Nat) (b:List (List Bool)):Prop:=
 gB w i b∧us p∧0≤t∧t<w.length∧t<p.O.length∧q.length=p.a7.length
def IB (p:aL) (t:Int) (k:Bool) (o:List Bool) (q:List bL) (w:List av) (i:List Nat) (b:List (List Bool)) (h7:List Bool) (vh:List bL) (w':List av) (e4:List Nat) (b4:List (List Bool)):Prop:=
 vh=k1 (bV (nth p.O t)) q∧gB w' e4 b4∧view w' e4 b4=(view w i b).set t.toNat {nth (view w i b) t with aF:=1}
def Xh (p:aL) (t:Int) (k:Bool) (o:List Bool) (q:List bL) (w:List av) (i:List Nat) (b:List (List Bool)):Prop:=
 gB w i b∧us p∧0≤t∧t<w.length∧t<p.O.length∧(o.length:Int)=p.ao
def Gq (p:aL) (f:Frame) (t:Int):av:=
 if((nth f.O t).bW&&hU f (nth p.O t).ek)=true then{nth f.O t with aF:=3,bU:=p.cB} else hR (nth f.O t).ae.length
def vR (f:Frame) (t:Int):Int:=if(nth f.O t).aF≠1∧(nth f.O t).aF≠2 then 2 else 0
def yT (p:aL) (t:Int) (k:Bool) (o:List Bool) (q:List bL) (w:List av) (i:List Nat) (b:List (List Bool)) (h7:List Bool) (vh:List bL) (w':List av) (e4:List Nat) (b4:List (List Bool)) (r:Int):Prop:=
 gB w' e4 b4∧r=vR (c1 k o q w i b) t∧view w' e4 b4=(if vR (c1 k o q w i b) t=0 then(view w i b).set t.toNat (Gq p (c1 k o q w i b) t) else view w i b)
def kX (p:aL) (f:Frame) (e:Event):Frame:=if fK p f e=0 then jq p f e else f
def na (p:aL) (f:Frame) (e:Event):fj:=if(kh p f&&fD p e)=true then⟨fK p f e,dV p (kX p f e)⟩ else⟨1,⟨false,[],[],[]⟩⟩
def PN (p:aL) (f:Frame) (e:Event):Prop:=iu f
theorem YB {p:aL} {f:Frame} {e:Event} (h:iT p f) (he:fD p e=true):iT p (kX p f e):=by
 unfold kX
 split
 ·exact GM h (s6 he)
 ·exact h
theorem VJ {p:aL} {f:Frame} (h:iT p f) {t:Int} (aA:0≤t) (h1:t<p.O.length):hR (nth f.O t).ae.length=c7 p t:=by
 have au:=h.O
 have aw:=h.at (i:=t.toNat) (by omega)
 rw[lG aA,lG aA] at aw
 unfold c7;rw[aw.1]
def o9 (p:aL) (f:Frame) (e:Event):fj:=if(na p f e).code=1 then⟨(na p f e).code,f⟩ else na p f e
def p2 (p:aL):Frame→List Event→List fj
 | _,[]=>[]
 | f,e::es=>o9 p f e::p2 p (o9 p f e).frame es
def nb (p:aL):Frame→List Event→Frame
 | f,[]=>f
 | f,e::es=>nb p (o9 p f e).frame es
def sE (p:aL) (es:List Event):List fj:=if eD p=true∧es.length≤1000 then p2 p (cA p) es else[]
theorem aok {p:aL} {f:Frame} {e:Event} (hf:iu f):iu (na p f e).frame:=by
 unfold na
 split
 ·rename_i h
  rw[Bool.and_eq_true] at h
  have hk:=L3 h.1
  exact Av ⟨hk.oF,zm (YB hk.fr h.2) _⟩
 ·exact⟨Nat.zero_le _,Nat.zero_le _,Nat.zero_le _,fun h bt=>by cases bt⟩
theorem aom {p:aL} {f:Frame} {e:Event} (hf:iu f):iu (o9 p f e).frame:=by
 unfold o9
 split
 ·exact hf
 ·exact aok hf
theorem aaM {p:aL}: ∀(es:List Event) {f:Frame},iu f→iu (nb p f es)
 | [],f,h=>h
 | e::es,f,h=>aaM es (aom h)
theorem QJ (p:aL) (e:Event): ∀(es:List Event) (f:Frame),p2 p f (es++[e])=p2 p f es++[o9 p (nb p f es) e]∧nb p f (es++[e])=(o9 p (nb p f es) e).frame
 | [],f=>⟨rfl,rfl⟩
 | d::es,f=>⟨by
   show o9 p f d::p2 p _ (es++[e])=_
   rw[(QJ p e es _).1];rfl,by
   show nb p _ (es++[e])=_
   rw[(QJ p e es _).2];rfl⟩
theorem aaL (p:aL): ∀(es:List Event) (f:Frame),(p2 p f es).length=es.length
 | [],f=>rfl
 | e::es,f=>by show(p2 p _ es).length+1=_;rw[aaL p es];rfl
def kA (p:aL) (f:Frame) (i:Nat) (h:av):av:=
 let s:=(nth p.O i).ao
 if h.aF=0 then h else
 let h:=if h.aF≠4∧ey f (nth s 0)=true then{h with aF:=4,bU:=0} else h
 let h:=if h.aF=1∨h.aF=2 then(if hn p f i=true then{h with aF:=2,bW:=true} else{h with aF:=1}) else h
 if h.aF=4 then iI s f h else h
theorem apM (p:aL) (f:Frame) (i:Nat):nN p f i=kA p f i (nth f.O i):=rfl
theorem acd {p:aL} {f g:Frame} {i:Nat} {h:av} (h1:f.aE=g.aE) (h2:f.ay=g.ay):kA p f i h=kA p g i h:=by
 have aN: ∀x,ey f x=ey g x:=fun x=>by unfold ey;rw[h1]
 have e2: ∀s x,iI s f x=iI s g x:=fun s x=>Zj h1
 have dc:hn p f i=hn p g i:=Pe h1 h2
 unfold kA
 simp only[aN,e2,dc]
section
variable {p:aL} {f:Frame} {i:Nat} {h:av}
theorem Cw (aA:h.aF=0):kA p f i h=h:=by unfold kA;simp[aA]
theorem RL (aA:h.aF=4):kA p f i h=iI (nth p.O i).ao f h:=by unfold kA;simp[aA]
theorem ack (aA:h.aF≠0) (bg:h.aF≠4) (aj:ey f (nth (nth p.O i).ao 0)=true):kA p f i h=iI (nth p.O i).ao f {h with aF:=4,bU:=0}:=by unfold kA;simp[aA,bg,aj]
theorem RN (aA:h.aF=1∨h.aF=2) (aj:ey f (nth (nth p.O i).ao 0)=false) (ab:hn p f i=true):kA p f i h={h with aF:=2,bW:=true}:=by
 unfold kA
 rcases aA with aA | aA<;>simp[aA,aj,ab]
theorem RM (aA:h.aF=1∨h.aF=2) (aj:ey f (nth (nth p.O i).ao 0)=false) (ab:hn p f i=false):kA p f i h={h with aF:=1}:=by
 unfold kA
 rcases aA with aA | aA<;>simp[aA,aj,ab]
theorem RO (h1:h.aF≠1) (h2:h.aF≠2) (bg:h.aF≠4) (aj:ey f (nth (nth p.O i).ao 0)=false):kA p f i h=h:=by
 unfold kA
 simp[h1,h2,bg,aj]
end
theorem ac6 (f:Frame): ∀(b:List Bool) (s:List Int),List.zipWith (fun b x=>b || ey f x) (List.zipWith (fun b x=>b || ey f x) b s) s=List.zipWith (fun b x=>b || ey f x) b s
 | [],s=>rfl
 | b::bs,[]=>rfl
 | b::bs,x::s=>by
  simp only[List.zipWith_cons_cons,ac6 f bs s]
  cases b<;>cases ey f x<;>rfl
theorem Uy {s:List Int} {f:Frame} {ae:List Bool}: ∀(n g:Nat),s.length≤n+g→ ¬(hg s f ae n g<s.length∧ae.getD (hg s f ae n g) false=true∧ey f (s.getD (hg s f ae n g) 0)=false∧(hg s f ae n g+1=s.length∨ae.getD (hg s f ae n g+1) false=true))
 | 0,g,h=>fun bt=>by have:=bt.1;unfold hg at this;omega
 | n+1,g,h=>by
  by_cases hc:g<s.length∧ae.getD g false=true∧ey f (s.getD g 0)=false∧(g+1=s.length∨ae.getD (g+1) false=true)
  ·have e:hg s f ae (n+1) g=hg s f ae n (g+1):=if_pos hc
   rw[e];exact Uy n (g+1) (by omega)
  ·have e:hg s f ae (n+1) g=g:=if_neg hc
   rw[e];exact hc
theorem agF {s:List Int} {f:Frame} {ae:List Bool} {n m g:Nat} (h:s.length≤n+g):hg s f ae m (hg s f ae n g)=hg s f ae n g:=Hj (Uy n g h)
theorem UA {s:List Int} {f:Frame} {ae:List Bool}: ∀(n g:Nat),(∀j,j<g→ae.getD j false=true)→ ∀j,j<hg s f ae n g→ae.getD j false=true
 | 0,g,h=>h
 | n+1,g,h=>by
  unfold hg
  split
  ·rename_i hc
   refine UA n (g+1) fun j ac=> ?_
   by_cases e:j=g
   ·subst e;exact hc.2.1
   ·exact h j (by omega)
  ·exact h
theorem amO (s:List Int) (f:Frame) (h:av) (bg:h.aF=4):(iI s f h=hR s.length)∨((iI s f h).aF=4∧iI s f (iI s f h)=iI s f h):=by
 unfold iI
 simp only
 split
 ·exact .inl rfl
 ·rename_i az
  refine .inr ⟨bg,?_⟩
  simp only[ac6,Int.toNat_natCast]
  rw[agF (by omega),if_neg az]
theorem apO (p:aL) (f:Frame) (i:Nat) (h:av):kA p f i (kA p f i h)=kA p f i h:=by
 have key: ∀x:av,x.aF=4→kA p f i (iI (nth p.O i).ao f x)=iI (nth p.O i).ao f x:=fun x hx=>by
  rcases amO (nth p.O i).ao f x hx with e | ⟨aN,e2⟩
  ·rw[e];exact Cw rfl
  ·rw[RL aN,e2]
 by_cases aA:h.aF=0
 ·rw[Cw aA,Cw aA]
 by_cases bg:h.aF=4
 ·rw[RL bg];exact key h bg
 cases aj:ey f (nth (nth p.O i).ao 0) with
 | true=>rw[ack aA bg aj];exact key _ rfl
 | false=>
  by_cases qv:h.aF=1∨h.aF=2
  ·cases ab:hn p f i with
   | true=>rw[RN qv aj ab,RN (.inr rfl) aj ab]
   | false=>rw[RM qv aj ab,RM (.inl rfl) aj ab]
  ·rw[RO (fun e=>qv (.inl e)) (fun e=>qv (.inr e)) bg aj,RO (fun e=>qv (.inl e)) (fun e=>qv (.inr e)) bg aj]
theorem B4 (p:aL) (f:Frame): ∀(n j:Nat),(jC p n f).O[j]?=(f.O[j]?).map fun h=>if j<n then kA p f j h else h
 | 0,j=>by
  show f.O[j]?=_
  cases f.O[j]?<;>simp
 | n+1,j=>by
  show((jC p n f).O.set n (nN p (jC p n f) n))[j]?=_
  rw[List.getElem?_set]
  have s:=vr p f n
  split
  ·rename_i e;subst e
   have au:=rJ p f n
   by_cases ag:n<f.O.length
   ·rw[if_pos (by omega),apM,acd s.2.1 s.2.2]
    have bp:=B4 p f n n
    rw[List.getElem?_eq_getElem ag,List.getElem?_eq_getElem (by omega)] at bp
    have aiS:(jC p n f).O[n]=f.O[n]:=by simpa using bp
    rw[kq (by omega),aiS,List.getElem?_eq_getElem ag]
    simp
   ·rw[if_neg (by omega),List.getElem?_eq_none (by omega)];rfl
  ·rename_i b7
   rw[B4 p f n j]
   congr 1
   funext h
   by_cases ac:j<n
   ·rw[if_pos ac,if_pos (by omega)]
   ·rw[if_neg ac,if_neg (by omega)]
theorem aaw {p:aL} {f:Frame} {i:Int} (aA:0≤i) (h1:i<f.O.length):nth (dV p f).O i=kA p f i.toNat (nth f.O i):=by
 have e:=B4 p f f.O.length i.toNat
 have au:=rJ p f f.O.length
 rw[List.getElem?_eq_getElem (by omega),List.getElem?_eq_getElem (show i.toNat<f.O.length by omega)] at e
 unfold dV
 rw[gX (by omega),gX (show i.toNat<f.O.length by omega)]
 simpa[show i.toNat<f.O.length by omega] using e
theorem anT (p:aL) (f:Frame):(dV p (dV p f)).O=(dV p f).O:=by
 apply List.ext_getElem?
 intro j
 have s:=vr p f f.O.length
 have au:=rJ p f f.O.length
 unfold dV
 rw[B4,B4,au]
 cases h:f.O[j]? with
 | none=>rfl
 | some x=>
  have ac:=(List.getElem?_eq_some_iff.1 h).1
  simp only[Option.map_some,if_pos ac]
  rw[acd s.2.1 s.2.2,apO]
structure q6 (n:Nat) (cB:Int) (h:av):Prop where
 ar:0≤h.aF∧h.aF≤4
 len:h.ae.length=n
 bc:0≤h.bc∧h.bc<n
 still:h.aF≠4→h.bc=0∧ ∀b∈h.ae,b=false
 ae: ∀j,j<h.bc.toNat→h.ae.getD j false=true
 t3:h.aF=3→h.bW=true∧1≤h.bU∧h.bU≤cB
 t:h.aF≠3→h.bU=0
 fb:h.aF=0→h.bW=false
 s2:h.aF=2→h.bW=true
theorem Vr {p:aL} {f:Frame} {i:Int}:i_ p f i=true↔q6 (nth p.O i).ao.length p.cB (nth f.O i):=by
 unfold i_
 simp only
 generalize nth f.O i=h
 generalize (nth p.O i).ao.length=n
 have eT: ∀(l:List Bool) (k:Nat),k≤l.length→((l.take k).all (fun b=>b)=true↔ ∀j,j<k→l.getD j false=true):=fun l k hk=>by
  rw[List.all_eq_true]
  constructor
  ·intro h j ac
   have:l[j]'(by omega)=true:=h _ (List.mem_take_iff_getElem.2 ⟨j,by omega,rfl⟩)
   rw[List.getD_eq_getElem?_getD,List.getElem?_eq_getElem (by omega)];exact this
  ·intro h x hx
   obtain⟨j,ac,rfl⟩:=List.mem_take_iff_getElem.1 hx
   have:=h j (by omega)
   rw[List.getD_eq_getElem?_getD,List.getElem?_eq_getElem (by omega)] at this;exact this
 rw[Bool.and_eq_true,Bool.and_eq_true,Bool.and_eq_true,Bool.and_eq_true,Bool.and_eq_true,ms,ms,decide_eq_true_eq,Bool.or_eq_true,Bool.and_eq_true,decide_eq_true_eq,decide_eq_true_eq,List.all_eq_true]
 constructor
 ·rintro⟨⟨⟨⟨⟨h1,h2⟩,aC⟩,bg⟩,ch⟩,cy⟩
  refine⟨h1,h2,by omega,fun ag=> ?_,(eT _ _ (by omega)).1 ch,fun e=> ?_,fun e=> ?_,fun e=> ?_,fun e=> ?_⟩
  ·rcases bg with bg | bg
   ·exact absurd bg ag
   ·exact⟨bg.1,fun b hb=>by have:=bg.2 b hb;simpa using this⟩
  ·rw[if_pos e,Bool.and_eq_true,ms] at cy;exact cy
  ·rw[if_neg e] at cy;simp only[Bool.and_eq_true,decide_eq_true_eq] at cy;exact cy.1.1
  ·rw[if_neg (by omega)] at cy;simp only[Bool.and_eq_true,decide_eq_true_eq,Bool.or_eq_true,Bool.not_eq_true'] at cy
   rcases cy.1.2 with h | h
   ·exact absurd e h
   ·exact h
  ·rw[if_neg (by omega)] at cy;simp only[Bool.and_eq_true,decide_eq_true_eq,Bool.or_eq_true,Bool.not_eq_true'] at cy
   rcases cy.2 with h | h
   ·exact absurd e h
   ·exact h
 ·intro H
  have az:=H.bc
  have au:=H.len
  refine⟨⟨⟨⟨⟨H.ar,H.len⟩,by omega⟩,?_⟩,(eT _ _ (by omega)).2 H.ae⟩,?_⟩
  ·by_cases bg:h.aF=4
   ·exact .inl bg
   ·exact .inr ⟨(H.still bg).1,fun b hb=>by rw[(H.still bg).2 b hb];rfl⟩
  ·by_cases aC:h.aF=3
   ·rw[if_pos aC,Bool.and_eq_true,ms];exact H.t3 aC
   ·rw[if_neg aC];simp only[Bool.and_eq_true,decide_eq_true_eq,Bool.or_eq_true,Bool.not_eq_true']
    refine⟨⟨H.t aC,?_⟩,?_⟩
    ·by_cases aA:h.aF=0
     ·exact .inr (H.fb aA)
     ·exact .inl aA
    ·by_cases aA:h.aF=2
     ·exact .inr (H.s2 aA)
     ·exact .inl aA
theorem HO {n:Nat} {cB:Int} (h:0<n):q6 n cB (hR n) where
 ar:=⟨show(0:Int)≤0 by decide,show(0:Int)≤4 by decide⟩
 len:=by simp[hR]
 bc:=⟨Int.le_refl _,show(0:Int)<n by omega⟩
 still:=fun _=>⟨rfl,fun b hb=>(List.mem_replicate.1 hb).2⟩
 ae:=fun j ac=>absurd ac (Nat.not_lt_zero _)
 t3:=fun e=>absurd e (show ¬(0:Int)=3 by decide)
 t:=fun _=>rfl
 fb:=fun _=>rfl
 s2:=fun e=>absurd e (show ¬(0:Int)=2 by decide)
theorem Vs {n:Nat} {cB:Int} {s:List Int} {f:Frame} {h:av} (ag:s.length=n) (aA:0<n) (H:q6 n cB h) (bg:h.aF=4):q6 n cB (iI s f h):=by
 subst ag
 have aH:(List.zipWith (fun b x=>b || ey f x) h.ae s).length=s.length:=by rw[List.length_zipWith,H.len];omega
 have az:=H.bc
 have wk:=(L_ (s:=s) (f:=f) (ae:=List.zipWith (fun b x=>b || ey f x) h.ae s) s.length h.bc.toNat (by omega)).2
 have qE: ∀j,h.ae.getD j false=true→(List.zipWith (fun b x=>b || ey f x) h.ae s).getD j false=true:=fun j ac=>by
  have ki:j<h.ae.length:=by
   by_cases ki:j<h.ae.length
   ·exact ki
   ·rw[List.getD_eq_getElem?_getD,List.getElem?_eq_none (by omega)] at ac;cases ac
  have au:=H.len
  rw[List.getD_eq_getElem?_getD,List.getElem?_eq_getElem ki] at ac
  rw[List.getD_eq_getElem?_getD,List.getElem?_eq_getElem (by omega),List.getElem_zipWith]
  have ac:h.ae[j]=true:=ac
  rw[ac];rfl
 unfold iI
 simp only
 split
 ·exact HO aA
 ·rename_i b7
  exact⟨H.ar,aH,⟨Int.natCast_nonneg _,by simp only;omega⟩,fun e=>absurd bg e,by
   simp only[Int.toNat_natCast]
   exact UA _ _ fun j ac=>qE j (H.ae j ac),H.t3,H.t,H.fb,H.s2⟩
theorem ah4 {p:aL} {f:Frame} {i:Nat} {h:av} {n:Nat} (ag:(nth p.O i).ao.length=n) (aA:0<n) (H:q6 n p.cB h):q6 n p.cB (kA p f i h):=by
 by_cases eg:h.aF=0
 ·rw[Cw eg];exact H
 by_cases bg:h.aF=4
 ·rw[RL bg];exact Vs ag aA H bg
 have a6:=H.ar
 cases aj:ey f (nth (nth p.O i).ao 0) with
 | true=>
  rw[ack eg bg aj]
  refine Vs ag aA ⟨⟨show(0:Int)≤4 by decide,show(4:Int)≤4 by decide⟩,H.len,H.bc,fun e=>absurd rfl e,H.ae,fun e=>absurd e (show ¬(4:Int)=3 by decide),fun _=>rfl,fun e=>absurd e (show ¬(4:Int)=0 by decide),fun e=>absurd e (show ¬(4:Int)=2 by decide)⟩ rfl
 | false=>
  by_cases qv:h.aF=1∨h.aF=2
  ·have hs:=H.still bg
   have aO:=H.t (by omega)
   cases ab:hn p f i with
   | true=>
    rw[RN qv aj ab]
    exact⟨⟨show(0:Int)≤2 by decide,show(2:Int)≤4 by decide⟩,H.len,H.bc,fun _=>hs,H.ae,fun e=>absurd e (show ¬(2:Int)=3 by decide),fun _=>aO,fun e=>absurd e (show ¬(2:Int)=0 by decide),fun _=>rfl⟩
   | false=>
    rw[RM qv aj ab]
    exact⟨⟨show(0:Int)≤1 by decide,show(1:Int)≤4 by decide⟩,H.len,H.bc,fun _=>hs,H.ae,fun e=>absurd e (show ¬(1:Int)=3 by decide),fun _=>aO,fun e=>absurd e (show ¬(1:Int)=0 by decide),fun e=>absurd e (show ¬(1:Int)=2 by decide)⟩
  ·rw[RO (fun e=>qv (.inl e)) (fun e=>qv (.inr e)) bg aj];exact H
theorem apQ {p:aL} {f:Frame} {i:Nat} {h:av} (hs:(kA p f i h).aF≠0):h.aF≠0:=fun e=>hs (by rw[Cw e];exact e)
structure r3 (p:aL) (f:Frame):Prop where
 base:x7 p f=true
 jf: ∀x∈f.ay,m5 x=true
 held: ∀i:Int,0≤i→i<f.O.length→q6 (nth p.O i).ao.length p.cB (nth f.O i)
 bG: ∀i k:Int,0≤i→i<f.O.length→0≤k→k<f.O.length→oB p f i k=false
theorem Y1 {p:aL} {f:Frame} (h:kh p f=true):r3 p f∧dV p f=f:=by
 obtain⟨a,b,c,d,e⟩:=DA.1 h
 refine⟨⟨a,b,fun i i0 i1=>Vr.1 (c i i0 i1),d⟩,?_⟩
 have s:=vr p f f.O.length
 have h1:(dV p f).ok=f.ok:=s.1
 have h2:(dV p f).aE=f.aE:=s.2.1
 have aC:(dV p f).ay=f.ay:=s.2.2
 generalize dV p f=g at e h1 h2 aC
 cases g;cases f
 simp only at e h1 h2 aC
 subst e;subst h1;subst h2;subst aC;rfl
theorem S0 {p:aL} {f g:Frame} (au:g.O.length=f.O.length) (hs: ∀i:Int,0≤i→i<f.O.length→(nth g.O i).aF≠0→(nth f.O i).aF≠0)
  (h: ∀i k:Int,0≤i→i<f.O.length→0≤k→k<f.O.length→oB p f i k=false): ∀i k:Int,0≤i→i<g.O.length→0≤k→k<g.O.length→oB p g i k=false:=fun i k i0 i1 a8 c_=>by
 have h1:=h i k i0 (by omega) a8 (by omega)
 cases hb:oB p g i k with
 | false=>rfl
 | true=>
  unfold oB at hb h1
  simp only[Bool.and_eq_true,bne_iff_ne,ne_eq] at hb
  have s1:=hs i i0 (by omega) hb.2.2.1
  have s2:=hs k a8 (by omega) hb.2.2.2
  rw[show(i !=k)=true by simpa using hb.1,hb.2.1,show((nth f.O i).aF !=0)=true by simpa using s1,show((nth f.O k).aF !=0)=true by simpa using s2] at h1
  cases h1
theorem Jo {p:aL} (h:eD p=true) {i:Int} (i0:0≤i) (i1:i<p.O.length):0<(nth p.O i).ao.length:=
 List.length_pos_iff.2 ((w3 h).ao _ (dT (by omega))).1
theorem Zv {p:aL} {f:Frame} (h:r3 p f):kh p (dV p f)=true:=by
 obtain⟨b1,b2,r4,uA,vP⟩:=pz.1 h.base
 have s:=vr p f f.O.length
 have au:(dV p f).O.length=f.O.length:=rJ p f f.O.length
 have h1:(dV p f).ok=f.ok:=s.1
 have h2:(dV p f).aE=f.aE:=s.2.1
 have aC:(dV p f).ay=f.ay:=s.2.2
 refine DA.2 ⟨pz.2 ⟨b1,by rw[h1];exact b2,by rw[h2];exact r4,by rw[aC];exact uA,by rw[au];exact vP⟩,by rw[aC];exact h.jf,fun i i0 i1=> ?_,S0 au (fun i i0 i1 hs=> ?_) h.bG,(anT p f).symm⟩
 ·have VH:i<f.O.length:=by omega
  rw[Vr,aaw i0 VH]
  exact ah4 (by rw[lG i0]) (Jo b1 i0 (by omega)) (h.held i i0 VH)
 ·rw[aaw i0 i1] at hs;exact apQ hs
theorem BC {α:Type} [Inhabited α] {l:List α} {t i:Int} {x:α} (t0:0≤t) (i0:0≤i) (i1:i<l.length):nth (l.set t.toNat x) i=if i=t then x else nth l i:=by
 rw[gX (by rw[List.length_set];omega),gX (show i.toNat<l.length by omega),List.getElem_set]
 by_cases e:i=t
 ·rw[if_pos (by omega),if_pos e]
 ·rw[if_neg (by omega),if_neg e]
theorem JU {p:aL} {ws:List av} {i:Int} (i0:0≤i) (i1:i<ws.length): ∀n:Nat,nth (iP p n ws) i=if i<n then nf p i.toNat (nth ws i) else nth ws i
 | 0=>by rw[if_neg (by omega)];rfl
 | n+1=>by
  show nth ((iP p n ws).set n (nf p n (nth (iP p n ws) n))) i=_
  have au:=FG p ws n
  have e:=BC (l:=iP p n ws) (t:=(n:Int)) (i:=i) (x:=nf p n (nth (iP p n ws) n)) (by omega) i0 (by omega)
  rw[Int.toNat_natCast] at e
  rw[e]
  by_cases ag:i=n
  ·subst ag
   rw[if_pos rfl,if_pos (by omega),JU i0 i1 n,if_neg (by omega),Int.toNat_natCast]
  ·rw[if_neg ag,JU i0 i1 n]
   by_cases hi:i<n
   ·rw[if_pos hi,if_pos (by omega)]
   ·rw[if_neg hi,if_neg (by omega)]
theorem ah5 {p:aL} (h:eD p=true):1≤p.cB∧p.cB≤300:=(w2.1 (BK h).1).2.1
theorem aas: ∀(l:List c9) (q:List bL),(∀x∈l,0≤x.bh∧x.bh<q.length∧(x.bi=1∨x.bi=2))→(∀x∈q,m5 x=true)→ ∀x∈k1 l q,m5 x=true
 | [],q,_,h=>h
 | y::l,q,au,h=>by
  show ∀x∈k1 l (q.set y.bh.toNat ⟨y.bi,(nth q y.bh).bI⟩),m5 x=true
  have aU:=au y (List.mem_cons_self ..)
  refine aas l _ (fun x hx=>by rw[List.length_set];exact au x (List.mem_cons_of_mem _ hx)) fun x hx=> ?_
  rcases List.mem_or_eq_of_mem_set hx with hx | rfl
  ·exact h x hx
  ·have:=h _ (dT (show y.bh.toNat<q.length by omega))
   unfold m5 at this ⊢
   rw[Bool.and_eq_true,ms,ms] at this ⊢
   exact⟨by show 1≤y.bi∧y.bi≤2;omega,this.2⟩
theorem Zx {p:aL} {f:Frame} (h:r3 p f) {ws:List av} (au:ws.length=f.O.length) (hk: ∀i:Int,0≤i→i<f.O.length→q6 (nth p.O i).ao.length p.cB (nth ws i))
  (hs: ∀i:Int,0≤i→i<f.O.length→(nth ws i).aF≠0→(nth f.O i).aF≠0):r3 p {f with O:=ws}:=by
 obtain⟨b1,b2,r4,uA,vP⟩:=pz.1 h.base
 exact⟨pz.2 ⟨b1,b2,r4,uA,by show(ws.length:Nat)=_;omega⟩,h.jf,fun i i0 i1=>hk i i0 (by rw[←au];exact i1),S0 (f:=f) au hs h.bG⟩
theorem Zw {p:aL} {f:Frame} (h:r3 p f) {t:Int} {x:av} (t0:0≤t) (hk:q6 (nth p.O t).ao.length p.cB x) (hs:x.aF≠0→(nth f.O t).aF≠0):r3 p {f with O:=f.O.set t.toNat x}:=by
 refine Zx h (List.length_set ..) (fun i i0 i1=> ?_) fun i i0 i1=> ?_
 ·rw[BC t0 i0 i1]
  split
  ·rename_i e;rw[e];exact hk
  ·exact h.held i i0 i1
 ·rw[BC t0 i0 i1]
  split
  ·rename_i e;rw[e];exact hs
  ·exact _root_.id
theorem I3 {p:aL} {f:Frame} (h:r3 p f) {o:List Bool} {q:List bL} (aj:o.length=f.aE.length) (U:q.length=f.ay.length) (ab: ∀x∈q,m5 x=true):r3 p {f with aE:=o,ay:=q}:=by
 obtain⟨b1,b2,r4,uA,vP⟩:=pz.1 h.base
 exact⟨pz.2 ⟨b1,b2,by show(o.length:Int)=_;rw[aj];exact r4,by show q.length=_;rw[U];exact uA,vP⟩,ab,h.held,h.bG⟩
theorem aav {q:List bL} {k:Nat} {x:bL} (h: ∀x∈q,m5 x=true) (hx:m5 x=true): ∀y∈q.set k x,m5 y=true:=fun y aU=>by
 rcases List.mem_or_eq_of_mem_set aU with aU | rfl
 ·exact h y aU
 ·exact hx
theorem ah3 {n:Nat} {cB:Int} {h:av} (H:q6 n cB h) {x:Int} (bg:h.aF≠4) (hx:x=1) (aC:h.aF≠3):q6 n cB {h with aF:=x}:=by
 subst hx
 exact⟨⟨show(0:Int)≤1 by decide,show(1:Int)≤4 by decide⟩,H.len,H.bc,fun _=>H.still bg,H.ae,fun e=>absurd e (show ¬(1:Int)=3 by decide),fun _=>H.t aC,fun e=>absurd e (show ¬(1:Int)=0 by decide),fun e=>absurd e (show ¬(1:Int)=2 by decide)⟩
theorem am0 {p:aL} {f:Frame} {e:Event} (h:r3 p f) (he:fD p e=true):r3 p (kX p f e):=by
 obtain⟨b1,b2,r4,uA,vP⟩:=pz.1 h.base
 have bZ:=w3 b1
 have dF:=I1 b1
 have aB:=ah5 b1
 unfold kX
 split
 case isFalse=>exact h
 rename_i hc
 unfold jq
 split
 ·rename_i h1
  obtain⟨t0,t1⟩:=s6 he (.inl h1)
  have RP:e.aG<f.O.length:=by omega
  have hw:hd p f e.aG=0:=by unfold fK at hc;rwa [if_pos h1] at hc
  have a6:(nth f.O e.aG).aF=0:=by
   unfold hd at hw
   by_cases aA:(nth f.O e.aG).aF=0
   ·exact aA
   ·rw[if_pos aA] at hw;cases hw
  have aht:(nd p f e.aG).O=[]:=by
   unfold hd at hw
   rw[if_neg (by rw[a6];simp)] at hw
   unfold codeF at hw
   by_cases U:(nd p f e.aG).O=[]
   ·exact U
   ·rw[if_pos U] at hw;cases hw
  have j6:=afO.1 (show eu (mm p f e.aG) p.O.length=[] from aht)
  have hk:=ah3 (x:=1) (h.held e.aG t0 RP) (by omega) rfl (by omega)
  have UK:=I3 h (o:=f.aE) (q:=k1 (bV (nth p.O e.aG)) f.ay) rfl (Fc _ _) (aas _ _ (fun x hx=>by
   have:=(bZ.bI _ (dT (show e.aG.toNat<p.O.length by omega))).2.2 x hx
   exact⟨this.1,by omega,IC b1 (dT (by omega)) hx⟩) h.jf)
  have mo: ∀i:Int,0≤i→i<f.O.length→nth (f.O.set e.aG.toNat {nth f.O e.aG with aF:=1}) i=if i=e.aG then{nth f.O e.aG with aF:=1} else nth f.O i:=fun i i0 i1=>BC t0 i0 i1
  obtain⟨bz,bu,ke,mg,aqZ⟩:=pz.1 UK.base
  have HP: ∀k:Int,0≤k→k<f.O.length→k≠e.aG→mT p e.aG k=true→(nth f.O k).aF≠0→False:=fun k a8 c_ b7 hb hs=>by
   have:=j6 k a8 (by omega)
   unfold mm at this
   rw[show(k !=e.aG)=true by simpa using b7,hb,show((nth f.O k).aF !=0)=true by simpa using hs] at this
   cases this
  refine⟨pz.2 ⟨bz,bu,ke,mg,by show(f.O.set _ _).length=_;rw[List.length_set];exact vP⟩,UK.jf,fun i i0 i1=> ?_,fun i k i0 i1 a8 c_=> ?_⟩
  ·have i1:i<f.O.length:=by
    have i1:i<((f.O.set e.aG.toNat {nth f.O e.aG with aF:=1}).length:Int):=i1
    rw[List.length_set] at i1;exact i1
   show q6 _ _ (nth (f.O.set e.aG.toNat {nth f.O e.aG with aF:=1}) i)
   rw[mo i i0 i1]
   split
   ·rename_i bX;rw[bX];exact hk
   ·exact h.held i i0 i1
  ·have i1:i<f.O.length:=by
    have i1:i<((f.O.set e.aG.toNat {nth f.O e.aG with aF:=1}).length:Int):=i1
    rw[List.length_set] at i1;exact i1
   have c_:k<f.O.length:=by
    have c_:k<((f.O.set e.aG.toNat {nth f.O e.aG with aF:=1}).length:Int):=c_
    rw[List.length_set] at c_;exact c_
   have cB:=h.bG i k i0 i1 a8 c_
   unfold oB at cB ⊢
   show((i !=k)&&(mT p i k&&(((nth (f.O.set e.aG.toNat {nth f.O e.aG with aF:=1}) i).aF !=0)&&((nth (f.O.set e.aG.toNat {nth f.O e.aG with aF:=1}) k).aF !=0))))=false
   rw[mo i i0 i1,mo k a8 c_]
   by_cases GV:i=e.aG
   ·by_cases Ao:k=e.aG
    ·rw[GV,Ao];simp
    ·rw[if_neg Ao]
     cases hb:mT p i k with
     | false=>simp
     | true=>
      cases hs:((nth f.O k).aF !=0) with
      | false=>simp
      | true=>exact(HP k a8 c_ Ao (by rw[←GV];exact hb) (by simpa using hs)).elim
   ·rw[if_neg GV]
    by_cases Ao:k=e.aG
    ·cases hb:mT p i k with
     | false=>simp
     | true=>
      cases hs:((nth f.O i).aF !=0) with
      | false=>simp
      | true=>exact(HP i i0 i1 GV (by rw[←Ao,dF.sym k i a8 (by omega) i0 (by omega)];exact hb) (by simpa using hs)).elim
    ·rw[if_neg Ao];exact cB
 rename_i h1
 split
 ·rename_i h2
  obtain⟨t0,t1⟩:=s6 he (.inr h2)
  have RP:e.aG<f.O.length:=by omega
  have a6: ¬((nth f.O e.aG).aF≠1∧(nth f.O e.aG).aF≠2):=by
   unfold fK at hc
   rw[if_neg h1,if_pos h2] at hc
   intro bt;rw[if_pos bt] at hc;cases hc
  have a6:(nth f.O e.aG).aF=1∨(nth f.O e.aG).aF=2:=by omega
  have H:=h.held e.aG t0 RP
  split
  ·rename_i U
   rw[Bool.and_eq_true] at U
   refine Zw h t0 ⟨⟨show(0:Int)≤3 by decide,show(3:Int)≤4 by decide⟩,H.len,H.bc,fun _=>H.still (by omega),H.ae,fun _=>⟨U.1,aB.1,Int.le_refl _⟩,fun e=>absurd rfl e,fun e=>absurd e (show ¬(3:Int)=0 by decide),fun e=>absurd e (show ¬(3:Int)=2 by decide)⟩ (fun _=>by omega)
  ·exact Zw h t0 (HO (Jo b1 t0 t1)) (fun bt=>absurd rfl bt)
 rename_i h2
 split
 ·exact I3 h (List.length_set ..) rfl h.jf
 rename_i aC
 split
 ·rename_i ch
  obtain⟨t0,t1⟩:=As he (.inl ch)
  rw[G3 ch,Bool.and_eq_true,ms,ms] at he
  refine I3 h rfl (List.length_set ..) (aav h.jf ?_)
  have:=h.jf _ (dT (show e.aG.toNat<f.ay.length by omega))
  unfold m5 at this ⊢
  rw[Bool.and_eq_true,ms,ms] at this ⊢
  exact⟨this.1,he.2⟩
 rename_i ch
 split
 ·rename_i cy
  obtain⟨t0,t1⟩:=As he (.inr cy)
  rw[G4 cy,Bool.and_eq_true,ms,ms] at he
  refine I3 h rfl (List.length_set ..) (aav h.jf ?_)
  have:=h.jf _ (dT (show e.aG.toNat<f.ay.length by omega))
  unfold m5 at this ⊢
  rw[Bool.and_eq_true,ms,ms] at this ⊢
  exact⟨he.2,this.2⟩
 rename_i cy
 split
 ·refine Zx h (FG _ _ _) (fun i i0 i1=> ?_) fun i i0 i1=> ?_
  ·rw[JU i0 i1,if_pos i1]
   have H:=h.held i i0 i1
   unfold nf
   split
   ·rename_i hs
    have aO:=H.t3 hs
    have hw:IntKind.i64.wrap ((nth f.O i).bU - 1)=(nth f.O i).bU - 1:=jH (by omega) (by omega)
    rw[hw]
    split
    ·unfold c7;rw[lG i0];exact HO (Jo b1 i0 (by omega))
    ·exact⟨H.ar,H.len,H.bc,H.still,H.ae,fun _=>⟨aO.1,by simp only;omega,by simp only;omega⟩,fun e=>absurd hs e,H.fb,H.s2⟩
   ·exact H
  ·rw[JU i0 i1,if_pos i1]
   unfold nf
   split
   ·rename_i hs
    split
    ·exact fun bt=>absurd rfl bt
    ·exact _root_.id
   ·exact _root_.id
 ·exact h
theorem adY {p:aL} (h:eD p=true):kh p (cA p)=true:=by
 have hf:=Gs h
 have au:=hf.fr.O
 have e:cA p=⟨true,List.replicate p.ao.toNat false,List.replicate p.a7.length ⟨1,1⟩,p.O.map fun w=>hR w.ao.length⟩:=by unfold cA;rw[if_pos h]
 have hw: ∀i:Int,0≤i→i<(cA p).O.length→nth (cA p).O i=hR (nth p.O i).ao.length:=fun i i0 i1=>by
  rw[gX (by omega),gX (show i.toNat<p.O.length by omega)]
  simp only[e,List.getElem_map]
 have nV:r3 p (cA p):=by
  refine⟨pz.2 ⟨h,by rw[e],hf.fr.aE,hf.fr.ay,au⟩,fun x hx=> ?_,fun i i0 i1=> ?_,fun i k i0 i1 a8 c_=> ?_⟩
  ·rw[e] at hx;rw[(List.mem_replicate.1 hx).2];decide
  ·rw[hw i i0 i1];exact HO (Jo h i0 (by omega))
  ·unfold oB
   rw[hw i i0 i1];simp[hR]
 have hs:dV p (cA p)=cA p:=by
  have s:=vr p (cA p) (cA p).O.length
  have HX:(dV p (cA p)).O=(cA p).O:=by
   apply List.ext_getElem?
   intro j
   unfold dV
   rw[B4]
   cases hx:(cA p).O[j]? with
   | none=>rfl
   | some x=>
    have ac:=(List.getElem?_eq_some_iff.1 hx)
    have yn:=ac.1
    have:=hw j (by omega) (by omega)
    rw[kq ac.1,ac.2] at this
    simp only[Option.map_some,if_pos ac.1]
    rw[Cw (by rw[this];rfl)]
  have h1:(dV p (cA p)).ok=(cA p).ok:=s.1
  have h2:(dV p (cA p)).aE=(cA p).aE:=s.2.1
  have aC:(dV p (cA p)).ay=(cA p).ay:=s.2.2
  generalize dV p (cA p)=g at HX h1 h2 aC
  generalize cA p=b at HX h1 h2 aC
  cases g;cases b
  simp only at HX h1 h2 aC
  subst HX;subst h1;subst h2;subst aC;rfl
 rw[←hs];exact Zv nV
theorem aeR (p:aL) (f:Frame) (e:Event):fK p f e≠1:=by
 unfold fK hd codeF
 repeat' split
 all_goals decide
theorem al_ {p:aL} {f:Frame} {e:Event} (h:kh p f=true):fj.mk (fK p f e) (dV p (kX p f e))=ih p f e:=by
 unfold ih kX
 by_cases hc:fK p f e=0
 ·rw[if_pos hc,if_neg (by rw[hc];simp),hc]
 ·rw[if_neg hc,if_pos hc,(Y1 h).2]
theorem apP {p:aL} {f:Frame} {e:Event} (h:kh p f=true):o9 p f e=(if fD p e=true then ih p f e else⟨1,f⟩)∧kh p (o9 p f e).frame=true:=by
 unfold o9 na
 rw[h,Bool.true_and]
 by_cases he:fD p e=true
 ·simp only[if_pos he]
  rw[if_neg (aeR p f e)]
  exact⟨al_ h,Zv (am0 (Y1 h).1 he)⟩
 ·simp only[if_neg he]
  exact⟨rfl,h⟩
theorem PK {p:aL}: ∀(es:List Event) {f:Frame},kh p f=true→p2 p f es=lN p f es∧nb p f es=kW p f es∧kh p (kW p f es)=true
 | [],f,h=>⟨rfl,rfl,h⟩
 | e::es,f,h=>by
  obtain⟨h1,h2⟩:=apP (e:=e) h
  by_cases he:fD p e=true
  ·rw[if_pos he] at h1
   rw[h1] at h2
   obtain⟨a,b,c⟩:=PK es h2
   refine⟨?_,?_,?_⟩
   ·unfold p2 lN
    rw[if_pos he,h1,a]
   ·unfold nb kW
    rw[if_pos he,h1,b]
   ·unfold kW
    rw[if_pos he];exact c
  ·rw[if_neg he] at h1
   rw[h1] at h2
   obtain⟨a,b,c⟩:=PK es h2
   refine⟨?_,?_,?_⟩
   ·unfold p2 lN
    rw[if_neg he,h1]
    show _::p2 p f es=_
    rw[a]
   ·unfold nb kW
    rw[if_neg he,h1]
    exact b
   ·unfold kW
    rw[if_neg he];exact c
theorem aol (p:aL) (es:List Event):sE p es=xd p es:=by
 unfold sE xd
 by_cases h:eD p=true∧es.length≤1000
 ·rw[if_pos h,if_pos h];exact(PK es (adY h.1)).1
 ·rw[if_neg h,if_neg h]
def aca (h i v:Nat):Int:=if v=0 then 0 else if v=1 then 2 else if v<3+i∧ ¬(i=h∧v=2+h) then 3 else if i<h then 4 else 0
def J8 (h i:Nat) (D:List fj):Prop:= ∀(v:Nat) (d:fj),D[v]?=some d→ ∃w,d.frame.O=[w]∧w.aF=aca h i v
theorem J8.more {h i:Nat} {D:List fj} (k:J8 h i D) {w:av} {c:Int} {o:Bool} {a:List Bool} {b:List bL} {n:Nat} (ag:D.length=n) (hw:w.aF=aca h i n):J8 h i (D++[⟨c,o,a,b,[w]⟩]):=fun v d aY=>by
 rcases Nat.lt_or_ge v D.length with au | au
 ·rw[List.getElem?_append_left au] at aY;exact k v d aY
 ·rw[List.getElem?_append_right au] at aY
  cases hv:v - D.length with
  | zero=>rw[hv] at aY;cases aY;exact⟨w,rfl,by rw[hw,show v=n by omega]⟩
  | succ m=>rw[hv] at aY;simp at aY
def oY (k:Int) (c:lj):Prop:=0≤c.pos∧c.pos+k≤4611686018427387904
def wU (c:lj):lj:=bif decide (c.pos<(c.code.length:Int)) then lj.mk c.code (IntKind.i64.wrap (c.pos+1)) (IntKind.u64.wrap ((IntKind.u64.wrap ((IntKind.u64.wrap (c.E6*6364136223846793005))+(IntKind.u64.wrap (((nth c.code c.pos).toNat:Int)))))+1442695040888963407))
 else lj.mk c.code (IntKind.i64.wrap (c.pos+1)) (IntKind.u64.wrap ((IntKind.u64.wrap (c.E6*6364136223846793005))+1442695040888963407))
def y5 (c:lj):Int:=bif decide (c.pos<(c.code.length:Int)) then IntKind.i64.wrap (((nth c.code c.pos).toNat:Int))
 else IntKind.i64.wrap (IntKind.u64.wrap (((BitVec.ofInt IntKind.u64.bits ((IntKind.u64.wrap ((IntKind.u64.wrap (c.E6*6364136223846793005))+1442695040888963407)).fdiv (2 ^ (min (40:Int).toNat IntKind.u64.bits)))&&&BitVec.ofInt IntKind.u64.bits 255).toNat:Int)))
theorem ap_ {n:Int} (h1:0≤n) (h2:n≤9223372036854775807):IntKind.u64.wrap n=n:=by
 have e:IntKind.u64.wrap n=n%2 ^ 64:=by
  unfold IntKind.wrap
  exact if_neg (fun h=>by simp[IntKind.signed] at h)
 rw[e];omega
theorem YR (c:lj):0≤y5 c∧y5 c≤255:=by
 have key: ∀n:Nat,n≤255→(0≤IntKind.i64.wrap (n:Int)∧IntKind.i64.wrap (n:Int)≤255)∧IntKind.u64.wrap (n:Int)=n:=fun n h=>by
  rw[jH (by omega) (by omega),ap_ (by omega) (by omega)];omega
 unfold y5
 cases decide (c.pos<(c.code.length:Int)) with
 | true=>
  have:=(nth c.code c.pos).toNat_lt
  exact(key _ (by omega)).1
 | false=>
  have hb: ∀x:BitVec IntKind.u64.bits,(x&&&BitVec.ofInt IntKind.u64.bits 255).toNat≤255:=fun x=>by
   rw[BitVec.toNat_and];exact Nat.and_le_right
  simp only[cond_false]
  rw[(key _ (hb _)).2]
  exact(key _ (hb _)).1
theorem amm {c:lj} (h:oY 1 c):(wU c).pos=c.pos+1:=by
 have:IntKind.i64.wrap (c.pos+1)=c.pos+1:=jH (by have:=h.1;omega) (by have:=h.2;omega)
 unfold wU
 cases decide (c.pos<(c.code.length:Int))<;>exact this
theorem oY.mono {k l:Int} {c:lj} (h:oY k c) (au:l≤k):oY l c:=⟨h.1,by have:=h.2;omega⟩
theorem oY.next {k:Int} {c:lj} (h:oY (k+1) c) (hk:0≤k):oY k (wU c):=by
 have:=amm (h.mono (by omega))
 exact⟨by have:=h.1;omega,by have:=h.2;omega⟩
def O7 (n:Int) (c:lj):lj:=if n≤1 then c else bif decide (n>200) then wU (wU c) else wU c
def w1 (n:Int) (c:lj):Int:=if n≤1 then 0 else(bif decide (n>200) then IntKind.i64.wrap (IntKind.i64.wrap (y5 c*256)+y5 (wU c)) else y5 c).tmod n
theorem amV (n:Int) (c:lj):0≤w1 n c∧(1≤n→w1 n c<n):=by
 unfold w1
 split
 ·omega
 ·rename_i ag
  have h1:=YR c
  have h2:=YR (wU c)
  have h: ∀x:Int,0≤x→0≤x.tmod n∧(1≤n→x.tmod n<n):=fun x hx=>by
   rw[Int.tmod_eq_emod_of_nonneg hx]
   exact⟨Int.emod_nonneg _ (by omega),fun _=>Int.emod_lt_of_pos _ (by omega)⟩
  cases decide (n>200) with
  | true=>
   simp only[cond_true]
   refine h _ ?_
   rw[jH (n:=y5 c*256) (by omega) (by omega),jH (by omega) (by omega)];omega
  | false=>exact h _ h1.1
theorem oY.pick {k:Int} {c:lj} {n:Int} (h:oY (k+2) c) (hk:0≤k):oY k (O7 n c):=by
 unfold O7
 split
 ·exact h.mono (by omega)
 ·cases decide (n>200) with
  | true=>exact(oY.next (k:=k+1) (h.mono (by omega)) (by omega)).next hk
  | false=>exact(oY.next (k:=k+1) (h.mono (by omega)) (by omega)).mono (by omega)
structure KA (n:Int) (no:List Int) (x:List Int):Prop where
 ans: ∀y∈x,0≤y∧y<n
 amo:x.Nodup
 out: ∀y∈x,y ∉ no
theorem KA.push {n:Int} {no x:List Int} {c:lj} (ag:1≤n) (h:KA n no x):KA n no (if((!(meets [w1 n c] x))&&(!(meets [w1 n c] no)))=true then x++[w1 n c] else x):=by
 split
 ·rename_i e
  rw[Bool.and_eq_true,Bool.not_eq_true',Bool.not_eq_true',Bt,Bt] at e
  have aN:w1 n c ∉ x:=by simpa using e.1
  have e2:w1 n c ∉ no:=by simpa using e.2
  have ak:=amV n c
  refine⟨fun y aU=> ?_,?_,fun y aU=> ?_⟩
  ·rcases List.mem_append.1 aU with aU | aU
   ·exact h.ans y aU
   ·obtain rfl:=List.mem_singleton.1 aU;exact⟨ak.1,ak.2 ag⟩
  ·rw[List.nodup_append]
   exact⟨h.amo,by simp,fun a aw b hb e=>by obtain rfl:=List.mem_singleton.1 hb;subst e;exact aN aw⟩
  ·rcases List.mem_append.1 aU with aU | aU
   ·exact h.out y aU
   ·obtain rfl:=List.mem_singleton.1 aU;exact e2
 ·exact h
theorem oY.arp {k:Int} {c:lj} {n:Int} {b:Bool} (h:oY (k+2) c) (hk:0≤k):oY k (bif b then O7 n c else c):=by
 cases b with
 | true=>exact h.pick hk
 | false=>exact h.mono (by omega)
structure Ku (bh JK:List Int) (v:Int) (x y:List c9):Prop where
 rx: ∀l∈x,(0≤l.bh∧l.bh<v)∧(1≤l.bi∧l.bi≤2)∧JK.contains (nth bh l.bh)=true
 PL: ∀l∈y,(0≤l.bh∧l.bh<v)∧(1≤l.bi∧l.bi≤2)
 amr:(x.map (·.bh)).Nodup
 amt:(y.map (·.bh)).Nodup
 ams: ∀a∈x,∀b∈y,a.bh≠b.bh
 alX:(x.length:Int)+y.length≤v
theorem Ku.up {bh JK:List Int} {v:Int} {x y:List c9} (h:Ku bh JK v x y):Ku bh JK (v+1) x y:=
 ⟨fun l au=>⟨⟨(h.rx l au).1.1,by have:=(h.rx l au).1.2;omega⟩,(h.rx l au).2⟩,fun l au=>⟨⟨(h.PL l au).1.1,by have:=(h.PL l au).1.2;omega⟩,(h.PL l au).2⟩,h.amr,h.amt,h.ams,by have:=h.alX;omega⟩
structure Ga (ws:List Way) (bs:List (List Bool)) (i k:Int) (r:List Bool):Prop where
 len:r.length=ws.length
 lt: ∀j:Int,0≤j→j<k→j<i→nth r j=nth (nth bs j) i
 gt: ∀j:Int,0≤j→j<k→i<j→meets (nth ws i).ao (nth ws j).ao=true→nth r j=true
theorem Ga.set {ws:List Way} {bs:List (List Bool)} {i k:Int} {r:List Bool} (h:Ga ws bs i k r) (aA:0≤k) (h1:k<ws.length) {b:Bool} (hb:(k<i→b=nth (nth bs k) i)∧(i<k→meets (nth ws i).ao (nth ws k).ao=true→b=true)):Ga ws bs i (k+1) (r.set k.toNat b):=by
 have au:=h.len
 refine⟨by rw[List.length_set];exact h.len,fun j cF fX bd=> ?_,fun j cF fX bd hm=> ?_⟩
 ·rw[BC aA cF (by omega)]
  split
  ·rename_i e;subst e;exact hb.1 bd
  ·exact h.lt j cF (by omega) bd
 ·rw[BC aA cF (by omega)]
  split
  ·rename_i e;subst e;exact hb.2 bd hm
  ·exact h.gt j cF (by omega) bd hm
structure J9 (ws:List Way) (i:Int) (bs:List (List Bool)):Prop where
 len:(bs.length:Int)=i
 row: ∀j:Int,0≤j→j<i→(nth bs j).length=ws.length
 sym: ∀a b:Int,0≤b→b<a→a<i→nth (nth bs a) b=nth (nth bs b) a
 mt: ∀a b:Int,0≤a→a<b→a<i→b<ws.length→meets (nth ws a).ao (nth ws b).ao=true→nth (nth bs a) b=true
theorem YY {α:Type} [Inhabited α] {xs:List α} {x:α} {j:Int} (aA:0≤j):nth (xs++[x]) j=if j<xs.length then nth xs j else if j=xs.length then x else default:=by
 unfold nth
 rw[List.getD_eq_getElem?_getD,List.getD_eq_getElem?_getD]
 split
 ·rw[List.getElem?_append_left (by omega)]
 ·split
  ·rw[List.getElem?_append_right (by omega),show j.toNat - xs.length=0 by omega];rfl
  ·rw[List.getElem?_eq_none (by simp;omega)];rfl
theorem J9.push {ws:List Way} {i:Int} {bs:List (List Bool)} {r:List Bool} (h:J9 ws i bs) (aA:0≤i) (ak:Ga ws bs i ws.length r) (hi:i<ws.length):J9 ws (i+1) (bs++[r]):=by
 have au:=h.len
 have jx: ∀j:Int,0≤j→j<i→nth (bs++[r]) j=nth bs j:=fun j cF fX=>by rw[YY cF,if_pos (by omega)]
 have new:nth (bs++[r]) i=r:=by rw[YY aA,if_neg (by omega),if_pos (by omega)]
 refine⟨by simp;omega,fun j cF fX=> ?_,fun a b b0 SW ad=> ?_,fun a b a0 aq ad S8 hm=> ?_⟩
 ·by_cases e:j=i
  ·subst e;rw[new];exact ak.len
  ·rw[jx j cF (by omega)];exact h.row j cF (by omega)
 ·rw[jx b b0 (by omega)]
  by_cases e:a=i
  ·subst e;rw[new];exact ak.lt b b0 (by omega) SW
  ·rw[jx a (by omega) (by omega)];exact h.sym a b b0 SW (by omega)
 ·by_cases e:a=i
  ·subst e;rw[new];exact ak.gt b (by omega) S8 aq hm
  ·rw[jx a (by omega) (by omega)];exact h.mt a b a0 aq (by omega) S8 hm
def Env.wd (W:World):Env:={w:=W,PA:=fun c=>c<W.heap.size,PF:=fun c=>c<W.heap.size∧Plain W c,m:=fun _=>none,bk:=fun _=>0,sz:=fun _=>0,cp:=fun _=>0,mL:=fun _=>none}
theorem SimH.Nb {E:Env} {H:List Blk} (hs:SimH E H) {c:Nat} (h:E.fW c):Plain E.w c:=by
 obtain⟨b,hb⟩:=h
 obtain⟨_,an,ty,_,_,q,_⟩:=hs.heap b c hb
 exact⟨an,ty,q⟩
theorem ft.wd {E:Env} (aB:SimH E []) (bB: ∀t,E.mL t=none) {a:AV} {v:Value} (h:ft E a v):ft (Env.wd E.w) a v:=by
 have oM: ∀a v,a1 E.w E.PA E.PF a v→a1 E.w (fun c=>c<E.w.heap.size) (fun c=>c<E.w.heap.size∧Plain E.w c) a v:=fun a v k=>k.mono (fun _ _=>rfl) (fun _ _=>rfl) aB.eh (fun c hc=>⟨aB.eh c (aB.dU c hc),aB.ga c hc⟩)
 have hm:=fun b=>aB.fresh b (Nat.zero_le _)
 cases a with
 | ref b g off n full=>
  rcases h with⟨h,_⟩ | ⟨_,h⟩
  ·rw[(hm b).2] at h;cases h
  ·rcases h with⟨h,_⟩ | ⟨c,cap,h,_⟩<;>rw[(hm b).1] at h<;>cases h
 | ptr b g r c=>
  rcases h with⟨h,_⟩ | ⟨_,bl,h,_⟩
  ·rw[(hm b).2] at h;cases h
  ·rw[(hm b).1] at h;cases h
 | fZ t c=>obtain⟨bl,h,_⟩:=h;rw[bB t] at h;cases h
 | _=>exact oM _ _ h
theorem b6.wd {E:Env} (aB:SimH E []) (bB: ∀t,E.mL t=none) {a:AV} {v:Value} (h:b6 E a v):b6 (Env.wd E.w) a v:=by
 by_cases hf: ∃f caps,a= .fn f caps
 ·obtain⟨f,caps,rfl⟩:=hf
  obtain⟨vs,e,ab⟩:=h
  exact⟨vs,e,ab.mono fun _ _ k=>k.wd aB bB⟩
 ·rw[sS fun f c e=>hf ⟨f,c,e⟩] at h ⊢
  exact h.wd aB bB
theorem V2.wd {E:Env} (aB:SimH E []) (bB: ∀t,E.mL t=none) {a:AV} {v:Value} (h:V2 E a v):V2 (Env.wd E.w) a v:=by
 by_cases hf: ∃l,a= .agg l
 ·obtain⟨l,rfl⟩:=hf
  obtain⟨vs,e,ab⟩:=h
  exact⟨vs,e,ab.mono fun _ _ k=>k.wd aB bB⟩
 ·rw[rb fun l e=>hf ⟨l,e⟩] at h ⊢
  exact h.wd aB bB
def Rows (w:World) (A:Option Addr) (sz:Nat) (rows:List (List AV)):Prop:=rows=[]∨ ∃c o,A=some ⟨c,o,none⟩∧c<w.heap.size∧ ∀(i j:Nat) (row:List AV) (a:AV),rows[i]?=some row→row[j]?=some a→ ∃u,w.cell? ⟨c,o+(i*sz+j),none⟩=some u∧b6 (Env.wd w) a u
def cU (f:Nat→Nat):Nat→Nat
 | 0=>0
 | n+1=>cU f n+f n
theorem RX {f:Nat→Nat} {c:Nat}: ∀{n:Nat},(∀i,i<n→f i=c)→cU f n=n*c
 | 0,_=>by simp[cU]
 | n+1,h=>by
  show cU f n+f n=_
  rw[RX fun i hi=>h i (by omega),h n (by omega),Nat.succ_mul]
theorem RY {f:Nat→Nat}: ∀{n k:Nat},k≤n→cU f k≤cU f n
 | 0,k,h=>by obtain rfl:k=0:=by omega
             exact Nat.le_refl _
 | n+1,k,h=>by
  by_cases e:k=n+1
  ·subst e;exact Nat.le_refl _
  ·exact Nat.le_trans (RY (n:=n) (by omega)) (Nat.le_add_right _ _)
inductive e7 (w:World) (S:Nat→Prop):aX→Nat→Value→Prop where
 | int (n:Int):e7 w S .int 1 (.int .i64 n)
 | bool (b:Bool):e7 w S .bool 1 (.bool b)
 | aP {e:aX} {n cap:Nat} {A:Option Addr} {cs:Nat→Nat→Nat} {vs:Nat→Nat→Value} (h1:n≤cap∧n≤4611686018427387904)
   (hc:0<n→ ∃c o an ty,A=some ⟨c,o,none⟩∧S c∧w.heap[c]?=some (.cells an ty (0,0))∧ ∀i j,i<n→j<e.bN.length→an[o+(i*e.bN.length+j)]?=some (vs i j))
   (ak: ∀i j bX,i<n→e.bN[j]?=some bX→e7 w S bX (cs i j) (vs i j)):e7 w S (.l e) (cU (fun i=>cU (cs i) e.bN.length) n) (.slice A n cap)
theorem e7.qJ {w:World} {S:Nat→Prop} {e:aX} {m:Nat} {n:Int} (h:e7 w S e m (.int .i64 n)):e= .int∧m=1:=by cases h;exact⟨rfl,rfl⟩
theorem e7.qm {w:World} {S:Nat→Prop} {e:aX} {m:Nat} {b:Bool} (h:e7 w S e m (.bool b)):e= .bool∧m=1:=by cases h;exact⟨rfl,rfl⟩
theorem e7.of_int {w:World} {S:Nat→Prop} {m:Nat} {v:Value} (h:e7 w S .int m v):m=1∧ ∃n,v= .int .i64 n:=by cases h;exact⟨rfl,_,rfl⟩
theorem e7.of_bool {w:World} {S:Nat→Prop} {m:Nat} {v:Value} (h:e7 w S .bool m v):m=1∧ ∃b,v= .bool b:=by cases h;exact⟨rfl,_,rfl⟩
theorem e7.nE {w:World} {S:Nat→Prop} {e:aX} {m:Nat} {v:Value} (h:e7 w S (.l e) m v): ∃A n cap,v= .slice A n cap:=by cases h;exact⟨_,_,_,rfl⟩
theorem e7.sub {w:World} {S nm:Nat→Prop} {e:aX} {m:Nat} {v:Value} (h:e7 w S e m v) (hs: ∀c,S c→nm c):e7 w nm e m v:=by
 induction h with
 | int n=>exact .int n
 | bool b=>exact .bool b
 | aP h1 hc ak bp=>
  refine .aP h1 (fun ag=> ?_) bp
  obtain⟨c,o,an,ty,q1,q2,q3⟩:=hc ag
  exact⟨c,o,an,ty,q1,hs c q2,q3⟩
def qi (a b:Option Value):Prop:=b=a∨(∃n m,a=some (.int .i64 n)∧b=some (.int .i64 m))∨ ∃x y,a=some (.bool x)∧b=some (.bool y)
theorem qi.trans {a b c:Option Value} (h:qi a b) (k:qi b c):qi a c:=by
 rcases h with rfl | ⟨n,m,rfl,rfl⟩ | ⟨x,y,rfl,rfl⟩
 ·exact k
 ·rcases k with rfl | ⟨kY,fM,h1,rfl⟩ | ⟨x,y,h1,rfl⟩
  ·exact .inr (.inl ⟨_,_,rfl,rfl⟩)
  ·exact .inr (.inl ⟨_,_,rfl,rfl⟩)
  ·cases h1
 ·rcases k with rfl | ⟨kY,fM,h1,rfl⟩ | ⟨mO,aqA,h1,rfl⟩
  ·exact .inr (.inr ⟨_,_,rfl,rfl⟩)
  ·cases h1
  ·exact .inr (.inr ⟨_,_,rfl,rfl⟩)
structure dY (S:Nat→Prop) (w w':World):Prop where
 os:w'.os=w.os
 tape:w'.tape=w.tape
 output:w'.output=w.output
 size:w.heap.size≤w'.heap.size
 other: ∀c,c<w.heap.size→ ¬S c→w'.heap[c]?=w.heap[c]?
 vc: ∀(c:Nat) (an:Array Value) (ty:TypeId),S c→w.heap[c]?=some (.cells an ty (0,0))→ ∃b5:Array Value,w'.heap[c]?=some (.cells b5 ty (0,0))∧b5.size=an.size∧ ∀j:Nat,qi an[j]? b5[j]?
theorem dY.refl (S:Nat→Prop) (w:World):dY S w w:=⟨rfl,rfl,rfl,Nat.le_refl _,fun _ _ _=>rfl,fun c an ty _ h=>⟨an,h,rfl,fun _=> .inl rfl⟩⟩
theorem rn {w:World} {c:Nat} {o:Obj} (h:w.heap[c]?=some o):c<w.heap.size:=by
 rcases Nat.lt_or_ge c w.heap.size with h' | h'
 ·exact h'
 ·simp[Array.getElem?_eq_none h'] at h
theorem dY.trans {S:Nat→Prop} {a b c:World} (h:dY S a b) (k:dY S b c):dY S a c where
 os:=k.os.trans h.os
 tape:=k.tape.trans h.tape
 output:=k.output.trans h.output
 size:=Nat.le_trans h.size k.size
 other:=fun x hx hs=>(k.other x (Nat.lt_of_lt_of_le hx h.size) hs).trans (h.other x hx hs)
 vc:=fun x an ty hs hx=>by
  obtain⟨aeW,q1,q2,q3⟩:=h.vc x an ty hs hx
  obtain⟨Aj,c5,dP,eJ⟩:=k.vc x aeW ty hs q1
  exact⟨Aj,c5,dP.trans q2,fun j=>(q3 j).trans (eJ j)⟩
theorem dY.sub {S nm:Nat→Prop} {w w':World} (h:dY S w w') (hs: ∀c,S c→nm c):dY nm w w' where
 os:=h.os
 tape:=h.tape
 output:=h.output
 size:=h.size
 other:=fun c hc ag=>h.other c hc fun k=>ag (hs c k)
 vc:=fun c an ty hc hx=>by
  by_cases k:S c
  ·exact h.vc c an ty k hx
  ·exact⟨an,(h.other c (rn hx) k).trans hx,rfl,fun _=> .inl rfl⟩
theorem dY.below {S:Nat→Prop} {w w':World} (h:RowKit.Below w.heap.size w w'):dY S w w':=
 ⟨h.os,h.tape,h.output,h.size,fun c hc _=>h.block c hc,fun c an ty _ hx=>⟨an,(h.block c (rn hx)).trans hx,rfl,fun _=> .inl rfl⟩⟩
theorem dY.at {S:Nat→Prop} {w w':World} (h:dY S w w') {c:Nat} {an:Array Value} {ty:TypeId} (hx:w.heap[c]?=some (.cells an ty (0,0))): ∃b5:Array Value,w'.heap[c]?=some (.cells b5 ty (0,0))∧b5.size=an.size∧ ∀j:Nat,qi an[j]? b5[j]?:=by
 by_cases k:S c
 ·exact h.vc c an ty k hx
 ·exact⟨an,(h.other c (rn hx) k).trans hx,rfl,fun _=> .inl rfl⟩
theorem e7.fL {w w':World} {S nm:Nat→Prop} (hw:dY nm w w') {e:aX} {m:Nat} {v:Value} (h:e7 w S e m v):e7 w' S e m v:=by
 induction h with
 | int n=>exact .int n
 | bool b=>exact .bool b
 | @aP e n cap A cs vs h1 hc ak bp=>
  by_cases ag:0<n
  ·obtain⟨c,o,an,ty,cm,dr,bt,hv⟩:=hc ag
   obtain⟨b5,q1,q2,q3⟩:=hw.at bt
   have key: ∀i j,i<n→j<e.bN.length→ ∃u,b5[o+(i*e.bN.length+j)]?=some u:=fun i j hi ac=>by
    rcases q3 (o+(i*e.bN.length+j)) with q | ⟨_,_,_,q⟩ | ⟨_,_,_,q⟩
    ·exact⟨_,q.trans (hv i j hi ac)⟩
    ·exact⟨_,q⟩
    ·exact⟨_,q⟩
   refine .aP (vs:=fun i j=>(b5[o+(i*e.bN.length+j)]?).getD undef) h1 (fun _=>⟨c,o,b5,ty,cm,dr,q1,fun i j hi ac=> ?_⟩) fun i j bX hi ac=> ?_
   ·obtain⟨u,hu⟩:=key i j hi ac
    rw[hu];rfl
   ·have ki:j<e.bN.length:=(List.getElem?_eq_some_iff.1 ac).1
    have hk:=ak i j bX hi ac
    have tp:=hv i j hi ki
    show e7 w' S bX (cs i j) ((b5[o+(i*e.bN.length+j)]?).getD undef)
    rcases q3 (o+(i*e.bN.length+j)) with q | ⟨a,b,jO,oa⟩ | ⟨a,b,jO,oa⟩
    ·rw[q,tp];exact bp i j bX hi ac
    ·rw[tp] at jO
     rw[Option.some.inj jO] at hk
     obtain⟨rfl,hm⟩:=hk.qJ
     rw[oa,hm];exact .int b
    ·rw[tp] at jO
     rw[Option.some.inj jO] at hk
     obtain⟨rfl,hm⟩:=hk.qm
     rw[oa,hm];exact .bool b
  ·exact .aP (vs:=vs) h1 (fun h=>absurd h ag) fun i j bX hi _=>absurd (Nat.lt_of_le_of_lt (Nat.zero_le _) hi) ag
theorem dY.head {S:Nat→Prop} {w w':World} (h:dY S w w') {c o:Nat} {an:Array Value} {ty:TypeId} (hx:w.heap[c]?=some (.cells an ty (0,0))) {A:Option Addr} {n cap:Nat} (hv:an[o]?=some (.slice A n cap)):w'.cell? ⟨c,o,none⟩=some (.slice A n cap):=by
 obtain⟨b5,q1,q2,q3⟩:=h.at hx
 rcases q3 o with q | ⟨a,b,jO,_⟩ | ⟨a,b,jO,_⟩
 ·simp only[World.cell?,q1];rw[q];exact hv
 ·rw[hv] at jO;cases jO
 ·rw[hv] at jO;cases jO
theorem dY.setCell {S:Nat→Prop} {w:World} {c o:Nat} {an:Array Value} {ty:TypeId} {v:Value} (hx:w.heap[c]?=some (.cells an ty (0,0))) (dr:S c) (hv:qi an[o]? (some v)):dY S w (w.setCell ⟨c,o,none⟩ v) where
 os:=rfl
 tape:=rfl
 output:=rfl
 size:=by simp
 other:=fun b _ hs=>RowKit.Below.heap_setCell _ _ _ _ (fun e=>by subst e;exact hs dr)
 vc:=fun b b5 jE hs hb=>by
  by_cases e:b=c
  ·subst e
   rw[hx] at hb
   cases hb
   refine⟨an.setIfInBounds o v,by simp[World.setCell,Array.getElem?_modify,hx],by simp,fun j=> ?_⟩
   rw[Array.getElem?_setIfInBounds]
   by_cases ac:o=j
   ·subst ac
    rw[if_pos rfl]
    split
    ·exact hv
    ·rename_i aQ;rw[Array.getElem?_eq_none (by omega)];exact .inl rfl
   ·rw[if_neg ac];exact .inl rfl
  ·exact⟨b5,by rw[RowKit.Below.heap_setCell _ _ _ _ e];exact hb,rfl,fun _=> .inl rfl⟩
structure lS (w w':World) (c o n:Nat) (val:Nat→Value):Prop where
 os:w'.os=w.os
 tape:w'.tape=w.tape
 output:w'.output=w.output
 size:w'.heap.size=w.heap.size
 other: ∀b,b≠c→w'.heap[b]?=w.heap[b]?
 blk: ∀an ty,w.heap[c]?=some (.cells an ty (0,0))→ ∃b5:Array Value,w'.heap[c]?=some (.cells b5 ty (0,0))∧b5.size=an.size∧ ∀j,j<an.size→b5[j]?=if o≤j∧j<o+n then some (val (j - o)) else an[j]?
theorem lS.refl (w:World) (c o:Nat) (val:Nat→Value):lS w w c o 0 val:=
 ⟨rfl,rfl,rfl,rfl,fun _ _=>rfl,fun an ty h=>⟨an,h,rfl,fun j _=>by rw[if_neg (by omega)]⟩⟩
theorem lS.snoc {w w':World} {c o n:Nat} {val:Nat→Value} (h:lS w w' c o n val) {v:Value} (hv:v=val n):lS w (w'.setCell ⟨c,o+n,none⟩ v) c o (n+1) val where
 os:=h.os
 tape:=h.tape
 output:=h.output
 size:=by rw[←h.size];simp
 other:=fun b hb=>by rw[RowKit.Below.heap_setCell _ _ _ _ hb];exact h.other b hb
 blk:=fun an ty mj=>by
  obtain⟨b5,h1,h2,aC⟩:=h.blk an ty mj
  refine⟨b5.setIfInBounds (o+n) v,?_,by simp[h2],fun j ac=> ?_⟩
  ·simp[World.setCell,Array.getElem?_modify,h1]
  ·rw[Array.getElem?_setIfInBounds]
   by_cases e:o+n=j
   ·subst e
    rw[if_pos rfl,if_pos (by rw[h2];exact ac),if_pos ⟨by omega,by omega⟩,hv]
    simp
   ·rw[if_neg e,aC j ac]
    by_cases bg:o≤j∧j<o+n
    ·rw[if_pos bg,if_pos ⟨bg.1,by omega⟩]
    ·rw[if_neg bg,if_neg (by omega)]
theorem lS.cell {w w':World} {c o n:Nat} {val:Nat→Value} (h:lS w w' c o n val) {an:Array Value} {ty:TypeId} (hw:w.heap[c]?=some (.cells an ty (0,0))) {j:Nat} (ac:j<an.size): ∃u,w'.cell? ⟨c,j,none⟩=some u∧w'.frozen? ⟨c,j,none⟩=false:=by
 obtain⟨b5,h1,h2,aC⟩:=h.blk an ty hw
 have au:j<b5.size:=by omega
 exact⟨b5[j],by simp[World.cell?,h1,au],by simp[World.frozen?,h1]⟩
theorem lS.fL {w w':World} {c o n:Nat} {val:Nat→Value} {S:Nat→Prop} (h:lS w w' c o n val) (dr:S c) (hk: ∀an ty i,w.heap[c]?=some (.cells an ty (0,0))→i<n→qi an[o+i]? (some (val i))):dY S w w' where
 os:=h.os
 tape:=h.tape
 output:=h.output
 size:=by rw[h.size];exact Nat.le_refl _
 other:=fun b _ hs=>h.other b fun e=>by subst e;exact hs dr
 vc:=fun b an ty hs hb=>by
  by_cases e:b=c
  ·subst e
   obtain⟨b5,h1,h2,aC⟩:=h.blk an ty hb
   refine⟨b5,h1,h2,fun j=> ?_⟩
   rcases Nat.lt_or_ge j an.size with ac | ac
   ·rw[aC j ac]
    split
    ·rename_i hi
     have:=hk an ty (j - o) hb (by omega)
     rw[show o+(j - o)=j by omega] at this
     exact this
    ·exact .inl rfl
   ·rw[Array.getElem?_eq_none (xs:=b5) (by omega),Array.getElem?_eq_none (xs:=an) ac];exact .inl rfl
  ·exact⟨an,(h.other b e).trans hb,rfl,fun _=> .inl rfl⟩
theorem lS.Iy {w w':World} {o n:Nat} {val:Nat→Value} {S:Nat→Prop} (h:lS w w' w.heap.size o n val):dY S w w' where
 os:=h.os
 tape:=h.tape
 output:=h.output
 size:=by rw[h.size];exact Nat.le_refl _
 other:=fun b hb _=>h.other b (by omega)
 vc:=fun b an ty _ hb=>⟨an,(h.other b (by have:=rn hb;omega)).trans hb,rfl,fun _=> .inl rfl⟩
def tE (k:Int) (i:Nat):Value:= .int .i64 (k+i)
def Tb (k:Int) (i:Nat):Value:= .bool ((k+i)%3==0)
theorem e7.cells {w:World} {S:Nat→Prop} {e:aX} {m n cap:Nat} {A:Option Addr} (h:e7 w S (.l e) m (.slice A n cap)) (ag:0<n):
  ∃(c o:Nat) (an:Array Value) (ty:TypeId) (cs:Nat→Nat→Nat),A=some ⟨c,o,none⟩∧S c∧w.heap[c]?=some (.cells an ty (0,0))∧m=cU (fun i=>cU (cs i) e.bN.length) n∧(0<e.bN.length→o+n*e.bN.length≤an.size)∧
   ∀i j bX,i<n→e.bN[j]?=some bX→ ∃u,an[o+(i*e.bN.length+j)]?=some u∧e7 w S bX (cs i j) u:=by
 cases h with
 | @aP _ _ _ _ cs vs h1 hc ak=>
  obtain⟨c,o,an,ty,cm,dr,bt,hv⟩:=hc ag
  refine⟨c,o,an,ty,cs,cm,dr,bt,rfl,fun au=> ?_,fun i j bX hi ac=>⟨_,hv i j hi (List.getElem?_eq_some_iff.1 ac).1,ak i j bX hi ac⟩⟩
  have:=hv (n - 1) (e.bN.length - 1) (by omega) (by omega)
  have aQ:=(Array.getElem?_eq_some_iff.1 this).1
  have aN:(n - 1)*e.bN.length+e.bN.length=n*e.bN.length:=by
   rw[←Nat.succ_mul];congr 1;omega
  omega
theorem e7.zero {w:World} {S:Nat→Prop} {e:aX} {m cap:Nat} {A:Option Addr} (h:e7 w S (.l e) m (.slice A 0 cap)):m=0:=by
 cases h;rfl
theorem e7.elem {w:World} {S:Nat→Prop} {e:aX} {m n cap:Nat} {A:Option Addr} (h:e7 w S (.l e) m (.slice A n cap)):
  n≤4611686018427387904∧ ∃(c o:Nat) (cs:Nat→Nat→Nat),(0<n→A=some ⟨c,o,none⟩)∧m=cU (fun i=>cU (cs i) e.bN.length) n∧
   (∀i j bX,i<n→e.bN[j]?=some (.l bX)→ ∃A' kY oC,∀wr,dY S w wr→wr.cell? ⟨c,o+(i*e.bN.length+j),none⟩=some (.slice A' kY oC)∧e7 wr S (.l bX) (cs i j) (.slice A' kY oC))∧
   (∀i j,i<n→e.bN[j]?=some .int→cs i j=1∧ ∀wr,dY S w wr→ ∃u,wr.cell? ⟨c,o+(i*e.bN.length+j),none⟩=some u∧wr.frozen? ⟨c,o+(i*e.bN.length+j),none⟩=false∧ ∀x,dY S w (wr.setCell ⟨c,o+(i*e.bN.length+j),none⟩ (.int .i64 x)))∧
   ∀i j,i<n→e.bN[j]?=some .bool→cs i j=1∧ ∀wr,dY S w wr→ ∃u,wr.cell? ⟨c,o+(i*e.bN.length+j),none⟩=some u∧wr.frozen? ⟨c,o+(i*e.bN.length+j),none⟩=false∧ ∀x,dY S w (wr.setCell ⟨c,o+(i*e.bN.length+j),none⟩ (.bool x)):=by
 refine⟨by cases h with | aP h1=>exact h1.2,?_⟩
 by_cases ag:0<n
 ·obtain⟨c,o,an,ty,cs,cm,dr,bt,hm,_,hv⟩:=h.cells ag
  refine⟨c,o,cs,fun _=>cm,hm,fun i j bX hi ac=> ?_,fun i j hi ac=> ?_,fun i j hi ac=> ?_⟩
  ·obtain⟨u,hu,hk⟩:=hv i j _ hi ac
   obtain⟨A',kY,oC,rfl⟩:=hk.nE
   exact⟨A',kY,oC,fun wr hw=>⟨hw.head bt hu,hk.fL hw⟩⟩
  ·obtain⟨u,hu,hk⟩:=hv i j _ hi ac
   obtain⟨h1,aI,rfl⟩:=hk.of_int
   refine⟨h1,fun wr hw=> ?_⟩
   obtain⟨b5,q1,q2,q3⟩:=hw.at bt
   have U:=q3 (o+(i*e.bN.length+j))
   rw[hu] at U
   have hs: ∃y,b5[o+(i*e.bN.length+j)]?=some (.int .i64 y):=by
    rcases U with q | ⟨_,y,_,q⟩ | ⟨_,_,q,_⟩
    ·exact⟨_,q⟩
    ·exact⟨_,q⟩
    ·cases q
   obtain⟨y,aU⟩:=hs
   exact⟨_,by simp only[World.cell?,q1];exact aU,by simp[World.frozen?,q1],fun x=>hw.trans (dY.setCell q1 dr (by rw[aU];exact .inr (.inl ⟨_,_,rfl,rfl⟩)))⟩
  ·obtain⟨u,hu,hk⟩:=hv i j _ hi ac
   obtain⟨h1,aI,rfl⟩:=hk.of_bool
   refine⟨h1,fun wr hw=> ?_⟩
   obtain⟨b5,q1,q2,q3⟩:=hw.at bt
   have U:=q3 (o+(i*e.bN.length+j))
   rw[hu] at U
   have hs: ∃y,b5[o+(i*e.bN.length+j)]?=some (.bool y):=by
    rcases U with q | ⟨_,_,q,_⟩ | ⟨_,y,_,q⟩
    ·exact⟨_,q⟩
    ·cases q
    ·exact⟨_,q⟩
   obtain⟨y,aU⟩:=hs
   exact⟨_,by simp only[World.cell?,q1];exact aU,by simp[World.frozen?,q1],fun x=>hw.trans (dY.setCell q1 dr (by rw[aU];exact .inr (.inr ⟨_,_,rfl,rfl⟩)))⟩
 ·obtain rfl:n=0:=by omega
  exact⟨0,0,fun _ _=>0,fun h=>absurd h ag,h.zero,fun i j bX hi=>by omega,fun i j hi=>by omega,fun i j hi=>by omega⟩
def zV (P:Program) (f:FuncId) (e:aX):Prop:= ∀(w:World) (S:Nat→Prop) (m:Nat) (v:Value) (k:Int),e7 w S e m v→0≤k→k+m≤4611686018427387904→
 Calls P f #[v,.int .i64 k] w fun fV w'=>fV= .returned (.int .i64 (k+m))∧dY S w w'
theorem ap7 {α:Type} (g:α→Nat): ∀(xs:List α) (f:Nat→Nat),(∀(i:Nat) (x:α),xs[i]?=some x→f i=g x)→cU f xs.length=(xs.map g).sum:=by
 intro xs f h
 have key: ∀(n:Nat),n≤xs.length→cU f n=((xs.take n).map g).sum:=by
  intro n
  induction n with
  | zero=>intro _;simp[cU]
  | succ n bp=>
   intro ag
   show cU f n+f n=_
   rw[List.take_succ_eq_append_getElem (by omega),List.map_append,List.sum_append,bp (by omega),h n _ (List.getElem?_eq_getElem (by omega))]
   simp
 have:=key xs.length (Nat.le_refl _)
 rw[List.take_length] at this
 exact this
theorem Br {w:World} {S PA PF:Nat→Prop} {e:aX} {xs:List e.T} {ee fr:Bool} {v:Value} (J5:e.T→Nat→Nat) (h:a1 w PA PF (.aP (xs.map (cE false e)) ee fr) v) (h1: ∀c,PA c→S c∧Plain w c) (h2: ∀c,PF c→S c∧Plain w c)
  (au: ∀x∈xs,∀(PB:Nat→Prop) j bX a u,(∀c,PB c→S c∧Plain w c)→e.bN[j]?=some bX→(cE false e x)[j]?=some a→a1 w PB (fun _=>False) a u→e7 w S bX (J5 x j) u):
  e7 w S (.l e) (xs.map fun x=>cU (J5 x) e.bN.length).sum v:=by
 cases h with
 | @aP _ _ PB _ _ _ A cap sz vs fx fl gw cn dz hrel=>
  have dF: ∀c,PB c→S c∧Plain w c:=fun c hc=>by
   have:=fx c hc
   split at this
   ·exact h2 c this
   ·exact h1 c this
  have row: ∀i (hi:i<xs.length),(xs.map (cE false e))[i]?=some (cE false e xs[i]):=fun i hi=>by rw[List.getElem?_map,List.getElem?_eq_getElem hi];rfl
  have TH: ∀x:e.T,(cE false e x).length=e.bN.length:=fun x=>by
   rw[←pv]
   have: ∀(es:List aX) (y:cD es),(j5 false es y).length=es.length:=by
    intro es
    induction es with
    | nil=>intro _;rfl
    | cons e r bp=>intro y;show((_:List AV)).length=_;rw[j5,List.length_cons,bp y.2];rfl
   exact this _ _
  rw[←ap7 (fun x=>cU (J5 x) e.bN.length) xs (fun i=>cU (fun j=>match xs[i]? with
   | some x=>J5 x j
   | none=>0) e.bN.length) fun i x hx=>by simp only[hx]]
  rw[List.length_map] at fl dz ⊢
  refine .aP (vs:=vs) fl (fun ag=> ?_) fun i j bX hi ac=> ?_
  ·obtain⟨c,o,q1,q2,q3⟩:=dz ag
   obtain⟨an,ty,ab⟩:=(dF c q2).2
   have aH:sz=e.bN.length:=by rw[←cn 0 _ (row 0 ag),TH]
   subst aH
   refine⟨c,o,an,ty,q1,(dF c q2).1,ab,fun i j hi ac=> ?_⟩
   have:=q3 i j hi ac
   simp only[World.cell?,ab] at this
   simpa using this
  ·have ki:=(List.getElem?_eq_some_iff.1 ac).1
   have aw:(cE false e xs[i])[j]?=some ((cE false e xs[i])[j]'(by rw[TH];exact ki)):=List.getElem?_eq_getElem _
   rw[List.getElem?_eq_getElem hi]
   exact au xs[i] (List.getElem_mem hi) PB j bX _ _ dF ac aw (hrel i j _ _ (row i hi) aw)
theorem FD {α:Type} (c:Nat): ∀xs:List α,(xs.map fun _=>c).sum=xs.length*c
 | []=>by simp
 | x::r=>by rw[List.map_cons,List.sum_cons,FD c r,List.length_cons,Nat.succ_mul];omega
section
variable {w:World} {S PA PF:Nat→Prop} {v:Value} {ee fr:Bool}
theorem Bq {PB:Nat→Prop} {n:Int} {u:Value} (h:a1 w PB (fun _=>False) (.int .i64 n) u):e7 w S .int 1 u:=by cases h;exact .int _
theorem aj9 {PB:Nat→Prop} {n:Bool} {u:Value} (h:a1 w PB (fun _=>False) (.bool n) u):e7 w S .bool 1 u:=by cases h;exact .bool _
theorem IA {xs:List Int} (h:a1 w PA PF (.aP (xs.map cx) ee fr) v) (h1: ∀c,PA c→S c∧Plain w c) (h2: ∀c,PF c→S c∧Plain w c):e7 w S (.l .int) xs.length v:=by
 have:=Br (e:= .int) (fun _ _=>1) h h1 h2 fun x _ PB j bX a u _ ac aw ak=>by
  match j,ac,aw with
  | 0,ac,aw=>cases ac;cases aw;exact Bq ak
 have e:(xs.map fun x=>cU (fun _=>1) (aX.bN .int).length).sum=xs.length:=by
  show(xs.map fun _=>1).sum=_
  rw[FD,Nat.mul_one]
 rw[e] at this;exact this
theorem aj_ {xs:List Bool} (h:a1 w PA PF (.aP (xs.map aR) ee fr) v) (h1: ∀c,PA c→S c∧Plain w c) (h2: ∀c,PF c→S c∧Plain w c):e7 w S (.l .bool) xs.length v:=by
 have:=Br (e:= .bool) (fun _ _=>1) h h1 h2 fun x _ PB j bX a u _ ac aw ak=>by
  match j,ac,aw with
  | 0,ac,aw=>cases ac;cases aw;exact aj9 ak
 have e:(xs.map fun x=>cU (fun _=>1) (aX.bN .bool).length).sum=xs.length:=by
  show(xs.map fun _=>1).sum=_
  rw[FD,Nat.mul_one]
 rw[e] at this;exact this
theorem Xf {xs:List c9} (h:a1 w PA PF (.aP (xs.map dd) ee fr) v) (h1: ∀c,PA c→S c∧Plain w c) (h2: ∀c,PF c→S c∧Plain w c):e7 w S (.l .bi) (xs.length*2) v:=by
 have:=Br (e:= .bi) (fun _ _=>1) h h1 h2 fun x _ PB j bX a u _ ac aw ak=>by
  match j,ac,aw with
  | 0,ac,aw=>cases ac;cases aw;exact Bq ak
  | 1,ac,aw=>cases ac;cases aw;exact Bq ak
 have e:(xs.map fun x=>cU (fun _=>1) (aX.bN .bi).length).sum=xs.length*2:=FD 2 xs
 rw[e] at this;exact this
def y3 (x:Way):Nat:=x.ao.length+x.bI.length*2+x.cR.length*2+x.di.length+x.ek.length
theorem aka {xs:List Way} (h:a1 w PA PF (.aP (xs.map (dj false)) ee fr) v) (h1: ∀c,PA c→S c∧Plain w c) (h2: ∀c,PF c→S c∧Plain w c):e7 w S (.l .e6) (xs.map y3).sum v:=by
 have:=Br (e:= .e6) (fun x j=>[x.ao.length,x.bI.length*2,x.cR.length*2,x.di.length,x.ek.length].getD j 0) h h1 h2 fun x _ PB j bX a u dF ac aw ak=>by
  match j,ac,aw with
  | 0,ac,aw=>cases ac;cases aw;exact IA ak dF (fun _ h=>h.elim)
  | 1,ac,aw=>cases ac;cases aw;exact Xf ak dF (fun _ h=>h.elim)
  | 2,ac,aw=>cases ac;cases aw;exact Xf ak dF (fun _ h=>h.elim)
  | 3,ac,aw=>cases ac;cases aw;exact IA ak dF (fun _ h=>h.elim)
  | 4,ac,aw=>cases ac;cases aw;exact IA ak dF (fun _ h=>h.elim)
 have e:(xs.map fun x:Way=>cU (fun j=>[x.ao.length,x.bI.length*2,x.cR.length*2,x.di.length,x.ek.length].getD j 0) (aX.bN .e6).length).sum=(xs.map y3).sum:=by
  congr 1
  refine List.map_congr_left fun x _=> ?_
  show 0+x.ao.length+x.bI.length*2+x.cR.length*2+x.di.length+x.ek.length=y3 x
  unfold y3;omega
 rw[e] at this;exact this
theorem aj8 {xs:List (List Bool)} (h:a1 w PA PF (.aP (xs.map (hq aR false)) ee fr) v) (h1: ∀c,PA c→S c∧Plain w c) (h2: ∀c,PF c→S c∧Plain w c):e7 w S (.l (.l .bool)) (xs.map List.length).sum v:=by
 have:=Br (e:= .l .bool) (fun x j=>x.length) h h1 h2 fun x _ PB j bX a u dF ac aw ak=>by
  match j,ac,aw with
  | 0,ac,aw=>cases ac;cases aw;exact aj_ ak dF (fun _ h=>h.elim)
 have e:(xs.map fun x:List Bool=>cU (fun j=>x.length) (aX.bN (.l .bool)).length).sum=(xs.map List.length).sum:=by
  congr 1
  refine List.map_congr_left fun x _=> ?_
  show 0+x.length=_
  omega
 rw[e] at this;exact this
end
def Env.ro (w:World) (B:Nat→Prop):Env:={w:=w,PA:=B,PF:=fun _=>False,m:=fun _=>none,bk:=fun _=>0,sz:=fun _=>0,cp:=fun _=>0,mL:=fun _=>none}
def ep (w:World) (B:Nat→Prop) (a:AV) (v:Value):Prop:=V2 (Env.ro w B) a v
theorem ep.cT {w w':World} {B B':Nat→Prop} {a:AV} {v:Value} (h:ep w B a v) (hk: ∀c,B c→w'.heap[c]?=w.heap[c]?) (hs: ∀c,B c→B' c):ep w' B' a v:=
 V2.le (E:=Env.ro w B) (E':=Env.ro w' B') ⟨hs,fun _ h=>h.elim,hk,fun _ h=>h.elim,fun _=>Nat.le_refl _,(fun _ _ h _=>by cases h),(fun _ _ h=>by cases h)⟩ h
theorem ep.at {w:World} {B:Nat→Prop} {a:AV} {v:Value} (h:ep w B a v) (au: ∀c,B c→c<w.heap.size):V2 (Env.at w) a v:=ep.cT (B':=fun c=>c<w.heap.size) h (fun _ _=>rfl) au
def ec (w w':World) (c:Nat):Prop:=w.heap.size≤c∧c<w'.heap.size∧Plain w' c
def G0 (e:aX) (x:e.T):AV:=match e.isS with
 | true=> .agg (cE false e x)
 | false=>kM false e x
theorem a1.kd {w:World} {PA PF B:Nat→Prop} (ab: ∀c,PF c→B c) (aw: ∀c,PA c→B c) {e:aX} {x:e.T} {v:Value} (h:a1 w PA PF (kM true e x) v):a1 w B (fun _=>False) (kM false e x) v:=by
 cases e with
 | l e=>
  cases h with
  | aP fx fl gw cn dz hrel=>exact .aP (fun c hc=>ab c (by simpa using fx c hc)) fl gw cn dz hrel
 | int=>cases h;exact .int _ _
 | u64=>cases h;exact .int _ _
 | u8=>cases h;exact .int _ _
 | bool=>cases h;exact .bool _
 | str=>cases h;exact .str _
 | _=>exact .undef _
theorem R1 {w:World} {PA PF B:Nat→Prop} (ab: ∀c,PF c→B c) (aw: ∀c,PA c→B c): ∀{es:List aX} {x:cD es} {vs:List Value},ah (fun a v=>a1 w PA PF a v) (j5 true es x) vs→ah (b6 (Env.ro w B)) (j5 false es x) vs
 | [],_,vs,h=>by obtain rfl:=h.pT;exact ah.nil
 | e::r,x,vs,h=>by
  obtain⟨v,vs,rfl,h1,h2⟩:=h.cons_inv
  exact ah.cons (a1.v1 (E:=Env.ro w B) (a1.kd ab aw h1)) (R1 ab aw h2)
theorem R5 {E:Env} {fr:Bool} {e:aX} {x:e.T} {v:Value} (h:b6 E (kM fr e x) v):a1 E.w E.PA E.PF (kM fr e x) v:=by
 cases e<;>exact h
theorem J0 {E:Env} {fr:Bool}: ∀{es:List aX} {x:cD es} {vs:List Value},ah (b6 E) (j5 fr es x) vs→ah (fun a v=>a1 E.w E.PA E.PF a v) (j5 fr es x) vs
 | [],_,vs,h=>by obtain rfl:=h.pT;exact ah.nil
 | e::r,x,vs,h=>by
  obtain⟨v,vs,rfl,h1,h2⟩:=h.cons_inv
  exact ah.cons (R5 h1) (J0 h2)
theorem a1.YS {w:World} {PA PF B:Nat→Prop} (aw: ∀c,PA c→B c) {e:aX} {x:e.T} {v:Value} (h:a1 w PA PF (kM false e x) v):a1 w B (fun _=>False) (kM false e x) v:=by
 cases e with
 | l e=>
  cases h with
  | aP fx fl gw cn dz hrel=>exact .aP (fun c hc=>aw c (by simpa using fx c hc)) fl gw cn dz hrel
 | int=>cases h;exact .int _ _
 | u64=>cases h;exact .int _ _
 | u8=>cases h;exact .int _ _
 | bool=>cases h;exact .bool _
 | str=>cases h;exact .str _
 | _=>exact .undef _
theorem YT {w:World} {PA PF B:Nat→Prop} (aw: ∀c,PA c→B c): ∀{es:List aX} {x:cD es} {vs:List Value},ah (fun a v=>a1 w PA PF a v) (j5 false es x) vs→ah (b6 (Env.ro w B)) (j5 false es x) vs
 | [],_,vs,h=>by obtain rfl:=h.pT;exact ah.nil
 | e::r,x,vs,h=>by
  obtain⟨v,vs,rfl,h1,h2⟩:=h.cons_inv
  exact ah.cons (a1.v1 (E:=Env.ro w B) (a1.YS aw h1)) (YT aw h2)
theorem aqs {e:aX} {x:e.T} {w:World} {v:Value} (h:V2 (Env.wd w) (.agg (cE false e x)) v):ep w (fun c=>c<w.heap.size) (.agg (cE false e x)) v:=by
 obtain⟨eX,rfl,ab⟩:=(show ∃eX:List Value,v= .agg eX.toArray∧ah (b6 _) (cE false e x) eX from h)
 refine⟨eX,rfl,?_⟩
 rw[←pv] at ab ⊢
 exact YT (fun _ h=>h) (J0 ab)
theorem bn.CA {P:Program} {f:FuncId} {args:List AV} {e:aX} {x:e.T} (h:bn P f args (px e x)) {w:World} {vs:List Value} (aw:ah (V2 (Env.at w)) args vs):
  Calls P f vs.toArray w fun fV w'=> ∃v,fV= .returned v∧RowKit.Below w.heap.size w w'∧ep w' (ec w w') (G0 e x) v:=by
 refine(h.2 (Env.at w) vs (fun _=>rfl) (Gn w) aw).mono ?_
 rintro fV w' ⟨r,v,H',E',rfl,ak,rfl,ag,hs,hv,a6⟩
 have hb:RowKit.Below w.heap.size w E'.w:=⟨a6.os,a6.tape,a6.output,a6.size,fun k hk=>a6.cT k hk (fun⟨b,hb⟩=>by cases hb) (fun⟨b,hb⟩=>by cases hb)⟩
 have iY: ∀c,E'.PF c∨E'.fW c→ec w E'.w c:=fun c hc=>by
  rcases hc with hc | hc
  ·exact⟨(a6.fS c hc).elim (fun h=>h.elim) id,hs.eh c (hs.dU c hc),hs.ga c hc⟩
  ·exact⟨(a6.qH c hc).elim (fun⟨b,hb⟩=>by cases hb) id,hs.gi c hc,hs.Nb hc⟩
 have l0:V3 {Env.ro E'.w (ec w E'.w) with PF:=ec w E'.w} (px e x) v:=P7 (E':={Env.ro E'.w (ec w E'.w) with PF:=ec w E'.w}) hs rfl (fun c hc=>⟨iY c hc,iY c hc⟩) ak hv
 refine⟨v,rfl,hb,?_⟩
 unfold G0
 unfold px at l0
 cases dr:e.isS with
 | true=>
  rw[dr] at l0
  obtain⟨eX,rfl,ab⟩:=(show ∃eX:List Value,v= .agg eX.toArray∧ah (b6 _) (cE true e x) eX from l0)
  refine⟨eX,rfl,?_⟩
  rw[←pv] at ab ⊢
  exact R1 (fun _ h=>h) (fun _ h=>h) (J0 ab)
 | false=>
  rw[dr] at l0
  have l0:V3 {Env.ro E'.w (ec w E'.w) with PF:=ec w E'.w} (kM true e x) v:=l0
  have h1:b6 {Env.ro E'.w (ec w E'.w) with PF:=ec w E'.w} (kM true e x) v:=by cases e<;>first | exact l0 | cases dr
  have:=a1.kd (B:=ec w E'.w) (fun _ h=>h) (fun _ h=>h) (R5 h1)
  exact mS (a1.v1 (E:=Env.ro E'.w (ec w E'.w)) this)
theorem bn.int {P:Program} {f:FuncId} {args:List AV} {n:Int} (h:bn P f args (.int .i64 n)) {w:World} {vs:List Value} (aw:ah (V2 (Env.at w)) args vs):
  Calls P f vs.toArray w fun fV w'=>fV= .returned (.int .i64 n)∧RowKit.Below w.heap.size w w':=
 (bn.CA (e:= .int) (x:=n) h aw).mono fun fV w' ⟨v,h1,h2,aC⟩=>by
  have aC:a1 w' _ _ (.int .i64 n) v:=aC
  cases aC;exact⟨h1,h2⟩
theorem bn.bool {P:Program} {f:FuncId} {args:List AV} {b:Bool} (h:bn P f args (.bool b)) {w:World} {vs:List Value} (aw:ah (V2 (Env.at w)) args vs):
  Calls P f vs.toArray w fun fV w'=>fV= .returned (.bool b)∧RowKit.Below w.heap.size w w':=
 (bn.CA (e:= .bool) (x:=b) h aw).mono fun fV w' ⟨v,h1,h2,aC⟩=>by
  have aC:a1 w' _ _ (.bool b) v:=aC
  cases aC;exact⟨h1,h2⟩
theorem vB {w:World} {B:Nat→Prop} {rows:List (List AV)} {v:Value} (h:ep w B (.aP rows false false) v): ∃A cap,v= .slice A rows.length cap∧a1 w B (fun _=>False) (.aP rows false false) v:=by
 have h:a1 w B (fun _=>False) (.aP rows false false) v:=h
 cases h with
 | aP fx fl gw cn dz hrel=>exact⟨_,_,rfl,.aP fx fl gw cn dz hrel⟩
structure dE where
 lo:Nat
 hi:Nat
 P:World→Prop
 ar: ∀w w':World,(∀c,lo≤c→c<hi→w'.heap[c]?=w.heap[c]?)→P w→P w'
structure cI (W w:World) (l:List dE):Prop where
 os:w.os=W.os
 tape:w.tape=W.tape
 output:w.output=W.output
 size:W.heap.size≤w.heap.size
 jx: ∀c,c<W.heap.size→w.heap[c]?=W.heap[c]?
 ord:l.Pairwise fun a b=>a.hi≤b.lo
 all: ∀i∈l,i.hi≤w.heap.size∧i.P w
theorem cI.get {W w:World} {l:List dE} (h:cI W w l) (j:Nat) {i:dE} (e:l[j]?=some i:=by rfl):i.P w:=(h.all i (List.mem_of_getElem? e)).2
theorem cI.hi {W w:World} {l:List dE} (h:cI W w l) (j:Nat) {i:dE} (e:l[j]?=some i:=by rfl):i.hi≤w.heap.size:=(h.all i (List.mem_of_getElem? e)).1
theorem cI.below {W w w':World} {l:List dE} (h:cI W w l) (hb:RowKit.Below w.heap.size w w'):cI W w' l where
 os:=hb.os.trans h.os
 tape:=hb.tape.trans h.tape
 output:=hb.output.trans h.output
 size:=Nat.le_trans h.size hb.size
 jx:=fun c hc=>(hb.block c (Nat.lt_of_lt_of_le hc h.size)).trans (h.jx c hc)
 ord:=h.ord
 all:=fun i hi=>⟨Nat.le_trans (h.all i hi).1 hb.size,i.ar w w' (fun c _ hc=>hb.block c (Nat.lt_of_lt_of_le hc (h.all i hi).1)) (h.all i hi).2⟩
theorem cI.drewN {W w:World} {l:List dE} (h:cI W w l):cI W w.drew l:=h.below ⟨rfl,rfl,rfl,Nat.le_refl _,fun _ _=>rfl⟩
theorem cI.add {W w:World} {l:List dE} (h:cI W w l) (i:dE) (h1:i.hi≤w.heap.size) (h2:i.P w) (aC: ∀j∈l,j.hi≤i.lo):cI W w (l++[i]):=
 {h with
  ord:=List.pairwise_append.2 ⟨h.ord,List.pairwise_singleton _ _,fun a aw b hb=>by rw[List.mem_singleton.1 hb];exact aC a aw⟩
  all:=fun j ac=>by
   rcases List.mem_append.1 ac with ac | ac
   ·exact h.all j ac
   ·rw[List.mem_singleton.1 ac];exact⟨h1,h2⟩}
theorem cI.made {W w w':World} {l:List dE} (h:cI W w l) (hb:RowKit.Below w.heap.size w w') (i:dE) (aA:i.lo=w.heap.size) (h1:i.hi=w'.heap.size) (h2:i.P w'):cI W w' (l++[i]):=
 (h.below hb).add i (Nat.le_of_eq h1) h2 fun j ac=>by rw[aA];exact(h.all j ac).1
def pJ (b:Nat) (an:Array Value) (ty:TypeId):dE where
 lo:=b
 hi:=b+1
 P:=fun w=>w.heap[b]?=some (.cells an ty (0,0))
 ar:=fun w w' h ab=>(h b (Nat.le_refl _) (Nat.lt_succ_self _)).trans ab
theorem cI.box {W w:World} {l:List dE} (h:cI W w l) (an:Array Value) (ty:TypeId):cI W (w.alloc (.cells an ty (0,0))) (l++[pJ w.heap.size an ty]):=
 h.made ((RowKit.Below.refl _ _).alloc (Nat.le_refl _) _) (pJ w.heap.size an ty) rfl (by simp[pJ]) (vO _ _)
def qG (n:Nat) (a:AV) (v:Value):dE where
 lo:=0
 hi:=n
 P:=fun w=>ep w (fun c=>c<n) a v
 ar:=fun w w' h ab=>ab.cT (fun c hc=>h c (Nat.zero_le _) hc) (fun _ h=>h)
def k8 (n:Nat) (a:AV) (v:Value) (b:AV) (u:Value):dE where
 lo:=0
 hi:=n
 P:=fun w=>ep w (fun c=>c<n) a v∧ep w (fun c=>c<n) b u
 ar:=fun w w' h ab=>⟨ab.1.cT (fun c hc=>h c (Nat.zero_le _) hc) (fun _ h=>h),ab.2.cT (fun c hc=>h c (Nat.zero_le _) hc) (fun _ h=>h)⟩
def jX (w:World) (lo hi c:Nat):Prop:=lo≤c∧c<hi∧Plain w c
def gl (lo hi:Nat) (a:AV) (v:Value):dE where
 lo:=lo
 hi:=hi
 P:=fun w=>ep w (jX w lo hi) a v
 ar:=fun w w' h ab=>ab.cT (fun c hc=>h c hc.1 hc.2.1) fun c hc=>⟨hc.1,hc.2.1,hc.2.2.same (h c hc.1 hc.2.1)⟩
theorem cI.EM {W w w':World} {l:List dE} {a:AV} {v:Value} (h:cI W w l) (hb:RowKit.Below w.heap.size w w') (aO:ep w' (ec w w') a v):cI W w' (l++[gl w.heap.size w'.heap.size a v]):=
 h.made hb (gl w.heap.size w'.heap.size a v) rfl rfl aO
def VI (lo hi:Nat):dE:=⟨lo,hi,fun _=>True,fun _ _ _ _=>trivial⟩
theorem gl.at {W w:World} {l:List dE} (h:cI W w l) (j:Nat) {lo hi:Nat} {a:AV} {v:Value} (e:l[j]?=some (gl lo hi a v):=by rfl):V2 (Env.at w) a v:=
 (h.get j e).at fun c hc=>Nat.lt_of_lt_of_le hc.2.1 (h.hi j e)
theorem qG.at {W w:World} {l:List dE} (h:cI W w l) (j:Nat) {n:Nat} {a:AV} {v:Value} (e:l[j]?=some (qG n a v):=by rfl):V2 (Env.at w) a v:=
 (h.get j e).at fun c hc=>Nat.lt_of_lt_of_le hc (h.hi j e)
theorem k8.at {W w:World} {l:List dE} (h:cI W w l) (j:Nat) {n:Nat} {a b:AV} {v u:Value} (e:l[j]?=some (k8 n a v b u):=by rfl):V2 (Env.at w) a v∧V2 (Env.at w) b u:=
 ⟨(h.get j e).1.at fun c hc=>Nat.lt_of_lt_of_le hc (h.hi j e),(h.get j e).2.at fun c hc=>Nat.lt_of_lt_of_le hc (h.hi j e)⟩
theorem cI.mark {W w w':World} {l:List dE} (h:cI W w l) (j:Nat) (i:dE) (e:l[j]?=some i) (ac:W.heap.size≤i.lo) {S:Nat→Prop} (dr: ∀c,S c→i.lo≤c∧c<i.hi) (hk:dY S w w') (e4:dE) (au:e4.lo=i.lo) (bt:e4.hi=i.hi) (ab:e4.P w'):cI W w' (l.set j e4):=by
 have ki:=(List.getElem?_eq_some_iff.1 e).1
 have Hx:l[j]=i:=(List.getElem?_eq_some_iff.1 e).2
 refine⟨hk.os.trans h.os,hk.tape.trans h.tape,hk.output.trans h.output,Nat.le_trans h.size hk.size,fun c hc=>(hk.other c (Nat.lt_of_lt_of_le hc h.size) fun hs=>by have:=(dr c hs).1;omega).trans (h.jx c hc),?_,?_⟩
 ·rw[List.pairwise_iff_getElem]
  have aj:=List.pairwise_iff_getElem.1 h.ord
  intro a b aw hb ahe
  simp only[List.length_set] at aw hb
  have:=aj a b aw hb ahe
  rw[List.getElem_set,List.getElem_set]
  by_cases aN:j=a
  ·subst aN
   rw[if_pos rfl,if_neg (by omega),bt,←Hx];exact this
  ·rw[if_neg aN]
   by_cases e2:j=b
   ·subst e2
    rw[if_pos rfl,au,←Hx];exact this
   ·rw[if_neg e2];exact this
 ·intro q U
  obtain⟨a,aw⟩:=List.mem_iff_getElem?.1 U
  rw[List.getElem?_set] at aw
  by_cases aN:j=a
  ·subst aN
   rw[if_pos rfl,if_pos ki] at aw
   cases aw
   exact⟨by rw[bt];exact Nat.le_trans (h.all i (List.mem_of_getElem? e)).1 hk.size,ab⟩
  ·rw[if_neg aN] at aw
   have hm:=List.mem_of_getElem? aw
   refine⟨Nat.le_trans (h.all q hm).1 hk.size,q.ar w w' (fun c bz bu=>hk.other c (Nat.lt_of_lt_of_le bu (h.all q hm).1) fun hs=> ?_) (h.all q hm).2⟩
   have aj:=List.pairwise_iff_getElem.1 h.ord
   have AE:=(List.getElem?_eq_some_iff.1 aw).1
   have UO:l[a]=q:=(List.getElem?_eq_some_iff.1 aw).2
   have h1:=dr c hs
   rcases Nat.lt_or_gt_of_ne aN with aQ | pE
   ·have:=aj j a ki AE aQ
    rw[Hx,UO] at this;omega
   ·have:=aj a j AE ki pE
    rw[Hx,UO] at this;omega
theorem cI.after {W w:World} {l:List dE} (h:cI W w l) (i j:Nat) {a b:dE} (aw:l[i]?=some a) (hb:l[j]?=some b) (nY:i<j):a.hi≤b.lo:=by
 have h1:=(List.getElem?_eq_some_iff.1 aw).1
 have h2:=(List.getElem?_eq_some_iff.1 hb).1
 have:=List.pairwise_iff_getElem.1 h.ord i j h1 h2 nY
 rw[(List.getElem?_eq_some_iff.1 aw).2,(List.getElem?_eq_some_iff.1 hb).2] at this
 exact this
theorem cI.told {W w:World} {l:List dE} (h:cI W w l) (j:Nat) {lo hi:Nat} {a:AV} {v:Value} (e:l[j]?=some (gl lo hi a v)):ep w (jX w lo hi) a v:=h.get j e
theorem cI.forget {W w w':World} {l:List dE} (h:cI W w l) (j:Nat) {lo hi:Nat} {a:AV} {v:Value} (e:l[j]?=some (gl lo hi a v)) (ac:W.heap.size≤lo) (hk:dY (jX w lo hi) w w'):cI W w' (l.set j (VI lo hi)):=
 h.mark j (gl lo hi a v) e ac (fun c hc=>⟨hc.1,hc.2.1⟩) hk (VI lo hi) rfl rfl trivial
theorem dY.pl {w w':World} {lo hi:Nat} (hk:dY (jX w lo hi) w w'): ∀c,jX w lo hi c→jX w' lo hi c:=fun c hc=>by
 obtain⟨an,ty,hx⟩:=hc.2.2
 obtain⟨b5,h1,_⟩:=hk.at hx
 exact⟨hc.1,hc.2.1,b5,ty,h1⟩
theorem cI.end {W w:World} {l:List dE} (h:cI W w l):RowKit.Below W.heap.size W w:=⟨h.os,h.tape,h.output,h.size,h.jx⟩
theorem cI.start (W:World):cI W W []:=⟨rfl,rfl,rfl,Nat.le_refl _,fun _ _=>rfl,List.Pairwise.nil,fun i h=>by cases h⟩
def wz (lo hi b:Nat) (an:Array Value) (ty:TypeId) (a:AV) (v:Value):dE where
 lo:=lo
 hi:=hi
 P:=fun w=>lo≤b∧b<hi∧w.heap[b]?=some (.cells an ty (0,0))∧ep w (fun c=>jX w lo hi c∧c≠b) a v
 ar:=fun w w' h ab=>⟨ab.1,ab.2.1,(h b ab.1 ab.2.1).trans ab.2.2.1,ab.2.2.2.cT (fun c hc=>h c hc.1.1 hc.1.2.1) fun c hc=>⟨⟨hc.1.1,hc.1.2.1,hc.1.2.2.same (h c hc.1.1 hc.1.2.1)⟩,hc.2⟩⟩
theorem cI.fo {W w w':World} {l:List dE} (h:cI W w l) (hb:RowKit.Below w.heap.size w w') (b:Nat) {an:Array Value} {ty:TypeId} {a:AV} {v:Value} (h1:w.heap.size≤b) (h2:b<w'.heap.size) (hc:w'.heap[b]?=some (.cells an ty (0,0))) (aO:ep w' (fun c=>jX w' w.heap.size w'.heap.size c∧c≠b) a v):cI W w' (l++[wz w.heap.size w'.heap.size b an ty a v]):=
 h.made hb (wz w.heap.size w'.heap.size b an ty a v) rfl rfl ⟨h1,h2,hc,aO⟩
theorem wz.at {W w:World} {l:List dE} (h:cI W w l) (j:Nat) {lo hi b:Nat} {an:Array Value} {ty:TypeId} {a:AV} {v:Value} (e:l[j]?=some (wz lo hi b an ty a v):=by rfl):V2 (Env.at w) a v:=
 (h.get j e).2.2.2.at fun c hc=>Nat.lt_of_lt_of_le hc.1.2.1 (h.hi j e)
theorem wz.box {W w:World} {l:List dE} (h:cI W w l) (j:Nat) {lo hi b:Nat} {an:Array Value} {ty:TypeId} {a:AV} {v:Value} (e:l[j]?=some (wz lo hi b an ty a v)):w.heap[b]?=some (.cells an ty (0,0)):=(h.get j e).2.2.1
theorem wz.lt {W w:World} {l:List dE} (h:cI W w l) (j:Nat) {lo hi b:Nat} {an:Array Value} {ty:TypeId} {a:AV} {v:Value} (e:l[j]?=some (wz lo hi b an ty a v)):b<w.heap.size:=Nat.lt_of_lt_of_le (h.get j e).2.1 (h.hi j e)
theorem YP {w w':World} {an:Array Value} {ty:TypeId} (hb:RowKit.Below (w.alloc (.cells an ty (0,0))).heap.size (w.alloc (.cells an ty (0,0))) w'):w'.heap[w.heap.size]?=some (.cells an ty (0,0)):=
 (hb.block _ (by rw[World.size_alloc];exact Nat.lt_succ_self _)).trans (vO _ _)
theorem ep.fo {aS w w':World} {lo b:Nat} {a:AV} {v:Value} (h:ep w (ec aS w) a v) (pG:lo≤aS.heap.size) (hs:w.heap.size≤w'.heap.size) (hb:aS.heap.size≤b→w.heap.size≤b) (hk: ∀c,c<w.heap.size→c≠b→w'.heap[c]?=w.heap[c]?):ep w' (fun c=>jX w' lo w'.heap.size c∧c≠b) a v:=by
 have b7: ∀c,ec aS w c→c≠b:=fun c hc e=>by
  subst e
  have h1:=hc.1
  have h2:=hc.2.1
  have:=hb h1
  omega
 refine h.cT (fun c hc=>hk c hc.2.1 (b7 c hc)) fun c hc=> ?_
 have h1:=hc.1
 have h2:=hc.2.1
 exact⟨⟨by omega,by omega,hc.2.2.same (hk c hc.2.1 (b7 c hc))⟩,b7 c hc⟩
theorem vq {w:World} {b o:Nat} {an:Array Value} {ty:TypeId} {v:Value} (h:w.heap[b]?=some (.cells an ty (0,0))):(w.setCell ⟨b,o,none⟩ v).heap[b]?=some (.cells (an.setIfInBounds o v) ty (0,0)):=by
 simp[World.setCell,Array.getElem?_modify,h]
theorem aap {w:World} {b:Nat} {a0 J a2 a3 a4 v0 v1 v2 v3 v4:Value} {ty:TypeId} (h:w.heap[b]?=some (.cells #[a0,J,a2,a3,a4] ty (0,0))):(((((w.setCell ⟨b,0,none⟩ v0).setCell ⟨b,1,none⟩ v1).setCell ⟨b,2,none⟩ v2).setCell ⟨b,3,none⟩ v3).setCell ⟨b,4,none⟩ v4).heap[b]?=some (.cells #[v0,v1,v2,v3,v4] ty (0,0)):=
 vq (vq (vq (vq (vq h))))
theorem bn.amv {P:Program} {f:FuncId} {args:List AV} (gk:wY P f=true)
  (h: ∀(w:World) (vs:List Value),ah (V2 (Env.wd w)) args vs→Calls P f vs.toArray w fun e w'=>e= .returned (.bool true)∧RowKit.Below w.heap.size w w'):bn P f args (.bool true):=by
 refine⟨gk,fun E vs bB aB aw=>(h E.w vs (aw.mono fun _ _ k=>k.wd aB bB)).mono ?_⟩
 rintro e w' ⟨rfl,hb⟩
 have hk: ∀c,E.PA c→w'.heap[c]?=E.w.heap[c]?:=fun c hc=>hb.block c (aB.eh c hc)
 have hm:=fun b=>aB.fresh b (Nat.zero_le _)
 refine⟨.bool true,.bool true,[],{E with w:=w'},rfl,.inr (.inr (.bool true)),rfl,bB,{aB with
  heap:=fun b c US=>by rw[(hm b).1] at US;cases US
  eh:=fun c hc=>Nat.lt_of_lt_of_le (aB.eh c hc) hb.size
  gi:=fun c hc=>Nat.lt_of_lt_of_le (aB.gi c hc) hb.size
  hl:=fun c hc=>Nat.lt_of_lt_of_le (aB.hl c hc) hb.size
  ga:=fun c hc=>(aB.ga c hc).same (hk c (aB.dU c hc))},a1.bool true,?_⟩
 exact⟨⟨fun _ h=>h,fun _ h=>h,hk,fun c hc=>hk c (aB.dU c hc),fun _=>Nat.le_refl _,fun _ _ h _=>⟨h,rfl,rfl⟩,fun _ _ h=>h⟩,hb.os,hb.tape,hb.output,hb.size,fun c hc _ _=>hb.block c hc,fun _ _ h=> .inl h,fun _ h=> .inl h,fun _ h=> .inl h,fun _ h=> .inl h⟩
open Go Go.RowKit
set_option maxHeartbeats 1000000
set_option maxRecDepth 100000
theorem Yx (A:Option Addr) (c o n cap:Nat) (k:Int) (w:World) (an:Array Value) (ty:TypeId) (cm:0<n→A=some ⟨c,o,none⟩∧w.heap[c]?=some (.cells an ty (0,0))∧o+n≤an.size) (aA:0≤k) (h1:k+n≤4611686018427387904):
    Calls Tryz.prog 58 #[.slice A n cap,.int .i64 k] w fun e w'=>e= .returned (.int .i64 (k+n))∧lS w w' c o n (tE k):=by
  have jp:=Lib.hid cm;clear cm
  go_enter Tryz.func58,Tryz.ntmps58
  go_wp2
  go_loopw [1,5] (fun q i wr=> ∃j:Nat,j≤n∧i= .int .i64 j∧q= .int .i64 (k+j)∧lS w wr c o j (tE k)) (fun _ i _=>n - (intOf i).toNat)
  case atStart=>exact⟨0,Nat.zero_le _,rfl,by simp,.refl _ _ _ _⟩
  case round=>
    obtain⟨j,ac,rfl,rfl,hm⟩:=hrel
    have ej:=Lib.hid hm;clear hm
    by_cases aQ:j<n
    · obtain⟨aN,hw,ag⟩:=jp.out (by omega)
      have pj:=Lib.hid hw;clear hw
      subst aN
      obtain⟨u,hu,hf⟩:=ej.out.cell pj.out (j:=o+j) (by omega)
      go_wp2
      go_roundw
      case rel=>exact⟨j+1,by omega,by go_num,by go_num,ej.out.snoc rfl⟩
      case measure=>simp[intOf];omega
    · have e:j=n:=by omega
      subst e
      go_wp2
      go_ret
      exact⟨rfl,ej.out⟩
theorem IH (A:Option Addr) (c o n cap:Nat) (k:Int) (w:World) (an:Array Value) (ty:TypeId) (cm:0<n→A=some ⟨c,o,none⟩∧w.heap[c]?=some (.cells an ty (0,0))∧o+n≤an.size) (aA:0≤k) (h1:k+n≤4611686018427387904):
    Calls Tryz.prog 61 #[.slice A n cap,.int .i64 k] w fun e w'=>e= .returned (.int .i64 (k+n))∧lS w w' c o n (Tb k):=by
  have jp:=Lib.hid cm;clear cm
  go_enter Tryz.func61,Tryz.ntmps61
  go_wp2
  go_loopw [1,5] (fun q i wr=> ∃j:Nat,j≤n∧i= .int .i64 j∧q= .int .i64 (k+j)∧lS w wr c o j (Tb k)) (fun _ i _=>n - (intOf i).toNat)
  case atStart=>exact⟨0,Nat.zero_le _,rfl,by simp,.refl _ _ _ _⟩
  case round=>
    obtain⟨j,ac,rfl,rfl,hm⟩:=hrel
    have ej:=Lib.hid hm;clear hm
    by_cases aQ:j<n
    · obtain⟨aN,hw,ag⟩:=jp.out (by omega)
      have pj:=Lib.hid hw;clear hw
      subst aN
      obtain⟨u,hu,hf⟩:=ej.out.cell pj.out (j:=o+j) (by omega)
      go_wp2
      go_roundw
      case rel=>exact⟨j+1,by omega,by go_num,by go_num,ej.out.snoc rfl⟩
      case measure=>simp[intOf];omega
    · have e:j=n:=by omega
      subst e
      go_wp2
      go_ret
      exact⟨rfl,ej.out⟩
theorem Yy (A:Option Addr) (c o n cap:Nat) (k:Int) (w:World) (an:Array Value) (ty:TypeId) (cm:0<n→A=some ⟨c,o,none⟩∧w.heap[c]?=some (.cells an ty (0,0))∧o+n*2≤an.size) (aA:0≤k) (h1:k+2*n≤4611686018427387904):
    Calls Tryz.prog 103 #[.slice A n cap,.int .i64 k] w fun e w'=>e= .returned (.int .i64 (k+2*n))∧lS w w' c o (n*2) (tE k):=by
  have jp:=Lib.hid cm;clear cm
  go_enter Tryz.func103,Tryz.ntmps103
  go_wp2
  go_loopw [1,5] (fun q i wr=> ∃j:Nat,j≤n∧i= .int .i64 j∧q= .int .i64 (k+2*j)∧lS w wr c o (j*2) (tE k)) (fun _ i _=>n - (intOf i).toNat)
  case atStart=>exact⟨0,Nat.zero_le _,rfl,by simp,.refl _ _ _ _⟩
  case round=>
    obtain⟨j,ac,rfl,rfl,hm⟩:=hrel
    have ej:=Lib.hid hm;clear hm
    by_cases aQ:j<n
    · obtain⟨aN,hw,ag⟩:=jp.out (by omega)
      have pj:=Lib.hid hw;clear hw
      subst aN
      obtain⟨hJ,rr,we⟩:=ej.out.cell pj.out (j:=o+j*2) (by omega)
      obtain⟨hL,nz,wg⟩:=ej.out.cell pj.out (j:=o+j*2+1) (by omega)
      go_wp2
      go_roundw
      case rel=>exact⟨j+1,by omega,by go_num,by go_num,by
        have:=((ej.out.snoc (v:= .int .i64 (k+2*j)) (by unfold tE;congr 1;omega)).snoc (v:= .int .i64 (k+2*j+1)) (by unfold tE;congr 1;omega))
        rw[show(j+1)*2=j*2+1+1 by omega];exact this⟩
      case measure=>simp[intOf];omega
    · have e:j=n:=by omega
      subst e
      go_wp2
      go_ret
      exact⟨rfl,ej.out⟩
theorem Yz (A:Option Addr) (c o n cap:Nat) (k:Int) (w:World) (an:Array Value) (ty:TypeId) (cm:0<n→A=some ⟨c,o,none⟩∧w.heap[c]?=some (.cells an ty (0,0))∧o+n*2≤an.size) (aA:0≤k) (h1:k+2*n≤4611686018427387904):
    Calls Tryz.prog 62 #[.slice A n cap,.int .i64 k] w fun e w'=>e= .returned (.int .i64 (k+2*n))∧lS w w' c o (n*2) (tE k):=by
  have jp:=Lib.hid cm;clear cm
  go_enter Tryz.func62,Tryz.ntmps62
  go_wp2
  go_loopw [1,5] (fun q i wr=> ∃j:Nat,j≤n∧i= .int .i64 j∧q= .int .i64 (k+2*j)∧lS w wr c o (j*2) (tE k)) (fun _ i _=>n - (intOf i).toNat)
  case atStart=>exact⟨0,Nat.zero_le _,rfl,by simp,.refl _ _ _ _⟩
  case round=>
    obtain⟨j,ac,rfl,rfl,hm⟩:=hrel
    have ej:=Lib.hid hm;clear hm
    by_cases aQ:j<n
    · obtain⟨aN,hw,ag⟩:=jp.out (by omega)
      have pj:=Lib.hid hw;clear hw
      subst aN
      obtain⟨hJ,rr,we⟩:=ej.out.cell pj.out (j:=o+j*2) (by omega)
      obtain⟨hL,nz,wg⟩:=ej.out.cell pj.out (j:=o+j*2+1) (by omega)
      go_wp2
      go_roundw
      case rel=>exact⟨j+1,by omega,by go_num,by go_num,by
        have:=((ej.out.snoc (v:= .int .i64 (k+2*j)) (by unfold tE;congr 1;omega)).snoc (v:= .int .i64 (k+2*j+1)) (by unfold tE;congr 1;omega))
        rw[show(j+1)*2=j*2+1+1 by omega];exact this⟩
      case measure=>simp[intOf];omega
    · have e:j=n:=by omega
      subst e
      go_wp2
      go_ret
      exact⟨rfl,ej.out⟩
open Go Go.RowKit
theorem e7.flat {w:World} {S:Nat→Prop} {κ e:aX} {L m n cap:Nat} {A:Option Addr} (A1:κ= .int∨κ= .bool) (bB:e.bN=List.replicate L κ) (aA:0<L) (h:e7 w S (.l e) m (.slice A n cap)):
    m=n*L∧(0<n→ ∃(c o:Nat) (an:Array Value) (ty:TypeId),A=some ⟨c,o,none⟩∧S c∧w.heap[c]?=some (.cells an ty (0,0))∧o+n*L≤an.size∧ ∀q,q<n*L→ ∃u,an[o+q]?=some u∧e7 w S κ 1 u):=by
  by_cases ag:0<n
  · obtain⟨c,o,an,ty,cs,cm,dr,bt,hm,cn,hv⟩:=h.cells ag
    have au:e.bN.length=L:=by rw[bB,List.length_replicate]
    rw[au] at hm cn
    have ac: ∀j,j<L→e.bN[j]?=some κ:=fun j ac=>by rw[bB,List.getElem?_replicate,if_pos ac]
    have one: ∀i j,i<n→j<L→cs i j=1∧ ∃u,an[o+(i*L+j)]?=some u∧e7 w S κ 1 u:=fun i j hi js=>by
      obtain⟨u,hu,hk⟩:=hv i j κ hi (ac j js)
      rw[au] at hu
      have:cs i j=1:=by
        rcases A1 with rfl | rfl
        · exact hk.of_int.1
        · exact hk.of_bool.1
      exact⟨this,u,hu,this▸hk⟩
    refine⟨?_,fun _=>⟨c,o,an,ty,cm,dr,bt,cn aA,fun q U=> ?_⟩⟩
    · rw[hm]
      exact RX fun i hi=>(RX (c:=1) fun j ac=>(one i j hi ac).1).trans (Nat.mul_one _)
    · have h1:q / L<n:=(Nat.div_lt_iff_lt_mul aA).2 U
      obtain⟨_,u,hu,hk⟩:=one (q / L) (q%L) h1 (Nat.mod_lt _ aA)
      refine⟨u,?_,hk⟩
      rw[Nat.mul_comm,Nat.div_add_mod] at hu
      exact hu
  · obtain rfl:n=0:=by omega
    exact⟨by rw[h.zero];simp,fun h=>absurd h ag⟩
theorem e7.same {w:World} {S:Nat→Prop} {u:Value} (h:e7 w S .int 1 u) (n:Int):qi (some u) (some (.int .i64 n)):=by
  obtain⟨_,m,rfl⟩:=h.of_int;exact .inr (.inl ⟨_,_,rfl,rfl⟩)
theorem e7.anK {w:World} {S:Nat→Prop} {u:Value} (h:e7 w S .bool 1 u) (n:Bool):qi (some u) (some (.bool n)):=by
  obtain⟨_,m,rfl⟩:=h.of_bool;exact .inr (.inr ⟨_,_,rfl,rfl⟩)
theorem IK:zV Tryz.prog 58 (.l .int):=fun w S m v k h aA h1=>by
  obtain⟨A,n,cap,rfl⟩:=h.nE
  obtain⟨rfl,hc⟩:=h.flat (.inl rfl) (L:=1) rfl (by omega)
  rw[Nat.mul_one] at h1 hc ⊢
  have h2:k+n≤4611686018427387904:=by exact h1
  have ak:(Ending.returned (.int .i64 (k+n)):Ending)= .returned (.int .i64 (k+((n:Nat):Int))):=by rfl
  by_cases ag:0<n
  · obtain⟨c,o,an,ty,cm,dr,bt,aH,hv⟩:=hc ag
    refine(Yx A c o n cap k w an ty (fun _=>⟨cm,bt,aH⟩) aA h2).mono ?_
    rintro e w' ⟨rfl,hm⟩
    refine⟨ak,hm.fL dr fun b5 jE i hx hi=> ?_⟩
    rw[bt] at hx;cases hx
    obtain⟨u,hu,hk⟩:=hv i hi
    rw[hu];exact hk.same _
  · refine(Yx A w.heap.size 0 n cap k w #[] 0 (fun h=>absurd h ag) aA h2).mono ?_
    rintro e w' ⟨rfl,hm⟩
    exact⟨ak,hm.Iy⟩
theorem amc:zV Tryz.prog 61 (.l .bool):=fun w S m v k h aA h1=>by
  obtain⟨A,n,cap,rfl⟩:=h.nE
  obtain⟨rfl,hc⟩:=h.flat (.inr rfl) (L:=1) rfl (by omega)
  rw[Nat.mul_one] at h1 hc ⊢
  have h2:k+n≤4611686018427387904:=by exact h1
  have ak:(Ending.returned (.int .i64 (k+n)):Ending)= .returned (.int .i64 (k+((n:Nat):Int))):=by rfl
  by_cases ag:0<n
  · obtain⟨c,o,an,ty,cm,dr,bt,aH,hv⟩:=hc ag
    refine(IH A c o n cap k w an ty (fun _=>⟨cm,bt,aH⟩) aA h2).mono ?_
    rintro e w' ⟨rfl,hm⟩
    refine⟨ak,hm.fL dr fun b5 jE i hx hi=> ?_⟩
    rw[bt] at hx;cases hx
    obtain⟨u,hu,hk⟩:=hv i hi
    rw[hu];exact hk.anK _
  · refine(IH A w.heap.size 0 n cap k w #[] 0 (fun h=>absurd h ag) aA h2).mono ?_
    rintro e w' ⟨rfl,hm⟩
    exact⟨ak,hm.Iy⟩
theorem YE:zV Tryz.prog 103 (.l .bi):=fun w S m v k h aA h1=>by
  obtain⟨A,n,cap,rfl⟩:=h.nE
  obtain⟨rfl,hc⟩:=h.flat (.inl rfl) (L:=2) rfl (by omega)
  have h2:k+2*n≤4611686018427387904:=by omega
  have ak:(Ending.returned (.int .i64 (k+2*n)):Ending)= .returned (.int .i64 (k+((n*2:Nat):Int))):=by congr 2;omega
  by_cases ag:0<n
  · obtain⟨c,o,an,ty,cm,dr,bt,aH,hv⟩:=hc ag
    refine(Yy A c o n cap k w an ty (fun _=>⟨cm,bt,aH⟩) aA h2).mono ?_
    rintro e w' ⟨rfl,hm⟩
    refine⟨ak,hm.fL dr fun b5 jE i hx hi=> ?_⟩
    rw[bt] at hx;cases hx
    obtain⟨u,hu,hk⟩:=hv i hi
    rw[hu];exact hk.same _
  · refine(Yy A w.heap.size 0 n cap k w #[] 0 (fun h=>absurd h ag) aA h2).mono ?_
    rintro e w' ⟨rfl,hm⟩
    exact⟨ak,hm.Iy⟩
open Go Go.RowKit
theorem amd:zV Tryz.prog 60 (.l (.l .bool)):=fun w S m v k h aA h1=>by
  obtain⟨A,n,cap,rfl⟩:=h.nE
  obtain⟨oK,c,o,cs,cm,rfl,au,_,_⟩:=h.elem
  have H1:=Lib.hid h1;clear h1
  have jp:=Lib.hid cm;clear cm
  have cD:=Lib.hid au;clear au
  clear h
  go_enter Tryz.func60,Tryz.ntmps60
  go_wp2
  go_loopw [1,5] (fun q i wr=> ∃j:Nat,j≤n∧i= .int .i64 j∧q= .int .i64 (k+(cU (fun i=>cU (cs i) 1) j:Nat))∧dY S w wr) (fun _ i _=>n - (intOf i).toNat)
  case atStart=>exact⟨0,Nat.zero_le _,rfl,by simp[cU],.refl _ _⟩
  case round=>
    obtain⟨j,ac,rfl,rfl,hm⟩:=hrel
    have ej:=Lib.hid hm;clear hm
    by_cases aQ:j<n
    · obtain rfl:=jp.out (by omega)
      obtain⟨bR,ct,bE,h2⟩:=cD.out j 0 .bool aQ rfl
      obtain⟨ii,wm⟩:=h2 wr ej.out
      rw[show o+(j*(aX.l aX.bool).bN.length+0)=o+j from by show o+(j*1+0)=_;omega] at ii
      have adf:=Lib.hid wm;clear wm h2
      have aO:cU (fun i=>cU (cs i) 1) (j+1)=cU (fun i=>cU (cs i) 1) j+cs j 0:=by show _+(0+cs j 0)=_;rw[Nat.zero_add]
      have hle:cU (fun i=>cU (cs i) 1) (j+1)≤cU (fun i=>cU (cs i) 1) n:=RY (by omega)
      have qe:Hid (k+(cU (fun i=>cU (cs i) 1) j:Nat)+(cs j 0:Nat)≤4611686018427387904∧0≤k+(cU (fun i=>cU (cs i) 1) j:Nat)):=by
        unfold Hid
        have h1:k+(cU (fun i=>cU (cs i) 1) n:Nat)≤4611686018427387904:=H1.out
        omega
      have qg:=Lib.hid aO;clear aO hle
      go_wp2_with (go_at_call 61;refine(amc _ S _ _ _ adf.out qe.out.2 qe.out.1).mono ?_)
      first
      | (rintro e bq rfl Ml)
      | (rintro e bq ⟨rfl,Ml⟩)
      have vL:=Lib.hid (ej.out.trans Ml);clear Ml
      go_wp2
      go_roundw
      case rel=>exact⟨j+1,by omega,by go_num,by rw[qg.out];congr 1;omega,vL.out⟩
      case measure=>simp[intOf];omega
    · have e:j=n:=by omega
      subst e
      go_wp2
      go_ret
      exact⟨rfl,ej.out⟩
theorem amg:zV Tryz.prog 59 (.l .e6):=fun w S m v k h aA h1=>by
  obtain⟨A,n,cap,rfl⟩:=h.nE
  obtain⟨oK,c,o,cs,cm,rfl,au,_,_⟩:=h.elem
  have H1:=Lib.hid h1;clear h1
  have jp:=Lib.hid cm;clear cm
  have cD:=Lib.hid au;clear au
  clear h
  go_enter Tryz.func59,Tryz.ntmps59
  go_wp2
  go_loopw [1,5] (fun q i wr=> ∃j:Nat,j≤n∧i= .int .i64 j∧q= .int .i64 (k+(cU (fun i=>cU (cs i) 5) j:Nat))∧dY S w wr) (fun _ i _=>n - (intOf i).toNat)
  case atStart=>exact⟨0,Nat.zero_le _,rfl,by simp[cU],.refl _ _⟩
  case round=>
    obtain⟨j,ac,rfl,rfl,hm⟩:=hrel
    have ej:=Lib.hid hm;clear hm
    by_cases aQ:j<n
    · obtain rfl:=jp.out (by omega)
      obtain⟨bR,ct,bE,UD⟩:=cD.out j 0 .int aQ rfl
      have hY:=Lib.hid UD;clear UD
      obtain⟨bO,dG,bz,pB⟩:=cD.out j 1 .bi aQ rfl
      have jW:=Lib.hid pB;clear pB
      obtain⟨bM,n2,bu,iX⟩:=cD.out j 2 .bi aQ rfl
      have gM:=Lib.hid iX;clear iX
      obtain⟨J6,nC,ke,qw⟩:=cD.out j 3 .int aQ rfl
      have vH:=Lib.hid qw;clear qw
      obtain⟨J7,EI,mg,qx⟩:=cD.out j 4 .int aQ rfl
      have vI:=Lib.hid qx;clear qx
      have aO:cU (fun i=>cU (cs i) 5) (j+1)=cU (fun i=>cU (cs i) 5) j+(cs j 0+cs j 1+cs j 2+cs j 3+cs j 4):=by
        show _+(0+cs j 0+cs j 1+cs j 2+cs j 3+cs j 4)=_
        rw[Nat.zero_add]
      have hle:cU (fun i=>cU (cs i) 5) (j+1)≤cU (fun i=>cU (cs i) 5) n:=RY (by omega)
      have qe:Hid (0≤k+(cU (fun i=>cU (cs i) 5) j:Nat)∧k+(cU (fun i=>cU (cs i) 5) j:Nat)+((cs j 0:Nat)+(cs j 1:Nat)+(cs j 2:Nat)+(cs j 3:Nat)+(cs j 4:Nat))≤4611686018427387904):=by
        unfold Hid
        have h1:k+(cU (fun i=>cU (cs i) 5) n:Nat)≤4611686018427387904:=H1.out
        omega
      have qg:=Lib.hid aO;clear aO hle
      have ii:wr.cell? ⟨c,o+j*5,none⟩=some (.slice bR ct bE):=by
        have:=(hY.out wr ej.out).1
        rw[show o+(j*(aX.bN .e6).length+0)=o+j*5 from by show o+(j*5+0)=_;omega] at this
        exact this
      have C1:Hid (0≤k+(cU (fun i=>cU (cs i) 5) j:Nat)∧k+(cU (fun i=>cU (cs i) 5) j:Nat)+(cs j 0:Nat)≤4611686018427387904):=by unfold Hid;have:=qe.out;omega
      go_wp2_with (go_at_call 58;refine(IK wr S _ _ _ (hY.out wr ej.out).2 C1.out.1 C1.out.2).mono ?_)
      first
      | (rintro e bq rfl hb)
      | (rintro e bq ⟨rfl,hb⟩)
      have C8:=Lib.hid (ej.out.trans hb);clear hb ii
      have DP:bq.cell? ⟨c,o+j*5+1,none⟩=some (.slice bO dG bz):=by
        have:=(jW.out bq C8.out).1
        rw[show o+(j*(aX.bN .e6).length+1)=o+j*5+1 from by show o+(j*5+1)=_;omega] at this
        exact this
      have C2:Hid (0≤k+(cU (fun i=>cU (cs i) 5) j:Nat)+(cs j 0:Nat)∧k+(cU (fun i=>cU (cs i) 5) j:Nat)+(cs j 0:Nat)+(cs j 1:Nat)≤4611686018427387904):=by unfold Hid;have:=qe.out;omega
      go_wp2_with (go_at_call 103;refine(YE bq S _ _ _ (jW.out bq C8.out).2 C2.out.1 C2.out.2).mono ?_)
      first
      | (rintro e bo rfl hb)
      | (rintro e bo ⟨rfl,hb⟩)
      have Kq:=Lib.hid (C8.out.trans hb);clear hb DP
      have Mp:bo.cell? ⟨c,o+j*5+2,none⟩=some (.slice bM n2 bu):=by
        have:=(gM.out bo Kq.out).1
        rw[show o+(j*(aX.bN .e6).length+2)=o+j*5+2 from by show o+(j*5+2)=_;omega] at this
        exact this
      have nj:Hid (0≤k+(cU (fun i=>cU (cs i) 5) j:Nat)+(cs j 0:Nat)+(cs j 1:Nat)∧k+(cU (fun i=>cU (cs i) 5) j:Nat)+(cs j 0:Nat)+(cs j 1:Nat)+(cs j 2:Nat)≤4611686018427387904):=by unfold Hid;have:=qe.out;omega
      go_wp2_with (go_at_call 103;refine(YE bo S _ _ _ (gM.out bo Kq.out).2 nj.out.1 nj.out.2).mono ?_)
      first
      | (rintro e bK rfl hb)
      | (rintro e bK ⟨rfl,hb⟩)
      have Kr:=Lib.hid (Kq.out.trans hb);clear hb Mp
      have ahp:bK.cell? ⟨c,o+j*5+3,none⟩=some (.slice J6 nC ke):=by
        have:=(vH.out bK Kr.out).1
        rw[show o+(j*(aX.bN .e6).length+3)=o+j*5+3 from by show o+(j*5+3)=_;omega] at this
        exact this
      have vJ:Hid (0≤k+(cU (fun i=>cU (cs i) 5) j:Nat)+(cs j 0:Nat)+(cs j 1:Nat)+(cs j 2:Nat)∧k+(cU (fun i=>cU (cs i) 5) j:Nat)+(cs j 0:Nat)+(cs j 1:Nat)+(cs j 2:Nat)+(cs j 3:Nat)≤4611686018427387904):=by unfold Hid;have:=qe.out;omega
      go_wp2_with (go_at_call 58;refine(IK bK S _ _ _ (vH.out bK Kr.out).2 vJ.out.1 vJ.out.2).mono ?_)
      first
      | (rintro e fF rfl hb)
      | (rintro e fF ⟨rfl,hb⟩)
      have Ks:=Lib.hid (Kr.out.trans hb);clear hb ahp
      have ahq:fF.cell? ⟨c,o+j*5+4,none⟩=some (.slice J7 EI mg):=by
        have:=(vI.out fF Ks.out).1
        rw[show o+(j*(aX.bN .e6).length+4)=o+j*5+4 from by show o+(j*5+4)=_;omega] at this
        exact this
      have vK:Hid (0≤k+(cU (fun i=>cU (cs i) 5) j:Nat)+(cs j 0:Nat)+(cs j 1:Nat)+(cs j 2:Nat)+(cs j 3:Nat)∧k+(cU (fun i=>cU (cs i) 5) j:Nat)+(cs j 0:Nat)+(cs j 1:Nat)+(cs j 2:Nat)+(cs j 3:Nat)+(cs j 4:Nat)≤4611686018427387904):=by unfold Hid;have:=qe.out;omega
      go_wp2_with (go_at_call 58;refine(IK fF S _ _ _ (vI.out fF Ks.out).2 vK.out.1 vK.out.2).mono ?_)
      first
      | (rintro e fi rfl hb)
      | (rintro e fi ⟨rfl,hb⟩)
      have ado:=Lib.hid (Ks.out.trans hb);clear hb ahq
      go_wp2
      go_roundw
      case rel=>exact⟨j+1,by omega,by go_num,by rw[qg.out];congr 1;omega,ado.out⟩
      case measure=>simp[intOf];omega
    · have e:j=n:=by omega
      subst e
      go_wp2
      go_ret
      exact⟨rfl,ej.out⟩
open Go Go.RowKit
theorem amf (w:World) (S:Nat→Prop) (B1 cB:Int) (bR bO bM:Option Addr) (ct bE al dG bz a_ n2 bu bw:Nat) (k:Int) (r1:e7 w S (.l .int) al (.slice bR ct bE)) (r2:e7 w S (.l .e6) a_ (.slice bO dG bz)) (xL:e7 w S (.l (.l .bool)) bw (.slice bM n2 bu)) (aA:0≤k) (h1:k+(al:Nat)+(a_:Nat)+(bw:Nat)≤4611686018427387904):
    Calls Tryz.prog 15 #[.agg #[.int .i64 B1,.slice bR ct bE,.slice bO dG bz,.slice bM n2 bu,.int .i64 cB],.int .i64 k] w fun fV w'=>fV= .returned (.int .i64 (k+(al:Nat)+(a_:Nat)+(bw:Nat)))∧dY S w w':=by
  have pj:Hid (dY S w (w.alloc (.cells #[.int .i64 B1,.slice bR ct bE,.slice bO dG bz,.slice bM n2 bu,.int .i64 cB] 39))):=dY.below ((Below.refl _ _).alloc (Nat.le_refl _) _)
  have zS:Hid ((w.alloc (.cells #[.int .i64 B1,.slice bR ct bE,.slice bO dG bz,.slice bM n2 bu,.int .i64 cB] 39)).heap[w.heap.size]?=some (.cells #[.int .i64 B1,.slice bR ct bE,.slice bO dG bz,.slice bM n2 bu,.int .i64 cB] 39 (0,0))):=vO _ _
  have hY:=Lib.hid r1;clear r1
  have jW:=Lib.hid r2;clear r2
  have gM:=Lib.hid xL;clear xL
  go_enter Tryz.func15,Tryz.ntmps15
  have adl:Hid (dY S (w.alloc (.cells #[.int .i64 B1,.slice bR ct bE,.slice bO dG bz,.slice bM n2 bu,.int .i64 cB] 39)) (w.alloc (.cells #[.int .i64 B1,.slice bR ct bE,.slice bO dG bz,.slice bM n2 bu,.int .i64 cB] 39))):=dY.refl _ _
  have C1:Hid (0≤k∧k+(al:Nat)≤4611686018427387904):=by unfold Hid;omega
  go_wp2_with (go_at_call 58;refine(IK _ S _ _ _ (hY.out.fL pj.out) C1.out.1 C1.out.2).mono ?_)
  first
  | (rintro e bq rfl hb)
  | (rintro e bq ⟨rfl,hb⟩)
  have Km:=Lib.hid (adl.out.trans hb);clear hb
  have DP:bq.cell? ⟨w.heap.size,2,none⟩=some (.slice bO dG bz):=Km.out.head zS.out rfl
  have C2:Hid (0≤k+(al:Nat)∧k+(al:Nat)+(a_:Nat)≤4611686018427387904):=by unfold Hid;omega
  go_wp2_with (go_at_call 59;refine(amg _ S _ _ _ (jW.out.fL (pj.out.trans Km.out)) C2.out.1 C2.out.2).mono ?_)
  first
  | (rintro e bo rfl hb)
  | (rintro e bo ⟨rfl,hb⟩)
  have Kn:=Lib.hid (Km.out.trans hb);clear hb DP
  have Mp:bo.cell? ⟨w.heap.size,3,none⟩=some (.slice bM n2 bu):=Kn.out.head zS.out rfl
  have nj:Hid (0≤k+(al:Nat)+(a_:Nat)∧k+(al:Nat)+(a_:Nat)+(bw:Nat)≤4611686018427387904):=by unfold Hid;omega
  go_wp2_with (go_at_call 60;refine(amd _ S _ _ _ (gM.out.fL (pj.out.trans Kn.out)) nj.out.1 nj.out.2).mono ?_)
  first
  | (rintro e bK rfl hb)
  | (rintro e bK ⟨rfl,hb⟩)
  have adm:=Lib.hid (Kn.out.trans hb);clear hb Mp
  go_wp2
  go_ret
  exact⟨rfl,pj.out.trans adm.out⟩
end Go.Proofs.YtejmihecgodhnaaGreat.Fw
set_option linter.unusedVariables false
set_option maxRecDepth 100000
set_option maxHeartbeats 4000000
set_option linter.unusedSimpArgs false
namespace Go.Proofs.YtejmihecgodhnaaGreat.Fw
open Go
attribute [local irreducible] evS evSD WpS Weak Oper.looksAt
section
variable (a0 J:bL) (aa:Bool)
def XK:Prop:=
 ((a0.dR !=J.dR)=true→false=aa)∧((!(a0.dR !=J.dR))=true→((a0.bI !=J.bI)=true→false=aa)∧((!(a0.bI !=J.bI))=true→true=aa))
theorem akT:bn Tryz.prog 101 [.agg (ba a0),.agg (ba J)] (aq (eqv a0 J)):=(fun(h:XK a0 J (eqv a0 J))=>bn.run (ps:=[.e0,.e0]) (rs:=[.bool]) (x:=(a0,J,())) (r:=((eqv a0 J),())) ⟨15,dy,[]⟩ ⟨[],[],[],[],[]⟩ .nil Tryz.func101 h) (by
 unfold XK
 obtain⟨c,p⟩:=a0
 obtain⟨cv,y_⟩:=J
 simp[eqv]
 intros
 simp_all)
def akU:dJ Tryz.prog:=⟨101,[.e0,.e0],[.bool],none,fun x=>((eqv x.1 x.2.1),()),fun x h=>akT x.1 x.2.1⟩
end
section
variable (ai:Int→Prop) (al:Int→Nat) (a0 J:(List bL)) (aa:Bool)
def akR:List Item:=(List.range 10).map cz
def akS:List (List Nat):=[[],[],[0,1],[0,1,2],[],[],[4,5],[4,5,6],rg 0 8,rg 0 9]
def XJ:Prop:=
  ((a0.length≤4611686018427387904)∧(J.length≤4611686018427387904)→((a0.length:Int) !=(J.length:Int))=true→false=aa)∧((a0.length≤4611686018427387904)∧(J.length≤4611686018427387904)∧((!((a0.length:Int) !=(J.length:Int)))=true)→ai 0∧ ∀(v5:Int),ai v5→(((decide (v5<(a0.length:Int)))=false→true=aa)∧((decide (v5<(a0.length:Int)))=true→(((0≤v5∧v5.toNat<a0.length)∧(0≤v5∧v5.toNat<J.length))∧((!(eqv (nth a0 v5) (nth J v5)))=true→false=aa))∧((!(!(eqv (nth a0 v5) (nth J v5))))=true→ai (IntKind.i64.wrap (v5+1))∧al (IntKind.i64.wrap (v5+1))<al v5))))
def XI (a0:(List bL)) (J:(List bL)) (aa:Bool) (ai:Int→Prop) (al:Int→Nat):Prop:=
 XJ ai al a0 J aa
theorem akP:bn Tryz.prog 56 [bA ba a0,bA ba J] (aq (eqv a0 J)):=(fun(ai:Int→Prop) (al:Int→Nat) (h:XI a0 J (eqv a0 J) ai al)=>bn.run (ps:=[(.l .e0),(.l .e0)]) (rs:=[.bool]) (x:=(a0,J,())) (r:=((eqv a0 J),())) ⟨27,dy,[akU]⟩ ⟨[13],[(6,akR,akS)],[],[],[]⟩ (fz [0,1] [] 5 ai al fun _=> .nil) Tryz.func56 h) (cr a0.length (fun v=> !(eqv (nth a0 v) (nth J v)))) (cM a0.length) (by
 unfold XI XJ
 exact uD (ne:=fun v=> !(eqv (nth a0 v) (nth J v))) (fun v=>by simp[eqv]))
def akQ:dJ Tryz.prog:=⟨56,[(.l .e0),(.l .e0)],[.bool],none,fun x=>((eqv x.1 x.2.1),()),fun x h=>akP x.1 x.2.1⟩
end
section
variable (a0 J:av) (aa:Bool)
def Xz:Prop:=
  ((a0.aF !=J.aF)=true→false=aa)∧((!(a0.aF !=J.aF))=true→((a0.bc !=J.bc)=true→false=aa)∧((!(a0.bc !=J.bc))=true→((!(eqv a0.ae J.ae))=true→false=aa)∧((!(!(eqv a0.ae J.ae)))=true→((a0.bW !=J.bW)=true→false=aa)∧((!(a0.bW !=J.bW))=true→((a0.bU !=J.bU)=true→false=aa)∧((!(a0.bU !=J.bU))=true→true=aa)))))
def Xy:Prop:=
 Xz a0 J aa
theorem akD:bn Tryz.prog 102 [.agg (gE false a0),.agg (gE false J)] (aq (eqv a0 J)):=(fun(h:Xy a0 J (eqv a0 J))=>bn.run (ps:=[.held,.held]) (rs:=[.bool]) (x:=(a0,J,())) (r:=((eqv a0 J),())) ⟨31,dy,[OB]⟩ ⟨[],[],[],[],[]⟩ .nil Tryz.func102 h) (by
 unfold Xy Xz
 obtain⟨a,b,c,d,e⟩:=a0
 obtain⟨hB,b4,cv,GL,bX⟩:=J
 simp[eqv]
 refine⟨fun h h1=>absurd h1 h,fun h=>⟨fun k _ c_=>absurd c_ k,?_⟩⟩
 intros
 simp_all)
def akE:dJ Tryz.prog:=⟨102,[.held,.held],[.bool],none,fun x=>((eqv x.1 x.2.1),()),fun x h=>akD x.1 x.2.1⟩
end
section
variable (ai:Int→Prop) (al:Int→Nat) (a0 J:(List av)) (aa:Bool)
def akB:List Item:=(List.range 10).map cz
def akC:List (List Nat):=[[],[],[0,1],[0,1,2],[],[],[4,5],[4,5,6],rg 0 8,rg 0 9]
def Xx:Prop:=
  ((a0.length≤4611686018427387904)∧(J.length≤4611686018427387904)→((a0.length:Int) !=(J.length:Int))=true→false=aa)∧((a0.length≤4611686018427387904)∧(J.length≤4611686018427387904)∧((!((a0.length:Int) !=(J.length:Int)))=true)→ai 0∧ ∀(v5:Int),ai v5→(((decide (v5<(a0.length:Int)))=false→true=aa)∧((decide (v5<(a0.length:Int)))=true→(((0≤v5∧v5.toNat<a0.length)∧(0≤v5∧v5.toNat<J.length))∧((!(eqv (nth a0 v5) (nth J v5)))=true→false=aa))∧((!(!(eqv (nth a0 v5) (nth J v5))))=true→ai (IntKind.i64.wrap (v5+1))∧al (IntKind.i64.wrap (v5+1))<al v5))))
def Xw (a0:(List av)) (J:(List av)) (aa:Bool) (ai:Int→Prop) (al:Int→Nat):Prop:=
 Xx ai al a0 J aa
theorem akz:bn Tryz.prog 57 [bA (gE false) a0,bA (gE false) J] (aq (eqv a0 J)):=(fun(ai:Int→Prop) (al:Int→Nat) (h:Xw a0 J (eqv a0 J) ai al)=>bn.run (ps:=[(.l .held),(.l .held)]) (rs:=[.bool]) (x:=(a0,J,())) (r:=((eqv a0 J),())) ⟨27,dy,[akE]⟩ ⟨[13],[(6,akB,akC)],[],[],[]⟩ (fz [0,1] [] 5 ai al fun _=> .nil) Tryz.func57 h) (cr a0.length (fun v=> !(eqv (nth a0 v) (nth J v)))) (cM a0.length) (by
 unfold Xw Xx
 exact uD (ne:=fun v=> !(eqv (nth a0 v) (nth J v))) (fun v=>by simp[eqv]))
def akA:dJ Tryz.prog:=⟨57,[(.l .held),(.l .held)],[.bool],none,fun x=>((eqv x.1 x.2.1),()),fun x h=>akz x.1 x.2.1⟩
end
section
variable (a0 J:Frame) (aa:Bool)
def Xv:Prop:=
 ((a0.ok !=J.ok)=true→false=aa)∧((!(a0.ok !=J.ok))=true→((!(eqv a0.aE J.aE))=true→false=aa)∧((!(!(eqv a0.aE J.aE)))=true→((!(eqv a0.ay J.ay))=true→false=aa)∧((!(!(eqv a0.ay J.ay)))=true→((!(eqv a0.O J.O))=true→false=aa)∧((!(!(eqv a0.O J.O)))=true→true=aa))))
theorem akx:bn Tryz.prog 14 [.agg (cq false a0),.agg (cq false J)] (aq (eqv a0 J)):=(fun(h:Xv a0 J (eqv a0 J))=>bn.run (ps:=[.frame,.frame]) (rs:=[.bool]) (x:=(a0,J,())) (r:=((eqv a0 J),())) ⟨28,dy,[OB,akQ,akA]⟩ ⟨[],[],[],[],[]⟩ .nil Tryz.func14 h) (by
 unfold Xv
 obtain⟨a,b,c,d⟩:=a0
 obtain⟨hB,b4,cv,GL⟩:=J
 simp[eqv]
 refine⟨fun h h1=>absurd h1 h,fun h=>⟨fun k _ c_=>absurd c_ k,?_⟩⟩
 intros
 simp_all)
def aky:dJ Tryz.prog:=⟨14,[.frame,.frame],[.bool],none,fun x=>((eqv x.1 x.2.1),()),fun x h=>akx x.1 x.2.1⟩
end
end Go.Proofs.YtejmihecgodhnaaGreat.Fw
set_option linter.unusedVariables false
namespace Go.Proofs.YtejmihecgodhnaaGreat.Fw
open Go
end Go.Proofs.YtejmihecgodhnaaGreat.Fw
