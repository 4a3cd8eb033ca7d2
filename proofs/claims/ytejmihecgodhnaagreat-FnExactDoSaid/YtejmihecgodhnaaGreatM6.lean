/- Walks and summaries of functions, printed by a program of mine (tools/mk2.py), with the proofs of what they owe. -/
import Derived.Test.YtejmihecgodhnaaGreatM5
set_option linter.unusedVariables false
set_option maxRecDepth 100000
set_option maxHeartbeats 4000000
set_option linter.unusedSimpArgs false
namespace Go.Proofs.YtejmihecgodhnaaGreat.Fw
open Go
attribute [local irreducible] evS evSD WpS Weak Oper.looksAt
section
variable (a0:c8) (J:Int) (aa:Bool)
def ahn:Prop:=
 (a0.bi==J)=aa
theorem aho:bf Tryz.prog 133 [.agg (c9 a0),.dz [ai J] 0] (aq (yi a0 J)):=(fun(h:ahn a0 J (yi a0 J))=>bf.run (ps:=[.a1,(.ptr .int)]) (rs:=[.bool]) (x:=(a0,J,())) (r:=((yi a0 J),())) ⟨8,c5,[]⟩ ⟨[],[],[],[],[]⟩ .nil Tryz.func133 h) (by
 exact rfl)
def ahp:dl Tryz.prog:=⟨133,[.a1,(.ptr .int)],[.bool],none,fun x=>((yi x.1 x.2.1),()),fun x h=>aho x.1 x.2.1⟩
end
section
variable (a0:(List c8)) (J aa:Int) (ad:Int→Prop) (ag:Int→Nat)
def YR:Prop:=
 a0.length≤4611686018427387904→ad 0∧ ∀(cT:Int),ad cT→(((decide (cT<(a0.length:Int)))=false→(-1)=aa)∧((decide (cT<(a0.length:Int)))=true→((0≤cT∧cT.toNat<a0.length)∧((yi (nth a0 cT) J)=true→cT=aa))∧((!(yi (nth a0 cT) J))=true→ad (IntKind.i64.wrap (cT+1))∧ag (IntKind.i64.wrap (cT+1))<ag cT)))
theorem amy:bf Tryz.prog 138 [bB c9 a0,.fn 133 [.dz [ai J] 0]] (ai (us a0 J)):=(fun(ad:Int→Prop) (ag:Int→Nat) (h:YR a0 J (us a0 J) ad ag)=>bf.run (ps:=[(.l .a1),(.jj 133 (.ptr .int))]) (rs:=[.int]) (x:=(a0,J,())) (r:=((us a0 J),())) ⟨19,c5,[ahp]⟩ ⟨[],[],[],[],[]⟩ (eY [0,1,7] [] 8 ad ag fun _=> .nil) Tryz.func138 h) (cq a0.length (fun j=>yi (nth a0 j) J)) (cI a0.length) (by
 unfold YR
 intro af
 refine⟨dB (dt _),fun v aN=>⟨fun hv=> ?_,fun hv=>⟨⟨cA aN hv,fun ab=> ?_⟩,fun ab=>dn (c_ af) aN hv (not_eq ab)⟩⟩⟩
 ·unfold us;rw[sk (q:=fun x:c8=>x.bi==J) aN hv];rfl
 ·unfold us;rw[sj (q:=fun x:c8=>x.bi==J) aN hv ab]
  have:=aN.1
  show v=(v.toNat:Int)
  omega)
def amz:dl Tryz.prog:=⟨138,[(.l .a1),(.jj 133 (.ptr .int))],[.int],none,fun x=>((us x.1 x.2.1),()),fun x h=>amy x.1 x.2.1⟩
end
section
variable (a0:(List c8)) (J:Int) (aa:Bool)
def amj:Prop:=
 (decide ((us a0 J) ≥ 0))=aa
theorem amk:bf Tryz.prog 132 [bB c9 a0,.fn 133 [.dz [ai J] 0]] (aq (mY a0 J)):=(fun(h:amj a0 J (mY a0 J))=>bf.run (ps:=[(.l .a1),(.jj 133 (.ptr .int))]) (rs:=[.bool]) (x:=(a0,J,())) (r:=((mY a0 J),())) ⟨9,c5,[amz]⟩ ⟨[],[],[],[],[]⟩ .nil Tryz.func132 h) (by
 exact agN a0 J)
def aml:dl Tryz.prog:=⟨132,[(.l .a1),(.jj 133 (.ptr .int))],[.bool],none,fun x=>((mY x.1 x.2.1),()),fun x h=>amk x.1 x.2.1⟩
end
section
variable (a0:(List c8)) (J:Int) (aa:Bool)
def ahq:Prop:=
 (mY a0 J)=aa
theorem ahr:bf Tryz.prog 125 [bB c9 a0,ai J] (aq (mY a0 J)):=(fun(h:ahq a0 J (mY a0 J))=>bf.run (ps:=[(.l .a1),.int]) (rs:=[.bool]) (x:=(a0,J,())) (r:=((mY a0 J),())) ⟨8,c5,[aml]⟩ ⟨[],[],[],[],[]⟩ .nil Tryz.func125 h) (by
 exact rfl)
def ahs:dl Tryz.prog:=⟨125,[(.l .a1),.int],[.bool],none,fun x=>((mY x.1 x.2.1),()),fun x h=>ahr x.1 x.2.1⟩
end
section
abbrev m6 (r:Type):Type:=Nat→(List Int)→Int→r
variable (ad:m6 Prop) (ag:m6 Nat) (a0:aQ) (J:Frame) (a2:Int) (g0:Nat) (aF:(List Int)) (ck:Int)
abbrev ME:=(mY (nth a0.O ck).cO a2) || ((mY (nth a0.O ck).bA a2)&&(kD a0 J ck (nth a0.a_ a2)))
abbrev x6:=IntKind.i64.wrap (ck+1)
def ahy:List Item:=(List.range 21).map cS
def ahz:List (List Nat):=[[],[0],[],[0,1,2],rg 0 4,rg 0 5,rg 0 6,rg 0 5,rg 0 8,rg 0 9,rg 0 10,rg 0 10,rg 0 10,rg 0 10,rg 0 10++[13],rg 0 10,rg 0 10++[13,14,15],rg 0 10++rg 13 17,rg 0 18,rg 0 19,rg 0 20]
def UB:Prop:=
  ((ME a0 J a2 ck)=true→((aF.length+[ck].length)*8≤140737488355328∧aF.length+[ck].length≤4611686018427387904)∧(ad (g0+1) (aF++[ck]) (x6 ck)∧ag (g0+1) (aF++[ck]) (x6 ck)<ag g0 aF ck))∧((ME a0 J a2 ck)=false→ad g0 aF (x6 ck)∧ag g0 aF (x6 ck)<ag g0 aF ck)
def UC:Prop:=
  ((0≤ck∧ck.toNat<J.O.length)∧(((nth J.O ck).aJ==0)=true→ad g0 aF (x6 ck)∧ag g0 aF (x6 ck)<ag g0 aF ck))∧((!((nth J.O ck).aJ==0))=true→((mY (nth a0.O ck).cO a2)=false→(mY (nth a0.O ck).bA a2)=true→(0≤a2∧a2.toNat<a0.a_.length)∧(Ak a0 J ck (nth a0.a_ a2)))∧(UB ad ag a0 J a2 g0 aF ck))
def UA (a0:aQ) (J:Frame) (a2:Int) (aa:(List Int)) (ad:m6 Prop) (ag:m6 Nat):Prop:=
 a0.O.length≤4611686018427387904→ad 0 ([]:List Int) 0∧ ∀(g0:Nat) (aF:(List Int)) (ck:Int),ad g0 aF ck→(((decide (ck<(a0.O.length:Int)))=false→aF.length≤4611686018427387904∧aF=aa)∧((decide (ck<(a0.O.length:Int)))=true→(0≤ck∧ck.toNat<a0.O.length)∧(UC ad ag a0 J a2 g0 aF ck)))
theorem UD (ab:wh a0 J a2):bf Tryz.prog 99 [.agg (bH false a0),.agg (b9 false J),ai a2] (pe cB (ki a0 J a2)):=(fun(ad:m6 Prop) (ag:m6 Nat) (h:UA a0 J a2 (ki a0 J a2) ad ag)=>bf.run (ps:=[.eL,.frame,.int]) (rs:=[(.l .int)]) (x:=(a0,J,a2,())) (r:=((ki a0 J a2),())) ⟨52,c5,[ahs,ahk]⟩ ⟨[],[(6,ahy,ahz)],[],[],[]⟩ (.lp [(0,7,.int)] [2,3,4,11,12] [(4,4),(3,5)] [.nat,(.l .int),.int] [bI 0,bI 0,13] (fun aL=>[(7,.ref 0 aL.1 aL.2.1.length false),(13,.i .i64 aL.2.2.1),(bI 0,.blk aL.1 .int aL.2.1 _ rfl)]) (fun aL=>ad aL.1 aL.2.1 aL.2.2.1) (fun aL=>ag aL.1 aL.2.1 aL.2.2.1) fun _=> .nil) Tryz.func99 h) (fun _ x v=>cq a0.O.length (fun _=>false) v∧x=ez (fun i=>oq a0 J i a2) v) (fun _ _ v=>cI a0.O.length v) (by
 unfold UA
 obtain⟨hf,aA,h1⟩:=ab
 have hw:=hf.fr.O
 have Dn:=hf.in.O
 have vA:=hf.in.a_
 intro af
 refine⟨⟨dB (dt _),rfl⟩,fun g x v aN=> ?_⟩
 obtain⟨aN,rfl⟩:=aN
 have jo:=aN.1
 have hlen:=vp (fun i=>oq a0 J i a2) v
 have LB:=aN.2.1
 refine⟨fun hv=>⟨by omega,?_⟩,fun hv=>⟨cA aN hv,?_⟩⟩
 ·have: ¬v<(a0.O.length:Int):=by simpa using hv
  rw[show v=(a0.O.length:Int) by omega];rfl
 have cz:=cA aN hv
 have a7:=dn (c_ af) aN hv rfl
 have sZ:IntKind.i64.wrap (v+1)=v+1:=mE (c_ af) jo (by simpa using hv)
 have tC:oq a0 J v a2=true→(cq a0.O.length (fun _=>false) (IntKind.i64.wrap (v+1))∧ez (fun i=>oq a0 J i a2) v++[v]=ez (fun i=>oq a0 J i a2) (IntKind.i64.wrap (v+1))):=fun h=>⟨a7.1,by rw[sZ,CU jo,if_pos h]⟩
 have no:oq a0 J v a2=false→(cq a0.O.length (fun _=>false) (IntKind.i64.wrap (v+1))∧ez (fun i=>oq a0 J i a2) v=ez (fun i=>oq a0 J i a2) (IntKind.i64.wrap (v+1))):=fun h=>⟨a7.1,by rw[sZ,CU jo,if_neg (by rw[h];simp)]⟩
 unfold UC UB x6 ME
 refine⟨⟨⟨jo,by omega⟩,fun az=>⟨no ?_,a7.2⟩⟩,fun az=>⟨fun _ _=>⟨⟨aA,by omega⟩,hf,jo,by omega⟩,⟨fun U=>⟨⟨?_,?_⟩,tC ?_,a7.2⟩,fun U=>⟨no ?_,a7.2⟩⟩⟩⟩
 ·unfold oq
  rw[show((nth J.O v).aJ !=0)=false by simpa using az];rfl
 ·simp only[List.length_singleton];omega
 ·simp only[List.length_singleton];omega
 ·unfold oq
  rw[show((nth J.O v).aJ !=0)=true by simpa using az];exact U
 ·unfold oq
  rw[show((nth J.O v).aJ !=0)=true by simpa using az];exact U)
def ahx:dl Tryz.prog:=⟨99,[.eL,.frame,.int],[(.l .int)],some fun x=>wh x.1 x.2.1 x.2.2.1,fun x=>((ki x.1 x.2.1 x.2.2.1),()),fun x h=>UD x.1 x.2.1 x.2.2.1 h⟩
end
section
variable (ad:Int→Prop) (ag:Int→Nat) (bd:Int→Int→Prop) (a6:Int→Int→Nat) (a0:aQ) (J:Frame) (a2 a3 aa dH eN:Int)
abbrev tu:=(nth a0.O a2).bA
abbrev u2:=(nth a0.O a2).cO
def anS:List Item:=(List.range 15).map cS
def anT:List (List Nat):=[[],[0],[],[0,1,2],rg 0 4,rg 0 5,rg 0 5,rg 0 5,rg 0 5,rg 0 5++[8],rg 0 5,rg 0 5++[8,9,10],rg 0 5++rg 8 12,rg 0 13,rg 0 14]
def aaa:Prop:=
  ((0≤eN∧eN.toNat<(tu a0 a2).length)∧((((nth (tu a0 a2) eN).bi==a3)=true→(0≤a3∧a3.toNat<a0.a_.length)∧(Ak a0 J a2 (nth a0.a_ a3)))∧((((nth (tu a0 a2) eN).bi==a3)&&(kD a0 J a2 (nth a0.a_ a3)))=true→(nth (tu a0 a2) eN).a1=aa)))∧((!(((nth (tu a0 a2) eN).bi==a3)&&(kD a0 J a2 (nth a0.a_ a3))))=true→bd dH (IntKind.i64.wrap (eN+1))∧a6 dH (IntKind.i64.wrap (eN+1))<a6 dH eN)
def aab:Prop:=
  ((decide (dH<((u2 a0 a2).length:Int)))=false→(0≤a2∧a2.toNat<a0.O.length)∧((tu a0 a2).length≤4611686018427387904→bd dH 0∧ ∀(eN:Int),bd dH eN→(((decide (eN<((tu a0 a2).length:Int)))=false→0=aa)∧((decide (eN<((tu a0 a2).length:Int)))=true→aaa bd a6 a0 J a2 a3 aa dH eN))))∧((decide (dH<((u2 a0 a2).length:Int)))=true→((0≤dH∧dH.toNat<(u2 a0 a2).length)∧(((nth (u2 a0 a2) dH).bi==a3)=true→(nth (u2 a0 a2) dH).a1=aa))∧((!((nth (u2 a0 a2) dH).bi==a3))=true→ad (IntKind.i64.wrap (dH+1))∧ag (IntKind.i64.wrap (dH+1))<ag dH))
def Z_ (a0:aQ) (J:Frame) (a2:Int) (a3:Int) (aa:Int) (ad:Int→Prop) (ag:Int→Nat) (bd:Int→Int→Prop) (a6:Int→Int→Nat):Prop:=
 ((0≤a2∧a2.toNat<J.O.length)∧(((nth J.O a2).aJ==0)=true→0=aa))∧((!((nth J.O a2).aJ==0))=true→(0≤a2∧a2.toNat<a0.O.length)∧((u2 a0 a2).length≤4611686018427387904→ad 0∧ ∀(dH:Int),ad dH→(aab ad ag bd a6 a0 J a2 a3 aa dH)))
theorem anQ (ab:Qt a0 J a2 a3):bf Tryz.prog 112 [.agg (bH false a0),.agg (b9 false J),ai a2,ai a3] (ai (rr a0 J a2 a3)):=(fun(ad:Int→Prop) (ag:Int→Nat) (bd:Int→Int→Prop) (a6:Int→Int→Nat) (h:Z_ a0 J a2 a3 (rr a0 J a2 a3) ad ag bd a6)=>bf.run (ps:=[.eL,.frame,.int,.int]) (rs:=[.int]) (x:=(a0,J,a2,a3,())) (r:=((rr a0 J a2 a3),())) ⟨67,c5,[anI]⟩ ⟨[],[(12,anS,anT)],[],[],[]⟩ (eY [2,3,4,5,25,26] [(5,4),(4,5)] 27 ad ag fun aL=>(eY [2,3,4,5,43,44] [(5,4),(4,5)] 45 (bd aL) (a6 aL) fun _=> .nil)) Tryz.func112 h) (cq (nth a0.O a2).cO.length (fun j=>(nth (nth a0.O a2).cO j).bi==a3)) (cI (nth a0.O a2).cO.length) (fun _=>cq (nth a0.O a2).bA.length (fun j=>(nth (nth a0.O a2).bA j).bi==a3&&kD a0 J a2 (nth a0.a_ a3))) (fun _=>cI (nth a0.O a2).bA.length) (by
 unfold Z_ u2
 obtain⟨hf,aA,h1,h2,aD⟩:=ab
 have hw:=hf.fr.O
 refine⟨⟨⟨aA,by omega⟩,fun az=> ?_⟩,fun az=>⟨⟨aA,by omega⟩,fun af=>⟨dB (dt _),fun v aN=> ?_⟩⟩⟩
 ·unfold rr;rw[if_pos (by simpa using az)]
 have az: ¬(nth J.O a2).aJ=0:=by simpa using az
 unfold aab u2 tu
 refine⟨fun hv=>⟨⟨aA,by omega⟩,fun hm=>⟨dB (dt _),fun k hK=> ?_⟩⟩,fun hv=>⟨⟨cA aN hv,fun hb=> ?_⟩,fun hb=>dn (c_ af) aN hv (not_eq hb)⟩⟩
 ·have aG:=sk (q:=fun x:c8=>x.bi==a3) aN hv
  unfold aaa tu
  refine⟨fun hk=> ?_,fun hk=>⟨⟨cA hK hk,fun _=>⟨⟨h2,by omega⟩,hf,aA,h1⟩,fun hb=> ?_⟩,fun hb=>dn (c_ hm) hK hk (not_eq hb)⟩⟩
  ·unfold rr
   rw[if_neg az,aG]
   simp only
   rw[sk (q:=fun x:c8=>x.bi==a3&&kD a0 J a2 (nth a0.a_ a3)) hK hk]
  ·unfold rr
   rw[if_neg az,aG]
   simp only
   rw[sj (q:=fun x:c8=>x.bi==a3&&kD a0 J a2 (nth a0.a_ a3)) hK hk hb]
   simp only[ml hK.1]
 ·unfold rr
  rw[if_neg az,sj (q:=fun x:c8=>x.bi==a3) aN hv hb]
  simp only[ml aN.1])
def anR:dl Tryz.prog:=⟨112,[.eL,.frame,.int,.int],[.int],some fun x=>Qt x.1 x.2.1 x.2.2.1 x.2.2.2.1,fun x=>((rr x.1 x.2.1 x.2.2.1 x.2.2.2.1),()),fun x h=>anQ x.1 x.2.1 x.2.2.1 x.2.2.2.1 h⟩
end
section
variable (ad:m6 Prop) (ag:m6 Nat) (a0:aQ) (J:Frame) (a2:Int) (g0:Nat) (aF:(List Int)) (v12:Int)
def ZT:Prop:=
  ((decide ((rr a0 J v12 a2)>0))=true→((aF.length+[v12].length)*8≤140737488355328∧aF.length+[v12].length≤4611686018427387904)∧(ad (g0+1) (aF++[v12]) (IntKind.i64.wrap (v12+1))∧ag (g0+1) (aF++[v12]) (IntKind.i64.wrap (v12+1))<ag g0 aF v12))∧((decide ((rr a0 J v12 a2)>0))=false→ad g0 aF (IntKind.i64.wrap (v12+1))∧ag g0 aF (IntKind.i64.wrap (v12+1))<ag g0 aF v12)
def ZS (a0:aQ) (J:Frame) (a2:Int) (aa:(List Int)) (ad:m6 Prop) (ag:m6 Nat):Prop:=
 a0.O.length≤4611686018427387904→ad 0 ([]:List Int) 0∧ ∀(g0:Nat) (aF:(List Int)) (v12:Int),ad g0 aF v12→(((decide (v12<(a0.O.length:Int)))=false→aF.length≤4611686018427387904∧aF=aa)∧((decide (v12<(a0.O.length:Int)))=true→(Qt a0 J v12 a2)∧(ZT ad ag a0 J a2 g0 aF v12)))
theorem ZU (ab:wh a0 J a2):bf Tryz.prog 81 [.agg (bH false a0),.agg (b9 false J),ai a2] (pe cB (ki a0 J a2)):=(fun(ad:m6 Prop) (ag:m6 Nat) (h:ZS a0 J a2 (ki a0 J a2) ad ag)=>bf.run (ps:=[.eL,.frame,.int]) (rs:=[(.l .int)]) (x:=(a0,J,a2,())) (r:=((ki a0 J a2),())) ⟨27,c5,[anR]⟩ ⟨[],[],[],[],[]⟩ (.lp [(0,7,.int)] [2,3,4,11] [(4,4),(3,5)] [.nat,(.l .int),.int] [bI 0,bI 0,12] (fun aL=>[(7,.ref 0 aL.1 aL.2.1.length false),(12,.i .i64 aL.2.2.1),(bI 0,.blk aL.1 .int aL.2.1 _ rfl)]) (fun aL=>ad aL.1 aL.2.1 aL.2.2.1) (fun aL=>ag aL.1 aL.2.1 aL.2.2.1) fun _=> .nil) Tryz.func81 h) (fun _ x v=>cq a0.O.length (fun _=>false) v∧x=ez (fun i=>oq a0 J i a2) v) (fun _ _ v=>cI a0.O.length v) (by
 unfold ZS
 obtain⟨hf,aA,h1⟩:=ab
 have Dn:=hf.in.O
 intro af
 refine⟨⟨dB (dt _),rfl⟩,fun g x v aN=> ?_⟩
 obtain⟨aN,rfl⟩:=aN
 have jo:=aN.1
 have hlen:=vp (fun i=>oq a0 J i a2) v
 have LB:=aN.2.1
 refine⟨fun hv=>⟨by omega,?_⟩,fun hv=>⟨⟨hf,jo,by have:=cA aN hv;omega,aA,h1⟩,?_⟩⟩
 ·have: ¬v<(a0.O.length:Int):=by simpa using hv
  rw[show v=(a0.O.length:Int) by omega];rfl
 have a7:=dn (c_ af) aN hv rfl
 have sZ:IntKind.i64.wrap (v+1)=v+1:=mE (c_ af) jo (by simpa using hv)
 unfold ZT
 rw[aoM hf.qb (cA aN hv).2]
 refine⟨fun U=>⟨⟨?_,?_⟩,⟨a7.1,by rw[sZ,CU jo,if_pos U]⟩,a7.2⟩,fun U=>⟨⟨a7.1,by rw[sZ,CU jo,if_neg (by rw[U];simp)]⟩,a7.2⟩⟩
 ·simp only[List.length_singleton];omega
 ·simp only[List.length_singleton];omega)
def anJ:dl Tryz.prog:=⟨81,[.eL,.frame,.int],[(.l .int)],some fun x=>wh x.1 x.2.1 x.2.2.1,fun x=>((ki x.1 x.2.1 x.2.2.1),()),fun x h=>ZU x.1 x.2.1 x.2.2.1 h⟩
end
section
abbrev B2 (r:Type):Type:=Nat→(List Int)→Int→Nat→(List Int)→Int→r
abbrev B3 (r:Type):Type:=Nat→(List Int)→Int→Nat→(List Int)→Int→Nat→(List Int)→Int→Bool→Bool→r
abbrev B4 (r:Type):Type:=Nat→(List Int)→Int→Nat→(List Int)→Int→Nat→(List Int)→Int→Bool→Bool→Nat→(List Int)→Int→Bool→Bool→r
variable (ad:m6 Prop) (ag:m6 Nat) (bd:B2 Prop) (a6:B2 Nat) (bX:B3 Prop) (bx:B3 Nat) (dI:B4 Prop) (dF:B4 Nat) (a0:aQ) (J:Frame) (a2:Int) (aa:su×Bool×Bool) (g0:Nat) (aF:(List Int)) (ec:Int) (g1:Nat) (aO:(List Int)) (v76:Int) (g2:Nat) (bC:(List Int)) (kr:Int) (fV cT:Bool) (eV:Int) (nl:Nat) (fE:(List Int)) (ol om:Bool)
abbrev L1:=(ec !=a2)&&(((nth J.O ec).aJ !=0)&&((nth (nth a0.bu a2) ec) || ((meets (nth a0.O a2).ao (nth a0.O ec).dk) || (meets (nth a0.O a2).dk (nth a0.O ec).ao))))
abbrev xX:=decide (((ki a0 J eV).length:Int)>0)
abbrev L2:=((nth (bY (nth a0.O a2)) kr).bi !=eV) || ((nth J.au eV).c6==(nth (bY (nth a0.O a2)) kr).a1)
abbrev vI:=IntKind.i64.wrap (kr+1)
abbrev L3:=(nth J.aB v76)&&((hF (nth a0.O a2).ao v76) || (hF (nth a0.O a2).dk v76))
abbrev xY:=nth J.aB (nth a0.a_ eV)
def ag1:List Item:=(List.range 15).map cS
def ag2:List (List Nat):=[[],[0],[],[0,1,2],rg 0 4,rg 0 5,rg 0 6,rg 0 5,rg 0 8,rg 0 9,rg 0 10,rg 0 5,rg 0 5++[11],rg 0 13,rg 0 14]
def ag3:List Item:=(List.range 10).map cS
def ag4:List (List Nat):=[[],[0],[],[2],[],[2,3,4],rg 2 6,rg 0 7,rg 0 8,rg 0 9]
def T4:Prop:=
  (((xX a0 J eV) || (xY a0 J eV))=true→((fE.length+[eV].length)*8≤140737488355328∧fE.length+[eV].length≤4611686018427387904)∧(dI g0 aF ec g1 aO v76 g2 bC eV fV cT (nl+1) (fE++[eV]) (vI kr) (ol || (xX a0 J eV)) (om || (xY a0 J eV))∧dF g0 aF ec g1 aO v76 g2 bC eV fV cT (nl+1) (fE++[eV]) (vI kr) (ol || (xX a0 J eV)) (om || (xY a0 J eV))<dF g0 aF ec g1 aO v76 g2 bC eV fV cT nl fE kr ol om))∧(((xX a0 J eV) || (xY a0 J eV))=false→dI g0 aF ec g1 aO v76 g2 bC eV fV cT nl fE (vI kr) (ol || (xX a0 J eV)) (om || (xY a0 J eV))∧dF g0 aF ec g1 aO v76 g2 bC eV fV cT nl fE (vI kr) (ol || (xX a0 J eV)) (om || (xY a0 J eV))<dF g0 aF ec g1 aO v76 g2 bC eV fV cT nl fE kr ol om)
def T5:Prop:=
  ((((nth (bY (nth a0.O a2)) kr).bi !=eV)=false→0≤eV∧eV.toNat<J.au.length)∧((L2 a0 J a2 kr eV)=true→dI g0 aF ec g1 aO v76 g2 bC eV fV cT nl fE (vI kr) ol om∧dF g0 aF ec g1 aO v76 g2 bC eV fV cT nl fE (vI kr) ol om<dF g0 aF ec g1 aO v76 g2 bC eV fV cT nl fE kr ol om))∧((!(L2 a0 J a2 kr eV))=true→(wh a0 J eV)∧((ki a0 J eV).length≤4611686018427387904→((0≤eV∧eV.toNat<a0.a_.length)∧(0≤(nth a0.a_ eV)∧(nth a0.a_ eV).toNat<J.aB.length))∧(T4 dI dF a0 J g0 aF ec g1 aO v76 g2 bC kr fV cT eV nl fE ol om)))
def T6:Prop:=
  ((decide (kr<((bY (nth a0.O a2)).length:Int)))=false→bX g0 aF ec g1 aO v76 nl fE (IntKind.i64.wrap (eV+1)) ol om∧bx g0 aF ec g1 aO v76 nl fE (IntKind.i64.wrap (eV+1)) ol om<bx g0 aF ec g1 aO v76 g2 bC eV fV cT)∧((decide (kr<((bY (nth a0.O a2)).length:Int)))=true→(0≤kr∧kr.toNat<(bY (nth a0.O a2)).length)∧(T5 dI dF a0 J a2 g0 aF ec g1 aO v76 g2 bC kr fV cT eV nl fE ol om))
def T7:Prop:=
  ((decide (eV<(a0.a_.length:Int)))=false→(aF.length≤4611686018427387904∧aF=aa.1.O)∧(aO.length≤4611686018427387904∧aO=aa.1.ao)∧(bC.length≤4611686018427387904∧bC=aa.1.au)∧(fV=aa.2.1)∧(cT=aa.2.2))∧((decide (eV<(a0.a_.length:Int)))=true→(A_ (nth a0.O a2))∧((bY (nth a0.O a2)).length≤4611686018427387904→dI g0 aF ec g1 aO v76 g2 bC eV fV cT g2 bC 0 fV cT∧ ∀(nl:Nat) (fE:(List Int)) (kr:Int) (ol:Bool) (om:Bool),dI g0 aF ec g1 aO v76 g2 bC eV fV cT nl fE kr ol om→(T6 bX bx dI dF a0 J a2 g0 aF ec g1 aO v76 g2 bC kr fV cT eV nl fE ol om)))
def T8:Prop:=
  ((L3 a0 J a2 v76)=true→((aO.length+[v76].length)*8≤140737488355328∧aO.length+[v76].length≤4611686018427387904)∧(bd g0 aF ec (g1+1) (aO++[v76]) (IntKind.i64.wrap (v76+1))∧a6 g0 aF ec (g1+1) (aO++[v76]) (IntKind.i64.wrap (v76+1))<a6 g0 aF ec g1 aO v76))∧((L3 a0 J a2 v76)=false→bd g0 aF ec g1 aO (IntKind.i64.wrap (v76+1))∧a6 g0 aF ec g1 aO (IntKind.i64.wrap (v76+1))<a6 g0 aF ec g1 aO v76)
def T9:Prop:=
  ((decide (v76<a0.ao))=false→a0.a_.length≤4611686018427387904→bX g0 aF ec g1 aO v76 0 ([]:List Int) 0 false false∧ ∀(g2:Nat) (bC:(List Int)) (eV:Int) (fV:Bool) (cT:Bool),bX g0 aF ec g1 aO v76 g2 bC eV fV cT→(T7 bX bx dI dF a0 J a2 aa g0 aF ec g1 aO v76 g2 bC fV cT eV))∧((decide (v76<a0.ao))=true→(0≤v76∧v76.toNat<J.aB.length)∧(T8 bd a6 a0 J a2 g0 aF ec g1 aO v76))
def T_:Prop:=
  ((L1 a0 J a2 ec)=true→((aF.length+[ec].length)*8≤140737488355328∧aF.length+[ec].length≤4611686018427387904)∧(ad (g0+1) (aF++[ec]) (IntKind.i64.wrap (ec+1))∧ag (g0+1) (aF++[ec]) (IntKind.i64.wrap (ec+1))<ag g0 aF ec))∧((L1 a0 J a2 ec)=false→ad g0 aF (IntKind.i64.wrap (ec+1))∧ag g0 aF (IntKind.i64.wrap (ec+1))<ag g0 aF ec)
def Ua:Prop:=
  ((decide (ec<(a0.O.length:Int)))=false→bd g0 aF ec 0 ([]:List Int) 0∧ ∀(g1:Nat) (aO:(List Int)) (v76:Int),bd g0 aF ec g1 aO v76→(T9 bd a6 bX bx dI dF a0 J a2 aa g0 aF ec g1 aO v76))∧((decide (ec<(a0.O.length:Int)))=true→(0≤ec∧ec.toNat<a0.O.length)∧(((ec !=a2)=true→(0≤ec∧ec.toNat<J.O.length)∧(((nth J.O ec).aJ !=0)=true→(0≤a2∧a2.toNat<a0.bu.length)∧(0≤ec∧ec.toNat<(nth a0.bu a2).length)))∧(T_ ad ag a0 J a2 g0 aF ec)))
def T3 (a0:aQ) (J:Frame) (a2:Int) (aa:su×Bool×Bool) (ad:m6 Prop) (ag:m6 Nat) (bd:B2 Prop) (a6:B2 Nat) (bX:B3 Prop) (bx:B3 Nat) (dI:B4 Prop) (dF:B4 Nat):Prop:=
 (0≤a2∧a2.toNat<a0.O.length)∧(a0.O.length≤4611686018427387904→ad 0 ([]:List Int) 0∧ ∀(g0:Nat) (aF:(List Int)) (ec:Int),ad g0 aF ec→(Ua ad ag bd a6 bX bx dI dF a0 J a2 aa g0 aF ec))
theorem agY (ab:sp a0 J a2):zf Tryz.prog 51 [.agg (bH false a0),.agg (b9 false J),ai a2] (.tup [.agg (FO true ((jT a0 J a2).1)),aq ((jT a0 J a2).2.1),aq ((jT a0 J a2).2.2)]):=(fun(ad:m6 Prop) (ag:m6 Nat) (bd:B2 Prop) (a6:B2 Nat) (bX:B3 Prop) (bx:B3 Nat) (dI:B4 Prop) (dF:B4 Nat) (h:T3 a0 J a2 (jT a0 J a2) ad ag bd a6 bX bx dI dF)=>zf.run (ps:=[.eL,.frame,.int]) (rs:=[.stays,.bool,.bool]) (x:=(a0,J,a2,())) (r:=((jT a0 J a2).1,(jT a0 J a2).2.1,(jT a0 J a2).2.2,())) ⟨169,c5,[MD,ahx,H0,MB]⟩ ⟨[],[(20,ag1,ag2),(22,ag3,ag4)],[],[],[]⟩ (.lp [(7,0,.int)] [2,3,4,6,7,8,9,24,25] [(9,5),(6,3),(4,4),(3,5)] [.nat,(.l .int),.int] [bI 0,bI 0,26] (fun aL=>[(26,.i .i64 aL.2.2.1),(kI 6 0,.ref 0 aL.1 aL.2.1.length false),(bI 0,.blk aL.1 .int aL.2.1 _ rfl)]) (fun aL=>ad aL.1 aL.2.1 aL.2.2.1) (fun aL=>ag aL.1 aL.2.1 aL.2.2.1) fun aL=>(.lp [(7,1,.int)] [3,4,6,7,8,9,75] [(9,5),(6,3),(4,4),(3,5)] [.nat,(.l .int),.int] [bI 1,bI 1,76] (fun bn=>[(76,.i .i64 bn.2.2.1),(kI 6 1,.ref 1 bn.1 bn.2.1.length false),(bI 1,.blk bn.1 .int bn.2.1 _ rfl)]) (fun bn=>bd aL.1 aL.2.1 aL.2.2.1 bn.1 bn.2.1 bn.2.2.1) (fun bn=>a6 aL.1 aL.2.1 aL.2.2.1 bn.1 bn.2.1 bn.2.2.1) fun bn=>(.lp [(7,2,.int)] [3,4,6,9,105] [(9,5),(6,3),(4,4),(3,5)] [.nat,(.l .int),.int,.bool,.bool] [bI 2,bI 2,106,7,8] (fun bK=>[(7,.b (.v bK.2.2.2.1)),(8,.b (.v bK.2.2.2.2.1)),(106,.i .i64 bK.2.2.1),(kI 6 2,.ref 2 bK.1 bK.2.1.length false),(bI 2,.blk bK.1 .int bK.2.1 _ rfl)]) (fun bK=>bX aL.1 aL.2.1 aL.2.2.1 bn.1 bn.2.1 bn.2.2.1 bK.1 bK.2.1 bK.2.2.1 bK.2.2.2.1 bK.2.2.2.2.1) (fun bK=>bx aL.1 aL.2.1 aL.2.2.1 bn.1 bn.2.1 bn.2.2.1 bK.1 bK.2.1 bK.2.2.1 bK.2.2.2.1 bK.2.2.2.2.1) fun bK=>(.lp [] [3,4,6,9,13,105,106,110,111] [(9,5),(6,3),(4,4),(3,5)] [.nat,(.l .int),.int,.bool,.bool] [bI 2,bI 2,112,7,8] (fun da=>[(7,.b (.v da.2.2.2.1)),(8,.b (.v da.2.2.2.2.1)),(112,.i .i64 da.2.2.1),(kI 6 2,.ref 2 da.1 da.2.1.length false),(bI 2,.blk da.1 .int da.2.1 _ rfl)]) (fun da=>dI aL.1 aL.2.1 aL.2.2.1 bn.1 bn.2.1 bn.2.2.1 bK.1 bK.2.1 bK.2.2.1 bK.2.2.2.1 bK.2.2.2.2.1 da.1 da.2.1 da.2.2.1 da.2.2.2.1 da.2.2.2.2.1) (fun da=>dF aL.1 aL.2.1 aL.2.2.1 bn.1 bn.2.1 bn.2.2.1 bK.1 bK.2.1 bK.2.2.1 bK.2.2.2.1 bK.2.2.2.2.1 da.1 da.2.1 da.2.2.1 da.2.2.2.1 da.2.2.2.2.1) fun _=> .nil)))) Tryz.func51 h) (fun _ x v=>cq a0.O.length (fun _=>false) v∧x=ez (nn a0 J a2) v) (fun _ _ v=>cI a0.O.length v) (fun _ aF _ _ aO v=>aF=ez (nn a0 J a2) a0.O.length∧cq a0.ao (fun _=>false) v∧aO=ez (pn a0 J a2) v) (fun _ _ _ _ _ v=>cI a0.ao v) (fun _ aF _ _ aO _ _ bC v a b=>aF=ez (nn a0 J a2) a0.O.length∧aO=ez (pn a0 J a2) a0.ao∧cq a0.a_.length (fun _=>false) v∧bC=ez (mg a0 J a2) v∧a=zQ a0 J a2 v∧b=Ew a0 J a2 v) (fun _ _ _ _ _ _ _ _ v _ _=>cI a0.a_.length v) (fun _ _ _ _ _ _ _ x k a b _ iX j hL bU=>abY a0 J a2 k x a b iX j hL bU) (fun _ _ _ _ _ _ _ _ _ _ _ _ _ j _ _=>cI (bY (nth a0.O a2)).length j) (by
 unfold T3
 obtain⟨hf,aA,h1⟩:=ab
 have hw:=hf.fr.O
 have mh:=hf.fr.au
 have sU:=hf.fr.aB
 have cF:=hf.in
 have Dn:=cF.O
 have Ap:=cF.bi
 have ul:=cF.c0
 have dq:=HD hf.qb
 have aM:a2.toNat<a0.O.length:=by omega
 have Dm:=ee aM
 have iY:=NA hf.qb Dm
 refine⟨⟨aA,aM⟩,fun af=>⟨⟨dB (dt _),rfl⟩,fun g x v aN=> ?_⟩⟩
 obtain⟨aN,rfl⟩:=aN
 have hlen:=vp (nn a0 J a2) v
 have LB:=aN.2.1
 unfold Ua
 refine⟨fun hv=>⟨⟨zP aN hv,dB ul.1,rfl⟩,fun g1 aO s eh=> ?_⟩,fun hv=>⟨cA aN hv,⟨fun _=> ?_,?_⟩⟩⟩
 ·obtain⟨iJ,eh,rfl⟩:=eh
  have afI:=vp (pn a0 J a2) s
  have agd:=eh.2.1
  unfold T9
  refine⟨fun hs hm=>⟨⟨iJ,zP eh hs,dB (dt _),rfl,rfl,rfl⟩,fun g2 bC k a b hK=> ?_⟩,fun hs=> ?_⟩
  ·obtain⟨_,qg,hK,rfl,rfl,rfl⟩:=hK
   have Gu:=vp (mg a0 J a2) k
   have vy:=hK.2.1
   unfold T7
   refine⟨fun hk=> ?_,fun hk=>⟨⟨by have:=(cF.bA _ Dm).1;omega,by have:=(cF.bA _ Dm).2.1;omega⟩,fun qf=> ?_⟩⟩
   ·have aG:=zP (q:=mg a0 J a2) hK hk
    have e:k=a0.a_.length:=by
     have: ¬k<(a0.a_.length:Int):=by simpa using hk
     omega
    refine⟨⟨by omega,iJ⟩,⟨by omega,qg⟩,⟨by omega,aG⟩,?_,?_⟩
    ·rw[e];rfl
    ·rw[e];rfl
   ·have Di:=cA hK hk
    have mT:=dn (c_ hm) hK hk rfl
    refine⟨⟨dB (dt _),by simp[pB],by simp[pB],by simp[pB]⟩,fun nl fE j hL bU bJ=> ?_⟩
    obtain⟨bJ,rfl,rfl,rfl⟩:=bJ
    unfold T6
    refine⟨fun ah=> ?_,fun ah=>⟨cA bJ ah,?_⟩⟩
    ·have jn: ¬j<((bY (nth a0.O a2)).length:Int):=by simpa using ah
     rw[al0 _ _ _ _ (j:=j.toNat) (by omega)]
     have s1:=sL (q:=mg a0 J a2) (c_ hm) hK hk
     have s2:=(sL (q:=fun k=>l4 a0 J a2 k&&jZ a0 J k) (c_ hm) hK hk).2.2
     have nC:=(sL (q:=fun k=>l4 a0 J a2 k&&lF a0 J k) (c_ hm) hK hk).2.2
     refine⟨⟨iJ,qg,mT.1,?_,s2.symm,nC.symm⟩,mT.2⟩
     cases U:mg a0 J a2 k with
     | true=>rw[if_pos (show(l4 a0 J a2 k&&(jZ a0 J k || lF a0 J k))=true from U)];exact s1.1 U
     | false=>rw[if_neg (by rw[show(l4 a0 J a2 k&&(jZ a0 J k || lF a0 J k))=false from U];simp)];exact s1.2.1 U
    ·have Gn:=cA bJ ah
     have Ad:=dn (c_ qf) bJ ah rfl
     have FQ:(IntKind.i64.wrap (j+1)).toNat=j.toNat+1:=by rw[mE (c_ qf) bJ.1 (by simpa using ah)];omega
     have uq:=al2 (f:=J) (k:=k) Gn.2
     have afQ:nth (bY (nth a0.O a2)) j=(bY (nth a0.O a2))[j.toNat]'Gn.2:=iN Gn.2
     have Lw:=cF.a_ _ (ee Di.2)
     have KX: ∀(c:Prop) [Decidable c],(if c then ez (mg a0 J a2) k++[k] else ez (mg a0 J a2) k).length≤41:=fun c _=>by
      split
      ·rw[List.length_append,List.length_singleton];omega
      ·omega
     unfold T5 vI L2
     rw[afQ]
     refine⟨⟨fun _=>⟨hK.1,by omega⟩,fun U=> ?_⟩,fun U=>⟨⟨hf,hK.1,by omega⟩,fun kc=>⟨⟨⟨hK.1,Di.2⟩,Lw.1,by omega⟩,?_⟩⟩⟩
     ·have:((bY (nth a0.O a2))[j.toNat].bi==k&& !((nth J.au k).c6==(bY (nth a0.O a2))[j.toNat].a1))=false:=by
       revert U
       rw[show((bY (nth a0.O a2))[j.toNat].bi !=k)= !((bY (nth a0.O a2))[j.toNat].bi==k) from rfl]
       cases((bY (nth a0.O a2))[j.toNat].bi==k)<;>cases((nth J.au k).c6==(bY (nth a0.O a2))[j.toNat].a1)<;>simp
      rw[this,Bool.or_false] at uq
      exact⟨⟨Ad.1,by rw[FQ,uq],by rw[FQ,uq],by rw[FQ,uq]⟩,Ad.2⟩
     ·have lx:((bY (nth a0.O a2))[j.toNat].bi==k)=true∧((nth J.au k).c6==(bY (nth a0.O a2))[j.toNat].a1)=false:=by
       revert U
       rw[show((bY (nth a0.O a2))[j.toNat].bi !=k)= !((bY (nth a0.O a2))[j.toNat].bi==k) from rfl]
       cases((bY (nth a0.O a2))[j.toNat].bi==k)<;>cases((nth J.au k).c6==(bY (nth a0.O a2))[j.toNat].a1)<;>simp
      have kW:=al1 (f:=J) iY Gn.2 lx.1
      rw[kW,lx.1,lx.2] at uq
      rw[kW]
      unfold T4 xY vI xX
      have jk:(decide (((ki a0 J k).length:Int)>0))=jZ a0 J k:=rfl
      have oy:nth J.aB (nth a0.a_ k)=lF a0 J k:=rfl
      rw[jk,oy]
      simp only[Bool.false_and,Bool.or_false,if_false,Bool.false_eq_true]
      have E: ∀c:Bool,(pB a0 J a2 k (IntKind.i64.wrap (j+1)).toNat&&c)=c:=fun c=>by rw[FQ,uq];rfl
      refine⟨fun hc=>⟨⟨by simp only[List.length_singleton];omega,by simp only[List.length_singleton];omega⟩,⟨Ad.1,?_,by rw[E],by rw[E]⟩,Ad.2⟩,fun hc=>⟨⟨Ad.1,?_,by rw[E],by rw[E]⟩,Ad.2⟩⟩
      ·rw[E,if_pos hc]
      ·rw[E,if_neg (by rw[hc];simp)]
  ·have uo:0≤s∧s<a0.ao:=⟨eh.1,by simpa using hs⟩
   have a7:=dn (N:=a0.ao) (by omega) eh hs rfl
   have s1:=sL (q:=pn a0 J a2) (N:=a0.ao) (by omega) eh hs
   refine⟨⟨eh.1,by omega⟩,?_⟩
   unfold T8 L3
   exact⟨fun U=>⟨⟨by simp only[List.length_singleton];omega,by simp only[List.length_singleton];omega⟩,⟨iJ,a7.1,s1.1 U⟩,a7.2⟩,fun U=>⟨⟨iJ,a7.1,s1.2.1 U⟩,a7.2⟩⟩
 ·have cz:=cA aN hv
  have iu:=dq.len
  have ew:=dq.row a2 aA h1
  exact⟨⟨cz.1,by omega⟩,fun _=>⟨⟨aA,by omega⟩,cz.1,by omega⟩⟩
 ·have a7:=dn (c_ af) aN hv rfl
  have s1:=sL (q:=nn a0 J a2) (c_ af) aN hv
  unfold T_ L1
  exact⟨fun U=>⟨⟨by simp only[List.length_singleton];omega,by simp only[List.length_singleton];omega⟩,⟨a7.1,s1.1 U⟩,a7.2⟩,fun U=>⟨⟨a7.1,s1.2.1 U⟩,a7.2⟩⟩)
theorem agZ (ab:sp a0 J a2):bf Tryz.prog 51 [.agg (bH false a0),.agg (b9 false J),ai a2] (.tup [.agg (FO true ((jT a0 J a2).1)),aq ((jT a0 J a2).2.1),aq ((jT a0 J a2).2.2)]):=(agY a0 J a2 ab).v
def ag0:dl Tryz.prog:=⟨51,[.eL,.frame,.int],[.stays,.bool,.bool],some fun x=>sp x.1 x.2.1 x.2.2.1,fun x=>((jT x.1 x.2.1 x.2.2.1).1,(jT x.1 x.2.1 x.2.2.1).2.1,(jT x.1 x.2.1 x.2.2.1).2.2,()),fun x h=>agZ x.1 x.2.1 x.2.2.1 h⟩
end
section
abbrev B5 (r:Type):Type:=Nat→(List Int)→Int→Int→r
abbrev B6 (r:Type):Type:=Nat→(List Int)→Int→Int→Nat→(List Int)→Int→Int→r
abbrev B7 (r:Type):Type:=Nat→(List Int)→Int→Int→Nat→(List Int)→Int→Int→Nat→(List Int)→Int→Int→r
abbrev B8 (r:Type):Type:=Nat→(List Int)→Int→Int→Nat→(List Int)→Int→Int→Nat→(List Int)→Int→Int→Int→Int→r
abbrev B9 (r:Type):Type:=Nat→(List Int)→Int→Int→Nat→(List Int)→Int→Int→Nat→(List Int)→Int→Int→Int→Int→Int→Int→r
variable (ad:B5 Prop) (ag:B5 Nat) (bd:B6 Prop) (a6:B6 Nat) (bX:B7 Prop) (bx:B7 Nat) (dI:B8 Prop) (dF:B8 Nat) (fW:B9 Prop) (f_:B9 Nat) (a0:aQ) (J:Frame) (a2:Int) (aa:su×Int) (g0:Nat) (aF:(List Int)) (v28 v9:Int) (g1:Nat) (aO:(List Int)) (v12 fb o4 m7 v127 tz:Int) (g2:Nat) (bC:(List Int)) (dR ck:Int)
abbrev pQ:=[(nth a0.O a2).bA,(nth a0.O a2).cO]
abbrev P0:=(v28 !=a2)&&(((nth J.O v28).aJ !=0)&&((nth (nth a0.bu a2) v28) || ((meets (nth a0.O a2).ao (nth a0.O v28).dk) || (meets (nth a0.O a2).dk (nth a0.O v28).ao))))
abbrev qy:=IntKind.i64.wrap (dR+1)
abbrev Ij:=(bC.length+[dR].length)*8≤140737488355328∧bC.length+[dR].length≤4611686018427387904
abbrev P1:=(nth J.aB v12)&&((meets [v12] (nth a0.O a2).ao) || (meets [v12] (nth a0.O a2).dk))
abbrev yX:=IntKind.i64.wrap (v12+1)
abbrev P2:=bif ((nth (nth (pQ a0 a2) v127) o4).bi==dR) then(nth (nth (pQ a0 a2) v127) o4).a1 else tz
def anO:List Item:=(List.range 44).map cS
def anP:List (List Nat):=[[],[],[0,1],[0,1,2],rg 0 4,rg 0 5,rg 0 4,rg 0 7,rg 0 8,rg 0 9,rg 0 10,rg 0 11,rg 0 12,rg 0 13,rg 0 14,rg 0 13,rg 0 16,rg 0 17,rg 0 13,rg 0 19,rg 0 20,rg 0 21,rg 0 22,rg 0 23,rg 0 22,rg 0 22++[24],rg 0 22,rg 0 22++[24,25,26],rg 0 22++rg 24 28,rg 0 22++rg 24 29,rg 0 30,rg 0 31,rg 0 32,rg 0 33,rg 0 34,rg 0 33,rg 0 33++[35],rg 0 33,rg 0 33++[35,36,37],rg 0 33++rg 35 39,rg 0 33++rg 35 40,rg 0 41,rg 0 42,rg 0 43]
def anM:List Item:=(List.range 9).map cS
def anN:List (List Nat):=[[],[0],[],[2],[],[2,3,4],rg 2 6,rg 0 7,rg 0 8]
def ZW:Prop:=
  ((ck==0)=true→bX g0 aF v28 v9 g1 aO v12 fb (g2+1) (bC++[dR]) (qy dR) 6∧bx g0 aF v28 v9 g1 aO v12 fb (g2+1) (bC++[dR]) (qy dR) 6<bx g0 aF v28 v9 g1 aO v12 fb g2 bC dR ck)∧((ck==0)=false→bX g0 aF v28 v9 g1 aO v12 fb (g2+1) (bC++[dR]) (qy dR) ck∧bx g0 aF v28 v9 g1 aO v12 fb (g2+1) (bC++[dR]) (qy dR) ck<bx g0 aF v28 v9 g1 aO v12 fb g2 bC dR ck)
def Z1:Prop:=
  ((nth J.aB (nth a0.a_ dR))=true→(Ij bC dR)∧(ZW bX bx g0 aF v28 v9 g1 aO v12 fb g2 bC dR ck))∧((nth J.aB (nth a0.a_ dR))=false→bX g0 aF v28 v9 g1 aO v12 fb g2 bC (qy dR) ck∧bx g0 aF v28 v9 g1 aO v12 fb g2 bC (qy dR) ck<bx g0 aF v28 v9 g1 aO v12 fb g2 bC dR ck)
def Z3:Prop:=
  ((decide (((ki a0 J dR).length:Int)>0))=true→(Ij bC dR)∧(bX g0 aF v28 v9 g1 aO v12 fb (g2+1) (bC++[dR]) (qy dR) 5∧bx g0 aF v28 v9 g1 aO v12 fb (g2+1) (bC++[dR]) (qy dR) 5<bx g0 aF v28 v9 g1 aO v12 fb g2 bC dR ck))∧((decide (((ki a0 J dR).length:Int)>0))=false→((0≤dR∧dR.toNat<a0.a_.length)∧(0≤(nth a0.a_ dR)∧(nth a0.a_ dR).toNat<J.aB.length))∧(Z1 bX bx a0 J g0 aF v28 v9 g1 aO v12 fb g2 bC dR ck))
def Z4:Prop:=
  fW g0 aF v28 v9 g1 aO v12 fb g2 bC dR ck v127 m7 (IntKind.i64.wrap (o4+1)) (P2 a0 a2 o4 v127 tz dR)∧f_ g0 aF v28 v9 g1 aO v12 fb g2 bC dR ck v127 m7 (IntKind.i64.wrap (o4+1)) (P2 a0 a2 o4 v127 tz dR)<f_ g0 aF v28 v9 g1 aO v12 fb g2 bC dR ck v127 m7 o4 tz
def Z5:Prop:=
  ((decide (o4<((nth (pQ a0 a2) v127).length:Int)))=false→dI g0 aF v28 v9 g1 aO v12 fb g2 bC dR ck (IntKind.i64.wrap (v127+1)) tz∧dF g0 aF v28 v9 g1 aO v12 fb g2 bC dR ck (IntKind.i64.wrap (v127+1)) tz<dF g0 aF v28 v9 g1 aO v12 fb g2 bC dR ck v127 m7)∧((decide (o4<((nth (pQ a0 a2) v127).length:Int)))=true→(0≤o4∧o4.toNat<(nth (pQ a0 a2) v127).length)∧(Z4 fW f_ a0 a2 g0 aF v28 v9 g1 aO v12 fb o4 m7 v127 tz g2 bC dR ck))
def Z6:Prop:=
  (0≤v127∧v127.toNat<(pQ a0 a2).length)∧((nth (pQ a0 a2) v127).length≤4611686018427387904→fW g0 aF v28 v9 g1 aO v12 fb g2 bC dR ck v127 m7 0 m7∧ ∀(o4:Int) (tz:Int),fW g0 aF v28 v9 g1 aO v12 fb g2 bC dR ck v127 m7 o4 tz→(Z5 dI dF fW f_ a0 a2 g0 aF v28 v9 g1 aO v12 fb o4 m7 v127 tz g2 bC dR ck))
def Z7:Prop:=
  ((decide (v127<((pQ a0 a2).length:Int)))=false→(((m7==0)=false→0≤dR∧dR.toNat<J.au.length)∧(((m7==0) || (m7==(nth J.au dR).c6))=true→bX g0 aF v28 v9 g1 aO v12 fb g2 bC (qy dR) ck∧bx g0 aF v28 v9 g1 aO v12 fb g2 bC (qy dR) ck<bx g0 aF v28 v9 g1 aO v12 fb g2 bC dR ck))∧((!((m7==0) || (m7==(nth J.au dR).c6)))=true→(wh a0 J dR)∧((ki a0 J dR).length≤4611686018427387904→Z3 bX bx a0 J g0 aF v28 v9 g1 aO v12 fb g2 bC dR ck)))∧((decide (v127<((pQ a0 a2).length:Int)))=true→Z6 dI dF fW f_ a0 a2 g0 aF v28 v9 g1 aO v12 fb m7 v127 g2 bC dR ck)
def Z8:Prop:=
  ((decide (dR<(a0.a_.length:Int)))=false→(aF.length≤4611686018427387904∧aF=aa.1.O)∧(aO.length≤4611686018427387904∧aO=aa.1.ao)∧(bC.length≤4611686018427387904∧bC=aa.1.au)∧((bif (fb==0) then ck else fb)=aa.2))∧((decide (dR<(a0.a_.length:Int)))=true→(pQ a0 a2).length≤4611686018427387904→dI g0 aF v28 v9 g1 aO v12 fb g2 bC dR ck 0 0∧ ∀(v127:Int) (m7:Int),dI g0 aF v28 v9 g1 aO v12 fb g2 bC dR ck v127 m7→(Z7 bX bx dI dF fW f_ a0 J a2 g0 aF v28 v9 g1 aO v12 fb m7 v127 g2 bC dR ck))
def Z9:Prop:=
  ((P1 a0 J a2 v12)=true→((aO.length+[v12].length)*8≤140737488355328∧aO.length+[v12].length≤4611686018427387904)∧(((fb==0)=true→bd g0 aF v28 v9 (g1+1) (aO++[v12]) (yX v12) 4∧a6 g0 aF v28 v9 (g1+1) (aO++[v12]) (yX v12) 4<a6 g0 aF v28 v9 g1 aO v12 fb)∧((fb==0)=false→bd g0 aF v28 v9 (g1+1) (aO++[v12]) (yX v12) fb∧a6 g0 aF v28 v9 (g1+1) (aO++[v12]) (yX v12) fb<a6 g0 aF v28 v9 g1 aO v12 fb)))∧((P1 a0 J a2 v12)=false→bd g0 aF v28 v9 g1 aO (yX v12) fb∧a6 g0 aF v28 v9 g1 aO (yX v12) fb<a6 g0 aF v28 v9 g1 aO v12 fb)
def ZX:Prop:=
  ((decide (v12<a0.ao))=false→a0.a_.length≤4611686018427387904→bX g0 aF v28 v9 g1 aO v12 fb 0 ([]:List Int) 0 0∧ ∀(g2:Nat) (bC:(List Int)) (dR:Int) (ck:Int),bX g0 aF v28 v9 g1 aO v12 fb g2 bC dR ck→(Z8 bX bx dI dF fW f_ a0 J a2 aa g0 aF v28 v9 g1 aO v12 fb g2 bC dR ck))∧((decide (v12<a0.ao))=true→(0≤v12∧v12.toNat<J.aB.length)∧(Z9 bd a6 a0 J a2 g0 aF v28 v9 g1 aO v12 fb))
def ZY:Prop:=
  ((P0 a0 J a2 v28)=true→((aF.length+[v28].length)*8≤140737488355328∧aF.length+[v28].length≤4611686018427387904)∧(ad (g0+1) (aF++[v28]) (IntKind.i64.wrap (v28+1)) 3∧ag (g0+1) (aF++[v28]) (IntKind.i64.wrap (v28+1)) 3<ag g0 aF v28 v9))∧((P0 a0 J a2 v28)=false→ad g0 aF (IntKind.i64.wrap (v28+1)) v9∧ag g0 aF (IntKind.i64.wrap (v28+1)) v9<ag g0 aF v28 v9)
def ZZ:Prop:=
  ((v28 !=a2)=true→(0≤v28∧v28.toNat<J.O.length)∧(((nth J.O v28).aJ !=0)=true→(0≤a2∧a2.toNat<a0.bu.length)∧((0≤v28∧v28.toNat<(nth a0.bu a2).length)∧((nth (nth a0.bu a2) v28)=false→(0≤v28∧v28.toNat<a0.O.length)∧((meets (nth a0.O a2).ao (nth a0.O v28).dk)=false→0≤v28∧v28.toNat<a0.O.length)))))∧(ZY ad ag a0 J a2 g0 aF v28 v9)
def Z0:Prop:=
  ad 0 ([]:List Int) 0 0∧ ∀(g0:Nat) (aF:(List Int)) (v28:Int) (v9:Int),ad g0 aF v28 v9→(((decide (v28<(a0.O.length:Int)))=false→bd g0 aF v28 v9 0 ([]:List Int) 0 v9∧ ∀(g1:Nat) (aO:(List Int)) (v12:Int) (fb:Int),bd g0 aF v28 v9 g1 aO v12 fb→(ZX bd a6 bX bx dI dF fW f_ a0 J a2 aa g0 aF v28 v9 g1 aO v12 fb))∧((decide (v28<(a0.O.length:Int)))=true→ZZ ad ag a0 J a2 g0 aF v28 v9))
def ZV (a0:aQ) (J:Frame) (a2:Int) (aa:su×Int) (ad:B5 Prop) (ag:B5 Nat) (bd:B6 Prop) (a6:B6 Nat) (bX:B7 Prop) (bx:B7 Nat) (dI:B8 Prop) (dF:B8 Nat) (fW:B9 Prop) (f_:B9 Nat):Prop:=
 (0≤a2∧a2.toNat<a0.O.length)∧(a0.O.length≤4611686018427387904→Z0 ad ag bd a6 bX bx dI dF fW f_ a0 J a2 aa)
theorem anK (ab:sp a0 J a2):bf Tryz.prog 42 [.agg (bH false a0),.agg (b9 false J),ai a2] (.tup [.agg (FO true ((wO a0 J a2).1)),ai ((wO a0 J a2).2)]):=(fun(ad:B5 Prop) (ag:B5 Nat) (bd:B6 Prop) (a6:B6 Nat) (bX:B7 Prop) (bx:B7 Nat) (dI:B8 Prop) (dF:B8 Nat) (fW:B9 Prop) (f_:B9 Nat) (h:ZV a0 J a2 (wO a0 J a2) ad ag bd a6 bX bx dI dF fW f_)=>bf.run (ps:=[.eL,.frame,.int]) (rs:=[.stays,.int]) (x:=(a0,J,a2,())) (r:=((wO a0 J a2).1,(wO a0 J a2).2,())) ⟨192,c5,[anJ,O_]⟩ ⟨[],[(7,anO,anP),(37,anM,anN)],[],[],[]⟩ (.lp [(9,0,.int)] [2,3,4,6,8,10,27] [(10,5),(8,3),(6,3),(4,4),(3,5)] [.nat,(.l .int),.int,.int] [bI 0,bI 0,28,9] (fun aL=>[(9,.i .i64 aL.2.2.2.1),(28,.i .i64 aL.2.2.1),(kI 8 0,.ref 0 aL.1 aL.2.1.length false),(bI 0,.blk aL.1 .int aL.2.1 _ rfl)]) (fun aL=>ad aL.1 aL.2.1 aL.2.2.1 aL.2.2.2.1) (fun aL=>ag aL.1 aL.2.1 aL.2.2.1 aL.2.2.2.1) fun aL=>(.lp [(9,1,.int)] [3,4,6,8,10] [(10,5),(8,3),(6,3),(4,4),(3,5)] [.nat,(.l .int),.int,.int] [bI 1,bI 1,12,9] (fun bn=>[(9,.i .i64 bn.2.2.2.1),(12,.i .i64 bn.2.2.1),(kI 8 1,.ref 1 bn.1 bn.2.1.length false),(bI 1,.blk bn.1 .int bn.2.1 _ rfl)]) (fun bn=>bd aL.1 aL.2.1 aL.2.2.1 aL.2.2.2.1 bn.1 bn.2.1 bn.2.2.1 bn.2.2.2.1) (fun bn=>a6 aL.1 aL.2.1 aL.2.2.1 aL.2.2.2.1 bn.1 bn.2.1 bn.2.2.1 bn.2.2.2.1) fun bn=>(.lp [(9,2,.int)] [3,4,6,8,9,10,117] [(10,5),(8,3),(6,3),(4,4),(3,5)] [.nat,(.l .int),.int,.int] [bI 2,bI 2,118,13] (fun bK=>[(13,.i .i64 bK.2.2.2.1),(118,.i .i64 bK.2.2.1),(kI 8 2,.ref 2 bK.1 bK.2.1.length false),(bI 2,.blk bK.1 .int bK.2.1 _ rfl)]) (fun bK=>bX aL.1 aL.2.1 aL.2.2.1 aL.2.2.2.1 bn.1 bn.2.1 bn.2.2.1 bn.2.2.2.1 bK.1 bK.2.1 bK.2.2.1 bK.2.2.2.1) (fun bK=>bx aL.1 aL.2.1 aL.2.2.1 aL.2.2.2.1 bn.1 bn.2.1 bn.2.2.1 bn.2.2.2.1 bK.1 bK.2.1 bK.2.2.1 bK.2.2.2.1) fun bK=>(.lp [] [3,4,6,8,9,10,13,14,117,118,125,126] [(10,5),(8,3),(6,3),(4,4),(3,5)] [.int,.int] [127,15] (fun da=>[(15,.i .i64 da.2.1),(127,.i .i64 da.1)]) (fun da=>dI aL.1 aL.2.1 aL.2.2.1 aL.2.2.2.1 bn.1 bn.2.1 bn.2.2.1 bn.2.2.2.1 bK.1 bK.2.1 bK.2.2.1 bK.2.2.2.1 da.1 da.2.1) (fun da=>dF aL.1 aL.2.1 aL.2.2.1 aL.2.2.2.1 bn.1 bn.2.1 bn.2.2.1 bn.2.2.2.1 bK.1 bK.2.1 bK.2.2.1 bK.2.2.2.1 da.1 da.2.1) fun da=>(.lp [] [3,4,6,8,9,10,13,14,117,118,125,126,127,131,132] [(10,5),(8,3),(6,3),(4,4),(3,5)] [.int,.int] [133,15] (fun jh=>[(15,.i .i64 jh.2.1),(133,.i .i64 jh.1)]) (fun jh=>fW aL.1 aL.2.1 aL.2.2.1 aL.2.2.2.1 bn.1 bn.2.1 bn.2.2.1 bn.2.2.2.1 bK.1 bK.2.1 bK.2.2.1 bK.2.2.2.1 da.1 da.2.1 jh.1 jh.2.1) (fun jh=>f_ aL.1 aL.2.1 aL.2.2.1 aL.2.2.2.1 bn.1 bn.2.1 bn.2.2.1 bn.2.2.2.1 bK.1 bK.2.1 bK.2.2.1 bK.2.2.2.1 da.1 da.2.1 jh.1 jh.2.1) fun _=> .nil))))) Tryz.func42 h) (fun _ x v c=>cq a0.O.length (fun _=>false) v∧x=ez (nn a0 J a2) v∧c=(if x≠[] then 3 else 0)) (fun _ _ v _=>cI a0.O.length v) (fun _ aF _ _ _ aO v c=>aF=ez (nn a0 J a2) a0.O.length∧cq a0.ao (fun _=>false) v∧aO=ez (pn a0 J a2) v∧c=(if aF≠[] then 3 else if aO≠[] then 4 else 0)) (fun _ _ _ _ _ _ v _=>cI a0.ao v) (fun _ aF _ _ _ aO _ c _ bC v h=>aF=ez (nn a0 J a2) a0.O.length∧aO=ez (pn a0 J a2) a0.ao∧c=(if aF≠[] then 3 else if aO≠[] then 4 else 0)∧cq a0.a_.length (fun _=>false) v∧bC=ez (mg a0 J a2) v∧h=Aa a0 J a2 v) (fun _ _ _ _ _ _ _ _ _ _ v _=>cI a0.a_.length v) (fun _ _ _ _ _ _ _ _ _ _ k _ i l=>cq ([(nth a0.O a2).bA,(nth a0.O a2).cO].length:Int) (fun _=>false) i∧l=te 0 ([(nth a0.O a2).bA,(nth a0.O a2).cO].take i.toNat).flatten k) (fun _ _ _ _ _ _ _ _ _ _ _ _ i _=>cI ([(nth a0.O a2).bA,(nth a0.O a2).cO].length:Int) i) (fun _ _ _ _ _ _ _ _ _ _ k _ i l j fQ=>cq (nth [(nth a0.O a2).bA,(nth a0.O a2).cO] i).length (fun _=>false) j∧fQ=te l ((nth [(nth a0.O a2).bA,(nth a0.O a2).cO] i).take j.toNat) k) (fun _ _ _ _ _ _ _ _ _ _ _ _ i _ j _=>cI (nth [(nth a0.O a2).bA,(nth a0.O a2).cO] i).length j) (by
 unfold ZV Z0
 obtain⟨hf,aA,h1⟩:=ab
 have hw:=hf.fr.O
 have mh:=hf.fr.au
 have sU:=hf.fr.aB
 have cF:=hf.in
 have Dn:=cF.O
 have Ap:=cF.bi
 have ul:=cF.c0
 have dq:=HD hf.qb
 have aM:a2.toNat<a0.O.length:=by omega
 have Dm:=ee aM
 have iY:=NA hf.qb Dm
 refine⟨⟨aA,aM⟩,fun af=>⟨⟨dB (dt _),rfl,rfl⟩,fun g x v c aN=> ?_⟩⟩
 obtain⟨aN,rfl,rfl⟩:=aN
 have hlen:=vp (nn a0 J a2) v
 have LB:=aN.2.1
 refine⟨fun hv=>⟨⟨zP aN hv,dB ul.1,rfl,by simp[adG]⟩,fun g1 aO s bk eh=> ?_⟩,fun hv=> ?_⟩
 ·obtain⟨iJ,eh,rfl,rfl⟩:=eh
  have afI:=vp (pn a0 J a2) s
  have agd:=eh.2.1
  unfold ZX
  refine⟨fun hs hm=>⟨⟨iJ,zP eh hs,rfl,dB (dt _),rfl,rfl⟩,fun g2 bC k aW hK=> ?_⟩,fun hs=> ?_⟩
  ·obtain⟨_,qg,hc,hK,rfl,rfl⟩:=hK
   have Gu:=vp (mg a0 J a2) k
   have vy:=hK.2.1
   unfold Z8 pQ
   refine⟨fun hk=> ?_,fun hk h2=>⟨⟨dB (dt _),rfl⟩,fun i l bJ=> ?_⟩⟩
   ·have aG:=zP (q:=mg a0 J a2) hK hk
    have e:k=a0.a_.length:=by
     have: ¬k<(a0.a_.length:Int):=by simpa using hk
     omega
    refine⟨⟨by omega,iJ⟩,⟨by omega,qg⟩,⟨by omega,aG⟩,?_⟩
    show _=codeF a0 J a2
    unfold codeF
    show _=if ez (nn a0 J a2) a0.O.length≠[] then 3 else if ez (pn a0 J a2) a0.ao≠[] then 4 else _
    rw[iJ,qg]
    by_cases lM:ez (nn a0 J a2) a0.O.length≠[]
    ·rw[if_pos lM,if_pos lM];rfl
    ·rw[if_neg lM,if_neg lM]
     by_cases z2:ez (pn a0 J a2) a0.ao≠[]
     ·rw[if_pos z2,if_pos z2];rfl
     ·rw[if_neg z2,if_neg z2,e];rfl
   ·have Di:=cA hK hk
    have mT:=dn (c_ hm) hK hk rfl
    have s1:=sL (q:=mg a0 J a2) (c_ hm) hK hk
    have s2:=(sL (q:=fun k=>l4 a0 J a2 k&&jZ a0 J k) (c_ hm) hK hk).2.2
    have nC:=(sL (q:=fun k=>l4 a0 J a2 k&&lF a0 J k) (c_ hm) hK hk).2.2
    have xQ:zQ a0 J a2 (IntKind.i64.wrap (k+1))=(zQ a0 J a2 k || (l4 a0 J a2 k&&jZ a0 J k)):=s2
    have xR:Ew a0 J a2 (IntKind.i64.wrap (k+1))=(Ew a0 J a2 k || (l4 a0 J a2 k&&lF a0 J k)):=nC
    obtain⟨bJ,rfl⟩:=bJ
    unfold Z7 qy pQ
    refine⟨fun hi=> ?_,fun hi=> ?_⟩
    ·have afE:i=2:=by
      have a:=bJ.2.1
      have: ¬i<(([(nth a0.O a2).bA,(nth a0.O a2).cO].length:Nat):Int):=by simpa using hi
      simp at a this;omega
     have bq:(List.take i.toNat [(nth a0.O a2).bA,(nth a0.O a2).cO]).flatten=bY (nth a0.O a2):=by rw[afE];simp[bY]
     rw[bq]
     have an:=ajS (f:=J) (k:=k) hf.qb aM
     refine⟨⟨fun _=>⟨hK.1,by omega⟩,fun U=> ?_⟩,fun U=>⟨⟨hf,hK.1,by omega⟩,fun kc=> ?_⟩⟩
     ·rw[an] at U
      have U:l4 a0 J a2 k=false:=by simpa using U
      refine⟨⟨iJ,qg,hc,mT.1,s1.2.1 (by unfold mg;rw[U];rfl),?_⟩,mT.2⟩
      unfold Aa;rw[xQ,xR,U];simp
     ·rw[an] at U
      have U:l4 a0 J a2 k=true:=by simpa using U
      have Lw:=cF.a_ _ (ee Di.2)
      unfold Z3 Ij qy
      have jk:(decide (((ki a0 J k).length:Int)>0))=jZ a0 J k:=rfl
      rw[jk]
      rw[U,Bool.true_and] at xQ xR
      have zz:((ez (mg a0 J a2) k).length+[k].length)*8≤140737488355328∧(ez (mg a0 J a2) k).length+[k].length≤4611686018427387904:=by
       simp only[List.length_singleton];omega
      refine⟨fun aw=>⟨zz,⟨iJ,qg,hc,mT.1,s1.1 (by unfold mg;rw[U,aw];rfl),?_⟩,mT.2⟩,fun aw=>⟨⟨⟨hK.1,Di.2⟩,Lw.1,by omega⟩,?_⟩⟩
      ·unfold Aa;rw[xQ,aw,Bool.or_true];rfl
      ·rw[aw,Bool.or_false] at xQ
       unfold Z1 ZW Ij qy
       have oy:nth J.aB (nth a0.a_ k)=lF a0 J k:=rfl
       rw[oy]
       refine⟨fun Dq=>⟨zz,?_⟩,fun Dq=>⟨⟨iJ,qg,hc,mT.1,s1.2.1 (by unfold mg;rw[U,aw,Dq];rfl),?_⟩,mT.2⟩⟩
       ·rw[Dq,Bool.or_true] at xR
        have bw:=s1.1 (show mg a0 J a2 k=true by unfold mg;rw[U,aw,Dq];rfl)
        refine⟨fun az=>⟨⟨iJ,qg,hc,mT.1,bw,?_⟩,mT.2⟩,fun az=>⟨⟨iJ,qg,hc,mT.1,bw,?_⟩,mT.2⟩⟩
        ·unfold Aa at az ⊢
         rw[xQ,xR]
         cases cl:zQ a0 J a2 k with
         | true=>rw[cl] at az;simp at az
         | false=>simp
        ·unfold Aa at az ⊢
         rw[xQ,xR]
         cases cl:zQ a0 J a2 k with
         | true=>simp
         | false=>
          rw[cl] at az
          cases cC:Ew a0 J a2 k with
          | true=>simp
          | false=>rw[cC] at az;simp at az
       ·rw[Dq,Bool.or_false] at xR
        unfold Aa;rw[xQ,xR]
    ·unfold Z6 pQ
     refine⟨cA bJ hi,fun kb=>⟨⟨dB (dt _),rfl⟩,fun j fQ xn=> ?_⟩⟩
     obtain⟨xn,rfl⟩:=xn
     unfold Z5 Z4 P2 pQ
     refine⟨fun ah=> ?_,fun ah=>⟨cA xn ah,?_⟩⟩
     ·have a7:=dn (c_ h2) bJ hi rfl
      refine⟨⟨a7.1,?_⟩,a7.2⟩
      have fx:=cA bJ hi
      rw[mE (c_ h2) bJ.1 (by simpa using hi),show(i+1).toNat=i.toNat+1 by omega,List.take_succ_eq_append_getElem fx.2,List.flatten_append]
      have jn: ¬j<((nth [(nth a0.O a2).bA,(nth a0.O a2).cO] i).length:Int):=by simpa using ah
      have S_:=xn.1
      have aY:(nth [(nth a0.O a2).bA,(nth a0.O a2).cO] i).take j.toNat=nth [(nth a0.O a2).bA,(nth a0.O a2).cO] i:=List.take_of_length_le (by omega)
      rw[aY,iN fx.2]
      unfold te
      rw[List.foldl_append]
      simp
     ·have a7:=dn (c_ kb) xn ah rfl
      refine⟨⟨a7.1,?_⟩,a7.2⟩
      have jn:=cA xn ah
      rw[mE (c_ kb) xn.1 (by simpa using ah),show(j+1).toNat=j.toNat+1 by omega,List.take_succ_eq_append_getElem jn.2,iN jn.2]
      unfold te
      rw[List.foldl_append];rfl
  ·have uo:0≤s∧s<a0.ao:=⟨eh.1,by simpa using hs⟩
   have a7:=dn (N:=a0.ao) (by omega) eh hs rfl
   have s1:=sL (q:=pn a0 J a2) (N:=a0.ao) (by omega) eh hs
   refine⟨⟨eh.1,by omega⟩,?_⟩
   unfold Z9 yX P1
   rw[AQ,AQ]
   have zz:((ez (pn a0 J a2) s).length+[s].length)*8≤140737488355328∧(ez (pn a0 J a2) s).length+[s].length≤4611686018427387904:=by
    simp only[List.length_singleton];omega
   refine⟨fun U=>⟨zz,fun az=> ?_,fun az=> ?_⟩,fun U=>⟨⟨iJ,a7.1,s1.2.1 U,?_⟩,a7.2⟩⟩
   ·refine⟨⟨iJ,a7.1,s1.1 U,?_⟩,a7.2⟩
    by_cases z:ez (nn a0 J a2) v≠[]
    ·rw[if_pos z] at az;simp at az
    ·rw[if_neg z,if_pos (by simp)]
   ·refine⟨⟨iJ,a7.1,s1.1 U,?_⟩,a7.2⟩
    by_cases z:ez (nn a0 J a2) v≠[]
    ·rw[if_pos z,if_pos z]
    ·rw[if_neg z,if_neg z]
     rw[if_neg z] at az
     by_cases z2:ez (pn a0 J a2) s≠[]
     ·rw[if_pos z2,if_pos (by simp)]
     ·rw[if_neg z2] at az;simp at az
   ·rfl
 ·have cz:=cA aN hv
  have iu:=dq.len
  have ew:=dq.row a2 aA h1
  have a7:=dn (c_ af) aN hv rfl
  have s1:=sL (q:=nn a0 J a2) (c_ af) aN hv
  unfold ZZ ZY P0
  have zz:((ez (nn a0 J a2) v).length+[v].length)*8≤140737488355328∧(ez (nn a0 J a2) v).length+[v].length≤4611686018427387904:=by
   simp only[List.length_singleton];omega
  refine⟨fun _=>⟨⟨cz.1,by omega⟩,fun _=>⟨⟨aA,by omega⟩,⟨cz.1,by omega⟩,fun _=>⟨cz,fun _=>cz⟩⟩⟩,fun U=>⟨zz,⟨a7.1,s1.1 U,by rw[if_pos (by simp)]⟩,a7.2⟩,fun U=>⟨⟨a7.1,s1.2.1 U,rfl⟩,a7.2⟩⟩)
def anL:dl Tryz.prog:=⟨42,[.eL,.frame,.int],[.stays,.int],some fun x=>sp x.1 x.2.1 x.2.2.1,fun x=>((wO x.1 x.2.1 x.2.2.1).1,(wO x.1 x.2.1 x.2.2.1).2,()),fun x h=>anK x.1 x.2.1 x.2.2.1 h⟩
end
section
variable (a0:aQ) (J:Frame) (a2 aa:Int)
def aac:Prop:=
 ((0≤a2∧a2.toNat<J.O.length)∧(((nth J.O a2).aJ !=0)=true→2=aa))∧((!((nth J.O a2).aJ !=0))=true→(sp a0 J a2)∧((wO a0 J a2).2=aa))
theorem anU (ab:sp a0 J a2):bf Tryz.prog 78 [.agg (bH false a0),.agg (b9 false J),ai a2] (ai (h9 a0 J a2)):=(fun(h:aac a0 J a2 (h9 a0 J a2))=>bf.run (ps:=[.eL,.frame,.int]) (rs:=[.int]) (x:=(a0,J,a2,())) (r:=((h9 a0 J a2),())) ⟨24,c5,[anL]⟩ ⟨[],[],[],[],[]⟩ .nil Tryz.func78 h) (by
 unfold aac
 have vC:=ab
 obtain⟨hf,aA,h1⟩:=vC
 have hw:=hf.fr.O
 refine⟨⟨⟨aA,by omega⟩,fun az=> ?_⟩,fun az=>⟨ab,?_⟩⟩
 ·unfold h9;rw[if_pos (by simpa using az)]
 ·unfold h9;rw[if_neg (by simpa using az)];rfl)
end
section
variable (a0:aQ) (J:Frame) (a2 aa:Int)
abbrev G3:=decide ((((jT a0 J a2).1).ao.length:Int)>0)
abbrev G4:=decide ((((jT a0 J a2).1).O.length:Int)>0)
def U8:Prop:=
  ((G4 a0 J a2)=true→3=aa)∧((G4 a0 J a2)=false→((jT a0 J a2).1).ao.length≤4611686018427387904→((G3 a0 J a2)=true→4=aa)∧((G3 a0 J a2)=false→((jT a0 J a2).2.1=true→5=aa)∧((jT a0 J a2).2.1=false→(jT a0 J a2).2.2=true→6=aa)))
def U9:Prop:=
  ((0≤a2∧a2.toNat<J.O.length)∧((((nth J.O a2).aJ !=0)=true→2=aa)∧(((nth J.O a2).aJ !=0)=false→((jT a0 J a2).1).O.length≤4611686018427387904→U8 a0 J a2 aa)))∧((((jT a0 J a2).1).O.length≤4611686018427387904)∧(((jT a0 J a2).1).ao.length≤4611686018427387904)∧((!((nth J.O a2).aJ !=0)&&(!(G4 a0 J a2)&&(!(G3 a0 J a2)&&(!((jT a0 J a2).2.1)&&(!((jT a0 J a2).2.2))))))=true)→0=aa)
def U7:Prop:=
 (sp a0 J a2)∧(U9 a0 J a2 aa)
theorem ah3 (ab:sp a0 J a2):bf Tryz.prog 110 [.agg (bH false a0),.agg (b9 false J),ai a2] (ai (h9 a0 J a2)):=(fun(h:U7 a0 J a2 (h9 a0 J a2))=>bf.run (ps:=[.eL,.frame,.int]) (rs:=[.int]) (x:=(a0,J,a2,())) (r:=((h9 a0 J a2),())) ⟨40,c5,[ag0]⟩ ⟨[],[],[],[],[]⟩ .nil Tryz.func110 h) (by
 unfold U7 U9 U8 G4 G3
 have vC:=ab
 obtain⟨hf,aA,h1⟩:=vC
 have hw:=hf.fr.O
 have adh:jT a0 J a2=(oi a0 J a2,CW a0 J a2,HZ a0 J a2):=rfl
 rw[adh]
 have aG:(decide (((oi a0 J a2).O.length:Int)>0))=true↔(oi a0 J a2).O≠[]:=by
  rw[decide_eq_true_eq,←List.length_pos_iff];omega
 have e2:(decide (((oi a0 J a2).ao.length:Int)>0))=true↔(oi a0 J a2).ao≠[]:=by
  rw[decide_eq_true_eq,←List.length_pos_iff];omega
 refine⟨ab,⟨⟨aA,by omega⟩,fun az=> ?_,fun az _=>⟨fun ar=> ?_,fun ar _=>⟨fun hb=> ?_,fun hb=>⟨fun hc=> ?_,fun hc aW=> ?_⟩⟩⟩⟩,fun U=> ?_⟩
 ·unfold h9;rw[if_pos (by simpa using az)]
 ·unfold h9 codeF;rw[if_neg (by simpa using az),if_pos (aG.1 ar)]
 ·unfold h9 codeF;rw[if_neg (by simpa using az),if_neg (fun h=>by rw[show(decide (((oi a0 J a2).O.length:Int)>0))=true from aG.2 h] at ar;cases ar),if_pos (e2.1 hb)]
 ·unfold h9 codeF;rw[if_neg (by simpa using az),if_neg (fun h=>by rw[show(decide (((oi a0 J a2).O.length:Int)>0))=true from aG.2 h] at ar;cases ar),if_neg (fun h=>by rw[show(decide (((oi a0 J a2).ao.length:Int)>0))=true from e2.2 h] at hb;cases hb),if_pos hc]
 ·unfold h9 codeF;rw[if_neg (by simpa using az),if_neg (fun h=>by rw[show(decide (((oi a0 J a2).O.length:Int)>0))=true from aG.2 h] at ar;cases ar),if_neg (fun h=>by rw[show(decide (((oi a0 J a2).ao.length:Int)>0))=true from e2.2 h] at hb;cases hb),if_neg (by rw[show CW a0 J a2=false from hc];simp),if_pos aW]
 ·have U:=U.2.2
  simp only[Bool.and_eq_true,Bool.not_eq_true'] at U
  obtain⟨q1,q2,q3,q4,cN⟩:=U
  unfold h9 codeF;rw[if_neg (by simpa using q1),if_neg (fun h=>by rw[show(decide (((oi a0 J a2).O.length:Int)>0))=true from aG.2 h] at q2;cases q2),if_neg (fun h=>by rw[show(decide (((oi a0 J a2).ao.length:Int)>0))=true from e2.2 h] at q3;cases q3),if_neg (by rw[show CW a0 J a2=false from q4];simp),if_neg (by rw[show HZ a0 J a2=false from cN];simp)])
end
section
abbrev B_ (r:Type):Type:=List (List Bool)→(List Bool)→(List bP)→List Nat→Int→List av→r
variable (ad:(List bP)→Int→Prop) (ag:(List bP)→Int→Nat) (bd:kq Prop) (a6:kq Nat) (dY:B_ Prop) (a0:aQ) (J:Frame) (aa:jO) (a2:Event) (aO:(List bP)) (bN:List (List Bool)) (aH:List Nat) (fq v160:Int) (ws2:List av) (aF:(List Bool)) (cT:Int) (qB:List av) (sm:List Nat) (sn:List (List Bool))
abbrev c1:=(aK J).O
abbrev s5:=(c1 J).set a2.aC.toNat (av.mk 3 (nth (c1 J) a2.aC).ba (nth (c1 J) a2.aC).ae (nth (c1 J) a2.aC).bS (nth (c1 J) a2.aC).bR)
abbrev ek:=(aK J).aB
abbrev dL:=(aK J).au
abbrev i_:=(aK J).ok
abbrev en:=List.map av.ae (c1 J)
abbrev eo:=List.range (c1 J).length
abbrev lA:=Frame.mk (i_ J) (ek J) (dL J) (view (c1 J) (eo J) (en J))
abbrev AA:List Blk:=(⟨0,1,List.map aT aF⟩::⟨0,2,List.map bh aO⟩::⟨0,5,aU 3 ws2 aH⟩::List.map br bN)
abbrev pw:=ws2.set v160.toNat (av.mk (nth ws2 v160).aJ (nth ws2 v160).ba (nth ws2 v160).ae (nth ws2 v160).bS (IntKind.i64.wrap ((nth ws2 v160).bR - 1)))
abbrev n4:=(ek J).length
abbrev s7:List AV:=[aq (i_ J),ay 0 0 (n4 J),ay 1 0 (dL J).length,ay 2 0 (c1 J).length]
abbrev uy:=(c1 J).set a2.aC.toNat (av.mk 1 (nth (c1 J) a2.aC).ba (nth (c1 J) a2.aC).ae (nth (c1 J) a2.aC).bS (nth (c1 J) a2.aC).bR)
abbrev mW:=Frame.mk (i_ J) aF aO (view ws2 aH bN)
abbrev oK:=List.length (AA aO bN aH ws2 aF)
abbrev GU:List AV:=[ai 0,aq (eJ a0 (mW J aO bN aH ws2 aF)).ok,ay ((oK aO bN aH ws2 aF)+0) 0 (eJ a0 (mW J aO bN aH ws2 aF)).aB.length,ay ((oK aO bN aH ws2 aF)+1) 0 (eJ a0 (mW J aO bN aH ws2 aF)).au.length,ay ((oK aO bN aH ws2 aF)+2) 0 (eJ a0 (mW J aO bN aH ws2 aF)).O.length]
abbrev Ax:List (Nat×AV):=[(3,aS 3 0),(4,aS 4 0),(6,aS 6 0),(7,aS 7 0),(8,ai 0)]
abbrev kZ:=bY (nth a0.O a2.aC)
abbrev uA:=(nth (kZ a0 a2) fq).bi
abbrev xZ:=aO.set (uA a0 a2 fq).toNat (bP.mk (nth (kZ a0 a2) fq).a1 (nth aO (uA a0 a2 fq)).bA)
abbrev Ay:=(s5 J a2).set a2.aC.toNat (av.mk (nth (s5 J a2) a2.aC).aJ (nth (s5 J a2) a2.aC).ba (nth (s5 J a2) a2.aC).ae (nth (s5 J a2) a2.aC).bS a0.cv)
abbrev n0:List AV:=[ai 0,aq false,c7,c7,c7]
abbrev Az:=(c1 J).set a2.aC.toNat (av.mk (dE a0 a2.aC).aJ (dE a0 a2.aC).ba (dE a0 a2.aC).ae (dE a0 a2.aC).bS (dE a0 a2.aC).bR)
abbrev GQ:List AV:=[ai cT,aq (i_ J),ay ((oK aO bN aH ws2 aF)+0) 0 (n4 J),ay ((oK aO bN aH ws2 aF)+1) 0 (dL J).length,ay ((oK aO bN aH ws2 aF)+2) 0 (c1 J).length]
abbrev Ui:=(AA aO bN aH ws2 aF)++List.map (iD (oK aO bN aH ws2 aF)) (⟨0,1,List.map aT (eJ a0 (mW J aO bN aH ws2 aF)).aB⟩::⟨0,2,List.map bh (eJ a0 (mW J aO bN aH ws2 aF)).au⟩::⟨0,5,aU 3 (eJ a0 (mW J aO bN aH ws2 aF)).O (List.range (eJ a0 (mW J aO bN aH ws2 aF)).O.length)⟩::List.map br (List.map av.ae (eJ a0 (mW J aO bN aH ws2 aF)).O))
abbrev GR:List Blk:=(⟨0,1,List.map aT (ek J)⟩::⟨0,2,List.map bh (dL J)⟩::⟨0,5,aU 3 (c1 J) (eo J)⟩::List.map br (en J))
abbrev oF:=h9 a0 (lA J) a2.aC
abbrev x3:=IntKind.i64.wrap (fq+1)
abbrev Ms:List (Nat×AV):=[(3,aS 3 0),(4,aS 4 0),(6,aS 6 0),(7,aS 7 0),(8,ai (oF a0 J a2)),(40,pe c9 (kZ a0 a2)),(41,ai ((kZ a0 a2).length:Int)),(42,ai (x3 fq))]
abbrev iy:=bH false a0
abbrev jB:=b9 false J
abbrev s6:List (Nat×List AV):=[(7,(jB J)),(6,n0),(4,(s7 J)),(3,(iy a0))]
abbrev Mt:=(pw v160 ws2).set v160.toNat (av.mk (dE a0 v160).aJ (dE a0 v160).ba (dE a0 v160).ae (dE a0 v160).bS (dE a0 v160).bR)
abbrev GS:List (Nat×List AV):=[(7,(jB J)),(6,n0),(4,[aq (i_ J),ay 0 0 (n4 J),ay 1 0 aO.length,ay 2 0 (c1 J).length]),(3,(iy a0))]
abbrev x2:=IntKind.i64.wrap (v160+1)
abbrev Mu:List (Nat×AV):=[(3,aS 3 0),(4,aS 4 0),(6,aS 6 0),(7,aS 7 0),(8,ai 0),(159,ai ((c1 J).length:Int)),(160,ai (x2 v160))]
abbrev DE:=(dL J).set a2.aC.toNat (bP.mk (nth (dL J) a2.aC).c6 a2.a1)
abbrev DF:=(dL J).set a2.aC.toNat (bP.mk a2.a1 (nth (dL J) a2.aC).bA)
abbrev iL:=0+a2.aC.toNat
abbrev ux:=(c1 J).length=(eo J).length∧a2.aC.toNat<(c1 J).length
abbrev Mv:List Blk:=(⟨0,1,List.map aT (ek J)⟩::⟨0,2,List.map bh (dL J)⟩::⟨0,5,aU 3 qB sm⟩::List.map br sn)
abbrev qV:=(nth (c1 J) a2.aC).aJ
abbrev x0:=(nth (pw v160 ws2) v160).bR==0
abbrev DJ:=(eo J).set a2.aC.toNat (en J).length
abbrev Uj:List Blk:=(⟨0,1,List.map aT (ek J)⟩::⟨0,2,List.map bh (dL J)⟩::⟨0,5,aU 3 (Az a0 J a2) (DJ J a2)⟩::List.map br ((en J)++[(dE a0 a2.aC).ae]))
abbrev uz:=(nth a0.O a2.aC).eb
abbrev ns:=(nth (c1 J) a2.aC).bS&&(h8 (lA J) (uz a0 a2))
abbrev DI:=(ek J).set a2.aC.toNat (a2.op==3)
abbrev Uk:List Blk:=(⟨0,1,List.map aT (DI J a2)⟩::⟨0,2,List.map bh (dL J)⟩::⟨0,5,aU 3 (c1 J) (eo J)⟩::List.map br (en J))
abbrev Mw:List (Nat×AV):=[(3,aS 3 0),(4,aS 4 0),(6,aS 6 0),(7,aS 7 0),(8,ai (oF a0 J a2))]
abbrev Ul:List AV:=[ai (dE a0 a2.aC).aJ,ai (dE a0 a2.aC).ba,ay ((en J).length+3) 0 (dE a0 a2.aC).ae.length,aq (dE a0 a2.aC).bS,ai (dE a0 a2.aC).bR]
abbrev AB:=decide (((ki a0 (lA J) a2.aC).length:Int)>0)
abbrev Um:List Blk:=(⟨0,1,List.map aT (ek J)⟩::⟨0,2,List.map bh (DE J a2)⟩::⟨0,5,aU 3 (c1 J) (eo J)⟩::List.map br (en J))
abbrev Un:List Blk:=(⟨0,1,List.map aT (ek J)⟩::⟨0,2,List.map bh (DF J a2)⟩::⟨0,5,aU 3 (c1 J) (eo J)⟩::List.map br (en J))
abbrev Uo:List Blk:=(⟨0,1,List.map aT (ek J)⟩::⟨0,2,List.map bh (dL J)⟩::⟨0,5,aU 3 (Ay a0 J a2) (eo J)⟩::List.map br (en J))
abbrev Up:List AV:=[ai (dE a0 v160).aJ,ai (dE a0 v160).ba,ay (bN.length+3) 0 (dE a0 v160).ae.length,aq (dE a0 v160).bS,ai (dE a0 v160).bR]
abbrev Uq:List Blk:=(⟨0,1,List.map aT (ek J)⟩::⟨0,2,List.map bh (xZ a0 a2 aO fq)⟩::⟨0,5,aU 3 (uy J a2) (eo J)⟩::List.map br (en J))
abbrev Ur:List Blk:=(⟨0,1,List.map aT (ek J)⟩::⟨0,2,List.map bh aO⟩::⟨0,5,aU 3 (uy J a2) (eo J)⟩::List.map br (en J))
abbrev x1:=(nth ws2 v160).aJ==3
abbrev Us:List (Nat×List AV):=[(7,(jB J)),(6,n0),(4,[aq (i_ J),ay 0 0 (n4 J),ay 1 0 (dL J).length,ay 2 0 ws2.length]),(3,(iy a0))]
abbrev n1:=bif (a2.op==3) then(a2.op==3) else(a2.op==4)
abbrev s8:=bt 200 Ax
abbrev AC:=aU 3 (c1 J) (eo J)
abbrev n3:=((qV J a2) !=1)&&((qV J a2) !=2)
abbrev AD:=nth (ek J) (nth a0.a_ a2.aC)
abbrev oG:=bif (x1 v160 ws2) then(bif (x0 v160 ws2) then(Mt a0 v160 ws2) else(pw v160 ws2)) else ws2
abbrev DG:=decide (v160<((c1 J).length:Int))
abbrev DH:=decide (fq<((kZ a0 a2).length:Int))
abbrev oH:=bif (x1 v160 ws2) then(bif (x0 v160 ws2) then(bN++[(dE a0 v160).ae]) else bN) else bN
abbrev oI:=bif (x1 v160 ws2) then(bif (x0 v160 ws2) then(aH.set v160.toNat bN.length) else aH) else aH
abbrev oJ:=0+v160.toNat
abbrev x4:=[0,1,7]
noncomputable def Uh:Code:=j8 Tryz.f72
def ag9:List Item:=(List.range 16).map cS
def ag_:List (List Nat):=[[],[0],[0,1],[0,1,2],rg 0 4,rg 0 5,rg 0 5,rg 0 5++[6],rg 0 5,rg 0 5++[8],rg 0 5++rg 6 10,rg 0 5++rg 6 11,rg 0 5++rg 6 12,rg 0 13,rg 0 14,rg 0 15]
def aha:List Item:=[cS 0,cS 1,cS 2,cS 3,cS 4,cS 5,⟨6,true,false,[1,2,3]⟩,cS 7,cS 8,⟨9,true,false,[]⟩]
def ahb:List (List Nat):=[[],[],[],[2],[0],[0,4],[0,4,5],rg 0 7,rg 0 8,rg 0 9]
def ahc:List Item:=(List.range 11).map cS
def ahd:List (List Nat):=[[],[0],[],[2],[],[4],rg 2 6,rg 2 7,rg 0 8,rg 0 9,rg 0 10]
def Mc:Prop:=
  ad (xZ a0 a2 aO fq) (x3 fq)∧ag (xZ a0 a2 aO fq) (x3 fq)<ag aO fq
def Mk:Prop:=
  ((DH a0 a2 fq)=false→dY (en J) (ek J) aO (eo J) (oF a0 J a2) (uy J a2))∧((DH a0 a2 fq)=true→((0≤fq∧fq.toNat<(kZ a0 a2).length)∧(0≤(uA a0 a2 fq)∧(uA a0 a2 fq).toNat<aO.length))∧(Mc ad ag a0 a2 aO fq))
def Ml:Prop:=
  (((oF a0 J a2)==0)=true→((0≤a2.aC∧a2.aC.toNat<(c1 J).length)∧(ux J a2))∧(((0≤a2.aC∧a2.aC.toNat<a0.O.length)∧(A_ (nth a0.O a2.aC)))∧((kZ a0 a2).length≤4611686018427387904→ad (dL J) 0∧ ∀(aO:(List bP)) (fq:Int),ad aO fq→(Mk ad ag dY a0 J a2 aO fq))))∧(((oF a0 J a2)==0)=false→dY (en J) (ek J) (dL J) (eo J) (oF a0 J a2) (c1 J))
def Mm:Prop:=
  ((ns a0 J a2)=true→(ux J a2)∧(((s5 J a2).length=(eo J).length∧a2.aC.toNat<(s5 J a2).length)∧(dY (en J) (ek J) (dL J) (eo J) 0 (Ay a0 J a2))))∧((ns a0 J a2)=false→(DB a0 a2.aC)∧((ux J a2)∧(dY ((en J)++[(dE a0 a2.aC).ae]) (ek J) (dL J) (DJ J a2) 0 (Az a0 J a2))))
def Mn:Prop:=
  ((n3 J a2)=true→dY (en J) (ek J) (dL J) (eo J) 2 (c1 J))∧((n3 J a2)=false→((ux J a2)∧((nth (c1 J) a2.aC).bS=true→(0≤a2.aC∧a2.aC.toNat<a0.O.length)∧((ek J).length≤4611686018427387904∧(dL J).length≤4611686018427387904∧(me (c1 J) (eo J) (en J)∧(c1 J).length≤4611686018427387904∧(∀x∈(en J),List.length x≤4611686018427387904))∧yQ (lA J) (uz a0 a2))))∧(Mm dY a0 J a2))
def Mo:Prop:=
  ((AD a0 J a2)=true→dY (en J) (ek J) (dL J) (eo J) 3 (c1 J))∧((AD a0 J a2)=false→(0≤a2.aC∧a2.aC.toNat<(dL J).length)∧(dY (en J) (ek J) (DF J a2) (eo J) 0 (c1 J)))
def Mp:Prop:=
  ((AB a0 J a2)=true→dY (en J) (ek J) (dL J) (eo J) 2 (c1 J))∧((AB a0 J a2)=false→((0≤a2.aC∧a2.aC.toNat<a0.a_.length)∧(0≤(nth a0.a_ a2.aC)∧(nth a0.a_ a2.aC).toNat<(ek J).length))∧(Mo dY a0 J a2))
def Mq:Prop:=
  (x0 v160 ws2)=true→(DB a0 v160)∧((pw v160 ws2).length=aH.length∧v160.toNat<(pw v160 ws2).length)
def Mr:Prop:=
  ((pw v160 ws2).length=aH.length∧v160.toNat<(pw v160 ws2).length)∧(Mq a0 aH v160 ws2)
def Md:Prop:=
  ((0≤v160∧v160.toNat<ws2.length)∧((ws2.length=aH.length∧v160.toNat<ws2.length)∧((x1 v160 ws2)=true→((ws2.length=aH.length∧v160.toNat<ws2.length)∧(ws2.length=aH.length∧v160.toNat<ws2.length))∧(Mr a0 aH v160 ws2))))∧(∀qB:List av,(oG a0 v160 ws2)=qB→(∀sm:List Nat,(oI bN aH v160 ws2)=sm→(∀sn:List (List Bool),(oH a0 bN v160 ws2)=sn→(bd sn sm (x2 v160) qB∧a6 sn sm (x2 v160) qB<a6 bN aH v160 ws2))))
def Me:Prop:=
  bd (en J) (eo J) 0 (c1 J)∧ ∀(bN:List (List Bool)) (aH:List Nat) (v160:Int) (ws2:List av),bd bN aH v160 ws2→(((DG J v160)=false→dY bN (ek J) (dL J) aH 0 ws2)∧((DG J v160)=true→Md bd a6 a0 bN aH v160 ws2))
def Mf:Prop:=
  ((a2.op==6)=true→((ek J).length≤4611686018427387904∧(dL J).length≤4611686018427387904∧(me (c1 J) (eo J) (en J)∧(c1 J).length≤4611686018427387904∧(∀x∈(en J),List.length x≤4611686018427387904))∧wh a0 (lA J) a2.aC)∧((ki a0 (lA J) a2.aC).length≤4611686018427387904→Mp dY a0 J a2))∧((a2.op==6)=false→((a2.op==7)=true→Me bd a6 dY a0 J)∧((a2.op==7)=false→dY (en J) (ek J) (dL J) (eo J) 0 (c1 J)))
def Mg:Prop:=
  ((n1 a2)=true→(0≤a2.aC∧a2.aC.toNat<(ek J).length)∧(dY (en J) (DI J a2) (dL J) (eo J) 0 (c1 J)))∧((n1 a2)=false→((a2.op==5)=true→(0≤a2.aC∧a2.aC.toNat<(dL J).length)∧(dY (en J) (ek J) (DE J a2) (eo J) 0 (c1 J)))∧((a2.op==5)=false→Mf bd a6 dY a0 J a2))
def Mh:Prop:=
  ((a2.op==2)=true→(0≤a2.aC∧a2.aC.toNat<(c1 J).length)∧(((ux J a2)∧(((qV J a2) !=1)=true→(c1 J).length=(eo J).length∧a2.aC.toNat<(c1 J).length))∧(Mn dY a0 J a2)))∧((a2.op==2)=false→Mg bd a6 dY a0 J a2)
def Mi:Prop:=
  ((a2.op==1)=true→((ek J).length≤4611686018427387904∧(dL J).length≤4611686018427387904∧(me (c1 J) (eo J) (en J)∧(c1 J).length≤4611686018427387904∧(∀x∈(en J),List.length x≤4611686018427387904))∧sp a0 (lA J) a2.aC)∧(Ml ad ag dY a0 J a2))∧((a2.op==1)=false→Mh bd a6 dY a0 J a2)
def Mj:Prop:=
  ((cT !=0)=true→(my J)∧(cT=aa.code∧(aK J)=aa.frame))∧((!(cT !=0))=true→(aF.length≤4611686018427387904∧aO.length≤4611686018427387904∧(me ws2 aH bN∧ws2.length≤4611686018427387904∧(∀x∈bN,List.length x≤4611686018427387904))∧yN a0 (mW J aO bN aH ws2 aF))∧(0=aa.code∧(eJ a0 (mW J aO bN aH ws2 aF))=aa.frame))
def Mb (a0:aQ) (J:Frame) (a2:Event) (aa:jO) (ad:(List bP)→Int→Prop) (ag:(List bP)→Int→Nat) (bd:kq Prop) (a6:kq Nat) (dY:B_ Prop):Prop:=
 (my J)∧((Mi ad ag bd a6 dY a0 J a2)∧(∀(bN:List (List Bool)) (aF:(List Bool)) (aO:(List bP)) (aH:List Nat) (cT:Int) (ws2:List av),dY bN aF aO aH cT ws2→(Mj a0 J aa aO bN aH ws2 aF cT)))
theorem ahe (a0:aQ) (J:Frame) (a2:Event) (aa:jO) (ad:(List bP)→Int→Prop) (ag:(List bP)→Int→Nat) (bd:kq Prop) (a6:kq Nat) (dY:B_ Prop) (h:Mb a0 J a2 aa ad ag bd a6 dY):de Tryz.prog 72 [.agg (iy a0),.agg (jB J),.agg (ie a2)] [] (fun r H=>r= .agg [ai aa.code,aq aa.frame.ok,ay 0 0 aa.frame.aB.length,ay 1 0 aa.frame.au.length,ay 2 0 aa.frame.O.length]∧H=(⟨0,1,List.map aT aa.frame.aB⟩::⟨0,2,List.map bh aa.frame.au⟩::⟨0,5,aU 3 aa.frame.O (List.range aa.frame.O.length)⟩::List.map br (List.map av.ae aa.frame.O))):=by
 refine de.toOwn ?_
 unfold Mb at h
 refine de.go (fn:=Tryz.f72) [(0,.agg (iy a0)),(1,.agg (jB J)),(2,.agg (ie a2))] Tryz.func72 (fun _ _=> ?_)
 show WpS _ (bO Uh 1) _ ⟨bt 200 [(0,.agg (iy a0)),(1,.agg (jB J)),(2,.agg (ie a2))],[],[]⟩
 refine vl [] 0 [(6,aS 6 0),(5,aS 5 0),(4,aS 4 0),(3,aS 3 0)] [4] [] [(6,n0),(5,(ie a2)),(4,(jB J)),(3,(iy a0))] [] ?_
 refine vk [] 1 [(7,aS 7 0),(14,.agg (jB J))] [1] [4] (fun L=>(7,(jB J))::L) id ?_
 obtain⟨alo,h⟩:=h
 refine fX [] [5] (fun L=>er 3 (s7 J) L) (fun _=>(GR J)) (True) ?_ (fun q3=> ?_)
 ·
  replace h:=alo
  refine bE [] 2 ?_
  have q4:=h
  refine tp 2 (some 16) [(15,.agg (jB J))] [.agg (jB J)] (.agg (s7 J)) (GR J) (L7 J q4) (ak.cons (df.agg (ak.cons (.bool _) (ak.cons cW (ak.cons cW (ak.cons cW ak.nil))))) ak.nil) A2 (by rw[List.nil_append];exact YF _) ?_ (er:=by simp[oX,qv,js])
  exact ca [] trivial
 refine eO [] 3 [(8,ai 0)] [1] [5] ?_
 refine jx ?_
 refine eO [] 4 [(18,ai a2.op),(17,aS 5 0)] [1] [6] ?_
 obtain⟨aln,h⟩:=h
 refine Rl 0 (fun(v:List (List Bool)×(List Bool)×(List bP)×List Nat×Int×List av)=>(⟨(bt 200 [(3,aS 3 0),(4,aS 4 0),(6,aS 6 0),(7,aS 7 0),(8,ai (v.2.2.2.2.1))]),[(7,(jB J)),(6,n0),(4,[aq (i_ J),ay 0 0 (v.2.1).length,ay 1 0 (v.2.2.1).length,ay 2 0 (v.2.2.2.2.2).length]),(3,(iy a0))],(⟨0,1,List.map aT (v.2.1)⟩::⟨0,2,List.map bh (v.2.2.1)⟩::⟨0,5,aU 3 (v.2.2.2.2.2) (v.2.2.2.1)⟩::List.map br (v.1))⟩:St)) (fun v=>dY (v.1) (v.2.1) (v.2.2.1) (v.2.2.2.1) (v.2.2.2.2.1) (v.2.2.2.2.2)) ?_ (fun v eh=> ?_)
 ·
  replace h:=aln
  refine eO [] 5 [(19,aq (a2.op==1)),(20,aq (a2.op==1))] [1] [7] ?_
  unfold Mi at h
  refine dZ (fun gT=> ?_) (fun gT=> ?_)
  ·
   replace h:=h.1 gT
   obtain⟨nx,h⟩:=h
   refine cR [(8,ai (oF a0 J a2))] [0,3,5] (True) ?_ (fun k7=> ?_)
   ·
    replace h:=nx
    refine bE [] 6 ?_
    obtain⟨hO,kL,mr,hd⟩:=h
    refine qt 5 (some 25) [(24,ai a2.aC),(23,aS 5 1),(22,.agg (s7 J)),(21,.agg (iy a0))] [.agg (iy a0),.agg (s7 J),ai a2.aC] (ah3 a0 (lA J) a2.aC hd) (ak.cons (df.agg (ak.cons (.int _ _) (ak.cons cW (ak.cons cW (ak.cons cW (ak.cons (.int _ _) ak.nil)))))) (ak.cons (df.agg (ak.cons (.bool _) (ak.cons (oW (sz:=1) (by simp) rfl (vG) hO) (ak.cons (oW (sz:=2) (by simp) rfl (xV) kL) (ak.cons (wC (s:=3) (ws:=(aK J).O) (ids:=(eo J)) (bs:=(en J)) (by simp) rfl (fun id k h=>by simpa using h) mr.1 mr.2.1 mr.2.2) ak.nil))))) (ak.cons (df.jc (.int _ _)) ak.nil))) ?_
    exact ca [(8,ai (oF a0 J a2))] trivial
   refine eO [] 7 [(27,aq ((oF a0 J a2)==0)),(26,ai (oF a0 J a2))] [1] [6] ?_
   unfold Ml at h
   refine dZ (fun j1=> ?_) (fun j1=> ?_)
   ·
    replace h:=h.1 j1
    obtain⟨k6,h⟩:=h
    refine fX [] [0,1,6] id (fun H=>eE 2 ⟨0,5,aU 3 (uy J a2) (eo J)⟩ H) (True) ?_ (fun m1=> ?_)
    ·
     replace h:=k6
     refine bE [] 8 ?_
     obtain⟨ao5,h⟩:=h
     refine m4 5 (some 32) [(31,ai a2.aC),(30,aS 5 1),(29,ay 2 0 (c1 J).length),(28,aS 4 3)] 2 0 5 ao5 ?_
     have k5:=h
     refine k8 2 none [(33,.ptr 2 0 (iL a2) 0)] (AC J) a2.aC 0 1 0 [ai 1] 2 (aU 3 (uy J a2) (eo J)) (dK k5.1 k5.2) (ln k5.1 k5.2) ?_
     exact ca [] trivial
    obtain⟨oR,h⟩:=h
    refine cR [(40,pe c9 (kZ a0 a2)),(41,ai ((kZ a0 a2).length:Int)),(42,ai 0)] [3,1,2] ((kZ a0 a2).length≤4611686018427387904) ?_ (fun oQ=> ?_)
    ·
     replace h:=oR
     refine bE [] 9 ?_
     obtain⟨nv,h⟩:=h
     refine m5 5 (some 38) [(37,ai a2.aC),(36,aS 5 1),(35,bB (dS false) a0.O),(34,aS 3 2)] (dS false) a0.O 5 nv ?_
     have iQ:=h
     refine qt 2 (some 40) [(39,.agg (dS false (nth a0.O a2.aC)))] [.agg (dS false (nth a0.O a2.aC))] (Uy (nth a0.O a2.aC) iQ) (ak.cons (df.agg (ak.cons cW (ak.cons cW (ak.cons cW (ak.cons cW (ak.cons cW ak.nil)))))) ak.nil) ?_
     refine sLen 1 (some 41) [] c9 (kZ a0 a2) (fun jF=> ?_)
     exact ca [(42,ai 0)] jF
    replace h:=h oQ
    refine hp 1 ?_
    obtain⟨l6,h⟩:=h
    refine ng (fun(v:(List bP)×Int)=>(⟨(bt 200 [(3,aS 3 0),(4,aS 4 0),(6,aS 6 0),(7,aS 7 0),(8,ai (oF a0 J a2)),(40,pe c9 (kZ a0 a2)),(41,ai ((kZ a0 a2).length:Int)),(42,ai (v.2))]),[(7,(jB J)),(6,n0),(4,[aq (i_ J),ay 0 0 (n4 J),ay 1 0 (v.1).length,ay 2 0 (c1 J).length]),(3,(iy a0))],(⟨0,1,List.map aT (ek J)⟩::⟨0,2,List.map bh (v.1)⟩::⟨0,5,aU 3 (uy J a2) (eo J)⟩::List.map br (en J))⟩:St)) (fun(v:(List bP)×Int)=>ad (v.1) (v.2)) (fun(v:(List bP)×Int)=>ag (v.1) (v.2)) ((aK J).au,0) (dX [5]) l6 (fun v aN=> ?_)
    obtain⟨aO,fq⟩:=v
    replace h:=h aO fq aN
    dsimp only
    refine eO [] 10 [(43,aq (DH a0 a2 fq))] [1] [8] ?_
    unfold Mk at h
    obtain⟨r8,h⟩:=h
    refine cR [] [0,1,8] ((DH a0 a2 fq)=true) ?_ (fun kM=> ?_)
    ·
     replace h:=r8
     refine dZ (fun iR=> ?_) (fun iR=> ?_)
     ·
      refine eP ?_
      exact cE.normal (by simp only[gT,j1,iR,oI,oH,oG,n3,n1,ns]<;>rfl) e1
     ·
      replace h:=h iR
      refine lh 1 ?_
      refine cE.exit ?_
      refine eC.exit ?_
      refine cs.here ?_
      refine cs.normal ?_
      exact hS.normal ((en J),(ek J),aO,(eo J),(oF a0 J a2),(uy J a2)) h (jM (s':=⟨(bt 200 (Mw a0 J a2)),(GS a0 J aO),(Ur J a2 aO)⟩) (dX (n:=200) (A':=(Mw a0 J a2)) (L':=(GS a0 J aO)) []) (congrArg (fun z=>(⟨(bt 200 (Mw a0 J a2)),[(7,(jB J)),(6,n0),(4,[aq (i_ J),ay 0 0 (n4 J),ay 1 0 aO.length,ay 2 0 z]),(3,(iy a0))],(Ur J a2 aO)⟩:St)) (show(c1 J).length=(uy J a2).length by simp)))
    replace h:=h kM
    obtain⟨r7,h⟩:=h
    refine fX [] [8] (fun L=>(10,(c9 (nth (kZ a0 a2) fq)))::L) (fun H=>eE 1 ⟨0,2,List.map bh (xZ a0 a2 aO fq)⟩ H) (True) ?_ (fun kN=> ?_)
    ·
     replace h:=r7
     refine hp 2 ?_
     obtain⟨q7,h⟩:=h
     refine fX [(10,aS 10 0)] [8] (fun L=>(10,(c9 (nth (kZ a0 a2) fq)))::L) id (True) ?_ (fun j2=> ?_)
     ·
      replace h:=q7
      refine bE [] 11 ?_
      have nw:=h
      refine m5 1 (some 44) [] c9 (kZ a0 a2) 2 nw ?_
      exact ca [(10,aS 10 0),(45,.agg (c9 (nth (kZ a0 a2) fq)))] trivial
     refine bE [] 12 ?_
     have aa1:=h
     refine m4 7 (some 52) [(51,ai (nth (kZ a0 a2) fq).a1),(50,aS 10 1),(49,ai (uA a0 a2 fq)),(48,aS 10 0),(47,ay 1 0 aO.length),(46,aS 4 2)] 1 0 2 aa1 ?_
     refine wB 2 none [(53,.ptr 1 0 (0+(uA a0 a2 fq).toNat) 0)] bh aO (uA a0 a2 fq) 0 1 0 [ai (nth (kZ a0 a2) fq).a1] 1 (bP.mk (nth (kZ a0 a2) fq).a1 (nth aO (uA a0 a2 fq)).bA) (by simpa using aa1.2) ?_
     refine ef [] ?_
     refine cs.normal ?_
     exact cE.normal trivial e1
    unfold Mc at h
    refine bE [] 13 ?_
    refine ef [(42,ai (x3 fq)),(54,ai (x3 fq))] ?_
    exact eC.again ((xZ a0 a2 aO fq),(x3 fq)) h (jM (s':=⟨(bt 200 (Ms a0 J a2 fq)),(GS a0 J aO),(Uq a0 J a2 aO fq)⟩) (dX (n:=200) (A':=(Ms a0 J a2 fq)) (L':=(GS a0 J aO)) [10]) (congrArg (fun z=>(⟨(bt 200 (Ms a0 J a2 fq)),[(7,(jB J)),(6,n0),(4,[aq (i_ J),ay 0 0 (n4 J),ay 1 0 z,ay 2 0 (c1 J).length]),(3,(iy a0))],(Uq a0 J a2 aO fq)⟩:St)) (show aO.length=(xZ a0 a2 aO fq).length by simp)))
   ·
    replace h:=h.2 j1
    refine eP ?_
    refine cs.normal ?_
    exact hS.normal ((en J),(ek J),(dL J),(eo J),(oF a0 J a2),(c1 J)) h (dX [5])
  ·
   replace h:=h.2 gT
   refine eO [] 14 [(55,aq (a2.op==2)),(56,aq (a2.op==2))] [1] x4 ?_
   unfold Mh at h
   refine dZ (fun hY=> ?_) (fun hY=> ?_)
   ·
    replace h:=h.1 hY
    obtain⟨tk,h⟩:=h
    refine cR [(11,.ptr 2 0 (iL a2) 0)] [0,2,6] (True) ?_ (fun q8=> ?_)
    ·
     replace h:=tk
     refine bE [] 15 ?_
     have ao8:=h
     refine m4 5 (some 61) [(60,ai a2.aC),(59,aS 5 1),(58,ay 2 0 (c1 J).length),(57,aS 4 3)] 2 0 5 ao8 ?_
     exact ca [(11,.ptr 2 0 (iL a2) 0)] trivial
    refine hp 3 ?_
    obtain⟨Ef,h⟩:=h
    refine cR [(68,aq (n3 J a2))] [7] (True) ?_ (fun m2=> ?_)
    ·
     replace h:=Ef
     refine bE [] 17 ?_
     obtain⟨pG,h⟩:=h
     refine jH 4 (some 72) [(71,.ptr 2 0 (iL a2) 0),(70,.ptr 2 0 (iL a2) 0),(69,.ptr 2 0 (iL a2) 0)] (AC J) a2.aC 3 0 0 (ai (qV J a2)) (dK pG.1 pG.2) ?_
     refine pJ 2 74 ((qV J a2) !=1) [(73,aq ((qV J a2) !=1))] (fun r9=> ?_) (fun r9=> ?_)
     ·
      replace h:=h r9
      have kj:=h
      refine jH 4 (some 78) [(77,.ptr 2 0 (iL a2) 0),(76,.ptr 2 0 (iL a2) 0),(75,.ptr 2 0 (iL a2) 0)] (AC J) a2.aC 3 0 0 (ai (qV J a2)) (dK kj.1 kj.2) ?_
      exact ca [(68,aq ((qV J a2) !=2)),(80,aq ((qV J a2) !=2)),(79,aq ((qV J a2) !=2))] trivial (by simp only[gT,hY,r9,oI,oH,oG,n3,n1,ns]<;>kernel_rfl)
     ·
      exact ca ([(68,aq false),(80,aq false)]++hg [79,78,77,76,75]) trivial (by simp only[gT,hY,r9,oI,oH,oG,n3,n1,ns]<;>kernel_rfl)
    unfold Mn at h
    refine dZ (fun nz=> ?_) (fun nz=> ?_)
    ·
     replace h:=h.1 nz
     refine bE [] 18 ?_
     refine ef [(8,ai 2)] ?_
     refine cs.normal ?_
     refine cs.normal ?_
     exact hS.normal ((en J),(ek J),(dL J),(eo J),2,(c1 J)) h (dX [5])
    ·
     replace h:=h.2 nz
     obtain⟨q_,h⟩:=h
     refine cR [(81,aq (ns a0 J a2))] x4 (True) ?_ (fun ms=> ?_)
     ·
      replace h:=q_
      refine qq [] 19 ag9 ag_ [] ?_
      obtain⟨kk,h⟩:=h
      refine pR 4 (some 85) [(84,.ptr 2 0 (iL a2) 3),(83,.ptr 2 0 (iL a2) 0),(82,.ptr 2 0 (iL a2) 0)] (AC J) a2.aC 4 3 0 (aq (nth (c1 J) a2.aC).bS) (dK kk.1 kk.2) ?_
      refine sh 1 86 (nth (c1 J) a2.aC).bS [] (fun nA=> ?_) (fun nA=> ?_)
      ·
       replace h:=h nA
       obtain⟨nB,h⟩:=h
       refine u6 6 (some 92) [(91,ai a2.aC),(90,aS 5 1),(89,bB (dS false) a0.O),(88,aS 3 2),(87,.agg (s7 J))] (dS false) a0.O 5 nB ?_
       obtain⟨n_,oS,oT,r_⟩:=h
       refine aao 3 (some 95) [(94,bB cB (uz a0 a2)),(93,.dz (dS false (nth a0.O a2.aC)) 4)] [.agg (s7 J),bB cB (uz a0 a2)] (UW (lA J) (uz a0 a2) r_) (ak.cons (df.agg (ak.cons (.bool _) (ak.cons (oW (sz:=1) (by simp) rfl (vG) n_) (ak.cons (oW (sz:=2) (by simp) rfl (xV) oS) (ak.cons (wC (s:=3) (ws:=(aK J).O) (ids:=(eo J)) (bs:=(en J)) (by simp) rfl (fun id k h=>by simpa using h) oT.1 oT.2.1 oT.2.2) ak.nil))))) (ak.cons (df.jc cW) ak.nil)) ?_
       exact ma [(81,aq (h8 (lA J) (uz a0 a2))),(96,aq (h8 (lA J) (uz a0 a2)))] trivial (by simp only[gT,hY,nz,nA,oI,oH,oG,n3,n1,ns]<;>kernel_rfl)
      ·
       exact ma ([(81,aq false),(96,aq false)]++hg [95,94,93,92,91,90,89,88,87]) trivial (by simp only[gT,hY,nz,nA,oI,oH,oG,n3,n1,ns]<;>kernel_rfl)
     unfold Mm at h
     refine dZ (fun uM=> ?_) (fun uM=> ?_)
     ·
      replace h:=h.1 uM
      refine qq [] 20 aha ahb [] ?_
      obtain⟨oa,h⟩:=h
      refine aar 7 none [(102,.ptr 2 0 (iL a2) 0),(101,.ptr 2 0 (iL a2) 0),(100,ai a0.cv),(99,aS 3 4),(98,.ptr 2 0 (iL a2) 0),(97,.ptr 2 0 (iL a2) 0)] (AC J) a2.aC 0 1 0 [ai 3] (fun r=>xi Tryz.prog (lH Uh 256942) [1,2,3] [(102,.ptr 2 0 (iL a2) 0),(101,.ptr 2 0 (iL a2) 0),(100,ai a0.cv),(99,aS 3 4),(98,.ptr 2 0 (iL a2) 0),(97,.ptr 2 0 (iL a2) 0),(81,aq (ns a0 J a2)),(11,.ptr 2 0 (iL a2) 0),(8,ai 0),(7,aS 7 0),(6,aS 6 0),(5,aS 5 0),(4,aS 4 0),(3,aS 3 0)] [(7,(jB J)),(6,n0),(5,(ie a2)),(4,(s7 J)),(3,(iy a0))] ((fun r=>(⟨0,1,List.map aT (ek J)⟩::⟨0,2,List.map bh (dL J)⟩::⟨0,5,r⟩::List.map br (en J))) r)) (fun r=>(⟨0,1,List.map aT (ek J)⟩::⟨0,2,List.map bh (dL J)⟩::⟨0,5,r⟩::List.map br (en J))) (aU 3 (s5 J a2) (eo J)) (dK oa.1 oa.2) (ln oa.1 oa.2) (Hv (ψ:=((true=true∧true=true∧((.ptr 2 0 (iL a2) 0:AV)= .ptr 2 0 (iL a2) 0))∧((true=true∧true=true∧((aS 3 4:AV)=aS 3 4))∧((true=true∧true=true∧((ai a0.cv:AV)=ai a0.cv))∧True)))) (by kernel_rfl) ⟨⟨rfl,rfl,rfl⟩,⟨⟨rfl,rfl,rfl⟩,⟨⟨rfl,rfl,rfl⟩,trivial⟩⟩⟩) ?_
      obtain⟨m3,h⟩:=h
      refine aar 3 none [(104,.ptr 2 0 (iL a2) 4),(103,.ptr 2 0 (iL a2) 0)] (aU 3 (s5 J a2) (eo J)) a2.aC 4 1 0 [ai a0.cv] (fun _=>True) (fun r=>(⟨0,1,List.map aT (ek J)⟩::⟨0,2,List.map bh (dL J)⟩::⟨0,5,r⟩::List.map br (en J))) (aU 3 (Ay a0 J a2) (eo J)) (dK m3.1 m3.2) (ln m3.1 m3.2) trivial ?_
      refine Iu [] ?_
      refine cs.normal ?_
      refine cs.normal ?_
      exact hS.normal ((en J),(ek J),(dL J),(eo J),0,(Ay a0 J a2)) h (jM (s':=⟨s8,(s6 a0 J),(Uo a0 J a2)⟩) (dX (n:=200) (A':=Ax) (L':=(s6 a0 J)) [5]) (congrArg (fun z=>(⟨s8,[(7,(jB J)),(6,n0),(4,[aq (i_ J),ay 0 0 (n4 J),ay 1 0 (dL J).length,ay 2 0 z]),(3,(iy a0))],(Uo a0 J a2)⟩:St)) (show(c1 J).length=(Ay a0 J a2).length by simp)))
     ·
      replace h:=h.2 uM
      refine bE [] 16 ?_
      obtain⟨q9,h⟩:=h
      refine tp 5 (some 66) [(65,ai a2.aC),(64,aS 5 1),(63,.agg (iy a0)),(62,.ptr 2 0 (iL a2) 0)] [.agg (iy a0),ai a2.aC] (.agg (Ul a0 J a2)) (⟨0,1,List.map aT (ek J)⟩::⟨0,2,List.map bh (dL J)⟩::⟨0,5,aU 3 (c1 J) (eo J)⟩::List.map br ((en J)++[(dE a0 a2.aC).ae])) (Mz a0 a2.aC q9) (ak.cons (df.agg (ak.cons (.int _ _) (ak.cons cW (ak.cons cW (ak.cons cW (ak.cons (.int _ _) ak.nil)))))) (ak.cons (df.jc (.int _ _)) ak.nil)) (uL (fun _=>rfl) rfl) (uV (uU (fun _=>rfl) rfl) (by simp only[List.cons_append,List.map_nil,xh])) ?_ (er:=by simp[oX,qv,js])
      obtain⟨ob,h⟩:=h
      refine k8 2 none [(67,.ptr 2 0 (iL a2) 0)] (AC J) a2.aC 0 5 0 (Ul a0 J a2) 2 (aU 3 (Az a0 J a2) (DJ J a2)) (dK ob.1 ob.2) (zY ob.1) ?_
      refine ef [] ?_
      refine cs.normal ?_
      refine cs.normal ?_
      exact hS.normal (((en J)++[(dE a0 a2.aC).ae]),(ek J),(dL J),(DJ J a2),0,(Az a0 J a2)) h (jM (s':=⟨s8,(s6 a0 J),(Uj a0 J a2)⟩) (dX (n:=200) (A':=Ax) (L':=(s6 a0 J)) [5]) (congrArg (fun z=>(⟨s8,[(7,(jB J)),(6,n0),(4,[aq (i_ J),ay 0 0 (n4 J),ay 1 0 (dL J).length,ay 2 0 z]),(3,(iy a0))],(Uj a0 J a2)⟩:St)) (show(c1 J).length=(Az a0 J a2).length by simp)))
   ·
    replace h:=h.2 hY
    refine cR [(105,aq (n1 a2))] x4 (True) ?_ (fun oc=> ?_)
    ·
     refine eO [] 21 [(105,aq (a2.op==3)),(106,aq (a2.op==3))] [1] x4 ?_
     refine dZ (fun qn=> ?_) (fun qn=> ?_)
     ·
      refine eP ?_
      exact cE.normal trivial (e1 (by simp only[gT,hY,qn,oI,oH,oG,n3,n1,ns]<;>kernel_rfl))
     ·
      refine bE [] 22 ?_
      exact ca [(105,aq (a2.op==4)),(107,aq (a2.op==4))] trivial (by simp only[gT,hY,qn,oI,oH,oG,n3,n1,ns]<;>kernel_rfl)
    unfold Mg at h
    refine dZ (fun qo=> ?_) (fun qo=> ?_)
    ·
     replace h:=h.1 qo
     refine bE [] 23 ?_
     obtain⟨aaQ,h⟩:=h
     refine m4 8 (some 115) [(114,aq (a2.op==3)),(113,ai a2.op),(112,aS 5 0),(111,ai a2.aC),(110,aS 5 1),(109,ay 0 0 (n4 J)),(108,aS 4 1)] 0 0 1 aaQ ?_
     refine wB 1 none [] aT (ek J) a2.aC 0 1 0 [aq (a2.op==3)] 0 (a2.op==3) (by simpa using aaQ.2) ?_
     refine ef [] ?_
     refine cs.normal ?_
     exact hS.normal ((en J),(DI J a2),(dL J),(eo J),0,(c1 J)) h (jM (s':=⟨s8,(s6 a0 J),(Uk J a2)⟩) (dX (n:=200) (A':=Ax) (L':=(s6 a0 J)) [5]) (congrArg (fun z=>(⟨s8,[(7,(jB J)),(6,n0),(4,[aq (i_ J),ay 0 0 z,ay 1 0 (dL J).length,ay 2 0 (c1 J).length]),(3,(iy a0))],(Uk J a2)⟩:St)) (show(ek J).length=(DI J a2).length by simp)))
    ·
     replace h:=h.2 qo
     refine eO [] 24 [(116,aq (a2.op==5)),(117,aq (a2.op==5))] [1] x4 ?_
     refine dZ (fun pH=> ?_) (fun pH=> ?_)
     ·
      replace h:=h.1 pH
      refine bE [] 25 ?_
      obtain⟨aaR,h⟩:=h
      refine m4 7 (some 124) [(123,ai a2.a1),(122,aS 5 2),(121,ai a2.aC),(120,aS 5 1),(119,ay 1 0 (dL J).length),(118,aS 4 2)] 1 0 2 aaR ?_
      refine wB 2 none [(125,.ptr 1 0 (iL a2) 1)] bh (dL J) a2.aC 1 1 0 [ai a2.a1] 1 (bP.mk (nth (dL J) a2.aC).c6 a2.a1) (by simpa using aaR.2) ?_
      refine ef [] ?_
      refine cs.normal ?_
      exact hS.normal ((en J),(ek J),(DE J a2),(eo J),0,(c1 J)) h (jM (s':=⟨s8,(s6 a0 J),(Um J a2)⟩) (dX (n:=200) (A':=Ax) (L':=(s6 a0 J)) [5]) (congrArg (fun z=>(⟨s8,[(7,(jB J)),(6,n0),(4,[aq (i_ J),ay 0 0 (n4 J),ay 1 0 z,ay 2 0 (c1 J).length]),(3,(iy a0))],(Um J a2)⟩:St)) (show(dL J).length=(DE J a2).length by simp)))
     ·
      replace h:=h.2 pH
      refine eO [] 26 [(126,aq (a2.op==6)),(127,aq (a2.op==6))] [1] x4 ?_
      unfold Mf at h
      refine dZ (fun l7=> ?_) (fun l7=> ?_)
      ·
       replace h:=h.1 l7
       refine hp 4 ?_
       obtain⟨wq,h⟩:=h
       refine cR [(136,aq (AB a0 J a2))] [0,2,6] ((ki a0 (lA J) a2.aC).length≤4611686018427387904) ?_ (fun HL=> ?_)
       ·
        replace h:=wq
        refine bE [] 28 ?_
        obtain⟨sa,uN,wk,Eg⟩:=h
        refine qt 5 (some 141) [(140,ai a2.aC),(139,aS 5 1),(138,.agg (s7 J)),(137,.agg (iy a0))] [.agg (iy a0),.agg (s7 J),ai a2.aC] (UD a0 (lA J) a2.aC Eg) (ak.cons (df.agg (ak.cons (.int _ _) (ak.cons cW (ak.cons cW (ak.cons cW (ak.cons (.int _ _) ak.nil)))))) (ak.cons (df.agg (ak.cons (.bool _) (ak.cons (oW (sz:=1) (by simp) rfl (vG) sa) (ak.cons (oW (sz:=2) (by simp) rfl (xV) uN) (ak.cons (wC (s:=3) (ws:=(aK J).O) (ids:=(eo J)) (bs:=(en J)) (by simp) rfl (fun id k h=>by simpa using h) wk.1 wk.2.1 wk.2.2) ak.nil))))) (ak.cons (df.jc (.int _ _)) ak.nil))) ?_
        refine sLen 1 (some 142) [] cB (ki a0 (lA J) a2.aC) (fun Bf=> ?_)
        exact ca [(136,aq (AB a0 J a2)),(143,aq (AB a0 J a2))] Bf
       replace h:=h HL
       unfold Mp at h
       refine dZ (fun uO=> ?_) (fun uO=> ?_)
       ·
        replace h:=h.1 uO
        refine bE [] 29 ?_
        refine ef [(8,ai 2)] ?_
        refine cs.normal ?_
        refine cs.normal ?_
        exact hS.normal ((en J),(ek J),(dL J),(eo J),2,(c1 J)) h (dX [5])
       ·
        replace h:=h.2 uO
        obtain⟨wo,h⟩:=h
        refine cR [(144,aq (AD a0 J a2))] [0,1,6] (True) ?_ (fun wl=> ?_)
        ·
         replace h:=wo
         refine qq [] 30 ahc ahd [] ?_
         obtain⟨tl,h⟩:=h
         refine u6 7 (some 151) [(150,ai a2.aC),(149,aS 5 1),(148,bB cB a0.a_),(147,aS 3 1),(146,ay 0 0 (n4 J)),(145,aS 4 1)] cB a0.a_ 1 tl ?_
         have aaU:=h
         refine y2 2 (some 153) [(152,ai (nth a0.a_ a2.aC))] 0 0 1 aaU ?_
         refine BY 1 (some 154) [] aT (ek J) (nth a0.a_ a2.aC) 4 0 0 (aq (AD a0 J a2)) (by simpa using aaU.2) ?_
         exact ma [(144,aq (AD a0 J a2))] trivial
        unfold Mo at h
        refine dZ (fun wm=> ?_) (fun wm=> ?_)
        ·
         replace h:=h.1 wm
         refine bE [] 31 ?_
         refine ef [(8,ai 3)] ?_
         refine cs.normal ?_
         refine cs.normal ?_
         exact hS.normal ((en J),(ek J),(dL J),(eo J),3,(c1 J)) h (dX [5])
        ·
         replace h:=h.2 wm
         refine bE [] 27 ?_
         obtain⟨aaS,h⟩:=h
         refine m4 7 (some 134) [(133,ai a2.a1),(132,aS 5 2),(131,ai a2.aC),(130,aS 5 1),(129,ay 1 0 (dL J).length),(128,aS 4 2)] 1 0 2 aaS ?_
         refine wB 2 none [(135,.ptr 1 0 (iL a2) 0)] bh (dL J) a2.aC 0 1 0 [ai a2.a1] 1 (bP.mk a2.a1 (nth (dL J) a2.aC).bA) (by simpa using aaS.2) ?_
         refine ef [] ?_
         refine cs.normal ?_
         refine cs.normal ?_
         exact hS.normal ((en J),(ek J),(DF J a2),(eo J),0,(c1 J)) h (jM (s':=⟨s8,(s6 a0 J),(Un J a2)⟩) (dX (n:=200) (A':=Ax) (L':=(s6 a0 J)) [5]) (congrArg (fun z=>(⟨s8,[(7,(jB J)),(6,n0),(4,[aq (i_ J),ay 0 0 (n4 J),ay 1 0 z,ay 2 0 (c1 J).length]),(3,(iy a0))],(Un J a2)⟩:St)) (show(dL J).length=(DF J a2).length by simp)))
      ·
       replace h:=h.2 l7
       refine eO [] 32 [(155,aq (a2.op==7)),(156,aq (a2.op==7))] [1] [0,2,3,1,2] ?_
       refine dZ (fun oV=> ?_) (fun oV=> ?_)
       ·
        replace h:=h.1 oV
        refine eO [] 33 [(160,ai 0),(159,ai ((c1 J).length:Int)),(158,ay 2 0 (c1 J).length),(157,aS 4 3)] [2] [0,1,5] ?_
        unfold Me at h
        refine hp 5 ?_
        obtain⟨N0,h⟩:=h
        refine ng (fun(v:List (List Bool)×List Nat×Int×List av)=>(⟨(bt 200 [(3,aS 3 0),(4,aS 4 0),(6,aS 6 0),(7,aS 7 0),(8,ai 0),(159,ai ((c1 J).length:Int)),(160,ai (v.2.2.1))]),[(7,(jB J)),(6,n0),(4,[aq (i_ J),ay 0 0 (n4 J),ay 1 0 (dL J).length,ay 2 0 (v.2.2.2).length]),(3,(iy a0))],(⟨0,1,List.map aT (ek J)⟩::⟨0,2,List.map bh (dL J)⟩::⟨0,5,aU 3 (v.2.2.2) (v.2.1)⟩::List.map br (v.1))⟩:St)) (fun(v:List (List Bool)×List Nat×Int×List av)=>bd (v.1) (v.2.1) (v.2.2.1) (v.2.2.2)) (fun(v:List (List Bool)×List Nat×Int×List av)=>a6 (v.1) (v.2.1) (v.2.2.1) (v.2.2.2)) ((en J),(eo J),0,(aK J).O) (dX [5]) N0 (fun v aN=> ?_)
        obtain⟨bN,aH,v160,ws2⟩:=v
        replace h:=h bN aH v160 ws2 aN
        dsimp only
        refine eO [] 34 [(161,aq (DG J v160))] [1] [7] ?_
        obtain⟨NZ,h⟩:=h
        refine cR [] x4 ((DG J v160)=true) ?_ (fun yG=> ?_)
        ·
         replace h:=NZ
         refine dZ (fun wu=> ?_) (fun wu=> ?_)
         ·
          refine eP ?_
          exact cE.normal (by simp only[gT,hY,qo,pH,l7,oV,wu,oI,oH,oG,n3,n1,ns]<;>rfl) e1
         ·
          replace h:=h wu
          refine lh 5 ?_
          refine cE.exit ?_
          refine eC.exit ?_
          refine cs.here ?_
          refine cs.normal ?_
          exact hS.normal (bN,(ek J),(dL J),aH,0,ws2) h (dX [])
        replace h:=h yG
        unfold Md at h
        obtain⟨NY,h⟩:=h
        obtain⟨qB,uP⟩: ∃w:List av,(oG a0 v160 ws2)=w:=⟨_,rfl⟩
        obtain⟨sm,sb⟩: ∃w:List Nat,(oI bN aH v160 ws2)=w:=⟨_,rfl⟩
        obtain⟨sn,Bh⟩: ∃w:List (List Bool),(oH a0 bN v160 ws2)=w:=⟨_,rfl⟩
        refine fX [] [7] id (fun _=>(Mv J qB sm sn)) (True) ?_ (fun HM=> ?_)
        ·
         replace h:=NY
         refine hp 6 ?_
         refine eO [] 35 [(12,ai v160),(162,ai v160)] [1] [7] ?_
         obtain⟨NX,h⟩:=h
         refine cR [(13,.ptr 2 0 (oJ v160) 0)] [8] (True) ?_ (fun alq=> ?_)
         ·
          replace h:=NX
          refine bE [] 36 ?_
          have ao1:=h
          refine m4 4 (some 166) [(165,ai v160),(164,ay 2 0 ws2.length),(163,aS 4 3)] 2 0 5 ao1 ?_
          exact ca [(13,.ptr 2 0 (oJ v160) 0)] trivial
         obtain⟨NW,h⟩:=h
         refine cR [(171,aq (x1 v160 ws2))] [9] (True) ?_ (fun apP=> ?_)
         ·
          replace h:=NW
          refine bE [] 37 ?_
          have Bi:=h
          refine jH 4 (some 170) [(169,.ptr 2 0 (oJ v160) 0),(168,.ptr 2 0 (oJ v160) 0),(167,.ptr 2 0 (oJ v160) 0)] (aU 3 ws2 aH) v160 3 0 0 (ai (nth ws2 v160).aJ) (dK Bi.1 Bi.2) ?_
          exact ca [(171,aq (x1 v160 ws2))] trivial
         refine dZ (fun Ei=> ?_) (fun Ei=> ?_)
         ·
          replace h:=h Ei
          obtain⟨HK,h⟩:=h
          refine fX [] [0,1,9] id (fun H=>eE 2 ⟨0,5,aU 3 (pw v160 ws2) aH⟩ H) (True) ?_ (fun X0=> ?_)
          ·
           replace h:=HK
           refine bE [] 38 ?_
           obtain⟨HN,h⟩:=h
           refine jH 4 (some 175) [(174,.ptr 2 0 (oJ v160) 4),(173,.ptr 2 0 (oJ v160) 0),(172,.ptr 2 0 (oJ v160) 0)] (aU 3 ws2 aH) v160 3 4 0 (ai (nth ws2 v160).bR) (dK HN.1 HN.2) ?_
           have tm:=h
           refine k8 4 none [(178,.ptr 2 0 (oJ v160) 4),(177,.ptr 2 0 (oJ v160) 0),(176,ai (IntKind.i64.wrap ((nth ws2 v160).bR - 1)))] (aU 3 ws2 aH) v160 4 1 0 [ai (IntKind.i64.wrap ((nth ws2 v160).bR - 1))] 2 (aU 3 (pw v160 ws2) aH) (dK tm.1 tm.2) (ln tm.1 tm.2) ?_
           exact ca [] trivial
          unfold Mr at h
          obtain⟨HJ,h⟩:=h
          refine cR [(183,aq (x0 v160 ws2))] [9] (True) ?_ (fun NU=> ?_)
          ·
           replace h:=HJ
           refine bE [] 39 ?_
           have HI:=h
           refine jH 4 (some 182) [(181,.ptr 2 0 (oJ v160) 4),(180,.ptr 2 0 (oJ v160) 0),(179,.ptr 2 0 (oJ v160) 0)] (aU 3 (pw v160 ws2) aH) v160 3 4 0 (ai (nth (pw v160 ws2) v160).bR) (dK HI.1 HI.2) ?_
           exact ca [(183,aq (x0 v160 ws2))] trivial
          unfold Mq at h
          refine dZ (fun yF=> ?_) (fun yF=> ?_)
          ·
           replace h:=h yF
           refine bE [] 40 ?_
           obtain⟨NV,h⟩:=h
           refine tp 4 (some 187) [(186,ai v160),(185,.agg (iy a0)),(184,.ptr 2 0 (oJ v160) 0)] [.agg (iy a0),ai v160] (.agg (Up a0 bN v160)) (⟨0,1,List.map aT (ek J)⟩::⟨0,2,List.map bh (dL J)⟩::⟨0,5,aU 3 (pw v160 ws2) aH⟩::List.map br (bN++[(dE a0 v160).ae])) (Mz a0 v160 NV) (ak.cons (df.agg (ak.cons (.int _ _) (ak.cons cW (ak.cons cW (ak.cons cW (ak.cons (.int _ _) ak.nil)))))) (ak.cons (df.jc (.int _ _)) ak.nil)) (uL (fun _=>rfl) rfl) (uV (uU (fun _=>rfl) rfl) (by simp only[List.cons_append,List.map_nil,xh])) ?_ (er:=by simp[oX,qv,js])
           have Bc:=h
           refine k8 2 none [(188,.ptr 2 0 (oJ v160) 0)] (aU 3 (pw v160 ws2) aH) v160 0 5 0 (Up a0 bN v160) 2 (aU 3 (Mt a0 v160 ws2) (aH.set v160.toNat bN.length)) (dK Bc.1 Bc.2) (zY Bc.1) ?_
           refine ef [] ?_
           refine cs.normal ?_
           exact cE.normal trivial (by simp only[←uP,←sb,←Bh,gT,hY,qo,pH,l7,oV,yG,Ei,yF,cond_true,cond_false,oI,oH,oG,n3,n1,ns];exact e1)
          ·
           refine eP ?_
           refine cs.normal ?_
           exact cE.normal trivial (by simp only[←uP,←sb,←Bh,gT,hY,qo,pH,l7,oV,yG,Ei,yF,cond_true,cond_false,oI,oH,oG,n3,n1,ns];exact e1)
         ·
          refine eP ?_
          refine cs.normal ?_
          exact cE.normal trivial (by simp only[←uP,←sb,←Bh,gT,hY,qo,pH,l7,oV,yG,Ei,cond_true,cond_false,oI,oH,oG,n3,n1,ns];exact e1)
        replace h:=h qB uP
        have afK:qB.length=ws2.length:=by rw[←uP];repeat' apply DQ;all_goals simp
        replace h:=h sm sb
        replace h:=h sn Bh
        refine bE [] 41 ?_
        refine ef [(160,ai (x2 v160)),(189,ai (x2 v160))] ?_
        exact eC.again (sn,sm,(x2 v160),qB) h (jM (s':=⟨(bt 200 (Mu J v160)),(Us a0 J ws2),(Mv J qB sm sn)⟩) (dX (n:=200) (A':=(Mu J v160)) (L':=(Us a0 J ws2)) []) (congrArg (fun z=>(⟨(bt 200 (Mu J v160)),[(7,(jB J)),(6,n0),(4,[aq (i_ J),ay 0 0 (n4 J),ay 1 0 (dL J).length,ay 2 0 z]),(3,(iy a0))],(Mv J qB sm sn)⟩:St)) (show ws2.length=qB.length by simp[afK])))
       ·
        replace h:=h.2 oV
        refine eP ?_
        refine cs.normal ?_
        exact hS.normal ((en J),(ek J),(dL J),(eo J),0,(c1 J)) h (dX [5])
 obtain⟨bN,aF,aO,aH,cT,ws2⟩:=v
 replace h:=h bN aF aO aH cT ws2 eh
 dsimp only
 unfold Mj at h
 obtain⟨alm,h⟩:=h
 refine cR [] [3] ((!(cT !=0))=true) ?_ (fun N1=> ?_)
 ·
  replace h:=alm
  refine eO [] 42 [(191,aq (cT !=0)),(190,ai cT)] [1] [5] ?_
  refine dZ (fun Ee=> ?_) (fun Ee=> ?_)
  ·
   replace h:=h Ee
   obtain⟨N3,h⟩:=h
   refine fX [] [0,3,1] (fun L=>er 1 (GQ J aO bN aH ws2 aF cT) L) (fun _=>((AA aO bN aH ws2 aF)++List.map (iD (oK aO bN aH ws2 aF)) (GR J))) (True) ?_ (fun XV=> ?_)
   ·
    replace h:=N3
    refine bE [] 43 ?_
    have N2:=h
    refine tp 3 (some 194) [(193,.agg (jB J)),(192,ai cT)] [.agg (jB J)] (.agg [aq (i_ J),ay ((oK aO bN aH ws2 aF)+0) 0 (n4 J),ay ((oK aO bN aH ws2 aF)+1) 0 (dL J).length,ay ((oK aO bN aH ws2 aF)+2) 0 (c1 J).length]) ((AA aO bN aH ws2 aF)++List.map (iD (oK aO bN aH ws2 aF)) (GR J)) (L7 J N2) (ak.cons (df.agg (ak.cons (.bool _) (ak.cons cW (ak.cons cW (ak.cons cW ak.nil))))) ak.nil) A2 rfl ?_ (er:=rfl)
    exact ca [(195,.agg (GQ J aO bN aH ws2 aF cT))] trivial
   refine ji ?_
   refine cE.ret ?_
   refine mu (.agg (GQ J aO bN aH ws2 aF cT)) [.agg (GQ J aO bN aH ws2 aF cT)] ?_
   exact Xt (H:=(AA aO bN aH ws2 aF)) (T:=(aK J)) (pre:=[cT]) (pre':=[aa.code]) ⟨congrArg (fun x=>[x]) h.1,h.2⟩
  ·
   refine eP ?_
   exact cE.normal (by simp only[Ee,oI,oH,oG,n3,n1,ns]<;>rfl) e1
 replace h:=h N1
 obtain⟨alk,h⟩:=h
 refine fX [] [0,2,1] (fun L=>er 1 (GU a0 J aO bN aH ws2 aF) L) (fun _=>(Ui a0 J aO bN aH ws2 aF)) (True) ?_ (fun XW=> ?_)
 ·
  replace h:=alk
  refine bE [] 44 ?_
  obtain⟨alh,ali,N4,alj⟩:=h
  refine tp 3 (some 198) [(197,.agg [aq (i_ J),ay 0 0 aF.length,ay 1 0 aO.length,ay 2 0 ws2.length]),(196,.agg (iy a0))] [.agg (iy a0),.agg [aq (i_ J),ay 0 0 aF.length,ay 1 0 aO.length,ay 2 0 ws2.length]] (.agg [aq (eJ a0 (mW J aO bN aH ws2 aF)).ok,ay ((oK aO bN aH ws2 aF)+0) 0 (eJ a0 (mW J aO bN aH ws2 aF)).aB.length,ay ((oK aO bN aH ws2 aF)+1) 0 (eJ a0 (mW J aO bN aH ws2 aF)).au.length,ay ((oK aO bN aH ws2 aF)+2) 0 (eJ a0 (mW J aO bN aH ws2 aF)).O.length]) (Ui a0 J aO bN aH ws2 aF) (UK a0 (mW J aO bN aH ws2 aF) alj) (ak.cons (df.agg (ak.cons (.int _ _) (ak.cons cW (ak.cons cW (ak.cons cW (ak.cons (.int _ _) ak.nil)))))) (ak.cons (df.agg (ak.cons (.bool _) (ak.cons (oW (sz:=1) (by simp) rfl (vG) alh) (ak.cons (oW (sz:=2) (by simp) rfl (xV) ali) (ak.cons (wC (s:=3) (ws:=ws2) (ids:=aH) (bs:=bN) (by simp) rfl (fun id k h=>by simpa using h) N4.1 N4.2.1 N4.2.2) ak.nil))))) ak.nil)) A2 rfl ?_ (er:=rfl)
  exact ca [(199,.agg (GU a0 J aO bN aH ws2 aF))] trivial
 refine ji ?_
 refine mu (.agg (GU a0 J aO bN aH ws2 aF)) [.agg (GU a0 J aO bN aH ws2 aF)] ?_
 exact Xt (H:=(AA aO bN aH ws2 aF)) (T:=(eJ a0 (mW J aO bN aH ws2 aF))) (pre:=[0]) (pre':=[aa.code]) ⟨congrArg (fun x=>[x]) h.1,h.2⟩
theorem ag8 (ab:FK a0 J a2):de Tryz.prog 72 [.agg (iy a0),.agg (jB J),.agg (ie a2)] [] (fun r H=>r= .agg [ai (lT a0 J a2).code,aq (lT a0 J a2).frame.ok,ay 0 0 (lT a0 J a2).frame.aB.length,ay 1 0 (lT a0 J a2).frame.au.length,ay 2 0 (lT a0 J a2).frame.O.length]∧H=(⟨0,1,List.map aT (lT a0 J a2).frame.aB⟩::⟨0,2,List.map bh (lT a0 J a2).frame.au⟩::⟨0,5,aU 3 (lT a0 J a2).frame.O (List.range (lT a0 J a2).frame.O.length)⟩::List.map br (List.map av.ae (lT a0 J a2).frame.O))):=ahe a0 J a2 (lT a0 J a2) (fun x v=>cq (bY (nth a0.O a2.aC)).length (fun _=>false) v∧x=l8 ((bY (nth a0.O a2.aC)).take v.toNat) J.au) (fun _ v=>cI (bY (nth a0.O a2.aC)).length v) (fun bs is v ws=>cq J.O.length (fun _=>false) v∧gL ws is bs∧view ws is bs=kp a0 v.toNat J.O) (fun _ _ v _=>cI J.O.length v) (fun bs o q is c ws=>gL ws is bs∧c=gb a0 J a2∧(c=0→Frame.mk J.ok o q (view ws is bs)=jy a0 J a2)) (by
 unfold Mb
 obtain⟨hf,he⟩:=ab
 have hs:=Sj hf
 have nr:=hs
 obtain⟨lM,z2,z3,z4⟩:=nr
 have cF:=hf.in
 have dj:=hf.fr
 have aw:=dj.O
 have sU:=dj.aB
 have mh:=dj.au
 have Dn:=cF.O
 have ul:=cF.c0
 have Ap:=cF.bi
 obtain⟨cP,dd,dV⟩:=CT J.O
 have pj:gL J.O (List.range J.O.length) (J.O.map av.ae):=⟨cP,dd,fun b hb=>by
  obtain⟨h,bw,rfl⟩:=List.mem_map.1 hb;exact z4 h bw⟩
 have vv:Frame.mk (aK J).ok (aK J).aB (aK J).au (view (aK J).O (List.range (aK J).O.length) (List.map av.ae (aK J).O))=J:=by
  show Frame.mk J.ok J.aB J.au (view J.O (List.range J.O.length) (List.map av.ae J.O))=J
  rw[dV]
 have nq:(aK J).O.length=(List.range (aK J).O.length).length:=by rw[List.length_range]
 have fo:(aK J).aB.length≤4611686018427387904∧(aK J).au.length≤4611686018427387904∧(me (aK J).O (List.range (aK J).O.length) (List.map av.ae (aK J).O)∧(aK J).O.length≤4611686018427387904∧(∀x∈(List.map av.ae (aK J).O),List.length x≤4611686018427387904)):=
  ⟨by show J.aB.length≤_;omega,by show J.au.length≤_;omega,cP,by show J.O.length≤_;omega,fun x hx=>by have:=pj.len x hx;omega⟩
 have kW: ∀c:Int,c=gb a0 J a2→c≠0→gL J.O (List.range J.O.length) (J.O.map av.ae)∧c=gb a0 J a2∧(c=0→Frame.mk J.ok J.aB J.au (view J.O (List.range J.O.length) (J.O.map av.ae))=jy a0 J a2):=fun c hc bq=>⟨pj,hc,fun h=>absurd h bq⟩
 refine⟨hs,?_,fun bs o q is c ws eh=> ?_⟩
 ·unfold Mi lA eo en i_ dL ek c1
  refine⟨fun h1=> ?_,fun h1=> ?_⟩
  ·have h1:a2.op=1:=by simpa using h1
   have aY:=xg he (.inl h1)
   have uc:gb a0 J a2=h9 a0 J a2.aC:=by unfold gb;rw[if_pos h1]
   unfold Ml ux oF kZ lA eo en i_ dL ek c1
   rw[vv]
   refine⟨⟨fo.1,fo.2.1,fo.2.2,hf,aY.1,aY.2⟩,fun az=> ?_,fun az=> ?_⟩
   ·have az:h9 a0 J a2.aC=0:=by simpa using az
    have aM:a2.aC.toNat<J.O.length:=by omega
    refine⟨⟨⟨aY.1,aM⟩,nq,aM⟩,⟨⟨aY.1,by omega⟩,?_⟩,fun hm=>⟨⟨dB (dt _),rfl⟩,fun x v aN=> ?_⟩⟩
    ·have:=cF.bA _ (ee (show a2.aC.toNat<a0.O.length by omega))
     exact⟨by omega,by omega⟩
    obtain⟨aN,rfl⟩:=aN
    unfold Mk Mc DH x3 oF xZ uA kZ uy lA eo en i_ dL ek c1
    rw[vv]
    refine⟨fun hv=> ?_,fun hv=>⟨⟨cA aN hv,?_⟩,⟨(dn (c_ hm) aN hv rfl).1,?_⟩,(dn (c_ hm) aN hv rfl).2⟩⟩
    ·have bW:=(pj.tN aM).setState 1
     refine⟨bW.G,uc.symm,fun _=> ?_⟩
     have ly: ¬v<((bY (nth a0.O a2.aC)).length:Int):=by simpa using hv
     have jo:=aN.1
     have kX:=bW.io
     rw[dV] at kX
     unfold jy
     rw[if_pos h1]
     rw[show view ((aK J).O.set a2.aC.toNat (av.mk 1 (nth (aK J).O a2.aC).ba (nth (aK J).O a2.aC).ae (nth (aK J).O a2.aC).bS (nth (aK J).O a2.aC).bR)) (List.range (aK J).O.length) (List.map av.ae (aK J).O)=_ from kX,List.take_of_length_le (by omega)]
     rfl
    ·rw[HY]
     have:=(cF.bA _ (ee (show a2.aC.toNat<a0.O.length by omega))).2.2 _ (ee (cA aN hv).2)
     omega
    ·have cz:=cA aN hv
     rw[mE (c_ hm) aN.1 (by simpa using hv),show(v+1).toNat=v.toNat+1 by have:=aN.1;omega,YD cz.2,←iN cz.2]
   ·have az: ¬h9 a0 J a2.aC=0:=by simpa using az
    exact kW _ uc.symm az
  have h1: ¬a2.op=1:=by simpa using h1
  unfold Mh qV ux eo c1
  refine⟨fun h2=> ?_,fun h2=> ?_⟩
  ·have h2:a2.op=2:=by simpa using h2
   have aY:=xg he (.inr h2)
   have aM:a2.aC.toNat<J.O.length:=by omega
   have Af:a2.aC.toNat<a0.O.length:=by omega
   have iv:gb a0 J a2=if(nth J.O a2.aC).aJ≠1∧(nth J.O a2.aC).aJ≠2 then 2 else 0:=by unfold gb;rw[if_neg h1,if_pos h2]
   refine⟨⟨aY.1,aM⟩,⟨⟨nq,aM⟩,fun _=>⟨nq,aM⟩⟩,?_⟩
   unfold Mn n3 uz qV ux lA eo en i_ dL ek c1
   rw[vv]
   have qP:(((nth (aK J).O a2.aC).aJ !=1)&&((nth (aK J).O a2.aC).aJ !=2))=decide ((nth J.O a2.aC).aJ≠1∧(nth J.O a2.aC).aJ≠2):=by
    rw[Bool.eq_iff_iff];simp[aK]
   rw[qP]
   refine⟨fun hc=> ?_,fun hc=>⟨⟨⟨nq,aM⟩,fun _=>⟨⟨aY.1,Af⟩,fo.1,fo.2.1,fo.2.2,fun x hx=> ?_⟩⟩,?_⟩⟩
   ·have hc:=of_decide_eq_true hc
    rw[if_pos hc] at iv
    exact kW 2 iv.symm (by decide)
   ·have:=(cF.eb _ (ee Af)).2 x hx;omega
   ·have hc:=of_decide_eq_false hc
    rw[if_neg hc] at iv
    have bW:=pj.tN aM
    rw[dV] at bW
    unfold Mm ns uz DJ ux Az Ay lA eo en i_ dL ek s5 c1
    rw[vv]
    have aW: ∀X:Frame,X=(if((nth J.O a2.aC).bS&&h8 J (nth a0.O a2.aC).eb)=true then{J with O:=J.O.set a2.aC.toNat {nth J.O a2.aC with aJ:=3,bR:=a0.cv}} else{J with O:=J.O.set a2.aC.toNat (dE a0 a2.aC)})→X=jy a0 J a2:=fun X ae3=>by
     unfold jy;rw[if_neg h1,if_pos h2];exact ae3
    refine⟨fun U=>⟨⟨nq,aM⟩,(bW.setState 3).fR,?_⟩,fun U=>⟨⟨cF,aY.1,aY.2⟩,⟨nq,aM⟩,?_⟩⟩
    ·have cY:=(bW.setState 3).Bs a0.cv
     refine⟨cY.G,iv.symm,fun _=>aW _ ?_⟩
     have U:((nth J.O a2.aC).bS&&h8 J (nth a0.O a2.aC).eb)=true:=U
     rw[if_pos U]
     have kX:=cY.io
     exact congrArg (Frame.mk J.ok J.aB J.au) kX
    ·have cY:=bW.new (dE a0 a2.aC) (by
      have:=(cF.ao _ (ee Af)).2.1
      show(List.replicate _ _).length≤_
      rw[List.length_replicate];omega)
     have QA:dp J.O ((List.range (aK J).O.length).set a2.aC.toNat (List.map av.ae (aK J).O).length) a2.aC (dE a0 a2.aC) ((aK J).O.set a2.aC.toNat (av.mk (dE a0 a2.aC).aJ (dE a0 a2.aC).ba (dE a0 a2.aC).ae (dE a0 a2.aC).bS (dE a0 a2.aC).bR)) ((List.map av.ae (aK J).O)++[(dE a0 a2.aC).ae]):=cY
     refine⟨QA.G,iv.symm,fun _=>aW _ ?_⟩
     have U: ¬((nth J.O a2.aC).bS&&h8 J (nth a0.O a2.aC).eb)=true:=by
      have U:((nth J.O a2.aC).bS&&h8 J (nth a0.O a2.aC).eb)=false:=U
      rw[U];simp
     rw[if_neg U,QA.io];rfl
  have h2: ¬a2.op=2:=by simpa using h2
  have ok: ∀(o:List Bool) (q:List bP),gb a0 J a2=0→jy a0 J a2={J with aB:=o,au:=q}→gL J.O (List.range J.O.length) (J.O.map av.ae)∧0=gb a0 J a2∧((0:Int)=0→Frame.mk J.ok o q (view J.O (List.range J.O.length) (J.O.map av.ae))=jy a0 J a2):=fun o q hc aW=>⟨pj,hc.symm,fun _=>by rw[dV,aW]⟩
  unfold Mg n1 DI DE eo en dL ek c1
  rw[D6]
  refine⟨fun aD=> ?_,fun aD=> ?_⟩
  ·have aD:=of_decide_eq_true aD
   have aY:=Ki he aD
   refine⟨⟨aY.1,by show a2.aC.toNat<J.aB.length;omega⟩,ok _ _ ?_ ?_⟩
   ·unfold gb;rw[if_neg h1,if_neg h2,if_neg (by omega)]
   ·unfold jy;rw[if_neg h1,if_neg h2,if_pos aD];rfl
  have aD:=of_decide_eq_false aD
  refine⟨fun cl=> ?_,fun cl=> ?_⟩
  ·have cl:a2.op=5:=by simpa using cl
   have aY:=F0 he (.inl cl)
   refine⟨⟨aY.1,by show a2.aC.toNat<J.au.length;omega⟩,ok _ _ ?_ ?_⟩
   ·unfold gb;rw[if_neg h1,if_neg h2,if_neg (by omega)]
   ·unfold jy;rw[if_neg h1,if_neg h2,if_neg aD,if_pos cl];rfl
  have cl: ¬a2.op=5:=by simpa using cl
  unfold Mf lA eo en i_ dL ek c1
  refine⟨fun cC=> ?_,fun cC=>⟨fun hM=> ?_,fun hM=> ?_⟩⟩
  ·have cC:a2.op=6:=by simpa using cC
   have aY:=F0 he (.inr cC)
   have iv:gb a0 J a2=if jZ a0 J a2.aC=true then 2 else if lF a0 J a2.aC=true then 3 else 0:=by unfold gb;rw[if_neg h1,if_neg h2,if_pos cC]
   rw[vv]
   refine⟨⟨fo.1,fo.2.1,fo.2.2,hf,aY.1,aY.2⟩,fun _=> ?_⟩
   unfold Mp Mo AD AB DF lA eo en i_ dL ek c1
   rw[vv]
   have Lx:=cF.a_ _ (ee (show a2.aC.toNat<a0.a_.length by omega))
   refine⟨fun hc=> ?_,fun hc=>⟨⟨⟨aY.1,by omega⟩,Lx.1,by show _<J.aB.length;omega⟩,fun an=> ?_,fun an=>⟨⟨aY.1,by show _<J.au.length;omega⟩,ok _ _ ?_ ?_⟩⟩⟩
   ·rw[if_pos (show jZ a0 J a2.aC=true from hc)] at iv
    exact kW 2 iv.symm (by decide)
   ·rw[if_neg (show ¬jZ a0 J a2.aC=true by rw[show jZ a0 J a2.aC=false from hc];simp),if_pos (show lF a0 J a2.aC=true from an)] at iv
    exact kW 3 iv.symm (by decide)
   ·rw[if_neg (show ¬jZ a0 J a2.aC=true by rw[show jZ a0 J a2.aC=false from hc];simp),if_neg (show ¬lF a0 J a2.aC=true by rw[show lF a0 J a2.aC=false from an];simp)] at iv
    exact iv
   ·unfold jy;rw[if_neg h1,if_neg h2,if_neg aD,if_neg cl,if_pos cC];rfl
  ·have hM:a2.op=7:=by simpa using hM
   unfold Me DG eo en dL ek c1
   refine⟨⟨dB (dt _),pj,dV⟩,fun bs is v ws aN=> ?_⟩
   obtain⟨aN,G,kX⟩:=aN
   have GG:ws.length=J.O.length:=by rw[←jJ G.ok,kX,Qg]
   refine⟨fun hv=>⟨G,?_,fun _=> ?_⟩,fun hv=> ?_⟩
   ·unfold gb;rw[if_neg h1,if_neg h2,if_neg (by omega)]
   ·have ly: ¬v<(J.O.length:Int):=by
     have hv:decide (v<(J.O.length:Int))=false:=hv
     simpa using hv
    have ar:=aN.1
    have hb:=aN.2.1
    rw[kX,show v.toNat=J.O.length by omega]
    unfold jy;rw[if_neg h1,if_neg h2,if_neg aD,if_neg cl,if_neg (by omega),if_pos hM];rfl
   ·have cz:=cA aN hv
    have aM:v.toNat<ws.length:=by omega
    have Af:v.toNat<a0.O.length:=by omega
    have bW:dp (kp a0 v.toNat J.O) is v (nth (kp a0 v.toNat J.O) v) ws bs:=dp.start G.ok G.lD aM kX G.len
    have a7:=dn (by omega) aN hv rfl
    have sZ:=mE (show(J.O.length:Int)≤4611686018427387904 by omega) aN.1 (by
     have hv:decide (v<(J.O.length:Int))=true:=hv
     simpa using hv)
    have xN:DB a0 v:=⟨cF,cz.1,by omega⟩
    have sS:(dE a0 v).ae.length≤1048576:=by
     have:=(cF.ao _ (ee Af)).2.1
     show(List.replicate _ _).length≤_
     rw[List.length_replicate];omega
    have b7:=bW.Bs (IntKind.i64.wrap ((nth ws v).bR - 1))
    have fin: ∀{dc:List Nat} {lL:List av} {nQ:List (List Bool)} {x:av},dp (kp a0 v.toNat J.O) dc v x lL nQ→x=qz a0 v.toNat (nth (kp a0 v.toNat J.O) v)→(cq J.O.length (fun _=>false) (IntKind.i64.wrap (v+1))∧gL lL dc nQ∧view lL dc nQ=kp a0 (IntKind.i64.wrap (v+1)).toNat J.O)∧cI J.O.length (IntKind.i64.wrap (v+1))<cI J.O.length v:=fun F hx=>by
     refine⟨⟨a7.1,F.G,?_⟩,a7.2⟩
     rw[F.io,hx,sZ,show(v+1).toNat=v.toNat+1 by omega]
     show _=(kp a0 v.toNat J.O).set v.toNat (qz a0 v.toNat (nth (kp a0 v.toNat J.O) (v.toNat:Int)))
     rw[ml cz.1]
    unfold Md Mr Mq oI oH oG x1 x0 x2 Mt pw
    refine⟨⟨⟨cz.1,aM⟩,bW.fR,fun _=>⟨⟨bW.fR,bW.fR⟩,b7.fR,fun _=>⟨xN,b7.fR⟩⟩⟩,fun w hw i hi b hb=> ?_⟩
    have aY:(nth (ws.set v.toNat (av.mk (nth ws v).aJ (nth ws v).ba (nth ws v).ae (nth ws v).bS (IntKind.i64.wrap ((nth ws v).bR - 1)))) v).bR=IntKind.i64.wrap ((nth ws v).bR - 1):=b7.bR
    rw[aY,bW.aJ,bW.bR] at hw hi hb
    rw[bW.bR,bW.aJ] at b7
    have K8:dE a0 (v.toNat:Int)=dE a0 v:=by rw[Int.toNat_of_nonneg cz.1]
    cases aD:((nth (kp a0 v.toNat J.O) v).aJ==3) with
    | false=>
     rw[aD] at hw hi hb
     subst hw;subst hi;subst hb
     refine fin bW ?_
     unfold qz;rw[if_neg (by simpa using aD)]
    | true=>
     rw[aD] at hw hi hb
     cases aA:(IntKind.i64.wrap ((nth (kp a0 v.toNat J.O) v).bR - 1)==0) with
     | false=>
      rw[aA] at hw hi hb
      subst hw;subst hi;subst hb
      refine fin b7 ?_
      unfold qz;rw[if_pos (by simpa using aD),if_neg (by simpa using aA)]
     | true=>
      rw[aA] at hw hi hb
      subst hw;subst hi;subst hb
      refine fin (b7.new (dE a0 v) sS) ?_
      unfold qz;rw[if_pos (by simpa using aD),if_pos (by simpa using aA),K8]
  ·have hM: ¬a2.op=7:=by simpa using hM
   refine ok _ _ ?_ ?_
   ·unfold gb;rw[if_neg h1,if_neg h2,if_neg (by simpa using cC)]
   ·unfold jy;rw[if_neg h1,if_neg h2,if_neg aD,if_neg cl,if_neg (by simpa using cC),if_neg hM];rfl
 ·obtain⟨G,hc,aW⟩:=eh
  unfold Mj mW i_
  refine⟨fun az=>⟨hs,?_⟩,fun az=> ?_⟩
  ·have az: ¬c=0:=by simpa using az
   unfold lT;rw[if_pos (by rw[←hc];exact az)]
   exact⟨hc,rfl⟩
  ·have az:c=0:=by simpa using az
   have cz:=JZ dj (xg he)
   rw[←aW az] at cz
   have an:=cz.aB
   have U:=cz.au
   have hw:=cz.O
   have agv:(view ws is bs).length=a0.O.length:=hw
   rw[jJ G.ok] at agv
   replace an:(o.length:Int)=a0.ao:=an
   replace U:q.length=a0.a_.length:=U
   refine⟨⟨by omega,by omega,⟨G.ok,by omega,fun x hx=>by have:=G.len x hx;omega⟩,cF,cz⟩,?_⟩
   unfold lT;rw[if_neg (by rw[←hc,az];simp)]
   exact⟨rfl,by rw[←aW az];rfl⟩)
end
end Go.Proofs.YtejmihecgodhnaaGreat.Fw
set_option linter.unusedVariables false
namespace Go.Proofs.YtejmihecgodhnaaGreat.Fw
open Go
theorem al3 (a b:List c8) (q:List bP):l8 (a++b) q=l8 b (l8 a q):=by unfold l8;rw[List.foldl_append]
def mb (w:Way):List (List c8):=[w.bA,w.cO]
theorem aat (w:Way):(mb w).flatten=bY w:=by simp[mb,bY]
theorem aot {w:Way} {j:Nat} {q:List bP} (h:j<(mb w).length):l8 ((mb w).take (j+1)).flatten q=l8 (mb w)[j] (l8 ((mb w).take j).flatten q):=by
 rw[List.take_succ_eq_append_getElem h,List.flatten_append,al3];simp
theorem aou {w:Way} {v:Int} {x:c8} (h:v.toNat<(mb w).length) (hx:x∈nth (mb w) v):x∈bY w:=by
 rw[←aat];exact List.mem_flatten.2 ⟨_,ee h,hx⟩
def Vl (p:aQ) (t:Int) (k:Bool) (o:List Bool) (q:List bP) (w:List av) (i:List Nat) (b:List (List Bool)):Prop:=
 gL w i b∧tL p∧0≤t∧t<w.length∧t<p.O.length∧q.length=p.a_.length
def Ha (p:aQ) (t:Int) (k:Bool) (o:List Bool) (q:List bP) (w:List av) (i:List Nat) (b:List (List Bool)) (ij:List Bool) (wj:List bP) (w':List av) (gZ:List Nat) (bU:List (List Bool)):Prop:=
 wj=l8 (bY (nth p.O t)) q∧gL w' gZ bU∧view w' gZ bU=(view w i b).set t.toNat {nth (view w i b) t with aJ:=1}
def Vk (p:aQ) (t:Int) (k:Bool) (o:List Bool) (q:List bP) (w:List av) (i:List Nat) (b:List (List Bool)):Prop:=
 gL w i b∧tL p∧0≤t∧t<w.length∧t<p.O.length∧(o.length:Int)=p.ao
def Fl (p:aQ) (f:Frame) (t:Int):av:=
 if((nth f.O t).bS&&h8 f (nth p.O t).eb)=true then{nth f.O t with aJ:=3,bR:=p.cv} else pu (nth f.O t).ae.length
def vf (f:Frame) (t:Int):Int:=if(nth f.O t).aJ≠1∧(nth f.O t).aJ≠2 then 2 else 0
def ye (p:aQ) (t:Int) (k:Bool) (o:List Bool) (q:List bP) (w:List av) (i:List Nat) (b:List (List Bool)) (ij:List Bool) (wj:List bP) (w':List av) (gZ:List Nat) (bU:List (List Bool)) (r:Int):Prop:=
 gL w' gZ bU∧r=vf (cX k o q w i b) t∧view w' gZ bU=(if vf (cX k o q w i b) t=0 then(view w i b).set t.toNat (Fl p (cX k o q w i b) t) else view w i b)
def lC (p:aQ) (f:Frame) (e:Event):Frame:=if gb p f e=0 then jy p f e else f
def uW (p:aQ) (f:Frame) (e:Event):jO:=if(h3 p f&&hE p e)=true then⟨gb p f e,eJ p (lC p f e)⟩ else⟨1,⟨false,[],[],[]⟩⟩
def Ok (p:aQ) (f:Frame) (e:Event):Prop:=my f
theorem akh {p:aQ} {f:Frame} {e:Event} (h:iG p f) (he:hE p e=true):iG p (lC p f e):=by
 unfold lC
 split
 ·exact JZ h (xg he)
 ·exact h
theorem TF {p:aQ} {f:Frame} (h:iG p f) {t:Int} (aA:0≤t) (h1:t<p.O.length):pu (nth f.O t).ae.length=dE p t:=by
 have aw:=h.O
 have ar:=h.at (i:=t.toNat) (by omega)
 rw[ml aA,ml aA] at ar
 unfold dE;rw[ar.1]
structure QI (n:Nat) (cv:Int) (h:av):Prop where
 ap:0≤h.aJ∧h.aJ≤4
 len:h.ae.length=n
 ba:0≤h.ba∧h.ba<n
 still:h.aJ≠4→h.ba=0∧ ∀b∈h.ae,b=false
 ae: ∀j,j<h.ba.toNat→h.ae.getD j false=true
 t3:h.aJ=3→h.bS=true∧1≤h.bR∧h.bR≤cv
 t:h.aJ≠3→h.bR=0
 eU:h.aJ=0→h.bS=false
 s2:h.aJ=2→h.bS=true
theorem afV {p:aQ} {f:Frame} {i:Int}:h4 p f i=true↔QI (nth p.O i).ao.length p.cv (nth f.O i):=by
 unfold h4
 simp only
 generalize nth f.O i=h
 generalize (nth p.O i).ao.length=n
 have eT: ∀(l:List Bool) (k:Nat),k≤l.length→((l.take k).all (fun b=>b)=true↔ ∀j,j<k→l.getD j false=true):=fun l k hk=>by
  rw[List.all_eq_true]
  constructor
  ·intro h j ah
   have:l[j]'(by omega)=true:=h _ (List.mem_take_iff_getElem.2 ⟨j,by omega,rfl⟩)
   rw[List.getD_eq_getElem?_getD,List.getElem?_eq_getElem (by omega)];exact this
  ·intro h x hx
   obtain⟨j,ah,rfl⟩:=List.mem_take_iff_getElem.1 hx
   have:=h j (by omega)
   rw[List.getD_eq_getElem?_getD,List.getElem?_eq_getElem (by omega)] at this;exact this
 rw[Bool.and_eq_true,Bool.and_eq_true,Bool.and_eq_true,Bool.and_eq_true,Bool.and_eq_true,uC,uC,decide_eq_true_eq,Bool.or_eq_true,Bool.and_eq_true,decide_eq_true_eq,decide_eq_true_eq,List.all_eq_true]
 constructor
 ·rintro⟨⟨⟨⟨⟨h1,h2⟩,aD⟩,bj⟩,cl⟩,cC⟩
  refine⟨h1,h2,by omega,fun af=> ?_,(eT _ _ (by omega)).1 cl,fun e=> ?_,fun e=> ?_,fun e=> ?_,fun e=> ?_⟩
  ·rcases bj with bj | bj
   ·exact absurd bj af
   ·exact⟨bj.1,fun b hb=>by have:=bj.2 b hb;simpa using this⟩
  ·rw[if_pos e,Bool.and_eq_true,uC] at cC;exact cC
  ·rw[if_neg e] at cC;simp only[Bool.and_eq_true,decide_eq_true_eq] at cC;exact cC.1.1
  ·rw[if_neg (by omega)] at cC;simp only[Bool.and_eq_true,decide_eq_true_eq,Bool.or_eq_true,Bool.not_eq_true'] at cC
   rcases cC.1.2 with h | h
   ·exact absurd e h
   ·exact h
  ·rw[if_neg (by omega)] at cC;simp only[Bool.and_eq_true,decide_eq_true_eq,Bool.or_eq_true,Bool.not_eq_true'] at cC
   rcases cC.2 with h | h
   ·exact absurd e h
   ·exact h
 ·intro H
  have aE:=H.ba
  have aw:=H.len
  refine⟨⟨⟨⟨⟨H.ap,H.len⟩,by omega⟩,?_⟩,(eT _ _ (by omega)).2 H.ae⟩,?_⟩
  ·by_cases bj:h.aJ=4
   ·exact .inl bj
   ·exact .inr ⟨(H.still bj).1,fun b hb=>by rw[(H.still bj).2 b hb];rfl⟩
  ·by_cases aD:h.aJ=3
   ·rw[if_pos aD,Bool.and_eq_true,uC];exact H.t3 aD
   ·rw[if_neg aD];simp only[Bool.and_eq_true,decide_eq_true_eq,Bool.or_eq_true,Bool.not_eq_true']
    refine⟨⟨H.t aD,?_⟩,?_⟩
    ·by_cases aA:h.aJ=0
     ·exact .inr (H.eU aA)
     ·exact .inl aA
    ·by_cases aA:h.aJ=2
     ·exact .inr (H.s2 aA)
     ·exact .inl aA
structure abm (p:aQ) (f:Frame):Prop where
 base:tV p f=true
 mq: ∀x∈f.au,pF x=true
 held: ∀i:Int,0≤i→i<f.O.length→QI (nth p.O i).ao.length p.cv (nth f.O i)
 bu: ∀i k:Int,0≤i→i<f.O.length→0≤k→k<f.O.length→mH p f i k=false
theorem akK {p:aQ} {f:Frame} (h:h3 p f=true):abm p f∧eJ p f=f:=by
 obtain⟨a,b,c,d,e⟩:=zS.1 h
 refine⟨⟨a,b,fun i i0 i1=>afV.1 (c i i0 i1),d⟩,?_⟩
 have s:=Bu p f f.O.length
 have h1:(eJ p f).ok=f.ok:=s.1
 have h2:(eJ p f).aB=f.aB:=s.2.1
 have aD:(eJ p f).au=f.au:=s.2.2
 generalize eJ p f=g at e h1 h2 aD
 cases g;cases f
 simp only at e h1 h2 aD
 subst e;subst h1;subst h2;subst aD;rfl
theorem Xe {α:Type} [Inhabited α] {l:List α} {t i:Int} {x:α} (t0:0≤t) (i0:0≤i) (i1:i<l.length):nth (l.set t.toNat x) i=if i=t then x else nth l i:=by
 rw[iN (by rw[List.length_set];omega),iN (show i.toNat<l.length by omega),List.getElem_set]
 by_cases e:i=t
 ·rw[if_pos (by omega),if_pos e]
 ·rw[if_neg (by omega),if_neg e]
theorem aki {p:aQ} {f:Frame} {e:Event} (h:h3 p f=true):jO.mk (gb p f e) (eJ p (lC p f e))=lT p f e:=by
 unfold lT lC
 by_cases hc:gb p f e=0
 ·rw[if_pos hc,if_neg (by rw[hc];simp),hc]
 ·rw[if_neg hc,if_pos hc,(akK h).2]
def aag (h i v:Nat):Int:=if v=0 then 0 else if v=1 then 2 else if v<3+i∧ ¬(i=h∧v=2+h) then 3 else if i<h then 4 else 0
def IK (h i:Nat) (D:List jO):Prop:= ∀(v:Nat) (d:jO),D[v]?=some d→ ∃w,d.frame.O=[w]∧w.aJ=aag h i v
theorem IK.more {h i:Nat} {D:List jO} (k:IK h i D) {w:av} {c:Int} {o:Bool} {a:List Bool} {b:List bP} {n:Nat} (af:D.length=n) (hw:w.aJ=aag h i n):IK h i (D++[⟨c,o,a,b,[w]⟩]):=fun v d aW=>by
 rcases Nat.lt_or_ge v D.length with aw | aw
 ·rw[List.getElem?_append_left aw] at aW;exact k v d aW
 ·rw[List.getElem?_append_right aw] at aW
  cases hv:v - D.length with
  | zero=>rw[hv] at aW;cases aW;exact⟨w,rfl,by rw[hw,show v=n by omega]⟩
  | succ m=>rw[hv] at aW;simp at aW
def oP (k:Int) (c:lc):Prop:=0≤c.pos∧c.pos+k≤4611686018427387904
def v8 (c:lc):lc:=bif decide (c.pos<(c.code.length:Int)) then lc.mk c.code (IntKind.i64.wrap (c.pos+1)) (IntKind.u64.wrap ((IntKind.u64.wrap ((IntKind.u64.wrap (c.En*6364136223846793005))+(IntKind.u64.wrap (((nth c.code c.pos).toNat:Int)))))+1442695040888963407))
 else lc.mk c.code (IntKind.i64.wrap (c.pos+1)) (IntKind.u64.wrap ((IntKind.u64.wrap (c.En*6364136223846793005))+1442695040888963407))
def yt (c:lc):Int:=bif decide (c.pos<(c.code.length:Int)) then IntKind.i64.wrap (((nth c.code c.pos).toNat:Int))
 else IntKind.i64.wrap (IntKind.u64.wrap (((BitVec.ofInt IntKind.u64.bits ((IntKind.u64.wrap ((IntKind.u64.wrap (c.En*6364136223846793005))+1442695040888963407)).fdiv (2 ^ (min (40:Int).toNat IntKind.u64.bits)))&&&BitVec.ofInt IntKind.u64.bits 255).toNat:Int)))
theorem aoy {n:Int} (h1:0≤n) (h2:n≤9223372036854775807):IntKind.u64.wrap n=n:=by
 have e:IntKind.u64.wrap n=n%2 ^ 64:=by
  unfold IntKind.wrap
  exact if_neg (fun h=>by simp[IntKind.signed] at h)
 rw[e];omega
theorem W3 (c:lc):0≤yt c∧yt c≤255:=by
 have key: ∀n:Nat,n≤255→(0≤IntKind.i64.wrap (n:Int)∧IntKind.i64.wrap (n:Int)≤255)∧IntKind.u64.wrap (n:Int)=n:=fun n h=>by
  rw[jK (by omega) (by omega),aoy (by omega) (by omega)];omega
 unfold yt
 cases decide (c.pos<(c.code.length:Int)) with
 | true=>
  have:=(nth c.code c.pos).toNat_lt
  exact(key _ (by omega)).1
 | false=>
  have hb: ∀x:BitVec IntKind.u64.bits,(x&&&BitVec.ofInt IntKind.u64.bits 255).toNat≤255:=fun x=>by
   rw[BitVec.toNat_and];exact Nat.and_le_right
  simp only[cond_false]
  rw[(key _ (hb _)).2]
  exact(key _ (hb _)).1
theorem aky {c:lc} (h:oP 1 c):(v8 c).pos=c.pos+1:=by
 have:IntKind.i64.wrap (c.pos+1)=c.pos+1:=jK (by have:=h.1;omega) (by have:=h.2;omega)
 unfold v8
 cases decide (c.pos<(c.code.length:Int))<;>exact this
theorem oP.mono {k l:Int} {c:lc} (h:oP k c) (aw:l≤k):oP l c:=⟨h.1,by have:=h.2;omega⟩
theorem oP.next {k:Int} {c:lc} (h:oP (k+1) c) (hk:0≤k):oP k (v8 c):=by
 have:=aky (h.mono (by omega))
 exact⟨by have:=h.1;omega,by have:=h.2;omega⟩
def NK (n:Int) (c:lc):lc:=if n≤1 then c else bif decide (n>200) then v8 (v8 c) else v8 c
def wg (n:Int) (c:lc):Int:=if n≤1 then 0 else(bif decide (n>200) then IntKind.i64.wrap (IntKind.i64.wrap (yt c*256)+yt (v8 c)) else yt c).tmod n
theorem ak_ (n:Int) (c:lc):0≤wg n c∧(1≤n→wg n c<n):=by
 unfold wg
 split
 ·omega
 ·rename_i af
  have h1:=W3 c
  have h2:=W3 (v8 c)
  have h: ∀x:Int,0≤x→0≤x.tmod n∧(1≤n→x.tmod n<n):=fun x hx=>by
   rw[Int.tmod_eq_emod_of_nonneg hx]
   exact⟨Int.emod_nonneg _ (by omega),fun _=>Int.emod_lt_of_pos _ (by omega)⟩
  cases decide (n>200) with
  | true=>
   simp only[cond_true]
   refine h _ ?_
   rw[jK (n:=yt c*256) (by omega) (by omega),jK (by omega) (by omega)];omega
  | false=>exact h _ h1.1
theorem oP.pick {k:Int} {c:lc} {n:Int} (h:oP (k+2) c) (hk:0≤k):oP k (NK n c):=by
 unfold NK
 split
 ·exact h.mono (by omega)
 ·cases decide (n>200) with
  | true=>exact(oP.next (k:=k+1) (h.mono (by omega)) (by omega)).next hk
  | false=>exact(oP.next (k:=k+1) (h.mono (by omega)) (by omega)).mono (by omega)
structure I9 (n:Int) (no:List Int) (x:List Int):Prop where
 alH: ∀y∈x,0≤y∧y<n
 akA:x.Nodup
 out: ∀y∈x,y ∉ no
theorem I9.push {n:Int} {no x:List Int} {c:lc} (af:1≤n) (h:I9 n no x):I9 n no (if((!(meets [wg n c] x))&&(!(meets [wg n c] no)))=true then x++[wg n c] else x):=by
 split
 ·rename_i e
  rw[Bool.and_eq_true,Bool.not_eq_true',Bool.not_eq_true',AQ,AQ] at e
  have aG:wg n c ∉ x:=by simpa using e.1
  have e2:wg n c ∉ no:=by simpa using e.2
  have aj:=ak_ n c
  refine⟨fun y aX=> ?_,?_,fun y aX=> ?_⟩
  ·rcases List.mem_append.1 aX with aX | aX
   ·exact h.alH y aX
   ·obtain rfl:=List.mem_singleton.1 aX;exact⟨aj.1,aj.2 af⟩
  ·rw[List.nodup_append]
   exact⟨h.akA,by simp,fun a ar b hb e=>by obtain rfl:=List.mem_singleton.1 hb;subst e;exact aG ar⟩
  ·rcases List.mem_append.1 aX with aX | aX
   ·exact h.out y aX
   ·obtain rfl:=List.mem_singleton.1 aX;exact e2
 ·exact h
theorem oP.apM {k:Int} {c:lc} {n:Int} {b:Bool} (h:oP (k+2) c) (hk:0≤k):oP k (bif b then NK n c else c):=by
 cases b with
 | true=>exact h.pick hk
 | false=>exact h.mono (by omega)
structure I2 (bi Im:List Int) (v:Int) (x y:List c8):Prop where
 rx: ∀l∈x,(0≤l.bi∧l.bi<v)∧(1≤l.a1∧l.a1≤2)∧Im.contains (nth bi l.bi)=true
 Oi: ∀l∈y,(0≤l.bi∧l.bi<v)∧(1≤l.a1∧l.a1≤2)
 akD:(x.map (·.bi)).Nodup
 akF:(y.map (·.bi)).Nodup
 akE: ∀a∈x,∀b∈y,a.bi≠b.bi
 aj4:(x.length:Int)+y.length≤v
theorem I2.up {bi Im:List Int} {v:Int} {x y:List c8} (h:I2 bi Im v x y):I2 bi Im (v+1) x y:=
 ⟨fun l aw=>⟨⟨(h.rx l aw).1.1,by have:=(h.rx l aw).1.2;omega⟩,(h.rx l aw).2⟩,fun l aw=>⟨⟨(h.Oi l aw).1.1,by have:=(h.Oi l aw).1.2;omega⟩,(h.Oi l aw).2⟩,h.akD,h.akF,h.akE,by have:=h.aj4;omega⟩
structure E_ (ws:List Way) (bs:List (List Bool)) (i k:Int) (r:List Bool):Prop where
 len:r.length=ws.length
 lt: ∀j:Int,0≤j→j<k→j<i→nth r j=nth (nth bs j) i
 gt: ∀j:Int,0≤j→j<k→i<j→meets (nth ws i).ao (nth ws j).ao=true→nth r j=true
theorem E_.set {ws:List Way} {bs:List (List Bool)} {i k:Int} {r:List Bool} (h:E_ ws bs i k r) (aA:0≤k) (h1:k<ws.length) {b:Bool} (hb:(k<i→b=nth (nth bs k) i)∧(i<k→meets (nth ws i).ao (nth ws k).ao=true→b=true)):E_ ws bs i (k+1) (r.set k.toNat b):=by
 have aw:=h.len
 refine⟨by rw[List.length_set];exact h.len,fun j cg eX a8=> ?_,fun j cg eX a8 hm=> ?_⟩
 ·rw[Xe aA cg (by omega)]
  split
  ·rename_i e;subst e;exact hb.1 a8
  ·exact h.lt j cg (by omega) a8
 ·rw[Xe aA cg (by omega)]
  split
  ·rename_i e;subst e;exact hb.2 a8 hm
  ·exact h.gt j cg (by omega) a8 hm
structure IL (ws:List Way) (i:Int) (bs:List (List Bool)):Prop where
 len:(bs.length:Int)=i
 row: ∀j:Int,0≤j→j<i→(nth bs j).length=ws.length
 sym: ∀a b:Int,0≤b→b<a→a<i→nth (nth bs a) b=nth (nth bs b) a
 mt: ∀a b:Int,0≤a→a<b→a<i→b<ws.length→meets (nth ws a).ao (nth ws b).ao=true→nth (nth bs a) b=true
theorem Xd {α:Type} [Inhabited α] {xs:List α} {x:α} {j:Int} (aA:0≤j):nth (xs++[x]) j=if j<xs.length then nth xs j else if j=xs.length then x else default:=by
 unfold nth
 rw[List.getD_eq_getElem?_getD,List.getD_eq_getElem?_getD]
 split
 ·rw[List.getElem?_append_left (by omega)]
 ·split
  ·rw[List.getElem?_append_right (by omega),show j.toNat - xs.length=0 by omega];rfl
  ·rw[List.getElem?_eq_none (by simp;omega)];rfl
theorem IL.push {ws:List Way} {i:Int} {bs:List (List Bool)} {r:List Bool} (h:IL ws i bs) (aA:0≤i) (aj:E_ ws bs i ws.length r) (hi:i<ws.length):IL ws (i+1) (bs++[r]):=by
 have aw:=h.len
 have k4: ∀j:Int,0≤j→j<i→nth (bs++[r]) j=nth bs j:=fun j cg eX=>by rw[Xd cg,if_pos (by omega)]
 have new:nth (bs++[r]) i=r:=by rw[Xd aA,if_neg (by omega),if_pos (by omega)]
 refine⟨by simp;omega,fun j cg eX=> ?_,fun a b b0 Q4 ai=> ?_,fun a b a0 aq ai Re hm=> ?_⟩
 ·by_cases e:j=i
  ·subst e;rw[new];exact aj.len
  ·rw[k4 j cg (by omega)];exact h.row j cg (by omega)
 ·rw[k4 b b0 (by omega)]
  by_cases e:a=i
  ·subst e;rw[new];exact aj.lt b b0 (by omega) Q4
  ·rw[k4 a (by omega) (by omega)];exact h.sym a b b0 Q4 (by omega)
 ·by_cases e:a=i
  ·subst e;rw[new];exact aj.gt b (by omega) Re aq hm
  ·rw[k4 a (by omega) (by omega)];exact h.mt a b a0 aq (by omega) Re hm
def vc (p:aQ) (f:Frame) (e:Event):jO:=if(h3 p f&&hE p e)=true then lT p f e else⟨1,⟨false,[],[],[]⟩⟩
def Env.wd (W:World):Env:={w:=W,PA:=fun c=>c<W.heap.size,PF:=fun c=>c<W.heap.size∧Plain W c,m:=fun _=>none,bm:=fun _=>0,sz:=fun _=>0,cp:=fun _=>0,mL:=fun _=>none}
theorem SimH.TJ {E:Env} {H:List Blk} (hs:SimH E H) {c:Nat} (h:E.fZ c):Plain E.w c:=by
 obtain⟨b,hb⟩:=h
 obtain⟨_,al,ty,_,_,q,_⟩:=hs.heap b c hb
 exact⟨al,ty,q⟩
theorem fu.wd {E:Env} (ax:SimH E []) (bJ: ∀t,E.mL t=none) {a:AV} {v:Value} (h:fu E a v):fu (Env.wd E.w) a v:=by
 have oD: ∀a v,aP E.w E.PA E.PF a v→aP E.w (fun c=>c<E.w.heap.size) (fun c=>c<E.w.heap.size∧Plain E.w c) a v:=fun a v k=>k.mono (fun _ _=>rfl) (fun _ _=>rfl) ax.ea (fun c hc=>⟨ax.ea c (ax.dU c hc),ax.ga c hc⟩)
 have hm:=fun b=>ax.fresh b (Nat.zero_le _)
 cases a with
 | ref b g off n full=>
  rcases h with⟨h,_⟩ | ⟨_,h⟩
  ·rw[(hm b).2] at h;cases h
  ·rcases h with⟨h,_⟩ | ⟨c,cap,h,_⟩<;>rw[(hm b).1] at h<;>cases h
 | ptr b g r c=>
  rcases h with⟨h,_⟩ | ⟨_,bl,h,_⟩
  ·rw[(hm b).2] at h;cases h
  ·rw[(hm b).1] at h;cases h
 | fS t c=>obtain⟨bl,h,_⟩:=h;rw[bJ t] at h;cases h
 | _=>exact oD _ _ h
theorem b4.wd {E:Env} (ax:SimH E []) (bJ: ∀t,E.mL t=none) {a:AV} {v:Value} (h:b4 E a v):b4 (Env.wd E.w) a v:=by
 by_cases hf: ∃f caps,a= .fn f caps
 ·obtain⟨f,caps,rfl⟩:=hf
  obtain⟨vs,e,ab⟩:=h
  exact⟨vs,e,ab.mono fun _ _ k=>k.wd ax bJ⟩
 ·rw[sv fun f c e=>hf ⟨f,c,e⟩] at h ⊢
  exact h.wd ax bJ
theorem V2.wd {E:Env} (ax:SimH E []) (bJ: ∀t,E.mL t=none) {a:AV} {v:Value} (h:V2 E a v):V2 (Env.wd E.w) a v:=by
 by_cases hf: ∃l,a= .agg l
 ·obtain⟨l,rfl⟩:=hf
  obtain⟨vs,e,ab⟩:=h
  exact⟨vs,e,ab.mono fun _ _ k=>k.wd ax bJ⟩
 ·rw[qG fun l e=>hf ⟨l,e⟩] at h ⊢
  exact h.wd ax bJ
def Rows (w:World) (A:Option Addr) (sz:Nat) (rows:List (List AV)):Prop:=rows=[]∨ ∃c o,A=some ⟨c,o,none⟩∧c<w.heap.size∧ ∀(i j:Nat) (row:List AV) (a:AV),rows[i]?=some row→row[j]?=some a→ ∃u,w.cell? ⟨c,o+(i*sz+j),none⟩=some u∧b4 (Env.wd w) a u
def cw (f:Nat→Nat):Nat→Nat
 | 0=>0
 | n+1=>cw f n+f n
theorem Qj {f:Nat→Nat} {c:Nat}: ∀{n:Nat},(∀i,i<n→f i=c)→cw f n=n*c
 | 0,_=>by simp[cw]
 | n+1,h=>by
  show cw f n+f n=_
  rw[Qj fun i hi=>h i (by omega),h n (by omega),Nat.succ_mul]
theorem Iy {f:Nat→Nat}: ∀{n k:Nat},k≤n→cw f k≤cw f n
 | 0,k,h=>by obtain rfl:k=0:=by omega
             exact Nat.le_refl _
 | n+1,k,h=>by
  by_cases e:k=n+1
  ·subst e;exact Nat.le_refl _
  ·exact Nat.le_trans (Iy (n:=n) (by omega)) (Nat.le_add_right _ _)
inductive eB (w:World) (S:Nat→Prop):aR→Nat→Value→Prop where
 | int (n:Int):eB w S .int 1 (.int .i64 n)
 | bool (b:Bool):eB w S .bool 1 (.bool b)
 | aZ {e:aR} {n cap:Nat} {A:Option Addr} {cc:Nat→Nat→Nat} {vs:Nat→Nat→Value} (h1:n≤cap∧n≤4611686018427387904)
   (hc:0<n→ ∃c o al ty,A=some ⟨c,o,none⟩∧S c∧w.heap[c]?=some (.cells al ty (0,0))∧ ∀i j,i<n→j<e.bV.length→al[o+(i*e.bV.length+j)]?=some (vs i j))
   (aj: ∀i j bZ,i<n→e.bV[j]?=some bZ→eB w S bZ (cc i j) (vs i j)):eB w S (.l e) (cw (fun i=>cw (cc i) e.bV.length) n) (.slice A n cap)
theorem eB.qi {w:World} {S:Nat→Prop} {e:aR} {m:Nat} {n:Int} (h:eB w S e m (.int .i64 n)):e= .int∧m=1:=by cases h;exact⟨rfl,rfl⟩
theorem eB.p2 {w:World} {S:Nat→Prop} {e:aR} {m:Nat} {b:Bool} (h:eB w S e m (.bool b)):e= .bool∧m=1:=by cases h;exact⟨rfl,rfl⟩
theorem eB.of_int {w:World} {S:Nat→Prop} {m:Nat} {v:Value} (h:eB w S .int m v):m=1∧ ∃n,v= .int .i64 n:=by cases h;exact⟨rfl,_,rfl⟩
theorem eB.of_bool {w:World} {S:Nat→Prop} {m:Nat} {v:Value} (h:eB w S .bool m v):m=1∧ ∃b,v= .bool b:=by cases h;exact⟨rfl,_,rfl⟩
theorem eB.n9 {w:World} {S:Nat→Prop} {e:aR} {m:Nat} {v:Value} (h:eB w S (.l e) m v): ∃A n cap,v= .slice A n cap:=by cases h;exact⟨_,_,_,rfl⟩
theorem eB.sub {w:World} {S S':Nat→Prop} {e:aR} {m:Nat} {v:Value} (h:eB w S e m v) (hs: ∀c,S c→S' c):eB w S' e m v:=by
 induction h with
 | int n=>exact .int n
 | bool b=>exact .bool b
 | aZ h1 hc aj bz=>
  refine .aZ h1 (fun af=> ?_) bz
  obtain⟨c,o,al,ty,q1,q2,q3⟩:=hc af
  exact⟨c,o,al,ty,q1,hs c q2,q3⟩
def pY (a b:Option Value):Prop:=b=a∨(∃n m,a=some (.int .i64 n)∧b=some (.int .i64 m))∨ ∃x y,a=some (.bool x)∧b=some (.bool y)
theorem pY.trans {a b c:Option Value} (h:pY a b) (k:pY b c):pY a c:=by
 rcases h with rfl | ⟨n,m,rfl,rfl⟩ | ⟨x,y,rfl,rfl⟩
 ·exact k
 ·rcases k with rfl | ⟨kJ,fK,h1,rfl⟩ | ⟨x,y,h1,rfl⟩
  ·exact .inr (.inl ⟨_,_,rfl,rfl⟩)
  ·exact .inr (.inl ⟨_,_,rfl,rfl⟩)
  ·cases h1
 ·rcases k with rfl | ⟨kJ,fK,h1,rfl⟩ | ⟨iX,aaN,h1,rfl⟩
  ·exact .inr (.inr ⟨_,_,rfl,rfl⟩)
  ·cases h1
  ·exact .inr (.inr ⟨_,_,rfl,rfl⟩)
structure dC (S:Nat→Prop) (w w':World):Prop where
 os:w'.os=w.os
 tape:w'.tape=w.tape
 output:w'.output=w.output
 size:w.heap.size≤w'.heap.size
 other: ∀c,c<w.heap.size→ ¬S c→w'.heap[c]?=w.heap[c]?
 uE: ∀(c:Nat) (al:Array Value) (ty:TypeId),S c→w.heap[c]?=some (.cells al ty (0,0))→ ∃b3:Array Value,w'.heap[c]?=some (.cells b3 ty (0,0))∧b3.size=al.size∧ ∀j:Nat,pY al[j]? b3[j]?
theorem dC.refl (S:Nat→Prop) (w:World):dC S w w:=⟨rfl,rfl,rfl,Nat.le_refl _,fun _ _ _=>rfl,fun c al ty _ h=>⟨al,h,rfl,fun _=> .inl rfl⟩⟩
theorem qQ {w:World} {c:Nat} {o:Obj} (h:w.heap[c]?=some o):c<w.heap.size:=by
 rcases Nat.lt_or_ge c w.heap.size with h' | h'
 ·exact h'
 ·simp[Array.getElem?_eq_none h'] at h
theorem dC.trans {S:Nat→Prop} {a b c:World} (h:dC S a b) (k:dC S b c):dC S a c where
 os:=k.os.trans h.os
 tape:=k.tape.trans h.tape
 output:=k.output.trans h.output
 size:=Nat.le_trans h.size k.size
 other:=fun x hx hs=>(k.other x (Nat.lt_of_lt_of_le hx h.size) hs).trans (h.other x hx hs)
 uE:=fun x al ty hs hx=>by
  obtain⟨acN,q1,q2,q3⟩:=h.uE x al ty hs hx
  obtain⟨zG,cP,dd,dV⟩:=k.uE x acN ty hs q1
  exact⟨zG,cP,dd.trans q2,fun j=>(q3 j).trans (dV j)⟩
theorem dC.sub {S S':Nat→Prop} {w w':World} (h:dC S w w') (hs: ∀c,S c→S' c):dC S' w w' where
 os:=h.os
 tape:=h.tape
 output:=h.output
 size:=h.size
 other:=fun c hc af=>h.other c hc fun k=>af (hs c k)
 uE:=fun c al ty hc hx=>by
  by_cases k:S c
  ·exact h.uE c al ty k hx
  ·exact⟨al,(h.other c (qQ hx) k).trans hx,rfl,fun _=> .inl rfl⟩
theorem dC.below {S:Nat→Prop} {w w':World} (h:RowKit.Below w.heap.size w w'):dC S w w':=
 ⟨h.os,h.tape,h.output,h.size,fun c hc _=>h.block c hc,fun c al ty _ hx=>⟨al,(h.block c (qQ hx)).trans hx,rfl,fun _=> .inl rfl⟩⟩
theorem dC.at {S:Nat→Prop} {w w':World} (h:dC S w w') {c:Nat} {al:Array Value} {ty:TypeId} (hx:w.heap[c]?=some (.cells al ty (0,0))): ∃b3:Array Value,w'.heap[c]?=some (.cells b3 ty (0,0))∧b3.size=al.size∧ ∀j:Nat,pY al[j]? b3[j]?:=by
 by_cases k:S c
 ·exact h.uE c al ty k hx
 ·exact⟨al,(h.other c (qQ hx) k).trans hx,rfl,fun _=> .inl rfl⟩
theorem eB.e8 {w w':World} {S S':Nat→Prop} (hw:dC S' w w') {e:aR} {m:Nat} {v:Value} (h:eB w S e m v):eB w' S e m v:=by
 induction h with
 | int n=>exact .int n
 | bool b=>exact .bool b
 | @aZ e n cap A cc vs h1 hc aj bz=>
  by_cases af:0<n
  ·obtain⟨c,o,al,ty,cu,ds,bw,hv⟩:=hc af
   obtain⟨b3,q1,q2,q3⟩:=hw.at bw
   have key: ∀i j,i<n→j<e.bV.length→ ∃u,b3[o+(i*e.bV.length+j)]?=some u:=fun i j hi ah=>by
    rcases q3 (o+(i*e.bV.length+j)) with q | ⟨_,_,_,q⟩ | ⟨_,_,_,q⟩
    ·exact⟨_,q.trans (hv i j hi ah)⟩
    ·exact⟨_,q⟩
    ·exact⟨_,q⟩
   refine .aZ (vs:=fun i j=>(b3[o+(i*e.bV.length+j)]?).getD undef) h1 (fun _=>⟨c,o,b3,ty,cu,ds,q1,fun i j hi ah=> ?_⟩) fun i j bZ hi ah=> ?_
   ·obtain⟨u,hu⟩:=key i j hi ah
    rw[hu];rfl
   ·have lX:j<e.bV.length:=(List.getElem?_eq_some_iff.1 ah).1
    have hk:=aj i j bZ hi ah
    have sY:=hv i j hi lX
    show eB w' S bZ (cc i j) ((b3[o+(i*e.bV.length+j)]?).getD undef)
    rcases q3 (o+(i*e.bV.length+j)) with q | ⟨a,b,jE,m0⟩ | ⟨a,b,jE,m0⟩
    ·rw[q,sY];exact bz i j bZ hi ah
    ·rw[sY] at jE
     rw[Option.some.inj jE] at hk
     obtain⟨rfl,hm⟩:=hk.qi
     rw[m0,hm];exact .int b
    ·rw[sY] at jE
     rw[Option.some.inj jE] at hk
     obtain⟨rfl,hm⟩:=hk.p2
     rw[m0,hm];exact .bool b
  ·exact .aZ (vs:=vs) h1 (fun h=>absurd h af) fun i j bZ hi _=>absurd (Nat.lt_of_le_of_lt (Nat.zero_le _) hi) af
theorem dC.head {S:Nat→Prop} {w w':World} (h:dC S w w') {c o:Nat} {al:Array Value} {ty:TypeId} (hx:w.heap[c]?=some (.cells al ty (0,0))) {A:Option Addr} {n cap:Nat} (hv:al[o]?=some (.slice A n cap)):w'.cell? ⟨c,o,none⟩=some (.slice A n cap):=by
 obtain⟨b3,q1,q2,q3⟩:=h.at hx
 rcases q3 o with q | ⟨a,b,jE,_⟩ | ⟨a,b,jE,_⟩
 ·simp only[World.cell?,q1];rw[q];exact hv
 ·rw[hv] at jE;cases jE
 ·rw[hv] at jE;cases jE
theorem dC.setCell {S:Nat→Prop} {w:World} {c o:Nat} {al:Array Value} {ty:TypeId} {v:Value} (hx:w.heap[c]?=some (.cells al ty (0,0))) (ds:S c) (hv:pY al[o]? (some v)):dC S w (w.setCell ⟨c,o,none⟩ v) where
 os:=rfl
 tape:=rfl
 output:=rfl
 size:=by simp
 other:=fun b _ hs=>RowKit.Below.heap_setCell _ _ _ _ (fun e=>by subst e;exact hs ds)
 uE:=fun b b3 jf hs hb=>by
  by_cases e:b=c
  ·subst e
   rw[hx] at hb
   cases hb
   refine⟨al.setIfInBounds o v,by simp[World.setCell,Array.getElem?_modify,hx],by simp,fun j=> ?_⟩
   rw[Array.getElem?_setIfInBounds]
   by_cases ah:o=j
   ·subst ah
    rw[if_pos rfl]
    split
    ·exact hv
    ·rename_i aM;rw[Array.getElem?_eq_none (by omega)];exact .inl rfl
   ·rw[if_neg ah];exact .inl rfl
  ·exact⟨b3,by rw[RowKit.Below.heap_setCell _ _ _ _ e];exact hb,rfl,fun _=> .inl rfl⟩
structure lO (w w':World) (c o n:Nat) (val:Nat→Value):Prop where
 os:w'.os=w.os
 tape:w'.tape=w.tape
 output:w'.output=w.output
 size:w'.heap.size=w.heap.size
 other: ∀b,b≠c→w'.heap[b]?=w.heap[b]?
 blk: ∀al ty,w.heap[c]?=some (.cells al ty (0,0))→ ∃b3:Array Value,w'.heap[c]?=some (.cells b3 ty (0,0))∧b3.size=al.size∧ ∀j,j<al.size→b3[j]?=if o≤j∧j<o+n then some (val (j - o)) else al[j]?
theorem lO.refl (w:World) (c o:Nat) (val:Nat→Value):lO w w c o 0 val:=
 ⟨rfl,rfl,rfl,rfl,fun _ _=>rfl,fun al ty h=>⟨al,h,rfl,fun j _=>by rw[if_neg (by omega)]⟩⟩
theorem lO.snoc {w w':World} {c o n:Nat} {val:Nat→Value} (h:lO w w' c o n val) {v:Value} (hv:v=val n):lO w (w'.setCell ⟨c,o+n,none⟩ v) c o (n+1) val where
 os:=h.os
 tape:=h.tape
 output:=h.output
 size:=by rw[←h.size];simp
 other:=fun b hb=>by rw[RowKit.Below.heap_setCell _ _ _ _ hb];exact h.other b hb
 blk:=fun al ty mS=>by
  obtain⟨b3,h1,h2,aD⟩:=h.blk al ty mS
  refine⟨b3.setIfInBounds (o+n) v,?_,by simp[h2],fun j ah=> ?_⟩
  ·simp[World.setCell,Array.getElem?_modify,h1]
  ·rw[Array.getElem?_setIfInBounds]
   by_cases e:o+n=j
   ·subst e
    rw[if_pos rfl,if_pos (by rw[h2];exact ah),if_pos ⟨by omega,by omega⟩,hv]
    simp
   ·rw[if_neg e,aD j ah]
    by_cases bj:o≤j∧j<o+n
    ·rw[if_pos bj,if_pos ⟨bj.1,by omega⟩]
    ·rw[if_neg bj,if_neg (by omega)]
theorem lO.cell {w w':World} {c o n:Nat} {val:Nat→Value} (h:lO w w' c o n val) {al:Array Value} {ty:TypeId} (hw:w.heap[c]?=some (.cells al ty (0,0))) {j:Nat} (ah:j<al.size): ∃u,w'.cell? ⟨c,j,none⟩=some u∧w'.frozen? ⟨c,j,none⟩=false:=by
 obtain⟨b3,h1,h2,aD⟩:=h.blk al ty hw
 have aw:j<b3.size:=by omega
 exact⟨b3[j],by simp[World.cell?,h1,aw],by simp[World.frozen?,h1]⟩
theorem lO.e8 {w w':World} {c o n:Nat} {val:Nat→Value} {S:Nat→Prop} (h:lO w w' c o n val) (ds:S c) (hk: ∀al ty i,w.heap[c]?=some (.cells al ty (0,0))→i<n→pY al[o+i]? (some (val i))):dC S w w' where
 os:=h.os
 tape:=h.tape
 output:=h.output
 size:=by rw[h.size];exact Nat.le_refl _
 other:=fun b _ hs=>h.other b fun e=>by subst e;exact hs ds
 uE:=fun b al ty hs hb=>by
  by_cases e:b=c
  ·subst e
   obtain⟨b3,h1,h2,aD⟩:=h.blk al ty hb
   refine⟨b3,h1,h2,fun j=> ?_⟩
   rcases Nat.lt_or_ge j al.size with ah | ah
   ·rw[aD j ah]
    split
    ·rename_i hi
     have:=hk al ty (j - o) hb (by omega)
     rw[show o+(j - o)=j by omega] at this
     exact this
    ·exact .inl rfl
   ·rw[Array.getElem?_eq_none (xs:=b3) (by omega),Array.getElem?_eq_none (xs:=al) ah];exact .inl rfl
  ·exact⟨al,(h.other b e).trans hb,rfl,fun _=> .inl rfl⟩
theorem lO.DN {w w':World} {o n:Nat} {val:Nat→Value} {S:Nat→Prop} (h:lO w w' w.heap.size o n val):dC S w w' where
 os:=h.os
 tape:=h.tape
 output:=h.output
 size:=by rw[h.size];exact Nat.le_refl _
 other:=fun b hb _=>h.other b (by omega)
 uE:=fun b al ty _ hb=>⟨al,(h.other b (by have:=qQ hb;omega)).trans hb,rfl,fun _=> .inl rfl⟩
def td (k:Int) (i:Nat):Value:= .int .i64 (k+i)
def Rj (k:Int) (i:Nat):Value:= .bool ((k+i)%3==0)
theorem eB.cells {w:World} {S:Nat→Prop} {e:aR} {m n cap:Nat} {A:Option Addr} (h:eB w S (.l e) m (.slice A n cap)) (af:0<n):
  ∃(c o:Nat) (al:Array Value) (ty:TypeId) (cc:Nat→Nat→Nat),A=some ⟨c,o,none⟩∧S c∧w.heap[c]?=some (.cells al ty (0,0))∧m=cw (fun i=>cw (cc i) e.bV.length) n∧(0<e.bV.length→o+n*e.bV.length≤al.size)∧
   ∀i j bZ,i<n→e.bV[j]?=some bZ→ ∃u,al[o+(i*e.bV.length+j)]?=some u∧eB w S bZ (cc i j) u:=by
 cases h with
 | @aZ _ _ _ _ cc vs h1 hc aj=>
  obtain⟨c,o,al,ty,cu,ds,bw,hv⟩:=hc af
  refine⟨c,o,al,ty,cc,cu,ds,bw,rfl,fun aw=> ?_,fun i j bZ hi ah=>⟨_,hv i j hi (List.getElem?_eq_some_iff.1 ah).1,aj i j bZ hi ah⟩⟩
  have:=hv (n - 1) (e.bV.length - 1) (by omega) (by omega)
  have aM:=(Array.getElem?_eq_some_iff.1 this).1
  have aG:(n - 1)*e.bV.length+e.bV.length=n*e.bV.length:=by
   rw[←Nat.succ_mul];congr 1;omega
  omega
theorem eB.zero {w:World} {S:Nat→Prop} {e:aR} {m cap:Nat} {A:Option Addr} (h:eB w S (.l e) m (.slice A 0 cap)):m=0:=by
 cases h;rfl
theorem eB.elem {w:World} {S:Nat→Prop} {e:aR} {m n cap:Nat} {A:Option Addr} (h:eB w S (.l e) m (.slice A n cap)):
  n≤4611686018427387904∧ ∃(c o:Nat) (cc:Nat→Nat→Nat),(0<n→A=some ⟨c,o,none⟩)∧m=cw (fun i=>cw (cc i) e.bV.length) n∧
   (∀i j bZ,i<n→e.bV[j]?=some (.l bZ)→ ∃A' kJ ox,∀wr,dC S w wr→wr.cell? ⟨c,o+(i*e.bV.length+j),none⟩=some (.slice A' kJ ox)∧eB wr S (.l bZ) (cc i j) (.slice A' kJ ox))∧
   (∀i j,i<n→e.bV[j]?=some .int→cc i j=1∧ ∀wr,dC S w wr→ ∃u,wr.cell? ⟨c,o+(i*e.bV.length+j),none⟩=some u∧wr.frozen? ⟨c,o+(i*e.bV.length+j),none⟩=false∧ ∀x,dC S w (wr.setCell ⟨c,o+(i*e.bV.length+j),none⟩ (.int .i64 x)))∧
   ∀i j,i<n→e.bV[j]?=some .bool→cc i j=1∧ ∀wr,dC S w wr→ ∃u,wr.cell? ⟨c,o+(i*e.bV.length+j),none⟩=some u∧wr.frozen? ⟨c,o+(i*e.bV.length+j),none⟩=false∧ ∀x,dC S w (wr.setCell ⟨c,o+(i*e.bV.length+j),none⟩ (.bool x)):=by
 refine⟨by cases h with | aZ h1=>exact h1.2,?_⟩
 by_cases af:0<n
 ·obtain⟨c,o,al,ty,cc,cu,ds,bw,hm,_,hv⟩:=h.cells af
  refine⟨c,o,cc,fun _=>cu,hm,fun i j bZ hi ah=> ?_,fun i j hi ah=> ?_,fun i j hi ah=> ?_⟩
  ·obtain⟨u,hu,hk⟩:=hv i j _ hi ah
   obtain⟨A',kJ,ox,rfl⟩:=hk.n9
   exact⟨A',kJ,ox,fun wr hw=>⟨hw.head bw hu,hk.e8 hw⟩⟩
  ·obtain⟨u,hu,hk⟩:=hv i j _ hi ah
   obtain⟨h1,aF,rfl⟩:=hk.of_int
   refine⟨h1,fun wr hw=> ?_⟩
   obtain⟨b3,q1,q2,q3⟩:=hw.at bw
   have U:=q3 (o+(i*e.bV.length+j))
   rw[hu] at U
   have hs: ∃y,b3[o+(i*e.bV.length+j)]?=some (.int .i64 y):=by
    rcases U with q | ⟨_,y,_,q⟩ | ⟨_,_,q,_⟩
    ·exact⟨_,q⟩
    ·exact⟨_,q⟩
    ·cases q
   obtain⟨y,aX⟩:=hs
   exact⟨_,by simp only[World.cell?,q1];exact aX,by simp[World.frozen?,q1],fun x=>hw.trans (dC.setCell q1 ds (by rw[aX];exact .inr (.inl ⟨_,_,rfl,rfl⟩)))⟩
  ·obtain⟨u,hu,hk⟩:=hv i j _ hi ah
   obtain⟨h1,aF,rfl⟩:=hk.of_bool
   refine⟨h1,fun wr hw=> ?_⟩
   obtain⟨b3,q1,q2,q3⟩:=hw.at bw
   have U:=q3 (o+(i*e.bV.length+j))
   rw[hu] at U
   have hs: ∃y,b3[o+(i*e.bV.length+j)]?=some (.bool y):=by
    rcases U with q | ⟨_,_,q,_⟩ | ⟨_,y,_,q⟩
    ·exact⟨_,q⟩
    ·cases q
    ·exact⟨_,q⟩
   obtain⟨y,aX⟩:=hs
   exact⟨_,by simp only[World.cell?,q1];exact aX,by simp[World.frozen?,q1],fun x=>hw.trans (dC.setCell q1 ds (by rw[aX];exact .inr (.inr ⟨_,_,rfl,rfl⟩)))⟩
 ·obtain rfl:n=0:=by omega
  exact⟨0,0,fun _ _=>0,fun h=>absurd h af,h.zero,fun i j bZ hi=>by omega,fun i j hi=>by omega,fun i j hi=>by omega⟩
def w4 (P:Program) (f:FuncId) (e:aR):Prop:= ∀(w:World) (S:Nat→Prop) (m:Nat) (v:Value) (k:Int),eB w S e m v→0≤k→k+m≤4611686018427387904→
 Calls P f #[v,.int .i64 k] w fun jl w'=>jl= .returned (.int .i64 (k+m))∧dC S w w'
theorem aos {α:Type} (g:α→Nat): ∀(xs:List α) (f:Nat→Nat),(∀(i:Nat) (x:α),xs[i]?=some x→f i=g x)→cw f xs.length=(xs.map g).sum:=by
 intro xs f h
 have key: ∀(n:Nat),n≤xs.length→cw f n=((xs.take n).map g).sum:=by
  intro n
  induction n with
  | zero=>intro _;simp[cw]
  | succ n bz=>
   intro af
   show cw f n+f n=_
   rw[List.take_succ_eq_append_getElem (by omega),List.map_append,List.sum_append,bz (by omega),h n _ (List.getElem?_eq_getElem (by omega))]
   simp
 have:=key xs.length (Nat.le_refl _)
 rw[List.take_length] at this
 exact this
theorem yd {w:World} {S PA PF:Nat→Prop} {e:aR} {xs:List e.T} {dP fr:Bool} {v:Value} (IJ:e.T→Nat→Nat) (h:aP w PA PF (.aZ (xs.map (cy false e)) dP fr) v) (h1: ∀c,PA c→S c∧Plain w c) (h2: ∀c,PF c→S c∧Plain w c)
  (aw: ∀x∈xs,∀(PB:Nat→Prop) j bZ a u,(∀c,PB c→S c∧Plain w c)→e.bV[j]?=some bZ→(cy false e x)[j]?=some a→aP w PB (fun _=>False) a u→eB w S bZ (IJ x j) u):
  eB w S (.l e) (xs.map fun x=>cw (IJ x) e.bV.length).sum v:=by
 cases h with
 | @aZ _ _ PB _ _ _ A cap sz vs fH fw gP cm eH hrel=>
  have dq: ∀c,PB c→S c∧Plain w c:=fun c hc=>by
   have:=fH c hc
   split at this
   ·exact h2 c this
   ·exact h1 c this
  have row: ∀i (hi:i<xs.length),(xs.map (cy false e))[i]?=some (cy false e xs[i]):=fun i hi=>by rw[List.getElem?_map,List.getElem?_eq_getElem hi];rfl
  have RP: ∀x:e.T,(cy false e x).length=e.bV.length:=fun x=>by
   rw[←pf]
   have: ∀(es:List aR) (y:cL es),(jV false es y).length=es.length:=by
    intro es
    induction es with
    | nil=>intro _;rfl
    | cons e r bz=>intro y;show((_:List AV)).length=_;rw[jV,List.length_cons,bz y.2];rfl
   exact this _ _
  rw[←aos (fun x=>cw (IJ x) e.bV.length) xs (fun i=>cw (fun j=>match xs[i]? with
   | some x=>IJ x j
   | none=>0) e.bV.length) fun i x hx=>by simp only[hx]]
  rw[List.length_map] at fw eH ⊢
  refine .aZ (vs:=vs) fw (fun af=> ?_) fun i j bZ hi ah=> ?_
  ·obtain⟨c,o,q1,q2,q3⟩:=eH af
   obtain⟨al,ty,ab⟩:=(dq c q2).2
   have az:sz=e.bV.length:=by rw[←cm 0 _ (row 0 af),RP]
   subst az
   refine⟨c,o,al,ty,q1,(dq c q2).1,ab,fun i j hi ah=> ?_⟩
   have:=q3 i j hi ah
   simp only[World.cell?,ab] at this
   simpa using this
  ·have lX:=(List.getElem?_eq_some_iff.1 ah).1
   have ar:(cy false e xs[i])[j]?=some ((cy false e xs[i])[j]'(by rw[RP];exact lX)):=List.getElem?_eq_getElem _
   rw[List.getElem?_eq_getElem hi]
   exact aw xs[i] (List.getElem_mem hi) PB j bZ _ _ dq ah ar (hrel i j _ _ (row i hi) ar)
theorem EM {α:Type} (c:Nat): ∀xs:List α,(xs.map fun _=>c).sum=xs.length*c
 | []=>by simp
 | x::r=>by rw[List.map_cons,List.sum_cons,EM c r,List.length_cons,Nat.succ_mul];omega
section
variable {w:World} {S PA PF:Nat→Prop} {v:Value} {dP fr:Bool}
theorem vQ {PB:Nat→Prop} {n:Int} {u:Value} (h:aP w PB (fun _=>False) (.int .i64 n) u):eB w S .int 1 u:=by cases h;exact .int _
theorem Vh {PB:Nat→Prop} {n:Bool} {u:Value} (h:aP w PB (fun _=>False) (.bool n) u):eB w S .bool 1 u:=by cases h;exact .bool _
theorem G_ {xs:List Int} (h:aP w PA PF (.aZ (xs.map cB) dP fr) v) (h1: ∀c,PA c→S c∧Plain w c) (h2: ∀c,PF c→S c∧Plain w c):eB w S (.l .int) xs.length v:=by
 have:=yd (e:= .int) (fun _ _=>1) h h1 h2 fun x _ PB j bZ a u _ ah ar aj=>by
  match j,ah,ar with
  | 0,ah,ar=>cases ah;cases ar;exact vQ aj
 have e:(xs.map fun x=>cw (fun _=>1) (aR.bV .int).length).sum=xs.length:=by
  show(xs.map fun _=>1).sum=_
  rw[EM,Nat.mul_one]
 rw[e] at this;exact this
theorem M7 {xs:List Bool} (h:aP w PA PF (.aZ (xs.map aT) dP fr) v) (h1: ∀c,PA c→S c∧Plain w c) (h2: ∀c,PF c→S c∧Plain w c):eB w S (.l .bool) xs.length v:=by
 have:=yd (e:= .bool) (fun _ _=>1) h h1 h2 fun x _ PB j bZ a u _ ah ar aj=>by
  match j,ah,ar with
  | 0,ah,ar=>cases ah;cases ar;exact Vh aj
 have e:(xs.map fun x=>cw (fun _=>1) (aR.bV .bool).length).sum=xs.length:=by
  show(xs.map fun _=>1).sum=_
  rw[EM,Nat.mul_one]
 rw[e] at this;exact this
theorem Vi {xs:List c8} (h:aP w PA PF (.aZ (xs.map c9) dP fr) v) (h1: ∀c,PA c→S c∧Plain w c) (h2: ∀c,PF c→S c∧Plain w c):eB w S (.l .a1) (xs.length*2) v:=by
 have:=yd (e:= .a1) (fun _ _=>1) h h1 h2 fun x _ PB j bZ a u _ ah ar aj=>by
  match j,ah,ar with
  | 0,ah,ar=>cases ah;cases ar;exact vQ aj
  | 1,ah,ar=>cases ah;cases ar;exact vQ aj
 have e:(xs.map fun x=>cw (fun _=>1) (aR.bV .a1).length).sum=xs.length*2:=EM 2 xs
 rw[e] at this;exact this
theorem aid {xs:List bP} (h:aP w PA PF (.aZ (xs.map bh) dP fr) v) (h1: ∀c,PA c→S c∧Plain w c) (h2: ∀c,PF c→S c∧Plain w c):eB w S (.l .dx) (xs.length*2) v:=by
 have:=yd (e:= .dx) (fun _ _=>1) h h1 h2 fun x _ PB j bZ a u _ ah ar aj=>by
  match j,ah,ar with
  | 0,ah,ar=>cases ah;cases ar;exact vQ aj
  | 1,ah,ar=>cases ah;cases ar;exact vQ aj
 have e:(xs.map fun x=>cw (fun _=>1) (aR.bV .dx).length).sum=xs.length*2:=EM 2 xs
 rw[e] at this;exact this
def yp (x:Way):Nat:=x.ao.length+x.bA.length*2+x.cO.length*2+x.dk.length+x.eb.length
theorem aie {xs:List Way} (h:aP w PA PF (.aZ (xs.map (dS false)) dP fr) v) (h1: ∀c,PA c→S c∧Plain w c) (h2: ∀c,PF c→S c∧Plain w c):eB w S (.l .e6) (xs.map yp).sum v:=by
 have:=yd (e:= .e6) (fun x j=>[x.ao.length,x.bA.length*2,x.cO.length*2,x.dk.length,x.eb.length].getD j 0) h h1 h2 fun x _ PB j bZ a u dq ah ar aj=>by
  match j,ah,ar with
  | 0,ah,ar=>cases ah;cases ar;exact G_ aj dq (fun _ h=>h.elim)
  | 1,ah,ar=>cases ah;cases ar;exact Vi aj dq (fun _ h=>h.elim)
  | 2,ah,ar=>cases ah;cases ar;exact Vi aj dq (fun _ h=>h.elim)
  | 3,ah,ar=>cases ah;cases ar;exact G_ aj dq (fun _ h=>h.elim)
  | 4,ah,ar=>cases ah;cases ar;exact G_ aj dq (fun _ h=>h.elim)
 have e:(xs.map fun x:Way=>cw (fun j=>[x.ao.length,x.bA.length*2,x.cO.length*2,x.dk.length,x.eb.length].getD j 0) (aR.bV .e6).length).sum=(xs.map yp).sum:=by
  congr 1
  refine List.map_congr_left fun x _=> ?_
  show 0+x.ao.length+x.bA.length*2+x.cO.length*2+x.dk.length+x.eb.length=yp x
  unfold yp;omega
 rw[e] at this;exact this
theorem aib {xs:List (List Bool)} (h:aP w PA PF (.aZ (xs.map (gO aT false)) dP fr) v) (h1: ∀c,PA c→S c∧Plain w c) (h2: ∀c,PF c→S c∧Plain w c):eB w S (.l (.l .bool)) (xs.map List.length).sum v:=by
 have:=yd (e:= .l .bool) (fun x j=>x.length) h h1 h2 fun x _ PB j bZ a u dq ah ar aj=>by
  match j,ah,ar with
  | 0,ah,ar=>cases ah;cases ar;exact M7 aj dq (fun _ h=>h.elim)
 have e:(xs.map fun x:List Bool=>cw (fun j=>x.length) (aR.bV (.l .bool)).length).sum=(xs.map List.length).sum:=by
  congr 1
  refine List.map_congr_left fun x _=> ?_
  show 0+x.length=_
  omega
 rw[e] at this;exact this
def yo (x:av):Nat:=4+x.ae.length
theorem aic {xs:List av} (h:aP w PA PF (.aZ (xs.map (e3 false)) dP fr) v) (h1: ∀c,PA c→S c∧Plain w c) (h2: ∀c,PF c→S c∧Plain w c):eB w S (.l .held) (xs.map yo).sum v:=by
 have:=yd (e:= .held) (fun x j=>[1,1,x.ae.length,1,1].getD j 0) h h1 h2 fun x _ PB j bZ a u dq ah ar aj=>by
  match j,ah,ar with
  | 0,ah,ar=>cases ah;cases ar;exact vQ aj
  | 1,ah,ar=>cases ah;cases ar;exact vQ aj
  | 2,ah,ar=>cases ah;cases ar;exact M7 aj dq (fun _ h=>h.elim)
  | 3,ah,ar=>cases ah;cases ar;exact Vh aj
  | 4,ah,ar=>cases ah;cases ar;exact vQ aj
 have e:(xs.map fun x:av=>cw (fun j=>[1,1,x.ae.length,1,1].getD j 0) (aR.bV .held).length).sum=(xs.map yo).sum:=by
  congr 1
  refine List.map_congr_left fun x _=> ?_
  show 0+1+1+x.ae.length+1+1=yo x
  unfold yo;omega
 rw[e] at this;exact this
end
def Env.ro (w:World) (B:Nat→Prop):Env:={w:=w,PA:=B,PF:=fun _=>False,m:=fun _=>none,bm:=fun _=>0,sz:=fun _=>0,cp:=fun _=>0,mL:=fun _=>none}
def et (w:World) (B:Nat→Prop) (a:AV) (v:Value):Prop:=V2 (Env.ro w B) a v
theorem et.cZ {w w':World} {B B':Nat→Prop} {a:AV} {v:Value} (h:et w B a v) (hk: ∀c,B c→w'.heap[c]?=w.heap[c]?) (hs: ∀c,B c→B' c):et w' B' a v:=
 V2.le (E:=Env.ro w B) (E':=Env.ro w' B') ⟨hs,fun _ h=>h.elim,hk,fun _ h=>h.elim,fun _=>Nat.le_refl _,(fun _ _ h _=>by cases h),(fun _ _ h=>by cases h)⟩ h
theorem et.at {w:World} {B:Nat→Prop} {a:AV} {v:Value} (h:et w B a v) (aw: ∀c,B c→c<w.heap.size):V2 (Env.at w) a v:=et.cZ (B':=fun c=>c<w.heap.size) h (fun _ _=>rfl) aw
def fG (w w':World) (c:Nat):Prop:=w.heap.size≤c∧c<w'.heap.size∧Plain w' c
def FU (e:aR) (x:e.T):AV:=match e.isS with
 | true=> .agg (cy false e x)
 | false=>kA false e x
theorem aP.j4 {w:World} {PA PF B:Nat→Prop} (ab: ∀c,PF c→B c) (ar: ∀c,PA c→B c) {e:aR} {x:e.T} {v:Value} (h:aP w PA PF (kA true e x) v):aP w B (fun _=>False) (kA false e x) v:=by
 cases e with
 | l e=>
  cases h with
  | aZ fH fw gP cm eH hrel=>exact .aZ (fun c hc=>ab c (by simpa using fH c hc)) fw gP cm eH hrel
 | int=>cases h;exact .int _ _
 | u64=>cases h;exact .int _ _
 | u8=>cases h;exact .int _ _
 | bool=>cases h;exact .bool _
 | str=>cases h;exact .str _
 | _=>exact .undef _
theorem Qm {w:World} {PA PF B:Nat→Prop} (ab: ∀c,PF c→B c) (ar: ∀c,PA c→B c): ∀{es:List aR} {x:cL es} {vs:List Value},ak (fun a v=>aP w PA PF a v) (jV true es x) vs→ak (b4 (Env.ro w B)) (jV false es x) vs
 | [],_,vs,h=>by obtain rfl:=h.n8;exact ak.nil
 | e::r,x,vs,h=>by
  obtain⟨v,vs,rfl,h1,h2⟩:=h.cons_inv
  exact ak.cons (aP.v1 (E:=Env.ro w B) (aP.j4 ab ar h1)) (Qm ab ar h2)
theorem Qq {E:Env} {fr:Bool} {e:aR} {x:e.T} {v:Value} (h:b4 E (kA fr e x) v):aP E.w E.PA E.PF (kA fr e x) v:=by
 cases e<;>exact h
theorem ID {E:Env} {fr:Bool}: ∀{es:List aR} {x:cL es} {vs:List Value},ak (b4 E) (jV fr es x) vs→ak (fun a v=>aP E.w E.PA E.PF a v) (jV fr es x) vs
 | [],_,vs,h=>by obtain rfl:=h.n8;exact ak.nil
 | e::r,x,vs,h=>by
  obtain⟨v,vs,rfl,h1,h2⟩:=h.cons_inv
  exact ak.cons (Qq h1) (ID h2)
theorem aP.yu {w:World} {PA PF B:Nat→Prop} (ar: ∀c,PA c→B c) {e:aR} {x:e.T} {v:Value} (h:aP w PA PF (kA false e x) v):aP w B (fun _=>False) (kA false e x) v:=by
 cases e with
 | l e=>
  cases h with
  | aZ fH fw gP cm eH hrel=>exact .aZ (fun c hc=>ar c (by simpa using fH c hc)) fw gP cm eH hrel
 | int=>cases h;exact .int _ _
 | u64=>cases h;exact .int _ _
 | u8=>cases h;exact .int _ _
 | bool=>cases h;exact .bool _
 | str=>cases h;exact .str _
 | _=>exact .undef _
theorem W9 {w:World} {PA PF B:Nat→Prop} (ar: ∀c,PA c→B c): ∀{es:List aR} {x:cL es} {vs:List Value},ak (fun a v=>aP w PA PF a v) (jV false es x) vs→ak (b4 (Env.ro w B)) (jV false es x) vs
 | [],_,vs,h=>by obtain rfl:=h.n8;exact ak.nil
 | e::r,x,vs,h=>by
  obtain⟨v,vs,rfl,h1,h2⟩:=h.cons_inv
  exact ak.cons (aP.v1 (E:=Env.ro w B) (aP.yu ar h1)) (W9 ar h2)
theorem aaG {e:aR} {x:e.T} {w:World} {v:Value} (h:V2 (Env.wd w) (.agg (cy false e x)) v):et w (fun c=>c<w.heap.size) (.agg (cy false e x)) v:=by
 obtain⟨eZ,rfl,ab⟩:=(show ∃eZ:List Value,v= .agg eZ.toArray∧ak (b4 _) (cy false e x) eZ from h)
 refine⟨eZ,rfl,?_⟩
 rw[←pf] at ab ⊢
 exact W9 (fun _ h=>h) (ID ab)
theorem bf.BZ {P:Program} {f:FuncId} {args:List AV} {e:aR} {x:e.T} (h:bf P f args (p8 e x)) {w:World} {vs:List Value} (ar:ak (V2 (Env.at w)) args vs):
  Calls P f vs.toArray w fun jl w'=> ∃v,jl= .returned v∧RowKit.Below w.heap.size w w'∧et w' (fG w w') (FU e x) v:=by
 refine(h.2 (Env.at w) vs (fun _=>rfl) (Jg w) ar).mono ?_
 rintro jl w' ⟨r,v,H',E',rfl,aj,rfl,af,hs,hv,a7⟩
 have hb:RowKit.Below w.heap.size w E'.w:=⟨a7.os,a7.tape,a7.output,a7.size,fun k hk=>a7.cZ k hk (fun⟨b,hb⟩=>by cases hb) (fun⟨b,hb⟩=>by cases hb)⟩
 have jW: ∀c,E'.PF c∨E'.fZ c→fG w E'.w c:=fun c hc=>by
  rcases hc with hc | hc
  ·exact⟨(a7.fU c hc).elim (fun h=>h.elim) id,hs.ea c (hs.dU c hc),hs.ga c hc⟩
  ·exact⟨(a7.qU c hc).elim (fun⟨b,hb⟩=>by cases hb) id,hs.gD c hc,hs.TJ hc⟩
 have lZ:V3 {Env.ro E'.w (fG w E'.w) with PF:=fG w E'.w} (p8 e x) v:=OG (E':={Env.ro E'.w (fG w E'.w) with PF:=fG w E'.w}) hs rfl (fun c hc=>⟨jW c hc,jW c hc⟩) aj hv
 refine⟨v,rfl,hb,?_⟩
 unfold FU
 unfold p8 at lZ
 cases ds:e.isS with
 | true=>
  rw[ds] at lZ
  obtain⟨eZ,rfl,ab⟩:=(show ∃eZ:List Value,v= .agg eZ.toArray∧ak (b4 _) (cy true e x) eZ from lZ)
  refine⟨eZ,rfl,?_⟩
  rw[←pf] at ab ⊢
  exact Qm (fun _ h=>h) (fun _ h=>h) (ID ab)
 | false=>
  rw[ds] at lZ
  have lZ:V3 {Env.ro E'.w (fG w E'.w) with PF:=fG w E'.w} (kA true e x) v:=lZ
  have h1:b4 {Env.ro E'.w (fG w E'.w) with PF:=fG w E'.w} (kA true e x) v:=by cases e<;>first | exact lZ | cases ds
  have:=aP.j4 (B:=fG w E'.w) (fun _ h=>h) (fun _ h=>h) (Qq h1)
  exact lP (aP.v1 (E:=Env.ro E'.w (fG w E'.w)) this)
theorem bf.int {P:Program} {f:FuncId} {args:List AV} {n:Int} (h:bf P f args (.int .i64 n)) {w:World} {vs:List Value} (ar:ak (V2 (Env.at w)) args vs):
  Calls P f vs.toArray w fun jl w'=>jl= .returned (.int .i64 n)∧RowKit.Below w.heap.size w w':=
 (bf.BZ (e:= .int) (x:=n) h ar).mono fun jl w' ⟨v,h1,h2,aD⟩=>by
  have aD:aP w' _ _ (.int .i64 n) v:=aD
  cases aD;exact⟨h1,h2⟩
theorem bf.bool {P:Program} {f:FuncId} {args:List AV} {b:Bool} (h:bf P f args (.bool b)) {w:World} {vs:List Value} (ar:ak (V2 (Env.at w)) args vs):
  Calls P f vs.toArray w fun jl w'=>jl= .returned (.bool b)∧RowKit.Below w.heap.size w w':=
 (bf.BZ (e:= .bool) (x:=b) h ar).mono fun jl w' ⟨v,h1,h2,aD⟩=>by
  have aD:aP w' _ _ (.bool b) v:=aD
  cases aD;exact⟨h1,h2⟩
theorem u7 {w:World} {B:Nat→Prop} {rows:List (List AV)} {v:Value} (h:et w B (.aZ rows false false) v): ∃A cap,v= .slice A rows.length cap∧aP w B (fun _=>False) (.aZ rows false false) v:=by
 have h:aP w B (fun _=>False) (.aZ rows false false) v:=h
 cases h with
 | aZ fH fw gP cm eH hrel=>exact⟨_,_,rfl,.aZ fH fw gP cm eH hrel⟩
structure fF where
 lo:Nat
 hi:Nat
 P:World→Prop
 ap: ∀w w':World,(∀c,lo≤c→c<hi→w'.heap[c]?=w.heap[c]?)→P w→P w'
structure b8 (W w:World) (l:List fF):Prop where
 os:w.os=W.os
 tape:w.tape=W.tape
 output:w.output=W.output
 size:W.heap.size≤w.heap.size
 k4: ∀c,c<W.heap.size→w.heap[c]?=W.heap[c]?
 ord:l.Pairwise fun a b=>a.hi≤b.lo
 all: ∀i∈l,i.hi≤w.heap.size∧i.P w
theorem b8.get {W w:World} {l:List fF} (h:b8 W w l) (j:Nat) {i:fF} (e:l[j]?=some i:=by rfl):i.P w:=(h.all i (List.mem_of_getElem? e)).2
theorem b8.hi {W w:World} {l:List fF} (h:b8 W w l) (j:Nat) {i:fF} (e:l[j]?=some i:=by rfl):i.hi≤w.heap.size:=(h.all i (List.mem_of_getElem? e)).1
theorem b8.below {W w w':World} {l:List fF} (h:b8 W w l) (hb:RowKit.Below w.heap.size w w'):b8 W w' l where
 os:=hb.os.trans h.os
 tape:=hb.tape.trans h.tape
 output:=hb.output.trans h.output
 size:=Nat.le_trans h.size hb.size
 k4:=fun c hc=>(hb.block c (Nat.lt_of_lt_of_le hc h.size)).trans (h.k4 c hc)
 ord:=h.ord
 all:=fun i hi=>⟨Nat.le_trans (h.all i hi).1 hb.size,i.ap w w' (fun c _ hc=>hb.block c (Nat.lt_of_lt_of_le hc (h.all i hi).1)) (h.all i hi).2⟩
theorem b8.drewN {W w:World} {l:List fF} (h:b8 W w l):b8 W w.drew l:=h.below ⟨rfl,rfl,rfl,Nat.le_refl _,fun _ _=>rfl⟩
theorem b8.add {W w:World} {l:List fF} (h:b8 W w l) (i:fF) (h1:i.hi≤w.heap.size) (h2:i.P w) (aD: ∀j∈l,j.hi≤i.lo):b8 W w (l++[i]):=
 {h with
  ord:=List.pairwise_append.2 ⟨h.ord,List.pairwise_singleton _ _,fun a ar b hb=>by rw[List.mem_singleton.1 hb];exact aD a ar⟩
  all:=fun j ah=>by
   rcases List.mem_append.1 ah with ah | ah
   ·exact h.all j ah
   ·rw[List.mem_singleton.1 ah];exact⟨h1,h2⟩}
theorem b8.made {W w w':World} {l:List fF} (h:b8 W w l) (hb:RowKit.Below w.heap.size w w') (i:fF) (aA:i.lo=w.heap.size) (h1:i.hi=w'.heap.size) (h2:i.P w'):b8 W w' (l++[i]):=
 (h.below hb).add i (Nat.le_of_eq h1) h2 fun j ah=>by rw[aA];exact(h.all j ah).1
def dm (b:Nat) (al:Array Value) (ty:TypeId):fF where
 lo:=b
 hi:=b+1
 P:=fun w=>w.heap[b]?=some (.cells al ty (0,0))
 ap:=fun w w' h ab=>(h b (Nat.le_refl _) (Nat.lt_succ_self _)).trans ab
theorem b8.box {W w:World} {l:List fF} (h:b8 W w l) (al:Array Value) (ty:TypeId):b8 W (w.alloc (.cells al ty (0,0))) (l++[dm w.heap.size al ty]):=
 h.made ((RowKit.Below.refl _ _).alloc (Nat.le_refl _) _) (dm w.heap.size al ty) rfl (by simp[dm]) (p0 _ _)
theorem b8.Rg {W w:World} {l:List fF} (h:b8 W w l) (j:Nat) {b:Nat} {al:Array Value} {ty:TypeId} (e:l[j]?=some (dm b al ty)):b<w.heap.size:=h.hi j e
def TE (n:Nat) (a:AV) (v:Value):fF where
 lo:=0
 hi:=n
 P:=fun w=>et w (fun c=>c<n) a v
 ap:=fun w w' h ab=>ab.cZ (fun c hc=>h c (Nat.zero_le _) hc) (fun _ h=>h)
def iw (n:Nat) (a:AV) (v:Value) (b:AV) (u:Value):fF where
 lo:=0
 hi:=n
 P:=fun w=>et w (fun c=>c<n) a v∧et w (fun c=>c<n) b u
 ap:=fun w w' h ab=>⟨ab.1.cZ (fun c hc=>h c (Nat.zero_le _) hc) (fun _ h=>h),ab.2.cZ (fun c hc=>h c (Nat.zero_le _) hc) (fun _ h=>h)⟩
def qE (w:World) (lo hi c:Nat):Prop:=lo≤c∧c<hi∧Plain w c
def kE (lo hi:Nat) (a:AV) (v:Value):fF where
 lo:=lo
 hi:=hi
 P:=fun w=>et w (qE w lo hi) a v
 ap:=fun w w' h ab=>ab.cZ (fun c hc=>h c hc.1 hc.2.1) fun c hc=>⟨hc.1,hc.2.1,hc.2.2.same (h c hc.1 hc.2.1)⟩
theorem b8.Xh {W w w':World} {l:List fF} {a:AV} {v:Value} (h:b8 W w l) (hb:RowKit.Below w.heap.size w w') (aY:et w' (fG w w') a v):b8 W w' (l++[kE w.heap.size w'.heap.size a v]):=
 h.made hb (kE w.heap.size w'.heap.size a v) rfl rfl aY
def As (lo hi:Nat):fF:=⟨lo,hi,fun _=>True,fun _ _ _ _=>trivial⟩
theorem kE.at {W w:World} {l:List fF} (h:b8 W w l) (j:Nat) {lo hi:Nat} {a:AV} {v:Value} (e:l[j]?=some (kE lo hi a v):=by rfl):V2 (Env.at w) a v:=
 (h.get j e).at fun c hc=>Nat.lt_of_lt_of_le hc.2.1 (h.hi j e)
theorem TE.at {W w:World} {l:List fF} (h:b8 W w l) (j:Nat) {n:Nat} {a:AV} {v:Value} (e:l[j]?=some (TE n a v):=by rfl):V2 (Env.at w) a v:=
 (h.get j e).at fun c hc=>Nat.lt_of_lt_of_le hc (h.hi j e)
theorem iw.at {W w:World} {l:List fF} (h:b8 W w l) (j:Nat) {n:Nat} {a b:AV} {v u:Value} (e:l[j]?=some (iw n a v b u):=by rfl):V2 (Env.at w) a v∧V2 (Env.at w) b u:=
 ⟨(h.get j e).1.at fun c hc=>Nat.lt_of_lt_of_le hc (h.hi j e),(h.get j e).2.at fun c hc=>Nat.lt_of_lt_of_le hc (h.hi j e)⟩
theorem b8.mark {W w w':World} {l:List fF} (h:b8 W w l) (j:Nat) (i:fF) (e:l[j]?=some i) (ah:W.heap.size≤i.lo) {S:Nat→Prop} (ds: ∀c,S c→i.lo≤c∧c<i.hi) (hk:dC S w w') (gZ:fF) (aw:gZ.lo=i.lo) (bw:gZ.hi=i.hi) (ab:gZ.P w'):b8 W w' (l.set j gZ):=by
 have lX:=(List.getElem?_eq_some_iff.1 e).1
 have Gm:l[j]=i:=(List.getElem?_eq_some_iff.1 e).2
 refine⟨hk.os.trans h.os,hk.tape.trans h.tape,hk.output.trans h.output,Nat.le_trans h.size hk.size,fun c hc=>(hk.other c (Nat.lt_of_lt_of_le hc h.size) fun hs=>by have:=(ds c hs).1;omega).trans (h.k4 c hc),?_,?_⟩
 ·rw[List.pairwise_iff_getElem]
  have an:=List.pairwise_iff_getElem.1 h.ord
  intro a b ar hb ae5
  simp only[List.length_set] at ar hb
  have:=an a b ar hb ae5
  rw[List.getElem_set,List.getElem_set]
  by_cases aG:j=a
  ·subst aG
   rw[if_pos rfl,if_neg (by omega),bw,←Gm];exact this
  ·rw[if_neg aG]
   by_cases e2:j=b
   ·subst e2
    rw[if_pos rfl,aw,←Gm];exact this
   ·rw[if_neg e2];exact this
 ·intro q U
  obtain⟨a,ar⟩:=List.mem_iff_getElem?.1 U
  rw[List.getElem?_set] at ar
  by_cases aG:j=a
  ·subst aG
   rw[if_pos rfl,if_pos lX] at ar
   cases ar
   exact⟨by rw[bw];exact Nat.le_trans (h.all i (List.mem_of_getElem? e)).1 hk.size,ab⟩
  ·rw[if_neg aG] at ar
   have hm:=List.mem_of_getElem? ar
   refine⟨Nat.le_trans (h.all q hm).1 hk.size,q.ap w w' (fun c bk bg=>hk.other c (Nat.lt_of_lt_of_le bg (h.all q hm).1) fun hs=> ?_) (h.all q hm).2⟩
   have an:=List.pairwise_iff_getElem.1 h.ord
   have zZ:=(List.getElem?_eq_some_iff.1 ar).1
   have SR:l[a]=q:=(List.getElem?_eq_some_iff.1 ar).2
   have h1:=ds c hs
   rcases Nat.lt_or_gt_of_ne aG with aM | qR
   ·have:=an j a lX zZ aM
    rw[Gm,SR] at this;omega
   ·have:=an a j zZ lX qR
    rw[Gm,SR] at this;omega
theorem b8.after {W w:World} {l:List fF} (h:b8 W w l) (i j:Nat) {a b:fF} (ar:l[i]?=some a) (hb:l[j]?=some b) (nU:i<j):a.hi≤b.lo:=by
 have h1:=(List.getElem?_eq_some_iff.1 ar).1
 have h2:=(List.getElem?_eq_some_iff.1 hb).1
 have:=List.pairwise_iff_getElem.1 h.ord i j h1 h2 nU
 rw[(List.getElem?_eq_some_iff.1 ar).2,(List.getElem?_eq_some_iff.1 hb).2] at this
 exact this
theorem b8.told {W w:World} {l:List fF} (h:b8 W w l) (j:Nat) {lo hi:Nat} {a:AV} {v:Value} (e:l[j]?=some (kE lo hi a v)):et w (qE w lo hi) a v:=h.get j e
theorem b8.forget {W w w':World} {l:List fF} (h:b8 W w l) (j:Nat) {lo hi:Nat} {a:AV} {v:Value} (e:l[j]?=some (kE lo hi a v)) (ah:W.heap.size≤lo) (hk:dC (qE w lo hi) w w'):b8 W w' (l.set j (As lo hi)):=
 h.mark j (kE lo hi a v) e ah (fun c hc=>⟨hc.1,hc.2.1⟩) hk (As lo hi) rfl rfl trivial
theorem dC.pl {w w':World} {lo hi:Nat} (hk:dC (qE w lo hi) w w'): ∀c,qE w lo hi c→qE w' lo hi c:=fun c hc=>by
 obtain⟨al,ty,hx⟩:=hc.2.2
 obtain⟨b3,h1,_⟩:=hk.at hx
 exact⟨hc.1,hc.2.1,b3,ty,h1⟩
theorem b8.end {W w:World} {l:List fF} (h:b8 W w l):RowKit.Below W.heap.size W w:=⟨h.os,h.tape,h.output,h.size,h.k4⟩
theorem b8.start (W:World):b8 W W []:=⟨rfl,rfl,rfl,Nat.le_refl _,fun _ _=>rfl,List.Pairwise.nil,fun i h=>by cases h⟩
def jA (lo hi b:Nat) (al:Array Value) (ty:TypeId) (a:AV) (v:Value):fF where
 lo:=lo
 hi:=hi
 P:=fun w=>lo≤b∧b<hi∧w.heap[b]?=some (.cells al ty (0,0))∧et w (fun c=>qE w lo hi c∧c≠b) a v
 ap:=fun w w' h ab=>⟨ab.1,ab.2.1,(h b ab.1 ab.2.1).trans ab.2.2.1,ab.2.2.2.cZ (fun c hc=>h c hc.1.1 hc.1.2.1) fun c hc=>⟨⟨hc.1.1,hc.1.2.1,hc.1.2.2.same (h c hc.1.1 hc.1.2.1)⟩,hc.2⟩⟩
theorem b8.dr {W w w':World} {l:List fF} (h:b8 W w l) (hb:RowKit.Below w.heap.size w w') (b:Nat) {al:Array Value} {ty:TypeId} {a:AV} {v:Value} (h1:w.heap.size≤b) (h2:b<w'.heap.size) (hc:w'.heap[b]?=some (.cells al ty (0,0))) (aY:et w' (fun c=>qE w' w.heap.size w'.heap.size c∧c≠b) a v):b8 W w' (l++[jA w.heap.size w'.heap.size b al ty a v]):=
 h.made hb (jA w.heap.size w'.heap.size b al ty a v) rfl rfl ⟨h1,h2,hc,aY⟩
theorem jA.at {W w:World} {l:List fF} (h:b8 W w l) (j:Nat) {lo hi b:Nat} {al:Array Value} {ty:TypeId} {a:AV} {v:Value} (e:l[j]?=some (jA lo hi b al ty a v):=by rfl):V2 (Env.at w) a v:=
 (h.get j e).2.2.2.at fun c hc=>Nat.lt_of_lt_of_le hc.1.2.1 (h.hi j e)
theorem jA.box {W w:World} {l:List fF} (h:b8 W w l) (j:Nat) {lo hi b:Nat} {al:Array Value} {ty:TypeId} {a:AV} {v:Value} (e:l[j]?=some (jA lo hi b al ty a v)):w.heap[b]?=some (.cells al ty (0,0)):=(h.get j e).2.2.1
theorem jA.lt {W w:World} {l:List fF} (h:b8 W w l) (j:Nat) {lo hi b:Nat} {al:Array Value} {ty:TypeId} {a:AV} {v:Value} (e:l[j]?=some (jA lo hi b al ty a v)):b<w.heap.size:=Nat.lt_of_lt_of_le (h.get j e).2.1 (h.hi j e)
theorem yr {w w':World} {al:Array Value} {ty:TypeId} (hb:RowKit.Below (w.alloc (.cells al ty (0,0))).heap.size (w.alloc (.cells al ty (0,0))) w'):w'.heap[w.heap.size]?=some (.cells al ty (0,0)):=
 (hb.block _ (by rw[World.size_alloc];exact Nat.lt_succ_self _)).trans (p0 _ _)
theorem NB {w w':World} {al:Array Value} {ty:TypeId} (hb:RowKit.Below (w.alloc (.cells al ty (0,0))).drew.heap.size (w.alloc (.cells al ty (0,0))).drew w'):w'.heap[w.heap.size]?=some (.cells al ty (0,0)):=
 (hb.block _ (by rw[World.size_drew,World.size_alloc];exact Nat.lt_succ_self _)).trans (p0 _ _)
theorem et.dr {aL w w':World} {lo b:Nat} {a:AV} {v:Value} (h:et w (fG aL w) a v) (Dk:lo≤aL.heap.size) (hs:w.heap.size≤w'.heap.size) (hb:aL.heap.size≤b→w.heap.size≤b) (hk: ∀c,c<w.heap.size→c≠b→w'.heap[c]?=w.heap[c]?):et w' (fun c=>qE w' lo w'.heap.size c∧c≠b) a v:=by
 have bq: ∀c,fG aL w c→c≠b:=fun c hc e=>by
  subst e
  have h1:=hc.1
  have h2:=hc.2.1
  have:=hb h1
  omega
 refine h.cZ (fun c hc=>hk c hc.2.1 (bq c hc)) fun c hc=> ?_
 have h1:=hc.1
 have h2:=hc.2.1
 exact⟨⟨by omega,by omega,hc.2.2.same (hk c hc.2.1 (bq c hc))⟩,bq c hc⟩
theorem Ev {w:World} {b o:Nat} {al:Array Value} {ty:TypeId} {v:Value} (h:w.heap[b]?=some (.cells al ty (0,0))):(w.setCell ⟨b,o,none⟩ v).heap[b]?=some (.cells (al.setIfInBounds o v) ty (0,0)):=by
 simp[World.setCell,Array.getElem?_modify,h]
theorem pK {w:World} {b:Nat} {a0 J a2 a3 a4 v0 v1 v2 v3 v4:Value} {ty:TypeId} (h:w.heap[b]?=some (.cells #[a0,J,a2,a3,a4] ty (0,0))):(((((w.setCell ⟨b,0,none⟩ v0).setCell ⟨b,1,none⟩ v1).setCell ⟨b,2,none⟩ v2).setCell ⟨b,3,none⟩ v3).setCell ⟨b,4,none⟩ v4).heap[b]?=some (.cells #[v0,v1,v2,v3,v4] ty (0,0)):=
 Ev (Ev (Ev (Ev (Ev h))))
theorem bf.akH {P:Program} {f:FuncId} {args:List AV} (gB:wa P f=true)
  (h: ∀(w:World) (vs:List Value),ak (V2 (Env.wd w)) args vs→Calls P f vs.toArray w fun e w'=>e= .returned (.bool true)∧RowKit.Below w.heap.size w w'):bf P f args (.bool true):=by
 refine⟨gB,fun E vs bJ ax ar=>(h E.w vs (ar.mono fun _ _ k=>k.wd ax bJ)).mono ?_⟩
 rintro e w' ⟨rfl,hb⟩
 have hk: ∀c,E.PA c→w'.heap[c]?=E.w.heap[c]?:=fun c hc=>hb.block c (ax.ea c hc)
 have hm:=fun b=>ax.fresh b (Nat.zero_le _)
 refine⟨.bool true,.bool true,[],{E with w:=w'},rfl,.inr (.inr (.bool true)),rfl,bJ,{ax with
  heap:=fun b c SW=>by rw[(hm b).1] at SW;cases SW
  ea:=fun c hc=>Nat.lt_of_lt_of_le (ax.ea c hc) hb.size
  gD:=fun c hc=>Nat.lt_of_lt_of_le (ax.gD c hc) hb.size
  hG:=fun c hc=>Nat.lt_of_lt_of_le (ax.hG c hc) hb.size
  ga:=fun c hc=>(ax.ga c hc).same (hk c (ax.dU c hc))},aP.bool true,?_⟩
 exact⟨⟨fun _ h=>h,fun _ h=>h,hk,fun c hc=>hk c (ax.dU c hc),fun _=>Nat.le_refl _,fun _ _ h _=>⟨h,rfl,rfl⟩,fun _ _ h=>h⟩,hb.os,hb.tape,hb.output,hb.size,fun c hc _ _=>hb.block c hc,fun _ _ h=> .inl h,fun _ h=> .inl h,fun _ h=> .inl h,fun _ h=> .inl h⟩
open Go Go.RowKit
set_option maxHeartbeats 1000000
set_option maxRecDepth 100000
theorem WH (A:Option Addr) (c o n cap:Nat) (k:Int) (w:World) (al:Array Value) (ty:TypeId) (cu:0<n→A=some ⟨c,o,none⟩∧w.heap[c]?=some (.cells al ty (0,0))∧o+n≤al.size) (aA:0≤k) (h1:k+n≤4611686018427387904):
    Calls Tryz.prog 58 #[.slice A n cap,.int .i64 k] w fun e w'=>e= .returned (.int .i64 (k+n))∧lO w w' c o n (td k):=by
  have ku:=Lib.hid cu;clear cu
  go_enter Tryz.func58,Tryz.ntmps58
  go_wp2
  go_loopw [1,5] (fun q i wr=> ∃j:Nat,j≤n∧i= .int .i64 j∧q= .int .i64 (k+j)∧lO w wr c o j (td k)) (fun _ i _=>n - (intOf i).toNat)
  case atStart=>exact⟨0,Nat.zero_le _,rfl,by simp,.refl _ _ _ _⟩
  case round=>
    obtain⟨j,ah,rfl,rfl,hm⟩:=hrel
    have fA:=Lib.hid hm;clear hm
    by_cases aM:j<n
    · obtain⟨aG,hw,af⟩:=ku.out (by omega)
      have jQ:=Lib.hid hw;clear hw
      subst aG
      obtain⟨u,hu,hf⟩:=fA.out.cell jQ.out (j:=o+j) (by omega)
      go_wp2
      go_roundw
      case rel=>exact⟨j+1,by omega,by go_num,by go_num,fA.out.snoc rfl⟩
      case measure=>simp[intOf];omega
    · have e:j=n:=by omega
      subst e
      go_wp2
      go_ret
      exact⟨rfl,fA.out⟩
theorem He (A:Option Addr) (c o n cap:Nat) (k:Int) (w:World) (al:Array Value) (ty:TypeId) (cu:0<n→A=some ⟨c,o,none⟩∧w.heap[c]?=some (.cells al ty (0,0))∧o+n≤al.size) (aA:0≤k) (h1:k+n≤4611686018427387904):
    Calls Tryz.prog 61 #[.slice A n cap,.int .i64 k] w fun e w'=>e= .returned (.int .i64 (k+n))∧lO w w' c o n (Rj k):=by
  have ku:=Lib.hid cu;clear cu
  go_enter Tryz.func61,Tryz.ntmps61
  go_wp2
  go_loopw [1,5] (fun q i wr=> ∃j:Nat,j≤n∧i= .int .i64 j∧q= .int .i64 (k+j)∧lO w wr c o j (Rj k)) (fun _ i _=>n - (intOf i).toNat)
  case atStart=>exact⟨0,Nat.zero_le _,rfl,by simp,.refl _ _ _ _⟩
  case round=>
    obtain⟨j,ah,rfl,rfl,hm⟩:=hrel
    have fA:=Lib.hid hm;clear hm
    by_cases aM:j<n
    · obtain⟨aG,hw,af⟩:=ku.out (by omega)
      have jQ:=Lib.hid hw;clear hw
      subst aG
      obtain⟨u,hu,hf⟩:=fA.out.cell jQ.out (j:=o+j) (by omega)
      go_wp2
      go_roundw
      case rel=>exact⟨j+1,by omega,by go_num,by go_num,fA.out.snoc rfl⟩
      case measure=>simp[intOf];omega
    · have e:j=n:=by omega
      subst e
      go_wp2
      go_ret
      exact⟨rfl,fA.out⟩
theorem WI (A:Option Addr) (c o n cap:Nat) (k:Int) (w:World) (al:Array Value) (ty:TypeId) (cu:0<n→A=some ⟨c,o,none⟩∧w.heap[c]?=some (.cells al ty (0,0))∧o+n*2≤al.size) (aA:0≤k) (h1:k+2*n≤4611686018427387904):
    Calls Tryz.prog 103 #[.slice A n cap,.int .i64 k] w fun e w'=>e= .returned (.int .i64 (k+2*n))∧lO w w' c o (n*2) (td k):=by
  have ku:=Lib.hid cu;clear cu
  go_enter Tryz.func103,Tryz.ntmps103
  go_wp2
  go_loopw [1,5] (fun q i wr=> ∃j:Nat,j≤n∧i= .int .i64 j∧q= .int .i64 (k+2*j)∧lO w wr c o (j*2) (td k)) (fun _ i _=>n - (intOf i).toNat)
  case atStart=>exact⟨0,Nat.zero_le _,rfl,by simp,.refl _ _ _ _⟩
  case round=>
    obtain⟨j,ah,rfl,rfl,hm⟩:=hrel
    have fA:=Lib.hid hm;clear hm
    by_cases aM:j<n
    · obtain⟨aG,hw,af⟩:=ku.out (by omega)
      have jQ:=Lib.hid hw;clear hw
      subst aG
      obtain⟨EP,vE,xF⟩:=fA.out.cell jQ.out (j:=o+j*2) (by omega)
      obtain⟨EQ,pr,xG⟩:=fA.out.cell jQ.out (j:=o+j*2+1) (by omega)
      go_wp2
      go_roundw
      case rel=>exact⟨j+1,by omega,by go_num,by go_num,by
        have:=((fA.out.snoc (v:= .int .i64 (k+2*j)) (by unfold td;congr 1;omega)).snoc (v:= .int .i64 (k+2*j+1)) (by unfold td;congr 1;omega))
        rw[show(j+1)*2=j*2+1+1 by omega];exact this⟩
      case measure=>simp[intOf];omega
    · have e:j=n:=by omega
      subst e
      go_wp2
      go_ret
      exact⟨rfl,fA.out⟩
theorem Hf (A:Option Addr) (c o n cap:Nat) (k:Int) (w:World) (al:Array Value) (ty:TypeId) (cu:0<n→A=some ⟨c,o,none⟩∧w.heap[c]?=some (.cells al ty (0,0))∧o+n*2≤al.size) (aA:0≤k) (h1:k+2*n≤4611686018427387904):
    Calls Tryz.prog 62 #[.slice A n cap,.int .i64 k] w fun e w'=>e= .returned (.int .i64 (k+2*n))∧lO w w' c o (n*2) (td k):=by
  have ku:=Lib.hid cu;clear cu
  go_enter Tryz.func62,Tryz.ntmps62
  go_wp2
  go_loopw [1,5] (fun q i wr=> ∃j:Nat,j≤n∧i= .int .i64 j∧q= .int .i64 (k+2*j)∧lO w wr c o (j*2) (td k)) (fun _ i _=>n - (intOf i).toNat)
  case atStart=>exact⟨0,Nat.zero_le _,rfl,by simp,.refl _ _ _ _⟩
  case round=>
    obtain⟨j,ah,rfl,rfl,hm⟩:=hrel
    have fA:=Lib.hid hm;clear hm
    by_cases aM:j<n
    · obtain⟨aG,hw,af⟩:=ku.out (by omega)
      have jQ:=Lib.hid hw;clear hw
      subst aG
      obtain⟨EP,vE,xF⟩:=fA.out.cell jQ.out (j:=o+j*2) (by omega)
      obtain⟨EQ,pr,xG⟩:=fA.out.cell jQ.out (j:=o+j*2+1) (by omega)
      go_wp2
      go_roundw
      case rel=>exact⟨j+1,by omega,by go_num,by go_num,by
        have:=((fA.out.snoc (v:= .int .i64 (k+2*j)) (by unfold td;congr 1;omega)).snoc (v:= .int .i64 (k+2*j+1)) (by unfold td;congr 1;omega))
        rw[show(j+1)*2=j*2+1+1 by omega];exact this⟩
      case measure=>simp[intOf];omega
    · have e:j=n:=by omega
      subst e
      go_wp2
      go_ret
      exact⟨rfl,fA.out⟩
open Go Go.RowKit
theorem eB.flat {w:World} {S:Nat→Prop} {κ e:aR} {L m n cap:Nat} {A:Option Addr} (Ar:κ= .int∨κ= .bool) (bJ:e.bV=List.replicate L κ) (aA:0<L) (h:eB w S (.l e) m (.slice A n cap)):
    m=n*L∧(0<n→ ∃(c o:Nat) (al:Array Value) (ty:TypeId),A=some ⟨c,o,none⟩∧S c∧w.heap[c]?=some (.cells al ty (0,0))∧o+n*L≤al.size∧ ∀q,q<n*L→ ∃u,al[o+q]?=some u∧eB w S κ 1 u):=by
  by_cases af:0<n
  · obtain⟨c,o,al,ty,cc,cu,ds,bw,hm,cm,hv⟩:=h.cells af
    have aw:e.bV.length=L:=by rw[bJ,List.length_replicate]
    rw[aw] at hm cm
    have ah: ∀j,j<L→e.bV[j]?=some κ:=fun j ah=>by rw[bJ,List.getElem?_replicate,if_pos ah]
    have one: ∀i j,i<n→j<L→cc i j=1∧ ∃u,al[o+(i*L+j)]?=some u∧eB w S κ 1 u:=fun i j hi jn=>by
      obtain⟨u,hu,hk⟩:=hv i j κ hi (ah j jn)
      rw[aw] at hu
      have:cc i j=1:=by
        rcases Ar with rfl | rfl
        · exact hk.of_int.1
        · exact hk.of_bool.1
      exact⟨this,u,hu,this▸hk⟩
    refine⟨?_,fun _=>⟨c,o,al,ty,cu,ds,bw,cm aA,fun q U=> ?_⟩⟩
    · rw[hm]
      exact Qj fun i hi=>(Qj (c:=1) fun j ah=>(one i j hi ah).1).trans (Nat.mul_one _)
    · have h1:q / L<n:=(Nat.div_lt_iff_lt_mul aA).2 U
      obtain⟨_,u,hu,hk⟩:=one (q / L) (q%L) h1 (Nat.mod_lt _ aA)
      refine⟨u,?_,hk⟩
      rw[Nat.mul_comm,Nat.div_add_mod] at hu
      exact hu
  · obtain rfl:n=0:=by omega
    exact⟨by rw[h.zero];simp,fun h=>absurd h af⟩
theorem eB.same {w:World} {S:Nat→Prop} {u:Value} (h:eB w S .int 1 u) (n:Int):pY (some u) (some (.int .i64 n)):=by
  obtain⟨_,m,rfl⟩:=h.of_int;exact .inr (.inl ⟨_,_,rfl,rfl⟩)
theorem eB.alY {w:World} {S:Nat→Prop} {u:Value} (h:eB w S .bool 1 u) (n:Bool):pY (some u) (some (.bool n)):=by
  obtain⟨_,m,rfl⟩:=h.of_bool;exact .inr (.inr ⟨_,_,rfl,rfl⟩)
theorem Hi:w4 Tryz.prog 58 (.l .int):=fun w S m v k h aA h1=>by
  obtain⟨A,n,cap,rfl⟩:=h.n9
  obtain⟨rfl,hc⟩:=h.flat (.inl rfl) (L:=1) rfl (by omega)
  rw[Nat.mul_one] at h1 hc ⊢
  have h2:k+n≤4611686018427387904:=by exact h1
  have aj:(Ending.returned (.int .i64 (k+n)):Ending)= .returned (.int .i64 (k+((n:Nat):Int))):=by rfl
  by_cases af:0<n
  · obtain⟨c,o,al,ty,cu,ds,bw,az,hv⟩:=hc af
    refine(WH A c o n cap k w al ty (fun _=>⟨cu,bw,az⟩) aA h2).mono ?_
    rintro e w' ⟨rfl,hm⟩
    refine⟨aj,hm.e8 ds fun b3 jf i hx hi=> ?_⟩
    rw[bw] at hx;cases hx
    obtain⟨u,hu,hk⟩:=hv i hi
    rw[hu];exact hk.same _
  · refine(WH A w.heap.size 0 n cap k w #[] 0 (fun h=>absurd h af) aA h2).mono ?_
    rintro e w' ⟨rfl,hm⟩
    exact⟨aj,hm.DN⟩
theorem Nx:w4 Tryz.prog 61 (.l .bool):=fun w S m v k h aA h1=>by
  obtain⟨A,n,cap,rfl⟩:=h.n9
  obtain⟨rfl,hc⟩:=h.flat (.inr rfl) (L:=1) rfl (by omega)
  rw[Nat.mul_one] at h1 hc ⊢
  have h2:k+n≤4611686018427387904:=by exact h1
  have aj:(Ending.returned (.int .i64 (k+n)):Ending)= .returned (.int .i64 (k+((n:Nat):Int))):=by rfl
  by_cases af:0<n
  · obtain⟨c,o,al,ty,cu,ds,bw,az,hv⟩:=hc af
    refine(He A c o n cap k w al ty (fun _=>⟨cu,bw,az⟩) aA h2).mono ?_
    rintro e w' ⟨rfl,hm⟩
    refine⟨aj,hm.e8 ds fun b3 jf i hx hi=> ?_⟩
    rw[bw] at hx;cases hx
    obtain⟨u,hu,hk⟩:=hv i hi
    rw[hu];exact hk.alY _
  · refine(He A w.heap.size 0 n cap k w #[] 0 (fun h=>absurd h af) aA h2).mono ?_
    rintro e w' ⟨rfl,hm⟩
    exact⟨aj,hm.DN⟩
theorem WM:w4 Tryz.prog 103 (.l .a1):=fun w S m v k h aA h1=>by
  obtain⟨A,n,cap,rfl⟩:=h.n9
  obtain⟨rfl,hc⟩:=h.flat (.inl rfl) (L:=2) rfl (by omega)
  have h2:k+2*n≤4611686018427387904:=by omega
  have aj:(Ending.returned (.int .i64 (k+2*n)):Ending)= .returned (.int .i64 (k+((n*2:Nat):Int))):=by congr 2;omega
  by_cases af:0<n
  · obtain⟨c,o,al,ty,cu,ds,bw,az,hv⟩:=hc af
    refine(WI A c o n cap k w al ty (fun _=>⟨cu,bw,az⟩) aA h2).mono ?_
    rintro e w' ⟨rfl,hm⟩
    refine⟨aj,hm.e8 ds fun b3 jf i hx hi=> ?_⟩
    rw[bw] at hx;cases hx
    obtain⟨u,hu,hk⟩:=hv i hi
    rw[hu];exact hk.same _
  · refine(WI A w.heap.size 0 n cap k w #[] 0 (fun h=>absurd h af) aA h2).mono ?_
    rintro e w' ⟨rfl,hm⟩
    exact⟨aj,hm.DN⟩
theorem akp:w4 Tryz.prog 62 (.l .dx):=fun w S m v k h aA h1=>by
  obtain⟨A,n,cap,rfl⟩:=h.n9
  obtain⟨rfl,hc⟩:=h.flat (.inl rfl) (L:=2) rfl (by omega)
  have h2:k+2*n≤4611686018427387904:=by omega
  have aj:(Ending.returned (.int .i64 (k+2*n)):Ending)= .returned (.int .i64 (k+((n*2:Nat):Int))):=by congr 2;omega
  by_cases af:0<n
  · obtain⟨c,o,al,ty,cu,ds,bw,az,hv⟩:=hc af
    refine(Hf A c o n cap k w al ty (fun _=>⟨cu,bw,az⟩) aA h2).mono ?_
    rintro e w' ⟨rfl,hm⟩
    refine⟨aj,hm.e8 ds fun b3 jf i hx hi=> ?_⟩
    rw[bw] at hx;cases hx
    obtain⟨u,hu,hk⟩:=hv i hi
    rw[hu];exact hk.same _
  · refine(Hf A w.heap.size 0 n cap k w #[] 0 (fun h=>absurd h af) aA h2).mono ?_
    rintro e w' ⟨rfl,hm⟩
    exact⟨aj,hm.DN⟩
open Go Go.RowKit
theorem akl:w4 Tryz.prog 60 (.l (.l .bool)):=fun w S m v k h aA h1=>by
  obtain⟨A,n,cap,rfl⟩:=h.n9
  obtain⟨qf,c,o,cc,cu,rfl,aw,_,_⟩:=h.elem
  have H1:=Lib.hid h1;clear h1
  have ku:=Lib.hid cu;clear cu
  have cL:=Lib.hid aw;clear aw
  clear h
  go_enter Tryz.func60,Tryz.ntmps60
  go_wp2
  go_loopw [1,5] (fun q i wr=> ∃j:Nat,j≤n∧i= .int .i64 j∧q= .int .i64 (k+(cw (fun i=>cw (cc i) 1) j:Nat))∧dC S w wr) (fun _ i _=>n - (intOf i).toNat)
  case atStart=>exact⟨0,Nat.zero_le _,rfl,by simp[cw],.refl _ _⟩
  case round=>
    obtain⟨j,ah,rfl,rfl,hm⟩:=hrel
    have fA:=Lib.hid hm;clear hm
    by_cases aM:j<n
    · obtain rfl:=ku.out (by omega)
      obtain⟨bL,bM,bo,h2⟩:=cL.out j 0 .bool aM rfl
      obtain⟨iv,Ae⟩:=h2 wr fA.out
      rw[show o+(j*(aR.l aR.bool).bV.length+0)=o+j from by show o+(j*1+0)=_;omega] at iv
      have Cp:=Lib.hid Ae;clear Ae h2
      have aY:cw (fun i=>cw (cc i) 1) (j+1)=cw (fun i=>cw (cc i) 1) j+cc j 0:=by show _+(0+cc j 0)=_;rw[Nat.zero_add]
      have hle:cw (fun i=>cw (cc i) 1) (j+1)≤cw (fun i=>cw (cc i) 1) n:=Iy (by omega)
      have o7:Hid (k+(cw (fun i=>cw (cc i) 1) j:Nat)+(cc j 0:Nat)≤4611686018427387904∧0≤k+(cw (fun i=>cw (cc i) 1) j:Nat)):=by
        unfold Hid
        have h1:k+(cw (fun i=>cw (cc i) 1) n:Nat)≤4611686018427387904:=H1.out
        omega
      have qD:=Lib.hid aY;clear aY hle
      go_wp2_with (go_at_call 61;refine(Nx _ S _ _ _ Cp.out o7.out.2 o7.out.1).mono ?_)
      first
      | (rintro e bn rfl KS)
      | (rintro e bn ⟨rfl,KS⟩)
      have ry:=Lib.hid (fA.out.trans KS);clear KS
      go_wp2
      go_roundw
      case rel=>exact⟨j+1,by omega,by go_num,by rw[qD.out];congr 1;omega,ry.out⟩
      case measure=>simp[intOf];omega
    · have e:j=n:=by omega
      subst e
      go_wp2
      go_ret
      exact⟨rfl,fA.out⟩
theorem akq:w4 Tryz.prog 59 (.l .e6):=fun w S m v k h aA h1=>by
  obtain⟨A,n,cap,rfl⟩:=h.n9
  obtain⟨qf,c,o,cc,cu,rfl,aw,_,_⟩:=h.elem
  have H1:=Lib.hid h1;clear h1
  have ku:=Lib.hid cu;clear cu
  have cL:=Lib.hid aw;clear aw
  clear h
  go_enter Tryz.func59,Tryz.ntmps59
  go_wp2
  go_loopw [1,5] (fun q i wr=> ∃j:Nat,j≤n∧i= .int .i64 j∧q= .int .i64 (k+(cw (fun i=>cw (cc i) 5) j:Nat))∧dC S w wr) (fun _ i _=>n - (intOf i).toNat)
  case atStart=>exact⟨0,Nat.zero_le _,rfl,by simp[cw],.refl _ _⟩
  case round=>
    obtain⟨j,ah,rfl,rfl,hm⟩:=hrel
    have fA:=Lib.hid hm;clear hm
    by_cases aM:j<n
    · obtain rfl:=ku.out (by omega)
      obtain⟨bL,bM,bo,SH⟩:=cL.out j 0 .int aM rfl
      have hl:=Lib.hid SH;clear SH
      obtain⟨bG,b5,bk,sN⟩:=cL.out j 1 .a1 aM rfl
      have hn:=Lib.hid sN;clear sN
      obtain⟨bF,n2,bg,kV⟩:=cL.out j 2 .a1 aM rfl
      have fz:=Lib.hid kV;clear kV
      obtain⟨aa7,nu,ic,KK⟩:=cL.out j 3 .int aM rfl
      have QC:=Lib.hid KK;clear KK
      obtain⟨aa8,Hk,lR,KL⟩:=cL.out j 4 .int aM rfl
      have QD:=Lib.hid KL;clear KL
      have aY:cw (fun i=>cw (cc i) 5) (j+1)=cw (fun i=>cw (cc i) 5) j+(cc j 0+cc j 1+cc j 2+cc j 3+cc j 4):=by
        show _+(0+cc j 0+cc j 1+cc j 2+cc j 3+cc j 4)=_
        rw[Nat.zero_add]
      have hle:cw (fun i=>cw (cc i) 5) (j+1)≤cw (fun i=>cw (cc i) 5) n:=Iy (by omega)
      have o7:Hid (0≤k+(cw (fun i=>cw (cc i) 5) j:Nat)∧k+(cw (fun i=>cw (cc i) 5) j:Nat)+((cc j 0:Nat)+(cc j 1:Nat)+(cc j 2:Nat)+(cc j 3:Nat)+(cc j 4:Nat))≤4611686018427387904):=by
        unfold Hid
        have h1:k+(cw (fun i=>cw (cc i) 5) n:Nat)≤4611686018427387904:=H1.out
        omega
      have qD:=Lib.hid aY;clear aY hle
      have iv:wr.cell? ⟨c,o+j*5,none⟩=some (.slice bL bM bo):=by
        have:=(hl.out wr fA.out).1
        rw[show o+(j*(aR.bV .e6).length+0)=o+j*5 from by show o+(j*5+0)=_;omega] at this
        exact this
      have o8:Hid (0≤k+(cw (fun i=>cw (cc i) 5) j:Nat)∧k+(cw (fun i=>cw (cc i) 5) j:Nat)+(cc j 0:Nat)≤4611686018427387904):=by unfold Hid;have:=o7.out;omega
      go_wp2_with (go_at_call 58;refine(Hi wr S _ _ _ (hl.out wr fA.out).2 o8.out.1 o8.out.2).mono ?_)
      first
      | (rintro e bn rfl hb)
      | (rintro e bn ⟨rfl,hb⟩)
      have IW:=Lib.hid (fA.out.trans hb);clear hb iv
      have rP:bn.cell? ⟨c,o+j*5+1,none⟩=some (.slice bG b5 bk):=by
        have:=(hn.out bn IW.out).1
        rw[show o+(j*(aR.bV .e6).length+1)=o+j*5+1 from by show o+(j*5+1)=_;omega] at this
        exact this
      have o9:Hid (0≤k+(cw (fun i=>cw (cc i) 5) j:Nat)+(cc j 0:Nat)∧k+(cw (fun i=>cw (cc i) 5) j:Nat)+(cc j 0:Nat)+(cc j 1:Nat)≤4611686018427387904):=by unfold Hid;have:=o7.out;omega
      go_wp2_with (go_at_call 103;refine(WM bn S _ _ _ (hn.out bn IW.out).2 o9.out.1 o9.out.2).mono ?_)
      first
      | (rintro e bK rfl hb)
      | (rintro e bK ⟨rfl,hb⟩)
      have Cv:=Lib.hid (IW.out.trans hb);clear hb rP
      have ub:bK.cell? ⟨c,o+j*5+2,none⟩=some (.slice bF n2 bg):=by
        have:=(fz.out bK Cv.out).1
        rw[show o+(j*(aR.bV .e6).length+2)=o+j*5+2 from by show o+(j*5+2)=_;omega] at this
        exact this
      have kv:Hid (0≤k+(cw (fun i=>cw (cc i) 5) j:Nat)+(cc j 0:Nat)+(cc j 1:Nat)∧k+(cw (fun i=>cw (cc i) 5) j:Nat)+(cc j 0:Nat)+(cc j 1:Nat)+(cc j 2:Nat)≤4611686018427387904):=by unfold Hid;have:=o7.out;omega
      go_wp2_with (go_at_call 103;refine(WM bK S _ _ _ (fz.out bK Cv.out).2 kv.out.1 kv.out.2).mono ?_)
      first
      | (rintro e da rfl hb)
      | (rintro e da ⟨rfl,hb⟩)
      have IX:=Lib.hid (Cv.out.trans hb);clear hb ub
      have afe:da.cell? ⟨c,o+j*5+3,none⟩=some (.slice aa7 nu ic):=by
        have:=(QC.out da IX.out).1
        rw[show o+(j*(aR.bV .e6).length+3)=o+j*5+3 from by show o+(j*5+3)=_;omega] at this
        exact this
      have QE:Hid (0≤k+(cw (fun i=>cw (cc i) 5) j:Nat)+(cc j 0:Nat)+(cc j 1:Nat)+(cc j 2:Nat)∧k+(cw (fun i=>cw (cc i) 5) j:Nat)+(cc j 0:Nat)+(cc j 1:Nat)+(cc j 2:Nat)+(cc j 3:Nat)≤4611686018427387904):=by unfold Hid;have:=o7.out;omega
      go_wp2_with (go_at_call 58;refine(Hi da S _ _ _ (QC.out da IX.out).2 QE.out.1 QE.out.2).mono ?_)
      first
      | (rintro e jh rfl hb)
      | (rintro e jh ⟨rfl,hb⟩)
      have IY:=Lib.hid (IX.out.trans hb);clear hb afe
      have aff:jh.cell? ⟨c,o+j*5+4,none⟩=some (.slice aa8 Hk lR):=by
        have:=(QD.out jh IY.out).1
        rw[show o+(j*(aR.bV .e6).length+4)=o+j*5+4 from by show o+(j*5+4)=_;omega] at this
        exact this
      have QF:Hid (0≤k+(cw (fun i=>cw (cc i) 5) j:Nat)+(cc j 0:Nat)+(cc j 1:Nat)+(cc j 2:Nat)+(cc j 3:Nat)∧k+(cw (fun i=>cw (cc i) 5) j:Nat)+(cc j 0:Nat)+(cc j 1:Nat)+(cc j 2:Nat)+(cc j 3:Nat)+(cc j 4:Nat)≤4611686018427387904):=by unfold Hid;have:=o7.out;omega
      go_wp2_with (go_at_call 58;refine(Hi jh S _ _ _ (QD.out jh IY.out).2 QF.out.1 QF.out.2).mono ?_)
      first
      | (rintro e wU rfl hb)
      | (rintro e wU ⟨rfl,hb⟩)
      have abd:=Lib.hid (IY.out.trans hb);clear hb aff
      go_wp2
      go_roundw
      case rel=>exact⟨j+1,by omega,by go_num,by rw[qD.out];congr 1;omega,abd.out⟩
      case measure=>simp[intOf];omega
    · have e:j=n:=by omega
      subst e
      go_wp2
      go_ret
      exact⟨rfl,fA.out⟩
theorem akn:w4 Tryz.prog 63 (.l .held):=fun w S m v k h aA h1=>by
  obtain⟨A,n,cap,rfl⟩:=h.n9
  obtain⟨qf,c,o,cc,cu,rfl,aw,hi,hb⟩:=h.elem
  have H1:=Lib.hid h1;clear h1
  have ku:=Lib.hid cu;clear cu
  have cL:=Lib.hid aw;clear aw
  have ou:=Lib.hid hi;clear hi
  have Cn:=Lib.hid hb;clear hb
  clear h
  go_enter Tryz.func63,Tryz.ntmps63
  go_wp2
  go_loopw [1,5] (fun q i wr=> ∃j:Nat,j≤n∧i= .int .i64 j∧q= .int .i64 (k+(cw (fun i=>cw (cc i) 5) j:Nat))∧dC S w wr) (fun _ i _=>n - (intOf i).toNat)
  case atStart=>exact⟨0,Nat.zero_le _,rfl,by simp[cw],.refl _ _⟩
  case round=>
    obtain⟨j,ah,rfl,rfl,hm⟩:=hrel
    have fA:=Lib.hid hm;clear hm
    by_cases aM:j<n
    · obtain rfl:=ku.out (by omega)
      obtain⟨cx,bW⟩:=ou.out j 0 aM rfl
      rw[show o+(j*(aR.bV .held).length+0)=o+j*5 from by show o+(j*5+0)=_;omega] at bW
      have bW:=Lib.hid bW
      obtain⟨aG,b7⟩:=ou.out j 1 aM rfl
      rw[show o+(j*(aR.bV .held).length+1)=o+j*5+1 from by show o+(j*5+1)=_;omega] at b7
      have b7:=Lib.hid b7
      obtain⟨hD,jP⟩:=ou.out j 4 aM rfl
      rw[show o+(j*(aR.bV .held).length+4)=o+j*5+4 from by show o+(j*5+4)=_;omega] at jP
      have jP:=Lib.hid jP
      obtain⟨dg,j6⟩:=Cn.out j 3 aM rfl
      rw[show o+(j*(aR.bV .held).length+3)=o+j*5+3 from by show o+(j*5+3)=_;omega] at j6
      have j6:=Lib.hid j6
      obtain⟨bF,n2,bg,kV⟩:=cL.out j 2 .bool aM rfl
      rw[show o+(j*(aR.bV .held).length+2)=o+j*5+2 from by show o+(j*5+2)=_;omega] at kV
      have fz:=Lib.hid kV;clear kV
      have aY:cw (fun i=>cw (cc i) 5) (j+1)=cw (fun i=>cw (cc i) 5) j+(4+cc j 2):=by
        show _+(0+cc j 0+cc j 1+cc j 2+cc j 3+cc j 4)=_
        omega
      have hle:cw (fun i=>cw (cc i) 5) (j+1)≤cw (fun i=>cw (cc i) 5) n:=Iy (by omega)
      obtain⟨y,aX⟩: ∃y:Int,k+(cw (fun i=>cw (cc i) 5) j:Nat)=y:=⟨_,rfl⟩
      obtain⟨bx,kb⟩: ∃bx:Nat,cc j 2=bx:=⟨_,rfl⟩
      rw[kb] at fz
      have h1:k+(cw (fun i=>cw (cc i) 5) n:Nat)≤4611686018427387904:=H1.out
      have TD:0≤y:=by omega
      have DA:y+bx+4≤4611686018427387904:=by omega
      have qD:Hid (k+(cw (fun i=>cw (cc i) 5) (j+1):Nat)=y+1+1+bx+1+1):=by unfold Hid;omega
      rw[aX]
      clear aY hle h1 cx aG dg hD aX kb
      obtain⟨EP,vE,xF,m_⟩:=bW.out wr fA.out
      obtain⟨EQ,pr,xG,_⟩:=b7.out wr fA.out
      obtain⟨sW,_⟩:=fz.out wr fA.out
      have abj:=Lib.hid m_;clear m_
      have QL:Hid (∀x iX,dC S w ((wr.setCell ⟨c,o+j*5,none⟩ (.int .i64 x)).setCell ⟨c,o+j*5+1,none⟩ (.int .i64 iX))):=fun x iX=>by
        obtain⟨_,_,_,na⟩:=b7.out _ (abj.out x)
        exact na iX
      have kv:Hid (0≤y+1+1∧y+1+1+(bx:Nat)≤4611686018427387904):=by unfold Hid;omega
      go_wp2_with (go_at_call 61;refine(Nx _ S _ _ _ (fz.out _ (QL.out _ _)).2 kv.out.1 kv.out.2).mono ?_)
      first
      | (rintro e bn rfl hb)
      | (rintro e bn ⟨rfl,hb⟩)
      have ry:=Lib.hid ((QL.out _ _).trans hb);clear hb
      clear vE xF pr xG sW
      obtain⟨aow,GD,afv,tI⟩:=j6.out bn ry.out
      obtain⟨aox,LA,afw,_⟩:=jP.out bn ry.out
      have abk:=Lib.hid tI;clear tI
      have abl:Hid (∀x iX,dC S w ((bn.setCell ⟨c,o+j*5+3,none⟩ (.bool x)).setCell ⟨c,o+j*5+4,none⟩ (.int .i64 iX))):=fun x iX=>by
        obtain⟨_,_,_,I0⟩:=jP.out _ (abk.out x)
        exact I0 iX
      go_wp2
      go_roundw
      case rel=>exact⟨j+1,by omega,by go_num,by rw[qD.out],abl.out _ _⟩
      case measure=>simp[intOf];omega
    · have e:j=n:=by omega
      subst e
      go_wp2
      go_ret
      exact⟨rfl,fA.out⟩
open Go Go.RowKit
theorem ako (w:World) (S:Nat→Prop) (Bq cv:Int) (bL bG bF:Option Addr) (bM bo ag b5 bk a6 n2 bg bx:Nat) (k:Int) (m_:eB w S (.l .int) ag (.slice bL bM bo)) (na:eB w S (.l .e6) a6 (.slice bG b5 bk)) (pW:eB w S (.l (.l .bool)) bx (.slice bF n2 bg)) (aA:0≤k) (h1:k+(ag:Nat)+(a6:Nat)+(bx:Nat)≤4611686018427387904):
    Calls Tryz.prog 15 #[.agg #[.int .i64 Bq,.slice bL bM bo,.slice bG b5 bk,.slice bF n2 bg,.int .i64 cv],.int .i64 k] w fun jl w'=>jl= .returned (.int .i64 (k+(ag:Nat)+(a6:Nat)+(bx:Nat)))∧dC S w w':=by
  have jQ:Hid (dC S w (w.alloc (.cells #[.int .i64 Bq,.slice bL bM bo,.slice bG b5 bk,.slice bF n2 bg,.int .i64 cv] 39))):=dC.below ((Below.refl _ _).alloc (Nat.le_refl _) _)
  have ss:Hid ((w.alloc (.cells #[.int .i64 Bq,.slice bL bM bo,.slice bG b5 bk,.slice bF n2 bg,.int .i64 cv] 39)).heap[w.heap.size]?=some (.cells #[.int .i64 Bq,.slice bL bM bo,.slice bG b5 bk,.slice bF n2 bg,.int .i64 cv] 39 (0,0))):=p0 _ _
  have hl:=Lib.hid m_;clear m_
  have hn:=Lib.hid na;clear na
  have fz:=Lib.hid pW;clear pW
  go_enter Tryz.func15,Tryz.ntmps15
  have IV:Hid (dC S (w.alloc (.cells #[.int .i64 Bq,.slice bL bM bo,.slice bG b5 bk,.slice bF n2 bg,.int .i64 cv] 39)) (w.alloc (.cells #[.int .i64 Bq,.slice bL bM bo,.slice bG b5 bk,.slice bF n2 bg,.int .i64 cv] 39))):=dC.refl _ _
  have o8:Hid (0≤k∧k+(ag:Nat)≤4611686018427387904):=by unfold Hid;omega
  go_wp2_with (go_at_call 58;refine(Hi _ S _ _ _ (hl.out.e8 jQ.out) o8.out.1 o8.out.2).mono ?_)
  first
  | (rintro e bn rfl hb)
  | (rintro e bn ⟨rfl,hb⟩)
  have nK:=Lib.hid (IV.out.trans hb);clear hb
  have rP:bn.cell? ⟨w.heap.size,2,none⟩=some (.slice bG b5 bk):=nK.out.head ss.out rfl
  have o9:Hid (0≤k+(ag:Nat)∧k+(ag:Nat)+(a6:Nat)≤4611686018427387904):=by unfold Hid;omega
  go_wp2_with (go_at_call 59;refine(akq _ S _ _ _ (hn.out.e8 (jQ.out.trans nK.out)) o9.out.1 o9.out.2).mono ?_)
  first
  | (rintro e bK rfl hb)
  | (rintro e bK ⟨rfl,hb⟩)
  have nL:=Lib.hid (nK.out.trans hb);clear hb rP
  have ub:bK.cell? ⟨w.heap.size,3,none⟩=some (.slice bF n2 bg):=nL.out.head ss.out rfl
  have kv:Hid (0≤k+(ag:Nat)+(a6:Nat)∧k+(ag:Nat)+(a6:Nat)+(bx:Nat)≤4611686018427387904):=by unfold Hid;omega
  go_wp2_with (go_at_call 60;refine(akl _ S _ _ _ (fz.out.e8 (jQ.out.trans nL.out)) kv.out.1 kv.out.2).mono ?_)
  first
  | (rintro e da rfl hb)
  | (rintro e da ⟨rfl,hb⟩)
  have w3:=Lib.hid (nL.out.trans hb);clear hb ub
  go_wp2
  go_ret
  exact⟨rfl,jQ.out.trans w3.out⟩
theorem akm (w:World) (S:Nat→Prop) (ok:Bool) (bL bG bF:Option Addr) (bM bo ag b5 bk a6 n2 bg bx:Nat) (k:Int) (m_:eB w S (.l .bool) ag (.slice bL bM bo)) (na:eB w S (.l .dx) a6 (.slice bG b5 bk)) (pW:eB w S (.l .held) bx (.slice bF n2 bg)) (aA:0≤k) (h1:k+(ag:Nat)+(a6:Nat)+(bx:Nat)≤4611686018427387904):
    Calls Tryz.prog 16 #[.agg #[.bool ok,.slice bL bM bo,.slice bG b5 bk,.slice bF n2 bg],.int .i64 k] w fun jl w'=>jl= .returned (.int .i64 (k+(ag:Nat)+(a6:Nat)+(bx:Nat)))∧dC S w w':=by
  have jQ:Hid (dC S w (w.alloc (.cells #[.bool ok,.slice bL bM bo,.slice bG b5 bk,.slice bF n2 bg] 44))):=dC.below ((Below.refl _ _).alloc (Nat.le_refl _) _)
  have ss:Hid ((w.alloc (.cells #[.bool ok,.slice bL bM bo,.slice bG b5 bk,.slice bF n2 bg] 44)).heap[w.heap.size]?=some (.cells #[.bool ok,.slice bL bM bo,.slice bG b5 bk,.slice bF n2 bg] 44 (0,0))):=p0 _ _
  have hl:=Lib.hid m_;clear m_
  have hn:=Lib.hid na;clear na
  have fz:=Lib.hid pW;clear pW
  go_enter Tryz.func16,Tryz.ntmps16
  have IV:Hid (dC S (w.alloc (.cells #[.bool ok,.slice bL bM bo,.slice bG b5 bk,.slice bF n2 bg] 44)) (w.alloc (.cells #[.bool ok,.slice bL bM bo,.slice bG b5 bk,.slice bF n2 bg] 44))):=dC.refl _ _
  have o8:Hid (0≤k∧k+(ag:Nat)≤4611686018427387904):=by unfold Hid;omega
  go_wp2_with (go_at_call 61;refine(Nx _ S _ _ _ (hl.out.e8 jQ.out) o8.out.1 o8.out.2).mono ?_)
  first
  | (rintro e bn rfl hb)
  | (rintro e bn ⟨rfl,hb⟩)
  have nK:=Lib.hid (IV.out.trans hb);clear hb
  have rP:bn.cell? ⟨w.heap.size,2,none⟩=some (.slice bG b5 bk):=nK.out.head ss.out rfl
  have o9:Hid (0≤k+(ag:Nat)∧k+(ag:Nat)+(a6:Nat)≤4611686018427387904):=by unfold Hid;omega
  go_wp2_with (go_at_call 62;refine(akp _ S _ _ _ (hn.out.e8 (jQ.out.trans nK.out)) o9.out.1 o9.out.2).mono ?_)
  first
  | (rintro e bK rfl hb)
  | (rintro e bK ⟨rfl,hb⟩)
  have nL:=Lib.hid (nK.out.trans hb);clear hb rP
  have ub:bK.cell? ⟨w.heap.size,3,none⟩=some (.slice bF n2 bg):=nL.out.head ss.out rfl
  have kv:Hid (0≤k+(ag:Nat)+(a6:Nat)∧k+(ag:Nat)+(a6:Nat)+(bx:Nat)≤4611686018427387904):=by unfold Hid;omega
  go_wp2_with (go_at_call 63;refine(akn _ S _ _ _ (fz.out.e8 (jQ.out.trans nL.out)) kv.out.1 kv.out.2).mono ?_)
  first
  | (rintro e da rfl hb)
  | (rintro e da ⟨rfl,hb⟩)
  have w3:=Lib.hid (nL.out.trans hb);clear hb ub
  go_wp2
  go_ret
  exact⟨rfl,jQ.out.trans w3.out⟩
end Go.Proofs.YtejmihecgodhnaaGreat.Fw
set_option linter.unusedVariables false
set_option maxRecDepth 100000
set_option maxHeartbeats 4000000
set_option linter.unusedSimpArgs false
namespace Go.Proofs.YtejmihecgodhnaaGreat.Fw
open Go
attribute [local irreducible] evS evSD WpS Weak Oper.looksAt
section
variable (a0 J:bP) (aa:Bool)
def VI:Prop:=
 ((a0.c6 !=J.c6)=true→false=aa)∧((!(a0.c6 !=J.c6))=true→((a0.bA !=J.bA)=true→false=aa)∧((!(a0.bA !=J.bA))=true→true=aa))
theorem aiO:bf Tryz.prog 101 [.agg (bh a0),.agg (bh J)] (aq (eqv a0 J)):=(fun(h:VI a0 J (eqv a0 J))=>bf.run (ps:=[.dx,.dx]) (rs:=[.bool]) (x:=(a0,J,())) (r:=((eqv a0 J),())) ⟨15,c5,[]⟩ ⟨[],[],[],[],[]⟩ .nil Tryz.func101 h) (by
 unfold VI
 obtain⟨c,p⟩:=a0
 obtain⟨ct,A6⟩:=J
 simp[eqv]
 intros
 simp_all)
def aiP:dl Tryz.prog:=⟨101,[.dx,.dx],[.bool],none,fun x=>((eqv x.1 x.2.1),()),fun x h=>aiO x.1 x.2.1⟩
end
section
variable (ad:Int→Prop) (ag:Int→Nat) (a0 J:(List bP)) (aa:Bool)
def aiM:List Item:=(List.range 10).map cS
def aiN:List (List Nat):=[[],[],[0,1],[0,1,2],[],[],[4,5],[4,5,6],rg 0 8,rg 0 9]
def VH:Prop:=
  ((a0.length≤4611686018427387904)∧(J.length≤4611686018427387904)→((a0.length:Int) !=(J.length:Int))=true→false=aa)∧((a0.length≤4611686018427387904)∧(J.length≤4611686018427387904)∧((!((a0.length:Int) !=(J.length:Int)))=true)→ad 0∧ ∀(v5:Int),ad v5→(((decide (v5<(a0.length:Int)))=false→true=aa)∧((decide (v5<(a0.length:Int)))=true→(((0≤v5∧v5.toNat<a0.length)∧(0≤v5∧v5.toNat<J.length))∧((!(eqv (nth a0 v5) (nth J v5)))=true→false=aa))∧((!(!(eqv (nth a0 v5) (nth J v5))))=true→ad (IntKind.i64.wrap (v5+1))∧ag (IntKind.i64.wrap (v5+1))<ag v5))))
def VG (a0:(List bP)) (J:(List bP)) (aa:Bool) (ad:Int→Prop) (ag:Int→Nat):Prop:=
 VH ad ag a0 J aa
theorem aiK:bf Tryz.prog 56 [bB bh a0,bB bh J] (aq (eqv a0 J)):=(fun(ad:Int→Prop) (ag:Int→Nat) (h:VG a0 J (eqv a0 J) ad ag)=>bf.run (ps:=[(.l .dx),(.l .dx)]) (rs:=[.bool]) (x:=(a0,J,())) (r:=((eqv a0 J),())) ⟨27,c5,[aiP]⟩ ⟨[13],[(6,aiM,aiN)],[],[],[]⟩ (eY [0,1] [] 5 ad ag fun _=> .nil) Tryz.func56 h) (cq a0.length (fun v=> !(eqv (nth a0 v) (nth J v)))) (cI a0.length) (by
 unfold VG VH
 exact sI (ne:=fun v=> !(eqv (nth a0 v) (nth J v))) (fun v=>by simp[eqv]))
def aiL:dl Tryz.prog:=⟨56,[(.l .dx),(.l .dx)],[.bool],none,fun x=>((eqv x.1 x.2.1),()),fun x h=>aiK x.1 x.2.1⟩
end
section
variable (a0 J:av) (aa:Bool)
def Vx:Prop:=
  ((a0.aJ !=J.aJ)=true→false=aa)∧((!(a0.aJ !=J.aJ))=true→((a0.ba !=J.ba)=true→false=aa)∧((!(a0.ba !=J.ba))=true→((!(eqv a0.ae J.ae))=true→false=aa)∧((!(!(eqv a0.ae J.ae)))=true→((a0.bS !=J.bS)=true→false=aa)∧((!(a0.bS !=J.bS))=true→((a0.bR !=J.bR)=true→false=aa)∧((!(a0.bR !=J.bR))=true→true=aa)))))
def Vw:Prop:=
 Vx a0 J aa
theorem aiy:bf Tryz.prog 102 [.agg (e3 false a0),.agg (e3 false J)] (aq (eqv a0 J)):=(fun(h:Vw a0 J (eqv a0 J))=>bf.run (ps:=[.held,.held]) (rs:=[.bool]) (x:=(a0,J,())) (r:=((eqv a0 J),())) ⟨31,c5,[Na]⟩ ⟨[],[],[],[],[]⟩ .nil Tryz.func102 h) (by
 unfold Vw Vx
 obtain⟨a,b,c,d,e⟩:=a0
 obtain⟨hL,bU,ct,CQ,bZ⟩:=J
 simp[eqv]
 refine⟨fun h h1=>absurd h1 h,fun h=>⟨fun k _ dA=>absurd dA k,?_⟩⟩
 intros
 simp_all)
def aiz:dl Tryz.prog:=⟨102,[.held,.held],[.bool],none,fun x=>((eqv x.1 x.2.1),()),fun x h=>aiy x.1 x.2.1⟩
end
section
variable (ad:Int→Prop) (ag:Int→Nat) (a0 J:(List av)) (aa:Bool)
def aiw:List Item:=(List.range 10).map cS
def aix:List (List Nat):=[[],[],[0,1],[0,1,2],[],[],[4,5],[4,5,6],rg 0 8,rg 0 9]
def Vv:Prop:=
  ((a0.length≤4611686018427387904)∧(J.length≤4611686018427387904)→((a0.length:Int) !=(J.length:Int))=true→false=aa)∧((a0.length≤4611686018427387904)∧(J.length≤4611686018427387904)∧((!((a0.length:Int) !=(J.length:Int)))=true)→ad 0∧ ∀(v5:Int),ad v5→(((decide (v5<(a0.length:Int)))=false→true=aa)∧((decide (v5<(a0.length:Int)))=true→(((0≤v5∧v5.toNat<a0.length)∧(0≤v5∧v5.toNat<J.length))∧((!(eqv (nth a0 v5) (nth J v5)))=true→false=aa))∧((!(!(eqv (nth a0 v5) (nth J v5))))=true→ad (IntKind.i64.wrap (v5+1))∧ag (IntKind.i64.wrap (v5+1))<ag v5))))
def Vu (a0:(List av)) (J:(List av)) (aa:Bool) (ad:Int→Prop) (ag:Int→Nat):Prop:=
 Vv ad ag a0 J aa
theorem aiu:bf Tryz.prog 57 [bB (e3 false) a0,bB (e3 false) J] (aq (eqv a0 J)):=(fun(ad:Int→Prop) (ag:Int→Nat) (h:Vu a0 J (eqv a0 J) ad ag)=>bf.run (ps:=[(.l .held),(.l .held)]) (rs:=[.bool]) (x:=(a0,J,())) (r:=((eqv a0 J),())) ⟨27,c5,[aiz]⟩ ⟨[13],[(6,aiw,aix)],[],[],[]⟩ (eY [0,1] [] 5 ad ag fun _=> .nil) Tryz.func57 h) (cq a0.length (fun v=> !(eqv (nth a0 v) (nth J v)))) (cI a0.length) (by
 unfold Vu Vv
 exact sI (ne:=fun v=> !(eqv (nth a0 v) (nth J v))) (fun v=>by simp[eqv]))
def aiv:dl Tryz.prog:=⟨57,[(.l .held),(.l .held)],[.bool],none,fun x=>((eqv x.1 x.2.1),()),fun x h=>aiu x.1 x.2.1⟩
end
section
variable (a0 J:Frame) (aa:Bool)
def Vs:Prop:=
 ((a0.ok !=J.ok)=true→false=aa)∧((!(a0.ok !=J.ok))=true→((!(eqv a0.aB J.aB))=true→false=aa)∧((!(!(eqv a0.aB J.aB)))=true→((!(eqv a0.au J.au))=true→false=aa)∧((!(!(eqv a0.au J.au)))=true→((!(eqv a0.O J.O))=true→false=aa)∧((!(!(eqv a0.O J.O)))=true→true=aa))))
theorem Vt:bf Tryz.prog 14 [.agg (b9 false a0),.agg (b9 false J)] (aq (eqv a0 J)):=(fun(h:Vs a0 J (eqv a0 J))=>bf.run (ps:=[.frame,.frame]) (rs:=[.bool]) (x:=(a0,J,())) (r:=((eqv a0 J),())) ⟨28,c5,[Na,aiL,aiv]⟩ ⟨[],[],[],[],[]⟩ .nil Tryz.func14 h) (by
 unfold Vs
 obtain⟨a,b,c,d⟩:=a0
 obtain⟨hL,bU,ct,CQ⟩:=J
 simp[eqv]
 refine⟨fun h h1=>absurd h1 h,fun h=>⟨fun k _ dA=>absurd dA k,?_⟩⟩
 intros
 simp_all)
def ait:dl Tryz.prog:=⟨14,[.frame,.frame],[.bool],none,fun x=>((eqv x.1 x.2.1),()),fun x h=>Vt x.1 x.2.1⟩
end
section
variable (a0:(List bP)) (J aa:Int)
def V0:Prop:=
 a0.length≤4611686018427387904→((decide ((IntKind.i64.wrap (J - (a0.length:Int)))<0))=true→(-1)=aa)∧((!(decide ((IntKind.i64.wrap (J - (a0.length:Int)))<0)))=true→(IntKind.i64.wrap (J - (a0.length:Int)))=aa)
theorem ai8 (ab:gS a0 J):bf Tryz.prog 38 [bB bh a0,ai J] (ai (eA a0 J)):=(fun(h:V0 a0 J (eA a0 J))=>bf.run (ps:=[(.l .dx),.int]) (rs:=[.int]) (x:=(a0,J,())) (r:=((eA a0 J),())) ⟨12,c5,[]⟩ ⟨[],[],[],[],[]⟩ .nil Tryz.func38 h) (by
 unfold V0
 exact fun af=>Is ab af)
def ai9:dl Tryz.prog:=⟨38,[(.l .dx),.int],[.int],some fun x=>gS x.1 x.2.1,fun x=>((eA x.1 x.2.1),()),fun x h=>ai8 x.1 x.2.1 h⟩
end
section
variable (a0:av) (J aa:Int)
def VU:Prop:=
 (gS a0.ae J)∧(((decide ((eA a0.ae J)<0))=true→(-1)=aa)∧((!(decide ((eA a0.ae J)<0)))=true→(eA a0.ae J)=aa))
theorem ai2 (ab:gS a0 J):bf Tryz.prog 86 [.agg (e3 false a0),ai J] (ai (tw a0 J)):=(fun(h:VU a0 J (tw a0 J))=>bf.run (ps:=[.held,.int]) (rs:=[.int]) (x:=(a0,J,())) (r:=((tw a0 J),())) ⟨12,c5,[Nb]⟩ ⟨[],[],[],[],[]⟩ .nil Tryz.func86 h) (by
 unfold VU tw eA
 have ab:0≤J∧J≤1048576:=ab
 exact⟨ab,rj (m:=0) ab (by omega) fun c k=>rfl⟩)
def ai3:dl Tryz.prog:=⟨86,[.held,.int],[.int],some fun x=>gS x.1 x.2.1,fun x=>((tw x.1 x.2.1),()),fun x h=>ai2 x.1 x.2.1 h⟩
end
section
variable (ad:Int→Int→Prop) (ag:Int→Int→Nat) (a0:(List av)) (aa v1 v5:Int)
def VT:Prop:=
  ((decide (v5<(a0.length:Int)))=false→v1=aa)∧((decide (v5<(a0.length:Int)))=true→(((0≤v5∧v5.toNat<a0.length)∧(gS (nth a0 v5) v1))∧((decide ((tw (nth a0 v5) v1)<0))=true→(-1)=aa))∧((!(decide ((tw (nth a0 v5) v1)<0)))=true→ad (tw (nth a0 v5) v1) (IntKind.i64.wrap (v5+1))∧ag (tw (nth a0 v5) v1) (IntKind.i64.wrap (v5+1))<ag v1 v5))
def VS (a0:(List av)) (J:Int) (aa:Int) (ad:Int→Int→Prop) (ag:Int→Int→Nat):Prop:=
 a0.length≤4611686018427387904→((decide ((IntKind.i64.wrap (J - (a0.length:Int)))<0))=true→(-1)=aa)∧((!(decide ((IntKind.i64.wrap (J - (a0.length:Int)))<0)))=true→ad (IntKind.i64.wrap (J - (a0.length:Int))) 0∧ ∀(v1:Int) (v5:Int),ad v1 v5→(VT ad ag a0 aa v1 v5))
theorem ai0 (a0:(List av)) (J:Int) (ab:gS a0 J):bf Tryz.prog 39 [bB (e3 false) a0,ai J] (ai (wQ a0 J)):=(fun(ad:Int→Int→Prop) (ag:Int→Int→Nat) (h:VS a0 J (wQ a0 J) ad ag)=>bf.run (ps:=[(.l .held),.int]) (rs:=[.int]) (x:=(a0,J,())) (r:=((wQ a0 J),())) ⟨27,c5,[ai3]⟩ ⟨[14],[],[],[],[]⟩ (.lp [] [0] [] [.int,.int] [1,5] (fun aL=>[(1,.i .i64 aL.1),(5,.i .i64 aL.2.1)]) (fun aL=>ad aL.1 aL.2.1) (fun aL=>ag aL.1 aL.2.1) fun _=> .nil) Tryz.func39 h) (BU a0 (fun h=>h.ae.length) J) (BV a0) (by
 unfold VS VT
 exact fun af=>Qa (g:=tw) (fun _ _=>rfl) ab af)
def ai1:dl Tryz.prog:=⟨39,[(.l .held),.int],[.int],some fun x=>gS x.1 x.2.1,fun x=>((wQ x.1 x.2.1),()),fun x h=>ai0 x.1 x.2.1 h⟩
end
section
variable (a0:Frame) (J aa:Int)
abbrev yf:=eA a0.au (eA a0.aB J)
def VR:Prop:=
  ((decide ((yf a0 J)<0))=true→(-1)=aa)∧((!(decide ((yf a0 J)<0)))=true→(gS a0.O (yf a0 J))∧(((decide ((wQ a0.O (yf a0 J))<0))=true→(-1)=aa)∧((!(decide ((wQ a0.O (yf a0 J))<0)))=true→(wQ a0.O (yf a0 J))=aa)))
def VQ:Prop:=
 (gS a0.aB J)∧(((decide ((eA a0.aB J)<0))=true→(-1)=aa)∧((!(decide ((eA a0.aB J)<0)))=true→(gS a0.au (eA a0.aB J))∧(VR a0 J aa)))
theorem aiZ (ab:gS a0 J):bf Tryz.prog 7 [.agg (b9 false a0),ai J] (ai (u5 a0 J)):=(fun(h:VQ a0 J (u5 a0 J))=>bf.run (ps:=[.frame,.int]) (rs:=[.int]) (x:=(a0,J,())) (r:=((u5 a0 J),())) ⟨24,c5,[Nb,ai9,ai1]⟩ ⟨[],[],[],[],[]⟩ .nil Tryz.func7 h) (by
 unfold VQ VR yf u5 rG eA wQ
 have ab:0≤J∧J≤1048576:=ab
 refine⟨ab,rj (m:=a0.au.length+xE a0.O) ab (by omega) fun c k=>⟨k,?_⟩⟩
 rw[uH ab.1 c]
 refine rj (m:=xE a0.O) ab (by omega) fun c k=>⟨k,?_⟩
 rw[uH ab.1 c]
 exact rj (m:=0) ab (by omega) fun c k=>rfl)
end
section
variable (a0 aa:bP)
def ajx:Prop:=
 (a0.c6=aa.c6)∧(a0.bA=aa.bA)
theorem ajy:bf Tryz.prog 91 [.agg (bh a0)] (.agg (bh (aK a0))):=(fun(h:ajx a0 (aK a0))=>bf.run (ps:=[.dx]) (rs:=[.dx]) (x:=(a0,())) (r:=((aK a0),())) ⟨11,c5,[]⟩ ⟨[],[],[],[],[]⟩ .nil Tryz.func91 h) (by
 exact⟨rfl,rfl⟩)
def ajz:dl Tryz.prog:=⟨91,[.dx],[.dx],none,fun x=>((aK x.1),()),fun x h=>ajy x.1⟩
end
section
variable (ad:(List bP)→Int→Prop) (ag:(List bP)→Int→Nat) (a0 aa:(List bP))
def Wm:Prop:=
  ad (List.replicate (a0.length:Int).toNat ({c6:=(0:Int),bA:=(0:Int)}:bP)) 0∧ ∀(aF:(List bP)) (v4:Int),ad aF v4→(((decide (v4<(a0.length:Int)))=false→aF.length≤4611686018427387904∧aF=aa)∧((decide (v4<(a0.length:Int)))=true→((0≤v4∧v4.toNat<a0.length)∧((0≤v4∧v4.toNat<aF.length)∧(v4.toNat<aF.length)))∧(ad (aF.set v4.toNat (aK (nth a0 v4))) (IntKind.i64.wrap (v4+1))∧ag (aF.set v4.toNat (aK (nth a0 v4))) (IntKind.i64.wrap (v4+1))<ag aF v4)))
def Wl (a0:(List bP)) (aa:(List bP)) (ad:(List bP)→Int→Prop) (ag:(List bP)→Int→Nat):Prop:=
 (a0.length≤4611686018427387904→0≤(a0.length:Int)∧16*(a0.length:Int)≤140737488355328∧(a0.length:Int)≤4611686018427387904)∧(a0.length≤4611686018427387904→Wm ad ag a0 aa)
theorem ajv (ab:small a0):bf Tryz.prog 47 [bB bh a0] (pe bh (aK a0)):=(fun(ad:(List bP)→Int→Prop) (ag:(List bP)→Int→Nat) (h:Wl a0 (aK a0) ad ag)=>bf.run (ps:=[(.l .dx)]) (rs:=[(.l .dx)]) (x:=(a0,())) (r:=((aK a0),())) ⟨23,c5,[ajz]⟩ ⟨[10],[],[],[],[]⟩ (.lp [] [0] [] [(.l .dx),.int] [bI 0,4] (fun aL=>[(3,.ref 0 0 aL.1.length false),(4,.i .i64 aL.2.1),(bI 0,.blk 0 .dx aL.1 _ rfl)]) (fun aL=>ad aL.1 aL.2.1) (fun aL=>ag aL.1 aL.2.1) fun _=> .nil) Tryz.func47 h) (p9 a0 aK ({c6:=(0:Int),bA:=(0:Int)}:bP)) (qM a0) (by
 unfold Wl Wm
 have ab:a0.length≤1048576:=ab
 exact⟨fun af=>⟨dt _,by omega,by omega⟩,fun af=>F6 (f:=aK) af (DX _)⟩)
def ajw:dl Tryz.prog:=⟨47,[(.l .dx)],[(.l .dx)],some fun x=>small x.1,fun x=>((aK x.1),()),fun x h=>ajv x.1 h⟩
end
section
variable (a0 aa:av)
def ajl:Prop:=
 (small a0.ae)∧((a0.aJ=aa.aJ)∧(a0.ba=aa.ba)∧((aK a0.ae)=aa.ae)∧(a0.bS=aa.bS)∧(a0.bR=aa.bR))
theorem ajm (ab:Ex a0):bf Tryz.prog 92 [.agg (e3 false a0)] (.agg (e3 true (aK a0))):=(fun(h:ajl a0 (aK a0))=>bf.run (ps:=[.held]) (rs:=[.held]) (x:=(a0,())) (r:=((aK a0),())) ⟨21,c5,[Nc]⟩ ⟨[],[],[],[],[]⟩ .nil Tryz.func92 h) (by
 exact⟨ab,rfl,rfl,rfl,rfl,rfl⟩)
def ajn:dl Tryz.prog:=⟨92,[.held],[.held],some fun x=>Ex x.1,fun x=>((aK x.1),()),fun x h=>ajm x.1 h⟩
end
section
variable (ad:(List av)→Int→Prop) (ag:(List av)→Int→Nat) (a0 aa aF:(List av)) (v4:Int)
def Wd:Prop:=
  ((decide (v4<(a0.length:Int)))=false→aF.length≤4611686018427387904∧aF=aa)∧((decide (v4<(a0.length:Int)))=true→((0≤v4∧v4.toNat<a0.length)∧((Ex (nth a0 v4))∧((0≤v4∧v4.toNat<aF.length)∧(v4.toNat<aF.length))))∧(ad (aF.set v4.toNat (aK (nth a0 v4))) (IntKind.i64.wrap (v4+1))∧ag (aF.set v4.toNat (aK (nth a0 v4))) (IntKind.i64.wrap (v4+1))<ag aF v4))
def We:Prop:=
  (a0.length≤4611686018427387904→0≤(a0.length:Int)∧56*(a0.length:Int)≤140737488355328∧(a0.length:Int)≤4611686018427387904)∧(a0.length≤4611686018427387904→ad (List.replicate (a0.length:Int).toNat ({aJ:=(0:Int),ba:=(0:Int),ae:=([]:(List Bool)),bS:=false,bR:=(0:Int)}:av)) 0∧ ∀(aF:(List av)) (v4:Int),ad aF v4→(Wd ad ag a0 aa aF v4))
def Wc (a0:(List av)) (aa:(List av)) (ad:(List av)→Int→Prop) (ag:(List av)→Int→Nat):Prop:=
 We ad ag a0 aa
theorem ajj (ab:H4 a0):bf Tryz.prog 48 [bB (e3 false) a0] (pe (e3 false) (aK a0)):=(fun(ad:(List av)→Int→Prop) (ag:(List av)→Int→Nat) (h:Wc a0 (aK a0) ad ag)=>bf.run (ps:=[(.l .held)]) (rs:=[(.l .held)]) (x:=(a0,())) (r:=((aK a0),())) ⟨23,c5,[ajn]⟩ ⟨[10],[],[],[],[]⟩ (.lp [] [0] [] [(.l .held),.int] [bI 0,4] (fun aL=>[(3,.ref 0 0 aL.1.length false),(4,.i .i64 aL.2.1),(bI 0,.blk 0 .held aL.1 _ rfl)]) (fun aL=>ad aL.1 aL.2.1) (fun aL=>ag aL.1 aL.2.1) fun _=> .nil) Tryz.func48 h) (p9 a0 aK ({aJ:=(0:Int),ba:=(0:Int),ae:=([]:(List Bool)),bS:=false,bR:=(0:Int)}:av)) (qM a0) (by
 unfold Wc We Wd
 have ab:a0.length+(a0.map fun h=>h.ae.length).sum≤1048576:=ab
 refine⟨fun af=>⟨dt _,by omega,by omega⟩,fun af=>F5 (f:=aK) (φ:=fun v=>Ex (nth a0 v)) af (DX _) fun v _ hv=> ?_⟩
 have:=DY (fun h:av=>h.ae.length) (ee hv)
 unfold Ex;omega)
def ajk:dl Tryz.prog:=⟨48,[(.l .held)],[(.l .held)],some fun x=>H4 x.1,fun x=>((aK x.1),()),fun x h=>ajj x.1 h⟩
end
section
variable (a0 aa:Frame)
def Wb:Prop:=
 (small a0.aB)∧((small a0.au)∧((H4 a0.O)∧((a0.ok=aa.ok)∧((aK a0.aB)=aa.aB)∧((aK a0.au)=aa.au)∧((aK a0.O)=aa.O))))
theorem aji (ab:H3 a0):bf Tryz.prog 10 [.agg (b9 false a0)] (.agg (b9 true (aK a0))):=(fun(h:Wb a0 (aK a0))=>bf.run (ps:=[.frame]) (rs:=[.frame]) (x:=(a0,())) (r:=((aK a0),())) ⟨20,c5,[Nc,ajw,ajk]⟩ ⟨[],[],[],[],[]⟩ .nil Tryz.func10 h) (by
 have ab:a0.aB.length+a0.au.length+xE a0.O≤1048576:=ab
 unfold Wb small H4
 exact⟨by omega,by omega,by omega,rfl,rfl,rfl,rfl⟩)
end
end Go.Proofs.YtejmihecgodhnaaGreat.Fw
set_option linter.unusedVariables false
namespace Go.Proofs.YtejmihecgodhnaaGreat.Fw
open Go
end Go.Proofs.YtejmihecgodhnaaGreat.Fw
