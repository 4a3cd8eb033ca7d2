/- Walks and summaries of functions, printed by a program of mine (tools/mk2.py), with the proofs of what they owe. -/
import Derived.Test.YtglpfccgmfhkdaaM4
set_option linter.unusedVariables false
set_option maxRecDepth 100000
set_option maxHeartbeats 4000000
set_option linter.unusedSimpArgs false
namespace Go.Proofs.Ytglpfccgmfhkdaa.Fw
open Go
attribute [local irreducible] evS evSD WpS Weak Oper.looksAt
def Hm (ap:Int→Prop) (au:Int→Nat) (bj:Int→Int→Prop) (a7:Int→Int→Nat) (a0:(List Int)) (J:Int) (ah:Bool) (v10:Int):Prop:=
  ((!(cr (nth a0 v10) 0 (IntKind.i64.wrap (J - 1))))=true→false=ah)∧((!(!(cr (nth a0 v10) 0 (IntKind.i64.wrap (J - 1)))))=true→bj v10 0∧ ∀(gT:Int),bj v10 gT→(((decide (gT<v10))=false→ap (IntKind.i64.wrap (v10+1))∧au (IntKind.i64.wrap (v10+1))<au v10)∧((decide (gT<v10))=true→((0≤gT∧gT.toNat<a0.length)∧(((nth a0 gT)==(nth a0 v10))=true→false=ah))∧((!((nth a0 gT)==(nth a0 v10)))=true→bj v10 (IntKind.i64.wrap (gT+1))∧a7 v10 (IntKind.i64.wrap (gT+1))<a7 v10 gT))))
def Hl (a0:(List Int)) (J:Int) (ah:Bool) (ap:Int→Prop) (au:Int→Nat) (bj:Int→Int→Prop) (a7:Int→Int→Nat):Prop:=
 a0.length≤4611686018427387904→ap 0∧ ∀(v10:Int),ap v10→(((decide (v10<(a0.length:Int)))=false→(decide ((a0.length:Int)≤30))=ah)∧((decide (v10<(a0.length:Int)))=true→(0≤v10∧v10.toNat<a0.length)∧(Hm ap au bj a7 a0 J ah v10)))
theorem RG (a0:(List Int)) (J:Int) (ab:sc a0 J):bh Try.prog 126 [b_ c1 a0,aG J] (aP (eY a0 J)):=(fun(ap:Int→Prop) (au:Int→Nat) (bj:Int→Int→Prop) (a7:Int→Int→Nat) (h:Hl a0 J (eY a0 J) ap au bj a7)=>bh.run (ps:=[(.l .int),.int]) (rs:=[.bool]) (x:=(a0,J,())) (r:=((eY a0 J),())) ⟨35,dm,[Ao]⟩ ⟨[33],[],[],[],[]⟩ (fb [0,1,8,9] [] 10 ap au fun bi=>(fb [0,1,5,6,8,9,10] [] 7 (bj bi) (a7 bi) fun _=> .nil)) Try.func126 h) (c5 a0.length (fun j=> !cr (nth a0 j) 0 (J - 1) || eK (a0.take j.toNat) (nth a0 j))) (dD a0.length) (fun v=>c5 v (fun k=>nth a0 k==nth a0 v)) (fun v=>dD v) (by
 have ab: -9223372036854775808<J∧J≤9223372036854775807:=ab
 unfold Hl Hm
 intro af
 refine⟨fp (ep _),fun v bK=>⟨fun hv=> ?_,fun hv=>⟨ea bK hv,?_⟩⟩⟩
 ·exact(FB 30).trans (Py (hq bK hv)).symm
 ·have hi:=ea bK hv
  rw[o2 (by omega) (by omega)]
  refine⟨fun h=>(Fe hi.2 h).symm,fun aa=>⟨fp bK.1,fun k hK=>⟨fun hk=> ?_,fun hk=> ?_⟩⟩⟩
  ·refine eM (eR af) bK hv ?_
   rw[L4 bK.1 (by simpa using hv) (hq hK hk),Bool.or_false]
   exact not_eq aa
  ·have iF:k<v:=by simpa using hk
   have:=hK.1
   exact⟨⟨⟨by omega,by omega⟩,fun he=>(Px hK.1 iF (by omega) he).symm⟩,fun he=>eM (by omega) hK hk (not_eq he)⟩)
def RH:c_ Try.prog:=⟨126,[(.l .int),.int],[.bool],some fun x=>sc x.1 x.2.1,fun x=>((eY x.1 x.2.1),()),fun x h=>RG x.1 x.2.1 h⟩
def RE:List Item:=[az 0,az 1,az 2,az 3,az 4,az 5,az 6,az 7]
def RF:List (List Nat):=[[],[],[0,1],[0,1,2],rg 0 4,[],[5],rg 0 7]
def Hj (ap:Int→Prop) (au:Int→Nat) (bj:Int→Int→Prop) (a7:Int→Int→Nat) (J:(List cm)) (ah:Bool) (v10:Int):Prop:=
  bj v10 0∧ ∀(gT:Int),bj v10 gT→(((decide (gT<v10))=false→ap (IntKind.i64.wrap (v10+1))∧au (IntKind.i64.wrap (v10+1))<au v10)∧((decide (gT<v10))=true→((0≤gT∧gT.toNat<J.length)∧(((nth J gT).bE==(nth J v10).bE)=true→false=ah))∧((!((nth J gT).bE==(nth J v10).bE))=true→bj v10 (IntKind.i64.wrap (gT+1))∧a7 v10 (IntKind.i64.wrap (gT+1))<a7 v10 gT)))
def Hk (ap:Int→Prop) (au:Int→Nat) (bj:Int→Int→Prop) (a7:Int→Int→Nat) (a0:aS) (J:(List cm)) (ah:Bool) (v10:Int):Prop:=
  (a0.aR.length≤4611686018427387904→((!(cr (nth J v10).bE 0 (IntKind.i64.wrap ((a0.aR.length:Int) - 1)))) || (!(cr (nth J v10).bZ 1 2)))=true→false=ah)∧((a0.aR.length≤4611686018427387904)∧((!((!(cr (nth J v10).bE 0 (IntKind.i64.wrap ((a0.aR.length:Int) - 1)))) || (!(cr (nth J v10).bZ 1 2))))=true)→Hj ap au bj a7 J ah v10)
def Hi (a0:aS) (J:(List cm)) (ah:Bool) (ap:Int→Prop) (au:Int→Nat) (bj:Int→Int→Prop) (a7:Int→Int→Nat):Prop:=
 J.length≤4611686018427387904→ap 0∧ ∀(v10:Int),ap v10→(((decide (v10<(J.length:Int)))=false→(decide ((J.length:Int)≤30))=ah)∧((decide (v10<(J.length:Int)))=true→(0≤v10∧v10.toNat<J.length)∧(Hk ap au bj a7 a0 J ah v10)))
theorem RC (a0:aS) (J:(List cm)):bh Try.prog 127 [.agg (bT false a0),b_ cK J] (aP (il a0 J)):=(fun(ap:Int→Prop) (au:Int→Nat) (bj:Int→Int→Prop) (a7:Int→Int→Nat) (h:Hi a0 J (il a0 J) ap au bj a7)=>bh.run (ps:=[.fe,(.l .bZ)]) (rs:=[.bool]) (x:=(a0,J,())) (r:=((il a0 J),())) ⟨46,dm,[Ao]⟩ ⟨[44],[(9,RE,RF)],[],[],[]⟩ (fb [1,2,8,9] [(2,5)] 10 ap au fun bi=>(fb [1,2,5,6,8,9,10] [(6,2),(2,5)] 7 (bj bi) (a7 bi) fun _=> .nil)) Try.func127 h) (c5 J.length (fun j=>kr a0 (nth J j) || rX J j)) (dD J.length) (fun v=>c5 v (fun k=>(nth J k).bE==(nth J v).bE)) (fun v=>dD v) (by
 unfold Hi Hk Hj
 intro af
 refine⟨fp (ep _),fun v bK=>⟨fun hv=> ?_,fun hv=>⟨ea bK hv,?_⟩⟩⟩
 ·exact(FB 30).trans (Pv (hq bK hv)).symm
 ·have hi:=ea bK hv
  refine⟨fun hs h=> ?_,fun⟨hs,aa⟩=>⟨fp bK.1,fun k hK=>⟨fun hk=> ?_,fun hk=> ?_⟩⟩⟩
  ·rw[o2 (by omega) (by omega)] at h
   exact(Pw hi.2 h).symm
  ·rw[o2 (by omega) (by omega)] at aa
   refine eM (eR af) bK hv ?_
   rw[Pt bK.1 (by simpa using hv) (hq hK hk),Bool.or_false]
   exact not_eq aa
  ·have iF:k<v:=by simpa using hk
   have:=hK.1
   exact⟨⟨⟨by omega,by omega⟩,fun he=>(Pu hK.1 iF (by omega) he).symm⟩,fun he=>eM (by omega) hK hk (not_eq he)⟩)
def RD:c_ Try.prog:=⟨127,[.fe,(.l .bZ)],[.bool],none,fun x=>((il x.1 x.2.1),()),fun x h=>RC x.1 x.2.1⟩
def RN:List Item:=[az 0,az 1,az 2,az 3,az 4,az 5,az 6,az 7,az 8,az 9,az 10]
def RO:List (List Nat):=[[],[0],[],[2],rg 0 4,rg 0 5,rg 0 6,[],[7],rg 0 9,rg 0 10]
def Hr (ap:Int→Prop) (au:Int→Nat) (bj:Int→Int→Prop) (a7:Int→Int→Nat) (a0:aS) (J:Way) (ah:Bool) (kC gS:Int):Prop:=
  ((decide (kC<(J.ca.length:Int)))=false→(0≤(nth J.bA gS).bE∧(nth J.bA gS).bE.toNat<a0.aR.length)∧(((!(meets [(nth a0.aR (nth J.bA gS).bE)] J.ae))=true→false=ah)∧((!(meets [(nth a0.aR (nth J.bA gS).bE)] J.ae))=false→ap (IntKind.i64.wrap (gS+1))∧au (IntKind.i64.wrap (gS+1))<au gS)))∧((decide (kC<(J.ca.length:Int)))=true→((0≤kC∧kC.toNat<J.ca.length)∧(((nth J.bA gS).bE==(nth J.ca kC).bE)=true→false=ah))∧((!((nth J.bA gS).bE==(nth J.ca kC).bE))=true→bj gS (IntKind.i64.wrap (kC+1))∧a7 gS (IntKind.i64.wrap (kC+1))<a7 gS kC))
def Hs (ap:Int→Prop) (au:Int→Nat) (bj:Int→Int→Prop) (a7:Int→Int→Nat) (a0:aS) (J:Way) (ah:Bool):Prop:=
  ((J.ae.length≤4611686018427387904→((J.ae.length:Int)==0)=false→(sc J.ae a0.ae)∧((!(eY J.ae a0.ae))=false→(sc J.b8 a0.ae)∧((!(eY J.b8 a0.ae))=false→sc J.ct a0.ae)))∧(J.ae.length≤4611686018427387904→(((J.ae.length:Int)==0) || ((!(eY J.ae a0.ae)) || ((!(eY J.b8 a0.ae)) || ((!(eY J.ct a0.ae)) || ((!(il a0 J.bA)) || (!(il a0 J.ca)))))))=true→false=ah))∧((J.ae.length≤4611686018427387904)∧((!(((J.ae.length:Int)==0) || ((!(eY J.ae a0.ae)) || ((!(eY J.b8 a0.ae)) || ((!(eY J.ct a0.ae)) || ((!(il a0 J.bA)) || (!(il a0 J.ca))))))))=true)→J.bA.length≤4611686018427387904→ap 0∧ ∀(gS:Int),ap gS→(((decide (gS<(J.bA.length:Int)))=false→(!(meets J.b8 J.ae))=ah)∧((decide (gS<(J.bA.length:Int)))=true→(0≤gS∧gS.toNat<J.bA.length)∧(J.ca.length≤4611686018427387904→bj gS 0∧ ∀(kC:Int),bj gS kC→(Hr ap au bj a7 a0 J ah kC gS)))))
def Hq (a0:aS) (J:Way) (ah:Bool) (ap:Int→Prop) (au:Int→Nat) (bj:Int→Int→Prop) (a7:Int→Int→Nat):Prop:=
 Hs ap au bj a7 a0 J ah
theorem RL (a0:aS) (J:Way) (ab:zB a0 J):bh Try.prog 68 [.agg (bT false a0),.agg (cE false J)] (aP (fq a0 J)):=(fun(ap:Int→Prop) (au:Int→Nat) (bj:Int→Int→Prop) (a7:Int→Int→Nat) (h:Hq a0 J (fq a0 J) ap au bj a7)=>bh.run (ps:=[.fe,.cN]) (rs:=[.bool]) (x:=(a0,J,())) (r:=((fq a0 J),())) ⟨89,dm,[RH,RD,Hp]⟩ ⟨[],[(12,RN,RO)],[],[],[]⟩ (fb [2,3,52,53] [(3,5),(2,5)] 54 ap au fun bi=>(fb [2,3,6,52,53,54,59,60] [(6,2),(3,5),(2,5)] 61 (bj bi) (a7 bi) fun _=> .nil)) Try.func68 h) (c5 J.bA.length (fun j=>J.ca.any (fun y=>(nth J.bA j).bE==y.bE) || !(J.ae.contains (nth a0.aR (nth J.bA j).bE)))) (dD J.bA.length) (fun v=>c5 J.ca.length (fun k=>(nth J.bA v).bE==(nth J.ca k).bE)) (fun v=>dD J.ca.length) (by
 unfold Hq Hs Hr
 refine⟨⟨fun _ _=>⟨ab,fun _=>⟨ab,fun _=>ab⟩⟩,fun af h=> ?_⟩,fun⟨af,h⟩ ak=> ?_⟩
 ·symm
  rw[←Bool.not_eq_true,mP]
  rintro⟨h1,h2,ao,a8,cw,cZ,-⟩
  have an:J.ae.length≠0:=fun e=>h1 (List.eq_nil_of_length_eq_zero e)
  simp only[h2,ao,a8,cw,cZ,Bool.not_true,Bool.or_false] at h
  simp at h
  exact h1 h
 ·simp only[Bool.not_eq_true',Bool.or_eq_false_iff,Bool.not_eq_false'] at h
  obtain⟨h1,h2,ao,a8,cw,cZ⟩:=h
  have h1:J.ae≠[]:=fun e=>by rw[e] at h1;simp at h1
  have Dh:=jX.1 cw
  have MB:=jX.1 cZ
  refine⟨fp (ep _),fun v bK=>⟨fun hv=> ?_,fun hv=>⟨ea bK hv,fun hf=>⟨fp (ep _),fun k hK=>⟨fun hk=> ?_,fun hk=>⟨⟨ea hK hk,fun he=> ?_⟩,fun he=>eM (eR hf) hK hk (not_eq he)⟩⟩⟩⟩⟩⟩
  ·have ew:=hq bK hv
   have aL:((cB J).map (·.bE)).Nodup:=by
    rw[zl]
    refine⟨Dh.2.2,MB.2.2,fun x hx y ax he=> ?_⟩
    have:=kB (q:=fun x=>J.ca.any (fun y=>x.bE==y.bE) || !(J.ae.contains (nth a0.aR x.bE))) ew x hx
    simp only[Bool.or_eq_false_iff] at this
    have:=this.1
    rw[List.any_eq_false] at this
    exact this y ax (by simpa using he)
   have hc: ∀x∈J.bA,J.ae.contains (nth a0.aR x.bE)=true:=fun x hx=>by
    have:=kB (q:=fun x=>J.ca.any (fun y=>x.bE==y.bE) || !(J.ae.contains (nth a0.aR x.bE))) ew x hx
    simp only[Bool.or_eq_false_iff] at this
    simpa using this.2
   rw[PQ,Bool.eq_iff_iff,mP]
   constructor
   ·intro hm;exact⟨h1,h2,ao,a8,cw,cZ,aL,hc,by simpa using hm⟩
   ·rintro⟨-,-,-,-,-,-,-,-,hm⟩;rw[hm];rfl
  ·have iE:=Dh.2.1 _ (iL (ea bK hv).2)
   rw[Bool.and_eq_true,yQ] at iE
   refine⟨⟨iE.1.1,by omega⟩,fun hm=> ?_,fun hm=> ?_⟩
   ·symm
    rw[←Bool.not_eq_true,mP]
    rintro⟨-,-,-,-,-,-,-,hc,-⟩
    rw[Fs,hc _ (iL (ea bK hv).2)] at hm
    cases hm
   ·refine eM (eR ak) bK hv ?_
    rw[Fs] at hm
    rw[hm,Bool.or_false]
    have:=kB (q:=fun y:cm=>(nth J.bA v).bE==y.bE) (hq hK hk)
    rw[List.any_eq_false]
    intro y ax
    rw[this y ax];simp
  ·symm
   rw[←Bool.not_eq_true,mP]
   rintro⟨-,-,-,-,-,-,aL,-,-⟩
   exact(zl.1 aL).2.2 _ (iL (ea bK hv).2) _ (iL (ea hK hk).2) (by simpa using he))
def RM:c_ Try.prog:=⟨68,[.fe,.cN],[.bool],some fun x=>zB x.1 x.2.1,fun x=>((fq x.1 x.2.1),()),fun x h=>RL x.1 x.2.1 h⟩
def NT:List Item:=[az 0,az 1,az 2,az 3,az 4,az 5,az 6,az 7,az 8,az 9,az 10,az 11,az 12,az 13,az 14,az 15,az 16]
def NU:List (List Nat):=[[],[],[1],[1,2],rg 0 4,rg 0 5,rg 0 6,rg 0 7,rg 0 6,rg 0 6++[8],rg 0 6,rg 0 6++[10],rg 0 6++rg 8 12,rg 0 6++rg 8 13,rg 0 14,rg 0 15,rg 0 16]
def D1 (a0:aS) (J:Way) (ah:Bool) (bL:(List Int)) (dK:Int):Prop:=
  (((decide (dK<(J.bA.length:Int)))=true→0≤(nth (cB J) dK).bE∧(nth (cB J) dK).bE.toNat<a0.aR.length)∧(((decide (dK<(J.bA.length:Int)))&&(!(eK J.ae (nth a0.aR (nth (cB J) dK).bE))))=true→false=ah))∧((!((decide (dK<(J.bA.length:Int)))&&(!(eK J.ae (nth a0.aR (nth (cB J) dK).bE)))))=true→(bL.length+[(nth (cB J) dK).bE].length)*8≤140737488355328∧bL.length+[(nth (cB J) dK).bE].length≤4611686018427387904)
def D2 (a0:aS) (J:Way) (ah:Bool) (bL:(List Int)) (dK:Int):Prop:=
  (((decide ((nth (cB J) dK).bE<0)) || ((decide ((nth (cB J) dK).bE ≥ (a0.aR.length:Int))) || (((nth (cB J) dK).bZ !=1)&&((nth (cB J) dK).bZ !=2))))=true→false=ah)∧((!((decide ((nth (cB J) dK).bE<0)) || ((decide ((nth (cB J) dK).bE ≥ (a0.aR.length:Int))) || (((nth (cB J) dK).bZ !=1)&&((nth (cB J) dK).bZ !=2)))))=true→D1 a0 J ah bL dK)
abbrev l1 (r:Type):Type:=Int→Nat→(List Int)→Int→r
def D3 (bj:l1 Prop) (a7:l1 Nat) (a0:aS) (J:Way) (ah:Bool) (dJ:Int) (g0:Nat) (bL:(List Int)) (dK:Int):Prop:=
  ((0≤dK∧dK.toNat<(cB J).length)∧(D2 a0 J ah bL dK))∧(((!((decide ((nth (cB J) dK).bE<0)) || ((decide ((nth (cB J) dK).bE ≥ (a0.aR.length:Int))) || (((nth (cB J) dK).bZ !=1)&&((nth (cB J) dK).bZ !=2)))))&&(!((decide (dK<(J.bA.length:Int)))&&(!(eK J.ae (nth a0.aR (nth (cB J) dK).bE))))))=true→bj dJ (g0+1) (bL++[(nth (cB J) dK).bE]) (IntKind.i64.wrap (dK+1))∧a7 dJ (g0+1) (bL++[(nth (cB J) dK).bE]) (IntKind.i64.wrap (dK+1))<a7 dJ g0 bL dK)
def D4 (bj:l1 Prop) (a7:l1 Nat) (a0:aS) (J:Way) (ah:Bool) (dJ:Int):Prop:=
  (zA J)∧((cB J).length≤4611686018427387904→bj dJ 0 ([]:List Int) 0∧ ∀(g0:Nat) (bL:(List Int)) (dK:Int),bj dJ g0 bL dK→(((decide (dK<((cB J).length:Int)))=false→(bL.length≤4611686018427387904)∧(((!(dup bL))&&(!(meets J.ae J.b8)))=ah))∧((decide (dK<((cB J).length:Int)))=true→D3 bj a7 a0 J ah dJ g0 bL dK)))
def D5 (c6:Int→Int→Prop) (bO:Int→Int→Nat) (a0:aS) (J:Way) (ah:Bool) (v49 dJ:Int):Prop:=
  ((0≤v49∧v49.toNat<(nth [J.ae,J.b8,J.ct] dJ).length)∧(((decide ((nth (nth [J.ae,J.b8,J.ct] dJ) v49)<0)) || (decide ((nth (nth [J.ae,J.b8,J.ct] dJ) v49) ≥ a0.ae)))=true→false=ah))∧((!((decide ((nth (nth [J.ae,J.b8,J.ct] dJ) v49)<0)) || (decide ((nth (nth [J.ae,J.b8,J.ct] dJ) v49) ≥ a0.ae))))=true→c6 dJ (IntKind.i64.wrap (v49+1))∧bO dJ (IntKind.i64.wrap (v49+1))<bO dJ v49)
def D6 (ap:Int→Prop) (au:Int→Nat) (c6:Int→Int→Prop) (bO:Int→Int→Nat) (a0:aS) (J:Way) (ah:Bool) (dJ:Int):Prop:=
  ((nth [J.ae,J.b8,J.ct] dJ).length≤4611686018427387904→((decide (((nth [J.ae,J.b8,J.ct] dJ).length:Int)>30)) || (dup (nth [J.ae,J.b8,J.ct] dJ)))=true→false=ah)∧(((nth [J.ae,J.b8,J.ct] dJ).length≤4611686018427387904)∧((!((decide (((nth [J.ae,J.b8,J.ct] dJ).length:Int)>30)) || (dup (nth [J.ae,J.b8,J.ct] dJ))))=true)→c6 dJ 0∧ ∀(v49:Int),c6 dJ v49→(((decide (v49<((nth [J.ae,J.b8,J.ct] dJ).length:Int)))=false→ap (IntKind.i64.wrap (dJ+1))∧au (IntKind.i64.wrap (dJ+1))<au dJ)∧((decide (v49<((nth [J.ae,J.b8,J.ct] dJ).length:Int)))=true→D5 c6 bO a0 J ah v49 dJ)))
def D7 (ap:Int→Prop) (au:Int→Nat) (bj:l1 Prop) (a7:l1 Nat) (c6:Int→Int→Prop) (bO:Int→Int→Nat) (a0:aS) (J:Way) (ah:Bool):Prop:=
  (J.ae.length≤4611686018427387904→(((J.ae.length:Int)==0) || ((decide ((J.bA.length:Int)>30)) || (decide ((J.ca.length:Int)>30))))=true→false=ah)∧((J.ae.length≤4611686018427387904)∧((!(((J.ae.length:Int)==0) || ((decide ((J.bA.length:Int)>30)) || (decide ((J.ca.length:Int)>30)))))=true)→[J.ae,J.b8,J.ct].length≤4611686018427387904→ap 0∧ ∀(dJ:Int),ap dJ→(((decide (dJ<([J.ae,J.b8,J.ct].length:Int)))=false→D4 bj a7 a0 J ah dJ)∧((decide (dJ<([J.ae,J.b8,J.ct].length:Int)))=true→(0≤dJ∧dJ.toNat<[J.ae,J.b8,J.ct].length)∧(D6 ap au c6 bO a0 J ah dJ))))
def D0 (a0:aS) (J:Way) (ah:Bool) (ap:Int→Prop) (au:Int→Nat) (bj:l1 Prop) (a7:l1 Nat) (c6:Int→Int→Prop) (bO:Int→Int→Nat):Prop:=
 D7 ap au bj a7 c6 bO a0 J ah
theorem NR (a0:aS) (J:Way):bh Try.prog 73 [.agg (bT false a0),.agg (cE false J)] (aP (fq a0 J)):=(fun(ap:Int→Prop) (au:Int→Nat) (bj:l1 Prop) (a7:l1 Nat) (c6:Int→Int→Prop) (bO:Int→Int→Nat) (h:D0 a0 J (fq a0 J) ap au bj a7 c6 bO)=>bh.run (ps:=[.fe,.cN]) (rs:=[.bool]) (x:=(a0,J,())) (r:=((fq a0 J),())) ⟨126,dm,[NH,NO,DW,Ae]⟩ ⟨[48],[(21,NT,NU)],[],[],[]⟩ (fb [2,3,34,35] [(3,5),(2,5)] 36 ap au fun bi=>(.wH (.lp [(0,9,.int)] [2,3,64,65] [(3,5),(2,5)] [.nat,(.l .int),.int] [bc 0,bc 0,66] (fun bX=>[(9,.ref 0 bX.1 bX.2.1.length false),(66,.i .i64 bX.2.2.1),(bc 0,.blk bX.1 .int bX.2.1 _ rfl)]) (fun bX=>bj bi bX.1 bX.2.1 bX.2.2.1) (fun bX=>a7 bi bX.1 bX.2.1 bX.2.2.1) fun _=> .nil) (fb [2,3,34,35,36,47,48] [(3,5),(2,5)] 49 (c6 bi) (bO bi) fun _=> .nil))) Try.func73 h) (c5 ([J.ae,J.b8,J.ct].length:Int) (fun k=> !eY (nth [J.ae,J.b8,J.ct] k) a0.ae)) (dD ([J.ae,J.b8,J.ct].length:Int)) (fun _ _ x v=>c5 (cB J).length (k8 a0 J) v∧x=((cB J).take v.toNat).map (·.bE)) (fun _ _ _ v=>dD (cB J).length v) (fun i=>c5 (nth [J.ae,J.b8,J.ct] i).length (fun j=> !cr (nth (nth [J.ae,J.b8,J.ct] i) j) 0 (a0.ae - 1))) (fun i=>dD (nth [J.ae,J.b8,J.ct] i).length) (by
 unfold D0 D7
 have hlen:J.bA.length≤30→J.ca.length≤30→(cB J).length≤60:=by unfold cB;rw[List.length_append];omega
 refine⟨fun af h=> ?_,fun⟨af,h⟩ aY=> ?_⟩
 ·symm
  rw[←Bool.not_eq_true,mP]
  rintro⟨h1,-,-,-,cw,cZ,-⟩
  have:=(jX.1 cw).1
  have:=(jX.1 cZ).1
  simp at h
  rcases h with h | h | h
  ·exact h1 h
  ·omega
  ·omega
 ·simp at h
  obtain⟨h1,h2,ao⟩:=h
  have h2:J.bA.length≤30:=by omega
  have ao:J.ca.length≤30:=by omega
  have SJ:=hlen h2 ao
  refine⟨fp (ep _),fun i bK=>⟨fun hi=> ?_,fun hi=>⟨ea bK hi,?_⟩⟩⟩
  ·have ew: ∀l∈[J.ae,J.b8,J.ct],eY l a0.ae=true:=fun l ak=>by
    have:=kB (q:=fun l=> !eY l a0.ae) (hq bK hi) l ak
    simpa using this
   unfold D4
   refine⟨⟨by omega,by omega⟩,fun gh=>⟨⟨fp (ep _),rfl⟩,fun g x v ⟨gq,hx⟩=>⟨fun hv=> ?_,fun hv=> ?_⟩⟩⟩
   ·have rN: ¬v<((cB J).length:Int):=by simpa using hv
    rw[List.take_of_length_le (by have:=gq.1;omega)] at hx
    subst hx
    exact⟨by rw[List.length_map];omega,Lo h1 ew h2 ao (hq gq hv)⟩
   ·have iE:=ea gq hv
    have k2:x.length≤60:=by rw[hx,List.length_map,List.length_take];omega
    have bad:k8 a0 J v=true→false=fq a0 J:=fun hb=>by
     symm
     rw[←Bool.not_eq_true]
     intro aJ
     rw[Lq aJ iE.1 iE.2] at hb
     cases hb
    unfold D3 D2 D1
    rw[Ps]
    refine⟨⟨iE,fun hb=>bad (by unfold k8;rw[hb];rfl),fun hb=>⟨⟨fun ak=> ?_,fun hc=>bad (by unfold k8;rw[hc,Bool.or_true])⟩,fun _=> ?_⟩⟩,fun hb=> ?_⟩
    ·have hb:kr a0 (nth (cB J) v)=false:=not_eq hb
     rw[rW] at hb
     simp only[Bool.not_eq_false',Bool.and_eq_true,yQ] at hb
     exact⟨hb.1.1,by omega⟩
    ·simp only[List.length_cons,List.length_nil];omega
    ·have hb:k8 a0 J v=false:=by
      unfold k8
      rw[Bool.and_eq_true] at hb
      rw[not_eq hb.1,not_eq hb.2];rfl
     have aM:=eM (eR gh) gq hv hb
     have hw:IntKind.i64.wrap (v+1)=v+1:=o2 (by omega) (by omega)
     refine⟨⟨aM.1,?_⟩,aM.2⟩
     rw[hw,hx,show(v+1).toNat=v.toNat+1 by omega,List.take_succ_eq_append_getElem iE.2,List.map_append,←jf iE.2]
     rfl
  ·have rH:=ea bK hi
   have Br:eY (nth [J.ae,J.b8,J.ct] i) a0.ae=false→false=fq a0 J:=fun hb=>by
    symm
    rw[←Bool.not_eq_true]
    intro aJ
    rw[Lp aJ _ (iL rH.2)] at hb
    cases hb
   unfold D6 D5
   refine⟨fun af h=>Br ?_,fun⟨af,h⟩=>⟨fp (ep _),fun v jq=>⟨fun hv=> ?_,fun hv=> ?_⟩⟩⟩
   ·rw[←Bool.not_eq_true,p3]
    rintro⟨q1,-,q3⟩
    simp only[Bool.or_eq_true,decide_eq_true_eq] at h
    rcases h with h | h
    ·omega
    ·unfold dup at h;simp[q3] at h
   ·refine eM (by simp) bK hi ?_
    simp only[Bool.not_eq_true',Bool.or_eq_false_iff,decide_eq_false_iff_not] at h
    have aL:(nth [J.ae,J.b8,J.ct] i).Nodup:=by have:=h.2;unfold dup at this;simpa using this
    have:eY (nth [J.ae,J.b8,J.ct] i) a0.ae=true:=by
     rw[p3]
     refine⟨by omega,fun x hx=> ?_,aL⟩
     have:=kB (q:=fun x=> !cr x 0 (a0.ae - 1)) (hq jq hv) x hx
     simpa using this
    rw[this];rfl
   ·rw[zX]
    exact⟨⟨ea jq hv,fun h=>Br (Fe (ea jq hv).2 h)⟩,fun h=>eM (eR af) jq hv (not_eq h)⟩)
def NS:c_ Try.prog:=⟨73,[.fe,.cN],[.bool],none,fun x=>((fq x.1 x.2.1),()),fun x h=>NR x.1 x.2.1⟩
def NA:List Item:=[az 0,az 1,az 2,az 3,az 4,az 5,az 6,az 7,az 8,az 9,az 10,az 11,az 12,az 13,az 14,az 15,az 16,az 17,az 18,az 19,az 20,az 21,az 22,az 23,az 24,az 25,az 26,az 27,az 28,az 29,az 30,az 31,az 32,az 33,az 34,az 35,az 36,az 37,az 38,az 39,az 40,az 41,az 42,az 43,az 44,az 45,az 46,az 47]
def NB:List (List Nat):=[[],[0],[],[0,1,2],rg 0 4,[],rg 0 6,rg 0 7,[],[8],[],[8,9,10],rg 8 12,[],rg 8 14,rg 8 15,rg 0 16,rg 0 17,rg 0 18,rg 0 18,rg 0 20,rg 0 21,rg 0 22,rg 0 23,rg 0 22,rg 0 25,rg 0 26,rg 0 22,rg 0 28,rg 0 29,rg 0 30,rg 0 31,rg 0 32,rg 0 33,rg 0 34,rg 0 33,rg 0 36,rg 0 37,rg 0 38,rg 0 33,rg 0 33++[39],rg 0 33,rg 0 33++[39,40,41],rg 0 33++rg 39 43,rg 0 33++rg 39 44,rg 0 45,rg 0 46,rg 0 47]
def DO (a0:aS) (ah:fP) (eN dE:Int):Prop:=
  ((0≤dE∧dE.toNat<a0.a_.length)∧((0≤eN∧eN.toNat<(nth a0.a_ dE).length)∧((0≤eN∧eN.toNat<a0.a_.length)∧((0≤dE∧dE.toNat<(nth a0.a_ eN).length)∧(((nth (nth a0.a_ dE) eN) !=(nth (nth a0.a_ eN) dE))=false→(dE !=eN)=true→(0≤dE∧dE.toNat<a0.a_.length)∧((0≤eN∧eN.toNat<(nth a0.a_ dE).length)∧((!(nth (nth a0.a_ dE) eN))=true→(0≤dE∧dE.toNat<a0.U.length)∧(0≤eN∧eN.toNat<a0.U.length))))))))∧((((nth (nth a0.a_ dE) eN) !=(nth (nth a0.a_ eN) dE)) || ((dE !=eN)&&((!(nth (nth a0.a_ dE) eN))&&(meets (nth a0.U dE).ae (nth a0.U eN).ae))))=true→(5=ah.code)∧(dE=ah.pos))
abbrev fu (r:Type):Type:=Int→Int→Int→Int→r
abbrev fi (r:Type):Type:=Int→Int→Int→Int→Int→r
def DP (eC:fu Prop) (ef:fu Nat) (ek:fi Prop) (eg:fi Nat) (a0:aS) (ah:fP) (dl eA v87 eN dE:Int):Prop:=
  ((decide (eN<(a0.U.length:Int)))=false→eC dl eA v87 (IntKind.i64.wrap (dE+1))∧ef dl eA v87 (IntKind.i64.wrap (dE+1))<ef dl eA v87 dE)∧((decide (eN<(a0.U.length:Int)))=true→(DO a0 ah eN dE)∧((!(((nth (nth a0.a_ dE) eN) !=(nth (nth a0.a_ eN) dE)) || ((dE !=eN)&&((!(nth (nth a0.a_ dE) eN))&&(meets (nth a0.U dE).ae (nth a0.U eN).ae)))))=true→ek dl eA v87 dE (IntKind.i64.wrap (eN+1))∧eg dl eA v87 dE (IntKind.i64.wrap (eN+1))<eg dl eA v87 dE eN))
abbrev fv (r:Type):Type:=Int→Int→Int→r
def DQ (c6:fv Prop) (bO:fv Nat) (a0:aS) (ah:fP) (dl eA v87:Int):Prop:=
  ((0≤v87∧v87.toNat<a0.a_.length)∧((nth a0.a_ v87).length≤4611686018427387904→(((nth a0.a_ v87).length:Int) !=(a0.U.length:Int))=true→(4=ah.code)∧(v87=ah.pos)))∧(((nth a0.a_ v87).length≤4611686018427387904)∧((!(((nth a0.a_ v87).length:Int) !=(a0.U.length:Int)))=true)→c6 dl eA (IntKind.i64.wrap (v87+1))∧bO dl eA (IntKind.i64.wrap (v87+1))<bO dl eA v87)
def DR (c6:fv Prop) (bO:fv Nat) (eC:fu Prop) (ef:fu Nat) (ek:fi Prop) (eg:fi Nat) (a0:aS) (ah:fP) (dl eA v87:Int):Prop:=
  ((decide (v87<(a0.a_.length:Int)))=false→eC dl eA v87 0∧ ∀(dE:Int),eC dl eA v87 dE→(((decide (dE<(a0.U.length:Int)))=false→(0=ah.code)∧(0=ah.pos))∧((decide (dE<(a0.U.length:Int)))=true→ek dl eA v87 dE 0∧ ∀(eN:Int),ek dl eA v87 dE eN→(DP eC ef ek eg a0 ah dl eA v87 eN dE))))∧((decide (v87<(a0.a_.length:Int)))=true→DQ c6 bO a0 ah dl eA v87)
def DS (bj:Int→Int→Prop) (a7:Int→Int→Nat) (c6:fv Prop) (bO:fv Nat) (eC:fu Prop) (ef:fu Nat) (ek:fi Prop) (eg:fi Nat) (a0:aS) (ah:fP) (dl eA:Int):Prop:=
  ((decide (eA<(a0.U.length:Int)))=false→(a0.a_.length≤4611686018427387904→((a0.a_.length:Int) !=(a0.U.length:Int))=true→(4=ah.code)∧(0=ah.pos))∧((a0.a_.length≤4611686018427387904)∧((!((a0.a_.length:Int) !=(a0.U.length:Int)))=true)→c6 dl eA 0∧ ∀(v87:Int),c6 dl eA v87→(DR c6 bO eC ef ek eg a0 ah dl eA v87)))∧((decide (eA<(a0.U.length:Int)))=true→((0≤eA∧eA.toNat<a0.U.length)∧((!(fq a0 (nth a0.U eA)))=true→(3=ah.code)∧(eA=ah.pos)))∧((!(!(fq a0 (nth a0.U eA))))=true→bj dl (IntKind.i64.wrap (eA+1))∧a7 dl (IntKind.i64.wrap (eA+1))<a7 dl eA))
def DT (ap:Int→Prop) (au:Int→Nat) (bj:Int→Int→Prop) (a7:Int→Int→Nat) (c6:fv Prop) (bO:fv Nat) (eC:fu Prop) (ef:fu Nat) (ek:fi Prop) (eg:fi Nat) (a0:aS) (ah:fP) (dl:Int):Prop:=
  ((decide (dl<(a0.aR.length:Int)))=false→a0.U.length≤4611686018427387904→bj dl 0∧ ∀(eA:Int),bj dl eA→(DS bj a7 c6 bO eC ef ek eg a0 ah dl eA))∧((decide (dl<(a0.aR.length:Int)))=true→((0≤dl∧dl.toNat<a0.aR.length)∧(((decide ((nth a0.aR dl)<0)) || (decide ((nth a0.aR dl) ≥ a0.ae)))=true→(2=ah.code)∧(dl=ah.pos)))∧((!((decide ((nth a0.aR dl)<0)) || (decide ((nth a0.aR dl) ≥ a0.ae))))=true→ap (IntKind.i64.wrap (dl+1))∧au (IntKind.i64.wrap (dl+1))<au dl))
def DU (ap:Int→Prop) (au:Int→Nat) (bj:Int→Int→Prop) (a7:Int→Int→Nat) (c6:fv Prop) (bO:fv Nat) (eC:fu Prop) (ef:fu Nat) (ek:fi Prop) (eg:fi Nat) (a0:aS) (ah:fP):Prop:=
  (((decide (a0.ae<1)) || ((decide (a0.ae>60)) || ((decide (a0.dw<1)) || ((decide (a0.dw>300)) || ((decide ((a0.aR.length:Int)>40)) || (decide ((a0.U.length:Int)>100)))))))=true→(1=ah.code)∧(0=ah.pos))∧((!((decide (a0.ae<1)) || ((decide (a0.ae>60)) || ((decide (a0.dw<1)) || ((decide (a0.dw>300)) || ((decide ((a0.aR.length:Int)>40)) || (decide ((a0.U.length:Int)>100))))))))=true→a0.aR.length≤4611686018427387904→ap 0∧ ∀(dl:Int),ap dl→(DT ap au bj a7 c6 bO eC ef ek eg a0 ah dl))
def DN (a0:aS) (ah:fP) (ap:Int→Prop) (au:Int→Nat) (bj:Int→Int→Prop) (a7:Int→Int→Nat) (c6:fv Prop) (bO:fv Nat) (eC:fu Prop) (ef:fu Nat) (ek:fi Prop) (eg:fi Nat):Prop:=
 DU ap au bj a7 c6 bO eC ef ek eg a0 ah
theorem Ny (a0:aS):bh Try.prog 26 [.agg (bT false a0)] (.agg (xk (fo a0))):=(fun(ap:Int→Prop) (au:Int→Nat) (bj:Int→Int→Prop) (a7:Int→Int→Nat) (c6:fv Prop) (bO:fv Nat) (eC:fu Prop) (ef:fu Nat) (ek:fi Prop) (eg:fi Nat) (h:DN a0 (fo a0) ap au bj a7 c6 bO eC ef ek eg)=>bh.run (ps:=[.fe]) (rs:=[.fault]) (x:=(a0,())) (r:=((fo a0),())) ⟨166,dm,[DW,NS]⟩ ⟨[81,86,96,103,109],[(29,NA,NB)],[],[],[]⟩ (fb [1,2,43,44] [(2,2),(1,5)] 45 ap au fun bi=>(fb [1,2,62,63] [(2,2),(1,5)] 64 (bj bi) (a7 bi) fun bX=>(fb [1,2,85,86] [(2,2),(1,5)] 87 (c6 bi bX) (bO bi bX) fun du=>(fb [1,2,103] [(2,2),(1,5)] 104 (eC bi bX du) (ef bi bX du) fun eB=>(fb [1,2,9,103,104,109] [(2,2),(1,5)] 110 (ek bi bX du eB) (eg bi bX du eB) fun _=> .nil))))) Try.func26 h) (c5 a0.aR.length (fun j=> !cr (nth a0.aR j) 0 (a0.ae - 1))) (dD a0.aR.length) (fun _=>c5 a0.U.length (fun j=> !fq a0 (nth a0.U j))) (fun _=>dD a0.U.length) (fun _ _=>c5 a0.a_.length (fun j=>decide ((nth a0.a_ j).length≠a0.U.length))) (fun _ _=>dD a0.a_.length) (fun _ _ _=>c5 a0.U.length (fun i=>(List.range a0.U.length).any fun k=>ly a0 i.toNat k)) (fun _ _ _=>dD a0.U.length) (fun _ _ _ i=>c5 a0.U.length (fun k=>ly a0 i.toNat k.toNat)) (fun _ _ _ _=>dD a0.U.length) (by
 unfold DN DU
 refine⟨fun h=> ?_,fun h iG=> ?_⟩
 ·have hb:hJ a0=false:=by
   rw[←Bool.not_eq_true,oK]
   intro hb
   simp[hJ] at h
   omega
  rw[zw hb];exact⟨rfl,rfl⟩
 ·have hb:hJ a0=true:=by
   rw[oK]
   simp[hJ] at h
   omega
  have cH:=oK.1 hb
  refine⟨fp (ep _),fun v0 kS=> ?_⟩
  unfold DT
  refine⟨fun iB ui=> ?_,fun iZ=> ?_⟩
  case refine_2=>
   rw[zX]
   refine⟨⟨ea kS iZ,fun iU=> ?_⟩,fun eQ=>eM (eR iG) kS iZ (not_eq eQ)⟩
   rw[F5 hb (oZ (q:=fun s=> !cr s 0 (a0.ae - 1)) kS iZ iU)]
   have:=kS.1
   exact⟨rfl,by show v0=(v0.toNat:Int);omega⟩
  have f0:=o0 (q:=fun s=> !cr s 0 (a0.ae - 1)) kS iB
  refine⟨fp (ep _),fun v1 kT=> ?_⟩
  unfold DS
  refine⟨fun aO=> ?_,fun hE=> ?_⟩
  case refine_2=>
   refine⟨⟨ea kT hE,  fun iU=> ?_⟩,fun eQ=>eM (eR ui) kT hE (not_eq eQ)⟩
   rw[F6 hb f0 (oZ (q:=fun w=> !fq a0 w) kT hE iU)]
   have:=kT.1
   exact⟨rfl,by show v1=(v1.toNat:Int);omega⟩
  have f1:=o0 (q:=fun w=> !fq a0 w) kT aO
  rw[F7 hb f0 f1]
  refine⟨fun hm bV=> ?_,fun⟨hm,bV⟩=> ?_⟩
  ·have bV:a0.a_.length≠a0.U.length:=by
    intro e;rw[e] at bV;simp at bV
   rw[F4 bV];exact⟨rfl,rfl⟩
  have ak:a0.a_.length=a0.U.length:=by
   have:(a0.a_.length:Int)=a0.U.length:=by simpa using bV
   omega
  refine⟨fp (ep _),fun v2 jO=> ?_⟩
  unfold DR
  refine⟨fun e2=> ?_,fun hv2=> ?_⟩
  case refine_2=>
   have rz:(((nth a0.a_ v2).length:Int) !=(a0.U.length:Int))=decide ((nth a0.a_ v2).length≠a0.U.length):=by
    rw[Bool.eq_iff_iff];simp;omega
   unfold DQ
   rw[rz]
   refine⟨⟨ea jO hv2,fun aa iU=> ?_⟩,fun⟨aa,eQ⟩=>eM (eR hm) jO hv2 (not_eq eQ)⟩
   rw[F2 ak (oZ (q:=fun b=>decide (b.length≠a0.U.length)) jO hv2 iU)]
   have:=jO.1
   exact⟨rfl,by show v2=(v2.toNat:Int);omega⟩
  have f2:=o0 (q:=fun b:List Bool=>decide (b.length≠a0.U.length)) jO e2
  have sl: ∀i:Int,0≤i→i<a0.U.length→(nth a0.a_ i).length=a0.U.length:=fun i i0 i1=>by
   have:=hq jO e2 i i0 (by omega)
   simpa using this
  refine⟨fp (ep _),fun v3 jP=>⟨fun cg=> ?_,fun hl=> ?_⟩⟩
  ·skip
   rw[F1 ak f2 (Cw fun j eX dZ=>hq jP cg j eX dZ)]
   exact⟨rfl,rfl⟩
  ·have pU:v3<(a0.U.length:Int):=by simpa using hl
   have kf:=jP.1
   refine⟨fp (ep _),fun v4 kU=> ?_⟩
   unfold DP DO
   rw[Bt jP.1 kU.1]
   have lJ:=kU.1
   refine⟨fun eH=>eM (by omega) jP hl (FA fun j eX dZ=>hq kU eH j eX dZ),fun rO=> ?_⟩
   have rP:v4<(a0.U.length:Int):=by simpa using rO
   have ez:=sl v3 jP.1 pU
   have kx:=sl v4 kU.1 rP
   refine⟨⟨⟨⟨kf,by omega⟩,⟨lJ,by omega⟩,⟨lJ,by omega⟩,⟨kf,by omega⟩,fun _ _=>⟨⟨kf,by omega⟩,⟨lJ,by omega⟩,fun _=>⟨⟨kf,by omega⟩,⟨lJ,by omega⟩⟩⟩⟩,fun iU=> ?_⟩,fun eQ=>eM (by omega) kU rO (not_eq eQ)⟩
   rw[F3 ak f2 (Cx kf pU (fun j eX dZ=>jP.2.2 j eX dZ) (Bl lJ rP iU))]
   exact⟨rfl,by show v3=(v3.toNat:Int);omega⟩)
def Nz:c_ Try.prog:=⟨26,[.fe],[.fault],none,fun x=>((fo x.1),()),fun x h=>Ny x.1⟩
def Ry:List Item:=[az 0,az 1,az 2,az 3,az 4,az 5,az 6,az 7,az 8,az 9,az 10,az 11,az 12,az 13,az 14,az 15,az 16,az 17,az 18,az 19,az 20,az 21,az 22,az 23,az 24,az 25,az 26,az 27,az 28,az 29,az 30,az 31,az 32,az 33]
def Rz:List (List Nat):=[[],[],[1],[],[1,2,3],rg 1 5,[],rg 1 7,rg 1 8,rg 0 9,rg 0 10,rg 0 11,rg 0 11,rg 0 13,rg 0 14,rg 0 15,rg 0 16,rg 0 17,rg 0 18,rg 0 19,rg 0 20,rg 0 19,rg 0 22,rg 0 23,rg 0 24,rg 0 19,rg 0 19++[25],rg 0 19,rg 0 19++[25,26,27],rg 0 19++rg 25 29,rg 0 19++rg 25 30,rg 0 31,rg 0 32,rg 0 33]
def Ha (a0:aS) (ah:fP) (e4 dt:Int):Prop:=
  ((0≤e4∧e4.toNat<a0.a_.length)∧((0≤dt∧dt.toNat<(nth a0.a_ e4).length)∧(((nth (nth a0.a_ dt) e4) !=(nth (nth a0.a_ e4) dt))=false→(dt !=e4)=true→(!(nth (nth a0.a_ dt) e4))=true→(0≤dt∧dt.toNat<a0.U.length)∧(0≤e4∧e4.toNat<a0.U.length))))∧((((nth (nth a0.a_ dt) e4) !=(nth (nth a0.a_ e4) dt)) || ((dt !=e4)&&((!(nth (nth a0.a_ dt) e4))&&(meets (nth a0.U dt).ae (nth a0.U e4).ae))))=true→(5=ah.code)∧(dt=ah.pos))
def Hb (ek:fi Prop) (eg:fi Nat) (a0:aS) (ah:fP) (dk eb e5 e4 dt:Int):Prop:=
  ((0≤e4∧e4.toNat<(nth a0.a_ dt).length)∧(Ha a0 ah e4 dt))∧((!(((nth (nth a0.a_ dt) e4) !=(nth (nth a0.a_ e4) dt)) || ((dt !=e4)&&((!(nth (nth a0.a_ dt) e4))&&(meets (nth a0.U dt).ae (nth a0.U e4).ae)))))=true→ek dk eb e5 dt (IntKind.i64.wrap (e4+1))∧eg dk eb e5 dt (IntKind.i64.wrap (e4+1))<eg dk eb e5 dt e4)
def Hc (eC:fu Prop) (ef:fu Nat) (ek:fi Prop) (eg:fi Nat) (a0:aS) (ah:fP) (dk eb e5 dt:Int):Prop:=
  (nth a0.a_ dt).length≤4611686018427387904→ek dk eb e5 dt 0∧ ∀(e4:Int),ek dk eb e5 dt e4→(((decide (e4<((nth a0.a_ dt).length:Int)))=false→eC dk eb e5 (IntKind.i64.wrap (dt+1))∧ef dk eb e5 (IntKind.i64.wrap (dt+1))<ef dk eb e5 dt)∧((decide (e4<((nth a0.a_ dt).length:Int)))=true→Hb ek eg a0 ah dk eb e5 e4 dt))
def Hd (c6:fv Prop) (bO:fv Nat) (a0:aS) (ah:fP) (dk eb e5:Int):Prop:=
  ((0≤e5∧e5.toNat<a0.a_.length)∧((nth a0.a_ e5).length≤4611686018427387904→(((nth a0.a_ e5).length:Int) !=(a0.U.length:Int))=true→(4=ah.code)∧(e5=ah.pos)))∧(((nth a0.a_ e5).length≤4611686018427387904)∧((!(((nth a0.a_ e5).length:Int) !=(a0.U.length:Int)))=true)→c6 dk eb (IntKind.i64.wrap (e5+1))∧bO dk eb (IntKind.i64.wrap (e5+1))<bO dk eb e5)
def He (c6:fv Prop) (bO:fv Nat) (eC:fu Prop) (ef:fu Nat) (ek:fi Prop) (eg:fi Nat) (a0:aS) (ah:fP) (dk eb e5:Int):Prop:=
  ((decide (e5<(a0.a_.length:Int)))=false→eC dk eb e5 0∧ ∀(dt:Int),eC dk eb e5 dt→(((decide (dt<(a0.a_.length:Int)))=false→(0=ah.code)∧(0=ah.pos))∧((decide (dt<(a0.a_.length:Int)))=true→(0≤dt∧dt.toNat<a0.a_.length)∧(Hc eC ef ek eg a0 ah dk eb e5 dt))))∧((decide (e5<(a0.a_.length:Int)))=true→Hd c6 bO a0 ah dk eb e5)
def Hf (bj:Int→Int→Prop) (a7:Int→Int→Nat) (c6:fv Prop) (bO:fv Nat) (eC:fu Prop) (ef:fu Nat) (ek:fi Prop) (eg:fi Nat) (a0:aS) (ah:fP) (dk eb:Int):Prop:=
  ((decide (eb<(a0.U.length:Int)))=false→(a0.a_.length≤4611686018427387904→((a0.a_.length:Int) !=(a0.U.length:Int))=true→(4=ah.code)∧(0=ah.pos))∧((a0.a_.length≤4611686018427387904)∧((!((a0.a_.length:Int) !=(a0.U.length:Int)))=true)→c6 dk eb 0∧ ∀(e5:Int),c6 dk eb e5→(He c6 bO eC ef ek eg a0 ah dk eb e5)))∧((decide (eb<(a0.U.length:Int)))=true→((0≤eb∧eb.toNat<a0.U.length)∧((zB a0 (nth a0.U eb))∧((!(fq a0 (nth a0.U eb)))=true→(3=ah.code)∧(eb=ah.pos))))∧((!(!(fq a0 (nth a0.U eb))))=true→bj dk (IntKind.i64.wrap (eb+1))∧a7 dk (IntKind.i64.wrap (eb+1))<a7 dk eb))
def Hg (ap:Int→Prop) (au:Int→Nat) (bj:Int→Int→Prop) (a7:Int→Int→Nat) (c6:fv Prop) (bO:fv Nat) (eC:fu Prop) (ef:fu Nat) (ek:fi Prop) (eg:fi Nat) (a0:aS) (ah:fP) (dk:Int):Prop:=
  ((decide (dk<(a0.aR.length:Int)))=false→a0.U.length≤4611686018427387904→bj dk 0∧ ∀(eb:Int),bj dk eb→(Hf bj a7 c6 bO eC ef ek eg a0 ah dk eb))∧((decide (dk<(a0.aR.length:Int)))=true→((0≤dk∧dk.toNat<a0.aR.length)∧((!(cr (nth a0.aR dk) 0 (IntKind.i64.wrap (a0.ae - 1))))=true→(2=ah.code)∧(dk=ah.pos)))∧((!(!(cr (nth a0.aR dk) 0 (IntKind.i64.wrap (a0.ae - 1)))))=true→ap (IntKind.i64.wrap (dk+1))∧au (IntKind.i64.wrap (dk+1))<au dk))
def Hh (ap:Int→Prop) (au:Int→Nat) (bj:Int→Int→Prop) (a7:Int→Int→Nat) (c6:fv Prop) (bO:fv Nat) (eC:fu Prop) (ef:fu Nat) (ek:fi Prop) (eg:fi Nat) (a0:aS) (ah:fP):Prop:=
  (((!(cr a0.ae 1 60)) || ((decide ((a0.aR.length:Int)>40)) || ((decide ((a0.U.length:Int)>100)) || (!(cr a0.dw 1 300)))))=true→(1=ah.code)∧(0=ah.pos))∧((!((!(cr a0.ae 1 60)) || ((decide ((a0.aR.length:Int)>40)) || ((decide ((a0.U.length:Int)>100)) || (!(cr a0.dw 1 300))))))=true→a0.aR.length≤4611686018427387904→ap 0∧ ∀(dk:Int),ap dk→(Hg ap au bj a7 c6 bO eC ef ek eg a0 ah dk))
def G_ (a0:aS) (ah:fP) (ap:Int→Prop) (au:Int→Nat) (bj:Int→Int→Prop) (a7:Int→Int→Nat) (c6:fv Prop) (bO:fv Nat) (eC:fu Prop) (ef:fu Nat) (ek:fi Prop) (eg:fi Nat):Prop:=
 Hh ap au bj a7 c6 bO eC ef ek eg a0 ah
theorem Rw (a0:aS):bh Try.prog 24 [.agg (bT false a0)] (.agg (xk (fo a0))):=(fun(ap:Int→Prop) (au:Int→Nat) (bj:Int→Int→Prop) (a7:Int→Int→Nat) (c6:fv Prop) (bO:fv Nat) (eC:fu Prop) (ef:fu Nat) (ek:fi Prop) (eg:fi Nat) (h:G_ a0 (fo a0) ap au bj a7 c6 bO eC ef ek eg)=>bh.run (ps:=[.fe]) (rs:=[.fault]) (x:=(a0,())) (r:=((fo a0),())) ⟨147,dm,[Ao,Hp,RM]⟩ ⟨[73,78,88,95],[(29,Ry,Rz)],[],[],[]⟩ (fb [1,2,37,38] [(2,2),(1,5)] 39 ap au fun bi=>(fb [1,2,54,55] [(2,2),(1,5)] 56 (bj bi) (a7 bi) fun bX=>(fb [1,2,77,78] [(2,2),(1,5)] 79 (c6 bi bX) (bO bi bX) fun du=>(fb [1,2,94,95] [(2,2),(1,5)] 96 (eC bi bX du) (ef bi bX du) fun eB=>(fb [1,2,9,94,95,96,101,102] [(2,2),(1,5)] 103 (ek bi bX du eB) (eg bi bX du eB) fun _=> .nil))))) Try.func24 h) (c5 a0.aR.length (fun j=> !cr (nth a0.aR j) 0 (a0.ae - 1))) (dD a0.aR.length) (fun _=>c5 a0.U.length (fun j=> !fq a0 (nth a0.U j))) (fun _=>dD a0.U.length) (fun _ _=>c5 a0.a_.length (fun j=>decide ((nth a0.a_ j).length≠a0.U.length))) (fun _ _=>dD a0.a_.length) (fun _ _ _=>c5 a0.U.length (fun i=>(List.range a0.U.length).any fun k=>ly a0 i.toNat k)) (fun _ _ _=>dD a0.U.length) (fun _ _ _ i=>c5 a0.U.length (fun k=>ly a0 i.toNat k.toNat)) (fun _ _ _ _=>dD a0.U.length) (by
 unfold G_ Hh
 refine⟨fun h=> ?_,fun h iG=> ?_⟩
 ·have hb:hJ a0=false:=by
   rw[←Bool.not_eq_true,oK]
   intro hb
   simp[cr] at h
   omega
  rw[zw hb];exact⟨rfl,rfl⟩
 ·have hb:hJ a0=true:=by
   rw[oK]
   simp[cr] at h
   omega
  have cH:=oK.1 hb
  refine⟨fp (ep _),fun v0 kS=> ?_⟩
  unfold Hg
  refine⟨fun iB ui=> ?_,fun iZ=> ?_⟩
  case refine_2=>
   rw[o2 (n:=a0.ae - 1) (by omega) (by omega)]
   refine⟨⟨ea kS iZ,fun iU=> ?_⟩,fun eQ=>eM (eR iG) kS iZ (not_eq eQ)⟩
   rw[F5 hb (oZ (q:=fun s=> !cr s 0 (a0.ae - 1)) kS iZ iU)]
   have:=kS.1
   exact⟨rfl,by show v0=(v0.toNat:Int);omega⟩
  have f0:=o0 (q:=fun s=> !cr s 0 (a0.ae - 1)) kS iB
  refine⟨fp (ep _),fun v1 kT=> ?_⟩
  unfold Hf
  refine⟨fun aO=> ?_,fun hE=> ?_⟩
  case refine_2=>
   refine⟨⟨ea kT hE,⟨by omega,by omega⟩,fun iU=> ?_⟩,fun eQ=>eM (eR ui) kT hE (not_eq eQ)⟩
   rw[F6 hb f0 (oZ (q:=fun w=> !fq a0 w) kT hE iU)]
   have:=kT.1
   exact⟨rfl,by show v1=(v1.toNat:Int);omega⟩
  have f1:=o0 (q:=fun w=> !fq a0 w) kT aO
  rw[F7 hb f0 f1]
  refine⟨fun hm bV=> ?_,fun⟨hm,bV⟩=> ?_⟩
  ·have bV:a0.a_.length≠a0.U.length:=by
    intro e;rw[e] at bV;simp at bV
   rw[F4 bV];exact⟨rfl,rfl⟩
  have ak:a0.a_.length=a0.U.length:=by
   have:(a0.a_.length:Int)=a0.U.length:=by simpa using bV
   omega
  refine⟨fp (ep _),fun v2 jO=> ?_⟩
  unfold He
  refine⟨fun e2=> ?_,fun hv2=> ?_⟩
  case refine_2=>
   have rz:(((nth a0.a_ v2).length:Int) !=(a0.U.length:Int))=decide ((nth a0.a_ v2).length≠a0.U.length):=by
    rw[Bool.eq_iff_iff];simp;omega
   unfold Hd
   rw[rz]
   refine⟨⟨ea jO hv2,fun aa iU=> ?_⟩,fun⟨aa,eQ⟩=>eM (eR hm) jO hv2 (not_eq eQ)⟩
   rw[F2 ak (oZ (q:=fun b=>decide (b.length≠a0.U.length)) jO hv2 iU)]
   have:=jO.1
   exact⟨rfl,by show v2=(v2.toNat:Int);omega⟩
  have f2:=o0 (q:=fun b:List Bool=>decide (b.length≠a0.U.length)) jO e2
  have sl: ∀i:Int,0≤i→i<a0.U.length→(nth a0.a_ i).length=a0.U.length:=fun i i0 i1=>by
   have:=hq jO e2 i i0 (by omega)
   simpa using this
  refine⟨fp (ep _),fun v3 jP=>⟨fun cg=> ?_,fun hl=> ?_⟩⟩
  ·have cg:decide (v3<(a0.U.length:Int))=false:=by rw[←ak];exact cg
   rw[F1 ak f2 (Cw fun j eX dZ=>hq jP cg j eX dZ)]
   exact⟨rfl,rfl⟩
  ·have pU:v3<(a0.U.length:Int):=by rw[←ak];simpa using hl
   have kf:=jP.1
   have ez:=sl v3 jP.1 pU
   refine⟨⟨kf,by omega⟩,?_⟩
   unfold Hc
   rw[ez]
   intro _
   refine⟨fp (ep _),fun v4 kU=> ?_⟩
   unfold Hb Ha
   rw[Bt jP.1 kU.1,ez]
   have lJ:=kU.1
   refine⟨fun eH=>eM (by omega) jP (by simpa using pU) (FA fun j eX dZ=>hq kU eH j eX dZ),fun rO=> ?_⟩
   have rP:v4<(a0.U.length:Int):=by simpa using rO
   have kx:=sl v4 kU.1 rP
   refine⟨⟨⟨lJ,by omega⟩,⟨⟨lJ,by omega⟩,⟨kf,by omega⟩,fun _ _ _=>⟨⟨kf,by omega⟩,⟨lJ,by omega⟩⟩⟩,fun iU=> ?_⟩,fun eQ=>eM (by omega) kU rO (not_eq eQ)⟩
   rw[F3 ak f2 (Cx kf pU (fun j eX dZ=>jP.2.2 j eX dZ) (Bl lJ rP iU))]
   exact⟨rfl,by show v3=(v3.toNat:Int);omega⟩)
def Rx:c_ Try.prog:=⟨24,[.fe],[.fault],none,fun x=>((fo x.1),()),fun x h=>Rw x.1⟩
def RJ (a0:aS) (ah:Bool):Prop:=
 ((fo a0).code==0)=ah
theorem RK (a0:aS):bh Try.prog 77 [.agg (bT false a0)] (aP (e1 a0)):=(fun(h:RJ a0 (e1 a0))=>bh.run (ps:=[.fe]) (rs:=[.bool]) (x:=(a0,())) (r:=((e1 a0),())) ⟨9,dm,[Rx]⟩ ⟨[],[],[],[],[]⟩ .nil Try.func77 h) (by
 exact Qz a0)
def NL (a0:aS) (ah:Bool):Prop:=
 ((fo a0).code==0&&(fo a0).pos==0)=ah
theorem NM (a0:aS):bh Try.prog 60 [.agg (bT false a0)] (aP (e1 a0)):=(fun(h:NL a0 (e1 a0))=>bh.run (ps:=[.fe]) (rs:=[.bool]) (x:=(a0,())) (r:=((e1 a0),())) ⟨7,dm,[Nz]⟩ ⟨[],[],[],[],[]⟩ .nil Try.func60 h) (by
 exact Qy a0)
noncomputable def ND:Code:=lB Try.f79
def yN (a0:aS) (J:Int) (ah:aI):Prop:=
  ((0≤J∧J.toNat<a0.U.length)∧((nth a0.U J).ae.length≤4611686018427387904→0≤((nth a0.U J).ae.length:Int)∧1*((nth a0.U J).ae.length:Int)≤140737488355328∧((nth a0.U J).ae.length:Int)≤4611686018427387904))∧((nth a0.U J).ae.length≤4611686018427387904→(0=ah.dW)∧(0=ah.cT)∧((List.replicate ((nth a0.U J).ae.length:Int).toNat false)=ah.aF)∧(false=ah.dV)∧(0=ah.dX))
def yM (a0:aS) (J:Int) (ah:aI):Prop:=
 yN a0 J ah
theorem NE (a0:aS) (J:Int) (ah:aI) (h:yM a0 J ah):ej Try.prog 79 [.agg (bT false a0),aG J] [] (fun r H=>r= .agg [aG ah.dW,aG ah.cT,aD 0 0 ah.aF.length,aP ah.dV,aG ah.dX]∧H=[⟨0,1,List.map bm ah.aF⟩]):=by
 refine ej.toOwn ?_
 unfold yM at h
 refine ej.go (fn:=Try.f79) [(0,.agg (bT false a0)),(1,aG J)] Try.func79 (fun _ _=> ?_)
 show WpS _ (bg ND 1) _ ⟨bd 14 [(0,.agg (bT false a0)),(1,aG J)],[],[]⟩
 refine ti [] 0 [(4,aZ 4 0),(2,aZ 2 0)] [2] [0,1,1] [(4,[aG 0,aG 0,aK,aP false,aG 0]),(2,(bT false a0))] [] ?_
 unfold yN at h
 obtain⟨c4,h⟩:=h
 refine mf [] [1] (fun L=>fT 0 2 (aD 0 0 (List.replicate ((nth a0.U J).ae.length:Int).toNat false).length) L) (fun _=>[⟨0,1,List.map bm (List.replicate ((nth a0.U J).ae.length:Int).toNat false)⟩]) ((nth a0.U J).ae.length≤4611686018427387904) ?_ (fun q2=> ?_)
 ·
  replace h:=c4
  refine gB [] 1 ?_
  obtain⟨cI,h⟩:=h
  refine GU 4 (some 8) [(7,aG J),(6,b_ (cE false) a0.U),(5,aZ 2 2)] (cE false) a0.U 5 cI ?_
  refine sLen 3 (some 11) [(10,b_ c1 (nth a0.U J).ae),(9,.cv (cE false (nth a0.U J)) 0)] c1 (nth a0.U J).ae (fun q3=> ?_)
  replace h:=h q3
  have q4:=h
  refine z8 1 (some 12) [] bm 1 [aP false] 0 (fun r=>[⟨0,1,r⟩]) false q4 ?_
  exact jh [(13,.agg [aG 0,aG 0,aD 0 0 (List.replicate ((nth a0.U J).ae.length:Int).toNat false).length,aP false,aG 0])] q3
 replace h:=h q2
 refine me ?_
 refine qp (.agg [aG 0,aG 0,aD 0 0 (List.replicate ((nth a0.U J).ae.length:Int).toNat false).length,aP false,aG 0]) [.agg [aG 0,aG 0,aD 0 0 (List.replicate ((nth a0.U J).ae.length:Int).toNat false).length,aP false,aG 0]] ?_
 exact⟨oR [some 0],r_ [some 0] rfl (by decide) ⟨rfl,(qo (b:=0) (g:=0) (sz:=1) (xs:=(List.replicate ((nth a0.U J).ae.length:Int).toNat false)) (ys:=ah.aF) rfl zp (h.2.2.1)),trivial⟩,(.inl ⟨_,_,rfl,rfl,(aw.cons (zr (a:=0) (b:=ah.dW) (h.1)) (aw.cons (zr (a:=0) (b:=ah.cT) (h.2.1)) (aw.cons (zs (by simp) rfl rfl (by have:=congrArg List.length (h.2.2.1);simpa using this)) (aw.cons (FT (a:=false) (b:=ah.dV) (h.2.2.2.1)) (aw.cons (zr (a:=0) (b:=ah.dX) (h.2.2.2.2)) aw.nil)))))⟩)⟩
theorem NC (a0:aS) (J:Int) (ab:DJ a0 J):ej Try.prog 79 [.agg (bT false a0),aG J] [] (fun r H=>r= .agg [aG (bb a0 J).dW,aG (bb a0 J).cT,aD 0 0 (bb a0 J).aF.length,aP (bb a0 J).dV,aG (bb a0 J).dX]∧H=[⟨0,1,List.map bm (bb a0 J).aF⟩]):=NE a0 J (bb a0 J) (by
 unfold yM yN
 obtain⟨fC,aA,h1⟩:=ab
 have ay:J.toNat<a0.U.length:=by omega
 have:=(fC.ae _ (iL ay)).2.1
 exact⟨⟨⟨aA,ay⟩,fun _=>⟨ep _,by omega,by omega⟩⟩,fun _=>⟨rfl,rfl,by show List.replicate _ _=List.replicate _ _;simp,rfl,rfl⟩⟩)
noncomputable def An:Code:=lB Try.f32
def Rt:List Item:=[az 0,az 1,az 2,az 3,az 4,⟨5,true,false,[0,1]⟩,az 6,⟨7,true,false,[0,1]⟩,⟨8,true,false,[]⟩,az 9,⟨10,true,false,[]⟩]
def Ru:List (List Nat):=[[],[0],[],[2],[2,3],[2,3,4],rg 2 6,rg 2 7,rg 0 8,rg 0 9,rg 0 10]
abbrev fG (r:Type):Type:=Nat→(List b4)→Int→List (List Bool)→Nat→Nat→List Nat→Int→List aI→r
def Ai (bj:fG Prop) (a7:fG Nat) (a0:aS) (g1:Nat) (aU:(List b4)) (dI:Int) (bS:List (List Bool)) (g2 g3:Nat) (cV:List Nat) (bY:Int) (ws2:List aI):Prop:=
  bj g1 aU dI (bS++[(List.replicate ((nth a0.U bY).ae.length:Int).toNat false)]) (g2+1) (g3+1) (cV++[bS.length]) (IntKind.i64.wrap (bY+1)) (ws2++[(aI.mk 0 0 (List.replicate ((nth a0.U bY).ae.length:Int).toNat false) false 0)])∧a7 g1 aU dI (bS++[(List.replicate ((nth a0.U bY).ae.length:Int).toNat false)]) (g2+1) (g3+1) (cV++[bS.length]) (IntKind.i64.wrap (bY+1)) (ws2++[(aI.mk 0 0 (List.replicate ((nth a0.U bY).ae.length:Int).toNat false) false 0)])<a7 g1 aU dI bS g2 g3 cV bY ws2
def Aj (bj:fG Prop) (a7:fG Nat) (a0:aS) (g1:Nat) (aU:(List b4)) (dI:Int) (bS:List (List Bool)) (g2 g3:Nat) (cV:List Nat) (bY:Int) (ws2:List aI):Prop:=
  ((0≤bY∧bY.toNat<a0.U.length)∧((0≤((nth a0.U bY).ae.length:Int)∧1*((nth a0.U bY).ae.length:Int)≤140737488355328∧((nth a0.U bY).ae.length:Int)≤4611686018427387904)∧(ws2.length=cV.length∧((ws2.length+1)*56≤140737488355328∧ws2.length+1≤4611686018427387904))))∧(Ai bj a7 a0 g1 aU dI bS g2 g3 cV bY ws2)
def Ak (bj:fG Prop) (a7:fG Nat) (a0:aS) (ah:Frame) (g1:Nat) (aU:(List b4)) (dI:Int) (bS:List (List Bool)) (g2 g3:Nat) (cV:List Nat) (bY:Int) (ws2:List aI):Prop:=
  ((decide (bY<(a0.U.length:Int)))=false→(true=ah.ok)∧((List.replicate a0.ae.toNat false).length≤4611686018427387904∧(List.replicate a0.ae.toNat false)=ah.bM)∧(aU.length≤4611686018427387904∧aU=ah.bP)∧(lk ws2 cV bS∧ws2.length≤4611686018427387904∧(∀x∈bS,List.length x≤4611686018427387904)∧view ws2 cV bS=ah.U))∧((decide (bY<(a0.U.length:Int)))=true→Aj bj a7 a0 g1 aU dI bS g2 g3 cV bY ws2)
abbrev iM (r:Type):Type:=Nat→(List b4)→Int→r
def Al (ap:iM Prop) (au:iM Nat) (bj:fG Prop) (a7:fG Nat) (a0:aS) (ah:Frame) (g1:Nat) (aU:(List b4)) (dI:Int):Prop:=
  ((decide (dI<(a0.aR.length:Int)))=false→a0.U.length≤4611686018427387904→bj g1 aU dI ([]:List (List Bool)) 0 0 ([]:List Nat) 0 ([]:List aI)∧ ∀(bS:List (List Bool)) (g2:Nat) (g3:Nat) (cV:List Nat) (bY:Int) (ws2:List aI),bj g1 aU dI bS g2 g3 cV bY ws2→(Ak bj a7 a0 ah g1 aU dI bS g2 g3 cV bY ws2))∧((decide (dI<(a0.aR.length:Int)))=true→((aU.length+[(b4.mk 1 1)].length)*16≤140737488355328∧aU.length+[(b4.mk 1 1)].length≤4611686018427387904)∧(ap (g1+1) (aU++[(b4.mk 1 1)]) (IntKind.i64.wrap (dI+1))∧au (g1+1) (aU++[(b4.mk 1 1)]) (IntKind.i64.wrap (dI+1))<au g1 aU dI))
def Am (ap:iM Prop) (au:iM Nat) (bj:fG Prop) (a7:fG Nat) (a0:aS) (ah:Frame):Prop:=
  ((!(e1 a0))=true→(false=ah.ok)∧([]=ah.bM)∧([]=ah.bP)∧([]=ah.U))∧((!(!(e1 a0)))=true→(0≤a0.ae∧1*a0.ae≤140737488355328∧a0.ae≤4611686018427387904)∧(a0.aR.length≤4611686018427387904→ap 0 ([]:List b4) 0∧ ∀(g1:Nat) (aU:(List b4)) (dI:Int),ap g1 aU dI→(Al ap au bj a7 a0 ah g1 aU dI)))
def Ah (a0:aS) (ah:Frame) (ap:iM Prop) (au:iM Nat) (bj:fG Prop) (a7:fG Nat):Prop:=
 Am ap au bj a7 a0 ah
theorem Rv (a0:aS) (ah:Frame) (ap:iM Prop) (au:iM Nat) (bj:fG Prop) (a7:fG Nat) (h:Ah a0 ah ap au bj a7):bh Try.prog 32 [.agg (bT false a0)] (.agg (hT true ah)):=by
 unfold Ah at h
 refine ej.go (fn:=Try.f32) [(0,.agg (bT false a0))] Try.func32 (fun _ _=> ?_)
 show WpS _ (bg An 1) _ ⟨bd 45 [(0,.agg (bT false a0))],[],[]⟩
 refine ti [1000003] 0 [(2,aZ 2 0),(1,aZ 1 0)] [2] [] [(2,[aP false,aK,aK,aK]),(1,(bT false a0))] [] ?_
 unfold Am at h
 obtain⟨QH,h⟩:=h
 refine lC [] [2] ((!(!(e1 a0)))=true) ?_ (fun q2=> ?_)
 ·
  replace h:=QH
  refine lC [(8,aP (!(e1 a0)))] [2] (True) ?_ (fun q3=> ?_)
  ·
   refine gB [1000003] 1 ?_
   refine GR 2 (some 7) [(6,.agg (bT false a0))] [.agg (bT false a0)] (RK a0) (aw.cons (fB.agg (aw.cons (.int _ _) (aw.cons j2 (aw.cons j2 (aw.cons j2 (aw.cons (.int _ _) aw.nil)))))) aw.nil) ?_
   exact jh [(8,aP (!(e1 a0)))] trivial
  refine pt (fun q4=> ?_) (fun q4=> ?_)
  ·
   replace h:=h q4
   refine mX [1000003] 2 [(9,.agg [aP false,aK,aK,aK])] [] [0,1,1] ?_
   exact me (fs.ret (zZ (.agg [aP false,aK,aK,aK]) (iy.agg (aw.cons (vr h.1) (aw.cons (vt h.2.1) (aw.cons (vt h.2.2.1) (aw.cons (vt h.2.2.2) aw.nil)))))))
  ·
   refine mY ?_
   exact fs.normal (by simp only[q4]<;>rfl) l3
 replace h:=h q2
 obtain⟨QG,h⟩:=h
 refine mf [(3,aZ 3 0)] [2] (fun L=>(3,[aP true,aD 0 0 (List.replicate a0.ae.toNat false).length,aK,aK])::L) (fun _=>[⟨0,1,List.map bm (List.replicate a0.ae.toNat false)⟩]) (True) ?_ (fun c4=> ?_)
 ·
  replace h:=QG
  refine gB [1000003] 3 ?_
  have oM:=h
  refine z8 3 (some 12) [(11,aG a0.ae),(10,aZ 1 0)] bm 1 [aP false] 0 (fun r=>[⟨0,1,r⟩]) false oM ?_
  exact jh [(3,aZ 3 0),(13,.agg [aP true,aD 0 0 (List.replicate a0.ae.toNat false).length,aK,aK])] trivial
 refine pu ?_
 refine lC [(16,aG (a0.aR.length:Int)),(17,aG 0)] [3] (a0.aR.length≤4611686018427387904) ?_ (fun va=> ?_)
 ·
  refine gB [1000003] 4 ?_
  refine sLen 3 (some 16) [(15,b_ c1 a0.aR),(14,aZ 1 1)] c1 a0.aR (fun vb=> ?_)
  exact jh [(17,aG 0)] vb
 replace h:=h va
 refine mW 0 ?_
 refine WpS.l2 ?_ (qC (s'':=⟨(bd 45 [(16,aG (a0.aR.length:Int)),(17,aG 0),(3,aZ 3 0),(2,aZ 2 0),(1,aZ 1 0)]),[(3,[aP true,aD 0 0 (List.replicate a0.ae.toNat false).length,aD 1 0 ([]:List b4).length,aK]),(2,[aP false,aK,aK,aK]),(1,(bT false a0))],[⟨0,1,List.map bm (List.replicate a0.ae.toNat false)⟩,⟨0,2,List.map cb ([]:List b4)⟩]⟩) (Weak.qZ (T:=(bd 45 [(16,aG (a0.aR.length:Int)),(17,aG 0),(3,aZ 3 0),(2,aZ 2 0),(1,aZ 1 0)])) (L:=[(3,[aP true,aD 0 0 (List.replicate a0.ae.toNat false).length,aK,aK]),(2,[aP false,aK,aK,aK]),(1,(bT false a0))]) (H:=[⟨0,1,List.map bm (List.replicate a0.ae.toNat false)⟩]) (cells:=[aP true,aD 0 0 (List.replicate a0.ae.toNat false).length,aK,aK]) 3 2 2 (by kernel_rfl) (by kernel_rfl)) (by kernel_rfl))
 obtain⟨QF,h⟩:=h
 refine th (fun(v:Nat×(List b4)×Int)=>(⟨(bd 45 [(1,aZ 1 0),(2,aZ 2 0),(3,aZ 3 0),(16,aG (a0.aR.length:Int)),(17,aG (v.2.2))]),[(3,[aP true,aD 0 0 (List.replicate a0.ae.toNat false).length,aD 1 (v.1) (v.2.1).length,aK]),(2,[aP false,aK,aK,aK]),(1,(bT false a0))],[⟨0,1,List.map bm (List.replicate a0.ae.toNat false)⟩,⟨(v.1),2,List.map cb (v.2.1)⟩]⟩:St)) (fun(v:Nat×(List b4)×Int)=>ap (v.1) (v.2.1) (v.2.2)) (fun(v:Nat×(List b4)×Int)=>au (v.1) (v.2.1) (v.2.2)) (0,([]:List b4),0) (nD []) QF (fun v bK=> ?_)
 obtain⟨g1,aU,dI⟩:=v
 replace h:=h g1 aU dI bK
 dsimp only
 refine mX [1000003] 5 [(18,aP (decide (dI<(a0.aR.length:Int))))] [1] [5] ?_
 unfold Al at h
 obtain⟨zN,h⟩:=h
 refine lC [] [0,1,5] ((decide (dI<(a0.aR.length:Int)))=true) ?_ (fun sh=> ?_)
 ·
  replace h:=zN
  refine pt (fun mJ=> ?_) (fun mJ=> ?_)
  ·
   refine mY ?_
   exact fs.normal (by simp only[q2,mJ]<;>rfl) l3
  ·
   replace h:=h mJ
   refine tg 0 ?_
   refine fs.exit ?_
   refine ix.exit ?_
   refine hy.here ?_
   refine hQ.normal ?_
   refine pu ?_
   refine nY ⟨(bd 45 [(2,aZ 2 0),(3,aZ 3 0),(27,b_ (cE false) a0.U),(28,aG (a0.U.length:Int)),(29,aG 0)]),[(3,[aP true,aD 0 0 (List.replicate a0.ae.toNat false).length,aD 1 g1 aU.length,aK]),(2,[aP false,aK,aK,aK]),(1,(bT false a0))],[⟨0,1,List.map bm (List.replicate a0.ae.toNat false)⟩,⟨g1,2,List.map cb aU⟩]⟩ (a0.U.length≤4611686018427387904) ?_ (fun zD=> ?_)
   ·
    refine gB [1000003] 8 ?_
    refine sLen 3 (some 28) [(27,b_ (cE false) a0.U),(26,aZ 1 2)] (cE false) a0.U (fun zE=> ?_)
    exact jh [(29,aG 0)] zE
   replace h:=h zD
   refine mW 2 ?_
   refine WpS.l2 ?_ (qC (s'':=⟨(bd 45 [(2,aZ 2 0),(3,aZ 3 0),(27,b_ (cE false) a0.U),(28,aG (a0.U.length:Int)),(29,aG 0)]),[(3,[aP true,aD 0 0 (List.replicate a0.ae.toNat false).length,aD 1 g1 aU.length,aD 2 0 ([]:List aI).length]),(2,[aP false,aK,aK,aK]),(1,(bT false a0))],[⟨0,1,List.map bm (List.replicate a0.ae.toNat false)⟩,⟨g1,2,List.map cb aU⟩,⟨0,5,cd 4 ([]:List aI) ([]:List Nat)⟩]⟩) (Weak.qZ (T:=(bd 45 [(2,aZ 2 0),(3,aZ 3 0),(27,b_ (cE false) a0.U),(28,aG (a0.U.length:Int)),(29,aG 0)])) (L:=[(3,[aP true,aD 0 0 (List.replicate a0.ae.toNat false).length,aD 1 g1 aU.length,aK]),(2,[aP false,aK,aK,aK]),(1,(bT false a0))]) (H:=[⟨0,1,List.map bm (List.replicate a0.ae.toNat false)⟩,⟨g1,2,List.map cb aU⟩]) (cells:=[aP true,aD 0 0 (List.replicate a0.ae.toNat false).length,aD 1 g1 aU.length,aK]) 3 3 5 (by kernel_rfl) (by kernel_rfl)) (by kernel_rfl))
   refine WpS.l2 ?_ (qC (s'':=⟨(bd 45 [(2,aZ 2 0),(3,aZ 3 0),(27,b_ (cE false) a0.U),(28,aG (a0.U.length:Int)),(29,aG 0)]),[(3,[aP true,aD 0 0 (List.replicate a0.ae.toNat false).length,aD 1 g1 aU.length,aD 2 0 ([]:List aI).length]),(2,[aP false,aK,aK,aK]),(1,(bT false a0))],(⟨0,1,List.map bm (List.replicate a0.ae.toNat false)⟩::⟨g1,2,List.map cb aU⟩::⟨0,5,cd 4 ([]:List aI) ([]:List Nat)⟩::⟨0,5,[]⟩::List.map cj ([]:List (List Bool)))⟩) (Weak.FE (T:=(bd 45 [(2,aZ 2 0),(3,aZ 3 0),(27,b_ (cE false) a0.U),(28,aG (a0.U.length:Int)),(29,aG 0)])) (L:=[(3,[aP true,aD 0 0 (List.replicate a0.ae.toNat false).length,aD 1 g1 aU.length,aD 2 0 ([]:List aI).length]),(2,[aP false,aK,aK,aK]),(1,(bT false a0))]) (H:=[⟨0,1,List.map bm (List.replicate a0.ae.toNat false)⟩,⟨g1,2,List.map cb aU⟩,⟨0,5,cd 4 ([]:List aI) ([]:List Nat)⟩]) 5) (by kernel_rfl))
   obtain⟨zK,h⟩:=h
   refine th (fun(v:List (List Bool)×Nat×Nat×List Nat×Int×List aI)=>(⟨(bd 45 [(2,aZ 2 0),(3,aZ 3 0),(27,b_ (cE false) a0.U),(28,aG (a0.U.length:Int)),(29,aG (v.2.2.2.2.1))]),[(3,[aP true,aD 0 0 (List.replicate a0.ae.toNat false).length,aD 1 g1 aU.length,aD 2 (v.2.1) (v.2.2.2.2.2).length]),(2,[aP false,aK,aK,aK])],(⟨0,1,List.map bm (List.replicate a0.ae.toNat false)⟩::⟨g1,2,List.map cb aU⟩::⟨(v.2.1),5,cd 4 (v.2.2.2.2.2) (v.2.2.2.1)⟩::⟨(v.2.2.1),5,[]⟩::List.map cj (v.1))⟩:St)) (fun(v:List (List Bool)×Nat×Nat×List Nat×Int×List aI)=>bj g1 aU dI (v.1) (v.2.1) (v.2.2.1) (v.2.2.2.1) (v.2.2.2.2.1) (v.2.2.2.2.2)) (fun(v:List (List Bool)×Nat×Nat×List Nat×Int×List aI)=>a7 g1 aU dI (v.1) (v.2.1) (v.2.2.1) (v.2.2.2.1) (v.2.2.2.2.1) (v.2.2.2.2.2)) (([]:List (List Bool)),0,0,([]:List Nat),0,([]:List aI)) (nD [1]) zK (fun v bK=> ?_)
   obtain⟨bS,g2,g3,cV,bY,ws2⟩:=v
   replace h:=h bS g2 g3 cV bY ws2 bK
   dsimp only
   refine mX [1000003] 9 [(30,aP (decide (bY<(a0.U.length:Int))))] [1] [5] ?_
   unfold Ak at h
   obtain⟨zJ,h⟩:=h
   refine lC [] [0,1,5] ((decide (bY<(a0.U.length:Int)))=true) ?_ (fun zF=> ?_)
   ·
    replace h:=zJ
    refine pt (fun oL=> ?_) (fun oL=> ?_)
    ·
     refine mY ?_
     exact fs.normal (by simp only[q2,mJ,oL]<;>rfl) l3
    ·
     replace h:=h oL
     refine tg 2 ?_
     refine fs.exit ?_
     refine ix.exit ?_
     refine hy.here ?_
     refine hQ.normal ?_
     refine nY ⟨(bd 45 [(2,aZ 2 0)]),[(3,[aP true,aD 0 0 (List.replicate a0.ae.toNat false).length,aD 1 g1 aU.length,aD 2 g2 ws2.length]),(2,[aP true,aD 0 0 (List.replicate a0.ae.toNat false).length,aD 1 g1 aU.length,aD 2 g2 ws2.length])],(⟨0,1,List.map bm (List.replicate a0.ae.toNat false)⟩::⟨g1,2,List.map cb aU⟩::⟨g2,5,cd 4 ws2 cV⟩::⟨g3,5,[]⟩::List.map cj bS)⟩ (True) ?_ (fun QD=> ?_)
     ·
      refine gB [1000003] 13 ?_
      exact jh [(44,.agg [aP true,aD 0 0 (List.replicate a0.ae.toNat false).length,aD 1 g1 aU.length,aD 2 g2 ws2.length])] trivial
     exact me (zZ (.agg [aP true,aD 0 0 (List.replicate a0.ae.toNat false).length,aD 1 g1 aU.length,aD 2 g2 ws2.length]) (iy.agg (aw.cons (vr h.1) (aw.cons (qw (sz:=1) (by simp) rfl (tf) h.2.1) (aw.cons (qw (sz:=2) (by simp) rfl (wL) h.2.2.1) (aw.cons (Hv (s:=4) (ws:=ws2) (ids:=cV) (bs:=bS) (by simp) rfl (fun id k h=>by simpa using h) h.2.2.2) aw.nil))))))
   replace h:=h zF
   unfold Aj at h
   obtain⟨Gk,h⟩:=h
   refine mf [] [5] (fun L=>(5,(cE false (nth a0.U bY)))::fT 0 3 (aD 2 (g2+1) (ws2++[(aI.mk 0 0 (List.replicate ((nth a0.U bY).ae.length:Int).toNat false) false 0)]).length) L) (fun _=>(⟨0,1,List.map bm (List.replicate a0.ae.toNat false)⟩::⟨g1,2,List.map cb aU⟩::⟨(g2+1),5,cd 4 (ws2++[(aI.mk 0 0 (List.replicate ((nth a0.U bY).ae.length:Int).toNat false) false 0)]) (cV++[bS.length])⟩::⟨(g3+1),5,[[aG 0,aG 0,aD (bS.length+4) 0 (List.replicate ((nth a0.U bY).ae.length:Int).toNat false).length,aP false,aG 0]]⟩::List.map cj (bS++[(List.replicate ((nth a0.U bY).ae.length:Int).toNat false)]))) (True) ?_ (fun QE=> ?_)
   ·
    replace h:=Gk
    refine mW 3 ?_
    obtain⟨zI,h⟩:=h
    refine mf [(5,aZ 5 0)] [5] (fun L=>(5,(cE false (nth a0.U bY)))::L) id (True) ?_ (fun S0=> ?_)
    ·
     replace h:=zI
     refine gB [1000003] 10 ?_
     have zG:=h
     refine GU 1 (some 31) [] (cE false) a0.U 5 zG ?_
     exact jh [(5,aZ 5 0),(32,.agg (cE false (nth a0.U bY)))] trivial
    refine zV [1000003] 11 Rt Ru [] ?_
    refine R7 5 (some 37) [(36,b_ c1 (nth a0.U bY).ae),(35,aZ 5 0),(34,aD 2 g2 ws2.length),(33,aZ 3 3)] c1 (nth a0.U bY).ae ?_
    obtain⟨zH,h⟩:=h
    refine R8 1 (some 38) [] 1 [aP false] (fun r=>m3 Try.prog (hI An 16025) [0,1] [(37,aG ((nth a0.U bY).ae.length:Int)),(36,b_ c1 (nth a0.U bY).ae),(35,aZ 5 0),(34,aD 2 g2 ws2.length),(33,aZ 3 3),(5,aZ 5 0),(2,aZ 2 0),(3,aZ 3 0),(27,b_ (cE false) a0.U),(28,aG (a0.U.length:Int)),(29,aG bY)] [(5,(cE false (nth a0.U bY))),(3,[aP true,aD 0 0 (List.replicate a0.ae.toNat false).length,aD 1 g1 aU.length,aD 2 g2 ws2.length]),(2,[aP false,aK,aK,aK])] r) (bS.length+4) (⟨0,1,List.map bm (List.replicate a0.ae.toNat false)⟩::⟨g1,2,List.map cb aU⟩::⟨g2,5,cd 4 ws2 cV⟩::⟨g3,5,[]⟩::List.map cj (bS++[(List.replicate ((nth a0.U bY).ae.length:Int).toNat false)])) zH (by simp) (by simp only[List.cons_append,xC]) (r7 (ψ:=((true=true∧true=true∧((aZ 3 3:AV)=aZ 3 3))∧((true=true∧true=true∧((aD 2 g2 ws2.length:AV)=aD 2 g2 ws2.length))∧True))) (by kernel_rfl) ⟨⟨rfl,rfl,rfl⟩,⟨⟨rfl,rfl,rfl⟩,trivial⟩⟩) ?_
    refine vz 2 [(40,.ref 3 (g3+1) 0 1 true),(39,.agg [aG 0,aG 0,aD (bS.length+4) 0 (List.replicate ((nth a0.U bY).ae.length:Int).toNat false).length,aP false,aG 0])] [(5,(cE false (nth a0.U bY))),(3,[aP true,aD 0 0 (List.replicate a0.ae.toNat false).length,aD 1 g1 aU.length,aD 2 g2 ws2.length]),(2,[aP false,aK,aK,aK])] (⟨0,1,List.map bm (List.replicate a0.ae.toNat false)⟩::⟨g1,2,List.map cb aU⟩::⟨g2,5,cd 4 ws2 cV⟩::⟨(g3+1),5,[[aG 0,aG 0,aD (bS.length+4) 0 (List.replicate ((nth a0.U bY).ae.length:Int).toNat false).length,aP false,aG 0]]⟩::List.map cj (bS++[(List.replicate ((nth a0.U bY).ae.length:Int).toNat false)])) (φ:=m3 Try.prog (hI An 16025) [0,1] [(39,.agg [aG 0,aG 0,aD (bS.length+4) 0 (List.replicate ((nth a0.U bY).ae.length:Int).toNat false).length,aP false,aG 0]),(38,aD (bS.length+4) 0 (List.replicate ((nth a0.U bY).ae.length:Int).toNat false).length),(37,aG ((nth a0.U bY).ae.length:Int)),(36,b_ c1 (nth a0.U bY).ae),(35,aZ 5 0),(34,aD 2 g2 ws2.length),(33,aZ 3 3),(5,aZ 5 0),(2,aZ 2 0),(3,aZ 3 0),(27,b_ (cE false) a0.U),(28,aG (a0.U.length:Int)),(29,aG bY)] [(5,(cE false (nth a0.U bY))),(3,[aP true,aD 0 0 (List.replicate a0.ae.toNat false).length,aD 1 g1 aU.length,aD 2 g2 ws2.length]),(2,[aP false,aK,aK,aK])] (⟨0,1,List.map bm (List.replicate a0.ae.toNat false)⟩::⟨g1,2,List.map cb aU⟩::⟨g2,5,cd 4 ws2 cV⟩::⟨(g3+1),5,[[aG 0,aG 0,aD (bS.length+4) 0 (List.replicate ((nth a0.U bY).ae.length:Int).toNat false).length,aP false,aG 0]]⟩::List.map cj (bS++[(List.replicate ((nth a0.U bY).ae.length:Int).toNat false)]))) (r7 (ψ:=((true=true∧true=true∧((aZ 3 3:AV)=aZ 3 3))∧((true=true∧true=true∧((aD 2 g2 ws2.length:AV)=aD 2 g2 ws2.length))∧True))) (by kernel_rfl) ⟨⟨rfl,rfl,rfl⟩,⟨⟨rfl,rfl,rfl⟩,trivial⟩⟩) ?_
    have u_:=h
    refine HF 1 (some 41) [] 4 2 g2 (g3+1) 56 ws2 cV (aI.mk 0 0 (List.replicate ((nth a0.U bY).ae.length:Int).toNat false) false 0) bS.length (fun _=>True) (fun r=>(⟨0,1,List.map bm (List.replicate a0.ae.toNat false)⟩::⟨g1,2,List.map cb aU⟩::⟨(g2+1),5,r⟩::⟨(g3+1),5,[[aG 0,aG 0,aD (bS.length+4) 0 (List.replicate ((nth a0.U bY).ae.length:Int).toNat false).length,aP false,aG 0]]⟩::List.map cj (bS++[(List.replicate ((nth a0.U bY).ae.length:Int).toNat false)]))) u_.1 u_.2 trivial ?_
    refine vz 2 [(42,aZ 3 3)] [(5,(cE false (nth a0.U bY))),(3,[aP true,aD 0 0 (List.replicate a0.ae.toNat false).length,aD 1 g1 aU.length,aD 2 (g2+1) (ws2++[(aI.mk 0 0 (List.replicate ((nth a0.U bY).ae.length:Int).toNat false) false 0)]).length]),(2,[aP false,aK,aK,aK])] (⟨0,1,List.map bm (List.replicate a0.ae.toNat false)⟩::⟨g1,2,List.map cb aU⟩::⟨(g2+1),5,cd 4 (ws2++[(aI.mk 0 0 (List.replicate ((nth a0.U bY).ae.length:Int).toNat false) false 0)]) (cV++[bS.length])⟩::⟨(g3+1),5,[[aG 0,aG 0,aD (bS.length+4) 0 (List.replicate ((nth a0.U bY).ae.length:Int).toNat false).length,aP false,aG 0]]⟩::List.map cj (bS++[(List.replicate ((nth a0.U bY).ae.length:Int).toNat false)])) (φ:=True) trivial ?_
    refine HH [] ?_
    refine hy.normal ?_
    exact fs.normal trivial l3
   unfold Ai at h
   refine gB [1000003] 12 ?_
   refine qq [(29,aG (IntKind.i64.wrap (bY+1))),(43,aG (IntKind.i64.wrap (bY+1)))] ?_
   exact ix.again ((bS++[(List.replicate ((nth a0.U bY).ae.length:Int).toNat false)]),(g2+1),(g3+1),(cV++[bS.length]),(IntKind.i64.wrap (bY+1)),(ws2++[(aI.mk 0 0 (List.replicate ((nth a0.U bY).ae.length:Int).toNat false) false 0)])) h ((Weak.clear 3 rfl:Weak ⟨(bd 45 [(29,aG (IntKind.i64.wrap (bY+1))),(43,aG (IntKind.i64.wrap (bY+1))),(2,aZ 2 0),(3,aZ 3 0),(27,b_ (cE false) a0.U),(28,aG (a0.U.length:Int))]),[(5,(cE false (nth a0.U bY))),(3,[aP true,aD 0 0 (List.replicate a0.ae.toNat false).length,aD 1 g1 aU.length,aD 2 (g2+1) (ws2++[(aI.mk 0 0 (List.replicate ((nth a0.U bY).ae.length:Int).toNat false) false 0)]).length]),(2,[aP false,aK,aK,aK])],(⟨0,1,List.map bm (List.replicate a0.ae.toNat false)⟩::⟨g1,2,List.map cb aU⟩::⟨(g2+1),5,cd 4 (ws2++[(aI.mk 0 0 (List.replicate ((nth a0.U bY).ae.length:Int).toNat false) false 0)]) (cV++[bS.length])⟩::⟨(g3+1),5,[[aG 0,aG 0,aD (bS.length+4) 0 (List.replicate ((nth a0.U bY).ae.length:Int).toNat false).length,aP false,aG 0]]⟩::List.map cj (bS++[(List.replicate ((nth a0.U bY).ae.length:Int).toNat false)]))⟩ ⟨(bd 45 [(29,aG (IntKind.i64.wrap (bY+1))),(43,aG (IntKind.i64.wrap (bY+1))),(2,aZ 2 0),(3,aZ 3 0),(27,b_ (cE false) a0.U),(28,aG (a0.U.length:Int))]),[(5,(cE false (nth a0.U bY))),(3,[aP true,aD 0 0 (List.replicate a0.ae.toNat false).length,aD 1 g1 aU.length,aD 2 (g2+1) (ws2++[(aI.mk 0 0 (List.replicate ((nth a0.U bY).ae.length:Int).toNat false) false 0)]).length]),(2,[aP false,aK,aK,aK])],(⟨0,1,List.map bm (List.replicate a0.ae.toNat false)⟩::⟨g1,2,List.map cb aU⟩::⟨(g2+1),5,cd 4 (ws2++[(aI.mk 0 0 (List.replicate ((nth a0.U bY).ae.length:Int).toNat false) false 0)]) (cV++[bS.length])⟩::⟨(g3+1),5,[]⟩::List.map cj (bS++[(List.replicate ((nth a0.U bY).ae.length:Int).toNat false)]))⟩).trans (nD [5]))
 replace h:=h sh
 obtain⟨zM,h⟩:=h
 refine mf [] [5] (fun L=>fT 0 2 (aD 1 (g1+1) (aU++[(b4.mk 1 1)]).length) L) (fun H=>dv 1 ⟨(g1+1),2,List.map cb (aU++[(b4.mk 1 1)])⟩ H) (True) ?_ (fun Gl=> ?_)
 ·
  replace h:=zM
  refine mW 1 ?_
  refine gB [1000003] 6 ?_
  have zL:=h
  refine GP 5 (some 23) [(22,.av (List.map cb [(b4.mk 1 1)]) true true),(21,.agg [aG 1,aG 1]),(20,aD 1 g1 aU.length),(19,aZ 3 2)] cb aU [(b4.mk 1 1)] (kz true (List.map cb [(b4.mk 1 1)])) 1 g1 2 16 (fun r=>[⟨0,1,List.map bm (List.replicate a0.ae.toNat false)⟩,⟨(g1+1),2,r⟩]) rfl zL ?_
  refine GS [(24,aZ 3 2)] [(3,[aP true,aD 0 0 (List.replicate a0.ae.toNat false).length,aD 1 (g1+1) (aU++[(b4.mk 1 1)]).length,aK]),(2,[aP false,aK,aK,aK]),(1,(bT false a0))] [⟨0,1,List.map bm (List.replicate a0.ae.toNat false)⟩,⟨(g1+1),2,List.map cb (aU++[(b4.mk 1 1)])⟩] ?_
  refine hy.normal ?_
  exact fs.normal trivial l3
 refine gB [1000003] 7 ?_
 refine qq [(17,aG (IntKind.i64.wrap (dI+1))),(25,aG (IntKind.i64.wrap (dI+1)))] ?_
 exact ix.again ((g1+1),(aU++[(b4.mk 1 1)]),(IntKind.i64.wrap (dI+1))) h (nD [])
theorem Rs (a0:aS):bh Try.prog 32 [.agg (bT false a0)] (.agg (hT true (fR a0))):=Rv a0 (fR a0) (fun _ x v=>c5 a0.aR.length (fun _=>false) v∧x=List.replicate v.toNat (b4.mk 1 1)) (fun _ _ v=>dD a0.aR.length v) (fun _ x _ bs _ _ is v ws=>x=List.replicate a0.aR.length (b4.mk 1 1)∧c5 a0.U.length (fun _=>false) v∧ws=(a0.U.take v.toNat).map (fun w=>jT w.ae.length)∧is=List.range ws.length∧bs=ws.map aI.aF) (fun _ _ _ _ _ _ _ v _=>dD a0.U.length v) (by
 unfold Ah Am
 refine⟨fun h=> ?_,fun h=> ?_⟩
 ·have h:e1 a0=false:=by simpa using h
  unfold fR;rw[if_neg (by rw[h];simp)];exact⟨rfl,rfl,rfl,rfl⟩
 have h:e1 a0=true:=by simpa using h
 have fC:=u5 h
 have h1:=fC.vj
 have h2:=fC.bE
 have ao:=fC.U
 have e:fR a0=⟨true,List.replicate a0.ae.toNat false,List.replicate a0.aR.length ⟨1,1⟩,a0.U.map fun w=>jT w.ae.length⟩:=by unfold fR;rw[if_pos h]
 rw[e]
 refine⟨⟨by omega,by omega,by omega⟩,fun af=>⟨⟨fp (ep _),rfl⟩,fun g x v bK=> ?_⟩⟩
 obtain⟨bK,rfl⟩:=bK
 have M7:=bK.2.1
 unfold Al
 refine⟨fun hv hm=>⟨⟨?_,fp (ep _),rfl,rfl,rfl⟩,fun bs g2 g3 is k ws gq=> ?_⟩,fun hv=>⟨⟨?_,?_⟩,⟨(eM (eR af) bK hv rfl).1,?_⟩,(eM (eR af) bK hv rfl).2⟩⟩
 ·have: ¬v<(a0.aR.length:Int):=by simpa using hv
  rw[show v.toNat=a0.aR.length by omega]
 ·obtain⟨hx,gq,rfl,rfl,rfl⟩:=gq
  have Mz:=gq.2.1
  have m_:=gq.1
  have ak:((a0.U.take k.toNat).map fun w=>jT w.ae.length).length=k.toNat:=by rw[List.length_map,List.length_take];omega
  obtain⟨cL,dd,ez⟩:=Cm ((a0.U.take k.toNat).map fun w=>jT w.ae.length)
  have Dw:(decide (k<(a0.U.length:Int)))=true→1*((nth a0.U k).ae.length:Int)≤140737488355328:=fun hk=>by
   have:=(fC.ae _ (iL (ea gq hk).2)).2.1;omega
  unfold Ak Aj Ai
  refine⟨fun hk=>⟨rfl,⟨by rw[List.length_replicate];omega,rfl⟩,⟨by rw[List.length_replicate];omega,hx⟩,cL,by omega,fun b hb=> ?_,?_⟩,fun hk=>⟨⟨⟨m_,(ea gq hk).2⟩,⟨by omega,Dw hk,by have:=Dw hk;omega⟩,by rw[List.length_range],by omega,by omega⟩,⟨hx,(eM (eR hm) gq hk rfl).1,?_,?_,?_⟩,(eM (eR hm) gq hk rfl).2⟩⟩
  ·obtain⟨y,ax,rfl⟩:=List.mem_map.1 hb
   obtain⟨w,hw,rfl⟩:=List.mem_map.1 ax
   have:=(fC.ae w (List.mem_of_mem_take hw)).2.1
   simp[jT];omega
  ·rw[ez]
   have: ¬k<(a0.U.length:Int):=by simpa using hk
   rw[List.take_of_length_le (by omega)]
  ·have iE:=ea gq hk
   rw[o3 (eR hm) m_ (by simpa using hk),show(k+1).toNat=k.toNat+1 by omega,List.take_succ_eq_append_getElem iE.2,←jf iE.2,List.map_append];rfl
  ·rw[List.length_append,List.length_singleton,List.range_succ,List.length_map]
   simp
  ·rw[List.map_append];rfl
 ·rw[List.length_replicate,List.length_singleton];omega
 ·rw[List.length_replicate,List.length_singleton];omega
 ·rw[o3 (eR af) bK.1 (by simpa using hv),show(v+1).toNat=v.toNat+1 by have:=bK.1;omega,List.replicate_succ'])
end Go.Proofs.Ytglpfccgmfhkdaa.Fw
set_option linter.unusedVariables false
namespace Go.Proofs.Ytglpfccgmfhkdaa.Fw
open Go
theorem Ql {R:Frame} {ok:Bool} {H:List Blk} (h:ok=R.ok∧[]=R.bM∧[]=R.bP∧[]=R.U):
  ∃b1,mU H
   (⟨0,1,List.map bm R.bM⟩::⟨0,2,List.map cb R.bP⟩::⟨0,5,cd 3 R.U (List.range R.U.length)⟩::List.map cj (List.map aI.aF R.U)) b1∧
   wg H
    (⟨0,1,List.map bm R.bM⟩::⟨0,2,List.map cb R.bP⟩::⟨0,5,cd 3 R.U (List.range R.U.length)⟩::List.map cj (List.map aI.aF R.U)).length b1 (.agg [.bool ok,aK,aK,aK])
    (.agg [.bool R.ok,.ref 0 0 0 R.bM.length false,.ref 1 0 0 R.bP.length false,.ref 2 0 0 R.U.length false]):=by
 obtain⟨k,o,p,w⟩:=R
 obtain⟨rfl,rfl,rfl,rfl⟩:=h
 exact⟨oR [none,none,none],r_ [none,none,none] rfl (by decide) ⟨rfl,trivial,⟨rfl,trivial,⟨rfl,trivial,trivial⟩⟩⟩,.inl ⟨_,_,rfl,rfl,aw.cons (FT rfl) (aw.cons (u0 (by simp) rfl rfl rfl) (aw.cons (u0 (by simp) rfl rfl rfl) (aw.cons (u0 (by simp) rfl rfl rfl) aw.nil)))⟩⟩
end Go.Proofs.Ytglpfccgmfhkdaa.Fw
set_option linter.unusedVariables false
set_option maxRecDepth 100000
set_option maxHeartbeats 4000000
set_option linter.unusedSimpArgs false
namespace Go.Proofs.Ytglpfccgmfhkdaa.Fw
open Go
attribute [local irreducible] evS evSD WpS Weak Oper.looksAt
noncomputable def yL:Code:=lB Try.f33
def Nv:List Item:=[az 0,az 1,az 2,az 3,⟨4,true,false,[0,1]⟩,⟨5,true,false,[0,1]⟩,⟨6,true,false,[]⟩,az 7,⟨8,true,false,[]⟩]
def Nw:List (List Nat):=[[],[0],[],[],[2,3],[2,3,4],rg 0 6,rg 0 7,rg 0 8]
def yH (bj:fG Prop) (a7:fG Nat) (a0:aS) (g1:Nat) (aU:(List b4)) (fH:Int) (bS:List (List Bool)) (g2 g3:Nat) (cV:List Nat) (v28:Int) (ws2:List aI):Prop:=
  bj g1 aU fH (bS++[(bb a0 v28).aF]) (g2+1) (g3+1) (cV++[bS.length]) (IntKind.i64.wrap (v28+1)) (ws2++[(aI.mk (bb a0 v28).dW (bb a0 v28).cT (bb a0 v28).aF (bb a0 v28).dV (bb a0 v28).dX)])∧a7 g1 aU fH (bS++[(bb a0 v28).aF]) (g2+1) (g3+1) (cV++[bS.length]) (IntKind.i64.wrap (v28+1)) (ws2++[(aI.mk (bb a0 v28).dW (bb a0 v28).cT (bb a0 v28).aF (bb a0 v28).dV (bb a0 v28).dX)])<a7 g1 aU fH bS g2 g3 cV v28 ws2
def yI (bj:fG Prop) (a7:fG Nat) (a0:aS) (ah:Frame) (g1:Nat) (aU:(List b4)) (fH:Int) (bS:List (List Bool)) (g2 g3:Nat) (cV:List Nat) (v28:Int) (ws2:List aI):Prop:=
  ((decide (v28<(a0.U.length:Int)))=false→true=ah.ok∧(List.replicate a0.ae.toNat false)=ah.bM∧aU=ah.bP∧ws2=ah.U∧cV=List.range ws2.length∧bS=ws2.map aI.aF)∧((decide (v28<(a0.U.length:Int)))=true→((DJ a0 v28)∧(ws2.length=cV.length∧((ws2.length+1)*56≤140737488355328∧ws2.length+1≤4611686018427387904)))∧(yH bj a7 a0 g1 aU fH bS g2 g3 cV v28 ws2))
def yJ (ap:iM Prop) (au:iM Nat) (bj:fG Prop) (a7:fG Nat) (a0:aS) (ah:Frame) (g1:Nat) (aU:(List b4)) (fH:Int):Prop:=
  ((decide (fH<(a0.aR.length:Int)))=false→a0.U.length≤4611686018427387904→bj g1 aU fH ([]:List (List Bool)) 0 0 ([]:List Nat) 0 ([]:List aI)∧ ∀(bS:List (List Bool)) (g2:Nat) (g3:Nat) (cV:List Nat) (v28:Int) (ws2:List aI),bj g1 aU fH bS g2 g3 cV v28 ws2→(yI bj a7 a0 ah g1 aU fH bS g2 g3 cV v28 ws2))∧((decide (fH<(a0.aR.length:Int)))=true→((aU.length+[(b4.mk 1 1)].length)*16≤140737488355328∧aU.length+[(b4.mk 1 1)].length≤4611686018427387904)∧(ap (g1+1) (aU++[(b4.mk 1 1)]) (IntKind.i64.wrap (fH+1))∧au (g1+1) (aU++[(b4.mk 1 1)]) (IntKind.i64.wrap (fH+1))<au g1 aU fH))
def yK (ap:iM Prop) (au:iM Nat) (bj:fG Prop) (a7:fG Nat) (a0:aS) (ah:Frame):Prop:=
  ((!(e1 a0))=true→(false=ah.ok)∧([]=ah.bM)∧([]=ah.bP)∧([]=ah.U))∧((!(!(e1 a0)))=true→(0≤a0.ae∧1*a0.ae≤140737488355328∧a0.ae≤4611686018427387904)∧(a0.aR.length≤4611686018427387904→ap 0 ([]:List b4) 0∧ ∀(g1:Nat) (aU:(List b4)) (fH:Int),ap g1 aU fH→(yJ ap au bj a7 a0 ah g1 aU fH)))
def yG (a0:aS) (ah:Frame) (ap:iM Prop) (au:iM Nat) (bj:fG Prop) (a7:fG Nat):Prop:=
 yK ap au bj a7 a0 ah
theorem Nx (a0:aS) (ah:Frame) (ap:iM Prop) (au:iM Nat) (bj:fG Prop) (a7:fG Nat) (h:yG a0 ah ap au bj a7):ej Try.prog 33 [.agg (bT false a0)] [] (fun r H=>r= .agg [aP ah.ok,aD 0 0 ah.bM.length,aD 1 0 ah.bP.length,aD 2 0 ah.U.length]∧H=(⟨0,1,List.map bm ah.bM⟩::⟨0,2,List.map cb ah.bP⟩::⟨0,5,cd 3 ah.U (List.range ah.U.length)⟩::List.map cj (List.map aI.aF ah.U))):=by
 refine ej.toOwn ?_
 unfold yG at h
 refine ej.go (fn:=Try.f33) [(0,.agg (bT false a0))] Try.func33 (fun _ _=> ?_)
 show WpS _ (bg yL 1) _ ⟨bd 41 [(0,.agg (bT false a0))],[],[]⟩
 refine ti [1000003] 0 [(2,aZ 2 0),(1,aZ 1 0)] [2] [] [(2,[aP false,aK,aK,aK]),(1,(bT false a0))] [] ?_
 unfold yK at h
 obtain⟨zN,h⟩:=h
 refine lC [] [2] ((!(!(e1 a0)))=true) ?_ (fun q2=> ?_)
 ·
  replace h:=zN
  refine lC [(7,aP (!(e1 a0)))] [2] (True) ?_ (fun q3=> ?_)
  ·
   refine gB [1000003] 1 ?_
   refine GR 2 (some 6) [(5,.agg (bT false a0))] [.agg (bT false a0)] (NM a0) (aw.cons (fB.agg (aw.cons (.int _ _) (aw.cons j2 (aw.cons j2 (aw.cons j2 (aw.cons (.int _ _) aw.nil)))))) aw.nil) ?_
   exact jh [(7,aP (!(e1 a0)))] trivial
  refine pt (fun q4=> ?_) (fun q4=> ?_)
  ·
   replace h:=h q4
   refine mX [1000003] 2 [(8,.agg [aP false,aK,aK,aK])] [] [0,1,1] ?_
   refine me ?_
   refine fs.ret ?_
   refine qp (.agg [aP false,aK,aK,aK]) [.agg [aP false,aK,aK,aK]] ?_
   exact Ql h
  ·
   refine mY ?_
   exact fs.normal (by simp only[q4]<;>rfl) l3
 replace h:=h q2
 obtain⟨zM,h⟩:=h
 refine mf [(3,aZ 3 0)] [2] (fun L=>(3,[aP true,aD 0 0 (List.replicate a0.ae.toNat false).length,aK,aK])::L) (fun _=>[⟨0,1,List.map bm (List.replicate a0.ae.toNat false)⟩]) (True) ?_ (fun c4=> ?_)
 ·
  replace h:=zM
  refine gB [1000003] 3 ?_
  have oM:=h
  refine z8 3 (some 11) [(10,aG a0.ae),(9,aZ 1 0)] bm 1 [aP false] 0 (fun r=>[⟨0,1,r⟩]) false oM ?_
  exact jh [(3,aZ 3 0),(12,.agg [aP true,aD 0 0 (List.replicate a0.ae.toNat false).length,aK,aK])] trivial
 refine pu ?_
 refine lC [(15,aG (a0.aR.length:Int)),(16,aG 0)] [3] (a0.aR.length≤4611686018427387904) ?_ (fun va=> ?_)
 ·
  refine gB [1000003] 4 ?_
  refine sLen 3 (some 15) [(14,b_ c1 a0.aR),(13,aZ 1 1)] c1 a0.aR (fun vb=> ?_)
  exact jh [(16,aG 0)] vb
 replace h:=h va
 refine mW 0 ?_
 refine WpS.l2 ?_ (qC (s'':=⟨(bd 41 [(15,aG (a0.aR.length:Int)),(16,aG 0),(3,aZ 3 0),(2,aZ 2 0),(1,aZ 1 0)]),[(3,[aP true,aD 0 0 (List.replicate a0.ae.toNat false).length,aD 1 0 ([]:List b4).length,aK]),(2,[aP false,aK,aK,aK]),(1,(bT false a0))],[⟨0,1,List.map bm (List.replicate a0.ae.toNat false)⟩,⟨0,2,List.map cb ([]:List b4)⟩]⟩) (Weak.qZ (T:=(bd 41 [(15,aG (a0.aR.length:Int)),(16,aG 0),(3,aZ 3 0),(2,aZ 2 0),(1,aZ 1 0)])) (L:=[(3,[aP true,aD 0 0 (List.replicate a0.ae.toNat false).length,aK,aK]),(2,[aP false,aK,aK,aK]),(1,(bT false a0))]) (H:=[⟨0,1,List.map bm (List.replicate a0.ae.toNat false)⟩]) (cells:=[aP true,aD 0 0 (List.replicate a0.ae.toNat false).length,aK,aK]) 3 2 2 (by kernel_rfl) (by kernel_rfl)) (by kernel_rfl))
 obtain⟨zL,h⟩:=h
 refine th (fun(v:Nat×(List b4)×Int)=>(⟨(bd 41 [(1,aZ 1 0),(2,aZ 2 0),(3,aZ 3 0),(15,aG (a0.aR.length:Int)),(16,aG (v.2.2))]),[(3,[aP true,aD 0 0 (List.replicate a0.ae.toNat false).length,aD 1 (v.1) (v.2.1).length,aK]),(2,[aP false,aK,aK,aK]),(1,(bT false a0))],[⟨0,1,List.map bm (List.replicate a0.ae.toNat false)⟩,⟨(v.1),2,List.map cb (v.2.1)⟩]⟩:St)) (fun(v:Nat×(List b4)×Int)=>ap (v.1) (v.2.1) (v.2.2)) (fun(v:Nat×(List b4)×Int)=>au (v.1) (v.2.1) (v.2.2)) (0,([]:List b4),0) (nD []) zL (fun v bK=> ?_)
 obtain⟨g1,aU,fH⟩:=v
 replace h:=h g1 aU fH bK
 dsimp only
 refine mX [1000003] 5 [(17,aP (decide (fH<(a0.aR.length:Int))))] [1] [5] ?_
 unfold yJ at h
 obtain⟨Gl,h⟩:=h
 refine lC [] [0,1,5] ((decide (fH<(a0.aR.length:Int)))=true) ?_ (fun sh=> ?_)
 ·
  replace h:=Gl
  refine pt (fun mJ=> ?_) (fun mJ=> ?_)
  ·
   refine mY ?_
   exact fs.normal (by simp only[q2,mJ]<;>rfl) l3
  ·
   replace h:=h mJ
   refine tg 0 ?_
   refine fs.exit ?_
   refine ix.exit ?_
   refine hy.here ?_
   refine hQ.normal ?_
   refine pu ?_
   refine nY ⟨(bd 41 [(1,aZ 1 0),(2,aZ 2 0),(3,aZ 3 0),(27,aG (a0.U.length:Int)),(28,aG 0)]),[(3,[aP true,aD 0 0 (List.replicate a0.ae.toNat false).length,aD 1 g1 aU.length,aK]),(2,[aP false,aK,aK,aK]),(1,(bT false a0))],[⟨0,1,List.map bm (List.replicate a0.ae.toNat false)⟩,⟨g1,2,List.map cb aU⟩]⟩ (a0.U.length≤4611686018427387904) ?_ (fun zD=> ?_)
   ·
    refine gB [1000003] 8 ?_
    refine sLen 3 (some 27) [(26,b_ (cE false) a0.U),(25,aZ 1 2)] (cE false) a0.U (fun zE=> ?_)
    exact jh [(28,aG 0)] zE
   replace h:=h zD
   refine mW 2 ?_
   refine WpS.l2 ?_ (qC (s'':=⟨(bd 41 [(1,aZ 1 0),(2,aZ 2 0),(3,aZ 3 0),(27,aG (a0.U.length:Int)),(28,aG 0)]),[(3,[aP true,aD 0 0 (List.replicate a0.ae.toNat false).length,aD 1 g1 aU.length,aD 2 0 ([]:List aI).length]),(2,[aP false,aK,aK,aK]),(1,(bT false a0))],[⟨0,1,List.map bm (List.replicate a0.ae.toNat false)⟩,⟨g1,2,List.map cb aU⟩,⟨0,5,cd 4 ([]:List aI) ([]:List Nat)⟩]⟩) (Weak.qZ (T:=(bd 41 [(1,aZ 1 0),(2,aZ 2 0),(3,aZ 3 0),(27,aG (a0.U.length:Int)),(28,aG 0)])) (L:=[(3,[aP true,aD 0 0 (List.replicate a0.ae.toNat false).length,aD 1 g1 aU.length,aK]),(2,[aP false,aK,aK,aK]),(1,(bT false a0))]) (H:=[⟨0,1,List.map bm (List.replicate a0.ae.toNat false)⟩,⟨g1,2,List.map cb aU⟩]) (cells:=[aP true,aD 0 0 (List.replicate a0.ae.toNat false).length,aD 1 g1 aU.length,aK]) 3 3 5 (by kernel_rfl) (by kernel_rfl)) (by kernel_rfl))
   refine WpS.l2 ?_ (qC (s'':=⟨(bd 41 [(1,aZ 1 0),(2,aZ 2 0),(3,aZ 3 0),(27,aG (a0.U.length:Int)),(28,aG 0)]),[(3,[aP true,aD 0 0 (List.replicate a0.ae.toNat false).length,aD 1 g1 aU.length,aD 2 0 ([]:List aI).length]),(2,[aP false,aK,aK,aK]),(1,(bT false a0))],(⟨0,1,List.map bm (List.replicate a0.ae.toNat false)⟩::⟨g1,2,List.map cb aU⟩::⟨0,5,cd 4 ([]:List aI) ([]:List Nat)⟩::⟨0,5,[]⟩::List.map cj ([]:List (List Bool)))⟩) (Weak.FE (T:=(bd 41 [(1,aZ 1 0),(2,aZ 2 0),(3,aZ 3 0),(27,aG (a0.U.length:Int)),(28,aG 0)])) (L:=[(3,[aP true,aD 0 0 (List.replicate a0.ae.toNat false).length,aD 1 g1 aU.length,aD 2 0 ([]:List aI).length]),(2,[aP false,aK,aK,aK]),(1,(bT false a0))]) (H:=[⟨0,1,List.map bm (List.replicate a0.ae.toNat false)⟩,⟨g1,2,List.map cb aU⟩,⟨0,5,cd 4 ([]:List aI) ([]:List Nat)⟩]) 5) (by kernel_rfl))
   obtain⟨zI,h⟩:=h
   refine th (fun(v:List (List Bool)×Nat×Nat×List Nat×Int×List aI)=>(⟨(bd 41 [(1,aZ 1 0),(2,aZ 2 0),(3,aZ 3 0),(27,aG (a0.U.length:Int)),(28,aG (v.2.2.2.2.1))]),[(3,[aP true,aD 0 0 (List.replicate a0.ae.toNat false).length,aD 1 g1 aU.length,aD 2 (v.2.1) (v.2.2.2.2.2).length]),(2,[aP false,aK,aK,aK]),(1,(bT false a0))],(⟨0,1,List.map bm (List.replicate a0.ae.toNat false)⟩::⟨g1,2,List.map cb aU⟩::⟨(v.2.1),5,cd 4 (v.2.2.2.2.2) (v.2.2.2.1)⟩::⟨(v.2.2.1),5,[]⟩::List.map cj (v.1))⟩:St)) (fun(v:List (List Bool)×Nat×Nat×List Nat×Int×List aI)=>bj g1 aU fH (v.1) (v.2.1) (v.2.2.1) (v.2.2.2.1) (v.2.2.2.2.1) (v.2.2.2.2.2)) (fun(v:List (List Bool)×Nat×Nat×List Nat×Int×List aI)=>a7 g1 aU fH (v.1) (v.2.1) (v.2.2.1) (v.2.2.2.1) (v.2.2.2.2.1) (v.2.2.2.2.2)) (([]:List (List Bool)),0,0,([]:List Nat),0,([]:List aI)) (nD []) zI (fun v bK=> ?_)
   obtain⟨bS,g2,g3,cV,v28,ws2⟩:=v
   replace h:=h bS g2 g3 cV v28 ws2 bK
   dsimp only
   refine mX [1000003] 9 [(29,aP (decide (v28<(a0.U.length:Int))))] [1] [5] ?_
   unfold yI at h
   obtain⟨zH,h⟩:=h
   refine lC [] [0,1,5] ((decide (v28<(a0.U.length:Int)))=true) ?_ (fun zF=> ?_)
   ·
    replace h:=zH
    refine pt (fun oL=> ?_) (fun oL=> ?_)
    ·
     refine mY ?_
     exact fs.normal (by simp only[q2,mJ,oL]<;>rfl) l3
    ·
     replace h:=h oL
     refine tg 2 ?_
     refine fs.exit ?_
     refine ix.exit ?_
     refine hy.here ?_
     refine hQ.normal ?_
     refine nY ⟨(bd 41 [(2,aZ 2 0)]),[(3,[aP true,aD 0 0 (List.replicate a0.ae.toNat false).length,aD 1 g1 aU.length,aD 2 g2 ws2.length]),(2,[aP true,aD 0 0 (List.replicate a0.ae.toNat false).length,aD 1 g1 aU.length,aD 2 g2 ws2.length]),(1,(bT false a0))],(⟨0,1,List.map bm (List.replicate a0.ae.toNat false)⟩::⟨g1,2,List.map cb aU⟩::⟨g2,5,cd 4 ws2 cV⟩::⟨g3,5,[]⟩::List.map cj bS)⟩ (True) ?_ (fun QD=> ?_)
     ·
      refine gB [1000003] 13 ?_
      exact jh [(40,.agg [aP true,aD 0 0 (List.replicate a0.ae.toNat false).length,aD 1 g1 aU.length,aD 2 g2 ws2.length])] trivial
     refine me ?_
     refine qp (.agg [aP true,aD 0 0 (List.replicate a0.ae.toNat false).length,aD 1 g1 aU.length,aD 2 g2 ws2.length]) [.agg [aP true,aD 0 0 (List.replicate a0.ae.toNat false).length,aD 1 g1 aU.length,aD 2 g2 ws2.length]] ?_
     exact Qk h rfl rfl rfl rfl
   replace h:=h zF
   obtain⟨u_,h⟩:=h
   refine mf [] [5] (fun L=>fT 0 3 (aD 2 (g2+1) (ws2++[(aI.mk (bb a0 v28).dW (bb a0 v28).cT (bb a0 v28).aF (bb a0 v28).dV (bb a0 v28).dX)]).length) L) (fun _=>(⟨0,1,List.map bm (List.replicate a0.ae.toNat false)⟩::⟨g1,2,List.map cb aU⟩::⟨(g2+1),5,cd 4 (ws2++[(aI.mk (bb a0 v28).dW (bb a0 v28).cT (bb a0 v28).aF (bb a0 v28).dV (bb a0 v28).dX)]) (cV++[bS.length])⟩::⟨(g3+1),5,[[aG (bb a0 v28).dW,aG (bb a0 v28).cT,aD (bS.length+4) 0 (bb a0 v28).aF.length,aP (bb a0 v28).dV,aG (bb a0 v28).dX]]⟩::List.map cj (bS++[(bb a0 v28).aF]))) (True) ?_ (fun QE=> ?_)
   ·
    replace h:=u_
    refine mW 3 ?_
    refine mX [1000003] 10 [(4,aG v28),(30,aG v28)] [1] [5] ?_
    refine zV [1000003] 11 Nv Nw [] ?_
    obtain⟨zG,h⟩:=h
    refine HG 5 (some 35) [(34,aG v28),(33,.agg (bT false a0)),(32,aD 2 g2 ws2.length),(31,aZ 3 3)] [.agg (bT false a0),aG v28] (fun L H=>m3 Try.prog (hI yL 16025) [0,1] [(34,aG v28),(33,.agg (bT false a0)),(32,aD 2 g2 ws2.length),(31,aZ 3 3),(4,aG v28),(1,aZ 1 0),(2,aZ 2 0),(3,aZ 3 0),(27,aG (a0.U.length:Int)),(28,aG v28)] L H) (.agg [aG (bb a0 v28).dW,aG (bb a0 v28).cT,aD (bS.length+4) 0 (bb a0 v28).aF.length,aP (bb a0 v28).dV,aG (bb a0 v28).dX]) (⟨0,1,List.map bm (List.replicate a0.ae.toNat false)⟩::⟨g1,2,List.map cb aU⟩::⟨g2,5,cd 4 ws2 cV⟩::⟨g3,5,[]⟩::List.map cj (bS++[(bb a0 v28).aF])) (NC a0 v28 zG) (aw.cons (fB.agg (aw.cons (.int _ _) (aw.cons j2 (aw.cons j2 (aw.cons j2 (aw.cons (.int _ _) aw.nil)))))) (aw.cons (fB.uV (.int _ _)) aw.nil)) (FV (fun _=>rfl) rfl) (G0 (GZ (fun _=>rfl) rfl) (by simp only[List.cons_append,List.map_nil,xC])) (r7 (ψ:=((true=true∧true=true∧((aZ 3 3:AV)=aZ 3 3))∧((true=true∧true=true∧((aD 2 g2 ws2.length:AV)=aD 2 g2 ws2.length))∧True))) (by kernel_rfl) ⟨⟨rfl,rfl,rfl⟩,⟨⟨rfl,rfl,rfl⟩,trivial⟩⟩) ?_ (er:=by simp[oT,qu,lZ])
    refine vz 1 [(36,.ref 3 (g3+1) 0 1 true)] [(3,[aP true,aD 0 0 (List.replicate a0.ae.toNat false).length,aD 1 g1 aU.length,aD 2 g2 ws2.length]),(2,[aP false,aK,aK,aK]),(1,(bT false a0))] (⟨0,1,List.map bm (List.replicate a0.ae.toNat false)⟩::⟨g1,2,List.map cb aU⟩::⟨g2,5,cd 4 ws2 cV⟩::⟨(g3+1),5,[[aG (bb a0 v28).dW,aG (bb a0 v28).cT,aD (bS.length+4) 0 (bb a0 v28).aF.length,aP (bb a0 v28).dV,aG (bb a0 v28).dX]]⟩::List.map cj (bS++[(bb a0 v28).aF])) (φ:=m3 Try.prog (hI yL 16025) [0,1] [(35,.agg [aG (bb a0 v28).dW,aG (bb a0 v28).cT,aD (bS.length+4) 0 (bb a0 v28).aF.length,aP (bb a0 v28).dV,aG (bb a0 v28).dX]),(34,aG v28),(33,.agg (bT false a0)),(32,aD 2 g2 ws2.length),(31,aZ 3 3),(4,aG v28),(1,aZ 1 0),(2,aZ 2 0),(3,aZ 3 0),(27,aG (a0.U.length:Int)),(28,aG v28)] [(3,[aP true,aD 0 0 (List.replicate a0.ae.toNat false).length,aD 1 g1 aU.length,aD 2 g2 ws2.length]),(2,[aP false,aK,aK,aK]),(1,(bT false a0))] (⟨0,1,List.map bm (List.replicate a0.ae.toNat false)⟩::⟨g1,2,List.map cb aU⟩::⟨g2,5,cd 4 ws2 cV⟩::⟨(g3+1),5,[[aG (bb a0 v28).dW,aG (bb a0 v28).cT,aD (bS.length+4) 0 (bb a0 v28).aF.length,aP (bb a0 v28).dV,aG (bb a0 v28).dX]]⟩::List.map cj (bS++[(bb a0 v28).aF]))) (r7 (ψ:=((true=true∧true=true∧((aZ 3 3:AV)=aZ 3 3))∧((true=true∧true=true∧((aD 2 g2 ws2.length:AV)=aD 2 g2 ws2.length))∧True))) (by kernel_rfl) ⟨⟨rfl,rfl,rfl⟩,⟨⟨rfl,rfl,rfl⟩,trivial⟩⟩) ?_
    have Gj:=h
    refine HF 1 (some 37) [] 4 2 g2 (g3+1) 56 ws2 cV (aI.mk (bb a0 v28).dW (bb a0 v28).cT (bb a0 v28).aF (bb a0 v28).dV (bb a0 v28).dX) bS.length (fun _=>True) (fun r=>(⟨0,1,List.map bm (List.replicate a0.ae.toNat false)⟩::⟨g1,2,List.map cb aU⟩::⟨(g2+1),5,r⟩::⟨(g3+1),5,[[aG (bb a0 v28).dW,aG (bb a0 v28).cT,aD (bS.length+4) 0 (bb a0 v28).aF.length,aP (bb a0 v28).dV,aG (bb a0 v28).dX]]⟩::List.map cj (bS++[(bb a0 v28).aF]))) Gj.1 Gj.2 trivial ?_
    refine vz 2 [(38,aZ 3 3)] [(3,[aP true,aD 0 0 (List.replicate a0.ae.toNat false).length,aD 1 g1 aU.length,aD 2 (g2+1) (ws2++[(aI.mk (bb a0 v28).dW (bb a0 v28).cT (bb a0 v28).aF (bb a0 v28).dV (bb a0 v28).dX)]).length]),(2,[aP false,aK,aK,aK]),(1,(bT false a0))] (⟨0,1,List.map bm (List.replicate a0.ae.toNat false)⟩::⟨g1,2,List.map cb aU⟩::⟨(g2+1),5,cd 4 (ws2++[(aI.mk (bb a0 v28).dW (bb a0 v28).cT (bb a0 v28).aF (bb a0 v28).dV (bb a0 v28).dX)]) (cV++[bS.length])⟩::⟨(g3+1),5,[[aG (bb a0 v28).dW,aG (bb a0 v28).cT,aD (bS.length+4) 0 (bb a0 v28).aF.length,aP (bb a0 v28).dV,aG (bb a0 v28).dX]]⟩::List.map cj (bS++[(bb a0 v28).aF])) (φ:=True) trivial ?_
    refine HH [] ?_
    refine hy.normal ?_
    exact fs.normal trivial l3
   unfold yH at h
   refine gB [1000003] 12 ?_
   refine qq [(28,aG (IntKind.i64.wrap (v28+1))),(39,aG (IntKind.i64.wrap (v28+1)))] ?_
   exact ix.again ((bS++[(bb a0 v28).aF]),(g2+1),(g3+1),(cV++[bS.length]),(IntKind.i64.wrap (v28+1)),(ws2++[(aI.mk (bb a0 v28).dW (bb a0 v28).cT (bb a0 v28).aF (bb a0 v28).dV (bb a0 v28).dX)])) h ((Weak.clear 3 rfl:Weak ⟨(bd 41 [(28,aG (IntKind.i64.wrap (v28+1))),(39,aG (IntKind.i64.wrap (v28+1))),(1,aZ 1 0),(2,aZ 2 0),(3,aZ 3 0),(27,aG (a0.U.length:Int))]),[(3,[aP true,aD 0 0 (List.replicate a0.ae.toNat false).length,aD 1 g1 aU.length,aD 2 (g2+1) (ws2++[(aI.mk (bb a0 v28).dW (bb a0 v28).cT (bb a0 v28).aF (bb a0 v28).dV (bb a0 v28).dX)]).length]),(2,[aP false,aK,aK,aK]),(1,(bT false a0))],(⟨0,1,List.map bm (List.replicate a0.ae.toNat false)⟩::⟨g1,2,List.map cb aU⟩::⟨(g2+1),5,cd 4 (ws2++[(aI.mk (bb a0 v28).dW (bb a0 v28).cT (bb a0 v28).aF (bb a0 v28).dV (bb a0 v28).dX)]) (cV++[bS.length])⟩::⟨(g3+1),5,[[aG (bb a0 v28).dW,aG (bb a0 v28).cT,aD (bS.length+4) 0 (bb a0 v28).aF.length,aP (bb a0 v28).dV,aG (bb a0 v28).dX]]⟩::List.map cj (bS++[(bb a0 v28).aF]))⟩ ⟨(bd 41 [(28,aG (IntKind.i64.wrap (v28+1))),(39,aG (IntKind.i64.wrap (v28+1))),(1,aZ 1 0),(2,aZ 2 0),(3,aZ 3 0),(27,aG (a0.U.length:Int))]),[(3,[aP true,aD 0 0 (List.replicate a0.ae.toNat false).length,aD 1 g1 aU.length,aD 2 (g2+1) (ws2++[(aI.mk (bb a0 v28).dW (bb a0 v28).cT (bb a0 v28).aF (bb a0 v28).dV (bb a0 v28).dX)]).length]),(2,[aP false,aK,aK,aK]),(1,(bT false a0))],(⟨0,1,List.map bm (List.replicate a0.ae.toNat false)⟩::⟨g1,2,List.map cb aU⟩::⟨(g2+1),5,cd 4 (ws2++[(aI.mk (bb a0 v28).dW (bb a0 v28).cT (bb a0 v28).aF (bb a0 v28).dV (bb a0 v28).dX)]) (cV++[bS.length])⟩::⟨(g3+1),5,[]⟩::List.map cj (bS++[(bb a0 v28).aF]))⟩).trans (nD []))
 replace h:=h sh
 obtain⟨zK,h⟩:=h
 refine mf [] [5] (fun L=>fT 0 2 (aD 1 (g1+1) (aU++[(b4.mk 1 1)]).length) L) (fun H=>dv 1 ⟨(g1+1),2,List.map cb (aU++[(b4.mk 1 1)])⟩ H) (True) ?_ (fun Gk=> ?_)
 ·
  replace h:=zK
  refine mW 1 ?_
  refine gB [1000003] 6 ?_
  have zJ:=h
  refine GP 5 (some 22) [(21,.av (List.map cb [(b4.mk 1 1)]) true true),(20,.agg [aG 1,aG 1]),(19,aD 1 g1 aU.length),(18,aZ 3 2)] cb aU [(b4.mk 1 1)] (kz true (List.map cb [(b4.mk 1 1)])) 1 g1 2 16 (fun r=>[⟨0,1,List.map bm (List.replicate a0.ae.toNat false)⟩,⟨(g1+1),2,r⟩]) rfl zJ ?_
  refine GS [(23,aZ 3 2)] [(3,[aP true,aD 0 0 (List.replicate a0.ae.toNat false).length,aD 1 (g1+1) (aU++[(b4.mk 1 1)]).length,aK]),(2,[aP false,aK,aK,aK]),(1,(bT false a0))] [⟨0,1,List.map bm (List.replicate a0.ae.toNat false)⟩,⟨(g1+1),2,List.map cb (aU++[(b4.mk 1 1)])⟩] ?_
  refine hy.normal ?_
  exact fs.normal trivial l3
 refine gB [1000003] 7 ?_
 refine qq [(16,aG (IntKind.i64.wrap (fH+1))),(24,aG (IntKind.i64.wrap (fH+1)))] ?_
 exact ix.again ((g1+1),(aU++[(b4.mk 1 1)]),(IntKind.i64.wrap (fH+1))) h (nD [])
theorem Nu (a0:aS):ej Try.prog 33 [.agg (bT false a0)] [] (fun r H=>r= .agg [aP (fR a0).ok,aD 0 0 (fR a0).bM.length,aD 1 0 (fR a0).bP.length,aD 2 0 (fR a0).U.length]∧H=(⟨0,1,List.map bm (fR a0).bM⟩::⟨0,2,List.map cb (fR a0).bP⟩::⟨0,5,cd 3 (fR a0).U (List.range (fR a0).U.length)⟩::List.map cj (List.map aI.aF (fR a0).U))):=Nx a0 (fR a0) (fun _ x v=>c5 a0.aR.length (fun _=>false) v∧x=List.replicate v.toNat (b4.mk 1 1)) (fun _ _ v=>dD a0.aR.length v) (fun _ x _ bs _ _ is v ws=>x=List.replicate a0.aR.length (b4.mk 1 1)∧c5 a0.U.length (fun _=>false) v∧ws=(a0.U.take v.toNat).map (fun w=>jT w.ae.length)∧is=List.range ws.length∧bs=ws.map aI.aF) (fun _ _ _ _ _ _ _ v _=>dD a0.U.length v) (by
 unfold yG yK
 refine⟨fun h=> ?_,fun h=> ?_⟩
 ·have h:e1 a0=false:=by simpa using h
  unfold fR;rw[if_neg (by rw[h];simp)];exact⟨rfl,rfl,rfl,rfl⟩
 have h:e1 a0=true:=by simpa using h
 have fC:=u5 h
 have h1:=fC.vj
 have h2:=fC.bE
 have ao:=fC.U
 have e:fR a0=⟨true,List.replicate a0.ae.toNat false,List.replicate a0.aR.length ⟨1,1⟩,a0.U.map fun w=>jT w.ae.length⟩:=by unfold fR;rw[if_pos h]
 rw[e]
 refine⟨⟨by omega,by omega,by omega⟩,fun af=>⟨⟨fp (ep _),rfl⟩,fun g x v bK=> ?_⟩⟩
 obtain⟨bK,rfl⟩:=bK
 have M7:=bK.2.1
 unfold yJ
 refine⟨fun hv hm=>⟨⟨?_,fp (ep _),rfl,rfl,rfl⟩,fun bs g2 g3 is k ws gq=> ?_⟩,fun hv=>⟨⟨?_,?_⟩,⟨(eM (eR af) bK hv rfl).1,?_⟩,(eM (eR af) bK hv rfl).2⟩⟩
 ·have: ¬v<(a0.aR.length:Int):=by simpa using hv
  rw[show v.toNat=a0.aR.length by omega]
 ·obtain⟨hx,gq,rfl,rfl,rfl⟩:=gq
  have Mz:=gq.2.1
  have m_:=gq.1
  have ak:((a0.U.take k.toNat).map fun w=>jT w.ae.length).length=k.toNat:=by rw[List.length_map,List.length_take];omega
  obtain⟨cL,dd,ez⟩:=Cm ((a0.U.take k.toNat).map fun w=>jT w.ae.length)
  unfold yI yH
  refine⟨fun hk=>⟨rfl,rfl,hx,?_,rfl,rfl⟩,fun hk=>⟨⟨⟨fC,m_,by simpa using hk⟩,by rw[List.length_range],by omega,by omega⟩,⟨hx,(eM (eR hm) gq hk rfl).1,?_,?_,?_⟩,(eM (eR hm) gq hk rfl).2⟩⟩
  ·have: ¬k<(a0.U.length:Int):=by simpa using hk
   rw[List.take_of_length_le (by omega)]
  ·have iE:=ea gq hk
   rw[o3 (eR hm) m_ (by simpa using hk),show(k+1).toNat=k.toNat+1 by omega,List.take_succ_eq_append_getElem iE.2,←jf iE.2,List.map_append];rfl
  ·rw[List.length_append,List.length_singleton,List.range_succ,List.length_map]
   simp
  ·rw[List.map_append];rfl
 ·rw[List.length_replicate,List.length_singleton];omega
 ·rw[List.length_replicate,List.length_singleton];omega
 ·rw[o3 (eR af) bK.1 (by simpa using hv),show(v+1).toNat=v.toNat+1 by have:=bK.1;omega,List.replicate_succ'])
end Go.Proofs.Ytglpfccgmfhkdaa.Fw
set_option linter.unusedVariables false
namespace Go.Proofs.Ytglpfccgmfhkdaa.Fw
open Go Go.RowKit
theorem Bu (p:aS):G5 (fR p)∧oB (fR p)≤1000000:=by
  unfold fR
  split
  · rename_i h
    have fC:=u5 h
    have h1:=fC.vj
    have h2:=fC.bE
    have ao:=fC.U
    have hb: ∀x∈p.U.map (fun w=>jT w.ae.length),x.aF.length≤30:=fun x hx=>by
      obtain⟨w,hw,rfl⟩:=List.mem_map.1 hx
      have:=(fC.ae w hw).2.1
      show(List.replicate _ false).length≤30
      rw[List.length_replicate];exact this
    refine⟨⟨by show(List.replicate _ false).length≤_;rw[List.length_replicate];omega,by show(List.replicate _ _).length≤_;rw[List.length_replicate];omega,by show(List.map _ _).length≤_;rw[List.length_map];omega,fun x hx=>by have:=hb x hx;omega⟩,?_⟩
    show(List.replicate _ false).length+(List.replicate _ _).length*2+(List.map _ _).sum≤_
    have a8:=HB (f:=fun h:aI=>4+h.aF.length) (c:=34) (xs:=p.U.map fun w=>jT w.ae.length) fun x hx=>by have:=hb x hx;omega
    rw[List.length_map] at a8
    rw[List.length_replicate,List.length_replicate]
    refine Nat.le_trans (Nat.add_le_add_left a8 _) ?_
    omega
  · exact⟨⟨by simp,by simp,by simp,by simp⟩,by simp[oB]⟩
theorem Jy {p:aS} {F:Frame} (eJ:fR p=F) {w:World} {v:Value} (h:V2 (Env.at w) (.agg (bT false p)) v):
    Calls Try.prog 32 #[v] w fun e w'=> ∃bp a1 bq aV bk aQ,e= .returned (.agg #[.bool F.ok,.slice bp F.bM.length a1,.slice bq F.bP.length aV,.slice bk F.U.length aQ])∧Below w.heap.size w w'∧fj w' (dY w w') (.agg (hT false F)) (.agg #[.bool F.ok,.slice bp F.bM.length a1,.slice bq F.bP.length aV,.slice bk F.U.length aQ]):=by
  subst eJ
  exact Ju (vs:=[v]) (Rs p) (.cons h .nil)
theorem BQ {p:aS} {F:Frame} (eJ:fR p=F) {w:World} {v:Value} (h:V2 (Env.at w) (.agg (bT false p)) v):
    Calls Try.prog 33 #[v] w fun e w'=> ∃bp a1 bq aV bk aQ L,e= .returned (.agg #[.bool F.ok,.slice bp F.bM.length a1,.slice bq F.bP.length aV,.slice bk F.U.length aQ])∧Below w.heap.size w w'∧fj w' (dY w w') (.agg (hT false F)) (.agg #[.bool F.ok,.slice bp F.bM.length a1,.slice bq F.bP.length aV,.slice bk F.U.length aQ])∧hR w' (dY w w') bp bq bk F.bM.length a1 F.bP.length aV F.U.length aQ L∧ht L∧L.length=oB F:=by
  subst eJ
  exact Jx (vs:=[v]) (Nu p) (Bu p).1 (.cons h .nil)
set_option maxHeartbeats 4000000
set_option maxRecDepth 100000
theorem N_ (p:aS) (F:Frame) (eJ:fR p=F) (nb:oB F≤1000000) (W:World) (gH gI gJ:Option Addr) (a0 J a2 d0 d1 d2:Nat) (ps h4:Int)
    (h1:fj W (fun c=>c<W.heap.size) (.agg (bT false p)) (.agg #[.int .i64 ps,.slice gH a0 d0,.slice gI J d1,.slice gJ a2 d2,.int .i64 h4])) (hs:lY p≤1048576):
    Calls Try.prog 7 #[.agg #[.int .i64 ps,.slice gH a0 d0,.slice gI J d1,.slice gJ a2 d2,.int .i64 h4]] W fun e w'=>e= .returned (.bool true)∧Below W.heap.size W w':=by
  have A1:Hid (cx W W [kn W.heap.size (.agg (bT false p)) (.agg #[.int .i64 ps,.slice gH a0 d0,.slice gI J d1,.slice gJ a2 d2,.int .i64 h4])]):=(cx.start W).add (kn W.heap.size _ _) (Nat.le_refl _) h1 (fun j h=>by cases h)
  have vW:Hid (cx W (W.alloc (.cells #[.int .i64 ps,.slice gH a0 d0,.slice gI J d1,.slice gJ a2 d2,.int .i64 h4] 48)) [kn W.heap.size (.agg (bT false p)) (.agg #[.int .i64 ps,.slice gH a0 d0,.slice gI J d1,.slice gJ a2 d2,.int .i64 h4]),i_ W.heap.size #[.int .i64 ps,.slice gH a0 d0,.slice gI J d1,.slice gJ a2 d2,.int .i64 h4] 48]):=A1.out.box #[.int .i64 ps,.slice gH a0 d0,.slice gI J d1,.slice gJ a2 d2,.int .i64 h4] 48
  clear A1 h1
  have qF:mO p 1048576=1048576 - lY p:=by unfold mO dA;rw[if_neg (by omega)]
  obtain⟨o5,uu⟩: ∃y:Int,(1048576:Int) - lY p=y:=⟨_,rfl⟩
  rw[uu] at qF
  have wu:=Lib.hid qF;clear qF
  have sV:Hid (Af p):=hs
  have vU:=Lib.hid eJ;clear eJ
  obtain⟨df,ua⟩: ∃y:Int,(1:Int)+(nq p:Nat)=y:=⟨_,rfl⟩
  obtain⟨fa,na⟩: ∃y:Int,(1:Int)+(oB F:Nat)=y:=⟨_,rfl⟩
  have IK:=P2 p
  have If:Hid ((1:Int)+(nq p:Nat)≤4611686018427387904):=by unfold Hid;omega
  have Ig:Hid ((1:Int)+(oB F:Nat)≤4611686018427387904):=by unfold Hid;omega
  have g1:decide (o5<0)=false:=decide_eq_false (by omega)
  have g3:decide (df<0)=false:=decide_eq_false (by omega)
  have g4:decide (fa<0)=false:=decide_eq_false (by omega)
  have j7:=Lib.hid ua
  have j8:=Lib.hid na
  clear ua na IK uu hs nb
  go_enter Try.func7,Try.ntmps7
  go_wp2_with (go_at_call 23;refine(BR (p:=p) (l:=1048576) ⟨by omega,by omega⟩ (kn.at vW.out 0)).mono ?_)
  rw[wu.out]
  first
  | (rintro e bX rfl hb)
  | (rintro e bX ⟨rfl,hb⟩)
  have sN:=Lib.hid (vW.out.below hb);clear hb vW
  obtain⟨bJ,q1,q2,q3,q4⟩:=pr (sN.out.get 1)
  go_wp2_with (go_at_call 25;refine(tn sV.out (kn.at sN.out 0)).mono ?_)
  first
  | (rintro e du Im t0 hS t1 Io t2 rfl hb aC)
  | (rintro e du ⟨Im,t0,hS,t1,Io,t2,rfl,hb,aC⟩)
  have A3:=Lib.hid (sN.out.below hb)
  have jl:=Lib.hid aC;clear aC hb bJ q1 q2 q3 q4 sN
  go_wp2_with (go_at_call 32;refine(Jy vU.out (zo jl.out)).mono ?_)
  first
  | (rintro e eB h6 g0 h7 g1 f_ g2 rfl hb aC)
  | (rintro e eB ⟨h6,g0,h7,g1,f_,g2,rfl,hb,aC⟩)
  have sO:=Lib.hid (A3.out.zq hb aC);clear hb aC A3 jl
  have vX:=Lib.hid (sO.out.box #[.bool F.ok,.slice h6 F.bM.length g0,.slice h7 F.bP.length g1,.slice f_ F.U.length g2] 40)
  have an:W.heap.size<eB.heap.size:=sO.out.wG 1 rfl
  obtain⟨bJ,q1,q2,q3,q4⟩:=pr (sO.out.get 1)
  go_wp2_with (go_at_call 25;refine(tn sV.out (kn.at vX.out 0)).mono ?_)
  first
  | (rintro e gC l9 bL l_ aU ma li rfl hb aC)
  | (rintro e gC ⟨l9,bL,l_,aU,ma,li,rfl,hb,aC⟩)
  have A4:=Lib.hid (vX.out.zq hb aC);clear hb aC an bJ q1 q2 q3 q4 sO vX
  have vY:=Lib.hid (A4.out.box #[.int .i64 p.ae,.slice l9 p.aR.length bL,.slice l_ p.U.length aU,.slice ma p.a_.length li,.int .i64 p.dw] 29)
  go_wp2_with (go_at_call 33;refine(BQ vU.out (ik.at vY.out 4)).mono ?_)
  first
  | (rintro e nB lr nF ls nG lu nH L rfl hb aC hf aL ak)
  | (rintro e nB ⟨lr,nF,ls,nG,lu,nH,L,rfl,hb,aC,hf,aL,ak⟩)
  have sP:=Lib.hid (vY.out.own hb aC hf);clear hb aC hf A4 vY
  have qJ:=Lib.hid aL;clear aL
  have pa:=Lib.hid ak;clear ak
  have sQ:=Lib.hid (sP.out.box #[.bool F.ok,.slice lr F.bM.length nF,.slice ls F.bP.length nG,.slice lu F.U.length nH] 40)
  have an:eB.heap.size<nB.heap.size:=sP.out.wG 3 rfl
  obtain⟨bJ,q1,q2,q3⟩:=nX (sP.out.get 3)
  go_wp2_with (go_at_call 34;refine(wV (k4.at sQ.out 6) (ik.at sQ.out 2)).mono ?_)
  first
  | (rintro e HU rfl hb)
  | (rintro e HU ⟨rfl,hb⟩)
  have sH:Hid (cx W HU [kn W.heap.size (.agg (bT false p)) (.agg #[.int .i64 ps,.slice gH a0 d0,.slice gI J d1,.slice gJ a2 d2,.int .i64 h4]),i_ W.heap.size #[.int .i64 ps,.slice gH a0 d0,.slice gI J d1,.slice gJ a2 d2,.int .i64 h4] 48,ik du.heap.size eB.heap.size (.agg (hT false F)) (.agg #[.bool F.ok,.slice h6 F.bM.length g0,.slice h7 F.bP.length g1,.slice f_ F.U.length g2]),i_ eB.heap.size #[.bool F.ok,.slice h6 F.bM.length g0,.slice h7 F.bP.length g1,.slice f_ F.U.length g2] 40,ik (eB.alloc (.cells #[.bool F.ok,.slice h6 F.bM.length g0,.slice h7 F.bP.length g1,.slice f_ F.U.length g2] 40)).heap.size gC.heap.size (.agg (bT false p)) (.agg #[.int .i64 p.ae,.slice l9 p.aR.length bL,.slice l_ p.U.length aU,.slice ma p.a_.length li,.int .i64 p.dw]),i_ gC.heap.size #[.int .i64 p.ae,.slice l9 p.aR.length bL,.slice l_ p.U.length aU,.slice ma p.a_.length li,.int .i64 p.dw] 29,k4 (gC.alloc (.cells #[.int .i64 p.ae,.slice l9 p.aR.length bL,.slice l_ p.U.length aU,.slice ma p.a_.length li,.int .i64 p.dw] 29)).heap.size nB.heap.size (.agg (hT false F)) (.agg #[.bool F.ok,.slice lr F.bM.length nF,.slice ls F.bP.length nG,.slice lu F.U.length nH]) lr ls lu F.bM.length nF F.bP.length nG F.U.length nH L,i_ nB.heap.size #[.bool F.ok,.slice lr F.bM.length nF,.slice ls F.bP.length nG,.slice lu F.U.length nH] 40]):=sQ.out.below hb
  clear hb an bJ q1 q2 q3 sP sQ
  go_wp2_with fail
  go_region_held3 (fun w'=>cx W w' [kn W.heap.size (.agg (bT false p)) (.agg #[.int .i64 ps,.slice gH a0 d0,.slice gI J d1,.slice gJ a2 d2,.int .i64 h4]),i_ W.heap.size #[.int .i64 ps,.slice gH a0 d0,.slice gI J d1,.slice gJ a2 d2,.int .i64 h4] 48,ik du.heap.size eB.heap.size (.agg (hT false F)) (.agg #[.bool F.ok,.slice h6 F.bM.length g0,.slice h7 F.bP.length g1,.slice f_ F.U.length g2]),i_ eB.heap.size #[.bool F.ok,.slice h6 F.bM.length g0,.slice h7 F.bP.length g1,.slice f_ F.U.length g2] 40,ik (eB.alloc (.cells #[.bool F.ok,.slice h6 F.bM.length g0,.slice h7 F.bP.length g1,.slice f_ F.U.length g2] 40)).heap.size gC.heap.size (.agg (bT false p)) (.agg #[.int .i64 p.ae,.slice l9 p.aR.length bL,.slice l_ p.U.length aU,.slice ma p.a_.length li,.int .i64 p.dw]),i_ gC.heap.size #[.int .i64 p.ae,.slice l9 p.aR.length bL,.slice l_ p.U.length aU,.slice ma p.a_.length li,.int .i64 p.dw] 29,k4 (gC.alloc (.cells #[.int .i64 p.ae,.slice l9 p.aR.length bL,.slice l_ p.U.length aU,.slice ma p.a_.length li,.int .i64 p.dw] 29)).heap.size nB.heap.size (.agg (hT false F)) (.agg #[.bool F.ok,.slice lr F.bM.length nF,.slice ls F.bP.length nG,.slice lu F.U.length nH]) lr ls lu F.bM.length nF F.bP.length nG F.U.length nH L,i_ nB.heap.size #[.bool F.ok,.slice lr F.bM.length nF,.slice ls F.bP.length nG,.slice lu F.U.length nH] 40]∧w'.cell? ⟨W.heap.size,0,none⟩=some (.int .i64 ps)∧w'.cell? ⟨W.heap.size,1,none⟩=some (.slice gH a0 d0)∧w'.cell? ⟨W.heap.size,2,none⟩=some (.slice gI J d1)∧w'.cell? ⟨W.heap.size,3,none⟩=some (.slice gJ a2 d2)∧w'.cell? ⟨W.heap.size,4,none⟩=some (.int .i64 h4)∧w'.cell? ⟨gC.heap.size,0,none⟩=some (.int .i64 p.ae)∧w'.cell? ⟨gC.heap.size,1,none⟩=some (.slice l9 p.aR.length bL)∧w'.cell? ⟨gC.heap.size,2,none⟩=some (.slice l_ p.U.length aU)∧w'.cell? ⟨gC.heap.size,3,none⟩=some (.slice ma p.a_.length li)∧w'.cell? ⟨gC.heap.size,4,none⟩=some (.int .i64 p.dw))
    (first
      | exact GO sH.out.drewN 1 5
      | (refine GO ?_ 1 5 rfl rfl;assumption))
    (first
      | (go_at_call 25;refine(tn sV.out (kn.at sH.out.drewN 0)).mono ?_;rintro e S9 ⟨cY,v0,be,v1,V2,v2,rfl,C7,DA⟩;have yd:=sH.out.drewN.below C7)
      | (go_at_call 28;refine(Jt (ik.at yd 4) (zo DA)).mono ?_;rintro e S_ ⟨rfl,C8⟩;have Dg:=yd.below C8))
  have qL:=Lib.hid Dg;clear Dg yd C7 C8 DA sH
  obtain⟨bJ,q1,q2,q3,q4⟩:=pr (qL.out.get 5)
  go_wp2_with (go_at_call 35;refine(Jw (qL.out.told 4 rfl) (fun c hc=>hc.2.2) (by decide) If.out).mono ?_)
  rw[j7.out]
  first
  | (rintro e Sp rfl hb)
  | (rintro e Sp ⟨rfl,hb⟩)
  have o_:=Lib.hid (qL.out.forget 4 rfl (qL.out.after 0 4 rfl rfl (by omega)) hb);clear bJ q1 q2 q3 q4 hb qL
  obtain⟨bJ,q1,q2,q3⟩:=nX (o_.out.get 7)
  obtain⟨ff,cL,dd,ez⟩:=nX (o_.out.get 3)
  go_wp2_with (go_at_call 34;refine(wV (k4.at o_.out 6) (ik.at o_.out 2)).mono ?_)
  first
  | (rintro e Sj rfl hb)
  | (rintro e Sj ⟨rfl,hb⟩)
  have qM:=Lib.hid (o_.out.below hb);clear bJ q1 q2 q3 ff cL dd ez hb o_
  obtain⟨bJ,q1,q2,q3⟩:=nX (qM.out.get 7)
  have wb:Hid ((1:Int)+(L.length:Nat)≤4611686018427387904):=by rw[pa.out];exact Ig.out
  go_wp2_with (go_at_call 36;refine(Jv (qM.out.Qh 6 rfl) qJ.out (by decide) wb.out).mono ?_)
  rw[pa.out,j8.out]
  first
  | (rintro e Sk rfl hb)
  | (rintro e Sk ⟨rfl,hb⟩)
  have sI:=Lib.hid (qM.out.Qj 6 rfl (qM.out.after 0 6 rfl rfl (by omega)) hb);clear bJ q1 q2 q3 hb qM
  obtain⟨bJ,q1,q2,q3⟩:=nX (sI.out.get 7)
  go_wp2_with (go_at_call 37;refine(BP (sI.out.Fx 6 rfl) (by decide) wb.out).mono ?_)
  rw[pa.out,j8.out]
  first
  | (rintro e Sl rfl hb)
  | (rintro e Sl ⟨rfl,hb⟩)
  have sJ:=Lib.hid (sI.out.below hb);clear bJ q1 q2 q3 hb sI
  obtain⟨bJ,q1,q2,q3,q4⟩:=pr (sJ.out.get 1)
  go_wp2_with (go_at_call 25;refine(tn sV.out (kn.at sJ.out 0)).mono ?_)
  first
  | (rintro e Sm bF vE Ip vF Iq Sc rfl hb aC)
  | (rintro e Sm ⟨bF,vE,Ip,vF,Iq,Sc,rfl,hb,aC⟩)
  have A2:=Lib.hid (sJ.out.below hb)
  have jl:=Lib.hid aC;clear aC hb bJ q1 q2 q3 q4 sJ
  go_wp2_with (go_at_call 33;refine(BQ vU.out (zo jl.out)).mono ?_)
  first
  | (rintro e HT A6 eX A7 dZ A8 lU Ih rfl hb aC hf aL ak)
  | (rintro e HT ⟨A6,eX,A7,dZ,A8,lU,Ih,rfl,hb,aC,hf,aL,ak⟩)
  have sK:=Lib.hid (A2.out.zq hb aC);clear hb aC hf aL ak A2 jl
  have sL:=Lib.hid (sK.out.box #[.bool F.ok,.slice A6 F.bM.length eX,.slice A7 F.bP.length dZ,.slice A8 F.U.length lU] 40)
  have an:eB.heap.size<HT.heap.size:=sK.out.wG 3 rfl
  obtain⟨bJ,q1,q2,q3⟩:=nX (sK.out.get 3)
  go_wp2_with (go_at_call 34;refine(wV (ik.at sL.out 8) (ik.at sL.out 2)).mono ?_)
  first
  | (rintro e Sn rfl hb)
  | (rintro e Sn ⟨rfl,hb⟩)
  have sM:=Lib.hid (sL.out.below hb);clear hb an bJ q1 q2 q3 sK sL
  obtain⟨bJ,q1,q2,q3⟩:=nX (sM.out.get 7)
  go_wp2_with (go_at_call 37;refine(BP (sM.out.Fx 6 rfl) (by decide) wb.out).mono ?_)
  rw[pa.out,j8.out]
  first
  | (rintro e So rfl hb)
  | (rintro e So ⟨rfl,hb⟩)
  have H9:=Lib.hid (sM.out.below hb);clear hb sM
  go_wp2
  go_ret
  exact⟨rfl,H9.out.end⟩
theorem Oa (p:aS) (W:World) (gH gI gJ:Option Addr) (a0 J a2 d0 d1 d2:Nat) (ps h4:Int)
    (h1:fj W (fun c=>c<W.heap.size) (.agg (bT false p)) (.agg #[.int .i64 ps,.slice gH a0 d0,.slice gI J d1,.slice gJ a2 d2,.int .i64 h4])) (hs:1048576<lY p):
    Calls Try.prog 7 #[.agg #[.int .i64 ps,.slice gH a0 d0,.slice gI J d1,.slice gJ a2 d2,.int .i64 h4]] W fun e w'=>e= .returned (.bool true)∧Below W.heap.size W w':=by
  have jy:Hid (Below W.heap.size W (W.alloc (.cells #[.int .i64 ps,.slice gH a0 d0,.slice gI J d1,.slice gJ a2 d2,.int .i64 h4] 48))):=(Below.refl _ _).alloc (Nat.le_refl _) _
  have gE:Hid (V2 (Env.at (W.alloc (.cells #[.int .i64 ps,.slice gH a0 d0,.slice gI J d1,.slice gJ a2 d2,.int .i64 h4] 48))) (.agg (bT false p)) (.agg #[.int .i64 ps,.slice gH a0 d0,.slice gI J d1,.slice gJ a2 d2,.int .i64 h4])):=(h1.b3 (fun c hc=>jy.out.block c hc) (fun _ h=>h)).at fun c hc=>Nat.lt_of_lt_of_le hc jy.out.size
  have wu:Hid (mO p 1048576= -1):=by unfold Hid mO dA;rw[if_pos (by omega)]
  clear h1 hs
  go_enter Try.func7,Try.ntmps7
  go_wp2_with (go_at_call 23;refine(BR (p:=p) (l:=1048576) ⟨by omega,by omega⟩ gE.out).mono ?_)
  rw[wu.out]
  first
  | (rintro e bX rfl hb)
  | (rintro e bX ⟨rfl,hb⟩)
  have H8:=Lib.hid (jy.out.trans (hb.mono jy.out.size));clear hb
  go_wp2
  go_ret
  exact⟨rfl,H8.out⟩
theorem Ob (a0:aS):bh Try.prog 7 [.agg (bT false a0)] (.bool true):=by
  refine bh.P9 (by kernel_rfl) fun W vs ai=> ?_
  obtain⟨SZ,vs,rfl,h1,ai⟩:=ai.cons_inv
  obtain rfl:=ai.jZ
  have t1:=Sr (e:= .fe) (x:=a0) h1
  obtain⟨gH,d0,gI,d1,gJ,d2,rfl,_⟩:=AA t1
  by_cases hs:lY a0≤1048576
  · exact N_ a0 _ rfl (Bu a0).2 W gH gI gJ _ _ _ d0 d1 d2 _ _ t1 hs
  · exact Oa a0 W gH gI gJ _ _ _ d0 d1 d2 _ _ t1 (by omega)
end Go.Proofs.Ytglpfccgmfhkdaa.Fw
