/- Walks and summaries of functions, printed by a program of mine (tools/mk2.py), with the proofs of what they owe. -/
import Derived.Test.YtglpfccgmfhkdaaM5
set_option linter.unusedVariables false
set_option maxRecDepth 100000
set_option maxHeartbeats 4000000
set_option linter.unusedSimpArgs false
namespace Go.Proofs.Ytglpfccgmfhkdaa.Fw
open Go
attribute [local irreducible] evS evSD WpS Weak Oper.looksAt
def TX (J:ch) (M:Int) (ar:Bool):Prop:=
 (J.bb==M)=ar
theorem TY (J:ch) (M:Int):b3 Try.prog 166 [.agg (cD J),.cZ [ac M] 0] (ah (sh J M)):=(fun(h:TX J M (sh J M))=>b3.run (ps:=[.bx,(.ptr .int)]) (rs:=[.bool]) (x:=(J,M,())) (r:=((sh J M),())) ⟨8,eN,[]⟩ ⟨[],[],[],[]⟩ .nil Try.func166 h) (by
 exact rfl)
def TZ:ev Try.prog:=⟨166,[.bx,(.ptr .int)],[.bool],none,fun x=>((sh x.1 x.2.1),()),fun x h=>TY x.1 x.2.1⟩
def Ml (J:(List ch)) (M:Int) (ar:Int) (aw:Int→Prop) (ay:Int→Nat):Prop:=
 J.length≤4611686018427387904→aw 0∧ ∀(bP:Int),aw bP→(((decide (bP<(J.length:Int)))=false→(-1)=ar)∧((decide (bP<(J.length:Int)))=true→((0≤bP∧bP.toNat<J.length)∧((sh (nth J bP) M)=true→bP=ar))∧((!(sh (nth J bP) M))=true→aw (IntKind.i64.wrap (bP+1))∧ay (IntKind.i64.wrap (bP+1))<ay bP)))
theorem Xd (J:(List ch)) (M:Int):b3 Try.prog 170 [bo cD J,.fn 166 [.cZ [ac M] 0]] (ac (pR J M)):=(fun(aw:Int→Prop) (ay:Int→Nat) (h:Ml J M (pR J M) aw ay)=>b3.run (ps:=[(.l .bx),(.hZ 166 (.ptr .int))]) (rs:=[.int]) (x:=(J,M,())) (r:=((pR J M),())) ⟨19,eN,[TZ]⟩ ⟨[],[],[],[]⟩ (e1 [0,1,7] [] 8 aw ay fun _=> .nil) Try.func170 h) (cg J.length (fun j=>sh (nth J j) M)) (cn J.length) (by
 unfold Ml
 intro aC
 refine⟨cS (de _),fun v aM=>⟨fun hv=> ?_,fun hv=>⟨⟨b8 aM hv,fun aF=> ?_⟩,fun aF=>cq (ci aC) aM hv (not_eq aF)⟩⟩⟩
 ·unfold pR;rw[ph (q:=fun x:ch=>x.bb==M) aM hv];rfl
 ·unfold pR;rw[pg (q:=fun x:ch=>x.bb==M) aM hv aF]
  have:=aM.1
  show v=(v.toNat:Int)
  omega)
def Xe:ev Try.prog:=⟨170,[(.l .bx),(.hZ 166 (.ptr .int))],[.int],none,fun x=>((pR x.1 x.2.1),()),fun x h=>Xd x.1 x.2.1⟩
def W_ (J:(List ch)) (M:Int) (ar:Bool):Prop:=
 (decide ((pR J M) ≥ 0))=ar
theorem Xa (J:(List ch)) (M:Int):b3 Try.prog 165 [bo cD J,.fn 166 [.cZ [ac M] 0]] (ah (jQ J M)):=(fun(h:W_ J M (jQ J M))=>b3.run (ps:=[(.l .bx),(.hZ 166 (.ptr .int))]) (rs:=[.bool]) (x:=(J,M,())) (r:=((jQ J M),())) ⟨9,eN,[Xe]⟩ ⟨[],[],[],[]⟩ .nil Try.func165 h) (by
 exact Td J M)
def Xb:ev Try.prog:=⟨165,[(.l .bx),(.hZ 166 (.ptr .int))],[.bool],none,fun x=>((jQ x.1 x.2.1),()),fun x h=>Xa x.1 x.2.1⟩
def T0 (J:(List ch)) (M:Int) (ar:Bool):Prop:=
 (jQ J M)=ar
theorem T1 (J:(List ch)) (M:Int):b3 Try.prog 153 [bo cD J,ac M] (ah (jQ J M)):=(fun(h:T0 J M (jQ J M))=>b3.run (ps:=[(.l .bx),.int]) (rs:=[.bool]) (x:=(J,M,())) (r:=((jQ J M),())) ⟨8,eN,[Xb]⟩ ⟨[],[],[],[]⟩ .nil Try.func153 h) (by
 exact rfl)
def T2:ev Try.prog:=⟨153,[(.l .bx),.int],[.bool],none,fun x=>((jQ x.1 x.2.1),()),fun x h=>T1 x.1 x.2.1⟩
def T8:List Item:=[au 0,au 1,au 2,au 3,au 4,au 5,au 6,au 7,au 8,au 9,au 10,au 11,au 12,au 13,au 14,au 15,au 16,au 17,au 18,au 19,au 20]
def T9:List (List Nat):=[[],[0],[],[0,1,2],rg 0 4,rg 0 5,rg 0 6,rg 0 5,rg 0 8,rg 0 9,rg 0 10,rg 0 10,rg 0 10,rg 0 10,rg 0 10++[13],rg 0 10,rg 0 10++[13,14,15],rg 0 10++rg 13 17,rg 0 18,rg 0 19,rg 0 20]
def JL (aw:Nat→(List Int)→Int→Prop) (ay:Nat→(List Int)→Int→Nat) (J:aB) (M:Frame) (O:Int) (aR:Nat) (aA:(List Int)) (bi:Int):Prop:=
  (((jQ ((nth J.ways bi).br) O) || ((jQ ((nth J.ways bi).aZ) O)&&(im J M bi (nth J.bh O))))=true→((aA.length+[bi].length)*8≤140737488355328∧aA.length+[bi].length≤4611686018427387904)∧(aw (aR+1) (aA++[bi]) (IntKind.i64.wrap (bi+1))∧ay (aR+1) (aA++[bi]) (IntKind.i64.wrap (bi+1))<ay aR aA bi))∧(((jQ ((nth J.ways bi).br) O) || ((jQ ((nth J.ways bi).aZ) O)&&(im J M bi (nth J.bh O))))=false→aw aR aA (IntKind.i64.wrap (bi+1))∧ay aR aA (IntKind.i64.wrap (bi+1))<ay aR aA bi)
def JM (aw:Nat→(List Int)→Int→Prop) (ay:Nat→(List Int)→Int→Nat) (J:aB) (M:Frame) (O:Int) (aR:Nat) (aA:(List Int)) (bi:Int):Prop:=
  ((0≤bi∧bi.toNat<M.ways.length)∧((((nth M.ways bi).state)==0)=true→aw aR aA (IntKind.i64.wrap (bi+1))∧ay aR aA (IntKind.i64.wrap (bi+1))<ay aR aA bi))∧((!(((nth M.ways bi).state)==0))=true→((jQ ((nth J.ways bi).br) O)=false→(jQ ((nth J.ways bi).aZ) O)=true→(0≤O∧O.toNat<J.bh.length)∧(tQ J M bi (nth J.bh O)))∧(JL aw ay J M O aR aA bi))
def JK (J:aB) (M:Frame) (O:Int) (ar:(List Int)) (aw:Nat→(List Int)→Int→Prop) (ay:Nat→(List Int)→Int→Nat):Prop:=
 J.ways.length≤4611686018427387904→aw 0 ([]:List Int) 0∧ ∀(aR:Nat) (aA:(List Int)) (bi:Int),aw aR aA bi→(((decide (bi<(J.ways.length:Int)))=false→aA.length≤4611686018427387904∧aA=ar)∧((decide (bi<(J.ways.length:Int)))=true→(0≤bi∧bi.toNat<J.ways.length)∧(JM aw ay J M O aR aA bi)))
theorem JN (J:aB) (M:Frame) (O:Int) (aF:q0 J M O):b3 Try.prog 113 [.agg (a8 false J),.agg (bS false M),ac O] (eJ bW (fQ J M O)):=(fun(aw:Nat→(List Int)→Int→Prop) (ay:Nat→(List Int)→Int→Nat) (h:JK J M O (fQ J M O) aw ay)=>b3.run (ps:=[.dW,.frame,.int]) (rs:=[(.l .int)]) (x:=(J,M,O,())) (r:=((fQ J M O),())) ⟨52,eN,[T2,TT]⟩ ⟨[],[(6,T8,T9)],[],[]⟩ (.lp [(0,7,.int)] [2,3,4,11,12] [(4,4),(3,5)] [.nat,(.l .int),.int] [bY 0,bY 0,13] (fun a_=>[(7,.ref 0 a_.1 a_.2.1.length false),(13,.i .i64 a_.2.2.1),(bY 0,.blk a_.1 .int a_.2.1 _ rfl)]) (fun a_=>aw a_.1 a_.2.1 a_.2.2.1) (fun a_=>ay a_.1 a_.2.1 a_.2.2.1) fun _=> .nil) Try.func113 h) (fun _ x v=>cg J.ways.length (fun _=>false) v∧x=dz (fun i=>lG J M i O) v) (fun _ _ v=>cn J.ways.length v) (by
 unfold JK
 obtain⟨hf,a0,h1⟩:=aF
 have hw:=hf.fr.ways
 have vX:=hf.in.ways
 have qH:=hf.in.bh
 intro aC
 refine⟨⟨cS (de _),rfl⟩,fun g x v aM=> ?_⟩
 obtain⟨aM,rfl⟩:=aM
 have fA:=aM.1
 have hlen:=qy (fun i=>lG J M i O) v
 have qK:=aM.2.1
 refine⟨fun hv=>⟨by omega,?_⟩,fun hv=>⟨b8 aM hv,?_⟩⟩
 ·have: ¬v<(J.ways.length:Int):=by simpa using hv
  rw[show v=(J.ways.length:Int) by omega];rfl
 have b4:=b8 aM hv
 have bd:=cq (ci aC) aM hv rfl
 have oO:IntKind.i64.wrap (v+1)=v+1:=ho (ci aC) fA (by simpa using hv)
 have pk:lG J M v O=true→(cg J.ways.length (fun _=>false) (IntKind.i64.wrap (v+1))∧dz (fun i=>lG J M i O) v++[v]=dz (fun i=>lG J M i O) (IntKind.i64.wrap (v+1))):=fun h=>⟨bd.1,by rw[oO,vy fA,if_pos h]⟩
 have no:lG J M v O=false→(cg J.ways.length (fun _=>false) (IntKind.i64.wrap (v+1))∧dz (fun i=>lG J M i O) v=dz (fun i=>lG J M i O) (IntKind.i64.wrap (v+1))):=fun h=>⟨bd.1,by rw[oO,vy fA,if_neg (by rw[h];simp)]⟩
 unfold JM JL
 refine⟨⟨⟨fA,by omega⟩,fun aQ=>⟨no ?_,bd.2⟩⟩,fun aQ=>⟨fun _ _=>⟨⟨a0,by omega⟩,hf,fA,by omega⟩,⟨fun aj=>⟨⟨?_,?_⟩,pk ?_,bd.2⟩,fun aj=>⟨no ?_,bd.2⟩⟩⟩⟩
 ·unfold lG
  rw[show((nth M.ways v).state !=0)=false by simpa using aQ];rfl
 ·simp only[List.length_singleton];omega
 ·simp only[List.length_singleton];omega
 ·unfold lG
  rw[show((nth M.ways v).state !=0)=true by simpa using aQ];exact aj
 ·unfold lG
  rw[show((nth M.ways v).state !=0)=true by simpa using aQ];exact aj)
def T7:ev Try.prog:=⟨113,[.dW,.frame,.int],[(.l .int)],some fun x=>q0 x.1 x.2.1 x.2.2.1,fun x=>((fQ x.1 x.2.1 x.2.2.1),()),fun x h=>JN x.1 x.2.1 x.2.2.1 h⟩
def YI:List Item:=[au 0,au 1,au 2,au 3,au 4,au 5,au 6,au 7,au 8,au 9,au 10,au 11,au 12,au 13,au 14]
def YJ:List (List Nat):=[[],[0],[],[0,1,2],rg 0 4,rg 0 5,rg 0 5,rg 0 5,rg 0 5,rg 0 5++[8],rg 0 5,rg 0 5++[8,9,10],rg 0 5++rg 8 12,rg 0 13,rg 0 14]
def NC (aW:Int→Int→Prop) (aX:Int→Int→Nat) (J:aB) (M:Frame) (O dx ar dc dJ:Int):Prop:=
  ((0≤dJ∧dJ.toNat<((nth J.ways O).aZ).length)∧(((((nth ((nth J.ways O).aZ) dJ).bb)==dx)=true→(0≤dx∧dx.toNat<J.bh.length)∧(tQ J M O (nth J.bh dx)))∧(((((nth ((nth J.ways O).aZ) dJ).bb)==dx)&&(im J M O (nth J.bh dx)))=true→(nth ((nth J.ways O).aZ) dJ).bx=ar)))∧((!((((nth ((nth J.ways O).aZ) dJ).bb)==dx)&&(im J M O (nth J.bh dx))))=true→aW dc (IntKind.i64.wrap (dJ+1))∧aX dc (IntKind.i64.wrap (dJ+1))<aX dc dJ)
def ND (aw:Int→Prop) (ay:Int→Nat) (aW:Int→Int→Prop) (aX:Int→Int→Nat) (J:aB) (M:Frame) (O dx ar dc:Int):Prop:=
  ((decide (dc<(((nth J.ways O).br).length:Int)))=false→(0≤O∧O.toNat<J.ways.length)∧(((nth J.ways O).aZ).length≤4611686018427387904→aW dc 0∧ ∀(dJ:Int),aW dc dJ→(((decide (dJ<(((nth J.ways O).aZ).length:Int)))=false→0=ar)∧((decide (dJ<(((nth J.ways O).aZ).length:Int)))=true→NC aW aX J M O dx ar dc dJ))))∧((decide (dc<(((nth J.ways O).br).length:Int)))=true→((0≤dc∧dc.toNat<((nth J.ways O).br).length)∧((((nth ((nth J.ways O).br) dc).bb)==dx)=true→(nth ((nth J.ways O).br) dc).bx=ar))∧((!(((nth ((nth J.ways O).br) dc).bb)==dx))=true→aw (IntKind.i64.wrap (dc+1))∧ay (IntKind.i64.wrap (dc+1))<ay dc))
def NB (J:aB) (M:Frame) (O:Int) (dx:Int) (ar:Int) (aw:Int→Prop) (ay:Int→Nat) (aW:Int→Int→Prop) (aX:Int→Int→Nat):Prop:=
 ((0≤O∧O.toNat<M.ways.length)∧((((nth M.ways O).state)==0)=true→0=ar))∧((!(((nth M.ways O).state)==0))=true→(0≤O∧O.toNat<J.ways.length)∧(((nth J.ways O).br).length≤4611686018427387904→aw 0∧ ∀(dc:Int),aw dc→(ND aw ay aW aX J M O dx ar dc)))
theorem YG (J:aB) (M:Frame) (O:Int) (dx:Int) (aF:Gd J M O dx):b3 Try.prog 155 [.agg (a8 false J),.agg (bS false M),ac O,ac dx] (ac (nC J M O dx)):=(fun(aw:Int→Prop) (ay:Int→Nat) (aW:Int→Int→Prop) (aX:Int→Int→Nat) (h:NB J M O dx (nC J M O dx) aw ay aW aX)=>b3.run (ps:=[.dW,.frame,.int,.int]) (rs:=[.int]) (x:=(J,M,O,dx,())) (r:=((nC J M O dx),())) ⟨67,eN,[Yy]⟩ ⟨[],[(12,YI,YJ)],[],[]⟩ (e1 [2,3,4,5,25,26] [(5,4),(4,5)] 27 aw ay fun a_=>(e1 [2,3,4,5,43,44] [(5,4),(4,5)] 45 (aW a_) (aX a_) fun _=> .nil)) Try.func155 h) (cg (nth J.ways O).br.length (fun j=>(nth (nth J.ways O).br j).bb==dx)) (cn (nth J.ways O).br.length) (fun _=>cg (nth J.ways O).aZ.length (fun j=>(nth (nth J.ways O).aZ j).bb==dx&&im J M O (nth J.bh dx))) (fun _=>cn (nth J.ways O).aZ.length) (by
 unfold NB
 obtain⟨hf,a0,h1,h2,aS⟩:=aF
 have hw:=hf.fr.ways
 refine⟨⟨⟨a0,by omega⟩,fun aQ=> ?_⟩,fun aQ=>⟨⟨a0,by omega⟩,fun aC=>⟨cS (de _),fun v aM=> ?_⟩⟩⟩
 ·unfold nC;rw[if_pos (by simpa using aQ)]
 have aQ: ¬(nth M.ways O).state=0:=by simpa using aQ
 unfold ND
 refine⟨fun hv=>⟨⟨a0,by omega⟩,fun hm=>⟨cS (de _),fun k hK=> ?_⟩⟩,fun hv=>⟨⟨b8 aM hv,fun hb=> ?_⟩,fun hb=>cq (ci aC) aM hv (not_eq hb)⟩⟩
 ·have bF:=ph (q:=fun x:ch=>x.bb==dx) aM hv
  unfold NC
  refine⟨fun hk=> ?_,fun hk=>⟨⟨b8 hK hk,fun _=>⟨⟨h2,by omega⟩,hf,a0,h1⟩,fun hb=> ?_⟩,fun hb=>cq (ci hm) hK hk (not_eq hb)⟩⟩
  ·unfold nC
   rw[if_neg aQ,bF]
   simp only
   rw[ph (q:=fun x:ch=>x.bb==dx&&im J M O (nth J.bh dx)) hK hk]
  ·unfold nC
   rw[if_neg aQ,bF]
   simp only
   rw[pg (q:=fun x:ch=>x.bb==dx&&im J M O (nth J.bh dx)) hK hk hb]
   simp only[jr hK.1]
 ·unfold nC
  rw[if_neg aQ,pg (q:=fun x:ch=>x.bb==dx) aM hv hb]
  simp only[jr aM.1])
def YH:ev Try.prog:=⟨155,[.dW,.frame,.int,.int],[.int],some fun x=>Gd x.1 x.2.1 x.2.2.1 x.2.2.2.1,fun x=>((nC x.1 x.2.1 x.2.2.1 x.2.2.2.1),()),fun x h=>YG x.1 x.2.1 x.2.2.1 x.2.2.2.1 h⟩
def Nl (aw:Nat→(List Int)→Int→Prop) (ay:Nat→(List Int)→Int→Nat) (J:aB) (M:Frame) (O:Int) (aR:Nat) (aA:(List Int)) (ad:Int):Prop:=
  ((decide ((nC J M ad O)>0))=true→((aA.length+[ad].length)*8≤140737488355328∧aA.length+[ad].length≤4611686018427387904)∧(aw (aR+1) (aA++[ad]) (IntKind.i64.wrap (ad+1))∧ay (aR+1) (aA++[ad]) (IntKind.i64.wrap (ad+1))<ay aR aA ad))∧((decide ((nC J M ad O)>0))=false→aw aR aA (IntKind.i64.wrap (ad+1))∧ay aR aA (IntKind.i64.wrap (ad+1))<ay aR aA ad)
def Nk (J:aB) (M:Frame) (O:Int) (ar:(List Int)) (aw:Nat→(List Int)→Int→Prop) (ay:Nat→(List Int)→Int→Nat):Prop:=
 J.ways.length≤4611686018427387904→aw 0 ([]:List Int) 0∧ ∀(aR:Nat) (aA:(List Int)) (ad:Int),aw aR aA ad→(((decide (ad<(J.ways.length:Int)))=false→aA.length≤4611686018427387904∧aA=ar)∧((decide (ad<(J.ways.length:Int)))=true→(Gd J M ad O)∧(Nl aw ay J M O aR aA ad)))
theorem Nm (J:aB) (M:Frame) (O:Int) (aF:q0 J M O):b3 Try.prog 117 [.agg (a8 false J),.agg (bS false M),ac O] (eJ bW (fQ J M O)):=(fun(aw:Nat→(List Int)→Int→Prop) (ay:Nat→(List Int)→Int→Nat) (h:Nk J M O (fQ J M O) aw ay)=>b3.run (ps:=[.dW,.frame,.int]) (rs:=[(.l .int)]) (x:=(J,M,O,())) (r:=((fQ J M O),())) ⟨27,eN,[YH]⟩ ⟨[],[],[],[]⟩ (.lp [(0,7,.int)] [2,3,4,11] [(4,4),(3,5)] [.nat,(.l .int),.int] [bY 0,bY 0,12] (fun a_=>[(7,.ref 0 a_.1 a_.2.1.length false),(12,.i .i64 a_.2.2.1),(bY 0,.blk a_.1 .int a_.2.1 _ rfl)]) (fun a_=>aw a_.1 a_.2.1 a_.2.2.1) (fun a_=>ay a_.1 a_.2.1 a_.2.2.1) fun _=> .nil) Try.func117 h) (fun _ x v=>cg J.ways.length (fun _=>false) v∧x=dz (fun i=>lG J M i O) v) (fun _ _ v=>cn J.ways.length v) (by
 unfold Nk
 obtain⟨hf,a0,h1⟩:=aF
 have vX:=hf.in.ways
 intro aC
 refine⟨⟨cS (de _),rfl⟩,fun g x v aM=> ?_⟩
 obtain⟨aM,rfl⟩:=aM
 have fA:=aM.1
 have hlen:=qy (fun i=>lG J M i O) v
 have qK:=aM.2.1
 refine⟨fun hv=>⟨by omega,?_⟩,fun hv=>⟨⟨hf,fA,by have:=b8 aM hv;omega,a0,h1⟩,?_⟩⟩
 ·have: ¬v<(J.ways.length:Int):=by simpa using hv
  rw[show v=(J.ways.length:Int) by omega];rfl
 have bd:=cq (ci aC) aM hv rfl
 have oO:IntKind.i64.wrap (v+1)=v+1:=ho (ci aC) fA (by simpa using hv)
 unfold Nl
 rw[Ze hf.k1 (b8 aM hv).2]
 refine⟨fun aj=>⟨⟨?_,?_⟩,⟨bd.1,by rw[oO,vy fA,if_pos aj]⟩,bd.2⟩,fun aj=>⟨⟨bd.1,by rw[oO,vy fA,if_neg (by rw[aj];simp)]⟩,bd.2⟩⟩
 ·simp only[List.length_singleton];omega
 ·simp only[List.length_singleton];omega)
def Yz:ev Try.prog:=⟨117,[.dW,.frame,.int],[(.l .int)],some fun x=>q0 x.1 x.2.1 x.2.2.1,fun x=>((fQ x.1 x.2.1 x.2.2.1),()),fun x h=>Nm x.1 x.2.1 x.2.2.1 h⟩
def Tt:List Item:=[au 0,au 1,au 2,au 3,au 4,au 5,au 6,au 7,au 8,au 9,au 10,au 11,au 12,au 13,au 14]
def Tu:List (List Nat):=[[],[0],[],[0,1,2],rg 0 4,rg 0 5,rg 0 6,rg 0 5,rg 0 8,rg 0 9,rg 0 10,rg 0 5,rg 0 5++[11],rg 0 13,rg 0 14]
def Tv:List Item:=[au 0,au 1,au 2,au 3,au 4,au 5,au 6,au 7,au 8,au 9]
def Tw:List (List Nat):=[[],[0],[],[2],[],[2,3,4],rg 2 6,rg 0 7,rg 0 8,rg 0 9]
def Jo (cF:Nat→(List Int)→Int→Nat→(List Int)→Int→Nat→(List Int)→Int→Bool→Bool→Nat→(List Int)→Int→Bool→Bool→Prop) (cI:Nat→(List Int)→Int→Nat→(List Int)→Int→Nat→(List Int)→Int→Bool→Bool→Nat→(List Int)→Int→Bool→Bool→Nat) (J:aB) (M:Frame) (aR:Nat) (aA:(List Int)) (dk:Int) (a3:Nat) (aL:(List Int)) (cj:Int) (aY:Nat) (bQ:(List Int)) (ig:Int) (eL bP:Bool) (dT:Int) (j4:Nat) (dV:(List Int)) (kN kO:Bool):Prop:=
  (((decide (((fQ J M dT).length:Int)>0)) || (nth M.al (nth J.bh dT)))=true→((dV.length+[dT].length)*8≤140737488355328∧dV.length+[dT].length≤4611686018427387904)∧(cF aR aA dk a3 aL cj aY bQ dT eL bP (j4+1) (dV++[dT]) (IntKind.i64.wrap (ig+1)) (kN || (decide (((fQ J M dT).length:Int)>0))) (kO || (nth M.al (nth J.bh dT)))∧cI aR aA dk a3 aL cj aY bQ dT eL bP (j4+1) (dV++[dT]) (IntKind.i64.wrap (ig+1)) (kN || (decide (((fQ J M dT).length:Int)>0))) (kO || (nth M.al (nth J.bh dT)))<cI aR aA dk a3 aL cj aY bQ dT eL bP j4 dV ig kN kO))∧(((decide (((fQ J M dT).length:Int)>0)) || (nth M.al (nth J.bh dT)))=false→cF aR aA dk a3 aL cj aY bQ dT eL bP j4 dV (IntKind.i64.wrap (ig+1)) (kN || (decide (((fQ J M dT).length:Int)>0))) (kO || (nth M.al (nth J.bh dT)))∧cI aR aA dk a3 aL cj aY bQ dT eL bP j4 dV (IntKind.i64.wrap (ig+1)) (kN || (decide (((fQ J M dT).length:Int)>0))) (kO || (nth M.al (nth J.bh dT)))<cI aR aA dk a3 aL cj aY bQ dT eL bP j4 dV ig kN kO)
def Jp (cF:Nat→(List Int)→Int→Nat→(List Int)→Int→Nat→(List Int)→Int→Bool→Bool→Nat→(List Int)→Int→Bool→Bool→Prop) (cI:Nat→(List Int)→Int→Nat→(List Int)→Int→Nat→(List Int)→Int→Bool→Bool→Nat→(List Int)→Int→Bool→Bool→Nat) (J:aB) (M:Frame) (O:Int) (aR:Nat) (aA:(List Int)) (dk:Int) (a3:Nat) (aL:(List Int)) (cj:Int) (aY:Nat) (bQ:(List Int)) (ig:Int) (eL bP:Bool) (dT:Int) (j4:Nat) (dV:(List Int)) (kN kO:Bool):Prop:=
  (((((nth (bq (nth J.ways O)) ig).bb) !=dT)=false→0≤dT∧dT.toNat<M.ak.length)∧(((((nth (bq (nth J.ways O)) ig).bb) !=dT) || (((nth M.ak dT).want)==((nth (bq (nth J.ways O)) ig).bx)))=true→cF aR aA dk a3 aL cj aY bQ dT eL bP j4 dV (IntKind.i64.wrap (ig+1)) kN kO∧cI aR aA dk a3 aL cj aY bQ dT eL bP j4 dV (IntKind.i64.wrap (ig+1)) kN kO<cI aR aA dk a3 aL cj aY bQ dT eL bP j4 dV ig kN kO))∧((!((((nth (bq (nth J.ways O)) ig).bb) !=dT) || (((nth M.ak dT).want)==((nth (bq (nth J.ways O)) ig).bx))))=true→(q0 J M dT)∧((fQ J M dT).length≤4611686018427387904→((0≤dT∧dT.toNat<J.bh.length)∧(0≤(nth J.bh dT)∧(nth J.bh dT).toNat<M.al.length))∧(Jo cF cI J M aR aA dk a3 aL cj aY bQ ig eL bP dT j4 dV kN kO)))
def Jq (bG:Nat→(List Int)→Int→Nat→(List Int)→Int→Nat→(List Int)→Int→Bool→Bool→Prop) (bE:Nat→(List Int)→Int→Nat→(List Int)→Int→Nat→(List Int)→Int→Bool→Bool→Nat) (cF:Nat→(List Int)→Int→Nat→(List Int)→Int→Nat→(List Int)→Int→Bool→Bool→Nat→(List Int)→Int→Bool→Bool→Prop) (cI:Nat→(List Int)→Int→Nat→(List Int)→Int→Nat→(List Int)→Int→Bool→Bool→Nat→(List Int)→Int→Bool→Bool→Nat) (J:aB) (M:Frame) (O:Int) (aR:Nat) (aA:(List Int)) (dk:Int) (a3:Nat) (aL:(List Int)) (cj:Int) (aY:Nat) (bQ:(List Int)) (ig:Int) (eL bP:Bool) (dT:Int) (j4:Nat) (dV:(List Int)) (kN kO:Bool):Prop:=
  ((decide (ig<((bq (nth J.ways O)).length:Int)))=false→bG aR aA dk a3 aL cj j4 dV (IntKind.i64.wrap (dT+1)) kN kO∧bE aR aA dk a3 aL cj j4 dV (IntKind.i64.wrap (dT+1)) kN kO<bE aR aA dk a3 aL cj aY bQ dT eL bP)∧((decide (ig<((bq (nth J.ways O)).length:Int)))=true→(0≤ig∧ig.toNat<(bq (nth J.ways O)).length)∧(Jp cF cI J M O aR aA dk a3 aL cj aY bQ ig eL bP dT j4 dV kN kO))
def Jr (bG:Nat→(List Int)→Int→Nat→(List Int)→Int→Nat→(List Int)→Int→Bool→Bool→Prop) (bE:Nat→(List Int)→Int→Nat→(List Int)→Int→Nat→(List Int)→Int→Bool→Bool→Nat) (cF:Nat→(List Int)→Int→Nat→(List Int)→Int→Nat→(List Int)→Int→Bool→Bool→Nat→(List Int)→Int→Bool→Bool→Prop) (cI:Nat→(List Int)→Int→Nat→(List Int)→Int→Nat→(List Int)→Int→Bool→Bool→Nat→(List Int)→Int→Bool→Bool→Nat) (J:aB) (M:Frame) (O:Int) (ar:l7×Bool×Bool) (aR:Nat) (aA:(List Int)) (dk:Int) (a3:Nat) (aL:(List Int)) (cj:Int) (aY:Nat) (bQ:(List Int)) (eL bP:Bool) (dT:Int):Prop:=
  ((decide (dT<(J.bh.length:Int)))=false→(aA.length≤4611686018427387904∧aA=ar.1.ways)∧(aL.length≤4611686018427387904∧aL=ar.1.ai)∧(bQ.length≤4611686018427387904∧bQ=ar.1.ak)∧(eL=ar.2.1)∧(bP=ar.2.2))∧((decide (dT<(J.bh.length:Int)))=true→(uE (nth J.ways O))∧((bq (nth J.ways O)).length≤4611686018427387904→cF aR aA dk a3 aL cj aY bQ dT eL bP aY bQ 0 eL bP∧ ∀(j4:Nat) (dV:(List Int)) (ig:Int) (kN:Bool) (kO:Bool),cF aR aA dk a3 aL cj aY bQ dT eL bP j4 dV ig kN kO→(Jq bG bE cF cI J M O aR aA dk a3 aL cj aY bQ ig eL bP dT j4 dV kN kO)))
def Js (aW:Nat→(List Int)→Int→Nat→(List Int)→Int→Prop) (aX:Nat→(List Int)→Int→Nat→(List Int)→Int→Nat) (J:aB) (M:Frame) (O:Int) (aR:Nat) (aA:(List Int)) (dk:Int) (a3:Nat) (aL:(List Int)) (cj:Int):Prop:=
  (((nth M.al cj)&&((fb ((nth J.ways O).ai) cj) || (fb ((nth J.ways O).cw) cj)))=true→((aL.length+[cj].length)*8≤140737488355328∧aL.length+[cj].length≤4611686018427387904)∧(aW aR aA dk (a3+1) (aL++[cj]) (IntKind.i64.wrap (cj+1))∧aX aR aA dk (a3+1) (aL++[cj]) (IntKind.i64.wrap (cj+1))<aX aR aA dk a3 aL cj))∧(((nth M.al cj)&&((fb ((nth J.ways O).ai) cj) || (fb ((nth J.ways O).cw) cj)))=false→aW aR aA dk a3 aL (IntKind.i64.wrap (cj+1))∧aX aR aA dk a3 aL (IntKind.i64.wrap (cj+1))<aX aR aA dk a3 aL cj)
def Jt (aW:Nat→(List Int)→Int→Nat→(List Int)→Int→Prop) (aX:Nat→(List Int)→Int→Nat→(List Int)→Int→Nat) (bG:Nat→(List Int)→Int→Nat→(List Int)→Int→Nat→(List Int)→Int→Bool→Bool→Prop) (bE:Nat→(List Int)→Int→Nat→(List Int)→Int→Nat→(List Int)→Int→Bool→Bool→Nat) (cF:Nat→(List Int)→Int→Nat→(List Int)→Int→Nat→(List Int)→Int→Bool→Bool→Nat→(List Int)→Int→Bool→Bool→Prop) (cI:Nat→(List Int)→Int→Nat→(List Int)→Int→Nat→(List Int)→Int→Bool→Bool→Nat→(List Int)→Int→Bool→Bool→Nat) (J:aB) (M:Frame) (O:Int) (ar:l7×Bool×Bool) (aR:Nat) (aA:(List Int)) (dk:Int) (a3:Nat) (aL:(List Int)) (cj:Int):Prop:=
  ((decide (cj<J.ai))=false→J.bh.length≤4611686018427387904→bG aR aA dk a3 aL cj 0 ([]:List Int) 0 false false∧ ∀(aY:Nat) (bQ:(List Int)) (dT:Int) (eL:Bool) (bP:Bool),bG aR aA dk a3 aL cj aY bQ dT eL bP→(Jr bG bE cF cI J M O ar aR aA dk a3 aL cj aY bQ eL bP dT))∧((decide (cj<J.ai))=true→(0≤cj∧cj.toNat<M.al.length)∧(Js aW aX J M O aR aA dk a3 aL cj))
def Ju (aw:Nat→(List Int)→Int→Prop) (ay:Nat→(List Int)→Int→Nat) (J:aB) (M:Frame) (O:Int) (aR:Nat) (aA:(List Int)) (dk:Int):Prop:=
  (((dk !=O)&&((((nth M.ways dk).state) !=0)&&((nth (nth J.bars O) dk) || ((meets ((nth J.ways O).ai) ((nth J.ways dk).cw)) || (meets ((nth J.ways O).cw) ((nth J.ways dk).ai))))))=true→((aA.length+[dk].length)*8≤140737488355328∧aA.length+[dk].length≤4611686018427387904)∧(aw (aR+1) (aA++[dk]) (IntKind.i64.wrap (dk+1))∧ay (aR+1) (aA++[dk]) (IntKind.i64.wrap (dk+1))<ay aR aA dk))∧(((dk !=O)&&((((nth M.ways dk).state) !=0)&&((nth (nth J.bars O) dk) || ((meets ((nth J.ways O).ai) ((nth J.ways dk).cw)) || (meets ((nth J.ways O).cw) ((nth J.ways dk).ai))))))=false→aw aR aA (IntKind.i64.wrap (dk+1))∧ay aR aA (IntKind.i64.wrap (dk+1))<ay aR aA dk)
def Jv (aw:Nat→(List Int)→Int→Prop) (ay:Nat→(List Int)→Int→Nat) (aW:Nat→(List Int)→Int→Nat→(List Int)→Int→Prop) (aX:Nat→(List Int)→Int→Nat→(List Int)→Int→Nat) (bG:Nat→(List Int)→Int→Nat→(List Int)→Int→Nat→(List Int)→Int→Bool→Bool→Prop) (bE:Nat→(List Int)→Int→Nat→(List Int)→Int→Nat→(List Int)→Int→Bool→Bool→Nat) (cF:Nat→(List Int)→Int→Nat→(List Int)→Int→Nat→(List Int)→Int→Bool→Bool→Nat→(List Int)→Int→Bool→Bool→Prop) (cI:Nat→(List Int)→Int→Nat→(List Int)→Int→Nat→(List Int)→Int→Bool→Bool→Nat→(List Int)→Int→Bool→Bool→Nat) (J:aB) (M:Frame) (O:Int) (ar:l7×Bool×Bool) (aR:Nat) (aA:(List Int)) (dk:Int):Prop:=
  ((decide (dk<(J.ways.length:Int)))=false→aW aR aA dk 0 ([]:List Int) 0∧ ∀(a3:Nat) (aL:(List Int)) (cj:Int),aW aR aA dk a3 aL cj→(Jt aW aX bG bE cF cI J M O ar aR aA dk a3 aL cj))∧((decide (dk<(J.ways.length:Int)))=true→(0≤dk∧dk.toNat<J.ways.length)∧(((dk !=O)=true→(0≤dk∧dk.toNat<M.ways.length)∧((((nth M.ways dk).state) !=0)=true→(0≤O∧O.toNat<J.bars.length)∧(0≤dk∧dk.toNat<(nth J.bars O).length)))∧(Ju aw ay J M O aR aA dk)))
def Jn (J:aB) (M:Frame) (O:Int) (ar:l7×Bool×Bool) (aw:Nat→(List Int)→Int→Prop) (ay:Nat→(List Int)→Int→Nat) (aW:Nat→(List Int)→Int→Nat→(List Int)→Int→Prop) (aX:Nat→(List Int)→Int→Nat→(List Int)→Int→Nat) (bG:Nat→(List Int)→Int→Nat→(List Int)→Int→Nat→(List Int)→Int→Bool→Bool→Prop) (bE:Nat→(List Int)→Int→Nat→(List Int)→Int→Nat→(List Int)→Int→Bool→Bool→Nat) (cF:Nat→(List Int)→Int→Nat→(List Int)→Int→Nat→(List Int)→Int→Bool→Bool→Nat→(List Int)→Int→Bool→Bool→Prop) (cI:Nat→(List Int)→Int→Nat→(List Int)→Int→Nat→(List Int)→Int→Bool→Bool→Nat→(List Int)→Int→Bool→Bool→Nat):Prop:=
 (0≤O∧O.toNat<J.ways.length)∧(J.ways.length≤4611686018427387904→aw 0 ([]:List Int) 0∧ ∀(aR:Nat) (aA:(List Int)) (dk:Int),aw aR aA dk→(Jv aw ay aW aX bG bE cF cI J M O ar aR aA dk))
theorem Tr (J:aB) (M:Frame) (O:Int) (aF:pj J M O):b3 Try.prog 115 [.agg (a8 false J),.agg (bS false M),ac O] (.tup [.agg (AO true ((hL J M O).1)),ah ((hL J M O).2.1),ah ((hL J M O).2.2)]):=(fun(aw:Nat→(List Int)→Int→Prop) (ay:Nat→(List Int)→Int→Nat) (aW:Nat→(List Int)→Int→Nat→(List Int)→Int→Prop) (aX:Nat→(List Int)→Int→Nat→(List Int)→Int→Nat) (bG:Nat→(List Int)→Int→Nat→(List Int)→Int→Nat→(List Int)→Int→Bool→Bool→Prop) (bE:Nat→(List Int)→Int→Nat→(List Int)→Int→Nat→(List Int)→Int→Bool→Bool→Nat) (cF:Nat→(List Int)→Int→Nat→(List Int)→Int→Nat→(List Int)→Int→Bool→Bool→Nat→(List Int)→Int→Bool→Bool→Prop) (cI:Nat→(List Int)→Int→Nat→(List Int)→Int→Nat→(List Int)→Int→Bool→Bool→Nat→(List Int)→Int→Bool→Bool→Nat) (h:Jn J M O (hL J M O) aw ay aW aX bG bE cF cI)=>b3.run (ps:=[.dW,.frame,.int]) (rs:=[.stays,.bool,.bool]) (x:=(J,M,O,())) (r:=((hL J M O).1,(hL J M O).2.1,(hL J M O).2.2,())) ⟨169,eN,[CJ,T7,zy,CH]⟩ ⟨[],[(20,Tt,Tu),(22,Tv,Tw)],[],[]⟩ (.lp [(7,0,.int)] [2,3,4,6,7,8,9,24,25] [(9,5),(6,3),(4,4),(3,5)] [.nat,(.l .int),.int] [bY 0,bY 0,26] (fun a_=>[(26,.i .i64 a_.2.2.1),(fB 6 0,.ref 0 a_.1 a_.2.1.length false),(bY 0,.blk a_.1 .int a_.2.1 _ rfl)]) (fun a_=>aw a_.1 a_.2.1 a_.2.2.1) (fun a_=>ay a_.1 a_.2.1 a_.2.2.1) fun a_=>(.lp [(7,1,.int)] [3,4,6,7,8,9,75] [(9,5),(6,3),(4,4),(3,5)] [.nat,(.l .int),.int] [bY 1,bY 1,76] (fun b_=>[(76,.i .i64 b_.2.2.1),(fB 6 1,.ref 1 b_.1 b_.2.1.length false),(bY 1,.blk b_.1 .int b_.2.1 _ rfl)]) (fun b_=>aW a_.1 a_.2.1 a_.2.2.1 b_.1 b_.2.1 b_.2.2.1) (fun b_=>aX a_.1 a_.2.1 a_.2.2.1 b_.1 b_.2.1 b_.2.2.1) fun b_=>(.lp [(7,2,.int)] [3,4,6,9,105] [(9,5),(6,3),(4,4),(3,5)] [.nat,(.l .int),.int,.bool,.bool] [bY 2,bY 2,106,7,8] (fun cR=>[(7,.b (.v cR.2.2.2.1)),(8,.b (.v cR.2.2.2.2.1)),(106,.i .i64 cR.2.2.1),(fB 6 2,.ref 2 cR.1 cR.2.1.length false),(bY 2,.blk cR.1 .int cR.2.1 _ rfl)]) (fun cR=>bG a_.1 a_.2.1 a_.2.2.1 b_.1 b_.2.1 b_.2.2.1 cR.1 cR.2.1 cR.2.2.1 cR.2.2.2.1 cR.2.2.2.2.1) (fun cR=>bE a_.1 a_.2.1 a_.2.2.1 b_.1 b_.2.1 b_.2.2.1 cR.1 cR.2.1 cR.2.2.1 cR.2.2.2.1 cR.2.2.2.2.1) fun cR=>(.lp [] [3,4,6,9,13,105,106,110,111] [(9,5),(6,3),(4,4),(3,5)] [.nat,(.l .int),.int,.bool,.bool] [bY 2,bY 2,112,7,8] (fun e7=>[(7,.b (.v e7.2.2.2.1)),(8,.b (.v e7.2.2.2.2.1)),(112,.i .i64 e7.2.2.1),(fB 6 2,.ref 2 e7.1 e7.2.1.length false),(bY 2,.blk e7.1 .int e7.2.1 _ rfl)]) (fun e7=>cF a_.1 a_.2.1 a_.2.2.1 b_.1 b_.2.1 b_.2.2.1 cR.1 cR.2.1 cR.2.2.1 cR.2.2.2.1 cR.2.2.2.2.1 e7.1 e7.2.1 e7.2.2.1 e7.2.2.2.1 e7.2.2.2.2.1) (fun e7=>cI a_.1 a_.2.1 a_.2.2.1 b_.1 b_.2.1 b_.2.2.1 cR.1 cR.2.1 cR.2.2.1 cR.2.2.2.1 cR.2.2.2.2.1 e7.1 e7.2.1 e7.2.2.1 e7.2.2.2.1 e7.2.2.2.2.1) fun _=> .nil)))) Try.func115 h) (fun _ x v=>cg J.ways.length (fun _=>false) v∧x=dz (j7 J M O) v) (fun _ _ v=>cn J.ways.length v) (fun _ aA _ _ aL v=>aA=dz (j7 J M O) J.ways.length∧cg J.ai (fun _=>false) v∧aL=dz (mc J M O) v) (fun _ _ _ _ _ v=>cn J.ai v) (fun _ aA _ _ aL _ _ bQ v a b=>aA=dz (j7 J M O) J.ways.length∧aL=dz (mc J M O) J.ai∧cg J.bh.length (fun _=>false) v∧bQ=dz (j6 J M O) v∧a=tv J M O v∧b=wW J M O v) (fun _ _ _ _ _ _ _ _ v _ _=>cn J.bh.length v) (fun _ _ _ _ _ _ _ x k a b _ lH j hp ca=>O0 J M O k x a b lH j hp ca) (fun _ _ _ _ _ _ _ _ _ _ _ _ _ j _ _=>cn (bq (nth J.ways O)).length j) (by
 unfold Jn
 obtain⟨hf,a0,h1⟩:=aF
 have hw:=hf.fr.ways
 have lQ:=hf.fr.ak
 have oM:=hf.fr.al
 have cA:=hf.in
 have vX:=cA.ways
 have tW:=cA.bb
 have pN:=cA.cK
 have eO:=zb hf.k1
 have bg:O.toNat<J.ways.length:=by omega
 have vW:=dt bg
 have lP:=DK hf.k1 vW
 refine⟨⟨a0,bg⟩,fun aC=>⟨⟨cS (de _),rfl⟩,fun g x v aM=> ?_⟩⟩
 obtain⟨aM,rfl⟩:=aM
 have hlen:=qy (j7 J M O) v
 have qK:=aM.2.1
 unfold Jv
 refine⟨fun hv=>⟨⟨ts aM hv,cS pN.1,rfl⟩,fun a3 aL s cu=> ?_⟩,fun hv=>⟨b8 aM hv,⟨fun _=> ?_,?_⟩⟩⟩
 ·obtain⟨g0,cu,rfl⟩:=cu
  have BL:=qy (mc J M O) s
  have SQ:=cu.2.1
  unfold Jt
  refine⟨fun hs hm=>⟨⟨g0,ts cu hs,cS (de _),rfl,rfl,rfl⟩,fun aY bQ k a b hK=> ?_⟩,fun hs=> ?_⟩
  ·obtain⟨_,oP,hK,rfl,rfl,rfl⟩:=hK
   have yp:=qy (j6 J M O) k
   have n0:=hK.2.1
   unfold Jr
   refine⟨fun hk=> ?_,fun hk=>⟨⟨by have:=(cA.aZ _ vW).1;omega,by have:=(cA.aZ _ vW).2.1;omega⟩,fun IL=> ?_⟩⟩
   ·have bF:=ts (q:=j6 J M O) hK hk
    have e:k=J.bh.length:=by
     have: ¬k<(J.bh.length:Int):=by simpa using hk
     omega
    refine⟨⟨by omega,g0⟩,⟨by omega,oP⟩,⟨by omega,bF⟩,?_,?_⟩
    ·rw[e];rfl
    ·rw[e];rfl
   ·have vU:=b8 hK hk
    have k4:=cq (ci hm) hK hk rfl
    refine⟨⟨cS (de _),by simp[mm],by simp[mm],by simp[mm]⟩,fun j4 dV j hp ca bT=> ?_⟩
    obtain⟨bT,rfl,rfl,rfl⟩:=bT
    unfold Jq
    refine⟨fun aP=> ?_,fun aP=>⟨b8 bT aP,?_⟩⟩
    ·have nZ: ¬j<((bq (nth J.ways O)).length:Int):=by simpa using aP
     rw[WL _ _ _ _ (j:=j.toNat) (by omega)]
     have s1:=oB (q:=j6 J M O) (ci hm) hK hk
     have s2:=(oB (q:=fun k=>jS J M O k&&h6 J M k) (ci hm) hK hk).2.2
     have lX:=(oB (q:=fun k=>jS J M O k&&js J M k) (ci hm) hK hk).2.2
     refine⟨⟨g0,oP,k4.1,?_,s2.symm,lX.symm⟩,k4.2⟩
     cases aj:j6 J M O k with
     | true=>rw[if_pos (show(jS J M O k&&(h6 J M k || js J M k))=true from aj)];exact s1.1 aj
     | false=>rw[if_neg (by rw[show(jS J M O k&&(h6 J M k || js J M k))=false from aj];simp)];exact s1.2.1 aj
    ·have yl:=b8 bT aP
     have r0:=cq (ci IL) bT aP rfl
     have xP:(IntKind.i64.wrap (j+1)).toNat=j.toNat+1:=by rw[ho (ci IL) bT.1 (by simpa using aP)];omega
     have pP:=WN (f:=M) (k:=k) yl.2
     have Su:nth (bq (nth J.ways O)) j=(bq (nth J.ways O))[j.toNat]'yl.2:=fv yl.2
     have BY:=cA.bh _ (dt vU.2)
     have By: ∀(c:Prop) [Decidable c],(if c then dz (j6 J M O) k++[k] else dz (j6 J M O) k).length≤41:=fun c _=>by
      split
      ·rw[List.length_append,List.length_singleton];omega
      ·omega
     unfold Jp
     rw[Su]
     refine⟨⟨fun _=>⟨hK.1,by omega⟩,fun aj=> ?_⟩,fun aj=>⟨⟨hf,hK.1,by omega⟩,fun io=>⟨⟨⟨hK.1,vU.2⟩,BY.1,by omega⟩,?_⟩⟩⟩
     ·have:((bq (nth J.ways O))[j.toNat].bb==k&& !((nth M.ak k).want==(bq (nth J.ways O))[j.toNat].bx))=false:=by
       revert aj
       rw[show((bq (nth J.ways O))[j.toNat].bb !=k)= !((bq (nth J.ways O))[j.toNat].bb==k) from rfl]
       cases((bq (nth J.ways O))[j.toNat].bb==k)<;>cases((nth M.ak k).want==(bq (nth J.ways O))[j.toNat].bx)<;>simp
      rw[this,Bool.or_false] at pP
      exact⟨⟨r0.1,by rw[xP,pP],by rw[xP,pP],by rw[xP,pP]⟩,r0.2⟩
     ·have lR:((bq (nth J.ways O))[j.toNat].bb==k)=true∧((nth M.ak k).want==(bq (nth J.ways O))[j.toNat].bx)=false:=by
       revert aj
       rw[show((bq (nth J.ways O))[j.toNat].bb !=k)= !((bq (nth J.ways O))[j.toNat].bb==k) from rfl]
       cases((bq (nth J.ways O))[j.toNat].bb==k)<;>cases((nth M.ak k).want==(bq (nth J.ways O))[j.toNat].bx)<;>simp
      have k6:=WM (f:=M) lP yl.2 lR.1
      rw[k6,lR.1,lR.2] at pP
      rw[k6]
      unfold Jo
      have hy:(decide (((fQ J M k).length:Int)>0))=h6 J M k:=rfl
      have lL:nth M.al (nth J.bh k)=js J M k:=rfl
      rw[hy,lL]
      simp only[Bool.false_and,Bool.or_false,if_false,Bool.false_eq_true]
      have E: ∀c:Bool,(mm J M O k (IntKind.i64.wrap (j+1)).toNat&&c)=c:=fun c=>by rw[xP,pP];rfl
      refine⟨fun hc=>⟨⟨by simp only[List.length_singleton];omega,by simp only[List.length_singleton];omega⟩,⟨r0.1,?_,by rw[E],by rw[E]⟩,r0.2⟩,fun hc=>⟨⟨r0.1,?_,by rw[E],by rw[E]⟩,r0.2⟩⟩
      ·rw[E,if_pos hc]
      ·rw[E,if_neg (by rw[hc];simp)]
  ·have pO:0≤s∧s<J.ai:=⟨cu.1,by simpa using hs⟩
   have bd:=cq (N:=J.ai) (by omega) cu hs rfl
   have s1:=oB (q:=mc J M O) (N:=J.ai) (by omega) cu hs
   refine⟨⟨cu.1,by omega⟩,?_⟩
   unfold Js
   exact⟨fun aj=>⟨⟨by simp only[List.length_singleton];omega,by simp only[List.length_singleton];omega⟩,⟨g0,bd.1,s1.1 aj⟩,bd.2⟩,fun aj=>⟨⟨g0,bd.1,s1.2.1 aj⟩,bd.2⟩⟩
 ·have b4:=b8 aM hv
  have gZ:=eO.len
  have ek:=eO.row O a0 h1
  exact⟨⟨b4.1,by omega⟩,fun _=>⟨⟨a0,by omega⟩,b4.1,by omega⟩⟩
 ·have bd:=cq (ci aC) aM hv rfl
  have s1:=oB (q:=j7 J M O) (ci aC) aM hv
  unfold Ju
  exact⟨fun aj=>⟨⟨by simp only[List.length_singleton];omega,by simp only[List.length_singleton];omega⟩,⟨bd.1,s1.1 aj⟩,bd.2⟩,fun aj=>⟨⟨bd.1,s1.2.1 aj⟩,bd.2⟩⟩)
def Ts:ev Try.prog:=⟨115,[.dW,.frame,.int],[.stays,.bool,.bool],some fun x=>pj x.1 x.2.1 x.2.2.1,fun x=>((hL x.1 x.2.1 x.2.2.1).1,(hL x.1 x.2.1 x.2.2.1).2.1,(hL x.1 x.2.1 x.2.2.1).2.2,()),fun x h=>Tr x.1 x.2.1 x.2.2.1 h⟩
def YE:List Item:=[au 0,au 1,au 2,au 3,au 4,au 5,au 6,au 7,au 8,au 9,au 10,au 11,au 12,au 13,au 14,au 15,au 16,au 17,au 18,au 19,au 20,au 21,au 22,au 23,au 24,au 25,au 26,au 27,au 28,au 29,au 30,au 31,au 32,au 33,au 34,au 35,au 36,au 37,au 38,au 39,au 40,au 41,au 42,au 43]
def YF:List (List Nat):=[[],[],[0,1],[0,1,2],rg 0 4,rg 0 5,rg 0 4,rg 0 7,rg 0 8,rg 0 9,rg 0 10,rg 0 11,rg 0 12,rg 0 13,rg 0 14,rg 0 13,rg 0 16,rg 0 17,rg 0 13,rg 0 19,rg 0 20,rg 0 21,rg 0 22,rg 0 23,rg 0 22,rg 0 22++[24],rg 0 22,rg 0 22++[24,25,26],rg 0 22++rg 24 28,rg 0 22++rg 24 29,rg 0 30,rg 0 31,rg 0 32,rg 0 33,rg 0 34,rg 0 33,rg 0 33++[35],rg 0 33,rg 0 33++[35,36,37],rg 0 33++rg 35 39,rg 0 33++rg 35 40,rg 0 41,rg 0 42,rg 0 43]
def YC:List Item:=[au 0,au 1,au 2,au 3,au 4,au 5,au 6,au 7,au 8]
def YD:List (List Nat):=[[],[0],[],[2],[],[2,3,4],rg 2 6,rg 0 7,rg 0 8]
def No (bG:Nat→(List Int)→Int→Int→Nat→(List Int)→Int→Int→Nat→(List Int)→Int→Int→Prop) (bE:Nat→(List Int)→Int→Int→Nat→(List Int)→Int→Int→Nat→(List Int)→Int→Int→Nat) (aR:Nat) (aA:(List Int)) (a9 bU:Int) (a3:Nat) (aL:(List Int)) (ad dH:Int) (aY:Nat) (bQ:(List Int)) (dm bi:Int):Prop:=
  ((bi==0)=true→bG aR aA a9 bU a3 aL ad dH (aY+1) (bQ++[dm]) (IntKind.i64.wrap (dm+1)) 6∧bE aR aA a9 bU a3 aL ad dH (aY+1) (bQ++[dm]) (IntKind.i64.wrap (dm+1)) 6<bE aR aA a9 bU a3 aL ad dH aY bQ dm bi)∧((bi==0)=false→bG aR aA a9 bU a3 aL ad dH (aY+1) (bQ++[dm]) (IntKind.i64.wrap (dm+1)) bi∧bE aR aA a9 bU a3 aL ad dH (aY+1) (bQ++[dm]) (IntKind.i64.wrap (dm+1)) bi<bE aR aA a9 bU a3 aL ad dH aY bQ dm bi)
def Nt (bG:Nat→(List Int)→Int→Int→Nat→(List Int)→Int→Int→Nat→(List Int)→Int→Int→Prop) (bE:Nat→(List Int)→Int→Int→Nat→(List Int)→Int→Int→Nat→(List Int)→Int→Int→Nat) (J:aB) (M:Frame) (aR:Nat) (aA:(List Int)) (a9 bU:Int) (a3:Nat) (aL:(List Int)) (ad dH:Int) (aY:Nat) (bQ:(List Int)) (dm bi:Int):Prop:=
  ((nth M.al (nth J.bh dm))=true→((bQ.length+[dm].length)*8≤140737488355328∧bQ.length+[dm].length≤4611686018427387904)∧(No bG bE aR aA a9 bU a3 aL ad dH aY bQ dm bi))∧((nth M.al (nth J.bh dm))=false→bG aR aA a9 bU a3 aL ad dH aY bQ (IntKind.i64.wrap (dm+1)) bi∧bE aR aA a9 bU a3 aL ad dH aY bQ (IntKind.i64.wrap (dm+1)) bi<bE aR aA a9 bU a3 aL ad dH aY bQ dm bi)
def Nu (bG:Nat→(List Int)→Int→Int→Nat→(List Int)→Int→Int→Nat→(List Int)→Int→Int→Prop) (bE:Nat→(List Int)→Int→Int→Nat→(List Int)→Int→Int→Nat→(List Int)→Int→Int→Nat) (J:aB) (M:Frame) (aR:Nat) (aA:(List Int)) (a9 bU:Int) (a3:Nat) (aL:(List Int)) (ad dH:Int) (aY:Nat) (bQ:(List Int)) (dm bi:Int):Prop:=
  ((decide (((fQ J M dm).length:Int)>0))=true→((bQ.length+[dm].length)*8≤140737488355328∧bQ.length+[dm].length≤4611686018427387904)∧(bG aR aA a9 bU a3 aL ad dH (aY+1) (bQ++[dm]) (IntKind.i64.wrap (dm+1)) 5∧bE aR aA a9 bU a3 aL ad dH (aY+1) (bQ++[dm]) (IntKind.i64.wrap (dm+1)) 5<bE aR aA a9 bU a3 aL ad dH aY bQ dm bi))∧((decide (((fQ J M dm).length:Int)>0))=false→((0≤dm∧dm.toNat<J.bh.length)∧(0≤(nth J.bh dm)∧(nth J.bh dm).toNat<M.al.length))∧(Nt bG bE J M aR aA a9 bU a3 aL ad dH aY bQ dm bi))
def Nv (dL:Nat→(List Int)→Int→Int→Nat→(List Int)→Int→Int→Nat→(List Int)→Int→Int→Int→Int→Int→Int→Prop) (dO:Nat→(List Int)→Int→Int→Nat→(List Int)→Int→Int→Nat→(List Int)→Int→Int→Int→Int→Int→Int→Nat) (J:aB) (O:Int) (aR:Nat) (aA:(List Int)) (a9 bU:Int) (a3:Nat) (aL:(List Int)) (ad dH lE jA g_ pi:Int) (aY:Nat) (bQ:(List Int)) (dm bi:Int):Prop:=
  dL aR aA a9 bU a3 aL ad dH aY bQ dm bi g_ jA (IntKind.i64.wrap (lE+1)) (bif (((nth (nth [(nth J.ways O).aZ,(nth J.ways O).br] g_) lE).bb)==dm) then(nth (nth [(nth J.ways O).aZ,(nth J.ways O).br] g_) lE).bx else pi)∧dO aR aA a9 bU a3 aL ad dH aY bQ dm bi g_ jA (IntKind.i64.wrap (lE+1)) (bif (((nth (nth [(nth J.ways O).aZ,(nth J.ways O).br] g_) lE).bb)==dm) then(nth (nth [(nth J.ways O).aZ,(nth J.ways O).br] g_) lE).bx else pi)<dO aR aA a9 bU a3 aL ad dH aY bQ dm bi g_ jA lE pi
def Nw (cF:Nat→(List Int)→Int→Int→Nat→(List Int)→Int→Int→Nat→(List Int)→Int→Int→Int→Int→Prop) (cI:Nat→(List Int)→Int→Int→Nat→(List Int)→Int→Int→Nat→(List Int)→Int→Int→Int→Int→Nat) (dL:Nat→(List Int)→Int→Int→Nat→(List Int)→Int→Int→Nat→(List Int)→Int→Int→Int→Int→Int→Int→Prop) (dO:Nat→(List Int)→Int→Int→Nat→(List Int)→Int→Int→Nat→(List Int)→Int→Int→Int→Int→Int→Int→Nat) (J:aB) (O:Int) (aR:Nat) (aA:(List Int)) (a9 bU:Int) (a3:Nat) (aL:(List Int)) (ad dH lE jA g_ pi:Int) (aY:Nat) (bQ:(List Int)) (dm bi:Int):Prop:=
  ((decide (lE<((nth [(nth J.ways O).aZ,(nth J.ways O).br] g_).length:Int)))=false→cF aR aA a9 bU a3 aL ad dH aY bQ dm bi (IntKind.i64.wrap (g_+1)) pi∧cI aR aA a9 bU a3 aL ad dH aY bQ dm bi (IntKind.i64.wrap (g_+1)) pi<cI aR aA a9 bU a3 aL ad dH aY bQ dm bi g_ jA)∧((decide (lE<((nth [(nth J.ways O).aZ,(nth J.ways O).br] g_).length:Int)))=true→(0≤lE∧lE.toNat<(nth [(nth J.ways O).aZ,(nth J.ways O).br] g_).length)∧(Nv dL dO J O aR aA a9 bU a3 aL ad dH lE jA g_ pi aY bQ dm bi))
def Nx (cF:Nat→(List Int)→Int→Int→Nat→(List Int)→Int→Int→Nat→(List Int)→Int→Int→Int→Int→Prop) (cI:Nat→(List Int)→Int→Int→Nat→(List Int)→Int→Int→Nat→(List Int)→Int→Int→Int→Int→Nat) (dL:Nat→(List Int)→Int→Int→Nat→(List Int)→Int→Int→Nat→(List Int)→Int→Int→Int→Int→Int→Int→Prop) (dO:Nat→(List Int)→Int→Int→Nat→(List Int)→Int→Int→Nat→(List Int)→Int→Int→Int→Int→Int→Int→Nat) (J:aB) (O:Int) (aR:Nat) (aA:(List Int)) (a9 bU:Int) (a3:Nat) (aL:(List Int)) (ad dH jA g_:Int) (aY:Nat) (bQ:(List Int)) (dm bi:Int):Prop:=
  (0≤g_∧g_.toNat<[(nth J.ways O).aZ,(nth J.ways O).br].length)∧((nth [(nth J.ways O).aZ,(nth J.ways O).br] g_).length≤4611686018427387904→dL aR aA a9 bU a3 aL ad dH aY bQ dm bi g_ jA 0 jA∧ ∀(lE:Int) (pi:Int),dL aR aA a9 bU a3 aL ad dH aY bQ dm bi g_ jA lE pi→(Nw cF cI dL dO J O aR aA a9 bU a3 aL ad dH lE jA g_ pi aY bQ dm bi))
def Ny (bG:Nat→(List Int)→Int→Int→Nat→(List Int)→Int→Int→Nat→(List Int)→Int→Int→Prop) (bE:Nat→(List Int)→Int→Int→Nat→(List Int)→Int→Int→Nat→(List Int)→Int→Int→Nat) (cF:Nat→(List Int)→Int→Int→Nat→(List Int)→Int→Int→Nat→(List Int)→Int→Int→Int→Int→Prop) (cI:Nat→(List Int)→Int→Int→Nat→(List Int)→Int→Int→Nat→(List Int)→Int→Int→Int→Int→Nat) (dL:Nat→(List Int)→Int→Int→Nat→(List Int)→Int→Int→Nat→(List Int)→Int→Int→Int→Int→Int→Int→Prop) (dO:Nat→(List Int)→Int→Int→Nat→(List Int)→Int→Int→Nat→(List Int)→Int→Int→Int→Int→Int→Int→Nat) (J:aB) (M:Frame) (O:Int) (aR:Nat) (aA:(List Int)) (a9 bU:Int) (a3:Nat) (aL:(List Int)) (ad dH jA g_:Int) (aY:Nat) (bQ:(List Int)) (dm bi:Int):Prop:=
  ((decide (g_<([(nth J.ways O).aZ,(nth J.ways O).br].length:Int)))=false→(((jA==0)=false→0≤dm∧dm.toNat<M.ak.length)∧(((jA==0) || (jA==((nth M.ak dm).want)))=true→bG aR aA a9 bU a3 aL ad dH aY bQ (IntKind.i64.wrap (dm+1)) bi∧bE aR aA a9 bU a3 aL ad dH aY bQ (IntKind.i64.wrap (dm+1)) bi<bE aR aA a9 bU a3 aL ad dH aY bQ dm bi))∧((!((jA==0) || (jA==((nth M.ak dm).want))))=true→(q0 J M dm)∧((fQ J M dm).length≤4611686018427387904→Nu bG bE J M aR aA a9 bU a3 aL ad dH aY bQ dm bi)))∧((decide (g_<([(nth J.ways O).aZ,(nth J.ways O).br].length:Int)))=true→Nx cF cI dL dO J O aR aA a9 bU a3 aL ad dH jA g_ aY bQ dm bi)
def Nz (bG:Nat→(List Int)→Int→Int→Nat→(List Int)→Int→Int→Nat→(List Int)→Int→Int→Prop) (bE:Nat→(List Int)→Int→Int→Nat→(List Int)→Int→Int→Nat→(List Int)→Int→Int→Nat) (cF:Nat→(List Int)→Int→Int→Nat→(List Int)→Int→Int→Nat→(List Int)→Int→Int→Int→Int→Prop) (cI:Nat→(List Int)→Int→Int→Nat→(List Int)→Int→Int→Nat→(List Int)→Int→Int→Int→Int→Nat) (dL:Nat→(List Int)→Int→Int→Nat→(List Int)→Int→Int→Nat→(List Int)→Int→Int→Int→Int→Int→Int→Prop) (dO:Nat→(List Int)→Int→Int→Nat→(List Int)→Int→Int→Nat→(List Int)→Int→Int→Int→Int→Int→Int→Nat) (J:aB) (M:Frame) (O:Int) (ar:l7×Int) (aR:Nat) (aA:(List Int)) (a9 bU:Int) (a3:Nat) (aL:(List Int)) (ad dH:Int) (aY:Nat) (bQ:(List Int)) (dm bi:Int):Prop:=
  ((decide (dm<(J.bh.length:Int)))=false→(aA.length≤4611686018427387904∧aA=ar.1.ways)∧(aL.length≤4611686018427387904∧aL=ar.1.ai)∧(bQ.length≤4611686018427387904∧bQ=ar.1.ak)∧((bif (dH==0) then bi else dH)=ar.2))∧((decide (dm<(J.bh.length:Int)))=true→[(nth J.ways O).aZ,(nth J.ways O).br].length≤4611686018427387904→cF aR aA a9 bU a3 aL ad dH aY bQ dm bi 0 0∧ ∀(g_:Int) (jA:Int),cF aR aA a9 bU a3 aL ad dH aY bQ dm bi g_ jA→(Ny bG bE cF cI dL dO J M O aR aA a9 bU a3 aL ad dH jA g_ aY bQ dm bi))
def NA (aW:Nat→(List Int)→Int→Int→Nat→(List Int)→Int→Int→Prop) (aX:Nat→(List Int)→Int→Int→Nat→(List Int)→Int→Int→Nat) (J:aB) (M:Frame) (O:Int) (aR:Nat) (aA:(List Int)) (a9 bU:Int) (a3:Nat) (aL:(List Int)) (ad dH:Int):Prop:=
  (((nth M.al ad)&&((meets [ad] ((nth J.ways O).ai)) || (meets [ad] ((nth J.ways O).cw))))=true→((aL.length+[ad].length)*8≤140737488355328∧aL.length+[ad].length≤4611686018427387904)∧(((dH==0)=true→aW aR aA a9 bU (a3+1) (aL++[ad]) (IntKind.i64.wrap (ad+1)) 4∧aX aR aA a9 bU (a3+1) (aL++[ad]) (IntKind.i64.wrap (ad+1)) 4<aX aR aA a9 bU a3 aL ad dH)∧((dH==0)=false→aW aR aA a9 bU (a3+1) (aL++[ad]) (IntKind.i64.wrap (ad+1)) dH∧aX aR aA a9 bU (a3+1) (aL++[ad]) (IntKind.i64.wrap (ad+1)) dH<aX aR aA a9 bU a3 aL ad dH)))∧(((nth M.al ad)&&((meets [ad] ((nth J.ways O).ai)) || (meets [ad] ((nth J.ways O).cw))))=false→aW aR aA a9 bU a3 aL (IntKind.i64.wrap (ad+1)) dH∧aX aR aA a9 bU a3 aL (IntKind.i64.wrap (ad+1)) dH<aX aR aA a9 bU a3 aL ad dH)
def Np (aW:Nat→(List Int)→Int→Int→Nat→(List Int)→Int→Int→Prop) (aX:Nat→(List Int)→Int→Int→Nat→(List Int)→Int→Int→Nat) (bG:Nat→(List Int)→Int→Int→Nat→(List Int)→Int→Int→Nat→(List Int)→Int→Int→Prop) (bE:Nat→(List Int)→Int→Int→Nat→(List Int)→Int→Int→Nat→(List Int)→Int→Int→Nat) (cF:Nat→(List Int)→Int→Int→Nat→(List Int)→Int→Int→Nat→(List Int)→Int→Int→Int→Int→Prop) (cI:Nat→(List Int)→Int→Int→Nat→(List Int)→Int→Int→Nat→(List Int)→Int→Int→Int→Int→Nat) (dL:Nat→(List Int)→Int→Int→Nat→(List Int)→Int→Int→Nat→(List Int)→Int→Int→Int→Int→Int→Int→Prop) (dO:Nat→(List Int)→Int→Int→Nat→(List Int)→Int→Int→Nat→(List Int)→Int→Int→Int→Int→Int→Int→Nat) (J:aB) (M:Frame) (O:Int) (ar:l7×Int) (aR:Nat) (aA:(List Int)) (a9 bU:Int) (a3:Nat) (aL:(List Int)) (ad dH:Int):Prop:=
  ((decide (ad<J.ai))=false→J.bh.length≤4611686018427387904→bG aR aA a9 bU a3 aL ad dH 0 ([]:List Int) 0 0∧ ∀(aY:Nat) (bQ:(List Int)) (dm:Int) (bi:Int),bG aR aA a9 bU a3 aL ad dH aY bQ dm bi→(Nz bG bE cF cI dL dO J M O ar aR aA a9 bU a3 aL ad dH aY bQ dm bi))∧((decide (ad<J.ai))=true→(0≤ad∧ad.toNat<M.al.length)∧(NA aW aX J M O aR aA a9 bU a3 aL ad dH))
def Nq (aw:Nat→(List Int)→Int→Int→Prop) (ay:Nat→(List Int)→Int→Int→Nat) (J:aB) (M:Frame) (O:Int) (aR:Nat) (aA:(List Int)) (a9 bU:Int):Prop:=
  (((a9 !=O)&&((((nth M.ways a9).state) !=0)&&((nth (nth J.bars O) a9) || ((meets ((nth J.ways O).ai) ((nth J.ways a9).cw)) || (meets ((nth J.ways O).cw) ((nth J.ways a9).ai))))))=true→((aA.length+[a9].length)*8≤140737488355328∧aA.length+[a9].length≤4611686018427387904)∧(aw (aR+1) (aA++[a9]) (IntKind.i64.wrap (a9+1)) 3∧ay (aR+1) (aA++[a9]) (IntKind.i64.wrap (a9+1)) 3<ay aR aA a9 bU))∧(((a9 !=O)&&((((nth M.ways a9).state) !=0)&&((nth (nth J.bars O) a9) || ((meets ((nth J.ways O).ai) ((nth J.ways a9).cw)) || (meets ((nth J.ways O).cw) ((nth J.ways a9).ai))))))=false→aw aR aA (IntKind.i64.wrap (a9+1)) bU∧ay aR aA (IntKind.i64.wrap (a9+1)) bU<ay aR aA a9 bU)
def Nr (aw:Nat→(List Int)→Int→Int→Prop) (ay:Nat→(List Int)→Int→Int→Nat) (J:aB) (M:Frame) (O:Int) (aR:Nat) (aA:(List Int)) (a9 bU:Int):Prop:=
  ((a9 !=O)=true→(0≤a9∧a9.toNat<M.ways.length)∧((((nth M.ways a9).state) !=0)=true→(0≤O∧O.toNat<J.bars.length)∧((0≤a9∧a9.toNat<(nth J.bars O).length)∧((nth (nth J.bars O) a9)=false→(0≤a9∧a9.toNat<J.ways.length)∧((meets ((nth J.ways O).ai) ((nth J.ways a9).cw))=false→0≤a9∧a9.toNat<J.ways.length)))))∧(Nq aw ay J M O aR aA a9 bU)
def Ns (aw:Nat→(List Int)→Int→Int→Prop) (ay:Nat→(List Int)→Int→Int→Nat) (aW:Nat→(List Int)→Int→Int→Nat→(List Int)→Int→Int→Prop) (aX:Nat→(List Int)→Int→Int→Nat→(List Int)→Int→Int→Nat) (bG:Nat→(List Int)→Int→Int→Nat→(List Int)→Int→Int→Nat→(List Int)→Int→Int→Prop) (bE:Nat→(List Int)→Int→Int→Nat→(List Int)→Int→Int→Nat→(List Int)→Int→Int→Nat) (cF:Nat→(List Int)→Int→Int→Nat→(List Int)→Int→Int→Nat→(List Int)→Int→Int→Int→Int→Prop) (cI:Nat→(List Int)→Int→Int→Nat→(List Int)→Int→Int→Nat→(List Int)→Int→Int→Int→Int→Nat) (dL:Nat→(List Int)→Int→Int→Nat→(List Int)→Int→Int→Nat→(List Int)→Int→Int→Int→Int→Int→Int→Prop) (dO:Nat→(List Int)→Int→Int→Nat→(List Int)→Int→Int→Nat→(List Int)→Int→Int→Int→Int→Int→Int→Nat) (J:aB) (M:Frame) (O:Int) (ar:l7×Int):Prop:=
  aw 0 ([]:List Int) 0 0∧ ∀(aR:Nat) (aA:(List Int)) (a9:Int) (bU:Int),aw aR aA a9 bU→(((decide (a9<(J.ways.length:Int)))=false→aW aR aA a9 bU 0 ([]:List Int) 0 bU∧ ∀(a3:Nat) (aL:(List Int)) (ad:Int) (dH:Int),aW aR aA a9 bU a3 aL ad dH→(Np aW aX bG bE cF cI dL dO J M O ar aR aA a9 bU a3 aL ad dH))∧((decide (a9<(J.ways.length:Int)))=true→Nr aw ay J M O aR aA a9 bU))
def Nn (J:aB) (M:Frame) (O:Int) (ar:l7×Int) (aw:Nat→(List Int)→Int→Int→Prop) (ay:Nat→(List Int)→Int→Int→Nat) (aW:Nat→(List Int)→Int→Int→Nat→(List Int)→Int→Int→Prop) (aX:Nat→(List Int)→Int→Int→Nat→(List Int)→Int→Int→Nat) (bG:Nat→(List Int)→Int→Int→Nat→(List Int)→Int→Int→Nat→(List Int)→Int→Int→Prop) (bE:Nat→(List Int)→Int→Int→Nat→(List Int)→Int→Int→Nat→(List Int)→Int→Int→Nat) (cF:Nat→(List Int)→Int→Int→Nat→(List Int)→Int→Int→Nat→(List Int)→Int→Int→Int→Int→Prop) (cI:Nat→(List Int)→Int→Int→Nat→(List Int)→Int→Int→Nat→(List Int)→Int→Int→Int→Int→Nat) (dL:Nat→(List Int)→Int→Int→Nat→(List Int)→Int→Int→Nat→(List Int)→Int→Int→Int→Int→Int→Int→Prop) (dO:Nat→(List Int)→Int→Int→Nat→(List Int)→Int→Int→Nat→(List Int)→Int→Int→Int→Int→Int→Int→Nat):Prop:=
 (0≤O∧O.toNat<J.ways.length)∧(J.ways.length≤4611686018427387904→Ns aw ay aW aX bG bE cF cI dL dO J M O ar)
theorem YA (J:aB) (M:Frame) (O:Int) (aF:pj J M O):b3 Try.prog 154 [.agg (a8 false J),.agg (bS false M),ac O] (.tup [.agg (AO true ((ri J M O).1)),ac ((ri J M O).2)]):=(fun(aw:Nat→(List Int)→Int→Int→Prop) (ay:Nat→(List Int)→Int→Int→Nat) (aW:Nat→(List Int)→Int→Int→Nat→(List Int)→Int→Int→Prop) (aX:Nat→(List Int)→Int→Int→Nat→(List Int)→Int→Int→Nat) (bG:Nat→(List Int)→Int→Int→Nat→(List Int)→Int→Int→Nat→(List Int)→Int→Int→Prop) (bE:Nat→(List Int)→Int→Int→Nat→(List Int)→Int→Int→Nat→(List Int)→Int→Int→Nat) (cF:Nat→(List Int)→Int→Int→Nat→(List Int)→Int→Int→Nat→(List Int)→Int→Int→Int→Int→Prop) (cI:Nat→(List Int)→Int→Int→Nat→(List Int)→Int→Int→Nat→(List Int)→Int→Int→Int→Int→Nat) (dL:Nat→(List Int)→Int→Int→Nat→(List Int)→Int→Int→Nat→(List Int)→Int→Int→Int→Int→Int→Int→Prop) (dO:Nat→(List Int)→Int→Int→Nat→(List Int)→Int→Int→Nat→(List Int)→Int→Int→Int→Int→Int→Int→Nat) (h:Nn J M O (ri J M O) aw ay aW aX bG bE cF cI dL dO)=>b3.run (ps:=[.dW,.frame,.int]) (rs:=[.stays,.int]) (x:=(J,M,O,())) (r:=((ri J M O).1,(ri J M O).2,())) ⟨192,eN,[Yz,E8]⟩ ⟨[],[(7,YE,YF),(37,YC,YD)],[],[]⟩ (.lp [(9,0,.int)] [2,3,4,6,8,10,27] [(10,5),(8,3),(6,3),(4,4),(3,5)] [.nat,(.l .int),.int,.int] [bY 0,bY 0,28,9] (fun a_=>[(9,.i .i64 a_.2.2.2.1),(28,.i .i64 a_.2.2.1),(fB 8 0,.ref 0 a_.1 a_.2.1.length false),(bY 0,.blk a_.1 .int a_.2.1 _ rfl)]) (fun a_=>aw a_.1 a_.2.1 a_.2.2.1 a_.2.2.2.1) (fun a_=>ay a_.1 a_.2.1 a_.2.2.1 a_.2.2.2.1) fun a_=>(.lp [(9,1,.int)] [3,4,6,8,10] [(10,5),(8,3),(6,3),(4,4),(3,5)] [.nat,(.l .int),.int,.int] [bY 1,bY 1,12,9] (fun b_=>[(9,.i .i64 b_.2.2.2.1),(12,.i .i64 b_.2.2.1),(fB 8 1,.ref 1 b_.1 b_.2.1.length false),(bY 1,.blk b_.1 .int b_.2.1 _ rfl)]) (fun b_=>aW a_.1 a_.2.1 a_.2.2.1 a_.2.2.2.1 b_.1 b_.2.1 b_.2.2.1 b_.2.2.2.1) (fun b_=>aX a_.1 a_.2.1 a_.2.2.1 a_.2.2.2.1 b_.1 b_.2.1 b_.2.2.1 b_.2.2.2.1) fun b_=>(.lp [(9,2,.int)] [3,4,6,8,9,10,117] [(10,5),(8,3),(6,3),(4,4),(3,5)] [.nat,(.l .int),.int,.int] [bY 2,bY 2,118,13] (fun cR=>[(13,.i .i64 cR.2.2.2.1),(118,.i .i64 cR.2.2.1),(fB 8 2,.ref 2 cR.1 cR.2.1.length false),(bY 2,.blk cR.1 .int cR.2.1 _ rfl)]) (fun cR=>bG a_.1 a_.2.1 a_.2.2.1 a_.2.2.2.1 b_.1 b_.2.1 b_.2.2.1 b_.2.2.2.1 cR.1 cR.2.1 cR.2.2.1 cR.2.2.2.1) (fun cR=>bE a_.1 a_.2.1 a_.2.2.1 a_.2.2.2.1 b_.1 b_.2.1 b_.2.2.1 b_.2.2.2.1 cR.1 cR.2.1 cR.2.2.1 cR.2.2.2.1) fun cR=>(.lp [] [3,4,6,8,9,10,13,14,117,118,125,126] [(10,5),(8,3),(6,3),(4,4),(3,5)] [.int,.int] [127,15] (fun e7=>[(15,.i .i64 e7.2.1),(127,.i .i64 e7.1)]) (fun e7=>cF a_.1 a_.2.1 a_.2.2.1 a_.2.2.2.1 b_.1 b_.2.1 b_.2.2.1 b_.2.2.2.1 cR.1 cR.2.1 cR.2.2.1 cR.2.2.2.1 e7.1 e7.2.1) (fun e7=>cI a_.1 a_.2.1 a_.2.2.1 a_.2.2.2.1 b_.1 b_.2.1 b_.2.2.1 b_.2.2.2.1 cR.1 cR.2.1 cR.2.2.1 cR.2.2.2.1 e7.1 e7.2.1) fun e7=>(.lp [] [3,4,6,8,9,10,13,14,117,118,125,126,127,131,132] [(10,5),(8,3),(6,3),(4,4),(3,5)] [.int,.int] [133,15] (fun rl=>[(15,.i .i64 rl.2.1),(133,.i .i64 rl.1)]) (fun rl=>dL a_.1 a_.2.1 a_.2.2.1 a_.2.2.2.1 b_.1 b_.2.1 b_.2.2.1 b_.2.2.2.1 cR.1 cR.2.1 cR.2.2.1 cR.2.2.2.1 e7.1 e7.2.1 rl.1 rl.2.1) (fun rl=>dO a_.1 a_.2.1 a_.2.2.1 a_.2.2.2.1 b_.1 b_.2.1 b_.2.2.1 b_.2.2.2.1 cR.1 cR.2.1 cR.2.2.1 cR.2.2.2.1 e7.1 e7.2.1 rl.1 rl.2.1) fun _=> .nil))))) Try.func154 h) (fun _ x v c=>cg J.ways.length (fun _=>false) v∧x=dz (j7 J M O) v∧c=(if x≠[] then 3 else 0)) (fun _ _ v _=>cn J.ways.length v) (fun _ aA _ _ _ aL v c=>aA=dz (j7 J M O) J.ways.length∧cg J.ai (fun _=>false) v∧aL=dz (mc J M O) v∧c=(if aA≠[] then 3 else if aL≠[] then 4 else 0)) (fun _ _ _ _ _ _ v _=>cn J.ai v) (fun _ aA _ _ _ aL _ c _ bQ v h=>aA=dz (j7 J M O) J.ways.length∧aL=dz (mc J M O) J.ai∧c=(if aA≠[] then 3 else if aL≠[] then 4 else 0)∧cg J.bh.length (fun _=>false) v∧bQ=dz (j6 J M O) v∧h=tG J M O v) (fun _ _ _ _ _ _ _ _ _ _ v _=>cn J.bh.length v) (fun _ _ _ _ _ _ _ _ _ _ k _ i l=>cg ([(nth J.ways O).aZ,(nth J.ways O).br].length:Int) (fun _=>false) i∧l=oV 0 (([(nth J.ways O).aZ,(nth J.ways O).br].take i.toNat).flatten) k) (fun _ _ _ _ _ _ _ _ _ _ _ _ i _=>cn ([(nth J.ways O).aZ,(nth J.ways O).br].length:Int) i) (fun _ _ _ _ _ _ _ _ _ _ k _ i l j eR=>cg (nth [(nth J.ways O).aZ,(nth J.ways O).br] i).length (fun _=>false) j∧eR=oV l ((nth [(nth J.ways O).aZ,(nth J.ways O).br] i).take j.toNat) k) (fun _ _ _ _ _ _ _ _ _ _ _ _ i _ j _=>cn (nth [(nth J.ways O).aZ,(nth J.ways O).br] i).length j) (by
 unfold Nn Ns
 obtain⟨hf,a0,h1⟩:=aF
 have hw:=hf.fr.ways
 have lQ:=hf.fr.ak
 have oM:=hf.fr.al
 have cA:=hf.in
 have vX:=cA.ways
 have tW:=cA.bb
 have pN:=cA.cK
 have eO:=zb hf.k1
 have bg:O.toNat<J.ways.length:=by omega
 have vW:=dt bg
 have lP:=DK hf.k1 vW
 refine⟨⟨a0,bg⟩,fun aC=>⟨⟨cS (de _),rfl,rfl⟩,fun g x v c aM=> ?_⟩⟩
 obtain⟨aM,rfl,rfl⟩:=aM
 have hlen:=qy (j7 J M O) v
 have qK:=aM.2.1
 refine⟨fun hv=>⟨⟨ts aM hv,cS pN.1,rfl,by simp[Qp]⟩,fun a3 aL s nK cu=> ?_⟩,fun hv=> ?_⟩
 ·obtain⟨g0,cu,rfl,rfl⟩:=cu
  have BL:=qy (mc J M O) s
  have SQ:=cu.2.1
  unfold Np
  refine⟨fun hs hm=>⟨⟨g0,ts cu hs,rfl,cS (de _),rfl,rfl⟩,fun aY bQ k bp hK=> ?_⟩,fun hs=> ?_⟩
  ·obtain⟨_,oP,hc,hK,rfl,rfl⟩:=hK
   have yp:=qy (j6 J M O) k
   have n0:=hK.2.1
   unfold Nz
   refine⟨fun hk=> ?_,fun hk h2=>⟨⟨cS (de _),rfl⟩,fun i l bT=> ?_⟩⟩
   ·have bF:=ts (q:=j6 J M O) hK hk
    have e:k=J.bh.length:=by
     have: ¬k<(J.bh.length:Int):=by simpa using hk
     omega
    refine⟨⟨by omega,g0⟩,⟨by omega,oP⟩,⟨by omega,bF⟩,?_⟩
    show _=codeF J M O
    unfold codeF
    show _=if dz (j7 J M O) J.ways.length≠[] then 3 else if dz (mc J M O) J.ai≠[] then 4 else _
    rw[g0,oP]
    by_cases vc:dz (j7 J M O) J.ways.length≠[]
    ·rw[if_pos vc,if_pos vc];rfl
    ·rw[if_neg vc,if_neg vc]
     by_cases m6:dz (mc J M O) J.ai≠[]
     ·rw[if_pos m6,if_pos m6];rfl
     ·rw[if_neg m6,if_neg m6,e];rfl
   ·have vU:=b8 hK hk
    have k4:=cq (ci hm) hK hk rfl
    have s1:=oB (q:=j6 J M O) (ci hm) hK hk
    have s2:=(oB (q:=fun k=>jS J M O k&&h6 J M k) (ci hm) hK hk).2.2
    have lX:=(oB (q:=fun k=>jS J M O k&&js J M k) (ci hm) hK hk).2.2
    have r7:tv J M O (IntKind.i64.wrap (k+1))=(tv J M O k || (jS J M O k&&h6 J M k)):=s2
    have r8:wW J M O (IntKind.i64.wrap (k+1))=(wW J M O k || (jS J M O k&&js J M k)):=lX
    obtain⟨bT,rfl⟩:=bT
    unfold Ny
    refine⟨fun hi=> ?_,fun hi=> ?_⟩
    ·have Sf:i=2:=by
      have a:=bT.2.1
      have: ¬i<(([(nth J.ways O).aZ,(nth J.ways O).br].length:Nat):Int):=by simpa using hi
      simp at a this;omega
     have cO:(List.take i.toNat [(nth J.ways O).aZ,(nth J.ways O).br]).flatten=bq (nth J.ways O):=by rw[Sf];simp[bq]
     rw[cO]
     have ax:=U_ (f:=M) (k:=k) hf.k1 bg
     refine⟨⟨fun _=>⟨hK.1,by omega⟩,fun aj=> ?_⟩,fun aj=>⟨⟨hf,hK.1,by omega⟩,fun io=> ?_⟩⟩
     ·rw[ax] at aj
      have aj:jS J M O k=false:=by simpa using aj
      refine⟨⟨g0,oP,hc,k4.1,s1.2.1 (by unfold j6;rw[aj];rfl),?_⟩,k4.2⟩
      unfold tG;rw[r7,r8,aj];simp
     ·rw[ax] at aj
      have aj:jS J M O k=true:=by simpa using aj
      have BY:=cA.bh _ (dt vU.2)
      unfold Nu
      have hy:(decide (((fQ J M k).length:Int)>0))=h6 J M k:=rfl
      rw[hy]
      rw[aj,Bool.true_and] at r7 r8
      have ta:((dz (j6 J M O) k).length+[k].length)*8≤140737488355328∧(dz (j6 J M O) k).length+[k].length≤4611686018427387904:=by
       simp only[List.length_singleton];omega
      refine⟨fun aI=>⟨ta,⟨g0,oP,hc,k4.1,s1.1 (by unfold j6;rw[aj,aI];rfl),?_⟩,k4.2⟩,fun aI=>⟨⟨⟨hK.1,vU.2⟩,BY.1,by omega⟩,?_⟩⟩
      ·unfold tG;rw[r7,aI,Bool.or_true];rfl
      ·rw[aI,Bool.or_false] at r7
       unfold Nt No
       have lL:nth M.al (nth J.bh k)=js J M k:=rfl
       rw[lL]
       refine⟨fun vZ=>⟨ta,?_⟩,fun vZ=>⟨⟨g0,oP,hc,k4.1,s1.2.1 (by unfold j6;rw[aj,aI,vZ];rfl),?_⟩,k4.2⟩⟩
       ·rw[vZ,Bool.or_true] at r8
        have bV:=s1.1 (show j6 J M O k=true by unfold j6;rw[aj,aI,vZ];rfl)
        refine⟨fun aQ=>⟨⟨g0,oP,hc,k4.1,bV,?_⟩,k4.2⟩,fun aQ=>⟨⟨g0,oP,hc,k4.1,bV,?_⟩,k4.2⟩⟩
        ·unfold tG at aQ ⊢
         rw[r7,r8]
         cases cb:tv J M O k with
         | true=>rw[cb] at aQ;simp at aQ
         | false=>simp
        ·unfold tG at aQ ⊢
         rw[r7,r8]
         cases cb:tv J M O k with
         | true=>simp
         | false=>
          rw[cb] at aQ
          cases cE:wW J M O k with
          | true=>simp
          | false=>rw[cE] at aQ;simp at aQ
       ·rw[vZ,Bool.or_false] at r8
        unfold tG;rw[r7,r8]
    ·unfold Nx
     refine⟨b8 bT hi,fun oK=>⟨⟨cS (de _),rfl⟩,fun j eR j5=> ?_⟩⟩
     obtain⟨j5,rfl⟩:=j5
     unfold Nw Nv
     refine⟨fun aP=> ?_,fun aP=>⟨b8 j5 aP,?_⟩⟩
     ·have bd:=cq (ci h2) bT hi rfl
      refine⟨⟨bd.1,?_⟩,bd.2⟩
      have fz:=b8 bT hi
      rw[ho (ci h2) bT.1 (by simpa using hi),show(i+1).toNat=i.toNat+1 by omega,List.take_succ_eq_append_getElem fz.2,List.flatten_append]
      have nZ: ¬j<((nth [(nth J.ways O).aZ,(nth J.ways O).br] i).length:Int):=by simpa using aP
      have IC:=j5.1
      have bu:(nth [(nth J.ways O).aZ,(nth J.ways O).br] i).take j.toNat=nth [(nth J.ways O).aZ,(nth J.ways O).br] i:=List.take_of_length_le (by omega)
      rw[bu,fv fz.2]
      unfold oV
      rw[List.foldl_append]
      simp
     ·have bd:=cq (ci oK) j5 aP rfl
      refine⟨⟨bd.1,?_⟩,bd.2⟩
      have nZ:=b8 j5 aP
      rw[ho (ci oK) j5.1 (by simpa using aP),show(j+1).toNat=j.toNat+1 by omega,List.take_succ_eq_append_getElem nZ.2,fv nZ.2]
      unfold oV
      rw[List.foldl_append];rfl
  ·have pO:0≤s∧s<J.ai:=⟨cu.1,by simpa using hs⟩
   have bd:=cq (N:=J.ai) (by omega) cu hs rfl
   have s1:=oB (q:=mc J M O) (N:=J.ai) (by omega) cu hs
   refine⟨⟨cu.1,by omega⟩,?_⟩
   unfold NA
   rw[yU,yU]
   have ta:((dz (mc J M O) s).length+[s].length)*8≤140737488355328∧(dz (mc J M O) s).length+[s].length≤4611686018427387904:=by
    simp only[List.length_singleton];omega
   refine⟨fun aj=>⟨ta,fun aQ=> ?_,fun aQ=> ?_⟩,fun aj=>⟨⟨g0,bd.1,s1.2.1 aj,?_⟩,bd.2⟩⟩
   ·refine⟨⟨g0,bd.1,s1.1 aj,?_⟩,bd.2⟩
    by_cases z:dz (j7 J M O) v≠[]
    ·rw[if_pos z] at aQ;simp at aQ
    ·rw[if_neg z,if_pos (by simp)]
   ·refine⟨⟨g0,bd.1,s1.1 aj,?_⟩,bd.2⟩
    by_cases z:dz (j7 J M O) v≠[]
    ·rw[if_pos z,if_pos z]
    ·rw[if_neg z,if_neg z]
     rw[if_neg z] at aQ
     by_cases m6:dz (mc J M O) s≠[]
     ·rw[if_pos m6,if_pos (by simp)]
     ·rw[if_neg m6] at aQ;simp at aQ
   ·rfl
 ·have b4:=b8 aM hv
  have gZ:=eO.len
  have ek:=eO.row O a0 h1
  have bd:=cq (ci aC) aM hv rfl
  have s1:=oB (q:=j7 J M O) (ci aC) aM hv
  unfold Nr Nq
  have ta:((dz (j7 J M O) v).length+[v].length)*8≤140737488355328∧(dz (j7 J M O) v).length+[v].length≤4611686018427387904:=by
   simp only[List.length_singleton];omega
  refine⟨fun _=>⟨⟨b4.1,by omega⟩,fun _=>⟨⟨a0,by omega⟩,⟨b4.1,by omega⟩,fun _=>⟨b4,fun _=>b4⟩⟩⟩,fun aj=>⟨ta,⟨bd.1,s1.1 aj,by rw[if_pos (by simp)]⟩,bd.2⟩,fun aj=>⟨⟨bd.1,s1.2.1 aj,rfl⟩,bd.2⟩⟩)
def YB:ev Try.prog:=⟨154,[.dW,.frame,.int],[.stays,.int],some fun x=>pj x.1 x.2.1 x.2.2.1,fun x=>((ri x.1 x.2.1 x.2.2.1).1,(ri x.1 x.2.1 x.2.2.1).2,()),fun x h=>YA x.1 x.2.1 x.2.2.1 h⟩
def NE (J:aB) (M:Frame) (O:Int) (ar:Int):Prop:=
 ((0≤O∧O.toNat<M.ways.length)∧((((nth M.ways O).state) !=0)=true→2=ar))∧((!(((nth M.ways O).state) !=0))=true→(pj J M O)∧((ri J M O).2=ar))
theorem YK (J:aB) (M:Frame) (O:Int) (aF:pj J M O):b3 Try.prog 116 [.agg (a8 false J),.agg (bS false M),ac O] (ac (d_ J M O)):=(fun(h:NE J M O (d_ J M O))=>b3.run (ps:=[.dW,.frame,.int]) (rs:=[.int]) (x:=(J,M,O,())) (r:=((d_ J M O),())) ⟨24,eN,[YB]⟩ ⟨[],[],[],[]⟩ .nil Try.func116 h) (by
 unfold NE
 have qJ:=aF
 obtain⟨hf,a0,h1⟩:=qJ
 have hw:=hf.fr.ways
 refine⟨⟨⟨a0,by omega⟩,fun aQ=> ?_⟩,fun aQ=>⟨aF,?_⟩⟩
 ·unfold d_;rw[if_pos (by simpa using aQ)]
 ·unfold d_;rw[if_neg (by simpa using aQ)];rfl)
def J7 (J:aB) (M:Frame) (O ar:Int):Prop:=
  ((decide (((((hL J M O).1).ways).length:Int)>0))=true→3=ar)∧((decide (((((hL J M O).1).ways).length:Int)>0))=false→(((hL J M O).1).ai).length≤4611686018427387904→((decide (((((hL J M O).1).ai).length:Int)>0))=true→4=ar)∧((decide (((((hL J M O).1).ai).length:Int)>0))=false→((hL J M O).2.1=true→5=ar)∧((hL J M O).2.1=false→(hL J M O).2.2=true→6=ar)))
def J8 (J:aB) (M:Frame) (O ar:Int):Prop:=
  ((0≤O∧O.toNat<M.ways.length)∧(((((nth M.ways O).state) !=0)=true→2=ar)∧((((nth M.ways O).state) !=0)=false→(((hL J M O).1).ways).length≤4611686018427387904→J7 J M O ar)))∧(((((hL J M O).1).ways).length≤4611686018427387904)∧((((hL J M O).1).ai).length≤4611686018427387904)∧((!(((nth M.ways O).state) !=0)&&(!(decide (((((hL J M O).1).ways).length:Int)>0))&&(!(decide (((((hL J M O).1).ai).length:Int)>0))&&(!((hL J M O).2.1)&&(!((hL J M O).2.2))))))=true)→0=ar)
def J6 (J:aB) (M:Frame) (O:Int) (ar:Int):Prop:=
 (pj J M O)∧(J8 J M O ar)
theorem Uw (J:aB) (M:Frame) (O:Int) (aF:pj J M O):b3 Try.prog 114 [.agg (a8 false J),.agg (bS false M),ac O] (ac (d_ J M O)):=(fun(h:J6 J M O (d_ J M O))=>b3.run (ps:=[.dW,.frame,.int]) (rs:=[.int]) (x:=(J,M,O,())) (r:=((d_ J M O),())) ⟨40,eN,[Ts]⟩ ⟨[],[],[],[]⟩ .nil Try.func114 h) (by
 unfold J6 J8 J7
 have qJ:=aF
 obtain⟨hf,a0,h1⟩:=qJ
 have hw:=hf.fr.ways
 have P5:hL J M O=(kL J M O,vz J M O,zx J M O):=rfl
 rw[P5]
 have bF:(decide (((kL J M O).ways.length:Int)>0))=true↔(kL J M O).ways≠[]:=by
  rw[decide_eq_true_eq,←List.length_pos_iff];omega
 have e2:(decide (((kL J M O).ai.length:Int)>0))=true↔(kL J M O).ai≠[]:=by
  rw[decide_eq_true_eq,←List.length_pos_iff];omega
 refine⟨aF,⟨⟨a0,by omega⟩,fun aQ=> ?_,fun aQ _=>⟨fun a6=> ?_,fun a6 _=>⟨fun hb=> ?_,fun hb=>⟨fun hc=> ?_,fun hc bp=> ?_⟩⟩⟩⟩,fun aj=> ?_⟩
 ·unfold d_;rw[if_pos (by simpa using aQ)]
 ·unfold d_ codeF;rw[if_neg (by simpa using aQ),if_pos (bF.1 a6)]
 ·unfold d_ codeF;rw[if_neg (by simpa using aQ),if_neg (fun h=>by rw[show(decide (((kL J M O).ways.length:Int)>0))=true from bF.2 h] at a6;cases a6),if_pos (e2.1 hb)]
 ·unfold d_ codeF;rw[if_neg (by simpa using aQ),if_neg (fun h=>by rw[show(decide (((kL J M O).ways.length:Int)>0))=true from bF.2 h] at a6;cases a6),if_neg (fun h=>by rw[show(decide (((kL J M O).ai.length:Int)>0))=true from e2.2 h] at hb;cases hb),if_pos hc]
 ·unfold d_ codeF;rw[if_neg (by simpa using aQ),if_neg (fun h=>by rw[show(decide (((kL J M O).ways.length:Int)>0))=true from bF.2 h] at a6;cases a6),if_neg (fun h=>by rw[show(decide (((kL J M O).ai.length:Int)>0))=true from e2.2 h] at hb;cases hb),if_neg (by rw[show vz J M O=false from hc];simp),if_pos bp]
 ·have aj:=aj.2.2
  simp only[Bool.and_eq_true,Bool.not_eq_true'] at aj
  obtain⟨q1,q2,q3,q4,cx⟩:=aj
  unfold d_ codeF;rw[if_neg (by simpa using q1),if_neg (fun h=>by rw[show(decide (((kL J M O).ways.length:Int)>0))=true from bF.2 h] at q2;cases q2),if_neg (fun h=>by rw[show(decide (((kL J M O).ai.length:Int)>0))=true from e2.2 h] at q3;cases q3),if_neg (by rw[show vz J M O=false from q4];simp),if_neg (by rw[show zx J M O=false from cx];simp)])
end Go.Proofs.Ytglpfccgmfhkdaa.Fw
/- Walks and summaries of functions, printed by a program of mine (tools/mk2.py), with the proofs of what they owe. -/
set_option linter.unusedVariables false
set_option maxRecDepth 100000
set_option maxHeartbeats 4000000
set_option linter.unusedSimpArgs false
namespace Go.Proofs.Ytglpfccgmfhkdaa.Fw
open Go
attribute [local irreducible] evS evSD WpS Weak Oper.looksAt
noncomputable def Cj:Code:=hM Try.f33
def Tk:List Item:=[au 0,au 1,au 2,au 3,⟨4,true,false,[0,1]⟩,⟨5,true,false,[0,1]⟩,⟨6,true,false,[]⟩,au 7,⟨8,true,false,[]⟩]
def Tl:List (List Nat):=[[],[0],[],[],[2,3],[2,3,4],rg 0 6,rg 0 7,rg 0 8]
def Cf (aW:Nat→(List aN)→Int→List (List Bool)→Nat→Nat→List Nat→Int→List aa→Prop) (aX:Nat→(List aN)→Int→List (List Bool)→Nat→Nat→List Nat→Int→List aa→Nat) (J:aB) (a3:Nat) (aL:(List aN)) (cV:Int) (aG:List (List Bool)) (aY bX:Nat) (aE:List Nat) (a9:Int) (ws2:List aa):Prop:=
  aW a3 aL cV (aG++[(a2 J a9).been]) (aY+1) (bX+1) (aE++[aG.length]) (IntKind.i64.wrap (a9+1)) (ws2++[(aa.mk ((a2 J a9).state) ((a2 J a9).gone) ((a2 J a9).been) ((a2 J a9).shown) ((a2 J a9).timer))])∧aX a3 aL cV (aG++[(a2 J a9).been]) (aY+1) (bX+1) (aE++[aG.length]) (IntKind.i64.wrap (a9+1)) (ws2++[(aa.mk ((a2 J a9).state) ((a2 J a9).gone) ((a2 J a9).been) ((a2 J a9).shown) ((a2 J a9).timer))])<aX a3 aL cV aG aY bX aE a9 ws2
def Cg (aW:Nat→(List aN)→Int→List (List Bool)→Nat→Nat→List Nat→Int→List aa→Prop) (aX:Nat→(List aN)→Int→List (List Bool)→Nat→Nat→List Nat→Int→List aa→Nat) (J:aB) (ar:Frame) (a3:Nat) (aL:(List aN)) (cV:Int) (aG:List (List Bool)) (aY bX:Nat) (aE:List Nat) (a9:Int) (ws2:List aa):Prop:=
  ((decide (a9<(J.ways.length:Int)))=false→(true=ar.ok)∧((List.replicate J.ai.toNat false).length≤4611686018427387904∧(List.replicate J.ai.toNat false)=ar.al)∧(aL.length≤4611686018427387904∧aL=ar.ak)∧(iQ ws2 aE aG∧ws2.length≤4611686018427387904∧(∀x∈aG,List.length x≤4611686018427387904)∧view ws2 aE aG=ar.ways))∧((decide (a9<(J.ways.length:Int)))=true→((uc J a9)∧(ws2.length=aE.length∧((ws2.length+1)*56≤140737488355328∧ws2.length+1≤4611686018427387904)))∧(Cf aW aX J a3 aL cV aG aY bX aE a9 ws2))
def Ch (aw:Nat→(List aN)→Int→Prop) (ay:Nat→(List aN)→Int→Nat) (aW:Nat→(List aN)→Int→List (List Bool)→Nat→Nat→List Nat→Int→List aa→Prop) (aX:Nat→(List aN)→Int→List (List Bool)→Nat→Nat→List Nat→Int→List aa→Nat) (J:aB) (ar:Frame) (a3:Nat) (aL:(List aN)) (cV:Int):Prop:=
  ((decide (cV<(J.bh.length:Int)))=false→J.ways.length≤4611686018427387904→aW a3 aL cV ([]:List (List Bool)) 0 0 ([]:List Nat) 0 ([]:List aa)∧ ∀(aG:List (List Bool)) (aY:Nat) (bX:Nat) (aE:List Nat) (a9:Int) (ws2:List aa),aW a3 aL cV aG aY bX aE a9 ws2→(Cg aW aX J ar a3 aL cV aG aY bX aE a9 ws2))∧((decide (cV<(J.bh.length:Int)))=true→((aL.length+[(aN.mk 1 1)].length)*16≤140737488355328∧aL.length+[(aN.mk 1 1)].length≤4611686018427387904)∧(aw (a3+1) (aL++[(aN.mk 1 1)]) (IntKind.i64.wrap (cV+1))∧ay (a3+1) (aL++[(aN.mk 1 1)]) (IntKind.i64.wrap (cV+1))<ay a3 aL cV))
def Ci (aw:Nat→(List aN)→Int→Prop) (ay:Nat→(List aN)→Int→Nat) (aW:Nat→(List aN)→Int→List (List Bool)→Nat→Nat→List Nat→Int→List aa→Prop) (aX:Nat→(List aN)→Int→List (List Bool)→Nat→Nat→List Nat→Int→List aa→Nat) (J:aB) (ar:Frame):Prop:=
  ((!(dv J))=true→(false=ar.ok)∧([]=ar.al)∧([]=ar.ak)∧([]=ar.ways))∧((!(!(dv J)))=true→(0≤J.ai∧1*J.ai≤140737488355328∧J.ai≤4611686018427387904)∧(J.bh.length≤4611686018427387904→aw 0 ([]:List aN) 0∧ ∀(a3:Nat) (aL:(List aN)) (cV:Int),aw a3 aL cV→(Ch aw ay aW aX J ar a3 aL cV)))
def Ce (J:aB) (ar:Frame) (aw:Nat→(List aN)→Int→Prop) (ay:Nat→(List aN)→Int→Nat) (aW:Nat→(List aN)→Int→List (List Bool)→Nat→Nat→List Nat→Int→List aa→Prop) (aX:Nat→(List aN)→Int→List (List Bool)→Nat→Nat→List Nat→Int→List aa→Nat):Prop:=
 Ci aw ay aW aX J ar
theorem Tm (J:aB) (ar:Frame) (aw:Nat→(List aN)→Int→Prop) (ay:Nat→(List aN)→Int→Nat) (aW:Nat→(List aN)→Int→List (List Bool)→Nat→Nat→List Nat→Int→List aa→Prop) (aX:Nat→(List aN)→Int→List (List Bool)→Nat→Nat→List Nat→Int→List aa→Nat) (h:Ce J ar aw ay aW aX):b3 Try.prog 33 [.agg (a8 false J)] (.agg (bS true ar)):=by
 unfold Ce at h
 refine dj.go (fn:=Try.f33) [(0,.agg (a8 false J))] Try.func33 ?_
 show WpS _ (bK Cj 1) _ ⟨a4 41 [(0,.agg (a8 false J))],[],[]⟩
 refine m_ [1000003] 0 [(2,an 2 0),(1,an 1 0)] [2] [] [(2,[ah false,ao,ao,ao]),(1,(a8 false J))] [] ?_
 unfold Ci at h
 obtain⟨jU,h⟩:=h
 refine b0 [] [2] ((!(!(dv J)))=true) ?_ (fun q2=> ?_)
 ·
  replace h:=jU
  refine b0 [(7,ah (!(dv J)))] [2] (True) ?_ (fun q3=> ?_)
  ·
   refine bm [1000003] 1 ?_
   refine ic 2 (some 6) [(5,.agg (a8 false J))] [.agg (a8 false J)] (JR J) (av.cons (ck.agg (av.cons (.int _ _) (av.cons b7 (av.cons b7 (av.cons b7 (av.cons (.int _ _) av.nil)))))) av.nil) ?_
   exact bL [(7,ah (!(dv J)))] trivial
  refine cN (fun q4=> ?_) (fun q4=> ?_)
  ·
   replace h:=h q4
   refine cQ [1000003] 2 [(8,.agg [ah false,ao,ao,ao])] [] [0,1,1] ?_
   exact e8 (bR.ret (iz (.agg [ah false,ao,ao,ao]) (gd.agg (av.cons (iN h.1) (av.cons (nA h.2.1) (av.cons (nA h.2.2.1) (av.cons (nA h.2.2.2) av.nil)))))))
  ·
   refine c6 ?_
   exact bR.normal (by simp only[q4]<;>rfl) cW
 replace h:=h q2
 obtain⟨ib,h⟩:=h
 refine dD [(3,an 3 0)] [2] (fun L=>(3,[ah true,ae 0 0 ((List.replicate J.ai.toNat false).length),ao,ao])::L) (fun _=>[⟨0,1,List.map aH (List.replicate J.ai.toNat false)⟩]) (True) ?_ (fun cT=> ?_)
 ·
  replace h:=ib
  refine bm [1000003] 3 ?_
  have et:=h
  refine Ep 3 (some 11) [(10,ac J.ai),(9,an 1 0)] aH 1 [ah false] 0 (fun r=>[⟨0,1,r⟩]) false et ?_
  exact bL [(3,an 3 0),(12,.agg [ah true,ae 0 0 ((List.replicate J.ai.toNat false).length),ao,ao])] trivial
 refine fy ?_
 refine b0 [(15,ac (J.bh.length:Int)),(16,ac 0)] [3] (J.bh.length≤4611686018427387904) ?_ (fun eB=> ?_)
 ·
  refine bm [1000003] 4 ?_
  refine sLen 3 (some 15) [(14,bo bW J.bh),(13,an 1 1)] bW J.bh (fun gU=> ?_)
  exact bL [(16,ac 0)] gU
 replace h:=h eB
 refine dM 0 ?_
 refine WpS.jd ?_ (fK (s'':=⟨(a4 41 [(15,ac (J.bh.length:Int)),(16,ac 0),(3,an 3 0),(2,an 2 0),(1,an 1 0)]),[(3,[ah true,ae 0 0 ((List.replicate J.ai.toNat false).length),ae 1 0 (([]:List aN).length),ao]),(2,[ah false,ao,ao,ao]),(1,(a8 false J))],[⟨0,1,List.map aH (List.replicate J.ai.toNat false)⟩,⟨0,2,List.map a1 ([]:List aN)⟩]⟩) (Weak.nG (T:=(a4 41 [(15,ac (J.bh.length:Int)),(16,ac 0),(3,an 3 0),(2,an 2 0),(1,an 1 0)])) (L:=[(3,[ah true,ae 0 0 ((List.replicate J.ai.toNat false).length),ao,ao]),(2,[ah false,ao,ao,ao]),(1,(a8 false J))]) (H:=[⟨0,1,List.map aH (List.replicate J.ai.toNat false)⟩]) (cells:=[ah true,ae 0 0 ((List.replicate J.ai.toNat false).length),ao,ao]) 3 2 2 (by kernel_rfl) (by kernel_rfl)) (by kernel_rfl))
 obtain⟨hP,h⟩:=h
 refine hr (fun(v:Nat×(List aN)×Int)=>(⟨(a4 41 [(1,an 1 0),(2,an 2 0),(3,an 3 0),(15,ac (J.bh.length:Int)),(16,ac (v.2.2))]),[(3,[ah true,ae 0 0 ((List.replicate J.ai.toNat false).length),ae 1 (v.1) ((v.2.1).length),ao]),(2,[ah false,ao,ao,ao]),(1,(a8 false J))],[⟨0,1,List.map aH (List.replicate J.ai.toNat false)⟩,⟨(v.1),2,List.map a1 (v.2.1)⟩]⟩:St)) (fun(v:Nat×(List aN)×Int)=>aw (v.1) (v.2.1) (v.2.2)) (fun(v:Nat×(List aN)×Int)=>ay (v.1) (v.2.1) (v.2.2)) (0,([]:List aN),0) (cC []) hP (fun v aM=> ?_)
 obtain⟨a3,aL,cV⟩:=v
 replace h:=h a3 aL cV aM
 dsimp only
 refine cQ [1000003] 5 [(17,ah (decide (cV<(J.bh.length:Int))))] [1] [5] ?_
 unfold Ch at h
 obtain⟨hl,h⟩:=h
 refine b0 [] [0,1,5] ((decide (cV<(J.bh.length:Int)))=true) ?_ (fun fI=> ?_)
 ·
  replace h:=hl
  refine cN (fun gw=> ?_) (fun gw=> ?_)
  ·
   refine c6 ?_
   exact bR.normal (by simp only[q2,gw]<;>rfl) cW
  ·
   replace h:=h gw
   refine gG 0 ?_
   refine bR.exit ?_
   refine cU.exit ?_
   refine bZ.here ?_
   refine c4.normal ?_
   refine fy ?_
   refine gX ⟨(a4 41 [(1,an 1 0),(2,an 2 0),(3,an 3 0),(27,ac (J.ways.length:Int)),(28,ac 0)]),[(3,[ah true,ae 0 0 ((List.replicate J.ai.toNat false).length),ae 1 a3 aL.length,ao]),(2,[ah false,ao,ao,ao]),(1,(a8 false J))],[⟨0,1,List.map aH (List.replicate J.ai.toNat false)⟩,⟨a3,2,List.map a1 aL⟩]⟩ (J.ways.length≤4611686018427387904) ?_ (fun eU=> ?_)
   ·
    refine bm [1000003] 8 ?_
    refine sLen 3 (some 27) [(26,bo (c9 false) J.ways),(25,an 1 2)] (c9 false) J.ways (fun mq=> ?_)
    exact bL [(28,ac 0)] mq
   replace h:=h eU
   refine dM 2 ?_
   refine WpS.jd ?_ (fK (s'':=⟨(a4 41 [(1,an 1 0),(2,an 2 0),(3,an 3 0),(27,ac (J.ways.length:Int)),(28,ac 0)]),[(3,[ah true,ae 0 0 ((List.replicate J.ai.toNat false).length),ae 1 a3 aL.length,ae 2 0 (([]:List aa).length)]),(2,[ah false,ao,ao,ao]),(1,(a8 false J))],[⟨0,1,List.map aH (List.replicate J.ai.toNat false)⟩,⟨a3,2,List.map a1 aL⟩,⟨0,5,aT 4 ([]:List aa) ([]:List Nat)⟩]⟩) (Weak.nG (T:=(a4 41 [(1,an 1 0),(2,an 2 0),(3,an 3 0),(27,ac (J.ways.length:Int)),(28,ac 0)])) (L:=[(3,[ah true,ae 0 0 ((List.replicate J.ai.toNat false).length),ae 1 a3 aL.length,ao]),(2,[ah false,ao,ao,ao]),(1,(a8 false J))]) (H:=[⟨0,1,List.map aH (List.replicate J.ai.toNat false)⟩,⟨a3,2,List.map a1 aL⟩]) (cells:=[ah true,ae 0 0 ((List.replicate J.ai.toNat false).length),ae 1 a3 aL.length,ao]) 3 3 5 (by kernel_rfl) (by kernel_rfl)) (by kernel_rfl))
   refine WpS.jd ?_ (fK (s'':=⟨(a4 41 [(1,an 1 0),(2,an 2 0),(3,an 3 0),(27,ac (J.ways.length:Int)),(28,ac 0)]),[(3,[ah true,ae 0 0 ((List.replicate J.ai.toNat false).length),ae 1 a3 aL.length,ae 2 0 (([]:List aa).length)]),(2,[ah false,ao,ao,ao]),(1,(a8 false J))],(⟨0,1,List.map aH (List.replicate J.ai.toNat false)⟩::⟨a3,2,List.map a1 aL⟩::⟨0,5,aT 4 ([]:List aa) ([]:List Nat)⟩::⟨0,5,[]⟩::List.map bc ([]:List (List Bool)))⟩) (Weak.so (T:=(a4 41 [(1,an 1 0),(2,an 2 0),(3,an 3 0),(27,ac (J.ways.length:Int)),(28,ac 0)])) (L:=[(3,[ah true,ae 0 0 ((List.replicate J.ai.toNat false).length),ae 1 a3 aL.length,ae 2 0 (([]:List aa).length)]),(2,[ah false,ao,ao,ao]),(1,(a8 false J))]) (H:=[⟨0,1,List.map aH (List.replicate J.ai.toNat false)⟩,⟨a3,2,List.map a1 aL⟩,⟨0,5,aT 4 ([]:List aa) ([]:List Nat)⟩]) 5) (by kernel_rfl))
   obtain⟨gz,h⟩:=h
   refine hr (fun(v:List (List Bool)×Nat×Nat×List Nat×Int×List aa)=>(⟨(a4 41 [(1,an 1 0),(2,an 2 0),(3,an 3 0),(27,ac (J.ways.length:Int)),(28,ac (v.2.2.2.2.1))]),[(3,[ah true,ae 0 0 ((List.replicate J.ai.toNat false).length),ae 1 a3 aL.length,ae 2 (v.2.1) ((v.2.2.2.2.2).length)]),(2,[ah false,ao,ao,ao]),(1,(a8 false J))],(⟨0,1,List.map aH (List.replicate J.ai.toNat false)⟩::⟨a3,2,List.map a1 aL⟩::⟨(v.2.1),5,aT 4 (v.2.2.2.2.2) (v.2.2.2.1)⟩::⟨(v.2.2.1),5,[]⟩::List.map bc (v.1))⟩:St)) (fun(v:List (List Bool)×Nat×Nat×List Nat×Int×List aa)=>aW a3 aL cV (v.1) (v.2.1) (v.2.2.1) (v.2.2.2.1) (v.2.2.2.2.1) (v.2.2.2.2.2)) (fun(v:List (List Bool)×Nat×Nat×List Nat×Int×List aa)=>aX a3 aL cV (v.1) (v.2.1) (v.2.2.1) (v.2.2.2.1) (v.2.2.2.2.1) (v.2.2.2.2.2)) (([]:List (List Bool)),0,0,([]:List Nat),0,([]:List aa)) (cC []) gz (fun v aM=> ?_)
   obtain⟨aG,aY,bX,aE,a9,ws2⟩:=v
   replace h:=h aG aY bX aE a9 ws2 aM
   dsimp only
   refine cQ [1000003] 9 [(29,ah (decide (a9<(J.ways.length:Int))))] [1] [5] ?_
   unfold Cg at h
   obtain⟨ff,h⟩:=h
   refine b0 [] [0,1,5] ((decide (a9<(J.ways.length:Int)))=true) ?_ (fun h_=> ?_)
   ·
    replace h:=ff
    refine cN (fun fX=> ?_) (fun fX=> ?_)
    ·
     refine c6 ?_
     exact bR.normal (by simp only[q2,gw,fX]<;>rfl) cW
    ·
     replace h:=h fX
     refine gG 2 ?_
     refine bR.exit ?_
     refine cU.exit ?_
     refine bZ.here ?_
     refine c4.normal ?_
     refine gX ⟨(a4 41 [(2,an 2 0)]),[(3,[ah true,ae 0 0 ((List.replicate J.ai.toNat false).length),ae 1 a3 aL.length,ae 2 aY ws2.length]),(2,[ah true,ae 0 0 ((List.replicate J.ai.toNat false).length),ae 1 a3 aL.length,ae 2 aY ws2.length]),(1,(a8 false J))],(⟨0,1,List.map aH (List.replicate J.ai.toNat false)⟩::⟨a3,2,List.map a1 aL⟩::⟨aY,5,aT 4 ws2 aE⟩::⟨bX,5,[]⟩::List.map bc aG)⟩ (True) ?_ (fun ju=> ?_)
     ·
      refine bm [1000003] 13 ?_
      exact bL [(40,.agg [ah true,ae 0 0 ((List.replicate J.ai.toNat false).length),ae 1 a3 aL.length,ae 2 aY ws2.length])] trivial
     exact e8 (iz (.agg [ah true,ae 0 0 ((List.replicate J.ai.toNat false).length),ae 1 a3 aL.length,ae 2 aY ws2.length]) (gd.agg (av.cons (iN h.1) (av.cons (l0 (sz:=1) (by simp) rfl (rF) h.2.1) (av.cons (l0 (sz:=2) (by simp) rfl (tf) h.2.2.1) (av.cons (wZ (s:=4) (ws:=ws2) (ids:=aE) (bs:=aG) (by simp) rfl (fun id k h=>by simpa using h) h.2.2.2) av.nil))))))
   replace h:=h h_
   obtain⟨gy,h⟩:=h
   refine dD [] [5] (fun L=>fM 0 3 (ae 2 (aY+1) ((ws2++[(aa.mk ((a2 J a9).state) ((a2 J a9).gone) ((a2 J a9).been) ((a2 J a9).shown) ((a2 J a9).timer))]).length)) L) (fun _=>(⟨0,1,List.map aH (List.replicate J.ai.toNat false)⟩::⟨a3,2,List.map a1 aL⟩::⟨(aY+1),5,aT 4 (ws2++[(aa.mk ((a2 J a9).state) ((a2 J a9).gone) ((a2 J a9).been) ((a2 J a9).shown) ((a2 J a9).timer))]) (aE++[aG.length])⟩::⟨(bX+1),5,[[ac ((a2 J a9).state),ac ((a2 J a9).gone),ae (aG.length+4) 0 (((a2 J a9).been).length),ah ((a2 J a9).shown),ac ((a2 J a9).timer)]]⟩::List.map bc (aG++[(a2 J a9).been]))) (True) ?_ (fun fS=> ?_)
   ·
    replace h:=gy
    refine dM 3 ?_
    refine cQ [1000003] 10 [(4,ac a9),(30,ac a9)] [1] [5] ?_
    refine lW [1000003] 11 Tk Tl [] ?_
    obtain⟨ia,h⟩:=h
    refine zF 5 (some 35) [(34,ac a9),(33,.agg (a8 false J)),(32,ae 2 aY ws2.length),(31,an 3 3)] [.agg (a8 false J),ac a9] (fun L H=>nP Try.prog (h9 Cj 16025) [0,1] [(34,ac a9),(33,.agg (a8 false J)),(32,ae 2 aY ws2.length),(31,an 3 3),(4,ac a9),(1,an 1 0),(2,an 2 0),(3,an 3 0),(27,ac (J.ways.length:Int)),(28,ac a9)] L H) (.agg [ac ((a2 J a9).state),ac ((a2 J a9).gone),ae (aG.length+4) 0 (((a2 J a9).been).length),ah ((a2 J a9).shown),ac ((a2 J a9).timer)]) (⟨0,1,List.map aH (List.replicate J.ai.toNat false)⟩::⟨a3,2,List.map a1 aL⟩::⟨aY,5,aT 4 ws2 aE⟩::⟨bX,5,[]⟩::List.map bc (aG++[(a2 J a9).been])) (yL J a9 ia) (av.cons (ck.agg (av.cons (.int _ _) (av.cons b7 (av.cons b7 (av.cons b7 (av.cons (.int _ _) av.nil)))))) (av.cons (ck.ee (.int _ _)) av.nil)) (oZ (fun _=>rfl) rfl) (pf (pe (fun _=>rfl) rfl) (by simp only[List.cons_append,List.map_nil,oA])) (qV (ψ:=((true=true∧true=true∧((an 3 3:AV)=an 3 3))∧((true=true∧true=true∧((ae 2 aY ws2.length:AV)=ae 2 aY ws2.length))∧True))) (by kernel_rfl) ⟨⟨rfl,rfl,rfl⟩,⟨⟨rfl,rfl,rfl⟩,trivial⟩⟩) ?_ (er:=by simp[lB,mu,hV])
    refine w2 1 [(36,.ref 3 (bX+1) 0 1 true)] [(3,[ah true,ae 0 0 ((List.replicate J.ai.toNat false).length),ae 1 a3 aL.length,ae 2 aY ws2.length]),(2,[ah false,ao,ao,ao]),(1,(a8 false J))] (⟨0,1,List.map aH (List.replicate J.ai.toNat false)⟩::⟨a3,2,List.map a1 aL⟩::⟨aY,5,aT 4 ws2 aE⟩::⟨(bX+1),5,[[ac ((a2 J a9).state),ac ((a2 J a9).gone),ae (aG.length+4) 0 (((a2 J a9).been).length),ah ((a2 J a9).shown),ac ((a2 J a9).timer)]]⟩::List.map bc (aG++[(a2 J a9).been])) (φ:=nP Try.prog (h9 Cj 16025) [0,1] [(35,.agg [ac ((a2 J a9).state),ac ((a2 J a9).gone),ae (aG.length+4) 0 (((a2 J a9).been).length),ah ((a2 J a9).shown),ac ((a2 J a9).timer)]),(34,ac a9),(33,.agg (a8 false J)),(32,ae 2 aY ws2.length),(31,an 3 3),(4,ac a9),(1,an 1 0),(2,an 2 0),(3,an 3 0),(27,ac (J.ways.length:Int)),(28,ac a9)] [(3,[ah true,ae 0 0 ((List.replicate J.ai.toNat false).length),ae 1 a3 aL.length,ae 2 aY ws2.length]),(2,[ah false,ao,ao,ao]),(1,(a8 false J))] (⟨0,1,List.map aH (List.replicate J.ai.toNat false)⟩::⟨a3,2,List.map a1 aL⟩::⟨aY,5,aT 4 ws2 aE⟩::⟨(bX+1),5,[[ac ((a2 J a9).state),ac ((a2 J a9).gone),ae (aG.length+4) 0 (((a2 J a9).been).length),ah ((a2 J a9).shown),ac ((a2 J a9).timer)]]⟩::List.map bc (aG++[(a2 J a9).been]))) (qV (ψ:=((true=true∧true=true∧((an 3 3:AV)=an 3 3))∧((true=true∧true=true∧((ae 2 aY ws2.length:AV)=ae 2 aY ws2.length))∧True))) (by kernel_rfl) ⟨⟨rfl,rfl,rfl⟩,⟨⟨rfl,rfl,rfl⟩,trivial⟩⟩) ?_
    have eA:=h
    refine NP 1 (some 37) [] 4 2 aY (bX+1) 56 ws2 aE (aa.mk ((a2 J a9).state) ((a2 J a9).gone) ((a2 J a9).been) ((a2 J a9).shown) ((a2 J a9).timer)) aG.length (fun _=>True) (fun r=>(⟨0,1,List.map aH (List.replicate J.ai.toNat false)⟩::⟨a3,2,List.map a1 aL⟩::⟨(aY+1),5,r⟩::⟨(bX+1),5,[[ac ((a2 J a9).state),ac ((a2 J a9).gone),ae (aG.length+4) 0 (((a2 J a9).been).length),ah ((a2 J a9).shown),ac ((a2 J a9).timer)]]⟩::List.map bc (aG++[(a2 J a9).been]))) eA.1 eA.2 trivial ?_
    refine w2 2 [(38,an 3 3)] [(3,[ah true,ae 0 0 ((List.replicate J.ai.toNat false).length),ae 1 a3 aL.length,ae 2 (aY+1) ((ws2++[(aa.mk ((a2 J a9).state) ((a2 J a9).gone) ((a2 J a9).been) ((a2 J a9).shown) ((a2 J a9).timer))]).length)]),(2,[ah false,ao,ao,ao]),(1,(a8 false J))] (⟨0,1,List.map aH (List.replicate J.ai.toNat false)⟩::⟨a3,2,List.map a1 aL⟩::⟨(aY+1),5,aT 4 (ws2++[(aa.mk ((a2 J a9).state) ((a2 J a9).gone) ((a2 J a9).been) ((a2 J a9).shown) ((a2 J a9).timer))]) (aE++[aG.length])⟩::⟨(bX+1),5,[[ac ((a2 J a9).state),ac ((a2 J a9).gone),ae (aG.length+4) 0 (((a2 J a9).been).length),ah ((a2 J a9).shown),ac ((a2 J a9).timer)]]⟩::List.map bc (aG++[(a2 J a9).been])) (φ:=True) trivial ?_
    refine u4 [] ?_
    refine bZ.normal ?_
    exact bR.normal trivial cW
   unfold Cf at h
   refine bm [1000003] 12 ?_
   refine df [(28,ac (IntKind.i64.wrap (a9+1))),(39,ac (IntKind.i64.wrap (a9+1)))] ?_
   exact cU.again ((aG++[(a2 J a9).been]),(aY+1),(bX+1),(aE++[aG.length]),(IntKind.i64.wrap (a9+1)),(ws2++[(aa.mk ((a2 J a9).state) ((a2 J a9).gone) ((a2 J a9).been) ((a2 J a9).shown) ((a2 J a9).timer))])) h ((Weak.clear 3 rfl:Weak ⟨(a4 41 [(28,ac (IntKind.i64.wrap (a9+1))),(39,ac (IntKind.i64.wrap (a9+1))),(1,an 1 0),(2,an 2 0),(3,an 3 0),(27,ac (J.ways.length:Int))]),[(3,[ah true,ae 0 0 ((List.replicate J.ai.toNat false).length),ae 1 a3 aL.length,ae 2 (aY+1) ((ws2++[(aa.mk ((a2 J a9).state) ((a2 J a9).gone) ((a2 J a9).been) ((a2 J a9).shown) ((a2 J a9).timer))]).length)]),(2,[ah false,ao,ao,ao]),(1,(a8 false J))],(⟨0,1,List.map aH (List.replicate J.ai.toNat false)⟩::⟨a3,2,List.map a1 aL⟩::⟨(aY+1),5,aT 4 (ws2++[(aa.mk ((a2 J a9).state) ((a2 J a9).gone) ((a2 J a9).been) ((a2 J a9).shown) ((a2 J a9).timer))]) (aE++[aG.length])⟩::⟨(bX+1),5,[[ac ((a2 J a9).state),ac ((a2 J a9).gone),ae (aG.length+4) 0 (((a2 J a9).been).length),ah ((a2 J a9).shown),ac ((a2 J a9).timer)]]⟩::List.map bc (aG++[(a2 J a9).been]))⟩ ⟨(a4 41 [(28,ac (IntKind.i64.wrap (a9+1))),(39,ac (IntKind.i64.wrap (a9+1))),(1,an 1 0),(2,an 2 0),(3,an 3 0),(27,ac (J.ways.length:Int))]),[(3,[ah true,ae 0 0 ((List.replicate J.ai.toNat false).length),ae 1 a3 aL.length,ae 2 (aY+1) ((ws2++[(aa.mk ((a2 J a9).state) ((a2 J a9).gone) ((a2 J a9).been) ((a2 J a9).shown) ((a2 J a9).timer))]).length)]),(2,[ah false,ao,ao,ao]),(1,(a8 false J))],(⟨0,1,List.map aH (List.replicate J.ai.toNat false)⟩::⟨a3,2,List.map a1 aL⟩::⟨(aY+1),5,aT 4 (ws2++[(aa.mk ((a2 J a9).state) ((a2 J a9).gone) ((a2 J a9).been) ((a2 J a9).shown) ((a2 J a9).timer))]) (aE++[aG.length])⟩::⟨(bX+1),5,[]⟩::List.map bc (aG++[(a2 J a9).been]))⟩).trans (cC []))
 replace h:=h fI
 obtain⟨ix,h⟩:=h
 refine dD [] [5] (fun L=>fM 0 2 (ae 1 (a3+1) ((aL++[(aN.mk 1 1)]).length)) L) (fun H=>dC 1 ⟨(a3+1),2,List.map a1 (aL++[(aN.mk 1 1)])⟩ H) (True) ?_ (fun gh=> ?_)
 ·
  replace h:=ix
  refine dM 1 ?_
  refine bm [1000003] 6 ?_
  have jv:=h
  refine ra 5 (some 22) [(21,.be (List.map a1 [(aN.mk 1 1)]) true true),(20,.agg [ac 1,ac 1]),(19,ae 1 a3 aL.length),(18,an 3 2)] a1 aL [(aN.mk 1 1)] (hR true (List.map a1 [(aN.mk 1 1)])) 1 a3 2 16 (fun r=>[⟨0,1,List.map aH (List.replicate J.ai.toNat false)⟩,⟨(a3+1),2,r⟩]) rfl jv ?_
  refine sG [(23,an 3 2)] [(3,[ah true,ae 0 0 ((List.replicate J.ai.toNat false).length),ae 1 (a3+1) ((aL++[(aN.mk 1 1)]).length),ao]),(2,[ah false,ao,ao,ao]),(1,(a8 false J))] [⟨0,1,List.map aH (List.replicate J.ai.toNat false)⟩,⟨(a3+1),2,List.map a1 (aL++[(aN.mk 1 1)])⟩] ?_
  refine bZ.normal ?_
  exact bR.normal trivial cW
 refine bm [1000003] 7 ?_
 refine df [(16,ac (IntKind.i64.wrap (cV+1))),(24,ac (IntKind.i64.wrap (cV+1)))] ?_
 exact cU.again ((a3+1),(aL++[(aN.mk 1 1)]),(IntKind.i64.wrap (cV+1))) h (cC [])
theorem Ti (J:aB):b3 Try.prog 33 [.agg (a8 false J)] (.agg (bS true (dn J))):=Tm J (dn J) (fun _ x v=>cg J.bh.length (fun _=>false) v∧x=List.replicate v.toNat (aN.mk 1 1)) (fun _ _ v=>cn J.bh.length v) (fun _ x _ bs _ _ is v ws=>x=List.replicate J.bh.length (aN.mk 1 1)∧cg J.ways.length (fun _=>false) v∧ws=(J.ways.take v.toNat).map (fun w=>gE w.ai.length)∧is=List.range ws.length∧bs=ws.map aa.been) (fun _ _ _ _ _ _ _ v _=>cn J.ways.length v) (by
 unfold Ce Ci
 refine⟨fun h=> ?_,fun h=> ?_⟩
 ·have h:dv J=false:=by simpa using h
  unfold dn;rw[if_neg (by rw[h];simp)];exact⟨rfl,rfl,rfl,rfl⟩
 have h:dv J=true:=by simpa using h
 have cA:=sw h
 have h1:=cA.cK
 have h2:=cA.bb
 have aS:=cA.ways
 have e:dn J=⟨true,List.replicate J.ai.toNat false,List.replicate J.bh.length ⟨1,1⟩,J.ways.map fun w=>gE w.ai.length⟩:=by unfold dn;rw[if_pos h]
 rw[e]
 refine⟨⟨by omega,by omega,by omega⟩,fun aC=>⟨⟨cS (de _),rfl⟩,fun g x v aM=> ?_⟩⟩
 obtain⟨aM,rfl⟩:=aM
 have qK:=aM.2.1
 unfold Ch
 refine⟨fun hv hm=>⟨⟨?_,cS (de _),rfl,rfl,rfl⟩,fun bs aY bX is k ws cu=> ?_⟩,fun hv=>⟨⟨?_,?_⟩,⟨(cq (ci aC) aM hv rfl).1,?_⟩,(cq (ci aC) aM hv rfl).2⟩⟩
 ·have: ¬v<(J.bh.length:Int):=by simpa using hv
  rw[show v.toNat=J.bh.length by omega]
 ·obtain⟨hx,cu,rfl,rfl,rfl⟩:=cu
  have n0:=cu.2.1
  have pI:=cu.1
  have aI:((J.ways.take k.toNat).map fun w=>gE w.ai.length).length=k.toNat:=by rw[List.length_map,List.length_take];omega
  obtain⟨eS,fY,fg⟩:=rK ((J.ways.take k.toNat).map fun w=>gE w.ai.length)
  unfold Cg Cf
  refine⟨fun hk=>⟨rfl,⟨by rw[List.length_replicate];omega,rfl⟩,⟨by rw[List.length_replicate];omega,hx⟩,eS,by omega,fun b hb=> ?_,?_⟩,fun hk=>⟨⟨⟨cA,pI,by simpa using hk⟩,by rw[List.length_range],by omega,by omega⟩,⟨hx,(cq (ci hm) cu hk rfl).1,?_,?_,?_⟩,(cq (ci hm) cu hk rfl).2⟩⟩
  ·obtain⟨y,bA,rfl⟩:=List.mem_map.1 hb
   obtain⟨w,hw,rfl⟩:=List.mem_map.1 bA
   have:=(cA.ai w (List.mem_of_mem_take hw)).2.1
   simp[gE];omega
  ·rw[fg]
   have: ¬k<(J.ways.length:Int):=by simpa using hk
   rw[List.take_of_length_le (by omega)]
  ·have b4:=b8 cu hk
   rw[ho (ci hm) pI (by simpa using hk),show(k+1).toNat=k.toNat+1 by omega,List.take_succ_eq_append_getElem b4.2,←fv b4.2,List.map_append];rfl
  ·rw[List.length_append,List.length_singleton,List.range_succ,List.length_map]
   simp
  ·rw[List.map_append];rfl
 ·rw[List.length_replicate,List.length_singleton];omega
 ·rw[List.length_replicate,List.length_singleton];omega
 ·rw[ho (ci aC) aM.1 (by simpa using hv),show(v+1).toNat=v.toNat+1 by have:=aM.1;omega,List.replicate_succ'])
def Tj:ev Try.prog:=⟨33,[.dW],[.frame],none,fun x=>((dn x.1),()),fun x h=>Ti x.1⟩
noncomputable def JC:Code:=hM Try.f63
def TF:List Item:=[au 0,au 1,au 2,au 3,au 4,au 5,au 6,au 7,au 8,au 9,au 10,au 11,au 12,au 13,au 14,au 15]
def TG:List (List Nat):=[[],[0],[0,1],[0,1,2],rg 0 4,rg 0 5,rg 0 5,rg 0 5++[6],rg 0 5,rg 0 5++[8],rg 0 5++rg 6 10,rg 0 5++rg 6 11,rg 0 5++rg 6 12,rg 0 13,rg 0 14,rg 0 15]
def TH:List Item:=[au 0,au 1,au 2,au 3,au 4,au 5,⟨6,true,false,[1,2,3]⟩,au 7,au 8,⟨9,true,false,[]⟩]
def TI:List (List Nat):=[[],[],[],[2],[0],[0,4],[0,4,5],rg 0 7,rg 0 8,rg 0 9]
def TJ:List Item:=[au 0,au 1,au 2,au 3,au 4,au 5,au 6,au 7,au 8,au 9,au 10]
def TK:List (List Nat):=[[],[0],[],[2],[],[4],rg 2 6,rg 2 7,rg 0 8,rg 0 9,rg 0 10]
def Cp (aw:(List aN)→Int→Prop) (ay:(List aN)→Int→Nat) (J:aB) (O:Event) (aL:(List aN)) (dR:Int):Prop:=
  aw (aL.set ((nth (bq (nth J.ways O.ag)) dR).bb).toNat (aN.mk ((nth (bq (nth J.ways O.ag)) dR).bx) ((nth aL ((nth (bq (nth J.ways O.ag)) dR).bb)).aZ))) (IntKind.i64.wrap (dR+1))∧ay (aL.set ((nth (bq (nth J.ways O.ag)) dR).bb).toNat (aN.mk ((nth (bq (nth J.ways O.ag)) dR).bx) ((nth aL ((nth (bq (nth J.ways O.ag)) dR).bb)).aZ))) (IntKind.i64.wrap (dR+1))<ay aL dR
def Cx (aw:(List aN)→Int→Prop) (ay:(List aN)→Int→Nat) (cz:List (List Bool)→(List Bool)→(List aN)→List Nat→Int→List aa→Prop) (J:aB) (M:Frame) (O:Event) (aL:(List aN)) (dR:Int):Prop:=
  ((decide (dR<((bq (nth J.ways O.ag)).length:Int)))=false→cz (List.map aa.been ((U M).ways)) ((U M).al) aL (List.range ((U M).ways).length) (d_ J (Frame.mk ((U M).ok) ((U M).al) ((U M).ak) (view ((U M).ways) (List.range ((U M).ways).length) (List.map aa.been ((U M).ways)))) O.ag) (((U M).ways).set O.ag.toNat (aa.mk 1 ((nth ((U M).ways) O.ag).gone) ((nth ((U M).ways) O.ag).been) ((nth ((U M).ways) O.ag).shown) ((nth ((U M).ways) O.ag).timer))))∧((decide (dR<((bq (nth J.ways O.ag)).length:Int)))=true→((0≤dR∧dR.toNat<(bq (nth J.ways O.ag)).length)∧(0≤((nth (bq (nth J.ways O.ag)) dR).bb)∧((nth (bq (nth J.ways O.ag)) dR).bb).toNat<aL.length))∧(Cp aw ay J O aL dR))
def Cy (aw:(List aN)→Int→Prop) (ay:(List aN)→Int→Nat) (cz:List (List Bool)→(List Bool)→(List aN)→List Nat→Int→List aa→Prop) (J:aB) (M:Frame) (O:Event):Prop:=
  (((d_ J (Frame.mk ((U M).ok) ((U M).al) ((U M).ak) (view ((U M).ways) (List.range ((U M).ways).length) (List.map aa.been ((U M).ways)))) O.ag)==0)=true→((0≤O.ag∧O.ag.toNat<((U M).ways).length)∧(((U M).ways).length=(List.range ((U M).ways).length).length∧O.ag.toNat<((U M).ways).length))∧(((0≤O.ag∧O.ag.toNat<J.ways.length)∧(uE (nth J.ways O.ag)))∧((bq (nth J.ways O.ag)).length≤4611686018427387904→aw ((U M).ak) 0∧ ∀(aL:(List aN)) (dR:Int),aw aL dR→(Cx aw ay cz J M O aL dR))))∧(((d_ J (Frame.mk ((U M).ok) ((U M).al) ((U M).ak) (view ((U M).ways) (List.range ((U M).ways).length) (List.map aa.been ((U M).ways)))) O.ag)==0)=false→cz (List.map aa.been ((U M).ways)) ((U M).al) ((U M).ak) (List.range ((U M).ways).length) (d_ J (Frame.mk ((U M).ok) ((U M).al) ((U M).ak) (view ((U M).ways) (List.range ((U M).ways).length) (List.map aa.been ((U M).ways)))) O.ag) ((U M).ways))
def Cz (cz:List (List Bool)→(List Bool)→(List aN)→List Nat→Int→List aa→Prop) (J:aB) (M:Frame) (O:Event):Prop:=
  ((((nth ((U M).ways) O.ag).shown)&&(fZ (Frame.mk ((U M).ok) ((U M).al) ((U M).ak) (view ((U M).ways) (List.range ((U M).ways).length) (List.map aa.been ((U M).ways)))) ((nth J.ways O.ag).ct)))=true→(((U M).ways).length=(List.range ((U M).ways).length).length∧O.ag.toNat<((U M).ways).length)∧(((((U M).ways).set O.ag.toNat (aa.mk 3 ((nth ((U M).ways) O.ag).gone) ((nth ((U M).ways) O.ag).been) ((nth ((U M).ways) O.ag).shown) ((nth ((U M).ways) O.ag).timer))).length=(List.range ((U M).ways).length).length∧O.ag.toNat<(((U M).ways).set O.ag.toNat (aa.mk 3 ((nth ((U M).ways) O.ag).gone) ((nth ((U M).ways) O.ag).been) ((nth ((U M).ways) O.ag).shown) ((nth ((U M).ways) O.ag).timer))).length)∧(cz (List.map aa.been ((U M).ways)) ((U M).al) ((U M).ak) (List.range ((U M).ways).length) 0 ((((U M).ways).set O.ag.toNat (aa.mk 3 ((nth ((U M).ways) O.ag).gone) ((nth ((U M).ways) O.ag).been) ((nth ((U M).ways) O.ag).shown) ((nth ((U M).ways) O.ag).timer))).set O.ag.toNat (aa.mk ((nth (((U M).ways).set O.ag.toNat (aa.mk 3 ((nth ((U M).ways) O.ag).gone) ((nth ((U M).ways) O.ag).been) ((nth ((U M).ways) O.ag).shown) ((nth ((U M).ways) O.ag).timer))) O.ag).state) ((nth (((U M).ways).set O.ag.toNat (aa.mk 3 ((nth ((U M).ways) O.ag).gone) ((nth ((U M).ways) O.ag).been) ((nth ((U M).ways) O.ag).shown) ((nth ((U M).ways) O.ag).timer))) O.ag).gone) ((nth (((U M).ways).set O.ag.toNat (aa.mk 3 ((nth ((U M).ways) O.ag).gone) ((nth ((U M).ways) O.ag).been) ((nth ((U M).ways) O.ag).shown) ((nth ((U M).ways) O.ag).timer))) O.ag).been) ((nth (((U M).ways).set O.ag.toNat (aa.mk 3 ((nth ((U M).ways) O.ag).gone) ((nth ((U M).ways) O.ag).been) ((nth ((U M).ways) O.ag).shown) ((nth ((U M).ways) O.ag).timer))) O.ag).shown) J.hold)))))∧((((nth ((U M).ways) O.ag).shown)&&(fZ (Frame.mk ((U M).ok) ((U M).al) ((U M).ak) (view ((U M).ways) (List.range ((U M).ways).length) (List.map aa.been ((U M).ways)))) ((nth J.ways O.ag).ct)))=false→(uc J O.ag)∧((((U M).ways).length=(List.range ((U M).ways).length).length∧O.ag.toNat<((U M).ways).length)∧(cz ((List.map aa.been ((U M).ways))++[(a2 J O.ag).been]) ((U M).al) ((U M).ak) ((List.range ((U M).ways).length).set O.ag.toNat ((List.map aa.been ((U M).ways)).length)) 0 (((U M).ways).set O.ag.toNat (aa.mk ((a2 J O.ag).state) ((a2 J O.ag).gone) ((a2 J O.ag).been) ((a2 J O.ag).shown) ((a2 J O.ag).timer))))))
def CA (cz:List (List Bool)→(List Bool)→(List aN)→List Nat→Int→List aa→Prop) (J:aB) (M:Frame) (O:Event):Prop:=
  (((((nth ((U M).ways) O.ag).state) !=1)&&(((nth ((U M).ways) O.ag).state) !=2))=true→cz (List.map aa.been ((U M).ways)) ((U M).al) ((U M).ak) (List.range ((U M).ways).length) 2 ((U M).ways))∧(((((nth ((U M).ways) O.ag).state) !=1)&&(((nth ((U M).ways) O.ag).state) !=2))=false→((((U M).ways).length=(List.range ((U M).ways).length).length∧O.ag.toNat<((U M).ways).length)∧((nth ((U M).ways) O.ag).shown=true→(0≤O.ag∧O.ag.toNat<J.ways.length)∧(((U M).al).length≤4611686018427387904∧((U M).ak).length≤4611686018427387904∧(iQ ((U M).ways) (List.range ((U M).ways).length) (List.map aa.been ((U M).ways))∧((U M).ways).length≤4611686018427387904∧(∀x∈(List.map aa.been ((U M).ways)),List.length x≤4611686018427387904))∧sO (Frame.mk ((U M).ok) ((U M).al) ((U M).ak) (view ((U M).ways) (List.range ((U M).ways).length) (List.map aa.been ((U M).ways)))) ((nth J.ways O.ag).ct))))∧(Cz cz J M O))
def CB (cz:List (List Bool)→(List Bool)→(List aN)→List Nat→Int→List aa→Prop) (J:aB) (M:Frame) (O:Event):Prop:=
  ((nth ((U M).al) (nth J.bh O.ag))=true→cz (List.map aa.been ((U M).ways)) ((U M).al) ((U M).ak) (List.range ((U M).ways).length) 3 ((U M).ways))∧((nth ((U M).al) (nth J.bh O.ag))=false→(0≤O.ag∧O.ag.toNat<((U M).ak).length)∧(cz (List.map aa.been ((U M).ways)) ((U M).al) (((U M).ak).set O.ag.toNat (aN.mk O.bx ((nth ((U M).ak) O.ag).aZ))) (List.range ((U M).ways).length) 0 ((U M).ways)))
def CC (cz:List (List Bool)→(List Bool)→(List aN)→List Nat→Int→List aa→Prop) (J:aB) (M:Frame) (O:Event):Prop:=
  ((decide (((fQ J (Frame.mk ((U M).ok) ((U M).al) ((U M).ak) (view ((U M).ways) (List.range ((U M).ways).length) (List.map aa.been ((U M).ways)))) O.ag).length:Int)>0))=true→cz (List.map aa.been ((U M).ways)) ((U M).al) ((U M).ak) (List.range ((U M).ways).length) 2 ((U M).ways))∧((decide (((fQ J (Frame.mk ((U M).ok) ((U M).al) ((U M).ak) (view ((U M).ways) (List.range ((U M).ways).length) (List.map aa.been ((U M).ways)))) O.ag).length:Int)>0))=false→((0≤O.ag∧O.ag.toNat<J.bh.length)∧(0≤(nth J.bh O.ag)∧(nth J.bh O.ag).toNat<((U M).al).length))∧(CB cz J M O))
def CD (J:aB) (aE:List Nat) (a5:Int) (ws2:List aa):Prop:=
  (((nth (ws2.set a5.toNat (aa.mk ((nth ws2 a5).state) ((nth ws2 a5).gone) ((nth ws2 a5).been) ((nth ws2 a5).shown) (IntKind.i64.wrap (((nth ws2 a5).timer) - 1)))) a5).timer)==0)=true→(uc J a5)∧((ws2.set a5.toNat (aa.mk ((nth ws2 a5).state) ((nth ws2 a5).gone) ((nth ws2 a5).been) ((nth ws2 a5).shown) (IntKind.i64.wrap (((nth ws2 a5).timer) - 1)))).length=aE.length∧a5.toNat<(ws2.set a5.toNat (aa.mk ((nth ws2 a5).state) ((nth ws2 a5).gone) ((nth ws2 a5).been) ((nth ws2 a5).shown) (IntKind.i64.wrap (((nth ws2 a5).timer) - 1)))).length)
def CE (J:aB) (aE:List Nat) (a5:Int) (ws2:List aa):Prop:=
  ((ws2.set a5.toNat (aa.mk ((nth ws2 a5).state) ((nth ws2 a5).gone) ((nth ws2 a5).been) ((nth ws2 a5).shown) (IntKind.i64.wrap (((nth ws2 a5).timer) - 1)))).length=aE.length∧a5.toNat<(ws2.set a5.toNat (aa.mk ((nth ws2 a5).state) ((nth ws2 a5).gone) ((nth ws2 a5).been) ((nth ws2 a5).shown) (IntKind.i64.wrap (((nth ws2 a5).timer) - 1)))).length)∧(CD J aE a5 ws2)
def Cq (aW:List (List Bool)→List Nat→Int→List aa→Prop) (aX:List (List Bool)→List Nat→Int→List aa→Nat) (J:aB) (b5:List (List Bool)) (aE:List Nat) (a5:Int) (ws2:List aa):Prop:=
  ((0≤a5∧a5.toNat<ws2.length)∧((ws2.length=aE.length∧a5.toNat<ws2.length)∧((((nth ws2 a5).state)==3)=true→((ws2.length=aE.length∧a5.toNat<ws2.length)∧(ws2.length=aE.length∧a5.toNat<ws2.length))∧(CE J aE a5 ws2))))∧(∀oi:List aa,(bif (((nth ws2 a5).state)==3) then(bif (((nth (ws2.set a5.toNat (aa.mk ((nth ws2 a5).state) ((nth ws2 a5).gone) ((nth ws2 a5).been) ((nth ws2 a5).shown) (IntKind.i64.wrap (((nth ws2 a5).timer) - 1)))) a5).timer)==0) then((ws2.set a5.toNat (aa.mk ((nth ws2 a5).state) ((nth ws2 a5).gone) ((nth ws2 a5).been) ((nth ws2 a5).shown) (IntKind.i64.wrap (((nth ws2 a5).timer) - 1)))).set a5.toNat (aa.mk ((a2 J a5).state) ((a2 J a5).gone) ((a2 J a5).been) ((a2 J a5).shown) ((a2 J a5).timer))) else(ws2.set a5.toNat (aa.mk ((nth ws2 a5).state) ((nth ws2 a5).gone) ((nth ws2 a5).been) ((nth ws2 a5).shown) (IntKind.i64.wrap (((nth ws2 a5).timer) - 1))))) else ws2)=oi→(∀qb:List Nat,(bif (((nth ws2 a5).state)==3) then(bif (((nth (ws2.set a5.toNat (aa.mk ((nth ws2 a5).state) ((nth ws2 a5).gone) ((nth ws2 a5).been) ((nth ws2 a5).shown) (IntKind.i64.wrap (((nth ws2 a5).timer) - 1)))) a5).timer)==0) then(aE.set a5.toNat b5.length) else aE) else aE)=qb→(∀qc:List (List Bool),(bif (((nth ws2 a5).state)==3) then(bif (((nth (ws2.set a5.toNat (aa.mk ((nth ws2 a5).state) ((nth ws2 a5).gone) ((nth ws2 a5).been) ((nth ws2 a5).shown) (IntKind.i64.wrap (((nth ws2 a5).timer) - 1)))) a5).timer)==0) then(b5++[(a2 J a5).been]) else b5) else b5)=qc→(aW qc qb (IntKind.i64.wrap (a5+1)) oi∧aX qc qb (IntKind.i64.wrap (a5+1)) oi<aX b5 aE a5 ws2))))
def Cr (aW:List (List Bool)→List Nat→Int→List aa→Prop) (aX:List (List Bool)→List Nat→Int→List aa→Nat) (cz:List (List Bool)→(List Bool)→(List aN)→List Nat→Int→List aa→Prop) (J:aB) (M:Frame):Prop:=
  aW (List.map aa.been ((U M).ways)) (List.range ((U M).ways).length) 0 ((U M).ways)∧ ∀(b5:List (List Bool)) (aE:List Nat) (a5:Int) (ws2:List aa),aW b5 aE a5 ws2→(((decide (a5<(((U M).ways).length:Int)))=false→cz b5 ((U M).al) ((U M).ak) aE 0 ws2)∧((decide (a5<(((U M).ways).length:Int)))=true→Cq aW aX J b5 aE a5 ws2))
def Cs (aW:List (List Bool)→List Nat→Int→List aa→Prop) (aX:List (List Bool)→List Nat→Int→List aa→Nat) (cz:List (List Bool)→(List Bool)→(List aN)→List Nat→Int→List aa→Prop) (J:aB) (M:Frame) (O:Event):Prop:=
  ((O.op==6)=true→(((U M).al).length≤4611686018427387904∧((U M).ak).length≤4611686018427387904∧(iQ ((U M).ways) (List.range ((U M).ways).length) (List.map aa.been ((U M).ways))∧((U M).ways).length≤4611686018427387904∧(∀x∈(List.map aa.been ((U M).ways)),List.length x≤4611686018427387904))∧q0 J (Frame.mk ((U M).ok) ((U M).al) ((U M).ak) (view ((U M).ways) (List.range ((U M).ways).length) (List.map aa.been ((U M).ways)))) O.ag)∧((fQ J (Frame.mk ((U M).ok) ((U M).al) ((U M).ak) (view ((U M).ways) (List.range ((U M).ways).length) (List.map aa.been ((U M).ways)))) O.ag).length≤4611686018427387904→CC cz J M O))∧((O.op==6)=false→((O.op==7)=true→Cr aW aX cz J M)∧((O.op==7)=false→cz (List.map aa.been ((U M).ways)) ((U M).al) ((U M).ak) (List.range ((U M).ways).length) 0 ((U M).ways)))
def Ct (aW:List (List Bool)→List Nat→Int→List aa→Prop) (aX:List (List Bool)→List Nat→Int→List aa→Nat) (cz:List (List Bool)→(List Bool)→(List aN)→List Nat→Int→List aa→Prop) (J:aB) (M:Frame) (O:Event):Prop:=
  ((bif (O.op==3) then(O.op==3) else(O.op==4))=true→(0≤O.ag∧O.ag.toNat<((U M).al).length)∧(cz (List.map aa.been ((U M).ways)) (((U M).al).set O.ag.toNat (O.op==3)) ((U M).ak) (List.range ((U M).ways).length) 0 ((U M).ways)))∧((bif (O.op==3) then(O.op==3) else(O.op==4))=false→((O.op==5)=true→(0≤O.ag∧O.ag.toNat<((U M).ak).length)∧(cz (List.map aa.been ((U M).ways)) ((U M).al) (((U M).ak).set O.ag.toNat (aN.mk ((nth ((U M).ak) O.ag).want) O.bx)) (List.range ((U M).ways).length) 0 ((U M).ways)))∧((O.op==5)=false→Cs aW aX cz J M O))
def Cu (aW:List (List Bool)→List Nat→Int→List aa→Prop) (aX:List (List Bool)→List Nat→Int→List aa→Nat) (cz:List (List Bool)→(List Bool)→(List aN)→List Nat→Int→List aa→Prop) (J:aB) (M:Frame) (O:Event):Prop:=
  ((O.op==2)=true→(0≤O.ag∧O.ag.toNat<((U M).ways).length)∧(((((U M).ways).length=(List.range ((U M).ways).length).length∧O.ag.toNat<((U M).ways).length)∧((((nth ((U M).ways) O.ag).state) !=1)=true→((U M).ways).length=(List.range ((U M).ways).length).length∧O.ag.toNat<((U M).ways).length))∧(CA cz J M O)))∧((O.op==2)=false→Ct aW aX cz J M O)
def Cv (aw:(List aN)→Int→Prop) (ay:(List aN)→Int→Nat) (aW:List (List Bool)→List Nat→Int→List aa→Prop) (aX:List (List Bool)→List Nat→Int→List aa→Nat) (cz:List (List Bool)→(List Bool)→(List aN)→List Nat→Int→List aa→Prop) (J:aB) (M:Frame) (O:Event):Prop:=
  ((O.op==1)=true→(((U M).al).length≤4611686018427387904∧((U M).ak).length≤4611686018427387904∧(iQ ((U M).ways) (List.range ((U M).ways).length) (List.map aa.been ((U M).ways))∧((U M).ways).length≤4611686018427387904∧(∀x∈(List.map aa.been ((U M).ways)),List.length x≤4611686018427387904))∧pj J (Frame.mk ((U M).ok) ((U M).al) ((U M).ak) (view ((U M).ways) (List.range ((U M).ways).length) (List.map aa.been ((U M).ways)))) O.ag)∧(Cy aw ay cz J M O))∧((O.op==1)=false→Cu aW aX cz J M O)
def Cw (J:aB) (M:Frame) (ar:cP) (aL:(List aN)) (b5:List (List Bool)) (aE:List Nat) (ws2:List aa) (aA:(List Bool)) (bP:Int):Prop:=
  ((bP !=0)=true→(gK M)∧((bP=ar.code)∧((U M)=ar.frame)))∧((!(bP !=0))=true→(aA.length≤4611686018427387904∧aL.length≤4611686018427387904∧(iQ ws2 aE b5∧ws2.length≤4611686018427387904∧(∀x∈b5,List.length x≤4611686018427387904))∧zw J (Frame.mk ((U M).ok) aA aL (view ws2 aE b5)))∧((0=ar.code)∧((dQ J (Frame.mk ((U M).ok) aA aL (view ws2 aE b5)))=ar.frame)))
def Co (J:aB) (M:Frame) (O:Event) (ar:cP) (aw:(List aN)→Int→Prop) (ay:(List aN)→Int→Nat) (aW:List (List Bool)→List Nat→Int→List aa→Prop) (aX:List (List Bool)→List Nat→Int→List aa→Nat) (cz:List (List Bool)→(List Bool)→(List aN)→List Nat→Int→List aa→Prop):Prop:=
 (gK M)∧((Cv aw ay aW aX cz J M O)∧(∀(b5:List (List Bool)) (aA:(List Bool)) (aL:(List aN)) (aE:List Nat) (bP:Int) (ws2:List aa),cz b5 aA aL aE bP ws2→(Cw J M ar aL b5 aE ws2 aA bP)))
theorem TL (J:aB) (M:Frame) (O:Event) (ar:cP) (aw:(List aN)→Int→Prop) (ay:(List aN)→Int→Nat) (aW:List (List Bool)→List Nat→Int→List aa→Prop) (aX:List (List Bool)→List Nat→Int→List aa→Nat) (cz:List (List Bool)→(List Bool)→(List aN)→List Nat→Int→List aa→Prop) (h:Co J M O ar aw ay aW aX cz):b3 Try.prog 63 [.agg (a8 false J),.agg (bS false M),.agg (eE O)] (.agg (fT true ar)):=by
 unfold Co at h
 refine dj.go (fn:=Try.f63) [(0,.agg (a8 false J)),(1,.agg (bS false M)),(2,.agg (eE O))] Try.func63 ?_
 show WpS _ (bK JC 1) _ ⟨a4 200 [(0,.agg (a8 false J)),(1,.agg (bS false M)),(2,.agg (eE O))],[],[]⟩
 refine m_ [] 0 [(6,an 6 0),(5,an 5 0),(4,an 4 0),(3,an 3 0)] [4] [] [(6,[ac 0,ah false,ao,ao,ao]),(5,(eE O)),(4,(bS false M)),(3,(a8 false J))] [] ?_
 refine l9 [] 1 [(7,an 7 0),(14,.agg (bS false M))] [1] [4] (fun L=>(7,(bS false M))::L) id ?_
 obtain⟨Wg,h⟩:=h
 refine dD [] [5] (fun L=>er 3 [ah ((U M).ok),ae 0 0 (((U M).al).length),ae 1 0 (((U M).ak).length),ae 2 0 (((U M).ways).length)] L) (fun _=>(⟨0,1,List.map aH ((U M).al)⟩::⟨0,2,List.map a1 ((U M).ak)⟩::⟨0,5,aT 3 ((U M).ways) (List.range ((U M).ways).length)⟩::List.map bc (List.map aa.been ((U M).ways)))) (True) ?_ (fun q3=> ?_)
 ·
  replace h:=Wg
  refine bm [] 2 ?_
  have q4:=h
  refine rc 2 (some 16) [(15,.agg (bS false M))] [.agg (bS false M)] (.agg [ah ((U M).ok),ae 0 0 (((U M).al).length),ae 1 0 (((U M).ak).length),ae 2 0 (((U M).ways).length)]) (⟨0,1,List.map aH ((U M).al)⟩::⟨0,2,List.map a1 ((U M).ak)⟩::⟨0,5,aT 3 ((U M).ways) (List.range ((U M).ways).length)⟩::List.map bc (List.map aa.been ((U M).ways))) (Jw M q4) (av.cons (ck.agg (av.cons (.bool _) (av.cons b7 (av.cons b7 (av.cons b7 av.nil))))) av.nil) y7 (by rw[List.nil_append];exact Mf _) ?_ (er:=by simp[lB,mu,hV])
  exact bL [] trivial
 refine cQ [] 3 [(8,ac 0)] [1] [5] ?_
 refine fy ?_
 refine cQ [] 4 [(18,ac O.op),(17,an 5 0)] [1] [6] ?_
 obtain⟨Wf,h⟩:=h
 refine GU 0 (fun(v:List (List Bool)×(List Bool)×(List aN)×List Nat×Int×List aa)=>(⟨(a4 200 [(3,an 3 0),(4,an 4 0),(6,an 6 0),(7,an 7 0),(8,ac (v.2.2.2.2.1))]),[(7,(bS false M)),(6,[ac 0,ah false,ao,ao,ao]),(4,[ah ((U M).ok),ae 0 0 ((v.2.1).length),ae 1 0 ((v.2.2.1).length),ae 2 0 ((v.2.2.2.2.2).length)]),(3,(a8 false J))],(⟨0,1,List.map aH (v.2.1)⟩::⟨0,2,List.map a1 (v.2.2.1)⟩::⟨0,5,aT 3 (v.2.2.2.2.2) (v.2.2.2.1)⟩::List.map bc (v.1))⟩:St)) (fun v=>cz (v.1) (v.2.1) (v.2.2.1) (v.2.2.2.1) (v.2.2.2.2.1) (v.2.2.2.2.2)) ?_ (fun v cu=> ?_)
 ·
  replace h:=Wf
  refine cQ [] 5 [(19,ah (O.op==1)),(20,ah (O.op==1))] [1] [7] ?_
  unfold Cv at h
  refine cN (fun eB=> ?_) (fun eB=> ?_)
  ·
   replace h:=h.1 eB
   obtain⟨kd,h⟩:=h
   refine b0 [(8,ac (d_ J (Frame.mk ((U M).ok) ((U M).al) ((U M).ak) (view ((U M).ways) (List.range ((U M).ways).length) (List.map aa.been ((U M).ways)))) O.ag))] [0,3,5] (True) ?_ (fun gU=> ?_)
   ·
    replace h:=kd
    refine bm [] 6 ?_
    obtain⟨fH,fI,gw,eU⟩:=h
    refine ic 5 (some 25) [(24,ac O.ag),(23,an 5 1),(22,.agg [ah ((U M).ok),ae 0 0 (((U M).al).length),ae 1 0 (((U M).ak).length),ae 2 0 (((U M).ways).length)]),(21,.agg (a8 false J))] [.agg (a8 false J),.agg [ah ((U M).ok),ae 0 0 (((U M).al).length),ae 1 0 (((U M).ak).length),ae 2 0 (((U M).ways).length)],ac O.ag] (Uw J (Frame.mk ((U M).ok) ((U M).al) ((U M).ak) (view ((U M).ways) (List.range ((U M).ways).length) (List.map aa.been ((U M).ways)))) O.ag eU) (av.cons (ck.agg (av.cons (.int _ _) (av.cons b7 (av.cons b7 (av.cons b7 (av.cons (.int _ _) av.nil)))))) (av.cons (ck.agg (av.cons (.bool _) (av.cons (kJ (sz:=1) (by simp) rfl (qL) fH) (av.cons (kJ (sz:=2) (by simp) rfl (sb) fI) (av.cons (rf (s:=3) (ws:=(U M).ways) (ids:=(List.range ((U M).ways).length)) (bs:=(List.map aa.been ((U M).ways))) (by simp) rfl (fun id k h=>by simpa using h) gw.1 gw.2.1 gw.2.2) av.nil))))) (av.cons (ck.ee (.int _ _)) av.nil))) ?_
    exact bL [(8,ac (d_ J (Frame.mk ((U M).ok) ((U M).al) ((U M).ak) (view ((U M).ways) (List.range ((U M).ways).length) (List.map aa.been ((U M).ways)))) O.ag))] trivial
   refine cQ [] 7 [(27,ah ((d_ J (Frame.mk ((U M).ok) ((U M).al) ((U M).ak) (view ((U M).ways) (List.range ((U M).ways).length) (List.map aa.been ((U M).ways)))) O.ag)==0)),(26,ac (d_ J (Frame.mk ((U M).ok) ((U M).al) ((U M).ak) (view ((U M).ways) (List.range ((U M).ways).length) (List.map aa.been ((U M).ways)))) O.ag))] [1] [6] ?_
   unfold Cy at h
   refine cN (fun gT=> ?_) (fun gT=> ?_)
   ·
    replace h:=h.1 gT
    obtain⟨hn,h⟩:=h
    refine dD [] [0,1,6] id (fun H=>dC 2 ⟨0,5,aT 3 (((U M).ways).set O.ag.toNat (aa.mk 1 ((nth ((U M).ways) O.ag).gone) ((nth ((U M).ways) O.ag).been) ((nth ((U M).ways) O.ag).shown) ((nth ((U M).ways) O.ag).timer))) (List.range ((U M).ways).length)⟩ H) (True) ?_ (fun h_=> ?_)
    ·
     replace h:=hn
     refine bm [] 8 ?_
     obtain⟨Zx,h⟩:=h
     refine kH 5 (some 32) [(31,ac O.ag),(30,an 5 1),(29,ae 2 0 (((U M).ways).length)),(28,an 4 3)] 2 0 5 Zx ?_
     have fX:=h
     refine jb 2 none [(33,.ptr 2 0 (0+O.ag.toNat) 0)] (aT 3 ((U M).ways) (List.range ((U M).ways).length)) O.ag 0 1 0 [ac 1] 2 (aT 3 (((U M).ways).set O.ag.toNat (aa.mk 1 ((nth ((U M).ways) O.ag).gone) ((nth ((U M).ways) O.ag).been) ((nth ((U M).ways) O.ag).shown) ((nth ((U M).ways) O.ag).timer))) (List.range ((U M).ways).length)) (dq fX.1 fX.2) (jk fX.1 fX.2) ?_
     exact bL [] trivial
    obtain⟨jU,h⟩:=h
    refine b0 [(40,eJ cD (bq (nth J.ways O.ag))),(41,ac ((bq (nth J.ways O.ag)).length:Int)),(42,ac 0)] [3,1,2] ((bq (nth J.ways O.ag)).length≤4611686018427387904) ?_ (fun ju=> ?_)
    ·
     replace h:=jU
     refine bm [] 9 ?_
     obtain⟨ia,h⟩:=h
     refine hT 5 (some 38) [(37,ac O.ag),(36,an 5 1),(35,bo (c9 false) J.ways),(34,an 3 2)] (c9 false) J.ways 5 ia ?_
     have fS:=h
     refine ic 2 (some 40) [(39,.agg (c9 false (nth J.ways O.ag)))] [.agg (c9 false (nth J.ways O.ag))] (JI (nth J.ways O.ag) fS) (av.cons (ck.agg (av.cons b7 (av.cons b7 (av.cons b7 (av.cons b7 (av.cons b7 av.nil)))))) av.nil) ?_
     refine sLen 1 (some 41) [] cD (bq (nth J.ways O.ag)) (fun gx=> ?_)
     exact bL [(42,ac 0)] gx
    replace h:=h ju
    refine dM 1 ?_
    obtain⟨ib,h⟩:=h
    refine hr (fun(v:(List aN)×Int)=>(⟨(a4 200 [(3,an 3 0),(4,an 4 0),(6,an 6 0),(7,an 7 0),(8,ac (d_ J (Frame.mk ((U M).ok) ((U M).al) ((U M).ak) (view ((U M).ways) (List.range ((U M).ways).length) (List.map aa.been ((U M).ways)))) O.ag)),(40,eJ cD (bq (nth J.ways O.ag))),(41,ac ((bq (nth J.ways O.ag)).length:Int)),(42,ac (v.2))]),[(7,(bS false M)),(6,[ac 0,ah false,ao,ao,ao]),(4,[ah ((U M).ok),ae 0 0 (((U M).al).length),ae 1 0 ((v.1).length),ae 2 0 (((U M).ways).length)]),(3,(a8 false J))],(⟨0,1,List.map aH ((U M).al)⟩::⟨0,2,List.map a1 (v.1)⟩::⟨0,5,aT 3 (((U M).ways).set O.ag.toNat (aa.mk 1 ((nth ((U M).ways) O.ag).gone) ((nth ((U M).ways) O.ag).been) ((nth ((U M).ways) O.ag).shown) ((nth ((U M).ways) O.ag).timer))) (List.range ((U M).ways).length)⟩::List.map bc (List.map aa.been ((U M).ways)))⟩:St)) (fun(v:(List aN)×Int)=>aw (v.1) (v.2)) (fun(v:(List aN)×Int)=>ay (v.1) (v.2)) ((U M).ak,0) (cC [5]) ib (fun v aM=> ?_)
    obtain⟨aL,dR⟩:=v
    replace h:=h aL dR aM
    dsimp only
    refine cQ [] 10 [(43,ah (decide (dR<((bq (nth J.ways O.ag)).length:Int))))] [1] [8] ?_
    unfold Cx at h
    obtain⟨hP,h⟩:=h
    refine b0 [] [0,1,8] ((decide (dR<((bq (nth J.ways O.ag)).length:Int)))=true) ?_ (fun gy=> ?_)
    ·
     replace h:=hP
     refine cN (fun ff=> ?_) (fun ff=> ?_)
     ·
      refine c6 ?_
      exact bR.normal (by simp only[eB,gT,ff]<;>rfl) cW
     ·
      replace h:=h ff
      refine gG 1 ?_
      refine bR.exit ?_
      refine cU.exit ?_
      refine bZ.here ?_
      refine bZ.normal ?_
      exact fm.normal ((List.map aa.been ((U M).ways)),((U M).al),aL,(List.range ((U M).ways).length),(d_ J (Frame.mk ((U M).ok) ((U M).al) ((U M).ak) (view ((U M).ways) (List.range ((U M).ways).length) (List.map aa.been ((U M).ways)))) O.ag),(((U M).ways).set O.ag.toNat (aa.mk 1 ((nth ((U M).ways) O.ag).gone) ((nth ((U M).ways) O.ag).been) ((nth ((U M).ways) O.ag).shown) ((nth ((U M).ways) O.ag).timer)))) h (fK (s':=⟨(a4 200 [(3,an 3 0),(4,an 4 0),(6,an 6 0),(7,an 7 0),(8,ac (d_ J (Frame.mk ((U M).ok) ((U M).al) ((U M).ak) (view ((U M).ways) (List.range ((U M).ways).length) (List.map aa.been ((U M).ways)))) O.ag))]),[(7,(bS false M)),(6,[ac 0,ah false,ao,ao,ao]),(4,[ah ((U M).ok),ae 0 0 (((U M).al).length),ae 1 0 aL.length,ae 2 0 (((U M).ways).length)]),(3,(a8 false J))],(⟨0,1,List.map aH ((U M).al)⟩::⟨0,2,List.map a1 aL⟩::⟨0,5,aT 3 (((U M).ways).set O.ag.toNat (aa.mk 1 ((nth ((U M).ways) O.ag).gone) ((nth ((U M).ways) O.ag).been) ((nth ((U M).ways) O.ag).shown) ((nth ((U M).ways) O.ag).timer))) (List.range ((U M).ways).length)⟩::List.map bc (List.map aa.been ((U M).ways)))⟩) (cC (n:=200) (A':=[(3,an 3 0),(4,an 4 0),(6,an 6 0),(7,an 7 0),(8,ac (d_ J (Frame.mk ((U M).ok) ((U M).al) ((U M).ak) (view ((U M).ways) (List.range ((U M).ways).length) (List.map aa.been ((U M).ways)))) O.ag))]) (L':=[(7,(bS false M)),(6,[ac 0,ah false,ao,ao,ao]),(4,[ah ((U M).ok),ae 0 0 (((U M).al).length),ae 1 0 aL.length,ae 2 0 (((U M).ways).length)]),(3,(a8 false J))]) []) (congrArg (fun z=>(⟨(a4 200 [(3,an 3 0),(4,an 4 0),(6,an 6 0),(7,an 7 0),(8,ac (d_ J (Frame.mk ((U M).ok) ((U M).al) ((U M).ak) (view ((U M).ways) (List.range ((U M).ways).length) (List.map aa.been ((U M).ways)))) O.ag))]),[(7,(bS false M)),(6,[ac 0,ah false,ao,ao,ao]),(4,[ah ((U M).ok),ae 0 0 (((U M).al).length),ae 1 0 aL.length,ae 2 0 z]),(3,(a8 false J))],(⟨0,1,List.map aH ((U M).al)⟩::⟨0,2,List.map a1 aL⟩::⟨0,5,aT 3 (((U M).ways).set O.ag.toNat (aa.mk 1 ((nth ((U M).ways) O.ag).gone) ((nth ((U M).ways) O.ag).been) ((nth ((U M).ways) O.ag).shown) ((nth ((U M).ways) O.ag).timer))) (List.range ((U M).ways).length)⟩::List.map bc (List.map aa.been ((U M).ways)))⟩:St)) (show((U M).ways).length=(((U M).ways).set O.ag.toNat (aa.mk 1 ((nth ((U M).ways) O.ag).gone) ((nth ((U M).ways) O.ag).been) ((nth ((U M).ways) O.ag).shown) ((nth ((U M).ways) O.ag).timer))).length by simp)))
    replace h:=h gy
    obtain⟨hl,h⟩:=h
    refine dD [] [8] (fun L=>(10,(cD (nth (bq (nth J.ways O.ag)) dR)))::L) (fun H=>dC 1 ⟨0,2,List.map a1 (aL.set ((nth (bq (nth J.ways O.ag)) dR).bb).toNat (aN.mk ((nth (bq (nth J.ways O.ag)) dR).bx) ((nth aL ((nth (bq (nth J.ways O.ag)) dR).bb)).aZ)))⟩ H) (True) ?_ (fun gz=> ?_)
    ·
     replace h:=hl
     refine dM 2 ?_
     obtain⟨ix,h⟩:=h
     refine dD [(10,an 10 0)] [8] (fun L=>(10,(cD (nth (bq (nth J.ways O.ag)) dR)))::L) id (True) ?_ (fun gh=> ?_)
     ·
      replace h:=ix
      refine bm [] 11 ?_
      have jv:=h
      refine hT 1 (some 44) [] cD (bq (nth J.ways O.ag)) 2 jv ?_
      exact bL [(10,an 10 0),(45,.agg (cD (nth (bq (nth J.ways O.ag)) dR)))] trivial
     refine bm [] 12 ?_
     have Ok:=h
     refine kH 7 (some 52) [(51,ac ((nth (bq (nth J.ways O.ag)) dR).bx)),(50,an 10 1),(49,ac ((nth (bq (nth J.ways O.ag)) dR).bb)),(48,an 10 0),(47,ae 1 0 aL.length),(46,an 4 2)] 1 0 2 Ok ?_
     refine re 2 none [(53,.ptr 1 0 (0+((nth (bq (nth J.ways O.ag)) dR).bb).toNat) 0)] a1 aL ((nth (bq (nth J.ways O.ag)) dR).bb) 0 1 0 [ac ((nth (bq (nth J.ways O.ag)) dR).bx)] 1 (aN.mk ((nth (bq (nth J.ways O.ag)) dR).bx) ((nth aL ((nth (bq (nth J.ways O.ag)) dR).bb)).aZ)) (by simpa using Ok.2) ?_
     refine df [] ?_
     refine bZ.normal ?_
     exact bR.normal trivial cW
    unfold Cp at h
    refine bm [] 13 ?_
    refine df [(42,ac (IntKind.i64.wrap (dR+1))),(54,ac (IntKind.i64.wrap (dR+1)))] ?_
    exact cU.again ((aL.set ((nth (bq (nth J.ways O.ag)) dR).bb).toNat (aN.mk ((nth (bq (nth J.ways O.ag)) dR).bx) ((nth aL ((nth (bq (nth J.ways O.ag)) dR).bb)).aZ))),(IntKind.i64.wrap (dR+1))) h (fK (s':=⟨(a4 200 [(3,an 3 0),(4,an 4 0),(6,an 6 0),(7,an 7 0),(8,ac (d_ J (Frame.mk ((U M).ok) ((U M).al) ((U M).ak) (view ((U M).ways) (List.range ((U M).ways).length) (List.map aa.been ((U M).ways)))) O.ag)),(40,eJ cD (bq (nth J.ways O.ag))),(41,ac ((bq (nth J.ways O.ag)).length:Int)),(42,ac (IntKind.i64.wrap (dR+1)))]),[(7,(bS false M)),(6,[ac 0,ah false,ao,ao,ao]),(4,[ah ((U M).ok),ae 0 0 (((U M).al).length),ae 1 0 aL.length,ae 2 0 (((U M).ways).length)]),(3,(a8 false J))],(⟨0,1,List.map aH ((U M).al)⟩::⟨0,2,List.map a1 (aL.set ((nth (bq (nth J.ways O.ag)) dR).bb).toNat (aN.mk ((nth (bq (nth J.ways O.ag)) dR).bx) ((nth aL ((nth (bq (nth J.ways O.ag)) dR).bb)).aZ)))⟩::⟨0,5,aT 3 (((U M).ways).set O.ag.toNat (aa.mk 1 ((nth ((U M).ways) O.ag).gone) ((nth ((U M).ways) O.ag).been) ((nth ((U M).ways) O.ag).shown) ((nth ((U M).ways) O.ag).timer))) (List.range ((U M).ways).length)⟩::List.map bc (List.map aa.been ((U M).ways)))⟩) (cC (n:=200) (A':=[(3,an 3 0),(4,an 4 0),(6,an 6 0),(7,an 7 0),(8,ac (d_ J (Frame.mk ((U M).ok) ((U M).al) ((U M).ak) (view ((U M).ways) (List.range ((U M).ways).length) (List.map aa.been ((U M).ways)))) O.ag)),(40,eJ cD (bq (nth J.ways O.ag))),(41,ac ((bq (nth J.ways O.ag)).length:Int)),(42,ac (IntKind.i64.wrap (dR+1)))]) (L':=[(7,(bS false M)),(6,[ac 0,ah false,ao,ao,ao]),(4,[ah ((U M).ok),ae 0 0 (((U M).al).length),ae 1 0 aL.length,ae 2 0 (((U M).ways).length)]),(3,(a8 false J))]) [10]) (congrArg (fun z=>(⟨(a4 200 [(3,an 3 0),(4,an 4 0),(6,an 6 0),(7,an 7 0),(8,ac (d_ J (Frame.mk ((U M).ok) ((U M).al) ((U M).ak) (view ((U M).ways) (List.range ((U M).ways).length) (List.map aa.been ((U M).ways)))) O.ag)),(40,eJ cD (bq (nth J.ways O.ag))),(41,ac ((bq (nth J.ways O.ag)).length:Int)),(42,ac (IntKind.i64.wrap (dR+1)))]),[(7,(bS false M)),(6,[ac 0,ah false,ao,ao,ao]),(4,[ah ((U M).ok),ae 0 0 (((U M).al).length),ae 1 0 z,ae 2 0 (((U M).ways).length)]),(3,(a8 false J))],(⟨0,1,List.map aH ((U M).al)⟩::⟨0,2,List.map a1 (aL.set ((nth (bq (nth J.ways O.ag)) dR).bb).toNat (aN.mk ((nth (bq (nth J.ways O.ag)) dR).bx) ((nth aL ((nth (bq (nth J.ways O.ag)) dR).bb)).aZ)))⟩::⟨0,5,aT 3 (((U M).ways).set O.ag.toNat (aa.mk 1 ((nth ((U M).ways) O.ag).gone) ((nth ((U M).ways) O.ag).been) ((nth ((U M).ways) O.ag).shown) ((nth ((U M).ways) O.ag).timer))) (List.range ((U M).ways).length)⟩::List.map bc (List.map aa.been ((U M).ways)))⟩:St)) (show aL.length=(aL.set ((nth (bq (nth J.ways O.ag)) dR).bb).toNat (aN.mk ((nth (bq (nth J.ways O.ag)) dR).bx) ((nth aL ((nth (bq (nth J.ways O.ag)) dR).bb)).aZ))).length by simp)))
   ·
    replace h:=h.2 gT
    refine c6 ?_
    refine bZ.normal ?_
    exact fm.normal ((List.map aa.been ((U M).ways)),((U M).al),((U M).ak),(List.range ((U M).ways).length),(d_ J (Frame.mk ((U M).ok) ((U M).al) ((U M).ak) (view ((U M).ways) (List.range ((U M).ways).length) (List.map aa.been ((U M).ways)))) O.ag),((U M).ways)) h (cC [5])
  ·
   replace h:=h.2 eB
   refine cQ [] 14 [(55,ah (O.op==2)),(56,ah (O.op==2))] [1] [0,1,7] ?_
   unfold Cu at h
   refine cN (fun eV=> ?_) (fun eV=> ?_)
   ·
    replace h:=h.1 eV
    obtain⟨o2,h⟩:=h
    refine b0 [(11,.ptr 2 0 (0+O.ag.toNat) 0)] [0,2,6] (True) ?_ (fun nr=> ?_)
    ·
     replace h:=o2
     refine bm [] 15 ?_
     have ZA:=h
     refine kH 5 (some 61) [(60,ac O.ag),(59,an 5 1),(58,ae 2 0 (((U M).ways).length)),(57,an 4 3)] 2 0 5 ZA ?_
     exact bL [(11,.ptr 2 0 (0+O.ag.toNat) 0)] trivial
    refine dM 3 ?_
    obtain⟨uK,h⟩:=h
    refine b0 [(68,ah ((((nth ((U M).ways) O.ag).state) !=1)&&(((nth ((U M).ways) O.ag).state) !=2)))] [7] (True) ?_ (fun iY=> ?_)
    ·
     replace h:=uK
     refine bm [] 17 ?_
     obtain⟨kD,h⟩:=h
     refine hU 4 (some 72) [(71,.ptr 2 0 (0+O.ag.toNat) 0),(70,.ptr 2 0 (0+O.ag.toNat) 0),(69,.ptr 2 0 (0+O.ag.toNat) 0)] (aT 3 ((U M).ways) (List.range ((U M).ways).length)) O.ag 3 0 0 (ac ((nth ((U M).ways) O.ag).state)) (dq kD.1 kD.2) ?_
     refine kI 2 74 (((nth ((U M).ways) O.ag).state) !=1) [(73,ah (((nth ((U M).ways) O.ag).state) !=1))] (fun ns=> ?_) (fun ns=> ?_)
     ·
      replace h:=h ns
      have iy:=h
      refine hU 4 (some 78) [(77,.ptr 2 0 (0+O.ag.toNat) 0),(76,.ptr 2 0 (0+O.ag.toNat) 0),(75,.ptr 2 0 (0+O.ag.toNat) 0)] (aT 3 ((U M).ways) (List.range ((U M).ways).length)) O.ag 3 0 0 (ac ((nth ((U M).ways) O.ag).state)) (dq iy.1 iy.2) ?_
      exact bL [(68,ah (((nth ((U M).ways) O.ag).state) !=2)),(80,ah (((nth ((U M).ways) O.ag).state) !=2)),(79,ah (((nth ((U M).ways) O.ag).state) !=2))] trivial (by simp only[eB,eV,ns]<;>kernel_rfl)
     ·
      exact bL ([(68,ah false),(80,ah false)]++e4 [79,78,77,76,75]) trivial (by simp only[eB,eV,ns]<;>kernel_rfl)
    unfold CA at h
    refine cN (fun kf=> ?_) (fun kf=> ?_)
    ·
     replace h:=h.1 kf
     refine bm [] 18 ?_
     refine df [(8,ac 2)] ?_
     refine bZ.normal ?_
     refine bZ.normal ?_
     exact fm.normal ((List.map aa.been ((U M).ways)),((U M).al),((U M).ak),(List.range ((U M).ways).length),2,((U M).ways)) h (cC [5])
    ·
     replace h:=h.2 kf
     obtain⟨nt,h⟩:=h
     refine b0 [(81,ah (((nth ((U M).ways) O.ag).shown)&&(fZ (Frame.mk ((U M).ok) ((U M).al) ((U M).ak) (view ((U M).ways) (List.range ((U M).ways).length) (List.map aa.been ((U M).ways)))) ((nth J.ways O.ag).ct))))] [0,1,7] (True) ?_ (fun kg=> ?_)
     ·
      replace h:=nt
      refine lW [] 19 TF TG [] ?_
      obtain⟨hQ,h⟩:=h
      refine mw 4 (some 85) [(84,.ptr 2 0 (0+O.ag.toNat) 3),(83,.ptr 2 0 (0+O.ag.toNat) 0),(82,.ptr 2 0 (0+O.ag.toNat) 0)] (aT 3 ((U M).ways) (List.range ((U M).ways).length)) O.ag 4 3 0 (ah ((nth ((U M).ways) O.ag).shown)) (dq hQ.1 hQ.2) ?_
      refine og 1 86 ((nth ((U M).ways) O.ag).shown) [] (fun jw=> ?_) (fun jw=> ?_)
      ·
       replace h:=h jw
       obtain⟨jV,h⟩:=h
       refine p_ 6 (some 92) [(91,ac O.ag),(90,an 5 1),(89,bo (c9 false) J.ways),(88,an 3 2),(87,.agg [ah ((U M).ok),ae 0 0 (((U M).al).length),ae 1 0 (((U M).ak).length),ae 2 0 (((U M).ways).length)])] (c9 false) J.ways 5 jV ?_
       obtain⟨kE,lv,la,m0⟩:=h
       refine NQ 3 (some 95) [(94,bo bW ((nth J.ways O.ag).ct)),(93,.cZ (c9 false (nth J.ways O.ag)) 4)] [.agg [ah ((U M).ok),ae 0 0 (((U M).al).length),ae 1 0 (((U M).ak).length),ae 2 0 (((U M).ways).length)],bo bW ((nth J.ways O.ag).ct)] (JV (Frame.mk ((U M).ok) ((U M).al) ((U M).ak) (view ((U M).ways) (List.range ((U M).ways).length) (List.map aa.been ((U M).ways)))) ((nth J.ways O.ag).ct) m0) (av.cons (ck.agg (av.cons (.bool _) (av.cons (kJ (sz:=1) (by simp) rfl (qL) kE) (av.cons (kJ (sz:=2) (by simp) rfl (sb) lv) (av.cons (rf (s:=3) (ws:=(U M).ways) (ids:=(List.range ((U M).ways).length)) (bs:=(List.map aa.been ((U M).ways))) (by simp) rfl (fun id k h=>by simpa using h) la.1 la.2.1 la.2.2) av.nil))))) (av.cons (ck.ee b7) av.nil)) ?_
       exact jY [(81,ah (fZ (Frame.mk ((U M).ok) ((U M).al) ((U M).ak) (view ((U M).ways) (List.range ((U M).ways).length) (List.map aa.been ((U M).ways)))) ((nth J.ways O.ag).ct))),(96,ah (fZ (Frame.mk ((U M).ok) ((U M).al) ((U M).ak) (view ((U M).ways) (List.range ((U M).ways).length) (List.map aa.been ((U M).ways)))) ((nth J.ways O.ag).ct)))] trivial (by simp only[eB,eV,kf,jw]<;>kernel_rfl)
      ·
       exact jY ([(81,ah false),(96,ah false)]++e4 [95,94,93,92,91,90,89,88,87]) trivial (by simp only[eB,eV,kf,jw]<;>kernel_rfl)
     unfold Cz at h
     refine cN (fun kF=> ?_) (fun kF=> ?_)
     ·
      replace h:=h.1 kF
      refine lW [] 20 TH TI [] ?_
      obtain⟨kG,h⟩:=h
      refine NS 7 none [(102,.ptr 2 0 (0+O.ag.toNat) 0),(101,.ptr 2 0 (0+O.ag.toNat) 0),(100,ac J.hold),(99,an 3 4),(98,.ptr 2 0 (0+O.ag.toNat) 0),(97,.ptr 2 0 (0+O.ag.toNat) 0)] (aT 3 ((U M).ways) (List.range ((U M).ways).length)) O.ag 0 1 0 [ac 3] (fun r=>nP Try.prog (h9 JC 256942) [1,2,3] [(102,.ptr 2 0 (0+O.ag.toNat) 0),(101,.ptr 2 0 (0+O.ag.toNat) 0),(100,ac J.hold),(99,an 3 4),(98,.ptr 2 0 (0+O.ag.toNat) 0),(97,.ptr 2 0 (0+O.ag.toNat) 0),(81,ah (((nth ((U M).ways) O.ag).shown)&&(fZ (Frame.mk ((U M).ok) ((U M).al) ((U M).ak) (view ((U M).ways) (List.range ((U M).ways).length) (List.map aa.been ((U M).ways)))) ((nth J.ways O.ag).ct)))),(11,.ptr 2 0 (0+O.ag.toNat) 0),(8,ac 0),(7,an 7 0),(6,an 6 0),(5,an 5 0),(4,an 4 0),(3,an 3 0)] [(7,(bS false M)),(6,[ac 0,ah false,ao,ao,ao]),(5,(eE O)),(4,[ah ((U M).ok),ae 0 0 (((U M).al).length),ae 1 0 (((U M).ak).length),ae 2 0 (((U M).ways).length)]),(3,(a8 false J))] ((fun r=>(⟨0,1,List.map aH ((U M).al)⟩::⟨0,2,List.map a1 ((U M).ak)⟩::⟨0,5,r⟩::List.map bc (List.map aa.been ((U M).ways)))) r)) (fun r=>(⟨0,1,List.map aH ((U M).al)⟩::⟨0,2,List.map a1 ((U M).ak)⟩::⟨0,5,r⟩::List.map bc (List.map aa.been ((U M).ways)))) (aT 3 (((U M).ways).set O.ag.toNat (aa.mk 3 ((nth ((U M).ways) O.ag).gone) ((nth ((U M).ways) O.ag).been) ((nth ((U M).ways) O.ag).shown) ((nth ((U M).ways) O.ag).timer))) (List.range ((U M).ways).length)) (dq kG.1 kG.2) (jk kG.1 kG.2) (qV (ψ:=((true=true∧true=true∧((.ptr 2 0 (0+O.ag.toNat) 0:AV)= .ptr 2 0 (0+O.ag.toNat) 0))∧((true=true∧true=true∧((an 3 4:AV)=an 3 4))∧((true=true∧true=true∧((ac J.hold:AV)=ac J.hold))∧True)))) (by kernel_rfl) ⟨⟨rfl,rfl,rfl⟩,⟨⟨rfl,rfl,rfl⟩,⟨⟨rfl,rfl,rfl⟩,trivial⟩⟩⟩) ?_
      obtain⟨jx,h⟩:=h
      refine NS 3 none [(104,.ptr 2 0 (0+O.ag.toNat) 4),(103,.ptr 2 0 (0+O.ag.toNat) 0)] (aT 3 (((U M).ways).set O.ag.toNat (aa.mk 3 ((nth ((U M).ways) O.ag).gone) ((nth ((U M).ways) O.ag).been) ((nth ((U M).ways) O.ag).shown) ((nth ((U M).ways) O.ag).timer))) (List.range ((U M).ways).length)) O.ag 4 1 0 [ac J.hold] (fun _=>True) (fun r=>(⟨0,1,List.map aH ((U M).al)⟩::⟨0,2,List.map a1 ((U M).ak)⟩::⟨0,5,r⟩::List.map bc (List.map aa.been ((U M).ways)))) (aT 3 ((((U M).ways).set O.ag.toNat (aa.mk 3 ((nth ((U M).ways) O.ag).gone) ((nth ((U M).ways) O.ag).been) ((nth ((U M).ways) O.ag).shown) ((nth ((U M).ways) O.ag).timer))).set O.ag.toNat (aa.mk ((nth (((U M).ways).set O.ag.toNat (aa.mk 3 ((nth ((U M).ways) O.ag).gone) ((nth ((U M).ways) O.ag).been) ((nth ((U M).ways) O.ag).shown) ((nth ((U M).ways) O.ag).timer))) O.ag).state) ((nth (((U M).ways).set O.ag.toNat (aa.mk 3 ((nth ((U M).ways) O.ag).gone) ((nth ((U M).ways) O.ag).been) ((nth ((U M).ways) O.ag).shown) ((nth ((U M).ways) O.ag).timer))) O.ag).gone) ((nth (((U M).ways).set O.ag.toNat (aa.mk 3 ((nth ((U M).ways) O.ag).gone) ((nth ((U M).ways) O.ag).been) ((nth ((U M).ways) O.ag).shown) ((nth ((U M).ways) O.ag).timer))) O.ag).been) ((nth (((U M).ways).set O.ag.toNat (aa.mk 3 ((nth ((U M).ways) O.ag).gone) ((nth ((U M).ways) O.ag).been) ((nth ((U M).ways) O.ag).shown) ((nth ((U M).ways) O.ag).timer))) O.ag).shown) J.hold)) (List.range ((U M).ways).length)) (dq jx.1 jx.2) (jk jx.1 jx.2) trivial ?_
      refine u4 [] ?_
      refine bZ.normal ?_
      refine bZ.normal ?_
      exact fm.normal ((List.map aa.been ((U M).ways)),((U M).al),((U M).ak),(List.range ((U M).ways).length),0,((((U M).ways).set O.ag.toNat (aa.mk 3 ((nth ((U M).ways) O.ag).gone) ((nth ((U M).ways) O.ag).been) ((nth ((U M).ways) O.ag).shown) ((nth ((U M).ways) O.ag).timer))).set O.ag.toNat (aa.mk ((nth (((U M).ways).set O.ag.toNat (aa.mk 3 ((nth ((U M).ways) O.ag).gone) ((nth ((U M).ways) O.ag).been) ((nth ((U M).ways) O.ag).shown) ((nth ((U M).ways) O.ag).timer))) O.ag).state) ((nth (((U M).ways).set O.ag.toNat (aa.mk 3 ((nth ((U M).ways) O.ag).gone) ((nth ((U M).ways) O.ag).been) ((nth ((U M).ways) O.ag).shown) ((nth ((U M).ways) O.ag).timer))) O.ag).gone) ((nth (((U M).ways).set O.ag.toNat (aa.mk 3 ((nth ((U M).ways) O.ag).gone) ((nth ((U M).ways) O.ag).been) ((nth ((U M).ways) O.ag).shown) ((nth ((U M).ways) O.ag).timer))) O.ag).been) ((nth (((U M).ways).set O.ag.toNat (aa.mk 3 ((nth ((U M).ways) O.ag).gone) ((nth ((U M).ways) O.ag).been) ((nth ((U M).ways) O.ag).shown) ((nth ((U M).ways) O.ag).timer))) O.ag).shown) J.hold))) h (fK (s':=⟨(a4 200 [(3,an 3 0),(4,an 4 0),(6,an 6 0),(7,an 7 0),(8,ac 0)]),[(7,(bS false M)),(6,[ac 0,ah false,ao,ao,ao]),(4,[ah ((U M).ok),ae 0 0 (((U M).al).length),ae 1 0 (((U M).ak).length),ae 2 0 (((U M).ways).length)]),(3,(a8 false J))],(⟨0,1,List.map aH ((U M).al)⟩::⟨0,2,List.map a1 ((U M).ak)⟩::⟨0,5,aT 3 ((((U M).ways).set O.ag.toNat (aa.mk 3 ((nth ((U M).ways) O.ag).gone) ((nth ((U M).ways) O.ag).been) ((nth ((U M).ways) O.ag).shown) ((nth ((U M).ways) O.ag).timer))).set O.ag.toNat (aa.mk ((nth (((U M).ways).set O.ag.toNat (aa.mk 3 ((nth ((U M).ways) O.ag).gone) ((nth ((U M).ways) O.ag).been) ((nth ((U M).ways) O.ag).shown) ((nth ((U M).ways) O.ag).timer))) O.ag).state) ((nth (((U M).ways).set O.ag.toNat (aa.mk 3 ((nth ((U M).ways) O.ag).gone) ((nth ((U M).ways) O.ag).been) ((nth ((U M).ways) O.ag).shown) ((nth ((U M).ways) O.ag).timer))) O.ag).gone) ((nth (((U M).ways).set O.ag.toNat (aa.mk 3 ((nth ((U M).ways) O.ag).gone) ((nth ((U M).ways) O.ag).been) ((nth ((U M).ways) O.ag).shown) ((nth ((U M).ways) O.ag).timer))) O.ag).been) ((nth (((U M).ways).set O.ag.toNat (aa.mk 3 ((nth ((U M).ways) O.ag).gone) ((nth ((U M).ways) O.ag).been) ((nth ((U M).ways) O.ag).shown) ((nth ((U M).ways) O.ag).timer))) O.ag).shown) J.hold)) (List.range ((U M).ways).length)⟩::List.map bc (List.map aa.been ((U M).ways)))⟩) (cC (n:=200) (A':=[(3,an 3 0),(4,an 4 0),(6,an 6 0),(7,an 7 0),(8,ac 0)]) (L':=[(7,(bS false M)),(6,[ac 0,ah false,ao,ao,ao]),(4,[ah ((U M).ok),ae 0 0 (((U M).al).length),ae 1 0 (((U M).ak).length),ae 2 0 (((U M).ways).length)]),(3,(a8 false J))]) [5]) (congrArg (fun z=>(⟨(a4 200 [(3,an 3 0),(4,an 4 0),(6,an 6 0),(7,an 7 0),(8,ac 0)]),[(7,(bS false M)),(6,[ac 0,ah false,ao,ao,ao]),(4,[ah ((U M).ok),ae 0 0 (((U M).al).length),ae 1 0 (((U M).ak).length),ae 2 0 z]),(3,(a8 false J))],(⟨0,1,List.map aH ((U M).al)⟩::⟨0,2,List.map a1 ((U M).ak)⟩::⟨0,5,aT 3 ((((U M).ways).set O.ag.toNat (aa.mk 3 ((nth ((U M).ways) O.ag).gone) ((nth ((U M).ways) O.ag).been) ((nth ((U M).ways) O.ag).shown) ((nth ((U M).ways) O.ag).timer))).set O.ag.toNat (aa.mk ((nth (((U M).ways).set O.ag.toNat (aa.mk 3 ((nth ((U M).ways) O.ag).gone) ((nth ((U M).ways) O.ag).been) ((nth ((U M).ways) O.ag).shown) ((nth ((U M).ways) O.ag).timer))) O.ag).state) ((nth (((U M).ways).set O.ag.toNat (aa.mk 3 ((nth ((U M).ways) O.ag).gone) ((nth ((U M).ways) O.ag).been) ((nth ((U M).ways) O.ag).shown) ((nth ((U M).ways) O.ag).timer))) O.ag).gone) ((nth (((U M).ways).set O.ag.toNat (aa.mk 3 ((nth ((U M).ways) O.ag).gone) ((nth ((U M).ways) O.ag).been) ((nth ((U M).ways) O.ag).shown) ((nth ((U M).ways) O.ag).timer))) O.ag).been) ((nth (((U M).ways).set O.ag.toNat (aa.mk 3 ((nth ((U M).ways) O.ag).gone) ((nth ((U M).ways) O.ag).been) ((nth ((U M).ways) O.ag).shown) ((nth ((U M).ways) O.ag).timer))) O.ag).shown) J.hold)) (List.range ((U M).ways).length)⟩::List.map bc (List.map aa.been ((U M).ways)))⟩:St)) (show((U M).ways).length=((((U M).ways).set O.ag.toNat (aa.mk 3 ((nth ((U M).ways) O.ag).gone) ((nth ((U M).ways) O.ag).been) ((nth ((U M).ways) O.ag).shown) ((nth ((U M).ways) O.ag).timer))).set O.ag.toNat (aa.mk ((nth (((U M).ways).set O.ag.toNat (aa.mk 3 ((nth ((U M).ways) O.ag).gone) ((nth ((U M).ways) O.ag).been) ((nth ((U M).ways) O.ag).shown) ((nth ((U M).ways) O.ag).timer))) O.ag).state) ((nth (((U M).ways).set O.ag.toNat (aa.mk 3 ((nth ((U M).ways) O.ag).gone) ((nth ((U M).ways) O.ag).been) ((nth ((U M).ways) O.ag).shown) ((nth ((U M).ways) O.ag).timer))) O.ag).gone) ((nth (((U M).ways).set O.ag.toNat (aa.mk 3 ((nth ((U M).ways) O.ag).gone) ((nth ((U M).ways) O.ag).been) ((nth ((U M).ways) O.ag).shown) ((nth ((U M).ways) O.ag).timer))) O.ag).been) ((nth (((U M).ways).set O.ag.toNat (aa.mk 3 ((nth ((U M).ways) O.ag).gone) ((nth ((U M).ways) O.ag).been) ((nth ((U M).ways) O.ag).shown) ((nth ((U M).ways) O.ag).timer))) O.ag).shown) J.hold)).length by simp)))
     ·
      replace h:=h.2 kF
      refine bm [] 16 ?_
      obtain⟨lx,h⟩:=h
      refine rc 5 (some 66) [(65,ac O.ag),(64,an 5 1),(63,.agg (a8 false J)),(62,.ptr 2 0 (0+O.ag.toNat) 0)] [.agg (a8 false J),ac O.ag] (.agg [ac ((a2 J O.ag).state),ac ((a2 J O.ag).gone),ae ((List.map aa.been ((U M).ways)).length+3) 0 (((a2 J O.ag).been).length),ah ((a2 J O.ag).shown),ac ((a2 J O.ag).timer)]) (⟨0,1,List.map aH ((U M).al)⟩::⟨0,2,List.map a1 ((U M).ak)⟩::⟨0,5,aT 3 ((U M).ways) (List.range ((U M).ways).length)⟩::List.map bc ((List.map aa.been ((U M).ways))++[(a2 J O.ag).been])) (yL J O.ag lx) (av.cons (ck.agg (av.cons (.int _ _) (av.cons b7 (av.cons b7 (av.cons b7 (av.cons (.int _ _) av.nil)))))) (av.cons (ck.ee (.int _ _)) av.nil)) (oZ (fun _=>rfl) rfl) (pf (pe (fun _=>rfl) rfl) (by simp only[List.cons_append,List.map_nil,oA])) ?_ (er:=by simp[lB,mu,hV])
      obtain⟨ly,h⟩:=h
      refine jb 2 none [(67,.ptr 2 0 (0+O.ag.toNat) 0)] (aT 3 ((U M).ways) (List.range ((U M).ways).length)) O.ag 0 5 0 [ac ((a2 J O.ag).state),ac ((a2 J O.ag).gone),ae ((List.map aa.been ((U M).ways)).length+3) 0 (((a2 J O.ag).been).length),ah ((a2 J O.ag).shown),ac ((a2 J O.ag).timer)] 2 (aT 3 (((U M).ways).set O.ag.toNat (aa.mk ((a2 J O.ag).state) ((a2 J O.ag).gone) ((a2 J O.ag).been) ((a2 J O.ag).shown) ((a2 J O.ag).timer))) ((List.range ((U M).ways).length).set O.ag.toNat ((List.map aa.been ((U M).ways)).length))) (dq ly.1 ly.2) (tD ly.1) ?_
      refine df [] ?_
      refine bZ.normal ?_
      refine bZ.normal ?_
      exact fm.normal (((List.map aa.been ((U M).ways))++[(a2 J O.ag).been]),((U M).al),((U M).ak),((List.range ((U M).ways).length).set O.ag.toNat ((List.map aa.been ((U M).ways)).length)),0,(((U M).ways).set O.ag.toNat (aa.mk ((a2 J O.ag).state) ((a2 J O.ag).gone) ((a2 J O.ag).been) ((a2 J O.ag).shown) ((a2 J O.ag).timer)))) h (fK (s':=⟨(a4 200 [(3,an 3 0),(4,an 4 0),(6,an 6 0),(7,an 7 0),(8,ac 0)]),[(7,(bS false M)),(6,[ac 0,ah false,ao,ao,ao]),(4,[ah ((U M).ok),ae 0 0 (((U M).al).length),ae 1 0 (((U M).ak).length),ae 2 0 (((U M).ways).length)]),(3,(a8 false J))],(⟨0,1,List.map aH ((U M).al)⟩::⟨0,2,List.map a1 ((U M).ak)⟩::⟨0,5,aT 3 (((U M).ways).set O.ag.toNat (aa.mk ((a2 J O.ag).state) ((a2 J O.ag).gone) ((a2 J O.ag).been) ((a2 J O.ag).shown) ((a2 J O.ag).timer))) ((List.range ((U M).ways).length).set O.ag.toNat ((List.map aa.been ((U M).ways)).length))⟩::List.map bc ((List.map aa.been ((U M).ways))++[(a2 J O.ag).been]))⟩) (cC (n:=200) (A':=[(3,an 3 0),(4,an 4 0),(6,an 6 0),(7,an 7 0),(8,ac 0)]) (L':=[(7,(bS false M)),(6,[ac 0,ah false,ao,ao,ao]),(4,[ah ((U M).ok),ae 0 0 (((U M).al).length),ae 1 0 (((U M).ak).length),ae 2 0 (((U M).ways).length)]),(3,(a8 false J))]) [5]) (congrArg (fun z=>(⟨(a4 200 [(3,an 3 0),(4,an 4 0),(6,an 6 0),(7,an 7 0),(8,ac 0)]),[(7,(bS false M)),(6,[ac 0,ah false,ao,ao,ao]),(4,[ah ((U M).ok),ae 0 0 (((U M).al).length),ae 1 0 (((U M).ak).length),ae 2 0 z]),(3,(a8 false J))],(⟨0,1,List.map aH ((U M).al)⟩::⟨0,2,List.map a1 ((U M).ak)⟩::⟨0,5,aT 3 (((U M).ways).set O.ag.toNat (aa.mk ((a2 J O.ag).state) ((a2 J O.ag).gone) ((a2 J O.ag).been) ((a2 J O.ag).shown) ((a2 J O.ag).timer))) ((List.range ((U M).ways).length).set O.ag.toNat ((List.map aa.been ((U M).ways)).length))⟩::List.map bc ((List.map aa.been ((U M).ways))++[(a2 J O.ag).been]))⟩:St)) (show((U M).ways).length=(((U M).ways).set O.ag.toNat (aa.mk ((a2 J O.ag).state) ((a2 J O.ag).gone) ((a2 J O.ag).been) ((a2 J O.ag).shown) ((a2 J O.ag).timer))).length by simp)))
   ·
    replace h:=h.2 eV
    refine b0 [(105,ah (bif (O.op==3) then(O.op==3) else(O.op==4)))] [0,1,7] (True) ?_ (fun jW=> ?_)
    ·
     refine cQ [] 21 [(105,ah (O.op==3)),(106,ah (O.op==3))] [1] [0,1,7] ?_
     refine cN (fun m1=> ?_) (fun m1=> ?_)
     ·
      refine c6 ?_
      exact bR.normal trivial (cW (by simp only[eB,eV,m1]<;>kernel_rfl))
     ·
      refine bm [] 22 ?_
      exact bL [(105,ah (O.op==4)),(107,ah (O.op==4))] trivial (by simp only[eB,eV,m1]<;>kernel_rfl)
    unfold Ct at h
    refine cN (fun kh=> ?_) (fun kh=> ?_)
    ·
     replace h:=h.1 kh
     refine bm [] 23 ?_
     obtain⟨N_,h⟩:=h
     refine kH 8 (some 115) [(114,ah (O.op==3)),(113,ac O.op),(112,an 5 0),(111,ac O.ag),(110,an 5 1),(109,ae 0 0 (((U M).al).length)),(108,an 4 1)] 0 0 1 N_ ?_
     refine re 1 none [] aH ((U M).al) O.ag 0 1 0 [ah (O.op==3)] 0 (O.op==3) (by simpa using N_.2) ?_
     refine df [] ?_
     refine bZ.normal ?_
     exact fm.normal ((List.map aa.been ((U M).ways)),(((U M).al).set O.ag.toNat (O.op==3)),((U M).ak),(List.range ((U M).ways).length),0,((U M).ways)) h (fK (s':=⟨(a4 200 [(3,an 3 0),(4,an 4 0),(6,an 6 0),(7,an 7 0),(8,ac 0)]),[(7,(bS false M)),(6,[ac 0,ah false,ao,ao,ao]),(4,[ah ((U M).ok),ae 0 0 (((U M).al).length),ae 1 0 (((U M).ak).length),ae 2 0 (((U M).ways).length)]),(3,(a8 false J))],(⟨0,1,List.map aH (((U M).al).set O.ag.toNat (O.op==3))⟩::⟨0,2,List.map a1 ((U M).ak)⟩::⟨0,5,aT 3 ((U M).ways) (List.range ((U M).ways).length)⟩::List.map bc (List.map aa.been ((U M).ways)))⟩) (cC (n:=200) (A':=[(3,an 3 0),(4,an 4 0),(6,an 6 0),(7,an 7 0),(8,ac 0)]) (L':=[(7,(bS false M)),(6,[ac 0,ah false,ao,ao,ao]),(4,[ah ((U M).ok),ae 0 0 (((U M).al).length),ae 1 0 (((U M).ak).length),ae 2 0 (((U M).ways).length)]),(3,(a8 false J))]) [5]) (congrArg (fun z=>(⟨(a4 200 [(3,an 3 0),(4,an 4 0),(6,an 6 0),(7,an 7 0),(8,ac 0)]),[(7,(bS false M)),(6,[ac 0,ah false,ao,ao,ao]),(4,[ah ((U M).ok),ae 0 0 z,ae 1 0 (((U M).ak).length),ae 2 0 (((U M).ways).length)]),(3,(a8 false J))],(⟨0,1,List.map aH (((U M).al).set O.ag.toNat (O.op==3))⟩::⟨0,2,List.map a1 ((U M).ak)⟩::⟨0,5,aT 3 ((U M).ways) (List.range ((U M).ways).length)⟩::List.map bc (List.map aa.been ((U M).ways)))⟩:St)) (show((U M).al).length=(((U M).al).set O.ag.toNat (O.op==3)).length by simp)))
    ·
     replace h:=h.2 kh
     refine cQ [] 24 [(116,ah (O.op==5)),(117,ah (O.op==5))] [1] [0,1,7] ?_
     refine cN (fun ki=> ?_) (fun ki=> ?_)
     ·
      replace h:=h.1 ki
      refine bm [] 25 ?_
      obtain⟨Oa,h⟩:=h
      refine kH 7 (some 124) [(123,ac O.bx),(122,an 5 2),(121,ac O.ag),(120,an 5 1),(119,ae 1 0 (((U M).ak).length)),(118,an 4 2)] 1 0 2 Oa ?_
      refine re 2 none [(125,.ptr 1 0 (0+O.ag.toNat) 1)] a1 ((U M).ak) O.ag 1 1 0 [ac O.bx] 1 (aN.mk ((nth ((U M).ak) O.ag).want) O.bx) (by simpa using Oa.2) ?_
      refine df [] ?_
      refine bZ.normal ?_
      exact fm.normal ((List.map aa.been ((U M).ways)),((U M).al),(((U M).ak).set O.ag.toNat (aN.mk ((nth ((U M).ak) O.ag).want) O.bx)),(List.range ((U M).ways).length),0,((U M).ways)) h (fK (s':=⟨(a4 200 [(3,an 3 0),(4,an 4 0),(6,an 6 0),(7,an 7 0),(8,ac 0)]),[(7,(bS false M)),(6,[ac 0,ah false,ao,ao,ao]),(4,[ah ((U M).ok),ae 0 0 (((U M).al).length),ae 1 0 (((U M).ak).length),ae 2 0 (((U M).ways).length)]),(3,(a8 false J))],(⟨0,1,List.map aH ((U M).al)⟩::⟨0,2,List.map a1 (((U M).ak).set O.ag.toNat (aN.mk ((nth ((U M).ak) O.ag).want) O.bx))⟩::⟨0,5,aT 3 ((U M).ways) (List.range ((U M).ways).length)⟩::List.map bc (List.map aa.been ((U M).ways)))⟩) (cC (n:=200) (A':=[(3,an 3 0),(4,an 4 0),(6,an 6 0),(7,an 7 0),(8,ac 0)]) (L':=[(7,(bS false M)),(6,[ac 0,ah false,ao,ao,ao]),(4,[ah ((U M).ok),ae 0 0 (((U M).al).length),ae 1 0 (((U M).ak).length),ae 2 0 (((U M).ways).length)]),(3,(a8 false J))]) [5]) (congrArg (fun z=>(⟨(a4 200 [(3,an 3 0),(4,an 4 0),(6,an 6 0),(7,an 7 0),(8,ac 0)]),[(7,(bS false M)),(6,[ac 0,ah false,ao,ao,ao]),(4,[ah ((U M).ok),ae 0 0 (((U M).al).length),ae 1 0 z,ae 2 0 (((U M).ways).length)]),(3,(a8 false J))],(⟨0,1,List.map aH ((U M).al)⟩::⟨0,2,List.map a1 (((U M).ak).set O.ag.toNat (aN.mk ((nth ((U M).ak) O.ag).want) O.bx))⟩::⟨0,5,aT 3 ((U M).ways) (List.range ((U M).ways).length)⟩::List.map bc (List.map aa.been ((U M).ways)))⟩:St)) (show((U M).ak).length=(((U M).ak).set O.ag.toNat (aN.mk ((nth ((U M).ak) O.ag).want) O.bx)).length by simp)))
     ·
      replace h:=h.2 ki
      refine cQ [] 26 [(126,ah (O.op==6)),(127,ah (O.op==6))] [1] [0,1,7] ?_
      unfold Cs at h
      refine cN (fun iZ=> ?_) (fun iZ=> ?_)
      ·
       replace h:=h.1 iZ
       refine dM 4 ?_
       obtain⟨o9,h⟩:=h
       refine b0 [(136,ah (decide (((fQ J (Frame.mk ((U M).ok) ((U M).al) ((U M).ak) (view ((U M).ways) (List.range ((U M).ways).length) (List.map aa.been ((U M).ways)))) O.ag).length:Int)>0)))] [0,2,6] ((fQ J (Frame.mk ((U M).ok) ((U M).al) ((U M).ak) (view ((U M).ways) (List.range ((U M).ways).length) (List.map aa.been ((U M).ways)))) O.ag).length≤4611686018427387904) ?_ (fun uL=> ?_)
       ·
        replace h:=o9
        refine bm [] 28 ?_
        obtain⟨nu,ms,o4,sy⟩:=h
        refine ic 5 (some 141) [(140,ac O.ag),(139,an 5 1),(138,.agg [ah ((U M).ok),ae 0 0 (((U M).al).length),ae 1 0 (((U M).ak).length),ae 2 0 (((U M).ways).length)]),(137,.agg (a8 false J))] [.agg (a8 false J),.agg [ah ((U M).ok),ae 0 0 (((U M).al).length),ae 1 0 (((U M).ak).length),ae 2 0 (((U M).ways).length)],ac O.ag] (JN J (Frame.mk ((U M).ok) ((U M).al) ((U M).ak) (view ((U M).ways) (List.range ((U M).ways).length) (List.map aa.been ((U M).ways)))) O.ag sy) (av.cons (ck.agg (av.cons (.int _ _) (av.cons b7 (av.cons b7 (av.cons b7 (av.cons (.int _ _) av.nil)))))) (av.cons (ck.agg (av.cons (.bool _) (av.cons (kJ (sz:=1) (by simp) rfl (qL) nu) (av.cons (kJ (sz:=2) (by simp) rfl (sb) ms) (av.cons (rf (s:=3) (ws:=(U M).ways) (ids:=(List.range ((U M).ways).length)) (bs:=(List.map aa.been ((U M).ways))) (by simp) rfl (fun id k h=>by simpa using h) o4.1 o4.2.1 o4.2.2) av.nil))))) (av.cons (ck.ee (.int _ _)) av.nil))) ?_
        refine sLen 1 (some 142) [] bW (fQ J (Frame.mk ((U M).ok) ((U M).al) ((U M).ak) (view ((U M).ways) (List.range ((U M).ways).length) (List.map aa.been ((U M).ways)))) O.ag) (fun o5=> ?_)
        exact bL [(136,ah (decide (((fQ J (Frame.mk ((U M).ok) ((U M).al) ((U M).ak) (view ((U M).ways) (List.range ((U M).ways).length) (List.map aa.been ((U M).ways)))) O.ag).length:Int)>0))),(143,ah (decide (((fQ J (Frame.mk ((U M).ok) ((U M).al) ((U M).ak) (view ((U M).ways) (List.range ((U M).ways).length) (List.map aa.been ((U M).ways)))) O.ag).length:Int)>0)))] o5
       replace h:=h uL
       unfold CC at h
       refine cN (fun p1=> ?_) (fun p1=> ?_)
       ·
        replace h:=h.1 p1
        refine bm [] 29 ?_
        refine df [(8,ac 2)] ?_
        refine bZ.normal ?_
        refine bZ.normal ?_
        exact fm.normal ((List.map aa.been ((U M).ways)),((U M).al),((U M).ak),(List.range ((U M).ways).length),2,((U M).ways)) h (cC [5])
       ·
        replace h:=h.2 p1
        obtain⟨o8,h⟩:=h
        refine b0 [(144,ah (nth ((U M).al) (nth J.bh O.ag)))] [0,1,6] (True) ?_ (fun o6=> ?_)
        ·
         replace h:=o8
         refine lW [] 30 TJ TK [] ?_
         obtain⟨nv,h⟩:=h
         refine p_ 7 (some 151) [(150,ac O.ag),(149,an 5 1),(148,bo bW J.bh),(147,an 3 1),(146,ae 0 0 (((U M).al).length)),(145,an 4 1)] bW J.bh 1 nv ?_
         have Od:=h
         refine sR 2 (some 153) [(152,ac (nth J.bh O.ag))] 0 0 1 Od ?_
         refine u5 1 (some 154) [] aH ((U M).al) (nth J.bh O.ag) 4 0 0 (ah (nth ((U M).al) (nth J.bh O.ag))) (by simpa using Od.2) ?_
         exact jY [(144,ah (nth ((U M).al) (nth J.bh O.ag)))] trivial
        unfold CB at h
        refine cN (fun o7=> ?_) (fun o7=> ?_)
        ·
         replace h:=h.1 o7
         refine bm [] 31 ?_
         refine df [(8,ac 3)] ?_
         refine bZ.normal ?_
         refine bZ.normal ?_
         exact fm.normal ((List.map aa.been ((U M).ways)),((U M).al),((U M).ak),(List.range ((U M).ways).length),3,((U M).ways)) h (cC [5])
        ·
         replace h:=h.2 o7
         refine bm [] 27 ?_
         obtain⟨Ob,h⟩:=h
         refine kH 7 (some 134) [(133,ac O.bx),(132,an 5 2),(131,ac O.ag),(130,an 5 1),(129,ae 1 0 (((U M).ak).length)),(128,an 4 2)] 1 0 2 Ob ?_
         refine re 2 none [(135,.ptr 1 0 (0+O.ag.toNat) 0)] a1 ((U M).ak) O.ag 0 1 0 [ac O.bx] 1 (aN.mk O.bx ((nth ((U M).ak) O.ag).aZ)) (by simpa using Ob.2) ?_
         refine df [] ?_
         refine bZ.normal ?_
         refine bZ.normal ?_
         exact fm.normal ((List.map aa.been ((U M).ways)),((U M).al),(((U M).ak).set O.ag.toNat (aN.mk O.bx ((nth ((U M).ak) O.ag).aZ))),(List.range ((U M).ways).length),0,((U M).ways)) h (fK (s':=⟨(a4 200 [(3,an 3 0),(4,an 4 0),(6,an 6 0),(7,an 7 0),(8,ac 0)]),[(7,(bS false M)),(6,[ac 0,ah false,ao,ao,ao]),(4,[ah ((U M).ok),ae 0 0 (((U M).al).length),ae 1 0 (((U M).ak).length),ae 2 0 (((U M).ways).length)]),(3,(a8 false J))],(⟨0,1,List.map aH ((U M).al)⟩::⟨0,2,List.map a1 (((U M).ak).set O.ag.toNat (aN.mk O.bx ((nth ((U M).ak) O.ag).aZ)))⟩::⟨0,5,aT 3 ((U M).ways) (List.range ((U M).ways).length)⟩::List.map bc (List.map aa.been ((U M).ways)))⟩) (cC (n:=200) (A':=[(3,an 3 0),(4,an 4 0),(6,an 6 0),(7,an 7 0),(8,ac 0)]) (L':=[(7,(bS false M)),(6,[ac 0,ah false,ao,ao,ao]),(4,[ah ((U M).ok),ae 0 0 (((U M).al).length),ae 1 0 (((U M).ak).length),ae 2 0 (((U M).ways).length)]),(3,(a8 false J))]) [5]) (congrArg (fun z=>(⟨(a4 200 [(3,an 3 0),(4,an 4 0),(6,an 6 0),(7,an 7 0),(8,ac 0)]),[(7,(bS false M)),(6,[ac 0,ah false,ao,ao,ao]),(4,[ah ((U M).ok),ae 0 0 (((U M).al).length),ae 1 0 z,ae 2 0 (((U M).ways).length)]),(3,(a8 false J))],(⟨0,1,List.map aH ((U M).al)⟩::⟨0,2,List.map a1 (((U M).ak).set O.ag.toNat (aN.mk O.bx ((nth ((U M).ak) O.ag).aZ)))⟩::⟨0,5,aT 3 ((U M).ways) (List.range ((U M).ways).length)⟩::List.map bc (List.map aa.been ((U M).ways)))⟩:St)) (show((U M).ak).length=(((U M).ak).set O.ag.toNat (aN.mk O.bx ((nth ((U M).ak) O.ag).aZ))).length by simp)))
      ·
       replace h:=h.2 iZ
       refine cQ [] 32 [(155,ah (O.op==7)),(156,ah (O.op==7))] [1] [0,2,3,1,2] ?_
       refine cN (fun lc=> ?_) (fun lc=> ?_)
       ·
        replace h:=h.1 lc
        refine cQ [] 33 [(160,ac 0),(159,ac (((U M).ways).length:Int)),(158,ae 2 0 (((U M).ways).length)),(157,an 4 3)] [2] [0,1,5] ?_
        unfold Cr at h
        refine dM 5 ?_
        obtain⟨wK,h⟩:=h
        refine hr (fun(v:List (List Bool)×List Nat×Int×List aa)=>(⟨(a4 200 [(3,an 3 0),(4,an 4 0),(6,an 6 0),(7,an 7 0),(8,ac 0),(159,ac (((U M).ways).length:Int)),(160,ac (v.2.2.1))]),[(7,(bS false M)),(6,[ac 0,ah false,ao,ao,ao]),(4,[ah ((U M).ok),ae 0 0 (((U M).al).length),ae 1 0 (((U M).ak).length),ae 2 0 ((v.2.2.2).length)]),(3,(a8 false J))],(⟨0,1,List.map aH ((U M).al)⟩::⟨0,2,List.map a1 ((U M).ak)⟩::⟨0,5,aT 3 (v.2.2.2) (v.2.1)⟩::List.map bc (v.1))⟩:St)) (fun(v:List (List Bool)×List Nat×Int×List aa)=>aW (v.1) (v.2.1) (v.2.2.1) (v.2.2.2)) (fun(v:List (List Bool)×List Nat×Int×List aa)=>aX (v.1) (v.2.1) (v.2.2.1) (v.2.2.2)) ((List.map aa.been ((U M).ways)),(List.range ((U M).ways).length),0,(U M).ways) (cC [5]) wK (fun v aM=> ?_)
        obtain⟨b5,aE,a5,ws2⟩:=v
        replace h:=h b5 aE a5 ws2 aM
        dsimp only
        refine cQ [] 34 [(161,ah (decide (a5<(((U M).ways).length:Int))))] [1] [7] ?_
        obtain⟨wJ,h⟩:=h
        refine b0 [] [0,1,7] ((decide (a5<(((U M).ways).length:Int)))=true) ?_ (fun p2=> ?_)
        ·
         replace h:=wJ
         refine cN (fun o_=> ?_) (fun o_=> ?_)
         ·
          refine c6 ?_
          exact bR.normal (by simp only[eB,eV,kh,ki,iZ,lc,o_]<;>rfl) cW
         ·
          replace h:=h o_
          refine gG 5 ?_
          refine bR.exit ?_
          refine cU.exit ?_
          refine bZ.here ?_
          refine bZ.normal ?_
          exact fm.normal (b5,((U M).al),((U M).ak),aE,0,ws2) h (cC [])
        replace h:=h p2
        unfold Cq at h
        obtain⟨wI,h⟩:=h
        obtain⟨oi,p3⟩: ∃w:List aa,(bif (((nth ws2 a5).state)==3) then(bif (((nth (ws2.set a5.toNat (aa.mk ((nth ws2 a5).state) ((nth ws2 a5).gone) ((nth ws2 a5).been) ((nth ws2 a5).shown) (IntKind.i64.wrap (((nth ws2 a5).timer) - 1)))) a5).timer)==0) then((ws2.set a5.toNat (aa.mk ((nth ws2 a5).state) ((nth ws2 a5).gone) ((nth ws2 a5).been) ((nth ws2 a5).shown) (IntKind.i64.wrap (((nth ws2 a5).timer) - 1)))).set a5.toNat (aa.mk ((a2 J a5).state) ((a2 J a5).gone) ((a2 J a5).been) ((a2 J a5).shown) ((a2 J a5).timer))) else(ws2.set a5.toNat (aa.mk ((nth ws2 a5).state) ((nth ws2 a5).gone) ((nth ws2 a5).been) ((nth ws2 a5).shown) (IntKind.i64.wrap (((nth ws2 a5).timer) - 1))))) else ws2)=w:=⟨_,rfl⟩
        obtain⟨qb,oe⟩: ∃w:List Nat,(bif (((nth ws2 a5).state)==3) then(bif (((nth (ws2.set a5.toNat (aa.mk ((nth ws2 a5).state) ((nth ws2 a5).gone) ((nth ws2 a5).been) ((nth ws2 a5).shown) (IntKind.i64.wrap (((nth ws2 a5).timer) - 1)))) a5).timer)==0) then(aE.set a5.toNat b5.length) else aE) else aE)=w:=⟨_,rfl⟩
        obtain⟨qc,sB⟩: ∃w:List (List Bool),(bif (((nth ws2 a5).state)==3) then(bif (((nth (ws2.set a5.toNat (aa.mk ((nth ws2 a5).state) ((nth ws2 a5).gone) ((nth ws2 a5).been) ((nth ws2 a5).shown) (IntKind.i64.wrap (((nth ws2 a5).timer) - 1)))) a5).timer)==0) then(b5++[(a2 J a5).been]) else b5) else b5)=w:=⟨_,rfl⟩
        refine dD [] [7] id (fun _=>(⟨0,1,List.map aH ((U M).al)⟩::⟨0,2,List.map a1 ((U M).ak)⟩::⟨0,5,aT 3 oi qb⟩::List.map bc qc)) (True) ?_ (fun wN=> ?_)
        ·
         replace h:=wI
         refine dM 6 ?_
         refine cQ [] 35 [(12,ac a5),(162,ac a5)] [1] [7] ?_
         obtain⟨wH,h⟩:=h
         refine b0 [(13,.ptr 2 0 (0+a5.toNat) 0)] [8] (True) ?_ (fun D8=> ?_)
         ·
          replace h:=wH
          refine bm [] 36 ?_
          have Zt:=h
          refine kH 4 (some 166) [(165,ac a5),(164,ae 2 0 ws2.length),(163,an 4 3)] 2 0 5 Zt ?_
          exact bL [(13,.ptr 2 0 (0+a5.toNat) 0)] trivial
         obtain⟨wG,h⟩:=h
         refine b0 [(171,ah (((nth ws2 a5).state)==3))] [9] (True) ?_ (fun wO=> ?_)
         ·
          replace h:=wG
          refine bm [] 37 ?_
          have q8:=h
          refine hU 4 (some 170) [(169,.ptr 2 0 (0+a5.toNat) 0),(168,.ptr 2 0 (0+a5.toNat) 0),(167,.ptr 2 0 (0+a5.toNat) 0)] (aT 3 ws2 aE) a5 3 0 0 (ac ((nth ws2 a5).state)) (dq q8.1 q8.2) ?_
          exact bL [(171,ah (((nth ws2 a5).state)==3))] trivial
         refine cN (fun p4=> ?_) (fun p4=> ?_)
         ·
          replace h:=h p4
          obtain⟨uJ,h⟩:=h
          refine dD [] [0,1,9] id (fun H=>dC 2 ⟨0,5,aT 3 (ws2.set a5.toNat (aa.mk ((nth ws2 a5).state) ((nth ws2 a5).gone) ((nth ws2 a5).been) ((nth ws2 a5).shown) (IntKind.i64.wrap (((nth ws2 a5).timer) - 1)))) aE⟩ H) (True) ?_ (fun LI=> ?_)
          ·
           replace h:=uJ
           refine bm [] 38 ?_
           obtain⟨uN,h⟩:=h
           refine hU 4 (some 175) [(174,.ptr 2 0 (0+a5.toNat) 4),(173,.ptr 2 0 (0+a5.toNat) 0),(172,.ptr 2 0 (0+a5.toNat) 0)] (aT 3 ws2 aE) a5 3 4 0 (ac ((nth ws2 a5).timer)) (dq uN.1 uN.2) ?_
           have nw:=h
           refine jb 4 none [(178,.ptr 2 0 (0+a5.toNat) 4),(177,.ptr 2 0 (0+a5.toNat) 0),(176,ac (IntKind.i64.wrap (((nth ws2 a5).timer) - 1)))] (aT 3 ws2 aE) a5 4 1 0 [ac (IntKind.i64.wrap (((nth ws2 a5).timer) - 1))] 2 (aT 3 (ws2.set a5.toNat (aa.mk ((nth ws2 a5).state) ((nth ws2 a5).gone) ((nth ws2 a5).been) ((nth ws2 a5).shown) (IntKind.i64.wrap (((nth ws2 a5).timer) - 1)))) aE) (dq nw.1 nw.2) (jk nw.1 nw.2) ?_
           exact bL [] trivial
          unfold CE at h
          obtain⟨uI,h⟩:=h
          refine b0 [(183,ah (((nth (ws2.set a5.toNat (aa.mk ((nth ws2 a5).state) ((nth ws2 a5).gone) ((nth ws2 a5).been) ((nth ws2 a5).shown) (IntKind.i64.wrap (((nth ws2 a5).timer) - 1)))) a5).timer)==0))] [9] (True) ?_ (fun wE=> ?_)
          ·
           replace h:=uI
           refine bm [] 39 ?_
           have uH:=h
           refine hU 4 (some 182) [(181,.ptr 2 0 (0+a5.toNat) 4),(180,.ptr 2 0 (0+a5.toNat) 0),(179,.ptr 2 0 (0+a5.toNat) 0)] (aT 3 (ws2.set a5.toNat (aa.mk ((nth ws2 a5).state) ((nth ws2 a5).gone) ((nth ws2 a5).been) ((nth ws2 a5).shown) (IntKind.i64.wrap (((nth ws2 a5).timer) - 1)))) aE) a5 3 4 0 (ac ((nth (ws2.set a5.toNat (aa.mk ((nth ws2 a5).state) ((nth ws2 a5).gone) ((nth ws2 a5).been) ((nth ws2 a5).shown) (IntKind.i64.wrap (((nth ws2 a5).timer) - 1)))) a5).timer)) (dq uH.1 uH.2) ?_
           exact bL [(183,ah (((nth (ws2.set a5.toNat (aa.mk ((nth ws2 a5).state) ((nth ws2 a5).gone) ((nth ws2 a5).been) ((nth ws2 a5).shown) (IntKind.i64.wrap (((nth ws2 a5).timer) - 1)))) a5).timer)==0))] trivial
          unfold CD at h
          refine cN (fun p0=> ?_) (fun p0=> ?_)
          ·
           replace h:=h p0
           refine bm [] 40 ?_
           obtain⟨wF,h⟩:=h
           refine rc 4 (some 187) [(186,ac a5),(185,.agg (a8 false J)),(184,.ptr 2 0 (0+a5.toNat) 0)] [.agg (a8 false J),ac a5] (.agg [ac ((a2 J a5).state),ac ((a2 J a5).gone),ae (b5.length+3) 0 (((a2 J a5).been).length),ah ((a2 J a5).shown),ac ((a2 J a5).timer)]) (⟨0,1,List.map aH ((U M).al)⟩::⟨0,2,List.map a1 ((U M).ak)⟩::⟨0,5,aT 3 (ws2.set a5.toNat (aa.mk ((nth ws2 a5).state) ((nth ws2 a5).gone) ((nth ws2 a5).been) ((nth ws2 a5).shown) (IntKind.i64.wrap (((nth ws2 a5).timer) - 1)))) aE⟩::List.map bc (b5++[(a2 J a5).been])) (yL J a5 wF) (av.cons (ck.agg (av.cons (.int _ _) (av.cons b7 (av.cons b7 (av.cons b7 (av.cons (.int _ _) av.nil)))))) (av.cons (ck.ee (.int _ _)) av.nil)) (oZ (fun _=>rfl) rfl) (pf (pe (fun _=>rfl) rfl) (by simp only[List.cons_append,List.map_nil,oA])) ?_ (er:=by simp[lB,mu,hV])
           have sx:=h
           refine jb 2 none [(188,.ptr 2 0 (0+a5.toNat) 0)] (aT 3 (ws2.set a5.toNat (aa.mk ((nth ws2 a5).state) ((nth ws2 a5).gone) ((nth ws2 a5).been) ((nth ws2 a5).shown) (IntKind.i64.wrap (((nth ws2 a5).timer) - 1)))) aE) a5 0 5 0 [ac ((a2 J a5).state),ac ((a2 J a5).gone),ae (b5.length+3) 0 (((a2 J a5).been).length),ah ((a2 J a5).shown),ac ((a2 J a5).timer)] 2 (aT 3 ((ws2.set a5.toNat (aa.mk ((nth ws2 a5).state) ((nth ws2 a5).gone) ((nth ws2 a5).been) ((nth ws2 a5).shown) (IntKind.i64.wrap (((nth ws2 a5).timer) - 1)))).set a5.toNat (aa.mk ((a2 J a5).state) ((a2 J a5).gone) ((a2 J a5).been) ((a2 J a5).shown) ((a2 J a5).timer))) (aE.set a5.toNat b5.length)) (dq sx.1 sx.2) (tD sx.1) ?_
           refine df [] ?_
           refine bZ.normal ?_
           exact bR.normal trivial (by simp only[←p3,←oe,←sB,eB,eV,kh,ki,iZ,lc,p2,p4,p0,cond_true,cond_false];exact cW)
          ·
           refine c6 ?_
           refine bZ.normal ?_
           exact bR.normal trivial (by simp only[←p3,←oe,←sB,eB,eV,kh,ki,iZ,lc,p2,p4,p0,cond_true,cond_false];exact cW)
         ·
          refine c6 ?_
          refine bZ.normal ?_
          exact bR.normal trivial (by simp only[←p3,←oe,←sB,eB,eV,kh,ki,iZ,lc,p2,p4,cond_true,cond_false];exact cW)
        replace h:=h oi p3
        have Sm:oi.length=ws2.length:=by rw[←p3];repeat' apply wg;all_goals simp
        replace h:=h qb oe
        replace h:=h qc sB
        refine bm [] 41 ?_
        refine df [(160,ac (IntKind.i64.wrap (a5+1))),(189,ac (IntKind.i64.wrap (a5+1)))] ?_
        exact cU.again (qc,qb,(IntKind.i64.wrap (a5+1)),oi) h (fK (s':=⟨(a4 200 [(3,an 3 0),(4,an 4 0),(6,an 6 0),(7,an 7 0),(8,ac 0),(159,ac (((U M).ways).length:Int)),(160,ac (IntKind.i64.wrap (a5+1)))]),[(7,(bS false M)),(6,[ac 0,ah false,ao,ao,ao]),(4,[ah ((U M).ok),ae 0 0 (((U M).al).length),ae 1 0 (((U M).ak).length),ae 2 0 ws2.length]),(3,(a8 false J))],(⟨0,1,List.map aH ((U M).al)⟩::⟨0,2,List.map a1 ((U M).ak)⟩::⟨0,5,aT 3 oi qb⟩::List.map bc qc)⟩) (cC (n:=200) (A':=[(3,an 3 0),(4,an 4 0),(6,an 6 0),(7,an 7 0),(8,ac 0),(159,ac (((U M).ways).length:Int)),(160,ac (IntKind.i64.wrap (a5+1)))]) (L':=[(7,(bS false M)),(6,[ac 0,ah false,ao,ao,ao]),(4,[ah ((U M).ok),ae 0 0 (((U M).al).length),ae 1 0 (((U M).ak).length),ae 2 0 ws2.length]),(3,(a8 false J))]) []) (congrArg (fun z=>(⟨(a4 200 [(3,an 3 0),(4,an 4 0),(6,an 6 0),(7,an 7 0),(8,ac 0),(159,ac (((U M).ways).length:Int)),(160,ac (IntKind.i64.wrap (a5+1)))]),[(7,(bS false M)),(6,[ac 0,ah false,ao,ao,ao]),(4,[ah ((U M).ok),ae 0 0 (((U M).al).length),ae 1 0 (((U M).ak).length),ae 2 0 z]),(3,(a8 false J))],(⟨0,1,List.map aH ((U M).al)⟩::⟨0,2,List.map a1 ((U M).ak)⟩::⟨0,5,aT 3 oi qb⟩::List.map bc qc)⟩:St)) (show ws2.length=oi.length by simp[Sm])))
       ·
        replace h:=h.2 lc
        refine c6 ?_
        refine bZ.normal ?_
        exact fm.normal ((List.map aa.been ((U M).ways)),((U M).al),((U M).ak),(List.range ((U M).ways).length),0,((U M).ways)) h (cC [5])
 obtain⟨b5,aA,aL,aE,bP,ws2⟩:=v
 replace h:=h b5 aA aL aE bP ws2 cu
 dsimp only
 unfold Cw at h
 obtain⟨We,h⟩:=h
 refine b0 [] [3] ((!(bP !=0))=true) ?_ (fun wL=> ?_)
 ·
  replace h:=We
  refine cQ [] 42 [(191,ah (bP !=0)),(190,ac bP)] [1] [5] ?_
  refine cN (fun wM=> ?_) (fun wM=> ?_)
  ·
   replace h:=h wM
   obtain⟨D6,h⟩:=h
   refine dD [] [0,3,1] (fun L=>er 1 [ac bP,ah ((U M).ok),eJ aH ((U M).al),eJ a1 ((U M).ak),eJ (cd false) ((U M).ways)] L) id (True) ?_ (fun LD=> ?_)
   ·
    replace h:=D6
    refine bm [] 43 ?_
    have D5:=h
    refine ic 3 (some 194) [(193,.agg (bS false M)),(192,ac bP)] [.agg (bS false M)] (JB M D5) (av.cons (ck.agg (av.cons (.bool _) (av.cons b7 (av.cons b7 (av.cons b7 av.nil))))) av.nil) ?_
    exact bL [(195,.agg [ac bP,ah ((U M).ok),eJ aH ((U M).al),eJ a1 ((U M).ak),eJ (cd false) ((U M).ways)])] trivial
   exact e8 (bR.ret (iz (.agg [ac bP,ah ((U M).ok),eJ aH ((U M).al),eJ a1 ((U M).ak),eJ (cd false) ((U M).ways)]) (gd.agg (av.cons (rh h.1) (av.cons (iN (congrArg (fun q=>q.ok) h.2)) (av.cons (p8 (congrArg (fun q=>q.al) h.2)) (av.cons (p8 (congrArg (fun q=>q.ak) h.2)) (av.cons (p8 (congrArg (fun q=>q.ways) h.2)) av.nil))))))))
  ·
   refine c6 ?_
   exact bR.normal (by simp only[wM]<;>rfl) cW
 replace h:=h wL
 obtain⟨Wd,h⟩:=h
 refine dD [] [0,2,1] (fun L=>er 1 [ac 0,ah ((dQ J (Frame.mk ((U M).ok) aA aL (view ws2 aE b5))).ok),eJ aH ((dQ J (Frame.mk ((U M).ok) aA aL (view ws2 aE b5))).al),eJ a1 ((dQ J (Frame.mk ((U M).ok) aA aL (view ws2 aE b5))).ak),eJ (cd false) ((dQ J (Frame.mk ((U M).ok) aA aL (view ws2 aE b5))).ways)] L) id (True) ?_ (fun LF=> ?_)
 ·
  replace h:=Wd
  refine bm [] 44 ?_
  obtain⟨Wa,Wb,D7,Wc⟩:=h
  refine ic 3 (some 198) [(197,.agg [ah ((U M).ok),ae 0 0 aA.length,ae 1 0 aL.length,ae 2 0 ws2.length]),(196,.agg (a8 false J))] [.agg (a8 false J),.agg [ah ((U M).ok),ae 0 0 aA.length,ae 1 0 aL.length,ae 2 0 ws2.length]] (Ue J (Frame.mk ((U M).ok) aA aL (view ws2 aE b5)) Wc) (av.cons (ck.agg (av.cons (.int _ _) (av.cons b7 (av.cons b7 (av.cons b7 (av.cons (.int _ _) av.nil)))))) (av.cons (ck.agg (av.cons (.bool _) (av.cons (kJ (sz:=1) (by simp) rfl (qL) Wa) (av.cons (kJ (sz:=2) (by simp) rfl (sb) Wb) (av.cons (rf (s:=3) (ws:=ws2) (ids:=aE) (bs:=b5) (by simp) rfl (fun id k h=>by simpa using h) D7.1 D7.2.1 D7.2.2) av.nil))))) av.nil)) ?_
  exact bL [(199,.agg [ac 0,ah ((dQ J (Frame.mk ((U M).ok) aA aL (view ws2 aE b5))).ok),eJ aH ((dQ J (Frame.mk ((U M).ok) aA aL (view ws2 aE b5))).al),eJ a1 ((dQ J (Frame.mk ((U M).ok) aA aL (view ws2 aE b5))).ak),eJ (cd false) ((dQ J (Frame.mk ((U M).ok) aA aL (view ws2 aE b5))).ways)])] trivial
 exact e8 (iz (.agg [ac 0,ah ((dQ J (Frame.mk ((U M).ok) aA aL (view ws2 aE b5))).ok),eJ aH ((dQ J (Frame.mk ((U M).ok) aA aL (view ws2 aE b5))).al),eJ a1 ((dQ J (Frame.mk ((U M).ok) aA aL (view ws2 aE b5))).ak),eJ (cd false) ((dQ J (Frame.mk ((U M).ok) aA aL (view ws2 aE b5))).ways)]) (gd.agg (av.cons (rh h.1) (av.cons (iN (congrArg (fun q=>q.ok) h.2)) (av.cons (p8 (congrArg (fun q=>q.al) h.2)) (av.cons (p8 (congrArg (fun q=>q.ak) h.2)) (av.cons (p8 (congrArg (fun q=>q.ways) h.2)) av.nil)))))))
theorem TD (J:aB) (M:Frame) (O:Event) (aF:AH J M O):b3 Try.prog 63 [.agg (a8 false J),.agg (bS false M),.agg (eE O)] (.agg (fT true (gC J M O))):=TL J M O (gC J M O) (fun x v=>cg (bq (nth J.ways O.ag)).length (fun _=>false) v∧x=iL ((bq (nth J.ways O.ag)).take v.toNat) M.ak) (fun _ v=>cn (bq (nth J.ways O.ag)).length v) (fun bs is v ws=>cg M.ways.length (fun _=>false) v∧fL ws is bs∧view ws is bs=g8 J v.toNat M.ways) (fun _ _ v _=>cn M.ways.length v) (fun bs o q is c ws=>fL ws is bs∧c=eM J M O∧(c=0→Frame.mk M.ok o q (view ws is bs)=ht J M O)) (by
 unfold Co
 obtain⟨hf,he⟩:=aF
 have hs:=tu hf
 have k7:=hs
 obtain⟨vc,m6,w_,sZ⟩:=k7
 have cA:=hf.in
 have da:=hf.fr
 have aI:=da.ways
 have oM:=da.al
 have lQ:=da.ak
 have vX:=cA.ways
 have pN:=cA.cK
 have tW:=cA.bb
 obtain⟨eS,fY,fg⟩:=rK M.ways
 have kv:fL M.ways (List.range M.ways.length) (M.ways.map aa.been):=⟨eS,fY,fun b hb=>by
  obtain⟨h,bV,rfl⟩:=List.mem_map.1 hb;exact sZ h bV⟩
 have qD:Frame.mk ((U M).ok) ((U M).al) ((U M).ak) (view ((U M).ways) (List.range ((U M).ways).length) (List.map aa.been ((U M).ways)))=M:=by
  show Frame.mk M.ok M.al M.ak (view M.ways (List.range M.ways.length) (List.map aa.been M.ways))=M
  rw[fg]
 have jo:((U M).ways).length=(List.range ((U M).ways).length).length:=by rw[List.length_range]
 have hA:((U M).al).length≤4611686018427387904∧((U M).ak).length≤4611686018427387904∧(iQ ((U M).ways) (List.range ((U M).ways).length) (List.map aa.been ((U M).ways))∧((U M).ways).length≤4611686018427387904∧(∀x∈(List.map aa.been ((U M).ways)),List.length x≤4611686018427387904)):=
  ⟨by show M.al.length≤_;omega,by show M.ak.length≤_;omega,eS,by show M.ways.length≤_;omega,fun x hx=>by have:=kv.len x hx;omega⟩
 have k6: ∀c:Int,c=eM J M O→c≠0→fL M.ways (List.range M.ways.length) (M.ways.map aa.been)∧c=eM J M O∧(c=0→Frame.mk M.ok M.al M.ak (view M.ways (List.range M.ways.length) (M.ways.map aa.been))=ht J M O):=fun c hc cO=>⟨kv,hc,fun h=>absurd h cO⟩
 refine⟨hs,?_,fun bs o q is c ws cu=> ?_⟩
 ·unfold Cv
  refine⟨fun h1=> ?_,fun h1=> ?_⟩
  ·have h1:O.op=1:=by simpa using h1
   have bu:=pw he (.inl h1)
   have pE:eM J M O=d_ J M O.ag:=by unfold eM;rw[if_pos h1]
   unfold Cy
   rw[qD]
   refine⟨⟨hA.1,hA.2.1,hA.2.2,hf,bu.1,bu.2⟩,fun aQ=> ?_,fun aQ=> ?_⟩
   ·have aQ:d_ J M O.ag=0:=by simpa using aQ
    have bg:O.ag.toNat<M.ways.length:=by omega
    refine⟨⟨⟨bu.1,bg⟩,jo,bg⟩,⟨⟨bu.1,by omega⟩,?_⟩,fun hm=>⟨⟨cS (de _),rfl⟩,fun x v aM=> ?_⟩⟩
    ·have:=cA.aZ _ (dt (show O.ag.toNat<J.ways.length by omega))
     exact⟨by omega,by omega⟩
    obtain⟨aM,rfl⟩:=aM
    unfold Cx Cp
    rw[qD]
    refine⟨fun hv=> ?_,fun hv=>⟨⟨b8 aM hv,?_⟩,⟨(cq (ci hm) aM hv rfl).1,?_⟩,(cq (ci hm) aM hv rfl).2⟩⟩
    ·have dh:=(kv.pq bg).setState 1
     refine⟨dh.G,pE.symm,fun _=> ?_⟩
     have jp: ¬v<((bq (nth J.ways O.ag)).length:Int):=by simpa using hv
     have fA:=aM.1
     have iU:=dh.gN
     rw[fg] at iU
     unfold ht
     rw[if_pos h1]
     rw[show view (((U M).ways).set O.ag.toNat (aa.mk 1 ((nth ((U M).ways) O.ag).gone) ((nth ((U M).ways) O.ag).been) ((nth ((U M).ways) O.ag).shown) ((nth ((U M).ways) O.ag).timer))) (List.range ((U M).ways).length) (List.map aa.been ((U M).ways))=_ from iU,List.take_of_length_le (by omega)]
     rfl
    ·rw[wV]
     have:=(cA.aZ _ (dt (show O.ag.toNat<J.ways.length by omega))).2.2 _ (dt (b8 aM hv).2)
     omega
    ·have b4:=b8 aM hv
     rw[ho (ci hm) aM.1 (by simpa using hv),show(v+1).toNat=v.toNat+1 by have:=aM.1;omega,Mb b4.2,←fv b4.2]
   ·have aQ: ¬d_ J M O.ag=0:=by simpa using aQ
    exact k6 _ pE.symm aQ
  have h1: ¬O.op=1:=by simpa using h1
  unfold Cu
  refine⟨fun h2=> ?_,fun h2=> ?_⟩
  ·have h2:O.op=2:=by simpa using h2
   have bu:=pw he (.inr h2)
   have bg:O.ag.toNat<M.ways.length:=by omega
   have tK:O.ag.toNat<J.ways.length:=by omega
   have iT:eM J M O=if(nth M.ways O.ag).state≠1∧(nth M.ways O.ag).state≠2 then 2 else 0:=by unfold eM;rw[if_neg h1,if_pos h2]
   refine⟨⟨bu.1,bg⟩,⟨⟨jo,bg⟩,fun _=>⟨jo,bg⟩⟩,?_⟩
   unfold CA
   rw[qD]
   have ng:((((nth ((U M).ways) O.ag).state) !=1)&&(((nth ((U M).ways) O.ag).state) !=2))=decide ((nth M.ways O.ag).state≠1∧(nth M.ways O.ag).state≠2):=by
    rw[Bool.eq_iff_iff];simp[U]
   rw[ng]
   refine⟨fun hc=> ?_,fun hc=>⟨⟨⟨jo,bg⟩,fun _=>⟨⟨bu.1,tK⟩,hA.1,hA.2.1,hA.2.2,fun x hx=> ?_⟩⟩,?_⟩⟩
   ·have hc:=of_decide_eq_true hc
    rw[if_pos hc] at iT
    exact k6 2 iT.symm (by decide)
   ·have:=(cA.ct _ (dt tK)).2 x hx;omega
   ·have hc:=of_decide_eq_false hc
    rw[if_neg hc] at iT
    have dh:=kv.pq bg
    rw[fg] at dh
    unfold Cz
    rw[qD]
    have bp: ∀X:Frame,X=(if((nth M.ways O.ag).shown&&fZ M (nth J.ways O.ag).ct)=true then{M with ways:=M.ways.set O.ag.toNat {nth M.ways O.ag with state:=3,timer:=J.hold}} else{M with ways:=M.ways.set O.ag.toNat (a2 J O.ag)})→X=ht J M O:=fun X RM=>by
     unfold ht;rw[if_neg h1,if_pos h2];exact RM
    refine⟨fun aj=>⟨⟨jo,bg⟩,(dh.setState 3).e0,?_⟩,fun aj=>⟨⟨cA,bu.1,bu.2⟩,⟨jo,bg⟩,?_⟩⟩
    ·have fx:=(dh.setState 3).uX J.hold
     refine⟨fx.G,iT.symm,fun _=>bp _ ?_⟩
     have aj:((nth M.ways O.ag).shown&&fZ M (nth J.ways O.ag).ct)=true:=aj
     rw[if_pos aj]
     have iU:=fx.gN
     exact congrArg (Frame.mk M.ok M.al M.ak) iU
    ·have fx:=dh.new (a2 J O.ag) (by
      have:=(cA.ai _ (dt tK)).2.1
      show(List.replicate _ _).length≤_
      rw[List.length_replicate];omega)
     have Gq:c7 M.ways ((List.range ((U M).ways).length).set O.ag.toNat ((List.map aa.been ((U M).ways)).length)) O.ag (a2 J O.ag) (((U M).ways).set O.ag.toNat (aa.mk ((a2 J O.ag).state) ((a2 J O.ag).gone) ((a2 J O.ag).been) ((a2 J O.ag).shown) ((a2 J O.ag).timer))) ((List.map aa.been ((U M).ways))++[(a2 J O.ag).been]):=fx
     refine⟨Gq.G,iT.symm,fun _=>bp _ ?_⟩
     have aj: ¬((nth M.ways O.ag).shown&&fZ M (nth J.ways O.ag).ct)=true:=by
      have aj:((nth M.ways O.ag).shown&&fZ M (nth J.ways O.ag).ct)=false:=aj
      rw[aj];simp
     rw[if_neg aj,Gq.gN];rfl
  have h2: ¬O.op=2:=by simpa using h2
  have ok: ∀(o:List Bool) (q:List aN),eM J M O=0→ht J M O={M with al:=o,ak:=q}→fL M.ways (List.range M.ways.length) (M.ways.map aa.been)∧0=eM J M O∧((0:Int)=0→Frame.mk M.ok o q (view M.ways (List.range M.ways.length) (M.ways.map aa.been))=ht J M O):=fun o q hc bp=>⟨kv,hc.symm,fun _=>by rw[fg,bp]⟩
  unfold Ct
  rw[wy]
  refine⟨fun aS=> ?_,fun aS=> ?_⟩
  ·have aS:=of_decide_eq_true aS
   have bu:=A1 he aS
   refine⟨⟨bu.1,by show O.ag.toNat<M.al.length;omega⟩,ok _ _ ?_ ?_⟩
   ·unfold eM;rw[if_neg h1,if_neg h2,if_neg (by omega)]
   ·unfold ht;rw[if_neg h1,if_neg h2,if_pos aS];rfl
  have aS:=of_decide_eq_false aS
  refine⟨fun cb=> ?_,fun cb=> ?_⟩
  ·have cb:O.op=5:=by simpa using cb
   have bu:=tq he (.inl cb)
   refine⟨⟨bu.1,by show O.ag.toNat<M.ak.length;omega⟩,ok _ _ ?_ ?_⟩
   ·unfold eM;rw[if_neg h1,if_neg h2,if_neg (by omega)]
   ·unfold ht;rw[if_neg h1,if_neg h2,if_neg aS,if_pos cb];rfl
  have cb: ¬O.op=5:=by simpa using cb
  unfold Cs
  refine⟨fun cE=> ?_,fun cE=>⟨fun gp=> ?_,fun gp=> ?_⟩⟩
  ·have cE:O.op=6:=by simpa using cE
   have bu:=tq he (.inr cE)
   have iT:eM J M O=if h6 J M O.ag=true then 2 else if js J M O.ag=true then 3 else 0:=by unfold eM;rw[if_neg h1,if_neg h2,if_pos cE]
   rw[qD]
   refine⟨⟨hA.1,hA.2.1,hA.2.2,hf,bu.1,bu.2⟩,fun _=> ?_⟩
   unfold CC CB
   rw[qD]
   have BZ:=cA.bh _ (dt (show O.ag.toNat<J.bh.length by omega))
   refine⟨fun hc=> ?_,fun hc=>⟨⟨⟨bu.1,by omega⟩,BZ.1,by show _<M.al.length;omega⟩,fun ax=> ?_,fun ax=>⟨⟨bu.1,by show _<M.ak.length;omega⟩,ok _ _ ?_ ?_⟩⟩⟩
   ·rw[if_pos (show h6 J M O.ag=true from hc)] at iT
    exact k6 2 iT.symm (by decide)
   ·rw[if_neg (show ¬h6 J M O.ag=true by rw[show h6 J M O.ag=false from hc];simp),if_pos (show js J M O.ag=true from ax)] at iT
    exact k6 3 iT.symm (by decide)
   ·rw[if_neg (show ¬h6 J M O.ag=true by rw[show h6 J M O.ag=false from hc];simp),if_neg (show ¬js J M O.ag=true by rw[show js J M O.ag=false from ax];simp)] at iT
    exact iT
   ·unfold ht;rw[if_neg h1,if_neg h2,if_neg aS,if_neg cb,if_pos cE];rfl
  ·have gp:O.op=7:=by simpa using gp
   unfold Cr
   refine⟨⟨cS (de _),kv,fg⟩,fun bs is v ws aM=> ?_⟩
   obtain⟨aM,G,iU⟩:=aM
   have t_:ws.length=M.ways.length:=by rw[←ii G.ok,iU,w4]
   refine⟨fun hv=>⟨G,?_,fun _=> ?_⟩,fun hv=> ?_⟩
   ·unfold eM;rw[if_neg h1,if_neg h2,if_neg (by omega)]
   ·have jp: ¬v<(M.ways.length:Int):=by
     have hv:decide (v<(M.ways.length:Int))=false:=hv
     simpa using hv
    have a6:=aM.1
    have hb:=aM.2.1
    rw[iU,show v.toNat=M.ways.length by omega]
    unfold ht;rw[if_neg h1,if_neg h2,if_neg aS,if_neg cb,if_neg (by omega),if_pos gp];rfl
   ·have b4:=b8 aM hv
    have bg:v.toNat<ws.length:=by omega
    have tK:v.toNat<J.ways.length:=by omega
    have dh:c7 (g8 J v.toNat M.ways) is v (nth (g8 J v.toNat M.ways) v) ws bs:=c7.start G.ok G.jR bg iU G.len
    have bd:=cq (by omega) aM hv rfl
    have oO:=ho (show(M.ways.length:Int)≤4611686018427387904 by omega) aM.1 (by
     have hv:decide (v<(M.ways.length:Int))=true:=hv
     simpa using hv)
    have r4:uc J v:=⟨cA,b4.1,by omega⟩
    have tI:(a2 J v).been.length≤1048576:=by
     have:=(cA.ai _ (dt tK)).2.1
     show(List.replicate _ _).length≤_
     rw[List.length_replicate];omega
    have dP:=dh.uX (IntKind.i64.wrap ((nth ws v).timer - 1))
    have fin: ∀{cX:List Nat} {jD:List aa} {ll:List (List Bool)} {x:aa},c7 (g8 J v.toNat M.ways) cX v x jD ll→x=kM J v.toNat (nth (g8 J v.toNat M.ways) v)→(cg M.ways.length (fun _=>false) (IntKind.i64.wrap (v+1))∧fL jD cX ll∧view jD cX ll=g8 J (IntKind.i64.wrap (v+1)).toNat M.ways)∧cn M.ways.length (IntKind.i64.wrap (v+1))<cn M.ways.length v:=fun F hx=>by
     refine⟨⟨bd.1,F.G,?_⟩,bd.2⟩
     rw[F.gN,hx,oO,show(v+1).toNat=v.toNat+1 by omega]
     show _=(g8 J v.toNat M.ways).set v.toNat (kM J v.toNat (nth (g8 J v.toNat M.ways) (v.toNat:Int)))
     rw[jr b4.1]
    unfold Cq CE CD
    refine⟨⟨⟨b4.1,bg⟩,dh.e0,fun _=>⟨⟨dh.e0,dh.e0⟩,dP.e0,fun _=>⟨r4,dP.e0⟩⟩⟩,fun w hw i hi b hb=> ?_⟩
    have bu:(nth (ws.set v.toNat (aa.mk ((nth ws v).state) ((nth ws v).gone) ((nth ws v).been) ((nth ws v).shown) (IntKind.i64.wrap (((nth ws v).timer) - 1)))) v).timer=IntKind.i64.wrap ((nth ws v).timer - 1):=dP.timer
    rw[bu,dh.state,dh.timer] at hw hi hb
    rw[dh.timer,dh.state] at dP
    have BH:a2 J (v.toNat:Int)=a2 J v:=by rw[Int.toNat_of_nonneg b4.1]
    cases aS:((nth (g8 J v.toNat M.ways) v).state==3) with
    | false=>
     rw[aS] at hw hi hb
     subst hw;subst hi;subst hb
     refine fin dh ?_
     unfold kM;rw[if_neg (by simpa using aS)]
    | true=>
     rw[aS] at hw hi hb
     cases a0:(IntKind.i64.wrap ((nth (g8 J v.toNat M.ways) v).timer - 1)==0) with
     | false=>
      rw[a0] at hw hi hb
      subst hw;subst hi;subst hb
      refine fin dP ?_
      unfold kM;rw[if_pos (by simpa using aS),if_neg (by simpa using a0)]
     | true=>
      rw[a0] at hw hi hb
      subst hw;subst hi;subst hb
      refine fin (dP.new (a2 J v) tI) ?_
      unfold kM;rw[if_pos (by simpa using aS),if_pos (by simpa using a0),BH]
  ·have gp: ¬O.op=7:=by simpa using gp
   refine ok _ _ ?_ ?_
   ·unfold eM;rw[if_neg h1,if_neg h2,if_neg (by simpa using cE)]
   ·unfold ht;rw[if_neg h1,if_neg h2,if_neg aS,if_neg cb,if_neg (by simpa using cE),if_neg gp];rfl
 ·obtain⟨G,hc,bp⟩:=cu
  unfold Cw
  refine⟨fun aQ=>⟨hs,?_⟩,fun aQ=> ?_⟩
  ·have aQ: ¬c=0:=by simpa using aQ
   unfold gC;rw[if_pos (by rw[←hc];exact aQ)]
   exact⟨hc,rfl⟩
  ·have aQ:c=0:=by simpa using aQ
   have b4:=AG da (pw he)
   rw[←bp aQ] at b4
   have ax:=b4.al
   have aj:=b4.ak
   have hw:=b4.ways
   have S0:(view ws is bs).length=J.ways.length:=hw
   rw[ii G.ok] at S0
   replace ax:(o.length:Int)=J.ai:=ax
   replace aj:q.length=J.bh.length:=aj
   refine⟨⟨by omega,by omega,⟨G.ok,by omega,fun x hx=>by have:=G.len x hx;omega⟩,cA,b4⟩,?_⟩
   unfold gC;rw[if_neg (by rw[←hc,aQ];simp)]
   exact⟨rfl,by rw[←bp aQ];rfl⟩)
def TE:ev Try.prog:=⟨63,[.dW,.frame,.iS],[.done],some fun x=>AH x.1 x.2.1 x.2.2.1,fun x=>((gC x.1 x.2.1 x.2.2.1),()),fun x h=>TD x.1 x.2.1 x.2.2.1 h⟩
def Ji (aw:Nat→(List cP)→Bool→(List Bool)→(List aN)→(List aa)→Int→Prop) (ay:Nat→(List cP)→Bool→(List Bool)→(List aN)→(List aa)→Int→Nat) (J:aB) (M:(List Event)) (aR:Nat) (aA:(List cP)) (c0:Bool) (c1:(List Bool)) (c2:(List aN)) (c3:(List aa)) (db:Int):Prop:=
  ((aA.length+[(cP.mk ((gC J (Frame.mk c0 c1 c2 c3) (nth M db)).code) (U ((gC J (Frame.mk c0 c1 c2 c3) (nth M db)).frame)))].length)*88≤140737488355328∧aA.length+[(cP.mk ((gC J (Frame.mk c0 c1 c2 c3) (nth M db)).code) (U ((gC J (Frame.mk c0 c1 c2 c3) (nth M db)).frame)))].length≤4611686018427387904)∧(aw (aR+1) (aA++[(cP.mk ((gC J (Frame.mk c0 c1 c2 c3) (nth M db)).code) (U ((gC J (Frame.mk c0 c1 c2 c3) (nth M db)).frame)))]) ((gC J (Frame.mk c0 c1 c2 c3) (nth M db)).frame.ok) ((gC J (Frame.mk c0 c1 c2 c3) (nth M db)).frame.al) ((gC J (Frame.mk c0 c1 c2 c3) (nth M db)).frame.ak) ((gC J (Frame.mk c0 c1 c2 c3) (nth M db)).frame.ways) (IntKind.i64.wrap (db+1))∧ay (aR+1) (aA++[(cP.mk ((gC J (Frame.mk c0 c1 c2 c3) (nth M db)).code) (U ((gC J (Frame.mk c0 c1 c2 c3) (nth M db)).frame)))]) ((gC J (Frame.mk c0 c1 c2 c3) (nth M db)).frame.ok) ((gC J (Frame.mk c0 c1 c2 c3) (nth M db)).frame.al) ((gC J (Frame.mk c0 c1 c2 c3) (nth M db)).frame.ak) ((gC J (Frame.mk c0 c1 c2 c3) (nth M db)).frame.ways) (IntKind.i64.wrap (db+1))<ay aR aA c0 c1 c2 c3 db)
def Jj (aw:Nat→(List cP)→Bool→(List Bool)→(List aN)→(List aa)→Int→Prop) (ay:Nat→(List cP)→Bool→(List Bool)→(List aN)→(List aa)→Int→Nat) (aR:Nat) (aA:(List cP)) (c0:Bool) (c1:(List Bool)) (c2:(List aN)) (c3:(List aa)) (db:Int):Prop:=
  ((aA.length+[(cP.mk 1 (U (U (Frame.mk c0 c1 c2 c3))))].length)*88≤140737488355328∧aA.length+[(cP.mk 1 (U (U (Frame.mk c0 c1 c2 c3))))].length≤4611686018427387904)∧(aw (aR+1) (aA++[(cP.mk 1 (U (U (Frame.mk c0 c1 c2 c3))))]) c0 c1 c2 c3 (IntKind.i64.wrap (db+1))∧ay (aR+1) (aA++[(cP.mk 1 (U (U (Frame.mk c0 c1 c2 c3))))]) c0 c1 c2 c3 (IntKind.i64.wrap (db+1))<ay aR aA c0 c1 c2 c3 db)
def Jk (aw:Nat→(List cP)→Bool→(List Bool)→(List aN)→(List aa)→Int→Prop) (ay:Nat→(List cP)→Bool→(List Bool)→(List aN)→(List aa)→Int→Nat) (J:aB) (M:(List Event)) (aR:Nat) (aA:(List cP)) (c0:Bool) (c1:(List Bool)) (c2:(List aN)) (c3:(List aa)) (db:Int):Prop:=
  (gK (Frame.mk c0 c1 c2 c3))∧(((eh J (nth M db))=true→(AH J (Frame.mk c0 c1 c2 c3) (nth M db))∧((gK ((gC J (Frame.mk c0 c1 c2 c3) (nth M db)).frame))∧(Ji aw ay J M aR aA c0 c1 c2 c3 db)))∧((eh J (nth M db))=false→(gK (U (Frame.mk c0 c1 c2 c3)))∧(Jj aw ay aR aA c0 c1 c2 c3 db)))
def Jl (aw:Nat→(List cP)→Bool→(List Bool)→(List aN)→(List aa)→Int→Prop) (ay:Nat→(List cP)→Bool→(List Bool)→(List aN)→(List aa)→Int→Nat) (J:aB) (M:(List Event)) (ar:(List cP)):Prop:=
  aw 0 ([]:List cP) ((dn J).ok) ((dn J).al) ((dn J).ak) ((dn J).ways) 0∧ ∀(aR:Nat) (aA:(List cP)) (c0:Bool) (c1:(List Bool)) (c2:(List aN)) (c3:(List aa)) (db:Int),aw aR aA c0 c1 c2 c3 db→(((decide (db<(M.length:Int)))=false→aA.length≤4611686018427387904∧aA=ar)∧((decide (db<(M.length:Int)))=true→(0≤db∧db.toNat<M.length)∧(Jk aw ay J M aR aA c0 c1 c2 c3 db)))
def Jh (J:aB) (M:(List Event)) (ar:(List cP)) (aw:Nat→(List cP)→Bool→(List Bool)→(List aN)→(List aa)→Int→Prop) (ay:Nat→(List cP)→Bool→(List Bool)→(List aN)→(List aa)→Int→Nat):Prop:=
 (((!(dv J)) || (decide ((M.length:Int)>1000)))=true→[]=ar)∧((!((!(dv J)) || (decide ((M.length:Int)>1000))))=true→M.length≤4611686018427387904→Jl aw ay J M ar)
theorem Jm (J:aB) (M:(List Event)):b3 Try.prog 22 [.agg (a8 false J),bo eE M] (eJ (fT false) (bw J M)):=(fun(aw:Nat→(List cP)→Bool→(List Bool)→(List aN)→(List aa)→Int→Prop) (ay:Nat→(List cP)→Bool→(List Bool)→(List aN)→(List aa)→Int→Nat) (h:Jh J M (bw J M) aw ay)=>b3.run (ps:=[.dW,(.l .iS)]) (rs:=[(.l .done)]) (x:=(J,M,())) (r:=((bw J M),())) ⟨48,eN,[Ud,Tj,TA,TQ,TE]⟩ ⟨[],[],[],[]⟩ (.lp [(0,6,.done)] [2,5,20,21] [(5,4),(2,5)] [.nat,(.l .done),.bool,(.l .bool),(.l .g6),(.l .held),.int] [bY 0,bY 0,fB 5 0,fB 5 1,fB 5 2,fB 5 3,22] (fun a_=>[(6,.ref 0 a_.1 a_.2.1.length false),(22,.i .i64 a_.2.2.2.2.2.2.1),(fB 5 0,.b (.v a_.2.2.1)),(fB 5 1,.l .bool a_.2.2.2.1 false true),(fB 5 2,.l .g6 a_.2.2.2.2.1 false true),(fB 5 3,.l .held a_.2.2.2.2.2.1 false true),(bY 0,.blk a_.1 .done a_.2.1 _ rfl)]) (fun a_=>aw a_.1 a_.2.1 a_.2.2.1 a_.2.2.2.1 a_.2.2.2.2.1 a_.2.2.2.2.2.1 a_.2.2.2.2.2.2.1) (fun a_=>ay a_.1 a_.2.1 a_.2.2.1 a_.2.2.2.1 a_.2.2.2.2.1 a_.2.2.2.2.2.1 a_.2.2.2.2.2.2.1) fun _=> .nil) Try.func22 h) (fun _ x a b c e v=>cg M.length (fun _=>false) v∧x=ja J (dn J) (M.take v.toNat)∧Frame.mk a b c e=iI J (dn J) (M.take v.toNat)) (fun _ _ _ _ _ _ v=>cn M.length v) (by
 unfold Jh
 refine⟨fun h=> ?_,fun h aC=> ?_⟩
 ·unfold bw
  rw[if_neg]
  rintro⟨h1,h2⟩
  rw[h1] at h
  have: ¬(M.length:Int)>1000:=by omega
  simp[this] at h
 have h:dv J=true∧(M.length:Int)≤1000:=by simpa using h
 have e:bw J M=ja J (dn J) M:=by unfold bw;rw[if_pos ⟨h.1,by omega⟩]
 rw[e]
 unfold Jl
 refine⟨⟨cS (de _),rfl,rfl⟩,fun g x a b c d v aM=> ?_⟩
 obtain⟨aM,rfl,aI⟩:=aM
 have qK:=aM.2.1
 have fA:=aM.1
 have jo:(ja J (dn J) (M.take v.toNat)).length=v.toNat:=by rw[sF,List.length_take];omega
 refine⟨fun hv=>⟨by omega,?_⟩,fun hv=>⟨b8 aM hv,?_⟩⟩
 ·have: ¬v<(M.length:Int):=by simpa using hv
  rw[List.take_of_length_le (by omega)]
 have b4:=b8 aM hv
 have bd:=cq (ci aC) aM hv rfl
 have mS:Fit J (iI J (dn J) (M.take v.toNat)):=C7 _ (z7 h.1)
 have pQ:M.take (IntKind.i64.wrap (v+1)).toNat=M.take v.toNat++[nth M v]:=by
  rw[ho (ci aC) fA (by simpa using hv),show(v+1).toNat=v.toNat+1 by omega,List.take_succ_eq_append_getElem b4.2,fv b4.2]
 have nk:=Ej J (nth M v) (M.take v.toNat) (dn J)
 unfold Jk
 rw[aI]
 refine⟨tu mS,fun he=>⟨⟨mS,he⟩,tu (Hd mS he),?_⟩,fun he=>⟨tu mS,?_⟩⟩
 ·unfold Ji
  rw[aI]
  refine⟨⟨by simp only[List.length_singleton];omega,by simp only[List.length_singleton];omega⟩,⟨bd.1,?_,?_⟩,bd.2⟩
  ·rw[pQ,nk.1,if_pos he];rfl
  ·rw[pQ,nk.2,if_pos he]
 ·unfold Jj
  rw[aI]
  refine⟨⟨by simp only[List.length_singleton];omega,by simp only[List.length_singleton];omega⟩,⟨bd.1,?_,?_⟩,bd.2⟩
  ·rw[pQ,nk.1,if_neg (by rw[he];simp)];rfl
  ·rw[pQ,nk.2,if_neg (by rw[he];simp),aI])
end Go.Proofs.Ytglpfccgmfhkdaa.Fw
/- Walks and summaries of functions, printed by a program of mine (tools/mk2.py), with the proofs of what they owe. -/
set_option linter.unusedVariables false
set_option maxRecDepth 100000
set_option maxHeartbeats 4000000
set_option linter.unusedSimpArgs false
namespace Go.Proofs.Ytglpfccgmfhkdaa.Fw
open Go
attribute [local irreducible] evS evSD WpS Weak Oper.looksAt
def Km (J:(List UInt8)) (M:Int) (ar:Int):Prop:=
 (J.length≤4611686018427387904→((J.length:Int)==0)=true→0=ar)∧((J.length≤4611686018427387904)∧((!((J.length:Int)==0))=true)→(((J.length:Int)≠0)∧(0≤(M.tmod (J.length:Int))∧(M.tmod (J.length:Int)).toNat<J.length))∧((IntKind.i64.wrap (((nth J (M.tmod (J.length:Int))).toNat:Int)))=ar))
theorem Ds (J:(List UInt8)) (M:Int) (aF:zN J M):b3 Try.prog 20 [bo jg J,ac M] (ac (af J M)):=(fun(h:Km J M (af J M))=>b3.run (ps:=[(.l .u8),.int]) (rs:=[.int]) (x:=(J,M,())) (r:=((af J M),())) ⟨16,eN,[]⟩ ⟨[11],[],[],[]⟩ .nil Try.func20 h) (by
 obtain⟨aI,a0⟩:=aF
 unfold Km
 refine⟨fun _ h=> ?_,fun⟨_,h⟩=> ?_⟩
 ·have h:J.length=0:=by simpa using h
  unfold af;rw[if_pos (List.length_eq_zero_iff.1 h)]
 ·have h: ¬J.length=0:=by simpa using h
  have aJ:=Int.emod_lt_of_pos M (show(0:Int)<(J.length:Int) by omega)
  have aC:=Int.emod_nonneg M (show((J.length:Int))≠0 by omega)
  have e:M.tmod (J.length:Int)=M%(J.length:Int):=Int.tmod_eq_emod_of_nonneg a0
  refine⟨⟨by omega,by omega,by omega⟩,?_⟩
  unfold af;rw[if_neg (fun e=>h (by rw[e];rfl))]
  have:=(nth J (M.tmod J.length)).toNat_lt
  exact gb (by omega) (by omega))
noncomputable def XE:Code:=hM Try.f21
def E3 (aW:Nat→(List Int)→Int→Nat→Nat→(List ch)→(List Int)→Int→Prop) (aX:Nat→(List Int)→Int→Nat→Nat→(List ch)→(List Int)→Int→Nat) (aR:Nat) (aA:(List Int)) (bU:Int) (a3 aY:Nat) (aL:(List ch)) (bQ:(List Int)) (v10:Int):Prop:=
  (((bQ.length+[v10].length)*8≤140737488355328∧bQ.length+[v10].length≤4611686018427387904)∧((aL.length+[(ch.mk v10 2)].length)*16≤140737488355328∧aL.length+[(ch.mk v10 2)].length≤4611686018427387904))∧(aW aR aA bU (a3+1) (aY+1) (aL++[(ch.mk v10 2)]) (bQ++[v10]) (IntKind.i64.wrap (v10+1))∧aX aR aA bU (a3+1) (aY+1) (aL++[(ch.mk v10 2)]) (bQ++[v10]) (IntKind.i64.wrap (v10+1))<aX aR aA bU a3 aY aL bQ v10)
def E4 (aW:Nat→(List Int)→Int→Nat→Nat→(List ch)→(List Int)→Int→Prop) (aX:Nat→(List Int)→Int→Nat→Nat→(List ch)→(List Int)→Int→Nat) (J M O:Int) (ar:aB) (aR:Nat) (aA:(List Int)) (bU:Int):Prop:=
  aW aR aA bU 0 0 ([]:List ch) ([]:List Int) 0∧ ∀(a3:Nat) (aY:Nat) (aL:(List ch)) (bQ:(List Int)) (v10:Int),aW aR aA bU a3 aY aL bQ v10→(((decide (v10<M))=false→((IntKind.i64.wrap (J+1))=ar.ai)∧(bQ.length≤4611686018427387904∧bQ=ar.bh)∧(aA.length≤4611686018427387904∧aL.length≤4611686018427387904∧[(Way.mk aA aL [] [] [J])]=ar.ways)∧([[true]]=ar.bars)∧(O=ar.hold))∧((decide (v10<M))=true→E3 aW aX aR aA bU a3 aY aL bQ v10))
def E5 (aw:Nat→(List Int)→Int→Prop) (ay:Nat→(List Int)→Int→Nat) (aW:Nat→(List Int)→Int→Nat→Nat→(List ch)→(List Int)→Int→Prop) (aX:Nat→(List Int)→Int→Nat→Nat→(List ch)→(List Int)→Int→Nat) (J M O:Int) (ar:aB):Prop:=
  aw 0 ([]:List Int) 0∧ ∀(aR:Nat) (aA:(List Int)) (bU:Int),aw aR aA bU→(((decide (bU<J))=false→E4 aW aX J M O ar aR aA bU)∧((decide (bU<J))=true→((aA.length+[bU].length)*8≤140737488355328∧aA.length+[bU].length≤4611686018427387904)∧(aw (aR+1) (aA++[bU]) (IntKind.i64.wrap (bU+1))∧ay (aR+1) (aA++[bU]) (IntKind.i64.wrap (bU+1))<ay aR aA bU)))
def E2 (J:Int) (M:Int) (O:Int) (ar:aB) (aw:Nat→(List Int)→Int→Prop) (ay:Nat→(List Int)→Int→Nat) (aW:Nat→(List Int)→Int→Nat→Nat→(List ch)→(List Int)→Int→Prop) (aX:Nat→(List Int)→Int→Nat→Nat→(List ch)→(List Int)→Int→Nat):Prop:=
 E5 aw ay aW aX J M O ar
theorem XF (J:Int) (M:Int) (O:Int) (ar:aB) (aw:Nat→(List Int)→Int→Prop) (ay:Nat→(List Int)→Int→Nat) (aW:Nat→(List Int)→Int→Nat→Nat→(List ch)→(List Int)→Int→Prop) (aX:Nat→(List Int)→Int→Nat→Nat→(List ch)→(List Int)→Int→Nat) (h:E2 J M O ar aw ay aW aX):b3 Try.prog 21 [ac J,ac M,ac O] (.agg (a8 true ar)):=by
 unfold E2 at h
 refine dj.go (fn:=Try.f21) [(0,ac J),(1,ac M),(2,ac O)] Try.func21 ?_
 show WpS _ (bK XE 1) _ ⟨a4 53 [(0,ac J),(1,ac M),(2,ac O)],[],[]⟩
 refine m_ [] 0 [(6,an 6 0)] [1] [3] [(6,[ac 0,ao,ao,ao,ac 0])] [] ?_
 refine l9 [] 1 [(7,an 7 0),(16,.agg [ac (IntKind.i64.wrap (J+1)),ao,ao,.be (List.map (eX aH false) ([[true]])) true true,ac O]),(15,.be (List.map (eX aH false) ([[true]])) true true),(14,.be (List.map aH [true]) true true),(13,ac O),(12,ac (IntKind.i64.wrap (J+1))),(11,ac J)] [1] [3] (fun L=>(7,[ac (IntKind.i64.wrap (J+1)),ao,ao,.be (List.map (eX aH false) ([[true]])) true true,ac O])::L) id ?_
 refine l9 [] 2 [(8,an 8 0),(19,.agg [ao,ao,ao,ao,.be (List.map bW [J]) true true]),(18,.be (List.map bW [J]) true true),(17,ac J)] [1] [4] (fun L=>(8,[ao,ao,ao,ao,.be (List.map bW [J]) true true])::L) id ?_
 refine fy ?_
 refine cQ [] 3 [(9,ac 0)] [1] [5] ?_
 unfold E5 at h
 refine dM 0 ?_
 refine WpS.jd ?_ (fK (s'':=⟨(a4 53 [(9,ac 0),(8,an 8 0),(7,an 7 0),(6,an 6 0),(0,ac J),(1,ac M)]),[(8,[ae 0 0 (([]:List Int).length),ao,ao,ao,.be (List.map bW [J]) true true]),(7,[ac (IntKind.i64.wrap (J+1)),ao,ao,.be (List.map (eX aH false) ([[true]])) true true,ac O]),(6,[ac 0,ao,ao,ao,ac 0])],[⟨0,1,List.map bW ([]:List Int)⟩]⟩) (Weak.nG (T:=(a4 53 [(9,ac 0),(8,an 8 0),(7,an 7 0),(6,an 6 0),(0,ac J),(1,ac M)])) (L:=[(8,[ao,ao,ao,ao,.be (List.map bW [J]) true true]),(7,[ac (IntKind.i64.wrap (J+1)),ao,ao,.be (List.map (eX aH false) ([[true]])) true true,ac O]),(6,[ac 0,ao,ao,ao,ac 0])]) (H:=[]) (cells:=[ao,ao,ao,ao,.be (List.map bW [J]) true true]) 8 0 1 (by kernel_rfl) (by kernel_rfl)) (by kernel_rfl))
 obtain⟨gh,h⟩:=h
 refine hr (fun(v:Nat×(List Int)×Int)=>(⟨(a4 53 [(0,ac J),(1,ac M),(6,an 6 0),(7,an 7 0),(8,an 8 0),(9,ac (v.2.2))]),[(8,[ae 0 (v.1) ((v.2.1).length),ao,ao,ao,.be (List.map bW [J]) true true]),(7,[ac (IntKind.i64.wrap (J+1)),ao,ao,.be (List.map (eX aH false) ([[true]])) true true,ac O]),(6,[ac 0,ao,ao,ao,ac 0])],[⟨(v.1),1,List.map bW (v.2.1)⟩]⟩:St)) (fun(v:Nat×(List Int)×Int)=>aw (v.1) (v.2.1) (v.2.2)) (fun(v:Nat×(List Int)×Int)=>ay (v.1) (v.2.1) (v.2.2)) (0,([]:List Int),0) (cC []) gh (fun v aM=> ?_)
 obtain⟨aR,aA,bU⟩:=v
 replace h:=h aR aA bU aM
 dsimp only
 obtain⟨gz,h⟩:=h
 refine b0 [] [6] ((decide (bU<J))=true) ?_ (fun cx=> ?_)
 ·
  replace h:=gz
  refine cQ [] 4 [(22,ah (decide (bU<J))),(21,ac J),(20,ac bU)] [1] [6] ?_
  refine cN (fun et=> ?_) (fun et=> ?_)
  ·
   refine c6 ?_
   exact bR.normal (by simp only[et]<;>rfl) cW
  ·
   replace h:=h et
   refine gG 0 ?_
   refine bR.exit ?_
   refine cU.exit ?_
   refine bZ.here ?_
   refine c4.normal ?_
   refine fy ?_
   refine gX ⟨(a4 53 [(1,ac M),(6,an 6 0),(7,an 7 0),(8,an 8 0),(10,ac 0)]),[(8,[ae 0 aR aA.length,ao,ao,ao,.be (List.map bW [J]) true true]),(7,[ac (IntKind.i64.wrap (J+1)),ao,ao,.be (List.map (eX aH false) ([[true]])) true true,ac O]),(6,[ac 0,ao,ao,ao,ac 0])],[⟨aR,1,List.map bW aA⟩]⟩ (True) ?_ (fun eB=> ?_)
   ·
    refine bm [] 7 ?_
    exact bL [(10,ac 0)] trivial
   unfold E4 at h
   refine dM 2 ?_
   refine WpS.jd ?_ (fK (s'':=⟨(a4 53 [(1,ac M),(6,an 6 0),(7,an 7 0),(8,an 8 0),(10,ac 0)]),[(8,[ae 0 aR aA.length,ae 1 0 (([]:List ch).length),ao,ao,.be (List.map bW [J]) true true]),(7,[ac (IntKind.i64.wrap (J+1)),ao,ao,.be (List.map (eX aH false) ([[true]])) true true,ac O]),(6,[ac 0,ao,ao,ao,ac 0])],[⟨aR,1,List.map bW aA⟩,⟨0,2,List.map cD ([]:List ch)⟩]⟩) (Weak.nG (T:=(a4 53 [(1,ac M),(6,an 6 0),(7,an 7 0),(8,an 8 0),(10,ac 0)])) (L:=[(8,[ae 0 aR aA.length,ao,ao,ao,.be (List.map bW [J]) true true]),(7,[ac (IntKind.i64.wrap (J+1)),ao,ao,.be (List.map (eX aH false) ([[true]])) true true,ac O]),(6,[ac 0,ao,ao,ao,ac 0])]) (H:=[⟨aR,1,List.map bW aA⟩]) (cells:=[ae 0 aR aA.length,ao,ao,ao,.be (List.map bW [J]) true true]) 8 1 2 (by kernel_rfl) (by kernel_rfl)) (by kernel_rfl))
   refine WpS.jd ?_ (fK (s'':=⟨(a4 53 [(1,ac M),(6,an 6 0),(7,an 7 0),(8,an 8 0),(10,ac 0)]),[(8,[ae 0 aR aA.length,ae 1 0 (([]:List ch).length),ao,ao,.be (List.map bW [J]) true true]),(7,[ac (IntKind.i64.wrap (J+1)),ae 2 0 (([]:List Int).length),ao,.be (List.map (eX aH false) ([[true]])) true true,ac O]),(6,[ac 0,ao,ao,ao,ac 0])],[⟨aR,1,List.map bW aA⟩,⟨0,2,List.map cD ([]:List ch)⟩,⟨0,1,List.map bW ([]:List Int)⟩]⟩) (Weak.nG (T:=(a4 53 [(1,ac M),(6,an 6 0),(7,an 7 0),(8,an 8 0),(10,ac 0)])) (L:=[(8,[ae 0 aR aA.length,ae 1 0 (([]:List ch).length),ao,ao,.be (List.map bW [J]) true true]),(7,[ac (IntKind.i64.wrap (J+1)),ao,ao,.be (List.map (eX aH false) ([[true]])) true true,ac O]),(6,[ac 0,ao,ao,ao,ac 0])]) (H:=[⟨aR,1,List.map bW aA⟩,⟨0,2,List.map cD ([]:List ch)⟩]) (cells:=[ac (IntKind.i64.wrap (J+1)),ao,ao,.be (List.map (eX aH false) ([[true]])) true true,ac O]) 7 1 1 (by kernel_rfl) (by kernel_rfl)) (by kernel_rfl))
   obtain⟨ia,h⟩:=h
   refine hr (fun(v:Nat×Nat×(List ch)×(List Int)×Int)=>(⟨(a4 53 [(1,ac M),(6,an 6 0),(7,an 7 0),(8,an 8 0),(10,ac (v.2.2.2.2))]),[(8,[ae 0 aR aA.length,ae 1 (v.1) ((v.2.2.1).length),ao,ao,.be (List.map bW [J]) true true]),(7,[ac (IntKind.i64.wrap (J+1)),ae 2 (v.2.1) ((v.2.2.2.1).length),ao,.be (List.map (eX aH false) ([[true]])) true true,ac O]),(6,[ac 0,ao,ao,ao,ac 0])],[⟨aR,1,List.map bW aA⟩,⟨(v.1),2,List.map cD (v.2.2.1)⟩,⟨(v.2.1),1,List.map bW (v.2.2.2.1)⟩]⟩:St)) (fun(v:Nat×Nat×(List ch)×(List Int)×Int)=>aW aR aA bU (v.1) (v.2.1) (v.2.2.1) (v.2.2.2.1) (v.2.2.2.2)) (fun(v:Nat×Nat×(List ch)×(List Int)×Int)=>aX aR aA bU (v.1) (v.2.1) (v.2.2.1) (v.2.2.2.1) (v.2.2.2.2)) (0,0,([]:List ch),([]:List Int),0) (cC []) ia (fun v aM=> ?_)
   obtain⟨a3,aY,aL,bQ,v10⟩:=v
   replace h:=h a3 aY aL bQ v10 aM
   dsimp only
   obtain⟨gx,h⟩:=h
   refine b0 [] [5] ((decide (v10<M))=true) ?_ (fun gU=> ?_)
   ·
    replace h:=gx
    refine cQ [] 8 [(33,ah (decide (v10<M))),(32,ac M),(31,ac v10)] [1] [5] ?_
    refine cN (fun fI=> ?_) (fun fI=> ?_)
    ·
     refine c6 ?_
     exact bR.normal (by simp only[et,fI]<;>rfl) cW
    ·
     replace h:=h fI
     refine gG 2 ?_
     refine bR.exit ?_
     refine cU.exit ?_
     refine bZ.here ?_
     refine c4.normal ?_
     refine gX ⟨(a4 53 [(6,an 6 0),(7,an 7 0)]),[(8,[ae 0 aR aA.length,ae 1 a3 aL.length,ao,ao,.be (List.map bW [J]) true true]),(7,[ac (IntKind.i64.wrap (J+1)),ae 2 aY bQ.length,.ref 3 0 0 1 true,.be (List.map (eX aH false) ([[true]])) true true,ac O]),(6,[ac 0,ao,ao,ao,ac 0])],[⟨aR,1,List.map bW aA⟩,⟨a3,2,List.map cD aL⟩,⟨aY,1,List.map bW bQ⟩,⟨0,5,[[ae 0 aR aA.length,ae 1 a3 aL.length,ao,ao,.be (List.map bW [J]) true true]]⟩]⟩ (True) ?_ (fun gw=> ?_)
     ·
      refine bm [] 12 ?_
      exact bL [(51,an 7 2),(50,.ref 3 0 0 1 true),(49,.agg [ae 0 aR aA.length,ae 1 a3 aL.length,ao,ao,.be (List.map bW [J]) true true])] trivial
     refine l9 [] 13 [(52,.agg [ac (IntKind.i64.wrap (J+1)),ae 2 aY bQ.length,.ref 3 0 0 1 true,.be (List.map (eX aH false) ([[true]])) true true,ac O])] [] [1] (fun L=>er 2 [ac (IntKind.i64.wrap (J+1)),ae 2 aY bQ.length,.ref 3 0 0 1 true,.be (List.map (eX aH false) ([[true]])) true true,ac O] L) id ?_
     exact e8 (iz (.agg [ac (IntKind.i64.wrap (J+1)),ae 2 aY bQ.length,.ref 3 0 0 1 true,.be (List.map (eX aH false) ([[true]])) true true,ac O]) (gd.agg (av.cons (rh h.1) (av.cons (l0 (sz:=1) (by simp) rfl (Ah) h.2.1) (av.cons ((fun q:aA.length≤4611686018427387904∧aL.length≤4611686018427387904∧[(Way.mk aA aL [] [] [J])]=ar.ways=>YN (enc:=c9) (y:=(Way.mk aA aL [] [] [J])) rfl (av.cons (l0 (sz:=1) (by simp) rfl (Ah) ⟨q.1,rfl⟩) (av.cons (l0 (sz:=2) (by simp) rfl (Ai) ⟨q.2.1,rfl⟩) (av.cons (nA rfl) (av.cons (nA rfl) (av.cons (p8 rfl) av.nil))))) rfl q.2.2) h.2.2.1) (av.cons (p8 h.2.2.2.1) (av.cons (rh h.2.2.2.2) av.nil)))))))
   replace h:=h gU
   unfold E3 at h
   obtain⟨fS,h⟩:=h
   refine dD [] [5] (fun L=>fM 1 1 (ae 2 (aY+1) ((bQ++[v10]).length)) (fM 0 1 (ae 1 (a3+1) ((aL++[(ch.mk v10 2)]).length)) L)) (fun H=>dC 2 ⟨(aY+1),1,List.map bW (bQ++[v10])⟩ (dC 1 ⟨(a3+1),2,List.map cD (aL++[(ch.mk v10 2)])⟩ H)) (True) ?_ (fun mq=> ?_)
   ·
    replace h:=fS
    refine dM 3 ?_
    obtain⟨ju,h⟩:=h
    refine dD [] [5] (fun L=>fM 1 1 (ae 2 (aY+1) ((bQ++[v10]).length)) L) (fun H=>dC 2 ⟨(aY+1),1,List.map bW (bQ++[v10])⟩ H) (True) ?_ (fun gT=> ?_)
    ·
     replace h:=ju
     refine bm [] 10 ?_
     have h_:=h
     refine ra 5 (some 40) [(39,.be (List.map bW [v10]) true true),(38,ac v10),(37,ae 2 aY bQ.length),(36,an 7 1)] bW bQ [v10] (hR true (List.map bW [v10])) 2 aY 1 8 (fun r=>[⟨aR,1,List.map bW aA⟩,⟨a3,2,List.map cD aL⟩,⟨(aY+1),1,r⟩]) rfl h_ ?_
     exact bL [(41,an 7 1)] trivial
    refine bm [] 11 ?_
    have fX:=h
    refine ra 6 (some 47) [(46,.be (List.map cD [(ch.mk v10 2)]) true true),(45,.agg [ac v10,ac 2]),(44,ac v10),(43,ae 1 a3 aL.length),(42,an 8 1)] cD aL [(ch.mk v10 2)] (hR true (List.map cD [(ch.mk v10 2)])) 1 a3 2 16 (fun r=>[⟨aR,1,List.map bW aA⟩,⟨(a3+1),2,r⟩,⟨(aY+1),1,List.map bW (bQ++[v10])⟩]) rfl fX ?_
    refine sG [(48,an 8 1)] [(8,[ae 0 aR aA.length,ae 1 (a3+1) ((aL++[(ch.mk v10 2)]).length),ao,ao,.be (List.map bW [J]) true true]),(7,[ac (IntKind.i64.wrap (J+1)),ae 2 (aY+1) ((bQ++[v10]).length),ao,.be (List.map (eX aH false) ([[true]])) true true,ac O]),(6,[ac 0,ao,ao,ao,ac 0])] [⟨aR,1,List.map bW aA⟩,⟨(a3+1),2,List.map cD (aL++[(ch.mk v10 2)])⟩,⟨(aY+1),1,List.map bW (bQ++[v10])⟩] ?_
    refine bZ.normal ?_
    exact bR.normal trivial cW
   refine bm [] 9 ?_
   refine df [(10,ac (IntKind.i64.wrap (v10+1))),(35,ac (IntKind.i64.wrap (v10+1))),(34,ac v10)] ?_
   exact cU.again ((a3+1),(aY+1),(aL++[(ch.mk v10 2)]),(bQ++[v10]),(IntKind.i64.wrap (v10+1))) h (cC [])
 replace h:=h cx
 obtain⟨ff,h⟩:=h
 refine dD [] [6] (fun L=>fM 0 0 (ae 0 (aR+1) ((aA++[bU]).length)) L) (fun H=>dC 0 ⟨(aR+1),1,List.map bW (aA++[bU])⟩ H) (True) ?_ (fun eA=> ?_)
 ·
  replace h:=ff
  refine dM 1 ?_
  refine bm [] 6 ?_
  have gy:=h
  refine ra 5 (some 29) [(28,.be (List.map bW [bU]) true true),(27,ac bU),(26,ae 0 aR aA.length),(25,an 8 0)] bW aA [bU] (hR true (List.map bW [bU])) 0 aR 1 8 (fun r=>[⟨(aR+1),1,r⟩]) rfl gy ?_
  refine sG [(30,an 8 0)] [(8,[ae 0 (aR+1) ((aA++[bU]).length),ao,ao,ao,.be (List.map bW [J]) true true]),(7,[ac (IntKind.i64.wrap (J+1)),ao,ao,.be (List.map (eX aH false) ([[true]])) true true,ac O]),(6,[ac 0,ao,ao,ao,ac 0])] [⟨(aR+1),1,List.map bW (aA++[bU])⟩] ?_
  refine bZ.normal ?_
  exact bR.normal trivial cW
 refine bm [] 5 ?_
 refine df [(9,ac (IntKind.i64.wrap (bU+1))),(24,ac (IntKind.i64.wrap (bU+1))),(23,ac bU)] ?_
 exact cU.again ((aR+1),(aA++[bU]),(IntKind.i64.wrap (bU+1))) h (cC [])
theorem XD (J:Int) (M:Int) (O:Int) (aF:KH J M O):b3 Try.prog 21 [ac J,ac M,ac O] (.agg (a8 true (bk J M O))):=XF J M O (bk J M O) (fun _ x v=>cg J (fun _=>false) v∧x=ints v.toNat) (fun _ _ v=>cn J v) (fun _ x _ _ _ y z v=>x=ints J.toNat∧cg M (fun _=>false) v∧z=ints v.toNat∧y=(ints v.toNat).map fun i=>⟨i,2⟩) (fun _ _ _ _ _ _ _ v=>cn M v) (by
 obtain⟨a0,h1,h2,aS⟩:=aF
 unfold E2 E5
 refine⟨⟨cS a0,rfl⟩,fun g x v aM=> ?_⟩
 obtain⟨aM,rfl⟩:=aM
 have fA:=aM.1
 have qK:=aM.2.1
 refine⟨fun hv=> ?_,fun hv=>⟨⟨?_,?_⟩,⟨(cq (by omega) aM hv rfl).1,?_⟩,(cq (by omega) aM hv rfl).2⟩⟩
 ·have hv: ¬v<J:=by simpa using hv
  have e:v=J:=by omega
  subst e
  unfold E4
  refine⟨⟨rfl,cS h2,rfl,rfl⟩,fun a3 aY y z k cu=> ?_⟩
  obtain⟨_,cu,rfl,rfl⟩:=cu
  have pI:=cu.1
  have n0:=cu.2.1
  refine⟨fun hk=> ?_,fun hk=> ?_⟩
  ·have hk: ¬k<M:=by simpa using hk
   have e:k=M:=by omega
   subst e
   refine⟨rfl,⟨by rw[pT];omega,rfl⟩,⟨by rw[pT];omega,by rw[List.length_map,pT];omega,rfl⟩,rfl,rfl⟩
  ·have iF:k<M:=by simpa using hk
   unfold E3
   have hw:=ho (show M≤4611686018427387904 by omega) pI iF
   refine⟨⟨⟨?_,?_⟩,?_,?_⟩,⟨rfl,(cq (by omega) cu hk rfl).1,?_,?_⟩,(cq (by omega) cu hk rfl).2⟩
   ·rw[pT,List.length_singleton];omega
   ·rw[pT,List.length_singleton];omega
   ·rw[List.length_map,pT,List.length_singleton];omega
   ·rw[List.length_map,pT,List.length_singleton];omega
   ·rw[hw,show(k+1).toNat=k.toNat+1 by omega,CX,Int.toNat_of_nonneg pI]
   ·rw[hw,show(k+1).toNat=k.toNat+1 by omega,CX,Int.toNat_of_nonneg pI,List.map_append];rfl
 ·rw[pT,List.length_singleton];omega
 ·rw[pT,List.length_singleton];omega
 ·rw[ho (show J≤4611686018427387904 by omega) fA (by simpa using hv),show(v+1).toNat=v.toNat+1 by omega,CX,Int.toNat_of_nonneg fA])
end Go.Proofs.Ytglpfccgmfhkdaa.Fw
