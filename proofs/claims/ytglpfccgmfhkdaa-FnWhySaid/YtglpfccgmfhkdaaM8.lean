/- Walks and summaries of functions, printed by a program of mine (tools/mk2.py), with the proofs of what they owe. -/
import Derived.Test.YtglpfccgmfhkdaaM7
set_option linter.unusedVariables false
set_option maxRecDepth 100000
set_option maxHeartbeats 4000000
set_option linter.unusedSimpArgs false
namespace Go.Proofs.Ytglpfccgmfhkdaa.Fw
open Go
attribute [local irreducible] evS evSD WpS Weak Oper.looksAt
def aeh:List Item:=[av 0,av 1,av 2,av 3,av 4,av 5,av 6,av 7,av 8,av 9]
def aei:List (List Nat):=[[],[0],[0,1],[0,1,2],[],[4],[4,5],[4,5,6],rg 4 8,rg 0 9]
def aej:List Item:=[av 0,av 1,av 2,av 3,av 4,av 5,av 6,av 7,av 8,av 9,av 10]
def aek:List (List Nat):=[[],[0],[0,1],[0,1,2],[],[4],[4,5],[4,5,6],rg 0 8,rg 0 9,rg 0 10]
def RC (c c':ba) (al:Int):Prop:=
  ((ba.mk c.code (IntKind.i64.wrap (c.pos+1)) (IntKind.u64.wrap ((IntKind.u64.wrap (c.tp*6364136223846793005))+1442695040888963407)))=c')∧((IntKind.i64.wrap ((IntKind.u64.wrap (((BitVec.ofInt IntKind.u64.bits ((IntKind.u64.wrap ((IntKind.u64.wrap (c.tp*6364136223846793005))+1442695040888963407)).fdiv (2 ^ (min (40:Int).toNat IntKind.u64.bits)))&&&BitVec.ofInt IntKind.u64.bits 255).toNat:Int)))))=al)
def RD (c c':ba) (al:Int):Prop:=
  ((decide (c.pos<(c.code.length:Int)))=true→(0≤c.pos∧c.pos.toNat<c.code.length)∧(((ba.mk c.code (IntKind.i64.wrap (c.pos+1)) (IntKind.u64.wrap ((IntKind.u64.wrap ((IntKind.u64.wrap (c.tp*6364136223846793005))+(IntKind.u64.wrap (((nth c.code c.pos).toNat:Int)))))+1442695040888963407)))=c')∧((IntKind.i64.wrap (((nth c.code c.pos).toNat:Int)))=al)))∧((!(decide (c.pos<(c.code.length:Int))))=true→(0≤(40:Int))∧(RC c c' al))
def RB (c c':ba) (al:Int):Prop:=
 RD c c' al
theorem aef (hg:Nat) (c:ba) (aG:bW 1 c):iJ Try.prog 163 hg (jQ hg [.p] ()) (b8 false .c9 c) (b8 false .c9 (ls c)) (kX [.int] ((mX c),())):=(fun(h:RB c (ls c) (mX c))=>iJ.run (hg:=hg) (ce:= .c9) (l:=[.p]) (rs:=[.int]) (x:=()) (c:=c) (c':=(ls c)) (r:=((mX c),())) ⟨68,dZ,[]⟩ ⟨[],[(1,aeh,aei),(2,aej,aek)],[],[],[]⟩ .nil Try.func163 h) (by
 unfold RB RD RC ls mX
 cases hb:decide (c.pos<(c.code.length:Int)) with
 | true=>
  have h1:c.pos<(c.code.length:Int):=by simpa using hb
  exact⟨fun _=>⟨⟨aG.1,by have:=aG.1;omega⟩,rfl,rfl⟩,fun h=>(by cases h)⟩
 | false=>exact⟨fun h=>(by cases h),fun _=>⟨by decide,rfl,rfl⟩⟩)
def aeg:lg Try.prog:=⟨163,.c9,[.p],[.int],fun x c=>bW 1 c,fun x c=>ls c,fun x c=>((mX c),()),fun g x c h=>aef g c h⟩
def RG (M:Int) (c c':ba) (al:Int):Prop:=
 ((decide (M≤1))=true→(c=c')∧(0=al))∧((!(decide (M≤1)))=true→(bW 1 c)∧(((decide (M>200))=true→bW 1 (ls c))∧((M≠0)∧(((bif (decide (M>200)) then(ls (ls c)) else(ls c))=c')∧(((bif (decide (M>200)) then(IntKind.i64.wrap ((IntKind.i64.wrap ((mX c)*256))+(mX (ls c)))) else(mX c)).tmod M)=al)))))
theorem aen (hg:Nat) (M:Int) (c:ba) (aG:iD M c):iJ Try.prog 148 hg (jQ hg [.p,.v .int] (M,())) (b8 false .c9 c) (b8 false .c9 (bK M c)) (kX [.int] ((cK M c),())):=(fun(h:RG M c (bK M c) (cK M c))=>iJ.run (hg:=hg) (ce:= .c9) (l:=[.p,.v .int]) (rs:=[.int]) (x:=(M,())) (c:=c) (c':=(bK M c)) (r:=((cK M c),())) ⟨20,dZ,[]⟩ ⟨[],[],[],[aeg],[]⟩ .nil Try.func148 h) (by
 unfold RG bK cK
 refine⟨fun h=> ?_,fun h=> ?_⟩
 ·have h:M≤1:=by simpa using h
  rw[if_pos h,if_pos h];exact⟨rfl,rfl⟩
 ·have h: ¬M≤1:=by simpa using h
  rw[if_neg h,if_neg h]
  exact⟨aG.mono (by omega),fun _=>bW.next (k:=1) aG (by omega),by omega,rfl,rfl⟩)
def zT:lg Try.prog:=⟨148,.c9,[.p,.v .int],[.int],fun x c=>iD x.1 c,fun x c=>bK x.1 c,fun x c=>((cK x.1 c),()),fun g x c h=>aen g x.1 c h⟩
abbrev mz (r:Type):Type:=ba→Nat→(List Int)→Int→r
def RW (ay:mz Prop) (aA:mz Nat) (M:Int) (c7:(List Int)) (bL:ba) (a3:Nat) (aK:(List Int)) (v10:Int):Prop:=
  (((!(meets [(cK M bL)] aK))&&(!(meets [(cK M bL)] c7)))=true→((aK.length+[(cK M bL)].length)*8≤140737488355328∧aK.length+[(cK M bL)].length≤4611686018427387904)∧(ay (bK M bL) (a3+1) (aK++[(cK M bL)]) (IntKind.i64.wrap (v10 - 1))∧aA (bK M bL) (a3+1) (aK++[(cK M bL)]) (IntKind.i64.wrap (v10 - 1))<aA bL a3 aK v10))∧(((!(meets [(cK M bL)] aK))&&(!(meets [(cK M bL)] c7)))=false→ay (bK M bL) a3 aK (IntKind.i64.wrap (v10 - 1))∧aA (bK M bL) a3 aK (IntKind.i64.wrap (v10 - 1))<aA bL a3 aK v10)
def RX (ay:mz Prop) (aA:mz Nat) (M U:Int) (c7:(List Int)) (c c':ba) (al:(List Int)):Prop:=
  (iD (IntKind.i64.wrap (U+1)) c)∧(ay (bK (IntKind.i64.wrap (U+1)) c) 0 ([]:List Int) (cK (IntKind.i64.wrap (U+1)) c)∧ ∀(bL:ba) (a3:Nat) (aK:(List Int)) (v10:Int),ay bL a3 aK v10→(((decide (v10>0))=false→(bL=c')∧(aK.length≤4611686018427387904∧aK=al))∧((decide (v10>0))=true→(iD M bL)∧((aK.length≤4611686018427387904)∧(RW ay aA M c7 bL a3 aK v10)))))
def RV (M:Int) (U:Int) (c7:(List Int)) (c c':ba) (al:(List Int)) (ay:mz Prop) (aA:mz Nat):Prop:=
 RX ay aA M U c7 c c' al
theorem aey (hg:Nat) (M:Int) (U:Int) (c7:(List Int)) (c:ba) (aG:zR M U c7 c):iJ Try.prog 149 hg (jQ hg [.p,.v .int,.v .int,.v (.l .int)] (M,U,c7,())) (b8 false .c9 c) (b8 false .c9 (h3 M U c7 c)) (kX [(.l .int)] ((hr M U c7 c),())):=(fun(ay:mz Prop) (aA:mz Nat) (h:RV M U c7 c (h3 M U c7 c) (hr M U c7 c) ay aA)=>iJ.run (hg:=hg) (ce:= .c9) (l:=[.p,.v .int,.v .int,.v (.l .int)]) (rs:=[(.l .int)]) (x:=(M,U,c7,())) (c:=c) (c':=(h3 M U c7 c)) (r:=((hr M U c7 c),())) ⟨40,dZ,[zS]⟩ ⟨[],[],[],[zT],[]⟩ (.lp [(0,9,.int)] [0,1,3] [] [.c9,.nat,(.l .int),.int] [bA 0,bA 1,bA 1,10] (fun aS=>[(9,.ref 1 aS.2.1 aS.2.2.1.length false),(10,.i .i64 aS.2.2.2.1),(bA 0,.eG hg (gE false .c9 aS.1)),(bA 1,.blk aS.2.1 .int aS.2.2.1 _ rfl)]) (fun aS=>ay aS.1 aS.2.1 aS.2.2.1 aS.2.2.2.1) (fun aS=>aA aS.1 aS.2.1 aS.2.2.1 aS.2.2.2.1) fun _=> .nil) Try.func149 h) (fun d _ x v=>(0≤v∧v≤4)∧bW (2*v) d∧x.length+v.toNat≤4∧vd M c7 v.toNat d x=HK M U c7 c) (fun _ _ _ v=>v.toNat) (by
 obtain⟨aj,aT,bb⟩:=aG
 have hw:IntKind.i64.wrap (U+1)=U+1:=fm (by omega) (by omega)
 have hv:=mZ (IntKind.i64.wrap (U+1)) c
 have kB:=P_ (c:=c) aT bb
 unfold zQ at kB
 unfold RV RX
 refine⟨aj.mono (by omega),⟨⟨hv.1,by omega⟩,(bW.pick (k:=8) (aj.mono (by omega)) (by omega)).mono (by omega),by show 0+_≤4;omega,rfl⟩,fun bL a3 aK v ⟨aJ,aG,aL,he⟩=>⟨fun hv=> ?_,fun hv=>⟨aG.mono ?_,by omega,?_⟩⟩⟩
 ·have hv: ¬v>0:=by simpa using hv
  have hl:v.toNat=0:=by omega
  rw[hl] at he
  unfold h3 hr
  rw[←he]
  exact⟨rfl,by omega,rfl⟩
 ·have hv:v>0:=by simpa using hv
  omega
 ·have hv:v>0:=by simpa using hv
  have mJ:IntKind.i64.wrap (v - 1)=v - 1:=fm (by omega) (by omega)
  have yf:v.toNat=(v - 1).toNat+1:=by omega
  have bg:bW (2*(v - 1)) (bK M bL):=bW.pick (aG.mono (by omega)) (by omega)
  rw[yf] at he
  unfold vd at he
  unfold RW
  rw[mJ]
  refine⟨fun hb=>⟨⟨by simp;omega,by simp;omega⟩,⟨⟨by omega,by omega⟩,bg,by simp;omega,?_⟩,by show(v - 1).toNat<v.toNat;omega⟩,fun hb=>⟨⟨⟨by omega,by omega⟩,bg,by omega,?_⟩,by show(v - 1).toNat<v.toNat;omega⟩⟩
  ·rw[if_pos hb] at he;exact he
  ·rw[if_neg (by rw[hb];simp)] at he;exact he)
def aez:lg Try.prog:=⟨149,.c9,[.p,.v .int,.v .int,.v (.l .int)],[(.l .int)],fun x c=>zR x.1 x.2.1 x.2.2.1 c,fun x c=>h3 x.1 x.2.1 x.2.2.1 c,fun x c=>((hr x.1 x.2.1 x.2.2.1 c),()),fun g x c h=>aey g x.1 x.2.1 x.2.2.1 c h⟩
def RF (c c':ba) (al:Event):Prop:=
  (((cK 2 (bK 4 (bK 8 (bK 9 c))))==0)=true→((bK 2 (bK 4 (bK 8 (bK 9 c))))=c')∧(((cK 9 c)=al.op)∧((IntKind.i64.wrap ((cK 8 (bK 9 c)) - 1))=al.ah)∧(0=al.bk)))∧(((cK 2 (bK 4 (bK 8 (bK 9 c))))==0)=false→((bK 2 (bK 4 (bK 8 (bK 9 c))))=c')∧(((cK 9 c)=al.op)∧((IntKind.i64.wrap ((cK 8 (bK 9 c)) - 1))=al.ah)∧((IntKind.i64.wrap ((cK 4 (bK 8 (bK 9 c))) - 1))=al.bk)))
def RE (M:az) (c c':ba) (al:Event):Prop:=
 ((iD 9 c)∧((iD 8 (bK 9 c))∧(iD 4 (bK 8 (bK 9 c)))))∧((iD 2 (bK 4 (bK 8 (bK 9 c))))∧(RF c c' al))
theorem ael (hg:Nat) (M:az) (c:ba) (aG:GJ M c):iJ Try.prog 151 hg (jQ hg [.p,.v .c8] (M,())) (b8 false .c9 c) (b8 false .c9 (oV M c)) (kX [.fE] ((iC M c),())):=(fun(h:RE M c (oV M c) (iC M c))=>iJ.run (hg:=hg) (ce:= .c9) (l:=[.p,.v .c8]) (rs:=[.fE]) (x:=(M,())) (c:=c) (c':=(oV M c)) (r:=((iC M c),())) ⟨20,dZ,[]⟩ ⟨[],[],[],[zT],[]⟩ .nil Try.func151 h) (by
 unfold RE RF oV iC
 have h1:bW 6 (bK 9 c):=bW.pick (aG.mono (by omega)) (by omega)
 have h2:bW 4 (bK 8 (bK 9 c)):=bW.pick (h1.mono (by omega)) (by omega)
 have aO:bW 2 (bK 4 (bK 8 (bK 9 c))):=bW.pick (h2.mono (by omega)) (by omega)
 refine⟨⟨aG.mono (by omega),h1.mono (by omega),h2.mono (by omega)⟩,aO.mono (by omega),fun h=>⟨rfl,rfl,rfl,?_⟩,fun h=>⟨rfl,rfl,rfl,?_⟩⟩
 ·rw[h];rfl
 ·rw[h];rfl)
def aem:lg Try.prog:=⟨151,.c9,[.p,.v .c8],[.fE],fun x c=>GJ x.1 c,fun x c=>oV x.1 c,fun x c=>((iC x.1 c),()),fun g x c h=>ael g x.1 c h⟩
def aeC:List Item:=[av 0,av 1,av 2,av 3,av 4,av 5,av 6,av 7,av 8,av 9,av 10,av 11,av 12,av 13,av 14,av 15,av 16,av 17,av 18,av 19,av 20,av 21,av 22,av 23,av 24,av 25,av 26,av 27]
def aeD:List (List Nat):=[[],[0],[0,1],[0,1,2],rg 0 4,rg 0 5,rg 0 4,rg 0 7,rg 0 8,rg 0 9,rg 0 10,rg 0 11,rg 0 11,rg 0 11++[12],rg 0 11++[12,13],rg 0 15,rg 0 16,rg 0 17,rg 0 18,rg 0 17,rg 0 17,rg 0 17++[20],rg 0 17++[19,20,21],rg 0 17++rg 19 23,rg 0 24,rg 0 25,rg 0 26,rg 0 27]
def RZ (M:az) (U:Frame) (c c':ba) (al:Event) (df c6:Int):Prop:=
  ((((nth U.O c6).aq==4)=true→(0≤(nth (nth M.O c6).ai df)∧(nth (nth M.O c6).ai df).toNat<U.au.length)∧((nth U.au (nth (nth M.O c6).ai df))=true→(df==(IntKind.i64.wrap (((nth M.O c6).ai.length:Int) - 1)))=false→(0≤(IntKind.i64.wrap (df+1))∧(IntKind.i64.wrap (df+1)).toNat<(nth M.O c6).ai.length)∧(0≤(nth (nth M.O c6).ai (IntKind.i64.wrap (df+1)))∧(nth (nth M.O c6).ai (IntKind.i64.wrap (df+1))).toNat<U.au.length)))∧((((nth U.O c6).aq==4)&&((nth U.au (nth (nth M.O c6).ai df))&&((df==(IntKind.i64.wrap (((nth M.O c6).ai.length:Int) - 1))) || (nth U.au (nth (nth M.O c6).ai (IntKind.i64.wrap (df+1)))))))=true→(c=c')∧((4=al.op)∧((nth (nth M.O c6).ai df)=al.ah)∧(0=al.bk))))∧((!(((nth U.O c6).aq==4)&&((nth U.au (nth (nth M.O c6).ai df))&&((df==(IntKind.i64.wrap (((nth M.O c6).ai.length:Int) - 1))) || (nth U.au (nth (nth M.O c6).ai (IntKind.i64.wrap (df+1))))))))=true→((decide (df ≥ (nth U.O c6).af))=true→0≤df∧df.toNat<(nth U.O c6).ac.length)∧(((decide (df ≥ (nth U.O c6).af))&&(!(nth (nth U.O c6).ac df)))=true→(c=c')∧((3=al.op)∧((nth (nth M.O c6).ai df)=al.ah)∧(0=al.bk))))
def R0 (aY:Int→Int→Prop) (a0:Int→Int→Nat) (M:az) (U:Frame) (c c':ba) (al:Event) (df c6:Int):Prop:=
  ((0≤df∧df.toNat<(nth M.O c6).ai.length)∧(RZ M U c c' al df c6))∧(((!(((nth U.O c6).aq==4)&&((nth U.au (nth (nth M.O c6).ai df))&&((df==(IntKind.i64.wrap (((nth M.O c6).ai.length:Int) - 1))) || (nth U.au (nth (nth M.O c6).ai (IntKind.i64.wrap (df+1))))))))&&(!((decide (df ≥ (nth U.O c6).af))&&(!(nth (nth U.O c6).ac df)))))=true→aY c6 (IntKind.i64.wrap (df+1))∧a0 c6 (IntKind.i64.wrap (df+1))<a0 c6 df)
def R1 (ay:Int→Prop) (aA:Int→Nat) (aY:Int→Int→Prop) (a0:Int→Int→Nat) (M:az) (U:Frame) (c c':ba) (al:Event) (c6:Int):Prop:=
  (0≤c6∧c6.toNat<M.O.length)∧((nth M.O c6).ai.length≤4611686018427387904→aY c6 0∧ ∀(df:Int),aY c6 df→(((decide (df<((nth M.O c6).ai.length:Int)))=false→ay (IntKind.i64.wrap (c6+1))∧aA (IntKind.i64.wrap (c6+1))<aA c6)∧((decide (df<((nth M.O c6).ai.length:Int)))=true→R0 aY a0 M U c c' al df c6)))
def R2 (ay:Int→Prop) (aA:Int→Nat) (aY:Int→Int→Prop) (a0:Int→Int→Nat) (M:az) (U:Frame) (c c':ba) (al:Event) (c6:Int):Prop:=
  ((decide (c6<(U.O.length:Int)))=false→(c=c')∧((1=al.op)∧(0=al.ah)∧(0=al.bk)))∧((decide (c6<(U.O.length:Int)))=true→(0≤c6∧c6.toNat<U.O.length)∧(((((nth U.O c6).aq==0) || ((nth U.O c6).aq==1))=true→ay (IntKind.i64.wrap (c6+1))∧aA (IntKind.i64.wrap (c6+1))<aA c6)∧((!(((nth U.O c6).aq==0) || ((nth U.O c6).aq==1)))=true→R1 ay aA aY a0 M U c c' al c6)))
def RY (M:az) (U:Frame) (c c':ba) (al:Event) (ay:Int→Prop) (aA:Int→Nat) (aY:Int→Int→Prop) (a0:Int→Int→Nat):Prop:=
 U.O.length≤4611686018427387904→ay 0∧ ∀(c6:Int),ay c6→(R2 ay aA aY a0 M U c c' al c6)
theorem aeA (hg:Nat) (M:az) (U:Frame) (c:ba) (aG:Ja M U c):iJ Try.prog 164 hg (jQ hg [.p,.v .c8,.v .frame] (M,U,())) (b8 false .c9 c) (b8 false .c9 (z0 M U c)) (kX [.fE] ((pZ M U c),())):=(fun(ay:Int→Prop) (aA:Int→Nat) (aY:Int→Int→Prop) (a0:Int→Int→Nat) (h:RY M U c (z0 M U c) (pZ M U c) ay aA aY a0)=>iJ.run (hg:=hg) (ce:= .c9) (l:=[.p,.v .c8,.v .frame]) (rs:=[.fE]) (x:=(M,U,())) (c:=c) (c':=(z0 M U c)) (r:=((pZ M U c),())) ⟨88,dZ,[]⟩ ⟨[],[(9,aeC,aeD)],[],[],[]⟩ (e8 [4,5,6,13,14] [(6,3),(5,4),(4,5)] 15 ay aA fun aS=>(e8 [4,5,6,8,9,13,14,15,34,35] [(8,5),(6,3),(5,4),(4,5)] 36 (aY aS) (a0 aS) fun _=> .nil)) Try.func164 h) (fun i=>(0≤i∧i≤U.O.length)∧xI M U (U.O.length - i).toNat i=pZ M U c) (fun i=>(U.O.length - i).toNat) (fun i k=>(0≤k∧k≤(nth M.O i).ai.length)∧vm M U i ((nth M.O i).ai.length - k).toNat k=vm M U i (nth M.O i).ai.length 0) (fun i k=>((nth M.O i).ai.length - k).toNat) (by
 obtain⟨cF,c_⟩:=aG
 have af7:U.O.length=M.O.length:=c_.O
 have hw:=cF.O
 unfold RY
 refine fun aF=>⟨⟨⟨Int.le_refl _,by omega⟩,by show xI M U ((U.O.length:Int) - 0).toNat 0=_;rw[show((U.O.length:Int) - 0).toNat=U.O.length by omega];rfl⟩,fun i ⟨⟨i0,i1⟩,hi⟩=> ?_⟩
 unfold R2
 refine⟨fun he=> ?_,fun bc=> ?_⟩
 ·have he: ¬i<(U.O.length:Int):=by simpa using he
  rw[show((U.O.length:Int) - i).toNat=0 by omega] at hi
  rw[←hi];exact⟨rfl,rfl,rfl,rfl⟩
 have bc:i<(U.O.length:Int):=by simpa using bc
 have mJ:IntKind.i64.wrap (i+1)=i+1:=fm (by omega) (by omega)
 have hm:=cF.ai _ (dC (xs:=M.O) (i:=i) (by omega))
 have hb:=c_.ac i.toNat (nth U.O i) (nth M.O i) (gS (by omega)) (gS (by omega))
 have hg:=c_.af _ (dC (xs:=U.O) (i:=i) (by omega))
 have yf:((U.O.length:Int) - i).toNat=((U.O.length:Int) - (i+1)).toNat+1:=by omega
 rw[yf] at hi
 unfold xI at hi
 refine⟨⟨i0,by omega⟩,fun rH=> ?_,fun rH=> ?_⟩
 ·rw[if_pos rH] at hi
  rw[mJ];exact⟨⟨⟨by omega,by omega⟩,hi⟩,by show((U.O.length:Int) - (i+1)).toNat<((U.O.length:Int) - i).toNat;omega⟩
 have rH:(((nth U.O i).aq==0) || ((nth U.O i).aq==1))=false:=by simpa using rH
 rw[if_neg (by rw[rH];simp)] at hi
 unfold R1
 refine⟨⟨i0,by omega⟩,fun aL=>⟨⟨⟨Int.le_refl _,by omega⟩,by show vm M U i (((nth M.O i).ai.length:Int) - 0).toNat 0=_;rw[show(((nth M.O i).ai.length:Int) - 0).toNat=(nth M.O i).ai.length by omega]⟩,fun k ⟨⟨a_,dP⟩,hk⟩=>⟨fun he=> ?_,fun kE=> ?_⟩⟩⟩
 ·have he: ¬k<((nth M.O i).ai.length:Int):=by simpa using he
  rw[show(((nth M.O i).ai.length:Int) - k).toNat=0 by omega] at hk
  rw[←hk] at hi
  rw[mJ];exact⟨⟨⟨by omega,by omega⟩,hi⟩,by show((U.O.length:Int) - (i+1)).toNat<((U.O.length:Int) - i).toNat;omega⟩
 have kE:k<((nth M.O i).ai.length:Int):=by simpa using kE
 have BP:IntKind.i64.wrap (k+1)=k+1:=fm (by omega) (by omega)
 have l0:IntKind.i64.wrap (((nth M.O i).ai.length:Int) - 1)=(nth M.O i).ai.length - 1:=fm (by omega) (by omega)
 have ey:(((nth M.O i).ai.length:Int) - k).toNat=(((nth M.O i).ai.length:Int) - (k+1)).toNat+1:=by omega
 have aC:=c_.au
 have hs:=hm.2.2 _ (dC (xs:=(nth M.O i).ai) (i:=k) (by omega))
 rw[ey] at hk
 revert hk hi
 generalize lm:vm M U i (nth M.O i).ai.length 0=G
 intro hi hk
 unfold vm at hk
 unfold R0
 refine⟨⟨⟨a_,by omega⟩,?_⟩,fun hb=> ?_⟩
 ·unfold RZ
  refine⟨⟨fun _=>⟨⟨hs.1,by omega⟩,fun _ cm=> ?_⟩,fun hb=> ?_⟩,fun hb=>⟨fun _=>⟨a_,by omega⟩,fun jT=> ?_⟩⟩
  ·rw[l0] at cm
   have cm:k≠(nth M.O i).ai.length - 1:=by simpa using cm
   rw[BP]
   have By:=hm.2.2 _ (dC (xs:=(nth M.O i).ai) (i:=k+1) (by omega))
   exact⟨⟨by omega,by omega⟩,By.1,by omega⟩
  ·rw[if_pos hb] at hk
   rw[←hk] at hi
   rw[←hi];exact⟨rfl,rfl,rfl,rfl⟩
  ·rw[if_neg (by rw[not_eq hb];simp),if_pos jT] at hk
   rw[←hk] at hi
   rw[←hi];exact⟨rfl,rfl,rfl,rfl⟩
 ·rw[Bool.and_eq_true] at hb
  rw[if_neg (by rw[not_eq hb.1];simp),if_neg (by rw[not_eq hb.2];simp)] at hk
  rw[BP]
  exact⟨⟨⟨by omega,by omega⟩,hk.trans lm.symm⟩,by show(((nth M.O i).ai.length:Int) - (k+1)).toNat<(((nth M.O i).ai.length:Int) - k).toNat;omega⟩)
def aeB:lg Try.prog:=⟨164,.c9,[.p,.v .c8,.v .frame],[.fE],fun x c=>Ja x.1 x.2.1 c,fun x c=>z0 x.1 x.2.1 c,fun x c=>((pZ x.1 x.2.1 c),()),fun g x c h=>aeA g x.1 x.2.1 c h⟩
def Rq (M:az) (c c':ba) (al:Event):Prop:=
  ((g9 M c)=c')∧((1=al.op)∧((xQ M c)=al.ah)∧(0=al.bk))
def Rs (M:az) (c c':ba) (al:Event):Prop:=
  ((g9 M c)=c')∧((2=al.op)∧((xQ M c)=al.ah)∧(0=al.bk))
def Rv (M:az) (c c':ba) (al:Event):Prop:=
  ((g9 M c)=c')∧((3=al.op)∧((xP M c)=al.ah)∧(0=al.bk))
def Rw (M:az) (c c':ba) (al:Event):Prop:=
  ((g9 M c)=c')∧((4=al.op)∧((xP M c)=al.ah)∧(0=al.bk))
def Rx (M:az) (c c':ba) (al:Event):Prop:=
  ((bK 2 (g9 M c))=c')∧((6=al.op)∧((kv M c)=al.ah)∧((IntKind.i64.wrap (1+(cK 2 (g9 M c))))=al.bk))
def Ry (M:az) (c c':ba) (al:Event):Prop:=
  ((g9 M c)=c')∧((7=al.op)∧(0=al.ah)∧(0=al.bk))
def Rz (M:az) (U:Frame) (c c':ba) (al:Event):Prop:=
  ((g9 M c)=c')∧((5=al.op)∧((kv M c)=al.ah)∧((nth U.an (kv M c)).cC=al.bk))
def aec (M:az) (U:Frame) (c c':ba) (al:Event):Prop:=
  (decide ((U.an.length:Int)>(kv M c)))=true→(0≤(kv M c)∧(kv M c).toNat<U.an.length)∧(Rz M U c c' al)
def RA (M:az) (c c':ba) (al:Event):Prop:=
  ((bK 3 (g9 M c))=c')∧((5=al.op)∧((kv M c)=al.ah)∧((cK 3 (g9 M c))=al.bk))
def ad4 (M:az) (c c':ba) (al:Event):Prop:=
  ((fN M c)==16)=true→(iD 3 (g9 M c))∧(RA M c c' al)
def ad5 (M:az) (U:Frame) (c c':ba) (al:Event):Prop:=
  ((vt (fN M c))=true→U.an.length≤4611686018427387904→aec M U c c' al)∧((vt (fN M c))=false→ad4 M c c' al)
def ad6 (M:az) (U:Frame) (c c':ba) (al:Event):Prop:=
  ((lK 11 12 (fN M c))=true→Ry M c c' al)∧((lK 11 12 (fN M c))=false→ad5 M U c c' al)
def ad7 (M:az) (U:Frame) (c c':ba) (al:Event):Prop:=
  (((fN M c)==10)=true→(iD 2 (g9 M c))∧(Rx M c c' al))∧(((fN M c)==10)=false→ad6 M U c c' al)
def ad8 (M:az) (U:Frame) (c c':ba) (al:Event):Prop:=
  ((lK 8 9 (fN M c))=true→Rw M c c' al)∧((lK 8 9 (fN M c))=false→ad7 M U c c' al)
def ad9 (M:az) (U:Frame) (c c':ba) (al:Event):Prop:=
  ((lK 6 7 (fN M c))=true→Rv M c c' al)∧((lK 6 7 (fN M c))=false→ad8 M U c c' al)
def ad_ (M:az) (U:Frame) (c c':ba) (al:Event):Prop:=
  ((lK 4 5 (fN M c))=true→Rs M c c' al)∧((lK 4 5 (fN M c))=false→ad9 M U c c' al)
def aea (M:az) (U:Frame) (c c':ba) (al:Event):Prop:=
  ((xO (fN M c))=true→Rq M c c' al)∧((xO (fN M c))=false→ad_ M U c c' al)
def Rr (M:az) (U:Frame) (c c':ba) (al:Event):Prop:=
  ((z0 M U (g9 M c))=c')∧(((pZ M U (g9 M c)).op=al.op)∧((pZ M U (g9 M c)).ah=al.ah)∧((pZ M U (g9 M c)).bk=al.bk))
def aeb (M:az) (U:Frame) (c c':ba) (al:Event):Prop:=
  (Ja M U (g9 M c))∧(Rr M U c c' al)
def Rt (M:az) (U:Frame) (c c':ba) (al:Event):Prop:=
  ((iD 20 (z8 M c))∧(aea M U c c' al))∧((!(xO (fN M c))&&(!(lK 4 5 (fN M c))&&(!(lK 6 7 (fN M c))&&(!(lK 8 9 (fN M c))&&(!((fN M c)==10)&&(!(lK 11 12 (fN M c))&&(bif (vt (fN M c)) then(!(decide ((U.an.length:Int)>(kv M c)))) else(!((fN M c)==16)))))))))=true→aeb M U c c' al)
def Ru (M:az) (U:Frame) (c c':ba) (al:Event):Prop:=
  (M.be.length≤4611686018427387904→(decide ((M.be.length:Int)>0))=true→iD (M.be.length:Int) (z7 M c))∧(M.be.length≤4611686018427387904→Rt M U c c' al)
def Rp (M:az) (U:Frame) (c c':ba) (al:Event):Prop:=
 (M.O.length≤4611686018427387904→(decide ((M.O.length:Int)>0))=true→iD (M.O.length:Int) c)∧(M.O.length≤4611686018427387904→((decide (M.ai>0))=true→iD M.ai (z6 M c))∧(Ru M U c c' al))
theorem aed (hg:Nat) (M:az) (U:Frame) (c:ba) (aG:Eb M U c):iJ Try.prog 150 hg (jQ hg [.p,.v .c8,.v .frame] (M,U,())) (b8 false .c9 c) (b8 false .c9 (eL M U c)) (kX [.fE] ((fo M U c),())):=(fun(h:Rp M U c (eL M U c) (fo M U c))=>iJ.run (hg:=hg) (ce:= .c9) (l:=[.p,.v .c8,.v .frame]) (rs:=[.fE]) (x:=(M,U,())) (c:=c) (c':=(eL M U c)) (r:=((fo M U c),())) ⟨97,dZ,[]⟩ ⟨[17,33],[],[],[zT,aeB],[]⟩ .nil Try.func150 h) (by
 obtain⟨hs,aj⟩:=aG
 have h1:bW 8 (z6 M c):=bW.xc (aj.mono (by omega)) (by omega)
 have h2:bW 6 (z7 M c):=bW.xc (h1.mono (by omega)) (by omega)
 have aO:bW 4 (z8 M c):=bW.xc (h2.mono (by omega)) (by omega)
 have bb:bW 2 (g9 M c):=bW.pick (aO.mono (by omega)) (by omega)
 have uR:0≤kv M c:=by
  unfold kv
  cases decide ((M.be.length:Int)>0) with
  | true=>exact(mZ _ _).1
  | false=>exact Int.le_refl _
 have sH:fN M c≠10→fN M c≠16→eL M U c=g9 M c:=fun mW n2=>by
  unfold eL;rw[if_neg mW,if_neg n2]
 unfold Rp Ru Rt
 refine⟨fun _ _=>aj.mono (by omega),fun _=>⟨fun _=>h1.mono (by omega),fun _ _=>h2.mono (by omega),fun _=>⟨⟨aO.mono (by omega),?_⟩,fun hb=>⟨hs,?_⟩⟩⟩⟩
 ·refine⟨fun jP=> ?_,fun jP=>⟨fun ju=> ?_,fun ju=>⟨fun pe=> ?_,fun pe=>⟨fun p9=> ?_,fun p9=>⟨fun p6=>⟨bb,?_⟩,fun p6=>⟨fun sq=> ?_,fun sq=>⟨fun p7 _ bg=>⟨⟨uR,?_⟩,?_⟩,fun p7 JJ=>⟨bb,?_⟩⟩⟩⟩⟩⟩⟩⟩
  ·have:=afp jP
   unfold Rq
   rw[sH (by omega) (by omega),show fo M U c=⟨1,xQ M c,0⟩ by unfold fo;rw[jP];rfl]
   exact⟨rfl,rfl,rfl,rfl⟩
  ·have:=CW ju
   unfold Rs
   rw[sH (by omega) (by omega),show fo M U c=⟨2,xQ M c,0⟩ by unfold fo;rw[jP,ju];rfl]
   exact⟨rfl,rfl,rfl,rfl⟩
  ·have:=CW pe
   unfold Rv
   rw[sH (by omega) (by omega),show fo M U c=⟨3,xP M c,0⟩ by unfold fo;rw[jP,ju,pe];rfl]
   exact⟨rfl,rfl,rfl,rfl⟩
  ·have:=CW p9
   unfold Rw
   rw[sH (by omega) (by omega),show fo M U c=⟨4,xP M c,0⟩ by unfold fo;rw[jP,ju,pe,p9];rfl]
   exact⟨rfl,rfl,rfl,rfl⟩
  ·have e:fN M c=10:=by simpa using p6
   unfold Rx
   rw[show eL M U c=bK 2 (g9 M c) by unfold eL;rw[if_pos e],show fo M U c=⟨6,kv M c,IntKind.i64.wrap (1+cK 2 (g9 M c))⟩ by unfold fo;rw[jP,ju,pe,p9,p6];rfl]
   exact⟨rfl,rfl,rfl,rfl⟩
  ·have:=CW sq
   unfold Ry
   rw[sH (by omega) (by omega),show fo M U c=⟨7,0,0⟩ by unfold fo;rw[jP,ju,pe,p9,p6,sq];rfl]
   exact⟨rfl,rfl,rfl,rfl⟩
  ·have:(U.an.length:Int)>kv M c:=by simpa using bg
   omega
  ·have:=SD p7
   unfold Rz
   rw[sH (by omega) (by omega),show fo M U c=⟨5,kv M c,(nth U.an (kv M c)).cC⟩ by unfold fo;rw[jP,ju,pe,p9,p6,sq,p7,bg];rfl]
   exact⟨rfl,rfl,rfl,rfl⟩
  ·have e:fN M c=16:=by simpa using JJ
   unfold RA
   rw[show eL M U c=bK 3 (g9 M c) by unfold eL;rw[if_neg (by omega),if_pos e],show fo M U c=⟨5,kv M c,cK 3 (g9 M c)⟩ by unfold fo;rw[jP,ju,pe,p9,p6,sq,p7,JJ];rfl]
   exact⟨rfl,rfl,rfl,rfl⟩
 ·simp only[Bool.and_eq_true,Bool.not_eq_true'] at hb
  obtain⟨jP,ju,pe,p9,p6,sq,hb⟩:=hb
  have Uz:fN M c≠10:=by simpa using p6
  have key:eL M U c=g9 M c∧fo M U c=pZ M U (g9 M c):=by
   cases p7:vt (fN M c) with
   | true=>
    have:=SD p7
    rw[p7] at hb
    have hb:decide ((U.an.length:Int)>kv M c)=false:=by simpa using hb
    exact⟨sH (by omega) (by omega),by unfold fo;rw[jP,ju,pe,p9,p6,sq,p7,hb];rfl⟩
   | false=>
    rw[p7] at hb
    have hb:(fN M c==16)=false:=by simpa using hb
    exact⟨sH Uz (by simpa using hb),by unfold fo;rw[jP,ju,pe,p9,p6,sq,p7,hb];rfl⟩
  unfold Rr
  rw[key.1,key.2]
  exact⟨rfl,rfl,rfl,rfl⟩)
def aee:lg Try.prog:=⟨150,.c9,[.p,.v .c8,.v .frame],[.fE],fun x c=>Eb x.1 x.2.1 c,fun x c=>eL x.1 x.2.1 c,fun x c=>((fo x.1 x.2.1 c),()),fun g x c h=>aed g x.1 x.2.1 c h⟩
def aew:List Item:=[av 0,av 1,av 2,av 3,av 4,⟨5,true,false,[0,1]⟩,av 6,⟨7,true,false,[]⟩,av 8,⟨9,true,false,[]⟩]
def aex:List (List Nat):=[[],[0],[],[],[3],[2,3,4],rg 2 6,rg 0 7,rg 0 8,rg 0 9]
def aeq:List Item:=[av 0,av 1,av 2,av 3,⟨4,true,false,[0,1,2]⟩,av 5,av 6,av 7,⟨8,true,false,[]⟩,av 9,⟨10,true,false,[]⟩]
def aer:List (List Nat):=[[],[0],[],[],[3],[3,4],rg 2 6,rg 2 7,rg 0 8,rg 0 9,rg 0 10]
def aes:List Item:=[av 0,av 1,av 2,av 3,⟨4,true,false,[0,1,2]⟩,av 5,av 6,av 7,⟨8,true,false,[]⟩,av 9,⟨10,true,false,[]⟩]
def aet:List (List Nat):=[[],[0],[],[],[3],[3,4],rg 2 6,rg 2 7,rg 0 8,rg 0 9,rg 0 10]
def aeu:List Item:=[av 0,av 1,av 2,av 3,av 4,av 5,av 6,av 7,av 8,av 9,av 10,av 11,av 12,av 13,av 14,av 15,av 16,av 17,av 18,av 19,av 20,av 21,⟨22,true,false,[0,1]⟩,av 23,av 24,av 25,⟨26,true,false,[]⟩]
def aev:List (List Nat):=[[],[],[],[],[2,3],[2,3,4],rg 2 6,rg 2 7,rg 2 6,rg 2 9,rg 2 10,rg 2 11,rg 2 6,rg 2 6++[12],rg 2 6,rg 2 6++[12,13,14],rg 2 6++rg 12 16,rg 2 6++rg 12 17,rg 2 18,rg 2 19,rg 2 20,rg 2 21,rg 2 22,rg 2 23,rg 2 24,rg 0 25,rg 0 26]
abbrev mA (r:Type):Type:=ba→Nat→(List Int)→Int→ba→Nat→(List Way)→Int→ba→Nat→(List (List Bool))→Int→ba→(List Bool)→Int→r
def RI (cg:mA Prop) (cd:mA Nat) (bL:ba) (a3:Nat) (aK:(List Int)) (v4:Int) (dR dh:ba) (a1 bP:Nat) (bo:(List Way)) (ea:(List (List Bool))) (eI:(List Bool)) (da eN fG:Int) (eK:ba):Prop:=
  ((decide (eN<fG))=true→(0≤eN∧eN.toNat<ea.length)∧((eN.toNat<ea.length)∧((0≤fG∧fG.toNat<(nth ea eN).length)∧((0≤eN∧eN.toNat<eI.length)∧((eN.toNat<eI.length)∧(cg bL a3 aK v4 dR a1 bo da dh bP ea fG eK (eI.set eN.toNat (nth (nth ea eN) fG)) (IntKind.i64.wrap (eN+1))∧cd bL a3 aK v4 dR a1 bo da dh bP ea fG eK (eI.set eN.toNat (nth (nth ea eN) fG)) (IntKind.i64.wrap (eN+1))<cd bL a3 aK v4 dR a1 bo da dh bP ea fG eK eI eN))))))∧((decide (eN<fG))=false→((fG==eN)=true→(0≤eN∧eN.toNat<eI.length)∧((eN.toNat<eI.length)∧(cg bL a3 aK v4 dR a1 bo da dh bP ea fG eK (eI.set eN.toNat true) (IntKind.i64.wrap (eN+1))∧cd bL a3 aK v4 dR a1 bo da dh bP ea fG eK (eI.set eN.toNat true) (IntKind.i64.wrap (eN+1))<cd bL a3 aK v4 dR a1 bo da dh bP ea fG eK eI eN)))∧((fG==eN)=false→(0≤fG∧fG.toNat<bo.length)∧((fG.toNat<bo.length)∧((0≤eN∧eN.toNat<bo.length)∧((eN.toNat<bo.length)∧(((meets (nth bo fG).ai (nth bo eN).ai)=true→(0≤eN∧eN.toNat<eI.length)∧((eN.toNat<eI.length)∧(cg bL a3 aK v4 dR a1 bo da dh bP ea fG eK (eI.set eN.toNat true) (IntKind.i64.wrap (eN+1))∧cd bL a3 aK v4 dR a1 bo da dh bP ea fG eK (eI.set eN.toNat true) (IntKind.i64.wrap (eN+1))<cd bL a3 aK v4 dR a1 bo da dh bP ea fG eK eI eN)))∧((meets (nth bo fG).ai (nth bo eN).ai)=false→(iD 4 eK)∧((0≤eN∧eN.toNat<eI.length)∧((eN.toNat<eI.length)∧(cg bL a3 aK v4 dR a1 bo da dh bP ea fG (bK 4 eK) (eI.set eN.toNat ((cK 4 eK)==0)) (IntKind.i64.wrap (eN+1))∧cd bL a3 aK v4 dR a1 bo da dh bP ea fG (bK 4 eK) (eI.set eN.toNat ((cK 4 eK)==0)) (IntKind.i64.wrap (eN+1))<cd bL a3 aK v4 dR a1 bo da dh bP ea fG eK eI eN))))))))))
abbrev nI (r:Type):Type:=ba→Nat→(List Int)→Int→ba→Nat→(List Way)→Int→ba→Nat→(List (List Bool))→Int→r
def RN (bG:nI Prop) (bD:nI Nat) (cg:mA Prop) (cd:mA Nat) (bL:ba) (a3:Nat) (aK:(List Int)) (v4:Int) (dR dh:ba) (a1 bP:Nat) (bo:(List Way)) (ea:(List (List Bool))) (eI:(List Bool)) (da eN fG:Int) (eK:ba):Prop:=
  ((decide (eN<(bo.length:Int)))=false→(eI.length≤4611686018427387904)∧(((ea.length+[eI].length)*24≤140737488355328∧ea.length+[eI].length≤4611686018427387904)∧(bG bL a3 aK v4 dR a1 bo da eK (bP+1) (ea++[eI]) (IntKind.i64.wrap (fG+1))∧bD bL a3 aK v4 dR a1 bo da eK (bP+1) (ea++[eI]) (IntKind.i64.wrap (fG+1))<bD bL a3 aK v4 dR a1 bo da dh bP ea fG)))∧((decide (eN<(bo.length:Int)))=true→RI cg cd bL a3 aK v4 dR dh a1 bP bo ea eI da eN fG eK)
def RO (bG:nI Prop) (bD:nI Nat) (cg:mA Prop) (cd:mA Nat) (bL:ba) (a3:Nat) (aK:(List Int)) (v4:Int) (dR dh:ba) (a1 bP:Nat) (bo:(List Way)) (ea:(List (List Bool))) (da fG:Int):Prop:=
  (0≤(bo.length:Int)∧1*(bo.length:Int)≤140737488355328∧(bo.length:Int)≤4611686018427387904)∧(cg bL a3 aK v4 dR a1 bo da dh bP ea fG dh (List.replicate (bo.length:Int).toNat false) 0∧ ∀(eK:ba) (eI:(List Bool)) (eN:Int),cg bL a3 aK v4 dR a1 bo da dh bP ea fG eK eI eN→(RN bG bD cg cd bL a3 aK v4 dR dh a1 bP bo ea eI da eN fG eK))
def RP (bG:nI Prop) (bD:nI Nat) (cg:mA Prop) (cd:mA Nat) (c c':ba) (al:az) (bL:ba) (a3:Nat) (aK:(List Int)) (v4:Int) (dR dh:ba) (a1 bP:Nat) (bo:(List Way)) (ea:(List (List Bool))) (da fG:Int):Prop:=
  ((decide (fG<(bo.length:Int)))=false→(dh=c')∧(((dm c)=al.ai)∧(aK.length≤4611686018427387904∧aK=al.be)∧(bo.length≤4611686018427387904∧bo=al.O)∧(ea.length≤4611686018427387904∧ea=al.bU)∧((uY c)=al.dn)))∧((decide (fG<(bo.length:Int)))=true→RO bG bD cg cd bL a3 aK v4 dR dh a1 bP bo ea da fG)
abbrev lH (r:Type):Type:=ba→Nat→(List Int)→Int→ba→Nat→(List Way)→Int→ba→(List Int)→ba→Nat→Nat→(List cx)→(List cx)→Int→r
def RQ (jO:lH Prop) (iS:lH Nat) (bL:ba) (a3:Nat) (aK:(List Int)) (v4:Int) (dR:ba) (eS:(List Int)) (dh:ba) (a1 bP:Nat) (bo:(List Way)) (ea:(List cx)) (hz:Int) (lW:Nat) (eI:(List cx)) (da:Int) (eK:ba):Prop:=
  (((cK 3 eK)==0)=true→(iD 2 (bK 3 eK))∧(((eI.length+[(cx.mk hz (IntKind.i64.wrap (1+(cK 2 (bK 3 eK)))))].length)*16≤140737488355328∧eI.length+[(cx.mk hz (IntKind.i64.wrap (1+(cK 2 (bK 3 eK)))))].length≤4611686018427387904)∧(jO bL a3 aK v4 dR a1 bo da dh eS (bK 2 (bK 3 eK)) bP (lW+1) ea (eI++[(cx.mk hz (IntKind.i64.wrap (1+(cK 2 (bK 3 eK)))))]) (IntKind.i64.wrap (hz+1))∧iS bL a3 aK v4 dR a1 bo da dh eS (bK 2 (bK 3 eK)) bP (lW+1) ea (eI++[(cx.mk hz (IntKind.i64.wrap (1+(cK 2 (bK 3 eK)))))]) (IntKind.i64.wrap (hz+1))<iS bL a3 aK v4 dR a1 bo da dh eS eK bP lW ea eI hz)))∧(((cK 3 eK)==0)=false→jO bL a3 aK v4 dR a1 bo da dh eS (bK 3 eK) bP lW ea eI (IntKind.i64.wrap (hz+1))∧iS bL a3 aK v4 dR a1 bo da dh eS (bK 3 eK) bP lW ea eI (IntKind.i64.wrap (hz+1))<iS bL a3 aK v4 dR a1 bo da dh eS eK bP lW ea eI hz)
def RR (jO:lH Prop) (iS:lH Nat) (bL:ba) (a3:Nat) (aK:(List Int)) (v4:Int) (dR:ba) (eS:(List Int)) (dh:ba) (a1 bP:Nat) (bo:(List Way)) (ea:(List cx)) (hz:Int) (lW:Nat) (eI:(List cx)) (da:Int) (eK:ba):Prop:=
  ((meets [(nth aK hz)] eS)=true→(iD 2 eK)∧(((ea.length+[(cx.mk hz (IntKind.i64.wrap (1+(cK 2 eK))))].length)*16≤140737488355328∧ea.length+[(cx.mk hz (IntKind.i64.wrap (1+(cK 2 eK))))].length≤4611686018427387904)∧(jO bL a3 aK v4 dR a1 bo da dh eS (bK 2 eK) (bP+1) lW (ea++[(cx.mk hz (IntKind.i64.wrap (1+(cK 2 eK))))]) eI (IntKind.i64.wrap (hz+1))∧iS bL a3 aK v4 dR a1 bo da dh eS (bK 2 eK) (bP+1) lW (ea++[(cx.mk hz (IntKind.i64.wrap (1+(cK 2 eK))))]) eI (IntKind.i64.wrap (hz+1))<iS bL a3 aK v4 dR a1 bo da dh eS eK bP lW ea eI hz)))∧((meets [(nth aK hz)] eS)=false→(iD 3 eK)∧(RQ jO iS bL a3 aK v4 dR eS dh a1 bP bo ea hz lW eI da eK))
abbrev nJ (r:Type):Type:=ba→Nat→(List Int)→Int→ba→Nat→(List Way)→Int→r
def RS (aY:nJ Prop) (a0:nJ Nat) (jO:lH Prop) (iS:lH Nat) (c bL:ba) (a3:Nat) (aK:(List Int)) (v4:Int) (dR:ba) (eS:(List Int)) (dh:ba) (a1 bP:Nat) (bo:(List Way)) (ea:(List cx)) (hz:Int) (lW:Nat) (eI:(List cx)) (da:Int) (eK:ba):Prop:=
  ((decide (hz<(aK.length:Int)))=false→(ea.length≤4611686018427387904)∧((eI.length≤4611686018427387904)∧(((bo.length+[(Way.mk eS ea eI (hr (dm c) 2 eS dh) (hr (dm c) 2 eS (h3 (dm c) 2 eS dh)))].length)*120≤140737488355328∧bo.length+[(Way.mk eS ea eI (hr (dm c) 2 eS dh) (hr (dm c) 2 eS (h3 (dm c) 2 eS dh)))].length≤4611686018427387904)∧(aY bL a3 aK v4 eK (a1+1) (bo++[(Way.mk eS ea eI (hr (dm c) 2 eS dh) (hr (dm c) 2 eS (h3 (dm c) 2 eS dh)))]) (IntKind.i64.wrap (da - 1))∧a0 bL a3 aK v4 eK (a1+1) (bo++[(Way.mk eS ea eI (hr (dm c) 2 eS dh) (hr (dm c) 2 eS (h3 (dm c) 2 eS dh)))]) (IntKind.i64.wrap (da - 1))<a0 bL a3 aK v4 dR a1 bo da))))∧((decide (hz<(aK.length:Int)))=true→((0≤hz∧hz.toNat<aK.length)∧(hz.toNat<aK.length))∧(RR jO iS bL a3 aK v4 dR eS dh a1 bP bo ea hz lW eI da eK))
def RT (aY:nJ Prop) (a0:nJ Nat) (jO:lH Prop) (iS:lH Nat) (c bL:ba) (a3:Nat) (aK:(List Int)) (v4:Int) (dR:ba) (eS:(List Int)) (dh:ba) (a1:Nat) (bo:(List Way)) (da:Int):Prop:=
  jO bL a3 aK v4 dR a1 bo da dh eS (h3 (dm c) 2 eS (h3 (dm c) 2 eS dh)) 0 0 ([]:List cx) ([]:List cx) 0∧ ∀(eK:ba) (bP:Nat) (lW:Nat) (ea:(List cx)) (eI:(List cx)) (hz:Int),jO bL a3 aK v4 dR a1 bo da dh eS eK bP lW ea eI hz→(RS aY a0 jO iS c bL a3 aK v4 dR eS dh a1 bP bo ea hz lW eI da eK)
abbrev o8 (r:Type):Type:=ba→Nat→(List Int)→Int→ba→Nat→(List Way)→Int→ba→(List Int)→r
def RU (dr:o8 Prop) (du:o8 Nat) (c bL:ba) (a3:Nat) (aK:(List Int)) (v4:Int) (dR:ba) (eS:(List Int)) (dh:ba) (a1:Nat) (bo:(List Way)) (da:Int):Prop:=
  ((((hr (dm c) 4 [] dh).length:Int)==0)=true→(iD (dm c) (h3 (dm c) 4 [] dh))∧(dr bL a3 aK v4 dR a1 bo da (bK (dm c) (h3 (dm c) 4 [] dh)) ([(cK (dm c) (h3 (dm c) 4 [] dh))])∧du bL a3 aK v4 dR a1 bo da (bK (dm c) (h3 (dm c) 4 [] dh)) ([(cK (dm c) (h3 (dm c) 4 [] dh))])<du bL a3 aK v4 dR a1 bo da dh eS))∧((((hr (dm c) 4 [] dh).length:Int)==0)=false→dr bL a3 aK v4 dR a1 bo da (h3 (dm c) 4 [] dh) (hr (dm c) 4 [] dh)∧du bL a3 aK v4 dR a1 bo da (h3 (dm c) 4 [] dh) (hr (dm c) 4 [] dh)<du bL a3 aK v4 dR a1 bo da dh eS)
def RJ (aY:nJ Prop) (a0:nJ Nat) (dr:o8 Prop) (du:o8 Nat) (jO:lH Prop) (iS:lH Nat) (c bL:ba) (a3:Nat) (aK:(List Int)) (v4:Int) (dR:ba) (eS:(List Int)) (dh:ba) (a1:Nat) (bo:(List Way)) (da:Int):Prop:=
  (eS.length≤4611686018427387904→((eS.length:Int)==0)=false→(zR (dm c) 2 eS dh)∧((zR (dm c) 2 eS (h3 (dm c) 2 eS dh))∧(RT aY a0 jO iS c bL a3 aK v4 dR eS dh a1 bo da)))∧((eS.length≤4611686018427387904)∧(((eS.length:Int)==0)=true)→(zR (dm c) 4 [] dh)∧((hr (dm c) 4 [] dh).length≤4611686018427387904→RU dr du c bL a3 aK v4 dR eS dh a1 bo da))
def RK (aY:nJ Prop) (a0:nJ Nat) (bG:nI Prop) (bD:nI Nat) (cg:mA Prop) (cd:mA Nat) (dr:o8 Prop) (du:o8 Nat) (jO:lH Prop) (iS:lH Nat) (c c':ba) (al:az) (bL:ba) (a3:Nat) (aK:(List Int)) (v4:Int) (dR:ba) (a1:Nat) (bo:(List Way)) (da:Int):Prop:=
  ((decide (da>0))=false→bG bL a3 aK v4 dR a1 bo da dR 0 ([]:List (List Bool)) 0∧ ∀(dh:ba) (bP:Nat) (ea:(List (List Bool))) (fG:Int),bG bL a3 aK v4 dR a1 bo da dh bP ea fG→(RP bG bD cg cd c c' al bL a3 aK v4 dR dh a1 bP bo ea da fG))∧((decide (da>0))=true→dr bL a3 aK v4 dR a1 bo da dR []∧ ∀(dh:ba) (eS:(List Int)),dr bL a3 aK v4 dR a1 bo da dh eS→(RJ aY a0 dr du jO iS c bL a3 aK v4 dR eS dh a1 bo da))
def RL (ay:mz Prop) (aA:mz Nat) (c bL:ba) (a3:Nat) (aK:(List Int)) (v4:Int):Prop:=
  ((iD (dm c) bL)∧((aK.length+[(cK (dm c) bL)].length)*8≤140737488355328∧aK.length+[(cK (dm c) bL)].length≤4611686018427387904))∧(ay (bK (dm c) bL) (a3+1) (aK++[(cK (dm c) bL)]) (IntKind.i64.wrap (v4 - 1))∧aA (bK (dm c) bL) (a3+1) (aK++[(cK (dm c) bL)]) (IntKind.i64.wrap (v4 - 1))<aA bL a3 aK v4)
def RM (ay:mz Prop) (aA:mz Nat) (aY:nJ Prop) (a0:nJ Nat) (bG:nI Prop) (bD:nI Nat) (cg:mA Prop) (cd:mA Nat) (dr:o8 Prop) (du:o8 Nat) (jO:lH Prop) (iS:lH Nat) (c c':ba) (al:az):Prop:=
  ay (bK 4 (bK 6 (bK 6 c))) 0 ([]:List Int) (cK 4 (bK 6 (bK 6 c)))∧ ∀(bL:ba) (a3:Nat) (aK:(List Int)) (v4:Int),ay bL a3 aK v4→(((decide (v4>0))=false→(iD 5 bL)∧(aY bL a3 aK v4 (bK 5 bL) 0 ([]:List Way) (IntKind.i64.wrap (1+(cK 5 bL)))∧ ∀(dR:ba) (a1:Nat) (bo:(List Way)) (da:Int),aY bL a3 aK v4 dR a1 bo da→(RK aY a0 bG bD cg cd dr du jO iS c c' al bL a3 aK v4 dR a1 bo da)))∧((decide (v4>0))=true→RL ay aA c bL a3 aK v4))
def RH (c c':ba) (al:az) (ay:mz Prop) (aA:mz Nat) (aY:nJ Prop) (a0:nJ Nat) (bG:nI Prop) (bD:nI Nat) (cg:mA Prop) (cd:mA Nat) (dr:o8 Prop) (du:o8 Nat) (jO:lH Prop) (iS:lH Nat):Prop:=
 ((iD 6 c)∧(iD 6 (bK 6 c)))∧((iD 4 (bK 6 (bK 6 c)))∧(RM ay aA aY a0 bG bD cg cd dr du jO iS c c' al))
theorem aeo (hg:Nat) (c:ba) (aG:GX c):iJ Try.prog 109 hg (jQ hg [.p] ()) (b8 false .c9 c) (b8 false .c9 (qN c)) (kX [.c8] ((lv c),())):=(fun(ay:mz Prop) (aA:mz Nat) (aY:nJ Prop) (a0:nJ Nat) (bG:nI Prop) (bD:nI Nat) (cg:mA Prop) (cd:mA Nat) (dr:o8 Prop) (du:o8 Nat) (jO:lH Prop) (iS:lH Nat) (h:RH c (qN c) (lv c) ay aA aY a0 bG bD cg cd dr du jO iS)=>iJ.run (hg:=hg) (ce:= .c9) (l:=[.p]) (rs:=[.c8]) (x:=()) (c:=c) (c':=(qN c)) (r:=((lv c),())) ⟨182,dZ,[zS]⟩ ⟨[],[(5,aew,aex),(20,aeq,aer),(22,aes,aet),(34,aeu,aev)],[],[zT,aez],[(24,[(7,1),(7,2)],[]),(36,[(0,10)],[])]⟩ (.lp [(4,1,.int)] [0,2,3] [(3,5),(2,5)] [.c9,.nat,(.l .int),.int] [bA 0,bA 1,bA 1,4] (fun aS=>[(4,.i .i64 aS.2.2.2.1),(eD 3 1,.ref 1 aS.2.1 aS.2.2.1.length false),(bA 0,.eG hg (gE false .c9 aS.1)),(bA 1,.blk aS.2.1 .int aS.2.2.1 _ rfl)]) (fun aS=>ay aS.1 aS.2.1 aS.2.2.1 aS.2.2.2.1) (fun aS=>aA aS.1 aS.2.1 aS.2.2.1 aS.2.2.2.1) fun aS=>(.lp [(4,2,.j7)] [0,2,3] [(3,5),(2,5)] [.c9,.nat,(.l .j7),.int] [bA 0,bA 2,bA 2,5] (fun bN=>[(5,.i .i64 bN.2.2.2.1),(eD 3 2,.ref 2 bN.2.1 bN.2.2.1.length false),(bA 0,.eG hg (gE false .c9 bN.1)),(bA 2,.blk bN.2.1 .j7 bN.2.2.1 _ rfl)]) (fun bN=>aY aS.1 aS.2.1 aS.2.2.1 aS.2.2.2.1 bN.1 bN.2.1 bN.2.2.1 bN.2.2.2.1) (fun bN=>a0 aS.1 aS.2.1 aS.2.2.1 aS.2.2.2.1 bN.1 bN.2.1 bN.2.2.1 bN.2.2.2.1) fun bN=>(.tL (.lp [(4,3,(.l .bool))] [0,2,3,119] [(3,5),(2,5)] [.c9,.nat,(.l (.l .bool)),.int] [bA 0,bA 3,bA 3,120] (fun cc=>[(120,.i .i64 cc.2.2.2.1),(eD 3 3,.ref 3 cc.2.1 cc.2.2.1.length false),(bA 0,.eG hg (gE false .c9 cc.1)),(bA 3,.blk cc.2.1 (.l .bool) cc.2.2.1 _ rfl)]) (fun cc=>bG aS.1 aS.2.1 aS.2.2.1 aS.2.2.2.1 bN.1 bN.2.1 bN.2.2.1 bN.2.2.2.1 cc.1 cc.2.1 cc.2.2.1 cc.2.2.2.1) (fun cc=>bD aS.1 aS.2.1 aS.2.2.1 aS.2.2.2.1 bN.1 bN.2.1 bN.2.2.1 bN.2.2.2.1 cc.1 cc.2.1 cc.2.2.1 cc.2.2.2.1) fun cc=>(.lp [] [0,2,3,9,119,120,129] [(3,5),(2,5)] [.c9,(.l .bool),.int] [bA 0,bA 4,130] (fun eQ=>[(10,.ref 4 0 eQ.2.1.length false),(130,.i .i64 eQ.2.2.1),(bA 0,.eG hg (gE false .c9 eQ.1)),(bA 4,.blk 0 .bool eQ.2.1 _ rfl)]) (fun eQ=>cg aS.1 aS.2.1 aS.2.2.1 aS.2.2.2.1 bN.1 bN.2.1 bN.2.2.1 bN.2.2.2.1 cc.1 cc.2.1 cc.2.2.1 cc.2.2.2.1 eQ.1 eQ.2.1 eQ.2.2.1) (fun eQ=>cd aS.1 aS.2.1 aS.2.2.1 aS.2.2.2.1 bN.1 bN.2.1 bN.2.2.1 bN.2.2.2.1 cc.1 cc.2.1 cc.2.2.1 cc.2.2.2.1 eQ.1 eQ.2.1 eQ.2.2.1) fun _=> .nil)) (.lp [] [0,2,3,5,6] [(6,5),(3,5),(2,5)] [.c9,(.l .int)] [bA 0,eD 6 0] (fun j6=>[(eD 6 0,.l .int j6.2.1 false true),(bA 0,.eG hg (gE false .c9 j6.1))]) (fun j6=>dr aS.1 aS.2.1 aS.2.2.1 aS.2.2.2.1 bN.1 bN.2.1 bN.2.2.1 bN.2.2.2.1 j6.1 j6.2.1) (fun j6=>du aS.1 aS.2.1 aS.2.2.1 aS.2.2.2.1 bN.1 bN.2.1 bN.2.2.1 bN.2.2.2.1 j6.1 j6.2.1) fun j6=>(.lp [(7,1,.bk),(7,2,.bk)] [0,2,3,5,6,75,76] [(6,5),(3,5),(2,5)] [.c9,.nat,.nat,(.l .bk),(.l .bk),.int] [bA 0,bA 3,bA 4,bA 3,bA 4,77] (fun iH=>[(77,.i .i64 iH.2.2.2.2.2.1),(eD 6 1,.ref 3 iH.2.1 iH.2.2.2.1.length false),(eD 6 2,.ref 4 iH.2.2.1 iH.2.2.2.2.1.length false),(bA 0,.eG hg (gE false .c9 iH.1)),(bA 3,.blk iH.2.1 .bk iH.2.2.2.1 _ rfl),(bA 4,.blk iH.2.2.1 .bk iH.2.2.2.2.1 _ rfl)]) (fun iH=>jO aS.1 aS.2.1 aS.2.2.1 aS.2.2.2.1 bN.1 bN.2.1 bN.2.2.1 bN.2.2.2.1 j6.1 j6.2.1 iH.1 iH.2.1 iH.2.2.1 iH.2.2.2.1 iH.2.2.2.2.1 iH.2.2.2.2.2.1) (fun iH=>iS aS.1 aS.2.1 aS.2.2.1 aS.2.2.2.1 bN.1 bN.2.1 bN.2.2.1 bN.2.2.2.1 j6.1 j6.2.1 iH.1 iH.2.1 iH.2.2.1 iH.2.2.2.1 iH.2.2.2.2.1 iH.2.2.2.2.2.1) fun _=> .nil))))) Try.func109 h) (fun d _ x v=>(0≤v∧v≤3)∧bW (272+2*v) d∧x.length+v.toNat≤3∧ts (dm c) v.toNat d x=gy c) (fun _ _ _ v=>v.toNat) (fun _ _ _ _ d _ x v=>(0≤v∧v≤5)∧bW (50+44*v) d∧x.length+v.toNat≤5∧tz (dm c) (gy c).2 v.toNat d x=eE c) (fun _ _ _ _ _ _ _ v=>v.toNat) (fun _ _ _ _ _ _ _ _ d _ x v=>(0≤v∧v≤(eE c).2.length)∧bW (10*(5 - v)) d∧(x.length:Int)=v∧(∀j:Int,0≤j→j<v→(nth x j).length=(eE c).2.length)∧tM (eE c).2 ((eE c).2.length - v).toNat v d x=uX c) (fun _ _ _ _ _ _ _ _ _ _ _ v=>((eE c).2.length - v).toNat) (fun _ _ _ _ _ _ _ _ e _ y i d x v=>(0≤v∧v≤(eE c).2.length)∧bW (10*(5 - (i+1))+2*(5 - v)) d∧x.length=(eE c).2.length∧pV (eE c).2 y i ((eE c).2.length - v).toNat v d x=zE (eE c).2 y i e) (fun _ _ _ _ _ _ _ _ _ _ _ _ _ _ v=>((eE c).2.length - v).toNat) (fun _ _ _ _ e _ _ v d x=>(x=[]∧d=e)∨(x≠[]∧(d,x)=jH (dm c) e)) (fun _ _ _ _ _ _ _ _ _ x=>1 - x.length) (fun _ _ _ _ e _ _ w _ _ d _ _ x y v=>(0≤v∧v≤(gy c).2.length)∧bW (50+44*(w - 1)+4*(3 - v)) d∧(x.length:Int)+y.length≤v∧oc (gy c).2 (jH (dm c) e).2 ((gy c).2.length - v).toNat v d x y=y8 (dm c) (gy c).2 e) (fun _ _ _ _ _ _ _ _ _ _ _ _ _ _ _ v=>((gy c).2.length - v).toNat) (by
 replace aG:bW 300 c:=aG
 have mO:=Ce c
 have q1:bW 298 (bK 6 c):=bW.pick (aG.mono (by omega)) (by omega)
 have q2:bW 296 (bK 6 (bK 6 c)):=bW.pick (q1.mono (by omega)) (by omega)
 have q3:bW 294 (bK 4 (bK 6 (bK 6 c))):=bW.pick (q2.mono (by omega)) (by omega)
 have bb:=mZ 4 (bK 6 (bK 6 c))
 have afR:=bb.2 (by omega)
 unfold RH
 refine⟨⟨aG.mono (by omega),q1.mono (by omega)⟩,q2.mono (by omega),?_⟩
 unfold RM
 refine⟨⟨⟨bb.1,by omega⟩,q3.mono (by omega),by show 0+_≤3;omega,rfl⟩,fun bL a3 aK v4 ⟨pB,wq,af2,uc⟩=>⟨fun hv=> ?_,fun hv=> ?_⟩⟩
 case refine_2=>
  have hv:v4>0:=by simpa using hv
  have mJ:IntKind.i64.wrap (v4 - 1)=v4 - 1:=fm (by omega) (by omega)
  rw[show v4.toNat=(v4 - 1).toNat+1 by omega] at uc
  unfold ts at uc
  unfold RL
  rw[mJ]
  exact⟨⟨wq.mono (by omega),by simp;omega,by simp;omega⟩,⟨⟨by omega,by omega⟩,bW.pick (k:=272+2*(v4 - 1)) (wq.mono (by omega)) (by omega),by simp;omega,uc⟩,by show(v4 - 1).toNat<v4.toNat;omega⟩
 have hv: ¬v4>0:=by simpa using hv
 rw[show v4.toNat=0 by omega] at uc
 have sA:bL=(gy c).1:=by rw[←uc];rfl
 have ex:aK=(gy c).2:=by rw[←uc];rfl
 clear uc
 subst sA;subst ex
 have cb:=KW (gy c).1
 refine⟨wq.mono (by omega),⟨⟨by omega,by omega⟩,(bW.pick (k:=270) (wq.mono (by omega)) (by omega)).mono (by omega),by show 0+_≤5;omega,rfl⟩,fun d a1 ws da ⟨Bw,Bd,oN,sI⟩=> ?_⟩
 unfold RK
 refine⟨fun yV=> ?_,fun yV=> ?_⟩
 ·have yV: ¬da>0:=by simpa using yV
  rw[show da.toNat=0 by omega] at sI
  have bx:d=(eE c).1:=by rw[←sI];rfl
  have e2:ws=(eE c).2:=by rw[←sI];rfl
  clear sI
  subst bx;subst e2
  refine⟨⟨⟨Int.le_refl _,by omega⟩,Bd.mono (by omega),rfl,fun j cq fc=>by omega,by show tM _ (((eE c).2.length:Int) - 0).toNat _ _ _=_;rw[show(((eE c).2.length:Int) - 0).toNat=(eE c).2.length by omega];rfl⟩,fun e bP bs i ⟨Bx,rJ,LM,eV,wu⟩=> ?_⟩
  unfold RP
  refine⟨fun hi=> ?_,fun hi=> ?_⟩
  ·have hi: ¬i<((eE c).2.length:Int):=by simpa using hi
   rw[show(((eE c).2.length:Int) - i).toNat=0 by omega] at wu
   unfold qN lv
   rw[←wu]
   exact⟨rfl,rfl,⟨by omega,rfl⟩,⟨by omega,rfl⟩,⟨by omega,rfl⟩,rfl⟩
  have hi:i<((eE c).2.length:Int):=by simpa using hi
  have Zu:IntKind.i64.wrap (i+1)=i+1:=fm (by omega) (by omega)
  unfold RO
  refine⟨⟨by omega,by omega,by omega⟩,⟨⟨Int.le_refl _,by omega⟩,rJ.mono (by omega),by simp,by show pV _ _ _ (((eE c).2.length:Int) - 0).toNat _ _ _=_;rw[show(((eE c).2.length:Int) - 0).toNat=(eE c).2.length by omega];rfl⟩,fun f r k ⟨Xy,Be,LN,n5⟩=> ?_⟩
  unfold RN
  refine⟨fun hk=> ?_,fun hk=> ?_⟩
  ·have hk: ¬k<((eE c).2.length:Int):=by simpa using hk
   rw[show(((eE c).2.length:Int) - k).toNat=0 by omega] at n5
   rw[show(((eE c).2.length:Int) - i).toNat=(((eE c).2.length:Int) - (i+1)).toNat+1 by omega] at wu
   unfold tM at wu
   rw[←n5] at wu
   rw[Zu]
   refine⟨by omega,⟨by simp;omega,by simp;omega⟩,⟨⟨by omega,by omega⟩,Be.mono (by omega),by simp;omega,fun j cq fc=> ?_,wu⟩,by show(((eE c).2.length:Int) - (i+1)).toNat<(((eE c).2.length:Int) - i).toNat;omega⟩
   rw[GG cq]
   split
   ·exact eV j cq (by omega)
   ·rw[if_pos (by omega)];exact LN
  have hk:k<((eE c).2.length:Int):=by simpa using hk
  have BP:IntKind.i64.wrap (k+1)=k+1:=fm (by omega) (by omega)
  rw[show(((eE c).2.length:Int) - k).toNat=(((eE c).2.length:Int) - (k+1)).toNat+1 by omega] at n5
  unfold pV at n5
  have a_:0≤k:=Xy.1
  have l0:k.toNat<r.length:=by omega
  have oe:(((eE c).2.length:Int) - (k+1)).toNat<(((eE c).2.length:Int) - k).toNat:=by omega
  have rg:(0≤k+1∧k+1≤((eE c).2.length:Int)):=by omega
  have ER:bW (10*(5 - (i+1))+2*(5 - (k+1))) f:=Be.mono (by omega)
  have CC: ∀b:Bool,(r.set k.toNat b).length=(eE c).2.length:=fun b=>by rw[List.length_set];exact LN
  unfold RI
  rw[BP]
  refine⟨fun bc=> ?_,fun fR=> ?_⟩
  ·rw[if_pos bc] at n5
   have bc:k<i:=by simpa using bc
   have:=eV k a_ bc
   exact⟨⟨a_,by omega⟩,by omega,⟨by omega,by omega⟩,⟨a_,l0⟩,l0,⟨rg,ER,CC _,n5⟩,oe⟩
  rw[if_neg (by rw[fR];simp)] at n5
  refine⟨fun yB=> ?_,fun cm=>⟨⟨by omega,by omega⟩,by omega,⟨a_,by omega⟩,by omega,fun hm=> ?_,fun hm=> ?_⟩⟩
  ·rw[if_pos yB] at n5
   exact⟨⟨a_,l0⟩,l0,⟨rg,ER,CC _,n5⟩,oe⟩
  ·rw[if_neg (by rw[cm];simp),if_pos hm] at n5
   exact⟨⟨a_,l0⟩,l0,⟨rg,ER,CC _,n5⟩,oe⟩
  ·rw[if_neg (by rw[cm];simp),if_neg (by rw[hm];simp)] at n5
   exact⟨Be.mono (by omega),⟨a_,l0⟩,l0,⟨rg,bW.pick (Be.mono (by omega)) (by omega),CC _,n5⟩,oe⟩
 have yV:da>0:=by simpa using yV
 refine⟨.inl ⟨rfl,rfl⟩,fun e ss aX=> ?_⟩
 unfold RJ
 refine⟨fun sS cm=> ?_,fun⟨sS,yB⟩=> ?_⟩
 case refine_2=>
  have L4:ss=[]:=by
   have:ss.length=0:=by simpa using yB
   exact List.length_eq_zero_iff.1 this
  rcases aX with⟨_,rfl⟩ | ⟨cm,_⟩
  case inr=>exact absurd L4 cm
  subst L4
  have yQ:=xA (n:=dm c) (no:=[]) (c:=e) (q:=40+44*da) (m:=4) (by omega) (Bd.mono (by omega)) (by omega) (by omega) (by omega)
  refine⟨⟨Bd.mono (by omega),by omega,by omega⟩,fun af3=> ?_⟩
  unfold RU
  refine⟨fun aN=>⟨yQ.1.mono (by omega),.inr ⟨by simp,by unfold jH;rw[if_pos aN]⟩,by show 1 - [_].length<1 - ([]:List Int).length;simp⟩,fun aN=>⟨.inr ⟨fun hl=>by rw[hl] at aN;simp at aN,by unfold jH;rw[if_neg (by rw[aN];simp)]⟩,?_⟩⟩
  have:(hr (dm c) 4 [] e).length≠0:=fun hl=>by rw[hl] at aN;simp at aN
  show 1 - (hr (dm c) 4 [] e).length<1 - ([]:List Int).length
  simp;omega
 have nn:(e,ss)=jH (dm c) d:=by
  rcases aX with⟨rfl,_⟩ | ⟨_,h⟩
  ·simp at cm
  ·exact h
 have e2:(jH (dm c) d).2=ss:=by rw[←nn]
 have yQ:=PE (n:=dm c) (c:=d) (q:=38+44*da) (by omega) (Bd.mono (by omega)) (by omega)
 rw[←nn] at yQ
 have wO:=xA (n:=dm c) (no:=ss) (c:=e) (q:=28+44*da) (m:=2) (by omega) (yQ.1.mono (by omega)) (by omega) (by omega) (by omega)
 have XH:=xA (n:=dm c) (no:=ss) (c:=h3 (dm c) 2 ss e) (q:=18+44*da) (m:=2) (by omega) (wO.1.mono (by omega)) (by omega) (by omega) (by omega)
 refine⟨⟨yQ.1.mono (by omega),by omega,by omega⟩,⟨wO.1.mono (by omega),by omega,by omega⟩,?_⟩
 unfold RT
 refine⟨⟨⟨Int.le_refl _,by omega⟩,XH.1.mono (by omega),by simp,?_⟩,fun f bP lW x y v ⟨af5,yz,E0,pw⟩=> ?_⟩
 ·show oc _ _ (((gy c).2.length:Int) - 0).toNat _ _ _ _=_
  rw[show(((gy c).2.length:Int) - 0).toNat=(gy c).2.length by omega]
  unfold y8
  rw[←nn]
 have gV:v<((gy c).2.length:Int)→IntKind.i64.wrap (v+1)=v+1:=fun _=>fm (by omega) (by omega)
 unfold RS
 refine⟨fun hv=> ?_,fun hv=> ?_⟩
 ·have hv: ¬v<((gy c).2.length:Int):=by simpa using hv
  rw[show(((gy c).2.length:Int) - v).toNat=0 by omega] at pw
  have UP:vr (dm c) (gy c).2 d=(f,Way.mk ss x y (hr (dm c) 2 ss e) (hr (dm c) 2 ss (h3 (dm c) 2 ss e))):=by
   unfold vr
   rw[←pw,←nn];rfl
  rw[show da.toNat=(da - 1).toNat+1 by omega] at sI
  unfold tz at sI
  rw[UP] at sI
  have iH:IntKind.i64.wrap (da - 1)=da - 1:=fm (by omega) (by omega)
  rw[iH]
  exact⟨by omega,by omega,⟨by simp;omega,by simp;omega⟩,⟨⟨by omega,by omega⟩,yz.mono (by omega),by simp;omega,sI⟩,by show(da - 1).toNat<da.toNat;omega⟩
 have hv:v<((gy c).2.length:Int):=by simpa using hv
 rw[show(((gy c).2.length:Int) - v).toNat=(((gy c).2.length:Int) - (v+1)).toNat+1 by omega] at pw
 unfold oc at pw
 have oe:(((gy c).2.length:Int) - (v+1)).toNat<(((gy c).2.length:Int) - v).toNat:=by omega
 have rg:(0≤v+1∧v+1≤((gy c).2.length:Int)):=by omega
 unfold RR
 rw[gV hv]
 refine⟨⟨⟨by omega,by omega⟩,by omega⟩,fun hm=> ?_,fun hm=>⟨yz.mono (by omega),?_⟩⟩
 ·rw[←e2] at hm
  rw[if_pos hm] at pw
  exact⟨yz.mono (by omega),⟨by simp;omega,by simp;omega⟩,⟨rg,bW.pick (yz.mono (by omega)) (by omega),by simp;omega,pw⟩,oe⟩
 ·rw[←e2] at hm
  rw[if_neg (by rw[hm];simp)] at pw
  have aO:bW (50+44*(da - 1)+4*(3 - (v+1))+2) (bK 3 f):=bW.pick (yz.mono (by omega)) (by omega)
  unfold RQ
  rw[gV hv]
  refine⟨fun hk=> ?_,fun hk=> ?_⟩
  ·rw[if_pos hk] at pw
   exact⟨aO.mono (by omega),⟨by simp;omega,by simp;omega⟩,⟨rg,bW.pick aO (by omega),by simp;omega,pw⟩,oe⟩
  ·rw[if_neg (by rw[hk];simp)] at pw
   exact⟨⟨rg,aO.mono (by omega),by omega,pw⟩,oe⟩)
def aep:lg Try.prog:=⟨109,.c9,[.p],[.c8],fun x c=>GX c,fun x c=>qN c,fun x c=>((lv c),()),fun g x c h=>aeo g c h⟩
abbrev o9 (r:Type):Type:=ba→Nat→(List Event)→Bool→(List Bool)→(List bd)→(List ad)→Int→r
def R4 (ay:o9 Prop) (aA:o9 Nat) (M:az) (bL:ba) (a3:Nat) (aK:(List Event)) (cR:Bool) (cS:(List Bool)) (cT:(List bd)) (cU:(List ad)) (b7:Int):Prop:=
  (((ef M (Frame.mk cR cS cT cU) (iC M (bK 30 (eL M (Frame.mk cR cS cT cU) bL)))).code !=1)=true→((aK.length+[(iC M (bK 30 (eL M (Frame.mk cR cS cT cU) bL)))].length)*24≤140737488355328∧aK.length+[(iC M (bK 30 (eL M (Frame.mk cR cS cT cU) bL)))].length≤4611686018427387904)∧(ay (oV M (bK 30 (eL M (Frame.mk cR cS cT cU) bL))) (a3+1) (aK++[(iC M (bK 30 (eL M (Frame.mk cR cS cT cU) bL)))]) (ef M (Frame.mk cR cS cT cU) (iC M (bK 30 (eL M (Frame.mk cR cS cT cU) bL)))).frame.ok (ef M (Frame.mk cR cS cT cU) (iC M (bK 30 (eL M (Frame.mk cR cS cT cU) bL)))).frame.au (ef M (Frame.mk cR cS cT cU) (iC M (bK 30 (eL M (Frame.mk cR cS cT cU) bL)))).frame.an (ef M (Frame.mk cR cS cT cU) (iC M (bK 30 (eL M (Frame.mk cR cS cT cU) bL)))).frame.O (IntKind.i64.wrap (b7 - 1))∧aA (oV M (bK 30 (eL M (Frame.mk cR cS cT cU) bL))) (a3+1) (aK++[(iC M (bK 30 (eL M (Frame.mk cR cS cT cU) bL)))]) (ef M (Frame.mk cR cS cT cU) (iC M (bK 30 (eL M (Frame.mk cR cS cT cU) bL)))).frame.ok (ef M (Frame.mk cR cS cT cU) (iC M (bK 30 (eL M (Frame.mk cR cS cT cU) bL)))).frame.au (ef M (Frame.mk cR cS cT cU) (iC M (bK 30 (eL M (Frame.mk cR cS cT cU) bL)))).frame.an (ef M (Frame.mk cR cS cT cU) (iC M (bK 30 (eL M (Frame.mk cR cS cT cU) bL)))).frame.O (IntKind.i64.wrap (b7 - 1))<aA bL a3 aK cR cS cT cU b7))∧(((ef M (Frame.mk cR cS cT cU) (iC M (bK 30 (eL M (Frame.mk cR cS cT cU) bL)))).code !=1)=false→((aK.length+[(iC M (bK 30 (eL M (Frame.mk cR cS cT cU) bL)))].length)*24≤140737488355328∧aK.length+[(iC M (bK 30 (eL M (Frame.mk cR cS cT cU) bL)))].length≤4611686018427387904)∧(ay (oV M (bK 30 (eL M (Frame.mk cR cS cT cU) bL))) (a3+1) (aK++[(iC M (bK 30 (eL M (Frame.mk cR cS cT cU) bL)))]) cR cS cT cU (IntKind.i64.wrap (b7 - 1))∧aA (oV M (bK 30 (eL M (Frame.mk cR cS cT cU) bL))) (a3+1) (aK++[(iC M (bK 30 (eL M (Frame.mk cR cS cT cU) bL)))]) cR cS cT cU (IntKind.i64.wrap (b7 - 1))<aA bL a3 aK cR cS cT cU b7))
def R5 (ay:o9 Prop) (aA:o9 Nat) (M:az) (bL:ba) (a3:Nat) (aK:(List Event)) (cR:Bool) (cS:(List Bool)) (cT:(List bd)) (cU:(List ad)) (b7:Int):Prop:=
  (((ef M (Frame.mk cR cS cT cU) (fo M (Frame.mk cR cS cT cU) bL)).code !=1)=true→((aK.length+[(fo M (Frame.mk cR cS cT cU) bL)].length)*24≤140737488355328∧aK.length+[(fo M (Frame.mk cR cS cT cU) bL)].length≤4611686018427387904)∧(ay (bK 30 (eL M (Frame.mk cR cS cT cU) bL)) (a3+1) (aK++[(fo M (Frame.mk cR cS cT cU) bL)]) (ef M (Frame.mk cR cS cT cU) (fo M (Frame.mk cR cS cT cU) bL)).frame.ok (ef M (Frame.mk cR cS cT cU) (fo M (Frame.mk cR cS cT cU) bL)).frame.au (ef M (Frame.mk cR cS cT cU) (fo M (Frame.mk cR cS cT cU) bL)).frame.an (ef M (Frame.mk cR cS cT cU) (fo M (Frame.mk cR cS cT cU) bL)).frame.O (IntKind.i64.wrap (b7 - 1))∧aA (bK 30 (eL M (Frame.mk cR cS cT cU) bL)) (a3+1) (aK++[(fo M (Frame.mk cR cS cT cU) bL)]) (ef M (Frame.mk cR cS cT cU) (fo M (Frame.mk cR cS cT cU) bL)).frame.ok (ef M (Frame.mk cR cS cT cU) (fo M (Frame.mk cR cS cT cU) bL)).frame.au (ef M (Frame.mk cR cS cT cU) (fo M (Frame.mk cR cS cT cU) bL)).frame.an (ef M (Frame.mk cR cS cT cU) (fo M (Frame.mk cR cS cT cU) bL)).frame.O (IntKind.i64.wrap (b7 - 1))<aA bL a3 aK cR cS cT cU b7))∧(((ef M (Frame.mk cR cS cT cU) (fo M (Frame.mk cR cS cT cU) bL)).code !=1)=false→((aK.length+[(fo M (Frame.mk cR cS cT cU) bL)].length)*24≤140737488355328∧aK.length+[(fo M (Frame.mk cR cS cT cU) bL)].length≤4611686018427387904)∧(ay (bK 30 (eL M (Frame.mk cR cS cT cU) bL)) (a3+1) (aK++[(fo M (Frame.mk cR cS cT cU) bL)]) cR cS cT cU (IntKind.i64.wrap (b7 - 1))∧aA (bK 30 (eL M (Frame.mk cR cS cT cU) bL)) (a3+1) (aK++[(fo M (Frame.mk cR cS cT cU) bL)]) cR cS cT cU (IntKind.i64.wrap (b7 - 1))<aA bL a3 aK cR cS cT cU b7))
def R6 (ay:o9 Prop) (aA:o9 Nat) (M:az) (bL:ba) (a3:Nat) (aK:(List Event)) (cR:Bool) (cS:(List Bool)) (cT:(List bd)) (cU:(List ad)) (b7:Int):Prop:=
  (((cK 30 (eL M (Frame.mk cR cS cT cU) bL))==0)=true→(GJ M (bK 30 (eL M (Frame.mk cR cS cT cU) bL)))∧((tl M (Frame.mk cR cS cT cU) (iC M (bK 30 (eL M (Frame.mk cR cS cT cU) bL))))∧(R4 ay aA M bL a3 aK cR cS cT cU b7)))∧(((cK 30 (eL M (Frame.mk cR cS cT cU) bL))==0)=false→(tl M (Frame.mk cR cS cT cU) (fo M (Frame.mk cR cS cT cU) bL))∧(R5 ay aA M bL a3 aK cR cS cT cU b7))
def R7 (ay:o9 Prop) (aA:o9 Nat) (M:az) (U:Int) (c c':ba) (al:(List Event)):Prop:=
  ay (bK U c) 0 ([]:List Event) (ei M).ok (ei M).au (ei M).an (ei M).O (cK U c)∧ ∀(bL:ba) (a3:Nat) (aK:(List Event)) (cR:Bool) (cS:(List Bool)) (cT:(List bd)) (cU:(List ad)) (b7:Int),ay bL a3 aK cR cS cT cU b7→(((decide (b7>0))=false→(bL=c')∧(aK.length≤4611686018427387904∧aK=al))∧((decide (b7>0))=true→(Eb M (Frame.mk cR cS cT cU) bL)∧((iD 30 (eL M (Frame.mk cR cS cT cU) bL))∧(R6 ay aA M bL a3 aK cR cS cT cU b7))))
def R3 (M:az) (U:Int) (c c':ba) (al:(List Event)) (ay:o9 Prop) (aA:o9 Nat):Prop:=
 (iD U c)∧(R7 ay aA M U c c' al)
theorem aeE (hg:Nat) (M:az) (U:Int) (c:ba) (aG:AI M U c):iJ Try.prog 110 hg (jQ hg [.p,.v .c8,.v .int] (M,U,())) (b8 false .c9 c) (b8 false .c9 (ye M U c)) (kX [(.l .fE)] ((sx M U c),())):=(fun(ay:o9 Prop) (aA:o9 Nat) (h:R3 M U c (ye M U c) (sx M U c) ay aA)=>iJ.run (hg:=hg) (ce:= .c9) (l:=[.p,.v .c8,.v .int]) (rs:=[(.l .fE)]) (x:=(M,U,())) (c:=c) (c':=(ye M U c)) (r:=((sx M U c),())) ⟨45,dZ,[HS,Qd]⟩ ⟨[],[],[],[zT,aee,aem],[]⟩ (.lp [(0,7,.fE)] [0,4,8] [(8,4),(4,5)] [.c9,.nat,(.l .fE),.bool,(.l .bool),(.l .gI),(.l .held),.int] [bA 0,bA 1,bA 1,eD 8 0,eD 8 1,eD 8 2,eD 8 3,9] (fun aS=>[(7,.ref 1 aS.2.1 aS.2.2.1.length false),(9,.i .i64 aS.2.2.2.2.2.2.2.1),(eD 8 0,.b (.v aS.2.2.2.1)),(eD 8 1,.l .bool aS.2.2.2.2.1 false true),(eD 8 2,.l .gI aS.2.2.2.2.2.1 false true),(eD 8 3,.l .held aS.2.2.2.2.2.2.1 false true),(bA 0,.eG hg (gE false .c9 aS.1)),(bA 1,.blk aS.2.1 .fE aS.2.2.1 _ rfl)]) (fun aS=>ay aS.1 aS.2.1 aS.2.2.1 aS.2.2.2.1 aS.2.2.2.2.1 aS.2.2.2.2.2.1 aS.2.2.2.2.2.2.1 aS.2.2.2.2.2.2.2.1) (fun aS=>aA aS.1 aS.2.1 aS.2.2.1 aS.2.2.2.1 aS.2.2.2.2.1 aS.2.2.2.2.2.1 aS.2.2.2.2.2.2.1 aS.2.2.2.2.2.2.2.1) fun _=> .nil) Try.func110 h) (fun d _ x a b o e v=>(0≤v∧v≤49)∧bW (20*v) d∧dy M (Frame.mk a b o e)=true∧x.length+v.toNat≤49∧sd M v.toNat (Frame.mk a b o e) d x=DT M U c) (fun _ _ _ _ _ _ _ v=>v.toNat) (by
 obtain⟨hg,aj,a0,af8⟩:=aG
 have hv:=mZ U c
 have hv2:=hv.2 a0
 have wq:bW 998 (bK U c):=bW.pick (aj.mono (by omega)) (by omega)
 unfold R3 R7
 refine⟨aj.mono (by omega),⟨⟨hv.1,by omega⟩,wq.mono (by omega),x6 hg,by show 0+_≤49;omega,rfl⟩,fun d g x k o q w v ⟨aJ,bg,hf,aL,he⟩=>⟨fun hv=> ?_,fun hv=> ?_⟩⟩
 ·have hv: ¬v>0:=by simpa using hv
  rw[show v.toNat=0 by omega] at he
  unfold ye sx
  rw[←he]
  exact⟨rfl,by omega,rfl⟩
 have hv:v>0:=by simpa using hv
 have mJ:IntKind.i64.wrap (v - 1)=v - 1:=fm (by omega) (by omega)
 have fit:=mf hf
 have h1:bW 10 (eL M (Frame.mk k o q w) d):=KI (bg.mono (by omega)) (by omega)
 have h2:bW 8 (bK 30 (eL M (Frame.mk k o q w) d)):=bW.pick (h1.mono (by omega)) (by omega)
 have oT: ∀e:Event,(x.length+[e].length)*24≤140737488355328∧x.length+[e].length≤4611686018427387904:=fun e=>⟨by simp;omega,by simp;omega⟩
 have jX: ∀e:Event,(x++[e]).length+(v - 1).toNat≤49:=fun e=>by simp;omega
 have oe:(v - 1).toNat<v.toNat:=by omega
 refine⟨⟨⟨fit.in,fit.fr⟩,bg.mono (by omega)⟩,h1.mono (by omega),?_⟩
 unfold R6
 refine⟨fun hb=>⟨h2,GM hf,?_⟩,fun hb=>⟨GM hf,?_⟩⟩
 ·obtain⟨a3,a1,bP⟩:=Pr hf hv bg he (show qU M (Frame.mk k o q w) d=(iC M (bK 30 (eL M (Frame.mk k o q w) d)),oV M (bK 30 (eL M (Frame.mk k o q w) d))) by unfold qU;rw[hb];rfl)
  unfold R4
  rw[mJ]
  exact⟨fun hc=>⟨oT _,⟨⟨by omega,by omega⟩,a3,(a1 hc).1,jX _,(a1 hc).2⟩,oe⟩,fun hc=>⟨oT _,⟨⟨by omega,by omega⟩,a3,hf,jX _,bP hc⟩,oe⟩⟩
 ·obtain⟨a3,a1,bP⟩:=Pr hf hv bg he (show qU M (Frame.mk k o q w) d=(fo M (Frame.mk k o q w) d,bK 30 (eL M (Frame.mk k o q w) d)) by unfold qU;rw[hb];rfl)
  unfold R5
  rw[mJ]
  exact⟨fun hc=>⟨oT _,⟨⟨by omega,by omega⟩,a3,(a1 hc).1,jX _,(a1 hc).2⟩,oe⟩,fun hc=>⟨oT _,⟨⟨by omega,by omega⟩,a3,hf,jX _,bP hc⟩,oe⟩⟩)
def aeF:lg Try.prog:=⟨110,.c9,[.p,.v .c8,.v .int],[(.l .fE)],fun x c=>AI x.1 x.2.1 c,fun x c=>ye x.1 x.2.1 c,fun x c=>((sx x.1 x.2.1 c),()),fun g x c h=>aeE g x.1 x.2.1 c h⟩
def acP:List Item:=[av 0,av 1,av 2,⟨3,true,false,[0]⟩,⟨4,true,false,[]⟩,av 5]
def acQ:List (List Nat):=[[],[],[],[1,2],rg 0 4,rg 0 5]
def acM (J:(List UInt8)) (al:az×(List Event)):Prop:=
  (GX (ba.mk J 0 0))∧((AI (lv (ba.mk J 0 0)) 50 (qN (ba.mk J 0 0)))∧(((lv (ba.mk J 0 0)).ai=al.1.ai)∧((lv (ba.mk J 0 0)).be=al.1.be)∧((lv (ba.mk J 0 0)).O=al.1.O)∧((lv (ba.mk J 0 0)).bU=al.1.bU)∧((lv (ba.mk J 0 0)).dn=al.1.dn)∧((sx (lv (ba.mk J 0 0)) 50 (qN (ba.mk J 0 0)))=al.2)))
def acL (J:(List UInt8)) (al:az×(List Event)):Prop:=
 acM J al
theorem acN (J:(List UInt8)):bX Try.prog 46 [bE qi J] (.tup [.agg (bq true ((ph J).1)),hh iN ((ph J).2)]):=(fun(h:acL J (ph J))=>bX.run (ps:=[(.l .u8)]) (rs:=[.c8,(.l .fE)]) (x:=(J,())) (r:=((ph J).1,(ph J).2,())) ⟨15,dZ,[]⟩ ⟨[],[(3,acP,acQ)],[],[aep,aeF],[]⟩ .nil Try.func46 h) (by
 exact⟨(DQ J).mono (by omega),Us J,rfl,rfl,rfl,rfl,rfl,rfl⟩)
def acO:dY Try.prog:=⟨46,[(.l .u8)],[.c8,(.l .fE)],none,fun x=>((ph x.1).1,(ph x.1).2,()),fun x h=>acN x.1⟩
end Go.Proofs.Ytglpfccgmfhkdaa.Fw
set_option linter.unusedVariables false
namespace Go.Proofs.Ytglpfccgmfhkdaa.Fw
open Go
def sg (p:az) (f:Frame) (e:Event):fv:=if e5 p e=true then h8 p f e else⟨1,f⟩
def zq (f:Frame) (R:List fv):Nat→Frame
 | 0=>f
 | k+1=>(nth R (k:Int)).frame
theorem GH {α:Type} [Inhabited α] (x:α) (xs:List α) (k:Nat):nth (x::xs) ((k+1:Nat):Int)=nth xs (k:Int):=by
 unfold nth;rw[Int.toNat_natCast,Int.toNat_natCast];rfl
theorem Hp (p:az) (f:Frame) (e:Event) (es:List Event):lA p f (e::es)=sg p f e::lA p (sg p f e).frame es:=by
 unfold sg
 by_cases h:e5 p e=true
 ·rw[if_pos h];simp only[lA,if_pos h]
 ·rw[if_neg h];simp only[lA,if_neg h]
theorem IT {p:az} {f:Frame} {e:Event} (h:dy p f=true):dy p (sg p f e).frame=true:=by
 have:=IU (e:=e) h
 rw[this.1] at this;exact this.2
theorem Hs {p:az}: ∀(es:List Event) {f:Frame},dy p f=true→ ∀k:Nat,k<es.length→dy p (zq f (lA p f es) k)=true∧nth (lA p f es) (k:Int)=sg p (zq f (lA p f es) k) (nth es (k:Int))
 | [],f,h,k,hk=>by simp at hk
 | e::es,f,h,0,hk=>by rw[Hp];exact⟨h,rfl⟩
 | e::es,f,h,k+1,hk=>by
  have bR:=Hs es (IT (e:=e) h) k (by simpa using hk)
  have aG:zq f (lA p f (e::es)) (k+1)=zq (sg p f e).frame (lA p (sg p f e).frame es) k:=by
   rw[Hp]
   cases k with
   | zero=>rfl
   | succ j=>show(nth ((_:fv)::_) ((j+1:Nat):Int)).frame=_;rw[GH];rfl
  rw[aG,Hp,GH,GH]
  exact bR
def cj (code:List UInt8):az:=(ph code).1
def pI (code:List UInt8):List Event:=(ph code).2
def pT (code:List UInt8):List fv:=CA (cj code) (pI code)
def s_ (code:List UInt8) (v:Int):Frame:=zq (ei (cj code)) (pT code) v.toNat
section
variable (code:List UInt8)
theorem Cb:ek (cj code)=true:=Kk code
theorem ZC:(pI code).length≤49:=Ur code
theorem Hf:pT code=lA (cj code) (ei (cj code)) (pI code):=by
 have:=ZC code
 unfold pT CA
 rw[if_pos ⟨Cb code,by omega⟩]
theorem aa_:(pT code).length=(pI code).length:=by rw[Hf];exact Hr ..
end
section
variable {code:List UInt8} {v:Int}
theorem aaR (aT:0≤v) (h1:v.toNat<(pI code).length):dy (cj code) (s_ code v)=true:=by
 unfold s_;rw[Hf];exact(Hs _ (x6 (Cb code)) _ h1).1
theorem aba (aT:0≤v) (h1:v.toNat<(pI code).length):nth (pT code) v=sg (cj code) (s_ code v) (nth (pI code) v):=by
 have:=(Hs (pI code) (x6 (Cb code)) _ h1).2
 rw[iU aT,iU aT] at this
 unfold s_;rw[Hf];exact this
theorem abb (aT:0≤v) (h1:v.toNat<(pI code).length):dy (cj code) (nth (pT code) v).frame=true:=by
 rw[aba aT h1];exact IT (aaR aT h1)
theorem OL (aT:0≤v):s_ code (v+1)=(nth (pT code) v).frame:=by
 unfold s_
 rw[show(v+1).toNat=v.toNat+1 by omega]
 show(nth (pT code) (v.toNat:Int)).frame=_
 rw[iU aT]
end
theorem VQ {s:List Int} {f:Frame} {ac:List Bool} (aC:dT f (s.getD 0 0)=true): ∀n:Nat,f_ s f ac n 0=0
 | 0=>rfl
 | n+1=>by unfold f_;rw[if_neg (by rw[aC];simp)]
theorem aeQ {p:az} {m:Frame} {k:Nat} {h:ad} (aT:h.aq=1∨h.aq=2∨h.aq=3) (hg:h.af=0) (aF:0<(nth p.O k).ai.length):(iX p m k h).aq≠0:=by
 by_cases aC:dT m (nth (nth p.O k).ai 0)=true
 ·rw[I0 (by omega) (by omega) aC]
  unfold hI
  have Xb:dT m ((nth p.O k).ai.getD 0 0)=true:=aC
  simp only[hg]
  rw[show f_ (nth p.O k).ai m (List.zipWith (fun b x=>b || dT m x) h.ac (nth p.O k).ai) (nth p.O k).ai.length (0:Int).toNat=0 from VQ Xb _,if_neg (by omega)]
  simp
 ·have aC:dT m (nth (nth p.O k).ai 0)=false:=by simpa using aC
  by_cases aO:h.aq=3
  ·rw[CM (by omega) (by omega) (by omega) aC];omega
  ·by_cases aG:gf p m k=true
   ·rw[CL (by omega) aC aG];simp
   ·rw[CK (by omega) aC (by simpa using aG)];simp
section
variable {p:az} {f:Frame} {e:Event} {k:Int}
end
def jN (p:az) (f:Frame) (w:Int):ma:=if dy p f&&jk w p.O.length then gg p f w else⟨[],[],[]⟩
def kw (p:az) (f:Frame) (e:Event):fv:=if(dy p f&&e5 p e)=true then h8 p f e else⟨1,⟨false,[],[],[]⟩⟩
theorem aaS {code:List UInt8} {v:Int} (aT:0≤v) (h1:v≤(pI code).length):dy (cj code) (s_ code v)=true:=by
 by_cases e:v=0
 ·subst e;exact x6 (Cb code)
 ·have:=abb (code:=code) (v:=v - 1) (by omega) (by omega)
  rw[←OL (by omega),show v - 1+1=v by omega] at this
  exact this
def oo (code:List UInt8):List fv:=qZ (cj code) (pI code)
theorem Hw (code:List UInt8):oo code=pT code:=acA _ _
section
variable {p:az} {f:Frame} {i:Int}
theorem Dc (i0:0≤i) (i1:i<p.O.length):e5 p ⟨1,i,0⟩=true:=by
 unfold e5
 rw[if_pos (.inl rfl),Bool.and_eq_true,iB]
 exact⟨⟨i0,by show i≤_;omega⟩,rfl⟩
theorem afg (hf:dy p f=true) (i0:0≤i) (i1:i<p.O.length):fP p f i=dI p f i∧jN p f i=gg p f i∧kw p f ⟨1,i,0⟩=h8 p f ⟨1,i,0⟩:=by
 have e:jk i p.O.length=true:=by unfold jk;simp;omega
 refine⟨by unfold fP;rw[hf,e];rfl,by unfold jN;rw[hf,e];rfl,by unfold kw;rw[hf,Dc i0 i1];rfl⟩
theorem Db (p:az) (f:Frame) (i:Int):fg p f ⟨1,i,0⟩=dI p f i:=by unfold fg;rw[if_pos rfl]
theorem Ti (p:az) (f:Frame) (i:Int):(h8 p f ⟨1,i,0⟩).code=dI p f i:=by
 unfold h8
 rw[Db]
 by_cases h:dI p f i=0
 ·rw[if_neg (by rw[h];simp),h]
 ·rw[if_pos h]
theorem Tk (hf:dy p f=true) (i0:0≤i) (i1:i<p.O.length):(h8 p f ⟨1,i,0⟩).frame.O.length=p.O.length:=by
 have:=IT (e:=⟨1,i,0⟩) hf
 unfold sg at this
 rw[if_pos (Dc i0 i1)] at this
 exact(K4 this).2.2
theorem Tj (hf:dy p f=true) (i0:0≤i) (i1:i<p.O.length) (aN:(nth f.O i).aq=0):((dI p f i==0) !=((nth (h8 p f ⟨1,i,0⟩).frame.O i).aq !=0))=false:=by
 have hw:=(mf hf).fr.O
 have aR:=(GL hf).1.held i i0 (by omega)
 by_cases h:dI p f i=0
 ·have e:(h8 p f ⟨1,i,0⟩).frame=ee p (hj p f ⟨1,i,0⟩):=by unfold h8;rw[Db,if_neg (by rw[h];simp)]
  have hm:=(DN (mf hf).fr (rr (Dc i0 i1))).O
  have em:nth (hj p f ⟨1,i,0⟩).O i={nth f.O i with aq:=1}:=by
   unfold hj
   rw[if_pos rfl]
   show nth (f.O.set _ _) i=_
   rw[uL i0 i0 (by omega),if_pos rfl]
  have:=aeQ (p:=p) (m:=hj p f ⟨1,i,0⟩) (k:=i.toNat) (h:={nth f.O i with aq:=1}) (.inl rfl) (aR.still (by omega)).1 (by rw[iU i0];exact zG (mf hf).nk i0 i1)
  rw[e,HF i0 (by omega),em,h]
  simp[this]
 ·have e:(h8 p f ⟨1,i,0⟩).frame=f:=by unfold h8;rw[Db,if_pos h]
  rw[e,aN]
  simp[h]
theorem aaP (p:az) (f:Frame) (i:Int):(gg p f i).an=[]↔sE p f i=false∧va p f i=false:=by
 unfold gg sE va
 simp only[Bool.not_eq_false',List.isEmpty_iff]
 rw[A1,A1,A1]
 constructor
 ·intro h
  refine⟨fun k a_ dP=> ?_,fun k a_ dP=> ?_⟩
  ·have:=h k a_ dP
   unfold jy at this
   cases aC:jE p f i k with
   | false=>rfl
   | true=>rw[aC] at this;simp at this;simp[this]
  ·have:=h k a_ dP
   unfold jy at this
   cases aC:jE p f i k with
   | false=>rfl
   | true=>rw[aC] at this;simp at this;simp[this]
 ·rintro⟨h1,h2⟩ k a_ dP
  have a:=h1 k a_ dP
  have b:=h2 k a_ dP
  unfold jy
  cases aC:jE p f i k with
  | false=>rfl
  | true=>rw[aC] at a b;simp at a b;simp[a,b]
theorem aao (p:az) (f:Frame) (i:Int):(((gg p f i).O.length+(gg p f i).ai.length+(gg p f i).an.length:Nat)=0)↔codeF p f i=0:=by
 have aG:=aaP p f i
 unfold codeF
 by_cases h1:(gg p f i).O=[]
 ·by_cases h2:(gg p f i).ai=[]
  ·rw[if_neg (by simp[h1]),if_neg (by simp[h2]),h1,h2]
   cases cb:sE p f i with
   | true=>simp;intro e;rw[aG.1 e |>.1] at cb;cases cb
   | false=>
    cases cE:va p f i with
    | true=>simp;intro e;rw[aG.1 e |>.2] at cE;cases cE
    | false=>simp[aG.2 ⟨cb,cE⟩]
  ·rw[if_neg (by simp[h1]),if_pos h2]
   have:=List.length_pos_iff.2 h2
   constructor
   ·intro h;omega
   ·intro h;cases h
 ·rw[if_pos h1]
  have:=List.length_pos_iff.2 h1
  constructor
  ·intro h;omega
  ·intro h;cases h
theorem afi (aN:(nth f.O i).aq=0):dI p f i=codeF p f i:=by unfold dI;rw[if_neg (by rw[aN];simp)]
theorem afh (aN:(nth f.O i).aq≠0):dI p f i=2:=by unfold dI;rw[if_pos aN]
end
end Go.Proofs.Ytglpfccgmfhkdaa.Fw
set_option linter.unusedVariables false
set_option maxRecDepth 100000
set_option maxHeartbeats 4000000
set_option linter.unusedSimpArgs false
namespace Go.Proofs.Ytglpfccgmfhkdaa.Fw
open Go
attribute [local irreducible] evS evSD WpS Weak Oper.looksAt
def Mg (J:az) (M:Frame) (U:Int) (al:ma):Prop:=
 ((rC J M)∧(((!(dy J M)) || (!(jk U (J.O.length:Int))))=true→([]=al.O)∧([]=al.ai)∧([]=al.an)))∧((!((!(dy J M)) || (!(jk U (J.O.length:Int)))))=true→(m9 J M U)∧((((hO J M U).1).O=al.O)∧(((hO J M U).1).ai=al.ai)∧(((hO J M U).1).an=al.an)))
theorem X5 (J:az) (M:Frame) (U:Int) (aG:rD J M U):bX Try.prog 51 [.agg (bq false J),.agg (bS false M),ag U] (.agg (AK true (jN J M U))):=(fun(h:Mg J M U (jN J M U))=>bX.run (ps:=[.c8,.frame,.int]) (rs:=[.stays]) (x:=(J,M,U,())) (r:=((jN J M U),())) ⟨32,dZ,[Fx,MW,MK]⟩ ⟨[],[],[],[],[]⟩ .nil Try.func51 h) (by
 unfold Mg jN
 refine⟨⟨aG,fun h=> ?_⟩,fun h=> ?_⟩
 ·cases hf:dy J M<;>cases hi:jk U (J.O.length:Int)<;>simp[hf,hi] at h ⊢
 ·cases hf:dy J M<;>cases hi:jk U (J.O.length:Int)<;>simp[hf,hi] at h
  unfold jk at hi
  simp at hi
  exact⟨⟨mf hf,hi.1,hi.2⟩,rfl,rfl,rfl⟩)
def X6:dY Try.prog:=⟨51,[.c8,.frame,.int],[.stays],some fun x=>rD x.1 x.2.1 x.2.2.1,fun x=>((jN x.1 x.2.1 x.2.2.1),()),fun x h=>X5 x.1 x.2.1 x.2.2.1 h⟩
def Mi (J:az) (M:Frame) (U:Event) (al:fv):Prop:=
  ((rC J M)∧(((!(dy J M)) || (!(e5 J U)))=true→(1=al.code)∧(false=al.frame.ok)∧([]=al.frame.au)∧([]=al.frame.an)∧([]=al.frame.O)))∧((!((!(dy J M)) || (!(e5 J U))))=true→(DO J M U)∧(((h8 J M U).code=al.code)∧((h8 J M U).frame.ok=al.frame.ok)∧((h8 J M U).frame.au=al.frame.au)∧((h8 J M U).frame.an=al.frame.an)∧((h8 J M U).frame.O=al.frame.O)))
def Mh (J:az) (M:Frame) (U:Event) (al:fv):Prop:=
 Mi J M U al
theorem X7 (J:az) (M:Frame) (U:Event) (aG:tl J M U):bX Try.prog 52 [.agg (bq false J),.agg (bS false M),.agg (iN U)] (.agg (rp true (kw J M U))):=(fun(h:Mh J M U (kw J M U))=>bX.run (ps:=[.c8,.frame,.fE]) (rs:=[.done]) (x:=(J,M,U,())) (r:=((kw J M U),())) ⟨22,dZ,[Fx,YF,Yt]⟩ ⟨[],[],[],[],[]⟩ .nil Try.func52 h) (by
 unfold Mh Mi kw
 refine⟨⟨aG,fun h=> ?_⟩,fun h=> ?_⟩
 ·cases hf:dy J M<;>cases hi:e5 J U<;>simp[hf,hi] at h ⊢
 ·cases hf:dy J M<;>cases hi:e5 J U<;>simp[hf,hi] at h
  exact⟨⟨mf hf,hi⟩,rfl,rfl,rfl,rfl,rfl⟩)
def X8:dY Try.prog:=⟨52,[.c8,.frame,.fE],[.done],some fun x=>tl x.1 x.2.1 x.2.2.1,fun x=>((kw x.1 x.2.1 x.2.2.1),()),fun x h=>X7 x.1 x.2.1 x.2.2.1 h⟩
def NI (J:(List UInt8)) (al b2:Bool) (b3:(List Bool)) (b4:(List bd)) (bZ:(List ad)) (cM:Int):Prop:=
  (((kw (cj J) (Frame.mk b2 b3 b4 bZ) (Event.mk 1 cM 0)).code !=(fP (cj J) (Frame.mk b2 b3 b4 bZ) cM)) || (((fP (cj J) (Frame.mk b2 b3 b4 bZ) cM) !=(fP (cj J) (Frame.mk b2 b3 b4 bZ) cM)) || (((kw (cj J) (Frame.mk b2 b3 b4 bZ) (Event.mk 1 cM 0)).frame.O.length:Int) !=((cj J).O.length:Int))))=true→false=al
def NJ (J:(List UInt8)) (al b2:Bool) (b3:(List Bool)) (b4:(List bd)) (bZ:(List ad)) (cM:Int):Prop:=
  (bif ((fP (cj J) (Frame.mk b2 b3 b4 bZ) cM) !=2) then((((IntKind.i64.wrap ((IntKind.i64.wrap (((jN (cj J) (Frame.mk b2 b3 b4 bZ) cM).O.length:Int)+((jN (cj J) (Frame.mk b2 b3 b4 bZ) cM).ai.length:Int)))+((jN (cj J) (Frame.mk b2 b3 b4 bZ) cM).an.length:Int)))==0) !=((fP (cj J) (Frame.mk b2 b3 b4 bZ) cM)==0)) || (bif ((nth bZ cM).aq==0) then(((fP (cj J) (Frame.mk b2 b3 b4 bZ) cM)==0) !=((nth (kw (cj J) (Frame.mk b2 b3 b4 bZ) (Event.mk 1 cM 0)).frame.O cM).aq !=0)) else(((fP (cj J) (Frame.mk b2 b3 b4 bZ) cM)==0) !=false))) else(bif ((nth bZ cM).aq==0) then(((fP (cj J) (Frame.mk b2 b3 b4 bZ) cM)==0) !=((nth (kw (cj J) (Frame.mk b2 b3 b4 bZ) (Event.mk 1 cM 0)).frame.O cM).aq !=0)) else(((fP (cj J) (Frame.mk b2 b3 b4 bZ) cM)==0) !=false)))=true→false=al
def NK (J:(List UInt8)) (al b2:Bool) (b3:(List Bool)) (b4:(List bd)) (bZ:(List ad)) (cM:Int):Prop:=
  ((((fP (cj J) (Frame.mk b2 b3 b4 bZ) cM) !=2)=true→(((IntKind.i64.wrap ((IntKind.i64.wrap (((jN (cj J) (Frame.mk b2 b3 b4 bZ) cM).O.length:Int)+((jN (cj J) (Frame.mk b2 b3 b4 bZ) cM).ai.length:Int)))+((jN (cj J) (Frame.mk b2 b3 b4 bZ) cM).an.length:Int)))==0) !=((fP (cj J) (Frame.mk b2 b3 b4 bZ) cM)==0))=false→(0≤cM∧cM.toNat<bZ.length)∧(((nth bZ cM).aq==0)=true→0≤cM∧cM.toNat<(kw (cj J) (Frame.mk b2 b3 b4 bZ) (Event.mk 1 cM 0)).frame.O.length))∧(((fP (cj J) (Frame.mk b2 b3 b4 bZ) cM) !=2)=false→(0≤cM∧cM.toNat<bZ.length)∧(((nth bZ cM).aq==0)=true→0≤cM∧cM.toNat<(kw (cj J) (Frame.mk b2 b3 b4 bZ) (Event.mk 1 cM 0)).frame.O.length)))∧(NJ J al b2 b3 b4 bZ cM)
def NL (J:(List UInt8)) (al b2:Bool) (b3:(List Bool)) (b4:(List bd)) (bZ:(List ad)) (cM:Int):Prop:=
  ((((kw (cj J) (Frame.mk b2 b3 b4 bZ) (Event.mk 1 cM 0)).code !=(fP (cj J) (Frame.mk b2 b3 b4 bZ) cM))=false→rD (cj J) (Frame.mk b2 b3 b4 bZ) cM)∧(NI J al b2 b3 b4 bZ cM))∧((!(((kw (cj J) (Frame.mk b2 b3 b4 bZ) (Event.mk 1 cM 0)).code !=(fP (cj J) (Frame.mk b2 b3 b4 bZ) cM)) || (((fP (cj J) (Frame.mk b2 b3 b4 bZ) cM) !=(fP (cj J) (Frame.mk b2 b3 b4 bZ) cM)) || (((kw (cj J) (Frame.mk b2 b3 b4 bZ) (Event.mk 1 cM 0)).frame.O.length:Int) !=((cj J).O.length:Int)))))=true→((jN (cj J) (Frame.mk b2 b3 b4 bZ) cM).O.length≤4611686018427387904)∧((jN (cj J) (Frame.mk b2 b3 b4 bZ) cM).ai.length≤4611686018427387904)∧((jN (cj J) (Frame.mk b2 b3 b4 bZ) cM).an.length≤4611686018427387904)→NK J al b2 b3 b4 bZ cM)
abbrev rb (r:Type):Type:=Bool→(List Bool)→(List bd)→(List ad)→Int→Int→r
def NM (aY:rb Prop) (a0:rb Nat) (J:(List UInt8)) (al b2:Bool) (b3:(List Bool)) (b4:(List bd)) (bZ:(List ad)) (cu cM:Int):Prop:=
  ((rD (cj J) (Frame.mk b2 b3 b4 bZ) cM)∧((rD (cj J) (Frame.mk b2 b3 b4 bZ) cM)∧((tl (cj J) (Frame.mk b2 b3 b4 bZ) (Event.mk 1 cM 0))∧(NL J al b2 b3 b4 bZ cM))))∧(((jN (cj J) (Frame.mk b2 b3 b4 bZ) cM).O.length≤4611686018427387904)∧((jN (cj J) (Frame.mk b2 b3 b4 bZ) cM).ai.length≤4611686018427387904)∧((jN (cj J) (Frame.mk b2 b3 b4 bZ) cM).an.length≤4611686018427387904)∧(((!(((kw (cj J) (Frame.mk b2 b3 b4 bZ) (Event.mk 1 cM 0)).code !=(fP (cj J) (Frame.mk b2 b3 b4 bZ) cM)) || (((fP (cj J) (Frame.mk b2 b3 b4 bZ) cM) !=(fP (cj J) (Frame.mk b2 b3 b4 bZ) cM)) || (((kw (cj J) (Frame.mk b2 b3 b4 bZ) (Event.mk 1 cM 0)).frame.O.length:Int) !=((cj J).O.length:Int)))))&&(!(bif ((fP (cj J) (Frame.mk b2 b3 b4 bZ) cM) !=2) then((((IntKind.i64.wrap ((IntKind.i64.wrap (((jN (cj J) (Frame.mk b2 b3 b4 bZ) cM).O.length:Int)+((jN (cj J) (Frame.mk b2 b3 b4 bZ) cM).ai.length:Int)))+((jN (cj J) (Frame.mk b2 b3 b4 bZ) cM).an.length:Int)))==0) !=((fP (cj J) (Frame.mk b2 b3 b4 bZ) cM)==0)) || (bif ((nth bZ cM).aq==0) then(((fP (cj J) (Frame.mk b2 b3 b4 bZ) cM)==0) !=((nth (kw (cj J) (Frame.mk b2 b3 b4 bZ) (Event.mk 1 cM 0)).frame.O cM).aq !=0)) else(((fP (cj J) (Frame.mk b2 b3 b4 bZ) cM)==0) !=false))) else(bif ((nth bZ cM).aq==0) then(((fP (cj J) (Frame.mk b2 b3 b4 bZ) cM)==0) !=((nth (kw (cj J) (Frame.mk b2 b3 b4 bZ) (Event.mk 1 cM 0)).frame.O cM).aq !=0)) else(((fP (cj J) (Frame.mk b2 b3 b4 bZ) cM)==0) !=false)))))=true)→aY b2 b3 b4 bZ cu (IntKind.i64.wrap (cM+1))∧a0 b2 b3 b4 bZ cu (IntKind.i64.wrap (cM+1))<a0 b2 b3 b4 bZ cu cM)
abbrev rc (r:Type):Type:=Bool→(List Bool)→(List bd)→(List ad)→Int→r
def NN (ay:rc Prop) (aA:rc Nat) (J:(List UInt8)) (b2:Bool) (b3:(List Bool)) (b4:(List bd)) (bZ:(List ad)) (cu:Int):Prop:=
  ay (nth (oo J) cu).frame.ok (nth (oo J) cu).frame.au (nth (oo J) cu).frame.an (nth (oo J) cu).frame.O (IntKind.i64.wrap (cu+1))∧aA (nth (oo J) cu).frame.ok (nth (oo J) cu).frame.au (nth (oo J) cu).frame.an (nth (oo J) cu).frame.O (IntKind.i64.wrap (cu+1))<aA b2 b3 b4 bZ cu
def NO (ay:rc Prop) (aA:rc Nat) (aY:rb Prop) (a0:rb Nat) (J:(List UInt8)) (al b2:Bool) (b3:(List Bool)) (b4:(List bd)) (bZ:(List ad)) (cu:Int):Prop:=
  ((decide (cu<((oo J).length:Int)))=false→(cj J).O.length≤4611686018427387904→aY b2 b3 b4 bZ cu 0∧ ∀(cM:Int),aY b2 b3 b4 bZ cu cM→(((decide (cM<((cj J).O.length:Int)))=false→true=al)∧((decide (cM<((cj J).O.length:Int)))=true→NM aY a0 J al b2 b3 b4 bZ cu cM)))∧((decide (cu<((oo J).length:Int)))=true→(0≤cu∧cu.toNat<(oo J).length)∧(NN ay aA J b2 b3 b4 bZ cu))
def NP (ay:rc Prop) (aA:rc Nat) (aY:rb Prop) (a0:rb Nat) (J:(List UInt8)) (al:Bool):Prop:=
  (J.length≤4611686018427387904→(decide ((J.length:Int)>1048576))=true→true=al)∧((J.length≤4611686018427387904)∧((!(decide ((J.length:Int)>1048576)))=true)→(oo J).length≤4611686018427387904→ay (ei (cj J)).ok (ei (cj J)).au (ei (cj J)).an (ei (cj J)).O 0∧ ∀(b2:Bool) (b3:(List Bool)) (b4:(List bd)) (bZ:(List ad)) (cu:Int),ay b2 b3 b4 bZ cu→(NO ay aA aY a0 J al b2 b3 b4 bZ cu))
def NH (J:(List UInt8)) (al:Bool) (ay:rc Prop) (aA:rc Nat) (aY:rb Prop) (a0:rb Nat):Prop:=
 NP ay aA aY a0 J al
theorem ZF (J:(List UInt8)):bX Try.prog 15 [bE qi J] (ao (Jk J)):=(fun(ay:rc Prop) (aA:rc Nat) (aY:rb Prop) (a0:rb Nat) (h:NH J (Jk J) ay aA aY a0)=>bX.run (ps:=[(.l .u8)]) (rs:=[.bool]) (x:=(J,())) (r:=((Jk J),())) ⟨118,dZ,[acO,HS,acZ,Yg,X6,X8,ac1]⟩ ⟨[72],[],[],[],[]⟩ (.lp [] [3,5,25,26] [(5,4),(3,5)] [.bool,(.l .bool),(.l .gI),(.l .held),.int] [eD 5 0,eD 5 1,eD 5 2,eD 5 3,27] (fun aS=>[(27,.i .i64 aS.2.2.2.2.1),(eD 5 0,.b (.v aS.1)),(eD 5 1,.l .bool aS.2.1 false false),(eD 5 2,.l .gI aS.2.2.1 false false),(eD 5 3,.l .held aS.2.2.2.1 false false)]) (fun aS=>ay aS.1 aS.2.1 aS.2.2.1 aS.2.2.2.1 aS.2.2.2.2.1) (fun aS=>aA aS.1 aS.2.1 aS.2.2.1 aS.2.2.2.1 aS.2.2.2.2.1) fun aS=>(e8 [3,5,36] [(5,4),(3,5)] 37 (aY aS.1 aS.2.1 aS.2.2.1 aS.2.2.2.1 aS.2.2.2.2.1) (a0 aS.1 aS.2.1 aS.2.2.1 aS.2.2.2.1 aS.2.2.2.2.1) fun _=> .nil)) Try.func15 h) (fun k o q w v=>cv (pT J).length (fun _=>false) v∧Frame.mk k o q w=s_ J v) (fun _ _ _ _=>cG (pT J).length) (fun _ _ _ _ _=>cv (cj J).O.length (fun _=>false)) (fun _ _ _ _ _=>cG (cj J).O.length) (by
 have hlen:=aa_ J
 unfold NH NP
 rw[Hw]
 refine⟨fun _ _=>rfl,fun _ h1=>⟨⟨di (dt _),rfl⟩,fun k o q w v ⟨aX,he⟩=> ?_⟩⟩
 unfold NO
 rw[Hw]
 refine⟨fun hv aF=> ?_,fun hv=>⟨ch aX hv,?_⟩⟩
 case refine_2=>
  unfold NN
  rw[Hw]
  have up:=c0 (cD h1) aX hv rfl
  have mJ:=jM (cD h1) aX.1 (by simpa using hv)
  rw[mJ] at up ⊢
  exact⟨⟨up.1,(OL aX.1).symm⟩,up.2⟩
 have afZ:=aX.2.1
 have fi:=aaS (code:=J) aX.1 (by omega)
 rw[←he] at fi
 have n6:=K4 fi
 have rS:=GM fi
 refine⟨di (dt _),fun i ds=>⟨fun _=>rfl,fun hi=> ?_⟩⟩
 have y0:=ch ds hi
 have i1:i<(cj J).O.length:=by omega
 obtain⟨Kn,DY,sA⟩:=afg fi y0.1 i1
 have WJ:=Tk fi y0.1 i1
 have yX:w.length=(cj J).O.length:=n6.2.2
 unfold NM
 refine⟨⟨rS,rS,rS,?_⟩,fun _=>c0 (cD aF) ds hi rfl⟩
 unfold NL NI
 rw[Kn,sA,Ti,WJ]
 refine⟨⟨fun _=>rS,fun h=>by simp at h⟩,fun _ ⟨mW,n2,og⟩=> ?_⟩
 unfold NK NJ
 rw[Kn,sA]
 rw[DY] at mW n2 og ⊢
 have Ny:0≤i∧i.toNat<w.length:=⟨y0.1,by omega⟩
 have id:0≤i∧i.toNat<(h8 (cj J) (Frame.mk k o q w) ⟨1,i,0⟩).frame.O.length:=⟨y0.1,by omega⟩
 refine⟨⟨fun _ _=>⟨Ny,fun _=>id⟩,fun _=>⟨Ny,fun _=>id⟩⟩,fun hb=> ?_⟩
 have rY:=pj (kD (cj J) (Frame.mk k o q w) i) (cj J).O.length
 have jX:=pj (mR (cj J) (Frame.mk k o q w) i) (cj J).ai
 have y4:=pj (jy (cj J) (Frame.mk k o q w) i) (cj J).be.length
 have cF:=(mf fi).in
 have M:=cF.O
 have U:=cF.cZ
 have c7:=cF.sw
 have W9:=aao (cj J) (Frame.mk k o q w) i
 by_cases aN:(nth w i).aq=0
 ·have hs:=Tj fi y0.1 i1 aN
  have hl:((nth w i).aq==0)=true:=by simpa using aN
  have mJ:=afi (p:=cj J) (f:=Frame.mk k o q w) (i:=i) aN
  rw[hl] at hb
  simp only[cond_true] at hb
  rw[hs] at hb
  have dP:(gg (cj J) (Frame.mk k o q w) i).O.length≤100:=by
   have:(gg (cj J) (Frame.mk k o q w) i).O.length≤(((cj J).O.length:Int)).toNat:=rY
   omega
  have h_:(gg (cj J) (Frame.mk k o q w) i).ai.length≤60:=by
   have:(gg (cj J) (Frame.mk k o q w) i).ai.length≤(cj J).ai.toNat:=jX
   omega
  have oQ:(gg (cj J) (Frame.mk k o q w) i).an.length≤40:=by
   have:(gg (cj J) (Frame.mk k o q w) i).an.length≤(((cj J).be.length:Int)).toNat:=y4
   omega
  have yf:((IntKind.i64.wrap ((IntKind.i64.wrap (((gg (cj J) (Frame.mk k o q w) i).O.length:Int)+((gg (cj J) (Frame.mk k o q w) i).ai.length:Int)))+((gg (cj J) (Frame.mk k o q w) i).an.length:Int)))==0)=(dI (cj J) (Frame.mk k o q w) i==0):=by
   rw[fm (n:=((gg (cj J) (Frame.mk k o q w) i).O.length:Int)+((gg (cj J) (Frame.mk k o q w) i).ai.length:Int)) (by omega) (by omega),fm (by omega) (by omega),mJ,Bool.eq_iff_iff,beq_iff_eq,beq_iff_eq,←W9]
   omega
  rw[yf] at hb
  simp at hb
 ·have hl:((nth w i).aq==0)=false:=by simpa using aN
  have mJ:=afh (p:=cj J) (f:=Frame.mk k o q w) (i:=i) aN
  rw[hl,mJ] at hb
  simp at hb)
end Go.Proofs.Ytglpfccgmfhkdaa.Fw
