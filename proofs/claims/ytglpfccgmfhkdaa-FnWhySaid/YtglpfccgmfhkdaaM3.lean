/- The machine, part A: kinds of values, values told by their kinds, trees of conditions. -/
import Derived.Test.YtglpfccgmfhkdaaM2
set_option linter.unusedVariables false
namespace Go.Proofs.Ytglpfccgmfhkdaa.Fw
open Go
inductive bH where
 | int | u64 | u8 | bool | str | bk | j7 | c8 | fE | gI | held | frame | done | fault | stays | c9 | unit | nat
 | l (e:bH)
 | ptr (e:bH)
 | ii (f:Nat) (e:bH)
 deriving DecidableEq,Inhabited
@[reducible] def bH.T:bH→Type
 | .int=>Int
 | .u64=>Int
 | .u8=>UInt8
 | .bool=>Bool
 | .str=>ByteArray
 | .bk=>cx
 | .j7=>Way
 | .c8=>az
 | .fE=>Event
 | .gI=>bd
 | .held=>ad
 | .frame=>Frame
 | .done=>fv
 | .fault=>jb
 | .stays=>ma
 | .c9=>ba
 | .unit=>Unit
 | .nat=>Nat
 | .l e=>List e.T
 | .ptr e=>e.T
 | .ii _ e=>e.T
@[reducible] def bH.uA:(e:bH)→Inhabited e.T
 | .int=>inferInstanceAs (Inhabited Int)
 | .u64=>inferInstanceAs (Inhabited Int)
 | .u8=>inferInstanceAs (Inhabited UInt8)
 | .bool=>inferInstanceAs (Inhabited Bool)
 | .str=>inferInstanceAs (Inhabited ByteArray)
 | .bk=>inferInstanceAs (Inhabited cx)
 | .j7=>inferInstanceAs (Inhabited Way)
 | .c8=>inferInstanceAs (Inhabited az)
 | .fE=>inferInstanceAs (Inhabited Event)
 | .gI=>inferInstanceAs (Inhabited bd)
 | .held=>inferInstanceAs (Inhabited ad)
 | .frame=>inferInstanceAs (Inhabited Frame)
 | .done=>inferInstanceAs (Inhabited fv)
 | .fault=>inferInstanceAs (Inhabited jb)
 | .stays=>inferInstanceAs (Inhabited ma)
 | .c9=>inferInstanceAs (Inhabited ba)
 | .unit=>inferInstanceAs (Inhabited Unit)
 | .nat=>inferInstanceAs (Inhabited Nat)
 | .l e=>inferInstanceAs (Inhabited (List e.T))
 | .ptr e=>e.uA
 | .ii _ e=>e.uA
def s5 (e:bH) (xs:List e.T) (i:Int):e.T:= @nth e.T e.uA xs i
def c5:List bH→Type
 | []=>Unit
 | e::r=>e.T×c5 r
def bH.kJ:bH→List bH
 | .bk=>[.int,.int]
 | .j7=>[.l .int,.l .bk,.l .bk,.l .int,.l .int]
 | .c8=>[.int,.l .int,.l .j7,.l (.l .bool),.int]
 | .fE=>[.int,.int,.int]
 | .gI=>[.int,.int]
 | .held=>[.int,.int,.l .bool,.bool,.int]
 | .frame=>[.bool,.l .bool,.l .gI,.l .held]
 | .done=>[.int,.bool,.l .bool,.l .gI,.l .held]
 | .fault=>[.int,.int]
 | .stays=>[.l .int,.l .int,.l .int]
 | .c9=>[.l .u8,.int,.u64]
 | e=>[e]
def bH.isS:bH→Bool
 | .bk | .j7 | .c8 | .fE | .gI | .held | .frame | .done | .fault | .stays | .c9=>true
 | _=>false
def bH.mk:(e:bH)→c5 e.kJ→e.T
 | .bk,(a,b,_)=>⟨a,b⟩
 | .j7,(a,b,c,d,e,_)=>⟨a,b,c,d,e⟩
 | .c8,(a,b,c,d,e,_)=>⟨a,b,c,d,e⟩
 | .fE,(a,b,c,_)=>⟨a,b,c⟩
 | .gI,(a,b,_)=>⟨a,b⟩
 | .held,(a,b,c,d,e,_)=>⟨a,b,c,d,e⟩
 | .frame,(a,b,c,d,_)=>⟨a,b,c,d⟩
 | .done,(a,b,c,d,e,_)=>⟨a,⟨b,c,d,e⟩⟩
 | .fault,(a,b,_)=>⟨a,b⟩
 | .stays,(a,b,c,_)=>⟨a,b,c⟩
 | .c9,(a,b,c,_)=>⟨a,b,c⟩
 | .int,(a,_)=>a
 | .u64,(a,_)=>a
 | .u8,(a,_)=>a
 | .bool,(a,_)=>a
 | .str,(a,_)=>a
 | .unit,(a,_)=>a
 | .nat,(a,_)=>a
 | .l _,(a,_)=>a
 | .ptr _,(a,_)=>a
 | .ii _ _,(a,_)=>a
def bH.un:(e:bH)→e.T→c5 e.kJ
 | .bk,x=>(x.sw,x.bk,())
 | .j7,x=>(x.ai,x.a2,x.bw,x.cO,x.cJ,())
 | .c8,x=>(x.ai,x.be,x.O,x.bU,x.dn,())
 | .fE,x=>(x.op,x.ah,x.bk,())
 | .gI,x=>(x.cC,x.a2,())
 | .held,x=>(x.aq,x.af,x.ac,x.ap,x.ar,())
 | .frame,x=>(x.ok,x.au,x.an,x.O,())
 | .done,x=>(x.code,x.frame.ok,x.frame.au,x.frame.an,x.frame.O,())
 | .fault,x=>(x.code,x.pos,())
 | .stays,x=>(x.O,x.ai,x.an,())
 | .c9,x=>(x.code,x.pos,x.tp,())
 | .int,x=>(x,())
 | .u64,x=>(x,())
 | .u8,x=>(x,())
 | .bool,x=>(x,())
 | .str,x=>(x,())
 | .unit,x=>(x,())
 | .nat,x=>(x,())
 | .l _,x=>(x,())
 | .ptr _,x=>(x,())
 | .ii _ _,x=>(x,())
theorem bH.Sp (e:bH) (x:c5 e.kJ):e.un (e.mk x)=x:=by cases e<;>rfl
def b8 (fr:Bool):(e:bH)→e.T→List AV
 | .int,x=>db x
 | .u64,x=>[.int .u64 x]
 | .u8,x=>qi x
 | .bool,x=>aW x
 | .str,x=>DX x
 | .bk,x=>dj x
 | .j7,x=>dx fr x
 | .c8,x=>bq fr x
 | .fE,x=>iN x
 | .gI,x=>a5 x
 | .held,x=>cX fr x
 | .frame,x=>bS fr x
 | .done,x=>rp fr x
 | .fault,x=>DV x
 | .stays,x=>AK fr x
 | .c9,x=>UB fr x
 | .l e,x=>[.bz (x.map (b8 false e)) false fr]
 | .unit,_ | .nat,_ | .ptr _,_ | .ii _ _,_=>[.undef]
def oH (fr:Bool):(e:bH)→e.T→AV
 | .int,x=> .int .i64 x
 | .u64,x=> .int .u64 x
 | .u8,x=> .int .u8 x.toNat
 | .bool,x=> .bool x
 | .str,x=> .str x
 | .l e,x=> .bz (x.map (b8 false e)) false fr
 | _,_=> .undef
def lU (fr:Bool):(es:List bH)→c5 es→List AV
 | [],_=>[]
 | e::r,x=>oH fr e x.1::lU fr r x.2
theorem qk (fr:Bool) (e:bH) (x:e.T):lU fr e.kJ (e.un x)=b8 fr e x:=by
 cases e<;>first | rfl | (simp only[bH.kJ,bH.un,lU,oH,b8];rfl)
def bH.l1:bH→Nat
 | .bk=>2
 | .j7=>5
 | .c8=>5
 | .fE=>3
 | .gI=>2
 | .held=>5
 | .frame=>4
 | .done=>5
 | .fault=>2
 | .stays=>3
 | .c9=>3
 | _=>1
theorem rq (fr:Bool) (e:bH) (x:e.T):(b8 fr e x).length=e.l1:=by cases e<;>rfl
def bH.oW:bH→Bool
 | .unit | .nat | .ptr _ | .ii _ _=>false
 | _=>true
theorem UH {fr:Bool} {e:bH} (h:e.oW=true) (x:e.T):(b8 fr e x).all iY=true:=by cases e<;>first | rfl | cases h
inductive ez where
 | t | f
 | v (b:Bool)
 | at(i:Nat) (b:Bool)
 | n (x:ez)
 | aH (x y:ez)
 | or (x y:ez)
 | ite (c x y:ez)
 | v3 (x y:ez)
 | ne (x y:ez)
 deriving Inhabited
def ez.den:ez→Bool
 | .t=>true
 | .f=>false
 | .v b=>b
 | .at _ b=>b
 | .n x=> !x.den
 | .aH x y=>x.den&&y.den
 | .or x y=>x.den || y.den
 | .ite c x y=>bif c.den then x.den else y.den
 | .v3 x y=>x.den==y.den
 | .ne x y=>x.den !=y.den
def ez.not:ez→ez
 | .t=> .f
 | .f=> .t
 | x=> .n x
def ez.uU (b x y:ez):ez:=match x with
 | .t=>(match y with
  | .t=> .t
  | .f=>b
  | y=> .or b y)
 | .f=>(match y with
  | .f=> .f
  | .t=> .n b
  | y=> .aH (.n b) y)
 | x=>(match y with
  | .f=> .aH b x
  | .t=> .or (.n b) x
  | y=> .ite b x y)
theorem ez.zn (b x y:ez):(ez.uU b x y).den=bif b.den then x.den else y.den:=by
 cases x<;>cases y<;>simp only[ez.uU,ez.den]<;>cases b.den<;>simp
inductive TV where
 | u
 | i (k:IntKind) (n:Int)
 | b (x:ez)
 | s (x:ByteArray)
 | l (e:bH) (xs:List e.T) (full fr:Bool)
 | nil (full fr:Bool)
 | ref (b g n:Nat) (full:Bool)
 | ptr (b g:Nat) (i:Int) (n col:Nat)
 | lp (t col:Nat)
 | dv (e:bH) (x:e.T) (col:Nat)
 | agg (c:List TV)
 | tup (c:List TV)
 | fn (f:FuncId) (c:List TV)
 | o (a:AV)
 | blk (g:Nat) (e:bH) (xs:List e.T) (n:Nat) (h:xs.length=n)
 | eG (g:Nat) (c:List TV)
 | kt (g m:Nat) (ids:List Nat)
 | gZ (V:List ad) (ids:List Nat) (n:Nat) (h:V.length=n)
 | new (id:Nat) (xs:List Bool)
 | wg (w:Int) (ids:List Nat) (m n:Nat)
 | we (w:Int) (ids:List Nat) (m:Nat) (j:Int)
 | zg (id m n:Nat)
 deriving Inhabited
class FZ where
 ws:List ad
 bs:List (List Bool)
mutual
def TV.bB:TV→AV
 | .u=> .undef
 | .i k n=> .int k n
 | .b x=> .bool x.den
 | .s x=> .str x
 | .l e xs full fr=> .bz (xs.map (b8 false e)) full fr
 | .nil full fr=> .bz [] full fr
 | .ref b g n full=> .ref b g 0 n full
 | .ptr b g i _ c=> .ptr b g i.toNat c
 | .lp t c=> .fF t c
 | .dv e x c=> .dv (b8 false e x) c
 | .agg c=> .agg (cP c)
 | .tup c=> .tup (cP c)
 | .fn f c=> .fn f (cP c)
 | .o a=>a
 | .blk _ _ _ _ _=> .undef
 | .eG _ _=> .undef
 | .kt _ _ _=> .undef
 | .gZ _ _ _ _=> .undef
 | .new _ _=> .undef
 | .wg w ids m k=> .ref (nth ids w+m) 0 0 k false
 | .we w ids m j=> .ptr (nth ids w+m) 0 j.toNat 0
 | .zg id m k=> .ref (id+m) 0 0 k false
def cP:List TV→List AV
 | []=>[]
 | x::r=>x.bB::cP r
end
theorem nP (l:List TV):cP l=l.map TV.bB:=by
 induction l with
 | nil=>rfl
 | cons x r bR=>rw[cP,bR];rfl
def TV.ep [Z:FZ]:TV→Blk
 | .blk g e xs _ _=>⟨g,e.l1,xs.map (b8 true e)⟩
 | .eG g c=>⟨g,c.length,[cP c]⟩
 | .kt g m ids=>⟨g,5,aZ m Z.ws ids⟩
 | _=>⟨0,0,[]⟩
def z1 (fr:Bool):(e:bH)→e.T→TV
 | .int,x=> .i .i64 x
 | .u64,x=> .i .u64 x
 | .u8,x=> .i .u8 x.toNat
 | .bool,x=> .b (.v x)
 | .str,x=> .s x
 | .l e,x=> .l e x false fr
 | _,_=> .u
def CR (fr:Bool):(es:List bH)→c5 es→List TV
 | [],_=>[]
 | e::r,x=>z1 fr e x.1::CR fr r x.2
theorem Jb (fr:Bool) (e:bH) (x:e.T):(z1 fr e x).bB=oH fr e x:=by cases e<;>rfl
theorem Sk (fr:Bool): ∀(es:List bH) (x:c5 es),cP (CR fr es x)=lU fr es x
 | [],_=>rfl
 | e::r,x=>by rw[CR,cP,lU,Jb,Sk fr r]
def gE (fr:Bool) (e:bH) (x:e.T):List TV:=CR fr e.kJ (e.un x)
theorem vR (fr:Bool) (e:bH) (x:e.T):cP (gE fr e x)=b8 fr e x:=by rw[gE,Sk,qk]
structure TS where
 T:List (Nat×TV)
 B:List (Nat×TV)
 vs:List (Nat×Nat)
 bn:Nat
 deriving Inhabited
def fU:List (Nat×TV)→Nat→TV→TV
 | [],_,d=>d
 | (k,v)::r,t,d=>match Nat.beq k t with
  | true=>v
  | false=>fU r t d
def eD (v c:Nat):Nat:=1000010+(1000*v+c)
def dH:Nat:=1000000
def gb:Nat:=1000001
def bA (b:Nat):Nat:=1000000000000+b
def TS.get (s:TS) (k:Nat):TV:=fU s.T k (fU s.B k .u)
def TS.put (s:TS) (k:Nat) (v:TV):TS:=⟨(k,v)::s.T,s.B,s.vs,s.bn⟩
def hQ (s:TS) (v:Nat):Nat→Nat→List TV
 | _,0=>[]
 | c,m+1=>s.get (eD v c)::hQ s v (c+1) m
def TS.tT (n:Nat) (s:TS):List AV:=(List.range n).map fun t=>(s.get t).bB
def TS.cs (s:TS):List (Nat×List AV):=s.vs.map fun p=>(p.1,cP (hQ s p.1 0 p.2))
def il (s:TS):Bool:=match s.get dH with
 | .gZ _ _ _ _=>false
 | _=>true
def g0 [Z:FZ] (s:TS):List Blk:=match il s with
 | true=>[]
 | false=>Z.bs.map bi
def TS.gn [FZ] (s:TS):List Blk:=(List.range s.bn).map fun b=>(s.get (bA b)).ep
def TS.aI [FZ] (n:Nat) (s:TS):St:=⟨s.tT n,s.cs,s.gn++g0 s⟩
def Fits [Z:FZ] (s:TS):Prop:=
 (∀V ids n h,s.get dH= .gZ V ids n h→gr Z.ws ids Z.bs∧view Z.ws ids Z.bs=V∧ ∀id xs,s.get gb= .new id xs→id<Z.bs.length∧Z.bs.getD id []=xs∧ ∀j:Nat,ids[j]?≠some id)
theorem Fits.congr [FZ] {s s':TS} (h:Fits s) (e: ∀k,1000000≤k→k<1000010→s'.get k=s.get k):Fits s':=fun V ids n h' mg=>by
 rw[e dH (by unfold dH;omega) (by unfold dH;omega)] at mg
 obtain⟨h1,h2,bb⟩:=h V ids n h' mg
 refine⟨h1,h2,fun id xs hi=>bb id xs ?_⟩
 rw[←hi,e gb (by unfold gb;omega) (by unfold gb;omega)]
theorem Fits.none [FZ] {s:TS} (h:il s=true):Fits s:=fun V ids n h' mg=>by
 unfold il at h;rw[mg] at h;cases h
theorem gG (k:Nat) (v:TV) (r:List (Nat×TV)) (t:Nat) (d:TV):fU ((k,v)::r) t d=if k=t then v else fU r t d:=by
 show(match Nat.beq k t with
  | true=>v
  | false=>fU r t d)=_
 by_cases h:k=t
 ·subst h;rw[Nat.beq_refl,if_pos rfl]
 ·rw[if_neg h]
  cases hb:Nat.beq k t with
  | true=>exact absurd (Nat.eq_of_beq_eq_true hb) h
  | false=>rfl
theorem r1 (A B:List (Nat×TV)) (t:Nat) (d:TV):fU (A++B) t d=fU A t (fU B t d):=by
 induction A with
 | nil=>rfl
 | cons p r bR=>obtain⟨k,v⟩:=p;rw[List.cons_append,gG,gG,bR]
theorem sY {A:List (Nat×TV)} {t:Nat} {d:TV} (h: ∀v,(t,v) ∉ A):fU A t d=d:=by
 induction A with
 | nil=>rfl
 | cons p r bR=>
  obtain⟨k,v⟩:=p
  rw[gG,if_neg,bR fun w hw=>h w (List.mem_cons_of_mem _ hw)]
  rintro rfl;exact h v (List.mem_cons_self ..)
theorem TS.Ex (s:TS) (k:Nat) (v:TV) (t:Nat):(s.put k v).get t=if k=t then v else s.get t:=gG ..
inductive aU:Type 1 where
 | kI (ex:Exit) (s:TS)
 | ht
 | no
 | p (φ:Prop) (t:aU)
 | jW (φ:Prop) (t:aU)
 | iQ (b:ez) (s:TS) (x y:aU)
 | two (x y:aU)
 | hG (x:aU) (fx:List Prop) (b:ez) (y:aU)
 | all (α:Type) (f:α→aU)
 | eq {α:Type} (a b:α) (t:aU)
def qh:List Prop→Prop
 | []=>True
 | φ::r=>match r with
  | []=>φ
  | r=>φ∧qh r
theorem J_: ∀{l:List Prop},(∀φ∈l,φ)→qh l
 | [],_=>trivial
 | [φ],h=>h φ (by simp)
 | φ::ψ::r,h=>⟨h φ (by simp),J_ (l:=ψ::r) fun x hx=>h x (List.mem_cons_of_mem _ hx)⟩
def v8 (fx:List Prop):ez→List Prop
 | .t=>fx
 | b=>fx++[b.den=true]
def yh (fx:List Prop) (b:ez):Prop:=qh (v8 fx b)
theorem UU {fx:List Prop} {b:ez} (h: ∀φ∈fx,φ) (hb:b.den=true):yh fx b:=by
 unfold yh
 refine J_ fun φ e7=> ?_
 unfold v8 at e7
 split at e7
 ·exact h φ e7
 ·rcases List.mem_append.1 e7 with q | q
  ·exact h φ q
  ·rw[List.mem_singleton.1 q];exact hb
def aU.den:aU→(Exit→TS→Prop)→Prop
 | .kI ex s,R=>R ex s
 | .ht,_=>True
 | .no,_=>False
 | .p φ t,R=>φ∧t.den R
 | .jW φ t,R=>φ→t.den R
 | .iQ b _ x y,R=>(b.den=true→x.den R)∧(b.den=false→y.den R)
 | .two x y,R=>x.den R∧y.den R
 | .hG x fx b y,R=>x.den R∧(yh fx b→y.den R)
 | .all _ f,R=> ∀a,(f a).den R
 | .eq a b t,R=>a=b∧t.den R
def aU.bind:aU→(Exit→TS→aU)→aU
 | .kI ex s,K=>K ex s
 | .ht,_=> .ht
 | .no,_=> .no
 | .p φ t,K=> .p φ (t.bind K)
 | .jW φ t,K=> .jW φ (t.bind K)
 | .iQ b s x y,K=> .iQ b s (x.bind K) (y.bind K)
 | .two x y,K=> .two (x.bind K) (y.bind K)
 | .hG x fx b y,K=> .hG (x.bind K) fx b (y.bind K)
 | .all α f,K=> .all α fun a=>(f a).bind K
 | .eq a b t,K=> .eq a b (t.bind K)
theorem aU.Tu (t:aU) (K:Exit→TS→aU) (R:Exit→TS→Prop):(t.bind K).den R=t.den fun ex s=>(K ex s).den R:=by
 induction t with
 | kI ex s=>rfl
 | ht=>rfl
 | no=>rfl
 | p φ t bR=>simp only[aU.bind,aU.den,bR]
 | jW φ t bR=>simp only[aU.bind,aU.den,bR]
 | iQ b s x y hU hF=>simp only[aU.bind,aU.den,hU,hF]
 | two x y hU hF=>simp only[aU.bind,aU.den,hU,hF]
 | hG x fx b y hU hF=>simp only[aU.bind,aU.den,hU,hF]
 | all α f bR=>simp only[aU.bind,aU.den,bR]
 | eq a b t bR=>simp only[aU.bind,aU.den,bR]
theorem aU.rn {t:aU} {R xX:Exit→TS→Prop} (h:t.den R) (k: ∀ex s,R ex s→xX ex s):t.den xX:=by
 induction t with
 | kI ex s=>exact k _ _ h
 | ht=>trivial
 | no=>exact h
 | p φ t bR=>exact⟨h.1,bR h.2⟩
 | jW φ t bR=>exact fun q=>bR (h q)
 | iQ b s x y hU hF=>exact⟨fun q=>hU (h.1 q),fun q=>hF (h.2 q)⟩
 | two x y hU hF=>exact⟨hU h.1,hF h.2⟩
 | hG x fx b y hU hF=>exact⟨hU h.1,fun q=>hF (h.2 q)⟩
 | all α f bR=>exact fun a=>bR a (h a)
 | eq a b t bR=>exact⟨h.1,bR h.2⟩
inductive fY:Type 1 where
 | ht
 | p (φ:Prop)
 | and (a b:fY)
 | jW (φ:Prop) (c:fY)
 | all (α:Type) (f:α→fY)
def fY.and' (a b:fY):fY:=match a with
 | .ht=>b
 | a=>match b with
  | .ht=>a
  | b=> .and a b
def fY.wR (φ:Prop) (c:fY):fY:=match c with
 | .ht=> .ht
 | c=> .jW φ c
def fY.den:fY→Prop
 | .ht=>True
 | .p φ=>φ
 | .and a b=>a.den∧b.den
 | .jW φ c=>φ→c.den
 | .all _ f=> ∀a,(f a).den
theorem fY.Ak (a b:fY):(fY.and' a b).den↔a.den∧b.den:=by
 cases a<;>cases b<;>simp[fY.and',fY.den]
theorem fY.BK (φ:Prop) (c:fY):(fY.wR φ c).den↔(φ→c.den):=by
 cases c<;>simp[fY.wR,fY.den]
def fY.fact (fx:List Prop) (b:ez) (c:fY):fY:=match v8 fx b with
 | []=>c
 | φ::r=> .wR (qh (φ::r)) c
theorem fY.UW (fx:List Prop) (b:ez) (c:fY):(fY.fact fx b c).den↔(yh fx b→c.den):=by
 unfold fY.fact yh
 split
 ·rename_i h;rw[h];simp[qh]
 ·rename_i h;rw[h];exact fY.BK _ _
def aU.nR:aU→fY
 | .kI _ _=> .ht
 | .ht=> .ht
 | .no=> .p False
 | .p φ t=> .and' (.p φ) t.nR
 | .jW φ t=> .wR φ t.nR
 | .iQ b _ x y=> .and' (.wR (b.den=true) x.nR) (.wR (b.den=false) y.nR)
 | .two x y=> .and' x.nR y.nR
 | .hG x fx b y=> .and' x.nR (.fact fx b y.nR)
 | .all α f=> .all α fun a=>(f a).nR
 | .eq _ _ t=>t.nR
inductive rh:Type 1 where
 | u
 | v {α:Type} (a:α) (t:rh)
 | n (a b:rh)
 | f {α:Type} (g:α→rh)
def aU.lhs:aU→rh
 | .kI _ _ | .ht | .no=> .u
 | .p _ t | .jW _ t=>t.lhs
 | .iQ _ _ x y | .two x y | .hG x _ _ y=> .n x.lhs y.lhs
 | .all _ f=> .f fun a=>(f a).lhs
 | .eq a _ t=> .v a t.lhs
def aU.rhs:aU→rh
 | .kI _ _ | .ht | .no=> .u
 | .p _ t | .jW _ t=>t.rhs
 | .iQ _ _ x y | .two x y | .hG x _ _ y=> .n x.rhs y.rhs
 | .all _ f=> .f fun a=>(f a).rhs
 | .eq _ b t=> .v b t.rhs
theorem aU.full {t:aU} (h:t.nR.den) (e:t.lhs=t.rhs):t.den fun _ _=>True:=by
 induction t with
 | kI ex s=>trivial
 | ht=>trivial
 | no=>exact h
 | p φ t bR=>
  have h:=(fY.Ak _ _).1 h
  exact⟨h.1,bR h.2 e⟩
 | jW φ t bR=>exact fun q=>bR ((fY.BK _ _).1 h q) e
 | iQ b s x y hU hF=>
  have h:=(fY.Ak _ _).1 h
  injection e with bx e2
  exact⟨fun q=>hU ((fY.BK _ _).1 h.1 q) bx,fun q=>hF ((fY.BK _ _).1 h.2 q) e2⟩
 | two x y hU hF=>
  have h:=(fY.Ak _ _).1 h
  injection e with bx e2
  exact⟨hU h.1 bx,hF h.2 e2⟩
 | hG x fx b y hU hF=>
  have h:=(fY.Ak _ _).1 h
  injection e with bx e2
  exact⟨hU h.1 bx,fun q=>hF ((fY.UW _ _ _).1 h.2 q) e2⟩
 | all α f bR=>
  injection e with _ e
  exact fun a=>bR a (h a) (congrFun e a)
 | eq a b t bR=>
  injection e with _ bx e2
  exact⟨bx,bR h e2⟩
def uV (b:ez) (x y:TV):TV:=match x with
 | .i k n=>(match y with
  | .i kH m=>if k=kH then .i k (bif b.den then n else m) else .u
  | _=> .u)
 | .b x=>(match y with
  | .b y=> .b (ez.uU b x y)
  | _=> .u)
 | _=> .u
def ez.od:ez→ez→Bool
 | .at i _,.at j _=>Nat.beq i j
 | .t,.t=>true
 | .f,.f=>true
 | .n x,.n y=>x.od y
 | .aH x y,.aH z w=>x.od z&&y.od w
 | .or x y,.or z w=>x.od z&&y.od w
 | .ite c x y,.ite d z w=>c.od d&&x.od z&&y.od w
 | .v3 x y,.v3 z w=>x.od z&&y.od w
 | .ne x y,.ne z w=>x.od z&&y.od w
 | _,_=>false
def Gp (x y:TV):Bool:=match x with
 | .b x=>(match y with
  | .b y=>x.od y
  | _=>false)
 | _=>false
def BY (b:ez) (x y:TV):TV:=match Gp x y with
 | true=>x
 | false=>uV b x y
def uF (s s':TS):List (Nat×TV)→List (List (Nat×TV)×List (Nat×TV))
 | []=>[]
 | p::r=>match Gp (s.get p.1) (s'.get p.1) with
  | true=>([(p.1,s.get p.1)],[(p.1,s'.get p.1)])::uF s s' r
  | false=>uF s s' r
inductive ri where
 | bad
 | none
 | some (s:TS) (jG:List (List (Nat×TV)×List (Nat×TV)))
def lR {e dW:bH} (h:dW=e) (xs:List dW.T):List e.T:=h▸xs
def Eu:(e:bH)→TV→e.T
 | .int,.i _ m=>m
 | .u64,.i _ m=>m
 | .bool,.b x=>x.den
 | .str,.s x=>x
 | .l e,.l dW xs _ _=>if h:dW=e then lR h xs else[]
 | e,_=>e.uA.default
def oI:(es:List bH)→List TV→c5 es
 | [],_=>()
 | e::r,v::vs=>(Eu e v,oI r vs)
 | e::r,[]=>(e.uA.default,oI r [])
def qJ (c:List TV):ba:=bH.mk .c9 (oI bH.c9.kJ c)
def BN:TV→Bool
 | .eG _ _=>true
 | _=>false
def w9 (s s':TS):List (Nat×TV)→Bool
 | []=>true
 | (k,_)::r=>match Nat.blt k 1000000 with
  | true=>w9 s s' r
  | false=>match BN (s.get k)&&BN (s'.get k)&&Nat.ble 1000010 k with
   | true=>w9 s s' r
   | false=>false
def aak (b:ez) (x y:TV):TV:=match x with
 | .eG g c=>(match y with
  | .eG _ c'=> .eG g (gE false .c9 (bif b.den then qJ c else qJ c'))
  | _=> .u)
 | _=> .u
def r3 (b:ez) (k:Nat) (x y:TV):TV:=match Nat.blt k 1000000 with
 | true=>BY b x y
 | false=>aak b x y
def abc (x y:TV):List (List (Nat×TV)×List (Nat×TV)):=match x with
 | .eG g c=>(match y with
  | .eG dG c'=>[([(g,.agg c)],[(dG,.agg (gE false .c9 (qJ c)))]),([(0,.agg c')],[(0,.agg (gE false .c9 (qJ c')))])]
  | _=>[])
 | _=>[]
def u3 (s s':TS):List (Nat×TV)→List (List (Nat×TV)×List (Nat×TV))
 | []=>[]
 | p::r=>match Nat.blt p.1 1000000 with
  | true=>u3 s s' r
  | false=>abc (s.get p.1) (s'.get p.1)++u3 s s' r
def AQ:List (Nat×Nat)→List (Nat×Nat)→Bool
 | [],[]=>true
 | (a,b)::r,(c,d)::q=>Nat.beq a c&&Nat.beq b d&&AQ r q
 | _,_=>false
def ri.iQ (b:ez) (e_:TS) (x y:ri):ri:=match x with
 | .bad=> .bad
 | .none=>(match y with
  | .bad=> .bad
  | .none=> .none
  | .some s q=> .some ⟨s.T++e_.T,e_.B,s.vs,s.bn⟩ ((s.B,e_.T++e_.B)::q))
 | .some s q=>(match y with
  | .bad=> .bad
  | .none=> .some ⟨s.T++e_.T,e_.B,s.vs,s.bn⟩ ((s.B,e_.T++e_.B)::q)
  | .some s' ta=>match w9 s s' (s.T++s'.T)&&AQ s.vs s'.vs&&Nat.beq s.bn s'.bn with
   | true=> .some ⟨(s.T++s'.T).map (fun p=>(p.1,r3 b p.1 (s.get p.1) (s'.get p.1)))++e_.T,e_.B,s.vs,s.bn⟩ ((s.B,e_.T++e_.B)::(s'.B,e_.T++e_.B)::(q++(ta++(uF s s' (s.T++s'.T)++u3 s s' (s.T++s'.T)))))
   | false=> .bad)
def aU.mV:aU→ri
 | .kI ex s=>(match ex with
  | .normal=> .some s []
  | _=> .none)
 | .ht | .no=> .none
 | .p _ t | .jW _ t | .eq _ _ t=>t.mV
 | .iQ b s x y=>ri.iQ b s x.mV y.mV
 | .two _ _ | .all _ _=> .bad
 | .hG x _ _ y=>(match x.mV with
  | .none=>y.mV
  | _=> .bad)
def aU.ll:aU→ez
 | .kI ex _=>(match ex with
  | .normal=> .t
  | _=> .f)
 | .ht | .no=> .f
 | .p _ t | .jW _ t | .eq _ _ t=>t.ll
 | .iQ b _ x y=>ez.uU b x.ll y.ll
 | .two _ _ | .all _ _=> .t
 | .hG _ _ b y=>(match b with
  | .t=>y.ll
  | b=>ez.uU b y.ll .f)
def aU.facts:aU→List Prop
 | .kI _ _ | .ht | .no | .two _ _ | .all _ _=>[]
 | .p _ t | .eq _ _ t=>t.facts
 | .jW φ t=>φ::t.facts
 | .iQ _ _ x y=>(match x.ll with
  | .f=>y.facts
  | _=>match y.ll with
   | .f=>x.facts
   | _=>[])
 | .hG _ fx _ y=>fx++y.facts
def Ju (x y:TV):Prop:= ∃g c c',x= .eG g c∧y= .eG g c'∧cP c'=cP c
structure TS.gM (s S:TS):Prop where
 vs:S.vs=s.vs
 bn:S.bn=s.bn
 get: ∀k,S.get k=s.get k∨(k<1000000∧((S.get k).bB=(s.get k).bB∨(S.get k).bB= .undef))∨(1000010≤k∧Ju (s.get k) (S.get k))
theorem TS.gM.refl (s:TS):s.gM s:=⟨rfl,rfl,fun _=> .inl rfl⟩
theorem TS.gM.trans {a b c:TS} (h:a.gM b) (k:b.gM c):a.gM c:=⟨k.vs.trans h.vs,k.bn.trans h.bn,fun t=>by
 rcases k.get t with e | ⟨aL,e⟩ | ⟨aL,e⟩
 ·rw[e];exact h.get t
 ·refine .inr (.inl ⟨aL,?_⟩)
  rcases e with e | e
  ·rcases h.get t with q | ⟨_,q⟩ | ⟨hb,_⟩
   ·rw[e,q];exact .inl rfl
   ·rw[e];exact q
   ·omega
  ·exact .inr e
 ·refine .inr (.inr ⟨aL,?_⟩)
  rcases h.get t with q | ⟨hb,_⟩ | ⟨_,q⟩
  ·rw[←q];exact e
  ·omega
  ·obtain⟨g,x,y,bx,e2,dS⟩:=e
   obtain⟨dG,ld,afs,f1,f2,f3⟩:=q
   rw[bx] at f2
   cases f2
   exact⟨g,ld,y,f1,e2,dS.trans f3⟩⟩
theorem aas {s s':TS} {l:List (Nat×TV)} (h:w9 s s' l=true) {k:Nat} {v:TV} (hm:(k,v)∈l) (hk: ¬k<1000000):1000010≤k∧(∃g c,s.get k= .eG g c)∧ ∃g c,s'.get k= .eG g c:=by
 induction l with
 | nil=>cases hm
 | cons p r bR=>
  obtain⟨a,w⟩:=p
  unfold w9 at h
  split at h
  ·rename_i a4
   rcases List.mem_cons.1 hm with e | hm
   ·cases e;exact absurd (by rw[←Nat.blt_eq];exact a4) hk
   ·exact bR h hm
  ·split at h
   ·rename_i hc
    rcases List.mem_cons.1 hm with e | hm
    ·cases e
     simp only[Bool.and_eq_true] at hc
     have O_: ∀x:TV,BN x=true→ ∃g c,x= .eG g c:=fun x hx=>by
      unfold BN at hx
      split at hx
      ·exact⟨_,_,rfl⟩
      ·cases hx
     exact⟨Nat.le_of_ble_eq_true hc.2,O_ _ hc.1.1,O_ _ hc.1.2⟩
    ·exact bR h hm
   ·cases h
theorem O9 {s s':TS}: ∀{l:List (Nat×TV)},(∀p∈u3 s s' l,p.1=p.2)→ ∀k v,(k,v)∈l→ ¬k<1000000→ ∀(g:Nat) (c:List TV) (dG:Nat) (c':List TV),s.get k= .eG g c→s'.get k= .eG dG c'→g=dG∧c=gE false .c9 (qJ c)∧c'=gE false .c9 (qJ c')
 | [],_,k,v,h,_=>by cases h
 | p::r,aj,k,v,h,hk=>fun g c dG c' bx e2=>by
  unfold u3 at aj
  rcases List.mem_cons.1 h with e | h
  ·cases e
   have hb:Nat.blt k 1000000=false:=by
    cases hb:Nat.blt k 1000000 with
    | true=>rw[Nat.blt_eq] at hb;exact absurd hb hk
    | false=>rfl
   simp only[hb,bx,e2] at aj
   have q1:=aj _ (List.mem_append_left _ (List.mem_cons_self ..))
   have q2:=aj _ (List.mem_append_left _ (List.mem_cons_of_mem _ (List.mem_cons_self ..)))
   injection q1 with M _
   injection q2 with U _
   have jc:=(Prod.mk.inj M)
   have dg:=(Prod.mk.inj U)
   exact⟨jc.1,TV.agg.inj jc.2,TV.agg.inj dg.2⟩
  ·refine O9 (fun q hm=>aj q ?_) k v h hk g c dG c' bx e2
   split
   ·exact hm
   ·exact List.mem_append_right _ hm
theorem Ku: ∀{l m:List (Nat×Nat)},AQ l m=true→l=m
 | [],[],_=>rfl
 | [],_::_,h=>by cases h
 | _::_,[],h=>by cases h
 | (a,b)::r,(c,d)::q,h=>by
  simp only[AQ,Bool.and_eq_true] at h
  rw[Nat.eq_of_beq_eq_true h.1.1,Nat.eq_of_beq_eq_true h.1.2,Ku h.2]
theorem aaH {b:ez} {x y:TV} (h:b.den=true):(uV b x y).bB=x.bB∨(uV b x y).bB= .undef:=by
 unfold uV
 split
 ·split
  ·split
   ·left;simp[TV.bB,h]
   ·exact .inr rfl
  ·exact .inr rfl
 ·split
  ·left;simp[TV.bB,ez.zn,h]
  ·exact .inr rfl
 ·exact .inr rfl
theorem aaG {b:ez} {x y:TV} (h:b.den=false):(uV b x y).bB=y.bB∨(uV b x y).bB= .undef:=by
 unfold uV
 split
 ·split
  ·split
   ·rename_i e;left;subst e;simp[TV.bB,h]
   ·exact .inr rfl
  ·exact .inr rfl
 ·split
  ·left;simp[TV.bB,ez.zn,h]
  ·exact .inr rfl
 ·exact .inr rfl
theorem abg {s e_:TS} (h:s.B=e_.T++e_.B) (vs:List (Nat×Nat)) (bn k:Nat):TS.get ⟨s.T++e_.T,e_.B,vs,bn⟩ k=s.get k:=by
 unfold TS.get
 simp only
 rw[h,r1,r1]
theorem Z4 {l:List (Nat×TV)} {f:Nat→TV} {k:Nat} {d:TV}:((∃v,(k,v)∈l)∧fU (l.map fun p=>(p.1,f p.1)) k d=f k)∨((∀v,(k,v) ∉ l)∧fU (l.map fun p=>(p.1,f p.1)) k d=d):=by
 induction l with
 | nil=>exact .inr ⟨(fun v h=>by cases h),rfl⟩
 | cons p r bR=>
  obtain⟨a,w⟩:=p
  rw[List.map_cons,gG]
  by_cases e:a=k
  ·subst e;exact .inl ⟨⟨w,List.mem_cons_self ..⟩,if_pos rfl⟩
  ·rw[if_neg e]
   rcases bR with⟨⟨v,q⟩,h⟩ | ⟨q,h⟩
   ·exact .inl ⟨⟨v,List.mem_cons_of_mem _ q⟩,h⟩
   ·refine .inr ⟨fun v hv=> ?_,h⟩
    rcases List.mem_cons.1 hv with hv | hv
    ·cases hv;exact e rfl
    ·exact q v hv
theorem NT {s s':TS}: ∀{l:List (Nat×TV)},(∀p∈uF s s' l,p.1=p.2)→ ∀k v,(k,v)∈l→Gp (s.get k) (s'.get k)=true→s.get k=s'.get k
 | [],_,k,v,h,_=>by cases h
 | p::r,aj,k,v,h,aL=>by
  unfold uF at aj
  rcases List.mem_cons.1 h with e | h
  ·cases e
   rw[aL] at aj
   have:=aj _ (List.mem_cons_self ..)
   injection this with bx _
   exact(Prod.mk.inj bx).2
  ·refine NT (fun q hm=>aj q ?_) k v h aL
   split
   ·exact List.mem_cons_of_mem _ hm
   ·exact hm
theorem aab {b:ez} {e_ s s':TS} (h1:s.B=e_.T++e_.B) (h2:s'.B=e_.T++e_.B) (dP:w9 s s' (s.T++s'.T)=true) (hv:s.vs=s'.vs) (aF:s.bn=s'.bn) (aj: ∀p∈uF s s' (s.T++s'.T)++u3 s s' (s.T++s'.T),p.1=p.2):
  let S:TS:=⟨(s.T++s'.T).map (fun p=>(p.1,r3 b p.1 (s.get p.1) (s'.get p.1)))++e_.T,e_.B,s.vs,s.bn⟩
  (b.den=true→s.gM S)∧(b.den=false→s'.gM S):=by
 intro S
 have E9: ∀p∈uF s s' (s.T++s'.T),p.1=p.2:=fun p aG=>aj p (List.mem_append_left _ aG)
 have kk: ∀p∈u3 s s' (s.T++s'.T),p.1=p.2:=fun p aG=>aj p (List.mem_append_right _ aG)
 have hd: ∀k,((∃v,(k,v)∈s.T++s'.T)∧S.get k=r3 b k (s.get k) (s'.get k))∨((∀v,(k,v) ∉ s.T++s'.T)∧S.get k=fU e_.T k (fU e_.B k .u)):=fun k=>by
  have e:S.get k=fU (List.map (fun p=>(p.1,(fun k=>r3 b k (s.get k) (s'.get k)) p.1)) (s.T++s'.T)) k (fU e_.T k (fU e_.B k .u)):=by
   show fU (_++e_.T) k _=_
   rw[r1]
  rw[e];exact Z4 (f:=fun k=>r3 b k (s.get k) (s'.get k))
 have base: ∀(x:TS),x.B=e_.T++e_.B→ ∀k,(∀v,(k,v) ∉ x.T)→x.get k=fU e_.T k (fU e_.B k .u):=fun x hx k hk=>by
  unfold TS.get;rw[sY hk,hx,r1]
 have P5: ∀k,k<1000000→r3 b k (s.get k) (s'.get k)=BY b (s.get k) (s'.get k):=fun k hk=>by
  unfold r3;rw[show Nat.blt k 1000000=true by rw[Nat.blt_eq];exact hk]
 have JQ: ∀k v,(k,v)∈s.T++s'.T→ ¬k<1000000→1000010≤k∧ ∃g c c',s.get k= .eG g c∧s'.get k= .eG g c'∧c=gE false .c9 (qJ c)∧c'=gE false .c9 (qJ c')∧r3 b k (s.get k) (s'.get k)= .eG g (gE false .c9 (bif b.den then qJ c else qJ c')):=fun k v hm hk=>by
  obtain⟨dU,⟨g,c,bx⟩,dG,c',e2⟩:=aas dP hm hk
  obtain⟨fq,fV,fC⟩:=O9 kk k v hm hk _ _ _ _ bx e2
  subst fq
  refine⟨dU,g,c,c',bx,e2,fV,fC,?_⟩
  unfold r3
  have hb:Nat.blt k 1000000=false:=by
   cases hb:Nat.blt k 1000000 with
   | true=>rw[Nat.blt_eq] at hb;exact absurd hb hk
   | false=>rfl
  rw[hb,bx,e2];rfl
 refine⟨fun hb=>⟨rfl,rfl,fun k=> ?_⟩,fun hb=>⟨hv,aF,fun k=> ?_⟩⟩
 ·rcases hd k with⟨⟨v,q⟩,h⟩ | ⟨q,h⟩
  ·by_cases hk:k<1000000
   ·rw[h,P5 k hk];refine .inr (.inl ⟨hk,?_⟩)
    unfold BY
    split
    ·exact .inl rfl
    ·exact aaH hb
   ·obtain⟨dU,g,c,c',bx,e2,fV,fC,dS⟩:=JQ k v q hk
    refine .inr (.inr ⟨dU,g,c,_,bx,h.trans dS,?_⟩)
    rw[hb];exact congrArg cP fV.symm
  ·rw[h];exact .inl (base s h1 k fun v hv=>q v (List.mem_append_left _ hv)).symm
 ·rcases hd k with⟨⟨v,q⟩,h⟩ | ⟨q,h⟩
  ·by_cases hk:k<1000000
   ·rw[h,P5 k hk];refine .inr (.inl ⟨hk,?_⟩)
    unfold BY
    split
    ·rename_i aL;rw[NT E9 k v q aL];exact .inl rfl
    ·exact aaG hb
   ·obtain⟨dU,g,c,c',bx,e2,fV,fC,dS⟩:=JQ k v q hk
    refine .inr (.inr ⟨dU,g,c',_,e2,h.trans dS,?_⟩)
    rw[hb];exact congrArg cP fC.symm
  ·rw[h];exact .inl (base s' h2 k fun v hv=>q v (List.mem_append_right _ hv)).symm
theorem aU.N4: ∀{t:aU} {R:Exit→TS→Prop},t.mV= .none→t.den R→t.den fun ex s=>R ex s∧ex≠ .normal:=by
 intro t
 induction t with
 | kI ex s=>
  intro R h d
  refine⟨d,?_⟩
  rintro rfl;cases h
 | ht=>intros;trivial
 | no=>intro R h d;exact d
 | p φ t bR=>intro R h d;exact⟨d.1,bR h d.2⟩
 | jW φ t bR=>intro R h d;exact fun q=>bR h (d q)
 | eq a b t bR=>intro R h d;exact⟨d.1,bR h d.2⟩
 | two x y hU hF=>intro R h;cases h
 | all α f bR=>intro R h;cases h
 | hG x fx b y hU hF=>
  intro R h d
  unfold aU.mV at h
  split at h
  ·rename_i hx;exact⟨hU hx d.1,fun q=>hF h (d.2 q)⟩
  ·cases h
 | iQ b s x y hU hF=>
  intro R h d
  have h:ri.iQ b s x.mV y.mV= .none:=h
  unfold ri.iQ at h
  split at h
  ·cases h
  ·rename_i hx
   split at h
   ·cases h
   ·rename_i br;exact⟨fun q=>hU hx (d.1 q),fun q=>hF br (d.2 q)⟩
   ·cases h
  ·split at h
   ·cases h
   ·cases h
   ·split at h<;>cases h
theorem aU.aae: ∀{t:aU} {R:Exit→TS→Prop} {S:TS} {jG:List (List (Nat×TV)×List (Nat×TV))},t.mV= .some S jG→(∀p∈jG,p.1=p.2)→t.den R→
  t.den fun ex s=>R ex s∧(ex= .normal→s.gM S∧t.ll.den=true∧ ∀φ∈t.facts,φ):=by
 intro t
 induction t with
 | kI ex s=>
  intro R S jG h aj d
  refine⟨d,?_⟩
  rintro rfl
  cases h
  exact⟨.refl s,rfl,fun φ h=>by cases h⟩
 | ht=>intros;trivial
 | no=>intro R S jG h aj d;exact d
 | p φ t bR=>intro R S jG h aj d;exact⟨d.1,bR h aj d.2⟩
 | jW φ t bR=>
  intro R S jG h aj d q
  refine aU.rn (bR h aj (d q)) fun ex s hs=>⟨hs.1,fun e=>⟨(hs.2 e).1,(hs.2 e).2.1,fun ψ Fo=> ?_⟩⟩
  rcases List.mem_cons.1 Fo with rfl | Fo
  ·exact q
  ·exact(hs.2 e).2.2 ψ Fo
 | eq a b t bR=>intro R S jG h aj d;exact⟨d.1,bR h aj d.2⟩
 | two x y hU hF=>intro R S jG h;cases h
 | all α f bR=>intro R S jG h;cases h
 | hG x fx b y hU hF=>
  intro R S jG h aj d
  unfold aU.mV at h
  split at h
  ·rename_i hx
   refine⟨aU.rn (aU.N4 hx d.1) fun ex s hs=>⟨hs.1,fun e=>absurd e hs.2⟩,fun q=>aU.rn (hF h aj (d.2 q)) fun ex s hs=>⟨hs.1,fun e=> ?_⟩⟩
   obtain⟨h1,h2,aO⟩:=hs.2 e
   have eC: ∀(l:List Prop),qh l→ ∀φ∈l,φ:=by
    intro l
    induction l with
    | nil=>intro _ φ e7;cases e7
    | cons a r bR=>
     intro hc φ e7
     cases r with
     | nil=>rw[List.mem_singleton.1 e7];exact hc
     | cons ih Cq=>
      have hc:a∧qh (ih::Cq):=hc
      rcases List.mem_cons.1 e7 with rfl | e7
      ·exact hc.1
      ·exact bR hc.2 φ e7
   have eC:=eC _ q
   refine⟨h1,?_,fun φ e7=> ?_⟩
   ·unfold aU.ll
    split
    ·exact h2
    ·rename_i cm
     have hb:b.den=true:=eC _ (by
      unfold v8
      split
      ·exact absurd rfl cm
      ·simp)
     rw[ez.zn,hb,h2];rfl
   ·rcases List.mem_append.1 e7 with e7 | e7
    ·have hm: ∀b:ez,φ∈v8 fx b:=fun b=>by
      unfold v8
      split
      ·exact e7
      ·exact List.mem_append_left _ e7
     exact eC φ (hm b)
    ·exact aO φ e7
  ·cases h
 | iQ b e_ x y hU hF=>
  intro R S jG h aj d
  have h:ri.iQ b e_ x.mV y.mV= .some S jG:=h
  have Oh: ∀{z:aU} {R:Exit→TS→Prop},z.mV= .none→z.den R→z.den fun ex s=>R ex s∧(ex= .normal→False):=fun aN Uy=>aU.N4 aN Uy
  have K7:b.den=true→x.ll.den=true→(ez.uU b x.ll y.ll).den=true:=fun h1 h2=>by rw[ez.zn,h1,h2];rfl
  have K8:b.den=false→y.ll.den=true→(ez.uU b x.ll y.ll).den=true:=fun h1 h2=>by rw[ez.zn,h1,h2];rfl
  have Lh:x.ll.den=true→(∀φ∈x.facts,φ)→ ∀φ∈(aU.iQ b e_ x y).facts,φ:=fun h1 h2 φ e7=>by
   unfold aU.facts at e7
   split at e7
   ·rename_i e;rw[e] at h1;cases h1
   ·split at e7
    ·exact h2 φ e7
    ·cases e7
  have Li:y.ll.den=true→(∀φ∈y.facts,φ)→ ∀φ∈(aU.iQ b e_ x y).facts,φ:=fun h1 h2 φ e7=>by
   unfold aU.facts at e7
   split at e7
   ·exact h2 φ e7
   ·split at e7
    ·rename_i e;rw[e] at h1;cases h1
    ·cases e7
  have eG: ∀{s:TS},s.B=e_.T++e_.B→s.gM ⟨s.T++e_.T,e_.B,s.vs,s.bn⟩:=fun ed=>⟨rfl,rfl,fun k=> .inl (abg ed _ _ k)⟩
  unfold ri.iQ at h
  split at h
  ·cases h
  ·rename_i hx
   split at h
   ·cases h
   ·cases h
   ·rename_i s q br
    cases h
    have ed:=aj _ (List.mem_cons_self ..)
    refine⟨fun hb=>aU.rn (Oh hx (d.1 hb)) fun ex z aN=>⟨aN.1,fun e=>(aN.2 e).elim⟩,fun hb=>aU.rn (hF br (fun p aG=>aj p (List.mem_cons_of_mem _ aG)) (d.2 hb)) fun ex z aN=>⟨aN.1,fun e=> ?_⟩⟩
    obtain⟨h1,h2,aO⟩:=aN.2 e
    exact⟨h1.trans (eG ed),K8 hb h2,Li h2 aO⟩
  ·rename_i s q hx
   split at h
   ·cases h
   ·rename_i br
    cases h
    have ed:=aj _ (List.mem_cons_self ..)
    refine⟨fun hb=>aU.rn (hU hx (fun p aG=>aj p (List.mem_cons_of_mem _ aG)) (d.1 hb)) fun ex z aN=>⟨aN.1,fun e=> ?_⟩,fun hb=>aU.rn (Oh br (d.2 hb)) fun ex z aN=>⟨aN.1,fun e=>(aN.2 e).elim⟩⟩
    obtain⟨h1,h2,aO⟩:=aN.2 e
    exact⟨h1.trans (eG ed),K7 hb h2,Lh h2 aO⟩
   ·rename_i s' ta br
    split at h
    ·rename_i hc
     cases h
     simp only[Bool.and_eq_true] at hc
     obtain⟨⟨ng,Dm⟩,Dn⟩:=hc
     have Wj:=aj _ (List.mem_cons_self ..)
     have Wk:=aj _ (List.mem_cons_of_mem _ (List.mem_cons_self ..))
     obtain⟨a0,bD⟩:=aab (b:=b) Wj Wk ng (Ku Dm) (Nat.eq_of_beq_eq_true Dn) (fun p aG=>aj p (List.mem_cons_of_mem _ (List.mem_cons_of_mem _ (List.mem_append_right _ (List.mem_append_right _ aG)))))
     refine⟨fun hb=>aU.rn (hU hx (fun p aG=>aj p (List.mem_cons_of_mem _ (List.mem_cons_of_mem _ (List.mem_append_left _ aG)))) (d.1 hb)) fun ex z aN=>⟨aN.1,fun e=> ?_⟩,
      fun hb=>aU.rn (hF br (fun p aG=>aj p (List.mem_cons_of_mem _ (List.mem_cons_of_mem _ (List.mem_append_right _ (List.mem_append_left _ aG))))) (d.2 hb)) fun ex z aN=>⟨aN.1,fun e=> ?_⟩⟩
     ·obtain⟨h1,h2,aO⟩:=aN.2 e
      exact⟨h1.trans (a0 hb),K7 hb h2,Lh h2 aO⟩
     ·obtain⟨h1,h2,aO⟩:=aN.2 e
      exact⟨h1.trans (bD hb),K8 hb h2,Li h2 aO⟩
    ·cases h
def kL:List (Nat×Nat)→Nat→Option Nat
 | [],_=>none
 | (k,m)::r,t=>match Nat.beq k t with
  | true=>some m
  | false=>kL r t
section
variable [FZ] {n:Nat} {s:TS}
theorem zV (t:Nat):(s.aI n).T.getD t .undef=if t<n then(s.get t).bB else .undef:=by
 show((List.range n).map fun t=>(s.get t).bB).getD t .undef=_
 rw[List.getD_eq_getElem?_getD,List.getElem?_map]
 by_cases h:t<n
 ·rw[List.getElem?_range h,if_pos h];rfl
 ·rw[List.getElem?_eq_none (by simpa using h),if_neg h];rfl
theorem vh (v:Nat):eU (s.aI n).L v=(kL s.vs v).map fun m=>cP (hQ s v 0 m):=by
 show eU (s.vs.map fun p=>(p.1,cP (hQ s p.1 0 p.2))) v=_
 induction s.vs with
 | nil=>rfl
 | cons p r bR=>
  obtain⟨k,m⟩:=p
  rw[List.map_cons]
  unfold eU kL
  by_cases h:v=k
  ·subst h;simp
  ·have:Nat.beq k v=false:=by
    cases hb:Nat.beq k v with
    | true=>exact absurd (Nat.eq_of_beq_eq_true hb).symm h
    | false=>rfl
   simp only[h,if_false,this];exact bR
theorem pX (b:Nat):s.gn[b]?=if b<s.bn then some (s.get (bA b)).ep else none:=by
 show((List.range s.bn).map fun b=>(s.get (bA b)).ep)[b]?=_
 rw[List.getElem?_map]
 by_cases h:b<s.bn
 ·rw[List.getElem?_range h,if_pos h];rfl
 ·rw[List.getElem?_eq_none (by simpa using h),if_neg h];rfl
theorem m7:s.gn.length=s.bn:=by show((List.range s.bn).map _).length=_;simp
theorem q5 {b:Nat} (h:b<s.bn):(s.aI n).H[b]?=some (s.get (bA b)).ep:=by
 show(s.gn++g0 s)[b]?=_
 rw[List.getElem?_append_left (by rw[m7];exact h),pX,if_pos h]
theorem CI (h:il s=true):(s.aI n).H.length=s.bn:=by
 show(s.gn++g0 s).length=_
 unfold g0;rw[h];simp[m7]
end
def AF:Value→TV
 | .int k n=> .i k n
 | .bool b=> .b (match b with
  | true=> .t
  | false=> .f)
 | .string x=> .s x
 | .slice none 0 0=> .nil true true
 | .pointer none=> .o .gd
 | .nilIface=> .o .gx
 | _=> .u
theorem Uh (v:Value):(AF v).bB=oG v:=by
 unfold AF oG
 split
 ·rfl
 ·rename_i b;cases b<;>rfl
 ·rfl
 ·rfl
 ·rfl
 ·rfl
 ·rename_i h1 h2 aO bb cb cE
  split
  ·exact absurd rfl (h1 _ _)
  ·exact absurd rfl (h2 _)
  ·exact absurd rfl (aO _)
  ·exact absurd rfl bb
  ·exact absurd rfl cb
  ·exact absurd rfl cE
  ·rfl
def cN (n:Nat) (s:TS):Operand→TV
 | .tmp t=>(match Nat.blt t n with
  | true=>s.get t
  | false=> .u)
 | .const v=>AF v
 | .func f=> .fn f []
 | .global _=> .u
theorem k3 [FZ] (n:Nat) (s:TS):cr (s.aI n).T=fun x=>(cN n s x).bB:=by
 funext x
 cases x with
 | tmp t=>
  show(s.aI n).T.getD t .undef=_
  rw[zV]
  unfold cN
  by_cases h:t<n
  ·have hb:Nat.blt t n=true:=by rw[Nat.blt_eq];exact h
   simp only[if_pos h,hb]
  ·have hb:Nat.blt t n=false:=by
    cases hb:Nat.blt t n with
    | true=>rw[Nat.blt_eq] at hb;exact absurd hb h
    | false=>rfl
   simp only[if_neg h,hb];rfl
 | const v=>exact(Uh v).symm
 | func f=>rfl
 | global g=>rfl
def K0 (x:ez) (K:ez→aU):aU:=match x with
 | .t=>K .t
 | .f=>K .f
 | .v p=>K (.v p)
 | .at i p=>K (.at i p)
 | .n p=>K (.n p)
 | .aH p q=>K (.aH p q)
 | .or p q=>K (.or p q)
 | .ite p q r=>K (.ite p q r)
 | .v3 p q=>K (.v3 p q)
 | .ne p q=>K (.ne p q)
theorem VE (x:ez) (K:ez→aU):K0 x K=K x:=by cases x<;>rfl
def pn (v:TV) (K:TV→aU):aU:=match v with
 | .u=>K .u
 | .i k m=>K (.i k m)
 | .b x=>K0 x fun x=>K (.b x)
 | .s x=>K (.s x)
 | .l e xs f r=>K (.l e xs f r)
 | .nil f r=>K (.nil f r)
 | .ref p g m f=>K (.ref p g m f)
 | .ptr p g j m c=>K (.ptr p g j m c)
 | .lp t c=>K (.lp t c)
 | .dv e x c=>K (.dv e x c)
 | .agg c=>K (.agg c)
 | .tup c=>K (.tup c)
 | .fn f c=>K (.fn f c)
 | .o a=>K (.o a)
 | .blk g e xs m h=>K (.blk g e xs m h)
 | .eG g c=>K (.eG g c)
 | .kt g m ids=>K (.kt g m ids)
 | .gZ V ids n h=>K (.gZ V ids n h)
 | .new id xs=>K (.new id xs)
 | .wg w ids m n=>K (.wg w ids m n)
 | .we w ids m j=>K (.we w ids m j)
 | .zg id m n=>K (.zg id m n)
theorem qm (v:TV) (K:TV→aU):pn v K=K v:=by
 cases v with
 | b x=>exact VE x fun x=>K (.b x)
 | _=>rfl
def nV:(e:bH)→e.T→AV
 | .ptr e,x=> .dv (b8 false e x) 0
 | .ii f .unit,_=> .fn f []
 | .ii f e,x=> .fn f [nV e x]
 | e,x=>match e.isS with
  | true=> .agg (b8 false e x)
  | false=>oH false e x
def nW:(es:List bH)→c5 es→List AV
 | [],_=>[]
 | e::r,x=>nV e x.1::nW r x.2
def vZ (e:bH) (x:e.T):AV:=match e.isS with
 | true=> .agg (b8 true e x)
 | false=>oH true e x
def lV:(es:List bH)→c5 es→List AV
 | [],_=>[]
 | e::r,x=>vZ e x.1::lV r x.2
def kX:(es:List bH)→c5 es→AV
 | [e],x=>vZ e x.1
 | es,x=> .tup (lV es x)
def Cu (e:bH) (x:e.T):TV:=match e.isS with
 | true=> .agg (gE true e x)
 | false=>z1 true e x
def Cv:(es:List bH)→c5 es→List TV
 | [],_=>[]
 | e::r,x=>Cu e x.1::Cv r x.2
def Cw:(es:List bH)→c5 es→TV
 | [e],x=>Cu e x.1
 | es,x=> .tup (Cv es x)
theorem Ph (e:bH) (x:e.T):(Cu e x).bB=vZ e x:=by
 unfold Cu vZ
 cases e.isS with
 | true=>show AV.agg (cP _)=_;rw[vR]
 | false=>exact Jb true e x
theorem Pj: ∀(es:List bH) (x:c5 es),cP (Cv es x)=lV es x
 | [],_=>rfl
 | e::r,x=>by rw[Cv,cP,lV,Ph,Pj r]
theorem Hl (es:List bH) (x:c5 es):(Cw es x).bB=kX es x:=by
 match es,x with
 | [],x=>rfl
 | [e],x=>exact Ph e x.1
 | e::dW::r,x=>show AV.tup (cP _)=_;rw[Pj];rfl
structure dY (P:Program) where
 f:FuncId
 ps:List bH
 rs:List bH
 pre:Option (c5 ps→Prop)
 fn:c5 ps→c5 rs
 ok: ∀x,(match pre with
  | none=>True
  | some p=>p x)→bX P f (nW ps x) (kX rs (fn x))
def TY {e dW:bH} (h:dW=e) (x:dW.T):e.T:=h▸x
def AE (a_:IntKind) (v:TV) (K:Int→List Prop→aU):aU:=match v with
 | .i k n=>if k=a_ then K n [] else .no
 | _=> .no
def DF (v:TV) (K:Bool→List Prop→aU):aU:=match v with
 | .b x=>K x.den []
 | _=> .no
def DJ (v:TV) (K:ByteArray→List Prop→aU):aU:=match v with
 | .s x=>K x []
 | _=> .no
def DE (e:bH) (g n:Nat) (v:TV) (K:List e.T→List Prop→aU):aU:=match v with
 | .blk dG dW xs pJ _=>if h:dW=e then .eq dG g (.eq pJ n (K (lR h xs) [xs.length≤4611686018427387904])) else .no
 | _=> .no
def DK (s:TS) (e:bH) (g n:Nat) (v:TV) (K:List e.T→List Prop→aU):aU:=match v with
 | .kt dG m ids=>(match s.get dH with
  | .gZ V dd bT _=>if h:bH.held=e then .eq dd ids (.eq dG 0 (.eq g 0 (.eq n bT (.eq m s.bn (K (lR h V) [V.length≤4611686018427387904]))))) else .no
  | _=> .no)
 | v=>DE e g n v K
def DH (s:TS) (e:bH) (v:TV) (K:List e.T→List Prop→aU):aU:=match v with
 | .l dW xs _ _=>if h:dW=e then K (lR h xs) [] else .no
 | .nil _ _=>K [] []
 | .ref b g n _=>(match Nat.blt b s.bn with
  | true=>DK s e g n (s.get (bA b)) K
  | false=> .no)
 | _=> .no
def nS (s:TS):(e:bH)→TV→(e.T→List Prop→aU)→aU
 | .int,v,K=>AE .i64 v K
 | .u64,v,K=>AE .u64 v K
 | .bool,v,K=>DF v K
 | .str,v,K=>DJ v K
 | .l e,v,K=>DH s e v K
 | _,_,_=> .no
def yc (s:TS):(es:List bH)→List TV→(c5 es→List Prop→aU)→aU
 | [],[],K=>K () []
 | e::r,v::vs,K=>nS s e v fun x o=>yc s r vs fun y lu=>K (x,y) (o++lu)
 | _,_,_=> .no
def nT (s:TS) (e:bH) (v:TV) (K:e.T→List Prop→aU):aU:=match e.isS with
 | true=>(match v with
  | .agg c=>yc s e.kJ c fun x o=>K (e.mk x) o
  | _=> .no)
 | false=>nS s e v K
def DI (s:TS) (e:bH) (v:TV) (K:e.T→List Prop→aU):aU:=match v with
 | .lp t c=>(match Nat.beq c 0 with
  | true=>(match kL s.vs t with
   | some m=>yc s e.kJ (hQ s t 0 m) fun x o=>K (e.mk x) o
   | none=> .no)
  | false=> .no)
 | .dv dW x c=>(match Nat.beq c 0 with
  | true=>if h:dW=e then K (TY h x) [] else .no
  | false=> .no)
 | _=> .no
def DG (f:Nat) (v:TV) (K:Unit→List Prop→aU):aU:=match v with
 | .fn g c=>(match Nat.beq f g with
  | true=>(match c with
   | []=>K () []
   | _=> .no)
  | false=> .no)
 | _=> .no
def AD (f:Nat) (v:TV) (K:TV→aU):aU:=match v with
 | .fn g c=>(match Nat.beq f g with
  | true=>(match c with
   | [w]=>K w
   | _=> .no)
  | false=> .no)
 | _=> .no
def conv (s:TS):(e:bH)→TV→(e.T→List Prop→aU)→aU
 | .ptr e,v,K=>DI s e v K
 | .ii f .unit,v,K=>DG f v K
 | .ii f e,v,K=>AD f v fun w=>match e.isS with
  | true=> .no
  | false=>conv s e w K
 | .bk,v,K=>nT s .bk v K
 | .j7,v,K=>nT s .j7 v K
 | .c8,v,K=>nT s .c8 v K
 | .fE,v,K=>nT s .fE v K
 | .gI,v,K=>nT s .gI v K
 | .held,v,K=>nT s .held v K
 | .frame,v,K=>nT s .frame v K
 | .done,v,K=>nT s .done v K
 | .fault,v,K=>nT s .fault v K
 | .stays,v,K=>nT s .stays v K
 | .c9,v,K=>nT s .c9 v K
 | .int,v,K=>nS s .int v K
 | .u64,v,K=>nS s .u64 v K
 | .u8,v,K=>nS s .u8 v K
 | .bool,v,K=>nS s .bool v K
 | .str,v,K=>nS s .str v K
 | .unit,v,K=>nS s .unit v K
 | .nat,v,K=>nS s .nat v K
 | .l e,v,K=>nS s (.l e) v K
def Dy (s:TS):(es:List bH)→List TV→(c5 es→List Prop→aU)→aU
 | [],[],K=>K () []
 | e::r,v::vs,K=>conv s e v fun x o=>Dy s r vs fun y lu=>K (x,y) (o++lu)
 | _,_,_=> .no
section
variable {n:Nat} {s:TS} {R:Exit→TS→Prop}
theorem T0 {L:List (Nat×List AV)} {H:List Blk} (e:bH) (x:e.T):oy L H (b8 true e x) (b8 false e x):=by
 rw[←qk,←qk]
 have key: ∀(es:List bH) (y:c5 es),oy L H (lU true es y) (lU false es y):=by
  intro es
  induction es with
  | nil=>intro y;exact .nil
  | cons e r bR=>
   intro y
   refine .cons ?_ (bR y.2)
   cases e<;>first | exact .int _ _ | exact .bool _ | exact .str _ | exact cW | exact .undef _
 exact key _ _
end
section
variable {n:Nat} {s:TS} {R:Exit→TS→Prop}
theorem Kh {k:IntKind} {v:TV} {K:Int→List Prop→aU} (h:(AE k v K).den R): ∃m,v= .i k m∧(K m []).den R:=by
 unfold AE at h
 split at h
 ·split at h
  ·rename_i e;subst e;exact⟨_,rfl,h⟩
  ·exact h.elim
 ·exact h.elim
end
section
variable {n:Nat} {s:TS} {R:Exit→TS→Prop}
theorem Ub {v:TV} {K:Bool→List Prop→aU} (h:(DF v K).den R): ∃x,v= .b x∧(K x.den []).den R:=by
 unfold DF at h
 split at h
 ·exact⟨_,rfl,h⟩
 ·exact h.elim
end
section
variable {n:Nat} {s:TS} {R:Exit→TS→Prop}
theorem Ug {v:TV} {K:ByteArray→List Prop→aU} (h:(DJ v K).den R): ∃x,v= .s x∧(K x []).den R:=by
 unfold DJ at h
 split at h
 ·exact⟨_,rfl,h⟩
 ·exact h.elim
end
section
variable {n:Nat} {s:TS} {R:Exit→TS→Prop}
theorem Ua {e:bH} {g m:Nat} {v:TV} {K:List e.T→List Prop→aU} (h:(DE e g m v K).den R): ∃xs,∃hx:xs.length=m,v= .blk g e xs m hx∧(K xs [xs.length≤4611686018427387904]).den R:=by
 unfold DE at h
 split at h
 ·rename_i dG dW xs pJ hx
  split at h
  ·rename_i bV
   subst bV
   obtain⟨h1,h2,h⟩:=h
   subst h1;subst h2
   exact⟨xs,hx,rfl,h⟩
  ·exact h.elim
 ·exact h.elim
end
section
variable {n:Nat} {s:TS} {R:Exit→TS→Prop}
theorem acv {L:List (Nat×List AV)} {H:List Blk} {a b:AV} (h:dc L H a b) (hb: ∀l,b≠ .agg l):fZ L H a b:=by
 rcases h with⟨l,fp,_,e,_⟩ | h
 ·exact absurd e (hb fp)
 ·exact h
end
section
variable {n:Nat} {s:TS} {R:Exit→TS→Prop}
theorem UE (fr:Bool) (e:bH) (x:e.T): ∀l,oH fr e x≠ .agg l:=by
 intro l h;cases e<;>cases h
end
section
variable {n:Nat} {s:TS} {R:Exit→TS→Prop}
theorem Uc {f:Nat} {v:TV} {K:Unit→List Prop→aU} (h:(DG f v K).den R):v= .fn f []∧(K () []).den R:=by
 unfold DG at h
 split at h
 ·split at h
  ·rename_i hf
   obtain rfl:=Nat.eq_of_beq_eq_true hf
   split at h
   ·exact⟨rfl,h⟩
   ·exact h.elim
  ·exact h.elim
 ·exact h.elim
end
section
variable {n:Nat} {s:TS} {R:Exit→TS→Prop}
theorem Ud {f:Nat} {v:TV} {K:TV→aU} (h:(AD f v K).den R): ∃w,v= .fn f [w]∧(K w).den R:=by
 unfold AD at h
 split at h
 ·split at h
  ·rename_i hf
   obtain rfl:=Nat.eq_of_beq_eq_true hf
   split at h
   ·exact⟨_,rfl,h⟩
   ·exact h.elim
  ·exact h.elim
 ·exact h.elim
end
section
variable {n:Nat} {s:TS} {R:Exit→TS→Prop}
theorem UI {e:bH} (h:e.isS=false) (x:e.T): ∀l,nV e x≠ .agg l:=by
 intro l
 cases e with
 | ii f e=>cases e<;>(intro h;cases h)
 | ptr e=>intro h;cases h
 | _=>first | (cases h;done) | exact UE false _ x l
end
section
variable [FZ] {n:Nat} {s:TS} {R:Exit→TS→Prop}
theorem ru {V:List ad} {ids:List Nat} {bT:Nat} {hv:V.length=bT} (hk:s.get dH= .gZ V ids bT hv):(s.aI n).H=s.gn++List.map bi ‹FZ›.bs:=by
 show s.gn++g0 s=_
 unfold g0 il
 rw[hk]
theorem KK {V:List ad} {ids:List Nat} {bT:Nat} {hv:V.length=bT} (hk:s.get dH= .gZ V ids bT hv) {id:Nat} {k:Blk} (h:(List.map bi ‹FZ›.bs)[id]?=some k):(s.aI n).H[id+s.bn]?=some k:=by
 rw[ru hk,List.getElem?_append_right (by rw[m7];omega),m7,Nat.add_sub_cancel];exact h
variable (aN:Fits s)
include aN in
theorem Ui {e:bH} {b g m:Nat} {eB:Bool} {K:List e.T→List Prop→aU} (hb:b<s.bn) (h:(DK s e g m (s.get (bA b)) K).den R): ∃x o,(K x o).den R∧((∀φ∈o,φ)→fZ (s.aI n).L (s.aI n).H (.ref b g 0 m eB) (.bz (List.map (b8 false e) x) false false)):=by
 unfold DK at h
 split at h
 ·rename_i dG hH ids hg
  split at h
  ·rename_i V dd bT kF hk
   split at h
   ·rename_i he
    subst he
    obtain⟨h1,h2,aO,bb,cb,h⟩:=h
    subst h1;subst h2;subst aO;subst bb;subst cb;subst kF
    refine⟨_,_,h,fun aC=> ?_⟩
    have aL:=aC _ (List.mem_singleton.2 rfl)
    obtain⟨q1,q2,q3⟩:=aN V dd _ _ hk
    have pC:V.length= ‹FZ›.ws.length:=by rw[←q2];exact ja q1.ok
    have:=tn (L:=(s.aI n).L) (H:=(s.aI n).H) (b:=b) (s:=s.bn) (n:=V.length) (full:=eB) (ws:= ‹FZ›.ws) (ids:=dd) (bs:= ‹FZ›.bs) pC (by rw[q5 hb,hg];rfl) (fun id k jz=>KK hk jz) q1.ok (by omega) (fun x hx=>by have:=q1.len x hx;omega)
    rw[q2] at this
    exact this
   ·exact h.elim
  ·exact h.elim
 ·obtain⟨xs,hx,hg,h'⟩:=Ua h
  subst hx
  refine⟨_,_,h',fun aC=> ?_⟩
  have aL:=aC _ (List.mem_singleton.2 rfl)
  exact PC (eT:=b8 true e) (by rw[q5 hb,hg];rfl) (fun x=>T0 e x) aL
include aN in
theorem Ue {e:bH} {v:TV} {K:List e.T→List Prop→aU} (h:(DH s e v K).den R): ∃x o,(K x o).den R∧((∀φ∈o,φ)→fZ (s.aI n).L (s.aI n).H v.bB (.bz (List.map (b8 false e) x) false false)):=by
 unfold DH at h
 split at h
 ·split at h
  ·rename_i bV;subst bV;exact⟨_,_,h,fun _=>cW⟩
  ·exact h.elim
 ·exact⟨_,_,h,fun _=>by rw[List.map_nil];exact cW⟩
 ·rename_i b g mW eB
  split at h
  ·rename_i hb
   exact Ui aN (by rw[←Nat.blt_eq];exact hb) h
  ·exact h.elim
 ·exact h.elim
include aN in
theorem Dx {e:bH} {v:TV} {K:e.T→List Prop→aU} (h:(nS s e v K).den R): ∃x o,(K x o).den R∧((∀φ∈o,φ)→fZ (s.aI n).L (s.aI n).H v.bB (oH false e x)):=by
 cases e with
 | int=>obtain⟨m,rfl,h⟩:=Kh h;exact⟨m,_,h,fun _=> .int _ _⟩
 | u64=>obtain⟨m,rfl,h⟩:=Kh h;exact⟨m,_,h,fun _=> .int _ _⟩
 | bool=>obtain⟨x,rfl,h⟩:=Ub h;exact⟨_,_,h,fun _=> .bool _⟩
 | str=>obtain⟨x,rfl,h⟩:=Ug h;exact⟨_,_,h,fun _=> .str _⟩
 | l e=>exact Ue aN h
 | _=>exact h.elim
include aN in
theorem AB: ∀{es:List bH} {vs:List TV} {K:c5 es→List Prop→aU},(yc s es vs K).den R→ ∃x o,(K x o).den R∧((∀φ∈o,φ)→aE (fZ (s.aI n).L (s.aI n).H) (cP vs) (lU false es x))
 | [],[],K,h=>⟨(),[],h,fun _=>aE.nil⟩
 | e::r,v::vs,K,h=>by
  obtain⟨x,o,h,dP⟩:=Dx aN (n:=n) (show(nS s e v _).den R from h)
  obtain⟨y,lu,h,h_⟩:=AB h
  exact⟨(x,y),o++lu,h,fun aC=>aE.cons (dP fun φ e7=>aC φ (List.mem_append_left _ e7)) (h_ fun φ e7=>aC φ (List.mem_append_right _ e7))⟩
 | [],_::_,K,h=>h.elim
 | _::_,[],K,h=>h.elim
include aN in
theorem T9 {e:bH} {v:TV} {K:e.T→List Prop→aU} (h:(nT s e v K).den R): ∃x o,(K x o).den R∧((∀φ∈o,φ)→dc (s.aI n).L (s.aI n).H v.bB (match e.isS with
  | true=> .agg (b8 false e x)
  | false=>oH false e x)):=by
 unfold nT at h
 cases mO:e.isS with
 | true=>
  rw[mO] at h
  simp only at h
  split at h
  ·rename_i c
   obtain⟨x,o,h,k⟩:=AB aN (n:=n) h
   refine⟨_,o,h,fun aC=> ?_⟩
   show dc _ _ (.agg (cP c)) (.agg (b8 false e (e.mk x)))
   rw[←qk,bH.Sp]
   exact dc.agg (k aC)
  ·exact h.elim
 | false=>
  rw[mO] at h
  obtain⟨x,o,h,k⟩:=Dx aN (n:=n) (show(nS s e v K).den R from h)
  exact⟨x,o,h,fun aC=> .inr (k aC)⟩
include aN in
theorem Uf {e:bH} {v:TV} {K:e.T→List Prop→aU} (h:(DI s e v K).den R): ∃x o,(K x o).den R∧((∀φ∈o,φ)→dc (s.aI n).L (s.aI n).H v.bB (.dv (b8 false e x) 0)):=by
 unfold DI at h
 split at h
 ·rename_i t c
  split at h
  ·rename_i hc
   obtain rfl:=Nat.eq_of_beq_eq_true hc
   split at h
   ·rename_i m hm
    obtain⟨x,o,h,k⟩:=AB aN (n:=n) h
    refine⟨_,o,h,fun aC=> .inr ?_⟩
    have k:=k aC
    show fZ _ _ (.fF t 0) (.dv (b8 false e (e.mk x)) 0)
    rw[←qk,bH.Sp]
    exact .fF (cells:=cP (hQ s t 0 m)) (by rw[vh,hm];rfl) k.1 k.2
   ·exact h.elim
  ·exact h.elim
 ·rename_i dW x c
  split at h
  ·rename_i hc
   obtain rfl:=Nat.eq_of_beq_eq_true hc
   split at h
   ·rename_i bV;subst bV;exact⟨_,_,h,fun _=> .inr (.dv _ _)⟩
   ·exact h.elim
  ·exact h.elim
 ·exact h.elim
include aN in
theorem Dz: ∀{e:bH} {v:TV} {K:e.T→List Prop→aU},(conv s e v K).den R→ ∃x o,(K x o).den R∧((∀φ∈o,φ)→dc (s.aI n).L (s.aI n).H v.bB (nV e x)):=by
 intro e
 induction e with
 | ptr e bR=>intro v K h;exact Uf aN h
 | ii f e bR=>
  intro v K h
  have key:(∀x,nV (.ii f e) x= .fn f [nV e x])→(AD f v fun w=>match e.isS with
   | true=> .no
   | false=>conv s e w K).den R→ ∃x o,(K x o).den R∧((∀φ∈o,φ)→dc (s.aI n).L (s.aI n).H v.bB (nV (.ii f e) x)):=by
   intro he h
   obtain⟨w,rfl,h'⟩:=Ud h
   cases mO:e.isS with
   | true=>rw[mO] at h';exact h'.elim
   | false=>
    rw[mO] at h'
    obtain⟨x,o,h2,k⟩:=bR h'
    refine⟨x,o,h2,fun aC=> .inr ?_⟩
    rw[he]
    refine fZ.fn (caps:=[w.bB]) rfl fun j a b h1 h2=> ?_
    cases j with
    | zero=>cases h1;cases h2;exact acv (k aC) (UI mO x)
    | succ j=>cases h1
  cases e with
  | unit=>
   obtain⟨rfl,h'⟩:=Uc h
   exact⟨(),[],h',fun _=> .inr (fZ.fn (caps:=[]) rfl fun j a b h1 _=>by cases h1)⟩
  | _=>exact key (fun x=>rfl) h
 | _=>
  intro v K h
  first
  | exact T9 aN (n:=n) h
  | (obtain⟨x,o,h,k⟩:=Dx aN (n:=n) h;exact⟨x,o,h,fun aC=> .inr (k aC)⟩)
include aN in
theorem Kb: ∀{es:List bH} {vs:List TV} {K:c5 es→List Prop→aU},(Dy s es vs K).den R→ ∃x o,(K x o).den R∧((∀φ∈o,φ)→aE (dc (s.aI n).L (s.aI n).H) (cP vs) (nW es x))
 | [],[],K,h=>⟨(),[],h,fun _=>aE.nil⟩
 | e::r,v::vs,K,h=>by
  obtain⟨x,o,h,dP⟩:=Dz aN (n:=n) (show(conv s e v _).den R from h)
  obtain⟨y,lu,h,h_⟩:=Kb h
  exact⟨(x,y),o++lu,h,fun aC=>aE.cons (dP fun φ e7=>aC φ (List.mem_append_left _ e7)) (h_ fun φ e7=>aC φ (List.mem_append_right _ e7))⟩
 | [],_::_,K,h=>h.elim
 | _::_,[],K,h=>h.elim
end
def B9 (l:List Prop) (t:aU):aU:=match l with
 | []=>t
 | l=> .p (qh l) t
theorem Ka: ∀{l:List Prop},qh l→ ∀φ∈l,φ
 | [],_,φ,h=>by cases h
 | [a],hc,φ,h=>by rw[List.mem_singleton.1 h];exact hc
 | a::b::r,hc,φ,h=>by
  have hc:a∧qh (b::r):=hc
  rcases List.mem_cons.1 h with rfl | h
  ·exact hc.1
  ·exact Ka hc.2 φ h
theorem Oo {l:List Prop} {t:aU} {R:Exit→TS→Prop} (h:(B9 l t).den R):(∀φ∈l,φ)∧t.den R:=by
 unfold B9 at h
 split at h
 ·exact⟨(fun φ h=>by cases h),h⟩
 ·exact⟨Ka h.1,h.2⟩
def A5 {P:Program}:List (dY P)→FuncId→(dY P→aU)→aU
 | [],_,_=> .no
 | c::r,f,K=>match Nat.beq c.f f with
  | true=>K c
  | false=>A5 r f K
def w5:TV→Bool
 | .tup _=>false
 | .o a=>e1 a
 | _=>true
theorem B4 {v:TV} (h:w5 v=true):e1 v.bB=true:=by cases v<;>first | rfl | exact h | cases h
def GZ {P:Program} (c:dY P) (x:c5 c.ps):List Prop:=match c.pre with
 | none=>[]
 | some p=>[p x]
def Dp {P:Program} (pY:List (dY P)) (f:FuncId) (args:List TV) (s:TS) (K:TV→aU):aU:=match args.all w5 with
 | false=> .no
 | true=>A5 pY f fun c=>Dy s c.ps args fun x o=>B9 (o++GZ c x) (K (Cw c.rs (c.fn x)))
theorem KR {P:Program} {f:FuncId} {K:dY P→aU} {R:Exit→TS→Prop}: ∀{pY:List (dY P)},(A5 pY f K).den R→ ∃c,c.f=f∧(K c).den R
 | [],h=>h.elim
 | c::r,h=>by
  unfold A5 at h
  split at h
  ·rename_i hf;exact⟨c,Nat.eq_of_beq_eq_true hf,h⟩
  ·exact KR h
theorem TW [FZ] {P:Program} {pY:List (dY P)} {f:FuncId} {args:List TV} {s:TS} {K:TV→aU} {R:Exit→TS→Prop} {n:Nat} {Kp:AV→Prop} (aN:Fits s) (hK: ∀v,(K v).den R→Kp v.bB) (h:(Dp pY f args s K).den R):
  oF P f (cP args) (s.aI n).L (s.aI n).H Kp:=by
 unfold Dp at h
 split at h
 ·exact h.elim
 ·rename_i aF
  obtain⟨c,rfl,h1⟩:=KR h
  obtain⟨x,o,h2,k⟩:=Kb aN (n:=n) h1
  obtain⟨aC,aO⟩:=Oo h2
  refine⟨?_,_,_,k fun φ e7=>aC φ (List.mem_append_left _ e7),c.ok x ?_,?_⟩
  ·rw[List.all_eq_true] at aF ⊢
   intro a a4
   rw[nP] at a4
   obtain⟨v,hv,rfl⟩:=List.mem_map.1 a4
   exact B4 (aF v hv)
  ·have aG: ∀φ∈GZ c x,φ:=fun φ e7=>aC φ (List.mem_append_right _ e7)
   unfold GZ at aG
   revert aG
   cases c.pre with
   | none=>intro _;trivial
   | some p=>intro aG;exact aG _ (List.mem_singleton.2 rfl)
  ·rw[←Hl];exact hK _ aO
inductive Ad:Type 1 where
 | no
 | v (x:TV)
 | c (φ:Prop) (x:TV)
 | lP (φ ψ:Prop) (x:TV)
def rF (F:List Blk→(AV→Prop)→Prop) (K:TV→aU):Ad→aU
 | .no=> .no
 | .v x=> .eq F (fun _ Q=>Q x.bB) (pn x K)
 | .c φ x=> .eq F (fun _ Q=>φ∧Q x.bB) (.p φ (pn x K))
 | .lP φ ψ x=> .eq F (fun _ Q=>φ∧ψ∧Q x.bB) (.p (φ∧ψ) (pn x K))
theorem sG {F:List Blk→(AV→Prop)→Prop} (H:List Blk) {K:TV→aU} {g:Ad} {R:Exit→TS→Prop} {Kp:AV→Prop} (hK: ∀v,(K v).den R→Kp v.bB) (h:(rF F K g).den R):F H Kp:=by
 cases g with
 | no=>exact h.elim
 | v x=>obtain⟨e,h⟩:=h;rw[qm] at h;rw[e];exact hK _ h
 | c φ x=>obtain⟨e,h1,h⟩:=h;rw[qm] at h;rw[e];exact⟨h1,hK _ h⟩
 | lP φ ψ x=>obtain⟨e,h1,h⟩:=h;rw[qm] at h;rw[e];exact⟨h1.1,h1.2,hK _ h⟩
def qg:TV→List TV
 | .agg c=>c
 | v=>[v]
def vl (P:Program) (t:TypeId) (cells:List TV) (c:Nat):TV:=match wT P t with
 | true=> .agg ((cells.drop c).take (P.cellsOf t))
 | false=>cells.getD c .u
def VU (op:BinOp) (x y:TV):Ad:=match x with
 | .i k a=>(match y with
  | .i _ b=>(match op with
   | .add=> .v (.i k (k.wrap (a+b)))
   | .sub=> .v (.i k (k.wrap (a - b)))
   | .mul=> .v (.i k (k.wrap (a*b)))
   | .quo=> .c (b≠0) (.i k (k.wrap (a.tdiv b)))
   | .rem=> .c (b≠0) (.i k (a.tmod b))
   | .and=> .v (.i k (k.wrap (BitVec.ofInt k.bits a&&&BitVec.ofInt k.bits b).toNat))
   | .shl=> .c (0≤b) (.i k (k.wrap (a*2 ^ (min b.toNat k.bits))))
   | .shr=> .c (0≤b) (.i k (a.fdiv (2 ^ (min b.toNat k.bits))))
   | .eql=> .v (.b (.v (a==b)))
   | .neq=> .v (.b (.v (a !=b)))
   | .lss=> .v (.b (.v (decide (a<b))))
   | .leq=> .v (.b (.v (decide (a≤b))))
   | .gtr=> .v (.b (.v (decide (a>b))))
   | .geq=> .v (.b (.v (decide (a ≥ b))))
   | _=> .no)
  | _=> .no)
 | .b p=>(match y with
  | .b q=>(match op with
   | .eql=> .v (.b (.v3 p q))
   | .neq=> .v (.b (.ne p q))
   | _=> .no)
  | _=> .no)
 | .s p=>(match y with
  | .s q=>(match op with
   | .add=> .c (p.size+q.size≤9223372036854775807) (.s (p++q))
   | .eql=> .v (.b (.v (p.toList==q.toList)))
   | .neq=> .v (.b (.v (!(p.toList==q.toList))))
   | _=> .no)
  | _=> .no)
 | .agg l=>(match y with
  | .agg m=>(match l,m with
   | [.i _ a,.i _ b],[.i _ c,.i _ d]=>(match op with
    | .eql=> .v (.b (.v (a==c&&b==d)))
    | .neq=> .v (.b (.v (!(a==c&&b==d))))
    | _=> .no)
   | _,_=> .no)
  | _=> .no)
 | _=> .no
def z_ (P:Program) (t:TypeId):List TV:=match(P.info? t).bind (·.zero) with
 | some z=>z.cells.toList.map AF
 | none=>[]
def KL (pl:List (Nat×Nat)) (cells:List TV):List (Nat×TV)→List TV
 | []=>cells
 | (i,v)::r=>match pl[i]? with
  | some p=>KL pl (cells.take p.1++qg v++cells.drop (p.1+(qg v).length)) r
  | none=>cells
def VL (e:bH) (v:TV):e.T:=match e.isS with
 | true=>e.mk (oI e.kJ (qg v))
 | false=>Eu e v
def VG:TV→Bool
 | .l _ _ _ fr=>fr
 | .nil _ fr=>fr
 | .agg c=>c.all fun v=>match v with
  | .l _ _ _ fr=>fr
  | .nil _ fr=>fr
  | _=>true
 | _=>true
def NV (e:bH) (xs:List e.T) (l:List TV):TV:=match l with
 | []=> .nil true true
 | l=> .l e xs true (l.all VG)
def BT (s:TS) (e:bH):List TV→(List e.T→aU)→aU
 | [],K=>K []
 | v::r,K=>conv s e v fun x _=>BT s e r fun xs=>K (x::xs)
theorem Gr [FZ] {n:Nat} {s:TS} {e:bH} {R:Exit→TS→Prop} (aN:Fits s): ∀{l:List TV} {K:List e.T→aU},(BT s e l K).den R→ ∃xs,(K xs).den R
 | [],K,h=>⟨_,h⟩
 | v::r,K,h=>by
  obtain⟨x,o,h,_⟩:=Dz aN (n:=n) (show(conv s e v _).den R from h)
  obtain⟨xs,h⟩:=Gr (n:=n) aN h
  exact⟨_,h⟩
def wV:List (Nat×bH)→Nat→(bH→aU)→aU
 | [],_,_=> .no
 | (k,e)::r,t,K=>match Nat.beq k t with
  | true=>K e
  | false=>wV r t K
structure g_ (P:Program) where
 n:Nat
 sA:List (Nat×bH)
 pY:List (dY P)
section
variable {P:Program} (cf:g_ P) (s:TS)
def gs (P:Program) (n:Nat) (s:TS) (op:Op):Ad:=match op with
 | .nilCheck x=> .v (cN n s x)
 | .load t a=>(match cN n s a with
  | .lp v c=>(match kL s.vs v with
   | some m=> .v (vl P t (hQ s v 0 m) c)
   | none=> .no)
  | .dv e x c=> .v (vl P t (gE false e x) c)
  | _=> .no)
 | .fieldAddr t x f=>(match AZ P t f with
  | some fd=>(match cN n s x with
   | .lp v c=> .v (.lp v (c+fd.offset))
   | .dv e x c=> .v (.dv e x (c+fd.offset))
   | .ptr b g i m c=> .v (.ptr b g i m (c+fd.offset))
   | _=> .no)
  | none=> .no)
 | .unOp op _ x=>(match cN n s x with
  | .b z=>(match op with
   | .not=> .v (.b z.not)
   | _=> .no)
  | .i k m=>(match op with
   | .neg=> .v (.i k (k.wrap (0 - m)))
   | _=> .no)
  | _=> .no)
 | .convert _ d x=>(match cN n s x with
  | .i _ m=>(match wS P d with
   | some k=> .v (.i k (k.wrap m))
   | none=> .no)
  | _=> .no)
 | .binOp op _ x y _=>VU op (cN n s x) (cN n s y)
 | .build t ps=>(match GR P t with
  | some pl=> .v (.agg (KL pl (z_ P t) (ps.toList.map fun p=>(p.1,cN n s p.2))))
  | none=> .no)
 | .index _ x i=>(match cN n s x with
  | .s z=>(match cN n s i with
   | .i _ m=> .lP (0≤m) (m<z.size) (.i .u8 (z.data.getD m.toNat 0).toNat)
   | _=> .no)
  | _=> .no)
 | .extract x i=>(match cN n s x with
  | .tup l=> .v (l.getD i .u)
  | _=> .no)
 | .makeFunc fn _ caps=>(match fn with
  | .func f=> .v (.fn f (caps.toList.map (cN n s)))
  | _=> .no)
 | _=> .no
def sU (P:Program) (t:TypeId):Option Nat:=match jg P t with
 | some e=>(match(P.info? e).isSome with
  | true=>some (P.cellsOf e)
  | false=>none)
 | none=>none
theorem wQ {P:Program} {t:TypeId} {m:Nat} (h:sU P t=some m): ∃e,jg P t=some e∧(P.info? e).isSome=true∧P.cellsOf e=m:=by
 unfold sU at h
 split at h
 ·rename_i e he
  split at h
  ·rename_i hi;exact⟨e,he,hi,Option.some.inj h⟩
  ·cases h
 ·cases h
def rl (s:TS) (b g:Nat) (K:(e:bH)→(xs:List e.T)→(m:Nat)→xs.length=m→aU):aU:=match Nat.blt b s.bn with
 | true=>(match s.get (bA b) with
  | .blk dG e xs m h=> .eq dG g (K e xs m h)
  | _=> .no)
 | false=> .no
theorem vK [FZ] {n:Nat} {s:TS} {b g:Nat} {K:(e:bH)→(xs:List e.T)→(m:Nat)→xs.length=m→aU} {R:Exit→TS→Prop} (h:(rl s b g K).den R):
  ∃e xs m hm,(K e xs m hm).den R∧b<s.bn∧(s.aI n).H[b]?=some ⟨g,e.l1,xs.map (b8 true e)⟩:=by
 unfold rl at h
 split at h
 ·rename_i hb
  have hb:b<s.bn:=by rw[←Nat.blt_eq];exact hb
  split at h
  ·rename_i dG e xs m hm hg
   obtain⟨h1,h⟩:=h
   subst h1
   exact⟨e,xs,m,hm,h,hb,by rw[q5 hb,hg];rfl⟩
  ·exact h.elim
 ·exact h.elim
def AA (V:List ad) (ids:List Nat) (m:Nat) (i:Int):List TV:=[.i .i64 (nth V i).aq,.i .i64 (nth V i).af,.wg i ids m (nth V i).ac.length,.b (.v (nth V i).ap),.i .i64 (nth V i).ar]
theorem CU {ws:List ad} {ids:List Nat} {bs:List (List Bool)} {i:Int} (ok:j_ ws ids bs) (h:i.toNat<(view ws ids bs).length):nth (view ws ids bs) i={nth ws i with ac:=bs.getD (nth ids i) []}:=by
 have aL:=ja ok
 have h1:=gS (xs:=ws) (i:=i) (by omega)
 have h2:=gS (xs:=ids) (i:=i) (by have:=ok.len;omega)
 have:=xK (bs:=bs) h1 h2
 rw[gS h] at this
 exact Option.some.inj this
theorem abp [Z:FZ] {V:List ad} {ids:List Nat} {m:Nat} {i:Int} (G:gr Z.ws ids Z.bs) (e:view Z.ws ids Z.bs=V) (h:i.toNat<V.length):(aZ m Z.ws ids)[i.toNat]?=some (cP (AA V ids m i)):=by
 subst e
 have aL:=ja G.ok
 have LM:=G.ok.len
 rw[dL LM (by omega)]
 have hb:=G.ok.ac i.toNat _ _ (gS (xs:=Z.ws) (i:=i) (by omega)) (gS (xs:=ids) (i:=i) (by omega))
 unfold AA
 rw[CU G.ok h]
 show some (kd m (nth Z.ws i) (nth ids i))=some _
 unfold kd
 rw[hb];rfl
def Fs (P:Program) (t:TypeId) (b g m:Nat) (i:Int) (s:TS) (v:TV) (K:TV→aU):aU:=match v with
 | .kt dG _ _=>(match Nat.blt b s.bn with
  | true=> .eq dG g (.eq (sU P t) (some 5) (.p (0≤i∧i.toNat<m) (K (.ptr b g i m 0))))
  | false=> .no)
 | _=>rl s b g fun e _ _ _=> .eq (sU P t) (some e.l1) (.p (0≤i∧i.toNat<m) (K (.ptr b g i m 0)))
def Ft (P:Program) (t:TypeId) (w:Int) (ids:List Nat) (m k:Nat) (i:Int) (s:TS) (K:TV→aU):aU:=match s.get dH with
 | .gZ V dd _ _=> .eq dd ids (.eq m s.bn (.eq (sU P t) (some 1) (.p (w.toNat<V.length∧0≤i∧i.toNat<k) (K (.we w ids m i)))))
 | _=> .no
def Fu (P:Program) (t:TypeId) (x i:TV) (s:TS) (K:TV→aU):aU:=match i with
 | .i _ i=>(match x with
  | .l e xs _ _=> .eq (sU P t) (some e.l1) (.p (0≤i∧i.toNat<xs.length) (K (.dv e (s5 e xs i) 0)))
  | .ref b g m _=>Fs P t b g m i s (s.get (bA b)) K
  | .wg w ids m k=>Ft P t w ids m k i s K
  | _=> .no)
 | _=> .no
def Gk (P:Program) (t:TypeId) (w:Int) (ids:List Nat) (m:Nat) (j:Int) (s:TS) (K:TV→aU):aU:=match s.get dH with
 | .gZ V dd _ _=> .eq dd ids (.eq m s.bn (.p (w.toNat<V.length∧j.toNat<(nth V w).ac.length) (rF (fun _ Q=>js P t [AV.bool (nth (nth V w).ac j)] 0 Q) K (.v (vl P t [.b (.v (nth (nth V w).ac j))] 0)))))
 | _=> .no
def Gl (P:Program) (t:TypeId) (b g:Nat) (i:Int) (m c:Nat) (s:TS) (K:TV→aU):aU:=match s.get (bA b) with
 | .kt dG hH ids=>(match Nat.blt b s.bn with
  | true=>(match s.get dH with
   | .gZ V dd _ _=> .eq dG g (.eq dd ids (.p (i.toNat<V.length) (rF (fun _ Q=>js P t (cP (AA V ids hH i)) c Q) K (.v (vl P t (AA V ids hH i) c)))))
   | _=> .no)
  | false=> .no)
 | .eG dG a7=>(match Nat.blt b s.bn with
  | true=> .eq dG g (.eq i 0 (rF (fun _ Q=>js P t (cP a7) c Q) K (.v (vl P t a7 c))))
  | false=> .no)
 | _=>rl s b g fun e xs fz _=> .eq fz m (.p (i.toNat<m) (rF (fun _ Q=>js P t (b8 true e (s5 e xs i)) c Q) K (.v (vl P t (gE true e (s5 e xs i)) c))))
def HG (P:Program) (t:TypeId) (x:TV) (lo hi:Option TV) (K:TV→aU):aU:=match x with
 | .l e xs _ fr=>(match lo with
  | none=>(match hi with
   | some (.i _ b)=> .eq (sU P t) (some e.l1) (.p (0≤b∧b≤(xs.length:Int)) (K (.l e (xs.take b.toNat) false fr)))
   | _=> .no)
  | some (.i _ a)=>(match hi with
   | none=> .eq (sU P t) (some e.l1) (.p (0≤a∧a≤(xs.length:Int)) (K (.l e (xs.drop a.toNat) false fr)))
   | _=> .no)
  | _=> .no)
 | _=> .no
def Gm (P:Program) (t:TypeId) (x:TV) (K:TV→aU):aU:=match x with
 | .l _ xs _ _=> .eq (jY P t x.bB) true (K (.i .i64 xs.length))
 | .nil _ _=> .eq (jY P t x.bB) true (K (.i .i64 (0:Nat)))
 | .s z=> .eq (jY P t x.bB) true (K (.i .i64 z.size))
 | .ref _ _ m _=> .eq (jY P t x.bB) true (K (.i .i64 m))
 | .wg _ _ _ k=> .eq (jY P t x.bB) true (K (.i .i64 k))
 | _=> .no
def sb (o:Oper) (K:TV→aU):aU:=match o.op with
 | .move x=>pn (cN cf.n s x) K
 | .assign x=>pn (cN cf.n s x) K
 | .indexAddr t x i=>Fu P t (cN cf.n s x) (cN cf.n s i) s K
 | .load t a=>(match cN cf.n s a with
  | .ptr b g i m c=>Gl P t b g i m c s K
  | .we w ids m j=>Gk P t w ids m j s K
  | _=>rF (fun H Q=>jR P o (fun x=>(cN cf.n s x).bB) s.cs H Q) K (gs P cf.n s o.op))
 | .slice t x lo hi mx=>(match mx with
  | none=>HG P t (cN cf.n s x) (lo.map (cN cf.n s)) (hi.map (cN cf.n s)) K
  | some _=> .no)
 | .call c=>(match c.callee with
  | .builtin b=>(match b with
   | .len=>(match c.args.toList,c.argTypes.toList with
    | [x],[t]=>Gm P t (cN cf.n s x) K
    | _,_=> .no)
   | _=> .no)
  | .value f=>(match cN cf.n s f with
   | .fn g caps=>Dp cf.pY g (c.args.toList.map (cN cf.n s)++caps) s K
   | _=> .no)
  | _=> .no)
 | .buildSlice t m ps=>wV cf.sA t fun e=>BT s e (ps.toList.map fun p=>cN cf.n s p.2) fun xs=>rF (fun H Q=>jR P o (fun x=>(cN cf.n s x).bB) s.cs H Q) K (.v (NV e xs (ps.toList.map fun p=>cN cf.n s p.2)))
 | op=>rF (fun H Q=>jR P o (fun x=>(cN cf.n s x).bB) s.cs H Q) K (gs P cf.n s op)
end
theorem GF {e:bH} {xs:List e.T} {i:Int} (h:i.toNat<xs.length) (fr:Bool):(xs.map (b8 fr e))[i.toNat]?=some (b8 fr e (s5 e xs i)):=by
 rw[List.getElem?_map]
 have:xs[i.toNat]?=some (s5 e xs i):=by
  have:= @gS e.T e.uA xs i h
  exact this
 rw[this];rfl
section
variable {P:Program} {cf:g_ P} {s:TS} {R:Exit→TS→Prop} {K:TV→aU} {Kp:AV→Prop}
theorem abR {t:TypeId} {x:TV} {lo hi:Option TV} {H:List Blk} (hK: ∀v,(K v).den R→Kp v.bB) (h:(HG P t x lo hi K).den R):vb P t x.bB (lo.map TV.bB) (hi.map TV.bB) H Kp:=by
 unfold HG at h
 split at h
 ·rename_i e xs eB fr
  have eV: ∀{m:Nat},m=e.l1→ ∀(i:Nat) (row:List AV),(List.map (b8 false e) xs)[i]?=some row→row.length=m:=fun hm i row aJ=>by
   rw[List.getElem?_map] at aJ
   cases hx:xs[i]? with
   | none=>rw[hx] at aJ;cases aJ
   | some x=>rw[hx] at aJ;cases aJ;rw[rq,hm]
  split at h
  ·split at h
   ·rename_i k b
    obtain⟨h1,h2,h⟩:=h
    obtain⟨nF,q1,q2,q3⟩:=wQ h1
    refine ej q1 ?_
    rw[if_pos q2]
    refine⟨h2.1,Nat.zero_le _,by rw[List.length_map];omega,eV q3,?_⟩
    rw[List.drop_zero,Nat.sub_zero,←List.map_take];exact hK _ h
   ·exact h.elim
  ·split at h
   ·rename_i k a
    obtain⟨h1,h2,h⟩:=h
    obtain⟨nF,q1,q2,q3⟩:=wQ h1
    refine ej q1 ?_
    rw[if_pos q2]
    refine⟨h2.1,by rw[List.length_map];omega,Nat.le_refl _,eV q3,?_⟩
    rw[List.take_of_length_le (by rw[List.length_drop];omega),←List.map_drop];exact hK _ h
   ·exact h.elim
  ·exact h.elim
 ·exact h.elim
end
section
variable {P:Program} {cf:g_ P} {s:TS} {R:Exit→TS→Prop} {K:TV→aU} {Kp:AV→Prop}
theorem ZP {t:TypeId} {x:TV} (hK: ∀v,(K v).den R→Kp v.bB) (h:(Gm P t x K).den R):e3 (jY P t x.bB) (r0 x.bB Kp):=by
 unfold Gm at h
 split at h
 ·obtain⟨h1,h⟩:=h
  rw[h1]
  show Kp (.int .i64 ((List.map _ _).length:Nat))
  rw[List.length_map];exact hK _ h
 ·obtain⟨h1,h⟩:=h;rw[h1];exact hK _ h
 ·obtain⟨h1,h⟩:=h;rw[h1];exact hK _ h
 ·obtain⟨h1,h⟩:=h;rw[h1];exact hK _ h
 ·obtain⟨h1,h⟩:=h;rw[h1];exact hK _ h
 ·exact h.elim
end
section
variable {P:Program} {cf:g_ P} {s:TS} {R:Exit→TS→Prop} {K:TV→aU} {Kp:AV→Prop}
theorem Gs {l:List (Nat×bH)} {t:Nat} {K:bH→aU} (h:(wV l t K).den R): ∃e,(K e).den R:=by
 induction l with
 | nil=>exact h.elim
 | cons p r bR=>
  obtain⟨k,e⟩:=p
  unfold wV at h
  split at h
  ·exact⟨e,h⟩
  ·exact bR h
end
section
variable [FZ] {P:Program} {cf:g_ P} {s:TS} {R:Exit→TS→Prop} {K:TV→aU} {Kp:AV→Prop}
variable (aN:Fits s)
theorem XW {t:TypeId} {b g m:Nat} {i:Int} {k:IntKind} {eB:Bool} (hK: ∀v,(K v).den R→Kp v.bB) (h:(Fs P t b g m i s (s.get (bA b)) K).den R):wP P t (.ref b g 0 m eB) (.int k i) (s.aI cf.n).H Kp:=by
 unfold Fs at h
 split at h
 ·rename_i dG hH ids hg
  split at h
  ·rename_i hb
   have hb:b<s.bn:=by rw[←Nat.blt_eq];exact hb
   obtain⟨h1,h2,aO,h⟩:=h
   subst h1
   obtain⟨nF,q1,q2,q3⟩:=wQ h2
   refine ej q1 ?_
   rw[if_pos q2]
   refine ej (by rw[q5 hb,hg]) ⟨rfl,q3.symm,aO.1,by have:=aO.2;omega,?_⟩
   rw[Nat.zero_add];exact hK _ h
  ·exact h.elim
 ·obtain⟨e,xs,fz,hm,h,hb,aR⟩:=vK (n:=cf.n) h
  obtain⟨h1,h2,h⟩:=h
  obtain⟨nF,q1,q2,q3⟩:=wQ h1
  refine ej q1 ?_
  rw[if_pos q2]
  refine ej aR ⟨rfl,q3.symm,h2.1,by have:=h2.2;omega,?_⟩
  rw[Nat.zero_add];exact hK _ h
include aN in
theorem Eh {V:List ad} {ids:List Nat} {w:Int} {bT:Nat} {hv:V.length=bT} (hk:s.get dH= .gZ V ids bT hv) (hw:w.toNat<V.length):(s.aI cf.n).H[nth ids w+s.bn]?=some (bi (nth V w).ac):=by
 obtain⟨G,e,_⟩:=aN V ids _ _ hk
 have aL:=ja G.ok
 rw[e] at aL
 have gP:=G.ok.lt w.toNat _ (gS (xs:=ids) (i:=w) (by have:=G.ok.len;omega))
 refine KK hk ?_
 rw[sD gP,←e,CU G.ok (by rw[e];exact hw)]
include aN in
theorem XY {t:TypeId} {w:Int} {ids:List Nat} {m c:Nat} {i:Int} {k:IntKind} (hK: ∀v,(K v).den R→Kp v.bB) (h:(Ft P t w ids m c i s K).den R):wP P t (.ref (nth ids w+m) 0 0 c false) (.int k i) (s.aI cf.n).H Kp:=by
 unfold Ft at h
 split at h
 ·rename_i V dd bT kF hk
  obtain⟨h1,h2,aO,bb,h⟩:=h
  subst h1;subst h2
  obtain⟨nF,q1,q2,q3⟩:=wQ aO
  refine ej q1 ?_
  rw[if_pos q2]
  refine ej (Eh aN hk bb.1) ⟨rfl,q3.symm,bb.2.1,by have:=bb.2.2;omega,?_⟩
  rw[Nat.zero_add];exact hK _ h
 ·exact h.elim
include aN in
theorem X1 {t:TypeId} {x i:TV} (hK: ∀v,(K v).den R→Kp v.bB) (h:(Fu P t x i s K).den R):wP P t x.bB i.bB (s.aI cf.n).H Kp:=by
 unfold Fu at h
 split at h
 ·split at h
  ·obtain⟨h1,h2,h⟩:=h
   obtain⟨nF,q1,q2,q3⟩:=wQ h1
   refine ej q1 ?_
   rw[if_pos q2]
   exact⟨h2.1,ej (GF h2.2 false) ⟨by rw[rq,q3],hK _ h⟩⟩
  ·exact XW hK h
  ·exact XY aN hK h
  ·exact h.elim
 ·exact h.elim
include aN in
theorem ZG {t:TypeId} {w:Int} {ids:List Nat} {m:Nat} {j:Int} (hK: ∀v,(K v).den R→Kp v.bB) (h:(Gk P t w ids m j s K).den R):oR P t (.ptr (nth ids w+m) 0 j.toNat 0) (s.aI cf.n).L (s.aI cf.n).H Kp:=by
 unfold Gk at h
 split at h
 ·rename_i V dd bT kF hk
  obtain⟨h1,h2,aO,h⟩:=h
  subst h1;subst h2
  exact ej (Eh aN hk aO.1) ⟨rfl,ej (x_ aO.2) (sG [] hK h)⟩
 ·exact h.elim
include aN in
theorem ZH {t:TypeId} {b g m c:Nat} {i:Int} (hK: ∀v,(K v).den R→Kp v.bB) (h:(Gl P t b g i m c s K).den R):oR P t (.ptr b g i.toNat c) (s.aI cf.n).L (s.aI cf.n).H Kp:=by
 unfold Gl at h
 split at h
 ·rename_i dG hH ids hg
  split at h
  ·rename_i hb
   have hb:b<s.bn:=by rw[←Nat.blt_eq];exact hb
   split at h
   ·rename_i V dd bT kF hk
    obtain⟨h1,h2,aO,h⟩:=h
    subst h1;subst h2
    obtain⟨G,e,_⟩:=aN V dd _ _ hk
    exact ej (by rw[q5 hb,hg]) ⟨rfl,ej (abp G e aO) (sG [] hK h)⟩
   ·exact h.elim
  ·exact h.elim
 ·rename_i dG a7 hg
  split at h
  ·rename_i hb
   have hb:b<s.bn:=by rw[←Nat.blt_eq];exact hb
   obtain⟨h1,h2,h⟩:=h
   subst h1;subst h2
   exact ej (by rw[q5 hb,hg]) ⟨rfl,ej (a:=cP a7) rfl (sG [] hK h)⟩
  ·exact h.elim
 ·obtain⟨e,xs,fz,hm,h,hb,aR⟩:=vK (n:=cf.n) h
  obtain⟨h1,h2,h⟩:=h
  refine ej aR ⟨rfl,ej (GF (by omega) true) ?_⟩
  exact sG [] hK h
include aN in
theorem Pa {o:Oper} (hK: ∀v,(K v).den R→Kp v.bB) (h:(sb cf s o K).den R):jR P o (cr (s.aI cf.n).T) (s.aI cf.n).L (s.aI cf.n).H Kp:=by
 rw[k3]
 obtain⟨dst,op,ty,pos,after,guard⟩:=o
 unfold sb at h
 split at h
 ·rename_i x fS;cases fS;rw[qm] at h;exact hK _ h
 ·rename_i x fS;cases fS;rw[qm] at h;exact hK _ h
 ·rename_i t x i fS;cases fS;exact X1 aN hK h
 ·rename_i t a fS
  cases fS
  split at h
  ·rename_i b g i m c a4
   show oR P t (cN cf.n s a).bB _ _ Kp
   rw[a4];exact ZH aN hK h
  ·rename_i w ids m j a4
   show oR P t (cN cf.n s a).bB _ _ Kp
   rw[a4];exact ZG aN hK h
  ·exact sG (F:=fun H Q=>jR P _ _ _ H Q) _ hK h
 ·rename_i t x lo hi mx fS
  cases fS
  split at h
  ·have:=abR (H:=(s.aI cf.n).H) hK h
   show vb P t _ (lo.map _) (hi.map _) _ Kp
   rw[Option.map_map,Option.map_map] at this
   exact this
  ·exact h.elim
 ·rename_i c fS
  cases fS
  obtain⟨callee,args,argTypes⟩:=c
  split at h
  ·rename_i b hb
   cases hb
   split at h
   ·show(match args.toList,argTypes.toList with
     | [x],[t]=>e3 (jY P t ((fun x=>(cN cf.n s x).bB) x)) (r0 ((fun x=>(cN cf.n s x).bB) x) Kp)
     | _,_=>False)
    split at h
    ·rename_i x t h1 h2
     simp only at h1 h2
     simp only[h1,h2];exact ZP hK h
    ·exact h.elim
   ·exact h.elim
  ·rename_i f hf
   cases hf
   show lQ (cN cf.n s f).bB fun g caps=>oF P g (args.toList.map (fun x=>(cN cf.n s x).bB)++caps) _ _ Kp
   split at h
   ·rename_i g caps hc
    rw[hc]
    have:=TW (n:=cf.n) aN hK h
    rw[nP,List.map_append,List.map_map] at this
    show oF P g (_++cP caps) _ _ Kp
    rw[nP];exact this
   ·exact h.elim
  ·exact h.elim
 ·rename_i t m ps fS
  cases fS
  obtain⟨e,h⟩:=Gs h
  obtain⟨xs,h⟩:=Gr (n:=cf.n) aN h
  exact sG (F:=fun H Q=>jR P _ _ _ H Q) _ hK h
 ·exact sG (F:=fun H Q=>jR P _ _ _ H Q) _ hK h
end
theorem fm {n:Int} (h1: -9223372036854775808≤n) (h2:n≤9223372036854775807):IntKind.i64.wrap n=n:=by
 rw[IntKind.wrap_i64];omega
def bY (x a b:Int):Bool:=decide (a≤x)&&decide (x≤b)
theorem iB {x a b:Int}:bY x a b=true↔a≤x∧x≤b:=by simp[bY]
theorem gH {α:Type} [Inhabited α] {xs:List α} {i:Int} (h:i.toNat<xs.length):nth xs i=xs[i.toNat]:=by
 have:=gS h
 rw[List.getElem?_eq_getElem h] at this
 exact(Option.some.inj this).symm
theorem dC {α:Type} [Inhabited α] {xs:List α} {i:Int} (h:i.toNat<xs.length):nth xs i∈xs:=by rw[gH h];exact List.getElem_mem h
theorem iT {α:Type} [Inhabited α] {xs:List α} {i:Nat} (h:i<xs.length):nth xs (i:Int)=xs[i]:=by rw[gH (by simpa using h)];simp
def first {α:Type} (xs:List α) (p:α→Bool):Option Nat:=xs.findIdx? p
theorem U2 {α:Type} {xs:List α} {p:α→Bool} (h: ∀x∈xs,p x=false):first xs p=none:=by
 unfold first;rw[List.findIdx?_eq_none_iff];exact h
theorem U3 {α:Type} [Inhabited α] {xs:List α} {p:α→Bool} {i:Int} (h: ∀x∈xs.take i.toNat,p x=false) (hi:i.toNat<xs.length) (aG:p (nth xs i)=true):first xs p=some i.toNat:=by
 unfold first
 rw[List.findIdx?_eq_some_iff_getElem]
 refine⟨hi,by rw[←gH hi];exact aG,fun j aM=> ?_⟩
 have:=h xs[j] (by rw[List.mem_take_iff_getElem];exact⟨j,by omega,rfl⟩)
 simp[this]
def B7 (o:Option Nat):Int:=match o with
 | some i=>i
 | none=> -1
def nq (xs:List Int) (v:Int):Int:=B7 (first xs (fun x=>v==x))
def fQ (xs:List Int) (v:Int):Bool:=xs.contains v
def rU (xs:List Bool) (v:Bool):Int:=B7 (first xs (fun x=>v==x))
def jS (xs:List Bool) (v:Bool):Bool:=xs.contains v
def aa {α:Type} (x:α):α:=x
def meets (a b:List Int):Bool:=a.any fun x=>b.contains x
def dup (l:List Int):Bool:= !decide l.Nodup
def bu (w:Way):List cx:=w.a2++w.bw
def ho (l:List Int) (n:Int):Bool:=decide (l.length≤30)&&l.all (fun x=>bY x 0 (n - 1))&&decide l.Nodup
def lr (p:az) (l:List cx):Bool:=decide (l.length≤30)&&l.all (fun x=>bY x.sw 0 (p.be.length - 1)&&bY x.bk 1 2)&&decide (l.map (·.sw)).Nodup
def gW (p:az) (w:Way):Bool:=
 decide (w.ai≠[])&&ho w.ai p.ai&&ho w.cO p.ai&&ho w.cJ p.ai&&lr p w.a2&&lr p w.bw&&
 decide ((bu w).map (·.sw)).Nodup&&w.a2.all (fun x=>w.ai.contains (nth p.be x.sw))&& !meets w.ai w.cO
def rk (p:az) (i k:Nat):Bool:=nth (nth p.bU i) k
def nQ (p:az) (i k:Nat):Bool:=(rk p i k !=rk p k i) || (decide (i≠k)&& !rk p i k&&meets (nth p.O i).ai (nth p.O k).ai)
def oX (p:az):jb:=if p.bU.length=p.O.length then
  match first p.bU (fun b=>decide (b.length≠p.O.length)) with
  | some k=>⟨4,k⟩
  | none=>match first (List.range p.O.length) (fun i=>(List.range p.O.length).any fun k=>nQ p i k) with
   | some k=>⟨5,k⟩
   | none=>⟨0,0⟩
 else⟨4,0⟩
def xf (p:az):jb:=match first p.O (fun w=> !gW p w) with
 | some k=>⟨3,k⟩
 | none=>oX p
def xe (p:az):jb:=match first p.be (fun s=> !bY s 0 (p.ai - 1)) with
 | some k=>⟨2,k⟩
 | none=>xf p
def hJ (p:az):jb:=if bY p.ai 1 60&&bY p.dn 1 300&&decide (p.be.length≤40)&&decide (p.O.length≤100) then xe p else⟨1,0⟩
def ek (p:az):Bool:=decide (hJ p=⟨0,0⟩)
def e5 (p:az) (e:Event):Bool:=
 if e.op=1∨e.op=2 then bY e.ah 0 (p.O.length - 1)&&decide (e.bk=0)
 else if e.op=3∨e.op=4 then bY e.ah 0 (p.ai - 1)&&decide (e.bk=0)
 else if e.op=5 then bY e.ah 0 (p.be.length - 1)&&bY e.bk 0 2
 else if e.op=6 then bY e.ah 0 (p.be.length - 1)&&bY e.bk 1 2
 else if e.op=7 then decide (e.ah=0)&&decide (e.bk=0)
 else false
def small {α:Type} (a:List α):Prop:=a.length≤1048576
def eqv {α:Type} [DecidableEq α] (a b:α):Bool:=decide (a=b)
def rf {α:Type} (a:α):Bool:=true
def zp (l:List Int) (n:Int):Prop:= -9223372036854775808<n∧n≤9223372036854775807
def G0 (p:az) (w:Way):Prop:= -9223372036854775808<p.ai∧p.ai≤9223372036854775807
def OM (p:az) (e:Event):Prop:= -9223372036854775808<p.ai∧p.ai≤9223372036854775807
def xg (w:Way):Prop:=w.a2.length≤1048576∧w.bw.length≤1048576
def cv (N:Int) (p:Int→Bool) (v:Int):Prop:=0≤v∧v≤N∧ ∀j:Int,0≤j→j<v→p j=false
def cG (N:Int) (v:Int):Nat:=(N - v).toNat
theorem di {N:Int} {p:Int→Bool} (h:0≤N):cv N p 0:=⟨Int.le_refl _,h,fun j aT h1=>by omega⟩
theorem jM {N v:Int} (aF:N≤4611686018427387904) (aT:0≤v) (hv:v<N):IntKind.i64.wrap (v+1)=v+1:=fm (by omega) (by omega)
theorem c0 {N v:Int} {p:Int→Bool} (aF:N≤4611686018427387904) (h:cv N p v) (hv:decide (v<N)=true) (aG:p v=false):cv N p (IntKind.i64.wrap (v+1))∧cG N (IntKind.i64.wrap (v+1))<cG N v:=by
 obtain⟨aT,h1,h2⟩:=h
 have hv:v<N:=by simpa using hv
 rw[jM aF aT hv]
 refine⟨⟨by omega,by omega,fun j cq fc=> ?_⟩,by unfold cG;omega⟩
 rcases Int.lt_or_eq_of_le (show j≤v by omega) with aL | rfl
 ·exact h2 j cq aL
 ·exact aG
theorem gL {N v:Int} {p:Int→Bool} (h:cv N p v) (hv:decide (v<N)=false): ∀j:Int,0≤j→j<N→p j=false:=by
 obtain⟨aT,h1,h2⟩:=h
 have hv: ¬v<N:=by simpa using hv
 exact fun j cq fc=>h2 j cq (by omega)
theorem ch {α:Type} {xs:List α} {v:Int} {p:Int→Bool} (h:cv xs.length p v) (hv:decide (v<(xs.length:Int))=true):0≤v∧v.toNat<xs.length:=by
 have hv:v<(xs.length:Int):=by simpa using hv
 exact⟨h.1,by have:=h.1;omega⟩
theorem cD {α:Type} {xs:List α} (h:xs.length≤4611686018427387904):(xs.length:Int)≤4611686018427387904:=by omega
theorem dt {α:Type} (xs:List α):0≤(xs.length:Int):=by omega
theorem l9 {α:Type} [Inhabited α] {xs:List α} {q:α→Bool} (h: ∀j:Int,0≤j→j<xs.length→q (nth xs j)=false): ∀x∈xs,q x=false:=fun x hx=>by
 obtain⟨i,hi,rfl⟩:=List.mem_iff_getElem.1 hx
 have:=h i (by omega) (by omega)
 rwa [iT hi] at this
theorem p0 {α:Type} [Inhabited α] {xs:List α} {q:α→Bool} {v:Int} (h:cv xs.length (fun j=>q (nth xs j)) v) (hv:decide (v<(xs.length:Int))=true) (aG:q (nth xs v)=true):first xs q=some v.toNat:=by
 have hi:=ch h hv
 refine U3 (fun x hx=> ?_) hi.2 aG
 obtain⟨i,ga,rfl⟩:=List.mem_take_iff_getElem.1 hx
 have:q (nth xs (i:Int))=false:=h.2.2 i (by omega) (by omega)
 rwa [iT (by omega)] at this
theorem p1 {α:Type} [Inhabited α] {xs:List α} {q:α→Bool} {v:Int} (h:cv xs.length (fun j=>q (nth xs j)) v) (hv:decide (v<(xs.length:Int))=false):first xs q=none:=
 U2 (l9 (gL h hv))
theorem CT {α:Type} [Inhabited α] {xs:List α} {q:α→Bool} {v:Int} (h:cv xs.length (fun j=>q (nth xs j)) v) (hv:decide (v<(xs.length:Int))=true) (aG:q (nth xs v)=true):xs.any q=true:=by
 rw[List.any_eq_true];exact⟨_,dC (ch h hv).2,aG⟩
theorem z3 {α:Type} [Inhabited α] {xs:List α} {q:α→Bool} {v:Int} (h:cv xs.length (fun j=>q (nth xs j)) v) (hv:decide (v<(xs.length:Int))=false):xs.any q=false:=by
 rw[List.any_eq_false]
 intro x hx
 rw[l9 (gL h hv) x hx];simp
theorem not_eq {b:Bool} (h:(!b)=true):b=false:=by simpa using h
theorem Hy {α:Type} [Inhabited α] {a b:List α} (aL:a.length=b.length) (h: ∀j:Int,0≤j→j<a.length→nth a j=nth b j):a=b:=by
 apply List.ext_getElem aL
 intro i h1 h2
 have:=h i (by omega) (by omega)
 rwa [iT h1,iT h2] at this
theorem D4 {α:Type} [Inhabited α] [DecidableEq α] {a b:List α} {ne:Int→Bool} (cm: ∀v,ne v=true↔nth a v≠nth b v):
  ((a.length≤4611686018427387904)∧(b.length≤4611686018427387904)→((a.length:Int) !=(b.length:Int))=true→false=eqv a b)∧((a.length≤4611686018427387904)∧(b.length≤4611686018427387904)∧((!((a.length:Int) !=(b.length:Int)))=true)→
   cv a.length ne 0∧ ∀(v:Int),cv a.length ne v→(((decide (v<(a.length:Int)))=false→true=eqv a b)∧((decide (v<(a.length:Int)))=true→(((0≤v∧v.toNat<a.length)∧(0≤v∧v.toNat<b.length))∧((ne v)=true→false=eqv a b))∧
    ((!(ne v))=true→cv a.length ne (IntKind.i64.wrap (v+1))∧cG a.length (IntKind.i64.wrap (v+1))<cG a.length v)))):=by
 refine⟨fun _ h=> ?_,fun⟨h1,h2,aO⟩=> ?_⟩
 ·have:a≠b:=fun e=>by subst e;simp at h
  simp[eqv,this]
 ·have aL:a.length=b.length:=by have:(a.length:Int)=b.length:=by simpa using aO
                                omega
  refine⟨di (dt a),fun v aX=>⟨fun hv=> ?_,fun hv=>⟨⟨⟨ch aX hv,by rw[←aL];exact ch aX hv⟩,fun aF=> ?_⟩,fun aF=>c0 (cD h1) aX hv (not_eq aF)⟩⟩⟩
  ·have:a=b:=Hy aL fun j cq fc=>by
    have aj:=gL aX hv j cq fc
    by_cases he:nth a j=nth b j
    ·exact he
    ·rw[(cm j).2 he] at aj;cases aj
   simp[eqv,this]
  ·have:a≠b:=fun e=>(cm v).1 aF (by rw[e])
   simp[eqv,this]
theorem tZ {xs:List Int} {x:Int}:fQ xs x=true↔x∈xs:=by unfold fQ;simp
theorem Ww {xs:List Int} {x k:Int} (hk:k.toNat<xs.length) (h:(x==nth xs k)=true):fQ xs x=true:=by
 rw[tZ,show x=nth xs k by simpa using h];exact dC hk
theorem Wu {xs:List Int} {x:Int} (h: ∀j:Int,0≤j→j<xs.length→(x==nth xs j)=false):fQ xs x=false:=by
 rw[←Bool.not_eq_true,tZ]
 intro hm
 have:=l9 (q:=fun y=>x==y) h x hm
 simp at this
theorem XZ (xs:List Int) (x:Int):(decide (nq xs x ≥ 0))=fQ xs x:=by
 unfold nq
 cases h:first xs (fun y=>x==y) with
 | none=>
  unfold first at h
  rw[List.findIdx?_eq_none_iff] at h
  have:fQ xs x=false:=by
   rw[←Bool.not_eq_true,tZ]
   intro hm
   have:=h x hm
   simp at this
  rw[this];rfl
 | some i=>
  unfold first at h
  rw[List.findIdx?_eq_some_iff_getElem] at h
  obtain⟨hi,aG,_⟩:=h
  have:fQ xs x=true:=by rw[tZ,show x=xs[i] by simpa using aG];exact List.getElem_mem hi
  rw[this]
  show decide ((i:Int) ≥ 0)=true
  simp
theorem Ux {xs:List Int} {v:Int} (aT:0≤v) (hv:v.toNat<xs.length) (h:fQ (xs.take v.toNat) (nth xs v)=true):dup xs=true:=by
 rw[tZ] at h
 unfold dup
 simp only[Bool.not_eq_true',decide_eq_false_iff_not]
 intro aF
 obtain⟨i,hi,he⟩:=List.mem_take_iff_getElem.1 h
 rw[gH hv] at he
 exact(List.pairwise_iff_getElem.1 aF) i v.toNat (by omega) hv (by omega) he
theorem Km {xs:List Int} (h: ∀j:Int,0≤j→j<xs.length→fQ (xs.take j.toNat) (nth xs j)=false):dup xs=false:=by
 unfold dup
 simp only[Bool.not_eq_false',decide_eq_true_eq]
 unfold List.Nodup
 rw[List.pairwise_iff_getElem]
 intro i j hi aM bc he
 have:=h j (by omega) (by omega)
 rw[←Bool.not_eq_true,tZ,iT aM] at this
 exact this (by rw[List.mem_take_iff_getElem];exact⟨i,by omega,he⟩)
theorem Ho (x n:Int):(decide (x<0) || decide (x ≥ n))= !bY x 0 (n - 1):=by
 rw[Bool.eq_iff_iff]
 simp[bY]
 omega
theorem N_ {α:Type} {l:List α} (k:Nat):decide ((l.length:Int)≤(k:Int))=decide (l.length≤k):=decide_eq_decide.2 (by omega)
theorem aan {α:Type} [Inhabited α] {β:Type} [DecidableEq β] {l:List α} {f:α→β} (h: ∀i j:Int,0≤i→i<j→j<l.length→f (nth l i)≠f (nth l j)):(l.map f).Nodup:=by
 unfold List.Nodup
 rw[List.pairwise_iff_getElem]
 intro i j hi aM bc
 simp only[List.length_map] at hi aM
 rw[List.getElem_map,List.getElem_map]
 have:=h i j (by omega) (by omega) (by omega)
 rwa [iT hi,iT aM] at this
theorem Of {α:Type} [Inhabited α] {β:Type} [DecidableEq β] {l:List α} {f:α→β} {i j:Int} (aT:0≤i) (h1:i<j) (h2:j<l.length) (he:f (nth l i)=f (nth l j)): ¬(l.map f).Nodup:=by
 intro aF
 have:=(List.pairwise_iff_getElem.1 aF) i.toNat j.toNat (by simp;omega) (by simp;omega) (by omega)
 rw[List.getElem_map,List.getElem_map,←gH (by omega),←gH (by omega)] at this
 exact this he
theorem map_id' {α:Type} (l:List α):l.map (fun x=>x)=l:=by simp
theorem qI {l:List Int} {n:Int}:ho l n=true↔l.length≤30∧(∀x∈l,bY x 0 (n - 1)=true)∧l.Nodup:=by
 unfold ho;simp[and_assoc]
theorem ZY {l:List Int} {n:Int} (h: ∀j:Int,0≤j→j<l.length→(!bY (nth l j) 0 (n - 1) || fQ (l.take j.toNat) (nth l j))=false):ho l n=decide (l.length≤30):=by
 have h1: ∀x∈l,bY x 0 (n - 1)=true:=fun x hx=>by
  have:=l9 (q:=fun x=> !bY x 0 (n - 1)) (fun j cq fc=>(Bool.or_eq_false_iff.1 (h j cq fc)).1) x hx
  simpa using this
 have h2:dup l=false:=Km fun j cq fc=>(Bool.or_eq_false_iff.1 (h j cq fc)).2
 have h2:l.Nodup:=by unfold dup at h2;simpa using h2
 rw[Bool.eq_iff_iff,qI]
 simp only[decide_eq_true_eq]
 exact⟨fun h=>h.1,fun h=>⟨h,h1,h2⟩⟩
theorem NU {l:List Int} {n:Int} {v:Int} (hv:v.toNat<l.length) (h:(!bY (nth l v) 0 (n - 1))=true):ho l n=false:=by
 rw[←Bool.not_eq_true,qI]
 intro bV
 have:=bV.2.1 _ (dC hv)
 simp[this] at h
theorem ZX {l:List Int} {n:Int} {i j:Int} (aT:0≤i) (h1:i<j) (h2:j<l.length) (he:(nth l i==nth l j)=true):ho l n=false:=by
 rw[←Bool.not_eq_true,qI]
 intro bV
 have:=Of (f:=fun x=>x) aT h1 h2 (by simpa using he)
 rw[map_id'] at this
 exact this bV.2.2
theorem Wv {l:List Int} {v:Int} (aT:0≤v) (hv:v<l.length) (h: ∀j:Int,0≤j→j<v→(nth l j==nth l v)=false):fQ (l.take v.toNat) (nth l v)=false:=by
 rw[←Bool.not_eq_true,tZ]
 intro hm
 obtain⟨i,hi,he⟩:=List.mem_take_iff_getElem.1 hm
 have:=h i (by omega) (by omega)
 rw[iT (by omega),he] at this
 simp at this
theorem mm {p:az} {l:List cx}:lr p l=true↔l.length≤30∧(∀x∈l,(bY x.sw 0 (p.be.length - 1)&&bY x.bk 1 2)=true)∧(l.map (·.sw)).Nodup:=by
 unfold lr;simp[and_assoc]
def oS (p:az) (x:cx):Bool:=(!bY x.sw 0 (p.be.length - 1)) || (!bY x.bk 1 2)
theorem y6 (p:az) (x:cx):oS p x= !(bY x.sw 0 (p.be.length - 1)&&bY x.bk 1 2):=by unfold oS;rw[Bool.not_and]
def y7 (l:List cx) (j:Int):Bool:=(l.take j.toNat).any fun y=>y.sw==(nth l j).sw
theorem ZV {p:az} {l:List cx} (h: ∀j:Int,0≤j→j<l.length→(oS p (nth l j) || y7 l j)=false):lr p l=decide (l.length≤30):=by
 have h1: ∀x∈l,(bY x.sw 0 (p.be.length - 1)&&bY x.bk 1 2)=true:=fun x hx=>by
  have:=l9 (q:=oS p) (fun j cq fc=>(Bool.or_eq_false_iff.1 (h j cq fc)).1) x hx
  rw[y6] at this
  simpa using this
 have h2:(l.map (·.sw)).Nodup   :=aan fun i j aT h1 aM=>by
  have:=(Bool.or_eq_false_iff.1 (h j (by omega) aM)).2
  unfold y7 at this
  rw[List.any_eq_false] at this
  have:=this (nth l i) (by rw[gH (by omega)];exact List.mem_take_iff_getElem.2 ⟨i.toNat,by omega,rfl⟩)
  simpa using this
 rw[Bool.eq_iff_iff,mm]
 simp only[decide_eq_true_eq]
 exact⟨fun h=>h.1,fun h=>⟨h,h1,h2⟩⟩
theorem ZW {p:az} {l:List cx} {v:Int} (hv:v.toNat<l.length) (h:oS p (nth l v)=true):lr p l=false:=by
 rw[←Bool.not_eq_true,mm]
 intro bV
 rw[y6,bV.2.1 _ (dC hv)] at h
 cases h
theorem ZU {p:az} {l:List cx} {i j:Int} (aT:0≤i) (h1:i<j) (h2:j<l.length) (he:((nth l i).sw==(nth l j).sw)=true):lr p l=false:=by
 rw[←Bool.not_eq_true,mm]
 exact fun bV=>Of (f:=fun x:cx=>x.sw) aT h1 h2 (by simpa using he) bV.2.2
theorem ZS {l:List cx} {v:Int} (aT:0≤v) (hv:v<l.length) (h: ∀j:Int,0≤j→j<v→((nth l j).sw==(nth l v).sw)=false):y7 l v=false:=by
 unfold y7
 rw[List.any_eq_false]
 intro y br
 obtain⟨i,hi,rfl⟩:=List.mem_take_iff_getElem.1 br
 have:=h i (by omega) (by omega)
 rw[iT (by omega)] at this
 rw[this];simp
theorem N3 (a b:List Int):meets a b=meets b a:=by
 unfold meets
 rw[Bool.eq_iff_iff]
 simp only[List.any_eq_true,List.contains_iff_mem]
 exact⟨fun⟨x,h1,h2⟩=>⟨x,h2,h1⟩,fun⟨x,h1,h2⟩=>⟨x,h2,h1⟩⟩
theorem uI (x:Int) (b:List Int):meets [x] b=b.contains x:=by unfold meets;simp
theorem ow {p:az} {w:Way}:gW p w=true↔w.ai≠[]∧ho w.ai p.ai=true∧ho w.cO p.ai=true∧ho w.cJ p.ai=true∧lr p w.a2=true∧lr p w.bw=true∧
  ((bu w).map (·.sw)).Nodup∧(∀x∈w.a2,w.ai.contains (nth p.be x.sw)=true)∧meets w.ai w.cO=false:=by
 unfold gW;simp[and_assoc]
theorem BZ {w:Way}:((bu w).map (·.sw)).Nodup↔(w.a2.map (·.sw)).Nodup∧(w.bw.map (·.sw)).Nodup∧ ∀x∈w.a2,∀y∈w.bw,x.sw≠y.sw:=by
 unfold bu
 rw[List.map_append,List.nodup_append]
 simp only[List.mem_map]
 constructor
 ·rintro⟨h1,h2,aO⟩;exact⟨h1,h2,fun x hx y br=>aO _ ⟨x,hx,rfl⟩ _ ⟨y,br,rfl⟩⟩
 ·rintro⟨h1,h2,aO⟩
  refine⟨h1,h2,?_⟩
  rintro a ⟨x,hx,rfl⟩ b ⟨y,br,rfl⟩
  exact aO x hx y br
def kN (p:az):Bool:=bY p.ai 1 60&&bY p.dn 1 300&&decide (p.be.length≤40)&&decide (p.O.length≤100)
theorem GU {p:az} (h:kN p=false):hJ p=⟨1,0⟩:=by
 unfold hJ;unfold kN at h;rw[if_neg (by rw[h];simp)]
theorem GW {p:az} (h:kN p=true):hJ p=xe p:=by
 unfold hJ;unfold kN at h;rw[if_pos h]
theorem OH {p:az} {k:Nat} (hb:kN p=true) (h:first p.be (fun s=> !bY s 0 (p.ai - 1))=some k):hJ p=⟨2,k⟩:=by rw[GW hb];unfold xe;rw[h]
theorem OJ {p:az} (hb:kN p=true) (h:first p.be (fun s=> !bY s 0 (p.ai - 1))=none):hJ p=xf p:=by rw[GW hb];unfold xe;rw[h]
theorem OI {p:az} {k:Nat} (hb:kN p=true) (h:first p.be (fun s=> !bY s 0 (p.ai - 1))=none) (hw:first p.O (fun w=> !gW p w)=some k):hJ p=⟨3,k⟩:=by rw[OJ hb h];unfold xf;rw[hw]
theorem GV {p:az} (hb:kN p=true) (h:first p.be (fun s=> !bY s 0 (p.ai - 1))=none) (hw:first p.O (fun w=> !gW p w)=none):hJ p=oX p:=by rw[OJ hb h];unfold xf;rw[hw]
theorem OG {p:az} (h:p.bU.length≠p.O.length):oX p=⟨4,0⟩:=by unfold oX;rw[if_neg h]
theorem OE {p:az} {k:Nat} (h:p.bU.length=p.O.length) (hb:first p.bU (fun b=>decide (b.length≠p.O.length))=some k):oX p=⟨4,k⟩:=by unfold oX;rw[if_pos h,hb]
theorem OF {p:az} {k:Nat} (h:p.bU.length=p.O.length) (hb:first p.bU (fun b=>decide (b.length≠p.O.length))=none) (aj:first (List.range p.O.length) (fun i=>(List.range p.O.length).any fun k=>nQ p i k)=some k):oX p=⟨5,k⟩:=by
 unfold oX;rw[if_pos h,hb];simp only;rw[aj]
theorem GS {p:az} (h:p.bU.length=p.O.length) (hb:first p.bU (fun b=>decide (b.length≠p.O.length))=none) (aj:first (List.range p.O.length) (fun i=>(List.range p.O.length).any fun k=>nQ p i k)=none):oX p=⟨0,0⟩:=by
 unfold oX;rw[if_pos h,hb];simp only;rw[aj]
theorem r6 {p:az}:kN p=true↔(1≤p.ai∧p.ai≤60)∧(1≤p.dn∧p.dn≤300)∧p.be.length≤40∧p.O.length≤100:=by
 unfold kN bY;simp[and_assoc]
theorem KV {n:Nat} {q:Nat→Bool} {v:Int} (aT:0≤v) (hv:v<n) (h: ∀j:Int,0≤j→j<v→q j.toNat=false) (aj:q v.toNat=true):first (List.range n) q=some v.toNat:=by
 unfold first
 rw[List.findIdx?_eq_some_iff_getElem]
 refine⟨by simp;omega,by simpa using aj,fun j aM=> ?_⟩
 have:=h j (by omega) (by omega)
 simpa using this
theorem KU {n:Nat} {q:Nat→Bool} (h: ∀j:Int,0≤j→j<n→q j.toNat=false):first (List.range n) q=none:=by
 unfold first
 rw[List.findIdx?_eq_none_iff]
 intro x hx
 have:=h x (by omega) (by have:=List.mem_range.1 hx;omega)
 simpa using this
theorem JE {n:Nat} {q:Nat→Bool} {v:Int} (aT:0≤v) (hv:v<n) (h:q v.toNat=true):(List.range n).any q=true:=by
 rw[List.any_eq_true];exact⟨v.toNat,List.mem_range.2 (by omega),h⟩
theorem N9 {n:Nat} {q:Nat→Bool} (h: ∀j:Int,0≤j→j<n→q j.toNat=false):(List.range n).any q=false:=by
 rw[List.any_eq_false]
 intro x hx
 have:=h x (by omega) (by have:=List.mem_range.1 hx;omega)
 simp only[Int.toNat_natCast] at this
 rw[this];simp
theorem iU {α:Type} [Inhabited α] {xs:List α} {i:Int} (h:0≤i):nth xs (i.toNat:Int)=nth xs i:=by rw[Int.toNat_of_nonneg h]
theorem ZR (p:az) (x:cx):((decide (x.sw<0)) || ((decide (x.sw ≥ (p.be.length:Int))) || ((x.bk !=1)&&(x.bk !=2))))=oS p x:=by
 unfold oS
 rw[←Ho,Bool.or_assoc]
 congr 2
 rw[Bool.eq_iff_iff]
 simp[bY]
 omega
def pK (p:az) (w:Way) (j:Int):Bool:=oS p (nth (bu w) j) || (decide (j<(w.a2.length:Int))&& !(fQ w.ai (nth p.be (nth (bu w) j).sw)))
theorem Oa {w:Way} {j:Int} (aT:0≤j) (h:j<w.a2.length):nth (bu w) j=nth w.a2 j:=by
 rw[gH (xs:=w.a2) (by omega),gH (by unfold bu;rw[List.length_append];omega)]
 unfold bu
 rw[List.getElem_append_left]
theorem VS {p:az} {w:Way} (h:gW p w=true): ∀l∈[w.ai,w.cO,w.cJ],ho l p.ai=true:=by
 obtain⟨-,h1,h2,aO,-⟩:=ow.1 h
 intro l aL
 simp only[List.mem_cons,List.not_mem_nil,or_false] at aL
 rcases aL with rfl | rfl | rfl
 ·exact h1
 ·exact h2
 ·exact aO
theorem VT {p:az} {w:Way} (h:gW p w=true) {j:Int} (aT:0≤j) (aM:j.toNat<(bu w).length):pK p w j=false:=by
 obtain⟨-,-,-,-,bb,cb,-,cE,-⟩:=ow.1 h
 have hm:=dC aM
 have hb:oS p (nth (bu w) j)=false:=by
  rw[y6]
  unfold bu at hm ⊢
  rcases List.mem_append.1 hm with hm | hm
  ·rw[(mm.1 bb).2.1 _ hm];rfl
  ·rw[(mm.1 cb).2.1 _ hm];rfl
 unfold pK
 rw[hb,Bool.false_or]
 by_cases aL:j<(w.a2.length:Int)
 ·rw[Oa aT aL]
  have:fQ w.ai (nth p.be (nth w.a2 j).sw)=true:=cE _ (dC (by omega))
  rw[this];simp
 ·simp[aL]
theorem VR {p:az} {w:Way} (h1:w.ai≠[]) (aL: ∀l∈[w.ai,w.cO,w.cJ],ho l p.ai=true) (aO:w.a2.length≤30) (bb:w.bw.length≤30)
  (aF: ∀j:Int,0≤j→j<(bu w).length→pK p w j=false):((!(dup ((bu w).map (·.sw))))&&(!(meets w.ai w.cO)))=gW p w:=by
 have hb: ∀x∈bu w,(bY x.sw 0 (p.be.length - 1)&&bY x.bk 1 2)=true:=fun x hx=>by
  have:=l9 (q:=oS p) (fun j cq fc=>by have:=aF j cq fc;unfold pK at this;exact(Bool.or_eq_false_iff.1 this).1) x hx
  rw[y6] at this
  simpa using this
 have hc: ∀x∈w.a2,w.ai.contains (nth p.be x.sw)=true:=fun x hx=>by
  have:=l9 (q:=fun x=> !(fQ w.ai (nth p.be x.sw))) (fun j cq fc=>by
   have:=aF j cq (by unfold bu;rw[List.length_append];omega)
   unfold pK at this
   have:=(Bool.or_eq_false_iff.1 this).2
   rw[Oa cq fc] at this
   simpa[fc] using this) x hx
  simp only[Bool.not_eq_false'] at this
  exact this
 rw[Bool.eq_iff_iff,ow]
 simp only[Bool.and_eq_true,Bool.not_eq_true',dup,Bool.not_eq_false',decide_eq_true_eq]
 constructor
 ·rintro⟨bg,hm⟩
  have pv:=BZ.1 bg
  exact⟨h1,aL _ (by simp),aL _ (by simp),aL _ (by simp),mm.2 ⟨aO,fun x hx=>hb x (by unfold bu;exact List.mem_append_left _ hx),pv.1⟩,mm.2 ⟨bb,fun x hx=>hb x (by unfold bu;exact List.mem_append_right _ hx),pv.2.1⟩,bg,hc,hm⟩
 ·rintro⟨-,-,-,-,-,-,bg,-,hm⟩
  exact⟨bg,hm⟩
theorem JM {p:az} {i k:Int} (aT:0≤i) (h1:0≤k):(((nth (nth p.bU i) k) !=(nth (nth p.bU k) i)) || ((i !=k)&&((!(nth (nth p.bU i) k))&&(meets (nth p.O i).ai (nth p.O k).ai))))=nQ p i.toNat k.toNat:=by
 unfold nQ rk
 rw[Int.toNat_of_nonneg aT,Int.toNat_of_nonneg h1]
 have:(i !=k)=decide (i.toNat≠k.toNat):=by
  rw[Bool.eq_iff_iff];simp;omega
 rw[this,Bool.and_assoc]
def qE (n:Int) (e:Event):Bool:=decide (e.ah ≥ 0)&&decide (e.ah<n)
theorem zj (x a b:Int):(bif (x==a) then(x==a) else(x==b))=decide (x=a∨x=b):=by
 by_cases h:x=a
 ·simp[h]
 ·have h1:(x==a)=false:=by simp[h]
  rw[h1,Bool.eq_iff_iff]
  simp[h]
theorem D7 {p:az} {e:Event} (h:e.op=1∨e.op=2):e5 p e=(bY e.ah 0 (p.O.length - 1)&&decide (e.bk=0)):=by unfold e5;rw[if_pos h]
theorem D8 {p:az} {e:Event} (h1: ¬(e.op=1∨e.op=2)) (h:e.op=3∨e.op=4):e5 p e=(bY e.ah 0 (p.ai - 1)&&decide (e.bk=0)):=by unfold e5;rw[if_neg h1,if_pos h]
theorem AR {p:az} {e:Event} (h:e.op=5):e5 p e=(bY e.ah 0 (p.be.length - 1)&&bY e.bk 0 2):=by unfold e5;simp[h]
theorem AS {p:az} {e:Event} (h:e.op=6):e5 p e=(bY e.ah 0 (p.be.length - 1)&&bY e.bk 1 2):=by unfold e5;simp[h]
theorem Ky {p:az} {e:Event} (h:e.op=7):e5 p e=(decide (e.ah=0)&&decide (e.bk=0)):=by unfold e5;simp[h]
theorem KA {p:az} {e:Event} (h1: ¬(e.op=1∨e.op=2)) (aO: ¬(e.op=3∨e.op=4)) (cb:e.op≠5) (cE:e.op≠6) (gF:e.op≠7):e5 p e=false:=by unfold e5;rw[if_neg h1,if_neg aO,if_neg cb,if_neg cE,if_neg gF]
theorem qa (x y:Int):(x==y)=decide (x=y):=by rw[Bool.eq_iff_iff];simp
theorem I7 (n:Int) (e:Event):qE n e=bY e.ah 0 (n - 1):=by
 unfold qE bY
 rw[Bool.eq_iff_iff];simp;omega
theorem aaO (p:az):((hJ p).code==0)=ek p:=by
 have key:(hJ p).code=0→(hJ p).pos=0:=by
  unfold hJ xe xf oX
  split
  ·split
   ·intro h;cases h
   ·split
    ·intro h;cases h
    ·split
     ·split
      ·intro h;cases h
      ·split
       ·intro h;cases h
       ·intro _;rfl
     ·intro h;cases h
  ·intro h;cases h
 unfold ek
 rw[Bool.eq_iff_iff]
 simp only[beq_iff_eq,decide_eq_true_eq]
 constructor
 ·intro h
  have:=key h
  cases aj:hJ p with
  | mk c q=>rw[aj] at h this;simp at h this;rw[h,this]
 ·intro h;rw[h]
theorem aaN (p:az):((hJ p).code==0&&(hJ p).pos==0)=ek p:=by
 unfold ek
 rw[Bool.eq_iff_iff]
 simp only[Bool.and_eq_true,beq_iff_eq,decide_eq_true_eq]
 constructor
 ·rintro⟨h1,h2⟩
  cases aj:hJ p with
  | mk c q=>rw[aj] at h1 h2;simp at h1 h2;rw[h1,h2]
 ·intro h;rw[h];exact⟨rfl,rfl⟩
theorem aaL {p:az} (h:ek p=true):kN p=true:=by
 cases hb:kN p with
 | true=>rfl
 | false=>unfold ek at h;rw[GU hb] at h;simp at h
def hM (f:Frame):Prop:=f.au.length≤1048576∧f.an.length≤1048576∧f.O.length≤1048576∧ ∀h∈f.O,h.ac.length≤1048576
structure sn (p:az):Prop where
 cZ:0≤p.ai∧p.ai≤60
 O:p.O.length≤100
 sw:p.be.length≤40
 ai: ∀w∈p.O,w.ai≠[]∧w.ai.length≤30∧ ∀x∈w.ai,0≤x∧x<p.ai
 cO: ∀w∈p.O,w.cO.length≤30∧ ∀x∈w.cO,0≤x∧x<p.ai
 cJ: ∀w∈p.O,w.cJ.length≤30∧ ∀x∈w.cJ,0≤x∧x<p.ai
 a2: ∀w∈p.O,w.a2.length≤30∧w.bw.length≤30∧ ∀x∈bu w,0≤x.sw∧x.sw<p.be.length
 be: ∀x∈p.be,0≤x∧x<p.ai
structure ig (p:az) (f:Frame):Prop where
 au:(f.au.length:Int)=p.ai
 an:f.an.length=p.be.length
 O:f.O.length=p.O.length
 ac: ∀(i:Nat) (h:ad) (w:Way),f.O[i]?=some h→p.O[i]?=some w→h.ac.length=w.ai.length
 af: ∀h∈f.O,0≤h.af∧h.af≤h.ac.length
def dT (f:Frame) (x:Int):Bool:=nth f.au x
def gK (f:Frame) (l:List Int):Bool:=l.any (dT f)
def vc (f:Frame) (l:List Int):Prop:= ∀x∈l,0≤x∧x<f.au.length
def gf (p:az) (f:Frame) (i:Int):Bool:=
 (bu (nth p.O i)).all (fun l=>decide (nth f.an l.sw=⟨l.bk,l.bk⟩))&& !gK f (nth p.O i).ai&& !gK f (nth p.O i).cO
def xh (p:az) (f:Frame) (i:Int):Prop:=sn p∧ig p f∧0≤i∧i<p.O.length
def ik (n:Nat):ad:=⟨0,0,List.replicate n false,false,0⟩
def bQ (p:az) (i:Int):ad:=ik (nth p.O i).ai.length
def yZ (p:az) (i:Int):Prop:=sn p∧0≤i∧i<p.O.length
def f_ (s:List Int) (f:Frame) (ac:List Bool):Nat→Nat→Nat
 | 0,g=>g
 | n+1,g=>if g<s.length∧ac.getD g false=true∧dT f (s.getD g 0)=false∧(g+1=s.length∨ac.getD (g+1) false=true) then f_ s f ac n (g+1) else g
def hI (s:List Int) (f:Frame) (h:ad):ad:=
 let ac:=List.zipWith (fun b x=>b || dT f x) h.ac s
 let g:=f_ s f ac s.length h.af.toNat
 if g=s.length then ik s.length else{h with ac:=ac,af:=g}
def l8 (p:az) (f:Frame) (i:Nat):ad:=
 let h:=nth f.O i
 let s:=(nth p.O i).ai
 if h.aq=0 then h else
 let h:=if h.aq≠4∧dT f (nth s 0)=true then{h with aq:=4,ar:=0} else h
 let h:=if h.aq=1∨h.aq=2 then(if gf p f i=true then{h with aq:=2,ap:=true} else{h with aq:=1}) else h
 if h.aq=4 then hI s f h else h
def iu (p:az):Nat→Frame→Frame
 | 0,f=>f
 | n+1,f=>let g:=iu p n f;{g with O:=g.O.set n (l8 p g n)}
def ee (p:az) (f:Frame):Frame:=iu p f.O.length f
def tq (p:az) (f:Frame):Prop:=sn p∧ig p f
structure dl (V:List ad) (ids:List Nat) (v:Int) (h:ad) (ws:List ad) (bs:List (List Bool)):Prop where
 ok:j_ ws ids bs
 kM: ∀i j k:Nat,ids[i]?=some k→ids[j]?=some k→i=j
 lt:v.toNat<ws.length
 gV:view ws ids bs=V.set v.toNat h
 len: ∀b∈bs,b.length≤1048576
section
variable {V:List ad} {ids:List Nat} {v:Int} {h:ad} {ws:List ad} {bs:List (List Bool)}
theorem dl.fy (F:dl V ids v h ws bs):ws.length=ids.length∧v.toNat<ws.length:=⟨F.ok.len,F.lt⟩
theorem dl.tw (F:dl V ids v h ws bs):V.length=ws.length:=by
 have:=congrArg List.length F.gV
 rw[ja F.ok,List.length_set] at this;exact this.symm
theorem dl.id (F:dl V ids v h ws bs):ids[v.toNat]?=some (nth ids v):=gS (by rw[←F.ok.len];exact F.lt)
theorem dl.qC (F:dl V ids v h ws bs):nth ids v<bs.length:=F.ok.lt _ _ F.id
theorem dl.row (F:dl V ids v h ws bs):h={nth ws v with ac:=bs.getD (nth ids v) []}:=by
 have h1:=xK (bs:=bs) (gS F.lt) F.id
 rw[F.gV,List.getElem?_set_self (by rw[F.tw];exact F.lt)] at h1
 exact Option.some.inj h1
theorem dl.aq (F:dl V ids v h ws bs):(nth ws v).aq=h.aq:=by rw[F.row]
theorem dl.af (F:dl V ids v h ws bs):(nth ws v).af=h.af:=by rw[F.row]
theorem dl.ap (F:dl V ids v h ws bs):(nth ws v).ap=h.ap:=by rw[F.row]
theorem dl.ar (F:dl V ids v h ws bs):(nth ws v).ar=h.ar:=by rw[F.row]
theorem dl.ac (F:dl V ids v h ws bs):bs.getD (nth ids v) []=h.ac:=by rw[F.row]
theorem dl.qb (F:dl V ids v h ws bs):(nth ws v).ac.length=h.ac.length:=by
 rw[←F.ac];exact F.ok.ac _ _ _ (gS F.lt) F.id
theorem dl.start (ok:j_ ws ids bs) (kM: ∀i j k:Nat,ids[i]?=some k→ids[j]?=some k→i=j) (lt:v.toNat<ws.length) (gV:view ws ids bs=V) (len: ∀b∈bs,b.length≤1048576):dl V ids v (nth V v) ws bs:=by
 have aL:v.toNat<V.length:=by rw[←gV,ja ok];exact lt
 exact⟨ok,kM,lt,by rw[gV,gH aL];exact(List.set_getElem_self _).symm,len⟩
theorem dl.qX (F:dl V ids v h ws bs) (x:ad) (hx:x.ac.length=h.ac.length):dl V ids v {x with ac:=h.ac} (ws.set v.toNat x) bs where
 ok:=⟨by rw[List.length_set];exact F.ok.len,F.ok.lt,fun i id y h1 h2=>by
  rw[List.getElem?_set] at h1
  split at h1
  ·rename_i e;subst e
   rw[if_pos F.lt] at h1;cases h1
   rw[F.id] at h2;cases h2
   rw[hx,F.ac]
  ·exact F.ok.ac i id y h1 h2⟩
 kM:=F.kM
 lt:=by rw[List.length_set];exact F.lt
 gV:=by
  apply List.ext_getElem?
  intro j
  have aM:=congrArg (·[j]?) F.gV
  simp only[view,List.getElem?_zipWith,List.getElem?_set] at aM ⊢
  by_cases e:v.toNat=j
  ·subst e
   have hv:=F.tw
   have:=F.lt
   rw[if_pos rfl,if_pos rfl,if_pos this,if_pos (by omega),F.id]
   show some _=some _
   rw[F.ac]
  ·rw[if_neg e] at aM ⊢
   rw[if_neg e];exact aM
 len:=F.len
theorem dl.setState (F:dl V ids v h ws bs) (x:Int):dl V ids v {h with aq:=x} (ws.set v.toNat ({aq:=x,af:=(nth ws v).af,ac:=(nth ws v).ac,ap:=(nth ws v).ap,ar:=(nth ws v).ar}:ad)) bs:=by
 have:=F.qX ({aq:=x,af:=(nth ws v).af,ac:=(nth ws v).ac,ap:=(nth ws v).ap,ar:=(nth ws v).ar}:ad) F.qb
 simpa only[F.af,F.ap,F.ar] using this
theorem dl.PG (F:dl V ids v h ws bs) (x:Int):dl V ids v {h with af:=x} (ws.set v.toNat ({aq:=(nth ws v).aq,af:=x,ac:=(nth ws v).ac,ap:=(nth ws v).ap,ar:=(nth ws v).ar}:ad)) bs:=by
 have:=F.qX ({aq:=(nth ws v).aq,af:=x,ac:=(nth ws v).ac,ap:=(nth ws v).ap,ar:=(nth ws v).ar}:ad) F.qb
 simpa only[F.aq,F.ap,F.ar] using this
theorem dl.PK (F:dl V ids v h ws bs) (x:Bool):dl V ids v {h with ap:=x} (ws.set v.toNat ({aq:=(nth ws v).aq,af:=(nth ws v).af,ac:=(nth ws v).ac,ap:=x,ar:=(nth ws v).ar}:ad)) bs:=by
 have:=F.qX ({aq:=(nth ws v).aq,af:=(nth ws v).af,ac:=(nth ws v).ac,ap:=x,ar:=(nth ws v).ar}:ad) F.qb
 simpa only[F.aq,F.af,F.ar] using this
theorem dl.xy (F:dl V ids v h ws bs) (x:Int):dl V ids v {h with ar:=x} (ws.set v.toNat ({aq:=(nth ws v).aq,af:=(nth ws v).af,ac:=(nth ws v).ac,ap:=(nth ws v).ap,ar:=x}:ad)) bs:=by
 have:=F.qX ({aq:=(nth ws v).aq,af:=(nth ws v).af,ac:=(nth ws v).ac,ap:=(nth ws v).ap,ar:=x}:ad) F.qb
 simpa only[F.aq,F.af,F.ap] using this
theorem dl.HA (F:dl V ids v h ws bs) (b:List Bool) (hb:b.length=h.ac.length):dl V ids v {h with ac:=b} ws (bs.set (nth ids v) b) where
 ok:=⟨F.ok.len,fun i id hi=>by rw[List.length_set];exact F.ok.lt i id hi,fun i id y h1 h2=>by
  rw[F.ok.ac i id y h1 h2,List.getD_eq_getElem?_getD,List.getD_eq_getElem?_getD,List.getElem?_set]
  split
  ·rename_i e;subst e
   rw[if_pos F.qC,←List.getD_eq_getElem?_getD,F.ac];exact hb.symm
  ·rfl⟩
 kM:=F.kM
 lt:=F.lt
 gV:=by
  apply List.ext_getElem?
  intro j
  have aM:=congrArg (·[j]?) F.gV
  simp only[view,List.getElem?_zipWith,List.getElem?_set] at aM ⊢
  by_cases e:v.toNat=j
  ·subst e
   have hv:=F.tw
   have:=F.lt
   rw[if_pos rfl,if_pos (by omega),F.id,gS F.lt]
   simp only[List.getD_eq_getElem?_getD,List.getElem?_set,if_pos F.qC]
   rw[F.row];simp
  ·rw[if_neg e] at aM ⊢
   rw[←aM]
   cases h1:ws[j]? with
   | none=>rfl
   | some y=>
    cases h2:ids[j]? with
    | none=>rfl
    | some id=>
     have cm:nth ids v≠id:=fun gP=>by
      have aO:=F.id
      rw[gP] at aO
      exact e (F.kM _ _ _ aO h2)
     simp only[List.getD_eq_getElem?_getD,List.getElem?_set,if_neg cm]
 len:=fun x hx=>by
  rcases List.mem_or_eq_of_mem_set hx with hx | rfl
  ·exact F.len x hx
  ·rw[hb,←F.ac,List.getD_eq_getElem?_getD,List.getElem?_eq_getElem F.qC];exact F.len _ (List.getElem_mem F.qC)
theorem dl.new (F:dl V ids v h ws bs) (x:ad) (hx:x.ac.length≤1048576):dl V (ids.set v.toNat bs.length) v x (ws.set v.toNat x) (bs++[x.ac]) where
 ok:=⟨by rw[List.length_set,List.length_set];exact F.ok.len,fun i id hi=>by
   rw[List.getElem?_set] at hi
   rw[List.length_append,List.length_singleton]
   split at hi
   ·split at hi
    ·cases hi;omega
    ·cases hi
   ·have:=F.ok.lt i id hi;omega,fun i id y h1 h2=>by
   rw[List.getElem?_set] at h1 h2
   split at h1
   ·rename_i e;subst e
    have:=F.ok.len
    have:=F.lt
    rw[if_pos F.lt] at h1;rw[if_pos rfl,if_pos (by omega)] at h2
    cases h1;cases h2;simp
   ·rename_i e
    rw[if_neg e] at h2
    rw[F.ok.ac i id y h1 h2,List.getD_eq_getElem?_getD,List.getD_eq_getElem?_getD,List.getElem?_append_left (F.ok.lt i id h2)]⟩
 kM:=fun i j k hi aM=>by
  rw[List.getElem?_set] at hi aM
  have bc: ∀q,ids[q]?≠some bs.length:=fun q aj=>by have:=F.ok.lt q _ aj;omega
  split at hi
  ·rename_i e;subst e
   split at hi
   ·cases hi
    split at aM
    ·rename_i e;exact e
    ·exact absurd aM (bc j)
   ·cases hi
  ·split at aM
   ·rename_i e;subst e
    split at aM
    ·cases aM;exact absurd hi (bc i)
    ·cases aM
   ·exact F.kM i j k hi aM
 lt:=by rw[List.length_set];exact F.lt
 gV:=by
  apply List.ext_getElem?
  intro j
  have aM:=congrArg (·[j]?) F.gV
  simp only[view,List.getElem?_zipWith,List.getElem?_set] at aM ⊢
  by_cases e:v.toNat=j
  ·subst e
   have hv:=F.tw
   have:=F.lt
   have:=F.ok.len
   rw[if_pos rfl,if_pos rfl,if_pos rfl,if_pos F.lt,if_pos (by omega),if_pos (by omega)]
   simp
  ·rw[if_neg e] at aM ⊢
   rw[if_neg e,if_neg e,←aM]
   cases h1:ws[j]? with
   | none=>rfl
   | some y=>
    cases h2:ids[j]? with
    | none=>rfl
    | some id=>
     simp only
     rw[List.getD_eq_getElem?_getD,List.getD_eq_getElem?_getD,List.getElem?_append_left (F.ok.lt j id h2)]
 len:=fun b hb=>by
  rcases List.mem_append.1 hb with hb | hb
  ·exact F.len b hb
  ·rw[List.mem_singleton.1 hb];exact hx
end
theorem v9 (ws:List ad):j_ ws (List.range ws.length) (ws.map ad.ac)∧(∀i j k:Nat,(List.range ws.length)[i]?=some k→(List.range ws.length)[j]?=some k→i=j)∧view ws (List.range ws.length) (ws.map ad.ac)=ws:=by
 refine⟨⟨by simp,fun i id h=> ?_,fun i id h h1 h2=> ?_⟩,fun i j k h1 h2=> ?_,?_⟩
 ·obtain⟨hi,rfl⟩:=List.getElem?_eq_some_iff.1 h
  simpa using hi
 ·obtain⟨hi,rfl⟩:=List.getElem?_eq_some_iff.1 h2
  simp[h1]
 ·obtain⟨hi,rfl⟩:=List.getElem?_eq_some_iff.1 h1
  obtain⟨aM,e⟩:=List.getElem?_eq_some_iff.1 h2
  simpa using e.symm
 ·apply List.ext_getElem?
  intro j
  unfold view
  rw[List.getElem?_zipWith]
  rcases Nat.lt_or_ge j ws.length with aM | aM
  ·rw[List.getElem?_range aM,List.getElem?_eq_getElem aM]
   simp[aM]
  ·rw[List.getElem?_eq_none aM]
theorem qY (p:az) (f:Frame): ∀n,(iu p n f).ok=f.ok∧(iu p n f).au=f.au∧(iu p n f).an=f.an
 | 0=>⟨rfl,rfl,rfl⟩
 | n+1=>qY p f n
theorem Ez {s:List Int} {f:Frame} {ac:List Bool}: ∀(n g:Nat),g≤s.length→g≤f_ s f ac n g∧f_ s f ac n g≤s.length
 | 0,g,h=>⟨Nat.le_refl _,h⟩
 | n+1,g,h=>by
  unfold f_
  split
  ·rename_i hc
   have:=Ez (f:=f) (ac:=ac) n (g+1) hc.1
   exact⟨by omega,this.2⟩
  ·exact⟨Nat.le_refl _,h⟩
theorem aaB {s:List Int} {f:Frame} {h:ad} (hb:h.ac.length=s.length) (hg:0≤h.af∧h.af≤h.ac.length):(hI s f h).ac.length=s.length∧0≤(hI s f h).af∧(hI s f h).af≤(hI s f h).ac.length:=by
 unfold hI
 simp only
 have aL:(List.zipWith (fun b x=>b || dT f x) h.ac s).length=s.length:=by rw[List.length_zipWith];omega
 have bV:=(Ez (s:=s) (f:=f) (ac:=List.zipWith (fun b x=>b || dT f x) h.ac s) s.length h.af.toNat (by omega)).2
 split
 ·simp[ik]
 ·exact⟨aL,Int.natCast_nonneg _,by simp only;rw[aL];omega⟩
theorem aeM {p:az} {f:Frame} {i:Nat} (hb:(nth f.O i).ac.length=(nth p.O i).ai.length) (hg:0≤(nth f.O i).af∧(nth f.O i).af≤(nth f.O i).ac.length):
  (l8 p f i).ac.length=(nth p.O i).ai.length∧0≤(l8 p f i).af∧(l8 p f i).af≤(l8 p f i).ac.length:=by
 unfold l8
 simp only
 split
 ·exact⟨hb,hg⟩
 ·have h1: ∀(c:Prop) [Decidable c] (x y:ad),x.ac=y.ac→x.af=y.af→(if c then x else y).ac=y.ac∧(if c then x else y).af=y.af:=fun c _ x y bx e2=>by
   split
   ·exact⟨bx,e2⟩
   ·exact⟨rfl,rfl⟩
  generalize iA:(if(nth f.O i).aq≠4∧dT f (nth (nth p.O i).ai 0)=true then{nth f.O i with aq:=4,ar:=0} else nth f.O i)=A
  have mN:A.ac=(nth f.O i).ac∧A.af=(nth f.O i).af:=by rw[←iA];exact h1 _ _ _ rfl rfl
  generalize ed:(if A.aq=1∨A.aq=2 then(if gf p f i=true then{A with aq:=2,ap:=true} else{A with aq:=1}) else A)=B
  have EC:B.ac=(nth f.O i).ac∧B.af=(nth f.O i).af:=by
   rw[←ed,←mN.1,←mN.2]
   exact h1 _ _ _ (by split<;>rfl) (by split<;>rfl)
  have bx:B.ac.length=(nth p.O i).ai.length:=by rw[EC.1];exact hb
  have e2:0≤B.af∧B.af≤B.ac.length:=by rw[EC.1,EC.2];exact hg
  split
  ·exact aaB bx e2
  ·exact⟨bx,e2⟩
theorem zO {p:az} {f:Frame} (h:ig p f): ∀n,ig p (iu p n f)
 | 0=>h
 | n+1=>by
  have bR:=zO h n
  show ig p {iu p n f with O:=(iu p n f).O.set n (l8 p (iu p n f) n)}
  have key:n<(iu p n f).O.length→(l8 p (iu p n f) n).ac.length=(nth p.O n).ai.length∧0≤(l8 p (iu p n f) n).af∧(l8 p (iu p n f) n).af≤(l8 p (iu p n f) n).ac.length:=fun aF=>by
   have hw:=bR.O
   have h1:(iu p n f).O[n]?=some (nth (iu p n f).O n):=by rw[iT aF];exact List.getElem?_eq_getElem aF
   have h2:p.O[n]?=some (nth p.O n):=by rw[iT (by omega)];exact List.getElem?_eq_getElem (by omega)
   exact aeM (bR.ac n _ _ h1 h2) (bR.af _ (List.mem_of_getElem? h1))
  refine⟨bR.au,bR.an,by rw[List.length_set];exact bR.O,fun i x w h1 h2=> ?_,fun x hx=> ?_⟩
  ·replace h1:((iu p n f).O.set n (l8 p (iu p n f) n))[i]?=some x:=h1
   rw[List.getElem?_set] at h1
   split at h1
   ·rename_i e;subst e
    split at h1
    ·rename_i aF
     cases h1
     have hw:=bR.O
     rw[(key aF).1,iT (by omega)]
     rw[List.getElem?_eq_getElem (by omega)] at h2
     cases h2;rfl
    ·cases h1
   ·exact bR.ac i x w h1 h2
  ·rcases List.mem_or_eq_of_mem_set hx with hx | rfl
   ·exact bR.af x hx
   ·by_cases aF:n<(iu p n f).O.length
    ·exact(key aF).2
    ·rw[List.set_eq_of_length_le (by omega)] at hx
     exact bR.af _ hx
theorem o3 (p:az) (f:Frame): ∀n,(iu p n f).O.length=f.O.length
 | 0=>rfl
 | n+1=>by show((iu p n f).O.set n _).length=_;rw[List.length_set];exact o3 p f n
theorem G2 {p:az} {f g:Frame} {i:Int} (h1:f.au=g.au) (h2:f.an=g.an):gf p f i=gf p g i:=by
 unfold gf gK dT
 rw[h1,h2]
def j5 (s:List Int) (f:Frame) (b:List Bool) (v:Nat):List Bool:=List.zipWith (fun b x=>b || dT f x) (b.take v) (s.take v)++b.drop v
theorem Je {s:List Int} {f:Frame} {b:List Bool} {v:Nat} (aL:b.length=s.length) (hv:v≤s.length):(j5 s f b v).length=b.length:=by
 unfold j5
 rw[List.length_append,List.length_zipWith,List.length_take,List.length_take,List.length_drop];omega
theorem Sr (s:List Int) (f:Frame) (b:List Bool):j5 s f b 0=b:=by simp[j5]
theorem Su {s:List Int} {f:Frame} {b:List Bool} {v:Nat} (aL:b.length=s.length) (hv:s.length≤v):j5 s f b v=List.zipWith (fun b x=>b || dT f x) b s:=by
 unfold j5
 rw[List.take_of_length_le (by omega),List.take_of_length_le hv,List.drop_of_length_le (by omega),List.append_nil]
theorem Ss {s:List Int} {f:Frame} {b:List Bool} {v:Nat} (aL:b.length=s.length) (hv:v<s.length):nth (j5 s f b v) v=b[v]:=by
 rw[iT (by rw[Je aL (by omega)];omega)]
 unfold j5
 rw[List.getElem_append_right (by rw[List.length_zipWith,List.length_take,List.length_take];omega)]
 simp only[List.length_zipWith,List.length_take,List.getElem_drop]
 congr 1;omega
theorem Sv {s:List Int} {f:Frame} {b:List Bool} {v:Nat} (aL:b.length=s.length) (hv:v<s.length):(j5 s f b v).set v (b[v] || dT f s[v])=j5 s f b (v+1):=by
 unfold j5
 have hlen:(List.zipWith (fun b x=>b || dT f x) (b.take v) (s.take v)).length=v:=by rw[List.length_zipWith,List.length_take,List.length_take];omega
 rw[List.set_append_right _ _ (by omega),hlen,Nat.sub_self,List.take_succ_eq_append_getElem (by omega),List.take_succ_eq_append_getElem hv,List.zipWith_append (by rw[List.length_take,List.length_take];omega),List.append_assoc]
 congr 1
 rw[List.drop_eq_getElem_cons (by omega:v<b.length)]
 rfl
def nj (s:List Int) (f:Frame) (ac:List Bool) (g:Int):Bool:=
 decide (g<(s.length:Int))&&(nth ac g&&((!(nth f.au (nth s g)))&&((g==IntKind.i64.wrap ((s.length:Int) - 1)) || nth ac (IntKind.i64.wrap (g+1)))))
theorem Lb {s:List Int} {f:Frame} {ac:List Bool} {g:Nat} (hs:s.length≤1048576) (hg:g≤s.length):
  nj s f ac g=true↔g<s.length∧ac.getD g false=true∧dT f (s.getD g 0)=false∧(g+1=s.length∨ac.getD (g+1) false=true):=by
 unfold nj
 rw[fm (by omega) (by omega),fm (by omega) (by omega)]
 have bx:nth ac (g:Int)=ac.getD g false:=rfl
 have e2:nth ac ((g:Int)+1)=ac.getD (g+1) false:=rfl
 have dS:nth s (g:Int)=s.getD g 0:=rfl
 rw[bx,e2,dS]
 simp only[Bool.and_eq_true,Bool.or_eq_true,decide_eq_true_eq,Bool.not_eq_true',beq_iff_eq]
 constructor
 ·rintro⟨h1,h2,aO,bb⟩;exact⟨by omega,h2,aO,bb.imp (fun h=>by omega) _root_.id⟩
 ·rintro⟨h1,h2,aO,bb⟩;exact⟨by omega,h2,aO,bb.imp (fun h=>by omega) _root_.id⟩
def wh (s:List Int) (f:Frame) (ac:List Bool) (bt g:Int):Prop:=0≤g∧g≤s.length∧f_ s f ac s.length bt.toNat=f_ s f ac (s.length - g.toNat) g.toNat
theorem A9 {s:List Int} {f:Frame} {ac:List Bool} {n g:Nat} (h: ¬(g<s.length∧ac.getD g false=true∧dT f (s.getD g 0)=false∧(g+1=s.length∨ac.getD (g+1) false=true))):f_ s f ac n g=g:=by
 cases n with
 | zero=>rfl
 | succ n=>unfold f_;rw[if_neg h]
theorem Lf {s:List Int} {f:Frame} {ac:List Bool}: ∀(n m g:Nat),s.length≤n+g→s.length≤m+g→f_ s f ac n g=f_ s f ac m g
 | 0,m,g,h1,h2=>by
  rw[A9 (n:=m) fun h=>by omega];rfl
 | n+1,0,g,h1,h2=>by rw[A9 (n:=n+1) fun h=>by omega];rfl
 | n+1,m+1,g,h1,h2=>by
  unfold f_
  split
  ·exact Lf n m (g+1) (by omega) (by omega)
  ·rfl
theorem Lc {s:List Int} {f:Frame} {ac:List Bool} {g:Int} (aT:0≤g) (h1:g≤s.length):wh s f ac g g:=⟨aT,h1,Lf _ _ _ (by omega) (by omega)⟩
theorem Ld {s:List Int} {f:Frame} {ac:List Bool} {bt g:Int} (hs:s.length≤1048576) (h:wh s f ac bt g) (hc:nj s f ac g=true):wh s f ac bt (IntKind.i64.wrap (g+1))∧g<s.length:=by
 obtain⟨aT,h1,h2⟩:=h
 obtain⟨k,rfl⟩:=Int.eq_ofNat_of_zero_le aT
 have hc:=(Lb hs (by omega)).1 hc
 rw[fm (by omega) (by omega)]
 refine⟨⟨by omega,by omega,?_⟩,by omega⟩
 rw[h2]
 simp only[Int.toNat_natCast]
 rw[show((k:Int)+1).toNat=k+1 by omega,show s.length - k=(s.length - (k+1))+1 by omega]
 conv=>lhs;unfold f_
 rw[if_pos hc]
theorem Ey {s:List Int} {f:Frame} {ac:List Bool} {bt g:Int} (hs:s.length≤1048576) (h:wh s f ac bt g) (hc:nj s f ac g=false):(f_ s f ac s.length bt.toNat:Int)=g:=by
 obtain⟨aT,h1,h2⟩:=h
 obtain⟨k,rfl⟩:=Int.eq_ofNat_of_zero_le aT
 rw[h2]
 simp only[Int.toNat_natCast]
 rw[A9 fun bV=>by rw[(Lb hs (by omega)).2 bV] at hc;cases hc]
def HC (p:az) (f:Frame) (bs:List (List Bool)) (ids:List Nat) (v:Int) (ws:List ad):Prop:=
 cv f.O.length (fun _=>false) v∧j_ ws ids bs∧(∀i j k:Nat,ids[i]?=some k→ids[j]?=some k→i=j)∧view ws ids bs=(iu p v.toNat f).O∧ ∀b∈bs,b.length≤1048576
def dO (p:az) (f:Frame) (v:Int):Frame:=iu p v.toNat f
def cZ (p:az) (v:Int):List Int:=(nth p.O v).ai
def hX (p:az) (f:Frame) (v:Int):ad:=
 let G:=dO p f v
 let h:=nth G.O v
 if h.aq≠4∧dT G (nth (cZ p v) 0)=true then{h with aq:=4,ar:=0} else h
def gA (p:az) (f:Frame) (v:Int):ad:=
 let h:=hX p f v
 if h.aq=1∨h.aq=2 then(if gf p (dO p f v) v=true then{h with aq:=2,ap:=true} else{h with aq:=1}) else h
def p_ (p:az) (f:Frame) (v:Int):List Bool:=List.zipWith (fun b x=>b || dT (dO p f v) x) (gA p f v).ac (cZ p v)
theorem Sb {p:az} {f:Frame} {v:Int} (aT:0≤v):l8 p (dO p f v) v.toNat=if(nth (dO p f v).O v).aq=0 then nth (dO p f v).O v else if(gA p f v).aq=4 then hI (cZ p v) (dO p f v) (gA p f v) else gA p f v:=by
 unfold l8 gA hX cZ
 rw[iU aT,iU aT,Int.toNat_of_nonneg aT]
theorem s9 {p:az} {f:Frame} {v:Int}:(hX p f v).ac=(nth (dO p f v).O v).ac∧(hX p f v).af=(nth (dO p f v).O v).af:=by
 unfold hX;simp only;split<;>exact⟨rfl,rfl⟩
theorem Cf {p:az} {f:Frame} {v:Int}:(gA p f v).ac=(nth (dO p f v).O v).ac∧(gA p f v).af=(nth (dO p f v).O v).af:=by
 rw[←s9.1,←s9.2]
 unfold gA;simp only;split
 ·split<;>exact⟨rfl,rfl⟩
 ·exact⟨rfl,rfl⟩
theorem u9 {p:az} {f:Frame} {v:Int} {h:ad} {ws:List ad} {ids:List Nat} {bs:List (List Bool)} (aF:(f.O.length:Int)≤4611686018427387904) (aX:cv f.O.length (fun _=>false) v) (hv:decide (v<(f.O.length:Int))=true)
  (F:dl (dO p f v).O ids v h ws bs) (bV:h=l8 p (dO p f v) v.toNat):HC p f bs ids (IntKind.i64.wrap (v+1)) ws∧cG f.O.length (IntKind.i64.wrap (v+1))<cG f.O.length v:=by
 have bj:=c0 aF aX hv rfl
 refine⟨⟨bj.1,F.ok,F.kM,?_,F.len⟩,bj.2⟩
 have aT:=aX.1
 have hv:v<(f.O.length:Int):=by simpa using hv
 rw[jM aF aT hv,show(v+1).toNat=v.toNat+1 by omega,F.gV,bV]
 rfl
def BI (j:Int) (k:Bool) (o:List Bool) (q:List bd) (w:List ad) (i:List Nat) (b:List (List Bool)):Prop:=gr w i b∧0≤j∧j<w.length
def uz (j:Int) (k:Bool) (o:List Bool) (q:List bd) (w:List ad) (i:List Nat) (b:List (List Bool)) (lu:List Bool) (ta:List bd) (w':List ad) (iP:List Nat) (cl:List (List Bool)):Prop:=
 gr w' iP cl∧view w' iP cl=(view w i b).set j.toNat (ik (nth (view w i b) j).ac.length)
def c4 (k:Bool) (o:List Bool) (q:List bd) (w:List ad) (i:List Nat) (b:List (List Bool)):Frame:=⟨k,o,q,view w i b⟩
def OB (s:Way) (j:Int) (k:Bool) (o:List Bool) (q:List bd) (w:List ad) (i:List Nat) (b:List (List Bool)):Prop:=
 gr w i b∧0≤j∧j<w.length∧s.ai.length≤1048576∧(∀x∈s.ai,0≤x∧x<o.length)∧(nth (view w i b) j).ac.length=s.ai.length∧0≤(nth (view w i b) j).af∧(nth (view w i b) j).af≤s.ai.length
def zm (s:Way) (j:Int) (k:Bool) (o:List Bool) (q:List bd) (w:List ad) (i:List Nat) (b:List (List Bool)) (lu:List Bool) (ta:List bd) (w':List ad) (iP:List Nat) (cl:List (List Bool)):Prop:=
 gr w' iP cl∧view w' iP cl=(view w i b).set j.toNat (hI s.ai (c4 k o q w i b) (nth (view w i b) j))
def HD (p:az) (k:Bool) (o:List Bool) (q:List bd) (w:List ad) (i:List Nat) (b:List (List Bool)):Prop:=gr w i b∧tq p (c4 k o q w i b)
def zM (p:az) (k:Bool) (o:List Bool) (q:List bd) (w:List ad) (i:List Nat) (b:List (List Bool)) (lu:List Bool) (ta:List bd) (w':List ad) (iP:List Nat) (cl:List (List Bool)):Prop:=
 gr w' iP cl∧view w' iP cl=(ee p (c4 k o q w i b)).O
def PD (f g:Frame):Prop:=f.O.length=g.O.length∧hM f∧hM g∧ ∀(i:Nat) (x y:ad),f.O[i]?=some x→g.O[i]?=some y→x.ac.length=y.ac.length
def oq (f g:Frame):Bool:=decide (f.O=g.O)
def Lz (p:az) (f:Frame) (i:Int):Prop:=sn p∧hM f∧f.O.length=p.O.length∧0≤i∧i<p.O.length
def ha (p:az) (f:Frame) (i:Int):Bool:=
 let h:=nth f.O i
 let n:=(nth p.O i).ai.length
 bY h.aq 0 4&&decide (h.ac.length=n)&&bY h.af 0 ((n:Int) - 1)&&(decide (h.aq=4) || (decide (h.af=0)&&h.ac.all (fun b=> !b)))&&(h.ac.take h.af.toNat).all (fun b=>b)&&
 (if h.aq=3 then h.ap&&bY h.ar 1 p.dn else decide (h.ar=0)&&(decide (h.aq≠0) || !h.ap)&&(decide (h.aq≠2) || h.ap))
def De (p:az) (f:Frame):Bool:=(List.range f.O.length).all fun i=>(List.range f.O.length).all fun k=>decide (i=k) || !rk p i k || decide ((nth f.O i).aq=0) || decide ((nth f.O k).aq=0)
def dy (p:az) (f:Frame):Bool:=
 ek p&&f.ok&&decide ((f.au.length:Int)=p.ai)&&decide (f.an.length=p.be.length)&&decide (f.O.length=p.O.length)&&
 f.an.all (fun x=>bY x.cC 1 2&&bY x.a2 0 2)&&(List.range f.O.length).all (fun i=>ha p f i)&&De p f&&oq f (ee p f)
def rC (p:az) (f:Frame):Prop:=hM f
theorem wl {xs:List Bool} {b:Bool}:jS xs b=true↔b∈xs:=by unfold jS;simp
theorem XX (xs:List Bool) (x:Bool):(decide (rU xs x ≥ 0))=jS xs x:=by
 unfold rU
 cases h:first xs (fun y=>x==y) with
 | none=>
  unfold first at h
  rw[List.findIdx?_eq_none_iff] at h
  have:jS xs x=false:=by
   rw[←Bool.not_eq_true,wl]
   intro hm
   have:=h x hm
   simp at this
  rw[this];rfl
 | some i=>
  unfold first at h
  rw[List.findIdx?_eq_some_iff_getElem] at h
  obtain⟨hi,hx,_⟩:=h
  have:jS xs x=true:=by
   rw[wl]
   have hx:x=xs[i]:=by simpa using hx
   rw[hx];exact List.getElem_mem hi
  rw[this]
  show decide ((i:Int) ≥ 0)=true
  simp
def u5 (a b:Frame):Bool:=eqv a.au b.au&&eqv a.an b.an&&eqv a.O b.O
def v0 (a b:List ad) (_:Unit):Bool:=eqv a b
def qH (f:Frame) (l:cx):Bool:=((nth f.an l.sw).cC !=l.bk) || ((nth f.an l.sw).a2 !=l.bk)
def OQ (p:az) (f:Frame) (i:Int):Prop:= ∀l∈bu (nth p.O i),qH f l=false
theorem G1 (p:az) (f:Frame) (i:Int):gf p f i=((bu (nth p.O i)).all (fun l=> !qH f l)&& !gK f (nth p.O i).ai&& !gK f (nth p.O i).cO):=by
 have aj: ∀l:cx,decide (nth f.an l.sw=⟨l.bk,l.bk⟩)= !qH f l:=fun l=>by
  unfold qH
  rcases nth f.an l.sw with⟨x,y⟩
  rw[Bool.eq_iff_iff];simp
 unfold gf
 simp only[aj]
theorem Jc {α:Type} {x y:α} {v:Int} (aT:0≤v) (h1:v.toNat<[x,y].length):v=0∨v=1:=by simp at h1;omega
theorem gr.oE {w:List ad} {i:List Nat} {b:List (List Bool)} {j:Int} (F:gr w i b) (h:j.toNat<w.length):dl (view w i b) i j (nth (view w i b) j) w b:=dl.start F.ok F.kM h rfl F.len
section
variable {V:List ad} {ids dd:List Nat} {v:Int} {h x:ad} {ws ku:List ad} {bs me:List (List Bool)}
theorem dl.G (F:dl V ids v h ws bs):gr ws ids bs:=⟨F.ok,F.kM,F.len⟩
theorem dl.w6 (F:dl V ids v h ws bs):nth (view ws ids bs) v=h:=by
 rw[gH (by rw[ja F.ok];exact F.lt)]
 simp only[F.gV,List.getElem_set_self]
theorem dl.again (F:dl V ids v h ws bs) (G:gr ku dd me) (e:view ku dd me=(view ws ids bs).set v.toNat x):dl V dd v x ku me where
 ok:=G.ok
 kM:=G.kM
 lt:=by
  have:=congrArg List.length e
  rw[ja G.ok,List.length_set,ja F.ok] at this
  have:=F.lt;omega
 gV:=by rw[e,F.gV,List.set_set]
 len:=G.len
end
theorem OA {s:List Int} {f g:Frame} {h:ad} (e:f.au=g.au):hI s f h=hI s g h:=by
 have aC:dT f=dT g:=by funext x;unfold dT;rw[e]
 have hg: ∀(ac:List Bool) (n q:Nat),f_ s f ac n q=f_ s g ac n q:=fun ac n=>by
  induction n with
  | zero=>intro q;rfl
  | succ n bR=>intro q;unfold f_;rw[aC,bR]
 unfold hI
 simp only[aC,hg]
def nt (s:List Int) (f:Frame) (h:ad):List Bool:=List.zipWith (fun b x=>b || dT f x) h.ac s
theorem Oz (s:List Int) (f:Frame) (h:ad):hI s f h=if f_ s f (nt s f h) s.length h.af.toNat=s.length then ik s.length else{h with ac:=nt s f h,af:=f_ s f (nt s f h) s.length h.af.toNat}:=rfl
def aaD (s:List Int) (f:Frame) (V:List ad) (ids:List Nat) (j:Int) (ws:List ad) (bs:List (List Bool)) (k:Int):Prop:=
 cv s.length (fun _=>false) k∧dl V ids j {nth V j with ac:=j5 s f (nth V j).ac k.toNat} ws bs
def aaE (s:List Int) (f:Frame) (V:List ad) (ids:List Nat) (j:Int) (bs:List (List Bool)) (ws:List ad):Prop:=
 ∃g,wh s f (nt s f (nth V j)) (nth V j).af g∧dl V ids j {nth V j with ac:=nt s f (nth V j),af:=g} ws bs
theorem aeU {s:List Int} {f:Frame} {ac:List Bool} {g:Int} (hs:s.length≤1048576) (h:decide (g<(s.length:Int))=true):
  ((!(nth ac g)) || ((nth f.au (nth s g)) || ((decide (g<(IntKind.i64.wrap ((s.length:Int) - 1))))&&(!(nth ac (IntKind.i64.wrap (g+1)))))))= !nj s f ac g:=by
 unfold nj
 rw[h,Bool.true_and,fm (n:=(s.length:Int) - 1) (by omega) (by omega)]
 have:(g==(s.length:Int) - 1)= !decide (g<(s.length:Int) - 1):=by
  have h:g<(s.length:Int):=by simpa using h
  rw[Bool.eq_iff_iff];simp;omega
 rw[this]
 cases nth ac g<;>cases nth f.au (nth s g)<;>cases decide (g<(s.length:Int) - 1)<;>cases nth ac (IntKind.i64.wrap (g+1))<;>rfl
def pf:List (Nat×TV)→Bool
 | []=>true
 | (k,_)::r=>match Nat.ble 1000010 k&&Nat.blt k 1000000000000 with
  | true=>pf r
  | false=>false
theorem Ar {l:List (Nat×TV)} (h:pf l=true) {k:Nat} (hk:k<1000010∨1000000000000≤k): ∀v,(k,v) ∉ l:=by
 induction l with
 | nil=>intro v hv;cases hv
 | cons p r bR=>
  obtain⟨a,w⟩:=p
  unfold pf at h
  split at h
  ·rename_i a4
   rw[Bool.and_eq_true,Nat.blt_eq] at a4
   intro v hv
   rcases List.mem_cons.1 hv with e | hv
   ·cases e;have:=Nat.le_of_ble_eq_true a4.1;have:=a4.2;omega
   ·exact bR h v hv
  ·cases h
def TS.add (s:TS) (l:List (Nat×TV)) (vs:List (Nat×Nat)) (bn:Nat):TS:=⟨l++s.T,s.B,vs,bn⟩
theorem TS.iL (s:TS) (l:List (Nat×TV)) (vs:List (Nat×Nat)) (bn k:Nat):(s.add l vs bn).get k=fU l k (s.get k):=by
 unfold TS.get TS.add;exact r1 ..
theorem x0 {n:Nat} {s:TS} {l:List (Nat×TV)} {vs:List (Nat×Nat)} {bn:Nat} (aF:n≤1000000) (h:pf l=true):(s.add l vs bn).tT n=s.tT n:=by
 show(List.range n).map _=(List.range n).map _
 refine List.map_congr_left fun t bp=> ?_
 have bp:t<n:=List.mem_range.1 bp
 rw[TS.iL,sY (Ar h (.inl (by omega)))]
theorem B1 {s s':TS} (e:s'.get dH=s.get dH):il s'=il s:=by unfold il;rw[e]
theorem IR [FZ] {n:Nat} {s s':TS} (hb:s'.bn=s.bn) (e: ∀b,s'.get (bA b)=s.get (bA b)) (dW:s'.get dH=s.get dH):(s'.aI n).H=(s.aI n).H:=by
 show s'.gn++g0 s'=s.gn++g0 s
 unfold TS.gn g0
 rw[B1 dW,hb]
 simp only[e]
theorem xZ [FZ] {n:Nat} {s:TS} {l:List (Nat×TV)} {vs:List (Nat×Nat)} (h:pf l=true):((s.add l vs s.bn).aI n).H=(s.aI n).H:=
 IR rfl (fun b=>by rw[TS.iL,sY (Ar h (.inr (by unfold bA;omega)))]) (by rw[TS.iL,sY (Ar h (.inl (by unfold dH;omega)))])
theorem x1 [FZ] {s:TS} {l:List (Nat×TV)} {vs:List (Nat×Nat)} {bn:Nat} (h:pf l=true) (f:Fits s):Fits (s.add l vs bn):=
 f.congr fun k _ h2=>by rw[TS.iL,sY (Ar h (.inl h2))]
def tO (v:Nat):Nat→List TV→List (Nat×TV)
 | _,[]=>[]
 | c,a::r=>(eD v c,a)::tO v (c+1) r
def TS.gN (s:TS) (b bn:Nat) (v:TV):TS:=s.add [(bA b,v)] s.vs bn
theorem Dj (s:TS) {b bn:Nat} {v:TV} {k:Nat} (h:k<1000000000000):(s.gN b bn v).get k=s.get k:=by
 unfold TS.gN
 rw[TS.iL,gG,if_neg (by unfold bA;omega)];rfl
theorem qc {n:Nat} {s:TS} {b bn:Nat} {v:TV} (aF:n≤1000000):(s.gN b bn v).tT n=s.tT n:=by
 show(List.range n).map _=(List.range n).map _
 refine List.map_congr_left fun t bp=> ?_
 have bp:t<n:=List.mem_range.1 bp
 rw[Dj s (by omega)]
theorem qd [FZ] {s:TS} {b bn:Nat} {v:TV} (f:Fits s):Fits (s.gN b bn v):=f.congr fun k _ h2=>Dj s (by omega)
theorem JV {s:TS} {b bn:Nat} {v:TV}:il (s.gN b bn v)=il s:=B1 (Dj s (by unfold dH;omega))
theorem JU (s:TS) (b bn:Nat) (v:TV) (cl:Nat):(s.gN b bn v).get (bA cl)=if b=cl then v else s.get (bA cl):=by
 unfold TS.gN
 rw[TS.iL,gG]
 by_cases h:b=cl
 ·subst h;rw[if_pos rfl,if_pos rfl]
 ·rw[if_neg h,if_neg (by unfold bA;omega)];rfl
theorem tK [FZ] {n:Nat} {s:TS} {b:Nat} {v:TV} (h:b<s.bn):((s.gN b s.bn v).aI n).H=(s.aI n).H.set b v.ep:=by
 show(s.gN b s.bn v).gn++g0 (s.gN b s.bn v)=(s.gn++g0 s).set b v.ep
 rw[List.set_append_left _ _ (by rw[m7];exact h)]
 have e2:g0 (s.gN b s.bn v)=g0 s:=by unfold g0;rw[JV]
 rw[e2]
 congr 1
 apply List.ext_getElem?
 intro i
 rw[pX,List.getElem?_set,pX,m7,JU]
 show(if i<s.bn then _ else _)=_
 by_cases hi:b=i
 ·subst hi;simp[h]
 ·simp[hi]
theorem Au [FZ] {n:Nat} {s:TS} {v:TV} (c_:il s=true):((s.gN s.bn (s.bn+1) v).aI n).H=(s.aI n).H++[v.ep]:=by
 show(s.gN s.bn (s.bn+1) v).gn++g0 (s.gN s.bn (s.bn+1) v)=(s.gn++g0 s)++[v.ep]
 unfold g0
 rw[JV,c_]
 show(s.gN s.bn (s.bn+1) v).gn++[]=(s.gn++[])++[v.ep]
 rw[List.append_nil,List.append_nil]
 apply List.ext_getElem?
 intro i
 rw[pX,JU]
 show(if i<s.bn+1 then _ else _)=_
 rcases Nat.lt_trichotomy i s.bn with h | h | h
 ·rw[if_pos (by omega),if_neg (by omega),List.getElem?_append_left (by rw[m7];exact h),pX,if_pos h]
 ·subst h
  rw[if_pos (by omega),if_pos rfl,List.getElem?_append_right (by rw[m7];exact Nat.le_refl _),m7];simp
 ·rw[if_neg (by omega),List.getElem?_eq_none (by rw[List.length_append,m7];simp;omega)]
def vg (P:Program) (t:TypeId) (v:AV):Bool:=(P.info? t).isSome&&Nat.beq (ff v).length (P.cellsOf t)&&(ff v).all iY
theorem CG {P:Program} {t:TypeId} {v:AV} (h:vg P t v=true):(P.info? t).isSome=true∧(ff v).length=P.cellsOf t∧(ff v).all iY=true:=by
 simp only[vg,Bool.and_eq_true] at h
 exact⟨h.1.1,Nat.eq_of_beq_eq_true h.1.2,h.2⟩
def IS (P:Program) (n:Nat) (t:TypeId) (b g:Nat) (i:Int) (m c:Nat) (v:TV) (s:TS) (K:TS→aU):aU:=match w5 v with
 | false=> .no
 | true=>rl s b g fun e xs fz h=>yc s e.kJ ((gE true e (s5 e xs i)).take c++qg v++(gE true e (s5 e xs i)).drop (c+(qg v).length)) fun CX _=>
  let y:=e.mk CX
  let s':=s.gN b s.bn (.blk g e (xs.set i.toNat y) fz (by rw[List.length_set];exact h))
  .eq fz m (.eq (vg P t v.bB) true (.eq (Nat.ble (c+(ff v.bB).length) e.l1) true (.eq (fk (b8 true e (s5 e xs i)) c (ff v.bB)) (b8 true e y) (.eq s'.cs s.cs (.p (i.toNat<m) (K s'))))))
def BW (P:Program) (t:TypeId):Option (List AV×Nat):=match jg P t with
 | some e=>(match m_ P e with
  | some z=>(match Nat.beq z.length (P.cellsOf e)&&z.all iY with
   | true=>some (z.map mB,P.bytesOf e)
   | false=>none)
  | none=>none)
 | none=>none
theorem N6 {P:Program} {t:TypeId} {SE:List AV} {B:Nat} (h:BW P t=some (SE,B)): ∃e z,jg P t=some e∧m_ P e=some z∧z.length=P.cellsOf e∧z.all iY=true∧SE=z.map mB∧B=P.bytesOf e:=by
 unfold BW at h
 split at h
 ·rename_i e he
  split at h
  ·rename_i z aN
   split at h
   ·rename_i hc
    simp only[Bool.and_eq_true] at hc
    cases h
    exact⟨e,z,he,aN,Nat.eq_of_beq_eq_true hc.1,hc.2,rfl,rfl⟩
   ·cases h
  ·cases h
 ·cases h
def qj (P:Program) (t:TypeId):Nat:=match jg P t with
 | some e=>P.bytesOf e
 | none=>0
def VM (e:bH) (c:List TV):e.T:=match e.isS with
 | true=>e.mk (oI e.kJ c)
 | false=>Eu e (c.getD 0 .u)
def GB (P:Program) (n:Nat) (t:TypeId) (e:bH) (l c:TV) (s:TS) (K:TV→TS→aU):aU:=match l with
 | .i _ l=>(match c with
  | .i _ c=>
   let a8:=VM e (match jg P t with
    | some nF=>z_ P nF
    | none=>[])
   let xs:=List.replicate l.toNat a8
   let s':=s.gN s.bn (s.bn+1) (.blk 0 e xs xs.length rfl)
   .eq (BW P t) (some (b8 true e a8,qj P t)) (.eq l c (.eq s'.cs s.cs (.eq (il s) true (.p (0≤l∧(qj P t:Int)*l≤140737488355328∧l≤4611686018427387904) (K (.ref s.bn 0 xs.length false) s')))))
  | _=> .no)
 | _=> .no
def Al (P:Program) (t t2:TypeId) (x:AV):Option (Nat×Nat):=match jg P t with
 | some e=>(match m_ P e with
  | some z=>(match Nat.beq z.length (P.cellsOf e)&&Nat.blt 0 z.length&&tJ P e t2 x with
   | true=>some (z.length,P.bytesOf e)
   | false=>none)
  | none=>none)
 | none=>none
theorem JG {P:Program} {t t2:TypeId} {x:AV} {m B:Nat} (h:Al P t t2 x=some (m,B)): ∃e z,jg P t=some e∧m_ P e=some z∧(z.length=P.cellsOf e∧0<z.length∧tJ P e t2 x=true)∧m=z.length∧B=P.bytesOf e:=by
 unfold Al at h
 split at h
 ·rename_i e he
  split at h
  ·rename_i z aN
   split at h
   ·rename_i hc
    simp only[Bool.and_eq_true] at hc
    cases h
    exact⟨e,z,he,aN,⟨Nat.eq_of_beq_eq_true hc.1.1,by rw[←Nat.blt_eq];exact hc.1.2,hc.2⟩,rfl,rfl⟩
   ·cases h
  ·cases h
 ·cases h
def bH.flat:bH→Bool
 | .int | .u64 | .u8 | .bool | .str | .bk | .fE | .gI | .fault=>true
 | _=>false
theorem U4 {e:bH} (h:e.flat=true) (x:e.T):b8 false e x=b8 true e x:=by cases e<;>first | rfl | cases h
theorem abh (e:bH) (x:e.T):(b8 false e x).map o2=b8 true e x:=by
 rw[←qk,←qk]
 have key: ∀(es:List bH) (y:c5 es),(lU false es y).map o2=lU true es y:=by
  intro es
  induction es with
  | nil=>intro y;rfl
  | cons e r bR=>
   intro y
   show o2 (oH false e y.1)::(lU false r y.2).map o2=_
   rw[bR,lU]
   congr 1
   cases e<;>rfl
 exact key _ _
theorem Pd {e:bH} {fr:Bool} (h:(fr || e.flat)=true) (xs:List e.T):k8 fr (xs.map (b8 false e))=xs.map (b8 true e):=by
 cases fr with
 | true=>
  show(xs.map (b8 false e)).map (fun row=>row.map o2)=_
  rw[List.map_map]
  exact List.map_congr_left fun x _=>abh e x
 | false=>exact List.map_congr_left fun x _=>U4 h x
def Da (P:Program) (n:Nat) (t t2:TypeId) (v x:TV) (s:TS) (K:TV→TS→aU):aU:=match x with
 | .l e ys jx fr=>(match(fr || e.flat)&&e.oW with
  | false=> .no
  | true=>(match v with
   | .nil full _=>(match full with
    | true=>
     let s':=s.gN s.bn (s.bn+1) (.blk 0 e ys ys.length rfl)
     .eq (Al P t t2 (TV.l e ys jx fr).bB) (some (e.l1,qj P t)) (.eq s'.cs s.cs (.eq (il s) true (.p (ys.length*qj P t≤140737488355328∧ys.length≤4611686018427387904) (K (.ref s.bn 0 ys.length false) s'))))
    | false=> .no)
   | .ref b g m _=>rl s b g fun dW xs fz h=>if he:e=dW then
     let ix:=xs++lR he ys
     let s':=s.gN b s.bn (.blk (g+1) dW ix ix.length rfl)
     .eq fz m (.eq (Al P t t2 (TV.l e ys jx fr).bB) (some (e.l1,qj P t)) (.eq s'.cs s.cs (.p ((xs.length+ys.length)*qj P t≤140737488355328∧xs.length+ys.length≤4611686018427387904) (K (.ref b (g+1) ix.length false) s'))))
    else .no
   | _=> .no))
 | _=> .no
section
variable {P:Program} (cf:g_ P) (s:TS)
def ym (o:Oper) (v:TV) (l:List (Nat×TV)) (vs:List (Nat×Nat)) (K:TV→TS→aU):aU:=match pf l with
 | true=> .eq (fun H Q=>kb P [] o (fun x=>(cN cf.n s x).bB) s.cs H Q) (fun H Q=>Q v.bB (s.add l vs s.bn).cs H) (K v (s.add l vs s.bn))
 | false=> .no
end
section
variable {P:Program} {cf:g_ P} {s:TS} {R:Exit→TS→Prop}
variable {K:TV→TS→aU} {Kp:AV→List (Nat×List AV)→List Blk→Prop}
theorem B5 {b:Bool} {x:Prop} (h:b=true) (k:x):e3 b x:=by subst h;exact k
end
section
variable {P:Program} {cf:g_ P} {s:TS} {R:Exit→TS→Prop}
variable {K:TV→TS→aU} {Kp:AV→List (Nat×List AV)→List Blk→Prop}
theorem Tz {t:TypeId} {m:Nat} {parts:List (Nat×AV)} {L:List (Nat×List AV)} {H:List Blk} {d:Option Nat} (h:vO P t m parts fun r=>Kp r L H):tN P (tU [] d) (u6 []) t m parts L H Kp:=by
 obtain⟨e,he,h⟩:=fA h
 obtain⟨z,aN,h⟩:=fA h
 refine ej he (ej aN ?_)
 split at h
 ·rename_i hc
  rw[if_pos hc]
  obtain⟨cells,hf,h⟩:=fA h
  refine ej hf ?_
  split at h
  ·rename_i hb
   have:tU [] d=false:=by cases d<;>rfl
   rw[this]
   show if cells.all jv=true then _ else _
   rw[if_pos hb];exact h
  ·exact h.elim
 ·exact h.elim
end
section
variable {P:Program} {cf:g_ P} {s:TS} {R:Exit→TS→Prop}
variable {K:TV→TS→aU} {Kp:AV→List (Nat×List AV)→List Blk→Prop}
theorem Pb {o:Oper} {bO:Operand→AV} {L:List (Nat×List AV)} {H:List Blk} (h:jR P o bO L H fun r=>Kp r L H) (hc: ∀c,o.op≠ .call c) (hb: ∀t m ps,o.op≠ .buildSlice t m ps):kb P [] o bO L H Kp:=by
 have h':=AU h
 obtain⟨dst,op,ty,pos,after,guard⟩:=o
 cases op<;>first | exact h' | exact h'.elim | exact absurd rfl (hc _) | exact absurd rfl (hb _ _ _)
end
section
variable {P:Program} {cf:g_ P} {s:TS} {R:Exit→TS→Prop}
variable {K:TV→TS→aU} {Kp:AV→List (Nat×List AV)→List Blk→Prop}
theorem Hi {o:Oper} {c:Call} {bO:Operand→AV} {L:List (Nat×List AV)} {H:List Blk} (aC:o.op= .call c) (h:jR P o bO L H fun r=>Kp r L H):kb P [] o bO L H Kp:=by
 have h':=AU h
 obtain⟨dst,op,ty,pos,after,guard⟩:=o
 cases aC
 obtain⟨callee,args,argTypes⟩:=c
 cases callee with
 | builtin b=>
  cases b with
  | len=>exact h'
  | _=>exact h'.elim
 | value f=>
  have h':lQ (bO f) fun g caps=>oF P g (args.toList.map bO++caps) L H fun r=>Kp r L H:=h'
  show lQ (bO f) fun g caps=>li P g (args.toList.map bO++caps) L H Kp
  cases hf:bO f with
  | fn g caps=>rw[hf] at h';exact .inl h'
  | _=>rw[hf] at h';exact h'.elim
 | _=>exact h'.elim
end
section
variable {P:Program} {cf:g_ P} {s:TS} {R:Exit→TS→Prop}
variable {K:TV→TS→aU} {Kp:AV→List (Nat×List AV)→List Blk→Prop}
theorem abe {o:Oper} {t:TypeId} {m:Nat} {ps:Array (Nat×Operand)} {bO:Operand→AV} {L:List (Nat×List AV)} {H:List Blk} (aC:o.op= .buildSlice t m ps) (h:jR P o bO L H fun r=>Kp r L H):kb P [] o bO L H Kp:=by
 have h':=AU h
 obtain⟨dst,op,ty,pos,after,guard⟩:=o
 cases aC
 obtain⟨h1,h2⟩:=pM (show e3 (ps.toList.all fun p=>e1 (bO p.2)) (vO P t m (ps.toList.map fun p=>(p.1,bO p.2)) fun r=>Kp r L H) from h')
 show e3 (ps.toList.all fun p=>e1 (bO p.2)) (tN P (tU [] dst) (u6 []) t m (ps.toList.map fun p=>(p.1,bO p.2)) L H Kp)
 rw[h1];exact Tz h2
end
section
variable [Z:FZ] {P:Program} {cf:g_ P} {s:TS} {R:Exit→TS→Prop}
def vE (cf:g_ P) (s:TS) (R:Exit→TS→Prop) (K:TV→TS→aU) (Kp:ou Prop):Prop:=
 ∀v s' (Z':FZ),(K v s').den R→ @Fits Z' s'→s'.tT cf.n=s.tT cf.n→Kp v.bB s'.cs (@TS.aI Z' cf.n s').H
variable {K:TV→TS→aU} {Kp:AV→List (Nat×List AV)→List Blk→Prop}
theorem aeL (aF:cf.n≤1000000) {t:TypeId} {b g m c:Nat} {i:Int} {v:TV} {K:TS→aU} {Kp:List (Nat×List AV)→List Blk→Prop} (aN:Fits s) (hK: ∀s' (Z':FZ),(K s').den R→ @Fits Z' s'→s'.tT cf.n=s.tT cf.n→Kp s'.cs (@TS.aI Z' cf.n s').H) (h:(IS P cf.n t b g i m c v s K).den R):
  e3 (e1 v.bB) (l7 P t (.ptr b g i.toNat c) v.bB (s.aI cf.n).L (s.aI cf.n).H Kp):=by
 unfold IS at h
 split at h
 ·exact h.elim
 ·rename_i hv
  obtain⟨e,xs,fz,hm,h,hb,aR⟩:=vK (n:=cf.n) h
  obtain⟨CX,o,h,_⟩:=AB aN (n:=cf.n) h
  obtain⟨h1,h2,aO,bb,cb,cE,h⟩:=h
  refine B5 (B4 hv) ?_
  have bc:i.toNat<xs.length:=by omega
  have hs:=CG h2
  unfold l7
  rw[if_pos hs]
  refine ej aR ⟨rfl,ej (GF bc true) ⟨?_,?_⟩⟩
  ·rw[rq];exact Nat.le_of_ble_eq_true aO
  ·have:=hK _ Z h (qd aN) (qc aF)
   rw[tK hb,cb] at this
   rw[bb]
   have bx: ∀y:e.T,(xs.map (b8 true e)).set i.toNat (b8 true e y)=(xs.set i.toNat y).map (b8 true e):=fun y=>by rw[List.map_set]
   rw[bx];exact this
theorem aai (aF:cf.n≤1000000) (aN:Fits s) {t:TypeId} {e:bH} {l c:TV} (hK:vE cf s R K Kp) (h:(GB P cf.n t e l c s K).den R):wX P t l.bB c.bB (s.aI cf.n).L (s.aI cf.n).H Kp:=by
 unfold GB at h
 split at h
 ·split at h
  ·obtain⟨h1,h2,aO,c_,bb,h⟩:=h
   rename_i BV l0 l oG ZA c
   subst h2
   obtain⟨nF,z,q1,q2,q3,q4,cL,cY⟩:=N6 h1
   refine ej q1 (ej q2 ?_)
   rw[if_pos ⟨q3,q4⟩]
   refine⟨bb.1,Int.le_refl _,by rw[←cY];exact bb.2.1,bb.2.2,?_⟩
   have:=hK _ _ Z h (qd aN) (qc aF)
   rw[Au c_,aO] at this
   rw[CI c_,←cL]
   have aN:z.length=e.l1:=by
    have:=congrArg List.length cL
    rw[List.length_map,rq] at this;exact this.symm
   rw[aN]
   have aL: ∀a8:e.T,(List.replicate l.toNat a8).length=l.toNat:=fun a8=>List.length_replicate
   show Kp (.ref s.bn 0 0 l.toNat false) _ ((s.aI cf.n).H++[⟨0,e.l1,List.replicate l.toNat (b8 true e _)⟩])
   rw[←List.map_replicate]
   have this:Kp (.ref s.bn 0 0 (List.replicate l.toNat _).length false) (s.aI cf.n).L ((s.aI cf.n).H++[⟨0,e.l1,(List.replicate l.toNat _).map (b8 true e)⟩]):=this
   rw[aL] at this
   exact this
  ·exact h.elim
 ·exact h.elim
theorem Td (aF:cf.n≤1000000) (aN:Fits s) {t t2:TypeId} {v x:TV} (hK:vE cf s R K Kp) (h:(Da P cf.n t t2 v x s K).den R):e1 v.bB=true∧e1 x.bB=true∧tI P t t2 v.bB x.bB (s.aI cf.n).L (s.aI cf.n).H Kp:=by
 unfold Da at h
 split at h
 ·rename_i e ys jx fr
  split at h
  ·exact h.elim
  ·rename_i hc
   simp only[Bool.and_eq_true] at hc
   have eV: ∀(ix:List e.T) (k:Nat),e.l1=k→qS k (ix.map (b8 true e)):=fun ix k hk row aJ=>by
    obtain⟨y,_,rfl⟩:=List.mem_map.1 aJ
    refine⟨by rw[rq,hk],fun a a4=>List.all_eq_true.1 (UH (fr:=true) hc.2 y) a a4⟩
   have ed: ∀{nF},jg P t=some nF→qj P t=P.bytesOf nF:=fun h=>by unfold qj;rw[h]
   split at h
   ·split at h
    ·rename_i full afO
     obtain⟨h1,h2,c_,aO,h⟩:=h
     obtain⟨nF,z,q1,q2,q3,q4,cL⟩:=JG h1
     refine⟨rfl,rfl,ej q1 (ej q2 ?_)⟩
     rw[if_pos q3]
     show _∧_
     have hx:k8 fr (List.map (b8 false e) ys)=ys.map (b8 true e):=Pd hc.1 ys
     rw[hx]
     refine⟨eV ys _ q4,rfl,(fun row h=>by cases h),?_,?_,(fun h=>absurd rfl h),?_⟩
     ·rw[List.length_map,←ed q1];simpa using aO.1
     ·rw[List.length_map];simpa using aO.2
     ·have:=hK _ _ Z h (qd aN) (qc aF)
      rw[Au c_,h2] at this
      rw[CI c_,←q4,List.length_map]
      simp only[List.length_nil,Nat.zero_add,List.nil_append]
      exact this
    ·exact h.elim
   ·rename_i b g m eB
    obtain⟨dW,xs,fz,hm,h,hb,aR⟩:=vK (n:=cf.n) h
    split at h
    ·rename_i he
     subst he
     obtain⟨h1,h2,aO,bb,tV⟩:=h
     subst h1
     obtain⟨nF,z,q1,q2,q3,q4,cL⟩:=JG h2
     refine⟨rfl,rfl,ej q1 (ej q2 ?_)⟩
     rw[if_pos q3]
     show _∧_
     have hx:k8 fr (List.map (b8 false e) ys)=ys.map (b8 true e):=Pd hc.1 ys
     rw[hx]
     refine⟨eV ys _ q4,rfl,ej aR ⟨rfl,q4,by rw[List.length_map];exact hm,?_,?_,?_⟩⟩
     ·rw[List.length_map,←hm,←ed q1];exact bb.1
     ·rw[List.length_map,←hm];exact bb.2
     ·have:=hK _ _ Z tV (qd aN) (qc aF)
      rw[tK hb,aO] at this
      rw[←q4,List.length_map,←hm,←List.map_append,←List.length_append]
      exact this
    ·exact h.elim
   ·exact h.elim
 ·exact h.elim
theorem EA (aF:cf.n≤1000000) (aN:Fits s) {o:Oper} {v:TV} {l:List (Nat×TV)} {vs:List (Nat×Nat)} (hK:vE cf s R K Kp) (h:(ym cf s o v l vs K).den R):kb P [] o (cr (s.aI cf.n).T) (s.aI cf.n).L (s.aI cf.n).H Kp:=by
 unfold ym at h
 split at h
 ·rename_i hb
  obtain⟨e,h⟩:=h
  rw[k3,show(fun x=>(cN cf.n s x).bB)=(fun x=>(cN cf.n s x).bB) from rfl]
  have e:=congrFun (congrFun e (s.aI cf.n).H) Kp
  have e:kb P [] o (fun x=>(cN cf.n s x).bB) (s.aI cf.n).L (s.aI cf.n).H Kp=_:=e
  rw[e]
  have:=hK _ _ Z h (x1 hb aN) (x0 aF hb)
  rw[xZ hb] at this;exact this
 ·exact h.elim
end
def Gd:TV→Bool
 | .kt _ _ _=>true
 | _=>false
theorem Tv {Z Z':FZ} {v:TV} (h:Gd v=false): @TV.ep Z' v= @TV.ep Z v:=by cases v<;>first | rfl | cases h
def zi (s:TS) (b:Nat):Nat→Bool
 | 0=>true
 | k+1=>(Nat.beq k b || !Gd (s.get (bA k)))&&zi s b k
theorem Om {s:TS} {b:Nat}: ∀{n:Nat},zi s b n=true→ ∀k,k<n→k≠b→Gd (s.get (bA k))=false
 | 0,_,k,h,_=>by omega
 | n+1,h,k,hk,cm=>by
  simp only[zi,Bool.and_eq_true,Bool.or_eq_true,Bool.not_eq_true'] at h
  rcases Nat.lt_or_ge k n with q | q
  ·exact Om h.2 k q cm
  ·have:k=n:=by omega
   subst this
   rcases h.1 with e | e
   ·exact absurd (Nat.eq_of_beq_eq_true e) cm
   ·exact e
theorem afc {Z Z':FZ} {n:Nat} {s s':TS} {b g m:Nat} {ids:List Nat} {V Jv:List ad} {XV:List Nat} {bT Oj:Nat} {hv:V.length=bT} {kl:Jv.length=Oj} (hb:b<s.bn) (wD:s'.bn=s.bn) (he: ∀k,k≠b→s'.get (bA k)=s.get (bA k)) (hg:s'.get (bA b)= .kt g m ids) (hw:zi s b s.bn=true)
  (h1:s.get dH= .gZ V XV bT hv) (h2:s'.get dH= .gZ Jv ids Oj kl):(@TS.aI Z' n s').H=(@TS.gn Z s).set b ⟨g,5,aZ m Z'.ws ids⟩++List.map bi Z'.bs:=by
 rw[ru h2]
 congr 1
 apply List.ext_getElem?
 intro i
 rw[@pX Z' s' i,List.getElem?_set,@pX Z s i,@m7 Z s,wD]
 by_cases hi:b=i
 ·subst hi;rw[if_pos hb,if_pos rfl,if_pos hb,hg];rfl
 ·rw[if_neg hi,he i (fun e=>hi e.symm)]
  by_cases h:i<s.bn
  ·rw[if_pos h,if_pos h,Tv (Z:=Z) (Om hw i h (fun e=>hi e.symm))]
  ·rw[if_neg h,if_neg h]
theorem zU {n:Nat} {s:TS} {l:List (Nat×TV)} (aF:n≤1000000) (h: ∀p∈l,1000000≤p.1):(s.add l s.vs s.bn).tT n=s.tT n:=by
 show(List.range n).map _=(List.range n).map _
 refine List.map_congr_left fun t bp=> ?_
 have bp:t<n:=List.mem_range.1 bp
 rw[TS.iL,sY fun v hv=>by have:=h _ hv;simp only at this;omega]
def HB (c:Nat) (v:TV) (h:ad) (K:ad→aU):aU:=match v with
 | .i k x=>if k= .i64 then(match c with
  | 0=>K {h with aq:=x}
  | 1=>K {h with af:=x}
  | 4=>K {h with ar:=x}
  | _=> .no) else .no
 | .b x=>(match c with
  | 3=>K {h with ap:=x.den}
  | _=> .no)
 | _=> .no
theorem PH {c:Nat} {v:TV} {w:ad} {b:List Bool} {K:ad→aU} {R:Exit→TS→Prop} (h:(HB c v {w with ac:=b} K).den R):
  ∃x:ad,x.ac=w.ac∧(K {x with ac:=b}).den R∧(∀m id,fk (kd m w id) c (ff v.bB)=kd m x id)∧c+(ff v.bB).length≤5:=by
 unfold HB at h
 split at h
 ·rename_i k x
  split at h
  ·rename_i hk
   subst hk
   split at h
   ·exact⟨{w with aq:=x},rfl,h,fun m id=>rfl,(show(0+1:Nat)≤5 by decide)⟩
   ·exact⟨{w with af:=x},rfl,h,fun m id=>rfl,(show(1+1:Nat)≤5 by decide)⟩
   ·exact⟨{w with ar:=x},rfl,h,fun m id=>rfl,(show(4+1:Nat)≤5 by decide)⟩
   ·exact h.elim
  ·exact h.elim
 ·rename_i x
  split at h
  ·exact⟨{w with ap:=x.den},rfl,h,fun m id=>rfl,(show(3+1:Nat)≤5 by decide)⟩
  ·exact h.elim
 ·exact h.elim
theorem gr.ZJ {ws:List ad} {ids:List Nat} {bs:List (List Bool)} (G:gr ws ids bs) {i id:Nat} {x:ad} (hi:i<ws.length) (h1:id<bs.length) (h2:bs.getD id []=x.ac) (aO: ∀j:Nat,ids[j]?≠some id):
  gr (ws.set i x) (ids.set i id) bs∧view (ws.set i x) (ids.set i id) bs=(view ws ids bs).set i x:=by
 have aL:=G.ok.len
 refine⟨⟨⟨by rw[List.length_set,List.length_set];exact aL,fun j k hk=> ?_,fun j k h a4 hk=> ?_⟩,fun a b k a4 hb=> ?_,G.len⟩,?_⟩
 ·rw[List.getElem?_set] at hk
  split at hk
  ·split at hk
   ·cases hk;exact h1
   ·cases hk
  ·exact G.ok.lt j k hk
 ·rw[List.getElem?_set] at a4 hk
  split at a4
  ·rename_i e;subst e
   rw[if_pos rfl,if_pos (by omega)] at hk
   cases a4;cases hk;rw[h2]
  ·rename_i e
   rw[if_neg e] at hk
   exact G.ok.ac j k h a4 hk
 ·rw[List.getElem?_set] at a4 hb
  split at a4
  ·split at a4
   ·cases a4
    split at hb
    ·rename_i bx _ e2;omega
    ·exact absurd hb (aO b)
   ·cases a4
  ·split at hb
   ·split at hb
    ·cases hb;exact absurd a4 (aO a)
    ·cases hb
   ·exact G.kM a b k a4 hb
 ·apply List.ext_getElem?
  intro j
  unfold view
  rw[List.getElem?_zipWith,List.getElem?_set,List.getElem?_set,List.getElem?_set,List.getElem?_zipWith,List.length_zipWith]
  by_cases e:i=j
  ·subst e
   rw[if_pos rfl,if_pos rfl,if_pos rfl,if_pos hi,if_pos (by omega),if_pos (by omega)]
   show some ({x with ac:=bs.getD id []}:ad)=some x
   rw[h2]
  ·rw[if_neg e,if_neg e,if_neg e]
theorem gr.snoc {ws:List ad} {ids:List Nat} {bs:List (List Bool)} (G:gr ws ids bs) {xs:List Bool} (hx:xs.length≤1048576):gr ws ids (bs++[xs])∧view ws ids (bs++[xs])=view ws ids bs:=by
 have hg: ∀id,id<bs.length→(bs++[xs]).getD id []=bs.getD id []:=fun id h=>by
  rw[List.getD_eq_getElem?_getD,List.getD_eq_getElem?_getD,List.getElem?_append_left h]
 refine⟨⟨⟨G.ok.len,fun i id h=>by have:=G.ok.lt i id h;rw[List.length_append];omega,fun i id h h1 h2=>by rw[hg id (G.ok.lt i id h2)];exact G.ok.ac i id h h1 h2⟩,G.kM,fun b hb=> ?_⟩,?_⟩
 ·rcases List.mem_append.1 hb with hb | hb
  ·exact G.len b hb
  ·rw[List.mem_singleton.1 hb];exact hx
 ·apply List.ext_getElem?
  intro j
  unfold view
  rw[List.getElem?_zipWith,List.getElem?_zipWith]
  cases h1:ws[j]? with
  | none=>rfl
  | some w=>
   cases h2:ids[j]? with
   | none=>rfl
   | some id=>simp only[hg id (G.ok.lt j id h2)]
def IY (P:Program) (t:TypeId) (b g:Nat) (i:Int) (c:Nat) (v:TV) (s:TS) (dG hH:Nat) (ids:List Nat) (K:TS→aU):aU:=match s.get dH with
 | .gZ V dd bT hv=> .eq dG g (.eq dd ids (.eq (Nat.blt b s.bn&&zi s b s.bn&&vg P t v.bB) true (match v with
  | .agg l=>(match l with
   | [.i dP aI,.i h_ go,.zg id m k,.b hq,.i oQ o5]=>(match s.get gb with
    | .new gv xs=>
     let s':=s.add [(dH,.gZ (V.set i.toNat (ad.mk aI go xs hq.den o5)) (ids.set i.toNat id) bT ((List.length_set ..).trans hv)),(bA b,.kt g hH (ids.set i.toNat id)),(gb,.u)] s.vs s.bn
     .eq c 0 (.eq (dP,h_,oQ) (IntKind.i64,IntKind.i64,IntKind.i64) (.eq gv id (.eq m hH (.eq k xs.length (.eq s'.cs s.cs (.p (i.toNat<V.length) (K s')))))))
    | _=> .no)
   | _=> .no)
  | v=>HB c v (nth V i) fun y=>
   let s':=s.add [(dH,.gZ (V.set i.toNat y) ids bT ((List.length_set ..).trans hv))] s.vs s.bn
   .eq s'.cs s.cs (.p (i.toNat<V.length) (K s')))))
 | _=> .no
section
variable [Z:FZ] {P:Program} {cf:g_ P} {s:TS} {R:Exit→TS→Prop}
theorem aeX (aF:cf.n≤1000000) {t:TypeId} {b g c dG hH:Nat} {ids:List Nat} {i:Int} {v:TV} {K:TS→aU} {Kp:List (Nat×List AV)→List Blk→Prop} (aN:Fits s) (hg:s.get (bA b)= .kt dG hH ids)
  (hK: ∀s' (Z':FZ),(K s').den R→ @Fits Z' s'→s'.tT cf.n=s.tT cf.n→Kp s'.cs (@TS.aI Z' cf.n s').H) (h:(IY P t b g i c v s dG hH ids K).den R):
  l7 P t (.ptr b g i.toNat c) v.bB (s.aI cf.n).L (s.aI cf.n).H Kp:=by
 unfold IY at h
 split at h
 ·rename_i V dd bT kF hk
  obtain⟨h1,h2,aO,h⟩:=h
  subst h1;subst h2
  simp only[Bool.and_eq_true] at aO
  obtain⟨⟨hb,hw⟩,bj⟩:=aO
  have hb:b<s.bn:=by rw[←Nat.blt_eq];exact hb
  obtain⟨G,e,kB⟩:=aN V dd _ _ hk
  have hs:=CG bj
  have pC:=ja G.ok
  rw[e] at pC
  have aR:(s.aI cf.n).H[b]?=some ⟨dG,5,aZ hH Z.ws dd⟩:=by rw[q5 hb,hg];rfl
  have Wm:(s.aI cf.n).H=s.gn++List.map bi Z.bs:=ru hk
  unfold l7
  rw[if_pos hs]
  have fin: ∀{s':TS} {ws2:List ad} {ids2:List Nat} {V2:List ad} {n2:Nat} {hv2:V2.length=n2} {cells row':List AV},i.toNat<V.length→c+cells.length≤5→fk (kd hH (nth Z.ws i) (nth dd i)) c cells=row'→(aZ hH Z.ws dd).set i.toNat row'=aZ hH ws2 ids2→s'.bn=s.bn→(∀k,k≠b→s'.get (bA k)=s.get (bA k))→s'.get (bA b)= .kt dG hH ids2→s'.get dH= .gZ V2 ids2 n2 hv2→
    s'.cs=s.cs→(K s').den R→ @Fits ⟨ws2,Z.bs⟩ s'→s'.tT cf.n=s.tT cf.n→(c3 (s.aI cf.n).H[b]? fun blk=>blk.bC=dG∧c3 blk.rows[i.toNat]? fun row=>c+cells.length≤row.length∧Kp (s.aI cf.n).L ((s.aI cf.n).H.set b {blk with rows:=blk.rows.set i.toNat (fk row c cells)})):=by
   intro s' ws2 ids2 V2 n2 hv2 cells row' hi hc wJ k0 wD mS n9 WY b0 Wo hf ct
   refine ej aR ⟨rfl,ej (dL G.ok.len (by omega)) ⟨hc,?_⟩⟩
   have:=hK s' ⟨ws2,Z.bs⟩ Wo hf ct
   rw[b0,afc (Z:=Z) (Z':=⟨ws2,Z.bs⟩) hb wD mS n9 hw hk WY] at this
   rw[Wm,List.set_append_left _ _ (by rw[m7];exact hb),wJ]
   show Kp s.cs (s.gn.set b ⟨dG,5,(aZ hH Z.ws dd).set i.toNat row'⟩++_)
   rw[k0];exact this
  split at h
  ·split at h
   ·rename_i dP aI h_ go id m k hq oQ o5
    split at h
    ·rename_i gv xs wE
     obtain⟨h1,h2,bb,cb,cE,gF,n0,h⟩:=h
     subst h1;subst bb;subst cb;subst cE
     cases h2
     obtain⟨mW,n2,og⟩:=kB _ _ wE
     obtain⟨nM,dW⟩:=G.ZJ (i:=i.toNat) (id:=gv) (x:=ad.mk aI go xs hq.den o5) (by omega) mW n2 og
     refine fin (s':=s.add [(dH,.gZ (V.set i.toNat (ad.mk aI go xs hq.den o5)) (dd.set i.toNat gv) bT ((List.length_set ..).trans kF)),(bA b,.kt dG m (dd.set i.toNat gv)),(gb,.u)] s.vs s.bn) (ws2:=Z.ws.set i.toNat (ad.mk aI go xs hq.den o5)) (V2:=V.set i.toNat (ad.mk aI go xs hq.den o5)) (n2:=bT) (hv2:=(List.length_set ..).trans kF) (ids2:=dd.set i.toNat gv) (row':=kd m (ad.mk aI go xs hq.den o5) gv) n0 (Nat.le_refl 5) ?_ (wk G.ok.len) rfl (fun k hk=> ?_) ?_ ?_ gF h ?_ (zU aF ?_)
     ·rfl
     ·rw[TS.iL,gG,if_neg (by unfold dH bA;omega),gG,if_neg (by unfold bA;omega),gG,if_neg (by unfold gb bA;omega)];rfl
     ·rw[TS.iL,gG,if_neg (by unfold dH bA;omega),gG,if_pos rfl]
     ·rw[TS.iL,gG,if_pos rfl]
     ·intro V3 BJ og Bu aO
      rw[TS.iL,gG,if_pos rfl] at aO
      cases aO
      refine⟨nM,by rw[←e];exact dW,fun id xs hx=> ?_⟩
      rw[TS.iL,gG,if_neg (by unfold dH gb;omega),gG,if_neg (by unfold bA gb;omega),gG,if_pos rfl] at hx
      cases hx
     ·intro p aG
      simp only[List.mem_cons,List.not_mem_nil,or_false] at aG
      rcases aG with rfl | rfl | rfl
      ·exact Nat.le_refl _
      ·show 1000000≤bA b;unfold bA;omega
      ·show 1000000≤gb;unfold gb;omega
    ·exact h.elim
   ·exact h.elim
  ·have afY:i.toNat<V.length∨ ¬i.toNat<V.length:=by omega
   by_cases hi:i.toNat<V.length
   ·have hv:=CU G.ok (i:=i) (by rw[e];exact hi)
    rw[e] at hv
    rw[hv] at h
    obtain⟨x,aK,h,bo,ea⟩:=PH h
    obtain⟨gF,n0,h⟩:=h
    have F:=(G.oE (j:=i) (by omega)).qX x (by rw[aK];have:=(G.oE (j:=i) (by omega)).qb;exact this)
    have jT:(nth (view Z.ws dd Z.bs) i).ac=Z.bs.getD (nth dd i) []:=by rw[e,hv]
    rw[jT,e] at F
    refine fin (s':=s.add [(dH,.gZ (V.set i.toNat {x with ac:=Z.bs.getD (nth dd i) []}) dd bT ((List.length_set ..).trans kF))] s.vs s.bn) (ws2:=Z.ws.set i.toNat x) (ids2:=dd) (V2:=V.set i.toNat {x with ac:=Z.bs.getD (nth dd i) []}) (n2:=bT) (hv2:=(List.length_set ..).trans kF) n0 ea (bo hH (nth dd i)) (ke G.ok.len (by omega)) rfl (fun k hk=> ?_) ?_ ?_ gF h ?_ (zU aF ?_)
    ·rw[TS.iL,gG,if_neg (by unfold dH bA;omega)];rfl
    ·rw[TS.iL,gG,if_neg (by unfold dH bA;omega)];exact hg
    ·rw[TS.iL,gG,if_pos rfl]
    ·intro V3 BJ og Bu aO
     rw[TS.iL,gG,if_pos rfl] at aO
     cases aO
     refine⟨F.G,F.gV,fun id xs hx=> ?_⟩
     rw[TS.iL,gG,if_neg (by unfold dH gb;omega)] at hx
     exact kB id xs hx
    ·intro p aG
     rw[List.mem_singleton.1 aG];exact Nat.le_refl _
   ·obtain⟨x,aK,h,_⟩:=PH (w:=nth V i) (b:=(nth V i).ac) h
    exact absurd h.2.1 hi
 ·exact h.elim
def zW (P:Program) (t:TypeId) (w:Int) (ids:List Nat) (m:Nat) (j:Int) (v:TV) (s:TS) (K:TS→aU):aU:=match s.get dH with
 | .gZ V dd bT hv=> .eq dd ids (.eq m s.bn (.eq (vg P t v.bB) true (match v with
  | .b x=>
   let s':=s.add [(dH,.gZ (V.set w.toNat {nth V w with ac:=(nth V w).ac.set j.toNat x.den}) ids bT ((List.length_set ..).trans hv))] s.vs s.bn
   .eq s'.cs s.cs (.p (w.toNat<V.length∧j.toNat<(nth V w).ac.length) (K s'))
  | _=> .no)))
 | _=> .no
theorem aeT (aF:cf.n≤1000000) {t:TypeId} {m:Nat} {ids:List Nat} {w j:Int} {v:TV} {K:TS→aU} {Kp:List (Nat×List AV)→List Blk→Prop} (aN:Fits s)
  (hK: ∀s' (Z':FZ),(K s').den R→ @Fits Z' s'→s'.tT cf.n=s.tT cf.n→Kp s'.cs (@TS.aI Z' cf.n s').H) (h:(zW P t w ids m j v s K).den R):
  l7 P t (.ptr (nth ids w+m) 0 j.toNat 0) v.bB (s.aI cf.n).L (s.aI cf.n).H Kp:=by
 unfold zW at h
 split at h
 ·rename_i V dd bT kF hk
  obtain⟨h1,h2,aO,h⟩:=h
  subst h1;subst h2
  have hs:=CG aO
  unfold l7
  rw[if_pos hs]
  split at h
  ·rename_i x
   obtain⟨bb,cb,h⟩:=h
   obtain⟨G,e,kB⟩:=aN V dd _ _ hk
   have pC:=ja G.ok
   rw[e] at pC
   have hv:=CU G.ok (i:=w) (by rw[e];exact cb.1)
   rw[e] at hv
   have dq:=G.oE (j:=w) (by omega)
   have F:=dq.HA ((nth V w).ac.set j.toNat x.den) (by rw[List.length_set,e])
   rw[e] at F
   have gP:=G.ok.lt w.toNat _ (gS (xs:=dd) (i:=w) (by have:=G.ok.len;omega))
   refine ej (Eh aN hk cb.1) ⟨rfl,ej (x_ cb.2) ⟨Nat.le_refl 1,?_⟩⟩
   have ct:=zU (n:=cf.n) (s:=s) (l:=[(dH,TV.gZ (V.set w.toNat {nth V w with ac:=(nth V w).ac.set j.toNat x.den}) dd bT ((List.length_set ..).trans kF))]) aF (fun p aG=>by rw[List.mem_singleton.1 aG];exact Nat.le_refl _)
   have sK: @Fits ⟨Z.ws,Z.bs.set (nth dd w) ((nth V w).ac.set j.toNat x.den)⟩ (s.add [(dH,TV.gZ (V.set w.toNat {nth V w with ac:=(nth V w).ac.set j.toNat x.den}) dd bT ((List.length_set ..).trans kF))] s.vs s.bn):=by
    intro V3 BJ og Bu aO
    rw[TS.iL,gG,if_pos rfl] at aO
    cases aO
    refine⟨F.G,F.gV,fun id xs hx=> ?_⟩
    rw[TS.iL,gG,if_neg (by unfold dH gb;omega)] at hx
    obtain⟨mW,n2,og⟩:=kB id xs hx
    refine⟨by show id<(Z.bs.set (nth dd w) ((nth V w).ac.set j.toNat x.den)).length;rw[List.length_set];exact mW,?_,og⟩
    show(Z.bs.set (nth dd w) ((nth V w).ac.set j.toNat x.den)).getD id []=xs
    have cm:nth dd w≠id:=fun q=>og w.toNat (by rw[gS (xs:=dd) (i:=w) (by have:=G.ok.len;omega),q])
    rw[List.getD_eq_getElem?_getD,List.getElem?_set,if_neg cm,←List.getD_eq_getElem?_getD];exact n2
   have:=hK _ ⟨Z.ws,Z.bs.set (nth dd w) ((nth V w).ac.set j.toNat x.den)⟩ h sK ct
   rw[bb] at this
   have Ba:(s.aI cf.n).H=s.gn++List.map bi Z.bs:=ru hk
   have mO: ∀Z':FZ,Z'.ws=Z.ws→ @TS.gn Z' (s.add [(dH,TV.gZ (V.set w.toNat {nth V w with ac:=(nth V w).ac.set j.toNat x.den}) dd bT ((List.length_set ..).trans kF))] s.vs s.bn)= @TS.gn Z s:=fun Z' hw=>by
    show(List.range s.bn).map _=(List.range s.bn).map _
    refine List.map_congr_left fun b _=> ?_
    rw[TS.iL,gG,if_neg (by unfold dH bA;omega)]
    show @TV.ep Z' (s.get (bA b))= @TV.ep Z (s.get (bA b))
    cases s.get (bA b)<;>first | rfl | (simp only[TV.ep,hw])
   have ED:= @ru ⟨Z.ws,Z.bs.set (nth dd w) ((nth V w).ac.set j.toNat x.den)⟩ cf.n (s.add [(dH,TV.gZ (V.set w.toNat {nth V w with ac:=(nth V w).ac.set j.toNat x.den}) dd bT ((List.length_set ..).trans kF))] s.vs s.bn) (V.set w.toNat {nth V w with ac:=(nth V w).ac.set j.toNat x.den}) dd bT ((List.length_set ..).trans kF) (by rw[TS.iL,gG,if_pos rfl])
   rw[ED,mO ⟨Z.ws,Z.bs.set (nth dd w) ((nth V w).ac.set j.toNat x.den)⟩ rfl] at this
   rw[Ba,List.set_append_right _ _ (by rw[m7];omega),m7,Nat.add_sub_cancel]
   have ij:({bi (nth V w).ac with rows:=(bi (nth V w).ac).rows.set j.toNat (fk (aW (nth (nth V w).ac j)) 0 (ff (TV.b x).bB))}:Blk)=bi ((nth V w).ac.set j.toNat x.den):=by
    show(⟨0,1,(List.map aW (nth V w).ac).set j.toNat (aW x.den)⟩:Blk)=⟨0,1,_⟩
    rw[Dk]
   show Kp s.cs (s.gn++(List.map bi Z.bs).set (nth dd w) {bi (nth V w).ac with rows:=(bi (nth V w).ac).rows.set j.toNat (fk (aW (nth (nth V w).ac j)) 0 (ff (TV.b x).bB))})
   rw[ij,Ei]
   exact this
  ·exact h.elim
 ·exact h.elim
def GA (P:Program) (t:TypeId) (l c:TV) (s:TS) (K:TV→TS→aU):aU:=match l with
 | .i _ l=>(match c with
  | .i _ c=>(match s.get dH with
   | .gZ V ids _ _=> .all Nat fun id=>
    let s':=s.add [(gb,.new id (List.replicate l.toNat false))] s.vs s.bn
    .eq (BW P t) (some ([AV.bool false],qj P t)) (.eq l c (.eq s'.cs s.cs (.p (0≤l∧(qj P t:Int)*l≤140737488355328∧l≤1048576) (K (.zg id s.bn (List.replicate l.toNat false).length) s'))))
   | _=> .no)
  | _=> .no)
 | _=> .no
theorem aag (aF:cf.n≤1000000) (aN:Fits s) {t:TypeId} {l c:TV} {K:TV→TS→aU} {Kp:AV→List (Nat×List AV)→List Blk→Prop} (hK:vE cf s R K Kp) (h:(GA P t l c s K).den R):wX P t l.bB c.bB (s.aI cf.n).L (s.aI cf.n).H Kp:=by
 unfold GA at h
 split at h
 ·split at h
  ·split at h
   ·rename_i BV l0 l oG ZA c agm V ids bT kF hk
    obtain⟨h1,h2,aO,bb,bV⟩:=h Z.bs.length
    subst h2
    obtain⟨nF,z,q1,q2,q3,q4,cL,cY⟩:=N6 h1
    refine ej q1 (ej q2 ?_)
    rw[if_pos ⟨q3,q4⟩]
    refine⟨bb.1,Int.le_refl _,by rw[←cY];exact bb.2.1,by have:=bb.2.2;omega,?_⟩
    obtain⟨G,e,kB⟩:=aN V ids _ _ hk
    have qA:(List.replicate l.toNat false).length≤1048576:=by rw[List.length_replicate];have:=bb.2.2;omega
    obtain⟨nM,dW⟩:=G.snoc qA
    have ct:=zU (n:=cf.n) (s:=s) (l:=[(gb,TV.new Z.bs.length (List.replicate l.toNat false))]) aF (fun p aG=>by rw[List.mem_singleton.1 aG];show 1000000≤gb;unfold gb;omega)
    have LL:(s.add [(gb,TV.new Z.bs.length (List.replicate l.toNat false))] s.vs s.bn).get dH= .gZ V ids bT kF:=by rw[TS.iL,gG,if_neg (by unfold dH gb;omega)];exact hk
    have sK: @Fits ⟨Z.ws,Z.bs++[List.replicate l.toNat false]⟩ (s.add [(gb,TV.new Z.bs.length (List.replicate l.toNat false))] s.vs s.bn):=by
     intro V3 BJ og Bu aO
     rw[LL] at aO
     cases aO
     refine⟨nM,dW.trans e,fun id xs hx=> ?_⟩
     rw[TS.iL,gG,if_pos rfl] at hx
     cases hx
     refine⟨by show Z.bs.length<(Z.bs++[List.replicate l.toNat false]).length;rw[List.length_append];simp,by show(Z.bs++[List.replicate l.toNat false]).getD Z.bs.length []=_;rw[List.getD_eq_getElem?_getD,List.getElem?_append_right (Nat.le_refl _)];simp,fun j aM=> ?_⟩
     have:=G.ok.lt j _ aM;omega
    have:=hK _ _ ⟨Z.ws,Z.bs++[List.replicate l.toNat false]⟩ bV sK ct
    rw[aO] at this
    have Ba:(s.aI cf.n).H=s.gn++List.map bi Z.bs:=ru hk
    have ED:= @ru ⟨Z.ws,Z.bs++[List.replicate l.toNat false]⟩ cf.n _ V ids bT kF LL
    have mO: @TS.gn ⟨Z.ws,Z.bs++[List.replicate l.toNat false]⟩ (s.add [(gb,TV.new Z.bs.length (List.replicate l.toNat false))] s.vs s.bn)= @TS.gn Z s:=by
     show(List.range s.bn).map _=(List.range s.bn).map _
     refine List.map_congr_left fun b _=> ?_
     rw[TS.iL,gG,if_neg (by unfold gb bA;omega)]
     show @TV.ep _ (s.get (bA b))= @TV.ep Z (s.get (bA b))
     cases s.get (bA b)<;>rfl
    rw[ED,mO] at this
    have hlen:(s.aI cf.n).H.length=Z.bs.length+s.bn:=by rw[Ba,List.length_append,m7,List.length_map];omega
    have uv:z.length=1:=by have:=congrArg List.length cL;simpa using this.symm
    rw[hlen,uv,←cL,Ba]
    show Kp (.ref (Z.bs.length+s.bn) 0 0 l.toNat false) s.cs (s.gn++List.map bi Z.bs++[⟨0,1,List.replicate l.toNat [AV.bool false]⟩])
    rw[show List.replicate l.toNat [AV.bool false]=List.map aW (List.replicate l.toNat false) by rw[List.map_replicate];rfl,List.append_assoc,rv]
    have UA:(List.replicate l.toNat false).length=l.toNat:=List.length_replicate
    rw[UA] at this
    exact this
   ·exact h.elim
  ·exact h.elim
 ·exact h.elim
def Se (P:Program) (t:TypeId) (b g:Nat) (i:Int) (c:Nat) (v:TV) (s:TS) (dG:Nat) (a7:List TV) (K:TS→aU):aU:=
 let dB:=a7.take c++qg v++a7.drop (c+(qg v).length)
 let s':=s.gN b s.bn (.eG g dB)
 .eq dG g (.eq i 0 (.eq (Nat.blt b s.bn&&w5 v&&vg P t v.bB&&Nat.ble (c+(ff v.bB).length) a7.length) true (.eq (fk (cP a7) c (ff v.bB)) (cP dB) (.eq dB.length a7.length (.eq s'.cs s.cs (K s'))))))
theorem aeW (aF:cf.n≤1000000) {t:TypeId} {b g c dG:Nat} {a7:List TV} {i:Int} {v:TV} {K:TS→aU} {Kp:List (Nat×List AV)→List Blk→Prop} (aN:Fits s) (hg:s.get (bA b)= .eG dG a7)
  (hK: ∀s' (Z':FZ),(K s').den R→ @Fits Z' s'→s'.tT cf.n=s.tT cf.n→Kp s'.cs (@TS.aI Z' cf.n s').H) (h:(Se P t b g i c v s dG a7 K).den R):
  l7 P t (.ptr b g i.toNat c) v.bB (s.aI cf.n).L (s.aI cf.n).H Kp:=by
 obtain⟨h1,h2,aO,bb,cb,cE,h⟩:=h
 subst h1;subst h2
 simp only[Bool.and_eq_true] at aO
 obtain⟨⟨⟨hb,_⟩,bj⟩,hle⟩:=aO
 have hb:b<s.bn:=by rw[←Nat.blt_eq];exact hb
 have hs:=CG bj
 unfold l7
 rw[if_pos hs]
 refine ej (by rw[q5 hb,hg]) ⟨rfl,ej (a:=cP a7) rfl ⟨by rw[nP,List.length_map];exact Nat.le_of_ble_eq_true hle,?_⟩⟩
 have:=hK _ Z h (qd aN) (qc aF)
 rw[tK hb,cE] at this
 show Kp s.cs ((s.aI cf.n).H.set b ⟨dG,a7.length,[fk (cP a7) c (ff v.bB)]⟩)
 rw[bb,←cb]
 exact this
end
inductive nN where
 | v (e:bH)
 | fr
 | w
def nN.es:List nN→List bH
 | []=>[]
 | .v e::r=>e::nN.es r
 | .fr::r=>nN.es r
 | .w::r=> .int::nN.es r
def yg (hg:Nat):(l:List nN)→c5 (nN.es l)→List AV
 | [],_=>[]
 | .v e::r,x=>nV e x.1::yg hg r x.2
 | .fr::r,x=> .ptr 0 hg 0 0::yg hg r x
 | .w::r,x=> .ptr 3 0 (show Int from x.1).toNat 0::yg hg r x.2
def Cy (F:Frame):List TV:=[.b (.v F.ok),.ref 1 0 F.au.length false,.ref 2 0 F.an.length false,.ref 3 0 F.O.length false]
def Ep [Z:FZ] (hg:Nat) (ids:List Nat) (F:Frame):List Blk:=
 [⟨hg,4,[cP (Cy F)]⟩,⟨0,1,F.au.map (b8 true .bool)⟩,⟨0,2,F.an.map (b8 true .gI)⟩,⟨0,5,aZ 4 Z.ws ids⟩]++Z.bs.map bi
def C5 [Z:FZ] (ids:List Nat) (F:Frame):Prop:=gr Z.ws ids Z.bs∧view Z.ws ids Z.bs=F.O
def S0 (P:Program) (f:FuncId) (hg:Nat) (args:List AV) (F:Frame) (Jq:Frame) (v:AV):Prop:=
 ∀(Z:FZ) (ids:List Nat),@C5 Z ids F→dF P f args (@Ep Z hg ids F) fun r H'=>r=v∧ ∃(Z':FZ) (dd:List Nat),@C5 Z' dd Jq∧H'= @Ep Z' hg dd Jq
def wW (hg:Nat) (ids:List Nat) (F:Frame):List (Nat×TV):=
 [(bA 0,.eG hg (Cy F)),(bA 1,.blk 0 .bool F.au F.au.length rfl),(bA 2,.blk 0 .gI F.an F.an.length rfl),(bA 3,.kt 0 4 ids),(dH,.gZ F.O ids F.O.length rfl)]
def Eo (s:TS) (K:Nat→Frame→List Nat→aU):aU:=match s.get (bA 0) with
 | .eG g a7=>(match a7 with
  | [.b k,.ref jc a3 mW f1,.ref dg a1 n2 f2,.ref p8 bP og f3]=>(match s.get (bA 1) with
   | .blk h1 bx o a0 _=>if q1:bx=bH.bool then(match s.get (bA 2) with
    | .blk h2 e2 q bD _=>if q2:e2=bH.gI then(match s.get (bA 3) with
     | .kt aO hH ids=>(match s.get dH with
      | .gZ V dd bT _=> .eq s.bn 4 (.eq (jc,a3,mW,f1) (1,0,a0,false) (.eq (dg,a1,n2,f2) (2,0,bD,false) (.eq (p8,bP,og,f3) (3,0,bT,false) (.eq (h1,h2,aO,hH) (0,0,0,4)
       (.eq dd ids (K g ⟨k.den,lR q1 o,lR q2 q,V⟩ ids))))))
      | _=> .no)
     | _=> .no) else .no
    | _=> .no) else .no
   | _=> .no)
  | _=> .no)
 | _=> .no
theorem VF [Z:FZ] {n:Nat} {s:TS} {K:Nat→Frame→List Nat→aU} {R:Exit→TS→Prop} (aN:Fits s) (h:(Eo s K).den R): ∃g F ids,(K g F ids).den R∧C5 ids F∧(s.aI n).H=Ep g ids F∧s.bn=4∧s.get dH= .gZ F.O ids F.O.length rfl:=by
 unfold Eo at h
 split at h
 ·rename_i g a7 pz
  split at h
  ·split at h
   ·rename_i h1 bx o a0 W4 lX
    split at h
    ·rename_i q1
     subst q1
     split at h
     ·rename_i h2 e2 q bD qv yD
      split at h
      ·rename_i q2
       subst q2
       split at h
       ·rename_i aO hH ids WT
        split at h
        ·rename_i V dd bT kF hk
         obtain⟨a_,dP,h_,oQ,Zy,Gh,h⟩:=h
         cases dP;cases h_;cases oQ;cases Zy;subst Gh;subst W4;subst qv;subst kF
         obtain⟨G,e,_⟩:=aN V dd _ _ hk
         refine⟨_,_,_,h,⟨G,e⟩,?_,a_,hk⟩
         rw[ru hk]
         have iM:s.gn=[(s.get (bA 0)).ep,(s.get (bA 1)).ep,(s.get (bA 2)).ep,(s.get (bA 3)).ep]:=by unfold TS.gn;rw[a_];rfl
         rw[iM,pz,lX,yD,WT];rfl
        ·exact h.elim
       ·exact h.elim
      ·exact h.elim
     ·exact h.elim
    ·exact h.elim
   ·exact h.elim
  ·exact h.elim
 ·exact h.elim
structure sm (P:Program) where
 f:FuncId
 jl:List nN
 rs:List bH
 pre:c5 (nN.es jl)→Frame→Prop
 fn:c5 (nN.es jl)→Frame→Frame
 aH:c5 (nN.es jl)→Frame→c5 rs
 ok: ∀hg x F,pre x F→S0 P f hg (yg hg jl x) F (fn x F) (kX rs (aH x F))
def lO:(l:List nN)→List TV→c5 (nN.es l)
 | [],_=>()
 | .v e::r,v::vs=>(VL e v,lO r vs)
 | .fr::r,_::vs=>lO r vs
 | .w::r,v::vs=>((match v with
  | .ptr _ _ i _ _=>i
  | _=>(0:Int)),lO r vs)
 | .v e::r,[]=>(e.uA.default,lO r [])
 | .fr::r,[]=>lO r []
 | .w::r,[]=>((0:Int),lO r [])
def A6 {P:Program}:List (sm P)→FuncId→(sm P→aU)→aU→aU
 | [],_,_,t=>t
 | c::r,f,K,t=>match Nat.beq c.f f with
  | true=>K c
  | false=>A6 r f K t
def Du {P:Program} (c:sm P) (args:List TV) (s:TS) (K:TV→TS→aU):aU:=Eo s fun g F ids=>
 .eq (cP args) (yg g c.jl (lO c.jl args)) (.eq ((cP args).all e1&&(cP args).all jZ) true (.p (c.pre (lO c.jl args) F) (.all (List Nat) fun dd=>
  let s':=s.add ((gb,.u)::wW g dd (c.fn (lO c.jl args) F)) s.vs s.bn
  .eq s'.cs s.cs (.eq (w2 (kX c.rs (c.aH (lO c.jl args) F))) true (K (Cw c.rs (c.aH (lO c.jl args) F)) s')))))
theorem aad (hg:Nat) (ids:List Nat) (F:Frame) (s:TS):let s':=s.add ((gb,.u)::wW hg ids F) s.vs s.bn
  s'.get (bA 0)= .eG hg (Cy F)∧s'.get (bA 1)= .blk 0 .bool F.au F.au.length rfl∧s'.get (bA 2)= .blk 0 .gI F.an F.an.length rfl∧s'.get (bA 3)= .kt 0 4 ids∧s'.get dH= .gZ F.O ids F.O.length rfl∧s'.get gb= .u:=by
 intro s'
 have aT:gb≠bA 0∧gb≠bA 1∧gb≠bA 2∧gb≠bA 3∧gb≠dH:=by unfold gb bA dH;omega
 have e: ∀k,s'.get k=fU ((gb,.u)::wW hg ids F) k (s.get k):=fun k=>TS.iL ..
 refine⟨?_,?_,?_,?_,?_,?_⟩<;>rw[e]<;>rfl
theorem T4 [Z:FZ] {P:Program} {n:Nat} (aF:n≤1000000) {c:sm P} {args:List TV} {s:TS} {K:TV→TS→aU} {R:Exit→TS→Prop} {Kp:AV→List (Nat×List AV)→List Blk→Prop} (aN:Fits s)
  (hK: ∀v s' (Z':FZ),(K v s').den R→ @Fits Z' s'→s'.tT n=s.tT n→Kp v.bB s'.cs (@TS.aI Z' n s').H) (h:(Du c args s K).den R):li P c.f (cP args) (s.aI n).L (s.aI n).H Kp:=by
 unfold Du at h
 obtain⟨g,F,ids,bV,h1,h2,aO,_⟩:=VF (n:=n) aN h
 obtain⟨dP,h_,oQ,hk⟩:=bV
 simp only[Bool.and_eq_true] at h_
 refine .inr (.inr (.inl ⟨h_.1,h_.2,?_⟩))
 rw[h2,dP]
 refine(c.ok g _ F oQ Z ids h1).mono fun r H' aj=> ?_
 obtain⟨rfl,Z',dd,q1,rfl⟩:=aj
 obtain⟨Gh,Zz,hk⟩:=hk dd
 refine⟨Zz,?_⟩
 obtain⟨aA,a0,bD,cd,du,iS⟩:=aad g dd (c.fn (lO c.jl args) F) s
 have sK: @Fits Z' (s.add ((gb,.u)::wW g dd (c.fn (lO c.jl args) F)) s.vs s.bn):=by
  intro V3 BJ og Bu aO
  rw[du] at aO
  cases aO
  refine⟨q1.1,q1.2,fun id xs hx=> ?_⟩
  rw[iS] at hx;cases hx
 have:=hK _ _ Z' hk sK (zU aF fun p aG=>by
  simp only[wW,List.mem_cons,List.not_mem_nil,or_false] at aG
  rcases aG with rfl | rfl | rfl | rfl | rfl | rfl
  ·show 1000000≤gb;unfold gb;omega
  ·show 1000000≤bA 0;unfold bA;omega
  ·show 1000000≤bA 1;unfold bA;omega
  ·show 1000000≤bA 2;unfold bA;omega
  ·show 1000000≤bA 3;unfold bA;omega
  ·exact Nat.le_refl _)
 rw[Gh,Hl,@ru Z' n _ _ _ _ _ du] at this
 have iM: @TS.gn Z' (s.add ((gb,.u)::wW g dd (c.fn (lO c.jl args) F)) s.vs s.bn)=[@TV.ep Z' (.eG g (Cy (c.fn (lO c.jl args) F))),@TV.ep Z' (.blk 0 .bool (c.fn (lO c.jl args) F).au _ rfl),@TV.ep Z' (.blk 0 .gI (c.fn (lO c.jl args) F).an _ rfl),@TV.ep Z' (.kt 0 4 dd)]:=by
  rw[←aA,←a0,←bD,←cd]
  show(List.range s.bn).map _=_
  rw[aO];rfl
 rw[iM] at this
 exact this
inductive fO where
 | v (e:bH)
 | p
def fO.es:List fO→List bH
 | []=>[]
 | .v e::r=>e::fO.es r
 | .p::r=>fO.es r
def jQ (g:Nat):(l:List fO)→c5 (fO.es l)→List AV
 | [],_=>[]
 | .v e::r,x=>nV e x.1::jQ g r x.2
 | .p::r,x=> .ptr 0 g 0 0::jQ g r x
structure lg (P:Program) where
 f:FuncId
 ce:bH
 jl:List fO
 rs:List bH
 pre:c5 (fO.es jl)→ce.T→Prop
 fn:c5 (fO.es jl)→ce.T→ce.T
 aH:c5 (fO.es jl)→ce.T→c5 rs
 ok: ∀g x c,pre x c→iJ P f g (jQ g jl x) (b8 false ce c) (b8 false ce (fn x c)) (kX rs (aH x c))
def OR:List fO→List TV→TV
 | .p::_,v::_=>v
 | .v _::r,_::vs=>OR r vs
 | _,_=> .u
def EJ:List fO→Bool
 | []=>false
 | .p::_=>true
 | .v _::r=>EJ r
def Hu:TS:=⟨[],[],[],0⟩
def AC (p:AV):(l:List fO)→List TV→(c5 (fO.es l)→List Prop→aU)→aU
 | [],[],K=>K () []
 | .v e::r,v::vs,K=>conv Hu e v fun x o=>AC p r vs fun y lu=>K (x,y) (o++lu)
 | .p::r,v::vs,K=> .eq v.bB p (AC p r vs K)
 | _,_,_=> .no
def aar (e:bH):Bool:=e.oW
def DB {P:Program} (c:lg P) (args:List TV) (p:AV) (cells:List TV) (K:TV→c.ce.T→aU):aU:=
 .eq (cP cells) (b8 false c.ce (c.ce.mk (oI c.ce.kJ cells))) (.eq (EJ c.jl&&aar c.ce&&(cP args).all e1) true (AC p c.jl args fun x o=>
  B9 (o++[c.pre x (c.ce.mk (oI c.ce.kJ cells))]) (K (Cw c.rs (c.aH x (c.ce.mk (oI c.ce.kJ cells)))) (c.fn x (c.ce.mk (oI c.ce.kJ cells))))))
def DC {P:Program} (c:lg P) (args:List TV) (s:TS) (K:TV→TS→aU):aU:=match OR c.jl args with
 | .ptr b g _ _ _=>(match s.get (bA b) with
  | .eG dG cells=>(match Nat.blt b s.bn with
   | true=> .eq dG g (DB c args (.ptr b g 0 0) cells fun v y=>
     let s':=s.gN b s.bn (.eG g (gE false c.ce y))
     .eq s'.cs s.cs (K v s'))
   | false=> .no)
  | _=> .no)
 | .lp v _=>(match kL s.vs v with
  | some m=>DB c args (.fF v 0) (hQ s v 0 m) fun w y=>
    let s':=s.add (tO v 0 (gE false c.ce y)) s.vs s.bn
    .eq s'.cs (k_ s.cs v (b8 false c.ce y)) (.eq (pf (tO v 0 (gE false c.ce y))) true (K w s'))
  | none=> .no)
 | _=> .no
def A7 {P:Program}:List (lg P)→FuncId→(lg P→aU)→aU→aU
 | [],_,_,t=>t
 | c::r,f,K,t=>match Nat.beq c.f f with
  | true=>K c
  | false=>A7 r f K t
theorem KT {P:Program} {f:FuncId} {K:lg P→aU} {t:aU} {R:Exit→TS→Prop}: ∀{pY:List (lg P)},(A7 pY f K t).den R→(∃m,m.f=f∧(K m).den R)∨t.den R
 | [],h=> .inr h
 | c::r,h=>by
  unfold A7 at h
  split at h
  ·rename_i hf;exact .inl ⟨c,Nat.eq_of_beq_eq_true hf,h⟩
  ·exact KT h
theorem AP {e:bH} (h:e.oW=true) (x:e.T):(b8 false e x).all uB=true∧(b8 false e x).all jv=true:=by cases e<;>first | exact⟨rfl,rfl⟩ | cases h
theorem DA {p:AV} {g:Nat} {R:Exit→TS→Prop}: ∀{l:List fO} {vs:List TV} {K:c5 (fO.es l)→List Prop→aU},(AC p l vs K).den R→ ∃x o,(K x o).den R∧((∀φ∈o,φ)→aE (tB p (.ptr 0 g 0 0)) (cP vs) (jQ g l x))∧(EJ l=true→p∈cP vs)
 | [],[],K,h=>⟨(),[],h,fun _=>aE.nil,fun h=>by cases h⟩
 | .v e::r,v::vs,K,h=>by
  letI Z:FZ:=⟨[],[]⟩
  obtain⟨x,o,h,dP⟩:=Dz (n:=0) (Fits.none (s:=Hu) rfl) (show(conv Hu e v _).den R from h)
  obtain⟨y,lu,h,h_,oQ⟩:=DA (l:=r) h
  exact⟨(x,y),o++lu,h,fun aC=>aE.cons (.inr (dP fun φ e7=>aC φ (List.mem_append_left _ e7))) (h_ fun φ e7=>aC φ (List.mem_append_right _ e7)),fun aG=>List.mem_cons_of_mem _ (oQ aG)⟩
 | .p::r,v::vs,K,h=>by
  obtain⟨e,h⟩:=h
  obtain⟨y,lu,h,h_,oQ⟩:=DA (l:=r) h
  exact⟨y,lu,h,fun aC=>aE.cons (.inl ⟨e,rfl⟩) (h_ aC),fun _=>by rw[cP,e];exact List.mem_cons_self ..⟩
 | [],_::_,K,h=>h.elim
 | .v _::_,[],K,h=>h.elim
 | .p::_,[],K,h=>h.elim
theorem Kd {P:Program} {c:lg P} {args:List TV} {p:AV} {cells:List TV} {K:TV→c.ce.T→aU} {R:Exit→TS→Prop} (g:Nat) (h:(DB c args p cells K).den R):
  ∃eu x y t,(K t y).den R∧(cP args).all e1=true∧cP cells=b8 false c.ce x∧c.ce.oW=true∧p∈cP args∧aE (tB p (.ptr 0 g 0 0)) (cP args) eu∧iJ P c.f g eu (b8 false c.ce x) (b8 false c.ce y) t.bB:=by
 obtain⟨h1,h2,h⟩:=h
 simp only[Bool.and_eq_true] at h2
 obtain⟨x,o,h,h_,oQ⟩:=DA (g:=g) h
 obtain⟨aC,h⟩:=Oo h
 refine⟨_,_,_,_,h,h2.2,h1,h2.1.2,oQ h2.1.1,h_ fun φ e7=>aC φ (List.mem_append_left _ e7),?_⟩
 rw[Hl]
 exact c.ok g x _ (aC _ (List.mem_append_right _ (List.mem_singleton.2 rfl)))
theorem Cr {c:List TV} {e:bH} {x:e.T} (h:cP c=b8 false e x):c.length=(b8 false e x).length:=by rw[←h,nP,List.length_map]
theorem T_ [Z:FZ] {P:Program} {n:Nat} (aF:n≤1000000) {c:lg P} {args:List TV} {s:TS} {K:TV→TS→aU} {R:Exit→TS→Prop} {Kp:AV→List (Nat×List AV)→List Blk→Prop} (aN:Fits s)
  (hK: ∀v s' (Z':FZ),(K v s').den R→ @Fits Z' s'→s'.tT n=s.tT n→Kp v.bB s'.cs (@TS.aI Z' n s').H) (h:(DC c args s K).den R):li P c.f (cP args) (s.aI n).L (s.aI n).H Kp:=by
 unfold DC at h
 split at h
 ·rename_i b g i m col aG
  split at h
  ·rename_i dG cells hg
   split at h
   ·rename_i hb
    have hb:b<s.bn:=by rw[←Nat.blt_eq];exact hb
    obtain⟨e,h⟩:=h
    subst e
    obtain⟨eu,x,y,t,bV,h1,h2,aO,bb,cb,cE⟩:=Kd dG h
    obtain⟨b0,bV⟩:=bV
    refine .inr (.inr (.inr ⟨h1,eu,b8 false c.ce x,b8 false c.ce y,t.bB,(AP aO x).1,(AP aO y).2,.inl ⟨b,dG,?_,bb,cb,cE,?_⟩⟩))
    ·rw[q5 hb,hg]
     show some (Blk.mk dG cells.length [cP cells])=_
     rw[Cr h2,h2]
    ·have:=hK _ _ Z bV (qd aN) (qc aF)
     rw[b0,tK hb] at this
     have bx:TV.ep (.eG dG (gE false c.ce y))=Blk.mk dG (b8 false c.ce x).length [b8 false c.ce y]:=by
      show Blk.mk dG (gE false c.ce y).length [cP (gE false c.ce y)]=_
      rw[Cr (vR false c.ce y),vR,rq,rq]
     rw[bx] at this
     exact this
   ·exact h.elim
  ·exact h.elim
 ·rename_i v col aG
  split at h
  ·rename_i m hm
   obtain⟨eu,x,y,t,bV,h1,h2,aO,bb,cb,cE⟩:=Kd 0 h
   obtain⟨b0,hb,bV⟩:=bV
   refine .inr (.inr (.inr ⟨h1,eu,b8 false c.ce x,b8 false c.ce y,t.bB,(AP aO x).1,(AP aO y).2,.inr ⟨v,?_,bb,cb,cE,?_⟩⟩))
   ·rw[vh,hm,←h2];rfl
   ·have:=hK _ _ Z bV (x1 hb aN) (x0 aF hb)
    rw[b0,xZ hb] at this
    exact this
  ·exact h.elim
 ·exact h.elim
structure p3 (P:Program) where
 len:List Nat
 o5:List (sm P)
 CQ:List (lg P)
def IX (P:Program) (n:Nat) (t:TypeId) (b g:Nat) (i:Int) (m c:Nat) (v:TV) (s:TS) (w:TV) (K:TS→aU):aU:=match w with
 | .kt dG hH ids=>(match w5 v with
  | true=>IY P t b g i c v s dG hH ids K
  | false=> .no)
 | .eG dG a7=>Se P t b g i c v s dG a7 K
 | _=>IS P n t b g i m c v s K
section
variable {P:Program} (cf:g_ P) (s:TS)
def CV (ey:p3 P) (o:Oper) (K:TV→TS→aU):aU:=match o.op with
 | .store t a v=>(match cN cf.n s a with
  | .lp x c=>pn (cN cf.n s v) fun w=>ym cf s o (.tup []) (tO x c (qg w)) s.vs K
  | .ptr b g i m c=>pn (cN cf.n s v) fun w=>IX P cf.n t b g i m c w s (s.get (bA b)) fun s'=>K (.tup []) s'
  | .we w ids m j=>pn (cN cf.n s v) fun x=>zW P t w ids m j x s fun s'=>K (.tup []) s'
  | _=> .no)
 | .alloc e=>(match o.dst with
  | some d=>ym cf s o (.lp d 0) (tO d 0 (z_ P e)) ((d,(z_ P e).length)::s.vs) K
  | none=> .no)
 | .box _ x=>(match o.dst with
  | some d=>pn (cN cf.n s x) fun w=>ym cf s o (.lp d 0) (tO d 0 (qg w)) ((d,(qg w).length)::s.vs) K
  | none=> .no)
 | .makeSlice t l c=>(match il s with
  | true=>wV cf.sA t fun e=>GB P cf.n t e (cN cf.n s l) (cN cf.n s c) s K
  | false=>GA P t (cN cf.n s l) (cN cf.n s c) s K)
 | .buildSlice t m ps=>wV cf.sA t fun e=>BT s e (ps.toList.map fun p=>cN cf.n s p.2) fun xs=>rF (fun H Q=>jR P o (fun x=>(cN cf.n s x).bB) s.cs H Q) (fun v=>K v s) (.v (NV e xs (ps.toList.map fun p=>cN cf.n s p.2)))
 | .binOp op t x y _=>(match cN cf.n s x with
  | .l e xs _ _=>(match op with
   | .eql=> .eq (qF y&&(jg P t).isSome) true (.two (.jW (xs≠[]) (K (.b .f) s)) (.jW (xs=[]) (.all Bool fun b=>K (.b (.v b)) s)))
   | _=> .no)
  | _=>sb cf s o fun v=>K v s)
 | .call c=>(match c.callee with
  | .builtin b=>(match b with
   | .len=>(match c.args.toList,c.argTypes.toList with
    | [x],[t]=>(match cN cf.n s x with
     | .l e xs eB fr=>(match o.dst with
      | some d=>(match ey.len.any (Nat.beq d) with
       | true=>sb cf s o fun v=>K v s
       | false=> .eq (jY P t (TV.l e xs eB fr).bB) true (.jW (xs.length≤4611686018427387904) (K (.i .i64 xs.length) s)))
      | none=> .no)
     | _=>sb cf s o fun v=>K v s)
    | _,_=> .no)
   | .append=>(match c.args.toList,c.argTypes.toList with
    | [x,y],[t,t2]=>Da P cf.n t t2 (cN cf.n s x) (cN cf.n s y) s K
    | _,_=> .no)
   | _=> .no)
  | .value f=>(match cN cf.n s f with
   | .fn g caps=>A6 ey.o5 g (fun m=>Du m (c.args.toList.map (cN cf.n s)++caps) s K) (A7 ey.CQ g (fun m=>DC m (c.args.toList.map (cN cf.n s)++caps) s K) (sb cf s o fun v=>K v s))
   | _=> .no)
  | _=> .no)
 | _=>sb cf s o fun v=>K v s
end
section
variable {P:Program} {cf:g_ P} {s:TS} {R:Exit→TS→Prop}
variable {K:TV→TS→aU} {Kp:AV→List (Nat×List AV)→List Blk→Prop}
theorem aeS {t:TypeId} {m:Nat} {ids:List Nat} {w j:Int} {v:TV} {K:TS→aU} (h:(zW P t w ids m j v s K).den R):e1 v.bB=true:=by
 unfold zW at h
 split at h
 ·obtain⟨_,_,_,h⟩:=h
  split at h
  ·rfl
  ·exact h.elim
 ·exact h.elim
end
section
variable {P:Program} {cf:g_ P} {s:TS} {R:Exit→TS→Prop}
variable {K:TV→TS→aU} {Kp:AV→List (Nat×List AV)→List Blk→Prop}
theorem KS {f:FuncId} {K:sm P→aU} {t:aU}: ∀{pY:List (sm P)},(A6 pY f K t).den R→(∃m,m.f=f∧(K m).den R)∨t.den R
 | [],h=> .inr h
 | c::r,h=>by
  unfold A6 at h
  split at h
  ·rename_i hf;exact .inl ⟨c,Nat.eq_of_beq_eq_true hf,h⟩
  ·exact KS h
end
section
variable [Z:FZ] {P:Program} {cf:g_ P} {s:TS} {R:Exit→TS→Prop}
variable {K:TV→TS→aU} {Kp:AV→List (Nat×List AV)→List Blk→Prop}
theorem aeV (aF:cf.n≤1000000) (aN:Fits s) {t:TypeId} {b g m c:Nat} {i:Int} {v:TV} {K:TS→aU} {Kp:List (Nat×List AV)→List Blk→Prop} (hK: ∀s' (Z':FZ),(K s').den R→ @Fits Z' s'→s'.tT cf.n=s.tT cf.n→Kp s'.cs (@TS.aI Z' cf.n s').H)
  (h:(IX P cf.n t b g i m c v s (s.get (bA b)) K).den R):e3 (e1 v.bB) (l7 P t (.ptr b g i.toNat c) v.bB (s.aI cf.n).L (s.aI cf.n).H Kp):=by
 unfold IX at h
 split at h
 ·rename_i dG hH ids hg
  split at h
  ·rename_i hv
   exact B5 (B4 hv) (aeX aF aN hg hK h)
  ·exact h.elim
 ·rename_i dG a7 hg
  have aO:(Nat.blt b s.bn&&w5 v&&vg P t v.bB&&Nat.ble (c+(ff v.bB).length) a7.length)=true:=h.2.2.1
  simp only[Bool.and_eq_true] at aO
  exact B5 (B4 aO.1.1.2) (aeW aF aN hg hK h)
 ·exact aeL aF aN hK h
theorem SA (aF:cf.n≤1000000) (aN:Fits s) {ey:p3 P} {o:Oper} (hK:vE cf s R K Kp) (h:(CV cf s ey o K).den R):kb P [] o (cr (s.aI cf.n).T) (s.aI cf.n).L (s.aI cf.n).H Kp:=by
 have zz: ∀v,(K v s).den R→Kp v.bB (s.aI cf.n).L (s.aI cf.n).H:=fun v hv=>hK v s Z hv aN rfl
 have rd:(sb cf s o fun v=>K v s).den R→jR P o (cr (s.aI cf.n).T) (s.aI cf.n).L (s.aI cf.n).H fun r=>Kp r (s.aI cf.n).L (s.aI cf.n).H:=fun h=>Pa aN (Kp:=fun r=>Kp r (s.aI cf.n).L (s.aI cf.n).H) zz h
 unfold CV at h
 split at h
 ·rename_i t a v fS
  split at h
  ·rw[qm] at h;exact EA aF aN hK h
  ·rename_i b g i m c a4
   rw[qm] at h
   obtain⟨dst,op,ty,pos,after,guard⟩:=o
   cases fS
   show e3 (e1 (cr (s.aI cf.n).T v)) (l7 P t (cr (s.aI cf.n).T a) (cr (s.aI cf.n).T v) _ _ _)
   rw[k3]
   show e3 (e1 (cN cf.n s v).bB) (l7 P t (cN cf.n s a).bB (cN cf.n s v).bB _ _ _)
   rw[a4]
   exact aeV aF aN (fun s' Z' h1 hf h2=>hK (.tup []) s' Z' h1 hf h2) h
  ·rename_i w ids m j a4
   rw[qm] at h
   obtain⟨dst,op,ty,pos,after,guard⟩:=o
   cases fS
   show e3 (e1 (cr (s.aI cf.n).T v)) (l7 P t (cr (s.aI cf.n).T a) (cr (s.aI cf.n).T v) _ _ _)
   rw[k3]
   show e3 (e1 (cN cf.n s v).bB) (l7 P t (cN cf.n s a).bB (cN cf.n s v).bB _ _ _)
   rw[a4]
   refine B5 ?_ (aeT aF aN (fun s' Z' h1 hf h2=>hK (.tup []) s' Z' h1 hf h2) h)
   exact aeS h
  ·exact h.elim
 ·split at h
  ·exact EA aF aN hK h
  ·exact h.elim
 ·split at h
  ·rw[qm] at h;exact EA aF aN hK h
  ·exact h.elim
 ·rename_i t l c fS
  obtain⟨dst,op,ty,pos,after,guard⟩:=o
  cases fS
  show wX P t (cr (s.aI cf.n).T l) (cr (s.aI cf.n).T c) _ _ _
  rw[k3]
  split at h
  ·obtain⟨e,h⟩:=Gs h
   exact aai aF aN hK h
  ·exact aag aF aN hK h
 ·rename_i t m ps fS
  obtain⟨e,h⟩:=Gs h
  obtain⟨xs,h⟩:=Gr (n:=cf.n) aN h
  refine abe fS ?_
  rw[k3]
  exact sG (F:=fun H Q=>jR P o _ _ H Q) (s.aI cf.n).H (Kp:=fun r=>Kp r (s.aI cf.n).L (s.aI cf.n).H) zz h
 ·rename_i op t x y ty2 fS
  split at h
  ·rename_i e xs eB fr hx
   split at h
   ·obtain⟨h1,h2,aO⟩:=h
    obtain⟨dst,op,ty,pos,after,guard⟩:=o
    cases fS
    show su P .eql t (cr (s.aI cf.n).T x) _ (qF y) _
    rw[k3]
    show su P .eql t (cN cf.n s x).bB _ (qF y) _
    rw[hx]
    show if qF y=true∧(jg P t).isSome=true then _ else _
    rw[if_pos (by simpa using h1)]
    refine⟨fun cm=> ?_,fun he b=> ?_⟩
    ·exact zz (.b .f) (h2 fun e=>cm (by rw[e];rfl))
    ·exact zz (.b (.v b)) (aO (by simpa using he) b)
   ·exact h.elim
  ·refine Pb (rd h) (fun c=>by rw[fS];intro e;cases e) (fun t m ps=>by rw[fS];intro e;cases e)
 ·rename_i c fS
  obtain⟨callee,args,argTypes⟩:=c
  split at h
  ·rename_i b hb
   cases hb
   split at h
   ·split at h
    ·rename_i x t h1 h2
     simp only at h1 h2
     split at h
     ·rename_i e xs eB fr hx
      split at h
      ·split at h
       ·exact Hi fS (rd h)
       ·obtain⟨bx,h⟩:=h
        obtain⟨dst,op,ty,pos,after,guard⟩:=o
        cases fS
        show(match args.toList,argTypes.toList with
         | [x],[t]=>e3 (jY P t (cr (s.aI cf.n).T x)) (rZ (cr (s.aI cf.n).T x) fun r=>Kp r _ _)
         | _,_=>False)
        simp only[h1,h2]
        rw[k3]
        show e3 (jY P t (cN cf.n s x).bB) (rZ (cN cf.n s x).bB _)
        rw[hx,bx]
        show(List.map _ _).length≤_→Kp (.int .i64 ((List.map _ _).length:Nat)) _ _
        rw[List.length_map]
        exact fun aL=>zz _ (h aL)
      ·exact h.elim
     ·exact Hi fS (rd h)
    ·exact h.elim
   ·split at h
    ·rename_i x y t t2 h1 h2
     simp only at h1 h2
     obtain⟨dst,op,ty,pos,after,guard⟩:=o
     cases fS
     show(match args.toList,argTypes.toList with
      | [s',x],[t,t2]=>e1 (cr (s.aI cf.n).T s')=true∧e1 (cr (s.aI cf.n).T x)=true∧tI P t t2 (cr (s.aI cf.n).T s') (cr (s.aI cf.n).T x) _ _ _
      | _,_=>False)
     simp only[h1,h2]
     rw[k3]
     exact Td aF aN hK h
    ·exact h.elim
   ·exact h.elim
  ·rename_i f hf
   cases hf
   split at h
   ·rename_i g caps hc
    rcases KS h with⟨m,e,hm⟩ | hm
    ·subst e
     obtain⟨dst,op,ty,pos,after,guard⟩:=o
     cases fS
     show lQ (cr (s.aI cf.n).T f) fun g caps=>li P g (args.toList.map (cr (s.aI cf.n).T)++caps) _ _ Kp
     rw[k3]
     show lQ (cN cf.n s f).bB fun g caps=>li P g (args.toList.map (fun x=>(cN cf.n s x).bB)++caps) _ _ Kp
     rw[hc]
     have:=T4 (n:=cf.n) aF aN (fun v s' Z' h1 h2 aO=>hK v s' Z' h1 h2 aO) hm
     rw[nP,List.map_append,List.map_map] at this
     show li P m.f (_++cP caps) _ _ Kp
     rw[nP];exact this
    ·rcases KT hm with⟨m,e,aG⟩ | hm
     ·subst e
      obtain⟨dst,op,ty,pos,after,guard⟩:=o
      cases fS
      show lQ (cr (s.aI cf.n).T f) fun g caps=>li P g (args.toList.map (cr (s.aI cf.n).T)++caps) _ _ Kp
      rw[k3]
      show lQ (cN cf.n s f).bB fun g caps=>li P g (args.toList.map (fun x=>(cN cf.n s x).bB)++caps) _ _ Kp
      rw[hc]
      have:=T_ (n:=cf.n) (Kp:=Kp) aF aN (fun v s' Z' h1 h2 aO=>hK v s' Z' h1 h2 aO) aG
      rw[nP,List.map_append,List.map_map] at this
      show li P m.f (_++cP caps) _ _ Kp
      rw[nP];exact this
     ·exact Hi fS (rd hm)
   ·exact h.elim
  ·exact h.elim
 ·rename_i h1 h2 aO bb cb cE gF
  exact Pb (rd h) (fun c=>gF c) (fun t m ps=>cb t m ps)
end
def uG (b:Bool):TV:= .b (match b with
 | true=> .t
 | false=> .f)
theorem NW (b:Bool):(uG b).bB= .bool b:=by cases b<;>rfl
def CE (x:ez) (s:TS) (K:Bool→TS→aU):aU:=match x with
 | .t=>K true s
 | .f=>K false s
 | x=> .iQ x s (K true ⟨[],s.T++s.B,s.vs,s.bn⟩) (K false ⟨[],s.T++s.B,s.vs,s.bn⟩)
def CO (d:Nat) (v:TV):TV:=match v with
 | .b x=>(match x with
  | .v p=> .b (.at d p)
  | x=> .b x)
 | v=>v
theorem ae2 (d:Nat) (v:TV):(CO d v).bB=v.bB:=by
 unfold CO
 split
 ·split<;>rfl
 ·rfl
def ko (n:Nat) (s:TS) (d:Option Nat) (v:TV):TS:=match d with
 | none=>s
 | some d=>match Nat.blt d n with
  | true=>s.put d (CO d v)
  | false=>s
theorem aeJ [FZ] {n:Nat} {s s':TS} (hv:s'.vs=s.vs) (hb:s'.bn=s.bn) (h: ∀k,s'.get k=s.get k):s'.aI n=s.aI n:=by
 have hc: ∀v c m,hQ s' v c m=hQ s v c m:=by
  intro v c m
  induction m generalizing c with
  | zero=>rfl
  | succ m bR=>rw[hQ,hQ,h _,bR]
 have aR:=IR (n:=n) hb (fun b=>h _) (h dH)
 have ct:s'.tT n=s.tT n:=by unfold TS.tT;simp only[h]
 have b0:s'.cs=s.cs:=by unfold TS.cs;simp only[hv,hc]
 show(⟨s'.tT n,s'.cs,(s'.aI n).H⟩:St)=_
 rw[ct,b0,aR];rfl
theorem R8 (s:TS) (k:Nat):TS.get ⟨[],s.T++s.B,s.vs,s.bn⟩ k=s.get k:=by unfold TS.get;simp only;rw[r1];rfl
theorem aeG [FZ] {n:Nat} (s:TS):TS.aI n ⟨[],s.T++s.B,s.vs,s.bn⟩=s.aI n:=aeJ rfl rfl (R8 s)
theorem IQ [FZ] {n:Nat} {x:ez} {s:TS} {K:Bool→TS→aU} {R:Exit→TS→Prop} (h:(CE x s K).den R): ∃s',s'.aI n=s.aI n∧(∀k,s'.get k=s.get k)∧(K x.den s').den R:=by
 have key:(aU.iQ x s (K true ⟨[],s.T++s.B,s.vs,s.bn⟩) (K false ⟨[],s.T++s.B,s.vs,s.bn⟩)).den R→ ∃s',s'.aI n=s.aI n∧(∀k,s'.get k=s.get k)∧(K x.den s').den R:=fun h=>by
  refine⟨_,aeG s,R8 s,?_⟩
  ·cases hx:x.den with
   | true=>exact h.1 hx
   | false=>exact h.2 hx
 cases x with
 | t=>exact⟨s,rfl,fun _=>rfl,h⟩
 | f=>exact⟨s,rfl,fun _=>rfl,h⟩
 | _=>exact key h
theorem Cj {s:TS} {d k:Nat} {v:TV} (h:d<1000000) (hk:1000000≤k):(s.put d v).get k=s.get k:=by rw[TS.Ex,if_neg (by omega)]
theorem G3 [FZ] {s:TS} {d:Nat} {v:TV} (h:d<1000000) (f:Fits s):Fits (s.put d v):=f.congr fun k h1 _=>Cj h h1
theorem OU {s:TS} {d:Nat} {v:TV} (h:d<1000000):(s.put d v).cs=s.cs:=by
 have hc: ∀e4 c m,hQ (s.put d v) e4 c m=hQ s e4 c m:=by
  intro e4 c m
  induction m generalizing c with
  | zero=>rfl
  | succ m bR=>rw[hQ,hQ,Cj h (by unfold eD;omega),bR]
 show s.vs.map _=s.vs.map _
 simp only[hc]
theorem OT [FZ] {n:Nat} {s:TS} {d:Nat} {v:TV} (h:d<1000000):((s.put d v).aI n).H=(s.aI n).H:=IR rfl (fun b=>Cj h (by unfold bA;omega)) (Cj h (by unfold dH;omega))
theorem zs [FZ] {n:Nat} (aF:n≤1000000) (s:TS) (d:Option Nat) (v:TV):(ko n s d v).aI n=⟨putA (s.aI n).T d v.bB,(s.aI n).L,(s.aI n).H⟩:=by
 cases d with
 | none=>rfl
 | some d=>
  unfold ko
  simp only
  split
  ·rename_i bg
   have bg:d<n:=by rw[←Nat.blt_eq];exact bg
   rw[←ae2 d v]
   generalize CO d v=v
   have ct:(s.put d v).tT n=(s.tT n).set d v.bB:=by
    apply List.ext_getElem?
    intro t
    show((List.range n).map fun t=>((s.put d v).get t).bB)[t]?=(((List.range n).map fun t=>(s.get t).bB).set d v.bB)[t]?
    rw[List.getElem?_set]
    simp only[List.getElem?_map,List.length_map,List.length_range]
    rcases Nat.lt_or_ge t n with h | h
    ·rw[List.getElem?_range h]
     simp only[Option.map_some]
     rw[TS.Ex]
     by_cases e:d=t
     ·simp[e,h]
     ·simp[e]
    ·rw[List.getElem?_eq_none (l:=List.range n) (by simpa using h)]
     by_cases e:d=t
     ·omega
     ·simp[e]
   have b0:=OU (s:=s) (v:=v) (show d<1000000 by omega)
   have aR:=OT (n:=n) (s:=s) (v:=v) (show d<1000000 by omega)
   show(⟨(s.put d v).tT n,(s.put d v).cs,((s.put d v).aI n).H⟩:St)=_
   rw[ct,b0,aR];rfl
  ·rename_i bg
   have bg: ¬d<n:=fun h=>by rw[←Nat.blt_eq] at h;rw[h] at bg;cases bg
   show s.aI n=⟨(s.aI n).T.set d v.bB,_,_⟩
   rw[List.set_eq_of_length_le]
   show((List.range n).map _).length≤d
   simp;omega
theorem zr [FZ] {n:Nat} (aF:n≤1000000) {s:TS} {d:Option Nat} {v:TV} (f:Fits s):Fits (ko n s d v):=by
 unfold ko
 split
 ·exact f
 ·split
  ·rename_i bg
   exact G3 (by rw[Nat.blt_eq] at bg;omega) f
  ·exact f
theorem OX [FZ] {n:Nat} {s:TS} {t:Nat} {v:TV} (bp:t<1000000) (h:(s.get t).bB=v.bB):(s.put t v).aI n=s.aI n:=by
 have ct:(s.put t v).tT n=s.tT n:=by
  unfold TS.tT
  refine List.map_congr_left fun k _=> ?_
  rw[TS.Ex];split
  ·rename_i e;subst e;exact h.symm
  ·rfl
 have b0:=OU (s:=s) (v:=v) bp
 have aR:=OT (n:=n) (s:=s) (v:=v) bp
 show(⟨(s.put t v).tT n,(s.put t v).cs,((s.put t v).aI n).H⟩:St)=_
 rw[ct,b0,aR];rfl
section
variable {P:Program} (cf:g_ P)
def Cd (c x y:Operand) (s:TS) (K:TV→TS→aU):aU:=match cN cf.n s c with
 | .b z=>CE z s fun b s=>
  let s:=match c with
   | .tmp t=>s.put t (uG b)
   | _=>s
  pn (cN cf.n s (bif b then x else y)) fun v=>K v s
 | _=> .no
def A8 (ops:Array Oper) (o:Oper) (s:TS) (run skip:TS→aU):aU:=match o.guard with
 | none=>run s
 | some g=>match(ops[g.1]?).bind (·.dst) with
  | none=> .no
  | some t=>match cN cf.n s (.tmp t) with
   | .b z=>CE z s fun b s=>bif b==g.2 then run (s.put t (uG b)) else skip (s.put t (uG b))
   | .tup c=>match c with
    | []=>skip s
    | _=> .no
   | _=> .no
def stepT (ey:p3 P) (o:Oper) (s:TS) (K:TV→TS→aU):aU:=match o.op with
 | .pick c x y=>Cd cf c x y s K
 | _=>CV cf s ey o K
def Cx (ey:p3 P) (ops:Array Oper):List Oper→TS→(TS→aU)→aU
 | [],s,K=>K s
 | o::r,s,K=>A8 cf ops o s (fun s=>stepT cf ey o s fun v s=>Cx ey ops r (ko cf.n s o.dst v) K) (fun s=>Cx ey ops r (ko cf.n s o.dst (.tup [])) K)
def En (ops:Array Oper) (s:TS):List Nat→aU→aU
 | [],k=>k
 | i::r,k=> .eq ((opI ops i).guard.isNone&&(opI ops i).dst.isSome) true (.eq (fun(Z:FZ) H Q=>lj P (opI ops i) (fun x=>(cN cf.n s x).bB) s.cs (@TS.gn Z s++H) Q) (fun _ _ Q=>Q (match(opI ops i).dst with
  | some d=>(cN cf.n s (.tmp d)).bB
  | none=> .undef)) (En ops s r k))
def ti (ey:p3 P) (ops:Array Oper):List Item→TS→(TS→aU)→aU
 | [],s,K=>K s
 | x::r,s,K=>A8 cf ops (opI ops x.i) s
   (fun s=>match x.q with
    | true=>(match pH (opI ops x.i) with
     | true=>(match(opI ops x.i).dst with
      | some d=> .eq (fun H Q=>lj P (opI ops x.i) (fun x=>(cN cf.n s x).bB) s.cs H Q) (fun _ Q=>Q (.fF d 0)) (ti ey ops r (ko cf.n s (opI ops x.i).dst (.lp d 0)) K)
      | none=> .no)
     | false=>(match(opI ops x.i).op with
      | .pick c a b=>Cd cf c a b s fun v s=>ti ey ops r (ko cf.n s (opI ops x.i).dst v) K
      | _=>sb cf s (opI ops x.i) fun v=>ti ey ops r (ko cf.n s (opI ops x.i).dst v) K))
    | false=>(match(opI ops x.i).op with
     | .pick _ _ _=> .no
     | _=>CV cf s ey (opI ops x.i) fun v s=>En cf ops s x.jx (ti ey ops r (ko cf.n s (opI ops x.i).dst v) K)))
   (fun s=>ti ey ops r (ko cf.n s (opI ops x.i).dst (.tup [])) K)
def Aa (P:Program) (ops:Array Oper):List Item→List (Nat×List TV)
 | []=>[]
 | x::r=>match x.q with
  | true=>(match(opI ops x.i).op with
   | .alloc e=>(match(opI ops x.i).dst with
    | some d=>(d,z_ P e)::Aa P ops r
    | none=>Aa P ops r)
   | _=>Aa P ops r)
  | false=>Aa P ops r
def Jo:List (Nat×List TV)→List (Nat×TV)
 | []=>[]
 | (d,c)::r=>tO d 0 c++Jo r
def DP (ey:p3 P) (ops:Array Oper) (ord:List Item) (j9:List (List Nat)) (s:TS) (K:TS→aU):aU:=
 let ix:=Aa P ops ord
 let s':=s.add (Jo ix) (ix.map (fun p=>(p.1,p.2.length))++s.vs) s.bn
 match pf (Jo ix) with
 | false=> .no
 | true=> .eq (P.follows .mixedOrders) true (.eq j9.length ops.size (.eq (vT ops ord (x2 j9)) true (.eq (ord.all (·.lit)) true (.eq s'.cs (ix.map (fun p=>(p.1,cP p.2))++s.cs)
  (.eq (tR (ix.map fun p=>(p.1,cP p.2)) s.cs) true (.eq (tH ops s.cs ord) true (ti cf ey ops ord s' K)))))))
end
section
variable {P:Program} {cf:g_ P} {R:Exit→TS→Prop}
theorem Gw {n t:Nat} {s:TS} {v:TV} (h:cN n s (.tmp t)=v) (hv:v≠ .u):t<n∧s.get t=v:=by
 have h:(match Nat.blt t n with
  | true=>s.get t
  | false=>TV.u)=v:=h
 split at h
 ·rename_i hb;exact⟨by rw[←Nat.blt_eq];exact hb,h⟩
 ·exact absurd h.symm hv
end
section
variable {P:Program} {cf:g_ P} {R:Exit→TS→Prop}
theorem abM {T:List AV} {t:Nat} {a:AV} (h:T.getD t .undef=a):T.set t a=T∨a= .undef:=by
 by_cases aL:t<T.length
 ·left
  rw[List.getD_eq_getElem?_getD,List.getElem?_eq_getElem aL] at h
  have h:T[t]=a:=h
  rw[←h];exact List.set_getElem_self ..
 ·right;rw[←h,List.getD_eq_getElem?_getD,List.getElem?_eq_none (by omega)];rfl
end
section
variable {P:Program} {cf:g_ P} {R:Exit→TS→Prop}
theorem aaI {o:Oper} {T:List AV} {K:AV→Prop} {AN:Prop} (h: ∀c x y,o.op≠ .pick c x y):uW true o T K AN=AN:=by
 unfold uW
 split
 ·rename_i c x y e;exact absurd e (h c x y)
 ·rfl
end
section
variable [Z:FZ] {P:Program} {cf:g_ P} {R:Exit→TS→Prop}
theorem K_ (aF:cf.n≤1000000) {ops:Array Oper} {o:Oper} {s:TS} {run skip:TS→aU} {x y:List AV→Prop} (aN:Fits s) (hx: ∀s',Fits s'→s'.aI cf.n=s.aI cf.n→(run s').den R→x (s.aI cf.n).T) (br: ∀s',Fits s'→s'.aI cf.n=s.aI cf.n→(skip s').den R→y (s.aI cf.n).T)
  (h:(A8 cf ops o s run skip).den R):nY ops true o (s.aI cf.n).T x y:=by
 unfold A8 at h
 unfold nY
 split at h
 ·rename_i hg;rw[hg];exact hx s aN rfl h
 ·rename_i g hg
  obtain⟨j,cC⟩:=g
  rw[hg]
  simp only at h ⊢
  split at h
  ·exact h.elim
  ·rename_i t bp
   rw[bp]
   simp only
   have ct:(s.aI cf.n).T.getD t .undef=(cN cf.n s (.tmp t)).bB:=by
    have:=congrFun (k3 cf.n s) (.tmp t);exact this
   split at h
   ·rename_i z qB
    rw[qB] at ct
    rw[ct]
    show pg true z.den _ _
    obtain⟨aL,hd⟩:=Gw qB (fun e=>by cases e)
    obtain⟨s',bx,e2,h⟩:=IQ (n:=cf.n) h
    have n7:Fits (s'.put t (uG z.den)):=G3 (by omega) (aN.congr fun k _ _=>e2 k)
    have rQ:(s'.put t (uG z.den)).aI cf.n=s.aI cf.n:=by
     rw[OX (by omega) (by rw[e2,hd,NW];rfl),bx]
    have k0: ∀b,z.den=b→(s.aI cf.n).T.set t (.bool b)=(s.aI cf.n).T:=fun b hb=>by
     rcases abM (show(s.aI cf.n).T.getD t .undef= .bool b by rw[ct,←hb];rfl) with q | q
     ·exact q
     ·cases q
    cases pE:z.den with
    | true=>
     rw[pE] at h rQ n7
     show if cC=true then _ else _
     rw[k0 true pE]
     cases cC with
     | true=>rw[if_pos rfl];exact hx _ n7 rQ h
     | false=>rw[if_neg (by simp)];exact br _ n7 rQ h
    | false=>
     rw[pE] at h rQ n7
     show if cC=true then _ else _
     rw[k0 false pE]
     cases cC with
     | true=>rw[if_pos rfl];exact br _ n7 rQ h
     | false=>rw[if_neg (by simp)];exact hx _ n7 rQ h
   ·rename_i c qB
    rw[qB] at ct
    split at h
    ·rw[ct];exact br s aN rfl h
    ·exact h.elim
   ·exact h.elim
theorem OC (aF:cf.n≤1000000) {c x y:Operand} {s:TS} {K:TV→TS→aU} {Kp:AV→Prop} (aN:Fits s) (hK: ∀v s',Fits s'→s'.aI cf.n=s.aI cf.n→(K v s').den R→Kp v.bB) (h:(Cd cf c x y s K).den R):
  oD (cr (s.aI cf.n).T c) fun z=>pg true z (Kp (cr (s.aI cf.n).T x)) (Kp (cr (s.aI cf.n).T y)):=by
 unfold Cd at h
 split at h
 ·rename_i z qB
  obtain⟨s',bx,e2,h⟩:=IQ (n:=cf.n) h
  simp only at h
  rw[qm] at h
  generalize By:(match c with
   | .tmp t=>s'.put t (uG z.den)
   | _=>s')=s2 at h
  have dS:s2.aI cf.n=s.aI cf.n:=by
   rw[←By,←bx]
   split
   ·rename_i t
    obtain⟨aL,hd⟩:=Gw qB (fun e=>by cases e)
    exact OX (by omega) (by rw[e2,hd,NW];rfl)
   ·rfl
  have hf2:Fits s2:=by
   rw[←By]
   split
   ·rename_i t
    obtain⟨aL,hd⟩:=Gw qB (fun e=>by cases e)
    exact G3 (by omega) (aN.congr fun k _ _=>e2 k)
   ·exact aN.congr fun k _ _=>e2 k
  have:=hK _ _ hf2 dS h
  have aC: ∀o,(cN cf.n s2 o).bB=cr (s.aI cf.n).T o:=fun o=>by rw[←dS,k3]
  rw[aC] at this
  have hc:cr (s.aI cf.n).T c= .bool z.den:=by
   have:=congrFun (k3 cf.n s) c
   rw[this]
   show(cN cf.n s c).bB=_
   rw[qB];rfl
  rw[hc]
  show pg true z.den _ _
  cases pE:z.den with
  | true=>rw[pE] at this;exact this
  | false=>rw[pE] at this;exact this
 ·exact h.elim
theorem aeO (aF:cf.n≤1000000) {ey:p3 P} {o:Oper} {s:TS} {K:TV→TS→aU} {Kp:AV→List (Nat×List AV)→List Blk→Prop} (aN:Fits s) (hK:vE cf s R K Kp) (h:(stepT cf ey o s K).den R):
  uW true o (s.aI cf.n).T (fun v=>Kp v (s.aI cf.n).L (s.aI cf.n).H) (kb P [] o (cr (s.aI cf.n).T) (s.aI cf.n).L (s.aI cf.n).H Kp):=by
 unfold stepT at h
 split at h
 ·rename_i c x y fS
  unfold uW
  rw[fS]
  exact OC aF (Kp:=fun v=>Kp v (s.aI cf.n).L (s.aI cf.n).H) aN (fun v s' hf e hv=>by
   have eT:s'.tT cf.n=s.tT cf.n:=congrArg St.T e
   have iO:s'.cs=s.cs:=congrArg St.L e
   have:=hK v s' Z hv hf eT
   rw[iO,e] at this;exact this) h
 ·rename_i cm
  rw[aaI fun c x y=>cm c x y]
  exact SA aF aN hK h
end
section
variable {P:Program} {cf:g_ P} {R:Exit→TS→Prop}
theorem Hn (aF:cf.n≤1000000) {ey:p3 P} {ops:Array Oper} {K:TS→aU} {Kp:List AV→List (Nat×List AV)→List Blk→Prop} (hK: ∀s (Z:FZ),(K s).den R→ @Fits Z s→Kp (s.tT cf.n) s.cs (@TS.aI Z cf.n s).H): ∀(l:List Oper) (Z:FZ) (s:TS),@Fits Z s→(Cx cf ey ops l s K).den R→
  evOps P [] ops (l.map fun o=>(o,true)) (s.tT cf.n) s.cs (@TS.aI Z cf.n s).H Kp
 | [],Z,s,aN,h=>hK s Z h aN
 | o::r,Z,s,aN,h=>by
  refine K_ (Z:=Z) aF aN (fun s' hf e h=> ?_) (fun s' hf e h=> ?_) h
  ·have iO:s'.cs=s.cs:=congrArg St.L e
   rw[←e,←iO]
   exact aeO (Z:=Z) aF (Kp:=fun v L' H'=>evOps P [] ops (r.map fun o=>(o,true)) (putA (s'.tT cf.n) o.dst v) L' H' Kp) hf (fun v s2 Z2 hv hf2 e2=>by
    have:=Hn aF hK r Z2 _ (@zr Z2 _ aF _ _ _ hf2) hv
    have dS:= @zs Z2 cf.n aF s2 o.dst v
    have eT:(ko cf.n s2 o.dst v).tT cf.n=putA (s2.tT cf.n) o.dst v.bB:=congrArg St.T dS
    have DW:(ko cf.n s2 o.dst v).cs=s2.cs:=congrArg St.L dS
    rw[eT,DW,dS] at this
    rw[←e2];exact this) h
  ·have:=Hn aF hK r Z _ (zr aF hf) h
   have dS:= @zs Z cf.n aF s' o.dst (.tup [])
   have eT:(ko cf.n s' o.dst (.tup [])).tT cf.n=putA (s'.tT cf.n) o.dst (.tup []):=congrArg St.T dS
   have DW:(ko cf.n s' o.dst (.tup [])).cs=s'.cs:=congrArg St.L dS
   rw[eT,DW,dS] at this
   have iM:s'.tT cf.n=s.tT cf.n:=congrArg St.T e
   have ij:s'.cs=s.cs:=congrArg St.L e
   rw[iM,ij,e] at this
   exact this
end
section
variable [Z:FZ] {P:Program} {cf:g_ P} {R:Exit→TS→Prop}
theorem KX {ops:Array Oper} {s:TS} {k:aU}: ∀{jx:List Nat},(En cf ops s jx k).den R→rz P ops jx (s.aI cf.n).T (s.aI cf.n).L (s.aI cf.n).H∧k.den R
 | [],h=>⟨trivial,h⟩
 | i::r,h=>by
  obtain⟨h1,h2,aO⟩:=h
  simp only[Bool.and_eq_true] at h1
  obtain⟨q1,q2⟩:=KX aO
  refine⟨⟨⟨h1.1,h1.2,?_⟩,q1⟩,q2⟩
  rw[k3]
  have:=congrFun (congrFun (congrFun h2 Z) (g0 s)) (fun v=>v=sy (opI ops i) (s.aI cf.n).T)
  have this:lj P (opI ops i) (fun x=>(cN cf.n s x).bB) (s.aI cf.n).L (s.aI cf.n).H (fun v=>v=sy (opI ops i) (s.aI cf.n).T)=_:=this
  rw[this]
  unfold sy
  cases(opI ops i).dst with
  | none=>rfl
  | some d=>
   have:=congrFun (k3 cf.n s) (.tmp d)
   exact this.symm
end
section
variable {P:Program} {cf:g_ P} {R:Exit→TS→Prop}
theorem aaX (Z:FZ) (aF:cf.n≤1000000) (s:TS) (d:Option Nat) (v:TV):(ko cf.n s d v).tT cf.n=putA (s.tT cf.n) d v.bB∧(ko cf.n s d v).cs=s.cs∧(@TS.aI Z cf.n (ko cf.n s d v)).H=(@TS.aI Z cf.n s).H:=by
 have dS:= @zs Z cf.n aF s d v
 exact⟨congrArg St.T dS,congrArg St.L dS,by rw[dS]⟩
theorem Pl (aF:cf.n≤1000000) {ey:p3 P} {ops:Array Oper} {K:TS→aU} {Kp:List AV→List (Nat×List AV)→List Blk→Prop} (hK: ∀s (Z:FZ),(K s).den R→ @Fits Z s→Kp (s.tT cf.n) s.cs (@TS.aI Z cf.n s).H): ∀(l:List Item) (Z:FZ) (s:TS),@Fits Z s→l.all (·.lit)=true→(ti cf ey ops l s K).den R→
  kc P [] ops l (s.tT cf.n) s.cs (@TS.aI Z cf.n s).H Kp
 | [],Z,s,aN,_,h=>hK s Z h aN
 | x::r,Z,s,aN,aL,h=>by
  simp only[List.all_cons,Bool.and_eq_true] at aL
  show nY ops x.lit (opI ops x.i) _ _ _
  rw[aL.1]
  have next: ∀(s' s2:TS) (Z2:FZ) (v:TV),@Fits Z2 s2→s2.tT cf.n=s'.tT cf.n→(ti cf ey ops r (ko cf.n s2 (opI ops x.i).dst v) K).den R→kc P [] ops r (putA (s'.tT cf.n) (opI ops x.i).dst v.bB) s2.cs (@TS.aI Z2 cf.n s2).H Kp:=fun s' s2 Z2 v hf e hv=>by
   have:=Pl aF hK r Z2 _ (@zr Z2 _ aF _ _ _ hf) aL.2 hv
   obtain⟨q1,q2,q3⟩:=aaX (cf:=cf) Z2 aF s2 (opI ops x.i).dst v
   rw[q1,q2,q3] at this
   rw[←e];exact this
  refine K_ (Z:=Z) aF aN (fun s' hf e h=> ?_) (fun s' hf e h=> ?_) h
  ·have iO:s'.cs=s.cs:=congrArg St.L e
   rw[←e,←iO]
   cases aj:x.q with
   | true=>
    rw[aj] at h
    show lj P (opI ops x.i) (cr (s'.aI cf.n).T) (s'.aI cf.n).L (s'.aI cf.n).H _
    cases a4:pH (opI ops x.i) with
    | true=>
     rw[a4] at h
     simp only at h
     split at h
     ·rename_i d bg
      obtain⟨h1,h2⟩:=h
      rw[k3]
      have:=congrFun (congrFun h1 (s'.aI cf.n).H) (fun v=>kc P [] ops r (putA (s'.aI cf.n).T (opI ops x.i).dst v) (s'.aI cf.n).L (s'.aI cf.n).H Kp)
      have this:lj P (opI ops x.i) (fun x=>(cN cf.n s' x).bB) (s'.aI cf.n).L (s'.aI cf.n).H (fun v=>kc P [] ops r (putA (s'.aI cf.n).T (opI ops x.i).dst v) (s'.aI cf.n).L (s'.aI cf.n).H Kp)=_:=this
      refine Eq.mpr this ?_
      exact next s' s' Z (.lp d 0) hf rfl h2
     ·exact h.elim
    | false=>
     rw[a4] at h
     rw[v5 a4]
     simp only at h
     split at h
     ·rename_i c a b fS
      have:=OC (Z:=Z) aF (Kp:=fun v=>kc P [] ops r (putA (s'.aI cf.n).T (opI ops x.i).dst v) (s'.aI cf.n).L (s'.aI cf.n).H Kp) hf (fun v s2 hf2 e2 hv=>by
       have:=next s' s2 Z v hf2 (congrArg St.T e2) hv
       have dS:s2.cs=s'.cs:=congrArg St.L e2
       rw[dS,e2] at this;exact this) h
      unfold jR
      rw[fS];exact this
     ·exact Pa hf (Kp:=fun v=>kc P [] ops r (putA (s'.aI cf.n).T (opI ops x.i).dst v) (s'.aI cf.n).L (s'.aI cf.n).H Kp) (fun v hv=>next s' s' Z v hf rfl hv) h
   | false=>
    rw[aj] at h
    simp only at h
    split at h
    ·exact h.elim
    ·exact SA (Z:=Z) aF hf (Kp:=fun v L' H'=>rz P ops x.jx (s'.tT cf.n) L' H'∧kc P [] ops r (putA (s'.tT cf.n) (opI ops x.i).dst v) L' H' Kp) (fun v s2 Z2 hv hf2 e2=>by
      obtain⟨q1,q2⟩:=KX (Z:=Z2) hv
      have q1:rz P ops x.jx (s2.tT cf.n) s2.cs (@TS.aI Z2 cf.n s2).H:=q1
      rw[e2] at q1
      exact⟨q1,next s' s2 Z2 v hf2 e2 q2⟩) h
  ·have:=next s' s' Z (.tup []) hf rfl h
   have iM:s'.tT cf.n=s.tT cf.n:=congrArg St.T e
   have ij:s'.cs=s.cs:=congrArg St.L e
   rw[iM,ij,e] at this
   exact this
end
end Go.Proofs.Ytglpfccgmfhkdaa.Fw
